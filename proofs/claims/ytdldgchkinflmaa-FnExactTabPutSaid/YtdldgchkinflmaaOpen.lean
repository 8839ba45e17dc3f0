/- Arguments that read: what a value that may be handed in is. Conditions: none. -/
import Derived.Test.YtdldgchkinflmaaTerm
import Derived.Deep.Slices
import Derived.Lib.SmallJoins
import Derived.ChangeArms
set_option linter.unusedVariables false
namespace Go.Proofs.Ytdldgchkinflmaa.Lib
open Go.RowKit

section
variable {H : Type} {enc : TypeId × Value → H} {P : Program}
/-- Whatever reads, in so many steps, as a datum of type t is a value of this kind. -/
def OpensAt {α : Type} (enc : TypeId × Value → H) (P : Program) (n : Nat) (t : TypeId) (R : Rec α) : Prop :=
  ∀ (W : World) (cs : List Value) (x : DataW H × List MemPlace), DataW.trod enc P W 0 (fun _ => true) true n t cs = some x → ∃ a, R.rd False W (Old W) a cs ∧ R.ok a
theorem opens_int {n : Nat} {t : TypeId} (ht : P.underlying t = some (.int .i64)) : OpensAt enc P n t Rec.int := by
  intro W cs x h
  obtain ⟨a, rfl, _, hw⟩ := DataW.trod_int ht h
  refine ⟨a, Rec.int_rd _ _ _ _, ?_⟩
  simp [Lit.wf, IntKind.min, IntKind.max, IntKind.signed, IntKind.bits] at hw
  exact hw
theorem opens_bool {n : Nat} {t : TypeId} (ht : P.underlying t = some .bool) : OpensAt enc P n t Rec.bool := by
  intro W cs x h
  obtain ⟨a, rfl, _⟩ := DataW.trod_bool ht h
  exact ⟨a, Rec.bool_rd _ _ _ _, trivial⟩
theorem opens_str {n : Nat} {t : TypeId} (ht : P.underlying t = some .string) : OpensAt enc P n t Rec.str := by
  intro W cs x h
  obtain ⟨a, rfl, _, hz⟩ := DataW.trod_string ht h
  exact ⟨a, Rec.str_rd _ _ _ _, hz⟩
theorem opens_sl {α : Type} {R : Rec α} {n : Nat} {t e : TypeId} (ht : P.underlying t = some (.slice e)) (hk : P.cellsOf e = R.k) (hpos : 0 < R.k) (h : ∀ m, m < n → OpensAt enc P m e R) : OpensAt enc P n t R.sl := by
  intro W cs x hx
  rcases DataW.trod_slice ht hx with ⟨rfl, rfl⟩ | ⟨a, len, cap, elems, rest, m, rfl, rfl, rfl, _, hlc, hcm, hel, hi, _⟩
  · exact ⟨[], ⟨none, 0, rfl, Nat.le_refl _, Or.inl rfl⟩, Nat.zero_le _, fun x hx => by cases hx⟩
  · have hx : ∀ i, i < len → ∃ v cv, W.cells? 0 (a.add (i * R.k)) R.k = some cv ∧ R.rd False W (Old W) v cv ∧ R.ok v := by
      intro i hil
      have h0 := hi i hil
      rw [List.getElem?_eq_getElem (by omega)] at h0
      obtain ⟨cv, h1, h2⟩ := Option.bind_eq_some_iff.1 h0
      obtain ⟨v, h3, h4⟩ := h m (Nat.lt_succ_self _) W cv _ h2
      exact ⟨v, cv, by rw [← hk]; exact h1, h3, h4⟩
    have hg : ∀ (j : Nat) (hj : j < (List.ofFn fun i : Fin len => Classical.choose (hx i i.2)).length), ∃ cv, W.cells? 0 (a.add (j * R.k)) R.k = some cv ∧ R.rd False W (Old W) (List.ofFn fun i : Fin len => Classical.choose (hx i i.2))[j] cv ∧ R.ok (List.ofFn fun i : Fin len => Classical.choose (hx i i.2))[j] := by
      intro j hj
      rw [List.getElem_ofFn]
      exact Classical.choose_spec (hx j (by simpa using hj))
    have hl : (List.ofFn fun i : Fin len => Classical.choose (hx i i.2)).length = len := List.length_ofFn
    generalize (List.ofFn fun i : Fin len => Classical.choose (hx i i.2)) = xs at hg hl
    subst hl
    refine ⟨xs, ⟨_, _, rfl, hlc, ?_⟩, Nat.le_trans hlc hcm, fun y hy => ?_⟩
    · by_cases h0 : xs = []
      · exact Or.inl h0
      · have hp : 0 < xs.length := List.length_pos_iff.2 h0
        obtain ⟨cv, h1, _, _⟩ := hg 0 hp
        obtain ⟨_, hcl, hcc⟩ := World.cells?_some h1
        have hc0 := hcc 0 hpos
        rw [Nat.zero_mul, List.getElem?_eq_getElem (by omega)] at hc0
        obtain ⟨b, o, sp⟩ := a
        have hsp := World.cell?_spot hc0
        have hsp' : sp = none := by simpa [Addr.add] using hsp
        subst hsp'
        refine Or.inr ⟨b, o, rfl, ?_, fun _ => Old W, fun _ _ h => ⟨h, False.elim⟩, False.elim, fun j hj => ?_⟩
        · unfold World.cell? at hc0
          split at hc0
          · rename_i hb
            exact (Array.getElem?_eq_some_iff.1 hb).1
          · cases hc0
        · obtain ⟨cv, g1, g2, _⟩ := hg j hj
          obtain ⟨_, gl, gc⟩ := World.cells?_some g1
          refine ⟨cv, g2, fun t ht => ?_⟩
          rw [← gc t ht]
          congr 1
          unfold Addr.add
          split <;> split <;> simp_all [Nat.add_assoc]
    · obtain ⟨j, hj, rfl⟩ := List.getElem_of_mem hy
      obtain ⟨_, _, _, h⟩ := hg j hj
      exact h
/-- The fields from one on. -/
def OpensF {α : Type} (enc : TypeId × Value → H) (P : Program) (n : Nat) (fs : List Field) (off : Nat) (R : Rec α) : Prop :=
  ∀ (W : World) (cs : List Value), cs.length = off + R.k → (∀ f ∈ fs, ∃ x, DataW.trod enc P W 0 (fun _ => true) true n f.type ((cs.drop f.offset).take (P.cellsOf f.type)) = some x) → ∃ a, R.rd False W (Old W) a (cs.drop off) ∧ R.ok a
theorem opensF_one {α : Type} {R : Rec α} {n off : Nat} {f : Field} (ho : f.offset = off) (hk : P.cellsOf f.type = R.k) (h : OpensAt enc P n f.type R) : OpensF enc P n [f] off R := by
  intro W cs hl hf
  obtain ⟨x, hx⟩ := hf f (List.mem_singleton.2 rfl)
  rw [ho, hk, List.take_of_length_le (by rw [List.length_drop]; omega)] at hx
  exact h W _ _ hx
theorem opensF_cons {α β : Type} {A : Rec α} {B : Rec β} {n off : Nat} {f : Field} {fs : List Field} (ho : f.offset = off) (hk : P.cellsOf f.type = A.k) (h : OpensAt enc P n f.type A) (hr : OpensF enc P n fs (off + A.k) B) : OpensF enc P n (f :: fs) off (A.pair B) := by
  intro W cs hl hf
  obtain ⟨x, hx⟩ := hf f (List.mem_cons_self ..)
  rw [ho, hk] at hx
  obtain ⟨a, ha, oa⟩ := h W _ _ hx
  have hl' : cs.length = off + (A.k + B.k) := hl
  obtain ⟨b, hb, ob⟩ := hr W cs (by omega) (fun g hg => hf g (List.mem_cons_of_mem _ hg))
  refine ⟨(a, b), ⟨_, _, Old W, Old W, ?_, ha, hb, fun _ h => h, fun _ h => h, False.elim⟩, oa, ob⟩
  rw [← List.drop_drop, List.take_append_drop]
theorem opens_struct {α : Type} {R : Rec α} {n : Nat} {t : TypeId} {fs : Array Field} (ht : P.underlying t = some (.struct fs)) (hk : P.cellsOf t = R.k) (h : ∀ m, m < n → OpensF enc P m fs.toList 0 R) : OpensAt enc P n t R := by
  intro W cs x hx
  obtain ⟨xs, m, rfl, rfl, hl, hs, hf⟩ := DataW.trod_struct ht hx
  obtain ⟨a, ha, oa⟩ := h m (Nat.lt_succ_self _) W cs (by omega) (fun f hm => by
    obtain ⟨i, hi, rfl⟩ := List.getElem_of_mem hm
    have hi' : i < fs.size := by simpa using hi
    have h1 := hf i fs.toList[i] (by simp)
    rw [List.getElem?_eq_getElem (by omega)] at h1
    exact ⟨_, h1⟩)
  exact ⟨a, ha, oa⟩
theorem opens_term {t ts : TypeId} {f0 f1 f2 f3 : Field} (ht : P.underlying t = some (.struct #[f0, f1, f2, f3])) (hk : P.cellsOf t = 4) (hts : P.underlying ts = some (.slice t))
    (i0 : P.underlying f0.type = some (.int .i64)) (i1 : P.underlying f1.type = some (.int .i64)) (i2 : P.underlying f2.type = some .string) (i3 : f3.type = ts)
    (o0 : f0.offset = 0) (o1 : f1.offset = 1) (o2 : f2.offset = 2) (o3 : f3.offset = 3) (c0 : P.cellsOf f0.type = 1) (c1 : P.cellsOf f1.type = 1) (c2 : P.cellsOf f2.type = 1) (c3 : P.cellsOf f3.type = 1) (n : Nat) : OpensAt enc P n t Rec.term := by
  induction n using Nat.strongRecOn with
  | ind n ih =>
    have h : OpensAt enc P n t (Rec.int.pair (Rec.int.pair (Rec.str.pair Rec.term.sl))) :=
      opens_struct ht hk fun m hm => opensF_cons o0 c0 (opens_int i0) (opensF_cons o1 c1 (opens_int i1) (opensF_cons o2 c2 (opens_str i2) (opensF_one o3 c3 (by
        rw [i3]
        exact opens_sl hts hk (by decide) fun m' hm' => ih m' (by omega)))))
    intro W cs x hx
    obtain ⟨⟨k, nn, s, ks⟩, ⟨_, _, _, _, rfl, rfl, ⟨_, _, _, _, rfl, rfl, ⟨_, _, _, S4, rfl, rfl, hks, _, h4, _⟩, _, h3, _⟩, _, h2, _⟩, hk0, hn0, hs, hok⟩ := h W cs x hx
    have hks' := Rec.term.sl.mono hks (fun b hb => h2 b (h3 b (h4 b hb)))
    refine ⟨.mk k nn s ks, ?_, Rec.term_ok.2 ⟨hk0, hn0, hs, hok⟩⟩
    obtain ⟨A, cap, rfl, hc, hsl⟩ := hks'
    exact Rec.term_iff.2 ⟨A, cap, rfl, A, cap, rfl, hc, hsl⟩
/-- A struct that is handed in. -/
theorem opens_agg {α : Type} {R : Rec α} {r : Reach} {W : World} {b0 : Nat} {t : TypeId} {fs : Array Field} {v : Value} {d : DataW H} {p : List MemPlace} (hs : P.underlying t = some (.struct fs)) (h : ∀ n, OpensAt enc P n t R)
    (hv : Value.okWide P W r b0 t v) (hd : DataW.Trod enc P W 0 (fun _ => true) true t v d p) : ∃ a cs, v = .agg cs.toArray ∧ R.rd False W (Old W) a cs ∧ R.ok a := by
  obtain ⟨cs, rfl, _⟩ := Go.WideShapes.okWide_struct hs hv
  obtain ⟨n, hn⟩ := hd
  obtain ⟨a, h1, h2⟩ := h n W _ _ hn
  exact ⟨a, cs.toList, by simp, h1, h2⟩
/-- A slice that is handed in. -/
theorem opens_slice {α : Type} {R : Rec α} {W : World} {t : TypeId} {v : Value} {d : DataW H} {p : List MemPlace} (h : ∀ n, OpensAt enc P n t R.sl)
    (hd : DataW.Trod enc P W 0 (fun _ => true) true t v d p) (hva : ∀ cs, v ≠ .agg cs) : ∃ a, R.sl.rd False W (Old W) a [v] ∧ R.sl.ok a := by
  obtain ⟨n, hn⟩ := hd
  obtain ⟨a, h1, h2⟩ := h n W _ _ hn
  refine ⟨a, ?_, h2⟩
  cases v with
  | agg cs => exact absurd rfl (hva cs)
  | _ => exact h1
end
end Go.Proofs.Ytdldgchkinflmaa.Lib
