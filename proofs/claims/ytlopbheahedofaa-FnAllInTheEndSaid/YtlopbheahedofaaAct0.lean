/- Rows of link acts that a call makes: what they read as, and what a draw leaves of them. Conditions: those of each theorem. -/
import Derived.Test.YtlopbheahedofaaDraw2
import Derived.Test.YtlopbheahedofaaLink1
import Derived.Laws.OwnMore
set_option linter.unusedVariables false
namespace Go.Proofs.Ytlopbheahedofaa.Fn
open Go Go.RowKit Go.Proofs.Ytlopbheahedofaa.Lib Go.Proofs.Ytlopbheahedofaa.Plan

def cla (l : List ALinkAct) : List Value := (l.map (fun a => [Value.int .i64 a.1, Value.int .i64 a.2.1, Value.string a.2.2])).flatten
theorem cla_snoc (l : List ALinkAct) (a : ALinkAct) : cla l ++ [.int .i64 a.1, .int .i64 a.2.1, .string a.2.2] = cla (l ++ [a]) := by simp [cla]
theorem cla_cons (x : ALinkAct) (l : List ALinkAct) : cla (x :: l) = .int .i64 x.1 :: .int .i64 x.2.1 :: .string x.2.2 :: cla l := rfl
theorem cla_three (l : List ALinkAct) : ∀ c ∈ l.map (fun a => [Value.int .i64 a.1, Value.int .i64 a.2.1, Value.string a.2.2]), c.length = 3 := by
  intro c hc
  obtain ⟨p, -, rfl⟩ := List.mem_map.1 hc
  rfl
theorem cla_at (l : List ALinkAct) (i t : Nat) (h : i < l.length) (ht : t < 3) : (cla l)[i * 3 + t]? = [Value.int .i64 l[i].1, Value.int .i64 l[i].2.1, Value.string l[i].2.2][t]? :=
  flatten_getElem? _ (cla_three l) i t _ (by simp [h]) ht
theorem cla_len (l : List ALinkAct) : (cla l).length = l.length * 3 := by
  unfold cla
  induction l with
  | nil => rfl
  | cons p l ih => simp only [List.map_cons, List.flatten_cons, List.length_append, List.length_cons, List.length_nil, ih]; omega
theorem cla_set : ∀ (l : List ALinkAct) (k : Nat) (h : k < l.length) (a : ALinkAct), (((cla l).set (k * 3) (.int .i64 a.1)).set (k * 3 + 1) (.int .i64 a.2.1)).set (k * 3 + 2) (.string a.2.2) = cla (l.set k a)
  | [], k, h, a => absurd h (Nat.not_lt_zero _)
  | x :: l, 0, h, a => rfl
  | x :: l, k + 1, h, a => by
    have ih := cla_set l k (by simpa using h) a
    rw [List.set_cons_succ, cla_cons, cla_cons, ← ih, show (k + 1) * 3 = k * 3 + 1 + 1 + 1 by omega]
    rfl
theorem infoAct : (Try.prog.info? 34).map (fun i => (i.zero, i.size, i.bytes)) = some (some (.agg #[.int .i64 0, .int .i64 0, .string ⟨#[]⟩]), 3, 32) := by kernel_rfl
theorem own_acts {w : World} {base E n : Nat} {v : Value} {xs : List ALinkAct} (h : w.ownsRow base E 3 v n (cla xs)) : RLinkAct.sl.rd True w (fun c => v.ownBlock = some c) xs [v] := by
  have hl : xs.length = n := by have := h.1; rw [cla_len] at this; omega
  rcases h.2 with ⟨rfl, rfl⟩ | ⟨g, cap, cur, rfl, hb, hg, hnc, _⟩
  · obtain rfl : xs = [] := List.eq_nil_of_length_eq_zero hl
    exact ⟨none, 0, rfl, Nat.le_refl _, Or.inl rfl⟩
  · subst hl
    refine ⟨_, cap, rfl, hnc, Or.inr ⟨g, 0, rfl, rfl, fun _ _ => False, fun _ _ h => h.elim, fun _ => ⟨fun o => h.frozenAt o, ?_⟩, fun j hj => ⟨[.int .i64 xs[j].1, .int .i64 xs[j].2.1, .string xs[j].2.2], ?_, fun t ht => ?_⟩⟩⟩
    · intros; exact False.elim ‹_›
    · have h2 : (Rec.int.pair Rec.str).rd True w (fun _ => False) (xs[j].2.1, xs[j].2.2) ([.int .i64 xs[j].2.1] ++ [.string xs[j].2.2]) := Rec.mkpair (A := Rec.int) (B := Rec.str) (Sa := fun _ => False) (Sb := fun _ => False) rfl rfl ⟨fun _ h => h, fun _ h => h, fun _ _ h => h.elim⟩
      exact Rec.mkpair (A := Rec.int) (B := Rec.int.pair Rec.str) (ca := [.int .i64 xs[j].1]) (Sa := fun _ => False) (Sb := fun _ => False) rfl h2 ⟨fun _ h => h, fun _ h => h, fun _ _ h => h.elim⟩
    · have ht' : t < 3 := ht
      have hu := cla_at xs j t hj ht'
      have ht3 : t < [Value.int .i64 xs[j].1, Value.int .i64 xs[j].2.1, Value.string xs[j].2.2].length := ht'
      rw [List.getElem?_eq_getElem ht3] at hu
      have hc := h.cells (g := g) rfl (j * 3 + t) _ hu
      rw [add_plain] at hc
      rw [show 0 + j * RLinkAct.k + t = j * 3 + t from by show 0 + j * 3 + t = j * 3 + t; omega, List.getElem?_eq_getElem ht3]
      exact hc
/-- A row of acts of the call's own. -/
structure ActsAt (w : World) (base : Nat) (v : Value) (acts : List ALinkAct) : Prop where
  own : w.ownsRow base 34 3 v acts.length (cla acts)
  txt : ∀ a ∈ acts, a.2.2.size ≤ 1001
theorem ActsAt.keep {w w2 : World} {base : Nat} {v : Value} {acts : List ALinkAct} (h : ActsAt w base v acts) (hk : ∀ b, b < w.heap.size → base ≤ b → w2.heap[b]? = w.heap[b]?) : ActsAt w2 base v acts :=
  ⟨ownsRow_of_block h.own (fun q hq => hk q (own_lt h.own hq).2 (own_lt h.own hq).1), h.txt⟩
theorem ActsAt.below {w w2 : World} {base : Nat} {v : Value} {acts : List ALinkAct} (h : ActsAt w base v acts) (hb : Below w.heap.size w w2) : ActsAt w2 base v acts := h.keep (fun b hl _ => hb.block b hl)
theorem ActsAt.but {w w2 : World} {base g : Nat} {v : Value} {acts : List ALinkAct} (h : ActsAt w base v acts) (hb : But (AtG g) w w2) (hg : g < base) : ActsAt w2 base v acts :=
  h.keep (fun b hl hle => hb.block b hl (fun e => by have e : b = g := e; omega))
theorem ActsAt.empty (w : World) {base : Nat} (hb : base ≤ w.heap.size) : ActsAt (w.alloc (.cells #[] 34)) base (.slice (some ⟨w.heap.size, 0, none⟩) 0 0) [] :=
  ⟨⟨by simp [cla], Or.inr ⟨w.heap.size, 0, #[], rfl, hb, heap_alloc_new w _, Nat.le_refl _, by unfold maxLen; omega, by simp, by simp [cla]⟩⟩, by simp⟩
theorem ActsAt.snoc {w : World} {base : Nat} {v : Value} {acts : List ALinkAct} {a : ALinkAct} {n : Nat} (h : w.ownsRow base 34 3 v (n + 1) (cla acts ++ [.int .i64 a.1, .int .i64 a.2.1, .string a.2.2])) (hn : n = acts.length) (ht : ∀ a ∈ acts, a.2.2.size ≤ 1001) (ha : a.2.2.size ≤ 1001) : ActsAt w base v (acts ++ [a]) := by
  rw [cla_snoc, hn] at h
  refine ⟨by rw [List.length_append]; exact h, fun x hx => ?_⟩
  rcases List.mem_append.1 hx with hx | hx
  · exact ht x hx
  · simp at hx; subst hx; exact ha
theorem ActsAt.wt {w : World} {base : Nat} {v : Value} {acts : List ALinkAct} (h : ActsAt w base v acts) (hn : acts.length ≤ 1000) : RLinkAct.sl.wt acts ≤ 1048576 := by
  have s : (acts.map RLinkAct.wt).sum ≤ acts.length * 1001 := by
    have : ∀ l : List ALinkAct, (∀ a ∈ l, a.2.2.size ≤ 1001) → (l.map RLinkAct.wt).sum ≤ l.length * 1001 := by
      intro l
      induction l with
      | nil => intro _; simp
      | cons x l ih =>
        intro hl
        have h1 := hl x (List.mem_cons_self ..)
        have h2 := ih (fun y hy => hl y (List.mem_cons_of_mem _ hy))
        have e : RLinkAct.wt x = 0 + (0 + x.2.2.size) := rfl
        rw [List.map_cons, List.sum_cons, List.length_cons, Nat.succ_mul, e]
        omega
    exact this acts h.txt
  show acts.length + _ ≤ _
  omega
theorem ActsAt.old {w w2 : World} {base : Nat} {v : Value} {acts : List ALinkAct} (h : ActsAt w base v acts) (hb : Below w.heap.size w w2) : RLinkAct.sl.rd False w2 (Old w2) acts [v] :=
  RLinkAct.sl.up (own_acts h.own) (fun b hq => (own_lt h.own hq).2) hb
theorem CurOK.low {w w' : World} {g base : Nat} {A : Option Addr} {n c : Nat} {t : Int} (h : CurOK w g A n c t) (hb : Below base w w') (hg : g < base) (hA : 0 < n → ∀ b o, A = some ⟨b, o, none⟩ → b < base) : CurOK w' g A n c t := by
  obtain ⟨k, s, h1, h2, h3, h4, h5, h6⟩ := h
  refine ⟨k, s, (hb.block g hg).trans h1, h2, h3, h4, h5, ?_⟩
  intro j hj
  obtain ⟨b, o, x, e, hne, hlt, hc, x1, x2⟩ := h6 j hj
  exact ⟨b, o, x, e, hne, Nat.lt_of_lt_of_le hlt hb.size, (hb.cell (p := ⟨b, o + j, none⟩) (hA (Nat.lt_of_le_of_lt (Nat.zero_le _) hj) b o e)).trans hc, x1, x2⟩
theorem _root_.Go.Proofs.Ytlopbheahedofaa.Lib.But.low {S : Nat → Prop} {w a b : World} (h : But S w a) (hb : Below w.heap.size a b) : But S w b :=
  ⟨hb.os.trans h.os, hb.tape.trans h.tape, hb.output.trans h.output, Nat.le_trans h.size hb.size, fun i hi hs => (hb.block i hi).trans (h.block i hi hs)⟩
end Go.Proofs.Ytlopbheahedofaa.Fn
