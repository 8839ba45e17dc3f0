/- The builtin copy over values of several cells; a row with one more value at a place. slices.Insert of one term; copyTerms with the room that it makes. A row with one more value at a place, or with another value at a place, in memory. slices.ContainsFunc with TabPut's closure. The copied rows, or none; slices.Insert of one term into them. Conditions: those of each theorem. -/
import Derived.Test.YtdldgchkinflmaaEnv
import Derived.Laws.CopyOwn
import Derived.Lib.AppendZeros
import Derived.Test.YtdldgchkinflmaaCopy
import Derived.Test.YtdldgchkinflmaaRec
import Derived.Test.YtdldgchkinflmaaTGa
import Derived.Test.YtdldgchkinflmaaPlanW
section
set_option linter.unusedVariables false
namespace Go.Proofs.Ytdldgchkinflmaa.Lib
open Go Go.RowKit

theorem copy_at {P : Program} (w : World) (dT sT ty elem : TypeId) (i : TypeInfo) (hu : P.underlying dT = some (.slice elem)) (hi : P.info? elem = some i) (g o dLen dCap : Nat) (a : Addr) (sLen sCap : Nat) (cur : Array Value) (t : TypeId) (n : Nat) (cs : List Value)
    (hn : n = Nat.min sLen dLen) (hcs : cs.length = n * i.size) (hg : w.heap[g]? = some (.cells cur t (0, 0)))
    (hsrc : ∀ j v, cs[j]? = some v → w.cell? (a.add j) = some v) (hfit : o + cs.length ≤ cur.size) (h1 : ∀ v ∈ cs, v.oneCell' = true) :
    (Builtin.copy_ #[dT, sT] ty #[.slice (some ⟨g, o, none⟩) dLen dCap, .slice (some a) sLen sCap]).run P w =
      .ok (goInt n) (w.setRow g (cur.toList.take o ++ cs ++ cur.toList.drop (o + cs.length)).toArray) := by
  have hl := run_loadCells_list (P := P) w a cs hsrc
  have hst := run_storeCells_at P g o t cs 0 cur w hg (by simpa using hfit) h1
  rw [hcs] at hl
  simp [Builtin.copy_, run_underlying hu, Builtin.lenOf, Builtin.firstCells, sizeOf, typeInfo, hi, ← hn, hl, hst]
def spl (L : List Value) (o : Nat) (cs : List Value) : List Value := L.take o ++ cs ++ L.drop (o + cs.length)
theorem spl_mid {A B B' C : List Value} {o : Nat} (ho : o = A.length) (h : B'.length = B.length) : spl (A ++ B ++ C) o B' = A ++ B' ++ C := by
  subst ho
  unfold spl
  rw [List.append_assoc A B C, List.take_left, h, ← List.append_assoc A B C, show A.length + B.length = (A ++ B).length by rw [List.length_append], List.drop_left]
theorem spl_two {A Z C rc X : List Value} {o q : Nat} (ho : o = A.length) (hZ : Z.length = rc.length + X.length) (hq : q = o + rc.length) : spl (spl (A ++ Z ++ C) o rc) q X = A ++ rc ++ X ++ C := by
  have e : A ++ Z ++ C = A ++ Z.take rc.length ++ (Z.drop rc.length ++ C) := by
    rw [List.append_assoc A, List.append_assoc A, ← List.append_assoc (Z.take _), List.take_append_drop]
  rw [e, spl_mid ho (by rw [List.length_take]; omega)]
  have e2 : A ++ rc ++ (Z.drop rc.length ++ C) = (A ++ rc) ++ Z.drop rc.length ++ C := by simp
  rw [e2, spl_mid (by rw [List.length_append]; omega) (by rw [List.length_drop]; omega)]
/-- append of zeros onto a slice that has no room for them. -/
theorem run_append_grow_zeros {P : Program} (w : World) (t tn ty e : TypeId) (i : TypeInfo) (z : Value) (k kn : IntKind) (ht : P.underlying t = some (.slice e)) (htn : P.underlying tn = some (.int kn)) (hi : P.info? e = some i) (hz : i.zero = some z)
    (b : Addr) (sLen sCap : Nat) (olds : List Value) (hlo : olds.length = sLen * i.size) (holds : ∀ j v, olds[j]? = some v → w.cell? (b.add j) = some v)
    (n : Nat) (h0 : 0 < n) (hs : 0 < i.size) (hg : sCap < sLen + n) (hsm : sLen + n ≤ 1048576) (hby : i.bytes ≤ 1048576) :
    (Builtin.append_ #[t, tn] ty #[.slice (some b) sLen sCap, .int k n]).run P w =
      .ok (.slice (some ⟨w.heap.size, 0, none⟩) (sLen + n) (grownCap w (sLen + n) sCap e)) (w.drew.alloc (.cells (olds.toArray ++ Builtin.zeroCells z.cells n ++ Builtin.zeroCells z.cells (grownCap w (sLen + n) sCap e - (sLen + n))) e)) := by
  have hn : ¬ (sLen + n ≤ sCap) := by omega
  have hw : IntKind.i64.wrap (n : Int) = n := by rw [IntKind.wrap_i64]; omega
  have h63' : ¬ (9223372036854775807 < ((sLen : Int) + (n : Int))) := by omega
  have hnb : n * i.bytes ≤ 1048576 * 1048576 := Nat.mul_le_mul (by omega) hby
  have hfit : Builtin.nextslicecap (sLen + n) sCap * i.bytes ≤ 281474976710656 := growslice_fits hg (by
    have : (sLen + n) * i.bytes ≤ 1048576 * 1048576 := Nat.mul_le_mul hsm hby
    omega)
  have h48' : ¬ (281474976710656 < Builtin.nextslicecap (sLen + n) sCap * i.bytes) := by omega
  have h48i : ¬ (281474976710656 < (n : Int) * (i.bytes : Int)) := by
    rw [← Int.natCast_mul]
    omega
  have hneg : ¬ ((n : Int) < 0) := by omega
  have hns : ¬ (n * i.size = 0) := Nat.mul_ne_zero (by omega) (by omega)
  have hfo := run_firstCells_some (P := P) w.drew i.size sLen b sLen sCap olds hlo (by simpa using holds)
  simp [Builtin.append_, run_underlying ht, run_underlying htn, sizeOf, typeInfo, zeroValue, hi, hz, asInt, asIntOf, hw, hn, hneg, hns, h63', h48', h48i, Question.forced, hfo, newRow, grownCap]
theorem exec_copy {P : Program} {N : Nat} {a : Act} {us : List (Nat × Value)} {d : Nat} {ty t t2 : TypeId} {pos : String} {af} {w w' : World} {v v2 r : Value} (s x : Operand) (hs : Plan.look N a us s = v) (hx : Plan.look N a us x = v2) (hr : (Builtin.copy_ #[t, t2] ty #[v, v2]).run P w = .ok r w') :
    (execOp (Plan.look N a us) ⟨some d, .call { callee := .builtin .copy, args := #[s, x], argTypes := #[t, t2] }, ty, pos, af, none⟩).run P w = .ok (.value r) w' := by
  unfold execOp
  simp only [resolve, invoke, builtin, Sem.run_bind, Sem.run_pure, Result.andThen_ok, List.map_toArray, List.map_cons, List.map_nil, hs, hx, hr]
theorem wpList_copy_run {P : Program} (w : World) {ops : Array Oper} {rest : List Oper} {o : Oper} {a : Act} {Q : Exit → Act → World → Prop} (hgd : o.guard = none) (s x : Operand) (t tn : TypeId)
    (ho : o.op = .call { callee := .builtin .copy, args := #[s, x], argTypes := #[t, tn] }) (vs vx : Value) (hs : a.eval s = vs) (hx : a.eval x = vx)
    (v' : Value) (w' : World) (hr : (Builtin.copy_ #[t, tn] o.type #[vs, vx]).run P w = .ok v' w') (h : wpList P ops Q rest (a.put o.dst v') w') : wpList P ops Q (o :: rest) a w :=
  wpList_plain hgd fun _ hK => by
    unfold Oper.wp execOp
    simp only [ho, resolve, invoke, builtin, Sem.run_bind, Sem.run_pure, Result.andThen_ok, List.map_toArray, List.map_cons, List.map_nil, hs, hx, hr]
    exact hK _ _ h
end Go.Proofs.Ytdldgchkinflmaa.Lib
end
section
set_option linter.unusedVariables false
namespace Go.Proofs.Ytdldgchkinflmaa.Fn
open Go Go.RowKit Go.Proofs.Ytdldgchkinflmaa.Lib Go.Proofs.Ytdldgchkinflmaa.Plan
attribute [local go_sem] look_tmp look_const look_func look_global lookT_nil lookT_hit lookT_miss

set_option maxRecDepth 100000 in
set_option maxHeartbeats 1000000 in
/-- copyTerms: the row that is made has room for the values alone. -/
theorem copyTermsC (xs : List T) (v : Value) (w : World) (hn : Rec.term.sl.wt xs ≤ 1073741824) (hv : Rec.term.sl.rd False w (Old w) xs [v]) :
    Calls Try.prog 81 #[v] w fun e w2 => Below w.heap.size w w2 ∧ ((xs = [] ∧ e = .returned (.slice none 0 0)) ∨ (0 < xs.length ∧ e = .returned (.slice (some ⟨w.heap.size, 0, none⟩) xs.length xs.length) ∧ Copied Rec.term 26 w w2 xs xs.length xs.length)) := by
  obtain ⟨i0, hi, hz0, hz1, hz2⟩ := info_parts infoTerm
  have HI := Aside.mk hi
  obtain ⟨ao, cap, he, hcap, hao⟩ := hv
  injection he with he _
  subst he
  have HIH : Aside (∀ x ∈ xs, CopyOK 90 x) := ⟨fun x _ => copyTerm x⟩
  have HS := Aside.mk (fun (j : Nat) (h : j < xs.length) => Nat.le_trans (wt_le Rec.term xs j h) (Nat.le_trans (Nat.le_add_left _ _) hn))
  have HA := Aside.mk hao
  have hn1 : xs.length ≤ 1073741824 := Nat.le_trans (Nat.le_add_right _ _) hn
  obtain ⟨n, hl⟩ : ∃ n, n = xs.length := ⟨_, rfl⟩
  have HL := Aside.mk hl
  rw [← hl] at hn1 hcap ⊢
  clear hi hao hn hl
  by_cases hn0 : n = 0
  · subst hn0
    have hx : Aside (xs = []) := ⟨List.eq_nil_of_length_eq_zero HL.out.symm⟩
    go_enter Try.func81, Try.ntmps81
    go_wp2_with fail
    go_ret
    first | exact ⟨Below.refl _ _, Or.inl ⟨hx.out, rfl⟩⟩ | exact ⟨Below.refl _ _, hx.out, rfl⟩
  have hn2 : (n == 0) = false := by simpa using hn0
  have hn3 : ((n : Int) == 0) = false := by simpa using hn0
  have HPOS : Aside (0 < n) := ⟨by omega⟩
  clear hn0
  go_enter Try.func81, Try.ntmps81
  go_wp2_with (at_make; refine wpList_make_full _ rfl _ _ 24 rfl w.heap.size 26 i0 (.agg #[.int .i64 0, .int .i64 0, .string ⟨#[]⟩, .slice none 0 0]) 4 Try.underlying24 HI.out hz0 hz1 .i64 .i64 _ _ n rfl rfl rfl rfl ?sd1 ?sd2 ?sd3 ?_)
  case sd1 => first | omega | (rw [hz2]; omega)
  case sd2 => unfold maxLen; omega
  try (case sd3 => exact Nat.le_refl _)
  intro w1 hown hgr
  have hown2 : w1.ownsRow w.heap.size 26 Rec.term.k (.slice (some ⟨w.heap.size, 0, none⟩) n n) n _ := hown
  have HT := Aside.mk (Copied.start (R := Rec.term) (xs := xs) hown2 hgr)
  clear hown hown2 hgr HI hz0 hz1 hz2
  go_wp2_with fail
  go_loopw [14] (fun i wr => ∃ k : Nat, k ≤ n ∧ i = .int .i64 k ∧ Aside (Copied Rec.term 26 w wr xs n k)) (fun i _ => n - (intOf i).toNat)
  case atStart => exact ⟨0, Nat.zero_le _, rfl, HT⟩
  case round =>
    obtain ⟨k, hk, rfl, ht⟩ := hrel
    clear HT
    by_cases hlt : k < n
    · have hlt2 : k < xs.length := by rw [← HL.out]; exact hlt
      rcases HA.out with h0 | ⟨b, o, rfl, hb, f, hf, -, hrow⟩
      · exfalso; rw [h0] at hlt2; exact absurd hlt2 (Nat.not_lt_zero _)
      obtain ⟨cs, hr, hc⟩ := hrow k hlt2
      obtain ⟨c0, c1, c2, c3a, c3b, c3c, rfl⟩ := shapeTerm hr
      have hbel := ht.out.choose_spec.2.2.1
      have d0 : wr.cell? ⟨b, o + k * 4, none⟩ = some (.int .i64 c0) := (hbel.cell (p := ⟨b, o + k * 4 + 0, none⟩) hb).trans (hc 0 (by decide))
      have d1 : wr.cell? ⟨b, o + k * 4 + 1, none⟩ = some (.int .i64 c1) := (hbel.cell (p := ⟨b, o + k * 4 + 1, none⟩) hb).trans (hc 1 (by decide))
      have d2 : wr.cell? ⟨b, o + k * 4 + 2, none⟩ = some (.string c2) := (hbel.cell (p := ⟨b, o + k * 4 + 2, none⟩) hb).trans (hc 2 (by decide))
      have d3 : wr.cell? ⟨b, o + k * 4 + 3, none⟩ = some (.slice c3a c3b c3c) := (hbel.cell (p := ⟨b, o + k * 4 + 3, none⟩) hb).trans (hc 3 (by decide))
      have HR := Aside.mk (Rec.term.up (Rec.term.mono hr (fun c hc => (hf k c hc).1)) (fun _ h => h) (hbel.alloc hbel.size (.cells #[.int .i64 c0, .int .i64 c1, .string c2, .slice c3a c3b c3c] 26)))
      clear hc hrow hf hbel hr
      go_wp2_with fail
      refine (HIH.out xs[k] (List.getElem_mem hlt2) [.int .i64 c0, .int .i64 c1, .string c2, .slice c3a c3b c3c] _ HR.out (HS.out k hlt2)).mono ?_
      rintro e w2 ⟨cs2, rfl, hr2, hb2⟩
      obtain ⟨v0, v1, v2, v3a, v3b, v3c, rfl⟩ := shapeTerm hr2
      have hr3 : Rec.term.rd True w2 (Span wr.heap.size w2.heap.size) xs[k] _ := Rec.term.mono hr2 (fun b h => ⟨by have := h.1; simp at this; omega, h.2⟩)
      have hb3 : Below wr.heap.size wr w2 := below_later (by go_grown) hb2
      obtain ⟨hcell, hfree⟩ := ht.out.blk hb3 hlt
      have HT2 := Aside.mk (ht.out.next hb3 HL.out.symm hlt2 hr3)
      obtain ⟨x0, y0⟩ : ∃ x, w2.cell? ⟨w.heap.size, k * 4, none⟩ = some x := hcell 0 (by decide)
      have z0 := hfree (k * 4)
      obtain ⟨x1, y1⟩ : ∃ x, w2.cell? ⟨w.heap.size, k * 4 + 1, none⟩ = some x := hcell 1 (by decide)
      have z1 := hfree (k * 4 + 1)
      obtain ⟨x2, y2⟩ : ∃ x, w2.cell? ⟨w.heap.size, k * 4 + 2, none⟩ = some x := hcell 2 (by decide)
      have z2 := hfree (k * 4 + 2)
      obtain ⟨x3, y3⟩ : ∃ x, w2.cell? ⟨w.heap.size, k * 4 + 3, none⟩ = some x := hcell 3 (by decide)
      have z3 := hfree (k * 4 + 3)
      clear hcell hfree hr2 hr3 hb2 hb3 ht d0 d1 d2 d3 HR
      go_wp2_with fail
      go_roundw
      case rel => exact ⟨k + 1, by omega, by go_num, HT2⟩
      case measure => first | (simp [intOf]; done) | (simp [intOf]; omega)
    · obtain rfl : k = n := by omega
      go_wp2_with fail
      go_ret
      exact ⟨ht.out.choose_spec.2.2.1, Or.inr ⟨HPOS.out, rfl, ht.out⟩⟩
set_option maxRecDepth 100000 in
set_option maxHeartbeats 4000000 in
/-- slices.Insert of one term into a row with room for its values alone. -/
theorem insertAt (g n i gv : Nat) (cs rc : List Value) (w : World) (hk : Blk w g 26 cs) (hl : cs.length = n * 4) (hi : i ≤ n) (hn0 : 0 < n) (hn : n ≤ 500) (hv : Blk w gv 26 rc) (hr : rc.length = 4) (h1 : ∀ u ∈ cs, u.oneCell' = true) (h2 : ∀ u ∈ rc, u.oneCell' = true) :
    Calls Try.prog 94 #[.slice (some ⟨g, 0, none⟩) n n, .int .i64 i, .slice (some ⟨gv, 0, none⟩) 1 1] w
      fun e w2 => ∃ g2 cap pad, e = .returned (.slice (some ⟨g2, 0, none⟩) (n + 1) cap) ∧ n + 1 ≤ cap ∧ Blk w2 g2 26 (cs.take (i * 4) ++ rc ++ cs.drop (i * 4) ++ pad) ∧ w.heap.size ≤ g2 ∧ Below w.heap.size w w2 := by
  obtain ⟨i0, hi0, iz0, iz1, iz2⟩ := info_parts infoTerm
  have HK := Aside.mk hk
  have HV := Aside.mk hv
  have cellsV : ∀ j u, rc[j]? = some u → w.cell? ((⟨gv, 0, none⟩ : Addr).add j) = some u := fun j u h => by rw [add_plain]; exact (hv.cell j).trans h
  have cellsG : ∀ o j u, (cs.drop o)[j]? = some u → w.cell? ((⟨g, o, none⟩ : Addr).add j) = some u := fun o j u h => by
    have hadd : (⟨g, o, none⟩ : Addr).add j = ⟨g, o + j, none⟩ := by unfold Addr.add; split <;> simp_all
    rw [hadd]
    rw [List.getElem?_drop] at h
    exact (hk.cell _).trans h
  by_cases he : i = n
  · subst he
    have hrun := run_append_grow (P := Try.prog) w 24 24 26 i0 _ Try.underlying24 hi0 iz0 ⟨g, 0, none⟩ i i cs (by rw [iz1]; exact hl) (fun j u h => cellsG 0 j u (by simpa using h)) ⟨gv, 0, none⟩ 1 1 rc (by rw [iz1, hr]) cellsV (by omega) (by omega) (growslice_fits (by omega) (by rw [iz2]; omega))
    have hge := grownCap_ge w (i + 1) i 26
    obtain ⟨X, hX⟩ : ∃ X, X = cs.toArray ++ rc.toArray ++ Builtin.zeroCells (Value.agg #[.int .i64 0, .int .i64 0, .string ⟨#[]⟩, .slice none 0 0]).cells (grownCap w (i + 1) i 26 - (i + 1)) := ⟨_, rfl⟩
    rw [← hX] at hrun
    have hb := Blk.made w.drew 26 X.toList (g := w.heap.size) rfl
    rw [Array.toArray_toList] at hb
    have HRUN := Aside.mk hrun
    have HB := Aside.mk hb
    have HX := Aside.mk hX
    have hli : cs.take (i * 4) = cs := List.take_of_length_le (by omega)
    have hld : cs.drop (i * 4) = [] := List.drop_of_length_le (by omega)
    have HLI := Aside.mk hli
    have HLD := Aside.mk hld
    clear cellsV cellsG hk hv hrun hb hX hli hld h1 h2
    go_enter Try.func94, Try.ntmps94
    go_wp2_with (at_builtin; refine Go.Lib.wpList_append_run _ rfl _ _ _ _ rfl _ _ rfl rfl _ _ HRUN.out ?_)
    all_goals go_ret
    all_goals exact ⟨w.heap.size, _, (Builtin.zeroCells (Value.agg #[.int .i64 0, .int .i64 0, .string ⟨#[]⟩, .slice none 0 0]).cells (grownCap w (i + 1) i 26 - (i + 1))).toList, rfl, hge, by
      have e : X.toList = cs ++ rc ++ (Builtin.zeroCells (Value.agg #[.int .i64 0, .int .i64 0, .string ⟨#[]⟩, .slice none 0 0]).cells (grownCap w (i + 1) i 26 - (i + 1))).toList := by rw [HX.out]; simp
      have h := HB.out
      rw [e] at h
      rw [HLI.out, HLD.out, List.append_nil]
      exact h, Nat.le_refl _, (Below.refl _ _).drew.alloc (Nat.le_refl _) _⟩
  · have hin : i < n := by omega
    have hii : (i : Int) < n := by omega
    have hne : ¬ (i : Int) = n := by omega
    have hnb : ((i : Int) == (n : Int)) = false := by simpa using hne
    obtain ⟨q, hq⟩ : ∃ q, q = n + 1 - i := ⟨_, rfl⟩
    have hqi : (n : Int) + 1 - (i : Int) = (q : Int) := by omega
    have HQ := Aside.mk hq
    have hrun := run_append_grow_zeros (P := Try.prog) w 24 3 24 26 i0 _ .i64 .i64 Try.underlying24 Try.underlying3 hi0 iz0 ⟨g, 0, none⟩ i n (cs.take (i * 4)) (by rw [iz1, List.length_take]; omega) (fun j u h => cellsG 0 j u (by
      have : j < (cs.take (i * 4)).length := (List.getElem?_eq_some_iff.1 h).1
      rw [List.length_take] at this
      rw [List.getElem?_take_of_lt (by omega)] at h
      simpa using h)) q (by omega) (by rw [iz1]; decide) (by omega) (by omega) (by rw [iz2]; decide)
    have hge0 := grownCap_ge w (i + q) n 26
    obtain ⟨cap, hcap⟩ : ∃ c, c = grownCap w (i + q) n 26 := ⟨_, rfl⟩
    rw [← hcap] at hrun hge0
    obtain ⟨X, hX⟩ : ∃ X, X = (cs.take (i * 4)).toArray ++ Builtin.zeroCells (Value.agg #[.int .i64 0, .int .i64 0, .string ⟨#[]⟩, .slice none 0 0]).cells q ++ Builtin.zeroCells (Value.agg #[.int .i64 0, .int .i64 0, .string ⟨#[]⟩, .slice none 0 0]).cells (cap - (i + q)) := ⟨_, rfl⟩
    rw [← hX] at hrun
    obtain ⟨Z, hZ⟩ : ∃ Z, Z = (Builtin.zeroCells (Value.agg #[.int .i64 0, .int .i64 0, .string ⟨#[]⟩, .slice none 0 0]).cells q).toList := ⟨_, rfl⟩
    obtain ⟨pad, hpad⟩ : ∃ Z, Z = (Builtin.zeroCells (Value.agg #[.int .i64 0, .int .i64 0, .string ⟨#[]⟩, .slice none 0 0]).cells (cap - (i + q))).toList := ⟨_, rfl⟩
    have hXl : X.toList = cs.take (i * 4) ++ Z ++ pad := by rw [hX, hZ, hpad]; simp
    have hZl : Z.length = q * 4 := by rw [hZ, Array.length_toList, size_zeroCells]; rfl
    have hpl : pad.length = (cap - (i + q)) * 4 := by rw [hpad, Array.length_toList, size_zeroCells]; rfl
    have hb := Blk.made w.drew 26 X.toList (g := w.heap.size) rfl
    rw [Array.toArray_toList, hXl] at hb
    obtain ⟨w1, hw1⟩ : ∃ x, x = w.drew.alloc (.cells X 26) := ⟨_, rfl⟩
    rw [← hw1] at hrun hb
    have hB1 : Below w.heap.size w w1 := by rw [hw1]; exact (Below.refl _ _).drew.alloc (Nat.le_refl _) _
    have htl : (cs.take (i * 4)).length = i * 4 := by rw [List.length_take]; omega
    have hLl : (cs.take (i * 4) ++ Z ++ pad).length = cap * 4 := by rw [List.length_append, List.length_append, htl, hZl, hpl]; omega
    have hgl : g < w.heap.size := hk.lt
    have hvl : gv < w.heap.size := hv.lt
    have hrun2 := copy_at (P := Try.prog) w1 24 24 3 26 i0 Try.underlying24 hi0 w.heap.size (i * 4) q (cap - i) ⟨gv, 0, none⟩ 1 1 (cs.take (i * 4) ++ Z ++ pad).toArray 26 1 rc (by show 1 = min 1 q; omega) (by rw [iz1, hr]) hb
      (fun j u h => by rw [add_plain]; exact (hB1.cell (p := ⟨gv, j, none⟩) hvl).trans ((hv.cell j).trans h)) (by rw [hr, List.size_toArray, hLl]; omega) h2
    obtain ⟨w2, hw2⟩ : ∃ x, x = w1.setRow w.heap.size ((cs.take (i * 4) ++ Z ++ pad).toArray.toList.take (i * 4) ++ rc ++ (cs.take (i * 4) ++ Z ++ pad).toArray.toList.drop (i * 4 + rc.length)).toArray := ⟨_, rfl⟩
    rw [← hw2] at hrun2
    have hb2 : Blk w2 w.heap.size 26 (spl (cs.take (i * 4) ++ Z ++ pad) (i * 4) rc) := by rw [hw2]; exact setRow_heap w1 w.heap.size _ _ 26 _ hb
    have hB2 : Below w.heap.size w w2 := by rw [hw2]; exact ⟨hB1.os, hB1.tape, hB1.output, by simpa using hB1.size, fun k hk => (setRow_other w1 w.heap.size k _ (by omega)).trans (hB1.block k hk)⟩
    have hz2 : (spl (cs.take (i * 4) ++ Z ++ pad) (i * 4) rc).length = cap * 4 := by
      unfold spl
      rw [List.length_append, List.length_append, List.length_take, List.length_drop, hLl, hr]; omega
    have hdl : (cs.drop (i * 4)).length = (n - i) * 4 := by rw [List.length_drop, hl]; omega
    have hrun3 := copy_at (P := Try.prog) w2.drew 24 24 3 26 i0 Try.underlying24 hi0 w.heap.size ((i + 1) * 4) (i + q - (i + 1)) (cap - (i + 1)) ⟨g, i * 4, none⟩ (n - i) (n - i) (spl (cs.take (i * 4) ++ Z ++ pad) (i * 4) rc).toArray 26 (n - i) (cs.drop (i * 4)) (by show n - i = min (n - i) _; omega) (by rw [iz1, hdl]) hb2
      (fun j u h => by
        have hadd : (⟨g, i * 4, none⟩ : Addr).add j = ⟨g, i * 4 + j, none⟩ := by unfold Addr.add; split <;> simp_all
        rw [hadd]
        rw [List.getElem?_drop] at h
        exact (hB2.drew.cell (p := ⟨g, i * 4 + j, none⟩) hgl).trans ((hk.cell _).trans h)) (by rw [hdl, List.size_toArray, hz2]; omega) (fun u hu => h1 u (List.mem_of_mem_drop hu))
    obtain ⟨w3, hw3⟩ : ∃ x, x = w2.drew.setRow w.heap.size ((spl (cs.take (i * 4) ++ Z ++ pad) (i * 4) rc).toArray.toList.take ((i + 1) * 4) ++ cs.drop (i * 4) ++ (spl (cs.take (i * 4) ++ Z ++ pad) (i * 4) rc).toArray.toList.drop ((i + 1) * 4 + (cs.drop (i * 4)).length)).toArray := ⟨_, rfl⟩
    rw [← hw3] at hrun3
    have hb3 : Blk w3 w.heap.size 26 (spl (spl (cs.take (i * 4) ++ Z ++ pad) (i * 4) rc) ((i + 1) * 4) (cs.drop (i * 4))) := by rw [hw3]; exact setRow_heap w2.drew w.heap.size _ _ 26 _ hb2
    have hB3 : Below w.heap.size w w3 := by rw [hw3]; exact ⟨hB2.os, hB2.tape, hB2.output, by simpa using hB2.size, fun k hk => (setRow_other w2.drew w.heap.size k _ (by omega)).trans (hB2.block k hk)⟩
    have hS3 : Below w.heap.size w2 w3 := by rw [hw3]; exact ⟨rfl, rfl, rfl, by simp, fun k hk => setRow_other w2.drew w.heap.size k _ (by omega)⟩
    rw [spl_two (by rw [htl]) (by rw [hZl, hr, hdl]; omega) (by rw [hr]; omega)] at hb3
    have HRUN := Aside.mk hrun
    have HRUN2 := Aside.mk hrun2
    have HRUN3 := Aside.mk hrun3
    have HB3 := Aside.mk hb3
    have HBEL := Aside.mk hB3
    have HS3 := Aside.mk hS3
    have HB2 := Aside.mk hB2
    have hc1 : ¬ cap = i := by omega
    have hc2 : ¬ cap = i + 1 := by omega
    have hc3 : ¬ n = i := by omega
    have hiq : i + q = n + 1 := by omega
    have HIQ := Aside.mk hiq
    have hi3 : (i : Int) + 1 ≤ ((i + q : Nat) : Int) := by omega
    have hi4 : (i : Int) + 1 ≤ (i : Int) + (q : Int) := by omega
    have hwi : IntKind.i64.wrap ((i : Int) + 1) = ((i + 1 : Nat) : Int) := by rw [IntKind.wrap_i64]; omega
    have hi5 : (i : Int) ≤ (i : Int) + (q : Int) := by omega
    clear hrun hrun2 hrun3 hb hb2 hb3 hB1 hB2 hB3 hS3 hw1 hw2 hw3 hX hXl hZ hpad hq hcap cellsV cellsG hk hv h1 h2 hLl hz2 htl hdl hiq
    go_enter Try.func94, Try.ntmps94
    go_wp2_with (first | (at_builtin; refine Go.Lib.wpList_append_run _ rfl _ _ _ _ rfl _ _ rfl rfl _ _ HRUN.out ?_) | (refine wpList_copy_run _ rfl _ _ _ _ rfl _ _ rfl rfl _ _ HRUN2.out ?_))
    refine region_env [(0, true), (1, true), (2, true), (3, true), (4, true), (5, true), (6, true), (7, true), (8, false)] (fun w' => Below w.heap.size w2 w') 95 rfl (by kernel_rfl) (by kernel_rfl) (fun _ _ d _ _ h => by cases d <;> exact h) ((Below.refl _ _).drew) (fun ops fr HFR HSZ hl => ?_)
    have hl_0 := ops_start hl
    clear hl
    obtain ⟨H0, hl_1⟩ := ops_next 0 1 rfl hl_0
    clear hl_0
    obtain ⟨H1, hl_2⟩ := ops_next 1 2 rfl hl_1
    clear hl_1
    obtain ⟨H2, hl_3⟩ := ops_next 2 3 rfl hl_2
    clear hl_2
    obtain ⟨H3, hl_4⟩ := ops_next 3 4 rfl hl_3
    clear hl_3
    obtain ⟨H4, hl_5⟩ := ops_next 4 5 rfl hl_4
    clear hl_4
    obtain ⟨H5, hl_6⟩ := ops_next 5 6 rfl hl_5
    clear hl_5
    obtain ⟨H6, hl_7⟩ := ops_next 6 7 rfl hl_6
    clear hl_6
    obtain ⟨H7, hl_8⟩ := ops_next 7 8 rfl hl_7
    clear hl_7
    obtain ⟨H8, hl_9⟩ := ops_next 8 9 rfl hl_8
    clear hl_8
    clear hl_9
    have x_9 : ext fr 9 = _ := congrArg (fun a => Act.eval a (.tmp 9)) HFR.out
    conv at x_9 => rhs; simp only [Act.eval, Array.getD_eq_getD_getElem?, List.getElem?_toArray, List.getElem?_cons_succ, List.getElem?_cons_zero, Option.getD_some]
    have x_1 : ext fr 1 = _ := congrArg (fun a => Act.eval a (.tmp 1)) HFR.out
    conv at x_1 => rhs; simp only [Act.eval, Array.getD_eq_getD_getElem?, List.getElem?_toArray, List.getElem?_cons_succ, List.getElem?_cons_zero, Option.getD_some]
    have x_7 : ext fr 7 = _ := congrArg (fun a => Act.eval a (.tmp 7)) HFR.out
    conv at x_7 => rhs; simp only [Act.eval, Array.getD_eq_getD_getElem?, List.getElem?_toArray, List.getElem?_cons_succ, List.getElem?_cons_zero, Option.getD_some]
    have x_0 : ext fr 0 = _ := congrArg (fun a => Act.eval a (.tmp 0)) HFR.out
    conv at x_0 => rhs; simp only [Act.eval, Array.getD_eq_getD_getElem?, List.getElem?_toArray, List.getElem?_cons_succ, List.getElem?_cons_zero, Option.getD_some]
    refine env_yes HSZ H0.out ?_ (fun w' hS => ?_) ?_
    rotate_left
    (go_simp
     rfl)
    refine env_yes HSZ H1.out ?_ (fun w' hS => ?_) ?_
    rotate_left
    (go_simp
     rfl)
    refine env_yes HSZ H2.out ?_ (fun w' hS => ?_) ?_
    rotate_left
    (go_simp
     rfl)
    refine env_yes HSZ H3.out ?_ (fun w' hS => ?_) ?_
    rotate_left
    (go_simp
     rfl)
    refine env_yes HSZ H4.out ?_ (fun w' hS => ?_) ?_
    rotate_left
    (go_simp
     rfl)
    refine env_yes HSZ H5.out ?_ (fun w' hS => ?_) ?_
    rotate_left
    (go_simp
     rfl)
    refine env_yes HSZ H6.out ?_ (fun w' hS => ?_) ?_
    rotate_left
    (go_simp
     rfl)
    refine env_yes HSZ H7.out ?_ (fun w' hS => ?_) ?_
    rotate_left
    (go_simp
     rfl)
    refine env_run HSZ H8.out ?_ ?_ ?_ ?_ ?_
    rotate_left 2
    rotate_right 2
    exact goInt ((n - i : Nat) : Int)
    exact w3
    exact exec_copy (v := .slice (some ⟨w.heap.size, (i + 1) * 4, none⟩) (i + q - (i + 1)) (cap - (i + 1))) (v2 := .slice (some ⟨g, i * 4, none⟩) (n - i) (n - i)) _ _ (by go_simp) (by go_simp) HRUN3.out
    exact HS3.out
    refine env_end ?_
    have hfr := HFR.out
    clear HFR HSZ H0 H1 H2 H3 H4 H5 H6 H7 H8 x_9 x_1 x_7 x_0
    subst hfr
    simp only [putAll, Act.put, List.setIfInBounds_toArray, List.set_cons_succ, List.set_cons_zero]
    go_wp2_with fail
    go_ret
    exact ⟨w.heap.size, cap, pad, by rw [HIQ.out]; rfl, by omega, HB3.out, Nat.le_refl _, HBEL.out⟩
end Go.Proofs.Ytdldgchkinflmaa.Fn
end
section
set_option linter.unusedVariables false
namespace Go.Proofs.Ytdldgchkinflmaa.Lib
open Go Go.RowKit

theorem ins_lt {cs rc pad : List Value} {p i : Nat} (h : i < p) (hp : p ≤ cs.length) : (cs.take p ++ rc ++ cs.drop p ++ pad)[i]? = cs[i]? := by
  rw [List.append_assoc, List.append_assoc, List.getElem?_append_left (by rw [List.length_take]; omega), List.getElem?_take_of_lt h]
theorem ins_at {cs rc pad : List Value} {p i : Nat} (h : i < rc.length) (hp : p ≤ cs.length) : (cs.take p ++ rc ++ cs.drop p ++ pad)[p + i]? = rc[i]? := by
  have hl : (cs.take p).length = p := by rw [List.length_take]; omega
  rw [List.append_assoc, List.append_assoc, List.getElem?_append_right (by omega), hl, show p + i - p = i by omega, List.getElem?_append_left h]
theorem ins_ge {cs rc pad : List Value} {p i : Nat} (h : p ≤ i) (hi : i < cs.length) : (cs.take p ++ rc ++ cs.drop p ++ pad)[i + rc.length]? = cs[i]? := by
  have hl : (cs.take p).length = p := by rw [List.length_take]; omega
  rw [List.append_assoc, List.append_assoc, List.getElem?_append_right (by omega), hl, List.getElem?_append_right (by omega), List.getElem?_append_left (by rw [List.length_drop]; omega), List.getElem?_drop]
  congr 1
  omega
/-- One more value at place t. -/
theorem insert_rd {α : Type} {R : Rec α} {E : TypeId} {w5 w9 : World} {xs : List α} {x : α} {rc pad : List Value} {t g2 cap lo hi lo0 top no : Nat} {cs : List Value} {f : Nat → Nat → Prop} (hcs : cs.length = xs.length * R.k) (htop : top ≤ w5.heap.size)
    (hf : ∀ j c, f j c → lo0 ≤ c ∧ c < top ∧ c ≠ no) (hfd : ∀ i j, i ≠ j → ∀ c, f i c → ¬ f j c) (hx : ∀ (j : Nat) (h : j < xs.length), ∃ cv, R.rd True w5 (f j) xs[j] cv ∧ ∀ t, t < R.k → cs[j * R.k + t]? = cv[t]?)
    (hr : R.rd True w5 (Span lo hi) x rc) (hlo : top ≤ lo) (hhi : hi ≤ w5.heap.size) (hb9 : Below w5.heap.size w5 w9) (hg : w5.heap.size ≤ g2) (ht : t ≤ xs.length)
    (hk : Blk w9 g2 E (cs.take (t * R.k) ++ rc ++ cs.drop (t * R.k) ++ pad)) (hcap : xs.length + 1 ≤ cap) (hw0 : lo0 ≤ top) (hno : no < lo) (hno5 : no < w5.heap.size) :
    R.sl.rd True w9 (fun c => Span lo0 w9.heap.size c ∧ c ≠ no) (xs.take t ++ x :: xs.drop t) [.slice (some ⟨g2, 0, none⟩) (xs.length + 1) cap] := by
  have hlen : (xs.take t ++ x :: xs.drop t).length = xs.length + 1 := by
    rw [List.length_append, List.length_cons, List.length_take, List.length_drop]; omega
  have hrl : rc.length = R.k := R.len hr
  have hg9 := hk.lt
  have h59 := hb9.size
  have hp : t * R.k ≤ cs.length := by rw [hcs]; exact Nat.mul_le_mul_right _ ht
  refine ⟨_, cap, by rw [hlen], by rw [hlen]; exact hcap, Or.inr ⟨g2, 0, rfl, ⟨⟨by omega, hg9⟩, by omega⟩, fun j => if j < t then f j else if j = t then Span lo hi else f (j - 1), fun j c hc => ?_, fun _ => ⟨fun o => hk.free o, fun i j hij c hi hj => ?_⟩, fun j hj => ?_⟩⟩
  · dsimp only at hc
    split at hc
    · have := hf j c hc; exact ⟨⟨⟨by omega, by omega⟩, by omega⟩, fun _ => by omega⟩
    · split at hc
      · have h1 := hc.1; have h2 := hc.2; exact ⟨⟨⟨by omega, by omega⟩, by omega⟩, fun _ => by omega⟩
      · have := hf _ c hc; exact ⟨⟨⟨by omega, by omega⟩, by omega⟩, fun _ => by omega⟩
  · dsimp only at hi hj
    split at hi
    · split at hj
      · exact hfd i j hij c hi hj
      · split at hj
        · have h1 := hf i c hi; have h2 := hj.1; omega
        · exact hfd i (j - 1) (by omega) c hi hj
    · split at hi
      · split at hj
        · have h1 := hf j c hj; have h2 := hi.1; omega
        · split at hj
          · omega
          · have h1 := hf _ c hj; have h2 := hi.1; omega
      · split at hj
        · exact hfd (i - 1) j (by omega) c hi hj
        · split at hj
          · have h1 := hf _ c hi; have h2 := hj.1; omega
          · exact hfd (i - 1) (j - 1) (by omega) c hi hj
  · rw [hlen] at hj
    have keep : ∀ (i : Nat) (h : i < xs.length), ∃ cv, R.rd True w9 (f i) xs[i] cv ∧ ∀ t, t < R.k → cs[i * R.k + t]? = cv[t]? := fun i h => by
      obtain ⟨cv, r1, r2⟩ := hx i h
      exact ⟨cv, R.frame r1 (fun b hb => by have h1 := hf i b hb; exact hb9.block b (by omega)) (fun _ h => h), r2⟩
    by_cases h1 : j < t
    · obtain ⟨cv, r1, r2⟩ := keep j (by omega)
      refine ⟨cv, ?_, fun s hs => ?_⟩
      · dsimp only
        rw [if_pos h1]
        have e : (xs.take t ++ x :: xs.drop t)[j]'(by rw [hlen]; omega) = xs[j]'(by omega) := by
          rw [List.getElem_append_left (by rw [List.length_take]; omega), List.getElem_take]
        rw [e]
        exact r1
      · rw [Nat.zero_add, hk.cell, ins_lt ?_ hp, r2 s hs]
        have h3 : (j + 1) * R.k ≤ t * R.k := Nat.mul_le_mul_right _ h1
        rw [Nat.add_mul] at h3
        omega
    · by_cases h2 : j = t
      · subst h2
        refine ⟨rc, ?_, fun s hs => ?_⟩
        · dsimp only
          rw [if_neg h1, if_pos rfl]
          have e : (xs.take j ++ x :: xs.drop j)[j]'(by rw [hlen]; omega) = x := by
            rw [List.getElem_append_right (by rw [List.length_take]; omega)]
            simp [List.length_take, Nat.min_eq_left ht]
          rw [e]
          exact R.frame hr (fun b hb => hb9.block b (by have := hb.2; omega)) (fun _ h => h)
        · rw [Nat.zero_add, hk.cell, ins_at (by omega) hp]
      · obtain ⟨cv, r1, r2⟩ := keep (j - 1) (by omega)
        refine ⟨cv, ?_, fun s hs => ?_⟩
        · dsimp only
          rw [if_neg h1, if_neg h2]
          have e : (xs.take t ++ x :: xs.drop t)[j]'(by rw [hlen]; omega) = xs[j - 1]'(by omega) := by
            rw [List.getElem_append_right (by rw [List.length_take]; omega)]
            simp only [List.length_take, Nat.min_eq_left ht]
            rw [List.getElem_cons, dif_neg (by omega), List.getElem_drop]
            congr 1
            omega
          rw [e]
          exact r1
        · rw [Nat.zero_add, hk.cell]
          have h3 : (j - 1 + 1) * R.k ≤ xs.length * R.k := Nat.mul_le_mul_right _ (by omega)
          have h4 : t * R.k ≤ (j - 1) * R.k := Nat.mul_le_mul_right _ (by omega)
          have h5 : j * R.k = (j - 1) * R.k + R.k := by
            rw [show j = j - 1 + 1 by omega, Nat.add_mul]
            simp
          rw [Nat.add_mul] at h3
          rw [show j * R.k + s = ((j - 1) * R.k + s) + rc.length by omega, ins_ge (by omega) (by rw [hcs]; omega), r2 s hs]
/-- Another value at place t. -/
theorem replace_rd {α : Type} {R : Rec α} {E : TypeId} {w5 w9 : World} {xs : List α} {x : α} {rc : List Value} {t g lo hi lo0 top : Nat} {cs : List Value} {f : Nat → Nat → Prop} (hcs : cs.length = xs.length * R.k) (htop : top ≤ w5.heap.size)
    (hf : ∀ j c, f j c → lo0 ≤ c ∧ c < top ∧ c ≠ g) (hfd : ∀ i j, i ≠ j → ∀ c, f i c → ¬ f j c) (hx : ∀ (j : Nat) (h : j < xs.length), ∃ cv, R.rd True w5 (f j) xs[j] cv ∧ ∀ t, t < R.k → cs[j * R.k + t]? = cv[t]?)
    (hr : R.rd True w5 (Span lo hi) x rc) (hlo : top ≤ lo) (hhi : hi ≤ w5.heap.size) (hb9 : ∀ b, b < w5.heap.size → lo0 ≤ b → b ≠ g → w9.heap[b]? = w5.heap[b]?) (hg : lo0 ≤ g) (hgc : g < top) (ht : t < xs.length)
    (hk : Blk w9 g E (spl cs (t * R.k) rc)) (h59 : w5.heap.size ≤ w9.heap.size)  :
    R.sl.rd True w9 (Span lo0 w9.heap.size) (xs.set t x) [.slice (some ⟨g, 0, none⟩) xs.length xs.length] := by
  have hrl : rc.length = R.k := R.len hr
  have hg9 := hk.lt
  have hp : (t + 1) * R.k ≤ cs.length := by rw [hcs]; exact Nat.mul_le_mul_right _ ht
  rw [Nat.add_mul] at hp
  have eL : cs = cs.take (t * R.k) ++ (cs.drop (t * R.k)).take R.k ++ cs.drop (t * R.k + R.k) := by
    rw [List.append_assoc, ← List.drop_drop, List.take_append_drop, List.take_append_drop]
  have hz1 : (cs.take (t * R.k)).length = t * R.k := by rw [List.length_take]; omega
  have hz2 : ((cs.drop (t * R.k)).take R.k).length = R.k := by rw [List.length_take, List.length_drop]; omega
  refine ⟨_, xs.length, by rw [List.length_set], by rw [List.length_set]; exact Nat.le_refl _, Or.inr ⟨g, 0, rfl, ⟨by omega, hg9⟩, fun j => if j = t then Span lo hi else f j, fun j c hc => ?_, fun _ => ⟨fun o => hk.free o, fun i j hij c hi hj => ?_⟩, fun j hj => ?_⟩⟩
  · dsimp only at hc
    split at hc
    · have h1 := hc.1; have h2 := hc.2; exact ⟨⟨by omega, by omega⟩, fun _ => by omega⟩
    · have := hf j c hc; exact ⟨⟨by omega, by omega⟩, fun _ => by omega⟩
  · dsimp only at hi hj
    split at hi
    · split at hj
      · omega
      · have h1 := hf j c hj; have h2 := hi.1; omega
    · split at hj
      · have h1 := hf i c hi; have h2 := hj.1; omega
      · exact hfd i j hij c hi hj
  · rw [List.length_set] at hj
    by_cases h1 : j = t
    · subst h1
      refine ⟨rc, ?_, fun s hs => ?_⟩
      · dsimp only
        rw [if_pos rfl, List.getElem_set_self]
        exact R.frame hr (fun b hb => hb9 b (by have := hb.2; omega) (by have := hb.1; omega) (by have := hb.1; omega)) (fun _ h => h)
      · rw [Nat.zero_add, hk.cell]
        unfold spl
        rw [List.append_assoc, List.getElem?_append_right (by omega), hz1, List.getElem?_append_left (by omega)]
        congr 1
        omega
    · obtain ⟨cv, r1, r2⟩ := hx j hj
      refine ⟨cv, ?_, fun s hs => ?_⟩
      · dsimp only
        rw [if_neg h1, List.getElem_set_ne (by omega)]
        exact R.frame r1 (fun b hb => by have h2 := hf j b hb; exact hb9 b (by omega) (by omega) (by omega)) (fun _ h => h)
      · rw [Nat.zero_add, hk.cell, ← r2 s hs]
        unfold spl
        by_cases h2 : j < t
        · have h3 : (j + 1) * R.k ≤ t * R.k := Nat.mul_le_mul_right _ h2
          rw [Nat.add_mul] at h3
          rw [List.append_assoc, List.getElem?_append_left (by omega), List.getElem?_take_of_lt (by omega)]
        · have h3 : (t + 1) * R.k ≤ j * R.k := Nat.mul_le_mul_right _ (by omega)
          rw [Nat.add_mul] at h3
          rw [List.append_assoc, List.getElem?_append_right (by omega), hz1, List.getElem?_append_right (by omega), List.getElem?_drop]
          congr 1
          omega
/-- A row of the call's own with room for its values alone: block g; it and what it leads to lies from lo on and below top, apart from block no. -/
def MadeAt {α : Type} (R : Rec α) (E : TypeId) (lo no top : Nat) (w : World) (xs : List α) (g : Nat) (cs : List Value) (f : Nat → Nat → Prop) : Prop :=
  Blk w g E cs ∧ cs.length = xs.length * R.k ∧ (lo ≤ g ∧ g < top ∧ g ≠ no) ∧ (∀ j c, f j c → lo ≤ c ∧ c < top ∧ c ≠ g ∧ c ≠ no) ∧ (∀ i j, i ≠ j → ∀ c, f i c → ¬ f j c) ∧
    (∀ (j : Nat) (h : j < xs.length), ∃ cv, R.rd True w (f j) xs[j] cv ∧ ∀ t, t < R.k → cs[j * R.k + t]? = cv[t]?) ∧ top ≤ w.heap.size
theorem MadeAt.keep {α : Type} {R : Rec α} {E : TypeId} {lo no top : Nat} {w w2 : World} {xs : List α} {g : Nat} {cs : List Value} {f : Nat → Nat → Prop} (h : MadeAt R E lo no top w xs g cs f) (hs : w.heap.size ≤ w2.heap.size) (hb : ∀ b, lo ≤ b → b < top → b ≠ no → w2.heap[b]? = w.heap[b]?) : MadeAt R E lo no top w2 xs g cs f := by
  obtain ⟨h1, h2, h3, h5, h6, h7, h8⟩ := h
  refine ⟨(hb g h3.1 h3.2.1 h3.2.2).trans h1, h2, h3, h5, h6, fun j hj => ?_, by omega⟩
  obtain ⟨cv, r1, r2⟩ := h7 j hj
  exact ⟨cv, R.frame r1 (fun b hb' => by have := h5 j b hb'; exact hb b this.1 this.2.1 this.2.2.2) (fun _ h => h), r2⟩
theorem MadeAt.of {α : Type} {R : Rec α} {E : TypeId} {w wr : World} {xs : List α} {n lo no : Nat} (h : Copied R E w wr xs n n) (hn : xs.length = n) (hlo : lo ≤ w.heap.size) (hno : no < w.heap.size ∨ wr.heap.size ≤ no) : ∃ cs f, MadeAt R E lo no wr.heap.size wr xs w.heap.size cs f := by
  obtain ⟨cs, h1, h2, h3, f, f1, f2, f3⟩ := h
  subst hn
  have hl := h1.lt
  refine ⟨cs, f, h1, h2, ⟨hlo, hl, by omega⟩, fun j c hc => ?_, f2, fun j hj => f3 j hj hj, Nat.le_refl _⟩
  have := f1 j c hc
  exact ⟨by omega, by omega, by omega, by omega⟩
theorem MadeAt.raise {α : Type} {R : Rec α} {E : TypeId} {lo no top top2 : Nat} {w : World} {xs : List α} {g : Nat} {cs : List Value} {f : Nat → Nat → Prop} (h : MadeAt R E lo no top w xs g cs f) (h1 : top ≤ top2) (h2 : top2 ≤ w.heap.size) : MadeAt R E lo no top2 w xs g cs f := by
  obtain ⟨a1, a2, a3, a5, a6, a7, a8⟩ := h
  exact ⟨a1, a2, ⟨a3.1, by omega, a3.2.2⟩, fun j c hc => by have := a5 j c hc; exact ⟨this.1, by omega, this.2.2⟩, a6, a7, h2⟩
theorem MadeAt.read {α : Type} {R : Rec α} {E : TypeId} {lo no top : Nat} {w : World} {xs : List α} {g : Nat} {cs : List Value} {f : Nat → Nat → Prop} (h : MadeAt R E lo no top w xs g cs f) : R.sl.rd True w (Span lo w.heap.size) xs [.slice (some ⟨g, 0, none⟩) xs.length xs.length] := by
  obtain ⟨h1, h2, h3, h5, h6, h7, h8⟩ := h
  refine ⟨_, _, rfl, Nat.le_refl _, Or.inr ⟨g, 0, rfl, ⟨h3.1, h1.lt⟩, f, fun j c hc => ?_, fun _ => ⟨fun o => h1.free o, h6⟩, fun j hj => ?_⟩⟩
  · have := h5 j c hc
    exact ⟨⟨this.1, by omega⟩, fun _ => this.2.2.1⟩
  · obtain ⟨cv, r1, r2⟩ := h7 j hj
    exact ⟨cv, r1, fun t ht => by rw [Nat.zero_add, h1.cell, r2 t ht]⟩
/-- Values stored one behind the other into a block. -/
theorem setCells_spl {w : World} {g o : Nat} {E : TypeId} {cs vs : List Value} (h : Blk w g E cs) (hl : o + vs.length ≤ cs.length) : Blk (setCells w g o vs) g E (spl cs o vs) := by
  obtain ⟨cs', h1, h2, h3, h4⟩ := setCells_blk vs w o cs h hl
  have e : cs' = spl cs o vs := by
    apply List.ext_getElem?
    intro i
    unfold spl
    have ht : (cs.take o).length = o := by rw [List.length_take]; omega
    by_cases c1 : i < o
    · rw [h4 i (Or.inl c1), List.append_assoc, List.getElem?_append_left (by omega), List.getElem?_take_of_lt c1]
    · by_cases c2 : i < o + vs.length
      · have h5 := h3 (i - o) (by omega)
        rw [show o + (i - o) = i by omega] at h5
        rw [h5, List.append_assoc, List.getElem?_append_right (by omega), ht, List.getElem?_append_left (by omega)]
      · rw [h4 i (Or.inr (by omega)), List.append_assoc, List.getElem?_append_right (by omega), ht, List.getElem?_append_right (by omega), List.getElem?_drop]
        congr 1
        omega
  rw [← e]
  exact h1
end Go.Proofs.Ytdldgchkinflmaa.Lib
end
section
set_option linter.unusedVariables false
namespace Go.Proofs.Ytdldgchkinflmaa.Fn
open Go.RowKit Go.Proofs.Ytdldgchkinflmaa.Lib Go.Proofs.Ytdldgchkinflmaa.Plan
attribute [local go_sem] look_tmp look_const look_func look_global lookT_nil lookT_hit lookT_miss

set_option maxRecDepth 100000 in
set_option maxHeartbeats 2000000 in
theorem indexPut (xs : List T) (v ptr : Value) (w : World) (p : T → Bool) (h : Rec.term.sl.rd False w (Old w) xs [v]) (hn : xs.length ≤ 1048576) (hf : OnEach 92 #[ptr] w xs p) :
    Calls Try.prog 160 #[v, .func (.func 92) #[] #[ptr]] w fun e w' => e = .returned (.int .i64 (idx p xs)) ∧ Below w.heap.size w w' := by
  obtain ⟨A, c, he, hcap, hao⟩ := h
  injection he with he _
  subst he
  have HA := Aside.mk hao
  have HF := Aside.mk hf
  obtain ⟨n, hln⟩ : ∃ n, n = xs.length := ⟨_, rfl⟩
  have HL := Aside.mk hln
  rw [← hln] at hn hcap ⊢
  have H0 : Aside (∀ (j : Nat) (h : j < xs.length), j < 0 → p xs[j] = false) := ⟨fun _ _ h => absurd h (Nat.not_lt_zero _)⟩
  clear hao hf hln
  go_enter Try.func160, Try.ntmps160
  go_wp2_with fail
  go_loopw [8] (fun iv wr => ∃ i : Nat, i ≤ n ∧ iv = .int .i64 i ∧ Aside (Below w.heap.size w wr) ∧ Aside (∀ (j : Nat) (h : j < xs.length), j < i → p xs[j] = false)) (fun iv _ => n - (intOf iv).toNat)
  case atStart => exact ⟨0, Nat.zero_le _, rfl, ⟨Below.refl _ _⟩, H0⟩
  case round =>
    obtain ⟨i, hi, rfl, hbel, hall⟩ := hrel
    clear H0
    by_cases hlt : i < n
    · have hlt2 : i < xs.length := by rw [← HL.out]; exact hlt
      rcases HA.out with h0 | ⟨b, o, rfl, hb, f, hf, -, hrow⟩
      · exfalso; rw [h0] at hlt2; exact absurd hlt2 (Nat.not_lt_zero _)
      obtain ⟨cs, hr, hc⟩ := hrow i hlt2
      obtain ⟨c0, c1, c2, c3a, c3b, c3c, rfl⟩ := shapeTerm hr
      have hbel2 := hbel.out
      have d0 : wr.cell? ⟨b, o + i * 4, none⟩ = some (.int .i64 c0) := (hbel2.cell (p := ⟨b, o + i * 4 + 0, none⟩) hb).trans (hc 0 (by decide))
      have d1 : wr.cell? ⟨b, o + i * 4 + 1, none⟩ = some (.int .i64 c1) := (hbel2.cell (p := ⟨b, o + i * 4 + 1, none⟩) hb).trans (hc 1 (by decide))
      have d2 : wr.cell? ⟨b, o + i * 4 + 2, none⟩ = some (.string c2) := (hbel2.cell (p := ⟨b, o + i * 4 + 2, none⟩) hb).trans (hc 2 (by decide))
      have d3 : wr.cell? ⟨b, o + i * 4 + 3, none⟩ = some (.slice c3a c3b c3c) := (hbel2.cell (p := ⟨b, o + i * 4 + 3, none⟩) hb).trans (hc 3 (by decide))
      have HR := Aside.mk (Rec.term.up (w1 := wr) (Rec.term.mono hr (fun c hc => (hf i c hc).1)) (fun _ h => h) hbel2)
      clear hc hrow hf hbel2 hr
      go_wp2_with fail
      refine (HF.out xs[i] (List.getElem_mem hlt2) [.int .i64 c0, .int .i64 c1, .string c2, .slice c3a c3b c3c] _ hbel.out HR.out).mono ?_
      rintro e w2 ⟨rfl, hb2⟩
      have hbel2 := Aside.mk (below_later hbel.out hb2)
      clear d0 d1 d2 d3 HR hb2 hbel
      cases hp : p xs[i]
      · have hall2 : Aside (∀ (j : Nat) (h : j < xs.length), j < i + 1 → p xs[j] = false) := ⟨fun j hj hji => by
          by_cases e : j = i
          · subst e; exact hp
          · exact hall.out j hj (by omega)⟩
        clear hall hp
        go_wp2_with fail
        go_roundw
        case rel => exact ⟨i + 1, by omega, by go_num, hbel2, hall2⟩
        case measure => first | (simp [intOf]; done) | (simp [intOf]; omega)
      · have HP := Aside.mk hp
        clear hp
        go_wp2_with fail
        go_ret
        refine ⟨ret_int ?_, hbel2.out⟩
        have hl : (xs.takeWhile fun x => !p x).length = i := tw_len xs i (by omega) (fun j hj hji => by rw [hall.out j hj hji]; rfl) (fun h => by rw [HP.out]; rfl)
        rw [idx, hl, if_pos hlt2]
    · obtain rfl : i = n := by omega
      go_wp2_with fail
      go_ret
      refine ⟨ret_int ?_, hbel.out⟩
      have hl : (xs.takeWhile fun x => !p x).length = xs.length := tw_len xs _ (Nat.le_refl _) (fun j hj hji => by rw [hall.out j hj (by rw [HL.out]; exact hj)]; rfl) (fun h => absurd h (Nat.lt_irrefl _))
      rw [idx, hl, if_neg (Nat.lt_irrefl _)]
theorem idx_any (p : T → Bool) : ∀ (xs : List T), decide (0 ≤ idx p xs) = xs.any p := by
  intro xs
  have key : (xs.takeWhile fun x => !p x).length < xs.length ↔ xs.any p = true := by
    induction xs with
    | nil => simp
    | cons x l ih =>
      cases hx : p x
      · simp [List.takeWhile_cons, hx]
        simpa using ih
      · simp [List.takeWhile_cons, hx]
  unfold idx
  by_cases h : (xs.takeWhile fun x => !p x).length < xs.length
  · rw [if_pos h, key.1 h]; simp
  · rw [if_neg h]
    have : xs.any p = false := by
      cases ha : xs.any p
      · rfl
      · exact absurd (key.2 ha) h
    rw [this]; rfl
set_option maxRecDepth 100000 in
set_option maxHeartbeats 2000000 in
theorem containsPut (xs : List T) (v ptr : Value) (w : World) (p : T → Bool) (h : Rec.term.sl.rd False w (Old w) xs [v]) (hn : xs.length ≤ 1048576) (hf : OnEach 92 #[ptr] w xs p) :
    Calls Try.prog 91 #[v, .func (.func 92) #[] #[ptr]] w fun e w' => e = .returned (.bool (xs.any p)) ∧ Below w.heap.size w w' := by
  obtain ⟨A, c, he, -, -⟩ := id h
  injection he with he _
  subst he
  have HX := Aside.mk (idx_any p xs)
  obtain ⟨k, hk⟩ : ∃ k, k = idx p xs := ⟨_, rfl⟩
  rw [← hk] at HX
  have HK := Aside.mk hk
  have H := Aside.mk h
  have HF := Aside.mk hf
  clear h hf hk
  go_enter Try.func91, Try.ntmps91
  go_wp2_with fail
  refine (indexPut xs _ ptr w p H.out hn HF.out).mono ?_
  rintro e w1 ⟨rfl, hb⟩
  rw [← HK.out]
  have HB := Aside.mk hb
  clear hb
  go_wp2_with fail
  go_ret
  exact ⟨ret_bool (by rw [← HX.out]), HB.out⟩
set_option maxRecDepth 100000 in
set_option maxHeartbeats 2000000 in
theorem putEach (row : T) (rc : List Value) (g : Nat) (w : World) (rows : List T) (hk : Rec.term.rd False w (Old w) row rc) (hkw : Rec.term.wt row ≤ 1048576) (hkr : row.right = true) (hg : Blk w g 26 rc) (hrows : ∀ r ∈ rows, rowB r = true ∧ Rec.term.wt r ≤ 1048576) :
    OnEach 92 #[.pointer (some ⟨g, 0, none⟩)] w rows (fun r => decide (T.cmp r row = 0)) := by
  intro x hx cs w1 hb hr
  obtain ⟨hxb, hxw⟩ := hrows x hx
  obtain ⟨z0, z1, z2, z3a, z3b, z3c, rfl⟩ := shapeTerm hk
  obtain ⟨x0, x1, x2, x3a, x3b, x3c, rfl⟩ := shapeTerm hr
  have HR1 := Aside.mk hr
  have HR2 := Aside.mk (Rec.term.old hk hb)
  have hKR := Aside.mk (rowB_right hxb)
  have hKR2 := Aside.mk hkr
  have hba : Below w1.heap.size w1 (w1.alloc (.cells #[.int .i64 x0, .int .i64 x1, .string x2, .slice x3a x3b x3c] 26)) := (Below.refl _ _).alloc (Nat.le_refl _) _
  have KB : Blk (w1.alloc (.cells #[.int .i64 x0, .int .i64 x1, .string x2, .slice x3a x3b x3c] 26)) w1.heap.size 26 [.int .i64 x0, .int .i64 x1, .string x2, .slice x3a x3b x3c] := Blk.new _ _ _
  have hg1 := (hg.below hb).below hba
  have f0 := hg1.cell 0
  have f1 := hg1.cell 1
  have f2 := hg1.cell 2
  have f3 := hg1.cell 3
  have u0 := KB.cell 0
  have u1 := KB.cell 1
  have u2 := KB.cell 2
  have u3 := KB.cell 3
  simp only [List.getElem?_cons_zero, List.getElem?_cons_succ] at f0 f1 f2 f3 u0 u1 u2 u3
  have HBA := Aside.mk hba
  show Calls Try.prog 92 #[.agg #[.int .i64 x0, .int .i64 x1, .string x2, .slice x3a x3b x3c], .pointer (some ⟨g, 0, none⟩)] w1 _
  clear hr hk hg hg1 hrows hb hx hxb hkr hba KB
  go_enter Try.func92, Try.ntmps92
  go_wp2_with fail
  refine (same x row [.int .i64 x0, .int .i64 x1, .string x2, .slice x3a x3b x3c] [.int .i64 z0, .int .i64 z1, .string z2, .slice z3a z3b z3c] _ (Rec.term.old HR1.out HBA.out) (Rec.term.old HR2.out HBA.out) hxw hkw hKR.out hKR2.out).mono ?_
  rintro e w2 ⟨rfl, hb2⟩
  have B2 : Aside (Below w1.heap.size w1 w2) := ⟨below_later HBA.out hb2⟩
  clear hb2 f0 f1 f2 f3 u0 u1 u2 u3
  go_wp2
  go_ret
  exact ⟨rfl, B2.out⟩
end Go.Proofs.Ytdldgchkinflmaa.Fn
end
section
set_option linter.unusedVariables false
namespace Go.Proofs.Ytdldgchkinflmaa.Fn
open Go Go.RowKit Go.Proofs.Ytdldgchkinflmaa.Lib Go.Proofs.Ytdldgchkinflmaa.Plan
attribute [local go_sem] look_tmp look_const look_func look_global lookT_nil lookT_hit lookT_miss

/-- The copied rows, or none. -/
def RowsAt (lo no hi : Nat) (w : World) (rows : List T) (v : Value) : Prop :=
  (rows = [] ∧ v = .slice none 0 0) ∨ ∃ top g cs f, 0 < rows.length ∧ v = .slice (some ⟨g, 0, none⟩) rows.length rows.length ∧ MadeAt Rec.term 26 lo no top w rows g cs f ∧ top ≤ hi
theorem RowsAt.of {w0 wr wz : World} {rows : List T} {v : Value} {lo no : Nat} (hv : (rows = [] ∧ v = .slice none 0 0) ∨ (0 < rows.length ∧ v = .slice (some ⟨w0.heap.size, 0, none⟩) rows.length rows.length ∧ Copied Rec.term 26 w0 wr rows rows.length rows.length))
    (hlo : lo ≤ w0.heap.size) (hno : no < w0.heap.size ∨ wr.heap.size ≤ no) (hs : wr.heap.size ≤ wz.heap.size) (hk : ∀ b, b < wr.heap.size → b ≠ no → wz.heap[b]? = wr.heap[b]?) : RowsAt lo no wz.heap.size wz rows v := by
  rcases hv with h | ⟨h1, h2, h3⟩
  · exact Or.inl h
  · obtain ⟨cs, f, hm⟩ := MadeAt.of (lo := lo) (no := no) h3 rfl hlo hno
    exact Or.inr ⟨_, _, cs, f, h1, h2, hm.keep hs (fun b _ hb hn => hk b hb hn), hs⟩
theorem RowsAt.keep {w w2 : World} {rows : List T} {v : Value} {lo no hi : Nat} (h : RowsAt lo no hi w rows v) (hs : w.heap.size ≤ w2.heap.size) (hb : ∀ b, lo ≤ b → b < w.heap.size → b ≠ no → w2.heap[b]? = w.heap[b]?) : RowsAt lo no hi w2 rows v := by
  rcases h with h | ⟨top, g, cs, f, h1, h2, h3, h4⟩
  · exact Or.inl h
  · exact Or.inr ⟨top, g, cs, f, h1, h2, h3.keep hs (fun b h4 h5 h6 => hb b h4 (Nat.lt_of_lt_of_le h5 h3.2.2.2.2.2.2) h6), h4⟩
theorem RowsAt.read {w : World} {rows : List T} {v : Value} {lo no hi : Nat} (h : RowsAt lo no hi w rows v) : Rec.term.sl.rd True w (Span lo w.heap.size) rows [v] := by
  rcases h with ⟨rfl, rfl⟩ | ⟨top, g, cs, f, h1, rfl, h3, -⟩
  · exact ⟨none, 0, rfl, Nat.le_refl _, Or.inl rfl⟩
  · exact h3.read
theorem RowsAt.shape {w : World} {rows : List T} {v : Value} {lo no hi : Nat} (h : RowsAt lo no hi w rows v) : ∃ A n c, v = .slice A n c := by
  rcases h with ⟨rfl, rfl⟩ | ⟨top, g, cs, f, h1, rfl, h3, -⟩
  · exact ⟨_, _, _, rfl⟩
  · exact ⟨_, _, _, rfl⟩
set_option maxRecDepth 100000 in
set_option maxHeartbeats 4000000 in
/-- slices.Insert of one term into no row. -/
theorem insertNil (gv : Nat) (rc : List Value) (w : World) (hv : Blk w gv 26 rc) (hr : rc.length = 4) :
    Calls Try.prog 94 #[.slice none 0 0, .int .i64 0, .slice (some ⟨gv, 0, none⟩) 1 1] w
      fun e w2 => ∃ g2 cap pad, e = .returned (.slice (some ⟨g2, 0, none⟩) 1 cap) ∧ 1 ≤ cap ∧ Blk w2 g2 26 (rc ++ pad) ∧ w.heap.size ≤ g2 ∧ Below w.heap.size w w2 := by
  obtain ⟨i0, hi0, iz0, iz1, iz2⟩ := info_parts infoTerm
  have cellsV : ∀ j u, rc[j]? = some u → w.cell? ((⟨gv, 0, none⟩ : Addr).add j) = some u := fun j u h => by rw [add_plain]; exact (hv.cell j).trans h
  have hrun := run_append_nil (P := Try.prog) (w := w) 24 24 26 i0 _ Try.underlying24 hi0 iz0 ⟨gv, 0, none⟩ 1 1 rc (by rw [iz1, hr]) cellsV (by omega) (by omega) (by rw [iz2]; omega)
  have hge := grownCap_ge w 1 0 26
  obtain ⟨X, hX⟩ : ∃ X, X = rc.toArray ++ Builtin.zeroCells (Value.agg #[.int .i64 0, .int .i64 0, .string ⟨#[]⟩, .slice none 0 0]).cells (grownCap w 1 0 26 - 1) := ⟨_, rfl⟩
  rw [← hX] at hrun
  have hb := Blk.made w.drew 26 X.toList (g := w.heap.size) rfl
  rw [Array.toArray_toList] at hb
  have HRUN := Aside.mk hrun
  have HB := Aside.mk hb
  have HX := Aside.mk hX
  clear cellsV hv hrun hb hX
  go_enter Try.func94, Try.ntmps94
  go_wp2_with (at_builtin; refine Go.Lib.wpList_append_run _ rfl _ _ _ _ rfl _ _ rfl rfl _ _ HRUN.out ?_)
  all_goals go_ret
  all_goals exact ⟨w.heap.size, _, (Builtin.zeroCells (Value.agg #[.int .i64 0, .int .i64 0, .string ⟨#[]⟩, .slice none 0 0]).cells (grownCap w 1 0 26 - 1)).toList, rfl, hge, by
      have e : X.toList = rc ++ (Builtin.zeroCells (Value.agg #[.int .i64 0, .int .i64 0, .string ⟨#[]⟩, .slice none 0 0]).cells (grownCap w 1 0 26 - 1)).toList := by rw [HX.out]; simp
      have h := HB.out
      rw [e] at h
      exact h, Nat.le_refl _, (Below.refl _ _).drew.alloc (Nat.le_refl _) _⟩
theorem cells_one {n : Nat} {cs : List Value} {w : World} {f : Nat → Nat → Prop} {rows : List T} (hl : cs.length = rows.length * 4) (h : ∀ (j : Nat) (h : j < rows.length), ∃ cv, Rec.term.rd True w (f j) rows[j] cv ∧ ∀ t, t < 4 → cs[j * 4 + t]? = cv[t]?) : ∀ u ∈ cs, u.oneCell' = true := by
  intro u hu
  obtain ⟨i, hi, rfl⟩ := List.getElem_of_mem hu
  obtain ⟨cv, h1, h2⟩ := h (i / 4) (by omega)
  have h3 := h2 (i % 4) (by omega)
  rw [show i / 4 * 4 + i % 4 = i by omega, List.getElem?_eq_getElem hi] at h3
  obtain ⟨x0, x1, x2, x3a, x3b, x3c, rfl⟩ := shapeTerm h1
  obtain ⟨h5, h6⟩ := List.getElem?_eq_some_iff.1 h3.symm
  have : i % 4 = 0 ∨ i % 4 = 1 ∨ i % 4 = 2 ∨ i % 4 = 3 := by omega
  rw [← h6]
  rcases this with h | h | h | h <;> simp only [h] <;> rfl
/-- slices.Insert of one term into the copied rows, or none. -/
theorem insertRows {lo no hi lo5 hi5 : Nat} {rows : List T} {row : T} {v : Value} {rc : List Value} {w : World} (n i gv : Nat) (hnr : n = rows.length) (hi0 : i ≤ n) (hn : n ≤ 500) (hR : RowsAt lo no hi w rows v) (hv : Blk w gv 26 rc) (hr : Rec.term.rd True w (Span lo5 hi5) row rc) (h5 : hi ≤ lo5) (h6 : hi5 ≤ w.heap.size) (h7 : lo ≤ hi) (h8 : hi ≤ w.heap.size) (h9 : no < lo5) (h10 : no < w.heap.size) :
    Calls Try.prog 94 #[v, .int .i64 i, .slice (some ⟨gv, 0, none⟩) 1 1] w
      fun e w2 => ∃ g2 cap, e = .returned (.slice (some ⟨g2, 0, none⟩) (n + 1) cap) ∧ Rec.term.sl.rd True w2 (fun c => Span lo w2.heap.size c ∧ c ≠ no) (rows.take i ++ row :: rows.drop i) [.slice (some ⟨g2, 0, none⟩) (n + 1) cap] ∧ Below w.heap.size w w2 := by
  subst hnr
  have hrl : rc.length = 4 := Rec.term.len hr
  rcases hR with ⟨rfl, rfl⟩ | ⟨top, g, cs, f, h1, rfl, hm, ht⟩
  · obtain rfl : i = 0 := by simpa using hi0
    refine (insertNil gv rc w hv hrl).mono ?_
    rintro e w2 ⟨g2, cap, pad, rfl, c1, hb, hg, hB⟩
    refine ⟨g2, cap, rfl, ?_, hB⟩
    exact insert_rd (R := Rec.term) (E := 26) (xs := []) (cs := []) (f := fun _ _ => False) (t := 0) (top := hi) (by rfl) h8 (fun _ _ h => h.elim) (fun _ _ _ _ h => h.elim) (fun j h => absurd h (Nat.not_lt_zero _)) hr h5 h6 hB hg (Nat.le_refl _) (by simpa using hb) c1 h7 h9 h10
  · obtain ⟨m1, m2, m3, m5, m6, m7, m8⟩ := hm
    refine (insertAt g rows.length i gv cs rc w m1 m2 hi0 h1 hn hv hrl (cells_one (n := 0) m2 m7) ?_).mono ?_
    · obtain ⟨x0, x1, x2, x3a, x3b, x3c, rfl⟩ := shapeTerm hr
      intro u hu
      simp only [List.mem_cons, List.not_mem_nil, or_false] at hu
      rcases hu with rfl | rfl | rfl | rfl <;> rfl
    rintro e w2 ⟨g2, cap, pad, rfl, c1, hb, hg, hB⟩
    refine ⟨g2, cap, rfl, ?_, hB⟩
    exact insert_rd (R := Rec.term) (E := 26) (t := i) (top := hi) m2 h8 (fun j c hc => by have := m5 j c hc; exact ⟨this.1, by omega, this.2.2.2⟩) m6 m7 hr h5 h6 hB hg hi0 hb c1 h7 h9 h10
end Go.Proofs.Ytdldgchkinflmaa.Fn
end
