/- Walk of the program's SupOK. Conditions: those of each theorem. -/
import Derived.Test.YtjjnlbimegabpaaSup5
import Derived.Maps.OwnOps
import Derived.Maps.Views
import Derived.StringKeys
set_option linter.unusedVariables false
namespace Go.Proofs.Ytjjnlbimegabpaa.Fn
open Go.RowKit Go.Proofs.Ytjjnlbimegabpaa.Lib Go.Proofs.Ytjjnlbimegabpaa.Plan Go.Maps

/-- The names seen, as a map. -/
def seenD (l : List ByteArray) : DataW Unit := l.foldl (fun D s => D.put (.string s.data.toList) (.lit (.bool true))) (.map [])
theorem seenD_snoc (l : List ByteArray) (s : ByteArray) : seenD (l ++ [s]) = (seenD l).put (.string s.data.toList) (.lit (.bool true)) := by
  simp [seenD, List.foldl_append]
theorem seenD_map (l : List ByteArray) : IsMap (seenD l) := by
  suffices ∀ (l : List ByteArray) (D : DataW Unit), IsMap D → IsMap (l.foldl (fun D s => D.put (.string s.data.toList) (.lit (.bool true))) D) from this l _ isMap_empty
  intro l
  induction l with
  | nil => exact fun D h => h
  | cons x l ih => exact fun D h => ih _ (h.put _ _)
theorem seenD_at (l : List ByteArray) (s : ByteArray) : (seenD l).atKey (.string s.data.toList) (.lit (.bool false)) = .lit (.bool (seenB s l)) := by
  suffices ∀ l : List ByteArray, (seenD l.reverse).atKey (.string s.data.toList) (.lit (.bool false)) = .lit (.bool (seenB s l.reverse)) by
    have h := this l.reverse
    rwa [List.reverse_reverse] at h
  intro l
  induction l with
  | nil => rfl
  | cons x l ih =>
    rw [List.reverse_cons, seenD_snoc, seenB, List.any_append]
    by_cases e : x.toList = s.toList
    · have : x = s := ext_list e
      subst this
      rw [atKey_put_same (seenD_map _) (show WideAt.IsKeyLit (.string x.data.toList) from trivial)]
      simp
    · have e2 : (Lit.string s.data.toList) ≠ .string x.data.toList := by
        intro h
        injection h with h
        exact e (by rw [ByteArray.toList_eq, ByteArray.toList_eq, h])
      rw [atKey_put_other e2, ih, seenB]
      have e3 : (x.toList == s.toList) = false := by simpa using e
      simp [e3]
theorem law9 : Keyed Try.prog 9 := string_keyed Try.underlying9
theorem zero4 (w : World) : (zeroValue 4).run Try.prog w = .ok (.bool false) w := by kernel_rfl
def elemB : Value → Option (DataW Unit × List MemPlace)
  | .bool b => some (.lit (.bool b), [])
  | _ => none
theorem elemB_inv {v : Value} {c : Bool} {ps : List MemPlace} (h : elemB v = some (.lit (.bool c), ps)) : v = .bool c := by
  cases v <;> simp [elemB] at h
  rw [h.1]
theorem ownsMap_below {P : Program} {k : TypeId} {R : Value → Option (DataW Unit × List MemPlace)} {w w1 : World} {b n : Nat} {D : DataW Unit} (h : w.ownsMap P k R b n D) (hb : Below w.heap.size w w1) : w1.ownsMap P k R b n D :=
  h.kept (row := none) ⟨hb.os, hb.tape, hb.output, hb.size, fun i hi _ => hb.block i hi⟩ (by simp)
set_option maxRecDepth 100000 in
set_option maxHeartbeats 2000000 in
theorem iSupOK (a : ASupSpec) (cs : List Value) (w : World) (h : RSupSpec.rd False w (Old w) a cs) (ho : RSupSpec.ok a) :
    Calls Try.prog 40 #[.agg cs.toArray] w fun e w' => e = .returned (.bool (supB a)) ∧ Below w.heap.size w w' := by
  obtain ⟨a0, a1, a2, a3⟩ := a
  have ho2 : Rec.int.ok a0 ∧ (Rec.int.ok a1 ∧ (Rec.int.ok a2 ∧ RSupKid.sl.ok a3)) := ho
  obtain ⟨r0, r1, r2, o3⟩ := ho2
  obtain ⟨_, _, _, _, rfl, p0, q0, i0, j0, -⟩ := h
  obtain ⟨_, _, _, _, rfl, p1, q1, i1, j1, -⟩ := q0
  obtain ⟨_, _, _, _, rfl, p2, q2, i2, j2, -⟩ := q1
  have h3 := RSupKid.sl.mono q2 (fun b h => j0 b (j1 b (j2 b h)))
  obtain rfl := p0
  obtain rfl := p1
  obtain rfl := p2
  obtain ⟨A3, c3, rfl, hcap, h3⟩ := h3
  have H3 := Aside.mk h3
  have HZ := Aside.mk (kid_size o3)
  have hlen : a3.length ≤ 9223372036854775807 := o3.1
  have HQ : Aside (supB (a0, a1, a2, a3) = (headB a0 a1 a2 a3.length && (!(decide (a0 = 4) && !decide (a3.length = 1)) && kidsGo [] a3))) := ⟨rfl⟩
  obtain ⟨n, hln⟩ : ∃ n, n = a3.length := ⟨_, rfl⟩
  show Calls Try.prog 40 #[.agg #[.int .i64 a0, .int .i64 a1, .int .i64 a2, .slice A3 a3.length c3]] w _
  rw [← hln] at hcap hlen HQ ⊢
  have HL := Aside.mk hln
  generalize supB (a0, a1, a2, a3) = res at HQ ⊢
  have h0 : Aside (headB a0 a1 a2 n = (decide (1 ≤ a0 ∧ a0 ≤ 4) && (decide (0 ≤ a1 ∧ a1 ≤ 50) && (decide (1 ≤ a2 ∧ a2 ≤ 1000000000) && decide (n ≤ 30))))) := ⟨rfl⟩
  clear h3 q2 i0 i1 i2 j0 j1 j2 o3 ho hln r0 r1 r2
  have hmm := @run_makeMap Try.prog
  have key : (¬ (1 ≤ a0 ∧ a0 ≤ 4 ∧ 0 ≤ a1 ∧ a1 ≤ 50 ∧ 1 ≤ a2 ∧ a2 ≤ 1000000000 ∧ n ≤ 30)) ∨ (1 ≤ a0 ∧ a0 ≤ 4 ∧ 0 ≤ a1 ∧ a1 ≤ 50 ∧ 1 ≤ a2 ∧ a2 ≤ 1000000000 ∧ n ≤ 30) := by omega
  rcases key with hbad | ⟨g0, g1, g2, g3, g4, g5, g6⟩
  · have E : Aside (res = false) := ⟨by
      rw [HQ.out]
      have : headB a0 a1 a2 n = false := by rw [h0.out]; simp; omega
      rw [this]; rfl⟩
    clear HQ h0 HL
    go_enter Try.func40, Try.ntmps40
    by_cases c0 : a0 < 1
    · go_wp2
      go_ret
      exact ⟨ret_bool E.out.symm, by go_grown⟩
    by_cases c1 : 4 < a0
    · go_wp2
      go_ret
      exact ⟨ret_bool E.out.symm, by go_grown⟩
    by_cases c2 : a1 < 0
    · go_wp2
      go_ret
      exact ⟨ret_bool E.out.symm, by go_grown⟩
    by_cases c3' : 50 < a1
    · go_wp2
      go_ret
      exact ⟨ret_bool E.out.symm, by go_grown⟩
    by_cases c4 : a2 < 1
    · go_wp2
      go_ret
      exact ⟨ret_bool E.out.symm, by go_grown⟩
    by_cases c5 : 1000000000 < a2
    · go_wp2
      go_ret
      exact ⟨ret_bool E.out.symm, by go_grown⟩
    have c6 : (30 : Int) < n := by omega
    clear hbad
    go_wp2
    go_ret
    exact ⟨ret_bool E.out.symm, by go_grown⟩
  have E : Aside (res = (!(decide (a0 = 4) && !decide (n = 1)) && kidsGo (namesTo a3 0) (a3.drop 0))) := ⟨by
    have : headB a0 a1 a2 n = true := by rw [h0.out]; simp; omega
    rw [HQ.out, this]; rfl⟩
  clear HQ h0
  go_enter Try.func40, Try.ntmps40
  have K0 := Aside.mk ((Blk.new w 65 [.int .i64 a0, .int .i64 a1, .int .i64 a2, .slice A3 n c3]).alloc (.map #[] 0))
  have B0 : Aside (Below w.heap.size w ((w.alloc (.cells #[.int .i64 a0, .int .i64 a1, .int .i64 a2, .slice A3 n c3] 65)).alloc (.map #[] 0))) := ⟨by go_grown⟩
  have M0 : Aside (((w.alloc (.cells #[.int .i64 a0, .int .i64 a1, .int .i64 a2, .slice A3 n c3] 65)).alloc (.map #[] 0)).ownsMap Try.prog 9 elemB (w.heap.size + 1) 0 (seenD (namesTo a3 0))) := ⟨by
    have := World.ownsMap_made (w.alloc (.cells #[.int .i64 a0, .int .i64 a1, .int .i64 a2, .slice A3 n c3] 65)) Try.prog 9 elemB
    rw [World.size_alloc] at this
    exact this⟩
  go_wp2_with fail
  go_loopw [44] (fun i wr => ∃ k : Nat, k ≤ n ∧ i = .int .i64 k ∧ Aside (Blk wr w.heap.size 65 [.int .i64 a0, .int .i64 a1, .int .i64 a2, .slice A3 n c3]) ∧ Aside (Below w.heap.size w wr) ∧ Aside (res = (!(decide (a0 = 4) && !decide (n = 1)) && kidsGo (namesTo a3 k) (a3.drop k))) ∧ Aside (wr.ownsMap Try.prog 9 elemB (w.heap.size + 1) k (seenD (namesTo a3 k)))) (fun i _ => n - (intOf i).toNat)
  case atStart => exact ⟨0, Nat.zero_le _, rfl, K0, B0, E, M0⟩
  case round =>
    obtain ⟨k, hk, rfl, hk0, hb0, hres, hm0⟩ := hrel
    clear K0 B0 E M0
    have y0 := hk0.out.cell 0
    have y3 := hk0.out.cell 3
    simp only [List.getElem?_cons_zero, List.getElem?_cons_succ] at y0 y3
    by_cases hlt : k < n
    · have hlt2 : k < a3.length := by rw [← HL.out]; exact hlt
      rcases H3.out with h0 | ⟨b, o, rfl, hb, f, -, -, hrow⟩
      · exfalso; rw [h0] at hlt2; exact absurd hlt2 (Nat.not_lt_zero _)
      obtain ⟨cs, hr, hc⟩ := hrow k hlt2
      obtain rfl := rdSupKid hr
      have c0 := hc 0 (by decide)
      have c1 := hc 1 (by decide)
      have c2 := hc 2 (by decide)
      simp only [List.getElem?_cons_zero, List.getElem?_cons_succ] at c0 c1 c2
      change w.cell? ⟨b, o + k * 3, none⟩ = _ at c0
      change w.cell? ⟨b, o + k * 3 + 1, none⟩ = _ at c1
      change w.cell? ⟨b, o + k * 3 + 2, none⟩ = _ at c2
      clear hrow hc hr
      have hstep := Aside.mk (kidsGo_step a3 k hlt2)
      have hsn : Aside (namesTo a3 (k + 1) = namesTo a3 k ++ [a3[k].1]) := ⟨by
        rw [namesTo, namesTo, List.take_succ_eq_append_getElem hlt2, List.map_append]; rfl⟩
      have hz := HZ.out k hlt2
      generalize hx0 : a3[k].1 = x0 at c0 hstep hz hsn
      generalize hx1 : a3[k].2.1 = x1 at c1 hstep
      generalize hx2 : a3[k].2.2 = x2 at c2 hstep
      clear hx0 hx1 hx2
      have d0 := (hb0.out.cell (p := ⟨b, o + k * 3, none⟩) hb).trans c0
      have d1 := (hb0.out.cell (p := ⟨b, o + k * 3 + 1, none⟩) hb).trans c1
      have d2 := (hb0.out.cell (p := ⟨b, o + k * 3 + 2, none⟩) hb).trans c2
      clear c0 c1 c2
      go_wp2_with fail
      refine (kidOK x0 x1 x2 _ hz).mono ?_
      rintro e w2 ⟨rfl, hb2⟩
      have k4 := (Blk.new wr 90 [.string x0, .int .i64 x1, .int .i64 x2]).below hb2
      have k5 := (hk0.out.alloc (.cells #[.string x0, .int .i64 x1, .int .i64 x2] 90)).below hb2
      have bel := below_later (hb0.out.alloc (by have := hb0.out.size; omega) (.cells #[.string x0, .int .i64 x1, .int .i64 x2] 90)) hb2
      have hm2 := ownsMap_below (hm0.out.alloc (.cells #[.string x0, .int .i64 x1, .int .i64 x2] 90)) hb2
      have e0 := k4.cell 0
      simp only [List.getElem?_cons_zero] at e0
      have BEL := Aside.mk bel
      have HM := Aside.mk hm2
      have K5 := Aside.mk k5
      clear k4 k5 hb2 hk0 hb0 hm0 y0 y3 d0 d1 d2 bel hm2
      cases hA : kidB x0 x1 x2
      · have hE : Aside (res = false) := ⟨by rw [hres.out, hstep.out, hA]; simp⟩
        go_wp2
        go_ret
        exact ⟨ret_bool hE.out.symm, BEL.out⟩
      have hkey : keyOf Try.prog 9 (.string x0) = some (.string x0.data.toList) := WideMaps.keyOf_string_mk Try.underlying9 hz
      have KEY := Aside.mk hkey
      obtain ⟨v, ps, hrun, hv⟩ := HM.out.lookup law9 Try.underlying92 (zero4 w2) (zp := []) rfl hkey
      rw [seenD_at] at hv
      obtain rfl := elemB_inv hv
      clear hkey hv
      cases hS : seenB x0 (namesTo a3 k)
      · rw [hS] at hrun
        replace hres : Aside (res = (!(decide (a0 = 4) && !decide (n = 1)) && kidsGo (namesTo a3 (k + 1)) (a3.drop (k + 1)))) := ⟨by
          rw [hres.out, hstep.out, hA, hS]; rfl⟩
        clear hstep
        go_wp2_with (at_mapUpdate; refine wpList_mapUpdate_own _ rfl _ _ _ 92 rfl 9 4 law9 Try.underlying92 elemB (w.heap.size + 1) k (seenD (namesTo a3 k)) rfl HM.out (by unfold maxLen; omega) _ _ (.string x0.data.toList) rfl rfl KEY.out (.lit (.bool true)) [] rfl ?_; intro w3 hown hgr)
        have hm4 : Aside (w3.ownsMap Try.prog 9 elemB (w.heap.size + 1) (k + 1) (seenD (namesTo a3 (k + 1)))) := ⟨by rw [hsn.out, seenD_snoc]; exact hown⟩
        have k6 := Aside.mk (K5.out.grown hgr (by simp))
        have bel2 := Aside.mk (below_grown BEL.out hgr (by omega))
        clear hown hgr K5 BEL HM hrun KEY e0
        go_wp2_with fail
        go_roundw
        case rel => exact ⟨k + 1, by omega, by go_num, k6, bel2, hres, hm4⟩
        case measure => first | (simp [intOf]; done) | (simp [intOf]; omega)
      · rw [hS] at hrun
        have hE : Aside (res = false) := ⟨by rw [hres.out, hstep.out, hA, hS]; simp⟩
        go_wp2
        go_ret
        exact ⟨ret_bool hE.out.symm, BEL.out⟩
    · obtain rfl : k = n := by omega
      have hend : Aside (kidsGo (namesTo a3 k) (a3.drop k) = true) := ⟨by
        have := HL.out
        subst this
        exact kidsGo_end a3⟩
      by_cases d4 : a0 = 4
      · have d5 : (a0 == 4) = true := by simpa using d4
        have d6 : (a0 != 4) = false := by simpa using d4
        by_cases d7 : k = 1
        · have hE : Aside (res = true) := ⟨by rw [hres.out, hend.out, decide_eq_true d4, decide_eq_true d7]; rfl⟩
          have d8 : ((k : Int) == 1) = true := by simp; omega
          clear d4 d7
          go_wp2
          go_ret
          exact ⟨ret_bool hE.out.symm, hb0.out⟩
        · have hE : Aside (res = false) := ⟨by rw [hres.out, hend.out, decide_eq_true d4, decide_eq_false d7]; rfl⟩
          have d8 : ((k : Int) == 1) = false := by simp; omega
          clear d4 d7
          go_wp2
          go_ret
          exact ⟨ret_bool hE.out.symm, hb0.out⟩
      · have d5 : (a0 == 4) = false := by simpa using d4
        have d6 : (a0 != 4) = true := by simpa using d4
        have hE : Aside (res = true) := ⟨by rw [hres.out, hend.out, decide_eq_false d4]; rfl⟩
        clear d4
        go_wp2
        go_ret
        exact ⟨ret_bool hE.out.symm, hb0.out⟩
end Go.Proofs.Ytjjnlbimegabpaa.Fn
