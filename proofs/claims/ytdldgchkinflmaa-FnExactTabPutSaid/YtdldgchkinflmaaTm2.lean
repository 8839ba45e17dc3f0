/- Walk of the reference's order of terms. Conditions: those of each theorem. -/
import Derived.Test.YtdldgchkinflmaaTm1
set_option linter.unusedVariables false
namespace Go.Proofs.Ytdldgchkinflmaa.Fn
open Go.RowKit Go.Proofs.Ytdldgchkinflmaa.Lib Go.Proofs.Ytdldgchkinflmaa.Plan

theorem eachV_all (ts us : List T) : eachV ts us 0 1 = firstNe T.cmp ts us := by simp [eachV, strd]
theorem eachV_even (ts us : List T) : eachV ts us 0 2 = firstNe T.cmp (evens ts) (evens us) := by simp [eachV, strd]
theorem eachV_odd (ts us : List T) : eachV ts us 1 2 = firstNe T.cmp (evens ts.tail) (evens us.tail) := by simp [eachV, strd]
theorem wt_sl (k n : Int) (s : ByteArray) (ts : List T) (m : Nat) (h : Rec.term.wt (.mk k n s ts) ≤ m) : Rec.term.sl.wt ts ≤ m := by
  have := Rec.term_wt (.mk k n s ts)
  change _ = s.size + Rec.term.sl.wt ts at this
  omega
set_option maxRecDepth 100000 in
set_option maxHeartbeats 2000000 in
theorem l01Cmp (a : T) : ∀ b, Cmps 87 a b := by
  induction a using T.ind with
  | h k n s ts ih =>
  rintro ⟨k', n', s', us⟩ ca cb w ha hb hta htb
  obtain ⟨A1, c1, rfl, h1⟩ := Rec.term_iff.1 ha
  change Rec.term.sl.rd False w (Old w) ts [.slice A1 ts.length c1] at h1
  obtain ⟨A2, c2, rfl, h2⟩ := Rec.term_iff.1 hb
  change Rec.term.sl.rd False w (Old w) us [.slice A2 us.length c2] at h2
  have WT := wt_sl _ _ _ _ _ hta
  have WU := wt_sl _ _ _ _ _ htb
  have HIH := Aside.mk ih
  have H1 := Aside.mk h1
  have H2 := Aside.mk h2
  obtain ⟨res, hres⟩ : ∃ r, r = T.cmp (.mk k n s ts) (.mk k' n' s' us) := ⟨_, rfl⟩
  rw [← hres]
  rw [T.cmp_eq] at hres
  have HV := Aside.mk hres
  show Calls Try.prog 87 #[.agg #[.int .i64 k, .int .i64 n, .string s, .slice A1 ts.length c1], .agg #[.int .i64 k', .int .i64 n', .string s', .slice A2 us.length c2]] w _
  clear ih h1 h2 ha hb hta htb hres
  have L1 := wt_len WT
  have L2 := wt_len WU
  go_enter Try.func87, Try.ntmps87
  by_cases e1 : k = k'
  rotate_left
  · have E : Aside (res = sgn k k') := ⟨by rw [HV.out, if_pos e1]⟩
    have h0 : (k != k') = true := by simpa using e1
    clear HV e1
    go_wp2_with fail
    refine (l01Sign k k' _).mono ?_
    rintro e w' ⟨rfl, rfl⟩
    go_wp2
    go_ret
    exact ⟨ret_int E.out.symm, by go_grown⟩
  subst e1
  by_cases e2 : n = n'
  rotate_left
  · have E : Aside (res = sgn n n') := ⟨by rw [HV.out, if_neg (by simp), if_pos e2]⟩
    have h0 : (n != n') = true := by simpa using e2
    clear HV e2
    go_wp2_with fail
    refine (l01Sign n n' _).mono ?_
    rintro e w' ⟨rfl, rfl⟩
    go_wp2
    go_ret
    exact ⟨ret_int E.out.symm, by go_grown⟩
  subst e2
  by_cases e3 : s = s'
  rotate_left
  · have E : Aside (res = ordS s s') := ⟨by rw [HV.out, if_neg (by simp), if_neg (by simp), if_pos e3]⟩
    have h0 : (s.toList == s'.toList) = false := by
      rw [beq_eq_false_iff_ne]
      exact fun h => e3 (ext_list h)
    clear HV e3
    go_wp2_with fail
    refine (l01Order s s' _).mono ?_
    rintro e w' ⟨rfl, rfl⟩
    go_wp2
    go_ret
    exact ⟨ret_int E.out.symm, by go_grown⟩
  subst e3
  have HV2 : Aside (res = cmpKids k ts us) := ⟨by rw [HV.out, if_neg (by simp), if_neg (by simp), if_neg (by simp)]⟩
  clear HV
  by_cases e4 : k = 8
  · have E : Aside (res = if eachV ts us 0 1 = 0 then sgn ts.length us.length else eachV ts us 0 1) := ⟨by rw [HV2.out, cmpKids, if_pos e4, eachV_all]⟩
    have h0 : (k == 8) = true := by simpa using e4
    clear HV2 e4
    go_wp2_with fail
    refine (l01Each ts us HIH.out 0 1 (by decide) (by decide) _ _ _ (Rec.term.sl.old H1.out (by go_grown)) (Rec.term.sl.old H2.out (by go_grown)) WT WU).mono ?_
    rintro e w1 ⟨rfl, hb1⟩
    have k0 := ((Blk.new w 26 [.int .i64 k, .int .i64 n, .string s, .slice A1 ts.length c1]).alloc _).below hb1
    have k1 := (Blk.made (w.alloc _) 26 [.int .i64 k, .int .i64 n, .string s, .slice A2 us.length c2] (g := w.heap.size + 1) (by simp)).below hb1
    have y0 : w1.cell? ⟨w.heap.size, 3, none⟩ = some (.slice A1 ts.length c1) := k0.cell 3
    have y1 : w1.cell? ⟨w.heap.size + 1, 3, none⟩ = some (.slice A2 us.length c2) := k1.cell 3
    have B1 : Aside (Below w.heap.size w w1) := ⟨below_later (by go_grown) hb1⟩
    clear k0 k1 hb1
    by_cases hz : eachV ts us 0 1 = 0
    · have E2 : Aside (res = sgn ts.length us.length) := ⟨by rw [E.out, if_pos hz]⟩
      rw [hz]
      clear E hz
      go_wp2_with fail
      refine (l01Sign ts.length us.length _).mono ?_
      rintro e w' ⟨rfl, rfl⟩
      go_wp2
      go_ret
      exact ⟨ret_int E2.out.symm, B1.out⟩
    · have E2 : Aside (res = eachV ts us 0 1) := ⟨by rw [E.out, if_neg hz]⟩
      generalize eachV ts us 0 1 = c at hz E2 ⊢
      have h1 : (c != 0) = true := by simpa using hz
      clear E hz
      go_wp2
      go_ret
      exact ⟨ret_int E2.out.symm, B1.out⟩
  have h8 : (k == 8) = false := by simpa using e4
  by_cases e5 : ts.length = us.length
  rotate_left
  · have E : Aside (res = sgn ts.length us.length) := ⟨by rw [HV2.out, cmpKids, if_neg e4, if_pos e5]⟩
    have h0 : ((ts.length : Int) != (us.length : Int)) = true := by simp; omega
    clear HV2 e5 e4
    go_wp2_with fail
    refine (l01Sign ts.length us.length _).mono ?_
    rintro e w' ⟨rfl, rfl⟩
    go_wp2
    go_ret
    exact ⟨ret_int E.out.symm, by go_grown⟩
  have h9 : ((ts.length : Int) != (us.length : Int)) = false := by simp; omega
  by_cases e6 : k = 7
  · have E : Aside (res = if eachV ts us 0 2 = 0 then eachV ts us 1 2 else eachV ts us 0 2) := ⟨by rw [HV2.out, cmpKids, if_neg e4, if_neg (by simpa using e5), if_pos e6, eachV_even, eachV_odd]⟩
    have h0 : (k == 7) = true := by simpa using e6
    clear HV2 e4 e5 e6
    go_wp2_with fail
    refine (l01Each ts us HIH.out 0 2 (by decide) (by decide) _ _ _ (Rec.term.sl.old H1.out (by go_grown)) (Rec.term.sl.old H2.out (by go_grown)) WT WU).mono ?_
    rintro e w1 ⟨rfl, hb1⟩
    have k0 := ((Blk.new w 26 [.int .i64 k, .int .i64 n, .string s, .slice A1 ts.length c1]).alloc _).below hb1
    have k1 := (Blk.made (w.alloc _) 26 [.int .i64 k, .int .i64 n, .string s, .slice A2 us.length c2] (g := w.heap.size + 1) (by simp)).below hb1
    have y0 : w1.cell? ⟨w.heap.size, 3, none⟩ = some (.slice A1 ts.length c1) := k0.cell 3
    have y1 : w1.cell? ⟨w.heap.size + 1, 3, none⟩ = some (.slice A2 us.length c2) := k1.cell 3
    have B1 : Aside (Below w.heap.size w w1) := ⟨below_later (by go_grown) hb1⟩
    clear k0 k1 hb1
    by_cases hz : eachV ts us 0 2 = 0
    · have E2 : Aside (res = eachV ts us 1 2) := ⟨by rw [E.out, if_pos hz]⟩
      rw [hz]
      clear E hz
      go_wp2_with fail
      refine (l01Each ts us HIH.out 1 2 (by decide) (by decide) _ _ _ (Rec.term.sl.old H1.out B1.out) (Rec.term.sl.old H2.out B1.out) WT WU).mono ?_
      rintro e w2 ⟨rfl, hb2⟩
      have B2 := Aside.mk (below_later B1.out hb2)
      clear hb2
      generalize eachV ts us 1 2 = c at E2 ⊢
      go_wp2
      go_ret
      exact ⟨ret_int E2.out.symm, B2.out⟩
    · have E2 : Aside (res = eachV ts us 0 2) := ⟨by rw [E.out, if_neg hz]⟩
      generalize eachV ts us 0 2 = c at hz E2 ⊢
      have h1 : (c != 0) = true := by simpa using hz
      clear E hz
      go_wp2
      go_ret
      exact ⟨ret_int E2.out.symm, B1.out⟩
  · have E : Aside (res = eachV ts us 0 1) := ⟨by rw [HV2.out, cmpKids, if_neg e4, if_neg (by simpa using e5), if_neg e6, eachV_all]⟩
    have h0 : (k == 7) = false := by simpa using e6
    clear HV2 e4 e5 e6
    go_wp2_with fail
    refine (l01Each ts us HIH.out 0 1 (by decide) (by decide) _ _ _ (Rec.term.sl.old H1.out (by go_grown)) (Rec.term.sl.old H2.out (by go_grown)) WT WU).mono ?_
    rintro e w1 ⟨rfl, hb1⟩
    have B1 : Aside (Below w.heap.size w w1) := ⟨below_later (by go_grown) hb1⟩
    clear hb1
    generalize eachV ts us 0 1 = c at E ⊢
    go_wp2
    go_ret
    exact ⟨ret_int E.out.symm, B1.out⟩
end Go.Proofs.Ytdldgchkinflmaa.Fn
