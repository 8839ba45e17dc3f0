/- Walk of the program's order of right terms. Conditions: those of each theorem. -/
import Derived.Test.YtdldgchkinflmaaTm5
set_option linter.unusedVariables false
namespace Go.Proofs.Ytdldgchkinflmaa.Fn
open Go.RowKit Go.Proofs.Ytdldgchkinflmaa.Lib Go.Proofs.Ytdldgchkinflmaa.Plan

set_option maxRecDepth 100000 in
set_option maxHeartbeats 8000000 in
theorem compare (a : T) : ∀ b, CmpsR 74 a b := by
  induction a using T.ind with
  | h k n s ts ih =>
  rintro ⟨k', n', s', us⟩ ca cb w ha hb hta htb hra hrb
  obtain ⟨A1, c1, rfl, h1⟩ := Rec.term_iff.1 ha
  change Rec.term.sl.rd False w (Old w) ts [.slice A1 ts.length c1] at h1
  obtain ⟨A2, c2, rfl, h2⟩ := Rec.term_iff.1 hb
  change Rec.term.sl.rd False w (Old w) us [.slice A2 us.length c2] at h2
  have WT := wt_sl _ _ _ _ _ hta
  have WU := wt_sl _ _ _ _ _ htb
  obtain ⟨o1, r1, -⟩ := right_parts hra
  obtain ⟨o2, r2, -⟩ := right_parts hrb
  have HIH := Aside.mk ih
  have H1 := Aside.mk h1
  have H2 := Aside.mk h2
  have R1 := Aside.mk r1
  have R2 := Aside.mk r2
  have O1 := Aside.mk o1
  have O2 := Aside.mk o2
  obtain ⟨n1, n2⟩ := own_num o1
  obtain ⟨n3, n4⟩ := own_num o2
  have hk := own_kind o1
  have hk' := own_kind o2
  have kb : 1 ≤ k ∧ k ≤ 9 := by omega
  have kb' : 1 ≤ k' ∧ k' ≤ 9 := by omega
  obtain ⟨kb1, kb2⟩ := kb
  obtain ⟨kb3, kb4⟩ := kb'
  show Calls Try.prog 74 #[.agg #[.int .i64 k, .int .i64 n, .string s, .slice A1 ts.length c1], .agg #[.int .i64 k', .int .i64 n', .string s', .slice A2 us.length c2]] w _
  clear ih h1 h2 ha hb hta htb hra hrb r1 r2 o1 o2 hk'
  have L1 := wt_len WT
  have L2 := wt_len WU
  by_cases e1 : k = k'
  rotate_left
  · obtain ⟨res, hres⟩ : ∃ r, r = T.cmp (.mk k n s ts) (.mk k' n' s' us) := ⟨_, rfl⟩
    rw [← hres]
    have E : Aside (res = sgn (k - k') 0) := ⟨by rw [hres, T.cmp_eq, if_pos e1, sgn_sub]⟩
    have h0 : (k != k') = true := by simpa using e1
    clear e1 hk hres n1 n2 n3 n4
    go_enter Try.func74, Try.ntmps74
    go_wp2_with fail
    refine (sign _ _).mono ?_
    rintro e w' ⟨rfl, rfl⟩
    go_wp2
    go_ret
    exact ⟨ret_int E.out.symm, by go_grown⟩
  subst e1
  clear kb3 kb4
  rcases hk with rfl | rfl | rfl | rfl | rfl | rfl | rfl | rfl | rfl
  · rw [cmp_n O1.out O2.out (by decide), ← sgn_sub]
    go_enter Try.func74, Try.ntmps74
    go_wp2_with fail
    refine (sign _ _).mono ?_
    rintro e w' ⟨rfl, rfl⟩
    go_wp2
    go_ret
    exact ⟨rfl, by go_grown⟩
  · rw [cmp_s O1.out O2.out (by decide)]
    go_enter Try.func74, Try.ntmps74
    go_wp2_with fail
    refine (strCompare s s' _).mono ?_
    rintro e w' ⟨rfl, rfl⟩
    go_wp2
    go_ret
    exact ⟨rfl, by go_grown⟩
  · rw [cmp_n O1.out O2.out (by decide), ← sgn_sub]
    go_enter Try.func74, Try.ntmps74
    go_wp2_with fail
    refine (sign _ _).mono ?_
    rintro e w' ⟨rfl, rfl⟩
    go_wp2
    go_ret
    exact ⟨rfl, by go_grown⟩
  · rw [cmp_f O1.out O2.out, kids_46 (by decide)]
    by_cases e2 : n = n'
    rotate_left
    · rw [if_pos e2, ← sgn_sub]
      have h0 : (n != n') = true := by simpa using e2
      clear e2
      go_enter Try.func74, Try.ntmps74
      go_wp2_with fail
      refine (sign _ _).mono ?_
      rintro e w' ⟨rfl, rfl⟩
      go_wp2
      go_ret
      exact ⟨rfl, by go_grown⟩
    subst e2
    rw [if_neg (by simp)]
    by_cases e3 : ts.length = us.length
    rotate_left
    · rw [if_pos e3, ← sgn_sub]
      have h0 : ((ts.length : Int) != (us.length : Int)) = true := by simp; omega
      clear e3
      go_enter Try.func74, Try.ntmps74
      go_wp2_with fail
      refine (sign _ _).mono ?_
      rintro e w' ⟨rfl, rfl⟩
      go_wp2
      go_ret
      exact ⟨rfl, by go_grown⟩
    rw [if_neg (by simpa using e3)]
    have h0 : ((ts.length : Int) != (us.length : Int)) = false := by simp; omega
    clear e3
    go_enter Try.func74, Try.ntmps74
    go_wp2_with fail
    refine (compareKids ts us HIH.out _ _ _ (Rec.term.sl.old H1.out (by go_grown)) (Rec.term.sl.old H2.out (by go_grown)) WT WU R1.out R2.out).mono ?_
    rintro e w1 ⟨rfl, hb1⟩
    have B1 : Aside (Below w.heap.size w w1) := ⟨below_later (by go_grown) hb1⟩
    clear hb1
    go_wp2
    go_ret
    exact ⟨rfl, B1.out⟩
  · rw [cmp_n O1.out O2.out (by decide), ← sgn_sub]
    go_enter Try.func74, Try.ntmps74
    go_wp2_with fail
    refine (sign _ _).mono ?_
    rintro e w' ⟨rfl, rfl⟩
    go_wp2
    go_ret
    exact ⟨rfl, by go_grown⟩
  · rw [cmp_k O1.out O2.out (by decide), kids_46 (by decide)]
    by_cases e3 : ts.length = us.length
    rotate_left
    · rw [if_pos e3, ← sgn_sub]
      have h0 : ((ts.length : Int) != (us.length : Int)) = true := by simp; omega
      clear e3
      go_enter Try.func74, Try.ntmps74
      go_wp2_with fail
      refine (sign _ _).mono ?_
      rintro e w' ⟨rfl, rfl⟩
      go_wp2
      go_ret
      exact ⟨rfl, by go_grown⟩
    rw [if_neg (by simpa using e3)]
    have h0 : ((ts.length : Int) != (us.length : Int)) = false := by simp; omega
    clear e3
    go_enter Try.func74, Try.ntmps74
    go_wp2_with fail
    refine (compareKids ts us HIH.out _ _ _ (Rec.term.sl.old H1.out (by go_grown)) (Rec.term.sl.old H2.out (by go_grown)) WT WU R1.out R2.out).mono ?_
    rintro e w1 ⟨rfl, hb1⟩
    have B1 : Aside (Below w.heap.size w w1) := ⟨below_later (by go_grown) hb1⟩
    clear hb1
    go_wp2
    go_ret
    exact ⟨rfl, B1.out⟩
  · rw [cmp_k O1.out O2.out (by decide), kids_7]
    by_cases e3 : ts.length = us.length
    rotate_left
    · rw [if_pos e3, ← sgn_sub]
      have h0 : ((ts.length : Int) != (us.length : Int)) = true := by simp; omega
      clear e3
      go_enter Try.func74, Try.ntmps74
      go_wp2_with fail
      refine (sign _ _).mono ?_
      rintro e w' ⟨rfl, rfl⟩
      go_wp2
      go_ret
      exact ⟨rfl, by go_grown⟩
    rw [if_neg (by simpa using e3)]
    exact compare7 n n' s s' ts us HIH.out A1 A2 c1 c2 w H1.out H2.out WT WU R1.out R2.out e3
  · rw [cmp_k O1.out O2.out (by decide), kids_8]
    go_enter Try.func74, Try.ntmps74
    go_wp2_with fail
    refine (compareKids ts us HIH.out _ _ _ (Rec.term.sl.old H1.out (by go_grown)) (Rec.term.sl.old H2.out (by go_grown)) WT WU R1.out R2.out).mono ?_
    rintro e w1 ⟨rfl, hb1⟩
    have B1 : Aside (Below w.heap.size w w1) := ⟨below_later (by go_grown) hb1⟩
    clear hb1
    go_wp2
    go_ret
    exact ⟨rfl, B1.out⟩
  · rw [cmp_s O1.out O2.out (by decide)]
    go_enter Try.func74, Try.ntmps74
    go_wp2_with fail
    refine (strCompare s s' _).mono ?_
    rintro e w' ⟨rfl, rfl⟩
    go_wp2
    go_ret
    exact ⟨rfl, by go_grown⟩
end Go.Proofs.Ytdldgchkinflmaa.Fn
