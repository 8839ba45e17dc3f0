/- Walk of the program's ReportOK. Conditions: those of each theorem. -/
import Derived.Test.YtdldgchkinflmaaRep1
set_option linter.unusedVariables false
namespace Go.Proofs.Ytdldgchkinflmaa.Fn
open Go.RowKit Go.Proofs.Ytdldgchkinflmaa.Lib Go.Proofs.Ytdldgchkinflmaa.Plan
attribute [local go_sem] look_tmp look_const look_func look_global lookT_nil lookT_hit lookT_miss

set_option maxRecDepth 100000 in
set_option maxHeartbeats 2000000 in
theorem termsOK (xs : List T) (v : Value) (w : World) (h : Rec.term.sl.rd False w (Old w) xs [v]) (hw : Rec.term.sl.wt xs ≤ 1048576) :
    Calls Try.prog 176 #[v] w fun e w' => e = .returned (.bool (xs.all T.okB)) ∧ Below w.heap.size w w' := by
  obtain ⟨A, cap, he, hcap, hs⟩ := h
  injection he with he _
  subst he
  have HS := Aside.mk hs
  have HW := Aside.mk (wt_kid hw)
  have L1 := wt_len hw
  have HBAD : Aside (∀ (j : Nat) (h : j < xs.length), xs[j].okB = false → xs.all T.okB = false) := ⟨fun j hj h => all_bad hj h⟩
  have HGOOD : Aside ((∀ (j : Nat) (h : j < xs.length), xs[j].okB = true) → xs.all T.okB = true) := ⟨fun h => all_good h⟩
  generalize xs.all T.okB = res at HBAD HGOOD ⊢
  obtain ⟨n, hln⟩ : ∃ n, n = xs.length := ⟨_, rfl⟩
  have HN := Aside.mk hln
  rw [← hln] at L1 hcap ⊢
  clear hs hln hw
  go_enter Try.func176, Try.ntmps176
  go_wp2_with fail
  go_loopw [7] (fun iv wr => ∃ i : Nat, i ≤ n ∧ iv = .int .i64 i ∧ Aside (∀ (j : Nat) (h : j < xs.length), j < i → xs[j].okB = true) ∧ Aside (Below w.heap.size w wr)) (fun iv _ => n - (intOf iv).toNat)
  case atStart => exact ⟨0, Nat.zero_le _, rfl, ⟨fun j _ h => absurd h (Nat.not_lt_zero _)⟩, ⟨Below.refl _ _⟩⟩
  case round =>
    obtain ⟨i, hi, rfl, hall, hb0⟩ := hrel
    by_cases hlt : i < n
    rotate_left
    · obtain rfl : i = n := by omega
      have E : Aside (res = true) := ⟨HGOOD.out (fun j hj => hall.out j hj (by rw [HN.out]; exact hj))⟩
      go_wp2
      go_ret
      exact ⟨ret_bool E.out.symm, hb0.out⟩
    have hlt1 : i < xs.length := by rw [← HN.out]; exact hlt
    rcases HS.out with h0 | ⟨b, o, rfl, hbo, f, hf, -, hrow⟩
    · exfalso; rw [h0] at hlt1; exact absurd hlt1 (Nat.not_lt_zero _)
    obtain ⟨cs1, hr1, hc1⟩ := hrow i hlt1
    obtain ⟨x0, x1, x2, x3a, x3b, x3c, rfl⟩ := shapeTerm hr1
    have hbel2 := hb0.out
    have d10 : wr.cell? ⟨b, o + i * 4, none⟩ = some (.int .i64 x0) := (hbel2.cell (p := ⟨b, o + i * 4 + 0, none⟩) hbo).trans (hc1 0 (by decide))
    have d11 : wr.cell? ⟨b, o + i * 4 + 1, none⟩ = some (.int .i64 x1) := (hbel2.cell (p := ⟨b, o + i * 4 + 1, none⟩) hbo).trans (hc1 1 (by decide))
    have d12 : wr.cell? ⟨b, o + i * 4 + 2, none⟩ = some (.string x2) := (hbel2.cell (p := ⟨b, o + i * 4 + 2, none⟩) hbo).trans (hc1 2 (by decide))
    have d13 : wr.cell? ⟨b, o + i * 4 + 3, none⟩ = some (.slice x3a x3b x3c) := (hbel2.cell (p := ⟨b, o + i * 4 + 3, none⟩) hbo).trans (hc1 3 (by decide))
    have HR1 := Aside.mk (Rec.term.up (Rec.term.mono hr1 (fun c hc => (hf i c hc).1)) (fun _ h => h) (hbel2.alloc hbel2.size (.cells #[.int .i64 x0, .int .i64 x1, .string x2, .slice x3a x3b x3c] 26)))
    have W1 := HW.out i hlt1
    clear hc1 hrow hf hr1 hbel2
    go_wp2_with fail
    refine (iTermOK xs[i] [.int .i64 x0, .int .i64 x1, .string x2, .slice x3a x3b x3c] _ HR1.out W1).mono ?_
    rintro e w2 ⟨rfl, hb2⟩
    have hb3 := Aside.mk (below_later (hb0.out.alloc hb0.out.size (.cells #[.int .i64 x0, .int .i64 x1, .string x2, .slice x3a x3b x3c] 26)) hb2)
    clear d10 d11 d12 d13 HR1 hb2 hb0
    cases hR : xs[i].okB
    · have E : Aside (res = false) := ⟨HBAD.out i hlt1 hR⟩
      clear hR
      go_wp2
      go_ret
      exact ⟨ret_bool E.out.symm, hb3.out⟩
    have hall2 : Aside (∀ (j : Nat) (h : j < xs.length), j < i + 1 → xs[j].okB = true) := ⟨fun j hj hji => by
      by_cases e : j = i
      · subst e; exact hR
      · exact hall.out j hj (by omega)⟩
    clear hR hall
    go_wp2_with fail
    go_roundw
    case rel => exact ⟨i + 1, by omega, by go_num, hall2, hb3⟩
    case measure => first | (simp [intOf]; done) | (simp [intOf]; omega)
set_option maxRecDepth 100000 in
set_option maxHeartbeats 4000000 in
theorem procOK (p : AProc) (cs : List Value) (w : World) (h : RProc.rd False w (Old w) p cs) (hw : RProc.wt p ≤ 1048576) :
    Calls Try.prog 108 #[.agg cs.toArray] w fun e w' => e = .returned (.bool (prB p)) ∧ Below w.heap.size w w' := by
  obtain ⟨p0, p1, p2, p3, p4, p5, p6, p7⟩ := p
  obtain ⟨A, c, B, d, rfl, h5, h6⟩ := proc_parts h
  have hw2 : 0 + (0 + (0 + (0 + (p4.size + (Rec.term.sl.wt p5 + (Rec.int.sl.wt p6 + 0)))))) ≤ 1048576 := hw
  have SZ : p4.size ≤ 9223372036854775807 := by omega
  have W5 : Rec.term.sl.wt p5 ≤ 1048576 := by omega
  have W6 : Rec.int.sl.wt p6 ≤ 1048576 := by omega
  have L5 := wt_len W5
  have L6 : p6.length ≤ 1048576 := by rw [int_wts] at W6; exact W6
  dsimp only at h5 h6
  have HV : Aside (prB (p0, p1, p2, p3, p4, p5, p6, p7) = ((decide (0 ≤ p2) && decide (p2 ≤ 2)) && (nam0B p4 && (decide (p5.length ≤ 500) && (p5.all T.okB && (decide (p6.length ≤ 60) && (riseB true p6 && clkB p7))))))) := ⟨rfl⟩
  generalize prB (p0, p1, p2, p3, p4, p5, p6, p7) = res at HV ⊢
  show Calls Try.prog 108 #[.agg #[.int .i64 p0, .bool p1, .int .i64 p2, .bool p3, .string p4, .slice A p5.length c, .slice B p6.length d, .int .i64 p7]] w fun e w' => e = .returned (.bool res) ∧ Below w.heap.size w w'
  obtain ⟨n5, hn5⟩ : ∃ n, n = p5.length := ⟨_, rfl⟩
  obtain ⟨n6, hn6⟩ : ∃ n, n = p6.length := ⟨_, rfl⟩
  have H5 := Aside.mk h5
  have H6 := Aside.mk h6
  have HL6 : Aside (p6.length ≤ 1048576) := ⟨L6⟩
  rw [← hn5] at H5 HV L5 ⊢
  rw [← hn6] at H6 HV L6 ⊢
  have HN6 := Aside.mk hn6
  have W5A := Aside.mk W5
  clear h h5 h6 hw hw2 W5 W6 hn5 hn6
  by_cases c1 : 0 ≤ p2
  rotate_left
  · have E : Aside (res = false) := ⟨by rw [HV.out, decide_eq_false c1]; rfl⟩
    have q1 : p2 < 0 := by omega
    clear HV
    go_enter Try.func108, Try.ntmps108
    go_wp2_with fail
    go_ret
    exact ⟨ret_bool E.out.symm, by go_grown⟩
  by_cases c2 : p2 ≤ 2
  rotate_left
  · have E : Aside (res = false) := ⟨by rw [HV.out, decide_eq_false c2]; simp⟩
    have q1 : 2 < p2 := by omega
    clear HV
    go_enter Try.func108, Try.ntmps108
    go_wp2_with fail
    go_ret
    exact ⟨ret_bool E.out.symm, by go_grown⟩
  have hname : (p4 = ⟨#[]⟩ ∨ (p4.toList == []) = false) := by
    by_cases h0 : p4.size = 0
    · exact Or.inl (size0 h0 rfl)
    · refine Or.inr ?_
      rw [beq_eq_false_iff_ne, ByteArray.toList_eq]
      intro h
      apply h0
      change p4.data.toList.length = 0
      rw [h]; rfl
  have tail : ∀ (hn : nam0B p4 = true), True := fun _ => trivial
  clear tail
  have HV2 : Aside (res = (nam0B p4 && (decide (n5 ≤ 500) && (p5.all T.okB && (decide (n6 ≤ 60) && (riseB true p6 && clkB p7)))))) := ⟨by rw [HV.out, decide_eq_true c1, decide_eq_true c2]; rfl⟩
  clear HV
  by_cases c3 : n5 ≤ 500
  rotate_left
  · have E : Aside (res = false) := ⟨by rw [HV2.out, decide_eq_false c3]; simp⟩
    have q3 : (500 : Int) < n5 := by omega
    clear HV2
    rcases hname with rfl | hq
    · go_enter Try.func108, Try.ntmps108
      go_wp2_with fail
      go_ret
      exact ⟨ret_bool E.out.symm, by go_grown⟩
    · go_enter Try.func108, Try.ntmps108
      go_wp2_with fail
      refine (nameOK p4 _ SZ).mono ?_
      rintro e w' ⟨rfl, rfl⟩
      cases nameB p4
      all_goals
        go_wp2_with fail
        go_ret
        exact ⟨ret_bool E.out.symm, by go_grown⟩
  have q3 : (n5 : Int) ≤ 500 := by omega
  have HV3 : Aside (res = (nam0B p4 && (p5.all T.okB && (decide (n6 ≤ 60) && (riseB true p6 && clkB p7))))) := ⟨by rw [HV2.out, decide_eq_true c3]; rfl⟩
  clear HV2 c3
  by_cases c4 : n6 ≤ 60
  rotate_left
  · have E : Aside (res = false) := ⟨by rw [HV3.out, decide_eq_false c4]; simp⟩
    have q4 : (60 : Int) < n6 := by omega
    clear HV3
    rcases hname with rfl | hq
    · go_enter Try.func108, Try.ntmps108
      go_wp2_with fail
      refine (termsOK p5 _ _ (Rec.term.sl.old H5.out (by go_grown)) W5A.out).mono ?_
      rintro e w2 ⟨rfl, hb2⟩
      have y0 : w2.cell? ⟨w.heap.size, 6, none⟩ = some (.slice B n6 d) := Blk.cell ((Blk.new w 132 [.int .i64 p0, .bool p1, .int .i64 p2, .bool p3, .string ⟨#[]⟩, .slice A n5 c, .slice B n6 d, .int .i64 p7]).below hb2) 6
      have bel : Below w.heap.size w w2 := below_later (by go_grown) hb2
      clear hb2
      cases p5.all T.okB
      all_goals
        go_wp2_with fail
        go_ret
        exact ⟨ret_bool E.out.symm, by go_grown⟩
    · go_enter Try.func108, Try.ntmps108
      go_wp2_with fail
      refine (nameOK p4 _ SZ).mono ?_
      rintro e w' ⟨rfl, rfl⟩
      cases nameB p4
      · go_wp2_with fail
        go_ret
        exact ⟨ret_bool E.out.symm, by go_grown⟩
      go_wp2_with fail
      refine (termsOK p5 _ _ (Rec.term.sl.old H5.out (by go_grown)) W5A.out).mono ?_
      rintro e w2 ⟨rfl, hb2⟩
      have y0 : w2.cell? ⟨w.heap.size, 6, none⟩ = some (.slice B n6 d) := Blk.cell ((Blk.new w 132 [.int .i64 p0, .bool p1, .int .i64 p2, .bool p3, .string p4, .slice A n5 c, .slice B n6 d, .int .i64 p7]).below hb2) 6
      have bel : Below w.heap.size w w2 := below_later (by go_grown) hb2
      clear hb2
      cases p5.all T.okB
      all_goals
        go_wp2_with fail
        go_ret
        exact ⟨ret_bool E.out.symm, by go_grown⟩
  have q4 : (n6 : Int) ≤ 60 := by omega
  have HV4 : Aside (res = (nam0B p4 && (p5.all T.okB && (riseB true p6 && clkB p7)))) := ⟨by rw [HV3.out, decide_eq_true c4]; rfl⟩
  clear HV3 c4
  rcases hname with rfl | hq
  · have HV5 : Aside (res = (p5.all T.okB && (riseB true p6 && clkB p7))) := ⟨HV4.out⟩
    clear HV4
    go_enter Try.func108, Try.ntmps108
    go_wp2_with fail
    refine (termsOK p5 _ _ (Rec.term.sl.old H5.out (by go_grown)) W5A.out).mono ?_
    rintro e w2 ⟨rfl, hb2⟩
    have k0 := (Blk.new w 132 [.int .i64 p0, .bool p1, .int .i64 p2, .bool p3, .string ⟨#[]⟩, .slice A n5 c, .slice B n6 d, .int .i64 p7]).below hb2
    have y6 : w2.cell? ⟨w.heap.size, 6, none⟩ = some (.slice B n6 d) := k0.cell 6
    have y7 : w2.cell? ⟨w.heap.size, 7, none⟩ = some (.int .i64 p7) := k0.cell 7
    have bel : Below w.heap.size w w2 := below_later (by go_grown) hb2
    clear hb2 k0
    cases hR : p5.all T.okB
    · have E : Aside (res = false) := ⟨by rw [HV5.out, hR]; rfl⟩
      clear HV5 hR
      go_wp2_with fail
      go_ret
      exact ⟨ret_bool E.out.symm, by go_grown⟩
    have HV6 : Aside (res = (riseB true p6 && clkB p7)) := ⟨by rw [HV5.out, hR]; rfl⟩
    clear HV5 hR
    have BEL := Aside.mk bel
    go_wp2_with fail
    refine (rising true p6 _ _ (Rec.int.sl.old H6.out BEL.out) HL6.out).mono ?_
    rintro e w3 ⟨rfl, rfl⟩
    cases hR : riseB true p6
    · have E : Aside (res = false) := ⟨by rw [HV6.out, hR]; rfl⟩
      clear HV6 hR
      go_wp2_with fail
      go_ret
      exact ⟨ret_bool E.out.symm, by go_grown⟩
    have E : Aside (res = clkB p7) := ⟨by rw [HV6.out, hR]; rfl⟩
    clear HV6 hR
    go_wp2_with fail
    refine (inClock p7 _).mono ?_
    rintro e w4 ⟨rfl, rfl⟩
    go_wp2_with fail
    go_ret
    exact ⟨ret_bool E.out.symm, by go_grown⟩
  · have HV5 : Aside (nam0B p4 = nameB p4) := ⟨by
      have : ¬ p4.size = 0 := by
        intro h0
        have := size0 (t := ⟨#[]⟩) h0 rfl
        rw [this, beq_eq_false_iff_ne, ByteArray.toList_eq] at hq
        exact hq rfl
      rw [nam0B, decide_eq_false this]; rfl⟩
    go_enter Try.func108, Try.ntmps108
    go_wp2_with fail
    refine (nameOK p4 _ SZ).mono ?_
    rintro e w' ⟨rfl, rfl⟩
    cases hR : nameB p4
    · have E : Aside (res = false) := ⟨by rw [HV4.out, HV5.out, hR]; rfl⟩
      clear HV4 HV5 hR
      go_wp2_with fail
      go_ret
      exact ⟨ret_bool E.out.symm, by go_grown⟩
    have HV6 : Aside (res = (p5.all T.okB && (riseB true p6 && clkB p7))) := ⟨by rw [HV4.out, HV5.out, hR]; rfl⟩
    clear HV4 HV5 hR
    go_wp2_with fail
    refine (termsOK p5 _ _ (Rec.term.sl.old H5.out (by go_grown)) W5A.out).mono ?_
    rintro e w2 ⟨rfl, hb2⟩
    have k0 := (Blk.new w 132 [.int .i64 p0, .bool p1, .int .i64 p2, .bool p3, .string p4, .slice A n5 c, .slice B n6 d, .int .i64 p7]).below hb2
    have y6 : w2.cell? ⟨w.heap.size, 6, none⟩ = some (.slice B n6 d) := k0.cell 6
    have y7 : w2.cell? ⟨w.heap.size, 7, none⟩ = some (.int .i64 p7) := k0.cell 7
    have bel : Below w.heap.size w w2 := below_later (by go_grown) hb2
    clear hb2 k0
    cases hR : p5.all T.okB
    · have E : Aside (res = false) := ⟨by rw [HV6.out, hR]; rfl⟩
      clear HV6 hR
      go_wp2_with fail
      go_ret
      exact ⟨ret_bool E.out.symm, by go_grown⟩
    have HV7 : Aside (res = (riseB true p6 && clkB p7)) := ⟨by rw [HV6.out, hR]; rfl⟩
    clear HV6 hR
    have BEL := Aside.mk bel
    go_wp2_with fail
    refine (rising true p6 _ _ (Rec.int.sl.old H6.out BEL.out) HL6.out).mono ?_
    rintro e w3 ⟨rfl, rfl⟩
    cases hR : riseB true p6
    · have E : Aside (res = false) := ⟨by rw [HV7.out, hR]; rfl⟩
      clear HV7 hR
      go_wp2_with fail
      go_ret
      exact ⟨ret_bool E.out.symm, by go_grown⟩
    have E : Aside (res = clkB p7) := ⟨by rw [HV7.out, hR]; rfl⟩
    clear HV7 hR
    go_wp2_with fail
    refine (inClock p7 _).mono ?_
    rintro e w4 ⟨rfl, rfl⟩
    go_wp2_with fail
    go_ret
    exact ⟨ret_bool E.out.symm, by go_grown⟩
end Go.Proofs.Ytdldgchkinflmaa.Fn
