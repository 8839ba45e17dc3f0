/- Walk of the reference's TabOK. Conditions: those of each theorem. -/
import Derived.Test.YtdldgchkinflmaaTab1
import Derived.Test.YtdldgchkinflmaaBytes
import Derived.Test.YtdldgchkinflmaaEnv
set_option linter.unusedVariables false
namespace Go.Proofs.Ytdldgchkinflmaa.Fn
open Go.RowKit Go.Proofs.Ytdldgchkinflmaa.Lib Go.Proofs.Ytdldgchkinflmaa.Plan
attribute [local go_sem] look_tmp look_const look_func look_global lookT_nil lookT_hit lookT_miss

set_option maxRecDepth 100000 in
set_option maxHeartbeats 8000000 in
theorem sTabOK (a : ATable) (cs : List Value) (w : World) (h : RTable.rd False w (Old w) a cs) (hw : RTable.wt a ≤ 1048576) :
    Calls Try.prog 35 #[.agg cs.toArray] w fun e w' => e = .returned (.bool (tabB a.1 a.2)) ∧ Below w.heap.size w w' := by
  obtain ⟨ty, rows⟩ := a
  have hw2 : Rec.int.wt ty + Rec.term.sl.wt rows ≤ 1048576 := hw
  have WT : Rec.term.sl.wt rows ≤ 1048576 := by omega
  obtain ⟨_, _, _, _, rfl, p0, q0, i0, j0, -⟩ := h
  have h1 := Rec.term.sl.mono q0 (fun b h => j0 b h)
  obtain rfl := p0
  obtain ⟨A, c1, rfl, hcap, hsl⟩ := h1
  have HS := Aside.mk hsl
  have HW := Aside.mk (wt_kid WT)
  have L1 := wt_len WT
  obtain ⟨res, hres⟩ : ∃ r, r = tabB ty rows := ⟨_, rfl⟩
  show Calls Try.prog 35 #[.agg #[.int .i64 ty, .slice A rows.length c1]] w fun e w' => e = .returned (.bool (tabB ty rows)) ∧ Below w.heap.size w w'
  rw [← hres]
  rw [tabB_S] at hres
  obtain ⟨n, hln⟩ : ∃ n, n = rows.length := ⟨_, rfl⟩
  rw [← hln] at hres hcap L1 ⊢
  have HN := Aside.mk hln
  have HV := Aside.mk hres
  clear hsl q0 i0 j0 hw hw2 WT hres hln
  go_enter Try.func35, Try.ntmps35
  go_wp2_with fail
  refine (between ty 1 3 _).mono ?_
  rintro e w' ⟨rfl, rfl⟩
  cases d0 : (decide (1 ≤ ty) && decide (ty ≤ 3))
  · have E : Aside (res = false) := ⟨by rw [HV.out, show decide (1 ≤ ty ∧ ty ≤ 3) = false by simpa using d0]; rfl⟩
    go_wp2
    go_ret
    exact ⟨ret_bool E.out.symm, by go_grown⟩
  by_cases d1 : n ≤ 500
  rotate_left
  · have E : Aside (res = false) := ⟨by rw [HV.out, decide_eq_false d1]; simp⟩
    have q1 : 500 < (n : Int) := by omega
    clear d1
    go_wp2
    go_ret
    exact ⟨ret_bool E.out.symm, by go_grown⟩
  have E : Aside (res = goS ty (aheadT rows 0) (rows.drop 0)) := ⟨by rw [HV.out, show decide (1 ≤ ty ∧ ty ≤ 3) = true by simpa using d0, decide_eq_true d1]; rfl⟩
  have q1 : (n : Int) ≤ 500 := by omega
  clear HV d0 d1
  have K0 := Aside.mk (Blk.new w 42 [.int .i64 ty, .slice A n c1])
  have B0 : Aside (Below w.heap.size w (w.alloc (.cells #[.int .i64 ty, .slice A n c1] 42))) := ⟨by go_grown⟩
  go_wp2_with fail
  go_loopw [3] (fun v wr => ∃ i : Nat, i ≤ n ∧ v = .int .i64 i ∧ Aside (Blk wr w.heap.size 42 [.int .i64 ty, .slice A n c1]) ∧ Aside (Below w.heap.size w wr) ∧ Aside (res = goS ty (aheadT rows i) (rows.drop i)) ∧ Aside (∀ (j : Nat) (h : j < rows.length), j < i → rowB rows[j] = true)) (fun v _ => n - (intOf v).toNat)
  case atStart => exact ⟨0, Nat.zero_le _, rfl, K0, B0, E, ⟨fun j _ h => absurd h (Nat.not_lt_zero _)⟩⟩
  case round =>
    obtain ⟨i, hi, rfl, hk0, hb0, hres, hall⟩ := hrel
    clear K0 B0 E
    have y0 := hk0.out.cell 0
    have y1 := hk0.out.cell 1
    simp only [List.getElem?_cons_zero, List.getElem?_cons_succ] at y0 y1
    by_cases hlt : i < n
    · have hlt1 : i < rows.length := by rw [← HN.out]; exact hlt
      rcases HS.out with h0 | ⟨b, o, rfl, hrow⟩
      · exfalso; rw [h0] at hlt1; exact absurd hlt1 (Nat.not_lt_zero _)
      have HROW := Aside.mk hrow
      obtain ⟨hbo, f, hf, -, hr⟩ := hrow
      obtain ⟨cs1, hr1, hc1⟩ := hr i hlt1
      obtain ⟨x0, x1, x2, x3a, x3b, x3c, rfl⟩ := shapeTerm hr1
      have hbel2 := hb0.out
      have d10 : wr.cell? ⟨b, o + i * 4, none⟩ = some (.int .i64 x0) := (hbel2.cell (p := ⟨b, o + i * 4 + 0, none⟩) hbo).trans (hc1 0 (by decide))
      have d11 : wr.cell? ⟨b, o + i * 4 + 1, none⟩ = some (.int .i64 x1) := (hbel2.cell (p := ⟨b, o + i * 4 + 1, none⟩) hbo).trans (hc1 1 (by decide))
      have d12 : wr.cell? ⟨b, o + i * 4 + 2, none⟩ = some (.string x2) := (hbel2.cell (p := ⟨b, o + i * 4 + 2, none⟩) hbo).trans (hc1 2 (by decide))
      have d13 : wr.cell? ⟨b, o + i * 4 + 3, none⟩ = some (.slice x3a x3b x3c) := (hbel2.cell (p := ⟨b, o + i * 4 + 3, none⟩) hbo).trans (hc1 3 (by decide))
      have HR1 := Aside.mk (Rec.term.up (w1 := wr) (Rec.term.mono hr1 (fun c hc => (hf i c hc).1)) (fun _ h => h) hbel2)
      have W1 := HW.out i hlt1
      have hstep := Aside.mk (goS_step ty rows i hlt1)
      clear hc1 hr hf hr1 hbel2 hbo
      go_wp2_with fail
      refine (l09Row rows[i] [.int .i64 x0, .int .i64 x1, .string x2, .slice x3a x3b x3c] _ HR1.out W1).mono ?_
      rintro e w2 ⟨rfl, hb2⟩
      have hk2 := Aside.mk (hk0.out.below hb2)
      have hb3 := Aside.mk (below_later hb0.out hb2)
      clear d10 d11 d12 d13 HR1 hb2 hk0 hb0 y0 y1
      cases hR : rowB rows[i]
      · have E : Aside (res = false) := ⟨by rw [hres.out, hstep.out, hR]; rfl⟩
        go_wp2
        go_ret
        exact ⟨ret_bool E.out.symm, hb3.out⟩
      have hres2 : Aside (res = (innerS ty (aheadT rows i) rows[i] && goS ty (aheadT rows (i + 1)) (rows.drop (i + 1)))) := ⟨by rw [hres.out, hstep.out, hR]; rfl⟩
      have HR := Aside.mk hR
      have hall2 : Aside (∀ (j : Nat) (h : j < rows.length), j < i + 1 → rowB rows[j] = true) := ⟨fun j hj hji => by
        by_cases e : j = i
        · subst e; exact HR.out
        · exact hall.out j hj (by omega)⟩
      clear hres hstep hR hall
      go_wp2_with fail
      obtain ⟨w0, rfl⟩ : ∃ w0, w0 = wr := ⟨_, rfl⟩
      go_loopw [4] (fun v wr => ∃ q : Nat, q ≤ i ∧ v = .int .i64 ((q : Int) - 1) ∧ Aside (Blk wr w.heap.size 42 [.int .i64 ty, .slice (some ⟨b, o, none⟩) n c1]) ∧ Aside (Below w.heap.size w wr) ∧ Aside (res = (innerS ty (aheadT rows q) rows[i] && goS ty (aheadT rows (i + 1)) (rows.drop (i + 1))))) (fun v _ => (intOf v + 1).toNat)
      case atStart => exact ⟨i, Nat.le_refl _, rfl, hk2, hb3, hres2⟩
      case round =>
        obtain ⟨q, hq, rfl, hj0, hbel, hv⟩ := hrel
        clear hk2 hb3 hres2
        have z0 := hj0.out.cell 0
        have z1 := hj0.out.cell 1
        simp only [List.getElem?_cons_zero, List.getElem?_cons_succ] at z0 z1
        by_cases hq0 : q = 0
        · subst hq0
          have E : Aside (res = goS ty (aheadT rows (i + 1)) (rows.drop (i + 1))) := ⟨by rw [hv.out]; rfl⟩
          clear hv
          go_wp2_with fail
          go_roundw
          case rel => exact ⟨i + 1, by omega, by go_num, hj0, hbel, E, hall2⟩
          case measure => first | (simp [intOf]; done) | (simp [intOf]; omega)
        obtain ⟨p, rfl⟩ : ∃ p, q = p + 1 := ⟨q - 1, by omega⟩
        have hp1 : p < rows.length := by omega
        obtain ⟨-, -, kp⟩ := rowB_parts (hall2.out p hp1 (by omega))
        obtain ⟨-, -, ki⟩ := rowB_parts (hall2.out i hlt1 (by omega))
        obtain ⟨cap1, bk1, ok1, c10, c11, c12, c1a, c1l, c1c, e10, e11, e12, e13, g10, g11, g12, g13, r1, rr1⟩ := key_cells hbel.out HROW.out p hp1 kp
        obtain ⟨cap2, bk2, ok2, c20, c21, c22, c2a, c2l, c2c, e20, e21, e22, e23, g20, g21, g22, g23, r2, rr2⟩ := key_cells hbel.out HROW.out i hlt1 ki
        have R1 := Aside.mk (Rec.term.old (w1 := wr.drew) r1 (Below.refl _ _).drew)
        have R2 := Aside.mk (Rec.term.old (w1 := wr.drew) r2 (Below.refl _ _).drew)
        have V1 := keyT_wt kp (HW.out p hp1)
        have V2 := keyT_wt ki (HW.out i hlt1)
        have hah := Aside.mk (aheadT_succ rows p hp1)
        have ee : (((p + 1 : Nat) : Int) - 1) = (p : Int) := by omega
        rw [ee]
        have u1 : (p : Int) < n := by omega
        have u2 : (i : Int) < n := by omega
        have kp2 : (0 : Int) < rows[p].kids.length := by omega
        have ki2 : (0 : Int) < rows[i].kids.length := by omega
        have WP := HW.out p hp1
        have WI := HW.out i hlt1
        clear r1 r2 rr1 rr2 ee
        go_wp2_with fail
        go_still_tail 16, (by kernel_rfl)
        change wpList _ _ _ _ _ wr.drew
        go_wp2_with fail
        refine (l01Cmp (keyT rows[p]) (keyT rows[i]) [.int .i64 c10, .int .i64 c11, .string c12, .slice c1a c1l c1c] [.int .i64 c20, .int .i64 c21, .string c22, .slice c2a c2l c2c] _ R1.out R2.out V1 V2).mono ?_
        rintro e w3 ⟨rfl, hb3⟩
        have hbel3 := below_later hbel.out.drew hb3
        have hj3 := hj0.out.drew.below hb3
        have HJ3 := Aside.mk hj3
        have HB3 := Aside.mk hbel3
        have z30 := hj3.cell 0
        have z31 := hj3.cell 1
        simp only [List.getElem?_cons_zero, List.getElem?_cons_succ] at z30 z31
        clear e10 e11 e12 e13 g10 g11 g12 g13 e20 e21 e22 e23 g20 g21 g22 g23 R1 R2 V1 V2 hb3 hbel3 hj3 z0 z1 hbel hj0
        obtain ⟨cap3, bk3, ok3, c30, c31, c32, c3a, c3l, c3c, e10, e11, e12, e13, -, -, -, -, -, rr1⟩ := key_cells HB3.out HROW.out p hp1 kp
        obtain ⟨cap4, bk4, ok4, c40, c41, c42, c4a, c4l, c4c, e20, e21, e22, e23, -, -, -, -, -, rr2⟩ := key_cells HB3.out HROW.out i hlt1 ki
        have R1 := Aside.mk (Rec.term.old (w1 := w3.drew) rr1 (Below.refl _ _).drew)
        have R2 := Aside.mk (Rec.term.old (w1 := w3.drew) rr2 (Below.refl _ _).drew)
        clear rr1 rr2
        have hinn : Aside (res = ((if 0 < T.cmp (keyT rows[p]) (keyT rows[i]) ∨ (T.cmp (keyT rows[p]) (keyT rows[i]) = 0 ∧ ty = 1) ∨ (ty = 2 ∧ T.cmp rows[p] rows[i] = 0) then false
          else if T.cmp (keyT rows[p]) (keyT rows[i]) < 0 then true else innerS ty (aheadT rows p) rows[i]) && goS ty (aheadT rows (i + 1)) (rows.drop (i + 1)))) := ⟨by rw [hv.out, hah.out, innerS]⟩
        generalize T.cmp (keyT rows[p]) (keyT rows[i]) = c at hinn ⊢
        clear hv hah
        have hbo3 : b < w3.heap.size := Nat.lt_of_lt_of_le HROW.out.1 HB3.out.size
        have h03 : w.heap.size < w3.heap.size := HJ3.out.lt
        by_cases hA : 0 < c
        · have E : Aside (res = false) := ⟨by rw [hinn.out, if_pos (Or.inl hA)]; rfl⟩
          clear hinn
          go_wp2_with fail
          refine region_env [(0, true), (1, true), (2, true), (3, true), (4, true), (5, true), (6, true), (7, true), (8, true), (9, true), (10, true), (11, true), (12, true), (13, true), (14, true), (15, true), (16, true), (17, true), (18, true), (19, true), (20, true), (21, true), (22, true), (23, true), (24, true), (25, true), (26, true), (27, true), (28, true)] (fun w' => Below w3.heap.size w3 w') 84 rfl (by kernel_rfl) (by kernel_rfl) (fun _ _ d _ _ h => by cases d <;> exact h) ((Below.refl _ _).drew) (fun ops fr HFR HSZ hl => ?_)
          have hl_0 := ops_start hl
          clear hl
          obtain ⟨H0, hl_1⟩ := ops_next 0 1 rfl hl_0
          clear hl_0
          obtain ⟨H1, hl_2⟩ := ops_next 1 2 rfl hl_1
          clear hl_1
          obtain ⟨H2, hl_3⟩ := ops_next 2 3 rfl hl_2
          clear hl_2
          obtain ⟨H3, hl_4⟩ := ops_next 3 4 rfl hl_3
          clear hl_3
          obtain ⟨H4, hl_5⟩ := ops_next 4 5 rfl hl_4
          clear hl_4
          obtain ⟨H5, hl_6⟩ := ops_next 5 6 rfl hl_5
          clear hl_5
          obtain ⟨H6, hl_7⟩ := ops_next 6 7 rfl hl_6
          clear hl_6
          obtain ⟨H7, hl_8⟩ := ops_next 7 8 rfl hl_7
          clear hl_7
          obtain ⟨H8, hl_9⟩ := ops_next 8 9 rfl hl_8
          clear hl_8
          obtain ⟨H9, hl_10⟩ := ops_next 9 10 rfl hl_9
          clear hl_9
          obtain ⟨H10, hl_11⟩ := ops_next 10 11 rfl hl_10
          clear hl_10
          obtain ⟨H11, hl_12⟩ := ops_next 11 12 rfl hl_11
          clear hl_11
          obtain ⟨H12, hl_13⟩ := ops_next 12 13 rfl hl_12
          clear hl_12
          obtain ⟨H13, hl_14⟩ := ops_next 13 14 rfl hl_13
          clear hl_13
          obtain ⟨H14, hl_15⟩ := ops_next 14 15 rfl hl_14
          clear hl_14
          obtain ⟨H15, hl_16⟩ := ops_next 15 16 rfl hl_15
          clear hl_15
          obtain ⟨H16, hl_17⟩ := ops_next 16 17 rfl hl_16
          clear hl_16
          obtain ⟨H17, hl_18⟩ := ops_next 17 18 rfl hl_17
          clear hl_17
          obtain ⟨H18, hl_19⟩ := ops_next 18 19 rfl hl_18
          clear hl_18
          obtain ⟨H19, hl_20⟩ := ops_next 19 20 rfl hl_19
          clear hl_19
          obtain ⟨H20, hl_21⟩ := ops_next 20 21 rfl hl_20
          clear hl_20
          obtain ⟨H21, hl_22⟩ := ops_next 21 22 rfl hl_21
          clear hl_21
          obtain ⟨H22, hl_23⟩ := ops_next 22 23 rfl hl_22
          clear hl_22
          obtain ⟨H23, hl_24⟩ := ops_next 23 24 rfl hl_23
          clear hl_23
          obtain ⟨H24, hl_25⟩ := ops_next 24 25 rfl hl_24
          clear hl_24
          obtain ⟨H25, hl_26⟩ := ops_next 25 26 rfl hl_25
          clear hl_25
          obtain ⟨H26, hl_27⟩ := ops_next 26 27 rfl hl_26
          clear hl_26
          obtain ⟨H27, hl_28⟩ := ops_next 27 28 rfl hl_27
          clear hl_27
          obtain ⟨H28, hl_29⟩ := ops_next 28 29 rfl hl_28
          clear hl_28
          clear hl_29
          have x_5 : ext fr 5 = _ := congrArg (fun a => Act.eval a (.tmp 5)) HFR.out
          conv at x_5 => rhs; simp only [Act.eval, Array.getD_eq_getD_getElem?, List.getElem?_toArray, List.getElem?_cons_succ, List.getElem?_cons_zero, Option.getD_some]
          refine env_yes HSZ H0.out ?_ (fun w' hS => ?_) ?_
          rotate_left
          (go_simp
           rfl)
          refine env_yes HSZ H1.out ?_ (fun w' hS => ?_) ?_
          rotate_left
          (go_simp
           rfl)
          refine env_yes HSZ H2.out ?_ (fun w' hS => ?_) ?_
          rotate_left
          (go_simp
           rfl)
          refine env_off HSZ H3.out H2.out (by first | rfl | go_simp) ?_
          refine env_off HSZ H4.out H2.out (by first | rfl | go_simp) ?_
          refine env_off HSZ H5.out H2.out (by first | rfl | go_simp) ?_
          refine env_off_undef HSZ H6.out H5.out (by first | rfl | go_simp) ?_
          refine env_off_undef HSZ H7.out H5.out (by first | rfl | go_simp) ?_
          refine env_off_undef HSZ H8.out H5.out (by first | rfl | go_simp) ?_
          refine env_off HSZ H9.out H2.out (by first | rfl | go_simp) ?_
          refine env_yes HSZ H10.out ?_ (fun w' hS => ?_) ?_
          rotate_left
          (go_simp
           rfl)
          refine env_yes HSZ H11.out ?_ (fun w' hS => ?_) ?_
          rotate_left
          (go_simp
           rfl)
          refine env_off HSZ H12.out H11.out (by first | rfl | go_simp) ?_
          refine env_off HSZ H13.out H11.out (by first | rfl | go_simp) ?_
          refine env_off HSZ H14.out H11.out (by first | rfl | go_simp) ?_
          refine env_off HSZ H15.out H11.out (by first | rfl | go_simp) ?_
          refine env_off_undef HSZ H16.out H15.out (by first | rfl | go_simp) ?_
          refine env_off_undef HSZ H17.out H15.out (by first | rfl | go_simp) ?_
          refine env_off_undef HSZ H18.out H15.out (by first | rfl | go_simp) ?_
          refine env_off_undef HSZ H19.out H15.out (by first | rfl | go_simp) ?_
          refine env_off_undef HSZ H20.out H15.out (by first | rfl | go_simp) ?_
          refine env_off_undef HSZ H21.out H15.out (by first | rfl | go_simp) ?_
          refine env_off_undef HSZ H22.out H15.out (by first | rfl | go_simp) ?_
          refine env_off_undef HSZ H23.out H15.out (by first | rfl | go_simp) ?_
          refine env_off_undef HSZ H24.out H15.out (by first | rfl | go_simp) ?_
          refine env_off_undef HSZ H25.out H15.out (by first | rfl | go_simp) ?_
          refine env_off_undef HSZ H26.out H15.out (by first | rfl | go_simp) ?_
          refine env_off HSZ H27.out H11.out (by first | rfl | go_simp) ?_
          refine env_yes HSZ H28.out ?_ (fun w' hS => ?_) ?_
          rotate_left
          (go_simp
           rfl)
          refine env_end ?_
          have hfr := HFR.out
          clear HFR HSZ H0 H1 H2 H3 H4 H5 H6 H7 H8 H9 H10 H11 H12 H13 H14 H15 H16 H17 H18 H19 H20 H21 H22 H23 H24 H25 H26 H27 H28 x_5
          subst hfr
          simp only [putAll, Act.put, List.setIfInBounds_toArray, List.set_cons_succ, List.set_cons_zero]
          go_wp2_with fail
          go_ret
          exact ⟨ret_bool E.out.symm, HB3.out.drew⟩
        by_cases hB : c = 0
        · subst hB
          clear hA
          by_cases h1 : ty = 1
          · subst h1
            have E : Aside (res = false) := ⟨by rw [hinn.out, if_pos (Or.inr (Or.inl ⟨rfl, rfl⟩))]; rfl⟩
            clear hinn
            go_wp2_with fail
            refine region_env [(0, true), (1, true), (2, true), (3, true), (4, true), (5, true), (6, true), (7, true), (8, true), (9, true), (10, true), (11, true), (12, true), (13, true), (14, true), (15, true), (16, true), (17, true), (18, true), (19, true), (20, true), (21, true), (22, true), (23, true), (24, true), (25, true), (26, true), (27, true), (28, true)] (fun w' => Below w3.heap.size w3 w') 84 rfl (by kernel_rfl) (by kernel_rfl) (fun _ _ d _ _ h => by cases d <;> exact h) ((Below.refl _ _).drew) (fun ops fr HFR HSZ hl => ?_)
            have hl_0 := ops_start hl
            clear hl
            obtain ⟨H0, hl_1⟩ := ops_next 0 1 rfl hl_0
            clear hl_0
            obtain ⟨H1, hl_2⟩ := ops_next 1 2 rfl hl_1
            clear hl_1
            obtain ⟨H2, hl_3⟩ := ops_next 2 3 rfl hl_2
            clear hl_2
            obtain ⟨H3, hl_4⟩ := ops_next 3 4 rfl hl_3
            clear hl_3
            obtain ⟨H4, hl_5⟩ := ops_next 4 5 rfl hl_4
            clear hl_4
            obtain ⟨H5, hl_6⟩ := ops_next 5 6 rfl hl_5
            clear hl_5
            obtain ⟨H6, hl_7⟩ := ops_next 6 7 rfl hl_6
            clear hl_6
            obtain ⟨H7, hl_8⟩ := ops_next 7 8 rfl hl_7
            clear hl_7
            obtain ⟨H8, hl_9⟩ := ops_next 8 9 rfl hl_8
            clear hl_8
            obtain ⟨H9, hl_10⟩ := ops_next 9 10 rfl hl_9
            clear hl_9
            obtain ⟨H10, hl_11⟩ := ops_next 10 11 rfl hl_10
            clear hl_10
            obtain ⟨H11, hl_12⟩ := ops_next 11 12 rfl hl_11
            clear hl_11
            obtain ⟨H12, hl_13⟩ := ops_next 12 13 rfl hl_12
            clear hl_12
            obtain ⟨H13, hl_14⟩ := ops_next 13 14 rfl hl_13
            clear hl_13
            obtain ⟨H14, hl_15⟩ := ops_next 14 15 rfl hl_14
            clear hl_14
            obtain ⟨H15, hl_16⟩ := ops_next 15 16 rfl hl_15
            clear hl_15
            obtain ⟨H16, hl_17⟩ := ops_next 16 17 rfl hl_16
            clear hl_16
            obtain ⟨H17, hl_18⟩ := ops_next 17 18 rfl hl_17
            clear hl_17
            obtain ⟨H18, hl_19⟩ := ops_next 18 19 rfl hl_18
            clear hl_18
            obtain ⟨H19, hl_20⟩ := ops_next 19 20 rfl hl_19
            clear hl_19
            obtain ⟨H20, hl_21⟩ := ops_next 20 21 rfl hl_20
            clear hl_20
            obtain ⟨H21, hl_22⟩ := ops_next 21 22 rfl hl_21
            clear hl_21
            obtain ⟨H22, hl_23⟩ := ops_next 22 23 rfl hl_22
            clear hl_22
            obtain ⟨H23, hl_24⟩ := ops_next 23 24 rfl hl_23
            clear hl_23
            obtain ⟨H24, hl_25⟩ := ops_next 24 25 rfl hl_24
            clear hl_24
            obtain ⟨H25, hl_26⟩ := ops_next 25 26 rfl hl_25
            clear hl_25
            obtain ⟨H26, hl_27⟩ := ops_next 26 27 rfl hl_26
            clear hl_26
            obtain ⟨H27, hl_28⟩ := ops_next 27 28 rfl hl_27
            clear hl_27
            obtain ⟨H28, hl_29⟩ := ops_next 28 29 rfl hl_28
            clear hl_28
            clear hl_29
            have x_5 : ext fr 5 = _ := congrArg (fun a => Act.eval a (.tmp 5)) HFR.out
            conv at x_5 => rhs; simp only [Act.eval, Array.getD_eq_getD_getElem?, List.getElem?_toArray, List.getElem?_cons_succ, List.getElem?_cons_zero, Option.getD_some]
            have x_1 : ext fr 1 = _ := congrArg (fun a => Act.eval a (.tmp 1)) HFR.out
            conv at x_1 => rhs; simp only [Act.eval, Array.getD_eq_getD_getElem?, List.getElem?_toArray, List.getElem?_cons_succ, List.getElem?_cons_zero, Option.getD_some]
            refine env_yes HSZ H0.out ?_ (fun w' hS => ?_) ?_
            rotate_left
            (go_simp
             rfl)
            refine env_yes HSZ H1.out ?_ (fun w' hS => ?_) ?_
            rotate_left
            (go_simp
             rfl)
            refine env_yes HSZ H2.out ?_ (fun w' hS => ?_) ?_
            rotate_left
            (go_simp
             rfl)
            refine env_on HSZ H3.out H2.out (by first | rfl | go_simp) ?_ (fun w' hS => ?_) ?_
            rotate_left
            (go_simp
             rfl)
            refine env_on HSZ H4.out H2.out (by first | rfl | go_simp) ?_ (fun w' hS => ?_) ?_
            rotate_left
            (go_simp
             rfl)
            refine env_on HSZ H5.out H2.out (by first | rfl | go_simp) ?_ (fun w' hS => ?_) ?_
            rotate_left
            (go_simp
             rfl)
            refine env_on HSZ H6.out H5.out (by first | rfl | go_simp) ?_ (fun w' hS => ?_) ?_
            rotate_left
            (go_simp
             rfl)
            refine env_on HSZ H7.out H5.out (by first | rfl | go_simp) ?_ (fun w' hS => ?_) ?_
            rotate_left
            (have h0 := (hS.cell (p := ⟨w.heap.size, 0, none⟩) h03).trans z30
             go_simp
             rfl)
            refine env_on HSZ H8.out H5.out (by first | rfl | go_simp) ?_ (fun w' hS => ?_) ?_
            rotate_left
            (go_simp
             rfl)
            refine env_on HSZ H9.out H2.out (by first | rfl | go_simp) ?_ (fun w' hS => ?_) ?_
            rotate_left
            (go_simp
             rfl)
            refine env_yes HSZ H10.out ?_ (fun w' hS => ?_) ?_
            rotate_left
            (go_simp
             rfl)
            refine env_yes HSZ H11.out ?_ (fun w' hS => ?_) ?_
            rotate_left
            (go_simp
             rfl)
            refine env_off HSZ H12.out H11.out (by first | rfl | go_simp) ?_
            refine env_off HSZ H13.out H11.out (by first | rfl | go_simp) ?_
            refine env_off HSZ H14.out H11.out (by first | rfl | go_simp) ?_
            refine env_off HSZ H15.out H11.out (by first | rfl | go_simp) ?_
            refine env_off_undef HSZ H16.out H15.out (by first | rfl | go_simp) ?_
            refine env_off_undef HSZ H17.out H15.out (by first | rfl | go_simp) ?_
            refine env_off_undef HSZ H18.out H15.out (by first | rfl | go_simp) ?_
            refine env_off_undef HSZ H19.out H15.out (by first | rfl | go_simp) ?_
            refine env_off_undef HSZ H20.out H15.out (by first | rfl | go_simp) ?_
            refine env_off_undef HSZ H21.out H15.out (by first | rfl | go_simp) ?_
            refine env_off_undef HSZ H22.out H15.out (by first | rfl | go_simp) ?_
            refine env_off_undef HSZ H23.out H15.out (by first | rfl | go_simp) ?_
            refine env_off_undef HSZ H24.out H15.out (by first | rfl | go_simp) ?_
            refine env_off_undef HSZ H25.out H15.out (by first | rfl | go_simp) ?_
            refine env_off_undef HSZ H26.out H15.out (by first | rfl | go_simp) ?_
            refine env_off HSZ H27.out H11.out (by first | rfl | go_simp) ?_
            refine env_yes HSZ H28.out ?_ (fun w' hS => ?_) ?_
            rotate_left
            (go_simp
             rfl)
            refine env_end ?_
            have hfr := HFR.out
            clear HFR HSZ H0 H1 H2 H3 H4 H5 H6 H7 H8 H9 H10 H11 H12 H13 H14 H15 H16 H17 H18 H19 H20 H21 H22 H23 H24 H25 H26 H27 H28 x_5 x_1
            subst hfr
            simp only [putAll, Act.put, List.setIfInBounds_toArray, List.set_cons_succ, List.set_cons_zero]
            go_wp2_with fail
            go_ret
            exact ⟨ret_bool E.out.symm, HB3.out.drew⟩
          have q1 : (ty == 1) = false := by simpa using h1
          by_cases h2 : ty = 2
          · subst h2
            clear q1 h1
            go_wp2_with fail
            refine region_env [(0, true), (1, true), (2, true), (3, true), (4, true), (5, true), (6, true), (7, true), (8, true), (9, true), (10, true), (11, true), (12, true), (13, true), (14, true), (15, true), (16, true), (17, true), (18, true), (19, true), (20, true), (21, true), (22, true), (23, true), (24, true), (25, true), (26, false), (27, true), (28, true)] (fun w' => Below w3.heap.size w3 w') 84 rfl (by kernel_rfl) (by kernel_rfl) (fun _ _ d _ _ h => by cases d <;> exact h) ((Below.refl _ _).drew) (fun ops fr HFR HSZ hl => ?_)
            have hl_0 := ops_start hl
            clear hl
            obtain ⟨H0, hl_1⟩ := ops_next 0 1 rfl hl_0
            clear hl_0
            obtain ⟨H1, hl_2⟩ := ops_next 1 2 rfl hl_1
            clear hl_1
            obtain ⟨H2, hl_3⟩ := ops_next 2 3 rfl hl_2
            clear hl_2
            obtain ⟨H3, hl_4⟩ := ops_next 3 4 rfl hl_3
            clear hl_3
            obtain ⟨H4, hl_5⟩ := ops_next 4 5 rfl hl_4
            clear hl_4
            obtain ⟨H5, hl_6⟩ := ops_next 5 6 rfl hl_5
            clear hl_5
            obtain ⟨H6, hl_7⟩ := ops_next 6 7 rfl hl_6
            clear hl_6
            obtain ⟨H7, hl_8⟩ := ops_next 7 8 rfl hl_7
            clear hl_7
            obtain ⟨H8, hl_9⟩ := ops_next 8 9 rfl hl_8
            clear hl_8
            obtain ⟨H9, hl_10⟩ := ops_next 9 10 rfl hl_9
            clear hl_9
            obtain ⟨H10, hl_11⟩ := ops_next 10 11 rfl hl_10
            clear hl_10
            obtain ⟨H11, hl_12⟩ := ops_next 11 12 rfl hl_11
            clear hl_11
            obtain ⟨H12, hl_13⟩ := ops_next 12 13 rfl hl_12
            clear hl_12
            obtain ⟨H13, hl_14⟩ := ops_next 13 14 rfl hl_13
            clear hl_13
            obtain ⟨H14, hl_15⟩ := ops_next 14 15 rfl hl_14
            clear hl_14
            obtain ⟨H15, hl_16⟩ := ops_next 15 16 rfl hl_15
            clear hl_15
            obtain ⟨H16, hl_17⟩ := ops_next 16 17 rfl hl_16
            clear hl_16
            obtain ⟨H17, hl_18⟩ := ops_next 17 18 rfl hl_17
            clear hl_17
            obtain ⟨H18, hl_19⟩ := ops_next 18 19 rfl hl_18
            clear hl_18
            obtain ⟨H19, hl_20⟩ := ops_next 19 20 rfl hl_19
            clear hl_19
            obtain ⟨H20, hl_21⟩ := ops_next 20 21 rfl hl_20
            clear hl_20
            obtain ⟨H21, hl_22⟩ := ops_next 21 22 rfl hl_21
            clear hl_21
            obtain ⟨H22, hl_23⟩ := ops_next 22 23 rfl hl_22
            clear hl_22
            obtain ⟨H23, hl_24⟩ := ops_next 23 24 rfl hl_23
            clear hl_23
            obtain ⟨H24, hl_25⟩ := ops_next 24 25 rfl hl_24
            clear hl_24
            obtain ⟨H25, hl_26⟩ := ops_next 25 26 rfl hl_25
            clear hl_25
            obtain ⟨H26, hl_27⟩ := ops_next 26 27 rfl hl_26
            clear hl_26
            obtain ⟨H27, hl_28⟩ := ops_next 27 28 rfl hl_27
            clear hl_27
            obtain ⟨H28, hl_29⟩ := ops_next 28 29 rfl hl_28
            clear hl_28
            clear hl_29
            have x_5 : ext fr 5 = _ := congrArg (fun a => Act.eval a (.tmp 5)) HFR.out
            conv at x_5 => rhs; simp only [Act.eval, Array.getD_eq_getD_getElem?, List.getElem?_toArray, List.getElem?_cons_succ, List.getElem?_cons_zero, Option.getD_some]
            have x_1 : ext fr 1 = _ := congrArg (fun a => Act.eval a (.tmp 1)) HFR.out
            conv at x_1 => rhs; simp only [Act.eval, Array.getD_eq_getD_getElem?, List.getElem?_toArray, List.getElem?_cons_succ, List.getElem?_cons_zero, Option.getD_some]
            have x_4 : ext fr 4 = _ := congrArg (fun a => Act.eval a (.tmp 4)) HFR.out
            conv at x_4 => rhs; simp only [Act.eval, Array.getD_eq_getD_getElem?, List.getElem?_toArray, List.getElem?_cons_succ, List.getElem?_cons_zero, Option.getD_some]
            have x_3 : ext fr 3 = _ := congrArg (fun a => Act.eval a (.tmp 3)) HFR.out
            conv at x_3 => rhs; simp only [Act.eval, Array.getD_eq_getD_getElem?, List.getElem?_toArray, List.getElem?_cons_succ, List.getElem?_cons_zero, Option.getD_some]
            refine env_yes HSZ H0.out ?_ (fun w' hS => ?_) ?_
            rotate_left
            (go_simp
             rfl)
            refine env_yes HSZ H1.out ?_ (fun w' hS => ?_) ?_
            rotate_left
            (go_simp
             rfl)
            refine env_yes HSZ H2.out ?_ (fun w' hS => ?_) ?_
            rotate_left
            (go_simp
             rfl)
            refine env_on HSZ H3.out H2.out (by first | rfl | go_simp) ?_ (fun w' hS => ?_) ?_
            rotate_left
            (go_simp
             rfl)
            refine env_on HSZ H4.out H2.out (by first | rfl | go_simp) ?_ (fun w' hS => ?_) ?_
            rotate_left
            (go_simp
             rfl)
            refine env_on HSZ H5.out H2.out (by first | rfl | go_simp) ?_ (fun w' hS => ?_) ?_
            rotate_left
            (go_simp
             rfl)
            refine env_on HSZ H6.out H5.out (by first | rfl | go_simp) ?_ (fun w' hS => ?_) ?_
            rotate_left
            (go_simp
             rfl)
            refine env_on HSZ H7.out H5.out (by first | rfl | go_simp) ?_ (fun w' hS => ?_) ?_
            rotate_left
            (have h0 := (hS.cell (p := ⟨w.heap.size, 0, none⟩) h03).trans z30
             go_simp
             rfl)
            refine env_on HSZ H8.out H5.out (by first | rfl | go_simp) ?_ (fun w' hS => ?_) ?_
            rotate_left
            (go_simp
             rfl)
            refine env_on HSZ H9.out H2.out (by first | rfl | go_simp) ?_ (fun w' hS => ?_) ?_
            rotate_left
            (go_simp
             rfl)
            refine env_yes HSZ H10.out ?_ (fun w' hS => ?_) ?_
            rotate_left
            (go_simp
             rfl)
            refine env_yes HSZ H11.out ?_ (fun w' hS => ?_) ?_
            rotate_left
            (go_simp
             rfl)
            refine env_on HSZ H12.out H11.out (by first | rfl | go_simp) ?_ (fun w' hS => ?_) ?_
            rotate_left
            (go_simp
             rfl)
            refine env_on HSZ H13.out H11.out (by first | rfl | go_simp) ?_ (fun w' hS => ?_) ?_
            rotate_left
            (have h0 := (hS.cell (p := ⟨w.heap.size, 0, none⟩) h03).trans z30
             go_simp
             rfl)
            refine env_on HSZ H14.out H11.out (by first | rfl | go_simp) ?_ (fun w' hS => ?_) ?_
            rotate_left
            (go_simp
             rfl)
            refine env_on HSZ H15.out H11.out (by first | rfl | go_simp) ?_ (fun w' hS => ?_) ?_
            rotate_left
            (go_simp
             rfl)
            refine env_on HSZ H16.out H15.out (by first | rfl | go_simp) ?_ (fun w' hS => ?_) ?_
            rotate_left
            (go_simp
             rfl)
            refine env_on HSZ H17.out H15.out (by first | rfl | go_simp) ?_ (fun w' hS => ?_) ?_
            rotate_left
            (have h0 := (hS.cell (p := ⟨w.heap.size, 1, none⟩) h03).trans z31
             go_simp
             rfl)
            refine env_on HSZ H18.out H15.out (by first | rfl | go_simp) ?_ (fun w' hS => ?_) ?_
            rotate_left
            (go_simp
             rfl)
            refine env_on HSZ H19.out H15.out (by first | rfl | go_simp) ?_ (fun w' hS => ?_) ?_
            rotate_left
            (go_simp
             rfl)
            refine env_on HSZ H20.out H15.out (by first | rfl | go_simp) ?_ (fun w' hS => ?_) ?_
            rotate_left
            (have h0 := (hS.cell (p := ⟨b, o + p * 4, none⟩) hbo3).trans e10
             have h1 := (hS.cell (p := ⟨b, o + p * 4 + 1, none⟩) hbo3).trans e11
             have h2 := (hS.cell (p := ⟨b, o + p * 4 + 2, none⟩) hbo3).trans e12
             have h3 := (hS.cell (p := ⟨b, o + p * 4 + 3, none⟩) hbo3).trans e13
             go_simp
             rfl)
            refine env_on HSZ H21.out H15.out (by first | rfl | go_simp) ?_ (fun w' hS => ?_) ?_
            rotate_left
            (go_simp
             rfl)
            refine env_on HSZ H22.out H15.out (by first | rfl | go_simp) ?_ (fun w' hS => ?_) ?_
            rotate_left
            (have h0 := (hS.cell (p := ⟨w.heap.size, 1, none⟩) h03).trans z31
             go_simp
             rfl)
            refine env_on HSZ H23.out H15.out (by first | rfl | go_simp) ?_ (fun w' hS => ?_) ?_
            rotate_left
            (go_simp
             rfl)
            refine env_on HSZ H24.out H15.out (by first | rfl | go_simp) ?_ (fun w' hS => ?_) ?_
            rotate_left
            (go_simp
             rfl)
            refine env_on HSZ H25.out H15.out (by first | rfl | go_simp) ?_ (fun w' hS => ?_) ?_
            rotate_left
            (have h0 := (hS.cell (p := ⟨b, o + i * 4, none⟩) hbo3).trans e20
             have h1 := (hS.cell (p := ⟨b, o + i * 4 + 1, none⟩) hbo3).trans e21
             have h2 := (hS.cell (p := ⟨b, o + i * 4 + 2, none⟩) hbo3).trans e22
             have h3 := (hS.cell (p := ⟨b, o + i * 4 + 3, none⟩) hbo3).trans e23
             go_simp
             rfl)
            refine env_call_on HSZ H26.out H15.out (by first | rfl | go_simp) ?_ ?_ ?_ ?_
            rotate_left 2
            (go_simp
             first | rfl | (constructor <;> rfl))
            refine (l04Same rows[p] rows[i] [.int .i64 rows[p].kind, .int .i64 rows[p].num, .string rows[p].str, .slice (some ⟨bk3, ok3, none⟩) rows[p].kids.length cap3] [.int .i64 rows[i].kind, .int .i64 rows[i].num, .string rows[i].str, .slice (some ⟨bk4, ok4, none⟩) rows[i].kids.length cap4] _ R1.out R2.out WP WI).mono ?_
            rintro e w4 ⟨rfl, hbn⟩
            have HJ4 := Aside.mk (HJ3.out.drew.below hbn)
            have HB4 := Aside.mk (below_later HB3.out.drew hbn)
            refine ⟨_, rfl, below_later (Below.refl _ _).drew hbn, ?_⟩
            generalize hsk : sameB rows[p] rows[i] = sk
            have HSK := Aside.mk hsk
            clear hsk hbn
            refine env_on HSZ H27.out H11.out (by first | rfl | go_simp) ?_ (fun w' hS => ?_) ?_
            rotate_left
            (go_simp
             rfl)
            refine env_yes HSZ H28.out ?_ (fun w' hS => ?_) ?_
            rotate_left
            (go_simp
             rfl)
            refine env_end ?_
            have hfr := HFR.out
            clear HFR HSZ H0 H1 H2 H3 H4 H5 H6 H7 H8 H9 H10 H11 H12 H13 H14 H15 H16 H17 H18 H19 H20 H21 H22 H23 H24 H25 H26 H27 H28 x_5 x_1 x_4 x_3
            subst hfr
            simp only [putAll, Act.put, List.setIfInBounds_toArray, List.set_cons_succ, List.set_cons_zero]
            clear e10 e11 e12 e13 e20 e21 e22 e23 R1 R2 z30 z31 h03 hbo3
            cases sk
            · have hne : T.cmp rows[p] rows[i] ≠ 0 := by simpa [sameB] using HSK.out
              have E : Aside (res = (innerS 2 (aheadT rows p) rows[i] && goS 2 (aheadT rows (i + 1)) (rows.drop (i + 1)))) := ⟨by rw [hinn.out, if_neg (by omega), if_neg (by omega)]⟩
              clear hinn hne HSK
              go_wp2_with fail
              go_roundw
              case rel => exact ⟨p, by omega, by go_num, HJ4, HB4, E⟩
              case measure => first | (simp [intOf]; done) | (simp [intOf]; omega)
            have heq : T.cmp rows[p] rows[i] = 0 := by simpa [sameB] using HSK.out
            have E : Aside (res = false) := ⟨by rw [hinn.out, if_pos (by simp [heq])]; rfl⟩
            clear hinn heq HSK
            go_wp2_with fail
            go_ret
            exact ⟨ret_bool E.out.symm, HB4.out⟩
          have q2 : (ty == 2) = false := by simpa using h2
          have E : Aside (res = (innerS ty (aheadT rows p) rows[i] && goS ty (aheadT rows (i + 1)) (rows.drop (i + 1)))) := ⟨by rw [hinn.out, if_neg (by omega), if_neg (by omega)]⟩
          clear hinn h1 h2
          go_wp2_with fail
          refine region_env [(0, true), (1, true), (2, true), (3, true), (4, true), (5, true), (6, true), (7, true), (8, true), (9, true), (10, true), (11, true), (12, true), (13, true), (14, true), (15, true), (16, true), (17, true), (18, true), (19, true), (20, true), (21, true), (22, true), (23, true), (24, true), (25, true), (26, true), (27, true), (28, true)] (fun w' => Below w3.heap.size w3 w') 84 rfl (by kernel_rfl) (by kernel_rfl) (fun _ _ d _ _ h => by cases d <;> exact h) ((Below.refl _ _).drew) (fun ops fr HFR HSZ hl => ?_)
          have hl_0 := ops_start hl
          clear hl
          obtain ⟨H0, hl_1⟩ := ops_next 0 1 rfl hl_0
          clear hl_0
          obtain ⟨H1, hl_2⟩ := ops_next 1 2 rfl hl_1
          clear hl_1
          obtain ⟨H2, hl_3⟩ := ops_next 2 3 rfl hl_2
          clear hl_2
          obtain ⟨H3, hl_4⟩ := ops_next 3 4 rfl hl_3
          clear hl_3
          obtain ⟨H4, hl_5⟩ := ops_next 4 5 rfl hl_4
          clear hl_4
          obtain ⟨H5, hl_6⟩ := ops_next 5 6 rfl hl_5
          clear hl_5
          obtain ⟨H6, hl_7⟩ := ops_next 6 7 rfl hl_6
          clear hl_6
          obtain ⟨H7, hl_8⟩ := ops_next 7 8 rfl hl_7
          clear hl_7
          obtain ⟨H8, hl_9⟩ := ops_next 8 9 rfl hl_8
          clear hl_8
          obtain ⟨H9, hl_10⟩ := ops_next 9 10 rfl hl_9
          clear hl_9
          obtain ⟨H10, hl_11⟩ := ops_next 10 11 rfl hl_10
          clear hl_10
          obtain ⟨H11, hl_12⟩ := ops_next 11 12 rfl hl_11
          clear hl_11
          obtain ⟨H12, hl_13⟩ := ops_next 12 13 rfl hl_12
          clear hl_12
          obtain ⟨H13, hl_14⟩ := ops_next 13 14 rfl hl_13
          clear hl_13
          obtain ⟨H14, hl_15⟩ := ops_next 14 15 rfl hl_14
          clear hl_14
          obtain ⟨H15, hl_16⟩ := ops_next 15 16 rfl hl_15
          clear hl_15
          obtain ⟨H16, hl_17⟩ := ops_next 16 17 rfl hl_16
          clear hl_16
          obtain ⟨H17, hl_18⟩ := ops_next 17 18 rfl hl_17
          clear hl_17
          obtain ⟨H18, hl_19⟩ := ops_next 18 19 rfl hl_18
          clear hl_18
          obtain ⟨H19, hl_20⟩ := ops_next 19 20 rfl hl_19
          clear hl_19
          obtain ⟨H20, hl_21⟩ := ops_next 20 21 rfl hl_20
          clear hl_20
          obtain ⟨H21, hl_22⟩ := ops_next 21 22 rfl hl_21
          clear hl_21
          obtain ⟨H22, hl_23⟩ := ops_next 22 23 rfl hl_22
          clear hl_22
          obtain ⟨H23, hl_24⟩ := ops_next 23 24 rfl hl_23
          clear hl_23
          obtain ⟨H24, hl_25⟩ := ops_next 24 25 rfl hl_24
          clear hl_24
          obtain ⟨H25, hl_26⟩ := ops_next 25 26 rfl hl_25
          clear hl_25
          obtain ⟨H26, hl_27⟩ := ops_next 26 27 rfl hl_26
          clear hl_26
          obtain ⟨H27, hl_28⟩ := ops_next 27 28 rfl hl_27
          clear hl_27
          obtain ⟨H28, hl_29⟩ := ops_next 28 29 rfl hl_28
          clear hl_28
          clear hl_29
          have x_5 : ext fr 5 = _ := congrArg (fun a => Act.eval a (.tmp 5)) HFR.out
          conv at x_5 => rhs; simp only [Act.eval, Array.getD_eq_getD_getElem?, List.getElem?_toArray, List.getElem?_cons_succ, List.getElem?_cons_zero, Option.getD_some]
          have x_1 : ext fr 1 = _ := congrArg (fun a => Act.eval a (.tmp 1)) HFR.out
          conv at x_1 => rhs; simp only [Act.eval, Array.getD_eq_getD_getElem?, List.getElem?_toArray, List.getElem?_cons_succ, List.getElem?_cons_zero, Option.getD_some]
          refine env_yes HSZ H0.out ?_ (fun w' hS => ?_) ?_
          rotate_left
          (go_simp
           rfl)
          refine env_yes HSZ H1.out ?_ (fun w' hS => ?_) ?_
          rotate_left
          (go_simp
           rfl)
          refine env_yes HSZ H2.out ?_ (fun w' hS => ?_) ?_
          rotate_left
          (go_simp
           rfl)
          refine env_on HSZ H3.out H2.out (by first | rfl | go_simp) ?_ (fun w' hS => ?_) ?_
          rotate_left
          (go_simp
           rfl)
          refine env_on HSZ H4.out H2.out (by first | rfl | go_simp) ?_ (fun w' hS => ?_) ?_
          rotate_left
          (go_simp
           rfl)
          refine env_on HSZ H5.out H2.out (by first | rfl | go_simp) ?_ (fun w' hS => ?_) ?_
          rotate_left
          (go_simp
           rfl)
          refine env_on HSZ H6.out H5.out (by first | rfl | go_simp) ?_ (fun w' hS => ?_) ?_
          rotate_left
          (go_simp
           rfl)
          refine env_on HSZ H7.out H5.out (by first | rfl | go_simp) ?_ (fun w' hS => ?_) ?_
          rotate_left
          (have h0 := (hS.cell (p := ⟨w.heap.size, 0, none⟩) h03).trans z30
           go_simp
           rfl)
          refine env_on HSZ H8.out H5.out (by first | rfl | go_simp) ?_ (fun w' hS => ?_) ?_
          rotate_left
          (go_simp
           rfl)
          refine env_on HSZ H9.out H2.out (by first | rfl | go_simp) ?_ (fun w' hS => ?_) ?_
          rotate_left
          (go_simp
           rfl)
          refine env_yes HSZ H10.out ?_ (fun w' hS => ?_) ?_
          rotate_left
          (go_simp
           rfl)
          refine env_yes HSZ H11.out ?_ (fun w' hS => ?_) ?_
          rotate_left
          (go_simp
           rfl)
          refine env_on HSZ H12.out H11.out (by first | rfl | go_simp) ?_ (fun w' hS => ?_) ?_
          rotate_left
          (go_simp
           rfl)
          refine env_on HSZ H13.out H11.out (by first | rfl | go_simp) ?_ (fun w' hS => ?_) ?_
          rotate_left
          (have h0 := (hS.cell (p := ⟨w.heap.size, 0, none⟩) h03).trans z30
           go_simp
           rfl)
          refine env_on HSZ H14.out H11.out (by first | rfl | go_simp) ?_ (fun w' hS => ?_) ?_
          rotate_left
          (go_simp
           rfl)
          refine env_on HSZ H15.out H11.out (by first | rfl | go_simp) ?_ (fun w' hS => ?_) ?_
          rotate_left
          (go_simp
           rfl)
          refine env_off HSZ H16.out H15.out (by first | rfl | go_simp) ?_
          refine env_off HSZ H17.out H15.out (by first | rfl | go_simp) ?_
          refine env_off HSZ H18.out H15.out (by first | rfl | go_simp) ?_
          refine env_off HSZ H19.out H15.out (by first | rfl | go_simp) ?_
          refine env_off HSZ H20.out H15.out (by first | rfl | go_simp) ?_
          refine env_off HSZ H21.out H15.out (by first | rfl | go_simp) ?_
          refine env_off HSZ H22.out H15.out (by first | rfl | go_simp) ?_
          refine env_off HSZ H23.out H15.out (by first | rfl | go_simp) ?_
          refine env_off HSZ H24.out H15.out (by first | rfl | go_simp) ?_
          refine env_off HSZ H25.out H15.out (by first | rfl | go_simp) ?_
          refine env_off HSZ H26.out H15.out (by first | rfl | go_simp) ?_
          refine env_on HSZ H27.out H11.out (by first | rfl | go_simp) ?_ (fun w' hS => ?_) ?_
          rotate_left
          (go_simp
           rfl)
          refine env_yes HSZ H28.out ?_ (fun w' hS => ?_) ?_
          rotate_left
          (go_simp
           rfl)
          refine env_end ?_
          have hfr := HFR.out
          clear HFR HSZ H0 H1 H2 H3 H4 H5 H6 H7 H8 H9 H10 H11 H12 H13 H14 H15 H16 H17 H18 H19 H20 H21 H22 H23 H24 H25 H26 H27 H28 x_5 x_1
          subst hfr
          simp only [putAll, Act.put, List.setIfInBounds_toArray, List.set_cons_succ, List.set_cons_zero]
          go_wp2_with fail
          go_roundw
          case rel => exact ⟨p, by omega, by go_num, ⟨HJ3.out.drew⟩, ⟨HB3.out.drew⟩, E⟩
          case measure => first | (simp [intOf]; done) | (simp [intOf]; omega)
        have qB : (c == 0) = false := by simpa using hB
        have hA2 : decide (0 < c) = false := decide_eq_false hA
        have hC : c < 0 := by omega
        have hC2 : decide (c < 0) = true := decide_eq_true hC
        by_cases h2 : ty = 2
        · subst h2
          go_wp2_with fail
          refine region_env [(0, true), (1, true), (2, true), (3, true), (4, true), (5, true), (6, true), (7, true), (8, true), (9, true), (10, true), (11, true), (12, true), (13, true), (14, true), (15, true), (16, true), (17, true), (18, true), (19, true), (20, true), (21, true), (22, true), (23, true), (24, true), (25, true), (26, false), (27, true), (28, true)] (fun w' => Below w3.heap.size w3 w') 84 rfl (by kernel_rfl) (by kernel_rfl) (fun _ _ d _ _ h => by cases d <;> exact h) ((Below.refl _ _).drew) (fun ops fr HFR HSZ hl => ?_)
          have hl_0 := ops_start hl
          clear hl
          obtain ⟨H0, hl_1⟩ := ops_next 0 1 rfl hl_0
          clear hl_0
          obtain ⟨H1, hl_2⟩ := ops_next 1 2 rfl hl_1
          clear hl_1
          obtain ⟨H2, hl_3⟩ := ops_next 2 3 rfl hl_2
          clear hl_2
          obtain ⟨H3, hl_4⟩ := ops_next 3 4 rfl hl_3
          clear hl_3
          obtain ⟨H4, hl_5⟩ := ops_next 4 5 rfl hl_4
          clear hl_4
          obtain ⟨H5, hl_6⟩ := ops_next 5 6 rfl hl_5
          clear hl_5
          obtain ⟨H6, hl_7⟩ := ops_next 6 7 rfl hl_6
          clear hl_6
          obtain ⟨H7, hl_8⟩ := ops_next 7 8 rfl hl_7
          clear hl_7
          obtain ⟨H8, hl_9⟩ := ops_next 8 9 rfl hl_8
          clear hl_8
          obtain ⟨H9, hl_10⟩ := ops_next 9 10 rfl hl_9
          clear hl_9
          obtain ⟨H10, hl_11⟩ := ops_next 10 11 rfl hl_10
          clear hl_10
          obtain ⟨H11, hl_12⟩ := ops_next 11 12 rfl hl_11
          clear hl_11
          obtain ⟨H12, hl_13⟩ := ops_next 12 13 rfl hl_12
          clear hl_12
          obtain ⟨H13, hl_14⟩ := ops_next 13 14 rfl hl_13
          clear hl_13
          obtain ⟨H14, hl_15⟩ := ops_next 14 15 rfl hl_14
          clear hl_14
          obtain ⟨H15, hl_16⟩ := ops_next 15 16 rfl hl_15
          clear hl_15
          obtain ⟨H16, hl_17⟩ := ops_next 16 17 rfl hl_16
          clear hl_16
          obtain ⟨H17, hl_18⟩ := ops_next 17 18 rfl hl_17
          clear hl_17
          obtain ⟨H18, hl_19⟩ := ops_next 18 19 rfl hl_18
          clear hl_18
          obtain ⟨H19, hl_20⟩ := ops_next 19 20 rfl hl_19
          clear hl_19
          obtain ⟨H20, hl_21⟩ := ops_next 20 21 rfl hl_20
          clear hl_20
          obtain ⟨H21, hl_22⟩ := ops_next 21 22 rfl hl_21
          clear hl_21
          obtain ⟨H22, hl_23⟩ := ops_next 22 23 rfl hl_22
          clear hl_22
          obtain ⟨H23, hl_24⟩ := ops_next 23 24 rfl hl_23
          clear hl_23
          obtain ⟨H24, hl_25⟩ := ops_next 24 25 rfl hl_24
          clear hl_24
          obtain ⟨H25, hl_26⟩ := ops_next 25 26 rfl hl_25
          clear hl_25
          obtain ⟨H26, hl_27⟩ := ops_next 26 27 rfl hl_26
          clear hl_26
          obtain ⟨H27, hl_28⟩ := ops_next 27 28 rfl hl_27
          clear hl_27
          obtain ⟨H28, hl_29⟩ := ops_next 28 29 rfl hl_28
          clear hl_28
          clear hl_29
          have x_5 : ext fr 5 = _ := congrArg (fun a => Act.eval a (.tmp 5)) HFR.out
          conv at x_5 => rhs; simp only [Act.eval, Array.getD_eq_getD_getElem?, List.getElem?_toArray, List.getElem?_cons_succ, List.getElem?_cons_zero, Option.getD_some]
          have x_1 : ext fr 1 = _ := congrArg (fun a => Act.eval a (.tmp 1)) HFR.out
          conv at x_1 => rhs; simp only [Act.eval, Array.getD_eq_getD_getElem?, List.getElem?_toArray, List.getElem?_cons_succ, List.getElem?_cons_zero, Option.getD_some]
          have x_4 : ext fr 4 = _ := congrArg (fun a => Act.eval a (.tmp 4)) HFR.out
          conv at x_4 => rhs; simp only [Act.eval, Array.getD_eq_getD_getElem?, List.getElem?_toArray, List.getElem?_cons_succ, List.getElem?_cons_zero, Option.getD_some]
          have x_3 : ext fr 3 = _ := congrArg (fun a => Act.eval a (.tmp 3)) HFR.out
          conv at x_3 => rhs; simp only [Act.eval, Array.getD_eq_getD_getElem?, List.getElem?_toArray, List.getElem?_cons_succ, List.getElem?_cons_zero, Option.getD_some]
          refine env_yes HSZ H0.out ?_ (fun w' hS => ?_) ?_
          rotate_left
          (go_simp
           rfl)
          refine env_yes HSZ H1.out ?_ (fun w' hS => ?_) ?_
          rotate_left
          (go_simp
           rfl)
          refine env_yes HSZ H2.out ?_ (fun w' hS => ?_) ?_
          rotate_left
          (go_simp
           rfl)
          refine env_on HSZ H3.out H2.out (by first | rfl | go_simp) ?_ (fun w' hS => ?_) ?_
          rotate_left
          (go_simp
           rfl)
          refine env_on HSZ H4.out H2.out (by first | rfl | go_simp) ?_ (fun w' hS => ?_) ?_
          rotate_left
          (go_simp
           rfl)
          refine env_on HSZ H5.out H2.out (by first | rfl | go_simp) ?_ (fun w' hS => ?_) ?_
          rotate_left
          (go_simp
           rfl)
          refine env_off HSZ H6.out H5.out (by first | rfl | go_simp) ?_
          refine env_off HSZ H7.out H5.out (by first | rfl | go_simp) ?_
          refine env_off HSZ H8.out H5.out (by first | rfl | go_simp) ?_
          refine env_on HSZ H9.out H2.out (by first | rfl | go_simp) ?_ (fun w' hS => ?_) ?_
          rotate_left
          (go_simp
           rfl)
          refine env_yes HSZ H10.out ?_ (fun w' hS => ?_) ?_
          rotate_left
          (go_simp
           rfl)
          refine env_yes HSZ H11.out ?_ (fun w' hS => ?_) ?_
          rotate_left
          (go_simp
           rfl)
          refine env_on HSZ H12.out H11.out (by first | rfl | go_simp) ?_ (fun w' hS => ?_) ?_
          rotate_left
          (go_simp
           rfl)
          refine env_on HSZ H13.out H11.out (by first | rfl | go_simp) ?_ (fun w' hS => ?_) ?_
          rotate_left
          (have h0 := (hS.cell (p := ⟨w.heap.size, 0, none⟩) h03).trans z30
           go_simp
           rfl)
          refine env_on HSZ H14.out H11.out (by first | rfl | go_simp) ?_ (fun w' hS => ?_) ?_
          rotate_left
          (go_simp
           rfl)
          refine env_on HSZ H15.out H11.out (by first | rfl | go_simp) ?_ (fun w' hS => ?_) ?_
          rotate_left
          (go_simp
           rfl)
          refine env_on HSZ H16.out H15.out (by first | rfl | go_simp) ?_ (fun w' hS => ?_) ?_
          rotate_left
          (go_simp
           rfl)
          refine env_on HSZ H17.out H15.out (by first | rfl | go_simp) ?_ (fun w' hS => ?_) ?_
          rotate_left
          (have h0 := (hS.cell (p := ⟨w.heap.size, 1, none⟩) h03).trans z31
           go_simp
           rfl)
          refine env_on HSZ H18.out H15.out (by first | rfl | go_simp) ?_ (fun w' hS => ?_) ?_
          rotate_left
          (go_simp
           rfl)
          refine env_on HSZ H19.out H15.out (by first | rfl | go_simp) ?_ (fun w' hS => ?_) ?_
          rotate_left
          (go_simp
           rfl)
          refine env_on HSZ H20.out H15.out (by first | rfl | go_simp) ?_ (fun w' hS => ?_) ?_
          rotate_left
          (have h0 := (hS.cell (p := ⟨b, o + p * 4, none⟩) hbo3).trans e10
           have h1 := (hS.cell (p := ⟨b, o + p * 4 + 1, none⟩) hbo3).trans e11
           have h2 := (hS.cell (p := ⟨b, o + p * 4 + 2, none⟩) hbo3).trans e12
           have h3 := (hS.cell (p := ⟨b, o + p * 4 + 3, none⟩) hbo3).trans e13
           go_simp
           rfl)
          refine env_on HSZ H21.out H15.out (by first | rfl | go_simp) ?_ (fun w' hS => ?_) ?_
          rotate_left
          (go_simp
           rfl)
          refine env_on HSZ H22.out H15.out (by first | rfl | go_simp) ?_ (fun w' hS => ?_) ?_
          rotate_left
          (have h0 := (hS.cell (p := ⟨w.heap.size, 1, none⟩) h03).trans z31
           go_simp
           rfl)
          refine env_on HSZ H23.out H15.out (by first | rfl | go_simp) ?_ (fun w' hS => ?_) ?_
          rotate_left
          (go_simp
           rfl)
          refine env_on HSZ H24.out H15.out (by first | rfl | go_simp) ?_ (fun w' hS => ?_) ?_
          rotate_left
          (go_simp
           rfl)
          refine env_on HSZ H25.out H15.out (by first | rfl | go_simp) ?_ (fun w' hS => ?_) ?_
          rotate_left
          (have h0 := (hS.cell (p := ⟨b, o + i * 4, none⟩) hbo3).trans e20
           have h1 := (hS.cell (p := ⟨b, o + i * 4 + 1, none⟩) hbo3).trans e21
           have h2 := (hS.cell (p := ⟨b, o + i * 4 + 2, none⟩) hbo3).trans e22
           have h3 := (hS.cell (p := ⟨b, o + i * 4 + 3, none⟩) hbo3).trans e23
           go_simp
           rfl)
          refine env_call_on HSZ H26.out H15.out (by first | rfl | go_simp) ?_ ?_ ?_ ?_
          rotate_left 2
          (go_simp
           first | rfl | (constructor <;> rfl))
          refine (l04Same rows[p] rows[i] [.int .i64 rows[p].kind, .int .i64 rows[p].num, .string rows[p].str, .slice (some ⟨bk3, ok3, none⟩) rows[p].kids.length cap3] [.int .i64 rows[i].kind, .int .i64 rows[i].num, .string rows[i].str, .slice (some ⟨bk4, ok4, none⟩) rows[i].kids.length cap4] _ R1.out R2.out WP WI).mono ?_
          rintro e w4 ⟨rfl, hbn⟩
          have HJ4 := Aside.mk (HJ3.out.drew.below hbn)
          have HB4 := Aside.mk (below_later HB3.out.drew hbn)
          refine ⟨_, rfl, below_later (Below.refl _ _).drew hbn, ?_⟩
          generalize hsk : sameB rows[p] rows[i] = sk
          have HSK := Aside.mk hsk
          clear hsk hbn
          refine env_on HSZ H27.out H11.out (by first | rfl | go_simp) ?_ (fun w' hS => ?_) ?_
          rotate_left
          (go_simp
           rfl)
          refine env_yes HSZ H28.out ?_ (fun w' hS => ?_) ?_
          rotate_left
          (go_simp
           rfl)
          refine env_end ?_
          have hfr := HFR.out
          clear HFR HSZ H0 H1 H2 H3 H4 H5 H6 H7 H8 H9 H10 H11 H12 H13 H14 H15 H16 H17 H18 H19 H20 H21 H22 H23 H24 H25 H26 H27 H28 x_5 x_1 x_4 x_3
          subst hfr
          simp only [putAll, Act.put, List.setIfInBounds_toArray, List.set_cons_succ, List.set_cons_zero]
          clear e10 e11 e12 e13 e20 e21 e22 e23 R1 R2 z30 z31 h03 hbo3
          cases sk
          · have hne : T.cmp rows[p] rows[i] ≠ 0 := by simpa [sameB] using HSK.out
            have E : Aside (res = goS 2 (aheadT rows (i + 1)) (rows.drop (i + 1))) := ⟨by rw [hinn.out, if_neg (by omega), if_pos hC]; rfl⟩
            clear hinn hne HSK
            go_wp2_with fail
            go_roundw
            case rel => exact ⟨i + 1, by omega, by go_num, HJ4, HB4, E, hall2⟩
            case measure => first | (simp [intOf]; done) | (simp [intOf]; omega)
          have heq : T.cmp rows[p] rows[i] = 0 := by simpa [sameB] using HSK.out
          have E : Aside (res = false) := ⟨by rw [hinn.out, if_pos (by simp [heq])]; rfl⟩
          clear hinn heq HSK
          go_wp2_with fail
          go_ret
          exact ⟨ret_bool E.out.symm, HB4.out⟩
        have q2 : (ty == 2) = false := by simpa using h2
        have E : Aside (res = goS ty (aheadT rows (i + 1)) (rows.drop (i + 1))) := ⟨by rw [hinn.out, if_neg (by omega), if_pos hC]; rfl⟩
        clear hinn h2
        go_wp2_with fail
        refine region_env [(0, true), (1, true), (2, true), (3, true), (4, true), (5, true), (6, true), (7, true), (8, true), (9, true), (10, true), (11, true), (12, true), (13, true), (14, true), (15, true), (16, true), (17, true), (18, true), (19, true), (20, true), (21, true), (22, true), (23, true), (24, true), (25, true), (26, true), (27, true), (28, true)] (fun w' => Below w3.heap.size w3 w') 84 rfl (by kernel_rfl) (by kernel_rfl) (fun _ _ d _ _ h => by cases d <;> exact h) ((Below.refl _ _).drew) (fun ops fr HFR HSZ hl => ?_)
        have hl_0 := ops_start hl
        clear hl
        obtain ⟨H0, hl_1⟩ := ops_next 0 1 rfl hl_0
        clear hl_0
        obtain ⟨H1, hl_2⟩ := ops_next 1 2 rfl hl_1
        clear hl_1
        obtain ⟨H2, hl_3⟩ := ops_next 2 3 rfl hl_2
        clear hl_2
        obtain ⟨H3, hl_4⟩ := ops_next 3 4 rfl hl_3
        clear hl_3
        obtain ⟨H4, hl_5⟩ := ops_next 4 5 rfl hl_4
        clear hl_4
        obtain ⟨H5, hl_6⟩ := ops_next 5 6 rfl hl_5
        clear hl_5
        obtain ⟨H6, hl_7⟩ := ops_next 6 7 rfl hl_6
        clear hl_6
        obtain ⟨H7, hl_8⟩ := ops_next 7 8 rfl hl_7
        clear hl_7
        obtain ⟨H8, hl_9⟩ := ops_next 8 9 rfl hl_8
        clear hl_8
        obtain ⟨H9, hl_10⟩ := ops_next 9 10 rfl hl_9
        clear hl_9
        obtain ⟨H10, hl_11⟩ := ops_next 10 11 rfl hl_10
        clear hl_10
        obtain ⟨H11, hl_12⟩ := ops_next 11 12 rfl hl_11
        clear hl_11
        obtain ⟨H12, hl_13⟩ := ops_next 12 13 rfl hl_12
        clear hl_12
        obtain ⟨H13, hl_14⟩ := ops_next 13 14 rfl hl_13
        clear hl_13
        obtain ⟨H14, hl_15⟩ := ops_next 14 15 rfl hl_14
        clear hl_14
        obtain ⟨H15, hl_16⟩ := ops_next 15 16 rfl hl_15
        clear hl_15
        obtain ⟨H16, hl_17⟩ := ops_next 16 17 rfl hl_16
        clear hl_16
        obtain ⟨H17, hl_18⟩ := ops_next 17 18 rfl hl_17
        clear hl_17
        obtain ⟨H18, hl_19⟩ := ops_next 18 19 rfl hl_18
        clear hl_18
        obtain ⟨H19, hl_20⟩ := ops_next 19 20 rfl hl_19
        clear hl_19
        obtain ⟨H20, hl_21⟩ := ops_next 20 21 rfl hl_20
        clear hl_20
        obtain ⟨H21, hl_22⟩ := ops_next 21 22 rfl hl_21
        clear hl_21
        obtain ⟨H22, hl_23⟩ := ops_next 22 23 rfl hl_22
        clear hl_22
        obtain ⟨H23, hl_24⟩ := ops_next 23 24 rfl hl_23
        clear hl_23
        obtain ⟨H24, hl_25⟩ := ops_next 24 25 rfl hl_24
        clear hl_24
        obtain ⟨H25, hl_26⟩ := ops_next 25 26 rfl hl_25
        clear hl_25
        obtain ⟨H26, hl_27⟩ := ops_next 26 27 rfl hl_26
        clear hl_26
        obtain ⟨H27, hl_28⟩ := ops_next 27 28 rfl hl_27
        clear hl_27
        obtain ⟨H28, hl_29⟩ := ops_next 28 29 rfl hl_28
        clear hl_28
        clear hl_29
        have x_5 : ext fr 5 = _ := congrArg (fun a => Act.eval a (.tmp 5)) HFR.out
        conv at x_5 => rhs; simp only [Act.eval, Array.getD_eq_getD_getElem?, List.getElem?_toArray, List.getElem?_cons_succ, List.getElem?_cons_zero, Option.getD_some]
        have x_1 : ext fr 1 = _ := congrArg (fun a => Act.eval a (.tmp 1)) HFR.out
        conv at x_1 => rhs; simp only [Act.eval, Array.getD_eq_getD_getElem?, List.getElem?_toArray, List.getElem?_cons_succ, List.getElem?_cons_zero, Option.getD_some]
        refine env_yes HSZ H0.out ?_ (fun w' hS => ?_) ?_
        rotate_left
        (go_simp
         rfl)
        refine env_yes HSZ H1.out ?_ (fun w' hS => ?_) ?_
        rotate_left
        (go_simp
         rfl)
        refine env_yes HSZ H2.out ?_ (fun w' hS => ?_) ?_
        rotate_left
        (go_simp
         rfl)
        refine env_on HSZ H3.out H2.out (by first | rfl | go_simp) ?_ (fun w' hS => ?_) ?_
        rotate_left
        (go_simp
         rfl)
        refine env_on HSZ H4.out H2.out (by first | rfl | go_simp) ?_ (fun w' hS => ?_) ?_
        rotate_left
        (go_simp
         rfl)
        refine env_on HSZ H5.out H2.out (by first | rfl | go_simp) ?_ (fun w' hS => ?_) ?_
        rotate_left
        (go_simp
         rfl)
        refine env_off HSZ H6.out H5.out (by first | rfl | go_simp) ?_
        refine env_off HSZ H7.out H5.out (by first | rfl | go_simp) ?_
        refine env_off HSZ H8.out H5.out (by first | rfl | go_simp) ?_
        refine env_on HSZ H9.out H2.out (by first | rfl | go_simp) ?_ (fun w' hS => ?_) ?_
        rotate_left
        (go_simp
         rfl)
        refine env_yes HSZ H10.out ?_ (fun w' hS => ?_) ?_
        rotate_left
        (go_simp
         rfl)
        refine env_yes HSZ H11.out ?_ (fun w' hS => ?_) ?_
        rotate_left
        (go_simp
         rfl)
        refine env_on HSZ H12.out H11.out (by first | rfl | go_simp) ?_ (fun w' hS => ?_) ?_
        rotate_left
        (go_simp
         rfl)
        refine env_on HSZ H13.out H11.out (by first | rfl | go_simp) ?_ (fun w' hS => ?_) ?_
        rotate_left
        (have h0 := (hS.cell (p := ⟨w.heap.size, 0, none⟩) h03).trans z30
         go_simp
         rfl)
        refine env_on HSZ H14.out H11.out (by first | rfl | go_simp) ?_ (fun w' hS => ?_) ?_
        rotate_left
        (go_simp
         rfl)
        refine env_on HSZ H15.out H11.out (by first | rfl | go_simp) ?_ (fun w' hS => ?_) ?_
        rotate_left
        (go_simp
         rfl)
        refine env_off HSZ H16.out H15.out (by first | rfl | go_simp) ?_
        refine env_off HSZ H17.out H15.out (by first | rfl | go_simp) ?_
        refine env_off HSZ H18.out H15.out (by first | rfl | go_simp) ?_
        refine env_off HSZ H19.out H15.out (by first | rfl | go_simp) ?_
        refine env_off HSZ H20.out H15.out (by first | rfl | go_simp) ?_
        refine env_off HSZ H21.out H15.out (by first | rfl | go_simp) ?_
        refine env_off HSZ H22.out H15.out (by first | rfl | go_simp) ?_
        refine env_off HSZ H23.out H15.out (by first | rfl | go_simp) ?_
        refine env_off HSZ H24.out H15.out (by first | rfl | go_simp) ?_
        refine env_off HSZ H25.out H15.out (by first | rfl | go_simp) ?_
        refine env_off HSZ H26.out H15.out (by first | rfl | go_simp) ?_
        refine env_on HSZ H27.out H11.out (by first | rfl | go_simp) ?_ (fun w' hS => ?_) ?_
        rotate_left
        (go_simp
         rfl)
        refine env_yes HSZ H28.out ?_ (fun w' hS => ?_) ?_
        rotate_left
        (go_simp
         rfl)
        refine env_end ?_
        have hfr := HFR.out
        clear HFR HSZ H0 H1 H2 H3 H4 H5 H6 H7 H8 H9 H10 H11 H12 H13 H14 H15 H16 H17 H18 H19 H20 H21 H22 H23 H24 H25 H26 H27 H28 x_5 x_1
        subst hfr
        simp only [putAll, Act.put, List.setIfInBounds_toArray, List.set_cons_succ, List.set_cons_zero]
        go_wp2_with fail
        go_roundw
        case rel => exact ⟨i + 1, by omega, by go_num, ⟨HJ3.out.drew⟩, ⟨HB3.out.drew⟩, E, hall2⟩
        case measure => first | (simp [intOf]; done) | (simp [intOf]; omega)
    · obtain rfl : i = n := by omega
      have E : Aside (res = true) := ⟨by
        rw [hres.out, List.drop_eq_nil_of_le (by rw [HN.out]; exact Nat.le_refl _)]; rfl⟩
      go_wp2_with fail
      go_ret
      exact ⟨ret_bool E.out.symm, hb0.out⟩
end Go.Proofs.Ytdldgchkinflmaa.Fn
