/- Walk of the program's TabOK. Conditions: those of each theorem. -/
import Derived.Test.YtdldgchkinflmaaTab1
import Derived.Test.YtdldgchkinflmaaEnv
set_option linter.unusedVariables false
namespace Go.Proofs.Ytdldgchkinflmaa.Fn
open Go.RowKit Go.Proofs.Ytdldgchkinflmaa.Lib Go.Proofs.Ytdldgchkinflmaa.Plan
attribute [local go_sem] look_tmp look_const look_func look_global lookT_nil lookT_hit lookT_miss

set_option maxRecDepth 100000 in
set_option maxHeartbeats 8000000 in
theorem iTabOK (a : ATable) (cs : List Value) (w : World) (h : RTable.rd False w (Old w) a cs) (hw : RTable.wt a ≤ 1048576) :
    Calls Try.prog 79 #[.agg cs.toArray] w fun e w' => e = .returned (.bool (tabB a.1 a.2)) ∧ Below w.heap.size w w' := by
  obtain ⟨ty, rows⟩ := a
  have hw2 : Rec.int.wt ty + Rec.term.sl.wt rows ≤ 1048576 := hw
  have WT : Rec.term.sl.wt rows ≤ 1048576 := by omega
  obtain ⟨_, _, _, _, rfl, p0, q0, i0, j0, -⟩ := h
  have h1 := Rec.term.sl.mono q0 (fun b h => j0 b h)
  obtain rfl := p0
  obtain ⟨A, c1, rfl, hcap, hsl⟩ := h1
  have HS := Aside.mk hsl
  have HW := Aside.mk (wt_kid WT)
  have L1 := wt_len WT
  obtain ⟨res, hres⟩ : ∃ r, r = tabB ty rows := ⟨_, rfl⟩
  show Calls Try.prog 79 #[.agg #[.int .i64 ty, .slice A rows.length c1]] w fun e w' => e = .returned (.bool (tabB ty rows)) ∧ Below w.heap.size w w'
  rw [← hres]
  obtain ⟨n, hln⟩ : ∃ n, n = rows.length := ⟨_, rfl⟩
  have hres2 : res = (decide (1 ≤ ty ∧ ty ≤ 3) && (decide (n ≤ 500) && goI ty [] rows)) := by rw [hres, hln]; rfl
  rw [← hln] at hcap L1 ⊢
  have HN := Aside.mk hln
  have HV := Aside.mk hres2
  clear hsl q0 i0 j0 hw hw2 WT hres hres2 hln
  by_cases t1 : ty < 1
  · have E : Aside (res = false) := ⟨by rw [HV.out, decide_eq_false (by omega)]; rfl⟩
    clear HV
    go_enter Try.func79, Try.ntmps79
    go_wp2
    go_ret
    exact ⟨ret_bool E.out.symm, by go_grown⟩
  by_cases t2 : 3 < ty
  · have E : Aside (res = false) := ⟨by rw [HV.out, decide_eq_false (by omega)]; rfl⟩
    clear HV
    go_enter Try.func79, Try.ntmps79
    go_wp2
    go_ret
    exact ⟨ret_bool E.out.symm, by go_grown⟩
  by_cases t3 : 500 < (n : Int)
  · have E : Aside (res = false) := ⟨by rw [HV.out, decide_eq_false (show ¬ n ≤ 500 by omega)]; simp⟩
    clear HV
    go_enter Try.func79, Try.ntmps79
    go_wp2
    go_ret
    exact ⟨ret_bool E.out.symm, by go_grown⟩
  have E : Aside (res = goI ty (aheadT rows 0) (rows.drop 0)) := ⟨by rw [HV.out, decide_eq_true (show 1 ≤ ty ∧ ty ≤ 3 by omega), decide_eq_true (show n ≤ 500 by omega)]; rfl⟩
  clear HV
  have K0 := Aside.mk (Blk.new w 42 [.int .i64 ty, .slice A n c1])
  have B0 : Aside (Below w.heap.size w (w.alloc (.cells #[.int .i64 ty, .slice A n c1] 42))) := ⟨by go_grown⟩
  go_enter Try.func79, Try.ntmps79
  go_wp2_with fail
  go_loopw [24] (fun v wr => ∃ i : Nat, i ≤ n ∧ v = .int .i64 i ∧ Aside (Blk wr w.heap.size 42 [.int .i64 ty, .slice A n c1]) ∧ Aside (Below w.heap.size w wr) ∧ Aside (res = goI ty (aheadT rows i) (rows.drop i)) ∧ Aside (∀ (j : Nat) (h : j < rows.length), j < i → rowB rows[j] = true)) (fun v _ => n - (intOf v).toNat)
  case atStart => exact ⟨0, Nat.zero_le _, rfl, K0, B0, E, ⟨fun j _ h => absurd h (Nat.not_lt_zero _)⟩⟩
  case round =>
    obtain ⟨i, hi, rfl, hk0, hb0, hres, hall⟩ := hrel
    clear K0 B0 E
    by_cases hlt : i < n
    · have hlt1 : i < rows.length := by rw [← HN.out]; exact hlt
      rcases HS.out with h0 | ⟨b, o, rfl, hrow⟩
      · exfalso; rw [h0] at hlt1; exact absurd hlt1 (Nat.not_lt_zero _)
      have HROW := Aside.mk hrow
      obtain ⟨hbo, f, hf, -, hr⟩ := hrow
      obtain ⟨cs1, hr1, hc1⟩ := hr i hlt1
      obtain ⟨Ak, ck, rfl, -⟩ := Rec.term_iff.1 (id hr1)
      have hbel2 := hb0.out
      have d10 : wr.cell? ⟨b, o + i * 4, none⟩ = some (.int .i64 rows[i].kind) := (hbel2.cell (p := ⟨b, o + i * 4 + 0, none⟩) hbo).trans (hc1 0 (by decide))
      have d11 : wr.cell? ⟨b, o + i * 4 + 1, none⟩ = some (.int .i64 rows[i].num) := (hbel2.cell (p := ⟨b, o + i * 4 + 1, none⟩) hbo).trans (hc1 1 (by decide))
      have d12 : wr.cell? ⟨b, o + i * 4 + 2, none⟩ = some (.string rows[i].str) := (hbel2.cell (p := ⟨b, o + i * 4 + 2, none⟩) hbo).trans (hc1 2 (by decide))
      have d13 : wr.cell? ⟨b, o + i * 4 + 3, none⟩ = some (.slice Ak rows[i].kids.length ck) := (hbel2.cell (p := ⟨b, o + i * 4 + 3, none⟩) hbo).trans (hc1 3 (by decide))
      have HR1 := Aside.mk (Rec.term.up (Rec.term.mono hr1 (fun c hc => (hf i c hc).1)) (fun _ h => h) (hbel2.alloc hbel2.size (.cells #[.int .i64 rows[i].kind, .int .i64 rows[i].num, .string rows[i].str, .slice Ak rows[i].kids.length ck] 26)))
      have W1 := HW.out i hlt1
      have D13 : Aside (∀ wx, Below w.heap.size w wx → wx.cell? ⟨b, o + i * 4 + 3, none⟩ = some (.slice Ak rows[i].kids.length ck)) := ⟨fun wx hx => (hx.cell (p := ⟨b, o + i * 4 + 3, none⟩) hbo).trans (hc1 3 (by decide))⟩
      have hstep := Aside.mk (goI_step ty rows i hlt1)
      clear hc1 hr hf hr1 hbel2
      go_wp2_with fail
      refine (rowOK rows[i] [.int .i64 rows[i].kind, .int .i64 rows[i].num, .string rows[i].str, .slice Ak rows[i].kids.length ck] _ HR1.out W1).mono ?_
      rintro e w2 ⟨rfl, hb2⟩
      have hk2 := Aside.mk ((hk0.out.alloc (.cells #[.int .i64 rows[i].kind, .int .i64 rows[i].num, .string rows[i].str, .slice Ak rows[i].kids.length ck] 26)).below hb2)
      have hr2 := Aside.mk ((Blk.new wr 26 [.int .i64 rows[i].kind, .int .i64 rows[i].num, .string rows[i].str, .slice Ak rows[i].kids.length ck]).below hb2)
      have hb3 := Aside.mk (below_later (hb0.out.alloc hb0.out.size (.cells #[.int .i64 rows[i].kind, .int .i64 rows[i].num, .string rows[i].str, .slice Ak rows[i].kids.length ck] 26)) hb2)
      clear d10 d11 d12 d13 HR1 hb2 hk0 hb0
      cases hR : rowB rows[i]
      · have E : Aside (res = false) := ⟨by rw [hres.out, hstep.out, hR]; rfl⟩
        go_wp2
        go_ret
        exact ⟨ret_bool E.out.symm, hb3.out⟩
      have hres2 : Aside (res = (innerI ty (aheadT rows i) rows[i] && goI ty (aheadT rows (i + 1)) (rows.drop (i + 1)))) := ⟨by rw [hres.out, hstep.out, hR]; rfl⟩
      have HR := Aside.mk hR
      have hall2 : Aside (∀ (j : Nat) (h : j < rows.length), j < i + 1 → rowB rows[j] = true) := ⟨fun j hj hji => by
        by_cases e : j = i
        · subst e; exact HR.out
        · exact hall.out j hj (by omega)⟩
      clear hres hstep hR hall
      by_cases hi0 : i = 0
      · subst hi0
        have E : Aside (res = goI ty (aheadT rows (0 + 1)) (rows.drop (0 + 1))) := ⟨by rw [hres2.out]; rfl⟩
        clear hres2
        go_wp2_with fail
        go_roundw
        case rel => exact ⟨0 + 1, by omega, by go_num, hk2, hb3, E, hall2⟩
        case measure => first | (simp [intOf]; done) | (simp [intOf]; omega)
      obtain ⟨p, rfl⟩ : ∃ p, i = p + 1 := ⟨i - 1, by omega⟩
      obtain ⟨g, hg⟩ : ∃ g, g = wr.heap.size := ⟨_, rfl⟩
      rw [← hg] at hr2 ⊢
      clear hg hi0
      have hp1 : p < rows.length := by omega
      have hRp := hall2.out p hp1 (by omega)
      have hRi := HR.out
      obtain ⟨-, -, kp⟩ := rowB_parts hRp
      obtain ⟨-, -, ki⟩ := rowB_parts hRi
      have HKP := Aside.mk (key_right hRp)
      have HKI := Aside.mk (key_right hRi)
      have HRP := Aside.mk (rowB_right hRp)
      have HRI := Aside.mk (rowB_right hRi)
      obtain ⟨cap1, bk1, ok1, c10, c11, c12, c1a, c1l, c1c, -, -, -, e13, g10, g11, g12, g13, r1, rr1⟩ := key_cells hb3.out HROW.out p hp1 kp
      obtain ⟨cap2, bk2, ok2, c20, c21, c22, c2a, c2l, c2c, -, -, -, e23, g20, g21, g22, g23, r2, rr2⟩ := key_cells hb3.out HROW.out (p + 1) hlt1 ki
      have hsl := (D13.out w2 hb3.out).symm.trans e23
      injection hsl with hsl
      injection hsl with hs1 hs2 hs3
      subst hs1 hs3
      have D13b := D13
      clear e23 D13 hs2
      have W1 := HW.out p hp1
      have W2 := HW.out (p + 1) hlt1
      have kp2 : (0 : Int) < rows[p].kids.length := by omega
      have ki2 : (0 : Int) < rows[p + 1].kids.length := by omega
      have V1 := keyT_wt kp W1
      have V2 := keyT_wt ki W2
      have y0 := hk2.out.cell 0
      have y1 := hk2.out.cell 1
      have z3 := hr2.out.cell 3
      simp only [List.getElem?_cons_zero, List.getElem?_cons_succ] at y0 y1 z3
      have u1 : (p : Int) < n := by omega
      have ew : IntKind.i64.wrap (p : Int) = p := by rw [IntKind.wrap_i64]; omega
      have R1 := Aside.mk (Rec.term.old (w1 := w2.drew) r1 (Below.refl _ _).drew)
      have R2 := Aside.mk (Rec.term.old (w1 := w2.drew) r2 (Below.refl _ _).drew)
      clear r1 r2 rr1 rr2
      go_wp2_with fail
      go_still_tail 13, (by kernel_rfl)
      change wpList _ _ _ _ _ w2.drew
      go_wp2_with fail
      refine (compare (keyT rows[p]) (keyT rows[p + 1]) [.int .i64 c10, .int .i64 c11, .string c12, .slice c1a c1l c1c] [.int .i64 c20, .int .i64 c21, .string c22, .slice c2a c2l c2c] _ R1.out R2.out V1 V2 HKP.out HKI.out).mono ?_
      rintro e w3 ⟨rfl, hbn⟩
      have hk3 := Aside.mk (hk2.out.drew.below hbn)
      have hr3 := Aside.mk (hr2.out.drew.below hbn)
      have hb4 := Aside.mk (below_later hb3.out.drew hbn)
      clear e13 g10 g11 g12 g13 g20 g21 g22 g23 y0 y1 z3 R1 R2 hbn hk2 hr2 hb3
      have y0 := hk3.out.cell 0
      have y1 := hk3.out.cell 1
      simp only [List.getElem?_cons_zero, List.getElem?_cons_succ] at y0 y1
      have hah := Aside.mk (aheadT_succ rows p hp1)
      have hinn : Aside (res = ((if 0 < T.cmp (keyT rows[p]) (keyT rows[p + 1]) ∨ (T.cmp (keyT rows[p]) (keyT rows[p + 1]) = 0 ∧ ty = 1) then false else bagI ty (aheadT rows (p + 1)) rows[p + 1]) && goI ty (aheadT rows (p + 1 + 1)) (rows.drop (p + 1 + 1)))) := ⟨by
        rw [hres2.out, hah.out, innerI]⟩
      clear hres2
      generalize T.cmp (keyT rows[p]) (keyT rows[p + 1]) = c at hinn ⊢
      by_cases hA : 0 < c
      · have E : Aside (res = false) := ⟨by rw [hinn.out, if_pos (Or.inl hA)]; rfl⟩
        clear hinn
        go_wp2_with fail
        go_ret
        exact ⟨ret_bool E.out.symm, hb4.out⟩
      by_cases hB : c = 0 ∧ ty = 1
      · have E : Aside (res = false) := ⟨by rw [hinn.out, if_pos (Or.inr hB)]; rfl⟩
        obtain ⟨rfl, rfl⟩ := hB
        clear hinn
        go_wp2_with fail
        go_ret
        exact ⟨ret_bool E.out.symm, hb4.out⟩
      have E : Aside (res = (bagI ty (aheadT rows (p + 1)) rows[p + 1] && goI ty (aheadT rows (p + 1 + 1)) (rows.drop (p + 1 + 1)))) := ⟨by rw [hinn.out, if_neg (by omega)]⟩
      clear hinn hah
      have hcc : (c = 0 ∧ (ty == 1) = false) ∨ ((c == 0) = false) := by
        by_cases h0 : c = 0
        · left; refine ⟨h0, ?_⟩; simp; omega
        · right; simpa using h0
      have hA2 : ¬ (0 < c) := hA
      clear hA hB
      obtain ⟨RI, hRI⟩ : ∃ RI, RI = goI ty (aheadT rows (p + 1 + 1)) (rows.drop (p + 1 + 1)) := ⟨_, rfl⟩
      have HRIv := Aside.mk hRI
      rw [← hRI] at E
      clear hRI
      rcases hcc with ⟨rfl, hq⟩ | hq
      all_goals
        go_wp2_with fail
        obtain ⟨w0, rfl⟩ : ∃ w0, w0 = wr := ⟨_, rfl⟩
        go_loopw [6] (fun v wr => ∃ q : Nat, q ≤ p + 1 ∧ v = .int .i64 ((q : Int) - 1) ∧ Aside (Blk wr w.heap.size 42 [.int .i64 ty, .slice (some ⟨b, o, none⟩) n c1]) ∧ Aside (Blk wr g 26 [.int .i64 rows[p + 1].kind, .int .i64 rows[p + 1].num, .string rows[p + 1].str, .slice (some ⟨bk2, ok2, none⟩) rows[p + 1].kids.length ck]) ∧ Aside (Below w.heap.size w wr) ∧ Aside (res = (bagI ty (aheadT rows q) rows[p + 1] && RI))) (fun v _ => (intOf v + 1).toNat)
        case atStart => exact ⟨p + 1, Nat.le_refl _, by first | rfl | (refine congrArg _ ?_; omega), hk3, hr3, hb4, E⟩
        case round =>
          obtain ⟨q, hqp, rfl, hk, hr, hbel, hv⟩ := hrel
          clear hk3 hr3 hb4 E
          have y0 := hk.out.cell 0
          have y1 := hk.out.cell 1
          have z3 := hr.out.cell 3
          simp only [List.getElem?_cons_zero, List.getElem?_cons_succ] at y0 y1 z3
          have l0 : w.heap.size < wr.heap.size := hk.out.lt
          have lg : g < wr.heap.size := hr.out.lt
          by_cases hT2 : ty = 2
          rotate_left
          · have q2 : (ty == 2) = false := by simpa using hT2
            have E2 : Aside (res = goI ty (aheadT rows (p + 1 + 1)) (rows.drop (p + 1 + 1))) := ⟨by rw [hv.out, bagI_no hT2, HRIv.out]; rfl⟩
            clear hv
            go_wp2_with fail
            refine region_env [(0, true), (1, true), (2, true), (3, true), (4, true), (5, true), (6, true), (7, true), (8, true), (9, true), (10, true), (11, true), (12, true), (13, true), (14, true), (15, true), (16, true), (17, true), (18, true), (19, true), (20, true), (21, true)] (fun w' => Below wr.heap.size wr w') 93 rfl (by kernel_rfl) (by kernel_rfl) (fun _ _ d _ _ h => by cases d <;> exact h) ((Below.refl _ _).drew) (fun ops fr HFR HSZ hl => ?_)
            have hl_0 := ops_start hl
            clear hl
            obtain ⟨H0, hl_1⟩ := ops_next 0 1 rfl hl_0
            clear hl_0
            obtain ⟨H1, hl_2⟩ := ops_next 1 2 rfl hl_1
            clear hl_1
            obtain ⟨H2, hl_3⟩ := ops_next 2 3 rfl hl_2
            clear hl_2
            obtain ⟨H3, hl_4⟩ := ops_next 3 4 rfl hl_3
            clear hl_3
            obtain ⟨H4, hl_5⟩ := ops_next 4 5 rfl hl_4
            clear hl_4
            obtain ⟨H5, hl_6⟩ := ops_next 5 6 rfl hl_5
            clear hl_5
            obtain ⟨H6, hl_7⟩ := ops_next 6 7 rfl hl_6
            clear hl_6
            obtain ⟨H7, hl_8⟩ := ops_next 7 8 rfl hl_7
            clear hl_7
            obtain ⟨H8, hl_9⟩ := ops_next 8 9 rfl hl_8
            clear hl_8
            obtain ⟨H9, hl_10⟩ := ops_next 9 10 rfl hl_9
            clear hl_9
            obtain ⟨H10, hl_11⟩ := ops_next 10 11 rfl hl_10
            clear hl_10
            obtain ⟨H11, hl_12⟩ := ops_next 11 12 rfl hl_11
            clear hl_11
            obtain ⟨H12, hl_13⟩ := ops_next 12 13 rfl hl_12
            clear hl_12
            obtain ⟨H13, hl_14⟩ := ops_next 13 14 rfl hl_13
            clear hl_13
            obtain ⟨H14, hl_15⟩ := ops_next 14 15 rfl hl_14
            clear hl_14
            obtain ⟨H15, hl_16⟩ := ops_next 15 16 rfl hl_15
            clear hl_15
            obtain ⟨H16, hl_17⟩ := ops_next 16 17 rfl hl_16
            clear hl_16
            obtain ⟨H17, hl_18⟩ := ops_next 17 18 rfl hl_17
            clear hl_17
            obtain ⟨H18, hl_19⟩ := ops_next 18 19 rfl hl_18
            clear hl_18
            obtain ⟨H19, hl_20⟩ := ops_next 19 20 rfl hl_19
            clear hl_19
            obtain ⟨H20, hl_21⟩ := ops_next 20 21 rfl hl_20
            clear hl_20
            obtain ⟨H21, hl_22⟩ := ops_next 21 22 rfl hl_21
            clear hl_21
            clear hl_22
            have x_1 : ext fr 1 = _ := congrArg (fun a => Act.eval a (.tmp 1)) HFR.out
            conv at x_1 => rhs; simp only [Act.eval, Array.getD_eq_getD_getElem?, List.getElem?_toArray, List.getElem?_cons_succ, List.getElem?_cons_zero, Option.getD_some]
            refine env_yes HSZ H0.out ?_ (fun w' hS => ?_) ?_
            rotate_left
            (go_simp
             rfl)
            refine env_yes HSZ H1.out ?_ (fun w' hS => ?_) ?_
            rotate_left
            (have h := (hS.cell (p := ⟨w.heap.size, 0, none⟩) l0).trans y0
             go_simp
             rfl)
            refine env_yes HSZ H2.out ?_ (fun w' hS => ?_) ?_
            rotate_left
            (go_simp
             rfl)
            refine env_yes HSZ H3.out ?_ (fun w' hS => ?_) ?_
            rotate_left
            (go_simp
             rfl)
            refine env_off HSZ H4.out H3.out (by first | rfl | go_simp) ?_
            refine env_off HSZ H5.out H3.out (by first | rfl | go_simp) ?_
            refine env_yes HSZ H6.out ?_ (fun w' hS => ?_) ?_
            rotate_left
            (go_simp
             rfl)
            refine env_yes HSZ H7.out ?_ (fun w' hS => ?_) ?_
            rotate_left
            (go_simp
             rfl)
            refine env_off HSZ H8.out H7.out (by first | rfl | go_simp) ?_
            refine env_off HSZ H9.out H7.out (by first | rfl | go_simp) ?_
            refine env_off HSZ H10.out H7.out (by first | rfl | go_simp) ?_
            refine env_off HSZ H11.out H7.out (by first | rfl | go_simp) ?_
            refine env_off HSZ H12.out H7.out (by first | rfl | go_simp) ?_
            refine env_off HSZ H13.out H7.out (by first | rfl | go_simp) ?_
            refine env_off HSZ H14.out H7.out (by first | rfl | go_simp) ?_
            refine env_off HSZ H15.out H7.out (by first | rfl | go_simp) ?_
            refine env_off HSZ H16.out H7.out (by first | rfl | go_simp) ?_
            refine env_off HSZ H17.out H7.out (by first | rfl | go_simp) ?_
            refine env_off HSZ H18.out H7.out (by first | rfl | go_simp) ?_
            refine env_off HSZ H19.out H7.out (by first | rfl | go_simp) ?_
            refine env_off HSZ H20.out H7.out (by first | rfl | go_simp) ?_
            refine env_yes HSZ H21.out ?_ (fun w' hS => ?_) ?_
            rotate_left
            (go_simp
             rfl)
            refine env_end ?_
            have hfr := HFR.out
            clear HFR HSZ H0 H1 H2 H3 H4 H5 H6 H7 H8 H9 H10 H11 H12 H13 H14 H15 H16 H17 H18 H19 H20 H21 x_1
            subst hfr
            simp only [putAll, Act.put, List.setIfInBounds_toArray, List.set_cons_succ, List.set_cons_zero]
            go_wp2_with fail
            go_roundw
            case rel => exact ⟨p + 1 + 1, by omega, by go_num, ⟨hk.out.drew⟩, ⟨hbel.out.drew⟩, E2, hall2⟩
            case measure => first | (simp [intOf]; done) | (simp [intOf]; omega)
          subst hT2
          by_cases hq0 : q = 0
          · subst hq0
            have E2 : Aside (res = goI 2 (aheadT rows (p + 1 + 1)) (rows.drop (p + 1 + 1))) := ⟨by rw [hv.out, HRIv.out]; rfl⟩
            clear hv
            go_wp2_with fail
            refine region_env [(0, true), (1, true), (2, true), (3, true), (4, true), (5, true), (6, true), (7, true), (8, true), (9, true), (10, true), (11, true), (12, true), (13, true), (14, true), (15, true), (16, true), (17, true), (18, true), (19, true), (20, true), (21, true)] (fun w' => Below wr.heap.size wr w') 93 rfl (by kernel_rfl) (by kernel_rfl) (fun _ _ d _ _ h => by cases d <;> exact h) ((Below.refl _ _).drew) (fun ops fr HFR HSZ hl => ?_)
            have hl_0 := ops_start hl
            clear hl
            obtain ⟨H0, hl_1⟩ := ops_next 0 1 rfl hl_0
            clear hl_0
            obtain ⟨H1, hl_2⟩ := ops_next 1 2 rfl hl_1
            clear hl_1
            obtain ⟨H2, hl_3⟩ := ops_next 2 3 rfl hl_2
            clear hl_2
            obtain ⟨H3, hl_4⟩ := ops_next 3 4 rfl hl_3
            clear hl_3
            obtain ⟨H4, hl_5⟩ := ops_next 4 5 rfl hl_4
            clear hl_4
            obtain ⟨H5, hl_6⟩ := ops_next 5 6 rfl hl_5
            clear hl_5
            obtain ⟨H6, hl_7⟩ := ops_next 6 7 rfl hl_6
            clear hl_6
            obtain ⟨H7, hl_8⟩ := ops_next 7 8 rfl hl_7
            clear hl_7
            obtain ⟨H8, hl_9⟩ := ops_next 8 9 rfl hl_8
            clear hl_8
            obtain ⟨H9, hl_10⟩ := ops_next 9 10 rfl hl_9
            clear hl_9
            obtain ⟨H10, hl_11⟩ := ops_next 10 11 rfl hl_10
            clear hl_10
            obtain ⟨H11, hl_12⟩ := ops_next 11 12 rfl hl_11
            clear hl_11
            obtain ⟨H12, hl_13⟩ := ops_next 12 13 rfl hl_12
            clear hl_12
            obtain ⟨H13, hl_14⟩ := ops_next 13 14 rfl hl_13
            clear hl_13
            obtain ⟨H14, hl_15⟩ := ops_next 14 15 rfl hl_14
            clear hl_14
            obtain ⟨H15, hl_16⟩ := ops_next 15 16 rfl hl_15
            clear hl_15
            obtain ⟨H16, hl_17⟩ := ops_next 16 17 rfl hl_16
            clear hl_16
            obtain ⟨H17, hl_18⟩ := ops_next 17 18 rfl hl_17
            clear hl_17
            obtain ⟨H18, hl_19⟩ := ops_next 18 19 rfl hl_18
            clear hl_18
            obtain ⟨H19, hl_20⟩ := ops_next 19 20 rfl hl_19
            clear hl_19
            obtain ⟨H20, hl_21⟩ := ops_next 20 21 rfl hl_20
            clear hl_20
            obtain ⟨H21, hl_22⟩ := ops_next 21 22 rfl hl_21
            clear hl_21
            clear hl_22
            have x_1 : ext fr 1 = _ := congrArg (fun a => Act.eval a (.tmp 1)) HFR.out
            conv at x_1 => rhs; simp only [Act.eval, Array.getD_eq_getD_getElem?, List.getElem?_toArray, List.getElem?_cons_succ, List.getElem?_cons_zero, Option.getD_some]
            have x_6 : ext fr 6 = _ := congrArg (fun a => Act.eval a (.tmp 6)) HFR.out
            conv at x_6 => rhs; simp only [Act.eval, Array.getD_eq_getD_getElem?, List.getElem?_toArray, List.getElem?_cons_succ, List.getElem?_cons_zero, Option.getD_some]
            refine env_yes HSZ H0.out ?_ (fun w' hS => ?_) ?_
            rotate_left
            (go_simp
             rfl)
            refine env_yes HSZ H1.out ?_ (fun w' hS => ?_) ?_
            rotate_left
            (have h := (hS.cell (p := ⟨w.heap.size, 0, none⟩) l0).trans y0
             go_simp
             rfl)
            refine env_yes HSZ H2.out ?_ (fun w' hS => ?_) ?_
            rotate_left
            (go_simp
             rfl)
            refine env_yes HSZ H3.out ?_ (fun w' hS => ?_) ?_
            rotate_left
            (go_simp
             rfl)
            refine env_on HSZ H4.out H3.out (by first | rfl | go_simp) ?_ (fun w' hS => ?_) ?_
            rotate_left
            (go_simp
             rfl)
            refine env_on HSZ H5.out H3.out (by first | rfl | go_simp) ?_ (fun w' hS => ?_) ?_
            rotate_left
            (go_simp
             rfl)
            refine env_yes HSZ H6.out ?_ (fun w' hS => ?_) ?_
            rotate_left
            (go_simp
             rfl)
            refine env_yes HSZ H7.out ?_ (fun w' hS => ?_) ?_
            rotate_left
            (go_simp
             rfl)
            refine env_off HSZ H8.out H7.out (by first | rfl | go_simp) ?_
            refine env_off HSZ H9.out H7.out (by first | rfl | go_simp) ?_
            refine env_off HSZ H10.out H7.out (by first | rfl | go_simp) ?_
            refine env_off HSZ H11.out H7.out (by first | rfl | go_simp) ?_
            refine env_off HSZ H12.out H7.out (by first | rfl | go_simp) ?_
            refine env_off HSZ H13.out H7.out (by first | rfl | go_simp) ?_
            refine env_off HSZ H14.out H7.out (by first | rfl | go_simp) ?_
            refine env_off HSZ H15.out H7.out (by first | rfl | go_simp) ?_
            refine env_off HSZ H16.out H7.out (by first | rfl | go_simp) ?_
            refine env_off HSZ H17.out H7.out (by first | rfl | go_simp) ?_
            refine env_off HSZ H18.out H7.out (by first | rfl | go_simp) ?_
            refine env_off HSZ H19.out H7.out (by first | rfl | go_simp) ?_
            refine env_off HSZ H20.out H7.out (by first | rfl | go_simp) ?_
            refine env_yes HSZ H21.out ?_ (fun w' hS => ?_) ?_
            rotate_left
            (go_simp
             rfl)
            refine env_end ?_
            have hfr := HFR.out
            clear HFR HSZ H0 H1 H2 H3 H4 H5 H6 H7 H8 H9 H10 H11 H12 H13 H14 H15 H16 H17 H18 H19 H20 H21 x_1 x_6
            subst hfr
            simp only [putAll, Act.put, List.setIfInBounds_toArray, List.set_cons_succ, List.set_cons_zero]
            go_wp2_with fail
            go_roundw
            case rel => exact ⟨p + 1 + 1, by omega, by go_num, ⟨hk.out.drew⟩, ⟨hbel.out.drew⟩, E2, hall2⟩
            case measure => first | (simp [intOf]; done) | (simp [intOf]; omega)
          obtain ⟨s, rfl⟩ : ∃ s, q = s + 1 := ⟨q - 1, by omega⟩
          have hs1 : s < rows.length := by omega
          have hRs := hall2.out s hs1 (by omega)
          obtain ⟨-, -, ks⟩ := rowB_parts hRs
          have HKS := Aside.mk (key_right hRs)
          have HRS := Aside.mk (rowB_right hRs)
          have ee : (((s + 1 : Nat) : Int) - 1) = (s : Int) := by omega
          rw [ee]
          obtain ⟨cap3, bk3, ok3, d10, d11, d12, d1a, d1l, d1c, e10, e11, e12, e13, g10, g11, g12, g13, r1, rr1⟩ := key_cells hbel.out HROW.out s hs1 ks
          obtain ⟨cap4, bk4, ok4, d20, d21, d22, d2a, d2l, d2c, -, -, -, e23, g20, g21, g22, g23, r2, rr2⟩ := key_cells hbel.out HROW.out (p + 1) hlt1 ki
          have hsl := (D13b.out wr hbel.out).symm.trans e23
          injection hsl with hsl
          injection hsl with hs1' hs2' hs3'
          injection hs1' with hs1'
          injection hs1' with hb1' hb2' _
          subst hb1' hb2' hs3'
          clear e23 hs2'
          have W3 := HW.out s hs1
          have V3 := keyT_wt ks W3
          have us : (s : Int) < n := by omega
          have ks2 : (0 : Int) < rows[s].kids.length := by omega
          have lb : b < wr.heap.size := Nat.lt_of_lt_of_le HROW.out.1 hbel.out.size
          have lb3 : bk3 < wr.heap.size := cell_lt g10
          have lb2 : bk2 < wr.heap.size := cell_lt g20
          have HS4 := Aside.mk (below_later (Below.refl w.heap.size w) hbel.out)
          have R1 := Aside.mk (Rec.term.old (w1 := wr.drew) r1 (Below.refl _ _).drew)
          have R2 := Aside.mk (Rec.term.old (w1 := wr.drew) r2 (Below.refl _ _).drew)
          have hah := Aside.mk (aheadT_succ rows s hs1)
          have hinn : Aside (res = ((if T.cmp (keyT rows[s]) (keyT rows[p + 1]) = 0 then (if T.cmp rows[s] rows[p + 1] = 0 then false else bagI 2 (aheadT rows s) rows[p + 1]) else true) && RI)) := ⟨by
            rw [hv.out, hah.out, bagI]; simp only [true_and]⟩
          clear hv hah r1 r2 rr1 rr2 ee
          go_wp2_with fail
          refine region_env [(0, true), (1, true), (2, true), (3, true), (4, true), (5, true), (6, true), (7, true), (8, true), (9, true), (10, true), (11, true), (12, true), (13, true), (14, true), (15, true), (16, true), (17, true), (18, true), (19, true), (20, false), (21, true)] (fun w' => Below wr.heap.size wr w') 93 rfl (by kernel_rfl) (by kernel_rfl) (fun _ _ d _ _ h => by cases d <;> exact h) ((Below.refl _ _).drew) (fun ops fr HFR HSZ hl => ?_)
          have hl_0 := ops_start hl
          clear hl
          obtain ⟨H0, hl_1⟩ := ops_next 0 1 rfl hl_0
          clear hl_0
          obtain ⟨H1, hl_2⟩ := ops_next 1 2 rfl hl_1
          clear hl_1
          obtain ⟨H2, hl_3⟩ := ops_next 2 3 rfl hl_2
          clear hl_2
          obtain ⟨H3, hl_4⟩ := ops_next 3 4 rfl hl_3
          clear hl_3
          obtain ⟨H4, hl_5⟩ := ops_next 4 5 rfl hl_4
          clear hl_4
          obtain ⟨H5, hl_6⟩ := ops_next 5 6 rfl hl_5
          clear hl_5
          obtain ⟨H6, hl_7⟩ := ops_next 6 7 rfl hl_6
          clear hl_6
          obtain ⟨H7, hl_8⟩ := ops_next 7 8 rfl hl_7
          clear hl_7
          obtain ⟨H8, hl_9⟩ := ops_next 8 9 rfl hl_8
          clear hl_8
          obtain ⟨H9, hl_10⟩ := ops_next 9 10 rfl hl_9
          clear hl_9
          obtain ⟨H10, hl_11⟩ := ops_next 10 11 rfl hl_10
          clear hl_10
          obtain ⟨H11, hl_12⟩ := ops_next 11 12 rfl hl_11
          clear hl_11
          obtain ⟨H12, hl_13⟩ := ops_next 12 13 rfl hl_12
          clear hl_12
          obtain ⟨H13, hl_14⟩ := ops_next 13 14 rfl hl_13
          clear hl_13
          obtain ⟨H14, hl_15⟩ := ops_next 14 15 rfl hl_14
          clear hl_14
          obtain ⟨H15, hl_16⟩ := ops_next 15 16 rfl hl_15
          clear hl_15
          obtain ⟨H16, hl_17⟩ := ops_next 16 17 rfl hl_16
          clear hl_16
          obtain ⟨H17, hl_18⟩ := ops_next 17 18 rfl hl_17
          clear hl_17
          obtain ⟨H18, hl_19⟩ := ops_next 18 19 rfl hl_18
          clear hl_18
          obtain ⟨H19, hl_20⟩ := ops_next 19 20 rfl hl_19
          clear hl_19
          obtain ⟨H20, hl_21⟩ := ops_next 20 21 rfl hl_20
          clear hl_20
          obtain ⟨H21, hl_22⟩ := ops_next 21 22 rfl hl_21
          clear hl_21
          clear hl_22
          have x_1 : ext fr 1 = _ := congrArg (fun a => Act.eval a (.tmp 1)) HFR.out
          conv at x_1 => rhs; simp only [Act.eval, Array.getD_eq_getD_getElem?, List.getElem?_toArray, List.getElem?_cons_succ, List.getElem?_cons_zero, Option.getD_some]
          have x_6 : ext fr 6 = _ := congrArg (fun a => Act.eval a (.tmp 6)) HFR.out
          conv at x_6 => rhs; simp only [Act.eval, Array.getD_eq_getD_getElem?, List.getElem?_toArray, List.getElem?_cons_succ, List.getElem?_cons_zero, Option.getD_some]
          have x_4 : ext fr 4 = _ := congrArg (fun a => Act.eval a (.tmp 4)) HFR.out
          conv at x_4 => rhs; simp only [Act.eval, Array.getD_eq_getD_getElem?, List.getElem?_toArray, List.getElem?_cons_succ, List.getElem?_cons_zero, Option.getD_some]
          refine env_yes HSZ H0.out ?_ (fun w' hS => ?_) ?_
          rotate_left
          (go_simp
           rfl)
          refine env_yes HSZ H1.out ?_ (fun w' hS => ?_) ?_
          rotate_left
          (have h := (hS.cell (p := ⟨w.heap.size, 0, none⟩) l0).trans y0
           go_simp
           rfl)
          refine env_yes HSZ H2.out ?_ (fun w' hS => ?_) ?_
          rotate_left
          (go_simp
           rfl)
          refine env_yes HSZ H3.out ?_ (fun w' hS => ?_) ?_
          rotate_left
          (go_simp
           rfl)
          refine env_on HSZ H4.out H3.out (by first | rfl | go_simp) ?_ (fun w' hS => ?_) ?_
          rotate_left
          (go_simp
           rfl)
          refine env_on HSZ H5.out H3.out (by first | rfl | go_simp) ?_ (fun w' hS => ?_) ?_
          rotate_left
          (go_simp
           rfl)
          refine env_yes HSZ H6.out ?_ (fun w' hS => ?_) ?_
          rotate_left
          (go_simp
           rfl)
          refine env_yes HSZ H7.out ?_ (fun w' hS => ?_) ?_
          rotate_left
          (go_simp
           rfl)
          refine env_on HSZ H8.out H7.out (by first | rfl | go_simp) ?_ (fun w' hS => ?_) ?_
          rotate_left
          (go_simp
           rfl)
          refine env_on HSZ H9.out H7.out (by first | rfl | go_simp) ?_ (fun w' hS => ?_) ?_
          rotate_left
          (have h := (hS.cell (p := ⟨w.heap.size, 1, none⟩) l0).trans y1
           go_simp
           rfl)
          refine env_on HSZ H10.out H7.out (by first | rfl | go_simp) ?_ (fun w' hS => ?_) ?_
          rotate_left
          (go_simp
           rfl)
          refine env_on HSZ H11.out H7.out (by first | rfl | go_simp) ?_ (fun w' hS => ?_) ?_
          rotate_left
          (go_simp
           rfl)
          refine env_on HSZ H12.out H7.out (by first | rfl | go_simp) ?_ (fun w' hS => ?_) ?_
          rotate_left
          (go_simp
           rfl)
          refine env_on HSZ H13.out H7.out (by first | rfl | go_simp) ?_ (fun w' hS => ?_) ?_
          rotate_left
          (have h := (hS.cell (p := ⟨b, o + s * 4 + 3, none⟩) lb).trans e13
           go_simp
           rfl)
          refine env_on HSZ H14.out H7.out (by first | rfl | go_simp) ?_ (fun w' hS => ?_) ?_
          rotate_left
          (go_simp
           rfl)
          refine env_on HSZ H15.out H7.out (by first | rfl | go_simp) ?_ (fun w' hS => ?_) ?_
          rotate_left
          (have h0 := (hS.cell (p := ⟨bk3, ok3, none⟩) lb3).trans g10
           have h1 := (hS.cell (p := ⟨bk3, ok3 + 1, none⟩) lb3).trans g11
           have h2 := (hS.cell (p := ⟨bk3, ok3 + 2, none⟩) lb3).trans g12
           have h3 := (hS.cell (p := ⟨bk3, ok3 + 3, none⟩) lb3).trans g13
           go_simp
           rfl)
          refine env_on HSZ H16.out H7.out (by first | rfl | go_simp) ?_ (fun w' hS => ?_) ?_
          rotate_left
          (go_simp
           rfl)
          refine env_on HSZ H17.out H7.out (by first | rfl | go_simp) ?_ (fun w' hS => ?_) ?_
          rotate_left
          (have h := (hS.cell (p := ⟨g, 3, none⟩) lg).trans z3
           go_simp
           rfl)
          refine env_on HSZ H18.out H7.out (by first | rfl | go_simp) ?_ (fun w' hS => ?_) ?_
          rotate_left
          (go_simp
           rfl)
          refine env_on HSZ H19.out H7.out (by first | rfl | go_simp) ?_ (fun w' hS => ?_) ?_
          rotate_left
          (have h0 := (hS.cell (p := ⟨bk2, ok2, none⟩) lb2).trans g20
           have h1 := (hS.cell (p := ⟨bk2, ok2 + 1, none⟩) lb2).trans g21
           have h2 := (hS.cell (p := ⟨bk2, ok2 + 2, none⟩) lb2).trans g22
           have h3 := (hS.cell (p := ⟨bk2, ok2 + 3, none⟩) lb2).trans g23
           go_simp
           rfl)
          refine env_call_on HSZ H20.out H7.out (by first | rfl | go_simp) ?_ ?_ ?_ ?_
          rotate_left 2
          (go_simp
           first | rfl | (constructor <;> rfl))
          refine (same (keyT rows[s]) (keyT rows[p + 1]) [.int .i64 d10, .int .i64 d11, .string d12, .slice d1a d1l d1c] [.int .i64 d20, .int .i64 d21, .string d22, .slice d2a d2l d2c] _ R1.out R2.out V3 V2 HKS.out HKI.out).mono ?_
          rintro e w4 ⟨rfl, hbn⟩
          have hk4 := Aside.mk (hk.out.drew.below hbn)
          have hr4 := Aside.mk (hr.out.drew.below hbn)
          have hb5 := Aside.mk (below_later hbel.out.drew hbn)
          refine ⟨_, rfl, below_later (Below.refl _ _).drew hbn, ?_⟩
          generalize hsk : sameB (keyT rows[s]) (keyT rows[p + 1]) = sk
          have HSK := Aside.mk hsk
          clear hsk hbn
          refine env_yes HSZ H21.out ?_ (fun w' hS => ?_) ?_
          rotate_left
          (go_simp
           rfl)
          refine env_end ?_
          have hfr := HFR.out
          clear HFR HSZ H0 H1 H2 H3 H4 H5 H6 H7 H8 H9 H10 H11 H12 H13 H14 H15 H16 H17 H18 H19 H20 H21 x_1 x_6 x_4
          subst hfr
          simp only [putAll, Act.put, List.setIfInBounds_toArray, List.set_cons_succ, List.set_cons_zero]
          clear e10 e11 e12 e13 g10 g11 g12 g13 g20 g21 g22 g23 R1 R2 y0 y1 z3 l0 lg lb lb3 lb2 hk hr hbel
          cases sk
          · have hne : T.cmp (keyT rows[s]) (keyT rows[p + 1]) ≠ 0 := by simpa [sameB] using HSK.out
            have E2 : Aside (res = goI 2 (aheadT rows (p + 1 + 1)) (rows.drop (p + 1 + 1))) := ⟨by rw [hinn.out, if_neg hne, HRIv.out]; rfl⟩
            clear hinn hne
            go_wp2_with fail
            go_roundw
            case rel => exact ⟨p + 1 + 1, by omega, by go_num, hk4, hb5, E2, hall2⟩
            case measure => first | (simp [intOf]; done) | (simp [intOf]; omega)
          have heq : T.cmp (keyT rows[s]) (keyT rows[p + 1]) = 0 := by simpa [sameB] using HSK.out
          have hin2 : Aside (res = ((if T.cmp rows[s] rows[p + 1] = 0 then false else bagI 2 (aheadT rows s) rows[p + 1]) && RI)) := ⟨by rw [hinn.out, if_pos heq]⟩
          clear hinn heq HSK
          have y1 := hk4.out.cell 1
          have f0 := hr4.out.cell 0
          have f1 := hr4.out.cell 1
          have f2 := hr4.out.cell 2
          have f3 := hr4.out.cell 3
          simp only [List.getElem?_cons_zero, List.getElem?_cons_succ] at y1 f0 f1 f2 f3
          obtain ⟨cap5, bk5, ok5, -, -, -, -, -, -, e10, e11, e12, e13, -, -, -, -, -, rr1⟩ := key_cells hb5.out HROW.out s hs1 ks
          obtain ⟨cap6, bk6, ok6, -, -, -, -, -, -, -, -, -, e23, -, -, -, -, -, rr2⟩ := key_cells hb5.out HROW.out (p + 1) hlt1 ki
          have hsl := (D13b.out w4 hb5.out).symm.trans e23
          injection hsl with hsl
          injection hsl with hs1' hs2' hs3'
          injection hs1' with hs1'
          injection hs1' with hb1' hb2' _
          subst hb1' hb2' hs3'
          clear e23 hs2'
          have R1 := Aside.mk (Rec.term.old (w1 := w4.drew) rr1 (Below.refl _ _).drew)
          have R2 := Aside.mk (Rec.term.old (w1 := w4.drew) rr2 (Below.refl _ _).drew)
          clear rr1 rr2
          go_wp2_with fail
          go_still_tail 6, (by kernel_rfl)
          change wpList _ _ _ _ _ w4.drew
          go_wp2_with fail
          refine (same rows[s] rows[p + 1] [.int .i64 rows[s].kind, .int .i64 rows[s].num, .string rows[s].str, .slice (some ⟨bk5, ok5, none⟩) rows[s].kids.length cap5] [.int .i64 rows[p + 1].kind, .int .i64 rows[p + 1].num, .string rows[p + 1].str, .slice (some ⟨bk2, ok2, none⟩) rows[p + 1].kids.length ck] _ R1.out R2.out W3 W2 HRS.out HRI.out).mono ?_
          rintro e w5 ⟨rfl, hbn⟩
          have hk5 := Aside.mk (hk4.out.drew.below hbn)
          have hr5 := Aside.mk (hr4.out.drew.below hbn)
          have hb6 := Aside.mk (below_later hb5.out.drew hbn)
          generalize hsk : sameB rows[s] rows[p + 1] = sk
          have HSK := Aside.mk hsk
          clear hsk hbn e10 e11 e12 e13 y1 f0 f1 f2 f3 R1 R2 hk4 hr4 hb5
          cases sk
          · have hne : T.cmp rows[s] rows[p + 1] ≠ 0 := by simpa [sameB] using HSK.out
            have E2 : Aside (res = (bagI 2 (aheadT rows s) rows[p + 1] && RI)) := ⟨by rw [hin2.out, if_neg hne]⟩
            clear hin2 hne HSK
            go_wp2_with fail
            go_roundw
            case rel => exact ⟨s, by omega, by go_num, hk5, hr5, hb6, E2⟩
            case measure => first | (simp [intOf]; done) | (simp [intOf]; omega)
          have heq : T.cmp rows[s] rows[p + 1] = 0 := by simpa [sameB] using HSK.out
          have E2 : Aside (res = false) := ⟨by rw [hin2.out, if_pos heq]; rfl⟩
          clear hin2 heq HSK
          go_wp2_with fail
          go_ret
          exact ⟨ret_bool E2.out.symm, hb6.out⟩
    · obtain rfl : i = n := by omega
      have E : Aside (res = true) := ⟨by
        rw [hres.out, List.drop_eq_nil_of_le (by rw [HN.out]; exact Nat.le_refl _)]; rfl⟩
      go_wp2_with fail
      go_ret
      exact ⟨ret_bool E.out.symm, hb0.out⟩
end Go.Proofs.Ytdldgchkinflmaa.Fn
