/- Walk of the reference's l15Rising. Conditions: those of each theorem. -/
import Derived.Test.YtdldgchkinflmaaRep1
import Derived.Test.YtdldgchkinflmaaBytes
set_option linter.unusedVariables false
namespace Go.Proofs.Ytdldgchkinflmaa.Fn
open Go.RowKit Go.Proofs.Ytdldgchkinflmaa.Lib Go.Proofs.Ytdldgchkinflmaa.Plan
attribute [local go_sem] look_tmp look_const look_func look_global lookT_nil lookT_hit lookT_miss

set_option maxRecDepth 100000 in
set_option maxHeartbeats 4000000 in
theorem l15Rising (xs : List Int) (v : Value) (w : World) (h : Rec.int.sl.rd False w (Old w) xs [v]) (hn : xs.length ≤ 1048576) :
    Calls Try.prog 102 #[v, .int .i64 60] w fun e w' => e = .returned (.bool (decide (xs.length ≤ 60) && riseB true xs)) ∧ Below w.heap.size w w' := by
  obtain ⟨A, cap, he, hcap, hs⟩ := h
  injection he with he _
  subst he
  have HS := Aside.mk hs
  have HBAD : Aside (∀ j, j < xs.length → stepB true xs j = false → riseB true xs = false) := ⟨fun j hj h => range_bad hj h⟩
  have HGOOD : Aside ((∀ j, j < xs.length → stepB true xs j = true) → riseB true xs = true) := ⟨fun h => range_good h⟩
  generalize riseB true xs = res at HBAD HGOOD ⊢
  obtain ⟨n, hln⟩ : ∃ n, n = xs.length := ⟨_, rfl⟩
  have HN := Aside.mk hln
  rw [← hln] at hn hcap ⊢
  clear hs hln
  by_cases c0 : n ≤ 60
  rotate_left
  · have q0 : (60 : Int) < n := by omega
    rw [decide_eq_false c0]
    clear c0
    go_enter Try.func102, Try.ntmps102
    go_wp2
    go_ret
    exact ⟨rfl, by go_grown⟩
  have q0 : (n : Int) ≤ 60 := by omega
  rw [decide_eq_true c0, Bool.true_and]
  clear c0
  go_enter Try.func102, Try.ntmps102
  go_wp2_with fail
  go_loopw [5] (fun iv wr => ∃ i : Nat, i ≤ n ∧ iv = .int .i64 i ∧ Aside (∀ j, j < i → stepB true xs j = true) ∧ Aside (Below w.heap.size w wr)) (fun iv _ => n - (intOf iv).toNat)
  case atStart => exact ⟨0, Nat.zero_le _, rfl, ⟨fun j h => absurd h (Nat.not_lt_zero _)⟩, ⟨Below.refl _ _⟩⟩
  case round =>
    obtain ⟨i, hi, rfl, hall, hb0⟩ := hrel
    by_cases hlt : i < n
    rotate_left
    · obtain rfl : i = n := by omega
      have E : Aside (res = true) := ⟨HGOOD.out (fun j hj => hall.out j (by rw [HN.out]; exact hj))⟩
      go_wp2
      go_ret
      exact ⟨ret_bool E.out.symm, hb0.out⟩
    have hlt1 : i < xs.length := by rw [← HN.out]; exact hlt
    obtain ⟨b, o, rfl, hb, hc⟩ := int_cell HS.out i hlt1
    have lb : b < wr.heap.size := Nat.lt_of_lt_of_le hb hb0.out.size
    have d0 : wr.cell? ⟨b, o + i, none⟩ = _ := (hb0.out.cell (p := ⟨b, o + i, none⟩) hb).trans (hc i hlt1)
    have HC : Aside (∀ (j : Nat), j < xs.length → wr.cell? ⟨b, o + j, none⟩ = some (.int .i64 (xs.getD j 0))) := ⟨fun j hj => (hb0.out.cell (p := ⟨b, o + j, none⟩) hb).trans (hc j hj)⟩
    obtain ⟨x, hx⟩ : ∃ x, x = xs.getD i 0 := ⟨_, rfl⟩
    rw [← hx] at d0
    have HX := Aside.mk hx
    have hb1 := Aside.mk hb0.out.drew
    have ut : (i : Int) < n := by omega
    clear hc hx hb hb0
    cases hP : posB x
    · have E : Aside (res = false) := ⟨HBAD.out i hlt1 (by simp only [stepB, ← HX.out, hP, Bool.false_and])⟩
      have HP : Aside ((decide (1 ≤ x) && decide (x ≤ 1000000000000000)) = false) := ⟨hP⟩
      clear hP
      go_wp2_with fail
      refine region_env [(0, true), (1, true), (2, true), (3, true), (4, false), (5, true), (6, true), (7, true), (8, true), (9, true), (10, true), (11, true), (12, true), (13, true), (14, true), (15, true), (16, true), (17, true), (18, true), (19, true), (20, true), (21, true)] (fun w' => Below wr.heap.size wr w') 38 rfl (by kernel_rfl) (by kernel_rfl) (fun _ _ d _ _ h => by cases d <;> exact h) ((Below.refl _ _).drew) (fun ops fr HFR HSZ hl => ?_)
      have hl_0 := ops_start hl
      clear hl
      obtain ⟨H0, hl_1⟩ := ops_next 0 1 rfl hl_0
      clear hl_0
      obtain ⟨H1, hl_2⟩ := ops_next 1 2 rfl hl_1
      clear hl_1
      obtain ⟨H2, hl_3⟩ := ops_next 2 3 rfl hl_2
      clear hl_2
      obtain ⟨H3, hl_4⟩ := ops_next 3 4 rfl hl_3
      clear hl_3
      obtain ⟨H4, hl_5⟩ := ops_next 4 5 rfl hl_4
      clear hl_4
      obtain ⟨H5, hl_6⟩ := ops_next 5 6 rfl hl_5
      clear hl_5
      obtain ⟨H6, hl_7⟩ := ops_next 6 7 rfl hl_6
      clear hl_6
      obtain ⟨H7, hl_8⟩ := ops_next 7 8 rfl hl_7
      clear hl_7
      obtain ⟨H8, hl_9⟩ := ops_next 8 9 rfl hl_8
      clear hl_8
      obtain ⟨H9, hl_10⟩ := ops_next 9 10 rfl hl_9
      clear hl_9
      obtain ⟨H10, hl_11⟩ := ops_next 10 11 rfl hl_10
      clear hl_10
      obtain ⟨H11, hl_12⟩ := ops_next 11 12 rfl hl_11
      clear hl_11
      obtain ⟨H12, hl_13⟩ := ops_next 12 13 rfl hl_12
      clear hl_12
      obtain ⟨H13, hl_14⟩ := ops_next 13 14 rfl hl_13
      clear hl_13
      obtain ⟨H14, hl_15⟩ := ops_next 14 15 rfl hl_14
      clear hl_14
      obtain ⟨H15, hl_16⟩ := ops_next 15 16 rfl hl_15
      clear hl_15
      obtain ⟨H16, hl_17⟩ := ops_next 16 17 rfl hl_16
      clear hl_16
      obtain ⟨H17, hl_18⟩ := ops_next 17 18 rfl hl_17
      clear hl_17
      obtain ⟨H18, hl_19⟩ := ops_next 18 19 rfl hl_18
      clear hl_18
      obtain ⟨H19, hl_20⟩ := ops_next 19 20 rfl hl_19
      clear hl_19
      obtain ⟨H20, hl_21⟩ := ops_next 20 21 rfl hl_20
      clear hl_20
      obtain ⟨H21, hl_22⟩ := ops_next 21 22 rfl hl_21
      clear hl_21
      clear hl_22
      have x_0 : ext fr 0 = _ := congrArg (fun a => Act.eval a (.tmp 0)) HFR.out
      conv at x_0 => rhs; simp only [Act.eval, Array.getD_eq_getD_getElem?, List.getElem?_toArray, List.getElem?_cons_succ, List.getElem?_cons_zero, Option.getD_some]
      have x_5 : ext fr 5 = _ := congrArg (fun a => Act.eval a (.tmp 5)) HFR.out
      conv at x_5 => rhs; simp only [Act.eval, Array.getD_eq_getD_getElem?, List.getElem?_toArray, List.getElem?_cons_succ, List.getElem?_cons_zero, Option.getD_some]
      refine env_yes HSZ H0.out ?_ (fun w' hS => ?_) ?_
      rotate_left
      (go_simp
       rfl)
      refine env_yes HSZ H1.out ?_ (fun w' hS => ?_) ?_
      rotate_left
      (go_simp
       rfl)
      refine env_yes HSZ H2.out ?_ (fun w' hS => ?_) ?_
      rotate_left
      (go_simp
       rfl)
      refine env_yes HSZ H3.out ?_ (fun w' hS => ?_) ?_
      rotate_left
      (have h := (hS.cell (p := ⟨b, o + i, none⟩) lb).trans d0
       go_simp
       rfl)
      refine env_call HSZ H4.out ?_ ?_ ?_ ?_
      rotate_left 2
      (go_simp
       first | rfl | (constructor <;> rfl))
      refine (between x 1 1000000000000000 _).mono ?_
      rintro e w4 ⟨rfl, rfl⟩
      refine ⟨_, rfl, (Below.refl _ _).drew, ?_⟩
      rw [HP.out]
      refine env_yes HSZ H5.out ?_ (fun w' hS => ?_) ?_
      rotate_left
      (go_simp
       rfl)
      refine env_yes HSZ H6.out ?_ (fun w' hS => ?_) ?_
      rotate_left
      (go_simp
       rfl)
      refine env_off HSZ H7.out H6.out (by first | rfl | go_simp) ?_
      refine env_off HSZ H8.out H6.out (by first | rfl | go_simp) ?_
      refine env_off HSZ H9.out H6.out (by first | rfl | go_simp) ?_
      refine env_off_undef HSZ H10.out H9.out (by first | rfl | go_simp) ?_
      refine env_off_undef HSZ H11.out H9.out (by first | rfl | go_simp) ?_
      refine env_off_undef HSZ H12.out H9.out (by first | rfl | go_simp) ?_
      refine env_off_undef HSZ H13.out H9.out (by first | rfl | go_simp) ?_
      refine env_off_undef HSZ H14.out H9.out (by first | rfl | go_simp) ?_
      refine env_off_undef HSZ H15.out H9.out (by first | rfl | go_simp) ?_
      refine env_off_undef HSZ H16.out H9.out (by first | rfl | go_simp) ?_
      refine env_off_undef HSZ H17.out H9.out (by first | rfl | go_simp) ?_
      refine env_off_undef HSZ H18.out H9.out (by first | rfl | go_simp) ?_
      refine env_off_undef HSZ H19.out H9.out (by first | rfl | go_simp) ?_
      refine env_off HSZ H20.out H6.out (by first | rfl | go_simp) ?_
      refine env_yes HSZ H21.out ?_ (fun w' hS => ?_) ?_
      rotate_left
      (go_simp
       rfl)
      refine env_end ?_
      have hfr := HFR.out
      clear HFR HSZ H0 H1 H2 H3 H4 H5 H6 H7 H8 H9 H10 H11 H12 H13 H14 H15 H16 H17 H18 H19 H20 H21 x_0 x_5
      subst hfr
      simp only [putAll, Act.put, List.setIfInBounds_toArray, List.set_cons_succ, List.set_cons_zero]
      go_wp2
      go_ret
      exact ⟨ret_bool E.out.symm, hb1.out⟩
    have HP : Aside ((decide (1 ≤ x) && decide (x ≤ 1000000000000000)) = true) := ⟨hP⟩
    have HP2 : Aside (posB (xs.getD i 0) = true) := ⟨by rw [← HX.out]; exact hP⟩
    clear hP
    by_cases i0 : i = 0
    · subst i0
      have d00 : wr.cell? ⟨b, o, none⟩ = some (.int .i64 x) := d0
      have hall2 : Aside (∀ j, j < 0 + 1 → stepB true xs j = true) := ⟨fun j hj => by
        obtain rfl : j = 0 := by omega
        rw [stepB, HP2.out]; rfl⟩
      clear d0 hall
      go_wp2_with fail
      refine region_env [(0, true), (1, true), (2, true), (3, true), (4, false), (5, true), (6, true), (7, true), (8, true), (9, true), (10, true), (11, true), (12, true), (13, true), (14, true), (15, true), (16, true), (17, true), (18, true), (19, true), (20, true), (21, true)] (fun w' => Below wr.heap.size wr w') 38 rfl (by kernel_rfl) (by kernel_rfl) (fun _ _ d _ _ h => by cases d <;> exact h) ((Below.refl _ _).drew) (fun ops fr HFR HSZ hl => ?_)
      have hl_0 := ops_start hl
      clear hl
      obtain ⟨H0, hl_1⟩ := ops_next 0 1 rfl hl_0
      clear hl_0
      obtain ⟨H1, hl_2⟩ := ops_next 1 2 rfl hl_1
      clear hl_1
      obtain ⟨H2, hl_3⟩ := ops_next 2 3 rfl hl_2
      clear hl_2
      obtain ⟨H3, hl_4⟩ := ops_next 3 4 rfl hl_3
      clear hl_3
      obtain ⟨H4, hl_5⟩ := ops_next 4 5 rfl hl_4
      clear hl_4
      obtain ⟨H5, hl_6⟩ := ops_next 5 6 rfl hl_5
      clear hl_5
      obtain ⟨H6, hl_7⟩ := ops_next 6 7 rfl hl_6
      clear hl_6
      obtain ⟨H7, hl_8⟩ := ops_next 7 8 rfl hl_7
      clear hl_7
      obtain ⟨H8, hl_9⟩ := ops_next 8 9 rfl hl_8
      clear hl_8
      obtain ⟨H9, hl_10⟩ := ops_next 9 10 rfl hl_9
      clear hl_9
      obtain ⟨H10, hl_11⟩ := ops_next 10 11 rfl hl_10
      clear hl_10
      obtain ⟨H11, hl_12⟩ := ops_next 11 12 rfl hl_11
      clear hl_11
      obtain ⟨H12, hl_13⟩ := ops_next 12 13 rfl hl_12
      clear hl_12
      obtain ⟨H13, hl_14⟩ := ops_next 13 14 rfl hl_13
      clear hl_13
      obtain ⟨H14, hl_15⟩ := ops_next 14 15 rfl hl_14
      clear hl_14
      obtain ⟨H15, hl_16⟩ := ops_next 15 16 rfl hl_15
      clear hl_15
      obtain ⟨H16, hl_17⟩ := ops_next 16 17 rfl hl_16
      clear hl_16
      obtain ⟨H17, hl_18⟩ := ops_next 17 18 rfl hl_17
      clear hl_17
      obtain ⟨H18, hl_19⟩ := ops_next 18 19 rfl hl_18
      clear hl_18
      obtain ⟨H19, hl_20⟩ := ops_next 19 20 rfl hl_19
      clear hl_19
      obtain ⟨H20, hl_21⟩ := ops_next 20 21 rfl hl_20
      clear hl_20
      obtain ⟨H21, hl_22⟩ := ops_next 21 22 rfl hl_21
      clear hl_21
      clear hl_22
      have x_0 : ext fr 0 = _ := congrArg (fun a => Act.eval a (.tmp 0)) HFR.out
      conv at x_0 => rhs; simp only [Act.eval, Array.getD_eq_getD_getElem?, List.getElem?_toArray, List.getElem?_cons_succ, List.getElem?_cons_zero, Option.getD_some]
      have x_5 : ext fr 5 = _ := congrArg (fun a => Act.eval a (.tmp 5)) HFR.out
      conv at x_5 => rhs; simp only [Act.eval, Array.getD_eq_getD_getElem?, List.getElem?_toArray, List.getElem?_cons_succ, List.getElem?_cons_zero, Option.getD_some]
      refine env_yes HSZ H0.out ?_ (fun w' hS => ?_) ?_
      rotate_left
      (go_simp
       rfl)
      refine env_yes HSZ H1.out ?_ (fun w' hS => ?_) ?_
      rotate_left
      (go_simp
       rfl)
      refine env_yes HSZ H2.out ?_ (fun w' hS => ?_) ?_
      rotate_left
      (go_simp
       rfl)
      refine env_yes HSZ H3.out ?_ (fun w' hS => ?_) ?_
      rotate_left
      (have h := (hS.cell (p := ⟨b, o, none⟩) lb).trans d00
       go_simp
       rfl)
      refine env_call HSZ H4.out ?_ ?_ ?_ ?_
      rotate_left 2
      (go_simp
       first | rfl | (constructor <;> rfl))
      refine (between x 1 1000000000000000 _).mono ?_
      rintro e w4 ⟨rfl, rfl⟩
      refine ⟨_, rfl, (Below.refl _ _).drew, ?_⟩
      rw [HP.out]
      refine env_yes HSZ H5.out ?_ (fun w' hS => ?_) ?_
      rotate_left
      (go_simp
       rfl)
      refine env_yes HSZ H6.out ?_ (fun w' hS => ?_) ?_
      rotate_left
      (go_simp
       rfl)
      refine env_on HSZ H7.out H6.out (by first | rfl | go_simp) ?_ (fun w' hS => ?_) ?_
      rotate_left
      (go_simp
       rfl)
      refine env_on HSZ H8.out H6.out (by first | rfl | go_simp) ?_ (fun w' hS => ?_) ?_
      rotate_left
      (go_simp
       rfl)
      refine env_on HSZ H9.out H6.out (by first | rfl | go_simp) ?_ (fun w' hS => ?_) ?_
      rotate_left
      (go_simp
       rfl)
      refine env_off HSZ H10.out H9.out (by first | rfl | go_simp) ?_
      refine env_off HSZ H11.out H9.out (by first | rfl | go_simp) ?_
      refine env_off HSZ H12.out H9.out (by first | rfl | go_simp) ?_
      refine env_off HSZ H13.out H9.out (by first | rfl | go_simp) ?_
      refine env_off HSZ H14.out H9.out (by first | rfl | go_simp) ?_
      refine env_off HSZ H15.out H9.out (by first | rfl | go_simp) ?_
      refine env_off HSZ H16.out H9.out (by first | rfl | go_simp) ?_
      refine env_off HSZ H17.out H9.out (by first | rfl | go_simp) ?_
      refine env_off HSZ H18.out H9.out (by first | rfl | go_simp) ?_
      refine env_off HSZ H19.out H9.out (by first | rfl | go_simp) ?_
      refine env_on HSZ H20.out H6.out (by first | rfl | go_simp) ?_ (fun w' hS => ?_) ?_
      rotate_left
      (go_simp
       rfl)
      refine env_yes HSZ H21.out ?_ (fun w' hS => ?_) ?_
      rotate_left
      (go_simp
       rfl)
      refine env_end ?_
      have hfr := HFR.out
      clear HFR HSZ H0 H1 H2 H3 H4 H5 H6 H7 H8 H9 H10 H11 H12 H13 H14 H15 H16 H17 H18 H19 H20 H21 x_0 x_5
      subst hfr
      simp only [putAll, Act.put, List.setIfInBounds_toArray, List.set_cons_succ, List.set_cons_zero]
      go_wp2_with fail
      go_roundw
      case rel => exact ⟨0 + 1, by omega, by go_num, hall2, hb1⟩
      case measure => first | (simp [intOf]; done) | (simp [intOf]; omega)
    obtain ⟨p, rfl⟩ : ∃ p, i = p + 1 := ⟨i - 1, by omega⟩
    have d1 := HC.out p (by omega)
    obtain ⟨y, hy⟩ : ∃ y, y = xs.getD p 0 := ⟨_, rfl⟩
    rw [← hy] at d1
    have HY := Aside.mk hy
    have u1 : (p : Int) < n := by omega
    have u2 : (0 : Int) < (p : Int) + 1 := by omega
    have u3 : IntKind.i64.wrap (p : Int) = p := by rw [IntKind.wrap_i64]; omega
    obtain ⟨k3, hk3⟩ : ∃ k, k = decide (x ≤ y) := ⟨_, rfl⟩
    clear hy i0
    cases k3
    · have c3 : ¬ x ≤ y := by intro h; rw [decide_eq_true h] at hk3; cases hk3
      have hall2 : Aside (∀ j, j < p + 1 + 1 → stepB true xs j = true) := ⟨fun j hj => by
        by_cases e : j = p + 1
        · subst e; rw [stepB, HP2.out, Nat.add_sub_cancel, ← HX.out, ← HY.out, decide_eq_false c3]; simp
        · exact hall.out j (by omega)⟩
      clear hk3 hall
      go_wp2_with fail
      refine region_env [(0, true), (1, true), (2, true), (3, true), (4, false), (5, true), (6, true), (7, true), (8, true), (9, true), (10, true), (11, true), (12, true), (13, true), (14, true), (15, true), (16, true), (17, true), (18, true), (19, true), (20, true), (21, true)] (fun w' => Below wr.heap.size wr w') 38 rfl (by kernel_rfl) (by kernel_rfl) (fun _ _ d _ _ h => by cases d <;> exact h) ((Below.refl _ _).drew) (fun ops fr HFR HSZ hl => ?_)
      have hl_0 := ops_start hl
      clear hl
      obtain ⟨H0, hl_1⟩ := ops_next 0 1 rfl hl_0
      clear hl_0
      obtain ⟨H1, hl_2⟩ := ops_next 1 2 rfl hl_1
      clear hl_1
      obtain ⟨H2, hl_3⟩ := ops_next 2 3 rfl hl_2
      clear hl_2
      obtain ⟨H3, hl_4⟩ := ops_next 3 4 rfl hl_3
      clear hl_3
      obtain ⟨H4, hl_5⟩ := ops_next 4 5 rfl hl_4
      clear hl_4
      obtain ⟨H5, hl_6⟩ := ops_next 5 6 rfl hl_5
      clear hl_5
      obtain ⟨H6, hl_7⟩ := ops_next 6 7 rfl hl_6
      clear hl_6
      obtain ⟨H7, hl_8⟩ := ops_next 7 8 rfl hl_7
      clear hl_7
      obtain ⟨H8, hl_9⟩ := ops_next 8 9 rfl hl_8
      clear hl_8
      obtain ⟨H9, hl_10⟩ := ops_next 9 10 rfl hl_9
      clear hl_9
      obtain ⟨H10, hl_11⟩ := ops_next 10 11 rfl hl_10
      clear hl_10
      obtain ⟨H11, hl_12⟩ := ops_next 11 12 rfl hl_11
      clear hl_11
      obtain ⟨H12, hl_13⟩ := ops_next 12 13 rfl hl_12
      clear hl_12
      obtain ⟨H13, hl_14⟩ := ops_next 13 14 rfl hl_13
      clear hl_13
      obtain ⟨H14, hl_15⟩ := ops_next 14 15 rfl hl_14
      clear hl_14
      obtain ⟨H15, hl_16⟩ := ops_next 15 16 rfl hl_15
      clear hl_15
      obtain ⟨H16, hl_17⟩ := ops_next 16 17 rfl hl_16
      clear hl_16
      obtain ⟨H17, hl_18⟩ := ops_next 17 18 rfl hl_17
      clear hl_17
      obtain ⟨H18, hl_19⟩ := ops_next 18 19 rfl hl_18
      clear hl_18
      obtain ⟨H19, hl_20⟩ := ops_next 19 20 rfl hl_19
      clear hl_19
      obtain ⟨H20, hl_21⟩ := ops_next 20 21 rfl hl_20
      clear hl_20
      obtain ⟨H21, hl_22⟩ := ops_next 21 22 rfl hl_21
      clear hl_21
      clear hl_22
      have x_0 : ext fr 0 = _ := congrArg (fun a => Act.eval a (.tmp 0)) HFR.out
      conv at x_0 => rhs; simp only [Act.eval, Array.getD_eq_getD_getElem?, List.getElem?_toArray, List.getElem?_cons_succ, List.getElem?_cons_zero, Option.getD_some]
      have x_5 : ext fr 5 = _ := congrArg (fun a => Act.eval a (.tmp 5)) HFR.out
      conv at x_5 => rhs; simp only [Act.eval, Array.getD_eq_getD_getElem?, List.getElem?_toArray, List.getElem?_cons_succ, List.getElem?_cons_zero, Option.getD_some]
      refine env_yes HSZ H0.out ?_ (fun w' hS => ?_) ?_
      rotate_left
      (go_simp
       rfl)
      refine env_yes HSZ H1.out ?_ (fun w' hS => ?_) ?_
      rotate_left
      (go_simp
       rfl)
      refine env_yes HSZ H2.out ?_ (fun w' hS => ?_) ?_
      rotate_left
      (go_simp
       rfl)
      refine env_yes HSZ H3.out ?_ (fun w' hS => ?_) ?_
      rotate_left
      (have h := (hS.cell (p := ⟨b, o + (p + 1), none⟩) lb).trans d0
       go_simp
       rfl)
      refine env_call HSZ H4.out ?_ ?_ ?_ ?_
      rotate_left 2
      (go_simp
       first | rfl | (constructor <;> rfl))
      refine (between x 1 1000000000000000 _).mono ?_
      rintro e w4 ⟨rfl, rfl⟩
      refine ⟨_, rfl, (Below.refl _ _).drew, ?_⟩
      rw [HP.out]
      refine env_yes HSZ H5.out ?_ (fun w' hS => ?_) ?_
      rotate_left
      (go_simp
       rfl)
      refine env_yes HSZ H6.out ?_ (fun w' hS => ?_) ?_
      rotate_left
      (go_simp
       rfl)
      refine env_on HSZ H7.out H6.out (by first | rfl | go_simp) ?_ (fun w' hS => ?_) ?_
      rotate_left
      (go_simp
       rfl)
      refine env_on HSZ H8.out H6.out (by first | rfl | go_simp) ?_ (fun w' hS => ?_) ?_
      rotate_left
      (go_simp
       rfl)
      refine env_on HSZ H9.out H6.out (by first | rfl | go_simp) ?_ (fun w' hS => ?_) ?_
      rotate_left
      (go_simp
       rfl)
      refine env_on HSZ H10.out H9.out (by first | rfl | go_simp) ?_ (fun w' hS => ?_) ?_
      rotate_left
      (go_simp
       rfl)
      refine env_on HSZ H11.out H9.out (by first | rfl | go_simp) ?_ (fun w' hS => ?_) ?_
      rotate_left
      (go_simp
       rfl)
      refine env_on HSZ H12.out H9.out (by first | rfl | go_simp) ?_ (fun w' hS => ?_) ?_
      rotate_left
      (go_simp
       rfl)
      refine env_on HSZ H13.out H9.out (by first | rfl | go_simp) ?_ (fun w' hS => ?_) ?_
      rotate_left
      (have h := (hS.cell (p := ⟨b, o + (p + 1), none⟩) lb).trans d0
       go_simp
       rfl)
      refine env_on HSZ H14.out H9.out (by first | rfl | go_simp) ?_ (fun w' hS => ?_) ?_
      rotate_left
      (go_simp
       rfl)
      refine env_on HSZ H15.out H9.out (by first | rfl | go_simp) ?_ (fun w' hS => ?_) ?_
      rotate_left
      (go_simp
       rfl)
      refine env_on HSZ H16.out H9.out (by first | rfl | go_simp) ?_ (fun w' hS => ?_) ?_
      rotate_left
      (go_simp
       rfl)
      refine env_on HSZ H17.out H9.out (by first | rfl | go_simp) ?_ (fun w' hS => ?_) ?_
      rotate_left
      (go_simp
       rfl)
      refine env_on HSZ H18.out H9.out (by first | rfl | go_simp) ?_ (fun w' hS => ?_) ?_
      rotate_left
      (have h := (hS.cell (p := ⟨b, o + p, none⟩) lb).trans d1
       go_simp
       rfl)
      refine env_on HSZ H19.out H9.out (by first | rfl | go_simp) ?_ (fun w' hS => ?_) ?_
      rotate_left
      (go_simp
       rfl)
      refine env_on HSZ H20.out H6.out (by first | rfl | go_simp) ?_ (fun w' hS => ?_) ?_
      rotate_left
      (go_simp
       rfl)
      refine env_yes HSZ H21.out ?_ (fun w' hS => ?_) ?_
      rotate_left
      (go_simp
       rfl)
      refine env_end ?_
      have hfr := HFR.out
      clear HFR HSZ H0 H1 H2 H3 H4 H5 H6 H7 H8 H9 H10 H11 H12 H13 H14 H15 H16 H17 H18 H19 H20 H21 x_0 x_5
      subst hfr
      simp only [putAll, Act.put, List.setIfInBounds_toArray, List.set_cons_succ, List.set_cons_zero]
      go_wp2_with fail
      go_roundw
      case rel => exact ⟨p + 1 + 1, by omega, by go_num, hall2, hb1⟩
      case measure => first | (simp [intOf]; done) | (simp [intOf]; omega)
    · have c3 : x ≤ y := by by_cases h : x ≤ y; exact h; rw [decide_eq_false h] at hk3; cases hk3
      have E : Aside (res = false) := ⟨HBAD.out (p + 1) hlt1 (by rw [stepB, HP2.out, Nat.add_sub_cancel, ← HX.out, ← HY.out, decide_eq_true c3]; simp)⟩
      clear hk3
      go_wp2_with fail
      refine region_env [(0, true), (1, true), (2, true), (3, true), (4, false), (5, true), (6, true), (7, true), (8, true), (9, true), (10, true), (11, true), (12, true), (13, true), (14, true), (15, true), (16, true), (17, true), (18, true), (19, true), (20, true), (21, true)] (fun w' => Below wr.heap.size wr w') 38 rfl (by kernel_rfl) (by kernel_rfl) (fun _ _ d _ _ h => by cases d <;> exact h) ((Below.refl _ _).drew) (fun ops fr HFR HSZ hl => ?_)
      have hl_0 := ops_start hl
      clear hl
      obtain ⟨H0, hl_1⟩ := ops_next 0 1 rfl hl_0
      clear hl_0
      obtain ⟨H1, hl_2⟩ := ops_next 1 2 rfl hl_1
      clear hl_1
      obtain ⟨H2, hl_3⟩ := ops_next 2 3 rfl hl_2
      clear hl_2
      obtain ⟨H3, hl_4⟩ := ops_next 3 4 rfl hl_3
      clear hl_3
      obtain ⟨H4, hl_5⟩ := ops_next 4 5 rfl hl_4
      clear hl_4
      obtain ⟨H5, hl_6⟩ := ops_next 5 6 rfl hl_5
      clear hl_5
      obtain ⟨H6, hl_7⟩ := ops_next 6 7 rfl hl_6
      clear hl_6
      obtain ⟨H7, hl_8⟩ := ops_next 7 8 rfl hl_7
      clear hl_7
      obtain ⟨H8, hl_9⟩ := ops_next 8 9 rfl hl_8
      clear hl_8
      obtain ⟨H9, hl_10⟩ := ops_next 9 10 rfl hl_9
      clear hl_9
      obtain ⟨H10, hl_11⟩ := ops_next 10 11 rfl hl_10
      clear hl_10
      obtain ⟨H11, hl_12⟩ := ops_next 11 12 rfl hl_11
      clear hl_11
      obtain ⟨H12, hl_13⟩ := ops_next 12 13 rfl hl_12
      clear hl_12
      obtain ⟨H13, hl_14⟩ := ops_next 13 14 rfl hl_13
      clear hl_13
      obtain ⟨H14, hl_15⟩ := ops_next 14 15 rfl hl_14
      clear hl_14
      obtain ⟨H15, hl_16⟩ := ops_next 15 16 rfl hl_15
      clear hl_15
      obtain ⟨H16, hl_17⟩ := ops_next 16 17 rfl hl_16
      clear hl_16
      obtain ⟨H17, hl_18⟩ := ops_next 17 18 rfl hl_17
      clear hl_17
      obtain ⟨H18, hl_19⟩ := ops_next 18 19 rfl hl_18
      clear hl_18
      obtain ⟨H19, hl_20⟩ := ops_next 19 20 rfl hl_19
      clear hl_19
      obtain ⟨H20, hl_21⟩ := ops_next 20 21 rfl hl_20
      clear hl_20
      obtain ⟨H21, hl_22⟩ := ops_next 21 22 rfl hl_21
      clear hl_21
      clear hl_22
      have x_0 : ext fr 0 = _ := congrArg (fun a => Act.eval a (.tmp 0)) HFR.out
      conv at x_0 => rhs; simp only [Act.eval, Array.getD_eq_getD_getElem?, List.getElem?_toArray, List.getElem?_cons_succ, List.getElem?_cons_zero, Option.getD_some]
      have x_5 : ext fr 5 = _ := congrArg (fun a => Act.eval a (.tmp 5)) HFR.out
      conv at x_5 => rhs; simp only [Act.eval, Array.getD_eq_getD_getElem?, List.getElem?_toArray, List.getElem?_cons_succ, List.getElem?_cons_zero, Option.getD_some]
      refine env_yes HSZ H0.out ?_ (fun w' hS => ?_) ?_
      rotate_left
      (go_simp
       rfl)
      refine env_yes HSZ H1.out ?_ (fun w' hS => ?_) ?_
      rotate_left
      (go_simp
       rfl)
      refine env_yes HSZ H2.out ?_ (fun w' hS => ?_) ?_
      rotate_left
      (go_simp
       rfl)
      refine env_yes HSZ H3.out ?_ (fun w' hS => ?_) ?_
      rotate_left
      (have h := (hS.cell (p := ⟨b, o + (p + 1), none⟩) lb).trans d0
       go_simp
       rfl)
      refine env_call HSZ H4.out ?_ ?_ ?_ ?_
      rotate_left 2
      (go_simp
       first | rfl | (constructor <;> rfl))
      refine (between x 1 1000000000000000 _).mono ?_
      rintro e w4 ⟨rfl, rfl⟩
      refine ⟨_, rfl, (Below.refl _ _).drew, ?_⟩
      rw [HP.out]
      refine env_yes HSZ H5.out ?_ (fun w' hS => ?_) ?_
      rotate_left
      (go_simp
       rfl)
      refine env_yes HSZ H6.out ?_ (fun w' hS => ?_) ?_
      rotate_left
      (go_simp
       rfl)
      refine env_on HSZ H7.out H6.out (by first | rfl | go_simp) ?_ (fun w' hS => ?_) ?_
      rotate_left
      (go_simp
       rfl)
      refine env_on HSZ H8.out H6.out (by first | rfl | go_simp) ?_ (fun w' hS => ?_) ?_
      rotate_left
      (go_simp
       rfl)
      refine env_on HSZ H9.out H6.out (by first | rfl | go_simp) ?_ (fun w' hS => ?_) ?_
      rotate_left
      (go_simp
       rfl)
      refine env_on HSZ H10.out H9.out (by first | rfl | go_simp) ?_ (fun w' hS => ?_) ?_
      rotate_left
      (go_simp
       rfl)
      refine env_on HSZ H11.out H9.out (by first | rfl | go_simp) ?_ (fun w' hS => ?_) ?_
      rotate_left
      (go_simp
       rfl)
      refine env_on HSZ H12.out H9.out (by first | rfl | go_simp) ?_ (fun w' hS => ?_) ?_
      rotate_left
      (go_simp
       rfl)
      refine env_on HSZ H13.out H9.out (by first | rfl | go_simp) ?_ (fun w' hS => ?_) ?_
      rotate_left
      (have h := (hS.cell (p := ⟨b, o + (p + 1), none⟩) lb).trans d0
       go_simp
       rfl)
      refine env_on HSZ H14.out H9.out (by first | rfl | go_simp) ?_ (fun w' hS => ?_) ?_
      rotate_left
      (go_simp
       rfl)
      refine env_on HSZ H15.out H9.out (by first | rfl | go_simp) ?_ (fun w' hS => ?_) ?_
      rotate_left
      (go_simp
       rfl)
      refine env_on HSZ H16.out H9.out (by first | rfl | go_simp) ?_ (fun w' hS => ?_) ?_
      rotate_left
      (go_simp
       rfl)
      refine env_on HSZ H17.out H9.out (by first | rfl | go_simp) ?_ (fun w' hS => ?_) ?_
      rotate_left
      (go_simp
       rfl)
      refine env_on HSZ H18.out H9.out (by first | rfl | go_simp) ?_ (fun w' hS => ?_) ?_
      rotate_left
      (have h := (hS.cell (p := ⟨b, o + p, none⟩) lb).trans d1
       go_simp
       rfl)
      refine env_on HSZ H19.out H9.out (by first | rfl | go_simp) ?_ (fun w' hS => ?_) ?_
      rotate_left
      (go_simp
       rfl)
      refine env_on HSZ H20.out H6.out (by first | rfl | go_simp) ?_ (fun w' hS => ?_) ?_
      rotate_left
      (go_simp
       rfl)
      refine env_yes HSZ H21.out ?_ (fun w' hS => ?_) ?_
      rotate_left
      (go_simp
       rfl)
      refine env_end ?_
      have hfr := HFR.out
      clear HFR HSZ H0 H1 H2 H3 H4 H5 H6 H7 H8 H9 H10 H11 H12 H13 H14 H15 H16 H17 H18 H19 H20 H21 x_0 x_5
      subst hfr
      simp only [putAll, Act.put, List.setIfInBounds_toArray, List.set_cons_succ, List.set_cons_zero]
      go_wp2
      go_ret
      exact ⟨ret_bool E.out.symm, hb1.out⟩
end Go.Proofs.Ytdldgchkinflmaa.Fn
