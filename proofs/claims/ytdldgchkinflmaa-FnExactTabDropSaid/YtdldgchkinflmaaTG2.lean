/- Walk of span. Conditions: those of each theorem. -/
import Derived.Test.YtdldgchkinflmaaTG1
set_option linter.unusedVariables false
namespace Go.Proofs.Ytdldgchkinflmaa.Fn
open Go.RowKit Go.Proofs.Ytdldgchkinflmaa.Lib Go.Proofs.Ytdldgchkinflmaa.Plan
attribute [local go_sem] look_tmp look_const look_func look_global lookT_nil lookT_hit lookT_miss

theorem ret_ints {a b c d : Int} (h1 : a = c) (h2 : b = d) : Ending.returned (.tuple #[.int .i64 a, .int .i64 b]) = .returned (.tuple #[.int .i64 c, .int .i64 d]) := by rw [h1, h2]
theorem tab_rows {ty : Int} {rows : List T} (h : tabB ty rows = true) : (∀ r ∈ rows, rowB r = true) ∧ rows.length ≤ 500 := by
  simp only [tabB, Bool.and_eq_true, decide_eq_true_eq] at h
  refine ⟨?_, h.2.1⟩
  have key : ∀ (rs P : List T), goI ty P rs = true → ∀ r ∈ rs, rowB r = true := by
    intro rs
    induction rs with
    | nil => intro P _ r hr; cases hr
    | cons x xs ih =>
      intro P h r hr
      rw [goI] at h
      simp only [Bool.and_eq_true] at h
      rcases List.mem_cons.1 hr with rfl | hr
      · exact h.1
      · exact ih _ h.2.2 r hr
  exact key rows [] h.2.2
theorem fromK_le (key : T) (rows : List T) : fromK key rows ≤ rows.length := (List.takeWhile_sublist _).length_le
theorem sames_le (key : T) (rows : List T) : sames key rows ≤ rows.length := (List.takeWhile_sublist _).length_le
theorem fromK_idx (key : T) (rows : List T) : idx (geK key) rows = if fromK key rows < rows.length then (fromK key rows : Int) else -1 := rfl
set_option maxRecDepth 100000 in
set_option maxHeartbeats 8000000 in
theorem span (ty : Int) (rows : List T) (key : T) (tc kc : List Value) (w : World) (ht : RTable.rd False w (Old w) (ty, rows) tc) (hk : Rec.term.rd False w (Old w) key kc) (hw : RTable.wt (ty, rows) ≤ 1048576) (hkw : Rec.term.wt key ≤ 1048576)
    (hok : tabB ty rows = true) (hkr : key.right = true) :
    Calls Try.prog 80 #[.agg tc.toArray, .agg kc.toArray] w fun e w' => e = .returned (.tuple #[.int .i64 (fromK key rows), .int .i64 ((fromK key rows : Int) + sames key (rows.drop (fromK key rows)))]) ∧ Below w.heap.size w w' := by
  have hw2 : Rec.int.wt ty + Rec.term.sl.wt rows ≤ 1048576 := hw
  have WT : Rec.term.sl.wt rows ≤ 1048576 := by omega
  obtain ⟨_, _, _, _, rfl, p0, q0, i0, j0, -⟩ := ht
  have h1 := Rec.term.sl.mono q0 (fun b h => j0 b h)
  obtain rfl := p0
  have HROWS := Aside.mk h1
  obtain ⟨A, c1, rfl, hcap, hsl⟩ := h1
  obtain ⟨z0, z1, z2, z3a, z3b, z3c, rfl⟩ := shapeTerm hk
  have HS := Aside.mk hsl
  have HW := Aside.mk (wt_kid WT)
  obtain ⟨hall, hlen⟩ := tab_rows hok
  have HRB := Aside.mk hall
  have HKY := Aside.mk hk
  have HKR := Aside.mk hkr
  obtain ⟨f, hf⟩ : ∃ f, f = fromK key rows := ⟨_, rfl⟩
  have hfl := fromK_le key rows
  have HFI := Aside.mk (fromK_idx key rows)
  obtain ⟨s, hs⟩ : ∃ s, s = sames key (rows.drop (fromK key rows)) := ⟨_, rfl⟩
  rw [← hs]
  rw [← hf] at hs hfl HFI ⊢
  have HSM := Aside.mk hs
  have HFV := Aside.mk hf
  have hn1 : rows.length ≤ 1048576 := by omega
  have HMEM : Aside (∀ r ∈ rows, rowB r = true ∧ Rec.term.wt r ≤ 1048576) := ⟨fun r hr => ⟨hall r hr, by
    obtain ⟨j, hj, rfl⟩ := List.mem_iff_getElem.1 hr
    exact wt_kid WT j hj⟩⟩
  have hmf : ∀ (fn : Fn) (first cap : Array Value) (w : World), (Instr.makeFunc fn first cap).run Try.prog w = .ok (.func fn first cap) w := fun _ _ _ _ => rfl
  show Calls Try.prog 80 #[.agg #[.int .i64 ty, .slice A rows.length c1], .agg #[.int .i64 z0, .int .i64 z1, .string z2, .slice z3a z3b z3c]] w _
  obtain ⟨n, hln⟩ : ∃ n, n = rows.length := ⟨_, rfl⟩
  rw [← hln] at hfl hlen hn1 hcap HFI ⊢
  have HN := Aside.mk hln
  clear hsl q0 i0 j0 hw hw2 WT hf hs hok hall hkr hk hln
  go_enter Try.func80, Try.ntmps80
  go_wp2_with fail
  refine (indexSpan rows (.slice A n c1) (.pointer (some ⟨w.heap.size + 1, 0, none⟩)) _ (geK key) (by have := HROWS.out; rw [← HN.out] at this; exact Rec.term.sl.old this (by go_grown)) (by rw [← HN.out]; exact hn1)
    (spanEach key [.int .i64 z0, .int .i64 z1, .string z2, .slice z3a z3b z3c] (w.heap.size + 1) _ rows (Rec.term.old HKY.out (by go_grown)) hkw HKR.out (Blk.made (w.alloc _) 26 [.int .i64 z0, .int .i64 z1, .string z2, .slice z3a z3b z3c] (by simp)) HMEM.out)).mono ?_
  rintro e w1 ⟨rfl, hb1⟩
  have K0 := Aside.mk (((Blk.new w 42 [.int .i64 ty, .slice A n c1]).alloc _).below hb1)
  have K1 := Aside.mk ((Blk.made (w.alloc _) 26 [.int .i64 z0, .int .i64 z1, .string z2, .slice z3a z3b z3c] (g := w.heap.size + 1) (by simp)).below hb1)
  have B1 : Aside (Below w.heap.size w w1) := ⟨below_later (by go_grown) hb1⟩
  clear hb1 hmf
  rw [HFI.out]
  by_cases hfn : f < n
  rotate_left
  · have hfe : f = n := by omega
    have hs0 : s = 0 := by
      have h1 := HSM.out
      have h2 := sames_le key (rows.drop f)
      rw [← HSM.out, List.length_drop, ← HN.out] at h2
      omega
    subst hfe hs0
    rw [if_neg (by omega)]
    have y0 : w1.cell? ⟨w.heap.size, 0, none⟩ = some (.int .i64 ty) := K0.out.cell 0
    have y1 : w1.cell? ⟨w.heap.size, 1, none⟩ = some (.slice A f c1) := K0.out.cell 1
    go_wp2_with fail
    go_quiet (fail)
    all_goals
      go_wp2_with fail
      go_ret2
      exact ⟨by simp, by first | exact B1.out | exact B1.out.drew | exact ⟨B1.out.os, B1.out.tape, B1.out.output, B1.out.size, B1.out.block⟩⟩
  rw [if_pos (by omega)]
  have E0 : Aside (∀ (j : Nat) (h : j < (rows.drop f).length), j < 0 → sameK key (rows.drop f)[j] = true) := ⟨fun _ _ h => absurd h (Nat.not_lt_zero _)⟩
  have y0 : w1.cell? ⟨w.heap.size, 0, none⟩ = some (.int .i64 ty) := K0.out.cell 0
  have y1 : w1.cell? ⟨w.heap.size, 1, none⟩ = some (.slice A n c1) := K0.out.cell 1
  go_wp2_with fail
  clear y0 y1
  go_loopw [7] (fun v wr => ∃ m : Nat, f + m ≤ n ∧ v = .int .i64 ((f : Int) + m) ∧ Aside (Blk wr w.heap.size 42 [.int .i64 ty, .slice A n c1]) ∧ Aside (Blk wr (w.heap.size + 1) 26 [.int .i64 z0, .int .i64 z1, .string z2, .slice z3a z3b z3c]) ∧ Aside (Below w.heap.size w wr) ∧ Aside (∀ (j : Nat) (h : j < (rows.drop f).length), j < m → sameK key (rows.drop f)[j] = true)) (fun v _ => n - (intOf v).toNat)
  case atStart => exact ⟨0, by omega, by simp, K0, K1, B1, E0⟩
  case round =>
    obtain ⟨m, hm, rfl, hk0, hk1, hbel, hall⟩ := hrel
    clear K0 K1 B1 E0
    have y0 := hk0.out.cell 0
    have y1 := hk0.out.cell 1
    have x0 := hk1.out.cell 0
    have x1 := hk1.out.cell 1
    have x2 := hk1.out.cell 2
    have x3 := hk1.out.cell 3
    simp only [List.getElem?_cons_zero, List.getElem?_cons_succ] at y0 y1 x0 x1 x2 x3
    have l0 : w.heap.size < wr.heap.size := hk0.out.lt
    have l1 : w.heap.size + 1 < wr.heap.size := hk1.out.lt
    have ecast : ((f : Int) + (m : Int)) = ((f + m : Nat) : Int) := by omega
    rw [ecast]
    obtain ⟨t, ht⟩ : ∃ t, t = f + m := ⟨_, rfl⟩
    rw [← ht] at hm ⊢
    have HT := Aside.mk ht
    clear ecast ht
    by_cases hlt : t < n
    rotate_left
    · obtain rfl : t = n := by omega
      have hsm : Aside (s = m) := ⟨by
        rw [HSM.out]
        exact tw_len _ m (by rw [List.length_drop, ← HN.out]; have := HT.out; omega) hall.out (fun h => by rw [List.length_drop, ← HN.out] at h; have := HT.out; omega)⟩
      clear hall
      go_wp2_with fail
      refine region_env [(0, true), (1, true), (2, true), (3, true), (4, true), (5, true), (6, true), (7, true), (8, true), (9, true), (10, true), (11, true), (12, true), (13, true), (14, true), (15, true), (16, true)] (fun w' => Below wr.heap.size wr w') 42 rfl (by kernel_rfl) (by kernel_rfl) (fun _ _ d _ _ h => by cases d <;> exact h) ((Below.refl _ _).drew) (fun ops fr HFR HSZ hl => ?_)
      have hl_0 := ops_start hl
      clear hl
      obtain ⟨H0, hl_1⟩ := ops_next 0 1 rfl hl_0
      clear hl_0
      obtain ⟨H1, hl_2⟩ := ops_next 1 2 rfl hl_1
      clear hl_1
      obtain ⟨H2, hl_3⟩ := ops_next 2 3 rfl hl_2
      clear hl_2
      obtain ⟨H3, hl_4⟩ := ops_next 3 4 rfl hl_3
      clear hl_3
      obtain ⟨H4, hl_5⟩ := ops_next 4 5 rfl hl_4
      clear hl_4
      obtain ⟨H5, hl_6⟩ := ops_next 5 6 rfl hl_5
      clear hl_5
      obtain ⟨H6, hl_7⟩ := ops_next 6 7 rfl hl_6
      clear hl_6
      obtain ⟨H7, hl_8⟩ := ops_next 7 8 rfl hl_7
      clear hl_7
      obtain ⟨H8, hl_9⟩ := ops_next 8 9 rfl hl_8
      clear hl_8
      obtain ⟨H9, hl_10⟩ := ops_next 9 10 rfl hl_9
      clear hl_9
      obtain ⟨H10, hl_11⟩ := ops_next 10 11 rfl hl_10
      clear hl_10
      obtain ⟨H11, hl_12⟩ := ops_next 11 12 rfl hl_11
      clear hl_11
      obtain ⟨H12, hl_13⟩ := ops_next 12 13 rfl hl_12
      clear hl_12
      obtain ⟨H13, hl_14⟩ := ops_next 13 14 rfl hl_13
      clear hl_13
      obtain ⟨H14, hl_15⟩ := ops_next 14 15 rfl hl_14
      clear hl_14
      obtain ⟨H15, hl_16⟩ := ops_next 15 16 rfl hl_15
      clear hl_15
      obtain ⟨H16, hl_17⟩ := ops_next 16 17 rfl hl_16
      clear hl_16
      clear hl_17
      have x_7 : ext fr 7 = _ := congrArg (fun a => Act.eval a (.tmp 7)) HFR.out
      conv at x_7 => rhs; simp only [Act.eval, Array.getD_eq_getD_getElem?, List.getElem?_toArray, List.getElem?_cons_succ, List.getElem?_cons_zero, Option.getD_some]
      have x_2 : ext fr 2 = _ := congrArg (fun a => Act.eval a (.tmp 2)) HFR.out
      conv at x_2 => rhs; simp only [Act.eval, Array.getD_eq_getD_getElem?, List.getElem?_toArray, List.getElem?_cons_succ, List.getElem?_cons_zero, Option.getD_some]
      refine env_yes HSZ H0.out ?_ (fun w' hS => ?_) ?_
      rotate_left
      (go_simp
       rfl)
      refine env_yes HSZ H1.out ?_ (fun w' hS => ?_) ?_
      rotate_left
      (go_simp
       rfl)
      refine env_yes HSZ H2.out ?_ (fun w' hS => ?_) ?_
      rotate_left
      (have h := (hS.cell (p := ⟨w.heap.size, 1, none⟩) l0).trans y1
       go_simp
       rfl)
      refine env_yes HSZ H3.out ?_ (fun w' hS => ?_) ?_
      rotate_left
      (go_simp
       rfl)
      refine env_yes HSZ H4.out ?_ (fun w' hS => ?_) ?_
      rotate_left
      (go_simp
       rfl)
      refine env_yes HSZ H5.out ?_ (fun w' hS => ?_) ?_
      rotate_left
      (go_simp
       rfl)
      refine env_off HSZ H6.out H5.out (by first | rfl | go_simp) ?_
      refine env_off HSZ H7.out H5.out (by first | rfl | go_simp) ?_
      refine env_off HSZ H8.out H5.out (by first | rfl | go_simp) ?_
      refine env_off HSZ H9.out H5.out (by first | rfl | go_simp) ?_
      refine env_off HSZ H10.out H5.out (by first | rfl | go_simp) ?_
      refine env_off HSZ H11.out H5.out (by first | rfl | go_simp) ?_
      refine env_off HSZ H12.out H5.out (by first | rfl | go_simp) ?_
      refine env_off HSZ H13.out H5.out (by first | rfl | go_simp) ?_
      refine env_off HSZ H14.out H5.out (by first | rfl | go_simp) ?_
      refine env_off HSZ H15.out H5.out (by first | rfl | go_simp) ?_
      refine env_yes HSZ H16.out ?_ (fun w' hS => ?_) ?_
      rotate_left
      (go_simp
       rfl)
      refine env_end ?_
      have hfr := HFR.out
      clear HFR HSZ H0 H1 H2 H3 H4 H5 H6 H7 H8 H9 H10 H11 H12 H13 H14 H15 H16 x_7 x_2
      subst hfr
      simp only [putAll, Act.put, List.setIfInBounds_toArray, List.set_cons_succ, List.set_cons_zero]
      go_wp2_with fail
      go_ret2
      rw [hsm.out]
      exact ⟨ret_ints rfl (by have := HT.out; omega), hbel.out.drew⟩
    have hlt2 : t < rows.length := by rw [← HN.out]; exact hlt
    rcases HS.out with h0 | ⟨b, o, rfl, hrow⟩
    · exfalso; rw [h0] at hlt2; exact absurd hlt2 (Nat.not_lt_zero _)
    have hbo : b < w.heap.size := hrow.1
    have hRt := HRB.out rows[t] (List.getElem_mem hlt2)
    obtain ⟨-, -, kt⟩ := rowB_parts hRt
    obtain ⟨cap1, bk1, ok1, d10, d11, d12, d1a, d1l, d1c, e10, e11, e12, e13, g10, g11, g12, g13, r1, rr1⟩ := key_cells hbel.out hrow t hlt2 kt
    have W1 := HW.out t hlt2
    have V1 := keyT_wt kt W1
    have HKT := Aside.mk (key_right hRt)
    have lb : b < wr.heap.size := Nat.lt_of_lt_of_le hbo hbel.out.size
    have lb1 : bk1 < wr.heap.size := cell_lt g10
    have R1 := Aside.mk (Rec.term.old (w1 := wr.drew) r1 (Below.refl _ _).drew)
    have R2 := Aside.mk (Rec.term.old (w1 := wr.drew) HKY.out hbel.out.drew)
    have ut : (t : Int) < n := by omega
    have kt2 : (0 : Int) < rows[t].kids.length := by omega
    obtain ⟨sk, hsk⟩ : ∃ sk, sk = sameB (keyT rows[t]) key := ⟨_, rfl⟩
    have HSK := Aside.mk hsk
    have hdrop : Aside (∀ h : m < (rows.drop f).length, (rows.drop f)[m] = rows[t]) := ⟨fun h => by rw [List.getElem_drop]; simp only [HT.out]⟩
    clear r1 rr1 hrow hRt hsk hbo
    go_wp2_with fail
    refine region_env [(0, true), (1, true), (2, true), (3, true), (4, true), (5, true), (6, true), (7, true), (8, true), (9, true), (10, true), (11, true), (12, true), (13, true), (14, true), (15, false), (16, true)] (fun w' => Below wr.heap.size wr w') 42 rfl (by kernel_rfl) (by kernel_rfl) (fun _ _ d _ _ h => by cases d <;> exact h) ((Below.refl _ _).drew) (fun ops fr HFR HSZ hl => ?_)
    have hl_0 := ops_start hl
    clear hl
    obtain ⟨H0, hl_1⟩ := ops_next 0 1 rfl hl_0
    clear hl_0
    obtain ⟨H1, hl_2⟩ := ops_next 1 2 rfl hl_1
    clear hl_1
    obtain ⟨H2, hl_3⟩ := ops_next 2 3 rfl hl_2
    clear hl_2
    obtain ⟨H3, hl_4⟩ := ops_next 3 4 rfl hl_3
    clear hl_3
    obtain ⟨H4, hl_5⟩ := ops_next 4 5 rfl hl_4
    clear hl_4
    obtain ⟨H5, hl_6⟩ := ops_next 5 6 rfl hl_5
    clear hl_5
    obtain ⟨H6, hl_7⟩ := ops_next 6 7 rfl hl_6
    clear hl_6
    obtain ⟨H7, hl_8⟩ := ops_next 7 8 rfl hl_7
    clear hl_7
    obtain ⟨H8, hl_9⟩ := ops_next 8 9 rfl hl_8
    clear hl_8
    obtain ⟨H9, hl_10⟩ := ops_next 9 10 rfl hl_9
    clear hl_9
    obtain ⟨H10, hl_11⟩ := ops_next 10 11 rfl hl_10
    clear hl_10
    obtain ⟨H11, hl_12⟩ := ops_next 11 12 rfl hl_11
    clear hl_11
    obtain ⟨H12, hl_13⟩ := ops_next 12 13 rfl hl_12
    clear hl_12
    obtain ⟨H13, hl_14⟩ := ops_next 13 14 rfl hl_13
    clear hl_13
    obtain ⟨H14, hl_15⟩ := ops_next 14 15 rfl hl_14
    clear hl_14
    obtain ⟨H15, hl_16⟩ := ops_next 15 16 rfl hl_15
    clear hl_15
    obtain ⟨H16, hl_17⟩ := ops_next 16 17 rfl hl_16
    clear hl_16
    clear hl_17
    have x_7 : ext fr 7 = _ := congrArg (fun a => Act.eval a (.tmp 7)) HFR.out
    conv at x_7 => rhs; simp only [Act.eval, Array.getD_eq_getD_getElem?, List.getElem?_toArray, List.getElem?_cons_succ, List.getElem?_cons_zero, Option.getD_some]
    have x_2 : ext fr 2 = _ := congrArg (fun a => Act.eval a (.tmp 2)) HFR.out
    conv at x_2 => rhs; simp only [Act.eval, Array.getD_eq_getD_getElem?, List.getElem?_toArray, List.getElem?_cons_succ, List.getElem?_cons_zero, Option.getD_some]
    have x_3 : ext fr 3 = _ := congrArg (fun a => Act.eval a (.tmp 3)) HFR.out
    conv at x_3 => rhs; simp only [Act.eval, Array.getD_eq_getD_getElem?, List.getElem?_toArray, List.getElem?_cons_succ, List.getElem?_cons_zero, Option.getD_some]
    refine env_yes HSZ H0.out ?_ (fun w' hS => ?_) ?_
    rotate_left
    (go_simp
     rfl)
    refine env_yes HSZ H1.out ?_ (fun w' hS => ?_) ?_
    rotate_left
    (go_simp
     rfl)
    refine env_yes HSZ H2.out ?_ (fun w' hS => ?_) ?_
    rotate_left
    (have h := (hS.cell (p := ⟨w.heap.size, 1, none⟩) l0).trans y1
     go_simp
     rfl)
    refine env_yes HSZ H3.out ?_ (fun w' hS => ?_) ?_
    rotate_left
    (go_simp
     rfl)
    refine env_yes HSZ H4.out ?_ (fun w' hS => ?_) ?_
    rotate_left
    (go_simp
     rfl)
    refine env_yes HSZ H5.out ?_ (fun w' hS => ?_) ?_
    rotate_left
    (go_simp
     rfl)
    refine env_on HSZ H6.out H5.out (by first | rfl | go_simp) ?_ (fun w' hS => ?_) ?_
    rotate_left
    (go_simp
     rfl)
    refine env_on HSZ H7.out H5.out (by first | rfl | go_simp) ?_ (fun w' hS => ?_) ?_
    rotate_left
    (have h := (hS.cell (p := ⟨w.heap.size, 1, none⟩) l0).trans y1
     go_simp
     rfl)
    refine env_on HSZ H8.out H5.out (by first | rfl | go_simp) ?_ (fun w' hS => ?_) ?_
    rotate_left
    (go_simp
     rfl)
    refine env_on HSZ H9.out H5.out (by first | rfl | go_simp) ?_ (fun w' hS => ?_) ?_
    rotate_left
    (go_simp
     rfl)
    refine env_on HSZ H10.out H5.out (by first | rfl | go_simp) ?_ (fun w' hS => ?_) ?_
    rotate_left
    (go_simp
     rfl)
    refine env_on HSZ H11.out H5.out (by first | rfl | go_simp) ?_ (fun w' hS => ?_) ?_
    rotate_left
    (have h := (hS.cell (p := ⟨b, o + t * 4 + 3, none⟩) lb).trans e13
     go_simp
     rfl)
    refine env_on HSZ H12.out H5.out (by first | rfl | go_simp) ?_ (fun w' hS => ?_) ?_
    rotate_left
    (go_simp
     rfl)
    refine env_on HSZ H13.out H5.out (by first | rfl | go_simp) ?_ (fun w' hS => ?_) ?_
    rotate_left
    (have h0 := (hS.cell (p := ⟨bk1, ok1, none⟩) lb1).trans g10
     have h1 := (hS.cell (p := ⟨bk1, ok1 + 1, none⟩) lb1).trans g11
     have h2 := (hS.cell (p := ⟨bk1, ok1 + 2, none⟩) lb1).trans g12
     have h3 := (hS.cell (p := ⟨bk1, ok1 + 3, none⟩) lb1).trans g13
     go_simp
     rfl)
    refine env_on HSZ H14.out H5.out (by first | rfl | go_simp) ?_ (fun w' hS => ?_) ?_
    rotate_left
    (have h0 := (hS.cell (p := ⟨w.heap.size + 1, 0, none⟩) l1).trans x0
     have h1 := (hS.cell (p := ⟨w.heap.size + 1, 1, none⟩) l1).trans x1
     have h2 := (hS.cell (p := ⟨w.heap.size + 1, 2, none⟩) l1).trans x2
     have h3 := (hS.cell (p := ⟨w.heap.size + 1, 3, none⟩) l1).trans x3
     go_simp
     rfl)
    refine env_call_on HSZ H15.out H5.out (by first | rfl | go_simp) ?_ ?_ ?_ ?_
    rotate_left 2
    (go_simp
     first | rfl | (constructor <;> rfl))
    refine (same (keyT rows[t]) key [.int .i64 d10, .int .i64 d11, .string d12, .slice d1a d1l d1c] [.int .i64 z0, .int .i64 z1, .string z2, .slice z3a z3b z3c] _ R1.out R2.out V1 hkw HKT.out HKR.out).mono ?_
    rintro e w4 ⟨rfl, hbn⟩
    have hk04 := Aside.mk (hk0.out.drew.below hbn)
    have hk14 := Aside.mk (hk1.out.drew.below hbn)
    have hb5 := Aside.mk (below_later hbel.out.drew hbn)
    refine ⟨_, rfl, below_later (Below.refl _ _).drew hbn, ?_⟩
    rw [← HSK.out]
    clear hbn
    refine env_yes HSZ H16.out ?_ (fun w' hS => ?_) ?_
    rotate_left
    (go_simp
     rfl)
    refine env_end ?_
    have hfr := HFR.out
    clear HFR HSZ H0 H1 H2 H3 H4 H5 H6 H7 H8 H9 H10 H11 H12 H13 H14 H15 H16 x_7 x_2 x_3
    subst hfr
    simp only [putAll, Act.put, List.setIfInBounds_toArray, List.set_cons_succ, List.set_cons_zero]
    clear e10 e11 e12 e13 g10 g11 g12 g13 R1 R2 y0 y1 x0 x1 x2 x3 l0 l1 lb lb1 hk0 hk1 hbel
    cases sk
    · have hsm : Aside (s = m) := ⟨by
        rw [HSM.out]
        refine tw_len _ m (by rw [List.length_drop, ← HN.out]; have := HT.out; omega) hall.out (fun h => ?_)
        rw [hdrop.out h]
        exact HSK.out.symm⟩
      clear hall hdrop HSK
      go_wp2_with fail
      go_ret2
      rw [hsm.out]
      exact ⟨ret_ints rfl (by have := HT.out; omega), hb5.out⟩
    have hall2 : Aside (∀ (j : Nat) (h : j < (rows.drop f).length), j < m + 1 → sameK key (rows.drop f)[j] = true) := ⟨fun j hj hji => by
      by_cases e : j = m
      · subst e
        rw [hdrop.out hj]
        exact HSK.out.symm
      · exact hall.out j hj (by omega)⟩
    have hts : Aside (((t : Int) + 1) = (f : Int) + ((m + 1 : Nat) : Int)) := ⟨by have := HT.out; omega⟩
    have htm : f + (m + 1) ≤ n := by have := HT.out; omega
    clear hall hdrop HSK
    go_wp2_with fail
    go_roundw
    case rel => exact ⟨m + 1, htm, by rw [hts.out], hk04, hk14, hb5, hall2⟩
    case measure => first | (simp [intOf]; done) | (simp [intOf]; omega)
end Go.Proofs.Ytdldgchkinflmaa.Fn
