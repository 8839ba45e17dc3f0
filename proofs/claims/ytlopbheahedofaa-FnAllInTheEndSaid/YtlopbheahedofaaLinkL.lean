/- Walks of LinkRun, both sides: they answer linkR. Conditions: those of each theorem. -/
import Derived.Test.YtlopbheahedofaaLinkK
set_option linter.unusedVariables false
namespace Go.Proofs.Ytlopbheahedofaa.Fn
open Go Go.RowKit Go.Proofs.Ytlopbheahedofaa.Lib Go.Proofs.Ytlopbheahedofaa.Plan
attribute [local go_sem] look_tmp look_const look_func look_global lookT_nil lookT_hit lookT_miss

theorem lsl_wt_at {α : Type} {R : Rec α} {xs : List α} {n : Nat} (h : R.sl.wt xs ≤ n) (j : Nat) (hj : j < xs.length) : R.wt xs[j] ≤ n :=
  Nat.le_trans (wt_le R xs j hj) (Nat.le_trans (Nat.le_add_left _ _) h)
theorem lsl_len {α : Type} {R : Rec α} {xs : List α} {n : Nat} (h : R.sl.wt xs ≤ n) : xs.length ≤ n := Nat.le_trans (Nat.le_add_right _ _) h
theorem linkR_no {win : Int} {acts : List ALinkAct} (h : ¬ (1 ≤ win ∧ win ≤ 16 ∧ acts.length ≤ 400)) : linkR win acts = (zeroR, 1) := if_neg h
theorem linkR_bad {win : Int} {acts : List ALinkAct} (h : 1 ≤ win ∧ win ≤ 16 ∧ acts.length ≤ 400) (j : Nat) (hj : j < acts.length) (hb : actB acts[j] = false) : linkR win acts = (zeroR, 5) := by
  unfold linkR
  rw [if_pos h, if_neg]
  intro ha
  have := List.all_eq_true.1 ha _ (List.getElem_mem hj)
  rw [hb] at this
  exact absurd this (by decide)
theorem linkR_good {win : Int} {acts : List ALinkAct} (h : 1 ≤ win ∧ win ≤ 16 ∧ acts.length ≤ 400) (ha : ∀ (j : Nat) (hj : j < acts.length), actB acts[j] = true) : linkR win acts = (repK (runK win.toNat acts), 0) := by
  unfold linkR
  rw [if_pos h, if_pos]
  rw [List.all_eq_true]
  intro x hx
  obtain ⟨j, hj, rfl⟩ := List.mem_iff_getElem.1 hx
  exact ha j hj
theorem set5 (w : World) (g : Nat) (a b c d e : Value) : ∀ k, k ≠ g → (((((w.setCell ⟨g, 0, none⟩ a).setCell ⟨g, 1, none⟩ b).setCell ⟨g, 2, none⟩ c).setCell ⟨g, 3, none⟩ d).setCell ⟨g, 4, none⟩ e).heap[k]? = w.heap[k]? := fun k hk =>
  (heap_far hk).trans ((heap_far hk).trans ((heap_far hk).trans ((heap_far hk).trans (heap_far hk))))
set_option maxRecDepth 100000 in
set_option maxHeartbeats 8000000 in
theorem iLinkRun (win : Int) (acts : List ALinkAct) (v : Value) (w : World) (h : RLinkAct.sl.rd False w (Old w) acts [v]) (hw : RLinkAct.sl.wt acts ≤ 1048576) :
    Calls Try.prog 9 #[.int .i64 win, v] w fun e w' => ∃ cs, e = .returned (.tuple #[.agg cs.toArray, .int .i64 (linkR win acts).2]) ∧ RLinkReport.rd True w' (Span w.heap.size w'.heap.size) (linkR win acts).1 cs ∧ Below w.heap.size w w' := by
  obtain ⟨A, cap, e, hcap, hs⟩ := h
  injection e with e _
  subst e
  have hlen : acts.length ≤ 1048576 := lsl_len hw
  by_cases hg : 1 ≤ win ∧ win ≤ 16 ∧ acts.length ≤ 400
  rotate_left
  · refine (iRun_off win A acts.length cap w hlen hg).mono ?_
    rintro e w1 ⟨rfl, hb⟩
    rw [linkR_no hg]
    exact ⟨_, rfl, zeroR_rd w1 _, hb⟩
  have HBAD : Aside (∀ (j : Nat) (hj : j < acts.length), actB acts[j] = false → linkR win acts = (zeroR, 5)) := ⟨fun j hj h => linkR_bad hg j hj h⟩
  have HGOOD : Aside ((∀ (j : Nat) (hj : j < acts.length), actB acts[j] = true) → linkR win acts = (repK (runK win.toNat acts), 0)) := ⟨fun h => linkR_good hg h⟩
  generalize linkR win acts = res at HBAD HGOOD ⊢
  obtain ⟨g1, g2, g3⟩ := hg
  obtain ⟨W, rfl⟩ := Int.eq_ofNat_of_zero_le (show 0 ≤ win by omega)
  have hW1 : 1 ≤ W := by omega
  have hW2 : W ≤ 16 := by omega
  have HW := Aside.mk (lsl_wt_at hw)
  have HG0 : Aside ((W : Int).toNat = W) := ⟨by omega⟩
  obtain ⟨n, hn⟩ : ∃ n, n = acts.length := ⟨_, rfl⟩
  have HN := Aside.mk hn
  have HS := Aside.mk hs
  have hn4 : n ≤ 400 := by omega
  have hn5 : (n : Int) ≤ 400 := by omega
  have hc1 : n ≤ cap := by omega
  have gg1 : ¬ (W : Int) < 1 := by omega
  have gg2 : ¬ 16 < (W : Int) := by omega
  have gg3 : ¬ 400 < (n : Int) := by omega
  rw [← hn]
  have K0 := Aside.mk (Blk.new w 30 [.int .i64 0, .int .i64 0, .int .i64 0, .slice none 0 0, .slice none 0 0])
  have B0 : Aside (Below w.heap.size w (w.alloc (.cells #[.int .i64 0, .int .i64 0, .int .i64 0, .slice none 0 0, .slice none 0 0] 30))) := ⟨by go_grown⟩
  clear hs hw hn hlen g3 hcap
  go_enter Try.func9, Try.ntmps9
  go_wp2_with fail
  go_loopw [25] (fun iv wr => ∃ i : Nat, i ≤ n ∧ iv = .int .i64 i ∧ Aside (∀ (j : Nat) (hj : j < acts.length), j < i → actB acts[j] = true) ∧ Aside (Blk wr w.heap.size 30 [.int .i64 0, .int .i64 0, .int .i64 0, .slice none 0 0, .slice none 0 0]) ∧ Aside (Below w.heap.size w wr)) (fun iv _ => n - (intOf iv).toNat)
  case atStart => exact ⟨0, Nat.zero_le _, rfl, ⟨fun j _ h => absurd h (Nat.not_lt_zero _)⟩, K0, B0⟩
  case round =>
    obtain ⟨i, hi, rfl, hall, hk0, hb0⟩ := hrel
    clear K0 B0
    by_cases hlt : i < n
    · have hlt1 : i < acts.length := by rw [← HN.out]; exact hlt
      rcases HS.out with h0 | ⟨b, o, rfl, hbo, g, hg, -, hrow⟩
      · exfalso; rw [h0] at hlt1; exact absurd hlt1 (Nat.not_lt_zero _)
      obtain ⟨cs1, hr1, hc1⟩ := hrow i hlt1
      obtain rfl := act_parts hr1
      have W1 := HW.out i hlt1
      have hbad := Aside.mk (HBAD.out i hlt1)
      have hall2 : Aside (actB acts[i] = true → ∀ (j : Nat) (hj : j < acts.length), j < i + 1 → actB acts[j] = true) := ⟨fun hR j hj hji => by
        by_cases e : j = i
        · subst e; exact hR
        · exact hall.out j hj (by omega)⟩
      obtain ⟨⟨x0, x1, x2⟩, hx⟩ : ∃ x, x = acts[i] := ⟨_, rfl⟩
      rw [← hx] at hc1 W1 hbad hall2
      dsimp only at hc1 W1
      have hx2 : x2.size ≤ 140737488355328 := by
        have h2 : 0 + (0 + x2.size) ≤ 1048576 := W1
        omega
      have hbel2 := hb0.out
      have d0 : wr.cell? ⟨b, o + i * 3, none⟩ = some (.int .i64 x0) := (hbel2.cell (p := ⟨b, o + i * 3 + 0, none⟩) hbo).trans (hc1 0 (by decide))
      have d1 : wr.cell? ⟨b, o + i * 3 + 1, none⟩ = some (.int .i64 x1) := (hbel2.cell (p := ⟨b, o + i * 3 + 1, none⟩) hbo).trans (hc1 1 (by decide))
      have d2 : wr.cell? ⟨b, o + i * 3 + 2, none⟩ = some (.string x2) := (hbel2.cell (p := ⟨b, o + i * 3 + 2, none⟩) hbo).trans (hc1 2 (by decide))
      have hb1 := Aside.mk (hbel2.alloc hbel2.size (.cells #[.int .i64 x0, .int .i64 x1, .string x2] 34))
      have hk1 := Aside.mk (hk0.out.alloc (.cells #[.int .i64 x0, .int .i64 x1, .string x2] 34))
      clear hc1 hrow hg hr1 hbel2 hall hx hk0 hb0 W1
      go_wp2_with fail
      refine (iActOK x0 x1 x2 _ hx2).mono ?_
      rintro e w2 ⟨rfl, hb2⟩
      have hb3 := Aside.mk (below_later hb1.out hb2)
      have hk3 := Aside.mk (hk1.out.below hb2)
      clear d0 d1 d2 hb1 hk1 hb2
      cases hR : actB (x0, x1, x2)
      · have E : Aside (res = (zeroR, 5)) := ⟨hbad.out hR⟩
        clear hR
        go_wp2_with (refine wpList_store_blk rfl 30 _ _ rfl w.heap.size [.int .i64 0, .int .i64 0, .int .i64 0, .slice none 0 0, .slice none 0 0] rfl rfl 30 [.int .i64 0, .int .i64 0, .int .i64 0, .slice none 0 0, .slice none 0 0] hk3.out (by kernel_rfl) rfl rfl ?_; intro w9 k9 hg9; have K9 := Aside.mk k9; have B9 := Aside.mk (below_grown hb3.out hg9 (Nat.le_refl _)); clear k9 hg9)
        refine bodyPost_ret (res_ct rfl _ _ w.heap.size 30 [.int .i64 0, .int .i64 0, .int .i64 0, .slice none 0 0, .slice none 0 0] _ rfl K9.out Try.underlying30 rfl (by kernel_rfl)) rfl ⟨[.int .i64 0, .int .i64 0, .int .i64 0, .slice none 0 0, .slice none 0 0], by rw [E.out]; rfl, by rw [E.out]; exact zeroR_rd _ _, B9.out⟩
      have hall3 := Aside.mk (hall2.out hR)
      clear hR hall2 hbad
      go_wp2_with fail
      go_roundw
      case rel => exact ⟨i + 1, by omega, by go_num, hall3, hk3, hb3⟩
      case measure => first | (simp [intOf]; done) | (simp [intOf]; omega)
    · obtain rfl : i = n := by omega
      have E : Aside (res = (repK (runK W acts), 0)) := ⟨by have h := HGOOD.out (fun j hj => hall.out j hj (by rw [HN.out]; exact hj)); rwa [HG0.out] at h⟩
      have HALL : Aside (∀ a ∈ acts, actB a = true) := ⟨fun a ha => by
        obtain ⟨j, hj, rfl⟩ := List.mem_iff_getElem.1 ha
        exact hall.out j hj (by rw [HN.out]; exact hj)⟩
      clear HBAD HGOOD hall
      obtain ⟨g, hgd⟩ : ∃ g, g = wr.heap.size := ⟨_, rfl⟩
      have lw : w.heap.size < g := by rw [hgd]; exact hk0.out.lt
      have HL := Aside.mk (LkAt.new wr (w.heap.size + 1) 61 W hk0.out.lt)
      have K1 := Aside.mk (hk0.out.alloc (.cells #[.int .i64 W, .slice none 0 0, .int .i64 0, .int .i64 0, .slice none 0 0, .slice none 0 0] 61))
      have B1 := Aside.mk (hb0.out.alloc hb0.out.size (.cells #[.int .i64 W, .slice none 0 0, .int .i64 0, .int .i64 0, .slice none 0 0, .slice none 0 0] 61))
      rw [← hgd] at HL
      have HGD := Aside.mk hgd
      clear hk0 hb0 hgd
      go_wp2_with fail
      try rw [← HGD.out]
      go_loopw [39] (fun jv wx => ∃ k : Nat, k ≤ i ∧ jv = .int .i64 k ∧ Aside (LkAt wx (w.heap.size + 1) g 61 W (runK W (acts.take k))) ∧ Aside (Blk wx w.heap.size 30 [.int .i64 0, .int .i64 0, .int .i64 0, .slice none 0 0, .slice none 0 0]) ∧ Aside (Below w.heap.size w wx)) (fun jv _ => i - (intOf jv).toNat)
      case atStart => exact ⟨0, Nat.zero_le _, rfl, HL, K1, B1⟩
      case round =>
        rename_i wy _
        obtain ⟨k, hk, rfl, hat, hk0, hb0⟩ := hrel
        clear HL K1 B1
        by_cases hlt : k < i
        · have hlt1 : k < acts.length := by rw [← HN.out]; exact hlt
          rcases HS.out with h0 | ⟨b, o, rfl, hbo, f, hf, -, hrow⟩
          · exfalso; rw [h0] at hlt1; exact absurd hlt1 (Nat.not_lt_zero _)
          obtain ⟨cs1, hr1, hc1⟩ := hrow k hlt1
          obtain rfl := act_parts hr1
          have hsn := runK_snoc W acts k hlt1
          have hok := LkOK.run W acts HALL.out k (by omega)
          have hact := HALL.out _ (List.getElem_mem hlt1)
          obtain ⟨⟨x0, x1, x2⟩, hx⟩ : ∃ x, x = acts[k] := ⟨_, rfl⟩
          rw [← hx] at hc1 hsn hact
          dsimp only at hc1
          have hbel2 := hb0.out
          have d0 : wr.cell? ⟨b, o + k * 3, none⟩ = some (.int .i64 x0) := (hbel2.cell (p := ⟨b, o + k * 3 + 0, none⟩) hbo).trans (hc1 0 (by decide))
          have d1 : wr.cell? ⟨b, o + k * 3 + 1, none⟩ = some (.int .i64 x1) := (hbel2.cell (p := ⟨b, o + k * 3 + 1, none⟩) hbo).trans (hc1 1 (by decide))
          have d2 : wr.cell? ⟨b, o + k * 3 + 2, none⟩ = some (.string x2) := (hbel2.cell (p := ⟨b, o + k * 3 + 2, none⟩) hbo).trans (hc1 2 (by decide))
          have HSN := Aside.mk hsn
          have HOK := Aside.mk hok
          have HACT := Aside.mk hact
          have hb1 := Aside.mk (hbel2.alloc hbel2.size (.cells #[.int .i64 x0, .int .i64 x1, .string x2] 34))
          have hk1 := Aside.mk (hk0.out.alloc (.cells #[.int .i64 x0, .int .i64 x1, .string x2] 34))
          have hat1 := Aside.mk (hat.out.below ((Below.refl _ _).alloc (Nat.le_refl _) (.cells #[.int .i64 x0, .int .i64 x1, .string x2] 34)))
          clear hc1 hrow hf hr1 hbel2 hx hk0 hb0 hat hsn hok hact
          go_wp2_with fail
          refine (iTurn (w.heap.size + 1) g W k _ (x0, x1, x2) _ hat1.out HOK.out HACT.out (by omega) hW2).mono ?_
          rintro e w2 ⟨rfl, hat2, hb2⟩
          have hat3 := Aside.mk hat2
          rw [← HSN.out] at hat3
          have hb3 := Aside.mk (hb1.out.trans (hb2.mono (Nat.le_succ _)))
          have hk3 : Aside (Blk w2 w.heap.size 30 [.int .i64 0, .int .i64 0, .int .i64 0, .slice none 0 0, .slice none 0 0]) := ⟨(hb2.block _ (Nat.lt_succ_self _)).trans hk1.out⟩
          clear d0 d1 d2 hb1 hk1 hb2 hat1 hat2 HSN HOK HACT
          go_wp2_with fail
          go_roundw
          case rel => exact ⟨k + 1, by omega, by go_num, hat3, hk3, hb3⟩
          case measure => first | (simp [intOf]; done) | (simp [intOf]; omega)
        · obtain rfl : k = i := by omega
          have hat2 := hat.out
          rw [HN.out, List.take_length] at hat2
          obtain ⟨vg, vt, vw, hv⟩ := hat2
          obtain ⟨A1, cap1, rfl, -, -⟩ := own_shape hv.og
          obtain ⟨A2, cap2, rfl, -, -⟩ := own_shape hv.ot
          obtain ⟨A3, cap3, rfl, -, -⟩ := own_shape hv.ow
          have hrep := hv.report
          have hok := LkOK.run W acts HALL.out acts.length (Nat.le_refl _)
          rw [List.take_length] at hok
          obtain ⟨s, hsd⟩ : ∃ s, s = runK W acts := ⟨_, rfl⟩
          have hgl := hok.given
          rw [← hsd] at hv hrep hgl E
          obtain ⟨ng, hng⟩ : ∃ x, x = s.given.length := ⟨_, rfl⟩
          obtain ⟨nt, hnt⟩ : ∃ x, x = s.taken.length := ⟨_, rfl⟩
          obtain ⟨nw, hnw⟩ : ∃ x, x = s.way.length := ⟨_, rfl⟩
          obtain ⟨na, hna⟩ : ∃ x, x = s.acked := ⟨_, rfl⟩
          obtain ⟨np, hnp⟩ : ∃ x, x = s.packed := ⟨_, rfl⟩
          rw [← hng, ← hnt, ← hnw, ← hna, ← hnp] at hrep
          have y1 : wr.cell? ⟨g, 1, none⟩ = some (.slice A1 ng cap1) := by rw [hng]; exact hv.blk.cell 1
          have y2 : wr.cell? ⟨g, 2, none⟩ = some (.int .i64 na) := by rw [hna]; exact hv.blk.cell 2
          have y3 : wr.cell? ⟨g, 3, none⟩ = some (.int .i64 np) := by rw [hnp]; exact hv.blk.cell 3
          have y4 : wr.cell? ⟨g, 4, none⟩ = some (.slice A2 nt cap2) := by rw [hnt]; exact hv.blk.cell 4
          have y5 : wr.cell? ⟨g, 5, none⟩ = some (.slice A3 nw cap3) := by rw [hnw]; exact hv.blk.cell 5
          have lg : g < wr.heap.size := hv.blk.lt
          have hng4 : ng ≤ 400 := by have := HN.out; omega
          have HREP := Aside.mk hrep
          have HK := hk0
          have HB := hb0
          obtain ⟨w9, hw9⟩ : ∃ x, x = (((((wr.drew.setCell ⟨w.heap.size, 0, none⟩ (.int .i64 ng)).setCell ⟨w.heap.size, 1, none⟩ (.int .i64 na)).setCell ⟨w.heap.size, 2, none⟩ (.int .i64 np)).setCell ⟨w.heap.size, 3, none⟩ (.slice A2 nt cap2)).setCell ⟨w.heap.size, 4, none⟩ (.slice A3 nw cap3)) := ⟨_, rfl⟩
          have K9 : Aside (Blk w9 w.heap.size 30 [.int .i64 ng, .int .i64 na, .int .i64 np, .slice A2 nt cap2, .slice A3 nw cap3]) := ⟨by
            rw [hw9]
            exact (((((show Blk wr.drew w.heap.size 30 _ from hk0.out).set 0 (.int .i64 ng)).set 1 (.int .i64 na)).set 2 (.int .i64 np)).set 3 (.slice A2 nt cap2)).set 4 (.slice A3 nw cap3)⟩
          have F9 : Aside (∀ k, k ≠ w.heap.size → w9.heap[k]? = wr.heap[k]?) := ⟨fun k hk => by rw [hw9]; exact set5 wr.drew w.heap.size _ _ _ _ _ k hk⟩
          have Z9 : Aside (w9.heap.size = wr.heap.size) := ⟨by rw [hw9]; simp⟩
          have B9 : Aside (Below w.heap.size w w9) := ⟨by
            rw [hw9]
            exact ((((hb0.out.drew.setCell (Nat.le_refl _) _).setCell (Nat.le_refl _) _).setCell (Nat.le_refl _) _).setCell (Nat.le_refl _) _).setCell (Nat.le_refl _) _⟩
          have c0 : wr.cell? ⟨w.heap.size, 0, none⟩ = some (.int .i64 0) := hk0.out.cell 0
          have c1 : wr.cell? ⟨w.heap.size, 1, none⟩ = some (.int .i64 0) := hk0.out.cell 1
          have c2 : wr.cell? ⟨w.heap.size, 2, none⟩ = some (.int .i64 0) := hk0.out.cell 2
          have c3 : wr.cell? ⟨w.heap.size, 3, none⟩ = some (.slice none 0 0) := hk0.out.cell 3
          have c4 : wr.cell? ⟨w.heap.size, 4, none⟩ = some (.slice none 0 0) := hk0.out.cell 4
          have f0 : wr.frozen? ⟨w.heap.size, 0, none⟩ = false := hk0.out.free 0
          have f1 : wr.frozen? ⟨w.heap.size, 1, none⟩ = false := hk0.out.free 1
          have f2 : wr.frozen? ⟨w.heap.size, 2, none⟩ = false := hk0.out.free 2
          have f3 : wr.frozen? ⟨w.heap.size, 3, none⟩ = false := hk0.out.free 3
          have f4 : wr.frozen? ⟨w.heap.size, 4, none⟩ = false := hk0.out.free 4
          clear hng hnt hnw hna hnp hv hrep hok hsd hat hk0 hb0 hgl
          go_wp2_with fail
          refine region_env2 [(0, true), (1, true), (2, true), (3, true), (4, true), (5, true), (6, true), (7, true), (8, true), (9, true), (10, true), (11, true), (12, true), (13, true), (14, true), (15, true), (16, true), (17, true), (18, true), (19, true), (20, true), (21, true), (22, false), (23, true)] (fun w' => Below wr.heap.size wr w') (fun _ => True) 22 69 rfl (by kernel_rfl) (by kernel_rfl) (fun _ _ d _ _ h => by cases d <;> exact h) (fun _ _ => trivial) ((Below.refl _ _).drew) (fun ops fr HFR HSZ HWT hl => ?_)
          have hl_0 := ops_start hl
          clear hl
          obtain ⟨H0, hl_1⟩ := ops_next 0 1 rfl hl_0
          clear hl_0
          obtain ⟨H1, hl_2⟩ := ops_next 1 2 rfl hl_1
          clear hl_1
          obtain ⟨H2, hl_3⟩ := ops_next 2 3 rfl hl_2
          clear hl_2
          obtain ⟨H3, hl_4⟩ := ops_next 3 4 rfl hl_3
          clear hl_3
          obtain ⟨H4, hl_5⟩ := ops_next 4 5 rfl hl_4
          clear hl_4
          obtain ⟨H5, hl_6⟩ := ops_next 5 6 rfl hl_5
          clear hl_5
          obtain ⟨H6, hl_7⟩ := ops_next 6 7 rfl hl_6
          clear hl_6
          obtain ⟨H7, hl_8⟩ := ops_next 7 8 rfl hl_7
          clear hl_7
          obtain ⟨H8, hl_9⟩ := ops_next 8 9 rfl hl_8
          clear hl_8
          obtain ⟨H9, hl_10⟩ := ops_next 9 10 rfl hl_9
          clear hl_9
          obtain ⟨H10, hl_11⟩ := ops_next 10 11 rfl hl_10
          clear hl_10
          obtain ⟨H11, hl_12⟩ := ops_next 11 12 rfl hl_11
          clear hl_11
          obtain ⟨H12, hl_13⟩ := ops_next 12 13 rfl hl_12
          clear hl_12
          obtain ⟨H13, hl_14⟩ := ops_next 13 14 rfl hl_13
          clear hl_13
          obtain ⟨H14, hl_15⟩ := ops_next 14 15 rfl hl_14
          clear hl_14
          obtain ⟨H15, hl_16⟩ := ops_next 15 16 rfl hl_15
          clear hl_15
          obtain ⟨H16, hl_17⟩ := ops_next 16 17 rfl hl_16
          clear hl_16
          obtain ⟨H17, hl_18⟩ := ops_next 17 18 rfl hl_17
          clear hl_17
          obtain ⟨H18, hl_19⟩ := ops_next 18 19 rfl hl_18
          clear hl_18
          obtain ⟨H19, hl_20⟩ := ops_next 19 20 rfl hl_19
          clear hl_19
          obtain ⟨H20, hl_21⟩ := ops_next 20 21 rfl hl_20
          clear hl_20
          obtain ⟨H21, hl_22⟩ := ops_next 21 22 rfl hl_21
          clear hl_21
          obtain ⟨H22, hl_23⟩ := ops_next 22 23 rfl hl_22
          clear hl_22
          obtain ⟨H23, hl_24⟩ := ops_next 23 24 rfl hl_23
          clear hl_23
          clear hl_24
          have x_8 : ext fr 8 = _ := congrArg (fun a => Act.eval a (.tmp 8)) HFR.out
          conv at x_8 => rhs; simp only [Act.eval, Array.getD_eq_getD_getElem?, List.getElem?_toArray, List.getElem?_cons_succ, List.getElem?_cons_zero, Option.getD_some]
          have x_4 : ext fr 4 = _ := congrArg (fun a => Act.eval a (.tmp 4)) HFR.out
          conv at x_4 => rhs; simp only [Act.eval, Array.getD_eq_getD_getElem?, List.getElem?_toArray, List.getElem?_cons_succ, List.getElem?_cons_zero, Option.getD_some]
          refine env2_early HSZ (by decide) HWT (by kernel_rfl) H0.out ?_ (fun w' hS => ?_) ?_
          rotate_left
          (go_simp
           rfl)
          refine env2_early HSZ (by decide) HWT (by kernel_rfl) H1.out ?_ (fun w' hS => ?_) ?_
          rotate_left
          (go_simp
           rfl)
          refine env2_early HSZ (by decide) HWT (by kernel_rfl) H2.out ?_ (fun w' hS => ?_) ?_
          rotate_left
          (go_simp
           rfl)
          refine env2_early HSZ (by decide) HWT (by kernel_rfl) H3.out ?_ (fun w' hS => ?_) ?_
          rotate_left
          (have h := (hS.cell (p := ⟨g, 1, none⟩) lg).trans y1
           go_simp
           rfl)
          refine env2_early HSZ (by decide) HWT (by kernel_rfl) H4.out ?_ (fun w' hS => ?_) ?_
          rotate_left
          (go_simp
           rfl)
          refine env2_early HSZ (by decide) HWT (by kernel_rfl) H5.out ?_ (fun w' hS => ?_) ?_
          rotate_left
          (go_simp
           rfl)
          refine env2_early HSZ (by decide) HWT (by kernel_rfl) H6.out ?_ (fun w' hS => ?_) ?_
          rotate_left
          (go_simp
           rfl)
          refine env2_early HSZ (by decide) HWT (by kernel_rfl) H7.out ?_ (fun w' hS => ?_) ?_
          rotate_left
          (go_simp
           rfl)
          refine env2_early HSZ (by decide) HWT (by kernel_rfl) H8.out ?_ (fun w' hS => ?_) ?_
          rotate_left
          (have h := (hS.cell (p := ⟨g, 2, none⟩) lg).trans y2
           go_simp
           rfl)
          refine env2_early HSZ (by decide) HWT (by kernel_rfl) H9.out ?_ (fun w' hS => ?_) ?_
          rotate_left
          (go_simp
           rfl)
          refine env2_early HSZ (by decide) HWT (by kernel_rfl) H10.out ?_ (fun w' hS => ?_) ?_
          rotate_left
          (go_simp
           rfl)
          refine env2_early HSZ (by decide) HWT (by kernel_rfl) H11.out ?_ (fun w' hS => ?_) ?_
          rotate_left
          (go_simp
           rfl)
          refine env2_early HSZ (by decide) HWT (by kernel_rfl) H12.out ?_ (fun w' hS => ?_) ?_
          rotate_left
          (have h := (hS.cell (p := ⟨g, 3, none⟩) lg).trans y3
           go_simp
           rfl)
          refine env2_early HSZ (by decide) HWT (by kernel_rfl) H13.out ?_ (fun w' hS => ?_) ?_
          rotate_left
          (go_simp
           rfl)
          refine env2_early HSZ (by decide) HWT (by kernel_rfl) H14.out ?_ (fun w' hS => ?_) ?_
          rotate_left
          (go_simp
           rfl)
          refine env2_early HSZ (by decide) HWT (by kernel_rfl) H15.out ?_ (fun w' hS => ?_) ?_
          rotate_left
          (go_simp
           rfl)
          refine env2_early HSZ (by decide) HWT (by kernel_rfl) H16.out ?_ (fun w' hS => ?_) ?_
          rotate_left
          (have h := (hS.cell (p := ⟨g, 4, none⟩) lg).trans y4
           go_simp
           rfl)
          refine env2_early HSZ (by decide) HWT (by kernel_rfl) H17.out ?_ (fun w' hS => ?_) ?_
          rotate_left
          (go_simp
           rfl)
          refine env2_early HSZ (by decide) HWT (by kernel_rfl) H18.out ?_ (fun w' hS => ?_) ?_
          rotate_left
          (go_simp
           rfl)
          refine env2_early HSZ (by decide) HWT (by kernel_rfl) H19.out ?_ (fun w' hS => ?_) ?_
          rotate_left
          (go_simp
           rfl)
          refine env2_early HSZ (by decide) HWT (by kernel_rfl) H20.out ?_ (fun w' hS => ?_) ?_
          rotate_left
          (have h := (hS.cell (p := ⟨g, 5, none⟩) lg).trans y5
           go_simp
           rfl)
          refine env2_early HSZ (by decide) HWT (by kernel_rfl) H21.out ?_ (fun w' hS => ?_) ?_
          rotate_left
          (go_simp
           rfl)
          refine env2_store HSZ H22.out ?_ ?_ ?_ ?_
          rotate_left 1
          rotate_right 1
          exact w9
          (rw [hw9]; go_simp; try rfl)
          exact trivial
          refine env2_yes HSZ (by decide) H23.out ?_ (fun w' hS => ?_) ?_
          rotate_left
          (go_simp
           rfl)
          refine env2_end ?_
          have hfr := HFR.out
          clear HFR HSZ HWT H0 H1 H2 H3 H4 H5 H6 H7 H8 H9 H10 H11 H12 H13 H14 H15 H16 H17 H18 H19 H20 H21 H22 H23 x_8 x_4
          subst hfr
          simp only [putAll, Act.put, List.setIfInBounds_toArray, List.set_cons_succ, List.set_cons_zero]
          clear hw9 y1 y2 y3 y4 y5 c0 c1 c2 c3 c4 f0 f1 f2 f3 f4
          go_wp2_with fail
          refine bodyPost_ret (res_ct rfl _ _ w.heap.size 30 [.int .i64 ng, .int .i64 na, .int .i64 np, .slice A2 nt cap2, .slice A3 nw cap3] _ rfl K9.out Try.underlying30 rfl (by kernel_rfl)) rfl ⟨[.int .i64 ng, .int .i64 na, .int .i64 np, .slice A2 nt cap2, .slice A3 nw cap3], by rw [E.out]; rfl, by
            rw [E.out]
            exact RLinkReport.frame HREP.out (fun b hb => F9.out b (fun e => by have h1 := hb.1; omega)) (fun b hb => ⟨by have h1 := hb.1; omega, by rw [Z9.out]; exact hb.2⟩), B9.out⟩
set_option maxRecDepth 100000 in
set_option maxHeartbeats 8000000 in
theorem sLinkRun (win : Int) (acts : List ALinkAct) (v : Value) (w : World) (h : RLinkAct.sl.rd False w (Old w) acts [v]) (hw : RLinkAct.sl.wt acts ≤ 1048576) :
    Calls Try.prog 8 #[.int .i64 win, v] w fun e w' => ∃ cs, e = .returned (.tuple #[.agg cs.toArray, .int .i64 (linkR win acts).2]) ∧ RLinkReport.rd True w' (Span w.heap.size w'.heap.size) (linkR win acts).1 cs ∧ Below w.heap.size w w' := by
  obtain ⟨A, cap, e, hcap, hs⟩ := h
  injection e with e _
  subst e
  have hlen : acts.length ≤ 1048576 := lsl_len hw
  by_cases hg : 1 ≤ win ∧ win ≤ 16 ∧ acts.length ≤ 400
  rotate_left
  · refine (sRun_off win A acts.length cap w hlen hg).mono ?_
    rintro e w1 ⟨rfl, hb⟩
    rw [linkR_no hg]
    exact ⟨_, rfl, zeroR_rd w1 _, hb⟩
  have HBAD : Aside (∀ (j : Nat) (hj : j < acts.length), actB acts[j] = false → linkR win acts = (zeroR, 5)) := ⟨fun j hj h => linkR_bad hg j hj h⟩
  have HGOOD : Aside ((∀ (j : Nat) (hj : j < acts.length), actB acts[j] = true) → linkR win acts = (repK (runK win.toNat acts), 0)) := ⟨fun h => linkR_good hg h⟩
  generalize linkR win acts = res at HBAD HGOOD ⊢
  obtain ⟨g1, g2, g3⟩ := hg
  obtain ⟨W, rfl⟩ := Int.eq_ofNat_of_zero_le (show 0 ≤ win by omega)
  have hW1 : 1 ≤ W := by omega
  have hW2 : W ≤ 16 := by omega
  have HW := Aside.mk (lsl_wt_at hw)
  have HG0 : Aside ((W : Int).toNat = W) := ⟨by omega⟩
  obtain ⟨n, hn⟩ : ∃ n, n = acts.length := ⟨_, rfl⟩
  have HN := Aside.mk hn
  have HS := Aside.mk hs
  have hn4 : n ≤ 400 := by omega
  have hn5 : (n : Int) ≤ 400 := by omega
  have hc1 : n ≤ cap := by omega
  have gg1 : ¬ (W : Int) < 1 := by omega
  have gg2 : ¬ 16 < (W : Int) := by omega
  have gg3 : ¬ 400 < (n : Int) := by omega
  rw [← hn]
  have K0 := Aside.mk (Blk.new w 30 [.int .i64 0, .int .i64 0, .int .i64 0, .slice none 0 0, .slice none 0 0])
  have B0 : Aside (Below w.heap.size w (w.alloc (.cells #[.int .i64 0, .int .i64 0, .int .i64 0, .slice none 0 0, .slice none 0 0] 30))) := ⟨by go_grown⟩
  clear hs hw hn hlen g3 hcap
  go_enter Try.func8, Try.ntmps8
  go_wp2_with fail
  refine (between W 1 16 _).mono ?_
  rintro e w1 ⟨rfl, rfl⟩
  rw [show (decide ((1 : Int) ≤ (W : Int)) && decide ((W : Int) ≤ 16)) = true by simp; omega]
  go_wp2_with fail
  go_loopw [6] (fun iv wr => ∃ i : Nat, i ≤ n ∧ iv = .int .i64 i ∧ Aside (∀ (j : Nat) (hj : j < acts.length), j < i → actB acts[j] = true) ∧ Aside (Blk wr w.heap.size 30 [.int .i64 0, .int .i64 0, .int .i64 0, .slice none 0 0, .slice none 0 0]) ∧ Aside (Below w.heap.size w wr)) (fun iv _ => n - (intOf iv).toNat)
  case atStart => exact ⟨0, Nat.zero_le _, rfl, ⟨fun j _ h => absurd h (Nat.not_lt_zero _)⟩, K0, B0⟩
  case round =>
    obtain ⟨i, hi, rfl, hall, hk0, hb0⟩ := hrel
    clear K0 B0
    by_cases hlt : i < n
    · have hlt1 : i < acts.length := by rw [← HN.out]; exact hlt
      rcases HS.out with h0 | ⟨b, o, rfl, hbo, g, hg, -, hrow⟩
      · exfalso; rw [h0] at hlt1; exact absurd hlt1 (Nat.not_lt_zero _)
      obtain ⟨cs1, hr1, hc1⟩ := hrow i hlt1
      obtain rfl := act_parts hr1
      have W1 := HW.out i hlt1
      have hbad := Aside.mk (HBAD.out i hlt1)
      have hall2 : Aside (actB acts[i] = true → ∀ (j : Nat) (hj : j < acts.length), j < i + 1 → actB acts[j] = true) := ⟨fun hR j hj hji => by
        by_cases e : j = i
        · subst e; exact hR
        · exact hall.out j hj (by omega)⟩
      obtain ⟨⟨x0, x1, x2⟩, hx⟩ : ∃ x, x = acts[i] := ⟨_, rfl⟩
      rw [← hx] at hc1 W1 hbad hall2
      dsimp only at hc1 W1
      have hx2 : x2.size ≤ 140737488355328 := by
        have h2 : 0 + (0 + x2.size) ≤ 1048576 := W1
        omega
      have hbel2 := hb0.out
      have d0 : wr.cell? ⟨b, o + i * 3, none⟩ = some (.int .i64 x0) := (hbel2.cell (p := ⟨b, o + i * 3 + 0, none⟩) hbo).trans (hc1 0 (by decide))
      have d1 : wr.cell? ⟨b, o + i * 3 + 1, none⟩ = some (.int .i64 x1) := (hbel2.cell (p := ⟨b, o + i * 3 + 1, none⟩) hbo).trans (hc1 1 (by decide))
      have d2 : wr.cell? ⟨b, o + i * 3 + 2, none⟩ = some (.string x2) := (hbel2.cell (p := ⟨b, o + i * 3 + 2, none⟩) hbo).trans (hc1 2 (by decide))
      have hb1 := Aside.mk hbel2
      have hk1 := Aside.mk hk0.out
      clear hc1 hrow hg hr1 hbel2 hall hx hk0 hb0 W1
      go_wp2_with fail
      refine (sActOK x0 x1 x2 _ hx2).mono ?_
      rintro e w2 ⟨rfl, hb2⟩
      have hb3 := Aside.mk (below_later hb1.out hb2)
      have hk3 := Aside.mk (hk1.out.below hb2)
      clear d0 d1 d2 hb1 hk1 hb2
      cases hR : actB (x0, x1, x2)
      · have E : Aside (res = (zeroR, 5)) := ⟨hbad.out hR⟩
        clear hR
        go_wp2_with (refine wpList_store_blk rfl 30 _ _ rfl w.heap.size [.int .i64 0, .int .i64 0, .int .i64 0, .slice none 0 0, .slice none 0 0] rfl rfl 30 [.int .i64 0, .int .i64 0, .int .i64 0, .slice none 0 0, .slice none 0 0] hk3.out (by kernel_rfl) rfl rfl ?_; intro w9 k9 hg9; have K9 := Aside.mk k9; have B9 := Aside.mk (below_grown hb3.out hg9 (Nat.le_refl _)); clear k9 hg9)
        refine bodyPost_ret (res_ct rfl _ _ w.heap.size 30 [.int .i64 0, .int .i64 0, .int .i64 0, .slice none 0 0, .slice none 0 0] _ rfl K9.out Try.underlying30 rfl (by kernel_rfl)) rfl ⟨[.int .i64 0, .int .i64 0, .int .i64 0, .slice none 0 0, .slice none 0 0], by rw [E.out]; rfl, by rw [E.out]; exact zeroR_rd _ _, B9.out⟩
      have hall3 := Aside.mk (hall2.out hR)
      clear hR hall2 hbad
      go_wp2_with fail
      go_roundw
      case rel => exact ⟨i + 1, by omega, by go_num, hall3, hk3, hb3⟩
      case measure => first | (simp [intOf]; done) | (simp [intOf]; omega)
    · obtain rfl : i = n := by omega
      have E : Aside (res = (repK (runK W acts), 0)) := ⟨by have h := HGOOD.out (fun j hj => hall.out j hj (by rw [HN.out]; exact hj)); rwa [HG0.out] at h⟩
      have HALL : Aside (∀ a ∈ acts, actB a = true) := ⟨fun a ha => by
        obtain ⟨j, hj, rfl⟩ := List.mem_iff_getElem.1 ha
        exact hall.out j hj (by rw [HN.out]; exact hj)⟩
      clear HBAD HGOOD hall
      obtain ⟨g, hgd⟩ : ∃ g, g = wr.heap.size := ⟨_, rfl⟩
      have lw : w.heap.size < g := by rw [hgd]; exact hk0.out.lt
      have HL := Aside.mk (LkAt.new wr (w.heap.size + 1) 57 W hk0.out.lt)
      have K1 := Aside.mk (hk0.out.alloc (.cells #[.int .i64 W, .slice none 0 0, .int .i64 0, .int .i64 0, .slice none 0 0, .slice none 0 0] 57))
      have B1 := Aside.mk (hb0.out.alloc hb0.out.size (.cells #[.int .i64 W, .slice none 0 0, .int .i64 0, .int .i64 0, .slice none 0 0, .slice none 0 0] 57))
      rw [← hgd] at HL
      have HGD := Aside.mk hgd
      clear hk0 hb0 hgd
      go_wp2_with fail
      try rw [← HGD.out]
      go_loopw [8] (fun jv wx => ∃ k : Nat, k ≤ i ∧ jv = .int .i64 k ∧ Aside (LkAt wx (w.heap.size + 1) g 57 W (runK W (acts.take k))) ∧ Aside (Blk wx w.heap.size 30 [.int .i64 0, .int .i64 0, .int .i64 0, .slice none 0 0, .slice none 0 0]) ∧ Aside (Below w.heap.size w wx)) (fun jv _ => i - (intOf jv).toNat)
      case atStart => exact ⟨0, Nat.zero_le _, rfl, HL, K1, B1⟩
      case round =>
        rename_i wy _
        obtain ⟨k, hk, rfl, hat, hk0, hb0⟩ := hrel
        clear HL K1 B1
        by_cases hlt : k < i
        · have hlt1 : k < acts.length := by rw [← HN.out]; exact hlt
          rcases HS.out with h0 | ⟨b, o, rfl, hbo, f, hf, -, hrow⟩
          · exfalso; rw [h0] at hlt1; exact absurd hlt1 (Nat.not_lt_zero _)
          obtain ⟨cs1, hr1, hc1⟩ := hrow k hlt1
          obtain rfl := act_parts hr1
          have hsn := runK_snoc W acts k hlt1
          have hok := LkOK.run W acts HALL.out k (by omega)
          have hact := HALL.out _ (List.getElem_mem hlt1)
          obtain ⟨⟨x0, x1, x2⟩, hx⟩ : ∃ x, x = acts[k] := ⟨_, rfl⟩
          rw [← hx] at hc1 hsn hact
          dsimp only at hc1
          have hbel2 := hb0.out
          have d0 : wr.cell? ⟨b, o + k * 3, none⟩ = some (.int .i64 x0) := (hbel2.cell (p := ⟨b, o + k * 3 + 0, none⟩) hbo).trans (hc1 0 (by decide))
          have d1 : wr.cell? ⟨b, o + k * 3 + 1, none⟩ = some (.int .i64 x1) := (hbel2.cell (p := ⟨b, o + k * 3 + 1, none⟩) hbo).trans (hc1 1 (by decide))
          have d2 : wr.cell? ⟨b, o + k * 3 + 2, none⟩ = some (.string x2) := (hbel2.cell (p := ⟨b, o + k * 3 + 2, none⟩) hbo).trans (hc1 2 (by decide))
          have HSN := Aside.mk hsn
          have HOK := Aside.mk hok
          have HACT := Aside.mk hact
          have hb1 := Aside.mk hbel2
          have hk1 := Aside.mk hk0.out
          have hat1 := Aside.mk hat.out
          clear hc1 hrow hf hr1 hbel2 hx hk0 hb0 hat hsn hok hact
          go_wp2_with fail
          refine (sTurn (w.heap.size + 1) g W k _ (x0, x1, x2) _ hat1.out HOK.out HACT.out (by omega) hW2).mono ?_
          rintro e w2 ⟨rfl, hat2, hb2⟩
          have hat3 := Aside.mk hat2
          rw [← HSN.out] at hat3
          have hb3 := Aside.mk (hb1.out.trans (hb2.mono (Nat.le_succ _)))
          have hk3 : Aside (Blk w2 w.heap.size 30 [.int .i64 0, .int .i64 0, .int .i64 0, .slice none 0 0, .slice none 0 0]) := ⟨(hb2.block _ (Nat.lt_succ_self _)).trans hk1.out⟩
          clear d0 d1 d2 hb1 hk1 hb2 hat1 hat2 HSN HOK HACT
          go_wp2_with fail
          go_roundw
          case rel => exact ⟨k + 1, by omega, by go_num, hat3, hk3, hb3⟩
          case measure => first | (simp [intOf]; done) | (simp [intOf]; omega)
        · obtain rfl : k = i := by omega
          have hat2 := hat.out
          rw [HN.out, List.take_length] at hat2
          obtain ⟨vg, vt, vw, hv⟩ := hat2
          obtain ⟨A1, cap1, rfl, -, -⟩ := own_shape hv.og
          obtain ⟨A2, cap2, rfl, -, -⟩ := own_shape hv.ot
          obtain ⟨A3, cap3, rfl, -, -⟩ := own_shape hv.ow
          have hrep := hv.report
          have hok := LkOK.run W acts HALL.out acts.length (Nat.le_refl _)
          rw [List.take_length] at hok
          obtain ⟨s, hsd⟩ : ∃ s, s = runK W acts := ⟨_, rfl⟩
          have hgl := hok.given
          rw [← hsd] at hv hrep hgl E
          obtain ⟨ng, hng⟩ : ∃ x, x = s.given.length := ⟨_, rfl⟩
          obtain ⟨nt, hnt⟩ : ∃ x, x = s.taken.length := ⟨_, rfl⟩
          obtain ⟨nw, hnw⟩ : ∃ x, x = s.way.length := ⟨_, rfl⟩
          obtain ⟨na, hna⟩ : ∃ x, x = s.acked := ⟨_, rfl⟩
          obtain ⟨np, hnp⟩ : ∃ x, x = s.packed := ⟨_, rfl⟩
          rw [← hng, ← hnt, ← hnw, ← hna, ← hnp] at hrep
          have y1 : wr.cell? ⟨g, 1, none⟩ = some (.slice A1 ng cap1) := by rw [hng]; exact hv.blk.cell 1
          have y2 : wr.cell? ⟨g, 2, none⟩ = some (.int .i64 na) := by rw [hna]; exact hv.blk.cell 2
          have y3 : wr.cell? ⟨g, 3, none⟩ = some (.int .i64 np) := by rw [hnp]; exact hv.blk.cell 3
          have y4 : wr.cell? ⟨g, 4, none⟩ = some (.slice A2 nt cap2) := by rw [hnt]; exact hv.blk.cell 4
          have y5 : wr.cell? ⟨g, 5, none⟩ = some (.slice A3 nw cap3) := by rw [hnw]; exact hv.blk.cell 5
          have lg : g < wr.heap.size := hv.blk.lt
          have hng4 : ng ≤ 400 := by have := HN.out; omega
          have HREP := Aside.mk hrep
          have HK := hk0
          have HB := hb0
          obtain ⟨w9, hw9⟩ : ∃ x, x = (((((wr.drew.setCell ⟨w.heap.size, 0, none⟩ (.int .i64 ng)).setCell ⟨w.heap.size, 1, none⟩ (.int .i64 na)).setCell ⟨w.heap.size, 2, none⟩ (.int .i64 np)).setCell ⟨w.heap.size, 3, none⟩ (.slice A2 nt cap2)).setCell ⟨w.heap.size, 4, none⟩ (.slice A3 nw cap3)) := ⟨_, rfl⟩
          have K9 : Aside (Blk w9 w.heap.size 30 [.int .i64 ng, .int .i64 na, .int .i64 np, .slice A2 nt cap2, .slice A3 nw cap3]) := ⟨by
            rw [hw9]
            exact (((((show Blk wr.drew w.heap.size 30 _ from hk0.out).set 0 (.int .i64 ng)).set 1 (.int .i64 na)).set 2 (.int .i64 np)).set 3 (.slice A2 nt cap2)).set 4 (.slice A3 nw cap3)⟩
          have F9 : Aside (∀ k, k ≠ w.heap.size → w9.heap[k]? = wr.heap[k]?) := ⟨fun k hk => by rw [hw9]; exact set5 wr.drew w.heap.size _ _ _ _ _ k hk⟩
          have Z9 : Aside (w9.heap.size = wr.heap.size) := ⟨by rw [hw9]; simp⟩
          have B9 : Aside (Below w.heap.size w w9) := ⟨by
            rw [hw9]
            exact ((((hb0.out.drew.setCell (Nat.le_refl _) _).setCell (Nat.le_refl _) _).setCell (Nat.le_refl _) _).setCell (Nat.le_refl _) _).setCell (Nat.le_refl _) _⟩
          have c0 : wr.cell? ⟨w.heap.size, 0, none⟩ = some (.int .i64 0) := hk0.out.cell 0
          have c1 : wr.cell? ⟨w.heap.size, 1, none⟩ = some (.int .i64 0) := hk0.out.cell 1
          have c2 : wr.cell? ⟨w.heap.size, 2, none⟩ = some (.int .i64 0) := hk0.out.cell 2
          have c3 : wr.cell? ⟨w.heap.size, 3, none⟩ = some (.slice none 0 0) := hk0.out.cell 3
          have c4 : wr.cell? ⟨w.heap.size, 4, none⟩ = some (.slice none 0 0) := hk0.out.cell 4
          have f0 : wr.frozen? ⟨w.heap.size, 0, none⟩ = false := hk0.out.free 0
          have f1 : wr.frozen? ⟨w.heap.size, 1, none⟩ = false := hk0.out.free 1
          have f2 : wr.frozen? ⟨w.heap.size, 2, none⟩ = false := hk0.out.free 2
          have f3 : wr.frozen? ⟨w.heap.size, 3, none⟩ = false := hk0.out.free 3
          have f4 : wr.frozen? ⟨w.heap.size, 4, none⟩ = false := hk0.out.free 4
          clear hng hnt hnw hna hnp hv hrep hok hsd hat hk0 hb0 hgl
          go_wp2_with fail
          refine region_env2 [(0, true), (1, true), (2, true), (3, true), (4, true), (5, true), (6, true), (7, true), (8, true), (9, true), (10, true), (11, true), (12, true), (13, true), (14, true), (15, true), (16, true), (17, true), (18, true), (19, true), (20, true), (21, true), (22, false), (23, true)] (fun w' => Below wr.heap.size wr w') (fun _ => True) 22 68 rfl (by kernel_rfl) (by kernel_rfl) (fun _ _ d _ _ h => by cases d <;> exact h) (fun _ _ => trivial) ((Below.refl _ _).drew) (fun ops fr HFR HSZ HWT hl => ?_)
          have hl_0 := ops_start hl
          clear hl
          obtain ⟨H0, hl_1⟩ := ops_next 0 1 rfl hl_0
          clear hl_0
          obtain ⟨H1, hl_2⟩ := ops_next 1 2 rfl hl_1
          clear hl_1
          obtain ⟨H2, hl_3⟩ := ops_next 2 3 rfl hl_2
          clear hl_2
          obtain ⟨H3, hl_4⟩ := ops_next 3 4 rfl hl_3
          clear hl_3
          obtain ⟨H4, hl_5⟩ := ops_next 4 5 rfl hl_4
          clear hl_4
          obtain ⟨H5, hl_6⟩ := ops_next 5 6 rfl hl_5
          clear hl_5
          obtain ⟨H6, hl_7⟩ := ops_next 6 7 rfl hl_6
          clear hl_6
          obtain ⟨H7, hl_8⟩ := ops_next 7 8 rfl hl_7
          clear hl_7
          obtain ⟨H8, hl_9⟩ := ops_next 8 9 rfl hl_8
          clear hl_8
          obtain ⟨H9, hl_10⟩ := ops_next 9 10 rfl hl_9
          clear hl_9
          obtain ⟨H10, hl_11⟩ := ops_next 10 11 rfl hl_10
          clear hl_10
          obtain ⟨H11, hl_12⟩ := ops_next 11 12 rfl hl_11
          clear hl_11
          obtain ⟨H12, hl_13⟩ := ops_next 12 13 rfl hl_12
          clear hl_12
          obtain ⟨H13, hl_14⟩ := ops_next 13 14 rfl hl_13
          clear hl_13
          obtain ⟨H14, hl_15⟩ := ops_next 14 15 rfl hl_14
          clear hl_14
          obtain ⟨H15, hl_16⟩ := ops_next 15 16 rfl hl_15
          clear hl_15
          obtain ⟨H16, hl_17⟩ := ops_next 16 17 rfl hl_16
          clear hl_16
          obtain ⟨H17, hl_18⟩ := ops_next 17 18 rfl hl_17
          clear hl_17
          obtain ⟨H18, hl_19⟩ := ops_next 18 19 rfl hl_18
          clear hl_18
          obtain ⟨H19, hl_20⟩ := ops_next 19 20 rfl hl_19
          clear hl_19
          obtain ⟨H20, hl_21⟩ := ops_next 20 21 rfl hl_20
          clear hl_20
          obtain ⟨H21, hl_22⟩ := ops_next 21 22 rfl hl_21
          clear hl_21
          obtain ⟨H22, hl_23⟩ := ops_next 22 23 rfl hl_22
          clear hl_22
          obtain ⟨H23, hl_24⟩ := ops_next 23 24 rfl hl_23
          clear hl_23
          clear hl_24
          have x_7 : ext fr 7 = _ := congrArg (fun a => Act.eval a (.tmp 7)) HFR.out
          conv at x_7 => rhs; simp only [Act.eval, Array.getD_eq_getD_getElem?, List.getElem?_toArray, List.getElem?_cons_succ, List.getElem?_cons_zero, Option.getD_some]
          have x_4 : ext fr 4 = _ := congrArg (fun a => Act.eval a (.tmp 4)) HFR.out
          conv at x_4 => rhs; simp only [Act.eval, Array.getD_eq_getD_getElem?, List.getElem?_toArray, List.getElem?_cons_succ, List.getElem?_cons_zero, Option.getD_some]
          refine env2_early HSZ (by decide) HWT (by kernel_rfl) H0.out ?_ (fun w' hS => ?_) ?_
          rotate_left
          (go_simp
           rfl)
          refine env2_early HSZ (by decide) HWT (by kernel_rfl) H1.out ?_ (fun w' hS => ?_) ?_
          rotate_left
          (go_simp
           rfl)
          refine env2_early HSZ (by decide) HWT (by kernel_rfl) H2.out ?_ (fun w' hS => ?_) ?_
          rotate_left
          (go_simp
           rfl)
          refine env2_early HSZ (by decide) HWT (by kernel_rfl) H3.out ?_ (fun w' hS => ?_) ?_
          rotate_left
          (have h := (hS.cell (p := ⟨g, 1, none⟩) lg).trans y1
           go_simp
           rfl)
          refine env2_early HSZ (by decide) HWT (by kernel_rfl) H4.out ?_ (fun w' hS => ?_) ?_
          rotate_left
          (go_simp
           rfl)
          refine env2_early HSZ (by decide) HWT (by kernel_rfl) H5.out ?_ (fun w' hS => ?_) ?_
          rotate_left
          (go_simp
           rfl)
          refine env2_early HSZ (by decide) HWT (by kernel_rfl) H6.out ?_ (fun w' hS => ?_) ?_
          rotate_left
          (go_simp
           rfl)
          refine env2_early HSZ (by decide) HWT (by kernel_rfl) H7.out ?_ (fun w' hS => ?_) ?_
          rotate_left
          (go_simp
           rfl)
          refine env2_early HSZ (by decide) HWT (by kernel_rfl) H8.out ?_ (fun w' hS => ?_) ?_
          rotate_left
          (have h := (hS.cell (p := ⟨g, 2, none⟩) lg).trans y2
           go_simp
           rfl)
          refine env2_early HSZ (by decide) HWT (by kernel_rfl) H9.out ?_ (fun w' hS => ?_) ?_
          rotate_left
          (go_simp
           rfl)
          refine env2_early HSZ (by decide) HWT (by kernel_rfl) H10.out ?_ (fun w' hS => ?_) ?_
          rotate_left
          (go_simp
           rfl)
          refine env2_early HSZ (by decide) HWT (by kernel_rfl) H11.out ?_ (fun w' hS => ?_) ?_
          rotate_left
          (go_simp
           rfl)
          refine env2_early HSZ (by decide) HWT (by kernel_rfl) H12.out ?_ (fun w' hS => ?_) ?_
          rotate_left
          (have h := (hS.cell (p := ⟨g, 3, none⟩) lg).trans y3
           go_simp
           rfl)
          refine env2_early HSZ (by decide) HWT (by kernel_rfl) H13.out ?_ (fun w' hS => ?_) ?_
          rotate_left
          (go_simp
           rfl)
          refine env2_early HSZ (by decide) HWT (by kernel_rfl) H14.out ?_ (fun w' hS => ?_) ?_
          rotate_left
          (go_simp
           rfl)
          refine env2_early HSZ (by decide) HWT (by kernel_rfl) H15.out ?_ (fun w' hS => ?_) ?_
          rotate_left
          (go_simp
           rfl)
          refine env2_early HSZ (by decide) HWT (by kernel_rfl) H16.out ?_ (fun w' hS => ?_) ?_
          rotate_left
          (have h := (hS.cell (p := ⟨g, 4, none⟩) lg).trans y4
           go_simp
           rfl)
          refine env2_early HSZ (by decide) HWT (by kernel_rfl) H17.out ?_ (fun w' hS => ?_) ?_
          rotate_left
          (go_simp
           rfl)
          refine env2_early HSZ (by decide) HWT (by kernel_rfl) H18.out ?_ (fun w' hS => ?_) ?_
          rotate_left
          (go_simp
           rfl)
          refine env2_early HSZ (by decide) HWT (by kernel_rfl) H19.out ?_ (fun w' hS => ?_) ?_
          rotate_left
          (go_simp
           rfl)
          refine env2_early HSZ (by decide) HWT (by kernel_rfl) H20.out ?_ (fun w' hS => ?_) ?_
          rotate_left
          (have h := (hS.cell (p := ⟨g, 5, none⟩) lg).trans y5
           go_simp
           rfl)
          refine env2_early HSZ (by decide) HWT (by kernel_rfl) H21.out ?_ (fun w' hS => ?_) ?_
          rotate_left
          (go_simp
           rfl)
          refine env2_store HSZ H22.out ?_ ?_ ?_ ?_
          rotate_left 1
          rotate_right 1
          exact w9
          (rw [hw9]; go_simp; try rfl)
          exact trivial
          refine env2_yes HSZ (by decide) H23.out ?_ (fun w' hS => ?_) ?_
          rotate_left
          (go_simp
           rfl)
          refine env2_end ?_
          have hfr := HFR.out
          clear HFR HSZ HWT H0 H1 H2 H3 H4 H5 H6 H7 H8 H9 H10 H11 H12 H13 H14 H15 H16 H17 H18 H19 H20 H21 H22 H23 x_7 x_4
          subst hfr
          simp only [putAll, Act.put, List.setIfInBounds_toArray, List.set_cons_succ, List.set_cons_zero]
          clear hw9 y1 y2 y3 y4 y5 c0 c1 c2 c3 c4 f0 f1 f2 f3 f4
          go_wp2_with fail
          refine bodyPost_ret (res_ct rfl _ _ w.heap.size 30 [.int .i64 ng, .int .i64 na, .int .i64 np, .slice A2 nt cap2, .slice A3 nw cap3] _ rfl K9.out Try.underlying30 rfl (by kernel_rfl)) rfl ⟨[.int .i64 ng, .int .i64 na, .int .i64 np, .slice A2 nt cap2, .slice A3 nw cap3], by rw [E.out]; rfl, by
            rw [E.out]
            exact RLinkReport.frame HREP.out (fun b hb => F9.out b (fun e => by have h1 := hb.1; omega)) (fun b hb => ⟨by have h1 := hb.1; omega, by rw [Z9.out]; exact hb.2⟩), B9.out⟩
end Go.Proofs.Ytlopbheahedofaa.Fn
