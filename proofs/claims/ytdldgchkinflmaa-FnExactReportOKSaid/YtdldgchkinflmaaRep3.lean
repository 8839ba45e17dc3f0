/- Walk of the program's ReportOK: its loops. Conditions: those of each theorem. -/
import Derived.Test.YtdldgchkinflmaaRep2
import Derived.Test.YtdldgchkinflmaaGrowL
set_option linter.unusedVariables false
namespace Go.Proofs.Ytdldgchkinflmaa.Fn
open Go.RowKit Go.Proofs.Ytdldgchkinflmaa.Lib Go.Proofs.Ytdldgchkinflmaa.Plan
attribute [local go_sem] look_tmp look_const look_func look_global lookT_nil lookT_hit lookT_miss

theorem sl_wt_at {α : Type} {R : Rec α} {xs : List α} {n : Nat} (h : R.sl.wt xs ≤ n) (j : Nat) (hj : j < xs.length) : R.wt xs[j] ≤ n :=
  Nat.le_trans (wt_le R xs j hj) (Nat.le_trans (Nat.le_add_left _ _) h)
theorem sl_len {α : Type} {R : Rec α} {xs : List α} {n : Nat} (h : R.sl.wt xs ≤ n) : xs.length ≤ n := Nat.le_trans (Nat.le_add_right _ _) h
theorem ev_wt {e : AEvent} {n : Nat} (h : REvent.wt e ≤ n) : Rec.term.wt e.2.2.2 ≤ n := by
  have h2 : 0 + (0 + (0 + Rec.term.wt e.2.2.2)) ≤ n := h
  omega
theorem pids_succ (ps : List AProc) (i : Nat) (h : i < ps.length) : pidsR (ps.take i) ++ [ps[i].1] = pidsR (ps.take (i + 1)) := by
  rw [List.take_succ_eq_append_getElem h]; simp only [pidsR, List.map_append, List.map_cons, List.map_nil]
theorem pids_len (ps : List AProc) (i : Nat) (h : i ≤ ps.length) : (pidsR (ps.take i)).length = i := by
  simp [pidsR]; omega
theorem report_parts {tr : Prop} {w : World} {S : Nat → Prop} {r : AReport} {cs : List Value} (h : RReport.rd tr w S r cs) :
    ∃ A c B d C f, cs = [.int .i64 r.1, .int .i64 r.2.1, .slice A r.2.2.1.length c, .slice B r.2.2.2.1.length d, .slice C r.2.2.2.2.length f] ∧
      REvent.sl.rd tr w S r.2.2.1 [.slice A r.2.2.1.length c] ∧ RProc.sl.rd tr w S r.2.2.2.1 [.slice B r.2.2.2.1.length d] ∧ Rec.int.sl.rd tr w S r.2.2.2.2 [.slice C r.2.2.2.2.length f] := by
  obtain ⟨_, _, _, _, rfl, p0, q0, i0, j0, -⟩ := h
  obtain ⟨_, _, _, _, rfl, p1, q1, i1, j1, -⟩ := q0
  obtain ⟨_, _, _, _, rfl, p2, q2, i2, j2, -⟩ := q1
  obtain ⟨_, _, _, _, rfl, p3, q3, i3, j3, -⟩ := q2
  have h2 := REvent.sl.mono p2 (fun b h => j0 b (j1 b (i2 b h)))
  have h3 := RProc.sl.mono p3 (fun b h => j0 b (j1 b (j2 b (i3 b h))))
  have h4 := Rec.int.sl.mono q3 (fun b h => j0 b (j1 b (j2 b (j3 b h))))
  obtain rfl := p0
  obtain rfl := p1
  obtain ⟨A, c, rfl, -⟩ := id h2
  obtain ⟨B, d, rfl, -⟩ := id h3
  obtain ⟨C, f, rfl, -⟩ := id h4
  exact ⟨A, c, B, d, C, f, rfl, h2, h3, h4⟩
set_option maxRecDepth 100000 in
set_option maxHeartbeats 8000000 in
theorem iReportOK (r : AReport) (cs : List Value) (w : World) (h : RReport.rd False w (Old w) r cs) (hw : RReport.wt r ≤ 1048576) :
    Calls Try.prog 40 #[.agg cs.toArray] w fun e w' => e = .returned (.bool (repB r)) ∧ Below w.heap.size w w' := by
  obtain ⟨r0, r1, evs, prs, rdy⟩ := r
  obtain ⟨A, c, B, d, C, f, rfl, h2, h3, h4⟩ := report_parts h
  have hw2 : 0 + (0 + (REvent.sl.wt evs + (RProc.sl.wt prs + Rec.int.sl.wt rdy))) ≤ 1048576 := hw
  have W2 : REvent.sl.wt evs ≤ 1048576 := by omega
  have W3 : RProc.sl.wt prs ≤ 1048576 := by omega
  have W4 : Rec.int.sl.wt rdy ≤ 1048576 := by omega
  have L2 := sl_len W2
  have L3 := sl_len W3
  have L4 := sl_len W4
  dsimp only at h2 h3 h4
  have HV : Aside (repB (r0, r1, evs, prs, rdy) = (clkB r0 && (clkB r1 && (decide (evs.length ≤ 400) && (decide (prs.length ≤ 60) && (decide (rdy.length ≤ 60) && (riseB false rdy && (evs.all evB && (prs.all prB && riseB true (pidsR prs)))))))))) := ⟨rfl⟩
  generalize repB (r0, r1, evs, prs, rdy) = res at HV ⊢
  show Calls Try.prog 40 #[.agg #[.int .i64 r0, .int .i64 r1, .slice A evs.length c, .slice B prs.length d, .slice C rdy.length f]] w fun e w' => e = .returned (.bool res) ∧ Below w.heap.size w w'
  obtain ⟨n2, hn2⟩ : ∃ n, n = evs.length := ⟨_, rfl⟩
  obtain ⟨n3, hn3⟩ : ∃ n, n = prs.length := ⟨_, rfl⟩
  obtain ⟨n4, hn4⟩ : ∃ n, n = rdy.length := ⟨_, rfl⟩
  have HL4 : Aside (rdy.length ≤ 1048576) := ⟨L4⟩
  have HW2 := Aside.mk (sl_wt_at W2)
  have HW3 := Aside.mk (sl_wt_at W3)
  obtain ⟨_, _, e2, cap2, s2⟩ := h2
  injection e2 with e2 _
  injection e2 with e2 _ e2'
  subst e2 e2'
  obtain ⟨_, _, e3, cap3, s3⟩ := h3
  injection e3 with e3 _
  injection e3 with e3 _ e3'
  subst e3 e3'
  have H4 := Aside.mk h4
  have S2 := Aside.mk s2
  have S3 := Aside.mk s3
  rw [← hn2] at HV L2 cap2 ⊢
  rw [← hn3] at HV L3 cap3 ⊢
  rw [← hn4] at HV L4 H4 ⊢
  have HN2 := Aside.mk hn2
  have HN3 := Aside.mk hn3
  clear h s2 s3 h4 hw hw2 W2 W3 W4 hn2 hn3 hn4
  have K0 := Aside.mk (Blk.new w 67 [.int .i64 r0, .int .i64 r1, .slice A n2 c, .slice B n3 d, .slice C n4 f])
  have B0 : Aside (Below w.heap.size w (w.alloc (.cells #[.int .i64 r0, .int .i64 r1, .slice A n2 c, .slice B n3 d, .slice C n4 f] 67))) := ⟨by go_grown⟩
  go_enter Try.func40, Try.ntmps40
  go_wp2_with fail
  refine (inClock r0 _).mono ?_
  rintro e w' ⟨rfl, rfl⟩
  cases hR : clkB r0
  · have E : Aside (res = false) := ⟨by rw [HV.out, hR]; rfl⟩
    clear HV hR
    go_wp2_with fail
    go_ret
    exact ⟨ret_bool E.out.symm, by go_grown⟩
  rw [hR] at HV
  clear hR
  go_wp2_with fail
  refine (inClock r1 _).mono ?_
  rintro e w' ⟨rfl, rfl⟩
  cases hR : clkB r1
  · have E : Aside (res = false) := ⟨by rw [HV.out, hR]; rfl⟩
    clear HV hR
    go_wp2_with fail
    go_ret
    exact ⟨ret_bool E.out.symm, by go_grown⟩
  rw [hR] at HV
  clear hR
  by_cases c2 : 400 < (n2 : Int)
  · have E : Aside (res = false) := ⟨by rw [HV.out, decide_eq_false (show ¬ n2 ≤ 400 by omega)]; rfl⟩
    clear HV
    go_wp2_with fail
    go_ret
    exact ⟨ret_bool E.out.symm, by go_grown⟩
  rw [decide_eq_true (show n2 ≤ 400 by omega)] at HV
  by_cases c3 : 60 < (n3 : Int)
  · have E : Aside (res = false) := ⟨by rw [HV.out, decide_eq_false (show ¬ n3 ≤ 60 by omega)]; rfl⟩
    clear HV
    go_wp2_with fail
    go_ret
    exact ⟨ret_bool E.out.symm, by go_grown⟩
  rw [decide_eq_true (show n3 ≤ 60 by omega)] at HV
  by_cases c4 : 60 < (n4 : Int)
  · have E : Aside (res = false) := ⟨by rw [HV.out, decide_eq_false (show ¬ n4 ≤ 60 by omega)]; rfl⟩
    clear HV
    go_wp2_with fail
    go_ret
    exact ⟨ret_bool E.out.symm, by go_grown⟩
  rw [decide_eq_true (show n4 ≤ 60 by omega)] at HV
  go_wp2_with fail
  refine (rising false rdy _ _ (Rec.int.sl.old H4.out (by go_grown)) HL4.out).mono ?_
  rintro e w' ⟨rfl, rfl⟩
  cases hR : riseB false rdy
  · have E : Aside (res = false) := ⟨by rw [HV.out, hR]; rfl⟩
    clear HV hR
    go_wp2_with fail
    go_ret
    exact ⟨ret_bool E.out.symm, by go_grown⟩
  have HV2 : Aside (res = (evs.all evB && (prs.all prB && riseB true (pidsR prs)))) := ⟨by rw [HV.out, hR]; rfl⟩
  have HBAD2 : Aside (∀ (j : Nat) (h : j < evs.length), evB evs[j] = false → res = false) := ⟨fun j hj h => by rw [HV2.out, all_bad hj h]; rfl⟩
  have HGOOD2 : Aside ((∀ (j : Nat) (h : j < evs.length), evB evs[j] = true) → res = (prs.all prB && riseB true (pidsR prs))) := ⟨fun h => by rw [HV2.out, all_good h]; rfl⟩
  clear HV hR HV2
  go_wp2_with fail
  go_loopw [45] (fun iv wr => ∃ i : Nat, i ≤ n2 ∧ iv = .int .i64 i ∧ Aside (∀ (j : Nat) (h : j < evs.length), j < i → evB evs[j] = true) ∧ Aside (Blk wr w.heap.size 67 [.int .i64 r0, .int .i64 r1, .slice A n2 c, .slice B n3 d, .slice C n4 f]) ∧ Aside (Below w.heap.size w wr)) (fun iv _ => n2 - (intOf iv).toNat)
  case atStart => exact ⟨0, Nat.zero_le _, rfl, ⟨fun j _ h => absurd h (Nat.not_lt_zero _)⟩, K0, B0⟩
  case round =>
    obtain ⟨i, hi, rfl, hall, hk0, hb0⟩ := hrel
    clear K0 B0
    by_cases hlt : i < n2
    · have hlt1 : i < evs.length := by rw [← HN2.out]; exact hlt
      rcases S2.out with h0 | ⟨b, o, rfl, hbo, g, hg, -, hrow⟩
      · exfalso; rw [h0] at hlt1; exact absurd hlt1 (Nat.not_lt_zero _)
      obtain ⟨cs1, hr1, hc1⟩ := hrow i hlt1
      obtain ⟨A7, c7, rfl, ht1⟩ := event_parts hr1
      have W1 := ev_wt (HW2.out i hlt1)
      have HEV : Aside (evB evs[i] = (clkB evs[i].1 && (decide (1 ≤ evs[i].2.1) && (decide (evs[i].2.1 ≤ 9) && (clkB evs[i].2.2.1 && evs[i].2.2.2.okB))))) := ⟨rfl⟩
      have hbad := Aside.mk (HBAD2.out i hlt1)
      have hall2 : Aside (evB evs[i] = true → ∀ (j : Nat) (h : j < evs.length), j < i + 1 → evB evs[j] = true) := ⟨fun hR j hj hji => by
        by_cases e : j = i
        · subst e; exact hR
        · exact hall.out j hj (by omega)⟩
      obtain ⟨⟨x0, x1, x2, xt⟩, hx⟩ : ∃ x, x = evs[i] := ⟨_, rfl⟩
      rw [← hx] at hc1 ht1 W1 HEV hbad hall2
      dsimp only at hc1 ht1 W1 HEV
      have hbel2 := hb0.out
      have d0 : wr.cell? ⟨b, o + i * 7, none⟩ = some (.int .i64 x0) := (hbel2.cell (p := ⟨b, o + i * 7 + 0, none⟩) hbo).trans (hc1 0 (by decide))
      have d1 : wr.cell? ⟨b, o + i * 7 + 1, none⟩ = some (.int .i64 x1) := (hbel2.cell (p := ⟨b, o + i * 7 + 1, none⟩) hbo).trans (hc1 1 (by decide))
      have d2 : wr.cell? ⟨b, o + i * 7 + 2, none⟩ = some (.int .i64 x2) := (hbel2.cell (p := ⟨b, o + i * 7 + 2, none⟩) hbo).trans (hc1 2 (by decide))
      have d3 : wr.cell? ⟨b, o + i * 7 + 3, none⟩ = some (.int .i64 xt.kind) := (hbel2.cell (p := ⟨b, o + i * 7 + 3, none⟩) hbo).trans (hc1 3 (by decide))
      have d4 : wr.cell? ⟨b, o + i * 7 + 4, none⟩ = some (.int .i64 xt.num) := (hbel2.cell (p := ⟨b, o + i * 7 + 4, none⟩) hbo).trans (hc1 4 (by decide))
      have d5 : wr.cell? ⟨b, o + i * 7 + 5, none⟩ = some (.string xt.str) := (hbel2.cell (p := ⟨b, o + i * 7 + 5, none⟩) hbo).trans (hc1 5 (by decide))
      have d6 : wr.cell? ⟨b, o + i * 7 + 6, none⟩ = some (.slice A7 xt.kids.length c7) := (hbel2.cell (p := ⟨b, o + i * 7 + 6, none⟩) hbo).trans (hc1 6 (by decide))
      have HR1 := Aside.mk (Rec.term.up (Rec.term.mono ht1 (fun c hc => (hg i c hc).1)) (fun _ h => h) (hbel2.alloc hbel2.size (.cells #[.int .i64 x0, .int .i64 x1, .int .i64 x2, .int .i64 xt.kind, .int .i64 xt.num, .string xt.str, .slice A7 xt.kids.length c7] 130)))
      have hb1 := Aside.mk (hbel2.alloc hbel2.size (.cells #[.int .i64 x0, .int .i64 x1, .int .i64 x2, .int .i64 xt.kind, .int .i64 xt.num, .string xt.str, .slice A7 xt.kids.length c7] 130))
      have hk1 := Aside.mk (hk0.out.alloc (.cells #[.int .i64 x0, .int .i64 x1, .int .i64 x2, .int .i64 xt.kind, .int .i64 xt.num, .string xt.str, .slice A7 xt.kids.length c7] 130))
      clear hc1 hrow hg hr1 ht1 hbel2 hall hx hk0 hb0
      go_wp2_with fail
      refine (inClock x0 _).mono ?_
      rintro e w' ⟨rfl, rfl⟩
      cases hR : clkB x0
      · have E : Aside (res = false) := ⟨hbad.out (by rw [HEV.out, hR]; rfl)⟩
        clear HEV hR
        go_wp2_with fail
        go_ret
        exact ⟨ret_bool E.out.symm, hb1.out⟩
      rw [hR] at HEV
      clear hR
      by_cases c5 : x1 < 1
      · have E : Aside (res = false) := ⟨hbad.out (by rw [HEV.out, decide_eq_false (show ¬ 1 ≤ x1 by omega)]; rfl)⟩
        clear HEV
        go_wp2_with fail
        go_ret
        exact ⟨ret_bool E.out.symm, hb1.out⟩
      rw [decide_eq_true (show 1 ≤ x1 by omega)] at HEV
      by_cases c6 : 9 < x1
      · have E : Aside (res = false) := ⟨hbad.out (by rw [HEV.out, decide_eq_false (show ¬ x1 ≤ 9 by omega)]; rfl)⟩
        clear HEV
        go_wp2_with fail
        go_ret
        exact ⟨ret_bool E.out.symm, hb1.out⟩
      rw [decide_eq_true (show x1 ≤ 9 by omega)] at HEV
      go_wp2_with fail
      refine (inClock x2 _).mono ?_
      rintro e w' ⟨rfl, rfl⟩
      cases hR : clkB x2
      · have E : Aside (res = false) := ⟨hbad.out (by rw [HEV.out, hR]; rfl)⟩
        clear HEV hR
        go_wp2_with fail
        go_ret
        exact ⟨ret_bool E.out.symm, hb1.out⟩
      have HEV2 : Aside (evB (x0, x1, x2, xt) = xt.okB) := ⟨by rw [HEV.out, hR]; rfl⟩
      clear HEV hR
      go_wp2_with fail
      refine (iTermOK xt [.int .i64 xt.kind, .int .i64 xt.num, .string xt.str, .slice A7 xt.kids.length c7] _ HR1.out W1).mono ?_
      rintro e w2 ⟨rfl, hb2⟩
      have hb3 := Aside.mk (below_later hb1.out hb2)
      have hk3 := Aside.mk (hk1.out.below hb2)
      clear d0 d1 d2 d3 d4 d5 d6 HR1 hb1 hk1 hb2
      cases hR : xt.okB
      · have E : Aside (res = false) := ⟨hbad.out (by rw [HEV2.out, hR])⟩
        clear HEV2 hR
        go_wp2_with fail
        go_ret
        exact ⟨ret_bool E.out.symm, hb3.out⟩
      have hall3 := Aside.mk (hall2.out (by rw [HEV2.out, hR]))
      clear HEV2 hR hall2
      go_wp2_with fail
      go_roundw
      case rel => exact ⟨i + 1, by omega, by go_num, hall3, hk3, hb3⟩
      case measure => first | (simp [intOf]; done) | (simp [intOf]; omega)
    · obtain rfl : i = n2 := by omega
      have HV : Aside (res = (prs.all prB && riseB true (pidsR prs))) := ⟨HGOOD2.out (fun j hj => hall.out j hj (by rw [HN2.out]; exact hj))⟩
      have HBAD3 : Aside (∀ (j : Nat) (h : j < prs.length), prB prs[j] = false → res = false) := ⟨fun j hj h => by rw [HV.out, all_bad hj h]; rfl⟩
      have HGOOD3 : Aside ((∀ (j : Nat) (h : j < prs.length), prB prs[j] = true) → res = riseB true (pidsR prs)) := ⟨fun h => by rw [HV.out, all_good h]; rfl⟩
      clear HBAD2 HGOOD2 HV hall S2 HW2 HN2
      obtain ⟨t0, hi0, hz0, hz1, hz2⟩ := info_parts infoInt
      have HI := Aside.mk hi0
      have HZ := Aside.mk hz0
      have HZ1 := Aside.mk hz1
      have HZ2 := Aside.mk hz2
      have y0 := hk0.out.cell 3
      simp only [List.getElem?_cons_zero, List.getElem?_cons_succ] at y0
      have l0 : w.heap.size < wr.heap.size := hk0.out.lt
      have G0 := Aside.mk (Grow.empty (R := Rec.int) (E := 3) (tr := False) (base := w.heap.size + 1) (g := wr.heap.size) (wr := wr) l0 rfl)
      have K1 := Aside.mk (hk0.out.alloc (.cells #[] 3))
      have B1 := Aside.mk (hb0.out.alloc hb0.out.size (.cells #[] 3))
      have hsz0 : Aside (wr.heap.size + 1 = (wr.alloc (.cells #[] 3)).heap.size) := ⟨by simp⟩
      clear hi0 hz0 hz1 hz2 hk0 hb0
      go_wp2_with fail
      go_loopw [5, 80] (fun v jv wx => ∃ j : Nat, j ≤ n3 ∧ jv = .int .i64 j ∧ Aside (∀ (q : Nat) (h : q < prs.length), q < j → prB prs[q] = true) ∧ Aside (Below w.heap.size w wx) ∧ Aside (Grow Rec.int 3 False (w.heap.size + 1) wx.heap.size wx (pidsR (prs.take j)) v)) (fun _ jv _ => n3 - (intOf jv).toNat)
      case atStart => exact ⟨0, Nat.zero_le _, rfl, ⟨fun q _ h => absurd h (Nat.not_lt_zero _)⟩, B1, ⟨by rw [← hsz0.out]; exact G0.out⟩⟩
      case round =>
        rename_i wy _ _
        obtain ⟨j, hj, rfl, hall, hb0, hg⟩ := hrel
        clear K1 B1 G0 hsz0
        by_cases hlt : j < n3
        rotate_left
        · obtain rfl : j = n3 := by omega
          have E : Aside (res = riseB true (pidsR prs)) := ⟨HGOOD3.out (fun q hq => hall.out q hq (by rw [HN3.out]; exact hq))⟩
          have hg2 : Aside (Grow Rec.int 3 False (w.heap.size + 1) wr.heap.size wr (pidsR prs) _) := ⟨by have := hg.out; rwa [HN3.out, List.take_length] at this⟩
          have hl : Aside ((pidsR prs).length ≤ 1048576) := ⟨by simp [pidsR]; rw [← HN3.out]; omega⟩
          go_wp2_with fail
          refine (rising true (pidsR prs) _ _ hg2.out.old hl.out).mono ?_
          rintro e w2 ⟨rfl, rfl⟩
          go_wp2_with fail
          go_ret
          exact ⟨ret_bool E.out.symm, hb0.out⟩
        have hlt1 : j < prs.length := by rw [← HN3.out]; exact hlt
        rcases S3.out with h0 | ⟨b, o, rfl, hbo, g, hgg, -, hrow⟩
        · exfalso; rw [h0] at hlt1; exact absurd hlt1 (Nat.not_lt_zero _)
        obtain ⟨cs1, hr1, hc1⟩ := hrow j hlt1
        have hr2 := hr1
        obtain ⟨A7, c7, B7, d7, rfl, -, -⟩ := proc_parts hr1
        have W1 := HW3.out j hlt1
        have hft := Aside.mk (pids_succ prs j hlt1)
        have hbad := Aside.mk (HBAD3.out j hlt1)
        have hall2 : Aside (prB prs[j] = true → ∀ (q : Nat) (h : q < prs.length), q < j + 1 → prB prs[q] = true) := ⟨fun hR q hq hqi => by
          by_cases e : q = j
          · subst e; exact hR
          · exact hall.out q hq (by omega)⟩
        obtain ⟨⟨x0, x1, x2, x3, x4, x5, x6, x7⟩, hx⟩ : ∃ x, x = prs[j] := ⟨_, rfl⟩
        rw [← hx] at hc1 hr2 W1 hft hbad hall2
        dsimp only at hc1 hr2 hft
        have W1A := Aside.mk W1
        have hbel2 := hb0.out
        have hsw : w.heap.size ≤ wr.heap.size := hbel2.size
        have d0 : wr.cell? ⟨b, o + j * 8, none⟩ = some (.int .i64 x0) := (hbel2.cell (p := ⟨b, o + j * 8 + 0, none⟩) hbo).trans (hc1 0 (by decide))
        have d1 : wr.cell? ⟨b, o + j * 8 + 1, none⟩ = some (.bool x1) := (hbel2.cell (p := ⟨b, o + j * 8 + 1, none⟩) hbo).trans (hc1 1 (by decide))
        have d2 : wr.cell? ⟨b, o + j * 8 + 2, none⟩ = some (.int .i64 x2) := (hbel2.cell (p := ⟨b, o + j * 8 + 2, none⟩) hbo).trans (hc1 2 (by decide))
        have d3 : wr.cell? ⟨b, o + j * 8 + 3, none⟩ = some (.bool x3) := (hbel2.cell (p := ⟨b, o + j * 8 + 3, none⟩) hbo).trans (hc1 3 (by decide))
        have d4 : wr.cell? ⟨b, o + j * 8 + 4, none⟩ = some (.string x4) := (hbel2.cell (p := ⟨b, o + j * 8 + 4, none⟩) hbo).trans (hc1 4 (by decide))
        have d5 : wr.cell? ⟨b, o + j * 8 + 5, none⟩ = some (.slice A7 x5.length c7) := (hbel2.cell (p := ⟨b, o + j * 8 + 5, none⟩) hbo).trans (hc1 5 (by decide))
        have d6 : wr.cell? ⟨b, o + j * 8 + 6, none⟩ = some (.slice B7 x6.length d7) := (hbel2.cell (p := ⟨b, o + j * 8 + 6, none⟩) hbo).trans (hc1 6 (by decide))
        have d7' : wr.cell? ⟨b, o + j * 8 + 7, none⟩ = some (.int .i64 x7) := (hbel2.cell (p := ⟨b, o + j * 8 + 7, none⟩) hbo).trans (hc1 7 (by decide))
        have bel : Below w.heap.size w (wr.alloc (.cells #[.int .i64 x0, .bool x1, .int .i64 x2, .bool x3, .string x4, .slice A7 x5.length c7, .slice B7 x6.length d7, .int .i64 x7] 132)) := hbel2.alloc hbel2.size _
        have HR1 := Aside.mk (RProc.up (RProc.mono hr2 (fun c hc => (hgg j c hc).1)) (fun _ h => h) bel)
        have hb1 := Aside.mk bel
        have hk1 := Aside.mk (Blk.new wr 132 [.int .i64 x0, .bool x1, .int .i64 x2, .bool x3, .string x4, .slice A7 x5.length c7, .slice B7 x6.length d7, .int .i64 x7])
        have hg1 := Aside.mk (hg.out.below ((Below.refl _ _).alloc (Nat.le_refl _) (.cells #[.int .i64 x0, .bool x1, .int .i64 x2, .bool x3, .string x4, .slice A7 x5.length c7, .slice B7 x6.length d7, .int .i64 x7] 132)))
        clear hc1 hrow hgg hr1 hr2 hbel2 hall hx hb0 bel W1
        go_wp2_with fail
        refine (procOK (x0, x1, x2, x3, x4, x5, x6, x7) _ _ HR1.out W1A.out).mono ?_
        rintro e w2 ⟨rfl, hb2⟩
        have hb3 := Aside.mk (below_later hb1.out hb2)
        have hk3 := Aside.mk (hk1.out.below hb2)
        have hg3 := Aside.mk ((hg1.out.below hb2).top)
        clear d0 d1 d2 d3 d4 d5 d6 d7' HR1 hb1 hk1 hb2 hg1
        cases hR : prB (x0, x1, x2, x3, x4, x5, x6, x7)
        · have E : Aside (res = false) := ⟨hbad.out hR⟩
          clear hR
          go_wp2_with fail
          go_ret
          exact ⟨ret_bool E.out.symm, hb3.out⟩
        have hall3 := Aside.mk (hall2.out hR)
        have hs3 : w.heap.size + 1 ≤ w2.heap.size := by have := hk3.out.lt; omega
        obtain ⟨gq, hgq⟩ : ∃ g, g = wr.heap.size := ⟨_, rfl⟩
        rw [← hgq] at hk3 ⊢
        have y0 := hk3.out.cell 0
        simp only [List.getElem?_cons_zero] at y0
        have m1 := pids_len prs j (Nat.le_of_lt hlt1)
        clear hR hall2 hg hgq
        go_wp2_with (at_builtin; (refine wpList_grow (R := Rec.int) (E := 3) (tr := False) (base := w.heap.size + 1) (top := w2.heap.size) rfl _ _ 59 rfl t0 _ 8 Try.underlying59 HI.out HZ.out HZ1.out HZ2.out rfl (by decide) (xs := pidsR (prs.take j)) (y := x0) rfl hg3.out ?c1 3 [.int .i64 x0] rfl (F := fun _ => False) rfl ?c2 j m1 _ hft.out ?c3 ?c4 ?c5 ?_))
        case c1 => omega
        case c2 => exact fun c hc => hc.elim
        case c3 => intro u hu; simp at hu; subst hu; rfl
        case c4 => unfold maxLen; omega
        case c5 => omega
        intro g2 cap w6 hg7 hb7 hcap7 hbg hs7
        have hb8 : Aside (Below w.heap.size w w6) := ⟨hb3.out.trans (hb7.mono (by omega))⟩
        clear hb7 hg3 hft hb3 hk3 y0
        go_wp2_with fail
        go_roundw
        case rel => exact ⟨j + 1, by omega, by go_num, hall3, hb8, hg7⟩
        case measure => first | (simp [intOf]; done) | (simp [intOf]; omega)
end Go.Proofs.Ytdldgchkinflmaa.Fn
