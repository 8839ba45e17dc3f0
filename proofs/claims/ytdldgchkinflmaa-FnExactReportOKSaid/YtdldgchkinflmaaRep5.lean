/- Walk of the reference's ReportOK. Conditions: those of each theorem. -/
import Derived.Test.YtdldgchkinflmaaRep3
import Derived.Test.YtdldgchkinflmaaRep4
set_option linter.unusedVariables false
namespace Go.Proofs.Ytdldgchkinflmaa.Fn
open Go.RowKit Go.Proofs.Ytdldgchkinflmaa.Lib Go.Proofs.Ytdldgchkinflmaa.Plan
attribute [local go_sem] look_tmp look_const look_func look_global lookT_nil lookT_hit lookT_miss

def cint (l : List Int) : List Value := l.map (Value.int .i64)
theorem cint_snoc (l : List Int) (x : Int) : cint l ++ [Value.int .i64 x] = cint (l ++ [x]) := by simp [cint]
theorem own_ints {w : World} {base E n : Nat} {v : Value} {xs : List Int} (h : w.ownsRow base E 1 v n (cint xs)) : Rec.int.sl.rd False w (Old w) xs [v] := by
  have hl : xs.length = n := by have := h.1; simpa [cint] using this
  rcases h.2 with ⟨rfl, rfl⟩ | ⟨g, cap, cur, rfl, hb, hg, hnc, _⟩
  · obtain rfl : xs = [] := List.eq_nil_of_length_eq_zero hl
    exact ⟨none, 0, rfl, Nat.le_refl _, Or.inl rfl⟩
  · subst hl
    refine ⟨_, cap, rfl, hnc, Or.inr ⟨g, 0, rfl, (Array.getElem?_eq_some_iff.1 hg).1, fun _ _ => False, fun _ _ h => h.elim, fun h => h.elim, fun j hj => ⟨[.int .i64 xs[j]], rfl, fun t ht => ?_⟩⟩⟩
    have ht' : t < 1 := ht
    obtain rfl : t = 0 := by omega
    have hc := h.cells (g := g) rfl j (.int .i64 xs[j]) (by simp [cint, List.getElem?_eq_getElem hj])
    rw [add_plain] at hc
    rw [show 0 + j * Rec.int.k + 0 = j from by show 0 + j * 1 + 0 = j; omega]
    exact hc
theorem one_int (g : Nat) (x : Value) (w : World) (T : TypeId) (hg : w.heap.size = g) : ∀ j u, [x][j]? = some u → (w.alloc (.cells #[x] T)).cell? ((⟨g, 0, none⟩ : Addr).add j) = some u := by
  intro j u h
  match j, h with
  | 0, h =>
    subst hg
    simp at h
    subst h
    rw [add_plain]
    simp
theorem alloc_size1 (w : World) (o : Obj) : (w.alloc o).heap.size = w.heap.size + 1 := by simp
theorem btwClk (n : Int) (w : World) : Calls Try.prog 97 #[.int .i64 n, .int .i64 0, .int .i64 1000000000000000] w fun e w' => e = .returned (.bool (clkB n)) ∧ w = w' := between n 0 1000000000000000 w
theorem btwPos (n : Int) (w : World) : Calls Try.prog 97 #[.int .i64 n, .int .i64 1, .int .i64 1000000000000000] w fun e w' => e = .returned (.bool (posB n)) ∧ w = w' := between n 1 1000000000000000 w
set_option maxRecDepth 100000 in
set_option maxHeartbeats 16000000 in
theorem sReportOK (r : AReport) (cs : List Value) (w : World) (h : RReport.rd False w (Old w) r cs) (hw : RReport.wt r ≤ 1048576) :
    Calls Try.prog 38 #[.agg cs.toArray] w fun e w' => e = .returned (.bool (repB r)) ∧ Below w.heap.size w w' := by
  obtain ⟨r0, r1, evs, prs, rdy⟩ := r
  obtain ⟨A, c, B, d, C, f, rfl, h2, h3, h4⟩ := report_parts h
  have hw2 : 0 + (0 + (REvent.sl.wt evs + (RProc.sl.wt prs + Rec.int.sl.wt rdy))) ≤ 1048576 := hw
  have W2 : REvent.sl.wt evs ≤ 1048576 := by omega
  have W3 : RProc.sl.wt prs ≤ 1048576 := by omega
  have W4 : Rec.int.sl.wt rdy ≤ 1048576 := by omega
  have L2 := sl_len W2
  have L3 := sl_len W3
  have L4 := sl_len W4
  dsimp only at h2 h3 h4
  have HV : Aside (repB (r0, r1, evs, prs, rdy) = (clkB r0 && (clkB r1 && (decide (evs.length ≤ 400) && (decide (prs.length ≤ 60) && (decide (rdy.length ≤ 60) && (riseB false rdy && (evs.all evB && (prs.all prB && riseB true (pidsR prs)))))))))) := ⟨rfl⟩
  generalize repB (r0, r1, evs, prs, rdy) = res at HV ⊢
  show Calls Try.prog 38 #[.agg #[.int .i64 r0, .int .i64 r1, .slice A evs.length c, .slice B prs.length d, .slice C rdy.length f]] w fun e w' => e = .returned (.bool res) ∧ Below w.heap.size w w'
  obtain ⟨n2, hn2⟩ : ∃ n, n = evs.length := ⟨_, rfl⟩
  obtain ⟨n3, hn3⟩ : ∃ n, n = prs.length := ⟨_, rfl⟩
  obtain ⟨n4, hn4⟩ : ∃ n, n = rdy.length := ⟨_, rfl⟩
  have HW2 := Aside.mk (sl_wt_at W2)
  have HW3 := Aside.mk (sl_wt_at W3)
  obtain ⟨_, _, e2, cap2, s2⟩ := h2
  injection e2 with e2 _
  injection e2 with e2 _ e2'
  subst e2 e2'
  obtain ⟨_, _, e3, cap3, s3⟩ := h3
  injection e3 with e3 _
  injection e3 with e3 _ e3'
  subst e3 e3'
  obtain ⟨_, _, e4, cap4, s4⟩ := h4
  injection e4 with e4 _
  injection e4 with e4 _ e4'
  subst e4 e4'
  have S2 := Aside.mk s2
  have S3 := Aside.mk s3
  have S4 := Aside.mk s4
  rw [← hn2] at HV L2 cap2 ⊢
  rw [← hn3] at HV L3 cap3 ⊢
  rw [← hn4] at HV L4 cap4 ⊢
  have HN2 := Aside.mk hn2
  have HN3 := Aside.mk hn3
  have HN4 := Aside.mk hn4
  clear h s2 s3 s4 hw hw2 W2 W3 W4 hn2 hn3 hn4
  have K0 := Aside.mk (Blk.new w 67 [.int .i64 r0, .int .i64 r1, .slice A n2 c, .slice B n3 d, .slice C n4 f])
  have B0 : Aside (Below w.heap.size w (w.alloc (.cells #[.int .i64 r0, .int .i64 r1, .slice A n2 c, .slice B n3 d, .slice C n4 f] 67))) := ⟨by go_grown⟩
  go_enter Try.func38, Try.ntmps38
  go_wp2_with fail
  refine (btwClk r0 _).mono ?_
  rintro e w' ⟨rfl, rfl⟩
  cases hR : clkB r0
  · have E : Aside (res = false) := ⟨by rw [HV.out, hR]; rfl⟩
    clear HV hR
    go_wp2_with fail
    go_ret
    exact ⟨ret_bool E.out.symm, by go_grown⟩
  rw [hR] at HV
  clear hR
  go_wp2_with fail
  refine (btwClk r1 _).mono ?_
  rintro e w' ⟨rfl, rfl⟩
  cases hR : clkB r1
  · have E : Aside (res = false) := ⟨by rw [HV.out, hR]; rfl⟩
    clear HV hR
    go_wp2_with fail
    go_ret
    exact ⟨ret_bool E.out.symm, by go_grown⟩
  rw [hR] at HV
  clear hR
  by_cases c2 : 400 < (n2 : Int)
  · have E : Aside (res = false) := ⟨by rw [HV.out, decide_eq_false (show ¬ n2 ≤ 400 by omega)]; rfl⟩
    clear HV
    go_wp2_with fail
    go_ret
    exact ⟨ret_bool E.out.symm, by go_grown⟩
  rw [decide_eq_true (show n2 ≤ 400 by omega)] at HV
  by_cases c3 : 60 < (n3 : Int)
  · have E : Aside (res = false) := ⟨by rw [HV.out, decide_eq_false (show ¬ n3 ≤ 60 by omega)]; rfl⟩
    clear HV
    go_wp2_with fail
    go_ret
    exact ⟨ret_bool E.out.symm, by go_grown⟩
  rw [decide_eq_true (show n3 ≤ 60 by omega)] at HV
  by_cases c4 : 60 < (n4 : Int)
  · have E : Aside (res = false) := ⟨by rw [HV.out, decide_eq_false (show ¬ n4 ≤ 60 by omega)]; rfl⟩
    clear HV
    go_wp2_with fail
    go_ret
    exact ⟨ret_bool E.out.symm, by go_grown⟩
  have HV2 : Aside (res = (riseB false rdy && (evs.all evB && (prs.all prB && riseB true (pidsR prs))))) := ⟨by rw [HV.out, decide_eq_true (show n4 ≤ 60 by omega)]; rfl⟩
  have HBAD2 : Aside (∀ (j : Nat) (h : j < evs.length), evB evs[j] = false → res = false) := ⟨fun j hj h => by rw [HV2.out, all_bad hj h, Bool.false_and, Bool.and_false]⟩
  have HGOOD2 : Aside ((∀ (j : Nat) (h : j < evs.length), evB evs[j] = true) → res = (riseB false rdy && (prs.all prB && riseB true (pidsR prs)))) := ⟨fun h => by rw [HV2.out, all_good h]; rfl⟩
  clear HV HV2
  go_wp2_with fail
  go_loopw [3] (fun iv wr => ∃ i : Nat, i ≤ n2 ∧ iv = .int .i64 i ∧ Aside (∀ (j : Nat) (h : j < evs.length), j < i → evB evs[j] = true) ∧ Aside (Blk wr w.heap.size 67 [.int .i64 r0, .int .i64 r1, .slice A n2 c, .slice B n3 d, .slice C n4 f]) ∧ Aside (Below w.heap.size w wr)) (fun iv _ => n2 - (intOf iv).toNat)
  case atStart => exact ⟨0, Nat.zero_le _, rfl, ⟨fun j _ h => absurd h (Nat.not_lt_zero _)⟩, K0, B0⟩
  case round =>
    obtain ⟨i, hi, rfl, hall, hk0, hb0⟩ := hrel
    clear K0 B0
    have y2 := hk0.out.cell 2
    simp only [List.getElem?_cons_zero, List.getElem?_cons_succ] at y2
    by_cases hlt : i < n2
    · have hlt1 : i < evs.length := by rw [← HN2.out]; exact hlt
      rcases S2.out with h0 | ⟨b, o, rfl, hbo, g, hg, -, hrow⟩
      · exfalso; rw [h0] at hlt1; exact absurd hlt1 (Nat.not_lt_zero _)
      obtain ⟨cs1, hr1, hc1⟩ := hrow i hlt1
      obtain ⟨A7, c7, rfl, ht1⟩ := event_parts hr1
      have W1 := ev_wt (HW2.out i hlt1)
      have HEV : Aside (evB evs[i] = (clkB evs[i].1 && (decide (1 ≤ evs[i].2.1) && (decide (evs[i].2.1 ≤ 9) && (clkB evs[i].2.2.1 && evs[i].2.2.2.okB))))) := ⟨rfl⟩
      have hbad := Aside.mk (HBAD2.out i hlt1)
      have hall2 : Aside (evB evs[i] = true → ∀ (j : Nat) (h : j < evs.length), j < i + 1 → evB evs[j] = true) := ⟨fun hR j hj hji => by
        by_cases e : j = i
        · subst e; exact hR
        · exact hall.out j hj (by omega)⟩
      obtain ⟨⟨x0, x1, x2, xt⟩, hx⟩ : ∃ x, x = evs[i] := ⟨_, rfl⟩
      rw [← hx] at hc1 ht1 W1 HEV hbad hall2
      dsimp only at hc1 ht1 W1 HEV
      have hbel2 := hb0.out
      have d0 : wr.cell? ⟨b, o + i * 7, none⟩ = some (.int .i64 x0) := (hbel2.cell (p := ⟨b, o + i * 7 + 0, none⟩) hbo).trans (hc1 0 (by decide))
      have d1 : wr.cell? ⟨b, o + i * 7 + 1, none⟩ = some (.int .i64 x1) := (hbel2.cell (p := ⟨b, o + i * 7 + 1, none⟩) hbo).trans (hc1 1 (by decide))
      have d2 : wr.cell? ⟨b, o + i * 7 + 2, none⟩ = some (.int .i64 x2) := (hbel2.cell (p := ⟨b, o + i * 7 + 2, none⟩) hbo).trans (hc1 2 (by decide))
      have d3 : wr.cell? ⟨b, o + i * 7 + 3, none⟩ = some (.int .i64 xt.kind) := (hbel2.cell (p := ⟨b, o + i * 7 + 3, none⟩) hbo).trans (hc1 3 (by decide))
      have d4 : wr.cell? ⟨b, o + i * 7 + 4, none⟩ = some (.int .i64 xt.num) := (hbel2.cell (p := ⟨b, o + i * 7 + 4, none⟩) hbo).trans (hc1 4 (by decide))
      have d5 : wr.cell? ⟨b, o + i * 7 + 5, none⟩ = some (.string xt.str) := (hbel2.cell (p := ⟨b, o + i * 7 + 5, none⟩) hbo).trans (hc1 5 (by decide))
      have d6 : wr.cell? ⟨b, o + i * 7 + 6, none⟩ = some (.slice A7 xt.kids.length c7) := (hbel2.cell (p := ⟨b, o + i * 7 + 6, none⟩) hbo).trans (hc1 6 (by decide))
      have HR1 := Aside.mk (Rec.term.up (Rec.term.mono ht1 (fun c hc => (hg i c hc).1)) (fun _ h => h) (hbel2.alloc hbel2.size (.cells #[.int .i64 x0, .int .i64 x1, .int .i64 x2, .int .i64 xt.kind, .int .i64 xt.num, .string xt.str, .slice A7 xt.kids.length c7] 130)))
      have hb1 := Aside.mk (hbel2.alloc hbel2.size (.cells #[.int .i64 x0, .int .i64 x1, .int .i64 x2, .int .i64 xt.kind, .int .i64 xt.num, .string xt.str, .slice A7 xt.kids.length c7] 130))
      have hk1 := Aside.mk (hk0.out.alloc (.cells #[.int .i64 x0, .int .i64 x1, .int .i64 x2, .int .i64 xt.kind, .int .i64 xt.num, .string xt.str, .slice A7 xt.kids.length c7] 130))
      have ut : (i : Int) < n2 := by omega
      clear hc1 hrow hg hr1 ht1 hbel2 hall hx hk0 hb0
      go_wp2_with fail
      refine (btwClk x0 _).mono ?_
      rintro e w' ⟨rfl, rfl⟩
      cases hR : clkB x0
      · have E : Aside (res = false) := ⟨hbad.out (by rw [HEV.out, hR]; rfl)⟩
        clear HEV hR
        go_wp2_with fail
        go_ret
        exact ⟨ret_bool E.out.symm, hb1.out⟩
      rw [hR] at HEV
      clear hR
      go_wp2_with fail
      refine (between x1 1 9 _).mono ?_
      rintro e w' ⟨rfl, rfl⟩
      by_cases c5 : 1 ≤ x1 ∧ x1 ≤ 9
      rotate_left
      · have E : Aside (res = false) := ⟨hbad.out (by rw [HEV.out]; simp; intro h1 h2; exact absurd ⟨h1, h2⟩ c5)⟩
        have q : (decide (1 ≤ x1) && decide (x1 ≤ 9)) = false := by simp; omega
        rw [q]
        clear HEV c5 q
        go_wp2_with fail
        go_ret
        exact ⟨ret_bool E.out.symm, hb1.out⟩
      rw [decide_eq_true c5.1, decide_eq_true c5.2] at HEV ⊢
      clear c5
      go_wp2_with fail
      refine (btwClk x2 _).mono ?_
      rintro e w' ⟨rfl, rfl⟩
      cases hR : clkB x2
      · have E : Aside (res = false) := ⟨hbad.out (by rw [HEV.out, hR]; rfl)⟩
        clear HEV hR
        go_wp2_with fail
        go_ret
        exact ⟨ret_bool E.out.symm, hb1.out⟩
      have HEV2 : Aside (evB (x0, x1, x2, xt) = xt.okB) := ⟨by rw [HEV.out, hR]; rfl⟩
      clear HEV hR
      go_wp2_with fail
      refine (sTermOK xt [.int .i64 xt.kind, .int .i64 xt.num, .string xt.str, .slice A7 xt.kids.length c7] _ HR1.out W1).mono ?_
      rintro e w2 ⟨rfl, hb2⟩
      have hb3 := Aside.mk (below_later hb1.out hb2)
      have hk3 := Aside.mk (hk1.out.below hb2)
      clear d0 d1 d2 d3 d4 d5 d6 HR1 hb1 hk1 hb2 y2
      cases hR : xt.okB
      · have E : Aside (res = false) := ⟨hbad.out (by rw [HEV2.out, hR])⟩
        clear HEV2 hR
        go_wp2_with fail
        go_ret
        exact ⟨ret_bool E.out.symm, hb3.out⟩
      have hall3 := Aside.mk (hall2.out (by rw [HEV2.out, hR]))
      clear HEV2 hR hall2
      go_wp2_with fail
      go_roundw
      case rel => exact ⟨i + 1, by omega, by go_num, hall3, hk3, hb3⟩
      case measure => first | (simp [intOf]; done) | (simp [intOf]; omega)
    · obtain rfl : i = n2 := by omega
      have HV : Aside (res = (riseB false rdy && (prs.all prB && riseB true (pidsR prs)))) := ⟨HGOOD2.out (fun j hj => hall.out j hj (by rw [HN2.out]; exact hj))⟩
      have HBAD3 : Aside (∀ (j : Nat) (h : j < prs.length), prB prs[j] = false → res = false) := ⟨fun j hj h => by rw [HV.out, all_bad hj h, Bool.false_and, Bool.and_false]⟩
      have HGOOD3 : Aside ((∀ (j : Nat) (h : j < prs.length), prB prs[j] = true) → res = (riseB false rdy && riseB true (pidsR prs))) := ⟨fun h => by rw [HV.out, all_good h]; rfl⟩
      clear HBAD2 HGOOD2 HV hall S2 HW2 HN2
      obtain ⟨j0, hi0, jz0, jz1, jz2⟩ := info_parts infoInt
      have HJ := Aside.mk hi0
      have l0 : w.heap.size + 1 ≤ wr.heap.size := hk0.out.lt
      have O0 : Aside ((wr.alloc (.cells #[] 3)).ownsRow (w.heap.size + 1) 3 1 (.slice (some ⟨wr.heap.size, 0, none⟩) 0 0) 0 (cint (pidsR (prs.take 0)))) := ⟨World.ownsRow_lit wr #[] 0 l0 (by unfold maxLen; omega) rfl⟩
      have K1 := Aside.mk (hk0.out.alloc (.cells #[] 3))
      have B1 := Aside.mk (hb0.out.alloc hb0.out.size (.cells #[] 3))
      clear hi0 hk0 hb0
      go_wp2_with fail
      go_loopw [5, 6] (fun v jv wx => ∃ j : Nat, j ≤ n3 ∧ jv = .int .i64 j ∧ Aside (∀ (q : Nat) (h : q < prs.length), q < j → prB prs[q] = true) ∧ Aside (Blk wx w.heap.size 67 [.int .i64 r0, .int .i64 r1, .slice A i c, .slice B n3 d, .slice C n4 f]) ∧ Aside (Below w.heap.size w wx) ∧ Aside (wx.ownsRow (w.heap.size + 1) 3 1 v j (cint (pidsR (prs.take j))))) (fun _ jv _ => n3 - (intOf jv).toNat)
      case atStart => exact ⟨0, Nat.zero_le _, rfl, ⟨fun q _ h => absurd h (Nat.not_lt_zero _)⟩, K1, B1, O0⟩
      case round =>
        obtain ⟨j, hj, rfl, hall, hk0, hb0, hown⟩ := hrel
        clear K1 B1 O0 y2 l0
        have y3 := hk0.out.cell 3
        simp only [List.getElem?_cons_zero, List.getElem?_cons_succ] at y3
        by_cases hlt : j < n3
        rotate_left
        · obtain rfl : j = n3 := by omega
          have HV : Aside (res = (riseB false rdy && riseB true (pidsR prs))) := ⟨HGOOD3.out (fun q hq => hall.out q hq (by rw [HN3.out]; exact hq))⟩
          have HBAD4 : Aside (∀ (q : Nat) (h : q < rdy.length), posB rdy[q] = false → res = false) := ⟨fun q hq h => by rw [HV.out, rise_plain, all_bad hq h]; rfl⟩
          have HGOOD4 : Aside ((∀ (q : Nat) (h : q < rdy.length), posB rdy[q] = true) → res = riseB true (pidsR prs)) := ⟨fun h => by rw [HV.out, rise_plain, all_good h]; rfl⟩
          have hp : (pidsR prs).length = j := by simp [pidsR]; exact HN3.out.symm
          have hg2 : Aside (Rec.int.sl.rd False wr (Old wr) (pidsR prs) [_]) := ⟨by have := hown.out; rw [HN3.out, List.take_length] at this; exact own_ints this⟩
          have HP := Aside.mk hp
          clear HBAD3 HGOOD3 HV hall hown hp
          go_wp2_with fail
          go_loopw [9] (fun qv wx => ∃ q : Nat, q ≤ n4 ∧ qv = .int .i64 q ∧ Aside (∀ (t : Nat) (h : t < rdy.length), t < q → posB rdy[t] = true) ∧ wx = wr) (fun qv _ => n4 - (intOf qv).toNat)
          case atStart => exact ⟨0, Nat.zero_le _, rfl, ⟨fun q _ h => absurd h (Nat.not_lt_zero _)⟩, rfl⟩
          case round =>
            obtain ⟨q, hq, rfl, hall, hwx⟩ := hrel
            subst hwx
            have y4 := hk0.out.cell 4
            simp only [List.getElem?_cons_zero, List.getElem?_cons_succ] at y4
            by_cases hlt : q < n4
            rotate_left
            · obtain rfl : q = n4 := by omega
              have E : Aside (res = riseB true (pidsR prs)) := ⟨HGOOD4.out (fun t ht => hall.out t ht (by rw [HN4.out]; exact ht))⟩
              go_wp2_with fail
              refine (l15Rising (pidsR prs) _ _ hg2.out (by rw [HP.out]; omega)).mono ?_
              rintro e w2 ⟨rfl, hb2⟩
              have hb3 := Aside.mk (below_later hb0.out hb2)
              rw [decide_eq_true (show (pidsR prs).length ≤ 60 by rw [HP.out]; omega), Bool.true_and]
              clear hb2
              go_wp2_with fail
              go_ret
              exact ⟨ret_bool E.out.symm, hb3.out⟩
            have hlt1 : q < rdy.length := by rw [← HN4.out]; exact hlt
            obtain ⟨b, o, rfl, hb, hc⟩ := int_cell S4.out q hlt1
            have d0 := (hb0.out.cell (p := ⟨b, o + q, none⟩) hb).trans (hc q hlt1)
            rw [List.getD_eq_getElem?_getD, List.getElem?_eq_getElem hlt1, Option.getD_some] at d0
            have hbad := Aside.mk (HBAD4.out q hlt1)
            have hall2 : Aside (posB rdy[q] = true → ∀ (t : Nat) (h : t < rdy.length), t < q + 1 → posB rdy[t] = true) := ⟨fun hR t ht hti => by
              by_cases e : t = q
              · subst e; exact hR
              · exact hall.out t ht (by omega)⟩
            obtain ⟨x, hx⟩ : ∃ x, x = rdy[q] := ⟨_, rfl⟩
            rw [← hx] at d0 hbad hall2
            clear hc hx hb hall
            go_wp2_with fail
            refine (btwPos x _).mono ?_
            rintro e w2 ⟨rfl, rfl⟩
            cases hR : posB x
            · have E : Aside (res = false) := ⟨hbad.out hR⟩
              clear hR
              go_wp2_with fail
              go_ret
              exact ⟨ret_bool E.out.symm, hb0.out⟩
            have hall3 := Aside.mk (hall2.out hR)
            clear hR hall2
            go_wp2_with fail
            go_roundw
            case rel => exact ⟨q + 1, by omega, by go_num, hall3, by first | rfl | trivial⟩
            case measure => first | (simp [intOf]; done) | (simp [intOf]; omega)
        have hlt1 : j < prs.length := by rw [← HN3.out]; exact hlt
        rcases S3.out with h0 | ⟨b, o, rfl, hbo, g, hgg, -, hrow⟩
        · exfalso; rw [h0] at hlt1; exact absurd hlt1 (Nat.not_lt_zero _)
        obtain ⟨cs1, hr1, hc1⟩ := hrow j hlt1
        obtain ⟨A7, c7, B7, d7, rfl, ht5, ht6⟩ := proc_parts hr1
        have W1 : RProc.wt prs[j] ≤ 1048576 := HW3.out j hlt1
        have hft := Aside.mk (pids_succ prs j hlt1)
        have hbad := Aside.mk (HBAD3.out j hlt1)
        have hall2 : Aside (prB prs[j] = true → ∀ (q : Nat) (h : q < prs.length), q < j + 1 → prB prs[q] = true) := ⟨fun hR q hq hqi => by
          by_cases e : q = j
          · subst e; exact hR
          · exact hall.out q hq (by omega)⟩
        obtain ⟨⟨x0, x1, x2, x3, x4, x5, x6, x7⟩, hx⟩ : ∃ x, x = prs[j] := ⟨_, rfl⟩
        rw [← hx] at hc1 W1 hft hbad hall2 ht5 ht6
        dsimp only at hc1 hft ht5 ht6
        have hw3 : 0 + (0 + (0 + (0 + (x4.size + (Rec.term.sl.wt x5 + (Rec.int.sl.wt x6 + 0)))))) ≤ 1048576 := W1
        have SZ : x4.size ≤ 9223372036854775807 := by omega
        have W5 : Rec.term.sl.wt x5 ≤ 1048576 := by omega
        have W6 : Rec.int.sl.wt x6 ≤ 1048576 := by omega
        have L5 := wt_len W5
        have L6 : Aside (x6.length ≤ 1048576) := ⟨by rw [int_wts] at W6; exact W6⟩
        have HW5 := Aside.mk (wt_kid W5)
        have HPR : Aside (prB (x0, x1, x2, x3, x4, x5, x6, x7) = ((decide (0 ≤ x2) && decide (x2 ≤ 2)) && (nam0B x4 && (decide (x5.length ≤ 500) && (x5.all T.okB && (decide (x6.length ≤ 60) && (riseB true x6 && clkB x7))))))) := ⟨rfl⟩
        have hbel2 := hb0.out
        have hsw : w.heap.size < wr.heap.size := hk0.out.lt
        have d0 : wr.cell? ⟨b, o + j * 8, none⟩ = some (.int .i64 x0) := (hbel2.cell (p := ⟨b, o + j * 8 + 0, none⟩) hbo).trans (hc1 0 (by decide))
        have d1 : wr.cell? ⟨b, o + j * 8 + 1, none⟩ = some (.bool x1) := (hbel2.cell (p := ⟨b, o + j * 8 + 1, none⟩) hbo).trans (hc1 1 (by decide))
        have d2 : wr.cell? ⟨b, o + j * 8 + 2, none⟩ = some (.int .i64 x2) := (hbel2.cell (p := ⟨b, o + j * 8 + 2, none⟩) hbo).trans (hc1 2 (by decide))
        have d3 : wr.cell? ⟨b, o + j * 8 + 3, none⟩ = some (.bool x3) := (hbel2.cell (p := ⟨b, o + j * 8 + 3, none⟩) hbo).trans (hc1 3 (by decide))
        have d4 : wr.cell? ⟨b, o + j * 8 + 4, none⟩ = some (.string x4) := (hbel2.cell (p := ⟨b, o + j * 8 + 4, none⟩) hbo).trans (hc1 4 (by decide))
        have d5 : wr.cell? ⟨b, o + j * 8 + 5, none⟩ = some (.slice A7 x5.length c7) := (hbel2.cell (p := ⟨b, o + j * 8 + 5, none⟩) hbo).trans (hc1 5 (by decide))
        have d6 : wr.cell? ⟨b, o + j * 8 + 6, none⟩ = some (.slice B7 x6.length d7) := (hbel2.cell (p := ⟨b, o + j * 8 + 6, none⟩) hbo).trans (hc1 6 (by decide))
        have d7' : wr.cell? ⟨b, o + j * 8 + 7, none⟩ = some (.int .i64 x7) := (hbel2.cell (p := ⟨b, o + j * 8 + 7, none⟩) hbo).trans (hc1 7 (by decide))
        have h5 := Rec.term.sl.mono ht5 (fun c hc => (hgg j c hc).1)
        obtain ⟨_, _, e5, cap5, s5⟩ := h5
        injection e5 with e5 _
        injection e5 with e5 _ e5'
        subst e5 e5'
        have S5 := Aside.mk s5
        clear s5
        have H6 := Aside.mk (Rec.int.sl.mono ht6 (fun c hc => (hgg j c hc).1))
        have ut : (j : Int) < n3 := by omega
        obtain ⟨n5, hn5⟩ : ∃ n, n = x5.length := ⟨_, rfl⟩
        obtain ⟨n6, hn6⟩ : ∃ n, n = x6.length := ⟨_, rfl⟩
        rw [← hn5] at d5 HPR L5 cap5
        rw [← hn6] at d6 H6 HPR L6
        have HN5 := Aside.mk hn5
        have HN6 := Aside.mk hn6
        obtain ⟨AO, hAO⟩ : ∃ AO : Array Value, AO = #[.int .i64 x0, .bool x1, .int .i64 x2, .bool x3, .string x4, .slice A7 n5 c7, .slice B7 n6 d7, .int .i64 x7] := ⟨_, rfl⟩
        have hb1 := Aside.mk (hbel2.alloc hbel2.size (.cells #[.int .i64 x0, .bool x1, .int .i64 x2, .bool x3, .string x4, .slice A7 n5 c7, .slice B7 n6 d7, .int .i64 x7] 132))
        have hp1 := Aside.mk (Blk.new wr 132 [.int .i64 x0, .bool x1, .int .i64 x2, .bool x3, .string x4, .slice A7 n5 c7, .slice B7 n6 d7, .int .i64 x7])
        have hk1 := Aside.mk (hk0.out.alloc (.cells #[.int .i64 x0, .bool x1, .int .i64 x2, .bool x3, .string x4, .slice A7 n5 c7, .slice B7 n6 d7, .int .i64 x7] 132))
        have ho1 := Aside.mk (hown.out.alloc (.cells #[.int .i64 x0, .bool x1, .int .i64 x2, .bool x3, .string x4, .slice A7 n5 c7, .slice B7 n6 d7, .int .i64 x7] 132))
        have holt := Aside.mk (hown.out.lt)
        have m1 : (cint (pidsR (prs.take j))).length = j := by rw [cint, List.length_map]; exact pids_len prs j (Nat.le_of_lt hlt1)
        clear hc1 hrow hgg hr1 hbel2 hall hx hb0 hk0 hown W1 hw3 W5 W6 ht5 ht6 hn5 hn6 AO hAO hbo
        go_wp2_with (at_builtin; go_loud (refine wpList_append_own _ rfl _ _ 59 rfl (w.heap.size + 1) 3 j0 (.int .i64 0) 1 8 Try.underlying59 HJ.out jz0 jz1 jz2 rfl (by decide) _ _ _ rfl (ho1.out.alloc _) ⟨wr.heap.size + 1, 0, none⟩ 1 1 [.int .i64 x0] rfl rfl (one_int (wr.heap.size + 1) _ _ 3 (by simp)) ?c2 ?c3 ?c4 ?c5 ?_))
        case c2 => first | rfl | (intro u hu; simp at hu; subst hu; rfl)
        case c3 => first | omega | (unfold maxLen; omega)
        case c4 => omega
        case c5 => first | omega | (rw [alloc_size1, alloc_size1]; omega)
        intro v' w1 hown' hgrow hnn
        rw [cint_snoc, hft.out] at hown'
        have ho4 := Aside.mk hown'
        have hk4 := Aside.mk ((hk1.out.alloc _).grown hgrow (fun e => by have := (holt.out _ e.symm).1; omega))
        have hp4 := Aside.mk ((hp1.out.alloc _).grown hgrow (fun e => by have := (holt.out _ e.symm).2; omega))
        have hb4 : Aside (Below w.heap.size w w1) := ⟨(hb1.out.alloc hb1.out.size _).grown hgrow (by rw [alloc_size1, alloc_size1]; omega) (fun k hk => by have := (holt.out k hk).1; omega)⟩
        obtain ⟨gq, hgq⟩ : ∃ g, g = wr.heap.size := ⟨_, rfl⟩
        rw [← hgq] at hp4 ⊢
        have z2 : w1.cell? ⟨gq, 2, none⟩ = some (.int .i64 x2) := hp4.out.cell 2
        have z4 : w1.cell? ⟨gq, 4, none⟩ = some (.string x4) := hp4.out.cell 4
        have z5 : w1.cell? ⟨gq, 5, none⟩ = some (.slice A7 n5 c7) := hp4.out.cell 5
        have z6 : w1.cell? ⟨gq, 6, none⟩ = some (.slice B7 n6 d7) := hp4.out.cell 6
        have z7 : w1.cell? ⟨gq, 7, none⟩ = some (.int .i64 x7) := hp4.out.cell 7
        have hj1 : j + 1 ≤ n3 := hlt
        clear hown' hgrow hnn hk1 hp1 hb1 ho1 holt hft m1 d0 d1 d2 d3 d4 d5 d6 d7' y3 hgq hsw
        go_wp2_with fail
        refine (between x2 0 2 _).mono ?_
        rintro e w' ⟨rfl, rfl⟩
        by_cases cp : 0 ≤ x2 ∧ x2 ≤ 2
        rotate_left
        · have q : (decide (0 ≤ x2) && decide (x2 ≤ 2)) = false := by simp; omega
          have E : Aside (res = false) := ⟨hbad.out (by rw [HPR.out, q]; rfl)⟩
          rw [q]
          clear HPR q cp
          go_wp2_with fail
          go_ret
          exact ⟨ret_bool E.out.symm, hb4.out⟩
        rw [decide_eq_true cp.1, decide_eq_true cp.2] at HPR ⊢
        clear cp
        have hname : (x4 = ⟨#[]⟩ ∨ (x4.toList == []) = false) := by
          by_cases h0 : x4.size = 0
          · exact Or.inl (size0 h0 rfl)
          · refine Or.inr ?_
            rw [beq_eq_false_iff_ne, ByteArray.toList_eq]
            intro h
            apply h0
            change x4.data.toList.length = 0
            rw [h]; rfl
        rcases hname with rfl | hq
        · have HPR2 : Aside (prB (x0, x1, x2, x3, ⟨#[]⟩, x5, x6, x7) = (decide (n5 ≤ 500) && (x5.all T.okB && (decide (n6 ≤ 60) && (riseB true x6 && clkB x7))))) := ⟨HPR.out⟩
          clear HPR
          by_cases c5 : 500 < (n5 : Int)
          · have E : Aside (res = false) := ⟨hbad.out (by rw [HPR2.out, decide_eq_false (show ¬ n5 ≤ 500 by omega)]; rfl)⟩
            clear HPR2
            go_wp2_with fail
            go_ret
            exact ⟨ret_bool E.out.symm, hb4.out⟩
          have HPR3 := HPR2
          rw [decide_eq_true (show n5 ≤ 500 by omega)] at HPR3
          clear HPR2
          go_wp2_with fail
          refine (l15Rising x6 _ _ (Rec.int.sl.old H6.out hb4.out) (by rw [← HN6.out]; exact L6.out)).mono ?_
          rintro e w5 ⟨rfl, hb5⟩
          have hk5 := Aside.mk (hk4.out.below hb5)
          have hp5 := Aside.mk (hp4.out.below hb5)
          have ho5 := Aside.mk (ownsRow_of_block ho4.out (fun g hg => hb5.block g (own_lt ho4.out hg).2))
          have hb6 := Aside.mk (below_later hb4.out hb5)
          clear hb5 hk4 hp4 ho4 hb4 z2 z4 z5 z6 z7
          cases hR : (decide (x6.length ≤ 60) && riseB true x6)
          · have hR' : decide (n6 ≤ 60) = false ∨ riseB true x6 = false := by rw [HN6.out]; exact Bool.and_eq_false_iff.1 hR
            have E : Aside (res = false) := ⟨hbad.out (by rcases hR' with h | h <;> rw [HPR3.out, h] <;> simp)⟩
            clear HPR3 hR hR'
            go_wp2_with fail
            go_ret
            exact ⟨ret_bool E.out.symm, hb6.out⟩
          have hR1 : decide (n6 ≤ 60) = true := by rw [HN6.out]; exact (Bool.and_eq_true_iff.1 hR).1
          have HPR4 : Aside (prB (x0, x1, x2, x3, ⟨#[]⟩, x5, x6, x7) = (x5.all T.okB && clkB x7)) := ⟨by rw [HPR3.out, hR1, (Bool.and_eq_true_iff.1 hR).2]; rfl⟩
          clear HPR3 hR hR1
          have z7 : w5.cell? ⟨gq, 7, none⟩ = some (.int .i64 x7) := hp5.out.cell 7
          go_wp2_with fail
          refine (btwClk x7 _).mono ?_
          rintro e w' ⟨rfl, rfl⟩
          cases hR : clkB x7
          · have E : Aside (res = false) := ⟨hbad.out (by rw [HPR4.out, hR, Bool.and_false])⟩
            clear HPR4 hR
            go_wp2_with fail
            go_ret
            exact ⟨ret_bool E.out.symm, hb6.out⟩
          have HPR5 : Aside (prB (x0, x1, x2, x3, ⟨#[]⟩, x5, x6, x7) = x5.all T.okB) := ⟨by rw [HPR4.out, hR, Bool.and_true]⟩
          clear HPR4 hR z7
          go_wp2_with fail
          go_loopw [8] (fun qv wx => ∃ q : Nat, q ≤ n5 ∧ qv = .int .i64 q ∧ Aside (∀ (t : Nat) (h : t < x5.length), t < q → x5[t].okB = true) ∧ Aside (Blk wx w.heap.size 67 [.int .i64 r0, .int .i64 r1, .slice A i c, .slice (some ⟨b, o, none⟩) n3 d, .slice C n4 f]) ∧ Aside (Blk wx gq 132 [.int .i64 x0, .bool x1, .int .i64 x2, .bool x3, .string ⟨#[]⟩, .slice A7 n5 c7, .slice B7 n6 d7, .int .i64 x7]) ∧ Aside (wx.ownsRow (w.heap.size + 1) 3 1 v' (j + 1) (cint (pidsR (prs.take (j + 1))))) ∧ Aside (Below w.heap.size w wx)) (fun qv _ => n5 - (intOf qv).toNat)
          case atStart => exact ⟨0, Nat.zero_le _, rfl, ⟨fun q _ h => absurd h (Nat.not_lt_zero _)⟩, hk5, hp5, ho5, hb6⟩
          case round =>
            obtain ⟨q, hq5, rfl, hall, hk7, hp7, ho7, hb7⟩ := hrel
            clear hk5 hp5 ho5 hb6
            have z5 := hp7.out.cell 5
            simp only [List.getElem?_cons_zero, List.getElem?_cons_succ] at z5
            by_cases hlt : q < n5
            rotate_left
            · obtain rfl : q = n5 := by omega
              have hall3 := Aside.mk (hall2.out (by rw [HPR5.out]; exact all_good (fun t ht => hall.out t ht (by rw [HN5.out]; exact ht))))
              clear hall2 hall hp7
              go_wp2_with fail
              go_roundw
              case rel => exact ⟨j + 1, hj1, by go_num, hall3, hk7, hb7, ho7⟩
              case measure => first | (simp [intOf]; done) | (simp [intOf]; omega)
            have hlt1 : q < x5.length := by rw [← HN5.out]; exact hlt
            rcases S5.out with h0 | ⟨b5, o5, rfl, hbo5, g5, hg5, -, hrow5⟩
            · exfalso; rw [h0] at hlt1; exact absurd hlt1 (Nat.not_lt_zero _)
            obtain ⟨cs5, hr5, hc5⟩ := hrow5 q hlt1
            obtain ⟨t0, t1, t2, t3a, t3b, t3c, rfl⟩ := shapeTerm hr5
            have hbel2 := hb7.out
            have d10 : wr.cell? ⟨b5, o5 + q * 4, none⟩ = some (.int .i64 t0) := (hbel2.cell (p := ⟨b5, o5 + q * 4 + 0, none⟩) hbo5).trans (hc5 0 (by decide))
            have d11 : wr.cell? ⟨b5, o5 + q * 4 + 1, none⟩ = some (.int .i64 t1) := (hbel2.cell (p := ⟨b5, o5 + q * 4 + 1, none⟩) hbo5).trans (hc5 1 (by decide))
            have d12 : wr.cell? ⟨b5, o5 + q * 4 + 2, none⟩ = some (.string t2) := (hbel2.cell (p := ⟨b5, o5 + q * 4 + 2, none⟩) hbo5).trans (hc5 2 (by decide))
            have d13 : wr.cell? ⟨b5, o5 + q * 4 + 3, none⟩ = some (.slice t3a t3b t3c) := (hbel2.cell (p := ⟨b5, o5 + q * 4 + 3, none⟩) hbo5).trans (hc5 3 (by decide))
            have HR5 := Aside.mk (Rec.term.up (w1 := wr) (Rec.term.mono hr5 (fun c hc => (hg5 q c hc).1)) (fun _ h => h) hbel2)
            have W7 := HW5.out q hlt1
            have ut5 : (q : Int) < n5 := by omega
            clear hc5 hrow5 hg5 hr5 hbel2 hbo5
            go_wp2_with fail
            refine (sTermOK x5[q] [.int .i64 t0, .int .i64 t1, .string t2, .slice t3a t3b t3c] _ HR5.out W7).mono ?_
            rintro e w8 ⟨rfl, hb8⟩
            have hk8 := Aside.mk (hk7.out.below hb8)
            have hp8 := Aside.mk (hp7.out.below hb8)
            have ho8 := Aside.mk (ownsRow_of_block ho7.out (fun g hg => hb8.block g (own_lt ho7.out hg).2))
            have hb9 := Aside.mk (below_later hb7.out hb8)
            clear d10 d11 d12 d13 HR5 hb8 hk7 hp7 ho7 hb7 z5
            cases hR : x5[q].okB
            · have E : Aside (res = false) := ⟨hbad.out (by rw [HPR5.out]; exact all_bad hlt1 hR)⟩
              clear hR
              go_wp2_with fail
              go_ret
              exact ⟨ret_bool E.out.symm, hb9.out⟩
            have hall4 : Aside (∀ (t : Nat) (h : t < x5.length), t < q + 1 → x5[t].okB = true) := ⟨fun t ht hti => by
              by_cases e : t = q
              · subst e; exact hR
              · exact hall.out t ht (by omega)⟩
            clear hR hall
            go_wp2_with fail
            go_roundw
            case rel => exact ⟨q + 1, by omega, by go_num, hall4, hk8, hp8, ho8, hb9⟩
            case measure => first | (simp [intOf]; done) | (simp [intOf]; omega)
        · have hnam : nam0B x4 = nameB x4 := by
            have : ¬ x4.size = 0 := by
              intro h0
              have := size0 (t := ⟨#[]⟩) h0 rfl
              rw [this, beq_eq_false_iff_ne, ByteArray.toList_eq] at hq
              exact hq rfl
            rw [nam0B, decide_eq_false this]; rfl
          have HNAM := Aside.mk hnam
          clear hnam
          go_wp2_with fail
          refine (l01Name x4 _ SZ).mono ?_
          rintro e w' ⟨rfl, rfl⟩
          cases hR : nameB x4
          · have E : Aside (res = false) := ⟨hbad.out (by rw [HPR.out, HNAM.out, hR]; rfl)⟩
            clear HPR hR
            go_wp2_with fail
            go_ret
            exact ⟨ret_bool E.out.symm, hb4.out⟩
          have HPR2 : Aside (prB (x0, x1, x2, x3, x4, x5, x6, x7) = (decide (n5 ≤ 500) && (x5.all T.okB && (decide (n6 ≤ 60) && (riseB true x6 && clkB x7))))) := ⟨by rw [HPR.out, HNAM.out, hR]; rfl⟩
          clear HPR hR HNAM
          by_cases c5 : 500 < (n5 : Int)
          · have E : Aside (res = false) := ⟨hbad.out (by rw [HPR2.out, decide_eq_false (show ¬ n5 ≤ 500 by omega)]; rfl)⟩
            clear HPR2
            go_wp2_with fail
            go_ret
            exact ⟨ret_bool E.out.symm, hb4.out⟩
          have HPR3 := HPR2
          rw [decide_eq_true (show n5 ≤ 500 by omega)] at HPR3
          clear HPR2
          go_wp2_with fail
          refine (l15Rising x6 _ _ (Rec.int.sl.old H6.out hb4.out) (by rw [← HN6.out]; exact L6.out)).mono ?_
          rintro e w5 ⟨rfl, hb5⟩
          have hk5 := Aside.mk (hk4.out.below hb5)
          have hp5 := Aside.mk (hp4.out.below hb5)
          have ho5 := Aside.mk (ownsRow_of_block ho4.out (fun g hg => hb5.block g (own_lt ho4.out hg).2))
          have hb6 := Aside.mk (below_later hb4.out hb5)
          clear hb5 hk4 hp4 ho4 hb4 z2 z4 z5 z6 z7
          cases hR : (decide (x6.length ≤ 60) && riseB true x6)
          · have hR' : decide (n6 ≤ 60) = false ∨ riseB true x6 = false := by rw [HN6.out]; exact Bool.and_eq_false_iff.1 hR
            have E : Aside (res = false) := ⟨hbad.out (by rcases hR' with h | h <;> rw [HPR3.out, h] <;> simp)⟩
            clear HPR3 hR hR'
            go_wp2_with fail
            go_ret
            exact ⟨ret_bool E.out.symm, hb6.out⟩
          have hR1 : decide (n6 ≤ 60) = true := by rw [HN6.out]; exact (Bool.and_eq_true_iff.1 hR).1
          have HPR4 : Aside (prB (x0, x1, x2, x3, x4, x5, x6, x7) = (x5.all T.okB && clkB x7)) := ⟨by rw [HPR3.out, hR1, (Bool.and_eq_true_iff.1 hR).2]; rfl⟩
          clear HPR3 hR hR1
          have z7 : w5.cell? ⟨gq, 7, none⟩ = some (.int .i64 x7) := hp5.out.cell 7
          go_wp2_with fail
          refine (btwClk x7 _).mono ?_
          rintro e w' ⟨rfl, rfl⟩
          cases hR : clkB x7
          · have E : Aside (res = false) := ⟨hbad.out (by rw [HPR4.out, hR, Bool.and_false])⟩
            clear HPR4 hR
            go_wp2_with fail
            go_ret
            exact ⟨ret_bool E.out.symm, hb6.out⟩
          have HPR5 : Aside (prB (x0, x1, x2, x3, x4, x5, x6, x7) = x5.all T.okB) := ⟨by rw [HPR4.out, hR, Bool.and_true]⟩
          clear HPR4 hR z7
          go_wp2_with fail
          go_loopw [8] (fun qv wx => ∃ q : Nat, q ≤ n5 ∧ qv = .int .i64 q ∧ Aside (∀ (t : Nat) (h : t < x5.length), t < q → x5[t].okB = true) ∧ Aside (Blk wx w.heap.size 67 [.int .i64 r0, .int .i64 r1, .slice A i c, .slice (some ⟨b, o, none⟩) n3 d, .slice C n4 f]) ∧ Aside (Blk wx gq 132 [.int .i64 x0, .bool x1, .int .i64 x2, .bool x3, .string x4, .slice A7 n5 c7, .slice B7 n6 d7, .int .i64 x7]) ∧ Aside (wx.ownsRow (w.heap.size + 1) 3 1 v' (j + 1) (cint (pidsR (prs.take (j + 1))))) ∧ Aside (Below w.heap.size w wx)) (fun qv _ => n5 - (intOf qv).toNat)
          case atStart => exact ⟨0, Nat.zero_le _, rfl, ⟨fun q _ h => absurd h (Nat.not_lt_zero _)⟩, hk5, hp5, ho5, hb6⟩
          case round =>
            obtain ⟨q, hq5, rfl, hall, hk7, hp7, ho7, hb7⟩ := hrel
            clear hk5 hp5 ho5 hb6
            have z5 := hp7.out.cell 5
            simp only [List.getElem?_cons_zero, List.getElem?_cons_succ] at z5
            by_cases hlt : q < n5
            rotate_left
            · obtain rfl : q = n5 := by omega
              have hall3 := Aside.mk (hall2.out (by rw [HPR5.out]; exact all_good (fun t ht => hall.out t ht (by rw [HN5.out]; exact ht))))
              clear hall2 hall hp7
              go_wp2_with fail
              go_roundw
              case rel => exact ⟨j + 1, hj1, by go_num, hall3, hk7, hb7, ho7⟩
              case measure => first | (simp [intOf]; done) | (simp [intOf]; omega)
            have hlt1 : q < x5.length := by rw [← HN5.out]; exact hlt
            rcases S5.out with h0 | ⟨b5, o5, rfl, hbo5, g5, hg5, -, hrow5⟩
            · exfalso; rw [h0] at hlt1; exact absurd hlt1 (Nat.not_lt_zero _)
            obtain ⟨cs5, hr5, hc5⟩ := hrow5 q hlt1
            obtain ⟨t0, t1, t2, t3a, t3b, t3c, rfl⟩ := shapeTerm hr5
            have hbel2 := hb7.out
            have d10 : wr.cell? ⟨b5, o5 + q * 4, none⟩ = some (.int .i64 t0) := (hbel2.cell (p := ⟨b5, o5 + q * 4 + 0, none⟩) hbo5).trans (hc5 0 (by decide))
            have d11 : wr.cell? ⟨b5, o5 + q * 4 + 1, none⟩ = some (.int .i64 t1) := (hbel2.cell (p := ⟨b5, o5 + q * 4 + 1, none⟩) hbo5).trans (hc5 1 (by decide))
            have d12 : wr.cell? ⟨b5, o5 + q * 4 + 2, none⟩ = some (.string t2) := (hbel2.cell (p := ⟨b5, o5 + q * 4 + 2, none⟩) hbo5).trans (hc5 2 (by decide))
            have d13 : wr.cell? ⟨b5, o5 + q * 4 + 3, none⟩ = some (.slice t3a t3b t3c) := (hbel2.cell (p := ⟨b5, o5 + q * 4 + 3, none⟩) hbo5).trans (hc5 3 (by decide))
            have HR5 := Aside.mk (Rec.term.up (w1 := wr) (Rec.term.mono hr5 (fun c hc => (hg5 q c hc).1)) (fun _ h => h) hbel2)
            have W7 := HW5.out q hlt1
            have ut5 : (q : Int) < n5 := by omega
            clear hc5 hrow5 hg5 hr5 hbel2 hbo5
            go_wp2_with fail
            refine (sTermOK x5[q] [.int .i64 t0, .int .i64 t1, .string t2, .slice t3a t3b t3c] _ HR5.out W7).mono ?_
            rintro e w8 ⟨rfl, hb8⟩
            have hk8 := Aside.mk (hk7.out.below hb8)
            have hp8 := Aside.mk (hp7.out.below hb8)
            have ho8 := Aside.mk (ownsRow_of_block ho7.out (fun g hg => hb8.block g (own_lt ho7.out hg).2))
            have hb9 := Aside.mk (below_later hb7.out hb8)
            clear d10 d11 d12 d13 HR5 hb8 hk7 hp7 ho7 hb7 z5
            cases hR : x5[q].okB
            · have E : Aside (res = false) := ⟨hbad.out (by rw [HPR5.out]; exact all_bad hlt1 hR)⟩
              clear hR
              go_wp2_with fail
              go_ret
              exact ⟨ret_bool E.out.symm, hb9.out⟩
            have hall4 : Aside (∀ (t : Nat) (h : t < x5.length), t < q + 1 → x5[t].okB = true) := ⟨fun t ht hti => by
              by_cases e : t = q
              · subst e; exact hR
              · exact hall.out t ht (by omega)⟩
            clear hR hall
            go_wp2_with fail
            go_roundw
            case rel => exact ⟨q + 1, by omega, by go_num, hall4, hk8, hp8, ho8, hb9⟩
            case measure => first | (simp [intOf]; done) | (simp [intOf]; omega)
end Go.Proofs.Ytdldgchkinflmaa.Fn
