/- Walk of allOK. Conditions: those of each theorem. -/
import Derived.Test.YtdldgchkinflmaaTm7
set_option linter.unusedVariables false
namespace Go.Proofs.Ytdldgchkinflmaa.Fn
open Go.RowKit Go.Proofs.Ytdldgchkinflmaa.Lib Go.Proofs.Ytdldgchkinflmaa.Plan

theorem rising_step (ts : List T) (k : Nat) (h2 : 2 ≤ k) (h : k < ts.length) : rising (evens (ts.drop (k - 2))) = (decide (T.cmp ts[k - 2] ts[k] < 0) && rising (evens (ts.drop (k + 2 - 2)))) := by
  have e0 : k - 2 < ts.length := by omega
  rw [List.drop_eq_getElem_cons e0, evens_cons, List.tail_drop, show k - 2 + 1 + 1 = k by omega, show k + 2 - 2 = k by omega, List.drop_eq_getElem_cons h, evens_cons, rising]
theorem rising_end (ts : List T) (k : Nat) (h : ts.length ≤ k) : rising (evens (ts.drop (k - 2))) = true := by
  have hl : (ts.drop (k - 2)).length ≤ 2 := by rw [List.length_drop]; omega
  generalize ts.drop (k - 2) = l at hl
  match l, hl with
  | [], _ => rfl
  | [_], _ => rfl
  | [_, _], _ => rfl
theorem right_split (k n : Int) (s : ByteArray) (ts : List T) (ho : ownB k n s ts.length = true) (hk : ∀ (j : Nat) (h : j < ts.length), ts[j].right = true) : (T.mk k n s ts).right = (!decide (k = 7) || rising (evens ts)) := by
  have : ts.all T.right = true := by
    rw [List.all_eq_true]
    intro x hx
    obtain ⟨j, hj, rfl⟩ := List.getElem_of_mem hx
    exact hk j hj
  rw [T.right_eq, ho, this]
  rfl
theorem right_own (k n : Int) (s : ByteArray) (ts : List T) (ho : ownB k n s ts.length = false) : (T.mk k n s ts).right = false := by rw [T.right_eq, ho]; rfl
theorem right_kid (k n : Int) (s : ByteArray) (ts : List T) (j : Nat) (h : j < ts.length) (hk : ts[j].right = false) : (T.mk k n s ts).right = false := by
  have : ts.all T.right = false := by
    rw [List.all_eq_false]
    exact ⟨_, List.getElem_mem h, by rw [hk]; simp⟩
  rw [T.right_eq, this]
  simp
theorem wt_s (k n : Int) (s : ByteArray) (ts : List T) (m : Nat) (h : Rec.term.wt (.mk k n s ts) ≤ m) : s.size ≤ m := by
  have := Rec.term_wt (.mk k n s ts)
  change _ = s.size + Rec.term.sl.wt ts at this
  omega
def Rights (f : Nat) (x : T) : Prop := ∀ (cx : List Value) (w : World), Rec.term.rd False w (Old w) x cx → Rec.term.wt x ≤ 1048576 →
  Calls Try.prog f #[.agg cx.toArray] w fun e w' => e = .returned (.bool x.right) ∧ Below w.heap.size w w'
set_option maxRecDepth 100000 in
set_option maxHeartbeats 8000000 in
theorem allOK (a : T) : Rights 156 a := by
  induction a using T.ind with
  | h k n s ts ih =>
  intro ca w ha hta
  obtain ⟨A1, c1, rfl, h1⟩ := Rec.term_iff.1 ha
  change Rec.term.sl.rd False w (Old w) ts [.slice A1 ts.length c1] at h1
  have WT := wt_sl _ _ _ _ _ hta
  have hs := wt_s _ _ _ _ _ hta
  have HIH := Aside.mk ih
  have HW := Aside.mk (wt_kid WT)
  have L1 := wt_len WT
  obtain ⟨_, _, he, hcap, h1⟩ := h1
  injection he with he _
  injection he with e1 e2 e3
  subst e1 e3
  have HA := Aside.mk h1
  obtain ⟨res, hres⟩ : ∃ r, r = (T.mk k n s ts).right := ⟨_, rfl⟩
  rw [← hres]
  have HV := Aside.mk hres
  obtain ⟨m, hln⟩ : ∃ m, m = ts.length := ⟨_, rfl⟩
  have hln2 : ts.length = m := hln.symm
  have HN := Aside.mk hln
  show Calls Try.prog 156 #[.agg #[.int .i64 k, .int .i64 n, .string s, .slice A1 ts.length c1]] w _
  rw [hln2] at L1 hcap ⊢
  clear ih h1 ha hta hres hln hln2 WT
  go_enter Try.func156, Try.ntmps156
  go_wp2_with fail
  refine (ownOK k n s A1 m c1 _ (by omega) L1).mono ?_
  rintro e w1 ⟨rfl, hb1⟩
  have k0 := (Blk.new w 26 [.int .i64 k, .int .i64 n, .string s, .slice A1 m c1]).below hb1
  have K0 := Aside.mk k0
  have y0 := k0.cell 0
  have y3 := k0.cell 3
  simp only [List.getElem?_cons_zero, List.getElem?_cons_succ] at y0 y3
  have B0 : Aside (Below w.heap.size w w1) := ⟨below_later (by go_grown) hb1⟩
  clear k0 hb1
  cases hO : ownB k n s m
  · have E : Aside (res = false) := ⟨by rw [HV.out]; exact right_own _ _ _ _ (by rw [← HN.out]; exact hO)⟩
    go_wp2
    go_ret
    exact ⟨ret_bool E.out.symm, B0.out⟩
  have HO := Aside.mk hO
  clear hO
  go_wp2_with fail
  go_loopw [12] (fun i wr => ∃ j : Nat, j ≤ m ∧ i = .int .i64 j ∧ Aside (Blk wr w.heap.size 26 [.int .i64 k, .int .i64 n, .string s, .slice A1 m c1]) ∧ Aside (Below w.heap.size w wr) ∧ Aside (∀ (t : Nat) (h : t < ts.length), t < j → ts[t].right = true)) (fun i _ => m - (intOf i).toNat)
  case atStart => exact ⟨0, Nat.zero_le _, rfl, K0, B0, ⟨fun t _ h => absurd h (Nat.not_lt_zero _)⟩⟩
  case round =>
    obtain ⟨j, hj, rfl, hk0, hb0, hall⟩ := hrel
    clear K0 B0 y0 y3
    have y0 := hk0.out.cell 0
    have y3 := hk0.out.cell 3
    simp only [List.getElem?_cons_zero, List.getElem?_cons_succ] at y0 y3
    by_cases hlt : j < m
    · have hlt1 : j < ts.length := by rw [← HN.out]; exact hlt
      rcases HA.out with h0 | ⟨b1, o1, rfl, hb1, f1, hf1, -, hrow1⟩
      · exfalso; rw [h0] at hlt1; exact absurd hlt1 (Nat.not_lt_zero _)
      obtain ⟨cs1, hr1, hc1⟩ := hrow1 j hlt1
      obtain ⟨x0, x1, x2, x3a, x3b, x3c, rfl⟩ := shapeTerm hr1
      have hbel2 := hb0.out
      have d10 : wr.cell? ⟨b1, o1 + j * 4, none⟩ = some (.int .i64 x0) := (hbel2.cell (p := ⟨b1, o1 + j * 4 + 0, none⟩) hb1).trans (hc1 0 (by decide))
      have d11 : wr.cell? ⟨b1, o1 + j * 4 + 1, none⟩ = some (.int .i64 x1) := (hbel2.cell (p := ⟨b1, o1 + j * 4 + 1, none⟩) hb1).trans (hc1 1 (by decide))
      have d12 : wr.cell? ⟨b1, o1 + j * 4 + 2, none⟩ = some (.string x2) := (hbel2.cell (p := ⟨b1, o1 + j * 4 + 2, none⟩) hb1).trans (hc1 2 (by decide))
      have d13 : wr.cell? ⟨b1, o1 + j * 4 + 3, none⟩ = some (.slice x3a x3b x3c) := (hbel2.cell (p := ⟨b1, o1 + j * 4 + 3, none⟩) hb1).trans (hc1 3 (by decide))
      have HR1 := Aside.mk (Rec.term.up (Rec.term.mono hr1 (fun c hc => (hf1 j c hc).1)) (fun _ h => h) (hbel2.alloc hbel2.size (.cells #[.int .i64 x0, .int .i64 x1, .string x2, .slice x3a x3b x3c] 26)))
      have W1 := HW.out j hlt1
      clear hc1 hrow1 hf1 hr1 hbel2
      go_wp2_with fail
      refine (HIH.out ts[j] (List.getElem_mem hlt1) [.int .i64 x0, .int .i64 x1, .string x2, .slice x3a x3b x3c] _ HR1.out W1).mono ?_
      rintro e w2 ⟨rfl, hb2⟩
      have hk2 := Aside.mk ((hk0.out.alloc (.cells #[.int .i64 x0, .int .i64 x1, .string x2, .slice x3a x3b x3c] 26)).below hb2)
      have hb3 := Aside.mk (below_later (hb0.out.alloc hb0.out.size (.cells #[.int .i64 x0, .int .i64 x1, .string x2, .slice x3a x3b x3c] 26)) hb2)
      clear d10 d11 d12 d13 HR1 hb2 hk0 hb0 y0 y3
      cases hR : ts[j].right
      · have E : Aside (res = false) := ⟨by rw [HV.out]; exact right_kid _ _ _ _ j hlt1 hR⟩
        go_wp2
        go_ret
        exact ⟨ret_bool E.out.symm, hb3.out⟩
      have hall2 : Aside (∀ (t : Nat) (h : t < ts.length), t < j + 1 → ts[t].right = true) := ⟨fun t ht htj => by
        by_cases e : t = j
        · subst e; exact hR
        · exact hall.out t ht (by omega)⟩
      clear hall hR
      go_wp2_with fail
      go_roundw
      case rel => exact ⟨j + 1, by omega, by go_num, hk2, hb3, hall2⟩
      case measure => first | (simp [intOf]; done) | (simp [intOf]; omega)
    · obtain rfl : j = m := by omega
      have HRA : Aside (∀ (t : Nat) (h : t < ts.length), ts[t].right = true) := ⟨fun t ht => hall.out t ht (by have := HN.out; omega)⟩
      have HV2 : Aside (res = (!decide (k = 7) || rising (evens ts))) := ⟨by rw [HV.out]; exact right_split _ _ _ _ (by rw [← HN.out]; exact HO.out) HRA.out⟩
      clear HV hall
      by_cases h7 : k = 7
      rotate_left
      · have E : Aside (res = true) := ⟨by rw [HV2.out, decide_eq_false h7]; rfl⟩
        have q7 : (k == 7) = false := by simpa using h7
        clear h7
        go_wp2
        go_ret
        exact ⟨ret_bool E.out.symm, hb0.out⟩
      have HV3 : Aside (res = rising (evens (ts.drop (2 - 2)))) := ⟨by rw [HV2.out, decide_eq_true h7]; rfl⟩
      have q7 : (k == 7) = true := by simpa using h7
      clear h7 HV2
      go_wp2_with fail
      obtain ⟨w0, rfl⟩ : ∃ w0, w0 = wr := ⟨_, rfl⟩
      go_loopw [5] (fun i wr => ∃ q : Nat, 2 ≤ q ∧ q ≤ j + 2 ∧ i = .int .i64 q ∧ Aside (Blk wr w.heap.size 26 [.int .i64 k, .int .i64 n, .string s, .slice A1 j c1]) ∧ Aside (Below w.heap.size w wr) ∧ Aside (res = rising (evens (ts.drop (q - 2))))) (fun i _ => j + 4 - (intOf i).toNat)
      case atStart => exact ⟨2, by omega, by omega, rfl, hk0, hb0, HV3⟩
      case round =>
        obtain ⟨q, hq2, hq, rfl, hj0, hbel, hv⟩ := hrel
        clear hk0 hb0 HV3 y0 y3
        have z3 := hj0.out.cell 3
        simp only [List.getElem?_cons_zero, List.getElem?_cons_succ] at z3
        by_cases hlq : q < j
        · have hlt1 : q < ts.length := by rw [← HN.out]; exact hlq
          have hlt0 : q - 2 < ts.length := by omega
          rcases HA.out with h0 | ⟨b1, o1, rfl, hb1, f1, hf1, -, hrow1⟩
          · exfalso; rw [h0] at hlt1; exact absurd hlt1 (Nat.not_lt_zero _)
          obtain ⟨cs1, hr1, hc1⟩ := hrow1 (q - 2) hlt0
          obtain ⟨x0, x1, x2, x3a, x3b, x3c, rfl⟩ := shapeTerm hr1
          obtain ⟨cs2, hr2, hc2⟩ := hrow1 q hlt1
          obtain ⟨y0, y1, y2, y3a, y3b, y3c, rfl⟩ := shapeTerm hr2
          have hbel2 := hbel.out
          have d10 : wr.cell? ⟨b1, o1 + (q - 2) * 4, none⟩ = some (.int .i64 x0) := (hbel2.cell (p := ⟨b1, o1 + (q - 2) * 4 + 0, none⟩) hb1).trans (hc1 0 (by decide))
          have d11 : wr.cell? ⟨b1, o1 + (q - 2) * 4 + 1, none⟩ = some (.int .i64 x1) := (hbel2.cell (p := ⟨b1, o1 + (q - 2) * 4 + 1, none⟩) hb1).trans (hc1 1 (by decide))
          have d12 : wr.cell? ⟨b1, o1 + (q - 2) * 4 + 2, none⟩ = some (.string x2) := (hbel2.cell (p := ⟨b1, o1 + (q - 2) * 4 + 2, none⟩) hb1).trans (hc1 2 (by decide))
          have d13 : wr.cell? ⟨b1, o1 + (q - 2) * 4 + 3, none⟩ = some (.slice x3a x3b x3c) := (hbel2.cell (p := ⟨b1, o1 + (q - 2) * 4 + 3, none⟩) hb1).trans (hc1 3 (by decide))
          have d20 : wr.cell? ⟨b1, o1 + q * 4, none⟩ = some (.int .i64 y0) := (hbel2.cell (p := ⟨b1, o1 + q * 4 + 0, none⟩) hb1).trans (hc2 0 (by decide))
          have d21 : wr.cell? ⟨b1, o1 + q * 4 + 1, none⟩ = some (.int .i64 y1) := (hbel2.cell (p := ⟨b1, o1 + q * 4 + 1, none⟩) hb1).trans (hc2 1 (by decide))
          have d22 : wr.cell? ⟨b1, o1 + q * 4 + 2, none⟩ = some (.string y2) := (hbel2.cell (p := ⟨b1, o1 + q * 4 + 2, none⟩) hb1).trans (hc2 2 (by decide))
          have d23 : wr.cell? ⟨b1, o1 + q * 4 + 3, none⟩ = some (.slice y3a y3b y3c) := (hbel2.cell (p := ⟨b1, o1 + q * 4 + 3, none⟩) hb1).trans (hc2 3 (by decide))
          have HR1 := Aside.mk (Rec.term.up (w1 := wr.drew) (Rec.term.mono hr1 (fun c hc => (hf1 (q - 2) c hc).1)) (fun _ h => h) hbel2.drew)
          have HR2 := Aside.mk (Rec.term.up (w1 := wr.drew) (Rec.term.mono hr2 (fun c hc => (hf1 q c hc).1)) (fun _ h => h) hbel2.drew)
          have hst := Aside.mk (rising_step ts q hq2 hlt1)
          have W1 := HW.out (q - 2) hlt0
          have W2 := HW.out q hlt1
          have g1 := HRA.out (q - 2) hlt0
          have g2 := HRA.out q hlt1
          have u1 : ((q : Int) - 2).toNat = q - 2 := by omega
          have u2 : (0 : Int) ≤ (q : Int) - 2 := by omega
          have u3 : (q : Int) - 2 < j := by omega
          have u5 : (2 : Int) ≤ q := by omega
          have u4 : IntKind.i64.wrap ((q : Int) - 2) = (q : Int) - 2 := by rw [IntKind.wrap_i64]; omega
          clear hc1 hrow1 hf1 hr1 hc2 hr2 hbel2
          go_wp2_with fail
          go_still_tail 11, (by kernel_rfl)
          change wpList _ _ _ _ _ wr.drew
          go_wp2_with fail
          refine (compare ts[q - 2] ts[q] [.int .i64 x0, .int .i64 x1, .string x2, .slice x3a x3b x3c] [.int .i64 y0, .int .i64 y1, .string y2, .slice y3a y3b y3c] _ HR1.out HR2.out W1 W2 g1 g2).mono ?_
          rintro e w2 ⟨rfl, hb3⟩
          have hb4 := Aside.mk (below_later hbel.out.drew hb3)
          have hj2 := Aside.mk (hj0.out.drew.below hb3)
          clear d10 d11 d12 d13 d20 d21 d22 d23 HR1 HR2 hb3 hbel z3 hj0
          by_cases h0 : T.cmp ts[q - 2] ts[q] < 0
          · have hv2 : Aside (res = rising (evens (ts.drop (q + 2 - 2)))) := ⟨by rw [hv.out, hst.out, decide_eq_true h0]; rfl⟩
            generalize T.cmp ts[q - 2] ts[q] = c at h0 ⊢
            clear hst hv W1 W2 g1 g2 u1 u2 u3 u4 u5
            go_wp2_with fail
            go_roundw
            case rel => exact ⟨q + 2, by omega, by omega, by go_num, hj2, hb4, hv2⟩
            case measure => first | (simp [intOf]; done) | (simp [intOf]; omega)
          · have hv2 : Aside (res = false) := ⟨by rw [hv.out, hst.out, decide_eq_false h0]; rfl⟩
            generalize T.cmp ts[q - 2] ts[q] = c at h0 ⊢
            have h1 : 0 ≤ c := by omega
            clear hst hv h0
            go_wp2_with fail
            go_ret
            exact ⟨ret_bool hv2.out.symm, hb4.out⟩
        · have hE : Aside (res = true) := ⟨by rw [hv.out]; exact rising_end ts q (by have := HN.out; omega)⟩
          clear hv
          go_wp2_with fail
          go_ret
          exact ⟨ret_bool hE.out.symm, hbel.out⟩
end Go.Proofs.Ytdldgchkinflmaa.Fn
