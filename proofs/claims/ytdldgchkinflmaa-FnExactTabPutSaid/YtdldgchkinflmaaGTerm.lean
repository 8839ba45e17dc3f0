/- Term: how it lies in memory; copied, measured, compared. Conditions: those of each theorem. -/
import Derived.Test.YtdldgchkinflmaaGBase
set_option linter.unusedVariables false
namespace Go.Proofs.Ytdldgchkinflmaa.Lib
open Go.RowKit Go.Proofs.Ytdldgchkinflmaa.Plan
theorem shapeTerm {tr : Prop} {w : World} {S : Nat → Prop} {a : T} {cs : List Value} (h : Rec.term.rd tr w S a cs) : ∃ (x0 : Int) (x1 : Int) (x2 : ByteArray) (x3a : Option Addr) (x3b : Nat) (x3c : Nat), cs = [.int .i64 x0, .int .i64 x1, .string x2, .slice x3a x3b x3c] := by
  obtain ⟨_, _, rfl, _⟩ := Rec.term_iff.1 h
  exact ⟨_, _, _, _, _, _, rfl⟩
theorem infoTerm : (Try.prog.info? 26).map (fun i => (i.zero, i.size, i.bytes)) = some (some (.agg #[.int .i64 0, .int .i64 0, .string ⟨#[]⟩, .slice none 0 0]), 4, 56) := by kernel_rfl
set_option maxRecDepth 100000 in
set_option maxHeartbeats 1000000 in
theorem toTermS (xs : List T) (ih : ∀ x ∈ xs, ∀ (cs : List Value) (w1 : World), Rec.term.rd False w1 (Old w1) x cs → Rec.term.wt x ≤ 1048576 → Calls Try.prog 24 #[.agg cs.toArray] w1 fun e w2 => ∃ cs2, e = .returned (.agg cs2.toArray) ∧ Rec.term.rd True w2 (Span w1.heap.size w2.heap.size) x cs2 ∧ Below w1.heap.size w1 w2) (v : Value) (w : World) (hn : Rec.term.sl.wt xs ≤ 1048576) (hv : Rec.term.sl.rd False w (Old w) xs [v]) :
    Calls Try.prog 78 #[v] w fun e w2 => ∃ v2, e = .returned v2 ∧ Rec.term.sl.rd True w2 (Span w.heap.size w2.heap.size) xs [v2] ∧ Below w.heap.size w w2 := by
  obtain ⟨i0, hi, hz0, hz1, hz2⟩ := info_parts infoTerm
  have HI := Aside.mk hi
  obtain ⟨ao, cap, he, hcap, hao⟩ := hv
  injection he with he _
  subst he
  have HIH := Aside.mk ih
  have HS := Aside.mk (fun (j : Nat) (h : j < xs.length) => Nat.le_trans (wt_le Rec.term xs j h) (Nat.le_trans (Nat.le_add_left _ _) hn))
  have HA := Aside.mk hao
  have hn1 : xs.length ≤ 1048576 := Nat.le_trans (Nat.le_add_right _ _) hn
  obtain ⟨n, hl⟩ : ∃ n, n = xs.length := ⟨_, rfl⟩
  have HL := Aside.mk hl
  rw [← hl] at hn1 hcap ⊢
  clear hi hao hn hl ih
  go_enter Try.func78, Try.ntmps78
  go_wp2_with (at_make; refine wpList_make_full _ rfl _ _ 24 rfl w.heap.size 26 i0 (.agg #[.int .i64 0, .int .i64 0, .string ⟨#[]⟩, .slice none 0 0]) 4 Try.underlying24 HI.out hz0 hz1 .i64 .i64 _ _ n rfl rfl rfl rfl ?sd1 ?sd2 ?sd3 ?_)
  case sd1 => first | omega | (rw [hz2]; omega)
  case sd2 => unfold maxLen; omega
  try (case sd3 => exact Nat.le_refl _)
  intro w1 hown hgr
  have hown2 : w1.ownsRow w.heap.size 26 Rec.term.k (.slice (some ⟨w.heap.size, 0, none⟩) n n) n _ := hown
  have HT := Aside.mk (Copied.start (R := Rec.term) (xs := xs) hown2 hgr)
  clear hown hown2 hgr HI hz0 hz1 hz2
  go_wp2_with fail
  go_loopw [4] (fun i wr => ∃ k : Nat, k ≤ n ∧ i = .int .i64 k ∧ Aside (Copied Rec.term 26 w wr xs n k)) (fun i _ => n - (intOf i).toNat)
  case atStart => exact ⟨0, Nat.zero_le _, rfl, HT⟩
  case round =>
    obtain ⟨k, hk, rfl, ht⟩ := hrel
    clear HT
    by_cases hlt : k < n
    · have hlt2 : k < xs.length := by rw [← HL.out]; exact hlt
      rcases HA.out with h0 | ⟨b, o, rfl, hb, f, hf, -, hrow⟩
      · exfalso; rw [h0] at hlt2; exact absurd hlt2 (Nat.not_lt_zero _)
      obtain ⟨cs, hr, hc⟩ := hrow k hlt2
      obtain ⟨c0, c1, c2, c3a, c3b, c3c, rfl⟩ := shapeTerm hr
      have hbel := ht.out.choose_spec.2.2.1
      have d0 : wr.cell? ⟨b, o + k * 4, none⟩ = some (.int .i64 c0) := (hbel.cell (p := ⟨b, o + k * 4 + 0, none⟩) hb).trans (hc 0 (by decide))
      have d1 : wr.cell? ⟨b, o + k * 4 + 1, none⟩ = some (.int .i64 c1) := (hbel.cell (p := ⟨b, o + k * 4 + 1, none⟩) hb).trans (hc 1 (by decide))
      have d2 : wr.cell? ⟨b, o + k * 4 + 2, none⟩ = some (.string c2) := (hbel.cell (p := ⟨b, o + k * 4 + 2, none⟩) hb).trans (hc 2 (by decide))
      have d3 : wr.cell? ⟨b, o + k * 4 + 3, none⟩ = some (.slice c3a c3b c3c) := (hbel.cell (p := ⟨b, o + k * 4 + 3, none⟩) hb).trans (hc 3 (by decide))
      have HR := Aside.mk (Rec.term.up (w1 := wr) (Rec.term.mono hr (fun c hc => (hf k c hc).1)) (fun _ h => h) hbel)
      clear hc hrow hf hbel hr
      go_wp2_with fail
      refine (HIH.out xs[k] (List.getElem_mem hlt2) [.int .i64 c0, .int .i64 c1, .string c2, .slice c3a c3b c3c] _ HR.out (HS.out k hlt2)).mono ?_
      rintro e w2 ⟨cs2, rfl, hr2, hb2⟩
      obtain ⟨v0, v1, v2, v3a, v3b, v3c, rfl⟩ := shapeTerm hr2
      obtain ⟨hcell, hfree⟩ := ht.out.blk hb2 hlt
      have HT2 := Aside.mk (ht.out.next hb2 HL.out.symm hlt2 hr2)
      obtain ⟨x0, y0⟩ : ∃ x, w2.cell? ⟨w.heap.size, k * 4, none⟩ = some x := hcell 0 (by decide)
      have z0 := hfree (k * 4)
      obtain ⟨x1, y1⟩ : ∃ x, w2.cell? ⟨w.heap.size, k * 4 + 1, none⟩ = some x := hcell 1 (by decide)
      have z1 := hfree (k * 4 + 1)
      obtain ⟨x2, y2⟩ : ∃ x, w2.cell? ⟨w.heap.size, k * 4 + 2, none⟩ = some x := hcell 2 (by decide)
      have z2 := hfree (k * 4 + 2)
      obtain ⟨x3, y3⟩ : ∃ x, w2.cell? ⟨w.heap.size, k * 4 + 3, none⟩ = some x := hcell 3 (by decide)
      have z3 := hfree (k * 4 + 3)
      clear hcell hfree hr2 hb2 ht d0 d1 d2 d3 HR
      go_wp2_with fail
      go_roundw
      case rel => exact ⟨k + 1, by omega, by go_num, HT2⟩
      case measure => first | (simp [intOf]; done) | (simp [intOf]; omega)
    · obtain rfl : k = n := by omega
      go_wp2_with fail
      go_ret
      exact ⟨_, rfl, ht.out.done HL.out.symm, ht.out.choose_spec.2.2.1⟩
set_option maxRecDepth 100000 in
set_option maxHeartbeats 1000000 in
theorem szTermS (xs : List T) (ih : ∀ x ∈ xs, ∀ (cs : List Value) (w1 : World) (l : Int), Rec.term.rd False w1 (Old w1) x cs → Rec.term.ok x → 0 ≤ l → l ≤ 1048576 → Calls Try.prog 21 #[.agg cs.toArray, .int .i64 l] w1 fun e w2 => e = .returned (.int .i64 (szR (Rec.term.wt x) l)) ∧ Below w1.heap.size w1 w2)
    (v : Value) (w : World) (left : Int) (h : Rec.term.sl.rd False w (Old w) xs [v]) (ho : Rec.term.sl.ok xs) (hl0 : 0 ≤ left) (hl : left ≤ 1048576) :
    Calls Try.prog 75 #[v, .int .i64 left] w fun e w2 => e = .returned (.int .i64 (szR (Rec.term.sl.wt xs) left)) ∧ Below w.heap.size w w2 := by
  obtain ⟨ao, cap, he, hcap, hao⟩ := h
  injection he with he _
  subst he
  have hn1 : xs.length ≤ 9223372036854775807 := ho.1
  have hsum : Rec.term.sl.wt xs = xs.length + wts Rec.term xs xs.length := by rw [wts_all]; rfl
  generalize Rec.term.sl.wt xs = N at hsum
  have HIH := Aside.mk ih
  have HO := Aside.mk ho.2
  have HA := Aside.mk hao
  obtain ⟨n, hln⟩ : ∃ n, n = xs.length := ⟨_, rfl⟩
  rw [← hln] at hn1 hcap hsum ⊢
  have HL := Aside.mk hln
  have HM := Aside.mk (fun k (hk : k ≤ xs.length) => show wts Rec.term xs k ≤ wts Rec.term xs xs.length by rw [wts_all]; exact wts_le _ _ _)
  rw [← hln] at HM
  have h00 := Aside.mk (wts_zero Rec.term xs)
  generalize hW : wts Rec.term xs n = W at hsum HM
  have HW := Aside.mk hW
  clear ho ih hao hln hW
  go_enter Try.func75, Try.ntmps75
  by_cases c0 : (n : Int) ≤ left
  rotate_left
  · go_wp2_with fail
    go_ret
    exact ⟨ret_int (by simp only [szR]; split <;> omega), by go_grown⟩
  go_wp2_with fail
  go_loopw [1, 5] (fun l i wr => ∃ k : Nat, k ≤ n ∧ i = .int .i64 k ∧ (∃ q : Nat, Aside (q = wts Rec.term xs k) ∧ (n : Int) + q ≤ left ∧ l = .int .i64 (left - n - q)) ∧ Aside (Below w.heap.size w wr)) (fun _ i _ => n - (intOf i).toNat)
  case atStart => exact ⟨0, Nat.zero_le _, rfl, ⟨0, ⟨h00.out.symm⟩, by omega, by simp⟩, ⟨Below.refl _ _⟩⟩
  case round =>
    obtain ⟨k, hk, rfl, ⟨q, hq, hql, rfl⟩, hbel⟩ := hrel
    by_cases hlt : k < n
    · have hlt2 : k < xs.length := by rw [← HL.out]; exact hlt
      have hstep : Aside (wts Rec.term xs (k + 1) = q + Rec.term.wt xs[k]) := ⟨by rw [hq.out]; exact wts_succ _ _ _ hlt2⟩
      have hle : wts Rec.term xs (k + 1) ≤ W := HM.out (k + 1) hlt
      rw [hstep.out] at hle
      rcases HA.out with h0 | ⟨b, o, rfl, hb, f, hf, -, hrow⟩
      · exfalso; rw [h0] at hlt2; exact absurd hlt2 (Nat.not_lt_zero _)
      obtain ⟨cs, hr, hc⟩ := hrow k hlt2
      obtain ⟨c0, c1, c2, c3a, c3b, c3c, rfl⟩ := shapeTerm hr
      have hbel2 := hbel.out
      have d0 : wr.cell? ⟨b, o + k * 4, none⟩ = some (.int .i64 c0) := (hbel2.cell (p := ⟨b, o + k * 4 + 0, none⟩) hb).trans (hc 0 (by decide))
      have d1 : wr.cell? ⟨b, o + k * 4 + 1, none⟩ = some (.int .i64 c1) := (hbel2.cell (p := ⟨b, o + k * 4 + 1, none⟩) hb).trans (hc 1 (by decide))
      have d2 : wr.cell? ⟨b, o + k * 4 + 2, none⟩ = some (.string c2) := (hbel2.cell (p := ⟨b, o + k * 4 + 2, none⟩) hb).trans (hc 2 (by decide))
      have d3 : wr.cell? ⟨b, o + k * 4 + 3, none⟩ = some (.slice c3a c3b c3c) := (hbel2.cell (p := ⟨b, o + k * 4 + 3, none⟩) hb).trans (hc 3 (by decide))
      have HR := Aside.mk (Rec.term.up (w1 := wr) (Rec.term.mono hr (fun c hc => (hf k c hc).1)) (fun _ h => h) hbel2)
      obtain ⟨m, hm⟩ : ∃ m, Rec.term.wt xs[k] = m := ⟨_, rfl⟩
      rw [hm] at hle
      have Hm := Aside.mk hm
      clear hc hrow hf hbel2 hr hm
      go_wp2_with fail
      refine (HIH.out xs[k] (List.getElem_mem hlt2) [.int .i64 c0, .int .i64 c1, .string c2, .slice c3a c3b c3c] _ (left - n - q) HR.out (HO.out _ (List.getElem_mem hlt2)) (by omega) (by omega)).mono ?_
      rintro e w2 ⟨rfl, hb2⟩
      rw [Hm.out]
      have hb3 := Aside.mk (below_later hbel.out hb2)
      clear d0 d1 d2 d3 HR hb2 hbel
      by_cases c1 : (m : Int) ≤ left - n - q
      · rw [szR_yes c1]
        go_wp2_with fail
        go_roundw
        case rel => exact ⟨k + 1, by omega, by go_num, ⟨q + m, ⟨by rw [hstep.out, Hm.out]⟩, by omega, by first | rfl | (refine congrArg _ ?_; omega)⟩, hb3⟩
        case measure => first | (simp [intOf]; done) | (simp [intOf]; omega)
      · rw [szR_no c1]
        go_wp2_with fail
        go_ret
        exact ⟨ret_int (by simp only [szR]; split <;> omega), hb3.out⟩
    · obtain rfl : k = n := by omega
      go_wp2_with fail
      go_ret
      have hq2 : q = W := hq.out.trans HW.out
      exact ⟨ret_int (by simp only [szR]; split <;> omega), hbel.out⟩
set_option maxRecDepth 100000 in
set_option maxHeartbeats 1000000 in
theorem eqTermS (xs : List T) (ih : ∀ x ∈ xs, ∀ (ca cb : List Value) (w1 : World), Rec.term.rd False w1 (Old w1) x ca → Rec.term.rd False w1 (Old w1) x cb → Rec.term.ok x → Calls Try.prog 27 #[.agg ca.toArray, .agg cb.toArray] w1 fun e w2 => e = .returned (.bool true) ∧ Below w1.heap.size w1 w2)
    (va vb : Value) (w : World) (ha : Rec.term.sl.rd False w (Old w) xs [va]) (hb : Rec.term.sl.rd False w (Old w) xs [vb]) (ho : Rec.term.sl.ok xs) :
    Calls Try.prog 83 #[va, vb] w fun e w2 => e = .returned (.bool true) ∧ Below w.heap.size w w2 := by
  obtain ⟨a1, cap1, he, hcap1, ha1⟩ := ha
  injection he with he _
  subst he
  obtain ⟨a2, cap2, he, hcap2, ha2⟩ := hb
  injection he with he _
  subst he
  have hn : xs.length ≤ 9223372036854775807 := ho.1
  have HO := Aside.mk ho.2
  have HIH := Aside.mk ih
  have HA := Aside.mk ha1
  have HB := Aside.mk ha2
  obtain ⟨n, hln⟩ : ∃ n, n = xs.length := ⟨_, rfl⟩
  rw [← hln] at hn hcap1 hcap2 ⊢
  have HL := Aside.mk hln
  clear ho ih ha1 ha2 hln
  go_enter Try.func83, Try.ntmps83
  go_wp2_with fail
  go_loopw [5] (fun i wr => ∃ k : Nat, k ≤ n ∧ i = .int .i64 k ∧ Aside (Below w.heap.size w wr)) (fun i _ => n - (intOf i).toNat)
  case atStart => exact ⟨0, Nat.zero_le _, rfl, ⟨Below.refl _ _⟩⟩
  case round =>
    obtain ⟨k, hk, rfl, hbel⟩ := hrel
    by_cases hlt : k < n
    · have hlt2 : k < xs.length := by rw [← HL.out]; exact hlt
      rcases HA.out with h0 | ⟨b1, o1, rfl, hb1, f1, hf1, -, hrow1⟩
      · exfalso; rw [h0] at hlt2; exact absurd hlt2 (Nat.not_lt_zero _)
      obtain ⟨cs1, hr1, hc1⟩ := hrow1 k hlt2
      obtain ⟨c0, c1, c2, c3a, c3b, c3c, rfl⟩ := shapeTerm hr1
      rcases HB.out with h0 | ⟨b2, o2, rfl, hb2, f2, hf2, -, hrow2⟩
      · exfalso; rw [h0] at hlt2; exact absurd hlt2 (Nat.not_lt_zero _)
      obtain ⟨cs2, hr2, hc2⟩ := hrow2 k hlt2
      obtain ⟨v0, v1, v2, v3a, v3b, v3c, rfl⟩ := shapeTerm hr2
      have hbel2 := hbel.out
      have d10 : wr.cell? ⟨b1, o1 + k * 4, none⟩ = some (.int .i64 c0) := (hbel2.cell (p := ⟨b1, o1 + k * 4 + 0, none⟩) hb1).trans (hc1 0 (by decide))
      have d11 : wr.cell? ⟨b1, o1 + k * 4 + 1, none⟩ = some (.int .i64 c1) := (hbel2.cell (p := ⟨b1, o1 + k * 4 + 1, none⟩) hb1).trans (hc1 1 (by decide))
      have d12 : wr.cell? ⟨b1, o1 + k * 4 + 2, none⟩ = some (.string c2) := (hbel2.cell (p := ⟨b1, o1 + k * 4 + 2, none⟩) hb1).trans (hc1 2 (by decide))
      have d13 : wr.cell? ⟨b1, o1 + k * 4 + 3, none⟩ = some (.slice c3a c3b c3c) := (hbel2.cell (p := ⟨b1, o1 + k * 4 + 3, none⟩) hb1).trans (hc1 3 (by decide))
      have d20 : wr.cell? ⟨b2, o2 + k * 4, none⟩ = some (.int .i64 v0) := (hbel2.cell (p := ⟨b2, o2 + k * 4 + 0, none⟩) hb2).trans (hc2 0 (by decide))
      have d21 : wr.cell? ⟨b2, o2 + k * 4 + 1, none⟩ = some (.int .i64 v1) := (hbel2.cell (p := ⟨b2, o2 + k * 4 + 1, none⟩) hb2).trans (hc2 1 (by decide))
      have d22 : wr.cell? ⟨b2, o2 + k * 4 + 2, none⟩ = some (.string v2) := (hbel2.cell (p := ⟨b2, o2 + k * 4 + 2, none⟩) hb2).trans (hc2 2 (by decide))
      have d23 : wr.cell? ⟨b2, o2 + k * 4 + 3, none⟩ = some (.slice v3a v3b v3c) := (hbel2.cell (p := ⟨b2, o2 + k * 4 + 3, none⟩) hb2).trans (hc2 3 (by decide))
      have HR1 := Aside.mk (Rec.term.up (w1 := wr.drew) (Rec.term.mono hr1 (fun c hc => (hf1 k c hc).1)) (fun _ h => h) hbel2.drew)
      have HR2 := Aside.mk (Rec.term.up (w1 := wr.drew) (Rec.term.mono hr2 (fun c hc => (hf2 k c hc).1)) (fun _ h => h) hbel2.drew)
      clear hc1 hrow1 hf1 hr1 hc2 hrow2 hf2 hr2 hbel2
      go_wp2_with fail
      go_still_tail 8, (by kernel_rfl)
      change wpList _ _ _ _ _ wr.drew
      go_wp2_with fail
      refine (HIH.out xs[k] (List.getElem_mem hlt2) [.int .i64 c0, .int .i64 c1, .string c2, .slice c3a c3b c3c] [.int .i64 v0, .int .i64 v1, .string v2, .slice v3a v3b v3c] _ HR1.out HR2.out (HO.out _ (List.getElem_mem hlt2))).mono ?_
      rintro e w2 ⟨rfl, hb2⟩
      have hb3 := Aside.mk (below_later hbel.out.drew hb2)
      clear d10 d20 d11 d21 d12 d22 d13 d23 HR1 HR2 hb2 hbel
      go_wp2_with fail
      go_roundw
      case rel => exact ⟨k + 1, by omega, by go_num, hb3⟩
      case measure => first | (simp [intOf]; done) | (simp [intOf]; omega)
    · obtain rfl : k = n := by omega
      go_wp2_with fail
      go_ret
      exact ⟨rfl, hbel.out⟩
set_option maxRecDepth 100000 in
set_option maxHeartbeats 1000000 in
theorem toTerm (a : T) : ∀ (cs : List Value) (w : World), Rec.term.rd False w (Old w) a cs → Rec.term.wt a ≤ 1048576 →
    Calls Try.prog 24 #[.agg cs.toArray] w fun e w2 => ∃ cs2, e = .returned (.agg cs2.toArray) ∧ Rec.term.rd True w2 (Span w.heap.size w2.heap.size) a cs2 ∧ Below w.heap.size w w2 := by
  induction a using T.ind with
  | h a0 a1 a2 a3 ih =>
  intro cs w h hw
  obtain ⟨A3, c3, rfl, h3⟩ := Rec.term_iff.1 h
  change Rec.term.sl.rd False w (Old w) a3 [.slice A3 a3.length c3] at h3
  have hw3 := Rec.term_wt (.mk a0 a1 a2 a3)
  change _ = a2.size + Rec.term.sl.wt a3 at hw3
  have W3 : Rec.term.sl.wt a3 ≤ 1048576 := by omega
  have H3 := Aside.mk h3
  have HIH := Aside.mk ih
  show Calls Try.prog 24 #[.agg #[.int .i64 a0, .int .i64 a1, .string a2, .slice A3 a3.length c3]] w _
  clear h3 hw3 hw h ih
  go_enter Try.func24, Try.ntmps24
  go_wp2_with fail
  refine (toTermS a3 HIH.out _ _ W3 (Rec.term.sl.old H3.out (by go_grown))).mono ?_
  rintro e w1 ⟨r3, rfl, hr3, hb1⟩
  have hs1 : w.heap.size + 3 ≤ w1.heap.size := by have := hb1.size; simp at this; omega
  have hr3 : Rec.term.sl.rd True w1 (Span (w.heap.size + 3) w1.heap.size) a3 [r3] := Rec.term.sl.mono hr3 (fun b h => ⟨by have := h.1; simp at this; omega, h.2⟩)
  obtain ⟨B3, d3, he, -⟩ := id hr3
  injection he with he _
  subst he
  have HR3 := Aside.mk hr3
  have k0 := (((Blk.new w 38 [.int .i64 a0, .int .i64 a1, .string a2, .slice A3 a3.length c3]).alloc _).alloc _).below hb1
  have k1 := ((Blk.made (w.alloc _) 26 [.int .i64 0, .int .i64 0, .string ⟨#[]⟩, .slice none 0 0] (g := w.heap.size + 1) (by simp)).alloc _).below hb1
  have k2 := (Blk.made ((w.alloc _).alloc _) 26 [.int .i64 a0, .int .i64 a1, .string a2, .slice none 0 0] (g := w.heap.size + 1 + 1) (by simp)).below hb1
  have bel : Below w.heap.size w w1 := below_later (by go_grown) hb1
  have y0_0 : w1.cell? ⟨w.heap.size, 0, none⟩ = some (.int .i64 a0) := k0.cell 0
  have y1_0 : w1.cell? ⟨w.heap.size + 1, 0, none⟩ = some (.int .i64 0) := k1.cell 0
  have y2_0 : w1.cell? ⟨w.heap.size + 1 + 1, 0, none⟩ = some (.int .i64 a0) := k2.cell 0
  have z1_0 := k1.free 0
  have z2_0 := k2.free 0
  have y0_1 : w1.cell? ⟨w.heap.size, 1, none⟩ = some (.int .i64 a1) := k0.cell 1
  have y1_1 : w1.cell? ⟨w.heap.size + 1, 1, none⟩ = some (.int .i64 0) := k1.cell 1
  have y2_1 : w1.cell? ⟨w.heap.size + 1 + 1, 1, none⟩ = some (.int .i64 a1) := k2.cell 1
  have z1_1 := k1.free 1
  have z2_1 := k2.free 1
  have y0_2 : w1.cell? ⟨w.heap.size, 2, none⟩ = some (.string a2) := k0.cell 2
  have y1_2 : w1.cell? ⟨w.heap.size + 1, 2, none⟩ = some (.string ⟨#[]⟩) := k1.cell 2
  have y2_2 : w1.cell? ⟨w.heap.size + 1 + 1, 2, none⟩ = some (.string a2) := k2.cell 2
  have z1_2 := k1.free 2
  have z2_2 := k2.free 2
  have y0_3 : w1.cell? ⟨w.heap.size, 3, none⟩ = some (.slice A3 a3.length c3) := k0.cell 3
  have y1_3 : w1.cell? ⟨w.heap.size + 1, 3, none⟩ = some (.slice none 0 0) := k1.cell 3
  have y2_3 : w1.cell? ⟨w.heap.size + 1 + 1, 3, none⟩ = some (.slice none 0 0) := k2.cell 3
  have z1_3 := k1.free 3
  have z2_3 := k2.free 3
  have K1 := Aside.mk k1
  have BEL := Aside.mk bel
  clear k0 k1 k2 bel hb1 hr3
  go_wp2_with fail
  have k1 := K1.out
  have bel := BEL.out
  refine bodyPost_ret (res_c rfl _ _ (w.heap.size + 1) 26 [.int .i64 a0, .int .i64 a1, .string a2, .slice B3 a3.length d3] _ rfl ?k Try.underlying26 rfl (by kernel_rfl)) rfl ⟨_, rfl, ?r, ?b⟩
  case k => exact (((((k1.far (by simp) _).set 0 _).set 1 _).set 2 _).set 3 _)
  case b => go_grown
  case r =>
    refine Rec.term_iff.2 ⟨_, _, rfl, Rec.term.sl.mono (Rec.term.sl.over HR3.out (fun b h1 h2 => by rw [heap_far (by omega)]; rw [heap_far (by omega)]; rw [heap_far (by omega)]; rw [heap_far (by omega)]; rw [heap_far (by omega)])) (fun b h => by simp [Span] at h ⊢ <;> omega)⟩
set_option maxRecDepth 100000 in
set_option maxHeartbeats 1000000 in
theorem szTerm (a : T) : ∀ (cs : List Value) (w : World) (left : Int), Rec.term.rd False w (Old w) a cs → Rec.term.ok a → 0 ≤ left → left ≤ 1048576 →
    Calls Try.prog 21 #[.agg cs.toArray, .int .i64 left] w fun e w2 => e = .returned (.int .i64 (szR (Rec.term.wt a) left)) ∧ Below w.heap.size w w2 := by
  induction a using T.ind with
  | h a0 a1 a2 a3 ih =>
  intro cs w left h ho hl0 hl
  obtain ⟨A3, c3, rfl, h3⟩ := Rec.term_iff.1 h
  change Rec.term.sl.rd False w (Old w) a3 [.slice A3 a3.length c3] at h3
  have hN := Rec.term_wt (.mk a0 a1 a2 a3)
  change _ = a2.size + Rec.term.sl.wt a3 at hN
  obtain ⟨-, -, u2, o3⟩ := Rec.term_ok.1 ho
  change a2.size ≤ 9223372036854775807 at u2
  change Rec.term.sl.ok a3 at o3
  generalize Rec.term.wt (.mk a0 a1 a2 a3) = N at hN ⊢
  obtain ⟨n3, t3⟩ : ∃ n, Rec.term.sl.wt a3 = n := ⟨_, rfl⟩
  rw [t3] at hN
  have T3 := Aside.mk t3
  have O3 := Aside.mk o3
  have H3 := Aside.mk h3
  have HIH := Aside.mk ih
  show Calls Try.prog 21 #[.agg #[.int .i64 a0, .int .i64 a1, .string a2, .slice A3 a3.length c3], .int .i64 left] w _
  clear h3 t3 o3 ih h ho
  go_enter Try.func21, Try.ntmps21
  by_cases c2 : (a2.size : Int) ≤ left
  rotate_left
  · go_wp2_with fail
    go_ret; exact ⟨ret_int (by simp only [szR]; split <;> omega), by go_grown⟩
  go_wp2_with fail
  refine (szTermS a3 HIH.out _ _ (left - a2.size) (Rec.term.sl.old H3.out (by go_grown)) O3.out (by omega) (by omega)).mono ?_
  rintro e w1 ⟨rfl, hb1⟩
  rw [T3.out]
  have bel : Below w.heap.size w w1 := below_later (by go_grown) hb1
  clear hb1
  by_cases c3n : (n3 : Int) ≤ left - a2.size
  rotate_left
  · rw [szR_no c3n]
    go_wp2_with fail
    go_ret; exact ⟨ret_int (by simp only [szR]; split <;> omega), by go_grown⟩
  rw [szR_yes c3n]
  go_wp2_with fail
  go_ret; exact ⟨ret_int (by simp only [szR]; split <;> omega), by go_grown⟩
set_option maxRecDepth 100000 in
set_option maxHeartbeats 1000000 in
theorem eqTerm (a : T) : ∀ (ca cb : List Value) (w : World), Rec.term.rd False w (Old w) a ca → Rec.term.rd False w (Old w) a cb → Rec.term.ok a →
    Calls Try.prog 27 #[.agg ca.toArray, .agg cb.toArray] w fun e w2 => e = .returned (.bool true) ∧ Below w.heap.size w w2 := by
  induction a using T.ind with
  | h a0 a1 a2 a3 ih =>
  intro ca cb w ha hb ho
  obtain ⟨A3a, c3a, rfl, h3a⟩ := Rec.term_iff.1 ha
  change Rec.term.sl.rd False w (Old w) a3 [.slice A3a a3.length c3a] at h3a
  obtain ⟨A3b, c3b, rfl, h3b⟩ := Rec.term_iff.1 hb
  change Rec.term.sl.rd False w (Old w) a3 [.slice A3b a3.length c3b] at h3b
  obtain ⟨-, -, -, o3⟩ := Rec.term_ok.1 ho
  change Rec.term.sl.ok a3 at o3
  have H3a := Aside.mk h3a
  have H3b := Aside.mk h3b
  have O3 := Aside.mk o3
  have HIH := Aside.mk ih
  show Calls Try.prog 27 #[.agg #[.int .i64 a0, .int .i64 a1, .string a2, .slice A3a a3.length c3a], .agg #[.int .i64 a0, .int .i64 a1, .string a2, .slice A3b a3.length c3b]] w _
  clear h3a h3b o3 ih ha hb ho
  go_enter Try.func27, Try.ntmps27
  go_wp2_with fail
  refine (eqTermS a3 HIH.out _ _ _ (Rec.term.sl.old H3a.out (by go_grown)) (Rec.term.sl.old H3b.out (by go_grown)) O3.out).mono ?_
  rintro e w1 ⟨rfl, hb1⟩
  have bel : Below w.heap.size w w1 := below_later (by go_grown) hb1
  clear hb1
  go_wp2_with fail
  go_ret
  exact ⟨rfl, by go_grown⟩
theorem opensTerm {H : Type} {enc : TypeId × Value → H} (n : Nat) : OpensAt enc Try.prog n 38 Rec.term :=
  opens_term Try.underlying38 (by kernel_rfl) Try.underlying34 Try.underlying3 Try.underlying3 Try.underlying9 rfl rfl rfl rfl rfl (by kernel_rfl) (by kernel_rfl) (by kernel_rfl) (by kernel_rfl) n
end Go.Proofs.Ytdldgchkinflmaa.Lib
