/- LinkAct: how it lies in memory; copied, measured, compared. Conditions: those of each theorem. -/
import Derived.Test.YtdldgchkinflmaaGString
set_option linter.unusedVariables false
namespace Go.Proofs.Ytdldgchkinflmaa.Lib
open Go.RowKit Go.Proofs.Ytdldgchkinflmaa.Plan
abbrev ALinkAct := Int × Int × ByteArray
def RLinkAct : Rec ALinkAct := Rec.int.pair (Rec.int.pair (Rec.str))
theorem shapeLinkAct {tr : Prop} {w : World} {S : Nat → Prop} {a : ALinkAct} {cs : List Value} (h : RLinkAct.rd tr w S a cs) : ∃ (x0 : Int) (x1 : Int) (x2 : ByteArray), cs = [.int .i64 x0, .int .i64 x1, .string x2] := by
  obtain ⟨_, _, _, _, rfl, p1, q1, _⟩ := h
  obtain rfl := p1
  obtain ⟨_, _, _, _, rfl, p2, q2, _⟩ := q1
  obtain rfl := p2
  obtain rfl := q2
  exact ⟨_, _, _, rfl⟩
set_option maxRecDepth 100000 in
set_option maxHeartbeats 1000000 in
theorem toLinkAct (a : ALinkAct) (cs : List Value) (w : World) (h : RLinkAct.rd False w (Old w) a cs) (hw : RLinkAct.wt a ≤ 1048576) :
    Calls Try.prog 117 #[.agg cs.toArray] w fun e w2 => ∃ cs2, e = .returned (.agg cs2.toArray) ∧ RLinkAct.rd True w2 (Span w.heap.size w2.heap.size) a cs2 ∧ Below w.heap.size w w2 := by
  obtain ⟨a0, a1, a2⟩ := a
  obtain ⟨_, _, _, _, rfl, p0, q0, i0, j0, -⟩ := h
  obtain ⟨_, _, _, _, rfl, p1, q1, i1, j1, -⟩ := q0
  obtain rfl := p0
  obtain rfl := p1
  obtain rfl := q1
  have hw2 : Rec.int.wt a0 + (Rec.int.wt a1 + (Rec.str.wt a2)) ≤ 1048576 := hw
  clear hw hw2
  show Calls Try.prog 117 #[.agg #[.int .i64 a0, .int .i64 a1, .string a2]] w _
  clear i0 j0 i1 j1
  go_enter Try.func117, Try.ntmps117
  go_wp2_with fail
  refine bodyPost_ret (res_c rfl _ _ (w.heap.size + 1) 150 [.int .i64 a0, .int .i64 a1, .string a2] _ rfl ?k Try.underlying150 rfl (by kernel_rfl)) rfl ⟨_, rfl, ?r, ?b⟩
  case k => exact (Blk.made (w.alloc _) 150 [.int .i64 a0, .int .i64 a1, .string a2] (g := w.heap.size + 1) (by simp)).alloc _
  case b => go_grown
  case r =>
    exact RLinkAct.mono (Rec.join (Rec.int_rd True _ NoB _) (Rec.join (Rec.int_rd True _ NoB _) (Rec.str_rd True _ NoB _) (fun b h1 h2 => by first | exact h1.elim | exact h2.elim | (simp only [Span] at h1 h2; omega))) (fun b h1 h2 => by first | exact h1.elim | exact h2.elim | (simp only [Span] at h1 h2; omega))) (fun b h => by simp [Span, NoB] at h ⊢ <;> omega)
set_option maxRecDepth 100000 in
set_option maxHeartbeats 1000000 in
theorem szLinkAct (a : ALinkAct) (cs : List Value) (w : World) (left : Int) (h : RLinkAct.rd False w (Old w) a cs) (ho : RLinkAct.ok a) (hl0 : 0 ≤ left) (hl : left ≤ 1048576) :
    Calls Try.prog 114 #[.agg cs.toArray, .int .i64 left] w fun e w2 => e = .returned (.int .i64 (szR (RLinkAct.wt a) left)) ∧ Below w.heap.size w w2 := by
  obtain ⟨a0, a1, a2⟩ := a
  have ho2 : Rec.int.ok a0 ∧ (Rec.int.ok a1 ∧ (Rec.str.ok a2)) := ho
  obtain ⟨o0, o1, o2⟩ := ho2
  generalize hT : RLinkAct.wt (a0, a1, a2) = N
  have hT2 : Rec.int.wt a0 + (Rec.int.wt a1 + (Rec.str.wt a2)) = N := hT
  have t0 : Rec.int.wt a0 = 0 := rfl
  have t1 : Rec.int.wt a1 = 0 := rfl
  have t2 : Rec.str.wt a2 = a2.size := rfl
  have u2 : a2.size ≤ 9223372036854775807 := o2
  have hN : N = a2.size := by omega
  clear ho hT hT2 o0 t0 o1 t1 o2 t2
  obtain ⟨_, _, _, _, rfl, p0, q0, i0, j0, -⟩ := h
  obtain ⟨_, _, _, _, rfl, p1, q1, i1, j1, -⟩ := q0
  obtain rfl := p0
  obtain rfl := p1
  obtain rfl := q1
  show Calls Try.prog 114 #[.agg #[.int .i64 a0, .int .i64 a1, .string a2], .int .i64 left] w _
  clear i0 j0 i1 j1
  go_enter Try.func114, Try.ntmps114
  by_cases c2n : (a2.size : Int) ≤ left
  rotate_left
  · go_wp2_with fail
    go_ret; exact ⟨ret_int (by simp only [szR]; split <;> omega), by go_grown⟩
  go_wp2_with fail
  go_ret; exact ⟨ret_int (by simp only [szR]; split <;> omega), by go_grown⟩
set_option maxRecDepth 100000 in
set_option maxHeartbeats 1000000 in
theorem eqLinkAct (a : ALinkAct) (ca cb : List Value) (w : World) (ha : RLinkAct.rd False w (Old w) a ca) (hb : RLinkAct.rd False w (Old w) a cb) (ho : RLinkAct.ok a) :
    Calls Try.prog 122 #[.agg ca.toArray, .agg cb.toArray] w fun e w2 => e = .returned (.bool true) ∧ Below w.heap.size w w2 := by
  obtain ⟨a0, a1, a2⟩ := a
  have ho2 : Rec.int.ok a0 ∧ (Rec.int.ok a1 ∧ (Rec.str.ok a2)) := ho
  obtain ⟨o0, o1, o2⟩ := ho2
  clear ho o0 o1 o2
  obtain ⟨_, _, _, _, rfl, p0a, q0a, i0a, j0a, -⟩ := ha
  obtain ⟨_, _, _, _, rfl, p1a, q1a, i1a, j1a, -⟩ := q0a
  obtain rfl := p0a
  obtain rfl := p1a
  obtain rfl := q1a
  obtain ⟨_, _, _, _, rfl, p0b, q0b, i0b, j0b, -⟩ := hb
  obtain ⟨_, _, _, _, rfl, p1b, q1b, i1b, j1b, -⟩ := q0b
  obtain rfl := p0b
  obtain rfl := p1b
  obtain rfl := q1b
  show Calls Try.prog 122 #[.agg #[.int .i64 a0, .int .i64 a1, .string a2], .agg #[.int .i64 a0, .int .i64 a1, .string a2]] w _
  clear i0a j0a i1a j1a i0b j0b i1b j1b
  go_enter Try.func122, Try.ntmps122
  go_wp2_with fail
  go_ret
  exact ⟨rfl, by go_grown⟩
theorem infoLinkAct : (Try.prog.info? 150).map (fun i => (i.zero, i.size, i.bytes)) = some (some (.agg #[.int .i64 0, .int .i64 0, .string ⟨#[]⟩]), 3, 32) := by kernel_rfl
set_option maxRecDepth 100000 in
set_option maxHeartbeats 1000000 in
theorem toLinkActS (xs : List ALinkAct) (ih : ∀ x ∈ xs, ∀ (cs : List Value) (w1 : World), RLinkAct.rd False w1 (Old w1) x cs → RLinkAct.wt x ≤ 1048576 → Calls Try.prog 117 #[.agg cs.toArray] w1 fun e w2 => ∃ cs2, e = .returned (.agg cs2.toArray) ∧ RLinkAct.rd True w2 (Span w1.heap.size w2.heap.size) x cs2 ∧ Below w1.heap.size w1 w2) (v : Value) (w : World) (hn : RLinkAct.sl.wt xs ≤ 1048576) (hv : RLinkAct.sl.rd False w (Old w) xs [v]) :
    Calls Try.prog 46 #[v] w fun e w2 => ∃ v2, e = .returned v2 ∧ RLinkAct.sl.rd True w2 (Span w.heap.size w2.heap.size) xs [v2] ∧ Below w.heap.size w w2 := by
  obtain ⟨i0, hi, hz0, hz1, hz2⟩ := info_parts infoLinkAct
  have HI := Aside.mk hi
  obtain ⟨ao, cap, he, hcap, hao⟩ := hv
  injection he with he _
  subst he
  have HIH := Aside.mk ih
  have HS := Aside.mk (fun (j : Nat) (h : j < xs.length) => Nat.le_trans (wt_le RLinkAct xs j h) (Nat.le_trans (Nat.le_add_left _ _) hn))
  have HA := Aside.mk hao
  have hn1 : xs.length ≤ 1048576 := Nat.le_trans (Nat.le_add_right _ _) hn
  obtain ⟨n, hl⟩ : ∃ n, n = xs.length := ⟨_, rfl⟩
  have HL := Aside.mk hl
  rw [← hl] at hn1 hcap ⊢
  clear hi hao hn hl ih
  go_enter Try.func46, Try.ntmps46
  go_wp2_with (at_make; refine wpList_make_full _ rfl _ _ 82 rfl w.heap.size 150 i0 (.agg #[.int .i64 0, .int .i64 0, .string ⟨#[]⟩]) 3 Try.underlying82 HI.out hz0 hz1 .i64 .i64 _ _ n rfl rfl rfl rfl ?sd1 ?sd2 ?sd3 ?_)
  case sd1 => first | omega | (rw [hz2]; omega)
  case sd2 => unfold maxLen; omega
  try (case sd3 => exact Nat.le_refl _)
  intro w1 hown hgr
  have hown2 : w1.ownsRow w.heap.size 150 RLinkAct.k (.slice (some ⟨w.heap.size, 0, none⟩) n n) n _ := hown
  have HT := Aside.mk (Copied.start (R := RLinkAct) (xs := xs) hown2 hgr)
  clear hown hown2 hgr HI hz0 hz1 hz2
  go_wp2_with fail
  go_loopw [4] (fun i wr => ∃ k : Nat, k ≤ n ∧ i = .int .i64 k ∧ Aside (Copied RLinkAct 150 w wr xs n k)) (fun i _ => n - (intOf i).toNat)
  case atStart => exact ⟨0, Nat.zero_le _, rfl, HT⟩
  case round =>
    obtain ⟨k, hk, rfl, ht⟩ := hrel
    clear HT
    by_cases hlt : k < n
    · have hlt2 : k < xs.length := by rw [← HL.out]; exact hlt
      rcases HA.out with h0 | ⟨b, o, rfl, hb, f, hf, -, hrow⟩
      · exfalso; rw [h0] at hlt2; exact absurd hlt2 (Nat.not_lt_zero _)
      obtain ⟨cs, hr, hc⟩ := hrow k hlt2
      obtain ⟨c0, c1, c2, rfl⟩ := shapeLinkAct hr
      have hbel := ht.out.choose_spec.2.2.1
      have d0 : wr.cell? ⟨b, o + k * 3, none⟩ = some (.int .i64 c0) := (hbel.cell (p := ⟨b, o + k * 3 + 0, none⟩) hb).trans (hc 0 (by decide))
      have d1 : wr.cell? ⟨b, o + k * 3 + 1, none⟩ = some (.int .i64 c1) := (hbel.cell (p := ⟨b, o + k * 3 + 1, none⟩) hb).trans (hc 1 (by decide))
      have d2 : wr.cell? ⟨b, o + k * 3 + 2, none⟩ = some (.string c2) := (hbel.cell (p := ⟨b, o + k * 3 + 2, none⟩) hb).trans (hc 2 (by decide))
      have HR := Aside.mk (RLinkAct.up (w1 := wr) (RLinkAct.mono hr (fun c hc => (hf k c hc).1)) (fun _ h => h) hbel)
      clear hc hrow hf hbel hr
      go_wp2_with fail
      refine (HIH.out xs[k] (List.getElem_mem hlt2) [.int .i64 c0, .int .i64 c1, .string c2] _ HR.out (HS.out k hlt2)).mono ?_
      rintro e w2 ⟨cs2, rfl, hr2, hb2⟩
      obtain ⟨v0, v1, v2, rfl⟩ := shapeLinkAct hr2
      obtain ⟨hcell, hfree⟩ := ht.out.blk hb2 hlt
      have HT2 := Aside.mk (ht.out.next hb2 HL.out.symm hlt2 hr2)
      obtain ⟨x0, y0⟩ : ∃ x, w2.cell? ⟨w.heap.size, k * 3, none⟩ = some x := hcell 0 (by decide)
      have z0 := hfree (k * 3)
      obtain ⟨x1, y1⟩ : ∃ x, w2.cell? ⟨w.heap.size, k * 3 + 1, none⟩ = some x := hcell 1 (by decide)
      have z1 := hfree (k * 3 + 1)
      obtain ⟨x2, y2⟩ : ∃ x, w2.cell? ⟨w.heap.size, k * 3 + 2, none⟩ = some x := hcell 2 (by decide)
      have z2 := hfree (k * 3 + 2)
      clear hcell hfree hr2 hb2 ht d0 d1 d2 HR
      go_wp2_with fail
      go_roundw
      case rel => exact ⟨k + 1, by omega, by go_num, HT2⟩
      case measure => first | (simp [intOf]; done) | (simp [intOf]; omega)
    · obtain rfl : k = n := by omega
      go_wp2_with fail
      go_ret
      exact ⟨_, rfl, ht.out.done HL.out.symm, ht.out.choose_spec.2.2.1⟩
set_option maxRecDepth 100000 in
set_option maxHeartbeats 1000000 in
theorem szLinkActS (xs : List ALinkAct) (ih : ∀ x ∈ xs, ∀ (cs : List Value) (w1 : World) (l : Int), RLinkAct.rd False w1 (Old w1) x cs → RLinkAct.ok x → 0 ≤ l → l ≤ 1048576 → Calls Try.prog 114 #[.agg cs.toArray, .int .i64 l] w1 fun e w2 => e = .returned (.int .i64 (szR (RLinkAct.wt x) l)) ∧ Below w1.heap.size w1 w2)
    (v : Value) (w : World) (left : Int) (h : RLinkAct.sl.rd False w (Old w) xs [v]) (ho : RLinkAct.sl.ok xs) (hl0 : 0 ≤ left) (hl : left ≤ 1048576) :
    Calls Try.prog 44 #[v, .int .i64 left] w fun e w2 => e = .returned (.int .i64 (szR (RLinkAct.sl.wt xs) left)) ∧ Below w.heap.size w w2 := by
  obtain ⟨ao, cap, he, hcap, hao⟩ := h
  injection he with he _
  subst he
  have hn1 : xs.length ≤ 9223372036854775807 := ho.1
  have hsum : RLinkAct.sl.wt xs = xs.length + wts RLinkAct xs xs.length := by rw [wts_all]; rfl
  generalize RLinkAct.sl.wt xs = N at hsum
  have HIH := Aside.mk ih
  have HO := Aside.mk ho.2
  have HA := Aside.mk hao
  obtain ⟨n, hln⟩ : ∃ n, n = xs.length := ⟨_, rfl⟩
  rw [← hln] at hn1 hcap hsum ⊢
  have HL := Aside.mk hln
  have HM := Aside.mk (fun k (hk : k ≤ xs.length) => show wts RLinkAct xs k ≤ wts RLinkAct xs xs.length by rw [wts_all]; exact wts_le _ _ _)
  rw [← hln] at HM
  have h00 := Aside.mk (wts_zero RLinkAct xs)
  generalize hW : wts RLinkAct xs n = W at hsum HM
  have HW := Aside.mk hW
  clear ho ih hao hln hW
  go_enter Try.func44, Try.ntmps44
  by_cases c0 : (n : Int) ≤ left
  rotate_left
  · go_wp2_with fail
    go_ret
    exact ⟨ret_int (by simp only [szR]; split <;> omega), by go_grown⟩
  go_wp2_with fail
  go_loopw [1, 5] (fun l i wr => ∃ k : Nat, k ≤ n ∧ i = .int .i64 k ∧ (∃ q : Nat, Aside (q = wts RLinkAct xs k) ∧ (n : Int) + q ≤ left ∧ l = .int .i64 (left - n - q)) ∧ Aside (Below w.heap.size w wr)) (fun _ i _ => n - (intOf i).toNat)
  case atStart => exact ⟨0, Nat.zero_le _, rfl, ⟨0, ⟨h00.out.symm⟩, by omega, by simp⟩, ⟨Below.refl _ _⟩⟩
  case round =>
    obtain ⟨k, hk, rfl, ⟨q, hq, hql, rfl⟩, hbel⟩ := hrel
    by_cases hlt : k < n
    · have hlt2 : k < xs.length := by rw [← HL.out]; exact hlt
      have hstep : Aside (wts RLinkAct xs (k + 1) = q + RLinkAct.wt xs[k]) := ⟨by rw [hq.out]; exact wts_succ _ _ _ hlt2⟩
      have hle : wts RLinkAct xs (k + 1) ≤ W := HM.out (k + 1) hlt
      rw [hstep.out] at hle
      rcases HA.out with h0 | ⟨b, o, rfl, hb, f, hf, -, hrow⟩
      · exfalso; rw [h0] at hlt2; exact absurd hlt2 (Nat.not_lt_zero _)
      obtain ⟨cs, hr, hc⟩ := hrow k hlt2
      obtain ⟨c0, c1, c2, rfl⟩ := shapeLinkAct hr
      have hbel2 := hbel.out
      have d0 : wr.cell? ⟨b, o + k * 3, none⟩ = some (.int .i64 c0) := (hbel2.cell (p := ⟨b, o + k * 3 + 0, none⟩) hb).trans (hc 0 (by decide))
      have d1 : wr.cell? ⟨b, o + k * 3 + 1, none⟩ = some (.int .i64 c1) := (hbel2.cell (p := ⟨b, o + k * 3 + 1, none⟩) hb).trans (hc 1 (by decide))
      have d2 : wr.cell? ⟨b, o + k * 3 + 2, none⟩ = some (.string c2) := (hbel2.cell (p := ⟨b, o + k * 3 + 2, none⟩) hb).trans (hc 2 (by decide))
      have HR := Aside.mk (RLinkAct.up (w1 := wr) (RLinkAct.mono hr (fun c hc => (hf k c hc).1)) (fun _ h => h) hbel2)
      obtain ⟨m, hm⟩ : ∃ m, RLinkAct.wt xs[k] = m := ⟨_, rfl⟩
      rw [hm] at hle
      have Hm := Aside.mk hm
      clear hc hrow hf hbel2 hr hm
      go_wp2_with fail
      refine (HIH.out xs[k] (List.getElem_mem hlt2) [.int .i64 c0, .int .i64 c1, .string c2] _ (left - n - q) HR.out (HO.out _ (List.getElem_mem hlt2)) (by omega) (by omega)).mono ?_
      rintro e w2 ⟨rfl, hb2⟩
      rw [Hm.out]
      have hb3 := Aside.mk (below_later hbel.out hb2)
      clear d0 d1 d2 HR hb2 hbel
      by_cases c1 : (m : Int) ≤ left - n - q
      · rw [szR_yes c1]
        go_wp2_with fail
        go_roundw
        case rel => exact ⟨k + 1, by omega, by go_num, ⟨q + m, ⟨by rw [hstep.out, Hm.out]⟩, by omega, by first | rfl | (refine congrArg _ ?_; omega)⟩, hb3⟩
        case measure => first | (simp [intOf]; done) | (simp [intOf]; omega)
      · rw [szR_no c1]
        go_wp2_with fail
        go_ret
        exact ⟨ret_int (by simp only [szR]; split <;> omega), hb3.out⟩
    · obtain rfl : k = n := by omega
      go_wp2_with fail
      go_ret
      have hq2 : q = W := hq.out.trans HW.out
      exact ⟨ret_int (by simp only [szR]; split <;> omega), hbel.out⟩
set_option maxRecDepth 100000 in
set_option maxHeartbeats 1000000 in
theorem eqLinkActS (xs : List ALinkAct) (ih : ∀ x ∈ xs, ∀ (ca cb : List Value) (w1 : World), RLinkAct.rd False w1 (Old w1) x ca → RLinkAct.rd False w1 (Old w1) x cb → RLinkAct.ok x → Calls Try.prog 122 #[.agg ca.toArray, .agg cb.toArray] w1 fun e w2 => e = .returned (.bool true) ∧ Below w1.heap.size w1 w2)
    (va vb : Value) (w : World) (ha : RLinkAct.sl.rd False w (Old w) xs [va]) (hb : RLinkAct.sl.rd False w (Old w) xs [vb]) (ho : RLinkAct.sl.ok xs) :
    Calls Try.prog 49 #[va, vb] w fun e w2 => e = .returned (.bool true) ∧ Below w.heap.size w w2 := by
  obtain ⟨a1, cap1, he, hcap1, ha1⟩ := ha
  injection he with he _
  subst he
  obtain ⟨a2, cap2, he, hcap2, ha2⟩ := hb
  injection he with he _
  subst he
  have hn : xs.length ≤ 9223372036854775807 := ho.1
  have HO := Aside.mk ho.2
  have HIH := Aside.mk ih
  have HA := Aside.mk ha1
  have HB := Aside.mk ha2
  obtain ⟨n, hln⟩ : ∃ n, n = xs.length := ⟨_, rfl⟩
  rw [← hln] at hn hcap1 hcap2 ⊢
  have HL := Aside.mk hln
  clear ho ih ha1 ha2 hln
  go_enter Try.func49, Try.ntmps49
  go_wp2_with fail
  go_loopw [5] (fun i wr => ∃ k : Nat, k ≤ n ∧ i = .int .i64 k ∧ Aside (Below w.heap.size w wr)) (fun i _ => n - (intOf i).toNat)
  case atStart => exact ⟨0, Nat.zero_le _, rfl, ⟨Below.refl _ _⟩⟩
  case round =>
    obtain ⟨k, hk, rfl, hbel⟩ := hrel
    by_cases hlt : k < n
    · have hlt2 : k < xs.length := by rw [← HL.out]; exact hlt
      rcases HA.out with h0 | ⟨b1, o1, rfl, hb1, f1, hf1, -, hrow1⟩
      · exfalso; rw [h0] at hlt2; exact absurd hlt2 (Nat.not_lt_zero _)
      obtain ⟨cs1, hr1, hc1⟩ := hrow1 k hlt2
      obtain ⟨c0, c1, c2, rfl⟩ := shapeLinkAct hr1
      rcases HB.out with h0 | ⟨b2, o2, rfl, hb2, f2, hf2, -, hrow2⟩
      · exfalso; rw [h0] at hlt2; exact absurd hlt2 (Nat.not_lt_zero _)
      obtain ⟨cs2, hr2, hc2⟩ := hrow2 k hlt2
      obtain ⟨v0, v1, v2, rfl⟩ := shapeLinkAct hr2
      have hbel2 := hbel.out
      have d10 : wr.cell? ⟨b1, o1 + k * 3, none⟩ = some (.int .i64 c0) := (hbel2.cell (p := ⟨b1, o1 + k * 3 + 0, none⟩) hb1).trans (hc1 0 (by decide))
      have d11 : wr.cell? ⟨b1, o1 + k * 3 + 1, none⟩ = some (.int .i64 c1) := (hbel2.cell (p := ⟨b1, o1 + k * 3 + 1, none⟩) hb1).trans (hc1 1 (by decide))
      have d12 : wr.cell? ⟨b1, o1 + k * 3 + 2, none⟩ = some (.string c2) := (hbel2.cell (p := ⟨b1, o1 + k * 3 + 2, none⟩) hb1).trans (hc1 2 (by decide))
      have d20 : wr.cell? ⟨b2, o2 + k * 3, none⟩ = some (.int .i64 v0) := (hbel2.cell (p := ⟨b2, o2 + k * 3 + 0, none⟩) hb2).trans (hc2 0 (by decide))
      have d21 : wr.cell? ⟨b2, o2 + k * 3 + 1, none⟩ = some (.int .i64 v1) := (hbel2.cell (p := ⟨b2, o2 + k * 3 + 1, none⟩) hb2).trans (hc2 1 (by decide))
      have d22 : wr.cell? ⟨b2, o2 + k * 3 + 2, none⟩ = some (.string v2) := (hbel2.cell (p := ⟨b2, o2 + k * 3 + 2, none⟩) hb2).trans (hc2 2 (by decide))
      have HR1 := Aside.mk (RLinkAct.up (w1 := wr.drew) (RLinkAct.mono hr1 (fun c hc => (hf1 k c hc).1)) (fun _ h => h) hbel2.drew)
      have HR2 := Aside.mk (RLinkAct.up (w1 := wr.drew) (RLinkAct.mono hr2 (fun c hc => (hf2 k c hc).1)) (fun _ h => h) hbel2.drew)
      clear hc1 hrow1 hf1 hr1 hc2 hrow2 hf2 hr2 hbel2
      go_wp2_with fail
      go_still_tail 8, (by kernel_rfl)
      change wpList _ _ _ _ _ wr.drew
      go_wp2_with fail
      refine (HIH.out xs[k] (List.getElem_mem hlt2) [.int .i64 c0, .int .i64 c1, .string c2] [.int .i64 v0, .int .i64 v1, .string v2] _ HR1.out HR2.out (HO.out _ (List.getElem_mem hlt2))).mono ?_
      rintro e w2 ⟨rfl, hb2⟩
      have hb3 := Aside.mk (below_later hbel.out.drew hb2)
      clear d10 d20 d11 d21 d12 d22 HR1 HR2 hb2 hbel
      go_wp2_with fail
      go_roundw
      case rel => exact ⟨k + 1, by omega, by go_num, hb3⟩
      case measure => first | (simp [intOf]; done) | (simp [intOf]; omega)
    · obtain rfl : k = n := by omega
      go_wp2_with fail
      go_ret
      exact ⟨rfl, hbel.out⟩
theorem opensLinkAct {H : Type} {enc : TypeId × Value → H} (n : Nat) : OpensAt enc Try.prog n 148 RLinkAct :=
  opens_struct Try.underlying148 (by kernel_rfl) (fun m _ => (opensF_cons rfl (by kernel_rfl) (opens_int Try.underlying3) (opensF_cons rfl (by kernel_rfl) (opens_int Try.underlying3) (opensF_one rfl (by kernel_rfl) (opens_str Try.underlying9)))))
end Go.Proofs.Ytdldgchkinflmaa.Lib
