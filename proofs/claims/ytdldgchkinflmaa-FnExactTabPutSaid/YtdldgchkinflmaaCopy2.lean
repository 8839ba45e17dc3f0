/- Walk of the reference's l01Copy. Conditions: those of each theorem. -/
import Derived.Test.YtdldgchkinflmaaCopy
import Derived.Test.YtdldgchkinflmaaGrowR
set_option linter.unusedVariables false
namespace Go.Proofs.Ytdldgchkinflmaa.Fn
open Go.RowKit Go.Proofs.Ytdldgchkinflmaa.Lib Go.Proofs.Ytdldgchkinflmaa.Plan

set_option maxRecDepth 100000 in
set_option maxHeartbeats 2000000 in
theorem l01Copy (a : T) : CopyOK 77 a := by
  induction a using T.ind with
  | h a0 a1 a2 a3 ih =>
  intro cs w h hw
  obtain ⟨A3, c3, rfl, h3⟩ := Rec.term_iff.1 h
  change Rec.term.sl.rd False w (Old w) a3 [.slice A3 a3.length c3] at h3
  obtain ⟨_, _, he, hcap, hsl⟩ := h3
  injection he with he _
  injection he with e1 e2 e3
  subst e1 e3
  have hw3 := Rec.term_wt (.mk a0 a1 a2 a3)
  change _ = a2.size + Rec.term.sl.wt a3 at hw3
  have W3 : Rec.term.sl.wt a3 ≤ 1073741824 := by omega
  have hn1 : a3.length ≤ 1073741824 := Nat.le_trans (Nat.le_add_right _ _) W3
  have HS := Aside.mk (fun (j : Nat) (h : j < a3.length) => Nat.le_trans (wt_le Rec.term a3 j h) (Nat.le_trans (Nat.le_add_left _ _) W3))
  have HA := Aside.mk hsl
  have HIH := Aside.mk ih
  obtain ⟨i0, hi0, hz0, hz1, hz2⟩ := info_parts infoTerm
  have HI := Aside.mk hi0
  have HZ := Aside.mk hz0
  have HZ1 := Aside.mk hz1
  have HZ2 := Aside.mk hz2
  obtain ⟨n, hl⟩ : ∃ n, n = a3.length := ⟨_, rfl⟩
  have HL := Aside.mk hl
  show Calls Try.prog 77 #[.agg #[.int .i64 a0, .int .i64 a1, .string a2, .slice A3 a3.length c3]] w _
  rw [← hl] at hn1 hcap ⊢
  have K0 := Aside.mk (((Blk.new w 26 [.int .i64 a0, .int .i64 a1, .string a2, .slice A3 n c3]).alloc (.cells #[.int .i64 0, .int .i64 0, .string ⟨#[]⟩, .slice none 0 0] 26)).alloc (.cells #[] 26))
  have K1 := Aside.mk ((Blk.made (w.alloc (.cells #[.int .i64 a0, .int .i64 a1, .string a2, .slice A3 n c3] 26)) 26 [.int .i64 0, .int .i64 0, .string ⟨#[]⟩, .slice none 0 0] (g := w.heap.size + 1) (by simp)).alloc (.cells #[] 26))
  have G0 := Aside.mk ((Grow.empty (R := Rec.term) (E := 26) (tr := True) (base := w.heap.size + 2) (wr := (w.alloc (.cells #[.int .i64 a0, .int .i64 a1, .string a2, .slice A3 n c3] 26)).alloc (.cells #[.int .i64 0, .int .i64 0, .string ⟨#[]⟩, .slice none 0 0] 26)) (g := w.heap.size + 1 + 1) (by simp) (by simp)).top)
  have B0 : Aside (Below w.heap.size w (((w.alloc (.cells #[.int .i64 a0, .int .i64 a1, .string a2, .slice A3 n c3] 26)).alloc (.cells #[.int .i64 0, .int .i64 0, .string ⟨#[]⟩, .slice none 0 0] 26)).alloc (.cells #[] 26))) := ⟨by go_grown⟩
  clear hsl ih hw3 W3 hw h hl hi0 hz0 hz1 hz2
  go_enter Try.func77, Try.ntmps77
  go_wp2_with fail
  go_loopw [3, 4] (fun v iv wr => ∃ k : Nat, k ≤ n ∧ iv = .int .i64 k ∧ Aside (Blk wr w.heap.size 26 [.int .i64 a0, .int .i64 a1, .string a2, .slice A3 n c3]) ∧ Aside (Blk wr (w.heap.size + 1) 26 [.int .i64 0, .int .i64 0, .string ⟨#[]⟩, .slice none 0 0]) ∧ Aside (Below w.heap.size w wr) ∧ Aside (Grow Rec.term 26 True (w.heap.size + 2) wr.heap.size wr (a3.take k) v)) (fun _ iv _ => n - (intOf iv).toNat)
  case atStart => exact ⟨0, Nat.zero_le _, rfl, K0, K1, B0, G0⟩
  case round =>
    obtain ⟨k, hk, rfl, hk0, hk1, hb, hg⟩ := hrel
    clear K0 K1 B0 G0
    have y0 := hk0.out.cell 0
    have y1 := hk0.out.cell 1
    have y2 := hk0.out.cell 2
    have y3 := hk0.out.cell 3
    simp only [List.getElem?_cons_zero, List.getElem?_cons_succ] at y0 y1 y2 y3
    by_cases hlt : k < n
    · have hlt2 : k < a3.length := by rw [← HL.out]; exact hlt
      rcases HA.out with h0 | ⟨b, o, rfl, hbo, f, hf, -, hrow⟩
      · exfalso; rw [h0] at hlt2; exact absurd hlt2 (Nat.not_lt_zero _)
      obtain ⟨cs, hr, hc⟩ := hrow k hlt2
      obtain ⟨c0, c1, c2, c3a, c3b, c3c, rfl⟩ := shapeTerm hr
      have hbel := hb.out
      have d0 : wr.cell? ⟨b, o + k * 4, none⟩ = some (.int .i64 c0) := (hbel.cell (p := ⟨b, o + k * 4 + 0, none⟩) hbo).trans (hc 0 (by decide))
      have d1 : wr.cell? ⟨b, o + k * 4 + 1, none⟩ = some (.int .i64 c1) := (hbel.cell (p := ⟨b, o + k * 4 + 1, none⟩) hbo).trans (hc 1 (by decide))
      have d2 : wr.cell? ⟨b, o + k * 4 + 2, none⟩ = some (.string c2) := (hbel.cell (p := ⟨b, o + k * 4 + 2, none⟩) hbo).trans (hc 2 (by decide))
      have d3 : wr.cell? ⟨b, o + k * 4 + 3, none⟩ = some (.slice c3a c3b c3c) := (hbel.cell (p := ⟨b, o + k * 4 + 3, none⟩) hbo).trans (hc 3 (by decide))
      have HR := Aside.mk (Rec.term.up (Rec.term.mono hr (fun c hc => (hf k c hc).1)) (fun _ h => h) hbel)
      clear hc hrow hf hbel hr
      go_wp2_with fail
      refine (HIH.out a3[k] (List.getElem_mem hlt2) [.int .i64 c0, .int .i64 c1, .string c2, .slice c3a c3b c3c] _ HR.out (HS.out k hlt2)).mono ?_
      rintro e w2 ⟨cs2, rfl, hr2, hb2⟩
      obtain ⟨v0, v1, v2, v3a, v3b, v3c, rfl⟩ := shapeTerm hr2
      have hk0n := Aside.mk (hk0.out.below hb2)
      have hk1n := Aside.mk (hk1.out.below hb2)
      have hbn := Aside.mk (below_later hb.out hb2)
      have hgn := Aside.mk (hg.out.below hb2)
      have hsz : wr.heap.size ≤ w2.heap.size := hb2.size
      have hgt : w.heap.size + 2 ≤ wr.heap.size := hk1.out.lt
      have hr3 := Aside.mk hr2
      obtain ⟨Av, cv, rfl, hcv⟩ := hg.out.shape
      have hlk : (a3.take k).length = k := List.length_take_of_le (by omega)
      have HLK := Aside.mk hlk
      have hgo := Aside.mk (fun g (hg' : (Value.slice Av (a3.take k).length cv).ownBlock = some g) => hg.out.1.2 g hg')
      rw [hlk] at hcv ⊢
      clear hlk hb2 hr2 d0 d1 d2 d3 HR y0 y1 y2 y3 hk0 hk1 hb hg
      go_wp2_with (at_builtin; (refine wpList_grow (R := Rec.term) (E := 26) (tr := True) (base := w.heap.size + 2) (top := wr.heap.size) rfl _ _ 24 rfl i0 _ 56 Try.underlying24 HI.out HZ.out HZ1.out HZ2.out rfl (by decide) (v := .slice Av k cv) (xs := a3.take k) (y := a3[k]) rfl (by have := hgn.out; rwa [HLK.out] at this) ?c1 26 [.int .i64 v0, .int .i64 v1, .string v2, .slice v3a v3b v3c] rfl hr3.out ?c2 k HLK.out (a3.take (k + 1)) (List.take_succ_eq_append_getElem hlt2).symm ?c3 ?c4 ?c5 ?_))
      case c1 => omega
      case c2 =>
        intro c hc
        have h1 := hc.1
        have h2 := hc.2
        refine ⟨h2, fun e => ?_, fun _ => ⟨by omega, h1⟩⟩
        have := hgo.out c (by rw [HLK.out]; exact e)
        omega
      case c3 => intro u hu; simp at hu; rcases hu with rfl | rfl | rfl | rfl <;> rfl
      case c4 => unfold maxLen; omega
      case c5 => omega
      intro g cap w4 hg4 hb4 hcap4 hbg hs4
      have hk04 := Aside.mk (show Blk w4 _ _ _ from (hb4.block _ (by omega)).trans hk0n.out)
      have hk14 := Aside.mk (show Blk w4 _ _ _ from (hb4.block _ (by omega)).trans hk1n.out)
      have hb44 : Aside (Below w.heap.size w w4) := ⟨hbn.out.trans (hb4.mono (by omega))⟩
      clear hb4 hk0n hk1n hbn hgn hr3 hgo
      go_wp2_with fail
      go_roundw
      case rel => exact ⟨k + 1, by omega, by go_num, hk04, hk14, hb44, hg4⟩
      case measure => first | (simp [intOf]; done) | (simp [intOf]; omega)
    · obtain rfl : k = n := by omega
      obtain ⟨Av, cv, rfl, hcv⟩ := hg.out.shape
      have htk : Aside (a3.take k = a3) := ⟨by rw [HL.out, List.take_length]⟩
      have hg2 : Aside (Rec.term.sl.rd True wr (Span (w.heap.size + 2) wr.heap.size) a3 [.slice Av k cv]) := ⟨by have := hg.out.span; rw [htk.out, ← HL.out] at this; exact this⟩
      rw [htk.out, ← HL.out]
      have x0 := hk1.out.cell 0
      have x1 := hk1.out.cell 1
      have x2 := hk1.out.cell 2
      have x3 := hk1.out.cell 3
      simp only [List.getElem?_cons_zero, List.getElem?_cons_succ] at x0 x1 x2 x3
      have z0 := hk0.out.free 3
      have f0 := hk1.out.free 0
      have f1 := hk1.out.free 1
      have f2 := hk1.out.free 2
      have f3 := hk1.out.free 3
      have hgt : w.heap.size + 2 ≤ wr.heap.size := hk1.out.lt
      clear hg
      go_wp2_with fail
      have k1 := hk1.out
      have bel := hb.out
      refine bodyPost_ret (res_c rfl _ _ (w.heap.size + 1) 26 [.int .i64 a0, .int .i64 a1, .string a2, .slice Av k cv] _ rfl ?k Try.underlying26 rfl (by kernel_rfl)) rfl ⟨_, rfl, ?r, ?b⟩
      case k => exact (((((k1.far (by simp) _).set 0 _).set 1 _).set 2 _).set 3 _)
      case b => go_grown
      case r =>
        have hr := hg2.out
        rw [HL.out] at hr ⊢
        exact Rec.term_iff.2 ⟨_, _, rfl, Rec.term.sl.mono (Rec.term.sl.over hr (fun b h1 h2 => by rw [heap_far (by omega)]; rw [heap_far (by omega)]; rw [heap_far (by omega)]; rw [heap_far (by omega)]; rw [heap_far (by omega)])) (fun b h => by simp [Span] at h ⊢ <;> omega)⟩
end Go.Proofs.Ytdldgchkinflmaa.Fn
