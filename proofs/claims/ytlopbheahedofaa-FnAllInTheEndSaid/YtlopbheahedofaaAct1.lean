/- Walk of l13DrawActs: a row of acts is made. Conditions: those of each theorem. -/
import Derived.Test.YtlopbheahedofaaAct0
set_option linter.unusedVariables false
namespace Go.Proofs.Ytlopbheahedofaa.Fn
open Go Go.RowKit Go.Proofs.Ytlopbheahedofaa.Lib Go.Proofs.Ytlopbheahedofaa.Plan

def someTexts : List Value := [.string ⟨#[]⟩, .string ⟨#[111, 110, 101]⟩, .string ⟨#[116, 119, 111]⟩, .string ⟨#[116, 104, 114, 101, 101]⟩, .string ⟨#[120]⟩]
theorem someTexts_at (k : Nat) (hk : k < someTexts.length) : ∃ s : ByteArray, someTexts[k] = .string s ∧ s.size ≤ 1001 := by
  have hk2 : k < 5 := hk
  match k, hk2 with
  | 0, _ | 1, _ | 2, _ | 3, _ | 4, _ => exact ⟨_, rfl, by decide⟩
set_option maxRecDepth 100000 in
set_option maxHeartbeats 8000000 in
theorem drawActs (g : Nat) (A : Option Addr) (n c : Nat) (top : Int) (m : Nat) (w : World) (h : CurOK w g A n c top) (hA : 0 < n → ∀ b o, A = some ⟨b, o, none⟩ → b < w.heap.size) (hn : n ≤ 1048576) (ht : top ≤ 1000000) (hm : m ≤ 100) :
    Calls Try.prog 17 #[.pointer (some ⟨g, 0, none⟩), .int .i64 m] w fun e w' => ∃ v acts, e = .returned v ∧ ActsAt w' w.heap.size v acts ∧ acts.length = m ∧ But (AtG g) w w' ∧ CurOK w' g A n c (top + 10 * m) := by
  have hg : g < w.heap.size := by obtain ⟨k, s, h1, -⟩ := h; exact h1.lt
  have HC := Aside.mk (h.below ((Below.refl w.heap.size w).alloc (Nat.le_refl _) (.cells #[] 34)))
  have HA := Aside.mk hA
  have HB : Aside (But (AtG g) w (w.alloc (.cells #[] 34))) := ⟨But.below (by go_grown)⟩
  have HT := Aside.mk (ActsAt.empty w (Nat.le_refl w.heap.size))
  have hM : (m : Int) ≤ 100 := by omega
  clear h hA
  go_enter Try.func17, Try.ntmps17
  go_wp2_with fail
  go_loopw [5, 6] (fun v iv wr => ∃ (k q : Nat) (t : Int) (acts : List ALinkAct), k + q = m ∧ iv = .int .i64 k ∧ t = top + 10 * q ∧ Aside (acts.length = q) ∧ Aside (ActsAt wr w.heap.size v acts) ∧ Aside (But (AtG g) w wr) ∧ Aside (CurOK wr g A n c t)) (fun _ iv _ => (intOf iv).toNat)
  case atStart => exact ⟨m, 0, top, [], by omega, rfl, by omega, ⟨rfl⟩, HT, HB, HC⟩
  case round =>
    rename_i v _
    obtain ⟨k, q, t, acts, hkq, rfl, ht1, hq, hat, hbt, hcu⟩ := hrel
    clear HC HB HT
    by_cases hlt : 0 < k
    rotate_left
    · obtain rfl : k = 0 := by omega
      go_wp2_with fail
      go_ret
      exact ⟨_, acts, rfl, hat.out, by rw [hq.out]; omega, hbt.out, hcu.out.mono (by omega)⟩
    have hlt2 : 0 < (k : Int) := by omega
    have ht2 : t ≤ 1001000 := by omega
    have HT1 := Aside.mk ht1
    clear ht1
    obtain ⟨A5, cap5, rfl, hcap5, -⟩ := own_shape hat.out.own
    have hat2 : Aside (ActsAt wr w.heap.size (.slice A5 q cap5) acts) := ⟨by have := hat.out; rwa [hq.out] at this⟩
    rw [hq.out] at hcap5
    rw [hq.out]
    clear hat
    obtain ⟨i0, hi0, iz0, iz1, iz2⟩ := info_parts infoAct
    have HI := Aside.mk hi0
    have HI0 := Aside.mk iz0
    have HI1 := Aside.mk iz1
    have HI2 := Aside.mk iz2
    clear hi0 iz0 iz1 iz2
    go_wp2_with fail
    refine (curPick g A n c t 10 9 _ hcu.out hn (by omega) (by omega) (by omega) (by omega)).mono ?_
    rintro e w1 ⟨r, rfl, h0, h1, hb, hc⟩
    have HB1 := Aside.mk (hbt.out.trans hb)
    have HC1 := Aside.mk hc
    have HT2 := Aside.mk (hat2.out.but hb hg)
    clear hb hc hbt hcu hat2
    have cs : r = 0 ∨ r = 1 ∨ r = 2 ∨ r = 3 ∨ r = 4 ∨ r = 5 ∨ r = 6 ∨ r = 7 ∨ r = 8 ∨ r = 9 := by omega
    rcases cs with rfl | rfl | rfl | rfl | rfl | rfl | rfl | rfl | rfl | rfl
    · skip
      go_wp2_with fail
      have hlw : But (AtG g) w1 (w1.alloc (.cells someTexts.toArray 9)) := But.below (by go_grown)
      refine (curPick g A n c (t + 2) 5 4 _ (HC1.out.below (by go_grown)) hn (by omega) (by omega) (by omega) (by omega)).mono ?_
      rintro e w2 ⟨p, rfl, pa, pb, hb, hc⟩
      obtain ⟨x, rfl⟩ := Int.eq_ofNat_of_zero_le pa
      have hx : x < someTexts.length := by change x < 5; omega
      have hx2 : x < 5 := hx
      have hx3 : (x : Int) < 5 := by omega
      have hl1 : g < w1.heap.size := Nat.lt_of_lt_of_le hg HB1.out.size
      have hcell := lit_cell (h := w1.heap.size) (k := x) (T := 9) (l := someTexts) hb (by simp) (by omega) (Blk.new w1 9 someTexts) hx
      obtain ⟨s, hs, hsz⟩ := someTexts_at x hx
      rw [hs] at hcell
      have HB2 := Aside.mk ((HB1.out.trans hlw).trans hb)
      have HC2 := Aside.mk hc
      have HT3 := Aside.mk ((HT2.out.but hlw hg).but hb hg)
      have HSZ := Aside.mk hsz
      clear hb hc hs hsz hlw hx pa pb HB1 HC1 HT2
      have hbs : w.heap.size ≤ w2.heap.size := HB2.out.size
      obtain ⟨w8, A8, cap8, hrun, hown, hkeep, hb8, hnew, hs8, hc8⟩ := own_app (P := Try.prog) (t := 24) i0 _ Try.underlying24 HI.out HI0.out HI1.out HI2.out rfl (by decide) (show w2.ownsRow w.heap.size 34 3 (.slice A5 q cap5) q (cla acts) from by have := HT3.out.own; rwa [hq.out] at this) [.int .i64 1, .int .i64 (0), .string s] rfl (fun u hu => by simp at hu; rcases hu with rfl | rfl | rfl <;> rfl) (by unfold maxLen; omega) (by omega) hbs
      have HRUN := Aside.mk hrun
      have HT9 := Aside.mk (ActsAt.snoc (a := (1, 0, s)) hown hq.out.symm HT3.out.txt HSZ.out)
      have HB9 := Aside.mk (HB2.out.low hb8)
      have HC9 := Aside.mk (HC2.out.low hb8 hg HA.out)
      clear hrun hown hkeep hb8 hnew hs8 HB2 HC2 HT3
      go_wp2_with (at_builtin; refine Go.Lib.wpList_append_run _ rfl _ _ _ _ rfl _ _ rfl rfl _ _ HRUN.out ?_)
      go_roundw
      case rel => exact ⟨k - 1, q + 1, t + 10, acts ++ [(1, 0, s)], by omega, by go_num, by rw [HT1.out]; omega, ⟨by rw [List.length_append, hq.out]; rfl⟩, HT9, HB9, ⟨HC9.out.mono (by omega)⟩⟩
      case measure => first | (simp [intOf]; done) | (simp [intOf]; omega)
    · skip
      go_wp2_with fail
      have hlw : But (AtG g) w1 (w1.alloc (.cells someTexts.toArray 9)) := But.below (by go_grown)
      refine (curPick g A n c (t + 2) 5 4 _ (HC1.out.below (by go_grown)) hn (by omega) (by omega) (by omega) (by omega)).mono ?_
      rintro e w2 ⟨p, rfl, pa, pb, hb, hc⟩
      obtain ⟨x, rfl⟩ := Int.eq_ofNat_of_zero_le pa
      have hx : x < someTexts.length := by change x < 5; omega
      have hx2 : x < 5 := hx
      have hx3 : (x : Int) < 5 := by omega
      have hl1 : g < w1.heap.size := Nat.lt_of_lt_of_le hg HB1.out.size
      have hcell := lit_cell (h := w1.heap.size) (k := x) (T := 9) (l := someTexts) hb (by simp) (by omega) (Blk.new w1 9 someTexts) hx
      obtain ⟨s, hs, hsz⟩ := someTexts_at x hx
      rw [hs] at hcell
      have HB2 := Aside.mk ((HB1.out.trans hlw).trans hb)
      have HC2 := Aside.mk hc
      have HT3 := Aside.mk ((HT2.out.but hlw hg).but hb hg)
      have HSZ := Aside.mk hsz
      clear hb hc hs hsz hlw hx pa pb HB1 HC1 HT2
      have hbs : w.heap.size ≤ w2.heap.size := HB2.out.size
      obtain ⟨w8, A8, cap8, hrun, hown, hkeep, hb8, hnew, hs8, hc8⟩ := own_app (P := Try.prog) (t := 24) i0 _ Try.underlying24 HI.out HI0.out HI1.out HI2.out rfl (by decide) (show w2.ownsRow w.heap.size 34 3 (.slice A5 q cap5) q (cla acts) from by have := HT3.out.own; rwa [hq.out] at this) [.int .i64 1, .int .i64 (0), .string s] rfl (fun u hu => by simp at hu; rcases hu with rfl | rfl | rfl <;> rfl) (by unfold maxLen; omega) (by omega) hbs
      have HRUN := Aside.mk hrun
      have HT9 := Aside.mk (ActsAt.snoc (a := (1, 0, s)) hown hq.out.symm HT3.out.txt HSZ.out)
      have HB9 := Aside.mk (HB2.out.low hb8)
      have HC9 := Aside.mk (HC2.out.low hb8 hg HA.out)
      clear hrun hown hkeep hb8 hnew hs8 HB2 HC2 HT3
      go_wp2_with (at_builtin; refine Go.Lib.wpList_append_run _ rfl _ _ _ _ rfl _ _ rfl rfl _ _ HRUN.out ?_)
      go_roundw
      case rel => exact ⟨k - 1, q + 1, t + 10, acts ++ [(1, 0, s)], by omega, by go_num, by rw [HT1.out]; omega, ⟨by rw [List.length_append, hq.out]; rfl⟩, HT9, HB9, ⟨HC9.out.mono (by omega)⟩⟩
      case measure => first | (simp [intOf]; done) | (simp [intOf]; omega)
    · skip
      go_wp2_with fail
      have hlw : But (AtG g) w1 (w1.alloc (.cells someTexts.toArray 9)) := But.below (by go_grown)
      refine (curPick g A n c (t + 2) 5 4 _ (HC1.out.below (by go_grown)) hn (by omega) (by omega) (by omega) (by omega)).mono ?_
      rintro e w2 ⟨p, rfl, pa, pb, hb, hc⟩
      obtain ⟨x, rfl⟩ := Int.eq_ofNat_of_zero_le pa
      have hx : x < someTexts.length := by change x < 5; omega
      have hx2 : x < 5 := hx
      have hx3 : (x : Int) < 5 := by omega
      have hl1 : g < w1.heap.size := Nat.lt_of_lt_of_le hg HB1.out.size
      have hcell := lit_cell (h := w1.heap.size) (k := x) (T := 9) (l := someTexts) hb (by simp) (by omega) (Blk.new w1 9 someTexts) hx
      obtain ⟨s, hs, hsz⟩ := someTexts_at x hx
      rw [hs] at hcell
      have HB2 := Aside.mk ((HB1.out.trans hlw).trans hb)
      have HC2 := Aside.mk hc
      have HT3 := Aside.mk ((HT2.out.but hlw hg).but hb hg)
      have HSZ := Aside.mk hsz
      clear hb hc hs hsz hlw hx pa pb HB1 HC1 HT2
      have hbs : w.heap.size ≤ w2.heap.size := HB2.out.size
      obtain ⟨w8, A8, cap8, hrun, hown, hkeep, hb8, hnew, hs8, hc8⟩ := own_app (P := Try.prog) (t := 24) i0 _ Try.underlying24 HI.out HI0.out HI1.out HI2.out rfl (by decide) (show w2.ownsRow w.heap.size 34 3 (.slice A5 q cap5) q (cla acts) from by have := HT3.out.own; rwa [hq.out] at this) [.int .i64 1, .int .i64 (0), .string s] rfl (fun u hu => by simp at hu; rcases hu with rfl | rfl | rfl <;> rfl) (by unfold maxLen; omega) (by omega) hbs
      have HRUN := Aside.mk hrun
      have HT9 := Aside.mk (ActsAt.snoc (a := (1, 0, s)) hown hq.out.symm HT3.out.txt HSZ.out)
      have HB9 := Aside.mk (HB2.out.low hb8)
      have HC9 := Aside.mk (HC2.out.low hb8 hg HA.out)
      clear hrun hown hkeep hb8 hnew hs8 HB2 HC2 HT3
      go_wp2_with (at_builtin; refine Go.Lib.wpList_append_run _ rfl _ _ _ _ rfl _ _ rfl rfl _ _ HRUN.out ?_)
      go_roundw
      case rel => exact ⟨k - 1, q + 1, t + 10, acts ++ [(1, 0, s)], by omega, by go_num, by rw [HT1.out]; omega, ⟨by rw [List.length_append, hq.out]; rfl⟩, HT9, HB9, ⟨HC9.out.mono (by omega)⟩⟩
      case measure => first | (simp [intOf]; done) | (simp [intOf]; omega)
    · skip
      have hbs : w.heap.size ≤ w1.heap.size := HB1.out.size
      obtain ⟨w8, A8, cap8, hrun, hown, hkeep, hb8, hnew, hs8, hc8⟩ := own_app (P := Try.prog) (t := 24) i0 _ Try.underlying24 HI.out HI0.out HI1.out HI2.out rfl (by decide) (show w1.ownsRow w.heap.size 34 3 (.slice A5 q cap5) q (cla acts) from by have := HT2.out.own; rwa [hq.out] at this) [.int .i64 2, .int .i64 (0), .string ⟨#[]⟩] rfl (fun u hu => by simp at hu; rcases hu with rfl | rfl | rfl <;> rfl) (by unfold maxLen; omega) (by omega) hbs
      have HRUN := Aside.mk hrun
      have HT9 := Aside.mk (ActsAt.snoc (a := (2, 0, ⟨#[]⟩)) hown hq.out.symm HT2.out.txt (show ByteArray.size ⟨#[]⟩ ≤ 1001 by decide))
      have HB9 := Aside.mk (HB1.out.low hb8)
      have HC9 := Aside.mk (HC1.out.low hb8 hg HA.out)
      clear hrun hown hkeep hb8 hnew hs8 HB1 HC1 HT2
      go_wp2_with (at_builtin; refine Go.Lib.wpList_append_run _ rfl _ _ _ _ rfl _ _ rfl rfl _ _ HRUN.out ?_)
      go_roundw
      case rel => exact ⟨k - 1, q + 1, t + 10, acts ++ [(2, 0, ⟨#[]⟩)], by omega, by go_num, by rw [HT1.out]; omega, ⟨by rw [List.length_append, hq.out]; rfl⟩, HT9, HB9, ⟨HC9.out.mono (by omega)⟩⟩
      case measure => first | (simp [intOf]; done) | (simp [intOf]; omega)
    · skip
      go_wp2_with fail
      refine (curPick g A n c (t + 2) 4 3 _ HC1.out hn (by omega) (by omega) (by omega) (by omega)).mono ?_
      rintro e w2 ⟨p2, rfl, p2a, p2b, hb, hc⟩
      have HB2 := Aside.mk (HB1.out.trans hb)
      have HC2 := Aside.mk hc
      have HT3 := Aside.mk (HT2.out.but hb hg)
      clear hb hc HB1 HC1 HT2
      have hbs : w.heap.size ≤ w2.heap.size := HB2.out.size
      obtain ⟨w8, A8, cap8, hrun, hown, hkeep, hb8, hnew, hs8, hc8⟩ := own_app (P := Try.prog) (t := 24) i0 _ Try.underlying24 HI.out HI0.out HI1.out HI2.out rfl (by decide) (show w2.ownsRow w.heap.size 34 3 (.slice A5 q cap5) q (cla acts) from by have := HT3.out.own; rwa [hq.out] at this) [.int .i64 4, .int .i64 (p2), .string ⟨#[]⟩] rfl (fun u hu => by simp at hu; rcases hu with rfl | rfl | rfl <;> rfl) (by unfold maxLen; omega) (by omega) hbs
      have HRUN := Aside.mk hrun
      have HT9 := Aside.mk (ActsAt.snoc (a := (4, p2, ⟨#[]⟩)) hown hq.out.symm HT3.out.txt (show ByteArray.size ⟨#[]⟩ ≤ 1001 by decide))
      have HB9 := Aside.mk (HB2.out.low hb8)
      have HC9 := Aside.mk (HC2.out.low hb8 hg HA.out)
      clear hrun hown hkeep hb8 hnew hs8 HB2 HC2 HT3
      go_wp2_with (at_builtin; refine Go.Lib.wpList_append_run _ rfl _ _ _ _ rfl _ _ rfl rfl _ _ HRUN.out ?_)
      go_roundw
      case rel => exact ⟨k - 1, q + 1, t + 10, acts ++ [(4, p2, ⟨#[]⟩)], by omega, by go_num, by rw [HT1.out]; omega, ⟨by rw [List.length_append, hq.out]; rfl⟩, HT9, HB9, ⟨HC9.out.mono (by omega)⟩⟩
      case measure => first | (simp [intOf]; done) | (simp [intOf]; omega)
    · skip
      go_wp2_with fail
      refine (curPick g A n c (t + 2) 4 3 _ HC1.out hn (by omega) (by omega) (by omega) (by omega)).mono ?_
      rintro e w2 ⟨p2, rfl, p2a, p2b, hb, hc⟩
      have HB2 := Aside.mk (HB1.out.trans hb)
      have HC2 := Aside.mk hc
      have HT3 := Aside.mk (HT2.out.but hb hg)
      clear hb hc HB1 HC1 HT2
      have hbs : w.heap.size ≤ w2.heap.size := HB2.out.size
      obtain ⟨w8, A8, cap8, hrun, hown, hkeep, hb8, hnew, hs8, hc8⟩ := own_app (P := Try.prog) (t := 24) i0 _ Try.underlying24 HI.out HI0.out HI1.out HI2.out rfl (by decide) (show w2.ownsRow w.heap.size 34 3 (.slice A5 q cap5) q (cla acts) from by have := HT3.out.own; rwa [hq.out] at this) [.int .i64 5, .int .i64 (p2), .string ⟨#[]⟩] rfl (fun u hu => by simp at hu; rcases hu with rfl | rfl | rfl <;> rfl) (by unfold maxLen; omega) (by omega) hbs
      have HRUN := Aside.mk hrun
      have HT9 := Aside.mk (ActsAt.snoc (a := (5, p2, ⟨#[]⟩)) hown hq.out.symm HT3.out.txt (show ByteArray.size ⟨#[]⟩ ≤ 1001 by decide))
      have HB9 := Aside.mk (HB2.out.low hb8)
      have HC9 := Aside.mk (HC2.out.low hb8 hg HA.out)
      clear hrun hown hkeep hb8 hnew hs8 HB2 HC2 HT3
      go_wp2_with (at_builtin; refine Go.Lib.wpList_append_run _ rfl _ _ _ _ rfl _ _ rfl rfl _ _ HRUN.out ?_)
      go_roundw
      case rel => exact ⟨k - 1, q + 1, t + 10, acts ++ [(5, p2, ⟨#[]⟩)], by omega, by go_num, by rw [HT1.out]; omega, ⟨by rw [List.length_append, hq.out]; rfl⟩, HT9, HB9, ⟨HC9.out.mono (by omega)⟩⟩
      case measure => first | (simp [intOf]; done) | (simp [intOf]; omega)
    · skip
      go_wp2_with fail
      refine (curPick g A n c (t + 2) 2 1 _ HC1.out hn (by omega) (by omega) (by omega) (by omega)).mono ?_
      rintro e w2 ⟨p2, rfl, p2a, p2b, hb, hc⟩
      have HB2 := Aside.mk (HB1.out.trans hb)
      have HC2 := Aside.mk hc
      have HT3 := Aside.mk (HT2.out.but hb hg)
      clear hb hc HB1 HC1 HT2
      go_wp2_with fail
      refine (curPick g A n c (t + 2 + 2) 5 4 _ HC2.out hn (by omega) (by omega) (by omega) (by omega)).mono ?_
      rintro e w3 ⟨p3, rfl, p3a, p3b, hb, hc⟩
      have HB3 := Aside.mk (HB2.out.trans hb)
      have HC3 := Aside.mk hc
      have HT4 := Aside.mk (HT3.out.but hb hg)
      clear hb hc HB2 HC2 HT3
      have hp : 0 ≤ p2 * p3 := Int.mul_nonneg p2a p3a
      have hp2 : p2 * p3 ≤ 1 * 4 := Int.mul_le_mul p2b p3b p3a (by omega)
      have ew : IntKind.i64.wrap (p2 * p3) = p2 * p3 := by rw [IntKind.wrap_i64]; omega
      have hbs : w.heap.size ≤ w3.heap.size := HB3.out.size
      obtain ⟨w8, A8, cap8, hrun, hown, hkeep, hb8, hnew, hs8, hc8⟩ := own_app (P := Try.prog) (t := 24) i0 _ Try.underlying24 HI.out HI0.out HI1.out HI2.out rfl (by decide) (show w3.ownsRow w.heap.size 34 3 (.slice A5 q cap5) q (cla acts) from by have := HT4.out.own; rwa [hq.out] at this) [.int .i64 3, .int .i64 (p2 * p3), .string ⟨#[]⟩] rfl (fun u hu => by simp at hu; rcases hu with rfl | rfl | rfl <;> rfl) (by unfold maxLen; omega) (by omega) hbs
      have HRUN := Aside.mk hrun
      have HT9 := Aside.mk (ActsAt.snoc (a := (3, p2 * p3, ⟨#[]⟩)) hown hq.out.symm HT4.out.txt (show ByteArray.size ⟨#[]⟩ ≤ 1001 by decide))
      have HB9 := Aside.mk (HB3.out.low hb8)
      have HC9 := Aside.mk (HC3.out.low hb8 hg HA.out)
      clear hrun hown hkeep hb8 hnew hs8 HB3 HC3 HT4
      go_wp2_with (at_builtin; refine Go.Lib.wpList_append_run _ rfl _ _ _ _ rfl _ _ rfl rfl _ _ HRUN.out ?_)
      go_roundw
      case rel => exact ⟨k - 1, q + 1, t + 10, acts ++ [(3, p2 * p3, ⟨#[]⟩)], by omega, by go_num, by rw [HT1.out]; omega, ⟨by rw [List.length_append, hq.out]; rfl⟩, HT9, HB9, ⟨HC9.out.mono (by omega)⟩⟩
      case measure => first | (simp [intOf]; done) | (simp [intOf]; omega)
    · skip
      go_wp2_with fail
      refine (curPick g A n c (t + 2) 2 1 _ HC1.out hn (by omega) (by omega) (by omega) (by omega)).mono ?_
      rintro e w2 ⟨p2, rfl, p2a, p2b, hb, hc⟩
      have HB2 := Aside.mk (HB1.out.trans hb)
      have HC2 := Aside.mk hc
      have HT3 := Aside.mk (HT2.out.but hb hg)
      clear hb hc HB1 HC1 HT2
      go_wp2_with fail
      refine (curPick g A n c (t + 2 + 2) 5 4 _ HC2.out hn (by omega) (by omega) (by omega) (by omega)).mono ?_
      rintro e w3 ⟨p3, rfl, p3a, p3b, hb, hc⟩
      have HB3 := Aside.mk (HB2.out.trans hb)
      have HC3 := Aside.mk hc
      have HT4 := Aside.mk (HT3.out.but hb hg)
      clear hb hc HB2 HC2 HT3
      have hp : 0 ≤ p2 * p3 := Int.mul_nonneg p2a p3a
      have hp2 : p2 * p3 ≤ 1 * 4 := Int.mul_le_mul p2b p3b p3a (by omega)
      have ew : IntKind.i64.wrap (p2 * p3) = p2 * p3 := by rw [IntKind.wrap_i64]; omega
      have hbs : w.heap.size ≤ w3.heap.size := HB3.out.size
      obtain ⟨w8, A8, cap8, hrun, hown, hkeep, hb8, hnew, hs8, hc8⟩ := own_app (P := Try.prog) (t := 24) i0 _ Try.underlying24 HI.out HI0.out HI1.out HI2.out rfl (by decide) (show w3.ownsRow w.heap.size 34 3 (.slice A5 q cap5) q (cla acts) from by have := HT4.out.own; rwa [hq.out] at this) [.int .i64 3, .int .i64 (p2 * p3), .string ⟨#[]⟩] rfl (fun u hu => by simp at hu; rcases hu with rfl | rfl | rfl <;> rfl) (by unfold maxLen; omega) (by omega) hbs
      have HRUN := Aside.mk hrun
      have HT9 := Aside.mk (ActsAt.snoc (a := (3, p2 * p3, ⟨#[]⟩)) hown hq.out.symm HT4.out.txt (show ByteArray.size ⟨#[]⟩ ≤ 1001 by decide))
      have HB9 := Aside.mk (HB3.out.low hb8)
      have HC9 := Aside.mk (HC3.out.low hb8 hg HA.out)
      clear hrun hown hkeep hb8 hnew hs8 HB3 HC3 HT4
      go_wp2_with (at_builtin; refine Go.Lib.wpList_append_run _ rfl _ _ _ _ rfl _ _ rfl rfl _ _ HRUN.out ?_)
      go_roundw
      case rel => exact ⟨k - 1, q + 1, t + 10, acts ++ [(3, p2 * p3, ⟨#[]⟩)], by omega, by go_num, by rw [HT1.out]; omega, ⟨by rw [List.length_append, hq.out]; rfl⟩, HT9, HB9, ⟨HC9.out.mono (by omega)⟩⟩
      case measure => first | (simp [intOf]; done) | (simp [intOf]; omega)
    · skip
      go_wp2_with fail
      refine (curPick g A n c (t + 2) 2 1 _ HC1.out hn (by omega) (by omega) (by omega) (by omega)).mono ?_
      rintro e w2 ⟨p2, rfl, p2a, p2b, hb, hc⟩
      have HB2 := Aside.mk (HB1.out.trans hb)
      have HC2 := Aside.mk hc
      have HT3 := Aside.mk (HT2.out.but hb hg)
      clear hb hc HB1 HC1 HT2
      go_wp2_with fail
      refine (curPick g A n c (t + 2 + 2) 5 4 _ HC2.out hn (by omega) (by omega) (by omega) (by omega)).mono ?_
      rintro e w3 ⟨p3, rfl, p3a, p3b, hb, hc⟩
      have HB3 := Aside.mk (HB2.out.trans hb)
      have HC3 := Aside.mk hc
      have HT4 := Aside.mk (HT3.out.but hb hg)
      clear hb hc HB2 HC2 HT3
      have hp : 0 ≤ p2 * p3 := Int.mul_nonneg p2a p3a
      have hp2 : p2 * p3 ≤ 1 * 4 := Int.mul_le_mul p2b p3b p3a (by omega)
      have ew : IntKind.i64.wrap (p2 * p3) = p2 * p3 := by rw [IntKind.wrap_i64]; omega
      have hbs : w.heap.size ≤ w3.heap.size := HB3.out.size
      obtain ⟨w8, A8, cap8, hrun, hown, hkeep, hb8, hnew, hs8, hc8⟩ := own_app (P := Try.prog) (t := 24) i0 _ Try.underlying24 HI.out HI0.out HI1.out HI2.out rfl (by decide) (show w3.ownsRow w.heap.size 34 3 (.slice A5 q cap5) q (cla acts) from by have := HT4.out.own; rwa [hq.out] at this) [.int .i64 3, .int .i64 (p2 * p3), .string ⟨#[]⟩] rfl (fun u hu => by simp at hu; rcases hu with rfl | rfl | rfl <;> rfl) (by unfold maxLen; omega) (by omega) hbs
      have HRUN := Aside.mk hrun
      have HT9 := Aside.mk (ActsAt.snoc (a := (3, p2 * p3, ⟨#[]⟩)) hown hq.out.symm HT4.out.txt (show ByteArray.size ⟨#[]⟩ ≤ 1001 by decide))
      have HB9 := Aside.mk (HB3.out.low hb8)
      have HC9 := Aside.mk (HC3.out.low hb8 hg HA.out)
      clear hrun hown hkeep hb8 hnew hs8 HB3 HC3 HT4
      go_wp2_with (at_builtin; refine Go.Lib.wpList_append_run _ rfl _ _ _ _ rfl _ _ rfl rfl _ _ HRUN.out ?_)
      go_roundw
      case rel => exact ⟨k - 1, q + 1, t + 10, acts ++ [(3, p2 * p3, ⟨#[]⟩)], by omega, by go_num, by rw [HT1.out]; omega, ⟨by rw [List.length_append, hq.out]; rfl⟩, HT9, HB9, ⟨HC9.out.mono (by omega)⟩⟩
      case measure => first | (simp [intOf]; done) | (simp [intOf]; omega)
    · skip
      go_wp2_with fail
      refine (curPick g A n c (t + 2) 2 1 _ HC1.out hn (by omega) (by omega) (by omega) (by omega)).mono ?_
      rintro e w2 ⟨p2, rfl, p2a, p2b, hb, hc⟩
      have HB2 := Aside.mk (HB1.out.trans hb)
      have HC2 := Aside.mk hc
      have HT3 := Aside.mk (HT2.out.but hb hg)
      clear hb hc HB1 HC1 HT2
      go_wp2_with fail
      refine (curPick g A n c (t + 2 + 2) 5 4 _ HC2.out hn (by omega) (by omega) (by omega) (by omega)).mono ?_
      rintro e w3 ⟨p3, rfl, p3a, p3b, hb, hc⟩
      have HB3 := Aside.mk (HB2.out.trans hb)
      have HC3 := Aside.mk hc
      have HT4 := Aside.mk (HT3.out.but hb hg)
      clear hb hc HB2 HC2 HT3
      have hp : 0 ≤ p2 * p3 := Int.mul_nonneg p2a p3a
      have hp2 : p2 * p3 ≤ 1 * 4 := Int.mul_le_mul p2b p3b p3a (by omega)
      have ew : IntKind.i64.wrap (p2 * p3) = p2 * p3 := by rw [IntKind.wrap_i64]; omega
      have hbs : w.heap.size ≤ w3.heap.size := HB3.out.size
      obtain ⟨w8, A8, cap8, hrun, hown, hkeep, hb8, hnew, hs8, hc8⟩ := own_app (P := Try.prog) (t := 24) i0 _ Try.underlying24 HI.out HI0.out HI1.out HI2.out rfl (by decide) (show w3.ownsRow w.heap.size 34 3 (.slice A5 q cap5) q (cla acts) from by have := HT4.out.own; rwa [hq.out] at this) [.int .i64 3, .int .i64 (p2 * p3), .string ⟨#[]⟩] rfl (fun u hu => by simp at hu; rcases hu with rfl | rfl | rfl <;> rfl) (by unfold maxLen; omega) (by omega) hbs
      have HRUN := Aside.mk hrun
      have HT9 := Aside.mk (ActsAt.snoc (a := (3, p2 * p3, ⟨#[]⟩)) hown hq.out.symm HT4.out.txt (show ByteArray.size ⟨#[]⟩ ≤ 1001 by decide))
      have HB9 := Aside.mk (HB3.out.low hb8)
      have HC9 := Aside.mk (HC3.out.low hb8 hg HA.out)
      clear hrun hown hkeep hb8 hnew hs8 HB3 HC3 HT4
      go_wp2_with (at_builtin; refine Go.Lib.wpList_append_run _ rfl _ _ _ _ rfl _ _ rfl rfl _ _ HRUN.out ?_)
      go_roundw
      case rel => exact ⟨k - 1, q + 1, t + 10, acts ++ [(3, p2 * p3, ⟨#[]⟩)], by omega, by go_num, by rw [HT1.out]; omega, ⟨by rw [List.length_append, hq.out]; rfl⟩, HT9, HB9, ⟨HC9.out.mono (by omega)⟩⟩
      case measure => first | (simp [intOf]; done) | (simp [intOf]; omega)
end Go.Proofs.Ytlopbheahedofaa.Fn
