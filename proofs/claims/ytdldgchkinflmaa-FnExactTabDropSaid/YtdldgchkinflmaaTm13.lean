/- Walk of the reference's measure; TermOK of both sides. Conditions: those of each theorem. -/
import Derived.Test.YtdldgchkinflmaaTm12
set_option linter.unusedVariables false
namespace Go.Proofs.Ytdldgchkinflmaa.Fn
open Go.RowKit Go.Proofs.Ytdldgchkinflmaa.Lib Go.Proofs.Ytdldgchkinflmaa.Plan

def fitR (room deep : Nat) (t : T) : Bool := decide (t.cnt ≤ room) && decide (t.deep ≤ deep)
def measN (room deep : Nat) (t : T) : Int := if fitR room deep t then (t.cnt : Int) else 2001
def measD (room deep : Nat) (t : T) : Int := if fitR room deep t then (t.deep : Int) else 101
def maxTo (ts : List T) (k : Nat) : Nat := maxl ((ts.take k).map T.deep)
theorem maxTo_succ (ts : List T) (k : Nat) (h : k < ts.length) : maxTo ts (k + 1) = max (maxTo ts k) ts[k].deep := by
  unfold maxTo
  rw [List.take_succ_eq_append_getElem h, List.map_append]
  exact maxl_snoc _ _
theorem maxTo_all (ts : List T) : maxTo ts ts.length = maxl (ts.map T.deep) := by rw [maxTo, List.take_length]
theorem fitR_zero {room deep : Nat} {t : T} (h : room = 0 ∨ deep = 0) : fitR room deep t = false := by
  have h1 := t.cnt_pos
  have h2 := t.deep_pos
  simp [fitR]
  omega
theorem fitR_kid {room deep k : Nat} {kd n : Int} {s : ByteArray} {ts : List T} (h : k < ts.length) (hd : 0 < deep) (hf : fitR (room - (1 + sumTo T.cnt ts k)) (deep - 1) ts[k] = false) : fitR room deep (.mk kd n s ts) = false := by
  have h1 := sumTo_succ T.cnt ts k h
  have h2 := sumTo_le T.cnt ts (k + 1)
  have h3 : ts[k].deep ≤ maxl (ts.map T.deep) := maxl_le.1 (Nat.le_refl _) _ (List.mem_map.2 ⟨ts[k], List.getElem_mem h, rfl⟩)
  have h4 := ts[k].cnt_pos
  simp only [fitR, T.cnt_eq, T.deep_eq, Bool.and_eq_false_iff, decide_eq_false_iff_not] at hf ⊢
  omega
def Measures (t : T) : Prop := ∀ (cs : List Value) (room deep : Nat) (w : World), Rec.term.rd False w (Old w) t cs → Rec.term.wt t ≤ 1048576 → room ≤ 2000 → deep ≤ 100 →
  Calls Try.prog 154 #[.agg cs.toArray, .int .i64 room, .int .i64 deep] w fun e w' => e = .returned (.tuple #[.int .i64 (measN room deep t), .int .i64 (measD room deep t)]) ∧ Below w.heap.size w w'
theorem ret_two {a b c d : Int} (h : a = c) (h2 : b = d) : Ending.returned (.tuple #[.int .i64 a, .int .i64 b]) = .returned (.tuple #[.int .i64 c, .int .i64 d]) := by rw [h, h2]
set_option maxRecDepth 100000 in
set_option maxHeartbeats 4000000 in
theorem l01Measure (t : T) : Measures t := by
  induction t using T.ind with
  | h k n s ts ih =>
  intro cs room deep w h hw hroom hdeep
  obtain ⟨A1, c1, rfl, h1⟩ := Rec.term_iff.1 h
  change Rec.term.sl.rd False w (Old w) ts [.slice A1 ts.length c1] at h1
  have WT := wt_sl _ _ _ _ _ hw
  have HIH := Aside.mk ih
  have HW := Aside.mk (wt_kid WT)
  have L1 := wt_len WT
  obtain ⟨_, _, he, hcap, h1⟩ := h1
  injection he with he _
  injection he with e1 e2 e3
  subst e1 e3
  have HA := Aside.mk h1
  obtain ⟨rn, hrn⟩ : ∃ r, r = measN room deep (.mk k n s ts) := ⟨_, rfl⟩
  obtain ⟨rd, hrd⟩ : ∃ r, r = measD room deep (.mk k n s ts) := ⟨_, rfl⟩
  have HBAD : Aside (fitR room deep (.mk k n s ts) = false → rn = 2001 ∧ rd = 101) := ⟨fun h => by rw [hrn, hrd, measN, measD, h]; exact ⟨rfl, rfl⟩⟩
  have HGOOD : Aside (fitR room deep (.mk k n s ts) = true → rn = ((T.mk k n s ts).cnt : Int) ∧ rd = ((T.mk k n s ts).deep : Int)) := ⟨fun h => by rw [hrn, hrd, measN, measD, h]; exact ⟨rfl, rfl⟩⟩
  rw [← hrn, ← hrd]
  obtain ⟨m, hln⟩ : ∃ m, m = ts.length := ⟨_, rfl⟩
  have hln2 : ts.length = m := hln.symm
  have HN := Aside.mk hln
  show Calls Try.prog 154 #[.agg #[.int .i64 k, .int .i64 n, .string s, .slice A1 ts.length c1], .int .i64 room, .int .i64 deep] w _
  rw [hln2] at L1 hcap ⊢
  clear ih h1 h hw hln hln2 WT hrn hrd
  by_cases hz : room = 0 ∨ deep = 0
  · have E := Aside.mk (HBAD.out (fitR_zero hz))
    clear HA HIH HW HGOOD HBAD
    by_cases hz1 : room = 0
    · have q1 : (room : Int) ≤ 0 := by omega
      clear hz hz1
      go_enter Try.func154, Try.ntmps154
      go_wp2
      go_ret2
      exact ⟨ret_two E.out.1.symm E.out.2.symm, by go_grown⟩
    · have q1 : 0 < (room : Int) := by omega
      have q2 : (deep : Int) ≤ 0 := by omega
      clear hz hz1
      go_enter Try.func154, Try.ntmps154
      go_wp2
      go_ret2
      exact ⟨ret_two E.out.1.symm E.out.2.symm, by go_grown⟩
  have q1 : 0 < (room : Int) := by omega
  have q2 : 0 < (deep : Int) := by omega
  clear hz
  have K0 := Aside.mk (Blk.new w 26 [.int .i64 k, .int .i64 n, .string s, .slice A1 m c1])
  have B0 : Aside (Below w.heap.size w (w.alloc (.cells #[.int .i64 k, .int .i64 n, .string s, .slice A1 m c1] 26))) := ⟨by go_grown⟩
  have HS0 : Aside (0 = sumTo T.cnt ts 0) := ⟨rfl⟩
  have HM0 : Aside (0 = maxTo ts 0) := ⟨rfl⟩
  go_enter Try.func154, Try.ntmps154
  go_wp2_with fail
  go_loopw [8, 9, 10] (fun a b i wr => ∃ j : Nat, j ≤ m ∧ i = .int .i64 j ∧ (∃ q mx : Nat, a = .int .i64 ((1 : Int) + q) ∧ b = .int .i64 mx ∧ Aside (q = sumTo T.cnt ts j) ∧ Aside (mx = maxTo ts j) ∧ 1 + q ≤ room ∧ mx + 1 ≤ deep) ∧ Aside (Blk wr w.heap.size 26 [.int .i64 k, .int .i64 n, .string s, .slice A1 m c1]) ∧ Aside (Below w.heap.size w wr)) (fun _ _ i _ => m - (intOf i).toNat)
  case atStart => exact ⟨0, Nat.zero_le _, rfl, ⟨0, 0, rfl, rfl, HS0, HM0, by omega, by omega⟩, K0, B0⟩
  case round =>
    obtain ⟨j, hj, rfl, ⟨q, mx, rfl, rfl, hq, hmx, hq2, hmx2⟩, hk0, hb0⟩ := hrel
    clear K0 B0 HS0 HM0
    have y3 := hk0.out.cell 3
    simp only [List.getElem?_cons_zero, List.getElem?_cons_succ] at y3
    by_cases hlt : j < m
    · have hlt1 : j < ts.length := by rw [← HN.out]; exact hlt
      rcases HA.out with h0 | ⟨b1, o1, rfl, hb1, f1, hf1, -, hrow1⟩
      · exfalso; rw [h0] at hlt1; exact absurd hlt1 (Nat.not_lt_zero _)
      obtain ⟨cs1, hr1, hc1⟩ := hrow1 j hlt1
      obtain ⟨x0, x1, x2, x3a, x3b, x3c, rfl⟩ := shapeTerm hr1
      have hbel2 := hb0.out
      have d10 : wr.cell? ⟨b1, o1 + j * 4, none⟩ = some (.int .i64 x0) := (hbel2.cell (p := ⟨b1, o1 + j * 4 + 0, none⟩) hb1).trans (hc1 0 (by decide))
      have d11 : wr.cell? ⟨b1, o1 + j * 4 + 1, none⟩ = some (.int .i64 x1) := (hbel2.cell (p := ⟨b1, o1 + j * 4 + 1, none⟩) hb1).trans (hc1 1 (by decide))
      have d12 : wr.cell? ⟨b1, o1 + j * 4 + 2, none⟩ = some (.string x2) := (hbel2.cell (p := ⟨b1, o1 + j * 4 + 2, none⟩) hb1).trans (hc1 2 (by decide))
      have d13 : wr.cell? ⟨b1, o1 + j * 4 + 3, none⟩ = some (.slice x3a x3b x3c) := (hbel2.cell (p := ⟨b1, o1 + j * 4 + 3, none⟩) hb1).trans (hc1 3 (by decide))
      have HR1 := Aside.mk (Rec.term.up (w1 := wr) (Rec.term.mono hr1 (fun c hc => (hf1 j c hc).1)) (fun _ h => h) hbel2)
      have W1 := HW.out j hlt1
      have HST := Aside.mk (sumTo_succ T.cnt ts j hlt1)
      have HSM := Aside.mk (maxTo_succ ts j hlt1)
      clear hc1 hrow1 hf1 hr1 hbel2
      go_wp2_with fail
      have hcall := HIH.out ts[j] (List.getElem_mem hlt1) [.int .i64 x0, .int .i64 x1, .string x2, .slice x3a x3b x3c] (room - (1 + q)) (deep - 1) wr HR1.out W1 (by omega) (by omega)
      rw [show ((room - (1 + q) : Nat) : Int) = (room : Int) - (1 + q) by omega, show ((deep - 1 : Nat) : Int) = (deep : Int) - 1 by omega] at hcall
      refine hcall.mono ?_
      clear hcall
      rintro e w2 ⟨rfl, hb2⟩
      have hk2 := Aside.mk (hk0.out.below hb2)
      have hb3 := Aside.mk (below_later hb0.out hb2)
      clear hb2 d10 d11 d12 d13 HR1 hk0 hb0 y3
      cases hfit : fitR (room - (1 + q)) (deep - 1) ts[j]
      · obtain ⟨e1, e2⟩ := HBAD.out (fitR_kid hlt1 (by omega) (by rw [← hq.out]; exact hfit))
        have E := Aside.mk (And.intro e1.symm e2.symm)
        have f1 : measN (room - (1 + q)) (deep - 1) ts[j] = 2001 := by rw [measN, hfit]; rfl
        have f2 : measD (room - (1 + q)) (deep - 1) ts[j] = 101 := by rw [measD, hfit]; rfl
        rw [f1, f2]
        clear e1 e2 f1 f2 hfit HST HSM hq hmx W1
        go_wp2
        go_ret2
        exact ⟨ret_two E.out.1 E.out.2, hb3.out⟩
      · have f1 : measN (room - (1 + q)) (deep - 1) ts[j] = (ts[j].cnt : Int) := by rw [measN, hfit]; rfl
        have f2 : measD (room - (1 + q)) (deep - 1) ts[j] = (ts[j].deep : Int) := by rw [measD, hfit]; rfl
        have hf : ts[j].cnt ≤ room - (1 + q) ∧ ts[j].deep ≤ deep - 1 := by simpa [fitR] using hfit
        obtain ⟨g1, g2⟩ := hf
        rw [f1, f2]
        have hq3 : Aside (q + ts[j].cnt = sumTo T.cnt ts (j + 1)) := ⟨by rw [HST.out, hq.out]⟩
        have hm3 : Aside (max mx ts[j].deep = maxTo ts (j + 1)) := ⟨by rw [HSM.out, hmx.out]⟩
        generalize ts[j].cnt = u1 at g1 hq3 ⊢
        generalize ts[j].deep = u2 at g2 hm3 ⊢
        clear f1 f2 hfit HST HSM hq hmx W1
        by_cases hmm : mx < u2
        · have hm4 : Aside (u2 = maxTo ts (j + 1)) := ⟨by rw [← hm3.out]; omega⟩
          clear hm3
          go_wp2_with fail
          go_roundw
          case rel => exact ⟨j + 1, by omega, by go_num, ⟨q + u1, u2, by first | rfl | (refine congrArg _ ?_; omega), rfl, hq3, hm4, by omega, by omega⟩, hk2, hb3⟩
          case measure => first | (simp [intOf]; done) | (simp [intOf]; omega)
        · have hm4 : Aside (mx = maxTo ts (j + 1)) := ⟨by rw [← hm3.out]; omega⟩
          clear hm3
          go_wp2_with fail
          go_roundw
          case rel => exact ⟨j + 1, by omega, by go_num, ⟨q + u1, mx, by first | rfl | (refine congrArg _ ?_; omega), rfl, hq3, hm4, by omega, by omega⟩, hk2, hb3⟩
          case measure => first | (simp [intOf]; done) | (simp [intOf]; omega)
    · obtain rfl : j = m := by omega
      have ec : (T.mk k n s ts).cnt = 1 + q := by rw [T.cnt_eq, hq.out, HN.out, sumTo_all]
      have ed : (T.mk k n s ts).deep = 1 + mx := by rw [T.deep_eq, hmx.out, HN.out, maxTo_all]
      obtain ⟨e1, e2⟩ := HGOOD.out (by simp only [fitR, ec, ed, Bool.and_eq_true, decide_eq_true_eq]; omega)
      rw [ec] at e1
      rw [ed] at e2
      have E := Aside.mk (And.intro e1 e2)
      clear e1 e2 ec ed hq hmx
      go_wp2_with fail
      go_ret2
      exact ⟨ret_two (by rw [E.out.1]; omega) (by rw [E.out.2]; omega), hb0.out⟩
end Go.Proofs.Ytdldgchkinflmaa.Fn
