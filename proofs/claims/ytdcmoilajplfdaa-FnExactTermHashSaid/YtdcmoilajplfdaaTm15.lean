/- TermSize of both sides. Conditions: those of each theorem. -/
import Derived.Test.YtdcmoilajplfdaaTm14
set_option linter.unusedVariables false
namespace Go.Proofs.Ytdcmoilajplfdaa.Fn
open Go.RowKit Go.Proofs.Ytdcmoilajplfdaa.Lib Go.Proofs.Ytdcmoilajplfdaa.Plan

def Sizes (t : T) : Prop := ∀ (cs : List Value) (w : World), Rec.term.rd False w (Old w) t cs → Rec.term.wt t ≤ 1048576 → t.cnt ≤ 2000 →
  Calls Try.prog 63 #[.agg cs.toArray] w fun e w' => e = .returned (.int .i64 t.cnt) ∧ Below w.heap.size w w'
theorem cnt_kid {k n : Int} {s : ByteArray} {ts : List T} {j : Nat} (h : j < ts.length) : 1 + sumTo T.cnt ts j + ts[j].cnt ≤ (T.mk k n s ts).cnt := by
  have h1 := sumTo_succ T.cnt ts j h
  have h2 := sumTo_le T.cnt ts (j + 1)
  rw [T.cnt_eq]
  omega
set_option maxRecDepth 100000 in
set_option maxHeartbeats 4000000 in
theorem termSizeOf (t : T) : Sizes t := by
  induction t using T.ind with
  | h k n s ts ih =>
  intro cs w h hw hcnt
  obtain ⟨A1, c1, rfl, h1⟩ := Rec.term_iff.1 h
  change Rec.term.sl.rd False w (Old w) ts [.slice A1 ts.length c1] at h1
  have WT := wt_sl _ _ _ _ _ hw
  have HIH := Aside.mk ih
  have HW := Aside.mk (wt_kid WT)
  have L1 := wt_len WT
  obtain ⟨_, _, he, hcap, h1⟩ := h1
  injection he with he _
  injection he with e1 e2 e3
  subst e1 e3
  have HA := Aside.mk h1
  have HK : Aside (∀ (j : Nat) (h : j < ts.length), 1 + sumTo T.cnt ts j + ts[j].cnt ≤ 2000) := ⟨fun j h => Nat.le_trans (cnt_kid h) hcnt⟩
  have HE : Aside ((T.mk k n s ts).cnt = 1 + sumTo T.cnt ts ts.length) := ⟨by rw [T.cnt_eq, sumTo_all]⟩
  generalize (T.mk k n s ts).cnt = res at HE hcnt ⊢
  obtain ⟨m, hln⟩ : ∃ m, m = ts.length := ⟨_, rfl⟩
  have hln2 : ts.length = m := hln.symm
  have HN := Aside.mk hln
  show Calls Try.prog 63 #[.agg #[.int .i64 k, .int .i64 n, .string s, .slice A1 ts.length c1]] w _
  rw [hln2] at L1 hcap ⊢
  clear ih h1 h hw hln hln2 WT hcnt
  have B0 : Aside (Below w.heap.size w (w.alloc (.cells #[.int .i64 k, .int .i64 n, .string s, .slice A1 m c1] 29))) := ⟨by go_grown⟩
  have HS0 : Aside (0 = sumTo T.cnt ts 0) := ⟨rfl⟩
  go_enter Try.func63, Try.ntmps63
  go_wp2_with fail
  go_loopw [3, 9] (fun a i wr => ∃ j : Nat, j ≤ m ∧ i = .int .i64 j ∧ (∃ q : Nat, a = .int .i64 ((1 : Int) + q) ∧ Aside (q = sumTo T.cnt ts j) ∧ q ≤ 2000) ∧ Aside (Below w.heap.size w wr)) (fun _ i _ => m - (intOf i).toNat)
  case atStart => exact ⟨0, Nat.zero_le _, rfl, ⟨0, rfl, HS0, by omega⟩, B0⟩
  case round =>
    obtain ⟨j, hj, rfl, ⟨q, rfl, hq, hq2⟩, hb0⟩ := hrel
    clear B0 HS0
    by_cases hlt : j < m
    · have hlt1 : j < ts.length := by rw [← HN.out]; exact hlt
      rcases HA.out with h0 | ⟨b1, o1, rfl, hb1, f1, hf1, -, hrow1⟩
      · exfalso; rw [h0] at hlt1; exact absurd hlt1 (Nat.not_lt_zero _)
      obtain ⟨cs1, hr1, hc1⟩ := hrow1 j hlt1
      obtain ⟨x0, x1, x2, x3a, x3b, x3c, rfl⟩ := shapeTerm hr1
      have hbel2 := hb0.out
      have d10 : wr.cell? ⟨b1, o1 + j * 4, none⟩ = some (.int .i64 x0) := (hbel2.cell (p := ⟨b1, o1 + j * 4 + 0, none⟩) hb1).trans (hc1 0 (by decide))
      have d11 : wr.cell? ⟨b1, o1 + j * 4 + 1, none⟩ = some (.int .i64 x1) := (hbel2.cell (p := ⟨b1, o1 + j * 4 + 1, none⟩) hb1).trans (hc1 1 (by decide))
      have d12 : wr.cell? ⟨b1, o1 + j * 4 + 2, none⟩ = some (.string x2) := (hbel2.cell (p := ⟨b1, o1 + j * 4 + 2, none⟩) hb1).trans (hc1 2 (by decide))
      have d13 : wr.cell? ⟨b1, o1 + j * 4 + 3, none⟩ = some (.slice x3a x3b x3c) := (hbel2.cell (p := ⟨b1, o1 + j * 4 + 3, none⟩) hb1).trans (hc1 3 (by decide))
      have HR1 := Aside.mk (Rec.term.up (Rec.term.mono hr1 (fun c hc => (hf1 j c hc).1)) (fun _ h => h) (hbel2.alloc hbel2.size (.cells #[.int .i64 x0, .int .i64 x1, .string x2, .slice x3a x3b x3c] 29)))
      have W1 := HW.out j hlt1
      have HST := Aside.mk (sumTo_succ T.cnt ts j hlt1)
      have hk := HK.out j hlt1
      rw [← hq.out] at hk
      clear hc1 hrow1 hf1 hr1 hbel2
      go_wp2_with fail
      refine (HIH.out ts[j] (List.getElem_mem hlt1) [.int .i64 x0, .int .i64 x1, .string x2, .slice x3a x3b x3c] _ HR1.out W1 (by omega)).mono ?_
      rintro e w2 ⟨rfl, hb2⟩
      have hb3 := Aside.mk (below_later (hb0.out.alloc hb0.out.size (.cells #[.int .i64 x0, .int .i64 x1, .string x2, .slice x3a x3b x3c] 29)) hb2)
      have hq3 : Aside (q + ts[j].cnt = sumTo T.cnt ts (j + 1)) := ⟨by rw [HST.out, hq.out]⟩
      generalize ts[j].cnt = u1 at hk hq3 ⊢
      clear d10 d11 d12 d13 HR1 hb2 hb0 HST hq W1
      go_wp2_with fail
      go_roundw
      case rel => exact ⟨j + 1, by omega, by go_num, ⟨q + u1, by first | rfl | (refine congrArg _ ?_; omega), hq3, by omega⟩, hb3⟩
      case measure => first | (simp [intOf]; done) | (simp [intOf]; omega)
    · obtain rfl : j = m := by omega
      have E : Aside ((res : Int) = (1 : Int) + q) := ⟨by rw [HE.out, hq.out, HN.out]; omega⟩
      go_wp2_with fail
      go_ret
      exact ⟨ret_int E.out.symm, hb0.out⟩
/-- What TermSize answers. -/
def sizeV (t : T) : Int := if t.okB then t.cnt else 0
def sizeE (t : T) : Int := if t.okB then 0 else 1
theorem fits_cnt {t : T} (h : t.okB = true) : t.cnt ≤ 2000 := by
  have := okB_fits h
  simp [T.fits] at this
  exact this.1
set_option maxRecDepth 100000 in
theorem sTermSize (t : T) (cs : List Value) (w : World) (h : Rec.term.rd False w (Old w) t cs) (hw : Rec.term.wt t ≤ 1048576) :
    Calls Try.prog 22 #[.agg cs.toArray] w fun e w' => e = .returned (.tuple #[.int .i64 (sizeV t), .int .i64 (sizeE t)]) ∧ Below w.heap.size w w' := by
  obtain ⟨x0, x1, x2, x3a, x3b, x3c, rfl⟩ := shapeTerm h
  have H := Aside.mk h
  clear h
  obtain ⟨r1, h1⟩ : ∃ r, r = sizeV t := ⟨_, rfl⟩
  obtain ⟨r2, h2⟩ : ∃ r, r = sizeE t := ⟨_, rfl⟩
  rw [← h1, ← h2]
  have V1 : Aside (r1 = if t.okB then (t.cnt : Int) else 0) := ⟨h1⟩
  have V2 : Aside (r2 = if t.okB then 0 else 1) := ⟨h2⟩
  clear h1 h2
  show Calls Try.prog 22 #[.agg #[.int .i64 x0, .int .i64 x1, .string x2, .slice x3a x3b x3c]] w _
  go_enter Try.func22, Try.ntmps22
  go_wp2_with fail
  refine (sTermOK t [.int .i64 x0, .int .i64 x1, .string x2, .slice x3a x3b x3c] _ (Rec.term.old H.out (by go_grown)) hw).mono ?_
  rintro e w1 ⟨rfl, hb1⟩
  have k0 := (Blk.new w 29 [.int .i64 x0, .int .i64 x1, .string x2, .slice x3a x3b x3c]).below hb1
  have y0 := k0.cell 0
  have y1 := k0.cell 1
  have y2 := k0.cell 2
  have y3 := k0.cell 3
  simp only [List.getElem?_cons_zero, List.getElem?_cons_succ] at y0 y1 y2 y3
  have B1 : Aside (Below w.heap.size w w1) := ⟨below_later (by go_grown) hb1⟩
  clear hb1 k0
  cases ho : t.okB
  · have E : Aside (r1 = 0 ∧ r2 = 1) := ⟨by rw [V1.out, V2.out, ho]; exact ⟨rfl, rfl⟩⟩
    go_wp2
    go_ret2
    exact ⟨ret_two E.out.1.symm E.out.2.symm, B1.out⟩
  have hc := fits_cnt ho
  have E : Aside (r1 = t.cnt ∧ r2 = 0) := ⟨by rw [V1.out, V2.out, ho]; exact ⟨rfl, rfl⟩⟩
  have em : measN 2000 100 t = (t.cnt : Int) := by rw [measN, fitR_fits, okB_fits ho]; rfl
  clear ho
  go_wp2_with fail
  refine (l01Measure t [.int .i64 x0, .int .i64 x1, .string x2, .slice x3a x3b x3c] 2000 100 _ (Rec.term.old H.out B1.out) hw (by decide) (by decide)).mono ?_
  rintro e w2 ⟨rfl, hb2⟩
  rw [em]
  clear em
  generalize measD 2000 100 t = dd
  have B2 := Aside.mk (below_later B1.out hb2)
  clear hb2 y0 y1 y2 y3
  generalize t.cnt = c at E hc ⊢
  go_wp2
  go_ret2
  exact ⟨ret_two E.out.1.symm E.out.2.symm, B2.out⟩
set_option maxRecDepth 100000 in
theorem iTermSize (t : T) (cs : List Value) (w : World) (h : Rec.term.rd False w (Old w) t cs) (hw : Rec.term.wt t ≤ 1048576) :
    Calls Try.prog 23 #[.agg cs.toArray] w fun e w' => e = .returned (.tuple #[.int .i64 (sizeV t), .int .i64 (sizeE t)]) ∧ Below w.heap.size w w' := by
  obtain ⟨x0, x1, x2, x3a, x3b, x3c, rfl⟩ := shapeTerm h
  have H := Aside.mk h
  clear h
  obtain ⟨r1, h1⟩ : ∃ r, r = sizeV t := ⟨_, rfl⟩
  obtain ⟨r2, h2⟩ : ∃ r, r = sizeE t := ⟨_, rfl⟩
  rw [← h1, ← h2]
  have V1 : Aside (r1 = if t.okB then (t.cnt : Int) else 0) := ⟨h1⟩
  have V2 : Aside (r2 = if t.okB then 0 else 1) := ⟨h2⟩
  clear h1 h2
  show Calls Try.prog 23 #[.agg #[.int .i64 x0, .int .i64 x1, .string x2, .slice x3a x3b x3c]] w _
  go_enter Try.func23, Try.ntmps23
  go_wp2_with fail
  refine (iTermOK t [.int .i64 x0, .int .i64 x1, .string x2, .slice x3a x3b x3c] _ (Rec.term.old H.out (by go_grown)) hw).mono ?_
  rintro e w1 ⟨rfl, hb1⟩
  have k0 := (Blk.new w 29 [.int .i64 x0, .int .i64 x1, .string x2, .slice x3a x3b x3c]).below hb1
  have y0 := k0.cell 0
  have y1 := k0.cell 1
  have y2 := k0.cell 2
  have y3 := k0.cell 3
  simp only [List.getElem?_cons_zero, List.getElem?_cons_succ] at y0 y1 y2 y3
  have B1 : Aside (Below w.heap.size w w1) := ⟨below_later (by go_grown) hb1⟩
  clear hb1 k0
  cases ho : t.okB
  · have E : Aside (r1 = 0 ∧ r2 = 1) := ⟨by rw [V1.out, V2.out, ho]; exact ⟨rfl, rfl⟩⟩
    go_wp2
    go_ret2
    exact ⟨ret_two E.out.1.symm E.out.2.symm, B1.out⟩
  have hc := fits_cnt ho
  have E : Aside (r1 = t.cnt ∧ r2 = 0) := ⟨by rw [V1.out, V2.out, ho]; exact ⟨rfl, rfl⟩⟩
  clear ho
  go_wp2_with fail
  refine (termSizeOf t [.int .i64 x0, .int .i64 x1, .string x2, .slice x3a x3b x3c] _ (Rec.term.old H.out B1.out) hw hc).mono ?_
  rintro e w2 ⟨rfl, hb2⟩
  have B2 := Aside.mk (below_later B1.out hb2)
  clear hb2 y0 y1 y2 y3
  generalize t.cnt = c at E hc ⊢
  go_wp2
  go_ret2
  exact ⟨ret_two E.out.1.symm E.out.2.symm, B2.out⟩
end Go.Proofs.Ytdcmoilajplfdaa.Fn
