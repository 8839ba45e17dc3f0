/- TermOK, TermSize, TermCompare of both sides. Conditions: those of each theorem. -/
import Derived.Test.YtdldgchkinflmaaTm13
set_option linter.unusedVariables false
namespace Go.Proofs.Ytdldgchkinflmaa.Fn
open Go.RowKit Go.Proofs.Ytdldgchkinflmaa.Lib Go.Proofs.Ytdldgchkinflmaa.Plan

/-- What TermCompare answers. -/
def cmpV (a b : T) : Int := if a.okB && b.okB then T.cmp a b else 0
def cmpE (a b : T) : Int := if a.okB && b.okB then 0 else 1
theorem fitR_fits (t : T) : fitR 2000 100 t = t.fits := rfl
theorem l01Fits (t : T) (cs : List Value) (w : World) (h : Rec.term.rd False w (Old w) t cs) (hw : Rec.term.wt t ≤ 1048576) :
    Calls Try.prog 71 #[.agg cs.toArray] w fun e w' => e = .returned (.bool t.fits) ∧ Below w.heap.size w w' := by
  obtain ⟨x0, x1, x2, x3a, x3b, x3c, rfl⟩ := shapeTerm h
  have H := Aside.mk h
  clear h
  show Calls Try.prog 71 #[.agg #[.int .i64 x0, .int .i64 x1, .string x2, .slice x3a x3b x3c]] w _
  cases hf : t.fits
  · have e1 : measN 2000 100 t = 2001 := by rw [measN, fitR_fits, hf]; rfl
    have e2 : measD 2000 100 t = 101 := by rw [measD, fitR_fits, hf]; rfl
    go_enter Try.func71, Try.ntmps71
    go_wp2_with fail
    refine (l01Measure t [.int .i64 x0, .int .i64 x1, .string x2, .slice x3a x3b x3c] 2000 100 _ (Rec.term.old H.out (by go_grown)) hw (by decide) (by decide)).mono ?_
    rintro e w1 ⟨rfl, hb1⟩
    rw [e1, e2]
    have B1 : Aside (Below w.heap.size w w1) := ⟨below_later (by go_grown) hb1⟩
    clear hb1 e1 e2 hf
    go_wp2
    go_ret
    exact ⟨rfl, B1.out⟩
  · have e1 : measN 2000 100 t = (t.cnt : Int) := by rw [measN, fitR_fits, hf]; rfl
    have e2 : measD 2000 100 t = (t.deep : Int) := by rw [measD, fitR_fits, hf]; rfl
    have e3 : t.cnt ≤ 2000 ∧ t.deep ≤ 100 := by simpa [T.fits] using hf
    obtain ⟨e3, e4⟩ := e3
    generalize hc : t.cnt = c at e1 e3
    generalize hd : t.deep = d at e2 e4
    go_enter Try.func71, Try.ntmps71
    go_wp2_with fail
    refine (l01Measure t [.int .i64 x0, .int .i64 x1, .string x2, .slice x3a x3b x3c] 2000 100 _ (Rec.term.old H.out (by go_grown)) hw (by decide) (by decide)).mono ?_
    rintro e w1 ⟨rfl, hb1⟩
    rw [e1, e2]
    have B1 : Aside (Below w.heap.size w w1) := ⟨below_later (by go_grown) hb1⟩
    clear hb1 e1 e2 hf hc hd
    go_wp2
    go_ret
    exact ⟨ret_bool (decide_eq_true (by omega)), B1.out⟩
theorem okB_right {t : T} (h : t.okB = true) : t.right = true := by
  rw [T.okB, Bool.and_eq_true] at h
  exact h.2
theorem okB_fits {t : T} (h : t.okB = true) : t.fits = true := by
  rw [T.okB, Bool.and_eq_true] at h
  exact h.1
theorem sTermOK (t : T) (cs : List Value) (w : World) (h : Rec.term.rd False w (Old w) t cs) (hw : Rec.term.wt t ≤ 1048576) :
    Calls Try.prog 17 #[.agg cs.toArray] w fun e w' => e = .returned (.bool t.okB) ∧ Below w.heap.size w w' := by
  obtain ⟨x0, x1, x2, x3a, x3b, x3c, rfl⟩ := shapeTerm h
  have H := Aside.mk h
  clear h
  obtain ⟨res, hres⟩ : ∃ r, r = t.okB := ⟨_, rfl⟩
  rw [← hres]
  have HV : Aside (res = (t.fits && t.right)) := ⟨hres⟩
  clear hres
  show Calls Try.prog 17 #[.agg #[.int .i64 x0, .int .i64 x1, .string x2, .slice x3a x3b x3c]] w _
  go_enter Try.func17, Try.ntmps17
  go_wp2_with fail
  refine (l01Fits t [.int .i64 x0, .int .i64 x1, .string x2, .slice x3a x3b x3c] _ (Rec.term.old H.out (by go_grown)) hw).mono ?_
  rintro e w1 ⟨rfl, hb1⟩
  have k0 := (Blk.new w 26 [.int .i64 x0, .int .i64 x1, .string x2, .slice x3a x3b x3c]).below hb1
  have y0 := k0.cell 0
  have y1 := k0.cell 1
  have y2 := k0.cell 2
  have y3 := k0.cell 3
  simp only [List.getElem?_cons_zero, List.getElem?_cons_succ] at y0 y1 y2 y3
  have B1 : Aside (Below w.heap.size w w1) := ⟨below_later (by go_grown) hb1⟩
  clear hb1 k0
  cases hf : t.fits
  · have E : Aside (res = false) := ⟨by rw [HV.out, hf]; rfl⟩
    go_wp2
    go_ret
    exact ⟨ret_bool E.out.symm, B1.out⟩
  · have E : Aside (res = t.right) := ⟨by rw [HV.out, hf]; rfl⟩
    clear hf HV
    go_wp2_with fail
    refine (l01Right t [.int .i64 x0, .int .i64 x1, .string x2, .slice x3a x3b x3c] _ (Rec.term.old H.out B1.out) hw).mono ?_
    rintro e w2 ⟨rfl, hb2⟩
    have B2 := Aside.mk (below_later B1.out hb2)
    clear hb2 y0 y1 y2 y3
    generalize t.right = r at E ⊢
    go_wp2
    go_ret
    exact ⟨ret_bool E.out.symm, B2.out⟩
theorem iTermOK (t : T) (cs : List Value) (w : World) (h : Rec.term.rd False w (Old w) t cs) (hw : Rec.term.wt t ≤ 1048576) :
    Calls Try.prog 73 #[.agg cs.toArray] w fun e w' => e = .returned (.bool t.okB) ∧ Below w.heap.size w w' := by
  obtain ⟨x0, x1, x2, x3a, x3b, x3c, rfl⟩ := shapeTerm h
  have H := Aside.mk h
  clear h
  obtain ⟨res, hres⟩ : ∃ r, r = t.okB := ⟨_, rfl⟩
  rw [← hres]
  have HV : Aside (res = (t.fits && t.right)) := ⟨hres⟩
  clear hres
  show Calls Try.prog 73 #[.agg #[.int .i64 x0, .int .i64 x1, .string x2, .slice x3a x3b x3c]] w _
  go_enter Try.func73, Try.ntmps73
  go_wp2_with fail
  refine (small t [.int .i64 x0, .int .i64 x1, .string x2, .slice x3a x3b x3c] _ (Rec.term.old H.out (by go_grown)) hw).mono ?_
  rintro e w1 ⟨rfl, hb1⟩
  have k0 := (Blk.new w 26 [.int .i64 x0, .int .i64 x1, .string x2, .slice x3a x3b x3c]).below hb1
  have y0 := k0.cell 0
  have y1 := k0.cell 1
  have y2 := k0.cell 2
  have y3 := k0.cell 3
  simp only [List.getElem?_cons_zero, List.getElem?_cons_succ] at y0 y1 y2 y3
  have B1 : Aside (Below w.heap.size w w1) := ⟨below_later (by go_grown) hb1⟩
  clear hb1 k0
  cases hf : t.fits
  · have E : Aside (res = false) := ⟨by rw [HV.out, hf]; rfl⟩
    go_wp2
    go_ret
    exact ⟨ret_bool E.out.symm, B1.out⟩
  · have E : Aside (res = t.right) := ⟨by rw [HV.out, hf]; rfl⟩
    clear hf HV
    go_wp2_with fail
    refine (allOK t [.int .i64 x0, .int .i64 x1, .string x2, .slice x3a x3b x3c] _ (Rec.term.old H.out B1.out) hw).mono ?_
    rintro e w2 ⟨rfl, hb2⟩
    have B2 := Aside.mk (below_later B1.out hb2)
    clear hb2 y0 y1 y2 y3
    generalize t.right = r at E ⊢
    go_wp2
    go_ret
    exact ⟨ret_bool E.out.symm, B2.out⟩
set_option maxRecDepth 100000 in
set_option maxHeartbeats 4000000 in
theorem iTermCompare (a : T) (ca : List Value) (b : T) (cb : List Value) (w : World) (ha : Rec.term.rd False w (Old w) a ca) (hwa : Rec.term.wt a ≤ 1048576) (hb : Rec.term.rd False w (Old w) b cb) (hwb : Rec.term.wt b ≤ 1048576) :
    Calls Try.prog 18 #[.agg ca.toArray, .agg cb.toArray] w fun e w' => e = .returned (.tuple #[.int .i64 (cmpV a b), .int .i64 (cmpE a b)]) ∧ Below w.heap.size w w' := by
  obtain ⟨x0, x1, x2, x3a, x3b, x3c, rfl⟩ := shapeTerm ha
  obtain ⟨z0, z1, z2, z3a, z3b, z3c, rfl⟩ := shapeTerm hb
  have H1 := Aside.mk ha
  have H2 := Aside.mk hb
  clear ha hb
  obtain ⟨r1, h1⟩ : ∃ r, r = cmpV a b := ⟨_, rfl⟩
  obtain ⟨r2, h2⟩ : ∃ r, r = cmpE a b := ⟨_, rfl⟩
  rw [← h1, ← h2]
  have V1 : Aside (r1 = if a.okB && b.okB then T.cmp a b else 0) := ⟨h1⟩
  have V2 : Aside (r2 = if a.okB && b.okB then 0 else 1) := ⟨h2⟩
  clear h1 h2
  show Calls Try.prog 18 #[.agg #[.int .i64 x0, .int .i64 x1, .string x2, .slice x3a x3b x3c], .agg #[.int .i64 z0, .int .i64 z1, .string z2, .slice z3a z3b z3c]] w _
  go_enter Try.func18, Try.ntmps18
  go_wp2_with fail
  refine (iTermOK a [.int .i64 x0, .int .i64 x1, .string x2, .slice x3a x3b x3c] _ (Rec.term.old H1.out (by go_grown)) hwa).mono ?_
  rintro e w1 ⟨rfl, hb1⟩
  have k0 := ((Blk.new w 26 [.int .i64 x0, .int .i64 x1, .string x2, .slice x3a x3b x3c]).alloc _).below hb1
  have k1 := (Blk.made (w.alloc _) 26 [.int .i64 z0, .int .i64 z1, .string z2, .slice z3a z3b z3c] (g := w.heap.size + 1) (by simp)).below hb1
  have K0 := Aside.mk k0
  have K1 := Aside.mk k1
  have B1 : Aside (Below w.heap.size w w1) := ⟨below_later (by go_grown) hb1⟩
  have u0 := k1.cell 0
  have u1 := k1.cell 1
  have u2 := k1.cell 2
  have u3 := k1.cell 3
  simp only [List.getElem?_cons_zero, List.getElem?_cons_succ] at u0 u1 u2 u3
  clear hb1 k0 k1
  cases ho : a.okB
  · have E : Aside (r1 = 0 ∧ r2 = 1) := ⟨by rw [V1.out, V2.out, ho]; exact ⟨rfl, rfl⟩⟩
    go_wp2
    go_ret2
    exact ⟨ret_two E.out.1.symm E.out.2.symm, B1.out⟩
  have O1 := Aside.mk ho
  clear ho
  go_wp2_with fail
  refine (iTermOK b [.int .i64 z0, .int .i64 z1, .string z2, .slice z3a z3b z3c] _ (Rec.term.old H2.out B1.out) hwb).mono ?_
  rintro e w2 ⟨rfl, hb2⟩
  have k0 := K0.out.below hb2
  have k1 := K1.out.below hb2
  have B2 := Aside.mk (below_later B1.out hb2)
  clear hb2 B1 K0 K1 u0 u1 u2 u3
  have y0 := k0.cell 0
  have y1 := k0.cell 1
  have y2 := k0.cell 2
  have y3 := k0.cell 3
  have u0 := k1.cell 0
  have u1 := k1.cell 1
  have u2 := k1.cell 2
  have u3 := k1.cell 3
  simp only [List.getElem?_cons_zero, List.getElem?_cons_succ] at y0 y1 y2 y3 u0 u1 u2 u3
  clear k0 k1
  cases ho : b.okB
  · have E : Aside (r1 = 0 ∧ r2 = 1) := ⟨by rw [V1.out, V2.out, O1.out, ho]; exact ⟨rfl, rfl⟩⟩
    go_wp2
    go_ret2
    exact ⟨ret_two E.out.1.symm E.out.2.symm, B2.out⟩
  have O2 := Aside.mk ho
  have E : Aside (r1 = T.cmp a b ∧ r2 = 0) := ⟨by rw [V1.out, V2.out, O1.out, ho]; exact ⟨rfl, rfl⟩⟩
  clear ho
  go_wp2_with fail
  refine (compare a b [.int .i64 x0, .int .i64 x1, .string x2, .slice x3a x3b x3c] [.int .i64 z0, .int .i64 z1, .string z2, .slice z3a z3b z3c] _ (Rec.term.old H1.out B2.out) (Rec.term.old H2.out B2.out) hwa hwb (okB_right O1.out) (okB_right O2.out)).mono ?_
  rintro e w3 ⟨rfl, hb3⟩
  have B3 := Aside.mk (below_later B2.out hb3)
  clear hb3 y0 y1 y2 y3 u0 u1 u2 u3
  generalize T.cmp a b = c at E ⊢
  go_wp2
  go_ret2
  exact ⟨ret_two E.out.1.symm E.out.2.symm, B3.out⟩
end Go.Proofs.Ytdldgchkinflmaa.Fn
