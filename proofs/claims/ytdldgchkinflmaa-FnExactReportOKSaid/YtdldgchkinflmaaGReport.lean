/- Report: how it lies in memory; copied, measured, compared. Conditions: those of each theorem. -/
import Derived.Test.YtdldgchkinflmaaGProc
set_option linter.unusedVariables false
namespace Go.Proofs.Ytdldgchkinflmaa.Lib
open Go.RowKit Go.Proofs.Ytdldgchkinflmaa.Plan
abbrev AReport := Int × Int × (List AEvent) × (List AProc) × (List Int)
def RReport : Rec AReport := Rec.int.pair (Rec.int.pair (REvent.sl.pair (RProc.sl.pair (Rec.int.sl))))
theorem shapeReport {tr : Prop} {w : World} {S : Nat → Prop} {a : AReport} {cs : List Value} (h : RReport.rd tr w S a cs) : ∃ (x0 : Int) (x1 : Int) (x2a : Option Addr) (x2b : Nat) (x2c : Nat) (x3a : Option Addr) (x3b : Nat) (x3c : Nat) (x4a : Option Addr) (x4b : Nat) (x4c : Nat), cs = [.int .i64 x0, .int .i64 x1, .slice x2a x2b x2c, .slice x3a x3b x3c, .slice x4a x4b x4c] := by
  obtain ⟨_, _, _, _, rfl, p1, q1, _⟩ := h
  obtain rfl := p1
  obtain ⟨_, _, _, _, rfl, p2, q2, _⟩ := q1
  obtain rfl := p2
  obtain ⟨_, _, _, _, rfl, p3, q3, _⟩ := q2
  obtain ⟨_, _, rfl, _⟩ := p3
  obtain ⟨_, _, _, _, rfl, p4, q4, _⟩ := q3
  obtain ⟨_, _, rfl, _⟩ := p4
  obtain ⟨_, _, rfl, _⟩ := q4
  exact ⟨_, _, _, _, _, _, _, _, _, _, _, rfl⟩
set_option maxRecDepth 100000 in
set_option maxHeartbeats 1000000 in
theorem toReport (a : AReport) (cs : List Value) (w : World) (h : RReport.rd False w (Old w) a cs) (hw : RReport.wt a ≤ 1048576) :
    Calls Try.prog 39 #[.agg cs.toArray] w fun e w2 => ∃ cs2, e = .returned (.agg cs2.toArray) ∧ RReport.rd True w2 (Span w.heap.size w2.heap.size) a cs2 ∧ Below w.heap.size w w2 := by
  obtain ⟨a0, a1, a2, a3, a4⟩ := a
  obtain ⟨_, _, _, _, rfl, p0, q0, i0, j0, -⟩ := h
  obtain ⟨_, _, _, _, rfl, p1, q1, i1, j1, -⟩ := q0
  obtain ⟨_, _, _, _, rfl, p2, q2, i2, j2, -⟩ := q1
  obtain ⟨_, _, _, _, rfl, p3, q3, i3, j3, -⟩ := q2
  have h2 := REvent.sl.mono p2 (fun b h => j0 b (j1 b (i2 b h)))
  have h3 := RProc.sl.mono p3 (fun b h => j0 b (j1 b (j2 b (i3 b h))))
  have h4 := Rec.int.sl.mono q3 (fun b h => j0 b (j1 b (j2 b (j3 b h))))
  obtain rfl := p0
  obtain rfl := p1
  obtain ⟨A2, c2, rfl, -⟩ := id h2
  have H2 := Aside.mk h2
  obtain ⟨A3, c3, rfl, -⟩ := id h3
  have H3 := Aside.mk h3
  obtain ⟨A4, c4, rfl, -⟩ := id h4
  have H4 := Aside.mk h4
  have hw2 : Rec.int.wt a0 + (Rec.int.wt a1 + (REvent.sl.wt a2 + (RProc.sl.wt a3 + (Rec.int.sl.wt a4)))) ≤ 1048576 := hw
  have W2 : REvent.sl.wt a2 ≤ 1048576 := by omega
  have W3 : RProc.sl.wt a3 ≤ 1048576 := by omega
  have W4 : Rec.int.sl.wt a4 ≤ 1048576 := by omega
  clear hw hw2
  show Calls Try.prog 39 #[.agg #[.int .i64 a0, .int .i64 a1, .slice A2 a2.length c2, .slice A3 a3.length c3, .slice A4 a4.length c4]] w _
  clear h2 h3 h4 i0 j0 i1 j1 i2 j2 i3 j3 p2 p3 q3
  go_enter Try.func39, Try.ntmps39
  go_wp2_with fail
  refine (toEventS a2 (fun x _ cs w1 h hw => toEvent x cs w1 h hw) _ _ W2 (REvent.sl.old H2.out (by go_grown))).mono ?_
  rintro e w1 ⟨r2, rfl, hr2, hb1⟩
  have hs1 : w.heap.size + 3 ≤ w1.heap.size := by have := hb1.size; simp at this; omega
  have hr2 : REvent.sl.rd True w1 (Span (w.heap.size + 3) w1.heap.size) a2 [r2] := REvent.sl.mono hr2 (fun b h => ⟨by have := h.1; simp at this; omega, h.2⟩)
  obtain ⟨B2, d2, he, -⟩ := id hr2
  injection he with he _
  subst he
  have HR2 := Aside.mk hr2
  have k0 := (((Blk.new w 61 [.int .i64 a0, .int .i64 a1, .slice A2 a2.length c2, .slice A3 a3.length c3, .slice A4 a4.length c4]).alloc _).alloc _).below hb1
  have k1 := ((Blk.made (w.alloc _) 67 [.int .i64 0, .int .i64 0, .slice none 0 0, .slice none 0 0, .slice none 0 0] (g := w.heap.size + 1) (by simp)).alloc _).below hb1
  have k2 := (Blk.made ((w.alloc _).alloc _) 67 [.int .i64 a0, .int .i64 a1, .slice none 0 0, .slice none 0 0, .slice none 0 0] (g := w.heap.size + 1 + 1) (by simp)).below hb1
  have bel : Below w.heap.size w w1 := below_later (by go_grown) hb1
  have y0_0 : w1.cell? ⟨w.heap.size, 0, none⟩ = some (.int .i64 a0) := k0.cell 0
  have y1_0 : w1.cell? ⟨w.heap.size + 1, 0, none⟩ = some (.int .i64 0) := k1.cell 0
  have y2_0 : w1.cell? ⟨w.heap.size + 1 + 1, 0, none⟩ = some (.int .i64 a0) := k2.cell 0
  have z1_0 := k1.free 0
  have z2_0 := k2.free 0
  have y0_1 : w1.cell? ⟨w.heap.size, 1, none⟩ = some (.int .i64 a1) := k0.cell 1
  have y1_1 : w1.cell? ⟨w.heap.size + 1, 1, none⟩ = some (.int .i64 0) := k1.cell 1
  have y2_1 : w1.cell? ⟨w.heap.size + 1 + 1, 1, none⟩ = some (.int .i64 a1) := k2.cell 1
  have z1_1 := k1.free 1
  have z2_1 := k2.free 1
  have y0_2 : w1.cell? ⟨w.heap.size, 2, none⟩ = some (.slice A2 a2.length c2) := k0.cell 2
  have y1_2 : w1.cell? ⟨w.heap.size + 1, 2, none⟩ = some (.slice none 0 0) := k1.cell 2
  have y2_2 : w1.cell? ⟨w.heap.size + 1 + 1, 2, none⟩ = some (.slice none 0 0) := k2.cell 2
  have z1_2 := k1.free 2
  have z2_2 := k2.free 2
  have y0_3 : w1.cell? ⟨w.heap.size, 3, none⟩ = some (.slice A3 a3.length c3) := k0.cell 3
  have y1_3 : w1.cell? ⟨w.heap.size + 1, 3, none⟩ = some (.slice none 0 0) := k1.cell 3
  have y2_3 : w1.cell? ⟨w.heap.size + 1 + 1, 3, none⟩ = some (.slice none 0 0) := k2.cell 3
  have z1_3 := k1.free 3
  have z2_3 := k2.free 3
  have y0_4 : w1.cell? ⟨w.heap.size, 4, none⟩ = some (.slice A4 a4.length c4) := k0.cell 4
  have y1_4 : w1.cell? ⟨w.heap.size + 1, 4, none⟩ = some (.slice none 0 0) := k1.cell 4
  have y2_4 : w1.cell? ⟨w.heap.size + 1 + 1, 4, none⟩ = some (.slice none 0 0) := k2.cell 4
  have z1_4 := k1.free 4
  have z2_4 := k2.free 4
  have K0 := Aside.mk k0
  have K1 := Aside.mk k1
  have K2 := Aside.mk k2
  have BEL := Aside.mk bel
  clear k0 k1 k2 bel hb1 hr2
  go_wp2_with fail
  have k0 := K0.out
  have k1 := K1.out
  have k2 := K2.out
  have bel := BEL.out
  clear K0 K1 K2 BEL y0_0 y0_1 y0_2 y0_3 y0_4 y1_0 y1_1 y1_2 y1_3 y1_4 y2_0 y2_1 y2_2 y2_3 y2_4 z1_0 z1_1 z1_2 z1_3 z1_4 z2_0 z2_1 z2_2 z2_3 z2_4
  refine (toProcS a3 (fun x _ cs w1 h hw => toProc x cs w1 h hw) _ _ W3 (RProc.sl.old H3.out (by go_grown))).mono ?_
  rintro e w2 ⟨r3, rfl, hr3, hb2⟩
  have hs2 : w1.heap.size ≤ w2.heap.size := by have := hb2.size; simpa using this
  have hr3 : RProc.sl.rd True w2 (Span (w1.heap.size) w2.heap.size) a3 [r3] := RProc.sl.mono hr3 (fun b h => ⟨by have := h.1; simp at this; omega, h.2⟩)
  obtain ⟨B3, d3, he, -⟩ := id hr3
  injection he with he _
  subst he
  have hr2 := REvent.sl.carry HR2.out (fun b h1 h2 => by rw [heap_far (by omega)]) (by first | (simp; done) | (simp; omega)) hb2
  clear HR2
  have HR2 := Aside.mk hr2
  clear hr2
  have HR3 := Aside.mk hr3
  have k0 := ((k0.far (by first | (simp; done) | (simp; omega)) _)).below hb2
  have k1 := ((k1.far (by first | (simp; done) | (simp; omega)) _)).below hb2
  have k2 : Blk w2 (w.heap.size + 1 + 1) 67 [.int .i64 a0, .int .i64 a1, .slice B2 a2.length d2, .slice none 0 0, .slice none 0 0] := ((k2.set 2 _)).below hb2
  have bel : Below w.heap.size w w2 := below_later (by go_grown) hb2
  have y0_0 : w2.cell? ⟨w.heap.size, 0, none⟩ = some (.int .i64 a0) := k0.cell 0
  have y1_0 : w2.cell? ⟨w.heap.size + 1, 0, none⟩ = some (.int .i64 0) := k1.cell 0
  have y2_0 : w2.cell? ⟨w.heap.size + 1 + 1, 0, none⟩ = some (.int .i64 a0) := k2.cell 0
  have z1_0 := k1.free 0
  have z2_0 := k2.free 0
  have y0_1 : w2.cell? ⟨w.heap.size, 1, none⟩ = some (.int .i64 a1) := k0.cell 1
  have y1_1 : w2.cell? ⟨w.heap.size + 1, 1, none⟩ = some (.int .i64 0) := k1.cell 1
  have y2_1 : w2.cell? ⟨w.heap.size + 1 + 1, 1, none⟩ = some (.int .i64 a1) := k2.cell 1
  have z1_1 := k1.free 1
  have z2_1 := k2.free 1
  have y0_2 : w2.cell? ⟨w.heap.size, 2, none⟩ = some (.slice A2 a2.length c2) := k0.cell 2
  have y1_2 : w2.cell? ⟨w.heap.size + 1, 2, none⟩ = some (.slice none 0 0) := k1.cell 2
  have y2_2 : w2.cell? ⟨w.heap.size + 1 + 1, 2, none⟩ = some (.slice B2 a2.length d2) := k2.cell 2
  have z1_2 := k1.free 2
  have z2_2 := k2.free 2
  have y0_3 : w2.cell? ⟨w.heap.size, 3, none⟩ = some (.slice A3 a3.length c3) := k0.cell 3
  have y1_3 : w2.cell? ⟨w.heap.size + 1, 3, none⟩ = some (.slice none 0 0) := k1.cell 3
  have y2_3 : w2.cell? ⟨w.heap.size + 1 + 1, 3, none⟩ = some (.slice none 0 0) := k2.cell 3
  have z1_3 := k1.free 3
  have z2_3 := k2.free 3
  have y0_4 : w2.cell? ⟨w.heap.size, 4, none⟩ = some (.slice A4 a4.length c4) := k0.cell 4
  have y1_4 : w2.cell? ⟨w.heap.size + 1, 4, none⟩ = some (.slice none 0 0) := k1.cell 4
  have y2_4 : w2.cell? ⟨w.heap.size + 1 + 1, 4, none⟩ = some (.slice none 0 0) := k2.cell 4
  have z1_4 := k1.free 4
  have z2_4 := k2.free 4
  have K0 := Aside.mk k0
  have K1 := Aside.mk k1
  have K2 := Aside.mk k2
  have BEL := Aside.mk bel
  clear k0 k1 k2 bel hb2 hr3
  go_wp2_with fail
  have k0 := K0.out
  have k1 := K1.out
  have k2 := K2.out
  have bel := BEL.out
  clear K0 K1 K2 BEL y0_0 y0_1 y0_2 y0_3 y0_4 y1_0 y1_1 y1_2 y1_3 y1_4 y2_0 y2_1 y2_2 y2_3 y2_4 z1_0 z1_1 z1_2 z1_3 z1_4 z2_0 z2_1 z2_2 z2_3 z2_4
  refine (toIntS a4 _ _ W4 (Rec.int.sl.old H4.out (by go_grown))).mono ?_
  rintro e w3 ⟨r4, rfl, hr4, hb3⟩
  have hs3 : w2.heap.size ≤ w3.heap.size := by have := hb3.size; simpa using this
  have hr4 : Rec.int.sl.rd True w3 (Span (w2.heap.size) w3.heap.size) a4 [r4] := Rec.int.sl.mono hr4 (fun b h => ⟨by have := h.1; simp at this; omega, h.2⟩)
  obtain ⟨B4, d4, he, -⟩ := id hr4
  injection he with he _
  subst he
  have hr2 := REvent.sl.carry HR2.out (fun b h1 h2 => by rw [heap_far (by omega)]) (by first | (simp; done) | (simp; omega)) hb3
  clear HR2
  have HR2 := Aside.mk hr2
  clear hr2
  have hr3 := RProc.sl.carry HR3.out (fun b h1 h2 => by rw [heap_far (by omega)]) (by first | (simp; done) | (simp; omega)) hb3
  clear HR3
  have HR3 := Aside.mk hr3
  clear hr3
  have HR4 := Aside.mk hr4
  have k0 := ((k0.far (by first | (simp; done) | (simp; omega)) _)).below hb3
  have k1 := ((k1.far (by first | (simp; done) | (simp; omega)) _)).below hb3
  have k2 : Blk w3 (w.heap.size + 1 + 1) 67 [.int .i64 a0, .int .i64 a1, .slice B2 a2.length d2, .slice B3 a3.length d3, .slice none 0 0] := ((k2.set 3 _)).below hb3
  have bel : Below w.heap.size w w3 := below_later (by go_grown) hb3
  have y0_0 : w3.cell? ⟨w.heap.size, 0, none⟩ = some (.int .i64 a0) := k0.cell 0
  have y1_0 : w3.cell? ⟨w.heap.size + 1, 0, none⟩ = some (.int .i64 0) := k1.cell 0
  have y2_0 : w3.cell? ⟨w.heap.size + 1 + 1, 0, none⟩ = some (.int .i64 a0) := k2.cell 0
  have z1_0 := k1.free 0
  have z2_0 := k2.free 0
  have y0_1 : w3.cell? ⟨w.heap.size, 1, none⟩ = some (.int .i64 a1) := k0.cell 1
  have y1_1 : w3.cell? ⟨w.heap.size + 1, 1, none⟩ = some (.int .i64 0) := k1.cell 1
  have y2_1 : w3.cell? ⟨w.heap.size + 1 + 1, 1, none⟩ = some (.int .i64 a1) := k2.cell 1
  have z1_1 := k1.free 1
  have z2_1 := k2.free 1
  have y0_2 : w3.cell? ⟨w.heap.size, 2, none⟩ = some (.slice A2 a2.length c2) := k0.cell 2
  have y1_2 : w3.cell? ⟨w.heap.size + 1, 2, none⟩ = some (.slice none 0 0) := k1.cell 2
  have y2_2 : w3.cell? ⟨w.heap.size + 1 + 1, 2, none⟩ = some (.slice B2 a2.length d2) := k2.cell 2
  have z1_2 := k1.free 2
  have z2_2 := k2.free 2
  have y0_3 : w3.cell? ⟨w.heap.size, 3, none⟩ = some (.slice A3 a3.length c3) := k0.cell 3
  have y1_3 : w3.cell? ⟨w.heap.size + 1, 3, none⟩ = some (.slice none 0 0) := k1.cell 3
  have y2_3 : w3.cell? ⟨w.heap.size + 1 + 1, 3, none⟩ = some (.slice B3 a3.length d3) := k2.cell 3
  have z1_3 := k1.free 3
  have z2_3 := k2.free 3
  have y0_4 : w3.cell? ⟨w.heap.size, 4, none⟩ = some (.slice A4 a4.length c4) := k0.cell 4
  have y1_4 : w3.cell? ⟨w.heap.size + 1, 4, none⟩ = some (.slice none 0 0) := k1.cell 4
  have y2_4 : w3.cell? ⟨w.heap.size + 1 + 1, 4, none⟩ = some (.slice none 0 0) := k2.cell 4
  have z1_4 := k1.free 4
  have z2_4 := k2.free 4
  have K0 := Aside.mk k0
  have K1 := Aside.mk k1
  have K2 := Aside.mk k2
  have BEL := Aside.mk bel
  clear k0 k1 k2 bel hb3 hr4
  go_wp2_with fail
  have k1 := K1.out
  have bel := BEL.out
  refine bodyPost_ret (res_c rfl _ _ (w.heap.size + 1) 67 [.int .i64 a0, .int .i64 a1, .slice B2 a2.length d2, .slice B3 a3.length d3, .slice B4 a4.length d4] _ rfl ?k Try.underlying67 rfl (by kernel_rfl)) rfl ⟨_, rfl, ?r, ?b⟩
  case k => exact ((((((k1.far (by simp) _).set 0 _).set 1 _).set 2 _).set 3 _).set 4 _)
  case b => go_grown
  case r =>
    have hr2 := HR2.out
    have hr3 := HR3.out
    have hr4 := HR4.out
    exact RReport.mono (Rec.join (Rec.int_rd True _ NoB _) (Rec.join (Rec.int_rd True _ NoB _) (Rec.join (REvent.sl.over hr2 (fun b h1 h2 => by rw [heap_far (by omega)]; rw [heap_far (by omega)]; rw [heap_far (by omega)]; rw [heap_far (by omega)]; rw [heap_far (by omega)]; rw [heap_far (by omega)])) (Rec.join (RProc.sl.over hr3 (fun b h1 h2 => by rw [heap_far (by omega)]; rw [heap_far (by omega)]; rw [heap_far (by omega)]; rw [heap_far (by omega)]; rw [heap_far (by omega)]; rw [heap_far (by omega)])) (Rec.int.sl.over hr4 (fun b h1 h2 => by rw [heap_far (by omega)]; rw [heap_far (by omega)]; rw [heap_far (by omega)]; rw [heap_far (by omega)]; rw [heap_far (by omega)]; rw [heap_far (by omega)])) (fun b h1 h2 => by first | exact h1.elim | exact h2.elim | (simp only [Span] at h1 h2; omega) | (simp only [Span, NoB, false_or, or_false] at h1 h2; omega))) (fun b h1 h2 => by first | exact h1.elim | exact h2.elim | (simp only [Span] at h1 h2; omega) | (simp only [Span, NoB, false_or, or_false] at h1 h2; omega))) (fun b h1 h2 => by first | exact h1.elim | exact h2.elim | (simp only [Span] at h1 h2; omega) | (simp only [Span, NoB, false_or, or_false] at h1 h2; omega))) (fun b h1 h2 => by first | exact h1.elim | exact h2.elim | (simp only [Span] at h1 h2; omega) | (simp only [Span, NoB, false_or, or_false] at h1 h2; omega))) (fun b h => by simp [Span, NoB] at h ⊢ <;> omega)
set_option maxRecDepth 100000 in
set_option maxHeartbeats 1000000 in
theorem szReport (a : AReport) (cs : List Value) (w : World) (left : Int) (h : RReport.rd False w (Old w) a cs) (ho : RReport.ok a) (hl0 : 0 ≤ left) (hl : left ≤ 1048576) :
    Calls Try.prog 37 #[.agg cs.toArray, .int .i64 left] w fun e w2 => e = .returned (.int .i64 (szR (RReport.wt a) left)) ∧ Below w.heap.size w w2 := by
  obtain ⟨a0, a1, a2, a3, a4⟩ := a
  have ho2 : Rec.int.ok a0 ∧ (Rec.int.ok a1 ∧ (REvent.sl.ok a2 ∧ (RProc.sl.ok a3 ∧ (Rec.int.sl.ok a4)))) := ho
  obtain ⟨o0, o1, o2, o3, o4⟩ := ho2
  generalize hT : RReport.wt (a0, a1, a2, a3, a4) = N
  have hT2 : Rec.int.wt a0 + (Rec.int.wt a1 + (REvent.sl.wt a2 + (RProc.sl.wt a3 + (Rec.int.sl.wt a4)))) = N := hT
  have t0 : Rec.int.wt a0 = 0 := rfl
  have t1 : Rec.int.wt a1 = 0 := rfl
  obtain ⟨n2, t2⟩ : ∃ n, REvent.sl.wt a2 = n := ⟨_, rfl⟩
  have T2 := Aside.mk t2
  have O2 := Aside.mk o2
  obtain ⟨n3, t3⟩ : ∃ n, RProc.sl.wt a3 = n := ⟨_, rfl⟩
  have T3 := Aside.mk t3
  have O3 := Aside.mk o3
  obtain ⟨n4, t4⟩ : ∃ n, Rec.int.sl.wt a4 = n := ⟨_, rfl⟩
  have T4 := Aside.mk t4
  have O4 := Aside.mk o4
  have hN : N = n2 + n3 + n4 := by omega
  clear ho hT hT2 o0 t0 o1 t1 o2 t2 o3 t3 o4 t4
  obtain ⟨_, _, _, _, rfl, p0, q0, i0, j0, -⟩ := h
  obtain ⟨_, _, _, _, rfl, p1, q1, i1, j1, -⟩ := q0
  obtain ⟨_, _, _, _, rfl, p2, q2, i2, j2, -⟩ := q1
  obtain ⟨_, _, _, _, rfl, p3, q3, i3, j3, -⟩ := q2
  have h2 := REvent.sl.mono p2 (fun b h => j0 b (j1 b (i2 b h)))
  have h3 := RProc.sl.mono p3 (fun b h => j0 b (j1 b (j2 b (i3 b h))))
  have h4 := Rec.int.sl.mono q3 (fun b h => j0 b (j1 b (j2 b (j3 b h))))
  obtain rfl := p0
  obtain rfl := p1
  obtain ⟨A2, c2, rfl, -⟩ := id h2
  have H2 := Aside.mk h2
  obtain ⟨A3, c3, rfl, -⟩ := id h3
  have H3 := Aside.mk h3
  obtain ⟨A4, c4, rfl, -⟩ := id h4
  have H4 := Aside.mk h4
  show Calls Try.prog 37 #[.agg #[.int .i64 a0, .int .i64 a1, .slice A2 a2.length c2, .slice A3 a3.length c3, .slice A4 a4.length c4], .int .i64 left] w _
  clear i0 j0 i1 j1 i2 j2 i3 j3 h2 p2 h3 p3 h4 q3
  go_enter Try.func37, Try.ntmps37
  go_wp2_with fail
  refine (szEventS a2 (fun x _ cs w1 l h ho h0 hl => szEvent x cs w1 l h ho h0 hl) _ _ (left) (REvent.sl.old H2.out (by go_grown)) O2.out (by omega) (by omega)).mono ?_
  rintro e w1 ⟨rfl, hb1⟩
  rw [T2.out]
  have k0 := (Blk.new w 61 [.int .i64 a0, .int .i64 a1, .slice A2 a2.length c2, .slice A3 a3.length c3, .slice A4 a4.length c4]).below hb1
  have bel : Below w.heap.size w w1 := below_later (by go_grown) hb1
  have y1_0 : w1.cell? ⟨w.heap.size, 0, none⟩ = some (.int .i64 a0) := k0.cell 0
  have y1_1 : w1.cell? ⟨w.heap.size, 1, none⟩ = some (.int .i64 a1) := k0.cell 1
  have y1_2 : w1.cell? ⟨w.heap.size, 2, none⟩ = some (.slice A2 a2.length c2) := k0.cell 2
  have y1_3 : w1.cell? ⟨w.heap.size, 3, none⟩ = some (.slice A3 a3.length c3) := k0.cell 3
  have y1_4 : w1.cell? ⟨w.heap.size, 4, none⟩ = some (.slice A4 a4.length c4) := k0.cell 4
  have K0 := Aside.mk k0
  clear k0 hb1
  by_cases c2n : (n2 : Int) ≤ left
  rotate_left
  · rw [szR_no c2n]
    go_wp2_with fail
    go_ret; exact ⟨ret_int (by simp only [szR]; split <;> omega), by go_grown⟩
  rw [szR_yes c2n]
  go_wp2_with fail
  refine (szProcS a3 (fun x _ cs w1 l h ho h0 hl => szProc x cs w1 l h ho h0 hl) _ _ (left - n2) (RProc.sl.old H3.out (by go_grown)) O3.out (by omega) (by omega)).mono ?_
  rintro e w2 ⟨rfl, hb2⟩
  rw [T3.out]
  have k0 := (K0.out).below hb2
  have bel : Below w.heap.size w w2 := below_later (by go_grown) hb2
  have y2_0 : w2.cell? ⟨w.heap.size, 0, none⟩ = some (.int .i64 a0) := k0.cell 0
  have y2_1 : w2.cell? ⟨w.heap.size, 1, none⟩ = some (.int .i64 a1) := k0.cell 1
  have y2_2 : w2.cell? ⟨w.heap.size, 2, none⟩ = some (.slice A2 a2.length c2) := k0.cell 2
  have y2_3 : w2.cell? ⟨w.heap.size, 3, none⟩ = some (.slice A3 a3.length c3) := k0.cell 3
  have y2_4 : w2.cell? ⟨w.heap.size, 4, none⟩ = some (.slice A4 a4.length c4) := k0.cell 4
  clear K0
  have K0 := Aside.mk k0
  clear k0 hb2
  by_cases c3n : (n3 : Int) ≤ left - n2
  rotate_left
  · rw [szR_no c3n]
    go_wp2_with fail
    go_ret; exact ⟨ret_int (by simp only [szR]; split <;> omega), by go_grown⟩
  rw [szR_yes c3n]
  go_wp2_with fail
  refine (szIntS a4 _ _ (left - n2 - n3) (Rec.int.sl.old H4.out (by go_grown)) O4.out (by omega) (by omega)).mono ?_
  rintro e w3 ⟨rfl, hb3⟩
  rw [T4.out]
  have k0 := (K0.out).below hb3
  have bel : Below w.heap.size w w3 := below_later (by go_grown) hb3
  have y3_0 : w3.cell? ⟨w.heap.size, 0, none⟩ = some (.int .i64 a0) := k0.cell 0
  have y3_1 : w3.cell? ⟨w.heap.size, 1, none⟩ = some (.int .i64 a1) := k0.cell 1
  have y3_2 : w3.cell? ⟨w.heap.size, 2, none⟩ = some (.slice A2 a2.length c2) := k0.cell 2
  have y3_3 : w3.cell? ⟨w.heap.size, 3, none⟩ = some (.slice A3 a3.length c3) := k0.cell 3
  have y3_4 : w3.cell? ⟨w.heap.size, 4, none⟩ = some (.slice A4 a4.length c4) := k0.cell 4
  clear K0
  have K0 := Aside.mk k0
  clear k0 hb3
  by_cases c4n : (n4 : Int) ≤ left - n2 - n3
  rotate_left
  · rw [szR_no c4n]
    go_wp2_with fail
    go_ret; exact ⟨ret_int (by simp only [szR]; split <;> omega), by go_grown⟩
  rw [szR_yes c4n]
  go_wp2_with fail
  go_ret; exact ⟨ret_int (by simp only [szR]; split <;> omega), by go_grown⟩
set_option maxRecDepth 100000 in
set_option maxHeartbeats 1000000 in
theorem eqReport (a : AReport) (ca cb : List Value) (w : World) (ha : RReport.rd False w (Old w) a ca) (hb : RReport.rd False w (Old w) a cb) (ho : RReport.ok a) :
    Calls Try.prog 41 #[.agg ca.toArray, .agg cb.toArray] w fun e w2 => e = .returned (.bool true) ∧ Below w.heap.size w w2 := by
  obtain ⟨a0, a1, a2, a3, a4⟩ := a
  have ho2 : Rec.int.ok a0 ∧ (Rec.int.ok a1 ∧ (REvent.sl.ok a2 ∧ (RProc.sl.ok a3 ∧ (Rec.int.sl.ok a4)))) := ho
  obtain ⟨o0, o1, o2, o3, o4⟩ := ho2
  have O2 := Aside.mk o2
  have O3 := Aside.mk o3
  have O4 := Aside.mk o4
  clear ho o0 o1 o2 o3 o4
  obtain ⟨_, _, _, _, rfl, p0a, q0a, i0a, j0a, -⟩ := ha
  obtain ⟨_, _, _, _, rfl, p1a, q1a, i1a, j1a, -⟩ := q0a
  obtain ⟨_, _, _, _, rfl, p2a, q2a, i2a, j2a, -⟩ := q1a
  obtain ⟨_, _, _, _, rfl, p3a, q3a, i3a, j3a, -⟩ := q2a
  have h2a := REvent.sl.mono p2a (fun b h => j0a b (j1a b (i2a b h)))
  have h3a := RProc.sl.mono p3a (fun b h => j0a b (j1a b (j2a b (i3a b h))))
  have h4a := Rec.int.sl.mono q3a (fun b h => j0a b (j1a b (j2a b (j3a b h))))
  obtain rfl := p0a
  obtain rfl := p1a
  obtain ⟨A2a, c2a, rfl, -⟩ := id h2a
  have H2a := Aside.mk h2a
  obtain ⟨A3a, c3a, rfl, -⟩ := id h3a
  have H3a := Aside.mk h3a
  obtain ⟨A4a, c4a, rfl, -⟩ := id h4a
  have H4a := Aside.mk h4a
  obtain ⟨_, _, _, _, rfl, p0b, q0b, i0b, j0b, -⟩ := hb
  obtain ⟨_, _, _, _, rfl, p1b, q1b, i1b, j1b, -⟩ := q0b
  obtain ⟨_, _, _, _, rfl, p2b, q2b, i2b, j2b, -⟩ := q1b
  obtain ⟨_, _, _, _, rfl, p3b, q3b, i3b, j3b, -⟩ := q2b
  have h2b := REvent.sl.mono p2b (fun b h => j0b b (j1b b (i2b b h)))
  have h3b := RProc.sl.mono p3b (fun b h => j0b b (j1b b (j2b b (i3b b h))))
  have h4b := Rec.int.sl.mono q3b (fun b h => j0b b (j1b b (j2b b (j3b b h))))
  obtain rfl := p0b
  obtain rfl := p1b
  obtain ⟨A2b, c2b, rfl, -⟩ := id h2b
  have H2b := Aside.mk h2b
  obtain ⟨A3b, c3b, rfl, -⟩ := id h3b
  have H3b := Aside.mk h3b
  obtain ⟨A4b, c4b, rfl, -⟩ := id h4b
  have H4b := Aside.mk h4b
  show Calls Try.prog 41 #[.agg #[.int .i64 a0, .int .i64 a1, .slice A2a a2.length c2a, .slice A3a a3.length c3a, .slice A4a a4.length c4a], .agg #[.int .i64 a0, .int .i64 a1, .slice A2b a2.length c2b, .slice A3b a3.length c3b, .slice A4b a4.length c4b]] w _
  clear i0a j0a i1a j1a i2a j2a i3a j3a h2a p2a h3a p3a h4a q3a i0b j0b i1b j1b i2b j2b i3b j3b h2b p2b h3b p3b h4b q3b
  go_enter Try.func41, Try.ntmps41
  go_wp2_with fail
  refine (eqEventS a2 (fun x _ ca cb w1 ha hb ho => eqEvent x ca cb w1 ha hb ho) _ _ _ (REvent.sl.old H2a.out (by go_grown)) (REvent.sl.old H2b.out (by go_grown)) O2.out).mono ?_
  rintro e w1 ⟨rfl, hb1⟩
  have k0 := ((Blk.new w 67 [.int .i64 a0, .int .i64 a1, .slice A2a a2.length c2a, .slice A3a a3.length c3a, .slice A4a a4.length c4a]).alloc _).below hb1
  have k1 := (Blk.made (w.alloc _) 67 [.int .i64 a0, .int .i64 a1, .slice A2b a2.length c2b, .slice A3b a3.length c3b, .slice A4b a4.length c4b] (g := w.heap.size + 1) (by simp)).below hb1
  have bel : Below w.heap.size w w1 := below_later (by go_grown) hb1
  have y01_0 : w1.cell? ⟨w.heap.size, 0, none⟩ = some (.int .i64 a0) := k0.cell 0
  have y11_0 : w1.cell? ⟨w.heap.size + 1, 0, none⟩ = some (.int .i64 a0) := k1.cell 0
  have y01_1 : w1.cell? ⟨w.heap.size, 1, none⟩ = some (.int .i64 a1) := k0.cell 1
  have y11_1 : w1.cell? ⟨w.heap.size + 1, 1, none⟩ = some (.int .i64 a1) := k1.cell 1
  have y01_2 : w1.cell? ⟨w.heap.size, 2, none⟩ = some (.slice A2a a2.length c2a) := k0.cell 2
  have y11_2 : w1.cell? ⟨w.heap.size + 1, 2, none⟩ = some (.slice A2b a2.length c2b) := k1.cell 2
  have y01_3 : w1.cell? ⟨w.heap.size, 3, none⟩ = some (.slice A3a a3.length c3a) := k0.cell 3
  have y11_3 : w1.cell? ⟨w.heap.size + 1, 3, none⟩ = some (.slice A3b a3.length c3b) := k1.cell 3
  have y01_4 : w1.cell? ⟨w.heap.size, 4, none⟩ = some (.slice A4a a4.length c4a) := k0.cell 4
  have y11_4 : w1.cell? ⟨w.heap.size + 1, 4, none⟩ = some (.slice A4b a4.length c4b) := k1.cell 4
  have K0 := Aside.mk k0
  have K1 := Aside.mk k1
  clear k0 k1 hb1
  go_wp2_with fail
  refine (eqProcS a3 (fun x _ ca cb w1 ha hb ho => eqProc x ca cb w1 ha hb ho) _ _ _ (RProc.sl.old H3a.out (by go_grown)) (RProc.sl.old H3b.out (by go_grown)) O3.out).mono ?_
  rintro e w2 ⟨rfl, hb2⟩
  have k0 := (K0.out).below hb2
  have k1 := (K1.out).below hb2
  have bel : Below w.heap.size w w2 := below_later (by go_grown) hb2
  have y02_0 : w2.cell? ⟨w.heap.size, 0, none⟩ = some (.int .i64 a0) := k0.cell 0
  have y12_0 : w2.cell? ⟨w.heap.size + 1, 0, none⟩ = some (.int .i64 a0) := k1.cell 0
  have y02_1 : w2.cell? ⟨w.heap.size, 1, none⟩ = some (.int .i64 a1) := k0.cell 1
  have y12_1 : w2.cell? ⟨w.heap.size + 1, 1, none⟩ = some (.int .i64 a1) := k1.cell 1
  have y02_2 : w2.cell? ⟨w.heap.size, 2, none⟩ = some (.slice A2a a2.length c2a) := k0.cell 2
  have y12_2 : w2.cell? ⟨w.heap.size + 1, 2, none⟩ = some (.slice A2b a2.length c2b) := k1.cell 2
  have y02_3 : w2.cell? ⟨w.heap.size, 3, none⟩ = some (.slice A3a a3.length c3a) := k0.cell 3
  have y12_3 : w2.cell? ⟨w.heap.size + 1, 3, none⟩ = some (.slice A3b a3.length c3b) := k1.cell 3
  have y02_4 : w2.cell? ⟨w.heap.size, 4, none⟩ = some (.slice A4a a4.length c4a) := k0.cell 4
  have y12_4 : w2.cell? ⟨w.heap.size + 1, 4, none⟩ = some (.slice A4b a4.length c4b) := k1.cell 4
  clear K0 K1
  have K0 := Aside.mk k0
  have K1 := Aside.mk k1
  clear k0 k1 hb2
  go_wp2_with fail
  refine (eqIntS a4 _ _ _ (Rec.int.sl.old H4a.out (by go_grown)) (Rec.int.sl.old H4b.out (by go_grown)) O4.out).mono ?_
  rintro e w3 ⟨rfl, hb3⟩
  have k0 := (K0.out).below hb3
  have k1 := (K1.out).below hb3
  have bel : Below w.heap.size w w3 := below_later (by go_grown) hb3
  have y03_0 : w3.cell? ⟨w.heap.size, 0, none⟩ = some (.int .i64 a0) := k0.cell 0
  have y13_0 : w3.cell? ⟨w.heap.size + 1, 0, none⟩ = some (.int .i64 a0) := k1.cell 0
  have y03_1 : w3.cell? ⟨w.heap.size, 1, none⟩ = some (.int .i64 a1) := k0.cell 1
  have y13_1 : w3.cell? ⟨w.heap.size + 1, 1, none⟩ = some (.int .i64 a1) := k1.cell 1
  have y03_2 : w3.cell? ⟨w.heap.size, 2, none⟩ = some (.slice A2a a2.length c2a) := k0.cell 2
  have y13_2 : w3.cell? ⟨w.heap.size + 1, 2, none⟩ = some (.slice A2b a2.length c2b) := k1.cell 2
  have y03_3 : w3.cell? ⟨w.heap.size, 3, none⟩ = some (.slice A3a a3.length c3a) := k0.cell 3
  have y13_3 : w3.cell? ⟨w.heap.size + 1, 3, none⟩ = some (.slice A3b a3.length c3b) := k1.cell 3
  have y03_4 : w3.cell? ⟨w.heap.size, 4, none⟩ = some (.slice A4a a4.length c4a) := k0.cell 4
  have y13_4 : w3.cell? ⟨w.heap.size + 1, 4, none⟩ = some (.slice A4b a4.length c4b) := k1.cell 4
  clear K0 K1
  have K0 := Aside.mk k0
  have K1 := Aside.mk k1
  clear k0 k1 hb3
  go_wp2_with fail
  go_ret
  exact ⟨rfl, by go_grown⟩
theorem opensReport {H : Type} {enc : TypeId × Value → H} (n : Nat) : OpensAt enc Try.prog n 61 RReport :=
  opens_struct Try.underlying61 (by kernel_rfl) (fun m _ => (opensF_cons rfl (by kernel_rfl) (opens_int Try.underlying3) (opensF_cons rfl (by kernel_rfl) (opens_int Try.underlying3) (opensF_cons rfl (by kernel_rfl) (opens_sl Try.underlying57 (by kernel_rfl) (by decide) (fun m _ => (opensEvent _))) (opensF_cons rfl (by kernel_rfl) (opens_sl Try.underlying58 (by kernel_rfl) (by decide) (fun m _ => (opensProc _))) (opensF_one rfl (by kernel_rfl) (opens_sl Try.underlying59 (by kernel_rfl) (by decide) (fun m _ => (opens_int Try.underlying3)))))))))
end Go.Proofs.Ytdldgchkinflmaa.Lib
