/- Proc: how it lies in memory; copied, measured, compared. Conditions: those of each theorem. -/
import Derived.Test.YtdldgchkinflmaaGEvent
set_option linter.unusedVariables false
namespace Go.Proofs.Ytdldgchkinflmaa.Lib
open Go.RowKit Go.Proofs.Ytdldgchkinflmaa.Plan
abbrev AProc := Int × Bool × Int × Bool × ByteArray × (List T) × (List Int) × Int
def RProc : Rec AProc := Rec.int.pair (Rec.bool.pair (Rec.int.pair (Rec.bool.pair (Rec.str.pair (Rec.term.sl.pair (Rec.int.sl.pair (Rec.int)))))))
theorem shapeProc {tr : Prop} {w : World} {S : Nat → Prop} {a : AProc} {cs : List Value} (h : RProc.rd tr w S a cs) : ∃ (x0 : Int) (x1 : Bool) (x2 : Int) (x3 : Bool) (x4 : ByteArray) (x5a : Option Addr) (x5b : Nat) (x5c : Nat) (x6a : Option Addr) (x6b : Nat) (x6c : Nat) (x7 : Int), cs = [.int .i64 x0, .bool x1, .int .i64 x2, .bool x3, .string x4, .slice x5a x5b x5c, .slice x6a x6b x6c, .int .i64 x7] := by
  obtain ⟨_, _, _, _, rfl, p1, q1, _⟩ := h
  obtain rfl := p1
  obtain ⟨_, _, _, _, rfl, p2, q2, _⟩ := q1
  obtain rfl := p2
  obtain ⟨_, _, _, _, rfl, p3, q3, _⟩ := q2
  obtain rfl := p3
  obtain ⟨_, _, _, _, rfl, p4, q4, _⟩ := q3
  obtain rfl := p4
  obtain ⟨_, _, _, _, rfl, p5, q5, _⟩ := q4
  obtain rfl := p5
  obtain ⟨_, _, _, _, rfl, p6, q6, _⟩ := q5
  obtain ⟨_, _, rfl, _⟩ := p6
  obtain ⟨_, _, _, _, rfl, p7, q7, _⟩ := q6
  obtain ⟨_, _, rfl, _⟩ := p7
  obtain rfl := q7
  exact ⟨_, _, _, _, _, _, _, _, _, _, _, _, rfl⟩
set_option maxRecDepth 100000 in
set_option maxHeartbeats 1000000 in
theorem toProc (a : AProc) (cs : List Value) (w : World) (h : RProc.rd False w (Old w) a cs) (hw : RProc.wt a ≤ 1048576) :
    Calls Try.prog 174 #[.agg cs.toArray] w fun e w2 => ∃ cs2, e = .returned (.agg cs2.toArray) ∧ RProc.rd True w2 (Span w.heap.size w2.heap.size) a cs2 ∧ Below w.heap.size w w2 := by
  obtain ⟨a0, a1, a2, a3, a4, a5, a6, a7⟩ := a
  obtain ⟨_, _, _, _, rfl, p0, q0, i0, j0, -⟩ := h
  obtain ⟨_, _, _, _, rfl, p1, q1, i1, j1, -⟩ := q0
  obtain ⟨_, _, _, _, rfl, p2, q2, i2, j2, -⟩ := q1
  obtain ⟨_, _, _, _, rfl, p3, q3, i3, j3, -⟩ := q2
  obtain ⟨_, _, _, _, rfl, p4, q4, i4, j4, -⟩ := q3
  obtain ⟨_, _, _, _, rfl, p5, q5, i5, j5, -⟩ := q4
  obtain ⟨_, _, _, _, rfl, p6, q6, i6, j6, -⟩ := q5
  have h5 := Rec.term.sl.mono p5 (fun b h => j0 b (j1 b (j2 b (j3 b (j4 b (i5 b h))))))
  have h6 := Rec.int.sl.mono p6 (fun b h => j0 b (j1 b (j2 b (j3 b (j4 b (j5 b (i6 b h)))))))
  obtain rfl := p0
  obtain rfl := p1
  obtain rfl := p2
  obtain rfl := p3
  obtain rfl := p4
  obtain ⟨A5, c5, rfl, -⟩ := id h5
  have H5 := Aside.mk h5
  obtain ⟨A6, c6, rfl, -⟩ := id h6
  have H6 := Aside.mk h6
  obtain rfl := q6
  have hw2 : Rec.int.wt a0 + (Rec.bool.wt a1 + (Rec.int.wt a2 + (Rec.bool.wt a3 + (Rec.str.wt a4 + (Rec.term.sl.wt a5 + (Rec.int.sl.wt a6 + (Rec.int.wt a7))))))) ≤ 1048576 := hw
  have W5 : Rec.term.sl.wt a5 ≤ 1048576 := by omega
  have W6 : Rec.int.sl.wt a6 ≤ 1048576 := by omega
  clear hw hw2
  show Calls Try.prog 174 #[.agg #[.int .i64 a0, .bool a1, .int .i64 a2, .bool a3, .string a4, .slice A5 a5.length c5, .slice A6 a6.length c6, .int .i64 a7]] w _
  clear h5 h6 i0 j0 i1 j1 i2 j2 i3 j3 i4 j4 i5 j5 i6 j6 p5 p6
  go_enter Try.func174, Try.ntmps174
  go_wp2_with fail
  refine (toTermS a5 (fun x _ cs w1 h hw => toTerm x cs w1 h hw) _ _ W5 (Rec.term.sl.old H5.out (by go_grown))).mono ?_
  rintro e w1 ⟨r5, rfl, hr5, hb1⟩
  have hs1 : w.heap.size + 3 ≤ w1.heap.size := by have := hb1.size; simp at this; omega
  have hr5 : Rec.term.sl.rd True w1 (Span (w.heap.size + 3) w1.heap.size) a5 [r5] := Rec.term.sl.mono hr5 (fun b h => ⟨by have := h.1; simp at this; omega, h.2⟩)
  obtain ⟨B5, d5, he, -⟩ := id hr5
  injection he with he _
  subst he
  have HR5 := Aside.mk hr5
  have k0 := (((Blk.new w 216 [.int .i64 a0, .bool a1, .int .i64 a2, .bool a3, .string a4, .slice A5 a5.length c5, .slice A6 a6.length c6, .int .i64 a7]).alloc _).alloc _).below hb1
  have k1 := ((Blk.made (w.alloc _) 132 [.int .i64 0, .bool false, .int .i64 0, .bool false, .string ⟨#[]⟩, .slice none 0 0, .slice none 0 0, .int .i64 0] (g := w.heap.size + 1) (by simp)).alloc _).below hb1
  have k2 := (Blk.made ((w.alloc _).alloc _) 132 [.int .i64 a0, .bool a1, .int .i64 a2, .bool a3, .string a4, .slice none 0 0, .slice none 0 0, .int .i64 0] (g := w.heap.size + 1 + 1) (by simp)).below hb1
  have bel : Below w.heap.size w w1 := below_later (by go_grown) hb1
  have y0_0 : w1.cell? ⟨w.heap.size, 0, none⟩ = some (.int .i64 a0) := k0.cell 0
  have y1_0 : w1.cell? ⟨w.heap.size + 1, 0, none⟩ = some (.int .i64 0) := k1.cell 0
  have y2_0 : w1.cell? ⟨w.heap.size + 1 + 1, 0, none⟩ = some (.int .i64 a0) := k2.cell 0
  have z1_0 := k1.free 0
  have z2_0 := k2.free 0
  have y0_1 : w1.cell? ⟨w.heap.size, 1, none⟩ = some (.bool a1) := k0.cell 1
  have y1_1 : w1.cell? ⟨w.heap.size + 1, 1, none⟩ = some (.bool false) := k1.cell 1
  have y2_1 : w1.cell? ⟨w.heap.size + 1 + 1, 1, none⟩ = some (.bool a1) := k2.cell 1
  have z1_1 := k1.free 1
  have z2_1 := k2.free 1
  have y0_2 : w1.cell? ⟨w.heap.size, 2, none⟩ = some (.int .i64 a2) := k0.cell 2
  have y1_2 : w1.cell? ⟨w.heap.size + 1, 2, none⟩ = some (.int .i64 0) := k1.cell 2
  have y2_2 : w1.cell? ⟨w.heap.size + 1 + 1, 2, none⟩ = some (.int .i64 a2) := k2.cell 2
  have z1_2 := k1.free 2
  have z2_2 := k2.free 2
  have y0_3 : w1.cell? ⟨w.heap.size, 3, none⟩ = some (.bool a3) := k0.cell 3
  have y1_3 : w1.cell? ⟨w.heap.size + 1, 3, none⟩ = some (.bool false) := k1.cell 3
  have y2_3 : w1.cell? ⟨w.heap.size + 1 + 1, 3, none⟩ = some (.bool a3) := k2.cell 3
  have z1_3 := k1.free 3
  have z2_3 := k2.free 3
  have y0_4 : w1.cell? ⟨w.heap.size, 4, none⟩ = some (.string a4) := k0.cell 4
  have y1_4 : w1.cell? ⟨w.heap.size + 1, 4, none⟩ = some (.string ⟨#[]⟩) := k1.cell 4
  have y2_4 : w1.cell? ⟨w.heap.size + 1 + 1, 4, none⟩ = some (.string a4) := k2.cell 4
  have z1_4 := k1.free 4
  have z2_4 := k2.free 4
  have y0_5 : w1.cell? ⟨w.heap.size, 5, none⟩ = some (.slice A5 a5.length c5) := k0.cell 5
  have y1_5 : w1.cell? ⟨w.heap.size + 1, 5, none⟩ = some (.slice none 0 0) := k1.cell 5
  have y2_5 : w1.cell? ⟨w.heap.size + 1 + 1, 5, none⟩ = some (.slice none 0 0) := k2.cell 5
  have z1_5 := k1.free 5
  have z2_5 := k2.free 5
  have y0_6 : w1.cell? ⟨w.heap.size, 6, none⟩ = some (.slice A6 a6.length c6) := k0.cell 6
  have y1_6 : w1.cell? ⟨w.heap.size + 1, 6, none⟩ = some (.slice none 0 0) := k1.cell 6
  have y2_6 : w1.cell? ⟨w.heap.size + 1 + 1, 6, none⟩ = some (.slice none 0 0) := k2.cell 6
  have z1_6 := k1.free 6
  have z2_6 := k2.free 6
  have y0_7 : w1.cell? ⟨w.heap.size, 7, none⟩ = some (.int .i64 a7) := k0.cell 7
  have y1_7 : w1.cell? ⟨w.heap.size + 1, 7, none⟩ = some (.int .i64 0) := k1.cell 7
  have y2_7 : w1.cell? ⟨w.heap.size + 1 + 1, 7, none⟩ = some (.int .i64 0) := k2.cell 7
  have z1_7 := k1.free 7
  have z2_7 := k2.free 7
  have K0 := Aside.mk k0
  have K1 := Aside.mk k1
  have K2 := Aside.mk k2
  have BEL := Aside.mk bel
  clear k0 k1 k2 bel hb1 hr5
  go_wp2_with fail
  have k0 := K0.out
  have k1 := K1.out
  have k2 := K2.out
  have bel := BEL.out
  clear K0 K1 K2 BEL y0_0 y0_1 y0_2 y0_3 y0_4 y0_5 y0_6 y0_7 y1_0 y1_1 y1_2 y1_3 y1_4 y1_5 y1_6 y1_7 y2_0 y2_1 y2_2 y2_3 y2_4 y2_5 y2_6 y2_7 z1_0 z1_1 z1_2 z1_3 z1_4 z1_5 z1_6 z1_7 z2_0 z2_1 z2_2 z2_3 z2_4 z2_5 z2_6 z2_7
  refine (toIntS a6 _ _ W6 (Rec.int.sl.old H6.out (by go_grown))).mono ?_
  rintro e w2 ⟨r6, rfl, hr6, hb2⟩
  have hs2 : w1.heap.size ≤ w2.heap.size := by have := hb2.size; simpa using this
  have hr6 : Rec.int.sl.rd True w2 (Span (w1.heap.size) w2.heap.size) a6 [r6] := Rec.int.sl.mono hr6 (fun b h => ⟨by have := h.1; simp at this; omega, h.2⟩)
  obtain ⟨B6, d6, he, -⟩ := id hr6
  injection he with he _
  subst he
  have hr5 := Rec.term.sl.carry HR5.out (fun b h1 h2 => by rw [heap_far (by omega)]) (by first | (simp; done) | (simp; omega)) hb2
  clear HR5
  have HR5 := Aside.mk hr5
  clear hr5
  have HR6 := Aside.mk hr6
  have k0 := ((k0.far (by first | (simp; done) | (simp; omega)) _)).below hb2
  have k1 := ((k1.far (by first | (simp; done) | (simp; omega)) _)).below hb2
  have k2 : Blk w2 (w.heap.size + 1 + 1) 132 [.int .i64 a0, .bool a1, .int .i64 a2, .bool a3, .string a4, .slice B5 a5.length d5, .slice none 0 0, .int .i64 0] := ((k2.set 5 _)).below hb2
  have bel : Below w.heap.size w w2 := below_later (by go_grown) hb2
  have y0_0 : w2.cell? ⟨w.heap.size, 0, none⟩ = some (.int .i64 a0) := k0.cell 0
  have y1_0 : w2.cell? ⟨w.heap.size + 1, 0, none⟩ = some (.int .i64 0) := k1.cell 0
  have y2_0 : w2.cell? ⟨w.heap.size + 1 + 1, 0, none⟩ = some (.int .i64 a0) := k2.cell 0
  have z1_0 := k1.free 0
  have z2_0 := k2.free 0
  have y0_1 : w2.cell? ⟨w.heap.size, 1, none⟩ = some (.bool a1) := k0.cell 1
  have y1_1 : w2.cell? ⟨w.heap.size + 1, 1, none⟩ = some (.bool false) := k1.cell 1
  have y2_1 : w2.cell? ⟨w.heap.size + 1 + 1, 1, none⟩ = some (.bool a1) := k2.cell 1
  have z1_1 := k1.free 1
  have z2_1 := k2.free 1
  have y0_2 : w2.cell? ⟨w.heap.size, 2, none⟩ = some (.int .i64 a2) := k0.cell 2
  have y1_2 : w2.cell? ⟨w.heap.size + 1, 2, none⟩ = some (.int .i64 0) := k1.cell 2
  have y2_2 : w2.cell? ⟨w.heap.size + 1 + 1, 2, none⟩ = some (.int .i64 a2) := k2.cell 2
  have z1_2 := k1.free 2
  have z2_2 := k2.free 2
  have y0_3 : w2.cell? ⟨w.heap.size, 3, none⟩ = some (.bool a3) := k0.cell 3
  have y1_3 : w2.cell? ⟨w.heap.size + 1, 3, none⟩ = some (.bool false) := k1.cell 3
  have y2_3 : w2.cell? ⟨w.heap.size + 1 + 1, 3, none⟩ = some (.bool a3) := k2.cell 3
  have z1_3 := k1.free 3
  have z2_3 := k2.free 3
  have y0_4 : w2.cell? ⟨w.heap.size, 4, none⟩ = some (.string a4) := k0.cell 4
  have y1_4 : w2.cell? ⟨w.heap.size + 1, 4, none⟩ = some (.string ⟨#[]⟩) := k1.cell 4
  have y2_4 : w2.cell? ⟨w.heap.size + 1 + 1, 4, none⟩ = some (.string a4) := k2.cell 4
  have z1_4 := k1.free 4
  have z2_4 := k2.free 4
  have y0_5 : w2.cell? ⟨w.heap.size, 5, none⟩ = some (.slice A5 a5.length c5) := k0.cell 5
  have y1_5 : w2.cell? ⟨w.heap.size + 1, 5, none⟩ = some (.slice none 0 0) := k1.cell 5
  have y2_5 : w2.cell? ⟨w.heap.size + 1 + 1, 5, none⟩ = some (.slice B5 a5.length d5) := k2.cell 5
  have z1_5 := k1.free 5
  have z2_5 := k2.free 5
  have y0_6 : w2.cell? ⟨w.heap.size, 6, none⟩ = some (.slice A6 a6.length c6) := k0.cell 6
  have y1_6 : w2.cell? ⟨w.heap.size + 1, 6, none⟩ = some (.slice none 0 0) := k1.cell 6
  have y2_6 : w2.cell? ⟨w.heap.size + 1 + 1, 6, none⟩ = some (.slice none 0 0) := k2.cell 6
  have z1_6 := k1.free 6
  have z2_6 := k2.free 6
  have y0_7 : w2.cell? ⟨w.heap.size, 7, none⟩ = some (.int .i64 a7) := k0.cell 7
  have y1_7 : w2.cell? ⟨w.heap.size + 1, 7, none⟩ = some (.int .i64 0) := k1.cell 7
  have y2_7 : w2.cell? ⟨w.heap.size + 1 + 1, 7, none⟩ = some (.int .i64 0) := k2.cell 7
  have z1_7 := k1.free 7
  have z2_7 := k2.free 7
  have K0 := Aside.mk k0
  have K1 := Aside.mk k1
  have K2 := Aside.mk k2
  have BEL := Aside.mk bel
  clear k0 k1 k2 bel hb2 hr6
  go_wp2_with fail
  have k1 := K1.out
  have bel := BEL.out
  refine bodyPost_ret (res_c rfl _ _ (w.heap.size + 1) 132 [.int .i64 a0, .bool a1, .int .i64 a2, .bool a3, .string a4, .slice B5 a5.length d5, .slice B6 a6.length d6, .int .i64 a7] _ rfl ?k Try.underlying132 rfl (by kernel_rfl)) rfl ⟨_, rfl, ?r, ?b⟩
  case k => exact ((((((((((k1.far (by simp) _).far (by simp) _).set 0 _).set 1 _).set 2 _).set 3 _).set 4 _).set 5 _).set 6 _).set 7 _)
  case b => go_grown
  case r =>
    have hr5 := HR5.out
    have hr6 := HR6.out
    exact RProc.mono (Rec.join (Rec.int_rd True _ NoB _) (Rec.join (Rec.bool_rd True _ NoB _) (Rec.join (Rec.int_rd True _ NoB _) (Rec.join (Rec.bool_rd True _ NoB _) (Rec.join (Rec.str_rd True _ NoB _) (Rec.join (Rec.term.sl.over hr5 (fun b h1 h2 => by rw [heap_far (by omega)]; rw [heap_far (by omega)]; rw [heap_far (by omega)]; rw [heap_far (by omega)]; rw [heap_far (by omega)]; rw [heap_far (by omega)]; rw [heap_far (by omega)]; rw [heap_far (by omega)]; rw [heap_far (by omega)]; rw [heap_far (by omega)])) (Rec.join (Rec.int.sl.over hr6 (fun b h1 h2 => by rw [heap_far (by omega)]; rw [heap_far (by omega)]; rw [heap_far (by omega)]; rw [heap_far (by omega)]; rw [heap_far (by omega)]; rw [heap_far (by omega)]; rw [heap_far (by omega)]; rw [heap_far (by omega)]; rw [heap_far (by omega)]; rw [heap_far (by omega)])) (Rec.int_rd True _ NoB _) (fun b h1 h2 => by first | exact h1.elim | exact h2.elim | (simp only [Span] at h1 h2; omega) | (simp only [Span, NoB, false_or, or_false] at h1 h2; omega))) (fun b h1 h2 => by first | exact h1.elim | exact h2.elim | (simp only [Span] at h1 h2; omega) | (simp only [Span, NoB, false_or, or_false] at h1 h2; omega))) (fun b h1 h2 => by first | exact h1.elim | exact h2.elim | (simp only [Span] at h1 h2; omega) | (simp only [Span, NoB, false_or, or_false] at h1 h2; omega))) (fun b h1 h2 => by first | exact h1.elim | exact h2.elim | (simp only [Span] at h1 h2; omega) | (simp only [Span, NoB, false_or, or_false] at h1 h2; omega))) (fun b h1 h2 => by first | exact h1.elim | exact h2.elim | (simp only [Span] at h1 h2; omega) | (simp only [Span, NoB, false_or, or_false] at h1 h2; omega))) (fun b h1 h2 => by first | exact h1.elim | exact h2.elim | (simp only [Span] at h1 h2; omega) | (simp only [Span, NoB, false_or, or_false] at h1 h2; omega))) (fun b h1 h2 => by first | exact h1.elim | exact h2.elim | (simp only [Span] at h1 h2; omega) | (simp only [Span, NoB, false_or, or_false] at h1 h2; omega))) (fun b h => by simp [Span, NoB] at h ⊢ <;> omega)
set_option maxRecDepth 100000 in
set_option maxHeartbeats 1000000 in
theorem szProc (a : AProc) (cs : List Value) (w : World) (left : Int) (h : RProc.rd False w (Old w) a cs) (ho : RProc.ok a) (hl0 : 0 ≤ left) (hl : left ≤ 1048576) :
    Calls Try.prog 169 #[.agg cs.toArray, .int .i64 left] w fun e w2 => e = .returned (.int .i64 (szR (RProc.wt a) left)) ∧ Below w.heap.size w w2 := by
  obtain ⟨a0, a1, a2, a3, a4, a5, a6, a7⟩ := a
  have ho2 : Rec.int.ok a0 ∧ (Rec.bool.ok a1 ∧ (Rec.int.ok a2 ∧ (Rec.bool.ok a3 ∧ (Rec.str.ok a4 ∧ (Rec.term.sl.ok a5 ∧ (Rec.int.sl.ok a6 ∧ (Rec.int.ok a7))))))) := ho
  obtain ⟨o0, o1, o2, o3, o4, o5, o6, o7⟩ := ho2
  generalize hT : RProc.wt (a0, a1, a2, a3, a4, a5, a6, a7) = N
  have hT2 : Rec.int.wt a0 + (Rec.bool.wt a1 + (Rec.int.wt a2 + (Rec.bool.wt a3 + (Rec.str.wt a4 + (Rec.term.sl.wt a5 + (Rec.int.sl.wt a6 + (Rec.int.wt a7))))))) = N := hT
  have t0 : Rec.int.wt a0 = 0 := rfl
  have t1 : Rec.bool.wt a1 = 0 := rfl
  have t2 : Rec.int.wt a2 = 0 := rfl
  have t3 : Rec.bool.wt a3 = 0 := rfl
  have t4 : Rec.str.wt a4 = a4.size := rfl
  have u4 : a4.size ≤ 9223372036854775807 := o4
  obtain ⟨n5, t5⟩ : ∃ n, Rec.term.sl.wt a5 = n := ⟨_, rfl⟩
  have T5 := Aside.mk t5
  have O5 := Aside.mk o5
  obtain ⟨n6, t6⟩ : ∃ n, Rec.int.sl.wt a6 = n := ⟨_, rfl⟩
  have T6 := Aside.mk t6
  have O6 := Aside.mk o6
  have t7 : Rec.int.wt a7 = 0 := rfl
  have hN : N = a4.size + n5 + n6 := by omega
  clear ho hT hT2 o0 t0 o1 t1 o2 t2 o3 t3 o4 t4 o5 t5 o6 t6 o7 t7
  obtain ⟨_, _, _, _, rfl, p0, q0, i0, j0, -⟩ := h
  obtain ⟨_, _, _, _, rfl, p1, q1, i1, j1, -⟩ := q0
  obtain ⟨_, _, _, _, rfl, p2, q2, i2, j2, -⟩ := q1
  obtain ⟨_, _, _, _, rfl, p3, q3, i3, j3, -⟩ := q2
  obtain ⟨_, _, _, _, rfl, p4, q4, i4, j4, -⟩ := q3
  obtain ⟨_, _, _, _, rfl, p5, q5, i5, j5, -⟩ := q4
  obtain ⟨_, _, _, _, rfl, p6, q6, i6, j6, -⟩ := q5
  have h5 := Rec.term.sl.mono p5 (fun b h => j0 b (j1 b (j2 b (j3 b (j4 b (i5 b h))))))
  have h6 := Rec.int.sl.mono p6 (fun b h => j0 b (j1 b (j2 b (j3 b (j4 b (j5 b (i6 b h)))))))
  obtain rfl := p0
  obtain rfl := p1
  obtain rfl := p2
  obtain rfl := p3
  obtain rfl := p4
  obtain ⟨A5, c5, rfl, -⟩ := id h5
  have H5 := Aside.mk h5
  obtain ⟨A6, c6, rfl, -⟩ := id h6
  have H6 := Aside.mk h6
  obtain rfl := q6
  show Calls Try.prog 169 #[.agg #[.int .i64 a0, .bool a1, .int .i64 a2, .bool a3, .string a4, .slice A5 a5.length c5, .slice A6 a6.length c6, .int .i64 a7], .int .i64 left] w _
  clear i0 j0 i1 j1 i2 j2 i3 j3 i4 j4 i5 j5 i6 j6 h5 p5 h6 p6
  go_enter Try.func169, Try.ntmps169
  by_cases c4n : (a4.size : Int) ≤ left
  rotate_left
  · go_wp2_with fail
    go_ret; exact ⟨ret_int (by simp only [szR]; split <;> omega), by go_grown⟩
  go_wp2_with fail
  refine (szTermS a5 (fun x _ cs w1 l h ho h0 hl => szTerm x cs w1 l h ho h0 hl) _ _ (left - a4.size) (Rec.term.sl.old H5.out (by go_grown)) O5.out (by omega) (by omega)).mono ?_
  rintro e w1 ⟨rfl, hb1⟩
  rw [T5.out]
  have k0 := (Blk.new w 216 [.int .i64 a0, .bool a1, .int .i64 a2, .bool a3, .string a4, .slice A5 a5.length c5, .slice A6 a6.length c6, .int .i64 a7]).below hb1
  have bel : Below w.heap.size w w1 := below_later (by go_grown) hb1
  have y1_0 : w1.cell? ⟨w.heap.size, 0, none⟩ = some (.int .i64 a0) := k0.cell 0
  have y1_1 : w1.cell? ⟨w.heap.size, 1, none⟩ = some (.bool a1) := k0.cell 1
  have y1_2 : w1.cell? ⟨w.heap.size, 2, none⟩ = some (.int .i64 a2) := k0.cell 2
  have y1_3 : w1.cell? ⟨w.heap.size, 3, none⟩ = some (.bool a3) := k0.cell 3
  have y1_4 : w1.cell? ⟨w.heap.size, 4, none⟩ = some (.string a4) := k0.cell 4
  have y1_5 : w1.cell? ⟨w.heap.size, 5, none⟩ = some (.slice A5 a5.length c5) := k0.cell 5
  have y1_6 : w1.cell? ⟨w.heap.size, 6, none⟩ = some (.slice A6 a6.length c6) := k0.cell 6
  have y1_7 : w1.cell? ⟨w.heap.size, 7, none⟩ = some (.int .i64 a7) := k0.cell 7
  have K0 := Aside.mk k0
  clear k0 hb1
  by_cases c5n : (n5 : Int) ≤ left - a4.size
  rotate_left
  · rw [szR_no c5n]
    go_wp2_with fail
    go_ret; exact ⟨ret_int (by simp only [szR]; split <;> omega), by go_grown⟩
  rw [szR_yes c5n]
  go_wp2_with fail
  refine (szIntS a6 _ _ (left - a4.size - n5) (Rec.int.sl.old H6.out (by go_grown)) O6.out (by omega) (by omega)).mono ?_
  rintro e w2 ⟨rfl, hb2⟩
  rw [T6.out]
  have k0 := (K0.out).below hb2
  have bel : Below w.heap.size w w2 := below_later (by go_grown) hb2
  have y2_0 : w2.cell? ⟨w.heap.size, 0, none⟩ = some (.int .i64 a0) := k0.cell 0
  have y2_1 : w2.cell? ⟨w.heap.size, 1, none⟩ = some (.bool a1) := k0.cell 1
  have y2_2 : w2.cell? ⟨w.heap.size, 2, none⟩ = some (.int .i64 a2) := k0.cell 2
  have y2_3 : w2.cell? ⟨w.heap.size, 3, none⟩ = some (.bool a3) := k0.cell 3
  have y2_4 : w2.cell? ⟨w.heap.size, 4, none⟩ = some (.string a4) := k0.cell 4
  have y2_5 : w2.cell? ⟨w.heap.size, 5, none⟩ = some (.slice A5 a5.length c5) := k0.cell 5
  have y2_6 : w2.cell? ⟨w.heap.size, 6, none⟩ = some (.slice A6 a6.length c6) := k0.cell 6
  have y2_7 : w2.cell? ⟨w.heap.size, 7, none⟩ = some (.int .i64 a7) := k0.cell 7
  clear K0
  have K0 := Aside.mk k0
  clear k0 hb2
  by_cases c6n : (n6 : Int) ≤ left - a4.size - n5
  rotate_left
  · rw [szR_no c6n]
    go_wp2_with fail
    go_ret; exact ⟨ret_int (by simp only [szR]; split <;> omega), by go_grown⟩
  rw [szR_yes c6n]
  go_wp2_with fail
  go_ret; exact ⟨ret_int (by simp only [szR]; split <;> omega), by go_grown⟩
set_option maxRecDepth 100000 in
set_option maxHeartbeats 1000000 in
theorem eqProc (a : AProc) (ca cb : List Value) (w : World) (ha : RProc.rd False w (Old w) a ca) (hb : RProc.rd False w (Old w) a cb) (ho : RProc.ok a) :
    Calls Try.prog 178 #[.agg ca.toArray, .agg cb.toArray] w fun e w2 => e = .returned (.bool true) ∧ Below w.heap.size w w2 := by
  obtain ⟨a0, a1, a2, a3, a4, a5, a6, a7⟩ := a
  have ho2 : Rec.int.ok a0 ∧ (Rec.bool.ok a1 ∧ (Rec.int.ok a2 ∧ (Rec.bool.ok a3 ∧ (Rec.str.ok a4 ∧ (Rec.term.sl.ok a5 ∧ (Rec.int.sl.ok a6 ∧ (Rec.int.ok a7))))))) := ho
  obtain ⟨o0, o1, o2, o3, o4, o5, o6, o7⟩ := ho2
  have O5 := Aside.mk o5
  have O6 := Aside.mk o6
  clear ho o0 o1 o2 o3 o4 o5 o6 o7
  obtain ⟨_, _, _, _, rfl, p0a, q0a, i0a, j0a, -⟩ := ha
  obtain ⟨_, _, _, _, rfl, p1a, q1a, i1a, j1a, -⟩ := q0a
  obtain ⟨_, _, _, _, rfl, p2a, q2a, i2a, j2a, -⟩ := q1a
  obtain ⟨_, _, _, _, rfl, p3a, q3a, i3a, j3a, -⟩ := q2a
  obtain ⟨_, _, _, _, rfl, p4a, q4a, i4a, j4a, -⟩ := q3a
  obtain ⟨_, _, _, _, rfl, p5a, q5a, i5a, j5a, -⟩ := q4a
  obtain ⟨_, _, _, _, rfl, p6a, q6a, i6a, j6a, -⟩ := q5a
  have h5a := Rec.term.sl.mono p5a (fun b h => j0a b (j1a b (j2a b (j3a b (j4a b (i5a b h))))))
  have h6a := Rec.int.sl.mono p6a (fun b h => j0a b (j1a b (j2a b (j3a b (j4a b (j5a b (i6a b h)))))))
  obtain rfl := p0a
  obtain rfl := p1a
  obtain rfl := p2a
  obtain rfl := p3a
  obtain rfl := p4a
  obtain ⟨A5a, c5a, rfl, -⟩ := id h5a
  have H5a := Aside.mk h5a
  obtain ⟨A6a, c6a, rfl, -⟩ := id h6a
  have H6a := Aside.mk h6a
  obtain rfl := q6a
  obtain ⟨_, _, _, _, rfl, p0b, q0b, i0b, j0b, -⟩ := hb
  obtain ⟨_, _, _, _, rfl, p1b, q1b, i1b, j1b, -⟩ := q0b
  obtain ⟨_, _, _, _, rfl, p2b, q2b, i2b, j2b, -⟩ := q1b
  obtain ⟨_, _, _, _, rfl, p3b, q3b, i3b, j3b, -⟩ := q2b
  obtain ⟨_, _, _, _, rfl, p4b, q4b, i4b, j4b, -⟩ := q3b
  obtain ⟨_, _, _, _, rfl, p5b, q5b, i5b, j5b, -⟩ := q4b
  obtain ⟨_, _, _, _, rfl, p6b, q6b, i6b, j6b, -⟩ := q5b
  have h5b := Rec.term.sl.mono p5b (fun b h => j0b b (j1b b (j2b b (j3b b (j4b b (i5b b h))))))
  have h6b := Rec.int.sl.mono p6b (fun b h => j0b b (j1b b (j2b b (j3b b (j4b b (j5b b (i6b b h)))))))
  obtain rfl := p0b
  obtain rfl := p1b
  obtain rfl := p2b
  obtain rfl := p3b
  obtain rfl := p4b
  obtain ⟨A5b, c5b, rfl, -⟩ := id h5b
  have H5b := Aside.mk h5b
  obtain ⟨A6b, c6b, rfl, -⟩ := id h6b
  have H6b := Aside.mk h6b
  obtain rfl := q6b
  show Calls Try.prog 178 #[.agg #[.int .i64 a0, .bool a1, .int .i64 a2, .bool a3, .string a4, .slice A5a a5.length c5a, .slice A6a a6.length c6a, .int .i64 a7], .agg #[.int .i64 a0, .bool a1, .int .i64 a2, .bool a3, .string a4, .slice A5b a5.length c5b, .slice A6b a6.length c6b, .int .i64 a7]] w _
  clear i0a j0a i1a j1a i2a j2a i3a j3a i4a j4a i5a j5a i6a j6a h5a p5a h6a p6a i0b j0b i1b j1b i2b j2b i3b j3b i4b j4b i5b j5b i6b j6b h5b p5b h6b p6b
  go_enter Try.func178, Try.ntmps178
  go_wp2_with fail
  refine (eqTermS a5 (fun x _ ca cb w1 ha hb ho => eqTerm x ca cb w1 ha hb ho) _ _ _ (Rec.term.sl.old H5a.out (by go_grown)) (Rec.term.sl.old H5b.out (by go_grown)) O5.out).mono ?_
  rintro e w1 ⟨rfl, hb1⟩
  have k0 := ((Blk.new w 132 [.int .i64 a0, .bool a1, .int .i64 a2, .bool a3, .string a4, .slice A5a a5.length c5a, .slice A6a a6.length c6a, .int .i64 a7]).alloc _).below hb1
  have k1 := (Blk.made (w.alloc _) 132 [.int .i64 a0, .bool a1, .int .i64 a2, .bool a3, .string a4, .slice A5b a5.length c5b, .slice A6b a6.length c6b, .int .i64 a7] (g := w.heap.size + 1) (by simp)).below hb1
  have bel : Below w.heap.size w w1 := below_later (by go_grown) hb1
  have y01_0 : w1.cell? ⟨w.heap.size, 0, none⟩ = some (.int .i64 a0) := k0.cell 0
  have y11_0 : w1.cell? ⟨w.heap.size + 1, 0, none⟩ = some (.int .i64 a0) := k1.cell 0
  have y01_1 : w1.cell? ⟨w.heap.size, 1, none⟩ = some (.bool a1) := k0.cell 1
  have y11_1 : w1.cell? ⟨w.heap.size + 1, 1, none⟩ = some (.bool a1) := k1.cell 1
  have y01_2 : w1.cell? ⟨w.heap.size, 2, none⟩ = some (.int .i64 a2) := k0.cell 2
  have y11_2 : w1.cell? ⟨w.heap.size + 1, 2, none⟩ = some (.int .i64 a2) := k1.cell 2
  have y01_3 : w1.cell? ⟨w.heap.size, 3, none⟩ = some (.bool a3) := k0.cell 3
  have y11_3 : w1.cell? ⟨w.heap.size + 1, 3, none⟩ = some (.bool a3) := k1.cell 3
  have y01_4 : w1.cell? ⟨w.heap.size, 4, none⟩ = some (.string a4) := k0.cell 4
  have y11_4 : w1.cell? ⟨w.heap.size + 1, 4, none⟩ = some (.string a4) := k1.cell 4
  have y01_5 : w1.cell? ⟨w.heap.size, 5, none⟩ = some (.slice A5a a5.length c5a) := k0.cell 5
  have y11_5 : w1.cell? ⟨w.heap.size + 1, 5, none⟩ = some (.slice A5b a5.length c5b) := k1.cell 5
  have y01_6 : w1.cell? ⟨w.heap.size, 6, none⟩ = some (.slice A6a a6.length c6a) := k0.cell 6
  have y11_6 : w1.cell? ⟨w.heap.size + 1, 6, none⟩ = some (.slice A6b a6.length c6b) := k1.cell 6
  have y01_7 : w1.cell? ⟨w.heap.size, 7, none⟩ = some (.int .i64 a7) := k0.cell 7
  have y11_7 : w1.cell? ⟨w.heap.size + 1, 7, none⟩ = some (.int .i64 a7) := k1.cell 7
  have K0 := Aside.mk k0
  have K1 := Aside.mk k1
  clear k0 k1 hb1
  go_wp2_with fail
  refine (eqIntS a6 _ _ _ (Rec.int.sl.old H6a.out (by go_grown)) (Rec.int.sl.old H6b.out (by go_grown)) O6.out).mono ?_
  rintro e w2 ⟨rfl, hb2⟩
  have k0 := (K0.out).below hb2
  have k1 := (K1.out).below hb2
  have bel : Below w.heap.size w w2 := below_later (by go_grown) hb2
  have y02_0 : w2.cell? ⟨w.heap.size, 0, none⟩ = some (.int .i64 a0) := k0.cell 0
  have y12_0 : w2.cell? ⟨w.heap.size + 1, 0, none⟩ = some (.int .i64 a0) := k1.cell 0
  have y02_1 : w2.cell? ⟨w.heap.size, 1, none⟩ = some (.bool a1) := k0.cell 1
  have y12_1 : w2.cell? ⟨w.heap.size + 1, 1, none⟩ = some (.bool a1) := k1.cell 1
  have y02_2 : w2.cell? ⟨w.heap.size, 2, none⟩ = some (.int .i64 a2) := k0.cell 2
  have y12_2 : w2.cell? ⟨w.heap.size + 1, 2, none⟩ = some (.int .i64 a2) := k1.cell 2
  have y02_3 : w2.cell? ⟨w.heap.size, 3, none⟩ = some (.bool a3) := k0.cell 3
  have y12_3 : w2.cell? ⟨w.heap.size + 1, 3, none⟩ = some (.bool a3) := k1.cell 3
  have y02_4 : w2.cell? ⟨w.heap.size, 4, none⟩ = some (.string a4) := k0.cell 4
  have y12_4 : w2.cell? ⟨w.heap.size + 1, 4, none⟩ = some (.string a4) := k1.cell 4
  have y02_5 : w2.cell? ⟨w.heap.size, 5, none⟩ = some (.slice A5a a5.length c5a) := k0.cell 5
  have y12_5 : w2.cell? ⟨w.heap.size + 1, 5, none⟩ = some (.slice A5b a5.length c5b) := k1.cell 5
  have y02_6 : w2.cell? ⟨w.heap.size, 6, none⟩ = some (.slice A6a a6.length c6a) := k0.cell 6
  have y12_6 : w2.cell? ⟨w.heap.size + 1, 6, none⟩ = some (.slice A6b a6.length c6b) := k1.cell 6
  have y02_7 : w2.cell? ⟨w.heap.size, 7, none⟩ = some (.int .i64 a7) := k0.cell 7
  have y12_7 : w2.cell? ⟨w.heap.size + 1, 7, none⟩ = some (.int .i64 a7) := k1.cell 7
  clear K0 K1
  have K0 := Aside.mk k0
  have K1 := Aside.mk k1
  clear k0 k1 hb2
  go_wp2_with fail
  go_ret
  exact ⟨rfl, by go_grown⟩
theorem infoProc : (Try.prog.info? 132).map (fun i => (i.zero, i.size, i.bytes)) = some (some (.agg #[.int .i64 0, .bool false, .int .i64 0, .bool false, .string ⟨#[]⟩, .slice none 0 0, .slice none 0 0, .int .i64 0]), 8, 104) := by kernel_rfl
set_option maxRecDepth 100000 in
set_option maxHeartbeats 1000000 in
theorem toProcS (xs : List AProc) (ih : ∀ x ∈ xs, ∀ (cs : List Value) (w1 : World), RProc.rd False w1 (Old w1) x cs → RProc.wt x ≤ 1048576 → Calls Try.prog 174 #[.agg cs.toArray] w1 fun e w2 => ∃ cs2, e = .returned (.agg cs2.toArray) ∧ RProc.rd True w2 (Span w1.heap.size w2.heap.size) x cs2 ∧ Below w1.heap.size w1 w2) (v : Value) (w : World) (hn : RProc.sl.wt xs ≤ 1048576) (hv : RProc.sl.rd False w (Old w) xs [v]) :
    Calls Try.prog 104 #[v] w fun e w2 => ∃ v2, e = .returned v2 ∧ RProc.sl.rd True w2 (Span w.heap.size w2.heap.size) xs [v2] ∧ Below w.heap.size w w2 := by
  obtain ⟨i0, hi, hz0, hz1, hz2⟩ := info_parts infoProc
  have HI := Aside.mk hi
  obtain ⟨ao, cap, he, hcap, hao⟩ := hv
  injection he with he _
  subst he
  have HIH := Aside.mk ih
  have HS := Aside.mk (fun (j : Nat) (h : j < xs.length) => Nat.le_trans (wt_le RProc xs j h) (Nat.le_trans (Nat.le_add_left _ _) hn))
  have HA := Aside.mk hao
  have hn1 : xs.length ≤ 1048576 := Nat.le_trans (Nat.le_add_right _ _) hn
  obtain ⟨n, hl⟩ : ∃ n, n = xs.length := ⟨_, rfl⟩
  have HL := Aside.mk hl
  rw [← hl] at hn1 hcap ⊢
  clear hi hao hn hl ih
  go_enter Try.func104, Try.ntmps104
  go_wp2_with (at_make; refine wpList_make_full _ rfl _ _ 65 rfl w.heap.size 132 i0 (.agg #[.int .i64 0, .bool false, .int .i64 0, .bool false, .string ⟨#[]⟩, .slice none 0 0, .slice none 0 0, .int .i64 0]) 8 Try.underlying65 HI.out hz0 hz1 .i64 .i64 _ _ n rfl rfl rfl rfl ?sd1 ?sd2 ?sd3 ?_)
  case sd1 => first | omega | (rw [hz2]; omega)
  case sd2 => unfold maxLen; omega
  try (case sd3 => exact Nat.le_refl _)
  intro w1 hown hgr
  have hown2 : w1.ownsRow w.heap.size 132 RProc.k (.slice (some ⟨w.heap.size, 0, none⟩) n n) n _ := hown
  have HT := Aside.mk (Copied.start (R := RProc) (xs := xs) hown2 hgr)
  clear hown hown2 hgr HI hz0 hz1 hz2
  go_wp2_with fail
  go_loopw [4] (fun i wr => ∃ k : Nat, k ≤ n ∧ i = .int .i64 k ∧ Aside (Copied RProc 132 w wr xs n k)) (fun i _ => n - (intOf i).toNat)
  case atStart => exact ⟨0, Nat.zero_le _, rfl, HT⟩
  case round =>
    obtain ⟨k, hk, rfl, ht⟩ := hrel
    clear HT
    by_cases hlt : k < n
    · have hlt2 : k < xs.length := by rw [← HL.out]; exact hlt
      rcases HA.out with h0 | ⟨b, o, rfl, hb, f, hf, -, hrow⟩
      · exfalso; rw [h0] at hlt2; exact absurd hlt2 (Nat.not_lt_zero _)
      obtain ⟨cs, hr, hc⟩ := hrow k hlt2
      obtain ⟨c0, c1, c2, c3, c4, c5a, c5b, c5c, c6a, c6b, c6c, c7, rfl⟩ := shapeProc hr
      have hbel := ht.out.choose_spec.2.2.1
      have d0 : wr.cell? ⟨b, o + k * 8, none⟩ = some (.int .i64 c0) := (hbel.cell (p := ⟨b, o + k * 8 + 0, none⟩) hb).trans (hc 0 (by decide))
      have d1 : wr.cell? ⟨b, o + k * 8 + 1, none⟩ = some (.bool c1) := (hbel.cell (p := ⟨b, o + k * 8 + 1, none⟩) hb).trans (hc 1 (by decide))
      have d2 : wr.cell? ⟨b, o + k * 8 + 2, none⟩ = some (.int .i64 c2) := (hbel.cell (p := ⟨b, o + k * 8 + 2, none⟩) hb).trans (hc 2 (by decide))
      have d3 : wr.cell? ⟨b, o + k * 8 + 3, none⟩ = some (.bool c3) := (hbel.cell (p := ⟨b, o + k * 8 + 3, none⟩) hb).trans (hc 3 (by decide))
      have d4 : wr.cell? ⟨b, o + k * 8 + 4, none⟩ = some (.string c4) := (hbel.cell (p := ⟨b, o + k * 8 + 4, none⟩) hb).trans (hc 4 (by decide))
      have d5 : wr.cell? ⟨b, o + k * 8 + 5, none⟩ = some (.slice c5a c5b c5c) := (hbel.cell (p := ⟨b, o + k * 8 + 5, none⟩) hb).trans (hc 5 (by decide))
      have d6 : wr.cell? ⟨b, o + k * 8 + 6, none⟩ = some (.slice c6a c6b c6c) := (hbel.cell (p := ⟨b, o + k * 8 + 6, none⟩) hb).trans (hc 6 (by decide))
      have d7 : wr.cell? ⟨b, o + k * 8 + 7, none⟩ = some (.int .i64 c7) := (hbel.cell (p := ⟨b, o + k * 8 + 7, none⟩) hb).trans (hc 7 (by decide))
      have HR := Aside.mk (RProc.up (w1 := wr) (RProc.mono hr (fun c hc => (hf k c hc).1)) (fun _ h => h) hbel)
      clear hc hrow hf hbel hr
      go_wp2_with fail
      refine (HIH.out xs[k] (List.getElem_mem hlt2) [.int .i64 c0, .bool c1, .int .i64 c2, .bool c3, .string c4, .slice c5a c5b c5c, .slice c6a c6b c6c, .int .i64 c7] _ HR.out (HS.out k hlt2)).mono ?_
      rintro e w2 ⟨cs2, rfl, hr2, hb2⟩
      obtain ⟨v0, v1, v2, v3, v4, v5a, v5b, v5c, v6a, v6b, v6c, v7, rfl⟩ := shapeProc hr2
      obtain ⟨hcell, hfree⟩ := ht.out.blk hb2 hlt
      have HT2 := Aside.mk (ht.out.next hb2 HL.out.symm hlt2 hr2)
      obtain ⟨x0, y0⟩ : ∃ x, w2.cell? ⟨w.heap.size, k * 8, none⟩ = some x := hcell 0 (by decide)
      have z0 := hfree (k * 8)
      obtain ⟨x1, y1⟩ : ∃ x, w2.cell? ⟨w.heap.size, k * 8 + 1, none⟩ = some x := hcell 1 (by decide)
      have z1 := hfree (k * 8 + 1)
      obtain ⟨x2, y2⟩ : ∃ x, w2.cell? ⟨w.heap.size, k * 8 + 2, none⟩ = some x := hcell 2 (by decide)
      have z2 := hfree (k * 8 + 2)
      obtain ⟨x3, y3⟩ : ∃ x, w2.cell? ⟨w.heap.size, k * 8 + 3, none⟩ = some x := hcell 3 (by decide)
      have z3 := hfree (k * 8 + 3)
      obtain ⟨x4, y4⟩ : ∃ x, w2.cell? ⟨w.heap.size, k * 8 + 4, none⟩ = some x := hcell 4 (by decide)
      have z4 := hfree (k * 8 + 4)
      obtain ⟨x5, y5⟩ : ∃ x, w2.cell? ⟨w.heap.size, k * 8 + 5, none⟩ = some x := hcell 5 (by decide)
      have z5 := hfree (k * 8 + 5)
      obtain ⟨x6, y6⟩ : ∃ x, w2.cell? ⟨w.heap.size, k * 8 + 6, none⟩ = some x := hcell 6 (by decide)
      have z6 := hfree (k * 8 + 6)
      obtain ⟨x7, y7⟩ : ∃ x, w2.cell? ⟨w.heap.size, k * 8 + 7, none⟩ = some x := hcell 7 (by decide)
      have z7 := hfree (k * 8 + 7)
      clear hcell hfree hr2 hb2 ht d0 d1 d2 d3 d4 d5 d6 d7 HR
      go_wp2_with fail
      go_roundw
      case rel => exact ⟨k + 1, by omega, by go_num, HT2⟩
      case measure => first | (simp [intOf]; done) | (simp [intOf]; omega)
    · obtain rfl : k = n := by omega
      go_wp2_with fail
      go_ret
      exact ⟨_, rfl, ht.out.done HL.out.symm, ht.out.choose_spec.2.2.1⟩
set_option maxRecDepth 100000 in
set_option maxHeartbeats 1000000 in
theorem szProcS (xs : List AProc) (ih : ∀ x ∈ xs, ∀ (cs : List Value) (w1 : World) (l : Int), RProc.rd False w1 (Old w1) x cs → RProc.ok x → 0 ≤ l → l ≤ 1048576 → Calls Try.prog 169 #[.agg cs.toArray, .int .i64 l] w1 fun e w2 => e = .returned (.int .i64 (szR (RProc.wt x) l)) ∧ Below w1.heap.size w1 w2)
    (v : Value) (w : World) (left : Int) (h : RProc.sl.rd False w (Old w) xs [v]) (ho : RProc.sl.ok xs) (hl0 : 0 ≤ left) (hl : left ≤ 1048576) :
    Calls Try.prog 99 #[v, .int .i64 left] w fun e w2 => e = .returned (.int .i64 (szR (RProc.sl.wt xs) left)) ∧ Below w.heap.size w w2 := by
  obtain ⟨ao, cap, he, hcap, hao⟩ := h
  injection he with he _
  subst he
  have hn1 : xs.length ≤ 9223372036854775807 := ho.1
  have hsum : RProc.sl.wt xs = xs.length + wts RProc xs xs.length := by rw [wts_all]; rfl
  generalize RProc.sl.wt xs = N at hsum
  have HIH := Aside.mk ih
  have HO := Aside.mk ho.2
  have HA := Aside.mk hao
  obtain ⟨n, hln⟩ : ∃ n, n = xs.length := ⟨_, rfl⟩
  rw [← hln] at hn1 hcap hsum ⊢
  have HL := Aside.mk hln
  have HM := Aside.mk (fun k (hk : k ≤ xs.length) => show wts RProc xs k ≤ wts RProc xs xs.length by rw [wts_all]; exact wts_le _ _ _)
  rw [← hln] at HM
  have h00 := Aside.mk (wts_zero RProc xs)
  generalize hW : wts RProc xs n = W at hsum HM
  have HW := Aside.mk hW
  clear ho ih hao hln hW
  go_enter Try.func99, Try.ntmps99
  by_cases c0 : (n : Int) ≤ left
  rotate_left
  · go_wp2_with fail
    go_ret
    exact ⟨ret_int (by simp only [szR]; split <;> omega), by go_grown⟩
  go_wp2_with fail
  go_loopw [1, 5] (fun l i wr => ∃ k : Nat, k ≤ n ∧ i = .int .i64 k ∧ (∃ q : Nat, Aside (q = wts RProc xs k) ∧ (n : Int) + q ≤ left ∧ l = .int .i64 (left - n - q)) ∧ Aside (Below w.heap.size w wr)) (fun _ i _ => n - (intOf i).toNat)
  case atStart => exact ⟨0, Nat.zero_le _, rfl, ⟨0, ⟨h00.out.symm⟩, by omega, by simp⟩, ⟨Below.refl _ _⟩⟩
  case round =>
    obtain ⟨k, hk, rfl, ⟨q, hq, hql, rfl⟩, hbel⟩ := hrel
    by_cases hlt : k < n
    · have hlt2 : k < xs.length := by rw [← HL.out]; exact hlt
      have hstep : Aside (wts RProc xs (k + 1) = q + RProc.wt xs[k]) := ⟨by rw [hq.out]; exact wts_succ _ _ _ hlt2⟩
      have hle : wts RProc xs (k + 1) ≤ W := HM.out (k + 1) hlt
      rw [hstep.out] at hle
      rcases HA.out with h0 | ⟨b, o, rfl, hb, f, hf, -, hrow⟩
      · exfalso; rw [h0] at hlt2; exact absurd hlt2 (Nat.not_lt_zero _)
      obtain ⟨cs, hr, hc⟩ := hrow k hlt2
      obtain ⟨c0, c1, c2, c3, c4, c5a, c5b, c5c, c6a, c6b, c6c, c7, rfl⟩ := shapeProc hr
      have hbel2 := hbel.out
      have d0 : wr.cell? ⟨b, o + k * 8, none⟩ = some (.int .i64 c0) := (hbel2.cell (p := ⟨b, o + k * 8 + 0, none⟩) hb).trans (hc 0 (by decide))
      have d1 : wr.cell? ⟨b, o + k * 8 + 1, none⟩ = some (.bool c1) := (hbel2.cell (p := ⟨b, o + k * 8 + 1, none⟩) hb).trans (hc 1 (by decide))
      have d2 : wr.cell? ⟨b, o + k * 8 + 2, none⟩ = some (.int .i64 c2) := (hbel2.cell (p := ⟨b, o + k * 8 + 2, none⟩) hb).trans (hc 2 (by decide))
      have d3 : wr.cell? ⟨b, o + k * 8 + 3, none⟩ = some (.bool c3) := (hbel2.cell (p := ⟨b, o + k * 8 + 3, none⟩) hb).trans (hc 3 (by decide))
      have d4 : wr.cell? ⟨b, o + k * 8 + 4, none⟩ = some (.string c4) := (hbel2.cell (p := ⟨b, o + k * 8 + 4, none⟩) hb).trans (hc 4 (by decide))
      have d5 : wr.cell? ⟨b, o + k * 8 + 5, none⟩ = some (.slice c5a c5b c5c) := (hbel2.cell (p := ⟨b, o + k * 8 + 5, none⟩) hb).trans (hc 5 (by decide))
      have d6 : wr.cell? ⟨b, o + k * 8 + 6, none⟩ = some (.slice c6a c6b c6c) := (hbel2.cell (p := ⟨b, o + k * 8 + 6, none⟩) hb).trans (hc 6 (by decide))
      have d7 : wr.cell? ⟨b, o + k * 8 + 7, none⟩ = some (.int .i64 c7) := (hbel2.cell (p := ⟨b, o + k * 8 + 7, none⟩) hb).trans (hc 7 (by decide))
      have HR := Aside.mk (RProc.up (w1 := wr) (RProc.mono hr (fun c hc => (hf k c hc).1)) (fun _ h => h) hbel2)
      obtain ⟨m, hm⟩ : ∃ m, RProc.wt xs[k] = m := ⟨_, rfl⟩
      rw [hm] at hle
      have Hm := Aside.mk hm
      clear hc hrow hf hbel2 hr hm
      go_wp2_with fail
      refine (HIH.out xs[k] (List.getElem_mem hlt2) [.int .i64 c0, .bool c1, .int .i64 c2, .bool c3, .string c4, .slice c5a c5b c5c, .slice c6a c6b c6c, .int .i64 c7] _ (left - n - q) HR.out (HO.out _ (List.getElem_mem hlt2)) (by omega) (by omega)).mono ?_
      rintro e w2 ⟨rfl, hb2⟩
      rw [Hm.out]
      have hb3 := Aside.mk (below_later hbel.out hb2)
      clear d0 d1 d2 d3 d4 d5 d6 d7 HR hb2 hbel
      by_cases c1 : (m : Int) ≤ left - n - q
      · rw [szR_yes c1]
        go_wp2_with fail
        go_roundw
        case rel => exact ⟨k + 1, by omega, by go_num, ⟨q + m, ⟨by rw [hstep.out, Hm.out]⟩, by omega, by first | rfl | (refine congrArg _ ?_; omega)⟩, hb3⟩
        case measure => first | (simp [intOf]; done) | (simp [intOf]; omega)
      · rw [szR_no c1]
        go_wp2_with fail
        go_ret
        exact ⟨ret_int (by simp only [szR]; split <;> omega), hb3.out⟩
    · obtain rfl : k = n := by omega
      go_wp2_with fail
      go_ret
      have hq2 : q = W := hq.out.trans HW.out
      exact ⟨ret_int (by simp only [szR]; split <;> omega), hbel.out⟩
set_option maxRecDepth 100000 in
set_option maxHeartbeats 1000000 in
theorem eqProcS (xs : List AProc) (ih : ∀ x ∈ xs, ∀ (ca cb : List Value) (w1 : World), RProc.rd False w1 (Old w1) x ca → RProc.rd False w1 (Old w1) x cb → RProc.ok x → Calls Try.prog 178 #[.agg ca.toArray, .agg cb.toArray] w1 fun e w2 => e = .returned (.bool true) ∧ Below w1.heap.size w1 w2)
    (va vb : Value) (w : World) (ha : RProc.sl.rd False w (Old w) xs [va]) (hb : RProc.sl.rd False w (Old w) xs [vb]) (ho : RProc.sl.ok xs) :
    Calls Try.prog 110 #[va, vb] w fun e w2 => e = .returned (.bool true) ∧ Below w.heap.size w w2 := by
  obtain ⟨a1, cap1, he, hcap1, ha1⟩ := ha
  injection he with he _
  subst he
  obtain ⟨a2, cap2, he, hcap2, ha2⟩ := hb
  injection he with he _
  subst he
  have hn : xs.length ≤ 9223372036854775807 := ho.1
  have HO := Aside.mk ho.2
  have HIH := Aside.mk ih
  have HA := Aside.mk ha1
  have HB := Aside.mk ha2
  obtain ⟨n, hln⟩ : ∃ n, n = xs.length := ⟨_, rfl⟩
  rw [← hln] at hn hcap1 hcap2 ⊢
  have HL := Aside.mk hln
  clear ho ih ha1 ha2 hln
  go_enter Try.func110, Try.ntmps110
  go_wp2_with fail
  go_loopw [5] (fun i wr => ∃ k : Nat, k ≤ n ∧ i = .int .i64 k ∧ Aside (Below w.heap.size w wr)) (fun i _ => n - (intOf i).toNat)
  case atStart => exact ⟨0, Nat.zero_le _, rfl, ⟨Below.refl _ _⟩⟩
  case round =>
    obtain ⟨k, hk, rfl, hbel⟩ := hrel
    by_cases hlt : k < n
    · have hlt2 : k < xs.length := by rw [← HL.out]; exact hlt
      rcases HA.out with h0 | ⟨b1, o1, rfl, hb1, f1, hf1, -, hrow1⟩
      · exfalso; rw [h0] at hlt2; exact absurd hlt2 (Nat.not_lt_zero _)
      obtain ⟨cs1, hr1, hc1⟩ := hrow1 k hlt2
      obtain ⟨c0, c1, c2, c3, c4, c5a, c5b, c5c, c6a, c6b, c6c, c7, rfl⟩ := shapeProc hr1
      rcases HB.out with h0 | ⟨b2, o2, rfl, hb2, f2, hf2, -, hrow2⟩
      · exfalso; rw [h0] at hlt2; exact absurd hlt2 (Nat.not_lt_zero _)
      obtain ⟨cs2, hr2, hc2⟩ := hrow2 k hlt2
      obtain ⟨v0, v1, v2, v3, v4, v5a, v5b, v5c, v6a, v6b, v6c, v7, rfl⟩ := shapeProc hr2
      have hbel2 := hbel.out
      have d10 : wr.cell? ⟨b1, o1 + k * 8, none⟩ = some (.int .i64 c0) := (hbel2.cell (p := ⟨b1, o1 + k * 8 + 0, none⟩) hb1).trans (hc1 0 (by decide))
      have d11 : wr.cell? ⟨b1, o1 + k * 8 + 1, none⟩ = some (.bool c1) := (hbel2.cell (p := ⟨b1, o1 + k * 8 + 1, none⟩) hb1).trans (hc1 1 (by decide))
      have d12 : wr.cell? ⟨b1, o1 + k * 8 + 2, none⟩ = some (.int .i64 c2) := (hbel2.cell (p := ⟨b1, o1 + k * 8 + 2, none⟩) hb1).trans (hc1 2 (by decide))
      have d13 : wr.cell? ⟨b1, o1 + k * 8 + 3, none⟩ = some (.bool c3) := (hbel2.cell (p := ⟨b1, o1 + k * 8 + 3, none⟩) hb1).trans (hc1 3 (by decide))
      have d14 : wr.cell? ⟨b1, o1 + k * 8 + 4, none⟩ = some (.string c4) := (hbel2.cell (p := ⟨b1, o1 + k * 8 + 4, none⟩) hb1).trans (hc1 4 (by decide))
      have d15 : wr.cell? ⟨b1, o1 + k * 8 + 5, none⟩ = some (.slice c5a c5b c5c) := (hbel2.cell (p := ⟨b1, o1 + k * 8 + 5, none⟩) hb1).trans (hc1 5 (by decide))
      have d16 : wr.cell? ⟨b1, o1 + k * 8 + 6, none⟩ = some (.slice c6a c6b c6c) := (hbel2.cell (p := ⟨b1, o1 + k * 8 + 6, none⟩) hb1).trans (hc1 6 (by decide))
      have d17 : wr.cell? ⟨b1, o1 + k * 8 + 7, none⟩ = some (.int .i64 c7) := (hbel2.cell (p := ⟨b1, o1 + k * 8 + 7, none⟩) hb1).trans (hc1 7 (by decide))
      have d20 : wr.cell? ⟨b2, o2 + k * 8, none⟩ = some (.int .i64 v0) := (hbel2.cell (p := ⟨b2, o2 + k * 8 + 0, none⟩) hb2).trans (hc2 0 (by decide))
      have d21 : wr.cell? ⟨b2, o2 + k * 8 + 1, none⟩ = some (.bool v1) := (hbel2.cell (p := ⟨b2, o2 + k * 8 + 1, none⟩) hb2).trans (hc2 1 (by decide))
      have d22 : wr.cell? ⟨b2, o2 + k * 8 + 2, none⟩ = some (.int .i64 v2) := (hbel2.cell (p := ⟨b2, o2 + k * 8 + 2, none⟩) hb2).trans (hc2 2 (by decide))
      have d23 : wr.cell? ⟨b2, o2 + k * 8 + 3, none⟩ = some (.bool v3) := (hbel2.cell (p := ⟨b2, o2 + k * 8 + 3, none⟩) hb2).trans (hc2 3 (by decide))
      have d24 : wr.cell? ⟨b2, o2 + k * 8 + 4, none⟩ = some (.string v4) := (hbel2.cell (p := ⟨b2, o2 + k * 8 + 4, none⟩) hb2).trans (hc2 4 (by decide))
      have d25 : wr.cell? ⟨b2, o2 + k * 8 + 5, none⟩ = some (.slice v5a v5b v5c) := (hbel2.cell (p := ⟨b2, o2 + k * 8 + 5, none⟩) hb2).trans (hc2 5 (by decide))
      have d26 : wr.cell? ⟨b2, o2 + k * 8 + 6, none⟩ = some (.slice v6a v6b v6c) := (hbel2.cell (p := ⟨b2, o2 + k * 8 + 6, none⟩) hb2).trans (hc2 6 (by decide))
      have d27 : wr.cell? ⟨b2, o2 + k * 8 + 7, none⟩ = some (.int .i64 v7) := (hbel2.cell (p := ⟨b2, o2 + k * 8 + 7, none⟩) hb2).trans (hc2 7 (by decide))
      have HR1 := Aside.mk (RProc.up (w1 := wr.drew) (RProc.mono hr1 (fun c hc => (hf1 k c hc).1)) (fun _ h => h) hbel2.drew)
      have HR2 := Aside.mk (RProc.up (w1 := wr.drew) (RProc.mono hr2 (fun c hc => (hf2 k c hc).1)) (fun _ h => h) hbel2.drew)
      clear hc1 hrow1 hf1 hr1 hc2 hrow2 hf2 hr2 hbel2
      go_wp2_with fail
      go_still_tail 8, (by kernel_rfl)
      change wpList _ _ _ _ _ wr.drew
      go_wp2_with fail
      refine (HIH.out xs[k] (List.getElem_mem hlt2) [.int .i64 c0, .bool c1, .int .i64 c2, .bool c3, .string c4, .slice c5a c5b c5c, .slice c6a c6b c6c, .int .i64 c7] [.int .i64 v0, .bool v1, .int .i64 v2, .bool v3, .string v4, .slice v5a v5b v5c, .slice v6a v6b v6c, .int .i64 v7] _ HR1.out HR2.out (HO.out _ (List.getElem_mem hlt2))).mono ?_
      rintro e w2 ⟨rfl, hb2⟩
      have hb3 := Aside.mk (below_later hbel.out.drew hb2)
      clear d10 d20 d11 d21 d12 d22 d13 d23 d14 d24 d15 d25 d16 d26 d17 d27 HR1 HR2 hb2 hbel
      go_wp2_with fail
      go_roundw
      case rel => exact ⟨k + 1, by omega, by go_num, hb3⟩
      case measure => first | (simp [intOf]; done) | (simp [intOf]; omega)
    · obtain rfl : k = n := by omega
      go_wp2_with fail
      go_ret
      exact ⟨rfl, hbel.out⟩
theorem opensProc {H : Type} {enc : TypeId × Value → H} (n : Nat) : OpensAt enc Try.prog n 216 RProc :=
  opens_struct Try.underlying216 (by kernel_rfl) (fun m _ => (opensF_cons rfl (by kernel_rfl) (opens_int Try.underlying3) (opensF_cons rfl (by kernel_rfl) (opens_bool Try.underlying4) (opensF_cons rfl (by kernel_rfl) (opens_int Try.underlying3) (opensF_cons rfl (by kernel_rfl) (opens_bool Try.underlying4) (opensF_cons rfl (by kernel_rfl) (opens_str Try.underlying9) (opensF_cons rfl (by kernel_rfl) (opens_sl Try.underlying34 (by kernel_rfl) (by decide) (fun m _ => (opensTerm _))) (opensF_cons rfl (by kernel_rfl) (opens_sl Try.underlying59 (by kernel_rfl) (by decide) (fun m _ => (opens_int Try.underlying3))) (opensF_one rfl (by kernel_rfl) (opens_int Try.underlying3))))))))))
end Go.Proofs.Ytdldgchkinflmaa.Lib
