/- Event: how it lies in memory; copied, measured, compared. Conditions: those of each theorem. -/
import Derived.Test.YtdldgchkinflmaaGInt
set_option linter.unusedVariables false
namespace Go.Proofs.Ytdldgchkinflmaa.Lib
open Go.RowKit Go.Proofs.Ytdldgchkinflmaa.Plan
abbrev AEvent := Int × Int × Int × T
def REvent : Rec AEvent := Rec.int.pair (Rec.int.pair (Rec.int.pair (Rec.term)))
theorem shapeEvent {tr : Prop} {w : World} {S : Nat → Prop} {a : AEvent} {cs : List Value} (h : REvent.rd tr w S a cs) : ∃ (x0 : Int) (x1 : Int) (x2 : Int) (x3 : Int) (x4 : Int) (x5 : ByteArray) (x6a : Option Addr) (x6b : Nat) (x6c : Nat), cs = [.int .i64 x0, .int .i64 x1, .int .i64 x2, .int .i64 x3, .int .i64 x4, .string x5, .slice x6a x6b x6c] := by
  obtain ⟨_, _, _, _, rfl, p1, q1, _⟩ := h
  obtain rfl := p1
  obtain ⟨_, _, _, _, rfl, p2, q2, _⟩ := q1
  obtain rfl := p2
  obtain ⟨_, _, _, _, rfl, p3, q3, _⟩ := q2
  obtain rfl := p3
  obtain ⟨_, _, rfl, _⟩ := Rec.term_iff.1 q3
  exact ⟨_, _, _, _, _, _, _, _, _, rfl⟩
set_option maxRecDepth 100000 in
set_option maxHeartbeats 1000000 in
theorem toEvent (a : AEvent) (cs : List Value) (w : World) (h : REvent.rd False w (Old w) a cs) (hw : REvent.wt a ≤ 1048576) :
    Calls Try.prog 173 #[.agg cs.toArray] w fun e w2 => ∃ cs2, e = .returned (.agg cs2.toArray) ∧ REvent.rd True w2 (Span w.heap.size w2.heap.size) a cs2 ∧ Below w.heap.size w w2 := by
  obtain ⟨a0, a1, a2, a3⟩ := a
  obtain ⟨_, _, _, _, rfl, p0, q0, i0, j0, -⟩ := h
  obtain ⟨_, _, _, _, rfl, p1, q1, i1, j1, -⟩ := q0
  obtain ⟨_, _, _, _, rfl, p2, q2, i2, j2, -⟩ := q1
  have h3 := Rec.term.mono q2 (fun b h => j0 b (j1 b (j2 b h)))
  obtain rfl := p0
  obtain rfl := p1
  obtain rfl := p2
  obtain ⟨b3_0, b3_1, b3_2, b3_3a, b3_3b, b3_3c, rfl⟩ := shapeTerm h3
  have H3 := Aside.mk h3
  have hw2 : Rec.int.wt a0 + (Rec.int.wt a1 + (Rec.int.wt a2 + (Rec.term.wt a3))) ≤ 1048576 := hw
  have W3 : Rec.term.wt a3 ≤ 1048576 := by omega
  clear hw hw2
  show Calls Try.prog 173 #[.agg #[.int .i64 a0, .int .i64 a1, .int .i64 a2, .int .i64 b3_0, .int .i64 b3_1, .string b3_2, .slice b3_3a b3_3b b3_3c]] w _
  clear h3 i0 j0 i1 j1 i2 j2 q2
  go_enter Try.func173, Try.ntmps173
  go_wp2_with fail
  refine (toTerm a3 _ _ (Rec.term.old H3.out (by go_grown)) W3).mono ?_
  rintro e w1 ⟨r3, rfl, hr3, hb1⟩
  have hs1 : w.heap.size + 3 ≤ w1.heap.size := by have := hb1.size; simp at this; omega
  have hr3 : Rec.term.rd True w1 (Span (w.heap.size + 3) w1.heap.size) a3 r3 := Rec.term.mono hr3 (fun b h => ⟨by have := h.1; simp at this; omega, h.2⟩)
  obtain ⟨y3_0, y3_1, y3_2, y3_3a, y3_3b, y3_3c, rfl⟩ := shapeTerm hr3
  have HR3 := Aside.mk hr3
  have k0 := (((Blk.new w 213 [.int .i64 a0, .int .i64 a1, .int .i64 a2, .int .i64 b3_0, .int .i64 b3_1, .string b3_2, .slice b3_3a b3_3b b3_3c]).alloc _).alloc _).below hb1
  have k1 := ((Blk.made (w.alloc _) 130 [.int .i64 0, .int .i64 0, .int .i64 0, .int .i64 0, .int .i64 0, .string ⟨#[]⟩, .slice none 0 0] (g := w.heap.size + 1) (by simp)).alloc _).below hb1
  have k2 := (Blk.made ((w.alloc _).alloc _) 130 [.int .i64 a0, .int .i64 a1, .int .i64 a2, .int .i64 0, .int .i64 0, .string ⟨#[]⟩, .slice none 0 0] (g := w.heap.size + 1 + 1) (by simp)).below hb1
  have bel : Below w.heap.size w w1 := below_later (by go_grown) hb1
  have y0_0 : w1.cell? ⟨w.heap.size, 0, none⟩ = some (.int .i64 a0) := k0.cell 0
  have y1_0 : w1.cell? ⟨w.heap.size + 1, 0, none⟩ = some (.int .i64 0) := k1.cell 0
  have y2_0 : w1.cell? ⟨w.heap.size + 1 + 1, 0, none⟩ = some (.int .i64 a0) := k2.cell 0
  have z1_0 := k1.free 0
  have z2_0 := k2.free 0
  have y0_1 : w1.cell? ⟨w.heap.size, 1, none⟩ = some (.int .i64 a1) := k0.cell 1
  have y1_1 : w1.cell? ⟨w.heap.size + 1, 1, none⟩ = some (.int .i64 0) := k1.cell 1
  have y2_1 : w1.cell? ⟨w.heap.size + 1 + 1, 1, none⟩ = some (.int .i64 a1) := k2.cell 1
  have z1_1 := k1.free 1
  have z2_1 := k2.free 1
  have y0_2 : w1.cell? ⟨w.heap.size, 2, none⟩ = some (.int .i64 a2) := k0.cell 2
  have y1_2 : w1.cell? ⟨w.heap.size + 1, 2, none⟩ = some (.int .i64 0) := k1.cell 2
  have y2_2 : w1.cell? ⟨w.heap.size + 1 + 1, 2, none⟩ = some (.int .i64 a2) := k2.cell 2
  have z1_2 := k1.free 2
  have z2_2 := k2.free 2
  have y0_3 : w1.cell? ⟨w.heap.size, 3, none⟩ = some (.int .i64 b3_0) := k0.cell 3
  have y1_3 : w1.cell? ⟨w.heap.size + 1, 3, none⟩ = some (.int .i64 0) := k1.cell 3
  have y2_3 : w1.cell? ⟨w.heap.size + 1 + 1, 3, none⟩ = some (.int .i64 0) := k2.cell 3
  have z1_3 := k1.free 3
  have z2_3 := k2.free 3
  have y0_4 : w1.cell? ⟨w.heap.size, 4, none⟩ = some (.int .i64 b3_1) := k0.cell 4
  have y1_4 : w1.cell? ⟨w.heap.size + 1, 4, none⟩ = some (.int .i64 0) := k1.cell 4
  have y2_4 : w1.cell? ⟨w.heap.size + 1 + 1, 4, none⟩ = some (.int .i64 0) := k2.cell 4
  have z1_4 := k1.free 4
  have z2_4 := k2.free 4
  have y0_5 : w1.cell? ⟨w.heap.size, 5, none⟩ = some (.string b3_2) := k0.cell 5
  have y1_5 : w1.cell? ⟨w.heap.size + 1, 5, none⟩ = some (.string ⟨#[]⟩) := k1.cell 5
  have y2_5 : w1.cell? ⟨w.heap.size + 1 + 1, 5, none⟩ = some (.string ⟨#[]⟩) := k2.cell 5
  have z1_5 := k1.free 5
  have z2_5 := k2.free 5
  have y0_6 : w1.cell? ⟨w.heap.size, 6, none⟩ = some (.slice b3_3a b3_3b b3_3c) := k0.cell 6
  have y1_6 : w1.cell? ⟨w.heap.size + 1, 6, none⟩ = some (.slice none 0 0) := k1.cell 6
  have y2_6 : w1.cell? ⟨w.heap.size + 1 + 1, 6, none⟩ = some (.slice none 0 0) := k2.cell 6
  have z1_6 := k1.free 6
  have z2_6 := k2.free 6
  have K0 := Aside.mk k0
  have K1 := Aside.mk k1
  have K2 := Aside.mk k2
  have BEL := Aside.mk bel
  clear k0 k1 k2 bel hb1 hr3
  go_wp2_with fail
  have k1 := K1.out
  have bel := BEL.out
  refine bodyPost_ret (res_c rfl _ _ (w.heap.size + 1) 130 [.int .i64 a0, .int .i64 a1, .int .i64 a2, .int .i64 y3_0, .int .i64 y3_1, .string y3_2, .slice y3_3a y3_3b y3_3c] _ rfl ?k Try.underlying130 rfl (by kernel_rfl)) rfl ⟨_, rfl, ?r, ?b⟩
  case k => exact (((((((((((k1.far (by simp) _).far (by simp) _).far (by simp) _).far (by simp) _).set 0 _).set 1 _).set 2 _).set 3 _).set 4 _).set 5 _).set 6 _)
  case b => go_grown
  case r =>
    have hr3 := HR3.out
    exact REvent.mono (Rec.join (Rec.int_rd True _ NoB _) (Rec.join (Rec.int_rd True _ NoB _) (Rec.join (Rec.int_rd True _ NoB _) (Rec.term.over hr3 (fun b h1 h2 => by rw [heap_far (by omega)]; rw [heap_far (by omega)]; rw [heap_far (by omega)]; rw [heap_far (by omega)]; rw [heap_far (by omega)]; rw [heap_far (by omega)]; rw [heap_far (by omega)]; rw [heap_far (by omega)]; rw [heap_far (by omega)]; rw [heap_far (by omega)]; rw [heap_far (by omega)])) (fun b h1 h2 => by first | exact h1.elim | exact h2.elim | (simp only [Span] at h1 h2; omega) | (simp only [Span, NoB, false_or, or_false] at h1 h2; omega))) (fun b h1 h2 => by first | exact h1.elim | exact h2.elim | (simp only [Span] at h1 h2; omega) | (simp only [Span, NoB, false_or, or_false] at h1 h2; omega))) (fun b h1 h2 => by first | exact h1.elim | exact h2.elim | (simp only [Span] at h1 h2; omega) | (simp only [Span, NoB, false_or, or_false] at h1 h2; omega))) (fun b h => by simp [Span, NoB] at h ⊢ <;> omega)
set_option maxRecDepth 100000 in
set_option maxHeartbeats 1000000 in
theorem szEvent (a : AEvent) (cs : List Value) (w : World) (left : Int) (h : REvent.rd False w (Old w) a cs) (ho : REvent.ok a) (hl0 : 0 ≤ left) (hl : left ≤ 1048576) :
    Calls Try.prog 168 #[.agg cs.toArray, .int .i64 left] w fun e w2 => e = .returned (.int .i64 (szR (REvent.wt a) left)) ∧ Below w.heap.size w w2 := by
  obtain ⟨a0, a1, a2, a3⟩ := a
  have ho2 : Rec.int.ok a0 ∧ (Rec.int.ok a1 ∧ (Rec.int.ok a2 ∧ (Rec.term.ok a3))) := ho
  obtain ⟨o0, o1, o2, o3⟩ := ho2
  generalize hT : REvent.wt (a0, a1, a2, a3) = N
  have hT2 : Rec.int.wt a0 + (Rec.int.wt a1 + (Rec.int.wt a2 + (Rec.term.wt a3))) = N := hT
  have t0 : Rec.int.wt a0 = 0 := rfl
  have t1 : Rec.int.wt a1 = 0 := rfl
  have t2 : Rec.int.wt a2 = 0 := rfl
  obtain ⟨n3, t3⟩ : ∃ n, Rec.term.wt a3 = n := ⟨_, rfl⟩
  have T3 := Aside.mk t3
  have O3 := Aside.mk o3
  have hN : N = n3 := by omega
  clear ho hT hT2 o0 t0 o1 t1 o2 t2 o3 t3
  obtain ⟨_, _, _, _, rfl, p0, q0, i0, j0, -⟩ := h
  obtain ⟨_, _, _, _, rfl, p1, q1, i1, j1, -⟩ := q0
  obtain ⟨_, _, _, _, rfl, p2, q2, i2, j2, -⟩ := q1
  have h3 := Rec.term.mono q2 (fun b h => j0 b (j1 b (j2 b h)))
  obtain rfl := p0
  obtain rfl := p1
  obtain rfl := p2
  obtain ⟨b3_0, b3_1, b3_2, b3_3a, b3_3b, b3_3c, rfl⟩ := shapeTerm h3
  have H3 := Aside.mk h3
  show Calls Try.prog 168 #[.agg #[.int .i64 a0, .int .i64 a1, .int .i64 a2, .int .i64 b3_0, .int .i64 b3_1, .string b3_2, .slice b3_3a b3_3b b3_3c], .int .i64 left] w _
  clear i0 j0 i1 j1 i2 j2 h3 q2
  go_enter Try.func168, Try.ntmps168
  go_wp2_with fail
  refine (szTerm a3 [.int .i64 b3_0, .int .i64 b3_1, .string b3_2, .slice b3_3a b3_3b b3_3c] _ (left) (Rec.term.old H3.out (by go_grown)) O3.out (by omega) (by omega)).mono ?_
  rintro e w1 ⟨rfl, hb1⟩
  rw [T3.out]
  have k0 := (Blk.new w 213 [.int .i64 a0, .int .i64 a1, .int .i64 a2, .int .i64 b3_0, .int .i64 b3_1, .string b3_2, .slice b3_3a b3_3b b3_3c]).below hb1
  have bel : Below w.heap.size w w1 := below_later (by go_grown) hb1
  have y1_0 : w1.cell? ⟨w.heap.size, 0, none⟩ = some (.int .i64 a0) := k0.cell 0
  have y1_1 : w1.cell? ⟨w.heap.size, 1, none⟩ = some (.int .i64 a1) := k0.cell 1
  have y1_2 : w1.cell? ⟨w.heap.size, 2, none⟩ = some (.int .i64 a2) := k0.cell 2
  have y1_3 : w1.cell? ⟨w.heap.size, 3, none⟩ = some (.int .i64 b3_0) := k0.cell 3
  have y1_4 : w1.cell? ⟨w.heap.size, 4, none⟩ = some (.int .i64 b3_1) := k0.cell 4
  have y1_5 : w1.cell? ⟨w.heap.size, 5, none⟩ = some (.string b3_2) := k0.cell 5
  have y1_6 : w1.cell? ⟨w.heap.size, 6, none⟩ = some (.slice b3_3a b3_3b b3_3c) := k0.cell 6
  have K0 := Aside.mk k0
  clear k0 hb1
  by_cases c3n : (n3 : Int) ≤ left
  rotate_left
  · rw [szR_no c3n]
    go_wp2_with fail
    go_ret; exact ⟨ret_int (by simp only [szR]; split <;> omega), by go_grown⟩
  rw [szR_yes c3n]
  go_wp2_with fail
  go_ret; exact ⟨ret_int (by simp only [szR]; split <;> omega), by go_grown⟩
set_option maxRecDepth 100000 in
set_option maxHeartbeats 1000000 in
theorem eqEvent (a : AEvent) (ca cb : List Value) (w : World) (ha : REvent.rd False w (Old w) a ca) (hb : REvent.rd False w (Old w) a cb) (ho : REvent.ok a) :
    Calls Try.prog 177 #[.agg ca.toArray, .agg cb.toArray] w fun e w2 => e = .returned (.bool true) ∧ Below w.heap.size w w2 := by
  obtain ⟨a0, a1, a2, a3⟩ := a
  have ho2 : Rec.int.ok a0 ∧ (Rec.int.ok a1 ∧ (Rec.int.ok a2 ∧ (Rec.term.ok a3))) := ho
  obtain ⟨o0, o1, o2, o3⟩ := ho2
  have O3 := Aside.mk o3
  clear ho o0 o1 o2 o3
  obtain ⟨_, _, _, _, rfl, p0a, q0a, i0a, j0a, -⟩ := ha
  obtain ⟨_, _, _, _, rfl, p1a, q1a, i1a, j1a, -⟩ := q0a
  obtain ⟨_, _, _, _, rfl, p2a, q2a, i2a, j2a, -⟩ := q1a
  have h3a := Rec.term.mono q2a (fun b h => j0a b (j1a b (j2a b h)))
  obtain rfl := p0a
  obtain rfl := p1a
  obtain rfl := p2a
  obtain ⟨b3_a0, b3_a1, b3_a2, b3_a3a, b3_a3b, b3_a3c, rfl⟩ := shapeTerm h3a
  have H3a := Aside.mk h3a
  obtain ⟨_, _, _, _, rfl, p0b, q0b, i0b, j0b, -⟩ := hb
  obtain ⟨_, _, _, _, rfl, p1b, q1b, i1b, j1b, -⟩ := q0b
  obtain ⟨_, _, _, _, rfl, p2b, q2b, i2b, j2b, -⟩ := q1b
  have h3b := Rec.term.mono q2b (fun b h => j0b b (j1b b (j2b b h)))
  obtain rfl := p0b
  obtain rfl := p1b
  obtain rfl := p2b
  obtain ⟨b3_b0, b3_b1, b3_b2, b3_b3a, b3_b3b, b3_b3c, rfl⟩ := shapeTerm h3b
  have H3b := Aside.mk h3b
  show Calls Try.prog 177 #[.agg #[.int .i64 a0, .int .i64 a1, .int .i64 a2, .int .i64 b3_a0, .int .i64 b3_a1, .string b3_a2, .slice b3_a3a b3_a3b b3_a3c], .agg #[.int .i64 a0, .int .i64 a1, .int .i64 a2, .int .i64 b3_b0, .int .i64 b3_b1, .string b3_b2, .slice b3_b3a b3_b3b b3_b3c]] w _
  clear i0a j0a i1a j1a i2a j2a h3a q2a i0b j0b i1b j1b i2b j2b h3b q2b
  go_enter Try.func177, Try.ntmps177
  go_wp2_with fail
  refine (eqTerm a3 [.int .i64 b3_a0, .int .i64 b3_a1, .string b3_a2, .slice b3_a3a b3_a3b b3_a3c] [.int .i64 b3_b0, .int .i64 b3_b1, .string b3_b2, .slice b3_b3a b3_b3b b3_b3c] _ (Rec.term.old H3a.out (by go_grown)) (Rec.term.old H3b.out (by go_grown)) O3.out).mono ?_
  rintro e w1 ⟨rfl, hb1⟩
  have k0 := ((Blk.new w 130 [.int .i64 a0, .int .i64 a1, .int .i64 a2, .int .i64 b3_a0, .int .i64 b3_a1, .string b3_a2, .slice b3_a3a b3_a3b b3_a3c]).alloc _).below hb1
  have k1 := (Blk.made (w.alloc _) 130 [.int .i64 a0, .int .i64 a1, .int .i64 a2, .int .i64 b3_b0, .int .i64 b3_b1, .string b3_b2, .slice b3_b3a b3_b3b b3_b3c] (g := w.heap.size + 1) (by simp)).below hb1
  have bel : Below w.heap.size w w1 := below_later (by go_grown) hb1
  have y01_0 : w1.cell? ⟨w.heap.size, 0, none⟩ = some (.int .i64 a0) := k0.cell 0
  have y11_0 : w1.cell? ⟨w.heap.size + 1, 0, none⟩ = some (.int .i64 a0) := k1.cell 0
  have y01_1 : w1.cell? ⟨w.heap.size, 1, none⟩ = some (.int .i64 a1) := k0.cell 1
  have y11_1 : w1.cell? ⟨w.heap.size + 1, 1, none⟩ = some (.int .i64 a1) := k1.cell 1
  have y01_2 : w1.cell? ⟨w.heap.size, 2, none⟩ = some (.int .i64 a2) := k0.cell 2
  have y11_2 : w1.cell? ⟨w.heap.size + 1, 2, none⟩ = some (.int .i64 a2) := k1.cell 2
  have y01_3 : w1.cell? ⟨w.heap.size, 3, none⟩ = some (.int .i64 b3_a0) := k0.cell 3
  have y11_3 : w1.cell? ⟨w.heap.size + 1, 3, none⟩ = some (.int .i64 b3_b0) := k1.cell 3
  have y01_4 : w1.cell? ⟨w.heap.size, 4, none⟩ = some (.int .i64 b3_a1) := k0.cell 4
  have y11_4 : w1.cell? ⟨w.heap.size + 1, 4, none⟩ = some (.int .i64 b3_b1) := k1.cell 4
  have y01_5 : w1.cell? ⟨w.heap.size, 5, none⟩ = some (.string b3_a2) := k0.cell 5
  have y11_5 : w1.cell? ⟨w.heap.size + 1, 5, none⟩ = some (.string b3_b2) := k1.cell 5
  have y01_6 : w1.cell? ⟨w.heap.size, 6, none⟩ = some (.slice b3_a3a b3_a3b b3_a3c) := k0.cell 6
  have y11_6 : w1.cell? ⟨w.heap.size + 1, 6, none⟩ = some (.slice b3_b3a b3_b3b b3_b3c) := k1.cell 6
  have K0 := Aside.mk k0
  have K1 := Aside.mk k1
  clear k0 k1 hb1
  go_wp2_with fail
  go_ret
  exact ⟨rfl, by go_grown⟩
theorem infoEvent : (Try.prog.info? 130).map (fun i => (i.zero, i.size, i.bytes)) = some (some (.agg #[.int .i64 0, .int .i64 0, .int .i64 0, .int .i64 0, .int .i64 0, .string ⟨#[]⟩, .slice none 0 0]), 7, 80) := by kernel_rfl
set_option maxRecDepth 100000 in
set_option maxHeartbeats 1000000 in
theorem toEventS (xs : List AEvent) (ih : ∀ x ∈ xs, ∀ (cs : List Value) (w1 : World), REvent.rd False w1 (Old w1) x cs → REvent.wt x ≤ 1048576 → Calls Try.prog 173 #[.agg cs.toArray] w1 fun e w2 => ∃ cs2, e = .returned (.agg cs2.toArray) ∧ REvent.rd True w2 (Span w1.heap.size w2.heap.size) x cs2 ∧ Below w1.heap.size w1 w2) (v : Value) (w : World) (hn : REvent.sl.wt xs ≤ 1048576) (hv : REvent.sl.rd False w (Old w) xs [v]) :
    Calls Try.prog 103 #[v] w fun e w2 => ∃ v2, e = .returned v2 ∧ REvent.sl.rd True w2 (Span w.heap.size w2.heap.size) xs [v2] ∧ Below w.heap.size w w2 := by
  obtain ⟨i0, hi, hz0, hz1, hz2⟩ := info_parts infoEvent
  have HI := Aside.mk hi
  obtain ⟨ao, cap, he, hcap, hao⟩ := hv
  injection he with he _
  subst he
  have HIH := Aside.mk ih
  have HS := Aside.mk (fun (j : Nat) (h : j < xs.length) => Nat.le_trans (wt_le REvent xs j h) (Nat.le_trans (Nat.le_add_left _ _) hn))
  have HA := Aside.mk hao
  have hn1 : xs.length ≤ 1048576 := Nat.le_trans (Nat.le_add_right _ _) hn
  obtain ⟨n, hl⟩ : ∃ n, n = xs.length := ⟨_, rfl⟩
  have HL := Aside.mk hl
  rw [← hl] at hn1 hcap ⊢
  clear hi hao hn hl ih
  go_enter Try.func103, Try.ntmps103
  go_wp2_with (at_make; refine wpList_make_full _ rfl _ _ 64 rfl w.heap.size 130 i0 (.agg #[.int .i64 0, .int .i64 0, .int .i64 0, .int .i64 0, .int .i64 0, .string ⟨#[]⟩, .slice none 0 0]) 7 Try.underlying64 HI.out hz0 hz1 .i64 .i64 _ _ n rfl rfl rfl rfl ?sd1 ?sd2 ?sd3 ?_)
  case sd1 => first | omega | (rw [hz2]; omega)
  case sd2 => unfold maxLen; omega
  try (case sd3 => exact Nat.le_refl _)
  intro w1 hown hgr
  have hown2 : w1.ownsRow w.heap.size 130 REvent.k (.slice (some ⟨w.heap.size, 0, none⟩) n n) n _ := hown
  have HT := Aside.mk (Copied.start (R := REvent) (xs := xs) hown2 hgr)
  clear hown hown2 hgr HI hz0 hz1 hz2
  go_wp2_with fail
  go_loopw [4] (fun i wr => ∃ k : Nat, k ≤ n ∧ i = .int .i64 k ∧ Aside (Copied REvent 130 w wr xs n k)) (fun i _ => n - (intOf i).toNat)
  case atStart => exact ⟨0, Nat.zero_le _, rfl, HT⟩
  case round =>
    obtain ⟨k, hk, rfl, ht⟩ := hrel
    clear HT
    by_cases hlt : k < n
    · have hlt2 : k < xs.length := by rw [← HL.out]; exact hlt
      rcases HA.out with h0 | ⟨b, o, rfl, hb, f, hf, -, hrow⟩
      · exfalso; rw [h0] at hlt2; exact absurd hlt2 (Nat.not_lt_zero _)
      obtain ⟨cs, hr, hc⟩ := hrow k hlt2
      obtain ⟨c0, c1, c2, c3, c4, c5, c6a, c6b, c6c, rfl⟩ := shapeEvent hr
      have hbel := ht.out.choose_spec.2.2.1
      have d0 : wr.cell? ⟨b, o + k * 7, none⟩ = some (.int .i64 c0) := (hbel.cell (p := ⟨b, o + k * 7 + 0, none⟩) hb).trans (hc 0 (by decide))
      have d1 : wr.cell? ⟨b, o + k * 7 + 1, none⟩ = some (.int .i64 c1) := (hbel.cell (p := ⟨b, o + k * 7 + 1, none⟩) hb).trans (hc 1 (by decide))
      have d2 : wr.cell? ⟨b, o + k * 7 + 2, none⟩ = some (.int .i64 c2) := (hbel.cell (p := ⟨b, o + k * 7 + 2, none⟩) hb).trans (hc 2 (by decide))
      have d3 : wr.cell? ⟨b, o + k * 7 + 3, none⟩ = some (.int .i64 c3) := (hbel.cell (p := ⟨b, o + k * 7 + 3, none⟩) hb).trans (hc 3 (by decide))
      have d4 : wr.cell? ⟨b, o + k * 7 + 4, none⟩ = some (.int .i64 c4) := (hbel.cell (p := ⟨b, o + k * 7 + 4, none⟩) hb).trans (hc 4 (by decide))
      have d5 : wr.cell? ⟨b, o + k * 7 + 5, none⟩ = some (.string c5) := (hbel.cell (p := ⟨b, o + k * 7 + 5, none⟩) hb).trans (hc 5 (by decide))
      have d6 : wr.cell? ⟨b, o + k * 7 + 6, none⟩ = some (.slice c6a c6b c6c) := (hbel.cell (p := ⟨b, o + k * 7 + 6, none⟩) hb).trans (hc 6 (by decide))
      have HR := Aside.mk (REvent.up (w1 := wr) (REvent.mono hr (fun c hc => (hf k c hc).1)) (fun _ h => h) hbel)
      clear hc hrow hf hbel hr
      go_wp2_with fail
      refine (HIH.out xs[k] (List.getElem_mem hlt2) [.int .i64 c0, .int .i64 c1, .int .i64 c2, .int .i64 c3, .int .i64 c4, .string c5, .slice c6a c6b c6c] _ HR.out (HS.out k hlt2)).mono ?_
      rintro e w2 ⟨cs2, rfl, hr2, hb2⟩
      obtain ⟨v0, v1, v2, v3, v4, v5, v6a, v6b, v6c, rfl⟩ := shapeEvent hr2
      obtain ⟨hcell, hfree⟩ := ht.out.blk hb2 hlt
      have HT2 := Aside.mk (ht.out.next hb2 HL.out.symm hlt2 hr2)
      obtain ⟨x0, y0⟩ : ∃ x, w2.cell? ⟨w.heap.size, k * 7, none⟩ = some x := hcell 0 (by decide)
      have z0 := hfree (k * 7)
      obtain ⟨x1, y1⟩ : ∃ x, w2.cell? ⟨w.heap.size, k * 7 + 1, none⟩ = some x := hcell 1 (by decide)
      have z1 := hfree (k * 7 + 1)
      obtain ⟨x2, y2⟩ : ∃ x, w2.cell? ⟨w.heap.size, k * 7 + 2, none⟩ = some x := hcell 2 (by decide)
      have z2 := hfree (k * 7 + 2)
      obtain ⟨x3, y3⟩ : ∃ x, w2.cell? ⟨w.heap.size, k * 7 + 3, none⟩ = some x := hcell 3 (by decide)
      have z3 := hfree (k * 7 + 3)
      obtain ⟨x4, y4⟩ : ∃ x, w2.cell? ⟨w.heap.size, k * 7 + 4, none⟩ = some x := hcell 4 (by decide)
      have z4 := hfree (k * 7 + 4)
      obtain ⟨x5, y5⟩ : ∃ x, w2.cell? ⟨w.heap.size, k * 7 + 5, none⟩ = some x := hcell 5 (by decide)
      have z5 := hfree (k * 7 + 5)
      obtain ⟨x6, y6⟩ : ∃ x, w2.cell? ⟨w.heap.size, k * 7 + 6, none⟩ = some x := hcell 6 (by decide)
      have z6 := hfree (k * 7 + 6)
      clear hcell hfree hr2 hb2 ht d0 d1 d2 d3 d4 d5 d6 HR
      go_wp2_with fail
      go_roundw
      case rel => exact ⟨k + 1, by omega, by go_num, HT2⟩
      case measure => first | (simp [intOf]; done) | (simp [intOf]; omega)
    · obtain rfl : k = n := by omega
      go_wp2_with fail
      go_ret
      exact ⟨_, rfl, ht.out.done HL.out.symm, ht.out.choose_spec.2.2.1⟩
set_option maxRecDepth 100000 in
set_option maxHeartbeats 1000000 in
theorem szEventS (xs : List AEvent) (ih : ∀ x ∈ xs, ∀ (cs : List Value) (w1 : World) (l : Int), REvent.rd False w1 (Old w1) x cs → REvent.ok x → 0 ≤ l → l ≤ 1048576 → Calls Try.prog 168 #[.agg cs.toArray, .int .i64 l] w1 fun e w2 => e = .returned (.int .i64 (szR (REvent.wt x) l)) ∧ Below w1.heap.size w1 w2)
    (v : Value) (w : World) (left : Int) (h : REvent.sl.rd False w (Old w) xs [v]) (ho : REvent.sl.ok xs) (hl0 : 0 ≤ left) (hl : left ≤ 1048576) :
    Calls Try.prog 98 #[v, .int .i64 left] w fun e w2 => e = .returned (.int .i64 (szR (REvent.sl.wt xs) left)) ∧ Below w.heap.size w w2 := by
  obtain ⟨ao, cap, he, hcap, hao⟩ := h
  injection he with he _
  subst he
  have hn1 : xs.length ≤ 9223372036854775807 := ho.1
  have hsum : REvent.sl.wt xs = xs.length + wts REvent xs xs.length := by rw [wts_all]; rfl
  generalize REvent.sl.wt xs = N at hsum
  have HIH := Aside.mk ih
  have HO := Aside.mk ho.2
  have HA := Aside.mk hao
  obtain ⟨n, hln⟩ : ∃ n, n = xs.length := ⟨_, rfl⟩
  rw [← hln] at hn1 hcap hsum ⊢
  have HL := Aside.mk hln
  have HM := Aside.mk (fun k (hk : k ≤ xs.length) => show wts REvent xs k ≤ wts REvent xs xs.length by rw [wts_all]; exact wts_le _ _ _)
  rw [← hln] at HM
  have h00 := Aside.mk (wts_zero REvent xs)
  generalize hW : wts REvent xs n = W at hsum HM
  have HW := Aside.mk hW
  clear ho ih hao hln hW
  go_enter Try.func98, Try.ntmps98
  by_cases c0 : (n : Int) ≤ left
  rotate_left
  · go_wp2_with fail
    go_ret
    exact ⟨ret_int (by simp only [szR]; split <;> omega), by go_grown⟩
  go_wp2_with fail
  go_loopw [1, 5] (fun l i wr => ∃ k : Nat, k ≤ n ∧ i = .int .i64 k ∧ (∃ q : Nat, Aside (q = wts REvent xs k) ∧ (n : Int) + q ≤ left ∧ l = .int .i64 (left - n - q)) ∧ Aside (Below w.heap.size w wr)) (fun _ i _ => n - (intOf i).toNat)
  case atStart => exact ⟨0, Nat.zero_le _, rfl, ⟨0, ⟨h00.out.symm⟩, by omega, by simp⟩, ⟨Below.refl _ _⟩⟩
  case round =>
    obtain ⟨k, hk, rfl, ⟨q, hq, hql, rfl⟩, hbel⟩ := hrel
    by_cases hlt : k < n
    · have hlt2 : k < xs.length := by rw [← HL.out]; exact hlt
      have hstep : Aside (wts REvent xs (k + 1) = q + REvent.wt xs[k]) := ⟨by rw [hq.out]; exact wts_succ _ _ _ hlt2⟩
      have hle : wts REvent xs (k + 1) ≤ W := HM.out (k + 1) hlt
      rw [hstep.out] at hle
      rcases HA.out with h0 | ⟨b, o, rfl, hb, f, hf, -, hrow⟩
      · exfalso; rw [h0] at hlt2; exact absurd hlt2 (Nat.not_lt_zero _)
      obtain ⟨cs, hr, hc⟩ := hrow k hlt2
      obtain ⟨c0, c1, c2, c3, c4, c5, c6a, c6b, c6c, rfl⟩ := shapeEvent hr
      have hbel2 := hbel.out
      have d0 : wr.cell? ⟨b, o + k * 7, none⟩ = some (.int .i64 c0) := (hbel2.cell (p := ⟨b, o + k * 7 + 0, none⟩) hb).trans (hc 0 (by decide))
      have d1 : wr.cell? ⟨b, o + k * 7 + 1, none⟩ = some (.int .i64 c1) := (hbel2.cell (p := ⟨b, o + k * 7 + 1, none⟩) hb).trans (hc 1 (by decide))
      have d2 : wr.cell? ⟨b, o + k * 7 + 2, none⟩ = some (.int .i64 c2) := (hbel2.cell (p := ⟨b, o + k * 7 + 2, none⟩) hb).trans (hc 2 (by decide))
      have d3 : wr.cell? ⟨b, o + k * 7 + 3, none⟩ = some (.int .i64 c3) := (hbel2.cell (p := ⟨b, o + k * 7 + 3, none⟩) hb).trans (hc 3 (by decide))
      have d4 : wr.cell? ⟨b, o + k * 7 + 4, none⟩ = some (.int .i64 c4) := (hbel2.cell (p := ⟨b, o + k * 7 + 4, none⟩) hb).trans (hc 4 (by decide))
      have d5 : wr.cell? ⟨b, o + k * 7 + 5, none⟩ = some (.string c5) := (hbel2.cell (p := ⟨b, o + k * 7 + 5, none⟩) hb).trans (hc 5 (by decide))
      have d6 : wr.cell? ⟨b, o + k * 7 + 6, none⟩ = some (.slice c6a c6b c6c) := (hbel2.cell (p := ⟨b, o + k * 7 + 6, none⟩) hb).trans (hc 6 (by decide))
      have HR := Aside.mk (REvent.up (w1 := wr) (REvent.mono hr (fun c hc => (hf k c hc).1)) (fun _ h => h) hbel2)
      obtain ⟨m, hm⟩ : ∃ m, REvent.wt xs[k] = m := ⟨_, rfl⟩
      rw [hm] at hle
      have Hm := Aside.mk hm
      clear hc hrow hf hbel2 hr hm
      go_wp2_with fail
      refine (HIH.out xs[k] (List.getElem_mem hlt2) [.int .i64 c0, .int .i64 c1, .int .i64 c2, .int .i64 c3, .int .i64 c4, .string c5, .slice c6a c6b c6c] _ (left - n - q) HR.out (HO.out _ (List.getElem_mem hlt2)) (by omega) (by omega)).mono ?_
      rintro e w2 ⟨rfl, hb2⟩
      rw [Hm.out]
      have hb3 := Aside.mk (below_later hbel.out hb2)
      clear d0 d1 d2 d3 d4 d5 d6 HR hb2 hbel
      by_cases c1 : (m : Int) ≤ left - n - q
      · rw [szR_yes c1]
        go_wp2_with fail
        go_roundw
        case rel => exact ⟨k + 1, by omega, by go_num, ⟨q + m, ⟨by rw [hstep.out, Hm.out]⟩, by omega, by first | rfl | (refine congrArg _ ?_; omega)⟩, hb3⟩
        case measure => first | (simp [intOf]; done) | (simp [intOf]; omega)
      · rw [szR_no c1]
        go_wp2_with fail
        go_ret
        exact ⟨ret_int (by simp only [szR]; split <;> omega), hb3.out⟩
    · obtain rfl : k = n := by omega
      go_wp2_with fail
      go_ret
      have hq2 : q = W := hq.out.trans HW.out
      exact ⟨ret_int (by simp only [szR]; split <;> omega), hbel.out⟩
set_option maxRecDepth 100000 in
set_option maxHeartbeats 1000000 in
theorem eqEventS (xs : List AEvent) (ih : ∀ x ∈ xs, ∀ (ca cb : List Value) (w1 : World), REvent.rd False w1 (Old w1) x ca → REvent.rd False w1 (Old w1) x cb → REvent.ok x → Calls Try.prog 177 #[.agg ca.toArray, .agg cb.toArray] w1 fun e w2 => e = .returned (.bool true) ∧ Below w1.heap.size w1 w2)
    (va vb : Value) (w : World) (ha : REvent.sl.rd False w (Old w) xs [va]) (hb : REvent.sl.rd False w (Old w) xs [vb]) (ho : REvent.sl.ok xs) :
    Calls Try.prog 109 #[va, vb] w fun e w2 => e = .returned (.bool true) ∧ Below w.heap.size w w2 := by
  obtain ⟨a1, cap1, he, hcap1, ha1⟩ := ha
  injection he with he _
  subst he
  obtain ⟨a2, cap2, he, hcap2, ha2⟩ := hb
  injection he with he _
  subst he
  have hn : xs.length ≤ 9223372036854775807 := ho.1
  have HO := Aside.mk ho.2
  have HIH := Aside.mk ih
  have HA := Aside.mk ha1
  have HB := Aside.mk ha2
  obtain ⟨n, hln⟩ : ∃ n, n = xs.length := ⟨_, rfl⟩
  rw [← hln] at hn hcap1 hcap2 ⊢
  have HL := Aside.mk hln
  clear ho ih ha1 ha2 hln
  go_enter Try.func109, Try.ntmps109
  go_wp2_with fail
  go_loopw [5] (fun i wr => ∃ k : Nat, k ≤ n ∧ i = .int .i64 k ∧ Aside (Below w.heap.size w wr)) (fun i _ => n - (intOf i).toNat)
  case atStart => exact ⟨0, Nat.zero_le _, rfl, ⟨Below.refl _ _⟩⟩
  case round =>
    obtain ⟨k, hk, rfl, hbel⟩ := hrel
    by_cases hlt : k < n
    · have hlt2 : k < xs.length := by rw [← HL.out]; exact hlt
      rcases HA.out with h0 | ⟨b1, o1, rfl, hb1, f1, hf1, -, hrow1⟩
      · exfalso; rw [h0] at hlt2; exact absurd hlt2 (Nat.not_lt_zero _)
      obtain ⟨cs1, hr1, hc1⟩ := hrow1 k hlt2
      obtain ⟨c0, c1, c2, c3, c4, c5, c6a, c6b, c6c, rfl⟩ := shapeEvent hr1
      rcases HB.out with h0 | ⟨b2, o2, rfl, hb2, f2, hf2, -, hrow2⟩
      · exfalso; rw [h0] at hlt2; exact absurd hlt2 (Nat.not_lt_zero _)
      obtain ⟨cs2, hr2, hc2⟩ := hrow2 k hlt2
      obtain ⟨v0, v1, v2, v3, v4, v5, v6a, v6b, v6c, rfl⟩ := shapeEvent hr2
      have hbel2 := hbel.out
      have d10 : wr.cell? ⟨b1, o1 + k * 7, none⟩ = some (.int .i64 c0) := (hbel2.cell (p := ⟨b1, o1 + k * 7 + 0, none⟩) hb1).trans (hc1 0 (by decide))
      have d11 : wr.cell? ⟨b1, o1 + k * 7 + 1, none⟩ = some (.int .i64 c1) := (hbel2.cell (p := ⟨b1, o1 + k * 7 + 1, none⟩) hb1).trans (hc1 1 (by decide))
      have d12 : wr.cell? ⟨b1, o1 + k * 7 + 2, none⟩ = some (.int .i64 c2) := (hbel2.cell (p := ⟨b1, o1 + k * 7 + 2, none⟩) hb1).trans (hc1 2 (by decide))
      have d13 : wr.cell? ⟨b1, o1 + k * 7 + 3, none⟩ = some (.int .i64 c3) := (hbel2.cell (p := ⟨b1, o1 + k * 7 + 3, none⟩) hb1).trans (hc1 3 (by decide))
      have d14 : wr.cell? ⟨b1, o1 + k * 7 + 4, none⟩ = some (.int .i64 c4) := (hbel2.cell (p := ⟨b1, o1 + k * 7 + 4, none⟩) hb1).trans (hc1 4 (by decide))
      have d15 : wr.cell? ⟨b1, o1 + k * 7 + 5, none⟩ = some (.string c5) := (hbel2.cell (p := ⟨b1, o1 + k * 7 + 5, none⟩) hb1).trans (hc1 5 (by decide))
      have d16 : wr.cell? ⟨b1, o1 + k * 7 + 6, none⟩ = some (.slice c6a c6b c6c) := (hbel2.cell (p := ⟨b1, o1 + k * 7 + 6, none⟩) hb1).trans (hc1 6 (by decide))
      have d20 : wr.cell? ⟨b2, o2 + k * 7, none⟩ = some (.int .i64 v0) := (hbel2.cell (p := ⟨b2, o2 + k * 7 + 0, none⟩) hb2).trans (hc2 0 (by decide))
      have d21 : wr.cell? ⟨b2, o2 + k * 7 + 1, none⟩ = some (.int .i64 v1) := (hbel2.cell (p := ⟨b2, o2 + k * 7 + 1, none⟩) hb2).trans (hc2 1 (by decide))
      have d22 : wr.cell? ⟨b2, o2 + k * 7 + 2, none⟩ = some (.int .i64 v2) := (hbel2.cell (p := ⟨b2, o2 + k * 7 + 2, none⟩) hb2).trans (hc2 2 (by decide))
      have d23 : wr.cell? ⟨b2, o2 + k * 7 + 3, none⟩ = some (.int .i64 v3) := (hbel2.cell (p := ⟨b2, o2 + k * 7 + 3, none⟩) hb2).trans (hc2 3 (by decide))
      have d24 : wr.cell? ⟨b2, o2 + k * 7 + 4, none⟩ = some (.int .i64 v4) := (hbel2.cell (p := ⟨b2, o2 + k * 7 + 4, none⟩) hb2).trans (hc2 4 (by decide))
      have d25 : wr.cell? ⟨b2, o2 + k * 7 + 5, none⟩ = some (.string v5) := (hbel2.cell (p := ⟨b2, o2 + k * 7 + 5, none⟩) hb2).trans (hc2 5 (by decide))
      have d26 : wr.cell? ⟨b2, o2 + k * 7 + 6, none⟩ = some (.slice v6a v6b v6c) := (hbel2.cell (p := ⟨b2, o2 + k * 7 + 6, none⟩) hb2).trans (hc2 6 (by decide))
      have HR1 := Aside.mk (REvent.up (w1 := wr.drew) (REvent.mono hr1 (fun c hc => (hf1 k c hc).1)) (fun _ h => h) hbel2.drew)
      have HR2 := Aside.mk (REvent.up (w1 := wr.drew) (REvent.mono hr2 (fun c hc => (hf2 k c hc).1)) (fun _ h => h) hbel2.drew)
      clear hc1 hrow1 hf1 hr1 hc2 hrow2 hf2 hr2 hbel2
      go_wp2_with fail
      go_still_tail 8, (by kernel_rfl)
      change wpList _ _ _ _ _ wr.drew
      go_wp2_with fail
      refine (HIH.out xs[k] (List.getElem_mem hlt2) [.int .i64 c0, .int .i64 c1, .int .i64 c2, .int .i64 c3, .int .i64 c4, .string c5, .slice c6a c6b c6c] [.int .i64 v0, .int .i64 v1, .int .i64 v2, .int .i64 v3, .int .i64 v4, .string v5, .slice v6a v6b v6c] _ HR1.out HR2.out (HO.out _ (List.getElem_mem hlt2))).mono ?_
      rintro e w2 ⟨rfl, hb2⟩
      have hb3 := Aside.mk (below_later hbel.out.drew hb2)
      clear d10 d20 d11 d21 d12 d22 d13 d23 d14 d24 d15 d25 d16 d26 HR1 HR2 hb2 hbel
      go_wp2_with fail
      go_roundw
      case rel => exact ⟨k + 1, by omega, by go_num, hb3⟩
      case measure => first | (simp [intOf]; done) | (simp [intOf]; omega)
    · obtain rfl : k = n := by omega
      go_wp2_with fail
      go_ret
      exact ⟨rfl, hbel.out⟩
theorem opensEvent {H : Type} {enc : TypeId × Value → H} (n : Nat) : OpensAt enc Try.prog n 213 REvent :=
  opens_struct Try.underlying213 (by kernel_rfl) (fun m _ => (opensF_cons rfl (by kernel_rfl) (opens_int Try.underlying3) (opensF_cons rfl (by kernel_rfl) (opens_int Try.underlying3) (opensF_cons rfl (by kernel_rfl) (opens_int Try.underlying3) (opensF_one rfl (by kernel_rfl) (opensTerm _))))))
end Go.Proofs.Ytdldgchkinflmaa.Lib
