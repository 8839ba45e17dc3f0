/- Hand: how it lies in memory; copied, measured, compared. Conditions: those of each theorem. -/
import Derived.Test.YtlopbheahedofaaDoorGString
set_option linter.unusedVariables false
namespace Go.Proofs.YtlopbheahedofaaDoor.Lib
open Go.RowKit Go.Proofs.YtlopbheahedofaaDoor.Plan
abbrev AHand := Int × ByteArray × ByteArray × Int × Int × ByteArray × ByteArray × Int
def RHand : Rec AHand := Rec.int.pair (Rec.str.pair (Rec.str.pair (Rec.int.pair (Rec.int.pair (Rec.str.pair (Rec.str.pair (Rec.int)))))))
theorem shapeHand {tr : Prop} {w : World} {S : Nat → Prop} {a : AHand} {cs : List Value} (h : RHand.rd tr w S a cs) : ∃ (x0 : Int) (x1 : ByteArray) (x2 : ByteArray) (x3 : Int) (x4 : Int) (x5 : ByteArray) (x6 : ByteArray) (x7 : Int), cs = [.int .i64 x0, .string x1, .string x2, .int .i64 x3, .int .i64 x4, .string x5, .string x6, .int .i64 x7] := by
  obtain ⟨_, _, _, _, rfl, p1, q1, _⟩ := h
  obtain rfl := p1
  obtain ⟨_, _, _, _, rfl, p2, q2, _⟩ := q1
  obtain rfl := p2
  obtain ⟨_, _, _, _, rfl, p3, q3, _⟩ := q2
  obtain rfl := p3
  obtain ⟨_, _, _, _, rfl, p4, q4, _⟩ := q3
  obtain rfl := p4
  obtain ⟨_, _, _, _, rfl, p5, q5, _⟩ := q4
  obtain rfl := p5
  obtain ⟨_, _, _, _, rfl, p6, q6, _⟩ := q5
  obtain rfl := p6
  obtain ⟨_, _, _, _, rfl, p7, q7, _⟩ := q6
  obtain rfl := p7
  obtain rfl := q7
  exact ⟨_, _, _, _, _, _, _, _, rfl⟩
set_option maxRecDepth 100000 in
set_option maxHeartbeats 1000000 in
theorem toHand (a : AHand) (cs : List Value) (w : World) (h : RHand.rd False w (Old w) a cs) (hw : RHand.wt a ≤ 1048576) :
    Calls Tryd.prog 14 #[.agg cs.toArray] w fun e w2 => ∃ cs2, e = .returned (.agg cs2.toArray) ∧ RHand.rd True w2 (Span w.heap.size w2.heap.size) a cs2 ∧ Below w.heap.size w w2 := by
  obtain ⟨a0, a1, a2, a3, a4, a5, a6, a7⟩ := a
  obtain ⟨_, _, _, _, rfl, p0, q0, i0, j0, -⟩ := h
  obtain ⟨_, _, _, _, rfl, p1, q1, i1, j1, -⟩ := q0
  obtain ⟨_, _, _, _, rfl, p2, q2, i2, j2, -⟩ := q1
  obtain ⟨_, _, _, _, rfl, p3, q3, i3, j3, -⟩ := q2
  obtain ⟨_, _, _, _, rfl, p4, q4, i4, j4, -⟩ := q3
  obtain ⟨_, _, _, _, rfl, p5, q5, i5, j5, -⟩ := q4
  obtain ⟨_, _, _, _, rfl, p6, q6, i6, j6, -⟩ := q5
  obtain rfl := p0
  obtain rfl := p1
  obtain rfl := p2
  obtain rfl := p3
  obtain rfl := p4
  obtain rfl := p5
  obtain rfl := p6
  obtain rfl := q6
  have hw2 : Rec.int.wt a0 + (Rec.str.wt a1 + (Rec.str.wt a2 + (Rec.int.wt a3 + (Rec.int.wt a4 + (Rec.str.wt a5 + (Rec.str.wt a6 + (Rec.int.wt a7))))))) ≤ 1048576 := hw
  clear hw hw2
  show Calls Tryd.prog 14 #[.agg #[.int .i64 a0, .string a1, .string a2, .int .i64 a3, .int .i64 a4, .string a5, .string a6, .int .i64 a7]] w _
  clear i0 j0 i1 j1 i2 j2 i3 j3 i4 j4 i5 j5 i6 j6
  go_enter Tryd.func14, Tryd.ntmps14
  go_wp2_with fail
  refine bodyPost_ret (res_c rfl _ _ (w.heap.size + 1) 27 [.int .i64 a0, .string a1, .string a2, .int .i64 a3, .int .i64 a4, .string a5, .string a6, .int .i64 a7] _ rfl ?k Tryd.underlying27 rfl (by kernel_rfl)) rfl ⟨_, rfl, ?r, ?b⟩
  case k => exact (Blk.made (w.alloc _) 27 [.int .i64 a0, .string a1, .string a2, .int .i64 a3, .int .i64 a4, .string a5, .string a6, .int .i64 a7] (g := w.heap.size + 1) (by simp)).alloc _
  case b => go_grown
  case r =>
    exact RHand.mono (Rec.join (Rec.int_rd True _ NoB _) (Rec.join (Rec.str_rd True _ NoB _) (Rec.join (Rec.str_rd True _ NoB _) (Rec.join (Rec.int_rd True _ NoB _) (Rec.join (Rec.int_rd True _ NoB _) (Rec.join (Rec.str_rd True _ NoB _) (Rec.join (Rec.str_rd True _ NoB _) (Rec.int_rd True _ NoB _) (fun b h1 h2 => by first | exact h1.elim | exact h2.elim | (simp only [Span] at h1 h2; omega) | (simp only [Span, NoB, false_or, or_false] at h1 h2; omega))) (fun b h1 h2 => by first | exact h1.elim | exact h2.elim | (simp only [Span] at h1 h2; omega) | (simp only [Span, NoB, false_or, or_false] at h1 h2; omega))) (fun b h1 h2 => by first | exact h1.elim | exact h2.elim | (simp only [Span] at h1 h2; omega) | (simp only [Span, NoB, false_or, or_false] at h1 h2; omega))) (fun b h1 h2 => by first | exact h1.elim | exact h2.elim | (simp only [Span] at h1 h2; omega) | (simp only [Span, NoB, false_or, or_false] at h1 h2; omega))) (fun b h1 h2 => by first | exact h1.elim | exact h2.elim | (simp only [Span] at h1 h2; omega) | (simp only [Span, NoB, false_or, or_false] at h1 h2; omega))) (fun b h1 h2 => by first | exact h1.elim | exact h2.elim | (simp only [Span] at h1 h2; omega) | (simp only [Span, NoB, false_or, or_false] at h1 h2; omega))) (fun b h1 h2 => by first | exact h1.elim | exact h2.elim | (simp only [Span] at h1 h2; omega) | (simp only [Span, NoB, false_or, or_false] at h1 h2; omega))) (fun b h => by simp [Span, NoB] at h ⊢ <;> omega)
set_option maxRecDepth 100000 in
set_option maxHeartbeats 1000000 in
theorem szHand (a : AHand) (cs : List Value) (w : World) (left : Int) (h : RHand.rd False w (Old w) a cs) (ho : RHand.ok a) (hl0 : 0 ≤ left) (hl : left ≤ 1048576) :
    Calls Tryd.prog 12 #[.agg cs.toArray, .int .i64 left] w fun e w2 => e = .returned (.int .i64 (szR (RHand.wt a) left)) ∧ Below w.heap.size w w2 := by
  obtain ⟨a0, a1, a2, a3, a4, a5, a6, a7⟩ := a
  have ho2 : Rec.int.ok a0 ∧ (Rec.str.ok a1 ∧ (Rec.str.ok a2 ∧ (Rec.int.ok a3 ∧ (Rec.int.ok a4 ∧ (Rec.str.ok a5 ∧ (Rec.str.ok a6 ∧ (Rec.int.ok a7))))))) := ho
  obtain ⟨o0, o1, o2, o3, o4, o5, o6, o7⟩ := ho2
  generalize hT : RHand.wt (a0, a1, a2, a3, a4, a5, a6, a7) = N
  have hT2 : Rec.int.wt a0 + (Rec.str.wt a1 + (Rec.str.wt a2 + (Rec.int.wt a3 + (Rec.int.wt a4 + (Rec.str.wt a5 + (Rec.str.wt a6 + (Rec.int.wt a7))))))) = N := hT
  have t0 : Rec.int.wt a0 = 0 := rfl
  have t1 : Rec.str.wt a1 = a1.size := rfl
  have u1 : a1.size ≤ 9223372036854775807 := o1
  have t2 : Rec.str.wt a2 = a2.size := rfl
  have u2 : a2.size ≤ 9223372036854775807 := o2
  have t3 : Rec.int.wt a3 = 0 := rfl
  have t4 : Rec.int.wt a4 = 0 := rfl
  have t5 : Rec.str.wt a5 = a5.size := rfl
  have u5 : a5.size ≤ 9223372036854775807 := o5
  have t6 : Rec.str.wt a6 = a6.size := rfl
  have u6 : a6.size ≤ 9223372036854775807 := o6
  have t7 : Rec.int.wt a7 = 0 := rfl
  have hN : N = a1.size + a2.size + a5.size + a6.size := by omega
  clear ho hT hT2 o0 t0 o1 t1 o2 t2 o3 t3 o4 t4 o5 t5 o6 t6 o7 t7
  obtain ⟨_, _, _, _, rfl, p0, q0, i0, j0, -⟩ := h
  obtain ⟨_, _, _, _, rfl, p1, q1, i1, j1, -⟩ := q0
  obtain ⟨_, _, _, _, rfl, p2, q2, i2, j2, -⟩ := q1
  obtain ⟨_, _, _, _, rfl, p3, q3, i3, j3, -⟩ := q2
  obtain ⟨_, _, _, _, rfl, p4, q4, i4, j4, -⟩ := q3
  obtain ⟨_, _, _, _, rfl, p5, q5, i5, j5, -⟩ := q4
  obtain ⟨_, _, _, _, rfl, p6, q6, i6, j6, -⟩ := q5
  obtain rfl := p0
  obtain rfl := p1
  obtain rfl := p2
  obtain rfl := p3
  obtain rfl := p4
  obtain rfl := p5
  obtain rfl := p6
  obtain rfl := q6
  show Calls Tryd.prog 12 #[.agg #[.int .i64 a0, .string a1, .string a2, .int .i64 a3, .int .i64 a4, .string a5, .string a6, .int .i64 a7], .int .i64 left] w _
  clear i0 j0 i1 j1 i2 j2 i3 j3 i4 j4 i5 j5 i6 j6
  go_enter Tryd.func12, Tryd.ntmps12
  by_cases c1n : (a1.size : Int) ≤ left
  rotate_left
  · go_wp2_with fail
    go_ret; exact ⟨ret_int (by simp only [szR]; split <;> omega), by go_grown⟩
  by_cases c2n : (a2.size : Int) ≤ left - a1.size
  rotate_left
  · go_wp2_with fail
    go_ret; exact ⟨ret_int (by simp only [szR]; split <;> omega), by go_grown⟩
  by_cases c5n : (a5.size : Int) ≤ left - a1.size - a2.size
  rotate_left
  · go_wp2_with fail
    go_ret; exact ⟨ret_int (by simp only [szR]; split <;> omega), by go_grown⟩
  by_cases c6n : (a6.size : Int) ≤ left - a1.size - a2.size - a5.size
  rotate_left
  · go_wp2_with fail
    go_ret; exact ⟨ret_int (by simp only [szR]; split <;> omega), by go_grown⟩
  go_wp2_with fail
  go_ret; exact ⟨ret_int (by simp only [szR]; split <;> omega), by go_grown⟩
set_option maxRecDepth 100000 in
set_option maxHeartbeats 1000000 in
theorem eqHand (a : AHand) (ca cb : List Value) (w : World) (ha : RHand.rd False w (Old w) a ca) (hb : RHand.rd False w (Old w) a cb) (ho : RHand.ok a) :
    Calls Tryd.prog 15 #[.agg ca.toArray, .agg cb.toArray] w fun e w2 => e = .returned (.bool true) ∧ Below w.heap.size w w2 := by
  obtain ⟨a0, a1, a2, a3, a4, a5, a6, a7⟩ := a
  have ho2 : Rec.int.ok a0 ∧ (Rec.str.ok a1 ∧ (Rec.str.ok a2 ∧ (Rec.int.ok a3 ∧ (Rec.int.ok a4 ∧ (Rec.str.ok a5 ∧ (Rec.str.ok a6 ∧ (Rec.int.ok a7))))))) := ho
  obtain ⟨o0, o1, o2, o3, o4, o5, o6, o7⟩ := ho2
  clear ho o0 o1 o2 o3 o4 o5 o6 o7
  obtain ⟨_, _, _, _, rfl, p0a, q0a, i0a, j0a, -⟩ := ha
  obtain ⟨_, _, _, _, rfl, p1a, q1a, i1a, j1a, -⟩ := q0a
  obtain ⟨_, _, _, _, rfl, p2a, q2a, i2a, j2a, -⟩ := q1a
  obtain ⟨_, _, _, _, rfl, p3a, q3a, i3a, j3a, -⟩ := q2a
  obtain ⟨_, _, _, _, rfl, p4a, q4a, i4a, j4a, -⟩ := q3a
  obtain ⟨_, _, _, _, rfl, p5a, q5a, i5a, j5a, -⟩ := q4a
  obtain ⟨_, _, _, _, rfl, p6a, q6a, i6a, j6a, -⟩ := q5a
  obtain rfl := p0a
  obtain rfl := p1a
  obtain rfl := p2a
  obtain rfl := p3a
  obtain rfl := p4a
  obtain rfl := p5a
  obtain rfl := p6a
  obtain rfl := q6a
  obtain ⟨_, _, _, _, rfl, p0b, q0b, i0b, j0b, -⟩ := hb
  obtain ⟨_, _, _, _, rfl, p1b, q1b, i1b, j1b, -⟩ := q0b
  obtain ⟨_, _, _, _, rfl, p2b, q2b, i2b, j2b, -⟩ := q1b
  obtain ⟨_, _, _, _, rfl, p3b, q3b, i3b, j3b, -⟩ := q2b
  obtain ⟨_, _, _, _, rfl, p4b, q4b, i4b, j4b, -⟩ := q3b
  obtain ⟨_, _, _, _, rfl, p5b, q5b, i5b, j5b, -⟩ := q4b
  obtain ⟨_, _, _, _, rfl, p6b, q6b, i6b, j6b, -⟩ := q5b
  obtain rfl := p0b
  obtain rfl := p1b
  obtain rfl := p2b
  obtain rfl := p3b
  obtain rfl := p4b
  obtain rfl := p5b
  obtain rfl := p6b
  obtain rfl := q6b
  show Calls Tryd.prog 15 #[.agg #[.int .i64 a0, .string a1, .string a2, .int .i64 a3, .int .i64 a4, .string a5, .string a6, .int .i64 a7], .agg #[.int .i64 a0, .string a1, .string a2, .int .i64 a3, .int .i64 a4, .string a5, .string a6, .int .i64 a7]] w _
  clear i0a j0a i1a j1a i2a j2a i3a j3a i4a j4a i5a j5a i6a j6a i0b j0b i1b j1b i2b j2b i3b j3b i4b j4b i5b j5b i6b j6b
  go_enter Tryd.func15, Tryd.ntmps15
  go_wp2_with fail
  go_ret
  exact ⟨rfl, by go_grown⟩
theorem opensHand {H : Type} {enc : TypeId × Value → H} (n : Nat) : OpensAt enc Tryd.prog n 35 RHand :=
  opens_struct Tryd.underlying35 (by kernel_rfl) (fun m _ => (opensF_cons rfl (by kernel_rfl) (opens_int Tryd.underlying3) (opensF_cons rfl (by kernel_rfl) (opens_str Tryd.underlying9) (opensF_cons rfl (by kernel_rfl) (opens_str Tryd.underlying9) (opensF_cons rfl (by kernel_rfl) (opens_int Tryd.underlying3) (opensF_cons rfl (by kernel_rfl) (opens_int Tryd.underlying3) (opensF_cons rfl (by kernel_rfl) (opens_str Tryd.underlying9) (opensF_cons rfl (by kernel_rfl) (opens_str Tryd.underlying9) (opensF_one rfl (by kernel_rfl) (opens_int Tryd.underlying3))))))))))
end Go.Proofs.YtlopbheahedofaaDoor.Lib
