/- SupSpec: how it lies in memory; copied, measured, compared. Conditions: those of each theorem. -/
import Derived.Test.YtjjnlbimegabpaaGSupKid
set_option linter.unusedVariables false
namespace Go.Proofs.Ytjjnlbimegabpaa.Lib
open Go.RowKit Go.Proofs.Ytjjnlbimegabpaa.Plan
abbrev ASupSpec := Int × Int × Int × (List ASupKid)
def RSupSpec : Rec ASupSpec := Rec.int.pair (Rec.int.pair (Rec.int.pair (RSupKid.sl)))
theorem shapeSupSpec {tr : Prop} {w : World} {S : Nat → Prop} {a : ASupSpec} {cs : List Value} (h : RSupSpec.rd tr w S a cs) : ∃ (x0 : Int) (x1 : Int) (x2 : Int) (x3a : Option Addr) (x3b : Nat) (x3c : Nat), cs = [.int .i64 x0, .int .i64 x1, .int .i64 x2, .slice x3a x3b x3c] := by
  obtain ⟨_, _, _, _, rfl, p1, q1, _⟩ := h
  obtain rfl := p1
  obtain ⟨_, _, _, _, rfl, p2, q2, _⟩ := q1
  obtain rfl := p2
  obtain ⟨_, _, _, _, rfl, p3, q3, _⟩ := q2
  obtain rfl := p3
  obtain ⟨_, _, rfl, _⟩ := q3
  exact ⟨_, _, _, _, _, _, rfl⟩
set_option maxRecDepth 100000 in
set_option maxHeartbeats 1000000 in
theorem toSupSpec (a : ASupSpec) (cs : List Value) (w : World) (h : RSupSpec.rd False w (Old w) a cs) (hw : RSupSpec.wt a ≤ 1048576) :
    Calls Try.prog 39 #[.agg cs.toArray] w fun e w2 => ∃ cs2, e = .returned (.agg cs2.toArray) ∧ RSupSpec.rd True w2 (Span w.heap.size w2.heap.size) a cs2 ∧ Below w.heap.size w w2 := by
  obtain ⟨a0, a1, a2, a3⟩ := a
  obtain ⟨_, _, _, _, rfl, p0, q0, i0, j0, -⟩ := h
  obtain ⟨_, _, _, _, rfl, p1, q1, i1, j1, -⟩ := q0
  obtain ⟨_, _, _, _, rfl, p2, q2, i2, j2, -⟩ := q1
  have h3 := RSupKid.sl.mono q2 (fun b h => j0 b (j1 b (j2 b h)))
  obtain rfl := p0
  obtain rfl := p1
  obtain rfl := p2
  obtain ⟨A3, c3, rfl, -⟩ := id h3
  have H3 := Aside.mk h3
  have hw2 : Rec.int.wt a0 + (Rec.int.wt a1 + (Rec.int.wt a2 + (RSupKid.sl.wt a3))) ≤ 1048576 := hw
  have W3 : RSupKid.sl.wt a3 ≤ 1048576 := by omega
  clear hw hw2
  show Calls Try.prog 39 #[.agg #[.int .i64 a0, .int .i64 a1, .int .i64 a2, .slice A3 a3.length c3]] w _
  clear h3 i0 j0 i1 j1 i2 j2 q2
  go_enter Try.func39, Try.ntmps39
  go_wp2_with fail
  refine (toSupKidS a3 (fun x _ cs w1 h hw => toSupKid x cs w1 h hw) _ _ W3 (RSupKid.sl.old H3.out (by go_grown))).mono ?_
  rintro e w1 ⟨r3, rfl, hr3, hb1⟩
  have hs1 : w.heap.size + 3 ≤ w1.heap.size := by have := hb1.size; simp at this; omega
  have hr3 : RSupKid.sl.rd True w1 (Span (w.heap.size + 3) w1.heap.size) a3 [r3] := RSupKid.sl.mono hr3 (fun b h => ⟨by have := h.1; simp at this; omega, h.2⟩)
  obtain ⟨B3, d3, he, -⟩ := id hr3
  injection he with he _
  subst he
  have HR3 := Aside.mk hr3
  have k0 := (((Blk.new w 60 [.int .i64 a0, .int .i64 a1, .int .i64 a2, .slice A3 a3.length c3]).alloc _).alloc _).below hb1
  have k1 := ((Blk.made (w.alloc _) 65 [.int .i64 0, .int .i64 0, .int .i64 0, .slice none 0 0] (g := w.heap.size + 1) (by simp)).alloc _).below hb1
  have k2 := (Blk.made ((w.alloc _).alloc _) 65 [.int .i64 a0, .int .i64 a1, .int .i64 a2, .slice none 0 0] (g := w.heap.size + 1 + 1) (by simp)).below hb1
  have bel : Below w.heap.size w w1 := below_later (by go_grown) hb1
  have y0_0 : w1.cell? ⟨w.heap.size, 0, none⟩ = some (.int .i64 a0) := k0.cell 0
  have y1_0 : w1.cell? ⟨w.heap.size + 1, 0, none⟩ = some (.int .i64 0) := k1.cell 0
  have y2_0 : w1.cell? ⟨w.heap.size + 1 + 1, 0, none⟩ = some (.int .i64 a0) := k2.cell 0
  have z1_0 := k1.free 0
  have z2_0 := k2.free 0
  have y0_1 : w1.cell? ⟨w.heap.size, 1, none⟩ = some (.int .i64 a1) := k0.cell 1
  have y1_1 : w1.cell? ⟨w.heap.size + 1, 1, none⟩ = some (.int .i64 0) := k1.cell 1
  have y2_1 : w1.cell? ⟨w.heap.size + 1 + 1, 1, none⟩ = some (.int .i64 a1) := k2.cell 1
  have z1_1 := k1.free 1
  have z2_1 := k2.free 1
  have y0_2 : w1.cell? ⟨w.heap.size, 2, none⟩ = some (.int .i64 a2) := k0.cell 2
  have y1_2 : w1.cell? ⟨w.heap.size + 1, 2, none⟩ = some (.int .i64 0) := k1.cell 2
  have y2_2 : w1.cell? ⟨w.heap.size + 1 + 1, 2, none⟩ = some (.int .i64 a2) := k2.cell 2
  have z1_2 := k1.free 2
  have z2_2 := k2.free 2
  have y0_3 : w1.cell? ⟨w.heap.size, 3, none⟩ = some (.slice A3 a3.length c3) := k0.cell 3
  have y1_3 : w1.cell? ⟨w.heap.size + 1, 3, none⟩ = some (.slice none 0 0) := k1.cell 3
  have y2_3 : w1.cell? ⟨w.heap.size + 1 + 1, 3, none⟩ = some (.slice none 0 0) := k2.cell 3
  have z1_3 := k1.free 3
  have z2_3 := k2.free 3
  have K0 := Aside.mk k0
  have K1 := Aside.mk k1
  have K2 := Aside.mk k2
  have BEL := Aside.mk bel
  clear k0 k1 k2 bel hb1 hr3
  go_wp2_with fail
  have k1 := K1.out
  have bel := BEL.out
  refine bodyPost_ret (res_c rfl _ _ (w.heap.size + 1) 65 [.int .i64 a0, .int .i64 a1, .int .i64 a2, .slice B3 a3.length d3] _ rfl ?k Try.underlying65 rfl (by kernel_rfl)) rfl ⟨_, rfl, ?r, ?b⟩
  case k => exact (((((k1.far (by simp) _).set 0 _).set 1 _).set 2 _).set 3 _)
  case b => go_grown
  case r =>
    have hr3 := HR3.out
    exact RSupSpec.mono (Rec.join (Rec.int_rd True _ NoB _) (Rec.join (Rec.int_rd True _ NoB _) (Rec.join (Rec.int_rd True _ NoB _) (RSupKid.sl.over hr3 (fun b o h1 h2 => by rw [cell_far (by omega)]; rw [cell_far (by omega)]; rw [cell_far (by omega)]; rw [cell_far (by omega)]; rw [cell_far (by omega)])) (fun b h1 h2 => by simp only [Span, NoB] at h1 h2 <;> omega)) (fun b h1 h2 => by simp only [Span, NoB] at h1 h2 <;> omega)) (fun b h1 h2 => by simp only [Span, NoB] at h1 h2 <;> omega)) (fun b h => by simp [Span, NoB] at h ⊢ <;> omega)
set_option maxRecDepth 100000 in
set_option maxHeartbeats 1000000 in
theorem szSupSpec (a : ASupSpec) (cs : List Value) (w : World) (left : Int) (h : RSupSpec.rd False w (Old w) a cs) (ho : RSupSpec.ok a) (hl0 : 0 ≤ left) (hl : left ≤ 1048576) :
    Calls Try.prog 37 #[.agg cs.toArray, .int .i64 left] w fun e w2 => e = .returned (.int .i64 (szR (RSupSpec.wt a) left)) ∧ Below w.heap.size w w2 := by
  obtain ⟨a0, a1, a2, a3⟩ := a
  have ho2 : Rec.int.ok a0 ∧ (Rec.int.ok a1 ∧ (Rec.int.ok a2 ∧ (RSupKid.sl.ok a3))) := ho
  obtain ⟨o0, o1, o2, o3⟩ := ho2
  generalize hT : RSupSpec.wt (a0, a1, a2, a3) = N
  have hT2 : Rec.int.wt a0 + (Rec.int.wt a1 + (Rec.int.wt a2 + (RSupKid.sl.wt a3))) = N := hT
  have t0 : Rec.int.wt a0 = 0 := rfl
  have t1 : Rec.int.wt a1 = 0 := rfl
  have t2 : Rec.int.wt a2 = 0 := rfl
  obtain ⟨n3, t3⟩ : ∃ n, RSupKid.sl.wt a3 = n := ⟨_, rfl⟩
  have T3 := Aside.mk t3
  have O3 := Aside.mk o3
  have hN : N = n3 := by omega
  clear ho hT hT2 o0 t0 o1 t1 o2 t2 o3 t3
  obtain ⟨_, _, _, _, rfl, p0, q0, i0, j0, -⟩ := h
  obtain ⟨_, _, _, _, rfl, p1, q1, i1, j1, -⟩ := q0
  obtain ⟨_, _, _, _, rfl, p2, q2, i2, j2, -⟩ := q1
  have h3 := RSupKid.sl.mono q2 (fun b h => j0 b (j1 b (j2 b h)))
  obtain rfl := p0
  obtain rfl := p1
  obtain rfl := p2
  obtain ⟨A3, c3, rfl, -⟩ := id h3
  have H3 := Aside.mk h3
  show Calls Try.prog 37 #[.agg #[.int .i64 a0, .int .i64 a1, .int .i64 a2, .slice A3 a3.length c3], .int .i64 left] w _
  clear i0 j0 i1 j1 i2 j2 h3 q2
  go_enter Try.func37, Try.ntmps37
  go_wp2_with fail
  refine (szSupKidS a3 (fun x _ cs w1 l h ho h0 hl => szSupKid x cs w1 l h ho h0 hl) _ _ (left) (RSupKid.sl.old H3.out (by go_grown)) O3.out (by omega) (by omega)).mono ?_
  rintro e w1 ⟨rfl, hb1⟩
  rw [T3.out]
  have k0 := (Blk.new w 60 [.int .i64 a0, .int .i64 a1, .int .i64 a2, .slice A3 a3.length c3]).below hb1
  have bel : Below w.heap.size w w1 := below_later (by go_grown) hb1
  have y1_0 : w1.cell? ⟨w.heap.size, 0, none⟩ = some (.int .i64 a0) := k0.cell 0
  have y1_1 : w1.cell? ⟨w.heap.size, 1, none⟩ = some (.int .i64 a1) := k0.cell 1
  have y1_2 : w1.cell? ⟨w.heap.size, 2, none⟩ = some (.int .i64 a2) := k0.cell 2
  have y1_3 : w1.cell? ⟨w.heap.size, 3, none⟩ = some (.slice A3 a3.length c3) := k0.cell 3
  have K0 := Aside.mk k0
  clear k0 hb1
  by_cases c3n : (n3 : Int) ≤ left
  rotate_left
  · rw [szR_no c3n]
    go_wp2_with fail
    go_ret; exact ⟨ret_int (by simp only [szR]; split <;> omega), by go_grown⟩
  rw [szR_yes c3n]
  go_wp2_with fail
  go_ret; exact ⟨ret_int (by simp only [szR]; split <;> omega), by go_grown⟩
set_option maxRecDepth 100000 in
set_option maxHeartbeats 1000000 in
theorem eqSupSpec (a : ASupSpec) (ca cb : List Value) (w : World) (ha : RSupSpec.rd False w (Old w) a ca) (hb : RSupSpec.rd False w (Old w) a cb) (ho : RSupSpec.ok a) :
    Calls Try.prog 41 #[.agg ca.toArray, .agg cb.toArray] w fun e w2 => e = .returned (.bool true) ∧ Below w.heap.size w w2 := by
  obtain ⟨a0, a1, a2, a3⟩ := a
  have ho2 : Rec.int.ok a0 ∧ (Rec.int.ok a1 ∧ (Rec.int.ok a2 ∧ (RSupKid.sl.ok a3))) := ho
  obtain ⟨o0, o1, o2, o3⟩ := ho2
  have O3 := Aside.mk o3
  clear ho o0 o1 o2 o3
  obtain ⟨_, _, _, _, rfl, p0a, q0a, i0a, j0a, -⟩ := ha
  obtain ⟨_, _, _, _, rfl, p1a, q1a, i1a, j1a, -⟩ := q0a
  obtain ⟨_, _, _, _, rfl, p2a, q2a, i2a, j2a, -⟩ := q1a
  have h3a := RSupKid.sl.mono q2a (fun b h => j0a b (j1a b (j2a b h)))
  obtain rfl := p0a
  obtain rfl := p1a
  obtain rfl := p2a
  obtain ⟨A3a, c3a, rfl, -⟩ := id h3a
  have H3a := Aside.mk h3a
  obtain ⟨_, _, _, _, rfl, p0b, q0b, i0b, j0b, -⟩ := hb
  obtain ⟨_, _, _, _, rfl, p1b, q1b, i1b, j1b, -⟩ := q0b
  obtain ⟨_, _, _, _, rfl, p2b, q2b, i2b, j2b, -⟩ := q1b
  have h3b := RSupKid.sl.mono q2b (fun b h => j0b b (j1b b (j2b b h)))
  obtain rfl := p0b
  obtain rfl := p1b
  obtain rfl := p2b
  obtain ⟨A3b, c3b, rfl, -⟩ := id h3b
  have H3b := Aside.mk h3b
  show Calls Try.prog 41 #[.agg #[.int .i64 a0, .int .i64 a1, .int .i64 a2, .slice A3a a3.length c3a], .agg #[.int .i64 a0, .int .i64 a1, .int .i64 a2, .slice A3b a3.length c3b]] w _
  clear i0a j0a i1a j1a i2a j2a h3a q2a i0b j0b i1b j1b i2b j2b h3b q2b
  go_enter Try.func41, Try.ntmps41
  go_wp2_with fail
  refine (eqSupKidS a3 (fun x _ ca cb w1 ha hb ho => eqSupKid x ca cb w1 ha hb ho) _ _ _ (RSupKid.sl.old H3a.out (by go_grown)) (RSupKid.sl.old H3b.out (by go_grown)) O3.out).mono ?_
  rintro e w1 ⟨rfl, hb1⟩
  have k0 := ((Blk.new w 65 [.int .i64 a0, .int .i64 a1, .int .i64 a2, .slice A3a a3.length c3a]).alloc _).below hb1
  have k1 := (Blk.made (w.alloc _) 65 [.int .i64 a0, .int .i64 a1, .int .i64 a2, .slice A3b a3.length c3b] (g := w.heap.size + 1) (by simp)).below hb1
  have bel : Below w.heap.size w w1 := below_later (by go_grown) hb1
  have y01_0 : w1.cell? ⟨w.heap.size, 0, none⟩ = some (.int .i64 a0) := k0.cell 0
  have y11_0 : w1.cell? ⟨w.heap.size + 1, 0, none⟩ = some (.int .i64 a0) := k1.cell 0
  have y01_1 : w1.cell? ⟨w.heap.size, 1, none⟩ = some (.int .i64 a1) := k0.cell 1
  have y11_1 : w1.cell? ⟨w.heap.size + 1, 1, none⟩ = some (.int .i64 a1) := k1.cell 1
  have y01_2 : w1.cell? ⟨w.heap.size, 2, none⟩ = some (.int .i64 a2) := k0.cell 2
  have y11_2 : w1.cell? ⟨w.heap.size + 1, 2, none⟩ = some (.int .i64 a2) := k1.cell 2
  have y01_3 : w1.cell? ⟨w.heap.size, 3, none⟩ = some (.slice A3a a3.length c3a) := k0.cell 3
  have y11_3 : w1.cell? ⟨w.heap.size + 1, 3, none⟩ = some (.slice A3b a3.length c3b) := k1.cell 3
  have K0 := Aside.mk k0
  have K1 := Aside.mk k1
  clear k0 k1 hb1
  go_wp2_with fail
  go_ret
  exact ⟨rfl, by go_grown⟩
theorem opensSupSpec {H : Type} {enc : TypeId × Value → H} (n : Nat) : OpensAt enc Try.prog n 60 RSupSpec :=
  opens_struct Try.underlying60 (by kernel_rfl) (fun m _ => (opensF_cons rfl (by kernel_rfl) (opens_int Try.underlying3) (opensF_cons rfl (by kernel_rfl) (opens_int Try.underlying3) (opensF_cons rfl (by kernel_rfl) (opens_int Try.underlying3) (opensF_one rfl (by kernel_rfl) (opens_sl Try.underlying58 (by kernel_rfl) (by decide) (fun m _ => (opensSupKid _))))))))
end Go.Proofs.Ytjjnlbimegabpaa.Lib
