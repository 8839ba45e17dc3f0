/- Table: how it lies in memory; copied, measured, compared. Conditions: those of each theorem. -/
import Derived.Test.YtdldgchkinflmaaGTerm
set_option linter.unusedVariables false
namespace Go.Proofs.Ytdldgchkinflmaa.Lib
open Go.RowKit Go.Proofs.Ytdldgchkinflmaa.Plan
abbrev ATable := Int × (List T)
def RTable : Rec ATable := Rec.int.pair (Rec.term.sl)
theorem shapeTable {tr : Prop} {w : World} {S : Nat → Prop} {a : ATable} {cs : List Value} (h : RTable.rd tr w S a cs) : ∃ (x0 : Int) (x1a : Option Addr) (x1b : Nat) (x1c : Nat), cs = [.int .i64 x0, .slice x1a x1b x1c] := by
  obtain ⟨_, _, _, _, rfl, p1, q1, _⟩ := h
  obtain rfl := p1
  obtain ⟨_, _, rfl, _⟩ := q1
  exact ⟨_, _, _, _, rfl⟩
set_option maxRecDepth 100000 in
set_option maxHeartbeats 1000000 in
theorem toTable (a : ATable) (cs : List Value) (w : World) (h : RTable.rd False w (Old w) a cs) (hw : RTable.wt a ≤ 1048576) :
    Calls Try.prog 23 #[.agg cs.toArray] w fun e w2 => ∃ cs2, e = .returned (.agg cs2.toArray) ∧ RTable.rd True w2 (Span w.heap.size w2.heap.size) a cs2 ∧ Below w.heap.size w w2 := by
  obtain ⟨a0, a1⟩ := a
  obtain ⟨_, _, _, _, rfl, p0, q0, i0, j0, -⟩ := h
  have h1 := Rec.term.sl.mono q0 (fun b h => j0 b h)
  obtain rfl := p0
  obtain ⟨A1, c1, rfl, -⟩ := id h1
  have H1 := Aside.mk h1
  have hw2 : Rec.int.wt a0 + (Rec.term.sl.wt a1) ≤ 1048576 := hw
  have W1 : Rec.term.sl.wt a1 ≤ 1048576 := by omega
  clear hw hw2
  show Calls Try.prog 23 #[.agg #[.int .i64 a0, .slice A1 a1.length c1]] w _
  clear h1 i0 j0 q0
  go_enter Try.func23, Try.ntmps23
  go_wp2_with fail
  refine (toTermS a1 (fun x _ cs w1 h hw => toTerm x cs w1 h hw) _ _ W1 (Rec.term.sl.old H1.out (by go_grown))).mono ?_
  rintro e w1 ⟨r1, rfl, hr1, hb1⟩
  have hs1 : w.heap.size + 3 ≤ w1.heap.size := by have := hb1.size; simp at this; omega
  have hr1 : Rec.term.sl.rd True w1 (Span (w.heap.size + 3) w1.heap.size) a1 [r1] := Rec.term.sl.mono hr1 (fun b h => ⟨by have := h.1; simp at this; omega, h.2⟩)
  obtain ⟨B1, d1, he, -⟩ := id hr1
  injection he with he _
  subst he
  have HR1 := Aside.mk hr1
  have k0 := (((Blk.new w 36 [.int .i64 a0, .slice A1 a1.length c1]).alloc _).alloc _).below hb1
  have k1 := ((Blk.made (w.alloc _) 42 [.int .i64 0, .slice none 0 0] (g := w.heap.size + 1) (by simp)).alloc _).below hb1
  have k2 := (Blk.made ((w.alloc _).alloc _) 42 [.int .i64 a0, .slice none 0 0] (g := w.heap.size + 1 + 1) (by simp)).below hb1
  have bel : Below w.heap.size w w1 := below_later (by go_grown) hb1
  have y0_0 : w1.cell? ⟨w.heap.size, 0, none⟩ = some (.int .i64 a0) := k0.cell 0
  have y1_0 : w1.cell? ⟨w.heap.size + 1, 0, none⟩ = some (.int .i64 0) := k1.cell 0
  have y2_0 : w1.cell? ⟨w.heap.size + 1 + 1, 0, none⟩ = some (.int .i64 a0) := k2.cell 0
  have z1_0 := k1.free 0
  have z2_0 := k2.free 0
  have y0_1 : w1.cell? ⟨w.heap.size, 1, none⟩ = some (.slice A1 a1.length c1) := k0.cell 1
  have y1_1 : w1.cell? ⟨w.heap.size + 1, 1, none⟩ = some (.slice none 0 0) := k1.cell 1
  have y2_1 : w1.cell? ⟨w.heap.size + 1 + 1, 1, none⟩ = some (.slice none 0 0) := k2.cell 1
  have z1_1 := k1.free 1
  have z2_1 := k2.free 1
  have K0 := Aside.mk k0
  have K1 := Aside.mk k1
  have K2 := Aside.mk k2
  have BEL := Aside.mk bel
  clear k0 k1 k2 bel hb1 hr1
  go_wp2_with fail
  have k1 := K1.out
  have bel := BEL.out
  refine bodyPost_ret (res_c rfl _ _ (w.heap.size + 1) 42 [.int .i64 a0, .slice B1 a1.length d1] _ rfl ?k Try.underlying42 rfl (by kernel_rfl)) rfl ⟨_, rfl, ?r, ?b⟩
  case k => exact (((k1.far (by simp) _).set 0 _).set 1 _)
  case b => go_grown
  case r =>
    have hr1 := HR1.out
    exact RTable.mono (Rec.join (Rec.int_rd True _ NoB _) (Rec.term.sl.over hr1 (fun b h1 h2 => by rw [heap_far (by omega)]; rw [heap_far (by omega)]; rw [heap_far (by omega)])) (fun b h1 h2 => by first | exact h1.elim | exact h2.elim | (simp only [Span] at h1 h2; omega))) (fun b h => by simp [Span, NoB] at h ⊢ <;> omega)
set_option maxRecDepth 100000 in
set_option maxHeartbeats 1000000 in
theorem szTable (a : ATable) (cs : List Value) (w : World) (left : Int) (h : RTable.rd False w (Old w) a cs) (ho : RTable.ok a) (hl0 : 0 ≤ left) (hl : left ≤ 1048576) :
    Calls Try.prog 20 #[.agg cs.toArray, .int .i64 left] w fun e w2 => e = .returned (.int .i64 (szR (RTable.wt a) left)) ∧ Below w.heap.size w w2 := by
  obtain ⟨a0, a1⟩ := a
  have ho2 : Rec.int.ok a0 ∧ (Rec.term.sl.ok a1) := ho
  obtain ⟨o0, o1⟩ := ho2
  generalize hT : RTable.wt (a0, a1) = N
  have hT2 : Rec.int.wt a0 + (Rec.term.sl.wt a1) = N := hT
  have t0 : Rec.int.wt a0 = 0 := rfl
  obtain ⟨n1, t1⟩ : ∃ n, Rec.term.sl.wt a1 = n := ⟨_, rfl⟩
  have T1 := Aside.mk t1
  have O1 := Aside.mk o1
  have hN : N = n1 := by omega
  clear ho hT hT2 o0 t0 o1 t1
  obtain ⟨_, _, _, _, rfl, p0, q0, i0, j0, -⟩ := h
  have h1 := Rec.term.sl.mono q0 (fun b h => j0 b h)
  obtain rfl := p0
  obtain ⟨A1, c1, rfl, -⟩ := id h1
  have H1 := Aside.mk h1
  show Calls Try.prog 20 #[.agg #[.int .i64 a0, .slice A1 a1.length c1], .int .i64 left] w _
  clear i0 j0 h1 q0
  go_enter Try.func20, Try.ntmps20
  go_wp2_with fail
  refine (szTermS a1 (fun x _ cs w1 l h ho h0 hl => szTerm x cs w1 l h ho h0 hl) _ _ (left) (Rec.term.sl.old H1.out (by go_grown)) O1.out (by omega) (by omega)).mono ?_
  rintro e w1 ⟨rfl, hb1⟩
  rw [T1.out]
  have k0 := (Blk.new w 36 [.int .i64 a0, .slice A1 a1.length c1]).below hb1
  have bel : Below w.heap.size w w1 := below_later (by go_grown) hb1
  have y1_0 : w1.cell? ⟨w.heap.size, 0, none⟩ = some (.int .i64 a0) := k0.cell 0
  have y1_1 : w1.cell? ⟨w.heap.size, 1, none⟩ = some (.slice A1 a1.length c1) := k0.cell 1
  have K0 := Aside.mk k0
  clear k0 hb1
  by_cases c1n : (n1 : Int) ≤ left
  rotate_left
  · rw [szR_no c1n]
    go_wp2_with fail
    go_ret; exact ⟨ret_int (by simp only [szR]; split <;> omega), by go_grown⟩
  rw [szR_yes c1n]
  go_wp2_with fail
  go_ret; exact ⟨ret_int (by simp only [szR]; split <;> omega), by go_grown⟩
set_option maxRecDepth 100000 in
set_option maxHeartbeats 1000000 in
theorem eqTable (a : ATable) (ca cb : List Value) (w : World) (ha : RTable.rd False w (Old w) a ca) (hb : RTable.rd False w (Old w) a cb) (ho : RTable.ok a) :
    Calls Try.prog 26 #[.agg ca.toArray, .agg cb.toArray] w fun e w2 => e = .returned (.bool true) ∧ Below w.heap.size w w2 := by
  obtain ⟨a0, a1⟩ := a
  have ho2 : Rec.int.ok a0 ∧ (Rec.term.sl.ok a1) := ho
  obtain ⟨o0, o1⟩ := ho2
  have O1 := Aside.mk o1
  clear ho o0 o1
  obtain ⟨_, _, _, _, rfl, p0a, q0a, i0a, j0a, -⟩ := ha
  have h1a := Rec.term.sl.mono q0a (fun b h => j0a b h)
  obtain rfl := p0a
  obtain ⟨A1a, c1a, rfl, -⟩ := id h1a
  have H1a := Aside.mk h1a
  obtain ⟨_, _, _, _, rfl, p0b, q0b, i0b, j0b, -⟩ := hb
  have h1b := Rec.term.sl.mono q0b (fun b h => j0b b h)
  obtain rfl := p0b
  obtain ⟨A1b, c1b, rfl, -⟩ := id h1b
  have H1b := Aside.mk h1b
  show Calls Try.prog 26 #[.agg #[.int .i64 a0, .slice A1a a1.length c1a], .agg #[.int .i64 a0, .slice A1b a1.length c1b]] w _
  clear i0a j0a h1a q0a i0b j0b h1b q0b
  go_enter Try.func26, Try.ntmps26
  go_wp2_with fail
  refine (eqTermS a1 (fun x _ ca cb w1 ha hb ho => eqTerm x ca cb w1 ha hb ho) _ _ _ (Rec.term.sl.old H1a.out (by go_grown)) (Rec.term.sl.old H1b.out (by go_grown)) O1.out).mono ?_
  rintro e w1 ⟨rfl, hb1⟩
  have k0 := ((Blk.new w 42 [.int .i64 a0, .slice A1a a1.length c1a]).alloc _).below hb1
  have k1 := (Blk.made (w.alloc _) 42 [.int .i64 a0, .slice A1b a1.length c1b] (g := w.heap.size + 1) (by simp)).below hb1
  have bel : Below w.heap.size w w1 := below_later (by go_grown) hb1
  have y01_0 : w1.cell? ⟨w.heap.size, 0, none⟩ = some (.int .i64 a0) := k0.cell 0
  have y11_0 : w1.cell? ⟨w.heap.size + 1, 0, none⟩ = some (.int .i64 a0) := k1.cell 0
  have y01_1 : w1.cell? ⟨w.heap.size, 1, none⟩ = some (.slice A1a a1.length c1a) := k0.cell 1
  have y11_1 : w1.cell? ⟨w.heap.size + 1, 1, none⟩ = some (.slice A1b a1.length c1b) := k1.cell 1
  have K0 := Aside.mk k0
  have K1 := Aside.mk k1
  clear k0 k1 hb1
  go_wp2_with fail
  go_ret
  exact ⟨rfl, by go_grown⟩
theorem opensTable {H : Type} {enc : TypeId × Value → H} (n : Nat) : OpensAt enc Try.prog n 36 RTable :=
  opens_struct Try.underlying36 (by kernel_rfl) (fun m _ => (opensF_cons rfl (by kernel_rfl) (opens_int Try.underlying3) (opensF_one rfl (by kernel_rfl) (opens_sl Try.underlying34 (by kernel_rfl) (by decide) (fun m _ => (opensTerm _))))))
end Go.Proofs.Ytdldgchkinflmaa.Lib
