/- LinkReport: how it lies in memory; copied, measured, compared. Conditions: those of each theorem. -/
import Derived.Test.YtdldgchkinflmaaGPacket
set_option linter.unusedVariables false
namespace Go.Proofs.Ytdldgchkinflmaa.Lib
open Go.RowKit Go.Proofs.Ytdldgchkinflmaa.Plan
abbrev ALinkReport := Int × Int × Int × (List ByteArray) × (List APacket)
def RLinkReport : Rec ALinkReport := Rec.int.pair (Rec.int.pair (Rec.int.pair (Rec.str.sl.pair (RPacket.sl))))
theorem shapeLinkReport {tr : Prop} {w : World} {S : Nat → Prop} {a : ALinkReport} {cs : List Value} (h : RLinkReport.rd tr w S a cs) : ∃ (x0 : Int) (x1 : Int) (x2 : Int) (x3a : Option Addr) (x3b : Nat) (x3c : Nat) (x4a : Option Addr) (x4b : Nat) (x4c : Nat), cs = [.int .i64 x0, .int .i64 x1, .int .i64 x2, .slice x3a x3b x3c, .slice x4a x4b x4c] := by
  obtain ⟨_, _, _, _, rfl, p1, q1, _⟩ := h
  obtain rfl := p1
  obtain ⟨_, _, _, _, rfl, p2, q2, _⟩ := q1
  obtain rfl := p2
  obtain ⟨_, _, _, _, rfl, p3, q3, _⟩ := q2
  obtain rfl := p3
  obtain ⟨_, _, _, _, rfl, p4, q4, _⟩ := q3
  obtain ⟨_, _, rfl, _⟩ := p4
  obtain ⟨_, _, rfl, _⟩ := q4
  exact ⟨_, _, _, _, _, _, _, _, _, rfl⟩
set_option maxRecDepth 100000 in
set_option maxHeartbeats 1000000 in
theorem eqLinkReport (a : ALinkReport) (ca cb : List Value) (w : World) (ha : RLinkReport.rd False w (Old w) a ca) (hb : RLinkReport.rd False w (Old w) a cb) (ho : RLinkReport.ok a) :
    Calls Try.prog 48 #[.agg ca.toArray, .agg cb.toArray] w fun e w2 => e = .returned (.bool true) ∧ Below w.heap.size w w2 := by
  obtain ⟨a0, a1, a2, a3, a4⟩ := a
  have ho2 : Rec.int.ok a0 ∧ (Rec.int.ok a1 ∧ (Rec.int.ok a2 ∧ (Rec.str.sl.ok a3 ∧ (RPacket.sl.ok a4)))) := ho
  obtain ⟨o0, o1, o2, o3, o4⟩ := ho2
  have O3 := Aside.mk o3
  have O4 := Aside.mk o4
  clear ho o0 o1 o2 o3 o4
  obtain ⟨_, _, _, _, rfl, p0a, q0a, i0a, j0a, -⟩ := ha
  obtain ⟨_, _, _, _, rfl, p1a, q1a, i1a, j1a, -⟩ := q0a
  obtain ⟨_, _, _, _, rfl, p2a, q2a, i2a, j2a, -⟩ := q1a
  obtain ⟨_, _, _, _, rfl, p3a, q3a, i3a, j3a, -⟩ := q2a
  have h3a := Rec.str.sl.mono p3a (fun b h => j0a b (j1a b (j2a b (i3a b h))))
  have h4a := RPacket.sl.mono q3a (fun b h => j0a b (j1a b (j2a b (j3a b h))))
  obtain rfl := p0a
  obtain rfl := p1a
  obtain rfl := p2a
  obtain ⟨A3a, c3a, rfl, -⟩ := id h3a
  have H3a := Aside.mk h3a
  obtain ⟨A4a, c4a, rfl, -⟩ := id h4a
  have H4a := Aside.mk h4a
  obtain ⟨_, _, _, _, rfl, p0b, q0b, i0b, j0b, -⟩ := hb
  obtain ⟨_, _, _, _, rfl, p1b, q1b, i1b, j1b, -⟩ := q0b
  obtain ⟨_, _, _, _, rfl, p2b, q2b, i2b, j2b, -⟩ := q1b
  obtain ⟨_, _, _, _, rfl, p3b, q3b, i3b, j3b, -⟩ := q2b
  have h3b := Rec.str.sl.mono p3b (fun b h => j0b b (j1b b (j2b b (i3b b h))))
  have h4b := RPacket.sl.mono q3b (fun b h => j0b b (j1b b (j2b b (j3b b h))))
  obtain rfl := p0b
  obtain rfl := p1b
  obtain rfl := p2b
  obtain ⟨A3b, c3b, rfl, -⟩ := id h3b
  have H3b := Aside.mk h3b
  obtain ⟨A4b, c4b, rfl, -⟩ := id h4b
  have H4b := Aside.mk h4b
  show Calls Try.prog 48 #[.agg #[.int .i64 a0, .int .i64 a1, .int .i64 a2, .slice A3a a3.length c3a, .slice A4a a4.length c4a], .agg #[.int .i64 a0, .int .i64 a1, .int .i64 a2, .slice A3b a3.length c3b, .slice A4b a4.length c4b]] w _
  clear i0a j0a i1a j1a i2a j2a i3a j3a h3a p3a h4a q3a i0b j0b i1b j1b i2b j2b i3b j3b h3b p3b h4b q3b
  go_enter Try.func48, Try.ntmps48
  go_wp2_with fail
  refine (eqStringS a3 _ _ _ (Rec.str.sl.old H3a.out (by go_grown)) (Rec.str.sl.old H3b.out (by go_grown)) O3.out).mono ?_
  rintro e w1 ⟨rfl, hb1⟩
  have k0 := ((Blk.new w 79 [.int .i64 a0, .int .i64 a1, .int .i64 a2, .slice A3a a3.length c3a, .slice A4a a4.length c4a]).alloc _).below hb1
  have k1 := (Blk.made (w.alloc _) 79 [.int .i64 a0, .int .i64 a1, .int .i64 a2, .slice A3b a3.length c3b, .slice A4b a4.length c4b] (g := w.heap.size + 1) (by simp)).below hb1
  have bel : Below w.heap.size w w1 := below_later (by go_grown) hb1
  have y01_0 : w1.cell? ⟨w.heap.size, 0, none⟩ = some (.int .i64 a0) := k0.cell 0
  have y11_0 : w1.cell? ⟨w.heap.size + 1, 0, none⟩ = some (.int .i64 a0) := k1.cell 0
  have y01_1 : w1.cell? ⟨w.heap.size, 1, none⟩ = some (.int .i64 a1) := k0.cell 1
  have y11_1 : w1.cell? ⟨w.heap.size + 1, 1, none⟩ = some (.int .i64 a1) := k1.cell 1
  have y01_2 : w1.cell? ⟨w.heap.size, 2, none⟩ = some (.int .i64 a2) := k0.cell 2
  have y11_2 : w1.cell? ⟨w.heap.size + 1, 2, none⟩ = some (.int .i64 a2) := k1.cell 2
  have y01_3 : w1.cell? ⟨w.heap.size, 3, none⟩ = some (.slice A3a a3.length c3a) := k0.cell 3
  have y11_3 : w1.cell? ⟨w.heap.size + 1, 3, none⟩ = some (.slice A3b a3.length c3b) := k1.cell 3
  have y01_4 : w1.cell? ⟨w.heap.size, 4, none⟩ = some (.slice A4a a4.length c4a) := k0.cell 4
  have y11_4 : w1.cell? ⟨w.heap.size + 1, 4, none⟩ = some (.slice A4b a4.length c4b) := k1.cell 4
  have K0 := Aside.mk k0
  have K1 := Aside.mk k1
  clear k0 k1 hb1
  go_wp2_with fail
  refine (eqPacketS a4 (fun x _ ca cb w1 ha hb ho => eqPacket x ca cb w1 ha hb ho) _ _ _ (RPacket.sl.old H4a.out (by go_grown)) (RPacket.sl.old H4b.out (by go_grown)) O4.out).mono ?_
  rintro e w2 ⟨rfl, hb2⟩
  have k0 := (K0.out).below hb2
  have k1 := (K1.out).below hb2
  have bel : Below w.heap.size w w2 := below_later (by go_grown) hb2
  have y02_0 : w2.cell? ⟨w.heap.size, 0, none⟩ = some (.int .i64 a0) := k0.cell 0
  have y12_0 : w2.cell? ⟨w.heap.size + 1, 0, none⟩ = some (.int .i64 a0) := k1.cell 0
  have y02_1 : w2.cell? ⟨w.heap.size, 1, none⟩ = some (.int .i64 a1) := k0.cell 1
  have y12_1 : w2.cell? ⟨w.heap.size + 1, 1, none⟩ = some (.int .i64 a1) := k1.cell 1
  have y02_2 : w2.cell? ⟨w.heap.size, 2, none⟩ = some (.int .i64 a2) := k0.cell 2
  have y12_2 : w2.cell? ⟨w.heap.size + 1, 2, none⟩ = some (.int .i64 a2) := k1.cell 2
  have y02_3 : w2.cell? ⟨w.heap.size, 3, none⟩ = some (.slice A3a a3.length c3a) := k0.cell 3
  have y12_3 : w2.cell? ⟨w.heap.size + 1, 3, none⟩ = some (.slice A3b a3.length c3b) := k1.cell 3
  have y02_4 : w2.cell? ⟨w.heap.size, 4, none⟩ = some (.slice A4a a4.length c4a) := k0.cell 4
  have y12_4 : w2.cell? ⟨w.heap.size + 1, 4, none⟩ = some (.slice A4b a4.length c4b) := k1.cell 4
  clear K0 K1
  have K0 := Aside.mk k0
  have K1 := Aside.mk k1
  clear k0 k1 hb2
  go_wp2_with fail
  go_ret
  exact ⟨rfl, by go_grown⟩
end Go.Proofs.Ytdldgchkinflmaa.Lib
