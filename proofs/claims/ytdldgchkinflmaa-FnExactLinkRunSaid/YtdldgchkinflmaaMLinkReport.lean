/- Marks in rows of LinkReport. Conditions: those of each theorem. -/
import Derived.Test.YtdldgchkinflmaaMString
import Derived.Test.YtdldgchkinflmaaMPacket
import Derived.Test.YtdldgchkinflmaaGLinkReport
set_option linter.unusedVariables false
namespace Go.Proofs.Ytdldgchkinflmaa.Lib
open Go.RowKit Go.Proofs.Ytdldgchkinflmaa.Plan
inductive HeldLinkReportS : List ALinkReport → Int → Int → Prop
  | nil (k : Int) : HeldLinkReportS [] k k
  | cons {x : ALinkReport} {xs : List ALinkReport} {k k1 k2 k' : Int} (h0 : x.1 = k) (h1 : x.2.1 = k + 1) (h2 : x.2.2.1 = k + 1 + 1) (h3 : HeldStringS x.2.2.2.1 (k + 1 + 1 + 1) k1) (h4 : HeldPacketS x.2.2.2.2 (k1) k2) (hr : HeldLinkReportS xs (k2) k') : HeldLinkReportS (x :: xs) k k'
theorem HeldLinkReportS.app {l : List ALinkReport} {m : List ALinkReport} {k k1 k2 : Int} (h : HeldLinkReportS l k k1) (g : HeldLinkReportS m k1 k2) : HeldLinkReportS (l ++ m) k k2 := by
  induction h with
  | nil k => exact g
  | cons h0 h1 h2 h3 h4 hr ih => exact .cons h0 h1 h2 h3 h4 (ih g)
theorem HeldLinkReportS.le {l : List ALinkReport} {k k' : Int} (h : HeldLinkReportS l k k') : k ≤ k' := by
  induction h with
  | nil k => exact Int.le_refl _
  | cons h0 h1 h2 h3 h4 hr ih =>
    have g3 := h3.le
    have g4 := h4.le
    omega
theorem HeldLinkReportS.inv {x : ALinkReport} {xs : List ALinkReport} {k k' : Int} (h : HeldLinkReportS (x :: xs) k k') : ∃ k3 k4 : Int, x.1 = k ∧ x.2.1 = k + 1 ∧ x.2.2.1 = k + 1 + 1 ∧ HeldStringS x.2.2.2.1 (k + 1 + 1 + 1) k3 ∧ HeldPacketS x.2.2.2.2 (k3) k4 ∧ HeldLinkReportS xs (k4) k' := by
  cases h with
  | cons h0 h1 h2 h3 h4 hr => exact ⟨_, _, h0, h1, h2, h3, h4, hr⟩
theorem HeldLinkReportS.len {l : List ALinkReport} {k k' : Int} (h : HeldLinkReportS l k k') : k + l.length ≤ k' := by
  induction h with
  | nil k => simp
  | cons h0 h1 h2 h3 h4 hr ih =>
    have g3 := h3.le
    have g4 := h4.le
    rw [List.length_cons]; omega
def HeldLinkReportV (x : ALinkReport) (k k' : Int) : Prop := ∃ k3 : Int, HeldStringS x.2.2.2.1 k k3 ∧ HeldPacketS x.2.2.2.2 k3 k'
theorem HeldLinkReportV.le {x : ALinkReport} {k k' : Int} (h : HeldLinkReportV x k k') : k ≤ k' := by
  obtain ⟨k3, h3, h4⟩ := h
  have g3 := h3.le
  have g4 := h4.le
  omega
set_option maxRecDepth 100000 in
set_option maxHeartbeats 2000000 in
theorem markLinkReportV (x : ALinkReport) (cs : List Value) (w : World) (S : Nat → Prop) (k0 : Int) (hr1 : RLinkReport.rd True w S x cs) (hS : ∀ b, S b → b < w.heap.size) (h1 : 1 ≤ k0) (h2 : k0 + 8 * RLinkReport.wt x ≤ 4611686018427387904) :
    Calls Try.prog 51 #[.agg cs.toArray, .int .i64 k0] w fun e w' => ∃ k y, e = .returned (.int .i64 k) ∧ HeldLinkReportV y k0 k ∧ RLinkReport.rd True w' S y cs ∧ But S w w' ∧ k0 ≤ k ∧ k ≤ k0 + 8 * RLinkReport.wt x := by
  have hwx : RLinkReport.wt x = Rec.int.wt x.1 + (Rec.int.wt x.2.1 + (Rec.int.wt x.2.2.1 + (Rec.str.sl.wt x.2.2.2.1 + (RPacket.sl.wt x.2.2.2.2)))) := rfl
  obtain ⟨_, _, Sa0, Sb0, rfl, p0, q0, i0, j0, d0⟩ := hr1
  obtain ⟨_, _, Sa1, Sb1, rfl, p1, q1, i1, j1, d1⟩ := q0
  obtain ⟨_, _, Sa2, Sb2, rfl, p2, q2, i2, j2, d2⟩ := q1
  obtain ⟨_, _, Sa3, Sb3, rfl, p3, q3, i3, j3, d3⟩ := q2
  obtain rfl := p0
  obtain rfl := p1
  obtain rfl := p2
  obtain ⟨A3, c3, e3, hcap3, hs3⟩ := p3
  subst e3
  have hk3 : Rec.str.sl.rd True w Sa3 x.2.2.2.1 [.slice A3 x.2.2.2.1.length c3] := ⟨A3, c3, rfl, hcap3, hs3⟩
  have HU3 : Aside (∀ c, Sa3 c → S c) := ⟨fun c hc => (j0 _ (j1 _ (j2 _ (i3 _ hc))))⟩
  obtain ⟨A4, c4, e4, hcap4, hs4⟩ := q3
  subst e4
  have hk4 : RPacket.sl.rd True w Sb3 x.2.2.2.2 [.slice A4 x.2.2.2.2.length c4] := ⟨A4, c4, rfl, hcap4, hs4⟩
  have HU4 : Aside (∀ c, Sb3 c → S c) := ⟨fun c hc => (j0 _ (j1 _ (j2 _ (j3 _ hc))))⟩
  obtain ⟨m3, hm3⟩ : ∃ m, Rec.str.sl.wt x.2.2.2.1 = m := ⟨_, rfl⟩
  have HM3 := Aside.mk hm3
  obtain ⟨m4, hm4⟩ : ∃ m, RPacket.sl.wt x.2.2.2.2 = m := ⟨_, rfl⟩
  have HM4 := Aside.mk hm4
  obtain ⟨mx, hmx⟩ : ∃ m, RLinkReport.wt x = m := ⟨_, rfl⟩
  rw [hmx] at h2 hwx
  have HMX := Aside.mk hmx
  have hmle : m3 + m4 ≤ mx := by
    have e3 : Rec.str.sl.wt x.2.2.2.1 = m3 := hm3
    have e4 : RPacket.sl.wt x.2.2.2.2 = m4 := hm4
    omega
  rw [HMX.out]
  have HS := Aside.mk hS
  have HD3_4 : Aside (∀ c, Sa3 c → Sb3 c → False) := ⟨fun c h1 h2 => d3 trivial c h1 h2⟩
  have HK3 := Aside.mk hk3
  have HK4 := Aside.mk hk4
  show Calls Try.prog 51 #[.agg #[.int .i64 x.1, .int .i64 x.2.1, .int .i64 x.2.2.1, .slice A3 x.2.2.2.1.length c3, .slice A4 x.2.2.2.2.length c4], .int .i64 k0] w _
  clear hwx hS hmx hm3 hk3 hm4 hk4
  have Z0 := Aside.mk (And.intro i0 (And.intro j0 d0))
  clear i0 j0 d0
  have Z1 := Aside.mk (And.intro i1 (And.intro j1 d1))
  clear i1 j1 d1
  have Z2 := Aside.mk (And.intro i2 (And.intro j2 d2))
  clear i2 j2 d2
  have Z3 := Aside.mk (And.intro i3 (And.intro j3 d3))
  clear i3 j3 d3
  clear hs3 hcap3
  clear hs4 hcap4
  go_enter Try.func51, Try.ntmps51
  go_wp2_with fail
  refine (markStringS x.2.2.2.1 (.slice A3 x.2.2.2.1.length c3) _ Sa3 (k0) (Rec.str.sl.but HK3.out (But.below (S := NoB) ((Below.refl _ _).alloc (Nat.le_refl _) _)) (fun c hc => ⟨HS.out c (HU3.out c hc), fun hh => hh.elim⟩)) (fun c hc => by have h1 := HS.out c (HU3.out c hc); simp; omega) (by omega) (by rw [HM3.out]; omega)).mono ?_
  rintro e w1 ⟨k3, z3, rfl, hh3, hl3, hr3, hb1, hle3a, hle3b⟩
  rw [HM3.out] at hle3b
  have BT : Aside (But S w w1) := ⟨((But.below (S := S) ((Below.refl w.heap.size w).alloc (Nat.le_refl _) _)).trans (But.mono hb1 (fun c hc => HU3.out c hc)))⟩
  have KBn := Aside.mk (Blk.but (Blk.new w 79 [.int .i64 x.1, .int .i64 x.2.1, .int .i64 x.2.2.1, .slice A3 x.2.2.2.1.length c3, .slice A4 x.2.2.2.2.length c4]) hb1 (fun hh => by have := HS.out _ (HU3.out _ hh); omega))
  have KB := KBn
  clear KBn
  have HKn4 := Aside.mk (RPacket.sl.but (RPacket.sl.but HK4.out (But.below (S := NoB) ((Below.refl _ _).alloc (Nat.le_refl _) _)) (fun c hc => ⟨HS.out c (HU4.out c hc), fun hh => hh.elim⟩)) hb1 (fun c hc => ⟨by have h1 := HS.out c (HU4.out c hc); have h2 := hb1.size; simp; omega, fun h => HD3_4.out c h hc⟩))
  have HH3 := Aside.mk hh3
  have HL3 := Aside.mk hl3
  clear HK3
  have HK3 := Aside.mk hr3
  clear HK4
  have HK4 := HKn4
  clear HKn4
  have BTsz : Aside (w.heap.size ≤ w1.heap.size) := ⟨BT.out.size⟩
  clear hh3 hl3 hr3 hb1
  have y1_0 : w1.cell? ⟨w.heap.size, 0, none⟩ = some (.int .i64 x.1) := KB.out.cell 0
  have y1_1 : w1.cell? ⟨w.heap.size, 1, none⟩ = some (.int .i64 x.2.1) := KB.out.cell 1
  have y1_2 : w1.cell? ⟨w.heap.size, 2, none⟩ = some (.int .i64 x.2.2.1) := KB.out.cell 2
  have y1_3 : w1.cell? ⟨w.heap.size, 3, none⟩ = some (.slice A3 x.2.2.2.1.length c3) := KB.out.cell 3
  have y1_4 : w1.cell? ⟨w.heap.size, 4, none⟩ = some (.slice A4 x.2.2.2.2.length c4) := KB.out.cell 4
  go_wp2_with fail
  refine (markPacketS x.2.2.2.2 (.slice A4 x.2.2.2.2.length c4) _ Sb3 (k3) HK4.out (fun c hc => by have h1 := HS.out c (HU4.out c hc); have h2 := BT.out.size; omega) (by omega) (by rw [HM4.out]; omega)).mono ?_
  rintro e w2 ⟨k4, z4, rfl, hh4, hl4, hr4, hb1, hle4a, hle4b⟩
  rw [HM4.out] at hle4b
  have BTn : Aside (But S w w2) := ⟨BT.out.trans (But.mono hb1 (fun c hc => HU4.out c hc))⟩
  clear BT
  have BT := BTn
  clear BTn
  have KBn := Aside.mk (Blk.but KB.out hb1 (fun hh => by have := HS.out _ (HU4.out _ hh); omega))
  clear KB
  have KB := KBn
  clear KBn
  have HKn3 := Aside.mk (Rec.str.sl.but HK3.out hb1 (fun c hc => ⟨by have h1 := HS.out c (HU3.out c hc); have h2 := hb1.size; exact Nat.lt_of_lt_of_le h1 (by have := BTsz.out; omega), fun h => HD3_4.out c hc h⟩))
  have HH4 := Aside.mk hh4
  have HL4 := Aside.mk hl4
  clear HK4
  have HK4 := Aside.mk hr4
  clear HK3
  have HK3 := HKn3
  clear HKn3
  have BTsz : Aside (w.heap.size ≤ w2.heap.size) := ⟨BT.out.size⟩
  clear hh4 hl4 hr4 hb1
  have y2_0 : w2.cell? ⟨w.heap.size, 0, none⟩ = some (.int .i64 x.1) := KB.out.cell 0
  have y2_1 : w2.cell? ⟨w.heap.size, 1, none⟩ = some (.int .i64 x.2.1) := KB.out.cell 1
  have y2_2 : w2.cell? ⟨w.heap.size, 2, none⟩ = some (.int .i64 x.2.2.1) := KB.out.cell 2
  have y2_3 : w2.cell? ⟨w.heap.size, 3, none⟩ = some (.slice A3 x.2.2.2.1.length c3) := KB.out.cell 3
  have y2_4 : w2.cell? ⟨w.heap.size, 4, none⟩ = some (.slice A4 x.2.2.2.2.length c4) := KB.out.cell 4
  clear y1_0 y1_1 y1_2 y1_3 y1_4
  go_wp2_with fail
  go_ret
  refine ⟨_, (x.1, x.2.1, x.2.2.1, z3, z4), rfl, ?_, ?_, BT.out, by omega, by omega⟩
  · exact ⟨_, HH3.out, HH4.out⟩
  · have r3 := HK3.out
    rw [show x.2.2.2.1.length = z3.length from HL3.out.symm] at r3
    have r4 := HK4.out
    rw [show x.2.2.2.2.length = z4.length from HL4.out.symm] at r4
    rw [show x.2.2.2.1.length = z3.length from HL3.out.symm]
    rw [show x.2.2.2.2.length = z4.length from HL4.out.symm]
    exact (Rec.mkpair (Sa := Sa0) (Sb := Sb0) (show Rec.int.rd True _ _ x.1 [.int .i64 x.1] from rfl) (Rec.mkpair (Sa := Sa1) (Sb := Sb1) (show Rec.int.rd True _ _ x.2.1 [.int .i64 x.2.1] from rfl) (Rec.mkpair (Sa := Sa2) (Sb := Sb2) (show Rec.int.rd True _ _ x.2.2.1 [.int .i64 x.2.2.1] from rfl) (Rec.mkpair (Sa := Sa3) (Sb := Sb3) r3 r4 Z3.out) Z2.out) Z1.out) Z0.out)
set_option maxRecDepth 100000 in
set_option maxHeartbeats 2000000 in
theorem heldLinkReportV (x : ALinkReport) (cs : List Value) (w : World) (k k' : Int) (hr1 : RLinkReport.rd False w (Old w) x cs) (hh : HeldLinkReportV x k k') (h1 : 1 ≤ k) (h2 : k' ≤ 4611686018427387904) :
    Calls Try.prog 52 #[.agg cs.toArray, .int .i64 k] w fun e w' => e = .returned (.int .i64 k') ∧ Below w.heap.size w w' := by
  obtain ⟨k3, h_3, h_4⟩ := hh
  have g3 := h_3.le
  have HH3 := Aside.mk h_3
  have g4 := h_4.le
  have HH4 := Aside.mk h_4
  obtain ⟨_, _, _, _, rfl, p0, q0, i0, j0, -⟩ := hr1
  obtain ⟨_, _, _, _, rfl, p1, q1, i1, j1, -⟩ := q0
  obtain ⟨_, _, _, _, rfl, p2, q2, i2, j2, -⟩ := q1
  obtain ⟨_, _, _, _, rfl, p3, q3, i3, j3, -⟩ := q2
  obtain rfl := p0
  obtain rfl := p1
  obtain rfl := p2
  have hk3 := Rec.str.sl.mono p3 (S' := Old w) (fun b h => j0 b (j1 b (j2 b (i3 b h))))
  obtain ⟨A3, c3, rfl, -⟩ := id hk3
  have hk4 := RPacket.sl.mono q3 (S' := Old w) (fun b h => j0 b (j1 b (j2 b (j3 b h))))
  obtain ⟨A4, c4, rfl, -⟩ := id hk4
  have HK3 := Aside.mk hk3
  have HK4 := Aside.mk hk4
  show Calls Try.prog 52 #[.agg #[.int .i64 x.1, .int .i64 x.2.1, .int .i64 x.2.2.1, .slice A3 x.2.2.2.1.length c3, .slice A4 x.2.2.2.2.length c4], .int .i64 k] w _
  (try clear hh); clear h_3 hk3 h_4 hk4
  clear i0 j0
  clear i1 j1
  clear i2 j2
  clear i3 j3
  go_enter Try.func52, Try.ntmps52
  go_wp2_with fail
  refine (heldStringS x.2.2.2.1 (.slice A3 x.2.2.2.1.length c3) _ (k) _ (Rec.str.sl.old HK3.out (by go_grown)) HH3.out (by omega) (by omega)).mono ?_
  rintro e w1 ⟨rfl, hb1⟩
  have KB := Aside.mk ((Blk.new w 79 [.int .i64 x.1, .int .i64 x.2.1, .int .i64 x.2.2.1, .slice A3 x.2.2.2.1.length c3, .slice A4 x.2.2.2.2.length c4]).below hb1)
  have BL : Aside (Below w.heap.size w w1) := ⟨below_later (by go_grown) hb1⟩
  clear hb1
  have y1_0 : w1.cell? ⟨w.heap.size, 0, none⟩ = some (.int .i64 x.1) := KB.out.cell 0
  have y1_1 : w1.cell? ⟨w.heap.size, 1, none⟩ = some (.int .i64 x.2.1) := KB.out.cell 1
  have y1_2 : w1.cell? ⟨w.heap.size, 2, none⟩ = some (.int .i64 x.2.2.1) := KB.out.cell 2
  have y1_3 : w1.cell? ⟨w.heap.size, 3, none⟩ = some (.slice A3 x.2.2.2.1.length c3) := KB.out.cell 3
  have y1_4 : w1.cell? ⟨w.heap.size, 4, none⟩ = some (.slice A4 x.2.2.2.2.length c4) := KB.out.cell 4
  go_wp2_with fail
  refine (heldPacketS x.2.2.2.2 (.slice A4 x.2.2.2.2.length c4) _ (k3) _ (RPacket.sl.old HK4.out BL.out) HH4.out (by omega) (by omega)).mono ?_
  rintro e w2 ⟨rfl, hb1⟩
  have KBn := Aside.mk (KB.out.below hb1)
  have BLn := Aside.mk (below_later BL.out hb1)
  clear KB BL y1_0 y1_1 y1_2 y1_3 y1_4
  have KB := KBn
  have BL := BLn
  clear KBn BLn
  clear hb1
  have y2_0 : w2.cell? ⟨w.heap.size, 0, none⟩ = some (.int .i64 x.1) := KB.out.cell 0
  have y2_1 : w2.cell? ⟨w.heap.size, 1, none⟩ = some (.int .i64 x.2.1) := KB.out.cell 1
  have y2_2 : w2.cell? ⟨w.heap.size, 2, none⟩ = some (.int .i64 x.2.2.1) := KB.out.cell 2
  have y2_3 : w2.cell? ⟨w.heap.size, 3, none⟩ = some (.slice A3 x.2.2.2.1.length c3) := KB.out.cell 3
  have y2_4 : w2.cell? ⟨w.heap.size, 4, none⟩ = some (.slice A4 x.2.2.2.2.length c4) := KB.out.cell 4
  go_wp2_with fail
  go_ret
  exact ⟨rfl, BL.out⟩
end Go.Proofs.Ytdldgchkinflmaa.Lib
