/- Marks in rows of Table. Conditions: those of each theorem. -/
import Derived.Test.YtdldgchkinflmaaMTerm
import Derived.Test.YtdldgchkinflmaaGTable
set_option linter.unusedVariables false
namespace Go.Proofs.Ytdldgchkinflmaa.Lib
open Go.RowKit Go.Proofs.Ytdldgchkinflmaa.Plan
inductive HeldTableS : List ATable → Int → Int → Prop
  | nil (k : Int) : HeldTableS [] k k
  | cons {x : ATable} {xs : List ATable} {k k1 k' : Int} (h0 : x.1 = k) (h1 : HeldTermS x.2 (k + 1) k1) (hr : HeldTableS xs (k1) k') : HeldTableS (x :: xs) k k'
theorem HeldTableS.app {l : List ATable} {m : List ATable} {k k1 k2 : Int} (h : HeldTableS l k k1) (g : HeldTableS m k1 k2) : HeldTableS (l ++ m) k k2 := by
  induction h with
  | nil k => exact g
  | cons h0 h1 hr ih => exact .cons h0 h1 (ih g)
theorem HeldTableS.le {l : List ATable} {k k' : Int} (h : HeldTableS l k k') : k ≤ k' := by
  induction h with
  | nil k => exact Int.le_refl _
  | cons h0 h1 hr ih =>
    have g1 := h1.le
    omega
theorem HeldTableS.inv {x : ATable} {xs : List ATable} {k k' : Int} (h : HeldTableS (x :: xs) k k') : ∃ k1 : Int, x.1 = k ∧ HeldTermS x.2 (k + 1) k1 ∧ HeldTableS xs (k1) k' := by
  cases h with
  | cons h0 h1 hr => exact ⟨_, h0, h1, hr⟩
theorem HeldTableS.len {l : List ATable} {k k' : Int} (h : HeldTableS l k k') : k + l.length ≤ k' := by
  induction h with
  | nil k => simp
  | cons h0 h1 hr ih =>
    have g1 := h1.le
    rw [List.length_cons]; omega
def HeldTableV (x : ATable) (k k' : Int) : Prop := HeldTermS x.2 k k'
theorem HeldTableV.le {x : ATable} {k k' : Int} (h : HeldTableV x k k') : k ≤ k' := by
  have h1 := h
  unfold HeldTableV at h1
  have g1 := h1.le
  omega
set_option maxRecDepth 100000 in
set_option maxHeartbeats 2000000 in
theorem markTableV (x : ATable) (cs : List Value) (w : World) (S : Nat → Prop) (k0 : Int) (hr1 : RTable.rd True w S x cs) (hS : ∀ b, S b → b < w.heap.size) (h1 : 1 ≤ k0) (h2 : k0 + 8 * RTable.wt x ≤ 4611686018427387904) :
    Calls Try.prog 28 #[.agg cs.toArray, .int .i64 k0] w fun e w' => ∃ k y, e = .returned (.int .i64 k) ∧ HeldTableV y k0 k ∧ RTable.rd True w' S y cs ∧ But S w w' ∧ k0 ≤ k ∧ k ≤ k0 + 8 * RTable.wt x := by
  have hwx : RTable.wt x = Rec.int.wt x.1 + (Rec.term.sl.wt x.2) := rfl
  obtain ⟨_, _, Sa0, Sb0, rfl, p0, q0, i0, j0, d0⟩ := hr1
  obtain rfl := p0
  obtain ⟨A1, c1, e1, hcap1, hs1⟩ := q0
  subst e1
  have hk1 : Rec.term.sl.rd True w Sb0 x.2 [.slice A1 x.2.length c1] := ⟨A1, c1, rfl, hcap1, hs1⟩
  have HU1 : Aside (∀ c, Sb0 c → S c) := ⟨fun c hc => (j0 _ hc)⟩
  obtain ⟨m1, hm1⟩ : ∃ m, Rec.term.sl.wt x.2 = m := ⟨_, rfl⟩
  have HM1 := Aside.mk hm1
  obtain ⟨mx, hmx⟩ : ∃ m, RTable.wt x = m := ⟨_, rfl⟩
  rw [hmx] at h2 hwx
  have HMX := Aside.mk hmx
  have hmle : m1 ≤ mx := by
    have e1 : Rec.term.sl.wt x.2 = m1 := hm1
    omega
  rw [HMX.out]
  have HS := Aside.mk hS
  have HK1 := Aside.mk hk1
  show Calls Try.prog 28 #[.agg #[.int .i64 x.1, .slice A1 x.2.length c1], .int .i64 k0] w _
  clear hwx hS hmx hm1 hk1
  have Z0 := Aside.mk (And.intro i0 (And.intro j0 d0))
  clear i0 j0 d0
  clear hs1 hcap1
  go_enter Try.func28, Try.ntmps28
  go_wp2_with fail
  refine (markTermAll x.2 (.slice A1 x.2.length c1) _ Sb0 (k0) (Rec.term.sl.but HK1.out (But.below (S := NoB) ((Below.refl _ _).alloc (Nat.le_refl _) _)) (fun c hc => ⟨HS.out c (HU1.out c hc), fun hh => hh.elim⟩)) (fun c hc => by have h1 := HS.out c (HU1.out c hc); simp; omega) (by omega) (by rw [HM1.out]; omega)).mono ?_
  rintro e w1 ⟨k1, z1, rfl, hh1, hl1, hr1, hb1, hle1a, hle1b⟩
  rw [HM1.out] at hle1b
  have BT : Aside (But S w w1) := ⟨((But.below (S := S) ((Below.refl w.heap.size w).alloc (Nat.le_refl _) _)).trans (But.mono hb1 (fun c hc => HU1.out c hc)))⟩
  have KBn := Aside.mk (Blk.but (Blk.new w 42 [.int .i64 x.1, .slice A1 x.2.length c1]) hb1 (fun hh => by have := HS.out _ (HU1.out _ hh); omega))
  have KB := KBn
  clear KBn
  have HH1 := Aside.mk hh1
  have HL1 := Aside.mk hl1
  clear HK1
  have HK1 := Aside.mk hr1
  have BTsz : Aside (w.heap.size ≤ w1.heap.size) := ⟨BT.out.size⟩
  clear hh1 hl1 hr1 hb1
  have y1_0 : w1.cell? ⟨w.heap.size, 0, none⟩ = some (.int .i64 x.1) := KB.out.cell 0
  have y1_1 : w1.cell? ⟨w.heap.size, 1, none⟩ = some (.slice A1 x.2.length c1) := KB.out.cell 1
  go_wp2_with fail
  go_ret
  refine ⟨_, (x.1, z1), rfl, ?_, ?_, BT.out, by omega, by omega⟩
  · exact HH1.out
  · have r1 := HK1.out
    rw [show x.2.length = z1.length from HL1.out.symm] at r1
    rw [show x.2.length = z1.length from HL1.out.symm]
    exact (Rec.mkpair (Sa := Sa0) (Sb := Sb0) (show Rec.int.rd True _ _ x.1 [.int .i64 x.1] from rfl) r1 Z0.out)
set_option maxRecDepth 100000 in
set_option maxHeartbeats 2000000 in
theorem heldTableV (x : ATable) (cs : List Value) (w : World) (k k' : Int) (hr1 : RTable.rd False w (Old w) x cs) (hh : HeldTableV x k k') (h1 : 1 ≤ k) (h2 : k' ≤ 4611686018427387904) :
    Calls Try.prog 30 #[.agg cs.toArray, .int .i64 k] w fun e w' => e = .returned (.int .i64 k') ∧ Below w.heap.size w w' := by
  have h_1 : HeldTermS x.2 k k' := hh
  have g1 := h_1.le
  have HH1 := Aside.mk h_1
  obtain ⟨_, _, _, _, rfl, p0, q0, i0, j0, -⟩ := hr1
  obtain rfl := p0
  have hk1 := Rec.term.sl.mono q0 (S' := Old w) (fun b h => j0 b h)
  obtain ⟨A1, c1, rfl, -⟩ := id hk1
  have HK1 := Aside.mk hk1
  show Calls Try.prog 30 #[.agg #[.int .i64 x.1, .slice A1 x.2.length c1], .int .i64 k] w _
  clear hh h_1 hk1
  clear i0 j0
  go_enter Try.func30, Try.ntmps30
  go_wp2_with fail
  refine (heldTermAll x.2 (.slice A1 x.2.length c1) _ (k) _ (Rec.term.sl.old HK1.out (by go_grown)) HH1.out (by omega) (by omega)).mono ?_
  rintro e w1 ⟨rfl, hb1⟩
  have KB := Aside.mk ((Blk.new w 42 [.int .i64 x.1, .slice A1 x.2.length c1]).below hb1)
  have BL : Aside (Below w.heap.size w w1) := ⟨below_later (by go_grown) hb1⟩
  clear hb1
  have y1_0 : w1.cell? ⟨w.heap.size, 0, none⟩ = some (.int .i64 x.1) := KB.out.cell 0
  have y1_1 : w1.cell? ⟨w.heap.size, 1, none⟩ = some (.slice A1 x.2.length c1) := KB.out.cell 1
  go_wp2_with fail
  go_ret
  exact ⟨rfl, BL.out⟩
end Go.Proofs.Ytdldgchkinflmaa.Lib
