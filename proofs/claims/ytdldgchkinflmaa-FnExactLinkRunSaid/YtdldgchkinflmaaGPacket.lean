/- Packet: how it lies in memory; copied, measured, compared. Conditions: those of each theorem. -/
import Derived.Test.YtdldgchkinflmaaGLinkAct
set_option linter.unusedVariables false
namespace Go.Proofs.Ytdldgchkinflmaa.Lib
open Go.RowKit Go.Proofs.Ytdldgchkinflmaa.Plan
abbrev APacket := Bool × ByteArray
def RPacket : Rec APacket := Rec.bool.pair (Rec.str)
theorem shapePacket {tr : Prop} {w : World} {S : Nat → Prop} {a : APacket} {cs : List Value} (h : RPacket.rd tr w S a cs) : ∃ (x0 : Bool) (x1 : ByteArray), cs = [.bool x0, .string x1] := by
  obtain ⟨_, _, _, _, rfl, p1, q1, _⟩ := h
  obtain rfl := p1
  obtain rfl := q1
  exact ⟨_, _, rfl⟩
set_option maxRecDepth 100000 in
set_option maxHeartbeats 1000000 in
theorem eqPacket (a : APacket) (ca cb : List Value) (w : World) (ha : RPacket.rd False w (Old w) a ca) (hb : RPacket.rd False w (Old w) a cb) (ho : RPacket.ok a) :
    Calls Try.prog 194 #[.agg ca.toArray, .agg cb.toArray] w fun e w2 => e = .returned (.bool true) ∧ Below w.heap.size w w2 := by
  obtain ⟨a0, a1⟩ := a
  have ho2 : Rec.bool.ok a0 ∧ (Rec.str.ok a1) := ho
  obtain ⟨o0, o1⟩ := ho2
  clear ho o0 o1
  obtain ⟨_, _, _, _, rfl, p0a, q0a, i0a, j0a, -⟩ := ha
  obtain rfl := p0a
  obtain rfl := q0a
  obtain ⟨_, _, _, _, rfl, p0b, q0b, i0b, j0b, -⟩ := hb
  obtain rfl := p0b
  obtain rfl := q0b
  show Calls Try.prog 194 #[.agg #[.bool a0, .string a1], .agg #[.bool a0, .string a1]] w _
  clear i0a j0a i0b j0b
  go_enter Try.func194, Try.ntmps194
  go_wp2_with fail
  go_ret
  exact ⟨rfl, by go_grown⟩
set_option maxRecDepth 100000 in
set_option maxHeartbeats 1000000 in
theorem eqPacketS (xs : List APacket) (ih : ∀ x ∈ xs, ∀ (ca cb : List Value) (w1 : World), RPacket.rd False w1 (Old w1) x ca → RPacket.rd False w1 (Old w1) x cb → RPacket.ok x → Calls Try.prog 194 #[.agg ca.toArray, .agg cb.toArray] w1 fun e w2 => e = .returned (.bool true) ∧ Below w1.heap.size w1 w2)
    (va vb : Value) (w : World) (ha : RPacket.sl.rd False w (Old w) xs [va]) (hb : RPacket.sl.rd False w (Old w) xs [vb]) (ho : RPacket.sl.ok xs) :
    Calls Try.prog 121 #[va, vb] w fun e w2 => e = .returned (.bool true) ∧ Below w.heap.size w w2 := by
  obtain ⟨a1, cap1, he, hcap1, ha1⟩ := ha
  injection he with he _
  subst he
  obtain ⟨a2, cap2, he, hcap2, ha2⟩ := hb
  injection he with he _
  subst he
  have hn : xs.length ≤ 9223372036854775807 := ho.1
  have HO := Aside.mk ho.2
  have HIH := Aside.mk ih
  have HA := Aside.mk ha1
  have HB := Aside.mk ha2
  obtain ⟨n, hln⟩ : ∃ n, n = xs.length := ⟨_, rfl⟩
  rw [← hln] at hn hcap1 hcap2 ⊢
  have HL := Aside.mk hln
  clear ho ih ha1 ha2 hln
  go_enter Try.func121, Try.ntmps121
  go_wp2_with fail
  go_loopw [5] (fun i wr => ∃ k : Nat, k ≤ n ∧ i = .int .i64 k ∧ Aside (Below w.heap.size w wr)) (fun i _ => n - (intOf i).toNat)
  case atStart => exact ⟨0, Nat.zero_le _, rfl, ⟨Below.refl _ _⟩⟩
  case round =>
    obtain ⟨k, hk, rfl, hbel⟩ := hrel
    by_cases hlt : k < n
    · have hlt2 : k < xs.length := by rw [← HL.out]; exact hlt
      rcases HA.out with h0 | ⟨b1, o1, rfl, hb1, f1, hf1, -, hrow1⟩
      · exfalso; rw [h0] at hlt2; exact absurd hlt2 (Nat.not_lt_zero _)
      obtain ⟨cs1, hr1, hc1⟩ := hrow1 k hlt2
      obtain ⟨c0, c1, rfl⟩ := shapePacket hr1
      rcases HB.out with h0 | ⟨b2, o2, rfl, hb2, f2, hf2, -, hrow2⟩
      · exfalso; rw [h0] at hlt2; exact absurd hlt2 (Nat.not_lt_zero _)
      obtain ⟨cs2, hr2, hc2⟩ := hrow2 k hlt2
      obtain ⟨v0, v1, rfl⟩ := shapePacket hr2
      have hbel2 := hbel.out
      have d10 : wr.cell? ⟨b1, o1 + k * 2, none⟩ = some (.bool c0) := (hbel2.cell (p := ⟨b1, o1 + k * 2 + 0, none⟩) hb1).trans (hc1 0 (by decide))
      have d11 : wr.cell? ⟨b1, o1 + k * 2 + 1, none⟩ = some (.string c1) := (hbel2.cell (p := ⟨b1, o1 + k * 2 + 1, none⟩) hb1).trans (hc1 1 (by decide))
      have d20 : wr.cell? ⟨b2, o2 + k * 2, none⟩ = some (.bool v0) := (hbel2.cell (p := ⟨b2, o2 + k * 2 + 0, none⟩) hb2).trans (hc2 0 (by decide))
      have d21 : wr.cell? ⟨b2, o2 + k * 2 + 1, none⟩ = some (.string v1) := (hbel2.cell (p := ⟨b2, o2 + k * 2 + 1, none⟩) hb2).trans (hc2 1 (by decide))
      have HR1 := Aside.mk (RPacket.up (w1 := wr.drew) (RPacket.mono hr1 (fun c hc => (hf1 k c hc).1)) (fun _ h => h) hbel2.drew)
      have HR2 := Aside.mk (RPacket.up (w1 := wr.drew) (RPacket.mono hr2 (fun c hc => (hf2 k c hc).1)) (fun _ h => h) hbel2.drew)
      clear hc1 hrow1 hf1 hr1 hc2 hrow2 hf2 hr2 hbel2
      go_wp2_with fail
      go_still_tail 8, (by kernel_rfl)
      change wpList _ _ _ _ _ wr.drew
      go_wp2_with fail
      refine (HIH.out xs[k] (List.getElem_mem hlt2) [.bool c0, .string c1] [.bool v0, .string v1] _ HR1.out HR2.out (HO.out _ (List.getElem_mem hlt2))).mono ?_
      rintro e w2 ⟨rfl, hb2⟩
      have hb3 := Aside.mk (below_later hbel.out.drew hb2)
      clear d10 d20 d11 d21 HR1 HR2 hb2 hbel
      go_wp2_with fail
      go_roundw
      case rel => exact ⟨k + 1, by omega, by go_num, hb3⟩
      case measure => first | (simp [intOf]; done) | (simp [intOf]; omega)
    · obtain rfl : k = n := by omega
      go_wp2_with fail
      go_ret
      exact ⟨rfl, hbel.out⟩
end Go.Proofs.Ytdldgchkinflmaa.Lib
