/- Packet: how it lies in memory; copied, measured, compared. Conditions: those of each theorem. -/
import Derived.Test.YtlopbheahedofaaGLinkAct
set_option linter.unusedVariables false
namespace Go.Proofs.Ytlopbheahedofaa.Lib
open Go.RowKit Go.Proofs.Ytlopbheahedofaa.Plan
abbrev APacket := Bool × ByteArray
def RPacket : Rec APacket := Rec.bool.pair (Rec.str)
theorem shapePacket {tr : Prop} {w : World} {S : Nat → Prop} {a : APacket} {cs : List Value} (h : RPacket.rd tr w S a cs) : ∃ (x0 : Bool) (x1 : ByteArray), cs = [.bool x0, .string x1] := by
  obtain ⟨_, _, _, _, rfl, p1, q1, _⟩ := h
  obtain rfl := p1
  obtain rfl := q1
  exact ⟨_, _, rfl⟩
end Go.Proofs.Ytlopbheahedofaa.Lib
