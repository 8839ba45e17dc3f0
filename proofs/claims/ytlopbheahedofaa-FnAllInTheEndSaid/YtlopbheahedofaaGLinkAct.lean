/- LinkAct: how it lies in memory; copied, measured, compared. Conditions: those of each theorem. -/
import Derived.Test.YtlopbheahedofaaGString
set_option linter.unusedVariables false
namespace Go.Proofs.Ytlopbheahedofaa.Lib
open Go.RowKit Go.Proofs.Ytlopbheahedofaa.Plan
abbrev ALinkAct := Int × Int × ByteArray
def RLinkAct : Rec ALinkAct := Rec.int.pair (Rec.int.pair (Rec.str))
theorem shapeLinkAct {tr : Prop} {w : World} {S : Nat → Prop} {a : ALinkAct} {cs : List Value} (h : RLinkAct.rd tr w S a cs) : ∃ (x0 : Int) (x1 : Int) (x2 : ByteArray), cs = [.int .i64 x0, .int .i64 x1, .string x2] := by
  obtain ⟨_, _, _, _, rfl, p1, q1, _⟩ := h
  obtain rfl := p1
  obtain ⟨_, _, _, _, rfl, p2, q2, _⟩ := q1
  obtain rfl := p2
  obtain rfl := q2
  exact ⟨_, _, _, rfl⟩
end Go.Proofs.Ytlopbheahedofaa.Lib
