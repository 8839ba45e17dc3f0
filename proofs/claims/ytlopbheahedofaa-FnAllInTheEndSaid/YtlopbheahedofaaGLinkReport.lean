/- LinkReport: how it lies in memory; copied, measured, compared. Conditions: those of each theorem. -/
import Derived.Test.YtlopbheahedofaaGPacket
set_option linter.unusedVariables false
namespace Go.Proofs.Ytlopbheahedofaa.Lib
open Go.RowKit Go.Proofs.Ytlopbheahedofaa.Plan
abbrev ALinkReport := Int × Int × Int × (List ByteArray) × (List APacket)
def RLinkReport : Rec ALinkReport := Rec.int.pair (Rec.int.pair (Rec.int.pair (Rec.str.sl.pair (RPacket.sl))))
theorem shapeLinkReport {tr : Prop} {w : World} {S : Nat → Prop} {a : ALinkReport} {cs : List Value} (h : RLinkReport.rd tr w S a cs) : ∃ (x0 : Int) (x1 : Int) (x2 : Int) (x3a : Option Addr) (x3b : Nat) (x3c : Nat) (x4a : Option Addr) (x4b : Nat) (x4c : Nat), cs = [.int .i64 x0, .int .i64 x1, .int .i64 x2, .slice x3a x3b x3c, .slice x4a x4b x4c] := by
  obtain ⟨_, _, _, _, rfl, p1, q1, _⟩ := h
  obtain rfl := p1
  obtain ⟨_, _, _, _, rfl, p2, q2, _⟩ := q1
  obtain rfl := p2
  obtain ⟨_, _, _, _, rfl, p3, q3, _⟩ := q2
  obtain rfl := p3
  obtain ⟨_, _, _, _, rfl, p4, q4, _⟩ := q3
  obtain ⟨_, _, rfl, _⟩ := p4
  obtain ⟨_, _, rfl, _⟩ := q4
  exact ⟨_, _, _, _, _, _, _, _, _, rfl⟩
end Go.Proofs.Ytlopbheahedofaa.Lib
