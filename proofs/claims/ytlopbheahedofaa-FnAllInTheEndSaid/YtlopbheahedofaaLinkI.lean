/- What a link's run answers, as plain data. Conditions: none. -/
import Derived.Test.YtlopbheahedofaaLinkH
import Derived.Test.YtlopbheahedofaaGLinkReport
set_option linter.unusedVariables false
namespace Go.Proofs.Ytlopbheahedofaa.Fn
open Go Go.RowKit Go.Proofs.Ytlopbheahedofaa.Lib Go.Proofs.Ytlopbheahedofaa.Plan

def zeroR : ALinkReport := (0, 0, 0, [], [])
noncomputable def repK (s : Lk) : ALinkReport := ((s.given.length : Int), (s.acked : Int), (s.packed : Int), s.taken, s.way)
noncomputable def linkR (win : Int) (acts : List ALinkAct) : ALinkReport × Int :=
  if 1 ≤ win ∧ win ≤ 16 ∧ acts.length ≤ 400 then (if acts.all actB then (repK (runK win.toNat acts), 0) else (zeroR, 5)) else (zeroR, 1)
theorem act_parts {tr : Prop} {w : World} {S : Nat → Prop} {a : ALinkAct} {cs : List Value} (h : RLinkAct.rd tr w S a cs) : cs = [.int .i64 a.1, .int .i64 a.2.1, .string a.2.2] := by
  obtain ⟨_, _, _, _, rfl, p0, q0, i0, j0, -⟩ := h
  obtain ⟨_, _, _, _, rfl, p1, q1, i1, j1, -⟩ := q0
  obtain rfl := p0
  obtain rfl := p1
  obtain rfl := q1
  rfl
end Go.Proofs.Ytlopbheahedofaa.Fn
