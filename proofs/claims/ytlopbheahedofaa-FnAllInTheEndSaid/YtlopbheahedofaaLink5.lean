/- What the fill's loop counts by; a step of it. Conditions: those of each theorem. -/
import Derived.Test.YtlopbheahedofaaLink4
set_option linter.unusedVariables false
namespace Go.Proofs.Ytlopbheahedofaa.Fn
open Go Go.RowKit Go.Proofs.Ytlopbheahedofaa.Lib Go.Proofs.Ytlopbheahedofaa.Plan
/-- The number that lies in a cell. -/
def natAt (w : World) (g j : Nat) : Nat := match w.cell? ⟨g, j, none⟩ with
  | some (.int _ n) => n.toNat
  | _ => 0
theorem natAt_of {w : World} {g j : Nat} {k : IntKind} {n : Nat} (h : w.cell? ⟨g, j, none⟩ = some (.int k n)) : natAt w g j = n := by unfold natAt; rw [h]; simp
theorem fillK_stop {win f : Nat} {s : Lk} (h : ¬ (s.packed < s.given.length ∧ s.packed < s.acked + win)) : fillK win f s = s := by
  cases f with
  | zero => rfl
  | succ f => unfold fillK; rw [if_neg h]
theorem fillK_go {win : Nat} {s : Lk} (h1 : s.packed < s.given.length) (h2 : s.packed < s.acked + win) : fillK win (s.given.length - s.packed) s = fillK win ((stepK s).given.length - (stepK s).packed) (stepK s) := by
  have e1 : (stepK s).given = s.given := (packK_given s.packed s).1
  have e2 : (stepK s).packed = s.packed + 1 := rfl
  rw [e1, e2, show s.given.length - s.packed = (s.given.length - (s.packed + 1)) + 1 by omega]
  conv => lhs; unfold fillK
  rw [if_pos ⟨h1, h2⟩]
theorem stepK_given (s : Lk) : (stepK s).given = s.given := (packK_given s.packed s).1
end Go.Proofs.Ytlopbheahedofaa.Fn
