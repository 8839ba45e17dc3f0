/- What the acts of each kind do. Conditions: none. -/
import Derived.Test.YtlopbheahedofaaLink9
set_option linter.unusedVariables false
namespace Go.Proofs.Ytlopbheahedofaa.Fn
open Go Go.RowKit Go.Proofs.Ytlopbheahedofaa.Lib Go.Proofs.Ytlopbheahedofaa.Plan
theorem actK_3 (n : Nat) (t : ByteArray) (s : Lk) : actK 3 n t s = if n < s.way.length then arrK (wayAt n s) (outK n s) else s := rfl
theorem actK_4 (n : Nat) (t : ByteArray) (s : Lk) : actK 4 n t s = if n < s.way.length then outK n s else s := rfl
theorem actK_6 (n : Nat) (t : ByteArray) (s : Lk) : actK 6 n t s = if n % 100 < s.way.length then { s with way := s.way.set (n % 100) ((wayAt (n % 100) s).1, spoilT (wayAt (n % 100) s).2 (n / 100 % (wayAt (n % 100) s).2.size) (t.data[0]!)) } else s := rfl
theorem cpk_set : ∀ (l : List (Bool × ByteArray)) (i : Nat) (p1 : Bool) (p2 d : ByteArray), l[i]? = some (p1, p2) → (cpk l).set (i * 2 + 1) (.string d) = cpk (l.set i (p1, d))
  | [], _, _, _, _, h => by simp at h
  | p :: l, 0, p1, p2, d, h => by
    simp at h
    subst h
    simp [cpk]
  | p :: l, i + 1, p1, p2, d, h => by
    have h2 : l[i]? = some (p1, p2) := by simpa using h
    have ih := cpk_set l i p1 p2 d h2
    rw [show (i + 1) * 2 + 1 = (i * 2 + 1) + 1 + 1 by omega]
    have e : ∀ r, cpk (p :: r) = .bool p.1 :: .string p.2 :: cpk r := fun r => by simp [cpk]
    rw [e l, List.set_cons_succ, List.set_cons_succ, List.set_cons_succ, e, ih]
theorem actK_5 (n : Nat) (t : ByteArray) (s : Lk) : actK 5 n t s = if n < s.way.length then putK (wayAt n s) s else s := rfl
end Go.Proofs.Ytlopbheahedofaa.Fn
