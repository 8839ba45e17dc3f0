/- What a signal does is a right datum. Conditions: none. -/
import Derived.Test.YtdcmoilajplfdaaSig
set_option linter.unusedVariables false
namespace Go.Proofs.Ytdcmoilajplfdaa.Fn
open Go.RowKit Go.Proofs.Ytdcmoilajplfdaa.Lib Go.Proofs.Ytdcmoilajplfdaa.Plan
theorem atom_ok {s : ByteArray} (h : s.size ≤ 100) : Rec.term.ok (atomT s) := by
  refine Rec.term_ok.2 ⟨⟨by show (-9223372036854775808 : Int) ≤ 2; decide, by show (2 : Int) ≤ _; decide⟩, ⟨by show (-9223372036854775808 : Int) ≤ 0; decide, by show (0 : Int) ≤ _; decide⟩, by show s.size ≤ _; omega, by show ([] : List T).length ≤ _; simp, fun x hx => by cases hx⟩
theorem sig_ok (trap link : Bool) {a : T} (h : Rec.term.ok a) : Rec.term.ok (sigR trap link a).2.1 := by
  have h1 : Rec.term.ok killedT := atom_ok (by decide)
  have h2 : Rec.term.ok noT := Rec.term_ok.2 ⟨⟨by decide, by decide⟩, ⟨by decide, by decide⟩, by decide, by show ([] : List T).length ≤ _; simp, fun x hx => by cases hx⟩
  unfold sigR
  repeat (first | exact h1 | exact h2 | exact h | split)
theorem sig_wt (trap link : Bool) {a : T} (h : Rec.term.wt a ≤ 1048576) : Rec.term.wt (sigR trap link a).2.1 ≤ 1073741824 := by
  have h1 : Rec.term.wt killedT ≤ 1073741824 := by rw [killedT, atom_wt]; decide
  have h2 : Rec.term.wt noT ≤ 1073741824 := by rw [Rec.term_wt]; decide
  have h3 : Rec.term.wt a ≤ 1073741824 := by omega
  unfold sigR
  repeat (first | exact h1 | exact h2 | exact h3 | split)
end Go.Proofs.Ytdcmoilajplfdaa.Fn
