/- What TabGet answers is a right datum. Conditions: none. -/
import Derived.Test.YtdldgchkinflmaaTG4
import Derived.Test.YtdldgchkinflmaaMTable
set_option linter.unusedVariables false
namespace Go.Proofs.Ytdldgchkinflmaa.Fn
open Go.RowKit Go.Proofs.Ytdldgchkinflmaa.Lib Go.Proofs.Ytdldgchkinflmaa.Plan
theorem filter_okS {α : Type} {R : Rec α} (p : α → Bool) {xs : List α} (h : R.sl.ok xs) : R.sl.ok (xs.filter p) :=
  ⟨Nat.le_trans (List.length_filter_le _ _) h.1, fun x hx => h.2 x (List.mem_filter.1 hx).1⟩
theorem nil_okS {α : Type} {R : Rec α} : R.sl.ok [] := ⟨by simp, fun x hx => by cases hx⟩
theorem get_ok {a : ATable} (key : T) (h : RTable.ok a) : Rec.term.sl.ok (getR a.1 a.2 key).1 := by
  unfold getR
  split
  · exact filter_okS _ h.2
  · exact nil_okS
theorem get_wt {a : ATable} (key : T) (h : RTable.wt a ≤ 1048576) : Rec.term.sl.wt (getR a.1 a.2 key).1 ≤ 1073741824 := by
  have h2 : Rec.int.wt a.1 + Rec.term.sl.wt a.2 ≤ 1048576 := h
  unfold getR
  split
  · exact Nat.le_trans (filter_wt _ _) (by omega)
  · show 0 + 0 ≤ _; omega
end Go.Proofs.Ytdldgchkinflmaa.Fn
