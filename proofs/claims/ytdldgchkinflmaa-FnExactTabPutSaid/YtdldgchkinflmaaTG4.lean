/- Walk of the reference's TabGet. Conditions: those of each theorem. -/
import Derived.Test.YtdldgchkinflmaaTG3
import Derived.Test.YtdldgchkinflmaaTab2
import Derived.Test.YtdldgchkinflmaaCopy2
set_option linter.unusedVariables false
namespace Go.Proofs.Ytdldgchkinflmaa.Fn
open Go.RowKit Go.Proofs.Ytdldgchkinflmaa.Lib Go.Proofs.Ytdldgchkinflmaa.Plan
attribute [local go_sem] look_tmp look_const look_func look_global lookT_nil lookT_hit lookT_miss

theorem filter_take_yes {α : Type} (p : α → Bool) (l : List α) (i : Nat) (h : i < l.length) (hp : p l[i] = true) : (l.take i).filter p ++ [l[i]] = (l.take (i + 1)).filter p := by
  rw [List.take_succ_eq_append_getElem h, List.filter_append, List.filter_cons, hp]; rfl
theorem filter_take_no {α : Type} (p : α → Bool) (l : List α) (i : Nat) (h : i < l.length) (hp : p l[i] = false) : (l.take i).filter p = (l.take (i + 1)).filter p := by
  rw [List.take_succ_eq_append_getElem h, List.filter_append, List.filter_cons, hp]; simp
end Go.Proofs.Ytdldgchkinflmaa.Fn
