/- int: how it lies in memory; copied, measured, compared. Conditions: those of each theorem. -/
import Derived.Test.YtlopbheahedofaaDoorGBase
import Derived.Test.YtlopbheahedofaaDoorEnv
set_option linter.unusedVariables false
namespace Go.Proofs.YtlopbheahedofaaDoor.Lib
open Go.RowKit Go.Proofs.YtlopbheahedofaaDoor.Plan
attribute [local go_sem] look_tmp look_const look_func look_global lookT_nil lookT_hit lookT_miss
theorem infoInt : (Tryd.prog.info? 3).map (fun i => (i.zero, i.size, i.bytes)) = some (some (.int .i64 0), 1, 8) := by kernel_rfl
theorem int_wts (xs : List Int) : Rec.int.sl.wt xs = xs.length := by
  show xs.length + (xs.map (fun _ => 0)).sum = xs.length
  have h : (xs.map (fun _ : Int => (0 : Nat))).sum = 0 := by induction xs <;> simp_all
  omega
end Go.Proofs.YtlopbheahedofaaDoor.Lib
