/- string: how it lies in memory; copied, measured, compared. Conditions: those of each theorem. -/
import Derived.Test.YtlopbheahedofaaGInt
import Derived.Test.YtlopbheahedofaaEnv
set_option linter.unusedVariables false
namespace Go.Proofs.Ytlopbheahedofaa.Lib
open Go.RowKit Go.Proofs.Ytlopbheahedofaa.Plan
attribute [local go_sem] look_tmp look_const look_func look_global lookT_nil lookT_hit lookT_miss
theorem infoString : (Try.prog.info? 9).map (fun i => (i.zero, i.size, i.bytes)) = some (some (.string ⟨#[]⟩), 1, 16) := by kernel_rfl
end Go.Proofs.Ytlopbheahedofaa.Lib
