/- A cell of a block that is not written. Conditions: those of the theorem. -/
import Derived.Test.YtdldgchkinflmaaGrowR
import Derived.Lib.AppendZeros
set_option linter.unusedVariables false
namespace Go.Proofs.Ytdldgchkinflmaa.Lib
open Go Go.RowKit Go.Proofs.Ytdldgchkinflmaa.Plan
theorem But.cell {G : Nat → Prop} {w w' : World} {b o : Nat} (h : But G w w') (hlt : b < w.heap.size) (hg : ¬ G b) : w'.cell? ⟨b, o, none⟩ = w.cell? ⟨b, o, none⟩ := World.cell?_of_block (w := w) (h.block b hlt hg)
end Go.Proofs.Ytdldgchkinflmaa.Lib
