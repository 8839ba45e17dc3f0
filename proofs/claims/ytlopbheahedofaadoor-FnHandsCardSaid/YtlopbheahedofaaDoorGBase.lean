/- What the texts of the laws' copies stand on. Conditions: none. -/
import Derived.Test.YtlopbheahedofaaDoorOpen
import Derived.Test.YtlopbheahedofaaDoorPlan
import Derived.Test.YtlopbheahedofaaDoorProg
import Derived.StillTailTactics
namespace Go.Proofs.YtlopbheahedofaaDoor.Lib
theorem based : True := trivial
end Go.Proofs.YtlopbheahedofaaDoor.Lib
