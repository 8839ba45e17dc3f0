/- What the texts of the laws' copies stand on. Conditions: none. -/
import Derived.Test.YtlopbheahedofaaOpen
import Derived.Test.YtlopbheahedofaaPlan
import Derived.Test.YtlopbheahedofaaProg
import Derived.StillTailTactics
namespace Go.Proofs.Ytlopbheahedofaa.Lib
theorem based : True := trivial
end Go.Proofs.Ytlopbheahedofaa.Lib
