/- What the texts of the laws' copies stand on. Conditions: none. -/
import Derived.Test.YtjjnlbimegabpaaOpen
import Derived.Test.YtjjnlbimegabpaaPlan
import Derived.Test.YtjjnlbimegabpaaProg
import Derived.StillTailTactics
namespace Go.Proofs.Ytjjnlbimegabpaa.Lib
theorem based : True := trivial
end Go.Proofs.Ytjjnlbimegabpaa.Lib
