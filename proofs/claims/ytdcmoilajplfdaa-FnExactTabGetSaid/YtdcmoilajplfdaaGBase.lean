/- What the texts of the laws' copies stand on. Conditions: none. -/
import Derived.Test.YtdcmoilajplfdaaOpen
import Derived.Test.YtdcmoilajplfdaaPlan
import Derived.Test.YtdcmoilajplfdaaProg
import Derived.StillTailTactics
namespace Go.Proofs.Ytdcmoilajplfdaa.Lib
theorem based : True := trivial
end Go.Proofs.Ytdcmoilajplfdaa.Lib
