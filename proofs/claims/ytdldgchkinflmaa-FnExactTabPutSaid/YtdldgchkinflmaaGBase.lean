/- What the texts of the laws' copies stand on. Conditions: none. -/
import Derived.Test.YtdldgchkinflmaaOpen
import Derived.Test.YtdldgchkinflmaaPlan
import Derived.Test.YtdldgchkinflmaaProg
import Derived.StillTailTactics
namespace Go.Proofs.Ytdldgchkinflmaa.Lib
theorem based : True := trivial
end Go.Proofs.Ytdldgchkinflmaa.Lib
