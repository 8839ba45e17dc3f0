/- The program's HandStep. Conditions: those of each theorem. -/
import Derived.Test.YtlopbheahedofaaDoorHs15
set_option linter.unusedVariables false
namespace Go.Proofs.YtlopbheahedofaaDoor.Fn
open Go Go.RowKit Go.Proofs.YtlopbheahedofaaDoor.Lib Go.Proofs.YtlopbheahedofaaDoor.Plan
attribute [local go_sem] look_tmp look_const look_func look_global lookT_nil lookT_hit lookT_miss

theorem hearsAll (st : Int) (name cookie : ByteArray) (flags mine : Int) (calls peer : ByteArray) (both : Int) (data : ByteArray) (w : World) (hn : name.size ≤ 1048576) (hc : cookie.size ≤ 1048576) (hca : calls.size ≤ 1048576) (hpe : peer.size ≤ 1048576) (hd : data.size ≤ 1048576) (hb : handB st name cookie flags mine calls peer both = true) (htab : Go.Lib.TabIs Tryd.prog w "internal/strconv.uint64pow10" .u64 Go.Lib.pow10Tab) :
    Calls Tryd.prog 27 #[.agg #[.int .i64 st, .string name, .string cookie, .int .i64 flags, .int .i64 mine, .string calls, .string peer, .int .i64 both], .string data] w (HearsOK w (hearsR st name cookie flags mine calls peer both data)) := by
  obtain ⟨h1, h2, h3, h4, h5, h6, h7⟩ := handB_parts hb
  rcases (show st = 0 ∨ st = 1 ∨ st = 2 ∨ st = 3 ∨ st = 4 ∨ (st = 5 ∨ st = 6) by omega) with rfl | rfl | rfl | rfl | rfl | hs
  · exact hears0 name cookie flags mine calls peer both data w hn h1 h2 h3 h4 h5 hd htab
  · exact hears1 name cookie flags mine calls peer both data w
  · exact hears2 name cookie flags mine calls peer both data w hn h1 h2 h3 h4 h5 hd htab
  · exact hears3 name cookie flags mine calls peer both data w hn h1 h2 h3 h4 h5 hd htab
  · exact hears4 name cookie flags mine calls peer both data w hn h1 h2 h3 h4 h5 hd htab
  · exact hears56 st name cookie flags mine calls peer both data w hs
end Go.Proofs.YtlopbheahedofaaDoor.Fn
