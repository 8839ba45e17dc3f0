/- The reference's HandStep, each state as one theorem. Conditions: those of each theorem. -/
import Derived.Test.YtlopbheahedofaaDoorHs13
set_option linter.unusedVariables false
namespace Go.Proofs.YtlopbheahedofaaDoor.Fn
open Go Go.RowKit Go.Proofs.YtlopbheahedofaaDoor.Lib Go.Proofs.YtlopbheahedofaaDoor.Plan
attribute [local go_sem] look_tmp look_const look_func look_global lookT_nil lookT_hit lookT_miss

theorem sStep4 (name cookie : ByteArray) (flags mine : Int) (calls peer : ByteArray) (both : Int) (data : ByteArray) (w : World) (hn : name.size ≤ 1048576) (hc : cookie.size ≤ 100) (hf0 : 0 ≤ flags) (hf1 : flags ≤ 65535) (hm0 : 0 ≤ mine) (hm1 : mine ≤ 4294967295) (hca : calls.size ≤ 1048576) (hpe : peer.size ≤ 1048576) (hd : data.size ≤ 1048576) (hb : handB 4 name cookie flags mine calls peer both = true) :
    Calls Tryd.prog 13 #[.agg #[.int .i64 4, .string name, .string cookie, .int .i64 flags, .int .i64 mine, .string calls, .string peer, .int .i64 both], .string data] w (StepOK w (hearsR 4 name cookie flags mine calls peer both data) 0) := by
  by_cases h0 : 0 < data.size
  rotate_left
  · exact sStep4a name cookie flags mine calls peer both data w hn hc hf0 hf1 hm0 hm1 hca hpe hd hb h0
  cases hcb : ((data[0].toNat : Int) == 97)
  · exact sStep4b name cookie flags mine calls peer both data w hn hc hf0 hf1 hm0 hm1 hca hpe hd hb h0 hcb
  by_cases h5 : data.size = 5
  rotate_left
  · exact sStep4c name cookie flags mine calls peer both data w hn hc hf0 hf1 hm0 hm1 hca hpe hd hb h0 hcb h5
  cases he : (numB (data.extract 1 5) == digV cookie mine)
  · exact sStep4d name cookie flags mine calls peer both data w hn hc hf0 hf1 hm0 hm1 hca hpe hd hb h0 hcb h5 _ _ rfl rfl he
  · exact sStep4e name cookie flags mine calls peer both data w hn hc hf0 hf1 hm0 hm1 hca hpe hd hb h0 hcb h5 _ _ rfl rfl he
theorem sStep3 (name cookie : ByteArray) (flags mine : Int) (calls peer : ByteArray) (both : Int) (data : ByteArray) (w : World) (hn : name.size ≤ 1048576) (hc : cookie.size ≤ 100) (hf0 : 0 ≤ flags) (hf1 : flags ≤ 65535) (hm0 : 0 ≤ mine) (hm1 : mine ≤ 4294967295) (hca : calls.size ≤ 1048576) (hpe : peer.size ≤ 1048576) (hd : data.size ≤ 1048576) (hb : handB 3 name cookie flags mine calls peer both = true) :
    Calls Tryd.prog 13 #[.agg #[.int .i64 3, .string name, .string cookie, .int .i64 flags, .int .i64 mine, .string calls, .string peer, .int .i64 both], .string data] w (StepOK w (hearsR 3 name cookie flags mine calls peer both data) 0) := by
  by_cases h0 : 0 < data.size
  rotate_left
  · exact sStep3a name cookie flags mine calls peer both data w hn hc hf0 hf1 hm0 hm1 hca hpe hd hb h0
  cases hcb : ((data[0].toNat : Int) == 114)
  · exact sStep3b name cookie flags mine calls peer both data w hn hc hf0 hf1 hm0 hm1 hca hpe hd hb h0 hcb
  by_cases h5 : data.size = 9
  rotate_left
  · exact sStep3c name cookie flags mine calls peer both data w hn hc hf0 hf1 hm0 hm1 hca hpe hd hb h0 hcb h5
  cases he : (numB (data.extract 5 9) == digV cookie mine)
  · exact sStep3d name cookie flags mine calls peer both data w hn hc hf0 hf1 hm0 hm1 hca hpe hd hb h0 hcb h5 _ _ rfl rfl he
  · exact sStep3e name cookie flags mine calls peer both data w hn hc hf0 hf1 hm0 hm1 hca hpe hd hb h0 hcb h5 _ _ rfl rfl he _ _ _ rfl rfl rfl
theorem sStep2 (name cookie : ByteArray) (flags mine : Int) (calls peer : ByteArray) (both : Int) (data : ByteArray) (w : World) (hn : name.size ≤ 1048576) (hc : cookie.size ≤ 100) (hf0 : 0 ≤ flags) (hf1 : flags ≤ 65535) (hm0 : 0 ≤ mine) (hm1 : mine ≤ 4294967295) (hca : calls.size ≤ 1048576) (hpe : peer.size ≤ 1048576) (hd : data.size ≤ 1048576) (hb : handB 2 name cookie flags mine calls peer both = true) :
    Calls Tryd.prog 13 #[.agg #[.int .i64 2, .string name, .string cookie, .int .i64 flags, .int .i64 mine, .string calls, .string peer, .int .i64 both], .string data] w (StepOK w (hearsR 2 name cookie flags mine calls peer both data) 0) := by
  by_cases h0 : 0 < data.size
  rotate_left
  · exact sStep2a name cookie flags mine calls peer both data w hn hc hf0 hf1 hm0 hm1 hca hpe hd hb h0
  cases hcb : ((data[0].toNat : Int) == 67)
  · exact sStep2b name cookie flags mine calls peer both data w hn hc hf0 hf1 hm0 hm1 hca hpe hd hb h0 hcb
  by_cases h3 : 7 < data.size
  rotate_left
  · exact sStep2c name cookie flags mine calls peer both data w hn hc hf0 hf1 hm0 hm1 hca hpe hd hb h0 hcb h3
  cases hnm : nameB (data.extract 7 data.size)
  · exact sStep2d name cookie flags mine calls peer both data w hn hc hf0 hf1 hm0 hm1 hca hpe hd hb h0 hcb h3 _ rfl hnm
  cases e1 : ((data.extract 7 data.size).toList == name.toList)
  rotate_left
  · exact sStep2e name cookie flags mine calls peer both data w hn hc hf0 hf1 hm0 hm1 hca hpe hd hb h0 hcb h3 _ rfl hnm e1
  · exact sStep2f name cookie flags mine calls peer both data w hn hc hf0 hf1 hm0 hm1 hca hpe hd hb h0 hcb h3 _ rfl hnm e1 _ _ _ _ _ rfl rfl rfl rfl rfl
theorem sStep0 (name cookie : ByteArray) (flags mine : Int) (calls peer : ByteArray) (both : Int) (data : ByteArray) (w : World) (hn : name.size ≤ 1048576) (hc : cookie.size ≤ 100) (hf0 : 0 ≤ flags) (hf1 : flags ≤ 65535) (hm0 : 0 ≤ mine) (hm1 : mine ≤ 4294967295) (hca : calls.size ≤ 1048576) (hpe : peer.size ≤ 1048576) (hd : data.size ≤ 1048576) (hb : handB 0 name cookie flags mine calls peer both = true) :
    Calls Tryd.prog 13 #[.agg #[.int .i64 0, .string name, .string cookie, .int .i64 flags, .int .i64 mine, .string calls, .string peer, .int .i64 both], .string data] w (StepOK w (hearsR 0 name cookie flags mine calls peer both data) 0) := by
  by_cases h0 : 0 < data.size
  rotate_left
  · exact sStep0a name cookie flags mine calls peer both data w hn hc hf0 hf1 hm0 hm1 hca hpe hd hb h0
  cases hcb : ((data[0].toNat : Int) == 78)
  · exact sStep0b name cookie flags mine calls peer both data w hn hc hf0 hf1 hm0 hm1 hca hpe hd hb h0 hcb
  by_cases h3 : 3 < data.size
  rotate_left
  · exact sStep0c name cookie flags mine calls peer both data w hn hc hf0 hf1 hm0 hm1 hca hpe hd hb h0 hcb h3
  cases hnm : nameB (data.extract 3 data.size)
  · exact sStep0d name cookie flags mine calls peer both data w hn hc hf0 hf1 hm0 hm1 hca hpe hd hb h0 hcb h3 hnm
  cases e1 : ((data.extract 3 data.size).toList == name.toList)
  rotate_left
  · exact sStep0e name cookie flags mine calls peer both data w hn hc hf0 hf1 hm0 hm1 hca hpe hd hb h0 hcb h3 hnm e1
  cases e2 : ((data.extract 3 data.size).toList == calls.toList)
  · exact sStep0h name cookie flags mine calls peer both data w hn hc hf0 hf1 hm0 hm1 hca hpe hd hb h0 hcb h3 _ rfl hnm e1 e2 _ _ _ _ rfl rfl rfl rfl
  cases e3 : Op.bytesLess name.toList (data.extract 3 data.size).toList
  · exact sStep0f name cookie flags mine calls peer both data w hn hc hf0 hf1 hm0 hm1 hca hpe hd hb h0 hcb h3 hnm e1 e2 e3 (by rw [Bool.beq_comm]; exact e1)
  · exact sStep0g name cookie flags mine calls peer both data w hn hc hf0 hf1 hm0 hm1 hca hpe hd hb h0 hcb h3 _ rfl hnm e1 e2 e3 _ _ _ _ rfl rfl rfl rfl
end Go.Proofs.YtlopbheahedofaaDoor.Fn
