/- The reference's HandStep: a hand that is refused. Conditions: those of each theorem. -/
import Derived.Test.YtlopbheahedofaaDoorHs14
set_option linter.unusedVariables false
namespace Go.Proofs.YtlopbheahedofaaDoor.Fn
open Go Go.RowKit Go.Proofs.YtlopbheahedofaaDoor.Lib Go.Proofs.YtlopbheahedofaaDoor.Plan
attribute [local go_sem] look_tmp look_const look_func look_global lookT_nil lookT_hit lookT_miss

noncomputable def zeroH : AHand × List ByteArray := ((0, ⟨#[]⟩, ⟨#[]⟩, 0, 0, ⟨#[]⟩, ⟨#[]⟩, 0), [])
set_option maxRecDepth 100000 in
set_option maxHeartbeats 8000000 in
theorem sStepNo (st : Int) (name cookie : ByteArray) (flags mine : Int) (calls peer : ByteArray) (both : Int) (data : ByteArray) (w : World) (hn : name.size ≤ 1048576) (hc : cookie.size ≤ 1048576) (hca : calls.size ≤ 1048576) (hpe : peer.size ≤ 1048576) (hd : data.size ≤ 1048576) (hb : handB st name cookie flags mine calls peer both = false) :
    Calls Tryd.prog 13 #[.agg #[.int .i64 st, .string name, .string cookie, .int .i64 flags, .int .i64 mine, .string calls, .string peer, .int .i64 both], .string data] w (StepOK w zeroH 1) := by
  have E : Aside (zeroH = ((0, ⟨#[]⟩, ⟨#[]⟩, 0, 0, ⟨#[]⟩, ⟨#[]⟩, 0), [])) := ⟨rfl⟩
  generalize zeroH = r at E ⊢
  have HB := Aside.mk hb
  clear hb
  go_enter Tryd.func13, Tryd.ntmps13
  go_wp2_with fail
  obtain ⟨w3, hw3⟩ : ∃ x, x = ((w.alloc (.cells #[.int .i64 st, .string name, .string cookie, .int .i64 flags, .int .i64 mine, .string calls, .string peer, .int .i64 both] 27)).alloc (.cells #[.int .i64 0, .string ⟨#[]⟩, .string ⟨#[]⟩, .int .i64 0, .int .i64 0, .string ⟨#[]⟩, .string ⟨#[]⟩, .int .i64 0] 27)).alloc (.cells #[] 9) := ⟨_, rfl⟩
  rw [← hw3]
  have K2 : Aside (Blk w3 w.heap.size 27 [.int .i64 st, .string name, .string cookie, .int .i64 flags, .int .i64 mine, .string calls, .string peer, .int .i64 both]) := ⟨by rw [hw3]; exact ((Blk.new w 27 [.int .i64 st, .string name, .string cookie, .int .i64 flags, .int .i64 mine, .string calls, .string peer, .int .i64 both]).alloc _).alloc _⟩
  have K4 : Aside (Blk w3 (w.heap.size + 1) 27 [.int .i64 0, .string ⟨#[]⟩, .string ⟨#[]⟩, .int .i64 0, .int .i64 0, .string ⟨#[]⟩, .string ⟨#[]⟩, .int .i64 0]) := ⟨by rw [hw3]; exact (Blk.made (w.alloc _) 27 [.int .i64 0, .string ⟨#[]⟩, .string ⟨#[]⟩, .int .i64 0, .int .i64 0, .string ⟨#[]⟩, .string ⟨#[]⟩, .int .i64 0] (by simp)).alloc _⟩
  have BL : Aside (Below w.heap.size w w3) := ⟨by rw [hw3]; go_grown⟩
  clear hw3
  refine (l13Hand st name cookie flags mine calls peer both w3 (by omega) (by omega) (by omega) (by omega)).mono ?_
  rintro e w4 ⟨rfl, hb⟩
  rw [HB.out]
  have K2n := Aside.mk (K2.out.below hb)
  have K4n := Aside.mk (K4.out.below hb)
  have BLn := Aside.mk (below_later BL.out hb)
  clear K2 K4 BL
  have K2 := K2n
  have K4 := K4n
  have BL := BLn
  clear BLn K2n K4n
  clear hb HB
  have u0 := K2.out.cell 0
  have u1 := K2.out.cell 1
  have u2 := K2.out.cell 2
  have u3 := K2.out.cell 3
  have u4 := K2.out.cell 4
  have u5 := K2.out.cell 5
  have u6 := K2.out.cell 6
  have u7 := K2.out.cell 7
  simp only [List.getElem?_cons_zero, List.getElem?_cons_succ] at u0 u1 u2 u3 u4 u5 u6 u7
  have f0 := K2.out.free 0
  have lx : w.heap.size < w4.heap.size := K2.out.lt
  go_wp2_with (refine wpList_store_blk rfl 27 _ _ rfl (w.heap.size + 1) [.int .i64 0, .string ⟨#[]⟩, .string ⟨#[]⟩, .int .i64 0, .int .i64 0, .string ⟨#[]⟩, .string ⟨#[]⟩, .int .i64 0] rfl rfl 27 [.int .i64 0, .string ⟨#[]⟩, .string ⟨#[]⟩, .int .i64 0, .int .i64 0, .string ⟨#[]⟩, .string ⟨#[]⟩, .int .i64 0] (K4.out) (by kernel_rfl) rfl rfl ?_; intro w9 k9 hg9; have K9 := Aside.mk k9; have B9 := Aside.mk (below_grown (BL.out) hg9 (by omega)); clear k9 hg9)
  refine bodyPost_ret (res_ctt rfl _ _ (w.heap.size + 1) 27 [.int .i64 0, .string ⟨#[]⟩, .string ⟨#[]⟩, .int .i64 0, .int .i64 0, .string ⟨#[]⟩, .string ⟨#[]⟩, .int .i64 0] _ rfl K9.out Tryd.underlying27 rfl (by kernel_rfl)) rfl ⟨.slice (some ⟨w.heap.size + 2, 0, none⟩) 0 0, by rw [E.out]; rfl, by rw [E.out]; exact strs_nil _ _ _, B9.out⟩
theorem handB_parts {st : Int} {name cookie : ByteArray} {flags mine : Int} {calls peer : ByteArray} {both : Int} (h : handB st name cookie flags mine calls peer both = true) : cookie.size ≤ 100 ∧ 0 ≤ flags ∧ flags ≤ 65535 ∧ 0 ≤ mine ∧ mine ≤ 4294967295 ∧ 0 ≤ st ∧ st ≤ 6 := by
  unfold handB baseB at h
  simp only [Bool.and_eq_true, decide_eq_true_eq] at h
  omega
noncomputable def handR (st : Int) (name cookie : ByteArray) (flags mine : Int) (calls peer : ByteArray) (both : Int) (data : ByteArray) : AHand × List ByteArray := if handB st name cookie flags mine calls peer both then hearsR st name cookie flags mine calls peer both data else zeroH
def handC (b : Bool) : Int := if b then 0 else 1
theorem sHandStep (st : Int) (name cookie : ByteArray) (flags mine : Int) (calls peer : ByteArray) (both : Int) (data : ByteArray) (w : World) (hn : name.size ≤ 1048576) (hc : cookie.size ≤ 1048576) (hca : calls.size ≤ 1048576) (hpe : peer.size ≤ 1048576) (hd : data.size ≤ 1048576) :
    Calls Tryd.prog 13 #[.agg #[.int .i64 st, .string name, .string cookie, .int .i64 flags, .int .i64 mine, .string calls, .string peer, .int .i64 both], .string data] w (StepOK w (handR st name cookie flags mine calls peer both data) (handC (handB st name cookie flags mine calls peer both))) := by
  cases hb : handB st name cookie flags mine calls peer both
  · unfold handR
    rw [hb]
    exact sStepNo st name cookie flags mine calls peer both data w hn hc hca hpe hd hb
  · obtain ⟨h1, h2, h3, h4, h5, h6, h7⟩ := handB_parts hb
    unfold handR
    rw [hb]
    change Calls _ _ _ _ (StepOK w (hearsR st name cookie flags mine calls peer both data) 0)
    rcases (show st = 0 ∨ st = 1 ∨ st = 2 ∨ st = 3 ∨ st = 4 ∨ st = 5 ∨ st = 6 by omega) with rfl | rfl | rfl | rfl | rfl | rfl | rfl
    · exact sStep0 name cookie flags mine calls peer both data w hn h1 h2 h3 h4 h5 hca hpe hd hb
    · exact sStep1 name cookie flags mine calls peer both data w hn h1 h2 h3 h4 h5 hca hpe hd hb
    · exact sStep2 name cookie flags mine calls peer both data w hn h1 h2 h3 h4 h5 hca hpe hd hb
    · exact sStep3 name cookie flags mine calls peer both data w hn h1 h2 h3 h4 h5 hca hpe hd hb
    · exact sStep4 name cookie flags mine calls peer both data w hn h1 h2 h3 h4 h5 hca hpe hd hb
    · exact sStep5 name cookie flags mine calls peer both data w hn h1 h2 h3 h4 h5 hca hpe hd hb
    · exact sStep6 name cookie flags mine calls peer both data w hn h1 h2 h3 h4 h5 hca hpe hd hb
end Go.Proofs.YtlopbheahedofaaDoor.Fn
