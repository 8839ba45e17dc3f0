/- The walk of the law FnExactHandOpen over the contracts of its callees. Conditions: texts of at most 2^47 bytes. -/
import Derived.Test.YtjjnlbimegabpaaHand
set_option linter.unusedVariables false
namespace Go.Proofs.Ytjjnlbimegabpaa.Fn
open Go.RowKit Go.Proofs.Ytjjnlbimegabpaa.Lib Go.Proofs.Ytjjnlbimegabpaa.Plan

set_option maxRecDepth 100000 in
set_option maxHeartbeats 1000000 in
theorem eqHand_refl (st : Int) (name cookie : ByteArray) (flags mine : Int) (calls peer : ByteArray) (both : Int) (w : World) :
    Calls Try.prog 34 #[.agg #[.int .i64 st, .string name, .string cookie, .int .i64 flags, .int .i64 mine, .string calls, .string peer, .int .i64 both], .agg #[.int .i64 st, .string name, .string cookie, .int .i64 flags, .int .i64 mine, .string calls, .string peer, .int .i64 both]] w
      fun e w' => e = .returned (.bool true) ∧ Below w.heap.size w w' := by
  go_enter Try.func34, Try.ntmps34
  go_wp2
  go_ret
  exact ⟨rfl, ((Below.refl _ _).alloc (Nat.le_refl _) _).alloc (by simp) _⟩
def handZero : List Value := [.int .i64 0, .string ⟨#[]⟩, .string ⟨#[]⟩, .int .i64 0, .int .i64 0, .string ⟨#[]⟩, .string ⟨#[]⟩, .int .i64 0]
set_option maxRecDepth 100000 in
set_option maxHeartbeats 2000000 in
theorem FnExactHandOpen (name cookie : ByteArray) (flags mine : Int) (w : World) (h1 : name.size ≤ 140737488351232) (h2 : cookie.size ≤ 140737488351232) (w0 : (Lit.int .i64 flags).wf = true) (w1 : (Lit.int .i64 mine).wf = true) :
    Calls Try.prog 10 #[.string name, .string cookie, .int .i64 flags, .int .i64 mine] w fun e w' => e = .returned (.bool true) ∧ Below w.heap.size w w' := by
  clear w0 w1
  by_cases hb1 : 1048576 < name.size
  · go_enter Try.func10, Try.ntmps10
    go_wp2
    go_ret
    exact ⟨rfl, Below.refl _ _⟩
  by_cases hb2 : 1048576 < cookie.size
  · go_enter Try.func10, Try.ntmps10
    go_wp2
    go_ret
    exact ⟨rfl, Below.refl _ _⟩
  obtain ⟨st, n, c, f, m, l, p, b, s, code, hv⟩ : ∃ st n c f m l p b s code, openV name cookie flags mine = .tuple #[.agg #[.int .i64 st, .string n, .string c, .int .i64 f, .int .i64 m, .string l, .string p, .int .i64 b], .string s, .int .i64 code] := by
    cases hb : baseB name cookie flags mine
    · exact ⟨_, _, _, _, _, _, _, _, _, _, if_neg (by rw [hb]; simp)⟩
    · exact ⟨_, _, _, _, _, _, _, _, _, _, if_pos hb⟩
  have HV := Aside.mk hv
  clear hv
  go_enter Try.func10, Try.ntmps10
  go_wp2_with fail
  refine (sHandOpen name cookie flags mine _ (by omega) (by omega)).mono ?_
  rintro e w1 ⟨rfl, hb1⟩
  rw [HV.out]
  go_wp2_with fail
  refine (iHandOpen name cookie flags mine _ (by omega) (by omega)).mono ?_
  rintro e w2 ⟨rfl, hb2⟩
  rw [HV.out]
  obtain ⟨hc, hf⟩ := bcell hb2
  have B2 := Aside.mk hb2
  have B1 := Aside.mk hb1
  have hz1 : w.heap.size ≤ w1.heap.size := hb1.size
  have hz2 : w1.heap.size < w2.heap.size := by have := hb2.size; simp at this; omega
  clear hb1 hb2
  go_wp2_with fail
  refine (eqHand_refl st n c f m l p b _).mono ?_
  rintro e w3 ⟨rfl, hb3⟩
  have B3 := Aside.mk hb3
  clear hb3
  go_wp2_with fail
  go_ret
  refine ⟨rfl, below_later (Below.alloc (below_later (B1.out.alloc B1.out.size _) B2.out) ?_ _) B3.out⟩
  have := B1.out.size
  omega
end Go.Proofs.Ytjjnlbimegabpaa.Fn
