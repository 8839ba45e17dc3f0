/- The walk of the law FnExactSeal over the contracts of its callees. Conditions: a text of at most 2^47 bytes. -/
import Derived.Test.YtjjnlbimegabpaaBytes
set_option linter.unusedVariables false
namespace Go.Proofs.Ytjjnlbimegabpaa.Fn
open Go.RowKit Go.Proofs.Ytjjnlbimegabpaa.Lib
set_option maxRecDepth 100000 in
theorem FnExactSeal (kind n : Int) (body : ByteArray) (w : World) (w0 : (Lit.int .i64 kind).wf = true) (w1 : (Lit.int .i64 n).wf = true) (hb : body.size ≤ 140737488351232) :
    Calls Try.prog 6 #[.int .i64 kind, .int .i64 n, .string body] w fun e w' => e = .returned (.bool true) ∧ Below w.heap.size w w' := by
  clear w0 w1
  by_cases hbig : 1048576 < body.size
  · go_enter Try.func6, Try.ntmps6
    go_wp2
    go_ret
    exact ⟨rfl, Below.refl _ _⟩
  by_cases h : SealOK kind n body
  · have H := Aside.mk h
    clear h
    go_enter Try.func6, Try.ntmps6
    go_wp2_with fail
    refine (sSeal_yes kind n body _ H.out).mono ?_
    rintro e w1 ⟨rfl, hb1⟩
    go_wp2_with fail
    refine (iSeal_yes kind n body _ H.out).mono ?_
    rintro e w2 ⟨rfl, hb2⟩
    go_wp2
    go_ret
    exact ⟨rfl, below_later hb1 hb2⟩
  · have H := Aside.mk h
    clear h
    go_enter Try.func6, Try.ntmps6
    go_wp2_with fail
    refine (sSeal_no kind n body _ H.out (by omega)).mono ?_
    rintro e w' ⟨rfl, rfl⟩
    go_wp2_with fail
    refine (iSeal_no kind n body _ H.out (by omega)).mono ?_
    rintro e w' ⟨rfl, rfl⟩
    go_wp2
    go_ret
    exact ⟨rfl, Below.refl _ _⟩
end Go.Proofs.Ytjjnlbimegabpaa.Fn
