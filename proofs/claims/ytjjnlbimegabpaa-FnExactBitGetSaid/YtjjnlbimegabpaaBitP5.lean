/- Walks of BitPut, the reference's and the program's, and of the law FnExactBitPut. Conditions: those of each theorem. -/
import Derived.Test.YtjjnlbimegabpaaBitP4
set_option linter.unusedVariables false
namespace Go.Proofs.Ytjjnlbimegabpaa.Fn
open Go.RowKit Go.Proofs.Ytjjnlbimegabpaa.Lib Go.Proofs.Ytjjnlbimegabpaa.Plan

def putV (v size : Int) (little : Bool) : List Value := if 0 ≤ size ∧ size ≤ 49 then [.int .i64 size, .string (packS (putI v size.toNat little))] else [.int .i64 0, .string ⟨#[]⟩]
def putE (size : Int) : Int := if 0 ≤ size ∧ size ≤ 49 then 0 else 1
theorem iBitPut (v size : Int) (little : Bool) (w : World) (h0 : -9223372036854775808 ≤ v) (h1 : v ≤ 9223372036854775807) :
    Calls Try.prog 28 #[.int .i64 v, .int .i64 size, .bool little] w fun e w' => e = .returned (.tuple #[.agg (putV v size little).toArray, .int .i64 (putE size)]) ∧ Below w.heap.size w w' := by
  have K0 := Aside.mk (Blk.newAt w 27 [.int .i64 0, .string ⟨#[]⟩] rfl)
  have C0 := Aside.mk ((Below.refl w.heap.size w).alloc (Nat.le_refl _) (.cells #[.int .i64 0, .string ⟨#[]⟩] 27))
  by_cases hs : 0 ≤ size ∧ size ≤ 49
  · rw [putV, if_pos hs, putE, if_pos hs]
    obtain ⟨s0, s1⟩ := hs
    obtain ⟨n, rfl⟩ := Int.eq_ofNat_of_zero_le s0
    rw [Int.toNat_natCast]
    have HV := Aside.mk (And.intro h0 h1)
    clear h0 h1
    go_enter Try.func28, Try.ntmps28
    go_wp2_with fail
    refine (put v n little _ HV.out.1 HV.out.2 (by omega)).mono ?_
    rintro e w1 ⟨rfl, hb1⟩
    have K1 := Aside.mk (K0.out.below hb1)
    have C1 := Aside.mk (below_later C0.out hb1)
    clear hb1 K0 C0
    go_wp2_with (refine wpList_store_blk rfl 27 _ _ rfl w.heap.size [.int .i64 n, .string (packS (putI v n little))] rfl rfl 27 _ K1.out (by kernel_rfl) rfl rfl ?_; intro w3 k3 hg3; have K4 := Aside.mk k3; have C4 := Aside.mk (below_grown C1.out hg3 (Nat.le_refl _)); clear k3 hg3)
    refine bodyPost_ret (res_ct rfl _ _ w.heap.size 27 [.int .i64 n, .string (packS (putI v n little))] _ rfl K4.out Try.underlying27 rfl (by kernel_rfl)) rfl ⟨rfl, C4.out⟩
  · rw [putV, if_neg hs, putE, if_neg hs]
    have key : size < 0 ∨ (0 ≤ size ∧ 49 < size) := by omega
    clear h0 h1 hs
    rcases key with k1 | ⟨k1, k2⟩
    all_goals
      go_enter Try.func28, Try.ntmps28
      go_wp2_with (refine wpList_store_blk rfl 27 _ _ rfl w.heap.size [.int .i64 0, .string ⟨#[]⟩] rfl rfl 27 _ K0.out (by kernel_rfl) rfl rfl ?_; intro w3 k3 hg3; have K4 := Aside.mk k3; have C4 := Aside.mk (below_grown C0.out hg3 (Nat.le_refl _)); clear k3 hg3)
      refine bodyPost_ret (res_ct rfl _ _ w.heap.size 27 [.int .i64 0, .string ⟨#[]⟩] _ rfl K4.out Try.underlying27 rfl (by kernel_rfl)) rfl ⟨rfl, C4.out⟩
theorem sBitPut (v size : Int) (little : Bool) (w : World) (h0 : -9223372036854775808 ≤ v) (h1 : v ≤ 9223372036854775807) :
    Calls Try.prog 27 #[.int .i64 v, .int .i64 size, .bool little] w fun e w' => e = .returned (.tuple #[.agg (putV v size little).toArray, .int .i64 (putE size)]) ∧ Below w.heap.size w w' := by
  have K0 := Aside.mk (Blk.newAt w 27 [.int .i64 0, .string ⟨#[]⟩] rfl)
  have C0 := Aside.mk ((Below.refl w.heap.size w).alloc (Nat.le_refl _) (.cells #[.int .i64 0, .string ⟨#[]⟩] 27))
  by_cases hs : 0 ≤ size ∧ size ≤ 49
  · rw [putV, if_pos hs, putE, if_pos hs]
    obtain ⟨s0, s1⟩ := hs
    obtain ⟨n, rfl⟩ := Int.eq_ofNat_of_zero_le s0
    rw [Int.toNat_natCast]
    have HV := Aside.mk (And.intro h0 h1)
    clear h0 h1
    go_enter Try.func27, Try.ntmps27
    go_wp2_with fail
    refine (l02Put v n little _ HV.out.1 HV.out.2 (by omega)).mono ?_
    rintro e w1 ⟨g, cap, rfl, hrow, hb1⟩
    have K1 := Aside.mk (K0.out.below hb1)
    have C1 := Aside.mk (below_later C0.out hb1)
    have HR := Aside.mk hrow
    clear hb1 K0 C0 hrow
    go_wp2_with fail
    have hcall := l02Bits (putI v n little) g 0 cap w1 (by rw [putI_length v n little (by omega)]; omega) (putI_bit01 v n little) HR.out
    rw [putI_length v n little (by omega)] at hcall
    refine hcall.mono ?_
    clear hcall
    rintro e w2 ⟨rfl, hb2⟩
    have K2 := Aside.mk (K1.out.below hb2)
    have C2 := Aside.mk (below_later C1.out hb2)
    clear hb2 K1 C1
    go_wp2_with (refine wpList_store_blk rfl 27 _ _ rfl w.heap.size [.int .i64 n, .string (packS (putI v n little))] rfl rfl 27 _ K2.out (by kernel_rfl) rfl rfl ?_; intro w3 k3 hg3; have K4 := Aside.mk k3; have C4 := Aside.mk (below_grown C2.out hg3 (Nat.le_refl _)); clear k3 hg3)
    refine bodyPost_ret (res_ct rfl _ _ w.heap.size 27 [.int .i64 n, .string (packS (putI v n little))] _ rfl K4.out Try.underlying27 rfl (by kernel_rfl)) rfl ⟨rfl, C4.out⟩
  · rw [putV, if_neg hs, putE, if_neg hs]
    have key : size < 0 ∨ (0 ≤ size ∧ 49 < size) := by omega
    clear h0 h1 hs
    rcases key with k1 | ⟨k1, k2⟩
    all_goals
      go_enter Try.func27, Try.ntmps27
      go_wp2_with (refine wpList_store_blk rfl 27 _ _ rfl w.heap.size [.int .i64 0, .string ⟨#[]⟩] rfl rfl 27 _ K0.out (by kernel_rfl) rfl rfl ?_; intro w3 k3 hg3; have K4 := Aside.mk k3; have C4 := Aside.mk (below_grown C0.out hg3 (Nat.le_refl _)); clear k3 hg3)
      refine bodyPost_ret (res_ct rfl _ _ w.heap.size 27 [.int .i64 0, .string ⟨#[]⟩] _ rfl K4.out Try.underlying27 rfl (by kernel_rfl)) rfl ⟨rfl, C4.out⟩
theorem eqBits_refl (n : Int) (s : ByteArray) (w : World) : Calls Try.prog 29 #[.agg #[.int .i64 n, .string s], .agg #[.int .i64 n, .string s]] w fun e w' => e = .returned (.bool true) ∧ Below w.heap.size w w' := by
  go_enter Try.func29, Try.ntmps29
  go_wp2
  go_ret
  exact ⟨rfl, ((Below.refl _ _).alloc (Nat.le_refl _) _).alloc (by simp) _⟩
end Go.Proofs.Ytjjnlbimegabpaa.Fn
