/- Walk of the law FnExactBitGet. Conditions: those of the theorem. -/
import Derived.Test.YtjjnlbimegabpaaBitG9
set_option linter.unusedVariables false
namespace Go.Proofs.Ytjjnlbimegabpaa.Fn
open Go.RowKit Go.Proofs.Ytjjnlbimegabpaa.Lib Go.Proofs.Ytjjnlbimegabpaa.Plan

theorem bitGet_both (n : Int) (s : ByteArray) (start size : Int) (signed little : Bool) (hz : s.size ≤ 140737488355328) : ∃ a c : Int,
    (∀ w, Calls Try.prog 35 #[.agg #[.int .i64 n, .string s], .int .i64 start, .int .i64 size, .bool signed, .bool little] w fun e w' => e = .returned (.tuple #[.int .i64 a, .int .i64 c]) ∧ Below w.heap.size w w') ∧
    (∀ w, Calls Try.prog 36 #[.agg #[.int .i64 n, .string s], .int .i64 start, .int .i64 size, .bool signed, .bool little] w fun e w' => e = .returned (.tuple #[.int .i64 a, .int .i64 c]) ∧ Below w.heap.size w w') := by
  by_cases h : GetOK n s start size
  · obtain ⟨b, hb⟩ : ∃ b : Nat, start = b := Int.eq_ofNat_of_zero_le h.2.2.2.1
    obtain ⟨m, hm⟩ : ∃ m : Nat, size = m := Int.eq_ofNat_of_zero_le h.2.1
    subst hb
    subst hm
    exact ⟨_, _, fun w => sBitGet_ok n s b m signed little w h, fun w => iBitGet_ok n s b m signed little w h⟩
  · exact ⟨_, _, fun w => sBitGet_bad n s start size signed little w h hz, fun w => iBitGet_bad n s start size signed little w h hz⟩
set_option maxRecDepth 100000 in
theorem FnExactBitGet (n : Int) (s : ByteArray) (start size : Int) (signed little : Bool) (w : World) (wn : (Lit.int .i64 n).wf = true) (hz : s.size ≤ 140737488351232) (ws : (Lit.int .i64 start).wf = true) (wz : (Lit.int .i64 size).wf = true) :
    Calls Try.prog 11 #[.agg #[.int .i64 n, .string s], .int .i64 start, .int .i64 size, .bool signed, .bool little] w fun e w' => e = .returned (.bool true) ∧ Below w.heap.size w w' := by
  clear wn ws wz
  have B1 := Aside.mk (Blk.new w 24 [.int .i64 n, .string s])
  have BB := Aside.mk ((Below.refl w.heap.size w).alloc (Nat.le_refl _) (.cells #[.int .i64 n, .string s] 24))
  obtain ⟨a, c, h1, h2⟩ := bitGet_both n s start size signed little (by omega)
  have H1 := Aside.mk h1
  have H2 := Aside.mk h2
  clear h1 h2
  go_enter Try.func11, Try.ntmps11
  go_wp2_with fail
  refine (szBits n s 1048576 _ (Nat.le_refl _) (by omega)).mono ?_
  rintro e w1 ⟨rfl, hb1⟩
  have K1 := Aside.mk (B1.out.below hb1)
  have C1 := Aside.mk (below_later BB.out hb1)
  clear hb1 B1 BB
  by_cases h : s.size ≤ 1048576
  · rw [if_pos h]
    go_wp2_with (first | (refine wpList_load_blk rfl 24 _ rfl w.heap.size [.int .i64 n, .string s] rfl 24 _ K1.out Try.underlying24 rfl (by kernel_rfl) ?_) | fail)
    refine (toBits n s _).mono ?_
    rintro e w2 ⟨rfl, hb2⟩
    have K2 := Aside.mk (K1.out.below hb2)
    have C2 := Aside.mk (below_later C1.out hb2)
    clear hb2 K1 C1
    go_wp2_with fail
    refine (H1.out _).mono ?_
    rintro e w3 ⟨rfl, hb3⟩
    have K3 := Aside.mk (K2.out.below hb3)
    have C3 := Aside.mk (below_later C2.out hb3)
    clear hb3 K2 C2
    go_wp2_with (first | (refine wpList_load_blk rfl 24 _ rfl w.heap.size [.int .i64 n, .string s] rfl 24 _ K3.out Try.underlying24 rfl (by kernel_rfl) ?_) | fail)
    refine (toBits n s _).mono ?_
    rintro e w4 ⟨rfl, hb4⟩
    have C4 := Aside.mk (below_later C3.out hb4)
    clear hb4 K3 C3
    go_wp2_with fail
    refine (H2.out _).mono ?_
    rintro e w5 ⟨rfl, hb5⟩
    have C5 := Aside.mk (below_later C4.out hb5)
    clear hb5 C4
    go_wp2_with fail
    go_ret
    exact ⟨rfl, C5.out⟩
  · rw [if_neg h]
    go_wp2
    go_ret
    exact ⟨rfl, C1.out⟩
end Go.Proofs.Ytjjnlbimegabpaa.Fn
