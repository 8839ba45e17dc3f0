/- Walk of the law FnExactBitPut. Conditions: those of the theorem. -/
import Derived.Test.YtjjnlbimegabpaaBitP5
set_option linter.unusedVariables false
namespace Go.Proofs.Ytjjnlbimegabpaa.Fn
open Go.RowKit Go.Proofs.Ytjjnlbimegabpaa.Lib Go.Proofs.Ytjjnlbimegabpaa.Plan

theorem putV_form (v size : Int) (little : Bool) : ∃ a b, putV v size little = [.int .i64 a, .string b] := by
  unfold putV
  split
  · exact ⟨_, _, rfl⟩
  · exact ⟨_, _, rfl⟩
set_option maxRecDepth 100000 in
theorem FnExactBitPut (v size : Int) (little : Bool) (w : World) (wv : (Lit.int .i64 v).wf = true) (ws : (Lit.int .i64 size).wf = true) :
    Calls Try.prog 8 #[.int .i64 v, .int .i64 size, .bool little] w fun e w' => e = .returned (.bool true) ∧ Below w.heap.size w w' := by
  have hv : -9223372036854775808 ≤ v ∧ v ≤ 9223372036854775807 := by
    simp [Lit.wf, IntKind.min, IntKind.max, IntKind.signed, IntKind.bits] at wv
    omega
  obtain ⟨a, b, hab⟩ := putV_form v size little
  have hc1 := fun w => sBitPut v size little w hv.1 hv.2
  have hc2 := fun w => iBitPut v size little w hv.1 hv.2
  rw [hab] at hc1 hc2
  generalize putE size = c at hc1 hc2
  have H1 := Aside.mk hc1
  have H2 := Aside.mk hc2
  clear hc1 hc2 hab hv wv ws
  go_enter Try.func8, Try.ntmps8
  go_wp2_with fail
  refine (H1.out _).mono ?_
  rintro e w1 ⟨rfl, hb1⟩
  have C1 := Aside.mk hb1
  clear hb1
  go_wp2_with fail
  refine (H2.out _).mono ?_
  rintro e w2 ⟨rfl, hb2⟩
  have K2 := Aside.mk ((Blk.newAt w1 27 [.int .i64 a, .string b] rfl).below hb2)
  have C2 := Aside.mk (below_later (C1.out.alloc C1.out.size (.cells #[.int .i64 a, .string b] 27)) hb2)
  have L2 := K2.out.lt
  clear hb2 C1
  have K3 := Aside.mk (K2.out.alloc (.cells #[.int .i64 a, .string b] 27))
  go_wp2_with (first | (refine wpList_load_blk rfl 27 _ rfl w1.heap.size [.int .i64 a, .string b] rfl 27 _ K3.out Try.underlying27 rfl (by kernel_rfl) ?_) | fail)
  refine (eqBits_refl a b _).mono ?_
  rintro e w3 ⟨rfl, hb3⟩
  have C3 := Aside.mk (below_later (C2.out.alloc C2.out.size (.cells #[.int .i64 a, .string b] 27)) hb3)
  clear hb3
  go_wp2_with fail
  go_ret
  exact ⟨rfl, C3.out⟩
end Go.Proofs.Ytjjnlbimegabpaa.Fn
