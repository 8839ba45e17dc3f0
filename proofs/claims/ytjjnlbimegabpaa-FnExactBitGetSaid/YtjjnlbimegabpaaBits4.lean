/- Walk of the law FnExactBitsOK. Conditions: those of each theorem. -/
import Derived.Test.YtjjnlbimegabpaaBits3
set_option linter.unusedVariables false
namespace Go.Proofs.Ytjjnlbimegabpaa.Fn
open Go.RowKit Go.Proofs.Ytjjnlbimegabpaa.Lib Go.Proofs.Ytjjnlbimegabpaa.Plan

theorem Blk.newAt (w : World) (T : TypeId) (cs : List Value) {g : Nat} (h : g = w.heap.size) : Blk (w.alloc (.cells cs.toArray T)) g T cs := by
  subst h
  exact Blk.new w T cs
def okB (n : Int) (s : ByteArray) : Bool := decide (0 ≤ n ∧ n ≤ 32000 ∧ (s.size : Int) = (n + 7) / 8) && padB s n.toNat
theorem sBitsOK (n : Int) (s : ByteArray) (w : World) (hz : s.size ≤ 140737488355328) :
    Calls Try.prog 14 #[.agg #[.int .i64 n, .string s]] w fun e w' => e = .returned (.bool (okB n s)) ∧ Below w.heap.size w w' := by
  by_cases h : BitsFit n s
  · obtain ⟨h1, h2, h3⟩ := h
    obtain ⟨m, rfl⟩ := Int.eq_ofNat_of_zero_le h1
    have hc := sBitsOK_fit m s w (by omega) (by omega)
    rw [pack_same s m (by omega)] at hc
    rw [okB, decide_eq_true (show (0 : Int) ≤ m ∧ (m : Int) ≤ 32000 ∧ (s.size : Int) = ((m : Int) + 7) / 8 from ⟨h1, h2, h3⟩), Bool.true_and, Int.toNat_natCast]
    exact hc
  · rw [okB, decide_eq_false (show ¬ (0 ≤ n ∧ n ≤ 32000 ∧ (s.size : Int) = (n + 7) / 8) from h), Bool.false_and]
    exact sBitsOK_bad n s w h hz
theorem iBitsOK (n : Int) (s : ByteArray) (w : World) (hz : s.size ≤ 140737488355328) :
    Calls Try.prog 16 #[.agg #[.int .i64 n, .string s]] w fun e w' => e = .returned (.bool (okB n s)) ∧ Below w.heap.size w w' := by
  by_cases h : BitsFit n s
  · obtain ⟨h1, h2, h3⟩ := h
    obtain ⟨m, rfl⟩ := Int.eq_ofNat_of_zero_le h1
    rw [okB, decide_eq_true (show (0 : Int) ≤ m ∧ (m : Int) ≤ 32000 ∧ (s.size : Int) = ((m : Int) + 7) / 8 from ⟨h1, h2, h3⟩), Bool.true_and, Int.toNat_natCast]
    exact iBitsOK_fit m s w (by omega) (by omega)
  · rw [okB, decide_eq_false (show ¬ (0 ≤ n ∧ n ≤ 32000 ∧ (s.size : Int) = (n + 7) / 8) from h), Bool.false_and]
    exact iBitsOK_bad n s w h hz
set_option maxRecDepth 100000 in
theorem szBits (n : Int) (s : ByteArray) (left : Nat) (w : World) (hl : left ≤ 1048576) (hz : s.size ≤ 140737488355328) :
    Calls Try.prog 13 #[.agg #[.int .i64 n, .string s], .int .i64 left] w fun e w' => e = .returned (.int .i64 (if s.size ≤ left then (left : Int) - s.size else -1)) ∧ Below w.heap.size w w' := by
  by_cases h : s.size ≤ left
  · rw [if_pos h]
    go_enter Try.func13, Try.ntmps13
    go_wp2
    go_ret
    exact ⟨rfl, (Below.refl _ _).alloc (Nat.le_refl _) _⟩
  · rw [if_neg h]
    go_enter Try.func13, Try.ntmps13
    go_wp2
    go_ret
    exact ⟨rfl, (Below.refl _ _).alloc (Nat.le_refl _) _⟩
theorem toBits (n : Int) (s : ByteArray) (w : World) :
    Calls Try.prog 15 #[.agg #[.int .i64 n, .string s]] w fun e w' => e = .returned (.agg #[.int .i64 n, .string s]) ∧ Below w.heap.size w w' := by
  go_enter Try.func15, Try.ntmps15
  go_wp2_with fail
  refine bodyPost_ret (res_c rfl _ _ (w.heap.size + 1) 27 [.int .i64 n, .string s] _ rfl ((Blk.newAt (w.alloc (.cells #[.int .i64 n, .string s] 24)) 27 [.int .i64 n, .string s] (by simp)).alloc _) Try.underlying27 rfl (by kernel_rfl)) rfl ⟨rfl, ?_⟩
  exact (((Below.refl _ _).alloc (Nat.le_refl _) _).alloc (by simp) _).alloc (by simp; omega) _
set_option maxRecDepth 100000 in
theorem FnExactBitsOK (n : Int) (s : ByteArray) (w : World) (wf : (Lit.int .i64 n).wf = true) (hz : s.size ≤ 140737488351232) :
    Calls Try.prog 4 #[.agg #[.int .i64 n, .string s]] w fun e w' => e = .returned (.bool true) ∧ Below w.heap.size w w' := by
  clear wf
  have B1 := Aside.mk (Blk.new w 24 [.int .i64 n, .string s])
  have BB := Aside.mk ((Below.refl w.heap.size w).alloc (Nat.le_refl _) (.cells #[.int .i64 n, .string s] 24))
  have HO := Aside.mk (⟨_, rfl⟩ : ∃ b, b = okB n s)
  go_enter Try.func4, Try.ntmps4
  go_wp2_with fail
  refine (szBits n s 1048576 _ (Nat.le_refl _) (by omega)).mono ?_
  rintro e w1 ⟨rfl, hb1⟩
  have K1 := Aside.mk (B1.out.below hb1)
  have C1 := Aside.mk (below_later BB.out hb1)
  clear hb1 B1 BB
  by_cases h : s.size ≤ 1048576
  · rw [if_pos h]
    go_wp2_with (refine wpList_load_blk rfl 24 _ rfl w.heap.size [.int .i64 n, .string s] rfl 24 _ K1.out Try.underlying24 rfl (by kernel_rfl) ?_)
    refine (toBits n s _).mono ?_
    rintro e w2 ⟨rfl, hb2⟩
    have K2 := Aside.mk (K1.out.below hb2)
    have C2 := Aside.mk (below_later C1.out hb2)
    clear hb2 K1 C1
    go_wp2_with fail
    refine (sBitsOK n s _ (by omega)).mono ?_
    rintro e w3 ⟨rfl, hb3⟩
    have K3 := Aside.mk (K2.out.below hb3)
    have C3 := Aside.mk (below_later C2.out hb3)
    clear hb3 K2 C2
    go_wp2_with (refine wpList_load_blk rfl 24 _ rfl w.heap.size [.int .i64 n, .string s] rfl 24 _ K3.out Try.underlying24 rfl (by kernel_rfl) ?_)
    refine (toBits n s _).mono ?_
    rintro e w4 ⟨rfl, hb4⟩
    have C4 := Aside.mk (below_later C3.out hb4)
    clear hb4 K3 C3
    go_wp2_with fail
    refine (iBitsOK n s _ (by omega)).mono ?_
    rintro e w5 ⟨rfl, hb5⟩
    have C5 := Aside.mk (below_later C4.out hb5)
    clear hb5 C4
    generalize okB n s = b
    cases b
    all_goals
      go_wp2
      go_ret
      exact ⟨rfl, C5.out⟩
  · rw [if_neg h]
    go_wp2
    go_ret
    exact ⟨rfl, C1.out⟩
end Go.Proofs.Ytjjnlbimegabpaa.Fn
