/- Walks of BitsOK, the reference's and the program's. Conditions: those of each theorem. -/
import Derived.Test.YtjjnlbimegabpaaBits1
set_option linter.unusedVariables false
namespace Go.Proofs.Ytjjnlbimegabpaa.Fn
open Go.RowKit Go.Proofs.Ytjjnlbimegabpaa.Lib Go.Proofs.Ytjjnlbimegabpaa.Plan

theorem below_drewN {B : Nat} {a w : World} (h : Below B a w) (n : Nat) : Below B a (w.drewN n) := ⟨h.os, h.tape, h.output, h.size, h.block⟩
/-- Bits whose length fits their text. -/
def BitsFit (n : Int) (s : ByteArray) : Prop := 0 ≤ n ∧ n ≤ 32000 ∧ (s.size : Int) = (n + 7) / 8
theorem rowI_bit01 (s : ByteArray) (n : Nat) : Bit01 (rowI s n) := by
  intro i
  by_cases h : i < n
  · have : (rowI s n).getD i 0 = bitI s i := by simp [rowI, h]
    rw [this]
    have := bitI_range s i
    omega
  · left
    rw [List.getD_eq_getElem?_getD, List.getElem?_eq_none (by rw [rowI_length]; omega)]
    rfl
set_option maxRecDepth 100000 in
theorem sBitsOK_bad (n : Int) (s : ByteArray) (w : World) (h : ¬ BitsFit n s) (hz : s.size ≤ 140737488355328) :
    Calls Try.prog 14 #[.agg #[.int .i64 n, .string s]] w fun e w' => e = .returned (.bool false) ∧ Below w.heap.size w w' := by
  have H := Aside.mk h
  clear h
  have key : n < 0 ∨ (0 ≤ n ∧ 32000 < n) ∨ (0 ≤ n ∧ n ≤ 32000 ∧ (s.size : Int) ≠ (n + 7) / 8) := by
    have := H.out
    unfold BitsFit at this
    omega
  rcases key with k1 | ⟨k1, k2⟩ | ⟨k1, k2, k3⟩
  rotate_left 2
  replace k3 : ((s.size : Int) != (n + 7) / 8) = true := by simpa using k3
  all_goals
    go_enter Try.func14, Try.ntmps14
    go_wp2
    go_ret
    exact ⟨rfl, (Below.refl _ _).alloc (Nat.le_refl _) _⟩
set_option maxRecDepth 100000 in
theorem iBitsOK_bad (n : Int) (s : ByteArray) (w : World) (h : ¬ BitsFit n s) (hz : s.size ≤ 140737488355328) :
    Calls Try.prog 16 #[.agg #[.int .i64 n, .string s]] w fun e w' => e = .returned (.bool false) ∧ Below w.heap.size w w' := by
  have H := Aside.mk h
  clear h
  have key : n < 0 ∨ (0 ≤ n ∧ 32000 < n) ∨ (0 ≤ n ∧ n ≤ 32000 ∧ (s.size : Int) ≠ (n + 7) / 8) := by
    have := H.out
    unfold BitsFit at this
    omega
  rcases key with k1 | ⟨k1, k2⟩ | ⟨k1, k2, k3⟩
  rotate_left 2
  replace k3 : ((s.size : Int) != (n + 7) / 8) = true := by simpa using k3
  all_goals
    go_enter Try.func16, Try.ntmps16
    go_wp2
    go_ret
    exact ⟨rfl, (Below.refl _ _).alloc (Nat.le_refl _) _⟩
set_option maxRecDepth 100000 in
theorem sBitsOK_fit (n : Nat) (s : ByteArray) (w : World) (h1 : n ≤ 32000) (h2 : s.size = (n + 7) / 8) :
    Calls Try.prog 14 #[.agg #[.int .i64 n, .string s]] w fun e w' => e = .returned (.bool ((packS (rowI s n)).toList == s.toList)) ∧ Below w.heap.size w w' := by
  have d1 : (s.size : Int) = ((n : Int) + 7) / 8 := by omega
  have H2 := Aside.mk h2
  clear h2
  go_enter Try.func14, Try.ntmps14
  go_wp2_with fail
  have B1 := Aside.mk (Blk.new w 27 [.int .i64 n, .string s])
  have BB := Aside.mk ((Below.refl w.heap.size w).alloc (Nat.le_refl _) (.cells #[.int .i64 n, .string s] 27))
  refine region_all [(0, true), (4, true), (5, true), (1, false), (2, false), (3, true), (6, true), (7, true)] (fun w' => Blk w' w.heap.size 27 [.int .i64 n, .string s]) (by kernel_rfl) (by kernel_rfl) (fun _ _ d _ _ h => by cases d <;> exact h) B1.out.drew ?_
  refine plan_load_blk rfl rfl 27 _ rfl w.heap.size [.int .i64 n, .string s] rfl 27 _ (fun _ hS => hS) Try.underlying27 rfl (by kernel_rfl) ?_
  refine plan_yields ?_ rfl rfl (fun w' hS => ?_) ?_
  rotate_left
  · go_simp
    rfl
  refine plan_yields ?_ rfl rfl (fun w' hS => ?_) ?_
  rotate_left
  · have c1 := hS.cell 1
    go_simp
    rfl
  refine plan_effect rfl rfl (fun K hK => ?_)
  go_simp
  refine (l02Row n s _ h1 (by have := H2.out; omega)).mono ?_
  rintro e w2 ⟨g, cap, rfl, hr, _, hb2⟩
  have K2 := Aside.mk (B1.out.drew.below hb2)
  have B2 := Aside.mk (below_later BB.out.drew hb2)
  have HR := Aside.mk hr
  refine hK _ _ K2.out ?_
  clear hK K hb2 hr
  refine plan_effect rfl rfl (fun K hK => ?_)
  go_simp
  have hcall := l02Bits (rowI s n) g 0 cap w2 (by rw [rowI_length]; exact h1) (rowI_bit01 s n) HR.out
  rw [rowI_length] at hcall
  refine hcall.mono ?_
  clear hcall
  rintro e w3 ⟨rfl, hb3⟩
  have B3 := Aside.mk (below_later B2.out hb3)
  refine hK _ _ (K2.out.below hb3) ?_
  clear hK K hb3
  refine plan_yields ?_ rfl rfl (fun w' hS => ?_) ?_
  rotate_left
  · go_simp
    rfl
  refine plan_yields ?_ rfl rfl (fun w' hS => ?_) ?_
  rotate_left
  · go_simp
    rfl
  refine plan_yields ?_ rfl rfl (fun w' hS => ?_) ?_
  rotate_left
  · go_simp
    rfl
  refine plan_end ?_
  go_wp2
  go_ret
  exact ⟨rfl, B3.out⟩
def padI (s : ByteArray) (n : Nat) : Int := (((s.data.toList.getD (s.size - 1) 0).toNat % 2 ^ (8 - n % 8) : Nat) : Int)
def padB (s : ByteArray) (n : Nat) : Bool := decide (n % 8 = 0) || (padI s n == 0)
theorem pow_cases (r : Nat) (h : r < 8) : 255 / 2 ^ r = 2 ^ (8 - r) - 1 ∧ 2 ^ (8 - r) - 1 < 256 := by
  have : r = 0 ∨ r = 1 ∨ r = 2 ∨ r = 3 ∨ r = 4 ∨ r = 5 ∨ r = 6 ∨ r = 7 := by omega
  rcases this with rfl | rfl | rfl | rfl | rfl | rfl | rfl | rfl <;> decide
theorem pad_and (s : ByteArray) (n : Nat) (h : s.size - 1 < s.size) : bits .and .u8 ((s[s.size - 1]).toNat : Int) (255 / 2 ^ (n % 8)) = padI s n := by
  unfold padI
  obtain ⟨h1, h2⟩ := pow_cases (n % 8) (by omega)
  have e : (255 : Int) / 2 ^ (n % 8) = ((255 / 2 ^ (n % 8) : Nat) : Int) := by simp
  have hl := (s[s.size - 1]).toNat_lt
  rw [e, h1, u8_and_nat _ _ (by omega) h2, Nat.and_two_pow_sub_one_eq_mod, List.getD_eq_getElem?_getD, List.getElem?_eq_getElem (by simpa using h)]
  rfl
set_option maxRecDepth 100000 in
theorem iBitsOK_fit (n : Nat) (s : ByteArray) (w : World) (h1 : n ≤ 32000) (h2 : s.size = (n + 7) / 8) :
    Calls Try.prog 16 #[.agg #[.int .i64 n, .string s]] w fun e w' => e = .returned (.bool (padB s n)) ∧ Below w.heap.size w w' := by
  have d1 : (s.size : Int) = ((n : Int) + 7) / 8 := by omega
  have H2 := Aside.mk h2
  clear h2
  have e2 : (n : Int).tmod 8 = (n : Int) % 8 := Int.tmod_eq_emod_of_nonneg (by omega)
  by_cases h8 : n % 8 = 0
  · have e3 : (n : Int) % 8 = 0 := by omega
    have H8 := Aside.mk h8
    clear h8
    go_enter Try.func16, Try.ntmps16
    go_wp2_with fail
    go_quiet (fail)
    go_wp2_with fail
    go_ret
    exact ⟨ret_bool (by rw [padB, decide_eq_true H8.out]; rfl), below_drewN ((Below.refl w.heap.size w).alloc (Nat.le_refl _) _) nq⟩
  · have e3 : ((n : Int) % 8 == 0) = false := by simp; omega
    have H8 := Aside.mk h8
    have hs0 : 0 < s.size := by have := H2.out; omega
    have e4 : IntKind.i64.wrap (((n : Int) + 7) / 8 - 1) = ((n : Int) + 7) / 8 - 1 := by rw [IntKind.wrap_i64]; omega
    have e5 : (((n : Int) + 7) / 8 - 1).toNat = s.size - 1 := by omega
    have e6 : (0 : Int) ≤ ((n : Int) + 7) / 8 - 1 := by omega
    have e7 := pad_and s n (by omega)
    have e9 : ∀ wx, (Instr.index 9 (.string s) (.int .i64 (((n : Int) + 7) / 8 - 1))).run Try.prog wx = .ok (.int .u8 ((s[s.size - 1]).toNat : Int)) wx := fun wx => by
      have := run_index_string (w := wx) 9 s .i64 (((n : Int) + 7) / 8 - 1) Try.underlying9
      rw [dif_pos (by omega)] at this
      simpa only [e5] using this
    have e8 : ((n : Int) % 8).toNat = n % 8 := by omega
    clear h8
    go_enter Try.func16, Try.ntmps16
    go_wp2_with fail
    go_quiet (fail)
    go_wp2_with fail
    go_ret
    exact ⟨ret_bool (by rw [padB, decide_eq_false H8.out, Bool.false_or]), below_drewN ((Below.refl w.heap.size w).alloc (Nat.le_refl _) _) nq⟩
end Go.Proofs.Ytjjnlbimegabpaa.Fn
