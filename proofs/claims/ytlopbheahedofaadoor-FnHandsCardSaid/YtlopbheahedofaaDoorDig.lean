/- Walks of the functions on digits and their numbers. Conditions: those of each theorem. -/
import Derived.Test.YtlopbheahedofaaDoorProg
import Derived.Test.YtlopbheahedofaaDoorBytes
import Derived.Test.YtlopbheahedofaaDoorPlanT
import Derived.BigQuiet
import Derived.Deep.QuietTactic
import Derived.Lib.ItoaNum
import Derived.Laws.Concat
set_option linter.unusedVariables false
namespace Go.Proofs.YtlopbheahedofaaDoor.Fn
open Go.RowKit Go.Proofs.YtlopbheahedofaaDoor.Lib Go.Proofs.YtlopbheahedofaaDoor.Plan

/-- A number's decimal digits, as a text. -/
def digB (n : Nat) : ByteArray := ⟨(Go.Lib.decDigits n).toArray⟩
theorem digB_small {n : Nat} (h : n < 10) : digB n = strOfNums [48 + (n : Int)] := by
  rw [digB, Go.Lib.decDigits, dif_pos h]
  have : n = 0 ∨ n = 1 ∨ n = 2 ∨ n = 3 ∨ n = 4 ∨ n = 5 ∨ n = 6 ∨ n = 7 ∨ n = 8 ∨ n = 9 := by omega
  rcases this with h | h | h | h | h | h | h | h | h | h <;> subst h <;> rfl
theorem digB_step {n : Nat} (h : ¬ n < 10) : digB n = digB (n / 10) ++ digB (n % 10) := by
  have e : digB (n % 10) = ⟨#[UInt8.ofNat (48 + n % 10)]⟩ := by rw [digB, Go.Lib.decDigits, dif_pos (Nat.mod_lt _ (by decide))]
  rw [e]
  refine ext_list ?_
  rw [ByteArray.toList_eq, ByteArray.toList_eq, app_toList, digB, digB, Go.Lib.decDigits, dif_neg h]
theorem conv_num {w : World} {g : Nat} {k : Int} (h : Blk w g 5 [.int .u8 k]) : (convert 22 9 (.slice (some ⟨g, 0, none⟩) 1 1)).run Tryd.prog w = .ok (.string (strOfNums [k])) w := by
  exact run_convert_bytes_arg w 22 5 Tryd.underlying22 Tryd.underlying5 g 0 1 1 [k] rfl (fun i hi => by
    obtain rfl : i = 0 := by omega
    exact h.cell 0) 9 Tryd.underlying9
theorem digB_size (n : Nat) : ∀ (h : n ≤ 9223372036854775807), (digB n).size ≤ n + 1 := by
  induction n using Nat.strongRecOn with
  | ind n ih =>
  intro h
  by_cases h1 : n < 10
  · rw [digB_small h1, strOfNums_size]; simp
  · rw [digB_step h1, ByteArray.size_append]
    have e1 := ih (n / 10) (by omega) (by omega)
    have e2 : (digB (n % 10)).size = 1 := by rw [digB_small (Nat.mod_lt _ (by decide)), strOfNums_size]; rfl
    omega
set_option maxRecDepth 100000 in
set_option maxHeartbeats 1000000 in
theorem l01Digits (n : Nat) : ∀ (w : World), n ≤ 9223372036854775807 → Calls Tryd.prog 30 #[.int .i64 n] w fun e w' => e = .returned (.string (digB n)) ∧ Below w.heap.size w w' := by
  induction n using Nat.strongRecOn with
  | ind n ih =>
  intro w hn
  by_cases h : n < 10
  · have hcv := own_str (P := Tryd.prog) (xs := [48 + (n : Int)]) Tryd.underlying22 Tryd.underlying5 Tryd.underlying9 (World.ownsRow_lit (base := w.heap.size) (size := 1) (e := 5) w #[.int .u8 (48 + (n : Int))] 1 (Nat.le_refl _) (by unfold maxLen; omega) rfl)
    rw [digB_small h]
    go_enter Tryd.func30, Tryd.ntmps30
    go_wp2_with fail
    go_ret
    exact ⟨rfl, (Below.refl _ _).alloc (Nat.le_refl _) _⟩
  · have q0 : (0 : Int) ≤ n := by omega
    have q1 : (10 : Int) ≤ n := by omega
    have t1 : (n : Int).tdiv 10 = (n : Int) / 10 := Int.tdiv_eq_ediv_of_nonneg (by omega)
    have t2 : (n : Int).tmod 10 = (n : Int) % 10 := Int.tmod_eq_emod_of_nonneg (by omega)
    have t3 : IntKind.i64.wrap ((n : Int) / 10) = (n : Int) / 10 := by rw [IntKind.wrap_i64]; omega
    have t4 : IntKind.i64.wrap (48 + (n : Int) % 10) = 48 + (n : Int) % 10 := by rw [IntKind.wrap_i64]; omega
    have t5 : IntKind.u8.wrap (48 + (n : Int) % 10) = 48 + (n : Int) % 10 := IntWalk.u8_in _ ⟨by omega, by omega⟩
    have hstep := Aside.mk (digB_step h)
    have hsm : Aside (digB (n % 10) = strOfNums [48 + (n : Int) % 10]) := ⟨by
      rw [digB_small (Nat.mod_lt _ (by decide))]
      congr 2⟩
    have IH := Aside.mk (fun w => ih (n / 10) (by omega) w (by omega))
    have ee : Aside (((n / 10 : Nat) : Int) = (n : Int) / 10) := ⟨by omega⟩
    go_enter Tryd.func30, Tryd.ntmps30
    go_wp2_with fail
    refine region_tree (.yes 0 (.yes 1 (.yes 3 (.yes 4 (.yes 5 (.yes 6 (.fork 2 7 (.eff 7 (.yes 8 (.yes 9 (.yes 10 .nil)))) (.yes 8 (.eff 2 (.yes 9 (.yes 10 .nil))))))))))) (fun _ => True) (by kernel_rfl) (by kernel_rfl) (fun _ _ d _ _ h => by cases d <;> exact h) trivial ?_
    refine tree_yields ?_ rfl rfl (fun w' hS => ?_) ?_
    rotate_left
    · go_simp
      rfl
    refine tree_yields ?_ rfl rfl (fun w' hS => ?_) ?_
    rotate_left
    · go_simp
      rfl
    refine tree_yields ?_ rfl rfl (fun w' hS => ?_) ?_
    rotate_left
    · go_simp
      rfl
    refine tree_yields ?_ rfl rfl (fun w' hS => ?_) ?_
    rotate_left
    · go_simp
      rfl
    refine tree_yields ?_ rfl rfl (fun w' hS => ?_) ?_
    rotate_left
    · go_simp
      rfl
    refine tree_yields ?_ rfl rfl (fun w' hS => ?_) ?_
    rotate_left
    · go_simp
      rfl
    have hadd : ∀ (wx : World), (Op.stringOp .add (digB (n / 10)) (strOfNums [48 + (n : Int) % 10])).run Tryd.prog wx = .ok (.string (digB (n / 10) ++ strOfNums [48 + (n : Int) % 10])) wx := fun wx => run_string_add_sum (w := wx) _ _ (by
      have h1 := digB_size (n / 10) (by omega)
      rw [strOfNums_size]
      simp
      omega)
    refine ⟨?_, ?_⟩
    · refine tree_op rfl rfl (fun K hK => ?_)
      go_simp
      rw [← ee.out]
      refine (IH.out _).mono ?_
      rintro e w1 ⟨rfl, hb1⟩
      refine hK (fun _ => True) _ _ (fun _ h => h) trivial ?_
      clear hK K
      refine tree_effect rfl rfl (fun K hK => ?_)
      go_simp
      refine hK (fun w' => Blk w' w1.heap.size 5 [.int .u8 (48 + (n : Int) % 10)]) _ _ (fun _ _ => trivial) (Blk.new w1 5 [.int .u8 (48 + (n : Int) % 10)]) ?_
      clear hK K
      refine tree_yields ?_ rfl rfl (fun w' hS => ?_) ?_
      rotate_left
      · have hc := conv_num hS
        go_simp
        rfl
      refine tree_yields ?_ rfl rfl (fun w' hS => ?_) ?_
      rotate_left
      · go_simp
        rfl
      refine tree_yields ?_ rfl rfl (fun w' hS => ?_) ?_
      rotate_left
      · go_simp
        rfl
      refine tree_end ?_
      go_wp2_with fail
      go_ret
      exact ⟨ret_str (by rw [hstep.out, hsm.out]), below_later (Below.refl _ _).drew (hb1.alloc hb1.size _)⟩
    · refine tree_op rfl rfl (fun K hK => ?_)
      go_simp
      have hB0 : Blk (w.drew.alloc (.cells #[.int .u8 (48 + (n : Int) % 10)] 5)) w.heap.size 5 [.int .u8 (48 + (n : Int) % 10)] := Blk.new w.drew 5 [.int .u8 (48 + (n : Int) % 10)]
      refine hK (fun w' => Blk w' w.heap.size 5 [.int .u8 (48 + (n : Int) % 10)]) _ _ (fun _ _ => trivial) hB0 ?_
      clear hK K
      refine tree_yields ?_ rfl rfl (fun w' hS => ?_) ?_
      rotate_left
      · have hc := conv_num hS
        go_simp
        rfl
      refine tree_effect rfl rfl (fun K hK => ?_)
      go_simp
      rw [← ee.out]
      refine (IH.out _).mono ?_
      rintro e w1 ⟨rfl, hb1⟩
      refine hK (fun w' => Blk w' w.heap.size 5 [.int .u8 (48 + (n : Int) % 10)]) _ _ (fun _ h => h) (hB0.below hb1) ?_
      clear hK K
      refine tree_yields ?_ rfl rfl (fun w' hS => ?_) ?_
      rotate_left
      · go_simp
        rfl
      refine tree_yields ?_ rfl rfl (fun w' hS => ?_) ?_
      rotate_left
      · go_simp
        rfl
      refine tree_end ?_
      go_wp2_with fail
      go_ret
      exact ⟨ret_str (by rw [hstep.out, hsm.out]), below_later ((Below.refl w.heap.size w).drew.alloc (Nat.le_refl _) _) hb1⟩
end Go.Proofs.YtlopbheahedofaaDoor.Fn
