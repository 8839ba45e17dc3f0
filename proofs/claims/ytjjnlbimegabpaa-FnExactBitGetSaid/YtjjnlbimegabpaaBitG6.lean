/- The bits of a packed row are the row's. Conditions: those of each theorem. -/
import Derived.Test.YtjjnlbimegabpaaBitG5
set_option linter.unusedVariables false
namespace Go.Proofs.Ytjjnlbimegabpaa.Fn
open Go.RowKit Go.Proofs.Ytjjnlbimegabpaa.Lib Go.Proofs.Ytjjnlbimegabpaa.Plan

theorem div_low (q b P M : Nat) (hP : 0 < P) (hb : b ≤ 1) : (q * (P * 2) + b * P) / (P * 2 * M) = q * (P * 2) / (P * 2 * M) := by
  rw [← Nat.div_div_eq_div_mul (q * (P * 2) + b * P) (P * 2) M, ← Nat.div_div_eq_div_mul (q * (P * 2)) (P * 2) M]
  have e : (q * (P * 2) + b * P) / (P * 2) = q * (P * 2) / (P * 2) := by
    rw [Nat.mul_div_cancel _ (by omega), Nat.add_comm, Nat.add_mul_div_right _ _ (by omega), Nat.div_eq_of_lt, Nat.zero_add]
    have : b = 0 ∨ b = 1 := by omega
    rcases this with rfl | rfl <;> omega
  rw [e]
theorem top_bit {row : List Int} (h : Bit01 row) (j r : Nat) : ∀ T, r < T → T ≤ 8 → topB row j T / 2 ^ (7 - r) % 2 = row.getD (8 * j + r) 0
  | 0, h0, _ => by omega
  | T + 1, h1, h8 => by
    obtain ⟨q, hq, _⟩ := topB_mult h j T (by omega)
    have hP : 0 < 2 ^ (7 - T) := Nat.pow_pos (by omega)
    obtain ⟨b, hb, hb1⟩ : ∃ b : Nat, row.getD (8 * j + T) 0 = (b : Int) ∧ b ≤ 1 := by
      rcases h (8 * j + T) with e | e
      · exact ⟨0, e, by omega⟩
      · exact ⟨1, e, by omega⟩
    have e1 : topB row j (T + 1) = ((q * (2 ^ (7 - T) * 2) + b * 2 ^ (7 - T) : Nat) : Int) := by
      rw [topB, hq, hb, show 8 - T = (7 - T) + 1 by omega, Nat.pow_succ]
      simp
    have e2 : (2 : Int) ^ (7 - r) = ((2 ^ (7 - r) : Nat) : Int) := by simp
    by_cases hr : r = T
    · subst hr
      rw [e1, e2, hb, ← Int.natCast_ediv]
      have : (q * (2 ^ (7 - r) * 2) + b * 2 ^ (7 - r)) / 2 ^ (7 - r) = 2 * q + b := by
        rw [show q * (2 ^ (7 - r) * 2) + b * 2 ^ (7 - r) = (2 * q + b) * 2 ^ (7 - r) by rw [Nat.add_mul, Nat.mul_comm (2 ^ (7 - r)) 2, ← Nat.mul_assoc, Nat.mul_comm q 2], Nat.mul_div_cancel _ hP]
      rw [this]
      omega
    · have ih := top_bit h j r T (by omega) (by omega)
      rw [hq, e2, ← Int.natCast_ediv, show 8 - T = (7 - T) + 1 by omega, Nat.pow_succ] at ih
      rw [e1, e2, ← Int.natCast_ediv]
      have e3 : 2 ^ (7 - r) = 2 ^ (7 - T) * 2 * 2 ^ (T - 1 - r) := by
        rw [← Nat.pow_succ, ← Nat.pow_add]
        congr 1
        omega
      rw [e3, div_low q b (2 ^ (7 - T)) (2 ^ (T - 1 - r)) hP hb1, ← e3]
      exact ih
theorem rowI_packS (row : List Int) (h : Bit01 row) : rowI (packS row) row.length = row := by
  refine List.ext_getElem? fun i => ?_
  by_cases hi : i < row.length
  · have hj : i / 8 < (row.length + 7) / 8 := by omega
    have hr := topB_range h (i / 8) (min (row.length - 8 * (i / 8)) 8) (by omega)
    have e : (rowI (packS row) row.length)[i]? = some (bitI (packS row) i) := by simp [rowI, hi]
    have hb : ((packS row).data.toList.getD (i / 8) 0).toNat = (topB row (i / 8) (min (row.length - 8 * (i / 8)) 8)).toNat := by
      rw [packS, strOfNums_data, List.getD_eq_getElem?_getD, List.getElem?_map, packN_get _ _ _ hj]
      show (UInt8.ofNat _).toNat = _
      rw [UInt8.toNat_ofNat']
      exact Nat.mod_eq_of_lt (by omega)
    rw [e, bitI, hb, Int.toNat_of_nonneg hr.1, top_bit h (i / 8) (i % 8) _ (by omega) (by omega), show 8 * (i / 8) + i % 8 = i by omega, List.getD_eq_getElem?_getD, List.getElem?_eq_getElem hi]
    rfl
  · rw [List.getElem?_eq_none (by rw [rowI_length]; omega), List.getElem?_eq_none (by omega)]
end Go.Proofs.Ytjjnlbimegabpaa.Fn
