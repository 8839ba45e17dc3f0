/- Bits packed anew are the same text just when the bits behind the last are 0. Conditions: those of each theorem. -/
import Derived.Test.YtjjnlbimegabpaaBits2
set_option linter.unusedVariables false
namespace Go.Proofs.Ytjjnlbimegabpaa.Fn
open Go.RowKit Go.Proofs.Ytjjnlbimegabpaa.Lib Go.Proofs.Ytjjnlbimegabpaa.Plan

theorem nat_step (x p : Nat) : x / (p * 2) * (p * 2) + x / p % 2 * p = x / p * p := by
  have h : x / (p * 2) = x / p / 2 := by rw [Nat.div_div_eq_div_mul]
  rw [h, Nat.mul_comm p 2, ← Nat.mul_assoc, ← Nat.add_mul]
  congr 1
  omega
theorem topB_rowI (s : ByteArray) (n j : Nat) : ∀ t, t ≤ 8 → 8 * j + t ≤ n →
    topB (rowI s n) j t = (((s.data.toList.getD j 0).toNat / 2 ^ (8 - t) * 2 ^ (8 - t) : Nat) : Int)
  | 0, _, _ => by
    have := (s.data.toList.getD j 0).toNat_lt
    rw [Nat.div_eq_of_lt (by simpa using this)]
    simp [topB]
  | t + 1, ht, hn => by
    have hg : (rowI s n).getD (8 * j + t) 0 = bitI s (8 * j + t) := by simp [rowI, show 8 * j + t < n by omega]
    rw [topB, topB_rowI s n j t (by omega) (by omega), hg, bitI, show (8 * j + t) / 8 = j by omega, show (8 * j + t) % 8 = t by omega, show 8 - (t + 1) = 7 - t by omega, show 8 - t = (7 - t) + 1 by omega, Nat.pow_succ, ← nat_step _ (2 ^ (7 - t))]
    simp
theorem packN_rowI (s : ByteArray) (n j : Nat) (h2 : s.size = (n + 7) / 8) (hj : j < (n + 7) / 8) :
    (packN (rowI s n) n)[j]? = some (((s.data.toList.getD j 0).toNat / 2 ^ (8 - min (n - 8 * j) 8) * 2 ^ (8 - min (n - 8 * j) 8) : Nat) : Int) := by
  rw [packN_get _ _ _ (by rw [rowI_length]; exact hj), topB_rowI s n j _ (by omega) (by omega)]
theorem ofNat_same (x : UInt8) (m : Nat) (h : m ≤ x.toNat) : UInt8.ofNat ((m : Nat) : Int).toNat = x ↔ m = x.toNat := by
  have hx := x.toNat_lt
  rw [Int.toNat_natCast]
  constructor
  · intro e
    rw [← e, UInt8.toNat_ofNat']
    exact (Nat.mod_eq_of_lt (by omega)).symm
  · intro e
    rw [e]
    exact UInt8.ofNat_toNat
theorem div_same (x p : Nat) : x / p * p = x ↔ x % p = 0 := by
  have := Nat.div_add_mod x p
  rw [Nat.mul_comm] at this
  omega
theorem pack_iff (s : ByteArray) (n : Nat) (h2 : s.size = (n + 7) / 8) : (packS (rowI s n)).data.toList = s.data.toList ↔ padB s n = true := by
  have hlen : s.data.toList.length = (n + 7) / 8 := h2
  have hget : ∀ j, j < (n + 7) / 8 → s.data.toList[j]? = some (s.data.toList.getD j 0) := fun j hj => by
    rw [List.getD_eq_getElem?_getD, List.getElem?_eq_getElem (by omega)]
    rfl
  have hat : ∀ j, j < (n + 7) / 8 → ((packS (rowI s n)).data.toList[j]? = s.data.toList[j]? ↔ (s.data.toList.getD j 0).toNat % 2 ^ (8 - min (n - 8 * j) 8) = 0) := fun j hj => by
    unfold packS
    rw [strOfNums_data, rowI_length, List.getElem?_map, packN_rowI s n j h2 hj, hget j hj, Option.map_some, Option.some_inj, ofNat_same _ _ (Nat.div_mul_le_self _ _), div_same]
  have hpl : (packS (rowI s n)).data.toList.length = (n + 7) / 8 := by
    unfold packS
    rw [strOfNums_data, List.length_map, packN_length, rowI_length]
  constructor
  · intro h
    unfold padB
    by_cases h8 : n % 8 = 0
    · rw [decide_eq_true h8]
      rfl
    · have := (hat ((n + 7) / 8 - 1) (by omega)).1 (by rw [h])
      rw [show min (n - 8 * ((n + 7) / 8 - 1)) 8 = n % 8 by omega, ← h2] at this
      rw [padI, this]
      simp
  · intro h
    refine List.ext_getElem? fun j => ?_
    by_cases hj : j < (n + 7) / 8
    · rw [hat j hj]
      by_cases hm : 8 * j + 8 ≤ n
      · rw [show 8 - min (n - 8 * j) 8 = 0 by omega]
        exact Nat.mod_one _
      · unfold padB padI at h
        have hl : j = s.size - 1 := by omega
        subst hl
        simp only [Bool.or_eq_true, decide_eq_true_eq, beq_iff_eq] at h
        rw [show min (n - 8 * (s.size - 1)) 8 = n % 8 by omega]
        omega
    · rw [List.getElem?_eq_none (by omega), List.getElem?_eq_none (by omega)]
theorem pack_same (s : ByteArray) (n : Nat) (h2 : s.size = (n + 7) / 8) : ((packS (rowI s n)).toList == s.toList) = padB s n := by
  rw [ByteArray.toList_eq, ByteArray.toList_eq]
  have h := pack_iff s n h2
  cases hp : padB s n
  · rw [hp] at h
    simpa using h
  · rw [hp] at h
    simpa using h
end Go.Proofs.Ytjjnlbimegabpaa.Fn
