/- Walk of the reference's l02Get. Conditions: those of each theorem. -/
import Derived.Test.YtjjnlbimegabpaaBitG3
set_option linter.unusedVariables false
namespace Go.Proofs.Ytjjnlbimegabpaa.Fn
open Go.RowKit Go.Proofs.Ytjjnlbimegabpaa.Lib Go.Proofs.Ytjjnlbimegabpaa.Plan

theorem valN_take (row : List Nat) (k : Nat) (h : k < row.length) : valN (row.take (k + 1)) = valN (row.take k) * 2 + row[k] := by
  rw [List.take_succ_eq_append_getElem h, valN_snoc]
theorem RowAt.bitAt {w : World} {g off : Nat} {row : List Nat} (h : RowAt w g off (row.map Int.ofNat)) (k : Nat) (hk : k < row.length) : w.cell? ⟨g, off + k, none⟩ = some (.int .u8 (row[k] : Int)) := by
  have := h.2 k (by simpa using hk)
  rw [List.getD_eq_getElem?_getD, List.getElem?_map, List.getElem?_eq_getElem hk] at this
  exact this
theorem sign_ge (x n : Nat) (hx : x < 2 ^ n) (h0 : 0 < n) (hn : n ≤ 49) : ((2 ^ (n - 1) ≤ x) → decide ((2 : Int) ^ (n - 1) ≤ x) = true) ∧ (¬ (2 ^ (n - 1) ≤ x) → decide ((2 : Int) ^ (n - 1) ≤ x) = false) := by
  have e2 : ((2 ^ (n - 1) : Nat) : Int) = (2 : Int) ^ (n - 1) := by simp
  rw [← e2]
  constructor
  · intro h
    rw [decide_eq_true]
    omega
  · intro h
    rw [decide_eq_false]
    omega
set_option maxRecDepth 100000 in
set_option maxHeartbeats 2000000 in
theorem l02Get_big (row : List Nat) (g off cap : Nat) (signed : Bool) (w : World) (hn : row.length ≤ 49) (hb : ∀ b ∈ row, b ≤ 1) (hr : RowAt w g off (row.map Int.ofNat)) :
    Calls Try.prog 59 #[.slice (some ⟨g, off, none⟩) row.length cap, .bool signed, .bool false] w fun e w' => e = .returned (.int .i64 (signI (valN row) row.length signed)) ∧ w = w' := by
  have HB := Aside.mk hb
  have HR := Aside.mk hr
  obtain ⟨n, hl⟩ : ∃ n, n = row.length := ⟨_, rfl⟩
  have HLN := Aside.mk hl
  rw [← hl] at hn ⊢
  clear hb hr hl
  go_enter Try.func59, Try.ntmps59
  go_wp2_with fail
  go_loop [7, 11] (fun v i => ∃ (k x : Nat), k ≤ n ∧ i = .int .i64 k ∧ v = .int .i64 x ∧ x < 562949953421312 ∧ Aside (x = valN (row.take k))) (fun _ i => n - (intOf i).toNat)
  case atStart => exact ⟨0, 0, Nat.zero_le _, rfl, rfl, by omega, ⟨rfl⟩⟩
  case round =>
    obtain ⟨k, x, hk, rfl, rfl, hx, he⟩ := hrel
    by_cases hlt : k < n
    · have hlt2 : k < row.length := by rw [← HLN.out]; exact hlt
      have hc := HR.out.bitAt k hlt2
      have hv := valN_take row k hlt2
      rw [← he.out] at hv
      have hb1 := HB.out row[k] (List.getElem_mem _)
      have hv2 : valN (row.take (k + 1)) < 562949953421312 := by
        have h1 := valN_lt (row.take (k + 1)) (fun b h => HB.out b (List.mem_of_mem_take h))
        have h2 : (2 : Nat) ^ (row.take (k + 1)).length ≤ 2 ^ 49 := Nat.pow_le_pow_right (by omega) (by rw [List.length_take]; omega)
        omega
      rw [hv] at hv2
      have HV := Aside.mk hv.symm
      generalize row[k] = y at hc hb1 hv2 HV
      clear hv he hlt2
      go_wp2_with fail
      go_round
      case rel => exact ⟨k + 1, x * 2 + y, by omega, by go_num, by go_num, hv2, HV⟩
      case measure => first | (simp [intOf]; done) | (simp [intOf]; omega)
    · obtain rfl : k = n := by omega
      have hxe : x = valN row := by rw [he.out, HLN.out, List.take_of_length_le (Nat.le_refl _)]
      have hxl : x < 2 ^ k := by
        have := valN_lt row HB.out
        rw [← HLN.out] at this
        rw [hxe]
        exact this
      have HXE := Aside.mk hxe
      have HG := Aside.mk (sign_ge x k hxl)
      have hp49 : (2 : Nat) ^ k ≤ 562949953421312 := by
        have : (2 : Nat) ^ k ≤ 2 ^ 49 := Nat.pow_le_pow_right (by omega) hn
        omega
      have hsub : IntKind.i64.wrap ((x : Int) - 2 ^ k) = (x : Int) - 2 ^ k := by
        have e2 : ((2 ^ k : Nat) : Int) = (2 : Int) ^ k := by simp
        rw [← e2, IntKind.wrap_i64]
        generalize 2 ^ k = y at hp49
        omega
      have hpi : (1 : Int) * 2 ^ k = 2 ^ k := Int.one_mul _
      have hwr := wrap_pow k (by omega)
      have hwr2 := wrap_pow (k - 1) (by omega)
      have e3 : ((k : Int) - 1).toNat = k - 1 := by omega
      clear hxe he hxl hp49
      cases signed
      · go_wp2_with fail
        go_ret
        exact ⟨ret_int (by rw [← HXE.out]; rfl), rfl⟩
      · by_cases hk0 : 0 < k
        · by_cases hle : 2 ^ (k - 1) ≤ x
          · have hq := (HG.out hk0 hn).1 hle
            have HV : Aside (signI x k true = (x : Int) - 2 ^ k) := ⟨by rw [signI, decide_eq_true hk0, decide_eq_true hle]; rfl⟩
            clear hle
            go_wp2_with fail
            go_ret
            exact ⟨ret_int (by rw [← HXE.out, HV.out]), rfl⟩
          · have hq := (HG.out hk0 hn).2 hle
            have HV : Aside (signI x k true = (x : Int)) := ⟨by rw [signI, decide_eq_true hk0, decide_eq_false hle]; rfl⟩
            clear hle
            go_wp2_with fail
            go_ret
            exact ⟨ret_int (by rw [← HXE.out, HV.out]), rfl⟩
        · have HV : Aside (signI x k true = (x : Int)) := ⟨by rw [signI, decide_eq_false hk0]; rfl⟩
          go_wp2_with fail
          go_ret
          exact ⟨ret_int (by rw [← HXE.out, HV.out]), rfl⟩
end Go.Proofs.Ytjjnlbimegabpaa.Fn
