/- Walk of the reference's l02Get on a field whose least byte comes first. Conditions: those of each theorem. -/
import Derived.Test.YtjjnlbimegabpaaBitG4
set_option linter.unusedVariables false
namespace Go.Proofs.Ytjjnlbimegabpaa.Fn
open Go.RowKit Go.Proofs.Ytjjnlbimegabpaa.Lib Go.Proofs.Ytjjnlbimegabpaa.Plan

theorem RowAt.part {w : World} {g off : Nat} {row : List Nat} (h : RowAt w g off (row.map Int.ofNat)) (q m : Nat) : RowAt w g (off + q) (((row.drop q).take m).map Int.ofNat) := by
  refine ⟨h.1, fun j hj => ?_⟩
  rw [List.length_map, List.length_take, List.length_drop] at hj
  have := h.2 (q + j) (by rw [List.length_map]; omega)
  rw [Nat.add_assoc, this]
  congr 2
  rw [List.getD_eq_getElem?_getD, List.getD_eq_getElem?_getD, List.getElem?_map, List.getElem?_map, List.getElem?_take, if_pos (by omega), List.getElem?_drop]
theorem getL_end (row : List Nat) : ∀ d, row.length ≤ 8 * (7 - d) → d ≤ 7 → ∀ x, getL row d x = x
  | 0, _, _, _ => rfl
  | d + 1, h, h7, x => by
    rw [getL, List.drop_eq_nil_of_le (by omega), List.take_nil, show valN [] = 0 from rfl, Nat.zero_mul, Nat.add_zero]
    exact getL_end row d (by omega) (by omega) x
set_option maxRecDepth 100000 in
set_option maxHeartbeats 2000000 in
theorem l02Get_little (row : List Nat) (g off cap : Nat) (signed : Bool) (w : World) (hn : row.length ≤ 49) (hb : ∀ b ∈ row, b ≤ 1) (hr : RowAt w g off (row.map Int.ofNat)) (hcap : row.length ≤ cap) :
    Calls Try.prog 59 #[.slice (some ⟨g, off, none⟩) row.length cap, .bool signed, .bool true] w fun e w' => e = .returned (.int .i64 (signI (getL row 7 0) row.length signed)) ∧ w = w' := by
  have HB := Aside.mk hb
  have HR := Aside.mk hr
  obtain ⟨n, hl⟩ : ∃ n, n = row.length := ⟨_, rfl⟩
  have HLN := Aside.mk hl
  rw [← hl] at hn hcap ⊢
  clear hb hr hl
  go_enter Try.func59, Try.ntmps59
  go_wp2_with fail
  go_loop [7, 8, 9, 10] (fun v wo at_ _ => ∃ (d x : Nat), d ≤ 7 ∧ at_ = .int .i64 (8 * (7 - d : Nat) : Nat) ∧ wo = .int .i64 (8 * (7 - d : Nat) : Nat) ∧ v = .int .i64 x ∧ x < 72057594037927936 ∧ Aside (x < 2 ^ (8 * (7 - d)) ∧ getL row d x = getL row 7 0)) (fun _ _ a _ => (56 - intOf a).toNat)
  case atStart => exact ⟨7, 0, Nat.le_refl _, rfl, rfl, rfl, by omega, ⟨by decide, rfl⟩⟩
  case round =>
    obtain ⟨d, x, hd, rfl, rfl, rfl, hx, he⟩ := hrel
    by_cases hlt : 8 * (7 - d) < n
    · obtain ⟨d, rfl⟩ : ∃ d', d = d' + 1 := ⟨d - 1, by omega⟩
      obtain ⟨q, hq⟩ : ∃ q, q = 8 * (6 - d) := ⟨_, rfl⟩
      have he1 := he.out.1
      have he2 := he.out.2
      rw [getL, ← hq] at he2
      rw [show 8 * (7 - (d + 1)) = q by omega] at hlt he1 ⊢
      have HQ := Aside.mk hq
      have hpart := HR.out.part q 8
      have hb2 : ∀ b ∈ (row.drop q).take 8, b ≤ 1 := fun b h => HB.out b (List.mem_of_mem_drop (List.mem_of_mem_take h))
      have hlen : ((row.drop q).take 8).length = min 8 (n - q) := by rw [List.length_take, List.length_drop, HLN.out]
      have hv := valN_lt _ hb2
      have hv2 : valN ((row.drop q).take 8) < 2 ^ 8 := Nat.lt_of_lt_of_le hv (Nat.pow_le_pow_right (by omega) (by omega))
      have hcall := fun cap2 W (h : W = w) => l02Get_big ((row.drop q).take 8) g (off + q) cap2 false w (by rw [hlen]; omega) hb2 hpart
      obtain ⟨V, hV⟩ : ∃ V, V = valN ((row.drop q).take 8) := ⟨_, rfl⟩
      rw [← hV] at he2 hv2
      rw [hlen, ← hV] at hcall
      have hsg : signI V (min 8 (n - q)) false = (V : Int) := rfl
      rw [hsg] at hcall
      obtain ⟨Y, hY⟩ : ∃ Y, Y = V * 2 ^ q := ⟨_, rfl⟩
      have hYI : (V : Int) * 2 ^ q = (Y : Int) := by rw [hY]; simp
      have hYl : x + Y < 256 * 2 ^ q := by
        have : (V + 1) * 2 ^ q ≤ 256 * 2 ^ q := Nat.mul_le_mul_right _ hv2
        rw [Nat.add_mul, Nat.one_mul] at this
        omega
      have hq48 : (2 : Nat) ^ q ≤ 2 ^ 48 := Nat.pow_le_pow_right (by omega) (by omega)
      have hxY : x + Y < 72057594037927936 := by omega
      rw [← hY] at he2
      have e8 : (2 : Nat) ^ (8 * (7 - d)) = 256 * 2 ^ q := by rw [show 8 * (7 - d) = 8 + q by omega, Nat.pow_add]
      have HE : Aside (x + Y < 2 ^ (8 * (7 - d)) ∧ getL row d (x + Y) = getL row 7 0) := ⟨by rw [e8]; exact hYl, he2⟩
      have hq6 : q ≤ 48 := by omega
      have HC := Aside.mk hcall
      clear hq he he1 he2 hpart hb2 hlen hv hV hcall hsg hY hYl hq48 e8 hv2
      by_cases hmin : q + 8 ≤ n
      · have hc := fun cap2 => HC.out cap2 w rfl
        rw [show min 8 (n - q) = 8 by omega] at hc
        have HC2 := Aside.mk hc
        clear hc
        go_wp2_with fail
        refine (HC2.out _).mono ?_
        rintro e w' ⟨rfl, rfl⟩
        go_wp2_with fail
        go_round
        case rel => exact ⟨d, x + Y, by omega, by (congr 1; have := HQ.out; omega), by (congr 1; have := HQ.out; omega), by go_num, hxY, HE⟩
        case measure => first | (simp [intOf]; done) | (simp [intOf]; have := HQ.out; omega)
      · have hc := fun cap2 => HC.out cap2 w rfl
        rw [show min 8 (n - q) = n - q by omega] at hc
        have HC2 := Aside.mk hc
        clear hc
        go_wp2_with fail
        refine (HC2.out _).mono ?_
        rintro e w' ⟨rfl, rfl⟩
        go_wp2_with fail
        go_round
        case rel => exact ⟨d, x + Y, by omega, by (congr 1; have := HQ.out; omega), by (congr 1; have := HQ.out; omega), by go_num, hxY, HE⟩
        case measure => first | (simp [intOf]; done) | (simp [intOf]; have := HQ.out; omega)
    · have hx0 := he.out.2
      have hxe : x = getL row 7 0 := by rw [← hx0, getL_end row d (by have := HLN.out; omega) hd]
      have hxl : x < 2 ^ n := by
        have h1 := fieldN_lt row true (by have := HLN.out; omega) HB.out
        rw [fieldN, if_pos rfl, ← HLN.out] at h1
        rw [hxe]
        exact h1
      have HXE := Aside.mk hxe
      have HG := Aside.mk (sign_ge x n hxl)
      have hp49 : (2 : Nat) ^ n ≤ 562949953421312 := by
        have : (2 : Nat) ^ n ≤ 2 ^ 49 := Nat.pow_le_pow_right (by omega) hn
        omega
      have hsub : IntKind.i64.wrap ((x : Int) - 2 ^ n) = (x : Int) - 2 ^ n := by
        have e2 : ((2 ^ n : Nat) : Int) = (2 : Int) ^ n := by simp
        rw [← e2, IntKind.wrap_i64]
        generalize 2 ^ n = y at hp49
        omega
      have hpi : (1 : Int) * 2 ^ n = 2 ^ n := Int.one_mul _
      have hwr := wrap_pow n (by omega)
      have hwr2 := wrap_pow (n - 1) (by omega)
      have e3 : ((n : Int) - 1).toNat = n - 1 := by omega
      have hlt2 : n ≤ 8 * (7 - d) := by omega
      clear hxe he hxl hp49 hx0 hlt
      cases signed
      · go_wp2_with fail
        go_ret
        exact ⟨ret_int (by rw [← HXE.out]; rfl), rfl⟩
      · by_cases hk0 : 0 < n
        · by_cases hle : 2 ^ (n - 1) ≤ x
          · have hq := (HG.out hk0 hn).1 hle
            have HV : Aside (signI x n true = (x : Int) - 2 ^ n) := ⟨by rw [signI, decide_eq_true hk0, decide_eq_true hle]; rfl⟩
            clear hle
            go_wp2_with fail
            go_ret
            exact ⟨ret_int (by rw [← HXE.out, HV.out]), rfl⟩
          · have hq := (HG.out hk0 hn).2 hle
            have HV : Aside (signI x n true = (x : Int)) := ⟨by rw [signI, decide_eq_true hk0, decide_eq_false hle]; rfl⟩
            clear hle
            go_wp2_with fail
            go_ret
            exact ⟨ret_int (by rw [← HXE.out, HV.out]), rfl⟩
        · have HV : Aside (signI x n true = (x : Int)) := ⟨by rw [signI, decide_eq_false hk0]; rfl⟩
          go_wp2_with fail
          go_ret
          exact ⟨ret_int (by rw [← HXE.out, HV.out]), rfl⟩
end Go.Proofs.Ytjjnlbimegabpaa.Fn
