/- Walk of the program's get. Conditions: those of each theorem. -/
import Derived.Test.YtjjnlbimegabpaaBitG1
set_option linter.unusedVariables false
namespace Go.Proofs.Ytjjnlbimegabpaa.Fn
open Go.RowKit Go.Proofs.Ytjjnlbimegabpaa.Lib Go.Proofs.Ytjjnlbimegabpaa.Plan

/-- The value of a field of n bits whose number without a sign is x. -/
def signI (x n : Nat) (signed : Bool) : Int := if signed && decide (0 < n) && decide (2 ^ (n - 1) ≤ x) then (x : Int) - 2 ^ n else x
theorem wrap_pow (i : Nat) (h : i ≤ 49) : IntKind.i64.wrap ((2 : Int) ^ i) = 2 ^ i := by
  have hp : (2 : Nat) ^ i ≤ 562949953421312 := by
    have : (2 : Nat) ^ i ≤ 2 ^ 49 := Nat.pow_le_pow_right (by omega) h
    omega
  have e2 : ((2 ^ i : Nat) : Int) = (2 : Int) ^ i := by simp
  rw [← e2, IntKind.wrap_i64]
  generalize 2 ^ i = y at hp
  omega
theorem sign_cases (x k : Nat) (h : x < 2 ^ k) : 0 < k → (2 ^ (k - 1) ≤ x → ((x : Int) / 2 ^ (k - 1) == 1) = true) ∧ (¬ 2 ^ (k - 1) ≤ x → ((x : Int) / 2 ^ (k - 1) == 1) = false) := by
  intro h0
  obtain ⟨m, rfl⟩ : ∃ m, k = m + 1 := ⟨k - 1, by omega⟩
  rw [Nat.add_sub_cancel]
  rw [Nat.pow_succ] at h
  have hp : 0 < 2 ^ m := Nat.pow_pos (by omega)
  have e2 : (x : Int) / 2 ^ m = ((x / 2 ^ m : Nat) : Int) := by simp
  rw [e2]
  constructor
  · intro hle
    have : x / 2 ^ m = 1 := by
      refine Nat.div_eq_of_lt_le ?_ ?_
      · omega
      · omega
    rw [this]
    rfl
  · intro hle
    rw [Nat.div_eq_of_lt (by omega)]
    rfl
set_option maxRecDepth 100000 in
set_option maxHeartbeats 2000000 in
theorem get (len : Int) (s : ByteArray) (start size : Nat) (signed little : Bool) (w : World) (hs : size ≤ 49) (hin : start + size ≤ 32000) (hsz : start + size ≤ 8 * s.size) :
    Calls Try.prog 60 #[.agg #[.int .i64 len, .string s], .int .i64 start, .int .i64 size, .bool signed, .bool little] w fun e w' => e = .returned (.int .i64 (signI (fieldN (fieldR s start size) little) size signed)) ∧ Below w.heap.size w w' := by
  have HL := Aside.mk (order_length size little hs)
  have HS := Aside.mk hsz
  clear hsz
  go_enter Try.func60, Try.ntmps60
  go_wp2_with fail
  refine (bitOrder size little _ hs).mono ?_
  rintro e W1 ⟨gl, cap, rfl, hgl, hrow, hb1⟩
  have K0 := Aside.mk ((Blk.newAt w 27 [.int .i64 len, .string s] rfl).below hb1)
  have C1 := Aside.mk (below_later ((Below.refl w.heap.size w).alloc (Nat.le_refl _) (.cells #[.int .i64 len, .string s] 27)) hb1)
  have HR := Aside.mk hrow
  clear hb1 hgl hrow
  go_wp2_with fail
  go_loopw [18, 11, 12, 13] (fun i v _ _ wr => ∃ (k x : Nat), k ≤ size ∧ i = .int .i64 k ∧ v = .int .i64 x ∧ x < 562949953421312 ∧ Aside (x = orK s start size little k) ∧ Aside (Below W1.heap.size W1 wr)) (fun i _ _ _ _ => size - (intOf i).toNat)
  case atStart => exact ⟨0, 0, Nat.zero_le _, rfl, rfl, by omega, ⟨rfl⟩, ⟨Below.refl _ _⟩⟩
  case round =>
    obtain ⟨k, x, hk, rfl, rfl, hx, he, hbw⟩ := hrel
    by_cases hlt : k < size
    · have hko : k < (order size little).length := by rw [HL.out]; exact hlt
      obtain ⟨i, hi⟩ : ∃ i, i = (order size little)[k] := ⟨_, rfl⟩
      have his : i < size := by rw [hi]; exact order_lt size little _ (List.getElem_mem _)
      have hc : wr.cell? ⟨gl, k, none⟩ = some (.int .i64 (i : Int)) := by
        rw [hbw.out.cell (p := ⟨gl, k, none⟩) HR.out.1]
        have := HR.out.2 k (by rw [ordI, List.length_map]; exact hko)
        rw [ordI_get _ _ _ hko, Nat.zero_add, ← hi] at this
        exact this
      have hsu := orK_succ s start size little k hko hlt HL.out
      rw [← he.out, ← hi] at hsu
      have hlt2 := orK_lt s start size little (k + 1) hs
      have HSU := Aside.mk hsu
      have HLT := Aside.mk hlt2
      have KW := Aside.mk (K0.out.below hbw.out)
      clear hi hko hsu hlt2 he
      go_wp2_with (first | (refine wpList_load_blk rfl 27 _ rfl w.heap.size [.int .i64 len, .string s] rfl 27 _ KW.out Try.underlying27 rfl (by kernel_rfl) ?_) | fail)
      rw [show ((start : Int) + (k : Int)) = ((start + k : Nat) : Int) by omega]
      refine (bit len s (start + k) _ (by have := HS.out; omega) (by omega)).mono ?_
      rintro e w2 ⟨rfl, hb2⟩
      have B2 := Aside.mk (below_later hbw.out hb2)
      have hbr := bitI_range s (start + k)
      have hcase : bitI s (start + k) = 0 ∨ bitI s (start + k) = 1 := by omega
      clear hbr hb2 hc hbw KW
      rcases hcase with hz | hz
      · rw [hz] at HSU ⊢
        have HX : Aside (x = orK s start size little (k + 1)) := ⟨by have := HSU.out; simpa using this.symm⟩
        clear HSU HLT hz
        go_wp2_with fail
        go_roundw
        case rel => exact ⟨k + 1, x, by omega, by go_num, rfl, hx, HX, B2⟩
        case measure => first | (simp [intOf]; done) | (simp [intOf]; omega)
      · rw [hz] at HSU ⊢
        have hx2 : x ||| 2 ^ i = orK s start size little (k + 1) := by have := HSU.out; simpa using this.symm
        have HX : Aside (x ||| 2 ^ i = orK s start size little (k + 1)) := ⟨hx2⟩
        have hx3 : x ||| 2 ^ i < 562949953421312 := by rw [hx2]; exact HLT.out
        have hp : (2 : Nat) ^ i < 9223372036854775808 := by
          have : (2 : Nat) ^ i ≤ 2 ^ 49 := Nat.pow_le_pow_right (by omega) (by omega)
          omega
        have hor := i64_or_nat x (2 ^ i) (by omega) hp
        have e2 : ((2 ^ i : Nat) : Int) = (2 : Int) ^ i := by simp
        rw [e2] at hor
        clear e2
        have hpi : (1 : Int) * 2 ^ i = 2 ^ i := Int.one_mul _
        have hwr := wrap_pow i (by omega)
        clear HSU HLT hz hx2 hp
        go_wp2_with fail
        go_roundw
        case rel => exact ⟨k + 1, x ||| 2 ^ i, by omega, by go_num, rfl, hx3, HX, B2⟩
        case measure => first | (simp [intOf]; done) | (simp [intOf]; omega)
    · obtain rfl : k = size := by omega
      have hxe : x = fieldN (fieldR s start k) little := by rw [he.out, orK_all s start k little hs]
      have hxl : x < 2 ^ k := by
        have := fieldN_lt (fieldR s start k) little (by rw [fieldR_length]; exact hs) (fieldR_le s start k)
        rw [fieldR_length] at this
        rw [hxe]
        exact this
      have HXE := Aside.mk hxe
      have B2 := Aside.mk (below_later C1.out hbw.out)
      have HK := Aside.mk (sign_cases x k hxl)
      have HX := Aside.mk hxl
      have hp49 : (2 : Nat) ^ k ≤ 562949953421312 := by
        have : (2 : Nat) ^ k ≤ 2 ^ 49 := Nat.pow_le_pow_right (by omega) hs
        omega
      have hsub : IntKind.i64.wrap ((x : Int) - 2 ^ k) = (x : Int) - 2 ^ k := by
        have e2 : ((2 ^ k : Nat) : Int) = (2 : Int) ^ k := by simp
        rw [← e2, IntKind.wrap_i64]
        generalize 2 ^ k = y at hp49
        omega
      have hpi : (1 : Int) * 2 ^ k = 2 ^ k := Int.one_mul _
      have hwr := wrap_pow k (by omega)
      have e3 : ((k : Int) - 1).toNat = k - 1 := by omega
      clear hxe he hbw hxl C1 K0
      cases signed
      · go_wp2_with fail
        go_ret
        exact ⟨ret_int (by rw [← HXE.out]; rfl), B2.out⟩
      · by_cases hk0 : 0 < k
        · by_cases hle : 2 ^ (k - 1) ≤ x
          · have hq := (HK.out hk0).1 hle
            have HV : Aside (signI x k true = (x : Int) - 2 ^ k) := ⟨by rw [signI, decide_eq_true hk0, decide_eq_true hle]; rfl⟩
            clear hle
            go_wp2_with fail
            go_ret
            exact ⟨ret_int (by rw [← HXE.out, HV.out]), B2.out⟩
          · have hq := (HK.out hk0).2 hle
            have HV : Aside (signI x k true = (x : Int)) := ⟨by rw [signI, decide_eq_true hk0, decide_eq_false hle]; rfl⟩
            clear hle
            go_wp2_with fail
            go_ret
            exact ⟨ret_int (by rw [← HXE.out, HV.out]), B2.out⟩
        · have HV : Aside (signI x k true = (x : Int)) := ⟨by rw [signI, decide_eq_false hk0]; rfl⟩
          go_wp2_with fail
          go_ret
          exact ⟨ret_int (by rw [← HXE.out, HV.out]), B2.out⟩
end Go.Proofs.Ytjjnlbimegabpaa.Fn
