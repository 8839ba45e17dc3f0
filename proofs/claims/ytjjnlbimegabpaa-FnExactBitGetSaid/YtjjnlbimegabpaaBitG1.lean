/- Walks of (Bits).bit and get. Conditions: those of each theorem. -/
import Derived.Test.YtjjnlbimegabpaaBitG0
set_option linter.unusedVariables false
namespace Go.Proofs.Ytjjnlbimegabpaa.Fn
open Go.RowKit Go.Proofs.Ytjjnlbimegabpaa.Lib Go.Proofs.Ytjjnlbimegabpaa.Plan

theorem orF_lt (n : Nat) : ∀ (is bs : List Nat) (v : Nat), v < 2 ^ n → (∀ i ∈ is, i < n) → (∀ b ∈ bs, b ≤ 1) → orF v is bs < 2 ^ n
  | [], _, v, hv, _, _ => by simpa [orF] using hv
  | _ :: _, [], v, hv, _, _ => by simpa [orF] using hv
  | i :: is, b :: bs, v, hv, hi, hb => by
    rw [orF]
    refine orF_lt n is bs _ ?_ (fun x hx => hi x (List.mem_cons_of_mem _ hx)) (fun x hx => hb x (List.mem_cons_of_mem _ hx))
    refine Nat.or_lt_two_pow hv ?_
    have h1 := hi i (List.mem_cons_self ..)
    have h2 := hb b (List.mem_cons_self ..)
    have h3 : 2 ^ i < 2 ^ n := Nat.pow_lt_pow_right (by omega) h1
    have : b = 0 ∨ b = 1 := by omega
    rcases this with rfl | rfl <;> omega
theorem fieldN_lt (row : List Nat) (little : Bool) (h49 : row.length ≤ 49) (hb : ∀ b ∈ row, b ≤ 1) : fieldN row little < 2 ^ row.length := by
  rw [← orF_order row little h49 hb]
  exact orF_lt _ _ _ _ (Nat.pow_pos (by omega)) (order_lt _ _) hb
theorem bit_and (s : ByteArray) (i : Nat) (h : i / 8 < s.size) : (bits .and .u8 ((s[i / 8]).toNat : Int) (128 / 2 ^ (i % 8)) != 0) = (bitI s i == 1) := by
  have hl := (s[i / 8]).toNat_lt
  have e : (128 : Int) / 2 ^ (i % 8) = ((2 ^ (7 - i % 8) : Nat) : Int) := by
    rw [pow_half _ (by omega)]
    simp
  have hp : 2 ^ (7 - i % 8) < 256 := by
    have : 2 ^ (7 - i % 8) ≤ 2 ^ 7 := Nat.pow_le_pow_right (by omega) (by omega)
    omega
  have hp0 : 0 < 2 ^ (7 - i % 8) := Nat.pow_pos (by omega)
  rw [e, u8_and_nat _ _ (by omega) hp, nat_bit]
  have hb : bitI s i = (((s[i / 8]).toNat / 2 ^ (7 - i % 8) % 2 : Nat) : Int) := by
    unfold bitI
    rw [List.getD_eq_getElem?_getD, List.getElem?_eq_getElem (by simpa using h)]
    simp
    rfl
  rw [hb]
  have : (s[i / 8]).toNat / 2 ^ (7 - i % 8) % 2 = 0 ∨ (s[i / 8]).toNat / 2 ^ (7 - i % 8) % 2 = 1 := by omega
  rcases this with h | h
  · rw [h]
    simp
  · rw [h]
    obtain ⟨x, hx⟩ : ∃ x, x = 2 ^ (7 - i % 8) := ⟨_, rfl⟩
    rw [← hx] at hp0 ⊢
    have : x ≠ 0 := by omega
    simpa using this
set_option maxRecDepth 100000 in
theorem bit (n : Int) (s : ByteArray) (i : Nat) (w : World) (h : i / 8 < s.size) (hi : i ≤ 40000) :
    Calls Try.prog 74 #[.agg #[.int .i64 n, .string s], .int .i64 i] w fun e w' => e = .returned (.bool (bitI s i == 1)) ∧ Below w.heap.size w w' := by
  have hb := bit_and s i h
  have e1 : IntKind.i64.wrap ((i : Int) / 8) = (i : Int) / 8 := by rw [IntKind.wrap_i64]; omega
  have e2 : (i : Int).tmod 8 = (i : Int) % 8 := Int.tmod_eq_emod_of_nonneg (by omega)
  have e5 : ((i : Int) / 8).toNat = i / 8 := by omega
  have e6 : ((i : Int) % 8).toNat = i % 8 := by omega
  have e9 : ∀ wx, (Instr.index 9 (.string s) (.int .i64 ((i : Int) / 8))).run Try.prog wx = .ok (.int .u8 ((s[i / 8]).toNat : Int)) wx := fun wx => by
    have := run_index_string (w := wx) 9 s .i64 ((i : Int) / 8) Try.underlying9
    rw [dif_pos (by omega)] at this
    simpa only [e5] using this
  go_enter Try.func74, Try.ntmps74
  go_wp2_with fail
  go_quiet (fail)
  go_wp2_with fail
  go_ret
  exact ⟨rfl, below_drewN ((Below.refl w.heap.size w).alloc (Nat.le_refl _) _) nq⟩

theorem orF_snoc : ∀ (is bs : List Nat) (v i b : Nat), is.length = bs.length → orF v (is ++ [i]) (bs ++ [b]) = orF v is bs ||| b * 2 ^ i
  | [], [], v, i, b, _ => rfl
  | _ :: is, _ :: bs, v, i, b, h => by
    rw [List.cons_append, List.cons_append, orF, orF, orF_snoc is bs _ i b (by simpa using h)]
/-- The bits of a field. -/
def fieldR (s : ByteArray) (start size : Nat) : List Nat := (List.range size).map (fun k => (bitI s (start + k)).toNat)
theorem fieldR_length (s : ByteArray) (start size : Nat) : (fieldR s start size).length = size := by simp [fieldR]
theorem fieldR_le (s : ByteArray) (start size : Nat) : ∀ b ∈ fieldR s start size, b ≤ 1 := by
  intro b h
  simp only [fieldR, List.mem_map] at h
  obtain ⟨k, _, rfl⟩ := h
  have := bitI_range s (start + k)
  omega
/-- The or-loop's number after k bits. -/
def orK (s : ByteArray) (start size : Nat) (little : Bool) (k : Nat) : Nat := orF 0 ((order size little).take k) ((fieldR s start size).take k)
theorem orK_succ (s : ByteArray) (start size : Nat) (little : Bool) (k : Nat) (h : k < (order size little).length) (hs : k < size) (ho : (order size little).length = size) :
    orK s start size little (k + 1) = orK s start size little k ||| (bitI s (start + k)).toNat * 2 ^ (order size little)[k] := by
  have hk : k < (fieldR s start size).length := by rw [fieldR_length]; exact hs
  unfold orK
  rw [List.take_succ_eq_append_getElem h, List.take_succ_eq_append_getElem hk, orF_snoc _ _ _ _ _ (by rw [List.length_take, List.length_take, fieldR_length, ho])]
  congr 2
  simp [fieldR]
theorem orK_lt (s : ByteArray) (start size : Nat) (little : Bool) (k : Nat) (hs : size ≤ 49) : orK s start size little k < 562949953421312 := by
  have h := orF_lt size ((order size little).take k) ((fieldR s start size).take k) 0 (Nat.pow_pos (by omega)) (fun i hi => order_lt size little i (List.mem_of_mem_take hi)) (fun b hb => fieldR_le s start size b (List.mem_of_mem_take hb))
  have h2 : (2 : Nat) ^ size ≤ 2 ^ 49 := Nat.pow_le_pow_right (by omega) hs
  unfold orK
  omega
theorem orK_all (s : ByteArray) (start size : Nat) (little : Bool) (hs : size ≤ 49) : orK s start size little size = fieldN (fieldR s start size) little := by
  unfold orK
  rw [List.take_of_length_le (by rw [order_length size little hs]; exact Nat.le_refl _), List.take_of_length_le (by rw [fieldR_length]; exact Nat.le_refl _)]
  have := orF_order (fieldR s start size) little (by rw [fieldR_length]; exact hs) (fieldR_le s start size)
  rw [fieldR_length] at this
  exact this
end Go.Proofs.Ytjjnlbimegabpaa.Fn
