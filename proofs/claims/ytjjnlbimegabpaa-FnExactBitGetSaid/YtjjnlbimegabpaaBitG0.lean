/- Bits as numbers: the value of a row of bits, and what the program's or-loop gives. Conditions: those of each theorem. -/
import Derived.Test.YtjjnlbimegabpaaBitP5
set_option linter.unusedVariables false
namespace Go.Proofs.Ytjjnlbimegabpaa.Fn
open Go.RowKit Go.Proofs.Ytjjnlbimegabpaa.Lib Go.Proofs.Ytjjnlbimegabpaa.Plan

/-- A row of bits as a number, the first bit the greatest. -/
def valN (row : List Nat) : Nat := row.foldl (fun n b => n * 2 + b) 0
theorem valN_from (row : List Nat) : ∀ n, row.foldl (fun n b => n * 2 + b) n = n * 2 ^ row.length + valN row := by
  induction row with
  | nil => intro n; simp [valN]
  | cons b row ih =>
    intro n
    have e : valN (b :: row) = (0 * 2 + b) * 2 ^ row.length + valN row := ih (0 * 2 + b)
    rw [List.foldl_cons, ih, e, List.length_cons, Nat.pow_succ, Nat.zero_mul, Nat.zero_add, Nat.add_mul, Nat.mul_assoc, Nat.mul_comm 2, Nat.add_assoc]
theorem valN_cons (b : Nat) (row : List Nat) : valN (b :: row) = b * 2 ^ row.length + valN row := by
  rw [valN, List.foldl_cons, valN_from, Nat.zero_mul, Nat.zero_add]
theorem valN_snoc (row : List Nat) (b : Nat) : valN (row ++ [b]) = valN row * 2 + b := by simp [valN]
theorem valN_lt (row : List Nat) (h : ∀ b ∈ row, b ≤ 1) : valN row < 2 ^ row.length := by
  induction row with
  | nil => simp [valN]
  | cons b row ih =>
    rw [valN_cons, List.length_cons, Nat.pow_succ]
    have := ih (fun x hx => h x (List.mem_cons_of_mem _ hx))
    have hb := h b (List.mem_cons_self ..)
    have : b = 0 ∨ b = 1 := by omega
    rcases this with rfl | rfl <;> omega
theorem or_step (A B b p : Nat) (hA : A < 2 ^ p) (hb : b ≤ 1) : (A + B * 2 ^ (p + 1)) ||| (b * 2 ^ p) = A + (2 * B + b) * 2 ^ p := by
  have hp : b * 2 ^ p + A < 2 ^ (p + 1) := by
    have : b = 0 ∨ b = 1 := by omega
    rw [Nat.pow_succ]
    rcases this with rfl | rfl <;> omega
  have e1 : A + B * 2 ^ (p + 1) = B * 2 ^ (p + 1) ||| A := by
    rw [nat_join (p + 1) _ _ (Nat.mul_mod_left _ _) (by rw [Nat.pow_succ]; omega)]
    omega
  have e2 : A ||| b * 2 ^ p = b * 2 ^ p + A := by
    rw [Nat.or_comm, nat_join p _ _ (Nat.mul_mod_left _ _) hA]
  rw [e1, Nat.or_assoc, e2, nat_join (p + 1) _ _ (Nat.mul_mod_left _ _) hp, Nat.add_mul, Nat.pow_succ, Nat.mul_comm 2 B, Nat.mul_assoc, Nat.mul_comm 2 (2 ^ p)]
  omega
/-- The bits or-ed into a number at their places. -/
def orF (v : Nat) : List Nat → List Nat → Nat
  | i :: is, b :: bs => orF (v ||| b * 2 ^ i) is bs
  | _, _ => v
theorem orF_down (q A : Nat) (hA : A < 2 ^ q) : ∀ (m B : Nat) (row : List Nat) (is bs : List Nat), row.length = m → (∀ b ∈ row, b ≤ 1) →
    orF (A + B * 2 ^ (q + m)) (down q m ++ is) (row ++ bs) = orF (A + (B * 2 ^ m + valN row) * 2 ^ q) is bs
  | 0, B, row, is, bs, hl, _ => by
    obtain rfl : row = [] := List.eq_nil_of_length_eq_zero hl
    simp [down, valN]
  | m + 1, B, row, is, bs, hl, hb => by
    match row, hl with
    | b :: row, hl =>
      have hl2 : row.length = m := by simpa using hl
      have hqm : 2 ^ q ≤ 2 ^ (q + m) := Nat.pow_le_pow_right (by omega) (by omega)
      rw [down, List.cons_append, List.cons_append, orF, show q + (m + 1) = q + m + 1 by omega, or_step A B b (q + m) (by omega) (hb b (List.mem_cons_self ..)),
        orF_down q A hA m (2 * B + b) row is bs hl2 (fun x hx => hb x (List.mem_cons_of_mem _ hx)), valN_cons, hl2]
      have e : (2 * B + b) * 2 ^ m + valN row = B * 2 ^ (m + 1) + (b * 2 ^ m + valN row) := by
        rw [Nat.pow_succ, Nat.add_mul, Nat.mul_comm 2 B, Nat.mul_assoc, Nat.mul_comm 2 (2 ^ m)]
        omega
      rw [e]
/-- The value of the last d of seven groups of eight bits, on top of what was. -/
def getL (row : List Nat) : Nat → Nat → Nat
  | 0, acc => acc
  | d + 1, acc => getL row d (acc + valN ((row.drop (8 * (6 - d))).take 8) * 2 ^ (8 * (6 - d)))
theorem orF_ordL (row : List Nat) (h49 : row.length ≤ 49) (hb : ∀ b ∈ row, b ≤ 1) : ∀ d A, d ≤ 7 → A < 2 ^ (8 * (7 - d)) → orF A (ordL row.length d) (row.drop (8 * (7 - d))) = getL row d A
  | 0, A, _, _ => by
    rw [ordL, getL]
    rfl
  | d + 1, A, hd, hA => by
    obtain ⟨q, hq⟩ : ∃ q, q = 8 * (6 - d) := ⟨_, rfl⟩
    rw [ordL, getL, show 8 * (7 - (d + 1)) = 8 * (6 - d) by omega, ← hq]
    rw [show 8 * (7 - (d + 1)) = q by omega] at hA
    have hsplit : row.drop q = (row.drop q).take 8 ++ row.drop (8 * (7 - d)) := by
      rw [show 8 * (7 - d) = q + 8 by omega, ← List.drop_drop, List.take_append_drop]
    have hlen : ((row.drop q).take 8).length = min 8 (row.length - q) := by rw [List.length_take, List.length_drop]
    have hb2 : ∀ b ∈ (row.drop q).take 8, b ≤ 1 := fun b h => hb b (List.mem_of_mem_drop (List.mem_of_mem_take h))
    have h1 := orF_down q A hA (min 8 (row.length - q)) 0 ((row.drop q).take 8) (ordL row.length d) (row.drop (8 * (7 - d))) hlen hb2
    rw [Nat.zero_mul, Nat.zero_mul, Nat.add_zero, Nat.zero_add, ← hsplit] at h1
    rw [h1]
    refine orF_ordL row h49 hb d _ (by omega) ?_
    have hv := valN_lt _ hb2
    have hv2 : valN ((row.drop q).take 8) < 2 ^ 8 := Nat.lt_of_lt_of_le hv (Nat.pow_le_pow_right (by omega) (by omega))
    have e : (2 : Nat) ^ (8 * (7 - d)) = 256 * 2 ^ q := by
      rw [show 8 * (7 - d) = 8 + q by omega, Nat.pow_add]
    rw [e]
    have : (valN ((row.drop q).take 8) + 1) * 2 ^ q ≤ 256 * 2 ^ q := Nat.mul_le_mul_right _ hv2
    rw [Nat.add_mul, Nat.one_mul] at this
    omega
/-- The value of a field's bits. -/
def fieldN (row : List Nat) (little : Bool) : Nat := if little then getL row 7 0 else valN row
theorem orF_order (row : List Nat) (little : Bool) (h49 : row.length ≤ 49) (hb : ∀ b ∈ row, b ≤ 1) : orF 0 (order row.length little) row = fieldN row little := by
  unfold order fieldN
  cases little
  · have := orF_down 0 0 (by decide) row.length 0 row [] [] rfl hb
    simpa [orF] using this
  · have := orF_ordL row h49 hb 7 0 (Nat.le_refl _) (by decide)
    simpa using this
end Go.Proofs.Ytjjnlbimegabpaa.Fn
