/- Words used by all walks of this seat: facts set aside, rows of bytes, numbers as bytes. Conditions: none. -/
import Derived.WalkKit
import Derived.Laws.BytesArg
import Derived.KernelRfl
set_option linter.unusedVariables false
namespace Go.Proofs.Ytjjnlbimegabpaa.Lib
open Go.RowKit

/-- A fact that the walk's simp doesn't look into. -/
structure Aside (p : Prop) : Prop where mk :: (out : p)
theorem ret_int {k : IntKind} {a b : Int} (h : a = b) : Ending.returned (.int k a) = .returned (.int k b) := by rw [h]
theorem ret_bool {a b : Bool} (h : a = b) : Ending.returned (.bool a) = .returned (.bool b) := by rw [h]
theorem ret_str {a b : ByteArray} (h : a = b) : Ending.returned (.string a) = .returned (.string b) := by rw [h]
theorem below_later {w W W' : World} (h : Below w.heap.size w W) (h' : Below W.heap.size W W') : Below w.heap.size w W' := h.trans (h'.mono h.size)
theorem pw_below {w w' : World} {row : Option Nat} (h : w.grownBy w' row) (hr : ∀ k, row = some k → w.heap.size ≤ k := by intro k hk; cases hk) : Below w.heap.size w w' :=
  (Below.refl _ _).grown h (Nat.le_refl _) hr
theorem add_plain (g j : Nat) : (⟨g, 0, none⟩ : Addr).add j = ⟨g, j, none⟩ := by unfold Addr.add; split <;> simp_all
theorem wrap64_id {n : Int} (h0 : -9223372036854775808 ≤ n) (h1 : n ≤ 9223372036854775807) : wrap64 n = n := by
  unfold wrap64
  omega

/-! ### bytes -/
/-- Whole numbers as cells of a row of bytes. -/
def cu8 (l : List Int) : List Value := l.map (Value.int .u8)
theorem cu8_length (l : List Int) : (cu8 l).length = l.length := List.length_map ..
theorem cu8_set (l : List Int) (i : Nat) (x : Int) : (cu8 l).set i (.int .u8 x) = cu8 (l.set i x) := by simp [cu8, List.map_set]
theorem made_u8 {w : World} {base E n : Nat} {v : Value} (h : w.ownsRow base E 1 v n (madeCells (Value.int .u8 0).cells (n * 1)).toList) : Aside (w.ownsRow base E 1 v n (cu8 (List.replicate n 0))) := ⟨by
  simp only [Value.cells, Nat.mul_one, toList_madeCells_one] at h
  simpa [cu8] using h⟩
theorem own_str {P : Program} {w : World} {base n : Nat} {e' src dst e : TypeId} {v : Value} {xs : List Int} (hs : P.underlying src = some (.slice e)) (he : P.underlying e = some (.int .u8)) (hd : P.underlying dst = some .string)
    (h : w.ownsRow base e' 1 v n (cu8 xs)) : (convert src dst v).run P w = .ok (.string (strOfNums xs)) w := by
  have hl : xs.length = n := by have := h.1; simpa [cu8] using this
  rcases h.2 with ⟨rfl, rfl⟩ | ⟨g, cap, cur, rfl, _⟩
  · obtain rfl : xs = [] := List.eq_nil_of_length_eq_zero hl
    exact run_convert_bytes_nil w src e hs he 0 0 dst hd
  · refine run_convert_bytes_arg w src e hs he g 0 n cap xs hl (fun i hi => ?_) dst hd
    have hc := h.cells (g := g) rfl i (.int .u8 (xs.getD i 0)) (by simp [cu8, List.getElem?_eq_getElem (show i < xs.length by omega), List.getD_eq_getElem?_getD])
    rw [add_plain] at hc
    rw [Nat.zero_add]
    exact hc

/-! ### numbers as bytes -/
/-- The low bytes of a number, the greatest first. -/
def be : Nat → Int → List Int
  | 0, _ => []
  | s + 1, n => be s (n / 256) ++ [n % 256]
theorem be_length : ∀ (s : Nat) (n : Int), (be s n).length = s
  | 0, _ => rfl
  | s + 1, n => by rw [be, List.length_append, be_length s]; rfl
theorem set_replicate (j : Nat) (x : Int) (tail : List Int) : (List.replicate (j + 1) (0 : Int) ++ tail).set j x = List.replicate j 0 ++ (x :: tail) := by
  rw [List.replicate_succ', List.append_assoc, List.set_append_right _ _ (by simp)]
  simp
theorem pow256 (i : Nat) : (2 : Int) ^ (8 * i) = 256 ^ i := by rw [Int.pow_mul]; rfl
theorem shr_at2 (n : Int) (i : Nat) (h0 : 0 ≤ n) (h1 : n ≤ 9223372036854775807) : IntKind.u64.wrap n / 2 ^ (8 * i) = n / 256 ^ i := by
  rw [pow256, IntWalk.u64_in n ⟨h0, by omega⟩]
/-- The text of those bytes. -/
def bes (s : Nat) (n : Int) : ByteArray := strOfNums (be s n)
theorem bes_size (s : Nat) (n : Int) : (bes s n).size = s := by rw [bes, strOfNums_size, be_length]

/-! ### the number of a text -/
def hfold (h : Int) (l : List UInt8) : Int := l.foldl (fun h c => (h * 33 + (c.toNat : Int)) % 4294967296) h
theorem hfold_range (l : List UInt8) : ∀ h, 0 ≤ h → h < 4294967296 → 0 ≤ hfold h l ∧ hfold h l < 4294967296 := by
  induction l with
  | nil => intro h h0 h1; exact ⟨h0, h1⟩
  | cons c l ih =>
    intro h h0 h1
    have hm : 0 ≤ (h * 33 + (c.toNat : Int)) % 4294967296 ∧ (h * 33 + (c.toNat : Int)) % 4294967296 < 4294967296 := by omega
    exact ih _ hm.1 hm.2
theorem hfold_snoc (h : Int) (l : List UInt8) (c : UInt8) : hfold h (l ++ [c]) = (hfold h l * 33 + (c.toNat : Int)) % 4294967296 := by
  simp only [hfold, List.foldl_append, List.foldl_cons, List.foldl_nil]
theorem take_snoc (s : ByteArray) (k : Nat) (h : k < s.size) : s.data.toList.take (k + 1) = s.data.toList.take k ++ [s[k]] := by
  rw [List.take_succ_eq_append_getElem (by simpa using h)]; rfl
theorem take_all (s : ByteArray) : s.data.toList.take s.size = s.data.toList := List.take_of_length_le (by simp)
def hash (s : ByteArray) : Int := hfold 5381 s.data.toList
theorem hash_range (s : ByteArray) : 0 ≤ hash s ∧ hash s < 4294967296 := hfold_range _ _ (by omega) (by omega)

end Go.Proofs.Ytjjnlbimegabpaa.Lib
