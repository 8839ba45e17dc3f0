/- Words used by all walks of this seat: facts set aside, rows of bytes, numbers as bytes. Conditions: none. -/
import Derived.WalkKit
import Derived.Laws.BytesArg
import Derived.KernelRfl
import Derived.Deep.Draws
import Derived.Lib.ConvBytes
set_option linter.unusedVariables false
namespace Go.Proofs.Ytdldgchkinflmaa.Lib
open Go.RowKit

/-- A fact that the walk's simp doesn't look into. -/
structure Aside (p : Prop) : Prop where mk :: (out : p)
theorem ret_int {k : IntKind} {a b : Int} (h : a = b) : Ending.returned (.int k a) = .returned (.int k b) := by rw [h]
theorem ret_bool {a b : Bool} (h : a = b) : Ending.returned (.bool a) = .returned (.bool b) := by rw [h]
theorem ret_str {a b : ByteArray} (h : a = b) : Ending.returned (.string a) = .returned (.string b) := by rw [h]
theorem below_later {w W W' : World} (h : Below w.heap.size w W) (h' : Below W.heap.size W W') : Below w.heap.size w W' := h.trans (h'.mono h.size)
theorem pw_below {w w' : World} {row : Option Nat} (h : w.grownBy w' row) (hr : ∀ k, row = some k → w.heap.size ≤ k := by intro k hk; cases hk) : Below w.heap.size w w' :=
  (Below.refl _ _).grown h (Nat.le_refl _) hr
/-- All that was there reads as it did: two rules that the walk uses by itself. -/
theorem bcell {W w1 : World} (hb : Below W.heap.size W w1) : (∀ b o, b < W.heap.size → w1.cell? ⟨b, o, none⟩ = W.cell? ⟨b, o, none⟩) ∧ (∀ b o, b < W.heap.size → w1.frozen? ⟨b, o, none⟩ = W.frozen? ⟨b, o, none⟩) :=
  ⟨fun b o h => hb.cell (p := ⟨b, o, none⟩) h, fun b o h => hb.frozen (p := ⟨b, o, none⟩) h⟩
theorem add_plain (g j : Nat) : (⟨g, 0, none⟩ : Addr).add j = ⟨g, j, none⟩ := by unfold Addr.add; split <;> simp_all
theorem wrap64_id {n : Int} (h0 : -9223372036854775808 ≤ n) (h1 : n ≤ 9223372036854775807) : wrap64 n = n := by
  unfold wrap64
  omega

/-! ### a block known whole -/
def Blk (w : World) (g : Nat) (T : TypeId) (cs : List Value) : Prop := w.heap[g]? = some (.cells cs.toArray T (0, 0))
theorem Blk.lt {w : World} {g : Nat} {T : TypeId} {cs : List Value} (h : Blk w g T cs) : g < w.heap.size := (Array.getElem?_eq_some_iff.1 h).1
theorem Blk.cell {w : World} {g : Nat} {T : TypeId} {cs : List Value} (h : Blk w g T cs) (j : Nat) : w.cell? ⟨g, j, none⟩ = cs[j]? := by
  unfold Blk at h
  simp [World.cell?, h]
theorem Blk.free {w : World} {g : Nat} {T : TypeId} {cs : List Value} (h : Blk w g T cs) (j : Nat) : w.frozen? ⟨g, j, none⟩ = false := by
  unfold Blk at h
  simp [World.frozen?, h]
theorem Blk.set {w : World} {g : Nat} {T : TypeId} {cs : List Value} (h : Blk w g T cs) (j : Nat) (v : Value) : Blk (w.setCell ⟨g, j, none⟩ v) g T (cs.set j v) := by
  unfold Blk at h ⊢
  simp [World.setCell, Array.getElem?_modify, h]
theorem Blk.far {w : World} {g : Nat} {T : TypeId} {cs : List Value} (h : Blk w g T cs) {p : Addr} (hp : g ≠ p.block) (v : Value) : Blk (w.setCell p v) g T cs := (Below.heap_setCell w p v g hp).trans h
theorem Blk.alloc {w : World} {g : Nat} {T : TypeId} {cs : List Value} (h : Blk w g T cs) (o : Obj) : Blk (w.alloc o) g T cs := (Below.heap_alloc w o g h.lt).trans h
theorem Blk.drew {w : World} {g : Nat} {T : TypeId} {cs : List Value} (h : Blk w g T cs) : Blk w.drew g T cs := h
theorem Blk.drewN {w : World} {g : Nat} {T : TypeId} {cs : List Value} (h : Blk w g T cs) (n : Nat) : Blk (w.drewN n) g T cs := h
theorem Blk.grown {w w1 : World} {g : Nat} {T : TypeId} {cs : List Value} {row : Option Nat} (h : Blk w g T cs) (hg : w.grownBy w1 row) (hne : some g ≠ row) : Blk w1 g T cs := (hg.block g h.lt hne).trans h
theorem Blk.below {w w1 : World} {g : Nat} {T : TypeId} {cs : List Value} (h : Blk w g T cs) (hb : Below w.heap.size w w1) : Blk w1 g T cs := (hb.block g h.lt).trans h
theorem Blk.new (w : World) (T : TypeId) (cs : List Value) : Blk (w.alloc (.cells cs.toArray T)) w.heap.size T cs := by
  unfold Blk
  exact heap_alloc_new w _
theorem grown_refl (w : World) (row : Option Nat) : w.grownBy w row := ⟨rfl, rfl, rfl, Nat.le_refl _, fun _ _ _ => rfl⟩
theorem grown_trans {w w1 w2 : World} {row : Option Nat} (h : w.grownBy w1 row) (k : w1.grownBy w2 row) : w.grownBy w2 row :=
  ⟨k.os.trans h.os, k.tape.trans h.tape, k.output.trans h.output, Nat.le_trans h.size k.size, fun i hi hne => (k.block i (Nat.lt_of_lt_of_le hi h.size) hne).trans (h.block i hi hne)⟩
theorem grown_set {w w1 : World} {g : Nat} (h : w.grownBy w1 (some g)) (j : Nat) (v : Value) : w.grownBy (w1.setCell ⟨g, j, none⟩ v) (some g) :=
  grown_trans h ⟨rfl, rfl, rfl, by simp [World.setCell], fun k _ hne => Below.heap_setCell _ _ _ _ (fun e => hne (by rw [e]))⟩
theorem grown_alloc {w w1 : World} {row : Option Nat} (h : w.grownBy w1 row) (o : Obj) : w.grownBy (w1.alloc o) row := grown_trans h (World.grownBy_alloc w1 o row)
theorem grown_drew {w w1 : World} {row : Option Nat} (h : w.grownBy w1 row) : w.grownBy w1.drew row := ⟨h.os, h.tape, h.output, h.size, h.block⟩
theorem grown_drewN {w w1 : World} {row : Option Nat} (h : w.grownBy w1 row) (n : Nat) : w.grownBy (w1.drewN n) row := ⟨h.os, h.tape, h.output, h.size, h.block⟩
theorem grown_below {w w1 w2 : World} {row : Option Nat} (h : w.grownBy w1 row) (k : Below w1.heap.size w1 w2) : w.grownBy w2 row :=
  grown_trans h ⟨k.os, k.tape, k.output, k.size, fun i hi _ => k.block i hi⟩
/-- What was written is a block of the call's own. -/
theorem below_grown {w w1 w2 : World} {g : Nat} (h : Below w.heap.size w w1) (k : w1.grownBy w2 (some g)) (hg : w.heap.size ≤ g) : Below w.heap.size w w2 :=
  h.grown k h.size (fun k hk => by injection hk with hk; omega)

/-! ### bytes -/
/-- Whole numbers as cells of a row of bytes. -/
def cu8 (l : List Int) : List Value := l.map (Value.int .u8)
theorem cu8_length (l : List Int) : (cu8 l).length = l.length := List.length_map ..
theorem cu8_set (l : List Int) (i : Nat) (x : Int) : (cu8 l).set i (.int .u8 x) = cu8 (l.set i x) := by simp [cu8, List.map_set]
theorem made_u8 {w : World} {base E n : Nat} {v : Value} (h : w.ownsRow base E 1 v n (madeCells (Value.int .u8 0).cells (n * 1)).toList) : Aside (w.ownsRow base E 1 v n (cu8 (List.replicate n 0))) := ⟨by
  simp only [Value.cells, Nat.mul_one, toList_madeCells_one] at h
  simpa [cu8] using h⟩
theorem own_str {P : Program} {w : World} {base n : Nat} {e' src dst e : TypeId} {v : Value} {xs : List Int} (hs : P.underlying src = some (.slice e)) (he : P.underlying e = some (.int .u8)) (hd : P.underlying dst = some .string)
    (h : w.ownsRow base e' 1 v n (cu8 xs)) : (convert src dst v).run P w = .ok (.string (strOfNums xs)) w := by
  have hl : xs.length = n := by have := h.1; simpa [cu8] using this
  rcases h.2 with ⟨rfl, rfl⟩ | ⟨g, cap, cur, rfl, _⟩
  · obtain rfl : xs = [] := List.eq_nil_of_length_eq_zero hl
    exact run_convert_bytes_nil w src e hs he 0 0 dst hd
  · refine run_convert_bytes_arg w src e hs he g 0 n cap xs hl (fun i hi => ?_) dst hd
    have hc := h.cells (g := g) rfl i (.int .u8 (xs.getD i 0)) (by simp [cu8, List.getElem?_eq_getElem (show i < xs.length by omega), List.getD_eq_getElem?_getD])
    rw [add_plain] at hc
    rw [Nat.zero_add]
    exact hc

/-- []byte(s): a new row that reads as s. -/
theorem conv_bytes {P : Program} (w : World) {src dst e : TypeId} (s : ByteArray) (hs : P.underlying src = some .string) (hd : P.underlying dst = some (.slice e)) (he : P.underlying e = some (.int .u8)) :
    ∃ c2 w2, (convert src dst (.string s)).run P w = .ok (.slice (some ⟨w.heap.size, 0, none⟩) s.size c2) w2 ∧ Below w.heap.size w w2 ∧ w2.heap.size = w.heap.size + 1 ∧
      (∀ (j : Nat) (hj : j < s.size), w2.cell? ⟨w.heap.size, j, none⟩ = some (.int .u8 (s[j].toNat : Int))) := by
  refine ⟨_, _, Go.Lib.run_convert_string_bytes w src dst e s hs hd he, ⟨rfl, rfl, rfl, by rw [Go.Lib.bytesWorld_size]; omega, fun k hk => Go.Lib.bytesWorld_at_old w e s k hk⟩, Go.Lib.bytesWorld_size _ _ _, fun j hj => ?_⟩
  rw [Go.Lib.bytesWorld_cell w e s j hj, List.getD_eq_getElem?_getD, List.getElem?_eq_getElem (by simpa using hj)]
  rfl

/-! ### numbers as bytes -/
/-- The low bytes of a number, the greatest first. -/
def be : Nat → Int → List Int
  | 0, _ => []
  | s + 1, n => be s (n / 256) ++ [n % 256]
theorem be_length : ∀ (s : Nat) (n : Int), (be s n).length = s
  | 0, _ => rfl
  | s + 1, n => by rw [be, List.length_append, be_length s]; rfl
theorem set_replicate (j : Nat) (x : Int) (tail : List Int) : (List.replicate (j + 1) (0 : Int) ++ tail).set j x = List.replicate j 0 ++ (x :: tail) := by
  rw [List.replicate_succ', List.append_assoc, List.set_append_right _ _ (by simp)]
  simp
theorem pow256 (i : Nat) : (2 : Int) ^ (8 * i) = 256 ^ i := by rw [Int.pow_mul]; rfl
theorem shr_at2 (n : Int) (i : Nat) (h0 : 0 ≤ n) (h1 : n ≤ 9223372036854775807) : IntKind.u64.wrap n / 2 ^ (8 * i) = n / 256 ^ i := by
  rw [pow256, IntWalk.u64_in n ⟨h0, by omega⟩]
/-- The text of those bytes. -/
def bes (s : Nat) (n : Int) : ByteArray := strOfNums (be s n)
theorem bes_size (s : Nat) (n : Int) : (bes s n).size = s := by rw [bes, strOfNums_size, be_length]

theorem i64_or_nat (a b : Nat) (ha : a < 9223372036854775808) (hb : b < 9223372036854775808) : bits .or .i64 (a : Int) (b : Int) = ((a ||| b : Nat) : Int) := by
  have hx : a ||| b < 2 ^ 63 := Nat.or_lt_two_pow (by omega) (by omega)
  show IntKind.i64.wrap ((BitVec.ofInt 64 (a : Int) ||| BitVec.ofInt 64 (b : Int)).toNat : Int) = _
  rw [BitVec.toNat_or, ofInt_u64 a (by omega), ofInt_u64 b (by omega), IntKind.wrap_i64]
  omega
theorem i64_join (y c : Int) (h0 : 0 ≤ y) (h1 : y < 281474976710656) (c0 : 0 ≤ c) (c1 : c < 256) : bits .or .i64 (y * 256) c = y * 256 + c := by
  obtain ⟨a, rfl⟩ := Int.eq_ofNat_of_zero_le h0
  obtain ⟨b, rfl⟩ := Int.eq_ofNat_of_zero_le c0
  rw [show (a : Int) * 256 = ((a * 256 : Nat) : Int) by omega, i64_or_nat _ _ (by omega) (by omega), nat_join 8 _ _ (by omega) (by omega)]
  omega
theorem ext_toList (s : ByteArray) (a b : Nat) : (s.extract a b).data.toList = (s.data.toList.drop a).take (b - a) := by
  rw [ByteArray.data_extract, Array.toList_extract, List.extract_eq_take_drop]
theorem ext_list {a b : ByteArray} (h : a.toList = b.toList) : a = b := by
  rw [ByteArray.toList_eq, ByteArray.toList_eq] at h
  obtain ⟨⟨a⟩⟩ := a
  obtain ⟨⟨b⟩⟩ := b
  simpa using h
theorem app_toList (s t : ByteArray) : (s ++ t).data.toList = s.data.toList ++ t.data.toList := by simp
theorem bes_length (s : Nat) (n : Int) : (bes s n).data.toList.length = s := by rw [bes, strOfNums_data, List.length_map, be_length]
/-- The number that bytes write, the greatest first. -/
def numOf (l : List UInt8) : Int := l.foldl (fun n c => n * 256 + (c.toNat : Int)) 0
theorem numOf_snoc (l : List UInt8) (c : UInt8) : numOf (l ++ [c]) = numOf l * 256 + (c.toNat : Int) := by
  simp only [numOf, List.foldl_append, List.foldl_cons, List.foldl_nil]
theorem numOf_range (l : List UInt8) : 0 ≤ numOf l ∧ numOf l < 256 ^ l.length := by
  suffices ∀ l : List UInt8, 0 ≤ numOf l.reverse ∧ numOf l.reverse < 256 ^ l.length by
    have h := this l.reverse
    rwa [List.reverse_reverse, List.length_reverse] at h
  intro l
  induction l with
  | nil => exact ⟨by decide, by decide⟩
  | cons c l ih =>
    rw [List.reverse_cons, numOf_snoc, List.length_cons, Int.pow_succ]
    have := c.toNat_lt
    omega
theorem numOf_lt {l : List UInt8} {k m : Nat} (h : l.length = k) (hm : k < m) (hm8 : m ≤ 7) : numOf l < 281474976710656 := by
  have := (numOf_range l).2
  rw [h] at this
  have h2 : (256 : Int) ^ k ≤ 256 ^ 6 := by
    have hk : k = 0 ∨ k = 1 ∨ k = 2 ∨ k = 3 ∨ k = 4 ∨ k = 5 ∨ k = 6 := by omega
    rcases hk with rfl | rfl | rfl | rfl | rfl | rfl | rfl <;> decide
  have h3 : (256 : Int) ^ 6 = 281474976710656 := by decide
  omega

/-- The number that a text's bytes write. -/
def numB (s : ByteArray) : Int := numOf s.data.toList
theorem numB_range (s : ByteArray) : 0 ≤ numB s ∧ numB s < 256 ^ s.size := by
  have h := numOf_range s.data.toList
  rwa [show s.data.toList.length = s.size from rfl] at h

/-! ### the number of a text -/
def hfold (h : Int) (l : List UInt8) : Int := l.foldl (fun h c => (h * 33 + (c.toNat : Int)) % 4294967296) h
theorem hfold_range (l : List UInt8) : ∀ h, 0 ≤ h → h < 4294967296 → 0 ≤ hfold h l ∧ hfold h l < 4294967296 := by
  induction l with
  | nil => intro h h0 h1; exact ⟨h0, h1⟩
  | cons c l ih =>
    intro h h0 h1
    have hm : 0 ≤ (h * 33 + (c.toNat : Int)) % 4294967296 ∧ (h * 33 + (c.toNat : Int)) % 4294967296 < 4294967296 := by omega
    exact ih _ hm.1 hm.2
theorem hfold_snoc (h : Int) (l : List UInt8) (c : UInt8) : hfold h (l ++ [c]) = (hfold h l * 33 + (c.toNat : Int)) % 4294967296 := by
  simp only [hfold, List.foldl_append, List.foldl_cons, List.foldl_nil]
theorem take_snoc (s : ByteArray) (k : Nat) (h : k < s.size) : s.data.toList.take (k + 1) = s.data.toList.take k ++ [s[k]] := by
  rw [List.take_succ_eq_append_getElem (by simpa using h)]; rfl
theorem take_all (s : ByteArray) : s.data.toList.take s.size = s.data.toList := List.take_of_length_le (by simp)
def hash (s : ByteArray) : Int := hfold 5381 s.data.toList
theorem hash_range (s : ByteArray) : 0 ≤ hash s ∧ hash s < 4294967296 := hfold_range _ _ (by omega) (by omega)

end Go.Proofs.Ytdldgchkinflmaa.Lib
