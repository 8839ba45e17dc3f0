/- Walks of rows of bits, the reference's. Conditions: those of each theorem. -/
import Derived.Test.YtjjnlbimegabpaaProg
import Derived.Test.YtjjnlbimegabpaaPlan
import Derived.BigQuiet
import Derived.Deep.QuietTactic
set_option linter.unusedVariables false
namespace Go.Proofs.Ytjjnlbimegabpaa.Fn
open Go.RowKit Go.Proofs.Ytjjnlbimegabpaa.Lib Go.Proofs.Ytjjnlbimegabpaa.Plan

theorem infoU8b : (Try.prog.info? 5).map (fun i => (i.zero, i.size, i.bytes)) = some (some (.int .u8 0), 1, 1) := by kernel_rfl
/-- The bit at a place of a text. -/
def bitI (s : ByteArray) (i : Nat) : Int := ((s.data.toList.getD (i / 8) 0).toNat : Int) / 2 ^ (7 - i % 8) % 2
theorem u8_and_one (a : Nat) (ha : a < 256) : bits .and .u8 (a : Int) 1 = ((a % 2 : Nat) : Int) := by
  have := u8_and_nat a 1 ha (by omega)
  rw [Nat.and_one_is_mod] at this
  exact this
def rowI (s : ByteArray) (n : Nat) : List Int := (List.range n).map (bitI s)
theorem rowI_succ (s : ByteArray) (n : Nat) : rowI s (n + 1) = rowI s n ++ [bitI s n] := by simp [rowI, List.range_succ]
theorem rowI_length (s : ByteArray) (n : Nat) : (rowI s n).length = n := by simp [rowI]
theorem bitI_at (s : ByteArray) (i : Nat) (h : i / 8 < s.size) : bits .and .u8 (((s[i / 8]).toNat : Int) / 2 ^ (7 - i % 8)) 1 = bitI s i := by
  have e : ((s[i / 8]).toNat : Int) / 2 ^ (7 - i % 8) = (((s[i / 8]).toNat / 2 ^ (7 - i % 8) : Nat) : Int) := by simp
  have hl := (s[i / 8]).toNat_lt
  rw [e, u8_and_one _ (Nat.lt_of_le_of_lt (Nat.div_le_self _ _) (by omega))]
  unfold bitI
  rw [List.getD_eq_getElem?_getD, List.getElem?_eq_getElem (by simpa using h)]
  simp
  rfl
theorem bitI_range (s : ByteArray) (i : Nat) : 0 ≤ bitI s i ∧ bitI s i ≤ 1 := by unfold bitI; omega
theorem owns_mono {w : World} {base base' : Nat} {e : TypeId} {size : Nat} {v : Value} {n : Nat} {xs : List Value} (h : w.ownsRow base e size v n xs) (hb : base' ≤ base) : w.ownsRow base' e size v n xs :=
  ⟨h.1, h.2.imp id fun ⟨g, cap, cur, h1, h2, h3⟩ => ⟨g, cap, cur, h1, Nat.le_trans hb h2, h3⟩⟩
/-- A row that grows beside a box that stays. -/
def Grows (w wr : World) (T E : TypeId) (box : List Value) (v : Value) (k : Nat) (xs : List Value) : Prop :=
  (wr.ownsRow (w.heap.size + 1) E 1 v k xs ∧ v ≠ .slice none 0 0) ∧ Blk wr w.heap.size T box ∧ Below w.heap.size w wr
theorem Grows.start (w : World) (T E : TypeId) (box : List Value) : Grows w ((w.alloc (.cells box.toArray T)).alloc (.cells #[] E)) T E box (.slice (some ⟨w.heap.size + 1, 0, none⟩) 0 0) 0 [] := by
  refine ⟨⟨?_, fun h => by cases h⟩, (Blk.new w _ _).alloc _, ((Below.refl _ _).alloc (Nat.le_refl _) _).alloc (by simp) _⟩
  have h := World.ownsRow_lit (base := w.heap.size + 1) (size := 1) (e := E) (w.alloc (.cells box.toArray T)) #[] 0 (by simp) (by unfold maxLen; omega) rfl
  simpa using h
theorem Grows.next {w wr w1 : World} {T E : TypeId} {box xs ys : List Value} {v v' : Value} {k m : Nat} (h : Grows w wr T E box v k xs) (o : Obj) (hown : w1.ownsRow (w.heap.size + 1) E 1 v' m ys) (hne : v' ≠ .slice none 0 0) (hg : (wr.alloc o).grownBy w1 v.ownBlock) :
    Grows w w1 T E box v' m ys := by
  obtain ⟨h1, h2, h3⟩ := h
  refine ⟨⟨hown, hne⟩, (h2.alloc o).grown hg (fun e => ?_), ?_⟩
  · have := (h1.1.lt _ e.symm).1
    omega
  · refine (h3.alloc h3.size o).grown hg (by have := h3.size; simp; omega) (fun k hk => ?_)
    have := (h1.1.lt _ hk).1
    omega
theorem Blk.alloc_size (w : World) (o : Obj) : (w.alloc o).heap.size = w.heap.size + 1 := by simp
/-- Whole numbers that lie in a row of bytes. -/
def RowAt (w : World) (g off : Nat) (xs : List Int) : Prop := g < w.heap.size ∧ ∀ j, j < xs.length → w.cell? ⟨g, off + j, none⟩ = some (.int .u8 (xs.getD j 0))
theorem Grows.row {w wr : World} {T : TypeId} {box : List Value} {v : Value} {k : Nat} {xs : List Int} (h : Grows w wr T 5 box v k (cu8 xs)) : ∃ g cap, v = .slice (some ⟨g, 0, none⟩) xs.length cap ∧ RowAt wr g 0 xs ∧ xs.length ≤ cap := by
  obtain ⟨⟨h1, hne⟩, _⟩ := h
  have hl : xs.length = k := by have := h1.1; simpa [cu8] using this
  rcases h1.2 with ⟨rfl, rfl⟩ | ⟨g, cap, cur, rfl, hb, hg, hnc, _⟩
  · exact absurd rfl hne
  · subst hl
    refine ⟨g, cap, rfl, ⟨(Array.getElem?_eq_some_iff.1 hg).1, fun j hj => ?_⟩, hnc⟩
    have hc := h1.cells (g := g) rfl j (.int .u8 (xs.getD j 0)) (by simp [cu8, List.getElem?_eq_getElem hj, List.getD_eq_getElem?_getD])
    rw [add_plain] at hc
    rw [Nat.zero_add]
    exact hc
theorem cu8_snoc (l : List Int) (x : Int) : cu8 l ++ [Value.int .u8 x] = cu8 (l ++ [x]) := by simp [cu8]
theorem one_at (g : Nat) (x : Value) (w : World) (T : TypeId) (hg : w.heap.size = g) : ∀ j u, [x][j]? = some u → (w.alloc (.cells #[x] T)).cell? ((⟨g, 0, none⟩ : Addr).add j) = some u := by
  intro j u h
  match j, h with
  | 0, h =>
    subst hg
    simp at h
    subst h
    rw [add_plain]
    simp
set_option maxRecDepth 100000 in
set_option maxHeartbeats 1000000 in
theorem l02Row (n : Nat) (s : ByteArray) (w : World) (hn : n ≤ 32000) (hs : n ≤ 8 * s.size) :
    Calls Try.prog 43 #[.agg #[.int .i64 n, .string s]] w fun e w' => ∃ g cap, e = .returned (.slice (some ⟨g, 0, none⟩) n cap) ∧ RowAt w' g 0 (rowI s n) ∧ n ≤ cap ∧ Below w.heap.size w w' := by
  obtain ⟨i0, hi, hz0, hz1, hz2⟩ := info_parts infoU8b
  have HI := Aside.mk hi
  have HB := Aside.mk (bitI_at s)
  clear hi
  go_enter Try.func43, Try.ntmps43
  go_wp2_with fail
  go_loopw [3, 4] (fun v i wr => ∃ k : Nat, k ≤ n ∧ i = .int .i64 k ∧ Aside (Grows w wr 27 5 [.int .i64 n, .string s] v k (cu8 (rowI s k)))) (fun _ i _ => n - (intOf i).toNat)
  case atStart =>
    exact ⟨0, Nat.zero_le _, rfl, ⟨Grows.start w _ _ _⟩⟩
  case round =>
    obtain ⟨k, hk, rfl, hg⟩ := hrel
    have c0 := hg.out.2.1.cell 0
    have c1 := hg.out.2.1.cell 1
    by_cases hlt : k < n
    · have hb := HB.out k (by omega)
      have e3 : k / 8 < s.size := by omega
      have hsz := hg.out.2.2.size
      have e0 : ∃ q : Nat, q = k / 8 := ⟨_, rfl⟩
      go_wp2_with (at_builtin; go_loud (refine wpList_append_own _ rfl _ _ 70 rfl (w.heap.size + 1) 5 i0 (.int .u8 0) 1 1 Try.underlying70 HI.out hz0 hz1 hz2 rfl (by decide) _ _ _ rfl (hg.out.1.1.alloc _) ⟨wr.heap.size, 0, none⟩ 1 1 [.int .u8 (bitI s k)] rfl rfl (one_at wr.heap.size _ wr 5 rfl) ?c2 ?c3 ?c4 ?c5 ?_))
      case c2 => intro u hu; simp at hu; subst hu; rfl
      case c3 => unfold maxLen; omega
      case c4 => omega
      case c5 => rw [Blk.alloc_size]; have := hg.out.2.1.lt; omega
      intro v' w1 hown' hgrow hnn
      rw [cu8_snoc, ← rowI_succ] at hown'
      have R := Aside.mk (hg.out.next _ hown' hnn hgrow)
      clear hown' hgrow hg c0 c1 hb e3
      go_wp2
      go_roundw
      case rel => exact ⟨k + 1, by omega, by go_num, R⟩
      case measure => simp [intOf]; omega
    · obtain rfl : k = n := by omega
      go_wp2
      go_ret
      obtain ⟨g, cap, rfl, hr, hnc⟩ := hg.out.row
      rw [rowI_length] at hnc ⊢
      exact ⟨g, cap, rfl, hr, hnc, hg.out.2.2⟩

/-! ### bits as bytes -/
/-- The first t bits of byte j of a row of bits. -/
def topB (row : List Int) (j : Nat) : Nat → Int
  | 0 => 0
  | t + 1 => topB row j t + row.getD (8 * j + t) 0 * 2 ^ (7 - t)
def Bit01 (row : List Int) : Prop := ∀ i, row.getD i 0 = 0 ∨ row.getD i 0 = 1
theorem topB_mult {row : List Int} (h : Bit01 row) (j : Nat) : ∀ t, t ≤ 8 → ∃ q : Nat, topB row j t = ((q * 2 ^ (8 - t) : Nat) : Int) ∧ q * 2 ^ (8 - t) + 2 ^ (8 - t) ≤ 256
  | 0, _ => ⟨0, by simp [topB], by simp⟩
  | t + 1, ht => by
    obtain ⟨q, h1, h2⟩ := topB_mult h j t (by omega)
    have e : 8 - t = (7 - t) + 1 := by omega
    rw [e, Nat.pow_succ] at h1 h2
    have e2 : 8 - (t + 1) = 7 - t := by omega
    have hq : q * (2 ^ (7 - t) * 2) = 2 * q * 2 ^ (7 - t) := by rw [Nat.mul_comm (2 ^ (7 - t)) 2, ← Nat.mul_assoc, Nat.mul_comm q 2]
    rw [hq] at h1 h2
    rw [topB, e2, h1]
    rcases h (8 * j + t) with hb | hb
    · refine ⟨2 * q, ?_, by omega⟩
      rw [hb, Int.zero_mul, Int.add_zero]
    · refine ⟨2 * q + 1, ?_, by rw [Nat.add_mul, Nat.one_mul]; omega⟩
      rw [hb, Int.one_mul, Nat.add_mul, Nat.one_mul]
      simp
theorem topB_or {row : List Int} (h : Bit01 row) (j t : Nat) (ht : t < 8) : bits .or .u8 (topB row j t) (row.getD (8 * j + t) 0 * 2 ^ (7 - t)) = topB row j (t + 1) := by
  obtain ⟨q, h1, h2⟩ := topB_mult h j t (by omega)
  have e : 8 - t = (7 - t) + 1 := by omega
  have hp : 0 < 2 ^ (7 - t) := Nat.pow_pos (by omega)
  rw [e, Nat.pow_succ] at h1 h2
  rw [topB, h1]
  rcases h (8 * j + t) with hb | hb
  · rw [hb, Int.zero_mul]
    rw [show (0 : Int) = ((0 : Nat) : Int) from rfl, u8_or_nat _ _ (by omega) (by omega), Nat.or_zero]
    simp
  · rw [hb, Int.one_mul, show (2 : Int) ^ (7 - t) = ((2 ^ (7 - t) : Nat) : Int) by simp, u8_or_nat _ _ (by omega) (by omega),
      nat_join (7 - t + 1) _ _ (by rw [Nat.pow_succ]; exact Nat.mul_mod_left _ _) (by rw [Nat.pow_succ]; omega)]
    omega
theorem topB_range {row : List Int} (h : Bit01 row) (j t : Nat) (ht : t ≤ 8) : 0 ≤ topB row j t ∧ topB row j t < 256 := by
  obtain ⟨q, h1, h2⟩ := topB_mult h j t ht
  have hp : 0 < 2 ^ (8 - t) := Nat.pow_pos (by omega)
  rw [h1]
  omega
/-- The bytes of a row of bits, its first k bits filled in. -/
def packN (row : List Int) (k : Nat) : List Int := (List.range ((row.length + 7) / 8)).map (fun j => topB row j (min (k - 8 * j) 8))
theorem packN_length (row : List Int) (k : Nat) : (packN row k).length = (row.length + 7) / 8 := by simp [packN]
theorem packN_get (row : List Int) (k j : Nat) (hj : j < (row.length + 7) / 8) : (packN row k)[j]? = some (topB row j (min (k - 8 * j) 8)) := by simp [packN, hj]
theorem packN_at (row : List Int) (k : Nat) (hk : k < row.length) : (packN row k)[k / 8]? = some (topB row (k / 8) (k % 8)) := by
  rw [packN_get _ _ _ (by omega), show min (k - 8 * (k / 8)) 8 = k % 8 by omega]
theorem packN_zero (row : List Int) : packN row 0 = List.replicate ((row.length + 7) / 8) 0 := by
  refine List.ext_getElem? fun j => ?_
  by_cases h : j < (row.length + 7) / 8
  · rw [packN_get _ _ _ h, List.getElem?_replicate, if_pos h, show min (0 - 8 * j) 8 = 0 by omega]
    rfl
  · rw [List.getElem?_eq_none (by rw [packN_length]; omega), List.getElem?_eq_none (by rw [List.length_replicate]; omega)]
theorem packN_succ (row : List Int) (k : Nat) (hk : k < row.length) : (packN row k).set (k / 8) (topB row (k / 8) (k % 8 + 1)) = packN row (k + 1) := by
  refine List.ext_getElem? fun j => ?_
  by_cases h : j < (row.length + 7) / 8
  · rw [packN_get _ _ _ h]
    by_cases hj : j = k / 8
    · subst hj
      rw [List.getElem?_set_self (by rw [packN_length]; omega), show min (k + 1 - 8 * (k / 8)) 8 = k % 8 + 1 by omega]
    · rw [List.getElem?_set_ne (fun e => hj e.symm), packN_get _ _ _ h, show min (k + 1 - 8 * j) 8 = min (k - 8 * j) 8 by omega]
  · rw [List.getElem?_eq_none (by rw [List.length_set, packN_length]; omega), List.getElem?_eq_none (by rw [packN_length]; omega)]
def packS (row : List Int) : ByteArray := strOfNums (packN row row.length)
end Go.Proofs.Ytjjnlbimegabpaa.Fn
