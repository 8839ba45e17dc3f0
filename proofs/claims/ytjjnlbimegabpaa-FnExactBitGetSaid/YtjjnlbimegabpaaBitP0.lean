/- Numbers as bits: the order of a field's places, and the walk of the reference's l02Put. Conditions: those of each theorem. -/
import Derived.Test.YtjjnlbimegabpaaBits4
set_option linter.unusedVariables false
namespace Go.Proofs.Ytjjnlbimegabpaa.Fn
open Go.RowKit Go.Proofs.Ytjjnlbimegabpaa.Lib Go.Proofs.Ytjjnlbimegabpaa.Plan

/-- The k places from lo on, the last first. -/
def down (lo : Nat) : Nat → List Nat
  | 0 => []
  | k + 1 => (lo + k) :: down lo k
/-- The last d of seven groups of eight places. -/
def ordL (size : Nat) : Nat → List Nat
  | 0 => []
  | d + 1 => down (8 * (6 - d)) (min 8 (size - 8 * (6 - d))) ++ ordL size d
def order (size : Nat) (little : Bool) : List Nat := if little then ordL size 7 else down 0 size
theorem down_lt (lo : Nat) : ∀ k, ∀ i ∈ down lo k, i < lo + k
  | 0, i, h => by cases h
  | k + 1, i, h => by
    rw [down, List.mem_cons] at h
    rcases h with rfl | h
    · omega
    · have := down_lt lo k i h
      omega
theorem ordL_lt (size : Nat) : ∀ d, ∀ i ∈ ordL size d, i < size
  | 0, i, h => by cases h
  | d + 1, i, h => by
    rw [ordL, List.mem_append] at h
    rcases h with h | h
    · by_cases h2 : size - 8 * (6 - d) = 0
      · rw [h2] at h
        cases h
      · have := down_lt _ _ i h
        omega
    · exact ordL_lt size d i h
theorem order_lt (size : Nat) (little : Bool) : ∀ i ∈ order size little, i < size := by
  intro i h
  unfold order at h
  split at h
  · exact ordL_lt size 7 i h
  · have := down_lt 0 size i h
    omega
theorem down_length (lo : Nat) : ∀ k, (down lo k).length = k
  | 0 => rfl
  | k + 1 => by rw [down, List.length_cons, down_length lo k]
theorem ordL_length (size : Nat) : ∀ d, d ≤ 7 → (ordL size d).length = size - min size (8 * (7 - d)) - (size - 56)
  | 0, _ => by rw [ordL, List.length_nil]; omega
  | d + 1, h => by
    rw [ordL, List.length_append, down_length, ordL_length size d (by omega)]
    omega
theorem order_length (size : Nat) (little : Bool) (h : size ≤ 49) : (order size little).length = size := by
  unfold order
  split
  · rw [ordL_length size 7 (by omega)]
    omega
  · exact down_length 0 size
theorem ordL_nil (size : Nat) : ∀ d, size ≤ 8 * (7 - d) → d ≤ 7 → ordL size d = []
  | 0, _, _ => rfl
  | d + 1, h, h7 => by
    rw [ordL, ordL_nil size d (by omega) (by omega), show min 8 (size - 8 * (6 - d)) = 0 by omega]
    rfl
theorem down_step (lo k size : Nat) : down lo (min (k + 1) (size - lo)) = if lo + k < size then (lo + k) :: down lo (min k (size - lo)) else down lo (min k (size - lo)) := by
  split
  · rw [show min (k + 1) (size - lo) = min k (size - lo) + 1 by omega, down, show min k (size - lo) = k by omega]
  · rw [show min (k + 1) (size - lo) = min k (size - lo) by omega]
/-- A number's bit. -/
def bitV (v : Int) (i : Nat) : Int := v / 2 ^ i % 2
theorem bitV_range (v : Int) (i : Nat) : 0 ≤ bitV v i ∧ bitV v i ≤ 1 := by unfold bitV; omega
theorem i64_and_one (v : Int) (h0 : -9223372036854775808 ≤ v) (h1 : v ≤ 9223372036854775807) : bits .and .i64 v 1 = v % 2 := by
  show IntKind.i64.wrap ((BitVec.ofInt 64 v &&& BitVec.ofInt 64 1).toNat : Int) = _
  have e : (BitVec.ofInt 64 v &&& BitVec.ofInt 64 1).toNat = (BitVec.ofInt 64 v).toNat % 2 := by
    rw [BitVec.toNat_and, show (BitVec.ofInt 64 1).toNat = 1 from rfl, Nat.and_one_is_mod]
  rw [e, IntKind.wrap_i64, BitVec.toNat_ofInt]
  omega
theorem div_range (v : Int) (h0 : -9223372036854775808 ≤ v) (h1 : v ≤ 9223372036854775807) : ∀ k : Nat, -9223372036854775808 ≤ v / 2 ^ k ∧ v / 2 ^ k ≤ 9223372036854775807
  | 0 => by simpa using ⟨h0, h1⟩
  | k + 1 => by
    have := div_range v h0 h1 k
    rw [Int.pow_succ, ← Int.ediv_ediv_of_nonneg (Int.pow_nonneg (by omega))]
    omega
def lowI (v : Int) (k : Nat) : List Int := (List.range k).map (bitV v)
theorem lowI_succ (v : Int) (k : Nat) : lowI v (k + 1) = lowI v k ++ [bitV v k] := by simp [lowI, List.range_succ]
theorem lowI_length (v : Int) (k : Nat) : (lowI v k).length = k := by simp [lowI]
theorem lowI_get (v : Int) (k i : Nat) (h : i < k) : (lowI v k).getD i 0 = bitV v i := by simp [lowI, h]
/-- The bits of a field. -/
def putI (v : Int) (size : Nat) (little : Bool) : List Int := (order size little).map (bitV v)
theorem putI_bit01 (v : Int) (size : Nat) (little : Bool) : Bit01 (putI v size little) := by
  intro i
  unfold putI
  rw [List.getD_eq_getElem?_getD, List.getElem?_map]
  cases (order size little)[i]? with
  | none => left; rfl
  | some j =>
    have := bitV_range v j
    show bitV v j = 0 ∨ bitV v j = 1
    omega
theorem putI_length (v : Int) (size : Nat) (little : Bool) (h : size ≤ 49) : (putI v size little).length = size := by
  rw [putI, List.length_map, order_length size little h]
/-- A row that grows. -/
def Grow1 (w wr : World) (E : TypeId) (v : Value) (k : Nat) (xs : List Value) : Prop := (wr.ownsRow w.heap.size E 1 v k xs ∧ v ≠ .slice none 0 0) ∧ Below w.heap.size w wr
theorem Grow1.start (w : World) (E : TypeId) : Grow1 w (w.alloc (.cells #[] E)) E (.slice (some ⟨w.heap.size, 0, none⟩) 0 0) 0 [] := by
  refine ⟨⟨?_, fun h => by cases h⟩, (Below.refl _ _).alloc (Nat.le_refl _) _⟩
  have h := World.ownsRow_lit (base := w.heap.size) (size := 1) (e := E) w #[] 0 (Nat.le_refl _) (by unfold maxLen; omega) rfl
  simpa using h
theorem Grow1.next {w wr w1 : World} {E : TypeId} {xs ys : List Value} {v v' : Value} {k m : Nat} (h : Grow1 w wr E v k xs) (o : Obj) (hown : w1.ownsRow w.heap.size E 1 v' m ys) (hne : v' ≠ .slice none 0 0) (hg : (wr.alloc o).grownBy w1 v.ownBlock) :
    Grow1 w w1 E v' m ys := by
  obtain ⟨h1, h3⟩ := h
  refine ⟨⟨hown, hne⟩, (h3.alloc h3.size o).grown hg (by have := h3.size; simp; omega) (fun k hk => ?_)⟩
  exact (h1.1.lt _ hk).1
theorem Grow1.row {w wr : World} {v : Value} {k : Nat} {xs : List Int} (h : Grow1 w wr 5 v k (cu8 xs)) : ∃ g cap, v = .slice (some ⟨g, 0, none⟩) xs.length cap ∧ RowAt wr g 0 xs := by
  obtain ⟨⟨h1, hne⟩, _⟩ := h
  have hl : xs.length = k := by have := h1.1; simpa [cu8] using this
  rcases h1.2 with ⟨rfl, rfl⟩ | ⟨g, cap, cur, rfl, hb, hg, _⟩
  · exact absurd rfl hne
  · subst hl
    refine ⟨g, cap, rfl, (Array.getElem?_eq_some_iff.1 hg).1, fun j hj => ?_⟩
    have hc := h1.cells (g := g) rfl j (.int .u8 (xs.getD j 0)) (by simp [cu8, List.getElem?_eq_getElem hj, List.getD_eq_getElem?_getD])
    rw [add_plain] at hc
    rw [Nat.zero_add]
    exact hc
set_option maxRecDepth 100000 in
set_option maxHeartbeats 2000000 in
theorem l02Put (v : Int) (size : Nat) (little : Bool) (w : World) (h0 : -9223372036854775808 ≤ v) (h1 : v ≤ 9223372036854775807) (hs : size ≤ 49) :
    Calls Try.prog 51 #[.int .i64 v, .int .i64 size, .bool little] w fun e w' => ∃ g cap, e = .returned (.slice (some ⟨g, 0, none⟩) size cap) ∧ RowAt w' g 0 (putI v size little) ∧ Below w.heap.size w w' := by
  obtain ⟨i0, hi, hz0, hz1, hz2⟩ := info_parts infoU8b
  have HI := Aside.mk hi
  have HA := Aside.mk i64_and_one
  have HV := Aside.mk (div_range v h0 h1)
  clear hi h0 h1
  go_enter Try.func51, Try.ntmps51
  go_wp2_with fail
  go_loopw [7, 8, 0] (fun lv i x wr => ∃ (k : Nat) (y : Int), k ≤ size ∧ i = .int .i64 k ∧ x = .int .i64 y ∧ Aside (y = v / 2 ^ k) ∧ Aside (Grow1 w wr 5 lv k (cu8 (lowI v k)))) (fun _ i _ _ => size - (intOf i).toNat)
  case atStart => exact ⟨0, v, Nat.zero_le _, rfl, rfl, ⟨by simp⟩, ⟨Grow1.start w _⟩⟩
  case round =>
    obtain ⟨k, y, hk, rfl, rfl, hy, hg⟩ := hrel
    by_cases hlt : k < size
    · have hr := HV.out k
      rw [← hy.out] at hr
      have hb := HA.out y hr.1 hr.2
      rw [show y % 2 = bitV v k by rw [bitV, hy.out]] at hb
      have hb2 : bitV v k % 256 = bitV v k := by have := bitV_range v k; omega
      have hsz := hg.out.2.size
      go_wp2_with (at_builtin; refine wpList_append_own _ rfl _ _ 70 rfl (w.heap.size) 5 i0 (.int .u8 0) 1 1 Try.underlying70 HI.out hz0 hz1 hz2 rfl (by decide) _ _ _ rfl ((hg.out.1.1).alloc _) ⟨wr.heap.size, 0, none⟩ 1 1 [.int .u8 (bitV v k)] rfl rfl (one_at wr.heap.size _ wr 5 rfl) ?c2 ?c3 ?c4 ?c5 ?_)
      case c2 => intro u hu; simp at hu; subst hu; rfl
      case c3 => unfold maxLen; omega
      case c4 => omega
      case c5 => rw [Blk.alloc_size]; omega
      intro v' w1 hown' hgrow hnn
      rw [cu8_snoc, ← lowI_succ] at hown'
      have R := Aside.mk (hg.out.next _ hown' hnn hgrow)
      have hy2 : Aside (y / 2 = v / 2 ^ (k + 1)) := ⟨by rw [hy.out, Int.pow_succ, ← Int.ediv_ediv_of_nonneg (Int.pow_nonneg (by omega))]⟩
      clear hown' hgrow hg hb hb2 hy
      go_wp2_with fail
      go_roundw
      case rel => exact ⟨k + 1, y / 2, by omega, by go_num, rfl, hy2, R⟩
      case measure => first | (simp [intOf]; done) | (simp [intOf]; omega)
    · obtain rfl : k = size := by omega
      obtain ⟨gl, capl, rfl, hrow⟩ := hg.out.row
      rw [lowI_length] at *
      have hbel := Aside.mk hg.out.2
      have HR := Aside.mk hrow
      clear hrow hg hy
      obtain ⟨w0, rfl⟩ : ∃ w0, w0 = wr := ⟨_, rfl⟩
      cases little
      · go_wp2_with fail
        go_loopw [9, 12] (fun ov i wr => ∃ (m : Nat) (xs : List Nat), m ≤ k ∧ i = .int .i64 ((m : Int) - 1) ∧ Aside (xs ++ down 0 m = order k false) ∧ Aside (xs.length + m = k) ∧ Aside (Grow1 w0 wr 5 ov xs.length (cu8 (xs.map (bitV v))))) (fun _ i _ => (intOf i + 1).toNat)
        case atStart => exact ⟨k, [], Nat.le_refl _, rfl, ⟨rfl⟩, ⟨by simp⟩, ⟨Grow1.start w0 _⟩⟩
        case round =>
          obtain ⟨m, xs, hm, rfl, hx, hl, hg⟩ := hrel
          obtain _ | m := m
          · go_wp2_with fail
            obtain ⟨g2, cap2, rfl, hr2⟩ := hg.out.row
            have hn : (xs.map (bitV v)) = putI v k false := by
              have := hx.out
              rw [down, List.append_nil] at this
              rw [putI, ← this]
            rw [hn] at hr2 ⊢
            rw [putI_length v k false hs]
            have hb2 := Aside.mk (below_later hbel.out hg.out.2)
            go_wp2
            go_ret
            exact ⟨g2, cap2, rfl, hr2, hb2.out⟩
          · have hc : wr.cell? ⟨gl, m, none⟩ = some (.int .u8 (bitV v m)) := by
              have := (hg.out.2.cell (p := ⟨gl, 0 + m, none⟩) HR.out.1).trans (HR.out.2 m (by rw [lowI_length]; omega))
              rw [lowI_get _ _ _ (by omega), Nat.zero_add] at this
              exact this
            have e1 : ((m + 1 : Nat) : Int) - 1 = m := by omega
            rw [e1]
            have hsz := hg.out.2.size
            have hl2 := hl.out
            go_wp2_with (at_builtin; refine wpList_append_own _ rfl _ _ 70 rfl (w0.heap.size) 5 i0 (.int .u8 0) 1 1 Try.underlying70 HI.out hz0 hz1 hz2 rfl (by decide) _ _ _ rfl ((hg.out.1.1).alloc _) ⟨wr.heap.size, 0, none⟩ 1 1 [.int .u8 (bitV v m)] rfl rfl (one_at wr.heap.size _ wr 5 rfl) ?c2 ?c3 ?c4 ?c5 ?_)
            case c2 => intro u hu; simp at hu; subst hu; rfl
            case c3 => unfold maxLen; omega
            case c4 => omega
            case c5 => rw [Blk.alloc_size]; omega
            intro v' w1 hown' hgrow hnn
            have hmap : xs.map (bitV v) ++ [bitV v m] = (xs ++ [m]).map (bitV v) := by simp
            have R := hg.out.next _ hown' hnn hgrow
            rw [cu8_snoc, hmap] at R
            have hlen : (xs ++ [m]).length = xs.length + 1 := by simp
            rw [← hlen] at R
            have R := Aside.mk R
            have hx2 := hx.out
            rw [down, Nat.zero_add, List.append_cons] at hx2
            have HX := Aside.mk hx2
            have HL2 : Aside ((xs ++ [m]).length + m = k) := ⟨by rw [hlen]; omega⟩
            clear hown' hgrow hg hc hx hx2 hmap hlen
            go_wp2_with fail
            go_roundw
            case rel => exact ⟨m, xs ++ [m], by omega, by go_num, HX, HL2, R⟩
            case measure => first | (simp [intOf]; done) | (simp [intOf]; omega)
      · go_wp2_with fail
        go_loopw [9, 10, 11] (fun ov at_ i wr => ∃ (d : Nat) (xs : List Nat), d ≤ 7 ∧ at_ = .int .i64 (8 * (7 - d : Nat) : Nat) ∧ Aside (xs ++ ordL k d = order k true) ∧ Aside (Grow1 w0 wr 5 ov xs.length (cu8 (xs.map (bitV v))))) (fun _ a _ _ => (56 - intOf a).toNat)
        case atStart => exact ⟨7, [], Nat.le_refl _, rfl, ⟨rfl⟩, ⟨Grow1.start w0 _⟩⟩
        case round =>
          obtain ⟨d, xs, hd, rfl, hx, hg⟩ := hrel
          by_cases hlt : 8 * (7 - d) < k
          · obtain ⟨d, rfl⟩ : ∃ d', d = d' + 1 := ⟨d - 1, by omega⟩
            obtain ⟨q, hq⟩ : ∃ q, q = 8 * (7 - (d + 1)) := ⟨_, rfl⟩
            have hx2 := hx.out
            rw [ordL, show 8 * (6 - d) = q by omega] at hx2
            rw [← hq] at hlt ⊢
            have HQ := Aside.mk hq
            have HX := Aside.mk hx2
            clear hx hx2 hq
            go_wp2_with fail
            go_loopw [9, 11] (fun ov i wr => ∃ (m : Nat) (xs : List Nat), m ≤ 8 ∧ i = .int .i64 ((q + m : Nat) - 1 : Int) ∧ Aside (xs ++ (down q (min m (k - q)) ++ ordL k d) = order k true) ∧ Aside (Grow1 w0 wr 5 ov xs.length (cu8 (xs.map (bitV v))))) (fun _ i _ => (intOf i + 1 - q).toNat)
            case atStart =>
              exact ⟨8, xs, Nat.le_refl _, by (congr 1; omega), HX, hg⟩
            case round =>
              clear hg HX xs
              obtain ⟨m, xs, hm, rfl, hx, hg⟩ := hrel
              obtain _ | m := m
              · have hx2 := hx.out
                rw [show min 0 (k - q) = 0 by omega, down, List.nil_append] at hx2
                have HX := Aside.mk hx2
                clear hx hx2
                go_wp2_with fail
                go_roundw
                case rel => exact ⟨d, xs, by omega, by (congr 1; have := HQ.out; omega), HX, hg⟩
                case measure => first | (simp [intOf]; done) | (simp [intOf]; have := HQ.out; omega)
              · have e1 : ((q + (m + 1) : Nat) - 1 : Int) = (q + m : Nat) := by omega
                rw [e1]
                have hx2 := hx.out
                rw [down_step q m k] at hx2
                by_cases hlk : q + m < k
                · rw [if_pos hlk, List.cons_append, List.append_cons] at hx2
                  have HX := Aside.mk hx2
                  have hc : wr.cell? ⟨gl, q + m, none⟩ = some (.int .u8 (bitV v (q + m))) := by
                    have := (hg.out.2.cell (p := ⟨gl, 0 + (q + m), none⟩) HR.out.1).trans (HR.out.2 (q + m) (by rw [lowI_length]; omega))
                    rw [lowI_get _ _ _ hlk, Nat.zero_add] at this
                    exact this
                  have hsz := hg.out.2.size
                  have hxl : xs.length ≤ 49 := by
                    have := congrArg List.length hx2
                    rw [order_length k true hs] at this
                    simp at this
                    omega
                  clear hx hx2
                  go_wp2_with (at_builtin; refine wpList_append_own _ rfl _ _ 70 rfl (w0.heap.size) 5 i0 (.int .u8 0) 1 1 Try.underlying70 HI.out hz0 hz1 hz2 rfl (by decide) _ _ _ rfl ((hg.out.1.1).alloc _) ⟨wr.heap.size, 0, none⟩ 1 1 [.int .u8 (bitV v (q + m))] rfl rfl (one_at wr.heap.size _ wr 5 rfl) ?c2 ?c3 ?c4 ?c5 ?_)
                  case c2 => intro u hu; simp at hu; subst hu; rfl
                  case c3 => unfold maxLen; omega
                  case c4 => omega
                  case c5 => rw [Blk.alloc_size]; omega
                  intro v' w1 hown' hgrow hnn
                  have hmap : xs.map (bitV v) ++ [bitV v (q + m)] = (xs ++ [q + m]).map (bitV v) := by simp
                  have R := hg.out.next _ hown' hnn hgrow
                  rw [cu8_snoc, hmap] at R
                  have hlen : (xs ++ [q + m]).length = xs.length + 1 := by simp
                  rw [← hlen] at R
                  have R := Aside.mk R
                  clear hown' hgrow hg hc hmap hlen
                  go_wp2_with fail
                  go_roundw
                  case rel => exact ⟨m, xs ++ [q + m], by omega, by go_num, HX, R⟩
                  case measure => first | (simp [intOf]; done) | (simp [intOf]; omega)
                · rw [if_neg hlk] at hx2
                  have HX := Aside.mk hx2
                  clear hx hx2
                  go_wp2_with fail
                  go_roundw
                  case rel => exact ⟨m, xs, by omega, by go_num, HX, hg⟩
                  case measure => first | (simp [intOf]; done) | (simp [intOf]; omega)
          · go_wp2_with fail
            have hn : (xs.map (bitV v)) = putI v k true := by
              have := hx.out
              rw [ordL_nil k d (by omega) hd, List.append_nil] at this
              rw [putI, ← this]
            obtain ⟨g2, cap2, rfl, hr2⟩ := hg.out.row
            rw [hn] at hr2 ⊢
            rw [putI_length v k true hs]
            have hb2 := Aside.mk (below_later hbel.out hg.out.2)
            go_wp2
            go_ret
            exact ⟨g2, cap2, rfl, hr2, hb2.out⟩
end Go.Proofs.Ytjjnlbimegabpaa.Fn
