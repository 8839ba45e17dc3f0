/- Walks of the functions on bytes and their numbers: each call answers the plain function of its arguments and leaves memory as it was. Conditions: those of each theorem. -/
import Derived.Test.YtdldgchkinflmaaProg
import Derived.Test.YtdldgchkinflmaaLib
import Derived.BigQuiet
import Derived.Deep.QuietTactic
set_option linter.unusedVariables false
namespace Go.Proofs.Ytdldgchkinflmaa.Fn
open Go.RowKit Go.Proofs.Ytdldgchkinflmaa.Lib

theorem infoU8 : (Try.prog.info? 5).map (fun i => (i.zero, i.size, i.bytes)) = some (some (.int .u8 0), 1, 1) := by kernel_rfl

def BytesTo (n : Int) (size k : Nat) (w wr : World) : Prop := ∃ tail, tail.length = k ∧ be size n = be (size - k) (n / 256 ^ k) ++ tail ∧ wr.ownsRow w.heap.size 5 1 (.slice (some ⟨w.heap.size, 0, none⟩) size size) size (cu8 (List.replicate (size - k) 0 ++ tail))
theorem BytesTo.next {n : Int} {size k : Nat} {w wr : World} (h : BytesTo n size k w wr) (hk : k < size) : BytesTo n size (k + 1) w (wr.setCell ⟨w.heap.size, size - 1 - k, none⟩ (.int .u8 (n / 256 ^ k % 256))) := by
  obtain ⟨tail, ht, hb, hown⟩ := h
  have hst := (hown.stored (size - 1 - k) (.int .u8 (n / 256 ^ k % 256))).1
  refine ⟨n / 256 ^ k % 256 :: tail, by simp [ht], ?_, ?_⟩
  · rw [hb, show size - k = (size - (k + 1)) + 1 by omega, be, Int.pow_succ, ← Int.ediv_ediv_of_nonneg (Int.pow_nonneg (by omega)), List.append_assoc]
    rfl
  · rw [cu8_set, show size - k = (size - 1 - k) + 1 by omega, set_replicate] at hst
    rw [show size - (k + 1) = size - 1 - k by omega]
    exact hst
theorem BytesTo.cell {n : Int} {size k : Nat} {w wr : World} (h : BytesTo n size k w wr) (hk : k < size) : wr.cell? ⟨w.heap.size, size - 1 - k, none⟩ = some (.int .u8 0) ∧ wr.frozen? ⟨w.heap.size, size - 1 - k, none⟩ = false := by
  obtain ⟨tail, ht, hb, hown⟩ := h
  refine ⟨?_, hown.frozenAt _⟩
  rw [hown.cellAt _ (by omega), cu8, List.getElem?_map, List.getElem?_append_left (by rw [List.length_replicate]; omega), List.getElem?_replicate, if_pos (by omega)]; rfl
theorem BytesTo.start {n : Int} {size : Nat} {w w1 : World} (h : w1.ownsRow w.heap.size 5 1 (.slice (some ⟨w.heap.size, 0, none⟩) size size) size (madeCells (Value.int .u8 0).cells (size * 1)).toList) : BytesTo n size 0 w w1 :=
  ⟨[], rfl, by simp, by simpa using (made_u8 h).out⟩
theorem BytesTo.done {n : Int} {size : Nat} {w wr : World} (h : BytesTo n size size w wr) : (convert 22 9 (.slice (some ⟨w.heap.size, 0, none⟩) size size)).run Try.prog wr = .ok (.string (bes size n)) wr := by
  obtain ⟨tail, ht, hb, hown⟩ := h
  have := own_str Try.underlying22 Try.underlying5 Try.underlying9 hown
  rw [bes, hb]
  simpa [be] using this

set_option maxRecDepth 100000 in
set_option maxHeartbeats 1000000 in
theorem bytesOf (n : Int) (size : Nat) (w : World) (h0 : 0 ≤ n) (h1 : n ≤ 9223372036854775807) (hs : size ≤ 8) :
    Calls Try.prog 229 #[.int .i64 n, .int .i64 size] w fun e w' => e = .returned (.string (bes size n)) ∧ Below w.heap.size w w' := by
  obtain ⟨i0, hi, hz0, hz1, hz2⟩ := info_parts infoU8
  have hsh := fun i => Aside.mk (shr_at2 n i h0 h1)
  clear h0 h1
  go_enter Try.func229, Try.ntmps229
  go_wp2_with (refine wpList_make_full _ rfl _ _ 22 rfl w.heap.size 5 i0 (.int .u8 0) 1 Try.underlying22 hi hz0 hz1 .i64 .i64 _ _ size rfl rfl rfl rfl ?sd1 ?sd2 (Nat.le_refl _) ?_; (case sd1 => rw [hz2]; omega); (case sd2 => unfold maxLen; omega); intro w1 hown hgr; have HT := Aside.mk (BytesTo.start (n := n) hown); have HB := Aside.mk (pw_below hgr); clear hown hgr hi hz0 hz1 hz2)
  go_loopw [11] (fun i wr => ∃ k : Nat, k ≤ size ∧ i = .int .i64 k ∧ Aside (Below w.heap.size w wr) ∧ Aside (BytesTo n size k w wr)) (fun i _ => size - (intOf i).toNat)
  case atStart => exact ⟨0, Nat.zero_le _, rfl, HB, HT⟩
  case round =>
    obtain ⟨k, hk, rfl, hb, ht⟩ := hrel
    clear HB HT
    by_cases hlt : k < size
    · obtain ⟨hc, hf⟩ := ht.out.cell hlt
      have hsh := (hsh k).out
      have ht := Aside.mk (ht.out.next hlt)
      go_wp2_with fail
      go_roundw
      case rel => exact ⟨k + 1, by omega, by go_num, ⟨hb.out.setCell (Nat.le_refl _) _⟩, ht⟩
      case measure => simp [intOf]; omega
    · obtain rfl : k = size := by omega
      have hcv := ht.out.done
      go_wp2
      go_ret
      exact ⟨rfl, hb.out⟩
set_option maxRecDepth 100000 in
set_option maxHeartbeats 1000000 in
theorem l01Bytes (n : Int) (size : Nat) (w : World) (h0 : 0 ≤ n) (h1 : n ≤ 9223372036854775807) (hs : size ≤ 8) :
    Calls Try.prog 179 #[.int .i64 n, .int .i64 size] w fun e w' => e = .returned (.string (bes size n)) ∧ Below w.heap.size w w' := by
  obtain ⟨i0, hi, hz0, hz1, hz2⟩ := info_parts infoU8
  have hq : ∀ k : Nat, 0 ≤ n / 256 ^ k ∧ n / 256 ^ k ≤ 9223372036854775807 := fun k => ⟨Int.ediv_nonneg h0 (Int.pow_nonneg (by omega)), Int.le_trans (Int.ediv_le_self _ h0) h1⟩
  have hn : ∀ k : Nat, n / 256 ^ k / 256 = n / 256 ^ (k + 1) := fun k => by rw [Int.pow_succ, ← Int.ediv_ediv_of_nonneg (Int.pow_nonneg (by omega))]
  have HQ := Aside.mk hq
  have HN := Aside.mk hn
  clear h0 h1 hq hn
  go_enter Try.func179, Try.ntmps179
  go_wp2_with (refine wpList_make_full _ rfl _ _ 22 rfl w.heap.size 5 i0 (.int .u8 0) 1 Try.underlying22 hi hz0 hz1 .i64 .i64 _ _ size rfl rfl rfl rfl ?sd1 ?sd2 (Nat.le_refl _) ?_; (case sd1 => rw [hz2]; omega); (case sd2 => unfold maxLen; omega); intro w1 hown hgr; have HT := Aside.mk (BytesTo.start (n := n) hown); have HB := Aside.mk (pw_below hgr); clear hown hgr hi hz0 hz1 hz2)
  go_loopw [0, 6] (fun m i wr => ∃ (k : Nat) (m' : Int), k ≤ size ∧ i = .int .i64 ((size : Int) - 1 - k) ∧ m = .int .i64 m' ∧ Aside (m' = n / 256 ^ k) ∧ Aside (Below w.heap.size w wr) ∧ Aside (BytesTo n size k w wr)) (fun _ i _ => (intOf i + 1).toNat)
  case atStart => exact ⟨0, n, Nat.zero_le _, by simp, rfl, ⟨by simp⟩, HB, HT⟩
  case round =>
    obtain ⟨k, m, hk, rfl, rfl, hm, hb, ht⟩ := hrel
    clear HB HT
    by_cases hlt : k < size
    · obtain ⟨hc, hf⟩ := ht.out.cell hlt
      have ht := ht.out.next hlt
      have HM := HN.out k
      obtain ⟨q0, q1⟩ := HQ.out k
      rw [← hm.out] at ht HM q0 q1
      replace ht := Aside.mk ht
      replace HM := Aside.mk HM
      have e1 : ((size : Int) - 1 - k).toNat = size - 1 - k := by omega
      have e2 : (0 : Int) ≤ (size : Int) - 1 - k := by omega
      have e3 : ((size : Int) - 1 - k) < size := by omega
      go_wp2_with fail
      go_roundw
      case rel => exact ⟨k + 1, m / 256, by omega, by (congr 1; omega), rfl, HM, ⟨hb.out.setCell (Nat.le_refl _) _⟩, ht⟩
      case measure => simp [intOf]; omega
    · obtain rfl : k = size := by omega
      have hcv := ht.out.done
      have e2 : decide ((0 : Int) ≤ (k : Int) - 1 - k) = false := by simp; omega
      go_wp2
      go_ret
      exact ⟨rfl, hb.out⟩
theorem l01Byte (n : Int) (w : World) (h0 : 0 ≤ n) (h1 : n ≤ 255) : Calls Try.prog 250 #[.int .i64 n] w fun e w' => e = .returned (.string (bes 1 n)) ∧ Below w.heap.size w w' := by
  have hcv := own_str (P := Try.prog) (xs := [n]) Try.underlying22 Try.underlying5 Try.underlying9 (World.ownsRow_lit (base := w.heap.size) (size := 1) (e := 5) w #[.int .u8 n] 1 (Nat.le_refl _) (by unfold maxLen; omega) rfl)
  go_enter Try.func250, Try.ntmps250
  go_wp2
  go_ret
  refine ⟨ret_str ?_, (Below.refl _ _).alloc (Nat.le_refl _) _⟩
  rw [bes, be, be, Int.emod_eq_of_lt h0 (by omega)]
  rfl
theorem l01HashOn (h : Int) (s : ByteArray) (w : World) (h0 : 0 ≤ h) (h1 : h < 4294967296) (hs : s.size ≤ 140737488355328) : Calls Try.prog 253 #[.int .i64 h, .string s] w fun e w' => e = .returned (.int .i64 (hfold h s.data.toList)) ∧ w = w' := by
  go_enter Try.func253, Try.ntmps253
  go_wp2
  go_loop [0, 5] (fun x i => ∃ (k : Nat) (y : Int), k ≤ s.size ∧ i = .int .i64 k ∧ x = .int .i64 y ∧ 0 ≤ y ∧ y < 4294967296 ∧ Aside (y = hfold h (s.data.toList.take k))) (fun _ i => s.size - (intOf i).toNat)
  case atStart => exact ⟨0, h, Nat.zero_le _, rfl, rfl, h0, h1, ⟨by simp [hfold]⟩⟩
  case round =>
    obtain ⟨k, y, hk, rfl, rfl, y0, y1, hy⟩ := hrel
    by_cases hlt : k < s.size
    · have HS := hfold_snoc h (s.data.toList.take k) s[k]
      rw [← take_snoc s k hlt, ← hy.out] at HS
      replace HS := Aside.mk HS
      have hc := (s[k]).toNat_lt
      go_wp2
      go_round
      case rel => exact ⟨k + 1, _, by omega, by go_num, rfl, by omega, by omega, ⟨HS.out.symm⟩⟩
      case measure => simp [intOf]; omega
    · obtain rfl : k = s.size := by omega
      go_wp2
      go_ret
      exact ⟨ret_int (by rw [hy.out, take_all]), rfl⟩
theorem l13Hash (s : ByteArray) (w : World) (hs : s.size ≤ 140737488355328) : Calls Try.prog 251 #[.string s] w fun e w' => e = .returned (.int .i64 (hash s)) ∧ w = w' := by
  go_enter Try.func251, Try.ntmps251
  go_wp2_with (go_at_call 253; refine (l01HashOn 5381 s _ (by omega) (by omega) hs).mono ?_; rintro e w' ⟨rfl, rfl⟩)
  go_ret
  exact ⟨rfl, rfl⟩
theorem newHash (w : World) : Calls Try.prog 254 #[] w fun e w' => e = .returned (.int .u32 5381) ∧ w = w' := by
  go_enter Try.func254, Try.ntmps254
  go_wp2
  go_ret
  exact ⟨rfl, rfl⟩
theorem hashText (h : Int) (s : ByteArray) (w : World) (h0 : 0 ≤ h) (h1 : h < 4294967296) (hs : s.size ≤ 140737488355328) : Calls Try.prog 255 #[.int .u32 h, .string s] w fun e w' => e = .returned (.int .u32 (hfold h s.data.toList)) ∧ w = w' := by
  go_enter Try.func255, Try.ntmps255
  go_wp2
  go_loop [0, 8] (fun x i => ∃ (k : Nat) (y : Int), k ≤ s.size ∧ i = .int .i64 k ∧ x = .int .u32 y ∧ 0 ≤ y ∧ y < 4294967296 ∧ Aside (y = hfold h (s.data.toList.take k))) (fun _ i => s.size - (intOf i).toNat)
  case atStart => exact ⟨0, h, Nat.zero_le _, rfl, rfl, h0, h1, ⟨by simp [hfold]⟩⟩
  case round =>
    obtain ⟨k, y, hk, rfl, rfl, y0, y1, hy⟩ := hrel
    by_cases hlt : k < s.size
    · have HS := hfold_snoc h (s.data.toList.take k) s[k]
      rw [← take_snoc s k hlt, ← hy.out] at HS
      have hc := (s[k]).toNat_lt
      rw [show (y * 33 + (s[k].toNat : Int)) % 4294967296 = (y * 33 % 4294967296 + (s[k].toNat : Int)) % 4294967296 by omega] at HS
      replace HS := Aside.mk HS
      go_wp2
      go_round
      case rel => exact ⟨k + 1, _, by omega, by go_num, rfl, by omega, by omega, ⟨HS.out.symm⟩⟩
      case measure => simp [intOf]; omega
    · obtain rfl : k = s.size := by omega
      go_wp2
      go_ret
      exact ⟨ret_int (by rw [hy.out, take_all]), rfl⟩
theorem hashOf (s : ByteArray) (w : World) (hs : s.size ≤ 140737488355328) : Calls Try.prog 252 #[.string s] w fun e w' => e = .returned (.int .i64 (hash s)) ∧ w = w' := by
  obtain ⟨r0, r1⟩ := hash_range s
  go_enter Try.func252, Try.ntmps252
  go_wp2_with fail
  refine (newHash _).mono ?_
  rintro e w' ⟨rfl, rfl⟩
  go_wp2_with fail
  refine (hashText 5381 s _ (by omega) (by omega) hs).mono ?_
  rintro e w' ⟨rfl, rfl⟩
  change 0 ≤ hfold 5381 s.data.toList at r0
  change hfold 5381 s.data.toList < 4294967296 at r1
  go_wp2
  go_ret
  exact ⟨rfl, rfl⟩
theorem between (a lo hi : Int) (w : World) : Calls Try.prog 97 #[.int .i64 a, .int .i64 lo, .int .i64 hi] w fun e w' => e = .returned (.bool (decide (lo ≤ a) && decide (a ≤ hi))) ∧ w = w' := by
  go_enter Try.func97, Try.ntmps97
  by_cases h : lo ≤ a
  · have hd : decide (lo ≤ a) = true := decide_eq_true h
    go_wp2
    go_ret
    exact ⟨by simp [h], rfl⟩
  · have hd : decide (lo ≤ a) = false := decide_eq_false h
    go_wp2
    go_ret
    exact ⟨by simp, rfl⟩
def sealText (kind n : Int) (body : ByteArray) : ByteArray := ((bes 1 kind ++ bes 4 n) ++ bes 2 body.size) ++ body
def sealed (kind n : Int) (body : ByteArray) : ByteArray := sealText kind n body ++ bes 4 (hash (sealText kind n body))
theorem sealText_size (kind n : Int) (body : ByteArray) : (sealText kind n body).size = 7 + body.size := by
  unfold sealText
  simp only [ByteArray.size_append, bes_size]
def SealOK (kind n : Int) (body : ByteArray) : Prop := (kind = 1 ∨ kind = 2) ∧ 0 ≤ n ∧ n ≤ 4294967295 ∧ body.size ≤ 1000
set_option maxRecDepth 100000 in
theorem sSeal_yes (kind n : Int) (body : ByteArray) (w : World) (h : SealOK kind n body) :
    Calls Try.prog 232 #[.int .i64 kind, .int .i64 n, .string body] w fun e w' => e = .returned (.tuple #[.string (sealed kind n body), .int .i64 0]) ∧ Below w.heap.size w w' := by
  obtain ⟨hk, h0, h1, hb⟩ := h
  have z1 := bes_size 1 kind
  have z2 := bes_size 4 n
  have z3 := bes_size 2 body.size
  have z4 := bes_size 4 (hash (sealText kind n body))
  have z5 := sealText_size kind n body
  obtain ⟨r0, r1⟩ := hash_range (sealText kind n body)
  have hd0 : decide (0 ≤ n) = true := decide_eq_true h0
  have hd1 : decide (n ≤ 4294967295) = true := decide_eq_true h1
  rcases hk with rfl | rfl
  all_goals
    go_enter Try.func232, Try.ntmps232
    go_wp2_with fail
    refine (between n 0 4294967295 _).mono ?_
    rintro e w' ⟨rfl, rfl⟩
    go_wp2_with fail
    refine (l01Byte _ _ (by omega) (by omega)).mono ?_
    rintro e w1 ⟨rfl, hb1⟩
    go_wp2_with fail
    refine (l01Bytes n 4 _ h0 (by omega) (by omega)).mono ?_
    rintro e w2 ⟨rfl, hb2⟩
    go_wp2_with fail
    refine (l01Bytes body.size 2 _ (by omega) (by omega) (by omega)).mono ?_
    rintro e w3 ⟨rfl, hb3⟩
    replace hb := Aside.mk (below_later (below_later hb1 hb2) hb3)
    clear hb1 hb2 hb3
    unfold sealText at z4 z5 r0 r1
    go_wp2_with fail
    refine (l13Hash _ _ (by rw [z5]; omega)).mono ?_
    rintro e w' ⟨rfl, rfl⟩
    go_wp2_with fail
    refine (l01Bytes _ 4 _ r0 (by omega) (by omega)).mono ?_
    rintro e w4 ⟨rfl, hb4⟩
    go_wp2
    go_ret2
    exact ⟨rfl, below_later hb.out hb4⟩
set_option maxRecDepth 100000 in
theorem sSeal_no (kind n : Int) (body : ByteArray) (w : World) (h : ¬ SealOK kind n body) (hb : body.size ≤ 140737488355328) :
    Calls Try.prog 232 #[.int .i64 kind, .int .i64 n, .string body] w fun e w' => e = .returned (.tuple #[.string ⟨#[]⟩, .int .i64 1]) ∧ w = w' := by
  have H := Aside.mk h
  clear h
  by_cases hk : kind = 1 ∨ kind = 2
  · by_cases h0 : 0 ≤ n ∧ n ≤ 4294967295
    · have hs : 1000 < body.size := by
        have := H.out
        unfold SealOK at this
        omega
      have hd0 : decide (0 ≤ n) = true := decide_eq_true h0.1
      have hd1 : decide (n ≤ 4294967295) = true := decide_eq_true h0.2
      rcases hk with rfl | rfl
      all_goals
        go_enter Try.func232, Try.ntmps232
        go_wp2_with fail
        refine (between n 0 4294967295 _).mono ?_
        rintro e w' ⟨rfl, rfl⟩
        go_wp2
        go_ret2
        exact ⟨rfl, rfl⟩
    · have hd0 : (decide (0 ≤ n) && decide (n ≤ 4294967295)) = false := by simp; omega
      rcases hk with rfl | rfl
      all_goals
        go_enter Try.func232, Try.ntmps232
        go_wp2_with fail
        refine (between n 0 4294967295 _).mono ?_
        rintro e w' ⟨rfl, rfl⟩
        rw [hd0]
        go_wp2
        go_ret2
        exact ⟨rfl, rfl⟩
  · have k1 : (kind != 1) = true := by simp; omega
    have k2 : (kind != 2) = true := by simp; omega
    go_enter Try.func232, Try.ntmps232
    go_wp2
    go_ret2
    exact ⟨rfl, rfl⟩
set_option maxRecDepth 100000 in
theorem iSeal_yes (kind n : Int) (body : ByteArray) (w : World) (h : SealOK kind n body) :
    Calls Try.prog 234 #[.int .i64 kind, .int .i64 n, .string body] w fun e w' => e = .returned (.tuple #[.string (sealed kind n body), .int .i64 0]) ∧ Below w.heap.size w w' := by
  obtain ⟨hk, h0, h1, hb⟩ := h
  have z1 := bes_size 1 kind
  have z2 := bes_size 4 n
  have z3 := bes_size 2 body.size
  have z4 := bes_size 4 (hash (sealText kind n body))
  have z5 := sealText_size kind n body
  obtain ⟨r0, r1⟩ := hash_range (sealText kind n body)
  have hd0 : decide (n < 0) = false := decide_eq_false (by omega)
  have hd1 : decide (4294967295 < n) = false := decide_eq_false (by omega)
  rcases hk with rfl | rfl
  all_goals
    go_enter Try.func234, Try.ntmps234
    go_wp2_with fail
    refine (bytesOf _ 1 _ (by omega) (by omega) (by omega)).mono ?_
    rintro e w1 ⟨rfl, hb1⟩
    go_wp2_with fail
    refine (bytesOf n 4 _ h0 (by omega) (by omega)).mono ?_
    rintro e w2 ⟨rfl, hb2⟩
    go_wp2_with fail
    refine (bytesOf body.size 2 _ (by omega) (by omega) (by omega)).mono ?_
    rintro e w3 ⟨rfl, hb3⟩
    replace hb := Aside.mk (below_later (below_later hb1 hb2) hb3)
    clear hb1 hb2 hb3
    unfold sealText at z4 z5 r0 r1
    go_wp2_with fail
    refine (hashOf _ _ (by rw [z5]; omega)).mono ?_
    rintro e w' ⟨rfl, rfl⟩
    go_wp2_with fail
    refine (bytesOf _ 4 _ r0 (by omega) (by omega)).mono ?_
    rintro e w4 ⟨rfl, hb4⟩
    go_wp2
    go_ret2
    exact ⟨rfl, below_later hb.out hb4⟩
set_option maxRecDepth 100000 in
theorem iSeal_no (kind n : Int) (body : ByteArray) (w : World) (h : ¬ SealOK kind n body) (hb : body.size ≤ 140737488355328) :
    Calls Try.prog 234 #[.int .i64 kind, .int .i64 n, .string body] w fun e w' => e = .returned (.tuple #[.string ⟨#[]⟩, .int .i64 1]) ∧ w = w' := by
  have H := Aside.mk h
  clear h
  by_cases hk : kind = 1 ∨ kind = 2
  · by_cases h0 : n < 0
    · rcases hk with rfl | rfl
      all_goals
        go_enter Try.func234, Try.ntmps234
        go_wp2
        go_ret2
        exact ⟨rfl, rfl⟩
    by_cases h1 : 4294967295 < n
    · rcases hk with rfl | rfl
      all_goals
        go_enter Try.func234, Try.ntmps234
        go_wp2
        go_ret2
        exact ⟨rfl, rfl⟩
    have hs : 1000 < body.size := by
      have := H.out
      unfold SealOK at this
      omega
    rcases hk with rfl | rfl
    all_goals
      go_enter Try.func234, Try.ntmps234
      go_wp2
      go_ret2
      exact ⟨rfl, rfl⟩
  · have k1 : (kind != 1) = true := by simp; omega
    have k2 : (kind != 2) = true := by simp; omega
    go_enter Try.func234, Try.ntmps234
    go_wp2
    go_ret2
    exact ⟨rfl, rfl⟩
end Go.Proofs.Ytdldgchkinflmaa.Fn
