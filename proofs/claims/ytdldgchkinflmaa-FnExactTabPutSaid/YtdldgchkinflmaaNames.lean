/- Walks of the functions on bytes of names: lower, upper, digit, wordByte, nameOK, and the reference's. Conditions: those of each theorem. -/
import Derived.Test.YtdldgchkinflmaaProg
import Derived.Test.YtdldgchkinflmaaLib
set_option linter.unusedVariables false
namespace Go.Proofs.Ytdldgchkinflmaa.Fn
open Go.RowKit Go.Proofs.Ytdldgchkinflmaa.Lib

def lowerI (c : Int) : Bool := decide (97 ≤ c) && decide (c ≤ 122)
def upperI (c : Int) : Bool := decide (65 ≤ c) && decide (c ≤ 90)
def digitI (c : Int) : Bool := decide (48 ≤ c) && decide (c ≤ 57)
def letterI (c : Int) : Bool := lowerI c || upperI c || c == 95
def wordI (c : Int) : Bool := letterI c || digitI c

theorem lower (c : Int) (w : World) : Calls Try.prog 225 #[.int .u8 c] w fun e w' => e = .returned (.bool (lowerI c)) ∧ w = w' := by
  by_cases h : 97 ≤ c
  · have hd : decide (97 ≤ c) = true := decide_eq_true h
    go_enter Try.func225, Try.ntmps225
    go_wp2
    go_ret
    exact ⟨by simp [lowerI, h], rfl⟩
  · have hd : decide (97 ≤ c) = false := decide_eq_false h
    go_enter Try.func225, Try.ntmps225
    go_wp2
    go_ret
    exact ⟨ret_bool (by rw [lowerI]; simp; omega), rfl⟩
theorem upper (c : Int) (w : World) : Calls Try.prog 246 #[.int .u8 c] w fun e w' => e = .returned (.bool (upperI c)) ∧ w = w' := by
  by_cases h : 65 ≤ c
  · have hd : decide (65 ≤ c) = true := decide_eq_true h
    go_enter Try.func246, Try.ntmps246
    go_wp2
    go_ret
    exact ⟨by simp [upperI, h], rfl⟩
  · have hd : decide (65 ≤ c) = false := decide_eq_false h
    go_enter Try.func246, Try.ntmps246
    go_wp2
    go_ret
    exact ⟨ret_bool (by rw [upperI]; simp; omega), rfl⟩
theorem digit (c : Int) (w : World) : Calls Try.prog 247 #[.int .u8 c] w fun e w' => e = .returned (.bool (digitI c)) ∧ w = w' := by
  by_cases h : 48 ≤ c
  · have hd : decide (48 ≤ c) = true := decide_eq_true h
    go_enter Try.func247, Try.ntmps247
    go_wp2
    go_ret
    exact ⟨by simp [digitI, h], rfl⟩
  · have hd : decide (48 ≤ c) = false := decide_eq_false h
    go_enter Try.func247, Try.ntmps247
    go_wp2
    go_ret
    exact ⟨ret_bool (by rw [digitI]; simp; omega), rfl⟩
theorem wordByte (c : Int) (w : World) : Calls Try.prog 226 #[.int .u8 c] w fun e w' => e = .returned (.bool (wordI c)) ∧ w = w' := by
  have hw : wordI c = (lowerI c || upperI c || digitI c || c == 95) := by
    unfold wordI letterI
    cases lowerI c <;> cases upperI c <;> cases digitI c <;> simp
  have HW := Aside.mk hw
  clear hw
  cases h1 : lowerI c
  · cases h2 : upperI c
    · cases h3 : digitI c
      · have H1 := Aside.mk h1
        have H2 := Aside.mk h2
        have H3 := Aside.mk h3
        clear h1 h2 h3
        go_enter Try.func226, Try.ntmps226
        go_wp2_with fail
        refine (lower c _).mono ?_
        rintro e w' ⟨rfl, rfl⟩
        rw [H1.out]
        go_wp2_with fail
        refine (upper c _).mono ?_
        rintro e w' ⟨rfl, rfl⟩
        rw [H2.out]
        go_wp2_with fail
        refine (digit c _).mono ?_
        rintro e w' ⟨rfl, rfl⟩
        rw [H3.out]
        go_wp2
        go_ret
        exact ⟨ret_bool (by rw [HW.out, H1.out, H2.out, H3.out]; rfl), rfl⟩
      · have H1 := Aside.mk h1
        have H2 := Aside.mk h2
        have H3 := Aside.mk h3
        clear h1 h2 h3
        go_enter Try.func226, Try.ntmps226
        go_wp2_with fail
        refine (lower c _).mono ?_
        rintro e w' ⟨rfl, rfl⟩
        rw [H1.out]
        go_wp2_with fail
        refine (upper c _).mono ?_
        rintro e w' ⟨rfl, rfl⟩
        rw [H2.out]
        go_wp2_with fail
        refine (digit c _).mono ?_
        rintro e w' ⟨rfl, rfl⟩
        rw [H3.out]
        go_wp2
        go_ret
        exact ⟨ret_bool (by rw [HW.out, H1.out, H2.out, H3.out]; rfl), rfl⟩
    · have H1 := Aside.mk h1
      have H2 := Aside.mk h2
      clear h1 h2
      go_enter Try.func226, Try.ntmps226
      go_wp2_with fail
      refine (lower c _).mono ?_
      rintro e w' ⟨rfl, rfl⟩
      rw [H1.out]
      go_wp2_with fail
      refine (upper c _).mono ?_
      rintro e w' ⟨rfl, rfl⟩
      rw [H2.out]
      go_wp2
      go_ret
      exact ⟨ret_bool (by rw [HW.out, H1.out, H2.out]; rfl), rfl⟩
  · have H1 := Aside.mk h1
    clear h1
    go_enter Try.func226, Try.ntmps226
    go_wp2_with fail
    refine (lower c _).mono ?_
    rintro e w' ⟨rfl, rfl⟩
    rw [H1.out]
    go_wp2
    go_ret
    exact ⟨ret_bool (by rw [HW.out, H1.out]; rfl), rfl⟩
theorem l01Lower (c : Int) (w : World) : Calls Try.prog 172 #[.int .u8 c] w fun e w' => e = .returned (.bool (lowerI c)) ∧ w = w' := by
  by_cases h : 97 ≤ c
  · have hd : decide (97 ≤ c) = true := decide_eq_true h
    go_enter Try.func172, Try.ntmps172
    go_wp2
    go_ret
    exact ⟨by simp [lowerI, h], rfl⟩
  · have hd : decide (97 ≤ c) = false := decide_eq_false h
    go_enter Try.func172, Try.ntmps172
    go_wp2
    go_ret
    exact ⟨ret_bool (by rw [lowerI]; simp; omega), rfl⟩
theorem l01Digit (c : Int) (w : World) : Calls Try.prog 171 #[.int .u8 c] w fun e w' => e = .returned (.bool (digitI c)) ∧ w = w' := by
  by_cases h : 48 ≤ c
  · have hd : decide (48 ≤ c) = true := decide_eq_true h
    go_enter Try.func171, Try.ntmps171
    go_wp2
    go_ret
    exact ⟨by simp [digitI, h], rfl⟩
  · have hd : decide (48 ≤ c) = false := decide_eq_false h
    go_enter Try.func171, Try.ntmps171
    go_wp2
    go_ret
    exact ⟨ret_bool (by rw [digitI]; simp; omega), rfl⟩
theorem l01Letter (c : Int) (w : World) : Calls Try.prog 170 #[.int .u8 c] w fun e w' => e = .returned (.bool (letterI c)) ∧ w = w' := by
  cases h1 : lowerI c
  · have H1 := Aside.mk h1
    clear h1
    by_cases h : 65 ≤ c
    · have hd : decide (65 ≤ c) = true := decide_eq_true h
      by_cases h9 : c ≤ 90
      · have hd2 : decide (c ≤ 90) = true := decide_eq_true h9
        go_enter Try.func170, Try.ntmps170
        go_wp2_with fail
        refine (l01Lower c _).mono ?_
        rintro e w' ⟨rfl, rfl⟩
        rw [H1.out]
        go_wp2
        go_ret
        exact ⟨ret_bool (by rw [letterI, H1.out, upperI, hd, hd2]; rfl), rfl⟩
      · have hd2 : decide (c ≤ 90) = false := decide_eq_false h9
        go_enter Try.func170, Try.ntmps170
        go_wp2_with fail
        refine (l01Lower c _).mono ?_
        rintro e w' ⟨rfl, rfl⟩
        rw [H1.out]
        go_wp2
        go_ret
        exact ⟨ret_bool (by rw [letterI, H1.out, upperI, hd, hd2]; rfl), rfl⟩
    · have hd : decide (65 ≤ c) = false := decide_eq_false h
      go_enter Try.func170, Try.ntmps170
      go_wp2_with fail
      refine (l01Lower c _).mono ?_
      rintro e w' ⟨rfl, rfl⟩
      rw [H1.out]
      go_wp2
      go_ret
      exact ⟨ret_bool (by rw [letterI, H1.out, upperI, hd]; rfl), rfl⟩
  · have H1 := Aside.mk h1
    clear h1
    go_enter Try.func170, Try.ntmps170
    go_wp2_with fail
    refine (l01Lower c _).mono ?_
    rintro e w' ⟨rfl, rfl⟩
    rw [H1.out]
    go_wp2
    go_ret
    exact ⟨ret_bool (by rw [letterI, H1.out]; rfl), rfl⟩

/-! ### names -/
def allWord (l : List UInt8) : Bool := l.all fun c => wordI (c.toNat : Int)
def headLower (l : List UInt8) : Bool := match l with | [] => false | c :: _ => lowerI (c.toNat : Int)
def nameB (s : ByteArray) : Bool := decide (1 ≤ s.size) && decide (s.size ≤ 30) && headLower s.data.toList && allWord s.data.toList
theorem headLower_at (s : ByteArray) (h : 0 < s.size) : headLower s.data.toList = lowerI (s[0].toNat : Int) := by
  obtain ⟨⟨l⟩⟩ := s
  cases l with
  | nil => cases h
  | cons c l => rfl
theorem allWord_snoc (l : List UInt8) (c : UInt8) : allWord (l ++ [c]) = (allWord l && wordI (c.toNat : Int)) := by simp [allWord]
theorem allWord_stop {s : ByteArray} {k : Nat} (h : k < s.size) (hw : wordI (s[k].toNat : Int) = false) : allWord s.data.toList = false := by
  have hm : s[k] ∈ s.data.toList := by
    rw [Array.mem_toList_iff]
    exact Array.getElem_mem h
  unfold allWord
  rw [List.all_eq_false]
  exact ⟨_, hm, by rw [hw]; simp⟩

set_option maxRecDepth 100000 in
set_option maxHeartbeats 1000000 in
theorem nameOK (s : ByteArray) (w : World) (hs : s.size ≤ 9223372036854775807) : Calls Try.prog 175 #[.string s] w fun e w' => e = .returned (.bool (nameB s)) ∧ w = w' := by
  by_cases h1 : s.size < 1
  · have HN := Aside.mk (show nameB s = false by rw [nameB, decide_eq_false (show ¬ 1 ≤ s.size by omega)]; rfl)
    have hd : decide (s.size < 1) = true := decide_eq_true h1
    go_enter Try.func175, Try.ntmps175
    go_wp2
    go_ret
    exact ⟨ret_bool HN.out.symm, rfl⟩
  by_cases h2 : 30 < s.size
  · have HN := Aside.mk (show nameB s = false by rw [nameB, decide_eq_false (show ¬ s.size ≤ 30 by omega)]; cases decide (1 ≤ s.size) <;> rfl)
    have hd : decide (s.size < 1) = false := decide_eq_false h1
    have hd2 : decide (30 < s.size) = true := decide_eq_true h2
    go_enter Try.func175, Try.ntmps175
    go_wp2
    go_ret
    exact ⟨ret_bool HN.out.symm, rfl⟩
  have h0 : 0 < s.size := by omega
  have HN := Aside.mk (show nameB s = (lowerI (s[0].toNat : Int) && allWord s.data.toList) by rw [nameB, headLower_at s h0, decide_eq_true (show 1 ≤ s.size by omega), decide_eq_true (show s.size ≤ 30 by omega)]; rfl)
  have hd : decide (s.size < 1) = false := decide_eq_false h1
  have hd2 : decide (30 < s.size) = false := decide_eq_false h2
  cases hl : lowerI (s[0].toNat : Int)
  · have HL := Aside.mk hl
    clear hl
    go_enter Try.func175, Try.ntmps175
    go_wp2_with fail
    refine (lower _ _).mono ?_
    rintro e w' ⟨rfl, rfl⟩
    rw [HL.out]
    go_wp2
    go_ret
    exact ⟨ret_bool (by rw [HN.out, HL.out]; rfl), rfl⟩
  · have HL := Aside.mk hl
    clear hl
    go_enter Try.func175, Try.ntmps175
    go_wp2_with fail
    refine (lower _ _).mono ?_
    rintro e w' ⟨rfl, rfl⟩
    rw [HL.out]
    go_wp2_with fail
    go_loopw [20] (fun i wr => ∃ k : Nat, k ≤ s.size ∧ i = .int .i64 k ∧ wr = w ∧ Aside (allWord (s.data.toList.take k) = true)) (fun i _ => s.size - (intOf i).toNat)
    case atStart => exact ⟨0, Nat.zero_le _, rfl, rfl, ⟨rfl⟩⟩
    case round =>
      obtain ⟨k, hk, rfl, rfl, ha⟩ := hrel
      by_cases hlt : k < s.size
      · cases hw : wordI (s[k].toNat : Int)
        · have HW := Aside.mk hw
          clear hw
          go_wp2_with fail
          refine (wordByte _ _).mono ?_
          rintro e w' ⟨rfl, rfl⟩
          rw [HW.out]
          go_wp2
          go_ret
          exact ⟨ret_bool (by rw [HN.out, HL.out, allWord_stop hlt HW.out]; rfl), rfl⟩
        · have HW := Aside.mk hw
          clear hw
          go_wp2_with fail
          refine (wordByte _ _).mono ?_
          rintro e w' ⟨rfl, rfl⟩
          rw [HW.out]
          go_wp2_with fail
          go_roundw
          case rel => exact ⟨k + 1, by omega, by go_num, (by first | rfl | trivial), ⟨by rw [take_snoc s k hlt, allWord_snoc, ha.out, HW.out]; rfl⟩⟩
          case measure => simp [intOf]; omega
      · obtain rfl : k = s.size := by omega
        go_wp2
        go_ret
        exact ⟨ret_bool (by rw [HN.out, HL.out, ← take_all s, ha.out]; rfl), rfl⟩
set_option maxRecDepth 100000 in
set_option maxHeartbeats 1000000 in
theorem l01Name (s : ByteArray) (w : World) (hs : s.size ≤ 9223372036854775807) : Calls Try.prog 101 #[.string s] w fun e w' => e = .returned (.bool (nameB s)) ∧ w = w' := by
  go_enter Try.func101, Try.ntmps101
  go_wp2_with fail
  go_loopw [3] (fun i wr => ∃ k : Nat, k ≤ s.size ∧ i = .int .i64 k ∧ wr = w ∧ Aside (allWord (s.data.toList.take k) = true)) (fun i _ => s.size - (intOf i).toNat)
  case atStart => exact ⟨0, Nat.zero_le _, rfl, rfl, ⟨rfl⟩⟩
  case round =>
    obtain ⟨k, hk, rfl, rfl, ha⟩ := hrel
    by_cases hlt : k < s.size
    · cases hl : letterI (s[k].toNat : Int)
      · cases hd : digitI (s[k].toNat : Int)
        · have HL := Aside.mk hl
          have HD := Aside.mk hd
          clear hl hd
          go_wp2_with fail
          refine (l01Letter _ _).mono ?_
          rintro e w' ⟨rfl, rfl⟩
          rw [HL.out]
          go_wp2_with fail
          refine (l01Digit _ _).mono ?_
          rintro e w' ⟨rfl, rfl⟩
          rw [HD.out]
          go_wp2
          go_ret
          exact ⟨ret_bool (by rw [nameB, allWord_stop hlt (by rw [wordI, HL.out, HD.out]; rfl)]; simp), rfl⟩
        · have HL := Aside.mk hl
          have HD := Aside.mk hd
          clear hl hd
          go_wp2_with fail
          refine (l01Letter _ _).mono ?_
          rintro e w' ⟨rfl, rfl⟩
          rw [HL.out]
          go_wp2_with fail
          refine (l01Digit _ _).mono ?_
          rintro e w' ⟨rfl, rfl⟩
          rw [HD.out]
          go_wp2_with fail
          go_roundw
          case rel => exact ⟨k + 1, by omega, by go_num, (by first | rfl | trivial), ⟨by rw [take_snoc s k hlt, allWord_snoc, ha.out, wordI, HL.out, HD.out]; rfl⟩⟩
          case measure => simp [intOf]; omega
      · have HL := Aside.mk hl
        clear hl
        go_wp2_with fail
        refine (l01Letter _ _).mono ?_
        rintro e w' ⟨rfl, rfl⟩
        rw [HL.out]
        go_wp2_with fail
        go_roundw
        case rel => exact ⟨k + 1, by omega, by go_num, (by first | rfl | trivial), ⟨by rw [take_snoc s k hlt, allWord_snoc, ha.out, wordI, HL.out]; rfl⟩⟩
        case measure => simp [intOf]; omega
    · obtain rfl : k = s.size := by omega
      have ha := Aside.mk (show allWord s.data.toList = true by rw [← take_all s]; exact ha.out)
      by_cases h0 : 0 < s.size
      · have HH := Aside.mk (headLower_at s h0)
        have hd0 : decide (0 < s.size) = true := decide_eq_true h0
        by_cases h1 : s.size ≤ 30
        · have hd1 : decide (s.size ≤ 30) = true := decide_eq_true h1
          go_wp2_with fail
          refine (l01Lower _ _).mono ?_
          rintro e w' ⟨rfl, rfl⟩
          go_wp2
          go_ret
          exact ⟨ret_bool (by rw [nameB, HH.out, ha.out, hd1, decide_eq_true (show 1 ≤ s.size by omega)]; simp), rfl⟩
        · have hd1 : decide (s.size ≤ 30) = false := decide_eq_false h1
          go_wp2
          go_ret
          exact ⟨ret_bool (by rw [nameB, hd1]; simp), rfl⟩
      · have hd0 : decide (0 < s.size) = false := decide_eq_false h0
        go_wp2
        go_ret
        exact ⟨ret_bool (by rw [nameB, decide_eq_false (show ¬ 1 ≤ s.size by omega)]; simp), rfl⟩
end Go.Proofs.Ytdldgchkinflmaa.Fn
