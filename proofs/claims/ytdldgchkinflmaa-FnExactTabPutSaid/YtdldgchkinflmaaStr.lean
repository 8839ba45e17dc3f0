/- Two texts compared. Conditions: none. -/
import Derived.Test.YtdldgchkinflmaaTerm
import Derived.Test.YtdldgchkinflmaaProg
import Derived.Lib.Bytealg
set_option linter.unusedVariables false
namespace Go.Proofs.Ytdldgchkinflmaa.Fn
open Go.RowKit Go.Proofs.Ytdldgchkinflmaa.Lib

def ordS (a b : ByteArray) : Int := Go.Lib.compareBytes a.data.toList b.data.toList
set_option maxRecDepth 100000 in
theorem compareString (a b : ByteArray) (w : World) : Calls Try.prog 223 #[.string a, .string b] w fun e w' => e = .returned (.int .i64 (ordS a b)) ∧ w = w' := by
  go_enter Try.func223, Try.ntmps223
  go_wp2
  rw [run_callFunc_extern Try.func244 (by kernel_rfl) (by kernel_rfl) (by kernel_rfl) (e := Extern.BytealgCompare.compare) (by kernel_rfl), Go.Lib.run_compareString]
  simp only [Result.andThen]
  rw [Oper.upon_value]
  go_wp2
  go_ret
  exact ⟨rfl, rfl⟩
theorem strCompare (a b : ByteArray) (w : World) : Calls Try.prog 158 #[.string a, .string b] w fun e w' => e = .returned (.int .i64 (ordS a b)) ∧ w = w' := by
  go_enter Try.func158, Try.ntmps158
  go_wp2_with fail
  refine (compareString a b _).mono ?_
  rintro e w' ⟨rfl, rfl⟩
  go_wp2
  go_ret
  exact ⟨rfl, rfl⟩
theorem cmpB : ∀ (a b : List UInt8), Go.Lib.compareBytes a b = if Op.bytesLess a b then -1 else if a == b then 0 else 1
  | [], [] => by simp [Go.Lib.compareBytes, Op.bytesLess]
  | [], _ :: _ => by simp [Go.Lib.compareBytes, Op.bytesLess]
  | _ :: _, [] => by simp [Go.Lib.compareBytes, Op.bytesLess]
  | x :: a, y :: b => by
    rw [Go.Lib.compareBytes, Op.bytesLess, cmpB a b]
    by_cases h : x < y
    · simp [h]
    · by_cases e : x = y
      · subst e
        simp [UInt8.lt_irrefl]
      · have : y < x := UInt8.lt_of_le_of_ne (UInt8.not_lt.1 h) (Ne.symm e)
        have e2 : (x == y) = false := by simpa using e
        simp [h, e, this]
theorem ordS_less {a b : ByteArray} (h : Op.bytesLess a.toList b.toList = true) : ordS a b = -1 := by
  rw [ByteArray.toList_eq, ByteArray.toList_eq] at h
  rw [ordS, cmpB, if_pos h]
theorem ordS_eq {a b : ByteArray} (h : Op.bytesLess a.toList b.toList = false) (h2 : (a.toList == b.toList) = true) : ordS a b = 0 := by
  rw [ByteArray.toList_eq, ByteArray.toList_eq] at h h2
  rw [ordS, cmpB, h, h2]
  rfl
theorem ordS_more {a b : ByteArray} (h : Op.bytesLess a.toList b.toList = false) (h2 : (a.toList == b.toList) = false) : ordS a b = 1 := by
  rw [ByteArray.toList_eq, ByteArray.toList_eq] at h h2
  rw [ordS, cmpB, h, h2]
  rfl
theorem ordS_self (a : ByteArray) : ordS a a = 0 := by
  have h : Op.bytesLess a.toList a.toList = false := by
    generalize a.toList = l
    induction l with
    | nil => rfl
    | cons x l ih => simp [Op.bytesLess, ih, UInt8.lt_irrefl]
  exact ordS_eq h (by simp)
theorem run_gtr (a b : ByteArray) (w : World) : (binOp .gtr 9 (.string a) (.string b)).run Try.prog w = .ok (.bool !(Op.bytesLess a.toList b.toList || a.toList == b.toList)) w := by
  simp [binOp, Op.stringOp, go_sem]
theorem l01Order (a b : ByteArray) (w : World) : Calls Try.prog 164 #[.string a, .string b] w fun e w' => e = .returned (.int .i64 (ordS a b)) ∧ w = w' := by
  cases h : Op.bytesLess a.toList b.toList
  · cases h2 : (a.toList == b.toList)
    · have E := Aside.mk (ordS_more h h2)
      have hg : ∀ w, (binOp .gtr 9 (.string a) (.string b)).run Try.prog w = .ok (.bool true) w := fun w => by rw [run_gtr, h, h2]; rfl
      go_enter Try.func164, Try.ntmps164
      go_wp2
      go_ret
      exact ⟨ret_int E.out.symm, rfl⟩
    · have E := Aside.mk (ordS_eq h h2)
      have hg : ∀ w, (binOp .gtr 9 (.string a) (.string b)).run Try.prog w = .ok (.bool false) w := fun w => by rw [run_gtr, h, h2]; rfl
      go_enter Try.func164, Try.ntmps164
      go_wp2
      go_ret
      exact ⟨ret_int E.out.symm, rfl⟩
  · have E := Aside.mk (ordS_less h)
    go_enter Try.func164, Try.ntmps164
    go_wp2
    go_ret
    exact ⟨ret_int E.out.symm, rfl⟩
end Go.Proofs.Ytdldgchkinflmaa.Fn
