/- Walks of the reserved words and of names that are atoms. Conditions: those of each theorem. -/
import Derived.Test.YtjjnlbimegabpaaNames
set_option linter.unusedVariables false
namespace Go.Proofs.Ytjjnlbimegabpaa.Fn
open Go.RowKit Go.Proofs.Ytjjnlbimegabpaa.Lib

def resWords : List (List UInt8) := [[97, 102, 116, 101, 114], [97, 110, 100], [97, 110, 100, 97, 108, 115, 111], [98, 101, 103, 105, 110], [99, 97, 115, 101], [99, 97, 116, 99, 104], [100, 105, 118], [101, 110, 100], [101, 120, 112, 111, 114, 116], [102, 117, 110], [109, 111, 100, 117, 108, 101], [110, 111, 116], [111, 102], [111, 114], [111, 114, 101, 108, 115, 101], [114, 101, 99, 101, 105, 118, 101], [114, 101, 109], [116, 114, 121], [119, 104, 101, 110]]
def reservedB (s : ByteArray) : Bool := resWords.any (fun r => s.toList == r)
set_option maxRecDepth 100000 in
set_option maxHeartbeats 1000000 in
theorem isReserved (s : ByteArray) (w : World) : Calls Try.prog 85 #[.string s] w fun e w' => e = .returned (.bool (reservedB s)) ∧ w = w' := by
  go_enter Try.func85, Try.ntmps85
  go_wp2
  all_goals
    go_ret
    refine ⟨ret_bool ?_, rfl⟩
    first
    | (exfalso; simp_all; done)
    | (simp_all [reservedB, resWords]; done)
    | trace_state
set_option maxRecDepth 100000 in
set_option maxHeartbeats 1000000 in
theorem l03Reserved (s : ByteArray) (w : World) : Calls Try.prog 76 #[.string s] w fun e w' => e = .returned (.bool (reservedB s)) ∧ w = w' := by
  go_enter Try.func76, Try.ntmps76
  go_wp2
  all_goals
    go_ret
    refine ⟨ret_bool ?_, rfl⟩
    first
    | (exfalso; simp_all; done)
    | (simp_all [reservedB, resWords]; done)
    | trace_state
def atomB (s : ByteArray) : Bool := nameB s && !reservedB s
theorem l03Atom (s : ByteArray) (w : World) (h : s.size ≤ 9223372036854775807) : Calls Try.prog 62 #[.string s] w fun e w' => e = .returned (.bool (atomB s)) ∧ w = w' := by
  cases hn : nameB s
  · have HN := Aside.mk hn
    clear hn
    go_enter Try.func62, Try.ntmps62
    go_wp2_with fail
    refine (l01Name s _ h).mono ?_
    rintro e w' ⟨rfl, rfl⟩
    rw [HN.out]
    go_wp2
    go_ret
    exact ⟨ret_bool (by rw [atomB, HN.out]; rfl), rfl⟩
  · have HN := Aside.mk hn
    clear hn
    go_enter Try.func62, Try.ntmps62
    go_wp2_with fail
    refine (l01Name s _ h).mono ?_
    rintro e w' ⟨rfl, rfl⟩
    rw [HN.out]
    go_wp2_with fail
    refine (l03Reserved s _).mono ?_
    rintro e w' ⟨rfl, rfl⟩
    go_wp2
    go_ret
    exact ⟨ret_bool (by rw [atomB, HN.out]; rfl), rfl⟩
theorem atomOK (s : ByteArray) (w : World) (h : s.size ≤ 9223372036854775807) : Calls Try.prog 78 #[.string s] w fun e w' => e = .returned (.bool (atomB s)) ∧ w = w' := by
  cases hn : nameB s
  · have HN := Aside.mk hn
    clear hn
    go_enter Try.func78, Try.ntmps78
    go_wp2_with fail
    refine (nameOK s _ h).mono ?_
    rintro e w' ⟨rfl, rfl⟩
    rw [HN.out]
    go_wp2
    go_ret
    exact ⟨ret_bool (by rw [atomB, HN.out]; rfl), rfl⟩
  · have HN := Aside.mk hn
    clear hn
    go_enter Try.func78, Try.ntmps78
    go_wp2_with fail
    refine (nameOK s _ h).mono ?_
    rintro e w' ⟨rfl, rfl⟩
    rw [HN.out]
    go_wp2_with fail
    refine (isReserved s _).mono ?_
    rintro e w' ⟨rfl, rfl⟩
    go_wp2
    go_ret
    exact ⟨ret_bool (by rw [atomB, HN.out]; rfl), rfl⟩
end Go.Proofs.Ytjjnlbimegabpaa.Fn
