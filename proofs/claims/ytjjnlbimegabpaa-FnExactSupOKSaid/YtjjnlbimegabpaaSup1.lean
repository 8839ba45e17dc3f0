/- Walk of kidOK. Conditions: those of each theorem. -/
import Derived.Test.YtjjnlbimegabpaaSup0
import Derived.Test.YtjjnlbimegabpaaRec
set_option linter.unusedVariables false
namespace Go.Proofs.Ytjjnlbimegabpaa.Fn
open Go.RowKit Go.Proofs.Ytjjnlbimegabpaa.Lib

def kidB (s : ByteArray) (r st : Int) : Bool := atomB s && decide (1 ≤ r ∧ r ≤ 3) && decide (-1 ≤ st ∧ st ≤ 1000000000)
theorem kidOK (s : ByteArray) (r st : Int) (w : World) (h : s.size ≤ 9223372036854775807) : Calls Try.prog 64 #[.agg #[.string s, .int .i64 r, .int .i64 st]] w fun e w' => e = .returned (.bool (kidB s r st)) ∧ Below w.heap.size w w' := by
  have C0 := Aside.mk ((Below.refl w.heap.size w).alloc (Nat.le_refl _) (.cells #[.string s, .int .i64 r, .int .i64 st] 90))
  cases hn : atomB s
  · have HN := Aside.mk hn
    clear hn
    go_enter Try.func64, Try.ntmps64
    go_wp2_with fail
    refine (atomOK s _ h).mono ?_
    rintro e w' ⟨rfl, rfl⟩
    rw [HN.out]
    go_wp2
    go_ret
    exact ⟨ret_bool (by rw [kidB, HN.out]; rfl), C0.out⟩
  · have HN := Aside.mk hn
    clear hn
    have key : r < 1 ∨ (1 ≤ r ∧ 3 < r) ∨ ((1 ≤ r ∧ r ≤ 3) ∧ st < -1) ∨ ((1 ≤ r ∧ r ≤ 3) ∧ -1 ≤ st ∧ 1000000000 < st) ∨ ((1 ≤ r ∧ r ≤ 3) ∧ -1 ≤ st ∧ st ≤ 1000000000) := by omega
    rcases key with h1 | ⟨h1, h2⟩ | ⟨⟨h1, h2⟩, h3⟩ | ⟨⟨h1, h2⟩, h3, h4⟩ | ⟨⟨h1, h2⟩, h3, h4⟩
    · have d := Aside.mk (decide_eq_false (show ¬ (1 ≤ r ∧ r ≤ 3) by omega))
      go_enter Try.func64, Try.ntmps64
      go_wp2_with fail
      refine (atomOK s _ h).mono ?_
      rintro e w' ⟨rfl, rfl⟩
      rw [HN.out]
      go_wp2
      go_ret
      exact ⟨ret_bool (by rw [kidB, HN.out, d.out]; rfl), C0.out⟩
    · have d := Aside.mk (decide_eq_false (show ¬ (1 ≤ r ∧ r ≤ 3) by omega))
      go_enter Try.func64, Try.ntmps64
      go_wp2_with fail
      refine (atomOK s _ h).mono ?_
      rintro e w' ⟨rfl, rfl⟩
      rw [HN.out]
      go_wp2
      go_ret
      exact ⟨ret_bool (by rw [kidB, HN.out, d.out]; rfl), C0.out⟩
    · have d := Aside.mk (decide_eq_true (show (1 ≤ r ∧ r ≤ 3) by omega))
      have d2 := Aside.mk (decide_eq_false (show ¬ (-1 ≤ st ∧ st ≤ 1000000000) by omega))
      go_enter Try.func64, Try.ntmps64
      go_wp2_with fail
      refine (atomOK s _ h).mono ?_
      rintro e w' ⟨rfl, rfl⟩
      rw [HN.out]
      go_wp2
      go_ret
      exact ⟨ret_bool (by rw [kidB, HN.out, d.out, d2.out]; rfl), C0.out⟩
    · have d := Aside.mk (decide_eq_true (show (1 ≤ r ∧ r ≤ 3) by omega))
      have d2 := Aside.mk (decide_eq_false (show ¬ (-1 ≤ st ∧ st ≤ 1000000000) by omega))
      go_enter Try.func64, Try.ntmps64
      go_wp2_with fail
      refine (atomOK s _ h).mono ?_
      rintro e w' ⟨rfl, rfl⟩
      rw [HN.out]
      go_wp2
      go_ret
      exact ⟨ret_bool (by rw [kidB, HN.out, d.out, d2.out]; exact decide_eq_false (by omega)), C0.out⟩
    · have d := Aside.mk (decide_eq_true (show (1 ≤ r ∧ r ≤ 3) by omega))
      have d2 := Aside.mk (decide_eq_true (show (-1 ≤ st ∧ st ≤ 1000000000) by omega))
      go_enter Try.func64, Try.ntmps64
      go_wp2_with fail
      refine (atomOK s _ h).mono ?_
      rintro e w' ⟨rfl, rfl⟩
      rw [HN.out]
      go_wp2
      go_ret
      exact ⟨ret_bool (by rw [kidB, HN.out, d.out, d2.out]; rfl), C0.out⟩
end Go.Proofs.Ytjjnlbimegabpaa.Fn
