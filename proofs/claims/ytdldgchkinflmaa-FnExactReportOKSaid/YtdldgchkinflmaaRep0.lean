/- Reports as plain data: when one is right. Conditions: none. -/
import Derived.Test.YtdldgchkinflmaaGReport
import Derived.Test.YtdldgchkinflmaaTm14
set_option linter.unusedVariables false
namespace Go.Proofs.Ytdldgchkinflmaa.Fn
open Go.RowKit Go.Proofs.Ytdldgchkinflmaa.Lib Go.Proofs.Ytdldgchkinflmaa.Plan

def clkB (n : Int) : Bool := decide (0 ≤ n) && decide (n ≤ 1000000000000000)
def posB (n : Int) : Bool := decide (1 ≤ n) && decide (n ≤ 1000000000000000)
/-- Each number is in its bounds and, if 'strict', above the one ahead of it. -/
def stepB (strict : Bool) (xs : List Int) (j : Nat) : Bool := posB (xs.getD j 0) && !(strict && decide (0 < j) && decide (xs.getD j 0 ≤ xs.getD (j - 1) 0))
def riseB (strict : Bool) (xs : List Int) : Bool := (List.range xs.length).all (stepB strict xs)
theorem range_bad {f : Nat → Bool} {n j : Nat} (h : j < n) (hf : f j = false) : (List.range n).all f = false := by
  rw [List.all_eq_false]
  exact ⟨j, List.mem_range.2 h, by simp [hf]⟩
theorem range_good {f : Nat → Bool} {n : Nat} (h : ∀ j, j < n → f j = true) : (List.range n).all f = true := by
  rw [List.all_eq_true]
  exact fun j hj => h j (List.mem_range.1 hj)
theorem all_bad {α : Type} {p : α → Bool} {xs : List α} {j : Nat} (h : j < xs.length) (hf : p xs[j] = false) : xs.all p = false := by
  rw [List.all_eq_false]
  exact ⟨xs[j], List.getElem_mem h, by simp [hf]⟩
theorem all_good {α : Type} {p : α → Bool} {xs : List α} (h : ∀ (j : Nat) (h : j < xs.length), p xs[j] = true) : xs.all p = true := by
  rw [List.all_eq_true]
  intro x hx
  obtain ⟨j, hj, rfl⟩ := List.mem_iff_getElem.1 hx
  exact h j hj
def nam0B (s : ByteArray) : Bool := decide (s.size = 0) || nameB s
def evB (e : AEvent) : Bool := clkB e.1 && (decide (1 ≤ e.2.1) && (decide (e.2.1 ≤ 9) && (clkB e.2.2.1 && e.2.2.2.okB)))
def prB (p : AProc) : Bool :=
  (decide (0 ≤ p.2.2.1) && decide (p.2.2.1 ≤ 2)) && (nam0B p.2.2.2.2.1 && (decide (p.2.2.2.2.2.1.length ≤ 500) && (p.2.2.2.2.2.1.all T.okB && (decide (p.2.2.2.2.2.2.1.length ≤ 60) && (riseB true p.2.2.2.2.2.2.1 && clkB p.2.2.2.2.2.2.2)))))
def pidsR (ps : List AProc) : List Int := ps.map (fun p => p.1)
def repB (r : AReport) : Bool :=
  clkB r.1 && (clkB r.2.1 && (decide (r.2.2.1.length ≤ 400) && (decide (r.2.2.2.1.length ≤ 60) && (decide (r.2.2.2.2.length ≤ 60) && (riseB false r.2.2.2.2 && (r.2.2.1.all evB && (r.2.2.2.1.all prB && riseB true (pidsR r.2.2.2.1))))))))
theorem riseB_nil (s : Bool) : riseB s [] = true := rfl
/-- Without order: each number in its bounds. -/
theorem rise_plain (xs : List Int) : riseB false xs = xs.all posB := by
  rw [Bool.eq_iff_iff, riseB, List.all_eq_true, List.all_eq_true]
  constructor
  · intro h x hx
    obtain ⟨j, hj, rfl⟩ := List.mem_iff_getElem.1 hx
    have := h j (List.mem_range.2 hj)
    simpa [stepB, List.getD_eq_getElem?_getD, List.getElem?_eq_getElem hj] using this
  · intro h j hj
    have hj := List.mem_range.1 hj
    simpa [stepB, List.getD_eq_getElem?_getD, List.getElem?_eq_getElem hj] using h xs[j] (List.getElem_mem hj)
end Go.Proofs.Ytdldgchkinflmaa.Fn
