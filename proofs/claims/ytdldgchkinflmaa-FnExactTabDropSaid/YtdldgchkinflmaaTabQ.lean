/- The rows of a key in a right table: as a filter, and as a span. Conditions: those of each theorem. -/
import Derived.Test.YtdldgchkinflmaaTabP
set_option linter.unusedVariables false
namespace Go.Proofs.Ytdldgchkinflmaa.Lib
open Go.RowKit Go.Proofs.Ytdldgchkinflmaa.Fn

def sameK (key r : T) : Bool := decide (T.cmp (keyT r) key = 0)
def geK (key r : T) : Bool := decide (0 ≤ T.cmp (keyT r) key)
/-- Each key is not above any behind it. -/
def Up : List T → Prop
  | [] => True
  | r :: rs => (∀ x ∈ rs, T.cmp (keyT r) (keyT x) ≤ 0) ∧ Up rs
theorem goI_up (ty : Int) : ∀ (rs : List T) (p : T) (ps : List T), goI ty (p :: ps) rs = true → Up (p :: rs)
  | [], p, ps, _ => ⟨fun x hx => (List.not_mem_nil hx).elim, trivial⟩
  | r :: rs, p, ps, h => by
    rw [goI] at h
    simp only [Bool.and_eq_true] at h
    have h1 : T.cmp (keyT p) (keyT r) ≤ 0 := by
      have := h.2.1
      rw [innerI] at this
      split at this
      · cases this
      · omega
    have ih := goI_up ty rs r (p :: ps) h.2.2
    refine ⟨fun x hx => ?_, ih⟩
    rcases List.mem_cons.1 hx with rfl | hx
    · exact h1
    · have h2 := ih.1 x hx
      have tr := cmp_TR (keyT p) (keyT r) (keyT x)
      exact tr.le h1 h2
theorem tabB_up {ty : Int} {rows : List T} (h : tabB ty rows = true) : Up rows := by
  simp only [tabB, Bool.and_eq_true] at h
  have h2 := h.2.2
  cases rows with
  | nil => trivial
  | cons r rs =>
    rw [goI] at h2
    simp only [Bool.and_eq_true] at h2
    exact goI_up ty rs r [] h2.2.2
/-- How many of the first rows are below the key, and how many from there on have it. -/
def fromK (key : T) (rows : List T) : Nat := (rows.takeWhile fun r => !geK key r).length
def sames (key : T) (rows : List T) : Nat := (rows.takeWhile (sameK key)).length
theorem above (key r x : T) (h : T.cmp (keyT r) (keyT x) ≤ 0) (hr : 0 < T.cmp (keyT r) key) : 0 < T.cmp (keyT x) key := by
  by_cases hx : T.cmp (keyT x) key ≤ 0
  · have := (cmp_TR (keyT r) (keyT x) key).le h hx
    omega
  · omega
theorem filter_same (key : T) : ∀ rows, Up rows → rows.filter (sameK key) = (rows.drop (fromK key rows)).take (sames key (rows.drop (fromK key rows)))
  | [], _ => rfl
  | r :: rs, h => by
    by_cases h1 : T.cmp (keyT r) key < 0
    · have e1 : sameK key r = false := by simp only [sameK, decide_eq_false_iff_not]; omega
      have e2 : geK key r = false := by simp only [geK, decide_eq_false_iff_not]; omega
      have e3 : fromK key (r :: rs) = fromK key rs + 1 := by rw [fromK, fromK, List.takeWhile_cons, e2]; rfl
      rw [List.filter_cons, e1, e3, List.drop_succ_cons]
      simp only [Bool.false_eq_true, if_false]
      exact filter_same key rs h.2
    · have e2 : geK key r = true := by simp only [geK, decide_eq_true_eq]; omega
      have e3 : fromK key (r :: rs) = 0 := by rw [fromK, List.takeWhile_cons, e2]; rfl
      rw [e3, List.drop_zero]
      exact filter_while key (r :: rs) h (fun x hx => by
        rcases List.mem_cons.1 hx with rfl | hx
        · omega
        · by_cases e : T.cmp (keyT r) key = 0
          · have hz := cmp_zero _ _ e
            have := h.1 x hx
            rw [hz] at this
            have hn := cmp_neg key (keyT x)
            omega
          · have := above key r x (h.1 x hx) (by omega)
            omega)
where
  filter_while (key : T) : ∀ rows, Up rows → (∀ x ∈ rows, 0 ≤ T.cmp (keyT x) key) → rows.filter (sameK key) = rows.take (sames key rows)
    | [], _, _ => rfl
    | r :: rs, h, hge => by
      by_cases e : T.cmp (keyT r) key = 0
      · have e1 : sameK key r = true := by simp only [sameK, decide_eq_true_eq]; exact e
        have e3 : sames key (r :: rs) = sames key rs + 1 := by rw [sames, sames, List.takeWhile_cons, e1]; rfl
        rw [List.filter_cons, e1, e3, List.take_succ_cons, if_pos rfl]
        exact congrArg _ (filter_while key rs h.2 (fun x hx => hge x (List.mem_cons_of_mem _ hx)))
      · have e1 : sameK key r = false := by simp only [sameK, decide_eq_false_iff_not]; exact e
        have e3 : sames key (r :: rs) = 0 := by rw [sames, List.takeWhile_cons, e1]; rfl
        have hr := hge r (by simp)
        rw [e3, List.take_zero, List.filter_cons, e1]
        simp only [Bool.false_eq_true, if_false]
        rw [List.filter_eq_nil_iff]
        intro x hx
        have := above key r x (h.1 x hx) (by omega)
        simp only [sameK, decide_eq_true_eq]
        omega
theorem filter_other (key : T) : ∀ rows, Up rows → rows.filter (fun r => !sameK key r) = rows.take (fromK key rows) ++ rows.drop (fromK key rows + sames key (rows.drop (fromK key rows)))
  | [], _ => rfl
  | r :: rs, h => by
    by_cases h1 : T.cmp (keyT r) key < 0
    · have e1 : sameK key r = false := by simp only [sameK, decide_eq_false_iff_not]; omega
      have e2 : geK key r = false := by simp only [geK, decide_eq_false_iff_not]; omega
      have e3 : fromK key (r :: rs) = fromK key rs + 1 := by rw [fromK, fromK, List.takeWhile_cons, e2]; rfl
      rw [List.filter_cons, e1, e3, List.drop_succ_cons, List.take_succ_cons]
      rw [show fromK key rs + 1 + sames key (rs.drop (fromK key rs)) = (fromK key rs + sames key (rs.drop (fromK key rs))) + 1 by omega, List.drop_succ_cons]
      simp only [Bool.not_false, if_true, List.cons_append]
      exact congrArg _ (filter_other key rs h.2)
    · have e2 : geK key r = true := by simp only [geK, decide_eq_true_eq]; omega
      have e3 : fromK key (r :: rs) = 0 := by rw [fromK, List.takeWhile_cons, e2]; rfl
      rw [e3, List.drop_zero, List.take_zero, List.nil_append, Nat.zero_add]
      exact other_while key (r :: rs) h (fun x hx => by
        rcases List.mem_cons.1 hx with rfl | hx
        · omega
        · by_cases e : T.cmp (keyT r) key = 0
          · have hz := cmp_zero _ _ e
            have := h.1 x hx
            rw [hz] at this
            have hn := cmp_neg key (keyT x)
            omega
          · have := above key r x (h.1 x hx) (by omega)
            omega)
where
  other_while (key : T) : ∀ rows, Up rows → (∀ x ∈ rows, 0 ≤ T.cmp (keyT x) key) → rows.filter (fun r => !sameK key r) = rows.drop (sames key rows)
    | [], _, _ => rfl
    | r :: rs, h, hge => by
      by_cases e : T.cmp (keyT r) key = 0
      · have e1 : sameK key r = true := by simp only [sameK, decide_eq_true_eq]; exact e
        have e3 : sames key (r :: rs) = sames key rs + 1 := by rw [sames, sames, List.takeWhile_cons, e1]; rfl
        rw [List.filter_cons, e1, e3, List.drop_succ_cons]
        simp only [Bool.not_true, Bool.false_eq_true, if_false]
        exact other_while key rs h.2 (fun x hx => hge x (List.mem_cons_of_mem _ hx))
      · have e1 : sameK key r = false := by simp only [sameK, decide_eq_false_iff_not]; exact e
        have e3 : sames key (r :: rs) = 0 := by rw [sames, List.takeWhile_cons, e1]; rfl
        have hr := hge r (by simp)
        rw [e3, List.drop_zero, List.filter_eq_self]
        intro x hx
        rcases List.mem_cons.1 hx with rfl | hx
        · rw [e1]; rfl
        · have := above key r x (h.1 x hx) (by omega)
          simp only [sameK, Bool.not_eq_true', decide_eq_false_iff_not]
          omega
end Go.Proofs.Ytdldgchkinflmaa.Lib
