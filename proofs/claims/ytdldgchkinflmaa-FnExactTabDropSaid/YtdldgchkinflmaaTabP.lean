/- When a table is one: two ways to say it. Conditions: none. -/
import Derived.Test.YtdldgchkinflmaaOrd
set_option linter.unusedVariables false
namespace Go.Proofs.Ytdldgchkinflmaa.Lib
open Go.RowKit Go.Proofs.Ytdldgchkinflmaa.Fn

/-- A row's key. -/
def keyT (r : T) : T := r.kids.headD r
def rowB (r : T) : Bool := r.okB && (decide (r.kind = 6) && decide (0 < r.kids.length))
/-- A row against those ahead of it, the next aheadT first: as the reference has it. -/
def innerS (ty : Int) : List T → T → Bool
  | [], _ => true
  | p :: ps, r =>
    if 0 < T.cmp (keyT p) (keyT r) ∨ (T.cmp (keyT p) (keyT r) = 0 ∧ ty = 1) ∨ (ty = 2 ∧ T.cmp p r = 0) then false
    else if T.cmp (keyT p) (keyT r) < 0 then true else innerS ty ps r
/-- .. as the program has it: the bag's own rounds. -/
def bagI (ty : Int) : List T → T → Bool
  | [], _ => true
  | p :: ps, r => if ty = 2 ∧ T.cmp (keyT p) (keyT r) = 0 then (if T.cmp p r = 0 then false else bagI ty ps r) else true
theorem bagI_no {ty : Int} (h : ty ≠ 2) (ps : List T) (r : T) : bagI ty ps r = true := by
  cases ps with
  | nil => rfl
  | cons p ps => rw [bagI, if_neg (by omega)]
def innerI (ty : Int) : List T → T → Bool
  | [], _ => true
  | p :: ps, r => if 0 < T.cmp (keyT p) (keyT r) ∨ (T.cmp (keyT p) (keyT r) = 0 ∧ ty = 1) then false else bagI ty (p :: ps) r
def goS (ty : Int) : List T → List T → Bool
  | _, [] => true
  | P, r :: rs => rowB r && (innerS ty P r && goS ty (r :: P) rs)
def goI (ty : Int) : List T → List T → Bool
  | _, [] => true
  | P, r :: rs => rowB r && (innerI ty P r && goI ty (r :: P) rs)
/-- Each key is not above the one behind it. -/
def Sorted : List T → Prop
  | p :: q :: ps => T.cmp (keyT q) (keyT p) ≤ 0 ∧ Sorted (q :: ps)
  | _ => True
theorem inner_tail (ty : Int) (hty : ty ≠ 1) : ∀ (ps : List T) (p r : T), Sorted (p :: ps) → keyT p = keyT r → innerS ty ps r = bagI ty ps r
  | [], _, _, _, _ => rfl
  | q :: ps, p, r, hs, hk => by
    have h1 : T.cmp (keyT q) (keyT r) ≤ 0 := by rw [← hk]; exact hs.1
    rw [innerS, bagI]
    by_cases e : T.cmp (keyT q) (keyT r) = 0
    · have hk2 := cmp_zero _ _ e
      have ih := inner_tail ty hty ps q r hs.2 hk2
      by_cases e2 : ty = 2
      · by_cases e3 : T.cmp q r = 0
        · rw [if_pos (Or.inr (Or.inr ⟨e2, e3⟩)), if_pos ⟨e2, e⟩, if_pos e3]
        · rw [if_neg (by omega), if_neg (by omega), if_pos ⟨e2, e⟩, if_neg e3, ih]
      · rw [if_neg (by omega), if_neg (by omega), if_neg (by omega), ih]
        cases ps with
        | nil => rfl
        | cons u ps => rw [bagI, if_neg (by omega)]
    · have e3 : T.cmp q r ≠ 0 := fun h => e (by rw [cmp_zero _ _ h]; exact cmp_self _)
      rw [if_neg (by omega), if_pos (by omega), if_neg (by omega)]
theorem inner_eq (ty : Int) (P : List T) (r : T) (hs : Sorted P) : innerS ty P r = innerI ty P r := by
  cases P with
  | nil => rfl
  | cons p ps =>
    rw [innerS, innerI]
    by_cases h1 : 0 < T.cmp (keyT p) (keyT r)
    · rw [if_pos (Or.inl h1), if_pos (Or.inl h1)]
    · by_cases h2 : T.cmp (keyT p) (keyT r) = 0 ∧ ty = 1
      · rw [if_pos (Or.inr (Or.inl h2)), if_pos (Or.inr h2)]
      · rw [if_neg (show ¬ (0 < T.cmp (keyT p) (keyT r) ∨ (T.cmp (keyT p) (keyT r) = 0 ∧ ty = 1)) by omega), bagI]
        by_cases e : T.cmp (keyT p) (keyT r) = 0
        · have hk := cmp_zero _ _ e
          have hty : ty ≠ 1 := fun h => h2 ⟨e, h⟩
          have ih := inner_tail ty hty ps p r hs hk
          by_cases e2 : ty = 2
          · by_cases e3 : T.cmp p r = 0
            · rw [if_pos (Or.inr (Or.inr ⟨e2, e3⟩)), if_pos ⟨e2, e⟩, if_pos e3]
            · rw [if_neg (by omega), if_neg (by omega), if_pos ⟨e2, e⟩, if_neg e3, ih]
          · rw [if_neg (by omega), if_neg (by omega), if_neg (by omega), ih]
            cases ps with
            | nil => rfl
            | cons u ps => rw [bagI, if_neg (by omega)]
        · have e3 : T.cmp p r ≠ 0 := fun h => e (by rw [cmp_zero _ _ h]; exact cmp_self _)
          rw [if_neg (by omega), if_pos (by omega), if_neg (by omega)]
theorem sorted_next {ty : Int} {P : List T} {r : T} (hs : Sorted P) (h : innerI ty P r = true) : Sorted (r :: P) := by
  cases P with
  | nil => trivial
  | cons p ps =>
    refine ⟨?_, hs⟩
    rw [innerI] at h
    split at h
    · cases h
    · omega
theorem go_eq (ty : Int) : ∀ (rs P : List T), Sorted P → goS ty P rs = goI ty P rs
  | [], _, _ => rfl
  | r :: rs, P, hs => by
    rw [goS, goI, inner_eq ty P r hs]
    cases hi : innerI ty P r with
    | false => simp
    | true => rw [go_eq ty rs (r :: P) (sorted_next hs hi)]
/-- those ahead of a place, the next aheadT first. -/
def aheadT (rows : List T) (i : Nat) : List T := (rows.take i).reverse
theorem aheadT_succ (rows : List T) (i : Nat) (h : i < rows.length) : aheadT rows (i + 1) = rows[i] :: aheadT rows i := by
  rw [aheadT, List.take_succ_eq_append_getElem h, List.reverse_append]
  rfl
def tabB (ty : Int) (rows : List T) : Bool := decide (1 ≤ ty ∧ ty ≤ 3) && (decide (rows.length ≤ 500) && goI ty [] rows)
theorem goI_step (ty : Int) (rows : List T) (i : Nat) (h : i < rows.length) : goI ty (aheadT rows i) (rows.drop i) = (rowB rows[i] && (innerI ty (aheadT rows i) rows[i] && goI ty (aheadT rows (i + 1)) (rows.drop (i + 1)))) := by
  rw [List.drop_eq_getElem_cons h, goI, aheadT_succ rows i h]
theorem goS_step (ty : Int) (rows : List T) (i : Nat) (h : i < rows.length) : goS ty (aheadT rows i) (rows.drop i) = (rowB rows[i] && (innerS ty (aheadT rows i) rows[i] && goS ty (aheadT rows (i + 1)) (rows.drop (i + 1)))) := by
  rw [List.drop_eq_getElem_cons h, goS, aheadT_succ rows i h]
theorem tabB_S (ty : Int) (rows : List T) : tabB ty rows = (decide (1 ≤ ty ∧ ty ≤ 3) && (decide (rows.length ≤ 500) && goS ty [] rows)) := by
  rw [tabB, go_eq ty rows [] trivial]
end Go.Proofs.Ytdldgchkinflmaa.Lib
