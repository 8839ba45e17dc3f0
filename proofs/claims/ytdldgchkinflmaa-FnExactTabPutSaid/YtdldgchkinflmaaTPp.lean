/- A row put into a right table: round by round, and at its place. What TabPut answers, and that it is a right datum. Conditions: those of each theorem. -/
import Derived.Test.YtdldgchkinflmaaTabo
import Derived.Test.YtdldgchkinflmaaTD1
section
set_option linter.unusedVariables false
namespace Go.Proofs.Ytdldgchkinflmaa.Lib
open Go.RowKit Go.Proofs.Ytdldgchkinflmaa.Fn

/-- A round of the reference. -/
def putStep (ty : Int) (key row : T) (s : List T × Bool) (r : T) : List T × Bool :=
  if T.cmp (keyT r) key = 0 ∧ ty = 1 then (s.1 ++ [row], true)
  else if 0 < T.cmp (keyT r) key ∧ s.2 = false then (s.1 ++ [row] ++ [r], true)
  else (s.1 ++ [r], s.2 || (decide (ty = 2) && decide (T.cmp r row = 0)))
def putFin (row : T) (s : List T × Bool) : List T := if s.2 = true then s.1 else s.1 ++ [row]
def putS (ty : Int) (rows : List T) (row : T) : List T := putFin row (rows.foldl (putStep ty (keyT row) row) ([], false))
def putG (ty : Int) (key row : T) : Bool → List T → List T
  | p, [] => if p = true then [] else [row]
  | p, r :: rs =>
    if T.cmp (keyT r) key = 0 ∧ ty = 1 then row :: putG ty key row true rs
    else if 0 < T.cmp (keyT r) key ∧ p = false then row :: r :: putG ty key row true rs
    else r :: putG ty key row (p || (decide (ty = 2) && decide (T.cmp r row = 0))) rs
theorem fold_go (ty : Int) (key row : T) : ∀ (rs : List T) (o : List T) (p : Bool), putFin row (rs.foldl (putStep ty key row) (o, p)) = o ++ putG ty key row p rs
  | [], o, p => by
    unfold putFin putG
    cases p <;> simp
  | r :: rs, o, p => by
    rw [List.foldl_cons, putG]
    by_cases h1 : T.cmp (keyT r) key = 0 ∧ ty = 1
    · have e : putStep ty key row (o, p) r = (o ++ [row], true) := if_pos h1
      rw [if_pos h1, e, fold_go ty key row rs]
      simp
    · by_cases h2 : 0 < T.cmp (keyT r) key ∧ p = false
      · have e : putStep ty key row (o, p) r = (o ++ [row] ++ [r], true) := (if_neg h1).trans (if_pos h2)
        rw [if_neg h1, if_pos h2, e, fold_go ty key row rs]
        simp
      · have e : putStep ty key row (o, p) r = (o ++ [r], p || (decide (ty = 2) && decide (T.cmp r row = 0))) := (if_neg h1).trans (if_neg h2)
        rw [if_neg h1, if_neg h2, e, fold_go ty key row rs]
        simp
/-- The keys of a set are all unlike. -/
def UpS : List T → Prop
  | [] => True
  | r :: rs => (∀ x ∈ rs, T.cmp (keyT r) (keyT x) < 0) ∧ UpS rs
theorem goI_upS : ∀ (rs : List T) (p : T) (ps : List T), goI 1 (p :: ps) rs = true → UpS (p :: rs)
  | [], p, ps, _ => ⟨fun x hx => (List.not_mem_nil hx).elim, trivial⟩
  | r :: rs, p, ps, h => by
    rw [goI] at h
    simp only [Bool.and_eq_true] at h
    have h1 : T.cmp (keyT p) (keyT r) < 0 := by
      have := h.2.1
      rw [innerI] at this
      split at this
      · cases this
      · omega
    have ih := goI_upS rs r (p :: ps) h.2.2
    refine ⟨fun x hx => ?_, ih⟩
    rcases List.mem_cons.1 hx with rfl | hx
    · exact h1
    · have h2 := ih.1 x hx
      have tr := cmp_TR (keyT p) (keyT r) (keyT x)
      exact tr.lt1 h1 (by omega)
theorem tabB_upS {rows : List T} (h : tabB 1 rows = true) : UpS rows := by
  simp only [tabB, Bool.and_eq_true] at h
  have h2 := h.2.2
  cases rows with
  | nil => trivial
  | cons r rs =>
    rw [goI] at h2
    simp only [Bool.and_eq_true] at h2
    exact goI_upS rs r [] h2.2.2
/-- A row put at its place. -/
def putI (ty : Int) (rows : List T) (row : T) : List T :=
  if ty = 1 ∧ 0 < sames (keyT row) (rows.drop (fromK (keyT row) rows)) then rows.set (fromK (keyT row) rows) row
  else if ty = 2 ∧ ((rows.drop (fromK (keyT row) rows)).take (sames (keyT row) (rows.drop (fromK (keyT row) rows)))).any (fun r => decide (T.cmp r row = 0)) = true then rows
  else rows.take (fromK (keyT row) rows + sames (keyT row) (rows.drop (fromK (keyT row) rows))) ++ row :: rows.drop (fromK (keyT row) rows + sames (keyT row) (rows.drop (fromK (keyT row) rows)))
theorem putG_true (ty : Int) (key row : T) : ∀ rs, (ty = 1 → ∀ x ∈ rs, T.cmp (keyT x) key ≠ 0) → putG ty key row true rs = rs
  | [], _ => by simp [putG]
  | r :: rs, h => by
    rw [putG, if_neg (fun hh => h hh.2 r (by simp) hh.1), if_neg (by simp), Bool.true_or, putG_true ty key row rs (fun e x hx => h e x (by simp [hx]))]
/-- Where no key is below. -/
theorem putG_ge (ty : Int) (row : T) (hty : ty ≠ 1) : ∀ (rs : List T) (p : Bool), Up rs → (∀ x ∈ rs, 0 ≤ T.cmp (keyT x) (keyT row)) →
    putG ty (keyT row) row p rs = if p = true ∨ (ty = 2 ∧ (rs.take (sames (keyT row) rs)).any (fun r => decide (T.cmp r row = 0)) = true) then rs else rs.take (sames (keyT row) rs) ++ row :: rs.drop (sames (keyT row) rs)
  | [], p, _, _ => by cases p <;> simp [putG, sames]
  | r :: rs, p, hup, hge => by
    rw [putG, if_neg (fun h => hty h.2)]
    by_cases e : T.cmp (keyT r) (keyT row) = 0
    · have e1 : sameK (keyT row) r = true := by simp only [sameK, decide_eq_true_eq]; exact e
      have e3 : sames (keyT row) (r :: rs) = sames (keyT row) rs + 1 := by rw [sames, sames, List.takeWhile_cons, e1]; rfl
      rw [if_neg (by omega), e3, List.take_succ_cons, List.drop_succ_cons, List.any_cons, putG_ge ty row hty rs _ hup.2 (fun x hx => hge x (by simp [hx]))]
      by_cases hp : p = true
      · subst hp
        rw [if_pos (Or.inl (by simp)), if_pos (Or.inl rfl)]
      · have hp2 : p = false := by simpa using hp
        subst hp2
        by_cases h2 : ty = 2
        · by_cases h3 : T.cmp r row = 0
          · rw [if_pos (Or.inl (by simp [h2, h3])), if_pos (Or.inr ⟨h2, by simp [h3]⟩)]
          · simp [h2, h3]
            split <;> simp
        · simp [h2]
    · have hr := hge r (by simp)
      have e1 : sameK (keyT row) r = false := by simp only [sameK, decide_eq_false_iff_not]; exact e
      have e3 : sames (keyT row) (r :: rs) = 0 := by rw [sames, List.takeWhile_cons, e1]; rfl
      have ht : putG ty (keyT row) row true rs = rs := putG_true ty _ row rs (fun h => absurd h hty)
      have hne : T.cmp r row ≠ 0 := fun h => e (by rw [cmp_zero _ _ h]; exact cmp_self _)
      rw [e3, List.take_zero, List.drop_zero]
      cases p
      · rw [if_pos ⟨by omega, rfl⟩, ht]
        simp
      · rw [if_neg (by simp), Bool.true_or, ht]
        simp
theorem putG_geS (row : T) : ∀ (rs : List T), UpS rs → (∀ x ∈ rs, 0 ≤ T.cmp (keyT x) (keyT row)) →
    putG 1 (keyT row) row false rs = if 0 < sames (keyT row) rs then rs.set 0 row else row :: rs
  | [], _, _ => by simp [putG, sames]
  | r :: rs, hup, hge => by
    rw [putG]
    by_cases e : T.cmp (keyT r) (keyT row) = 0
    · have e1 : sameK (keyT row) r = true := by simp only [sameK, decide_eq_true_eq]; exact e
      have e3 : sames (keyT row) (r :: rs) = sames (keyT row) rs + 1 := by rw [sames, sames, List.takeWhile_cons, e1]; rfl
      rw [if_pos ⟨e, rfl⟩, e3, if_pos (by omega), List.set_cons_zero, putG_true]
      intro _ x hx h0
      have h1 := hup.1 x hx
      have hz := cmp_zero _ _ e
      rw [hz, cmp_neg (keyT x) (keyT row)] at h1
      omega
    · have hr := hge r (by simp)
      have e1 : sameK (keyT row) r = false := by simp only [sameK, decide_eq_false_iff_not]; exact e
      have e3 : sames (keyT row) (r :: rs) = 0 := by rw [sames, List.takeWhile_cons, e1]; rfl
      rw [if_neg (fun h => e h.1), if_pos ⟨by omega, rfl⟩, e3, if_neg (by omega), putG_true]
      intro _ x hx h0
      have h1 := hup.1 x hx
      have h2 := (cmp_TR (keyT r) (keyT x) (keyT row)).lt1 h1 (by omega)
      omega
theorem putG_place (ty : Int) (row : T) : ∀ rows, Up rows → (ty = 1 → UpS rows) → putG ty (keyT row) row false rows = putI ty rows row
  | [], _, _ => by simp [putG, putI, sames]
  | r :: rs, hup, hs => by
    by_cases h1 : T.cmp (keyT r) (keyT row) < 0
    · have e2 : geK (keyT row) r = false := by simp only [geK, decide_eq_false_iff_not]; omega
      have e3 : fromK (keyT row) (r :: rs) = fromK (keyT row) rs + 1 := by rw [fromK, fromK, List.takeWhile_cons, e2]; rfl
      have hne : T.cmp r row ≠ 0 := fun h => by rw [cmp_zero _ _ h, cmp_self] at h1; omega
      have ih := putG_place ty row rs hup.2 (fun h => (hs h).2)
      rw [putG, if_neg (by omega), if_neg (by omega), decide_eq_false hne, Bool.and_false, Bool.or_false, ih]
      unfold putI
      rw [e3, List.drop_succ_cons]
      rw [show fromK (keyT row) rs + 1 + sames (keyT row) (rs.drop (fromK (keyT row) rs)) = (fromK (keyT row) rs + sames (keyT row) (rs.drop (fromK (keyT row) rs))) + 1 by omega, List.drop_succ_cons, List.take_succ_cons, List.set_cons_succ]
      split
      · rfl
      · split <;> rfl
    · have e2 : geK (keyT row) r = true := by simp only [geK, decide_eq_true_eq]; omega
      have e3 : fromK (keyT row) (r :: rs) = 0 := by rw [fromK, List.takeWhile_cons, e2]; rfl
      have hge : ∀ x ∈ r :: rs, 0 ≤ T.cmp (keyT x) (keyT row) := fun x hx => by
        rcases List.mem_cons.1 hx with rfl | hx
        · omega
        · by_cases e : T.cmp (keyT r) (keyT row) = 0
          · have hz := cmp_zero _ _ e
            have := hup.1 x hx
            rw [hz] at this
            have hn := cmp_neg (keyT row) (keyT x)
            omega
          · have := above (keyT row) r x (hup.1 x hx) (by omega)
            omega
      unfold putI
      rw [e3, List.drop_zero, Nat.zero_add]
      by_cases ht : ty = 1
      · subst ht
        rw [putG_geS row (r :: rs) (hs rfl) hge]
        by_cases h0 : 0 < sames (keyT row) (r :: rs)
        · rw [if_pos h0, if_pos ⟨rfl, h0⟩]
        · have hz : sames (keyT row) (r :: rs) = 0 := by omega
          rw [if_neg h0, if_neg (fun h => h0 h.2), if_neg (by omega), hz]
          simp
      · rw [putG_ge ty row ht (r :: rs) false hup hge, if_neg (show ¬ (ty = 1 ∧ 0 < sames (keyT row) (r :: rs)) from fun h => ht h.1)]
        by_cases h2 : ty = 2 ∧ ((r :: rs).take (sames (keyT row) (r :: rs))).any (fun r => decide (T.cmp r row = 0)) = true
        · rw [if_pos (Or.inr h2), if_pos h2]
        · rw [if_neg (fun h => h.elim (fun h => by cases h) h2), if_neg h2]
theorem putS_putI {ty : Int} {rows : List T} (row : T) (h : tabB ty rows = true) : putS ty rows row = putI ty rows row := by
  unfold putS
  rw [fold_go, List.nil_append]
  exact putG_place ty row rows (tabB_up h) (fun e => by subst e; exact tabB_upS h)
theorem fromK_same_le (key : T) (rows : List T) : fromK key rows + sames key (rows.drop (fromK key rows)) ≤ rows.length := by
  have h1 : fromK key rows ≤ rows.length := (List.takeWhile_sublist _).length_le
  have h2 : sames key (rows.drop (fromK key rows)) ≤ (rows.drop (fromK key rows)).length := (List.takeWhile_sublist _).length_le
  rw [List.length_drop] at h2
  omega
/-- How long the answer is: none is lost, at most one is added. -/
theorem putI_len (ty : Int) (rows : List T) (row : T) : (putI ty rows row).length = rows.length ∨ (putI ty rows row).length = rows.length + 1 := by
  have h := fromK_same_le (keyT row) rows
  unfold putI
  split
  · exact Or.inl (by simp)
  · split
    · exact Or.inl rfl
    · right
      rw [List.length_append, List.length_cons, List.length_take, List.length_drop]
      omega
end Go.Proofs.Ytdldgchkinflmaa.Lib
end
section
set_option linter.unusedVariables false
namespace Go.Proofs.Ytdldgchkinflmaa.Fn
open Go.RowKit Go.Proofs.Ytdldgchkinflmaa.Lib Go.Proofs.Ytdldgchkinflmaa.Plan

/-- A table with a row put in, and how it went. -/
def putR (a : ATable) (row : T) : ATable × Int :=
  if tabB a.1 a.2 && rowB row then (if 500 < (putI a.1 a.2 row).length then ((0, []), 3) else ((a.1, putI a.1 a.2 row), 0)) else ((0, []), 1)
theorem putI_mem {ty : Int} {rows : List T} {row x : T} (h : x ∈ putI ty rows row) : x ∈ rows ∨ x = row := by
  unfold putI at h
  split at h
  · rcases List.mem_or_eq_of_mem_set h with h | h
    · exact Or.inl h
    · exact Or.inr h
  · split at h
    · exact Or.inl h
    · rcases List.mem_append.1 h with h | h
      · exact Or.inl (List.mem_of_mem_take h)
      · rcases List.mem_cons.1 h with h | h
        · exact Or.inr h
        · exact Or.inl (List.mem_of_mem_drop h)
theorem putI_sum (f : T → Nat) (ty : Int) (rows : List T) (row : T) : ((putI ty rows row).map f).sum ≤ (rows.map f).sum + f row := by
  have split : ∀ (l : List T) (k : Nat), ((l.take k).map f).sum + ((l.drop k).map f).sum = (l.map f).sum := fun l k => by
    rw [← List.sum_append, ← List.map_append, List.take_append_drop]
  unfold putI
  split
  · have h1 : ∀ (l : List T) (k : Nat), ((l.set k row).map f).sum ≤ (l.map f).sum + f row := by
      intro l
      induction l with
      | nil => intro k; simp
      | cons x l ih =>
        intro k
        cases k with
        | zero => simp only [List.set_cons_zero, List.map_cons, List.sum_cons]; omega
        | succ k => have := ih k; simp only [List.set_cons_succ, List.map_cons, List.sum_cons]; omega
    exact h1 _ _
  · split
    · omega
    · rw [List.map_append, List.sum_append, List.map_cons, List.sum_cons]
      have := split rows (fromK (keyT row) rows + sames (keyT row) (rows.drop (fromK (keyT row) rows)))
      omega
theorem put_ok {a : ATable} {row : T} (h : RTable.ok a) (hr : Rec.term.ok row) : RTable.ok (putR a row).1 := by
  unfold putR
  split
  · split
    · exact ⟨⟨by decide, by decide⟩, nil_okS⟩
    · refine ⟨h.1, ?_, fun x hx => ?_⟩
      · show (putI _ _ _).length ≤ _
        omega
      · rcases putI_mem hx with hx | rfl
        · exact h.2.2 x hx
        · exact hr
  · exact ⟨⟨by decide, by decide⟩, nil_okS⟩
theorem put_wt {a : ATable} {row : T} (h : RTable.wt a ≤ 1048576) (hr : Rec.term.wt row ≤ 1048576) : RTable.wt (putR a row).1 ≤ 1073741824 := by
  have h2 : Rec.int.wt a.1 + (a.2.length + (a.2.map Rec.term.wt).sum) ≤ 1048576 := h
  unfold putR
  split
  · split
    · show 0 + (0 + 0) ≤ _; omega
    · show Rec.int.wt a.1 + ((putI a.1 a.2 row).length + ((putI a.1 a.2 row).map Rec.term.wt).sum) ≤ _
      have h3 := putI_sum Rec.term.wt a.1 a.2 row
      have h4 := putI_len a.1 a.2 row
      omega
  · show 0 + (0 + 0) ≤ _; omega
end Go.Proofs.Ytdldgchkinflmaa.Fn
end
