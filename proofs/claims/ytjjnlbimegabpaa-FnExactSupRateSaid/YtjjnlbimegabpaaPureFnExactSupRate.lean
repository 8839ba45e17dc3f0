/- The law FnExactSupRate on plain lists: the program's SupRate answers what the reference's answers, and its list is its own. Conditions: those of the printed statement (a list of at most 2^47 bytes of 64-bit numbers). -/
import Derived.Test.YtjjnlbimegabpaaPFnExactSupRatex3
import Derived.Test.YtjjnlbimegabpaaEvt
namespace Go.Proofs.Ytjjnlbimegabpaa.Pure
open Go.RowKit Go.Proofs.Ytjjnlbimegabpaa.PFnExactSupRate Go.Proofs.YtjjnlbimegabpaaW.PrintWords Go.Proofs.YtjjnlbimegabpaaW.PrintLast Go.Proofs.Ytjjnlbimegabpaa.Evt
namespace SupRate
theorem rd_eq {l : List Int} {i : Nat} (h : i < l.length) : rd l (i : Int) = l[i] := by
  unfold rd
  rw [Int.toNat_natCast, List.getD_eq_getElem?_getD, List.getElem?_eq_getElem h]
  rfl

theorem toIntS_loop (l : List Int) (hl : l.length ≤ 1048576) : ∀ (d i : Nat) (acc : List Int), i + d = l.length → acc.length = l.length → (∀ j, j < i → acc[j]? = l[j]?) →
    Evt (fun k => laws_toIntS.l0 k l acc (i : Int)) l := by
  intro d
  induction d with
  | zero =>
    intro i acc hi ha hj
    refine Evt.step ?_
    simp only [laws_toIntS.l0]
    refine Evt.neg (by omega) (Evt.const ?_)
    congr 1
    refine List.ext_getElem? fun j => ?_
    by_cases h : j < i
    · exact hj j h
    · rw [List.getElem?_eq_none (by omega), List.getElem?_eq_none (by omega)]
  | succ d ih =>
    intro i acc hi ha hj
    refine Evt.step ?_
    simp only [laws_toIntS.l0]
    refine Evt.pos (by omega) (Evt.pos (by omega) (Evt.pos (by omega) ?_))
    rw [wrap64_succ (by omega), Int.toNat_natCast]
    refine ih (i + 1) _ (by omega) (by rw [List.length_set]; exact ha) fun j hlt => ?_
    by_cases h : j = i
    · subst h
      rw [List.getElem?_set_self (by omega), rd_eq (by omega), List.getElem?_eq_getElem (by omega)]
    · rw [List.getElem?_set_ne (by omega)]
      exact hj j (by omega)
theorem toIntS_ok (l : List Int) (hl : l.length ≤ 1048576) : Evt (fun k => laws_toIntS.f k l) l := by
  unfold laws_toIntS.f
  refine Evt.pos (by omega) (Evt.pos (by omega) ?_)
  exact toIntS_loop l hl l.length 0 _ (by omega) (by rw [List.length_replicate]; omega) (fun j h => by omega)

theorem eqIntS_loop (l : List Int) (hl : l.length ≤ 1048576) : ∀ (d i : Nat), i + d = l.length → Evt (fun k => laws_eqIntS.l0 k l l (i : Int)) true := by
  intro d
  induction d with
  | zero =>
    intro i hi
    refine Evt.step ?_
    simp only [laws_eqIntS.l0]
    exact Evt.neg (by omega) (Evt.ret _)
  | succ d ih =>
    intro i hi
    refine Evt.step ?_
    simp only [laws_eqIntS.l0]
    refine Evt.pos (by omega) (Evt.pos (by omega) (Evt.pos (by omega) (Evt.pos trivial ?_)))
    rw [wrap64_succ (by omega)]
    exact ih (i + 1) (by omega)
theorem eqIntS_ok (l : List Int) (hl : l.length ≤ 1048576) : Evt (fun k => laws_eqIntS.f k l l) true := by
  unfold laws_eqIntS.f
  exact Evt.pos rfl (eqIntS_loop l hl l.length 0 (by omega))

def marks (n : Nat) : List Int := (List.range n).map (fun (i : Nat) => 1 + (i : Int))
theorem marks_get {n j : Nat} (h : j < n) : (marks n)[j]? = some (1 + (j : Int)) := by simp [marks, h]
theorem marks_length (n : Nat) : (marks n).length = n := by simp [marks]
theorem mark_loop (n : Nat) (hn : n ≤ 1048576) : ∀ (d i : Nat) (acc : List Int), i + d = n → acc.length = n → (∀ j, j < i → acc[j]? = some (1 + (j : Int))) →
    Evt (fun k => laws_markIntS.l0 k acc (1 + (i : Int)) (i : Int)) (1 + (n : Int), marks n) := by
  intro d
  induction d with
  | zero =>
    intro i acc hi ha hj
    refine Evt.step ?_
    simp only [laws_markIntS.l0]
    refine Evt.neg (by omega) (Evt.const ?_)
    have e : acc = marks n := by
      refine List.ext_getElem? fun j => ?_
      by_cases h : j < i
      · rw [hj j h, marks_get (by omega)]
      · rw [List.getElem?_eq_none (by omega), List.getElem?_eq_none (by rw [marks_length]; omega)]
    rw [e, show i = n by omega]
  | succ d ih =>
    intro i acc hi ha hj
    refine Evt.step ?_
    simp only [laws_markIntS.l0]
    refine Evt.pos (by omega) (Evt.pos (by omega) ?_)
    rw [wrap64_succ (by omega), Int.toNat_natCast, wrap64_id (n := 1 + (i : Int) + 1) (by omega) (by omega), show (1 : Int) + i + 1 = 1 + ((i + 1 : Nat) : Int) by omega]
    refine ih (i + 1) _ (by omega) (by rw [List.length_set]; exact ha) fun j hlt => ?_
    by_cases h : j = i
    · subst h
      rw [List.getElem?_set_self (by omega)]
    · rw [List.getElem?_set_ne (by omega)]
      exact hj j (by omega)
theorem mark_ok (l : List Int) (hl : l.length ≤ 1048576) : Evt (fun k => laws_markIntS.f k l 1) (1 + (l.length : Int), marks l.length) := by
  unfold laws_markIntS.f
  exact mark_loop l.length hl l.length 0 l (by omega) rfl (fun j h => by omega)
theorem held_loop (n : Nat) (hn : n ≤ 1048576) : ∀ (d i : Nat), i + d = n → Evt (fun k => laws_heldIntS.l0 k (marks n) (1 + (i : Int)) (i : Int)) (1 + (n : Int)) := by
  intro d
  induction d with
  | zero =>
    intro i hi
    refine Evt.step ?_
    simp only [laws_heldIntS.l0]
    refine Evt.neg (by rw [marks_length]; omega) (Evt.const ?_)
    rw [show i = n by omega]
  | succ d ih =>
    intro i hi
    refine Evt.step ?_
    simp only [laws_heldIntS.l0]
    have e : rd (marks n) (i : Int) = 1 + (i : Int) := by
      unfold rd
      rw [Int.toNat_natCast, List.getD_eq_getElem?_getD, marks_get (by omega)]
      rfl
    refine Evt.pos (by rw [marks_length]; omega) (Evt.pos (by omega) (Evt.pos e ?_))
    rw [wrap64_succ (by omega), wrap64_id (n := 1 + (i : Int) + 1) (by omega) (by omega), show (1 : Int) + i + 1 = 1 + ((i + 1 : Nat) : Int) by omega]
    exact ih (i + 1) (by omega)
theorem held_ok (n : Nat) (hn : n ≤ 1048576) : Evt (fun k => laws_heldIntS.f k (marks n) 1) (1 + (n : Int)) := by
  unfold laws_heldIntS.f
  exact held_loop n hn n 0 (by omega)

theorem sBetween (a lo hi : Int) : Evt (fun _ => spec_l05Between.f a lo hi) (decide (lo ≤ a ∧ a ≤ hi)) := by
  unfold spec_l05Between.f
  by_cases h : a ≥ lo
  · exact Evt.pos h (Evt.const (by congr 1; simp; omega))
  · exact Evt.neg h (Evt.const (by congr 1; simp; omega))
theorem iClock (a : Int) : Evt (fun _ => impl_inClock.f a) (decide (0 ≤ a ∧ a ≤ 1000000000000000)) := by
  unfold impl_inClock.f
  by_cases h : a ≥ 0
  · exact Evt.pos h (Evt.const (by congr 1; simp; omega))
  · exact Evt.neg h (Evt.const (by congr 1; simp; omega))
def inC (a : Int) : Bool := decide (0 ≤ a ∧ a ≤ 1000000000000000)
/-- What is kept of times from place i on. -/
def kept (now period : Int) (l : List Int) : List Int := l.filter fun t => decide (wrap64 (t + period) > now)
theorem kept_nil (now period : Int) : kept now period [] = [] := rfl
theorem kept_yes {now period t : Int} (h : wrap64 (t + period) > now) (l : List Int) : kept now period (t :: l) = t :: kept now period l := by
  unfold kept
  rw [List.filter_cons_of_pos (by simpa using h)]
theorem kept_no {now period t : Int} (h : ¬ wrap64 (t + period) > now) (l : List Int) : kept now period (t :: l) = kept now period l := by
  unfold kept
  rw [List.filter_cons_of_neg (by simpa using h)]
theorem app_cons (a : List Int) (t : Int) (l m : List Int) : a ++ [t] ++ l ++ m = a ++ (t :: l) ++ m := by simp
theorem spec_l1 (l : List Int) (now period most : Int) (hl : l.length ≤ 51) : ∀ (d i : Nat) (acc : List Int), i + d = l.length → acc.length ≤ i →
    Evt (fun k => spec_SupRate.l1 k l now period most acc i) (acc ++ kept now period (l.drop i) ++ [now], decide (((acc ++ kept now period (l.drop i) ++ [now]).length : Int) > most), 0) := by
  intro d
  induction d with
  | zero =>
    intro i acc hi ha
    refine Evt.step ?_
    simp only [spec_SupRate.l1]
    rw [List.drop_eq_nil_of_le (by omega)]
    refine Evt.neg (by omega) (Evt.pos (by omega) (Evt.bind (Evt.ret _) (Evt.const ?_)))
    simp [kept]
  | succ d ih =>
    intro i acc hi ha
    refine Evt.step ?_
    simp only [spec_SupRate.l1]
    refine Evt.pos (by omega) (Evt.pos (by omega) ?_)
    rw [List.drop_eq_getElem_cons (by omega : i < l.length), rd_eq (by omega), wrap64_succ (by omega)]
    by_cases h : wrap64 (l[i] + period) > now
    · refine Evt.pos h (Evt.pos (by omega) ?_)
      refine (ih (i + 1) (acc ++ [l[i]]) (by omega) (by rw [List.length_append, List.length_singleton]; omega)).of_eq ?_
      rw [kept_yes h, app_cons]
    · refine Evt.neg h ?_
      refine (ih (i + 1) acc (by omega) (by omega)).of_eq ?_
      rw [kept_no h]
theorem spec_l0 (l : List Int) (now period most : Int) (hl : l.length ≤ 51) : ∀ (d i : Nat), i + d = l.length →
    Evt (fun k => spec_SupRate.l0 k l now period most [] i) (if (l.drop i).all inC then (kept now period l ++ [now], decide (((kept now period l ++ [now]).length : Int) > most), 0) else ([], false, 1)) := by
  intro d
  induction d with
  | zero =>
    intro i hi
    refine Evt.step ?_
    simp only [spec_SupRate.l0]
    rw [List.drop_eq_nil_of_le (by omega)]
    refine Evt.neg (by omega) ((spec_l1 l now period most hl l.length 0 [] (by omega) (by simp)).of_eq ?_)
    simp
  | succ d ih =>
    intro i hi
    refine Evt.step ?_
    simp only [spec_SupRate.l0]
    refine Evt.pos (by omega) (Evt.pos (by omega) ?_)
    rw [List.drop_eq_getElem_cons (by omega : i < l.length), rd_eq (by omega), wrap64_succ (by omega), List.all_cons]
    refine Evt.bind (sBetween _ _ _) ?_
    by_cases h : 0 ≤ l[i] ∧ l[i] ≤ 1000000000000000
    · rw [decide_eq_true h]
      refine Evt.pos rfl ((ih (i + 1) (by omega)).of_eq ?_)
      rw [show inC l[i] = true from decide_eq_true h, Bool.true_and]
    · rw [decide_eq_false h]
      refine Evt.neg (by simp) (Evt.const ?_)
      rw [show inC l[i] = false from decide_eq_false h]
      rfl
theorem impl_l0 (l : List Int) (now period most : Int) (hl : l.length ≤ 51) : ∀ (d i : Nat) (acc : List Int), i + d = l.length → acc.length ≤ i →
    Evt (fun k => impl_SupRate.l0 k now period most acc l l.length i) (if (l.drop i).all inC then (acc ++ kept now period (l.drop i) ++ [now], decide (((acc ++ kept now period (l.drop i) ++ [now]).length : Int) > most), 0) else ([], false, 1)) := by
  intro d
  induction d with
  | zero =>
    intro i acc hi ha
    refine Evt.step ?_
    simp only [impl_SupRate.l0]
    rw [List.drop_eq_nil_of_le (by omega)]
    refine Evt.neg (by omega) (Evt.pos (by omega) (Evt.bind (Evt.ret _) (Evt.const ?_)))
    simp [kept]
  | succ d ih =>
    intro i acc hi ha
    refine Evt.step ?_
    simp only [impl_SupRate.l0]
    refine Evt.pos (by omega) (Evt.pos (by omega) (Evt.pos (by omega) ?_))
    rw [List.drop_eq_getElem_cons (by omega : i < l.length), rd_eq (by omega), wrap64_succ (by omega), List.all_cons]
    refine Evt.bind (iClock _) ?_
    by_cases hc : 0 ≤ l[i] ∧ l[i] ≤ 1000000000000000
    · rw [decide_eq_true hc, show inC l[i] = true from decide_eq_true hc, Bool.true_and]
      refine Evt.pos rfl ?_
      by_cases h : wrap64 (l[i] + period) > now
      · refine Evt.pos h (Evt.pos (by omega) ?_)
        refine (ih (i + 1) (acc ++ [l[i]]) (by omega) (by rw [List.length_append, List.length_singleton]; omega)).of_eq ?_
        rw [kept_yes h, app_cons]
      · refine Evt.neg h ?_
        refine (ih (i + 1) acc (by omega) (by omega)).of_eq ?_
        rw [kept_no h]
    · rw [decide_eq_false hc]
      refine Evt.neg (by simp) (Evt.const ?_)
      rw [show inC l[i] = false from decide_eq_false hc]
      rfl
theorem kept_length (now period : Int) (l : List Int) : (kept now period l).length ≤ l.length := List.length_filter_le _ _
theorem sup_same (l : List Int) (now period most : Int) : ∃ r : List Int × Bool × Int, Evt (fun k => spec_SupRate.f k l now period most) r ∧ Evt (fun k => impl_SupRate.f k l now period most) r ∧ r.1.length ≤ 1048576 := by
  have bad : Evt (fun k => spec_SupRate.j0 k l now period most [] true) ([], false, 1) ∧ Evt (fun k => impl_SupRate.j0 k l now period most true) ([], false, 1) := by
    refine ⟨Evt.step ?_, Evt.step ?_⟩
    · simp only [spec_SupRate.j0]
      exact Evt.pos trivial (Evt.ret _)
    · simp only [impl_SupRate.j0]
      exact Evt.pos trivial (Evt.ret _)
  obtain ⟨b1, b2⟩ := bad
  unfold spec_SupRate.f impl_SupRate.f
  by_cases hl : (l.length : Int) > 51
  · exact ⟨(([] : List Int), false, (1 : Int)), Evt.bind (Evt.ret _) (Evt.pos hl b1), Evt.pos hl b2, by simp⟩
  have hs := sBetween now 0 1000000000000000
  have hi := iClock now
  by_cases hn : 0 ≤ now ∧ now ≤ 1000000000000000
  · rw [decide_eq_true hn] at hs hi
    have hp := sBetween period 1 1000000000
    by_cases h1 : period < 1
    · rw [decide_eq_false (show ¬ (1 ≤ period ∧ period ≤ 1000000000) by omega)] at hp
      exact ⟨(([] : List Int), false, (1 : Int)), Evt.bind (Evt.ret _) (Evt.neg hl (Evt.bind hs (Evt.pos rfl (Evt.bind hp b1)))), Evt.neg hl (Evt.bind hi (Evt.pos rfl (Evt.pos h1 b2))), by simp⟩
    by_cases h2 : period > 1000000000
    · rw [decide_eq_false (show ¬ (1 ≤ period ∧ period ≤ 1000000000) by omega)] at hp
      rw [decide_eq_true h2]
      exact ⟨(([] : List Int), false, (1 : Int)), Evt.bind (Evt.ret _) (Evt.neg hl (Evt.bind hs (Evt.pos rfl (Evt.bind hp b1)))), Evt.neg hl (Evt.bind hi (Evt.pos rfl (Evt.neg h1 b2))), by simp⟩
    rw [decide_eq_true (show 1 ≤ period ∧ period ≤ 1000000000 by omega)] at hp
    rw [decide_eq_false h2]
    have g1 := spec_l0 l now period most (by omega) l.length 0 (by omega)
    have g2 := impl_l0 l now period most (by omega) l.length 0 [] (by omega) (by simp)
    rw [List.drop_zero] at g1 g2
    rw [List.nil_append] at g2
    refine ⟨(if l.all inC = true then (kept now period l ++ [now], decide (((kept now period l ++ [now]).length : Int) > most), 0) else ([], false, 1)), Evt.bind (Evt.ret _) (Evt.neg hl (Evt.bind hs (Evt.pos rfl (Evt.bind hp (Evt.step ?_))))), Evt.neg hl (Evt.bind hi (Evt.pos rfl (Evt.neg h1 (Evt.step ?_)))), ?_⟩
    · simp only [spec_SupRate.j0]
      exact Evt.neg (by simp) g1
    · simp only [impl_SupRate.j0]
      exact Evt.neg (by simp) g2
    · split
      · have := kept_length now period l
        simp
        omega
      · simp
  · rw [decide_eq_false hn] at hs hi
    exact ⟨(([] : List Int), false, (1 : Int)), Evt.bind (Evt.ret _) (Evt.neg hl (Evt.bind hs (Evt.neg (by simp) b1))), Evt.neg hl (Evt.bind hi (Evt.neg (by simp) b2)), by simp⟩
end SupRate
open SupRate in
theorem FnExactSupRate : laws_FnExactSupRate.Pure := by
  intro l now period most _ _ _ _ _ _
  refine Evt.get (g := fun k => laws_FnExactSupRate.f k l now period most) ?_
  unfold laws_FnExactSupRate.f
  by_cases b0 : (l.length : Int) > 1048576
  · exact Evt.pos b0 (Evt.ret _)
  have t0 := toIntS_ok l (by omega)
  have e0 := eqIntS_ok l (by omega)
  obtain ⟨⟨r, m, c⟩, hs, hi, hr⟩ := sup_same l now period most
  have er := eqIntS_ok r hr
  have j2 : Evt (fun k => laws_FnExactSupRate.j2 k (marks r.length) (1 + (r.length : Int)) false) true := by
    refine Evt.step ?_
    simp only [laws_FnExactSupRate.j2]
    exact Evt.neg (by simp) (Evt.bind (held_ok _ hr) (Evt.neg (by omega) (Evt.pos rfl (Evt.ret _))))
  have j1 : Evt (fun k => laws_FnExactSupRate.j1 k l now period most r m c r false) true := by
    refine Evt.step ?_
    simp only [laws_FnExactSupRate.j1]
    refine Evt.neg (by simp) (Evt.bind (mark_ok r hr) (Evt.bind (held_ok _ hr) (Evt.neg (by omega) (Evt.pos rfl (Evt.bind t0 (Evt.bind hi (Evt.bind er (Evt.pos rfl (Evt.neg (by simp) ?_)))))))))
    rw [bne_self_eq_false]
    exact j2
  have j0 : Evt (fun k => laws_FnExactSupRate.j0 k l now period most r m c l r m c false) true := by
    refine Evt.step ?_
    simp only [laws_FnExactSupRate.j0]
    refine Evt.neg (by simp) (Evt.bind t0 (Evt.bind e0 (Evt.pos rfl (Evt.bind (mark_ok l (by omega)) (Evt.neg (by simp; omega) (Evt.bind er (Evt.pos rfl (Evt.neg (by simp) ?_))))))))
    rw [bne_self_eq_false]
    exact j1
  refine Evt.neg b0 (Evt.bind t0 (Evt.bind hs (Evt.bind t0 (Evt.bind hi (Evt.bind er (Evt.pos rfl (Evt.neg (by simp) ?_)))))))
  rw [bne_self_eq_false]
  exact j0

end Go.Proofs.Ytjjnlbimegabpaa.Pure
