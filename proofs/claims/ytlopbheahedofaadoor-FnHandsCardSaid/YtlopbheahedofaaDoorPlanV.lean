/- A region that draws its order, walked operation by operation, whatever the order: each operation yields what it is to yield in every world that the others may have left. Conditions: those of each theorem. -/
import Derived.Test.YtlopbheahedofaaDoorPlanU
set_option linter.unusedVariables false
namespace Go.Proofs.YtlopbheahedofaaDoor.Plan
open Go Go.RowKit Go.Proofs.YtlopbheahedofaaDoor.Lib
variable {P : Program} {ops : Array Oper} {Q : Exit → Act → World → Prop}

/-- What an operand is in an act (kept as a name). -/
def evOf (a : Act) : Operand → Value := a.eval
theorem evOf_const (a : Act) (v : Value) : evOf a (.const v) = v := rfl
theorem evOf_func (a : Act) (f : FuncId) : evOf a (.func f) = .func (.func f) #[] #[] := rfl
theorem evOf_global (a : Act) (g : Nat) : evOf a (.global g) = .pointer (some ⟨g, 0, none⟩) := rfl
def slotOf (a : Act) (o : Oper) : Value := match o.dst with | some d => a.tmps.getD d undef | none => undef
structure VInv (ops : Array Oper) (A : Act) (G : Nat → Value → World → Prop) (listed : Array Bool) (a : Act) (w : World) : Prop where
  defers : a.defers = A.defers
  size : a.tmps.size = A.tmps.size
  ext : ∀ s, (∀ (i : Nat) (o : Oper), ops[i]? = some o → o.dst = some s → listed.getD i false = false) → a.tmps.getD s undef = A.tmps.getD s undef
  fact : ∀ (i : Nat) (o : Oper), ops[i]? = some o → listed.getD i false = true → G i (slotOf a o) w
def kept (o : Oper) (v : Value) : Value := match o.dst with | some _ => v | none => undef
/-- An operation is carried out: it yields a value, or none, or it is a call that returns. -/
def Did (P : Program) (o : Oper) (ev : Operand → Value) (w : World) (K : Value → World → Prop) : Prop :=
  (∃ v w', (execOp ev o).run P w = .ok (.value v) w' ∧ K (kept o v) w') ∨ (∃ w', (execOp ev o).run P w = .ok .skip w' ∧ K undef w') ∨
    ∃ f args, (execOp ev o).run P w = .ok (.enter f args) w ∧ Calls P f args w (fun e w2 => ∃ v, e = .returned v ∧ K (kept o v) w2)
theorem did_value {o : Oper} {ev : Operand → Value} {w : World} {K : Value → World → Prop} (v : Value) (w' : World) (h : (execOp ev o).run P w = .ok (.value v) w') (k : K (kept o v) w') : Did P o ev w K := .inl ⟨v, w', h, k⟩
theorem did_skip {o : Oper} {ev : Operand → Value} {w : World} {K : Value → World → Prop} (w' : World) (h : (execOp ev o).run P w = .ok .skip w') (k : K undef w') : Did P o ev w K := .inr (.inl ⟨w', h, k⟩)
theorem did_call {o : Oper} {ev : Operand → Value} {w : World} {K : Value → World → Prop} (f : FuncId) (args : Array Value) (h : (execOp ev o).run P w = .ok (.enter f args) w)
    (k : Calls P f args w (fun e w2 => ∃ v, e = .returned v ∧ K (kept o v) w2)) : Did P o ev w K := .inr (.inr ⟨f, args, h, k⟩)
/-- The destinations: (operation, slot). -/
def dstsOf : Nat → List Oper → List (Nat × Nat)
  | _, [] => []
  | k, o :: l => match o.dst with | some d => (k, d) :: dstsOf (k + 1) l | none => dstsOf (k + 1) l
theorem dstsOf_mem : ∀ (l : List Oper) (k j d : Nat), (k + j, d) ∈ dstsOf k l ↔ ∃ o, l[j]? = some o ∧ o.dst = some d := by
  intro l
  induction l with
  | nil => intro k j d; simp [dstsOf]
  | cons o l ih =>
    intro k j d
    have low : ∀ (l : List Oper) (m x y : Nat), (x, y) ∈ dstsOf m l → m ≤ x := by
      intro l
      induction l with
      | nil => intro m x y h; simp [dstsOf] at h
      | cons o l ih2 =>
        intro m x y h
        unfold dstsOf at h
        split at h
        · rcases List.mem_cons.1 h with h | h
          · injection h with h1 h2; omega
          · have := ih2 _ _ _ h; omega
        · have := ih2 _ _ _ h; omega
    unfold dstsOf
    cases j with
    | zero =>
      split
      · rename_i d' hd
        constructor
        · intro h
          rcases List.mem_cons.1 h with h | h
          · injection h with h1 h2
            exact ⟨o, rfl, by rw [hd, h2]⟩
          · have := low _ _ _ _ h; omega
        · rintro ⟨o', ho, hd'⟩
          injection ho with ho
          subst ho
          rw [hd] at hd'
          injection hd' with hd'
          subst hd'
          exact List.mem_cons_self
      · rename_i hd
        constructor
        · intro h
          have := low _ _ _ _ h; omega
        · rintro ⟨o', ho, hd'⟩
          injection ho with ho
          subst ho
          rw [hd] at hd'
          cases hd'
    | succ j =>
      have e : k + (j + 1) = (k + 1) + j := by omega
      split
      · rename_i d' hd
        rw [e, List.mem_cons, ih (k + 1) j d]
        simp only [List.getElem?_cons_succ]
        constructor
        · rintro (h | h)
          · injection h with h1 h2; omega
          · exact h
        · exact Or.inr
      · rw [e, ih (k + 1) j d]
        simp only [List.getElem?_cons_succ]
/-- What is looked at before such a walk: no guards, edges go back, each slot is written once, and within the act. -/
def invB (ops : Array Oper) (N : Nat) (E : List (Nat × Nat)) : Bool :=
  (List.range ops.size).all (fun i => match ops[i]? with | some o => o.guard.isNone && o.after.all (fun e => !Region.binds .any e || decide (e.on < i)) | none => true) &&
  E.all (fun x => decide (x.2 < N)) && E.all (fun x => E.all fun y => decide (x.2 = y.2 → x.1 = y.1))
def depsB (ops : Array Oper) (E : List (Nat × Nat)) (T : List (Nat × Nat × Nat)) : Bool := T.all fun x => waitsB ops x.1 x.2.1 && E.contains (x.2.1, x.2.2)
def AllSteps (p : Nat → Oper → Prop) : Nat → List Oper → Prop
  | _, [] => True
  | k, o :: l => p k o ∧ AllSteps p (k + 1) l
theorem AllSteps.at {p : Nat → Oper → Prop} : ∀ {l : List Oper} {k : Nat}, AllSteps p k l → ∀ (j : Nat) (o : Oper), l[j]? = some o → p (k + j) o
  | [], _, _, j, o, ho => by cases ho
  | x :: l, k, h, 0, o, ho => by injection ho with ho; subst ho; exact h.1
  | x :: l, k, h, j + 1, o, ho => by
    have := h.2.at j o (by simpa using ho)
    rw [show k + (j + 1) = k + 1 + j by omega]
    exact this
theorem tmps_put_get (a : Act) (d s : Nat) (v : Value) (hd : d < a.tmps.size) : (a.put (some d) v).tmps.getD s undef = if s = d then v else a.tmps.getD s undef := by
  show (a.tmps.setIfInBounds d v).getD s undef = _
  rw [Array.getD_eq_getD_getElem?, Array.getD_eq_getD_getElem?, Array.getElem?_setIfInBounds]
  by_cases h : d = s
  · subst h; rw [if_pos rfl, if_pos hd, if_pos rfl]; rfl
  · rw [if_neg h, if_neg (fun e => h e.symm)]
theorem count_set_true (listed : Array Bool) (i : Nat) (h : listed.getD i true = false) : (listed.setIfInBounds i true).toList.count true = listed.toList.count true + 1 := by
  have hlt : i < listed.toList.length := by
    rcases Nat.lt_or_ge i listed.size with h' | h'
    · simpa using h'
    · simp [Array.getElem?_eq_none h'] at h
  have hv : listed.toList[i] = false := by
    have hlt2 : i < listed.size := by simpa using hlt
    simp [hlt2] at h
    simpa using h
  rw [Array.toList_setIfInBounds, List.count_set hlt, hv]
  simp
theorem all_listed {listed : Array Bool} (h : listed.toList.count true = listed.size) (i : Nat) : listed.getD i true = true := by
  rcases Nat.lt_or_ge i listed.size with h' | h'
  · have h2 := List.count_eq_length.1 (show listed.toList.count true = listed.toList.length by simpa using h) (listed.toList[i]'(by simpa using h')) (List.getElem_mem _)
    simp [h']
    simpa using h2.symm
  · simp [Array.getElem?_eq_none h']
theorem some_ready {listed : Array Bool} (hsz : listed.size = ops.size) (hdown : ∀ (i : Nat) (o : Oper), ops[i]? = some o → ∀ e ∈ o.after, Region.binds .any e = true → e.on < i) (h : listed.toList.count true ≠ listed.size) : Region.ready .any ops listed ≠ [] := by
  intro hr
  apply h
  have all : ∀ n i, i < n → i < listed.size → listed.getD i false = true := by
    intro n
    induction n with
    | zero => intro i hi; omega
    | succ n ih =>
      intro i hi hl
      cases hu : listed.getD i false with
      | true => rfl
      | false =>
        exfalso
        have hio : i < ops.size := by omega
        have hm : i ∈ Region.ready .any ops listed := mem_ready.2 ⟨getD_in hl hu, ops[i], by simp [hio], fun e he hb => by
          have hlt := hdown i ops[i] (by simp [hio]) e he hb
          exact ih e.on (by omega) (by omega)⟩
        rw [hr] at hm
        cases hm
  have := List.count_eq_length.2 (fun b hb => by
    obtain ⟨i, hi, rfl⟩ := List.getElem_of_mem hb
    have h2 := all (i + 1) i (by omega) (by simpa using hi)
    have hi' : i < listed.size := by simpa using hi
    simp [hi'] at h2
    simpa using h2.symm : ∀ b ∈ listed.toList, true = b)
  simpa using this
theorem any_of_inv {A : Act} {G : Nat → Value → World → Prop} {J : Nat → World → Prop} {St : World → World → Prop} (hsz : ∀ (i : Nat) (o : Oper) (d : Nat), ops[i]? = some o → o.dst = some d → d < A.tmps.size)
    (hdown : ∀ (i : Nat) (o : Oper), ops[i]? = some o → ∀ e ∈ o.after, Region.binds .any e = true → e.on < i) (hg : ∀ (i : Nat) (o : Oper), ops[i]? = some o → o.guard = none)
    (hone : ∀ (i j : Nat) (oi oj : Oper) (d : Nat), ops[i]? = some oi → ops[j]? = some oj → oi.dst = some d → oj.dst = some d → i = j)
    (hG : ∀ j u w w', St w w' → G j u w → G j u w')
    (step : ∀ (i : Nat) (o : Oper) (listed : Array Bool) (a : Act) (w : World), ops[i]? = some o → HeadInv .any ops ops.size listed → i ∈ Region.ready .any ops listed → VInv ops A G listed a w → listed.toList.count true < ops.size → J (listed.toList.count true) w →
      Did P o (evOf a) w (fun v w' => J (listed.toList.count true + 1) w' ∧ St w w' ∧ G i v w'))
    (cut : ∀ listed a w, VInv ops A G listed a w → J ops.size w → (∀ i, i < ops.size → listed.getD i false = true) → Q .normal a w) :
    ∀ (f : Nat) (listed : Array Bool) (a : Act) (w : World), HeadInv .any ops ops.size listed → listed.toList.count true + f = ops.size → VInv ops A G listed a w → J (listed.toList.count true) w → wpAny P .any ops Q f listed a w
  | 0, listed, a, w, inv, hc, V, hJ => by
    have hall := all_listed (listed := listed) (by rw [inv.size]; omega)
    refine ⟨?_, cut listed a w V (by rw [← hc]; exact hJ) (fun i hi => ?_)⟩
    · cases hr : Region.ready .any ops listed with
      | nil => rfl
      | cons i r =>
        have hm : i ∈ Region.ready .any ops listed := by rw [hr]; exact List.mem_cons_self
        have := (mem_ready.1 hm).1
        rw [hall i] at this
        cases this
    · have h1 := hall i
      have hi' : i < listed.size := by rw [inv.size]; exact hi
      simp [hi'] at h1 ⊢
      exact h1
  | f + 1, listed, a, w, inv, hc, V, hJ => by
    refine ⟨fun hr => absurd hr (some_ready inv.size hdown (by rw [inv.size]; omega)), fun i hi => ?_⟩
    obtain ⟨hun, o, ho, hall⟩ := mem_ready.1 hi
    have hD := step i o listed a w ho inv hi V (by omega) hJ
    have next : ∀ v w', (J (listed.toList.count true + 1) w' ∧ St w w' ∧ G i v w') → (o.dst = none → v = undef) → wpAny P .any ops Q f (listed.setIfInBounds i true) (a.put o.dst v) w' := by
      rintro v w' ⟨h1, h2, h3⟩ hnone
      have hcs := count_set_true listed i hun
      refine any_of_inv hsz hdown hg hone hG step cut f _ _ _ (inv.set hi (ready_lt hi)) (by rw [hcs]; omega) ⟨?_, ?_, ?_, ?_⟩ (by rw [hcs]; exact h1)
      · cases hd : o.dst with
        | none => exact V.defers
        | some d => exact V.defers
      · cases hd : o.dst with
        | none => exact V.size
        | some d => show (a.tmps.setIfInBounds d v).size = _; rw [Array.size_setIfInBounds]; exact V.size
      · intro s hs
        have hns : o.dst ≠ some s := fun e => by
          have := hs i o ho e
          have hlt : i < listed.size := by rw [inv.size]; exact ready_lt hi
          simp [hlt] at this
        have hold : a.tmps.getD s undef = A.tmps.getD s undef := V.ext s fun j oj hj hd => by
          have := hs j oj hj hd
          have hji : i ≠ j := fun e => hns (by subst e; rw [ho] at hj; injection hj with hj; rw [hj]; exact hd)
          rw [getD_set_ne false hji] at this
          exact this
        cases hd : o.dst with
        | none => exact hold
        | some d =>
          rw [tmps_put_get a d s v (by rw [V.size]; exact hsz i o d ho hd), if_neg (fun e => hns (by rw [hd, e])), hold]
      · intro j oj hj hl
        by_cases hji : j = i
        · subst hji
          rw [ho] at hj
          injection hj with hj
          subst hj
          cases hd : o.dst with
          | none =>
            unfold slotOf
            rw [hd]
            rw [← hnone hd]
            exact h3
          | some d =>
            unfold slotOf
            simp only [hd]
            rw [tmps_put_get a d d v (by rw [V.size]; exact hsz j o d ho hd), if_pos rfl]
            exact h3
        · rw [getD_set_ne false (Ne.symm hji)] at hl
          have hold := hG _ _ _ _ h2 (V.fact j oj hj hl)
          have e : slotOf (a.put o.dst v) oj = slotOf a oj := by
            unfold slotOf
            cases hdj : oj.dst with
            | none => rfl
            | some dj =>
              cases hd : o.dst with
              | none => rfl
              | some d =>
                simp only
                rw [tmps_put_get a d dj v (by rw [V.size]; exact hsz i o d ho hd), if_neg (fun e => hji (hone j i oj o dj hj ho hdj (by rw [hd, e])))]
          rw [e]
          exact hold
    unfold wpOp
    rw [ho]
    have hw : Region.wanted o (yielded ops a.tmps) = true := by unfold Region.wanted; rw [hg i o ho]
    simp only [hw, if_true]
    refine .inl ?_
    unfold Oper.wp
    have hev : a.eval = evOf a := rfl
    rw [hev]
    have keep : ∀ v w', (J (listed.toList.count true + 1) w' ∧ St w w' ∧ G i (kept o v) w') → wpAny P .any ops Q f (listed.setIfInBounds i true) (a.put o.dst v) w' := by
      intro v w' hK
      have h := next (kept o v) w' hK (fun e => by unfold kept; rw [e])
      unfold kept at h
      cases hd : o.dst with
      | none => rw [hd] at h; exact h
      | some d => rw [hd] at h; exact h
    rcases hD with ⟨v, w', hr, hK⟩ | ⟨w', hr, hK⟩ | ⟨fn, args, hr, hK⟩
    · rw [hr]
      exact keep v w' hK
    · rw [hr]
      exact next undef w' hK (fun _ => rfl)
    · rw [hr, Oper.upon_enter]
      refine hK.mono ?_
      rintro e w2 ⟨v, rfl, hK⟩
      exact keep v w2 hK
theorem putAll_get (A : Act) (f : Nat → Value) : ∀ (ds : List Nat), (∀ d ∈ ds, d < A.tmps.size) → ∀ s, (putAll A (ds.map fun d => (d, f d))).tmps.getD s undef = if s ∈ ds then f s else A.tmps.getD s undef
  | [], _, s => by simp [putAll]
  | d :: ds, h, s => by
    show ((putAll A (ds.map fun d => (d, f d))).put (some d) (f d)).tmps.getD s undef = _
    rw [tmps_put_get _ _ _ _ (by rw [putAll_size]; exact h d List.mem_cons_self), putAll_get A f ds (fun d hd => h d (List.mem_cons_of_mem _ hd)) s]
    by_cases hs : s = d
    · subst hs; simp
    · rw [if_neg hs]
      by_cases hm : s ∈ ds
      · rw [if_pos hm, if_pos (List.mem_cons_of_mem _ hm)]
      · rw [if_neg hm, if_neg (by simp [hs, hm])]
theorem putAll_defers (A : Act) : ∀ us, (putAll A us).defers = A.defers
  | [] => rfl
  | (d, v) :: us => putAll_defers A us
theorem act_eq {a b : Act} (hd : a.defers = b.defers) (hs : a.tmps.size = b.tmps.size) (h : ∀ s, a.tmps.getD s undef = b.tmps.getD s undef) : a = b := by
  obtain ⟨ta, da⟩ := a
  obtain ⟨tb, db⟩ := b
  simp only at hd hs h
  subst hd
  congr 1
  apply Array.ext hs
  intro i h1 h2
  have := h i
  simp [h1, h2] at this
  exact this
/-- The walk: each operation as a step of its own; behind the region each slot has what its operation yields. -/
theorem region_inv {id : Nat} {A : Act} {w : World} {l : List Oper} {Q' : Exit → Act → World → Prop} (N : Nat) (E : List (Nat × Nat)) (T : List (Nat × Nat × Nat)) (J : Nat → World → Prop) (St : World → World → Prop) (G : Nat → Value → World → Prop)
    (hm : P.follows .mixedOrders = true) (hN : A.tmps.size = N) (hE : dstsOf 0 l = E) (hB : (Region.noSelect l.toArray && invB l.toArray N E && depsB l.toArray E T) = true)
    (hG : ∀ j u w w', St w w' → G j u w → G j u w') (h0 : J 0 w.drew)
    (step : AllSteps (fun i o => ∀ (a : Act) (w : World) (c : Nat), Aside (J c w) → c < l.length → Aside (∀ t, (E.all fun x => x.2 != t) = true → evOf a (.tmp t) = A.tmps.getD t undef) → Aside (∀ j d, (i, j, d) ∈ T → G j (evOf a (.tmp d)) w) →
      Did P o (evOf a) w (fun v w' => J (c + 1) w' ∧ St w w' ∧ G i v w')) 0 l)
    (cut : ∀ (f : Nat → Value) (w' : World), Aside (J l.length w') → Aside (∀ j d, (j, d) ∈ E → G j (f d) w') → Q' .normal (putAll A ((E.map Prod.snd).map fun d => (d, f d))) w') : (Code.region id l.toArray true).wp P Q' A w := by
  subst hE
  simp only [Bool.and_eq_true] at hB
  obtain ⟨⟨hsel, hI⟩, hD⟩ := hB
  unfold invB at hI
  simp only [Bool.and_eq_true, List.all_eq_true, decide_eq_true_eq] at hI
  obtain ⟨⟨hI1, hI2⟩, hI3⟩ := hI
  have hmem : ∀ (i : Nat) (o : Oper) (d : Nat), l.toArray[i]? = some o → o.dst = some d → (i, d) ∈ dstsOf 0 l := fun i o d ho hd => by
    have := (dstsOf_mem l 0 i d).2 ⟨o, by simpa using ho, hd⟩
    rwa [Nat.zero_add] at this
  have hmem' : ∀ (i d : Nat), (i, d) ∈ dstsOf 0 l → ∃ o, l.toArray[i]? = some o ∧ o.dst = some d := fun i d h => by
    have := (dstsOf_mem l 0 i d).1 (by rwa [Nat.zero_add])
    simpa using this
  have hop : ∀ (i : Nat) (o : Oper), l.toArray[i]? = some o → o.guard.isNone = true ∧ ∀ e ∈ o.after, Region.binds .any e = true → e.on < i := fun i o ho => by
    have hi : i < l.toArray.size := (Array.getElem?_eq_some_iff.1 ho).1
    have := hI1 i (List.mem_range.2 hi)
    rw [ho] at this
    simp only [Bool.and_eq_true] at this
    refine ⟨this.1, fun e he hb => ?_⟩
    have h2 := Array.all_eq_true_iff_forall_mem.1 this.2 e he
    rw [hb] at h2
    simpa using h2
  have inv0 : HeadInv .any l.toArray l.toArray.size (Array.replicate l.toArray.size false) :=
    ⟨by simp, fun j oj _ hl => (by rw [getD_replicate_false] at hl; cases hl), fun t h1 h2 => absurd h2 (by omega)⟩
  have hc0 : (Array.replicate l.toArray.size false).toList.count true = 0 := by
    rw [Array.toList_replicate]
    exact List.count_eq_zero.2 (by simp [List.mem_replicate])
  refine wp_region_any hm ?_
  refine any_of_inv (ops := l.toArray) (A := A) (G := G) (J := J) (St := St) (Q := Q') (fun i o d ho hd => by rw [hN]; exact hI2 _ (hmem i o d ho hd)) (fun i o ho => (hop i o ho).2) (fun i o ho => by simpa using (hop i o ho).1)
    (fun i j oi oj d hi hj h1 h2 => hI3 _ (hmem i oi d hi h1) _ (hmem j oj d hj h2) rfl) hG ?_ ?_ _ _ _ _ inv0 (by rw [hc0]; omega) ⟨rfl, rfl, fun _ _ => rfl, fun i o _ hl => by rw [getD_replicate_false] at hl; cases hl⟩ (by rw [hc0]; exact h0)
  · intro i o listed a w ho inv hr V hlt hJ
    have h := step.at i o (by simpa using ho)
    rw [Nat.zero_add] at h
    refine h a w _ ⟨hJ⟩ (by simpa using hlt) ⟨fun t ht => V.ext t fun k ok hk hd => ?_⟩ ⟨fun j d hjd => ?_⟩
    · have := List.all_eq_true.1 ht _ (hmem k ok t hk hd)
      simp at this
    · have h2 := List.all_eq_true.1 hD _ hjd
      simp only [Bool.and_eq_true] at h2
      have h3 : (j, d) ∈ dstsOf 0 l := by simpa using h2.2
      obtain ⟨oj, hoj, hdj⟩ := hmem' j d h3
      have hl : listed.getD j false = true := by
        obtain ⟨hun, o', ho', hall⟩ := mem_ready.1 hr
        have : o' = o := Option.some.inj (ho'.symm.trans ho)
        subst this
        have hw : waitsB l.toArray i j = true := h2.1
        unfold waitsB reachB at hw
        rw [ho] at hw
        obtain ⟨x, hx, hb⟩ := Array.any_eq_true'.1 hw
        simp only [Bool.and_eq_true, Bool.or_eq_true, beq_iff_eq] at hb
        have h1 := hall x hx hb.1
        rcases hb.2 with h2 | h2
        · rw [← h2]; exact h1
        · exact reach_listed inv _ x.on h2 h1
      have := V.fact j oj hoj hl
      unfold slotOf at this
      rw [hdj] at this
      exact this
  · intro listed a w' V hJ hall
    have hJ' : J l.length w' := by simpa using hJ
    have key := cut (fun d => a.tmps.getD d undef) w' ⟨hJ'⟩ ⟨fun j d hjd => by
      obtain ⟨oj, hoj, hdj⟩ := hmem' j d hjd
      have := V.fact j oj hoj (hall j (Array.getElem?_eq_some_iff.1 hoj).1)
      unfold slotOf at this
      rw [hdj] at this
      exact this⟩
    have e : a = putAll A (((dstsOf 0 l).map Prod.snd).map fun d => (d, a.tmps.getD d undef)) := by
      refine act_eq (by rw [putAll_defers]; exact V.defers) (by rw [putAll_size]; exact V.size) (fun s => ?_)
      rw [putAll_get A (fun d => a.tmps.getD d undef) _ (fun d hd => by
        obtain ⟨x, hx, rfl⟩ := List.mem_map.1 hd
        rw [hN]; exact hI2 _ hx) s]
      by_cases hs : s ∈ (dstsOf 0 l).map Prod.snd
      · rw [if_pos hs]
      · rw [if_neg hs]
        exact V.ext s fun k ok hk hd => absurd (List.mem_map.2 ⟨_, hmem k ok s hk hd, rfl⟩) hs
    rw [← e] at key
    exact key
/-- What each slot is to hold, said in a list. -/
def Gof : List (Nat × (Value → World → Prop)) → Nat → Value → World → Prop
  | [], _ => fun _ _ => True
  | (k, g) :: r, j => bif Nat.beq k j then g else Gof r j
def AllStab (St : World → World → Prop) : List (Nat × (Value → World → Prop)) → Prop
  | [] => True
  | (_, g) :: r => (∀ u w w', St w w' → g u w → g u w') ∧ AllStab St r
theorem Gof_stab {St : World → World → Prop} : ∀ {l : List (Nat × (Value → World → Prop))}, AllStab St l → ∀ j u w w', St w w' → Gof l j u w → Gof l j u w'
  | [], _, _, _, _, _, _, _ => trivial
  | (k, g) :: r, h, j, u, w, w', hS, hg => by
    unfold Gof at hg ⊢
    cases hb : Nat.beq k j
    · rw [hb] at hg; exact Gof_stab h.2 j u w w' hS hg
    · rw [hb] at hg; exact h.1 u w w' hS hg
theorem allstab_nil {St : World → World → Prop} : AllStab St [] := trivial
theorem allstab_cons {St : World → World → Prop} {k : Nat} {g : Value → World → Prop} {r : List (Nat × (Value → World → Prop))} (h : ∀ u w w', St w w' → g u w → g u w') (h2 : AllStab St r) : AllStab St ((k, g) :: r) := ⟨h, h2⟩
theorem gof_mk {l : List (Nat × (Value → World → Prop))} {j : Nat} {v : Value} {w : World} (g : Value → World → Prop) (e : g v w = Gof l j v w) (h : g v w) : Gof l j v w := e ▸ h
theorem allsteps_nil {p : Nat → Oper → Prop} (k : Nat) : AllSteps p k [] := trivial
theorem allsteps_cons {p : Nat → Oper → Prop} {o : Oper} {l : List Oper} (k k' : Nat) (hk : k' = k + 1) (h : p k o) (h2 : AllSteps p k' l) : AllSteps p k (o :: l) := by subst hk; exact ⟨h, h2⟩
theorem region_free {id : Nat} {A : Act} {w : World} {l : List Oper} {Q' : Exit → Act → World → Prop} (N M : Nat) (E : List (Nat × Nat)) (T : List (Nat × Nat × Nat)) (J : Nat → World → Prop) (St : World → World → Prop) (Gt : List (Nat × (Value → World → Prop)))
    (hm : P.follows .mixedOrders = true) (hN : A.tmps.size = N) (hM : l.length = M) (hE : dstsOf 0 l = E) (hB : (Region.noSelect l.toArray && invB l.toArray N E && depsB l.toArray E T) = true)
    (hG : AllStab St Gt) (h0 : J 0 w.drew)
    (step : ∀ fr : Act, Aside (fr = A) → AllSteps (fun i o => ∀ (a : Act) (w : World) (c : Nat), Aside (J c w) → c < M → Aside (∀ t, (E.all fun x => x.2 != t) = true → evOf a (.tmp t) = ext fr t) → Aside (∀ j d, T.contains (i, j, d) = true → Gof Gt j (evOf a (.tmp d)) w) →
      Did P o (evOf a) w (fun v w' => J (c + 1) w' ∧ St w w' ∧ Gof Gt i v w')) 0 l)
    (cut : ∀ (f : Nat → Value) (w' : World), Aside (J M w') → Aside (∀ j d, E.contains (j, d) = true → Gof Gt j (f d) w') → Q' .normal (putAll A ((E.map Prod.snd).map fun d => (d, f d))) w') : (Code.region id l.toArray true).wp P Q' A w := by
  refine region_inv N E T J St (Gof Gt) hm hN hE hB (Gof_stab hG) h0 ?_ (fun f w' hJ hF => cut f w' ⟨by have := hJ.out; rwa [hM] at this⟩ ⟨fun j d h => hF.out j d (by simpa using h)⟩)
  have h := step A ⟨rfl⟩
  have mono : ∀ (l : List Oper) (k : Nat) (p q : Nat → Oper → Prop), (∀ i o, p i o → q i o) → AllSteps p k l → AllSteps q k l := by
    intro l
    induction l with
    | nil => intro k p q hpq h; exact trivial
    | cons o l ih => intro k p q hpq h; exact ⟨hpq _ _ h.1, ih _ _ _ hpq h.2⟩
  refine mono _ _ _ _ (fun i o h => ?_) h
  intro a w c HJ hc HX HD
  exact h a w c HJ (by omega) ⟨fun t ht => HX.out t ht⟩ ⟨fun j d hjd => HD.out j d (by simpa using hjd)⟩
/-! ### a head in any order, then a tail that is forced -/
theorem head_listed {k : Nat} {listed : Array Bool} (inv : HeadInv .any ops k listed) (hk : k ≤ ops.size) (hc : listed.toList.count true = k) (i : Nat) (hi : i < k) : listed.getD i false = true := by
  have hsz := inv.size
  have hd : (listed.toList.drop k).count true = 0 := by
    refine List.count_eq_zero.2 (fun hm => ?_)
    obtain ⟨j, hj, e⟩ := List.getElem_of_mem hm
    rw [List.getElem_drop] at e
    have hj2 : k + j < listed.size := by simp at hj; omega
    have h2 := inv.tail (k + j) (by omega) (by omega)
    simp [hj2] at h2
    rw [Array.getElem_toList] at e
    rw [e] at h2
    cases h2
  have h1 : (listed.toList.take k).count true = (listed.toList.take k).length := by
    have := List.count_append (a := true) (l₁ := listed.toList.take k) (l₂ := listed.toList.drop k)
    rw [List.take_append_drop, hc, hd] at this
    rw [List.length_take]
    have : listed.toList.length = listed.size := by simp
    omega
  have hi2 : i < listed.size := by omega
  have h2 := List.count_eq_length.1 h1 ((listed.toList.take k)[i]'(by rw [List.length_take]; simp; omega)) (List.getElem_mem _)
  rw [List.getElem_take, Array.getElem_toList] at h2
  simp [hi2]
  exact h2.symm
theorem head_ready {k : Nat} {listed : Array Bool} (inv : HeadInv .any ops k listed) (hk : k ≤ ops.size) (hdown : ∀ (i : Nat) (o : Oper), ops[i]? = some o → ∀ e ∈ o.after, Region.binds .any e = true → e.on < i) (h : listed.toList.count true < k) :
    ∃ i, i < k ∧ i ∈ Region.ready .any ops listed := by
  apply Classical.byContradiction
  intro hno
  have hsz := inv.size
  have all : ∀ n i, i < n → i < k → listed.getD i false = true := by
    intro n
    induction n with
    | zero => intro i hi; omega
    | succ n ih =>
      intro i hi hl
      cases hu : listed.getD i false with
      | true => rfl
      | false =>
        exfalso
        have hio : i < ops.size := by omega
        exact hno ⟨i, hl, mem_ready.2 ⟨getD_in (by omega) hu, ops[i], by simp [hio], fun e he hb => by
          have hlt := hdown i ops[i] (by simp [hio]) e he hb
          exact ih e.on (by omega) (by omega)⟩⟩
  have h1 : (listed.toList.take k).count true = (listed.toList.take k).length := List.count_eq_length.2 (fun b hb => by
    obtain ⟨i, hi, rfl⟩ := List.getElem_of_mem hb
    have hik : i < k := by rw [List.length_take] at hi; omega
    have h2 := all (i + 1) i (by omega) hik
    have hi' : i < listed.size := by omega
    simp [hi'] at h2
    rw [List.getElem_take, Array.getElem_toList]
    exact h2.symm)
  have h3 := List.count_append (a := true) (l₁ := listed.toList.take k) (l₂ := listed.toList.drop k)
  rw [List.take_append_drop, h1, List.length_take] at h3
  have : listed.toList.length = listed.size := by simp
  omega
theorem head_of_inv {k : Nat} {A : Act} {G : Nat → Value → World → Prop} {J : Nat → World → Prop} {St : World → World → Prop} {L : Array Bool → Act → World → Prop} (hk : k < ops.size) (hs : Region.sinkB .any ops k = true) (hc : Region.chainB .any ops k = true)
    (hsz : ∀ (i : Nat) (o : Oper) (d : Nat), ops[i]? = some o → o.dst = some d → d < A.tmps.size)
    (hdown : ∀ (i : Nat) (o : Oper), ops[i]? = some o → ∀ e ∈ o.after, Region.binds .any e = true → e.on < i) (hg : ∀ (i : Nat) (o : Oper), ops[i]? = some o → o.guard = none)
    (hone : ∀ (i j : Nat) (oi oj : Oper) (d : Nat), ops[i]? = some oi → ops[j]? = some oj → oi.dst = some d → oj.dst = some d → i = j)
    (hG : ∀ j u w w', St w w' → G j u w → G j u w')
    (step : ∀ (i : Nat) (o : Oper) (listed : Array Bool) (a : Act) (w : World), i < k → ops[i]? = some o → HeadInv .any ops k listed → i ∈ Region.ready .any ops listed → VInv ops A G listed a w → listed.toList.count true < k → J (listed.toList.count true) w →
      Did P o (evOf a) w (fun v w' => J (listed.toList.count true + 1) w' ∧ St w w' ∧ G i v w'))
    (cut : ∀ listed a w, HeadInv .any ops k listed → VInv ops A G listed a w → J k w → (∀ i, i < k → listed.getD i false = true) → L listed a w) :
    ∀ (f : Nat) (listed : Array Bool) (a : Act) (w : World), HeadInv .any ops k listed → listed.toList.count true + f = k → VInv ops A G listed a w → J (listed.toList.count true) w → headAny P ops Q (fun _ => True) k L f listed a w
  | 0, listed, a, w, inv, hc0, V, hJ => cut listed a w inv V (by rw [← (show listed.toList.count true = k by omega)]; exact hJ) (head_listed inv (by omega) (by omega))
  | f + 1, listed, a, w, inv, hc0, V, hJ => by
    obtain ⟨i0, hi0, hr0⟩ := head_ready inv (by omega) hdown (by omega)
    refine ⟨fun hr => (by rw [hr] at hr0; cases hr0), fun i hi => ?_⟩
    have hik : i < k := by
      rcases Nat.lt_or_ge i k with h | h
      · exact h
      · exact absurd hi (tail_waits hs hc hk inv _ i0 rfl hi0 (mem_ready.1 hr0).1 i h)
    refine ⟨hik, ?_⟩
    obtain ⟨hun, o, ho, hall⟩ := mem_ready.1 hi
    have hD := step i o listed a w hik ho inv hi V (by omega) hJ
    have next : ∀ v w', (J (listed.toList.count true + 1) w' ∧ St w w' ∧ G i v w') → (o.dst = none → v = undef) → headAny P ops Q (fun _ => True) k L f (listed.setIfInBounds i true) (a.put o.dst v) w' := by
      rintro v w' ⟨h1, h2, h3⟩ hnone
      have hcs := count_set_true listed i hun
      refine head_of_inv hk hs hc hsz hdown hg hone hG step cut f _ _ _ (inv.set hi hik) (by rw [hcs]; omega) ⟨?_, ?_, ?_, ?_⟩ (by rw [hcs]; exact h1)
      · cases hd : o.dst with
        | none => exact V.defers
        | some d => exact V.defers
      · cases hd : o.dst with
        | none => exact V.size
        | some d => show (a.tmps.setIfInBounds d v).size = _; rw [Array.size_setIfInBounds]; exact V.size
      · intro s hs
        have hns : o.dst ≠ some s := fun e => by
          have := hs i o ho e
          have hlt : i < listed.size := by rw [inv.size]; exact ready_lt hi
          simp [hlt] at this
        have hold : a.tmps.getD s undef = A.tmps.getD s undef := V.ext s fun j oj hj hd => by
          have := hs j oj hj hd
          have hji : i ≠ j := fun e => hns (by subst e; rw [ho] at hj; injection hj with hj; rw [hj]; exact hd)
          rw [getD_set_ne false hji] at this
          exact this
        cases hd : o.dst with
        | none => exact hold
        | some d =>
          rw [tmps_put_get a d s v (by rw [V.size]; exact hsz i o d ho hd), if_neg (fun e => hns (by rw [hd, e])), hold]
      · intro j oj hj hl
        by_cases hji : j = i
        · subst hji
          rw [ho] at hj
          injection hj with hj
          subst hj
          cases hd : o.dst with
          | none =>
            unfold slotOf
            rw [hd]
            rw [← hnone hd]
            exact h3
          | some d =>
            unfold slotOf
            simp only [hd]
            rw [tmps_put_get a d d v (by rw [V.size]; exact hsz j o d ho hd), if_pos rfl]
            exact h3
        · rw [getD_set_ne false (Ne.symm hji)] at hl
          have hold := hG _ _ _ _ h2 (V.fact j oj hj hl)
          have e : slotOf (a.put o.dst v) oj = slotOf a oj := by
            unfold slotOf
            cases hdj : oj.dst with
            | none => rfl
            | some dj =>
              cases hd : o.dst with
              | none => rfl
              | some d =>
                simp only
                rw [tmps_put_get a d dj v (by rw [V.size]; exact hsz i o d ho hd), if_neg (fun e => hji (hone j i oj o dj hj ho hdj (by rw [hd, e])))]
          rw [e]
          exact hold
    unfold wpOp
    rw [ho]
    have hw : Region.wanted o (yielded ops a.tmps) = true := by unfold Region.wanted; rw [hg i o ho]
    simp only [hw, if_true]
    refine .inl ?_
    unfold Oper.wp
    have hev : a.eval = evOf a := rfl
    rw [hev]
    have keep : ∀ v w', (J (listed.toList.count true + 1) w' ∧ St w w' ∧ G i (kept o v) w') → True ∧ headAny P ops Q (fun _ => True) k L f (listed.setIfInBounds i true) (a.put o.dst v) w' := by
      intro v w' hK
      have h := next (kept o v) w' hK (fun e => by unfold kept; rw [e])
      unfold kept at h
      refine ⟨trivial, ?_⟩
      cases hd : o.dst with
      | none => rw [hd] at h; exact h
      | some d => rw [hd] at h; exact h
    rcases hD with ⟨v, w', hr, hK⟩ | ⟨w', hr, hK⟩ | ⟨fn, args, hr, hK⟩
    · rw [hr]
      exact keep v w' hK
    · rw [hr]
      exact ⟨trivial, next undef w' hK (fun _ => rfl)⟩
    · rw [hr, Oper.upon_enter]
      refine hK.mono ?_
      rintro e w2 ⟨v, rfl, hK⟩
      exact keep v w2 hK
theorem headed {k : Nat} {listed : Array Bool} (inv : HeadInv .any ops k listed) (hk : k ≤ ops.size) (hall : ∀ i, i < k → listed.getD i false = true) : listed = Array.replicate k true ++ Array.replicate (ops.size - k) false := by
  have hsz := inv.size
  refine Array.ext (by simp; omega) (fun i h1 h2 => ?_)
  rcases Nat.lt_or_ge i k with h | h
  · have := hall i h
    simp [h1] at this
    rw [Array.getElem_append_left (by simpa using h)]
    simpa using this
  · have := inv.tail i h (by omega)
    simp [h1] at this
    rw [Array.getElem_append_right (by simpa using h)]
    simpa using this
/-- As region_free; the operations from k on are forced, and walked the ordinary way. -/
theorem region_head {id : Nat} {A : Act} {w : World} {l : List Oper} {Q' : Exit → Act → World → Prop} (N M k : Nat) (E E0 : List (Nat × Nat)) (T : List (Nat × Nat × Nat)) (J : Nat → World → Prop) (St : World → World → Prop) (Gt : List (Nat × (Value → World → Prop)))
    (hm : P.follows .mixedOrders = true) (hN : A.tmps.size = N) (hM : l.length = M) (hE : dstsOf 0 l = E) (hE0 : dstsOf 0 (l.take k) = E0) (hB : (Region.noSelect l.toArray && invB l.toArray N E && depsB l.toArray E T) = true)
    (hB2 : (decide (k < M) && Region.sinkB .any l.toArray k && Region.chainB .any l.toArray k && Region.seqB .any l.toArray (M - k) k (Array.replicate k true ++ Array.replicate (M - k) false)) = true)
    (hG : AllStab St Gt) (h0 : J 0 w.drew)
    (step : ∀ fr : Act, Aside (fr = A) → AllSteps (fun i o => ∀ (a : Act) (w : World) (c : Nat), Aside (J c w) → c < k → Aside (∀ t, (E.all fun x => x.2 != t) = true → evOf a (.tmp t) = ext fr t) → Aside (∀ j d, T.contains (i, j, d) = true → Gof Gt j (evOf a (.tmp d)) w) →
      Did P o (evOf a) w (fun v w' => J (c + 1) w' ∧ St w w' ∧ Gof Gt i v w')) 0 (l.take k))
    (cut : ∀ (f : Nat → Value) (w' : World), Aside (J k w') → Aside (∀ j d, E0.contains (j, d) = true → Gof Gt j (f d) w') → wpList P l.toArray Q' (l.drop k) (putAll A ((E0.map Prod.snd).map fun d => (d, f d))) w') : (Code.region id l.toArray true).wp P Q' A w := by
  subst hE hE0 hM
  simp only [Bool.and_eq_true, decide_eq_true_eq] at hB hB2
  obtain ⟨⟨hsel, hI⟩, hD⟩ := hB
  obtain ⟨⟨⟨hk, hs⟩, hc⟩, hq⟩ := hB2
  unfold invB at hI
  simp only [Bool.and_eq_true, List.all_eq_true, decide_eq_true_eq] at hI
  obtain ⟨⟨hI1, hI2⟩, hI3⟩ := hI
  have hmem : ∀ (i : Nat) (o : Oper) (d : Nat), l.toArray[i]? = some o → o.dst = some d → (i, d) ∈ dstsOf 0 l := fun i o d ho hd => by
    have := (dstsOf_mem l 0 i d).2 ⟨o, by simpa using ho, hd⟩
    rwa [Nat.zero_add] at this
  have hmem' : ∀ (i d : Nat), (i, d) ∈ dstsOf 0 l → ∃ o, l.toArray[i]? = some o ∧ o.dst = some d := fun i d h => by
    have := (dstsOf_mem l 0 i d).1 (by rwa [Nat.zero_add])
    simpa using this
  have hmem0 : ∀ (i d : Nat), (i, d) ∈ dstsOf 0 (l.take k) ↔ i < k ∧ ∃ o, l.toArray[i]? = some o ∧ o.dst = some d := fun i d => by
    have := dstsOf_mem (l.take k) 0 i d
    rw [Nat.zero_add] at this
    rw [this]
    constructor
    · rintro ⟨o, ho, hd⟩
      have hlt : i < (l.take k).length := (List.getElem?_eq_some_iff.1 ho).1
      rw [List.length_take] at hlt
      rw [List.getElem?_take_of_lt (by omega)] at ho
      exact ⟨by omega, o, by simpa using ho, hd⟩
    · rintro ⟨hi, o, ho, hd⟩
      exact ⟨o, by rw [List.getElem?_take_of_lt hi]; simpa using ho, hd⟩
  have hop : ∀ (i : Nat) (o : Oper), l.toArray[i]? = some o → o.guard.isNone = true ∧ ∀ e ∈ o.after, Region.binds .any e = true → e.on < i := fun i o ho => by
    have hi : i < l.toArray.size := (Array.getElem?_eq_some_iff.1 ho).1
    have := hI1 i (List.mem_range.2 hi)
    rw [ho] at this
    simp only [Bool.and_eq_true] at this
    refine ⟨this.1, fun e he hb => ?_⟩
    have h2 := Array.all_eq_true_iff_forall_mem.1 this.2 e he
    rw [hb] at h2
    simpa using h2
  have hkk : k < l.toArray.size := by simpa using hk
  have inv0 : HeadInv .any l.toArray k (Array.replicate l.toArray.size false) :=
    ⟨by simp, fun j oj _ hl => (by rw [getD_replicate_false] at hl; cases hl), fun t h1 h2 => getD_in (by simpa using h2) (getD_replicate_false _ _)⟩
  have hc0 : (Array.replicate l.toArray.size false).toList.count true = 0 := by
    rw [Array.toList_replicate]
    exact List.count_eq_zero.2 (by simp [List.mem_replicate])
  have H := head_of_inv (P := P) (Q := Q') (ops := l.toArray) (k := k) (A := A) (G := Gof Gt) (J := J) (St := St) (L := fun listed' a' w' => Region.seqB .any l.toArray (l.toArray.size - k) k listed' = true ∧ wpList P l.toArray Q' (l.drop k) a' w') hkk hs hc
    (fun i o d ho hd => by rw [hN]; exact hI2 _ (hmem i o d ho hd)) (fun i o ho => (hop i o ho).2) (fun i o ho => by simpa using (hop i o ho).1)
    (fun i j oi oj d hi hj h1 h2 => hI3 _ (hmem i oi d hi h1) _ (hmem j oj d hj h2) rfl) (Gof_stab hG) ?_ ?_ k _ A w.drew inv0 (by rw [hc0]; omega) ⟨rfl, rfl, fun _ _ => rfl, fun i o _ hl => by rw [getD_replicate_false] at hl; cases hl⟩ (by rw [hc0]; exact h0)
  · refine wp_region_any hm ?_
    have hdl : (l.drop k).length = l.toArray.size - k := by simp
    have := any_of_head (Q := Q') (g := l.toArray.size - k) (fun listed a' w' hL => by
      have := wpAny_of_seq (md := .any) (Q' := Q') (l.drop k) k listed a' w' (fun j => by simp [List.getElem?_drop]) (by rw [hdl]; exact hL.1) hL.2
      rwa [hdl] at this) _ _ _ _ H
    rw [show k + (l.toArray.size - k) = l.toArray.size by omega] at this
    exact this
  · intro i o listed a w hik ho inv hr V hlt hJ
    have h := (step A ⟨rfl⟩).at i o (by rw [List.getElem?_take_of_lt hik]; simpa using ho)
    rw [Nat.zero_add] at h
    refine h a w _ ⟨hJ⟩ hlt ⟨fun t ht => V.ext t fun k ok hk hd => ?_⟩ ⟨fun j d hjd => ?_⟩
    · have := List.all_eq_true.1 ht _ (hmem k ok t hk hd)
      simp at this
    · have h2 := List.all_eq_true.1 hD (i, j, d) (by simpa using hjd)
      simp only [Bool.and_eq_true] at h2
      have h3 : (j, d) ∈ dstsOf 0 l := by simpa using h2.2
      obtain ⟨oj, hoj, hdj⟩ := hmem' j d h3
      have hl : listed.getD j false = true := by
        obtain ⟨hun, o', ho', hall⟩ := mem_ready.1 hr
        have : o' = o := Option.some.inj (ho'.symm.trans ho)
        subst this
        have hw : waitsB l.toArray i j = true := h2.1
        unfold waitsB reachB at hw
        rw [ho] at hw
        obtain ⟨x, hx, hb⟩ := Array.any_eq_true'.1 hw
        simp only [Bool.and_eq_true, Bool.or_eq_true, beq_iff_eq] at hb
        have h1 := hall x hx hb.1
        rcases hb.2 with h2 | h2
        · rw [← h2]; exact h1
        · exact reach_listed inv _ x.on h2 h1
      have := V.fact j oj hoj hl
      unfold slotOf at this
      rw [hdj] at this
      exact this
  · intro listed a w' inv V hJ hall
    refine ⟨?_, ?_⟩
    · rw [headed inv (by omega) hall]
      simpa using hq
    have key := cut (fun d => a.tmps.getD d undef) w' ⟨hJ⟩ ⟨fun j d hjd => by
      obtain ⟨hjk, oj, hoj, hdj⟩ := (hmem0 j d).1 (by simpa using hjd)
      have := V.fact j oj hoj (hall j hjk)
      unfold slotOf at this
      rw [hdj] at this
      exact this⟩
    have e : a = putAll A (((dstsOf 0 (l.take k)).map Prod.snd).map fun d => (d, a.tmps.getD d undef)) := by
      refine act_eq (by rw [putAll_defers]; exact V.defers) (by rw [putAll_size]; exact V.size) (fun s => ?_)
      rw [putAll_get A (fun d => a.tmps.getD d undef) _ (fun d hd => by
        obtain ⟨⟨j, d'⟩, hx, rfl⟩ := List.mem_map.1 hd
        obtain ⟨-, o, ho, hdo⟩ := (hmem0 j d').1 hx
        rw [hN]; exact hI2 _ (hmem j o d' ho hdo)) s]
      by_cases hs : s ∈ (dstsOf 0 (l.take k)).map Prod.snd
      · rw [if_pos hs]
      · rw [if_neg hs]
        refine V.ext s fun j oj hj hd => ?_
        cases hlj : listed.getD j false with
        | false => rfl
        | true =>
          exfalso
          have hjk : j < k := by
            rcases Nat.lt_or_ge j k with h | h
            · exact h
            · have h5 := getD_both (inv.tail j h (Array.getElem?_eq_some_iff.1 hj).1)
              rw [hlj] at h5
              cases h5
          exact hs (List.mem_map.2 ⟨_, (hmem0 j s).2 ⟨hjk, oj, hj, hd⟩, rfl⟩)
    rw [← e] at key
    exact key
end Go.Proofs.YtlopbheahedofaaDoor.Plan
