/- A region that draws its order, walked by a tree of plans: where two operations come up together both ways are walked; what is known of the world may grow behind an operation that is carried out. Plans with two stages: what is known of the world gives way behind one effect (an append and the store of its row). Trees of plans over named operations, the frame apart, and their leaves joined: what holds behind the region is said once. Conditions: those of each theorem. -/
import Derived.Test.YtdldgchkinflmaaPlan
import Derived.Test.YtdldgchkinflmaaEnv
section
set_option linter.unusedVariables false
namespace Go.Proofs.Ytdldgchkinflmaa.Plan
open Go Go.RowKit Go.Proofs.Ytdldgchkinflmaa.Lib
variable {P : Program} {ops : Array Oper} {Q : Exit → Act → World → Prop}

inductive PT where
  | nil
  | yes (i : Nat) (r : PT)
  | eff (i : Nat) (r : PT)
  | fork (i j : Nat) (ri rj : PT)
def PT.len : PT → Nat
  | .nil => 0
  | .yes _ r => r.len + 1
  | .eff _ r => r.len + 1
  | .fork _ _ ri _ => ri.len + 1
def ptE (ops : Array Oper) : PT → Array Bool → Bool
  | .nil, listed => (Region.ready .any ops listed).isEmpty
  | .yes i r, listed => (Region.ready .any ops listed).contains i && Region.free .any ops listed i && ptE ops r (listed.setIfInBounds i true)
  | .eff i r, listed => decide (Region.ready .any ops listed = [i]) && ptE ops r (listed.setIfInBounds i true)
  | .fork i j ri rj, listed => decide (Region.ready .any ops listed = [i, j]) && decide (ri.len = rj.len) && ptE ops ri (listed.setIfInBounds i true) && ptE ops rj (listed.setIfInBounds j true)
def wpT (P : Program) (ops : Array Oper) (Q : Exit → Act → World → Prop) : PT → (World → Prop) → Act → World → Prop
  | .nil, _, a, w => Q .normal a w
  | .yes i r, S, a, w => ∃ v, (∀ o, ops[i]? = some o → YieldsIf P ops S o v a) ∧ wpT P ops Q r S (match ops[i]? with | some o => a.put o.dst v | none => a) w
  | .eff i r, S, a, w => wpOp P ops Q i (fun a' w' => ∃ S2 : World → Prop, (∀ w, S2 w → S w) ∧ S2 w' ∧ wpT P ops Q r S2 a' w') a w
  | .fork i j ri rj, S, a, w => wpOp P ops Q i (fun a' w' => ∃ S2 : World → Prop, (∀ w, S2 w → S w) ∧ S2 w' ∧ wpT P ops Q ri S2 a' w') a w ∧
      wpOp P ops Q j (fun a' w' => ∃ S2 : World → Prop, (∀ w, S2 w → S w) ∧ S2 w' ∧ wpT P ops Q rj S2 a' w') a w
theorem headAny_mono {S S2 : World → Prop} (hS : ∀ w, S2 w → S w) {n : Nat} {L : Array Bool → Act → World → Prop} :
    ∀ (f : Nat) (listed : Array Bool) (a : Act) (w : World), headAny P ops Q S2 n L f listed a w → headAny P ops Q S n L f listed a w
  | 0, _, _, _, h => h
  | f + 1, listed, a, w, h => ⟨h.1, fun i hi => ⟨(h.2 i hi).1, wpOp_mono (fun a' w' h' => ⟨hS _ h'.1, headAny_mono hS f _ a' w' h'.2⟩) (h.2 i hi).2⟩⟩
theorem head_of_T (hsel : Region.noSelect ops = true) (hQ : ∀ c a d v w, Q (.panic c) (Act.put a d v) w → Q (.panic c) a w) :
    ∀ (p : PT) (S : World → Prop) (listed : Array Bool) (a : Act) (w : World), ptE ops p listed = true → HeadInv .any ops ops.size listed → S w → wpT P ops Q p S a w →
      headAny P ops Q S ops.size (fun listed' a' w' => Region.ready .any ops listed' = [] ∧ Q .normal a' w') p.len listed a w
  | .nil, S, listed, a, w, hB, _, _, h => ⟨by simpa [ptE] using hB, h⟩
  | .yes i r, S, listed, a, w, hB, inv, hS, h => by
    simp only [ptE, Bool.and_eq_true] at hB
    obtain ⟨⟨hr, hf⟩, hB'⟩ := hB
    obtain ⟨v, hy, h⟩ := h
    have hr' : i ∈ Region.ready .any ops listed := by simpa using hr
    obtain ⟨_, oi, hoi, _⟩ := mem_ready.1 hr'
    rw [hoi] at h
    exact head_first hoi (Region.noSelect_spec hsel) (fun _ _ _ _ _ t ht hm => absurd (ready_lt hm) (by omega)) (ready_lt hr') (fun listed' a' w' hL j hj => (by rw [hL.1] at hj; cases hj)) (fun c a w => hQ c a _ _ w) r.len listed a w inv (Region.free_spec hoi hf) hr' (hy oi hoi) hS
      (head_of_T hsel hQ r S _ _ w hB' (inv.set hr' (ready_lt hr')) hS h)
  | .eff i r, S, listed, a, w, hB, inv, hS, h => by
    simp only [ptE, Bool.and_eq_true, decide_eq_true_eq] at hB
    obtain ⟨hr, hB'⟩ := hB
    refine ⟨fun h0 => (by rw [hr] at h0; cases h0), fun j hj => ?_⟩
    have hj' := hj
    rw [hr] at hj
    have : j = i := by simpa using hj
    subst this
    refine ⟨ready_lt hj', wpOp_mono (fun a' w' h' => ?_) h⟩
    obtain ⟨S2, h1, h2, h3⟩ := h'
    exact ⟨h1 _ h2, headAny_mono h1 _ _ _ _ (head_of_T hsel hQ r S2 _ a' w' hB' (inv.set hj' (ready_lt hj')) h2 h3)⟩
  | .fork i j ri rj, S, listed, a, w, hB, inv, hS, h => by
    simp only [ptE, Bool.and_eq_true, decide_eq_true_eq] at hB
    obtain ⟨⟨⟨hr, hl⟩, hB1⟩, hB2⟩ := hB
    refine ⟨fun h0 => (by rw [hr] at h0; cases h0), fun t ht => ?_⟩
    have ht' := ht
    rw [hr] at ht
    have : t = i ∨ t = j := by simpa using ht
    refine ⟨ready_lt ht', ?_⟩
    rcases this with rfl | rfl
    · refine wpOp_mono (fun a' w' h' => ?_) h.1
      obtain ⟨S2, h1, h2, h3⟩ := h'
      exact ⟨h1 _ h2, headAny_mono h1 _ _ _ _ (head_of_T hsel hQ ri S2 _ a' w' hB1 (inv.set ht' (ready_lt ht')) h2 h3)⟩
    · refine wpOp_mono (fun a' w' h' => ?_) h.2
      obtain ⟨S2, h1, h2, h3⟩ := h'
      refine ⟨h1 _ h2, ?_⟩
      rw [show PT.len ri = PT.len rj from hl]
      exact headAny_mono h1 _ _ _ _ (head_of_T hsel hQ rj S2 _ a' w' hB2 (inv.set ht' (ready_lt ht')) h2 h3)
def treeAll (ops : Array Oper) (p : PT) : Bool := Region.noSelect ops && decide (p.len = ops.size) && ptE ops p (Array.replicate ops.size false)
theorem region_tree {id : Nat} {a : Act} {w : World} {l : List Oper} (p : PT) (S : World → Prop) (hm : P.follows .mixedOrders = true) (hB : treeAll l.toArray p = true)
    (hQ : ∀ c a d v w, Q (.panic c) (Act.put a d v) w → Q (.panic c) a w) (hS : S w.drew) (h : wpT P l.toArray Q p S a w.drew) : (Code.region id l.toArray true).wp P Q a w := by
  simp only [treeAll, Bool.and_eq_true, decide_eq_true_eq] at hB
  obtain ⟨⟨hsel, hp⟩, hB⟩ := hB
  have inv0 : HeadInv .any l.toArray l.toArray.size (Array.replicate l.toArray.size false) :=
    ⟨by simp, fun j oj _ hl => (by rw [getD_replicate_false] at hl; cases hl), fun t h1 h2 => absurd h2 (by omega)⟩
  have H := head_of_T hsel hQ p S _ a w.drew hB inv0 hS h
  refine wp_region_any hm ?_
  have := any_of_head (Q := Q) (g := 0) (fun listed a' w' hL => (⟨hL.1, hL.2⟩ : wpAny P .any l.toArray Q 0 listed a' w')) _ _ _ _ H
  rw [hp, Nat.add_zero] at this
  exact this

/-! ### its steps -/
theorem tree_yields {S : World → Prop} {i : Nat} {r : PT} {a : Act} {w : World} {o : Oper} (v : Value) (ho : ops[i]? = some o) (hw : Region.wanted o (yielded ops a.tmps) = true) (hy : ∀ w', S w' → (execOp a.eval o).run P w' = .ok (.value v) w')
    (h : wpT P ops Q r S (a.put o.dst v) w) : wpT P ops Q (.yes i r) S a w := by
  refine ⟨v, fun o' ho' => ?_, ?_⟩
  · rw [ho] at ho'
    injection ho' with e
    subst e
    exact .inl ⟨hw, hy⟩
  · rw [ho]
    exact h
theorem tree_off {S : World → Prop} {i : Nat} {r : PT} {a : Act} {w : World} {o : Oper} (ho : ops[i]? = some o) (hw : Region.wanted o (yielded ops a.tmps) = false)
    (h : wpT P ops Q r S (a.put o.dst undef) w) : wpT P ops Q (.yes i r) S a w := by
  refine ⟨undef, fun o' ho' => ?_, ?_⟩
  · rw [ho] at ho'
    injection ho' with e
    subst e
    exact .inr ⟨hw, rfl⟩
  · rw [ho]
    exact h
theorem tree_end {S : World → Prop} {a : Act} {w : World} (h : Q .normal a w) : wpT P ops Q .nil S a w := h
theorem tree_op {S : World → Prop} {i : Nat} {r : PT} {a : Act} {w : World} {o : Oper} (ho : ops[i]? = some o) (hw : Region.wanted o (yielded ops a.tmps) = true)
    (h : ∀ K : Act → World → Prop, (∀ (S2 : World → Prop) a' w', (∀ w, S2 w → S w) → S2 w' → wpT P ops Q r S2 a' w' → K a' w') → o.wp P a w K Q) :
    wpOp P ops Q i (fun a' w' => ∃ S2 : World → Prop, (∀ w, S2 w → S w) ∧ S2 w' ∧ wpT P ops Q r S2 a' w') a w := by
  have := h (fun a' w' => ∃ S2 : World → Prop, (∀ w, S2 w → S w) ∧ S2 w' ∧ wpT P ops Q r S2 a' w') (fun S2 a' w' h1 h2 h3 => ⟨S2, h1, h2, h3⟩)
  unfold wpOp
  rw [ho]
  simp only [hw, if_true]
  exact .inl this
theorem tree_effect {S : World → Prop} {i : Nat} {r : PT} {a : Act} {w : World} {o : Oper} (ho : ops[i]? = some o) (hw : Region.wanted o (yielded ops a.tmps) = true)
    (h : ∀ K : Act → World → Prop, (∀ (S2 : World → Prop) a' w', (∀ w, S2 w → S w) → S2 w' → wpT P ops Q r S2 a' w' → K a' w') → o.wp P a w K Q) : wpT P ops Q (.eff i r) S a w := tree_op ho hw h
end Go.Proofs.Ytdldgchkinflmaa.Plan
end
section
set_option linter.unusedVariables false
namespace Go.Proofs.Ytdldgchkinflmaa.Plan
open Go Go.RowKit Go.Proofs.Ytdldgchkinflmaa.Lib
variable {P : Program} {ops : Array Oper} {Q : Exit → Act → World → Prop}

def headS (P : Program) (ops : Array Oper) (Q : Exit → Act → World → Prop) (S : Array Bool → World → Prop) (L : Array Bool → Act → World → Prop) : Nat → Array Bool → Act → World → Prop
  | 0, listed, a, w => L listed a w
  | f + 1, listed, a, w => Region.ready .any ops listed ≠ [] ∧ ∀ i ∈ Region.ready .any ops listed, i < ops.size ∧ wpOp P ops Q i (fun a' w' => S (listed.setIfInBounds i true) w' ∧ headS P ops Q S L f (listed.setIfInBounds i true) a' w') a w
theorem any_of_headS {g : Nat} {S : Array Bool → World → Prop} {L : Array Bool → Act → World → Prop} (hL : ∀ listed a w, L listed a w → wpAny P .any ops Q g listed a w) :
    ∀ (f : Nat) (listed : Array Bool) (a : Act) (w : World), headS P ops Q S L f listed a w → wpAny P .any ops Q (f + g) listed a w
  | 0, listed, a, w, h => by rw [Nat.zero_add]; exact hL _ _ _ h
  | f + 1, listed, a, w, h => by
    rw [show f + 1 + g = (f + g) + 1 by omega]
    exact ⟨fun h0 => absurd h0 h.1, fun i hi => wpOp_mono (fun a' w' h' => any_of_headS hL f _ a' w' h'.2) (h.2 i hi).2⟩
/-- What holds of the world while operation i is not yet carried out. -/
def Till (ops : Array Oper) (S : Array Bool → World → Prop) (i : Nat) : World → Prop := fun w => ∃ l, HeadInv .any ops ops.size l ∧ l.getD i true = false ∧ S l w
theorem head_firstS {i : Nat} {oi : Oper} {v : Value} {S : Array Bool → World → Prop} {L : Array Bool → Act → World → Prop} (hi : ops[i]? = some oi) (hsel : ∀ (j : Nat) (o : Oper) cs b, ops[j]? = some o → o.op ≠ .select cs b)
    (hdone : ∀ listed a w, L listed a w → Region.ready .any ops listed = []) (hQ : ∀ c a w, Q (.panic c) (a.put oi.dst v) w → Q (.panic c) a w) (hst : ∀ l w, S (l.setIfInBounds i true) w ↔ S l w) :
    ∀ (f : Nat) (listed : Array Bool) (a : Act) (w : World), HeadInv .any ops ops.size listed →
      (∀ j oj, ops[j]? = some oj → j ≠ i → listed.getD j true = false → (∀ e ∈ oj.after, Region.binds .any e = true → e.on ≠ i) → oi.apart ops oj = true) →
      i ∈ Region.ready .any ops listed → YieldsIf P ops (Till ops S i) oi v a → S listed w →
      headS P ops Q S L f (listed.setIfInBounds i true) (a.put oi.dst v) w → headS P ops Q S L (f + 1) listed a w := by
  intro f
  induction f with
  | zero =>
    intro listed a w inv _ hr hy hS H
    have hun := (mem_ready.1 hr).1
    refine ⟨fun h => (by rw [h] at hr; cases hr), fun j hj => ⟨ready_lt hj, ?_⟩⟩
    by_cases hji : j = i
    · subst hji; exact hy.wpOp hi ⟨listed, inv, hun, hS⟩ ⟨(hst _ _).2 hS, H⟩
    · have := hdone _ _ _ H
      have hj' := ready_mono hj hji
      rw [this] at hj'
      cases hj'
  | succ f ih =>
    intro listed a w inv hfree hr hy hS H
    have hun := (mem_ready.1 hr).1
    refine ⟨fun h => (by rw [h] at hr; cases hr), fun j hj => ⟨ready_lt hj, ?_⟩⟩
    by_cases hji : j = i
    · subst hji; exact hy.wpOp hi ⟨listed, inv, hun, hS⟩ ⟨(hst _ _).2 hS, H⟩
    · have h1 := (H.2 j (ready_mono hj hji)).2
      obtain ⟨hjun, oj, hoj, hall⟩ := mem_ready.1 hj
      have hnot : ∀ e ∈ oj.after, Region.binds .any e = true → e.on ≠ i := fun e he hb heq => by
        have h1 := hall e he hb
        rw [heq, getD_both hun] at h1
        cases h1
      have h2 := wpOp_putIf hoj (hfree j oj hoj hji hjun hnot) (fun cs b => hsel i oi cs b hi) (fun cs b => hsel j oj cs b hoj) hQ hy h1
      have hfree' : ∀ k ok, ops[k]? = some ok → k ≠ i → (listed.setIfInBounds j true).getD k true = false →
          (∀ e ∈ ok.after, Region.binds .any e = true → e.on ≠ i) → oi.apart ops ok = true := fun k ok hk hki hun hno => by
        refine hfree k ok hk hki ?_ hno
        by_cases hjk : j = k
        · subst hjk; exact hjun
        · rw [getD_set_ne true hjk] at hun; exact hun
      refine wpOp_mono (fun a' w' h3 => ?_) h2
      have hSj : S (listed.setIfInBounds j true) w' := by
        have := h3.2.1
        rw [Array.setIfInBounds_comm _ _ (Ne.symm hji), hst] at this
        exact this
      refine ⟨hSj, ih (listed.setIfInBounds j true) a' w' (inv.set hj (ready_lt hj)) hfree' (ready_mono hr (Ne.symm hji)) h3.1 hSj ?_⟩
      rw [Array.setIfInBounds_comm _ _ hji]
      exact h3.2.2
/-- Operation e waits for i, straight or by others. -/
def reachB (ops : Array Oper) : Nat → Nat → Nat → Bool
  | 0, _, _ => false
  | f + 1, e, i => match ops[e]? with
    | some o => o.after.any (fun x => Region.binds .any x && (x.on == i || reachB ops f x.on i))
    | none => false
def waitsB (ops : Array Oper) (e i : Nat) : Bool := reachB ops 6 e i
theorem reach_listed {i n : Nat} {l : Array Bool} (inv : HeadInv .any ops n l) : ∀ (f e : Nat), reachB ops f e i = true → l.getD e false = true → l.getD i false = true
  | 0, _, h, _ => by cases h
  | f + 1, e, h, hl => by
    unfold reachB at h
    cases he : ops[e]? with
    | none => rw [he] at h; cases h
    | some o =>
      rw [he] at h
      obtain ⟨x, hx, hb⟩ := Array.any_eq_true'.1 h
      simp only [Bool.and_eq_true, Bool.or_eq_true, beq_iff_eq] at hb
      have h1 := inv.closed e o he hl x hx hb.1
      rcases hb.2 with h2 | h2
      · rw [← h2]; exact h1
      · exact reach_listed inv f x.on h2 h1
def stageS (S0 S1 : World → Prop) (e : Nat) (l : Array Bool) (w : World) : Prop := if l.getD e false = true then S1 w else S0 w
/-- The plan: (i, true) yields the same till it is carried out, (i, false) comes up alone. Behind e: S1, ahead of it S0. -/
def wpPlan2 (P : Program) (ops : Array Oper) (Q : Exit → Act → World → Prop) (S0 S1 : World → Prop) (e : Nat) : Bool → List (Nat × Bool) → Act → World → Prop
  | _, [], a, w => Q .normal a w
  | st, (i, true) :: r, a, w => ∃ v, i ≠ e ∧ (∀ o, ops[i]? = some o → YieldsIf P ops S1 o v a ∨ (waitsB ops e i = true ∧ YieldsIf P ops S0 o v a)) ∧ wpPlan2 P ops Q S0 S1 e st r (match ops[i]? with | some o => a.put o.dst v | none => a) w
  | st, (i, false) :: r, a, w => wpOp P ops Q i (fun a' w' => (if (st || i == e) = true then S1 w' else S0 w') ∧ wpPlan2 P ops Q S0 S1 e (st || i == e) r a' w') a w
theorem till_weak {S0 S1 : World → Prop} (h01 : ∀ w, S0 w → S1 w) {e i : Nat} {w : World} (h : Till ops (stageS S0 S1 e) i w) : S1 w := by
  obtain ⟨l, -, -, hs⟩ := h
  unfold stageS at hs
  split at hs
  · exact hs
  · exact h01 w hs
theorem till_early {S0 S1 : World → Prop} {e i : Nat} (hd : waitsB ops e i = true) {w : World} (h : Till ops (stageS S0 S1 e) i w) : S0 w := by
  obtain ⟨l, inv, hun, hs⟩ := h
  unfold stageS at hs
  split at hs
  · rename_i hl
    exfalso
    have := reach_listed inv 6 e hd hl
    rw [getD_both hun] at this
    cases this
  · exact hs
theorem yields_weaken {S S' : World → Prop} {o : Oper} {v : Value} {a : Act} (h : YieldsIf P ops S o v a) (hs : ∀ w, S' w → S w) : YieldsIf P ops S' o v a :=
  h.imp (fun h => ⟨h.1, fun w hw => h.2 w (hs w hw)⟩) id
theorem getD_set_e {l : Array Bool} {i e : Nat} (h : i ≠ e) : (l.setIfInBounds i true).getD e false = l.getD e false := by
  rw [Array.getD_eq_getD_getElem?, Array.getD_eq_getD_getElem?, Array.getElem?_setIfInBounds, if_neg h]
theorem head_of_plan2 {S0 S1 : World → Prop} (h01 : ∀ w, S0 w → S1 w) {e : Nat} (hsel : Region.noSelect ops = true) (hQ : ∀ c a d v w, Q (.panic c) (Act.put a d v) w → Q (.panic c) a w) :
    ∀ (p : List (Nat × Bool)) (st : Bool) (listed : Array Bool) (a : Act) (w : World), planE ops p listed = true → HeadInv .any ops ops.size listed → listed.getD e false = st → (if st = true then S1 w else S0 w) → wpPlan2 P ops Q S0 S1 e st p a w →
      headS P ops Q (stageS S0 S1 e) (fun listed' a' w' => Region.ready .any ops listed' = [] ∧ Q .normal a' w') p.length listed a w
  | [], st, listed, a, w, hB, _, _, _, h => ⟨by simpa [planE] using hB, h⟩
  | (i, true) :: r, st, listed, a, w, hB, inv, hl, hS, h => by
    simp only [planE, Bool.and_eq_true] at hB
    obtain ⟨⟨hr, hf⟩, hB'⟩ := hB
    obtain ⟨v, hie, hy, h⟩ := h
    have hr' : i ∈ Region.ready .any ops listed := by simpa using hr
    obtain ⟨_, oi, hoi, _⟩ := mem_ready.1 hr'
    rw [hoi] at h
    have hy' : YieldsIf P ops (Till ops (stageS S0 S1 e) i) oi v a := by
      rcases hy oi hoi with hy | ⟨hd, hy⟩
      · exact yields_weaken hy (fun w hw => till_weak h01 hw)
      · exact yields_weaken hy (fun w hw => till_early hd hw)
    refine head_firstS hoi (Region.noSelect_spec hsel) (fun listed' a' w' hL => hL.1) (fun c a w => hQ c a _ _ w) (fun l w => ?_) r.length listed a w inv (Region.free_spec hoi hf) hr' hy' ?_
      (head_of_plan2 h01 hsel hQ r st _ _ w hB' (inv.set hr' (ready_lt hr')) (by rw [getD_set_e hie]; exact hl) hS h)
    · unfold stageS; rw [getD_set_e hie]
    · unfold stageS; rw [hl]; exact hS
  | (i, false) :: r, st, listed, a, w, hB, inv, hl, hS, h => by
    simp only [planE, Bool.and_eq_true, decide_eq_true_eq] at hB
    obtain ⟨hr, hB'⟩ := hB
    refine ⟨fun h0 => (by rw [hr] at h0; cases h0), fun j hj => ?_⟩
    have hj' := hj
    rw [hr] at hj
    have : j = i := by simpa using hj
    subst this
    have hl2 : (listed.setIfInBounds j true).getD e false = (st || j == e) := by
      by_cases hje : j = e
      · subst hje
        have hlt : j < listed.size := by rw [inv.size]; exact ready_lt hj'
        rw [Array.getD_eq_getD_getElem?, Array.getElem?_setIfInBounds, if_pos rfl, if_pos hlt]
        simp
      · rw [getD_set_e hje, hl]
        simp [hje]
    refine ⟨ready_lt hj', wpOp_mono (fun a' w' h' => ⟨?_, head_of_plan2 h01 hsel hQ r _ _ a' w' hB' (inv.set hj' (ready_lt hj')) hl2 h'.1 h'.2⟩) h⟩
    unfold stageS
    rw [hl2]
    exact h'.1
theorem region_two {id : Nat} {a : Act} {w : World} {l : List Oper} (p : List (Nat × Bool)) (S0 S1 : World → Prop) (e : Nat) (h01 : ∀ w, S0 w → S1 w) (hm : P.follows .mixedOrders = true) (hB : planAll l.toArray p = true)
    (hQ : ∀ c a d v w, Q (.panic c) (Act.put a d v) w → Q (.panic c) a w) (hS : S0 w.drew) (h : wpPlan2 P l.toArray Q S0 S1 e false p a w.drew) : (Code.region id l.toArray true).wp P Q a w := by
  simp only [planAll, Bool.and_eq_true, decide_eq_true_eq] at hB
  obtain ⟨⟨hsel, hp⟩, hB⟩ := hB
  have inv0 : HeadInv .any l.toArray l.toArray.size (Array.replicate l.toArray.size false) :=
    ⟨by simp, fun j oj _ hl => (by rw [getD_replicate_false] at hl; cases hl), fun t h1 h2 => absurd h2 (by omega)⟩
  have H := head_of_plan2 h01 hsel hQ p false _ a w.drew hB inv0 (getD_replicate_false _ _) hS h
  refine wp_region_any hm ?_
  have := any_of_headS (Q := Q) (g := 0) (fun listed a' w' hL => (⟨hL.1, hL.2⟩ : wpAny P .any l.toArray Q 0 listed a' w')) _ _ _ _ H
  rw [hp, Nat.add_zero] at this
  exact this
theorem region_env2 {id : Nat} {A : Act} {w : World} {l : List Oper} (p : List (Nat × Bool)) (S0 S1 : World → Prop) (e : Nat) (N : Nat) (hN : A.tmps.size = N) (hm : P.follows .mixedOrders = true) (hB : planAll l.toArray p = true)
    (hQ : ∀ c a d v w, Q (.panic c) (Act.put a d v) w → Q (.panic c) a w) (h01 : ∀ w, S0 w → S1 w) (hS : S0 w.drew)
    (h : ∀ (ops : Array Oper) (a : Act), Aside (a = A) → Aside (a.tmps.size = N) → Aside (∀ i, waitsB ops e i = waitsB l.toArray e i) → (∀ j, ops[0 + j]? = l[j]?) → wpPlan2 P ops Q S0 S1 e false p (putAll a []) w.drew) : (Code.region id l.toArray true).wp P Q A w :=
  region_two p S0 S1 e h01 hm hB hQ hS (h l.toArray A ⟨rfl⟩ ⟨hN⟩ ⟨fun i => rfl⟩ (fun j => by simp))
variable {S0 S1 : World → Prop} {e : Nat} {st : Bool}
theorem plan2_yields {i : Nat} {r : List (Nat × Bool)} {a : Act} {w : World} {o : Oper} (v : Value) (ho : ops[i]? = some o) (hw : Region.wanted o (yielded ops a.tmps) = true) (hie : i ≠ e) (hy : ∀ w', S1 w' → (execOp a.eval o).run P w' = .ok (.value v) w')
    (h : wpPlan2 P ops Q S0 S1 e st r (a.put o.dst v) w) : wpPlan2 P ops Q S0 S1 e st ((i, true) :: r) a w := by
  refine ⟨v, hie, fun o' ho' => ?_, ?_⟩
  · rw [ho] at ho'
    injection ho' with e
    subst e
    exact .inl (.inl ⟨hw, hy⟩)
  · rw [ho]; exact h
theorem plan2_early {i : Nat} {r : List (Nat × Bool)} {a : Act} {w : World} {o : Oper} (v : Value) (ho : ops[i]? = some o) (hw : Region.wanted o (yielded ops a.tmps) = true) (hie : i ≠ e) (hd : waitsB ops e i = true) (hy : ∀ w', S0 w' → (execOp a.eval o).run P w' = .ok (.value v) w')
    (h : wpPlan2 P ops Q S0 S1 e st r (a.put o.dst v) w) : wpPlan2 P ops Q S0 S1 e st ((i, true) :: r) a w := by
  refine ⟨v, hie, fun o' ho' => ?_, ?_⟩
  · rw [ho] at ho'
    injection ho' with e
    subst e
    exact .inr ⟨hd, .inl ⟨hw, hy⟩⟩
  · rw [ho]; exact h
theorem plan2_off {i : Nat} {r : List (Nat × Bool)} {a : Act} {w : World} {o : Oper} (ho : ops[i]? = some o) (hw : Region.wanted o (yielded ops a.tmps) = false) (hie : i ≠ e)
    (h : wpPlan2 P ops Q S0 S1 e st r (a.put o.dst undef) w) : wpPlan2 P ops Q S0 S1 e st ((i, true) :: r) a w := by
  refine ⟨undef, hie, fun o' ho' => ?_, ?_⟩
  · rw [ho] at ho'
    injection ho' with e
    subst e
    exact .inl (.inr ⟨hw, rfl⟩)
  · rw [ho]; exact h
theorem plan2_effect {i : Nat} {r : List (Nat × Bool)} {a : Act} {w : World} {o : Oper} (ho : ops[i]? = some o) (hw : Region.wanted o (yielded ops a.tmps) = true)
    (h : ∀ K : Act → World → Prop, (∀ a' w', (if (st || i == e) = true then S1 w' else S0 w') → wpPlan2 P ops Q S0 S1 e (st || i == e) r a' w' → K a' w') → o.wp P a w K Q) : wpPlan2 P ops Q S0 S1 e st ((i, false) :: r) a w := by
  have := h (fun a' w' => (if (st || i == e) = true then S1 w' else S0 w') ∧ wpPlan2 P ops Q S0 S1 e (st || i == e) r a' w') (fun a' w' h1 h2 => ⟨h1, h2⟩)
  show wpOp P ops Q i _ a w
  unfold wpOp
  rw [ho]
  simp only [hw, if_true]
  exact .inl this
variable {es : Nat}
section
variable {N : Nat} {a : Act} (hN : Aside (a.tmps.size = N)) {i : Nat} {r : List (Nat × Bool)} {us : List (Nat × Value)} {w : World} {d : Nat} {op : Op} {ty : TypeId} {pos : String} {af : Array Edge}
include hN
theorem env2_yes (hie : i ≠ es) (ho : ops[i]? = some ⟨some d, op, ty, pos, af, none⟩) (v : Value) (hy : ∀ w', S1 w' → (execOp (look N a us) ⟨some d, op, ty, pos, af, none⟩).run P w' = .ok (.value v) w')
    (h : wpPlan2 P ops Q S0 S1 es st r (putAll a ((d, v) :: us)) w) : wpPlan2 P ops Q S0 S1 es st ((i, true) :: r) (putAll a us) w :=
  plan2_yields v ho rfl hie (by rw [putAll_eval hN.out]; exact hy) h
theorem env2_none (hie : i ≠ es) (ho : ops[i]? = some ⟨none, op, ty, pos, af, none⟩) (v : Value) (hy : ∀ w', S1 w' → (execOp (look N a us) ⟨none, op, ty, pos, af, none⟩).run P w' = .ok (.value v) w')
    (h : wpPlan2 P ops Q S0 S1 es st r (putAll a us) w) : wpPlan2 P ops Q S0 S1 es st ((i, true) :: r) (putAll a us) w :=
  plan2_yields v ho rfl hie (by rw [putAll_eval hN.out]; exact hy) h
theorem env2_early (hie : i ≠ es) {l : List Oper} (hW : Aside (∀ i, waitsB ops es i = waitsB l.toArray es i)) (hd : waitsB l.toArray es i = true) (ho : ops[i]? = some ⟨some d, op, ty, pos, af, none⟩) (v : Value) (hy : ∀ w', S0 w' → (execOp (look N a us) ⟨some d, op, ty, pos, af, none⟩).run P w' = .ok (.value v) w')
    (h : wpPlan2 P ops Q S0 S1 es st r (putAll a ((d, v) :: us)) w) : wpPlan2 P ops Q S0 S1 es st ((i, true) :: r) (putAll a us) w :=
  plan2_early v ho rfl hie (by rw [hW.out]; exact hd) (by rw [putAll_eval hN.out]; exact hy) h
variable {j dj : Nat} {b : Bool} {opj : Op} {tyj : TypeId} {posj : String} {afj : Array Edge} {gj : Option (Nat × Bool)}
theorem env2_on (hie : i ≠ es) (ho : ops[i]? = some ⟨some d, op, ty, pos, af, some (j, b)⟩) (hj : ops[j]? = some ⟨some dj, opj, tyj, posj, afj, gj⟩) (ht : lookT N a us dj = .bool b) (v : Value)
    (hy : ∀ w', S1 w' → (execOp (look N a us) ⟨some d, op, ty, pos, af, some (j, b)⟩).run P w' = .ok (.value v) w') (h : wpPlan2 P ops Q S0 S1 es st r (putAll a ((d, v) :: us)) w) : wpPlan2 P ops Q S0 S1 es st ((i, true) :: r) (putAll a us) w :=
  plan2_yields v ho (by rw [env_wanted hN hj ht]; simp) hie (by rw [putAll_eval hN.out]; exact hy) h
theorem env2_off (hie : i ≠ es) (ho : ops[i]? = some ⟨some d, op, ty, pos, af, some (j, b)⟩) (hj : ops[j]? = some ⟨some dj, opj, tyj, posj, afj, gj⟩) (ht : lookT N a us dj = .bool !b)
    (h : wpPlan2 P ops Q S0 S1 es st r (putAll a ((d, undef) :: us)) w) : wpPlan2 P ops Q S0 S1 es st ((i, true) :: r) (putAll a us) w :=
  plan2_off ho (by rw [env_wanted hN hj ht]; cases b <;> rfl) hie h
theorem env2_off_undef (hie : i ≠ es) (ho : ops[i]? = some ⟨some d, op, ty, pos, af, some (j, b)⟩) (hj : ops[j]? = some ⟨some dj, opj, tyj, posj, afj, gj⟩) (ht : lookT N a us dj = undef)
    (h : wpPlan2 P ops Q S0 S1 es st r (putAll a ((d, undef) :: us)) w) : wpPlan2 P ops Q S0 S1 es st ((i, true) :: r) (putAll a us) w := by
  refine plan2_off ho ?_ hie h
  have h2 : (putAll a us).tmps.getD dj undef = undef := (congrFun (putAll_eval hN.out us) (.tmp dj)).trans ht
  have h3 : yielded ops (putAll a us).tmps j = none := by
    unfold yielded
    rw [hj]
    show (match (putAll a us).tmps[dj]? with | some (.bool b) => some b | _ => none) = none
    rw [Array.getD_eq_getD_getElem?] at h2
    cases e : (putAll a us).tmps[dj]? with
    | none => rfl
    | some v => rw [e] at h2; have h4 : v = undef := h2; rw [h4]; rfl
  show (yielded ops (putAll a us).tmps j == some b) = false
  rw [h3]
  rfl
theorem eff2_value {o : Oper} (ho : ops[i]? = some o) (hw : Region.wanted o (yielded ops (putAll a us).tmps) = true) (v : Value) (w2 : World) (hr : (execOp (look N a us) o).run P w = .ok (.value v) w2) (hS : (if (st || i == es) = true then S1 w2 else S0 w2))
    (h : wpPlan2 P ops Q S0 S1 es (st || i == es) r ((putAll a us).put o.dst v) w2) : wpPlan2 P ops Q S0 S1 es st ((i, false) :: r) (putAll a us) w := by
  refine plan2_effect ho hw (fun K hK => ?_)
  unfold Oper.wp
  rw [putAll_eval hN.out, hr]
  exact hK _ _ hS h
theorem eff2_skip {o : Oper} (ho : ops[i]? = some o) (hw : Region.wanted o (yielded ops (putAll a us).tmps) = true) (w2 : World) (hr : (execOp (look N a us) o).run P w = .ok .skip w2) (hS : (if (st || i == es) = true then S1 w2 else S0 w2))
    (h : wpPlan2 P ops Q S0 S1 es (st || i == es) r ((putAll a us).put o.dst undef) w2) : wpPlan2 P ops Q S0 S1 es st ((i, false) :: r) (putAll a us) w := by
  refine plan2_effect ho hw (fun K hK => ?_)
  unfold Oper.wp
  rw [putAll_eval hN.out, hr]
  exact hK _ _ hS h
theorem eff2_enter {o : Oper} (ho : ops[i]? = some o) (hw : Region.wanted o (yielded ops (putAll a us).tmps) = true) (f : FuncId) (args : Array Value) (hr : (execOp (look N a us) o).run P w = .ok (.enter f args) w)
    (h : Calls P f args w fun e w2 => ∃ v, e = .returned v ∧ (if (st || i == es) = true then S1 w2 else S0 w2) ∧ wpPlan2 P ops Q S0 S1 es (st || i == es) r ((putAll a us).put o.dst v) w2) : wpPlan2 P ops Q S0 S1 es st ((i, false) :: r) (putAll a us) w := by
  refine plan2_effect ho hw (fun K hK => ?_)
  unfold Oper.wp
  rw [putAll_eval hN.out, hr]
  rw [Oper.upon_enter]
  refine h.mono ?_
  rintro e w2 ⟨v, rfl, hS, h⟩
  exact hK _ _ hS h
/-- An operation that is carried out and yields a value in a new world. -/
theorem env2_run (ho : ops[i]? = some ⟨some d, op, ty, pos, af, none⟩) (v : Value) (w2 : World) (hr : (execOp (look N a us) ⟨some d, op, ty, pos, af, none⟩).run P w = .ok (.value v) w2) (hS : (if (st || i == es) = true then S1 w2 else S0 w2))
    (h : wpPlan2 P ops Q S0 S1 es (st || i == es) r (putAll a ((d, v) :: us)) w2) : wpPlan2 P ops Q S0 S1 es st ((i, false) :: r) (putAll a us) w := eff2_value hN ho rfl v w2 hr hS h
theorem env2_run_on (ho : ops[i]? = some ⟨some d, op, ty, pos, af, some (j, b)⟩) (hj : ops[j]? = some ⟨some dj, opj, tyj, posj, afj, gj⟩) (ht : lookT N a us dj = .bool b) (v : Value) (w2 : World)
    (hr : (execOp (look N a us) ⟨some d, op, ty, pos, af, some (j, b)⟩).run P w = .ok (.value v) w2) (hS : (if (st || i == es) = true then S1 w2 else S0 w2))
    (h : wpPlan2 P ops Q S0 S1 es (st || i == es) r (putAll a ((d, v) :: us)) w2) : wpPlan2 P ops Q S0 S1 es st ((i, false) :: r) (putAll a us) w := eff2_value hN ho (by rw [env_wanted hN hj ht]; simp) v w2 hr hS h
/-- A store. -/
theorem env2_store (ho : ops[i]? = some ⟨none, op, ty, pos, af, none⟩) (w2 : World) (hr : (execOp (look N a us) ⟨none, op, ty, pos, af, none⟩).run P w = .ok .skip w2) (hS : (if (st || i == es) = true then S1 w2 else S0 w2))
    (h : wpPlan2 P ops Q S0 S1 es (st || i == es) r (putAll a us) w2) : wpPlan2 P ops Q S0 S1 es st ((i, false) :: r) (putAll a us) w := eff2_skip hN ho rfl w2 hr hS h
/-- A call. -/
theorem env2_call (ho : ops[i]? = some ⟨some d, op, ty, pos, af, none⟩) (f : FuncId) (args : Array Value) (hr : (execOp (look N a us) ⟨some d, op, ty, pos, af, none⟩).run P w = .ok (.enter f args) w)
    (h : Calls P f args w fun e w2 => ∃ v, e = .returned v ∧ (if (st || i == es) = true then S1 w2 else S0 w2) ∧ wpPlan2 P ops Q S0 S1 es (st || i == es) r (putAll a ((d, v) :: us)) w2) : wpPlan2 P ops Q S0 S1 es st ((i, false) :: r) (putAll a us) w := eff2_enter hN ho rfl f args hr h
theorem env2_call_on (ho : ops[i]? = some ⟨some d, op, ty, pos, af, some (j, b)⟩) (hj : ops[j]? = some ⟨some dj, opj, tyj, posj, afj, gj⟩) (ht : lookT N a us dj = .bool b) (f : FuncId) (args : Array Value)
    (hr : (execOp (look N a us) ⟨some d, op, ty, pos, af, some (j, b)⟩).run P w = .ok (.enter f args) w)
    (h : Calls P f args w fun e w2 => ∃ v, e = .returned v ∧ (if (st || i == es) = true then S1 w2 else S0 w2) ∧ wpPlan2 P ops Q S0 S1 es (st || i == es) r (putAll a ((d, v) :: us)) w2) : wpPlan2 P ops Q S0 S1 es st ((i, false) :: r) (putAll a us) w := eff2_enter hN ho (by rw [env_wanted hN hj ht]; simp) f args hr h
theorem env2_call0 (ho : ops[i]? = some ⟨none, op, ty, pos, af, none⟩) (f : FuncId) (args : Array Value) (hr : (execOp (look N a us) ⟨none, op, ty, pos, af, none⟩).run P w = .ok (.enter f args) w)
    (h : Calls P f args w fun e w2 => ∃ v, e = .returned v ∧ (if (st || i == es) = true then S1 w2 else S0 w2) ∧ wpPlan2 P ops Q S0 S1 es (st || i == es) r (putAll a us) w2) : wpPlan2 P ops Q S0 S1 es st ((i, false) :: r) (putAll a us) w := eff2_enter hN ho rfl f args hr h
end
theorem env2_end {S0 S1 : World → Prop} {es : Nat} {st : Bool} {a : Act} {us : List (Nat × Value)} {w : World} (h : Q .normal (putAll a us) w) : wpPlan2 P ops Q S0 S1 es st [] (putAll a us) w := h
theorem exec_app {P : Program} {N : Nat} {a : Act} {us : List (Nat × Value)} {d : Nat} {ty t : TypeId} {pos : String} {af} {w w' : World} {v v2 r : Value} (s x : Operand) (hs : look N a us s = v) (hx : look N a us x = v2) (hr : (Builtin.append_ #[t, t] ty #[v, v2]).run P w = .ok r w') :
    (execOp (look N a us) ⟨some d, .call { callee := .builtin .append, args := #[s, x], argTypes := #[t, t] }, ty, pos, af, none⟩).run P w = .ok (.value r) w' := by
  unfold execOp
  simp only [resolve, invoke, builtin, Sem.run_bind, Sem.run_pure, Result.andThen_ok, List.map_toArray, List.map_cons, List.map_nil, hs, hx, hr]
end Go.Proofs.Ytdldgchkinflmaa.Plan
end
section
set_option linter.unusedVariables false
namespace Go.Proofs.Ytdldgchkinflmaa.Plan
open Go Go.RowKit Go.Proofs.Ytdldgchkinflmaa.Lib
variable {P : Program} {ops : Array Oper} {Q : Exit → Act → World → Prop}

theorem region_join {id : Nat} {A : Act} {w : World} {l : List Oper} {Q' : Exit → Act → World → Prop} (p : PT) (S : World → Prop) (N : Nat) (hN : A.tmps.size = N) (hm : P.follows .mixedOrders = true) (hB : treeAll l.toArray p = true) (hS : S w.drew)
    (R : List (Nat × Value) → World → Prop)
    (h : ∀ (ops : Array Oper) (fr : Act), Aside (fr = A) → Aside (fr.tmps.size = N) → (∀ j, ops[0 + j]? = l[j]?) → wpT P ops (fun ex act w' => ex = .normal ∧ ∃ us, act = putAll fr us ∧ R us w') p S (putAll fr []) w.drew)
    (cut : ∀ us w', R us w' → Q' .normal (putAll A us) w') : (Code.region id l.toArray true).wp P Q' A w := by
  refine wp_mono (region_tree (Q := fun ex act w' => ex = .normal ∧ ∃ us, act = putAll A us ∧ R us w') p S hm hB (fun _ _ _ _ _ hh => absurd hh.1 (by simp)) hS (h l.toArray A ⟨rfl⟩ ⟨hN⟩ (fun j => by simp))) (fun ex act w' hh => ?_)
  obtain ⟨rfl, us, rfl, hr⟩ := hh
  exact cut us w' hr
section
variable {N : Nat} {a : Act} (hN : Aside (a.tmps.size = N)) {i : Nat} {r : PT} {S : World → Prop} {us : List (Nat × Value)} {w : World} {d : Nat} {op : Op} {ty : TypeId} {pos : String} {af : Array Edge}
include hN
theorem tenv_yes (ho : ops[i]? = some ⟨some d, op, ty, pos, af, none⟩) (v : Value) (hy : ∀ w', S w' → (execOp (look N a us) ⟨some d, op, ty, pos, af, none⟩).run P w' = .ok (.value v) w')
    (h : wpT P ops Q r S (putAll a ((d, v) :: us)) w) : wpT P ops Q (.yes i r) S (putAll a us) w :=
  tree_yields v ho rfl (by rw [putAll_eval hN.out]; exact hy) h
theorem top_run (ho : ops[i]? = some ⟨some d, op, ty, pos, af, none⟩) (v : Value) (w2 : World) (hr : (execOp (look N a us) ⟨some d, op, ty, pos, af, none⟩).run P w = .ok (.value v) w2) (hS : S w2)
    (h : wpT P ops Q r S (putAll a ((d, v) :: us)) w2) : wpOp P ops Q i (fun a' w' => ∃ S2 : World → Prop, (∀ w, S2 w → S w) ∧ S2 w' ∧ wpT P ops Q r S2 a' w') (putAll a us) w := by
  refine tree_op ho rfl (fun K hK => ?_)
  unfold Oper.wp
  rw [putAll_eval hN.out, hr]
  exact hK S _ _ (fun _ h => h) hS h
theorem top_store (ho : ops[i]? = some ⟨none, op, ty, pos, af, none⟩) (w2 : World) (hr : (execOp (look N a us) ⟨none, op, ty, pos, af, none⟩).run P w = .ok .skip w2) (hS : S w2)
    (h : wpT P ops Q r S (putAll a us) w2) : wpOp P ops Q i (fun a' w' => ∃ S2 : World → Prop, (∀ w, S2 w → S w) ∧ S2 w' ∧ wpT P ops Q r S2 a' w') (putAll a us) w := by
  refine tree_op ho rfl (fun K hK => ?_)
  unfold Oper.wp
  rw [putAll_eval hN.out, hr]
  exact hK S _ _ (fun _ h => h) hS h
theorem top_call (ho : ops[i]? = some ⟨some d, op, ty, pos, af, none⟩) (f : FuncId) (args : Array Value) (hr : (execOp (look N a us) ⟨some d, op, ty, pos, af, none⟩).run P w = .ok (.enter f args) w)
    (h : Calls P f args w fun e w2 => ∃ v, e = .returned v ∧ S w2 ∧ wpT P ops Q r S (putAll a ((d, v) :: us)) w2) : wpOp P ops Q i (fun a' w' => ∃ S2 : World → Prop, (∀ w, S2 w → S w) ∧ S2 w' ∧ wpT P ops Q r S2 a' w') (putAll a us) w := by
  refine tree_op ho rfl (fun K hK => ?_)
  unfold Oper.wp
  rw [putAll_eval hN.out, hr]
  rw [Oper.upon_enter]
  refine h.mono ?_
  rintro e w2 ⟨v, rfl, hS, h⟩
  exact hK S _ _ (fun _ h => h) hS h
end
end Go.Proofs.Ytdldgchkinflmaa.Plan
end
