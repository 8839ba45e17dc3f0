/- A region that draws its order, walked by a tree of plans: where two operations come up together both ways are walked; what is known of the world may grow behind an operation that is carried out. Conditions: those of each theorem. -/
import Derived.Test.YtlopbheahedofaaDoorPlan
set_option linter.unusedVariables false
namespace Go.Proofs.YtlopbheahedofaaDoor.Plan
open Go Go.RowKit Go.Proofs.YtlopbheahedofaaDoor.Lib
variable {P : Program} {ops : Array Oper} {Q : Exit → Act → World → Prop}

inductive PT where
  | nil
  | yes (i : Nat) (r : PT)
  | eff (i : Nat) (r : PT)
  | fork (i j : Nat) (ri rj : PT)
def PT.len : PT → Nat
  | .nil => 0
  | .yes _ r => r.len + 1
  | .eff _ r => r.len + 1
  | .fork _ _ ri _ => ri.len + 1
def ptE (ops : Array Oper) : PT → Array Bool → Bool
  | .nil, listed => (Region.ready .any ops listed).isEmpty
  | .yes i r, listed => (Region.ready .any ops listed).contains i && Region.free .any ops listed i && ptE ops r (listed.setIfInBounds i true)
  | .eff i r, listed => decide (Region.ready .any ops listed = [i]) && ptE ops r (listed.setIfInBounds i true)
  | .fork i j ri rj, listed => decide (Region.ready .any ops listed = [i, j]) && decide (ri.len = rj.len) && ptE ops ri (listed.setIfInBounds i true) && ptE ops rj (listed.setIfInBounds j true)
def wpT (P : Program) (ops : Array Oper) (Q : Exit → Act → World → Prop) : PT → (World → Prop) → Act → World → Prop
  | .nil, _, a, w => Q .normal a w
  | .yes i r, S, a, w => ∃ v, (∀ o, ops[i]? = some o → YieldsIf P ops S o v a) ∧ wpT P ops Q r S (match ops[i]? with | some o => a.put o.dst v | none => a) w
  | .eff i r, S, a, w => wpOp P ops Q i (fun a' w' => ∃ S2 : World → Prop, (∀ w, S2 w → S w) ∧ S2 w' ∧ wpT P ops Q r S2 a' w') a w
  | .fork i j ri rj, S, a, w => wpOp P ops Q i (fun a' w' => ∃ S2 : World → Prop, (∀ w, S2 w → S w) ∧ S2 w' ∧ wpT P ops Q ri S2 a' w') a w ∧
      wpOp P ops Q j (fun a' w' => ∃ S2 : World → Prop, (∀ w, S2 w → S w) ∧ S2 w' ∧ wpT P ops Q rj S2 a' w') a w
theorem headAny_mono {S S2 : World → Prop} (hS : ∀ w, S2 w → S w) {n : Nat} {L : Array Bool → Act → World → Prop} :
    ∀ (f : Nat) (listed : Array Bool) (a : Act) (w : World), headAny P ops Q S2 n L f listed a w → headAny P ops Q S n L f listed a w
  | 0, _, _, _, h => h
  | f + 1, listed, a, w, h => ⟨h.1, fun i hi => ⟨(h.2 i hi).1, wpOp_mono (fun a' w' h' => ⟨hS _ h'.1, headAny_mono hS f _ a' w' h'.2⟩) (h.2 i hi).2⟩⟩
theorem head_of_T (hsel : Region.noSelect ops = true) (hQ : ∀ c a d v w, Q (.panic c) (Act.put a d v) w → Q (.panic c) a w) :
    ∀ (p : PT) (S : World → Prop) (listed : Array Bool) (a : Act) (w : World), ptE ops p listed = true → HeadInv .any ops ops.size listed → S w → wpT P ops Q p S a w →
      headAny P ops Q S ops.size (fun listed' a' w' => Region.ready .any ops listed' = [] ∧ Q .normal a' w') p.len listed a w
  | .nil, S, listed, a, w, hB, _, _, h => ⟨by simpa [ptE] using hB, h⟩
  | .yes i r, S, listed, a, w, hB, inv, hS, h => by
    simp only [ptE, Bool.and_eq_true] at hB
    obtain ⟨⟨hr, hf⟩, hB'⟩ := hB
    obtain ⟨v, hy, h⟩ := h
    have hr' : i ∈ Region.ready .any ops listed := by simpa using hr
    obtain ⟨_, oi, hoi, _⟩ := mem_ready.1 hr'
    rw [hoi] at h
    exact head_first hoi (Region.noSelect_spec hsel) (fun _ _ _ _ _ t ht hm => absurd (ready_lt hm) (by omega)) (ready_lt hr') (fun listed' a' w' hL j hj => (by rw [hL.1] at hj; cases hj)) (fun c a w => hQ c a _ _ w) r.len listed a w inv (Region.free_spec hoi hf) hr' (hy oi hoi) hS
      (head_of_T hsel hQ r S _ _ w hB' (inv.set hr' (ready_lt hr')) hS h)
  | .eff i r, S, listed, a, w, hB, inv, hS, h => by
    simp only [ptE, Bool.and_eq_true, decide_eq_true_eq] at hB
    obtain ⟨hr, hB'⟩ := hB
    refine ⟨fun h0 => (by rw [hr] at h0; cases h0), fun j hj => ?_⟩
    have hj' := hj
    rw [hr] at hj
    have : j = i := by simpa using hj
    subst this
    refine ⟨ready_lt hj', wpOp_mono (fun a' w' h' => ?_) h⟩
    obtain ⟨S2, h1, h2, h3⟩ := h'
    exact ⟨h1 _ h2, headAny_mono h1 _ _ _ _ (head_of_T hsel hQ r S2 _ a' w' hB' (inv.set hj' (ready_lt hj')) h2 h3)⟩
  | .fork i j ri rj, S, listed, a, w, hB, inv, hS, h => by
    simp only [ptE, Bool.and_eq_true, decide_eq_true_eq] at hB
    obtain ⟨⟨⟨hr, hl⟩, hB1⟩, hB2⟩ := hB
    refine ⟨fun h0 => (by rw [hr] at h0; cases h0), fun t ht => ?_⟩
    have ht' := ht
    rw [hr] at ht
    have : t = i ∨ t = j := by simpa using ht
    refine ⟨ready_lt ht', ?_⟩
    rcases this with rfl | rfl
    · refine wpOp_mono (fun a' w' h' => ?_) h.1
      obtain ⟨S2, h1, h2, h3⟩ := h'
      exact ⟨h1 _ h2, headAny_mono h1 _ _ _ _ (head_of_T hsel hQ ri S2 _ a' w' hB1 (inv.set ht' (ready_lt ht')) h2 h3)⟩
    · refine wpOp_mono (fun a' w' h' => ?_) h.2
      obtain ⟨S2, h1, h2, h3⟩ := h'
      refine ⟨h1 _ h2, ?_⟩
      rw [show PT.len ri = PT.len rj from hl]
      exact headAny_mono h1 _ _ _ _ (head_of_T hsel hQ rj S2 _ a' w' hB2 (inv.set ht' (ready_lt ht')) h2 h3)
def treeAll (ops : Array Oper) (p : PT) : Bool := Region.noSelect ops && decide (p.len = ops.size) && ptE ops p (Array.replicate ops.size false)
theorem region_tree {id : Nat} {a : Act} {w : World} {l : List Oper} (p : PT) (S : World → Prop) (hm : P.follows .mixedOrders = true) (hB : treeAll l.toArray p = true)
    (hQ : ∀ c a d v w, Q (.panic c) (Act.put a d v) w → Q (.panic c) a w) (hS : S w.drew) (h : wpT P l.toArray Q p S a w.drew) : (Code.region id l.toArray true).wp P Q a w := by
  simp only [treeAll, Bool.and_eq_true, decide_eq_true_eq] at hB
  obtain ⟨⟨hsel, hp⟩, hB⟩ := hB
  have inv0 : HeadInv .any l.toArray l.toArray.size (Array.replicate l.toArray.size false) :=
    ⟨by simp, fun j oj _ hl => (by rw [getD_replicate_false] at hl; cases hl), fun t h1 h2 => absurd h2 (by omega)⟩
  have H := head_of_T hsel hQ p S _ a w.drew hB inv0 hS h
  refine wp_region_any hm ?_
  have := any_of_head (Q := Q) (g := 0) (fun listed a' w' hL => (⟨hL.1, hL.2⟩ : wpAny P .any l.toArray Q 0 listed a' w')) _ _ _ _ H
  rw [hp, Nat.add_zero] at this
  exact this

/-! ### its steps -/
theorem tree_yields {S : World → Prop} {i : Nat} {r : PT} {a : Act} {w : World} {o : Oper} (v : Value) (ho : ops[i]? = some o) (hw : Region.wanted o (yielded ops a.tmps) = true) (hy : ∀ w', S w' → (execOp a.eval o).run P w' = .ok (.value v) w')
    (h : wpT P ops Q r S (a.put o.dst v) w) : wpT P ops Q (.yes i r) S a w := by
  refine ⟨v, fun o' ho' => ?_, ?_⟩
  · rw [ho] at ho'
    injection ho' with e
    subst e
    exact .inl ⟨hw, hy⟩
  · rw [ho]
    exact h
theorem tree_off {S : World → Prop} {i : Nat} {r : PT} {a : Act} {w : World} {o : Oper} (ho : ops[i]? = some o) (hw : Region.wanted o (yielded ops a.tmps) = false)
    (h : wpT P ops Q r S (a.put o.dst undef) w) : wpT P ops Q (.yes i r) S a w := by
  refine ⟨undef, fun o' ho' => ?_, ?_⟩
  · rw [ho] at ho'
    injection ho' with e
    subst e
    exact .inr ⟨hw, rfl⟩
  · rw [ho]
    exact h
theorem tree_end {S : World → Prop} {a : Act} {w : World} (h : Q .normal a w) : wpT P ops Q .nil S a w := h
theorem tree_op {S : World → Prop} {i : Nat} {r : PT} {a : Act} {w : World} {o : Oper} (ho : ops[i]? = some o) (hw : Region.wanted o (yielded ops a.tmps) = true)
    (h : ∀ K : Act → World → Prop, (∀ (S2 : World → Prop) a' w', (∀ w, S2 w → S w) → S2 w' → wpT P ops Q r S2 a' w' → K a' w') → o.wp P a w K Q) :
    wpOp P ops Q i (fun a' w' => ∃ S2 : World → Prop, (∀ w, S2 w → S w) ∧ S2 w' ∧ wpT P ops Q r S2 a' w') a w := by
  have := h (fun a' w' => ∃ S2 : World → Prop, (∀ w, S2 w → S w) ∧ S2 w' ∧ wpT P ops Q r S2 a' w') (fun S2 a' w' h1 h2 h3 => ⟨S2, h1, h2, h3⟩)
  unfold wpOp
  rw [ho]
  simp only [hw, if_true]
  exact .inl this
theorem tree_effect {S : World → Prop} {i : Nat} {r : PT} {a : Act} {w : World} {o : Oper} (ho : ops[i]? = some o) (hw : Region.wanted o (yielded ops a.tmps) = true)
    (h : ∀ K : Act → World → Prop, (∀ (S2 : World → Prop) a' w', (∀ w, S2 w → S w) → S2 w' → wpT P ops Q r S2 a' w' → K a' w') → o.wp P a w K Q) : wpT P ops Q (.eff i r) S a w := tree_op ho hw h
end Go.Proofs.YtlopbheahedofaaDoor.Plan
