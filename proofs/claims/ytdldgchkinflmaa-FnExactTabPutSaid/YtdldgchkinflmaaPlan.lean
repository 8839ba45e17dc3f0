/- A region that draws its order, walked by a plan: operations that yield the same in every world of S are taken first, the others come up alone, and a tail that is forced goes the ordinary way. Conditions: those of each theorem. -/
import Derived.OrdersHeld
import Derived.StillTail
import Derived.WalkKit
import Derived.Test.YtdldgchkinflmaaLib
set_option linter.unusedVariables false
namespace Go.Proofs.Ytdldgchkinflmaa.Plan
open Go Go.RowKit Go.Proofs.Ytdldgchkinflmaa.Lib
variable {P : Program} {ops : Array Oper} {Q : Exit → Act → World → Prop} {S : World → Prop}

/-- The head phase: S holds behind each operation; at its end L. -/
def headAny (P : Program) (ops : Array Oper) (Q : Exit → Act → World → Prop) (S : World → Prop) (n : Nat) (L : Array Bool → Act → World → Prop) : Nat → Array Bool → Act → World → Prop
  | 0, listed, a, w => L listed a w
  | f + 1, listed, a, w => Region.ready .any ops listed ≠ [] ∧ ∀ i ∈ Region.ready .any ops listed, i < n ∧ wpOp P ops Q i (fun a' w' => S w' ∧ headAny P ops Q S n L f (listed.setIfInBounds i true) a' w') a w

theorem any_of_head {n g : Nat} {L : Array Bool → Act → World → Prop} (hL : ∀ listed a w, L listed a w → wpAny P .any ops Q g listed a w) :
    ∀ (f : Nat) (listed : Array Bool) (a : Act) (w : World), headAny P ops Q S n L f listed a w → wpAny P .any ops Q (f + g) listed a w
  | 0, listed, a, w, h => by rw [Nat.zero_add]; exact hL _ _ _ h
  | f + 1, listed, a, w, h => by
    rw [show f + 1 + g = (f + g) + 1 by omega]
    exact ⟨fun h0 => absurd h0 h.1, fun i hi => wpOp_mono (fun a' w' h' => any_of_head hL f _ a' w' h'.2) (h.2 i hi).2⟩

theorem head_first {n i : Nat} {oi : Oper} {v : Value} {L : Array Bool → Act → World → Prop} (hi : ops[i]? = some oi) (hsel : ∀ (j : Nat) (o : Oper) cs b, ops[j]? = some o → o.op ≠ .select cs b)
    (hw : ∀ listed, HeadInv .any ops n listed → ∀ i, i < n → listed.getD i true = false → ∀ t, n ≤ t → t ∉ Region.ready .any ops listed) (hin : i < n)
    (hdone : ∀ listed a w, L listed a w → ∀ j ∈ Region.ready .any ops listed, n ≤ j) (hQ : ∀ c a w, Q (.panic c) (a.put oi.dst v) w → Q (.panic c) a w) :
    ∀ (f : Nat) (listed : Array Bool) (a : Act) (w : World), HeadInv .any ops n listed →
      (∀ j oj, ops[j]? = some oj → j ≠ i → listed.getD j true = false → (∀ e ∈ oj.after, Region.binds .any e = true → e.on ≠ i) → oi.apart ops oj = true) →
      i ∈ Region.ready .any ops listed → YieldsIf P ops S oi v a → S w →
      headAny P ops Q S n L f (listed.setIfInBounds i true) (a.put oi.dst v) w → headAny P ops Q S n L (f + 1) listed a w := by
  intro f
  induction f with
  | zero =>
    intro listed a w inv _ hr hy hS H
    have hun := (mem_ready.1 hr).1
    refine ⟨fun h => (by rw [h] at hr; cases hr), fun j hj => ?_⟩
    have hjn : j < n := by
      rcases Nat.lt_or_ge j n with h | h
      · exact h
      · exact absurd hj (hw _ inv i hin hun j h)
    refine ⟨hjn, ?_⟩
    by_cases hji : j = i
    · subst hji; exact hy.wpOp hi hS ⟨hS, H⟩
    · have := hdone _ _ _ H j (ready_mono hj hji)
      omega
  | succ f ih =>
    intro listed a w inv hfree hr hy hS H
    have hun := (mem_ready.1 hr).1
    refine ⟨fun h => (by rw [h] at hr; cases hr), fun j hj => ?_⟩
    have hjn : j < n := by
      rcases Nat.lt_or_ge j n with h | h
      · exact h
      · exact absurd hj (hw _ inv i hin hun j h)
    refine ⟨hjn, ?_⟩
    by_cases hji : j = i
    · subst hji; exact hy.wpOp hi hS ⟨hS, H⟩
    · have h1 := (H.2 j (ready_mono hj hji)).2
      obtain ⟨hjun, oj, hoj, hall⟩ := mem_ready.1 hj
      have hnot : ∀ e ∈ oj.after, Region.binds .any e = true → e.on ≠ i := fun e he hb heq => by
        have h1 := hall e he hb
        rw [heq, getD_both hun] at h1
        cases h1
      have h2 := wpOp_putIf hoj (hfree j oj hoj hji hjun hnot) (fun cs b => hsel i oi cs b hi) (fun cs b => hsel j oj cs b hoj) hQ hy h1
      have hfree' : ∀ k ok, ops[k]? = some ok → k ≠ i → (listed.setIfInBounds j true).getD k true = false →
          (∀ e ∈ ok.after, Region.binds .any e = true → e.on ≠ i) → oi.apart ops ok = true := fun k ok hk hki hun hno => by
        refine hfree k ok hk hki ?_ hno
        by_cases hjk : j = k
        · subst hjk; exact hjun
        · rw [getD_set_ne true hjk] at hun; exact hun
      refine wpOp_mono (fun a' w' h3 => ⟨h3.2.1, ih (listed.setIfInBounds j true) a' w' (inv.set hj hjn) hfree' (ready_mono hr (Ne.symm hji)) h3.1 h3.2.1 ?_⟩) h2
      rw [Array.setIfInBounds_comm _ _ hji]
      exact h3.2.2

/-- The plan: (i, true) is taken first, (i, false) comes up alone; then the tail. -/
def planB (ops : Array Oper) (k : Nat) : List (Nat × Bool) → Array Bool → Bool
  | [], listed => Region.seqB .any ops (ops.size - k) k listed
  | (i, true) :: r, listed => decide (i < k) && (Region.ready .any ops listed).contains i && Region.free .any ops listed i && planB ops k r (listed.setIfInBounds i true)
  | (i, false) :: r, listed => decide (i < k) && decide (Region.ready .any ops listed = [i]) && planB ops k r (listed.setIfInBounds i true)
def planOK (ops : Array Oper) (k : Nat) (p : List (Nat × Bool)) : Bool :=
  Region.noSelect ops && decide (k < ops.size) && decide (p.length = k) && Region.sinkB .any ops k && Region.chainB .any ops k && planB ops k p (Array.replicate ops.size false)

/-- The walk by the plan. -/
def wpPlan (P : Program) (ops : Array Oper) (Q : Exit → Act → World → Prop) (S : World → Prop) (tail : List Oper) : List (Nat × Bool) → Act → World → Prop
  | [], a, w => wpList P ops Q tail a w
  | (i, true) :: r, a, w => ∃ v, (∀ o, ops[i]? = some o → YieldsIf P ops S o v a) ∧ wpPlan P ops Q S tail r (match ops[i]? with | some o => a.put o.dst v | none => a) w
  | (i, false) :: r, a, w => wpOp P ops Q i (fun a' w' => S w' ∧ wpPlan P ops Q S tail r a' w') a w

theorem head_of_plan {k : Nat} {l : List Oper} (hl : l.toArray = ops) (hsel : Region.noSelect ops = true) (hs : Region.sinkB .any ops k = true) (hc : Region.chainB .any ops k = true) (hk : k < ops.size)
    (hQ : ∀ c a d v w, Q (.panic c) (Act.put a d v) w → Q (.panic c) a w) :
    ∀ (p : List (Nat × Bool)) (listed : Array Bool) (a : Act) (w : World), planB ops k p listed = true → HeadInv .any ops k listed → S w → wpPlan P ops Q S (l.drop k) p a w →
      headAny P ops Q S k (fun listed' a' w' => Region.seqB .any ops (ops.size - k) k listed' = true ∧ wpList P ops Q (l.drop k) a' w') p.length listed a w
  | [], listed, a, w, hB, _, _, h => ⟨hB, h⟩
  | (i, true) :: r, listed, a, w, hB, inv, hS, h => by
    simp only [planB, Bool.and_eq_true, decide_eq_true_eq] at hB
    obtain ⟨⟨⟨hik, hr⟩, hf⟩, hB'⟩ := hB
    obtain ⟨v, hy, h⟩ := h
    have hr' : i ∈ Region.ready .any ops listed := by simpa using hr
    obtain ⟨_, oi, hoi, _⟩ := mem_ready.1 hr'
    rw [hoi] at h
    exact head_first hoi (Region.noSelect_spec hsel) (fun _ inv i hi hun t ht => tail_waits hs hc hk inv _ i rfl hi hun t ht) hik (fun listed' a' w' hL => seqB_ready hL.1) (fun c a w => hQ c a _ _ w) r.length listed a w inv (Region.free_spec hoi hf) hr' (hy oi hoi) hS
      (head_of_plan hl hsel hs hc hk hQ r _ _ w hB' (inv.set hr' hik) hS h)
  | (i, false) :: r, listed, a, w, hB, inv, hS, h => by
    simp only [planB, Bool.and_eq_true, decide_eq_true_eq] at hB
    obtain ⟨⟨hik, hr⟩, hB'⟩ := hB
    refine ⟨fun h0 => (by rw [hr] at h0; cases h0), fun j hj => ?_⟩
    have hj' := hj
    rw [hr] at hj
    have : j = i := by simpa using hj
    subst this
    exact ⟨hik, wpOp_mono (fun a' w' h' => ⟨h'.1, head_of_plan hl hsel hs hc hk hQ r _ a' w' hB' (inv.set hj' hik) h'.1 h'.2⟩) h⟩

theorem region_plan {id : Nat} {a : Act} {w : World} {l : List Oper} (k : Nat) (p : List (Nat × Bool)) (S : World → Prop) (hm : P.follows .mixedOrders = true) (hB : planOK l.toArray k p = true)
    (hQ : ∀ c a d v w, Q (.panic c) (Act.put a d v) w → Q (.panic c) a w) (hS : S w.drew) (h : wpPlan P l.toArray Q S (l.drop k) p a w.drew) : (Code.region id l.toArray true).wp P Q a w := by
  simp only [planOK, Bool.and_eq_true, decide_eq_true_eq] at hB
  obtain ⟨⟨⟨⟨⟨hsel, hk⟩, hp⟩, hs⟩, hc⟩, hB⟩ := hB
  have inv0 : HeadInv .any l.toArray k (Array.replicate l.toArray.size false) :=
    ⟨by simp, fun j oj _ hl => (by rw [getD_replicate_false] at hl; cases hl), fun t _ ht => getD_in (by simpa using ht) (getD_replicate_false _ _)⟩
  have H := head_of_plan (l := l) rfl hsel hs hc hk hQ p _ a w.drew hB inv0 hS h
  refine wp_region_any hm ?_
  have hdl : (l.drop k).length = l.toArray.size - k := by simp
  have := any_of_head (Q := Q) (g := l.toArray.size - k) (fun listed a' w' hL => by
    have := wpAny_of_seq (md := .any) (Q' := Q) (l.drop k) k listed a' w' (fun j => by simp [List.getElem?_drop]) (by rw [hdl]; exact hL.1) hL.2
    rwa [hdl] at this) _ _ _ _ H
  rw [hp, show k + (l.toArray.size - k) = l.toArray.size by omega] at this
  exact this

/-! ### a plan that holds the whole region -/
def planE (ops : Array Oper) : List (Nat × Bool) → Array Bool → Bool
  | [], listed => (Region.ready .any ops listed).isEmpty
  | (i, true) :: r, listed => (Region.ready .any ops listed).contains i && Region.free .any ops listed i && planE ops r (listed.setIfInBounds i true)
  | (i, false) :: r, listed => decide (Region.ready .any ops listed = [i]) && planE ops r (listed.setIfInBounds i true)
def planAll (ops : Array Oper) (p : List (Nat × Bool)) : Bool := Region.noSelect ops && decide (p.length = ops.size) && planE ops p (Array.replicate ops.size false)
theorem ready_lt {listed : Array Bool} {j : Nat} (h : j ∈ Region.ready .any ops listed) : j < ops.size := by
  obtain ⟨_, o, ho, _⟩ := mem_ready.1 h
  exact (Array.getElem?_eq_some_iff.1 ho).1
theorem head_of_planE (hsel : Region.noSelect ops = true) (hQ : ∀ c a d v w, Q (.panic c) (Act.put a d v) w → Q (.panic c) a w) :
    ∀ (p : List (Nat × Bool)) (listed : Array Bool) (a : Act) (w : World), planE ops p listed = true → HeadInv .any ops ops.size listed → S w → wpPlan P ops Q S [] p a w →
      headAny P ops Q S ops.size (fun listed' a' w' => Region.ready .any ops listed' = [] ∧ Q .normal a' w') p.length listed a w
  | [], listed, a, w, hB, _, _, h => ⟨by simpa [planE] using hB, h⟩
  | (i, true) :: r, listed, a, w, hB, inv, hS, h => by
    simp only [planE, Bool.and_eq_true] at hB
    obtain ⟨⟨hr, hf⟩, hB'⟩ := hB
    obtain ⟨v, hy, h⟩ := h
    have hr' : i ∈ Region.ready .any ops listed := by simpa using hr
    obtain ⟨_, oi, hoi, _⟩ := mem_ready.1 hr'
    rw [hoi] at h
    exact head_first hoi (Region.noSelect_spec hsel) (fun _ _ _ _ _ t ht hm => absurd (ready_lt hm) (by omega)) (ready_lt hr') (fun listed' a' w' hL j hj => (by rw [hL.1] at hj; cases hj)) (fun c a w => hQ c a _ _ w) r.length listed a w inv (Region.free_spec hoi hf) hr' (hy oi hoi) hS
      (head_of_planE hsel hQ r _ _ w hB' (inv.set hr' (ready_lt hr')) hS h)
  | (i, false) :: r, listed, a, w, hB, inv, hS, h => by
    simp only [planE, Bool.and_eq_true, decide_eq_true_eq] at hB
    obtain ⟨hr, hB'⟩ := hB
    refine ⟨fun h0 => (by rw [hr] at h0; cases h0), fun j hj => ?_⟩
    have hj' := hj
    rw [hr] at hj
    have : j = i := by simpa using hj
    subst this
    exact ⟨ready_lt hj', wpOp_mono (fun a' w' h' => ⟨h'.1, head_of_planE hsel hQ r _ a' w' hB' (inv.set hj' (ready_lt hj')) h'.1 h'.2⟩) h⟩
theorem region_all {id : Nat} {a : Act} {w : World} {l : List Oper} (p : List (Nat × Bool)) (S : World → Prop) (hm : P.follows .mixedOrders = true) (hB : planAll l.toArray p = true)
    (hQ : ∀ c a d v w, Q (.panic c) (Act.put a d v) w → Q (.panic c) a w) (hS : S w.drew) (h : wpPlan P l.toArray Q S [] p a w.drew) : (Code.region id l.toArray true).wp P Q a w := by
  simp only [planAll, Bool.and_eq_true, decide_eq_true_eq] at hB
  obtain ⟨⟨hsel, hp⟩, hB⟩ := hB
  have inv0 : HeadInv .any l.toArray l.toArray.size (Array.replicate l.toArray.size false) :=
    ⟨by simp, fun j oj _ hl => (by rw [getD_replicate_false] at hl; cases hl), fun t h1 h2 => absurd h2 (by omega)⟩
  have H := head_of_planE hsel hQ p _ a w.drew hB inv0 hS h
  refine wp_region_any hm ?_
  have := any_of_head (Q := Q) (g := 0) (fun listed a' w' hL => (⟨hL.1, hL.2⟩ : wpAny P .any l.toArray Q 0 listed a' w')) _ _ _ _ H
  rw [hp, Nat.add_zero] at this
  exact this

/-! ### its steps -/
theorem plan_yields {tail : List Oper} {i : Nat} {r : List (Nat × Bool)} {a : Act} {w : World} {o : Oper} (v : Value) (ho : ops[i]? = some o) (hw : Region.wanted o (yielded ops a.tmps) = true) (hy : ∀ w', S w' → (execOp a.eval o).run P w' = .ok (.value v) w')
    (h : wpPlan P ops Q S tail r (a.put o.dst v) w) : wpPlan P ops Q S tail ((i, true) :: r) a w := by
  refine ⟨v, fun o' ho' => ?_, ?_⟩
  · rw [ho] at ho'
    injection ho' with e
    subst e
    exact .inl ⟨hw, hy⟩
  · rw [ho]
    exact h
theorem plan_off {tail : List Oper} {i : Nat} {r : List (Nat × Bool)} {a : Act} {w : World} {o : Oper} (ho : ops[i]? = some o) (hw : Region.wanted o (yielded ops a.tmps) = false)
    (h : wpPlan P ops Q S tail r (a.put o.dst undef) w) : wpPlan P ops Q S tail ((i, true) :: r) a w := by
  refine ⟨undef, fun o' ho' => ?_, ?_⟩
  · rw [ho] at ho'
    injection ho' with e
    subst e
    exact .inr ⟨hw, rfl⟩
  · rw [ho]
    exact h
theorem plan_end {a : Act} {w : World} (h : Q .normal a w) : wpPlan P ops Q S [] [] a w := h
theorem plan_effect {tail : List Oper} {i : Nat} {r : List (Nat × Bool)} {a : Act} {w : World} {o : Oper} (ho : ops[i]? = some o) (hw : Region.wanted o (yielded ops a.tmps) = true)
    (h : ∀ K : Act → World → Prop, (∀ a' w', S w' → wpPlan P ops Q S tail r a' w' → K a' w') → o.wp P a w K Q) : wpPlan P ops Q S tail ((i, false) :: r) a w := by
  have := h (fun a' w' => S w' ∧ wpPlan P ops Q S tail r a' w') (fun a' w' hS hp => ⟨hS, hp⟩)
  unfold wpPlan wpOp
  rw [ho]
  simp only [hw, if_true]
  exact .inl this

/-! ### whole structs in memory -/
theorem blk_setRow {w : World} {g : Nat} {T : TypeId} {old : List Value} (h : Blk w g T old) (cs : List Value) : Blk (w.setRow g cs.toArray) g T cs ∧ w.grownBy (w.setRow g cs.toArray) (some g) := by
  unfold Blk at h ⊢
  constructor
  · simp [World.setRow, Array.getElem?_modify, h]
  · refine ⟨rfl, rfl, rfl, by simp [World.setRow], fun k _ hne => ?_⟩
    simp only [World.setRow, Array.getElem?_modify]
    rw [if_neg (fun e => hne (by rw [e]))]
theorem store_blk {o : Oper} {a : Act} {w : World} {K : Act → World → Prop} (ty : TypeId) (x y : Operand) (ho : o.op = .store ty x y) (g : Nat) (cs : List Value) (hx : a.eval x = .pointer (some ⟨g, 0, none⟩)) (hy : a.eval y = .agg cs.toArray)
    (T : TypeId) (old : List Value) (hg : Blk w g T old) (hi : (P.info? ty).map (·.size) = some cs.length) (hold : old.length = cs.length) (h1 : cs.all (·.oneCell') = true)
    (h : ∀ w', Blk w' g T cs → w.grownBy w' (some g) → K (a.put o.dst undef) w') : o.wp P a w K Q :=
  wp_store_row ty x y ho g cs.toArray hx hy T old.toArray hg (by simpa using hi) (by simpa using hold) (by simpa using h1) (h _ (blk_setRow hg cs).1 (blk_setRow hg cs).2)
theorem wpList_store_blk {rest : List Oper} {o : Oper} {a : Act} {w : World} (hgd : o.guard = none) (ty : TypeId) (x y : Operand) (ho : o.op = .store ty x y) (g : Nat) (cs : List Value) (hx : a.eval x = .pointer (some ⟨g, 0, none⟩)) (hy : a.eval y = .agg cs.toArray)
    (T : TypeId) (old : List Value) (hg : Blk w g T old) (hi : (P.info? ty).map (·.size) = some cs.length) (hold : old.length = cs.length) (h1 : cs.all (·.oneCell') = true)
    (h : ∀ w', Blk w' g T cs → w.grownBy w' (some g) → wpList P ops Q rest (a.put o.dst undef) w') : wpList P ops Q (o :: rest) a w :=
  wpList_plain hgd fun _ hK => store_blk ty x y ho g cs hx hy T old hg hi hold h1 fun w' h1 h2 => hK _ _ (h w' h1 h2)
theorem load_blk {w : World} {g : Nat} {T : TypeId} {cs : List Value} (h : Blk w g T cs) (ty : TypeId) (d : TypeDesc) (hu : P.underlying ty = some d) (hd : (match d with | .struct _ | .array _ _ => true | _ => false) = true) (hi : (P.info? ty).map (·.size) = some cs.length) :
    (loadVar ty ⟨g, 0, none⟩).run P w = .ok (.agg cs.toArray) w := run_loadVar_row w g T ty cs.toArray (0, 0) d h hu hd (by simpa using hi)
theorem wpList_load_blk {rest : List Oper} {o : Oper} {a : Act} {w : World} (hgd : o.guard = none) (ty : TypeId) (x : Operand) (ho : o.op = .load ty x) (g : Nat) (cs : List Value) (hx : a.eval x = .pointer (some ⟨g, 0, none⟩))
    (T : TypeId) (d : TypeDesc) (hg : Blk w g T cs) (hu : P.underlying ty = some d) (hd : (match d with | .struct _ | .array _ _ => true | _ => false) = true) (hi : (P.info? ty).map (·.size) = some cs.length)
    (h : wpList P ops Q rest (a.put o.dst (.agg cs.toArray)) w) : wpList P ops Q (o :: rest) a w :=
  wpList_load_row hgd ty x ho g hx T cs.toArray (0, 0) d hg hu hd (by simpa using hi) h
/-- In a plan: a struct is loaded out of a block that S knows whole. -/
theorem plan_load_blk {tail : List Oper} {i : Nat} {r : List (Nat × Bool)} {a : Act} {w : World} {o : Oper} (ho : ops[i]? = some o) (hw : Region.wanted o (yielded ops a.tmps) = true) (ty : TypeId) (x : Operand) (hop : o.op = .load ty x) (g : Nat) (cs : List Value)
    (hx : a.eval x = .pointer (some ⟨g, 0, none⟩)) (T : TypeId) (d : TypeDesc) (hg : ∀ w', S w' → Blk w' g T cs) (hu : P.underlying ty = some d) (hd : (match d with | .struct _ | .array _ _ => true | _ => false) = true) (hi : (P.info? ty).map (·.size) = some cs.length)
    (h : wpPlan P ops Q S tail r (a.put o.dst (.agg cs.toArray)) w) : wpPlan P ops Q S tail ((i, true) :: r) a w :=
  plan_yields _ ho hw (fun w' hS => by
    unfold execOp
    simp only [hop, hx, Instr.loadAt, Instr.sureAddr, Sem.run_bind, Sem.run_pure, Result.andThen_ok, load_blk (hg w' hS) ty d hu hd hi]) h
theorem plan_store_blk {tail : List Oper} {i : Nat} {r : List (Nat × Bool)} {a : Act} {w : World} {o : Oper} (ho : ops[i]? = some o) (hw : Region.wanted o (yielded ops a.tmps) = true) (ty : TypeId) (x y : Operand) (hop : o.op = .store ty x y) (g : Nat) (cs : List Value)
    (hx : a.eval x = .pointer (some ⟨g, 0, none⟩)) (hy : a.eval y = .agg cs.toArray) (T : TypeId) (old : List Value) (hg : Blk w g T old) (hi : (P.info? ty).map (·.size) = some cs.length) (hold : old.length = cs.length) (h1 : cs.all (·.oneCell') = true)
    (h : ∀ w', Blk w' g T cs → w.grownBy w' (some g) → S w' ∧ wpPlan P ops Q S tail r (a.put o.dst undef) w') : wpPlan P ops Q S tail ((i, false) :: r) a w :=
  plan_effect ho hw fun K hK => store_blk ty x y hop g cs hx hy T old hg hi hold h1 fun w' h1 h2 => hK _ _ (h w' h1 h2).1 (h w' h1 h2).2
theorem asAddr_at {w : World} (a : Addr) : (asAddr (.pointer (some a))).run P w = .ok a w := rfl
/-- Results: a struct in memory, and two words. -/
theorem res_ctt {fn : Func} {p t1 t2 : Tmp} {ty : TypeId} (h : fn.results = #[.cell p ty, .tmp t1, .tmp t2]) (tmps : Array Value) (w : World) (g : Nat) (T : TypeId) (cs : List Value) (d : TypeDesc) (hp : tmps.getD p undef = .pointer (some ⟨g, 0, none⟩))
    (hg : Blk w g T cs) (hu : P.underlying ty = some d) (hd : (match d with | .struct _ | .array _ _ => true | _ => false) = true) (hi : (P.info? ty).map (·.size) = some cs.length) :
    (results fn tmps).run P w = .ok (.tuple #[.agg cs.toArray, tmps.getD t1 undef, tmps.getD t2 undef]) w := by
  have hp' : tmps[p]?.getD undef = .pointer (some ⟨g, 0, none⟩) := by simpa using hp
  simp [results, h, hp', asAddr, load_blk hg ty d hu hd hi]
theorem res_ct {fn : Func} {p t1 : Tmp} {ty : TypeId} (h : fn.results = #[.cell p ty, .tmp t1]) (tmps : Array Value) (w : World) (g : Nat) (T : TypeId) (cs : List Value) (d : TypeDesc) (hp : tmps.getD p undef = .pointer (some ⟨g, 0, none⟩))
    (hg : Blk w g T cs) (hu : P.underlying ty = some d) (hd : (match d with | .struct _ | .array _ _ => true | _ => false) = true) (hi : (P.info? ty).map (·.size) = some cs.length) :
    (results fn tmps).run P w = .ok (.tuple #[.agg cs.toArray, tmps.getD t1 undef]) w := by
  have hp' : tmps[p]?.getD undef = .pointer (some ⟨g, 0, none⟩) := by simpa using hp
  simp [results, h, hp', asAddr, load_blk hg ty d hu hd hi]
theorem res_c {fn : Func} {p : Tmp} {ty : TypeId} (h : fn.results = #[.cell p ty]) (tmps : Array Value) (w : World) (g : Nat) (T : TypeId) (cs : List Value) (d : TypeDesc) (hp : tmps.getD p undef = .pointer (some ⟨g, 0, none⟩))
    (hg : Blk w g T cs) (hu : P.underlying ty = some d) (hd : (match d with | .struct _ | .array _ _ => true | _ => false) = true) (hi : (P.info? ty).map (·.size) = some cs.length) :
    (results fn tmps).run P w = .ok (.agg cs.toArray) w := by
  have hp' : tmps[p]?.getD undef = .pointer (some ⟨g, 0, none⟩) := by simpa using hp
  simp [results, h, hp', asAddr, load_blk hg ty d hu hd hi]
end Go.Proofs.Ytdldgchkinflmaa.Plan
