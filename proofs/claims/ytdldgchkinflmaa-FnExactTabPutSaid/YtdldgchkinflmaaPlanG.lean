/- Plans over named operations, wanted or not: the operations are kept out of the goal. Conditions: those of each theorem. -/
import Derived.Test.YtdldgchkinflmaaPlan
set_option linter.unusedVariables false
namespace Go.Proofs.Ytdldgchkinflmaa.Plan
open Go Go.RowKit Go.Proofs.Ytdldgchkinflmaa.Lib
variable {P : Program} {ops : Array Oper} {Q : Exit → Act → World → Prop} {S : World → Prop}

theorem region_named {id : Nat} {a : Act} {w : World} {l : List Oper} (p : List (Nat × Bool)) (S : World → Prop) (hm : P.follows .mixedOrders = true) (hB : planAll l.toArray p = true)
    (hQ : ∀ c a d v w, Q (.panic c) (Act.put a d v) w → Q (.panic c) a w) (hS : S w.drew) (h : ∀ ops : Array Oper, (∀ j, ops[0 + j]? = l[j]?) → wpPlan P ops Q S [] p a w.drew) : (Code.region id l.toArray true).wp P Q a w :=
  region_all p S hm hB hQ hS (h l.toArray (fun j => by simp))
theorem ops_cons (k k' : Nat) (hk : k' = k + 1) {o : Oper} {l : List Oper} (h : ∀ j, ops[k + j]? = (o :: l)[j]?) : ops[k]? = some o ∧ ∀ j, ops[k' + j]? = l[j]? := by
  subst hk
  refine ⟨by simpa using h 0, fun j => ?_⟩
  have := h (j + 1)
  rw [show k + 1 + j = k + (j + 1) by omega]
  simpa using this
theorem wanted_at {dst : Option Tmp} {op opj : Op} {ty tyj : TypeId} {pos posj : String} {af afj : Array Edge} {gj : Option (Nat × Bool)} {j d : Nat} {b x : Bool} {a : Act} (hj : ops[j]? = some ⟨some d, opj, tyj, posj, afj, gj⟩) (ht : a.tmps[d]? = some (.bool x)) :
    Region.wanted ⟨dst, op, ty, pos, af, some (j, b)⟩ (yielded ops a.tmps) = (some x == some b) := by
  have h : yielded ops a.tmps j = some x := by
    unfold yielded
    rw [hj]
    show (match a.tmps[d]? with | some (.bool b) => some b | _ => none) = some x
    rw [ht]
  show (match (some (j, b) : Option (Nat × Bool)) with | none => true | some (j, b) => yielded ops a.tmps j == some b) = _
  show (yielded ops a.tmps j == some b) = _
  rw [h]
theorem named_yes {tail : List Oper} {i : Nat} {r : List (Nat × Bool)} {a : Act} {w : World} {dst : Option Tmp} {op : Op} {ty : TypeId} {pos : String} {af : Array Edge} (ho : ops[i]? = some ⟨dst, op, ty, pos, af, none⟩) (v : Value)
    (hy : ∀ w', S w' → (execOp a.eval ⟨dst, op, ty, pos, af, none⟩).run P w' = .ok (.value v) w') (h : wpPlan P ops Q S tail r (a.put dst v) w) : wpPlan P ops Q S tail ((i, true) :: r) a w :=
  plan_yields v ho rfl hy h
theorem named_on {tail : List Oper} {i j d : Nat} {b : Bool} {r : List (Nat × Bool)} {a : Act} {w : World} {dst : Option Tmp} {op opj : Op} {ty tyj : TypeId} {pos posj : String} {af afj : Array Edge} {gj : Option (Nat × Bool)}
    (ho : ops[i]? = some ⟨dst, op, ty, pos, af, some (j, b)⟩) (hj : ops[j]? = some ⟨some d, opj, tyj, posj, afj, gj⟩) (ht : a.tmps[d]? = some (.bool b)) (v : Value)
    (hy : ∀ w', S w' → (execOp a.eval ⟨dst, op, ty, pos, af, some (j, b)⟩).run P w' = .ok (.value v) w') (h : wpPlan P ops Q S tail r (a.put dst v) w) : wpPlan P ops Q S tail ((i, true) :: r) a w :=
  plan_yields v ho (by rw [wanted_at hj ht]; simp) hy h
theorem named_off {tail : List Oper} {i j d : Nat} {b : Bool} {r : List (Nat × Bool)} {a : Act} {w : World} {dst : Option Tmp} {op opj : Op} {ty tyj : TypeId} {pos posj : String} {af afj : Array Edge} {gj : Option (Nat × Bool)}
    (ho : ops[i]? = some ⟨dst, op, ty, pos, af, some (j, b)⟩) (hj : ops[j]? = some ⟨some d, opj, tyj, posj, afj, gj⟩) (ht : a.tmps[d]? = some (.bool !b))
    (h : wpPlan P ops Q S tail r (a.put dst undef) w) : wpPlan P ops Q S tail ((i, true) :: r) a w :=
  plan_off ho (by rw [wanted_at hj ht]; cases b <;> rfl) h
theorem named_effect {tail : List Oper} {i : Nat} {r : List (Nat × Bool)} {a : Act} {w : World} {dst : Option Tmp} {op : Op} {ty : TypeId} {pos : String} {af : Array Edge} (ho : ops[i]? = some ⟨dst, op, ty, pos, af, none⟩)
    (h : ∀ K : Act → World → Prop, (∀ a' w', S w' → wpPlan P ops Q S tail r a' w' → K a' w') → Oper.wp P ⟨dst, op, ty, pos, af, none⟩ a w K Q) : wpPlan P ops Q S tail ((i, false) :: r) a w :=
  plan_effect ho rfl h
theorem named_effect_on {tail : List Oper} {i j d : Nat} {b : Bool} {r : List (Nat × Bool)} {a : Act} {w : World} {dst : Option Tmp} {op opj : Op} {ty tyj : TypeId} {pos posj : String} {af afj : Array Edge} {gj : Option (Nat × Bool)}
    (ho : ops[i]? = some ⟨dst, op, ty, pos, af, some (j, b)⟩) (hj : ops[j]? = some ⟨some d, opj, tyj, posj, afj, gj⟩) (ht : a.tmps[d]? = some (.bool b))
    (h : ∀ K : Act → World → Prop, (∀ a' w', S w' → wpPlan P ops Q S tail r a' w' → K a' w') → Oper.wp P ⟨dst, op, ty, pos, af, some (j, b)⟩ a w K Q) : wpPlan P ops Q S tail ((i, false) :: r) a w :=
  plan_effect ho (by rw [wanted_at hj ht]; simp) h
end Go.Proofs.Ytdldgchkinflmaa.Plan
