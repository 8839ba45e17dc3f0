/- Trees of plans over named operations, the frame apart, and their leaves joined: what holds behind the region is said once. Conditions: those of each theorem. -/
import Derived.Test.YtlopbheahedofaaDoorPlanS
import Derived.Test.YtlopbheahedofaaDoorPlanT
set_option linter.unusedVariables false
namespace Go.Proofs.YtlopbheahedofaaDoor.Plan
open Go Go.RowKit Go.Proofs.YtlopbheahedofaaDoor.Lib
variable {P : Program} {ops : Array Oper} {Q : Exit → Act → World → Prop}

theorem region_join {id : Nat} {A : Act} {w : World} {l : List Oper} {Q' : Exit → Act → World → Prop} (p : PT) (S : World → Prop) (N : Nat) (hN : A.tmps.size = N) (hm : P.follows .mixedOrders = true) (hB : treeAll l.toArray p = true) (hS : S w.drew)
    (R : List (Nat × Value) → World → Prop)
    (h : ∀ (ops : Array Oper) (fr : Act), Aside (fr = A) → Aside (fr.tmps.size = N) → (∀ j, ops[0 + j]? = l[j]?) → wpT P ops (fun ex act w' => ex = .normal ∧ ∃ us, act = putAll fr us ∧ R us w') p S (putAll fr []) w.drew)
    (cut : ∀ us w', R us w' → Q' .normal (putAll A us) w') : (Code.region id l.toArray true).wp P Q' A w := by
  refine wp_mono (region_tree (Q := fun ex act w' => ex = .normal ∧ ∃ us, act = putAll A us ∧ R us w') p S hm hB (fun _ _ _ _ _ hh => absurd hh.1 (by simp)) hS (h l.toArray A ⟨rfl⟩ ⟨hN⟩ (fun j => by simp))) (fun ex act w' hh => ?_)
  obtain ⟨rfl, us, rfl, hr⟩ := hh
  exact cut us w' hr
section
variable {N : Nat} {a : Act} (hN : Aside (a.tmps.size = N)) {i : Nat} {r : PT} {S : World → Prop} {us : List (Nat × Value)} {w : World} {d : Nat} {op : Op} {ty : TypeId} {pos : String} {af : Array Edge}
include hN
theorem tenv_yes (ho : ops[i]? = some ⟨some d, op, ty, pos, af, none⟩) (v : Value) (hy : ∀ w', S w' → (execOp (look N a us) ⟨some d, op, ty, pos, af, none⟩).run P w' = .ok (.value v) w')
    (h : wpT P ops Q r S (putAll a ((d, v) :: us)) w) : wpT P ops Q (.yes i r) S (putAll a us) w :=
  tree_yields v ho rfl (by rw [putAll_eval hN.out]; exact hy) h
theorem top_run (ho : ops[i]? = some ⟨some d, op, ty, pos, af, none⟩) (v : Value) (w2 : World) (hr : (execOp (look N a us) ⟨some d, op, ty, pos, af, none⟩).run P w = .ok (.value v) w2) (hS : S w2)
    (h : wpT P ops Q r S (putAll a ((d, v) :: us)) w2) : wpOp P ops Q i (fun a' w' => ∃ S2 : World → Prop, (∀ w, S2 w → S w) ∧ S2 w' ∧ wpT P ops Q r S2 a' w') (putAll a us) w := by
  refine tree_op ho rfl (fun K hK => ?_)
  unfold Oper.wp
  rw [putAll_eval hN.out, hr]
  exact hK S _ _ (fun _ h => h) hS h
theorem top_store (ho : ops[i]? = some ⟨none, op, ty, pos, af, none⟩) (w2 : World) (hr : (execOp (look N a us) ⟨none, op, ty, pos, af, none⟩).run P w = .ok .skip w2) (hS : S w2)
    (h : wpT P ops Q r S (putAll a us) w2) : wpOp P ops Q i (fun a' w' => ∃ S2 : World → Prop, (∀ w, S2 w → S w) ∧ S2 w' ∧ wpT P ops Q r S2 a' w') (putAll a us) w := by
  refine tree_op ho rfl (fun K hK => ?_)
  unfold Oper.wp
  rw [putAll_eval hN.out, hr]
  exact hK S _ _ (fun _ h => h) hS h
theorem top_call (ho : ops[i]? = some ⟨some d, op, ty, pos, af, none⟩) (f : FuncId) (args : Array Value) (hr : (execOp (look N a us) ⟨some d, op, ty, pos, af, none⟩).run P w = .ok (.enter f args) w)
    (h : Calls P f args w fun e w2 => ∃ v, e = .returned v ∧ S w2 ∧ wpT P ops Q r S (putAll a ((d, v) :: us)) w2) : wpOp P ops Q i (fun a' w' => ∃ S2 : World → Prop, (∀ w, S2 w → S w) ∧ S2 w' ∧ wpT P ops Q r S2 a' w') (putAll a us) w := by
  refine tree_op ho rfl (fun K hK => ?_)
  unfold Oper.wp
  rw [putAll_eval hN.out, hr]
  rw [Oper.upon_enter]
  refine h.mono ?_
  rintro e w2 ⟨v, rfl, hS, h⟩
  exact hK S _ _ (fun _ h => h) hS h
end
end Go.Proofs.YtlopbheahedofaaDoor.Plan
