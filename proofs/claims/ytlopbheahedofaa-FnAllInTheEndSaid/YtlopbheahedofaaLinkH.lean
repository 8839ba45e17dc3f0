/- A new link; the run of its acts, one by one. Conditions: those of each theorem. -/
import Derived.Test.YtlopbheahedofaaLinkG
set_option linter.unusedVariables false
namespace Go.Proofs.Ytlopbheahedofaa.Fn
open Go Go.RowKit Go.Proofs.Ytlopbheahedofaa.Lib Go.Proofs.Ytlopbheahedofaa.Plan

theorem LkAt.new (w : World) (base : Nat) (T : TypeId) (win : Nat) (hb : base ≤ w.heap.size) :
    LkAt (w.alloc (.cells #[.int .i64 win, .slice none 0 0, .int .i64 0, .int .i64 0, .slice none 0 0, .slice none 0 0] T)) base w.heap.size T win Lk.none := by
  refine ⟨.slice none 0 0, .slice none 0 0, .slice none 0 0, Blk.new w T [.int .i64 win, .slice none 0 0, .int .i64 0, .int .i64 0, .slice none 0 0, .slice none 0 0], ⟨rfl, Or.inl ⟨rfl, rfl⟩⟩, ⟨rfl, Or.inl ⟨rfl, rfl⟩⟩, ⟨rfl, Or.inl ⟨rfl, rfl⟩⟩, ?_, ?_, ?_, ?_, ?_, ?_, hb⟩ <;> (intro b h; cases h)
theorem runK_snoc (win : Nat) (acts : List ALinkAct) (k : Nat) (h : k < acts.length) : runK win (acts.take (k + 1)) = turnK win acts[k] (runK win (acts.take k)) := by
  unfold runK
  rw [List.take_add_one, List.getElem?_eq_getElem h, List.foldl_append]
  rfl
theorem LkOK.run (win : Nat) (acts : List ALinkAct) (ha : ∀ a ∈ acts, actB a = true) : ∀ k, k ≤ acts.length → LkOK k (runK win (acts.take k))
  | 0, _ => LkOK.zero
  | k + 1, h => by
    rw [runK_snoc win acts k (by omega)]
    exact (LkOK.run win acts ha k (by omega)).turn _ (ha _ (List.getElem_mem _))
end Go.Proofs.Ytlopbheahedofaa.Fn
