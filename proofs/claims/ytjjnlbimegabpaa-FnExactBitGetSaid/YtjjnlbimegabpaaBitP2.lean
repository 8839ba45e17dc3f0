/- Walk of (*bitRow).add: one bit more. Conditions: those of the theorem. -/
import Derived.Test.YtjjnlbimegabpaaBitP1
set_option linter.unusedVariables false
namespace Go.Proofs.Ytjjnlbimegabpaa.Fn
open Go.RowKit Go.Proofs.Ytjjnlbimegabpaa.Lib Go.Proofs.Ytjjnlbimegabpaa.Plan

/-- The first m bytes of a row of which k bits are filled in. -/
def packM (row : List Int) (m k : Nat) : List Int := (List.range m).map (fun j => topB row j (min (k - 8 * j) 8))
theorem packM_length (row : List Int) (m k : Nat) : (packM row m k).length = m := by simp [packM]
theorem packM_get (row : List Int) (m k j : Nat) (hj : j < m) : (packM row m k)[j]? = some (topB row j (min (k - 8 * j) 8)) := by simp [packM, hj]
theorem packM_grow (row : List Int) (k : Nat) (h : k % 8 = 0) : packM row ((k + 7) / 8) k ++ [0] = packM row (k / 8 + 1) k := by
  rw [show (k + 7) / 8 = k / 8 by omega, packM, packM, List.range_succ, List.map_append, List.map_singleton, show min (k - 8 * (k / 8)) 8 = 0 by omega]
  rfl
theorem packM_set (row : List Int) (k : Nat) : (packM row (k / 8 + 1) k).set (k / 8) (topB row (k / 8) (k % 8 + 1)) = packM row (k / 8 + 1) (k + 1) := by
  refine List.ext_getElem? fun j => ?_
  by_cases h : j < k / 8 + 1
  · rw [packM_get _ _ _ _ h]
    by_cases hj : j = k / 8
    · subst hj
      rw [List.getElem?_set_self (by rw [packM_length]; omega), show min (k + 1 - 8 * (k / 8)) 8 = k % 8 + 1 by omega]
    · rw [List.getElem?_set_ne (fun e => hj e.symm), packM_get _ _ _ _ h, show min (k + 1 - 8 * j) 8 = min (k - 8 * j) 8 by omega]
  · rw [List.getElem?_eq_none (by rw [List.length_set, packM_length]; omega), List.getElem?_eq_none (by rw [packM_length]; omega)]
theorem packM_at (row : List Int) (k : Nat) : (packM row (k / 8 + 1) k)[k / 8]? = some (topB row (k / 8) (k % 8)) := by
  rw [packM_get _ _ _ _ (by omega), show min (k - 8 * (k / 8)) 8 = k % 8 by omega]
theorem packM_same (row : List Int) (k : Nat) (h : row.getD k 0 = 0) : packM row (k / 8 + 1) k = packM row (k / 8 + 1) (k + 1) := by
  rw [← packM_set]
  have e : topB row (k / 8) (k % 8 + 1) = topB row (k / 8) (k % 8) := by
    rw [topB, show 8 * (k / 8) + k % 8 = k by omega, h, Int.zero_mul, Int.add_zero]
  rw [e]
  refine List.ext_getElem? fun j => ?_
  by_cases hj : j = k / 8
  · subst hj
    rw [List.getElem?_set_self (by rw [packM_length]; omega), packM_at]
  · rw [List.getElem?_set_ne (fun e => hj e.symm)]
theorem packM_all (row : List Int) : packM row ((row.length + 7) / 8) row.length = packN row row.length := rfl

/-- A row of bits that is being filled: m bytes, k bits of them filled in, n counted. -/
structure Adds (W1 w : World) (B g : Nat) (row : List Int) (m k n : Nat) (v : Value) : Prop where
  blk : Blk w g 104 [.int .i64 n, v]
  owns : w.ownsRow B 5 1 v m (cu8 (packM row m k))
  base : B ≤ w.heap.size
  lt : g < B
  os : w.os = W1.os
  tape : w.tape = W1.tape
  output : w.output = W1.output
  same : ∀ i, i < B → i ≠ g → w.heap[i]? = W1.heap[i]?
theorem Adds.drew {W1 w : World} {B g : Nat} {row : List Int} {m k n : Nat} {v : Value} (h : Adds W1 w B g row m k n v) : Adds W1 w.drew B g row m k n v :=
  ⟨h.blk, h.owns.drew, h.base, h.lt, h.os, h.tape, h.output, h.same⟩
/-- A byte more, and the head of the row of bits says so. -/
theorem Adds.grow {W1 w w1 : World} {B g : Nat} {row : List Int} {k n : Nat} {v v' : Value} (h : Adds W1 w B g row ((k + 7) / 8) k n v) (h8 : k % 8 = 0) (o : Obj)
    (hown : w1.ownsRow B 5 1 v' ((k + 7) / 8 + 1) (cu8 (packM row ((k + 7) / 8) k) ++ [.int .u8 0])) (hg : (w.alloc o).grownBy w1 v.ownBlock) :
    Adds W1 (w1.setCell ⟨g, 1, none⟩ v') B g row (k / 8 + 1) k n v' := by
  have hne : ∀ b, v.ownBlock = some b → B ≤ b := fun b hb => (h.owns.lt _ hb).1
  have hgl : some g ≠ v.ownBlock := fun e => by have := hne g e.symm; have := h.lt; omega
  have hsz : w.heap.size + 1 ≤ w1.heap.size := by have := hg.size; simpa using this
  rw [cu8_snoc, packM_grow row k h8, show (k + 7) / 8 + 1 = k / 8 + 1 by omega] at hown
  refine ⟨?_, ?_, ?_, h.lt, ?_, ?_, ?_, fun i hi hig => ?_⟩
  · have := ((h.blk.alloc o).grown hg hgl).set 1 v'
    simpa using this
  · exact ownsRow_setCell_below hown h.lt v'
  · have := h.base
    have e : (w1.setCell ⟨g, 1, none⟩ v').heap.size = w1.heap.size := by simp [World.setCell]
    omega
  · exact hg.os.trans h.os
  · exact hg.tape.trans h.tape
  · exact hg.output.trans h.output
  · have e1 : (w1.setCell ⟨g, 1, none⟩ v').heap[i]? = w1.heap[i]? := Below.heap_setCell _ _ _ _ hig
    have e2 : w1.heap[i]? = (w.alloc o).heap[i]? := hg.block i (by have := h.base; simp; omega) (fun e => by have := hne i e.symm; omega)
    have e3 : (w.alloc o).heap[i]? = w.heap[i]? := Below.heap_alloc w o i (by have := h.base; omega)
    rw [e1, e2, e3]
    exact h.same i hi hig
/-- A byte is stored. -/
theorem Adds.store {W1 w : World} {B g g2 cap : Nat} {row : List Int} {k n : Nat} (h : Adds W1 w B g row (k / 8 + 1) k n (.slice (some ⟨g2, 0, none⟩) (k / 8 + 1) cap)) :
    Adds W1 (w.setCell ⟨g2, k / 8, none⟩ (.int .u8 (topB row (k / 8) (k % 8 + 1)))) B g row (k / 8 + 1) (k + 1) n (.slice (some ⟨g2, 0, none⟩) (k / 8 + 1) cap) := by
  have hb := (h.owns.lt g2 rfl).1
  have h4 := (h.owns.stored (k / 8) (.int .u8 (topB row (k / 8) (k % 8 + 1)))).1
  rw [cu8_set, packM_set row k] at h4
  refine ⟨h.blk.far (by have := h.lt; simp; omega) _, h4, ?_, h.lt, h.os, h.tape, h.output, fun i hi hig => ?_⟩
  · simpa [World.setCell] using h.base
  · exact (Below.heap_setCell w _ _ _ (by simp; omega)).trans (h.same i hi hig)
theorem Adds.count {W1 w : World} {B g : Nat} {row : List Int} {m k n : Nat} {v : Value} (h : Adds W1 w B g row m k n v) (n' : Nat) : Adds W1 (w.setCell ⟨g, 0, none⟩ (.int .i64 n')) B g row m k n' v := by
  refine ⟨by simpa using h.blk.set 0 (.int .i64 n'), ownsRow_setCell_below h.owns h.lt _, by simpa [World.setCell] using h.base, h.lt, h.os, h.tape, h.output, fun i hi hig => ?_⟩
  exact (Below.heap_setCell w _ _ _ hig).trans (h.same i hi hig)
theorem Adds.form {W1 w : World} {B g : Nat} {row : List Int} {k n : Nat} {v : Value} (h : Adds W1 w B g row (k / 8 + 1) k n v) : ∃ g2 cap, v = .slice (some ⟨g2, 0, none⟩) (k / 8 + 1) cap := by
  rcases h.owns.2 with ⟨_, h0⟩ | ⟨g2, cap, cur, rfl, _⟩
  · omega
  · exact ⟨g2, cap, rfl⟩
end Go.Proofs.Ytjjnlbimegabpaa.Fn
