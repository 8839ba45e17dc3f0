/- An append of one element onto a row of the call's own. Conditions: those of each theorem. -/
import Derived.Test.YtlopbheahedofaaDoorGrowR
import Derived.Lib.AppendZeros
import Derived.Test.YtlopbheahedofaaDoorPlanS
set_option linter.unusedVariables false
namespace Go.Proofs.YtlopbheahedofaaDoor.Fn
open Go Go.RowKit Go.Proofs.YtlopbheahedofaaDoor.Lib Go.Proofs.YtlopbheahedofaaDoor.Plan

theorem own_shape {w : World} {base e k n : Nat} {v : Value} {xs : List Value} (h : w.ownsRow base e k v n xs) : ∃ A cap, v = .slice A n cap ∧ n ≤ cap ∧ (∀ b, v.ownBlock = some b → A = some ⟨b, 0, none⟩) := by
  rcases h.2 with ⟨rfl, hn⟩ | ⟨g, cap, cur, rfl, g1, g2, g3, _⟩
  · exact ⟨none, 0, by rw [hn], by omega, fun b hb => by cases hb⟩
  · exact ⟨_, cap, rfl, g3, fun b hb => by injection hb with hb; exact congrArg (fun x => some (Addr.mk x 0 none)) hb⟩
theorem infoStr : (Tryd.prog.info? 9).map (fun i => (i.zero, i.size, i.bytes)) = some (some (.string ⟨#[]⟩), 1, 16) := by kernel_rfl
theorem cells_at (g : Nat) (cs : List Value) (w : World) (T : TypeId) (hg : w.heap.size = g) : ∀ j u, cs[j]? = some u → (w.alloc (.cells cs.toArray T)).cell? ((⟨g, 0, none⟩ : Addr).add j) = some u := by
  intro j u h
  subst hg
  rw [add_plain]
  exact ((Blk.new w T cs).cell j).trans h
theorem below_row {w w2 : World} {base : Nat} {row : Option Nat} (h : w.grownBy w2 row) (hb : base ≤ w.heap.size) (hr : ∀ k, row = some k → base ≤ k) : Below base w w2 := (Below.refl _ _).grown h hb hr
theorem own_app {P : Program} {base E k bytes t : Nat} (i0 : TypeInfo) (z : Value) (ht : P.underlying t = some (.slice E)) (hi : P.info? E = some i0) (hz : i0.zero = some z) (hsize : i0.size = k) (hby : i0.bytes = bytes) (hzs : z.cells.size = k) (hsz : 0 < k)
    {w1 : World} {v : Value} {n : Nat} {xs : List Value} (own : w1.ownsRow base E k v n xs) (news : List Value) (hl : news.length = k) (h1 : ∀ u ∈ news, u.oneCell' = true) (h63 : n + 1 ≤ maxLen) (hb : (n + 1) * bytes ≤ 140737488355328) (hbase : base ≤ w1.heap.size) :
    ∃ w8 A cap, (Builtin.append_ #[t, t] t #[v, .slice (some ⟨w1.heap.size, 0, none⟩) 1 1]).run P (w1.alloc (.cells news.toArray E)) = .ok (.slice A (n + 1) cap) w8 ∧ w8.ownsRow base E k (.slice A (n + 1) cap) (n + 1) (xs ++ news) ∧ (∀ b, b < w1.heap.size → v.ownBlock ≠ some b → w8.heap[b]? = w1.heap[b]?) ∧ Below base w1 w8 ∧
      ((Value.slice A (n + 1) cap).ownBlock = v.ownBlock ∨ ∃ b, (Value.slice A (n + 1) cap).ownBlock = some b ∧ w1.heap.size ≤ b) ∧ w1.heap.size < w8.heap.size ∧ n + 1 ≤ cap := by
  obtain ⟨v8, w8, hrun, hown, hgr, -, hblk⟩ := run_append_own_at (P := P) (ty := t) (w := w1.alloc (.cells news.toArray E)) base t E i0 z k bytes ht hi hz hsize hby hzs hsz v n xs (own.alloc _) ⟨w1.heap.size, 0, none⟩ 1 1 news (by rw [hl, Nat.one_mul]) (cells_at w1.heap.size news w1 E rfl) h1 h63 hb (by simp; omega)
  obtain ⟨A, cap, rfl, hcap, -⟩ := own_shape hown
  have hs := hgr.size
  simp at hs
  refine ⟨w8, A, cap, hrun, hown, fun b hb hn => (hgr.block b (by simp; omega) (fun e => hn e.symm)).trans (Below.heap_alloc w1 _ b hb), ?_, ?_, by omega, hcap⟩
  · exact ((Below.refl _ _).alloc hbase _).trans (below_row hgr (by simp; omega) (fun q hq => (own_lt own hq).1))
  · exact hblk.imp id (fun e => ⟨_, e, by simp⟩)
end Go.Proofs.YtlopbheahedofaaDoor.Fn
