/- What AllInTheEnd's loop keeps: its acts, what is given, the report's box. Conditions: those of each theorem. -/
import Derived.Test.YtlopbheahedofaaFirst
set_option linter.unusedVariables false
namespace Go.Proofs.Ytlopbheahedofaa.Fn
open Go Go.RowKit Go.Proofs.Ytlopbheahedofaa.Lib Go.Proofs.Ytlopbheahedofaa.Plan

theorem own_lower {w : World} {base base2 E k n : Nat} {v : Value} {xs : List Value} (h : w.ownsRow base E k v n xs) (hb : base2 ≤ base) : w.ownsRow base2 E k v n xs := by
  refine ⟨h.1, ?_⟩
  rcases h.2 with h0 | ⟨g, cap, cur, e, h1, h2⟩
  · exact Or.inl h0
  · exact Or.inr ⟨g, cap, cur, e, by omega, h2⟩
structure EndAt (w wr : World) (g5 : Nat) (given : List ByteArray) (gv v : Value) (acts : List ALinkAct) : Prop where
  row : ActsAt wr w.heap.size v acts
  gvr : wr.ownsRow w.heap.size 9 1 gv given.length (cstr given)
  n5 : v.ownBlock ≠ some g5
  ng : ∀ q, gv.ownBlock = some q → v.ownBlock ≠ some q
  g5n : gv.ownBlock ≠ some g5
  h5 : w.heap.size ≤ g5
  ok : ∀ a ∈ acts, actB a = true
  gvn : givenOf acts = given
  sp : spoilt acts ≤ 1
  bel : Below w.heap.size w wr
theorem EndAt.keep {w wr w2 : World} {g5 : Nat} {given : List ByteArray} {gv v : Value} {acts : List ALinkAct} (h : EndAt w wr g5 given gv v acts) (hb : Below w.heap.size wr w2) (hk : ∀ b, b < wr.heap.size → b ≠ g5 → w2.heap[b]? = wr.heap[b]?) : EndAt w w2 g5 given gv v acts :=
  ⟨⟨ownsRow_of_block h.row.own (fun q hq => hk q (own_lt h.row.own hq).2 (fun e => h.n5 (by rw [hq, e]))), h.row.txt⟩, ownsRow_of_block h.gvr (fun q hq => hk q (own_lt h.gvr hq).2 (fun e => h.g5n (by rw [hq, e]))), h.n5, h.ng, h.g5n, h.h5, h.ok, h.gvn, h.sp, h.bel.trans hb⟩
theorem EndAt.below {w wr w2 : World} {g5 : Nat} {given : List ByteArray} {gv v : Value} {acts : List ALinkAct} (h : EndAt w wr g5 given gv v acts) (hb : Below wr.heap.size wr w2) : EndAt w w2 g5 given gv v acts :=
  h.keep (hb.mono h.bel.size) (fun b hl _ => hb.block b hl)
theorem EndAt.box {w wr w2 : World} {g5 : Nat} {given : List ByteArray} {gv v : Value} {acts : List ALinkAct} (h : EndAt w wr g5 given gv v acts) (hg : wr.grownBy w2 (some g5)) : EndAt w w2 g5 given gv v acts :=
  h.keep (below_row hg h.bel.size (fun k hk => by injection hk with hk; have := h.h5; omega)) (fun b hl hne => hg.block b hl (fun e => by injection e with e; exact hne e))
theorem EndAt.app {w wr : World} {g5 n cap : Nat} {A : Option Addr} {given : List ByteArray} {gv : Value} {acts : List ALinkAct} {T : TypeId} {cs : List Value} (h : EndAt w wr g5 given gv (.slice A n cap) acts) (a : ALinkAct) (ha : actB a = true) (hs : a.2.2.size ≤ 1001)
    (hg : givenOf (acts ++ [a]) = givenOf acts) (hsp : spoilt (acts ++ [a]) = spoilt acts) (hK : Blk wr g5 T cs) (hn : n = acts.length) (hl : n ≤ 500) :
    ∃ w8 A8 cap8, (Builtin.append_ #[24, 24] 24 #[.slice A n cap, .slice (some ⟨wr.heap.size, 0, none⟩) 1 1]).run Try.prog (wr.alloc (.cells #[.int .i64 a.1, .int .i64 a.2.1, .string a.2.2] 34)) = .ok (.slice A8 (n + 1) cap8) w8 ∧
      EndAt w w8 g5 given gv (.slice A8 (n + 1) cap8) (acts ++ [a]) ∧ Blk w8 g5 T cs := by
  obtain ⟨i0, hi0, iz0, iz1, iz2⟩ := info_parts infoAct
  have hown0 : wr.ownsRow w.heap.size 34 3 (.slice A n cap) n (cla acts) := by have := h.row.own; rwa [← hn] at this
  obtain ⟨w8, A8, cap8, hrun, hown, hkeep, hb8, hnew, hs8, hc8⟩ := own_app (P := Try.prog) (t := 24) i0 _ Try.underlying24 hi0 iz0 iz1 iz2 rfl (by decide) hown0 [.int .i64 a.1, .int .i64 a.2.1, .string a.2.2] rfl (fun u hu => by simp at hu; rcases hu with rfl | rfl | rfl <;> rfl) (by unfold maxLen; omega) (by omega) h.bel.size
  have hlt : g5 < wr.heap.size := hK.lt
  refine ⟨w8, A8, cap8, hrun, ⟨ActsAt.snoc (a := a) hown hn h.row.txt hs, ownsRow_of_block h.gvr (fun q hq => hkeep q (own_lt h.gvr hq).2 (h.ng q hq)), ?_, ?_, h.g5n, h.h5, acts_snoc h.ok ha, hg.trans h.gvn, by rw [hsp]; exact h.sp, h.bel.trans hb8⟩, (hkeep g5 hlt h.n5).trans hK⟩
  · rcases hnew with e | ⟨b, e, hb⟩
    · rw [e]; exact h.n5
    · rw [e]; intro hh; injection hh with hh; omega
  · intro q hq
    rcases hnew with e | ⟨b, e, hb⟩
    · rw [e]; exact h.ng q hq
    · rw [e]; intro hh; injection hh with hh; have := (own_lt h.gvr hq).2; omega
/-- The report of acts that may all run. -/
theorem end_rep {W : Nat} {acts : List ALinkAct} (h1 : 1 ≤ W) (h2 : W ≤ 16) (hl : acts.length ≤ 400) (ok : ∀ a ∈ acts, actB a = true) : linkR (W : Int) acts = (repK (runK W acts), 0) := by
  have h := linkR_of (win := (W : Int)) (acts := acts) (by omega) (by omega) hl ok
  rwa [Int.toNat_natCast] at h
end Go.Proofs.Ytlopbheahedofaa.Fn
