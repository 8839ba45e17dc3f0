/- How a link lies in memory, and what an append or a store leaves of it. Conditions: those of each theorem. -/
import Derived.Test.YtlopbheahedofaaLink0
import Derived.Test.YtlopbheahedofaaButC
import Derived.Test.YtlopbheahedofaaPlanS
set_option linter.unusedVariables false
namespace Go.Proofs.Ytlopbheahedofaa.Fn
open Go Go.RowKit Go.Proofs.Ytlopbheahedofaa.Lib Go.Proofs.Ytlopbheahedofaa.Plan

def cstr (l : List ByteArray) : List Value := l.map Value.string
def cpk (l : List (Bool × ByteArray)) : List Value := (l.map (fun p => [Value.bool p.1, Value.string p.2])).flatten
theorem cstr_snoc (l : List ByteArray) (x : ByteArray) : cstr l ++ [Value.string x] = cstr (l ++ [x]) := by simp [cstr]
theorem cpk_snoc (l : List (Bool × ByteArray)) (p : Bool × ByteArray) : cpk l ++ [Value.bool p.1, Value.string p.2] = cpk (l ++ [p]) := by simp [cpk]
theorem cstr_at (l : List ByteArray) (i : Nat) (h : i < l.length) : (cstr l)[i]? = some (.string l[i]) := by simp [cstr, h]
theorem cpk_two (l : List (Bool × ByteArray)) : ∀ c ∈ l.map (fun p => [Value.bool p.1, Value.string p.2]), c.length = 2 := by
  intro c hc
  obtain ⟨p, -, rfl⟩ := List.mem_map.1 hc
  rfl
theorem cpk_at (l : List (Bool × ByteArray)) (i t : Nat) (h : i < l.length) (ht : t < 2) : (cpk l)[i * 2 + t]? = [Value.bool l[i].1, Value.string l[i].2][t]? :=
  flatten_getElem? _ (cpk_two l) i t _ (by simp [h]) ht
theorem own_shape {w : World} {base e k n : Nat} {v : Value} {xs : List Value} (h : w.ownsRow base e k v n xs) : ∃ A cap, v = .slice A n cap ∧ n ≤ cap ∧ (∀ b, v.ownBlock = some b → A = some ⟨b, 0, none⟩) := by
  rcases h.2 with ⟨rfl, hn⟩ | ⟨g, cap, cur, rfl, g1, g2, g3, _⟩
  · exact ⟨none, 0, by rw [hn], by omega, fun b hb => by cases hb⟩
  · exact ⟨_, cap, rfl, g3, fun b hb => by injection hb with hb; exact congrArg (fun x => some (Addr.mk x 0 none)) hb⟩
theorem own_addr {w : World} {base e k n : Nat} {A : Option Addr} {m cap : Nat} {xs : List Value} (h : w.ownsRow base e k (.slice A m cap) n xs) (hn : 0 < n) : ∃ b, A = some ⟨b, 0, none⟩ ∧ base ≤ b ∧ b < w.heap.size ∧ (∀ j u, xs[j]? = some u → w.cell? ⟨b, j, none⟩ = some u) ∧ (∀ j, w.frozen? ⟨b, j, none⟩ = false) := by
  rcases h.2 with ⟨he, hz⟩ | ⟨g, cap', cur, he, g1, g2, g3, _⟩
  · omega
  · injection he with e1 e2 e3
    subst e1
    refine ⟨g, rfl, g1, (Array.getElem?_eq_some_iff.1 g2).1, fun j u hu => ?_, fun j => by simp [World.frozen?, g2]⟩
    have := h.cells (g := g) rfl j u hu
    rwa [add_plain] at this
/-- A link in memory: its block, and three rows of the call's own. -/
structure LkV (w : World) (base g : Nat) (T : TypeId) (win : Nat) (s : Lk) (vg vt vw : Value) : Prop where
  blk : Blk w g T [.int .i64 win, vg, .int .i64 s.acked, .int .i64 s.packed, vt, vw]
  og : w.ownsRow base 9 1 vg s.given.length (cstr s.given)
  ot : w.ownsRow base 9 1 vt s.taken.length (cstr s.taken)
  ow : w.ownsRow base 63 2 vw s.way.length (cpk s.way)
  gg : ∀ b, vg.ownBlock = some b → b ≠ g
  gt : ∀ b, vt.ownBlock = some b → b ≠ g
  gw : ∀ b, vw.ownBlock = some b → b ≠ g
  d1 : ∀ b, vg.ownBlock = some b → vt.ownBlock ≠ some b
  d2 : ∀ b, vg.ownBlock = some b → vw.ownBlock ≠ some b
  d3 : ∀ b, vt.ownBlock = some b → vw.ownBlock ≠ some b
  hb : base ≤ g
def LkAt (w : World) (base g : Nat) (T : TypeId) (win : Nat) (s : Lk) : Prop := ∃ vg vt vw, LkV w base g T win s vg vt vw
theorem LkV.keep {w w2 : World} {base g : Nat} {T : TypeId} {win : Nat} {s : Lk} {vg vt vw : Value} (h : LkV w base g T win s vg vt vw) (hk : ∀ b, b < w.heap.size → base ≤ b → w2.heap[b]? = w.heap[b]?) : LkV w2 base g T win s vg vt vw :=
  ⟨(hk g h.blk.lt h.hb).trans h.blk, ownsRow_of_block h.og (fun q hq => hk q (own_lt h.og hq).2 (own_lt h.og hq).1), ownsRow_of_block h.ot (fun q hq => hk q (own_lt h.ot hq).2 (own_lt h.ot hq).1),
    ownsRow_of_block h.ow (fun q hq => hk q (own_lt h.ow hq).2 (own_lt h.ow hq).1), h.gg, h.gt, h.gw, h.d1, h.d2, h.d3, h.hb⟩
theorem LkV.below {w w2 : World} {base g : Nat} {T : TypeId} {win : Nat} {s : Lk} {vg vt vw : Value} (h : LkV w base g T win s vg vt vw) (hb : Below w.heap.size w w2) : LkV w2 base g T win s vg vt vw := h.keep (fun b hl _ => hb.block b hl)
theorem LkAt.below {w w2 : World} {base g : Nat} {T : TypeId} {win : Nat} {s : Lk} (h : LkAt w base g T win s) (hb : Below w.heap.size w w2) : LkAt w2 base g T win s := by
  obtain ⟨vg, vt, vw, h⟩ := h
  exact ⟨vg, vt, vw, h.below hb⟩
theorem LkV.lt {w : World} {base g : Nat} {T : TypeId} {win : Nat} {s : Lk} {vg vt vw : Value} (h : LkV w base g T win s vg vt vw) : base ≤ w.heap.size := by have := h.blk.lt; have := h.hb; omega
/-- The way written anew. -/
theorem LkV.setWay {w w2 : World} {base g : Nat} {T : TypeId} {win : Nat} {s : Lk} {vg vt vw vw' : Value} (h : LkV w base g T win s vg vt vw) (l : List (Bool × ByteArray)) (hk : Blk w2 g T [.int .i64 win, vg, .int .i64 s.acked, .int .i64 s.packed, vt, vw']) (hw : w2.ownsRow base 63 2 vw' l.length (cpk l))
    (hkeep : ∀ b, b < w.heap.size → b ≠ g → vw.ownBlock ≠ some b → w2.heap[b]? = w.heap[b]?) (hnew : vw'.ownBlock = vw.ownBlock ∨ ∃ b, vw'.ownBlock = some b ∧ w.heap.size ≤ b) : LkV w2 base g T win { s with way := l } vg vt vw' := by
  refine ⟨hk, ownsRow_of_block h.og (fun q hq => hkeep q (own_lt h.og hq).2 (h.gg q hq) (h.d2 q hq)), ownsRow_of_block h.ot (fun q hq => hkeep q (own_lt h.ot hq).2 (h.gt q hq) (h.d3 q hq)), hw, h.gg, h.gt, fun b hb => ?_, h.d1, fun b hb => ?_, fun b hb => ?_, h.hb⟩
  · rcases hnew with e | ⟨c, e, hc⟩
    · exact h.gw b (by rw [← e]; exact hb)
    · rw [e] at hb; injection hb with hb; have := h.blk.lt; omega
  · rcases hnew with e | ⟨c, e, hc⟩
    · rw [e]; exact h.d2 b hb
    · rw [e]; intro hh; injection hh with hh; have := (own_lt h.og hb).2; omega
  · rcases hnew with e | ⟨c, e, hc⟩
    · rw [e]; exact h.d3 b hb
    · rw [e]; intro hh; injection hh with hh; have := (own_lt h.ot hb).2; omega
theorem LkV.setGiven {w w2 : World} {base g : Nat} {T : TypeId} {win : Nat} {s : Lk} {vg vt vw vg' : Value} (h : LkV w base g T win s vg vt vw) (l : List ByteArray) (hk : Blk w2 g T [.int .i64 win, vg', .int .i64 s.acked, .int .i64 s.packed, vt, vw]) (hw : w2.ownsRow base 9 1 vg' l.length (cstr l))
    (hkeep : ∀ b, b < w.heap.size → b ≠ g → vg.ownBlock ≠ some b → w2.heap[b]? = w.heap[b]?) (hnew : vg'.ownBlock = vg.ownBlock ∨ ∃ b, vg'.ownBlock = some b ∧ w.heap.size ≤ b) : LkV w2 base g T win { s with given := l } vg' vt vw := by
  refine ⟨hk, hw, ownsRow_of_block h.ot (fun q hq => hkeep q (own_lt h.ot hq).2 (h.gt q hq) (fun e => h.d1 q e hq)), ownsRow_of_block h.ow (fun q hq => hkeep q (own_lt h.ow hq).2 (h.gw q hq) (fun e => h.d2 q e hq)), fun b hb => ?_, h.gt, h.gw, fun b hb => ?_, fun b hb => ?_, h.d3, h.hb⟩
  · rcases hnew with e | ⟨c, e, hc⟩
    · exact h.gg b (by rw [← e]; exact hb)
    · rw [e] at hb; injection hb with hb; have := h.blk.lt; omega
  · rcases hnew with e | ⟨c, e, hc⟩
    · exact h.d1 b (by rw [← e]; exact hb)
    · intro hh; rw [e] at hb; injection hb with hb; have := (own_lt h.ot hh).2; omega
  · rcases hnew with e | ⟨c, e, hc⟩
    · exact h.d2 b (by rw [← e]; exact hb)
    · intro hh; rw [e] at hb; injection hb with hb; have := (own_lt h.ow hh).2; omega
theorem LkV.setTaken {w w2 : World} {base g : Nat} {T : TypeId} {win : Nat} {s : Lk} {vg vt vw vt' : Value} (h : LkV w base g T win s vg vt vw) (l : List ByteArray) (hk : Blk w2 g T [.int .i64 win, vg, .int .i64 s.acked, .int .i64 s.packed, vt', vw]) (hw : w2.ownsRow base 9 1 vt' l.length (cstr l))
    (hkeep : ∀ b, b < w.heap.size → b ≠ g → vt.ownBlock ≠ some b → w2.heap[b]? = w.heap[b]?) (hnew : vt'.ownBlock = vt.ownBlock ∨ ∃ b, vt'.ownBlock = some b ∧ w.heap.size ≤ b) : LkV w2 base g T win { s with taken := l } vg vt' vw := by
  refine ⟨hk, ownsRow_of_block h.og (fun q hq => hkeep q (own_lt h.og hq).2 (h.gg q hq) (h.d1 q hq)), hw, ownsRow_of_block h.ow (fun q hq => hkeep q (own_lt h.ow hq).2 (h.gw q hq) (fun e => h.d3 q e hq)), h.gg, fun b hb => ?_, h.gw, fun b hb => ?_, h.d2, fun b hb => ?_, h.hb⟩
  · rcases hnew with e | ⟨c, e, hc⟩
    · exact h.gt b (by rw [← e]; exact hb)
    · rw [e] at hb; injection hb with hb; have := h.blk.lt; omega
  · rcases hnew with e | ⟨c, e, hc⟩
    · rw [e]; exact h.d1 b hb
    · rw [e]; intro hh; injection hh with hh; have := (own_lt h.og hb).2; omega
  · rcases hnew with e | ⟨c, e, hc⟩
    · exact h.d3 b (by rw [← e]; exact hb)
    · intro hh; rw [e] at hb; injection hb with hb; have := (own_lt h.ow hh).2; omega
/-- Its numbers written anew. -/
theorem LkV.setInts {w w2 : World} {base g : Nat} {T : TypeId} {win : Nat} {s : Lk} {vg vt vw : Value} (h : LkV w base g T win s vg vt vw) (a p : Nat) (hk : Blk w2 g T [.int .i64 win, vg, .int .i64 a, .int .i64 p, vt, vw]) (hkeep : ∀ b, b < w.heap.size → b ≠ g → w2.heap[b]? = w.heap[b]?) :
    LkV w2 base g T win { s with acked := a, packed := p } vg vt vw :=
  ⟨hk, ownsRow_of_block h.og (fun q hq => hkeep q (own_lt h.og hq).2 (h.gg q hq)), ownsRow_of_block h.ot (fun q hq => hkeep q (own_lt h.ot hq).2 (h.gt q hq)), ownsRow_of_block h.ow (fun q hq => hkeep q (own_lt h.ow hq).2 (h.gw q hq)), h.gg, h.gt, h.gw, h.d1, h.d2, h.d3, h.hb⟩
theorem infoPkt : (Try.prog.info? 63).map (fun i => (i.zero, i.size, i.bytes)) = some (some (.agg #[.bool false, .string ⟨#[]⟩]), 2, 24) := by kernel_rfl
theorem infoStr : (Try.prog.info? 9).map (fun i => (i.zero, i.size, i.bytes)) = some (some (.string ⟨#[]⟩), 1, 16) := by kernel_rfl
theorem cells_at (g : Nat) (cs : List Value) (w : World) (T : TypeId) (hg : w.heap.size = g) : ∀ j u, cs[j]? = some u → (w.alloc (.cells cs.toArray T)).cell? ((⟨g, 0, none⟩ : Addr).add j) = some u := by
  intro j u h
  subst hg
  rw [add_plain]
  exact ((Blk.new w T cs).cell j).trans h
theorem grow_keep {w w2 : World} {row : Option Nat} {g : Nat} {j : Nat} {v : Value} (h : w.grownBy w2 row) : ∀ b, b < w.heap.size → b ≠ g → row ≠ some b → (w2.setCell ⟨g, j, none⟩ v).heap[b]? = w.heap[b]? :=
  fun b hb hg hr => (heap_far hg).trans (h.block b hb (fun e => hr e.symm))
theorem below_row {w w2 : World} {base : Nat} {row : Option Nat} (h : w.grownBy w2 row) (hb : base ≤ w.heap.size) (hr : ∀ k, row = some k → base ≤ k) : Below base w w2 := (Below.refl _ _).grown h hb hr
/-- append of one element, made for it, onto a row of the call's own. -/
theorem own_app {P : Program} {base E k bytes t : Nat} (i0 : TypeInfo) (z : Value) (ht : P.underlying t = some (.slice E)) (hi : P.info? E = some i0) (hz : i0.zero = some z) (hsize : i0.size = k) (hby : i0.bytes = bytes) (hzs : z.cells.size = k) (hsz : 0 < k)
    {w1 : World} {v : Value} {n : Nat} {xs : List Value} (own : w1.ownsRow base E k v n xs) (news : List Value) (hl : news.length = k) (h1 : ∀ u ∈ news, u.oneCell' = true) (h63 : n + 1 ≤ maxLen) (hb : (n + 1) * bytes ≤ 140737488355328) (hbase : base ≤ w1.heap.size) :
    ∃ w8 A cap, (Builtin.append_ #[t, t] t #[v, .slice (some ⟨w1.heap.size, 0, none⟩) 1 1]).run P (w1.alloc (.cells news.toArray E)) = .ok (.slice A (n + 1) cap) w8 ∧ w8.ownsRow base E k (.slice A (n + 1) cap) (n + 1) (xs ++ news) ∧ (∀ b, b < w1.heap.size → v.ownBlock ≠ some b → w8.heap[b]? = w1.heap[b]?) ∧ Below base w1 w8 ∧
      ((Value.slice A (n + 1) cap).ownBlock = v.ownBlock ∨ ∃ b, (Value.slice A (n + 1) cap).ownBlock = some b ∧ w1.heap.size ≤ b) ∧ w1.heap.size < w8.heap.size ∧ n + 1 ≤ cap := by
  obtain ⟨v8, w8, hrun, hown, hgr, -, hblk⟩ := run_append_own_at (P := P) (ty := t) (w := w1.alloc (.cells news.toArray E)) base t E i0 z k bytes ht hi hz hsize hby hzs hsz v n xs (own.alloc _) ⟨w1.heap.size, 0, none⟩ 1 1 news (by rw [hl, Nat.one_mul]) (cells_at w1.heap.size news w1 E rfl) h1 h63 hb (by simp; omega)
  obtain ⟨A, cap, rfl, hcap, -⟩ := own_shape hown
  have hs := hgr.size
  simp at hs
  refine ⟨w8, A, cap, hrun, hown, fun b hb hn => (hgr.block b (by simp; omega) (fun e => hn e.symm)).trans (Below.heap_alloc w1 _ b hb), ?_, ?_, by omega, hcap⟩
  · exact ((Below.refl _ _).alloc hbase _).trans (below_row hgr (by simp; omega) (fun q hq => (own_lt own hq).1))
  · exact hblk.imp id (fun e => ⟨_, e, by simp⟩)
end Go.Proofs.Ytlopbheahedofaa.Fn
