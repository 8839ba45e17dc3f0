/- Rows that a call makes by append: what they read as. Conditions: those of each theorem. -/
import Derived.Test.YtdldgchkinflmaaMark
import Derived.Maps.AppendAt
set_option linter.unusedVariables false
namespace Go.Proofs.Ytdldgchkinflmaa.Lib
open Go Go.RowKit Go.Proofs.Ytdldgchkinflmaa.Plan

/-- The value v is a row of the call's own that reads as xs; with 'tr', all of it in blocks from base on, come to by one way. -/
def Grow {α : Type} (R : Rec α) (E : TypeId) (tr : Prop) (base top : Nat) (wr : World) (xs : List α) (v : Value) : Prop :=
  (top ≤ wr.heap.size ∧ ∀ g, v.ownBlock = some g → g < top) ∧ ∃ (cs : List (List Value)) (f : Nat → Nat → Prop), wr.ownsRow base E R.k v xs.length cs.flatten ∧ cs.length = xs.length ∧
    (∀ j c, f j c → c < top ∧ v.ownBlock ≠ some c ∧ (tr → base ≤ c)) ∧ (tr → ∀ i j, i ≠ j → ∀ c, f i c → ¬ f j c) ∧ ∀ (j : Nat) (h : j < xs.length), ∃ cj, cs[j]? = some cj ∧ R.rd tr wr (f j) xs[j] cj
theorem Grow.nil {α : Type} {R : Rec α} {E : TypeId} {tr : Prop} {base top : Nat} {wr : World} (ht : top ≤ wr.heap.size) : Grow R E tr base top wr [] (.slice none 0 0) :=
  ⟨⟨ht, fun g h => by cases h⟩, [], fun _ _ => False, ⟨by simp, Or.inl ⟨rfl, rfl⟩⟩, rfl, fun _ _ h => h.elim, fun _ _ _ _ _ h => h.elim, fun j h => absurd h (Nat.not_lt_zero _)⟩
theorem Grow.empty {α : Type} {R : Rec α} {E : TypeId} {tr : Prop} {base g : Nat} {wr : World} (hb : base ≤ wr.heap.size) (hg : g = wr.heap.size) : Grow R E tr base (wr.heap.size + 1) (wr.alloc (.cells #[] E)) [] (.slice (some ⟨g, 0, none⟩) 0 0) := by
  subst hg
  exact
  ⟨⟨by simp, fun g h => by injection h with h; have h : wr.heap.size = g := h; omega⟩, [], fun _ _ => False, ⟨by simp, Or.inr ⟨wr.heap.size, 0, #[], rfl, hb, heap_alloc_new wr _, Nat.le_refl _, by unfold maxLen; omega, by simp, by simp⟩⟩, rfl, fun _ _ h => h.elim, fun _ _ _ _ _ h => h.elim, fun j h => absurd h (Nat.not_lt_zero _)⟩
theorem ownsRow_of_block {w w2 : World} {base E k n : Nat} {v : Value} {xs : List Value} (h : w.ownsRow base E k v n xs) (hb : ∀ g, v.ownBlock = some g → w2.heap[g]? = w.heap[g]?) : w2.ownsRow base E k v n xs := by
  refine ⟨h.1, h.2.imp id ?_⟩
  rintro ⟨g, cap, cur, rfl, h1, h2, h3⟩
  exact ⟨g, cap, cur, rfl, h1, (hb g rfl).trans h2, h3⟩
theorem own_lt {w : World} {base E k n g : Nat} {v : Value} {xs : List Value} (h : w.ownsRow base E k v n xs) (hg : v.ownBlock = some g) : base ≤ g ∧ g < w.heap.size := by
  rcases h.2 with ⟨rfl, _⟩ | ⟨g2, cap, cur, rfl, h1, h2, _⟩
  · cases hg
  · injection hg with e
    subst e
    exact ⟨h1, (Array.getElem?_eq_some_iff.1 h2).1⟩
theorem Grow.but {α : Type} {R : Rec α} {E : TypeId} {tr : Prop} {base top : Nat} {wr w2 : World} {xs : List α} {v : Value} {G : Nat → Prop} (h : Grow R E tr base top wr xs v) (hb : But G wr w2) (hG : ∀ c, G c → tr ∧ c < base) : Grow R E tr base top w2 xs v := by
  obtain ⟨h0, cs, f, h1, h2, h3, h4, h5⟩ := h
  refine ⟨⟨Nat.le_trans h0.1 hb.size, h0.2⟩, cs, f, ownsRow_of_block h1 (fun g hg => ?_), h2, h3, h4, fun j hj => ?_⟩
  · have := own_lt h1 hg
    exact hb.block g this.2 (fun hh => by have := (hG g hh).2; omega)
  · obtain ⟨cj, e, hr⟩ := h5 j hj
    exact ⟨cj, e, R.frame hr (fun b hb' => hb.block b (Nat.lt_of_lt_of_le (h3 j b hb').1 h0.1) (fun hh => by have h6 := hG b hh; have := (h3 j b hb').2.2 h6.1; omega)) (fun _ h => h)⟩
theorem Grow.top {α : Type} {R : Rec α} {E : TypeId} {tr : Prop} {base top : Nat} {wr : World} {xs : List α} {v : Value} (h : Grow R E tr base top wr xs v) : Grow R E tr base wr.heap.size wr xs v := by
  obtain ⟨h0, cs, f, h1, h2, h3, h45⟩ := h
  exact ⟨⟨Nat.le_refl _, fun g hg => (own_lt h1 hg).2⟩, cs, f, h1, h2, fun j c hc => ⟨Nat.lt_of_lt_of_le (h3 j c hc).1 h0.1, (h3 j c hc).2⟩, h45⟩
theorem Grow.below {α : Type} {R : Rec α} {E : TypeId} {tr : Prop} {base top : Nat} {wr w2 : World} {xs : List α} {v : Value} (h : Grow R E tr base top wr xs v) (hb : Below wr.heap.size wr w2) : Grow R E tr base top w2 xs v :=
  h.but (But.below (S := NoB) hb) (fun _ hc => hc.elim)
theorem flatten_getElem? {k : Nat} : ∀ (cs : List (List Value)) (hk : ∀ c ∈ cs, c.length = k) (j t : Nat) (cj : List Value), cs[j]? = some cj → t < k → cs.flatten[j * k + t]? = cj[t]?
  | [], _, j, _, _, h, _ => by simp at h
  | c :: cs, hk, 0, t, cj, h, ht => by
    simp only [List.getElem?_cons_zero, Option.some.injEq] at h
    subst h
    rw [List.flatten_cons, Nat.zero_mul, Nat.zero_add, List.getElem?_append_left (by rw [hk c (by simp)]; exact ht)]
  | c :: cs, hk, j + 1, t, cj, h, ht => by
    rw [List.getElem?_cons_succ] at h
    have hc := hk c (by simp)
    rw [List.flatten_cons, List.getElem?_append_right (by rw [hc, Nat.add_mul]; omega), hc, show (j + 1) * k + t - k = j * k + t by rw [Nat.add_mul]; omega]
    exact flatten_getElem? cs (fun c hc => hk c (by simp [hc])) j t cj h ht
/-- .. read as a slice. -/
theorem Grow.read {α : Type} {R : Rec α} {E : TypeId} {tr : Prop} {base top : Nat} {wr : World} {xs : List α} {v : Value} (h : Grow R E tr base top wr xs v) : R.sl.rd tr wr (fun c => c < wr.heap.size ∧ (tr → base ≤ c)) xs [v] := by
  obtain ⟨h0, cs, f, h1, h2, h3, h4, h5⟩ := h
  rcases h1.2 with ⟨rfl, hn⟩ | ⟨g, cap, cur, rfl, g1, g2, g3, g4, g5, g6⟩
  · have : xs = [] := List.eq_nil_of_length_eq_zero hn
    subst this
    exact ⟨none, 0, rfl, Nat.le_refl _, Or.inl rfl⟩
  · have hlt : g < wr.heap.size := (Array.getElem?_eq_some_iff.1 g2).1
    refine ⟨_, cap, rfl, g3, Or.inr ⟨g, 0, rfl, ⟨hlt, fun _ => g1⟩, f, fun j c hc => ⟨⟨Nat.lt_of_lt_of_le (h3 j c hc).1 h0.1, (h3 j c hc).2.2⟩, fun _ e => (h3 j c hc).2.1 (by subst e; rfl)⟩, fun t => ⟨fun o => ?_, h4 t⟩, fun j hj => ?_⟩⟩
    · simp [World.frozen?, g2]
    · obtain ⟨cj, e, hr⟩ := h5 j hj
      refine ⟨cj, hr, fun t ht => ?_⟩
      have hk : ∀ c ∈ cs, c.length = R.k := by
        intro c hc
        obtain ⟨i, hi, rfl⟩ := List.mem_iff_getElem.1 hc
        obtain ⟨ci, ei, ri⟩ := h5 i (by omega)
        rw [List.getElem?_eq_getElem hi] at ei
        injection ei with ei
        rw [ei]
        exact R.len ri
      have e2 := flatten_getElem? cs hk j t cj e ht
      rw [← e2, ← g6]
      have hjl : j * R.k + t < xs.length * R.k := by
        have : (j + 1) * R.k ≤ xs.length * R.k := Nat.mul_le_mul_right _ hj
        rw [Nat.add_mul] at this
        omega
      rw [List.getElem?_take, if_pos hjl]
      simp [World.cell?, g2]
theorem Grow.old {α : Type} {R : Rec α} {E : TypeId} {tr : Prop} {base top : Nat} {wr : World} {xs : List α} {v : Value} (h : Grow R E tr base top wr xs v) : R.sl.rd False wr (Old wr) xs [v] :=
  R.sl.weak (R.sl.mono h.read (fun _ h => h.1))
theorem Grow.span {α : Type} {R : Rec α} {E : TypeId} {base top : Nat} {wr : World} {xs : List α} {v : Value} (h : Grow R E True base top wr xs v) : R.sl.rd True wr (Span base wr.heap.size) xs [v] :=
  R.sl.mono h.read (fun _ h => ⟨h.2 trivial, h.1⟩)
theorem Grow.shape {α : Type} {R : Rec α} {E : TypeId} {tr : Prop} {base top : Nat} {wr : World} {xs : List α} {v : Value} (h : Grow R E tr base top wr xs v) : ∃ A cap, v = .slice A xs.length cap ∧ xs.length ≤ cap := by
  obtain ⟨_, cs, f, h1, _⟩ := h
  rcases h1.2 with ⟨rfl, hn⟩ | ⟨g, cap, cur, rfl, g1, g2, g3, _⟩
  · exact ⟨none, 0, by rw [hn], by omega⟩
  · exact ⟨_, cap, rfl, g3⟩
/-- append of one value, which lies in a block made for it. -/
theorem run_grow {α : Type} {P : Program} {R : Rec α} {E : TypeId} {tr : Prop} {base top : Nat} (i : TypeInfo) (z : Value) (bytes : Nat) (t ty : TypeId) (ht : P.underlying t = some (.slice E)) (hi : P.info? E = some i) (hz : i.zero = some z) (hsize : i.size = R.k) (hby : i.bytes = bytes) (hzs : z.cells.size = R.k) (hsz : 0 < R.k)
    {w0 : World} {xs : List α} {v : Value} (hG : Grow R E tr base top w0 xs v) (hbase : base ≤ w0.heap.size) (E2 : TypeId) (cells : List Value) {F : Nat → Prop} {y : α} (hy : R.rd tr w0 F y cells) (hF : ∀ c, F c → c < w0.heap.size ∧ v.ownBlock ≠ some c ∧ (tr → base ≤ c ∧ top ≤ c))
    (h1 : ∀ u ∈ cells, u.oneCell' = true) (h63 : xs.length + 1 ≤ maxLen) (hbytes : (xs.length + 1) * bytes ≤ 140737488355328) :
    ∃ g cap w', (Builtin.append_ #[t, t] ty #[v, .slice (some ⟨w0.heap.size, 0, none⟩) 1 1]).run P (w0.alloc (.cells cells.toArray E2)) = .ok (.slice (some ⟨g, 0, none⟩) (xs.length + 1) cap) w' ∧ Grow R E tr base w'.heap.size w' (xs ++ [y]) (.slice (some ⟨g, 0, none⟩) (xs.length + 1) cap) ∧ Below base w0 w' ∧ xs.length + 1 ≤ cap ∧ base ≤ g ∧ w0.heap.size < w'.heap.size := by
  have hG1 : Grow R E tr base top (w0.alloc (.cells cells.toArray E2)) xs v := hG.below ((Below.refl _ _).alloc (Nat.le_refl _) _)
  obtain ⟨h0, cs, f, g1, g2, g3, g4, g5⟩ := hG1
  have hcells : cells.length = R.k := R.len hy
  obtain ⟨v', w', hr, hown, hgr, hnil, hblk⟩ := run_append_own_at (P := P) (w := w0.alloc (.cells cells.toArray E2)) base t ty E i z R.k bytes ht hi hz hsize hby hzs hsz v xs.length cs.flatten g1 ⟨w0.heap.size, 0, none⟩ 1 1 cells (by rw [hcells, Nat.one_mul]) (fun j u hu => by
      rw [add_plain]
      exact ((Blk.new w0 E2 cells).cell j).trans hu) h1 h63 hbytes (by simp; omega)
  have hsz0 : (w0.alloc (.cells cells.toArray E2)).heap.size = w0.heap.size + 1 := by simp
  have hown2 : ∀ g, v.ownBlock = some g → base ≤ g ∧ g < w0.heap.size := fun g hg => own_lt hG.2.choose_spec.choose_spec.1 hg
  have hsz2 := hgr.size
  rw [hsz0] at hsz2 hblk
  rcases hown.2 with ⟨rfl, hn⟩ | ⟨g, cap, cur, rfl, b1, b2, b3, b4⟩
  · omega
  have hgv : v.ownBlock = some g ∨ g = w0.heap.size + 1 := by
    rcases hblk with h | h
    · exact Or.inl h.symm
    · injection h with h; exact Or.inr h
  have hbel : Below base w0 w' := by
    refine ((Below.refl _ _).alloc hbase (.cells cells.toArray E2)).trans ?_
    refine ⟨hgr.os, hgr.tape, hgr.output, hgr.size, fun k hk => hgr.block k (by rw [hsz0]; omega) (fun e => ?_)⟩
    have := hown2 k e.symm
    omega
  have hold : ∀ c, c < w0.heap.size → v.ownBlock ≠ some c → w'.heap[c]? = w0.heap[c]? := fun c hc hne =>
    (hgr.block c (by rw [hsz0]; omega) (fun e => hne e.symm)).trans (Below.heap_alloc w0 _ c hc)
  have hnew : ∀ c, c < w0.heap.size → v.ownBlock ≠ some c → (Value.slice (some ⟨g, 0, none⟩) (xs.length + 1) cap).ownBlock ≠ some c := by
    intro c hc hne e
    injection e with e
    rcases hgv with h | h
    · exact hne (by rw [h]; exact congrArg some e)
    · have : g = c := e
      omega
  have htop : top ≤ w0.heap.size := hG.1.1
  refine ⟨g, cap, w', hr, ⟨⟨Nat.le_refl _, fun g' hg' => by injection hg' with hg'; have hg' : g = g' := hg'; subst hg'; exact (Array.getElem?_eq_some_iff.1 b2).1⟩, cs ++ [cells], fun j => if j = xs.length then F else fun c => j < xs.length ∧ f j c, ?_, by rw [List.length_append, List.length_append, g2]; rfl, fun j c hc => ?_, fun t i j hij c hi hj => ?_, fun j hj => ?_⟩, hbel, b3, b1, by omega⟩
  · rw [List.length_append, List.flatten_append]
    simpa using hown
  · dsimp only at hc
    split at hc
    · have := hF c hc
      exact ⟨by omega, hnew c this.1 this.2.1, fun t => (this.2.2 t).1⟩
    · have := g3 j c hc.2
      exact ⟨by omega, hnew c (by omega) this.2.1, this.2.2⟩
  · dsimp only at hi hj
    split at hi <;> split at hj
    · omega
    · have := (hF c hi).2.2 t
      have := g3 j c hj.2
      omega
    · have := (hF c hj).2.2 t
      have := g3 i c hi.2
      omega
    · exact g4 t i j hij c hi.2 hj.2
  · by_cases e : j = xs.length
    · subst e
      refine ⟨cells, by rw [List.getElem?_append_right (by omega), g2, Nat.sub_self]; rfl, ?_⟩
      dsimp only
      rw [if_pos rfl, List.getElem_append_right (Nat.le_refl _)]
      have : R.rd tr w' F y cells := R.frame hy (fun b hb => hold b (hF b hb).1 (hF b hb).2.1) (fun _ h => h)
      simpa using this
    · have hj2 : j < xs.length := by rw [List.length_append] at hj; simp at hj; omega
      obtain ⟨_, cs0, f0, k1, k2, k3, k4, k5⟩ := hG
      obtain ⟨cj, e1, r1⟩ := g5 j hj2
      refine ⟨cj, by rw [List.getElem?_append_left (by omega)]; exact e1, ?_⟩
      dsimp only
      rw [if_neg e, List.getElem_append_left hj2]
      refine R.frame r1 (fun b hb => ?_) (fun b hb => ⟨hj2, hb⟩)
      have := g3 j b hb
      exact hgr.block b (by rw [hsz0]; omega) (fun e => this.2.1 e.symm)
theorem wpList_grow {α : Type} {P : Program} {ops : Array Oper} {rest : List Oper} {o : Oper} {a : Act} {Q : Exit → Act → World → Prop} (hgd : o.guard = none) (s x : Operand) (t : TypeId) (ho : o.op = .call { callee := .builtin .append, args := #[s, x], argTypes := #[t, t] })
    {R : Rec α} {E : TypeId} {tr : Prop} {base top : Nat} (i : TypeInfo) (z : Value) (bytes : Nat) (ht : P.underlying t = some (.slice E)) (hi : P.info? E = some i) (hz : i.zero = some z) (hsize : i.size = R.k) (hby : i.bytes = bytes) (hzs : z.cells.size = R.k) (hsz : 0 < R.k)
    {w0 : World} {xs : List α} {v : Value} (hs : a.eval s = v) (hG : Grow R E tr base top w0 xs v) (hbase : base ≤ w0.heap.size) (E2 : TypeId) (cells : List Value) (hx : a.eval x = .slice (some ⟨w0.heap.size, 0, none⟩) 1 1) {F : Nat → Prop} {y : α} (hy : R.rd tr w0 F y cells)
    (hF : ∀ c, F c → c < w0.heap.size ∧ v.ownBlock ≠ some c ∧ (tr → base ≤ c ∧ top ≤ c)) (n : Nat) (hn : xs.length = n) (ys : List α) (hys : xs ++ [y] = ys) (h1 : ∀ u ∈ cells, u.oneCell' = true) (h63 : n + 1 ≤ maxLen) (hbytes : (n + 1) * bytes ≤ 140737488355328)
    (h : ∀ g cap w', Aside (Grow R E tr base w'.heap.size w' ys (.slice (some ⟨g, 0, none⟩) (n + 1) cap)) → Below base w0 w' → n + 1 ≤ cap → base ≤ g → w0.heap.size < w'.heap.size → wpList P ops Q rest (a.put o.dst (.slice (some ⟨g, 0, none⟩) (n + 1) cap)) w') :
    wpList P ops Q (o :: rest) a (w0.alloc (.cells cells.toArray E2)) := by
  subst hn hys
  refine wpList_plain hgd fun K hK => ?_
  obtain ⟨g, cap, w', hr, h2, h3, h4, h5, h6⟩ := run_grow (P := P) i z bytes t o.type ht hi hz hsize hby hzs hsz hG hbase E2 cells hy hF h1 h63 hbytes
  unfold Oper.wp execOp
  simp only [ho, resolve, invoke, builtin, Sem.run_bind, Sem.run_pure, Result.andThen_ok, List.map_toArray, List.map_cons, List.map_nil, hs, hx, hr]
  exact hK _ _ (h g cap w' ⟨h2⟩ h3 h4 h5 h6)
end Go.Proofs.Ytdldgchkinflmaa.Lib
