/- Rows that a call makes by append: of several values at once. Conditions: those of each theorem. -/
import Derived.Test.YtdldgchkinflmaaGrowR
set_option linter.unusedVariables false
namespace Go.Proofs.Ytdldgchkinflmaa.Lib
open Go Go.RowKit Go.Proofs.Ytdldgchkinflmaa.Plan

theorem flatten_length {k : Nat} : ∀ (css : List (List Value)), (∀ c ∈ css, c.length = k) → css.flatten.length = css.length * k
  | [], _ => by simp
  | c :: cs, h => by
    rw [List.flatten_cons, List.length_append, flatten_length cs (fun x hx => h x (List.mem_cons_of_mem _ hx)), h c (by simp), List.length_cons, Nat.add_mul]
    omega
theorem cells_len {α : Type} {R : Rec α} {tr : Prop} {w : World} {F : Nat → Nat → Prop} {ys : List α} {css : List (List Value)} (hl : css.length = ys.length) (hy : ∀ (j : Nat) (h : j < ys.length), ∃ cj, css[j]? = some cj ∧ R.rd tr w (F j) ys[j] cj) : ∀ c ∈ css, c.length = R.k := by
  intro c hc
  obtain ⟨i, hi, rfl⟩ := List.mem_iff_getElem.1 hc
  obtain ⟨ci, ei, ri⟩ := hy i (by omega)
  rw [List.getElem?_eq_getElem hi] at ei
  injection ei with ei
  rw [ei]
  exact R.len ri
/-- append of several values, from wherever they lie. -/
theorem run_growL {α : Type} {P : Program} {R : Rec α} {E : TypeId} {tr : Prop} {base top : Nat} (i : TypeInfo) (z : Value) (bytes : Nat) (t ty : TypeId) (ht : P.underlying t = some (.slice E)) (hi : P.info? E = some i) (hz : i.zero = some z) (hsize : i.size = R.k) (hby : i.bytes = bytes) (hzs : z.cells.size = R.k) (hsz : 0 < R.k)
    {w1 : World} {xs ys : List α} {v : Value} (hG : Grow R E tr base top w1 xs v) (hbase : base ≤ w1.heap.size) (ad : Addr) (c0 : Nat) (css : List (List Value)) (F : Nat → Nat → Prop) (hl : css.length = ys.length)
    (hy : ∀ (j : Nat) (h : j < ys.length), ∃ cj, css[j]? = some cj ∧ R.rd tr w1 (F j) ys[j] cj) (hF : ∀ j, j < ys.length → ∀ c, F j c → c < w1.heap.size ∧ v.ownBlock ≠ some c ∧ (tr → base ≤ c ∧ top ≤ c)) (hFd : tr → ∀ i j, i ≠ j → ∀ c, F i c → ¬ F j c)
    (hnews : ∀ j u, css.flatten[j]? = some u → w1.cell? (ad.add j) = some u) (h1 : ∀ u ∈ css.flatten, u.oneCell' = true) (hpos : 0 < ys.length) (h63 : xs.length + ys.length ≤ maxLen) (hbytes : (xs.length + ys.length) * bytes ≤ 140737488355328) :
    ∃ g cap w', (Builtin.append_ #[t, t] ty #[v, .slice (some ad) ys.length c0]).run P w1 = .ok (.slice (some ⟨g, 0, none⟩) (xs.length + ys.length) cap) w' ∧ Grow R E tr base w'.heap.size w' (xs ++ ys) (.slice (some ⟨g, 0, none⟩) (xs.length + ys.length) cap) ∧ Below base w1 w' ∧
      xs.length + ys.length ≤ cap ∧ base ≤ g ∧ w1.heap.size ≤ w'.heap.size := by
  obtain ⟨h0, cs, f, g1, g2, g3, g4, g5⟩ := hG
  have hcl := cells_len hl hy
  have hfl := flatten_length css hcl
  obtain ⟨v', w', hr, hown, hgr, hnil, hblk⟩ := run_append_own_at (P := P) (w := w1) base t ty E i z R.k bytes ht hi hz hsize hby hzs hsz v xs.length cs.flatten g1 ad ys.length c0 css.flatten (by rw [hfl, hl]) hnews h1 h63 hbytes hbase
  have hown2 : ∀ g, v.ownBlock = some g → base ≤ g ∧ g < w1.heap.size := fun g hg => own_lt g1 hg
  have hsz2 := hgr.size
  rcases hown.2 with ⟨rfl, hn⟩ | ⟨g, cap, cur, rfl, b1, b2, b3, b4⟩
  · omega
  have hgv : v.ownBlock = some g ∨ g = w1.heap.size := by
    rcases hblk with h | h
    · exact Or.inl h.symm
    · injection h with h; exact Or.inr h
  have hbel : Below base w1 w' := by
    refine ⟨hgr.os, hgr.tape, hgr.output, hgr.size, fun k hk => hgr.block k (by omega) (fun e => ?_)⟩
    have := hown2 k e.symm
    omega
  have hold : ∀ c, c < w1.heap.size → v.ownBlock ≠ some c → w'.heap[c]? = w1.heap[c]? := fun c hc hne => hgr.block c hc (fun e => hne e.symm)
  have hnew : ∀ c, c < w1.heap.size → v.ownBlock ≠ some c → (Value.slice (some ⟨g, 0, none⟩) (xs.length + ys.length) cap).ownBlock ≠ some c := by
    intro c hc hne e
    injection e with e
    rcases hgv with h | h
    · exact hne (by rw [h]; exact congrArg some e)
    · have : g = c := e
      omega
  have htop := h0.1
  refine ⟨g, cap, w', hr, ⟨⟨Nat.le_refl _, fun g' hg' => by injection hg' with hg'; have hg' : g = g' := hg'; subst hg'; exact (Array.getElem?_eq_some_iff.1 b2).1⟩, cs ++ css, fun j => if j < xs.length then f j else fun c => j - xs.length < ys.length ∧ F (j - xs.length) c, ?_, by rw [List.length_append, List.length_append, g2, hl], fun j c hc => ?_, fun t i j hij c hi hj => ?_, fun j hj => ?_⟩, hbel, b3, b1, hsz2⟩
  · rw [List.length_append, List.flatten_append]
    exact hown
  · dsimp only at hc
    split at hc
    · have := g3 j c hc
      exact ⟨by omega, hnew c (by omega) this.2.1, this.2.2⟩
    · have := hF _ hc.1 c hc.2
      exact ⟨by omega, hnew c this.1 this.2.1, fun t => (this.2.2 t).1⟩
  · dsimp only at hi hj
    split at hi <;> split at hj
    · exact g4 t i j hij c hi hj
    · have := (hF _ hj.1 c hj.2).2.2 t
      have := g3 i c hi
      omega
    · have := (hF _ hi.1 c hi.2).2.2 t
      have := g3 j c hj
      omega
    · exact hFd t _ _ (by omega) c hi.2 hj.2
  · by_cases e : j < xs.length
    · obtain ⟨cj, e1, r1⟩ := g5 j e
      refine ⟨cj, by rw [List.getElem?_append_left (by omega)]; exact e1, ?_⟩
      dsimp only
      rw [if_pos e, List.getElem_append_left e]
      exact R.frame r1 (fun b hb => by have := g3 j b hb; exact hold b (by omega) this.2.1) (fun _ h => h)
    · have hj2 : j - xs.length < ys.length := by rw [List.length_append] at hj; omega
      obtain ⟨cj, e1, r1⟩ := hy _ hj2
      refine ⟨cj, by rw [List.getElem?_append_right (by omega), g2]; exact e1, ?_⟩
      dsimp only
      rw [if_neg e, List.getElem_append_right (by omega)]
      exact R.frame r1 (fun b hb => by have := hF _ hj2 b hb; exact hold b this.1 this.2.1) (fun b hb => ⟨hj2, hb⟩)
theorem wpList_growL {α : Type} {P : Program} {ops : Array Oper} {rest : List Oper} {o : Oper} {a : Act} {Q : Exit → Act → World → Prop} (hgd : o.guard = none) (s x : Operand) (t : TypeId) (ho : o.op = .call { callee := .builtin .append, args := #[s, x], argTypes := #[t, t] })
    {R : Rec α} {E : TypeId} {tr : Prop} {base top : Nat} (i : TypeInfo) (z : Value) (bytes : Nat) (ht : P.underlying t = some (.slice E)) (hi : P.info? E = some i) (hz : i.zero = some z) (hsize : i.size = R.k) (hby : i.bytes = bytes) (hzs : z.cells.size = R.k) (hsz : 0 < R.k)
    {w1 : World} {xs ys : List α} {v : Value} (hs : a.eval s = v) (hG : Grow R E tr base top w1 xs v) (hbase : base ≤ w1.heap.size) (ad : Addr) (m c0 : Nat) (hm : ys.length = m) (hx : a.eval x = .slice (some ad) m c0) (css : List (List Value)) (F : Nat → Nat → Prop) (hl : css.length = ys.length)
    (hy : ∀ (j : Nat) (h : j < ys.length), ∃ cj, css[j]? = some cj ∧ R.rd tr w1 (F j) ys[j] cj) (hF : ∀ j, j < ys.length → ∀ c, F j c → c < w1.heap.size ∧ v.ownBlock ≠ some c ∧ (tr → base ≤ c ∧ top ≤ c)) (hFd : tr → ∀ i j, i ≠ j → ∀ c, F i c → ¬ F j c)
    (hnews : ∀ j u, css.flatten[j]? = some u → w1.cell? (ad.add j) = some u) (h1 : ∀ u ∈ css.flatten, u.oneCell' = true) (hpos : 0 < m) (n : Nat) (hn : xs.length = n) (zs : List α) (hzsq : xs ++ ys = zs) (h63 : n + m ≤ maxLen) (hbytes : (n + m) * bytes ≤ 140737488355328)
    (h : ∀ g cap w', Aside (Grow R E tr base w'.heap.size w' zs (.slice (some ⟨g, 0, none⟩) (n + m) cap)) → Below base w1 w' → n + m ≤ cap → base ≤ g → w1.heap.size ≤ w'.heap.size → wpList P ops Q rest (a.put o.dst (.slice (some ⟨g, 0, none⟩) (n + m) cap)) w') :
    wpList P ops Q (o :: rest) a w1 := by
  subst hn hzsq hm
  refine wpList_plain hgd fun K hK => ?_
  obtain ⟨g, cap, w', hr, h2, h3, h4, h5, h6⟩ := run_growL (P := P) i z bytes t o.type ht hi hz hsize hby hzs hsz hG hbase ad c0 css F hl hy hF hFd hnews h1 hpos h63 hbytes
  unfold Oper.wp execOp
  simp only [ho, resolve, invoke, builtin, Sem.run_bind, Sem.run_pure, Result.andThen_ok, List.map_toArray, List.map_cons, List.map_nil, hs, hx, hr]
  exact hK _ _ (h g cap w' ⟨h2⟩ h3 h4 h5 h6)
end Go.Proofs.Ytdldgchkinflmaa.Lib
