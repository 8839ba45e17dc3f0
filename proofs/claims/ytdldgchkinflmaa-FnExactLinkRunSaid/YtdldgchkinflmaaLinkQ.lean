/- A link keeps its word: what is taken is the first of what was given. Conditions: those of each theorem. -/
import Derived.Test.YtdldgchkinflmaaLinkP
set_option linter.unusedVariables false
namespace Go.Proofs.Ytdldgchkinflmaa.Fn
open Go Go.RowKit Go.Proofs.Ytdldgchkinflmaa.Lib Go.Proofs.Ytdldgchkinflmaa.Plan

/-- A packet that was put on the way by one of the two ends. -/
def GoodP (s : Lk) (p : Bool × ByteArray) : Prop :=
  (p.1 = false ∧ ∃ i : Nat, i < s.packed ∧ p.2 = sealed 1 i (s.given.getD i ⟨#[]⟩)) ∨ (p.1 = true ∧ ∃ n : Nat, n ≤ s.taken.length ∧ p.2 = sealed 2 n ⟨#[]⟩)
structure LkGood (win : Nat) (bad : Prop) (s : Lk) : Prop where
  t1 : s.taken.length ≤ s.packed
  t2 : ∀ i, i < s.taken.length → s.taken[i]? = s.given[i]?
  a1 : s.acked ≤ s.taken.length
  p1 : s.packed ≤ s.acked + win
  p2 : s.packed ≤ s.given.length
  w : ∀ p ∈ s.way, GoodP s p ∨ (bad ∧ ¬ UnsealOK p.2)
theorem GoodP.to {s s' : Lk} {p : Bool × ByteArray} (h : GoodP s p) (hp : s.packed ≤ s'.packed) (ht : s.taken.length ≤ s'.taken.length) (hg : ∀ i, i < s.packed → s'.given.getD i ⟨#[]⟩ = s.given.getD i ⟨#[]⟩) : GoodP s' p := by
  rcases h with ⟨h1, i, hi, h2⟩ | ⟨h1, n, hn, h2⟩
  · exact .inl ⟨h1, i, by omega, by rw [h2, hg i hi]⟩
  · exact .inr ⟨h1, n, by omega, h2⟩
theorem LkGood.none (win : Nat) : LkGood win False Lk.none := ⟨Nat.le_refl _, fun i h => absurd h (Nat.not_lt_zero _), Nat.le_refl _, Nat.zero_le _, Nat.le_refl _, by simp [Lk.none]⟩
theorem LkGood.imp {win : Nat} {b c : Prop} {s : Lk} (h : LkGood win b s) (hbc : b → c) : LkGood win c s := ⟨h.t1, h.t2, h.a1, h.p1, h.p2, fun p hp => (h.w p hp).imp id (fun x => ⟨hbc x.1, x.2⟩)⟩
/-- What stands still but for the way. -/
structure SameBut (s s' : Lk) : Prop where
  g : s'.given = s.given
  a : s'.acked = s.acked
  p : s'.packed = s.packed
  t : s'.taken = s.taken
theorem GoodP.same {s s' : Lk} {p : Bool × ByteArray} (e : SameBut s s') (h : GoodP s p) : GoodP s' p :=
  h.to (by rw [e.p]; omega) (by rw [e.t]; omega) (fun i _ => by rw [e.g])
theorem LkGood.same {win : Nat} {b : Prop} {s s' : Lk} (h : LkGood win b s) (e : SameBut s s') (hw : ∀ p ∈ s'.way, p ∈ s.way ∨ GoodP s p ∨ (b ∧ ¬ UnsealOK p.2)) : LkGood win b s' := by
  refine ⟨by rw [e.t, e.p]; exact h.t1, by rw [e.t, e.g]; exact h.t2, by rw [e.a, e.t]; exact h.a1, by rw [e.a, e.p]; exact h.p1, by rw [e.g, e.p]; exact h.p2, fun p hp => ?_⟩
  have h1 : GoodP s p ∨ (b ∧ ¬ UnsealOK p.2) := (hw p hp).elim (fun x => h.w p x) id
  exact h1.imp (GoodP.same e) id
theorem putK_same (p : Bool × ByteArray) (s : Lk) : SameBut s (putK p s) := by
  unfold putK
  split <;> exact ⟨rfl, rfl, rfl, rfl⟩
theorem putK_way {p q : Bool × ByteArray} {s : Lk} (h : q ∈ (putK p s).way) : q ∈ s.way ∨ q = p := by
  unfold putK at h
  split at h
  · rcases List.mem_append.1 h with h | h
    · exact .inl h
    · simp at h; exact .inr h
  · exact .inl h
theorem LkGood.put {win : Nat} {b : Prop} {s : Lk} {p : Bool × ByteArray} (h : LkGood win b s) (hp : GoodP s p ∨ (b ∧ ¬ UnsealOK p.2)) : LkGood win b (putK p s) :=
  h.same (putK_same p s) (fun q hq => (putK_way hq).imp id (fun e => by subst e; exact hp))
theorem LkGood.pack {win : Nat} {b : Prop} {s : Lk} (h : LkGood win b s) (i : Nat) (hi : i < s.packed) : LkGood win b (packK i s) := h.put (.inl (.inl ⟨rfl, i, hi, rfl⟩))
theorem packK_same (i : Nat) (s : Lk) : SameBut s (packK i s) := putK_same _ s
theorem LkGood.packs {win : Nat} {b : Prop} : ∀ (n i : Nat) {s : Lk}, LkGood win b s → i + n ≤ s.packed → LkGood win b (packsK i n s)
  | 0, _, _, h, _ => h
  | n + 1, i, s, h, hi => LkGood.packs n (i + 1) (h.pack i (by omega)) (by rw [(packK_same i s).p]; omega)
theorem LkGood.step {win : Nat} {b : Prop} {s : Lk} (h : LkGood win b s) (h1 : s.packed < s.given.length) (h2 : s.packed < s.acked + win) : LkGood win b (stepK s) := by
  have e := packK_same s.packed s
  refine ⟨?_, ?_, ?_, ?_, ?_, ?_⟩
  · show (packK s.packed s).taken.length ≤ s.packed + 1
    rw [e.t]; have := h.t1; omega
  · show ∀ i, i < (packK s.packed s).taken.length → (packK s.packed s).taken[i]? = (packK s.packed s).given[i]?
    rw [e.t, e.g]; exact h.t2
  · show (packK s.packed s).acked ≤ (packK s.packed s).taken.length
    rw [e.t, e.a]; exact h.a1
  · show s.packed + 1 ≤ (packK s.packed s).acked + win
    rw [e.a]; omega
  · show s.packed + 1 ≤ (packK s.packed s).given.length
    rw [e.g]; omega
  · intro p hp
    have hp2 : p ∈ (packK s.packed s).way := hp
    have up : ∀ {q : Bool × ByteArray}, GoodP s q → GoodP (stepK s) q := fun hq => hq.to (by show s.packed ≤ s.packed + 1; omega) (by show _ ≤ (packK s.packed s).taken.length; rw [e.t]; omega) (fun i _ => by show (packK s.packed s).given.getD i _ = _; rw [e.g])
    rcases putK_way hp2 with hq | rfl
    · exact (h.w p hq).imp up id
    · refine .inl (.inl ⟨rfl, s.packed, ?_, ?_⟩)
      · show s.packed < s.packed + 1; omega
      · show _ = sealed 1 s.packed ((packK s.packed s).given.getD s.packed ⟨#[]⟩)
        rw [e.g]
theorem LkGood.fill {win : Nat} {b : Prop} : ∀ (f : Nat) {s : Lk}, LkGood win b s → LkGood win b (fillK win f s)
  | 0, _, h => h
  | f + 1, s, h => by
    unfold fillK
    split
    · rename_i hc
      exact LkGood.fill f (h.step hc.1 hc.2)
    · exact h
theorem LkGood.out {win : Nat} {b : Prop} {s : Lk} (h : LkGood win b s) (i : Nat) : LkGood win b (outK i s) := h.same ⟨rfl, rfl, rfl, rfl⟩ (fun p hp => .inl (List.mem_of_mem_eraseIdx hp))
theorem LkGood.arr {win : Nat} {b : Prop} {s : Lk} {p : Bool × ByteArray} (h : LkGood win b s) (hp : GoodP s p ∨ (b ∧ ¬ UnsealOK p.2)) (hl : s.given.length ≤ 1000000) : LkGood win b (arrK p s) := by
  unfold arrK
  split
  rotate_left
  · exact h
  rename_i hu
  rcases hp with hp | ⟨-, hp⟩
  rotate_left
  · exact absurd hu hp
  rcases hp with ⟨h1, i, hi, h2⟩ | ⟨h1, n, hn, h2⟩
  · have hp2 := h.p2
    have hk : kindOf p.2 = 1 := by rw [h2]; exact sealed_kind (by omega) (by omega)
    have hc : countOf p.2 = (i : Int) := by rw [h2]; exact sealed_count (by omega) (by omega)
    have hb : bodyOf p.2 = s.given.getD i ⟨#[]⟩ := by rw [h2]; exact sealed_body
    rw [if_pos ⟨h1, hk⟩]
    have ht : LkGood win b (tookK p s) := by
      unfold tookK
      split
      · rename_i hci
        rw [hc] at hci
        have hii : i = s.taken.length := by omega
        have hsome : s.given[i]? = some (s.given.getD i ⟨#[]⟩) := by rw [List.getElem?_eq_getElem (by omega), List.getD_eq_getElem?_getD, List.getElem?_eq_getElem (by omega)]; rfl
        refine ⟨?_, ?_, ?_, h.p1, h.p2, ?_⟩
        · show (s.taken ++ [bodyOf p.2]).length ≤ s.packed
          rw [List.length_append, List.length_cons, List.length_nil]; omega
        · intro j hj
          have hj2 : j < (s.taken ++ [bodyOf p.2]).length := hj
          rw [List.length_append, List.length_cons, List.length_nil] at hj2
          show (s.taken ++ [bodyOf p.2])[j]? = s.given[j]?
          by_cases hjl : j < s.taken.length
          · rw [List.getElem?_append_left hjl]; exact h.t2 j hjl
          · have hji : j = i := by omega
            subst hji
            rw [List.getElem?_append_right (by omega), hsome, hb, show j - s.taken.length = 0 by omega]
            rfl
        · show s.acked ≤ (s.taken ++ [bodyOf p.2]).length
          rw [List.length_append]; have := h.a1; omega
        · intro q hq
          exact (h.w q hq).imp (fun hg => hg.to (Nat.le_refl _) (by show s.taken.length ≤ (s.taken ++ [bodyOf p.2]).length; rw [List.length_append]; omega) (fun _ _ => rfl)) id
      · exact h
    exact ht.put (.inl (.inr ⟨rfl, _, Nat.le_refl _, rfl⟩))
  · have ht1 := h.t1
    have hp2 := h.p2
    have hk : kindOf p.2 = 2 := by rw [h2]; exact sealed_kind (by omega) (by omega)
    have hc : countOf p.2 = (n : Int) := by rw [h2]; exact sealed_count (by omega) (by omega)
    rw [if_neg (fun x => by rw [h1] at x; exact absurd x.1 (by decide))]
    split
    · refine ⟨h.t1, h.t2, ?_, ?_, h.p2, fun q hq => (h.w q hq).imp (fun hg => hg.to (Nat.le_refl _) (Nat.le_refl _) (fun _ _ => rfl)) id⟩
      · show max s.acked (countOf p.2).toNat ≤ s.taken.length
        rw [hc]; have := h.a1; omega
      · show s.packed ≤ max s.acked (countOf p.2).toNat + win
        rw [hc]; have := h.p1; omega
    · exact h
theorem GoodP.hashed {s : Lk} {p : Bool × ByteArray} (h : GoodP s p) : Hashed p.2.data.toList := by
  rcases h with ⟨-, i, -, h2⟩ | ⟨-, n, -, h2⟩ <;> (rw [h2]; exact sealed_hashed _ _ _)
theorem GoodP.size {s : Lk} {p : Bool × ByteArray} (h : GoodP s p) : 0 < p.2.size := by
  rcases h with ⟨-, i, -, h2⟩ | ⟨-, n, -, h2⟩ <;> (rw [h2, sealed_size]; omega)
theorem LkGood.spoil {win : Nat} {s : Lk} (h : LkGood win False s) (i n : Nat) (c : UInt8) (hi : i < s.way.length) :
    LkGood win True { s with way := s.way.set i ((wayAt i s).1, spoilT (wayAt i s).2 (n % (wayAt i s).2.size) c) } := by
  refine (h.imp (fun x => x.elim)).same ⟨rfl, rfl, rfl, rfl⟩ (fun p hp => ?_)
  rcases List.mem_or_eq_of_mem_set hp with hp | rfl
  · exact .inl hp
  · have hg : GoodP s (wayAt i s) := (h.w _ (wayAt_mem hi)).elim id (fun x => x.1.elim)
    right
    by_cases hu : UnsealOK (spoilT (wayAt i s).2 (n % (wayAt i s).2.size) c)
    · left
      have e := spoil_bad hg.hashed _ c (Nat.mod_lt _ hg.size) hu
      rw [e]
      exact hg
    · exact .inr ⟨trivial, hu⟩
theorem LkGood.act {win : Nat} {b : Prop} {s : Lk} (h : LkGood win b s) (a : ALinkAct) (ha : actB a = true) (hl : s.given.length ≤ 1000000) (hb : a.1 = 6 → ¬ b) : LkGood win (b ∨ a.1 = 6) (actK a.1 a.2.1.toNat a.2.2 s) := by
  have h' : LkGood win (b ∨ a.1 = 6) s := h.imp .inl
  unfold actK
  split
  · refine ⟨h.t1, ?_, h.a1, h.p1, ?_, fun q hq => (h'.w q hq).imp (fun hg => hg.to (Nat.le_refl _) (Nat.le_refl _) (fun i hi => ?_)) id⟩
    · intro i hi
      have hi2 : i < s.taken.length := hi
      have := h.t1
      have := h.p2
      show s.taken[i]? = (s.given ++ [a.2.2])[i]?
      rw [List.getElem?_append_left (by omega)]
      exact h.t2 i hi2
    · show s.packed ≤ (s.given ++ [a.2.2]).length
      rw [List.length_append]; have := h.p2; omega
    · have := h.p2
      show (s.given ++ [a.2.2]).getD i _ = _
      rw [List.getD_eq_getElem?_getD, List.getElem?_append_left (by omega), ← List.getD_eq_getElem?_getD]
  · split
    · have := h.t1
      have := h.a1
      exact h'.packs _ _ (by omega)
    · split
      · rename_i h6
        split
        · rename_i hw
          have hf : LkGood win False s := h.imp (hb h6)
          exact (hf.spoil _ _ _ hw).imp (fun _ => .inr h6)
        · exact h'
      · split
        · rename_i hw
          have hp := h'.w _ (wayAt_mem hw)
          split
          · exact h'.put hp
          · split
            · refine (h'.out _).arr ?_ hl
              exact hp.imp (GoodP.same ⟨rfl, rfl, rfl, rfl⟩) id
            · exact h'.out _
        · exact h'
theorem LkGood.turn {win : Nat} {b : Prop} {s : Lk} (h : LkGood win b s) (a : ALinkAct) (ha : actB a = true) (hl : s.given.length ≤ 1000000) (hb : a.1 = 6 → ¬ b) : LkGood win (b ∨ a.1 = 6) (turnK win a s) := (h.act a ha hl hb).fill _
/-- What is given by acts; how many of them spoil. -/
def givenOf (acts : List ALinkAct) : List ByteArray := (acts.filter (fun a => a.1 = 1)).map (fun a => a.2.2)
def spoilt (acts : List ALinkAct) : Nat := (acts.filter (fun a => a.1 = 6)).length
theorem fillK_given {win : Nat} : ∀ (f : Nat) (s : Lk), (fillK win f s).given = s.given
  | 0, _ => rfl
  | f + 1, s => by
    unfold fillK
    split
    · rw [fillK_given f]; exact (packK_same s.packed s).g
    · rfl
theorem tookK_given (p : Bool × ByteArray) (s : Lk) : (tookK p s).given = s.given := (tookK_parts p s).1
theorem arrK_given (p : Bool × ByteArray) (s : Lk) : (arrK p s).given = s.given := by
  unfold arrK
  split
  · split
    · rw [(putK_same _ _).g, tookK_given]
    · split <;> rfl
  · rfl
theorem turnK_given {win : Nat} (a : ALinkAct) (s : Lk) : (turnK win a s).given = s.given ++ (if a.1 = 1 then [a.2.2] else []) := by
  unfold turnK
  rw [fillK_given]
  unfold actK
  split
  · rfl
  · rw [List.append_nil]
    split
    · exact (packsK_given _ _ s).1
    · split
      · split <;> rfl
      · split
        · split
          · exact (putK_same _ s).g
          · split
            · rw [arrK_given]; rfl
            · rfl
        · rfl
theorem givenOf_snoc (l : List ALinkAct) (a : ALinkAct) : givenOf (l ++ [a]) = givenOf l ++ (if a.1 = 1 then [a.2.2] else []) := by
  unfold givenOf
  rw [List.filter_append, List.map_append]
  congr 1
  by_cases h : a.1 = 1 <;> simp [h]
theorem spoilt_snoc (l : List ALinkAct) (a : ALinkAct) : spoilt (l ++ [a]) = spoilt l + (if a.1 = 6 then 1 else 0) := by
  unfold spoilt
  rw [List.filter_append, List.length_append]
  congr 1
  by_cases h : a.1 = 6 <;> simp [h]
theorem runK_append (win : Nat) (l : List ALinkAct) (a : ALinkAct) : runK win (l ++ [a]) = turnK win a (runK win l) := by
  unfold runK
  rw [List.foldl_append]
  rfl
theorem runK_given (win : Nat) (acts : List ALinkAct) : (runK win acts).given = givenOf acts := by
  suffices h : ∀ l : List ALinkAct, (runK win l.reverse).given = givenOf l.reverse by
    have := h acts.reverse
    rwa [List.reverse_reverse] at this
  intro l
  induction l with
  | nil => rfl
  | cons a l ih => rw [List.reverse_cons, runK_append, turnK_given, ih, givenOf_snoc]
theorem givenOf_len (acts : List ALinkAct) : (givenOf acts).length ≤ acts.length := by
  unfold givenOf
  rw [List.length_map]
  exact List.length_filter_le _ _
theorem runK_good (win : Nat) (acts : List ALinkAct) (ha : ∀ a ∈ acts, actB a = true) (hl : acts.length ≤ 1000000) (hs : spoilt acts ≤ 1) : LkGood win (1 ≤ spoilt acts) (runK win acts) := by
  suffices h : ∀ l : List ALinkAct, (∀ a ∈ l, actB a = true) → l.length ≤ 1000000 → spoilt l.reverse ≤ 1 → LkGood win (1 ≤ spoilt l.reverse) (runK win l.reverse) by
    have := h acts.reverse (fun a h => ha a (List.mem_reverse.1 h)) (by rw [List.length_reverse]; exact hl)
    rw [List.reverse_reverse] at this
    exact this hs
  intro l
  induction l with
  | nil => intro _ _ _; exact (LkGood.none win).imp (fun x => x.elim)
  | cons a l ih =>
    intro ha hl hs
    rw [List.reverse_cons] at hs ⊢
    rw [spoilt_snoc] at hs ⊢
    rw [runK_append]
    rw [List.length_cons] at hl
    have h1 := ih (fun x hx => ha x (List.mem_cons_of_mem _ hx)) (by omega) (by omega)
    have hg : (runK win l.reverse).given.length ≤ 1000000 := by
      rw [runK_given]
      have := givenOf_len l.reverse
      rw [List.length_reverse] at this
      omega
    refine (h1.turn a (ha a (List.mem_cons_self ..)) hg ?_).imp ?_
    · intro h6 hb
      rw [if_pos h6] at hs
      omega
    · rintro (h | h)
      · omega
      · rw [if_pos h]; omega
end Go.Proofs.Ytdldgchkinflmaa.Fn
