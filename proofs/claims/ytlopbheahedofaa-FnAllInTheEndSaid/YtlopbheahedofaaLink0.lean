/- A link as plain data: what an act does to it. Conditions: none. -/
import Derived.Test.YtlopbheahedofaaUnseal
import Derived.Test.YtlopbheahedofaaGLinkAct
set_option linter.unusedVariables false
namespace Go.Proofs.Ytlopbheahedofaa.Fn
open Go.RowKit Go.Proofs.Ytlopbheahedofaa.Lib Go.Proofs.Ytlopbheahedofaa.Plan

/-- A link. -/
structure Lk where
  given : List ByteArray
  acked : Nat
  packed : Nat
  taken : List ByteArray
  way : List (Bool × ByteArray)
def Lk.none : Lk := ⟨[], 0, 0, [], []⟩
def putK (p : Bool × ByteArray) (s : Lk) : Lk := if s.way.length < 100 then { s with way := s.way ++ [p] } else s
def packK (i : Nat) (s : Lk) : Lk := putK (false, sealed 1 i (s.given.getD i ⟨#[]⟩)) s
def packsK : Nat → Nat → Lk → Lk
  | _, 0, s => s
  | i, n + 1, s => packsK (i + 1) n (packK i s)
def tookK (p : Bool × ByteArray) (s : Lk) : Lk := if countOf p.2 = (s.taken.length : Int) then { s with taken := s.taken ++ [bodyOf p.2] } else s
noncomputable instance unsealDec (data : ByteArray) : Decidable (UnsealOK data) := Classical.propDecidable _
noncomputable def arrK (p : Bool × ByteArray) (s : Lk) : Lk :=
  if UnsealOK p.2 then
    if p.1 = false ∧ kindOf p.2 = 1 then putK (true, sealed 2 (tookK p s).taken.length ⟨#[]⟩) (tookK p s)
    else if p.1 = true ∧ kindOf p.2 = 2 ∧ countOf p.2 ≤ (s.packed : Int) then { s with acked := max s.acked (countOf p.2).toNat }
    else s
  else s
def stepK (s : Lk) : Lk := { packK s.packed s with packed := s.packed + 1 }
def fillK (win : Nat) : Nat → Lk → Lk
  | 0, s => s
  | f + 1, s => if s.packed < s.given.length ∧ s.packed < s.acked + win then fillK win f (stepK s) else s
/-- A byte of a text raised. -/
def spoilT (d : ByteArray) (k : Nat) (c : UInt8) : ByteArray := ⟨(d.data.set! k (d.data[k]! + c))⟩
def outK (i : Nat) (s : Lk) : Lk := { s with way := s.way.eraseIdx i }
def wayAt (i : Nat) (s : Lk) : Bool × ByteArray := s.way.getD i (false, ⟨#[]⟩)
noncomputable def actK (kind : Int) (n : Nat) (t : ByteArray) (s : Lk) : Lk :=
  if kind = 1 then { s with given := s.given ++ [t] }
  else if kind = 2 then packsK s.acked (s.packed - s.acked) s
  else if kind = 6 then
    if n % 100 < s.way.length then { s with way := s.way.set (n % 100) ((wayAt (n % 100) s).1, spoilT (wayAt (n % 100) s).2 (n / 100 % (wayAt (n % 100) s).2.size) (t.data[0]!)) } else s
  else if n < s.way.length then
    if kind = 5 then putK (wayAt n s) s
    else if kind = 3 then arrK (wayAt n s) (outK n s)
    else outK n s
  else s
noncomputable def turnK (win : Nat) (a : ALinkAct) (s : Lk) : Lk := fillK win ((actK a.1 a.2.1.toNat a.2.2 s).given.length - (actK a.1 a.2.1.toNat a.2.2 s).packed) (actK a.1 a.2.1.toNat a.2.2 s)
noncomputable def runK (win : Nat) (acts : List ALinkAct) : Lk := acts.foldl (fun s a => turnK win a s) Lk.none
def actB (a : ALinkAct) : Bool :=
  if a.1 = 1 then decide (a.2.1 = 0) && decide (a.2.2.size ≤ 1000)
  else if a.1 = 2 then decide (a.2.1 = 0) && decide (a.2.2.size = 0)
  else if a.1 = 3 ∨ a.1 = 4 ∨ a.1 = 5 then decide (0 ≤ a.2.1 ∧ a.2.1 ≤ 1000000000) && decide (a.2.2.size = 0)
  else if a.1 = 6 then decide (0 ≤ a.2.1 ∧ a.2.1 ≤ 1000000000) && decide (a.2.2.size = 1)
  else false
/-- What holds of a link behind k acts. -/
structure LkOK (k : Nat) (s : Lk) : Prop where
  given : s.given.length ≤ k
  taken : s.taken.length ≤ k
  acked : s.acked ≤ s.packed
  packed : s.packed ≤ s.given.length
  way : s.way.length ≤ 100
  texts : ∀ t ∈ s.given, t.size ≤ 1000
  data : ∀ p ∈ s.way, 0 < p.2.size ∧ p.2.size ≤ 1011
theorem LkOK.zero : LkOK 0 Lk.none := ⟨Nat.le_refl _, Nat.le_refl _, Nat.le_refl _, Nat.le_refl _, by decide, by simp [Lk.none], by simp [Lk.none]⟩
theorem LkOK.mono {k m : Nat} {s : Lk} (h : LkOK k s) (hk : k ≤ m) : LkOK m s := ⟨Nat.le_trans h.given hk, Nat.le_trans h.taken hk, h.acked, h.packed, h.way, h.texts, h.data⟩
theorem LkOK.put {k : Nat} {s : Lk} {p : Bool × ByteArray} (h : LkOK k s) (h0 : 0 < p.2.size) (h1 : p.2.size ≤ 1011) : LkOK k (putK p s) := by
  unfold putK
  split
  · refine ⟨h.given, h.taken, h.acked, h.packed, ?_, h.texts, ?_⟩
    · simp only [List.length_append, List.length_cons, List.length_nil]; omega
    · intro q hq
      rcases List.mem_append.1 hq with hq | hq
      · exact h.data q hq
      · simp at hq; subst hq; exact ⟨h0, h1⟩
  · exact h
theorem getD_size {l : List ByteArray} (h : ∀ t ∈ l, t.size ≤ 1000) (i : Nat) : (l.getD i ⟨#[]⟩).size ≤ 1000 := by
  by_cases hi : i < l.length
  · rw [List.getD_eq_getElem?_getD, List.getElem?_eq_getElem hi]
    exact h _ (List.getElem_mem hi)
  · rw [List.getD_eq_getElem?_getD, List.getElem?_eq_none (by omega)]
    decide
theorem LkOK.pack {k : Nat} {s : Lk} (h : LkOK k s) (i : Nat) : LkOK k (packK i s) := by
  have h1 := getD_size h.texts i
  refine h.put ?_ ?_
  · rw [sealed_size]; omega
  · rw [sealed_size]; omega
theorem packK_given (i : Nat) (s : Lk) : (packK i s).given = s.given ∧ (packK i s).acked = s.acked ∧ (packK i s).packed = s.packed ∧ (packK i s).taken = s.taken := by
  unfold packK putK
  split <;> exact ⟨rfl, rfl, rfl, rfl⟩
theorem LkOK.packs {k : Nat} : ∀ (n i : Nat) {s : Lk}, LkOK k s → LkOK k (packsK i n s)
  | 0, _, _, h => h
  | n + 1, i, _, h => LkOK.packs n (i + 1) (h.pack i)
theorem packsK_given : ∀ (n i : Nat) (s : Lk), (packsK i n s).given = s.given ∧ (packsK i n s).acked = s.acked ∧ (packsK i n s).packed = s.packed
  | 0, _, _ => ⟨rfl, rfl, rfl⟩
  | n + 1, i, s => by
    have h := packK_given i s
    have h2 := packsK_given n (i + 1) (packK i s)
    rw [h.1, h.2.1, h.2.2.1] at h2
    exact h2
theorem LkOK.step {k : Nat} {s : Lk} (h : LkOK k s) (hp : s.packed < s.given.length) : LkOK k (stepK s) := by
  have h1 := h.pack s.packed
  have h2 := packK_given s.packed s
  refine ⟨h1.given, h1.taken, ?_, ?_, h1.way, h1.texts, h1.data⟩
  · show (packK s.packed s).acked ≤ s.packed + 1
    rw [h2.2.1]; have := h.acked; omega
  · show s.packed + 1 ≤ (packK s.packed s).given.length
    rw [h2.1]; omega
theorem LkOK.fill {k win : Nat} : ∀ (f : Nat) {s : Lk}, LkOK k s → LkOK k (fillK win f s)
  | 0, _, h => h
  | f + 1, s, h => by
    unfold fillK
    split
    · rename_i hc
      exact LkOK.fill f (h.step hc.1)
    · exact h
theorem LkOK.out {k i : Nat} {s : Lk} (h : LkOK k s) : LkOK k (outK i s) := by
  refine ⟨h.given, h.taken, h.acked, h.packed, ?_, h.texts, fun p hp => h.data p (List.mem_of_mem_eraseIdx hp)⟩
  have := List.length_eraseIdx_le s.way i
  exact Nat.le_trans this h.way
theorem wayAt_mem {i : Nat} {s : Lk} (h : i < s.way.length) : wayAt i s ∈ s.way := by
  unfold wayAt
  rw [List.getD_eq_getElem?_getD, List.getElem?_eq_getElem h]
  exact List.getElem_mem h
theorem wayAt_eq {i : Nat} {s : Lk} (h : i < s.way.length) : wayAt i s = s.way[i] := by
  unfold wayAt
  rw [List.getD_eq_getElem?_getD, List.getElem?_eq_getElem h]
  rfl
theorem tookK_parts (p : Bool × ByteArray) (s : Lk) : (tookK p s).given = s.given ∧ (tookK p s).acked = s.acked ∧ (tookK p s).packed = s.packed ∧ (tookK p s).way = s.way ∧ (tookK p s).taken.length ≤ s.taken.length + 1 := by
  unfold tookK
  split
  · exact ⟨rfl, rfl, rfl, rfl, by simp⟩
  · exact ⟨rfl, rfl, rfl, rfl, by omega⟩
theorem LkOK.took {k : Nat} {s : Lk} (h : LkOK k s) (p : Bool × ByteArray) : LkOK (k + 1) (tookK p s) := by
  obtain ⟨h1, h2, h3, h4, h5⟩ := tookK_parts p s
  have ht := h.taken
  have hg := h.given
  exact ⟨by rw [h1]; omega, by omega, by rw [h2, h3]; exact h.acked, by rw [h1, h3]; exact h.packed, by rw [h4]; exact h.way, by rw [h1]; exact h.texts, by rw [h4]; exact h.data⟩
theorem LkOK.arr {k : Nat} {s : Lk} (h : LkOK k s) (p : Bool × ByteArray) : LkOK (k + 1) (arrK p s) := by
  unfold arrK
  split
  · rename_i hu
    split
    · exact (h.took p).put (by rw [sealed_size]; omega) (by rw [sealed_size]; decide)
    · split
      · rename_i hc
        refine ⟨Nat.le_succ_of_le h.given, Nat.le_succ_of_le h.taken, ?_, h.packed, h.way, h.texts, h.data⟩
        have := h.acked
        show max s.acked (countOf p.2).toNat ≤ s.packed
        omega
      · exact h.mono (Nat.le_succ _)
  · exact h.mono (Nat.le_succ _)
theorem spoilT_size (d : ByteArray) (k : Nat) (c : UInt8) : (spoilT d k c).size = d.size := by
  show (d.data.set! k _).size = d.data.size
  simp
theorem LkOK.act {k : Nat} {s : Lk} (h : LkOK k s) (a : ALinkAct) (ha : actB a = true) : LkOK (k + 1) (actK a.1 a.2.1.toNat a.2.2 s) := by
  unfold actK
  split
  · rename_i hk
    have ht : a.2.2.size ≤ 1000 := by
      unfold actB at ha
      rw [if_pos hk] at ha
      simp at ha
      exact ha.2
    refine ⟨?_, Nat.le_succ_of_le h.taken, h.acked, ?_, h.way, ?_, h.data⟩
    · show (s.given ++ [a.2.2]).length ≤ k + 1
      rw [List.length_append]
      have := h.given
      simp; omega
    · show s.packed ≤ (s.given ++ [a.2.2]).length
      rw [List.length_append]
      have := h.packed
      omega
    · intro t ht2
      rcases List.mem_append.1 ht2 with ht2 | ht2
      · exact h.texts t ht2
      · simp at ht2; subst ht2; exact ht
  · split
    · exact (h.packs _ _).mono (Nat.le_succ _)
    · split
      · split
        · rename_i hw
          refine ⟨Nat.le_succ_of_le h.given, Nat.le_succ_of_le h.taken, h.acked, h.packed, ?_, h.texts, ?_⟩
          · show (s.way.set _ _).length ≤ 100
            rw [List.length_set]; exact h.way
          · intro p hp
            rcases List.mem_or_eq_of_mem_set hp with hp | hp
            · exact h.data p hp
            · subst hp
              have := h.data _ (wayAt_mem hw)
              show 0 < (spoilT _ _ _).size ∧ (spoilT _ _ _).size ≤ 1011
              rw [spoilT_size]
              exact this
        · exact h.mono (Nat.le_succ _)
      · split
        · rename_i hw
          have hd := h.data _ (wayAt_mem hw)
          split
          · exact (h.put hd.1 hd.2).mono (Nat.le_succ _)
          · split
            · exact h.out.arr _
            · exact h.out.mono (Nat.le_succ _)
        · exact h.mono (Nat.le_succ _)
theorem LkOK.turn {k win : Nat} {s : Lk} (h : LkOK k s) (a : ALinkAct) (ha : actB a = true) : LkOK (k + 1) (turnK win a s) := (h.act a ha).fill _
end Go.Proofs.Ytlopbheahedofaa.Fn
