/- The answer of a link's run is small. Conditions: those of each theorem. -/
import Derived.Test.YtdldgchkinflmaaLinkQ
import Derived.Test.YtdldgchkinflmaaLinkI
set_option linter.unusedVariables false
namespace Go.Proofs.Ytdldgchkinflmaa.Fn
open Go Go.RowKit Go.Proofs.Ytdldgchkinflmaa.Lib Go.Proofs.Ytdldgchkinflmaa.Plan

def TkOK (s : Lk) : Prop := ∀ t ∈ s.taken, t.size ≤ 1011
theorem TkOK.of {s s' : Lk} (h : TkOK s) (e : s'.taken = s.taken) : TkOK s' := by unfold TkOK; rw [e]; exact h
theorem packsK_taken : ∀ (n i : Nat) (s : Lk), (packsK i n s).taken = s.taken
  | 0, _, _ => rfl
  | n + 1, i, s => (packsK_taken n (i + 1) (packK i s)).trans (packK_same i s).t
theorem fillK_taken {win : Nat} : ∀ (f : Nat) (s : Lk), (fillK win f s).taken = s.taken
  | 0, _ => rfl
  | f + 1, s => by
    unfold fillK
    split
    · rw [fillK_taken f]; exact (packK_same s.packed s).t
    · rfl
theorem bodyOf_size (d : ByteArray) : (bodyOf d).size ≤ d.size := by
  unfold bodyOf
  rw [ByteArray.size_extract]
  omega
theorem TkOK.took {s : Lk} {p : Bool × ByteArray} (h : TkOK s) (hp : p.2.size ≤ 1011) : TkOK (tookK p s) := by
  unfold tookK
  split
  · intro t ht
    rcases List.mem_append.1 ht with ht | ht
    · exact h t ht
    · simp at ht
      subst ht
      exact Nat.le_trans (bodyOf_size _) hp
  · exact h
theorem TkOK.arr {s : Lk} {p : Bool × ByteArray} (h : TkOK s) (hp : p.2.size ≤ 1011) : TkOK (arrK p s) := by
  unfold arrK
  split
  · split
    · exact (h.took hp).of (putK_same _ _).t
    · split
      · exact h
      · exact h
  · exact h
theorem TkOK.turn {k win : Nat} {s : Lk} (h : TkOK s) (ok : LkOK k s) (a : ALinkAct) : TkOK (turnK win a s) := by
  unfold turnK
  refine TkOK.of ?_ (fillK_taken _ _)
  unfold actK
  split
  · exact h
  · split
    · exact h.of (packsK_taken _ _ _)
    · split
      · split <;> exact h
      · split
        · rename_i hw
          split
          · exact h.of (putK_same _ _).t
          · split
            · exact TkOK.arr (s := outK _ s) h (ok.data _ (wayAt_mem hw)).2
            · exact h
        · exact h
theorem TkOK.run (win : Nat) (acts : List ALinkAct) (ha : ∀ a ∈ acts, actB a = true) : ∀ k, k ≤ acts.length → TkOK (runK win (acts.take k))
  | 0, _ => by intro t ht; simp [runK, Lk.none] at ht
  | k + 1, h => by
    rw [runK_snoc win acts k (by omega)]
    exact (TkOK.run win acts ha k (by omega)).turn (LkOK.run win acts ha k (by omega)) _
theorem sum_le_mul {l : List Nat} {b : Nat} (h : ∀ x ∈ l, x ≤ b) : l.sum ≤ l.length * b := by
  induction l with
  | nil => simp
  | cons x l ih =>
    rw [List.sum_cons, List.length_cons, Nat.succ_mul]
    have h1 := h x (List.mem_cons_self ..)
    have h2 := ih (fun y hy => h y (List.mem_cons_of_mem _ hy))
    omega
theorem all_act {acts : List ALinkAct} (h : acts.all actB = true) : ∀ a ∈ acts, actB a = true := fun a ha => List.all_eq_true.1 h a ha
theorem linkR_cases (win : Int) (acts : List ALinkAct) : (linkR win acts).1 = zeroR ∨ ∃ W : Nat, (linkR win acts).1 = repK (runK W acts) ∧ LkOK acts.length (runK W acts) ∧ TkOK (runK W acts) ∧ acts.length ≤ 400 := by
  unfold linkR
  split
  · rename_i h
    split
    · rename_i ha
      have h1 := LkOK.run win.toNat acts (all_act ha) acts.length (Nat.le_refl _)
      have h2 := TkOK.run win.toNat acts (all_act ha) acts.length (Nat.le_refl _)
      rw [List.take_length] at h1 h2
      exact .inr ⟨win.toNat, rfl, h1, h2, h.2.2⟩
    · exact .inl rfl
  · exact .inl rfl
theorem link_ok (win : Int) (acts : List ALinkAct) : RLinkReport.ok (linkR win acts).1 := by
  rcases linkR_cases win acts with h | ⟨W, h, ok, tk, hl⟩
  · rw [h]
    exact ⟨⟨by decide, by decide⟩, ⟨by decide, by decide⟩, ⟨by decide, by decide⟩, ⟨by decide, fun x hx => by cases hx⟩, ⟨by decide, fun x hx => by cases hx⟩⟩
  · rw [h]
    have h1 := ok.given
    have h2 := ok.taken
    have h3 := ok.acked
    have h4 := ok.packed
    have h5 := ok.way
    refine ⟨⟨?_, ?_⟩, ⟨?_, ?_⟩, ⟨?_, ?_⟩, ⟨?_, fun x hx => ?_⟩, ⟨?_, fun x hx => ⟨trivial, ?_⟩⟩⟩
    · show -9223372036854775808 ≤ ((runK W acts).given.length : Int); omega
    · show ((runK W acts).given.length : Int) ≤ _; omega
    · show -9223372036854775808 ≤ ((runK W acts).acked : Int); omega
    · show ((runK W acts).acked : Int) ≤ _; omega
    · show -9223372036854775808 ≤ ((runK W acts).packed : Int); omega
    · show ((runK W acts).packed : Int) ≤ _; omega
    · show (runK W acts).taken.length ≤ _; omega
    · have := tk x hx
      show x.size ≤ _; omega
    · show (runK W acts).way.length ≤ _; omega
    · have := (ok.data x hx).2
      show x.2.size ≤ _; omega
theorem link_wt (win : Int) (acts : List ALinkAct) : RLinkReport.wt (linkR win acts).1 ≤ 1073741824 := by
  rcases linkR_cases win acts with h | ⟨W, h, ok, tk, hl⟩
  · rw [h]; decide
  · rw [h]
    have h2 := ok.taken
    have h5 := ok.way
    have e : RLinkReport.wt (repK (runK W acts)) = 0 + (0 + (0 + (((runK W acts).taken.length + ((runK W acts).taken.map Rec.str.wt).sum) + ((runK W acts).way.length + ((runK W acts).way.map RPacket.wt).sum)))) := rfl
    have s1 : ((runK W acts).taken.map Rec.str.wt).sum ≤ ((runK W acts).taken.map Rec.str.wt).length * 1011 := sum_le_mul (fun x hx => by
      obtain ⟨t, ht, rfl⟩ := List.mem_map.1 hx
      exact tk t ht)
    have s2 : ((runK W acts).way.map RPacket.wt).sum ≤ ((runK W acts).way.map RPacket.wt).length * 1011 := sum_le_mul (fun x hx => by
      obtain ⟨t, ht, rfl⟩ := List.mem_map.1 hx
      have := (ok.data t ht).2
      show 0 + t.2.size ≤ 1011
      omega)
    rw [List.length_map] at s1 s2
    rw [e]
    omega
end Go.Proofs.Ytdldgchkinflmaa.Fn
