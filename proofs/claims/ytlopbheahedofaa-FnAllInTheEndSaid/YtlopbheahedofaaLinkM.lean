/- A sealed text of which one byte is raised is no sealed text, unless it is the same. A link keeps its word: what is taken is the first of what was given. The answer of a link's run is small. What a link's run keeps to, and when all has come. Conditions: those of each theorem. -/
import Derived.Test.YtlopbheahedofaaLinkH
import Derived.Test.YtlopbheahedofaaLinkI
section
set_option linter.unusedVariables false
namespace Go.Proofs.Ytlopbheahedofaa.Fn
open Go Go.RowKit Go.Proofs.Ytlopbheahedofaa.Lib Go.Proofs.Ytlopbheahedofaa.Plan

theorem mod_eq_mul {x y M : Int} (h : x % M = y % M) : ∃ k, x - y = M * k := Int.dvd_of_emod_eq_zero (Int.emod_eq_emod_iff_emod_sub_eq_zero.1 h)
theorem mul_back {d k : Int} (h : d * 33 = 4294967296 * k) : ∃ z, d = 4294967296 * z := ⟨1041204193 * k - 8 * d, by omega⟩
theorem small_zero {d z : Int} (h : d = 4294967296 * z) (h1 : d < 4294967296) (h2 : -4294967296 < d) : d = 0 := by omega
theorem hstep_inj {a b c : Int} (a0 : 0 ≤ a) (a1 : a < 4294967296) (b0 : 0 ≤ b) (b1 : b < 4294967296) (h : (a * 33 + c) % 4294967296 = (b * 33 + c) % 4294967296) : a = b := by
  obtain ⟨k, hk⟩ := mod_eq_mul h
  clear h
  have l1 : a - b < 4294967296 := by clear hk; omega
  have l2 : -4294967296 < a - b := by clear hk; omega
  have h2 : (a - b) * 33 = 4294967296 * k := by rw [← hk, Int.sub_mul]; exact (Int.add_sub_add_right ..).symm
  clear hk
  obtain ⟨z, hz⟩ := mul_back h2
  exact Int.sub_eq_zero.1 (small_zero hz l1 l2)
theorem hfold_inj : ∀ (l : List UInt8) {a b : Int}, 0 ≤ a → a < 4294967296 → 0 ≤ b → b < 4294967296 → hfold a l = hfold b l → a = b
  | [], a, b, _, _, _, _, h => h
  | c :: l, a, b, a0, a1, b0, b1, h => by
    have h2 : hfold ((a * 33 + (c.toNat : Int)) % 4294967296) l = hfold ((b * 33 + (c.toNat : Int)) % 4294967296) l := h
    exact hstep_inj a0 a1 b0 b1 (hfold_inj l (by omega) (by omega) (by omega) (by omega) h2)
theorem hfold_app (a : Int) (l m : List UInt8) : hfold a (l ++ m) = hfold (hfold a l) m := by simp only [hfold, List.foldl_append]
theorem hfold_differ {l m : List UInt8} {c d : UInt8} (h : hfold 5381 (l ++ c :: m) = hfold 5381 (l ++ d :: m)) : c = d := by
  rw [hfold_app, hfold_app] at h
  have r := hfold_range l 5381 (by omega) (by omega)
  have h2 : hfold ((hfold 5381 l * 33 + (c.toNat : Int)) % 4294967296) m = hfold ((hfold 5381 l * 33 + (d.toNat : Int)) % 4294967296) m := h
  have h3 := hfold_inj m (by omega) (by omega) (by omega) (by omega) h2
  have hc := c.toNat_lt
  have hd := d.toNat_lt
  have h4 : c.toNat = d.toNat := by omega
  exact UInt8.toNat_inj.1 h4
/-- A row of bytes with its number behind it. -/
def Hashed (D : List UInt8) : Prop := ∃ T, D = T ++ (bes 4 (hfold 5381 T)).data.toList
theorem bes4_inj {a b : Int} (a0 : 0 ≤ a) (a1 : a < 4294967296) (b0 : 0 ≤ b) (b1 : b < 4294967296) (h : (bes 4 a).data.toList = (bes 4 b).data.toList) : a = b := by
  rw [← numOf_bes 4 a a0 (by simpa using a1), ← numOf_bes 4 b b0 (by simpa using b1), h]
theorem split_at {l : List UInt8} {j : Nat} (h : j < l.length) : l = l.take j ++ l[j] :: l.drop (j + 1) := by
  rw [List.getElem_cons_drop, List.take_append_drop]
theorem set_split {l : List UInt8} {j : Nat} (h : j < l.length) (x : UInt8) : l.set j x = l.take j ++ x :: l.drop (j + 1) := List.set_eq_take_append_cons_drop .. |>.trans (if_pos h)
theorem hashed_set {D : List UInt8} {j : Nat} {x : UInt8} (hj : j < D.length) (h : Hashed D) (h2 : Hashed (D.set j x)) : x = D[j] := by
  obtain ⟨T, hT⟩ := h
  obtain ⟨T2, hT2⟩ := h2
  have r := hfold_range T 5381 (by omega) (by omega)
  have r2 := hfold_range T2 5381 (by omega) (by omega)
  have l1 : D.length = T.length + 4 := by rw [hT, List.length_append, bes_length]
  have l2 : D.length = T2.length + 4 := by rw [← List.length_set (i := j) (a := x), hT2, List.length_append, bes_length]
  by_cases hlt : j < T.length
  · rw [hT, List.set_append_left _ _ hlt] at hT2
    obtain ⟨e1, e2⟩ := List.append_inj hT2 (by rw [List.length_set]; omega)
    have e3 := bes4_inj r.1 r.2 r2.1 r2.2 e2
    rw [← e1, set_split hlt] at e3
    conv at e3 => lhs; rw [split_at hlt]
    have e4 := hfold_differ e3
    subst hT
    rw [List.getElem_append_left hlt]
    exact e4.symm
  · rw [hT, List.set_append_right _ _ (by omega)] at hT2
    obtain ⟨e1, e2⟩ := List.append_inj hT2 (by omega)
    rw [← e1] at e2
    subst hT
    rw [List.getElem_append_right (by omega)]
    have hb : j - T.length < (bes 4 (hfold 5381 T)).data.toList.length := by rw [bes_length]; omega
    have e3 : ((bes 4 (hfold 5381 T)).data.toList.set (j - T.length) x)[j - T.length]? = some x := List.getElem?_set_self hb
    rw [e2, List.getElem?_eq_getElem hb] at e3
    injection e3 with e3
    exact e3.symm
theorem sealed_hashed (k n : Int) (b : ByteArray) : Hashed (sealed k n b).data.toList := ⟨(sealText k n b).data.toList, by rw [sealed, app_toList]; rfl⟩
theorem unseal_hashed {d : ByteArray} (h : UnsealOK d) : Hashed d.data.toList := by
  rw [← h.2.2.2]
  exact sealed_hashed _ _ _
theorem spoil_list (d : ByteArray) (k : Nat) (c : UInt8) (h : k < d.data.toList.length) : (spoilT d k c).data.toList = d.data.toList.set k (d.data.toList[k] + c) := by
  have h2 : k < d.data.size := h
  show (d.data.set! k (d.data[k]! + c)).toList = _
  rw [getElem!_pos d.data k h2]
  simp
theorem data_ext {a b : ByteArray} (h : a.data.toList = b.data.toList) : a = b := by
  obtain ⟨⟨a⟩⟩ := a
  obtain ⟨⟨b⟩⟩ := b
  simpa using h
/-- What is left of a sealed text that is spoilt, if it can be unsealed: it is as it was. -/
theorem spoil_bad {d : ByteArray} (hd : Hashed d.data.toList) (k : Nat) (c : UInt8) (hk : k < d.size) (h : UnsealOK (spoilT d k c)) : spoilT d k c = d := by
  have hk2 : k < d.data.toList.length := by simpa using hk
  have h1 := unseal_hashed h
  rw [spoil_list d k c hk2] at h1
  have h2 := hashed_set hk2 hd h1
  apply data_ext
  rw [spoil_list d k c hk2, h2]
  exact List.set_getElem_self _
theorem seal_parts (k n : Int) (b : ByteArray) : (sealed k n b).data.toList = (bes 1 k).data.toList ++ ((bes 4 n).data.toList ++ ((bes 2 b.size).data.toList ++ (b.data.toList ++ (bes 4 (hash (sealText k n b))).data.toList))) := by
  rw [sealed, sealText]
  simp only [app_toList, List.append_assoc]
theorem sealed_kind {k n : Int} {b : ByteArray} (h0 : 0 ≤ k) (h1 : k < 256) : kindOf (sealed k n b) = k := by
  have e : ((sealed k n b).extract 0 1).data.toList = (bes 1 k).data.toList := by
    rw [ext_toList, seal_parts]
    have l1 := bes_length 1 k
    rw [List.drop_zero, List.take_append, List.take_of_length_le (by omega)]
    simp [l1]
  rw [kindOf, numB, e, numOf_bes _ _ h0 (by simpa using h1)]
theorem sealed_count {k n : Int} {b : ByteArray} (h0 : 0 ≤ n) (h1 : n < 4294967296) : countOf (sealed k n b) = n := by
  have e : ((sealed k n b).extract 1 5).data.toList = (bes 4 n).data.toList := by
    rw [ext_toList, seal_parts]
    have l1 := bes_length 1 k
    have l4 := bes_length 4 n
    rw [List.drop_append, List.drop_eq_nil_of_le (by omega), l1, List.nil_append, List.drop_zero, List.take_append, List.take_of_length_le (by omega)]
    simp [l4]
  rw [countOf, numB, e, numOf_bes _ _ h0 (by simpa using h1)]
theorem sealed_body {k n : Int} {b : ByteArray} : bodyOf (sealed k n b) = b := by
  apply data_ext
  rw [bodyOf, sealed_size, ext_toList, seal_parts]
  have l1 := bes_length 1 k
  have l4 := bes_length 4 n
  have l2 := bes_length 2 b.size
  have lb : b.data.toList.length = b.size := by simp
  rw [List.drop_append, List.drop_eq_nil_of_le (by omega), l1, List.nil_append, List.drop_append, List.drop_eq_nil_of_le (by omega), l4, List.nil_append, List.drop_append, List.drop_eq_nil_of_le (by omega), l2, List.nil_append, List.drop_zero, List.take_append, List.take_of_length_le (by omega), show 11 + b.size - 4 - 7 - b.data.toList.length = 0 by omega, List.take_zero, List.append_nil]
end Go.Proofs.Ytlopbheahedofaa.Fn
end
section
set_option linter.unusedVariables false
namespace Go.Proofs.Ytlopbheahedofaa.Fn
open Go Go.RowKit Go.Proofs.Ytlopbheahedofaa.Lib Go.Proofs.Ytlopbheahedofaa.Plan

/-- A packet that was put on the way by one of the two ends. -/
def GoodP (s : Lk) (p : Bool × ByteArray) : Prop :=
  (p.1 = false ∧ ∃ i : Nat, i < s.packed ∧ p.2 = sealed 1 i (s.given.getD i ⟨#[]⟩)) ∨ (p.1 = true ∧ ∃ n : Nat, n ≤ s.taken.length ∧ p.2 = sealed 2 n ⟨#[]⟩)
structure LkGood (win : Nat) (bad : Prop) (s : Lk) : Prop where
  t1 : s.taken.length ≤ s.packed
  t2 : ∀ i, i < s.taken.length → s.taken[i]? = s.given[i]?
  a1 : s.acked ≤ s.taken.length
  p1 : s.packed ≤ s.acked + win
  p2 : s.packed ≤ s.given.length
  w : ∀ p ∈ s.way, GoodP s p ∨ (bad ∧ ¬ UnsealOK p.2)
theorem GoodP.to {s s' : Lk} {p : Bool × ByteArray} (h : GoodP s p) (hp : s.packed ≤ s'.packed) (ht : s.taken.length ≤ s'.taken.length) (hg : ∀ i, i < s.packed → s'.given.getD i ⟨#[]⟩ = s.given.getD i ⟨#[]⟩) : GoodP s' p := by
  rcases h with ⟨h1, i, hi, h2⟩ | ⟨h1, n, hn, h2⟩
  · exact .inl ⟨h1, i, by omega, by rw [h2, hg i hi]⟩
  · exact .inr ⟨h1, n, by omega, h2⟩
theorem LkGood.none (win : Nat) : LkGood win False Lk.none := ⟨Nat.le_refl _, fun i h => absurd h (Nat.not_lt_zero _), Nat.le_refl _, Nat.zero_le _, Nat.le_refl _, by simp [Lk.none]⟩
theorem LkGood.imp {win : Nat} {b c : Prop} {s : Lk} (h : LkGood win b s) (hbc : b → c) : LkGood win c s := ⟨h.t1, h.t2, h.a1, h.p1, h.p2, fun p hp => (h.w p hp).imp id (fun x => ⟨hbc x.1, x.2⟩)⟩
/-- What stands still but for the way. -/
structure SameBut (s s' : Lk) : Prop where
  g : s'.given = s.given
  a : s'.acked = s.acked
  p : s'.packed = s.packed
  t : s'.taken = s.taken
theorem GoodP.same {s s' : Lk} {p : Bool × ByteArray} (e : SameBut s s') (h : GoodP s p) : GoodP s' p :=
  h.to (by rw [e.p]; omega) (by rw [e.t]; omega) (fun i _ => by rw [e.g])
theorem LkGood.same {win : Nat} {b : Prop} {s s' : Lk} (h : LkGood win b s) (e : SameBut s s') (hw : ∀ p ∈ s'.way, p ∈ s.way ∨ GoodP s p ∨ (b ∧ ¬ UnsealOK p.2)) : LkGood win b s' := by
  refine ⟨by rw [e.t, e.p]; exact h.t1, by rw [e.t, e.g]; exact h.t2, by rw [e.a, e.t]; exact h.a1, by rw [e.a, e.p]; exact h.p1, by rw [e.g, e.p]; exact h.p2, fun p hp => ?_⟩
  have h1 : GoodP s p ∨ (b ∧ ¬ UnsealOK p.2) := (hw p hp).elim (fun x => h.w p x) id
  exact h1.imp (GoodP.same e) id
theorem putK_same (p : Bool × ByteArray) (s : Lk) : SameBut s (putK p s) := by
  unfold putK
  split <;> exact ⟨rfl, rfl, rfl, rfl⟩
theorem putK_way {p q : Bool × ByteArray} {s : Lk} (h : q ∈ (putK p s).way) : q ∈ s.way ∨ q = p := by
  unfold putK at h
  split at h
  · rcases List.mem_append.1 h with h | h
    · exact .inl h
    · simp at h; exact .inr h
  · exact .inl h
theorem LkGood.put {win : Nat} {b : Prop} {s : Lk} {p : Bool × ByteArray} (h : LkGood win b s) (hp : GoodP s p ∨ (b ∧ ¬ UnsealOK p.2)) : LkGood win b (putK p s) :=
  h.same (putK_same p s) (fun q hq => (putK_way hq).imp id (fun e => by subst e; exact hp))
theorem LkGood.pack {win : Nat} {b : Prop} {s : Lk} (h : LkGood win b s) (i : Nat) (hi : i < s.packed) : LkGood win b (packK i s) := h.put (.inl (.inl ⟨rfl, i, hi, rfl⟩))
theorem packK_same (i : Nat) (s : Lk) : SameBut s (packK i s) := putK_same _ s
theorem LkGood.packs {win : Nat} {b : Prop} : ∀ (n i : Nat) {s : Lk}, LkGood win b s → i + n ≤ s.packed → LkGood win b (packsK i n s)
  | 0, _, _, h, _ => h
  | n + 1, i, s, h, hi => LkGood.packs n (i + 1) (h.pack i (by omega)) (by rw [(packK_same i s).p]; omega)
theorem LkGood.step {win : Nat} {b : Prop} {s : Lk} (h : LkGood win b s) (h1 : s.packed < s.given.length) (h2 : s.packed < s.acked + win) : LkGood win b (stepK s) := by
  have e := packK_same s.packed s
  refine ⟨?_, ?_, ?_, ?_, ?_, ?_⟩
  · show (packK s.packed s).taken.length ≤ s.packed + 1
    rw [e.t]; have := h.t1; omega
  · show ∀ i, i < (packK s.packed s).taken.length → (packK s.packed s).taken[i]? = (packK s.packed s).given[i]?
    rw [e.t, e.g]; exact h.t2
  · show (packK s.packed s).acked ≤ (packK s.packed s).taken.length
    rw [e.t, e.a]; exact h.a1
  · show s.packed + 1 ≤ (packK s.packed s).acked + win
    rw [e.a]; omega
  · show s.packed + 1 ≤ (packK s.packed s).given.length
    rw [e.g]; omega
  · intro p hp
    have hp2 : p ∈ (packK s.packed s).way := hp
    have up : ∀ {q : Bool × ByteArray}, GoodP s q → GoodP (stepK s) q := fun hq => hq.to (by show s.packed ≤ s.packed + 1; omega) (by show _ ≤ (packK s.packed s).taken.length; rw [e.t]; omega) (fun i _ => by show (packK s.packed s).given.getD i _ = _; rw [e.g])
    rcases putK_way hp2 with hq | rfl
    · exact (h.w p hq).imp up id
    · refine .inl (.inl ⟨rfl, s.packed, ?_, ?_⟩)
      · show s.packed < s.packed + 1; omega
      · show _ = sealed 1 s.packed ((packK s.packed s).given.getD s.packed ⟨#[]⟩)
        rw [e.g]
theorem LkGood.fill {win : Nat} {b : Prop} : ∀ (f : Nat) {s : Lk}, LkGood win b s → LkGood win b (fillK win f s)
  | 0, _, h => h
  | f + 1, s, h => by
    unfold fillK
    split
    · rename_i hc
      exact LkGood.fill f (h.step hc.1 hc.2)
    · exact h
theorem LkGood.out {win : Nat} {b : Prop} {s : Lk} (h : LkGood win b s) (i : Nat) : LkGood win b (outK i s) := h.same ⟨rfl, rfl, rfl, rfl⟩ (fun p hp => .inl (List.mem_of_mem_eraseIdx hp))
theorem LkGood.arr {win : Nat} {b : Prop} {s : Lk} {p : Bool × ByteArray} (h : LkGood win b s) (hp : GoodP s p ∨ (b ∧ ¬ UnsealOK p.2)) (hl : s.given.length ≤ 1000000) : LkGood win b (arrK p s) := by
  unfold arrK
  split
  rotate_left
  · exact h
  rename_i hu
  rcases hp with hp | ⟨-, hp⟩
  rotate_left
  · exact absurd hu hp
  rcases hp with ⟨h1, i, hi, h2⟩ | ⟨h1, n, hn, h2⟩
  · have hp2 := h.p2
    have hk : kindOf p.2 = 1 := by rw [h2]; exact sealed_kind (by omega) (by omega)
    have hc : countOf p.2 = (i : Int) := by rw [h2]; exact sealed_count (by omega) (by omega)
    have hb : bodyOf p.2 = s.given.getD i ⟨#[]⟩ := by rw [h2]; exact sealed_body
    rw [if_pos ⟨h1, hk⟩]
    have ht : LkGood win b (tookK p s) := by
      unfold tookK
      split
      · rename_i hci
        rw [hc] at hci
        have hii : i = s.taken.length := by omega
        have hsome : s.given[i]? = some (s.given.getD i ⟨#[]⟩) := by rw [List.getElem?_eq_getElem (by omega), List.getD_eq_getElem?_getD, List.getElem?_eq_getElem (by omega)]; rfl
        refine ⟨?_, ?_, ?_, h.p1, h.p2, ?_⟩
        · show (s.taken ++ [bodyOf p.2]).length ≤ s.packed
          rw [List.length_append, List.length_cons, List.length_nil]; omega
        · intro j hj
          have hj2 : j < (s.taken ++ [bodyOf p.2]).length := hj
          rw [List.length_append, List.length_cons, List.length_nil] at hj2
          show (s.taken ++ [bodyOf p.2])[j]? = s.given[j]?
          by_cases hjl : j < s.taken.length
          · rw [List.getElem?_append_left hjl]; exact h.t2 j hjl
          · have hji : j = i := by omega
            subst hji
            rw [List.getElem?_append_right (by omega), hsome, hb, show j - s.taken.length = 0 by omega]
            rfl
        · show s.acked ≤ (s.taken ++ [bodyOf p.2]).length
          rw [List.length_append]; have := h.a1; omega
        · intro q hq
          exact (h.w q hq).imp (fun hg => hg.to (Nat.le_refl _) (by show s.taken.length ≤ (s.taken ++ [bodyOf p.2]).length; rw [List.length_append]; omega) (fun _ _ => rfl)) id
      · exact h
    exact ht.put (.inl (.inr ⟨rfl, _, Nat.le_refl _, rfl⟩))
  · have ht1 := h.t1
    have hp2 := h.p2
    have hk : kindOf p.2 = 2 := by rw [h2]; exact sealed_kind (by omega) (by omega)
    have hc : countOf p.2 = (n : Int) := by rw [h2]; exact sealed_count (by omega) (by omega)
    rw [if_neg (fun x => by rw [h1] at x; exact absurd x.1 (by decide))]
    split
    · refine ⟨h.t1, h.t2, ?_, ?_, h.p2, fun q hq => (h.w q hq).imp (fun hg => hg.to (Nat.le_refl _) (Nat.le_refl _) (fun _ _ => rfl)) id⟩
      · show max s.acked (countOf p.2).toNat ≤ s.taken.length
        rw [hc]; have := h.a1; omega
      · show s.packed ≤ max s.acked (countOf p.2).toNat + win
        rw [hc]; have := h.p1; omega
    · exact h
theorem GoodP.hashed {s : Lk} {p : Bool × ByteArray} (h : GoodP s p) : Hashed p.2.data.toList := by
  rcases h with ⟨-, i, -, h2⟩ | ⟨-, n, -, h2⟩ <;> (rw [h2]; exact sealed_hashed _ _ _)
theorem GoodP.size {s : Lk} {p : Bool × ByteArray} (h : GoodP s p) : 0 < p.2.size := by
  rcases h with ⟨-, i, -, h2⟩ | ⟨-, n, -, h2⟩ <;> (rw [h2, sealed_size]; omega)
theorem LkGood.spoil {win : Nat} {s : Lk} (h : LkGood win False s) (i n : Nat) (c : UInt8) (hi : i < s.way.length) :
    LkGood win True { s with way := s.way.set i ((wayAt i s).1, spoilT (wayAt i s).2 (n % (wayAt i s).2.size) c) } := by
  refine (h.imp (fun x => x.elim)).same ⟨rfl, rfl, rfl, rfl⟩ (fun p hp => ?_)
  rcases List.mem_or_eq_of_mem_set hp with hp | rfl
  · exact .inl hp
  · have hg : GoodP s (wayAt i s) := (h.w _ (wayAt_mem hi)).elim id (fun x => x.1.elim)
    right
    by_cases hu : UnsealOK (spoilT (wayAt i s).2 (n % (wayAt i s).2.size) c)
    · left
      have e := spoil_bad hg.hashed _ c (Nat.mod_lt _ hg.size) hu
      rw [e]
      exact hg
    · exact .inr ⟨trivial, hu⟩
theorem LkGood.act {win : Nat} {b : Prop} {s : Lk} (h : LkGood win b s) (a : ALinkAct) (ha : actB a = true) (hl : s.given.length ≤ 1000000) (hb : a.1 = 6 → ¬ b) : LkGood win (b ∨ a.1 = 6) (actK a.1 a.2.1.toNat a.2.2 s) := by
  have h' : LkGood win (b ∨ a.1 = 6) s := h.imp .inl
  unfold actK
  split
  · refine ⟨h.t1, ?_, h.a1, h.p1, ?_, fun q hq => (h'.w q hq).imp (fun hg => hg.to (Nat.le_refl _) (Nat.le_refl _) (fun i hi => ?_)) id⟩
    · intro i hi
      have hi2 : i < s.taken.length := hi
      have := h.t1
      have := h.p2
      show s.taken[i]? = (s.given ++ [a.2.2])[i]?
      rw [List.getElem?_append_left (by omega)]
      exact h.t2 i hi2
    · show s.packed ≤ (s.given ++ [a.2.2]).length
      rw [List.length_append]; have := h.p2; omega
    · have := h.p2
      show (s.given ++ [a.2.2]).getD i _ = _
      rw [List.getD_eq_getElem?_getD, List.getElem?_append_left (by omega), ← List.getD_eq_getElem?_getD]
  · split
    · have := h.t1
      have := h.a1
      exact h'.packs _ _ (by omega)
    · split
      · rename_i h6
        split
        · rename_i hw
          have hf : LkGood win False s := h.imp (hb h6)
          exact (hf.spoil _ _ _ hw).imp (fun _ => .inr h6)
        · exact h'
      · split
        · rename_i hw
          have hp := h'.w _ (wayAt_mem hw)
          split
          · exact h'.put hp
          · split
            · refine (h'.out _).arr ?_ hl
              exact hp.imp (GoodP.same ⟨rfl, rfl, rfl, rfl⟩) id
            · exact h'.out _
        · exact h'
theorem LkGood.turn {win : Nat} {b : Prop} {s : Lk} (h : LkGood win b s) (a : ALinkAct) (ha : actB a = true) (hl : s.given.length ≤ 1000000) (hb : a.1 = 6 → ¬ b) : LkGood win (b ∨ a.1 = 6) (turnK win a s) := (h.act a ha hl hb).fill _
/-- What is given by acts; how many of them spoil. -/
def givenOf (acts : List ALinkAct) : List ByteArray := (acts.filter (fun a => a.1 = 1)).map (fun a => a.2.2)
def spoilt (acts : List ALinkAct) : Nat := (acts.filter (fun a => a.1 = 6)).length
theorem fillK_given {win : Nat} : ∀ (f : Nat) (s : Lk), (fillK win f s).given = s.given
  | 0, _ => rfl
  | f + 1, s => by
    unfold fillK
    split
    · rw [fillK_given f]; exact (packK_same s.packed s).g
    · rfl
theorem tookK_given (p : Bool × ByteArray) (s : Lk) : (tookK p s).given = s.given := (tookK_parts p s).1
theorem arrK_given (p : Bool × ByteArray) (s : Lk) : (arrK p s).given = s.given := by
  unfold arrK
  split
  · split
    · rw [(putK_same _ _).g, tookK_given]
    · split <;> rfl
  · rfl
theorem turnK_given {win : Nat} (a : ALinkAct) (s : Lk) : (turnK win a s).given = s.given ++ (if a.1 = 1 then [a.2.2] else []) := by
  unfold turnK
  rw [fillK_given]
  unfold actK
  split
  · rfl
  · rw [List.append_nil]
    split
    · exact (packsK_given _ _ s).1
    · split
      · split <;> rfl
      · split
        · split
          · exact (putK_same _ s).g
          · split
            · rw [arrK_given]; rfl
            · rfl
        · rfl
theorem givenOf_snoc (l : List ALinkAct) (a : ALinkAct) : givenOf (l ++ [a]) = givenOf l ++ (if a.1 = 1 then [a.2.2] else []) := by
  unfold givenOf
  rw [List.filter_append, List.map_append]
  congr 1
  by_cases h : a.1 = 1 <;> simp [h]
theorem spoilt_snoc (l : List ALinkAct) (a : ALinkAct) : spoilt (l ++ [a]) = spoilt l + (if a.1 = 6 then 1 else 0) := by
  unfold spoilt
  rw [List.filter_append, List.length_append]
  congr 1
  by_cases h : a.1 = 6 <;> simp [h]
theorem runK_append (win : Nat) (l : List ALinkAct) (a : ALinkAct) : runK win (l ++ [a]) = turnK win a (runK win l) := by
  unfold runK
  rw [List.foldl_append]
  rfl
theorem runK_given (win : Nat) (acts : List ALinkAct) : (runK win acts).given = givenOf acts := by
  suffices h : ∀ l : List ALinkAct, (runK win l.reverse).given = givenOf l.reverse by
    have := h acts.reverse
    rwa [List.reverse_reverse] at this
  intro l
  induction l with
  | nil => rfl
  | cons a l ih => rw [List.reverse_cons, runK_append, turnK_given, ih, givenOf_snoc]
theorem givenOf_len (acts : List ALinkAct) : (givenOf acts).length ≤ acts.length := by
  unfold givenOf
  rw [List.length_map]
  exact List.length_filter_le _ _
theorem runK_good (win : Nat) (acts : List ALinkAct) (ha : ∀ a ∈ acts, actB a = true) (hl : acts.length ≤ 1000000) (hs : spoilt acts ≤ 1) : LkGood win (1 ≤ spoilt acts) (runK win acts) := by
  suffices h : ∀ l : List ALinkAct, (∀ a ∈ l, actB a = true) → l.length ≤ 1000000 → spoilt l.reverse ≤ 1 → LkGood win (1 ≤ spoilt l.reverse) (runK win l.reverse) by
    have := h acts.reverse (fun a h => ha a (List.mem_reverse.1 h)) (by rw [List.length_reverse]; exact hl)
    rw [List.reverse_reverse] at this
    exact this hs
  intro l
  induction l with
  | nil => intro _ _ _; exact (LkGood.none win).imp (fun x => x.elim)
  | cons a l ih =>
    intro ha hl hs
    rw [List.reverse_cons] at hs ⊢
    rw [spoilt_snoc] at hs ⊢
    rw [runK_append]
    rw [List.length_cons] at hl
    have h1 := ih (fun x hx => ha x (List.mem_cons_of_mem _ hx)) (by omega) (by omega)
    have hg : (runK win l.reverse).given.length ≤ 1000000 := by
      rw [runK_given]
      have := givenOf_len l.reverse
      rw [List.length_reverse] at this
      omega
    refine (h1.turn a (ha a (List.mem_cons_self ..)) hg ?_).imp ?_
    · intro h6 hb
      rw [if_pos h6] at hs
      omega
    · rintro (h | h)
      · omega
      · rw [if_pos h]; omega
end Go.Proofs.Ytlopbheahedofaa.Fn
end
section
set_option linter.unusedVariables false
namespace Go.Proofs.Ytlopbheahedofaa.Fn
open Go Go.RowKit Go.Proofs.Ytlopbheahedofaa.Lib Go.Proofs.Ytlopbheahedofaa.Plan

def TkOK (s : Lk) : Prop := ∀ t ∈ s.taken, t.size ≤ 1011
theorem TkOK.of {s s' : Lk} (h : TkOK s) (e : s'.taken = s.taken) : TkOK s' := by unfold TkOK; rw [e]; exact h
theorem packsK_taken : ∀ (n i : Nat) (s : Lk), (packsK i n s).taken = s.taken
  | 0, _, _ => rfl
  | n + 1, i, s => (packsK_taken n (i + 1) (packK i s)).trans (packK_same i s).t
theorem fillK_taken {win : Nat} : ∀ (f : Nat) (s : Lk), (fillK win f s).taken = s.taken
  | 0, _ => rfl
  | f + 1, s => by
    unfold fillK
    split
    · rw [fillK_taken f]; exact (packK_same s.packed s).t
    · rfl
theorem bodyOf_size (d : ByteArray) : (bodyOf d).size ≤ d.size := by
  unfold bodyOf
  rw [ByteArray.size_extract]
  omega
theorem TkOK.took {s : Lk} {p : Bool × ByteArray} (h : TkOK s) (hp : p.2.size ≤ 1011) : TkOK (tookK p s) := by
  unfold tookK
  split
  · intro t ht
    rcases List.mem_append.1 ht with ht | ht
    · exact h t ht
    · simp at ht
      subst ht
      exact Nat.le_trans (bodyOf_size _) hp
  · exact h
theorem TkOK.arr {s : Lk} {p : Bool × ByteArray} (h : TkOK s) (hp : p.2.size ≤ 1011) : TkOK (arrK p s) := by
  unfold arrK
  split
  · split
    · exact (h.took hp).of (putK_same _ _).t
    · split
      · exact h
      · exact h
  · exact h
theorem TkOK.turn {k win : Nat} {s : Lk} (h : TkOK s) (ok : LkOK k s) (a : ALinkAct) : TkOK (turnK win a s) := by
  unfold turnK
  refine TkOK.of ?_ (fillK_taken _ _)
  unfold actK
  split
  · exact h
  · split
    · exact h.of (packsK_taken _ _ _)
    · split
      · split <;> exact h
      · split
        · rename_i hw
          split
          · exact h.of (putK_same _ _).t
          · split
            · exact TkOK.arr (s := outK _ s) h (ok.data _ (wayAt_mem hw)).2
            · exact h
        · exact h
theorem TkOK.run (win : Nat) (acts : List ALinkAct) (ha : ∀ a ∈ acts, actB a = true) : ∀ k, k ≤ acts.length → TkOK (runK win (acts.take k))
  | 0, _ => by intro t ht; simp [runK, Lk.none] at ht
  | k + 1, h => by
    rw [runK_snoc win acts k (by omega)]
    exact (TkOK.run win acts ha k (by omega)).turn (LkOK.run win acts ha k (by omega)) _
theorem sum_le_mul {l : List Nat} {b : Nat} (h : ∀ x ∈ l, x ≤ b) : l.sum ≤ l.length * b := by
  induction l with
  | nil => simp
  | cons x l ih =>
    rw [List.sum_cons, List.length_cons, Nat.succ_mul]
    have h1 := h x (List.mem_cons_self ..)
    have h2 := ih (fun y hy => h y (List.mem_cons_of_mem _ hy))
    omega
theorem all_act {acts : List ALinkAct} (h : acts.all actB = true) : ∀ a ∈ acts, actB a = true := fun a ha => List.all_eq_true.1 h a ha
theorem linkR_cases (win : Int) (acts : List ALinkAct) : (linkR win acts).1 = zeroR ∨ ∃ W : Nat, (linkR win acts).1 = repK (runK W acts) ∧ LkOK acts.length (runK W acts) ∧ TkOK (runK W acts) ∧ acts.length ≤ 400 := by
  unfold linkR
  split
  · rename_i h
    split
    · rename_i ha
      have h1 := LkOK.run win.toNat acts (all_act ha) acts.length (Nat.le_refl _)
      have h2 := TkOK.run win.toNat acts (all_act ha) acts.length (Nat.le_refl _)
      rw [List.take_length] at h1 h2
      exact .inr ⟨win.toNat, rfl, h1, h2, h.2.2⟩
    · exact .inl rfl
  · exact .inl rfl
theorem link_ok (win : Int) (acts : List ALinkAct) : RLinkReport.ok (linkR win acts).1 := by
  rcases linkR_cases win acts with h | ⟨W, h, ok, tk, hl⟩
  · rw [h]
    exact ⟨⟨by decide, by decide⟩, ⟨by decide, by decide⟩, ⟨by decide, by decide⟩, ⟨by decide, fun x hx => by cases hx⟩, ⟨by decide, fun x hx => by cases hx⟩⟩
  · rw [h]
    have h1 := ok.given
    have h2 := ok.taken
    have h3 := ok.acked
    have h4 := ok.packed
    have h5 := ok.way
    refine ⟨⟨?_, ?_⟩, ⟨?_, ?_⟩, ⟨?_, ?_⟩, ⟨?_, fun x hx => ?_⟩, ⟨?_, fun x hx => ⟨trivial, ?_⟩⟩⟩
    · show -9223372036854775808 ≤ ((runK W acts).given.length : Int); omega
    · show ((runK W acts).given.length : Int) ≤ _; omega
    · show -9223372036854775808 ≤ ((runK W acts).acked : Int); omega
    · show ((runK W acts).acked : Int) ≤ _; omega
    · show -9223372036854775808 ≤ ((runK W acts).packed : Int); omega
    · show ((runK W acts).packed : Int) ≤ _; omega
    · show (runK W acts).taken.length ≤ _; omega
    · have := tk x hx
      show x.size ≤ _; omega
    · show (runK W acts).way.length ≤ _; omega
    · have := (ok.data x hx).2
      show x.2.size ≤ _; omega
theorem link_wt (win : Int) (acts : List ALinkAct) : RLinkReport.wt (linkR win acts).1 ≤ 1073741824 := by
  rcases linkR_cases win acts with h | ⟨W, h, ok, tk, hl⟩
  · rw [h]; decide
  · rw [h]
    have h2 := ok.taken
    have h5 := ok.way
    have e : RLinkReport.wt (repK (runK W acts)) = 0 + (0 + (0 + (((runK W acts).taken.length + ((runK W acts).taken.map Rec.str.wt).sum) + ((runK W acts).way.length + ((runK W acts).way.map RPacket.wt).sum)))) := rfl
    have s1 : ((runK W acts).taken.map Rec.str.wt).sum ≤ ((runK W acts).taken.map Rec.str.wt).length * 1011 := sum_le_mul (fun x hx => by
      obtain ⟨t, ht, rfl⟩ := List.mem_map.1 hx
      exact tk t ht)
    have s2 : ((runK W acts).way.map RPacket.wt).sum ≤ ((runK W acts).way.map RPacket.wt).length * 1011 := sum_le_mul (fun x hx => by
      obtain ⟨t, ht, rfl⟩ := List.mem_map.1 hx
      have := (ok.data t ht).2
      show 0 + t.2.size ≤ 1011
      omega)
    rw [List.length_map] at s1 s2
    rw [e]
    omega
end Go.Proofs.Ytlopbheahedofaa.Fn
end
section
set_option linter.unusedVariables false
namespace Go.Proofs.Ytlopbheahedofaa.Fn
open Go Go.RowKit Go.Proofs.Ytlopbheahedofaa.Lib Go.Proofs.Ytlopbheahedofaa.Plan

theorem fillK_done {win : Nat} : ∀ (f : Nat) (s : Lk), s.given.length - s.packed ≤ f → (fillK win f s).given.length ≤ (fillK win f s).packed ∨ (fillK win f s).acked + win ≤ (fillK win f s).packed
  | 0, s, h => .inl (by show s.given.length ≤ s.packed; omega)
  | f + 1, s, h => by
    unfold fillK
    split
    · rename_i hc
      refine fillK_done f (stepK s) ?_
      have e1 : (stepK s).given = s.given := (packK_same s.packed s).g
      have e2 : (stepK s).packed = s.packed + 1 := rfl
      rw [e1, e2]
      omega
    · omega
theorem runK_done (win : Nat) (acts : List ALinkAct) : (runK win acts).given.length ≤ (runK win acts).packed ∨ (runK win acts).acked + win ≤ (runK win acts).packed := by
  suffices h : ∀ l : List ALinkAct, (runK win l.reverse).given.length ≤ (runK win l.reverse).packed ∨ (runK win l.reverse).acked + win ≤ (runK win l.reverse).packed by
    have := h acts.reverse
    rwa [List.reverse_reverse] at this
  intro l
  cases l with
  | nil => exact .inl (Nat.le_refl _)
  | cons a l =>
    rw [List.reverse_cons, runK_append]
    exact fillK_done _ _ (Nat.le_refl _)
/-- What FirstOfAll asks of a link that has run. -/
structure FirstOK (win : Nat) (given : List ByteArray) (s : Lk) : Prop where
  g : s.given.length = given.length
  t : s.taken.length ≤ given.length
  a : s.acked ≤ s.taken.length
  pw : s.packed ≤ s.acked + win
  pg : s.packed ≤ s.given.length
  tp : s.taken.length ≤ s.packed
  all : ∀ (i : Nat) (h : i < s.taken.length) (h2 : i < given.length), s.taken[i] = given[i]
  fin : s.packed = s.given.length ∨ s.packed = s.acked + win
theorem firstOK (win : Nat) (acts : List ALinkAct) (ha : ∀ a ∈ acts, actB a = true) (hl : acts.length ≤ 1000000) (hs : spoilt acts ≤ 1) : FirstOK win (givenOf acts) (runK win acts) := by
  have h := runK_good win acts ha hl hs
  have e := runK_given win acts
  have d := runK_done win acts
  have h1 := h.t1
  have h2 := h.p2
  have h3 := h.a1
  have h4 := h.p1
  have e2 : (runK win acts).given.length = (givenOf acts).length := by rw [e]
  refine ⟨e2, by omega, h3, h4, h2, h1, fun i hi hi2 => ?_, by omega⟩
  have h5 := h.t2 i hi
  rw [e, List.getElem?_eq_getElem hi, List.getElem?_eq_getElem hi2] at h5
  injection h5
theorem linkR_run {win : Int} {acts : List ALinkAct} {r : ALinkReport} (h : linkR win acts = (r, 0)) : 1 ≤ win ∧ win ≤ 16 ∧ acts.length ≤ 400 ∧ (∀ a ∈ acts, actB a = true) ∧ r = repK (runK win.toNat acts) := by
  unfold linkR at h
  split at h
  · rename_i hg
    split at h
    · rename_i ha
      injection h with h1 h2
      exact ⟨hg.1, hg.2.1, hg.2.2, all_act ha, h1.symm⟩
    · injection h with h1 h2
      exact absurd h2 (by decide)
  · injection h with h1 h2
    exact absurd h2 (by decide)
theorem linkR_of {win : Int} {acts : List ALinkAct} (h1 : 1 ≤ win) (h2 : win ≤ 16) (h3 : acts.length ≤ 400) (ha : ∀ a ∈ acts, actB a = true) : linkR win acts = (repK (runK win.toNat acts), 0) := by
  unfold linkR
  rw [if_pos ⟨h1, h2, h3⟩, if_pos (List.all_eq_true.2 ha)]
/-- Nothing is left: all that was given is taken. -/
theorem all_taken {win : Nat} {given : List ByteArray} {s : Lk} (h : FirstOK win given s) (ha : given.length ≤ s.acked) : s.taken = given ∧ s.acked = given.length := by
  have h1 := h.t
  have h2 := h.a
  refine ⟨List.ext_getElem (by omega) (fun i hi hi2 => h.all i hi hi2), by omega⟩
def takeAct : ALinkAct := (3, 0, ⟨#[]⟩)
def tickAct : ALinkAct := (2, 0, ⟨#[]⟩)
theorem actB_take : actB takeAct = true := by decide
theorem actB_tick : actB tickAct = true := by decide
theorem acts_snoc {acts : List ALinkAct} {a : ALinkAct} (h : ∀ x ∈ acts, actB x = true) (ha : actB a = true) : ∀ x ∈ acts ++ [a], actB x = true := by
  intro x hx
  rcases List.mem_append.1 hx with hx | hx
  · exact h x hx
  · simp at hx; subst hx; exact ha
theorem given_take (acts : List ALinkAct) : givenOf (acts ++ [takeAct]) = givenOf acts := by rw [givenOf_snoc, if_neg (by decide), List.append_nil]
theorem given_tick (acts : List ALinkAct) : givenOf (acts ++ [tickAct]) = givenOf acts := by rw [givenOf_snoc, if_neg (by decide), List.append_nil]
theorem spoilt_take (acts : List ALinkAct) : spoilt (acts ++ [takeAct]) = spoilt acts := by rw [spoilt_snoc, if_neg (by decide)]; rfl
theorem spoilt_tick (acts : List ALinkAct) : spoilt (acts ++ [tickAct]) = spoilt acts := by rw [spoilt_snoc, if_neg (by decide)]; rfl
theorem givenOf_take_succ (acts : List ALinkAct) (i : Nat) (h : i < acts.length) : givenOf (acts.take (i + 1)) = givenOf (acts.take i) ++ (if acts[i].1 = 1 then [acts[i].2.2] else []) := by
  rw [List.take_succ_eq_append_getElem h, givenOf_snoc]
theorem spoilt_take_succ (acts : List ALinkAct) (i : Nat) (h : i < acts.length) : spoilt (acts.take (i + 1)) = spoilt (acts.take i) + (if acts[i].1 = 6 then 1 else 0) := by
  rw [List.take_succ_eq_append_getElem h, spoilt_snoc]
theorem spoilt_len (acts : List ALinkAct) : spoilt acts ≤ acts.length := List.length_filter_le _ _
end Go.Proofs.Ytlopbheahedofaa.Fn
end
