/- The order of terms is an order: it turns round, is 0 for the same term alone, and goes over. When a table is one: two ways to say it. The rows of a key in a right table: as a filter, and as a span. Conditions: those of each theorem. -/
import Derived.Test.YtdldgchkinflmaaTermP
section
set_option linter.unusedVariables false
namespace Go.Proofs.Ytdldgchkinflmaa.Lib
open Go.RowKit Go.Proofs.Ytdldgchkinflmaa.Fn

/-- The first that is not 0. -/
def lex (a b : Int) : Int := if a = 0 then b else a
/-- Three answers of an order: first to second, second to third, first to third. -/
structure TR (x y z : Int) : Prop where
  le : x ≤ 0 → y ≤ 0 → z ≤ 0
  lt1 : x < 0 → y ≤ 0 → z < 0
  lt2 : x ≤ 0 → y < 0 → z < 0
  eq : x = 0 → y = 0 → z = 0
theorem TR.lex {x1 y1 z1 x2 y2 z2 : Int} (h : TR x1 y1 z1) (h2 : x1 = 0 → y1 = 0 → TR x2 y2 z2) : TR (lex x1 x2) (lex y1 y2) (lex z1 z2) := by
  obtain ⟨a, b, c, d⟩ := h
  unfold Lib.lex
  by_cases e1 : x1 = 0
  · by_cases e2 : y1 = 0
    · have e3 := d e1 e2
      rw [if_pos e1, if_pos e2, if_pos e3]
      exact h2 e1 e2
    · rw [if_pos e1, if_neg e2]
      constructor
      · intro _ hy
        have := c (by omega) (by omega)
        rw [if_neg (by omega)]; omega
      · intro _ hy
        have := c (by omega) (by omega)
        rw [if_neg (by omega)]; omega
      · intro _ hy
        have := c (by omega) (by omega)
        rw [if_neg (by omega)]; omega
      · intro _ hy; omega
  · rw [if_neg e1]
    constructor
    · intro hx hy
      have hy1 : y1 ≤ 0 := by
        by_cases e2 : y1 = 0
        · omega
        · rw [if_neg e2] at hy; exact hy
      have := b (by omega) hy1
      rw [if_neg (by omega)]; omega
    · intro hx hy
      have hy1 : y1 ≤ 0 := by
        by_cases e2 : y1 = 0
        · omega
        · rw [if_neg e2] at hy; exact hy
      have := b (by omega) hy1
      rw [if_neg (by omega)]; omega
    · intro hx hy
      have hy1 : y1 ≤ 0 := by
        by_cases e2 : y1 = 0
        · omega
        · rw [if_neg e2] at hy; omega
      have := b (by omega) hy1
      rw [if_neg (by omega)]; omega
    · intro hx; omega
theorem sgn_TR (a b c : Int) : TR (sgn a b) (sgn b c) (sgn a c) := by
  unfold sgn
  constructor <;> (repeat' split) <;> omega
theorem sgn_neg (a b : Int) : sgn b a = - sgn a b := by
  unfold sgn
  (repeat' split) <;> omega
theorem sgn_zero {a b : Int} : sgn a b = 0 ↔ a = b := by
  unfold sgn
  constructor <;> (repeat' split) <;> omega
theorem lex_neg {a b a' b' : Int} (h1 : a' = -a) (h2 : a = 0 → b' = -b) : lex a' b' = - lex a b := by
  unfold lex
  by_cases e : a = 0
  · rw [if_pos e, if_pos (by omega), h2 e]
  · rw [if_neg e, if_neg (by omega), h1]
theorem lex_zero {a b : Int} : lex a b = 0 ↔ a = 0 ∧ b = 0 := by
  unfold lex
  split <;> omega
/-! texts -/
theorem bytes_TR : ∀ (a b c : List UInt8), TR (Go.Lib.compareBytes a b) (Go.Lib.compareBytes b c) (Go.Lib.compareBytes a c)
  | [], [], [] => ⟨by simp [Go.Lib.compareBytes], by simp [Go.Lib.compareBytes], by simp [Go.Lib.compareBytes], by simp [Go.Lib.compareBytes]⟩
  | [], [], _ :: _ => ⟨by simp [Go.Lib.compareBytes], by simp [Go.Lib.compareBytes], by simp [Go.Lib.compareBytes], by simp [Go.Lib.compareBytes]⟩
  | [], _ :: _, [] => ⟨by simp [Go.Lib.compareBytes], by simp [Go.Lib.compareBytes], by simp [Go.Lib.compareBytes], by simp [Go.Lib.compareBytes]⟩
  | [], _ :: _, _ :: _ => ⟨by simp [Go.Lib.compareBytes], by simp [Go.Lib.compareBytes], by simp [Go.Lib.compareBytes], by simp [Go.Lib.compareBytes]⟩
  | _ :: _, [], _ => ⟨by simp [Go.Lib.compareBytes], by simp [Go.Lib.compareBytes], by simp [Go.Lib.compareBytes], by simp [Go.Lib.compareBytes]⟩
  | _ :: _, _ :: _, [] => ⟨by simp [Go.Lib.compareBytes], by simp [Go.Lib.compareBytes], by simp [Go.Lib.compareBytes], by simp [Go.Lib.compareBytes]⟩
  | x :: a, y :: b, z :: c => by
    have ih := bytes_TR a b c
    have e : ∀ (x y : UInt8) (a b : List UInt8), Go.Lib.compareBytes (x :: a) (y :: b) = lex (sgn x.toNat y.toNat) (Go.Lib.compareBytes a b) := by
      intro x y a b
      rw [Go.Lib.compareBytes]
      unfold lex sgn
      simp only [UInt8.lt_iff_toNat_lt, Int.ofNat_lt]
      by_cases h1 : x.toNat < y.toNat
      · simp [h1]
      · by_cases h2 : y.toNat < x.toNat
        · simp [h1, h2]
        · simp [h1, h2]
    rw [e, e, e]
    exact (sgn_TR _ _ _).lex fun _ _ => ih
theorem bytes_neg : ∀ (a b : List UInt8), Go.Lib.compareBytes b a = - Go.Lib.compareBytes a b
  | [], [] => rfl
  | [], _ :: _ => rfl
  | _ :: _, [] => rfl
  | x :: a, y :: b => by
    rw [Go.Lib.compareBytes, Go.Lib.compareBytes, bytes_neg a b]
    simp only [UInt8.lt_iff_toNat_lt]
    (repeat' split) <;> omega
theorem bytes_zero : ∀ {a b : List UInt8}, Go.Lib.compareBytes a b = 0 → a = b
  | [], [], _ => rfl
  | [], _ :: _, h => by simp [Go.Lib.compareBytes] at h
  | _ :: _, [], h => by simp [Go.Lib.compareBytes] at h
  | x :: a, y :: b, h => by
    rw [Go.Lib.compareBytes] at h
    simp only [UInt8.lt_iff_toNat_lt] at h
    by_cases h1 : x.toNat < y.toNat
    · rw [if_pos h1] at h; omega
    · rw [if_neg h1] at h
      by_cases h2 : y.toNat < x.toNat
      · rw [if_pos h2] at h; omega
      · rw [if_neg h2] at h
        rw [bytes_zero h, UInt8.toNat_inj.1 (show x.toNat = y.toNat by omega)]
theorem ordS_zero {a b : ByteArray} (h : ordS a b = 0) : a = b := by
  have := bytes_zero h
  exact ext_list (by rw [ByteArray.toList_eq, ByteArray.toList_eq, this])
/-! rows -/
def cmpL (f : T → T → Int) : List T → List T → Int
  | [], [] => 0
  | [], _ :: _ => -1
  | _ :: _, [] => 1
  | x :: xs, y :: ys => lex (f x y) (cmpL f xs ys)
theorem cmpL_TR {f : T → T → Int} : ∀ (a b c : List T), (∀ x ∈ a, ∀ y z, TR (f x y) (f y z) (f x z)) → TR (cmpL f a b) (cmpL f b c) (cmpL f a c)
  | [], [], [], _ => ⟨by simp [cmpL], by simp [cmpL], by simp [cmpL], by simp [cmpL]⟩
  | [], [], _ :: _, _ => ⟨by simp [cmpL], by simp [cmpL], by simp [cmpL], by simp [cmpL]⟩
  | [], _ :: _, [], _ => ⟨by simp [cmpL], by simp [cmpL], by simp [cmpL], by simp [cmpL]⟩
  | [], _ :: _, _ :: _, _ => ⟨by simp [cmpL], by simp [cmpL], by simp [cmpL], by simp [cmpL]⟩
  | _ :: _, [], _, _ => ⟨by simp [cmpL], by simp [cmpL], by simp [cmpL], by simp [cmpL]⟩
  | _ :: _, _ :: _, [], _ => ⟨by simp [cmpL], by simp [cmpL], by simp [cmpL], by simp [cmpL]⟩
  | x :: a, y :: b, z :: c, h => (h x (by simp) y z).lex fun _ _ => cmpL_TR a b c fun x hx => h x (by simp [hx])
theorem cmpL_neg {f : T → T → Int} : ∀ (a b : List T), (∀ x ∈ a, ∀ y, f y x = - f x y) → cmpL f b a = - cmpL f a b
  | [], [], _ => rfl
  | [], _ :: _, _ => rfl
  | _ :: _, [], _ => rfl
  | x :: a, y :: b, h => lex_neg (h x (by simp) y) fun _ => cmpL_neg a b fun x hx => h x (by simp [hx])
theorem cmpL_zero {f : T → T → Int} : ∀ {a b : List T}, (∀ x ∈ a, ∀ y, f x y = 0 → x = y) → cmpL f a b = 0 → a = b
  | [], [], _, _ => rfl
  | [], _ :: _, _, h => by simp [cmpL] at h
  | _ :: _, [], _, h => by simp [cmpL] at h
  | x :: a, y :: b, hf, h => by
    obtain ⟨h1, h2⟩ := lex_zero.1 h
    rw [hf x (by simp) y h1, cmpL_zero (fun x hx => hf x (by simp [hx])) h2]
theorem firstNe_cmpL {f : T → T → Int} : ∀ (a b : List T), a.length = b.length → firstNe f a b = cmpL f a b
  | [], [], _ => by simp [firstNe, cmpL]
  | [], _ :: _, h => by simp at h
  | _ :: _, [], h => by simp at h
  | x :: a, y :: b, h => by
    rw [firstNe, cmpL, lex, firstNe_cmpL a b (by simpa using h)]
theorem firstNe_len {f : T → T → Int} : ∀ (a b : List T), (if firstNe f a b = 0 then sgn a.length b.length else firstNe f a b) = cmpL f a b
  | [], [] => by simp [firstNe, cmpL, sgn]
  | [], _ :: _ => by first | (simp [firstNe, cmpL, sgn]; done) | (simp [firstNe, cmpL, sgn]; omega)
  | _ :: _, [] => by first | (simp [firstNe, cmpL, sgn]; done) | (simp [firstNe, cmpL, sgn]; omega)
  | x :: a, y :: b => by
    rw [firstNe, cmpL, lex, ← firstNe_len a b]
    by_cases e : f x y = 0
    · rw [if_pos e, if_pos e]
      congr 1
      unfold sgn
      simp
    · rw [if_neg e, if_neg e, if_neg e]
theorem evens_len {α β : Type} : ∀ (a : List α) (b : List β), a.length = b.length → (evens a).length = (evens b).length
  | [], [], _ => rfl
  | [_], [_], _ => rfl
  | _ :: _ :: a, _ :: _ :: b, h => by
    simp only [evens, List.length_cons] at h ⊢
    rw [evens_len a b (by omega)]
  | [], _ :: _, h => by simp at h
  | _ :: _, [], h => by simp at h
  | [_], _ :: _ :: _, h => by simp at h
  | _ :: _ :: _, [_], h => by simp at h
theorem evens_inj {α : Type} : ∀ {a b : List α}, a.length = b.length → evens a = evens b → evens a.tail = evens b.tail → a = b
  | [], [], _, _, _ => rfl
  | [_], [_], _, h, _ => h
  | x :: y :: a, z :: u :: b, hl, h1, h2 => by
    simp only [evens, List.cons.injEq] at h1
    obtain ⟨rfl, h1⟩ := h1
    have e1 : evens (y :: a) = y :: evens a.tail := by cases a <;> rfl
    have e2 : evens (u :: b) = u :: evens b.tail := by cases b <;> rfl
    simp only [List.tail_cons] at h2
    rw [e1, e2, List.cons.injEq] at h2
    obtain ⟨rfl, h2⟩ := h2
    rw [evens_inj (by simpa using hl) h1 h2]
  | [], _ :: _, h, _, _ => by simp at h
  | _ :: _, [], h, _, _ => by simp at h
  | [_], _ :: _ :: _, h, _, _ => by simp at h
  | _ :: _ :: _, [_], h, _, _ => by simp at h
/-- The order of two rows of kids, as one word. -/
def ordK (k : Int) (ts us : List T) : Int := if k = 8 then cmpL T.cmp ts us else lex (sgn ts.length us.length) (if k = 7 then lex (cmpL T.cmp (evens ts) (evens us)) (cmpL T.cmp (evens ts.tail) (evens us.tail)) else cmpL T.cmp ts us)
theorem cmpKids_ordK (k : Int) (ts us : List T) : cmpKids k ts us = ordK k ts us := by
  unfold cmpKids ordK
  by_cases e8 : k = 8
  · rw [if_pos e8, if_pos e8, firstNe_len]
  · rw [if_neg e8, if_neg e8]
    by_cases el : ts.length = us.length
    · have hz : sgn (ts.length : Int) us.length = 0 := sgn_zero.2 (by omega)
      rw [if_neg (by simpa using el), lex, if_pos hz]
      by_cases e7 : k = 7
      · rw [if_pos e7, if_pos e7, lex, firstNe_cmpL _ _ (evens_len _ _ el), firstNe_cmpL _ _ (evens_len _ _ (by simp [el]))]
      · rw [if_neg e7, if_neg e7, firstNe_cmpL _ _ el]
    · have hz : sgn (ts.length : Int) us.length ≠ 0 := fun h => el (by have := sgn_zero.1 h; omega)
      rw [if_pos el, lex, if_neg hz]
theorem cmp_lex (k n : Int) (s : ByteArray) (ts : List T) (k' n' : Int) (s' : ByteArray) (us : List T) :
    T.cmp (.mk k n s ts) (.mk k' n' s' us) = lex (sgn k k') (lex (sgn n n') (lex (ordS s s') (ordK k ts us))) := by
  rw [T.cmp_eq, cmpKids_ordK]
  unfold lex
  by_cases e1 : k = k'
  · subst e1
    rw [if_neg (by simp), if_pos (sgn_zero.2 rfl)]
    by_cases e2 : n = n'
    · subst e2
      rw [if_neg (by simp), if_pos (sgn_zero.2 rfl)]
      by_cases e3 : s = s'
      · subst e3
        rw [if_neg (by simp), if_pos (ordS_self s)]
      · rw [if_pos e3, if_neg (fun h => e3 (ordS_zero h))]
    · rw [if_pos e2, if_neg (fun h => e2 (sgn_zero.1 h))]
  · rw [if_pos e1, if_neg (fun h => e1 (sgn_zero.1 h))]
theorem mem_tail {α : Type} {x : α} {l : List α} (h : x ∈ l.tail) : x ∈ l := by
  cases l with
  | nil => exact h
  | cons y l => exact List.mem_cons_of_mem _ h
theorem cmp_TR (a : T) : ∀ b c, TR (T.cmp a b) (T.cmp b c) (T.cmp a c) := by
  induction a using T.ind with
  | h k n s ts ih =>
  rintro ⟨k', n', s', us⟩ ⟨k2, n2, s2, vs⟩
  rw [cmp_lex, cmp_lex, cmp_lex]
  refine (sgn_TR _ _ _).lex fun e1 e2 => ?_
  obtain rfl := sgn_zero.1 e1
  refine (sgn_TR _ _ _).lex fun _ _ => ?_
  refine (bytes_TR _ _ _).lex fun _ _ => ?_
  unfold ordK
  by_cases e8 : k = 8
  · simp only [if_pos e8]
    exact cmpL_TR _ _ _ ih
  · simp only [if_neg e8]
    refine (sgn_TR _ _ _).lex fun _ _ => ?_
    by_cases e7 : k = 7
    · simp only [if_pos e7]
      exact (cmpL_TR _ _ _ fun x hx => ih x (mem_evens hx)).lex fun _ _ => cmpL_TR _ _ _ fun x hx => ih x (mem_tail (mem_evens hx))
    · simp only [if_neg e7]
      exact cmpL_TR _ _ _ ih
theorem cmp_neg (a : T) : ∀ b, T.cmp b a = - T.cmp a b := by
  induction a using T.ind with
  | h k n s ts ih =>
  rintro ⟨k', n', s', us⟩
  rw [cmp_lex, cmp_lex]
  refine lex_neg (sgn_neg _ _) fun e1 => ?_
  obtain rfl := sgn_zero.1 e1
  refine lex_neg (sgn_neg _ _) fun _ => lex_neg (bytes_neg _ _) fun _ => ?_
  unfold ordK
  by_cases e8 : k = 8
  · simp only [if_pos e8]
    exact cmpL_neg _ _ ih
  · simp only [if_neg e8]
    refine lex_neg (sgn_neg _ _) fun _ => ?_
    by_cases e7 : k = 7
    · simp only [if_pos e7]
      exact lex_neg (cmpL_neg _ _ fun x hx => ih x (mem_evens hx)) fun _ => cmpL_neg _ _ fun x hx => ih x (mem_tail (mem_evens hx))
    · simp only [if_neg e7]
      exact cmpL_neg _ _ ih
theorem cmp_zero (a : T) : ∀ b, T.cmp a b = 0 → a = b := by
  induction a using T.ind with
  | h k n s ts ih =>
  rintro ⟨k', n', s', us⟩ h
  rw [cmp_lex] at h
  obtain ⟨e1, ha⟩ := lex_zero.1 h
  obtain ⟨e2, hb⟩ := lex_zero.1 ha
  obtain ⟨e3, hc⟩ := lex_zero.1 hb
  clear h ha hb
  obtain rfl := sgn_zero.1 e1
  obtain rfl := sgn_zero.1 e2
  obtain rfl := ordS_zero e3
  have : ts = us := by
    unfold ordK at hc
    by_cases e8 : k = 8
    · rw [if_pos e8] at hc
      exact cmpL_zero ih hc
    · rw [if_neg e8] at hc
      obtain ⟨el, hd⟩ := lex_zero.1 hc
      have el2 : ts.length = us.length := by have := sgn_zero.1 el; omega
      by_cases e7 : k = 7
      · rw [if_pos e7] at hd
        obtain ⟨h1, h2⟩ := lex_zero.1 hd
        exact evens_inj el2 (cmpL_zero (fun x hx => ih x (mem_evens hx)) h1) (cmpL_zero (fun x hx => ih x (mem_tail (mem_evens hx))) h2)
      · rw [if_neg e7] at hd
        exact cmpL_zero ih hd
  rw [this]
theorem cmp_self (a : T) : T.cmp a a = 0 := by
  have := cmp_neg a a
  omega
end Go.Proofs.Ytdldgchkinflmaa.Lib
end
section
set_option linter.unusedVariables false
namespace Go.Proofs.Ytdldgchkinflmaa.Lib
open Go.RowKit Go.Proofs.Ytdldgchkinflmaa.Fn

/-- A row's key. -/
def keyT (r : T) : T := r.kids.headD r
def rowB (r : T) : Bool := r.okB && (decide (r.kind = 6) && decide (0 < r.kids.length))
/-- A row against those ahead of it, the next aheadT first: as the reference has it. -/
def innerS (ty : Int) : List T → T → Bool
  | [], _ => true
  | p :: ps, r =>
    if 0 < T.cmp (keyT p) (keyT r) ∨ (T.cmp (keyT p) (keyT r) = 0 ∧ ty = 1) ∨ (ty = 2 ∧ T.cmp p r = 0) then false
    else if T.cmp (keyT p) (keyT r) < 0 then true else innerS ty ps r
/-- .. as the program has it: the bag's own rounds. -/
def bagI (ty : Int) : List T → T → Bool
  | [], _ => true
  | p :: ps, r => if ty = 2 ∧ T.cmp (keyT p) (keyT r) = 0 then (if T.cmp p r = 0 then false else bagI ty ps r) else true
theorem bagI_no {ty : Int} (h : ty ≠ 2) (ps : List T) (r : T) : bagI ty ps r = true := by
  cases ps with
  | nil => rfl
  | cons p ps => rw [bagI, if_neg (by omega)]
def innerI (ty : Int) : List T → T → Bool
  | [], _ => true
  | p :: ps, r => if 0 < T.cmp (keyT p) (keyT r) ∨ (T.cmp (keyT p) (keyT r) = 0 ∧ ty = 1) then false else bagI ty (p :: ps) r
def goS (ty : Int) : List T → List T → Bool
  | _, [] => true
  | P, r :: rs => rowB r && (innerS ty P r && goS ty (r :: P) rs)
def goI (ty : Int) : List T → List T → Bool
  | _, [] => true
  | P, r :: rs => rowB r && (innerI ty P r && goI ty (r :: P) rs)
/-- Each key is not above the one behind it. -/
def Sorted : List T → Prop
  | p :: q :: ps => T.cmp (keyT q) (keyT p) ≤ 0 ∧ Sorted (q :: ps)
  | _ => True
theorem inner_tail (ty : Int) (hty : ty ≠ 1) : ∀ (ps : List T) (p r : T), Sorted (p :: ps) → keyT p = keyT r → innerS ty ps r = bagI ty ps r
  | [], _, _, _, _ => rfl
  | q :: ps, p, r, hs, hk => by
    have h1 : T.cmp (keyT q) (keyT r) ≤ 0 := by rw [← hk]; exact hs.1
    rw [innerS, bagI]
    by_cases e : T.cmp (keyT q) (keyT r) = 0
    · have hk2 := cmp_zero _ _ e
      have ih := inner_tail ty hty ps q r hs.2 hk2
      by_cases e2 : ty = 2
      · by_cases e3 : T.cmp q r = 0
        · rw [if_pos (Or.inr (Or.inr ⟨e2, e3⟩)), if_pos ⟨e2, e⟩, if_pos e3]
        · rw [if_neg (by omega), if_neg (by omega), if_pos ⟨e2, e⟩, if_neg e3, ih]
      · rw [if_neg (by omega), if_neg (by omega), if_neg (by omega), ih]
        cases ps with
        | nil => rfl
        | cons u ps => rw [bagI, if_neg (by omega)]
    · have e3 : T.cmp q r ≠ 0 := fun h => e (by rw [cmp_zero _ _ h]; exact cmp_self _)
      rw [if_neg (by omega), if_pos (by omega), if_neg (by omega)]
theorem inner_eq (ty : Int) (P : List T) (r : T) (hs : Sorted P) : innerS ty P r = innerI ty P r := by
  cases P with
  | nil => rfl
  | cons p ps =>
    rw [innerS, innerI]
    by_cases h1 : 0 < T.cmp (keyT p) (keyT r)
    · rw [if_pos (Or.inl h1), if_pos (Or.inl h1)]
    · by_cases h2 : T.cmp (keyT p) (keyT r) = 0 ∧ ty = 1
      · rw [if_pos (Or.inr (Or.inl h2)), if_pos (Or.inr h2)]
      · rw [if_neg (show ¬ (0 < T.cmp (keyT p) (keyT r) ∨ (T.cmp (keyT p) (keyT r) = 0 ∧ ty = 1)) by omega), bagI]
        by_cases e : T.cmp (keyT p) (keyT r) = 0
        · have hk := cmp_zero _ _ e
          have hty : ty ≠ 1 := fun h => h2 ⟨e, h⟩
          have ih := inner_tail ty hty ps p r hs hk
          by_cases e2 : ty = 2
          · by_cases e3 : T.cmp p r = 0
            · rw [if_pos (Or.inr (Or.inr ⟨e2, e3⟩)), if_pos ⟨e2, e⟩, if_pos e3]
            · rw [if_neg (by omega), if_neg (by omega), if_pos ⟨e2, e⟩, if_neg e3, ih]
          · rw [if_neg (by omega), if_neg (by omega), if_neg (by omega), ih]
            cases ps with
            | nil => rfl
            | cons u ps => rw [bagI, if_neg (by omega)]
        · have e3 : T.cmp p r ≠ 0 := fun h => e (by rw [cmp_zero _ _ h]; exact cmp_self _)
          rw [if_neg (by omega), if_pos (by omega), if_neg (by omega)]
theorem sorted_next {ty : Int} {P : List T} {r : T} (hs : Sorted P) (h : innerI ty P r = true) : Sorted (r :: P) := by
  cases P with
  | nil => trivial
  | cons p ps =>
    refine ⟨?_, hs⟩
    rw [innerI] at h
    split at h
    · cases h
    · omega
theorem go_eq (ty : Int) : ∀ (rs P : List T), Sorted P → goS ty P rs = goI ty P rs
  | [], _, _ => rfl
  | r :: rs, P, hs => by
    rw [goS, goI, inner_eq ty P r hs]
    cases hi : innerI ty P r with
    | false => simp
    | true => rw [go_eq ty rs (r :: P) (sorted_next hs hi)]
/-- those ahead of a place, the next aheadT first. -/
def aheadT (rows : List T) (i : Nat) : List T := (rows.take i).reverse
theorem aheadT_succ (rows : List T) (i : Nat) (h : i < rows.length) : aheadT rows (i + 1) = rows[i] :: aheadT rows i := by
  rw [aheadT, List.take_succ_eq_append_getElem h, List.reverse_append]
  rfl
def tabB (ty : Int) (rows : List T) : Bool := decide (1 ≤ ty ∧ ty ≤ 3) && (decide (rows.length ≤ 500) && goI ty [] rows)
theorem goI_step (ty : Int) (rows : List T) (i : Nat) (h : i < rows.length) : goI ty (aheadT rows i) (rows.drop i) = (rowB rows[i] && (innerI ty (aheadT rows i) rows[i] && goI ty (aheadT rows (i + 1)) (rows.drop (i + 1)))) := by
  rw [List.drop_eq_getElem_cons h, goI, aheadT_succ rows i h]
theorem goS_step (ty : Int) (rows : List T) (i : Nat) (h : i < rows.length) : goS ty (aheadT rows i) (rows.drop i) = (rowB rows[i] && (innerS ty (aheadT rows i) rows[i] && goS ty (aheadT rows (i + 1)) (rows.drop (i + 1)))) := by
  rw [List.drop_eq_getElem_cons h, goS, aheadT_succ rows i h]
theorem tabB_S (ty : Int) (rows : List T) : tabB ty rows = (decide (1 ≤ ty ∧ ty ≤ 3) && (decide (rows.length ≤ 500) && goS ty [] rows)) := by
  rw [tabB, go_eq ty rows [] trivial]
end Go.Proofs.Ytdldgchkinflmaa.Lib
end
section
set_option linter.unusedVariables false
namespace Go.Proofs.Ytdldgchkinflmaa.Lib
open Go.RowKit Go.Proofs.Ytdldgchkinflmaa.Fn

def sameK (key r : T) : Bool := decide (T.cmp (keyT r) key = 0)
def geK (key r : T) : Bool := decide (0 ≤ T.cmp (keyT r) key)
/-- Each key is not above any behind it. -/
def Up : List T → Prop
  | [] => True
  | r :: rs => (∀ x ∈ rs, T.cmp (keyT r) (keyT x) ≤ 0) ∧ Up rs
theorem goI_up (ty : Int) : ∀ (rs : List T) (p : T) (ps : List T), goI ty (p :: ps) rs = true → Up (p :: rs)
  | [], p, ps, _ => ⟨fun x hx => (List.not_mem_nil hx).elim, trivial⟩
  | r :: rs, p, ps, h => by
    rw [goI] at h
    simp only [Bool.and_eq_true] at h
    have h1 : T.cmp (keyT p) (keyT r) ≤ 0 := by
      have := h.2.1
      rw [innerI] at this
      split at this
      · cases this
      · omega
    have ih := goI_up ty rs r (p :: ps) h.2.2
    refine ⟨fun x hx => ?_, ih⟩
    rcases List.mem_cons.1 hx with rfl | hx
    · exact h1
    · have h2 := ih.1 x hx
      have tr := cmp_TR (keyT p) (keyT r) (keyT x)
      exact tr.le h1 h2
theorem tabB_up {ty : Int} {rows : List T} (h : tabB ty rows = true) : Up rows := by
  simp only [tabB, Bool.and_eq_true] at h
  have h2 := h.2.2
  cases rows with
  | nil => trivial
  | cons r rs =>
    rw [goI] at h2
    simp only [Bool.and_eq_true] at h2
    exact goI_up ty rs r [] h2.2.2
/-- How many of the first rows are below the key, and how many from there on have it. -/
def fromK (key : T) (rows : List T) : Nat := (rows.takeWhile fun r => !geK key r).length
def sames (key : T) (rows : List T) : Nat := (rows.takeWhile (sameK key)).length
theorem above (key r x : T) (h : T.cmp (keyT r) (keyT x) ≤ 0) (hr : 0 < T.cmp (keyT r) key) : 0 < T.cmp (keyT x) key := by
  by_cases hx : T.cmp (keyT x) key ≤ 0
  · have := (cmp_TR (keyT r) (keyT x) key).le h hx
    omega
  · omega
theorem filter_same (key : T) : ∀ rows, Up rows → rows.filter (sameK key) = (rows.drop (fromK key rows)).take (sames key (rows.drop (fromK key rows)))
  | [], _ => rfl
  | r :: rs, h => by
    by_cases h1 : T.cmp (keyT r) key < 0
    · have e1 : sameK key r = false := by simp only [sameK, decide_eq_false_iff_not]; omega
      have e2 : geK key r = false := by simp only [geK, decide_eq_false_iff_not]; omega
      have e3 : fromK key (r :: rs) = fromK key rs + 1 := by rw [fromK, fromK, List.takeWhile_cons, e2]; rfl
      rw [List.filter_cons, e1, e3, List.drop_succ_cons]
      simp only [Bool.false_eq_true, if_false]
      exact filter_same key rs h.2
    · have e2 : geK key r = true := by simp only [geK, decide_eq_true_eq]; omega
      have e3 : fromK key (r :: rs) = 0 := by rw [fromK, List.takeWhile_cons, e2]; rfl
      rw [e3, List.drop_zero]
      exact filter_while key (r :: rs) h (fun x hx => by
        rcases List.mem_cons.1 hx with rfl | hx
        · omega
        · by_cases e : T.cmp (keyT r) key = 0
          · have hz := cmp_zero _ _ e
            have := h.1 x hx
            rw [hz] at this
            have hn := cmp_neg key (keyT x)
            omega
          · have := above key r x (h.1 x hx) (by omega)
            omega)
where
  filter_while (key : T) : ∀ rows, Up rows → (∀ x ∈ rows, 0 ≤ T.cmp (keyT x) key) → rows.filter (sameK key) = rows.take (sames key rows)
    | [], _, _ => rfl
    | r :: rs, h, hge => by
      by_cases e : T.cmp (keyT r) key = 0
      · have e1 : sameK key r = true := by simp only [sameK, decide_eq_true_eq]; exact e
        have e3 : sames key (r :: rs) = sames key rs + 1 := by rw [sames, sames, List.takeWhile_cons, e1]; rfl
        rw [List.filter_cons, e1, e3, List.take_succ_cons, if_pos rfl]
        exact congrArg _ (filter_while key rs h.2 (fun x hx => hge x (List.mem_cons_of_mem _ hx)))
      · have e1 : sameK key r = false := by simp only [sameK, decide_eq_false_iff_not]; exact e
        have e3 : sames key (r :: rs) = 0 := by rw [sames, List.takeWhile_cons, e1]; rfl
        have hr := hge r (by simp)
        rw [e3, List.take_zero, List.filter_cons, e1]
        simp only [Bool.false_eq_true, if_false]
        rw [List.filter_eq_nil_iff]
        intro x hx
        have := above key r x (h.1 x hx) (by omega)
        simp only [sameK, decide_eq_true_eq]
        omega
theorem filter_other (key : T) : ∀ rows, Up rows → rows.filter (fun r => !sameK key r) = rows.take (fromK key rows) ++ rows.drop (fromK key rows + sames key (rows.drop (fromK key rows)))
  | [], _ => rfl
  | r :: rs, h => by
    by_cases h1 : T.cmp (keyT r) key < 0
    · have e1 : sameK key r = false := by simp only [sameK, decide_eq_false_iff_not]; omega
      have e2 : geK key r = false := by simp only [geK, decide_eq_false_iff_not]; omega
      have e3 : fromK key (r :: rs) = fromK key rs + 1 := by rw [fromK, fromK, List.takeWhile_cons, e2]; rfl
      rw [List.filter_cons, e1, e3, List.drop_succ_cons, List.take_succ_cons]
      rw [show fromK key rs + 1 + sames key (rs.drop (fromK key rs)) = (fromK key rs + sames key (rs.drop (fromK key rs))) + 1 by omega, List.drop_succ_cons]
      simp only [Bool.not_false, if_true, List.cons_append]
      exact congrArg _ (filter_other key rs h.2)
    · have e2 : geK key r = true := by simp only [geK, decide_eq_true_eq]; omega
      have e3 : fromK key (r :: rs) = 0 := by rw [fromK, List.takeWhile_cons, e2]; rfl
      rw [e3, List.drop_zero, List.take_zero, List.nil_append, Nat.zero_add]
      exact other_while key (r :: rs) h (fun x hx => by
        rcases List.mem_cons.1 hx with rfl | hx
        · omega
        · by_cases e : T.cmp (keyT r) key = 0
          · have hz := cmp_zero _ _ e
            have := h.1 x hx
            rw [hz] at this
            have hn := cmp_neg key (keyT x)
            omega
          · have := above key r x (h.1 x hx) (by omega)
            omega)
where
  other_while (key : T) : ∀ rows, Up rows → (∀ x ∈ rows, 0 ≤ T.cmp (keyT x) key) → rows.filter (fun r => !sameK key r) = rows.drop (sames key rows)
    | [], _, _ => rfl
    | r :: rs, h, hge => by
      by_cases e : T.cmp (keyT r) key = 0
      · have e1 : sameK key r = true := by simp only [sameK, decide_eq_true_eq]; exact e
        have e3 : sames key (r :: rs) = sames key rs + 1 := by rw [sames, sames, List.takeWhile_cons, e1]; rfl
        rw [List.filter_cons, e1, e3, List.drop_succ_cons]
        simp only [Bool.not_true, Bool.false_eq_true, if_false]
        exact other_while key rs h.2 (fun x hx => hge x (List.mem_cons_of_mem _ hx))
      · have e1 : sameK key r = false := by simp only [sameK, decide_eq_false_iff_not]; exact e
        have e3 : sames key (r :: rs) = 0 := by rw [sames, List.takeWhile_cons, e1]; rfl
        have hr := hge r (by simp)
        rw [e3, List.drop_zero, List.filter_eq_self]
        intro x hx
        rcases List.mem_cons.1 hx with rfl | hx
        · rw [e1]; rfl
        · have := above key r x (h.1 x hx) (by omega)
          simp only [sameK, Bool.not_eq_true', decide_eq_false_iff_not]
          omega
end Go.Proofs.Ytdldgchkinflmaa.Lib
end
