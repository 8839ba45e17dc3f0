/- The order of terms is an order: it turns round, is 0 for the same term alone, and goes over. Conditions: none. -/
import Derived.Test.YtdldgchkinflmaaTermP
set_option linter.unusedVariables false
namespace Go.Proofs.Ytdldgchkinflmaa.Lib
open Go.RowKit Go.Proofs.Ytdldgchkinflmaa.Fn

/-- The first that is not 0. -/
def lex (a b : Int) : Int := if a = 0 then b else a
/-- Three answers of an order: first to second, second to third, first to third. -/
structure TR (x y z : Int) : Prop where
  le : x ≤ 0 → y ≤ 0 → z ≤ 0
  lt1 : x < 0 → y ≤ 0 → z < 0
  lt2 : x ≤ 0 → y < 0 → z < 0
  eq : x = 0 → y = 0 → z = 0
theorem TR.lex {x1 y1 z1 x2 y2 z2 : Int} (h : TR x1 y1 z1) (h2 : x1 = 0 → y1 = 0 → TR x2 y2 z2) : TR (lex x1 x2) (lex y1 y2) (lex z1 z2) := by
  obtain ⟨a, b, c, d⟩ := h
  unfold Lib.lex
  by_cases e1 : x1 = 0
  · by_cases e2 : y1 = 0
    · have e3 := d e1 e2
      rw [if_pos e1, if_pos e2, if_pos e3]
      exact h2 e1 e2
    · rw [if_pos e1, if_neg e2]
      constructor
      · intro _ hy
        have := c (by omega) (by omega)
        rw [if_neg (by omega)]; omega
      · intro _ hy
        have := c (by omega) (by omega)
        rw [if_neg (by omega)]; omega
      · intro _ hy
        have := c (by omega) (by omega)
        rw [if_neg (by omega)]; omega
      · intro _ hy; omega
  · rw [if_neg e1]
    constructor
    · intro hx hy
      have hy1 : y1 ≤ 0 := by
        by_cases e2 : y1 = 0
        · omega
        · rw [if_neg e2] at hy; exact hy
      have := b (by omega) hy1
      rw [if_neg (by omega)]; omega
    · intro hx hy
      have hy1 : y1 ≤ 0 := by
        by_cases e2 : y1 = 0
        · omega
        · rw [if_neg e2] at hy; exact hy
      have := b (by omega) hy1
      rw [if_neg (by omega)]; omega
    · intro hx hy
      have hy1 : y1 ≤ 0 := by
        by_cases e2 : y1 = 0
        · omega
        · rw [if_neg e2] at hy; omega
      have := b (by omega) hy1
      rw [if_neg (by omega)]; omega
    · intro hx; omega
theorem sgn_TR (a b c : Int) : TR (sgn a b) (sgn b c) (sgn a c) := by
  unfold sgn
  constructor <;> (repeat' split) <;> omega
theorem sgn_neg (a b : Int) : sgn b a = - sgn a b := by
  unfold sgn
  (repeat' split) <;> omega
theorem sgn_zero {a b : Int} : sgn a b = 0 ↔ a = b := by
  unfold sgn
  constructor <;> (repeat' split) <;> omega
theorem lex_neg {a b a' b' : Int} (h1 : a' = -a) (h2 : a = 0 → b' = -b) : lex a' b' = - lex a b := by
  unfold lex
  by_cases e : a = 0
  · rw [if_pos e, if_pos (by omega), h2 e]
  · rw [if_neg e, if_neg (by omega), h1]
theorem lex_zero {a b : Int} : lex a b = 0 ↔ a = 0 ∧ b = 0 := by
  unfold lex
  split <;> omega
/-! texts -/
theorem bytes_TR : ∀ (a b c : List UInt8), TR (Go.Lib.compareBytes a b) (Go.Lib.compareBytes b c) (Go.Lib.compareBytes a c)
  | [], [], [] => ⟨by simp [Go.Lib.compareBytes], by simp [Go.Lib.compareBytes], by simp [Go.Lib.compareBytes], by simp [Go.Lib.compareBytes]⟩
  | [], [], _ :: _ => ⟨by simp [Go.Lib.compareBytes], by simp [Go.Lib.compareBytes], by simp [Go.Lib.compareBytes], by simp [Go.Lib.compareBytes]⟩
  | [], _ :: _, [] => ⟨by simp [Go.Lib.compareBytes], by simp [Go.Lib.compareBytes], by simp [Go.Lib.compareBytes], by simp [Go.Lib.compareBytes]⟩
  | [], _ :: _, _ :: _ => ⟨by simp [Go.Lib.compareBytes], by simp [Go.Lib.compareBytes], by simp [Go.Lib.compareBytes], by simp [Go.Lib.compareBytes]⟩
  | _ :: _, [], _ => ⟨by simp [Go.Lib.compareBytes], by simp [Go.Lib.compareBytes], by simp [Go.Lib.compareBytes], by simp [Go.Lib.compareBytes]⟩
  | _ :: _, _ :: _, [] => ⟨by simp [Go.Lib.compareBytes], by simp [Go.Lib.compareBytes], by simp [Go.Lib.compareBytes], by simp [Go.Lib.compareBytes]⟩
  | x :: a, y :: b, z :: c => by
    have ih := bytes_TR a b c
    have e : ∀ (x y : UInt8) (a b : List UInt8), Go.Lib.compareBytes (x :: a) (y :: b) = lex (sgn x.toNat y.toNat) (Go.Lib.compareBytes a b) := by
      intro x y a b
      rw [Go.Lib.compareBytes]
      unfold lex sgn
      simp only [UInt8.lt_iff_toNat_lt, Int.ofNat_lt]
      by_cases h1 : x.toNat < y.toNat
      · simp [h1]
      · by_cases h2 : y.toNat < x.toNat
        · simp [h1, h2]
        · simp [h1, h2]
    rw [e, e, e]
    exact (sgn_TR _ _ _).lex fun _ _ => ih
theorem bytes_neg : ∀ (a b : List UInt8), Go.Lib.compareBytes b a = - Go.Lib.compareBytes a b
  | [], [] => rfl
  | [], _ :: _ => rfl
  | _ :: _, [] => rfl
  | x :: a, y :: b => by
    rw [Go.Lib.compareBytes, Go.Lib.compareBytes, bytes_neg a b]
    simp only [UInt8.lt_iff_toNat_lt]
    (repeat' split) <;> omega
theorem bytes_zero : ∀ {a b : List UInt8}, Go.Lib.compareBytes a b = 0 → a = b
  | [], [], _ => rfl
  | [], _ :: _, h => by simp [Go.Lib.compareBytes] at h
  | _ :: _, [], h => by simp [Go.Lib.compareBytes] at h
  | x :: a, y :: b, h => by
    rw [Go.Lib.compareBytes] at h
    simp only [UInt8.lt_iff_toNat_lt] at h
    by_cases h1 : x.toNat < y.toNat
    · rw [if_pos h1] at h; omega
    · rw [if_neg h1] at h
      by_cases h2 : y.toNat < x.toNat
      · rw [if_pos h2] at h; omega
      · rw [if_neg h2] at h
        rw [bytes_zero h, UInt8.toNat_inj.1 (show x.toNat = y.toNat by omega)]
theorem ordS_zero {a b : ByteArray} (h : ordS a b = 0) : a = b := by
  have := bytes_zero h
  exact ext_list (by rw [ByteArray.toList_eq, ByteArray.toList_eq, this])
/-! rows -/
def cmpL (f : T → T → Int) : List T → List T → Int
  | [], [] => 0
  | [], _ :: _ => -1
  | _ :: _, [] => 1
  | x :: xs, y :: ys => lex (f x y) (cmpL f xs ys)
theorem cmpL_TR {f : T → T → Int} : ∀ (a b c : List T), (∀ x ∈ a, ∀ y z, TR (f x y) (f y z) (f x z)) → TR (cmpL f a b) (cmpL f b c) (cmpL f a c)
  | [], [], [], _ => ⟨by simp [cmpL], by simp [cmpL], by simp [cmpL], by simp [cmpL]⟩
  | [], [], _ :: _, _ => ⟨by simp [cmpL], by simp [cmpL], by simp [cmpL], by simp [cmpL]⟩
  | [], _ :: _, [], _ => ⟨by simp [cmpL], by simp [cmpL], by simp [cmpL], by simp [cmpL]⟩
  | [], _ :: _, _ :: _, _ => ⟨by simp [cmpL], by simp [cmpL], by simp [cmpL], by simp [cmpL]⟩
  | _ :: _, [], _, _ => ⟨by simp [cmpL], by simp [cmpL], by simp [cmpL], by simp [cmpL]⟩
  | _ :: _, _ :: _, [], _ => ⟨by simp [cmpL], by simp [cmpL], by simp [cmpL], by simp [cmpL]⟩
  | x :: a, y :: b, z :: c, h => (h x (by simp) y z).lex fun _ _ => cmpL_TR a b c fun x hx => h x (by simp [hx])
theorem cmpL_neg {f : T → T → Int} : ∀ (a b : List T), (∀ x ∈ a, ∀ y, f y x = - f x y) → cmpL f b a = - cmpL f a b
  | [], [], _ => rfl
  | [], _ :: _, _ => rfl
  | _ :: _, [], _ => rfl
  | x :: a, y :: b, h => lex_neg (h x (by simp) y) fun _ => cmpL_neg a b fun x hx => h x (by simp [hx])
theorem cmpL_zero {f : T → T → Int} : ∀ {a b : List T}, (∀ x ∈ a, ∀ y, f x y = 0 → x = y) → cmpL f a b = 0 → a = b
  | [], [], _, _ => rfl
  | [], _ :: _, _, h => by simp [cmpL] at h
  | _ :: _, [], _, h => by simp [cmpL] at h
  | x :: a, y :: b, hf, h => by
    obtain ⟨h1, h2⟩ := lex_zero.1 h
    rw [hf x (by simp) y h1, cmpL_zero (fun x hx => hf x (by simp [hx])) h2]
theorem firstNe_cmpL {f : T → T → Int} : ∀ (a b : List T), a.length = b.length → firstNe f a b = cmpL f a b
  | [], [], _ => by simp [firstNe, cmpL]
  | [], _ :: _, h => by simp at h
  | _ :: _, [], h => by simp at h
  | x :: a, y :: b, h => by
    rw [firstNe, cmpL, lex, firstNe_cmpL a b (by simpa using h)]
theorem firstNe_len {f : T → T → Int} : ∀ (a b : List T), (if firstNe f a b = 0 then sgn a.length b.length else firstNe f a b) = cmpL f a b
  | [], [] => by simp [firstNe, cmpL, sgn]
  | [], _ :: _ => by first | (simp [firstNe, cmpL, sgn]; done) | (simp [firstNe, cmpL, sgn]; omega)
  | _ :: _, [] => by first | (simp [firstNe, cmpL, sgn]; done) | (simp [firstNe, cmpL, sgn]; omega)
  | x :: a, y :: b => by
    rw [firstNe, cmpL, lex, ← firstNe_len a b]
    by_cases e : f x y = 0
    · rw [if_pos e, if_pos e]
      congr 1
      unfold sgn
      simp
    · rw [if_neg e, if_neg e, if_neg e]
theorem evens_len {α β : Type} : ∀ (a : List α) (b : List β), a.length = b.length → (evens a).length = (evens b).length
  | [], [], _ => rfl
  | [_], [_], _ => rfl
  | _ :: _ :: a, _ :: _ :: b, h => by
    simp only [evens, List.length_cons] at h ⊢
    rw [evens_len a b (by omega)]
  | [], _ :: _, h => by simp at h
  | _ :: _, [], h => by simp at h
  | [_], _ :: _ :: _, h => by simp at h
  | _ :: _ :: _, [_], h => by simp at h
theorem evens_inj {α : Type} : ∀ {a b : List α}, a.length = b.length → evens a = evens b → evens a.tail = evens b.tail → a = b
  | [], [], _, _, _ => rfl
  | [_], [_], _, h, _ => h
  | x :: y :: a, z :: u :: b, hl, h1, h2 => by
    simp only [evens, List.cons.injEq] at h1
    obtain ⟨rfl, h1⟩ := h1
    have e1 : evens (y :: a) = y :: evens a.tail := by cases a <;> rfl
    have e2 : evens (u :: b) = u :: evens b.tail := by cases b <;> rfl
    simp only [List.tail_cons] at h2
    rw [e1, e2, List.cons.injEq] at h2
    obtain ⟨rfl, h2⟩ := h2
    rw [evens_inj (by simpa using hl) h1 h2]
  | [], _ :: _, h, _, _ => by simp at h
  | _ :: _, [], h, _, _ => by simp at h
  | [_], _ :: _ :: _, h, _, _ => by simp at h
  | _ :: _ :: _, [_], h, _, _ => by simp at h
/-- The order of two rows of kids, as one word. -/
def ordK (k : Int) (ts us : List T) : Int := if k = 8 then cmpL T.cmp ts us else lex (sgn ts.length us.length) (if k = 7 then lex (cmpL T.cmp (evens ts) (evens us)) (cmpL T.cmp (evens ts.tail) (evens us.tail)) else cmpL T.cmp ts us)
theorem cmpKids_ordK (k : Int) (ts us : List T) : cmpKids k ts us = ordK k ts us := by
  unfold cmpKids ordK
  by_cases e8 : k = 8
  · rw [if_pos e8, if_pos e8, firstNe_len]
  · rw [if_neg e8, if_neg e8]
    by_cases el : ts.length = us.length
    · have hz : sgn (ts.length : Int) us.length = 0 := sgn_zero.2 (by omega)
      rw [if_neg (by simpa using el), lex, if_pos hz]
      by_cases e7 : k = 7
      · rw [if_pos e7, if_pos e7, lex, firstNe_cmpL _ _ (evens_len _ _ el), firstNe_cmpL _ _ (evens_len _ _ (by simp [el]))]
      · rw [if_neg e7, if_neg e7, firstNe_cmpL _ _ el]
    · have hz : sgn (ts.length : Int) us.length ≠ 0 := fun h => el (by have := sgn_zero.1 h; omega)
      rw [if_pos el, lex, if_neg hz]
theorem cmp_lex (k n : Int) (s : ByteArray) (ts : List T) (k' n' : Int) (s' : ByteArray) (us : List T) :
    T.cmp (.mk k n s ts) (.mk k' n' s' us) = lex (sgn k k') (lex (sgn n n') (lex (ordS s s') (ordK k ts us))) := by
  rw [T.cmp_eq, cmpKids_ordK]
  unfold lex
  by_cases e1 : k = k'
  · subst e1
    rw [if_neg (by simp), if_pos (sgn_zero.2 rfl)]
    by_cases e2 : n = n'
    · subst e2
      rw [if_neg (by simp), if_pos (sgn_zero.2 rfl)]
      by_cases e3 : s = s'
      · subst e3
        rw [if_neg (by simp), if_pos (ordS_self s)]
      · rw [if_pos e3, if_neg (fun h => e3 (ordS_zero h))]
    · rw [if_pos e2, if_neg (fun h => e2 (sgn_zero.1 h))]
  · rw [if_pos e1, if_neg (fun h => e1 (sgn_zero.1 h))]
theorem mem_tail {α : Type} {x : α} {l : List α} (h : x ∈ l.tail) : x ∈ l := by
  cases l with
  | nil => exact h
  | cons y l => exact List.mem_cons_of_mem _ h
theorem cmp_TR (a : T) : ∀ b c, TR (T.cmp a b) (T.cmp b c) (T.cmp a c) := by
  induction a using T.ind with
  | h k n s ts ih =>
  rintro ⟨k', n', s', us⟩ ⟨k2, n2, s2, vs⟩
  rw [cmp_lex, cmp_lex, cmp_lex]
  refine (sgn_TR _ _ _).lex fun e1 e2 => ?_
  obtain rfl := sgn_zero.1 e1
  refine (sgn_TR _ _ _).lex fun _ _ => ?_
  refine (bytes_TR _ _ _).lex fun _ _ => ?_
  unfold ordK
  by_cases e8 : k = 8
  · simp only [if_pos e8]
    exact cmpL_TR _ _ _ ih
  · simp only [if_neg e8]
    refine (sgn_TR _ _ _).lex fun _ _ => ?_
    by_cases e7 : k = 7
    · simp only [if_pos e7]
      exact (cmpL_TR _ _ _ fun x hx => ih x (mem_evens hx)).lex fun _ _ => cmpL_TR _ _ _ fun x hx => ih x (mem_tail (mem_evens hx))
    · simp only [if_neg e7]
      exact cmpL_TR _ _ _ ih
theorem cmp_neg (a : T) : ∀ b, T.cmp b a = - T.cmp a b := by
  induction a using T.ind with
  | h k n s ts ih =>
  rintro ⟨k', n', s', us⟩
  rw [cmp_lex, cmp_lex]
  refine lex_neg (sgn_neg _ _) fun e1 => ?_
  obtain rfl := sgn_zero.1 e1
  refine lex_neg (sgn_neg _ _) fun _ => lex_neg (bytes_neg _ _) fun _ => ?_
  unfold ordK
  by_cases e8 : k = 8
  · simp only [if_pos e8]
    exact cmpL_neg _ _ ih
  · simp only [if_neg e8]
    refine lex_neg (sgn_neg _ _) fun _ => ?_
    by_cases e7 : k = 7
    · simp only [if_pos e7]
      exact lex_neg (cmpL_neg _ _ fun x hx => ih x (mem_evens hx)) fun _ => cmpL_neg _ _ fun x hx => ih x (mem_tail (mem_evens hx))
    · simp only [if_neg e7]
      exact cmpL_neg _ _ ih
theorem cmp_zero (a : T) : ∀ b, T.cmp a b = 0 → a = b := by
  induction a using T.ind with
  | h k n s ts ih =>
  rintro ⟨k', n', s', us⟩ h
  rw [cmp_lex] at h
  obtain ⟨e1, ha⟩ := lex_zero.1 h
  obtain ⟨e2, hb⟩ := lex_zero.1 ha
  obtain ⟨e3, hc⟩ := lex_zero.1 hb
  clear h ha hb
  obtain rfl := sgn_zero.1 e1
  obtain rfl := sgn_zero.1 e2
  obtain rfl := ordS_zero e3
  have : ts = us := by
    unfold ordK at hc
    by_cases e8 : k = 8
    · rw [if_pos e8] at hc
      exact cmpL_zero ih hc
    · rw [if_neg e8] at hc
      obtain ⟨el, hd⟩ := lex_zero.1 hc
      have el2 : ts.length = us.length := by have := sgn_zero.1 el; omega
      by_cases e7 : k = 7
      · rw [if_pos e7] at hd
        obtain ⟨h1, h2⟩ := lex_zero.1 hd
        exact evens_inj el2 (cmpL_zero (fun x hx => ih x (mem_evens hx)) h1) (cmpL_zero (fun x hx => ih x (mem_tail (mem_evens hx))) h2)
      · rw [if_neg e7] at hd
        exact cmpL_zero ih hd
  rw [this]
theorem cmp_self (a : T) : T.cmp a a = 0 := by
  have := cmp_neg a a
  omega
end Go.Proofs.Ytdldgchkinflmaa.Lib
