/- Terms as plain data: their order, when they are right, how many and how deep. Conditions: none. -/
import Derived.Test.YtdldgchkinflmaaStr
import Derived.Test.YtdldgchkinflmaaNames
set_option linter.unusedVariables false
namespace Go.Proofs.Ytdldgchkinflmaa.Lib
open Go.RowKit Go.Proofs.Ytdldgchkinflmaa.Fn

/-- The first answer that is not 0, of two lists side by side. -/
def firstNe {α β : Type} (f : α → β → Int) : List α → List β → Int
  | x :: xs, y :: ys => if f x y = 0 then firstNe f xs ys else f x y
  | _, _ => 0
/-- Every second, from the first on. -/
def evens {α : Type} : List α → List α
  | [] => []
  | [x] => [x]
  | x :: _ :: xs => x :: evens xs
theorem evens_map {α β : Type} (g : α → β) : ∀ l : List α, evens (l.map g) = (evens l).map g
  | [] => rfl
  | [_] => rfl
  | _ :: _ :: xs => by simp only [List.map_cons, evens, evens_map g xs]
theorem firstNe_map {α β γ : Type} (f : β → γ → Int) (g : α → β) : ∀ (l : List α) (us : List γ), firstNe f (l.map g) us = firstNe (fun x u => f (g x) u) l us
  | [], _ => by simp [firstNe]
  | _ :: _, [] => by simp [firstNe]
  | x :: xs, y :: ys => by simp only [List.map_cons, firstNe, firstNe_map f g xs ys]
theorem firstNe_congr {α β : Type} {f g : α → β → Int} : ∀ (l : List α) (us : List β), (∀ x ∈ l, ∀ u ∈ us, f x u = g x u) → firstNe f l us = firstNe g l us
  | [], _, _ => by simp [firstNe]
  | _ :: _, [], _ => by simp [firstNe]
  | x :: xs, y :: ys, h => by
    rw [firstNe, firstNe, h x (by simp) y (by simp), firstNe_congr xs ys (fun a ha b hb => h a (by simp [ha]) b (by simp [hb]))]
theorem mem_evens {α : Type} {x : α} : ∀ {l : List α}, x ∈ evens l → x ∈ l
  | [], h => h
  | [_], h => h
  | a :: b :: xs, h => by
    simp only [evens, List.mem_cons] at h ⊢
    exact h.imp id (fun h => Or.inr (mem_evens h))
def sgn (a b : Int) : Int := if a < b then -1 else if b < a then 1 else 0
/-- The order of terms. -/
def T.cmp : T → T → Int
  | .mk k n s ts, .mk k' n' s' us =>
    if k ≠ k' then sgn k k' else if n ≠ n' then sgn n n' else if s ≠ s' then ordS s s'
    else if k = 8 then (if firstNe (fun x u => T.cmp x.1 u) ts.attach us = 0 then sgn ts.length us.length else firstNe (fun x u => T.cmp x.1 u) ts.attach us)
    else if ts.length ≠ us.length then sgn ts.length us.length
    else if k = 7 then (if firstNe (fun x u => T.cmp x.1 u) (evens ts.attach) (evens us) = 0 then firstNe (fun x u => T.cmp x.1 u) (evens ts.attach.tail) (evens us.tail) else firstNe (fun x u => T.cmp x.1 u) (evens ts.attach) (evens us))
    else firstNe (fun x u => T.cmp x.1 u) ts.attach us
termination_by t => SizeOf.sizeOf t
decreasing_by all_goals exact T.kid_lt (t := .mk k n s ts) x.2
/-- Two rows of kids, in a term's order. -/
def cmpKids (k : Int) (ts us : List T) : Int :=
  if k = 8 then (if firstNe T.cmp ts us = 0 then sgn ts.length us.length else firstNe T.cmp ts us)
  else if ts.length ≠ us.length then sgn ts.length us.length
  else if k = 7 then (if firstNe T.cmp (evens ts) (evens us) = 0 then firstNe T.cmp (evens ts.tail) (evens us.tail) else firstNe T.cmp (evens ts) (evens us))
  else firstNe T.cmp ts us
theorem attach_val {α : Type} (l : List α) : l.attach.map (fun x => x.1) = l := List.attach_map_subtype_val l
theorem T.cmp_eq (k n : Int) (s : ByteArray) (ts : List T) (k' n' : Int) (s' : ByteArray) (us : List T) :
    T.cmp (.mk k n s ts) (.mk k' n' s' us) = if k ≠ k' then sgn k k' else if n ≠ n' then sgn n n' else if s ≠ s' then ordS s s' else cmpKids k ts us := by
  rw [T.cmp]
  have e1 : firstNe (fun (x : { x // x ∈ ts }) u => T.cmp x.1 u) ts.attach us = firstNe T.cmp ts us := by
    rw [← firstNe_map T.cmp (fun x : { x // x ∈ ts } => x.1), attach_val]
  have e2 : firstNe (fun (x : { x // x ∈ ts }) u => T.cmp x.1 u) (evens ts.attach) (evens us) = firstNe T.cmp (evens ts) (evens us) := by
    rw [← firstNe_map T.cmp (fun x : { x // x ∈ ts } => x.1), ← evens_map, attach_val]
  have e3 : firstNe (fun (x : { x // x ∈ ts }) u => T.cmp x.1 u) (evens ts.attach.tail) (evens us.tail) = firstNe T.cmp (evens ts.tail) (evens us.tail) := by
    rw [← firstNe_map T.cmp (fun x : { x // x ∈ ts } => x.1), ← evens_map, List.map_tail, attach_val]
  rw [e1, e2, e3]
  rfl
/-- Each is below the next one. -/
def rising : List T → Bool
  | x :: y :: r => decide (T.cmp x y < 0) && rising (y :: r)
  | _ => true
/-- A term is right but for its kids. -/
def ownB (k n : Int) (s : ByteArray) (m : Nat) : Bool :=
  if k = 1 then decide (-1000000000000000 ≤ n) && decide (n ≤ 1000000000000000) && decide (s.size = 0) && decide (m = 0)
  else if k = 2 then nameB s && decide (n = 0) && decide (m = 0)
  else if k = 3 ∨ k = 5 then decide (0 ≤ n) && decide (n ≤ 1000000000000000) && decide (s.size = 0) && decide (m = 0)
  else if k = 4 then decide (0 ≤ n) && decide (n ≤ 1000000000000000) && decide (s.size = 0)
  else if k = 6 ∨ k = 8 then decide (n = 0) && decide (s.size = 0)
  else if k = 7 then decide (n = 0) && decide (s.size = 0) && decide (m % 2 = 0)
  else if k = 9 then decide (s.size ≤ 4000) && decide (n = 0) && decide (m = 0)
  else false
def T.right : T → Bool
  | .mk k n s ts => ownB k n s ts.length && ((ts.attach.all fun x => T.right x.1) && (!decide (k = 7) || rising (evens ts)))
termination_by t => SizeOf.sizeOf t
decreasing_by exact T.kid_lt (t := .mk k n s ts) x.2
theorem T.right_eq (k n : Int) (s : ByteArray) (ts : List T) : (T.mk k n s ts).right = (ownB k n s ts.length && (ts.all T.right && (!decide (k = 7) || rising (evens ts)))) := by
  rw [T.right]
  congr 2
  conv => rhs; rw [← attach_val ts, List.all_map]
  rfl
def T.cnt : T → Nat
  | .mk k n s ts => 1 + (ts.attach.map fun x => T.cnt x.1).sum
termination_by t => SizeOf.sizeOf t
decreasing_by exact T.kid_lt (t := .mk k n s ts) x.2
theorem T.cnt_eq (k n : Int) (s : ByteArray) (ts : List T) : (T.mk k n s ts).cnt = 1 + (ts.map T.cnt).sum := by
  rw [T.cnt, List.attach_map_val (f := T.cnt)]
def maxl (l : List Nat) : Nat := l.foldl max 0
def T.deep : T → Nat
  | .mk k n s ts => 1 + maxl (ts.attach.map fun x => T.deep x.1)
termination_by t => SizeOf.sizeOf t
decreasing_by exact T.kid_lt (t := .mk k n s ts) x.2
theorem T.deep_eq (k n : Int) (s : ByteArray) (ts : List T) : (T.mk k n s ts).deep = 1 + maxl (ts.map T.deep) := by
  rw [T.deep, List.attach_map_val (f := T.deep)]
theorem maxl_snoc (l : List Nat) (x : Nat) : maxl (l ++ [x]) = max (maxl l) x := by simp [maxl, List.foldl_append]
theorem T.cnt_pos (t : T) : 1 ≤ t.cnt := by
  cases t with
  | mk k n s ts => rw [T.cnt_eq]; omega
theorem T.deep_pos (t : T) : 1 ≤ t.deep := by
  cases t with
  | mk k n s ts => rw [T.deep_eq]; omega
/-- Few enough, and not too deep. -/
def T.fits (t : T) : Bool := decide (t.cnt ≤ 2000) && decide (t.deep ≤ 100)
def T.okB (t : T) : Bool := t.fits && t.right
end Go.Proofs.Ytdldgchkinflmaa.Lib
