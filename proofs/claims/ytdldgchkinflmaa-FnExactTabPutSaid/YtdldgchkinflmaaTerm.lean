/- Terms as plain data, and how they lie in cells. Conditions: none. -/
import Derived.Test.YtdldgchkinflmaaRec
set_option linter.unusedVariables false
namespace Go.Proofs.Ytdldgchkinflmaa.Lib
open Go.RowKit

inductive T where
  | mk (kind num : Int) (str : ByteArray) (kids : List T)
def T.kind : T → Int | .mk k _ _ _ => k
def T.num : T → Int | .mk _ n _ _ => n
def T.str : T → ByteArray | .mk _ _ s _ => s
def T.kids : T → List T | .mk _ _ _ ts => ts
theorem T.eta (t : T) : T.mk t.kind t.num t.str t.kids = t := by cases t; rfl
theorem T.kid_lt {t : T} {x : T} (h : x ∈ t.kids) : SizeOf.sizeOf x < SizeOf.sizeOf t := by
  cases t with
  | mk k n s ts =>
    have := List.sizeOf_lt_of_mem h
    simp only [T.kids] at this
    simp only [T.mk.sizeOf_spec]
    omega
theorem T.ind {P : T → Prop} (h : ∀ k n s ts, (∀ x ∈ ts, P x) → P (.mk k n s ts)) (t : T) : P t :=
  match t with
  | .mk k n s ts => h k n s ts fun x hx => T.ind h x
termination_by SizeOf.sizeOf t
decreasing_by exact T.kid_lt (t := .mk k n s ts) hx
/-- How much a term weighs: its bytes and its kids. -/
def T.wt : T → Nat
  | .mk k n s ts => s.size + (ts.length + (ts.attach.map fun x => T.wt x.1).sum)
termination_by t => SizeOf.sizeOf t
decreasing_by exact T.kid_lt (t := .mk k n s ts) x.2
theorem T.wt_eq (k n : Int) (s : ByteArray) (ts : List T) : (T.mk k n s ts).wt = s.size + (ts.length + (ts.map T.wt).sum) := by
  rw [T.wt, List.attach_map_val (f := T.wt)]
def T.ok : T → Prop
  | .mk k n s ts => (-9223372036854775808 ≤ k ∧ k ≤ 9223372036854775807) ∧ (-9223372036854775808 ≤ n ∧ n ≤ 9223372036854775807) ∧ s.size ≤ 9223372036854775807 ∧ ts.length ≤ 9223372036854775807 ∧ ∀ x : { x // x ∈ ts }, T.ok x.1
termination_by t => SizeOf.sizeOf t
decreasing_by exact T.kid_lt (t := .mk k n s ts) x.2
theorem T.ok_eq (k n : Int) (s : ByteArray) (ts : List T) : (T.mk k n s ts).ok ↔ (-9223372036854775808 ≤ k ∧ k ≤ 9223372036854775807) ∧ (-9223372036854775808 ≤ n ∧ n ≤ 9223372036854775807) ∧ s.size ≤ 9223372036854775807 ∧ ts.length ≤ 9223372036854775807 ∧ ∀ x ∈ ts, x.ok := by
  rw [T.ok]
  simp only [Subtype.forall]
/-- The cells cs are the term's. -/
def T.rd (tr : Prop) (w : World) : (Nat → Prop) → T → List Value → Prop
  | S, .mk k n s ts, cs => ∃ A cap, cs = [.int .i64 k, .int .i64 n, .string s, .slice A ts.length cap] ∧ ts.length ≤ cap ∧
      (ts = [] ∨ ∃ b o, A = some ⟨b, o, none⟩ ∧ S b ∧ ∃ f : Nat → Nat → Prop, (∀ j c, f j c → S c ∧ (tr → c ≠ b)) ∧ (tr → (∀ o, w.frozen? ⟨b, o, none⟩ = false) ∧ ∀ i j, i ≠ j → ∀ c, f i c → ¬ f j c) ∧
        ∀ (j : Nat) (h : j < ts.length), ∃ cs, T.rd tr w (f j) ts[j] cs ∧ ∀ t, t < 4 → w.cell? ⟨b, o + j * 4 + t, none⟩ = cs[t]?)
termination_by S t cs => SizeOf.sizeOf t
decreasing_by exact T.kid_lt (t := .mk k n s ts) (List.getElem_mem h)
theorem T.rd_eq {tr : Prop} {w : World} {S : Nat → Prop} {k n : Int} {s : ByteArray} {ts : List T} {cs : List Value} :
    T.rd tr w S (.mk k n s ts) cs ↔ ∃ A cap, cs = [.int .i64 k, .int .i64 n, .string s, .slice A ts.length cap] ∧ ts.length ≤ cap ∧ SlOf 4 (T.rd tr w) tr w S ts A := by
  rw [T.rd]
  rfl
theorem T.rd_len {tr : Prop} {w : World} {S : Nat → Prop} {t : T} {cs : List Value} (h : T.rd tr w S t cs) : cs.length = 4 := by
  cases t with
  | mk k n s ts =>
    obtain ⟨A, cap, rfl, _⟩ := T.rd_eq.1 h
    rfl
theorem T.rd_frame {tr tr' : Prop} {w w' : World} (ht : tr' → tr) (t : T) : ∀ {S S' : Nat → Prop} {cs : List Value}, T.rd tr w S t cs → (∀ b, S b → w'.heap[b]? = w.heap[b]?) → (∀ b, S b → S' b) → T.rd tr' w' S' t cs := by
  induction t using T.ind with
  | h k n s ts ih =>
    intro S S' cs h hc hs
    obtain ⟨A, cap, rfl, hcap, h⟩ := T.rd_eq.1 h
    exact T.rd_eq.2 ⟨A, cap, rfl, hcap, h.frame (fun j hj f cs hf hr => ih _ (List.getElem_mem hj) hr (fun b hb => hc b (hf b hb)) (fun _ h => h)) hc hs ht⟩
def Rec.term : Rec T where
  k := 4
  wt := T.wt
  ok := T.ok
  rd tr w S t cs := T.rd tr w S t cs
  len h := T.rd_len h
  frame h hc hs := T.rd_frame id _ h hc hs
  weak h := T.rd_frame False.elim _ h (fun _ _ => rfl) (fun _ h => h)
theorem Rec.term_iff {tr : Prop} {w : World} {S : Nat → Prop} {t : T} {cs : List Value} :
    Rec.term.rd tr w S t cs ↔ ∃ A cap, cs = [.int .i64 t.kind, .int .i64 t.num, .string t.str, .slice A t.kids.length cap] ∧ Rec.term.sl.rd tr w S t.kids [.slice A t.kids.length cap] := by
  cases t with
  | mk k n s ts =>
    refine T.rd_eq.trans ⟨?_, ?_⟩
    · rintro ⟨A, cap, rfl, hc, h⟩
      exact ⟨A, cap, rfl, A, cap, rfl, hc, h⟩
    · rintro ⟨A, cap, rfl, A', cap', e, hc, h⟩
      injection e with e
      injection e with e1 e2 e3
      subst e1 e3
      exact ⟨A, cap, rfl, hc, h⟩
theorem Rec.term_wt (t : T) : Rec.term.wt t = t.str.size + Rec.term.sl.wt t.kids := by
  cases t with
  | mk k n s ts => exact T.wt_eq k n s ts
theorem Rec.term_ok {t : T} : Rec.term.ok t ↔ (-9223372036854775808 ≤ t.kind ∧ t.kind ≤ 9223372036854775807) ∧ (-9223372036854775808 ≤ t.num ∧ t.num ≤ 9223372036854775807) ∧ t.str.size ≤ 9223372036854775807 ∧ Rec.term.sl.ok t.kids := by
  cases t with
  | mk k n s ts => exact T.ok_eq k n s ts
end Go.Proofs.Ytdldgchkinflmaa.Lib
