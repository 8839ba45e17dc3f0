/- How values of a kind lie in cells of memory, and rows of them: read, copied, measured. Conditions: none. -/
import Derived.Test.YtdldgchkinflmaaLib
import Derived.Handy
set_option linter.unusedVariables false
namespace Go.Proofs.Ytdldgchkinflmaa.Lib
open Go.RowKit

/-- Whatever lies below a heap's size. -/
def Old (w : World) : Nat → Prop := fun b => b < w.heap.size
/-- The blocks from one number to another. -/
def Span (lo hi : Nat) : Nat → Prop := fun b => lo ≤ b ∧ b < hi
/-- How values of a kind lie in cells: k cells each; those cells and all that they lead to, in blocks of S; with 'tr', no block of S is come to by two ways. -/
structure Rec (α : Type) where
  k : Nat
  wt : α → Nat
  ok : α → Prop
  rd : Prop → World → (Nat → Prop) → α → List Value → Prop
  len : ∀ {tr w S a cs}, rd tr w S a cs → cs.length = k
  frame : ∀ {tr w w' S S' a cs}, rd tr w S a cs → (∀ b, S b → w'.heap[b]? = w.heap[b]?) → (∀ b, S b → S' b) → rd tr w' S' a cs
  weak : ∀ {tr w S a cs}, rd tr w S a cs → rd False w S a cs
theorem Rec.mono {α : Type} (R : Rec α) {tr w S S' a cs} (h : R.rd tr w S a cs) (hs : ∀ b, S b → S' b) : R.rd tr w S' a cs := R.frame h (fun _ _ => rfl) hs
theorem Rec.below {α : Type} (R : Rec α) {tr} {w w1 : World} {S a cs} (h : R.rd tr w S a cs) (hs : ∀ b, S b → b < w.heap.size) (hb : Below w.heap.size w w1) : R.rd tr w1 S a cs :=
  R.frame h (fun b hb' => hb.block b (hs b hb')) (fun _ h => h)
theorem Rec.up {α : Type} (R : Rec α) {tr} {w w1 : World} {S a cs} (h : R.rd tr w S a cs) (hs : ∀ b, S b → b < w.heap.size) (hb : Below w.heap.size w w1) : R.rd False w1 (Old w1) a cs :=
  R.weak (R.frame h (fun b hb' => hb.block b (hs b hb')) (fun b h => Nat.lt_of_lt_of_le (hs b h) hb.size))
theorem Rec.old {α : Type} (R : Rec α) {tr} {w w1 : World} {a cs} (h : R.rd tr w (Old w) a cs) (hb : Below w.heap.size w w1) : R.rd False w1 (Old w1) a cs := R.up h (fun _ h => h) hb
theorem Rec.made {α : Type} (R : Rec α) {tr} {w w1 : World} {lo hi a cs} (h : R.rd tr w (Span lo hi) a cs) (hh : hi ≤ w.heap.size) (hb : Below w.heap.size w w1) : R.rd False w1 (Old w1) a cs :=
  R.up h (fun _ h => Nat.lt_of_lt_of_le h.2 hh) hb

def Rec.int : Rec Int where
  k := 1
  wt _ := 0
  ok a := -9223372036854775808 ≤ a ∧ a ≤ 9223372036854775807
  rd _ _ _ a cs := cs = [.int .i64 a]
  len h := by subst h; rfl
  frame h _ _ := h
  weak h := h
def Rec.bool : Rec Bool where
  k := 1
  wt _ := 0
  ok _ := True
  rd _ _ _ a cs := cs = [.bool a]
  len h := by subst h; rfl
  frame h _ _ := h
  weak h := h
def Rec.str : Rec ByteArray where
  k := 1
  wt a := a.size
  ok a := a.size ≤ 9223372036854775807
  rd _ _ _ a cs := cs = [.string a]
  len h := by subst h; rfl
  frame h _ _ := h
  weak h := h

theorem Rec.int_rd (tr : Prop) (w : World) (S : Nat → Prop) (a : Int) : Rec.int.rd tr w S a [.int .i64 a] := rfl
theorem Rec.bool_rd (tr : Prop) (w : World) (S : Nat → Prop) (a : Bool) : Rec.bool.rd tr w S a [.bool a] := rfl
theorem Rec.str_rd (tr : Prop) (w : World) (S : Nat → Prop) (a : ByteArray) : Rec.str.rd tr w S a [.string a] := rfl

/-- A row of such values: from cell o of block b on. -/
def RowOf {α : Type} (k : Nat) (rd : (Nat → Prop) → α → List Value → Prop) (tr : Prop) (w : World) (S : Nat → Prop) (xs : List α) (b o : Nat) : Prop :=
  S b ∧ ∃ f : Nat → Nat → Prop, (∀ j c, f j c → S c ∧ (tr → c ≠ b)) ∧ (tr → (∀ o, w.frozen? ⟨b, o, none⟩ = false) ∧ ∀ i j, i ≠ j → ∀ c, f i c → ¬ f j c) ∧
    ∀ (j : Nat) (h : j < xs.length), ∃ cs, rd (f j) xs[j] cs ∧ ∀ t, t < k → w.cell? ⟨b, o + j * k + t, none⟩ = cs[t]?
/-- What a slice's address leads to. -/
def SlOf {α : Type} (k : Nat) (rd : (Nat → Prop) → α → List Value → Prop) (tr : Prop) (w : World) (S : Nat → Prop) (xs : List α) (A : Option Addr) : Prop :=
  xs = [] ∨ ∃ b o, A = some ⟨b, o, none⟩ ∧ RowOf k rd tr w S xs b o
theorem RowOf.frame {α : Type} {k : Nat} {rd rd' : (Nat → Prop) → α → List Value → Prop} {tr tr' : Prop} {w w' : World} {S S' : Nat → Prop} {xs : List α} {b o : Nat} (h : RowOf k rd tr w S xs b o)
    (hr : ∀ (j : Nat) (h : j < xs.length) (f : Nat → Prop) (cs : List Value), (∀ c, f c → S c) → rd f xs[j] cs → rd' f xs[j] cs) (hc : ∀ b, S b → w'.heap[b]? = w.heap[b]?) (hs : ∀ b, S b → S' b) (ht : tr' → tr) :
    RowOf k rd' tr' w' S' xs b o := by
  obtain ⟨hb, f, h1, h2, h3⟩ := h
  refine ⟨hs b hb, f, fun j c hj => ⟨hs c (h1 j c hj).1, fun t => (h1 j c hj).2 (ht t)⟩, fun t => ⟨fun o => (World.frozen?_of_block (w := w) (hc b hb)).trans ((h2 (ht t)).1 o), (h2 (ht t)).2⟩, fun j hj => ?_⟩
  obtain ⟨cs, hr1, hcs⟩ := h3 j hj
  exact ⟨cs, hr j hj _ _ (fun c hc => (h1 j c hc).1) hr1, fun t ht => (World.cell?_of_block (w := w) (hc b hb)).trans (hcs t ht)⟩
theorem SlOf.frame {α : Type} {k : Nat} {rd rd' : (Nat → Prop) → α → List Value → Prop} {tr tr' : Prop} {w w' : World} {S S' : Nat → Prop} {xs : List α} {A : Option Addr} (h : SlOf k rd tr w S xs A)
    (hr : ∀ (j : Nat) (h : j < xs.length) (f : Nat → Prop) (cs : List Value), (∀ c, f c → S c) → rd f xs[j] cs → rd' f xs[j] cs) (hc : ∀ b, S b → w'.heap[b]? = w.heap[b]?) (hs : ∀ b, S b → S' b) (ht : tr' → tr) :
    SlOf k rd' tr' w' S' xs A := by
  refine h.imp id ?_
  rintro ⟨b, o, e, h⟩
  exact ⟨b, o, e, h.frame hr hc hs ht⟩

/-- A slice of values of a kind. -/
def Rec.sl {α : Type} (R : Rec α) : Rec (List α) where
  k := 1
  wt xs := xs.length + (xs.map R.wt).sum
  ok xs := xs.length ≤ 9223372036854775807 ∧ ∀ x ∈ xs, R.ok x
  rd tr w S xs cs := ∃ A cap, cs = [.slice A xs.length cap] ∧ xs.length ≤ cap ∧ SlOf R.k (R.rd tr w) tr w S xs A
  len h := by obtain ⟨A, cap, rfl, _⟩ := h; rfl
  frame := by
    rintro tr w w' S S' a cs ⟨A, cap, rfl, hc, h⟩ h1 h2
    exact ⟨A, cap, rfl, hc, h.frame (fun j hj f cs hf hr => R.frame hr (fun b hb => h1 b (hf b hb)) (fun _ h => h)) h1 h2 id⟩
  weak := by
    rintro tr w S a cs ⟨A, cap, rfl, hc, h⟩
    exact ⟨A, cap, rfl, hc, h.frame (fun j hj f cs hf hr => R.weak hr) (fun _ _ => rfl) (fun _ h => h) False.elim⟩

/-- Two values, one behind the other. -/
def Rec.pair {α β : Type} (A : Rec α) (B : Rec β) : Rec (α × β) where
  k := A.k + B.k
  wt x := A.wt x.1 + B.wt x.2
  ok x := A.ok x.1 ∧ B.ok x.2
  rd tr w S x cs := ∃ ca cb Sa Sb, cs = ca ++ cb ∧ A.rd tr w Sa x.1 ca ∧ B.rd tr w Sb x.2 cb ∧ (∀ b, Sa b → S b) ∧ (∀ b, Sb b → S b) ∧ (tr → ∀ b, Sa b → ¬ Sb b)
  len h := by obtain ⟨ca, cb, Sa, Sb, rfl, ha, hb, _⟩ := h; rw [List.length_append, A.len ha, B.len hb]
  frame := by
    rintro tr w w' S S' a cs ⟨ca, cb, Sa, Sb, rfl, ha, hb, h1, h2, h3⟩ hf hs
    exact ⟨ca, cb, Sa, Sb, rfl, A.frame ha (fun b hb => hf b (h1 b hb)) (fun _ h => h), B.frame hb (fun b hb => hf b (h2 b hb)) (fun _ h => h), fun b h => hs b (h1 b h), fun b h => hs b (h2 b h), h3⟩
  weak := by
    rintro tr w S a cs ⟨ca, cb, Sa, Sb, rfl, ha, hb, h1, h2, h3⟩
    exact ⟨ca, cb, Sa, Sb, rfl, A.weak ha, B.weak hb, h1, h2, False.elim⟩

theorem Rec.join {α β : Type} {A : Rec α} {B : Rec β} {tr : Prop} {w : World} {Sa Sb : Nat → Prop} {a : α} {b : β} {ca cb : List Value} (ha : A.rd tr w Sa a ca) (hb : B.rd tr w Sb b cb) (hd : ∀ b, Sa b → ¬ Sb b) :
    (A.pair B).rd tr w (fun b => Sa b ∨ Sb b) (a, b) (ca ++ cb) := ⟨_, _, _, _, rfl, ha, hb, fun _ h => Or.inl h, fun _ h => Or.inr h, fun _ => hd⟩
def NoB : Nat → Prop := fun _ => False
theorem Rec.over {α : Type} (R : Rec α) {tr : Prop} {w w1 : World} {lo hi : Nat} {a : α} {cs : List Value} (h : R.rd tr w (Span lo hi) a cs) (hs : ∀ b, lo ≤ b → b < hi → w1.heap[b]? = w.heap[b]?) : R.rd tr w1 (Span lo hi) a cs :=
  R.frame h (fun b hb => hs b hb.1 hb.2) (fun _ h => h)
theorem Rec.carry {α : Type} (R : Rec α) {tr : Prop} {w w1 w2 : World} {lo hi : Nat} {a : α} {cs : List Value} (h : R.rd tr w (Span lo hi) a cs) (hs : ∀ b, lo ≤ b → b < hi → w1.heap[b]? = w.heap[b]?) (hh : hi ≤ w1.heap.size) (hb : Below w1.heap.size w1 w2) : R.rd tr w2 (Span lo hi) a cs :=
  R.below (R.over h hs) (fun _ h => Nat.lt_of_lt_of_le h.2 hh) hb
theorem cell_far {w : World} {g i b o : Nat} {v : Value} (h : b ≠ g) : (w.setCell ⟨g, i, none⟩ v).cell? ⟨b, o, none⟩ = w.cell? ⟨b, o, none⟩ := by
  unfold World.cell?
  rw [Below.heap_setCell w ⟨g, i, none⟩ v b h]
theorem heap_far {w : World} {g i b : Nat} {v : Value} (h : b ≠ g) : (w.setCell ⟨g, i, none⟩ v).heap[b]? = w.heap[b]? := Below.heap_setCell w ⟨g, i, none⟩ v b h
theorem Blk.made (w : World) (T : TypeId) (cs : List Value) {g : Nat} (h : g = w.heap.size) : Blk (w.alloc (.cells cs.toArray T)) g T cs := by
  subst h
  exact Blk.new w T cs

/-- Cells that follow one another are written. -/
def setCells (w : World) (g : Nat) : Nat → List Value → World
  | _, [] => w
  | o, v :: vs => setCells (w.setCell ⟨g, o, none⟩ v) g (o + 1) vs
theorem setCells_below {w0 : World} {g : Nat} (hg : w0.heap.size ≤ g) : ∀ (vs : List Value) (w : World) (o : Nat), Below w0.heap.size w0 w → Below w0.heap.size w0 (setCells w g o vs)
  | [], _, _, h => h
  | v :: vs, w, o, h => setCells_below hg vs _ _ (h.setCell hg v)
theorem setCells_size {g : Nat} : ∀ (vs : List Value) (w : World) (o : Nat), (setCells w g o vs).heap.size = w.heap.size
  | [], _, _ => rfl
  | v :: vs, w, o => by rw [setCells, setCells_size vs]; simp [World.setCell]
theorem setCells_far {g : Nat} : ∀ (vs : List Value) (w : World) (o : Nat) (b i : Nat), b ≠ g → (setCells w g o vs).cell? ⟨b, i, none⟩ = w.cell? ⟨b, i, none⟩
  | [], _, _, _, _, _ => rfl
  | v :: vs, w, o, b, i, h => by
    rw [setCells, setCells_far vs _ _ _ _ h]
    have := Below.heap_setCell w ⟨g, o, none⟩ v b h
    unfold World.cell?
    rw [this]
theorem setCells_heap {g : Nat} : ∀ (vs : List Value) (w : World) (o : Nat) (b : Nat), b ≠ g → (setCells w g o vs).heap[b]? = w.heap[b]?
  | [], _, _, _, _ => rfl
  | v :: vs, w, o, b, h => by rw [setCells, setCells_heap vs _ _ _ h, heap_far h]
theorem setCells_blk {g : Nat} {E : TypeId} : ∀ (vs : List Value) (w : World) (o : Nat) (cs : List Value), Blk w g E cs → o + vs.length ≤ cs.length →
    ∃ cs', Blk (setCells w g o vs) g E cs' ∧ cs'.length = cs.length ∧ (∀ t, t < vs.length → cs'[o + t]? = vs[t]?) ∧ ∀ i, (i < o ∨ o + vs.length ≤ i) → cs'[i]? = cs[i]?
  | [], w, o, cs, h, _ => ⟨cs, h, rfl, fun t ht => absurd ht (Nat.not_lt_zero _), fun _ _ => rfl⟩
  | v :: vs, w, o, cs, h, hl => by
    rw [List.length_cons] at hl
    obtain ⟨cs', h1, h2, h3, h4⟩ := setCells_blk vs (w.setCell ⟨g, o, none⟩ v) (o + 1) (cs.set o v) (h.set o v) (by rw [List.length_set]; omega)
    refine ⟨cs', h1, by rw [h2, List.length_set], fun t ht => ?_, fun i hi => ?_⟩
    · cases t with
      | zero => rw [h4 _ (by omega), Nat.add_zero, List.getElem?_set_self (by omega)]; rfl
      | succ t => rw [show o + (t + 1) = o + 1 + t by omega, h3 t (by simpa using ht)]; rfl
    · rw [List.length_cons] at hi
      rw [h4 i (by omega), List.getElem?_set_ne (by omega)]

theorem blk_of_own {w : World} {base g n k : Nat} {E : TypeId} {xs : List Value} (h : w.ownsRow base E k (.slice (some ⟨g, 0, none⟩) n n) n xs) : ∃ cs, Blk w g E cs ∧ cs.length = n * k := by
  rcases h.2 with ⟨h1, _⟩ | ⟨g2, cap, cur, h1, _, hg, _, _, hc, _⟩
  · cases h1
  · cases h1
    exact ⟨cur.toList, hg, by simpa using hc⟩
/-- The first i values are copied into a made row of n: block w.heap.size, all else behind it. -/
def Copied {α : Type} (R : Rec α) (E : TypeId) (w wr : World) (xs : List α) (n i : Nat) : Prop :=
  ∃ cs, Blk wr w.heap.size E cs ∧ cs.length = n * R.k ∧ Below w.heap.size w wr ∧
    ∃ f : Nat → Nat → Prop, (∀ j c, f j c → w.heap.size < c ∧ c < wr.heap.size) ∧ (∀ i j, i ≠ j → ∀ c, f i c → ¬ f j c) ∧
      ∀ (j : Nat) (h : j < xs.length), j < i → ∃ cv, R.rd True wr (f j) xs[j] cv ∧ ∀ t, t < R.k → cs[j * R.k + t]? = cv[t]?
theorem Copied.start {α : Type} {R : Rec α} {E : TypeId} {w w1 : World} {xs : List α} {n : Nat} {vs : List Value} (h : w1.ownsRow w.heap.size E R.k (.slice (some ⟨w.heap.size, 0, none⟩) n n) n vs) (hg : w.grownBy w1 none) : Copied R E w w1 xs n 0 := by
  obtain ⟨cs, hb, hl⟩ := blk_of_own h
  exact ⟨cs, hb, hl, pw_below hg, fun _ _ => False, fun _ _ h => h.elim, fun _ _ _ _ h => h.elim, fun j _ hj => absurd hj (Nat.not_lt_zero _)⟩
theorem Copied.blk {α : Type} {R : Rec α} {E : TypeId} {w wr w2 : World} {xs : List α} {n i : Nat} (h : Copied R E w wr xs n i) (hb : Below wr.heap.size wr w2) (hi : i < n) :
    (∀ t, t < R.k → ∃ x, w2.cell? ⟨w.heap.size, i * R.k + t, none⟩ = some x) ∧ ∀ j, w2.frozen? ⟨w.heap.size, j, none⟩ = false := by
  obtain ⟨cs, h1, h2, _⟩ := h
  have h3 := h1.below hb
  refine ⟨fun t ht => ?_, fun j => h3.free j⟩
  have : i * R.k + t < cs.length := by
    rw [h2]
    have : (i + 1) * R.k ≤ n * R.k := Nat.mul_le_mul_right _ hi
    rw [Nat.add_mul] at this
    omega
  exact ⟨cs[i * R.k + t], (h3.cell _).trans (List.getElem?_eq_getElem this)⟩
theorem Copied.next {α : Type} {R : Rec α} {E : TypeId} {w wr w2 : World} {xs : List α} {n i : Nat} {cv : List Value} (h : Copied R E w wr xs n i) (hb : Below wr.heap.size wr w2) (hn : xs.length = n) (hi : i < xs.length)
    (hv : R.rd True w2 (Span wr.heap.size w2.heap.size) xs[i] cv) : Copied R E w (setCells w2 w.heap.size (i * R.k) cv) xs n (i + 1) := by
  obtain ⟨cs, h1, h2, h3, f, f1, f2, f3⟩ := h
  have hlt := h1.lt
  have hlen : i * R.k + cv.length ≤ cs.length := by
    rw [h2, R.len hv, ← hn]
    have : (i + 1) * R.k ≤ xs.length * R.k := Nat.mul_le_mul_right _ hi
    rw [Nat.add_mul] at this
    omega
  obtain ⟨cs', g1, g2, g3, g4⟩ := setCells_blk cv w2 (i * R.k) cs (h1.below hb) hlen
  refine ⟨cs', g1, by rw [g2, h2], setCells_below (Nat.le_refl _) _ _ _ (below_later h3 hb), fun j => if j = i then Span wr.heap.size w2.heap.size else fun c => j < i ∧ f j c, fun j c hj => ?_, fun a b hab c ha hb' => ?_, fun j hj hji => ?_⟩
  · rw [setCells_size]
    have := hb.size
    dsimp only at hj
    split at hj
    · exact ⟨Nat.lt_of_lt_of_le hlt hj.1, hj.2⟩
    · have := f1 j c hj.2
      omega
  · dsimp only at ha hb'
    split at ha <;> split at hb'
    · omega
    · have := f1 b c hb'.2
      have := ha.1
      omega
    · have := f1 a c ha.2
      have := hb'.1
      omega
    · exact f2 a b hab c ha.2 hb'.2
  · by_cases e : j = i
    · subst e
      refine ⟨cv, ?_, fun t ht => g3 t (by rw [R.len hv]; exact ht)⟩
      dsimp only
      rw [if_pos rfl]
      exact R.frame hv (fun b hb' => setCells_heap _ _ _ _ (by have := hb'.1; omega)) (fun _ h => h)
    · obtain ⟨cv', r1, r2⟩ := f3 j hj (by omega)
      refine ⟨cv', ?_, fun t ht => ?_⟩
      · dsimp only
        rw [if_neg e]
        refine R.frame r1 (fun b hb' => ?_) (fun b hb' => ⟨by omega, hb'⟩)
        have hb2 := f1 j b hb'
        rw [setCells_heap _ _ _ _ (by omega)]
        exact hb.block b hb2.2
      · rw [g4 _ ?_, r2 t ht]
        left
        have : (j + 1) * R.k ≤ i * R.k := Nat.mul_le_mul_right _ (by omega)
        rw [Nat.add_mul] at this
        omega
theorem Copied.done {α : Type} {R : Rec α} {E : TypeId} {w wr : World} {xs : List α} {n : Nat} (h : Copied R E w wr xs n n) (hn : xs.length = n) :
    R.sl.rd True wr (Span w.heap.size wr.heap.size) xs [.slice (some ⟨w.heap.size, 0, none⟩) n n] := by
  obtain ⟨cs, h1, h2, h3, f, f1, f2, f3⟩ := h
  subst hn
  refine ⟨_, _, rfl, Nat.le_refl _, Or.inr ⟨_, _, rfl, ⟨Nat.le_refl _, h1.lt⟩, f, fun j c hj => ?_, fun _ => ⟨fun o => h1.free o, f2⟩, fun j hj => ?_⟩⟩
  · have := f1 j c hj
    exact ⟨⟨by omega, this.2⟩, fun _ => by omega⟩
  · obtain ⟨cv, r1, r2⟩ := f3 j hj hj
    exact ⟨cv, r1, fun t ht => by rw [Nat.zero_add, h1.cell, r2 t ht]⟩
/-- What the values weigh up to a place. -/
def wts {α : Type} (R : Rec α) (xs : List α) (i : Nat) : Nat := ((xs.take i).map R.wt).sum
theorem wts_zero {α : Type} (R : Rec α) (xs : List α) : wts R xs 0 = 0 := rfl
theorem wts_succ {α : Type} (R : Rec α) (xs : List α) (i : Nat) (h : i < xs.length) : wts R xs (i + 1) = wts R xs i + R.wt xs[i] := by
  unfold wts
  rw [List.take_succ_eq_append_getElem h, List.map_append, List.sum_append]
  simp only [List.map_cons, List.map_nil, List.sum_cons, List.sum_nil, Nat.add_zero]
theorem wts_all {α : Type} (R : Rec α) (xs : List α) : wts R xs xs.length = (xs.map R.wt).sum := by rw [wts, List.take_length]
theorem wts_le {α : Type} (R : Rec α) (xs : List α) (i : Nat) : wts R xs i ≤ (xs.map R.wt).sum := by
  have h : (xs.map R.wt).sum = ((xs.take i).map R.wt).sum + ((xs.drop i).map R.wt).sum := by
    rw [← List.sum_append, ← List.map_append, List.take_append_drop]
  unfold wts
  omega
theorem wt_le {α : Type} (R : Rec α) (xs : List α) (j : Nat) (h : j < xs.length) : R.wt xs[j] ≤ (xs.map R.wt).sum := by
  have h1 := wts_succ R xs j h
  have h2 := wts_le R xs (j + 1)
  omega
/-- What is left of a room when so much is taken out of it; -1 where there is not so much. -/
def szR (n : Nat) (left : Int) : Int := if (n : Int) ≤ left then left - n else -1
theorem szR_yes {n : Nat} {left : Int} (h : (n : Int) ≤ left) : szR n left = left - n := if_pos h
theorem szR_no {n : Nat} {left : Int} (h : ¬ (n : Int) ≤ left) : szR n left = -1 := if_neg h
theorem len1 {cs : List Value} (h : cs.length = 1) : ∃ c0, cs = [c0] :=
  match cs, h with
  | [c0], _ => ⟨c0, rfl⟩
theorem len2 {cs : List Value} (h : cs.length = 2) : ∃ c0 c1, cs = [c0, c1] :=
  match cs, h with
  | [c0, c1], _ => ⟨c0, c1, rfl⟩
theorem len3 {cs : List Value} (h : cs.length = 3) : ∃ c0 c1 c2, cs = [c0, c1, c2] :=
  match cs, h with
  | [c0, c1, c2], _ => ⟨c0, c1, c2, rfl⟩
theorem len4 {cs : List Value} (h : cs.length = 4) : ∃ c0 c1 c2 c3, cs = [c0, c1, c2, c3] :=
  match cs, h with
  | [c0, c1, c2, c3], _ => ⟨c0, c1, c2, c3, rfl⟩
theorem len5 {cs : List Value} (h : cs.length = 5) : ∃ c0 c1 c2 c3 c4, cs = [c0, c1, c2, c3, c4] :=
  match cs, h with
  | [c0, c1, c2, c3, c4], _ => ⟨c0, c1, c2, c3, c4, rfl⟩
theorem len6 {cs : List Value} (h : cs.length = 6) : ∃ c0 c1 c2 c3 c4 c5, cs = [c0, c1, c2, c3, c4, c5] :=
  match cs, h with
  | [c0, c1, c2, c3, c4, c5], _ => ⟨c0, c1, c2, c3, c4, c5, rfl⟩
theorem len7 {cs : List Value} (h : cs.length = 7) : ∃ c0 c1 c2 c3 c4 c5 c6, cs = [c0, c1, c2, c3, c4, c5, c6] :=
  match cs, h with
  | [c0, c1, c2, c3, c4, c5, c6], _ => ⟨c0, c1, c2, c3, c4, c5, c6, rfl⟩
theorem len8 {cs : List Value} (h : cs.length = 8) : ∃ c0 c1 c2 c3 c4 c5 c6 c7, cs = [c0, c1, c2, c3, c4, c5, c6, c7] :=
  match cs, h with
  | [c0, c1, c2, c3, c4, c5, c6, c7], _ => ⟨c0, c1, c2, c3, c4, c5, c6, c7, rfl⟩
theorem len9 {cs : List Value} (h : cs.length = 9) : ∃ c0 c1 c2 c3 c4 c5 c6 c7 c8, cs = [c0, c1, c2, c3, c4, c5, c6, c7, c8] :=
  match cs, h with
  | [c0, c1, c2, c3, c4, c5, c6, c7, c8], _ => ⟨c0, c1, c2, c3, c4, c5, c6, c7, c8, rfl⟩
theorem len10 {cs : List Value} (h : cs.length = 10) : ∃ c0 c1 c2 c3 c4 c5 c6 c7 c8 c9, cs = [c0, c1, c2, c3, c4, c5, c6, c7, c8, c9] :=
  match cs, h with
  | [c0, c1, c2, c3, c4, c5, c6, c7, c8, c9], _ => ⟨c0, c1, c2, c3, c4, c5, c6, c7, c8, c9, rfl⟩
theorem len11 {cs : List Value} (h : cs.length = 11) : ∃ c0 c1 c2 c3 c4 c5 c6 c7 c8 c9 c10, cs = [c0, c1, c2, c3, c4, c5, c6, c7, c8, c9, c10] :=
  match cs, h with
  | [c0, c1, c2, c3, c4, c5, c6, c7, c8, c9, c10], _ => ⟨c0, c1, c2, c3, c4, c5, c6, c7, c8, c9, c10, rfl⟩
theorem len12 {cs : List Value} (h : cs.length = 12) : ∃ c0 c1 c2 c3 c4 c5 c6 c7 c8 c9 c10 c11, cs = [c0, c1, c2, c3, c4, c5, c6, c7, c8, c9, c10, c11] :=
  match cs, h with
  | [c0, c1, c2, c3, c4, c5, c6, c7, c8, c9, c10, c11], _ => ⟨c0, c1, c2, c3, c4, c5, c6, c7, c8, c9, c10, c11, rfl⟩
end Go.Proofs.Ytdldgchkinflmaa.Lib
