/- Marks: a number's text; what is written into a row leaves all other blocks; one element of a row is written anew. Conditions: those of each theorem. -/
import Derived.Test.YtdldgchkinflmaaGBase
set_option linter.unusedVariables false
namespace Go.Proofs.Ytdldgchkinflmaa.Lib
open Go.RowKit Go.Proofs.Ytdldgchkinflmaa.Plan

/-- A number's digits. -/
def dig10 (n : Nat) : List Int := if n = 0 then [] else dig10 (n / 10) ++ [48 + ((n % 10 : Nat) : Int)]
termination_by n
decreasing_by omega
theorem dig10_pos {n : Nat} (h : n ≠ 0) : dig10 n = dig10 (n / 10) ++ [48 + ((n % 10 : Nat) : Int)] := by rw [dig10, if_neg h]
theorem dig10_zero : dig10 0 = [] := by rw [dig10, if_pos rfl]
theorem dig10_len (n : Nat) : (dig10 n).length ≤ n := by
  induction n using Nat.strongRecOn with
  | _ n ih =>
    by_cases h : n = 0
    · subst h; rw [dig10_zero]; exact Nat.le_refl _
    · rw [dig10_pos h, List.length_append]
      have := ih (n / 10) (by omega)
      simp only [List.length_cons, List.length_nil]
      omega
def mtext (k : Int) : ByteArray := ⟨#[109]⟩ ++ strOfNums (dig10 k.toNat)
theorem strOfNums_cons (x : Int) (l : List Int) : strOfNums [x] ++ strOfNums l = strOfNums (x :: l) := ext_list (by
  rw [ByteArray.toList_eq, ByteArray.toList_eq, app_toList, strOfNums_data, strOfNums_data, strOfNums_data]; rfl)
/-- Blocks outside S are as they were. -/
structure But (S : Nat → Prop) (w w' : World) : Prop where
  os : w'.os = w.os
  tape : w'.tape = w.tape
  output : w'.output = w.output
  size : w.heap.size ≤ w'.heap.size
  block : ∀ k, k < w.heap.size → ¬ S k → w'.heap[k]? = w.heap[k]?
theorem But.refl (S : Nat → Prop) (w : World) : But S w w := ⟨rfl, rfl, rfl, Nat.le_refl _, fun _ _ _ => rfl⟩
theorem But.trans {S : Nat → Prop} {a b c : World} (h : But S a b) (k : But S b c) : But S a c :=
  ⟨k.os.trans h.os, k.tape.trans h.tape, k.output.trans h.output, Nat.le_trans h.size k.size, fun i hi hs => (k.block i (Nat.lt_of_lt_of_le hi h.size) hs).trans (h.block i hi hs)⟩
theorem But.mono {S S' : Nat → Prop} {a b : World} (h : But S a b) (hs : ∀ k, S k → S' k) : But S' a b :=
  ⟨h.os, h.tape, h.output, h.size, fun i hi hn => h.block i hi (fun hh => hn (hs i hh))⟩
theorem But.below {S : Nat → Prop} {a b : World} (h : Below a.heap.size a b) : But S a b := ⟨h.os, h.tape, h.output, h.size, fun i hi _ => h.block i hi⟩
theorem But.set {S : Nat → Prop} {a b : World} (h : But S a b) {p : Addr} (hp : S p.block) (v : Value) : But S a (b.setCell p v) :=
  h.trans ⟨rfl, rfl, rfl, by simp [World.setCell], fun k _ hn => Below.heap_setCell _ _ _ _ (fun e => hn (e ▸ hp))⟩
theorem But.out {S : Nat → Prop} {w a b : World} (hb : Below w.heap.size w a) (h : But S a b) (hs : ∀ k, S k → w.heap.size ≤ k) : Below w.heap.size w b :=
  hb.trans ⟨h.os, h.tape, h.output, h.size, fun k hk => h.block k (Nat.lt_of_lt_of_le hk hb.size) (fun hh => by have := hs k hh; omega)⟩
theorem Rec.mkpair {α β : Type} {A : Rec α} {B : Rec β} {tr : Prop} {w : World} {S Sa Sb : Nat → Prop} {a : α} {b : β} {ca cb : List Value} (ha : A.rd tr w Sa a ca) (hb : B.rd tr w Sb b cb) (h : (∀ b, Sa b → S b) ∧ (∀ b, Sb b → S b) ∧ (tr → ∀ b, Sa b → ¬ Sb b)) :
    (A.pair B).rd tr w S (a, b) (ca ++ cb) := ⟨_, _, _, _, rfl, ha, hb, h.1, h.2.1, h.2.2⟩
theorem Rec.but {α : Type} (R : Rec α) {tr : Prop} {w w1 : World} {S Z : Nat → Prop} {a : α} {cs : List Value} (h : R.rd tr w Z a cs) (hb : But S w w1) (hz : ∀ b, Z b → b < w.heap.size ∧ ¬ S b) : R.rd tr w1 Z a cs :=
  R.frame h (fun b hb' => hb.block b (hz b hb').1 (hz b hb').2) (fun _ h => h)
theorem Blk.but {w w1 : World} {S : Nat → Prop} {g : Nat} {T : TypeId} {cs : List Value} (h : Blk w g T cs) (hb : But S w w1) (hs : ¬ S g) : Blk w1 g T cs := (hb.block g h.lt hs).trans h
/-- Only cells lo .. hi of block b, and blocks of F, were written. -/
structure Only (b lo hi : Nat) (F : Nat → Prop) (w w' : World) : Prop where
  but : But (fun c => c = b ∨ F c) w w'
  cell : ∀ j, (j < lo ∨ hi ≤ j) → w'.cell? ⟨b, j, none⟩ = w.cell? ⟨b, j, none⟩
  froz : ∀ j, w'.frozen? ⟨b, j, none⟩ = w.frozen? ⟨b, j, none⟩
theorem Only.refl (b lo hi : Nat) (F : Nat → Prop) (w : World) : Only b lo hi F w w := ⟨But.refl _ _, fun _ _ => rfl, fun _ => rfl⟩
theorem cell_set_ne {w : World} {b i j : Nat} {v : Value} (h : j ≠ i) : (w.setCell ⟨b, i, none⟩ v).cell? ⟨b, j, none⟩ = w.cell? ⟨b, j, none⟩ := World.cell?_setCell_other _ _ _ _ (fun e => h (by injection e with e1 e2 e3; exact e2.symm))
theorem Only.set {b lo hi : Nat} {F : Nat → Prop} {w w' : World} (h : Only b lo hi F w w') {j : Nat} (hj : lo ≤ j ∧ j < hi) (v : Value) : Only b lo hi F w (w'.setCell ⟨b, j, none⟩ v) :=
  ⟨h.but.set (Or.inl rfl) v, fun i hi' => (cell_set_ne (by omega)).trans (h.cell i hi'), fun i => (World.frozen?_setCell _ _ _ _).trans (h.froz i)⟩
theorem Only.call {b lo hi : Nat} {F G : Nat → Prop} {w w' w2 : World} (h : Only b lo hi F w w') (hb : But G w' w2) (hg : ∀ c, G c → F c) (hF : ¬ F b) (hlt : b < w'.heap.size) : Only b lo hi F w w2 :=
  have hk := hb.block b hlt (fun hh => hF (hg b hh))
  ⟨h.but.trans (hb.mono (fun c hc => Or.inr (hg c hc))), fun j hj => (World.cell?_of_block (w := w') hk).trans (h.cell j hj), fun j => (World.frozen?_of_block (w := w') hk).trans (h.froz j)⟩
/-- The cells of a row's element. -/
def Cells (w : World) (b o : Nat) (l : List Value) : Prop := ∀ t, t < l.length → w.cell? ⟨b, o + t, none⟩ = l[t]?
theorem Cells.at {w : World} {b o : Nat} {l : List Value} (h : Cells w b o l) (t : Nat) (ht : t < l.length) : w.cell? ⟨b, o + t, none⟩ = some l[t] := (h t ht).trans (List.getElem?_eq_getElem ht)
theorem Cells.set {w : World} {b o : Nat} {l : List Value} (h : Cells w b o l) (t : Nat) (v : Value) : Cells (w.setCell ⟨b, o + t, none⟩ v) b o (l.set t v) := by
  intro i hi
  rw [List.length_set] at hi
  by_cases e : i = t
  · subst e
    rw [List.getElem?_set_self hi]
    exact World.cell?_setCell_same _ _ _ (h.at i hi)
  · rw [List.getElem?_set_ne (Ne.symm e), cell_set_ne (by omega)]
    exact h i hi
theorem Cells.call {w w2 : World} {b o : Nat} {l : List Value} {G : Nat → Prop} (h : Cells w b o l) (hb : But G w w2) (hG : ¬ G b) (hlt : b < w.heap.size) : Cells w2 b o l :=
  fun t ht => (World.cell?_of_block (w := w) (hb.block b hlt hG)).trans (h t ht)
/-- One element of a row apart: what must hold behind it to have the row again. -/
theorem RowOf.focus {α : Type} {R : Rec α} {w : World} {S : Nat → Prop} {xs : List α} {b o : Nat} (h : RowOf R.k (R.rd True w) True w S xs b o) (i : Nat) (hi : i < xs.length) :
    ∃ (F : Nat → Prop) (cs : List Value), (∀ c, F c → S c ∧ c ≠ b) ∧ R.rd True w F xs[i] cs ∧ Cells w b (o + i * R.k) cs ∧ (∀ j, w.frozen? ⟨b, j, none⟩ = false) ∧
      ∀ (w' : World) (y : α) (cs' : List Value), R.rd True w' F y cs' → Cells w' b (o + i * R.k) cs' → Only b (o + i * R.k) (o + i * R.k + R.k) F w w' → (∀ c, S c → c < w.heap.size) → RowOf R.k (R.rd True w') True w' S (xs.set i y) b o := by
  obtain ⟨hb, f, h1, h2, h3⟩ := h
  obtain ⟨hfz, hdis⟩ := h2 trivial
  obtain ⟨cs, hr, hc⟩ := h3 i hi
  refine ⟨f i, cs, fun c hc => ⟨(h1 i c hc).1, (h1 i c hc).2 trivial⟩, hr, fun t ht => hc t (by rw [R.len hr] at ht; exact ht), hfz, fun w' y cs' hr' hc' ho hlt => ?_⟩
  refine ⟨hb, f, h1, fun _ => ⟨fun j => (ho.froz j).trans (hfz j), hdis⟩, fun j hj => ?_⟩
  by_cases e : j = i
  · subst e
    exact ⟨cs', by simpa using hr', fun t ht => hc' t (by rw [R.len hr']; exact ht)⟩
  · have hj' : j < xs.length := by simpa using hj
    obtain ⟨c2, r2, d2⟩ := h3 j hj'
    refine ⟨c2, ?_, fun t ht => (ho.cell _ ?_).trans (d2 t ht)⟩
    · rw [List.getElem_set_ne (Ne.symm e)]
      exact R.frame r2 (fun c hc => ho.but.block c (hlt c (h1 j c hc).1) (fun hh => hh.elim ((h1 j c hc).2 trivial) (hdis j i e c hc))) (fun _ h => h)
    · rcases Nat.lt_or_gt_of_ne e with hlt | hlt
      · left
        have : (j + 1) * R.k ≤ i * R.k := Nat.mul_le_mul_right _ hlt
        rw [Nat.add_mul] at this
        omega
      · right
        have : (i + 1) * R.k ≤ j * R.k := Nat.mul_le_mul_right _ hlt
        rw [Nat.add_mul] at this
        omega
theorem take_set_snoc {α : Type} (l : List α) (i : Nat) (y : α) (h : i < l.length) : (l.set i y).take (i + 1) = l.take i ++ [y] := by
  rw [List.take_succ_eq_append_getElem (by simpa using h), List.take_set_of_le (Nat.le_refl _), List.getElem_set_self]
/-- What mark's function of rows is to do: it writes marks from k0 on into the row. -/
def Marked {α : Type} (R : Rec α) (H : List α → Int → Int → Prop) (w : World) (S : Nat → Prop) (v : Value) (k0 : Int) (n m : Nat) : Ending → World → Prop := fun e w' =>
  ∃ k ys, e = .returned (.int .i64 k) ∧ H ys k0 k ∧ ys.length = n ∧ R.sl.rd True w' S ys [v] ∧ But S w w' ∧ k0 ≤ k ∧ k ≤ k0 + 8 * m
def MarkOK {α : Type} (F : FuncId) (R : Rec α) (H : List α → Int → Int → Prop) (xs : List α) : Prop := ∀ (v : Value) (w : World) (S : Nat → Prop) (k0 : Int), R.sl.rd True w S xs [v] → (∀ b, S b → b < w.heap.size) → 1 ≤ k0 → k0 + 8 * R.sl.wt xs ≤ 4611686018427387904 →
  Calls Try.prog F #[v, .int .i64 k0] w (Marked R H w S v k0 xs.length (R.sl.wt xs))
def HeldOK {α : Type} (F : FuncId) (R : Rec α) (H : List α → Int → Int → Prop) (xs : List α) : Prop := ∀ (v : Value) (w : World) (k k' : Int), R.sl.rd False w (Old w) xs [v] → H xs k k' → 1 ≤ k → k' ≤ 4611686018427387904 →
  Calls Try.prog F #[v, .int .i64 k] w fun e w' => e = .returned (.int .i64 k') ∧ Below w.heap.size w w'
/-- The first i of a row are marked. -/
def MarkedTo {α : Type} (R : Rec α) (H : List α → Int → Int → Prop) (xs ys : List α) (w wr : World) (S : Nat → Prop) (b o : Nat) (k0 kk : Int) (i : Nat) : Prop :=
  ys.length = xs.length ∧ RowOf R.k (R.rd True wr) True wr S ys b o ∧ H (ys.take i) k0 kk ∧ (∀ j, i ≤ j → ys[j]? = xs[j]?) ∧ But S w wr
theorem MarkedTo.start {α : Type} {R : Rec α} {H : List α → Int → Int → Prop} {xs : List α} {w : World} {S : Nat → Prop} {b o : Nat} {k0 : Int} (h : RowOf R.k (R.rd True w) True w S xs b o) (h0 : H [] k0 k0) : MarkedTo R H xs xs w w S b o k0 k0 0 :=
  ⟨rfl, h, h0, fun _ _ => rfl, But.refl _ _⟩
theorem MarkedTo.done {α : Type} {R : Rec α} {H : List α → Int → Int → Prop} {xs ys : List α} {w wr : World} {S : Nat → Prop} {b o n cap m : Nat} {k0 kk : Int} (hn : n = xs.length) (hc : n ≤ cap) (h1 : k0 ≤ kk) (h2 : kk ≤ k0 + 8 * m)
    (h : MarkedTo R H xs ys w wr S b o k0 kk n) : Marked R H w S (.slice (some ⟨b, o, none⟩) n cap) k0 n m (.returned (.int .i64 kk)) wr := by
  obtain ⟨g1, g2, g3, g4, g5⟩ := h
  have e : ys.length = n := by omega
  refine ⟨kk, ys, rfl, ?_, e, ⟨_, _, by rw [← e], by omega, Or.inr ⟨b, o, rfl, g2⟩⟩, g5, h1, h2⟩
  rwa [List.take_of_length_le (by omega)] at g3
theorem MarkedTo.next {α : Type} {R : Rec α} {H : List α → Int → Int → Prop} (happ : ∀ {l m k k1 k2}, H l k k1 → H m k1 k2 → H (l ++ m) k k2) {xs ys : List α} {w wr w' : World} {S F : Nat → Prop} {b o n i lo hi : Nat} {k0 kk k2 : Int} (h : MarkedTo R H xs ys w wr S b o k0 kk i) (y : α) (hn : n = xs.length) (hi' : i < xs.length)
    (hy : H [y] kk k2) (hr : RowOf R.k (R.rd True w') True w' S (ys.set i y) b o) (ho : Only b lo hi F wr w') (hs : ∀ c, (c = b ∨ F c) → S c) : MarkedTo R H xs (ys.set i y) w w' S b o k0 k2 (i + 1) := by
  obtain ⟨g1, g2, g3, g4, g5⟩ := h
  refine ⟨by rw [List.length_set, g1], hr, ?_, fun j hj => ?_, g5.trans (ho.but.mono hs)⟩
  · rw [take_set_snoc _ _ _ (by omega)]
    exact happ g3 hy
  · rw [List.getElem?_set_ne (by omega)]
    exact g4 j (by omega)
theorem RowOf.here {α : Type} {k : Nat} {rd : (Nat → Prop) → α → List Value → Prop} {tr : Prop} {w : World} {S : Nat → Prop} {xs : List α} {b o : Nat} (h : RowOf k rd tr w S xs b o) : S b := h.1

set_option maxRecDepth 100000 in
set_option maxHeartbeats 1000000 in
theorem markText (k : Int) (w : World) (h1 : 1 ≤ k) (h2 : k ≤ 4611686018427387904) : Calls Try.prog 123 #[.int .i64 k] w fun e w' => e = .returned (.string (mtext k)) ∧ Below w.heap.size w w' := by
  obtain ⟨n, rfl⟩ := Int.eq_ofNat_of_zero_le (show 0 ≤ k by omega)
  have hn1 : 1 ≤ n := by omega
  have hcv : Aside (∀ (wx : World) (x : Int), (convert 22 9 (.slice (some ⟨wx.heap.size, 0, none⟩) 1 1)).run Try.prog (wx.alloc (.cells #[.int .u8 x] 5)) = .ok (.string (strOfNums [x])) (wx.alloc (.cells #[.int .u8 x] 5))) :=
    ⟨fun wx x => own_str (P := Try.prog) (xs := [x]) Try.underlying22 Try.underlying5 Try.underlying9 (World.ownsRow_lit (base := wx.heap.size) (size := 1) (e := 5) wx #[.int .u8 x] 1 (Nat.le_refl _) (by unfold maxLen; omega) rfl)⟩
  go_enter Try.func123, Try.ntmps123
  go_wp2_with fail
  go_loopw [0, 3] (fun kv out wr => ∃ (m : Nat) (l : List Int), m ≤ n ∧ kv = .int .i64 m ∧ out = .string (strOfNums l) ∧ Aside (dig10 n = dig10 m ++ l) ∧ Aside (Below w.heap.size w wr)) (fun kv _ _ => (intOf kv).toNat)
  case atStart => exact ⟨n, [], Nat.le_refl _, rfl, rfl, ⟨by simp⟩, ⟨Below.refl _ _⟩⟩
  case round =>
    obtain ⟨m, l, hm, rfl, rfl, hl, hb⟩ := hrel
    have hs : (strOfNums l).size ≤ 4611686018427387904 := by
      have h1 := dig10_len n
      rw [hl.out, List.length_append] at h1
      rw [strOfNums_size]
      omega
    by_cases hm0 : 0 < m
    · have hc := hcv.out wr (48 + (m : Int) % 10)
      have hs1 : (strOfNums [48 + (m : Int) % 10]).size ≤ 1 := by rw [strOfNums_size]; exact Nat.le_refl _
      have e10 : Aside ((m : Int) / 10 = ((m / 10 : Nat) : Int)) := ⟨by omega⟩
      have hl2 : Aside (dig10 n = dig10 (m / 10) ++ ((48 + (m : Int) % 10) :: l)) := ⟨by
        rw [hl.out, dig10_pos (show m ≠ 0 by omega), List.append_assoc, show ((m % 10 : Nat) : Int) = (m : Int) % 10 by omega]; rfl⟩
      have hb2 := Aside.mk (hb.out.alloc hb.out.size (.cells #[.int .u8 (48 + (m : Int) % 10)] 5))
      have hm2 : m / 10 ≤ n := by omega
      clear hl hb
      go_wp2_with fail
      go_roundw
      case rel => exact ⟨m / 10, (48 + (m : Int) % 10) :: l, hm2, by rw [e10.out], by rw [strOfNums_cons], hl2, hb2⟩
      case measure => first | (simp [intOf]; done) | (simp [intOf]; omega)
    · obtain rfl : m = 0 := by omega
      go_wp2_with fail
      go_ret
      exact ⟨ret_str (by rw [mtext, Int.toNat_natCast, hl.out, dig10_zero]; rfl), hb.out⟩
end Go.Proofs.Ytdldgchkinflmaa.Lib
