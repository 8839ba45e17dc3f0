/- Walk of the program's measure of a term. Conditions: those of each theorem. -/
import Derived.Test.YtdldgchkinflmaaTm9
import Derived.Recover
import Derived.WalkSmall
import Derived.Defers
set_option linter.unusedVariables false
namespace Go.Proofs.Ytdldgchkinflmaa.Fn
open Go.RowKit Go.Proofs.Ytdldgchkinflmaa.Lib Go.Proofs.Ytdldgchkinflmaa.Plan

/-- Old blocks, but for one. -/
def OldBut (w : World) (g : Nat) : Nat → Prop := fun b => b < w.heap.size ∧ b ≠ g
theorem rd_grown {α : Type} (R : Rec α) {w w1 : World} {g : Nat} {a : α} {cs : List Value} (h : R.rd False w (OldBut w g) a cs) (hg : w.grownBy w1 (some g)) : R.rd False w1 (OldBut w1 g) a cs :=
  R.frame h (fun b hb => hg.block b hb.1 (by intro e; injection e with e; exact hb.2 e)) (fun b hb => ⟨Nat.lt_of_lt_of_le hb.1 hg.size, hb.2⟩)
def sumTo (f : T → Nat) (ts : List T) (k : Nat) : Nat := ((ts.take k).map f).sum
theorem sumTo_succ (f : T → Nat) (ts : List T) (k : Nat) (h : k < ts.length) : sumTo f ts (k + 1) = sumTo f ts k + f ts[k] := by
  unfold sumTo
  rw [List.take_succ_eq_append_getElem h, List.map_append, List.sum_append]
  simp only [List.map_cons, List.map_nil, List.sum_cons, List.sum_nil, Nat.add_zero]
theorem sumTo_all (f : T → Nat) (ts : List T) : sumTo f ts ts.length = (ts.map f).sum := by rw [sumTo, List.take_length]
theorem sumTo_le (f : T → Nat) (ts : List T) (k : Nat) : sumTo f ts k ≤ (ts.map f).sum := by
  have h : (ts.map f).sum = ((ts.take k).map f).sum + ((ts.drop k).map f).sum := by
    rw [← List.sum_append, ← List.map_append, List.take_append_drop]
  unfold sumTo
  omega
theorem maxl_le {l : List Nat} {D : Nat} : maxl l ≤ D ↔ ∀ x ∈ l, x ≤ D := by
  suffices ∀ (l : List Nat) (a : Nat), l.foldl max a ≤ D ↔ a ≤ D ∧ ∀ x ∈ l, x ≤ D by
    have h := this l 0
    simpa [maxl] using h
  intro l
  induction l with
  | nil => intro a; simp
  | cons x l ih =>
    intro a
    rw [List.foldl_cons, ih, Nat.max_le, and_assoc]
    simp only [List.mem_cons, forall_eq_or_imp]
def fitsB (c d : Nat) (t : T) : Bool := decide (c + t.cnt ≤ 2000) && decide (d + t.deep ≤ 101)
def tooMany : List PanicEntry := [{ v := .iface 266 (.agg #[]), recovered := false }]
def Walks (t : T) : Prop := ∀ (cs : List Value) (g c d : Nat) (w : World), Rec.term.rd False w (OldBut w g) t cs → Rec.term.wt t ≤ 1048576 → Blk w g 269 [.int .i64 c] → c ≤ 2000 → d ≤ 101 →
  Calls Try.prog 221 #[.pointer (some ⟨g, 0, none⟩), .agg cs.toArray, .int .i64 d] w fun e w' =>
    w.grownBy w' (some g) ∧ ((fitsB c d t = true ∧ e = .returned (.tuple #[]) ∧ Blk w' g 269 [.int .i64 ((c + t.cnt : Nat) : Int)]) ∨ (fitsB c d t = false ∧ e = .panicked tooMany))
theorem fits_no {c d : Nat} {t : T} (h : 2000 ≤ c ∨ 101 ≤ d) : fitsB c d t = false := by
  have h1 := t.cnt_pos
  have h2 := t.deep_pos
  simp [fitsB]
  omega
theorem fits_kid {c d k : Nat} {kd n : Int} {s : ByteArray} {ts : List T} (h : k < ts.length) (hf : fitsB (c + 1 + sumTo T.cnt ts k) (d + 1) ts[k] = false) : fitsB c d (.mk kd n s ts) = false := by
  have h1 := sumTo_succ T.cnt ts k h
  have h2 := sumTo_le T.cnt ts (k + 1)
  have h3 : ts[k].deep ≤ maxl (ts.map T.deep) := maxl_le.1 (Nat.le_refl _) _ (List.mem_map.2 ⟨ts[k], List.getElem_mem h, rfl⟩)
  simp only [fitsB, T.cnt_eq, T.deep_eq, Bool.and_eq_false_iff, decide_eq_false_iff_not] at hf ⊢
  omega
theorem fits_all {c d : Nat} {kd n : Int} {s : ByteArray} {ts : List T} (h1 : c + 1 + sumTo T.cnt ts ts.length ≤ 2000) (hd : d ≤ 100) (h2 : ∀ (j : Nat) (h : j < ts.length), d + ts[j].deep ≤ 100) : fitsB c d (.mk kd n s ts) = true := by
  rw [sumTo_all] at h1
  have h3 : maxl (ts.map T.deep) ≤ 100 - d := maxl_le.2 (fun x hx => by
    obtain ⟨y, hy, rfl⟩ := List.mem_map.1 hx
    obtain ⟨j, hj, rfl⟩ := List.getElem_of_mem hy
    have := h2 j hj
    omega)
  simp only [fitsB, T.cnt_eq, T.deep_eq, Bool.and_eq_true, decide_eq_true_eq]
  omega
set_option maxRecDepth 100000 in
set_option maxHeartbeats 4000000 in
theorem walk (t : T) : Walks t := by
  induction t using T.ind with
  | h k n s ts ih =>
  intro cs g c d w h hw hg hc hd
  obtain ⟨A1, c1, rfl, h1⟩ := Rec.term_iff.1 h
  change Rec.term.sl.rd False w (OldBut w g) ts [.slice A1 ts.length c1] at h1
  have WT := wt_sl _ _ _ _ _ hw
  have HIH := Aside.mk ih
  have HW := Aside.mk (wt_kid WT)
  have L1 := wt_len WT
  obtain ⟨_, _, he, hcap, h1⟩ := h1
  injection he with he _
  injection he with e1 e2 e3
  subst e1 e3
  have HA := Aside.mk h1
  have HG := Aside.mk hg
  have hgs := hg.lt
  have v0 := hg.cell 0
  have v1 := hg.free 0
  simp only [List.getElem?_cons_zero] at v0
  obtain ⟨m, hln⟩ : ∃ m, m = ts.length := ⟨_, rfl⟩
  have hln2 : ts.length = m := hln.symm
  have HN := Aside.mk hln
  show Calls Try.prog 221 #[.pointer (some ⟨g, 0, none⟩), .agg #[.int .i64 k, .int .i64 n, .string s, .slice A1 ts.length c1], .int .i64 d] w _
  rw [hln2] at L1 hcap ⊢
  clear ih h1 h hw hln hln2 WT hg
  by_cases hbad : 2000 ≤ c ∨ 101 ≤ d
  · have E := Aside.mk (fits_no (t := .mk k n s ts) hbad)
    have G1 : Aside (w.grownBy ((w.setCell ⟨g, 0, none⟩ (.int .i64 ((c : Int) + 1))).alloc (.cells #[.int .i64 k, .int .i64 n, .string s, .slice A1 m c1] 26)) (some g)) := ⟨grown_alloc (grown_set (grown_refl _ _) _ _) _⟩
    clear HA HIH HW
    by_cases hc2 : 2000 ≤ c
    · clear hbad
      go_enter Try.func221, Try.ntmps221
      go_wp2
      exact ⟨rfl, G1.out, .inr ⟨E.out, rfl⟩⟩
    · have hd2 : 101 ≤ d := by omega
      clear hbad
      go_enter Try.func221, Try.ntmps221
      go_wp2
      exact ⟨rfl, G1.out, .inr ⟨E.out, rfl⟩⟩
  have hc3 : c < 2000 := by omega
  have hd3 : d ≤ 100 := by omega
  clear hbad
  have K0 : Aside (Blk ((w.setCell ⟨g, 0, none⟩ (.int .i64 ((c : Int) + 1))).alloc (.cells #[.int .i64 k, .int .i64 n, .string s, .slice A1 m c1] 26)) g 269 [.int .i64 ((c + 1 + sumTo T.cnt ts 0 : Nat) : Int)]) := ⟨(HG.out.set 0 _).alloc _⟩
  have G0 : Aside (w.grownBy ((w.setCell ⟨g, 0, none⟩ (.int .i64 ((c : Int) + 1))).alloc (.cells #[.int .i64 k, .int .i64 n, .string s, .slice A1 m c1] 26)) (some g)) := ⟨grown_alloc (grown_set (grown_refl _ _) _ _) _⟩
  have HS0 : Aside (0 = sumTo T.cnt ts 0) := ⟨rfl⟩
  go_enter Try.func221, Try.ntmps221
  go_wp2_with fail
  go_loopw [29] (fun i wr => ∃ j : Nat, j ≤ m ∧ i = .int .i64 j ∧ (∃ q : Nat, Aside (q = sumTo T.cnt ts j) ∧ c + 1 + q ≤ 2000 ∧ Aside (Blk wr g 269 [.int .i64 ((c + 1 + q : Nat) : Int)])) ∧ Aside (w.grownBy wr (some g)) ∧ Aside (∀ (t : Nat) (h : t < ts.length), t < j → d + ts[t].deep ≤ 100)) (fun i _ => m - (intOf i).toNat)
  case atStart => exact ⟨0, Nat.zero_le _, rfl, ⟨0, HS0, by omega, K0⟩, G0, ⟨fun t _ h => absurd h (Nat.not_lt_zero _)⟩⟩
  case round =>
    obtain ⟨j, hj, rfl, ⟨q, hq, hq2, hk0⟩, hg0, hall⟩ := hrel
    clear K0 G0 HS0 v0 v1
    by_cases hlt : j < m
    · have hlt1 : j < ts.length := by rw [← HN.out]; exact hlt
      rcases HA.out with h0 | ⟨b1, o1, rfl, hb1, f1, hf1, -, hrow1⟩
      · exfalso; rw [h0] at hlt1; exact absurd hlt1 (Nat.not_lt_zero _)
      obtain ⟨cs1, hr1, hc1⟩ := hrow1 j hlt1
      obtain ⟨x0, x1, x2, x3a, x3b, x3c, rfl⟩ := shapeTerm hr1
      have hcell : ∀ o, wr.cell? ⟨b1, o, none⟩ = w.cell? ⟨b1, o, none⟩ := fun o => World.cell?_of_block (w := w) (hg0.out.block b1 hb1.1 (by intro e; injection e with e; exact hb1.2 e))
      have d10 : wr.cell? ⟨b1, o1 + j * 4, none⟩ = some (.int .i64 x0) := (hcell _).trans (hc1 0 (by decide))
      have d11 : wr.cell? ⟨b1, o1 + j * 4 + 1, none⟩ = some (.int .i64 x1) := (hcell _).trans (hc1 1 (by decide))
      have d12 : wr.cell? ⟨b1, o1 + j * 4 + 2, none⟩ = some (.string x2) := (hcell _).trans (hc1 2 (by decide))
      have d13 : wr.cell? ⟨b1, o1 + j * 4 + 3, none⟩ = some (.slice x3a x3b x3c) := (hcell _).trans (hc1 3 (by decide))
      have HR1 := Aside.mk (rd_grown Rec.term (Rec.term.mono hr1 (fun c hc => (hf1 j c hc).1)) (grown_alloc hg0.out (.cells #[.int .i64 x0, .int .i64 x1, .string x2, .slice x3a x3b x3c] 26)))
      have HK1 := Aside.mk (hk0.out.alloc (.cells #[.int .i64 x0, .int .i64 x1, .string x2, .slice x3a x3b x3c] 26))
      have HG1 := Aside.mk (grown_alloc hg0.out (.cells #[.int .i64 x0, .int .i64 x1, .string x2, .slice x3a x3b x3c] 26))
      have W1 := HW.out j hlt1
      have HST := Aside.mk (sumTo_succ T.cnt ts j hlt1)
      clear hc1 hrow1 hf1 hr1 hcell
      go_wp2_with fail
      have hcall := HIH.out ts[j] (List.getElem_mem hlt1) [.int .i64 x0, .int .i64 x1, .string x2, .slice x3a x3b x3c] g (c + 1 + q) (d + 1) _ HR1.out W1 HK1.out hq2 (by omega)
      rw [show ((d + 1 : Nat) : Int) = (d : Int) + 1 by omega] at hcall
      refine hcall.mono ?_
      clear hcall
      rintro e w2 ⟨hg2, h⟩
      have HG2 := Aside.mk (grown_trans HG1.out hg2)
      clear hg2 d10 d11 d12 d13 HR1 HK1 HG1 hk0 hg0
      rcases h with ⟨hfit, rfl, hk2⟩ | ⟨hfit, rfl⟩
      · have hf : c + 1 + q + ts[j].cnt ≤ 2000 ∧ d + 1 + ts[j].deep ≤ 101 := by simpa [fitsB] using hfit
        obtain ⟨hf1, hf2⟩ := hf
        have HK2 : Aside (Blk w2 g 269 [.int .i64 ((c + 1 + (q + ts[j].cnt) : Nat) : Int)]) := ⟨by rw [← Nat.add_assoc]; exact hk2⟩
        have hq3 : Aside (q + ts[j].cnt = sumTo T.cnt ts (j + 1)) := ⟨by rw [HST.out, hq.out]⟩
        have hall2 : Aside (∀ (t : Nat) (h : t < ts.length), t < j + 1 → d + ts[t].deep ≤ 100) := ⟨fun t ht htj => by
          by_cases e : t = j
          · subst e; omega
          · exact hall.out t ht (by omega)⟩
        have hq4 : c + 1 + (q + ts[j].cnt) ≤ 2000 := by omega
        clear hall hfit hk2 HST hq hf1 hf2 W1
        generalize q + ts[j].cnt = q2 at HK2 hq3 hq4
        go_wp2_with fail
        go_roundw
        case rel => exact ⟨j + 1, by omega, by go_num, ⟨q2, hq3, hq4, HK2⟩, HG2, hall2⟩
        case measure => first | (simp [intOf]; done) | (simp [intOf]; omega)
      · have E : Aside (fitsB c d (.mk k n s ts) = false) := ⟨fits_kid hlt1 (by rw [← hq.out]; exact hfit)⟩
        clear hall HST hq W1 hfit
        go_wp2
        exact ⟨rfl, HG2.out, .inr ⟨E.out, rfl⟩⟩
    · obtain rfl : j = m := by omega
      have E : Aside (fitsB c d (.mk k n s ts) = true) := ⟨fits_all (by rw [← HN.out, ← hq.out]; omega) hd3 (fun t ht => hall.out t ht (by have := HN.out; omega))⟩
      have HK2 : Aside (Blk wr g 269 [.int .i64 ((c + (T.mk k n s ts).cnt : Nat) : Int)]) := ⟨by
        have e : c + (T.mk k n s ts).cnt = c + 1 + q := by rw [T.cnt_eq, hq.out, HN.out, sumTo_all]; omega
        rw [e]; exact hk0.out⟩
      clear hall hq hk0
      go_wp2_with fail
      go_end0
      exact ⟨hg0.out, .inl ⟨E.out, rfl, HK2.out⟩⟩
end Go.Proofs.Ytdldgchkinflmaa.Fn
