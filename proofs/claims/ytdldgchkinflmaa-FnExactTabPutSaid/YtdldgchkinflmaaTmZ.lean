/- Walk of the program's measure of a term. Walk of small: a panic that its own deferred closure recovers. Walk of small. Walk of the reference's measure; TermOK of both sides. TermOK, TermSize, TermCompare of both sides. Conditions: those of each theorem. -/
import Derived.Test.YtdldgchkinflmaaTm9
import Derived.Recover
import Derived.WalkSmall
import Derived.Defers
import Derived.Laws.Pointers
section
set_option linter.unusedVariables false
namespace Go.Proofs.Ytdldgchkinflmaa.Fn
open Go.RowKit Go.Proofs.Ytdldgchkinflmaa.Lib Go.Proofs.Ytdldgchkinflmaa.Plan

/-- Old blocks, but for one. -/
def OldBut (w : World) (g : Nat) : Nat → Prop := fun b => b < w.heap.size ∧ b ≠ g
theorem rd_grown {α : Type} (R : Rec α) {w w1 : World} {g : Nat} {a : α} {cs : List Value} (h : R.rd False w (OldBut w g) a cs) (hg : w.grownBy w1 (some g)) : R.rd False w1 (OldBut w1 g) a cs :=
  R.frame h (fun b hb => hg.block b hb.1 (by intro e; injection e with e; exact hb.2 e)) (fun b hb => ⟨Nat.lt_of_lt_of_le hb.1 hg.size, hb.2⟩)
def sumTo (f : T → Nat) (ts : List T) (k : Nat) : Nat := ((ts.take k).map f).sum
theorem sumTo_succ (f : T → Nat) (ts : List T) (k : Nat) (h : k < ts.length) : sumTo f ts (k + 1) = sumTo f ts k + f ts[k] := by
  unfold sumTo
  rw [List.take_succ_eq_append_getElem h, List.map_append, List.sum_append]
  simp only [List.map_cons, List.map_nil, List.sum_cons, List.sum_nil, Nat.add_zero]
theorem sumTo_all (f : T → Nat) (ts : List T) : sumTo f ts ts.length = (ts.map f).sum := by rw [sumTo, List.take_length]
theorem sumTo_le (f : T → Nat) (ts : List T) (k : Nat) : sumTo f ts k ≤ (ts.map f).sum := by
  have h : (ts.map f).sum = ((ts.take k).map f).sum + ((ts.drop k).map f).sum := by
    rw [← List.sum_append, ← List.map_append, List.take_append_drop]
  unfold sumTo
  omega
theorem maxl_le {l : List Nat} {D : Nat} : maxl l ≤ D ↔ ∀ x ∈ l, x ≤ D := by
  suffices ∀ (l : List Nat) (a : Nat), l.foldl max a ≤ D ↔ a ≤ D ∧ ∀ x ∈ l, x ≤ D by
    have h := this l 0
    simpa [maxl] using h
  intro l
  induction l with
  | nil => intro a; simp
  | cons x l ih =>
    intro a
    rw [List.foldl_cons, ih, Nat.max_le, and_assoc]
    simp only [List.mem_cons, forall_eq_or_imp]
def fitsB (c d : Nat) (t : T) : Bool := decide (c + t.cnt ≤ 2000) && decide (d + t.deep ≤ 101)
def tooMany : List PanicEntry := [{ v := .iface 266 (.agg #[]), recovered := false }]
def Walks (t : T) : Prop := ∀ (cs : List Value) (g c d : Nat) (w : World), Rec.term.rd False w (OldBut w g) t cs → Rec.term.wt t ≤ 1048576 → Blk w g 269 [.int .i64 c] → c ≤ 2000 → d ≤ 101 →
  Calls Try.prog 221 #[.pointer (some ⟨g, 0, none⟩), .agg cs.toArray, .int .i64 d] w fun e w' =>
    w.grownBy w' (some g) ∧ ((fitsB c d t = true ∧ e = .returned (.tuple #[]) ∧ Blk w' g 269 [.int .i64 ((c + t.cnt : Nat) : Int)]) ∨ (fitsB c d t = false ∧ e = .panicked tooMany))
theorem fits_no {c d : Nat} {t : T} (h : 2000 ≤ c ∨ 101 ≤ d) : fitsB c d t = false := by
  have h1 := t.cnt_pos
  have h2 := t.deep_pos
  simp [fitsB]
  omega
theorem fits_kid {c d k : Nat} {kd n : Int} {s : ByteArray} {ts : List T} (h : k < ts.length) (hf : fitsB (c + 1 + sumTo T.cnt ts k) (d + 1) ts[k] = false) : fitsB c d (.mk kd n s ts) = false := by
  have h1 := sumTo_succ T.cnt ts k h
  have h2 := sumTo_le T.cnt ts (k + 1)
  have h3 : ts[k].deep ≤ maxl (ts.map T.deep) := maxl_le.1 (Nat.le_refl _) _ (List.mem_map.2 ⟨ts[k], List.getElem_mem h, rfl⟩)
  simp only [fitsB, T.cnt_eq, T.deep_eq, Bool.and_eq_false_iff, decide_eq_false_iff_not] at hf ⊢
  omega
theorem fits_all {c d : Nat} {kd n : Int} {s : ByteArray} {ts : List T} (h1 : c + 1 + sumTo T.cnt ts ts.length ≤ 2000) (hd : d ≤ 100) (h2 : ∀ (j : Nat) (h : j < ts.length), d + ts[j].deep ≤ 100) : fitsB c d (.mk kd n s ts) = true := by
  rw [sumTo_all] at h1
  have h3 : maxl (ts.map T.deep) ≤ 100 - d := maxl_le.2 (fun x hx => by
    obtain ⟨y, hy, rfl⟩ := List.mem_map.1 hx
    obtain ⟨j, hj, rfl⟩ := List.getElem_of_mem hy
    have := h2 j hj
    omega)
  simp only [fitsB, T.cnt_eq, T.deep_eq, Bool.and_eq_true, decide_eq_true_eq]
  omega
set_option maxRecDepth 100000 in
set_option maxHeartbeats 4000000 in
theorem walk (t : T) : Walks t := by
  induction t using T.ind with
  | h k n s ts ih =>
  intro cs g c d w h hw hg hc hd
  obtain ⟨A1, c1, rfl, h1⟩ := Rec.term_iff.1 h
  change Rec.term.sl.rd False w (OldBut w g) ts [.slice A1 ts.length c1] at h1
  have WT := wt_sl _ _ _ _ _ hw
  have HIH := Aside.mk ih
  have HW := Aside.mk (wt_kid WT)
  have L1 := wt_len WT
  obtain ⟨_, _, he, hcap, h1⟩ := h1
  injection he with he _
  injection he with e1 e2 e3
  subst e1 e3
  have HA := Aside.mk h1
  have HG := Aside.mk hg
  have hgs := hg.lt
  have v0 := hg.cell 0
  have v1 := hg.free 0
  simp only [List.getElem?_cons_zero] at v0
  obtain ⟨m, hln⟩ : ∃ m, m = ts.length := ⟨_, rfl⟩
  have hln2 : ts.length = m := hln.symm
  have HN := Aside.mk hln
  show Calls Try.prog 221 #[.pointer (some ⟨g, 0, none⟩), .agg #[.int .i64 k, .int .i64 n, .string s, .slice A1 ts.length c1], .int .i64 d] w _
  rw [hln2] at L1 hcap ⊢
  clear ih h1 h hw hln hln2 WT hg
  by_cases hbad : 2000 ≤ c ∨ 101 ≤ d
  · have E := Aside.mk (fits_no (t := .mk k n s ts) hbad)
    have G1 : Aside (w.grownBy ((w.setCell ⟨g, 0, none⟩ (.int .i64 ((c : Int) + 1))).alloc (.cells #[.int .i64 k, .int .i64 n, .string s, .slice A1 m c1] 26)) (some g)) := ⟨grown_alloc (grown_set (grown_refl _ _) _ _) _⟩
    clear HA HIH HW
    by_cases hc2 : 2000 ≤ c
    · clear hbad
      go_enter Try.func221, Try.ntmps221
      go_wp2
      exact ⟨rfl, G1.out, .inr ⟨E.out, rfl⟩⟩
    · have hd2 : 101 ≤ d := by omega
      clear hbad
      go_enter Try.func221, Try.ntmps221
      go_wp2
      exact ⟨rfl, G1.out, .inr ⟨E.out, rfl⟩⟩
  have hc3 : c < 2000 := by omega
  have hd3 : d ≤ 100 := by omega
  clear hbad
  have K0 : Aside (Blk ((w.setCell ⟨g, 0, none⟩ (.int .i64 ((c : Int) + 1))).alloc (.cells #[.int .i64 k, .int .i64 n, .string s, .slice A1 m c1] 26)) g 269 [.int .i64 ((c + 1 + sumTo T.cnt ts 0 : Nat) : Int)]) := ⟨(HG.out.set 0 _).alloc _⟩
  have G0 : Aside (w.grownBy ((w.setCell ⟨g, 0, none⟩ (.int .i64 ((c : Int) + 1))).alloc (.cells #[.int .i64 k, .int .i64 n, .string s, .slice A1 m c1] 26)) (some g)) := ⟨grown_alloc (grown_set (grown_refl _ _) _ _) _⟩
  have HS0 : Aside (0 = sumTo T.cnt ts 0) := ⟨rfl⟩
  go_enter Try.func221, Try.ntmps221
  go_wp2_with fail
  go_loopw [29] (fun i wr => ∃ j : Nat, j ≤ m ∧ i = .int .i64 j ∧ (∃ q : Nat, Aside (q = sumTo T.cnt ts j) ∧ c + 1 + q ≤ 2000 ∧ Aside (Blk wr g 269 [.int .i64 ((c + 1 + q : Nat) : Int)])) ∧ Aside (w.grownBy wr (some g)) ∧ Aside (∀ (t : Nat) (h : t < ts.length), t < j → d + ts[t].deep ≤ 100)) (fun i _ => m - (intOf i).toNat)
  case atStart => exact ⟨0, Nat.zero_le _, rfl, ⟨0, HS0, by omega, K0⟩, G0, ⟨fun t _ h => absurd h (Nat.not_lt_zero _)⟩⟩
  case round =>
    obtain ⟨j, hj, rfl, ⟨q, hq, hq2, hk0⟩, hg0, hall⟩ := hrel
    clear K0 G0 HS0 v0 v1
    by_cases hlt : j < m
    · have hlt1 : j < ts.length := by rw [← HN.out]; exact hlt
      rcases HA.out with h0 | ⟨b1, o1, rfl, hb1, f1, hf1, -, hrow1⟩
      · exfalso; rw [h0] at hlt1; exact absurd hlt1 (Nat.not_lt_zero _)
      obtain ⟨cs1, hr1, hc1⟩ := hrow1 j hlt1
      obtain ⟨x0, x1, x2, x3a, x3b, x3c, rfl⟩ := shapeTerm hr1
      have hcell : ∀ o, wr.cell? ⟨b1, o, none⟩ = w.cell? ⟨b1, o, none⟩ := fun o => World.cell?_of_block (w := w) (hg0.out.block b1 hb1.1 (by intro e; injection e with e; exact hb1.2 e))
      have d10 : wr.cell? ⟨b1, o1 + j * 4, none⟩ = some (.int .i64 x0) := (hcell _).trans (hc1 0 (by decide))
      have d11 : wr.cell? ⟨b1, o1 + j * 4 + 1, none⟩ = some (.int .i64 x1) := (hcell _).trans (hc1 1 (by decide))
      have d12 : wr.cell? ⟨b1, o1 + j * 4 + 2, none⟩ = some (.string x2) := (hcell _).trans (hc1 2 (by decide))
      have d13 : wr.cell? ⟨b1, o1 + j * 4 + 3, none⟩ = some (.slice x3a x3b x3c) := (hcell _).trans (hc1 3 (by decide))
      have HR1 := Aside.mk (rd_grown Rec.term (Rec.term.mono hr1 (fun c hc => (hf1 j c hc).1)) (grown_alloc hg0.out (.cells #[.int .i64 x0, .int .i64 x1, .string x2, .slice x3a x3b x3c] 26)))
      have HK1 := Aside.mk (hk0.out.alloc (.cells #[.int .i64 x0, .int .i64 x1, .string x2, .slice x3a x3b x3c] 26))
      have HG1 := Aside.mk (grown_alloc hg0.out (.cells #[.int .i64 x0, .int .i64 x1, .string x2, .slice x3a x3b x3c] 26))
      have W1 := HW.out j hlt1
      have HST := Aside.mk (sumTo_succ T.cnt ts j hlt1)
      clear hc1 hrow1 hf1 hr1 hcell
      go_wp2_with fail
      have hcall := HIH.out ts[j] (List.getElem_mem hlt1) [.int .i64 x0, .int .i64 x1, .string x2, .slice x3a x3b x3c] g (c + 1 + q) (d + 1) _ HR1.out W1 HK1.out hq2 (by omega)
      rw [show ((d + 1 : Nat) : Int) = (d : Int) + 1 by omega] at hcall
      refine hcall.mono ?_
      clear hcall
      rintro e w2 ⟨hg2, h⟩
      have HG2 := Aside.mk (grown_trans HG1.out hg2)
      clear hg2 d10 d11 d12 d13 HR1 HK1 HG1 hk0 hg0
      rcases h with ⟨hfit, rfl, hk2⟩ | ⟨hfit, rfl⟩
      · have hf : c + 1 + q + ts[j].cnt ≤ 2000 ∧ d + 1 + ts[j].deep ≤ 101 := by simpa [fitsB] using hfit
        obtain ⟨hf1, hf2⟩ := hf
        have HK2 : Aside (Blk w2 g 269 [.int .i64 ((c + 1 + (q + ts[j].cnt) : Nat) : Int)]) := ⟨by rw [← Nat.add_assoc]; exact hk2⟩
        have hq3 : Aside (q + ts[j].cnt = sumTo T.cnt ts (j + 1)) := ⟨by rw [HST.out, hq.out]⟩
        have hall2 : Aside (∀ (t : Nat) (h : t < ts.length), t < j + 1 → d + ts[t].deep ≤ 100) := ⟨fun t ht htj => by
          by_cases e : t = j
          · subst e; omega
          · exact hall.out t ht (by omega)⟩
        have hq4 : c + 1 + (q + ts[j].cnt) ≤ 2000 := by omega
        clear hall hfit hk2 HST hq hf1 hf2 W1
        generalize q + ts[j].cnt = q2 at HK2 hq3 hq4
        go_wp2_with fail
        go_roundw
        case rel => exact ⟨j + 1, by omega, by go_num, ⟨q2, hq3, hq4, HK2⟩, HG2, hall2⟩
        case measure => first | (simp [intOf]; done) | (simp [intOf]; omega)
      · have E : Aside (fitsB c d (.mk k n s ts) = false) := ⟨fits_kid hlt1 (by rw [← hq.out]; exact hfit)⟩
        clear hall HST hq W1 hfit
        go_wp2
        exact ⟨rfl, HG2.out, .inr ⟨E.out, rfl⟩⟩
    · obtain rfl : j = m := by omega
      have E : Aside (fitsB c d (.mk k n s ts) = true) := ⟨fits_all (by rw [← HN.out, ← hq.out]; omega) hd3 (fun t ht => hall.out t ht (by have := HN.out; omega))⟩
      have HK2 : Aside (Blk wr g 269 [.int .i64 ((c + (T.mk k n s ts).cnt : Nat) : Int)]) := ⟨by
        have e : c + (T.mk k n s ts).cnt = c + 1 + q := by rw [T.cnt_eq, hq.out, HN.out, sumTo_all]; omega
        rw [e]; exact hk0.out⟩
      clear hall hq hk0
      go_wp2_with fail
      go_end0
      exact ⟨hg0.out, .inl ⟨E.out, rfl, HK2.out⟩⟩
end Go.Proofs.Ytdldgchkinflmaa.Fn
end
section
set_option linter.unusedVariables false
namespace Go.Proofs.Ytdldgchkinflmaa.Fn
open Go.RowKit Go.Proofs.Ytdldgchkinflmaa.Lib Go.Proofs.Ytdldgchkinflmaa.Plan

theorem run_mine (w : World) : (Instr.typeAssert (.iface 266 (.agg #[])) 20 266 true).run Try.prog w = .ok (.tuple #[.agg #[], .bool true]) w := by
  simp [Instr.typeAssert, run_underlying Try.underlying266]
set_option maxRecDepth 100000 in
set_option maxHeartbeats 4000000 in
theorem catch_panicking (g : Nat) (x : Bool) (w : World) (hb : Blk w g 4 [.bool x]) :
    CallsD Try.prog 220 #[.pointer (some ⟨g, 0, none⟩)] (.panicking tooMany) w fun e u' w' =>
      e = .returned (.tuple #[]) ∧ u' = .panicking [{ v := .iface 266 (.agg #[]), recovered := true }] ∧ w.grownBy w' (some g) ∧ Blk w' g 4 [.bool false] := by
  refine callsD_of_wpS Try.func220 rfl fun c₀ cs hu => ?_
  unfold tooMany at hu
  have hm := run_mine
  have k1 := hb.alloc (.cells #[] 266)
  have hc := k1.cell 0
  have hz := k1.free 0
  have k2 : Aside (w.grownBy ((w.alloc (.cells #[] 266)).setCell ⟨g, 0, none⟩ (.bool false)) (some g) ∧ Blk ((w.alloc (.cells #[] 266)).setCell ⟨g, 0, none⟩ (.bool false)) g 4 [.bool false]) := ⟨⟨grown_set (grown_alloc (grown_refl _ _) _) _ _, k1.set 0 _⟩⟩
  have k3 : Aside (w.grownBy ((w.setCell ⟨g, 0, none⟩ (.bool false)).alloc (.cells #[] 266)) (some g) ∧ Blk ((w.setCell ⟨g, 0, none⟩ (.bool false)).alloc (.cells #[] 266)) g 4 [.bool false]) := ⟨⟨grown_alloc (grown_set (grown_refl _ _) _ _) _, (hb.set 0 _).alloc _⟩⟩
  have c1 := hb.cell 0
  have z1 := hb.free 0
  simp only [List.getElem?_cons_zero] at hc c1
  clear k1 hb
  apply wpS_seq
  apply wpS_region
  simp [wpOpsS, go_sem, recoverD, hu, Try.ntmps220, Exit.thenS]
  refine wpS_of_wp ?_
  go_wp2
  simp [bodyPostS, results, Try.results220]
  first | exact k2.out | exact k3.out
set_option maxRecDepth 100000 in
set_option maxHeartbeats 4000000 in
theorem catch_idle (g : Nat) (w : World) :
    CallsD Try.prog 220 #[.pointer (some ⟨g, 0, none⟩)] .returning w fun e u' w' => e = .returned (.tuple #[]) ∧ u' = .returning ∧ w' = w := by
  refine callsD_of_wpS Try.func220 rfl fun c₀ cs hu => ?_
  apply wpS_seq
  apply wpS_region
  simp [wpOpsS, go_sem, recoverD, hu, Try.ntmps220, Exit.thenS]
  refine wpS_of_wp ?_
  go_wp2
  cases c₀
  simp_all [bodyPostS, results, Try.results220]
end Go.Proofs.Ytdldgchkinflmaa.Fn
end
section
set_option linter.unusedVariables false
namespace Go.Proofs.Ytdldgchkinflmaa.Fn
open Go.RowKit Go.Proofs.Ytdldgchkinflmaa.Lib Go.Proofs.Ytdldgchkinflmaa.Plan

theorem fitsB_fits (t : T) : fitsB 0 1 t = t.fits := by
  unfold fitsB T.fits
  congr 1
  · rw [Nat.zero_add]
  · congr 1
    simp
    omega
set_option maxRecDepth 100000 in
set_option maxHeartbeats 4000000 in
theorem small (t : T) (cs : List Value) (w : World) (h : Rec.term.rd False w (Old w) t cs) (hw : Rec.term.wt t ≤ 1048576) :
    Calls Try.prog 155 #[.agg cs.toArray] w fun e w' => e = .returned (.bool t.fits) ∧ Below w.heap.size w w' := by
  have hmf : ∀ (fn : Fn) (first cap : Array Value) (w : World), (Instr.makeFunc fn first cap).run Try.prog w = .ok (.func fn first cap) w := fun _ _ _ _ => rfl
  obtain ⟨x0, x1, x2, x3a, x3b, x3c, rfl⟩ := shapeTerm h
  have H := Aside.mk h
  clear h
  obtain ⟨res, hres⟩ : ∃ r, r = t.fits := ⟨_, rfl⟩
  rw [← hres]
  have HV := Aside.mk hres
  clear hres
  show Calls Try.prog 155 #[.agg #[.int .i64 x0, .int .i64 x1, .string x2, .slice x3a x3b x3c]] w _
  go_enter_defers Try.func155, Try.ntmps155
  go_wp2_with fail
  have hwalk := walk t [.int .i64 x0, .int .i64 x1, .string x2, .slice x3a x3b x3c] (w.heap.size + 1 + 1) 0 1 (((w.alloc (.cells #[.int .i64 x0, .int .i64 x1, .string x2, .slice x3a x3b x3c] 26)).alloc (.cells #[.bool false] 4)).alloc (.cells #[.int .i64 0] 269))
    (Rec.term.frame H.out (fun b hb => (show Below w.heap.size w _ by go_grown).block b hb) (fun b hb => ⟨by have : b < w.heap.size := hb; simp; omega, by have : b < w.heap.size := hb; omega⟩)) hw (Blk.made _ 269 [.int .i64 0] (by simp)) (by decide) (by decide)
  refine hwalk.mono ?_
  clear hwalk
  rintro e w1 ⟨hg, h⟩
  have k1 := ((Blk.made (w.alloc _) 4 [.bool false] (g := w.heap.size + 1) (by simp)).alloc _).grown hg (by simp)
  have bel : Below w.heap.size w w1 := below_grown (by go_grown) hg (by omega)
  have c1 := k1.cell 0
  have z1 := k1.free 0
  simp only [List.getElem?_cons_zero] at c1
  have K1 := Aside.mk k1
  have BEL := Aside.mk bel
  clear k1 bel hg
  rcases h with ⟨hfit, rfl, -⟩ | ⟨hfit, rfl⟩
  · have E : Aside (res = true) := ⟨by rw [HV.out, ← fitsB_fits]; exact hfit⟩
    have K2 := Aside.mk (K1.out.set 0 (.bool true))
    have c2 := K2.out.cell 0
    simp only [List.set_cons_zero, List.getElem?_cons_zero] at c2
    have B2 : Aside (Below w.heap.size w (w1.setCell ⟨w.heap.size + 1, 0, none⟩ (.bool true))) := ⟨BEL.out.setCell (by simp) _⟩
    clear hfit
    go_wp2
    refine leaves_cons (f := 220) (args := #[.pointer (some ⟨w.heap.size + 1, 0, none⟩)]) (by simp) (by simp [go_sem]) ?_
    refine (catch_idle _ _).mono ?_
    rintro e u' w'' ⟨rfl, rfl, rfl⟩
    simp [Leaves, settle, results, Try.results155, go_sem, c2]
    exact ⟨E.out, B2.out⟩
  · have E : Aside (res = false) := ⟨by rw [HV.out, ← fitsB_fits]; exact hfit⟩
    clear hfit
    go_wp2
    refine leaves_cons (f := 220) (args := #[.pointer (some ⟨w.heap.size + 1, 0, none⟩)]) (by simp) (by simp [go_sem]) ?_
    refine (catch_panicking (w.heap.size + 1) false _ K1.out).mono ?_
    rintro e u' w'' ⟨rfl, rfl, hg2, k3⟩
    have c2 := k3.cell 0
    simp only [List.getElem?_cons_zero] at c2
    have B2 := Aside.mk (below_grown BEL.out hg2 (by omega))
    clear hg2 k3
    simp [Leaves, settle, results, Try.results155, go_sem, c2]
    exact ⟨E.out, B2.out⟩
end Go.Proofs.Ytdldgchkinflmaa.Fn
end
section
set_option linter.unusedVariables false
namespace Go.Proofs.Ytdldgchkinflmaa.Fn
open Go.RowKit Go.Proofs.Ytdldgchkinflmaa.Lib Go.Proofs.Ytdldgchkinflmaa.Plan

def fitR (room deep : Nat) (t : T) : Bool := decide (t.cnt ≤ room) && decide (t.deep ≤ deep)
def measN (room deep : Nat) (t : T) : Int := if fitR room deep t then (t.cnt : Int) else 2001
def measD (room deep : Nat) (t : T) : Int := if fitR room deep t then (t.deep : Int) else 101
def maxTo (ts : List T) (k : Nat) : Nat := maxl ((ts.take k).map T.deep)
theorem maxTo_succ (ts : List T) (k : Nat) (h : k < ts.length) : maxTo ts (k + 1) = max (maxTo ts k) ts[k].deep := by
  unfold maxTo
  rw [List.take_succ_eq_append_getElem h, List.map_append]
  exact maxl_snoc _ _
theorem maxTo_all (ts : List T) : maxTo ts ts.length = maxl (ts.map T.deep) := by rw [maxTo, List.take_length]
theorem fitR_zero {room deep : Nat} {t : T} (h : room = 0 ∨ deep = 0) : fitR room deep t = false := by
  have h1 := t.cnt_pos
  have h2 := t.deep_pos
  simp [fitR]
  omega
theorem fitR_kid {room deep k : Nat} {kd n : Int} {s : ByteArray} {ts : List T} (h : k < ts.length) (hd : 0 < deep) (hf : fitR (room - (1 + sumTo T.cnt ts k)) (deep - 1) ts[k] = false) : fitR room deep (.mk kd n s ts) = false := by
  have h1 := sumTo_succ T.cnt ts k h
  have h2 := sumTo_le T.cnt ts (k + 1)
  have h3 : ts[k].deep ≤ maxl (ts.map T.deep) := maxl_le.1 (Nat.le_refl _) _ (List.mem_map.2 ⟨ts[k], List.getElem_mem h, rfl⟩)
  have h4 := ts[k].cnt_pos
  simp only [fitR, T.cnt_eq, T.deep_eq, Bool.and_eq_false_iff, decide_eq_false_iff_not] at hf ⊢
  omega
def Measures (t : T) : Prop := ∀ (cs : List Value) (room deep : Nat) (w : World), Rec.term.rd False w (Old w) t cs → Rec.term.wt t ≤ 1048576 → room ≤ 2000 → deep ≤ 100 →
  Calls Try.prog 154 #[.agg cs.toArray, .int .i64 room, .int .i64 deep] w fun e w' => e = .returned (.tuple #[.int .i64 (measN room deep t), .int .i64 (measD room deep t)]) ∧ Below w.heap.size w w'
theorem ret_two {a b c d : Int} (h : a = c) (h2 : b = d) : Ending.returned (.tuple #[.int .i64 a, .int .i64 b]) = .returned (.tuple #[.int .i64 c, .int .i64 d]) := by rw [h, h2]
set_option maxRecDepth 100000 in
set_option maxHeartbeats 4000000 in
theorem l01Measure (t : T) : Measures t := by
  induction t using T.ind with
  | h k n s ts ih =>
  intro cs room deep w h hw hroom hdeep
  obtain ⟨A1, c1, rfl, h1⟩ := Rec.term_iff.1 h
  change Rec.term.sl.rd False w (Old w) ts [.slice A1 ts.length c1] at h1
  have WT := wt_sl _ _ _ _ _ hw
  have HIH := Aside.mk ih
  have HW := Aside.mk (wt_kid WT)
  have L1 := wt_len WT
  obtain ⟨_, _, he, hcap, h1⟩ := h1
  injection he with he _
  injection he with e1 e2 e3
  subst e1 e3
  have HA := Aside.mk h1
  obtain ⟨rn, hrn⟩ : ∃ r, r = measN room deep (.mk k n s ts) := ⟨_, rfl⟩
  obtain ⟨rd, hrd⟩ : ∃ r, r = measD room deep (.mk k n s ts) := ⟨_, rfl⟩
  have HBAD : Aside (fitR room deep (.mk k n s ts) = false → rn = 2001 ∧ rd = 101) := ⟨fun h => by rw [hrn, hrd, measN, measD, h]; exact ⟨rfl, rfl⟩⟩
  have HGOOD : Aside (fitR room deep (.mk k n s ts) = true → rn = ((T.mk k n s ts).cnt : Int) ∧ rd = ((T.mk k n s ts).deep : Int)) := ⟨fun h => by rw [hrn, hrd, measN, measD, h]; exact ⟨rfl, rfl⟩⟩
  rw [← hrn, ← hrd]
  obtain ⟨m, hln⟩ : ∃ m, m = ts.length := ⟨_, rfl⟩
  have hln2 : ts.length = m := hln.symm
  have HN := Aside.mk hln
  show Calls Try.prog 154 #[.agg #[.int .i64 k, .int .i64 n, .string s, .slice A1 ts.length c1], .int .i64 room, .int .i64 deep] w _
  rw [hln2] at L1 hcap ⊢
  clear ih h1 h hw hln hln2 WT hrn hrd
  by_cases hz : room = 0 ∨ deep = 0
  · have E := Aside.mk (HBAD.out (fitR_zero hz))
    clear HA HIH HW HGOOD HBAD
    by_cases hz1 : room = 0
    · have q1 : (room : Int) ≤ 0 := by omega
      clear hz hz1
      go_enter Try.func154, Try.ntmps154
      go_wp2
      go_ret2
      exact ⟨ret_two E.out.1.symm E.out.2.symm, by go_grown⟩
    · have q1 : 0 < (room : Int) := by omega
      have q2 : (deep : Int) ≤ 0 := by omega
      clear hz hz1
      go_enter Try.func154, Try.ntmps154
      go_wp2
      go_ret2
      exact ⟨ret_two E.out.1.symm E.out.2.symm, by go_grown⟩
  have q1 : 0 < (room : Int) := by omega
  have q2 : 0 < (deep : Int) := by omega
  clear hz
  have K0 := Aside.mk (Blk.new w 26 [.int .i64 k, .int .i64 n, .string s, .slice A1 m c1])
  have B0 : Aside (Below w.heap.size w (w.alloc (.cells #[.int .i64 k, .int .i64 n, .string s, .slice A1 m c1] 26))) := ⟨by go_grown⟩
  have HS0 : Aside (0 = sumTo T.cnt ts 0) := ⟨rfl⟩
  have HM0 : Aside (0 = maxTo ts 0) := ⟨rfl⟩
  go_enter Try.func154, Try.ntmps154
  go_wp2_with fail
  go_loopw [8, 9, 10] (fun a b i wr => ∃ j : Nat, j ≤ m ∧ i = .int .i64 j ∧ (∃ q mx : Nat, a = .int .i64 ((1 : Int) + q) ∧ b = .int .i64 mx ∧ Aside (q = sumTo T.cnt ts j) ∧ Aside (mx = maxTo ts j) ∧ 1 + q ≤ room ∧ mx + 1 ≤ deep) ∧ Aside (Blk wr w.heap.size 26 [.int .i64 k, .int .i64 n, .string s, .slice A1 m c1]) ∧ Aside (Below w.heap.size w wr)) (fun _ _ i _ => m - (intOf i).toNat)
  case atStart => exact ⟨0, Nat.zero_le _, rfl, ⟨0, 0, rfl, rfl, HS0, HM0, by omega, by omega⟩, K0, B0⟩
  case round =>
    obtain ⟨j, hj, rfl, ⟨q, mx, rfl, rfl, hq, hmx, hq2, hmx2⟩, hk0, hb0⟩ := hrel
    clear K0 B0 HS0 HM0
    have y3 := hk0.out.cell 3
    simp only [List.getElem?_cons_zero, List.getElem?_cons_succ] at y3
    by_cases hlt : j < m
    · have hlt1 : j < ts.length := by rw [← HN.out]; exact hlt
      rcases HA.out with h0 | ⟨b1, o1, rfl, hb1, f1, hf1, -, hrow1⟩
      · exfalso; rw [h0] at hlt1; exact absurd hlt1 (Nat.not_lt_zero _)
      obtain ⟨cs1, hr1, hc1⟩ := hrow1 j hlt1
      obtain ⟨x0, x1, x2, x3a, x3b, x3c, rfl⟩ := shapeTerm hr1
      have hbel2 := hb0.out
      have d10 : wr.cell? ⟨b1, o1 + j * 4, none⟩ = some (.int .i64 x0) := (hbel2.cell (p := ⟨b1, o1 + j * 4 + 0, none⟩) hb1).trans (hc1 0 (by decide))
      have d11 : wr.cell? ⟨b1, o1 + j * 4 + 1, none⟩ = some (.int .i64 x1) := (hbel2.cell (p := ⟨b1, o1 + j * 4 + 1, none⟩) hb1).trans (hc1 1 (by decide))
      have d12 : wr.cell? ⟨b1, o1 + j * 4 + 2, none⟩ = some (.string x2) := (hbel2.cell (p := ⟨b1, o1 + j * 4 + 2, none⟩) hb1).trans (hc1 2 (by decide))
      have d13 : wr.cell? ⟨b1, o1 + j * 4 + 3, none⟩ = some (.slice x3a x3b x3c) := (hbel2.cell (p := ⟨b1, o1 + j * 4 + 3, none⟩) hb1).trans (hc1 3 (by decide))
      have HR1 := Aside.mk (Rec.term.up (w1 := wr) (Rec.term.mono hr1 (fun c hc => (hf1 j c hc).1)) (fun _ h => h) hbel2)
      have W1 := HW.out j hlt1
      have HST := Aside.mk (sumTo_succ T.cnt ts j hlt1)
      have HSM := Aside.mk (maxTo_succ ts j hlt1)
      clear hc1 hrow1 hf1 hr1 hbel2
      go_wp2_with fail
      have hcall := HIH.out ts[j] (List.getElem_mem hlt1) [.int .i64 x0, .int .i64 x1, .string x2, .slice x3a x3b x3c] (room - (1 + q)) (deep - 1) wr HR1.out W1 (by omega) (by omega)
      rw [show ((room - (1 + q) : Nat) : Int) = (room : Int) - (1 + q) by omega, show ((deep - 1 : Nat) : Int) = (deep : Int) - 1 by omega] at hcall
      refine hcall.mono ?_
      clear hcall
      rintro e w2 ⟨rfl, hb2⟩
      have hk2 := Aside.mk (hk0.out.below hb2)
      have hb3 := Aside.mk (below_later hb0.out hb2)
      clear hb2 d10 d11 d12 d13 HR1 hk0 hb0 y3
      cases hfit : fitR (room - (1 + q)) (deep - 1) ts[j]
      · obtain ⟨e1, e2⟩ := HBAD.out (fitR_kid hlt1 (by omega) (by rw [← hq.out]; exact hfit))
        have E := Aside.mk (And.intro e1.symm e2.symm)
        have f1 : measN (room - (1 + q)) (deep - 1) ts[j] = 2001 := by rw [measN, hfit]; rfl
        have f2 : measD (room - (1 + q)) (deep - 1) ts[j] = 101 := by rw [measD, hfit]; rfl
        rw [f1, f2]
        clear e1 e2 f1 f2 hfit HST HSM hq hmx W1
        go_wp2
        go_ret2
        exact ⟨ret_two E.out.1 E.out.2, hb3.out⟩
      · have f1 : measN (room - (1 + q)) (deep - 1) ts[j] = (ts[j].cnt : Int) := by rw [measN, hfit]; rfl
        have f2 : measD (room - (1 + q)) (deep - 1) ts[j] = (ts[j].deep : Int) := by rw [measD, hfit]; rfl
        have hf : ts[j].cnt ≤ room - (1 + q) ∧ ts[j].deep ≤ deep - 1 := by simpa [fitR] using hfit
        obtain ⟨g1, g2⟩ := hf
        rw [f1, f2]
        have hq3 : Aside (q + ts[j].cnt = sumTo T.cnt ts (j + 1)) := ⟨by rw [HST.out, hq.out]⟩
        have hm3 : Aside (max mx ts[j].deep = maxTo ts (j + 1)) := ⟨by rw [HSM.out, hmx.out]⟩
        generalize ts[j].cnt = u1 at g1 hq3 ⊢
        generalize ts[j].deep = u2 at g2 hm3 ⊢
        clear f1 f2 hfit HST HSM hq hmx W1
        by_cases hmm : mx < u2
        · have hm4 : Aside (u2 = maxTo ts (j + 1)) := ⟨by rw [← hm3.out]; omega⟩
          clear hm3
          go_wp2_with fail
          go_roundw
          case rel => exact ⟨j + 1, by omega, by go_num, ⟨q + u1, u2, by first | rfl | (refine congrArg _ ?_; omega), rfl, hq3, hm4, by omega, by omega⟩, hk2, hb3⟩
          case measure => first | (simp [intOf]; done) | (simp [intOf]; omega)
        · have hm4 : Aside (mx = maxTo ts (j + 1)) := ⟨by rw [← hm3.out]; omega⟩
          clear hm3
          go_wp2_with fail
          go_roundw
          case rel => exact ⟨j + 1, by omega, by go_num, ⟨q + u1, mx, by first | rfl | (refine congrArg _ ?_; omega), rfl, hq3, hm4, by omega, by omega⟩, hk2, hb3⟩
          case measure => first | (simp [intOf]; done) | (simp [intOf]; omega)
    · obtain rfl : j = m := by omega
      have ec : (T.mk k n s ts).cnt = 1 + q := by rw [T.cnt_eq, hq.out, HN.out, sumTo_all]
      have ed : (T.mk k n s ts).deep = 1 + mx := by rw [T.deep_eq, hmx.out, HN.out, maxTo_all]
      obtain ⟨e1, e2⟩ := HGOOD.out (by simp only [fitR, ec, ed, Bool.and_eq_true, decide_eq_true_eq]; omega)
      rw [ec] at e1
      rw [ed] at e2
      have E := Aside.mk (And.intro e1 e2)
      clear e1 e2 ec ed hq hmx
      go_wp2_with fail
      go_ret2
      exact ⟨ret_two (by rw [E.out.1]; omega) (by rw [E.out.2]; omega), hb0.out⟩
end Go.Proofs.Ytdldgchkinflmaa.Fn
end
section
set_option linter.unusedVariables false
namespace Go.Proofs.Ytdldgchkinflmaa.Fn
open Go.RowKit Go.Proofs.Ytdldgchkinflmaa.Lib Go.Proofs.Ytdldgchkinflmaa.Plan

/-- What TermCompare answers. -/
def cmpV (a b : T) : Int := if a.okB && b.okB then T.cmp a b else 0
def cmpE (a b : T) : Int := if a.okB && b.okB then 0 else 1
theorem fitR_fits (t : T) : fitR 2000 100 t = t.fits := rfl
theorem l01Fits (t : T) (cs : List Value) (w : World) (h : Rec.term.rd False w (Old w) t cs) (hw : Rec.term.wt t ≤ 1048576) :
    Calls Try.prog 71 #[.agg cs.toArray] w fun e w' => e = .returned (.bool t.fits) ∧ Below w.heap.size w w' := by
  obtain ⟨x0, x1, x2, x3a, x3b, x3c, rfl⟩ := shapeTerm h
  have H := Aside.mk h
  clear h
  show Calls Try.prog 71 #[.agg #[.int .i64 x0, .int .i64 x1, .string x2, .slice x3a x3b x3c]] w _
  cases hf : t.fits
  · have e1 : measN 2000 100 t = 2001 := by rw [measN, fitR_fits, hf]; rfl
    have e2 : measD 2000 100 t = 101 := by rw [measD, fitR_fits, hf]; rfl
    go_enter Try.func71, Try.ntmps71
    go_wp2_with fail
    refine (l01Measure t [.int .i64 x0, .int .i64 x1, .string x2, .slice x3a x3b x3c] 2000 100 _ (Rec.term.old H.out (by go_grown)) hw (by decide) (by decide)).mono ?_
    rintro e w1 ⟨rfl, hb1⟩
    rw [e1, e2]
    have B1 : Aside (Below w.heap.size w w1) := ⟨below_later (by go_grown) hb1⟩
    clear hb1 e1 e2 hf
    go_wp2
    go_ret
    exact ⟨rfl, B1.out⟩
  · have e1 : measN 2000 100 t = (t.cnt : Int) := by rw [measN, fitR_fits, hf]; rfl
    have e2 : measD 2000 100 t = (t.deep : Int) := by rw [measD, fitR_fits, hf]; rfl
    have e3 : t.cnt ≤ 2000 ∧ t.deep ≤ 100 := by simpa [T.fits] using hf
    obtain ⟨e3, e4⟩ := e3
    generalize hc : t.cnt = c at e1 e3
    generalize hd : t.deep = d at e2 e4
    go_enter Try.func71, Try.ntmps71
    go_wp2_with fail
    refine (l01Measure t [.int .i64 x0, .int .i64 x1, .string x2, .slice x3a x3b x3c] 2000 100 _ (Rec.term.old H.out (by go_grown)) hw (by decide) (by decide)).mono ?_
    rintro e w1 ⟨rfl, hb1⟩
    rw [e1, e2]
    have B1 : Aside (Below w.heap.size w w1) := ⟨below_later (by go_grown) hb1⟩
    clear hb1 e1 e2 hf hc hd
    go_wp2
    go_ret
    exact ⟨ret_bool (decide_eq_true (by omega)), B1.out⟩
theorem okB_right {t : T} (h : t.okB = true) : t.right = true := by
  rw [T.okB, Bool.and_eq_true] at h
  exact h.2
theorem okB_fits {t : T} (h : t.okB = true) : t.fits = true := by
  rw [T.okB, Bool.and_eq_true] at h
  exact h.1
theorem sTermOK (t : T) (cs : List Value) (w : World) (h : Rec.term.rd False w (Old w) t cs) (hw : Rec.term.wt t ≤ 1048576) :
    Calls Try.prog 17 #[.agg cs.toArray] w fun e w' => e = .returned (.bool t.okB) ∧ Below w.heap.size w w' := by
  obtain ⟨x0, x1, x2, x3a, x3b, x3c, rfl⟩ := shapeTerm h
  have H := Aside.mk h
  clear h
  obtain ⟨res, hres⟩ : ∃ r, r = t.okB := ⟨_, rfl⟩
  rw [← hres]
  have HV : Aside (res = (t.fits && t.right)) := ⟨hres⟩
  clear hres
  show Calls Try.prog 17 #[.agg #[.int .i64 x0, .int .i64 x1, .string x2, .slice x3a x3b x3c]] w _
  go_enter Try.func17, Try.ntmps17
  go_wp2_with fail
  refine (l01Fits t [.int .i64 x0, .int .i64 x1, .string x2, .slice x3a x3b x3c] _ (Rec.term.old H.out (by go_grown)) hw).mono ?_
  rintro e w1 ⟨rfl, hb1⟩
  have k0 := (Blk.new w 26 [.int .i64 x0, .int .i64 x1, .string x2, .slice x3a x3b x3c]).below hb1
  have y0 := k0.cell 0
  have y1 := k0.cell 1
  have y2 := k0.cell 2
  have y3 := k0.cell 3
  simp only [List.getElem?_cons_zero, List.getElem?_cons_succ] at y0 y1 y2 y3
  have B1 : Aside (Below w.heap.size w w1) := ⟨below_later (by go_grown) hb1⟩
  clear hb1 k0
  cases hf : t.fits
  · have E : Aside (res = false) := ⟨by rw [HV.out, hf]; rfl⟩
    go_wp2
    go_ret
    exact ⟨ret_bool E.out.symm, B1.out⟩
  · have E : Aside (res = t.right) := ⟨by rw [HV.out, hf]; rfl⟩
    clear hf HV
    go_wp2_with fail
    refine (l01Right t [.int .i64 x0, .int .i64 x1, .string x2, .slice x3a x3b x3c] _ (Rec.term.old H.out B1.out) hw).mono ?_
    rintro e w2 ⟨rfl, hb2⟩
    have B2 := Aside.mk (below_later B1.out hb2)
    clear hb2 y0 y1 y2 y3
    generalize t.right = r at E ⊢
    go_wp2
    go_ret
    exact ⟨ret_bool E.out.symm, B2.out⟩
theorem iTermOK (t : T) (cs : List Value) (w : World) (h : Rec.term.rd False w (Old w) t cs) (hw : Rec.term.wt t ≤ 1048576) :
    Calls Try.prog 73 #[.agg cs.toArray] w fun e w' => e = .returned (.bool t.okB) ∧ Below w.heap.size w w' := by
  obtain ⟨x0, x1, x2, x3a, x3b, x3c, rfl⟩ := shapeTerm h
  have H := Aside.mk h
  clear h
  obtain ⟨res, hres⟩ : ∃ r, r = t.okB := ⟨_, rfl⟩
  rw [← hres]
  have HV : Aside (res = (t.fits && t.right)) := ⟨hres⟩
  clear hres
  show Calls Try.prog 73 #[.agg #[.int .i64 x0, .int .i64 x1, .string x2, .slice x3a x3b x3c]] w _
  go_enter Try.func73, Try.ntmps73
  go_wp2_with fail
  refine (small t [.int .i64 x0, .int .i64 x1, .string x2, .slice x3a x3b x3c] _ (Rec.term.old H.out (by go_grown)) hw).mono ?_
  rintro e w1 ⟨rfl, hb1⟩
  have k0 := (Blk.new w 26 [.int .i64 x0, .int .i64 x1, .string x2, .slice x3a x3b x3c]).below hb1
  have y0 := k0.cell 0
  have y1 := k0.cell 1
  have y2 := k0.cell 2
  have y3 := k0.cell 3
  simp only [List.getElem?_cons_zero, List.getElem?_cons_succ] at y0 y1 y2 y3
  have B1 : Aside (Below w.heap.size w w1) := ⟨below_later (by go_grown) hb1⟩
  clear hb1 k0
  cases hf : t.fits
  · have E : Aside (res = false) := ⟨by rw [HV.out, hf]; rfl⟩
    go_wp2
    go_ret
    exact ⟨ret_bool E.out.symm, B1.out⟩
  · have E : Aside (res = t.right) := ⟨by rw [HV.out, hf]; rfl⟩
    clear hf HV
    go_wp2_with fail
    refine (allOK t [.int .i64 x0, .int .i64 x1, .string x2, .slice x3a x3b x3c] _ (Rec.term.old H.out B1.out) hw).mono ?_
    rintro e w2 ⟨rfl, hb2⟩
    have B2 := Aside.mk (below_later B1.out hb2)
    clear hb2 y0 y1 y2 y3
    generalize t.right = r at E ⊢
    go_wp2
    go_ret
    exact ⟨ret_bool E.out.symm, B2.out⟩
set_option maxRecDepth 100000 in
set_option maxHeartbeats 4000000 in
theorem iTermCompare (a : T) (ca : List Value) (b : T) (cb : List Value) (w : World) (ha : Rec.term.rd False w (Old w) a ca) (hwa : Rec.term.wt a ≤ 1048576) (hb : Rec.term.rd False w (Old w) b cb) (hwb : Rec.term.wt b ≤ 1048576) :
    Calls Try.prog 18 #[.agg ca.toArray, .agg cb.toArray] w fun e w' => e = .returned (.tuple #[.int .i64 (cmpV a b), .int .i64 (cmpE a b)]) ∧ Below w.heap.size w w' := by
  obtain ⟨x0, x1, x2, x3a, x3b, x3c, rfl⟩ := shapeTerm ha
  obtain ⟨z0, z1, z2, z3a, z3b, z3c, rfl⟩ := shapeTerm hb
  have H1 := Aside.mk ha
  have H2 := Aside.mk hb
  clear ha hb
  obtain ⟨r1, h1⟩ : ∃ r, r = cmpV a b := ⟨_, rfl⟩
  obtain ⟨r2, h2⟩ : ∃ r, r = cmpE a b := ⟨_, rfl⟩
  rw [← h1, ← h2]
  have V1 : Aside (r1 = if a.okB && b.okB then T.cmp a b else 0) := ⟨h1⟩
  have V2 : Aside (r2 = if a.okB && b.okB then 0 else 1) := ⟨h2⟩
  clear h1 h2
  show Calls Try.prog 18 #[.agg #[.int .i64 x0, .int .i64 x1, .string x2, .slice x3a x3b x3c], .agg #[.int .i64 z0, .int .i64 z1, .string z2, .slice z3a z3b z3c]] w _
  go_enter Try.func18, Try.ntmps18
  go_wp2_with fail
  refine (iTermOK a [.int .i64 x0, .int .i64 x1, .string x2, .slice x3a x3b x3c] _ (Rec.term.old H1.out (by go_grown)) hwa).mono ?_
  rintro e w1 ⟨rfl, hb1⟩
  have k0 := ((Blk.new w 26 [.int .i64 x0, .int .i64 x1, .string x2, .slice x3a x3b x3c]).alloc _).below hb1
  have k1 := (Blk.made (w.alloc _) 26 [.int .i64 z0, .int .i64 z1, .string z2, .slice z3a z3b z3c] (g := w.heap.size + 1) (by simp)).below hb1
  have K0 := Aside.mk k0
  have K1 := Aside.mk k1
  have B1 : Aside (Below w.heap.size w w1) := ⟨below_later (by go_grown) hb1⟩
  have u0 := k1.cell 0
  have u1 := k1.cell 1
  have u2 := k1.cell 2
  have u3 := k1.cell 3
  simp only [List.getElem?_cons_zero, List.getElem?_cons_succ] at u0 u1 u2 u3
  clear hb1 k0 k1
  cases ho : a.okB
  · have E : Aside (r1 = 0 ∧ r2 = 1) := ⟨by rw [V1.out, V2.out, ho]; exact ⟨rfl, rfl⟩⟩
    go_wp2
    go_ret2
    exact ⟨ret_two E.out.1.symm E.out.2.symm, B1.out⟩
  have O1 := Aside.mk ho
  clear ho
  go_wp2_with fail
  refine (iTermOK b [.int .i64 z0, .int .i64 z1, .string z2, .slice z3a z3b z3c] _ (Rec.term.old H2.out B1.out) hwb).mono ?_
  rintro e w2 ⟨rfl, hb2⟩
  have k0 := K0.out.below hb2
  have k1 := K1.out.below hb2
  have B2 := Aside.mk (below_later B1.out hb2)
  clear hb2 B1 K0 K1 u0 u1 u2 u3
  have y0 := k0.cell 0
  have y1 := k0.cell 1
  have y2 := k0.cell 2
  have y3 := k0.cell 3
  have u0 := k1.cell 0
  have u1 := k1.cell 1
  have u2 := k1.cell 2
  have u3 := k1.cell 3
  simp only [List.getElem?_cons_zero, List.getElem?_cons_succ] at y0 y1 y2 y3 u0 u1 u2 u3
  clear k0 k1
  cases ho : b.okB
  · have E : Aside (r1 = 0 ∧ r2 = 1) := ⟨by rw [V1.out, V2.out, O1.out, ho]; exact ⟨rfl, rfl⟩⟩
    go_wp2
    go_ret2
    exact ⟨ret_two E.out.1.symm E.out.2.symm, B2.out⟩
  have O2 := Aside.mk ho
  have E : Aside (r1 = T.cmp a b ∧ r2 = 0) := ⟨by rw [V1.out, V2.out, O1.out, ho]; exact ⟨rfl, rfl⟩⟩
  clear ho
  go_wp2_with fail
  refine (compare a b [.int .i64 x0, .int .i64 x1, .string x2, .slice x3a x3b x3c] [.int .i64 z0, .int .i64 z1, .string z2, .slice z3a z3b z3c] _ (Rec.term.old H1.out B2.out) (Rec.term.old H2.out B2.out) hwa hwb (okB_right O1.out) (okB_right O2.out)).mono ?_
  rintro e w3 ⟨rfl, hb3⟩
  have B3 := Aside.mk (below_later B2.out hb3)
  clear hb3 y0 y1 y2 y3 u0 u1 u2 u3
  generalize T.cmp a b = c at E ⊢
  go_wp2
  go_ret2
  exact ⟨ret_two E.out.1.symm E.out.2.symm, B3.out⟩
end Go.Proofs.Ytdldgchkinflmaa.Fn
end
