/- Walk of the program's TabGet. Conditions: those of each theorem. -/
import Derived.Test.YtdldgchkinflmaaTGa
import Derived.Test.YtdldgchkinflmaaTab3
import Derived.Test.YtdldgchkinflmaaCopy
set_option linter.unusedVariables false
namespace Go.Proofs.Ytdldgchkinflmaa.Fn
open Go.RowKit Go.Proofs.Ytdldgchkinflmaa.Lib Go.Proofs.Ytdldgchkinflmaa.Plan
attribute [local go_sem] look_tmp look_const look_func look_global lookT_nil lookT_hit lookT_miss

theorem RowOf.sub {α : Type} {k : Nat} {rd : (Nat → Prop) → α → List Value → Prop} {tr : Prop} {w : World} {S : Nat → Prop} {xs : List α} {b o : Nat} (h : RowOf k rd tr w S xs b o) (i m : Nat) : RowOf k rd tr w S ((xs.drop i).take m) b (o + i * k) := by
  obtain ⟨hb, f, h1, h2, h3⟩ := h
  refine ⟨hb, fun j => f (i + j), fun j c hc => h1 _ c hc, fun t => ⟨(h2 t).1, fun a b hab c ha hb => (h2 t).2 _ _ (by omega) c ha hb⟩, fun j hj => ?_⟩
  have hj1 : j < (xs.drop i).length := Nat.lt_of_lt_of_le hj (by rw [List.length_take]; omega)
  have hj2 : i + j < xs.length := by rw [List.length_drop] at hj1; omega
  obtain ⟨cs, hr, hc⟩ := h3 (i + j) hj2
  refine ⟨cs, ?_, fun t ht => ?_⟩
  · rw [List.getElem_take, List.getElem_drop]
    exact hr
  · rw [← hc t ht, show o + i * k + j * k + t = o + (i + j) * k + t by rw [Nat.add_mul]; omega]
theorem sl_sub {α : Type} {R : Rec α} {w : World} {S : Nat → Prop} {xs : List α} {A : Option Addr} {n c : Nat} (h : R.sl.rd False w S xs [.slice A n c]) (i m : Nat) (hm : i + m ≤ n) : R.sl.rd False w S ((xs.drop i).take m) [.slice (Option.map (fun x => x.add (i * R.k)) A) m (c - i)] := by
  obtain ⟨_, _, he, hc, hs⟩ := h
  injection he with he _
  injection he with e1 e2 e3
  subst e1 e2 e3
  have hl : ((xs.drop i).take m).length = m := by rw [List.length_take, List.length_drop]; omega
  refine ⟨_, c - i, by rw [hl], by rw [hl]; omega, ?_⟩
  rcases hs with h0 | ⟨b, o, rfl, hr⟩
  · subst h0
    exact Or.inl (by simp)
  · refine Or.inr ⟨b, o + i * R.k, ?_, RowOf.sub hr i m⟩
    simp [Addr.add]
/-- A table's rows with a key, and how it went. -/
def getR (ty : Int) (rows : List T) (key : T) : List T × Int := if tabB ty rows && key.okB then (rows.filter (sameK key), 0) else ([], 1)
theorem filter_wt {α : Type} {R : Rec α} (p : α → Bool) (xs : List α) : R.sl.wt (xs.filter p) ≤ R.sl.wt xs := by
  show (xs.filter p).length + ((xs.filter p).map R.wt).sum ≤ xs.length + (xs.map R.wt).sum
  induction xs with
  | nil => exact Nat.le_refl _
  | cons x xs ih =>
    rw [List.filter_cons]
    split <;> simp only [List.length_cons, List.map_cons, List.sum_cons] <;> omega
/-- Terms of the call's own, and a number. -/
def RetS2 (w : World) (r : List T × Int) : Ending → World → Prop := fun e w2 =>
  ∃ v, e = .returned (.tuple #[v, .int .i64 r.2]) ∧ Rec.term.sl.rd True w2 (Span w.heap.size w2.heap.size) r.1 [v] ∧ Below w.heap.size w w2
theorem copySub {rows : List T} {A : Option Addr} {n c1 f s : Nat} {w w3 : World} (h : Rec.term.sl.rd False w (Old w) rows [.slice A n c1]) (hfs : f + s ≤ n) (hb : Below w.heap.size w w3) (hwt : Rec.term.sl.wt ((rows.drop f).take s) ≤ 1073741824) :
    Calls Try.prog 81 #[.slice (Option.map (fun x => x.add (f * 4)) A) s (c1 - f)] w3 fun e w2 => ∃ v2, e = .returned v2 ∧ Rec.term.sl.rd True w2 (Span w3.heap.size w2.heap.size) ((rows.drop f).take s) [v2] ∧ Below w3.heap.size w3 w2 :=
  copyTerms ((rows.drop f).take s) _ w3 hwt (Rec.term.sl.old (sl_sub (R := Rec.term) h f s hfs) hb)
theorem nil_rd {α : Type} (R : Rec α) (tr : Prop) (w : World) (S : Nat → Prop) : R.sl.rd tr w S [] [.slice none 0 0] := ⟨none, 0, rfl, Nat.le_refl _, Or.inl rfl⟩
set_option maxRecDepth 100000 in
set_option maxHeartbeats 8000000 in
theorem iTabGet (a : ATable) (key : T) (tc kc : List Value) (w : World) (ht : RTable.rd False w (Old w) a tc) (hk : Rec.term.rd False w (Old w) key kc) (hw : RTable.wt a ≤ 1048576) (hkw : Rec.term.wt key ≤ 1048576) :
    Calls Try.prog 34 #[.agg tc.toArray, .agg kc.toArray] w (RetS2 w (getR a.1 a.2 key)) := by
  obtain ⟨ty, rows⟩ := a
  have hw2 : Rec.int.wt ty + Rec.term.sl.wt rows ≤ 1048576 := hw
  have WT : Aside (Rec.term.sl.wt rows ≤ 1048576) := ⟨by omega⟩
  have HT := Aside.mk ht
  obtain ⟨_, _, _, _, rfl, p0, q0, i0, j0, -⟩ := ht
  have h1 := Rec.term.sl.mono q0 (fun b h => j0 b h)
  obtain rfl := p0
  obtain ⟨A, c1, rfl, hcap, hsl⟩ := h1
  obtain ⟨z0, z1, z2, z3a, z3b, z3c, rfl⟩ := shapeTerm hk
  have HS := Aside.mk hsl
  have HK := Aside.mk hk
  have HWT := Aside.mk hw
  obtain ⟨res, hres⟩ : ∃ r, r = getR ty rows key := ⟨_, rfl⟩
  show Calls Try.prog 34 #[.agg #[.int .i64 ty, .slice A rows.length c1], .agg #[.int .i64 z0, .int .i64 z1, .string z2, .slice z3a z3b z3c]] w (RetS2 w (getR ty rows key))
  rw [← hres]
  have HV := Aside.mk hres
  obtain ⟨n, hln⟩ : ∃ n, n = rows.length := ⟨_, rfl⟩
  have HN := Aside.mk hln
  rw [← hln] at hcap ⊢
  have HSL : Aside (Rec.term.sl.rd False w (Old w) rows [.slice A n c1]) := ⟨⟨A, c1, by rw [HN.out], by rw [← HN.out]; exact hcap, hsl⟩⟩
  have HT2 : Aside (RTable.rd False w (Old w) (ty, rows) [.int .i64 ty, .slice A n c1]) := ⟨by have := HT.out; rw [← HN.out] at this; exact this⟩
  clear hsl q0 i0 j0 hw hw2 hk hres hln HT
  go_enter Try.func34, Try.ntmps34
  go_wp2_with fail
  refine (iTabOK (ty, rows) [.int .i64 ty, .slice A n c1] _ (RTable.old HT2.out (by go_grown)) HWT.out).mono ?_
  rintro e w1 ⟨rfl, hb1⟩
  have K0 := Aside.mk (((Blk.new w 42 [.int .i64 ty, .slice A n c1]).alloc _).below hb1)
  have K1 := Aside.mk ((Blk.made (w.alloc _) 26 [.int .i64 z0, .int .i64 z1, .string z2, .slice z3a z3b z3c] (g := w.heap.size + 1) (by simp)).below hb1)
  have B1 : Aside (Below w.heap.size w w1) := ⟨below_later (by go_grown) hb1⟩
  clear hb1
  cases hb : tabB ty rows
  · have E : Aside (res = ([], 1)) := ⟨by rw [HV.out, getR, hb]; rfl⟩
    clear HV hb
    go_wp2_with fail
    go_ret2
    rw [E.out]
    exact ⟨_, rfl, nil_rd _ _ _ _, B1.out⟩
  have HB := Aside.mk hb
  have E1 : Aside (res = if key.okB then (rows.filter (sameK key), 0) else ([], 1)) := ⟨by rw [HV.out, getR, hb]; rfl⟩
  clear HV hb
  have y0 : w1.cell? ⟨w.heap.size, 0, none⟩ = some (.int .i64 ty) := K0.out.cell 0
  have y1 : w1.cell? ⟨w.heap.size, 1, none⟩ = some (.slice A n c1) := K0.out.cell 1
  have x0 : w1.cell? ⟨w.heap.size + 1, 0, none⟩ = some (.int .i64 z0) := K1.out.cell 0
  have x1 : w1.cell? ⟨w.heap.size + 1, 1, none⟩ = some (.int .i64 z1) := K1.out.cell 1
  have x2 : w1.cell? ⟨w.heap.size + 1, 2, none⟩ = some (.string z2) := K1.out.cell 2
  have x3 : w1.cell? ⟨w.heap.size + 1, 3, none⟩ = some (.slice z3a z3b z3c) := K1.out.cell 3
  go_wp2_with fail
  refine (iTermOK key [.int .i64 z0, .int .i64 z1, .string z2, .slice z3a z3b z3c] _ (Rec.term.old HK.out B1.out) hkw).mono ?_
  rintro e w2 ⟨rfl, hb2⟩
  clear y0 y1 x0 x1 x2 x3
  have K02 := Aside.mk (K0.out.below hb2)
  have K12 := Aside.mk (K1.out.below hb2)
  have B2 := Aside.mk (below_later B1.out hb2)
  clear K0 K1 B1 hb2
  cases hb : key.okB
  · have E : Aside (res = ([], 1)) := ⟨by rw [E1.out, hb]; rfl⟩
    clear E1 hb
    go_wp2_with fail
    go_ret2
    rw [E.out]
    exact ⟨_, rfl, nil_rd _ _ _ _, B2.out⟩
  have HKR := Aside.mk (okB_right hb)
  have E : Aside (res = (rows.filter (sameK key), 0)) := ⟨by rw [E1.out, hb]; rfl⟩
  clear E1 hb
  have y0 : w2.cell? ⟨w.heap.size, 0, none⟩ = some (.int .i64 ty) := K02.out.cell 0
  have y1 : w2.cell? ⟨w.heap.size, 1, none⟩ = some (.slice A n c1) := K02.out.cell 1
  have x0 : w2.cell? ⟨w.heap.size + 1, 0, none⟩ = some (.int .i64 z0) := K12.out.cell 0
  have x1 : w2.cell? ⟨w.heap.size + 1, 1, none⟩ = some (.int .i64 z1) := K12.out.cell 1
  have x2 : w2.cell? ⟨w.heap.size + 1, 2, none⟩ = some (.string z2) := K12.out.cell 2
  have x3 : w2.cell? ⟨w.heap.size + 1, 3, none⟩ = some (.slice z3a z3b z3c) := K12.out.cell 3
  go_wp2_with fail
  refine (span ty rows key [.int .i64 ty, .slice A n c1] [.int .i64 z0, .int .i64 z1, .string z2, .slice z3a z3b z3c] _ (RTable.old HT2.out B2.out) (Rec.term.old HK.out B2.out) HWT.out hkw HB.out HKR.out).mono ?_
  rintro e w3 ⟨rfl, hb3⟩
  clear y0 y1 x0 x1 x2 x3
  have K03 := Aside.mk (K02.out.below hb3)
  have B3 := Aside.mk (below_later B2.out hb3)
  clear K02 K12 B2 hb3
  obtain ⟨f, hf⟩ : ∃ f, f = fromK key rows := ⟨_, rfl⟩
  have hfl := fromK_le key rows
  rw [← hf] at hfl ⊢
  obtain ⟨s, hs⟩ : ∃ s, s = sames key (rows.drop f) := ⟨_, rfl⟩
  have hsl := sames_le key (rows.drop f)
  rw [← hs] at hsl ⊢
  rw [List.length_drop] at hsl
  rw [← HN.out] at hfl hsl
  have HRES : Aside (rows.filter (sameK key) = (rows.drop f).take s) := ⟨by rw [filter_same key rows (tabB_up HB.out), ← hf, ← hs]⟩
  clear hf hs
  have hfs : f + s ≤ n := by omega
  have hwt2 : Aside (Rec.term.sl.wt ((rows.drop f).take s) ≤ 1073741824) := ⟨by rw [← HRES.out]; exact Nat.le_trans (filter_wt _ rows) (by have := WT.out; omega)⟩
  have y0 : w3.cell? ⟨w.heap.size, 0, none⟩ = some (.int .i64 ty) := K03.out.cell 0
  have y1 : w3.cell? ⟨w.heap.size, 1, none⟩ = some (.slice A n c1) := K03.out.cell 1
  have hn1 : n ≤ 1048576 := by have := wt_len WT.out; rw [← HN.out] at this; exact this
  have u1 : (f : Int) + s ≤ c1 := by omega
  have u2 : (0 : Int) ≤ f := by omega
  have u3 : (f : Int) ≤ (f : Int) + s := by omega
  go_wp2_with fail
  rotate_left
  · have hcs := @copySub rows A n c1 f s w w3 HSL.out hfs B3.out hwt2.out
    with_reducible refine hcs.mono ?_
    rintro e w4 ⟨v2, rfl, hr4, hb4⟩
    have HR4 := Aside.mk hr4
    have B4 := Aside.mk (below_later B3.out hb4)
    have hsz := B3.out.size
    clear y0 y1 hr4 hb4
    go_wp2_with fail
    go_ret2
    rw [E.out]
    exact ⟨_, rfl, by show Rec.term.sl.rd True w4 _ (rows.filter (sameK key)) _; rw [HRES.out]; exact Rec.term.sl.mono HR4.out (fun b h => ⟨Nat.le_trans hsz h.1, h.2⟩), B4.out⟩
  · obtain rfl : s = 0 := by omega
    refine (copyTerms [] _ _ (by show 0 + 0 ≤ _; omega) ⟨A, 0, rfl, Nat.le_refl _, Or.inl rfl⟩).mono ?_
    rintro e w4 ⟨v2, rfl, hr4, hb4⟩
    have HR4 := Aside.mk hr4
    have B4 := Aside.mk (below_later B3.out hb4)
    have hsz := B3.out.size
    clear y0 y1 hr4 hb4
    go_wp2_with fail
    go_ret2
    rw [E.out]
    exact ⟨_, rfl, by show Rec.term.sl.rd True w4 _ (rows.filter (sameK key)) _; rw [HRES.out, List.take_zero]; exact Rec.term.sl.mono HR4.out (fun b h => ⟨Nat.le_trans hsz h.1, h.2⟩), B4.out⟩
end Go.Proofs.Ytdldgchkinflmaa.Fn
