/- Walk of the reference's TabGet. Conditions: those of each theorem. -/
import Derived.Test.YtdcmoilajplfdaaTG3
import Derived.Test.YtdcmoilajplfdaaTab2
import Derived.Test.YtdcmoilajplfdaaCopy2
set_option linter.unusedVariables false
namespace Go.Proofs.Ytdcmoilajplfdaa.Fn
open Go.RowKit Go.Proofs.Ytdcmoilajplfdaa.Lib Go.Proofs.Ytdcmoilajplfdaa.Plan
attribute [local go_sem] look_tmp look_const look_func look_global lookT_nil lookT_hit lookT_miss

theorem filter_take_yes {α : Type} (p : α → Bool) (l : List α) (i : Nat) (h : i < l.length) (hp : p l[i] = true) : (l.take i).filter p ++ [l[i]] = (l.take (i + 1)).filter p := by
  rw [List.take_succ_eq_append_getElem h, List.filter_append, List.filter_cons, hp]; rfl
theorem filter_take_no {α : Type} (p : α → Bool) (l : List α) (i : Nat) (h : i < l.length) (hp : p l[i] = false) : (l.take i).filter p = (l.take (i + 1)).filter p := by
  rw [List.take_succ_eq_append_getElem h, List.filter_append, List.filter_cons, hp]; simp
set_option maxRecDepth 100000 in
set_option maxHeartbeats 8000000 in
theorem sTabGet (a : ATable) (key : T) (tc kc : List Value) (w : World) (ht : RTable.rd False w (Old w) a tc) (hk : Rec.term.rd False w (Old w) key kc) (hw : RTable.wt a ≤ 1048576) (hkw : Rec.term.wt key ≤ 1048576) :
    Calls Try.prog 39 #[.agg tc.toArray, .agg kc.toArray] w (RetS2 w (getR a.1 a.2 key)) := by
  obtain ⟨ty, rows⟩ := a
  have hw2 : Rec.int.wt ty + Rec.term.sl.wt rows ≤ 1048576 := hw
  have WT : Aside (Rec.term.sl.wt rows ≤ 1048576) := ⟨by omega⟩
  have HT := Aside.mk ht
  obtain ⟨_, _, _, _, rfl, p0, q0, i0, j0, -⟩ := ht
  have h1 := Rec.term.sl.mono q0 (fun b h => j0 b h)
  obtain rfl := p0
  obtain ⟨A, c1, rfl, hcap, hsl⟩ := h1
  obtain ⟨z0, z1, z2, z3a, z3b, z3c, rfl⟩ := shapeTerm hk
  have HS := Aside.mk hsl
  have HK := Aside.mk hk
  have HWT := Aside.mk hw
  have HW := Aside.mk (wt_kid WT.out)
  obtain ⟨t0, hi0, hz0, hz1, hz2⟩ := info_parts infoTerm
  have HI := Aside.mk hi0
  have HZ := Aside.mk hz0
  have HZ1 := Aside.mk hz1
  have HZ2 := Aside.mk hz2
  obtain ⟨res, hres⟩ : ∃ r, r = getR ty rows key := ⟨_, rfl⟩
  show Calls Try.prog 39 #[.agg #[.int .i64 ty, .slice A rows.length c1], .agg #[.int .i64 z0, .int .i64 z1, .string z2, .slice z3a z3b z3c]] w (RetS2 w (getR ty rows key))
  rw [← hres]
  have HV := Aside.mk hres
  obtain ⟨n, hln⟩ : ∃ n, n = rows.length := ⟨_, rfl⟩
  have HN := Aside.mk hln
  have hn1 : n ≤ 1048576 := by have := wt_len WT.out; rw [← HN.out] at this; exact this
  rw [← hln] at hcap ⊢
  have HT2 : Aside (RTable.rd False w (Old w) (ty, rows) [.int .i64 ty, .slice A n c1]) := ⟨by have := HT.out; rw [← HN.out] at this; exact this⟩
  clear hsl q0 i0 j0 hw hw2 hk hres hln HT hi0 hz0 hz1 hz2
  go_enter Try.func39, Try.ntmps39
  go_wp2_with fail
  refine (sTabOK (ty, rows) [.int .i64 ty, .slice A n c1] _ (RTable.old HT2.out (by go_grown)) HWT.out).mono ?_
  rintro e w1 ⟨rfl, hb1⟩
  have K0 := Aside.mk ((((Blk.new w 42 [.int .i64 ty, .slice A n c1]).alloc _).alloc _).below hb1)
  have K1 := Aside.mk (((Blk.made (w.alloc _) 29 [.int .i64 z0, .int .i64 z1, .string z2, .slice z3a z3b z3c] (g := w.heap.size + 1) (by simp)).alloc _).below hb1)
  have B1 : Aside (Below w.heap.size w w1) := ⟨below_later (by go_grown) hb1⟩
  have G1 := Aside.mk (((Grow.empty (R := Rec.term) (E := 29) (tr := True) (base := w.heap.size + 2) (g := w.heap.size + 1 + 1) (by simp) (by simp)).below hb1).top)
  have hsz1 : w.heap.size + 3 ≤ w1.heap.size := by have := hb1.size; simp at this; omega
  clear hb1
  cases hb : tabB ty rows
  · have E : Aside (res = ([], 1)) := ⟨by rw [HV.out, getR, hb]; rfl⟩
    clear HV hb
    go_wp2_with fail
    go_ret2
    rw [E.out]
    exact ⟨_, rfl, Rec.term.sl.mono G1.out.span (fun b h => ⟨by have := h.1; omega, h.2⟩), B1.out⟩
  have HB := Aside.mk hb
  have E1 : Aside (res = if key.okB then (rows.filter (sameK key), 0) else ([], 1)) := ⟨by rw [HV.out, getR, hb]; rfl⟩
  clear HV hb
  have y0 : w1.cell? ⟨w.heap.size, 0, none⟩ = some (.int .i64 ty) := K0.out.cell 0
  have y1 : w1.cell? ⟨w.heap.size, 1, none⟩ = some (.slice A n c1) := K0.out.cell 1
  have x0 : w1.cell? ⟨w.heap.size + 1, 0, none⟩ = some (.int .i64 z0) := K1.out.cell 0
  have x1 : w1.cell? ⟨w.heap.size + 1, 1, none⟩ = some (.int .i64 z1) := K1.out.cell 1
  have x2 : w1.cell? ⟨w.heap.size + 1, 2, none⟩ = some (.string z2) := K1.out.cell 2
  have x3 : w1.cell? ⟨w.heap.size + 1, 3, none⟩ = some (.slice z3a z3b z3c) := K1.out.cell 3
  go_wp2_with fail
  refine (sTermOK key [.int .i64 z0, .int .i64 z1, .string z2, .slice z3a z3b z3c] _ (Rec.term.old HK.out B1.out) hkw).mono ?_
  rintro e w2 ⟨rfl, hb2⟩
  clear y0 y1 x0 x1 x2 x3
  have K02 := Aside.mk (K0.out.below hb2)
  have K12 := Aside.mk (K1.out.below hb2)
  have B2 := Aside.mk (below_later B1.out hb2)
  have G2 := Aside.mk ((G1.out.below hb2).top)
  clear K0 K1 B1 hb2 G1
  cases hb : key.okB
  · have E : Aside (res = ([], 1)) := ⟨by rw [E1.out, hb]; rfl⟩
    clear E1 hb
    go_wp2_with fail
    go_ret2
    rw [E.out]
    exact ⟨_, rfl, Rec.term.sl.mono G2.out.span (fun b h => ⟨by have := h.1; omega, h.2⟩), B2.out⟩
  have E : Aside (res = (rows.filter (sameK key), 0)) := ⟨by rw [E1.out, hb]; rfl⟩
  have HRB := Aside.mk (tab_rows HB.out).1
  clear E1 hb hsz1
  go_wp2_with fail
  go_loopw [6, 7] (fun v iv wr => ∃ i : Nat, i ≤ n ∧ iv = .int .i64 i ∧ Aside (Blk wr w.heap.size 42 [.int .i64 ty, .slice A n c1]) ∧ Aside (Blk wr (w.heap.size + 1) 29 [.int .i64 z0, .int .i64 z1, .string z2, .slice z3a z3b z3c]) ∧ Aside (Below w.heap.size w wr) ∧ Aside (Grow Rec.term 29 True (w.heap.size + 2) wr.heap.size wr ((rows.take i).filter (sameK key)) v)) (fun _ iv _ => n - (intOf iv).toNat)
  case atStart => exact ⟨0, Nat.zero_le _, rfl, K02, K12, B2, G2⟩
  case round =>
    obtain ⟨i, hi, rfl, hk0, hk1, hbel, hg⟩ := hrel
    clear K02 K12 B2 G2
    have y0 := hk0.out.cell 0
    have y1 := hk0.out.cell 1
    have x0 := hk1.out.cell 0
    have x1 := hk1.out.cell 1
    have x2 := hk1.out.cell 2
    have x3 := hk1.out.cell 3
    simp only [List.getElem?_cons_zero, List.getElem?_cons_succ] at y0 y1 x0 x1 x2 x3
    have l0 : w.heap.size < wr.heap.size := hk0.out.lt
    have l1 : w.heap.size + 1 < wr.heap.size := hk1.out.lt
    by_cases hlt : i < n
    rotate_left
    · obtain rfl : i = n := by omega
      go_wp2_with fail
      go_ret2
      rw [E.out]
      have hg2 := hg.out.span
      rw [HN.out, List.take_length] at hg2
      exact ⟨_, rfl, Rec.term.sl.mono hg2 (fun b h => ⟨by have := h.1; omega, h.2⟩), hbel.out⟩
    have hlt2 : i < rows.length := by rw [← HN.out]; exact hlt
    rcases HS.out with h0 | ⟨b, o, rfl, hrow⟩
    · exfalso; rw [h0] at hlt2; exact absurd hlt2 (Nat.not_lt_zero _)
    have hbo : b < w.heap.size := hrow.1
    have HROW := Aside.mk hrow
    have hRt := HRB.out rows[i] (List.getElem_mem hlt2)
    obtain ⟨-, -, kt⟩ := rowB_parts hRt
    obtain ⟨cap1, bk1, ok1, d10, d11, d12, d1a, d1l, d1c, e10, e11, e12, e13, g10, g11, g12, g13, r1, rr1⟩ := key_cells hbel.out hrow i hlt2 kt
    have W1 := HW.out i hlt2
    have V1 := keyT_wt kt W1
    have lb : b < wr.heap.size := Nat.lt_of_lt_of_le hbo hbel.out.size
    have lb1 : bk1 < wr.heap.size := cell_lt g10
    have R1 := Aside.mk (Rec.term.old (w1 := wr.drew) r1 (Below.refl _ _).drew)
    have R2 := Aside.mk (Rec.term.old (w1 := wr.drew) HK.out hbel.out.drew)
    have ut : (i : Int) < n := by omega
    have kt2 : (0 : Int) < rows[i].kids.length := by omega
    obtain ⟨sk, hsk⟩ : ∃ sk, sk = sameB (keyT rows[i]) key := ⟨_, rfl⟩
    have HSK := Aside.mk hsk
    clear r1 rr1 hrow hRt hsk hbo
    go_wp2_with fail
    refine region_env [(0, true), (1, true), (2, true), (3, true), (4, true), (5, true), (6, true), (7, true), (8, true), (9, false)] (fun w' => Below wr.heap.size wr w') 45 rfl (by kernel_rfl) (by kernel_rfl) (fun _ _ d _ _ h => by cases d <;> exact h) ((Below.refl _ _).drew) (fun ops fr HFR HSZ hl => ?_)
    have hl_0 := ops_start hl
    clear hl
    obtain ⟨H0, hl_1⟩ := ops_next 0 1 rfl hl_0
    clear hl_0
    obtain ⟨H1, hl_2⟩ := ops_next 1 2 rfl hl_1
    clear hl_1
    obtain ⟨H2, hl_3⟩ := ops_next 2 3 rfl hl_2
    clear hl_2
    obtain ⟨H3, hl_4⟩ := ops_next 3 4 rfl hl_3
    clear hl_3
    obtain ⟨H4, hl_5⟩ := ops_next 4 5 rfl hl_4
    clear hl_4
    obtain ⟨H5, hl_6⟩ := ops_next 5 6 rfl hl_5
    clear hl_5
    obtain ⟨H6, hl_7⟩ := ops_next 6 7 rfl hl_6
    clear hl_6
    obtain ⟨H7, hl_8⟩ := ops_next 7 8 rfl hl_7
    clear hl_7
    obtain ⟨H8, hl_9⟩ := ops_next 8 9 rfl hl_8
    clear hl_8
    obtain ⟨H9, hl_10⟩ := ops_next 9 10 rfl hl_9
    clear hl_9
    clear hl_10
    have x_2 : ext fr 2 = _ := congrArg (fun a => Act.eval a (.tmp 2)) HFR.out
    conv at x_2 => rhs; simp only [Act.eval, Array.getD_eq_getD_getElem?, List.getElem?_toArray, List.getElem?_cons_succ, List.getElem?_cons_zero, Option.getD_some]
    have x_7 : ext fr 7 = _ := congrArg (fun a => Act.eval a (.tmp 7)) HFR.out
    conv at x_7 => rhs; simp only [Act.eval, Array.getD_eq_getD_getElem?, List.getElem?_toArray, List.getElem?_cons_succ, List.getElem?_cons_zero, Option.getD_some]
    have x_3 : ext fr 3 = _ := congrArg (fun a => Act.eval a (.tmp 3)) HFR.out
    conv at x_3 => rhs; simp only [Act.eval, Array.getD_eq_getD_getElem?, List.getElem?_toArray, List.getElem?_cons_succ, List.getElem?_cons_zero, Option.getD_some]
    refine env_yes HSZ H0.out ?_ (fun w' hS => ?_) ?_
    rotate_left
    (go_simp
     rfl)
    refine env_yes HSZ H1.out ?_ (fun w' hS => ?_) ?_
    rotate_left
    (have h := (hS.cell (p := ⟨w.heap.size, 1, none⟩) l0).trans y1
     go_simp
     rfl)
    refine env_yes HSZ H2.out ?_ (fun w' hS => ?_) ?_
    rotate_left
    (go_simp
     rfl)
    refine env_yes HSZ H3.out ?_ (fun w' hS => ?_) ?_
    rotate_left
    (go_simp
     rfl)
    refine env_yes HSZ H4.out ?_ (fun w' hS => ?_) ?_
    rotate_left
    (go_simp
     rfl)
    refine env_yes HSZ H5.out ?_ (fun w' hS => ?_) ?_
    rotate_left
    (have h := (hS.cell (p := ⟨b, o + i * 4 + 3, none⟩) lb).trans e13
     go_simp
     rfl)
    refine env_yes HSZ H6.out ?_ (fun w' hS => ?_) ?_
    rotate_left
    (go_simp
     rfl)
    refine env_yes HSZ H7.out ?_ (fun w' hS => ?_) ?_
    rotate_left
    (have h0 := (hS.cell (p := ⟨bk1, ok1, none⟩) lb1).trans g10
     have h1 := (hS.cell (p := ⟨bk1, ok1 + 1, none⟩) lb1).trans g11
     have h2 := (hS.cell (p := ⟨bk1, ok1 + 2, none⟩) lb1).trans g12
     have h3 := (hS.cell (p := ⟨bk1, ok1 + 3, none⟩) lb1).trans g13
     go_simp
     rfl)
    refine env_yes HSZ H8.out ?_ (fun w' hS => ?_) ?_
    rotate_left
    (have h0 := (hS.cell (p := ⟨w.heap.size + 1, 0, none⟩) l1).trans x0
     have h1 := (hS.cell (p := ⟨w.heap.size + 1, 1, none⟩) l1).trans x1
     have h2 := (hS.cell (p := ⟨w.heap.size + 1, 2, none⟩) l1).trans x2
     have h3 := (hS.cell (p := ⟨w.heap.size + 1, 3, none⟩) l1).trans x3
     go_simp
     rfl)
    refine env_call HSZ H9.out ?_ ?_ ?_ ?_
    rotate_left 2
    (go_simp
     first | rfl | (constructor <;> rfl))
    refine (l04Same (keyT rows[i]) key [.int .i64 d10, .int .i64 d11, .string d12, .slice d1a d1l d1c] [.int .i64 z0, .int .i64 z1, .string z2, .slice z3a z3b z3c] _ R1.out R2.out V1 hkw).mono ?_
    rintro e w4 ⟨rfl, hbn⟩
    have hk04 := Aside.mk (hk0.out.drew.below hbn)
    have hk14 := Aside.mk (hk1.out.drew.below hbn)
    have hb5 := Aside.mk (below_later hbel.out.drew hbn)
    have hg5 := Aside.mk ((hg.out.below (below_later (Below.refl _ _).drew hbn)).top)
    refine ⟨_, rfl, below_later (Below.refl _ _).drew hbn, ?_⟩
    rw [← HSK.out]
    clear hbn
    refine env_end ?_
    have hfr := HFR.out
    clear HFR HSZ H0 H1 H2 H3 H4 H5 H6 H7 H8 H9 x_2 x_7 x_3
    subst hfr
    simp only [putAll, Act.put, List.setIfInBounds_toArray, List.set_cons_succ, List.set_cons_zero]
    clear e10 e11 e12 e13 g10 g11 g12 g13 R1 R2 y0 y1 x0 x1 x2 x3 l0 l1 lb lb1 hk0 hk1 hbel hg
    cases sk
    · have hg6 : Aside (Grow Rec.term 29 True (w.heap.size + 2) w4.heap.size w4 ((rows.take (i + 1)).filter (sameK key)) _) := ⟨by have := hg5.out; rwa [filter_take_no (sameK key) rows i hlt2 HSK.out.symm] at this⟩
      clear HSK hg5
      go_wp2_with fail
      go_roundw
      case rel => exact ⟨i + 1, by omega, by go_num, hk04, hk14, hb5, hg6⟩
      case measure => first | (simp [intOf]; done) | (simp [intOf]; omega)
    have hft : Aside ((rows.take i).filter (sameK key) ++ [rows[i]] = (rows.take (i + 1)).filter (sameK key)) := ⟨filter_take_yes (sameK key) rows i hlt2 HSK.out.symm⟩
    clear HSK
    obtain ⟨cap2, bk2, ok2, -, -, -, -, -, -, e10, e11, e12, e13, -, -, -, -, -, rr1⟩ := key_cells hb5.out HROW.out i hlt2 kt
    have y1 := hk04.out.cell 1
    simp only [List.getElem?_cons_zero, List.getElem?_cons_succ] at y1
    have RR1 := Aside.mk rr1
    have W2 : Rec.term.wt rows[i] ≤ 1073741824 := by omega
    clear rr1
    go_wp2_with fail
    refine (l01Copy rows[i] [.int .i64 rows[i].kind, .int .i64 rows[i].num, .string rows[i].str, .slice (some ⟨bk2, ok2, none⟩) rows[i].kids.length cap2] _ RR1.out W2).mono ?_
    rintro e w5 ⟨cs2, rfl, hr2, hb2⟩
    obtain ⟨v0, v1, v2, v3a, v3b, v3c, rfl⟩ := shapeTerm hr2
    have hk05 := Aside.mk (hk04.out.below hb2)
    have hk15 := Aside.mk (hk14.out.below hb2)
    have hb6 := Aside.mk (below_later hb5.out hb2)
    have hg6 := Aside.mk (hg5.out.below hb2)
    have hsz : w4.heap.size ≤ w5.heap.size := hb2.size
    have hgt : w.heap.size + 2 ≤ w4.heap.size := hk14.out.lt
    have hr3 := Aside.mk hr2
    obtain ⟨l, hl⟩ : ∃ l, l = (rows.take i).filter (sameK key) := ⟨_, rfl⟩
    rw [← hl] at hg5 hg6 hft
    obtain ⟨m, hm⟩ : ∃ m, l.length = m := ⟨_, rfl⟩
    have hm1 : m ≤ 1048576 := by
      rw [← hm, hl]
      have h1 := List.length_filter_le (sameK key) (rows.take i)
      have h2 := List.length_take_le i rows
      omega
    obtain ⟨Av, cv, rfl, hcv⟩ := hg5.out.shape
    have hgo := Aside.mk (fun g (hg' : (Value.slice Av l.length cv).ownBlock = some g) => hg5.out.1.2 g hg')
    have HM := Aside.mk hm
    rw [hm] at hcv ⊢
    clear hb2 hr2 e10 e11 e12 e13 y1 hk04 hk14 hb5 hg5 RR1 hl hm
    go_wp2_with (at_builtin; (refine wpList_grow (R := Rec.term) (E := 29) (tr := True) (base := w.heap.size + 2) (top := w4.heap.size) rfl _ _ 27 rfl t0 _ 56 Try.underlying27 HI.out HZ.out HZ1.out HZ2.out rfl (by decide) (v := .slice Av m cv) (xs := l) (y := rows[i]) rfl (by have := hg6.out; rwa [HM.out] at this) ?c1 29 [.int .i64 v0, .int .i64 v1, .string v2, .slice v3a v3b v3c] rfl hr3.out ?c2 m HM.out _ hft.out ?c3 ?c4 ?c5 ?_))
    case c1 => omega
    case c2 =>
      intro c hc
      have h1 := hc.1
      have h2 := hc.2
      refine ⟨h2, fun e => ?_, fun _ => ⟨by omega, h1⟩⟩
      have := hgo.out c (by rw [HM.out]; exact e)
      omega
    case c3 => intro u hu; simp at hu; rcases hu with rfl | rfl | rfl | rfl <;> rfl
    case c4 => unfold maxLen; omega
    case c5 => omega
    intro g cap w6 hg7 hb7 hcap7 hbg hs7
    have hk06 := Aside.mk (show Blk w6 _ _ _ from (hb7.block _ (by omega)).trans hk05.out)
    have hk16 := Aside.mk (show Blk w6 _ _ _ from (hb7.block _ (by omega)).trans hk15.out)
    have hb8 : Aside (Below w.heap.size w w6) := ⟨hb6.out.trans (hb7.mono (by omega))⟩
    clear hb7 hk05 hk15 hb6 hg6 hr3 hgo hft
    go_wp2_with fail
    go_roundw
    case rel => exact ⟨i + 1, by omega, by go_num, hk06, hk16, hb8, hg7⟩
    case measure => first | (simp [intOf]; done) | (simp [intOf]; omega)
end Go.Proofs.Ytdcmoilajplfdaa.Fn
