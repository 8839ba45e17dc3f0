/- Walk of the reference's TabDrop. Conditions: those of each theorem. -/
import Derived.Test.YtdldgchkinflmaaTD2
import Derived.Test.YtdldgchkinflmaaPlanS
set_option linter.unusedVariables false
namespace Go.Proofs.Ytdldgchkinflmaa.Fn
open Go.RowKit Go.Proofs.Ytdldgchkinflmaa.Lib Go.Proofs.Ytdldgchkinflmaa.Plan
attribute [local go_sem] look_tmp look_const look_func look_global lookT_nil lookT_hit lookT_miss

set_option maxRecDepth 100000 in
set_option maxHeartbeats 16000000 in
theorem sTabDrop (a : ATable) (key : T) (tc kc : List Value) (w : World) (ht : RTable.rd False w (Old w) a tc) (hk : Rec.term.rd False w (Old w) key kc) (hw : RTable.wt a ≤ 1048576) (hkw : Rec.term.wt key ≤ 1048576) :
    Calls Try.prog 22 #[.agg tc.toArray, .agg kc.toArray] w (RetT w (dropR a key)) := by
  obtain ⟨ty, rows⟩ := a
  have hw2 : Rec.int.wt ty + Rec.term.sl.wt rows ≤ 1048576 := hw
  have WT : Aside (Rec.term.sl.wt rows ≤ 1048576) := ⟨by omega⟩
  have HT := Aside.mk ht
  obtain ⟨_, _, _, _, rfl, p0, q0, i0, j0, -⟩ := ht
  have h1 := Rec.term.sl.mono q0 (fun b h => j0 b h)
  obtain rfl := p0
  obtain ⟨A, c1, rfl, hcap, hsl⟩ := h1
  obtain ⟨z0, z1, z2, z3a, z3b, z3c, rfl⟩ := shapeTerm hk
  have HS := Aside.mk hsl
  have HK := Aside.mk hk
  have HWT := Aside.mk hw
  have HW := Aside.mk (wt_kid WT.out)
  obtain ⟨t0, hi0, hz0, hz1, hz2⟩ := info_parts infoTerm
  have HI := Aside.mk hi0
  have HZ := Aside.mk hz0
  have HZ1 := Aside.mk hz1
  have HZ2 := Aside.mk hz2
  obtain ⟨res, hres⟩ : ∃ r, r = dropR (ty, rows) key := ⟨_, rfl⟩
  show Calls Try.prog 22 #[.agg #[.int .i64 ty, .slice A rows.length c1], .agg #[.int .i64 z0, .int .i64 z1, .string z2, .slice z3a z3b z3c]] w (RetT w (dropR (ty, rows) key))
  rw [← hres]
  have HV := Aside.mk hres
  obtain ⟨n, hln⟩ : ∃ n, n = rows.length := ⟨_, rfl⟩
  have HN := Aside.mk hln
  have hn1 : n ≤ 1048576 := by have := wt_len WT.out; rw [← HN.out] at this; exact this
  rw [← hln] at hcap ⊢
  have HT2 : Aside (RTable.rd False w (Old w) (ty, rows) [.int .i64 ty, .slice A n c1]) := ⟨by have := HT.out; rw [← HN.out] at this; exact this⟩
  clear hsl q0 i0 j0 hw hw2 hk hres hln HT hi0 hz0 hz1 hz2
  go_enter Try.func22, Try.ntmps22
  go_wp2_with fail
  refine (sTabOK (ty, rows) [.int .i64 ty, .slice A n c1] _ (RTable.old HT2.out (by go_grown)) HWT.out).mono ?_
  rintro e w1 ⟨rfl, hb1⟩
  have K0 := Aside.mk ((((Blk.new w 42 [.int .i64 ty, .slice A n c1]).alloc _).alloc _).below hb1)
  have K1 := Aside.mk (((Blk.made (w.alloc _) 26 [.int .i64 z0, .int .i64 z1, .string z2, .slice z3a z3b z3c] (g := w.heap.size + 1) (by simp)).alloc _).below hb1)
  have K2 := Aside.mk ((Blk.made ((w.alloc _).alloc _) 42 [.int .i64 0, .slice none 0 0] (g := w.heap.size + 1 + 1) (by simp)).below hb1)
  have B1 : Aside (Below w.heap.size w w1) := ⟨below_later (by go_grown) hb1⟩
  have hsz1 : w.heap.size + 3 ≤ w1.heap.size := by have := hb1.size; simp at this; omega
  clear hb1
  cases hb : tabB ty rows
  · have E : Aside (res = ((0, []), 1)) := ⟨by rw [HV.out, dropR, hb]; rfl⟩
    clear HV hb
    have r0 := K2.out.cell 0
    have r1 := K2.out.cell 1
    have f0 := K2.out.free 0
    have f1 := K2.out.free 1
    simp only [List.getElem?_cons_zero, List.getElem?_cons_succ] at r0 r1
    have bel := B1.out
    go_wp2_with fail
    refine bodyPost_ret (res_ct rfl _ _ (w.heap.size + 1 + 1) 42 [.int .i64 0, .slice none 0 0] _ rfl ?k_1 Try.underlying42 rfl (by kernel_rfl)) rfl ⟨_, by rw [E.out]; rfl, ?r_1, ?b_1⟩
    case k_1 => exact (K2.out.set 0 _).set 1 _
    case r_1 => rw [E.out]; exact table_rd (nil_rd _ _ _ _)
    case b_1 => go_grown
  have HB := Aside.mk hb
  have E1 : Aside (res = if key.okB then ((ty, rows.filter (otherK key)), 0) else ((0, []), 1)) := ⟨by rw [HV.out, dropR, hb]; rfl⟩
  clear HV hb
  have y0 : w1.cell? ⟨w.heap.size, 0, none⟩ = some (.int .i64 ty) := K0.out.cell 0
  have y1 : w1.cell? ⟨w.heap.size, 1, none⟩ = some (.slice A n c1) := K0.out.cell 1
  have x0 : w1.cell? ⟨w.heap.size + 1, 0, none⟩ = some (.int .i64 z0) := K1.out.cell 0
  have x1 : w1.cell? ⟨w.heap.size + 1, 1, none⟩ = some (.int .i64 z1) := K1.out.cell 1
  have x2 : w1.cell? ⟨w.heap.size + 1, 2, none⟩ = some (.string z2) := K1.out.cell 2
  have x3 : w1.cell? ⟨w.heap.size + 1, 3, none⟩ = some (.slice z3a z3b z3c) := K1.out.cell 3
  go_wp2_with fail
  refine (sTermOK key [.int .i64 z0, .int .i64 z1, .string z2, .slice z3a z3b z3c] _ (Rec.term.old HK.out B1.out) hkw).mono ?_
  rintro e w2 ⟨rfl, hb2⟩
  clear y0 y1 x0 x1 x2 x3
  have K02 := Aside.mk (K0.out.below hb2)
  have K12 := Aside.mk (K1.out.below hb2)
  have K22 := Aside.mk (K2.out.below hb2)
  have B2 := Aside.mk (below_later B1.out hb2)
  have hsz2 : w.heap.size + 3 ≤ w2.heap.size := by have := hb2.size; omega
  clear K0 K1 K2 B1 hb2 hsz1
  cases hb : key.okB
  · have E : Aside (res = ((0, []), 1)) := ⟨by rw [E1.out, hb]; rfl⟩
    clear E1 hb
    have r0 := K22.out.cell 0
    have r1 := K22.out.cell 1
    have f0 := K22.out.free 0
    have f1 := K22.out.free 1
    simp only [List.getElem?_cons_zero, List.getElem?_cons_succ] at r0 r1
    have bel := B2.out
    go_wp2_with fail
    refine bodyPost_ret (res_ct rfl _ _ (w.heap.size + 1 + 1) 42 [.int .i64 0, .slice none 0 0] _ rfl ?k_2 Try.underlying42 rfl (by kernel_rfl)) rfl ⟨_, by rw [E.out]; rfl, ?r_2, ?b_2⟩
    case k_2 => exact (K22.out.set 0 _).set 1 _
    case r_2 => rw [E.out]; exact table_rd (nil_rd _ _ _ _)
    case b_2 => go_grown
  have E : Aside (res = ((ty, rows.filter (otherK key)), 0)) := ⟨by rw [E1.out, hb]; rfl⟩
  have HRB := Aside.mk (tab_rows HB.out).1
  clear E1 hb
  have y0 : w2.cell? ⟨w.heap.size, 0, none⟩ = some (.int .i64 ty) := K02.out.cell 0
  obtain ⟨go, hgo⟩ : ∃ g, g = w2.heap.size + 1 := ⟨_, rfl⟩
  have lgo : w.heap.size + 3 < go := by omega
  have K03 := Aside.mk ((K02.out.alloc (.cells #[] 26)).alloc (.cells #[.int .i64 ty, .slice (some ⟨w2.heap.size, 0, none⟩) 0 0] 42))
  have K13 := Aside.mk ((K12.out.alloc (.cells #[] 26)).alloc (.cells #[.int .i64 ty, .slice (some ⟨w2.heap.size, 0, none⟩) 0 0] 42))
  have K23 := Aside.mk ((K22.out.alloc (.cells #[] 26)).alloc (.cells #[.int .i64 ty, .slice (some ⟨w2.heap.size, 0, none⟩) 0 0] 42))
  have KO3 := Aside.mk (Blk.made (w2.alloc (.cells #[] 26)) 42 [.int .i64 ty, .slice (some ⟨w2.heap.size, 0, none⟩) 0 0] (g := go) (by rw [hgo]; simp))
  have B3 : Aside (Below w.heap.size w ((w2.alloc (.cells #[] 26)).alloc (.cells #[.int .i64 ty, .slice (some ⟨w2.heap.size, 0, none⟩) 0 0] 42))) := ⟨(B2.out.alloc B2.out.size _).alloc (by simp; have := B2.out.size; omega) _⟩
  have G3 := Aside.mk (((Grow.empty (R := Rec.nb Rec.term go) (E := 26) (tr := True) (base := w.heap.size + 3) (g := w2.heap.size) hsz2 rfl).below ((Below.refl _ _).alloc (Nat.le_refl _) (.cells #[.int .i64 ty, .slice (some ⟨w2.heap.size, 0, none⟩) 0 0] 42))).top)
  have hne3 : Aside ((Value.slice (some ⟨w2.heap.size, 0, none⟩) 0 0).ownBlock ≠ some go) := ⟨fun h => by injection h with h; have h : w2.heap.size = go := h; omega⟩
  clear K02 K12 K22 B2 hsz2
  go_wp2_with fail
  rw [← hgo]
  clear y0
  go_loopw [7] (fun iv wr => ∃ (i : Nat) (v : Value), i ≤ n ∧ iv = .int .i64 i ∧ Aside (Blk wr w.heap.size 42 [.int .i64 ty, .slice A n c1]) ∧ Aside (Blk wr (w.heap.size + 1) 26 [.int .i64 z0, .int .i64 z1, .string z2, .slice z3a z3b z3c]) ∧ Aside (Blk wr (w.heap.size + 1 + 1) 42 [.int .i64 0, .slice none 0 0]) ∧ Aside (Blk wr go 42 [.int .i64 ty, v]) ∧ Aside (v.ownBlock ≠ some go) ∧ Aside (Below w.heap.size w wr) ∧ Aside (Grow (Rec.nb Rec.term go) 26 True (w.heap.size + 3) wr.heap.size wr ((rows.take i).filter (otherK key)) v)) (fun iv _ => n - (intOf iv).toNat)
  case atStart => exact ⟨0, _, Nat.zero_le _, rfl, K03, K13, K23, KO3, hne3, B3, G3⟩
  case round =>
    obtain ⟨i, v, hi, rfl, hk0, hk1, hk2, hko, hne, hbel, hg⟩ := hrel
    clear K03 K13 K23 KO3 B3 G3 hne3 hgo
    have y0 := hk0.out.cell 0
    have y1 := hk0.out.cell 1
    have x0 := hk1.out.cell 0
    have x1 := hk1.out.cell 1
    have x2 := hk1.out.cell 2
    have x3 := hk1.out.cell 3
    simp only [List.getElem?_cons_zero, List.getElem?_cons_succ] at y0 y1 x0 x1 x2 x3
    have l0 : w.heap.size < wr.heap.size := hk0.out.lt
    have l1 : w.heap.size + 1 < wr.heap.size := hk1.out.lt
    by_cases hlt : i < n
    rotate_left
    · obtain rfl : i = n := by omega
      have o0 := hko.out.cell 0
      have o1 := hko.out.cell 1
      have r0 := hk2.out.cell 0
      have r1 := hk2.out.cell 1
      have f0 := hk2.out.free 0
      have f1 := hk2.out.free 1
      simp only [List.getElem?_cons_zero, List.getElem?_cons_succ] at o0 o1 r0 r1
      obtain ⟨Av, cv, rfl, hcv⟩ := hg.out.shape
      have bel := hbel.out
      go_wp2_with fail
      refine bodyPost_ret (res_ct rfl _ _ (w.heap.size + 1 + 1) 42 [.int .i64 ty, .slice Av ((rows.take i).filter (otherK key)).length cv] _ rfl ?k_3 Try.underlying42 rfl (by kernel_rfl)) rfl ⟨_, by rw [E.out]; rfl, ?r_3, ?b_3⟩
      case k_3 => exact (hk2.out.set 0 _).set 1 _
      case r_3 =>
        rw [E.out]
        have hg2 := hg.out.span
        rw [HN.out, List.take_length] at hg2 ⊢
        refine table_rd (Rec.nb_sl (g := go) ?_)
        exact (Rec.nb Rec.term go).sl.frame hg2 (fun b hb => by rw [heap_far (by have := hb.1; omega), heap_far (by have := hb.1; omega)]) (fun b hb => ⟨by have := hb.1; omega, by simpa using hb.2⟩)
      case b_3 => go_grown
    have hlt2 : i < rows.length := by rw [← HN.out]; exact hlt
    rcases HS.out with h0 | ⟨b, o, rfl, hrow⟩
    · exfalso; rw [h0] at hlt2; exact absurd hlt2 (Nat.not_lt_zero _)
    have hbo : b < w.heap.size := hrow.1
    have HROW := Aside.mk hrow
    have hRt := HRB.out rows[i] (List.getElem_mem hlt2)
    obtain ⟨-, -, kt⟩ := rowB_parts hRt
    obtain ⟨cap1, bk1, ok1, d10, d11, d12, d1a, d1l, d1c, e10, e11, e12, e13, g10, g11, g12, g13, r1, rr1⟩ := key_cells hbel.out hrow i hlt2 kt
    have W1 := HW.out i hlt2
    have V1 := keyT_wt kt W1
    have lb : b < wr.heap.size := Nat.lt_of_lt_of_le hbo hbel.out.size
    have lb1 : bk1 < wr.heap.size := cell_lt g10
    have R1 := Aside.mk (Rec.term.old (w1 := wr.drew) r1 (Below.refl _ _).drew)
    have R2 := Aside.mk (Rec.term.old (w1 := wr.drew) HK.out hbel.out.drew)
    have ut : (i : Int) < n := by omega
    have kt2 : (0 : Int) < rows[i].kids.length := by omega
    obtain ⟨sk, hsk⟩ : ∃ sk, sk = sameB (keyT rows[i]) key := ⟨_, rfl⟩
    have HSK := Aside.mk hsk
    clear r1 rr1 hrow hRt hsk
    go_wp2_with fail
    refine region_env [(0, true), (1, true), (2, true), (3, true), (4, true), (5, true), (6, true), (7, true), (8, true), (9, false), (10, true)] (fun w' => Below wr.heap.size wr w') 51 rfl (by kernel_rfl) (by kernel_rfl) (fun _ _ d _ _ h => by cases d <;> exact h) ((Below.refl _ _).drew) (fun ops fr HFR HSZ hl => ?_)
    have hl_0 := ops_start hl
    clear hl
    obtain ⟨H0, hl_1⟩ := ops_next 0 1 rfl hl_0
    clear hl_0
    obtain ⟨H1, hl_2⟩ := ops_next 1 2 rfl hl_1
    clear hl_1
    obtain ⟨H2, hl_3⟩ := ops_next 2 3 rfl hl_2
    clear hl_2
    obtain ⟨H3, hl_4⟩ := ops_next 3 4 rfl hl_3
    clear hl_3
    obtain ⟨H4, hl_5⟩ := ops_next 4 5 rfl hl_4
    clear hl_4
    obtain ⟨H5, hl_6⟩ := ops_next 5 6 rfl hl_5
    clear hl_5
    obtain ⟨H6, hl_7⟩ := ops_next 6 7 rfl hl_6
    clear hl_6
    obtain ⟨H7, hl_8⟩ := ops_next 7 8 rfl hl_7
    clear hl_7
    obtain ⟨H8, hl_9⟩ := ops_next 8 9 rfl hl_8
    clear hl_8
    obtain ⟨H9, hl_10⟩ := ops_next 9 10 rfl hl_9
    clear hl_9
    obtain ⟨H10, hl_11⟩ := ops_next 10 11 rfl hl_10
    clear hl_10
    clear hl_11
    have x_2 : ext fr 2 = _ := congrArg (fun a => Act.eval a (.tmp 2)) HFR.out
    conv at x_2 => rhs; simp only [Act.eval, Array.getD_eq_getD_getElem?, List.getElem?_toArray, List.getElem?_cons_succ, List.getElem?_cons_zero, Option.getD_some]
    have x_7 : ext fr 7 = _ := congrArg (fun a => Act.eval a (.tmp 7)) HFR.out
    conv at x_7 => rhs; simp only [Act.eval, Array.getD_eq_getD_getElem?, List.getElem?_toArray, List.getElem?_cons_succ, List.getElem?_cons_zero, Option.getD_some]
    have x_3 : ext fr 3 = _ := congrArg (fun a => Act.eval a (.tmp 3)) HFR.out
    conv at x_3 => rhs; simp only [Act.eval, Array.getD_eq_getD_getElem?, List.getElem?_toArray, List.getElem?_cons_succ, List.getElem?_cons_zero, Option.getD_some]
    refine env_yes HSZ H0.out ?_ (fun w' hS => ?_) ?_
    rotate_left
    (go_simp
     rfl)
    refine env_yes HSZ H1.out ?_ (fun w' hS => ?_) ?_
    rotate_left
    (have h := (hS.cell (p := ⟨w.heap.size, 1, none⟩) l0).trans y1
     go_simp
     rfl)
    refine env_yes HSZ H2.out ?_ (fun w' hS => ?_) ?_
    rotate_left
    (go_simp
     rfl)
    refine env_yes HSZ H3.out ?_ (fun w' hS => ?_) ?_
    rotate_left
    (go_simp
     rfl)
    refine env_yes HSZ H4.out ?_ (fun w' hS => ?_) ?_
    rotate_left
    (go_simp
     rfl)
    refine env_yes HSZ H5.out ?_ (fun w' hS => ?_) ?_
    rotate_left
    (have h := (hS.cell (p := ⟨b, o + i * 4 + 3, none⟩) lb).trans e13
     go_simp
     rfl)
    refine env_yes HSZ H6.out ?_ (fun w' hS => ?_) ?_
    rotate_left
    (go_simp
     rfl)
    refine env_yes HSZ H7.out ?_ (fun w' hS => ?_) ?_
    rotate_left
    (have h0 := (hS.cell (p := ⟨bk1, ok1, none⟩) lb1).trans g10
     have h1 := (hS.cell (p := ⟨bk1, ok1 + 1, none⟩) lb1).trans g11
     have h2 := (hS.cell (p := ⟨bk1, ok1 + 2, none⟩) lb1).trans g12
     have h3 := (hS.cell (p := ⟨bk1, ok1 + 3, none⟩) lb1).trans g13
     go_simp
     rfl)
    refine env_yes HSZ H8.out ?_ (fun w' hS => ?_) ?_
    rotate_left
    (have h0 := (hS.cell (p := ⟨w.heap.size + 1, 0, none⟩) l1).trans x0
     have h1 := (hS.cell (p := ⟨w.heap.size + 1, 1, none⟩) l1).trans x1
     have h2 := (hS.cell (p := ⟨w.heap.size + 1, 2, none⟩) l1).trans x2
     have h3 := (hS.cell (p := ⟨w.heap.size + 1, 3, none⟩) l1).trans x3
     go_simp
     rfl)
    refine env_call HSZ H9.out ?_ ?_ ?_ ?_
    rotate_left 2
    (go_simp
     first | rfl | (constructor <;> rfl))
    refine (l04Same (keyT rows[i]) key [.int .i64 d10, .int .i64 d11, .string d12, .slice d1a d1l d1c] [.int .i64 z0, .int .i64 z1, .string z2, .slice z3a z3b z3c] _ R1.out R2.out V1 hkw).mono ?_
    rintro e w4 ⟨rfl, hbn⟩
    have hk04 := Aside.mk (hk0.out.drew.below hbn)
    have hk14 := Aside.mk (hk1.out.drew.below hbn)
    have hk24 := Aside.mk (hk2.out.drew.below hbn)
    have hko4 := Aside.mk (hko.out.drew.below hbn)
    have hb5 := Aside.mk (below_later hbel.out.drew hbn)
    have hg5 := Aside.mk ((hg.out.below (below_later (Below.refl _ _).drew hbn)).top)
    refine ⟨_, rfl, below_later (Below.refl _ _).drew hbn, ?_⟩
    rw [← HSK.out]
    clear hbn
    refine env_yes HSZ H10.out ?_ (fun w' hS => ?_) ?_
    rotate_left
    (go_simp
     rfl)
    refine env_end ?_
    have hfr := HFR.out
    clear HFR HSZ H0 H1 H2 H3 H4 H5 H6 H7 H8 H9 H10 x_2 x_7 x_3
    subst hfr
    simp only [putAll, Act.put, List.setIfInBounds_toArray, List.set_cons_succ, List.set_cons_zero]
    clear e10 e11 e12 e13 g10 g11 g12 g13 R1 R2 y0 y1 x0 x1 x2 x3 l0 l1 lb lb1 hk0 hk1 hk2 hko hbel hg
    cases sk
    rotate_left
    · have hg6 : Aside (Grow (Rec.nb Rec.term go) 26 True (w.heap.size + 3) w4.heap.size w4 ((rows.take (i + 1)).filter (otherK key)) v) := ⟨by have := hg5.out; rwa [filter_take_no (otherK key) rows i hlt2 (by show (!sameB (keyT rows[i]) key) = false; rw [← HSK.out]; rfl)] at this⟩
      clear HSK hg5
      go_wp2_with fail
      go_roundw
      case rel => exact ⟨i + 1, v, by omega, by go_num, hk04, hk14, hk24, hko4, hne, hb5, hg6⟩
      case measure => first | (simp [intOf]; done) | (simp [intOf]; omega)
    have hft : Aside ((rows.take i).filter (otherK key) ++ [rows[i]] = (rows.take (i + 1)).filter (otherK key)) := ⟨filter_take_yes (otherK key) rows i hlt2 (by show (!sameB (keyT rows[i]) key) = true; rw [← HSK.out]; rfl)⟩
    clear HSK
    obtain ⟨cap2, bk2, ok2, -, -, -, -, -, -, e10, e11, e12, e13, -, -, -, -, -, rr1⟩ := key_cells hb5.out HROW.out i hlt2 kt
    have y1 := hk04.out.cell 1
    have o1 := hko4.out.cell 1
    have fo1 := hko4.out.free 1
    simp only [List.getElem?_cons_zero, List.getElem?_cons_succ] at y1 o1
    have RR1 := Aside.mk (Rec.term.old (w1 := w4.drew) rr1 (Below.refl _ _).drew)
    have W2 : Rec.term.wt rows[i] ≤ 1073741824 := by omega
    have l0 : w.heap.size < w4.heap.size := hk04.out.lt
    have lo : go < w4.heap.size := hko4.out.lt
    have lb : b < w4.heap.size := Nat.lt_of_lt_of_le hbo hb5.out.size
    obtain ⟨l, hl⟩ : ∃ l, l = (rows.take i).filter (otherK key) := ⟨_, rfl⟩
    rw [← hl] at hg5 hft
    obtain ⟨m, hm⟩ : ∃ m, l.length = m := ⟨_, rfl⟩
    have hm1 : m ≤ 1048576 := by
      rw [← hm, hl]
      have h1 := List.length_filter_le (otherK key) (rows.take i)
      have h2 := List.length_take_le i rows
      omega
    obtain ⟨Av, cv, rfl, hcv⟩ := hg5.out.shape
    have hgo5 := Aside.mk (fun g (hg' : (Value.slice Av l.length cv).ownBlock = some g) => own_lt hg5.out.2.choose_spec.choose_spec.1 hg')
    have HM := Aside.mk hm
    have hG0 : Aside (¬ (w.heap.size = go ∨ (Value.slice Av l.length cv).ownBlock = some w.heap.size)) := ⟨fun h => by rcases h with h | h; omega; have := (hgo5.out _ h).1; omega⟩
    have hGb : Aside (¬ (b = go ∨ (Value.slice Av l.length cv).ownBlock = some b)) := ⟨fun h => by rcases h with h | h; omega; have := (hgo5.out _ h).1; omega⟩
    rw [hm] at hcv hG0 hGb hgo5 hne o1 hko4
    have HG5 : Aside (Grow (Rec.nb Rec.term go) 26 True (w.heap.size + 3) w4.heap.size w4 l (.slice Av m cv)) := ⟨by have := hg5.out; rwa [HM.out] at this⟩
    clear rr1 hl hm hg5
    go_wp2_with fail
    refine region_env2 [(0, true), (1, true), (2, true), (3, true), (4, true), (5, true), (6, true), (7, false), (8, false), (9, false), (10, true), (11, false)] (fun w' => Below w4.heap.size w4 w') (fun w' => But (fun c => c = go ∨ (Value.slice Av m cv).ownBlock = some c) w4 w') 9 51 rfl (by kernel_rfl) (by kernel_rfl) (fun _ _ d _ _ h => by cases d <;> exact h) (fun w' h => But.below h) ((Below.refl _ _).drew) (fun ops fr HFR HSZ HWT hl => ?_)
    have hl_0 := ops_start hl
    clear hl
    obtain ⟨H0, hl_1⟩ := ops_next 0 1 rfl hl_0
    clear hl_0
    obtain ⟨H1, hl_2⟩ := ops_next 1 2 rfl hl_1
    clear hl_1
    obtain ⟨H2, hl_3⟩ := ops_next 2 3 rfl hl_2
    clear hl_2
    obtain ⟨H3, hl_4⟩ := ops_next 3 4 rfl hl_3
    clear hl_3
    obtain ⟨H4, hl_5⟩ := ops_next 4 5 rfl hl_4
    clear hl_4
    obtain ⟨H5, hl_6⟩ := ops_next 5 6 rfl hl_5
    clear hl_5
    obtain ⟨H6, hl_7⟩ := ops_next 6 7 rfl hl_6
    clear hl_6
    obtain ⟨H7, hl_8⟩ := ops_next 7 8 rfl hl_7
    clear hl_7
    obtain ⟨H8, hl_9⟩ := ops_next 8 9 rfl hl_8
    clear hl_8
    obtain ⟨H9, hl_10⟩ := ops_next 9 10 rfl hl_9
    clear hl_9
    obtain ⟨H10, hl_11⟩ := ops_next 10 11 rfl hl_10
    clear hl_10
    obtain ⟨H11, hl_12⟩ := ops_next 11 12 rfl hl_11
    clear hl_11
    clear hl_12
    have x_6 : ext fr 6 = _ := congrArg (fun a => Act.eval a (.tmp 6)) HFR.out
    conv at x_6 => rhs; simp only [Act.eval, Array.getD_eq_getD_getElem?, List.getElem?_toArray, List.getElem?_cons_succ, List.getElem?_cons_zero, Option.getD_some]
    have x_2 : ext fr 2 = _ := congrArg (fun a => Act.eval a (.tmp 2)) HFR.out
    conv at x_2 => rhs; simp only [Act.eval, Array.getD_eq_getD_getElem?, List.getElem?_toArray, List.getElem?_cons_succ, List.getElem?_cons_zero, Option.getD_some]
    have x_7 : ext fr 7 = _ := congrArg (fun a => Act.eval a (.tmp 7)) HFR.out
    conv at x_7 => rhs; simp only [Act.eval, Array.getD_eq_getD_getElem?, List.getElem?_toArray, List.getElem?_cons_succ, List.getElem?_cons_zero, Option.getD_some]
    refine env2_yes HSZ (by decide) H0.out ?_ (fun w' hS => ?_) ?_
    rotate_left
    (go_simp
     rfl)
    refine env2_early HSZ (by decide) HWT (by kernel_rfl) H1.out ?_ (fun w' hS => ?_) ?_
    rotate_left
    (have h := (hS.cell (p := ⟨go, 1, none⟩) lo).trans o1
     go_simp
     rfl)
    refine env2_yes HSZ (by decide) H2.out ?_ (fun w' hS => ?_) ?_
    rotate_left
    (go_simp
     rfl)
    refine env2_yes HSZ (by decide) H3.out ?_ (fun w' hS => ?_) ?_
    rotate_left
    (have h := (But.cell (o := 1) hS l0 hG0.out).trans y1
     go_simp
     rfl)
    refine env2_yes HSZ (by decide) H4.out ?_ (fun w' hS => ?_) ?_
    rotate_left
    (go_simp
     rfl)
    refine env2_yes HSZ (by decide) H5.out ?_ (fun w' hS => ?_) ?_
    rotate_left
    (go_simp
     rfl)
    refine env2_yes HSZ (by decide) H6.out ?_ (fun w' hS => ?_) ?_
    rotate_left
    (have h0 := (But.cell (o := o + i * 4) hS lb hGb.out).trans e10
     have h1 := (But.cell (o := o + i * 4 + 1) hS lb hGb.out).trans e11
     have h2 := (But.cell (o := o + i * 4 + 2) hS lb hGb.out).trans e12
     have h3 := (But.cell (o := o + i * 4 + 3) hS lb hGb.out).trans e13
     go_simp
     rfl)
    refine env2_call HSZ H7.out ?_ ?_ ?_ ?_
    rotate_left 2
    (go_simp
     first | rfl | (constructor <;> rfl))
    refine (l01Copy rows[i] [.int .i64 rows[i].kind, .int .i64 rows[i].num, .string rows[i].str, .slice (some ⟨bk2, ok2, none⟩) rows[i].kids.length cap2] _ RR1.out W2).mono ?_
    rintro e w5 ⟨cs2, rfl, hr2, hb2⟩
    obtain ⟨v0, v1, v2, v3a, v3b, v3c, rfl⟩ := shapeTerm hr2
    have hb45 : Below w4.heap.size w4 w5 := below_later (Below.refl _ _).drew hb2
    have hg6 := HG5.out.below hb45
    have hsz : w4.heap.size ≤ w5.heap.size := hb45.size
    obtain ⟨g8, cv8, w8, hrun, hg8, hgr8, hor8⟩ := run_growP (P := Try.prog) (R := Rec.nb Rec.term go) (E := 26) (tr := True) (base := w.heap.size + 3) (top := w4.heap.size) t0 _ 56 24 24 Try.underlying24 HI.out HZ.out HZ1.out HZ2.out rfl (show 0 < 4 by decide) (xs := l) (y := rows[i]) hg6 (by omega) 26 [.int .i64 v0, .int .i64 v1, .string v2, .slice v3a v3b v3c] (Rec.nb_rd hr2 (fun b hb => by have h1 := hb.1; change w4.heap.size ≤ b at h1; omega)) (fun c hc => ⟨hc.2, fun e => by have h1 := (hgo5.out c e).2; have h2 := hc.1; change w4.heap.size ≤ c at h2; omega, fun _ => ⟨by have h2 := hc.1; change w4.heap.size ≤ c at h2; omega, hc.1⟩⟩) (fun u hu => by simp at hu; rcases hu with rfl | rfl | rfl | rfl <;> rfl) (by rw [HM.out]; unfold maxLen; omega) (by rw [HM.out]; omega)
    rw [HM.out] at hrun hg8
    rw [hft.out] at hg8
    have HRUN := Aside.mk hrun
    have HG8 := Aside.mk hg8
    have HR8 := Aside.mk hgr8
    have HO8 := Aside.mk hor8
    have HB45 := Aside.mk hb45
    have hown3 : ∀ c, (Value.slice Av m cv).ownBlock = some c → w.heap.size + 3 ≤ c := fun c hc => (hgo5.out c hc).1
    have HK08 := Aside.mk (((hk04.out.below hb45).alloc (.cells #[.int .i64 v0, .int .i64 v1, .string v2, .slice v3a v3b v3c] 26)).grown hgr8 (fun e => by have := hown3 _ e.symm; omega))
    have HK18 := Aside.mk (((hk14.out.below hb45).alloc (.cells #[.int .i64 v0, .int .i64 v1, .string v2, .slice v3a v3b v3c] 26)).grown hgr8 (fun e => by have := hown3 _ e.symm; omega))
    have HK28 := Aside.mk (((hk24.out.below hb45).alloc (.cells #[.int .i64 v0, .int .i64 v1, .string v2, .slice v3a v3b v3c] 26)).grown hgr8 (fun e => by have := hown3 _ e.symm; omega))
    have HKO8 := Aside.mk (((hko4.out.below hb45).alloc (.cells #[.int .i64 v0, .int .i64 v1, .string v2, .slice v3a v3b v3c] 26)).grown hgr8 (fun e => hne.out e.symm))
    have bel5 := below_later hb5.out hb45
    have HB8 : Aside (Below w.heap.size w w8) := ⟨(bel5.alloc bel5.size (.cells #[.int .i64 v0, .int .i64 v1, .string v2, .slice v3a v3b v3c] 26)).grown hgr8 (by simp; have := bel5.size; omega) (fun k hk => by have := hown3 k hk; omega)⟩
    have HN8 : Aside (go ≠ g8) := ⟨fun e => by rcases hor8 with h | h; exact hne.out (by rw [h, e]); omega⟩
    refine ⟨_, rfl, hb45, ?_⟩
    clear hr2 hb2 hb45 hg6 hrun hg8 hgr8 hor8 bel5 hown3
    refine env2_run HSZ H8.out ?_ ?_ ?_ ?_ ?_
    rotate_left 2
    (go_simp; constructor <;> rfl)
    exact HB45.out.alloc HB45.out.size _
    refine env2_run HSZ H9.out ?_ ?_ ?_ ?_ ?_
    rotate_left 2
    rotate_right 2
    exact (.slice (some ⟨g8, 0, none⟩) (m + 1) cv8)
    exact w8
    exact exec_app (v := .slice Av m cv) (v2 := .slice (some ⟨w5.heap.size, 0, none⟩) 1 1) _ _ (by go_simp) (by go_simp) HRUN.out
    exact (But.below (HB45.out.alloc HB45.out.size _)).trans ⟨HR8.out.os, HR8.out.tape, HR8.out.output, HR8.out.size, fun k hk hn => HR8.out.block k hk (fun e => hn (Or.inr e.symm))⟩
    refine env2_yes HSZ (by decide) H10.out ?_ (fun w' hS => ?_) ?_
    rotate_left
    (go_simp
     rfl)
    refine env2_store HSZ H11.out ?_ ?_ ?_ ?_
    rotate_left 1
    have c8 : w8.cell? ⟨go, 1, none⟩ = some (.slice Av m cv) := HKO8.out.cell 1
    have fz8 := HKO8.out.free 1
    (go_simp; rfl)
    exact (show But (fun c => c = go ∨ (Value.slice Av m cv).ownBlock = some c) w4 w8 from (But.below (HB45.out.alloc HB45.out.size _)).trans ⟨HR8.out.os, HR8.out.tape, HR8.out.output, HR8.out.size, fun k hk hn => HR8.out.block k hk (fun e => hn (Or.inr e.symm))⟩).set (p := ⟨go, 1, none⟩) (Or.inl rfl) _
    refine env2_end ?_
    have hfr := HFR.out
    clear HFR HSZ HWT H0 H1 H2 H3 H4 H5 H6 H7 H8 H9 H10 H11 x_6 x_2 x_7
    subst hfr
    simp only [putAll, Act.put, List.setIfInBounds_toArray, List.set_cons_succ, List.set_cons_zero]
    have hk09 := Aside.mk (HK08.out.far (p := ⟨go, 1, none⟩) (show w.heap.size ≠ go by omega) (.slice (some ⟨g8, 0, none⟩) (m + 1) cv8))
    have hk19 := Aside.mk (HK18.out.far (p := ⟨go, 1, none⟩) (show w.heap.size + 1 ≠ go by omega) (.slice (some ⟨g8, 0, none⟩) (m + 1) cv8))
    have hk29 := Aside.mk (HK28.out.far (p := ⟨go, 1, none⟩) (show w.heap.size + 1 + 1 ≠ go by omega) (.slice (some ⟨g8, 0, none⟩) (m + 1) cv8))
    have hko9 := Aside.mk (HKO8.out.set 1 (.slice (some ⟨g8, 0, none⟩) (m + 1) cv8))
    have hne9 : Aside ((Value.slice (some ⟨g8, 0, none⟩) (m + 1) cv8).ownBlock ≠ some go) := ⟨fun e => by injection e with e; exact HN8.out e.symm⟩
    have hb9 : Aside (Below w.heap.size w (w8.setCell ⟨go, 1, none⟩ (.slice (some ⟨g8, 0, none⟩) (m + 1) cv8))) := ⟨HB8.out.setCell (by show w.heap.size ≤ go; omega) _⟩
    have hg9 := Aside.mk ((HG8.out.skip hne9.out ((But.refl (fun c => c = go) w8).set (p := ⟨go, 1, none⟩) rfl (.slice (some ⟨g8, 0, none⟩) (m + 1) cv8))).top)
    clear e10 e11 e12 e13 y1 o1 fo1 RR1 l0 lo lb hGb hG0 hgo5 HG5 hft HRUN HG8 HR8 HO8 HB45 HK08 HK18 HK28 HKO8 HB8 HN8 hk04 hk14 hk24 hko4 hb5 hne
    go_wp2_with fail
    go_roundw
    case rel => exact ⟨i + 1, _, by omega, by go_num, hk09, hk19, hk29, hko9, hne9, hb9, hg9⟩
    case measure => first | (simp [intOf]; done) | (simp [intOf]; omega)
end Go.Proofs.Ytdldgchkinflmaa.Fn
