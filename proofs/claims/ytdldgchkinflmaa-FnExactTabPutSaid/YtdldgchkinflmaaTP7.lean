/- Walk of the program's TabPut. Conditions: those of each theorem. -/
import Derived.Test.YtdldgchkinflmaaTPp
import Derived.Test.YtdldgchkinflmaaTPi
import Derived.Test.YtdldgchkinflmaaTab3
set_option linter.unusedVariables false
namespace Go.Proofs.Ytdldgchkinflmaa.Fn
open Go.RowKit Go.Proofs.Ytdldgchkinflmaa.Lib Go.Proofs.Ytdldgchkinflmaa.Plan
attribute [local go_sem] look_tmp look_const look_func look_global lookT_nil lookT_hit lookT_miss

set_option maxRecDepth 100000 in
set_option maxHeartbeats 16000000 in
theorem iTabPut (a : ATable) (row : T) (tc kc : List Value) (w : World) (ht : RTable.rd False w (Old w) a tc) (hk : Rec.term.rd False w (Old w) row kc) (hw : RTable.wt a ≤ 1048576) (hkw : Rec.term.wt row ≤ 1048576) :
    Calls Try.prog 32 #[.agg tc.toArray, .agg kc.toArray] w (RetT w (putR a row)) := by
  obtain ⟨ty, rows⟩ := a
  have hw2 : Rec.int.wt ty + Rec.term.sl.wt rows ≤ 1048576 := hw
  have WT : Aside (Rec.term.sl.wt rows ≤ 1048576) := ⟨by omega⟩
  have HT := Aside.mk ht
  obtain ⟨_, _, _, _, rfl, p0, q0, i0, j0, -⟩ := ht
  have h1 := Rec.term.sl.mono q0 (fun b h => j0 b h)
  obtain rfl := p0
  obtain ⟨A, c1, rfl, hcap, hsl⟩ := h1
  obtain ⟨z0, z1, z2, z3a, z3b, z3c, rfl⟩ := shapeTerm hk
  have HS := Aside.mk hsl
  have HK := Aside.mk hk
  have HWT := Aside.mk hw
  obtain ⟨res, hres⟩ : ∃ r, r = putR (ty, rows) row := ⟨_, rfl⟩
  show Calls Try.prog 32 #[.agg #[.int .i64 ty, .slice A rows.length c1], .agg #[.int .i64 z0, .int .i64 z1, .string z2, .slice z3a z3b z3c]] w (RetT w (putR (ty, rows) row))
  rw [← hres]
  have HV := Aside.mk hres
  obtain ⟨n, hln⟩ : ∃ n, n = rows.length := ⟨_, rfl⟩
  have HN := Aside.mk hln
  rw [← hln] at hcap ⊢
  have HSL : Aside (Rec.term.sl.rd False w (Old w) rows [.slice A n c1]) := ⟨⟨A, c1, by rw [HN.out], by rw [← HN.out]; exact hcap, hsl⟩⟩
  have HT2 : Aside (RTable.rd False w (Old w) (ty, rows) [.int .i64 ty, .slice A n c1]) := ⟨by have := HT.out; rw [← HN.out] at this; exact this⟩
  clear hsl q0 i0 j0 hw hw2 hk hres hln HT
  go_enter Try.func32, Try.ntmps32
  go_wp2_with fail
  refine (iTabOK (ty, rows) [.int .i64 ty, .slice A n c1] _ (RTable.old HT2.out (by go_grown)) HWT.out).mono ?_
  rintro e w1 ⟨rfl, hb1⟩
  have K0 := Aside.mk ((((Blk.new w 42 [.int .i64 ty, .slice A n c1]).alloc _).alloc _).below hb1)
  have K1 := Aside.mk (((Blk.made (w.alloc _) 26 [.int .i64 z0, .int .i64 z1, .string z2, .slice z3a z3b z3c] (g := w.heap.size + 1) (by simp)).alloc _).below hb1)
  have K2 := Aside.mk ((Blk.made ((w.alloc _).alloc _) 42 [.int .i64 0, .slice none 0 0] (g := w.heap.size + 1 + 1) (by simp)).below hb1)
  have B1 : Aside (Below w.heap.size w w1) := ⟨below_later (by go_grown) hb1⟩
  clear hb1
  cases hb : tabB ty rows
  · have E : Aside (res = ((0, []), 1)) := ⟨by rw [HV.out, putR, hb]; rfl⟩
    clear HV hb
    have r0 := K2.out.cell 0
    have r1 := K2.out.cell 1
    have f0 := K2.out.free 0
    have f1 := K2.out.free 1
    simp only [List.getElem?_cons_zero, List.getElem?_cons_succ] at r0 r1
    have bel := B1.out
    go_wp2_with fail
    refine bodyPost_ret (res_ct rfl _ _ (w.heap.size + 1 + 1) 42 [.int .i64 0, .slice none 0 0] _ rfl ?k_1 Try.underlying42 rfl (by kernel_rfl)) rfl ⟨_, by rw [E.out]; rfl, ?r_1, ?b_1⟩
    case k_1 => exact (K2.out.set 0 _).set 1 _
    case r_1 => rw [E.out]; exact table_rd (nil_rd _ _ _ _)
    case b_1 => go_grown
  have HB := Aside.mk hb
  have E1 : Aside (res = if rowB row then (if 500 < (putI ty rows row).length then ((0, []), 3) else ((ty, putI ty rows row), 0)) else ((0, []), 1)) := ⟨by rw [HV.out, putR, hb]; rfl⟩
  clear HV hb
  have y0 : w1.cell? ⟨w.heap.size, 0, none⟩ = some (.int .i64 ty) := K0.out.cell 0
  have y1 : w1.cell? ⟨w.heap.size, 1, none⟩ = some (.slice A n c1) := K0.out.cell 1
  have x0 : w1.cell? ⟨w.heap.size + 1, 0, none⟩ = some (.int .i64 z0) := K1.out.cell 0
  have x1 : w1.cell? ⟨w.heap.size + 1, 1, none⟩ = some (.int .i64 z1) := K1.out.cell 1
  have x2 : w1.cell? ⟨w.heap.size + 1, 2, none⟩ = some (.string z2) := K1.out.cell 2
  have x3 : w1.cell? ⟨w.heap.size + 1, 3, none⟩ = some (.slice z3a z3b z3c) := K1.out.cell 3
  go_wp2_with fail
  refine (rowOK row [.int .i64 z0, .int .i64 z1, .string z2, .slice z3a z3b z3c] _ (Rec.term.old HK.out B1.out) hkw).mono ?_
  rintro e w2 ⟨rfl, hb2⟩
  clear y0 y1 x0 x1 x2 x3
  have K02 := Aside.mk (K0.out.below hb2)
  have K12 := Aside.mk (K1.out.below hb2)
  have K22 := Aside.mk (K2.out.below hb2)
  have B2 := Aside.mk (below_later B1.out hb2)
  clear K0 K1 K2 B1 hb2
  cases hb : rowB row
  · have E : Aside (res = ((0, []), 1)) := ⟨by rw [E1.out, hb]; rfl⟩
    clear E1 hb
    have r0 := K22.out.cell 0
    have r1 := K22.out.cell 1
    have f0 := K22.out.free 0
    have f1 := K22.out.free 1
    simp only [List.getElem?_cons_zero, List.getElem?_cons_succ] at r0 r1
    have bel := B2.out
    go_wp2_with fail
    refine bodyPost_ret (res_ct rfl _ _ (w.heap.size + 1 + 1) 42 [.int .i64 0, .slice none 0 0] _ rfl ?k_2 Try.underlying42 rfl (by kernel_rfl)) rfl ⟨_, by rw [E.out]; rfl, ?r_2, ?b_2⟩
    case k_2 => exact (K22.out.set 0 _).set 1 _
    case r_2 => rw [E.out]; exact table_rd (nil_rd _ _ _ _)
    case b_2 => go_grown
  have HRB := Aside.mk hb
  have E2 : Aside (res = if 500 < (putI ty rows row).length then ((0, []), 3) else ((ty, putI ty rows row), 0)) := ⟨by rw [E1.out, hb]; rfl⟩
  clear E1 hb
  have kx := (rowB_parts HRB.out).2.2
  obtain ⟨cap, bk, ok, c0, c1', c2, ca, cl, cc, ecs, hbk, g0, g1, g2, g3, hkr2⟩ := key_of HK.out kx
  simp only [List.cons.injEq, Value.slice.injEq, Value.int.injEq, Value.string.injEq, and_true, true_and] at ecs
  obtain ⟨rfl, rfl, rfl, rfl, rfl, rfl⟩ := ecs
  have HKR2 := Aside.mk hkr2
  have hKW := keyT_wt kx hkw
  have HKRT := Aside.mk (key_right HRB.out)
  have y0 : w2.cell? ⟨w.heap.size, 0, none⟩ = some (.int .i64 ty) := K02.out.cell 0
  have y1 : w2.cell? ⟨w.heap.size, 1, none⟩ = some (.slice A n c1) := K02.out.cell 1
  have x3 : w2.cell? ⟨w.heap.size + 1, 3, none⟩ = some (.slice (some ⟨bk, ok, none⟩) row.kids.length z3c) := K12.out.cell 3
  have l0 : w.heap.size < w2.heap.size := K02.out.lt
  have l1 : w.heap.size + 1 < w2.heap.size := K12.out.lt
  have lk : bk < w2.heap.size := Nat.lt_of_lt_of_le hbk B2.out.size
  replace g0 := (B2.out.cell (p := ⟨bk, ok, none⟩) hbk).trans g0
  replace g1 := (B2.out.cell (p := ⟨bk, ok + 1, none⟩) hbk).trans g1
  replace g2 := (B2.out.cell (p := ⟨bk, ok + 2, none⟩) hbk).trans g2
  replace g3 := (B2.out.cell (p := ⟨bk, ok + 3, none⟩) hbk).trans g3
  have kp : (0 : Int) < row.kids.length := by omega
  clear hkr2 hbk
  obtain ⟨f, hf⟩ : ∃ f, f = fromK (keyT row) rows := ⟨_, rfl⟩
  obtain ⟨s, hs⟩ : ∃ s, s = sames (keyT row) (rows.drop f) := ⟨_, rfl⟩
  have HF := Aside.mk hf
  have HSM := Aside.mk hs
  have hfs : f + s ≤ n := by rw [HN.out, hs, hf]; exact fromK_same_le (keyT row) rows
  clear hf hs
  go_wp2_with fail
  refine region_env [(0, true), (1, true), (2, true), (3, true), (4, true), (5, false), (6, true), (7, true), (8, true), (9, true), (10, true)] (fun w' => Below w2.heap.size w2 w') 78 rfl (by kernel_rfl) (by kernel_rfl) (fun _ _ d _ _ h => by cases d <;> exact h) ((Below.refl _ _).drew) (fun ops fr HFR HSZ hl => ?_)
  have hl_0 := ops_start hl
  clear hl
  obtain ⟨H0, hl_1⟩ := ops_next 0 1 rfl hl_0
  clear hl_0
  obtain ⟨H1, hl_2⟩ := ops_next 1 2 rfl hl_1
  clear hl_1
  obtain ⟨H2, hl_3⟩ := ops_next 2 3 rfl hl_2
  clear hl_2
  obtain ⟨H3, hl_4⟩ := ops_next 3 4 rfl hl_3
  clear hl_3
  obtain ⟨H4, hl_5⟩ := ops_next 4 5 rfl hl_4
  clear hl_4
  obtain ⟨H5, hl_6⟩ := ops_next 5 6 rfl hl_5
  clear hl_5
  obtain ⟨H6, hl_7⟩ := ops_next 6 7 rfl hl_6
  clear hl_6
  obtain ⟨H7, hl_8⟩ := ops_next 7 8 rfl hl_7
  clear hl_7
  obtain ⟨H8, hl_9⟩ := ops_next 8 9 rfl hl_8
  clear hl_8
  obtain ⟨H9, hl_10⟩ := ops_next 9 10 rfl hl_9
  clear hl_9
  obtain ⟨H10, hl_11⟩ := ops_next 10 11 rfl hl_10
  clear hl_10
  clear hl_11
  have x_2 : ext fr 2 = _ := congrArg (fun a => Act.eval a (.tmp 2)) HFR.out
  conv at x_2 => rhs; simp only [Act.eval, Array.getD_eq_getD_getElem?, List.getElem?_toArray, List.getElem?_cons_succ, List.getElem?_cons_zero, Option.getD_some]
  have x_3 : ext fr 3 = _ := congrArg (fun a => Act.eval a (.tmp 3)) HFR.out
  conv at x_3 => rhs; simp only [Act.eval, Array.getD_eq_getD_getElem?, List.getElem?_toArray, List.getElem?_cons_succ, List.getElem?_cons_zero, Option.getD_some]
  refine env_yes HSZ H0.out ?_ (fun w' hS => ?_) ?_
  rotate_left
  (have h0 := (hS.cell (p := ⟨w.heap.size, 0, none⟩) l0).trans y0
   have h1 := (hS.cell (p := ⟨w.heap.size, 1, none⟩) l0).trans y1
   go_simp
   rfl)
  refine env_yes HSZ H1.out ?_ (fun w' hS => ?_) ?_
  rotate_left
  (go_simp
   rfl)
  refine env_yes HSZ H2.out ?_ (fun w' hS => ?_) ?_
  rotate_left
  (have h := (hS.cell (p := ⟨w.heap.size + 1, 3, none⟩) l1).trans x3
   go_simp
   rfl)
  refine env_yes HSZ H3.out ?_ (fun w' hS => ?_) ?_
  rotate_left
  (go_simp
   rfl)
  refine env_yes HSZ H4.out ?_ (fun w' hS => ?_) ?_
  rotate_left
  (have h0 := (hS.cell (p := ⟨bk, ok, none⟩) lk).trans g0
   have h1 := (hS.cell (p := ⟨bk, ok + 1, none⟩) lk).trans g1
   have h2 := (hS.cell (p := ⟨bk, ok + 2, none⟩) lk).trans g2
   have h3 := (hS.cell (p := ⟨bk, ok + 3, none⟩) lk).trans g3
   go_simp
   rfl)
  refine env_call HSZ H5.out ?_ ?_ ?_ ?_
  rotate_left 2
  (go_simp
   first | rfl | (constructor <;> rfl))
  refine (span ty rows (keyT row) [.int .i64 ty, .slice A n c1] [.int .i64 c0, .int .i64 c1', .string c2, .slice ca cl cc] _ (RTable.old HT2.out B2.out.drew) (Rec.term.old HKR2.out B2.out.drew) HWT.out hKW HB.out HKRT.out).mono ?_
  rintro e w3 ⟨rfl, hb3⟩
  rw [← HF.out, ← HSM.out]
  have HB23 : Aside (Below w2.heap.size w2 w3) := ⟨⟨hb3.os, hb3.tape, hb3.output, hb3.size, hb3.block⟩⟩
  clear hb3
  refine ⟨_, rfl, HB23.out, ?_⟩
  refine env_yes HSZ H6.out ?_ (fun w' hS => ?_) ?_
  rotate_left
  (go_simp
   rfl)
  refine env_yes HSZ H7.out ?_ (fun w' hS => ?_) ?_
  rotate_left
  (go_simp
   rfl)
  refine env_yes HSZ H8.out ?_ (fun w' hS => ?_) ?_
  rotate_left
  (go_simp
   rfl)
  refine env_yes HSZ H9.out ?_ (fun w' hS => ?_) ?_
  rotate_left
  (go_simp
   rfl)
  refine env_yes HSZ H10.out ?_ (fun w' hS => ?_) ?_
  rotate_left
  (go_simp
   rfl)
  refine env_end ?_
  have hfr := HFR.out
  clear HFR HSZ H0 H1 H2 H3 H4 H5 H6 H7 H8 H9 H10 x_2 x_3
  subst hfr
  simp only [putAll, Act.put, List.setIfInBounds_toArray, List.set_cons_succ, List.set_cons_zero]
  have K03 := Aside.mk (K02.out.below HB23.out)
  have K13 := Aside.mk (K12.out.below HB23.out)
  have K23 := Aside.mk (K22.out.below HB23.out)
  have B3 := Aside.mk (below_later B2.out HB23.out)
  clear K02 K12 K22 B2 HB23 y0 y1 x3 g0 g1 g2 g3 l0 l1 lk kp
  obtain ⟨t, hft⟩ : ∃ t, t = f + s := ⟨_, rfl⟩
  rw [show ((f : Int) + (s : Int)) = (t : Int) from by omega]
  have HFT := Aside.mk hft
  rw [← hft] at hfs
  have hft2 : f ≤ t := by omega
  clear hft
  have y0 : w3.cell? ⟨w.heap.size, 0, none⟩ = some (.int .i64 ty) := K03.out.cell 0
  have y1 : w3.cell? ⟨w.heap.size, 1, none⟩ = some (.slice A n c1) := K03.out.cell 1
  have l0 : w.heap.size < w3.heap.size := K03.out.lt
  have hn1 : n ≤ 500 := by rw [HN.out]; exact (tab_rows HB.out).2
  have HWR : Aside (Rec.term.sl.wt rows ≤ 1073741824) := ⟨by have := WT.out; omega⟩
  go_wp2_with fail
  refine region_join (.yes 0 (.yes 1 (.yes 2 (.yes 3 (.fork 4 6 (.yes 5 (.eff 6 (.eff 7 .nil))) (.eff 4 (.yes 5 (.eff 7 .nil)))))))) (fun w' => Below w3.heap.size w3 w') 78 rfl (by kernel_rfl) (by kernel_rfl) (Below.refl _ _).drew (fun us wz => ∃ (no : Nat) (v31 : Value), us = [(8, .pointer (some ⟨no, 0, none⟩)), (32, .agg #[.int .i64 ty, v31]), (31, v31), (30, .slice A n c1), (29, .pointer (some ⟨w.heap.size, 1, none⟩)), (28, .int .i64 ty), (27, .pointer (some ⟨w.heap.size, 0, none⟩))] ∧ Aside (Blk wz no 42 [.int .i64 ty, v31]) ∧ Aside (Below w3.heap.size w3 wz) ∧ w3.heap.size ≤ no ∧ Aside (RowsAt w3.heap.size no wz.heap.size wz rows v31)) (fun ops fr HFR HSZ hl => ?_) (fun us wz hR => ?_)
  · have hl_0 := ops_start hl
    clear hl
    obtain ⟨H0, hl_1⟩ := ops_next 0 1 rfl hl_0
    clear hl_0
    obtain ⟨H1, hl_2⟩ := ops_next 1 2 rfl hl_1
    clear hl_1
    obtain ⟨H2, hl_3⟩ := ops_next 2 3 rfl hl_2
    clear hl_2
    obtain ⟨H3, hl_4⟩ := ops_next 3 4 rfl hl_3
    clear hl_3
    obtain ⟨H4, hl_5⟩ := ops_next 4 5 rfl hl_4
    clear hl_4
    obtain ⟨H5, hl_6⟩ := ops_next 5 6 rfl hl_5
    clear hl_5
    obtain ⟨H6, hl_7⟩ := ops_next 6 7 rfl hl_6
    clear hl_6
    obtain ⟨H7, hl_8⟩ := ops_next 7 8 rfl hl_7
    clear hl_7
    clear hl_8
    have x_2 : ext fr 2 = _ := congrArg (fun a => Act.eval a (.tmp 2)) HFR.out
    conv at x_2 => rhs; simp only [Act.eval, Array.getD_eq_getD_getElem?, List.getElem?_toArray, List.getElem?_cons_succ, List.getElem?_cons_zero, Option.getD_some]
    refine tenv_yes HSZ H0.out ?_ (fun w' hS => ?_) ?_
    rotate_left
    (go_simp
     rfl)
    refine tenv_yes HSZ H1.out ?_ (fun w' hS => ?_) ?_
    rotate_left
    (have h := (hS.cell (p := ⟨w.heap.size, 0, none⟩) l0).trans y0
     go_simp
     rfl)
    refine tenv_yes HSZ H2.out ?_ (fun w' hS => ?_) ?_
    rotate_left
    (go_simp
     rfl)
    refine tenv_yes HSZ H3.out ?_ (fun w' hS => ?_) ?_
    rotate_left
    (have h := (hS.cell (p := ⟨w.heap.size, 1, none⟩) l0).trans y1
     go_simp
     rfl)
    refine And.intro ?_ ?_
    · skip
      refine top_call HSZ H4.out ?_ ?_ ?_ ?_
      rotate_left 2
      (go_simp
       first | rfl | (constructor <;> rfl))
      refine (copyTermsC rows _ w3.drew HWR.out (Rec.term.sl.old HSL.out (below_later B3.out (Below.refl _ _).drew))).mono ?_
      rintro e wd1 ⟨hb, hcase⟩
      obtain ⟨v, rfl, hv⟩ : ∃ v, e = .returned v ∧ ((rows = [] ∧ v = .slice none 0 0) ∨ (0 < rows.length ∧ v = .slice (some ⟨(w3.drew).heap.size, 0, none⟩) rows.length rows.length ∧ Copied Rec.term 26 w3.drew wd1 rows rows.length rows.length)) := by
        rcases hcase with ⟨h1, rfl⟩ | ⟨h1, rfl, h3⟩
        · exact ⟨_, rfl, Or.inl ⟨h1, rfl⟩⟩
        · exact ⟨_, rfl, Or.inr ⟨h1, rfl, h3⟩⟩
      obtain ⟨Av, m, cv, rfl⟩ : ∃ Av m cv, v = .slice Av m cv := by rcases hv with ⟨-, rfl⟩ | ⟨-, rfl, -⟩ <;> exact ⟨_, _, _, rfl⟩
      clear hcase
      have hb1 : Below w3.heap.size w3 wd1 := ⟨hb.os, hb.tape, hb.output, hb.size, hb.block⟩
      refine ⟨_, rfl, hb1, ?_⟩
      refine tenv_yes HSZ H5.out ?_ (fun w' hS => ?_) ?_
      rotate_left
      (go_simp
       rfl)
      obtain ⟨no, hno⟩ : ∃ g, g = wd1.heap.size := ⟨_, rfl⟩
      obtain ⟨wd2, hwd2⟩ : ∃ x, x = wd1.alloc (.cells #[.int .i64 0, .slice none 0 0] 42) := ⟨_, rfl⟩
      have HNO : w3.heap.size ≤ no := by rw [hno]; exact hb1.size
      have hb2 : Below w3.heap.size w3 wd2 := by rw [hwd2]; exact hb1.alloc hb1.size _
      have kb : Blk wd2 no 42 [.int .i64 0, .slice none 0 0] := by rw [hwd2, hno]; exact Blk.new wd1 42 [.int .i64 0, .slice none 0 0]
      have hold : ∀ b, b < wd1.heap.size → wd2.heap[b]? = wd1.heap[b]? := fun b hb => by rw [hwd2]; exact Below.heap_alloc wd1 _ b hb
      have hsz2 : wd1.heap.size ≤ wd2.heap.size := by rw [hwd2]; simp
      refine top_run HSZ H6.out (.pointer (some ⟨no, 0, none⟩)) wd2 ?_ ?_ ?_
      (rw [hwd2, hno]; go_simp; try rfl)
      exact hb2
      have hno2 : wd1.heap.size ≤ no := by omega
      clear hwd2 hno
      have q0 := kb.cell 0
      have q1 := kb.cell 1
      have p0 := kb.free 0
      have p1 := kb.free 1
      simp only [List.getElem?_cons_zero, List.getElem?_cons_succ] at q0 q1
      obtain ⟨we, hwe⟩ : ∃ x, x = (wd2.setCell ⟨no, 0, none⟩ (.int .i64 ty)).setCell ⟨no, 1, none⟩ (.slice Av m cv) := ⟨_, rfl⟩
      have hbe : Below w3.heap.size w3 we := by rw [hwe]; exact ((hb2).setCell HNO _).setCell HNO _
      refine top_store HSZ H7.out we ?_ ?_ ?_
      (rw [hwe]; go_simp; try rfl)
      exact hbe
      refine tree_end ⟨rfl, [(8, .pointer (some ⟨no, 0, none⟩)), (32, .agg #[.int .i64 ty, (.slice Av m cv)]), (31, (.slice Av m cv)), (30, .slice A n c1), (29, .pointer (some ⟨w.heap.size, 1, none⟩)), (28, .int .i64 ty), (27, .pointer (some ⟨w.heap.size, 0, none⟩))], ?_, no, .slice Av m cv, rfl, ⟨?_⟩, ⟨hbe⟩, HNO, ⟨?_⟩⟩
      · obtain rfl := HFR.out
        simp only [putAll, Act.put, List.setIfInBounds_toArray, List.set_cons_succ, List.set_cons_zero]
      · rw [hwe]; exact (kb.set 0 _).set 1 _
      · exact RowsAt.of hv (Nat.le_refl _) (Or.inr (by omega)) (by rw [hwe]; simpa using hsz2) (fun b hb hn => by rw [hwe, heap_far hn, heap_far hn]; exact hold b hb)
    · skip
      obtain ⟨no, hno⟩ : ∃ g, g = w3.heap.size := ⟨_, rfl⟩
      obtain ⟨wd1, hwd1⟩ : ∃ x, x = w3.drew.alloc (.cells #[.int .i64 0, .slice none 0 0] 42) := ⟨_, rfl⟩
      have HNO : w3.heap.size ≤ no := by rw [hno]; exact Nat.le_refl _
      have hb1 : Below w3.heap.size w3 wd1 := by rw [hwd1]; exact (Below.refl _ _).drew.alloc (Nat.le_refl _) _
      have kb : Blk wd1 no 42 [.int .i64 0, .slice none 0 0] := by rw [hwd1, hno]; exact Blk.made w3.drew 42 [.int .i64 0, .slice none 0 0] rfl
      refine top_run HSZ H6.out (.pointer (some ⟨no, 0, none⟩)) wd1 ?_ ?_ ?_
      (rw [hwd1, hno]; go_simp; try rfl)
      exact hb1
      clear hwd1 hno
      refine top_call HSZ H4.out ?_ ?_ ?_ ?_
      rotate_left 2
      (go_simp
       first | rfl | (constructor <;> rfl))
      refine (copyTermsC rows _ wd1 HWR.out (Rec.term.sl.old HSL.out (below_later B3.out hb1))).mono ?_
      rintro e wd2 ⟨hb, hcase⟩
      obtain ⟨v, rfl, hv⟩ : ∃ v, e = .returned v ∧ ((rows = [] ∧ v = .slice none 0 0) ∨ (0 < rows.length ∧ v = .slice (some ⟨(wd1).heap.size, 0, none⟩) rows.length rows.length ∧ Copied Rec.term 26 wd1 wd2 rows rows.length rows.length)) := by
        rcases hcase with ⟨h1, rfl⟩ | ⟨h1, rfl, h3⟩
        · exact ⟨_, rfl, Or.inl ⟨h1, rfl⟩⟩
        · exact ⟨_, rfl, Or.inr ⟨h1, rfl, h3⟩⟩
      obtain ⟨Av, m, cv, rfl⟩ : ∃ Av m cv, v = .slice Av m cv := by rcases hv with ⟨-, rfl⟩ | ⟨-, rfl, -⟩ <;> exact ⟨_, _, _, rfl⟩
      clear hcase
      have hb2 : Below w3.heap.size w3 wd2 := below_later hb1 hb
      have kb2 := kb.below hb
      refine ⟨_, rfl, hb2, ?_⟩
      refine tenv_yes HSZ H5.out ?_ (fun w' hS => ?_) ?_
      rotate_left
      (go_simp
       rfl)
      have q0 := kb2.cell 0
      have q1 := kb2.cell 1
      have p0 := kb2.free 0
      have p1 := kb2.free 1
      simp only [List.getElem?_cons_zero, List.getElem?_cons_succ] at q0 q1
      obtain ⟨we, hwe⟩ : ∃ x, x = (wd2.setCell ⟨no, 0, none⟩ (.int .i64 ty)).setCell ⟨no, 1, none⟩ (.slice Av m cv) := ⟨_, rfl⟩
      have hbe : Below w3.heap.size w3 we := by rw [hwe]; exact ((hb2).setCell HNO _).setCell HNO _
      refine top_store HSZ H7.out we ?_ ?_ ?_
      (rw [hwe]; go_simp; try rfl)
      exact hbe
      refine tree_end ⟨rfl, [(8, .pointer (some ⟨no, 0, none⟩)), (32, .agg #[.int .i64 ty, (.slice Av m cv)]), (31, (.slice Av m cv)), (30, .slice A n c1), (29, .pointer (some ⟨w.heap.size, 1, none⟩)), (28, .int .i64 ty), (27, .pointer (some ⟨w.heap.size, 0, none⟩))], ?_, no, .slice Av m cv, rfl, ⟨?_⟩, ⟨hbe⟩, HNO, ⟨?_⟩⟩
      · obtain rfl := HFR.out
        simp only [putAll, Act.put, List.setIfInBounds_toArray, List.set_cons_succ, List.set_cons_zero]
      · rw [hwe]; exact (kb2.set 0 _).set 1 _
      · exact RowsAt.of hv hb1.size (Or.inl kb.lt) (by rw [hwe]; simp) (fun b hb hn => by rw [hwe, heap_far hn, heap_far hn])
  obtain ⟨no, v31, rfl, F1, F2, hno, F3⟩ := hR
  obtain ⟨w4, hw4⟩ : ∃ x, x = wz := ⟨_, rfl⟩
  rw [← hw4] at F1 F2 F3 ⊢
  clear hw4 wz
  simp only [putAll, Act.put, List.setIfInBounds_toArray, List.set_cons_succ, List.set_cons_zero]
  have K04 := Aside.mk (K03.out.below F2.out)
  have K14 := Aside.mk (K13.out.below F2.out)
  have K24 := Aside.mk (K23.out.below F2.out)
  have B4 := Aside.mk (below_later B3.out F2.out)
  obtain ⟨lo, hlo⟩ : ∃ lo, lo = w3.heap.size := ⟨_, rfl⟩
  have hlw : w.heap.size + 3 ≤ lo := by have := K23.out.lt; omega
  rw [← hlo] at hno F3
  have hlo4 : lo ≤ w4.heap.size := by rw [hlo]; exact F2.out.size
  clear K03 K13 K23 B3 y0 y1 l0 hlo F2
  have x0 := K14.out.cell 0
  have x1 := K14.out.cell 1
  have x2 := K14.out.cell 2
  have x3 := K14.out.cell 3
  simp only [List.getElem?_cons_zero, List.getElem?_cons_succ] at x0 x1 x2 x3
  go_wp2_with fail
  refine (copyTerm row [.int .i64 row.kind, .int .i64 row.num, .string row.str, .slice (some ⟨bk, ok, none⟩) row.kids.length z3c] _ (Rec.term.old HK.out B4.out) (by omega)).mono ?_
  rintro e w5 ⟨cs2, rfl, hr5, hb5⟩
  obtain ⟨v0, v1, v2, v3a, v3b, v3c, rfl⟩ := shapeTerm hr5
  have K05 := Aside.mk (K04.out.below hb5)
  have K15 := Aside.mk (K14.out.below hb5)
  have K25 := Aside.mk (K24.out.below hb5)
  have KO5 := Aside.mk (F1.out.below hb5)
  have RA5 := Aside.mk (F3.out.keep hb5.size (fun b _ h2 _ => hb5.block b h2))
  have B5 := Aside.mk (below_later B4.out hb5)
  have RR5 := Aside.mk hr5
  have hs5 : w4.heap.size ≤ w5.heap.size := hb5.size
  have hno4 : no < w4.heap.size := F1.out.lt
  clear K04 K14 K24 B4 F1 F3 x0 x1 x2 x3 hr5 hb5
  go_wp2_with (refine wpList_store_blk rfl 26 _ _ rfl (w.heap.size + 1) [.int .i64 v0, .int .i64 v1, .string v2, .slice v3a v3b v3c] rfl rfl 26 [.int .i64 row.kind, .int .i64 row.num, .string row.str, .slice (some ⟨bk, ok, none⟩) row.kids.length z3c] K15.out (by kernel_rfl) rfl rfl ?_; intro w6 k6 hg6; have K16 := Aside.mk k6; have G6 := Aside.mk hg6; clear k6 hg6; refine Aside.out ?_)
  have K06 : Aside (Blk w6 w.heap.size 42 [.int .i64 ty, .slice A n c1]) := ⟨K05.out.grown G6.out (by intro e; injection e with e; omega)⟩
  have K26 : Aside (Blk w6 (w.heap.size + 1 + 1) 42 [.int .i64 0, .slice none 0 0]) := ⟨K25.out.grown G6.out (by intro e; injection e with e; omega)⟩
  have KO6 : Aside (Blk w6 no 42 [.int .i64 ty, v31]) := ⟨KO5.out.grown G6.out (by intro e; injection e with e; omega)⟩
  have RA6 := Aside.mk (RA5.out.keep G6.out.size (fun b h1 h2 h3 => G6.out.block b h2 (by intro e; injection e with e; omega)))
  have B6 := Aside.mk (below_grown B5.out G6.out (by omega))
  have RR6 : Aside (Rec.term.rd True w6 (Span w4.heap.size w5.heap.size) row [.int .i64 v0, .int .i64 v1, .string v2, .slice v3a v3b v3c]) := ⟨Rec.term.frame RR5.out (fun b hb => G6.out.block b hb.2 (by intro e; injection e with e; have := hb.1; omega)) (fun _ h => h)⟩
  have hs6 : w5.heap.size ≤ w6.heap.size := G6.out.size
  clear K05 K15 K25 KO5 RA5 B5 RR5 G6
  refine Aside.mk ?_
  have y0 := K06.out.cell 0
  have y1 := K06.out.cell 1
  have x0 := K16.out.cell 0
  have x1 := K16.out.cell 1
  have x2 := K16.out.cell 2
  have x3 := K16.out.cell 3
  have o0 := KO6.out.cell 0
  have o1 := KO6.out.cell 1
  have r0 := K26.out.cell 0
  have r1 := K26.out.cell 1
  have f0 := K26.out.free 0
  have f1 := K26.out.free 1
  simp only [List.getElem?_cons_zero, List.getElem?_cons_succ] at y0 y1 x0 x1 x2 x3 o0 o1 r0 r1
  by_cases ha : ty = 1 ∧ f < t
  · obtain ⟨rfl, hlt⟩ := ha
    have hlti : (f : Int) < (t : Int) := by omega
    have hput : putI 1 rows row = rows.set f row := by
      unfold putI
      rw [← HF.out, ← HSM.out, if_pos ⟨rfl, by have := HFT.out; omega⟩]
    have E : Aside (res = ((1, rows.set f row), 0)) := ⟨by rw [E2.out, hput, if_neg (by rw [List.length_set, ← HN.out]; omega)]⟩
    rcases RA6.out with ⟨h0, -⟩ | ⟨top, g, cs, ff, hpos, rfl, hm, htop⟩
    · exfalso
      have := HN.out
      rw [h0] at this
      have h3 : n = 0 := this
      omega
    rw [← HN.out] at o1
    obtain ⟨m1, m2, ⟨m3a, m3b, m3c⟩, m5, m6, m7, m8⟩ := hm
    have hfn : f < n := by omega
    have hfni : (f : Int) < n := by omega
    have hcl : cs.length = n * 4 := by rw [m2, HN.out]; rfl
    obtain ⟨e0_, c0_⟩ : ∃ e, w6.cell? ⟨g, f * 4, none⟩ = some e := ⟨_, (m1.cell (f * 4)).trans (List.getElem?_eq_getElem (by omega))⟩
    obtain ⟨e1_, c1_⟩ : ∃ e, w6.cell? ⟨g, f * 4 + 1, none⟩ = some e := ⟨_, (m1.cell (f * 4 + 1)).trans (List.getElem?_eq_getElem (by omega))⟩
    obtain ⟨e2_, c2_⟩ : ∃ e, w6.cell? ⟨g, f * 4 + 2, none⟩ = some e := ⟨_, (m1.cell (f * 4 + 2)).trans (List.getElem?_eq_getElem (by omega))⟩
    obtain ⟨e3_, c3_⟩ : ∃ e, w6.cell? ⟨g, f * 4 + 3, none⟩ = some e := ⟨_, (m1.cell (f * 4 + 3)).trans (List.getElem?_eq_getElem (by omega))⟩
    have d0_ := m1.free (f * 4)
    have d1_ := m1.free (f * 4 + 1)
    have d2_ := m1.free (f * 4 + 2)
    have d3_ := m1.free (f * 4 + 3)
    have HM1 := Aside.mk m1
    have HM2 := Aside.mk m2
    have HM5 := Aside.mk m5
    have HM6 := Aside.mk m6
    have HM7 := Aside.mk m7
    have hwg : w.heap.size ≤ g := by omega
    have hgn : no ≠ g := fun e => m3c e.symm
    have hg2 : ¬ w.heap.size + 1 + 1 = g := by omega
    have p0 := (((KO6.out.far (p := ⟨g, f * 4, none⟩) hgn (.int .i64 v0)).far (p := ⟨g, f * 4 + 1, none⟩) hgn (.int .i64 v1)).far (p := ⟨g, f * 4 + 2, none⟩) hgn (.string v2)).far (p := ⟨g, f * 4 + 3, none⟩) hgn (.slice v3a v3b v3c)
    have q0 := (((K26.out.far (p := ⟨g, f * 4, none⟩) hg2 (.int .i64 v0)).far (p := ⟨g, f * 4 + 1, none⟩) hg2 (.int .i64 v1)).far (p := ⟨g, f * 4 + 2, none⟩) hg2 (.string v2)).far (p := ⟨g, f * 4 + 3, none⟩) hg2 (.slice v3a v3b v3c)
    rw [← HN.out] at p0
    have HP0 := Aside.mk p0
    have HQ0 := Aside.mk q0
    have s0 := p0.cell 0
    have s1 := p0.cell 1
    have t0 := q0.cell 0
    have t1 := q0.cell 1
    have u0 := q0.free 0
    have u1 := q0.free 1
    simp only [List.getElem?_cons_zero, List.getElem?_cons_succ] at s0 s1 t0 t1
    clear m1 m2 m5 m6 m7 p0 q0
    go_wp2_with fail
    refine bodyPost_ret (res_ct rfl _ _ (w.heap.size + 1 + 1) 42 [.int .i64 1, .slice (some ⟨g, 0, none⟩) n n] _ rfl ?k_3 Try.underlying42 rfl (by kernel_rfl)) rfl ⟨_, by rw [E.out]; rfl, ?r_3, ?b_3⟩
    case k_3 => exact (HQ0.out.set 0 _).set 1 _
    case r_3 =>
      rw [E.out]
      refine table_rd ?_
      have hsp := setCells_spl (vs := [.int .i64 v0, .int .i64 v1, .string v2, .slice v3a v3b v3c]) (o := f * 4) HM1.out (by simp; omega)
      have hk9 := (hsp.far (p := ⟨w.heap.size + 1 + 1, 0, none⟩) (fun e => hg2 e.symm) (.int .i64 1)).far (p := ⟨w.heap.size + 1 + 1, 1, none⟩) (fun e => hg2 e.symm) (.slice (some ⟨g, 0, none⟩) n n)
      have hrr := replace_rd (R := Rec.term) (E := 26) (lo0 := lo) (top := top) (t := f) HM2.out m8 (fun j c hc => by have := HM5.out j c hc; exact ⟨this.1, this.2.1, this.2.2.1⟩) HM6.out HM7.out RR6.out htop hs6 (fun b h1 h2 h3 => by
        rw [heap_far (show b ≠ w.heap.size + 1 + 1 by omega), heap_far (show b ≠ w.heap.size + 1 + 1 by omega)]
        exact setCells_heap _ _ _ _ h3) m3a m3b (by rw [← HN.out]; exact hfn) hk9 (by simp [setCells, World.setCell])
      rw [← HN.out] at hrr
      exact Rec.term.sl.mono hrr (fun b hb => ⟨by have := hb.1; omega, hb.2⟩)
    case b_3 =>
      have bel := B6.out
      go_grown
  by_cases h1 : ty = 1
  · subst h1
    obtain rfl : t = f := by have := HFT.out; by_cases h : f < t; exact absurd ⟨rfl, h⟩ ha; omega
    have HPUT : Aside (putI 1 rows row = rows.take t ++ row :: rows.drop t) := ⟨by
      have h0 : s = 0 := by have := HFT.out; omega
      unfold putI
      rw [← HF.out, ← HSM.out, h0, if_neg (by omega), if_neg (by omega), Nat.add_zero]⟩
    clear ha
    rcases Nat.lt_or_ge n 500 with h5 | h5
    · have hnb : ((n : Int) == 500) = false := by simp; omega
      have E : Aside (res = ((1, rows.take t ++ row :: rows.drop t), 0)) := ⟨by rw [E2.out, HPUT.out, if_neg (by have := HN.out; rw [List.length_append, List.length_cons, List.length_take, List.length_drop]; omega)]⟩
      have hB7 : Below w6.heap.size w6 (w6.alloc (.cells #[.int .i64 v0, .int .i64 v1, .string v2, .slice v3a v3b v3c] 26)) := (Below.refl _ _).alloc (Nat.le_refl _) _
      obtain ⟨A7, m7, c7, e7⟩ := RA6.out.shape
      subst e7
      have KV7 := Aside.mk (Blk.new w6 26 [.int .i64 v0, .int .i64 v1, .string v2, .slice v3a v3b v3c])
      have RA7 := Aside.mk (RA6.out.keep hB7.size (fun b _ h2 _ => hB7.block b h2))
      have RR7 : Aside (Rec.term.rd True (w6.alloc (.cells #[.int .i64 v0, .int .i64 v1, .string v2, .slice v3a v3b v3c] 26)) (Span w4.heap.size w5.heap.size) row [.int .i64 v0, .int .i64 v1, .string v2, .slice v3a v3b v3c]) := ⟨Rec.term.frame RR6.out (fun b hb => hB7.block b (by have := hb.2; omega)) (fun _ h => h)⟩
      have HB7 := Aside.mk hB7
      have hz7 : w5.heap.size ≤ (w6.alloc (.cells #[.int .i64 v0, .int .i64 v1, .string v2, .slice v3a v3b v3c] 26)).heap.size := Nat.le_trans (by omega) hB7.size
      have HZ7 := Aside.mk hz7
      clear hB7 hz7
      go_wp2_with fail
      refine (insertRows n t w6.heap.size HN.out hfs (by omega) RA7.out KV7.out RR7.out (Nat.le_refl _) HZ7.out hlo4 (Nat.le_trans (by omega) HZ7.out) hno4 (Nat.lt_of_lt_of_le (by omega) HZ7.out)).mono ?_
      rintro e w8 ⟨g2, cap, rfl, hrd, hB⟩
      have HB8 := Aside.mk (below_later HB7.out hB)
      have KO8 := Aside.mk (KO6.out.below HB8.out)
      have K28 := Aside.mk (K26.out.below HB8.out)
      have B8 := Aside.mk (below_later B6.out HB8.out)
      have HRD := Aside.mk hrd
      clear hrd hB
      have hgn : ¬ no = w.heap.size + 1 + 1 := by omega
      have KO9 := Aside.mk (KO8.out.set 1 (.slice (some ⟨g2, 0, none⟩) (n + 1) cap))
      have K29 := Aside.mk (K28.out.far (p := ⟨no, 1, none⟩) (fun e => hgn e.symm) (.slice (some ⟨g2, 0, none⟩) (n + 1) cap))
      have o8 := KO8.out.cell 1
      have p8 := KO8.out.free 1
      have s0 := KO9.out.cell 0
      have s1 := KO9.out.cell 1
      have t0 := K29.out.cell 0
      have t1 := K29.out.cell 1
      have u0 := K29.out.free 0
      have u1 := K29.out.free 1
      simp only [List.getElem?_cons_zero, List.getElem?_cons_succ, List.set_cons_succ, List.set_cons_zero] at o8 s0 s1 t0 t1
      go_wp2_with fail
      refine bodyPost_ret (res_ct rfl _ _ (w.heap.size + 1 + 1) 42 [.int .i64 1, .slice (some ⟨g2, 0, none⟩) (n + 1) cap] _ rfl ?k_4 Try.underlying42 rfl (by kernel_rfl)) rfl ⟨_, by rw [E.out]; rfl, ?r_4, ?b_4⟩
      case k_4 => exact (K29.out.set 0 _).set 1 _
      case r_4 =>
        rw [E.out]
        refine table_rd ?_
        have hsz : w8.heap.size = (((w8.setCell ⟨no, 1, none⟩ (.slice (some ⟨g2, 0, none⟩) (n + 1) cap)).setCell ⟨w.heap.size + 1 + 1, 0, none⟩ (.int .i64 1)).setCell ⟨w.heap.size + 1 + 1, 1, none⟩ (.slice (some ⟨g2, 0, none⟩) (n + 1) cap)).heap.size := by simp [World.setCell]
        refine Rec.term.sl.frame (Rec.term.sl.mono HRD.out (S' := fun b => (w.heap.size ≤ b ∧ b < w8.heap.size) ∧ w.heap.size + 1 + 1 < b ∧ b ≠ no) (fun b hb => ?_)) (fun b hb => ?_) (fun b hb => ⟨hb.1.1, by rw [← hsz]; exact hb.1.2⟩)
        · have h1 := hb.1.1; have h2 := hb.1.2; exact ⟨⟨by omega, h2⟩, by omega, hb.2⟩
        · rw [heap_far (show b ≠ w.heap.size + 1 + 1 by have := hb.2.1; omega), heap_far (show b ≠ w.heap.size + 1 + 1 by have := hb.2.1; omega), heap_far hb.2.2]
      case b_4 =>
        have bel := B8.out
        go_grown
    · obtain rfl : n = 500 := by omega
      have E : Aside (res = ((0, []), 3)) := ⟨by rw [E2.out, HPUT.out, if_pos (by have := HN.out; rw [List.length_append, List.length_cons, List.length_take, List.length_drop]; omega)]⟩
      have bel := B6.out
      go_wp2_with fail
      refine bodyPost_ret (res_ct rfl _ _ (w.heap.size + 1 + 1) 42 [.int .i64 0, .slice none 0 0] _ rfl ?k_4f Try.underlying42 rfl (by kernel_rfl)) rfl ⟨_, by rw [E.out]; rfl, ?r_4f, ?b_4f⟩
      case k_4f => exact (K26.out.set 0 _).set 1 _
      case r_4f => rw [E.out]; exact table_rd (nil_rd _ _ _ _)
      case b_4f => go_grown
  have hne1 : (ty == 1) = false := by simpa using h1
  by_cases h2 : ty = 2
  · subst h2
    have HMEM : Aside (∀ r ∈ (rows.drop f).take s, rowB r = true ∧ Rec.term.wt r ≤ 1048576) := ⟨fun r hr => by
      have hm := List.mem_of_mem_drop (List.mem_of_mem_take hr)
      obtain ⟨j, hj, rfl⟩ := List.mem_iff_getElem.1 hm
      exact ⟨(tab_rows HB.out).1 _ hm, wt_kid WT.out j hj⟩⟩
    have HSUB := Aside.mk (sl_sub (R := Rec.term) (Rec.term.sl.old HSL.out B6.out) f s (by have := HFT.out; omega))
    have hmf : ∀ (fn : Fn) (first cap : Array Value) (w : World), (Instr.makeFunc fn first cap).run Try.prog w = .ok (.func fn first cap) w := fun _ _ _ _ => rfl
    have hft3 : (f : Int) ≤ (t : Int) := by omega
    have htc : (t : Int) ≤ (c1 : Int) := by omega
    have hf0 : (0 : Int) ≤ (f : Int) := by omega
    have hts : t - f = s := by have := HFT.out; omega
    have hl500 : ((rows.drop f).take s).length ≤ 1048576 := by have := HN.out; rw [List.length_take, List.length_drop]; omega
    obtain ⟨q, hq⟩ : ∃ q, q = ((rows.drop f).take s).any (fun r => decide (T.cmp r row = 0)) := ⟨_, rfl⟩
    have HQ := Aside.mk hq
    have CP : Aside (∀ v, v = .slice (Option.map (fun x => x.add (f * 4)) A) (t - f) (c1 - f) ∨ (v = .slice A (t - f) 0 ∧ t = f) →
        Calls Try.prog 91 #[v, .func (.func 92) #[] #[.pointer (some ⟨w.heap.size + 1, 0, none⟩)]] w6 fun e w' => e = .returned (.bool q) ∧ Below w6.heap.size w6 w') := ⟨fun v hv => by
      rw [HQ.out]
      refine containsPut ((rows.drop f).take s) v _ w6 _ ?_ hl500 (putEach row [.int .i64 v0, .int .i64 v1, .string v2, .slice v3a v3b v3c] (w.heap.size + 1) w6 _ (Rec.term.up (Rec.term.mono RR6.out (fun b hb => (show b < w6.heap.size by have := hb.2; omega))) (fun _ h => h) (Below.refl _ _)) hkw (rowB_right HRB.out) K16.out HMEM.out)
      rcases hv with rfl | ⟨rfl, h⟩
      · rw [hts]; exact HSUB.out
      · rw [hts, show s = 0 by omega, List.take_zero]
        exact ⟨A, 0, rfl, Nat.le_refl _, Or.inl rfl⟩⟩
    have hq0 : t = f → q = false := fun h => by rw [hq, show s = 0 by omega, List.take_zero]; rfl
    have HQ0 := Aside.mk hq0
    have HTS := Aside.mk hts
    clear hq hq0 hts hl500
    have hs6' : w4.heap.size ≤ w6.heap.size := by omega
    cases q
    · have HPUT : Aside (putI 2 rows row = rows.take t ++ row :: rows.drop t) := ⟨by
        unfold putI
        rw [← HF.out, ← HSM.out, if_neg (fun h => absurd h.1 (by decide)), if_neg (fun h => by rw [← HQ.out] at h; exact absurd h.2 (by decide)), HFT.out]⟩
      clear ha h1
      go_wp2_with fail
      all_goals
        with_reducible refine (CP.out _ (by first | exact Or.inl rfl | exact Or.inr ⟨rfl, by omega⟩)).mono ?_
        rintro e w7 ⟨rfl, hb7⟩
        have K07 := Aside.mk (K06.out.below hb7)
        have K17 := Aside.mk (K16.out.below hb7)
        have K27 := Aside.mk (K26.out.below hb7)
        have KO7 := Aside.mk (KO6.out.below hb7)
        have RA7_ := Aside.mk (RA6.out.keep hb7.size (fun b _ h2 _ => hb7.block b h2))
        have RR7_ : Aside (Rec.term.rd True w7 (Span w4.heap.size w5.heap.size) row [.int .i64 v0, .int .i64 v1, .string v2, .slice v3a v3b v3c]) := ⟨Rec.term.frame RR6.out (fun b hb => hb7.block b (by have := hb.2; omega)) (fun _ h => h)⟩
        have B7 := Aside.mk (below_later B6.out hb7)
        have hs7 : w6.heap.size ≤ w7.heap.size := hb7.size
        clear hb7 y0 y1 x0 x1 x2 x3 o0 o1 r0 r1 f0 f1 hmf
        have y0 := K07.out.cell 0
        have y1 := K07.out.cell 1
        have x0 := K17.out.cell 0
        have x1 := K17.out.cell 1
        have x2 := K17.out.cell 2
        have x3 := K17.out.cell 3
        have o0 := KO7.out.cell 0
        have o1 := KO7.out.cell 1
        have r0 := K27.out.cell 0
        have r1 := K27.out.cell 1
        have f0 := K27.out.free 0
        have f1 := K27.out.free 1
        simp only [List.getElem?_cons_zero, List.getElem?_cons_succ] at y0 y1 x0 x1 x2 x3 o0 o1 r0 r1
        rcases Nat.lt_or_ge n 500 with h5 | h5
        · have hnb : ((n : Int) == 500) = false := by simp; omega
          have E : Aside (res = ((2, rows.take t ++ row :: rows.drop t), 0)) := ⟨by rw [E2.out, HPUT.out, if_neg (by have := HN.out; rw [List.length_append, List.length_cons, List.length_take, List.length_drop]; omega)]⟩
          have hB7 : Below w7.heap.size w7 (w7.alloc (.cells #[.int .i64 v0, .int .i64 v1, .string v2, .slice v3a v3b v3c] 26)) := (Below.refl _ _).alloc (Nat.le_refl _) _
          obtain ⟨A7, m7, c7, e7⟩ := RA7_.out.shape
          subst e7
          have KV7 := Aside.mk (Blk.new w7 26 [.int .i64 v0, .int .i64 v1, .string v2, .slice v3a v3b v3c])
          have RA7 := Aside.mk (RA7_.out.keep hB7.size (fun b _ h2 _ => hB7.block b h2))
          have RR7 : Aside (Rec.term.rd True (w7.alloc (.cells #[.int .i64 v0, .int .i64 v1, .string v2, .slice v3a v3b v3c] 26)) (Span w4.heap.size w5.heap.size) row [.int .i64 v0, .int .i64 v1, .string v2, .slice v3a v3b v3c]) := ⟨Rec.term.frame RR7_.out (fun b hb => hB7.block b (by have := hb.2; omega)) (fun _ h => h)⟩
          have HB7 := Aside.mk hB7
          have hz7 : w5.heap.size ≤ (w7.alloc (.cells #[.int .i64 v0, .int .i64 v1, .string v2, .slice v3a v3b v3c] 26)).heap.size := Nat.le_trans (by omega) hB7.size
          have HZ7 := Aside.mk hz7
          clear hB7 hz7
          go_wp2_with fail
          refine (insertRows n t w7.heap.size HN.out hfs (by omega) RA7.out KV7.out RR7.out (Nat.le_refl _) HZ7.out hlo4 (Nat.le_trans (by omega) HZ7.out) hno4 (Nat.lt_of_lt_of_le (by omega) HZ7.out)).mono ?_
          rintro e w8 ⟨g2, cap, rfl, hrd, hB⟩
          have HB8 := Aside.mk (below_later HB7.out hB)
          have KO8 := Aside.mk (KO7.out.below HB8.out)
          have K28 := Aside.mk (K27.out.below HB8.out)
          have B8 := Aside.mk (below_later B7.out HB8.out)
          have HRD := Aside.mk hrd
          clear hrd hB
          have hgn : ¬ no = w.heap.size + 1 + 1 := by omega
          have KO9 := Aside.mk (KO8.out.set 1 (.slice (some ⟨g2, 0, none⟩) (n + 1) cap))
          have K29 := Aside.mk (K28.out.far (p := ⟨no, 1, none⟩) (fun e => hgn e.symm) (.slice (some ⟨g2, 0, none⟩) (n + 1) cap))
          have o8 := KO8.out.cell 1
          have p8 := KO8.out.free 1
          have s0 := KO9.out.cell 0
          have s1 := KO9.out.cell 1
          have t0 := K29.out.cell 0
          have t1 := K29.out.cell 1
          have u0 := K29.out.free 0
          have u1 := K29.out.free 1
          simp only [List.getElem?_cons_zero, List.getElem?_cons_succ, List.set_cons_succ, List.set_cons_zero] at o8 s0 s1 t0 t1
          go_wp2_with fail
          refine bodyPost_ret (res_ct rfl _ _ (w.heap.size + 1 + 1) 42 [.int .i64 2, .slice (some ⟨g2, 0, none⟩) (n + 1) cap] _ rfl ?k_5 Try.underlying42 rfl (by kernel_rfl)) rfl ⟨_, by rw [E.out]; rfl, ?r_5, ?b_5⟩
          case k_5 => exact (K29.out.set 0 _).set 1 _
          case r_5 =>
            rw [E.out]
            refine table_rd ?_
            have hsz : w8.heap.size = (((w8.setCell ⟨no, 1, none⟩ (.slice (some ⟨g2, 0, none⟩) (n + 1) cap)).setCell ⟨w.heap.size + 1 + 1, 0, none⟩ (.int .i64 2)).setCell ⟨w.heap.size + 1 + 1, 1, none⟩ (.slice (some ⟨g2, 0, none⟩) (n + 1) cap)).heap.size := by simp [World.setCell]
            refine Rec.term.sl.frame (Rec.term.sl.mono HRD.out (S' := fun b => (w.heap.size ≤ b ∧ b < w8.heap.size) ∧ w.heap.size + 1 + 1 < b ∧ b ≠ no) (fun b hb => ?_)) (fun b hb => ?_) (fun b hb => ⟨hb.1.1, by rw [← hsz]; exact hb.1.2⟩)
            · have h1 := hb.1.1; have h2 := hb.1.2; exact ⟨⟨by omega, h2⟩, by omega, hb.2⟩
            · rw [heap_far (show b ≠ w.heap.size + 1 + 1 by have := hb.2.1; omega), heap_far (show b ≠ w.heap.size + 1 + 1 by have := hb.2.1; omega), heap_far hb.2.2]
          case b_5 =>
            have bel := B8.out
            go_grown
        · obtain rfl : n = 500 := by omega
          have E : Aside (res = ((0, []), 3)) := ⟨by rw [E2.out, HPUT.out, if_pos (by have := HN.out; rw [List.length_append, List.length_cons, List.length_take, List.length_drop]; omega)]⟩
          have bel := B7.out
          go_wp2_with fail
          refine bodyPost_ret (res_ct rfl _ _ (w.heap.size + 1 + 1) 42 [.int .i64 0, .slice none 0 0] _ rfl ?k_5f Try.underlying42 rfl (by kernel_rfl)) rfl ⟨_, by rw [E.out]; rfl, ?r_5f, ?b_5f⟩
          case k_5f => exact (K27.out.set 0 _).set 1 _
          case r_5f => rw [E.out]; exact table_rd (nil_rd _ _ _ _)
          case b_5f => go_grown
    · rcases Nat.lt_or_ge f t with hlt | hge
      rotate_left
      · exfalso
        exact absurd (HQ0.out (by omega)) (by decide)
      have E : Aside (res = ((2, rows), 0)) := ⟨by
        have hput : putI 2 rows row = rows := by
          unfold putI
          rw [← HF.out, ← HSM.out, if_neg (fun h => absurd h.1 (by decide)), if_pos ⟨rfl, by rw [← HQ.out]⟩]
        rw [E2.out, hput, if_neg (by rw [← HN.out]; omega)]⟩
      have hcf : ¬ c1 = f := by omega
      obtain ⟨A7, m7, c7, e7⟩ := RA6.out.shape
      subst e7
      clear ha h1
      go_wp2_with fail
      with_reducible refine (CP.out _ (by first | exact Or.inl rfl | exact Or.inr ⟨rfl, by omega⟩)).mono ?_
      rintro e w7 ⟨rfl, hb7⟩
      have K27 := Aside.mk (K26.out.below hb7)
      have KO7 := Aside.mk (KO6.out.below hb7)
      have RA7 := Aside.mk (RA6.out.keep hb7.size (fun b _ h2 _ => hb7.block b h2))
      have B7 := Aside.mk (below_later B6.out hb7)
      have hs7 : w6.heap.size ≤ w7.heap.size := hb7.size
      clear hb7 y0 y1 x0 x1 x2 x3 o0 o1 r0 r1 f0 f1 hmf
      have o0 := KO7.out.cell 0
      have o1 := KO7.out.cell 1
      have r0 := K27.out.cell 0
      have r1 := K27.out.cell 1
      have f0 := K27.out.free 0
      have f1 := K27.out.free 1
      simp only [List.getElem?_cons_zero, List.getElem?_cons_succ] at o0 o1 r0 r1
      go_wp2_with fail
      refine bodyPost_ret (res_ct rfl _ _ (w.heap.size + 1 + 1) 42 [.int .i64 2, .slice A7 m7 c7] _ rfl ?k_7 Try.underlying42 rfl (by kernel_rfl)) rfl ⟨_, by rw [E.out]; rfl, ?r_7, ?b_7⟩
      case k_7 => exact (K27.out.set 0 _).set 1 _
      case r_7 =>
        rw [E.out]
        refine table_rd ?_
        have hsz : w7.heap.size = ((w7.setCell ⟨w.heap.size + 1 + 1, 0, none⟩ (.int .i64 2)).setCell ⟨w.heap.size + 1 + 1, 1, none⟩ (.slice A7 m7 c7)).heap.size := by simp [World.setCell]
        refine Rec.term.sl.frame RA7.out.read (fun b hb => ?_) (fun b hb => ⟨by have := hb.1; omega, by rw [← hsz]; exact hb.2⟩)
        rw [heap_far (show b ≠ w.heap.size + 1 + 1 by have := hb.1; omega), heap_far (show b ≠ w.heap.size + 1 + 1 by have := hb.1; omega)]
      case b_7 =>
        have bel := B7.out
        go_grown
  have hne2 : (ty == 2) = false := by simpa using h2
  have HPUT : Aside (putI ty rows row = rows.take t ++ row :: rows.drop t) := ⟨by
    unfold putI
    rw [← HF.out, ← HSM.out, if_neg (fun h => h1 h.1), if_neg (fun h => h2 h.1), HFT.out]⟩
  clear ha h1 h2
  rcases Nat.lt_or_ge n 500 with h5 | h5
  · have hnb : ((n : Int) == 500) = false := by simp; omega
    have E : Aside (res = ((ty, rows.take t ++ row :: rows.drop t), 0)) := ⟨by rw [E2.out, HPUT.out, if_neg (by have := HN.out; rw [List.length_append, List.length_cons, List.length_take, List.length_drop]; omega)]⟩
    have hB7 : Below w6.heap.size w6 (w6.alloc (.cells #[.int .i64 v0, .int .i64 v1, .string v2, .slice v3a v3b v3c] 26)) := (Below.refl _ _).alloc (Nat.le_refl _) _
    obtain ⟨A7, m7, c7, e7⟩ := RA6.out.shape
    subst e7
    have KV7 := Aside.mk (Blk.new w6 26 [.int .i64 v0, .int .i64 v1, .string v2, .slice v3a v3b v3c])
    have RA7 := Aside.mk (RA6.out.keep hB7.size (fun b _ h2 _ => hB7.block b h2))
    have RR7 : Aside (Rec.term.rd True (w6.alloc (.cells #[.int .i64 v0, .int .i64 v1, .string v2, .slice v3a v3b v3c] 26)) (Span w4.heap.size w5.heap.size) row [.int .i64 v0, .int .i64 v1, .string v2, .slice v3a v3b v3c]) := ⟨Rec.term.frame RR6.out (fun b hb => hB7.block b (by have := hb.2; omega)) (fun _ h => h)⟩
    have HB7 := Aside.mk hB7
    have hz7 : w5.heap.size ≤ (w6.alloc (.cells #[.int .i64 v0, .int .i64 v1, .string v2, .slice v3a v3b v3c] 26)).heap.size := Nat.le_trans (by omega) hB7.size
    have HZ7 := Aside.mk hz7
    clear hB7 hz7
    go_wp2_with fail
    refine (insertRows n t w6.heap.size HN.out hfs (by omega) RA7.out KV7.out RR7.out (Nat.le_refl _) HZ7.out hlo4 (Nat.le_trans (by omega) HZ7.out) hno4 (Nat.lt_of_lt_of_le (by omega) HZ7.out)).mono ?_
    rintro e w8 ⟨g2, cap, rfl, hrd, hB⟩
    have HB8 := Aside.mk (below_later HB7.out hB)
    have KO8 := Aside.mk (KO6.out.below HB8.out)
    have K28 := Aside.mk (K26.out.below HB8.out)
    have B8 := Aside.mk (below_later B6.out HB8.out)
    have HRD := Aside.mk hrd
    clear hrd hB
    have hgn : ¬ no = w.heap.size + 1 + 1 := by omega
    have KO9 := Aside.mk (KO8.out.set 1 (.slice (some ⟨g2, 0, none⟩) (n + 1) cap))
    have K29 := Aside.mk (K28.out.far (p := ⟨no, 1, none⟩) (fun e => hgn e.symm) (.slice (some ⟨g2, 0, none⟩) (n + 1) cap))
    have o8 := KO8.out.cell 1
    have p8 := KO8.out.free 1
    have s0 := KO9.out.cell 0
    have s1 := KO9.out.cell 1
    have t0 := K29.out.cell 0
    have t1 := K29.out.cell 1
    have u0 := K29.out.free 0
    have u1 := K29.out.free 1
    simp only [List.getElem?_cons_zero, List.getElem?_cons_succ, List.set_cons_succ, List.set_cons_zero] at o8 s0 s1 t0 t1
    go_wp2_with fail
    refine bodyPost_ret (res_ct rfl _ _ (w.heap.size + 1 + 1) 42 [.int .i64 ty, .slice (some ⟨g2, 0, none⟩) (n + 1) cap] _ rfl ?k_6 Try.underlying42 rfl (by kernel_rfl)) rfl ⟨_, by rw [E.out]; rfl, ?r_6, ?b_6⟩
    case k_6 => exact (K29.out.set 0 _).set 1 _
    case r_6 =>
      rw [E.out]
      refine table_rd ?_
      have hsz : w8.heap.size = (((w8.setCell ⟨no, 1, none⟩ (.slice (some ⟨g2, 0, none⟩) (n + 1) cap)).setCell ⟨w.heap.size + 1 + 1, 0, none⟩ (.int .i64 ty)).setCell ⟨w.heap.size + 1 + 1, 1, none⟩ (.slice (some ⟨g2, 0, none⟩) (n + 1) cap)).heap.size := by simp [World.setCell]
      refine Rec.term.sl.frame (Rec.term.sl.mono HRD.out (S' := fun b => (w.heap.size ≤ b ∧ b < w8.heap.size) ∧ w.heap.size + 1 + 1 < b ∧ b ≠ no) (fun b hb => ?_)) (fun b hb => ?_) (fun b hb => ⟨hb.1.1, by rw [← hsz]; exact hb.1.2⟩)
      · have h1 := hb.1.1; have h2 := hb.1.2; exact ⟨⟨by omega, h2⟩, by omega, hb.2⟩
      · rw [heap_far (show b ≠ w.heap.size + 1 + 1 by have := hb.2.1; omega), heap_far (show b ≠ w.heap.size + 1 + 1 by have := hb.2.1; omega), heap_far hb.2.2]
    case b_6 =>
      have bel := B8.out
      go_grown
  · obtain rfl : n = 500 := by omega
    have E : Aside (res = ((0, []), 3)) := ⟨by rw [E2.out, HPUT.out, if_pos (by have := HN.out; rw [List.length_append, List.length_cons, List.length_take, List.length_drop]; omega)]⟩
    have bel := B6.out
    go_wp2_with fail
    refine bodyPost_ret (res_ct rfl _ _ (w.heap.size + 1 + 1) 42 [.int .i64 0, .slice none 0 0] _ rfl ?k_6f Try.underlying42 rfl (by kernel_rfl)) rfl ⟨_, by rw [E.out]; rfl, ?r_6f, ?b_6f⟩
    case k_6f => exact (K26.out.set 0 _).set 1 _
    case r_6f => rw [E.out]; exact table_rd (nil_rd _ _ _ _)
    case b_6f => go_grown
end Go.Proofs.Ytdldgchkinflmaa.Fn
