/- Walk of the reference's TabPut. Conditions: those of each theorem. -/
import Derived.Test.YtdldgchkinflmaaTP9
import Derived.Test.YtdldgchkinflmaaTab3
import Derived.Test.YtdldgchkinflmaaPlanW
set_option linter.unusedVariables false
namespace Go.Proofs.Ytdldgchkinflmaa.Fn
open Go.RowKit Go.Proofs.Ytdldgchkinflmaa.Lib Go.Proofs.Ytdldgchkinflmaa.Plan
attribute [local go_sem] look_tmp look_const look_func look_global lookT_nil lookT_hit lookT_miss

set_option maxRecDepth 100000 in
set_option maxHeartbeats 16000000 in
theorem sTabPut (a : ATable) (row : T) (tc kc : List Value) (w : World) (ht : RTable.rd False w (Old w) a tc) (hk : Rec.term.rd False w (Old w) row kc) (hw : RTable.wt a ≤ 1048576) (hkw : Rec.term.wt row ≤ 1048576) :
    Calls Try.prog 31 #[.agg tc.toArray, .agg kc.toArray] w (RetT w (putR a row)) := by
  obtain ⟨ty, rows⟩ := a
  have hw2 : Rec.int.wt ty + Rec.term.sl.wt rows ≤ 1048576 := hw
  have WT : Aside (Rec.term.sl.wt rows ≤ 1048576) := ⟨by omega⟩
  have HT := Aside.mk ht
  obtain ⟨_, _, _, _, rfl, p0, q0, i0, j0, -⟩ := ht
  have h1 := Rec.term.sl.mono q0 (fun b h => j0 b h)
  obtain rfl := p0
  obtain ⟨A, c1, rfl, hcap, hsl⟩ := h1
  obtain ⟨z0, z1, z2, z3a, z3b, z3c, rfl⟩ := shapeTerm hk
  have HS := Aside.mk hsl
  have HK := Aside.mk hk
  have HWT := Aside.mk hw
  obtain ⟨res, hres⟩ : ∃ r, r = putR (ty, rows) row := ⟨_, rfl⟩
  show Calls Try.prog 31 #[.agg #[.int .i64 ty, .slice A rows.length c1], .agg #[.int .i64 z0, .int .i64 z1, .string z2, .slice z3a z3b z3c]] w (RetT w (putR (ty, rows) row))
  rw [← hres]
  have HV := Aside.mk hres
  obtain ⟨n, hln⟩ : ∃ n, n = rows.length := ⟨_, rfl⟩
  have HN := Aside.mk hln
  rw [← hln] at hcap ⊢
  have HSL : Aside (Rec.term.sl.rd False w (Old w) rows [.slice A n c1]) := ⟨⟨A, c1, by rw [HN.out], by rw [← HN.out]; exact hcap, hsl⟩⟩
  have HT2 : Aside (RTable.rd False w (Old w) (ty, rows) [.int .i64 ty, .slice A n c1]) := ⟨by have := HT.out; rw [← HN.out] at this; exact this⟩
  clear hsl q0 i0 j0 hw hw2 hk hres hln HT
  go_enter Try.func31, Try.ntmps31
  go_wp2_with fail
  refine (sTabOK (ty, rows) [.int .i64 ty, .slice A n c1] _ (RTable.old HT2.out (by go_grown)) HWT.out).mono ?_
  rintro e w1 ⟨rfl, hb1⟩
  have K0 := Aside.mk ((((Blk.new w 42 [.int .i64 ty, .slice A n c1]).alloc _).alloc _).below hb1)
  have K1 := Aside.mk (((Blk.made (w.alloc _) 26 [.int .i64 z0, .int .i64 z1, .string z2, .slice z3a z3b z3c] (g := w.heap.size + 1) (by simp)).alloc _).below hb1)
  have K2 := Aside.mk ((Blk.made ((w.alloc _).alloc _) 42 [.int .i64 0, .slice none 0 0] (g := w.heap.size + 1 + 1) (by simp)).below hb1)
  have B1 : Aside (Below w.heap.size w w1) := ⟨below_later (by go_grown) hb1⟩
  clear hb1
  have hsz1 : w.heap.size + 3 ≤ w1.heap.size := Nat.le_of_lt_succ (by have := K2.out.lt; omega)
  cases hb : tabB ty rows
  · have E : Aside (res = ((0, []), 1)) := ⟨by rw [HV.out, putR, hb]; rfl⟩
    clear HV hb
    have r0 := K2.out.cell 0
    have r1 := K2.out.cell 1
    have f0 := K2.out.free 0
    have f1 := K2.out.free 1
    simp only [List.getElem?_cons_zero, List.getElem?_cons_succ] at r0 r1
    have bel := B1.out
    go_wp2_with fail
    refine bodyPost_ret (res_ct rfl _ _ (w.heap.size + 1 + 1) 42 [.int .i64 0, .slice none 0 0] _ rfl ?k_1 Try.underlying42 rfl (by kernel_rfl)) rfl ⟨_, by rw [E.out]; rfl, ?r_1, ?b_1⟩
    case k_1 => exact (K2.out.set 0 _).set 1 _
    case r_1 => rw [E.out]; exact table_rd (nil_rd _ _ _ _)
    case b_1 => go_grown
  have HB := Aside.mk hb
  have E1 : Aside (res = if rowB row then (if 500 < (putI ty rows row).length then ((0, []), 3) else ((ty, putI ty rows row), 0)) else ((0, []), 1)) := ⟨by rw [HV.out, putR, hb]; rfl⟩
  clear HV hb
  have y0 : w1.cell? ⟨w.heap.size, 0, none⟩ = some (.int .i64 ty) := K0.out.cell 0
  have y1 : w1.cell? ⟨w.heap.size, 1, none⟩ = some (.slice A n c1) := K0.out.cell 1
  have x0 : w1.cell? ⟨w.heap.size + 1, 0, none⟩ = some (.int .i64 z0) := K1.out.cell 0
  have x1 : w1.cell? ⟨w.heap.size + 1, 1, none⟩ = some (.int .i64 z1) := K1.out.cell 1
  have x2 : w1.cell? ⟨w.heap.size + 1, 2, none⟩ = some (.string z2) := K1.out.cell 2
  have x3 : w1.cell? ⟨w.heap.size + 1, 3, none⟩ = some (.slice z3a z3b z3c) := K1.out.cell 3
  go_wp2_with fail
  refine (l09Row row [.int .i64 z0, .int .i64 z1, .string z2, .slice z3a z3b z3c] _ (Rec.term.old HK.out B1.out) hkw).mono ?_
  rintro e w2 ⟨rfl, hb2⟩
  clear y0 y1 x0 x1 x2 x3
  have K02 := Aside.mk (K0.out.below hb2)
  have K12 := Aside.mk (K1.out.below hb2)
  have K22 := Aside.mk (K2.out.below hb2)
  have B2 := Aside.mk (below_later B1.out hb2)
  have hsz2 : w.heap.size + 3 ≤ w2.heap.size := by have := hb2.size; omega
  clear K0 K1 K2 B1 hb2 hsz1
  cases hb : rowB row
  · have E : Aside (res = ((0, []), 1)) := ⟨by rw [E1.out, hb]; rfl⟩
    clear E1 hb
    have r0 := K22.out.cell 0
    have r1 := K22.out.cell 1
    have f0 := K22.out.free 0
    have f1 := K22.out.free 1
    simp only [List.getElem?_cons_zero, List.getElem?_cons_succ] at r0 r1
    have bel := B2.out
    go_wp2_with fail
    refine bodyPost_ret (res_ct rfl _ _ (w.heap.size + 1 + 1) 42 [.int .i64 0, .slice none 0 0] _ rfl ?k_2 Try.underlying42 rfl (by kernel_rfl)) rfl ⟨_, by rw [E.out]; rfl, ?r_2, ?b_2⟩
    case k_2 => exact (K22.out.set 0 _).set 1 _
    case r_2 => rw [E.out]; exact table_rd (nil_rd _ _ _ _)
    case b_2 => go_grown
  have HRB := Aside.mk hb
  have HPS := Aside.mk (putS_putI row HB.out)
  have E2 : Aside (res = if 500 < (putS ty rows row).length then ((0, []), 3) else ((ty, putS ty rows row), 0)) := ⟨by rw [E1.out, hb, HPS.out]; rfl⟩
  clear E1 hb
  have kx := (rowB_parts HRB.out).2.2
  obtain ⟨cap, bk, ok, c0, c1', c2, ca, cl, cc, ecs, hbk, g0, g1, g2, g3, hkr2⟩ := key_of HK.out kx
  simp only [List.cons.injEq, Value.slice.injEq, Value.int.injEq, Value.string.injEq, and_true, true_and] at ecs
  obtain ⟨rfl, rfl, rfl, rfl, rfl, rfl⟩ := ecs
  have HKR2 := Aside.mk hkr2
  have G0 := Aside.mk g0
  have G1 := Aside.mk g1
  have G2 := Aside.mk g2
  have G3 := Aside.mk g3
  have HBK := Aside.mk hbk
  have hKW := keyT_wt kx hkw
  have kp : (0 : Int) < row.kids.length := by omega
  have HRS := Aside.mk (tab_rows HB.out).1
  have HW := Aside.mk (wt_kid WT.out)
  have hn5 : n ≤ 500 := by have h := HB.out; simp only [tabB, Bool.and_eq_true, decide_eq_true_eq] at h; rw [HN.out]; omega
  have y0 : w2.cell? ⟨w.heap.size, 0, none⟩ = some (.int .i64 ty) := K02.out.cell 0
  clear hkr2 hbk g0 g1 g2 g3
  obtain ⟨go, hgo⟩ : ∃ g, g = w2.heap.size + 1 := ⟨_, rfl⟩
  have lgo : w.heap.size + 3 ≤ go := by omega
  have K03 := Aside.mk ((K02.out.alloc (.cells #[] 26)).alloc (.cells #[.int .i64 ty, .slice (some ⟨w2.heap.size, 0, none⟩) 0 0] 42))
  have K13 := Aside.mk ((K12.out.alloc (.cells #[] 26)).alloc (.cells #[.int .i64 ty, .slice (some ⟨w2.heap.size, 0, none⟩) 0 0] 42))
  have K23 := Aside.mk ((K22.out.alloc (.cells #[] 26)).alloc (.cells #[.int .i64 ty, .slice (some ⟨w2.heap.size, 0, none⟩) 0 0] 42))
  have O3 : Aside (OutAt go ty w ((w2.alloc (.cells #[] 26)).alloc (.cells #[.int .i64 ty, .slice (some ⟨w2.heap.size, 0, none⟩) 0 0] 42)) [] (.slice (some ⟨w2.heap.size, 0, none⟩) 0 0)) := ⟨lgo, Blk.made (w2.alloc (.cells #[] 26)) 42 [.int .i64 ty, .slice (some ⟨w2.heap.size, 0, none⟩) 0 0] (g := go) (by rw [hgo]; simp), fun h => by injection h with h; have h : w2.heap.size = go := h; omega, (B2.out.alloc B2.out.size _).alloc (by simp; have := B2.out.size; omega) _,
    (((Grow.empty (R := Rec.nb Rec.term go) (E := 26) (tr := False) (base := w.heap.size + 3) (g := w2.heap.size) hsz2 rfl).below ((Below.refl _ _).alloc (Nat.le_refl _) (.cells #[.int .i64 ty, .slice (some ⟨w2.heap.size, 0, none⟩) 0 0] 42))).top)⟩
  clear K02 K12 K22 B2 hsz2
  go_wp2_with fail
  rw [← hgo]
  clear y0 hgo
  go_loopw [7, 8, 9] (fun pv iv _ wr => ∃ (i : Nat) (l : List T) (p : Bool) (v : Value), i ≤ n ∧ pv = .bool p ∧ iv = .int .i64 i ∧ l.length ≤ 2 * i ∧ Aside ((rows.take i).foldl (putStep ty (keyT row) row) ([], false) = (l, p)) ∧ Aside (Blk wr w.heap.size 42 [.int .i64 ty, .slice A n c1]) ∧ Aside (Blk wr (w.heap.size + 1) 26 [.int .i64 row.kind, .int .i64 row.num, .string row.str, .slice (some ⟨bk, ok, none⟩) row.kids.length z3c]) ∧ Aside (Blk wr (w.heap.size + 1 + 1) 42 [.int .i64 0, .slice none 0 0]) ∧ Aside (OutAt go ty w wr l v)) (fun _ iv _ _ => n - (intOf iv).toNat)
  case atStart => exact ⟨0, [], false, _, Nat.zero_le _, rfl, rfl, Nat.zero_le _, ⟨rfl⟩, K03, K13, K23, O3⟩
  case round =>
    obtain ⟨i, l, p, v, hi, rfl, rfl, hl2, hf, hk0, hk1, hk2, ho⟩ := hrel
    clear K03 K13 K23 O3
    obtain ⟨m, hm⟩ : ∃ m, m = l.length := ⟨_, rfl⟩
    obtain ⟨Av, cv, hv, hcv⟩ := ho.out.2.2.2.2.shape
    rw [← hm] at hl2 hcv hv
    subst hv
    have HM := Aside.mk hm.symm
    clear hm
    have y0 := hk0.out.cell 0
    have y1 := hk0.out.cell 1
    have x0 := hk1.out.cell 0
    have x1 := hk1.out.cell 1
    have x2 := hk1.out.cell 2
    have x3 := hk1.out.cell 3
    simp only [List.getElem?_cons_zero, List.getElem?_cons_succ] at y0 y1 x0 x1 x2 x3
    have l0 : w.heap.size < wr.heap.size := hk0.out.lt
    have l1 : w.heap.size + 1 < wr.heap.size := hk1.out.lt
    have u1 : m ≤ 4194304 := by omega
    by_cases hlt : i < n
    rotate_left
    · obtain rfl : n = i := by omega
      have hfin : Aside (putS ty rows row = putFin row (l, p)) := ⟨by have h := hf.out; rw [HN.out, List.take_length] at h; unfold putS; rw [h]⟩
      cases p
      · have RR := Aside.mk (Rec.term.frame HK.out (fun b hb => ho.out.2.2.2.1.block b hb) (fun _ h => h))
        obtain ⟨g_e, cap_e, wa_e, w_e, hrun, hgoa, hw9, o9, kpa, kp9, hbut⟩ := ho.out.app HM.out (by omega) row [.int .i64 row.kind, .int .i64 row.num, .string row.str, .slice (some ⟨bk, ok, none⟩) row.kids.length z3c] RR.out wr.heap.size rfl
        have HRUN := Aside.mk hrun
        have HGOA := Aside.mk hgoa
        have HBUT := Aside.mk hbut
        have HW9 := Aside.mk hw9
        have KPA := Aside.mk kpa
        have O_e := Aside.mk o9
        have K0_e : Aside (Blk w_e w.heap.size 42 [.int .i64 ty, .slice A n c1]) := ⟨(kp9 _ (by omega)).trans hk0.out⟩
        have K1_e : Aside (Blk w_e (w.heap.size + 1) 26 [.int .i64 row.kind, .int .i64 row.num, .string row.str, .slice (some ⟨bk, ok, none⟩) row.kids.length z3c]) := ⟨(kp9 _ (by omega)).trans hk1.out⟩
        have K2_e : Aside (Blk w_e (w.heap.size + 1 + 1) 42 [.int .i64 0, .slice none 0 0]) := ⟨(kp9 _ (by omega)).trans hk2.out⟩
        clear hrun hgoa hw9 o9 kpa kp9 hbut
        obtain ⟨hw9⟩ := HW9
        subst hw9
        have ob := ho.out.2.1.cell 1
        have oa := HGOA.out.cell 1
        have fa := HGOA.out.free 1
        simp only [List.getElem?_cons_zero, List.getElem?_cons_succ] at ob oa
        have HL : Aside (putS ty rows row = l ++ [row]) := ⟨by rw [hfin.out]; rfl⟩
        have HM2 : Aside ((l ++ [row]).length = m + 1) := ⟨by rw [List.length_append, HM.out]; rfl⟩
        clear hfin hf
        have o0 := O_e.out.2.1.cell 0
        have o1 := O_e.out.2.1.cell 1
        simp only [List.getElem?_cons_zero, List.getElem?_cons_succ] at o0 o1
        have hwl : Aside (Rec.term.sl.wt (l ++ [row]) ≤ 1073741824) := ⟨by
          rw [← HL.out, HPS.out]
          have h3 := putI_sum Rec.term.wt ty rows row
          have h4 := putI_len ty rows row
          have h5 : rows.length + (rows.map Rec.term.wt).sum ≤ 1048576 := WT.out
          show (putI ty rows row).length + ((putI ty rows row).map Rec.term.wt).sum ≤ _
          omega⟩
        by_cases h5 : 500 < m + 1
        · have E : Aside (res = ((0, []), 3)) := ⟨by rw [E2.out, HL.out, if_pos (by rw [HM2.out]; exact h5)]⟩
          have h5i : (500 : Int) < (m + 1 : Int) := by omega
          have h5d : decide ((500 : Int) < (m + 1 : Int)) = true := decide_eq_true h5i
          have h5l : decide ((500 : Int) < (m : Int) + 1) = true := decide_eq_true (by omega)
          have h5j : (500 : Int) < (m : Int) + 1 := by omega
          have h5k : (500 : Int) < ((m + 1 : Nat) : Int) := by omega
          have r0 := K2_e.out.cell 0
          have r1 := K2_e.out.cell 1
          have f0 := K2_e.out.free 0
          have f1 := K2_e.out.free 1
          simp only [List.getElem?_cons_zero, List.getElem?_cons_succ] at r0 r1
          have bel := O_e.out.2.2.2.1
          go_wp2_with (at_builtin; refine Go.Lib.wpList_append_run _ rfl _ _ _ _ rfl _ _ rfl rfl _ _ HRUN.out ?_)
          refine bodyPost_ret (res_ct rfl _ _ (w.heap.size + 1 + 1) 42 [.int .i64 0, .slice none 0 0] _ rfl ?k_ef Try.underlying42 rfl (by kernel_rfl)) rfl ⟨_, by rw [E.out]; rfl, ?r_ef, ?b_ef⟩
          case k_ef => exact (K2_e.out.set 0 _).set 1 _
          case r_ef => rw [E.out]; exact table_rd (nil_rd _ _ _ _)
          case b_ef => go_grown
        have E : Aside (res = ((ty, l ++ [row]), 0)) := ⟨by rw [E2.out, HL.out, if_neg (by rw [HM2.out]; exact h5)]⟩
        have h5i : ¬ (500 : Int) < (m + 1 : Int) := by omega
        have h5d : decide ((500 : Int) < (m + 1 : Int)) = false := decide_eq_false h5i
        have h5j : ¬ (500 : Int) < (m : Int) + 1 := by omega
        have h5k : ¬ (500 : Int) < ((m + 1 : Nat) : Int) := by omega
        have h5l : decide ((500 : Int) < (m : Int) + 1) = false := decide_eq_false (by omega)
        have RL := Aside.mk (Rec.nb_sl O_e.out.2.2.2.2.old)
        clear h5
        go_wp2_with (at_builtin; refine Go.Lib.wpList_append_run _ rfl _ _ _ _ rfl _ _ rfl rfl _ _ HRUN.out ?_)
        refine (l01Copies (l ++ [row]) _ _ RL.out hwl.out).mono ?_
        rintro e w5 ⟨v5, rfl, hr5, hb5⟩
        obtain ⟨B5, d5, ev5, -⟩ := id hr5
        injection ev5 with ev5 _
        rw [HM2.out] at ev5
        subst ev5
        have HR5 := Aside.mk hr5
        have KG5 := Aside.mk (O_e.out.2.1.below hb5)
        have K25 := Aside.mk (K2_e.out.below hb5)
        have B5' := Aside.mk (below_later O_e.out.2.2.2.1 hb5)
        have hs5 := hb5.size
        have hl5 : go < (wa_e.setCell ⟨go, 1, none⟩ (.slice (some ⟨g_e, 0, none⟩) (m + 1) cap_e)).heap.size := O_e.out.2.1.lt
        have hz5 : w.heap.size ≤ (wa_e.setCell ⟨go, 1, none⟩ (.slice (some ⟨g_e, 0, none⟩) (m + 1) cap_e)).heap.size := O_e.out.2.2.2.1.size
        clear hr5 hb5 o0 o1
        have hgn : ¬ go = w.heap.size + 1 + 1 := by omega
        have KG6 := Aside.mk (KG5.out.set 1 (.slice B5 (m + 1) d5))
        have K26 := Aside.mk (K25.out.far (p := ⟨go, 1, none⟩) (fun e => hgn e.symm) (.slice B5 (m + 1) d5))
        have o8 := KG5.out.cell 1
        have p8 := KG5.out.free 1
        have s0 := KG6.out.cell 0
        have s1 := KG6.out.cell 1
        have t0 := K26.out.cell 0
        have t1 := K26.out.cell 1
        have q0 := K26.out.free 0
        have q1 := K26.out.free 1
        simp only [List.getElem?_cons_zero, List.getElem?_cons_succ, List.set_cons_succ, List.set_cons_zero] at o8 s0 s1 t0 t1
        go_wp2_with fail
        refine bodyPost_ret (res_ct rfl _ _ (w.heap.size + 1 + 1) 42 [.int .i64 ty, .slice B5 (m + 1) d5] _ rfl ?k_e Try.underlying42 rfl (by kernel_rfl)) rfl ⟨_, by rw [E.out]; rfl, ?r_e, ?b_e⟩
        case k_e => exact (K26.out.set 0 _).set 1 _
        case r_e =>
          rw [E.out]
          refine table_rd ?_
          have hsz : w5.heap.size = (((w5.setCell ⟨go, 1, none⟩ (.slice B5 (m + 1) d5)).setCell ⟨w.heap.size + 1 + 1, 0, none⟩ (.int .i64 ty)).setCell ⟨w.heap.size + 1 + 1, 1, none⟩ (.slice B5 (m + 1) d5)).heap.size := by simp [World.setCell]
          refine Rec.term.sl.frame HR5.out (fun b hb => ?_) (fun b hb => ⟨Nat.le_trans hz5 hb.1, by rw [← hsz]; exact hb.2⟩)
          have h1 := hb.1
          rw [heap_far (show b ≠ w.heap.size + 1 + 1 by omega), heap_far (show b ≠ w.heap.size + 1 + 1 by omega), heap_far (show b ≠ go by omega)]
        case b_e =>
          have bel := B5'.out
          have hgw : w.heap.size ≤ go := by omega
          go_grown
      · have HL : Aside (putS ty rows row = l) := ⟨by rw [hfin.out]; rfl⟩
        clear hfin hf
        have o0 := ho.out.2.1.cell 0
        have o1 := ho.out.2.1.cell 1
        simp only [List.getElem?_cons_zero, List.getElem?_cons_succ] at o0 o1
        have hwl : Aside (Rec.term.sl.wt (l) ≤ 1073741824) := ⟨by
          rw [← HL.out, HPS.out]
          have h3 := putI_sum Rec.term.wt ty rows row
          have h4 := putI_len ty rows row
          have h5 : rows.length + (rows.map Rec.term.wt).sum ≤ 1048576 := WT.out
          show (putI ty rows row).length + ((putI ty rows row).map Rec.term.wt).sum ≤ _
          omega⟩
        by_cases h5 : 500 < m
        · have E : Aside (res = ((0, []), 3)) := ⟨by rw [E2.out, HL.out, if_pos (by rw [HM.out]; exact h5)]⟩
          have h5i : (500 : Int) < (m : Int) := by omega
          have h5d : decide ((500 : Int) < (m : Int)) = true := decide_eq_true h5i
          have r0 := hk2.out.cell 0
          have r1 := hk2.out.cell 1
          have f0 := hk2.out.free 0
          have f1 := hk2.out.free 1
          simp only [List.getElem?_cons_zero, List.getElem?_cons_succ] at r0 r1
          have bel := ho.out.2.2.2.1
          go_wp2_with fail
          refine bodyPost_ret (res_ct rfl _ _ (w.heap.size + 1 + 1) 42 [.int .i64 0, .slice none 0 0] _ rfl ?k_gf Try.underlying42 rfl (by kernel_rfl)) rfl ⟨_, by rw [E.out]; rfl, ?r_gf, ?b_gf⟩
          case k_gf => exact (hk2.out.set 0 _).set 1 _
          case r_gf => rw [E.out]; exact table_rd (nil_rd _ _ _ _)
          case b_gf => go_grown
        have E : Aside (res = ((ty, l), 0)) := ⟨by rw [E2.out, HL.out, if_neg (by rw [HM.out]; exact h5)]⟩
        have h5i : ¬ (500 : Int) < (m : Int) := by omega
        have h5d : decide ((500 : Int) < (m : Int)) = false := decide_eq_false h5i
        have RL := Aside.mk (Rec.nb_sl ho.out.2.2.2.2.old)
        clear h5
        go_wp2_with fail
        refine (l01Copies (l) _ _ RL.out hwl.out).mono ?_
        rintro e w5 ⟨v5, rfl, hr5, hb5⟩
        obtain ⟨B5, d5, ev5, -⟩ := id hr5
        injection ev5 with ev5 _
        rw [HM.out] at ev5
        subst ev5
        have HR5 := Aside.mk hr5
        have KG5 := Aside.mk (ho.out.2.1.below hb5)
        have K25 := Aside.mk (hk2.out.below hb5)
        have B5' := Aside.mk (below_later ho.out.2.2.2.1 hb5)
        have hs5 := hb5.size
        have hl5 : go < wr.heap.size := ho.out.2.1.lt
        have hz5 : w.heap.size ≤ wr.heap.size := ho.out.2.2.2.1.size
        clear hr5 hb5 o0 o1
        have hgn : ¬ go = w.heap.size + 1 + 1 := by omega
        have KG6 := Aside.mk (KG5.out.set 1 (.slice B5 (m) d5))
        have K26 := Aside.mk (K25.out.far (p := ⟨go, 1, none⟩) (fun e => hgn e.symm) (.slice B5 (m) d5))
        have o8 := KG5.out.cell 1
        have p8 := KG5.out.free 1
        have s0 := KG6.out.cell 0
        have s1 := KG6.out.cell 1
        have t0 := K26.out.cell 0
        have t1 := K26.out.cell 1
        have q0 := K26.out.free 0
        have q1 := K26.out.free 1
        simp only [List.getElem?_cons_zero, List.getElem?_cons_succ, List.set_cons_succ, List.set_cons_zero] at o8 s0 s1 t0 t1
        go_wp2_with fail
        refine bodyPost_ret (res_ct rfl _ _ (w.heap.size + 1 + 1) 42 [.int .i64 ty, .slice B5 (m) d5] _ rfl ?k_g Try.underlying42 rfl (by kernel_rfl)) rfl ⟨_, by rw [E.out]; rfl, ?r_g, ?b_g⟩
        case k_g => exact (K26.out.set 0 _).set 1 _
        case r_g =>
          rw [E.out]
          refine table_rd ?_
          have hsz : w5.heap.size = (((w5.setCell ⟨go, 1, none⟩ (.slice B5 (m) d5)).setCell ⟨w.heap.size + 1 + 1, 0, none⟩ (.int .i64 ty)).setCell ⟨w.heap.size + 1 + 1, 1, none⟩ (.slice B5 (m) d5)).heap.size := by simp [World.setCell]
          refine Rec.term.sl.frame HR5.out (fun b hb => ?_) (fun b hb => ⟨Nat.le_trans hz5 hb.1, by rw [← hsz]; exact hb.2⟩)
          have h1 := hb.1
          rw [heap_far (show b ≠ w.heap.size + 1 + 1 by omega), heap_far (show b ≠ w.heap.size + 1 + 1 by omega), heap_far (show b ≠ go by omega)]
        case b_g =>
          have bel := B5'.out
          have hgw : w.heap.size ≤ go := by omega
          go_grown
    have hlt2 : i < rows.length := by rw [← HN.out]; exact hlt
    rcases HS.out with h0 | ⟨b, o, rfl, hrow⟩
    · exfalso; rw [h0] at hlt2; exact absurd hlt2 (Nat.not_lt_zero _)
    have hbo : b < w.heap.size := hrow.1
    have hRt := HRS.out rows[i] (List.getElem_mem hlt2)
    obtain ⟨-, -, kt⟩ := rowB_parts hRt
    obtain ⟨cap1, bk1, ok1, d10, d11, d12, d1a, d1l, d1c, e10, e11, e12, e13, g10, g11, g12, g13, r1, rr1⟩ := key_cells (Below.refl _ _) hrow i hlt2 kt
    have hbk1 : bk1 < w.heap.size := cell_lt g10
    have W1 := HW.out i hlt2
    have V1 := keyT_wt kt W1
    have hlw := ho.out.2.2.2.1.size
    have EI0 := Aside.mk e10
    have EI1 := Aside.mk e11
    have EI2 := Aside.mk e12
    have EI3 := Aside.mk e13
    have RI := Aside.mk rr1
    replace e13 := (ho.out.2.2.2.1.cell (p := ⟨b, o + i * 4 + 3, none⟩) hbo).trans e13
    replace g10 := (ho.out.2.2.2.1.cell (p := ⟨bk1, ok1, none⟩) hbk1).trans g10
    replace g11 := (ho.out.2.2.2.1.cell (p := ⟨bk1, ok1 + 1, none⟩) hbk1).trans g11
    replace g12 := (ho.out.2.2.2.1.cell (p := ⟨bk1, ok1 + 2, none⟩) hbk1).trans g12
    replace g13 := (ho.out.2.2.2.1.cell (p := ⟨bk1, ok1 + 3, none⟩) hbk1).trans g13
    have g0 := (ho.out.2.2.2.1.cell (p := ⟨bk, ok, none⟩) HBK.out).trans G0.out
    have g1 := (ho.out.2.2.2.1.cell (p := ⟨bk, ok + 1, none⟩) HBK.out).trans G1.out
    have g2 := (ho.out.2.2.2.1.cell (p := ⟨bk, ok + 2, none⟩) HBK.out).trans G2.out
    have g3 := (ho.out.2.2.2.1.cell (p := ⟨bk, ok + 3, none⟩) HBK.out).trans G3.out
    have lb : b < wr.heap.size := Nat.lt_of_lt_of_le hbo hlw
    have lb1 : bk1 < wr.heap.size := Nat.lt_of_lt_of_le hbk1 hlw
    have lbk : bk < wr.heap.size := Nat.lt_of_lt_of_le HBK.out hlw
    have R1 := Aside.mk (Rec.term.old (w1 := wr.drew) r1 ho.out.2.2.2.1.drew)
    have R2 := Aside.mk (Rec.term.old (w1 := wr.drew) HKR2.out ho.out.2.2.2.1.drew)
    have ut : (i : Int) < n := by omega
    have kt2 : (0 : Int) < rows[i].kids.length := by omega
    obtain ⟨c, hc⟩ : ∃ c, c = T.cmp (keyT rows[i]) (keyT row) := ⟨_, rfl⟩
    have HC := Aside.mk hc
    clear r1 rr1 hrow hRt hc hbk1 e10 e11 e12
    go_wp2_with fail
    refine region_env [(0, true), (1, true), (2, true), (3, true), (4, true), (5, true), (6, true), (7, true), (8, true), (9, true), (10, true), (11, true), (12, false), (13, true)] (fun w' => Below wr.heap.size wr w') 108 rfl (by kernel_rfl) (by kernel_rfl) (fun _ _ d _ _ h => by cases d <;> exact h) ((Below.refl _ _).drew) (fun ops fr HFR HSZ hl => ?_)
    have hl_0 := ops_start hl
    clear hl
    obtain ⟨H0, hl_1⟩ := ops_next 0 1 rfl hl_0
    clear hl_0
    obtain ⟨H1, hl_2⟩ := ops_next 1 2 rfl hl_1
    clear hl_1
    obtain ⟨H2, hl_3⟩ := ops_next 2 3 rfl hl_2
    clear hl_2
    obtain ⟨H3, hl_4⟩ := ops_next 3 4 rfl hl_3
    clear hl_3
    obtain ⟨H4, hl_5⟩ := ops_next 4 5 rfl hl_4
    clear hl_4
    obtain ⟨H5, hl_6⟩ := ops_next 5 6 rfl hl_5
    clear hl_5
    obtain ⟨H6, hl_7⟩ := ops_next 6 7 rfl hl_6
    clear hl_6
    obtain ⟨H7, hl_8⟩ := ops_next 7 8 rfl hl_7
    clear hl_7
    obtain ⟨H8, hl_9⟩ := ops_next 8 9 rfl hl_8
    clear hl_8
    obtain ⟨H9, hl_10⟩ := ops_next 9 10 rfl hl_9
    clear hl_9
    obtain ⟨H10, hl_11⟩ := ops_next 10 11 rfl hl_10
    clear hl_10
    obtain ⟨H11, hl_12⟩ := ops_next 11 12 rfl hl_11
    clear hl_11
    obtain ⟨H12, hl_13⟩ := ops_next 12 13 rfl hl_12
    clear hl_12
    obtain ⟨H13, hl_14⟩ := ops_next 13 14 rfl hl_13
    clear hl_13
    clear hl_14
    have x_2 : ext fr 2 = _ := congrArg (fun a => Act.eval a (.tmp 2)) HFR.out
    conv at x_2 => rhs; simp only [Act.eval, Array.getD_eq_getD_getElem?, List.getElem?_toArray, List.getElem?_cons_succ, List.getElem?_cons_zero, Option.getD_some]
    have x_8 : ext fr 8 = _ := congrArg (fun a => Act.eval a (.tmp 8)) HFR.out
    conv at x_8 => rhs; simp only [Act.eval, Array.getD_eq_getD_getElem?, List.getElem?_toArray, List.getElem?_cons_succ, List.getElem?_cons_zero, Option.getD_some]
    have x_3 : ext fr 3 = _ := congrArg (fun a => Act.eval a (.tmp 3)) HFR.out
    conv at x_3 => rhs; simp only [Act.eval, Array.getD_eq_getD_getElem?, List.getElem?_toArray, List.getElem?_cons_succ, List.getElem?_cons_zero, Option.getD_some]
    refine env_yes HSZ H0.out ?_ (fun w' hS => ?_) ?_
    rotate_left
    (go_simp
     rfl)
    refine env_yes HSZ H1.out ?_ (fun w' hS => ?_) ?_
    rotate_left
    (have h := (hS.cell (p := ⟨w.heap.size, 1, none⟩) l0).trans y1
     go_simp
     rfl)
    refine env_yes HSZ H2.out ?_ (fun w' hS => ?_) ?_
    rotate_left
    (go_simp
     rfl)
    refine env_yes HSZ H3.out ?_ (fun w' hS => ?_) ?_
    rotate_left
    (go_simp
     rfl)
    refine env_yes HSZ H4.out ?_ (fun w' hS => ?_) ?_
    rotate_left
    (go_simp
     rfl)
    refine env_yes HSZ H5.out ?_ (fun w' hS => ?_) ?_
    rotate_left
    (have h := (hS.cell (p := ⟨b, o + i * 4 + 3, none⟩) lb).trans e13
     go_simp
     rfl)
    refine env_yes HSZ H6.out ?_ (fun w' hS => ?_) ?_
    rotate_left
    (go_simp
     rfl)
    refine env_yes HSZ H7.out ?_ (fun w' hS => ?_) ?_
    rotate_left
    (have h0 := (hS.cell (p := ⟨bk1, ok1, none⟩) lb1).trans g10
     have h1 := (hS.cell (p := ⟨bk1, ok1 + 1, none⟩) lb1).trans g11
     have h2 := (hS.cell (p := ⟨bk1, ok1 + 2, none⟩) lb1).trans g12
     have h3 := (hS.cell (p := ⟨bk1, ok1 + 3, none⟩) lb1).trans g13
     go_simp
     rfl)
    refine env_yes HSZ H8.out ?_ (fun w' hS => ?_) ?_
    rotate_left
    (go_simp
     rfl)
    refine env_yes HSZ H9.out ?_ (fun w' hS => ?_) ?_
    rotate_left
    (have h := (hS.cell (p := ⟨w.heap.size + 1, 3, none⟩) l1).trans x3
     go_simp
     rfl)
    refine env_yes HSZ H10.out ?_ (fun w' hS => ?_) ?_
    rotate_left
    (go_simp
     rfl)
    refine env_yes HSZ H11.out ?_ (fun w' hS => ?_) ?_
    rotate_left
    (have h0 := (hS.cell (p := ⟨bk, ok, none⟩) lbk).trans g0
     have h1 := (hS.cell (p := ⟨bk, ok + 1, none⟩) lbk).trans g1
     have h2 := (hS.cell (p := ⟨bk, ok + 2, none⟩) lbk).trans g2
     have h3 := (hS.cell (p := ⟨bk, ok + 3, none⟩) lbk).trans g3
     go_simp
     rfl)
    refine env_call HSZ H12.out ?_ ?_ ?_ ?_
    rotate_left 2
    (go_simp
     first | rfl | (constructor <;> rfl))
    refine (l01Cmp (keyT rows[i]) (keyT row) [.int .i64 d10, .int .i64 d11, .string d12, .slice d1a d1l d1c] [.int .i64 c0, .int .i64 c1', .string c2, .slice ca cl cc] _ R1.out R2.out V1 hKW).mono ?_
    rintro e w4 ⟨rfl, hbn⟩
    have K0_4 := Aside.mk (hk0.out.drew.below hbn)
    have K1_4 := Aside.mk (hk1.out.drew.below hbn)
    have K2_4 := Aside.mk (hk2.out.drew.below hbn)
    have O_4 := Aside.mk (ho.out.below (below_later (Below.refl _ _).drew hbn))
    have RR := Aside.mk (Rec.term.frame HK.out (fun b hb => O_4.out.2.2.2.1.block b hb) (fun _ h => h))
    refine ⟨_, rfl, below_later (Below.refl _ _).drew hbn, ?_⟩
    rw [← HC.out]
    clear hbn
    refine env_yes HSZ H13.out ?_ (fun w' hS => ?_) ?_
    rotate_left
    (go_simp
     rfl)
    refine env_end ?_
    have hfr := HFR.out
    clear HFR HSZ H0 H1 H2 H3 H4 H5 H6 H7 H8 H9 H10 H11 H12 H13 x_2 x_8 x_3
    subst hfr
    simp only [putAll, Act.put, List.setIfInBounds_toArray, List.set_cons_succ, List.set_cons_zero]
    clear e13 g10 g11 g12 g13 g0 g1 g2 g3 R1 R2 y0 y1 x0 x1 x2 x3 l0 l1 lb lb1 lbk hk0 hk1 hk2 ho hlw
    by_cases ha : c = 0 ∧ ty = 1
    · obtain ⟨rfl, ht1⟩ := ha
      have hty : (ty == 1) = true := by simp [ht1]
      have HT1 := Aside.mk ht1
      clear ht1
      have y0 := K0_4.out.cell 0
      have y1 := K0_4.out.cell 1
      have x0 := K1_4.out.cell 0
      have x1 := K1_4.out.cell 1
      have x2 := K1_4.out.cell 2
      have x3 := K1_4.out.cell 3
      simp only [List.getElem?_cons_zero, List.getElem?_cons_succ] at y0 y1 x0 x1 x2 x3
      obtain ⟨g_5, cap_5, wa_5, w_5, hrun, hgoa, hw9, o9, kpa, kp9, hbut⟩ := O_4.out.app HM.out (by omega) row [.int .i64 row.kind, .int .i64 row.num, .string row.str, .slice (some ⟨bk, ok, none⟩) row.kids.length z3c] RR.out w4.heap.size rfl
      have HRUN := Aside.mk hrun
      have HGOA := Aside.mk hgoa
      have HBUT := Aside.mk hbut
      have HW9 := Aside.mk hw9
      have KPA := Aside.mk kpa
      have O_5 := Aside.mk o9
      have K0_5 : Aside (Blk w_5 w.heap.size 42 [.int .i64 ty, .slice (some ⟨b, o, none⟩) n c1]) := ⟨(kp9 _ (by omega)).trans K0_4.out⟩
      have K1_5 : Aside (Blk w_5 (w.heap.size + 1) 26 [.int .i64 row.kind, .int .i64 row.num, .string row.str, .slice (some ⟨bk, ok, none⟩) row.kids.length z3c]) := ⟨(kp9 _ (by omega)).trans K1_4.out⟩
      have K2_5 : Aside (Blk w_5 (w.heap.size + 1 + 1) 42 [.int .i64 0, .slice none 0 0]) := ⟨(kp9 _ (by omega)).trans K2_4.out⟩
      clear hrun hgoa hw9 o9 kpa kp9 hbut
      have o1 := O_4.out.2.1.cell 1
      have oa := HGOA.out.cell 1
      have fa := HGOA.out.free 1
      simp only [List.getElem?_cons_zero, List.getElem?_cons_succ] at o1 oa
      go_wp2_with (at_builtin; refine Go.Lib.wpList_append_run _ rfl _ _ _ _ rfl _ _ rfl rfl _ _ HRUN.out ?_)
      rw [← HW9.out]
      clear o1 oa fa
      clear y0 y1 x0 x1 x2 x3
      have hf9 : Aside ((rows.take (i + 1)).foldl (putStep ty (keyT row) row) ([], false) = (l ++ [row], true)) := ⟨by rw [List.take_succ_eq_append_getElem hlt2, List.foldl_append, hf.out]; show putStep ty (keyT row) row (l, p) rows[i] = _; unfold putStep; rw [← HC.out]; rw [if_pos ⟨rfl, HT1.out⟩]⟩
      have hl9 : (l ++ [row]).length ≤ 2 * (i + 1) := by have := HM.out; simp only [List.length_append, List.length_cons, List.length_nil, this]; omega
      clear hf HC
      go_wp2_with fail
      go_roundw
      case rel => exact ⟨i + 1, _, _, _, by omega, by first | rfl | trivial, by go_num, hl9, hf9, K0_5, K1_5, K2_5, O_5⟩
      case measure => first | (simp [intOf]; done) | (simp [intOf]; omega)
    by_cases hb : 0 < c ∧ p = false
    · obtain ⟨hc0, rfl⟩ := hb
      have hc1 : (c == 0) = false := by simp; omega
      have y0 := K0_4.out.cell 0
      have y1 := K0_4.out.cell 1
      have x0 := K1_4.out.cell 0
      have x1 := K1_4.out.cell 1
      have x2 := K1_4.out.cell 2
      have x3 := K1_4.out.cell 3
      simp only [List.getElem?_cons_zero, List.getElem?_cons_succ] at y0 y1 x0 x1 x2 x3
      obtain ⟨g_5, cap_5, wa_5, w_5, hrun, hgoa, hw9, o9, kpa, kp9, hbut⟩ := O_4.out.app HM.out (by omega) row [.int .i64 row.kind, .int .i64 row.num, .string row.str, .slice (some ⟨bk, ok, none⟩) row.kids.length z3c] RR.out w4.heap.size rfl
      have HRUN := Aside.mk hrun
      have HGOA := Aside.mk hgoa
      have HBUT := Aside.mk hbut
      have HW9 := Aside.mk hw9
      have KPA := Aside.mk kpa
      have O_5 := Aside.mk o9
      have K0_5 : Aside (Blk w_5 w.heap.size 42 [.int .i64 ty, .slice (some ⟨b, o, none⟩) n c1]) := ⟨(kp9 _ (by omega)).trans K0_4.out⟩
      have K1_5 : Aside (Blk w_5 (w.heap.size + 1) 26 [.int .i64 row.kind, .int .i64 row.num, .string row.str, .slice (some ⟨bk, ok, none⟩) row.kids.length z3c]) := ⟨(kp9 _ (by omega)).trans K1_4.out⟩
      have K2_5 : Aside (Blk w_5 (w.heap.size + 1 + 1) 42 [.int .i64 0, .slice none 0 0]) := ⟨(kp9 _ (by omega)).trans K2_4.out⟩
      clear hrun hgoa hw9 o9 kpa kp9 hbut
      have o1 := O_4.out.2.1.cell 1
      have oa := HGOA.out.cell 1
      have fa := HGOA.out.free 1
      simp only [List.getElem?_cons_zero, List.getElem?_cons_succ] at o1 oa
      go_wp2_with (at_builtin; refine Go.Lib.wpList_append_run _ rfl _ _ _ _ rfl _ _ rfl rfl _ _ HRUN.out ?_)
      rw [← HW9.out]
      clear o1 oa fa
      clear y0 y1 x0 x1 x2 x3
      have HM2 : Aside ((l ++ [row]).length = m + 1) := ⟨by rw [List.length_append, HM.out]; rfl⟩
      have hn0 : ¬ c = 0 := by omega
      clear HRUN HGOA HBUT HW9 KPA K0_4 K1_4 K2_4 O_4
      by_cases h2 : ty = 2
      · have hty : (ty == 2) = true := by simp [h2]
        have H2 := Aside.mk h2
        clear h2
        have y0 := K0_5.out.cell 0
        have y1 := K0_5.out.cell 1
        have x0 := K1_5.out.cell 0
        have x1 := K1_5.out.cell 1
        have x2 := K1_5.out.cell 2
        have x3 := K1_5.out.cell 3
        simp only [List.getElem?_cons_zero, List.getElem?_cons_succ] at y0 y1 x0 x1 x2 x3
        have e10 := (O_5.out.2.2.2.1.cell (p := ⟨b, o + i * 4, none⟩) hbo).trans EI0.out
        have e11 := (O_5.out.2.2.2.1.cell (p := ⟨b, o + i * 4 + 1, none⟩) hbo).trans EI1.out
        have e12 := (O_5.out.2.2.2.1.cell (p := ⟨b, o + i * 4 + 2, none⟩) hbo).trans EI2.out
        have e13 := (O_5.out.2.2.2.1.cell (p := ⟨b, o + i * 4 + 3, none⟩) hbo).trans EI3.out
        have l0 : w.heap.size < w_5.heap.size := K0_5.out.lt
        have l1 : w.heap.size + 1 < w_5.heap.size := K1_5.out.lt
        have lb : b < w_5.heap.size := Nat.lt_of_lt_of_le hbo O_5.out.2.2.2.1.size
        have RQ := Aside.mk (Rec.term.old (w1 := w_5.drew) RI.out O_5.out.2.2.2.1.drew)
        have RW := Aside.mk (Rec.term.old (w1 := w_5.drew) HK.out O_5.out.2.2.2.1.drew)
        obtain ⟨sk, hsk⟩ : ∃ sk, sk = sameB rows[i] row := ⟨_, rfl⟩
        have HSK := Aside.mk hsk
        clear hsk
        go_wp2_with fail
        refine region_env [(0, true), (1, true), (2, true), (3, true), (4, true), (5, true), (6, true), (7, true), (8, true), (9, true), (10, false), (11, true)] (fun w' => Below w_5.heap.size w_5 w') 108 rfl (by kernel_rfl) (by kernel_rfl) (fun _ _ d _ _ h => by cases d <;> exact h) ((Below.refl _ _).drew) (fun ops fr HFR HSZ hl => ?_)
        have hl_0 := ops_start hl
        clear hl
        obtain ⟨H0, hl_1⟩ := ops_next 0 1 rfl hl_0
        clear hl_0
        obtain ⟨H1, hl_2⟩ := ops_next 1 2 rfl hl_1
        clear hl_1
        obtain ⟨H2, hl_3⟩ := ops_next 2 3 rfl hl_2
        clear hl_2
        obtain ⟨H3, hl_4⟩ := ops_next 3 4 rfl hl_3
        clear hl_3
        obtain ⟨H4, hl_5⟩ := ops_next 4 5 rfl hl_4
        clear hl_4
        obtain ⟨H5, hl_6⟩ := ops_next 5 6 rfl hl_5
        clear hl_5
        obtain ⟨H6, hl_7⟩ := ops_next 6 7 rfl hl_6
        clear hl_6
        obtain ⟨H7, hl_8⟩ := ops_next 7 8 rfl hl_7
        clear hl_7
        obtain ⟨H8, hl_9⟩ := ops_next 8 9 rfl hl_8
        clear hl_8
        obtain ⟨H9, hl_10⟩ := ops_next 9 10 rfl hl_9
        clear hl_9
        obtain ⟨H10, hl_11⟩ := ops_next 10 11 rfl hl_10
        clear hl_10
        obtain ⟨H11, hl_12⟩ := ops_next 11 12 rfl hl_11
        clear hl_11
        clear hl_12
        have x_2 : ext fr 2 = _ := congrArg (fun a => Act.eval a (.tmp 2)) HFR.out
        conv at x_2 => rhs; simp only [Act.eval, Array.getD_eq_getD_getElem?, List.getElem?_toArray, List.getElem?_cons_succ, List.getElem?_cons_zero, Option.getD_some]
        have x_8 : ext fr 8 = _ := congrArg (fun a => Act.eval a (.tmp 8)) HFR.out
        conv at x_8 => rhs; simp only [Act.eval, Array.getD_eq_getD_getElem?, List.getElem?_toArray, List.getElem?_cons_succ, List.getElem?_cons_zero, Option.getD_some]
        have x_3 : ext fr 3 = _ := congrArg (fun a => Act.eval a (.tmp 3)) HFR.out
        conv at x_3 => rhs; simp only [Act.eval, Array.getD_eq_getD_getElem?, List.getElem?_toArray, List.getElem?_cons_succ, List.getElem?_cons_zero, Option.getD_some]
        refine env_yes HSZ H0.out ?_ (fun w' hS => ?_) ?_
        rotate_left
        (go_simp
         rfl)
        refine env_yes HSZ H1.out ?_ (fun w' hS => ?_) ?_
        rotate_left
        (have h := (hS.cell (p := ⟨w.heap.size, 0, none⟩) l0).trans y0
         go_simp
         rfl)
        refine env_yes HSZ H2.out ?_ (fun w' hS => ?_) ?_
        rotate_left
        (go_simp
         rfl)
        refine env_yes HSZ H3.out ?_ (fun w' hS => ?_) ?_
        rotate_left
        (go_simp
         rfl)
        refine env_on HSZ H4.out H3.out (by first | rfl | go_simp) ?_ (fun w' hS => ?_) ?_
        rotate_left
        (go_simp
         rfl)
        refine env_on HSZ H5.out H3.out (by first | rfl | go_simp) ?_ (fun w' hS => ?_) ?_
        rotate_left
        (have h := (hS.cell (p := ⟨w.heap.size, 1, none⟩) l0).trans y1
         go_simp
         rfl)
        refine env_on HSZ H6.out H3.out (by first | rfl | go_simp) ?_ (fun w' hS => ?_) ?_
        rotate_left
        (go_simp
         rfl)
        refine env_on HSZ H7.out H3.out (by first | rfl | go_simp) ?_ (fun w' hS => ?_) ?_
        rotate_left
        (go_simp
         rfl)
        refine env_on HSZ H8.out H3.out (by first | rfl | go_simp) ?_ (fun w' hS => ?_) ?_
        rotate_left
        (have h0 := (hS.cell (p := ⟨b, o + i * 4, none⟩) lb).trans e10
         have h1 := (hS.cell (p := ⟨b, o + i * 4 + 1, none⟩) lb).trans e11
         have h2 := (hS.cell (p := ⟨b, o + i * 4 + 2, none⟩) lb).trans e12
         have h3 := (hS.cell (p := ⟨b, o + i * 4 + 3, none⟩) lb).trans e13
         go_simp
         rfl)
        refine env_on HSZ H9.out H3.out (by first | rfl | go_simp) ?_ (fun w' hS => ?_) ?_
        rotate_left
        (have h0 := (hS.cell (p := ⟨w.heap.size + 1, 0, none⟩) l1).trans x0
         have h1 := (hS.cell (p := ⟨w.heap.size + 1, 1, none⟩) l1).trans x1
         have h2 := (hS.cell (p := ⟨w.heap.size + 1, 2, none⟩) l1).trans x2
         have h3 := (hS.cell (p := ⟨w.heap.size + 1, 3, none⟩) l1).trans x3
         go_simp
         rfl)
        refine env_call_on HSZ H10.out H3.out (by first | rfl | go_simp) ?_ ?_ ?_ ?_
        rotate_left 2
        (go_simp
         first | rfl | (constructor <;> rfl))
        refine (l04Same rows[i] row [.int .i64 rows[i].kind, .int .i64 rows[i].num, .string rows[i].str, .slice (some ⟨bk1, ok1, none⟩) rows[i].kids.length cap1] [.int .i64 row.kind, .int .i64 row.num, .string row.str, .slice (some ⟨bk, ok, none⟩) row.kids.length z3c] _ RQ.out RW.out W1 hkw).mono ?_
        rintro e w6 ⟨rfl, hbn⟩
        have K0_6 := Aside.mk (K0_5.out.drew.below hbn)
        have K1_6 := Aside.mk (K1_5.out.drew.below hbn)
        have K2_6 := Aside.mk (K2_5.out.drew.below hbn)
        have O_6 := Aside.mk (O_5.out.below (below_later (Below.refl _ _).drew hbn))
        refine ⟨_, rfl, below_later (Below.refl _ _).drew hbn, ?_⟩
        rw [← HSK.out]
        clear hbn
        refine env_yes HSZ H11.out ?_ (fun w' hS => ?_) ?_
        rotate_left
        (go_simp
         rfl)
        refine env_end ?_
        have hfr := HFR.out
        clear HFR HSZ H0 H1 H2 H3 H4 H5 H6 H7 H8 H9 H10 H11 x_2 x_8 x_3
        subst hfr
        simp only [putAll, Act.put, List.setIfInBounds_toArray, List.set_cons_succ, List.set_cons_zero]
        clear y0 y1 x0 x1 x2 x3 e10 e11 e12 e13 l0 l1 lb RQ RW K0_5 K1_5 K2_5 O_5
        cases sk
        · skip
          have y0 := K0_6.out.cell 0
          have y1 := K0_6.out.cell 1
          have x0 := K1_6.out.cell 0
          have x1 := K1_6.out.cell 1
          have x2 := K1_6.out.cell 2
          have x3 := K1_6.out.cell 3
          simp only [List.getElem?_cons_zero, List.getElem?_cons_succ] at y0 y1 x0 x1 x2 x3
          have OD := Aside.mk (O_6.out.below (w2 := w6.drew) (Below.refl _ _).drew)
          have RQ := Aside.mk (Rec.term.frame RI.out (w' := w6.drew) (fun b hb => OD.out.2.2.2.1.block b hb) (fun _ h => h))
          obtain ⟨g_6z, cap_6z, wa_6z, w_6z, hrun, hgoa, hw9, o9, kpa, kp9, hbut⟩ := OD.out.app HM2.out (by omega) rows[i] [.int .i64 rows[i].kind, .int .i64 rows[i].num, .string rows[i].str, .slice (some ⟨bk1, ok1, none⟩) rows[i].kids.length cap1] RQ.out w6.heap.size rfl
          have HRUN := Aside.mk hrun
          have HGOA := Aside.mk hgoa
          have HBUT := Aside.mk hbut
          have HW9 := Aside.mk hw9
          have KPA := Aside.mk kpa
          have O_6z := Aside.mk o9
          have K0_6z : Aside (Blk w_6z w.heap.size 42 [.int .i64 ty, .slice (some ⟨b, o, none⟩) n c1]) := ⟨(kp9 _ (by omega)).trans K0_6.out⟩
          have K1_6z : Aside (Blk w_6z (w.heap.size + 1) 26 [.int .i64 row.kind, .int .i64 row.num, .string row.str, .slice (some ⟨bk, ok, none⟩) row.kids.length z3c]) := ⟨(kp9 _ (by omega)).trans K1_6.out⟩
          have K2_6z : Aside (Blk w_6z (w.heap.size + 1 + 1) 42 [.int .i64 0, .slice none 0 0]) := ⟨(kp9 _ (by omega)).trans K2_6.out⟩
          clear hrun hgoa hw9 o9 kpa kp9 hbut
          have HBUT2 : Aside (But (fun c => c = go ∨ (Value.slice (some ⟨g_5, 0, none⟩) (m + 1) cap_5).ownBlock = some c) w6 wa_6z) := ⟨⟨HBUT.out.os, HBUT.out.tape, HBUT.out.output, HBUT.out.size, HBUT.out.block⟩⟩
          have e10 := (O_6.out.2.2.2.1.cell (p := ⟨b, o + i * 4, none⟩) hbo).trans EI0.out
          have e11 := (O_6.out.2.2.2.1.cell (p := ⟨b, o + i * 4 + 1, none⟩) hbo).trans EI1.out
          have e12 := (O_6.out.2.2.2.1.cell (p := ⟨b, o + i * 4 + 2, none⟩) hbo).trans EI2.out
          have e13 := (O_6.out.2.2.2.1.cell (p := ⟨b, o + i * 4 + 3, none⟩) hbo).trans EI3.out
          have o1 := O_6.out.2.1.cell 1
          simp only [List.getElem?_cons_zero, List.getElem?_cons_succ] at o1
          have l0 : w.heap.size < w6.heap.size := K0_6.out.lt
          have lb : b < w6.heap.size := Nat.lt_of_lt_of_le hbo O_6.out.2.2.2.1.size
          have lo : go < w6.heap.size := O_6.out.2.1.lt
          have HWL : Aside (w.heap.size ≤ w6.heap.size) := ⟨O_6.out.2.2.2.1.size⟩
          clear x0 x1 x2 x3
          go_wp2_with fail
          refine region_env2 [(0, true), (1, true), (2, true), (3, true), (4, true), (5, true), (6, true), (7, false), (8, false), (9, true), (10, false)] (fun w' => Below w6.heap.size w6 w') (fun w' => But (fun c => c = go ∨ (Value.slice (some ⟨g_5, 0, none⟩) (m + 1) cap_5).ownBlock = some c) w6 w') 8 108 rfl (by kernel_rfl) (by kernel_rfl) (fun _ _ d _ _ h => by cases d <;> exact h) (fun w' h => But.below h) ((Below.refl _ _).drew) (fun ops fr HFR HSZ HWT hl => ?_)
          have hl_0 := ops_start hl
          clear hl
          obtain ⟨H0, hl_1⟩ := ops_next 0 1 rfl hl_0
          clear hl_0
          obtain ⟨H1, hl_2⟩ := ops_next 1 2 rfl hl_1
          clear hl_1
          obtain ⟨H2, hl_3⟩ := ops_next 2 3 rfl hl_2
          clear hl_2
          obtain ⟨H3, hl_4⟩ := ops_next 3 4 rfl hl_3
          clear hl_3
          obtain ⟨H4, hl_5⟩ := ops_next 4 5 rfl hl_4
          clear hl_4
          obtain ⟨H5, hl_6⟩ := ops_next 5 6 rfl hl_5
          clear hl_5
          obtain ⟨H6, hl_7⟩ := ops_next 6 7 rfl hl_6
          clear hl_6
          obtain ⟨H7, hl_8⟩ := ops_next 7 8 rfl hl_7
          clear hl_7
          obtain ⟨H8, hl_9⟩ := ops_next 8 9 rfl hl_8
          clear hl_8
          obtain ⟨H9, hl_10⟩ := ops_next 9 10 rfl hl_9
          clear hl_9
          obtain ⟨H10, hl_11⟩ := ops_next 10 11 rfl hl_10
          clear hl_10
          clear hl_11
          have x_6 : ext fr 6 = _ := congrArg (fun a => Act.eval a (.tmp 6)) HFR.out
          conv at x_6 => rhs; simp only [Act.eval, Array.getD_eq_getD_getElem?, List.getElem?_toArray, List.getElem?_cons_succ, List.getElem?_cons_zero, Option.getD_some]
          have x_2 : ext fr 2 = _ := congrArg (fun a => Act.eval a (.tmp 2)) HFR.out
          conv at x_2 => rhs; simp only [Act.eval, Array.getD_eq_getD_getElem?, List.getElem?_toArray, List.getElem?_cons_succ, List.getElem?_cons_zero, Option.getD_some]
          have x_8 : ext fr 8 = _ := congrArg (fun a => Act.eval a (.tmp 8)) HFR.out
          conv at x_8 => rhs; simp only [Act.eval, Array.getD_eq_getD_getElem?, List.getElem?_toArray, List.getElem?_cons_succ, List.getElem?_cons_zero, Option.getD_some]
          refine env2_yes HSZ (by decide) H0.out ?_ (fun w' hS => ?_) ?_
          rotate_left
          (go_simp
           rfl)
          refine env2_early HSZ (by decide) HWT (by kernel_rfl) H1.out ?_ (fun w' hS => ?_) ?_
          rotate_left
          (have h := (hS.cell (p := ⟨go, 1, none⟩) lo).trans o1
           go_simp
           rfl)
          refine env2_yes HSZ (by decide) H2.out ?_ (fun w' hS => ?_) ?_
          rotate_left
          (go_simp
           rfl)
          refine env2_early HSZ (by decide) HWT (by kernel_rfl) H3.out ?_ (fun w' hS => ?_) ?_
          rotate_left
          (have h := (hS.cell (p := ⟨w.heap.size, 1, none⟩) l0).trans y1
           go_simp
           rfl)
          refine env2_yes HSZ (by decide) H4.out ?_ (fun w' hS => ?_) ?_
          rotate_left
          (go_simp
           rfl)
          refine env2_yes HSZ (by decide) H5.out ?_ (fun w' hS => ?_) ?_
          rotate_left
          (go_simp
           rfl)
          refine env2_early HSZ (by decide) HWT (by kernel_rfl) H6.out ?_ (fun w' hS => ?_) ?_
          rotate_left
          (have h0 := (hS.cell (p := ⟨b, o + i * 4, none⟩) lb).trans e10
           have h1 := (hS.cell (p := ⟨b, o + i * 4 + 1, none⟩) lb).trans e11
           have h2 := (hS.cell (p := ⟨b, o + i * 4 + 2, none⟩) lb).trans e12
           have h3 := (hS.cell (p := ⟨b, o + i * 4 + 3, none⟩) lb).trans e13
           go_simp
           rfl)
          refine env2_run HSZ H7.out ?_ ?_ ?_ ?_ ?_
          rotate_left 2
          (go_simp; constructor <;> rfl)
          exact ((Below.refl _ _).alloc (Nat.le_refl _) _).drew
          refine env2_run HSZ H8.out ?_ ?_ ?_ ?_ ?_
          rotate_left 2
          rotate_right 2
          exact (.slice (some ⟨g_6z, 0, none⟩) (m + 1 + 1) cap_6z)
          exact wa_6z
          exact exec_app (v := .slice (some ⟨g_5, 0, none⟩) (m + 1) cap_5) (v2 := .slice (some ⟨w6.heap.size, 0, none⟩) 1 1) _ _ (by go_simp) (by go_simp) HRUN.out
          exact HBUT2.out
          refine env2_yes HSZ (by decide) H9.out ?_ (fun w' hS => ?_) ?_
          rotate_left
          (go_simp
           rfl)
          refine env2_store HSZ H10.out ?_ ?_ ?_ ?_
          rotate_left 1
          have oa := HGOA.out.cell 1
          have fa := HGOA.out.free 1
          simp only [List.getElem?_cons_zero, List.getElem?_cons_succ] at oa
          (go_simp; rfl)
          exact HBUT2.out.set (p := ⟨go, 1, none⟩) (Or.inl rfl) _
          refine env2_end ?_
          have hfr := HFR.out
          clear HFR HSZ HWT H0 H1 H2 H3 H4 H5 H6 H7 H8 H9 H10 x_6 x_2 x_8
          subst hfr
          simp only [putAll, Act.put, List.setIfInBounds_toArray, List.set_cons_succ, List.set_cons_zero]
          rw [← HW9.out]
          clear y0 y1 e10 e11 e12 e13 o1 l0 lb lo
          have hf9 : Aside ((rows.take (i + 1)).foldl (putStep ty (keyT row) row) ([], false) = (l ++ [row] ++ [rows[i]], true)) := ⟨by rw [List.take_succ_eq_append_getElem hlt2, List.foldl_append, hf.out]; show putStep ty (keyT row) row (l, false) rows[i] = _; unfold putStep; rw [← HC.out, if_neg (fun h => hn0 h.1), if_pos ⟨hc0, rfl⟩]⟩
          have hl9 : (l ++ [row] ++ [rows[i]]).length ≤ 2 * (i + 1) := by have := HM.out; simp only [List.length_append, List.length_cons, List.length_nil, this]; omega
          clear hf HC
          go_wp2_with fail
          go_roundw
          case rel => exact ⟨i + 1, _, _, _, by omega, by first | rfl | trivial, by go_num, hl9, hf9, K0_6z, K1_6z, K2_6z, O_6z⟩
          case measure => first | (simp [intOf]; done) | (simp [intOf]; omega)
        · skip
          have y0 := K0_6.out.cell 0
          have y1 := K0_6.out.cell 1
          have x0 := K1_6.out.cell 0
          have x1 := K1_6.out.cell 1
          have x2 := K1_6.out.cell 2
          have x3 := K1_6.out.cell 3
          simp only [List.getElem?_cons_zero, List.getElem?_cons_succ] at y0 y1 x0 x1 x2 x3
          have OD := Aside.mk (O_6.out.below (w2 := w6.drew) (Below.refl _ _).drew)
          have RQ := Aside.mk (Rec.term.frame RI.out (w' := w6.drew) (fun b hb => OD.out.2.2.2.1.block b hb) (fun _ h => h))
          obtain ⟨g_6z, cap_6z, wa_6z, w_6z, hrun, hgoa, hw9, o9, kpa, kp9, hbut⟩ := OD.out.app HM2.out (by omega) rows[i] [.int .i64 rows[i].kind, .int .i64 rows[i].num, .string rows[i].str, .slice (some ⟨bk1, ok1, none⟩) rows[i].kids.length cap1] RQ.out w6.heap.size rfl
          have HRUN := Aside.mk hrun
          have HGOA := Aside.mk hgoa
          have HBUT := Aside.mk hbut
          have HW9 := Aside.mk hw9
          have KPA := Aside.mk kpa
          have O_6z := Aside.mk o9
          have K0_6z : Aside (Blk w_6z w.heap.size 42 [.int .i64 ty, .slice (some ⟨b, o, none⟩) n c1]) := ⟨(kp9 _ (by omega)).trans K0_6.out⟩
          have K1_6z : Aside (Blk w_6z (w.heap.size + 1) 26 [.int .i64 row.kind, .int .i64 row.num, .string row.str, .slice (some ⟨bk, ok, none⟩) row.kids.length z3c]) := ⟨(kp9 _ (by omega)).trans K1_6.out⟩
          have K2_6z : Aside (Blk w_6z (w.heap.size + 1 + 1) 42 [.int .i64 0, .slice none 0 0]) := ⟨(kp9 _ (by omega)).trans K2_6.out⟩
          clear hrun hgoa hw9 o9 kpa kp9 hbut
          have HBUT2 : Aside (But (fun c => c = go ∨ (Value.slice (some ⟨g_5, 0, none⟩) (m + 1) cap_5).ownBlock = some c) w6 wa_6z) := ⟨⟨HBUT.out.os, HBUT.out.tape, HBUT.out.output, HBUT.out.size, HBUT.out.block⟩⟩
          have e10 := (O_6.out.2.2.2.1.cell (p := ⟨b, o + i * 4, none⟩) hbo).trans EI0.out
          have e11 := (O_6.out.2.2.2.1.cell (p := ⟨b, o + i * 4 + 1, none⟩) hbo).trans EI1.out
          have e12 := (O_6.out.2.2.2.1.cell (p := ⟨b, o + i * 4 + 2, none⟩) hbo).trans EI2.out
          have e13 := (O_6.out.2.2.2.1.cell (p := ⟨b, o + i * 4 + 3, none⟩) hbo).trans EI3.out
          have o1 := O_6.out.2.1.cell 1
          simp only [List.getElem?_cons_zero, List.getElem?_cons_succ] at o1
          have l0 : w.heap.size < w6.heap.size := K0_6.out.lt
          have lb : b < w6.heap.size := Nat.lt_of_lt_of_le hbo O_6.out.2.2.2.1.size
          have lo : go < w6.heap.size := O_6.out.2.1.lt
          have HWL : Aside (w.heap.size ≤ w6.heap.size) := ⟨O_6.out.2.2.2.1.size⟩
          clear x0 x1 x2 x3
          go_wp2_with fail
          refine region_env2 [(0, true), (1, true), (2, true), (3, true), (4, true), (5, true), (6, true), (7, false), (8, false), (9, true), (10, false)] (fun w' => Below w6.heap.size w6 w') (fun w' => But (fun c => c = go ∨ (Value.slice (some ⟨g_5, 0, none⟩) (m + 1) cap_5).ownBlock = some c) w6 w') 8 108 rfl (by kernel_rfl) (by kernel_rfl) (fun _ _ d _ _ h => by cases d <;> exact h) (fun w' h => But.below h) ((Below.refl _ _).drew) (fun ops fr HFR HSZ HWT hl => ?_)
          have hl_0 := ops_start hl
          clear hl
          obtain ⟨H0, hl_1⟩ := ops_next 0 1 rfl hl_0
          clear hl_0
          obtain ⟨H1, hl_2⟩ := ops_next 1 2 rfl hl_1
          clear hl_1
          obtain ⟨H2, hl_3⟩ := ops_next 2 3 rfl hl_2
          clear hl_2
          obtain ⟨H3, hl_4⟩ := ops_next 3 4 rfl hl_3
          clear hl_3
          obtain ⟨H4, hl_5⟩ := ops_next 4 5 rfl hl_4
          clear hl_4
          obtain ⟨H5, hl_6⟩ := ops_next 5 6 rfl hl_5
          clear hl_5
          obtain ⟨H6, hl_7⟩ := ops_next 6 7 rfl hl_6
          clear hl_6
          obtain ⟨H7, hl_8⟩ := ops_next 7 8 rfl hl_7
          clear hl_7
          obtain ⟨H8, hl_9⟩ := ops_next 8 9 rfl hl_8
          clear hl_8
          obtain ⟨H9, hl_10⟩ := ops_next 9 10 rfl hl_9
          clear hl_9
          obtain ⟨H10, hl_11⟩ := ops_next 10 11 rfl hl_10
          clear hl_10
          clear hl_11
          have x_6 : ext fr 6 = _ := congrArg (fun a => Act.eval a (.tmp 6)) HFR.out
          conv at x_6 => rhs; simp only [Act.eval, Array.getD_eq_getD_getElem?, List.getElem?_toArray, List.getElem?_cons_succ, List.getElem?_cons_zero, Option.getD_some]
          have x_2 : ext fr 2 = _ := congrArg (fun a => Act.eval a (.tmp 2)) HFR.out
          conv at x_2 => rhs; simp only [Act.eval, Array.getD_eq_getD_getElem?, List.getElem?_toArray, List.getElem?_cons_succ, List.getElem?_cons_zero, Option.getD_some]
          have x_8 : ext fr 8 = _ := congrArg (fun a => Act.eval a (.tmp 8)) HFR.out
          conv at x_8 => rhs; simp only [Act.eval, Array.getD_eq_getD_getElem?, List.getElem?_toArray, List.getElem?_cons_succ, List.getElem?_cons_zero, Option.getD_some]
          refine env2_yes HSZ (by decide) H0.out ?_ (fun w' hS => ?_) ?_
          rotate_left
          (go_simp
           rfl)
          refine env2_early HSZ (by decide) HWT (by kernel_rfl) H1.out ?_ (fun w' hS => ?_) ?_
          rotate_left
          (have h := (hS.cell (p := ⟨go, 1, none⟩) lo).trans o1
           go_simp
           rfl)
          refine env2_yes HSZ (by decide) H2.out ?_ (fun w' hS => ?_) ?_
          rotate_left
          (go_simp
           rfl)
          refine env2_early HSZ (by decide) HWT (by kernel_rfl) H3.out ?_ (fun w' hS => ?_) ?_
          rotate_left
          (have h := (hS.cell (p := ⟨w.heap.size, 1, none⟩) l0).trans y1
           go_simp
           rfl)
          refine env2_yes HSZ (by decide) H4.out ?_ (fun w' hS => ?_) ?_
          rotate_left
          (go_simp
           rfl)
          refine env2_yes HSZ (by decide) H5.out ?_ (fun w' hS => ?_) ?_
          rotate_left
          (go_simp
           rfl)
          refine env2_early HSZ (by decide) HWT (by kernel_rfl) H6.out ?_ (fun w' hS => ?_) ?_
          rotate_left
          (have h0 := (hS.cell (p := ⟨b, o + i * 4, none⟩) lb).trans e10
           have h1 := (hS.cell (p := ⟨b, o + i * 4 + 1, none⟩) lb).trans e11
           have h2 := (hS.cell (p := ⟨b, o + i * 4 + 2, none⟩) lb).trans e12
           have h3 := (hS.cell (p := ⟨b, o + i * 4 + 3, none⟩) lb).trans e13
           go_simp
           rfl)
          refine env2_run HSZ H7.out ?_ ?_ ?_ ?_ ?_
          rotate_left 2
          (go_simp; constructor <;> rfl)
          exact ((Below.refl _ _).alloc (Nat.le_refl _) _).drew
          refine env2_run HSZ H8.out ?_ ?_ ?_ ?_ ?_
          rotate_left 2
          rotate_right 2
          exact (.slice (some ⟨g_6z, 0, none⟩) (m + 1 + 1) cap_6z)
          exact wa_6z
          exact exec_app (v := .slice (some ⟨g_5, 0, none⟩) (m + 1) cap_5) (v2 := .slice (some ⟨w6.heap.size, 0, none⟩) 1 1) _ _ (by go_simp) (by go_simp) HRUN.out
          exact HBUT2.out
          refine env2_yes HSZ (by decide) H9.out ?_ (fun w' hS => ?_) ?_
          rotate_left
          (go_simp
           rfl)
          refine env2_store HSZ H10.out ?_ ?_ ?_ ?_
          rotate_left 1
          have oa := HGOA.out.cell 1
          have fa := HGOA.out.free 1
          simp only [List.getElem?_cons_zero, List.getElem?_cons_succ] at oa
          (go_simp; rfl)
          exact HBUT2.out.set (p := ⟨go, 1, none⟩) (Or.inl rfl) _
          refine env2_end ?_
          have hfr := HFR.out
          clear HFR HSZ HWT H0 H1 H2 H3 H4 H5 H6 H7 H8 H9 H10 x_6 x_2 x_8
          subst hfr
          simp only [putAll, Act.put, List.setIfInBounds_toArray, List.set_cons_succ, List.set_cons_zero]
          rw [← HW9.out]
          clear y0 y1 e10 e11 e12 e13 o1 l0 lb lo
          have hf9 : Aside ((rows.take (i + 1)).foldl (putStep ty (keyT row) row) ([], false) = (l ++ [row] ++ [rows[i]], true)) := ⟨by rw [List.take_succ_eq_append_getElem hlt2, List.foldl_append, hf.out]; show putStep ty (keyT row) row (l, false) rows[i] = _; unfold putStep; rw [← HC.out, if_neg (fun h => hn0 h.1), if_pos ⟨hc0, rfl⟩]⟩
          have hl9 : (l ++ [row] ++ [rows[i]]).length ≤ 2 * (i + 1) := by have := HM.out; simp only [List.length_append, List.length_cons, List.length_nil, this]; omega
          clear hf HC
          go_wp2_with fail
          go_roundw
          case rel => exact ⟨i + 1, _, _, _, by omega, by first | rfl | trivial, by go_num, hl9, hf9, K0_6z, K1_6z, K2_6z, O_6z⟩
          case measure => first | (simp [intOf]; done) | (simp [intOf]; omega)
      have hne2 : (ty == 2) = false := by simpa using h2
      have y0 := K0_5.out.cell 0
      have y1 := K0_5.out.cell 1
      have x0 := K1_5.out.cell 0
      have x1 := K1_5.out.cell 1
      have x2 := K1_5.out.cell 2
      have x3 := K1_5.out.cell 3
      simp only [List.getElem?_cons_zero, List.getElem?_cons_succ] at y0 y1 x0 x1 x2 x3
      have l0 : w.heap.size < w_5.heap.size := K0_5.out.lt
      clear x0 x1 x2 x3
      go_wp2_with fail
      refine region_env [(0, true), (1, true), (2, true), (3, true), (4, true), (5, true), (6, true), (7, true), (8, true), (9, true), (10, true), (11, true)] (fun w' => Below w_5.heap.size w_5 w') 108 rfl (by kernel_rfl) (by kernel_rfl) (fun _ _ d _ _ h => by cases d <;> exact h) ((Below.refl _ _).drew) (fun ops fr HFR HSZ hl => ?_)
      have hl_0 := ops_start hl
      clear hl
      obtain ⟨H0, hl_1⟩ := ops_next 0 1 rfl hl_0
      clear hl_0
      obtain ⟨H1, hl_2⟩ := ops_next 1 2 rfl hl_1
      clear hl_1
      obtain ⟨H2, hl_3⟩ := ops_next 2 3 rfl hl_2
      clear hl_2
      obtain ⟨H3, hl_4⟩ := ops_next 3 4 rfl hl_3
      clear hl_3
      obtain ⟨H4, hl_5⟩ := ops_next 4 5 rfl hl_4
      clear hl_4
      obtain ⟨H5, hl_6⟩ := ops_next 5 6 rfl hl_5
      clear hl_5
      obtain ⟨H6, hl_7⟩ := ops_next 6 7 rfl hl_6
      clear hl_6
      obtain ⟨H7, hl_8⟩ := ops_next 7 8 rfl hl_7
      clear hl_7
      obtain ⟨H8, hl_9⟩ := ops_next 8 9 rfl hl_8
      clear hl_8
      obtain ⟨H9, hl_10⟩ := ops_next 9 10 rfl hl_9
      clear hl_9
      obtain ⟨H10, hl_11⟩ := ops_next 10 11 rfl hl_10
      clear hl_10
      obtain ⟨H11, hl_12⟩ := ops_next 11 12 rfl hl_11
      clear hl_11
      clear hl_12
      have x_2 : ext fr 2 = _ := congrArg (fun a => Act.eval a (.tmp 2)) HFR.out
      conv at x_2 => rhs; simp only [Act.eval, Array.getD_eq_getD_getElem?, List.getElem?_toArray, List.getElem?_cons_succ, List.getElem?_cons_zero, Option.getD_some]
      refine env_yes HSZ H0.out ?_ (fun w' hS => ?_) ?_
      rotate_left
      (go_simp
       rfl)
      refine env_yes HSZ H1.out ?_ (fun w' hS => ?_) ?_
      rotate_left
      (have h := (hS.cell (p := ⟨w.heap.size, 0, none⟩) l0).trans y0
       go_simp
       rfl)
      refine env_yes HSZ H2.out ?_ (fun w' hS => ?_) ?_
      rotate_left
      (go_simp
       rfl)
      refine env_yes HSZ H3.out ?_ (fun w' hS => ?_) ?_
      rotate_left
      (go_simp
       rfl)
      refine env_off HSZ H4.out H3.out (by first | rfl | go_simp) ?_
      refine env_off HSZ H5.out H3.out (by first | rfl | go_simp) ?_
      refine env_off HSZ H6.out H3.out (by first | rfl | go_simp) ?_
      refine env_off HSZ H7.out H3.out (by first | rfl | go_simp) ?_
      refine env_off HSZ H8.out H3.out (by first | rfl | go_simp) ?_
      refine env_off HSZ H9.out H3.out (by first | rfl | go_simp) ?_
      refine env_off HSZ H10.out H3.out (by first | rfl | go_simp) ?_
      refine env_yes HSZ H11.out ?_ (fun w' hS => ?_) ?_
      rotate_left
      (go_simp
       rfl)
      refine env_end ?_
      have hfr := HFR.out
      clear HFR HSZ H0 H1 H2 H3 H4 H5 H6 H7 H8 H9 H10 H11 x_2
      subst hfr
      simp only [putAll, Act.put, List.setIfInBounds_toArray, List.set_cons_succ, List.set_cons_zero]
      clear y0 y1 l0
      obtain ⟨w7, hw7⟩ : ∃ x, x = w_5.drew := ⟨_, rfl⟩
      have K0_7 : Aside (Blk w7 w.heap.size 42 [.int .i64 ty, .slice (some ⟨b, o, none⟩) n c1]) := ⟨by rw [hw7]; exact K0_5.out⟩
      have K1_7 : Aside (Blk w7 (w.heap.size + 1) 26 [.int .i64 row.kind, .int .i64 row.num, .string row.str, .slice (some ⟨bk, ok, none⟩) row.kids.length z3c]) := ⟨by rw [hw7]; exact K1_5.out⟩
      have K2_7 : Aside (Blk w7 (w.heap.size + 1 + 1) 42 [.int .i64 0, .slice none 0 0]) := ⟨by rw [hw7]; exact K2_5.out⟩
      have O_7 : Aside (OutAt go ty w w7 (l ++ [row]) (.slice (some ⟨g_5, 0, none⟩) (m + 1) cap_5)) := ⟨by rw [hw7]; exact O_5.out.below (Below.refl _ _).drew⟩
      rw [← hw7]
      clear hw7 K0_5 K1_5 K2_5 O_5
      have y0 := K0_7.out.cell 0
      have y1 := K0_7.out.cell 1
      have x0 := K1_7.out.cell 0
      have x1 := K1_7.out.cell 1
      have x2 := K1_7.out.cell 2
      have x3 := K1_7.out.cell 3
      simp only [List.getElem?_cons_zero, List.getElem?_cons_succ] at y0 y1 x0 x1 x2 x3
      have OD := Aside.mk (O_7.out.below (w2 := w7.drew) (Below.refl _ _).drew)
      have RQ := Aside.mk (Rec.term.frame RI.out (w' := w7.drew) (fun b hb => OD.out.2.2.2.1.block b hb) (fun _ h => h))
      obtain ⟨g_7z, cap_7z, wa_7z, w_7z, hrun, hgoa, hw9, o9, kpa, kp9, hbut⟩ := OD.out.app HM2.out (by omega) rows[i] [.int .i64 rows[i].kind, .int .i64 rows[i].num, .string rows[i].str, .slice (some ⟨bk1, ok1, none⟩) rows[i].kids.length cap1] RQ.out w7.heap.size rfl
      have HRUN := Aside.mk hrun
      have HGOA := Aside.mk hgoa
      have HBUT := Aside.mk hbut
      have HW9 := Aside.mk hw9
      have KPA := Aside.mk kpa
      have O_7z := Aside.mk o9
      have K0_7z : Aside (Blk w_7z w.heap.size 42 [.int .i64 ty, .slice (some ⟨b, o, none⟩) n c1]) := ⟨(kp9 _ (by omega)).trans K0_7.out⟩
      have K1_7z : Aside (Blk w_7z (w.heap.size + 1) 26 [.int .i64 row.kind, .int .i64 row.num, .string row.str, .slice (some ⟨bk, ok, none⟩) row.kids.length z3c]) := ⟨(kp9 _ (by omega)).trans K1_7.out⟩
      have K2_7z : Aside (Blk w_7z (w.heap.size + 1 + 1) 42 [.int .i64 0, .slice none 0 0]) := ⟨(kp9 _ (by omega)).trans K2_7.out⟩
      clear hrun hgoa hw9 o9 kpa kp9 hbut
      have HBUT2 : Aside (But (fun c => c = go ∨ (Value.slice (some ⟨g_5, 0, none⟩) (m + 1) cap_5).ownBlock = some c) w7 wa_7z) := ⟨⟨HBUT.out.os, HBUT.out.tape, HBUT.out.output, HBUT.out.size, HBUT.out.block⟩⟩
      have e10 := (O_7.out.2.2.2.1.cell (p := ⟨b, o + i * 4, none⟩) hbo).trans EI0.out
      have e11 := (O_7.out.2.2.2.1.cell (p := ⟨b, o + i * 4 + 1, none⟩) hbo).trans EI1.out
      have e12 := (O_7.out.2.2.2.1.cell (p := ⟨b, o + i * 4 + 2, none⟩) hbo).trans EI2.out
      have e13 := (O_7.out.2.2.2.1.cell (p := ⟨b, o + i * 4 + 3, none⟩) hbo).trans EI3.out
      have o1 := O_7.out.2.1.cell 1
      simp only [List.getElem?_cons_zero, List.getElem?_cons_succ] at o1
      have l0 : w.heap.size < w7.heap.size := K0_7.out.lt
      have lb : b < w7.heap.size := Nat.lt_of_lt_of_le hbo O_7.out.2.2.2.1.size
      have lo : go < w7.heap.size := O_7.out.2.1.lt
      have HWL : Aside (w.heap.size ≤ w7.heap.size) := ⟨O_7.out.2.2.2.1.size⟩
      clear x0 x1 x2 x3
      go_wp2_with fail
      refine region_env2 [(0, true), (1, true), (2, true), (3, true), (4, true), (5, true), (6, true), (7, false), (8, false), (9, true), (10, false)] (fun w' => Below w7.heap.size w7 w') (fun w' => But (fun c => c = go ∨ (Value.slice (some ⟨g_5, 0, none⟩) (m + 1) cap_5).ownBlock = some c) w7 w') 8 108 rfl (by kernel_rfl) (by kernel_rfl) (fun _ _ d _ _ h => by cases d <;> exact h) (fun w' h => But.below h) ((Below.refl _ _).drew) (fun ops fr HFR HSZ HWT hl => ?_)
      have hl_0 := ops_start hl
      clear hl
      obtain ⟨H0, hl_1⟩ := ops_next 0 1 rfl hl_0
      clear hl_0
      obtain ⟨H1, hl_2⟩ := ops_next 1 2 rfl hl_1
      clear hl_1
      obtain ⟨H2, hl_3⟩ := ops_next 2 3 rfl hl_2
      clear hl_2
      obtain ⟨H3, hl_4⟩ := ops_next 3 4 rfl hl_3
      clear hl_3
      obtain ⟨H4, hl_5⟩ := ops_next 4 5 rfl hl_4
      clear hl_4
      obtain ⟨H5, hl_6⟩ := ops_next 5 6 rfl hl_5
      clear hl_5
      obtain ⟨H6, hl_7⟩ := ops_next 6 7 rfl hl_6
      clear hl_6
      obtain ⟨H7, hl_8⟩ := ops_next 7 8 rfl hl_7
      clear hl_7
      obtain ⟨H8, hl_9⟩ := ops_next 8 9 rfl hl_8
      clear hl_8
      obtain ⟨H9, hl_10⟩ := ops_next 9 10 rfl hl_9
      clear hl_9
      obtain ⟨H10, hl_11⟩ := ops_next 10 11 rfl hl_10
      clear hl_10
      clear hl_11
      have x_6 : ext fr 6 = _ := congrArg (fun a => Act.eval a (.tmp 6)) HFR.out
      conv at x_6 => rhs; simp only [Act.eval, Array.getD_eq_getD_getElem?, List.getElem?_toArray, List.getElem?_cons_succ, List.getElem?_cons_zero, Option.getD_some]
      have x_2 : ext fr 2 = _ := congrArg (fun a => Act.eval a (.tmp 2)) HFR.out
      conv at x_2 => rhs; simp only [Act.eval, Array.getD_eq_getD_getElem?, List.getElem?_toArray, List.getElem?_cons_succ, List.getElem?_cons_zero, Option.getD_some]
      have x_8 : ext fr 8 = _ := congrArg (fun a => Act.eval a (.tmp 8)) HFR.out
      conv at x_8 => rhs; simp only [Act.eval, Array.getD_eq_getD_getElem?, List.getElem?_toArray, List.getElem?_cons_succ, List.getElem?_cons_zero, Option.getD_some]
      refine env2_yes HSZ (by decide) H0.out ?_ (fun w' hS => ?_) ?_
      rotate_left
      (go_simp
       rfl)
      refine env2_early HSZ (by decide) HWT (by kernel_rfl) H1.out ?_ (fun w' hS => ?_) ?_
      rotate_left
      (have h := (hS.cell (p := ⟨go, 1, none⟩) lo).trans o1
       go_simp
       rfl)
      refine env2_yes HSZ (by decide) H2.out ?_ (fun w' hS => ?_) ?_
      rotate_left
      (go_simp
       rfl)
      refine env2_early HSZ (by decide) HWT (by kernel_rfl) H3.out ?_ (fun w' hS => ?_) ?_
      rotate_left
      (have h := (hS.cell (p := ⟨w.heap.size, 1, none⟩) l0).trans y1
       go_simp
       rfl)
      refine env2_yes HSZ (by decide) H4.out ?_ (fun w' hS => ?_) ?_
      rotate_left
      (go_simp
       rfl)
      refine env2_yes HSZ (by decide) H5.out ?_ (fun w' hS => ?_) ?_
      rotate_left
      (go_simp
       rfl)
      refine env2_early HSZ (by decide) HWT (by kernel_rfl) H6.out ?_ (fun w' hS => ?_) ?_
      rotate_left
      (have h0 := (hS.cell (p := ⟨b, o + i * 4, none⟩) lb).trans e10
       have h1 := (hS.cell (p := ⟨b, o + i * 4 + 1, none⟩) lb).trans e11
       have h2 := (hS.cell (p := ⟨b, o + i * 4 + 2, none⟩) lb).trans e12
       have h3 := (hS.cell (p := ⟨b, o + i * 4 + 3, none⟩) lb).trans e13
       go_simp
       rfl)
      refine env2_run HSZ H7.out ?_ ?_ ?_ ?_ ?_
      rotate_left 2
      (go_simp; constructor <;> rfl)
      exact ((Below.refl _ _).alloc (Nat.le_refl _) _).drew
      refine env2_run HSZ H8.out ?_ ?_ ?_ ?_ ?_
      rotate_left 2
      rotate_right 2
      exact (.slice (some ⟨g_7z, 0, none⟩) (m + 1 + 1) cap_7z)
      exact wa_7z
      exact exec_app (v := .slice (some ⟨g_5, 0, none⟩) (m + 1) cap_5) (v2 := .slice (some ⟨w7.heap.size, 0, none⟩) 1 1) _ _ (by go_simp) (by go_simp) HRUN.out
      exact HBUT2.out
      refine env2_yes HSZ (by decide) H9.out ?_ (fun w' hS => ?_) ?_
      rotate_left
      (go_simp
       rfl)
      refine env2_store HSZ H10.out ?_ ?_ ?_ ?_
      rotate_left 1
      have oa := HGOA.out.cell 1
      have fa := HGOA.out.free 1
      simp only [List.getElem?_cons_zero, List.getElem?_cons_succ] at oa
      (go_simp; rfl)
      exact HBUT2.out.set (p := ⟨go, 1, none⟩) (Or.inl rfl) _
      refine env2_end ?_
      have hfr := HFR.out
      clear HFR HSZ HWT H0 H1 H2 H3 H4 H5 H6 H7 H8 H9 H10 x_6 x_2 x_8
      subst hfr
      simp only [putAll, Act.put, List.setIfInBounds_toArray, List.set_cons_succ, List.set_cons_zero]
      rw [← HW9.out]
      clear y0 y1 e10 e11 e12 e13 o1 l0 lb lo
      have hf9 : Aside ((rows.take (i + 1)).foldl (putStep ty (keyT row) row) ([], false) = (l ++ [row] ++ [rows[i]], true)) := ⟨by rw [List.take_succ_eq_append_getElem hlt2, List.foldl_append, hf.out]; show putStep ty (keyT row) row (l, false) rows[i] = _; unfold putStep; rw [← HC.out, if_neg (fun h => hn0 h.1), if_pos ⟨hc0, rfl⟩]⟩
      have hl9 : (l ++ [row] ++ [rows[i]]).length ≤ 2 * (i + 1) := by have := HM.out; simp only [List.length_append, List.length_cons, List.length_nil, this]; omega
      clear hf HC
      go_wp2_with fail
      go_roundw
      case rel => exact ⟨i + 1, _, _, _, by omega, by first | rfl | trivial, by go_num, hl9, hf9, K0_7z, K1_7z, K2_7z, O_7z⟩
      case measure => first | (simp [intOf]; done) | (simp [intOf]; omega)
    rcases Int.lt_trichotomy c 0 with hc0 | hc0 | hc0
    · skip
      have hc1 : (c == 0) = false := by simp; omega
      have hc2 : ¬ 0 < c := by omega
      have hn1 : ¬ (c = 0 ∧ ty = 1) := ha
      have hn2 : ¬ (0 < c ∧ p = false) := hb
      have HN1 := Aside.mk hn1
      have HN2 := Aside.mk hn2
      clear hn1 hn2 ha hb
      have y0 := K0_4.out.cell 0
      have y1 := K0_4.out.cell 1
      have x0 := K1_4.out.cell 0
      have x1 := K1_4.out.cell 1
      have x2 := K1_4.out.cell 2
      have x3 := K1_4.out.cell 3
      simp only [List.getElem?_cons_zero, List.getElem?_cons_succ] at y0 y1 x0 x1 x2 x3
      go_wp2_with fail
      clear y0 y1 x0 x1 x2 x3
      by_cases h2 : ty = 2
      · have hty : (ty == 2) = true := by simp [h2]
        have H2 := Aside.mk h2
        clear h2
        have y0 := K0_4.out.cell 0
        have y1 := K0_4.out.cell 1
        have x0 := K1_4.out.cell 0
        have x1 := K1_4.out.cell 1
        have x2 := K1_4.out.cell 2
        have x3 := K1_4.out.cell 3
        simp only [List.getElem?_cons_zero, List.getElem?_cons_succ] at y0 y1 x0 x1 x2 x3
        have e10 := (O_4.out.2.2.2.1.cell (p := ⟨b, o + i * 4, none⟩) hbo).trans EI0.out
        have e11 := (O_4.out.2.2.2.1.cell (p := ⟨b, o + i * 4 + 1, none⟩) hbo).trans EI1.out
        have e12 := (O_4.out.2.2.2.1.cell (p := ⟨b, o + i * 4 + 2, none⟩) hbo).trans EI2.out
        have e13 := (O_4.out.2.2.2.1.cell (p := ⟨b, o + i * 4 + 3, none⟩) hbo).trans EI3.out
        have l0 : w.heap.size < w4.heap.size := K0_4.out.lt
        have l1 : w.heap.size + 1 < w4.heap.size := K1_4.out.lt
        have lb : b < w4.heap.size := Nat.lt_of_lt_of_le hbo O_4.out.2.2.2.1.size
        have RQ := Aside.mk (Rec.term.old (w1 := w4.drew) RI.out O_4.out.2.2.2.1.drew)
        have RW := Aside.mk (Rec.term.old (w1 := w4.drew) HK.out O_4.out.2.2.2.1.drew)
        obtain ⟨sk, hsk⟩ : ∃ sk, sk = sameB rows[i] row := ⟨_, rfl⟩
        have HSK := Aside.mk hsk
        clear hsk
        go_wp2_with fail
        refine region_env [(0, true), (1, true), (2, true), (3, true), (4, true), (5, true), (6, true), (7, true), (8, true), (9, true), (10, false), (11, true)] (fun w' => Below w4.heap.size w4 w') 108 rfl (by kernel_rfl) (by kernel_rfl) (fun _ _ d _ _ h => by cases d <;> exact h) ((Below.refl _ _).drew) (fun ops fr HFR HSZ hl => ?_)
        have hl_0 := ops_start hl
        clear hl
        obtain ⟨H0, hl_1⟩ := ops_next 0 1 rfl hl_0
        clear hl_0
        obtain ⟨H1, hl_2⟩ := ops_next 1 2 rfl hl_1
        clear hl_1
        obtain ⟨H2, hl_3⟩ := ops_next 2 3 rfl hl_2
        clear hl_2
        obtain ⟨H3, hl_4⟩ := ops_next 3 4 rfl hl_3
        clear hl_3
        obtain ⟨H4, hl_5⟩ := ops_next 4 5 rfl hl_4
        clear hl_4
        obtain ⟨H5, hl_6⟩ := ops_next 5 6 rfl hl_5
        clear hl_5
        obtain ⟨H6, hl_7⟩ := ops_next 6 7 rfl hl_6
        clear hl_6
        obtain ⟨H7, hl_8⟩ := ops_next 7 8 rfl hl_7
        clear hl_7
        obtain ⟨H8, hl_9⟩ := ops_next 8 9 rfl hl_8
        clear hl_8
        obtain ⟨H9, hl_10⟩ := ops_next 9 10 rfl hl_9
        clear hl_9
        obtain ⟨H10, hl_11⟩ := ops_next 10 11 rfl hl_10
        clear hl_10
        obtain ⟨H11, hl_12⟩ := ops_next 11 12 rfl hl_11
        clear hl_11
        clear hl_12
        have x_2 : ext fr 2 = _ := congrArg (fun a => Act.eval a (.tmp 2)) HFR.out
        conv at x_2 => rhs; simp only [Act.eval, Array.getD_eq_getD_getElem?, List.getElem?_toArray, List.getElem?_cons_succ, List.getElem?_cons_zero, Option.getD_some]
        have x_8 : ext fr 8 = _ := congrArg (fun a => Act.eval a (.tmp 8)) HFR.out
        conv at x_8 => rhs; simp only [Act.eval, Array.getD_eq_getD_getElem?, List.getElem?_toArray, List.getElem?_cons_succ, List.getElem?_cons_zero, Option.getD_some]
        have x_3 : ext fr 3 = _ := congrArg (fun a => Act.eval a (.tmp 3)) HFR.out
        conv at x_3 => rhs; simp only [Act.eval, Array.getD_eq_getD_getElem?, List.getElem?_toArray, List.getElem?_cons_succ, List.getElem?_cons_zero, Option.getD_some]
        refine env_yes HSZ H0.out ?_ (fun w' hS => ?_) ?_
        rotate_left
        (go_simp
         rfl)
        refine env_yes HSZ H1.out ?_ (fun w' hS => ?_) ?_
        rotate_left
        (have h := (hS.cell (p := ⟨w.heap.size, 0, none⟩) l0).trans y0
         go_simp
         rfl)
        refine env_yes HSZ H2.out ?_ (fun w' hS => ?_) ?_
        rotate_left
        (go_simp
         rfl)
        refine env_yes HSZ H3.out ?_ (fun w' hS => ?_) ?_
        rotate_left
        (go_simp
         rfl)
        refine env_on HSZ H4.out H3.out (by first | rfl | go_simp) ?_ (fun w' hS => ?_) ?_
        rotate_left
        (go_simp
         rfl)
        refine env_on HSZ H5.out H3.out (by first | rfl | go_simp) ?_ (fun w' hS => ?_) ?_
        rotate_left
        (have h := (hS.cell (p := ⟨w.heap.size, 1, none⟩) l0).trans y1
         go_simp
         rfl)
        refine env_on HSZ H6.out H3.out (by first | rfl | go_simp) ?_ (fun w' hS => ?_) ?_
        rotate_left
        (go_simp
         rfl)
        refine env_on HSZ H7.out H3.out (by first | rfl | go_simp) ?_ (fun w' hS => ?_) ?_
        rotate_left
        (go_simp
         rfl)
        refine env_on HSZ H8.out H3.out (by first | rfl | go_simp) ?_ (fun w' hS => ?_) ?_
        rotate_left
        (have h0 := (hS.cell (p := ⟨b, o + i * 4, none⟩) lb).trans e10
         have h1 := (hS.cell (p := ⟨b, o + i * 4 + 1, none⟩) lb).trans e11
         have h2 := (hS.cell (p := ⟨b, o + i * 4 + 2, none⟩) lb).trans e12
         have h3 := (hS.cell (p := ⟨b, o + i * 4 + 3, none⟩) lb).trans e13
         go_simp
         rfl)
        refine env_on HSZ H9.out H3.out (by first | rfl | go_simp) ?_ (fun w' hS => ?_) ?_
        rotate_left
        (have h0 := (hS.cell (p := ⟨w.heap.size + 1, 0, none⟩) l1).trans x0
         have h1 := (hS.cell (p := ⟨w.heap.size + 1, 1, none⟩) l1).trans x1
         have h2 := (hS.cell (p := ⟨w.heap.size + 1, 2, none⟩) l1).trans x2
         have h3 := (hS.cell (p := ⟨w.heap.size + 1, 3, none⟩) l1).trans x3
         go_simp
         rfl)
        refine env_call_on HSZ H10.out H3.out (by first | rfl | go_simp) ?_ ?_ ?_ ?_
        rotate_left 2
        (go_simp
         first | rfl | (constructor <;> rfl))
        refine (l04Same rows[i] row [.int .i64 rows[i].kind, .int .i64 rows[i].num, .string rows[i].str, .slice (some ⟨bk1, ok1, none⟩) rows[i].kids.length cap1] [.int .i64 row.kind, .int .i64 row.num, .string row.str, .slice (some ⟨bk, ok, none⟩) row.kids.length z3c] _ RQ.out RW.out W1 hkw).mono ?_
        rintro e w6 ⟨rfl, hbn⟩
        have K0_6 := Aside.mk (K0_4.out.drew.below hbn)
        have K1_6 := Aside.mk (K1_4.out.drew.below hbn)
        have K2_6 := Aside.mk (K2_4.out.drew.below hbn)
        have O_6 := Aside.mk (O_4.out.below (below_later (Below.refl _ _).drew hbn))
        refine ⟨_, rfl, below_later (Below.refl _ _).drew hbn, ?_⟩
        rw [← HSK.out]
        clear hbn
        refine env_yes HSZ H11.out ?_ (fun w' hS => ?_) ?_
        rotate_left
        (go_simp
         rfl)
        refine env_end ?_
        have hfr := HFR.out
        clear HFR HSZ H0 H1 H2 H3 H4 H5 H6 H7 H8 H9 H10 H11 x_2 x_8 x_3
        subst hfr
        simp only [putAll, Act.put, List.setIfInBounds_toArray, List.set_cons_succ, List.set_cons_zero]
        clear y0 y1 x0 x1 x2 x3 e10 e11 e12 e13 l0 l1 lb RQ RW K0_4 K1_4 K2_4 O_4
        cases sk
        · skip
          have y0 := K0_6.out.cell 0
          have y1 := K0_6.out.cell 1
          have x0 := K1_6.out.cell 0
          have x1 := K1_6.out.cell 1
          have x2 := K1_6.out.cell 2
          have x3 := K1_6.out.cell 3
          simp only [List.getElem?_cons_zero, List.getElem?_cons_succ] at y0 y1 x0 x1 x2 x3
          have OD := Aside.mk (O_6.out.below (w2 := w6.drew) (Below.refl _ _).drew)
          have RQ := Aside.mk (Rec.term.frame RI.out (w' := w6.drew) (fun b hb => OD.out.2.2.2.1.block b hb) (fun _ h => h))
          obtain ⟨g_6z, cap_6z, wa_6z, w_6z, hrun, hgoa, hw9, o9, kpa, kp9, hbut⟩ := OD.out.app HM.out (by omega) rows[i] [.int .i64 rows[i].kind, .int .i64 rows[i].num, .string rows[i].str, .slice (some ⟨bk1, ok1, none⟩) rows[i].kids.length cap1] RQ.out w6.heap.size rfl
          have HRUN := Aside.mk hrun
          have HGOA := Aside.mk hgoa
          have HBUT := Aside.mk hbut
          have HW9 := Aside.mk hw9
          have KPA := Aside.mk kpa
          have O_6z := Aside.mk o9
          have K0_6z : Aside (Blk w_6z w.heap.size 42 [.int .i64 ty, .slice (some ⟨b, o, none⟩) n c1]) := ⟨(kp9 _ (by omega)).trans K0_6.out⟩
          have K1_6z : Aside (Blk w_6z (w.heap.size + 1) 26 [.int .i64 row.kind, .int .i64 row.num, .string row.str, .slice (some ⟨bk, ok, none⟩) row.kids.length z3c]) := ⟨(kp9 _ (by omega)).trans K1_6.out⟩
          have K2_6z : Aside (Blk w_6z (w.heap.size + 1 + 1) 42 [.int .i64 0, .slice none 0 0]) := ⟨(kp9 _ (by omega)).trans K2_6.out⟩
          clear hrun hgoa hw9 o9 kpa kp9 hbut
          have HBUT2 : Aside (But (fun c => c = go ∨ (Value.slice Av (m) cv).ownBlock = some c) w6 wa_6z) := ⟨⟨HBUT.out.os, HBUT.out.tape, HBUT.out.output, HBUT.out.size, HBUT.out.block⟩⟩
          have e10 := (O_6.out.2.2.2.1.cell (p := ⟨b, o + i * 4, none⟩) hbo).trans EI0.out
          have e11 := (O_6.out.2.2.2.1.cell (p := ⟨b, o + i * 4 + 1, none⟩) hbo).trans EI1.out
          have e12 := (O_6.out.2.2.2.1.cell (p := ⟨b, o + i * 4 + 2, none⟩) hbo).trans EI2.out
          have e13 := (O_6.out.2.2.2.1.cell (p := ⟨b, o + i * 4 + 3, none⟩) hbo).trans EI3.out
          have o1 := O_6.out.2.1.cell 1
          simp only [List.getElem?_cons_zero, List.getElem?_cons_succ] at o1
          have l0 : w.heap.size < w6.heap.size := K0_6.out.lt
          have lb : b < w6.heap.size := Nat.lt_of_lt_of_le hbo O_6.out.2.2.2.1.size
          have lo : go < w6.heap.size := O_6.out.2.1.lt
          have HWL : Aside (w.heap.size ≤ w6.heap.size) := ⟨O_6.out.2.2.2.1.size⟩
          clear x0 x1 x2 x3
          go_wp2_with fail
          refine region_env2 [(0, true), (1, true), (2, true), (3, true), (4, true), (5, true), (6, true), (7, false), (8, false), (9, true), (10, false)] (fun w' => Below w6.heap.size w6 w') (fun w' => But (fun c => c = go ∨ (Value.slice Av (m) cv).ownBlock = some c) w6 w') 8 108 rfl (by kernel_rfl) (by kernel_rfl) (fun _ _ d _ _ h => by cases d <;> exact h) (fun w' h => But.below h) ((Below.refl _ _).drew) (fun ops fr HFR HSZ HWT hl => ?_)
          have hl_0 := ops_start hl
          clear hl
          obtain ⟨H0, hl_1⟩ := ops_next 0 1 rfl hl_0
          clear hl_0
          obtain ⟨H1, hl_2⟩ := ops_next 1 2 rfl hl_1
          clear hl_1
          obtain ⟨H2, hl_3⟩ := ops_next 2 3 rfl hl_2
          clear hl_2
          obtain ⟨H3, hl_4⟩ := ops_next 3 4 rfl hl_3
          clear hl_3
          obtain ⟨H4, hl_5⟩ := ops_next 4 5 rfl hl_4
          clear hl_4
          obtain ⟨H5, hl_6⟩ := ops_next 5 6 rfl hl_5
          clear hl_5
          obtain ⟨H6, hl_7⟩ := ops_next 6 7 rfl hl_6
          clear hl_6
          obtain ⟨H7, hl_8⟩ := ops_next 7 8 rfl hl_7
          clear hl_7
          obtain ⟨H8, hl_9⟩ := ops_next 8 9 rfl hl_8
          clear hl_8
          obtain ⟨H9, hl_10⟩ := ops_next 9 10 rfl hl_9
          clear hl_9
          obtain ⟨H10, hl_11⟩ := ops_next 10 11 rfl hl_10
          clear hl_10
          clear hl_11
          have x_6 : ext fr 6 = _ := congrArg (fun a => Act.eval a (.tmp 6)) HFR.out
          conv at x_6 => rhs; simp only [Act.eval, Array.getD_eq_getD_getElem?, List.getElem?_toArray, List.getElem?_cons_succ, List.getElem?_cons_zero, Option.getD_some]
          have x_2 : ext fr 2 = _ := congrArg (fun a => Act.eval a (.tmp 2)) HFR.out
          conv at x_2 => rhs; simp only [Act.eval, Array.getD_eq_getD_getElem?, List.getElem?_toArray, List.getElem?_cons_succ, List.getElem?_cons_zero, Option.getD_some]
          have x_8 : ext fr 8 = _ := congrArg (fun a => Act.eval a (.tmp 8)) HFR.out
          conv at x_8 => rhs; simp only [Act.eval, Array.getD_eq_getD_getElem?, List.getElem?_toArray, List.getElem?_cons_succ, List.getElem?_cons_zero, Option.getD_some]
          refine env2_yes HSZ (by decide) H0.out ?_ (fun w' hS => ?_) ?_
          rotate_left
          (go_simp
           rfl)
          refine env2_early HSZ (by decide) HWT (by kernel_rfl) H1.out ?_ (fun w' hS => ?_) ?_
          rotate_left
          (have h := (hS.cell (p := ⟨go, 1, none⟩) lo).trans o1
           go_simp
           rfl)
          refine env2_yes HSZ (by decide) H2.out ?_ (fun w' hS => ?_) ?_
          rotate_left
          (go_simp
           rfl)
          refine env2_early HSZ (by decide) HWT (by kernel_rfl) H3.out ?_ (fun w' hS => ?_) ?_
          rotate_left
          (have h := (hS.cell (p := ⟨w.heap.size, 1, none⟩) l0).trans y1
           go_simp
           rfl)
          refine env2_yes HSZ (by decide) H4.out ?_ (fun w' hS => ?_) ?_
          rotate_left
          (go_simp
           rfl)
          refine env2_yes HSZ (by decide) H5.out ?_ (fun w' hS => ?_) ?_
          rotate_left
          (go_simp
           rfl)
          refine env2_early HSZ (by decide) HWT (by kernel_rfl) H6.out ?_ (fun w' hS => ?_) ?_
          rotate_left
          (have h0 := (hS.cell (p := ⟨b, o + i * 4, none⟩) lb).trans e10
           have h1 := (hS.cell (p := ⟨b, o + i * 4 + 1, none⟩) lb).trans e11
           have h2 := (hS.cell (p := ⟨b, o + i * 4 + 2, none⟩) lb).trans e12
           have h3 := (hS.cell (p := ⟨b, o + i * 4 + 3, none⟩) lb).trans e13
           go_simp
           rfl)
          refine env2_run HSZ H7.out ?_ ?_ ?_ ?_ ?_
          rotate_left 2
          (go_simp; constructor <;> rfl)
          exact ((Below.refl _ _).alloc (Nat.le_refl _) _).drew
          refine env2_run HSZ H8.out ?_ ?_ ?_ ?_ ?_
          rotate_left 2
          rotate_right 2
          exact (.slice (some ⟨g_6z, 0, none⟩) (m + 1) cap_6z)
          exact wa_6z
          exact exec_app (v := .slice Av (m) cv) (v2 := .slice (some ⟨w6.heap.size, 0, none⟩) 1 1) _ _ (by go_simp) (by go_simp) HRUN.out
          exact HBUT2.out
          refine env2_yes HSZ (by decide) H9.out ?_ (fun w' hS => ?_) ?_
          rotate_left
          (go_simp
           rfl)
          refine env2_store HSZ H10.out ?_ ?_ ?_ ?_
          rotate_left 1
          have oa := HGOA.out.cell 1
          have fa := HGOA.out.free 1
          simp only [List.getElem?_cons_zero, List.getElem?_cons_succ] at oa
          (go_simp; rfl)
          exact HBUT2.out.set (p := ⟨go, 1, none⟩) (Or.inl rfl) _
          refine env2_end ?_
          have hfr := HFR.out
          clear HFR HSZ HWT H0 H1 H2 H3 H4 H5 H6 H7 H8 H9 H10 x_6 x_2 x_8
          subst hfr
          simp only [putAll, Act.put, List.setIfInBounds_toArray, List.set_cons_succ, List.set_cons_zero]
          rw [← HW9.out]
          clear y0 y1 e10 e11 e12 e13 o1 l0 lb lo
          have hf9 : Aside ((rows.take (i + 1)).foldl (putStep ty (keyT row) row) ([], false) = (l ++ [rows[i]], p)) := ⟨by rw [List.take_succ_eq_append_getElem hlt2, List.foldl_append, hf.out]; show putStep ty (keyT row) row (l, p) rows[i] = _; unfold putStep; rw [← HC.out, if_neg HN1.out, if_neg HN2.out]; have hs : ¬ T.cmp rows[i] row = 0 := (by have h := HSK.out; unfold sameB at h; simpa using h.symm); simp [hs, H2.out]⟩
          have hl9 : (l ++ [rows[i]]).length ≤ 2 * (i + 1) := by have := HM.out; simp only [List.length_append, List.length_cons, List.length_nil, this]; omega
          clear hf HC
          go_wp2_with fail
          go_roundw
          case rel => exact ⟨i + 1, _, _, _, by omega, by first | rfl | trivial, by go_num, hl9, hf9, K0_6z, K1_6z, K2_6z, O_6z⟩
          case measure => first | (simp [intOf]; done) | (simp [intOf]; omega)
        · skip
          have y0 := K0_6.out.cell 0
          have y1 := K0_6.out.cell 1
          have x0 := K1_6.out.cell 0
          have x1 := K1_6.out.cell 1
          have x2 := K1_6.out.cell 2
          have x3 := K1_6.out.cell 3
          simp only [List.getElem?_cons_zero, List.getElem?_cons_succ] at y0 y1 x0 x1 x2 x3
          have OD := Aside.mk (O_6.out.below (w2 := w6.drew) (Below.refl _ _).drew)
          have RQ := Aside.mk (Rec.term.frame RI.out (w' := w6.drew) (fun b hb => OD.out.2.2.2.1.block b hb) (fun _ h => h))
          obtain ⟨g_6z, cap_6z, wa_6z, w_6z, hrun, hgoa, hw9, o9, kpa, kp9, hbut⟩ := OD.out.app HM.out (by omega) rows[i] [.int .i64 rows[i].kind, .int .i64 rows[i].num, .string rows[i].str, .slice (some ⟨bk1, ok1, none⟩) rows[i].kids.length cap1] RQ.out w6.heap.size rfl
          have HRUN := Aside.mk hrun
          have HGOA := Aside.mk hgoa
          have HBUT := Aside.mk hbut
          have HW9 := Aside.mk hw9
          have KPA := Aside.mk kpa
          have O_6z := Aside.mk o9
          have K0_6z : Aside (Blk w_6z w.heap.size 42 [.int .i64 ty, .slice (some ⟨b, o, none⟩) n c1]) := ⟨(kp9 _ (by omega)).trans K0_6.out⟩
          have K1_6z : Aside (Blk w_6z (w.heap.size + 1) 26 [.int .i64 row.kind, .int .i64 row.num, .string row.str, .slice (some ⟨bk, ok, none⟩) row.kids.length z3c]) := ⟨(kp9 _ (by omega)).trans K1_6.out⟩
          have K2_6z : Aside (Blk w_6z (w.heap.size + 1 + 1) 42 [.int .i64 0, .slice none 0 0]) := ⟨(kp9 _ (by omega)).trans K2_6.out⟩
          clear hrun hgoa hw9 o9 kpa kp9 hbut
          have HBUT2 : Aside (But (fun c => c = go ∨ (Value.slice Av (m) cv).ownBlock = some c) w6 wa_6z) := ⟨⟨HBUT.out.os, HBUT.out.tape, HBUT.out.output, HBUT.out.size, HBUT.out.block⟩⟩
          have e10 := (O_6.out.2.2.2.1.cell (p := ⟨b, o + i * 4, none⟩) hbo).trans EI0.out
          have e11 := (O_6.out.2.2.2.1.cell (p := ⟨b, o + i * 4 + 1, none⟩) hbo).trans EI1.out
          have e12 := (O_6.out.2.2.2.1.cell (p := ⟨b, o + i * 4 + 2, none⟩) hbo).trans EI2.out
          have e13 := (O_6.out.2.2.2.1.cell (p := ⟨b, o + i * 4 + 3, none⟩) hbo).trans EI3.out
          have o1 := O_6.out.2.1.cell 1
          simp only [List.getElem?_cons_zero, List.getElem?_cons_succ] at o1
          have l0 : w.heap.size < w6.heap.size := K0_6.out.lt
          have lb : b < w6.heap.size := Nat.lt_of_lt_of_le hbo O_6.out.2.2.2.1.size
          have lo : go < w6.heap.size := O_6.out.2.1.lt
          have HWL : Aside (w.heap.size ≤ w6.heap.size) := ⟨O_6.out.2.2.2.1.size⟩
          clear x0 x1 x2 x3
          go_wp2_with fail
          refine region_env2 [(0, true), (1, true), (2, true), (3, true), (4, true), (5, true), (6, true), (7, false), (8, false), (9, true), (10, false)] (fun w' => Below w6.heap.size w6 w') (fun w' => But (fun c => c = go ∨ (Value.slice Av (m) cv).ownBlock = some c) w6 w') 8 108 rfl (by kernel_rfl) (by kernel_rfl) (fun _ _ d _ _ h => by cases d <;> exact h) (fun w' h => But.below h) ((Below.refl _ _).drew) (fun ops fr HFR HSZ HWT hl => ?_)
          have hl_0 := ops_start hl
          clear hl
          obtain ⟨H0, hl_1⟩ := ops_next 0 1 rfl hl_0
          clear hl_0
          obtain ⟨H1, hl_2⟩ := ops_next 1 2 rfl hl_1
          clear hl_1
          obtain ⟨H2, hl_3⟩ := ops_next 2 3 rfl hl_2
          clear hl_2
          obtain ⟨H3, hl_4⟩ := ops_next 3 4 rfl hl_3
          clear hl_3
          obtain ⟨H4, hl_5⟩ := ops_next 4 5 rfl hl_4
          clear hl_4
          obtain ⟨H5, hl_6⟩ := ops_next 5 6 rfl hl_5
          clear hl_5
          obtain ⟨H6, hl_7⟩ := ops_next 6 7 rfl hl_6
          clear hl_6
          obtain ⟨H7, hl_8⟩ := ops_next 7 8 rfl hl_7
          clear hl_7
          obtain ⟨H8, hl_9⟩ := ops_next 8 9 rfl hl_8
          clear hl_8
          obtain ⟨H9, hl_10⟩ := ops_next 9 10 rfl hl_9
          clear hl_9
          obtain ⟨H10, hl_11⟩ := ops_next 10 11 rfl hl_10
          clear hl_10
          clear hl_11
          have x_6 : ext fr 6 = _ := congrArg (fun a => Act.eval a (.tmp 6)) HFR.out
          conv at x_6 => rhs; simp only [Act.eval, Array.getD_eq_getD_getElem?, List.getElem?_toArray, List.getElem?_cons_succ, List.getElem?_cons_zero, Option.getD_some]
          have x_2 : ext fr 2 = _ := congrArg (fun a => Act.eval a (.tmp 2)) HFR.out
          conv at x_2 => rhs; simp only [Act.eval, Array.getD_eq_getD_getElem?, List.getElem?_toArray, List.getElem?_cons_succ, List.getElem?_cons_zero, Option.getD_some]
          have x_8 : ext fr 8 = _ := congrArg (fun a => Act.eval a (.tmp 8)) HFR.out
          conv at x_8 => rhs; simp only [Act.eval, Array.getD_eq_getD_getElem?, List.getElem?_toArray, List.getElem?_cons_succ, List.getElem?_cons_zero, Option.getD_some]
          refine env2_yes HSZ (by decide) H0.out ?_ (fun w' hS => ?_) ?_
          rotate_left
          (go_simp
           rfl)
          refine env2_early HSZ (by decide) HWT (by kernel_rfl) H1.out ?_ (fun w' hS => ?_) ?_
          rotate_left
          (have h := (hS.cell (p := ⟨go, 1, none⟩) lo).trans o1
           go_simp
           rfl)
          refine env2_yes HSZ (by decide) H2.out ?_ (fun w' hS => ?_) ?_
          rotate_left
          (go_simp
           rfl)
          refine env2_early HSZ (by decide) HWT (by kernel_rfl) H3.out ?_ (fun w' hS => ?_) ?_
          rotate_left
          (have h := (hS.cell (p := ⟨w.heap.size, 1, none⟩) l0).trans y1
           go_simp
           rfl)
          refine env2_yes HSZ (by decide) H4.out ?_ (fun w' hS => ?_) ?_
          rotate_left
          (go_simp
           rfl)
          refine env2_yes HSZ (by decide) H5.out ?_ (fun w' hS => ?_) ?_
          rotate_left
          (go_simp
           rfl)
          refine env2_early HSZ (by decide) HWT (by kernel_rfl) H6.out ?_ (fun w' hS => ?_) ?_
          rotate_left
          (have h0 := (hS.cell (p := ⟨b, o + i * 4, none⟩) lb).trans e10
           have h1 := (hS.cell (p := ⟨b, o + i * 4 + 1, none⟩) lb).trans e11
           have h2 := (hS.cell (p := ⟨b, o + i * 4 + 2, none⟩) lb).trans e12
           have h3 := (hS.cell (p := ⟨b, o + i * 4 + 3, none⟩) lb).trans e13
           go_simp
           rfl)
          refine env2_run HSZ H7.out ?_ ?_ ?_ ?_ ?_
          rotate_left 2
          (go_simp; constructor <;> rfl)
          exact ((Below.refl _ _).alloc (Nat.le_refl _) _).drew
          refine env2_run HSZ H8.out ?_ ?_ ?_ ?_ ?_
          rotate_left 2
          rotate_right 2
          exact (.slice (some ⟨g_6z, 0, none⟩) (m + 1) cap_6z)
          exact wa_6z
          exact exec_app (v := .slice Av (m) cv) (v2 := .slice (some ⟨w6.heap.size, 0, none⟩) 1 1) _ _ (by go_simp) (by go_simp) HRUN.out
          exact HBUT2.out
          refine env2_yes HSZ (by decide) H9.out ?_ (fun w' hS => ?_) ?_
          rotate_left
          (go_simp
           rfl)
          refine env2_store HSZ H10.out ?_ ?_ ?_ ?_
          rotate_left 1
          have oa := HGOA.out.cell 1
          have fa := HGOA.out.free 1
          simp only [List.getElem?_cons_zero, List.getElem?_cons_succ] at oa
          (go_simp; rfl)
          exact HBUT2.out.set (p := ⟨go, 1, none⟩) (Or.inl rfl) _
          refine env2_end ?_
          have hfr := HFR.out
          clear HFR HSZ HWT H0 H1 H2 H3 H4 H5 H6 H7 H8 H9 H10 x_6 x_2 x_8
          subst hfr
          simp only [putAll, Act.put, List.setIfInBounds_toArray, List.set_cons_succ, List.set_cons_zero]
          rw [← HW9.out]
          clear y0 y1 e10 e11 e12 e13 o1 l0 lb lo
          have hf9 : Aside ((rows.take (i + 1)).foldl (putStep ty (keyT row) row) ([], false) = (l ++ [rows[i]], true)) := ⟨by rw [List.take_succ_eq_append_getElem hlt2, List.foldl_append, hf.out]; show putStep ty (keyT row) row (l, p) rows[i] = _; unfold putStep; rw [← HC.out, if_neg HN1.out, if_neg HN2.out]; have hs : T.cmp rows[i] row = 0 := (by have h := HSK.out; unfold sameB at h; simpa using h.symm); simp [hs, H2.out]⟩
          have hl9 : (l ++ [rows[i]]).length ≤ 2 * (i + 1) := by have := HM.out; simp only [List.length_append, List.length_cons, List.length_nil, this]; omega
          clear hf HC
          go_wp2_with fail
          go_roundw
          case rel => exact ⟨i + 1, _, _, _, by omega, by first | rfl | trivial, by go_num, hl9, hf9, K0_6z, K1_6z, K2_6z, O_6z⟩
          case measure => first | (simp [intOf]; done) | (simp [intOf]; omega)
      have hne2 : (ty == 2) = false := by simpa using h2
      have y0 := K0_4.out.cell 0
      have y1 := K0_4.out.cell 1
      have x0 := K1_4.out.cell 0
      have x1 := K1_4.out.cell 1
      have x2 := K1_4.out.cell 2
      have x3 := K1_4.out.cell 3
      simp only [List.getElem?_cons_zero, List.getElem?_cons_succ] at y0 y1 x0 x1 x2 x3
      have l0 : w.heap.size < w4.heap.size := K0_4.out.lt
      clear x0 x1 x2 x3
      go_wp2_with fail
      refine region_env [(0, true), (1, true), (2, true), (3, true), (4, true), (5, true), (6, true), (7, true), (8, true), (9, true), (10, true), (11, true)] (fun w' => Below w4.heap.size w4 w') 108 rfl (by kernel_rfl) (by kernel_rfl) (fun _ _ d _ _ h => by cases d <;> exact h) ((Below.refl _ _).drew) (fun ops fr HFR HSZ hl => ?_)
      have hl_0 := ops_start hl
      clear hl
      obtain ⟨H0, hl_1⟩ := ops_next 0 1 rfl hl_0
      clear hl_0
      obtain ⟨H1, hl_2⟩ := ops_next 1 2 rfl hl_1
      clear hl_1
      obtain ⟨H2, hl_3⟩ := ops_next 2 3 rfl hl_2
      clear hl_2
      obtain ⟨H3, hl_4⟩ := ops_next 3 4 rfl hl_3
      clear hl_3
      obtain ⟨H4, hl_5⟩ := ops_next 4 5 rfl hl_4
      clear hl_4
      obtain ⟨H5, hl_6⟩ := ops_next 5 6 rfl hl_5
      clear hl_5
      obtain ⟨H6, hl_7⟩ := ops_next 6 7 rfl hl_6
      clear hl_6
      obtain ⟨H7, hl_8⟩ := ops_next 7 8 rfl hl_7
      clear hl_7
      obtain ⟨H8, hl_9⟩ := ops_next 8 9 rfl hl_8
      clear hl_8
      obtain ⟨H9, hl_10⟩ := ops_next 9 10 rfl hl_9
      clear hl_9
      obtain ⟨H10, hl_11⟩ := ops_next 10 11 rfl hl_10
      clear hl_10
      obtain ⟨H11, hl_12⟩ := ops_next 11 12 rfl hl_11
      clear hl_11
      clear hl_12
      have x_2 : ext fr 2 = _ := congrArg (fun a => Act.eval a (.tmp 2)) HFR.out
      conv at x_2 => rhs; simp only [Act.eval, Array.getD_eq_getD_getElem?, List.getElem?_toArray, List.getElem?_cons_succ, List.getElem?_cons_zero, Option.getD_some]
      refine env_yes HSZ H0.out ?_ (fun w' hS => ?_) ?_
      rotate_left
      (go_simp
       rfl)
      refine env_yes HSZ H1.out ?_ (fun w' hS => ?_) ?_
      rotate_left
      (have h := (hS.cell (p := ⟨w.heap.size, 0, none⟩) l0).trans y0
       go_simp
       rfl)
      refine env_yes HSZ H2.out ?_ (fun w' hS => ?_) ?_
      rotate_left
      (go_simp
       rfl)
      refine env_yes HSZ H3.out ?_ (fun w' hS => ?_) ?_
      rotate_left
      (go_simp
       rfl)
      refine env_off HSZ H4.out H3.out (by first | rfl | go_simp) ?_
      refine env_off HSZ H5.out H3.out (by first | rfl | go_simp) ?_
      refine env_off HSZ H6.out H3.out (by first | rfl | go_simp) ?_
      refine env_off HSZ H7.out H3.out (by first | rfl | go_simp) ?_
      refine env_off HSZ H8.out H3.out (by first | rfl | go_simp) ?_
      refine env_off HSZ H9.out H3.out (by first | rfl | go_simp) ?_
      refine env_off HSZ H10.out H3.out (by first | rfl | go_simp) ?_
      refine env_yes HSZ H11.out ?_ (fun w' hS => ?_) ?_
      rotate_left
      (go_simp
       rfl)
      refine env_end ?_
      have hfr := HFR.out
      clear HFR HSZ H0 H1 H2 H3 H4 H5 H6 H7 H8 H9 H10 H11 x_2
      subst hfr
      simp only [putAll, Act.put, List.setIfInBounds_toArray, List.set_cons_succ, List.set_cons_zero]
      clear y0 y1 l0
      obtain ⟨w7, hw7⟩ : ∃ x, x = w4.drew := ⟨_, rfl⟩
      have K0_7 : Aside (Blk w7 w.heap.size 42 [.int .i64 ty, .slice (some ⟨b, o, none⟩) n c1]) := ⟨by rw [hw7]; exact K0_4.out⟩
      have K1_7 : Aside (Blk w7 (w.heap.size + 1) 26 [.int .i64 row.kind, .int .i64 row.num, .string row.str, .slice (some ⟨bk, ok, none⟩) row.kids.length z3c]) := ⟨by rw [hw7]; exact K1_4.out⟩
      have K2_7 : Aside (Blk w7 (w.heap.size + 1 + 1) 42 [.int .i64 0, .slice none 0 0]) := ⟨by rw [hw7]; exact K2_4.out⟩
      have O_7 : Aside (OutAt go ty w w7 (l) (.slice Av (m) cv)) := ⟨by rw [hw7]; exact O_4.out.below (Below.refl _ _).drew⟩
      rw [← hw7]
      clear hw7 K0_4 K1_4 K2_4 O_4
      have y0 := K0_7.out.cell 0
      have y1 := K0_7.out.cell 1
      have x0 := K1_7.out.cell 0
      have x1 := K1_7.out.cell 1
      have x2 := K1_7.out.cell 2
      have x3 := K1_7.out.cell 3
      simp only [List.getElem?_cons_zero, List.getElem?_cons_succ] at y0 y1 x0 x1 x2 x3
      have OD := Aside.mk (O_7.out.below (w2 := w7.drew) (Below.refl _ _).drew)
      have RQ := Aside.mk (Rec.term.frame RI.out (w' := w7.drew) (fun b hb => OD.out.2.2.2.1.block b hb) (fun _ h => h))
      obtain ⟨g_7z, cap_7z, wa_7z, w_7z, hrun, hgoa, hw9, o9, kpa, kp9, hbut⟩ := OD.out.app HM.out (by omega) rows[i] [.int .i64 rows[i].kind, .int .i64 rows[i].num, .string rows[i].str, .slice (some ⟨bk1, ok1, none⟩) rows[i].kids.length cap1] RQ.out w7.heap.size rfl
      have HRUN := Aside.mk hrun
      have HGOA := Aside.mk hgoa
      have HBUT := Aside.mk hbut
      have HW9 := Aside.mk hw9
      have KPA := Aside.mk kpa
      have O_7z := Aside.mk o9
      have K0_7z : Aside (Blk w_7z w.heap.size 42 [.int .i64 ty, .slice (some ⟨b, o, none⟩) n c1]) := ⟨(kp9 _ (by omega)).trans K0_7.out⟩
      have K1_7z : Aside (Blk w_7z (w.heap.size + 1) 26 [.int .i64 row.kind, .int .i64 row.num, .string row.str, .slice (some ⟨bk, ok, none⟩) row.kids.length z3c]) := ⟨(kp9 _ (by omega)).trans K1_7.out⟩
      have K2_7z : Aside (Blk w_7z (w.heap.size + 1 + 1) 42 [.int .i64 0, .slice none 0 0]) := ⟨(kp9 _ (by omega)).trans K2_7.out⟩
      clear hrun hgoa hw9 o9 kpa kp9 hbut
      have HBUT2 : Aside (But (fun c => c = go ∨ (Value.slice Av (m) cv).ownBlock = some c) w7 wa_7z) := ⟨⟨HBUT.out.os, HBUT.out.tape, HBUT.out.output, HBUT.out.size, HBUT.out.block⟩⟩
      have e10 := (O_7.out.2.2.2.1.cell (p := ⟨b, o + i * 4, none⟩) hbo).trans EI0.out
      have e11 := (O_7.out.2.2.2.1.cell (p := ⟨b, o + i * 4 + 1, none⟩) hbo).trans EI1.out
      have e12 := (O_7.out.2.2.2.1.cell (p := ⟨b, o + i * 4 + 2, none⟩) hbo).trans EI2.out
      have e13 := (O_7.out.2.2.2.1.cell (p := ⟨b, o + i * 4 + 3, none⟩) hbo).trans EI3.out
      have o1 := O_7.out.2.1.cell 1
      simp only [List.getElem?_cons_zero, List.getElem?_cons_succ] at o1
      have l0 : w.heap.size < w7.heap.size := K0_7.out.lt
      have lb : b < w7.heap.size := Nat.lt_of_lt_of_le hbo O_7.out.2.2.2.1.size
      have lo : go < w7.heap.size := O_7.out.2.1.lt
      have HWL : Aside (w.heap.size ≤ w7.heap.size) := ⟨O_7.out.2.2.2.1.size⟩
      clear x0 x1 x2 x3
      go_wp2_with fail
      refine region_env2 [(0, true), (1, true), (2, true), (3, true), (4, true), (5, true), (6, true), (7, false), (8, false), (9, true), (10, false)] (fun w' => Below w7.heap.size w7 w') (fun w' => But (fun c => c = go ∨ (Value.slice Av (m) cv).ownBlock = some c) w7 w') 8 108 rfl (by kernel_rfl) (by kernel_rfl) (fun _ _ d _ _ h => by cases d <;> exact h) (fun w' h => But.below h) ((Below.refl _ _).drew) (fun ops fr HFR HSZ HWT hl => ?_)
      have hl_0 := ops_start hl
      clear hl
      obtain ⟨H0, hl_1⟩ := ops_next 0 1 rfl hl_0
      clear hl_0
      obtain ⟨H1, hl_2⟩ := ops_next 1 2 rfl hl_1
      clear hl_1
      obtain ⟨H2, hl_3⟩ := ops_next 2 3 rfl hl_2
      clear hl_2
      obtain ⟨H3, hl_4⟩ := ops_next 3 4 rfl hl_3
      clear hl_3
      obtain ⟨H4, hl_5⟩ := ops_next 4 5 rfl hl_4
      clear hl_4
      obtain ⟨H5, hl_6⟩ := ops_next 5 6 rfl hl_5
      clear hl_5
      obtain ⟨H6, hl_7⟩ := ops_next 6 7 rfl hl_6
      clear hl_6
      obtain ⟨H7, hl_8⟩ := ops_next 7 8 rfl hl_7
      clear hl_7
      obtain ⟨H8, hl_9⟩ := ops_next 8 9 rfl hl_8
      clear hl_8
      obtain ⟨H9, hl_10⟩ := ops_next 9 10 rfl hl_9
      clear hl_9
      obtain ⟨H10, hl_11⟩ := ops_next 10 11 rfl hl_10
      clear hl_10
      clear hl_11
      have x_6 : ext fr 6 = _ := congrArg (fun a => Act.eval a (.tmp 6)) HFR.out
      conv at x_6 => rhs; simp only [Act.eval, Array.getD_eq_getD_getElem?, List.getElem?_toArray, List.getElem?_cons_succ, List.getElem?_cons_zero, Option.getD_some]
      have x_2 : ext fr 2 = _ := congrArg (fun a => Act.eval a (.tmp 2)) HFR.out
      conv at x_2 => rhs; simp only [Act.eval, Array.getD_eq_getD_getElem?, List.getElem?_toArray, List.getElem?_cons_succ, List.getElem?_cons_zero, Option.getD_some]
      have x_8 : ext fr 8 = _ := congrArg (fun a => Act.eval a (.tmp 8)) HFR.out
      conv at x_8 => rhs; simp only [Act.eval, Array.getD_eq_getD_getElem?, List.getElem?_toArray, List.getElem?_cons_succ, List.getElem?_cons_zero, Option.getD_some]
      refine env2_yes HSZ (by decide) H0.out ?_ (fun w' hS => ?_) ?_
      rotate_left
      (go_simp
       rfl)
      refine env2_early HSZ (by decide) HWT (by kernel_rfl) H1.out ?_ (fun w' hS => ?_) ?_
      rotate_left
      (have h := (hS.cell (p := ⟨go, 1, none⟩) lo).trans o1
       go_simp
       rfl)
      refine env2_yes HSZ (by decide) H2.out ?_ (fun w' hS => ?_) ?_
      rotate_left
      (go_simp
       rfl)
      refine env2_early HSZ (by decide) HWT (by kernel_rfl) H3.out ?_ (fun w' hS => ?_) ?_
      rotate_left
      (have h := (hS.cell (p := ⟨w.heap.size, 1, none⟩) l0).trans y1
       go_simp
       rfl)
      refine env2_yes HSZ (by decide) H4.out ?_ (fun w' hS => ?_) ?_
      rotate_left
      (go_simp
       rfl)
      refine env2_yes HSZ (by decide) H5.out ?_ (fun w' hS => ?_) ?_
      rotate_left
      (go_simp
       rfl)
      refine env2_early HSZ (by decide) HWT (by kernel_rfl) H6.out ?_ (fun w' hS => ?_) ?_
      rotate_left
      (have h0 := (hS.cell (p := ⟨b, o + i * 4, none⟩) lb).trans e10
       have h1 := (hS.cell (p := ⟨b, o + i * 4 + 1, none⟩) lb).trans e11
       have h2 := (hS.cell (p := ⟨b, o + i * 4 + 2, none⟩) lb).trans e12
       have h3 := (hS.cell (p := ⟨b, o + i * 4 + 3, none⟩) lb).trans e13
       go_simp
       rfl)
      refine env2_run HSZ H7.out ?_ ?_ ?_ ?_ ?_
      rotate_left 2
      (go_simp; constructor <;> rfl)
      exact ((Below.refl _ _).alloc (Nat.le_refl _) _).drew
      refine env2_run HSZ H8.out ?_ ?_ ?_ ?_ ?_
      rotate_left 2
      rotate_right 2
      exact (.slice (some ⟨g_7z, 0, none⟩) (m + 1) cap_7z)
      exact wa_7z
      exact exec_app (v := .slice Av (m) cv) (v2 := .slice (some ⟨w7.heap.size, 0, none⟩) 1 1) _ _ (by go_simp) (by go_simp) HRUN.out
      exact HBUT2.out
      refine env2_yes HSZ (by decide) H9.out ?_ (fun w' hS => ?_) ?_
      rotate_left
      (go_simp
       rfl)
      refine env2_store HSZ H10.out ?_ ?_ ?_ ?_
      rotate_left 1
      have oa := HGOA.out.cell 1
      have fa := HGOA.out.free 1
      simp only [List.getElem?_cons_zero, List.getElem?_cons_succ] at oa
      (go_simp; rfl)
      exact HBUT2.out.set (p := ⟨go, 1, none⟩) (Or.inl rfl) _
      refine env2_end ?_
      have hfr := HFR.out
      clear HFR HSZ HWT H0 H1 H2 H3 H4 H5 H6 H7 H8 H9 H10 x_6 x_2 x_8
      subst hfr
      simp only [putAll, Act.put, List.setIfInBounds_toArray, List.set_cons_succ, List.set_cons_zero]
      rw [← HW9.out]
      clear y0 y1 e10 e11 e12 e13 o1 l0 lb lo
      have hf9 : Aside ((rows.take (i + 1)).foldl (putStep ty (keyT row) row) ([], false) = (l ++ [rows[i]], p)) := ⟨by rw [List.take_succ_eq_append_getElem hlt2, List.foldl_append, hf.out]; show putStep ty (keyT row) row (l, p) rows[i] = _; unfold putStep; rw [← HC.out, if_neg HN1.out, if_neg HN2.out]; simp [h2]⟩
      have hl9 : (l ++ [rows[i]]).length ≤ 2 * (i + 1) := by have := HM.out; simp only [List.length_append, List.length_cons, List.length_nil, this]; omega
      clear hf HC
      go_wp2_with fail
      go_roundw
      case rel => exact ⟨i + 1, _, _, _, by omega, by first | rfl | trivial, by go_num, hl9, hf9, K0_7z, K1_7z, K2_7z, O_7z⟩
      case measure => first | (simp [intOf]; done) | (simp [intOf]; omega)
    · skip
      subst hc0
      have hty1 : ¬ ty = 1 := fun h => ha ⟨rfl, h⟩
      have hty2 : (ty == 1) = false := by simpa using hty1
      have hn1 := hty1
      have hn2 := hb
      have HN1 := Aside.mk hn1
      have HN2 := Aside.mk hn2
      clear hn1 hn2 ha hb
      have y0 := K0_4.out.cell 0
      have y1 := K0_4.out.cell 1
      have x0 := K1_4.out.cell 0
      have x1 := K1_4.out.cell 1
      have x2 := K1_4.out.cell 2
      have x3 := K1_4.out.cell 3
      simp only [List.getElem?_cons_zero, List.getElem?_cons_succ] at y0 y1 x0 x1 x2 x3
      go_wp2_with fail
      clear y0 y1 x0 x1 x2 x3
      by_cases h2 : ty = 2
      · have hty : (ty == 2) = true := by simp [h2]
        have H2 := Aside.mk h2
        clear h2
        have y0 := K0_4.out.cell 0
        have y1 := K0_4.out.cell 1
        have x0 := K1_4.out.cell 0
        have x1 := K1_4.out.cell 1
        have x2 := K1_4.out.cell 2
        have x3 := K1_4.out.cell 3
        simp only [List.getElem?_cons_zero, List.getElem?_cons_succ] at y0 y1 x0 x1 x2 x3
        have e10 := (O_4.out.2.2.2.1.cell (p := ⟨b, o + i * 4, none⟩) hbo).trans EI0.out
        have e11 := (O_4.out.2.2.2.1.cell (p := ⟨b, o + i * 4 + 1, none⟩) hbo).trans EI1.out
        have e12 := (O_4.out.2.2.2.1.cell (p := ⟨b, o + i * 4 + 2, none⟩) hbo).trans EI2.out
        have e13 := (O_4.out.2.2.2.1.cell (p := ⟨b, o + i * 4 + 3, none⟩) hbo).trans EI3.out
        have l0 : w.heap.size < w4.heap.size := K0_4.out.lt
        have l1 : w.heap.size + 1 < w4.heap.size := K1_4.out.lt
        have lb : b < w4.heap.size := Nat.lt_of_lt_of_le hbo O_4.out.2.2.2.1.size
        have RQ := Aside.mk (Rec.term.old (w1 := w4.drew) RI.out O_4.out.2.2.2.1.drew)
        have RW := Aside.mk (Rec.term.old (w1 := w4.drew) HK.out O_4.out.2.2.2.1.drew)
        obtain ⟨sk, hsk⟩ : ∃ sk, sk = sameB rows[i] row := ⟨_, rfl⟩
        have HSK := Aside.mk hsk
        clear hsk
        go_wp2_with fail
        refine region_env [(0, true), (1, true), (2, true), (3, true), (4, true), (5, true), (6, true), (7, true), (8, true), (9, true), (10, false), (11, true)] (fun w' => Below w4.heap.size w4 w') 108 rfl (by kernel_rfl) (by kernel_rfl) (fun _ _ d _ _ h => by cases d <;> exact h) ((Below.refl _ _).drew) (fun ops fr HFR HSZ hl => ?_)
        have hl_0 := ops_start hl
        clear hl
        obtain ⟨H0, hl_1⟩ := ops_next 0 1 rfl hl_0
        clear hl_0
        obtain ⟨H1, hl_2⟩ := ops_next 1 2 rfl hl_1
        clear hl_1
        obtain ⟨H2, hl_3⟩ := ops_next 2 3 rfl hl_2
        clear hl_2
        obtain ⟨H3, hl_4⟩ := ops_next 3 4 rfl hl_3
        clear hl_3
        obtain ⟨H4, hl_5⟩ := ops_next 4 5 rfl hl_4
        clear hl_4
        obtain ⟨H5, hl_6⟩ := ops_next 5 6 rfl hl_5
        clear hl_5
        obtain ⟨H6, hl_7⟩ := ops_next 6 7 rfl hl_6
        clear hl_6
        obtain ⟨H7, hl_8⟩ := ops_next 7 8 rfl hl_7
        clear hl_7
        obtain ⟨H8, hl_9⟩ := ops_next 8 9 rfl hl_8
        clear hl_8
        obtain ⟨H9, hl_10⟩ := ops_next 9 10 rfl hl_9
        clear hl_9
        obtain ⟨H10, hl_11⟩ := ops_next 10 11 rfl hl_10
        clear hl_10
        obtain ⟨H11, hl_12⟩ := ops_next 11 12 rfl hl_11
        clear hl_11
        clear hl_12
        have x_2 : ext fr 2 = _ := congrArg (fun a => Act.eval a (.tmp 2)) HFR.out
        conv at x_2 => rhs; simp only [Act.eval, Array.getD_eq_getD_getElem?, List.getElem?_toArray, List.getElem?_cons_succ, List.getElem?_cons_zero, Option.getD_some]
        have x_8 : ext fr 8 = _ := congrArg (fun a => Act.eval a (.tmp 8)) HFR.out
        conv at x_8 => rhs; simp only [Act.eval, Array.getD_eq_getD_getElem?, List.getElem?_toArray, List.getElem?_cons_succ, List.getElem?_cons_zero, Option.getD_some]
        have x_3 : ext fr 3 = _ := congrArg (fun a => Act.eval a (.tmp 3)) HFR.out
        conv at x_3 => rhs; simp only [Act.eval, Array.getD_eq_getD_getElem?, List.getElem?_toArray, List.getElem?_cons_succ, List.getElem?_cons_zero, Option.getD_some]
        refine env_yes HSZ H0.out ?_ (fun w' hS => ?_) ?_
        rotate_left
        (go_simp
         rfl)
        refine env_yes HSZ H1.out ?_ (fun w' hS => ?_) ?_
        rotate_left
        (have h := (hS.cell (p := ⟨w.heap.size, 0, none⟩) l0).trans y0
         go_simp
         rfl)
        refine env_yes HSZ H2.out ?_ (fun w' hS => ?_) ?_
        rotate_left
        (go_simp
         rfl)
        refine env_yes HSZ H3.out ?_ (fun w' hS => ?_) ?_
        rotate_left
        (go_simp
         rfl)
        refine env_on HSZ H4.out H3.out (by first | rfl | go_simp) ?_ (fun w' hS => ?_) ?_
        rotate_left
        (go_simp
         rfl)
        refine env_on HSZ H5.out H3.out (by first | rfl | go_simp) ?_ (fun w' hS => ?_) ?_
        rotate_left
        (have h := (hS.cell (p := ⟨w.heap.size, 1, none⟩) l0).trans y1
         go_simp
         rfl)
        refine env_on HSZ H6.out H3.out (by first | rfl | go_simp) ?_ (fun w' hS => ?_) ?_
        rotate_left
        (go_simp
         rfl)
        refine env_on HSZ H7.out H3.out (by first | rfl | go_simp) ?_ (fun w' hS => ?_) ?_
        rotate_left
        (go_simp
         rfl)
        refine env_on HSZ H8.out H3.out (by first | rfl | go_simp) ?_ (fun w' hS => ?_) ?_
        rotate_left
        (have h0 := (hS.cell (p := ⟨b, o + i * 4, none⟩) lb).trans e10
         have h1 := (hS.cell (p := ⟨b, o + i * 4 + 1, none⟩) lb).trans e11
         have h2 := (hS.cell (p := ⟨b, o + i * 4 + 2, none⟩) lb).trans e12
         have h3 := (hS.cell (p := ⟨b, o + i * 4 + 3, none⟩) lb).trans e13
         go_simp
         rfl)
        refine env_on HSZ H9.out H3.out (by first | rfl | go_simp) ?_ (fun w' hS => ?_) ?_
        rotate_left
        (have h0 := (hS.cell (p := ⟨w.heap.size + 1, 0, none⟩) l1).trans x0
         have h1 := (hS.cell (p := ⟨w.heap.size + 1, 1, none⟩) l1).trans x1
         have h2 := (hS.cell (p := ⟨w.heap.size + 1, 2, none⟩) l1).trans x2
         have h3 := (hS.cell (p := ⟨w.heap.size + 1, 3, none⟩) l1).trans x3
         go_simp
         rfl)
        refine env_call_on HSZ H10.out H3.out (by first | rfl | go_simp) ?_ ?_ ?_ ?_
        rotate_left 2
        (go_simp
         first | rfl | (constructor <;> rfl))
        refine (l04Same rows[i] row [.int .i64 rows[i].kind, .int .i64 rows[i].num, .string rows[i].str, .slice (some ⟨bk1, ok1, none⟩) rows[i].kids.length cap1] [.int .i64 row.kind, .int .i64 row.num, .string row.str, .slice (some ⟨bk, ok, none⟩) row.kids.length z3c] _ RQ.out RW.out W1 hkw).mono ?_
        rintro e w6 ⟨rfl, hbn⟩
        have K0_6 := Aside.mk (K0_4.out.drew.below hbn)
        have K1_6 := Aside.mk (K1_4.out.drew.below hbn)
        have K2_6 := Aside.mk (K2_4.out.drew.below hbn)
        have O_6 := Aside.mk (O_4.out.below (below_later (Below.refl _ _).drew hbn))
        refine ⟨_, rfl, below_later (Below.refl _ _).drew hbn, ?_⟩
        rw [← HSK.out]
        clear hbn
        refine env_yes HSZ H11.out ?_ (fun w' hS => ?_) ?_
        rotate_left
        (go_simp
         rfl)
        refine env_end ?_
        have hfr := HFR.out
        clear HFR HSZ H0 H1 H2 H3 H4 H5 H6 H7 H8 H9 H10 H11 x_2 x_8 x_3
        subst hfr
        simp only [putAll, Act.put, List.setIfInBounds_toArray, List.set_cons_succ, List.set_cons_zero]
        clear y0 y1 x0 x1 x2 x3 e10 e11 e12 e13 l0 l1 lb RQ RW K0_4 K1_4 K2_4 O_4
        cases sk
        · skip
          have y0 := K0_6.out.cell 0
          have y1 := K0_6.out.cell 1
          have x0 := K1_6.out.cell 0
          have x1 := K1_6.out.cell 1
          have x2 := K1_6.out.cell 2
          have x3 := K1_6.out.cell 3
          simp only [List.getElem?_cons_zero, List.getElem?_cons_succ] at y0 y1 x0 x1 x2 x3
          have OD := Aside.mk (O_6.out.below (w2 := w6.drew) (Below.refl _ _).drew)
          have RQ := Aside.mk (Rec.term.frame RI.out (w' := w6.drew) (fun b hb => OD.out.2.2.2.1.block b hb) (fun _ h => h))
          obtain ⟨g_6z, cap_6z, wa_6z, w_6z, hrun, hgoa, hw9, o9, kpa, kp9, hbut⟩ := OD.out.app HM.out (by omega) rows[i] [.int .i64 rows[i].kind, .int .i64 rows[i].num, .string rows[i].str, .slice (some ⟨bk1, ok1, none⟩) rows[i].kids.length cap1] RQ.out w6.heap.size rfl
          have HRUN := Aside.mk hrun
          have HGOA := Aside.mk hgoa
          have HBUT := Aside.mk hbut
          have HW9 := Aside.mk hw9
          have KPA := Aside.mk kpa
          have O_6z := Aside.mk o9
          have K0_6z : Aside (Blk w_6z w.heap.size 42 [.int .i64 ty, .slice (some ⟨b, o, none⟩) n c1]) := ⟨(kp9 _ (by omega)).trans K0_6.out⟩
          have K1_6z : Aside (Blk w_6z (w.heap.size + 1) 26 [.int .i64 row.kind, .int .i64 row.num, .string row.str, .slice (some ⟨bk, ok, none⟩) row.kids.length z3c]) := ⟨(kp9 _ (by omega)).trans K1_6.out⟩
          have K2_6z : Aside (Blk w_6z (w.heap.size + 1 + 1) 42 [.int .i64 0, .slice none 0 0]) := ⟨(kp9 _ (by omega)).trans K2_6.out⟩
          clear hrun hgoa hw9 o9 kpa kp9 hbut
          have HBUT2 : Aside (But (fun c => c = go ∨ (Value.slice Av (m) cv).ownBlock = some c) w6 wa_6z) := ⟨⟨HBUT.out.os, HBUT.out.tape, HBUT.out.output, HBUT.out.size, HBUT.out.block⟩⟩
          have e10 := (O_6.out.2.2.2.1.cell (p := ⟨b, o + i * 4, none⟩) hbo).trans EI0.out
          have e11 := (O_6.out.2.2.2.1.cell (p := ⟨b, o + i * 4 + 1, none⟩) hbo).trans EI1.out
          have e12 := (O_6.out.2.2.2.1.cell (p := ⟨b, o + i * 4 + 2, none⟩) hbo).trans EI2.out
          have e13 := (O_6.out.2.2.2.1.cell (p := ⟨b, o + i * 4 + 3, none⟩) hbo).trans EI3.out
          have o1 := O_6.out.2.1.cell 1
          simp only [List.getElem?_cons_zero, List.getElem?_cons_succ] at o1
          have l0 : w.heap.size < w6.heap.size := K0_6.out.lt
          have lb : b < w6.heap.size := Nat.lt_of_lt_of_le hbo O_6.out.2.2.2.1.size
          have lo : go < w6.heap.size := O_6.out.2.1.lt
          have HWL : Aside (w.heap.size ≤ w6.heap.size) := ⟨O_6.out.2.2.2.1.size⟩
          clear x0 x1 x2 x3
          go_wp2_with fail
          refine region_env2 [(0, true), (1, true), (2, true), (3, true), (4, true), (5, true), (6, true), (7, false), (8, false), (9, true), (10, false)] (fun w' => Below w6.heap.size w6 w') (fun w' => But (fun c => c = go ∨ (Value.slice Av (m) cv).ownBlock = some c) w6 w') 8 108 rfl (by kernel_rfl) (by kernel_rfl) (fun _ _ d _ _ h => by cases d <;> exact h) (fun w' h => But.below h) ((Below.refl _ _).drew) (fun ops fr HFR HSZ HWT hl => ?_)
          have hl_0 := ops_start hl
          clear hl
          obtain ⟨H0, hl_1⟩ := ops_next 0 1 rfl hl_0
          clear hl_0
          obtain ⟨H1, hl_2⟩ := ops_next 1 2 rfl hl_1
          clear hl_1
          obtain ⟨H2, hl_3⟩ := ops_next 2 3 rfl hl_2
          clear hl_2
          obtain ⟨H3, hl_4⟩ := ops_next 3 4 rfl hl_3
          clear hl_3
          obtain ⟨H4, hl_5⟩ := ops_next 4 5 rfl hl_4
          clear hl_4
          obtain ⟨H5, hl_6⟩ := ops_next 5 6 rfl hl_5
          clear hl_5
          obtain ⟨H6, hl_7⟩ := ops_next 6 7 rfl hl_6
          clear hl_6
          obtain ⟨H7, hl_8⟩ := ops_next 7 8 rfl hl_7
          clear hl_7
          obtain ⟨H8, hl_9⟩ := ops_next 8 9 rfl hl_8
          clear hl_8
          obtain ⟨H9, hl_10⟩ := ops_next 9 10 rfl hl_9
          clear hl_9
          obtain ⟨H10, hl_11⟩ := ops_next 10 11 rfl hl_10
          clear hl_10
          clear hl_11
          have x_6 : ext fr 6 = _ := congrArg (fun a => Act.eval a (.tmp 6)) HFR.out
          conv at x_6 => rhs; simp only [Act.eval, Array.getD_eq_getD_getElem?, List.getElem?_toArray, List.getElem?_cons_succ, List.getElem?_cons_zero, Option.getD_some]
          have x_2 : ext fr 2 = _ := congrArg (fun a => Act.eval a (.tmp 2)) HFR.out
          conv at x_2 => rhs; simp only [Act.eval, Array.getD_eq_getD_getElem?, List.getElem?_toArray, List.getElem?_cons_succ, List.getElem?_cons_zero, Option.getD_some]
          have x_8 : ext fr 8 = _ := congrArg (fun a => Act.eval a (.tmp 8)) HFR.out
          conv at x_8 => rhs; simp only [Act.eval, Array.getD_eq_getD_getElem?, List.getElem?_toArray, List.getElem?_cons_succ, List.getElem?_cons_zero, Option.getD_some]
          refine env2_yes HSZ (by decide) H0.out ?_ (fun w' hS => ?_) ?_
          rotate_left
          (go_simp
           rfl)
          refine env2_early HSZ (by decide) HWT (by kernel_rfl) H1.out ?_ (fun w' hS => ?_) ?_
          rotate_left
          (have h := (hS.cell (p := ⟨go, 1, none⟩) lo).trans o1
           go_simp
           rfl)
          refine env2_yes HSZ (by decide) H2.out ?_ (fun w' hS => ?_) ?_
          rotate_left
          (go_simp
           rfl)
          refine env2_early HSZ (by decide) HWT (by kernel_rfl) H3.out ?_ (fun w' hS => ?_) ?_
          rotate_left
          (have h := (hS.cell (p := ⟨w.heap.size, 1, none⟩) l0).trans y1
           go_simp
           rfl)
          refine env2_yes HSZ (by decide) H4.out ?_ (fun w' hS => ?_) ?_
          rotate_left
          (go_simp
           rfl)
          refine env2_yes HSZ (by decide) H5.out ?_ (fun w' hS => ?_) ?_
          rotate_left
          (go_simp
           rfl)
          refine env2_early HSZ (by decide) HWT (by kernel_rfl) H6.out ?_ (fun w' hS => ?_) ?_
          rotate_left
          (have h0 := (hS.cell (p := ⟨b, o + i * 4, none⟩) lb).trans e10
           have h1 := (hS.cell (p := ⟨b, o + i * 4 + 1, none⟩) lb).trans e11
           have h2 := (hS.cell (p := ⟨b, o + i * 4 + 2, none⟩) lb).trans e12
           have h3 := (hS.cell (p := ⟨b, o + i * 4 + 3, none⟩) lb).trans e13
           go_simp
           rfl)
          refine env2_run HSZ H7.out ?_ ?_ ?_ ?_ ?_
          rotate_left 2
          (go_simp; constructor <;> rfl)
          exact ((Below.refl _ _).alloc (Nat.le_refl _) _).drew
          refine env2_run HSZ H8.out ?_ ?_ ?_ ?_ ?_
          rotate_left 2
          rotate_right 2
          exact (.slice (some ⟨g_6z, 0, none⟩) (m + 1) cap_6z)
          exact wa_6z
          exact exec_app (v := .slice Av (m) cv) (v2 := .slice (some ⟨w6.heap.size, 0, none⟩) 1 1) _ _ (by go_simp) (by go_simp) HRUN.out
          exact HBUT2.out
          refine env2_yes HSZ (by decide) H9.out ?_ (fun w' hS => ?_) ?_
          rotate_left
          (go_simp
           rfl)
          refine env2_store HSZ H10.out ?_ ?_ ?_ ?_
          rotate_left 1
          have oa := HGOA.out.cell 1
          have fa := HGOA.out.free 1
          simp only [List.getElem?_cons_zero, List.getElem?_cons_succ] at oa
          (go_simp; rfl)
          exact HBUT2.out.set (p := ⟨go, 1, none⟩) (Or.inl rfl) _
          refine env2_end ?_
          have hfr := HFR.out
          clear HFR HSZ HWT H0 H1 H2 H3 H4 H5 H6 H7 H8 H9 H10 x_6 x_2 x_8
          subst hfr
          simp only [putAll, Act.put, List.setIfInBounds_toArray, List.set_cons_succ, List.set_cons_zero]
          rw [← HW9.out]
          clear y0 y1 e10 e11 e12 e13 o1 l0 lb lo
          have hf9 : Aside ((rows.take (i + 1)).foldl (putStep ty (keyT row) row) ([], false) = (l ++ [rows[i]], p)) := ⟨by rw [List.take_succ_eq_append_getElem hlt2, List.foldl_append, hf.out]; show putStep ty (keyT row) row (l, p) rows[i] = _; unfold putStep; rw [← HC.out, if_neg (fun h => HN1.out h.2), if_neg (fun h => absurd h.1 (by decide))]; have hs : ¬ T.cmp rows[i] row = 0 := (by have h := HSK.out; unfold sameB at h; simpa using h.symm); simp [hs, H2.out]⟩
          have hl9 : (l ++ [rows[i]]).length ≤ 2 * (i + 1) := by have := HM.out; simp only [List.length_append, List.length_cons, List.length_nil, this]; omega
          clear hf HC
          go_wp2_with fail
          go_roundw
          case rel => exact ⟨i + 1, _, _, _, by omega, by first | rfl | trivial, by go_num, hl9, hf9, K0_6z, K1_6z, K2_6z, O_6z⟩
          case measure => first | (simp [intOf]; done) | (simp [intOf]; omega)
        · skip
          have y0 := K0_6.out.cell 0
          have y1 := K0_6.out.cell 1
          have x0 := K1_6.out.cell 0
          have x1 := K1_6.out.cell 1
          have x2 := K1_6.out.cell 2
          have x3 := K1_6.out.cell 3
          simp only [List.getElem?_cons_zero, List.getElem?_cons_succ] at y0 y1 x0 x1 x2 x3
          have OD := Aside.mk (O_6.out.below (w2 := w6.drew) (Below.refl _ _).drew)
          have RQ := Aside.mk (Rec.term.frame RI.out (w' := w6.drew) (fun b hb => OD.out.2.2.2.1.block b hb) (fun _ h => h))
          obtain ⟨g_6z, cap_6z, wa_6z, w_6z, hrun, hgoa, hw9, o9, kpa, kp9, hbut⟩ := OD.out.app HM.out (by omega) rows[i] [.int .i64 rows[i].kind, .int .i64 rows[i].num, .string rows[i].str, .slice (some ⟨bk1, ok1, none⟩) rows[i].kids.length cap1] RQ.out w6.heap.size rfl
          have HRUN := Aside.mk hrun
          have HGOA := Aside.mk hgoa
          have HBUT := Aside.mk hbut
          have HW9 := Aside.mk hw9
          have KPA := Aside.mk kpa
          have O_6z := Aside.mk o9
          have K0_6z : Aside (Blk w_6z w.heap.size 42 [.int .i64 ty, .slice (some ⟨b, o, none⟩) n c1]) := ⟨(kp9 _ (by omega)).trans K0_6.out⟩
          have K1_6z : Aside (Blk w_6z (w.heap.size + 1) 26 [.int .i64 row.kind, .int .i64 row.num, .string row.str, .slice (some ⟨bk, ok, none⟩) row.kids.length z3c]) := ⟨(kp9 _ (by omega)).trans K1_6.out⟩
          have K2_6z : Aside (Blk w_6z (w.heap.size + 1 + 1) 42 [.int .i64 0, .slice none 0 0]) := ⟨(kp9 _ (by omega)).trans K2_6.out⟩
          clear hrun hgoa hw9 o9 kpa kp9 hbut
          have HBUT2 : Aside (But (fun c => c = go ∨ (Value.slice Av (m) cv).ownBlock = some c) w6 wa_6z) := ⟨⟨HBUT.out.os, HBUT.out.tape, HBUT.out.output, HBUT.out.size, HBUT.out.block⟩⟩
          have e10 := (O_6.out.2.2.2.1.cell (p := ⟨b, o + i * 4, none⟩) hbo).trans EI0.out
          have e11 := (O_6.out.2.2.2.1.cell (p := ⟨b, o + i * 4 + 1, none⟩) hbo).trans EI1.out
          have e12 := (O_6.out.2.2.2.1.cell (p := ⟨b, o + i * 4 + 2, none⟩) hbo).trans EI2.out
          have e13 := (O_6.out.2.2.2.1.cell (p := ⟨b, o + i * 4 + 3, none⟩) hbo).trans EI3.out
          have o1 := O_6.out.2.1.cell 1
          simp only [List.getElem?_cons_zero, List.getElem?_cons_succ] at o1
          have l0 : w.heap.size < w6.heap.size := K0_6.out.lt
          have lb : b < w6.heap.size := Nat.lt_of_lt_of_le hbo O_6.out.2.2.2.1.size
          have lo : go < w6.heap.size := O_6.out.2.1.lt
          have HWL : Aside (w.heap.size ≤ w6.heap.size) := ⟨O_6.out.2.2.2.1.size⟩
          clear x0 x1 x2 x3
          go_wp2_with fail
          refine region_env2 [(0, true), (1, true), (2, true), (3, true), (4, true), (5, true), (6, true), (7, false), (8, false), (9, true), (10, false)] (fun w' => Below w6.heap.size w6 w') (fun w' => But (fun c => c = go ∨ (Value.slice Av (m) cv).ownBlock = some c) w6 w') 8 108 rfl (by kernel_rfl) (by kernel_rfl) (fun _ _ d _ _ h => by cases d <;> exact h) (fun w' h => But.below h) ((Below.refl _ _).drew) (fun ops fr HFR HSZ HWT hl => ?_)
          have hl_0 := ops_start hl
          clear hl
          obtain ⟨H0, hl_1⟩ := ops_next 0 1 rfl hl_0
          clear hl_0
          obtain ⟨H1, hl_2⟩ := ops_next 1 2 rfl hl_1
          clear hl_1
          obtain ⟨H2, hl_3⟩ := ops_next 2 3 rfl hl_2
          clear hl_2
          obtain ⟨H3, hl_4⟩ := ops_next 3 4 rfl hl_3
          clear hl_3
          obtain ⟨H4, hl_5⟩ := ops_next 4 5 rfl hl_4
          clear hl_4
          obtain ⟨H5, hl_6⟩ := ops_next 5 6 rfl hl_5
          clear hl_5
          obtain ⟨H6, hl_7⟩ := ops_next 6 7 rfl hl_6
          clear hl_6
          obtain ⟨H7, hl_8⟩ := ops_next 7 8 rfl hl_7
          clear hl_7
          obtain ⟨H8, hl_9⟩ := ops_next 8 9 rfl hl_8
          clear hl_8
          obtain ⟨H9, hl_10⟩ := ops_next 9 10 rfl hl_9
          clear hl_9
          obtain ⟨H10, hl_11⟩ := ops_next 10 11 rfl hl_10
          clear hl_10
          clear hl_11
          have x_6 : ext fr 6 = _ := congrArg (fun a => Act.eval a (.tmp 6)) HFR.out
          conv at x_6 => rhs; simp only [Act.eval, Array.getD_eq_getD_getElem?, List.getElem?_toArray, List.getElem?_cons_succ, List.getElem?_cons_zero, Option.getD_some]
          have x_2 : ext fr 2 = _ := congrArg (fun a => Act.eval a (.tmp 2)) HFR.out
          conv at x_2 => rhs; simp only [Act.eval, Array.getD_eq_getD_getElem?, List.getElem?_toArray, List.getElem?_cons_succ, List.getElem?_cons_zero, Option.getD_some]
          have x_8 : ext fr 8 = _ := congrArg (fun a => Act.eval a (.tmp 8)) HFR.out
          conv at x_8 => rhs; simp only [Act.eval, Array.getD_eq_getD_getElem?, List.getElem?_toArray, List.getElem?_cons_succ, List.getElem?_cons_zero, Option.getD_some]
          refine env2_yes HSZ (by decide) H0.out ?_ (fun w' hS => ?_) ?_
          rotate_left
          (go_simp
           rfl)
          refine env2_early HSZ (by decide) HWT (by kernel_rfl) H1.out ?_ (fun w' hS => ?_) ?_
          rotate_left
          (have h := (hS.cell (p := ⟨go, 1, none⟩) lo).trans o1
           go_simp
           rfl)
          refine env2_yes HSZ (by decide) H2.out ?_ (fun w' hS => ?_) ?_
          rotate_left
          (go_simp
           rfl)
          refine env2_early HSZ (by decide) HWT (by kernel_rfl) H3.out ?_ (fun w' hS => ?_) ?_
          rotate_left
          (have h := (hS.cell (p := ⟨w.heap.size, 1, none⟩) l0).trans y1
           go_simp
           rfl)
          refine env2_yes HSZ (by decide) H4.out ?_ (fun w' hS => ?_) ?_
          rotate_left
          (go_simp
           rfl)
          refine env2_yes HSZ (by decide) H5.out ?_ (fun w' hS => ?_) ?_
          rotate_left
          (go_simp
           rfl)
          refine env2_early HSZ (by decide) HWT (by kernel_rfl) H6.out ?_ (fun w' hS => ?_) ?_
          rotate_left
          (have h0 := (hS.cell (p := ⟨b, o + i * 4, none⟩) lb).trans e10
           have h1 := (hS.cell (p := ⟨b, o + i * 4 + 1, none⟩) lb).trans e11
           have h2 := (hS.cell (p := ⟨b, o + i * 4 + 2, none⟩) lb).trans e12
           have h3 := (hS.cell (p := ⟨b, o + i * 4 + 3, none⟩) lb).trans e13
           go_simp
           rfl)
          refine env2_run HSZ H7.out ?_ ?_ ?_ ?_ ?_
          rotate_left 2
          (go_simp; constructor <;> rfl)
          exact ((Below.refl _ _).alloc (Nat.le_refl _) _).drew
          refine env2_run HSZ H8.out ?_ ?_ ?_ ?_ ?_
          rotate_left 2
          rotate_right 2
          exact (.slice (some ⟨g_6z, 0, none⟩) (m + 1) cap_6z)
          exact wa_6z
          exact exec_app (v := .slice Av (m) cv) (v2 := .slice (some ⟨w6.heap.size, 0, none⟩) 1 1) _ _ (by go_simp) (by go_simp) HRUN.out
          exact HBUT2.out
          refine env2_yes HSZ (by decide) H9.out ?_ (fun w' hS => ?_) ?_
          rotate_left
          (go_simp
           rfl)
          refine env2_store HSZ H10.out ?_ ?_ ?_ ?_
          rotate_left 1
          have oa := HGOA.out.cell 1
          have fa := HGOA.out.free 1
          simp only [List.getElem?_cons_zero, List.getElem?_cons_succ] at oa
          (go_simp; rfl)
          exact HBUT2.out.set (p := ⟨go, 1, none⟩) (Or.inl rfl) _
          refine env2_end ?_
          have hfr := HFR.out
          clear HFR HSZ HWT H0 H1 H2 H3 H4 H5 H6 H7 H8 H9 H10 x_6 x_2 x_8
          subst hfr
          simp only [putAll, Act.put, List.setIfInBounds_toArray, List.set_cons_succ, List.set_cons_zero]
          rw [← HW9.out]
          clear y0 y1 e10 e11 e12 e13 o1 l0 lb lo
          have hf9 : Aside ((rows.take (i + 1)).foldl (putStep ty (keyT row) row) ([], false) = (l ++ [rows[i]], true)) := ⟨by rw [List.take_succ_eq_append_getElem hlt2, List.foldl_append, hf.out]; show putStep ty (keyT row) row (l, p) rows[i] = _; unfold putStep; rw [← HC.out, if_neg (fun h => HN1.out h.2), if_neg (fun h => absurd h.1 (by decide))]; have hs : T.cmp rows[i] row = 0 := (by have h := HSK.out; unfold sameB at h; simpa using h.symm); simp [hs, H2.out]⟩
          have hl9 : (l ++ [rows[i]]).length ≤ 2 * (i + 1) := by have := HM.out; simp only [List.length_append, List.length_cons, List.length_nil, this]; omega
          clear hf HC
          go_wp2_with fail
          go_roundw
          case rel => exact ⟨i + 1, _, _, _, by omega, by first | rfl | trivial, by go_num, hl9, hf9, K0_6z, K1_6z, K2_6z, O_6z⟩
          case measure => first | (simp [intOf]; done) | (simp [intOf]; omega)
      have hne2 : (ty == 2) = false := by simpa using h2
      have y0 := K0_4.out.cell 0
      have y1 := K0_4.out.cell 1
      have x0 := K1_4.out.cell 0
      have x1 := K1_4.out.cell 1
      have x2 := K1_4.out.cell 2
      have x3 := K1_4.out.cell 3
      simp only [List.getElem?_cons_zero, List.getElem?_cons_succ] at y0 y1 x0 x1 x2 x3
      have l0 : w.heap.size < w4.heap.size := K0_4.out.lt
      clear x0 x1 x2 x3
      go_wp2_with fail
      refine region_env [(0, true), (1, true), (2, true), (3, true), (4, true), (5, true), (6, true), (7, true), (8, true), (9, true), (10, true), (11, true)] (fun w' => Below w4.heap.size w4 w') 108 rfl (by kernel_rfl) (by kernel_rfl) (fun _ _ d _ _ h => by cases d <;> exact h) ((Below.refl _ _).drew) (fun ops fr HFR HSZ hl => ?_)
      have hl_0 := ops_start hl
      clear hl
      obtain ⟨H0, hl_1⟩ := ops_next 0 1 rfl hl_0
      clear hl_0
      obtain ⟨H1, hl_2⟩ := ops_next 1 2 rfl hl_1
      clear hl_1
      obtain ⟨H2, hl_3⟩ := ops_next 2 3 rfl hl_2
      clear hl_2
      obtain ⟨H3, hl_4⟩ := ops_next 3 4 rfl hl_3
      clear hl_3
      obtain ⟨H4, hl_5⟩ := ops_next 4 5 rfl hl_4
      clear hl_4
      obtain ⟨H5, hl_6⟩ := ops_next 5 6 rfl hl_5
      clear hl_5
      obtain ⟨H6, hl_7⟩ := ops_next 6 7 rfl hl_6
      clear hl_6
      obtain ⟨H7, hl_8⟩ := ops_next 7 8 rfl hl_7
      clear hl_7
      obtain ⟨H8, hl_9⟩ := ops_next 8 9 rfl hl_8
      clear hl_8
      obtain ⟨H9, hl_10⟩ := ops_next 9 10 rfl hl_9
      clear hl_9
      obtain ⟨H10, hl_11⟩ := ops_next 10 11 rfl hl_10
      clear hl_10
      obtain ⟨H11, hl_12⟩ := ops_next 11 12 rfl hl_11
      clear hl_11
      clear hl_12
      have x_2 : ext fr 2 = _ := congrArg (fun a => Act.eval a (.tmp 2)) HFR.out
      conv at x_2 => rhs; simp only [Act.eval, Array.getD_eq_getD_getElem?, List.getElem?_toArray, List.getElem?_cons_succ, List.getElem?_cons_zero, Option.getD_some]
      refine env_yes HSZ H0.out ?_ (fun w' hS => ?_) ?_
      rotate_left
      (go_simp
       rfl)
      refine env_yes HSZ H1.out ?_ (fun w' hS => ?_) ?_
      rotate_left
      (have h := (hS.cell (p := ⟨w.heap.size, 0, none⟩) l0).trans y0
       go_simp
       rfl)
      refine env_yes HSZ H2.out ?_ (fun w' hS => ?_) ?_
      rotate_left
      (go_simp
       rfl)
      refine env_yes HSZ H3.out ?_ (fun w' hS => ?_) ?_
      rotate_left
      (go_simp
       rfl)
      refine env_off HSZ H4.out H3.out (by first | rfl | go_simp) ?_
      refine env_off HSZ H5.out H3.out (by first | rfl | go_simp) ?_
      refine env_off HSZ H6.out H3.out (by first | rfl | go_simp) ?_
      refine env_off HSZ H7.out H3.out (by first | rfl | go_simp) ?_
      refine env_off HSZ H8.out H3.out (by first | rfl | go_simp) ?_
      refine env_off HSZ H9.out H3.out (by first | rfl | go_simp) ?_
      refine env_off HSZ H10.out H3.out (by first | rfl | go_simp) ?_
      refine env_yes HSZ H11.out ?_ (fun w' hS => ?_) ?_
      rotate_left
      (go_simp
       rfl)
      refine env_end ?_
      have hfr := HFR.out
      clear HFR HSZ H0 H1 H2 H3 H4 H5 H6 H7 H8 H9 H10 H11 x_2
      subst hfr
      simp only [putAll, Act.put, List.setIfInBounds_toArray, List.set_cons_succ, List.set_cons_zero]
      clear y0 y1 l0
      obtain ⟨w7, hw7⟩ : ∃ x, x = w4.drew := ⟨_, rfl⟩
      have K0_7 : Aside (Blk w7 w.heap.size 42 [.int .i64 ty, .slice (some ⟨b, o, none⟩) n c1]) := ⟨by rw [hw7]; exact K0_4.out⟩
      have K1_7 : Aside (Blk w7 (w.heap.size + 1) 26 [.int .i64 row.kind, .int .i64 row.num, .string row.str, .slice (some ⟨bk, ok, none⟩) row.kids.length z3c]) := ⟨by rw [hw7]; exact K1_4.out⟩
      have K2_7 : Aside (Blk w7 (w.heap.size + 1 + 1) 42 [.int .i64 0, .slice none 0 0]) := ⟨by rw [hw7]; exact K2_4.out⟩
      have O_7 : Aside (OutAt go ty w w7 (l) (.slice Av (m) cv)) := ⟨by rw [hw7]; exact O_4.out.below (Below.refl _ _).drew⟩
      rw [← hw7]
      clear hw7 K0_4 K1_4 K2_4 O_4
      have y0 := K0_7.out.cell 0
      have y1 := K0_7.out.cell 1
      have x0 := K1_7.out.cell 0
      have x1 := K1_7.out.cell 1
      have x2 := K1_7.out.cell 2
      have x3 := K1_7.out.cell 3
      simp only [List.getElem?_cons_zero, List.getElem?_cons_succ] at y0 y1 x0 x1 x2 x3
      have OD := Aside.mk (O_7.out.below (w2 := w7.drew) (Below.refl _ _).drew)
      have RQ := Aside.mk (Rec.term.frame RI.out (w' := w7.drew) (fun b hb => OD.out.2.2.2.1.block b hb) (fun _ h => h))
      obtain ⟨g_7z, cap_7z, wa_7z, w_7z, hrun, hgoa, hw9, o9, kpa, kp9, hbut⟩ := OD.out.app HM.out (by omega) rows[i] [.int .i64 rows[i].kind, .int .i64 rows[i].num, .string rows[i].str, .slice (some ⟨bk1, ok1, none⟩) rows[i].kids.length cap1] RQ.out w7.heap.size rfl
      have HRUN := Aside.mk hrun
      have HGOA := Aside.mk hgoa
      have HBUT := Aside.mk hbut
      have HW9 := Aside.mk hw9
      have KPA := Aside.mk kpa
      have O_7z := Aside.mk o9
      have K0_7z : Aside (Blk w_7z w.heap.size 42 [.int .i64 ty, .slice (some ⟨b, o, none⟩) n c1]) := ⟨(kp9 _ (by omega)).trans K0_7.out⟩
      have K1_7z : Aside (Blk w_7z (w.heap.size + 1) 26 [.int .i64 row.kind, .int .i64 row.num, .string row.str, .slice (some ⟨bk, ok, none⟩) row.kids.length z3c]) := ⟨(kp9 _ (by omega)).trans K1_7.out⟩
      have K2_7z : Aside (Blk w_7z (w.heap.size + 1 + 1) 42 [.int .i64 0, .slice none 0 0]) := ⟨(kp9 _ (by omega)).trans K2_7.out⟩
      clear hrun hgoa hw9 o9 kpa kp9 hbut
      have HBUT2 : Aside (But (fun c => c = go ∨ (Value.slice Av (m) cv).ownBlock = some c) w7 wa_7z) := ⟨⟨HBUT.out.os, HBUT.out.tape, HBUT.out.output, HBUT.out.size, HBUT.out.block⟩⟩
      have e10 := (O_7.out.2.2.2.1.cell (p := ⟨b, o + i * 4, none⟩) hbo).trans EI0.out
      have e11 := (O_7.out.2.2.2.1.cell (p := ⟨b, o + i * 4 + 1, none⟩) hbo).trans EI1.out
      have e12 := (O_7.out.2.2.2.1.cell (p := ⟨b, o + i * 4 + 2, none⟩) hbo).trans EI2.out
      have e13 := (O_7.out.2.2.2.1.cell (p := ⟨b, o + i * 4 + 3, none⟩) hbo).trans EI3.out
      have o1 := O_7.out.2.1.cell 1
      simp only [List.getElem?_cons_zero, List.getElem?_cons_succ] at o1
      have l0 : w.heap.size < w7.heap.size := K0_7.out.lt
      have lb : b < w7.heap.size := Nat.lt_of_lt_of_le hbo O_7.out.2.2.2.1.size
      have lo : go < w7.heap.size := O_7.out.2.1.lt
      have HWL : Aside (w.heap.size ≤ w7.heap.size) := ⟨O_7.out.2.2.2.1.size⟩
      clear x0 x1 x2 x3
      go_wp2_with fail
      refine region_env2 [(0, true), (1, true), (2, true), (3, true), (4, true), (5, true), (6, true), (7, false), (8, false), (9, true), (10, false)] (fun w' => Below w7.heap.size w7 w') (fun w' => But (fun c => c = go ∨ (Value.slice Av (m) cv).ownBlock = some c) w7 w') 8 108 rfl (by kernel_rfl) (by kernel_rfl) (fun _ _ d _ _ h => by cases d <;> exact h) (fun w' h => But.below h) ((Below.refl _ _).drew) (fun ops fr HFR HSZ HWT hl => ?_)
      have hl_0 := ops_start hl
      clear hl
      obtain ⟨H0, hl_1⟩ := ops_next 0 1 rfl hl_0
      clear hl_0
      obtain ⟨H1, hl_2⟩ := ops_next 1 2 rfl hl_1
      clear hl_1
      obtain ⟨H2, hl_3⟩ := ops_next 2 3 rfl hl_2
      clear hl_2
      obtain ⟨H3, hl_4⟩ := ops_next 3 4 rfl hl_3
      clear hl_3
      obtain ⟨H4, hl_5⟩ := ops_next 4 5 rfl hl_4
      clear hl_4
      obtain ⟨H5, hl_6⟩ := ops_next 5 6 rfl hl_5
      clear hl_5
      obtain ⟨H6, hl_7⟩ := ops_next 6 7 rfl hl_6
      clear hl_6
      obtain ⟨H7, hl_8⟩ := ops_next 7 8 rfl hl_7
      clear hl_7
      obtain ⟨H8, hl_9⟩ := ops_next 8 9 rfl hl_8
      clear hl_8
      obtain ⟨H9, hl_10⟩ := ops_next 9 10 rfl hl_9
      clear hl_9
      obtain ⟨H10, hl_11⟩ := ops_next 10 11 rfl hl_10
      clear hl_10
      clear hl_11
      have x_6 : ext fr 6 = _ := congrArg (fun a => Act.eval a (.tmp 6)) HFR.out
      conv at x_6 => rhs; simp only [Act.eval, Array.getD_eq_getD_getElem?, List.getElem?_toArray, List.getElem?_cons_succ, List.getElem?_cons_zero, Option.getD_some]
      have x_2 : ext fr 2 = _ := congrArg (fun a => Act.eval a (.tmp 2)) HFR.out
      conv at x_2 => rhs; simp only [Act.eval, Array.getD_eq_getD_getElem?, List.getElem?_toArray, List.getElem?_cons_succ, List.getElem?_cons_zero, Option.getD_some]
      have x_8 : ext fr 8 = _ := congrArg (fun a => Act.eval a (.tmp 8)) HFR.out
      conv at x_8 => rhs; simp only [Act.eval, Array.getD_eq_getD_getElem?, List.getElem?_toArray, List.getElem?_cons_succ, List.getElem?_cons_zero, Option.getD_some]
      refine env2_yes HSZ (by decide) H0.out ?_ (fun w' hS => ?_) ?_
      rotate_left
      (go_simp
       rfl)
      refine env2_early HSZ (by decide) HWT (by kernel_rfl) H1.out ?_ (fun w' hS => ?_) ?_
      rotate_left
      (have h := (hS.cell (p := ⟨go, 1, none⟩) lo).trans o1
       go_simp
       rfl)
      refine env2_yes HSZ (by decide) H2.out ?_ (fun w' hS => ?_) ?_
      rotate_left
      (go_simp
       rfl)
      refine env2_early HSZ (by decide) HWT (by kernel_rfl) H3.out ?_ (fun w' hS => ?_) ?_
      rotate_left
      (have h := (hS.cell (p := ⟨w.heap.size, 1, none⟩) l0).trans y1
       go_simp
       rfl)
      refine env2_yes HSZ (by decide) H4.out ?_ (fun w' hS => ?_) ?_
      rotate_left
      (go_simp
       rfl)
      refine env2_yes HSZ (by decide) H5.out ?_ (fun w' hS => ?_) ?_
      rotate_left
      (go_simp
       rfl)
      refine env2_early HSZ (by decide) HWT (by kernel_rfl) H6.out ?_ (fun w' hS => ?_) ?_
      rotate_left
      (have h0 := (hS.cell (p := ⟨b, o + i * 4, none⟩) lb).trans e10
       have h1 := (hS.cell (p := ⟨b, o + i * 4 + 1, none⟩) lb).trans e11
       have h2 := (hS.cell (p := ⟨b, o + i * 4 + 2, none⟩) lb).trans e12
       have h3 := (hS.cell (p := ⟨b, o + i * 4 + 3, none⟩) lb).trans e13
       go_simp
       rfl)
      refine env2_run HSZ H7.out ?_ ?_ ?_ ?_ ?_
      rotate_left 2
      (go_simp; constructor <;> rfl)
      exact ((Below.refl _ _).alloc (Nat.le_refl _) _).drew
      refine env2_run HSZ H8.out ?_ ?_ ?_ ?_ ?_
      rotate_left 2
      rotate_right 2
      exact (.slice (some ⟨g_7z, 0, none⟩) (m + 1) cap_7z)
      exact wa_7z
      exact exec_app (v := .slice Av (m) cv) (v2 := .slice (some ⟨w7.heap.size, 0, none⟩) 1 1) _ _ (by go_simp) (by go_simp) HRUN.out
      exact HBUT2.out
      refine env2_yes HSZ (by decide) H9.out ?_ (fun w' hS => ?_) ?_
      rotate_left
      (go_simp
       rfl)
      refine env2_store HSZ H10.out ?_ ?_ ?_ ?_
      rotate_left 1
      have oa := HGOA.out.cell 1
      have fa := HGOA.out.free 1
      simp only [List.getElem?_cons_zero, List.getElem?_cons_succ] at oa
      (go_simp; rfl)
      exact HBUT2.out.set (p := ⟨go, 1, none⟩) (Or.inl rfl) _
      refine env2_end ?_
      have hfr := HFR.out
      clear HFR HSZ HWT H0 H1 H2 H3 H4 H5 H6 H7 H8 H9 H10 x_6 x_2 x_8
      subst hfr
      simp only [putAll, Act.put, List.setIfInBounds_toArray, List.set_cons_succ, List.set_cons_zero]
      rw [← HW9.out]
      clear y0 y1 e10 e11 e12 e13 o1 l0 lb lo
      have hf9 : Aside ((rows.take (i + 1)).foldl (putStep ty (keyT row) row) ([], false) = (l ++ [rows[i]], p)) := ⟨by rw [List.take_succ_eq_append_getElem hlt2, List.foldl_append, hf.out]; show putStep ty (keyT row) row (l, p) rows[i] = _; unfold putStep; rw [← HC.out, if_neg (fun h => HN1.out h.2), if_neg (fun h => absurd h.1 (by decide))]; simp [h2]⟩
      have hl9 : (l ++ [rows[i]]).length ≤ 2 * (i + 1) := by have := HM.out; simp only [List.length_append, List.length_cons, List.length_nil, this]; omega
      clear hf HC
      go_wp2_with fail
      go_roundw
      case rel => exact ⟨i + 1, _, _, _, by omega, by first | rfl | trivial, by go_num, hl9, hf9, K0_7z, K1_7z, K2_7z, O_7z⟩
      case measure => first | (simp [intOf]; done) | (simp [intOf]; omega)
    · skip
      obtain rfl : p = true := by cases p; exact absurd ⟨hc0, rfl⟩ hb; rfl
      have hc1 : (c == 0) = false := by simp; omega
      have hn1 : ¬ (c = 0 ∧ ty = 1) := ha
      have hn2 : ¬ (0 < c ∧ true = false) := hb
      have HN1 := Aside.mk hn1
      have HN2 := Aside.mk hn2
      clear hn1 hn2 ha hb
      have y0 := K0_4.out.cell 0
      have y1 := K0_4.out.cell 1
      have x0 := K1_4.out.cell 0
      have x1 := K1_4.out.cell 1
      have x2 := K1_4.out.cell 2
      have x3 := K1_4.out.cell 3
      simp only [List.getElem?_cons_zero, List.getElem?_cons_succ] at y0 y1 x0 x1 x2 x3
      go_wp2_with fail
      clear y0 y1 x0 x1 x2 x3
      by_cases h2 : ty = 2
      · have hty : (ty == 2) = true := by simp [h2]
        have H2 := Aside.mk h2
        clear h2
        have y0 := K0_4.out.cell 0
        have y1 := K0_4.out.cell 1
        have x0 := K1_4.out.cell 0
        have x1 := K1_4.out.cell 1
        have x2 := K1_4.out.cell 2
        have x3 := K1_4.out.cell 3
        simp only [List.getElem?_cons_zero, List.getElem?_cons_succ] at y0 y1 x0 x1 x2 x3
        have e10 := (O_4.out.2.2.2.1.cell (p := ⟨b, o + i * 4, none⟩) hbo).trans EI0.out
        have e11 := (O_4.out.2.2.2.1.cell (p := ⟨b, o + i * 4 + 1, none⟩) hbo).trans EI1.out
        have e12 := (O_4.out.2.2.2.1.cell (p := ⟨b, o + i * 4 + 2, none⟩) hbo).trans EI2.out
        have e13 := (O_4.out.2.2.2.1.cell (p := ⟨b, o + i * 4 + 3, none⟩) hbo).trans EI3.out
        have l0 : w.heap.size < w4.heap.size := K0_4.out.lt
        have l1 : w.heap.size + 1 < w4.heap.size := K1_4.out.lt
        have lb : b < w4.heap.size := Nat.lt_of_lt_of_le hbo O_4.out.2.2.2.1.size
        have RQ := Aside.mk (Rec.term.old (w1 := w4.drew) RI.out O_4.out.2.2.2.1.drew)
        have RW := Aside.mk (Rec.term.old (w1 := w4.drew) HK.out O_4.out.2.2.2.1.drew)
        obtain ⟨sk, hsk⟩ : ∃ sk, sk = sameB rows[i] row := ⟨_, rfl⟩
        have HSK := Aside.mk hsk
        clear hsk
        go_wp2_with fail
        refine region_env [(0, true), (1, true), (2, true), (3, true), (4, true), (5, true), (6, true), (7, true), (8, true), (9, true), (10, false), (11, true)] (fun w' => Below w4.heap.size w4 w') 108 rfl (by kernel_rfl) (by kernel_rfl) (fun _ _ d _ _ h => by cases d <;> exact h) ((Below.refl _ _).drew) (fun ops fr HFR HSZ hl => ?_)
        have hl_0 := ops_start hl
        clear hl
        obtain ⟨H0, hl_1⟩ := ops_next 0 1 rfl hl_0
        clear hl_0
        obtain ⟨H1, hl_2⟩ := ops_next 1 2 rfl hl_1
        clear hl_1
        obtain ⟨H2, hl_3⟩ := ops_next 2 3 rfl hl_2
        clear hl_2
        obtain ⟨H3, hl_4⟩ := ops_next 3 4 rfl hl_3
        clear hl_3
        obtain ⟨H4, hl_5⟩ := ops_next 4 5 rfl hl_4
        clear hl_4
        obtain ⟨H5, hl_6⟩ := ops_next 5 6 rfl hl_5
        clear hl_5
        obtain ⟨H6, hl_7⟩ := ops_next 6 7 rfl hl_6
        clear hl_6
        obtain ⟨H7, hl_8⟩ := ops_next 7 8 rfl hl_7
        clear hl_7
        obtain ⟨H8, hl_9⟩ := ops_next 8 9 rfl hl_8
        clear hl_8
        obtain ⟨H9, hl_10⟩ := ops_next 9 10 rfl hl_9
        clear hl_9
        obtain ⟨H10, hl_11⟩ := ops_next 10 11 rfl hl_10
        clear hl_10
        obtain ⟨H11, hl_12⟩ := ops_next 11 12 rfl hl_11
        clear hl_11
        clear hl_12
        have x_2 : ext fr 2 = _ := congrArg (fun a => Act.eval a (.tmp 2)) HFR.out
        conv at x_2 => rhs; simp only [Act.eval, Array.getD_eq_getD_getElem?, List.getElem?_toArray, List.getElem?_cons_succ, List.getElem?_cons_zero, Option.getD_some]
        have x_8 : ext fr 8 = _ := congrArg (fun a => Act.eval a (.tmp 8)) HFR.out
        conv at x_8 => rhs; simp only [Act.eval, Array.getD_eq_getD_getElem?, List.getElem?_toArray, List.getElem?_cons_succ, List.getElem?_cons_zero, Option.getD_some]
        have x_3 : ext fr 3 = _ := congrArg (fun a => Act.eval a (.tmp 3)) HFR.out
        conv at x_3 => rhs; simp only [Act.eval, Array.getD_eq_getD_getElem?, List.getElem?_toArray, List.getElem?_cons_succ, List.getElem?_cons_zero, Option.getD_some]
        refine env_yes HSZ H0.out ?_ (fun w' hS => ?_) ?_
        rotate_left
        (go_simp
         rfl)
        refine env_yes HSZ H1.out ?_ (fun w' hS => ?_) ?_
        rotate_left
        (have h := (hS.cell (p := ⟨w.heap.size, 0, none⟩) l0).trans y0
         go_simp
         rfl)
        refine env_yes HSZ H2.out ?_ (fun w' hS => ?_) ?_
        rotate_left
        (go_simp
         rfl)
        refine env_yes HSZ H3.out ?_ (fun w' hS => ?_) ?_
        rotate_left
        (go_simp
         rfl)
        refine env_on HSZ H4.out H3.out (by first | rfl | go_simp) ?_ (fun w' hS => ?_) ?_
        rotate_left
        (go_simp
         rfl)
        refine env_on HSZ H5.out H3.out (by first | rfl | go_simp) ?_ (fun w' hS => ?_) ?_
        rotate_left
        (have h := (hS.cell (p := ⟨w.heap.size, 1, none⟩) l0).trans y1
         go_simp
         rfl)
        refine env_on HSZ H6.out H3.out (by first | rfl | go_simp) ?_ (fun w' hS => ?_) ?_
        rotate_left
        (go_simp
         rfl)
        refine env_on HSZ H7.out H3.out (by first | rfl | go_simp) ?_ (fun w' hS => ?_) ?_
        rotate_left
        (go_simp
         rfl)
        refine env_on HSZ H8.out H3.out (by first | rfl | go_simp) ?_ (fun w' hS => ?_) ?_
        rotate_left
        (have h0 := (hS.cell (p := ⟨b, o + i * 4, none⟩) lb).trans e10
         have h1 := (hS.cell (p := ⟨b, o + i * 4 + 1, none⟩) lb).trans e11
         have h2 := (hS.cell (p := ⟨b, o + i * 4 + 2, none⟩) lb).trans e12
         have h3 := (hS.cell (p := ⟨b, o + i * 4 + 3, none⟩) lb).trans e13
         go_simp
         rfl)
        refine env_on HSZ H9.out H3.out (by first | rfl | go_simp) ?_ (fun w' hS => ?_) ?_
        rotate_left
        (have h0 := (hS.cell (p := ⟨w.heap.size + 1, 0, none⟩) l1).trans x0
         have h1 := (hS.cell (p := ⟨w.heap.size + 1, 1, none⟩) l1).trans x1
         have h2 := (hS.cell (p := ⟨w.heap.size + 1, 2, none⟩) l1).trans x2
         have h3 := (hS.cell (p := ⟨w.heap.size + 1, 3, none⟩) l1).trans x3
         go_simp
         rfl)
        refine env_call_on HSZ H10.out H3.out (by first | rfl | go_simp) ?_ ?_ ?_ ?_
        rotate_left 2
        (go_simp
         first | rfl | (constructor <;> rfl))
        refine (l04Same rows[i] row [.int .i64 rows[i].kind, .int .i64 rows[i].num, .string rows[i].str, .slice (some ⟨bk1, ok1, none⟩) rows[i].kids.length cap1] [.int .i64 row.kind, .int .i64 row.num, .string row.str, .slice (some ⟨bk, ok, none⟩) row.kids.length z3c] _ RQ.out RW.out W1 hkw).mono ?_
        rintro e w6 ⟨rfl, hbn⟩
        have K0_6 := Aside.mk (K0_4.out.drew.below hbn)
        have K1_6 := Aside.mk (K1_4.out.drew.below hbn)
        have K2_6 := Aside.mk (K2_4.out.drew.below hbn)
        have O_6 := Aside.mk (O_4.out.below (below_later (Below.refl _ _).drew hbn))
        refine ⟨_, rfl, below_later (Below.refl _ _).drew hbn, ?_⟩
        rw [← HSK.out]
        clear hbn
        refine env_yes HSZ H11.out ?_ (fun w' hS => ?_) ?_
        rotate_left
        (go_simp
         rfl)
        refine env_end ?_
        have hfr := HFR.out
        clear HFR HSZ H0 H1 H2 H3 H4 H5 H6 H7 H8 H9 H10 H11 x_2 x_8 x_3
        subst hfr
        simp only [putAll, Act.put, List.setIfInBounds_toArray, List.set_cons_succ, List.set_cons_zero]
        clear y0 y1 x0 x1 x2 x3 e10 e11 e12 e13 l0 l1 lb RQ RW K0_4 K1_4 K2_4 O_4
        cases sk
        · skip
          have y0 := K0_6.out.cell 0
          have y1 := K0_6.out.cell 1
          have x0 := K1_6.out.cell 0
          have x1 := K1_6.out.cell 1
          have x2 := K1_6.out.cell 2
          have x3 := K1_6.out.cell 3
          simp only [List.getElem?_cons_zero, List.getElem?_cons_succ] at y0 y1 x0 x1 x2 x3
          have OD := Aside.mk (O_6.out.below (w2 := w6.drew) (Below.refl _ _).drew)
          have RQ := Aside.mk (Rec.term.frame RI.out (w' := w6.drew) (fun b hb => OD.out.2.2.2.1.block b hb) (fun _ h => h))
          obtain ⟨g_6z, cap_6z, wa_6z, w_6z, hrun, hgoa, hw9, o9, kpa, kp9, hbut⟩ := OD.out.app HM.out (by omega) rows[i] [.int .i64 rows[i].kind, .int .i64 rows[i].num, .string rows[i].str, .slice (some ⟨bk1, ok1, none⟩) rows[i].kids.length cap1] RQ.out w6.heap.size rfl
          have HRUN := Aside.mk hrun
          have HGOA := Aside.mk hgoa
          have HBUT := Aside.mk hbut
          have HW9 := Aside.mk hw9
          have KPA := Aside.mk kpa
          have O_6z := Aside.mk o9
          have K0_6z : Aside (Blk w_6z w.heap.size 42 [.int .i64 ty, .slice (some ⟨b, o, none⟩) n c1]) := ⟨(kp9 _ (by omega)).trans K0_6.out⟩
          have K1_6z : Aside (Blk w_6z (w.heap.size + 1) 26 [.int .i64 row.kind, .int .i64 row.num, .string row.str, .slice (some ⟨bk, ok, none⟩) row.kids.length z3c]) := ⟨(kp9 _ (by omega)).trans K1_6.out⟩
          have K2_6z : Aside (Blk w_6z (w.heap.size + 1 + 1) 42 [.int .i64 0, .slice none 0 0]) := ⟨(kp9 _ (by omega)).trans K2_6.out⟩
          clear hrun hgoa hw9 o9 kpa kp9 hbut
          have HBUT2 : Aside (But (fun c => c = go ∨ (Value.slice Av (m) cv).ownBlock = some c) w6 wa_6z) := ⟨⟨HBUT.out.os, HBUT.out.tape, HBUT.out.output, HBUT.out.size, HBUT.out.block⟩⟩
          have e10 := (O_6.out.2.2.2.1.cell (p := ⟨b, o + i * 4, none⟩) hbo).trans EI0.out
          have e11 := (O_6.out.2.2.2.1.cell (p := ⟨b, o + i * 4 + 1, none⟩) hbo).trans EI1.out
          have e12 := (O_6.out.2.2.2.1.cell (p := ⟨b, o + i * 4 + 2, none⟩) hbo).trans EI2.out
          have e13 := (O_6.out.2.2.2.1.cell (p := ⟨b, o + i * 4 + 3, none⟩) hbo).trans EI3.out
          have o1 := O_6.out.2.1.cell 1
          simp only [List.getElem?_cons_zero, List.getElem?_cons_succ] at o1
          have l0 : w.heap.size < w6.heap.size := K0_6.out.lt
          have lb : b < w6.heap.size := Nat.lt_of_lt_of_le hbo O_6.out.2.2.2.1.size
          have lo : go < w6.heap.size := O_6.out.2.1.lt
          have HWL : Aside (w.heap.size ≤ w6.heap.size) := ⟨O_6.out.2.2.2.1.size⟩
          clear x0 x1 x2 x3
          go_wp2_with fail
          refine region_env2 [(0, true), (1, true), (2, true), (3, true), (4, true), (5, true), (6, true), (7, false), (8, false), (9, true), (10, false)] (fun w' => Below w6.heap.size w6 w') (fun w' => But (fun c => c = go ∨ (Value.slice Av (m) cv).ownBlock = some c) w6 w') 8 108 rfl (by kernel_rfl) (by kernel_rfl) (fun _ _ d _ _ h => by cases d <;> exact h) (fun w' h => But.below h) ((Below.refl _ _).drew) (fun ops fr HFR HSZ HWT hl => ?_)
          have hl_0 := ops_start hl
          clear hl
          obtain ⟨H0, hl_1⟩ := ops_next 0 1 rfl hl_0
          clear hl_0
          obtain ⟨H1, hl_2⟩ := ops_next 1 2 rfl hl_1
          clear hl_1
          obtain ⟨H2, hl_3⟩ := ops_next 2 3 rfl hl_2
          clear hl_2
          obtain ⟨H3, hl_4⟩ := ops_next 3 4 rfl hl_3
          clear hl_3
          obtain ⟨H4, hl_5⟩ := ops_next 4 5 rfl hl_4
          clear hl_4
          obtain ⟨H5, hl_6⟩ := ops_next 5 6 rfl hl_5
          clear hl_5
          obtain ⟨H6, hl_7⟩ := ops_next 6 7 rfl hl_6
          clear hl_6
          obtain ⟨H7, hl_8⟩ := ops_next 7 8 rfl hl_7
          clear hl_7
          obtain ⟨H8, hl_9⟩ := ops_next 8 9 rfl hl_8
          clear hl_8
          obtain ⟨H9, hl_10⟩ := ops_next 9 10 rfl hl_9
          clear hl_9
          obtain ⟨H10, hl_11⟩ := ops_next 10 11 rfl hl_10
          clear hl_10
          clear hl_11
          have x_6 : ext fr 6 = _ := congrArg (fun a => Act.eval a (.tmp 6)) HFR.out
          conv at x_6 => rhs; simp only [Act.eval, Array.getD_eq_getD_getElem?, List.getElem?_toArray, List.getElem?_cons_succ, List.getElem?_cons_zero, Option.getD_some]
          have x_2 : ext fr 2 = _ := congrArg (fun a => Act.eval a (.tmp 2)) HFR.out
          conv at x_2 => rhs; simp only [Act.eval, Array.getD_eq_getD_getElem?, List.getElem?_toArray, List.getElem?_cons_succ, List.getElem?_cons_zero, Option.getD_some]
          have x_8 : ext fr 8 = _ := congrArg (fun a => Act.eval a (.tmp 8)) HFR.out
          conv at x_8 => rhs; simp only [Act.eval, Array.getD_eq_getD_getElem?, List.getElem?_toArray, List.getElem?_cons_succ, List.getElem?_cons_zero, Option.getD_some]
          refine env2_yes HSZ (by decide) H0.out ?_ (fun w' hS => ?_) ?_
          rotate_left
          (go_simp
           rfl)
          refine env2_early HSZ (by decide) HWT (by kernel_rfl) H1.out ?_ (fun w' hS => ?_) ?_
          rotate_left
          (have h := (hS.cell (p := ⟨go, 1, none⟩) lo).trans o1
           go_simp
           rfl)
          refine env2_yes HSZ (by decide) H2.out ?_ (fun w' hS => ?_) ?_
          rotate_left
          (go_simp
           rfl)
          refine env2_early HSZ (by decide) HWT (by kernel_rfl) H3.out ?_ (fun w' hS => ?_) ?_
          rotate_left
          (have h := (hS.cell (p := ⟨w.heap.size, 1, none⟩) l0).trans y1
           go_simp
           rfl)
          refine env2_yes HSZ (by decide) H4.out ?_ (fun w' hS => ?_) ?_
          rotate_left
          (go_simp
           rfl)
          refine env2_yes HSZ (by decide) H5.out ?_ (fun w' hS => ?_) ?_
          rotate_left
          (go_simp
           rfl)
          refine env2_early HSZ (by decide) HWT (by kernel_rfl) H6.out ?_ (fun w' hS => ?_) ?_
          rotate_left
          (have h0 := (hS.cell (p := ⟨b, o + i * 4, none⟩) lb).trans e10
           have h1 := (hS.cell (p := ⟨b, o + i * 4 + 1, none⟩) lb).trans e11
           have h2 := (hS.cell (p := ⟨b, o + i * 4 + 2, none⟩) lb).trans e12
           have h3 := (hS.cell (p := ⟨b, o + i * 4 + 3, none⟩) lb).trans e13
           go_simp
           rfl)
          refine env2_run HSZ H7.out ?_ ?_ ?_ ?_ ?_
          rotate_left 2
          (go_simp; constructor <;> rfl)
          exact ((Below.refl _ _).alloc (Nat.le_refl _) _).drew
          refine env2_run HSZ H8.out ?_ ?_ ?_ ?_ ?_
          rotate_left 2
          rotate_right 2
          exact (.slice (some ⟨g_6z, 0, none⟩) (m + 1) cap_6z)
          exact wa_6z
          exact exec_app (v := .slice Av (m) cv) (v2 := .slice (some ⟨w6.heap.size, 0, none⟩) 1 1) _ _ (by go_simp) (by go_simp) HRUN.out
          exact HBUT2.out
          refine env2_yes HSZ (by decide) H9.out ?_ (fun w' hS => ?_) ?_
          rotate_left
          (go_simp
           rfl)
          refine env2_store HSZ H10.out ?_ ?_ ?_ ?_
          rotate_left 1
          have oa := HGOA.out.cell 1
          have fa := HGOA.out.free 1
          simp only [List.getElem?_cons_zero, List.getElem?_cons_succ] at oa
          (go_simp; rfl)
          exact HBUT2.out.set (p := ⟨go, 1, none⟩) (Or.inl rfl) _
          refine env2_end ?_
          have hfr := HFR.out
          clear HFR HSZ HWT H0 H1 H2 H3 H4 H5 H6 H7 H8 H9 H10 x_6 x_2 x_8
          subst hfr
          simp only [putAll, Act.put, List.setIfInBounds_toArray, List.set_cons_succ, List.set_cons_zero]
          rw [← HW9.out]
          clear y0 y1 e10 e11 e12 e13 o1 l0 lb lo
          have hf9 : Aside ((rows.take (i + 1)).foldl (putStep ty (keyT row) row) ([], false) = (l ++ [rows[i]], true)) := ⟨by rw [List.take_succ_eq_append_getElem hlt2, List.foldl_append, hf.out]; show putStep ty (keyT row) row (l, true) rows[i] = _; unfold putStep; rw [← HC.out, if_neg HN1.out, if_neg HN2.out]; have hs : ¬ T.cmp rows[i] row = 0 := (by have h := HSK.out; unfold sameB at h; simpa using h.symm); simp [hs, H2.out]⟩
          have hl9 : (l ++ [rows[i]]).length ≤ 2 * (i + 1) := by have := HM.out; simp only [List.length_append, List.length_cons, List.length_nil, this]; omega
          clear hf HC
          go_wp2_with fail
          go_roundw
          case rel => exact ⟨i + 1, _, _, _, by omega, by first | rfl | trivial, by go_num, hl9, hf9, K0_6z, K1_6z, K2_6z, O_6z⟩
          case measure => first | (simp [intOf]; done) | (simp [intOf]; omega)
        · skip
          have y0 := K0_6.out.cell 0
          have y1 := K0_6.out.cell 1
          have x0 := K1_6.out.cell 0
          have x1 := K1_6.out.cell 1
          have x2 := K1_6.out.cell 2
          have x3 := K1_6.out.cell 3
          simp only [List.getElem?_cons_zero, List.getElem?_cons_succ] at y0 y1 x0 x1 x2 x3
          have OD := Aside.mk (O_6.out.below (w2 := w6.drew) (Below.refl _ _).drew)
          have RQ := Aside.mk (Rec.term.frame RI.out (w' := w6.drew) (fun b hb => OD.out.2.2.2.1.block b hb) (fun _ h => h))
          obtain ⟨g_6z, cap_6z, wa_6z, w_6z, hrun, hgoa, hw9, o9, kpa, kp9, hbut⟩ := OD.out.app HM.out (by omega) rows[i] [.int .i64 rows[i].kind, .int .i64 rows[i].num, .string rows[i].str, .slice (some ⟨bk1, ok1, none⟩) rows[i].kids.length cap1] RQ.out w6.heap.size rfl
          have HRUN := Aside.mk hrun
          have HGOA := Aside.mk hgoa
          have HBUT := Aside.mk hbut
          have HW9 := Aside.mk hw9
          have KPA := Aside.mk kpa
          have O_6z := Aside.mk o9
          have K0_6z : Aside (Blk w_6z w.heap.size 42 [.int .i64 ty, .slice (some ⟨b, o, none⟩) n c1]) := ⟨(kp9 _ (by omega)).trans K0_6.out⟩
          have K1_6z : Aside (Blk w_6z (w.heap.size + 1) 26 [.int .i64 row.kind, .int .i64 row.num, .string row.str, .slice (some ⟨bk, ok, none⟩) row.kids.length z3c]) := ⟨(kp9 _ (by omega)).trans K1_6.out⟩
          have K2_6z : Aside (Blk w_6z (w.heap.size + 1 + 1) 42 [.int .i64 0, .slice none 0 0]) := ⟨(kp9 _ (by omega)).trans K2_6.out⟩
          clear hrun hgoa hw9 o9 kpa kp9 hbut
          have HBUT2 : Aside (But (fun c => c = go ∨ (Value.slice Av (m) cv).ownBlock = some c) w6 wa_6z) := ⟨⟨HBUT.out.os, HBUT.out.tape, HBUT.out.output, HBUT.out.size, HBUT.out.block⟩⟩
          have e10 := (O_6.out.2.2.2.1.cell (p := ⟨b, o + i * 4, none⟩) hbo).trans EI0.out
          have e11 := (O_6.out.2.2.2.1.cell (p := ⟨b, o + i * 4 + 1, none⟩) hbo).trans EI1.out
          have e12 := (O_6.out.2.2.2.1.cell (p := ⟨b, o + i * 4 + 2, none⟩) hbo).trans EI2.out
          have e13 := (O_6.out.2.2.2.1.cell (p := ⟨b, o + i * 4 + 3, none⟩) hbo).trans EI3.out
          have o1 := O_6.out.2.1.cell 1
          simp only [List.getElem?_cons_zero, List.getElem?_cons_succ] at o1
          have l0 : w.heap.size < w6.heap.size := K0_6.out.lt
          have lb : b < w6.heap.size := Nat.lt_of_lt_of_le hbo O_6.out.2.2.2.1.size
          have lo : go < w6.heap.size := O_6.out.2.1.lt
          have HWL : Aside (w.heap.size ≤ w6.heap.size) := ⟨O_6.out.2.2.2.1.size⟩
          clear x0 x1 x2 x3
          go_wp2_with fail
          refine region_env2 [(0, true), (1, true), (2, true), (3, true), (4, true), (5, true), (6, true), (7, false), (8, false), (9, true), (10, false)] (fun w' => Below w6.heap.size w6 w') (fun w' => But (fun c => c = go ∨ (Value.slice Av (m) cv).ownBlock = some c) w6 w') 8 108 rfl (by kernel_rfl) (by kernel_rfl) (fun _ _ d _ _ h => by cases d <;> exact h) (fun w' h => But.below h) ((Below.refl _ _).drew) (fun ops fr HFR HSZ HWT hl => ?_)
          have hl_0 := ops_start hl
          clear hl
          obtain ⟨H0, hl_1⟩ := ops_next 0 1 rfl hl_0
          clear hl_0
          obtain ⟨H1, hl_2⟩ := ops_next 1 2 rfl hl_1
          clear hl_1
          obtain ⟨H2, hl_3⟩ := ops_next 2 3 rfl hl_2
          clear hl_2
          obtain ⟨H3, hl_4⟩ := ops_next 3 4 rfl hl_3
          clear hl_3
          obtain ⟨H4, hl_5⟩ := ops_next 4 5 rfl hl_4
          clear hl_4
          obtain ⟨H5, hl_6⟩ := ops_next 5 6 rfl hl_5
          clear hl_5
          obtain ⟨H6, hl_7⟩ := ops_next 6 7 rfl hl_6
          clear hl_6
          obtain ⟨H7, hl_8⟩ := ops_next 7 8 rfl hl_7
          clear hl_7
          obtain ⟨H8, hl_9⟩ := ops_next 8 9 rfl hl_8
          clear hl_8
          obtain ⟨H9, hl_10⟩ := ops_next 9 10 rfl hl_9
          clear hl_9
          obtain ⟨H10, hl_11⟩ := ops_next 10 11 rfl hl_10
          clear hl_10
          clear hl_11
          have x_6 : ext fr 6 = _ := congrArg (fun a => Act.eval a (.tmp 6)) HFR.out
          conv at x_6 => rhs; simp only [Act.eval, Array.getD_eq_getD_getElem?, List.getElem?_toArray, List.getElem?_cons_succ, List.getElem?_cons_zero, Option.getD_some]
          have x_2 : ext fr 2 = _ := congrArg (fun a => Act.eval a (.tmp 2)) HFR.out
          conv at x_2 => rhs; simp only [Act.eval, Array.getD_eq_getD_getElem?, List.getElem?_toArray, List.getElem?_cons_succ, List.getElem?_cons_zero, Option.getD_some]
          have x_8 : ext fr 8 = _ := congrArg (fun a => Act.eval a (.tmp 8)) HFR.out
          conv at x_8 => rhs; simp only [Act.eval, Array.getD_eq_getD_getElem?, List.getElem?_toArray, List.getElem?_cons_succ, List.getElem?_cons_zero, Option.getD_some]
          refine env2_yes HSZ (by decide) H0.out ?_ (fun w' hS => ?_) ?_
          rotate_left
          (go_simp
           rfl)
          refine env2_early HSZ (by decide) HWT (by kernel_rfl) H1.out ?_ (fun w' hS => ?_) ?_
          rotate_left
          (have h := (hS.cell (p := ⟨go, 1, none⟩) lo).trans o1
           go_simp
           rfl)
          refine env2_yes HSZ (by decide) H2.out ?_ (fun w' hS => ?_) ?_
          rotate_left
          (go_simp
           rfl)
          refine env2_early HSZ (by decide) HWT (by kernel_rfl) H3.out ?_ (fun w' hS => ?_) ?_
          rotate_left
          (have h := (hS.cell (p := ⟨w.heap.size, 1, none⟩) l0).trans y1
           go_simp
           rfl)
          refine env2_yes HSZ (by decide) H4.out ?_ (fun w' hS => ?_) ?_
          rotate_left
          (go_simp
           rfl)
          refine env2_yes HSZ (by decide) H5.out ?_ (fun w' hS => ?_) ?_
          rotate_left
          (go_simp
           rfl)
          refine env2_early HSZ (by decide) HWT (by kernel_rfl) H6.out ?_ (fun w' hS => ?_) ?_
          rotate_left
          (have h0 := (hS.cell (p := ⟨b, o + i * 4, none⟩) lb).trans e10
           have h1 := (hS.cell (p := ⟨b, o + i * 4 + 1, none⟩) lb).trans e11
           have h2 := (hS.cell (p := ⟨b, o + i * 4 + 2, none⟩) lb).trans e12
           have h3 := (hS.cell (p := ⟨b, o + i * 4 + 3, none⟩) lb).trans e13
           go_simp
           rfl)
          refine env2_run HSZ H7.out ?_ ?_ ?_ ?_ ?_
          rotate_left 2
          (go_simp; constructor <;> rfl)
          exact ((Below.refl _ _).alloc (Nat.le_refl _) _).drew
          refine env2_run HSZ H8.out ?_ ?_ ?_ ?_ ?_
          rotate_left 2
          rotate_right 2
          exact (.slice (some ⟨g_6z, 0, none⟩) (m + 1) cap_6z)
          exact wa_6z
          exact exec_app (v := .slice Av (m) cv) (v2 := .slice (some ⟨w6.heap.size, 0, none⟩) 1 1) _ _ (by go_simp) (by go_simp) HRUN.out
          exact HBUT2.out
          refine env2_yes HSZ (by decide) H9.out ?_ (fun w' hS => ?_) ?_
          rotate_left
          (go_simp
           rfl)
          refine env2_store HSZ H10.out ?_ ?_ ?_ ?_
          rotate_left 1
          have oa := HGOA.out.cell 1
          have fa := HGOA.out.free 1
          simp only [List.getElem?_cons_zero, List.getElem?_cons_succ] at oa
          (go_simp; rfl)
          exact HBUT2.out.set (p := ⟨go, 1, none⟩) (Or.inl rfl) _
          refine env2_end ?_
          have hfr := HFR.out
          clear HFR HSZ HWT H0 H1 H2 H3 H4 H5 H6 H7 H8 H9 H10 x_6 x_2 x_8
          subst hfr
          simp only [putAll, Act.put, List.setIfInBounds_toArray, List.set_cons_succ, List.set_cons_zero]
          rw [← HW9.out]
          clear y0 y1 e10 e11 e12 e13 o1 l0 lb lo
          have hf9 : Aside ((rows.take (i + 1)).foldl (putStep ty (keyT row) row) ([], false) = (l ++ [rows[i]], true)) := ⟨by rw [List.take_succ_eq_append_getElem hlt2, List.foldl_append, hf.out]; show putStep ty (keyT row) row (l, true) rows[i] = _; unfold putStep; rw [← HC.out, if_neg HN1.out, if_neg HN2.out]; have hs : T.cmp rows[i] row = 0 := (by have h := HSK.out; unfold sameB at h; simpa using h.symm); simp [hs, H2.out]⟩
          have hl9 : (l ++ [rows[i]]).length ≤ 2 * (i + 1) := by have := HM.out; simp only [List.length_append, List.length_cons, List.length_nil, this]; omega
          clear hf HC
          go_wp2_with fail
          go_roundw
          case rel => exact ⟨i + 1, _, _, _, by omega, by first | rfl | trivial, by go_num, hl9, hf9, K0_6z, K1_6z, K2_6z, O_6z⟩
          case measure => first | (simp [intOf]; done) | (simp [intOf]; omega)
      have hne2 : (ty == 2) = false := by simpa using h2
      have y0 := K0_4.out.cell 0
      have y1 := K0_4.out.cell 1
      have x0 := K1_4.out.cell 0
      have x1 := K1_4.out.cell 1
      have x2 := K1_4.out.cell 2
      have x3 := K1_4.out.cell 3
      simp only [List.getElem?_cons_zero, List.getElem?_cons_succ] at y0 y1 x0 x1 x2 x3
      have l0 : w.heap.size < w4.heap.size := K0_4.out.lt
      clear x0 x1 x2 x3
      go_wp2_with fail
      refine region_env [(0, true), (1, true), (2, true), (3, true), (4, true), (5, true), (6, true), (7, true), (8, true), (9, true), (10, true), (11, true)] (fun w' => Below w4.heap.size w4 w') 108 rfl (by kernel_rfl) (by kernel_rfl) (fun _ _ d _ _ h => by cases d <;> exact h) ((Below.refl _ _).drew) (fun ops fr HFR HSZ hl => ?_)
      have hl_0 := ops_start hl
      clear hl
      obtain ⟨H0, hl_1⟩ := ops_next 0 1 rfl hl_0
      clear hl_0
      obtain ⟨H1, hl_2⟩ := ops_next 1 2 rfl hl_1
      clear hl_1
      obtain ⟨H2, hl_3⟩ := ops_next 2 3 rfl hl_2
      clear hl_2
      obtain ⟨H3, hl_4⟩ := ops_next 3 4 rfl hl_3
      clear hl_3
      obtain ⟨H4, hl_5⟩ := ops_next 4 5 rfl hl_4
      clear hl_4
      obtain ⟨H5, hl_6⟩ := ops_next 5 6 rfl hl_5
      clear hl_5
      obtain ⟨H6, hl_7⟩ := ops_next 6 7 rfl hl_6
      clear hl_6
      obtain ⟨H7, hl_8⟩ := ops_next 7 8 rfl hl_7
      clear hl_7
      obtain ⟨H8, hl_9⟩ := ops_next 8 9 rfl hl_8
      clear hl_8
      obtain ⟨H9, hl_10⟩ := ops_next 9 10 rfl hl_9
      clear hl_9
      obtain ⟨H10, hl_11⟩ := ops_next 10 11 rfl hl_10
      clear hl_10
      obtain ⟨H11, hl_12⟩ := ops_next 11 12 rfl hl_11
      clear hl_11
      clear hl_12
      have x_2 : ext fr 2 = _ := congrArg (fun a => Act.eval a (.tmp 2)) HFR.out
      conv at x_2 => rhs; simp only [Act.eval, Array.getD_eq_getD_getElem?, List.getElem?_toArray, List.getElem?_cons_succ, List.getElem?_cons_zero, Option.getD_some]
      refine env_yes HSZ H0.out ?_ (fun w' hS => ?_) ?_
      rotate_left
      (go_simp
       rfl)
      refine env_yes HSZ H1.out ?_ (fun w' hS => ?_) ?_
      rotate_left
      (have h := (hS.cell (p := ⟨w.heap.size, 0, none⟩) l0).trans y0
       go_simp
       rfl)
      refine env_yes HSZ H2.out ?_ (fun w' hS => ?_) ?_
      rotate_left
      (go_simp
       rfl)
      refine env_yes HSZ H3.out ?_ (fun w' hS => ?_) ?_
      rotate_left
      (go_simp
       rfl)
      refine env_off HSZ H4.out H3.out (by first | rfl | go_simp) ?_
      refine env_off HSZ H5.out H3.out (by first | rfl | go_simp) ?_
      refine env_off HSZ H6.out H3.out (by first | rfl | go_simp) ?_
      refine env_off HSZ H7.out H3.out (by first | rfl | go_simp) ?_
      refine env_off HSZ H8.out H3.out (by first | rfl | go_simp) ?_
      refine env_off HSZ H9.out H3.out (by first | rfl | go_simp) ?_
      refine env_off HSZ H10.out H3.out (by first | rfl | go_simp) ?_
      refine env_yes HSZ H11.out ?_ (fun w' hS => ?_) ?_
      rotate_left
      (go_simp
       rfl)
      refine env_end ?_
      have hfr := HFR.out
      clear HFR HSZ H0 H1 H2 H3 H4 H5 H6 H7 H8 H9 H10 H11 x_2
      subst hfr
      simp only [putAll, Act.put, List.setIfInBounds_toArray, List.set_cons_succ, List.set_cons_zero]
      clear y0 y1 l0
      obtain ⟨w7, hw7⟩ : ∃ x, x = w4.drew := ⟨_, rfl⟩
      have K0_7 : Aside (Blk w7 w.heap.size 42 [.int .i64 ty, .slice (some ⟨b, o, none⟩) n c1]) := ⟨by rw [hw7]; exact K0_4.out⟩
      have K1_7 : Aside (Blk w7 (w.heap.size + 1) 26 [.int .i64 row.kind, .int .i64 row.num, .string row.str, .slice (some ⟨bk, ok, none⟩) row.kids.length z3c]) := ⟨by rw [hw7]; exact K1_4.out⟩
      have K2_7 : Aside (Blk w7 (w.heap.size + 1 + 1) 42 [.int .i64 0, .slice none 0 0]) := ⟨by rw [hw7]; exact K2_4.out⟩
      have O_7 : Aside (OutAt go ty w w7 (l) (.slice Av (m) cv)) := ⟨by rw [hw7]; exact O_4.out.below (Below.refl _ _).drew⟩
      rw [← hw7]
      clear hw7 K0_4 K1_4 K2_4 O_4
      have y0 := K0_7.out.cell 0
      have y1 := K0_7.out.cell 1
      have x0 := K1_7.out.cell 0
      have x1 := K1_7.out.cell 1
      have x2 := K1_7.out.cell 2
      have x3 := K1_7.out.cell 3
      simp only [List.getElem?_cons_zero, List.getElem?_cons_succ] at y0 y1 x0 x1 x2 x3
      have OD := Aside.mk (O_7.out.below (w2 := w7.drew) (Below.refl _ _).drew)
      have RQ := Aside.mk (Rec.term.frame RI.out (w' := w7.drew) (fun b hb => OD.out.2.2.2.1.block b hb) (fun _ h => h))
      obtain ⟨g_7z, cap_7z, wa_7z, w_7z, hrun, hgoa, hw9, o9, kpa, kp9, hbut⟩ := OD.out.app HM.out (by omega) rows[i] [.int .i64 rows[i].kind, .int .i64 rows[i].num, .string rows[i].str, .slice (some ⟨bk1, ok1, none⟩) rows[i].kids.length cap1] RQ.out w7.heap.size rfl
      have HRUN := Aside.mk hrun
      have HGOA := Aside.mk hgoa
      have HBUT := Aside.mk hbut
      have HW9 := Aside.mk hw9
      have KPA := Aside.mk kpa
      have O_7z := Aside.mk o9
      have K0_7z : Aside (Blk w_7z w.heap.size 42 [.int .i64 ty, .slice (some ⟨b, o, none⟩) n c1]) := ⟨(kp9 _ (by omega)).trans K0_7.out⟩
      have K1_7z : Aside (Blk w_7z (w.heap.size + 1) 26 [.int .i64 row.kind, .int .i64 row.num, .string row.str, .slice (some ⟨bk, ok, none⟩) row.kids.length z3c]) := ⟨(kp9 _ (by omega)).trans K1_7.out⟩
      have K2_7z : Aside (Blk w_7z (w.heap.size + 1 + 1) 42 [.int .i64 0, .slice none 0 0]) := ⟨(kp9 _ (by omega)).trans K2_7.out⟩
      clear hrun hgoa hw9 o9 kpa kp9 hbut
      have HBUT2 : Aside (But (fun c => c = go ∨ (Value.slice Av (m) cv).ownBlock = some c) w7 wa_7z) := ⟨⟨HBUT.out.os, HBUT.out.tape, HBUT.out.output, HBUT.out.size, HBUT.out.block⟩⟩
      have e10 := (O_7.out.2.2.2.1.cell (p := ⟨b, o + i * 4, none⟩) hbo).trans EI0.out
      have e11 := (O_7.out.2.2.2.1.cell (p := ⟨b, o + i * 4 + 1, none⟩) hbo).trans EI1.out
      have e12 := (O_7.out.2.2.2.1.cell (p := ⟨b, o + i * 4 + 2, none⟩) hbo).trans EI2.out
      have e13 := (O_7.out.2.2.2.1.cell (p := ⟨b, o + i * 4 + 3, none⟩) hbo).trans EI3.out
      have o1 := O_7.out.2.1.cell 1
      simp only [List.getElem?_cons_zero, List.getElem?_cons_succ] at o1
      have l0 : w.heap.size < w7.heap.size := K0_7.out.lt
      have lb : b < w7.heap.size := Nat.lt_of_lt_of_le hbo O_7.out.2.2.2.1.size
      have lo : go < w7.heap.size := O_7.out.2.1.lt
      have HWL : Aside (w.heap.size ≤ w7.heap.size) := ⟨O_7.out.2.2.2.1.size⟩
      clear x0 x1 x2 x3
      go_wp2_with fail
      refine region_env2 [(0, true), (1, true), (2, true), (3, true), (4, true), (5, true), (6, true), (7, false), (8, false), (9, true), (10, false)] (fun w' => Below w7.heap.size w7 w') (fun w' => But (fun c => c = go ∨ (Value.slice Av (m) cv).ownBlock = some c) w7 w') 8 108 rfl (by kernel_rfl) (by kernel_rfl) (fun _ _ d _ _ h => by cases d <;> exact h) (fun w' h => But.below h) ((Below.refl _ _).drew) (fun ops fr HFR HSZ HWT hl => ?_)
      have hl_0 := ops_start hl
      clear hl
      obtain ⟨H0, hl_1⟩ := ops_next 0 1 rfl hl_0
      clear hl_0
      obtain ⟨H1, hl_2⟩ := ops_next 1 2 rfl hl_1
      clear hl_1
      obtain ⟨H2, hl_3⟩ := ops_next 2 3 rfl hl_2
      clear hl_2
      obtain ⟨H3, hl_4⟩ := ops_next 3 4 rfl hl_3
      clear hl_3
      obtain ⟨H4, hl_5⟩ := ops_next 4 5 rfl hl_4
      clear hl_4
      obtain ⟨H5, hl_6⟩ := ops_next 5 6 rfl hl_5
      clear hl_5
      obtain ⟨H6, hl_7⟩ := ops_next 6 7 rfl hl_6
      clear hl_6
      obtain ⟨H7, hl_8⟩ := ops_next 7 8 rfl hl_7
      clear hl_7
      obtain ⟨H8, hl_9⟩ := ops_next 8 9 rfl hl_8
      clear hl_8
      obtain ⟨H9, hl_10⟩ := ops_next 9 10 rfl hl_9
      clear hl_9
      obtain ⟨H10, hl_11⟩ := ops_next 10 11 rfl hl_10
      clear hl_10
      clear hl_11
      have x_6 : ext fr 6 = _ := congrArg (fun a => Act.eval a (.tmp 6)) HFR.out
      conv at x_6 => rhs; simp only [Act.eval, Array.getD_eq_getD_getElem?, List.getElem?_toArray, List.getElem?_cons_succ, List.getElem?_cons_zero, Option.getD_some]
      have x_2 : ext fr 2 = _ := congrArg (fun a => Act.eval a (.tmp 2)) HFR.out
      conv at x_2 => rhs; simp only [Act.eval, Array.getD_eq_getD_getElem?, List.getElem?_toArray, List.getElem?_cons_succ, List.getElem?_cons_zero, Option.getD_some]
      have x_8 : ext fr 8 = _ := congrArg (fun a => Act.eval a (.tmp 8)) HFR.out
      conv at x_8 => rhs; simp only [Act.eval, Array.getD_eq_getD_getElem?, List.getElem?_toArray, List.getElem?_cons_succ, List.getElem?_cons_zero, Option.getD_some]
      refine env2_yes HSZ (by decide) H0.out ?_ (fun w' hS => ?_) ?_
      rotate_left
      (go_simp
       rfl)
      refine env2_early HSZ (by decide) HWT (by kernel_rfl) H1.out ?_ (fun w' hS => ?_) ?_
      rotate_left
      (have h := (hS.cell (p := ⟨go, 1, none⟩) lo).trans o1
       go_simp
       rfl)
      refine env2_yes HSZ (by decide) H2.out ?_ (fun w' hS => ?_) ?_
      rotate_left
      (go_simp
       rfl)
      refine env2_early HSZ (by decide) HWT (by kernel_rfl) H3.out ?_ (fun w' hS => ?_) ?_
      rotate_left
      (have h := (hS.cell (p := ⟨w.heap.size, 1, none⟩) l0).trans y1
       go_simp
       rfl)
      refine env2_yes HSZ (by decide) H4.out ?_ (fun w' hS => ?_) ?_
      rotate_left
      (go_simp
       rfl)
      refine env2_yes HSZ (by decide) H5.out ?_ (fun w' hS => ?_) ?_
      rotate_left
      (go_simp
       rfl)
      refine env2_early HSZ (by decide) HWT (by kernel_rfl) H6.out ?_ (fun w' hS => ?_) ?_
      rotate_left
      (have h0 := (hS.cell (p := ⟨b, o + i * 4, none⟩) lb).trans e10
       have h1 := (hS.cell (p := ⟨b, o + i * 4 + 1, none⟩) lb).trans e11
       have h2 := (hS.cell (p := ⟨b, o + i * 4 + 2, none⟩) lb).trans e12
       have h3 := (hS.cell (p := ⟨b, o + i * 4 + 3, none⟩) lb).trans e13
       go_simp
       rfl)
      refine env2_run HSZ H7.out ?_ ?_ ?_ ?_ ?_
      rotate_left 2
      (go_simp; constructor <;> rfl)
      exact ((Below.refl _ _).alloc (Nat.le_refl _) _).drew
      refine env2_run HSZ H8.out ?_ ?_ ?_ ?_ ?_
      rotate_left 2
      rotate_right 2
      exact (.slice (some ⟨g_7z, 0, none⟩) (m + 1) cap_7z)
      exact wa_7z
      exact exec_app (v := .slice Av (m) cv) (v2 := .slice (some ⟨w7.heap.size, 0, none⟩) 1 1) _ _ (by go_simp) (by go_simp) HRUN.out
      exact HBUT2.out
      refine env2_yes HSZ (by decide) H9.out ?_ (fun w' hS => ?_) ?_
      rotate_left
      (go_simp
       rfl)
      refine env2_store HSZ H10.out ?_ ?_ ?_ ?_
      rotate_left 1
      have oa := HGOA.out.cell 1
      have fa := HGOA.out.free 1
      simp only [List.getElem?_cons_zero, List.getElem?_cons_succ] at oa
      (go_simp; rfl)
      exact HBUT2.out.set (p := ⟨go, 1, none⟩) (Or.inl rfl) _
      refine env2_end ?_
      have hfr := HFR.out
      clear HFR HSZ HWT H0 H1 H2 H3 H4 H5 H6 H7 H8 H9 H10 x_6 x_2 x_8
      subst hfr
      simp only [putAll, Act.put, List.setIfInBounds_toArray, List.set_cons_succ, List.set_cons_zero]
      rw [← HW9.out]
      clear y0 y1 e10 e11 e12 e13 o1 l0 lb lo
      have hf9 : Aside ((rows.take (i + 1)).foldl (putStep ty (keyT row) row) ([], false) = (l ++ [rows[i]], true)) := ⟨by rw [List.take_succ_eq_append_getElem hlt2, List.foldl_append, hf.out]; show putStep ty (keyT row) row (l, true) rows[i] = _; unfold putStep; rw [← HC.out, if_neg HN1.out, if_neg HN2.out]; simp [h2]⟩
      have hl9 : (l ++ [rows[i]]).length ≤ 2 * (i + 1) := by have := HM.out; simp only [List.length_append, List.length_cons, List.length_nil, this]; omega
      clear hf HC
      go_wp2_with fail
      go_roundw
      case rel => exact ⟨i + 1, _, _, _, by omega, by first | rfl | trivial, by go_num, hl9, hf9, K0_7z, K1_7z, K2_7z, O_7z⟩
      case measure => first | (simp [intOf]; done) | (simp [intOf]; omega)
end Go.Proofs.Ytdldgchkinflmaa.Fn
