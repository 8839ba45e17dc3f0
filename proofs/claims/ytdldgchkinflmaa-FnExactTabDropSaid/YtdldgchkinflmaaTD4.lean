/- Walk of the program's TabDrop. Conditions: those of each theorem. -/
import Derived.Test.YtdldgchkinflmaaTD2
import Derived.Test.YtdldgchkinflmaaPlanS
set_option linter.unusedVariables false
namespace Go.Proofs.Ytdldgchkinflmaa.Fn
open Go.RowKit Go.Proofs.Ytdldgchkinflmaa.Lib Go.Proofs.Ytdldgchkinflmaa.Plan
attribute [local go_sem] look_tmp look_const look_func look_global lookT_nil lookT_hit lookT_miss

set_option maxRecDepth 100000 in
set_option maxHeartbeats 8000000 in
theorem iTabDrop (a : ATable) (key : T) (tc kc : List Value) (w : World) (ht : RTable.rd False w (Old w) a tc) (hk : Rec.term.rd False w (Old w) key kc) (hw : RTable.wt a ≤ 1048576) (hkw : Rec.term.wt key ≤ 1048576) :
    Calls Try.prog 25 #[.agg tc.toArray, .agg kc.toArray] w (RetT w (dropR a key)) := by
  obtain ⟨ty, rows⟩ := a
  have hw2 : Rec.int.wt ty + Rec.term.sl.wt rows ≤ 1048576 := hw
  have WT : Aside (Rec.term.sl.wt rows ≤ 1048576) := ⟨by omega⟩
  have HT := Aside.mk ht
  obtain ⟨_, _, _, _, rfl, p0, q0, i0, j0, -⟩ := ht
  have h1 := Rec.term.sl.mono q0 (fun b h => j0 b h)
  obtain rfl := p0
  obtain ⟨A, c1, rfl, hcap, hsl⟩ := h1
  obtain ⟨z0, z1, z2, z3a, z3b, z3c, rfl⟩ := shapeTerm hk
  have HS := Aside.mk hsl
  have HK := Aside.mk hk
  have HWT := Aside.mk hw
  obtain ⟨res, hres⟩ : ∃ r, r = dropR (ty, rows) key := ⟨_, rfl⟩
  show Calls Try.prog 25 #[.agg #[.int .i64 ty, .slice A rows.length c1], .agg #[.int .i64 z0, .int .i64 z1, .string z2, .slice z3a z3b z3c]] w (RetT w (dropR (ty, rows) key))
  rw [← hres]
  have HV := Aside.mk hres
  obtain ⟨n, hln⟩ : ∃ n, n = rows.length := ⟨_, rfl⟩
  have HN := Aside.mk hln
  rw [← hln] at hcap ⊢
  have HSL : Aside (Rec.term.sl.rd False w (Old w) rows [.slice A n c1]) := ⟨⟨A, c1, by rw [HN.out], by rw [← HN.out]; exact hcap, hsl⟩⟩
  have HT2 : Aside (RTable.rd False w (Old w) (ty, rows) [.int .i64 ty, .slice A n c1]) := ⟨by have := HT.out; rw [← HN.out] at this; exact this⟩
  clear hsl q0 i0 j0 hw hw2 hk hres hln HT
  go_enter Try.func25, Try.ntmps25
  go_wp2_with fail
  refine (iTabOK (ty, rows) [.int .i64 ty, .slice A n c1] _ (RTable.old HT2.out (by go_grown)) HWT.out).mono ?_
  rintro e w1 ⟨rfl, hb1⟩
  have K0 := Aside.mk ((((Blk.new w 42 [.int .i64 ty, .slice A n c1]).alloc _).alloc _).below hb1)
  have K1 := Aside.mk (((Blk.made (w.alloc _) 26 [.int .i64 z0, .int .i64 z1, .string z2, .slice z3a z3b z3c] (g := w.heap.size + 1) (by simp)).alloc _).below hb1)
  have K2 := Aside.mk ((Blk.made ((w.alloc _).alloc _) 42 [.int .i64 0, .slice none 0 0] (g := w.heap.size + 1 + 1) (by simp)).below hb1)
  have B1 : Aside (Below w.heap.size w w1) := ⟨below_later (by go_grown) hb1⟩
  clear hb1
  cases hb : tabB ty rows
  · have E : Aside (res = ((0, []), 1)) := ⟨by rw [HV.out, dropR, hb]; rfl⟩
    clear HV hb
    have r0 := K2.out.cell 0
    have r1 := K2.out.cell 1
    have f0 := K2.out.free 0
    have f1 := K2.out.free 1
    simp only [List.getElem?_cons_zero, List.getElem?_cons_succ] at r0 r1
    have bel := B1.out
    go_wp2_with fail
    refine bodyPost_ret (res_ct rfl _ _ (w.heap.size + 1 + 1) 42 [.int .i64 0, .slice none 0 0] _ rfl ?k_1 Try.underlying42 rfl (by kernel_rfl)) rfl ⟨_, by rw [E.out]; rfl, ?r_1, ?b_1⟩
    case k_1 => exact (K2.out.set 0 _).set 1 _
    case r_1 => rw [E.out]; exact table_rd (nil_rd _ _ _ _)
    case b_1 => go_grown
  have HB := Aside.mk hb
  have E1 : Aside (res = if key.okB then ((ty, rows.filter (otherK key)), 0) else ((0, []), 1)) := ⟨by rw [HV.out, dropR, hb]; rfl⟩
  clear HV hb
  have y0 : w1.cell? ⟨w.heap.size, 0, none⟩ = some (.int .i64 ty) := K0.out.cell 0
  have y1 : w1.cell? ⟨w.heap.size, 1, none⟩ = some (.slice A n c1) := K0.out.cell 1
  have x0 : w1.cell? ⟨w.heap.size + 1, 0, none⟩ = some (.int .i64 z0) := K1.out.cell 0
  have x1 : w1.cell? ⟨w.heap.size + 1, 1, none⟩ = some (.int .i64 z1) := K1.out.cell 1
  have x2 : w1.cell? ⟨w.heap.size + 1, 2, none⟩ = some (.string z2) := K1.out.cell 2
  have x3 : w1.cell? ⟨w.heap.size + 1, 3, none⟩ = some (.slice z3a z3b z3c) := K1.out.cell 3
  go_wp2_with fail
  refine (iTermOK key [.int .i64 z0, .int .i64 z1, .string z2, .slice z3a z3b z3c] _ (Rec.term.old HK.out B1.out) hkw).mono ?_
  rintro e w2 ⟨rfl, hb2⟩
  clear y0 y1 x0 x1 x2 x3
  have K02 := Aside.mk (K0.out.below hb2)
  have K12 := Aside.mk (K1.out.below hb2)
  have K22 := Aside.mk (K2.out.below hb2)
  have B2 := Aside.mk (below_later B1.out hb2)
  clear K0 K1 K2 B1 hb2
  cases hb : key.okB
  · have E : Aside (res = ((0, []), 1)) := ⟨by rw [E1.out, hb]; rfl⟩
    clear E1 hb
    have r0 := K22.out.cell 0
    have r1 := K22.out.cell 1
    have f0 := K22.out.free 0
    have f1 := K22.out.free 1
    simp only [List.getElem?_cons_zero, List.getElem?_cons_succ] at r0 r1
    have bel := B2.out
    go_wp2_with fail
    refine bodyPost_ret (res_ct rfl _ _ (w.heap.size + 1 + 1) 42 [.int .i64 0, .slice none 0 0] _ rfl ?k_2 Try.underlying42 rfl (by kernel_rfl)) rfl ⟨_, by rw [E.out]; rfl, ?r_2, ?b_2⟩
    case k_2 => exact (K22.out.set 0 _).set 1 _
    case r_2 => rw [E.out]; exact table_rd (nil_rd _ _ _ _)
    case b_2 => go_grown
  have HKR := Aside.mk (okB_right hb)
  have E : Aside (res = ((ty, rows.filter (otherK key)), 0)) := ⟨by rw [E1.out, hb]; rfl⟩
  clear E1 hb
  have y0 : w2.cell? ⟨w.heap.size, 0, none⟩ = some (.int .i64 ty) := K02.out.cell 0
  have y1 : w2.cell? ⟨w.heap.size, 1, none⟩ = some (.slice A n c1) := K02.out.cell 1
  have x0 : w2.cell? ⟨w.heap.size + 1, 0, none⟩ = some (.int .i64 z0) := K12.out.cell 0
  have x1 : w2.cell? ⟨w.heap.size + 1, 1, none⟩ = some (.int .i64 z1) := K12.out.cell 1
  have x2 : w2.cell? ⟨w.heap.size + 1, 2, none⟩ = some (.string z2) := K12.out.cell 2
  have x3 : w2.cell? ⟨w.heap.size + 1, 3, none⟩ = some (.slice z3a z3b z3c) := K12.out.cell 3
  go_wp2_with fail
  refine (span ty rows key [.int .i64 ty, .slice A n c1] [.int .i64 z0, .int .i64 z1, .string z2, .slice z3a z3b z3c] _ (RTable.old HT2.out B2.out) (Rec.term.old HK.out B2.out) HWT.out hkw HB.out HKR.out).mono ?_
  rintro e w3 ⟨rfl, hb3⟩
  clear y0 y1 x0 x1 x2 x3
  have K03 := Aside.mk (K02.out.below hb3)
  have K23 := Aside.mk (K22.out.below hb3)
  have B3 := Aside.mk (below_later B2.out hb3)
  clear K02 K12 K22 B2 hb3
  obtain ⟨f, hf⟩ : ∃ f, f = fromK key rows := ⟨_, rfl⟩
  have hfl := fromK_le key rows
  rw [← hf] at hfl ⊢
  obtain ⟨s, hs⟩ : ∃ s, s = sames key (rows.drop f) := ⟨_, rfl⟩
  have hsl := sames_le key (rows.drop f)
  rw [← hs] at hsl ⊢
  rw [List.length_drop] at hsl
  rw [← HN.out] at hfl hsl
  have HRES : Aside (rows.filter (otherK key) = rows.take f ++ rows.drop (f + s)) := ⟨by rw [filter_drop key HB.out, ← hf, ← hs]⟩
  have hfs : f + s ≤ n := by omega
  obtain ⟨t, hft⟩ : ∃ t, t = f + s := ⟨_, rfl⟩
  rw [show ((f : Int) + (s : Int)) = (t : Int) from by omega]
  rw [← hft] at HRES hfs
  have hft2 : f ≤ t := by omega
  clear hf hs hfl hsl hft s
  have hn1 : n ≤ 1048576 := by have := wt_len WT.out; rw [← HN.out] at this; exact this
  have y0 : w3.cell? ⟨w.heap.size, 0, none⟩ = some (.int .i64 ty) := K03.out.cell 0
  have y1 : w3.cell? ⟨w.heap.size, 1, none⟩ = some (.slice A n c1) := K03.out.cell 1
  have u1 : (f : Int) ≤ c1 := by omega
  have u2 : (0 : Int) ≤ f := by omega
  have u3 : (t : Int) ≤ n := by omega
  have u4 : (0 : Int) ≤ t := by omega
  have l0 : w.heap.size < w3.heap.size := K03.out.lt
  have l2 : w.heap.size + 1 + 1 < w3.heap.size := K23.out.lt
  have HPRE : Aside (Rec.term.sl.rd False w (Old w) (rows.take f) [.slice A f c1]) := ⟨by
    have hl : (rows.take f).length = f := by rw [List.length_take, ← HN.out]; omega
    refine ⟨A, c1, by rw [hl], by rw [hl]; omega, ?_⟩
    rcases HS.out with h0 | ⟨b, o, rfl, hr⟩
    · rw [h0]; exact Or.inl (by simp)
    · refine Or.inr ⟨b, o, rfl, ?_⟩
      have h := RowOf.sub hr 0 f
      simpa using h⟩
  have HL1 : Aside ((rows.take f).length = f) := ⟨by rw [List.length_take, ← HN.out]; omega⟩
  have HL2 : Aside ((rows.drop t).length = n - t) := ⟨by rw [List.length_drop, ← HN.out]⟩
  have HWF : Aside (Rec.term.sl.wt (rows.filter (otherK key)) ≤ 1073741824) := ⟨Nat.le_trans (filter_wt _ rows) (by have := WT.out; omega)⟩
  obtain ⟨lw, hlw⟩ : ∃ lw, lw = w.heap.size + 2 := ⟨_, rfl⟩
  have ll0 : w.heap.size < lw := by omega
  have ll2 : lw ≤ w.heap.size + 1 + 1 := by omega
  have ll3 : lw ≤ w3.heap.size := by omega
  clear hlw
  by_cases hcc : t < c1
  · have ucc : (t : Int) < c1 := by omega
    have HREST : Aside (Rec.term.sl.rd False w (Old w) (rows.drop t) [.slice (Option.map (fun x => x.add (t * 4)) A) (n - t) (c1 - t)]) := ⟨by
      have h := sl_sub (R := Rec.term) HSL.out t (n - t) (by omega)
      rwa [List.take_of_length_le (by rw [List.length_drop, ← HN.out]; omega)] at h⟩
    have hcne : ¬ c1 = t := by omega
    go_wp2_with fail
    refine region_env [(0, true), (1, true), (2, true), (3, true), (4, true), (5, true), (6, true), (7, true), (8, true), (9, true), (10, false), (11, false), (12, false), (13, true), (14, false), (15, true)] (fun w' => Below lw w3 w') 37 rfl (by kernel_rfl) (by kernel_rfl) (fun _ _ d _ _ h => by cases d <;> exact h) ((Below.refl _ _).drew) (fun ops fr HFR HSZ hl => ?_)
    have hl_0 := ops_start hl
    clear hl
    obtain ⟨H0, hl_1⟩ := ops_next 0 1 rfl hl_0
    clear hl_0
    obtain ⟨H1, hl_2⟩ := ops_next 1 2 rfl hl_1
    clear hl_1
    obtain ⟨H2, hl_3⟩ := ops_next 2 3 rfl hl_2
    clear hl_2
    obtain ⟨H3, hl_4⟩ := ops_next 3 4 rfl hl_3
    clear hl_3
    obtain ⟨H4, hl_5⟩ := ops_next 4 5 rfl hl_4
    clear hl_4
    obtain ⟨H5, hl_6⟩ := ops_next 5 6 rfl hl_5
    clear hl_5
    obtain ⟨H6, hl_7⟩ := ops_next 6 7 rfl hl_6
    clear hl_6
    obtain ⟨H7, hl_8⟩ := ops_next 7 8 rfl hl_7
    clear hl_7
    obtain ⟨H8, hl_9⟩ := ops_next 8 9 rfl hl_8
    clear hl_8
    obtain ⟨H9, hl_10⟩ := ops_next 9 10 rfl hl_9
    clear hl_9
    obtain ⟨H10, hl_11⟩ := ops_next 10 11 rfl hl_10
    clear hl_10
    obtain ⟨H11, hl_12⟩ := ops_next 11 12 rfl hl_11
    clear hl_11
    obtain ⟨H12, hl_13⟩ := ops_next 12 13 rfl hl_12
    clear hl_12
    obtain ⟨H13, hl_14⟩ := ops_next 13 14 rfl hl_13
    clear hl_13
    obtain ⟨H14, hl_15⟩ := ops_next 14 15 rfl hl_14
    clear hl_14
    obtain ⟨H15, hl_16⟩ := ops_next 15 16 rfl hl_15
    clear hl_15
    clear hl_16
    have x_2 : ext fr 2 = _ := congrArg (fun a => Act.eval a (.tmp 2)) HFR.out
    conv at x_2 => rhs; simp only [Act.eval, Array.getD_eq_getD_getElem?, List.getElem?_toArray, List.getElem?_cons_succ, List.getElem?_cons_zero, Option.getD_some]
    have x_6 : ext fr 6 = _ := congrArg (fun a => Act.eval a (.tmp 6)) HFR.out
    conv at x_6 => rhs; simp only [Act.eval, Array.getD_eq_getD_getElem?, List.getElem?_toArray, List.getElem?_cons_succ, List.getElem?_cons_zero, Option.getD_some]
    have x_7 : ext fr 7 = _ := congrArg (fun a => Act.eval a (.tmp 7)) HFR.out
    conv at x_7 => rhs; simp only [Act.eval, Array.getD_eq_getD_getElem?, List.getElem?_toArray, List.getElem?_cons_succ, List.getElem?_cons_zero, Option.getD_some]
    have x_4 : ext fr 4 = _ := congrArg (fun a => Act.eval a (.tmp 4)) HFR.out
    conv at x_4 => rhs; simp only [Act.eval, Array.getD_eq_getD_getElem?, List.getElem?_toArray, List.getElem?_cons_succ, List.getElem?_cons_zero, Option.getD_some]
    refine env_yes HSZ H0.out ?_ (fun w' hS => ?_) ?_
    rotate_left
    (go_simp
     rfl)
    refine env_yes HSZ H1.out ?_ (fun w' hS => ?_) ?_
    rotate_left
    (have h := (hS.cell (p := ⟨w.heap.size, 0, none⟩) ll0).trans y0
     go_simp
     rfl)
    refine env_yes HSZ H2.out ?_ (fun w' hS => ?_) ?_
    rotate_left
    (go_simp
     rfl)
    refine env_yes HSZ H3.out ?_ (fun w' hS => ?_) ?_
    rotate_left
    (have h := (hS.cell (p := ⟨w.heap.size, 1, none⟩) ll0).trans y1
     go_simp
     rfl)
    refine env_yes HSZ H4.out ?_ (fun w' hS => ?_) ?_
    rotate_left
    (go_simp
     rfl)
    refine env_yes HSZ H5.out ?_ (fun w' hS => ?_) ?_
    rotate_left
    (go_simp
     rfl)
    refine env_yes HSZ H6.out ?_ (fun w' hS => ?_) ?_
    rotate_left
    (go_simp
     rfl)
    refine env_yes HSZ H7.out ?_ (fun w' hS => ?_) ?_
    rotate_left
    (have h := (hS.cell (p := ⟨w.heap.size, 1, none⟩) ll0).trans y1
     go_simp
     rfl)
    refine env_yes HSZ H8.out ?_ (fun w' hS => ?_) ?_
    rotate_left
    (go_simp
     rfl)
    refine env_yes HSZ H9.out ?_ (fun w' hS => ?_) ?_
    rotate_left
    (go_simp
     rfl)
    refine env_run HSZ H10.out ?_ ?_ ?_ ?_ ?_
    rotate_left 2
    (go_simp; constructor <;> rfl)
    exact ((Below.refl _ _).alloc ll3 _).drew
    refine env_call HSZ H11.out ?_ ?_ ?_ ?_
    rotate_left 2
    (go_simp
     first | rfl | (constructor <;> rfl))
    refine (concat2 (rows.take f) (rows.drop t) A (Option.map (fun x => x.add (t * 4)) A) c1 (c1 - t) w3.heap.size _ (by rw [HL1.out, HL2.out]; exact (Blk.new w3 24 [.slice A f c1, .slice (Option.map (fun x => x.add (t * 4)) A) (n - t) (c1 - t)]).drew) (by rw [HL1.out]; exact Rec.term.sl.old HPRE.out (B3.out.alloc B3.out.size _).drew) (by rw [HL2.out]; exact Rec.term.sl.old HREST.out (B3.out.alloc B3.out.size _).drew) (by rw [HL1.out, HL2.out]; omega)).mono ?_
    rintro e w5 ⟨v5, rfl, hr5, hb5⟩
    have hs5 : w3.heap.size + 1 ≤ w5.heap.size := by have := hb5.size; change (w3.alloc _).heap.size ≤ _ at this; simpa using this
    have B5 := Aside.mk (below_later ((B3.out.alloc B3.out.size (.cells #[.slice A f c1, .slice (Option.map (fun x => x.add (t * 4)) A) (n - t) (c1 - t)] 24)).drew) hb5)
    have K25 := Aside.mk (((K23.out.alloc (.cells #[.slice A f c1, .slice (Option.map (fun x => x.add (t * 4)) A) (n - t) (c1 - t)] 24)).drew).below hb5)
    have S5 : Below lw w3 w5 := (((Below.refl _ _).alloc ll3 _).drew).trans (hb5.mono (by change lw ≤ (w3.alloc _).heap.size; simp; omega))
    rw [← HRES.out] at hr5
    have HR5 := Aside.mk hr5
    have HS5 := Aside.mk S5
    refine ⟨_, rfl, S5, ?_⟩
    clear hr5 hb5 S5
    refine env_call HSZ H12.out ?_ ?_ ?_ ?_
    rotate_left 2
    (go_simp
     first | rfl | (constructor <;> rfl))
    refine (copyTerms (rows.filter (otherK key)) v5 _ HWF.out HR5.out).mono ?_
    rintro e w6 ⟨v6, rfl, hr6, hb6⟩
    have B6 := Aside.mk (below_later B5.out hb6)
    have K26 := Aside.mk (K25.out.below hb6)
    have S6 : Below lw w3 w6 := HS5.out.trans (hb6.mono (by omega))
    obtain ⟨B7, d7, rfl, hc7⟩ : ∃ B d, v6 = .slice B (rows.filter (otherK key)).length d ∧ True := (by obtain ⟨B, d, he, -⟩ := hr6; injection he with he _; exact ⟨B, d, he, trivial⟩)
    have HR6 := Aside.mk hr6
    have HS6 := Aside.mk S6
    have hsz6 : w5.heap.size ≤ w6.heap.size := hb6.size
    refine ⟨_, rfl, S6, ?_⟩
    clear hr6 hb6 S6 hc7
    refine env_yes HSZ H13.out ?_ (fun w' hS => ?_) ?_
    rotate_left
    (go_simp
     rfl)
    refine env_store HSZ H14.out ?_ ?_ ?_ ?_
    rotate_left 1
    have q0 := K26.out.cell 0
    have q1 := K26.out.cell 1
    have f0 := K26.out.free 0
    have f1 := K26.out.free 1
    simp only [List.getElem?_cons_zero, List.getElem?_cons_succ] at q0 q1
    (go_simp; rfl)
    exact (HS6.out.setCell ll2 _).setCell ll2 _
    refine env_yes HSZ H15.out ?_ (fun w' hS => ?_) ?_
    rotate_left
    (go_simp
     rfl)
    refine env_end ?_
    have hfr := HFR.out
    clear HFR HSZ H0 H1 H2 H3 H4 H5 H6 H7 H8 H9 H10 H11 H12 H13 H14 H15 x_2 x_6 x_7 x_4
    subst hfr
    simp only [putAll, Act.put, List.setIfInBounds_toArray, List.set_cons_succ, List.set_cons_zero]
    go_wp2_with fail
    refine bodyPost_ret (res_ct rfl _ _ (w.heap.size + 1 + 1) 42 [.int .i64 ty, .slice B7 (rows.filter (otherK key)).length d7] _ rfl ?k_3 Try.underlying42 rfl (by kernel_rfl)) rfl ⟨_, by rw [E.out]; rfl, ?r_3, ?b_3⟩
    case k_3 => exact (K26.out.set 0 _).set 1 _
    case r_3 =>
      rw [E.out]
      have hsz3 := B3.out.size
      refine table_rd ?_
      exact Rec.term.sl.frame HR6.out (fun b hb => by rw [heap_far (by have := hb.1; omega), heap_far (by have := hb.1; omega)]) (fun b hb => ⟨by have := hb.1; omega, by simpa using hb.2⟩)
    case b_3 =>
      have bel := B6.out
      go_grown
  · obtain rfl : t = c1 := by omega
    obtain rfl : t = n := by omega
    have HREST : Aside (Rec.term.sl.rd False w (Old w) (rows.drop t) [.slice A 0 0]) := ⟨by
      rw [List.drop_of_length_le (by rw [← HN.out]; omega)]
      exact ⟨A, 0, rfl, Nat.le_refl _, Or.inl rfl⟩⟩
    have HL3 : Aside ((rows.drop t).length = 0) := ⟨by rw [HL2.out]; omega⟩
    clear HL2
    have HL2 := HL3
    go_wp2_with fail
    refine region_env [(0, true), (1, true), (2, true), (3, true), (4, true), (5, true), (6, true), (7, true), (8, true), (9, true), (10, false), (11, false), (12, false), (13, true), (14, false), (15, true)] (fun w' => Below lw w3 w') 37 rfl (by kernel_rfl) (by kernel_rfl) (fun _ _ d _ _ h => by cases d <;> exact h) ((Below.refl _ _).drew) (fun ops fr HFR HSZ hl => ?_)
    have hl_0 := ops_start hl
    clear hl
    obtain ⟨H0, hl_1⟩ := ops_next 0 1 rfl hl_0
    clear hl_0
    obtain ⟨H1, hl_2⟩ := ops_next 1 2 rfl hl_1
    clear hl_1
    obtain ⟨H2, hl_3⟩ := ops_next 2 3 rfl hl_2
    clear hl_2
    obtain ⟨H3, hl_4⟩ := ops_next 3 4 rfl hl_3
    clear hl_3
    obtain ⟨H4, hl_5⟩ := ops_next 4 5 rfl hl_4
    clear hl_4
    obtain ⟨H5, hl_6⟩ := ops_next 5 6 rfl hl_5
    clear hl_5
    obtain ⟨H6, hl_7⟩ := ops_next 6 7 rfl hl_6
    clear hl_6
    obtain ⟨H7, hl_8⟩ := ops_next 7 8 rfl hl_7
    clear hl_7
    obtain ⟨H8, hl_9⟩ := ops_next 8 9 rfl hl_8
    clear hl_8
    obtain ⟨H9, hl_10⟩ := ops_next 9 10 rfl hl_9
    clear hl_9
    obtain ⟨H10, hl_11⟩ := ops_next 10 11 rfl hl_10
    clear hl_10
    obtain ⟨H11, hl_12⟩ := ops_next 11 12 rfl hl_11
    clear hl_11
    obtain ⟨H12, hl_13⟩ := ops_next 12 13 rfl hl_12
    clear hl_12
    obtain ⟨H13, hl_14⟩ := ops_next 13 14 rfl hl_13
    clear hl_13
    obtain ⟨H14, hl_15⟩ := ops_next 14 15 rfl hl_14
    clear hl_14
    obtain ⟨H15, hl_16⟩ := ops_next 15 16 rfl hl_15
    clear hl_15
    clear hl_16
    have x_2 : ext fr 2 = _ := congrArg (fun a => Act.eval a (.tmp 2)) HFR.out
    conv at x_2 => rhs; simp only [Act.eval, Array.getD_eq_getD_getElem?, List.getElem?_toArray, List.getElem?_cons_succ, List.getElem?_cons_zero, Option.getD_some]
    have x_6 : ext fr 6 = _ := congrArg (fun a => Act.eval a (.tmp 6)) HFR.out
    conv at x_6 => rhs; simp only [Act.eval, Array.getD_eq_getD_getElem?, List.getElem?_toArray, List.getElem?_cons_succ, List.getElem?_cons_zero, Option.getD_some]
    have x_7 : ext fr 7 = _ := congrArg (fun a => Act.eval a (.tmp 7)) HFR.out
    conv at x_7 => rhs; simp only [Act.eval, Array.getD_eq_getD_getElem?, List.getElem?_toArray, List.getElem?_cons_succ, List.getElem?_cons_zero, Option.getD_some]
    have x_4 : ext fr 4 = _ := congrArg (fun a => Act.eval a (.tmp 4)) HFR.out
    conv at x_4 => rhs; simp only [Act.eval, Array.getD_eq_getD_getElem?, List.getElem?_toArray, List.getElem?_cons_succ, List.getElem?_cons_zero, Option.getD_some]
    refine env_yes HSZ H0.out ?_ (fun w' hS => ?_) ?_
    rotate_left
    (go_simp
     rfl)
    refine env_yes HSZ H1.out ?_ (fun w' hS => ?_) ?_
    rotate_left
    (have h := (hS.cell (p := ⟨w.heap.size, 0, none⟩) ll0).trans y0
     go_simp
     rfl)
    refine env_yes HSZ H2.out ?_ (fun w' hS => ?_) ?_
    rotate_left
    (go_simp
     rfl)
    refine env_yes HSZ H3.out ?_ (fun w' hS => ?_) ?_
    rotate_left
    (have h := (hS.cell (p := ⟨w.heap.size, 1, none⟩) ll0).trans y1
     go_simp
     rfl)
    refine env_yes HSZ H4.out ?_ (fun w' hS => ?_) ?_
    rotate_left
    (go_simp
     rfl)
    refine env_yes HSZ H5.out ?_ (fun w' hS => ?_) ?_
    rotate_left
    (go_simp
     rfl)
    refine env_yes HSZ H6.out ?_ (fun w' hS => ?_) ?_
    rotate_left
    (go_simp
     rfl)
    refine env_yes HSZ H7.out ?_ (fun w' hS => ?_) ?_
    rotate_left
    (have h := (hS.cell (p := ⟨w.heap.size, 1, none⟩) ll0).trans y1
     go_simp
     rfl)
    refine env_yes HSZ H8.out ?_ (fun w' hS => ?_) ?_
    rotate_left
    (go_simp
     rfl)
    refine env_yes HSZ H9.out ?_ (fun w' hS => ?_) ?_
    rotate_left
    (go_simp
     rfl)
    refine env_run HSZ H10.out ?_ ?_ ?_ ?_ ?_
    rotate_left 2
    (go_simp; constructor <;> rfl)
    exact ((Below.refl _ _).alloc ll3 _).drew
    refine env_call HSZ H11.out ?_ ?_ ?_ ?_
    rotate_left 2
    (go_simp
     first | rfl | (constructor <;> rfl))
    refine (concat2 (rows.take f) (rows.drop t) A (A) t (0) w3.heap.size _ (by rw [HL1.out, HL2.out]; exact (Blk.new w3 24 [.slice A f t, .slice (A) (0) (0)]).drew) (by rw [HL1.out]; exact Rec.term.sl.old HPRE.out (B3.out.alloc B3.out.size _).drew) (by rw [HL2.out]; exact Rec.term.sl.old HREST.out (B3.out.alloc B3.out.size _).drew) (by rw [HL1.out, HL2.out]; omega)).mono ?_
    rintro e w5 ⟨v5, rfl, hr5, hb5⟩
    have hs5 : w3.heap.size + 1 ≤ w5.heap.size := by have := hb5.size; change (w3.alloc _).heap.size ≤ _ at this; simpa using this
    have B5 := Aside.mk (below_later ((B3.out.alloc B3.out.size (.cells #[.slice A f t, .slice (A) (0) (0)] 24)).drew) hb5)
    have K25 := Aside.mk (((K23.out.alloc (.cells #[.slice A f t, .slice (A) (0) (0)] 24)).drew).below hb5)
    have S5 : Below lw w3 w5 := (((Below.refl _ _).alloc ll3 _).drew).trans (hb5.mono (by change lw ≤ (w3.alloc _).heap.size; simp; omega))
    rw [← HRES.out] at hr5
    have HR5 := Aside.mk hr5
    have HS5 := Aside.mk S5
    refine ⟨_, rfl, S5, ?_⟩
    clear hr5 hb5 S5
    refine env_call HSZ H12.out ?_ ?_ ?_ ?_
    rotate_left 2
    (go_simp
     first | rfl | (constructor <;> rfl))
    refine (copyTerms (rows.filter (otherK key)) v5 _ HWF.out HR5.out).mono ?_
    rintro e w6 ⟨v6, rfl, hr6, hb6⟩
    have B6 := Aside.mk (below_later B5.out hb6)
    have K26 := Aside.mk (K25.out.below hb6)
    have S6 : Below lw w3 w6 := HS5.out.trans (hb6.mono (by omega))
    obtain ⟨B7, d7, rfl, hc7⟩ : ∃ B d, v6 = .slice B (rows.filter (otherK key)).length d ∧ True := (by obtain ⟨B, d, he, -⟩ := hr6; injection he with he _; exact ⟨B, d, he, trivial⟩)
    have HR6 := Aside.mk hr6
    have HS6 := Aside.mk S6
    have hsz6 : w5.heap.size ≤ w6.heap.size := hb6.size
    refine ⟨_, rfl, S6, ?_⟩
    clear hr6 hb6 S6 hc7
    refine env_yes HSZ H13.out ?_ (fun w' hS => ?_) ?_
    rotate_left
    (go_simp
     rfl)
    refine env_store HSZ H14.out ?_ ?_ ?_ ?_
    rotate_left 1
    have q0 := K26.out.cell 0
    have q1 := K26.out.cell 1
    have f0 := K26.out.free 0
    have f1 := K26.out.free 1
    simp only [List.getElem?_cons_zero, List.getElem?_cons_succ] at q0 q1
    (go_simp; rfl)
    exact (HS6.out.setCell ll2 _).setCell ll2 _
    refine env_yes HSZ H15.out ?_ (fun w' hS => ?_) ?_
    rotate_left
    (go_simp
     rfl)
    refine env_end ?_
    have hfr := HFR.out
    clear HFR HSZ H0 H1 H2 H3 H4 H5 H6 H7 H8 H9 H10 H11 H12 H13 H14 H15 x_2 x_6 x_7 x_4
    subst hfr
    simp only [putAll, Act.put, List.setIfInBounds_toArray, List.set_cons_succ, List.set_cons_zero]
    go_wp2_with fail
    refine bodyPost_ret (res_ct rfl _ _ (w.heap.size + 1 + 1) 42 [.int .i64 ty, .slice B7 (rows.filter (otherK key)).length d7] _ rfl ?k_4 Try.underlying42 rfl (by kernel_rfl)) rfl ⟨_, by rw [E.out]; rfl, ?r_4, ?b_4⟩
    case k_4 => exact (K26.out.set 0 _).set 1 _
    case r_4 =>
      rw [E.out]
      have hsz3 := B3.out.size
      refine table_rd ?_
      exact Rec.term.sl.frame HR6.out (fun b hb => by rw [heap_far (by have := hb.1; omega), heap_far (by have := hb.1; omega)]) (fun b hb => ⟨by have := hb.1; omega, by simpa using hb.2⟩)
    case b_4 =>
      have bel := B6.out
      go_grown
end Go.Proofs.Ytdldgchkinflmaa.Fn
