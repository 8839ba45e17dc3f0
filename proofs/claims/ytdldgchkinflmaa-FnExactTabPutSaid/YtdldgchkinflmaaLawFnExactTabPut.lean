/- Walk of the law FnExactTabPut. Conditions: those of each theorem. -/
import Derived.Test.YtdldgchkinflmaaTPA
import Derived.Test.YtdldgchkinflmaaTP7
import Derived.Test.YtdldgchkinflmaaEnv
import Derived.Test.YtdldgchkinflmaaPlanW
set_option linter.unusedVariables false
namespace Go.Proofs.Ytdldgchkinflmaa.Fn
open Go.RowKit Go.Proofs.Ytdldgchkinflmaa.Lib Go.Proofs.Ytdldgchkinflmaa.Plan
attribute [local go_sem] look_tmp look_const look_func look_global lookT_nil lookT_hit lookT_miss
set_option maxRecDepth 100000 in
set_option maxHeartbeats 8000000 in
theorem FnExactTabPut (aT : ATable) (csaT : List Value) (aRow : T) (csaRow : List Value) (w : World) (haT : RTable.rd False w (Old w) aT csaT) (oaT : RTable.ok aT) (haRow : Rec.term.rd False w (Old w) aRow csaRow) (oaRow : Rec.term.ok aRow) :
    Calls Try.prog 5 #[.agg csaT.toArray, .agg csaRow.toArray] w fun e w' => e = .returned (.bool true) ∧ Below w.heap.size w w' := by
  obtain ⟨xaT0, xaT1a, xaT1b, xaT1c, rfl⟩ := shapeTable haT
  have DaT : Aside (RTable.rd False w (Span 0 w.heap.size) aT [.int .i64 xaT0, .slice xaT1a xaT1b xaT1c]) := ⟨RTable.mono haT (fun b h => ⟨Nat.zero_le _, h⟩)⟩
  have OaT := Aside.mk oaT
  obtain ⟨naT, taT⟩ : ∃ n, RTable.wt aT = n := ⟨_, rfl⟩
  have TaT := Aside.mk taT
  clear haT oaT taT
  obtain ⟨xaRow0, xaRow1, xaRow2, xaRow3a, xaRow3b, xaRow3c, rfl⟩ := shapeTerm haRow
  have DaRow : Aside (Rec.term.rd False w (Span 0 w.heap.size) aRow [.int .i64 xaRow0, .int .i64 xaRow1, .string xaRow2, .slice xaRow3a xaRow3b xaRow3c]) := ⟨Rec.term.mono haRow (fun b h => ⟨Nat.zero_le _, h⟩)⟩
  have OaRow := Aside.mk oaRow
  obtain ⟨naRow, taRow⟩ : ∃ n, Rec.term.wt aRow = n := ⟨_, rfl⟩
  have TaRow := Aside.mk taRow
  clear haRow oaRow taRow
  obtain ⟨⟨x0, x1⟩, hRES⟩ : ∃ r, r = putR aT aRow := ⟨_, rfl⟩
  have HRES := Aside.mk hRES
  clear hRES
  show Calls Try.prog 5 #[.agg #[.int .i64 xaT0, .slice xaT1a xaT1b xaT1c], .agg #[.int .i64 xaRow0, .int .i64 xaRow1, .string xaRow2, .slice xaRow3a xaRow3b xaRow3c]] w _
  have BEL : Aside (Below w.heap.size w w) := ⟨Below.refl _ _⟩
  go_enter Try.func5, Try.ntmps5
  go_wp2_with fail
  refine (szTable aT [.int .i64 xaT0, .slice xaT1a xaT1b xaT1c] _ (1048576) (RTable.made DaT.out (by omega) (by first | exact Below.refl _ _ | go_grown)) OaT.out (by omega) (by omega)).mono ?_
  rintro e w1 ⟨rfl, hb⟩
  have hst : Below w.heap.size w w1 := below_later (by go_grown) hb
  have hbt : But NoB w w1 := But.below hst
  have gw1 : w.heap.size ≤ w1.heap.size := hbt.size
  have K2 := Aside.mk (((Blk.made w 36 [.int .i64 xaT0, .slice xaT1a xaT1b xaT1c] (g := w.heap.size) (by simp)).alloc _).below hb)
  have m2 : w.heap.size < w1.heap.size := K2.out.lt
  have K3 := Aside.mk ((Blk.made (w.alloc _) 38 [.int .i64 xaRow0, .int .i64 xaRow1, .string xaRow2, .slice xaRow3a xaRow3b xaRow3c] (g := w.heap.size + 1) (by simp)).below hb)
  have m3 : w.heap.size + 1 < w1.heap.size := K3.out.lt
  have bel2 := Aside.mk (below_later BEL.out hst)
  clear BEL
  have BEL := bel2
  clear bel2
  have dd := Aside.mk (RTable.but DaT.out hbt (fun b hb => ⟨by have h2 := hb.2; omega, fun h => h.elim⟩))
  clear DaT
  have DaT := dd
  clear dd
  have dd := Aside.mk (Rec.term.but DaRow.out hbt (fun b hb => ⟨by have h2 := hb.2; omega, fun h => h.elim⟩))
  clear DaRow
  have DaRow := dd
  clear dd
  clear hbt hst hb
  have l2 : w.heap.size < w1.heap.size := K2.out.lt
  have y2_0 : w1.cell? ⟨w.heap.size, 0, none⟩ = some (.int .i64 xaT0) := K2.out.cell 0
  have y2_1 : w1.cell? ⟨w.heap.size, 1, none⟩ = some (.slice xaT1a xaT1b xaT1c) := K2.out.cell 1
  have l3 : w.heap.size + 1 < w1.heap.size := K3.out.lt
  have y3_0 : w1.cell? ⟨w.heap.size + 1, 0, none⟩ = some (.int .i64 xaRow0) := K3.out.cell 0
  have y3_1 : w1.cell? ⟨w.heap.size + 1, 1, none⟩ = some (.int .i64 xaRow1) := K3.out.cell 1
  have y3_2 : w1.cell? ⟨w.heap.size + 1, 2, none⟩ = some (.string xaRow2) := K3.out.cell 2
  have y3_3 : w1.cell? ⟨w.heap.size + 1, 3, none⟩ = some (.slice xaRow3a xaRow3b xaRow3c) := K3.out.cell 3
  rw [TaT.out]
  by_cases laT : (naT : Int) ≤ 1048576
  rotate_left
  · rw [szR_no laT]
    go_wp2
    go_ret
    exact ⟨rfl, BEL.out⟩
  rw [szR_yes laT]
  have WaT : Aside (RTable.wt aT ≤ 1048576) := ⟨by rw [TaT.out]; omega⟩
  go_wp2_with fail
  refine (szTerm aRow [.int .i64 xaRow0, .int .i64 xaRow1, .string xaRow2, .slice xaRow3a xaRow3b xaRow3c] _ (1048576 - naT) (Rec.term.made DaRow.out (by omega) (by first | exact Below.refl _ _ | go_grown)) OaRow.out (by omega) (by omega)).mono ?_
  rintro e w2 ⟨rfl, hb⟩
  clear l2 y2_0 y2_1
  clear l3 y3_0 y3_1 y3_2 y3_3
  have hst : Below w1.heap.size w1 w2 := below_later (by go_grown) hb
  have hbt : But NoB w1 w2 := But.below hst
  have gw2 : w1.heap.size ≤ w2.heap.size := hbt.size
  have kk := (K2.out).below hst
  clear K2
  have K2 := Aside.mk kk
  clear kk
  have kk := (K3.out).below hst
  clear K3
  have K3 := Aside.mk kk
  clear kk
  have bel2 := Aside.mk (below_later BEL.out hst)
  clear BEL
  have BEL := bel2
  clear bel2
  have dd := Aside.mk (RTable.but DaT.out hbt (fun b hb => ⟨by have h2 := hb.2; omega, fun h => h.elim⟩))
  clear DaT
  have DaT := dd
  clear dd
  have dd := Aside.mk (Rec.term.but DaRow.out hbt (fun b hb => ⟨by have h2 := hb.2; omega, fun h => h.elim⟩))
  clear DaRow
  have DaRow := dd
  clear dd
  clear hbt hst hb
  have l2 : w.heap.size < w2.heap.size := K2.out.lt
  have y2_0 : w2.cell? ⟨w.heap.size, 0, none⟩ = some (.int .i64 xaT0) := K2.out.cell 0
  have y2_1 : w2.cell? ⟨w.heap.size, 1, none⟩ = some (.slice xaT1a xaT1b xaT1c) := K2.out.cell 1
  have l3 : w.heap.size + 1 < w2.heap.size := K3.out.lt
  have y3_0 : w2.cell? ⟨w.heap.size + 1, 0, none⟩ = some (.int .i64 xaRow0) := K3.out.cell 0
  have y3_1 : w2.cell? ⟨w.heap.size + 1, 1, none⟩ = some (.int .i64 xaRow1) := K3.out.cell 1
  have y3_2 : w2.cell? ⟨w.heap.size + 1, 2, none⟩ = some (.string xaRow2) := K3.out.cell 2
  have y3_3 : w2.cell? ⟨w.heap.size + 1, 3, none⟩ = some (.slice xaRow3a xaRow3b xaRow3c) := K3.out.cell 3
  rw [TaRow.out]
  by_cases laRow : (naRow : Int) ≤ 1048576 - naT
  rotate_left
  · rw [szR_no laRow]
    go_wp2
    go_ret
    exact ⟨rfl, BEL.out⟩
  rw [szR_yes laRow]
  have WaRow : Aside (Rec.term.wt aRow ≤ 1048576) := ⟨by rw [TaRow.out]; omega⟩
  go_wp2_with fail
  have HA : Aside (RTable.rd False w2 (Old w2) aT [.int .i64 xaT0, .slice xaT1a xaT1b xaT1c]) := ⟨(RTable.made DaT.out (by omega) (by first | exact Below.refl _ _ | go_grown))⟩
  have HB : Aside (Rec.term.rd False w2 (Old w2) aRow [.int .i64 xaRow0, .int .i64 xaRow1, .string xaRow2, .slice xaRow3a xaRow3b xaRow3c]) := ⟨(Rec.term.made DaRow.out (by omega) (by first | exact Below.refl _ _ | go_grown))⟩
  refine region_join (.yes 0 (.yes 2 (.fork 1 8 (.fork 3 8 (.fork 4 8 (.yes 5 (.yes 6 (.yes 7 (.eff 8 (.eff 9 (.yes 10 .nil)))))) (.eff 4 (.yes 5 (.yes 6 (.yes 7 (.eff 9 (.yes 10 .nil))))))) (.eff 3 (.eff 4 (.yes 5 (.yes 6 (.yes 7 (.eff 9 (.yes 10 .nil)))))))) (.eff 1 (.eff 3 (.eff 4 (.yes 5 (.yes 6 (.yes 7 (.eff 9 (.yes 10 .nil))))))))))) (fun w' => Below w2.heap.size w2 w') 119 rfl (by kernel_rfl) (by kernel_rfl) (Below.refl _ _).drew (fun us wz => ∃ (g : Nat) (v1 v2 : Value) (q0 : Int) (q1a : Option Addr) (q1b : Nat) (q1c : Nat), us = [(7, .int .i64 x1), (6, .pointer (some ⟨g, 0, none⟩)), (34, .int .i64 x1), (33, .agg #[.int .i64 q0, .slice q1a q1b q1c]), (27, .tuple #[.agg #[.int .i64 q0, .slice q1a q1b q1c], .int .i64 x1]), (32, .tuple #[.agg #[.int .i64 q0, .slice q1a q1b q1c], .int .i64 x1]), (31, v2), (29, v1), (30, .agg #[.int .i64 xaRow0, .int .i64 xaRow1, .string xaRow2, .slice xaRow3a xaRow3b xaRow3c]), (28, .agg #[.int .i64 xaT0, .slice xaT1a xaT1b xaT1c])] ∧ Aside (RTable.rd False wz (Old wz) x0 [.int .i64 q0, .slice q1a q1b q1c]) ∧ Aside (Blk wz g 42 [.int .i64 q0, .slice q1a q1b q1c]) ∧ Aside (Below w2.heap.size w2 wz)) (fun ops fr HFR HSZ hl => ?_) (fun us wz hR => ?_)
  · have hl_0 := ops_start hl
    clear hl
    obtain ⟨H0, hl_1⟩ := ops_next 0 1 rfl hl_0
    clear hl_0
    obtain ⟨H1, hl_2⟩ := ops_next 1 2 rfl hl_1
    clear hl_1
    obtain ⟨H2, hl_3⟩ := ops_next 2 3 rfl hl_2
    clear hl_2
    obtain ⟨H3, hl_4⟩ := ops_next 3 4 rfl hl_3
    clear hl_3
    obtain ⟨H4, hl_5⟩ := ops_next 4 5 rfl hl_4
    clear hl_4
    obtain ⟨H5, hl_6⟩ := ops_next 5 6 rfl hl_5
    clear hl_5
    obtain ⟨H6, hl_7⟩ := ops_next 6 7 rfl hl_6
    clear hl_6
    obtain ⟨H7, hl_8⟩ := ops_next 7 8 rfl hl_7
    clear hl_7
    obtain ⟨H8, hl_9⟩ := ops_next 8 9 rfl hl_8
    clear hl_8
    obtain ⟨H9, hl_10⟩ := ops_next 9 10 rfl hl_9
    clear hl_9
    obtain ⟨H10, hl_11⟩ := ops_next 10 11 rfl hl_10
    clear hl_10
    clear hl_11
    have x_2 : ext fr 2 = _ := congrArg (fun a => Act.eval a (.tmp 2)) HFR.out
    conv at x_2 => rhs; simp only [Act.eval, Array.getD_eq_getD_getElem?, List.getElem?_toArray, List.getElem?_cons_succ, List.getElem?_cons_zero, Option.getD_some]
    have x_3 : ext fr 3 = _ := congrArg (fun a => Act.eval a (.tmp 3)) HFR.out
    conv at x_3 => rhs; simp only [Act.eval, Array.getD_eq_getD_getElem?, List.getElem?_toArray, List.getElem?_cons_succ, List.getElem?_cons_zero, Option.getD_some]
    refine tenv_yes HSZ H0.out ?_ (fun w' hS => ?_) ?_
    rotate_left
    (have h0 := (hS.cell (p := ⟨w.heap.size, 0, none⟩) l2).trans y2_0
     have h1 := (hS.cell (p := ⟨w.heap.size, 1, none⟩) l2).trans y2_1
     go_simp
     rfl)
    refine tenv_yes HSZ H2.out ?_ (fun w' hS => ?_) ?_
    rotate_left
    (have h0 := (hS.cell (p := ⟨w.heap.size + 1, 0, none⟩) l3).trans y3_0
     have h1 := (hS.cell (p := ⟨w.heap.size + 1, 1, none⟩) l3).trans y3_1
     have h2 := (hS.cell (p := ⟨w.heap.size + 1, 2, none⟩) l3).trans y3_2
     have h3 := (hS.cell (p := ⟨w.heap.size + 1, 3, none⟩) l3).trans y3_3
     go_simp
     rfl)
    have HBc : Aside (Below w2.heap.size w2 w2.drew) := ⟨(Below.refl _ _).drew⟩
    refine And.intro ?_ ?_
    · refine top_call HSZ H1.out ?_ ?_ ?_ ?_
      rotate_left 2
      (go_simp
       first | rfl | (constructor <;> rfl))
      refine (toTable aT [.int .i64 xaT0, .slice xaT1a xaT1b xaT1c] _ (RTable.old HA.out HBc.out) WaT.out).mono ?_
      rintro e wd1 ⟨cs1, rfl, hr, hb⟩
      have hx := Aside.mk (below_later HBc.out hb)
      clear HBc
      have HBc := hx
      clear hx
      have H1 : Aside (RTable.rd False wd1 (Old wd1) aT cs1) := ⟨RTable.weak (RTable.mono hr (fun b h => h.2))⟩
      refine ⟨_, rfl, HBc.out, ?_⟩
      clear hr hb
      refine And.intro ?_ ?_
      · refine top_call HSZ H3.out ?_ ?_ ?_ ?_
        rotate_left 2
        (go_simp
         first | rfl | (constructor <;> rfl))
        refine (toTerm aRow [.int .i64 xaRow0, .int .i64 xaRow1, .string xaRow2, .slice xaRow3a xaRow3b xaRow3c] _ (Rec.term.old HB.out HBc.out) WaRow.out).mono ?_
        rintro e wd2 ⟨cs2, rfl, hr, hb⟩
        have hx := Aside.mk (RTable.old H1.out hb)
        clear H1
        have H1 := hx
        clear hx
        have hx := Aside.mk (below_later HBc.out hb)
        clear HBc
        have HBc := hx
        clear hx
        have H2 : Aside (Rec.term.rd False wd2 (Old wd2) aRow cs2) := ⟨Rec.term.weak (Rec.term.mono hr (fun b h => h.2))⟩
        refine ⟨_, rfl, HBc.out, ?_⟩
        clear hr hb
        refine And.intro ?_ ?_
        · refine top_call HSZ H4.out ?_ ?_ ?_ ?_
          rotate_left 2
          (go_simp
           first | rfl | (constructor <;> rfl))
          have hc := sTabPut aT aRow cs1 cs2 wd2 H1.out H2.out WaT.out WaRow.out
          rw [← HRES.out] at hc
          refine hc.mono ?_
          clear hc
          rintro e wd3 ⟨rs, rfl, hr, hb⟩
          have hr2 : RTable.rd True wd3 (Span wd2.heap.size wd3.heap.size) x0 rs := hr
          obtain ⟨q0, q1a, q1b, q1c, rfl⟩ := shapeTable hr2
          have hx := Aside.mk (RTable.old H1.out hb)
          clear H1
          have H1 := hx
          clear hx
          have hx := Aside.mk (Rec.term.old H2.out hb)
          clear H2
          have H2 := hx
          clear hx
          have hx := Aside.mk (below_later HBc.out hb)
          clear HBc
          have HBc := hx
          clear hx
          have HR := Aside.mk hr2
          have HRL : Aside (∀ b, Span wd2.heap.size wd3.heap.size b → b < wd3.heap.size) := ⟨fun b hx => hx.2⟩
          refine ⟨_, rfl, HBc.out, ?_⟩
          clear hr hr2 hb
          refine tenv_yes HSZ H5.out ?_ (fun w' hS => ?_) ?_
          rotate_left
          (go_simp
           rfl)
          refine tenv_yes HSZ H6.out ?_ (fun w' hS => ?_) ?_
          rotate_left
          (go_simp
           rfl)
          refine tenv_yes HSZ H7.out ?_ (fun w' hS => ?_) ?_
          rotate_left
          (go_simp
           rfl)
          obtain ⟨g, hg⟩ : ∃ g, g = wd3.heap.size := ⟨_, rfl⟩
          obtain ⟨wd4, hwd⟩ : ∃ x, x = wd3.alloc (.cells #[.int .i64 0, .slice none 0 0] 42) := ⟨_, rfl⟩
          have HG : w2.heap.size ≤ g := by rw [hg]; exact HBc.out.size
          have hb : Below wd3.heap.size wd3 wd4 := by rw [hwd]; exact (Below.refl _ _).alloc (Nat.le_refl _) _
          have kb : Blk wd4 g 42 [.int .i64 0, .slice none 0 0] := by rw [hwd, hg]; exact Blk.new wd3 42 [.int .i64 0, .slice none 0 0]
          have HNG : Aside (∀ b, Span wd2.heap.size wd3.heap.size b → b ≠ g) := ⟨fun b hb he => by have h1 := hb.2; omega⟩
          have hx := Aside.mk (RTable.old H1.out hb)
          clear H1
          have H1 := hx
          clear hx
          have hx := Aside.mk (Rec.term.old H2.out hb)
          clear H2
          have H2 := hx
          clear hx
          have hx := Aside.mk (RTable.below HR.out HRL.out hb)
          clear HR
          have HR := hx
          clear hx
          have hxl : Aside (∀ b, Span wd2.heap.size wd3.heap.size b → b < _) := ⟨fun b hx => Nat.lt_of_lt_of_le (HRL.out b hx) hb.size⟩
          clear HRL
          have HRL := hxl
          clear hxl
          have hx := Aside.mk (below_later HBc.out hb)
          clear HBc
          have HBc := hx
          clear hx
          have KB := Aside.mk kb
          refine top_run HSZ H8.out (.pointer (some ⟨g, 0, none⟩)) wd4 ?_ ?_ ?_
          (rw [hwd, hg]; go_simp; try rfl)
          exact HBc.out
          clear hwd hb kb hg
          have c0 : wd4.cell? ⟨g, 0, none⟩ = some (.int .i64 0) := KB.out.cell 0
          have f0 := KB.out.free 0
          have c1 : wd4.cell? ⟨g, 1, none⟩ = some (.slice none 0 0) := KB.out.cell 1
          have f1 := KB.out.free 1
          obtain ⟨we, hwe⟩ : ∃ x, x = ((wd4).setCell ⟨g, 0, none⟩ (.int .i64 q0)).setCell ⟨g, 1, none⟩ (.slice q1a q1b q1c) := ⟨_, rfl⟩
          have hbe : Below w2.heap.size w2 we := by rw [hwe]; exact ((HBc.out).setCell HG _).setCell HG _
          refine top_store HSZ H9.out we ?_ ?_ ?_
          (rw [hwe]; go_simp; try rfl)
          exact hbe
          refine tenv_yes HSZ H10.out ?_ (fun w' hS => ?_) ?_
          rotate_left
          (go_simp
           rfl)
          refine tree_end ⟨rfl, [(7, .int .i64 x1), (6, .pointer (some ⟨g, 0, none⟩)), (34, .int .i64 x1), (33, .agg #[.int .i64 q0, .slice q1a q1b q1c]), (27, .tuple #[.agg #[.int .i64 q0, .slice q1a q1b q1c], .int .i64 x1]), (32, .tuple #[.agg #[.int .i64 q0, .slice q1a q1b q1c], .int .i64 x1]), (31, .agg cs2.toArray), (29, .agg cs1.toArray), (30, .agg #[.int .i64 xaRow0, .int .i64 xaRow1, .string xaRow2, .slice xaRow3a xaRow3b xaRow3c]), (28, .agg #[.int .i64 xaT0, .slice xaT1a xaT1b xaT1c])], ?_, g, .agg cs1.toArray, .agg cs2.toArray, q0, q1a, q1b, q1c, rfl, ⟨?_⟩, ⟨?_⟩, ⟨hbe⟩⟩
          · obtain rfl := HFR.out
            simp only [putAll, Act.put, List.setIfInBounds_toArray, List.set_cons_succ, List.set_cons_zero]
          · rw [hwe]
            exact RTable.weak (RTable.frame HR.out (fun b hb => by rw [heap_far (HNG.out b hb)]; rw [heap_far (HNG.out b hb)]) (fun b hb => by have h2 := HRL.out b hb; simpa [Old, World.setCell] using h2))
          · rw [hwe]; exact ((KB.out).set 0 _).set 1 _
        · obtain ⟨g, hg⟩ : ∃ g, g = wd2.heap.size := ⟨_, rfl⟩
          obtain ⟨wd3, hwd⟩ : ∃ x, x = wd2.alloc (.cells #[.int .i64 0, .slice none 0 0] 42) := ⟨_, rfl⟩
          have HG : w2.heap.size ≤ g := by rw [hg]; exact HBc.out.size
          have hb : Below wd2.heap.size wd2 wd3 := by rw [hwd]; exact (Below.refl _ _).alloc (Nat.le_refl _) _
          have kb : Blk wd3 g 42 [.int .i64 0, .slice none 0 0] := by rw [hwd, hg]; exact Blk.new wd2 42 [.int .i64 0, .slice none 0 0]
          have hx := Aside.mk (RTable.old H1.out hb)
          clear H1
          have H1 := hx
          clear hx
          have hx := Aside.mk (Rec.term.old H2.out hb)
          clear H2
          have H2 := hx
          clear hx
          have hx := Aside.mk (below_later HBc.out hb)
          clear HBc
          have HBc := hx
          clear hx
          have KB := Aside.mk kb
          refine top_run HSZ H8.out (.pointer (some ⟨g, 0, none⟩)) wd3 ?_ ?_ ?_
          (rw [hwd, hg]; go_simp; try rfl)
          exact HBc.out
          clear hwd hb kb hg
          refine top_call HSZ H4.out ?_ ?_ ?_ ?_
          rotate_left 2
          (go_simp
           first | rfl | (constructor <;> rfl))
          have hc := sTabPut aT aRow cs1 cs2 wd3 H1.out H2.out WaT.out WaRow.out
          rw [← HRES.out] at hc
          refine hc.mono ?_
          clear hc
          rintro e wd4 ⟨rs, rfl, hr, hb⟩
          have hr2 : RTable.rd True wd4 (Span wd3.heap.size wd4.heap.size) x0 rs := hr
          obtain ⟨q0, q1a, q1b, q1c, rfl⟩ := shapeTable hr2
          have HNG : Aside (∀ b, Span wd3.heap.size wd4.heap.size b → b ≠ g) := ⟨fun b hb he => by have h1 := hb.1; have h2 := KB.out.lt; omega⟩
          have hx := Aside.mk (RTable.old H1.out hb)
          clear H1
          have H1 := hx
          clear hx
          have hx := Aside.mk (Rec.term.old H2.out hb)
          clear H2
          have H2 := hx
          clear hx
          have hx := Aside.mk (KB.out.below hb)
          clear KB
          have KB := hx
          clear hx
          have hx := Aside.mk (below_later HBc.out hb)
          clear HBc
          have HBc := hx
          clear hx
          have HR := Aside.mk hr2
          have HRL : Aside (∀ b, Span wd3.heap.size wd4.heap.size b → b < wd4.heap.size) := ⟨fun b hx => hx.2⟩
          refine ⟨_, rfl, HBc.out, ?_⟩
          clear hr hr2 hb
          refine tenv_yes HSZ H5.out ?_ (fun w' hS => ?_) ?_
          rotate_left
          (go_simp
           rfl)
          refine tenv_yes HSZ H6.out ?_ (fun w' hS => ?_) ?_
          rotate_left
          (go_simp
           rfl)
          refine tenv_yes HSZ H7.out ?_ (fun w' hS => ?_) ?_
          rotate_left
          (go_simp
           rfl)
          have c0 : wd4.cell? ⟨g, 0, none⟩ = some (.int .i64 0) := KB.out.cell 0
          have f0 := KB.out.free 0
          have c1 : wd4.cell? ⟨g, 1, none⟩ = some (.slice none 0 0) := KB.out.cell 1
          have f1 := KB.out.free 1
          obtain ⟨we, hwe⟩ : ∃ x, x = ((wd4).setCell ⟨g, 0, none⟩ (.int .i64 q0)).setCell ⟨g, 1, none⟩ (.slice q1a q1b q1c) := ⟨_, rfl⟩
          have hbe : Below w2.heap.size w2 we := by rw [hwe]; exact ((HBc.out).setCell HG _).setCell HG _
          refine top_store HSZ H9.out we ?_ ?_ ?_
          (rw [hwe]; go_simp; try rfl)
          exact hbe
          refine tenv_yes HSZ H10.out ?_ (fun w' hS => ?_) ?_
          rotate_left
          (go_simp
           rfl)
          refine tree_end ⟨rfl, [(7, .int .i64 x1), (6, .pointer (some ⟨g, 0, none⟩)), (34, .int .i64 x1), (33, .agg #[.int .i64 q0, .slice q1a q1b q1c]), (27, .tuple #[.agg #[.int .i64 q0, .slice q1a q1b q1c], .int .i64 x1]), (32, .tuple #[.agg #[.int .i64 q0, .slice q1a q1b q1c], .int .i64 x1]), (31, .agg cs2.toArray), (29, .agg cs1.toArray), (30, .agg #[.int .i64 xaRow0, .int .i64 xaRow1, .string xaRow2, .slice xaRow3a xaRow3b xaRow3c]), (28, .agg #[.int .i64 xaT0, .slice xaT1a xaT1b xaT1c])], ?_, g, .agg cs1.toArray, .agg cs2.toArray, q0, q1a, q1b, q1c, rfl, ⟨?_⟩, ⟨?_⟩, ⟨hbe⟩⟩
          · obtain rfl := HFR.out
            simp only [putAll, Act.put, List.setIfInBounds_toArray, List.set_cons_succ, List.set_cons_zero]
          · rw [hwe]
            exact RTable.weak (RTable.frame HR.out (fun b hb => by rw [heap_far (HNG.out b hb)]; rw [heap_far (HNG.out b hb)]) (fun b hb => by have h2 := HRL.out b hb; simpa [Old, World.setCell] using h2))
          · rw [hwe]; exact ((KB.out).set 0 _).set 1 _
      · obtain ⟨g, hg⟩ : ∃ g, g = wd1.heap.size := ⟨_, rfl⟩
        obtain ⟨wd2, hwd⟩ : ∃ x, x = wd1.alloc (.cells #[.int .i64 0, .slice none 0 0] 42) := ⟨_, rfl⟩
        have HG : w2.heap.size ≤ g := by rw [hg]; exact HBc.out.size
        have hb : Below wd1.heap.size wd1 wd2 := by rw [hwd]; exact (Below.refl _ _).alloc (Nat.le_refl _) _
        have kb : Blk wd2 g 42 [.int .i64 0, .slice none 0 0] := by rw [hwd, hg]; exact Blk.new wd1 42 [.int .i64 0, .slice none 0 0]
        have hx := Aside.mk (RTable.old H1.out hb)
        clear H1
        have H1 := hx
        clear hx
        have hx := Aside.mk (below_later HBc.out hb)
        clear HBc
        have HBc := hx
        clear hx
        have KB := Aside.mk kb
        refine top_run HSZ H8.out (.pointer (some ⟨g, 0, none⟩)) wd2 ?_ ?_ ?_
        (rw [hwd, hg]; go_simp; try rfl)
        exact HBc.out
        clear hwd hb kb hg
        refine top_call HSZ H3.out ?_ ?_ ?_ ?_
        rotate_left 2
        (go_simp
         first | rfl | (constructor <;> rfl))
        refine (toTerm aRow [.int .i64 xaRow0, .int .i64 xaRow1, .string xaRow2, .slice xaRow3a xaRow3b xaRow3c] _ (Rec.term.old HB.out HBc.out) WaRow.out).mono ?_
        rintro e wd3 ⟨cs2, rfl, hr, hb⟩
        have hx := Aside.mk (RTable.old H1.out hb)
        clear H1
        have H1 := hx
        clear hx
        have hx := Aside.mk (KB.out.below hb)
        clear KB
        have KB := hx
        clear hx
        have hx := Aside.mk (below_later HBc.out hb)
        clear HBc
        have HBc := hx
        clear hx
        have H2 : Aside (Rec.term.rd False wd3 (Old wd3) aRow cs2) := ⟨Rec.term.weak (Rec.term.mono hr (fun b h => h.2))⟩
        refine ⟨_, rfl, HBc.out, ?_⟩
        clear hr hb
        refine top_call HSZ H4.out ?_ ?_ ?_ ?_
        rotate_left 2
        (go_simp
         first | rfl | (constructor <;> rfl))
        have hc := sTabPut aT aRow cs1 cs2 wd3 H1.out H2.out WaT.out WaRow.out
        rw [← HRES.out] at hc
        refine hc.mono ?_
        clear hc
        rintro e wd4 ⟨rs, rfl, hr, hb⟩
        have hr2 : RTable.rd True wd4 (Span wd3.heap.size wd4.heap.size) x0 rs := hr
        obtain ⟨q0, q1a, q1b, q1c, rfl⟩ := shapeTable hr2
        have HNG : Aside (∀ b, Span wd3.heap.size wd4.heap.size b → b ≠ g) := ⟨fun b hb he => by have h1 := hb.1; have h2 := KB.out.lt; omega⟩
        have hx := Aside.mk (RTable.old H1.out hb)
        clear H1
        have H1 := hx
        clear hx
        have hx := Aside.mk (Rec.term.old H2.out hb)
        clear H2
        have H2 := hx
        clear hx
        have hx := Aside.mk (KB.out.below hb)
        clear KB
        have KB := hx
        clear hx
        have hx := Aside.mk (below_later HBc.out hb)
        clear HBc
        have HBc := hx
        clear hx
        have HR := Aside.mk hr2
        have HRL : Aside (∀ b, Span wd3.heap.size wd4.heap.size b → b < wd4.heap.size) := ⟨fun b hx => hx.2⟩
        refine ⟨_, rfl, HBc.out, ?_⟩
        clear hr hr2 hb
        refine tenv_yes HSZ H5.out ?_ (fun w' hS => ?_) ?_
        rotate_left
        (go_simp
         rfl)
        refine tenv_yes HSZ H6.out ?_ (fun w' hS => ?_) ?_
        rotate_left
        (go_simp
         rfl)
        refine tenv_yes HSZ H7.out ?_ (fun w' hS => ?_) ?_
        rotate_left
        (go_simp
         rfl)
        have c0 : wd4.cell? ⟨g, 0, none⟩ = some (.int .i64 0) := KB.out.cell 0
        have f0 := KB.out.free 0
        have c1 : wd4.cell? ⟨g, 1, none⟩ = some (.slice none 0 0) := KB.out.cell 1
        have f1 := KB.out.free 1
        obtain ⟨we, hwe⟩ : ∃ x, x = ((wd4).setCell ⟨g, 0, none⟩ (.int .i64 q0)).setCell ⟨g, 1, none⟩ (.slice q1a q1b q1c) := ⟨_, rfl⟩
        have hbe : Below w2.heap.size w2 we := by rw [hwe]; exact ((HBc.out).setCell HG _).setCell HG _
        refine top_store HSZ H9.out we ?_ ?_ ?_
        (rw [hwe]; go_simp; try rfl)
        exact hbe
        refine tenv_yes HSZ H10.out ?_ (fun w' hS => ?_) ?_
        rotate_left
        (go_simp
         rfl)
        refine tree_end ⟨rfl, [(7, .int .i64 x1), (6, .pointer (some ⟨g, 0, none⟩)), (34, .int .i64 x1), (33, .agg #[.int .i64 q0, .slice q1a q1b q1c]), (27, .tuple #[.agg #[.int .i64 q0, .slice q1a q1b q1c], .int .i64 x1]), (32, .tuple #[.agg #[.int .i64 q0, .slice q1a q1b q1c], .int .i64 x1]), (31, .agg cs2.toArray), (29, .agg cs1.toArray), (30, .agg #[.int .i64 xaRow0, .int .i64 xaRow1, .string xaRow2, .slice xaRow3a xaRow3b xaRow3c]), (28, .agg #[.int .i64 xaT0, .slice xaT1a xaT1b xaT1c])], ?_, g, .agg cs1.toArray, .agg cs2.toArray, q0, q1a, q1b, q1c, rfl, ⟨?_⟩, ⟨?_⟩, ⟨hbe⟩⟩
        · obtain rfl := HFR.out
          simp only [putAll, Act.put, List.setIfInBounds_toArray, List.set_cons_succ, List.set_cons_zero]
        · rw [hwe]
          exact RTable.weak (RTable.frame HR.out (fun b hb => by rw [heap_far (HNG.out b hb)]; rw [heap_far (HNG.out b hb)]) (fun b hb => by have h2 := HRL.out b hb; simpa [Old, World.setCell] using h2))
        · rw [hwe]; exact ((KB.out).set 0 _).set 1 _
    · obtain ⟨g, hg⟩ : ∃ g, g = w2.heap.size := ⟨_, rfl⟩
      obtain ⟨wd1, hwd⟩ : ∃ x, x = w2.drew.alloc (.cells #[.int .i64 0, .slice none 0 0] 42) := ⟨_, rfl⟩
      have HG : w2.heap.size ≤ g := by rw [hg]; exact HBc.out.size
      have hb : Below w2.drew.heap.size w2.drew wd1 := by rw [hwd]; exact (Below.refl _ _).alloc (Nat.le_refl _) _
      have kb : Blk wd1 g 42 [.int .i64 0, .slice none 0 0] := by rw [hwd, hg]; exact Blk.new w2.drew 42 [.int .i64 0, .slice none 0 0]
      have hx := Aside.mk (below_later HBc.out hb)
      clear HBc
      have HBc := hx
      clear hx
      have KB := Aside.mk kb
      refine top_run HSZ H8.out (.pointer (some ⟨g, 0, none⟩)) wd1 ?_ ?_ ?_
      (rw [hwd, hg]; go_simp; try rfl)
      exact HBc.out
      clear hwd hb kb hg
      refine top_call HSZ H1.out ?_ ?_ ?_ ?_
      rotate_left 2
      (go_simp
       first | rfl | (constructor <;> rfl))
      refine (toTable aT [.int .i64 xaT0, .slice xaT1a xaT1b xaT1c] _ (RTable.old HA.out HBc.out) WaT.out).mono ?_
      rintro e wd2 ⟨cs1, rfl, hr, hb⟩
      have hx := Aside.mk (KB.out.below hb)
      clear KB
      have KB := hx
      clear hx
      have hx := Aside.mk (below_later HBc.out hb)
      clear HBc
      have HBc := hx
      clear hx
      have H1 : Aside (RTable.rd False wd2 (Old wd2) aT cs1) := ⟨RTable.weak (RTable.mono hr (fun b h => h.2))⟩
      refine ⟨_, rfl, HBc.out, ?_⟩
      clear hr hb
      refine top_call HSZ H3.out ?_ ?_ ?_ ?_
      rotate_left 2
      (go_simp
       first | rfl | (constructor <;> rfl))
      refine (toTerm aRow [.int .i64 xaRow0, .int .i64 xaRow1, .string xaRow2, .slice xaRow3a xaRow3b xaRow3c] _ (Rec.term.old HB.out HBc.out) WaRow.out).mono ?_
      rintro e wd3 ⟨cs2, rfl, hr, hb⟩
      have hx := Aside.mk (RTable.old H1.out hb)
      clear H1
      have H1 := hx
      clear hx
      have hx := Aside.mk (KB.out.below hb)
      clear KB
      have KB := hx
      clear hx
      have hx := Aside.mk (below_later HBc.out hb)
      clear HBc
      have HBc := hx
      clear hx
      have H2 : Aside (Rec.term.rd False wd3 (Old wd3) aRow cs2) := ⟨Rec.term.weak (Rec.term.mono hr (fun b h => h.2))⟩
      refine ⟨_, rfl, HBc.out, ?_⟩
      clear hr hb
      refine top_call HSZ H4.out ?_ ?_ ?_ ?_
      rotate_left 2
      (go_simp
       first | rfl | (constructor <;> rfl))
      have hc := sTabPut aT aRow cs1 cs2 wd3 H1.out H2.out WaT.out WaRow.out
      rw [← HRES.out] at hc
      refine hc.mono ?_
      clear hc
      rintro e wd4 ⟨rs, rfl, hr, hb⟩
      have hr2 : RTable.rd True wd4 (Span wd3.heap.size wd4.heap.size) x0 rs := hr
      obtain ⟨q0, q1a, q1b, q1c, rfl⟩ := shapeTable hr2
      have HNG : Aside (∀ b, Span wd3.heap.size wd4.heap.size b → b ≠ g) := ⟨fun b hb he => by have h1 := hb.1; have h2 := KB.out.lt; omega⟩
      have hx := Aside.mk (RTable.old H1.out hb)
      clear H1
      have H1 := hx
      clear hx
      have hx := Aside.mk (Rec.term.old H2.out hb)
      clear H2
      have H2 := hx
      clear hx
      have hx := Aside.mk (KB.out.below hb)
      clear KB
      have KB := hx
      clear hx
      have hx := Aside.mk (below_later HBc.out hb)
      clear HBc
      have HBc := hx
      clear hx
      have HR := Aside.mk hr2
      have HRL : Aside (∀ b, Span wd3.heap.size wd4.heap.size b → b < wd4.heap.size) := ⟨fun b hx => hx.2⟩
      refine ⟨_, rfl, HBc.out, ?_⟩
      clear hr hr2 hb
      refine tenv_yes HSZ H5.out ?_ (fun w' hS => ?_) ?_
      rotate_left
      (go_simp
       rfl)
      refine tenv_yes HSZ H6.out ?_ (fun w' hS => ?_) ?_
      rotate_left
      (go_simp
       rfl)
      refine tenv_yes HSZ H7.out ?_ (fun w' hS => ?_) ?_
      rotate_left
      (go_simp
       rfl)
      have c0 : wd4.cell? ⟨g, 0, none⟩ = some (.int .i64 0) := KB.out.cell 0
      have f0 := KB.out.free 0
      have c1 : wd4.cell? ⟨g, 1, none⟩ = some (.slice none 0 0) := KB.out.cell 1
      have f1 := KB.out.free 1
      obtain ⟨we, hwe⟩ : ∃ x, x = ((wd4).setCell ⟨g, 0, none⟩ (.int .i64 q0)).setCell ⟨g, 1, none⟩ (.slice q1a q1b q1c) := ⟨_, rfl⟩
      have hbe : Below w2.heap.size w2 we := by rw [hwe]; exact ((HBc.out).setCell HG _).setCell HG _
      refine top_store HSZ H9.out we ?_ ?_ ?_
      (rw [hwe]; go_simp; try rfl)
      exact hbe
      refine tenv_yes HSZ H10.out ?_ (fun w' hS => ?_) ?_
      rotate_left
      (go_simp
       rfl)
      refine tree_end ⟨rfl, [(7, .int .i64 x1), (6, .pointer (some ⟨g, 0, none⟩)), (34, .int .i64 x1), (33, .agg #[.int .i64 q0, .slice q1a q1b q1c]), (27, .tuple #[.agg #[.int .i64 q0, .slice q1a q1b q1c], .int .i64 x1]), (32, .tuple #[.agg #[.int .i64 q0, .slice q1a q1b q1c], .int .i64 x1]), (31, .agg cs2.toArray), (29, .agg cs1.toArray), (30, .agg #[.int .i64 xaRow0, .int .i64 xaRow1, .string xaRow2, .slice xaRow3a xaRow3b xaRow3c]), (28, .agg #[.int .i64 xaT0, .slice xaT1a xaT1b xaT1c])], ?_, g, .agg cs1.toArray, .agg cs2.toArray, q0, q1a, q1b, q1c, rfl, ⟨?_⟩, ⟨?_⟩, ⟨hbe⟩⟩
      · obtain rfl := HFR.out
        simp only [putAll, Act.put, List.setIfInBounds_toArray, List.set_cons_succ, List.set_cons_zero]
      · rw [hwe]
        exact RTable.weak (RTable.frame HR.out (fun b hb => by rw [heap_far (HNG.out b hb)]; rw [heap_far (HNG.out b hb)]) (fun b hb => by have h2 := HRL.out b hb; simpa [Old, World.setCell] using h2))
      · rw [hwe]; exact ((KB.out).set 0 _).set 1 _
  obtain ⟨gr1d0, v1, v2, r1d0_0, r1d0_1a, r1d0_1b, r1d0_1c, rfl, F1, F2, F3⟩ := hR
  obtain ⟨w3, hwn⟩ : ∃ x, x = wz := ⟨_, rfl⟩
  rw [← hwn] at F1 F2 F3 ⊢
  clear hwn wz
  simp only [putAll, Act.put, List.setIfInBounds_toArray, List.set_cons_succ, List.set_cons_zero]
  have Dr1d0 : Aside (RTable.rd False w3 (Span (0) w3.heap.size) x0 [.int .i64 r1d0_0, .slice r1d0_1a r1d0_1b r1d0_1c]) := ⟨RTable.mono F1.out (fun b h => ⟨Nat.zero_le _, h⟩)⟩
  have hb := F3.out
  clear HA HB F1 F3
  clear l2 y2_0 y2_1
  clear l3 y3_0 y3_1 y3_2 y3_3
  have hst : Below w2.heap.size w2 w3 := below_later (by go_grown) hb
  have hbt : But NoB w2 w3 := But.below hst
  have gw3 : w2.heap.size ≤ w3.heap.size := hbt.size
  have kk := (K2.out).below hst
  clear K2
  have K2 := Aside.mk kk
  clear kk
  have kk := (K3.out).below hst
  clear K3
  have K3 := Aside.mk kk
  clear kk
  have bel2 := Aside.mk (below_later BEL.out hst)
  clear BEL
  have BEL := bel2
  clear bel2
  have dd := Aside.mk (RTable.but DaT.out hbt (fun b hb => ⟨by have h2 := hb.2; omega, fun h => h.elim⟩))
  clear DaT
  have DaT := dd
  clear dd
  have dd := Aside.mk (Rec.term.but DaRow.out hbt (fun b hb => ⟨by have h2 := hb.2; omega, fun h => h.elim⟩))
  clear DaRow
  have DaRow := dd
  clear dd
  clear hbt hst hb
  have K6 := F2
  clear F2
  have m6 : gr1d0 < w3.heap.size := K6.out.lt
  have l2 : w.heap.size < w3.heap.size := K2.out.lt
  have y2_0 : w3.cell? ⟨w.heap.size, 0, none⟩ = some (.int .i64 xaT0) := K2.out.cell 0
  have y2_1 : w3.cell? ⟨w.heap.size, 1, none⟩ = some (.slice xaT1a xaT1b xaT1c) := K2.out.cell 1
  have l3 : w.heap.size + 1 < w3.heap.size := K3.out.lt
  have y3_0 : w3.cell? ⟨w.heap.size + 1, 0, none⟩ = some (.int .i64 xaRow0) := K3.out.cell 0
  have y3_1 : w3.cell? ⟨w.heap.size + 1, 1, none⟩ = some (.int .i64 xaRow1) := K3.out.cell 1
  have y3_2 : w3.cell? ⟨w.heap.size + 1, 2, none⟩ = some (.string xaRow2) := K3.out.cell 2
  have y3_3 : w3.cell? ⟨w.heap.size + 1, 3, none⟩ = some (.slice xaRow3a xaRow3b xaRow3c) := K3.out.cell 3
  have l6 : gr1d0 < w3.heap.size := K6.out.lt
  have y6_0 : w3.cell? ⟨gr1d0, 0, none⟩ = some (.int .i64 r1d0_0) := K6.out.cell 0
  have y6_1 : w3.cell? ⟨gr1d0, 1, none⟩ = some (.slice r1d0_1a r1d0_1b r1d0_1c) := K6.out.cell 1
  have HOK0 : Aside (RTable.ok x0) := ⟨by have hh := put_ok OaT.out OaRow.out; rw [← HRES.out] at hh; exact hh⟩
  have HWT0 : Aside (RTable.wt x0 ≤ 1073741824) := ⟨by have hh := put_wt WaT.out WaRow.out; rw [← HRES.out] at hh; exact hh⟩
  go_wp2_with fail
  refine (toTable aT [.int .i64 xaT0, .slice xaT1a xaT1b xaT1c] _ (RTable.made DaT.out (by omega) (by first | exact Below.refl _ _ | go_grown)) WaT.out).mono ?_
  rintro e w4 ⟨cs2, rfl, hr, hb⟩
  obtain ⟨c2_0, c2_1a, c2_1b, c2_1c, rfl⟩ := shapeTable hr
  have Dc2 : Aside (RTable.rd True w4 (Span (w3.heap.size) w4.heap.size) aT [.int .i64 c2_0, .slice c2_1a c2_1b c2_1c]) := ⟨RTable.mono hr (fun b h => ⟨by have h1 := h.1; (try simp at h1); omega, h.2⟩)⟩
  clear hr
  clear l2 y2_0 y2_1
  clear l3 y3_0 y3_1 y3_2 y3_3
  clear l6 y6_0 y6_1
  have hst : Below w3.heap.size w3 w4 := below_later (by go_grown) hb
  have hbt : But NoB w3 w4 := But.below hst
  have gw4 : w3.heap.size ≤ w4.heap.size := hbt.size
  have kk := (K2.out).below hst
  clear K2
  have K2 := Aside.mk kk
  clear kk
  have kk := (K3.out).below hst
  clear K3
  have K3 := Aside.mk kk
  clear kk
  have kk := (K6.out).below hst
  clear K6
  have K6 := Aside.mk kk
  clear kk
  have bel2 := Aside.mk (below_later BEL.out hst)
  clear BEL
  have BEL := bel2
  clear bel2
  have dd := Aside.mk (RTable.but DaT.out hbt (fun b hb => ⟨by have h2 := hb.2; omega, fun h => h.elim⟩))
  clear DaT
  have DaT := dd
  clear dd
  have dd := Aside.mk (Rec.term.but DaRow.out hbt (fun b hb => ⟨by have h2 := hb.2; omega, fun h => h.elim⟩))
  clear DaRow
  have DaRow := dd
  clear dd
  have dd := Aside.mk (RTable.but Dr1d0.out hbt (fun b hb => ⟨by have h2 := hb.2; omega, fun h => h.elim⟩))
  clear Dr1d0
  have Dr1d0 := dd
  clear dd
  clear hbt hst hb
  have l2 : w.heap.size < w4.heap.size := K2.out.lt
  have y2_0 : w4.cell? ⟨w.heap.size, 0, none⟩ = some (.int .i64 xaT0) := K2.out.cell 0
  have y2_1 : w4.cell? ⟨w.heap.size, 1, none⟩ = some (.slice xaT1a xaT1b xaT1c) := K2.out.cell 1
  have l3 : w.heap.size + 1 < w4.heap.size := K3.out.lt
  have y3_0 : w4.cell? ⟨w.heap.size + 1, 0, none⟩ = some (.int .i64 xaRow0) := K3.out.cell 0
  have y3_1 : w4.cell? ⟨w.heap.size + 1, 1, none⟩ = some (.int .i64 xaRow1) := K3.out.cell 1
  have y3_2 : w4.cell? ⟨w.heap.size + 1, 2, none⟩ = some (.string xaRow2) := K3.out.cell 2
  have y3_3 : w4.cell? ⟨w.heap.size + 1, 3, none⟩ = some (.slice xaRow3a xaRow3b xaRow3c) := K3.out.cell 3
  have l6 : gr1d0 < w4.heap.size := K6.out.lt
  have y6_0 : w4.cell? ⟨gr1d0, 0, none⟩ = some (.int .i64 r1d0_0) := K6.out.cell 0
  have y6_1 : w4.cell? ⟨gr1d0, 1, none⟩ = some (.slice r1d0_1a r1d0_1b r1d0_1c) := K6.out.cell 1
  go_wp2_with fail
  refine (toTerm aRow [.int .i64 xaRow0, .int .i64 xaRow1, .string xaRow2, .slice xaRow3a xaRow3b xaRow3c] _ (Rec.term.made DaRow.out (by omega) (by first | exact Below.refl _ _ | go_grown)) WaRow.out).mono ?_
  rintro e w5 ⟨cs2, rfl, hr, hb⟩
  obtain ⟨c3_0, c3_1, c3_2, c3_3a, c3_3b, c3_3c, rfl⟩ := shapeTerm hr
  have Dc3 : Aside (Rec.term.rd True w5 (Span (w4.heap.size + 1) w5.heap.size) aRow [.int .i64 c3_0, .int .i64 c3_1, .string c3_2, .slice c3_3a c3_3b c3_3c]) := ⟨Rec.term.mono hr (fun b h => ⟨by have h1 := h.1; (try simp at h1); omega, h.2⟩)⟩
  clear hr
  clear l2 y2_0 y2_1
  clear l3 y3_0 y3_1 y3_2 y3_3
  clear l6 y6_0 y6_1
  have hst : Below w4.heap.size w4 w5 := below_later (by go_grown) hb
  have hbt : But NoB w4 w5 := But.below hst
  have gw5 : w4.heap.size ≤ w5.heap.size := hbt.size
  have kk := (K2.out).below hst
  clear K2
  have K2 := Aside.mk kk
  clear kk
  have kk := (K3.out).below hst
  clear K3
  have K3 := Aside.mk kk
  clear kk
  have kk := (K6.out).below hst
  clear K6
  have K6 := Aside.mk kk
  clear kk
  have K8 := Aside.mk ((Blk.made w4 42 [.int .i64 c2_0, .slice c2_1a c2_1b c2_1c] (g := w4.heap.size) (by simp)).below hb)
  have m8 : w4.heap.size < w5.heap.size := K8.out.lt
  have bel2 := Aside.mk (below_later BEL.out hst)
  clear BEL
  have BEL := bel2
  clear bel2
  have dd := Aside.mk (RTable.but DaT.out hbt (fun b hb => ⟨by have h2 := hb.2; omega, fun h => h.elim⟩))
  clear DaT
  have DaT := dd
  clear dd
  have dd := Aside.mk (Rec.term.but DaRow.out hbt (fun b hb => ⟨by have h2 := hb.2; omega, fun h => h.elim⟩))
  clear DaRow
  have DaRow := dd
  clear dd
  have dd := Aside.mk (RTable.but Dr1d0.out hbt (fun b hb => ⟨by have h2 := hb.2; omega, fun h => h.elim⟩))
  clear Dr1d0
  have Dr1d0 := dd
  clear dd
  have dd := Aside.mk (RTable.but Dc2.out hbt (fun b hb => ⟨by have h2 := hb.2; omega, fun h => h.elim⟩))
  clear Dc2
  have Dc2 := dd
  clear dd
  clear hbt hst hb
  have l2 : w.heap.size < w5.heap.size := K2.out.lt
  have y2_0 : w5.cell? ⟨w.heap.size, 0, none⟩ = some (.int .i64 xaT0) := K2.out.cell 0
  have y2_1 : w5.cell? ⟨w.heap.size, 1, none⟩ = some (.slice xaT1a xaT1b xaT1c) := K2.out.cell 1
  have l3 : w.heap.size + 1 < w5.heap.size := K3.out.lt
  have y3_0 : w5.cell? ⟨w.heap.size + 1, 0, none⟩ = some (.int .i64 xaRow0) := K3.out.cell 0
  have y3_1 : w5.cell? ⟨w.heap.size + 1, 1, none⟩ = some (.int .i64 xaRow1) := K3.out.cell 1
  have y3_2 : w5.cell? ⟨w.heap.size + 1, 2, none⟩ = some (.string xaRow2) := K3.out.cell 2
  have y3_3 : w5.cell? ⟨w.heap.size + 1, 3, none⟩ = some (.slice xaRow3a xaRow3b xaRow3c) := K3.out.cell 3
  have l6 : gr1d0 < w5.heap.size := K6.out.lt
  have y6_0 : w5.cell? ⟨gr1d0, 0, none⟩ = some (.int .i64 r1d0_0) := K6.out.cell 0
  have y6_1 : w5.cell? ⟨gr1d0, 1, none⟩ = some (.slice r1d0_1a r1d0_1b r1d0_1c) := K6.out.cell 1
  have l8 : w4.heap.size < w5.heap.size := K8.out.lt
  have y8_0 : w5.cell? ⟨w4.heap.size, 0, none⟩ = some (.int .i64 c2_0) := K8.out.cell 0
  have y8_1 : w5.cell? ⟨w4.heap.size, 1, none⟩ = some (.slice c2_1a c2_1b c2_1c) := K8.out.cell 1
  go_wp2_with fail
  refine (iTabPut aT aRow [.int .i64 c2_0, .slice c2_1a c2_1b c2_1c] [.int .i64 c3_0, .int .i64 c3_1, .string c3_2, .slice c3_3a c3_3b c3_3c] _ (RTable.made Dc2.out (by omega) (by first | exact Below.refl _ _ | go_grown)) (Rec.term.made Dc3.out (by omega) (by first | exact Below.refl _ _ | go_grown)) WaT.out WaRow.out ).mono ?_
  rw [← HRES.out]
  rintro e w6 ⟨r4_0, rfl, hr0, hb⟩
  have hr0 : RTable.rd True w6 _ x0 r4_0 := hr0
  obtain ⟨r4d0_0, r4d0_1a, r4d0_1b, r4d0_1c, rfl⟩ := shapeTable hr0
  have Dr4d0 : Aside (RTable.rd True w6 (Span (w5.heap.size + 1) w6.heap.size) x0 [.int .i64 r4d0_0, .slice r4d0_1a r4d0_1b r4d0_1c]) := ⟨RTable.mono hr0 (fun b h => ⟨by have h1 := h.1; (try simp at h1); omega, h.2⟩)⟩
  clear hr0
  clear l2 y2_0 y2_1
  clear l3 y3_0 y3_1 y3_2 y3_3
  clear l6 y6_0 y6_1
  clear l8 y8_0 y8_1
  have hst : Below w5.heap.size w5 w6 := below_later (by go_grown) hb
  have hbt : But NoB w5 w6 := But.below hst
  have gw6 : w5.heap.size ≤ w6.heap.size := hbt.size
  have kk := (K2.out).below hst
  clear K2
  have K2 := Aside.mk kk
  clear kk
  have kk := (K3.out).below hst
  clear K3
  have K3 := Aside.mk kk
  clear kk
  have kk := (K6.out).below hst
  clear K6
  have K6 := Aside.mk kk
  clear kk
  have kk := (K8.out).below hst
  clear K8
  have K8 := Aside.mk kk
  clear kk
  have K9 := Aside.mk ((Blk.made w5 26 [.int .i64 c3_0, .int .i64 c3_1, .string c3_2, .slice c3_3a c3_3b c3_3c] (g := w5.heap.size) (by simp)).below hb)
  have m9 : w5.heap.size < w6.heap.size := K9.out.lt
  have bel2 := Aside.mk (below_later BEL.out hst)
  clear BEL
  have BEL := bel2
  clear bel2
  have dd := Aside.mk (RTable.but DaT.out hbt (fun b hb => ⟨by have h2 := hb.2; omega, fun h => h.elim⟩))
  clear DaT
  have DaT := dd
  clear dd
  have dd := Aside.mk (Rec.term.but DaRow.out hbt (fun b hb => ⟨by have h2 := hb.2; omega, fun h => h.elim⟩))
  clear DaRow
  have DaRow := dd
  clear dd
  have dd := Aside.mk (RTable.but Dr1d0.out hbt (fun b hb => ⟨by have h2 := hb.2; omega, fun h => h.elim⟩))
  clear Dr1d0
  have Dr1d0 := dd
  clear dd
  have dd := Aside.mk (RTable.but Dc2.out hbt (fun b hb => ⟨by have h2 := hb.2; omega, fun h => h.elim⟩))
  clear Dc2
  have Dc2 := dd
  clear dd
  have dd := Aside.mk (Rec.term.but Dc3.out hbt (fun b hb => ⟨by have h2 := hb.2; omega, fun h => h.elim⟩))
  clear Dc3
  have Dc3 := dd
  clear dd
  clear hbt hst hb
  have l2 : w.heap.size < w6.heap.size := K2.out.lt
  have y2_0 : w6.cell? ⟨w.heap.size, 0, none⟩ = some (.int .i64 xaT0) := K2.out.cell 0
  have y2_1 : w6.cell? ⟨w.heap.size, 1, none⟩ = some (.slice xaT1a xaT1b xaT1c) := K2.out.cell 1
  have l3 : w.heap.size + 1 < w6.heap.size := K3.out.lt
  have y3_0 : w6.cell? ⟨w.heap.size + 1, 0, none⟩ = some (.int .i64 xaRow0) := K3.out.cell 0
  have y3_1 : w6.cell? ⟨w.heap.size + 1, 1, none⟩ = some (.int .i64 xaRow1) := K3.out.cell 1
  have y3_2 : w6.cell? ⟨w.heap.size + 1, 2, none⟩ = some (.string xaRow2) := K3.out.cell 2
  have y3_3 : w6.cell? ⟨w.heap.size + 1, 3, none⟩ = some (.slice xaRow3a xaRow3b xaRow3c) := K3.out.cell 3
  have l6 : gr1d0 < w6.heap.size := K6.out.lt
  have y6_0 : w6.cell? ⟨gr1d0, 0, none⟩ = some (.int .i64 r1d0_0) := K6.out.cell 0
  have y6_1 : w6.cell? ⟨gr1d0, 1, none⟩ = some (.slice r1d0_1a r1d0_1b r1d0_1c) := K6.out.cell 1
  have l8 : w4.heap.size < w6.heap.size := K8.out.lt
  have y8_0 : w6.cell? ⟨w4.heap.size, 0, none⟩ = some (.int .i64 c2_0) := K8.out.cell 0
  have y8_1 : w6.cell? ⟨w4.heap.size, 1, none⟩ = some (.slice c2_1a c2_1b c2_1c) := K8.out.cell 1
  have l9 : w5.heap.size < w6.heap.size := K9.out.lt
  have y9_0 : w6.cell? ⟨w5.heap.size, 0, none⟩ = some (.int .i64 c3_0) := K9.out.cell 0
  have y9_1 : w6.cell? ⟨w5.heap.size, 1, none⟩ = some (.int .i64 c3_1) := K9.out.cell 1
  have y9_2 : w6.cell? ⟨w5.heap.size, 2, none⟩ = some (.string c3_2) := K9.out.cell 2
  have y9_3 : w6.cell? ⟨w5.heap.size, 3, none⟩ = some (.slice c3_3a c3_3b c3_3c) := K9.out.cell 3
  go_wp2_with fail
  refine (eqTable x0 [.int .i64 r4d0_0, .slice r4d0_1a r4d0_1b r4d0_1c] [.int .i64 r1d0_0, .slice r1d0_1a r1d0_1b r1d0_1c] _ (RTable.made Dr4d0.out (by omega) (by first | exact Below.refl _ _ | go_grown)) (RTable.made Dr1d0.out (by omega) (by first | exact Below.refl _ _ | go_grown)) HOK0.out).mono ?_
  rintro e w7 ⟨rfl, hb⟩
  clear l2 y2_0 y2_1
  clear l3 y3_0 y3_1 y3_2 y3_3
  clear l6 y6_0 y6_1
  clear l8 y8_0 y8_1
  clear l9 y9_0 y9_1 y9_2 y9_3
  have hst : Below w6.heap.size w6 w7 := below_later (by go_grown) hb
  have hbt : But NoB w6 w7 := But.below hst
  have gw7 : w6.heap.size ≤ w7.heap.size := hbt.size
  have kk := (K2.out).below hst
  clear K2
  have K2 := Aside.mk kk
  clear kk
  have kk := (K3.out).below hst
  clear K3
  have K3 := Aside.mk kk
  clear kk
  have kk := (K6.out).below hst
  clear K6
  have K6 := Aside.mk kk
  clear kk
  have kk := (K8.out).below hst
  clear K8
  have K8 := Aside.mk kk
  clear kk
  have kk := (K9.out).below hst
  clear K9
  have K9 := Aside.mk kk
  clear kk
  have K10 := Aside.mk ((Blk.made w6 42 [.int .i64 r4d0_0, .slice r4d0_1a r4d0_1b r4d0_1c] (g := w6.heap.size) (by simp)).below hb)
  have m10 : w6.heap.size < w7.heap.size := K10.out.lt
  have bel2 := Aside.mk (below_later BEL.out hst)
  clear BEL
  have BEL := bel2
  clear bel2
  have dd := Aside.mk (RTable.but DaT.out hbt (fun b hb => ⟨by have h2 := hb.2; omega, fun h => h.elim⟩))
  clear DaT
  have DaT := dd
  clear dd
  have dd := Aside.mk (Rec.term.but DaRow.out hbt (fun b hb => ⟨by have h2 := hb.2; omega, fun h => h.elim⟩))
  clear DaRow
  have DaRow := dd
  clear dd
  have dd := Aside.mk (RTable.but Dr1d0.out hbt (fun b hb => ⟨by have h2 := hb.2; omega, fun h => h.elim⟩))
  clear Dr1d0
  have Dr1d0 := dd
  clear dd
  have dd := Aside.mk (RTable.but Dc2.out hbt (fun b hb => ⟨by have h2 := hb.2; omega, fun h => h.elim⟩))
  clear Dc2
  have Dc2 := dd
  clear dd
  have dd := Aside.mk (Rec.term.but Dc3.out hbt (fun b hb => ⟨by have h2 := hb.2; omega, fun h => h.elim⟩))
  clear Dc3
  have Dc3 := dd
  clear dd
  have dd := Aside.mk (RTable.but Dr4d0.out hbt (fun b hb => ⟨by have h2 := hb.2; omega, fun h => h.elim⟩))
  clear Dr4d0
  have Dr4d0 := dd
  clear dd
  clear hbt hst hb
  have l2 : w.heap.size < w7.heap.size := K2.out.lt
  have y2_0 : w7.cell? ⟨w.heap.size, 0, none⟩ = some (.int .i64 xaT0) := K2.out.cell 0
  have y2_1 : w7.cell? ⟨w.heap.size, 1, none⟩ = some (.slice xaT1a xaT1b xaT1c) := K2.out.cell 1
  have l3 : w.heap.size + 1 < w7.heap.size := K3.out.lt
  have y3_0 : w7.cell? ⟨w.heap.size + 1, 0, none⟩ = some (.int .i64 xaRow0) := K3.out.cell 0
  have y3_1 : w7.cell? ⟨w.heap.size + 1, 1, none⟩ = some (.int .i64 xaRow1) := K3.out.cell 1
  have y3_2 : w7.cell? ⟨w.heap.size + 1, 2, none⟩ = some (.string xaRow2) := K3.out.cell 2
  have y3_3 : w7.cell? ⟨w.heap.size + 1, 3, none⟩ = some (.slice xaRow3a xaRow3b xaRow3c) := K3.out.cell 3
  have l6 : gr1d0 < w7.heap.size := K6.out.lt
  have y6_0 : w7.cell? ⟨gr1d0, 0, none⟩ = some (.int .i64 r1d0_0) := K6.out.cell 0
  have y6_1 : w7.cell? ⟨gr1d0, 1, none⟩ = some (.slice r1d0_1a r1d0_1b r1d0_1c) := K6.out.cell 1
  have l8 : w4.heap.size < w7.heap.size := K8.out.lt
  have y8_0 : w7.cell? ⟨w4.heap.size, 0, none⟩ = some (.int .i64 c2_0) := K8.out.cell 0
  have y8_1 : w7.cell? ⟨w4.heap.size, 1, none⟩ = some (.slice c2_1a c2_1b c2_1c) := K8.out.cell 1
  have l9 : w5.heap.size < w7.heap.size := K9.out.lt
  have y9_0 : w7.cell? ⟨w5.heap.size, 0, none⟩ = some (.int .i64 c3_0) := K9.out.cell 0
  have y9_1 : w7.cell? ⟨w5.heap.size, 1, none⟩ = some (.int .i64 c3_1) := K9.out.cell 1
  have y9_2 : w7.cell? ⟨w5.heap.size, 2, none⟩ = some (.string c3_2) := K9.out.cell 2
  have y9_3 : w7.cell? ⟨w5.heap.size, 3, none⟩ = some (.slice c3_3a c3_3b c3_3c) := K9.out.cell 3
  have l10 : w6.heap.size < w7.heap.size := K10.out.lt
  have y10_0 : w7.cell? ⟨w6.heap.size, 0, none⟩ = some (.int .i64 r4d0_0) := K10.out.cell 0
  have y10_1 : w7.cell? ⟨w6.heap.size, 1, none⟩ = some (.slice r4d0_1a r4d0_1b r4d0_1c) := K10.out.cell 1
  go_wp2_with fail
  have HS0 : Aside (Below w7.heap.size w7 w7) := ⟨Below.refl _ _⟩
  refine region_env [(0, true), (1, true), (2, false), (3, false), (4, true)] (fun w' => Below w7.heap.size w7 w') 119 rfl (by kernel_rfl) (by kernel_rfl) (fun _ _ d _ _ h => by cases d <;> exact h) ((Below.refl _ _).drew) (fun ops fr HFR HSZ hl => ?_)
  have hl_0 := ops_start hl
  clear hl
  obtain ⟨H0, hl_1⟩ := ops_next 0 1 rfl hl_0
  clear hl_0
  obtain ⟨H1, hl_2⟩ := ops_next 1 2 rfl hl_1
  clear hl_1
  obtain ⟨H2, hl_3⟩ := ops_next 2 3 rfl hl_2
  clear hl_2
  obtain ⟨H3, hl_4⟩ := ops_next 3 4 rfl hl_3
  clear hl_3
  obtain ⟨H4, hl_5⟩ := ops_next 4 5 rfl hl_4
  clear hl_4
  clear hl_5
  have x_8 : ext fr 8 = _ := congrArg (fun a => Act.eval a (.tmp 8)) HFR.out
  conv at x_8 => rhs; simp only [Act.eval, Array.getD_eq_getD_getElem?, List.getElem?_toArray, List.getElem?_cons_succ, List.getElem?_cons_zero, Option.getD_some]
  have x_2 : ext fr 2 = _ := congrArg (fun a => Act.eval a (.tmp 2)) HFR.out
  conv at x_2 => rhs; simp only [Act.eval, Array.getD_eq_getD_getElem?, List.getElem?_toArray, List.getElem?_cons_succ, List.getElem?_cons_zero, Option.getD_some]
  refine env_yes HSZ H0.out ?_ (fun w' hS => ?_) ?_
  rotate_left
  (have h0 := (hS.cell (p := ⟨w4.heap.size, 0, none⟩) l8).trans y8_0
   have h1 := (hS.cell (p := ⟨w4.heap.size, 1, none⟩) l8).trans y8_1
   go_simp
   rfl)
  refine env_yes HSZ H1.out ?_ (fun w' hS => ?_) ?_
  rotate_left
  (have h0 := (hS.cell (p := ⟨w.heap.size, 0, none⟩) l2).trans y2_0
   have h1 := (hS.cell (p := ⟨w.heap.size, 1, none⟩) l2).trans y2_1
   go_simp
   rfl)
  refine env_call HSZ H2.out ?_ ?_ ?_ ?_
  rotate_left 2
  (go_simp
   first | rfl | (constructor <;> rfl))
  refine (toTable aT [.int .i64 xaT0, .slice xaT1a xaT1b xaT1c] _ (RTable.made DaT.out (by omega) (by first | exact Below.refl _ _ | go_grown)) WaT.out).mono ?_
  rintro e w8 ⟨cs2, rfl, hr, hb⟩
  obtain ⟨c5_0, c5_1a, c5_1b, c5_1c, rfl⟩ := shapeTable hr
  have Dc5 : Aside (RTable.rd True w8 (Span (w7.heap.size) w8.heap.size) aT [.int .i64 c5_0, .slice c5_1a c5_1b c5_1c]) := ⟨RTable.mono hr (fun b h => ⟨by have h1 := h.1; (try simp at h1); omega, h.2⟩)⟩
  clear hr
  clear l2 y2_0 y2_1
  clear l3 y3_0 y3_1 y3_2 y3_3
  clear l6 y6_0 y6_1
  clear l8 y8_0 y8_1
  clear l9 y9_0 y9_1 y9_2 y9_3
  clear l10 y10_0 y10_1
  have hst : Below w7.heap.size w7 w8 := below_later (by go_grown) hb
  have hs2 := Aside.mk (below_later HS0.out hst)
  clear HS0
  have HS0 := hs2
  clear hs2
  have hbt : But NoB w7 w8 := But.below hst
  have gw8 : w7.heap.size ≤ w8.heap.size := hbt.size
  have kk := (K2.out).below hst
  clear K2
  have K2 := Aside.mk kk
  clear kk
  have kk := (K3.out).below hst
  clear K3
  have K3 := Aside.mk kk
  clear kk
  have kk := (K6.out).below hst
  clear K6
  have K6 := Aside.mk kk
  clear kk
  have kk := (K8.out).below hst
  clear K8
  have K8 := Aside.mk kk
  clear kk
  have kk := (K9.out).below hst
  clear K9
  have K9 := Aside.mk kk
  clear kk
  have kk := (K10.out).below hst
  clear K10
  have K10 := Aside.mk kk
  clear kk
  have bel2 := Aside.mk (below_later BEL.out hst)
  clear BEL
  have BEL := bel2
  clear bel2
  have dd := Aside.mk (RTable.but DaT.out hbt (fun b hb => ⟨by have h2 := hb.2; omega, fun h => h.elim⟩))
  clear DaT
  have DaT := dd
  clear dd
  have dd := Aside.mk (Rec.term.but DaRow.out hbt (fun b hb => ⟨by have h2 := hb.2; omega, fun h => h.elim⟩))
  clear DaRow
  have DaRow := dd
  clear dd
  have dd := Aside.mk (RTable.but Dr1d0.out hbt (fun b hb => ⟨by have h2 := hb.2; omega, fun h => h.elim⟩))
  clear Dr1d0
  have Dr1d0 := dd
  clear dd
  have dd := Aside.mk (RTable.but Dc2.out hbt (fun b hb => ⟨by have h2 := hb.2; omega, fun h => h.elim⟩))
  clear Dc2
  have Dc2 := dd
  clear dd
  have dd := Aside.mk (Rec.term.but Dc3.out hbt (fun b hb => ⟨by have h2 := hb.2; omega, fun h => h.elim⟩))
  clear Dc3
  have Dc3 := dd
  clear dd
  have dd := Aside.mk (RTable.but Dr4d0.out hbt (fun b hb => ⟨by have h2 := hb.2; omega, fun h => h.elim⟩))
  clear Dr4d0
  have Dr4d0 := dd
  clear dd
  clear hbt hst hb
  have l2 : w.heap.size < w8.heap.size := K2.out.lt
  have y2_0 : w8.cell? ⟨w.heap.size, 0, none⟩ = some (.int .i64 xaT0) := K2.out.cell 0
  have y2_1 : w8.cell? ⟨w.heap.size, 1, none⟩ = some (.slice xaT1a xaT1b xaT1c) := K2.out.cell 1
  have l3 : w.heap.size + 1 < w8.heap.size := K3.out.lt
  have y3_0 : w8.cell? ⟨w.heap.size + 1, 0, none⟩ = some (.int .i64 xaRow0) := K3.out.cell 0
  have y3_1 : w8.cell? ⟨w.heap.size + 1, 1, none⟩ = some (.int .i64 xaRow1) := K3.out.cell 1
  have y3_2 : w8.cell? ⟨w.heap.size + 1, 2, none⟩ = some (.string xaRow2) := K3.out.cell 2
  have y3_3 : w8.cell? ⟨w.heap.size + 1, 3, none⟩ = some (.slice xaRow3a xaRow3b xaRow3c) := K3.out.cell 3
  have l6 : gr1d0 < w8.heap.size := K6.out.lt
  have y6_0 : w8.cell? ⟨gr1d0, 0, none⟩ = some (.int .i64 r1d0_0) := K6.out.cell 0
  have y6_1 : w8.cell? ⟨gr1d0, 1, none⟩ = some (.slice r1d0_1a r1d0_1b r1d0_1c) := K6.out.cell 1
  have l8 : w4.heap.size < w8.heap.size := K8.out.lt
  have y8_0 : w8.cell? ⟨w4.heap.size, 0, none⟩ = some (.int .i64 c2_0) := K8.out.cell 0
  have y8_1 : w8.cell? ⟨w4.heap.size, 1, none⟩ = some (.slice c2_1a c2_1b c2_1c) := K8.out.cell 1
  have l9 : w5.heap.size < w8.heap.size := K9.out.lt
  have y9_0 : w8.cell? ⟨w5.heap.size, 0, none⟩ = some (.int .i64 c3_0) := K9.out.cell 0
  have y9_1 : w8.cell? ⟨w5.heap.size, 1, none⟩ = some (.int .i64 c3_1) := K9.out.cell 1
  have y9_2 : w8.cell? ⟨w5.heap.size, 2, none⟩ = some (.string c3_2) := K9.out.cell 2
  have y9_3 : w8.cell? ⟨w5.heap.size, 3, none⟩ = some (.slice c3_3a c3_3b c3_3c) := K9.out.cell 3
  have l10 : w6.heap.size < w8.heap.size := K10.out.lt
  have y10_0 : w8.cell? ⟨w6.heap.size, 0, none⟩ = some (.int .i64 r4d0_0) := K10.out.cell 0
  have y10_1 : w8.cell? ⟨w6.heap.size, 1, none⟩ = some (.slice r4d0_1a r4d0_1b r4d0_1c) := K10.out.cell 1
  refine ⟨_, rfl, HS0.out, ?_⟩
  refine env_call HSZ H3.out ?_ ?_ ?_ ?_
  rotate_left 2
  (go_simp
   first | rfl | (constructor <;> rfl))
  refine (eqTable aT [.int .i64 c2_0, .slice c2_1a c2_1b c2_1c] [.int .i64 c5_0, .slice c5_1a c5_1b c5_1c] _ (RTable.made Dc2.out (by omega) (by first | exact Below.refl _ _ | go_grown)) (RTable.made Dc5.out (by omega) (by first | exact Below.refl _ _ | go_grown)) OaT.out).mono ?_
  rintro e w9 ⟨rfl, hb⟩
  clear l2 y2_0 y2_1
  clear l3 y3_0 y3_1 y3_2 y3_3
  clear l6 y6_0 y6_1
  clear l8 y8_0 y8_1
  clear l9 y9_0 y9_1 y9_2 y9_3
  clear l10 y10_0 y10_1
  have hst : Below w8.heap.size w8 w9 := below_later (by go_grown) hb
  have hs2 := Aside.mk (below_later HS0.out hst)
  clear HS0
  have HS0 := hs2
  clear hs2
  have hbt : But NoB w8 w9 := But.below hst
  have gw9 : w8.heap.size ≤ w9.heap.size := hbt.size
  have kk := (K2.out).below hst
  clear K2
  have K2 := Aside.mk kk
  clear kk
  have kk := (K3.out).below hst
  clear K3
  have K3 := Aside.mk kk
  clear kk
  have kk := (K6.out).below hst
  clear K6
  have K6 := Aside.mk kk
  clear kk
  have kk := (K8.out).below hst
  clear K8
  have K8 := Aside.mk kk
  clear kk
  have kk := (K9.out).below hst
  clear K9
  have K9 := Aside.mk kk
  clear kk
  have kk := (K10.out).below hst
  clear K10
  have K10 := Aside.mk kk
  clear kk
  have bel2 := Aside.mk (below_later BEL.out hst)
  clear BEL
  have BEL := bel2
  clear bel2
  have dd := Aside.mk (RTable.but DaT.out hbt (fun b hb => ⟨by have h2 := hb.2; omega, fun h => h.elim⟩))
  clear DaT
  have DaT := dd
  clear dd
  have dd := Aside.mk (Rec.term.but DaRow.out hbt (fun b hb => ⟨by have h2 := hb.2; omega, fun h => h.elim⟩))
  clear DaRow
  have DaRow := dd
  clear dd
  have dd := Aside.mk (RTable.but Dr1d0.out hbt (fun b hb => ⟨by have h2 := hb.2; omega, fun h => h.elim⟩))
  clear Dr1d0
  have Dr1d0 := dd
  clear dd
  have dd := Aside.mk (RTable.but Dc2.out hbt (fun b hb => ⟨by have h2 := hb.2; omega, fun h => h.elim⟩))
  clear Dc2
  have Dc2 := dd
  clear dd
  have dd := Aside.mk (Rec.term.but Dc3.out hbt (fun b hb => ⟨by have h2 := hb.2; omega, fun h => h.elim⟩))
  clear Dc3
  have Dc3 := dd
  clear dd
  have dd := Aside.mk (RTable.but Dr4d0.out hbt (fun b hb => ⟨by have h2 := hb.2; omega, fun h => h.elim⟩))
  clear Dr4d0
  have Dr4d0 := dd
  clear dd
  have dd := Aside.mk (RTable.but Dc5.out hbt (fun b hb => ⟨by have h2 := hb.2; omega, fun h => h.elim⟩))
  clear Dc5
  have Dc5 := dd
  clear dd
  clear hbt hst hb
  have l2 : w.heap.size < w9.heap.size := K2.out.lt
  have y2_0 : w9.cell? ⟨w.heap.size, 0, none⟩ = some (.int .i64 xaT0) := K2.out.cell 0
  have y2_1 : w9.cell? ⟨w.heap.size, 1, none⟩ = some (.slice xaT1a xaT1b xaT1c) := K2.out.cell 1
  have l3 : w.heap.size + 1 < w9.heap.size := K3.out.lt
  have y3_0 : w9.cell? ⟨w.heap.size + 1, 0, none⟩ = some (.int .i64 xaRow0) := K3.out.cell 0
  have y3_1 : w9.cell? ⟨w.heap.size + 1, 1, none⟩ = some (.int .i64 xaRow1) := K3.out.cell 1
  have y3_2 : w9.cell? ⟨w.heap.size + 1, 2, none⟩ = some (.string xaRow2) := K3.out.cell 2
  have y3_3 : w9.cell? ⟨w.heap.size + 1, 3, none⟩ = some (.slice xaRow3a xaRow3b xaRow3c) := K3.out.cell 3
  have l6 : gr1d0 < w9.heap.size := K6.out.lt
  have y6_0 : w9.cell? ⟨gr1d0, 0, none⟩ = some (.int .i64 r1d0_0) := K6.out.cell 0
  have y6_1 : w9.cell? ⟨gr1d0, 1, none⟩ = some (.slice r1d0_1a r1d0_1b r1d0_1c) := K6.out.cell 1
  have l8 : w4.heap.size < w9.heap.size := K8.out.lt
  have y8_0 : w9.cell? ⟨w4.heap.size, 0, none⟩ = some (.int .i64 c2_0) := K8.out.cell 0
  have y8_1 : w9.cell? ⟨w4.heap.size, 1, none⟩ = some (.slice c2_1a c2_1b c2_1c) := K8.out.cell 1
  have l9 : w5.heap.size < w9.heap.size := K9.out.lt
  have y9_0 : w9.cell? ⟨w5.heap.size, 0, none⟩ = some (.int .i64 c3_0) := K9.out.cell 0
  have y9_1 : w9.cell? ⟨w5.heap.size, 1, none⟩ = some (.int .i64 c3_1) := K9.out.cell 1
  have y9_2 : w9.cell? ⟨w5.heap.size, 2, none⟩ = some (.string c3_2) := K9.out.cell 2
  have y9_3 : w9.cell? ⟨w5.heap.size, 3, none⟩ = some (.slice c3_3a c3_3b c3_3c) := K9.out.cell 3
  have l10 : w6.heap.size < w9.heap.size := K10.out.lt
  have y10_0 : w9.cell? ⟨w6.heap.size, 0, none⟩ = some (.int .i64 r4d0_0) := K10.out.cell 0
  have y10_1 : w9.cell? ⟨w6.heap.size, 1, none⟩ = some (.slice r4d0_1a r4d0_1b r4d0_1c) := K10.out.cell 1
  refine ⟨_, rfl, HS0.out, ?_⟩
  refine env_yes HSZ H4.out ?_ (fun w' hS => ?_) ?_
  rotate_left
  (go_simp
   rfl)
  refine env_end ?_
  have hfr := HFR.out
  clear HFR HSZ H0 H1 H2 H3 H4 x_8 x_2
  subst hfr
  simp only [putAll, Act.put, List.setIfInBounds_toArray, List.set_cons_succ, List.set_cons_zero]
  clear HS0
  go_wp2_with fail
  have HS0 : Aside (Below w9.heap.size w9 w9) := ⟨Below.refl _ _⟩
  refine region_env [(0, true), (1, true), (2, false), (3, false), (4, true)] (fun w' => Below w9.heap.size w9 w') 119 rfl (by kernel_rfl) (by kernel_rfl) (fun _ _ d _ _ h => by cases d <;> exact h) ((Below.refl _ _).drew) (fun ops fr HFR HSZ hl => ?_)
  have hl_0 := ops_start hl
  clear hl
  obtain ⟨H0, hl_1⟩ := ops_next 0 1 rfl hl_0
  clear hl_0
  obtain ⟨H1, hl_2⟩ := ops_next 1 2 rfl hl_1
  clear hl_1
  obtain ⟨H2, hl_3⟩ := ops_next 2 3 rfl hl_2
  clear hl_2
  obtain ⟨H3, hl_4⟩ := ops_next 3 4 rfl hl_3
  clear hl_3
  obtain ⟨H4, hl_5⟩ := ops_next 4 5 rfl hl_4
  clear hl_4
  clear hl_5
  have x_9 : ext fr 9 = _ := congrArg (fun a => Act.eval a (.tmp 9)) HFR.out
  conv at x_9 => rhs; simp only [Act.eval, Array.getD_eq_getD_getElem?, List.getElem?_toArray, List.getElem?_cons_succ, List.getElem?_cons_zero, Option.getD_some]
  have x_3 : ext fr 3 = _ := congrArg (fun a => Act.eval a (.tmp 3)) HFR.out
  conv at x_3 => rhs; simp only [Act.eval, Array.getD_eq_getD_getElem?, List.getElem?_toArray, List.getElem?_cons_succ, List.getElem?_cons_zero, Option.getD_some]
  refine env_yes HSZ H0.out ?_ (fun w' hS => ?_) ?_
  rotate_left
  (have h0 := (hS.cell (p := ⟨w5.heap.size, 0, none⟩) l9).trans y9_0
   have h1 := (hS.cell (p := ⟨w5.heap.size, 1, none⟩) l9).trans y9_1
   have h2 := (hS.cell (p := ⟨w5.heap.size, 2, none⟩) l9).trans y9_2
   have h3 := (hS.cell (p := ⟨w5.heap.size, 3, none⟩) l9).trans y9_3
   go_simp
   rfl)
  refine env_yes HSZ H1.out ?_ (fun w' hS => ?_) ?_
  rotate_left
  (have h0 := (hS.cell (p := ⟨w.heap.size + 1, 0, none⟩) l3).trans y3_0
   have h1 := (hS.cell (p := ⟨w.heap.size + 1, 1, none⟩) l3).trans y3_1
   have h2 := (hS.cell (p := ⟨w.heap.size + 1, 2, none⟩) l3).trans y3_2
   have h3 := (hS.cell (p := ⟨w.heap.size + 1, 3, none⟩) l3).trans y3_3
   go_simp
   rfl)
  refine env_call HSZ H2.out ?_ ?_ ?_ ?_
  rotate_left 2
  (go_simp
   first | rfl | (constructor <;> rfl))
  refine (toTerm aRow [.int .i64 xaRow0, .int .i64 xaRow1, .string xaRow2, .slice xaRow3a xaRow3b xaRow3c] _ (Rec.term.made DaRow.out (by omega) (by first | exact Below.refl _ _ | go_grown)) WaRow.out).mono ?_
  rintro e w10 ⟨cs2, rfl, hr, hb⟩
  obtain ⟨c6_0, c6_1, c6_2, c6_3a, c6_3b, c6_3c, rfl⟩ := shapeTerm hr
  have Dc6 : Aside (Rec.term.rd True w10 (Span (w9.heap.size) w10.heap.size) aRow [.int .i64 c6_0, .int .i64 c6_1, .string c6_2, .slice c6_3a c6_3b c6_3c]) := ⟨Rec.term.mono hr (fun b h => ⟨by have h1 := h.1; (try simp at h1); omega, h.2⟩)⟩
  clear hr
  clear l2 y2_0 y2_1
  clear l3 y3_0 y3_1 y3_2 y3_3
  clear l6 y6_0 y6_1
  clear l8 y8_0 y8_1
  clear l9 y9_0 y9_1 y9_2 y9_3
  clear l10 y10_0 y10_1
  have hst : Below w9.heap.size w9 w10 := below_later (by go_grown) hb
  have hs2 := Aside.mk (below_later HS0.out hst)
  clear HS0
  have HS0 := hs2
  clear hs2
  have hbt : But NoB w9 w10 := But.below hst
  have gw10 : w9.heap.size ≤ w10.heap.size := hbt.size
  have kk := (K2.out).below hst
  clear K2
  have K2 := Aside.mk kk
  clear kk
  have kk := (K3.out).below hst
  clear K3
  have K3 := Aside.mk kk
  clear kk
  have kk := (K6.out).below hst
  clear K6
  have K6 := Aside.mk kk
  clear kk
  have kk := (K8.out).below hst
  clear K8
  have K8 := Aside.mk kk
  clear kk
  have kk := (K9.out).below hst
  clear K9
  have K9 := Aside.mk kk
  clear kk
  have kk := (K10.out).below hst
  clear K10
  have K10 := Aside.mk kk
  clear kk
  have bel2 := Aside.mk (below_later BEL.out hst)
  clear BEL
  have BEL := bel2
  clear bel2
  have dd := Aside.mk (RTable.but DaT.out hbt (fun b hb => ⟨by have h2 := hb.2; omega, fun h => h.elim⟩))
  clear DaT
  have DaT := dd
  clear dd
  have dd := Aside.mk (Rec.term.but DaRow.out hbt (fun b hb => ⟨by have h2 := hb.2; omega, fun h => h.elim⟩))
  clear DaRow
  have DaRow := dd
  clear dd
  have dd := Aside.mk (RTable.but Dr1d0.out hbt (fun b hb => ⟨by have h2 := hb.2; omega, fun h => h.elim⟩))
  clear Dr1d0
  have Dr1d0 := dd
  clear dd
  have dd := Aside.mk (RTable.but Dc2.out hbt (fun b hb => ⟨by have h2 := hb.2; omega, fun h => h.elim⟩))
  clear Dc2
  have Dc2 := dd
  clear dd
  have dd := Aside.mk (Rec.term.but Dc3.out hbt (fun b hb => ⟨by have h2 := hb.2; omega, fun h => h.elim⟩))
  clear Dc3
  have Dc3 := dd
  clear dd
  have dd := Aside.mk (RTable.but Dr4d0.out hbt (fun b hb => ⟨by have h2 := hb.2; omega, fun h => h.elim⟩))
  clear Dr4d0
  have Dr4d0 := dd
  clear dd
  have dd := Aside.mk (RTable.but Dc5.out hbt (fun b hb => ⟨by have h2 := hb.2; omega, fun h => h.elim⟩))
  clear Dc5
  have Dc5 := dd
  clear dd
  clear hbt hst hb
  have l2 : w.heap.size < w10.heap.size := K2.out.lt
  have y2_0 : w10.cell? ⟨w.heap.size, 0, none⟩ = some (.int .i64 xaT0) := K2.out.cell 0
  have y2_1 : w10.cell? ⟨w.heap.size, 1, none⟩ = some (.slice xaT1a xaT1b xaT1c) := K2.out.cell 1
  have l3 : w.heap.size + 1 < w10.heap.size := K3.out.lt
  have y3_0 : w10.cell? ⟨w.heap.size + 1, 0, none⟩ = some (.int .i64 xaRow0) := K3.out.cell 0
  have y3_1 : w10.cell? ⟨w.heap.size + 1, 1, none⟩ = some (.int .i64 xaRow1) := K3.out.cell 1
  have y3_2 : w10.cell? ⟨w.heap.size + 1, 2, none⟩ = some (.string xaRow2) := K3.out.cell 2
  have y3_3 : w10.cell? ⟨w.heap.size + 1, 3, none⟩ = some (.slice xaRow3a xaRow3b xaRow3c) := K3.out.cell 3
  have l6 : gr1d0 < w10.heap.size := K6.out.lt
  have y6_0 : w10.cell? ⟨gr1d0, 0, none⟩ = some (.int .i64 r1d0_0) := K6.out.cell 0
  have y6_1 : w10.cell? ⟨gr1d0, 1, none⟩ = some (.slice r1d0_1a r1d0_1b r1d0_1c) := K6.out.cell 1
  have l8 : w4.heap.size < w10.heap.size := K8.out.lt
  have y8_0 : w10.cell? ⟨w4.heap.size, 0, none⟩ = some (.int .i64 c2_0) := K8.out.cell 0
  have y8_1 : w10.cell? ⟨w4.heap.size, 1, none⟩ = some (.slice c2_1a c2_1b c2_1c) := K8.out.cell 1
  have l9 : w5.heap.size < w10.heap.size := K9.out.lt
  have y9_0 : w10.cell? ⟨w5.heap.size, 0, none⟩ = some (.int .i64 c3_0) := K9.out.cell 0
  have y9_1 : w10.cell? ⟨w5.heap.size, 1, none⟩ = some (.int .i64 c3_1) := K9.out.cell 1
  have y9_2 : w10.cell? ⟨w5.heap.size, 2, none⟩ = some (.string c3_2) := K9.out.cell 2
  have y9_3 : w10.cell? ⟨w5.heap.size, 3, none⟩ = some (.slice c3_3a c3_3b c3_3c) := K9.out.cell 3
  have l10 : w6.heap.size < w10.heap.size := K10.out.lt
  have y10_0 : w10.cell? ⟨w6.heap.size, 0, none⟩ = some (.int .i64 r4d0_0) := K10.out.cell 0
  have y10_1 : w10.cell? ⟨w6.heap.size, 1, none⟩ = some (.slice r4d0_1a r4d0_1b r4d0_1c) := K10.out.cell 1
  refine ⟨_, rfl, HS0.out, ?_⟩
  refine env_call HSZ H3.out ?_ ?_ ?_ ?_
  rotate_left 2
  (go_simp
   first | rfl | (constructor <;> rfl))
  refine (eqTerm aRow [.int .i64 c3_0, .int .i64 c3_1, .string c3_2, .slice c3_3a c3_3b c3_3c] [.int .i64 c6_0, .int .i64 c6_1, .string c6_2, .slice c6_3a c6_3b c6_3c] _ (Rec.term.made Dc3.out (by omega) (by first | exact Below.refl _ _ | go_grown)) (Rec.term.made Dc6.out (by omega) (by first | exact Below.refl _ _ | go_grown)) OaRow.out).mono ?_
  rintro e w11 ⟨rfl, hb⟩
  clear l2 y2_0 y2_1
  clear l3 y3_0 y3_1 y3_2 y3_3
  clear l6 y6_0 y6_1
  clear l8 y8_0 y8_1
  clear l9 y9_0 y9_1 y9_2 y9_3
  clear l10 y10_0 y10_1
  have hst : Below w10.heap.size w10 w11 := below_later (by go_grown) hb
  have hs2 := Aside.mk (below_later HS0.out hst)
  clear HS0
  have HS0 := hs2
  clear hs2
  have hbt : But NoB w10 w11 := But.below hst
  have gw11 : w10.heap.size ≤ w11.heap.size := hbt.size
  have kk := (K2.out).below hst
  clear K2
  have K2 := Aside.mk kk
  clear kk
  have kk := (K3.out).below hst
  clear K3
  have K3 := Aside.mk kk
  clear kk
  have kk := (K6.out).below hst
  clear K6
  have K6 := Aside.mk kk
  clear kk
  have kk := (K8.out).below hst
  clear K8
  have K8 := Aside.mk kk
  clear kk
  have kk := (K9.out).below hst
  clear K9
  have K9 := Aside.mk kk
  clear kk
  have kk := (K10.out).below hst
  clear K10
  have K10 := Aside.mk kk
  clear kk
  have bel2 := Aside.mk (below_later BEL.out hst)
  clear BEL
  have BEL := bel2
  clear bel2
  have dd := Aside.mk (RTable.but DaT.out hbt (fun b hb => ⟨by have h2 := hb.2; omega, fun h => h.elim⟩))
  clear DaT
  have DaT := dd
  clear dd
  have dd := Aside.mk (Rec.term.but DaRow.out hbt (fun b hb => ⟨by have h2 := hb.2; omega, fun h => h.elim⟩))
  clear DaRow
  have DaRow := dd
  clear dd
  have dd := Aside.mk (RTable.but Dr1d0.out hbt (fun b hb => ⟨by have h2 := hb.2; omega, fun h => h.elim⟩))
  clear Dr1d0
  have Dr1d0 := dd
  clear dd
  have dd := Aside.mk (RTable.but Dc2.out hbt (fun b hb => ⟨by have h2 := hb.2; omega, fun h => h.elim⟩))
  clear Dc2
  have Dc2 := dd
  clear dd
  have dd := Aside.mk (Rec.term.but Dc3.out hbt (fun b hb => ⟨by have h2 := hb.2; omega, fun h => h.elim⟩))
  clear Dc3
  have Dc3 := dd
  clear dd
  have dd := Aside.mk (RTable.but Dr4d0.out hbt (fun b hb => ⟨by have h2 := hb.2; omega, fun h => h.elim⟩))
  clear Dr4d0
  have Dr4d0 := dd
  clear dd
  have dd := Aside.mk (RTable.but Dc5.out hbt (fun b hb => ⟨by have h2 := hb.2; omega, fun h => h.elim⟩))
  clear Dc5
  have Dc5 := dd
  clear dd
  have dd := Aside.mk (Rec.term.but Dc6.out hbt (fun b hb => ⟨by have h2 := hb.2; omega, fun h => h.elim⟩))
  clear Dc6
  have Dc6 := dd
  clear dd
  clear hbt hst hb
  have l2 : w.heap.size < w11.heap.size := K2.out.lt
  have y2_0 : w11.cell? ⟨w.heap.size, 0, none⟩ = some (.int .i64 xaT0) := K2.out.cell 0
  have y2_1 : w11.cell? ⟨w.heap.size, 1, none⟩ = some (.slice xaT1a xaT1b xaT1c) := K2.out.cell 1
  have l3 : w.heap.size + 1 < w11.heap.size := K3.out.lt
  have y3_0 : w11.cell? ⟨w.heap.size + 1, 0, none⟩ = some (.int .i64 xaRow0) := K3.out.cell 0
  have y3_1 : w11.cell? ⟨w.heap.size + 1, 1, none⟩ = some (.int .i64 xaRow1) := K3.out.cell 1
  have y3_2 : w11.cell? ⟨w.heap.size + 1, 2, none⟩ = some (.string xaRow2) := K3.out.cell 2
  have y3_3 : w11.cell? ⟨w.heap.size + 1, 3, none⟩ = some (.slice xaRow3a xaRow3b xaRow3c) := K3.out.cell 3
  have l6 : gr1d0 < w11.heap.size := K6.out.lt
  have y6_0 : w11.cell? ⟨gr1d0, 0, none⟩ = some (.int .i64 r1d0_0) := K6.out.cell 0
  have y6_1 : w11.cell? ⟨gr1d0, 1, none⟩ = some (.slice r1d0_1a r1d0_1b r1d0_1c) := K6.out.cell 1
  have l8 : w4.heap.size < w11.heap.size := K8.out.lt
  have y8_0 : w11.cell? ⟨w4.heap.size, 0, none⟩ = some (.int .i64 c2_0) := K8.out.cell 0
  have y8_1 : w11.cell? ⟨w4.heap.size, 1, none⟩ = some (.slice c2_1a c2_1b c2_1c) := K8.out.cell 1
  have l9 : w5.heap.size < w11.heap.size := K9.out.lt
  have y9_0 : w11.cell? ⟨w5.heap.size, 0, none⟩ = some (.int .i64 c3_0) := K9.out.cell 0
  have y9_1 : w11.cell? ⟨w5.heap.size, 1, none⟩ = some (.int .i64 c3_1) := K9.out.cell 1
  have y9_2 : w11.cell? ⟨w5.heap.size, 2, none⟩ = some (.string c3_2) := K9.out.cell 2
  have y9_3 : w11.cell? ⟨w5.heap.size, 3, none⟩ = some (.slice c3_3a c3_3b c3_3c) := K9.out.cell 3
  have l10 : w6.heap.size < w11.heap.size := K10.out.lt
  have y10_0 : w11.cell? ⟨w6.heap.size, 0, none⟩ = some (.int .i64 r4d0_0) := K10.out.cell 0
  have y10_1 : w11.cell? ⟨w6.heap.size, 1, none⟩ = some (.slice r4d0_1a r4d0_1b r4d0_1c) := K10.out.cell 1
  refine ⟨_, rfl, HS0.out, ?_⟩
  refine env_yes HSZ H4.out ?_ (fun w' hS => ?_) ?_
  rotate_left
  (go_simp
   rfl)
  refine env_end ?_
  have hfr := HFR.out
  clear HFR HSZ H0 H1 H2 H3 H4 x_9 x_3
  subst hfr
  simp only [putAll, Act.put, List.setIfInBounds_toArray, List.set_cons_succ, List.set_cons_zero]
  clear HS0
  go_wp2_with fail
  refine (markTableV aT [.int .i64 c2_0, .slice c2_1a c2_1b c2_1c] _ (Span (w3.heap.size) (w4.heap.size)) (1) Dc2.out (fun b hb => by have h2 := hb.2; first | omega | (simp; omega)) (by omega) (by have := WaT.out; omega)).mono ?_
  rintro e w12 ⟨k1, z1, rfl, hh, hr, hb, hlek1, hlfk1⟩
  have hlgk1 : k1 ≤ 1 + 8589934592 := by have := WaT.out; omega
  clear hlfk1
  have HHk1 := Aside.mk hh
  clear hh
  clear Dc2
  have Dc2 := Aside.mk hr
  clear hr
  clear l2 y2_0 y2_1
  clear l3 y3_0 y3_1 y3_2 y3_3
  clear l6 y6_0 y6_1
  clear l8 y8_0 y8_1
  clear l9 y9_0 y9_1 y9_2 y9_3
  clear l10 y10_0 y10_1
  have hbt : But (Span (w3.heap.size) (w4.heap.size)) w11 w12 := (But.below (show Below w11.heap.size w11 _ by go_grown)).trans hb
  have gw12 : w11.heap.size ≤ w12.heap.size := hbt.size
  have kk := Blk.but K2.out hbt (fun h => by have h1 := h.1; have h2 := h.2; omega)
  clear K2
  have K2 := Aside.mk kk
  clear kk
  have kk := Blk.but K3.out hbt (fun h => by have h1 := h.1; have h2 := h.2; omega)
  clear K3
  have K3 := Aside.mk kk
  clear kk
  have kk := Blk.but K6.out hbt (fun h => by have h1 := h.1; have h2 := h.2; omega)
  clear K6
  have K6 := Aside.mk kk
  clear kk
  have kk := Blk.but K8.out hbt (fun h => by have h1 := h.1; have h2 := h.2; omega)
  clear K8
  have K8 := Aside.mk kk
  clear kk
  have kk := Blk.but K9.out hbt (fun h => by have h1 := h.1; have h2 := h.2; omega)
  clear K9
  have K9 := Aside.mk kk
  clear kk
  have kk := Blk.but K10.out hbt (fun h => by have h1 := h.1; have h2 := h.2; omega)
  clear K10
  have K10 := Aside.mk kk
  clear kk
  have bel2 := Aside.mk (But.out BEL.out hbt (fun k hk => by have h1 := hk.1; have h2 := BEL.out.size; omega))
  clear BEL
  have BEL := bel2
  clear bel2
  have dd := Aside.mk (RTable.but DaT.out hbt (fun b hb => ⟨by have h2 := hb.2; omega, fun h => by have h1 := h.1; have h2 := h.2; have h3 := hb.1; have h4 := hb.2; omega⟩))
  clear DaT
  have DaT := dd
  clear dd
  have dd := Aside.mk (Rec.term.but DaRow.out hbt (fun b hb => ⟨by have h2 := hb.2; omega, fun h => by have h1 := h.1; have h2 := h.2; have h3 := hb.1; have h4 := hb.2; omega⟩))
  clear DaRow
  have DaRow := dd
  clear dd
  have dd := Aside.mk (RTable.but Dr1d0.out hbt (fun b hb => ⟨by have h2 := hb.2; omega, fun h => by have h1 := h.1; have h2 := h.2; have h3 := hb.1; have h4 := hb.2; omega⟩))
  clear Dr1d0
  have Dr1d0 := dd
  clear dd
  have dd := Aside.mk (Rec.term.but Dc3.out hbt (fun b hb => ⟨by have h2 := hb.2; omega, fun h => by have h1 := h.1; have h2 := h.2; have h3 := hb.1; have h4 := hb.2; omega⟩))
  clear Dc3
  have Dc3 := dd
  clear dd
  have dd := Aside.mk (RTable.but Dr4d0.out hbt (fun b hb => ⟨by have h2 := hb.2; omega, fun h => by have h1 := h.1; have h2 := h.2; have h3 := hb.1; have h4 := hb.2; omega⟩))
  clear Dr4d0
  have Dr4d0 := dd
  clear dd
  have dd := Aside.mk (RTable.but Dc5.out hbt (fun b hb => ⟨by have h2 := hb.2; omega, fun h => by have h1 := h.1; have h2 := h.2; have h3 := hb.1; have h4 := hb.2; omega⟩))
  clear Dc5
  have Dc5 := dd
  clear dd
  have dd := Aside.mk (Rec.term.but Dc6.out hbt (fun b hb => ⟨by have h2 := hb.2; omega, fun h => by have h1 := h.1; have h2 := h.2; have h3 := hb.1; have h4 := hb.2; omega⟩))
  clear Dc6
  have Dc6 := dd
  clear dd
  clear hbt hb
  have l2 : w.heap.size < w12.heap.size := K2.out.lt
  have y2_0 : w12.cell? ⟨w.heap.size, 0, none⟩ = some (.int .i64 xaT0) := K2.out.cell 0
  have y2_1 : w12.cell? ⟨w.heap.size, 1, none⟩ = some (.slice xaT1a xaT1b xaT1c) := K2.out.cell 1
  have l3 : w.heap.size + 1 < w12.heap.size := K3.out.lt
  have y3_0 : w12.cell? ⟨w.heap.size + 1, 0, none⟩ = some (.int .i64 xaRow0) := K3.out.cell 0
  have y3_1 : w12.cell? ⟨w.heap.size + 1, 1, none⟩ = some (.int .i64 xaRow1) := K3.out.cell 1
  have y3_2 : w12.cell? ⟨w.heap.size + 1, 2, none⟩ = some (.string xaRow2) := K3.out.cell 2
  have y3_3 : w12.cell? ⟨w.heap.size + 1, 3, none⟩ = some (.slice xaRow3a xaRow3b xaRow3c) := K3.out.cell 3
  have l6 : gr1d0 < w12.heap.size := K6.out.lt
  have y6_0 : w12.cell? ⟨gr1d0, 0, none⟩ = some (.int .i64 r1d0_0) := K6.out.cell 0
  have y6_1 : w12.cell? ⟨gr1d0, 1, none⟩ = some (.slice r1d0_1a r1d0_1b r1d0_1c) := K6.out.cell 1
  have l8 : w4.heap.size < w12.heap.size := K8.out.lt
  have y8_0 : w12.cell? ⟨w4.heap.size, 0, none⟩ = some (.int .i64 c2_0) := K8.out.cell 0
  have y8_1 : w12.cell? ⟨w4.heap.size, 1, none⟩ = some (.slice c2_1a c2_1b c2_1c) := K8.out.cell 1
  have l9 : w5.heap.size < w12.heap.size := K9.out.lt
  have y9_0 : w12.cell? ⟨w5.heap.size, 0, none⟩ = some (.int .i64 c3_0) := K9.out.cell 0
  have y9_1 : w12.cell? ⟨w5.heap.size, 1, none⟩ = some (.int .i64 c3_1) := K9.out.cell 1
  have y9_2 : w12.cell? ⟨w5.heap.size, 2, none⟩ = some (.string c3_2) := K9.out.cell 2
  have y9_3 : w12.cell? ⟨w5.heap.size, 3, none⟩ = some (.slice c3_3a c3_3b c3_3c) := K9.out.cell 3
  have l10 : w6.heap.size < w12.heap.size := K10.out.lt
  have y10_0 : w12.cell? ⟨w6.heap.size, 0, none⟩ = some (.int .i64 r4d0_0) := K10.out.cell 0
  have y10_1 : w12.cell? ⟨w6.heap.size, 1, none⟩ = some (.slice r4d0_1a r4d0_1b r4d0_1c) := K10.out.cell 1
  go_wp2_with fail
  refine (markTermV aRow [.int .i64 c3_0, .int .i64 c3_1, .string c3_2, .slice c3_3a c3_3b c3_3c] _ (Span (w4.heap.size + 1) (w5.heap.size)) (k1) Dc3.out (fun b hb => by have h2 := hb.2; first | omega | (simp; omega)) (by omega) (by have := WaRow.out; omega)).mono ?_
  rintro e w13 ⟨k2, z2, rfl, hh, hr, hb, hlek2, hlfk2⟩
  have hlgk2 : k2 ≤ k1 + 8589934592 := by have := WaRow.out; omega
  clear hlfk2
  have HHk2 := Aside.mk hh
  clear hh
  clear Dc3
  have Dc3 := Aside.mk hr
  clear hr
  clear l2 y2_0 y2_1
  clear l3 y3_0 y3_1 y3_2 y3_3
  clear l6 y6_0 y6_1
  clear l8 y8_0 y8_1
  clear l9 y9_0 y9_1 y9_2 y9_3
  clear l10 y10_0 y10_1
  have hbt : But (Span (w4.heap.size + 1) (w5.heap.size)) w12 w13 := (But.below (show Below w12.heap.size w12 _ by go_grown)).trans hb
  have gw13 : w12.heap.size ≤ w13.heap.size := hbt.size
  have kk := Blk.but K2.out hbt (fun h => by have h1 := h.1; have h2 := h.2; omega)
  clear K2
  have K2 := Aside.mk kk
  clear kk
  have kk := Blk.but K3.out hbt (fun h => by have h1 := h.1; have h2 := h.2; omega)
  clear K3
  have K3 := Aside.mk kk
  clear kk
  have kk := Blk.but K6.out hbt (fun h => by have h1 := h.1; have h2 := h.2; omega)
  clear K6
  have K6 := Aside.mk kk
  clear kk
  have kk := Blk.but K8.out hbt (fun h => by have h1 := h.1; have h2 := h.2; omega)
  clear K8
  have K8 := Aside.mk kk
  clear kk
  have kk := Blk.but K9.out hbt (fun h => by have h1 := h.1; have h2 := h.2; omega)
  clear K9
  have K9 := Aside.mk kk
  clear kk
  have kk := Blk.but K10.out hbt (fun h => by have h1 := h.1; have h2 := h.2; omega)
  clear K10
  have K10 := Aside.mk kk
  clear kk
  have bel2 := Aside.mk (But.out BEL.out hbt (fun k hk => by have h1 := hk.1; have h2 := BEL.out.size; omega))
  clear BEL
  have BEL := bel2
  clear bel2
  have dd := Aside.mk (RTable.but DaT.out hbt (fun b hb => ⟨by have h2 := hb.2; omega, fun h => by have h1 := h.1; have h2 := h.2; have h3 := hb.1; have h4 := hb.2; omega⟩))
  clear DaT
  have DaT := dd
  clear dd
  have dd := Aside.mk (Rec.term.but DaRow.out hbt (fun b hb => ⟨by have h2 := hb.2; omega, fun h => by have h1 := h.1; have h2 := h.2; have h3 := hb.1; have h4 := hb.2; omega⟩))
  clear DaRow
  have DaRow := dd
  clear dd
  have dd := Aside.mk (RTable.but Dr1d0.out hbt (fun b hb => ⟨by have h2 := hb.2; omega, fun h => by have h1 := h.1; have h2 := h.2; have h3 := hb.1; have h4 := hb.2; omega⟩))
  clear Dr1d0
  have Dr1d0 := dd
  clear dd
  have dd := Aside.mk (RTable.but Dc2.out hbt (fun b hb => ⟨by have h2 := hb.2; omega, fun h => by have h1 := h.1; have h2 := h.2; have h3 := hb.1; have h4 := hb.2; omega⟩))
  clear Dc2
  have Dc2 := dd
  clear dd
  have dd := Aside.mk (RTable.but Dr4d0.out hbt (fun b hb => ⟨by have h2 := hb.2; omega, fun h => by have h1 := h.1; have h2 := h.2; have h3 := hb.1; have h4 := hb.2; omega⟩))
  clear Dr4d0
  have Dr4d0 := dd
  clear dd
  have dd := Aside.mk (RTable.but Dc5.out hbt (fun b hb => ⟨by have h2 := hb.2; omega, fun h => by have h1 := h.1; have h2 := h.2; have h3 := hb.1; have h4 := hb.2; omega⟩))
  clear Dc5
  have Dc5 := dd
  clear dd
  have dd := Aside.mk (Rec.term.but Dc6.out hbt (fun b hb => ⟨by have h2 := hb.2; omega, fun h => by have h1 := h.1; have h2 := h.2; have h3 := hb.1; have h4 := hb.2; omega⟩))
  clear Dc6
  have Dc6 := dd
  clear dd
  clear hbt hb
  have l2 : w.heap.size < w13.heap.size := K2.out.lt
  have y2_0 : w13.cell? ⟨w.heap.size, 0, none⟩ = some (.int .i64 xaT0) := K2.out.cell 0
  have y2_1 : w13.cell? ⟨w.heap.size, 1, none⟩ = some (.slice xaT1a xaT1b xaT1c) := K2.out.cell 1
  have l3 : w.heap.size + 1 < w13.heap.size := K3.out.lt
  have y3_0 : w13.cell? ⟨w.heap.size + 1, 0, none⟩ = some (.int .i64 xaRow0) := K3.out.cell 0
  have y3_1 : w13.cell? ⟨w.heap.size + 1, 1, none⟩ = some (.int .i64 xaRow1) := K3.out.cell 1
  have y3_2 : w13.cell? ⟨w.heap.size + 1, 2, none⟩ = some (.string xaRow2) := K3.out.cell 2
  have y3_3 : w13.cell? ⟨w.heap.size + 1, 3, none⟩ = some (.slice xaRow3a xaRow3b xaRow3c) := K3.out.cell 3
  have l6 : gr1d0 < w13.heap.size := K6.out.lt
  have y6_0 : w13.cell? ⟨gr1d0, 0, none⟩ = some (.int .i64 r1d0_0) := K6.out.cell 0
  have y6_1 : w13.cell? ⟨gr1d0, 1, none⟩ = some (.slice r1d0_1a r1d0_1b r1d0_1c) := K6.out.cell 1
  have l8 : w4.heap.size < w13.heap.size := K8.out.lt
  have y8_0 : w13.cell? ⟨w4.heap.size, 0, none⟩ = some (.int .i64 c2_0) := K8.out.cell 0
  have y8_1 : w13.cell? ⟨w4.heap.size, 1, none⟩ = some (.slice c2_1a c2_1b c2_1c) := K8.out.cell 1
  have l9 : w5.heap.size < w13.heap.size := K9.out.lt
  have y9_0 : w13.cell? ⟨w5.heap.size, 0, none⟩ = some (.int .i64 c3_0) := K9.out.cell 0
  have y9_1 : w13.cell? ⟨w5.heap.size, 1, none⟩ = some (.int .i64 c3_1) := K9.out.cell 1
  have y9_2 : w13.cell? ⟨w5.heap.size, 2, none⟩ = some (.string c3_2) := K9.out.cell 2
  have y9_3 : w13.cell? ⟨w5.heap.size, 3, none⟩ = some (.slice c3_3a c3_3b c3_3c) := K9.out.cell 3
  have l10 : w6.heap.size < w13.heap.size := K10.out.lt
  have y10_0 : w13.cell? ⟨w6.heap.size, 0, none⟩ = some (.int .i64 r4d0_0) := K10.out.cell 0
  have y10_1 : w13.cell? ⟨w6.heap.size, 1, none⟩ = some (.slice r4d0_1a r4d0_1b r4d0_1c) := K10.out.cell 1
  go_wp2_with fail
  refine (eqTable x0 [.int .i64 r4d0_0, .slice r4d0_1a r4d0_1b r4d0_1c] [.int .i64 r1d0_0, .slice r1d0_1a r1d0_1b r1d0_1c] _ (RTable.made Dr4d0.out (by omega) (by first | exact Below.refl _ _ | go_grown)) (RTable.made Dr1d0.out (by omega) (by first | exact Below.refl _ _ | go_grown)) HOK0.out).mono ?_
  rintro e w14 ⟨rfl, hb⟩
  clear l2 y2_0 y2_1
  clear l3 y3_0 y3_1 y3_2 y3_3
  clear l6 y6_0 y6_1
  clear l8 y8_0 y8_1
  clear l9 y9_0 y9_1 y9_2 y9_3
  clear l10 y10_0 y10_1
  have hst : Below w13.heap.size w13 w14 := below_later (by go_grown) hb
  have hbt : But NoB w13 w14 := But.below hst
  have gw14 : w13.heap.size ≤ w14.heap.size := hbt.size
  have kk := (K2.out).below hst
  clear K2
  have K2 := Aside.mk kk
  clear kk
  have kk := (K3.out).below hst
  clear K3
  have K3 := Aside.mk kk
  clear kk
  have kk := (K6.out).below hst
  clear K6
  have K6 := Aside.mk kk
  clear kk
  have kk := (K8.out).below hst
  clear K8
  have K8 := Aside.mk kk
  clear kk
  have kk := (K9.out).below hst
  clear K9
  have K9 := Aside.mk kk
  clear kk
  have kk := (K10.out).below hst
  clear K10
  have K10 := Aside.mk kk
  clear kk
  have bel2 := Aside.mk (below_later BEL.out hst)
  clear BEL
  have BEL := bel2
  clear bel2
  have dd := Aside.mk (RTable.but DaT.out hbt (fun b hb => ⟨by have h2 := hb.2; omega, fun h => h.elim⟩))
  clear DaT
  have DaT := dd
  clear dd
  have dd := Aside.mk (Rec.term.but DaRow.out hbt (fun b hb => ⟨by have h2 := hb.2; omega, fun h => h.elim⟩))
  clear DaRow
  have DaRow := dd
  clear dd
  have dd := Aside.mk (RTable.but Dr1d0.out hbt (fun b hb => ⟨by have h2 := hb.2; omega, fun h => h.elim⟩))
  clear Dr1d0
  have Dr1d0 := dd
  clear dd
  have dd := Aside.mk (RTable.but Dc2.out hbt (fun b hb => ⟨by have h2 := hb.2; omega, fun h => h.elim⟩))
  clear Dc2
  have Dc2 := dd
  clear dd
  have dd := Aside.mk (Rec.term.but Dc3.out hbt (fun b hb => ⟨by have h2 := hb.2; omega, fun h => h.elim⟩))
  clear Dc3
  have Dc3 := dd
  clear dd
  have dd := Aside.mk (RTable.but Dr4d0.out hbt (fun b hb => ⟨by have h2 := hb.2; omega, fun h => h.elim⟩))
  clear Dr4d0
  have Dr4d0 := dd
  clear dd
  have dd := Aside.mk (RTable.but Dc5.out hbt (fun b hb => ⟨by have h2 := hb.2; omega, fun h => h.elim⟩))
  clear Dc5
  have Dc5 := dd
  clear dd
  have dd := Aside.mk (Rec.term.but Dc6.out hbt (fun b hb => ⟨by have h2 := hb.2; omega, fun h => h.elim⟩))
  clear Dc6
  have Dc6 := dd
  clear dd
  clear hbt hst hb
  have l2 : w.heap.size < w14.heap.size := K2.out.lt
  have y2_0 : w14.cell? ⟨w.heap.size, 0, none⟩ = some (.int .i64 xaT0) := K2.out.cell 0
  have y2_1 : w14.cell? ⟨w.heap.size, 1, none⟩ = some (.slice xaT1a xaT1b xaT1c) := K2.out.cell 1
  have l3 : w.heap.size + 1 < w14.heap.size := K3.out.lt
  have y3_0 : w14.cell? ⟨w.heap.size + 1, 0, none⟩ = some (.int .i64 xaRow0) := K3.out.cell 0
  have y3_1 : w14.cell? ⟨w.heap.size + 1, 1, none⟩ = some (.int .i64 xaRow1) := K3.out.cell 1
  have y3_2 : w14.cell? ⟨w.heap.size + 1, 2, none⟩ = some (.string xaRow2) := K3.out.cell 2
  have y3_3 : w14.cell? ⟨w.heap.size + 1, 3, none⟩ = some (.slice xaRow3a xaRow3b xaRow3c) := K3.out.cell 3
  have l6 : gr1d0 < w14.heap.size := K6.out.lt
  have y6_0 : w14.cell? ⟨gr1d0, 0, none⟩ = some (.int .i64 r1d0_0) := K6.out.cell 0
  have y6_1 : w14.cell? ⟨gr1d0, 1, none⟩ = some (.slice r1d0_1a r1d0_1b r1d0_1c) := K6.out.cell 1
  have l8 : w4.heap.size < w14.heap.size := K8.out.lt
  have y8_0 : w14.cell? ⟨w4.heap.size, 0, none⟩ = some (.int .i64 c2_0) := K8.out.cell 0
  have y8_1 : w14.cell? ⟨w4.heap.size, 1, none⟩ = some (.slice c2_1a c2_1b c2_1c) := K8.out.cell 1
  have l9 : w5.heap.size < w14.heap.size := K9.out.lt
  have y9_0 : w14.cell? ⟨w5.heap.size, 0, none⟩ = some (.int .i64 c3_0) := K9.out.cell 0
  have y9_1 : w14.cell? ⟨w5.heap.size, 1, none⟩ = some (.int .i64 c3_1) := K9.out.cell 1
  have y9_2 : w14.cell? ⟨w5.heap.size, 2, none⟩ = some (.string c3_2) := K9.out.cell 2
  have y9_3 : w14.cell? ⟨w5.heap.size, 3, none⟩ = some (.slice c3_3a c3_3b c3_3c) := K9.out.cell 3
  have l10 : w6.heap.size < w14.heap.size := K10.out.lt
  have y10_0 : w14.cell? ⟨w6.heap.size, 0, none⟩ = some (.int .i64 r4d0_0) := K10.out.cell 0
  have y10_1 : w14.cell? ⟨w6.heap.size, 1, none⟩ = some (.slice r4d0_1a r4d0_1b r4d0_1c) := K10.out.cell 1
  go_wp2_with fail
  refine (markTableV x0 [.int .i64 r4d0_0, .slice r4d0_1a r4d0_1b r4d0_1c] _ (Span (w5.heap.size + 1) (w6.heap.size)) (1) Dr4d0.out (fun b hb => by have h2 := hb.2; first | omega | (simp; omega)) (by omega) (by have := HWT0.out; omega)).mono ?_
  rintro e w15 ⟨k3, z3, rfl, hh, hr, hb, hlek3, hlfk3⟩
  have hlgk3 : k3 ≤ 1 + 8589934592 := by have := HWT0.out; omega
  clear hlfk3
  have HHk3 := Aside.mk hh
  clear hh
  clear Dr4d0
  have Dr4d0 := Aside.mk hr
  clear hr
  clear l2 y2_0 y2_1
  clear l3 y3_0 y3_1 y3_2 y3_3
  clear l6 y6_0 y6_1
  clear l8 y8_0 y8_1
  clear l9 y9_0 y9_1 y9_2 y9_3
  clear l10 y10_0 y10_1
  have hbt : But (Span (w5.heap.size + 1) (w6.heap.size)) w14 w15 := (But.below (show Below w14.heap.size w14 _ by go_grown)).trans hb
  have gw15 : w14.heap.size ≤ w15.heap.size := hbt.size
  have kk := Blk.but K2.out hbt (fun h => by have h1 := h.1; have h2 := h.2; omega)
  clear K2
  have K2 := Aside.mk kk
  clear kk
  have kk := Blk.but K3.out hbt (fun h => by have h1 := h.1; have h2 := h.2; omega)
  clear K3
  have K3 := Aside.mk kk
  clear kk
  have kk := Blk.but K6.out hbt (fun h => by have h1 := h.1; have h2 := h.2; omega)
  clear K6
  have K6 := Aside.mk kk
  clear kk
  have kk := Blk.but K8.out hbt (fun h => by have h1 := h.1; have h2 := h.2; omega)
  clear K8
  have K8 := Aside.mk kk
  clear kk
  have kk := Blk.but K9.out hbt (fun h => by have h1 := h.1; have h2 := h.2; omega)
  clear K9
  have K9 := Aside.mk kk
  clear kk
  have kk := Blk.but K10.out hbt (fun h => by have h1 := h.1; have h2 := h.2; omega)
  clear K10
  have K10 := Aside.mk kk
  clear kk
  have bel2 := Aside.mk (But.out BEL.out hbt (fun k hk => by have h1 := hk.1; have h2 := BEL.out.size; omega))
  clear BEL
  have BEL := bel2
  clear bel2
  have dd := Aside.mk (RTable.but DaT.out hbt (fun b hb => ⟨by have h2 := hb.2; omega, fun h => by have h1 := h.1; have h2 := h.2; have h3 := hb.1; have h4 := hb.2; omega⟩))
  clear DaT
  have DaT := dd
  clear dd
  have dd := Aside.mk (Rec.term.but DaRow.out hbt (fun b hb => ⟨by have h2 := hb.2; omega, fun h => by have h1 := h.1; have h2 := h.2; have h3 := hb.1; have h4 := hb.2; omega⟩))
  clear DaRow
  have DaRow := dd
  clear dd
  have dd := Aside.mk (RTable.but Dr1d0.out hbt (fun b hb => ⟨by have h2 := hb.2; omega, fun h => by have h1 := h.1; have h2 := h.2; have h3 := hb.1; have h4 := hb.2; omega⟩))
  clear Dr1d0
  have Dr1d0 := dd
  clear dd
  have dd := Aside.mk (RTable.but Dc2.out hbt (fun b hb => ⟨by have h2 := hb.2; omega, fun h => by have h1 := h.1; have h2 := h.2; have h3 := hb.1; have h4 := hb.2; omega⟩))
  clear Dc2
  have Dc2 := dd
  clear dd
  have dd := Aside.mk (Rec.term.but Dc3.out hbt (fun b hb => ⟨by have h2 := hb.2; omega, fun h => by have h1 := h.1; have h2 := h.2; have h3 := hb.1; have h4 := hb.2; omega⟩))
  clear Dc3
  have Dc3 := dd
  clear dd
  have dd := Aside.mk (RTable.but Dc5.out hbt (fun b hb => ⟨by have h2 := hb.2; omega, fun h => by have h1 := h.1; have h2 := h.2; have h3 := hb.1; have h4 := hb.2; omega⟩))
  clear Dc5
  have Dc5 := dd
  clear dd
  have dd := Aside.mk (Rec.term.but Dc6.out hbt (fun b hb => ⟨by have h2 := hb.2; omega, fun h => by have h1 := h.1; have h2 := h.2; have h3 := hb.1; have h4 := hb.2; omega⟩))
  clear Dc6
  have Dc6 := dd
  clear dd
  clear hbt hb
  have l2 : w.heap.size < w15.heap.size := K2.out.lt
  have y2_0 : w15.cell? ⟨w.heap.size, 0, none⟩ = some (.int .i64 xaT0) := K2.out.cell 0
  have y2_1 : w15.cell? ⟨w.heap.size, 1, none⟩ = some (.slice xaT1a xaT1b xaT1c) := K2.out.cell 1
  have l3 : w.heap.size + 1 < w15.heap.size := K3.out.lt
  have y3_0 : w15.cell? ⟨w.heap.size + 1, 0, none⟩ = some (.int .i64 xaRow0) := K3.out.cell 0
  have y3_1 : w15.cell? ⟨w.heap.size + 1, 1, none⟩ = some (.int .i64 xaRow1) := K3.out.cell 1
  have y3_2 : w15.cell? ⟨w.heap.size + 1, 2, none⟩ = some (.string xaRow2) := K3.out.cell 2
  have y3_3 : w15.cell? ⟨w.heap.size + 1, 3, none⟩ = some (.slice xaRow3a xaRow3b xaRow3c) := K3.out.cell 3
  have l6 : gr1d0 < w15.heap.size := K6.out.lt
  have y6_0 : w15.cell? ⟨gr1d0, 0, none⟩ = some (.int .i64 r1d0_0) := K6.out.cell 0
  have y6_1 : w15.cell? ⟨gr1d0, 1, none⟩ = some (.slice r1d0_1a r1d0_1b r1d0_1c) := K6.out.cell 1
  have l8 : w4.heap.size < w15.heap.size := K8.out.lt
  have y8_0 : w15.cell? ⟨w4.heap.size, 0, none⟩ = some (.int .i64 c2_0) := K8.out.cell 0
  have y8_1 : w15.cell? ⟨w4.heap.size, 1, none⟩ = some (.slice c2_1a c2_1b c2_1c) := K8.out.cell 1
  have l9 : w5.heap.size < w15.heap.size := K9.out.lt
  have y9_0 : w15.cell? ⟨w5.heap.size, 0, none⟩ = some (.int .i64 c3_0) := K9.out.cell 0
  have y9_1 : w15.cell? ⟨w5.heap.size, 1, none⟩ = some (.int .i64 c3_1) := K9.out.cell 1
  have y9_2 : w15.cell? ⟨w5.heap.size, 2, none⟩ = some (.string c3_2) := K9.out.cell 2
  have y9_3 : w15.cell? ⟨w5.heap.size, 3, none⟩ = some (.slice c3_3a c3_3b c3_3c) := K9.out.cell 3
  have l10 : w6.heap.size < w15.heap.size := K10.out.lt
  have y10_0 : w15.cell? ⟨w6.heap.size, 0, none⟩ = some (.int .i64 r4d0_0) := K10.out.cell 0
  have y10_1 : w15.cell? ⟨w6.heap.size, 1, none⟩ = some (.slice r4d0_1a r4d0_1b r4d0_1c) := K10.out.cell 1
  go_wp2_with fail
  refine (heldTableV z3 [.int .i64 r4d0_0, .slice r4d0_1a r4d0_1b r4d0_1c] _ (1) k3 (RTable.made Dr4d0.out (by omega) (by first | exact Below.refl _ _ | go_grown)) HHk3.out (by omega) (by omega)).mono ?_
  rintro e w16 ⟨rfl, hb⟩
  clear l2 y2_0 y2_1
  clear l3 y3_0 y3_1 y3_2 y3_3
  clear l6 y6_0 y6_1
  clear l8 y8_0 y8_1
  clear l9 y9_0 y9_1 y9_2 y9_3
  clear l10 y10_0 y10_1
  have hst : Below w15.heap.size w15 w16 := below_later (by go_grown) hb
  have hbt : But NoB w15 w16 := But.below hst
  have gw16 : w15.heap.size ≤ w16.heap.size := hbt.size
  have kk := (K2.out).below hst
  clear K2
  have K2 := Aside.mk kk
  clear kk
  have kk := (K3.out).below hst
  clear K3
  have K3 := Aside.mk kk
  clear kk
  have kk := (K6.out).below hst
  clear K6
  have K6 := Aside.mk kk
  clear kk
  have kk := (K8.out).below hst
  clear K8
  have K8 := Aside.mk kk
  clear kk
  have kk := (K9.out).below hst
  clear K9
  have K9 := Aside.mk kk
  clear kk
  have kk := (K10.out).below hst
  clear K10
  have K10 := Aside.mk kk
  clear kk
  have bel2 := Aside.mk (below_later BEL.out hst)
  clear BEL
  have BEL := bel2
  clear bel2
  have dd := Aside.mk (RTable.but DaT.out hbt (fun b hb => ⟨by have h2 := hb.2; omega, fun h => h.elim⟩))
  clear DaT
  have DaT := dd
  clear dd
  have dd := Aside.mk (Rec.term.but DaRow.out hbt (fun b hb => ⟨by have h2 := hb.2; omega, fun h => h.elim⟩))
  clear DaRow
  have DaRow := dd
  clear dd
  have dd := Aside.mk (RTable.but Dr1d0.out hbt (fun b hb => ⟨by have h2 := hb.2; omega, fun h => h.elim⟩))
  clear Dr1d0
  have Dr1d0 := dd
  clear dd
  have dd := Aside.mk (RTable.but Dc2.out hbt (fun b hb => ⟨by have h2 := hb.2; omega, fun h => h.elim⟩))
  clear Dc2
  have Dc2 := dd
  clear dd
  have dd := Aside.mk (Rec.term.but Dc3.out hbt (fun b hb => ⟨by have h2 := hb.2; omega, fun h => h.elim⟩))
  clear Dc3
  have Dc3 := dd
  clear dd
  have dd := Aside.mk (RTable.but Dr4d0.out hbt (fun b hb => ⟨by have h2 := hb.2; omega, fun h => h.elim⟩))
  clear Dr4d0
  have Dr4d0 := dd
  clear dd
  have dd := Aside.mk (RTable.but Dc5.out hbt (fun b hb => ⟨by have h2 := hb.2; omega, fun h => h.elim⟩))
  clear Dc5
  have Dc5 := dd
  clear dd
  have dd := Aside.mk (Rec.term.but Dc6.out hbt (fun b hb => ⟨by have h2 := hb.2; omega, fun h => h.elim⟩))
  clear Dc6
  have Dc6 := dd
  clear dd
  clear hbt hst hb
  have l2 : w.heap.size < w16.heap.size := K2.out.lt
  have y2_0 : w16.cell? ⟨w.heap.size, 0, none⟩ = some (.int .i64 xaT0) := K2.out.cell 0
  have y2_1 : w16.cell? ⟨w.heap.size, 1, none⟩ = some (.slice xaT1a xaT1b xaT1c) := K2.out.cell 1
  have l3 : w.heap.size + 1 < w16.heap.size := K3.out.lt
  have y3_0 : w16.cell? ⟨w.heap.size + 1, 0, none⟩ = some (.int .i64 xaRow0) := K3.out.cell 0
  have y3_1 : w16.cell? ⟨w.heap.size + 1, 1, none⟩ = some (.int .i64 xaRow1) := K3.out.cell 1
  have y3_2 : w16.cell? ⟨w.heap.size + 1, 2, none⟩ = some (.string xaRow2) := K3.out.cell 2
  have y3_3 : w16.cell? ⟨w.heap.size + 1, 3, none⟩ = some (.slice xaRow3a xaRow3b xaRow3c) := K3.out.cell 3
  have l6 : gr1d0 < w16.heap.size := K6.out.lt
  have y6_0 : w16.cell? ⟨gr1d0, 0, none⟩ = some (.int .i64 r1d0_0) := K6.out.cell 0
  have y6_1 : w16.cell? ⟨gr1d0, 1, none⟩ = some (.slice r1d0_1a r1d0_1b r1d0_1c) := K6.out.cell 1
  have l8 : w4.heap.size < w16.heap.size := K8.out.lt
  have y8_0 : w16.cell? ⟨w4.heap.size, 0, none⟩ = some (.int .i64 c2_0) := K8.out.cell 0
  have y8_1 : w16.cell? ⟨w4.heap.size, 1, none⟩ = some (.slice c2_1a c2_1b c2_1c) := K8.out.cell 1
  have l9 : w5.heap.size < w16.heap.size := K9.out.lt
  have y9_0 : w16.cell? ⟨w5.heap.size, 0, none⟩ = some (.int .i64 c3_0) := K9.out.cell 0
  have y9_1 : w16.cell? ⟨w5.heap.size, 1, none⟩ = some (.int .i64 c3_1) := K9.out.cell 1
  have y9_2 : w16.cell? ⟨w5.heap.size, 2, none⟩ = some (.string c3_2) := K9.out.cell 2
  have y9_3 : w16.cell? ⟨w5.heap.size, 3, none⟩ = some (.slice c3_3a c3_3b c3_3c) := K9.out.cell 3
  have l10 : w6.heap.size < w16.heap.size := K10.out.lt
  have y10_0 : w16.cell? ⟨w6.heap.size, 0, none⟩ = some (.int .i64 r4d0_0) := K10.out.cell 0
  have y10_1 : w16.cell? ⟨w6.heap.size, 1, none⟩ = some (.slice r4d0_1a r4d0_1b r4d0_1c) := K10.out.cell 1
  go_wp2_with fail
  have HA : Aside (RTable.rd False w16 (Old w16) aT [.int .i64 xaT0, .slice xaT1a xaT1b xaT1c]) := ⟨(RTable.made DaT.out (by omega) (by first | exact Below.refl _ _ | go_grown))⟩
  have HB : Aside (Rec.term.rd False w16 (Old w16) aRow [.int .i64 xaRow0, .int .i64 xaRow1, .string xaRow2, .slice xaRow3a xaRow3b xaRow3c]) := ⟨(Rec.term.made DaRow.out (by omega) (by first | exact Below.refl _ _ | go_grown))⟩
  refine region_join (.yes 0 (.yes 2 (.fork 1 8 (.fork 3 8 (.fork 4 8 (.yes 5 (.yes 6 (.yes 7 (.eff 8 (.eff 9 (.yes 10 .nil)))))) (.eff 4 (.yes 5 (.yes 6 (.yes 7 (.eff 9 (.yes 10 .nil))))))) (.eff 3 (.eff 4 (.yes 5 (.yes 6 (.yes 7 (.eff 9 (.yes 10 .nil)))))))) (.eff 1 (.eff 3 (.eff 4 (.yes 5 (.yes 6 (.yes 7 (.eff 9 (.yes 10 .nil))))))))))) (fun w' => Below w16.heap.size w16 w') 119 rfl (by kernel_rfl) (by kernel_rfl) (Below.refl _ _).drew (fun us wz => ∃ (g : Nat) (v1 v2 : Value) (q0 : Int) (q1a : Option Addr) (q1b : Nat) (q1c : Nat), us = [(16, .int .i64 x1), (15, .pointer (some ⟨g, 0, none⟩)), (101, .int .i64 x1), (100, .agg #[.int .i64 q0, .slice q1a q1b q1c]), (94, .tuple #[.agg #[.int .i64 q0, .slice q1a q1b q1c], .int .i64 x1]), (99, .tuple #[.agg #[.int .i64 q0, .slice q1a q1b q1c], .int .i64 x1]), (98, v2), (96, v1), (97, .agg #[.int .i64 xaRow0, .int .i64 xaRow1, .string xaRow2, .slice xaRow3a xaRow3b xaRow3c]), (95, .agg #[.int .i64 xaT0, .slice xaT1a xaT1b xaT1c])] ∧ Aside (RTable.rd False wz (Old wz) x0 [.int .i64 q0, .slice q1a q1b q1c]) ∧ Aside (Blk wz g 42 [.int .i64 q0, .slice q1a q1b q1c]) ∧ Aside (Below w16.heap.size w16 wz)) (fun ops fr HFR HSZ hl => ?_) (fun us wz hR => ?_)
  · have hl_0 := ops_start hl
    clear hl
    obtain ⟨H0, hl_1⟩ := ops_next 0 1 rfl hl_0
    clear hl_0
    obtain ⟨H1, hl_2⟩ := ops_next 1 2 rfl hl_1
    clear hl_1
    obtain ⟨H2, hl_3⟩ := ops_next 2 3 rfl hl_2
    clear hl_2
    obtain ⟨H3, hl_4⟩ := ops_next 3 4 rfl hl_3
    clear hl_3
    obtain ⟨H4, hl_5⟩ := ops_next 4 5 rfl hl_4
    clear hl_4
    obtain ⟨H5, hl_6⟩ := ops_next 5 6 rfl hl_5
    clear hl_5
    obtain ⟨H6, hl_7⟩ := ops_next 6 7 rfl hl_6
    clear hl_6
    obtain ⟨H7, hl_8⟩ := ops_next 7 8 rfl hl_7
    clear hl_7
    obtain ⟨H8, hl_9⟩ := ops_next 8 9 rfl hl_8
    clear hl_8
    obtain ⟨H9, hl_10⟩ := ops_next 9 10 rfl hl_9
    clear hl_9
    obtain ⟨H10, hl_11⟩ := ops_next 10 11 rfl hl_10
    clear hl_10
    clear hl_11
    have x_2 : ext fr 2 = _ := congrArg (fun a => Act.eval a (.tmp 2)) HFR.out
    conv at x_2 => rhs; simp only [Act.eval, Array.getD_eq_getD_getElem?, List.getElem?_toArray, List.getElem?_cons_succ, List.getElem?_cons_zero, Option.getD_some]
    have x_3 : ext fr 3 = _ := congrArg (fun a => Act.eval a (.tmp 3)) HFR.out
    conv at x_3 => rhs; simp only [Act.eval, Array.getD_eq_getD_getElem?, List.getElem?_toArray, List.getElem?_cons_succ, List.getElem?_cons_zero, Option.getD_some]
    refine tenv_yes HSZ H0.out ?_ (fun w' hS => ?_) ?_
    rotate_left
    (have h0 := (hS.cell (p := ⟨w.heap.size, 0, none⟩) l2).trans y2_0
     have h1 := (hS.cell (p := ⟨w.heap.size, 1, none⟩) l2).trans y2_1
     go_simp
     rfl)
    refine tenv_yes HSZ H2.out ?_ (fun w' hS => ?_) ?_
    rotate_left
    (have h0 := (hS.cell (p := ⟨w.heap.size + 1, 0, none⟩) l3).trans y3_0
     have h1 := (hS.cell (p := ⟨w.heap.size + 1, 1, none⟩) l3).trans y3_1
     have h2 := (hS.cell (p := ⟨w.heap.size + 1, 2, none⟩) l3).trans y3_2
     have h3 := (hS.cell (p := ⟨w.heap.size + 1, 3, none⟩) l3).trans y3_3
     go_simp
     rfl)
    have HBc : Aside (Below w16.heap.size w16 w16.drew) := ⟨(Below.refl _ _).drew⟩
    refine And.intro ?_ ?_
    · refine top_call HSZ H1.out ?_ ?_ ?_ ?_
      rotate_left 2
      (go_simp
       first | rfl | (constructor <;> rfl))
      refine (toTable aT [.int .i64 xaT0, .slice xaT1a xaT1b xaT1c] _ (RTable.old HA.out HBc.out) WaT.out).mono ?_
      rintro e wd1 ⟨cs1, rfl, hr, hb⟩
      have hx := Aside.mk (below_later HBc.out hb)
      clear HBc
      have HBc := hx
      clear hx
      have H1 : Aside (RTable.rd False wd1 (Old wd1) aT cs1) := ⟨RTable.weak (RTable.mono hr (fun b h => h.2))⟩
      refine ⟨_, rfl, HBc.out, ?_⟩
      clear hr hb
      refine And.intro ?_ ?_
      · refine top_call HSZ H3.out ?_ ?_ ?_ ?_
        rotate_left 2
        (go_simp
         first | rfl | (constructor <;> rfl))
        refine (toTerm aRow [.int .i64 xaRow0, .int .i64 xaRow1, .string xaRow2, .slice xaRow3a xaRow3b xaRow3c] _ (Rec.term.old HB.out HBc.out) WaRow.out).mono ?_
        rintro e wd2 ⟨cs2, rfl, hr, hb⟩
        have hx := Aside.mk (RTable.old H1.out hb)
        clear H1
        have H1 := hx
        clear hx
        have hx := Aside.mk (below_later HBc.out hb)
        clear HBc
        have HBc := hx
        clear hx
        have H2 : Aside (Rec.term.rd False wd2 (Old wd2) aRow cs2) := ⟨Rec.term.weak (Rec.term.mono hr (fun b h => h.2))⟩
        refine ⟨_, rfl, HBc.out, ?_⟩
        clear hr hb
        refine And.intro ?_ ?_
        · refine top_call HSZ H4.out ?_ ?_ ?_ ?_
          rotate_left 2
          (go_simp
           first | rfl | (constructor <;> rfl))
          have hc := iTabPut aT aRow cs1 cs2 wd2 H1.out H2.out WaT.out WaRow.out
          rw [← HRES.out] at hc
          refine hc.mono ?_
          clear hc
          rintro e wd3 ⟨rs, rfl, hr, hb⟩
          have hr2 : RTable.rd True wd3 (Span wd2.heap.size wd3.heap.size) x0 rs := hr
          obtain ⟨q0, q1a, q1b, q1c, rfl⟩ := shapeTable hr2
          have hx := Aside.mk (RTable.old H1.out hb)
          clear H1
          have H1 := hx
          clear hx
          have hx := Aside.mk (Rec.term.old H2.out hb)
          clear H2
          have H2 := hx
          clear hx
          have hx := Aside.mk (below_later HBc.out hb)
          clear HBc
          have HBc := hx
          clear hx
          have HR := Aside.mk hr2
          have HRL : Aside (∀ b, Span wd2.heap.size wd3.heap.size b → b < wd3.heap.size) := ⟨fun b hx => hx.2⟩
          refine ⟨_, rfl, HBc.out, ?_⟩
          clear hr hr2 hb
          refine tenv_yes HSZ H5.out ?_ (fun w' hS => ?_) ?_
          rotate_left
          (go_simp
           rfl)
          refine tenv_yes HSZ H6.out ?_ (fun w' hS => ?_) ?_
          rotate_left
          (go_simp
           rfl)
          refine tenv_yes HSZ H7.out ?_ (fun w' hS => ?_) ?_
          rotate_left
          (go_simp
           rfl)
          obtain ⟨g, hg⟩ : ∃ g, g = wd3.heap.size := ⟨_, rfl⟩
          obtain ⟨wd4, hwd⟩ : ∃ x, x = wd3.alloc (.cells #[.int .i64 0, .slice none 0 0] 42) := ⟨_, rfl⟩
          have HG : w16.heap.size ≤ g := by rw [hg]; exact HBc.out.size
          have hb : Below wd3.heap.size wd3 wd4 := by rw [hwd]; exact (Below.refl _ _).alloc (Nat.le_refl _) _
          have kb : Blk wd4 g 42 [.int .i64 0, .slice none 0 0] := by rw [hwd, hg]; exact Blk.new wd3 42 [.int .i64 0, .slice none 0 0]
          have HNG : Aside (∀ b, Span wd2.heap.size wd3.heap.size b → b ≠ g) := ⟨fun b hb he => by have h1 := hb.2; omega⟩
          have hx := Aside.mk (RTable.old H1.out hb)
          clear H1
          have H1 := hx
          clear hx
          have hx := Aside.mk (Rec.term.old H2.out hb)
          clear H2
          have H2 := hx
          clear hx
          have hx := Aside.mk (RTable.below HR.out HRL.out hb)
          clear HR
          have HR := hx
          clear hx
          have hxl : Aside (∀ b, Span wd2.heap.size wd3.heap.size b → b < _) := ⟨fun b hx => Nat.lt_of_lt_of_le (HRL.out b hx) hb.size⟩
          clear HRL
          have HRL := hxl
          clear hxl
          have hx := Aside.mk (below_later HBc.out hb)
          clear HBc
          have HBc := hx
          clear hx
          have KB := Aside.mk kb
          refine top_run HSZ H8.out (.pointer (some ⟨g, 0, none⟩)) wd4 ?_ ?_ ?_
          (rw [hwd, hg]; go_simp; try rfl)
          exact HBc.out
          clear hwd hb kb hg
          have c0 : wd4.cell? ⟨g, 0, none⟩ = some (.int .i64 0) := KB.out.cell 0
          have f0 := KB.out.free 0
          have c1 : wd4.cell? ⟨g, 1, none⟩ = some (.slice none 0 0) := KB.out.cell 1
          have f1 := KB.out.free 1
          obtain ⟨we, hwe⟩ : ∃ x, x = ((wd4).setCell ⟨g, 0, none⟩ (.int .i64 q0)).setCell ⟨g, 1, none⟩ (.slice q1a q1b q1c) := ⟨_, rfl⟩
          have hbe : Below w16.heap.size w16 we := by rw [hwe]; exact ((HBc.out).setCell HG _).setCell HG _
          refine top_store HSZ H9.out we ?_ ?_ ?_
          (rw [hwe]; go_simp; try rfl)
          exact hbe
          refine tenv_yes HSZ H10.out ?_ (fun w' hS => ?_) ?_
          rotate_left
          (go_simp
           rfl)
          refine tree_end ⟨rfl, [(16, .int .i64 x1), (15, .pointer (some ⟨g, 0, none⟩)), (101, .int .i64 x1), (100, .agg #[.int .i64 q0, .slice q1a q1b q1c]), (94, .tuple #[.agg #[.int .i64 q0, .slice q1a q1b q1c], .int .i64 x1]), (99, .tuple #[.agg #[.int .i64 q0, .slice q1a q1b q1c], .int .i64 x1]), (98, .agg cs2.toArray), (96, .agg cs1.toArray), (97, .agg #[.int .i64 xaRow0, .int .i64 xaRow1, .string xaRow2, .slice xaRow3a xaRow3b xaRow3c]), (95, .agg #[.int .i64 xaT0, .slice xaT1a xaT1b xaT1c])], ?_, g, .agg cs1.toArray, .agg cs2.toArray, q0, q1a, q1b, q1c, rfl, ⟨?_⟩, ⟨?_⟩, ⟨hbe⟩⟩
          · obtain rfl := HFR.out
            simp only [putAll, Act.put, List.setIfInBounds_toArray, List.set_cons_succ, List.set_cons_zero]
          · rw [hwe]
            exact RTable.weak (RTable.frame HR.out (fun b hb => by rw [heap_far (HNG.out b hb)]; rw [heap_far (HNG.out b hb)]) (fun b hb => by have h2 := HRL.out b hb; simpa [Old, World.setCell] using h2))
          · rw [hwe]; exact ((KB.out).set 0 _).set 1 _
        · obtain ⟨g, hg⟩ : ∃ g, g = wd2.heap.size := ⟨_, rfl⟩
          obtain ⟨wd3, hwd⟩ : ∃ x, x = wd2.alloc (.cells #[.int .i64 0, .slice none 0 0] 42) := ⟨_, rfl⟩
          have HG : w16.heap.size ≤ g := by rw [hg]; exact HBc.out.size
          have hb : Below wd2.heap.size wd2 wd3 := by rw [hwd]; exact (Below.refl _ _).alloc (Nat.le_refl _) _
          have kb : Blk wd3 g 42 [.int .i64 0, .slice none 0 0] := by rw [hwd, hg]; exact Blk.new wd2 42 [.int .i64 0, .slice none 0 0]
          have hx := Aside.mk (RTable.old H1.out hb)
          clear H1
          have H1 := hx
          clear hx
          have hx := Aside.mk (Rec.term.old H2.out hb)
          clear H2
          have H2 := hx
          clear hx
          have hx := Aside.mk (below_later HBc.out hb)
          clear HBc
          have HBc := hx
          clear hx
          have KB := Aside.mk kb
          refine top_run HSZ H8.out (.pointer (some ⟨g, 0, none⟩)) wd3 ?_ ?_ ?_
          (rw [hwd, hg]; go_simp; try rfl)
          exact HBc.out
          clear hwd hb kb hg
          refine top_call HSZ H4.out ?_ ?_ ?_ ?_
          rotate_left 2
          (go_simp
           first | rfl | (constructor <;> rfl))
          have hc := iTabPut aT aRow cs1 cs2 wd3 H1.out H2.out WaT.out WaRow.out
          rw [← HRES.out] at hc
          refine hc.mono ?_
          clear hc
          rintro e wd4 ⟨rs, rfl, hr, hb⟩
          have hr2 : RTable.rd True wd4 (Span wd3.heap.size wd4.heap.size) x0 rs := hr
          obtain ⟨q0, q1a, q1b, q1c, rfl⟩ := shapeTable hr2
          have HNG : Aside (∀ b, Span wd3.heap.size wd4.heap.size b → b ≠ g) := ⟨fun b hb he => by have h1 := hb.1; have h2 := KB.out.lt; omega⟩
          have hx := Aside.mk (RTable.old H1.out hb)
          clear H1
          have H1 := hx
          clear hx
          have hx := Aside.mk (Rec.term.old H2.out hb)
          clear H2
          have H2 := hx
          clear hx
          have hx := Aside.mk (KB.out.below hb)
          clear KB
          have KB := hx
          clear hx
          have hx := Aside.mk (below_later HBc.out hb)
          clear HBc
          have HBc := hx
          clear hx
          have HR := Aside.mk hr2
          have HRL : Aside (∀ b, Span wd3.heap.size wd4.heap.size b → b < wd4.heap.size) := ⟨fun b hx => hx.2⟩
          refine ⟨_, rfl, HBc.out, ?_⟩
          clear hr hr2 hb
          refine tenv_yes HSZ H5.out ?_ (fun w' hS => ?_) ?_
          rotate_left
          (go_simp
           rfl)
          refine tenv_yes HSZ H6.out ?_ (fun w' hS => ?_) ?_
          rotate_left
          (go_simp
           rfl)
          refine tenv_yes HSZ H7.out ?_ (fun w' hS => ?_) ?_
          rotate_left
          (go_simp
           rfl)
          have c0 : wd4.cell? ⟨g, 0, none⟩ = some (.int .i64 0) := KB.out.cell 0
          have f0 := KB.out.free 0
          have c1 : wd4.cell? ⟨g, 1, none⟩ = some (.slice none 0 0) := KB.out.cell 1
          have f1 := KB.out.free 1
          obtain ⟨we, hwe⟩ : ∃ x, x = ((wd4).setCell ⟨g, 0, none⟩ (.int .i64 q0)).setCell ⟨g, 1, none⟩ (.slice q1a q1b q1c) := ⟨_, rfl⟩
          have hbe : Below w16.heap.size w16 we := by rw [hwe]; exact ((HBc.out).setCell HG _).setCell HG _
          refine top_store HSZ H9.out we ?_ ?_ ?_
          (rw [hwe]; go_simp; try rfl)
          exact hbe
          refine tenv_yes HSZ H10.out ?_ (fun w' hS => ?_) ?_
          rotate_left
          (go_simp
           rfl)
          refine tree_end ⟨rfl, [(16, .int .i64 x1), (15, .pointer (some ⟨g, 0, none⟩)), (101, .int .i64 x1), (100, .agg #[.int .i64 q0, .slice q1a q1b q1c]), (94, .tuple #[.agg #[.int .i64 q0, .slice q1a q1b q1c], .int .i64 x1]), (99, .tuple #[.agg #[.int .i64 q0, .slice q1a q1b q1c], .int .i64 x1]), (98, .agg cs2.toArray), (96, .agg cs1.toArray), (97, .agg #[.int .i64 xaRow0, .int .i64 xaRow1, .string xaRow2, .slice xaRow3a xaRow3b xaRow3c]), (95, .agg #[.int .i64 xaT0, .slice xaT1a xaT1b xaT1c])], ?_, g, .agg cs1.toArray, .agg cs2.toArray, q0, q1a, q1b, q1c, rfl, ⟨?_⟩, ⟨?_⟩, ⟨hbe⟩⟩
          · obtain rfl := HFR.out
            simp only [putAll, Act.put, List.setIfInBounds_toArray, List.set_cons_succ, List.set_cons_zero]
          · rw [hwe]
            exact RTable.weak (RTable.frame HR.out (fun b hb => by rw [heap_far (HNG.out b hb)]; rw [heap_far (HNG.out b hb)]) (fun b hb => by have h2 := HRL.out b hb; simpa [Old, World.setCell] using h2))
          · rw [hwe]; exact ((KB.out).set 0 _).set 1 _
      · obtain ⟨g, hg⟩ : ∃ g, g = wd1.heap.size := ⟨_, rfl⟩
        obtain ⟨wd2, hwd⟩ : ∃ x, x = wd1.alloc (.cells #[.int .i64 0, .slice none 0 0] 42) := ⟨_, rfl⟩
        have HG : w16.heap.size ≤ g := by rw [hg]; exact HBc.out.size
        have hb : Below wd1.heap.size wd1 wd2 := by rw [hwd]; exact (Below.refl _ _).alloc (Nat.le_refl _) _
        have kb : Blk wd2 g 42 [.int .i64 0, .slice none 0 0] := by rw [hwd, hg]; exact Blk.new wd1 42 [.int .i64 0, .slice none 0 0]
        have hx := Aside.mk (RTable.old H1.out hb)
        clear H1
        have H1 := hx
        clear hx
        have hx := Aside.mk (below_later HBc.out hb)
        clear HBc
        have HBc := hx
        clear hx
        have KB := Aside.mk kb
        refine top_run HSZ H8.out (.pointer (some ⟨g, 0, none⟩)) wd2 ?_ ?_ ?_
        (rw [hwd, hg]; go_simp; try rfl)
        exact HBc.out
        clear hwd hb kb hg
        refine top_call HSZ H3.out ?_ ?_ ?_ ?_
        rotate_left 2
        (go_simp
         first | rfl | (constructor <;> rfl))
        refine (toTerm aRow [.int .i64 xaRow0, .int .i64 xaRow1, .string xaRow2, .slice xaRow3a xaRow3b xaRow3c] _ (Rec.term.old HB.out HBc.out) WaRow.out).mono ?_
        rintro e wd3 ⟨cs2, rfl, hr, hb⟩
        have hx := Aside.mk (RTable.old H1.out hb)
        clear H1
        have H1 := hx
        clear hx
        have hx := Aside.mk (KB.out.below hb)
        clear KB
        have KB := hx
        clear hx
        have hx := Aside.mk (below_later HBc.out hb)
        clear HBc
        have HBc := hx
        clear hx
        have H2 : Aside (Rec.term.rd False wd3 (Old wd3) aRow cs2) := ⟨Rec.term.weak (Rec.term.mono hr (fun b h => h.2))⟩
        refine ⟨_, rfl, HBc.out, ?_⟩
        clear hr hb
        refine top_call HSZ H4.out ?_ ?_ ?_ ?_
        rotate_left 2
        (go_simp
         first | rfl | (constructor <;> rfl))
        have hc := iTabPut aT aRow cs1 cs2 wd3 H1.out H2.out WaT.out WaRow.out
        rw [← HRES.out] at hc
        refine hc.mono ?_
        clear hc
        rintro e wd4 ⟨rs, rfl, hr, hb⟩
        have hr2 : RTable.rd True wd4 (Span wd3.heap.size wd4.heap.size) x0 rs := hr
        obtain ⟨q0, q1a, q1b, q1c, rfl⟩ := shapeTable hr2
        have HNG : Aside (∀ b, Span wd3.heap.size wd4.heap.size b → b ≠ g) := ⟨fun b hb he => by have h1 := hb.1; have h2 := KB.out.lt; omega⟩
        have hx := Aside.mk (RTable.old H1.out hb)
        clear H1
        have H1 := hx
        clear hx
        have hx := Aside.mk (Rec.term.old H2.out hb)
        clear H2
        have H2 := hx
        clear hx
        have hx := Aside.mk (KB.out.below hb)
        clear KB
        have KB := hx
        clear hx
        have hx := Aside.mk (below_later HBc.out hb)
        clear HBc
        have HBc := hx
        clear hx
        have HR := Aside.mk hr2
        have HRL : Aside (∀ b, Span wd3.heap.size wd4.heap.size b → b < wd4.heap.size) := ⟨fun b hx => hx.2⟩
        refine ⟨_, rfl, HBc.out, ?_⟩
        clear hr hr2 hb
        refine tenv_yes HSZ H5.out ?_ (fun w' hS => ?_) ?_
        rotate_left
        (go_simp
         rfl)
        refine tenv_yes HSZ H6.out ?_ (fun w' hS => ?_) ?_
        rotate_left
        (go_simp
         rfl)
        refine tenv_yes HSZ H7.out ?_ (fun w' hS => ?_) ?_
        rotate_left
        (go_simp
         rfl)
        have c0 : wd4.cell? ⟨g, 0, none⟩ = some (.int .i64 0) := KB.out.cell 0
        have f0 := KB.out.free 0
        have c1 : wd4.cell? ⟨g, 1, none⟩ = some (.slice none 0 0) := KB.out.cell 1
        have f1 := KB.out.free 1
        obtain ⟨we, hwe⟩ : ∃ x, x = ((wd4).setCell ⟨g, 0, none⟩ (.int .i64 q0)).setCell ⟨g, 1, none⟩ (.slice q1a q1b q1c) := ⟨_, rfl⟩
        have hbe : Below w16.heap.size w16 we := by rw [hwe]; exact ((HBc.out).setCell HG _).setCell HG _
        refine top_store HSZ H9.out we ?_ ?_ ?_
        (rw [hwe]; go_simp; try rfl)
        exact hbe
        refine tenv_yes HSZ H10.out ?_ (fun w' hS => ?_) ?_
        rotate_left
        (go_simp
         rfl)
        refine tree_end ⟨rfl, [(16, .int .i64 x1), (15, .pointer (some ⟨g, 0, none⟩)), (101, .int .i64 x1), (100, .agg #[.int .i64 q0, .slice q1a q1b q1c]), (94, .tuple #[.agg #[.int .i64 q0, .slice q1a q1b q1c], .int .i64 x1]), (99, .tuple #[.agg #[.int .i64 q0, .slice q1a q1b q1c], .int .i64 x1]), (98, .agg cs2.toArray), (96, .agg cs1.toArray), (97, .agg #[.int .i64 xaRow0, .int .i64 xaRow1, .string xaRow2, .slice xaRow3a xaRow3b xaRow3c]), (95, .agg #[.int .i64 xaT0, .slice xaT1a xaT1b xaT1c])], ?_, g, .agg cs1.toArray, .agg cs2.toArray, q0, q1a, q1b, q1c, rfl, ⟨?_⟩, ⟨?_⟩, ⟨hbe⟩⟩
        · obtain rfl := HFR.out
          simp only [putAll, Act.put, List.setIfInBounds_toArray, List.set_cons_succ, List.set_cons_zero]
        · rw [hwe]
          exact RTable.weak (RTable.frame HR.out (fun b hb => by rw [heap_far (HNG.out b hb)]; rw [heap_far (HNG.out b hb)]) (fun b hb => by have h2 := HRL.out b hb; simpa [Old, World.setCell] using h2))
        · rw [hwe]; exact ((KB.out).set 0 _).set 1 _
    · obtain ⟨g, hg⟩ : ∃ g, g = w16.heap.size := ⟨_, rfl⟩
      obtain ⟨wd1, hwd⟩ : ∃ x, x = w16.drew.alloc (.cells #[.int .i64 0, .slice none 0 0] 42) := ⟨_, rfl⟩
      have HG : w16.heap.size ≤ g := by rw [hg]; exact HBc.out.size
      have hb : Below w16.drew.heap.size w16.drew wd1 := by rw [hwd]; exact (Below.refl _ _).alloc (Nat.le_refl _) _
      have kb : Blk wd1 g 42 [.int .i64 0, .slice none 0 0] := by rw [hwd, hg]; exact Blk.new w16.drew 42 [.int .i64 0, .slice none 0 0]
      have hx := Aside.mk (below_later HBc.out hb)
      clear HBc
      have HBc := hx
      clear hx
      have KB := Aside.mk kb
      refine top_run HSZ H8.out (.pointer (some ⟨g, 0, none⟩)) wd1 ?_ ?_ ?_
      (rw [hwd, hg]; go_simp; try rfl)
      exact HBc.out
      clear hwd hb kb hg
      refine top_call HSZ H1.out ?_ ?_ ?_ ?_
      rotate_left 2
      (go_simp
       first | rfl | (constructor <;> rfl))
      refine (toTable aT [.int .i64 xaT0, .slice xaT1a xaT1b xaT1c] _ (RTable.old HA.out HBc.out) WaT.out).mono ?_
      rintro e wd2 ⟨cs1, rfl, hr, hb⟩
      have hx := Aside.mk (KB.out.below hb)
      clear KB
      have KB := hx
      clear hx
      have hx := Aside.mk (below_later HBc.out hb)
      clear HBc
      have HBc := hx
      clear hx
      have H1 : Aside (RTable.rd False wd2 (Old wd2) aT cs1) := ⟨RTable.weak (RTable.mono hr (fun b h => h.2))⟩
      refine ⟨_, rfl, HBc.out, ?_⟩
      clear hr hb
      refine top_call HSZ H3.out ?_ ?_ ?_ ?_
      rotate_left 2
      (go_simp
       first | rfl | (constructor <;> rfl))
      refine (toTerm aRow [.int .i64 xaRow0, .int .i64 xaRow1, .string xaRow2, .slice xaRow3a xaRow3b xaRow3c] _ (Rec.term.old HB.out HBc.out) WaRow.out).mono ?_
      rintro e wd3 ⟨cs2, rfl, hr, hb⟩
      have hx := Aside.mk (RTable.old H1.out hb)
      clear H1
      have H1 := hx
      clear hx
      have hx := Aside.mk (KB.out.below hb)
      clear KB
      have KB := hx
      clear hx
      have hx := Aside.mk (below_later HBc.out hb)
      clear HBc
      have HBc := hx
      clear hx
      have H2 : Aside (Rec.term.rd False wd3 (Old wd3) aRow cs2) := ⟨Rec.term.weak (Rec.term.mono hr (fun b h => h.2))⟩
      refine ⟨_, rfl, HBc.out, ?_⟩
      clear hr hb
      refine top_call HSZ H4.out ?_ ?_ ?_ ?_
      rotate_left 2
      (go_simp
       first | rfl | (constructor <;> rfl))
      have hc := iTabPut aT aRow cs1 cs2 wd3 H1.out H2.out WaT.out WaRow.out
      rw [← HRES.out] at hc
      refine hc.mono ?_
      clear hc
      rintro e wd4 ⟨rs, rfl, hr, hb⟩
      have hr2 : RTable.rd True wd4 (Span wd3.heap.size wd4.heap.size) x0 rs := hr
      obtain ⟨q0, q1a, q1b, q1c, rfl⟩ := shapeTable hr2
      have HNG : Aside (∀ b, Span wd3.heap.size wd4.heap.size b → b ≠ g) := ⟨fun b hb he => by have h1 := hb.1; have h2 := KB.out.lt; omega⟩
      have hx := Aside.mk (RTable.old H1.out hb)
      clear H1
      have H1 := hx
      clear hx
      have hx := Aside.mk (Rec.term.old H2.out hb)
      clear H2
      have H2 := hx
      clear hx
      have hx := Aside.mk (KB.out.below hb)
      clear KB
      have KB := hx
      clear hx
      have hx := Aside.mk (below_later HBc.out hb)
      clear HBc
      have HBc := hx
      clear hx
      have HR := Aside.mk hr2
      have HRL : Aside (∀ b, Span wd3.heap.size wd4.heap.size b → b < wd4.heap.size) := ⟨fun b hx => hx.2⟩
      refine ⟨_, rfl, HBc.out, ?_⟩
      clear hr hr2 hb
      refine tenv_yes HSZ H5.out ?_ (fun w' hS => ?_) ?_
      rotate_left
      (go_simp
       rfl)
      refine tenv_yes HSZ H6.out ?_ (fun w' hS => ?_) ?_
      rotate_left
      (go_simp
       rfl)
      refine tenv_yes HSZ H7.out ?_ (fun w' hS => ?_) ?_
      rotate_left
      (go_simp
       rfl)
      have c0 : wd4.cell? ⟨g, 0, none⟩ = some (.int .i64 0) := KB.out.cell 0
      have f0 := KB.out.free 0
      have c1 : wd4.cell? ⟨g, 1, none⟩ = some (.slice none 0 0) := KB.out.cell 1
      have f1 := KB.out.free 1
      obtain ⟨we, hwe⟩ : ∃ x, x = ((wd4).setCell ⟨g, 0, none⟩ (.int .i64 q0)).setCell ⟨g, 1, none⟩ (.slice q1a q1b q1c) := ⟨_, rfl⟩
      have hbe : Below w16.heap.size w16 we := by rw [hwe]; exact ((HBc.out).setCell HG _).setCell HG _
      refine top_store HSZ H9.out we ?_ ?_ ?_
      (rw [hwe]; go_simp; try rfl)
      exact hbe
      refine tenv_yes HSZ H10.out ?_ (fun w' hS => ?_) ?_
      rotate_left
      (go_simp
       rfl)
      refine tree_end ⟨rfl, [(16, .int .i64 x1), (15, .pointer (some ⟨g, 0, none⟩)), (101, .int .i64 x1), (100, .agg #[.int .i64 q0, .slice q1a q1b q1c]), (94, .tuple #[.agg #[.int .i64 q0, .slice q1a q1b q1c], .int .i64 x1]), (99, .tuple #[.agg #[.int .i64 q0, .slice q1a q1b q1c], .int .i64 x1]), (98, .agg cs2.toArray), (96, .agg cs1.toArray), (97, .agg #[.int .i64 xaRow0, .int .i64 xaRow1, .string xaRow2, .slice xaRow3a xaRow3b xaRow3c]), (95, .agg #[.int .i64 xaT0, .slice xaT1a xaT1b xaT1c])], ?_, g, .agg cs1.toArray, .agg cs2.toArray, q0, q1a, q1b, q1c, rfl, ⟨?_⟩, ⟨?_⟩, ⟨hbe⟩⟩
      · obtain rfl := HFR.out
        simp only [putAll, Act.put, List.setIfInBounds_toArray, List.set_cons_succ, List.set_cons_zero]
      · rw [hwe]
        exact RTable.weak (RTable.frame HR.out (fun b hb => by rw [heap_far (HNG.out b hb)]; rw [heap_far (HNG.out b hb)]) (fun b hb => by have h2 := HRL.out b hb; simpa [Old, World.setCell] using h2))
      · rw [hwe]; exact ((KB.out).set 0 _).set 1 _
  obtain ⟨gr7d0, v1, v2, r7d0_0, r7d0_1a, r7d0_1b, r7d0_1c, rfl, F1, F2, F3⟩ := hR
  obtain ⟨w17, hwn⟩ : ∃ x, x = wz := ⟨_, rfl⟩
  rw [← hwn] at F1 F2 F3 ⊢
  clear hwn wz
  simp only [putAll, Act.put, List.setIfInBounds_toArray, List.set_cons_succ, List.set_cons_zero]
  have Dr7d0 : Aside (RTable.rd False w17 (Span (0) w17.heap.size) x0 [.int .i64 r7d0_0, .slice r7d0_1a r7d0_1b r7d0_1c]) := ⟨RTable.mono F1.out (fun b h => ⟨Nat.zero_le _, h⟩)⟩
  have hb := F3.out
  clear HA HB F1 F3
  clear l2 y2_0 y2_1
  clear l3 y3_0 y3_1 y3_2 y3_3
  clear l6 y6_0 y6_1
  clear l8 y8_0 y8_1
  clear l9 y9_0 y9_1 y9_2 y9_3
  clear l10 y10_0 y10_1
  have hst : Below w16.heap.size w16 w17 := below_later (by go_grown) hb
  have hbt : But NoB w16 w17 := But.below hst
  have gw17 : w16.heap.size ≤ w17.heap.size := hbt.size
  have kk := (K2.out).below hst
  clear K2
  have K2 := Aside.mk kk
  clear kk
  have kk := (K3.out).below hst
  clear K3
  have K3 := Aside.mk kk
  clear kk
  have kk := (K6.out).below hst
  clear K6
  have K6 := Aside.mk kk
  clear kk
  have kk := (K8.out).below hst
  clear K8
  have K8 := Aside.mk kk
  clear kk
  have kk := (K9.out).below hst
  clear K9
  have K9 := Aside.mk kk
  clear kk
  have kk := (K10.out).below hst
  clear K10
  have K10 := Aside.mk kk
  clear kk
  have bel2 := Aside.mk (below_later BEL.out hst)
  clear BEL
  have BEL := bel2
  clear bel2
  have dd := Aside.mk (RTable.but DaT.out hbt (fun b hb => ⟨by have h2 := hb.2; omega, fun h => h.elim⟩))
  clear DaT
  have DaT := dd
  clear dd
  have dd := Aside.mk (Rec.term.but DaRow.out hbt (fun b hb => ⟨by have h2 := hb.2; omega, fun h => h.elim⟩))
  clear DaRow
  have DaRow := dd
  clear dd
  have dd := Aside.mk (RTable.but Dr1d0.out hbt (fun b hb => ⟨by have h2 := hb.2; omega, fun h => h.elim⟩))
  clear Dr1d0
  have Dr1d0 := dd
  clear dd
  have dd := Aside.mk (RTable.but Dc2.out hbt (fun b hb => ⟨by have h2 := hb.2; omega, fun h => h.elim⟩))
  clear Dc2
  have Dc2 := dd
  clear dd
  have dd := Aside.mk (Rec.term.but Dc3.out hbt (fun b hb => ⟨by have h2 := hb.2; omega, fun h => h.elim⟩))
  clear Dc3
  have Dc3 := dd
  clear dd
  have dd := Aside.mk (RTable.but Dr4d0.out hbt (fun b hb => ⟨by have h2 := hb.2; omega, fun h => h.elim⟩))
  clear Dr4d0
  have Dr4d0 := dd
  clear dd
  have dd := Aside.mk (RTable.but Dc5.out hbt (fun b hb => ⟨by have h2 := hb.2; omega, fun h => h.elim⟩))
  clear Dc5
  have Dc5 := dd
  clear dd
  have dd := Aside.mk (Rec.term.but Dc6.out hbt (fun b hb => ⟨by have h2 := hb.2; omega, fun h => h.elim⟩))
  clear Dc6
  have Dc6 := dd
  clear dd
  clear hbt hst hb
  have K15 := F2
  clear F2
  have m15 : gr7d0 < w17.heap.size := K15.out.lt
  have l2 : w.heap.size < w17.heap.size := K2.out.lt
  have y2_0 : w17.cell? ⟨w.heap.size, 0, none⟩ = some (.int .i64 xaT0) := K2.out.cell 0
  have y2_1 : w17.cell? ⟨w.heap.size, 1, none⟩ = some (.slice xaT1a xaT1b xaT1c) := K2.out.cell 1
  have l3 : w.heap.size + 1 < w17.heap.size := K3.out.lt
  have y3_0 : w17.cell? ⟨w.heap.size + 1, 0, none⟩ = some (.int .i64 xaRow0) := K3.out.cell 0
  have y3_1 : w17.cell? ⟨w.heap.size + 1, 1, none⟩ = some (.int .i64 xaRow1) := K3.out.cell 1
  have y3_2 : w17.cell? ⟨w.heap.size + 1, 2, none⟩ = some (.string xaRow2) := K3.out.cell 2
  have y3_3 : w17.cell? ⟨w.heap.size + 1, 3, none⟩ = some (.slice xaRow3a xaRow3b xaRow3c) := K3.out.cell 3
  have l6 : gr1d0 < w17.heap.size := K6.out.lt
  have y6_0 : w17.cell? ⟨gr1d0, 0, none⟩ = some (.int .i64 r1d0_0) := K6.out.cell 0
  have y6_1 : w17.cell? ⟨gr1d0, 1, none⟩ = some (.slice r1d0_1a r1d0_1b r1d0_1c) := K6.out.cell 1
  have l8 : w4.heap.size < w17.heap.size := K8.out.lt
  have y8_0 : w17.cell? ⟨w4.heap.size, 0, none⟩ = some (.int .i64 c2_0) := K8.out.cell 0
  have y8_1 : w17.cell? ⟨w4.heap.size, 1, none⟩ = some (.slice c2_1a c2_1b c2_1c) := K8.out.cell 1
  have l9 : w5.heap.size < w17.heap.size := K9.out.lt
  have y9_0 : w17.cell? ⟨w5.heap.size, 0, none⟩ = some (.int .i64 c3_0) := K9.out.cell 0
  have y9_1 : w17.cell? ⟨w5.heap.size, 1, none⟩ = some (.int .i64 c3_1) := K9.out.cell 1
  have y9_2 : w17.cell? ⟨w5.heap.size, 2, none⟩ = some (.string c3_2) := K9.out.cell 2
  have y9_3 : w17.cell? ⟨w5.heap.size, 3, none⟩ = some (.slice c3_3a c3_3b c3_3c) := K9.out.cell 3
  have l10 : w6.heap.size < w17.heap.size := K10.out.lt
  have y10_0 : w17.cell? ⟨w6.heap.size, 0, none⟩ = some (.int .i64 r4d0_0) := K10.out.cell 0
  have y10_1 : w17.cell? ⟨w6.heap.size, 1, none⟩ = some (.slice r4d0_1a r4d0_1b r4d0_1c) := K10.out.cell 1
  have l15 : gr7d0 < w17.heap.size := K15.out.lt
  have y15_0 : w17.cell? ⟨gr7d0, 0, none⟩ = some (.int .i64 r7d0_0) := K15.out.cell 0
  have y15_1 : w17.cell? ⟨gr7d0, 1, none⟩ = some (.slice r7d0_1a r7d0_1b r7d0_1c) := K15.out.cell 1
  go_wp2_with fail
  refine (eqTable x0 [.int .i64 r7d0_0, .slice r7d0_1a r7d0_1b r7d0_1c] [.int .i64 r1d0_0, .slice r1d0_1a r1d0_1b r1d0_1c] _ (RTable.made Dr7d0.out (by omega) (by first | exact Below.refl _ _ | go_grown)) (RTable.made Dr1d0.out (by omega) (by first | exact Below.refl _ _ | go_grown)) HOK0.out).mono ?_
  rintro e w18 ⟨rfl, hb⟩
  clear l2 y2_0 y2_1
  clear l3 y3_0 y3_1 y3_2 y3_3
  clear l6 y6_0 y6_1
  clear l8 y8_0 y8_1
  clear l9 y9_0 y9_1 y9_2 y9_3
  clear l10 y10_0 y10_1
  clear l15 y15_0 y15_1
  have hst : Below w17.heap.size w17 w18 := below_later (by go_grown) hb
  have hbt : But NoB w17 w18 := But.below hst
  have gw18 : w17.heap.size ≤ w18.heap.size := hbt.size
  have kk := (K2.out).below hst
  clear K2
  have K2 := Aside.mk kk
  clear kk
  have kk := (K3.out).below hst
  clear K3
  have K3 := Aside.mk kk
  clear kk
  have kk := (K6.out).below hst
  clear K6
  have K6 := Aside.mk kk
  clear kk
  have kk := (K8.out).below hst
  clear K8
  have K8 := Aside.mk kk
  clear kk
  have kk := (K9.out).below hst
  clear K9
  have K9 := Aside.mk kk
  clear kk
  have kk := (K10.out).below hst
  clear K10
  have K10 := Aside.mk kk
  clear kk
  have kk := (K15.out).below hst
  clear K15
  have K15 := Aside.mk kk
  clear kk
  have bel2 := Aside.mk (below_later BEL.out hst)
  clear BEL
  have BEL := bel2
  clear bel2
  have dd := Aside.mk (RTable.but DaT.out hbt (fun b hb => ⟨by have h2 := hb.2; omega, fun h => h.elim⟩))
  clear DaT
  have DaT := dd
  clear dd
  have dd := Aside.mk (Rec.term.but DaRow.out hbt (fun b hb => ⟨by have h2 := hb.2; omega, fun h => h.elim⟩))
  clear DaRow
  have DaRow := dd
  clear dd
  have dd := Aside.mk (RTable.but Dr1d0.out hbt (fun b hb => ⟨by have h2 := hb.2; omega, fun h => h.elim⟩))
  clear Dr1d0
  have Dr1d0 := dd
  clear dd
  have dd := Aside.mk (RTable.but Dc2.out hbt (fun b hb => ⟨by have h2 := hb.2; omega, fun h => h.elim⟩))
  clear Dc2
  have Dc2 := dd
  clear dd
  have dd := Aside.mk (Rec.term.but Dc3.out hbt (fun b hb => ⟨by have h2 := hb.2; omega, fun h => h.elim⟩))
  clear Dc3
  have Dc3 := dd
  clear dd
  have dd := Aside.mk (RTable.but Dr4d0.out hbt (fun b hb => ⟨by have h2 := hb.2; omega, fun h => h.elim⟩))
  clear Dr4d0
  have Dr4d0 := dd
  clear dd
  have dd := Aside.mk (RTable.but Dc5.out hbt (fun b hb => ⟨by have h2 := hb.2; omega, fun h => h.elim⟩))
  clear Dc5
  have Dc5 := dd
  clear dd
  have dd := Aside.mk (Rec.term.but Dc6.out hbt (fun b hb => ⟨by have h2 := hb.2; omega, fun h => h.elim⟩))
  clear Dc6
  have Dc6 := dd
  clear dd
  have dd := Aside.mk (RTable.but Dr7d0.out hbt (fun b hb => ⟨by have h2 := hb.2; omega, fun h => h.elim⟩))
  clear Dr7d0
  have Dr7d0 := dd
  clear dd
  clear hbt hst hb
  have l2 : w.heap.size < w18.heap.size := K2.out.lt
  have y2_0 : w18.cell? ⟨w.heap.size, 0, none⟩ = some (.int .i64 xaT0) := K2.out.cell 0
  have y2_1 : w18.cell? ⟨w.heap.size, 1, none⟩ = some (.slice xaT1a xaT1b xaT1c) := K2.out.cell 1
  have l3 : w.heap.size + 1 < w18.heap.size := K3.out.lt
  have y3_0 : w18.cell? ⟨w.heap.size + 1, 0, none⟩ = some (.int .i64 xaRow0) := K3.out.cell 0
  have y3_1 : w18.cell? ⟨w.heap.size + 1, 1, none⟩ = some (.int .i64 xaRow1) := K3.out.cell 1
  have y3_2 : w18.cell? ⟨w.heap.size + 1, 2, none⟩ = some (.string xaRow2) := K3.out.cell 2
  have y3_3 : w18.cell? ⟨w.heap.size + 1, 3, none⟩ = some (.slice xaRow3a xaRow3b xaRow3c) := K3.out.cell 3
  have l6 : gr1d0 < w18.heap.size := K6.out.lt
  have y6_0 : w18.cell? ⟨gr1d0, 0, none⟩ = some (.int .i64 r1d0_0) := K6.out.cell 0
  have y6_1 : w18.cell? ⟨gr1d0, 1, none⟩ = some (.slice r1d0_1a r1d0_1b r1d0_1c) := K6.out.cell 1
  have l8 : w4.heap.size < w18.heap.size := K8.out.lt
  have y8_0 : w18.cell? ⟨w4.heap.size, 0, none⟩ = some (.int .i64 c2_0) := K8.out.cell 0
  have y8_1 : w18.cell? ⟨w4.heap.size, 1, none⟩ = some (.slice c2_1a c2_1b c2_1c) := K8.out.cell 1
  have l9 : w5.heap.size < w18.heap.size := K9.out.lt
  have y9_0 : w18.cell? ⟨w5.heap.size, 0, none⟩ = some (.int .i64 c3_0) := K9.out.cell 0
  have y9_1 : w18.cell? ⟨w5.heap.size, 1, none⟩ = some (.int .i64 c3_1) := K9.out.cell 1
  have y9_2 : w18.cell? ⟨w5.heap.size, 2, none⟩ = some (.string c3_2) := K9.out.cell 2
  have y9_3 : w18.cell? ⟨w5.heap.size, 3, none⟩ = some (.slice c3_3a c3_3b c3_3c) := K9.out.cell 3
  have l10 : w6.heap.size < w18.heap.size := K10.out.lt
  have y10_0 : w18.cell? ⟨w6.heap.size, 0, none⟩ = some (.int .i64 r4d0_0) := K10.out.cell 0
  have y10_1 : w18.cell? ⟨w6.heap.size, 1, none⟩ = some (.slice r4d0_1a r4d0_1b r4d0_1c) := K10.out.cell 1
  have l15 : gr7d0 < w18.heap.size := K15.out.lt
  have y15_0 : w18.cell? ⟨gr7d0, 0, none⟩ = some (.int .i64 r7d0_0) := K15.out.cell 0
  have y15_1 : w18.cell? ⟨gr7d0, 1, none⟩ = some (.slice r7d0_1a r7d0_1b r7d0_1c) := K15.out.cell 1
  go_wp2_with fail
  refine (heldTableV z3 [.int .i64 r4d0_0, .slice r4d0_1a r4d0_1b r4d0_1c] _ (1) k3 (RTable.made Dr4d0.out (by omega) (by first | exact Below.refl _ _ | go_grown)) HHk3.out (by omega) (by omega)).mono ?_
  rintro e w19 ⟨rfl, hb⟩
  clear l2 y2_0 y2_1
  clear l3 y3_0 y3_1 y3_2 y3_3
  clear l6 y6_0 y6_1
  clear l8 y8_0 y8_1
  clear l9 y9_0 y9_1 y9_2 y9_3
  clear l10 y10_0 y10_1
  clear l15 y15_0 y15_1
  have hst : Below w18.heap.size w18 w19 := below_later (by go_grown) hb
  have hbt : But NoB w18 w19 := But.below hst
  have gw19 : w18.heap.size ≤ w19.heap.size := hbt.size
  have kk := (K2.out).below hst
  clear K2
  have K2 := Aside.mk kk
  clear kk
  have kk := (K3.out).below hst
  clear K3
  have K3 := Aside.mk kk
  clear kk
  have kk := (K6.out).below hst
  clear K6
  have K6 := Aside.mk kk
  clear kk
  have kk := (K8.out).below hst
  clear K8
  have K8 := Aside.mk kk
  clear kk
  have kk := (K9.out).below hst
  clear K9
  have K9 := Aside.mk kk
  clear kk
  have kk := (K10.out).below hst
  clear K10
  have K10 := Aside.mk kk
  clear kk
  have kk := (K15.out).below hst
  clear K15
  have K15 := Aside.mk kk
  clear kk
  have bel2 := Aside.mk (below_later BEL.out hst)
  clear BEL
  have BEL := bel2
  clear bel2
  have dd := Aside.mk (RTable.but DaT.out hbt (fun b hb => ⟨by have h2 := hb.2; omega, fun h => h.elim⟩))
  clear DaT
  have DaT := dd
  clear dd
  have dd := Aside.mk (Rec.term.but DaRow.out hbt (fun b hb => ⟨by have h2 := hb.2; omega, fun h => h.elim⟩))
  clear DaRow
  have DaRow := dd
  clear dd
  have dd := Aside.mk (RTable.but Dr1d0.out hbt (fun b hb => ⟨by have h2 := hb.2; omega, fun h => h.elim⟩))
  clear Dr1d0
  have Dr1d0 := dd
  clear dd
  have dd := Aside.mk (RTable.but Dc2.out hbt (fun b hb => ⟨by have h2 := hb.2; omega, fun h => h.elim⟩))
  clear Dc2
  have Dc2 := dd
  clear dd
  have dd := Aside.mk (Rec.term.but Dc3.out hbt (fun b hb => ⟨by have h2 := hb.2; omega, fun h => h.elim⟩))
  clear Dc3
  have Dc3 := dd
  clear dd
  have dd := Aside.mk (RTable.but Dr4d0.out hbt (fun b hb => ⟨by have h2 := hb.2; omega, fun h => h.elim⟩))
  clear Dr4d0
  have Dr4d0 := dd
  clear dd
  have dd := Aside.mk (RTable.but Dc5.out hbt (fun b hb => ⟨by have h2 := hb.2; omega, fun h => h.elim⟩))
  clear Dc5
  have Dc5 := dd
  clear dd
  have dd := Aside.mk (Rec.term.but Dc6.out hbt (fun b hb => ⟨by have h2 := hb.2; omega, fun h => h.elim⟩))
  clear Dc6
  have Dc6 := dd
  clear dd
  have dd := Aside.mk (RTable.but Dr7d0.out hbt (fun b hb => ⟨by have h2 := hb.2; omega, fun h => h.elim⟩))
  clear Dr7d0
  have Dr7d0 := dd
  clear dd
  clear hbt hst hb
  have l2 : w.heap.size < w19.heap.size := K2.out.lt
  have y2_0 : w19.cell? ⟨w.heap.size, 0, none⟩ = some (.int .i64 xaT0) := K2.out.cell 0
  have y2_1 : w19.cell? ⟨w.heap.size, 1, none⟩ = some (.slice xaT1a xaT1b xaT1c) := K2.out.cell 1
  have l3 : w.heap.size + 1 < w19.heap.size := K3.out.lt
  have y3_0 : w19.cell? ⟨w.heap.size + 1, 0, none⟩ = some (.int .i64 xaRow0) := K3.out.cell 0
  have y3_1 : w19.cell? ⟨w.heap.size + 1, 1, none⟩ = some (.int .i64 xaRow1) := K3.out.cell 1
  have y3_2 : w19.cell? ⟨w.heap.size + 1, 2, none⟩ = some (.string xaRow2) := K3.out.cell 2
  have y3_3 : w19.cell? ⟨w.heap.size + 1, 3, none⟩ = some (.slice xaRow3a xaRow3b xaRow3c) := K3.out.cell 3
  have l6 : gr1d0 < w19.heap.size := K6.out.lt
  have y6_0 : w19.cell? ⟨gr1d0, 0, none⟩ = some (.int .i64 r1d0_0) := K6.out.cell 0
  have y6_1 : w19.cell? ⟨gr1d0, 1, none⟩ = some (.slice r1d0_1a r1d0_1b r1d0_1c) := K6.out.cell 1
  have l8 : w4.heap.size < w19.heap.size := K8.out.lt
  have y8_0 : w19.cell? ⟨w4.heap.size, 0, none⟩ = some (.int .i64 c2_0) := K8.out.cell 0
  have y8_1 : w19.cell? ⟨w4.heap.size, 1, none⟩ = some (.slice c2_1a c2_1b c2_1c) := K8.out.cell 1
  have l9 : w5.heap.size < w19.heap.size := K9.out.lt
  have y9_0 : w19.cell? ⟨w5.heap.size, 0, none⟩ = some (.int .i64 c3_0) := K9.out.cell 0
  have y9_1 : w19.cell? ⟨w5.heap.size, 1, none⟩ = some (.int .i64 c3_1) := K9.out.cell 1
  have y9_2 : w19.cell? ⟨w5.heap.size, 2, none⟩ = some (.string c3_2) := K9.out.cell 2
  have y9_3 : w19.cell? ⟨w5.heap.size, 3, none⟩ = some (.slice c3_3a c3_3b c3_3c) := K9.out.cell 3
  have l10 : w6.heap.size < w19.heap.size := K10.out.lt
  have y10_0 : w19.cell? ⟨w6.heap.size, 0, none⟩ = some (.int .i64 r4d0_0) := K10.out.cell 0
  have y10_1 : w19.cell? ⟨w6.heap.size, 1, none⟩ = some (.slice r4d0_1a r4d0_1b r4d0_1c) := K10.out.cell 1
  have l15 : gr7d0 < w19.heap.size := K15.out.lt
  have y15_0 : w19.cell? ⟨gr7d0, 0, none⟩ = some (.int .i64 r7d0_0) := K15.out.cell 0
  have y15_1 : w19.cell? ⟨gr7d0, 1, none⟩ = some (.slice r7d0_1a r7d0_1b r7d0_1c) := K15.out.cell 1
  go_wp2_with fail
  go_ret
  exact ⟨rfl, BEL.out⟩
end Go.Proofs.Ytdldgchkinflmaa.Fn
