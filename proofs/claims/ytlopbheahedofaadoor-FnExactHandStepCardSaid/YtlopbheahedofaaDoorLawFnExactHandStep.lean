/- Walk of the law FnExactHandStep. Conditions: those of each theorem. -/
import Derived.Test.YtlopbheahedofaaDoorHs18
import Derived.Test.YtlopbheahedofaaDoorMString
import Derived.Test.YtlopbheahedofaaDoorEnv
import Derived.Test.YtlopbheahedofaaDoorPlanU
set_option linter.unusedVariables false
namespace Go.Proofs.YtlopbheahedofaaDoor.Fn
open Go.RowKit Go.Proofs.YtlopbheahedofaaDoor.Lib Go.Proofs.YtlopbheahedofaaDoor.Plan
attribute [local go_sem] look_tmp look_const look_func look_global lookT_nil lookT_hit lookT_miss
set_option maxRecDepth 100000 in
set_option maxHeartbeats 8000000 in
theorem FnExactHandStep (aH : AHand) (csaH : List Value) (aData : ByteArray) (w : World) (haH : RHand.rd False w (Old w) aH csaH) (oaH : RHand.ok aH) (oaData : Rec.str.ok aData) (htab : Go.Lib.TabIs Tryd.prog w "internal/strconv.uint64pow10" .u64 Go.Lib.pow10Tab) :
    Calls Tryd.prog 4 #[.agg csaH.toArray, .string aData] w fun e w' => e = .returned (.bool true) ∧ Below w.heap.size w w' := by
  have HT := Aside.mk htab
  clear htab
  obtain ⟨xaH0, xaH1, xaH2, xaH3, xaH4, xaH5, xaH6, xaH7, rfl⟩ := shapeHand haH
  have DaH : Aside (RHand.rd False w (Span 0 w.heap.size) aH [.int .i64 xaH0, .string xaH1, .string xaH2, .int .i64 xaH3, .int .i64 xaH4, .string xaH5, .string xaH6, .int .i64 xaH7]) := ⟨RHand.mono haH (fun b h => ⟨Nat.zero_le _, h⟩)⟩
  have OaH := Aside.mk oaH
  obtain ⟨naH, taH⟩ : ∃ n, RHand.wt aH = n := ⟨_, rfl⟩
  have TaH := Aside.mk taH
  clear haH oaH taH
  have SaData : aData.size ≤ 9223372036854775807 := oaData
  clear oaData
  obtain ⟨⟨x0, x1, x2⟩, hRES⟩ : ∃ r, r = hstR aH aData := ⟨_, rfl⟩
  have HRES := Aside.mk hRES
  clear hRES
  show Calls Tryd.prog 4 #[.agg #[.int .i64 xaH0, .string xaH1, .string xaH2, .int .i64 xaH3, .int .i64 xaH4, .string xaH5, .string xaH6, .int .i64 xaH7], .string aData] w _
  have BEL : Aside (Below w.heap.size w w) := ⟨Below.refl _ _⟩
  go_enter Tryd.func4, Tryd.ntmps4
  by_cases lsaData : (aData.size : Int) ≤ 1048576
  rotate_left
  · have ltaData : 1048576 < (aData.size : Int) := by omega
    clear lsaData
    go_wp2_with fail
    go_ret
    exact ⟨rfl, by first | exact BEL.out | go_grown⟩
  go_wp2_with fail
  refine (szHand aH [.int .i64 xaH0, .string xaH1, .string xaH2, .int .i64 xaH3, .int .i64 xaH4, .string xaH5, .string xaH6, .int .i64 xaH7] _ (1048576) (RHand.made DaH.out (by omega) (by first | exact Below.refl _ _ | go_grown)) OaH.out (by omega) (by omega)).mono ?_
  rintro e w1 ⟨rfl, hb⟩
  have hst : Below w.heap.size w w1 := below_later (by go_grown) hb
  have hbt : But NoB w w1 := But.below hst
  have gw1 : w.heap.size ≤ w1.heap.size := hbt.size
  have K2 := Aside.mk ((Blk.made w 35 [.int .i64 xaH0, .string xaH1, .string xaH2, .int .i64 xaH3, .int .i64 xaH4, .string xaH5, .string xaH6, .int .i64 xaH7] (g := w.heap.size) (by simp)).below hb)
  have m2 : w.heap.size < w1.heap.size := K2.out.lt
  have bel2 := Aside.mk (below_later BEL.out hst)
  clear BEL
  have BEL := bel2
  clear bel2
  have dd := Aside.mk (RHand.but DaH.out hbt (fun b hb => ⟨by have h2 := hb.2; omega, fun h => h.elim⟩))
  clear DaH
  have DaH := dd
  clear dd
  clear hbt hst hb
  have l2 : w.heap.size < w1.heap.size := K2.out.lt
  have y2_0 : w1.cell? ⟨w.heap.size, 0, none⟩ = some (.int .i64 xaH0) := K2.out.cell 0
  have y2_1 : w1.cell? ⟨w.heap.size, 1, none⟩ = some (.string xaH1) := K2.out.cell 1
  have y2_2 : w1.cell? ⟨w.heap.size, 2, none⟩ = some (.string xaH2) := K2.out.cell 2
  have y2_3 : w1.cell? ⟨w.heap.size, 3, none⟩ = some (.int .i64 xaH3) := K2.out.cell 3
  have y2_4 : w1.cell? ⟨w.heap.size, 4, none⟩ = some (.int .i64 xaH4) := K2.out.cell 4
  have y2_5 : w1.cell? ⟨w.heap.size, 5, none⟩ = some (.string xaH5) := K2.out.cell 5
  have y2_6 : w1.cell? ⟨w.heap.size, 6, none⟩ = some (.string xaH6) := K2.out.cell 6
  have y2_7 : w1.cell? ⟨w.heap.size, 7, none⟩ = some (.int .i64 xaH7) := K2.out.cell 7
  rw [TaH.out]
  by_cases laH : (naH : Int) ≤ 1048576
  rotate_left
  · rw [szR_no laH]
    go_wp2
    go_ret
    exact ⟨rfl, BEL.out⟩
  rw [szR_yes laH]
  have WaH : Aside (RHand.wt aH ≤ 1048576) := ⟨by rw [TaH.out]; omega⟩
  go_wp2_with fail
  refine (toHand aH [.int .i64 xaH0, .string xaH1, .string xaH2, .int .i64 xaH3, .int .i64 xaH4, .string xaH5, .string xaH6, .int .i64 xaH7] _ (RHand.made DaH.out (by omega) (by first | exact Below.refl _ _ | go_grown)) WaH.out).mono ?_
  rintro e w2 ⟨cs2, rfl, hr, hb⟩
  obtain ⟨c1_0, c1_1, c1_2, c1_3, c1_4, c1_5, c1_6, c1_7, rfl⟩ := shapeHand hr
  have Dc1 : Aside (RHand.rd True w2 (Span (w1.heap.size) w2.heap.size) aH [.int .i64 c1_0, .string c1_1, .string c1_2, .int .i64 c1_3, .int .i64 c1_4, .string c1_5, .string c1_6, .int .i64 c1_7]) := ⟨RHand.mono hr (fun b h => ⟨by have h1 := h.1; (try simp at h1); omega, h.2⟩)⟩
  clear hr
  clear l2 y2_0 y2_1 y2_2 y2_3 y2_4 y2_5 y2_6 y2_7
  have hst : Below w1.heap.size w1 w2 := below_later (by go_grown) hb
  have hbt : But NoB w1 w2 := But.below hst
  have gw2 : w1.heap.size ≤ w2.heap.size := hbt.size
  have kk := (K2.out).below hst
  clear K2
  have K2 := Aside.mk kk
  clear kk
  have bel2 := Aside.mk (below_later BEL.out hst)
  clear BEL
  have BEL := bel2
  clear bel2
  have dd := Aside.mk (RHand.but DaH.out hbt (fun b hb => ⟨by have h2 := hb.2; omega, fun h => h.elim⟩))
  clear DaH
  have DaH := dd
  clear dd
  clear hbt hst hb
  have l2 : w.heap.size < w2.heap.size := K2.out.lt
  have y2_0 : w2.cell? ⟨w.heap.size, 0, none⟩ = some (.int .i64 xaH0) := K2.out.cell 0
  have y2_1 : w2.cell? ⟨w.heap.size, 1, none⟩ = some (.string xaH1) := K2.out.cell 1
  have y2_2 : w2.cell? ⟨w.heap.size, 2, none⟩ = some (.string xaH2) := K2.out.cell 2
  have y2_3 : w2.cell? ⟨w.heap.size, 3, none⟩ = some (.int .i64 xaH3) := K2.out.cell 3
  have y2_4 : w2.cell? ⟨w.heap.size, 4, none⟩ = some (.int .i64 xaH4) := K2.out.cell 4
  have y2_5 : w2.cell? ⟨w.heap.size, 5, none⟩ = some (.string xaH5) := K2.out.cell 5
  have y2_6 : w2.cell? ⟨w.heap.size, 6, none⟩ = some (.string xaH6) := K2.out.cell 6
  have y2_7 : w2.cell? ⟨w.heap.size, 7, none⟩ = some (.int .i64 xaH7) := K2.out.cell 7
  go_wp2_with fail
  refine (sHSt aH aData [.int .i64 c1_0, .string c1_1, .string c1_2, .int .i64 c1_3, .int .i64 c1_4, .string c1_5, .string c1_6, .int .i64 c1_7] _ (RHand.made Dc1.out (by omega) (by first | exact Below.refl _ _ | go_grown)) WaH.out (by omega)).mono ?_
  rw [← HRES.out]
  rintro e w3 ⟨r2_0, r2_1, rfl, hr0, hr1, hb⟩
  have hr0 : RHand.rd True w3 _ x0 r2_0 := hr0
  obtain ⟨r2d0_0, r2d0_1, r2d0_2, r2d0_3, r2d0_4, r2d0_5, r2d0_6, r2d0_7, rfl⟩ := shapeHand hr0
  have Dr2d0 : Aside (RHand.rd True w3 (Span (0) 0) x0 [.int .i64 r2d0_0, .string r2d0_1, .string r2d0_2, .int .i64 r2d0_3, .int .i64 r2d0_4, .string r2d0_5, .string r2d0_6, .int .i64 r2d0_7]) := ⟨hand_any hr0⟩
  clear hr0
  have hr1 : Rec.str.sl.rd True w3 _ x1 [r2_1] := hr1
  obtain ⟨Ar2d1, cr2d1, e1, -⟩ := id hr1
  injection e1 with e1 _
  subst e1
  have Dr2d1 : Aside (Rec.str.sl.rd True w3 (Span (w2.heap.size) w3.heap.size) x1 [.slice Ar2d1 x1.length cr2d1]) := ⟨Rec.str.sl.mono hr1 (fun b h => ⟨by have h1 := h.1; (try simp at h1); omega, h.2⟩)⟩
  clear hr1
  clear l2 y2_0 y2_1 y2_2 y2_3 y2_4 y2_5 y2_6 y2_7
  have hst : Below w2.heap.size w2 w3 := below_later (by go_grown) hb
  have hbt : But NoB w2 w3 := But.below hst
  have gw3 : w2.heap.size ≤ w3.heap.size := hbt.size
  have kk := (K2.out).below hst
  clear K2
  have K2 := Aside.mk kk
  clear kk
  have bel2 := Aside.mk (below_later BEL.out hst)
  clear BEL
  have BEL := bel2
  clear bel2
  have dd := Aside.mk (RHand.but DaH.out hbt (fun b hb => ⟨by have h2 := hb.2; omega, fun h => h.elim⟩))
  clear DaH
  have DaH := dd
  clear dd
  have dd := Aside.mk (RHand.but Dc1.out hbt (fun b hb => ⟨by have h2 := hb.2; omega, fun h => h.elim⟩))
  clear Dc1
  have Dc1 := dd
  clear dd
  clear hbt hst hb
  have l2 : w.heap.size < w3.heap.size := K2.out.lt
  have y2_0 : w3.cell? ⟨w.heap.size, 0, none⟩ = some (.int .i64 xaH0) := K2.out.cell 0
  have y2_1 : w3.cell? ⟨w.heap.size, 1, none⟩ = some (.string xaH1) := K2.out.cell 1
  have y2_2 : w3.cell? ⟨w.heap.size, 2, none⟩ = some (.string xaH2) := K2.out.cell 2
  have y2_3 : w3.cell? ⟨w.heap.size, 3, none⟩ = some (.int .i64 xaH3) := K2.out.cell 3
  have y2_4 : w3.cell? ⟨w.heap.size, 4, none⟩ = some (.int .i64 xaH4) := K2.out.cell 4
  have y2_5 : w3.cell? ⟨w.heap.size, 5, none⟩ = some (.string xaH5) := K2.out.cell 5
  have y2_6 : w3.cell? ⟨w.heap.size, 6, none⟩ = some (.string xaH6) := K2.out.cell 6
  have y2_7 : w3.cell? ⟨w.heap.size, 7, none⟩ = some (.int .i64 xaH7) := K2.out.cell 7
  have HOK0 : Aside (RHand.ok x0) := ⟨by have hh := (hst_ok aH aData OaH.out WaH.out (by omega)).1; rw [← HRES.out] at hh; exact hh⟩
  have HWT0 : Aside (RHand.wt x0 ≤ 1073741824) := ⟨by have hh := (hst_ok aH aData OaH.out WaH.out (by omega)).2; rw [← HRES.out] at hh; exact hh⟩
  have HOK1 : Aside (Rec.str.sl.ok x1) := ⟨by have hh := (hst_ok1 aH aData WaH.out).1; rw [← HRES.out] at hh; exact hh⟩
  have HWT1 : Aside (Rec.str.sl.wt x1 ≤ 1073741824) := ⟨by have hh := (hst_ok1 aH aData WaH.out).2; rw [← HRES.out] at hh; exact hh⟩
  go_wp2_with fail
  refine (toHand aH [.int .i64 xaH0, .string xaH1, .string xaH2, .int .i64 xaH3, .int .i64 xaH4, .string xaH5, .string xaH6, .int .i64 xaH7] _ (RHand.made DaH.out (by omega) (by first | exact Below.refl _ _ | go_grown)) WaH.out).mono ?_
  rintro e w4 ⟨cs2, rfl, hr, hb⟩
  obtain ⟨c3_0, c3_1, c3_2, c3_3, c3_4, c3_5, c3_6, c3_7, rfl⟩ := shapeHand hr
  have Dc3 : Aside (RHand.rd True w4 (Span (w3.heap.size + 1) w4.heap.size) aH [.int .i64 c3_0, .string c3_1, .string c3_2, .int .i64 c3_3, .int .i64 c3_4, .string c3_5, .string c3_6, .int .i64 c3_7]) := ⟨RHand.mono hr (fun b h => ⟨by have h1 := h.1; (try simp at h1); omega, h.2⟩)⟩
  clear hr
  clear l2 y2_0 y2_1 y2_2 y2_3 y2_4 y2_5 y2_6 y2_7
  have hst : Below w3.heap.size w3 w4 := below_later (by go_grown) hb
  have hbt : But NoB w3 w4 := But.below hst
  have gw4 : w3.heap.size ≤ w4.heap.size := hbt.size
  have kk := (K2.out).below hst
  clear K2
  have K2 := Aside.mk kk
  clear kk
  have K6 := Aside.mk ((Blk.made w3 27 [.int .i64 r2d0_0, .string r2d0_1, .string r2d0_2, .int .i64 r2d0_3, .int .i64 r2d0_4, .string r2d0_5, .string r2d0_6, .int .i64 r2d0_7] (g := w3.heap.size) (by simp)).below hb)
  have m6 : w3.heap.size < w4.heap.size := K6.out.lt
  have bel2 := Aside.mk (below_later BEL.out hst)
  clear BEL
  have BEL := bel2
  clear bel2
  have dd := Aside.mk (RHand.but DaH.out hbt (fun b hb => ⟨by have h2 := hb.2; omega, fun h => h.elim⟩))
  clear DaH
  have DaH := dd
  clear dd
  have dd := Aside.mk (RHand.but Dc1.out hbt (fun b hb => ⟨by have h2 := hb.2; omega, fun h => h.elim⟩))
  clear Dc1
  have Dc1 := dd
  clear dd
  have dd := Aside.mk (RHand.but Dr2d0.out hbt (fun b hb => ⟨by have h2 := hb.2; omega, fun h => h.elim⟩))
  clear Dr2d0
  have Dr2d0 := dd
  clear dd
  have dd := Aside.mk (Rec.str.sl.but Dr2d1.out hbt (fun b hb => ⟨by have h2 := hb.2; omega, fun h => h.elim⟩))
  clear Dr2d1
  have Dr2d1 := dd
  clear dd
  clear hbt hst hb
  have l2 : w.heap.size < w4.heap.size := K2.out.lt
  have y2_0 : w4.cell? ⟨w.heap.size, 0, none⟩ = some (.int .i64 xaH0) := K2.out.cell 0
  have y2_1 : w4.cell? ⟨w.heap.size, 1, none⟩ = some (.string xaH1) := K2.out.cell 1
  have y2_2 : w4.cell? ⟨w.heap.size, 2, none⟩ = some (.string xaH2) := K2.out.cell 2
  have y2_3 : w4.cell? ⟨w.heap.size, 3, none⟩ = some (.int .i64 xaH3) := K2.out.cell 3
  have y2_4 : w4.cell? ⟨w.heap.size, 4, none⟩ = some (.int .i64 xaH4) := K2.out.cell 4
  have y2_5 : w4.cell? ⟨w.heap.size, 5, none⟩ = some (.string xaH5) := K2.out.cell 5
  have y2_6 : w4.cell? ⟨w.heap.size, 6, none⟩ = some (.string xaH6) := K2.out.cell 6
  have y2_7 : w4.cell? ⟨w.heap.size, 7, none⟩ = some (.int .i64 xaH7) := K2.out.cell 7
  have l6 : w3.heap.size < w4.heap.size := K6.out.lt
  have y6_0 : w4.cell? ⟨w3.heap.size, 0, none⟩ = some (.int .i64 r2d0_0) := K6.out.cell 0
  have y6_1 : w4.cell? ⟨w3.heap.size, 1, none⟩ = some (.string r2d0_1) := K6.out.cell 1
  have y6_2 : w4.cell? ⟨w3.heap.size, 2, none⟩ = some (.string r2d0_2) := K6.out.cell 2
  have y6_3 : w4.cell? ⟨w3.heap.size, 3, none⟩ = some (.int .i64 r2d0_3) := K6.out.cell 3
  have y6_4 : w4.cell? ⟨w3.heap.size, 4, none⟩ = some (.int .i64 r2d0_4) := K6.out.cell 4
  have y6_5 : w4.cell? ⟨w3.heap.size, 5, none⟩ = some (.string r2d0_5) := K6.out.cell 5
  have y6_6 : w4.cell? ⟨w3.heap.size, 6, none⟩ = some (.string r2d0_6) := K6.out.cell 6
  have y6_7 : w4.cell? ⟨w3.heap.size, 7, none⟩ = some (.int .i64 r2d0_7) := K6.out.cell 7
  go_wp2_with fail
  refine (iHSt aH aData [.int .i64 c3_0, .string c3_1, .string c3_2, .int .i64 c3_3, .int .i64 c3_4, .string c3_5, .string c3_6, .int .i64 c3_7] _ (RHand.made Dc3.out (by omega) (by first | exact Below.refl _ _ | go_grown)) WaH.out (by omega) (tab_below HT.out (below_later BEL.out (by first | exact Below.refl _ _ | go_grown)))).mono ?_
  rw [← HRES.out]
  rintro e w5 ⟨r4_0, r4_1, rfl, hr0, hr1, hb⟩
  have hr0 : RHand.rd True w5 _ x0 r4_0 := hr0
  obtain ⟨r4d0_0, r4d0_1, r4d0_2, r4d0_3, r4d0_4, r4d0_5, r4d0_6, r4d0_7, rfl⟩ := shapeHand hr0
  have Dr4d0 : Aside (RHand.rd True w5 (Span (0) 0) x0 [.int .i64 r4d0_0, .string r4d0_1, .string r4d0_2, .int .i64 r4d0_3, .int .i64 r4d0_4, .string r4d0_5, .string r4d0_6, .int .i64 r4d0_7]) := ⟨hand_any hr0⟩
  clear hr0
  have hr1 : Rec.str.sl.rd True w5 _ x1 [r4_1] := hr1
  obtain ⟨Ar4d1, cr4d1, e1, -⟩ := id hr1
  injection e1 with e1 _
  subst e1
  have Dr4d1 : Aside (Rec.str.sl.rd True w5 (Span (w4.heap.size) w5.heap.size) x1 [.slice Ar4d1 x1.length cr4d1]) := ⟨Rec.str.sl.mono hr1 (fun b h => ⟨by have h1 := h.1; (try simp at h1); omega, h.2⟩)⟩
  clear hr1
  clear l2 y2_0 y2_1 y2_2 y2_3 y2_4 y2_5 y2_6 y2_7
  clear l6 y6_0 y6_1 y6_2 y6_3 y6_4 y6_5 y6_6 y6_7
  have hst : Below w4.heap.size w4 w5 := below_later (by go_grown) hb
  have hbt : But NoB w4 w5 := But.below hst
  have gw5 : w4.heap.size ≤ w5.heap.size := hbt.size
  have kk := (K2.out).below hst
  clear K2
  have K2 := Aside.mk kk
  clear kk
  have kk := (K6.out).below hst
  clear K6
  have K6 := Aside.mk kk
  clear kk
  have bel2 := Aside.mk (below_later BEL.out hst)
  clear BEL
  have BEL := bel2
  clear bel2
  have dd := Aside.mk (RHand.but DaH.out hbt (fun b hb => ⟨by have h2 := hb.2; omega, fun h => h.elim⟩))
  clear DaH
  have DaH := dd
  clear dd
  have dd := Aside.mk (RHand.but Dc1.out hbt (fun b hb => ⟨by have h2 := hb.2; omega, fun h => h.elim⟩))
  clear Dc1
  have Dc1 := dd
  clear dd
  have dd := Aside.mk (RHand.but Dr2d0.out hbt (fun b hb => ⟨by have h2 := hb.2; omega, fun h => h.elim⟩))
  clear Dr2d0
  have Dr2d0 := dd
  clear dd
  have dd := Aside.mk (Rec.str.sl.but Dr2d1.out hbt (fun b hb => ⟨by have h2 := hb.2; omega, fun h => h.elim⟩))
  clear Dr2d1
  have Dr2d1 := dd
  clear dd
  have dd := Aside.mk (RHand.but Dc3.out hbt (fun b hb => ⟨by have h2 := hb.2; omega, fun h => h.elim⟩))
  clear Dc3
  have Dc3 := dd
  clear dd
  clear hbt hst hb
  have l2 : w.heap.size < w5.heap.size := K2.out.lt
  have y2_0 : w5.cell? ⟨w.heap.size, 0, none⟩ = some (.int .i64 xaH0) := K2.out.cell 0
  have y2_1 : w5.cell? ⟨w.heap.size, 1, none⟩ = some (.string xaH1) := K2.out.cell 1
  have y2_2 : w5.cell? ⟨w.heap.size, 2, none⟩ = some (.string xaH2) := K2.out.cell 2
  have y2_3 : w5.cell? ⟨w.heap.size, 3, none⟩ = some (.int .i64 xaH3) := K2.out.cell 3
  have y2_4 : w5.cell? ⟨w.heap.size, 4, none⟩ = some (.int .i64 xaH4) := K2.out.cell 4
  have y2_5 : w5.cell? ⟨w.heap.size, 5, none⟩ = some (.string xaH5) := K2.out.cell 5
  have y2_6 : w5.cell? ⟨w.heap.size, 6, none⟩ = some (.string xaH6) := K2.out.cell 6
  have y2_7 : w5.cell? ⟨w.heap.size, 7, none⟩ = some (.int .i64 xaH7) := K2.out.cell 7
  have l6 : w3.heap.size < w5.heap.size := K6.out.lt
  have y6_0 : w5.cell? ⟨w3.heap.size, 0, none⟩ = some (.int .i64 r2d0_0) := K6.out.cell 0
  have y6_1 : w5.cell? ⟨w3.heap.size, 1, none⟩ = some (.string r2d0_1) := K6.out.cell 1
  have y6_2 : w5.cell? ⟨w3.heap.size, 2, none⟩ = some (.string r2d0_2) := K6.out.cell 2
  have y6_3 : w5.cell? ⟨w3.heap.size, 3, none⟩ = some (.int .i64 r2d0_3) := K6.out.cell 3
  have y6_4 : w5.cell? ⟨w3.heap.size, 4, none⟩ = some (.int .i64 r2d0_4) := K6.out.cell 4
  have y6_5 : w5.cell? ⟨w3.heap.size, 5, none⟩ = some (.string r2d0_5) := K6.out.cell 5
  have y6_6 : w5.cell? ⟨w3.heap.size, 6, none⟩ = some (.string r2d0_6) := K6.out.cell 6
  have y6_7 : w5.cell? ⟨w3.heap.size, 7, none⟩ = some (.int .i64 r2d0_7) := K6.out.cell 7
  go_wp2_with fail
  refine (eqHand x0 [.int .i64 r4d0_0, .string r4d0_1, .string r4d0_2, .int .i64 r4d0_3, .int .i64 r4d0_4, .string r4d0_5, .string r4d0_6, .int .i64 r4d0_7] [.int .i64 r2d0_0, .string r2d0_1, .string r2d0_2, .int .i64 r2d0_3, .int .i64 r2d0_4, .string r2d0_5, .string r2d0_6, .int .i64 r2d0_7] _ (RHand.made Dr4d0.out (by omega) (by first | exact Below.refl _ _ | go_grown)) (RHand.made Dr2d0.out (by omega) (by first | exact Below.refl _ _ | go_grown)) HOK0.out).mono ?_
  rintro e w6 ⟨rfl, hb⟩
  clear l2 y2_0 y2_1 y2_2 y2_3 y2_4 y2_5 y2_6 y2_7
  clear l6 y6_0 y6_1 y6_2 y6_3 y6_4 y6_5 y6_6 y6_7
  have hst : Below w5.heap.size w5 w6 := below_later (by go_grown) hb
  have hbt : But NoB w5 w6 := But.below hst
  have gw6 : w5.heap.size ≤ w6.heap.size := hbt.size
  have kk := (K2.out).below hst
  clear K2
  have K2 := Aside.mk kk
  clear kk
  have kk := (K6.out).below hst
  clear K6
  have K6 := Aside.mk kk
  clear kk
  have K9 := Aside.mk ((Blk.made w5 27 [.int .i64 r4d0_0, .string r4d0_1, .string r4d0_2, .int .i64 r4d0_3, .int .i64 r4d0_4, .string r4d0_5, .string r4d0_6, .int .i64 r4d0_7] (g := w5.heap.size) (by simp)).below hb)
  have m9 : w5.heap.size < w6.heap.size := K9.out.lt
  have bel2 := Aside.mk (below_later BEL.out hst)
  clear BEL
  have BEL := bel2
  clear bel2
  have dd := Aside.mk (RHand.but DaH.out hbt (fun b hb => ⟨by have h2 := hb.2; omega, fun h => h.elim⟩))
  clear DaH
  have DaH := dd
  clear dd
  have dd := Aside.mk (RHand.but Dc1.out hbt (fun b hb => ⟨by have h2 := hb.2; omega, fun h => h.elim⟩))
  clear Dc1
  have Dc1 := dd
  clear dd
  have dd := Aside.mk (RHand.but Dr2d0.out hbt (fun b hb => ⟨by have h2 := hb.2; omega, fun h => h.elim⟩))
  clear Dr2d0
  have Dr2d0 := dd
  clear dd
  have dd := Aside.mk (Rec.str.sl.but Dr2d1.out hbt (fun b hb => ⟨by have h2 := hb.2; omega, fun h => h.elim⟩))
  clear Dr2d1
  have Dr2d1 := dd
  clear dd
  have dd := Aside.mk (RHand.but Dc3.out hbt (fun b hb => ⟨by have h2 := hb.2; omega, fun h => h.elim⟩))
  clear Dc3
  have Dc3 := dd
  clear dd
  have dd := Aside.mk (RHand.but Dr4d0.out hbt (fun b hb => ⟨by have h2 := hb.2; omega, fun h => h.elim⟩))
  clear Dr4d0
  have Dr4d0 := dd
  clear dd
  have dd := Aside.mk (Rec.str.sl.but Dr4d1.out hbt (fun b hb => ⟨by have h2 := hb.2; omega, fun h => h.elim⟩))
  clear Dr4d1
  have Dr4d1 := dd
  clear dd
  clear hbt hst hb
  have l2 : w.heap.size < w6.heap.size := K2.out.lt
  have y2_0 : w6.cell? ⟨w.heap.size, 0, none⟩ = some (.int .i64 xaH0) := K2.out.cell 0
  have y2_1 : w6.cell? ⟨w.heap.size, 1, none⟩ = some (.string xaH1) := K2.out.cell 1
  have y2_2 : w6.cell? ⟨w.heap.size, 2, none⟩ = some (.string xaH2) := K2.out.cell 2
  have y2_3 : w6.cell? ⟨w.heap.size, 3, none⟩ = some (.int .i64 xaH3) := K2.out.cell 3
  have y2_4 : w6.cell? ⟨w.heap.size, 4, none⟩ = some (.int .i64 xaH4) := K2.out.cell 4
  have y2_5 : w6.cell? ⟨w.heap.size, 5, none⟩ = some (.string xaH5) := K2.out.cell 5
  have y2_6 : w6.cell? ⟨w.heap.size, 6, none⟩ = some (.string xaH6) := K2.out.cell 6
  have y2_7 : w6.cell? ⟨w.heap.size, 7, none⟩ = some (.int .i64 xaH7) := K2.out.cell 7
  have l6 : w3.heap.size < w6.heap.size := K6.out.lt
  have y6_0 : w6.cell? ⟨w3.heap.size, 0, none⟩ = some (.int .i64 r2d0_0) := K6.out.cell 0
  have y6_1 : w6.cell? ⟨w3.heap.size, 1, none⟩ = some (.string r2d0_1) := K6.out.cell 1
  have y6_2 : w6.cell? ⟨w3.heap.size, 2, none⟩ = some (.string r2d0_2) := K6.out.cell 2
  have y6_3 : w6.cell? ⟨w3.heap.size, 3, none⟩ = some (.int .i64 r2d0_3) := K6.out.cell 3
  have y6_4 : w6.cell? ⟨w3.heap.size, 4, none⟩ = some (.int .i64 r2d0_4) := K6.out.cell 4
  have y6_5 : w6.cell? ⟨w3.heap.size, 5, none⟩ = some (.string r2d0_5) := K6.out.cell 5
  have y6_6 : w6.cell? ⟨w3.heap.size, 6, none⟩ = some (.string r2d0_6) := K6.out.cell 6
  have y6_7 : w6.cell? ⟨w3.heap.size, 7, none⟩ = some (.int .i64 r2d0_7) := K6.out.cell 7
  have l9 : w5.heap.size < w6.heap.size := K9.out.lt
  have y9_0 : w6.cell? ⟨w5.heap.size, 0, none⟩ = some (.int .i64 r4d0_0) := K9.out.cell 0
  have y9_1 : w6.cell? ⟨w5.heap.size, 1, none⟩ = some (.string r4d0_1) := K9.out.cell 1
  have y9_2 : w6.cell? ⟨w5.heap.size, 2, none⟩ = some (.string r4d0_2) := K9.out.cell 2
  have y9_3 : w6.cell? ⟨w5.heap.size, 3, none⟩ = some (.int .i64 r4d0_3) := K9.out.cell 3
  have y9_4 : w6.cell? ⟨w5.heap.size, 4, none⟩ = some (.int .i64 r4d0_4) := K9.out.cell 4
  have y9_5 : w6.cell? ⟨w5.heap.size, 5, none⟩ = some (.string r4d0_5) := K9.out.cell 5
  have y9_6 : w6.cell? ⟨w5.heap.size, 6, none⟩ = some (.string r4d0_6) := K9.out.cell 6
  have y9_7 : w6.cell? ⟨w5.heap.size, 7, none⟩ = some (.int .i64 r4d0_7) := K9.out.cell 7
  go_wp2_with fail
  refine (eqStringS x1 _ _ _ (Rec.str.sl.made Dr4d1.out (by omega) (by first | exact Below.refl _ _ | go_grown)) (Rec.str.sl.made Dr2d1.out (by omega) (by first | exact Below.refl _ _ | go_grown)) HOK1.out).mono ?_
  rintro e w7 ⟨rfl, hb⟩
  clear l2 y2_0 y2_1 y2_2 y2_3 y2_4 y2_5 y2_6 y2_7
  clear l6 y6_0 y6_1 y6_2 y6_3 y6_4 y6_5 y6_6 y6_7
  clear l9 y9_0 y9_1 y9_2 y9_3 y9_4 y9_5 y9_6 y9_7
  have hst : Below w6.heap.size w6 w7 := below_later (by go_grown) hb
  have hbt : But NoB w6 w7 := But.below hst
  have gw7 : w6.heap.size ≤ w7.heap.size := hbt.size
  have kk := (K2.out).below hst
  clear K2
  have K2 := Aside.mk kk
  clear kk
  have kk := (K6.out).below hst
  clear K6
  have K6 := Aside.mk kk
  clear kk
  have kk := (K9.out).below hst
  clear K9
  have K9 := Aside.mk kk
  clear kk
  have bel2 := Aside.mk (below_later BEL.out hst)
  clear BEL
  have BEL := bel2
  clear bel2
  have dd := Aside.mk (RHand.but DaH.out hbt (fun b hb => ⟨by have h2 := hb.2; omega, fun h => h.elim⟩))
  clear DaH
  have DaH := dd
  clear dd
  have dd := Aside.mk (RHand.but Dc1.out hbt (fun b hb => ⟨by have h2 := hb.2; omega, fun h => h.elim⟩))
  clear Dc1
  have Dc1 := dd
  clear dd
  have dd := Aside.mk (RHand.but Dr2d0.out hbt (fun b hb => ⟨by have h2 := hb.2; omega, fun h => h.elim⟩))
  clear Dr2d0
  have Dr2d0 := dd
  clear dd
  have dd := Aside.mk (Rec.str.sl.but Dr2d1.out hbt (fun b hb => ⟨by have h2 := hb.2; omega, fun h => h.elim⟩))
  clear Dr2d1
  have Dr2d1 := dd
  clear dd
  have dd := Aside.mk (RHand.but Dc3.out hbt (fun b hb => ⟨by have h2 := hb.2; omega, fun h => h.elim⟩))
  clear Dc3
  have Dc3 := dd
  clear dd
  have dd := Aside.mk (RHand.but Dr4d0.out hbt (fun b hb => ⟨by have h2 := hb.2; omega, fun h => h.elim⟩))
  clear Dr4d0
  have Dr4d0 := dd
  clear dd
  have dd := Aside.mk (Rec.str.sl.but Dr4d1.out hbt (fun b hb => ⟨by have h2 := hb.2; omega, fun h => h.elim⟩))
  clear Dr4d1
  have Dr4d1 := dd
  clear dd
  clear hbt hst hb
  have l2 : w.heap.size < w7.heap.size := K2.out.lt
  have y2_0 : w7.cell? ⟨w.heap.size, 0, none⟩ = some (.int .i64 xaH0) := K2.out.cell 0
  have y2_1 : w7.cell? ⟨w.heap.size, 1, none⟩ = some (.string xaH1) := K2.out.cell 1
  have y2_2 : w7.cell? ⟨w.heap.size, 2, none⟩ = some (.string xaH2) := K2.out.cell 2
  have y2_3 : w7.cell? ⟨w.heap.size, 3, none⟩ = some (.int .i64 xaH3) := K2.out.cell 3
  have y2_4 : w7.cell? ⟨w.heap.size, 4, none⟩ = some (.int .i64 xaH4) := K2.out.cell 4
  have y2_5 : w7.cell? ⟨w.heap.size, 5, none⟩ = some (.string xaH5) := K2.out.cell 5
  have y2_6 : w7.cell? ⟨w.heap.size, 6, none⟩ = some (.string xaH6) := K2.out.cell 6
  have y2_7 : w7.cell? ⟨w.heap.size, 7, none⟩ = some (.int .i64 xaH7) := K2.out.cell 7
  have l6 : w3.heap.size < w7.heap.size := K6.out.lt
  have y6_0 : w7.cell? ⟨w3.heap.size, 0, none⟩ = some (.int .i64 r2d0_0) := K6.out.cell 0
  have y6_1 : w7.cell? ⟨w3.heap.size, 1, none⟩ = some (.string r2d0_1) := K6.out.cell 1
  have y6_2 : w7.cell? ⟨w3.heap.size, 2, none⟩ = some (.string r2d0_2) := K6.out.cell 2
  have y6_3 : w7.cell? ⟨w3.heap.size, 3, none⟩ = some (.int .i64 r2d0_3) := K6.out.cell 3
  have y6_4 : w7.cell? ⟨w3.heap.size, 4, none⟩ = some (.int .i64 r2d0_4) := K6.out.cell 4
  have y6_5 : w7.cell? ⟨w3.heap.size, 5, none⟩ = some (.string r2d0_5) := K6.out.cell 5
  have y6_6 : w7.cell? ⟨w3.heap.size, 6, none⟩ = some (.string r2d0_6) := K6.out.cell 6
  have y6_7 : w7.cell? ⟨w3.heap.size, 7, none⟩ = some (.int .i64 r2d0_7) := K6.out.cell 7
  have l9 : w5.heap.size < w7.heap.size := K9.out.lt
  have y9_0 : w7.cell? ⟨w5.heap.size, 0, none⟩ = some (.int .i64 r4d0_0) := K9.out.cell 0
  have y9_1 : w7.cell? ⟨w5.heap.size, 1, none⟩ = some (.string r4d0_1) := K9.out.cell 1
  have y9_2 : w7.cell? ⟨w5.heap.size, 2, none⟩ = some (.string r4d0_2) := K9.out.cell 2
  have y9_3 : w7.cell? ⟨w5.heap.size, 3, none⟩ = some (.int .i64 r4d0_3) := K9.out.cell 3
  have y9_4 : w7.cell? ⟨w5.heap.size, 4, none⟩ = some (.int .i64 r4d0_4) := K9.out.cell 4
  have y9_5 : w7.cell? ⟨w5.heap.size, 5, none⟩ = some (.string r4d0_5) := K9.out.cell 5
  have y9_6 : w7.cell? ⟨w5.heap.size, 6, none⟩ = some (.string r4d0_6) := K9.out.cell 6
  have y9_7 : w7.cell? ⟨w5.heap.size, 7, none⟩ = some (.int .i64 r4d0_7) := K9.out.cell 7
  go_wp2_with fail
  refine (markStringS x1 (.slice Ar4d1 x1.length cr4d1) _ (Span (w4.heap.size) (w5.heap.size)) (1) Dr4d1.out (fun b hb => by have h2 := hb.2; first | omega | (simp; omega)) (by omega) (by have := HWT1.out; omega)).mono ?_
  rintro e w8 ⟨k1, z1, rfl, hh, -, hr, hb, hlek1, hlfk1⟩
  have hlgk1 : k1 ≤ 1 + 8589934592 := by have := HWT1.out; omega
  clear hlfk1
  have HHk1 := Aside.mk hh
  clear hh
  clear Dr4d1
  have Dr4d1 := Aside.mk hr
  clear hr
  clear l2 y2_0 y2_1 y2_2 y2_3 y2_4 y2_5 y2_6 y2_7
  clear l6 y6_0 y6_1 y6_2 y6_3 y6_4 y6_5 y6_6 y6_7
  clear l9 y9_0 y9_1 y9_2 y9_3 y9_4 y9_5 y9_6 y9_7
  have hbt : But (Span (w4.heap.size) (w5.heap.size)) w7 w8 := (But.below (show Below w7.heap.size w7 _ by go_grown)).trans hb
  have gw8 : w7.heap.size ≤ w8.heap.size := hbt.size
  have kk := Blk.but K2.out hbt (fun h => by have h1 := h.1; have h2 := h.2; omega)
  clear K2
  have K2 := Aside.mk kk
  clear kk
  have kk := Blk.but K6.out hbt (fun h => by have h1 := h.1; have h2 := h.2; omega)
  clear K6
  have K6 := Aside.mk kk
  clear kk
  have kk := Blk.but K9.out hbt (fun h => by have h1 := h.1; have h2 := h.2; omega)
  clear K9
  have K9 := Aside.mk kk
  clear kk
  have bel2 := Aside.mk (But.out BEL.out hbt (fun k hk => by have h1 := hk.1; have h2 := BEL.out.size; omega))
  clear BEL
  have BEL := bel2
  clear bel2
  have dd := Aside.mk (RHand.but DaH.out hbt (fun b hb => ⟨by have h2 := hb.2; omega, fun h => by have h1 := h.1; have h2 := h.2; have h3 := hb.1; have h4 := hb.2; omega⟩))
  clear DaH
  have DaH := dd
  clear dd
  have dd := Aside.mk (RHand.but Dc1.out hbt (fun b hb => ⟨by have h2 := hb.2; omega, fun h => by have h1 := h.1; have h2 := h.2; have h3 := hb.1; have h4 := hb.2; omega⟩))
  clear Dc1
  have Dc1 := dd
  clear dd
  have dd := Aside.mk (RHand.but Dr2d0.out hbt (fun b hb => ⟨by have h2 := hb.2; omega, fun h => by have h1 := h.1; have h2 := h.2; have h3 := hb.1; have h4 := hb.2; omega⟩))
  clear Dr2d0
  have Dr2d0 := dd
  clear dd
  have dd := Aside.mk (Rec.str.sl.but Dr2d1.out hbt (fun b hb => ⟨by have h2 := hb.2; omega, fun h => by have h1 := h.1; have h2 := h.2; have h3 := hb.1; have h4 := hb.2; omega⟩))
  clear Dr2d1
  have Dr2d1 := dd
  clear dd
  have dd := Aside.mk (RHand.but Dc3.out hbt (fun b hb => ⟨by have h2 := hb.2; omega, fun h => by have h1 := h.1; have h2 := h.2; have h3 := hb.1; have h4 := hb.2; omega⟩))
  clear Dc3
  have Dc3 := dd
  clear dd
  have dd := Aside.mk (RHand.but Dr4d0.out hbt (fun b hb => ⟨by have h2 := hb.2; omega, fun h => by have h1 := h.1; have h2 := h.2; have h3 := hb.1; have h4 := hb.2; omega⟩))
  clear Dr4d0
  have Dr4d0 := dd
  clear dd
  clear hbt hb
  have l2 : w.heap.size < w8.heap.size := K2.out.lt
  have y2_0 : w8.cell? ⟨w.heap.size, 0, none⟩ = some (.int .i64 xaH0) := K2.out.cell 0
  have y2_1 : w8.cell? ⟨w.heap.size, 1, none⟩ = some (.string xaH1) := K2.out.cell 1
  have y2_2 : w8.cell? ⟨w.heap.size, 2, none⟩ = some (.string xaH2) := K2.out.cell 2
  have y2_3 : w8.cell? ⟨w.heap.size, 3, none⟩ = some (.int .i64 xaH3) := K2.out.cell 3
  have y2_4 : w8.cell? ⟨w.heap.size, 4, none⟩ = some (.int .i64 xaH4) := K2.out.cell 4
  have y2_5 : w8.cell? ⟨w.heap.size, 5, none⟩ = some (.string xaH5) := K2.out.cell 5
  have y2_6 : w8.cell? ⟨w.heap.size, 6, none⟩ = some (.string xaH6) := K2.out.cell 6
  have y2_7 : w8.cell? ⟨w.heap.size, 7, none⟩ = some (.int .i64 xaH7) := K2.out.cell 7
  have l6 : w3.heap.size < w8.heap.size := K6.out.lt
  have y6_0 : w8.cell? ⟨w3.heap.size, 0, none⟩ = some (.int .i64 r2d0_0) := K6.out.cell 0
  have y6_1 : w8.cell? ⟨w3.heap.size, 1, none⟩ = some (.string r2d0_1) := K6.out.cell 1
  have y6_2 : w8.cell? ⟨w3.heap.size, 2, none⟩ = some (.string r2d0_2) := K6.out.cell 2
  have y6_3 : w8.cell? ⟨w3.heap.size, 3, none⟩ = some (.int .i64 r2d0_3) := K6.out.cell 3
  have y6_4 : w8.cell? ⟨w3.heap.size, 4, none⟩ = some (.int .i64 r2d0_4) := K6.out.cell 4
  have y6_5 : w8.cell? ⟨w3.heap.size, 5, none⟩ = some (.string r2d0_5) := K6.out.cell 5
  have y6_6 : w8.cell? ⟨w3.heap.size, 6, none⟩ = some (.string r2d0_6) := K6.out.cell 6
  have y6_7 : w8.cell? ⟨w3.heap.size, 7, none⟩ = some (.int .i64 r2d0_7) := K6.out.cell 7
  have l9 : w5.heap.size < w8.heap.size := K9.out.lt
  have y9_0 : w8.cell? ⟨w5.heap.size, 0, none⟩ = some (.int .i64 r4d0_0) := K9.out.cell 0
  have y9_1 : w8.cell? ⟨w5.heap.size, 1, none⟩ = some (.string r4d0_1) := K9.out.cell 1
  have y9_2 : w8.cell? ⟨w5.heap.size, 2, none⟩ = some (.string r4d0_2) := K9.out.cell 2
  have y9_3 : w8.cell? ⟨w5.heap.size, 3, none⟩ = some (.int .i64 r4d0_3) := K9.out.cell 3
  have y9_4 : w8.cell? ⟨w5.heap.size, 4, none⟩ = some (.int .i64 r4d0_4) := K9.out.cell 4
  have y9_5 : w8.cell? ⟨w5.heap.size, 5, none⟩ = some (.string r4d0_5) := K9.out.cell 5
  have y9_6 : w8.cell? ⟨w5.heap.size, 6, none⟩ = some (.string r4d0_6) := K9.out.cell 6
  have y9_7 : w8.cell? ⟨w5.heap.size, 7, none⟩ = some (.int .i64 r4d0_7) := K9.out.cell 7
  go_wp2_with fail
  refine (heldStringS z1 (.slice Ar4d1 x1.length cr4d1) _ (1) k1 (Rec.str.sl.made Dr4d1.out (by omega) (by first | exact Below.refl _ _ | go_grown)) HHk1.out (by omega) (by omega)).mono ?_
  rintro e w9 ⟨rfl, hb⟩
  clear l2 y2_0 y2_1 y2_2 y2_3 y2_4 y2_5 y2_6 y2_7
  clear l6 y6_0 y6_1 y6_2 y6_3 y6_4 y6_5 y6_6 y6_7
  clear l9 y9_0 y9_1 y9_2 y9_3 y9_4 y9_5 y9_6 y9_7
  have hst : Below w8.heap.size w8 w9 := below_later (by go_grown) hb
  have hbt : But NoB w8 w9 := But.below hst
  have gw9 : w8.heap.size ≤ w9.heap.size := hbt.size
  have kk := (K2.out).below hst
  clear K2
  have K2 := Aside.mk kk
  clear kk
  have kk := (K6.out).below hst
  clear K6
  have K6 := Aside.mk kk
  clear kk
  have kk := (K9.out).below hst
  clear K9
  have K9 := Aside.mk kk
  clear kk
  have bel2 := Aside.mk (below_later BEL.out hst)
  clear BEL
  have BEL := bel2
  clear bel2
  have dd := Aside.mk (RHand.but DaH.out hbt (fun b hb => ⟨by have h2 := hb.2; omega, fun h => h.elim⟩))
  clear DaH
  have DaH := dd
  clear dd
  have dd := Aside.mk (RHand.but Dc1.out hbt (fun b hb => ⟨by have h2 := hb.2; omega, fun h => h.elim⟩))
  clear Dc1
  have Dc1 := dd
  clear dd
  have dd := Aside.mk (RHand.but Dr2d0.out hbt (fun b hb => ⟨by have h2 := hb.2; omega, fun h => h.elim⟩))
  clear Dr2d0
  have Dr2d0 := dd
  clear dd
  have dd := Aside.mk (Rec.str.sl.but Dr2d1.out hbt (fun b hb => ⟨by have h2 := hb.2; omega, fun h => h.elim⟩))
  clear Dr2d1
  have Dr2d1 := dd
  clear dd
  have dd := Aside.mk (RHand.but Dc3.out hbt (fun b hb => ⟨by have h2 := hb.2; omega, fun h => h.elim⟩))
  clear Dc3
  have Dc3 := dd
  clear dd
  have dd := Aside.mk (RHand.but Dr4d0.out hbt (fun b hb => ⟨by have h2 := hb.2; omega, fun h => h.elim⟩))
  clear Dr4d0
  have Dr4d0 := dd
  clear dd
  have dd := Aside.mk (Rec.str.sl.but Dr4d1.out hbt (fun b hb => ⟨by have h2 := hb.2; omega, fun h => h.elim⟩))
  clear Dr4d1
  have Dr4d1 := dd
  clear dd
  clear hbt hst hb
  have l2 : w.heap.size < w9.heap.size := K2.out.lt
  have y2_0 : w9.cell? ⟨w.heap.size, 0, none⟩ = some (.int .i64 xaH0) := K2.out.cell 0
  have y2_1 : w9.cell? ⟨w.heap.size, 1, none⟩ = some (.string xaH1) := K2.out.cell 1
  have y2_2 : w9.cell? ⟨w.heap.size, 2, none⟩ = some (.string xaH2) := K2.out.cell 2
  have y2_3 : w9.cell? ⟨w.heap.size, 3, none⟩ = some (.int .i64 xaH3) := K2.out.cell 3
  have y2_4 : w9.cell? ⟨w.heap.size, 4, none⟩ = some (.int .i64 xaH4) := K2.out.cell 4
  have y2_5 : w9.cell? ⟨w.heap.size, 5, none⟩ = some (.string xaH5) := K2.out.cell 5
  have y2_6 : w9.cell? ⟨w.heap.size, 6, none⟩ = some (.string xaH6) := K2.out.cell 6
  have y2_7 : w9.cell? ⟨w.heap.size, 7, none⟩ = some (.int .i64 xaH7) := K2.out.cell 7
  have l6 : w3.heap.size < w9.heap.size := K6.out.lt
  have y6_0 : w9.cell? ⟨w3.heap.size, 0, none⟩ = some (.int .i64 r2d0_0) := K6.out.cell 0
  have y6_1 : w9.cell? ⟨w3.heap.size, 1, none⟩ = some (.string r2d0_1) := K6.out.cell 1
  have y6_2 : w9.cell? ⟨w3.heap.size, 2, none⟩ = some (.string r2d0_2) := K6.out.cell 2
  have y6_3 : w9.cell? ⟨w3.heap.size, 3, none⟩ = some (.int .i64 r2d0_3) := K6.out.cell 3
  have y6_4 : w9.cell? ⟨w3.heap.size, 4, none⟩ = some (.int .i64 r2d0_4) := K6.out.cell 4
  have y6_5 : w9.cell? ⟨w3.heap.size, 5, none⟩ = some (.string r2d0_5) := K6.out.cell 5
  have y6_6 : w9.cell? ⟨w3.heap.size, 6, none⟩ = some (.string r2d0_6) := K6.out.cell 6
  have y6_7 : w9.cell? ⟨w3.heap.size, 7, none⟩ = some (.int .i64 r2d0_7) := K6.out.cell 7
  have l9 : w5.heap.size < w9.heap.size := K9.out.lt
  have y9_0 : w9.cell? ⟨w5.heap.size, 0, none⟩ = some (.int .i64 r4d0_0) := K9.out.cell 0
  have y9_1 : w9.cell? ⟨w5.heap.size, 1, none⟩ = some (.string r4d0_1) := K9.out.cell 1
  have y9_2 : w9.cell? ⟨w5.heap.size, 2, none⟩ = some (.string r4d0_2) := K9.out.cell 2
  have y9_3 : w9.cell? ⟨w5.heap.size, 3, none⟩ = some (.int .i64 r4d0_3) := K9.out.cell 3
  have y9_4 : w9.cell? ⟨w5.heap.size, 4, none⟩ = some (.int .i64 r4d0_4) := K9.out.cell 4
  have y9_5 : w9.cell? ⟨w5.heap.size, 5, none⟩ = some (.string r4d0_5) := K9.out.cell 5
  have y9_6 : w9.cell? ⟨w5.heap.size, 6, none⟩ = some (.string r4d0_6) := K9.out.cell 6
  have y9_7 : w9.cell? ⟨w5.heap.size, 7, none⟩ = some (.int .i64 r4d0_7) := K9.out.cell 7
  go_wp2_with fail
  refine (toHand aH [.int .i64 xaH0, .string xaH1, .string xaH2, .int .i64 xaH3, .int .i64 xaH4, .string xaH5, .string xaH6, .int .i64 xaH7] _ (RHand.made DaH.out (by omega) (by first | exact Below.refl _ _ | go_grown)) WaH.out).mono ?_
  rintro e w10 ⟨cs2, rfl, hr, hb⟩
  obtain ⟨c5_0, c5_1, c5_2, c5_3, c5_4, c5_5, c5_6, c5_7, rfl⟩ := shapeHand hr
  have Dc5 : Aside (RHand.rd True w10 (Span (w9.heap.size) w10.heap.size) aH [.int .i64 c5_0, .string c5_1, .string c5_2, .int .i64 c5_3, .int .i64 c5_4, .string c5_5, .string c5_6, .int .i64 c5_7]) := ⟨RHand.mono hr (fun b h => ⟨by have h1 := h.1; (try simp at h1); omega, h.2⟩)⟩
  clear hr
  clear l2 y2_0 y2_1 y2_2 y2_3 y2_4 y2_5 y2_6 y2_7
  clear l6 y6_0 y6_1 y6_2 y6_3 y6_4 y6_5 y6_6 y6_7
  clear l9 y9_0 y9_1 y9_2 y9_3 y9_4 y9_5 y9_6 y9_7
  have hst : Below w9.heap.size w9 w10 := below_later (by go_grown) hb
  have hbt : But NoB w9 w10 := But.below hst
  have gw10 : w9.heap.size ≤ w10.heap.size := hbt.size
  have kk := (K2.out).below hst
  clear K2
  have K2 := Aside.mk kk
  clear kk
  have kk := (K6.out).below hst
  clear K6
  have K6 := Aside.mk kk
  clear kk
  have kk := (K9.out).below hst
  clear K9
  have K9 := Aside.mk kk
  clear kk
  have bel2 := Aside.mk (below_later BEL.out hst)
  clear BEL
  have BEL := bel2
  clear bel2
  have dd := Aside.mk (RHand.but DaH.out hbt (fun b hb => ⟨by have h2 := hb.2; omega, fun h => h.elim⟩))
  clear DaH
  have DaH := dd
  clear dd
  have dd := Aside.mk (RHand.but Dc1.out hbt (fun b hb => ⟨by have h2 := hb.2; omega, fun h => h.elim⟩))
  clear Dc1
  have Dc1 := dd
  clear dd
  have dd := Aside.mk (RHand.but Dr2d0.out hbt (fun b hb => ⟨by have h2 := hb.2; omega, fun h => h.elim⟩))
  clear Dr2d0
  have Dr2d0 := dd
  clear dd
  have dd := Aside.mk (Rec.str.sl.but Dr2d1.out hbt (fun b hb => ⟨by have h2 := hb.2; omega, fun h => h.elim⟩))
  clear Dr2d1
  have Dr2d1 := dd
  clear dd
  have dd := Aside.mk (RHand.but Dc3.out hbt (fun b hb => ⟨by have h2 := hb.2; omega, fun h => h.elim⟩))
  clear Dc3
  have Dc3 := dd
  clear dd
  have dd := Aside.mk (RHand.but Dr4d0.out hbt (fun b hb => ⟨by have h2 := hb.2; omega, fun h => h.elim⟩))
  clear Dr4d0
  have Dr4d0 := dd
  clear dd
  have dd := Aside.mk (Rec.str.sl.but Dr4d1.out hbt (fun b hb => ⟨by have h2 := hb.2; omega, fun h => h.elim⟩))
  clear Dr4d1
  have Dr4d1 := dd
  clear dd
  clear hbt hst hb
  have l2 : w.heap.size < w10.heap.size := K2.out.lt
  have y2_0 : w10.cell? ⟨w.heap.size, 0, none⟩ = some (.int .i64 xaH0) := K2.out.cell 0
  have y2_1 : w10.cell? ⟨w.heap.size, 1, none⟩ = some (.string xaH1) := K2.out.cell 1
  have y2_2 : w10.cell? ⟨w.heap.size, 2, none⟩ = some (.string xaH2) := K2.out.cell 2
  have y2_3 : w10.cell? ⟨w.heap.size, 3, none⟩ = some (.int .i64 xaH3) := K2.out.cell 3
  have y2_4 : w10.cell? ⟨w.heap.size, 4, none⟩ = some (.int .i64 xaH4) := K2.out.cell 4
  have y2_5 : w10.cell? ⟨w.heap.size, 5, none⟩ = some (.string xaH5) := K2.out.cell 5
  have y2_6 : w10.cell? ⟨w.heap.size, 6, none⟩ = some (.string xaH6) := K2.out.cell 6
  have y2_7 : w10.cell? ⟨w.heap.size, 7, none⟩ = some (.int .i64 xaH7) := K2.out.cell 7
  have l6 : w3.heap.size < w10.heap.size := K6.out.lt
  have y6_0 : w10.cell? ⟨w3.heap.size, 0, none⟩ = some (.int .i64 r2d0_0) := K6.out.cell 0
  have y6_1 : w10.cell? ⟨w3.heap.size, 1, none⟩ = some (.string r2d0_1) := K6.out.cell 1
  have y6_2 : w10.cell? ⟨w3.heap.size, 2, none⟩ = some (.string r2d0_2) := K6.out.cell 2
  have y6_3 : w10.cell? ⟨w3.heap.size, 3, none⟩ = some (.int .i64 r2d0_3) := K6.out.cell 3
  have y6_4 : w10.cell? ⟨w3.heap.size, 4, none⟩ = some (.int .i64 r2d0_4) := K6.out.cell 4
  have y6_5 : w10.cell? ⟨w3.heap.size, 5, none⟩ = some (.string r2d0_5) := K6.out.cell 5
  have y6_6 : w10.cell? ⟨w3.heap.size, 6, none⟩ = some (.string r2d0_6) := K6.out.cell 6
  have y6_7 : w10.cell? ⟨w3.heap.size, 7, none⟩ = some (.int .i64 r2d0_7) := K6.out.cell 7
  have l9 : w5.heap.size < w10.heap.size := K9.out.lt
  have y9_0 : w10.cell? ⟨w5.heap.size, 0, none⟩ = some (.int .i64 r4d0_0) := K9.out.cell 0
  have y9_1 : w10.cell? ⟨w5.heap.size, 1, none⟩ = some (.string r4d0_1) := K9.out.cell 1
  have y9_2 : w10.cell? ⟨w5.heap.size, 2, none⟩ = some (.string r4d0_2) := K9.out.cell 2
  have y9_3 : w10.cell? ⟨w5.heap.size, 3, none⟩ = some (.int .i64 r4d0_3) := K9.out.cell 3
  have y9_4 : w10.cell? ⟨w5.heap.size, 4, none⟩ = some (.int .i64 r4d0_4) := K9.out.cell 4
  have y9_5 : w10.cell? ⟨w5.heap.size, 5, none⟩ = some (.string r4d0_5) := K9.out.cell 5
  have y9_6 : w10.cell? ⟨w5.heap.size, 6, none⟩ = some (.string r4d0_6) := K9.out.cell 6
  have y9_7 : w10.cell? ⟨w5.heap.size, 7, none⟩ = some (.int .i64 r4d0_7) := K9.out.cell 7
  go_wp2_with fail
  refine (iHSt aH aData [.int .i64 c5_0, .string c5_1, .string c5_2, .int .i64 c5_3, .int .i64 c5_4, .string c5_5, .string c5_6, .int .i64 c5_7] _ (RHand.made Dc5.out (by omega) (by first | exact Below.refl _ _ | go_grown)) WaH.out (by omega) (tab_below HT.out (below_later BEL.out (by first | exact Below.refl _ _ | go_grown)))).mono ?_
  rw [← HRES.out]
  rintro e w11 ⟨r6_0, r6_1, rfl, hr0, hr1, hb⟩
  have hr0 : RHand.rd True w11 _ x0 r6_0 := hr0
  obtain ⟨r6d0_0, r6d0_1, r6d0_2, r6d0_3, r6d0_4, r6d0_5, r6d0_6, r6d0_7, rfl⟩ := shapeHand hr0
  have Dr6d0 : Aside (RHand.rd True w11 (Span (0) 0) x0 [.int .i64 r6d0_0, .string r6d0_1, .string r6d0_2, .int .i64 r6d0_3, .int .i64 r6d0_4, .string r6d0_5, .string r6d0_6, .int .i64 r6d0_7]) := ⟨hand_any hr0⟩
  clear hr0
  have hr1 : Rec.str.sl.rd True w11 _ x1 [r6_1] := hr1
  obtain ⟨Ar6d1, cr6d1, e1, -⟩ := id hr1
  injection e1 with e1 _
  subst e1
  have Dr6d1 : Aside (Rec.str.sl.rd True w11 (Span (w10.heap.size) w11.heap.size) x1 [.slice Ar6d1 x1.length cr6d1]) := ⟨Rec.str.sl.mono hr1 (fun b h => ⟨by have h1 := h.1; (try simp at h1); omega, h.2⟩)⟩
  clear hr1
  clear l2 y2_0 y2_1 y2_2 y2_3 y2_4 y2_5 y2_6 y2_7
  clear l6 y6_0 y6_1 y6_2 y6_3 y6_4 y6_5 y6_6 y6_7
  clear l9 y9_0 y9_1 y9_2 y9_3 y9_4 y9_5 y9_6 y9_7
  have hst : Below w10.heap.size w10 w11 := below_later (by go_grown) hb
  have hbt : But NoB w10 w11 := But.below hst
  have gw11 : w10.heap.size ≤ w11.heap.size := hbt.size
  have kk := (K2.out).below hst
  clear K2
  have K2 := Aside.mk kk
  clear kk
  have kk := (K6.out).below hst
  clear K6
  have K6 := Aside.mk kk
  clear kk
  have kk := (K9.out).below hst
  clear K9
  have K9 := Aside.mk kk
  clear kk
  have bel2 := Aside.mk (below_later BEL.out hst)
  clear BEL
  have BEL := bel2
  clear bel2
  have dd := Aside.mk (RHand.but DaH.out hbt (fun b hb => ⟨by have h2 := hb.2; omega, fun h => h.elim⟩))
  clear DaH
  have DaH := dd
  clear dd
  have dd := Aside.mk (RHand.but Dc1.out hbt (fun b hb => ⟨by have h2 := hb.2; omega, fun h => h.elim⟩))
  clear Dc1
  have Dc1 := dd
  clear dd
  have dd := Aside.mk (RHand.but Dr2d0.out hbt (fun b hb => ⟨by have h2 := hb.2; omega, fun h => h.elim⟩))
  clear Dr2d0
  have Dr2d0 := dd
  clear dd
  have dd := Aside.mk (Rec.str.sl.but Dr2d1.out hbt (fun b hb => ⟨by have h2 := hb.2; omega, fun h => h.elim⟩))
  clear Dr2d1
  have Dr2d1 := dd
  clear dd
  have dd := Aside.mk (RHand.but Dc3.out hbt (fun b hb => ⟨by have h2 := hb.2; omega, fun h => h.elim⟩))
  clear Dc3
  have Dc3 := dd
  clear dd
  have dd := Aside.mk (RHand.but Dr4d0.out hbt (fun b hb => ⟨by have h2 := hb.2; omega, fun h => h.elim⟩))
  clear Dr4d0
  have Dr4d0 := dd
  clear dd
  have dd := Aside.mk (Rec.str.sl.but Dr4d1.out hbt (fun b hb => ⟨by have h2 := hb.2; omega, fun h => h.elim⟩))
  clear Dr4d1
  have Dr4d1 := dd
  clear dd
  have dd := Aside.mk (RHand.but Dc5.out hbt (fun b hb => ⟨by have h2 := hb.2; omega, fun h => h.elim⟩))
  clear Dc5
  have Dc5 := dd
  clear dd
  clear hbt hst hb
  have l2 : w.heap.size < w11.heap.size := K2.out.lt
  have y2_0 : w11.cell? ⟨w.heap.size, 0, none⟩ = some (.int .i64 xaH0) := K2.out.cell 0
  have y2_1 : w11.cell? ⟨w.heap.size, 1, none⟩ = some (.string xaH1) := K2.out.cell 1
  have y2_2 : w11.cell? ⟨w.heap.size, 2, none⟩ = some (.string xaH2) := K2.out.cell 2
  have y2_3 : w11.cell? ⟨w.heap.size, 3, none⟩ = some (.int .i64 xaH3) := K2.out.cell 3
  have y2_4 : w11.cell? ⟨w.heap.size, 4, none⟩ = some (.int .i64 xaH4) := K2.out.cell 4
  have y2_5 : w11.cell? ⟨w.heap.size, 5, none⟩ = some (.string xaH5) := K2.out.cell 5
  have y2_6 : w11.cell? ⟨w.heap.size, 6, none⟩ = some (.string xaH6) := K2.out.cell 6
  have y2_7 : w11.cell? ⟨w.heap.size, 7, none⟩ = some (.int .i64 xaH7) := K2.out.cell 7
  have l6 : w3.heap.size < w11.heap.size := K6.out.lt
  have y6_0 : w11.cell? ⟨w3.heap.size, 0, none⟩ = some (.int .i64 r2d0_0) := K6.out.cell 0
  have y6_1 : w11.cell? ⟨w3.heap.size, 1, none⟩ = some (.string r2d0_1) := K6.out.cell 1
  have y6_2 : w11.cell? ⟨w3.heap.size, 2, none⟩ = some (.string r2d0_2) := K6.out.cell 2
  have y6_3 : w11.cell? ⟨w3.heap.size, 3, none⟩ = some (.int .i64 r2d0_3) := K6.out.cell 3
  have y6_4 : w11.cell? ⟨w3.heap.size, 4, none⟩ = some (.int .i64 r2d0_4) := K6.out.cell 4
  have y6_5 : w11.cell? ⟨w3.heap.size, 5, none⟩ = some (.string r2d0_5) := K6.out.cell 5
  have y6_6 : w11.cell? ⟨w3.heap.size, 6, none⟩ = some (.string r2d0_6) := K6.out.cell 6
  have y6_7 : w11.cell? ⟨w3.heap.size, 7, none⟩ = some (.int .i64 r2d0_7) := K6.out.cell 7
  have l9 : w5.heap.size < w11.heap.size := K9.out.lt
  have y9_0 : w11.cell? ⟨w5.heap.size, 0, none⟩ = some (.int .i64 r4d0_0) := K9.out.cell 0
  have y9_1 : w11.cell? ⟨w5.heap.size, 1, none⟩ = some (.string r4d0_1) := K9.out.cell 1
  have y9_2 : w11.cell? ⟨w5.heap.size, 2, none⟩ = some (.string r4d0_2) := K9.out.cell 2
  have y9_3 : w11.cell? ⟨w5.heap.size, 3, none⟩ = some (.int .i64 r4d0_3) := K9.out.cell 3
  have y9_4 : w11.cell? ⟨w5.heap.size, 4, none⟩ = some (.int .i64 r4d0_4) := K9.out.cell 4
  have y9_5 : w11.cell? ⟨w5.heap.size, 5, none⟩ = some (.string r4d0_5) := K9.out.cell 5
  have y9_6 : w11.cell? ⟨w5.heap.size, 6, none⟩ = some (.string r4d0_6) := K9.out.cell 6
  have y9_7 : w11.cell? ⟨w5.heap.size, 7, none⟩ = some (.int .i64 r4d0_7) := K9.out.cell 7
  go_wp2_with fail
  refine (eqHand x0 [.int .i64 r6d0_0, .string r6d0_1, .string r6d0_2, .int .i64 r6d0_3, .int .i64 r6d0_4, .string r6d0_5, .string r6d0_6, .int .i64 r6d0_7] [.int .i64 r2d0_0, .string r2d0_1, .string r2d0_2, .int .i64 r2d0_3, .int .i64 r2d0_4, .string r2d0_5, .string r2d0_6, .int .i64 r2d0_7] _ (RHand.made Dr6d0.out (by omega) (by first | exact Below.refl _ _ | go_grown)) (RHand.made Dr2d0.out (by omega) (by first | exact Below.refl _ _ | go_grown)) HOK0.out).mono ?_
  rintro e w12 ⟨rfl, hb⟩
  clear l2 y2_0 y2_1 y2_2 y2_3 y2_4 y2_5 y2_6 y2_7
  clear l6 y6_0 y6_1 y6_2 y6_3 y6_4 y6_5 y6_6 y6_7
  clear l9 y9_0 y9_1 y9_2 y9_3 y9_4 y9_5 y9_6 y9_7
  have hst : Below w11.heap.size w11 w12 := below_later (by go_grown) hb
  have hbt : But NoB w11 w12 := But.below hst
  have gw12 : w11.heap.size ≤ w12.heap.size := hbt.size
  have kk := (K2.out).below hst
  clear K2
  have K2 := Aside.mk kk
  clear kk
  have kk := (K6.out).below hst
  clear K6
  have K6 := Aside.mk kk
  clear kk
  have kk := (K9.out).below hst
  clear K9
  have K9 := Aside.mk kk
  clear kk
  have K14 := Aside.mk ((Blk.made w11 27 [.int .i64 r6d0_0, .string r6d0_1, .string r6d0_2, .int .i64 r6d0_3, .int .i64 r6d0_4, .string r6d0_5, .string r6d0_6, .int .i64 r6d0_7] (g := w11.heap.size) (by simp)).below hb)
  have m14 : w11.heap.size < w12.heap.size := K14.out.lt
  have bel2 := Aside.mk (below_later BEL.out hst)
  clear BEL
  have BEL := bel2
  clear bel2
  have dd := Aside.mk (RHand.but DaH.out hbt (fun b hb => ⟨by have h2 := hb.2; omega, fun h => h.elim⟩))
  clear DaH
  have DaH := dd
  clear dd
  have dd := Aside.mk (RHand.but Dc1.out hbt (fun b hb => ⟨by have h2 := hb.2; omega, fun h => h.elim⟩))
  clear Dc1
  have Dc1 := dd
  clear dd
  have dd := Aside.mk (RHand.but Dr2d0.out hbt (fun b hb => ⟨by have h2 := hb.2; omega, fun h => h.elim⟩))
  clear Dr2d0
  have Dr2d0 := dd
  clear dd
  have dd := Aside.mk (Rec.str.sl.but Dr2d1.out hbt (fun b hb => ⟨by have h2 := hb.2; omega, fun h => h.elim⟩))
  clear Dr2d1
  have Dr2d1 := dd
  clear dd
  have dd := Aside.mk (RHand.but Dc3.out hbt (fun b hb => ⟨by have h2 := hb.2; omega, fun h => h.elim⟩))
  clear Dc3
  have Dc3 := dd
  clear dd
  have dd := Aside.mk (RHand.but Dr4d0.out hbt (fun b hb => ⟨by have h2 := hb.2; omega, fun h => h.elim⟩))
  clear Dr4d0
  have Dr4d0 := dd
  clear dd
  have dd := Aside.mk (Rec.str.sl.but Dr4d1.out hbt (fun b hb => ⟨by have h2 := hb.2; omega, fun h => h.elim⟩))
  clear Dr4d1
  have Dr4d1 := dd
  clear dd
  have dd := Aside.mk (RHand.but Dc5.out hbt (fun b hb => ⟨by have h2 := hb.2; omega, fun h => h.elim⟩))
  clear Dc5
  have Dc5 := dd
  clear dd
  have dd := Aside.mk (RHand.but Dr6d0.out hbt (fun b hb => ⟨by have h2 := hb.2; omega, fun h => h.elim⟩))
  clear Dr6d0
  have Dr6d0 := dd
  clear dd
  have dd := Aside.mk (Rec.str.sl.but Dr6d1.out hbt (fun b hb => ⟨by have h2 := hb.2; omega, fun h => h.elim⟩))
  clear Dr6d1
  have Dr6d1 := dd
  clear dd
  clear hbt hst hb
  have l2 : w.heap.size < w12.heap.size := K2.out.lt
  have y2_0 : w12.cell? ⟨w.heap.size, 0, none⟩ = some (.int .i64 xaH0) := K2.out.cell 0
  have y2_1 : w12.cell? ⟨w.heap.size, 1, none⟩ = some (.string xaH1) := K2.out.cell 1
  have y2_2 : w12.cell? ⟨w.heap.size, 2, none⟩ = some (.string xaH2) := K2.out.cell 2
  have y2_3 : w12.cell? ⟨w.heap.size, 3, none⟩ = some (.int .i64 xaH3) := K2.out.cell 3
  have y2_4 : w12.cell? ⟨w.heap.size, 4, none⟩ = some (.int .i64 xaH4) := K2.out.cell 4
  have y2_5 : w12.cell? ⟨w.heap.size, 5, none⟩ = some (.string xaH5) := K2.out.cell 5
  have y2_6 : w12.cell? ⟨w.heap.size, 6, none⟩ = some (.string xaH6) := K2.out.cell 6
  have y2_7 : w12.cell? ⟨w.heap.size, 7, none⟩ = some (.int .i64 xaH7) := K2.out.cell 7
  have l6 : w3.heap.size < w12.heap.size := K6.out.lt
  have y6_0 : w12.cell? ⟨w3.heap.size, 0, none⟩ = some (.int .i64 r2d0_0) := K6.out.cell 0
  have y6_1 : w12.cell? ⟨w3.heap.size, 1, none⟩ = some (.string r2d0_1) := K6.out.cell 1
  have y6_2 : w12.cell? ⟨w3.heap.size, 2, none⟩ = some (.string r2d0_2) := K6.out.cell 2
  have y6_3 : w12.cell? ⟨w3.heap.size, 3, none⟩ = some (.int .i64 r2d0_3) := K6.out.cell 3
  have y6_4 : w12.cell? ⟨w3.heap.size, 4, none⟩ = some (.int .i64 r2d0_4) := K6.out.cell 4
  have y6_5 : w12.cell? ⟨w3.heap.size, 5, none⟩ = some (.string r2d0_5) := K6.out.cell 5
  have y6_6 : w12.cell? ⟨w3.heap.size, 6, none⟩ = some (.string r2d0_6) := K6.out.cell 6
  have y6_7 : w12.cell? ⟨w3.heap.size, 7, none⟩ = some (.int .i64 r2d0_7) := K6.out.cell 7
  have l9 : w5.heap.size < w12.heap.size := K9.out.lt
  have y9_0 : w12.cell? ⟨w5.heap.size, 0, none⟩ = some (.int .i64 r4d0_0) := K9.out.cell 0
  have y9_1 : w12.cell? ⟨w5.heap.size, 1, none⟩ = some (.string r4d0_1) := K9.out.cell 1
  have y9_2 : w12.cell? ⟨w5.heap.size, 2, none⟩ = some (.string r4d0_2) := K9.out.cell 2
  have y9_3 : w12.cell? ⟨w5.heap.size, 3, none⟩ = some (.int .i64 r4d0_3) := K9.out.cell 3
  have y9_4 : w12.cell? ⟨w5.heap.size, 4, none⟩ = some (.int .i64 r4d0_4) := K9.out.cell 4
  have y9_5 : w12.cell? ⟨w5.heap.size, 5, none⟩ = some (.string r4d0_5) := K9.out.cell 5
  have y9_6 : w12.cell? ⟨w5.heap.size, 6, none⟩ = some (.string r4d0_6) := K9.out.cell 6
  have y9_7 : w12.cell? ⟨w5.heap.size, 7, none⟩ = some (.int .i64 r4d0_7) := K9.out.cell 7
  have l14 : w11.heap.size < w12.heap.size := K14.out.lt
  have y14_0 : w12.cell? ⟨w11.heap.size, 0, none⟩ = some (.int .i64 r6d0_0) := K14.out.cell 0
  have y14_1 : w12.cell? ⟨w11.heap.size, 1, none⟩ = some (.string r6d0_1) := K14.out.cell 1
  have y14_2 : w12.cell? ⟨w11.heap.size, 2, none⟩ = some (.string r6d0_2) := K14.out.cell 2
  have y14_3 : w12.cell? ⟨w11.heap.size, 3, none⟩ = some (.int .i64 r6d0_3) := K14.out.cell 3
  have y14_4 : w12.cell? ⟨w11.heap.size, 4, none⟩ = some (.int .i64 r6d0_4) := K14.out.cell 4
  have y14_5 : w12.cell? ⟨w11.heap.size, 5, none⟩ = some (.string r6d0_5) := K14.out.cell 5
  have y14_6 : w12.cell? ⟨w11.heap.size, 6, none⟩ = some (.string r6d0_6) := K14.out.cell 6
  have y14_7 : w12.cell? ⟨w11.heap.size, 7, none⟩ = some (.int .i64 r6d0_7) := K14.out.cell 7
  go_wp2_with fail
  refine (eqStringS x1 _ _ _ (Rec.str.sl.made Dr6d1.out (by omega) (by first | exact Below.refl _ _ | go_grown)) (Rec.str.sl.made Dr2d1.out (by omega) (by first | exact Below.refl _ _ | go_grown)) HOK1.out).mono ?_
  rintro e w13 ⟨rfl, hb⟩
  clear l2 y2_0 y2_1 y2_2 y2_3 y2_4 y2_5 y2_6 y2_7
  clear l6 y6_0 y6_1 y6_2 y6_3 y6_4 y6_5 y6_6 y6_7
  clear l9 y9_0 y9_1 y9_2 y9_3 y9_4 y9_5 y9_6 y9_7
  clear l14 y14_0 y14_1 y14_2 y14_3 y14_4 y14_5 y14_6 y14_7
  have hst : Below w12.heap.size w12 w13 := below_later (by go_grown) hb
  have hbt : But NoB w12 w13 := But.below hst
  have gw13 : w12.heap.size ≤ w13.heap.size := hbt.size
  have kk := (K2.out).below hst
  clear K2
  have K2 := Aside.mk kk
  clear kk
  have kk := (K6.out).below hst
  clear K6
  have K6 := Aside.mk kk
  clear kk
  have kk := (K9.out).below hst
  clear K9
  have K9 := Aside.mk kk
  clear kk
  have kk := (K14.out).below hst
  clear K14
  have K14 := Aside.mk kk
  clear kk
  have bel2 := Aside.mk (below_later BEL.out hst)
  clear BEL
  have BEL := bel2
  clear bel2
  have dd := Aside.mk (RHand.but DaH.out hbt (fun b hb => ⟨by have h2 := hb.2; omega, fun h => h.elim⟩))
  clear DaH
  have DaH := dd
  clear dd
  have dd := Aside.mk (RHand.but Dc1.out hbt (fun b hb => ⟨by have h2 := hb.2; omega, fun h => h.elim⟩))
  clear Dc1
  have Dc1 := dd
  clear dd
  have dd := Aside.mk (RHand.but Dr2d0.out hbt (fun b hb => ⟨by have h2 := hb.2; omega, fun h => h.elim⟩))
  clear Dr2d0
  have Dr2d0 := dd
  clear dd
  have dd := Aside.mk (Rec.str.sl.but Dr2d1.out hbt (fun b hb => ⟨by have h2 := hb.2; omega, fun h => h.elim⟩))
  clear Dr2d1
  have Dr2d1 := dd
  clear dd
  have dd := Aside.mk (RHand.but Dc3.out hbt (fun b hb => ⟨by have h2 := hb.2; omega, fun h => h.elim⟩))
  clear Dc3
  have Dc3 := dd
  clear dd
  have dd := Aside.mk (RHand.but Dr4d0.out hbt (fun b hb => ⟨by have h2 := hb.2; omega, fun h => h.elim⟩))
  clear Dr4d0
  have Dr4d0 := dd
  clear dd
  have dd := Aside.mk (Rec.str.sl.but Dr4d1.out hbt (fun b hb => ⟨by have h2 := hb.2; omega, fun h => h.elim⟩))
  clear Dr4d1
  have Dr4d1 := dd
  clear dd
  have dd := Aside.mk (RHand.but Dc5.out hbt (fun b hb => ⟨by have h2 := hb.2; omega, fun h => h.elim⟩))
  clear Dc5
  have Dc5 := dd
  clear dd
  have dd := Aside.mk (RHand.but Dr6d0.out hbt (fun b hb => ⟨by have h2 := hb.2; omega, fun h => h.elim⟩))
  clear Dr6d0
  have Dr6d0 := dd
  clear dd
  have dd := Aside.mk (Rec.str.sl.but Dr6d1.out hbt (fun b hb => ⟨by have h2 := hb.2; omega, fun h => h.elim⟩))
  clear Dr6d1
  have Dr6d1 := dd
  clear dd
  clear hbt hst hb
  have l2 : w.heap.size < w13.heap.size := K2.out.lt
  have y2_0 : w13.cell? ⟨w.heap.size, 0, none⟩ = some (.int .i64 xaH0) := K2.out.cell 0
  have y2_1 : w13.cell? ⟨w.heap.size, 1, none⟩ = some (.string xaH1) := K2.out.cell 1
  have y2_2 : w13.cell? ⟨w.heap.size, 2, none⟩ = some (.string xaH2) := K2.out.cell 2
  have y2_3 : w13.cell? ⟨w.heap.size, 3, none⟩ = some (.int .i64 xaH3) := K2.out.cell 3
  have y2_4 : w13.cell? ⟨w.heap.size, 4, none⟩ = some (.int .i64 xaH4) := K2.out.cell 4
  have y2_5 : w13.cell? ⟨w.heap.size, 5, none⟩ = some (.string xaH5) := K2.out.cell 5
  have y2_6 : w13.cell? ⟨w.heap.size, 6, none⟩ = some (.string xaH6) := K2.out.cell 6
  have y2_7 : w13.cell? ⟨w.heap.size, 7, none⟩ = some (.int .i64 xaH7) := K2.out.cell 7
  have l6 : w3.heap.size < w13.heap.size := K6.out.lt
  have y6_0 : w13.cell? ⟨w3.heap.size, 0, none⟩ = some (.int .i64 r2d0_0) := K6.out.cell 0
  have y6_1 : w13.cell? ⟨w3.heap.size, 1, none⟩ = some (.string r2d0_1) := K6.out.cell 1
  have y6_2 : w13.cell? ⟨w3.heap.size, 2, none⟩ = some (.string r2d0_2) := K6.out.cell 2
  have y6_3 : w13.cell? ⟨w3.heap.size, 3, none⟩ = some (.int .i64 r2d0_3) := K6.out.cell 3
  have y6_4 : w13.cell? ⟨w3.heap.size, 4, none⟩ = some (.int .i64 r2d0_4) := K6.out.cell 4
  have y6_5 : w13.cell? ⟨w3.heap.size, 5, none⟩ = some (.string r2d0_5) := K6.out.cell 5
  have y6_6 : w13.cell? ⟨w3.heap.size, 6, none⟩ = some (.string r2d0_6) := K6.out.cell 6
  have y6_7 : w13.cell? ⟨w3.heap.size, 7, none⟩ = some (.int .i64 r2d0_7) := K6.out.cell 7
  have l9 : w5.heap.size < w13.heap.size := K9.out.lt
  have y9_0 : w13.cell? ⟨w5.heap.size, 0, none⟩ = some (.int .i64 r4d0_0) := K9.out.cell 0
  have y9_1 : w13.cell? ⟨w5.heap.size, 1, none⟩ = some (.string r4d0_1) := K9.out.cell 1
  have y9_2 : w13.cell? ⟨w5.heap.size, 2, none⟩ = some (.string r4d0_2) := K9.out.cell 2
  have y9_3 : w13.cell? ⟨w5.heap.size, 3, none⟩ = some (.int .i64 r4d0_3) := K9.out.cell 3
  have y9_4 : w13.cell? ⟨w5.heap.size, 4, none⟩ = some (.int .i64 r4d0_4) := K9.out.cell 4
  have y9_5 : w13.cell? ⟨w5.heap.size, 5, none⟩ = some (.string r4d0_5) := K9.out.cell 5
  have y9_6 : w13.cell? ⟨w5.heap.size, 6, none⟩ = some (.string r4d0_6) := K9.out.cell 6
  have y9_7 : w13.cell? ⟨w5.heap.size, 7, none⟩ = some (.int .i64 r4d0_7) := K9.out.cell 7
  have l14 : w11.heap.size < w13.heap.size := K14.out.lt
  have y14_0 : w13.cell? ⟨w11.heap.size, 0, none⟩ = some (.int .i64 r6d0_0) := K14.out.cell 0
  have y14_1 : w13.cell? ⟨w11.heap.size, 1, none⟩ = some (.string r6d0_1) := K14.out.cell 1
  have y14_2 : w13.cell? ⟨w11.heap.size, 2, none⟩ = some (.string r6d0_2) := K14.out.cell 2
  have y14_3 : w13.cell? ⟨w11.heap.size, 3, none⟩ = some (.int .i64 r6d0_3) := K14.out.cell 3
  have y14_4 : w13.cell? ⟨w11.heap.size, 4, none⟩ = some (.int .i64 r6d0_4) := K14.out.cell 4
  have y14_5 : w13.cell? ⟨w11.heap.size, 5, none⟩ = some (.string r6d0_5) := K14.out.cell 5
  have y14_6 : w13.cell? ⟨w11.heap.size, 6, none⟩ = some (.string r6d0_6) := K14.out.cell 6
  have y14_7 : w13.cell? ⟨w11.heap.size, 7, none⟩ = some (.int .i64 r6d0_7) := K14.out.cell 7
  go_wp2_with fail
  refine (heldStringS z1 (.slice Ar4d1 x1.length cr4d1) _ (1) k1 (Rec.str.sl.made Dr4d1.out (by omega) (by first | exact Below.refl _ _ | go_grown)) HHk1.out (by omega) (by omega)).mono ?_
  rintro e w14 ⟨rfl, hb⟩
  clear l2 y2_0 y2_1 y2_2 y2_3 y2_4 y2_5 y2_6 y2_7
  clear l6 y6_0 y6_1 y6_2 y6_3 y6_4 y6_5 y6_6 y6_7
  clear l9 y9_0 y9_1 y9_2 y9_3 y9_4 y9_5 y9_6 y9_7
  clear l14 y14_0 y14_1 y14_2 y14_3 y14_4 y14_5 y14_6 y14_7
  have hst : Below w13.heap.size w13 w14 := below_later (by go_grown) hb
  have hbt : But NoB w13 w14 := But.below hst
  have gw14 : w13.heap.size ≤ w14.heap.size := hbt.size
  have kk := (K2.out).below hst
  clear K2
  have K2 := Aside.mk kk
  clear kk
  have kk := (K6.out).below hst
  clear K6
  have K6 := Aside.mk kk
  clear kk
  have kk := (K9.out).below hst
  clear K9
  have K9 := Aside.mk kk
  clear kk
  have kk := (K14.out).below hst
  clear K14
  have K14 := Aside.mk kk
  clear kk
  have bel2 := Aside.mk (below_later BEL.out hst)
  clear BEL
  have BEL := bel2
  clear bel2
  have dd := Aside.mk (RHand.but DaH.out hbt (fun b hb => ⟨by have h2 := hb.2; omega, fun h => h.elim⟩))
  clear DaH
  have DaH := dd
  clear dd
  have dd := Aside.mk (RHand.but Dc1.out hbt (fun b hb => ⟨by have h2 := hb.2; omega, fun h => h.elim⟩))
  clear Dc1
  have Dc1 := dd
  clear dd
  have dd := Aside.mk (RHand.but Dr2d0.out hbt (fun b hb => ⟨by have h2 := hb.2; omega, fun h => h.elim⟩))
  clear Dr2d0
  have Dr2d0 := dd
  clear dd
  have dd := Aside.mk (Rec.str.sl.but Dr2d1.out hbt (fun b hb => ⟨by have h2 := hb.2; omega, fun h => h.elim⟩))
  clear Dr2d1
  have Dr2d1 := dd
  clear dd
  have dd := Aside.mk (RHand.but Dc3.out hbt (fun b hb => ⟨by have h2 := hb.2; omega, fun h => h.elim⟩))
  clear Dc3
  have Dc3 := dd
  clear dd
  have dd := Aside.mk (RHand.but Dr4d0.out hbt (fun b hb => ⟨by have h2 := hb.2; omega, fun h => h.elim⟩))
  clear Dr4d0
  have Dr4d0 := dd
  clear dd
  have dd := Aside.mk (Rec.str.sl.but Dr4d1.out hbt (fun b hb => ⟨by have h2 := hb.2; omega, fun h => h.elim⟩))
  clear Dr4d1
  have Dr4d1 := dd
  clear dd
  have dd := Aside.mk (RHand.but Dc5.out hbt (fun b hb => ⟨by have h2 := hb.2; omega, fun h => h.elim⟩))
  clear Dc5
  have Dc5 := dd
  clear dd
  have dd := Aside.mk (RHand.but Dr6d0.out hbt (fun b hb => ⟨by have h2 := hb.2; omega, fun h => h.elim⟩))
  clear Dr6d0
  have Dr6d0 := dd
  clear dd
  have dd := Aside.mk (Rec.str.sl.but Dr6d1.out hbt (fun b hb => ⟨by have h2 := hb.2; omega, fun h => h.elim⟩))
  clear Dr6d1
  have Dr6d1 := dd
  clear dd
  clear hbt hst hb
  have l2 : w.heap.size < w14.heap.size := K2.out.lt
  have y2_0 : w14.cell? ⟨w.heap.size, 0, none⟩ = some (.int .i64 xaH0) := K2.out.cell 0
  have y2_1 : w14.cell? ⟨w.heap.size, 1, none⟩ = some (.string xaH1) := K2.out.cell 1
  have y2_2 : w14.cell? ⟨w.heap.size, 2, none⟩ = some (.string xaH2) := K2.out.cell 2
  have y2_3 : w14.cell? ⟨w.heap.size, 3, none⟩ = some (.int .i64 xaH3) := K2.out.cell 3
  have y2_4 : w14.cell? ⟨w.heap.size, 4, none⟩ = some (.int .i64 xaH4) := K2.out.cell 4
  have y2_5 : w14.cell? ⟨w.heap.size, 5, none⟩ = some (.string xaH5) := K2.out.cell 5
  have y2_6 : w14.cell? ⟨w.heap.size, 6, none⟩ = some (.string xaH6) := K2.out.cell 6
  have y2_7 : w14.cell? ⟨w.heap.size, 7, none⟩ = some (.int .i64 xaH7) := K2.out.cell 7
  have l6 : w3.heap.size < w14.heap.size := K6.out.lt
  have y6_0 : w14.cell? ⟨w3.heap.size, 0, none⟩ = some (.int .i64 r2d0_0) := K6.out.cell 0
  have y6_1 : w14.cell? ⟨w3.heap.size, 1, none⟩ = some (.string r2d0_1) := K6.out.cell 1
  have y6_2 : w14.cell? ⟨w3.heap.size, 2, none⟩ = some (.string r2d0_2) := K6.out.cell 2
  have y6_3 : w14.cell? ⟨w3.heap.size, 3, none⟩ = some (.int .i64 r2d0_3) := K6.out.cell 3
  have y6_4 : w14.cell? ⟨w3.heap.size, 4, none⟩ = some (.int .i64 r2d0_4) := K6.out.cell 4
  have y6_5 : w14.cell? ⟨w3.heap.size, 5, none⟩ = some (.string r2d0_5) := K6.out.cell 5
  have y6_6 : w14.cell? ⟨w3.heap.size, 6, none⟩ = some (.string r2d0_6) := K6.out.cell 6
  have y6_7 : w14.cell? ⟨w3.heap.size, 7, none⟩ = some (.int .i64 r2d0_7) := K6.out.cell 7
  have l9 : w5.heap.size < w14.heap.size := K9.out.lt
  have y9_0 : w14.cell? ⟨w5.heap.size, 0, none⟩ = some (.int .i64 r4d0_0) := K9.out.cell 0
  have y9_1 : w14.cell? ⟨w5.heap.size, 1, none⟩ = some (.string r4d0_1) := K9.out.cell 1
  have y9_2 : w14.cell? ⟨w5.heap.size, 2, none⟩ = some (.string r4d0_2) := K9.out.cell 2
  have y9_3 : w14.cell? ⟨w5.heap.size, 3, none⟩ = some (.int .i64 r4d0_3) := K9.out.cell 3
  have y9_4 : w14.cell? ⟨w5.heap.size, 4, none⟩ = some (.int .i64 r4d0_4) := K9.out.cell 4
  have y9_5 : w14.cell? ⟨w5.heap.size, 5, none⟩ = some (.string r4d0_5) := K9.out.cell 5
  have y9_6 : w14.cell? ⟨w5.heap.size, 6, none⟩ = some (.string r4d0_6) := K9.out.cell 6
  have y9_7 : w14.cell? ⟨w5.heap.size, 7, none⟩ = some (.int .i64 r4d0_7) := K9.out.cell 7
  have l14 : w11.heap.size < w14.heap.size := K14.out.lt
  have y14_0 : w14.cell? ⟨w11.heap.size, 0, none⟩ = some (.int .i64 r6d0_0) := K14.out.cell 0
  have y14_1 : w14.cell? ⟨w11.heap.size, 1, none⟩ = some (.string r6d0_1) := K14.out.cell 1
  have y14_2 : w14.cell? ⟨w11.heap.size, 2, none⟩ = some (.string r6d0_2) := K14.out.cell 2
  have y14_3 : w14.cell? ⟨w11.heap.size, 3, none⟩ = some (.int .i64 r6d0_3) := K14.out.cell 3
  have y14_4 : w14.cell? ⟨w11.heap.size, 4, none⟩ = some (.int .i64 r6d0_4) := K14.out.cell 4
  have y14_5 : w14.cell? ⟨w11.heap.size, 5, none⟩ = some (.string r6d0_5) := K14.out.cell 5
  have y14_6 : w14.cell? ⟨w11.heap.size, 6, none⟩ = some (.string r6d0_6) := K14.out.cell 6
  have y14_7 : w14.cell? ⟨w11.heap.size, 7, none⟩ = some (.int .i64 r6d0_7) := K14.out.cell 7
  go_wp2_with fail
  go_ret
  exact ⟨rfl, BEL.out⟩
end Go.Proofs.YtlopbheahedofaaDoor.Fn
