/- Walk of the law FnExactTabGet. Conditions: those of each theorem. -/
import Derived.Test.YtdcmoilajplfdaaTG5
import Derived.Test.YtdcmoilajplfdaaEnv
set_option linter.unusedVariables false
namespace Go.Proofs.Ytdcmoilajplfdaa.Fn
open Go.RowKit Go.Proofs.Ytdcmoilajplfdaa.Lib Go.Proofs.Ytdcmoilajplfdaa.Plan
attribute [local go_sem] look_tmp look_const look_func look_global lookT_nil lookT_hit lookT_miss
set_option maxRecDepth 100000 in
set_option maxHeartbeats 8000000 in
theorem FnExactTabGet (aT : ATable) (csaT : List Value) (aKey : T) (csaKey : List Value) (w : World) (haT : RTable.rd False w (Old w) aT csaT) (oaT : RTable.ok aT) (haKey : Rec.term.rd False w (Old w) aKey csaKey) (oaKey : Rec.term.ok aKey) :
    Calls Try.prog 10 #[.agg csaT.toArray, .agg csaKey.toArray] w fun e w' => e = .returned (.bool true) ∧ Below w.heap.size w w' := by
  obtain ⟨xaT0, xaT1a, xaT1b, xaT1c, rfl⟩ := shapeTable haT
  have DaT : Aside (RTable.rd False w (Span 0 w.heap.size) aT [.int .i64 xaT0, .slice xaT1a xaT1b xaT1c]) := ⟨RTable.mono haT (fun b h => ⟨Nat.zero_le _, h⟩)⟩
  have OaT := Aside.mk oaT
  obtain ⟨naT, taT⟩ : ∃ n, RTable.wt aT = n := ⟨_, rfl⟩
  have TaT := Aside.mk taT
  clear haT oaT taT
  obtain ⟨xaKey0, xaKey1, xaKey2, xaKey3a, xaKey3b, xaKey3c, rfl⟩ := shapeTerm haKey
  have DaKey : Aside (Rec.term.rd False w (Span 0 w.heap.size) aKey [.int .i64 xaKey0, .int .i64 xaKey1, .string xaKey2, .slice xaKey3a xaKey3b xaKey3c]) := ⟨Rec.term.mono haKey (fun b h => ⟨Nat.zero_le _, h⟩)⟩
  have OaKey := Aside.mk oaKey
  obtain ⟨naKey, taKey⟩ : ∃ n, Rec.term.wt aKey = n := ⟨_, rfl⟩
  have TaKey := Aside.mk taKey
  clear haKey oaKey taKey
  obtain ⟨⟨x0, x1⟩, hRES⟩ : ∃ r, r = getR aT.1 aT.2 aKey := ⟨_, rfl⟩
  have HRES := Aside.mk hRES
  clear hRES
  show Calls Try.prog 10 #[.agg #[.int .i64 xaT0, .slice xaT1a xaT1b xaT1c], .agg #[.int .i64 xaKey0, .int .i64 xaKey1, .string xaKey2, .slice xaKey3a xaKey3b xaKey3c]] w _
  have BEL : Aside (Below w.heap.size w w) := ⟨Below.refl _ _⟩
  go_enter Try.func10, Try.ntmps10
  go_wp2_with fail
  refine (szTable aT [.int .i64 xaT0, .slice xaT1a xaT1b xaT1c] _ (1048576) (RTable.made DaT.out (by omega) (by first | exact Below.refl _ _ | go_grown)) OaT.out (by omega) (by omega)).mono ?_
  rintro e w1 ⟨rfl, hb⟩
  have hst : Below w.heap.size w w1 := below_later (by go_grown) hb
  have hbt : But NoB w w1 := But.below hst
  have gw1 : w.heap.size ≤ w1.heap.size := hbt.size
  have K2 := Aside.mk (((Blk.made w 38 [.int .i64 xaT0, .slice xaT1a xaT1b xaT1c] (g := w.heap.size) (by simp)).alloc _).below hb)
  have m2 : w.heap.size < w1.heap.size := K2.out.lt
  have K3 := Aside.mk ((Blk.made (w.alloc _) 24 [.int .i64 xaKey0, .int .i64 xaKey1, .string xaKey2, .slice xaKey3a xaKey3b xaKey3c] (g := w.heap.size + 1) (by simp)).below hb)
  have m3 : w.heap.size + 1 < w1.heap.size := K3.out.lt
  have bel2 := Aside.mk (below_later BEL.out hst)
  clear BEL
  have BEL := bel2
  clear bel2
  have dd := Aside.mk (RTable.but DaT.out hbt (fun b hb => ⟨by have h2 := hb.2; omega, fun h => h.elim⟩))
  clear DaT
  have DaT := dd
  clear dd
  have dd := Aside.mk (Rec.term.but DaKey.out hbt (fun b hb => ⟨by have h2 := hb.2; omega, fun h => h.elim⟩))
  clear DaKey
  have DaKey := dd
  clear dd
  clear hbt hst hb
  have l2 : w.heap.size < w1.heap.size := K2.out.lt
  have y2_0 : w1.cell? ⟨w.heap.size, 0, none⟩ = some (.int .i64 xaT0) := K2.out.cell 0
  have y2_1 : w1.cell? ⟨w.heap.size, 1, none⟩ = some (.slice xaT1a xaT1b xaT1c) := K2.out.cell 1
  have l3 : w.heap.size + 1 < w1.heap.size := K3.out.lt
  have y3_0 : w1.cell? ⟨w.heap.size + 1, 0, none⟩ = some (.int .i64 xaKey0) := K3.out.cell 0
  have y3_1 : w1.cell? ⟨w.heap.size + 1, 1, none⟩ = some (.int .i64 xaKey1) := K3.out.cell 1
  have y3_2 : w1.cell? ⟨w.heap.size + 1, 2, none⟩ = some (.string xaKey2) := K3.out.cell 2
  have y3_3 : w1.cell? ⟨w.heap.size + 1, 3, none⟩ = some (.slice xaKey3a xaKey3b xaKey3c) := K3.out.cell 3
  rw [TaT.out]
  by_cases laT : (naT : Int) ≤ 1048576
  rotate_left
  · rw [szR_no laT]
    go_wp2
    go_ret
    exact ⟨rfl, BEL.out⟩
  rw [szR_yes laT]
  have WaT : Aside (RTable.wt aT ≤ 1048576) := ⟨by rw [TaT.out]; omega⟩
  go_wp2_with fail
  refine (szTerm aKey [.int .i64 xaKey0, .int .i64 xaKey1, .string xaKey2, .slice xaKey3a xaKey3b xaKey3c] _ (1048576 - naT) (Rec.term.made DaKey.out (by omega) (by first | exact Below.refl _ _ | go_grown)) OaKey.out (by omega) (by omega)).mono ?_
  rintro e w2 ⟨rfl, hb⟩
  clear l2 y2_0 y2_1
  clear l3 y3_0 y3_1 y3_2 y3_3
  have hst : Below w1.heap.size w1 w2 := below_later (by go_grown) hb
  have hbt : But NoB w1 w2 := But.below hst
  have gw2 : w1.heap.size ≤ w2.heap.size := hbt.size
  have kk := (K2.out).below hst
  clear K2
  have K2 := Aside.mk kk
  clear kk
  have kk := (K3.out).below hst
  clear K3
  have K3 := Aside.mk kk
  clear kk
  have bel2 := Aside.mk (below_later BEL.out hst)
  clear BEL
  have BEL := bel2
  clear bel2
  have dd := Aside.mk (RTable.but DaT.out hbt (fun b hb => ⟨by have h2 := hb.2; omega, fun h => h.elim⟩))
  clear DaT
  have DaT := dd
  clear dd
  have dd := Aside.mk (Rec.term.but DaKey.out hbt (fun b hb => ⟨by have h2 := hb.2; omega, fun h => h.elim⟩))
  clear DaKey
  have DaKey := dd
  clear dd
  clear hbt hst hb
  have l2 : w.heap.size < w2.heap.size := K2.out.lt
  have y2_0 : w2.cell? ⟨w.heap.size, 0, none⟩ = some (.int .i64 xaT0) := K2.out.cell 0
  have y2_1 : w2.cell? ⟨w.heap.size, 1, none⟩ = some (.slice xaT1a xaT1b xaT1c) := K2.out.cell 1
  have l3 : w.heap.size + 1 < w2.heap.size := K3.out.lt
  have y3_0 : w2.cell? ⟨w.heap.size + 1, 0, none⟩ = some (.int .i64 xaKey0) := K3.out.cell 0
  have y3_1 : w2.cell? ⟨w.heap.size + 1, 1, none⟩ = some (.int .i64 xaKey1) := K3.out.cell 1
  have y3_2 : w2.cell? ⟨w.heap.size + 1, 2, none⟩ = some (.string xaKey2) := K3.out.cell 2
  have y3_3 : w2.cell? ⟨w.heap.size + 1, 3, none⟩ = some (.slice xaKey3a xaKey3b xaKey3c) := K3.out.cell 3
  rw [TaKey.out]
  by_cases laKey : (naKey : Int) ≤ 1048576 - naT
  rotate_left
  · rw [szR_no laKey]
    go_wp2
    go_ret
    exact ⟨rfl, BEL.out⟩
  rw [szR_yes laKey]
  have WaKey : Aside (Rec.term.wt aKey ≤ 1048576) := ⟨by rw [TaKey.out]; omega⟩
  go_wp2_with fail
  have HS0 : Aside (Below w2.heap.size w2 w2) := ⟨Below.refl _ _⟩
  refine region_env [(0, true), (2, true), (1, false), (3, false), (4, false), (5, true), (6, true), (7, true), (8, true), (9, true)] (fun w' => Below w2.heap.size w2 w') 119 rfl (by kernel_rfl) (by kernel_rfl) (fun _ _ d _ _ h => by cases d <;> exact h) ((Below.refl _ _).drew) (fun ops fr HFR HSZ hl => ?_)
  have hl_0 := ops_start hl
  clear hl
  obtain ⟨H0, hl_1⟩ := ops_next 0 1 rfl hl_0
  clear hl_0
  obtain ⟨H1, hl_2⟩ := ops_next 1 2 rfl hl_1
  clear hl_1
  obtain ⟨H2, hl_3⟩ := ops_next 2 3 rfl hl_2
  clear hl_2
  obtain ⟨H3, hl_4⟩ := ops_next 3 4 rfl hl_3
  clear hl_3
  obtain ⟨H4, hl_5⟩ := ops_next 4 5 rfl hl_4
  clear hl_4
  obtain ⟨H5, hl_6⟩ := ops_next 5 6 rfl hl_5
  clear hl_5
  obtain ⟨H6, hl_7⟩ := ops_next 6 7 rfl hl_6
  clear hl_6
  obtain ⟨H7, hl_8⟩ := ops_next 7 8 rfl hl_7
  clear hl_7
  obtain ⟨H8, hl_9⟩ := ops_next 8 9 rfl hl_8
  clear hl_8
  obtain ⟨H9, hl_10⟩ := ops_next 9 10 rfl hl_9
  clear hl_9
  clear hl_10
  have x_2 : ext fr 2 = _ := congrArg (fun a => Act.eval a (.tmp 2)) HFR.out
  conv at x_2 => rhs; simp only [Act.eval, Array.getD_eq_getD_getElem?, List.getElem?_toArray, List.getElem?_cons_succ, List.getElem?_cons_zero, Option.getD_some]
  have x_3 : ext fr 3 = _ := congrArg (fun a => Act.eval a (.tmp 3)) HFR.out
  conv at x_3 => rhs; simp only [Act.eval, Array.getD_eq_getD_getElem?, List.getElem?_toArray, List.getElem?_cons_succ, List.getElem?_cons_zero, Option.getD_some]
  refine env_yes HSZ H0.out ?_ (fun w' hS => ?_) ?_
  rotate_left
  (have h0 := (hS.cell (p := ⟨w.heap.size, 0, none⟩) l2).trans y2_0
   have h1 := (hS.cell (p := ⟨w.heap.size, 1, none⟩) l2).trans y2_1
   go_simp
   rfl)
  refine env_yes HSZ H2.out ?_ (fun w' hS => ?_) ?_
  rotate_left
  (have h0 := (hS.cell (p := ⟨w.heap.size + 1, 0, none⟩) l3).trans y3_0
   have h1 := (hS.cell (p := ⟨w.heap.size + 1, 1, none⟩) l3).trans y3_1
   have h2 := (hS.cell (p := ⟨w.heap.size + 1, 2, none⟩) l3).trans y3_2
   have h3 := (hS.cell (p := ⟨w.heap.size + 1, 3, none⟩) l3).trans y3_3
   go_simp
   rfl)
  refine env_call HSZ H1.out ?_ ?_ ?_ ?_
  rotate_left 2
  (go_simp
   first | rfl | (constructor <;> rfl))
  refine (toTable aT [.int .i64 xaT0, .slice xaT1a xaT1b xaT1c] _ (RTable.made DaT.out (by omega) (by first | exact Below.refl _ _ | go_grown)) WaT.out).mono ?_
  rintro e w3 ⟨cs2, rfl, hr, hb⟩
  obtain ⟨c1_0, c1_1a, c1_1b, c1_1c, rfl⟩ := shapeTable hr
  have Dc1 : Aside (RTable.rd True w3 (Span (w2.heap.size) w3.heap.size) aT [.int .i64 c1_0, .slice c1_1a c1_1b c1_1c]) := ⟨RTable.mono hr (fun b h => ⟨by have h1 := h.1; (try simp at h1); omega, h.2⟩)⟩
  clear hr
  clear l2 y2_0 y2_1
  clear l3 y3_0 y3_1 y3_2 y3_3
  have hst : Below w2.heap.size w2 w3 := below_later (by go_grown) hb
  have hs2 := Aside.mk (below_later HS0.out hst)
  clear HS0
  have HS0 := hs2
  clear hs2
  have hbt : But NoB w2 w3 := But.below hst
  have gw3 : w2.heap.size ≤ w3.heap.size := hbt.size
  have kk := (K2.out).below hst
  clear K2
  have K2 := Aside.mk kk
  clear kk
  have kk := (K3.out).below hst
  clear K3
  have K3 := Aside.mk kk
  clear kk
  have bel2 := Aside.mk (below_later BEL.out hst)
  clear BEL
  have BEL := bel2
  clear bel2
  have dd := Aside.mk (RTable.but DaT.out hbt (fun b hb => ⟨by have h2 := hb.2; omega, fun h => h.elim⟩))
  clear DaT
  have DaT := dd
  clear dd
  have dd := Aside.mk (Rec.term.but DaKey.out hbt (fun b hb => ⟨by have h2 := hb.2; omega, fun h => h.elim⟩))
  clear DaKey
  have DaKey := dd
  clear dd
  clear hbt hst hb
  have l2 : w.heap.size < w3.heap.size := K2.out.lt
  have y2_0 : w3.cell? ⟨w.heap.size, 0, none⟩ = some (.int .i64 xaT0) := K2.out.cell 0
  have y2_1 : w3.cell? ⟨w.heap.size, 1, none⟩ = some (.slice xaT1a xaT1b xaT1c) := K2.out.cell 1
  have l3 : w.heap.size + 1 < w3.heap.size := K3.out.lt
  have y3_0 : w3.cell? ⟨w.heap.size + 1, 0, none⟩ = some (.int .i64 xaKey0) := K3.out.cell 0
  have y3_1 : w3.cell? ⟨w.heap.size + 1, 1, none⟩ = some (.int .i64 xaKey1) := K3.out.cell 1
  have y3_2 : w3.cell? ⟨w.heap.size + 1, 2, none⟩ = some (.string xaKey2) := K3.out.cell 2
  have y3_3 : w3.cell? ⟨w.heap.size + 1, 3, none⟩ = some (.slice xaKey3a xaKey3b xaKey3c) := K3.out.cell 3
  refine ⟨_, rfl, HS0.out, ?_⟩
  refine env_call HSZ H3.out ?_ ?_ ?_ ?_
  rotate_left 2
  (go_simp
   first | rfl | (constructor <;> rfl))
  refine (toTerm aKey [.int .i64 xaKey0, .int .i64 xaKey1, .string xaKey2, .slice xaKey3a xaKey3b xaKey3c] _ (Rec.term.made DaKey.out (by omega) (by first | exact Below.refl _ _ | go_grown)) WaKey.out).mono ?_
  rintro e w4 ⟨cs2, rfl, hr, hb⟩
  obtain ⟨c2_0, c2_1, c2_2, c2_3a, c2_3b, c2_3c, rfl⟩ := shapeTerm hr
  have Dc2 : Aside (Rec.term.rd True w4 (Span (w3.heap.size) w4.heap.size) aKey [.int .i64 c2_0, .int .i64 c2_1, .string c2_2, .slice c2_3a c2_3b c2_3c]) := ⟨Rec.term.mono hr (fun b h => ⟨by have h1 := h.1; (try simp at h1); omega, h.2⟩)⟩
  clear hr
  clear l2 y2_0 y2_1
  clear l3 y3_0 y3_1 y3_2 y3_3
  have hst : Below w3.heap.size w3 w4 := below_later (by go_grown) hb
  have hs2 := Aside.mk (below_later HS0.out hst)
  clear HS0
  have HS0 := hs2
  clear hs2
  have hbt : But NoB w3 w4 := But.below hst
  have gw4 : w3.heap.size ≤ w4.heap.size := hbt.size
  have kk := (K2.out).below hst
  clear K2
  have K2 := Aside.mk kk
  clear kk
  have kk := (K3.out).below hst
  clear K3
  have K3 := Aside.mk kk
  clear kk
  have bel2 := Aside.mk (below_later BEL.out hst)
  clear BEL
  have BEL := bel2
  clear bel2
  have dd := Aside.mk (RTable.but DaT.out hbt (fun b hb => ⟨by have h2 := hb.2; omega, fun h => h.elim⟩))
  clear DaT
  have DaT := dd
  clear dd
  have dd := Aside.mk (Rec.term.but DaKey.out hbt (fun b hb => ⟨by have h2 := hb.2; omega, fun h => h.elim⟩))
  clear DaKey
  have DaKey := dd
  clear dd
  have dd := Aside.mk (RTable.but Dc1.out hbt (fun b hb => ⟨by have h2 := hb.2; omega, fun h => h.elim⟩))
  clear Dc1
  have Dc1 := dd
  clear dd
  clear hbt hst hb
  have l2 : w.heap.size < w4.heap.size := K2.out.lt
  have y2_0 : w4.cell? ⟨w.heap.size, 0, none⟩ = some (.int .i64 xaT0) := K2.out.cell 0
  have y2_1 : w4.cell? ⟨w.heap.size, 1, none⟩ = some (.slice xaT1a xaT1b xaT1c) := K2.out.cell 1
  have l3 : w.heap.size + 1 < w4.heap.size := K3.out.lt
  have y3_0 : w4.cell? ⟨w.heap.size + 1, 0, none⟩ = some (.int .i64 xaKey0) := K3.out.cell 0
  have y3_1 : w4.cell? ⟨w.heap.size + 1, 1, none⟩ = some (.int .i64 xaKey1) := K3.out.cell 1
  have y3_2 : w4.cell? ⟨w.heap.size + 1, 2, none⟩ = some (.string xaKey2) := K3.out.cell 2
  have y3_3 : w4.cell? ⟨w.heap.size + 1, 3, none⟩ = some (.slice xaKey3a xaKey3b xaKey3c) := K3.out.cell 3
  refine ⟨_, rfl, HS0.out, ?_⟩
  refine env_call HSZ H4.out ?_ ?_ ?_ ?_
  rotate_left 2
  (go_simp
   first | rfl | (constructor <;> rfl))
  refine (sTabGet aT aKey [.int .i64 c1_0, .slice c1_1a c1_1b c1_1c] [.int .i64 c2_0, .int .i64 c2_1, .string c2_2, .slice c2_3a c2_3b c2_3c] _ (RTable.made Dc1.out (by omega) (by first | exact Below.refl _ _ | go_grown)) (Rec.term.made Dc2.out (by omega) (by first | exact Below.refl _ _ | go_grown)) WaT.out WaKey.out ).mono ?_
  rw [← HRES.out]
  rintro e w5 ⟨r3_0, rfl, hr0, hb⟩
  have hr0 : Rec.term.sl.rd True w5 _ x0 [r3_0] := hr0
  obtain ⟨Ar3d0, cr3d0, e1, -⟩ := id hr0
  injection e1 with e1 _
  subst e1
  have Dr3d0 : Aside (Rec.term.sl.rd True w5 (Span (w4.heap.size) w5.heap.size) x0 [.slice Ar3d0 x0.length cr3d0]) := ⟨Rec.term.sl.mono hr0 (fun b h => ⟨by have h1 := h.1; (try simp at h1); omega, h.2⟩)⟩
  clear hr0
  clear l2 y2_0 y2_1
  clear l3 y3_0 y3_1 y3_2 y3_3
  have hst : Below w4.heap.size w4 w5 := below_later (by go_grown) hb
  have hs2 := Aside.mk (below_later HS0.out hst)
  clear HS0
  have HS0 := hs2
  clear hs2
  have hbt : But NoB w4 w5 := But.below hst
  have gw5 : w4.heap.size ≤ w5.heap.size := hbt.size
  have kk := (K2.out).below hst
  clear K2
  have K2 := Aside.mk kk
  clear kk
  have kk := (K3.out).below hst
  clear K3
  have K3 := Aside.mk kk
  clear kk
  have bel2 := Aside.mk (below_later BEL.out hst)
  clear BEL
  have BEL := bel2
  clear bel2
  have dd := Aside.mk (RTable.but DaT.out hbt (fun b hb => ⟨by have h2 := hb.2; omega, fun h => h.elim⟩))
  clear DaT
  have DaT := dd
  clear dd
  have dd := Aside.mk (Rec.term.but DaKey.out hbt (fun b hb => ⟨by have h2 := hb.2; omega, fun h => h.elim⟩))
  clear DaKey
  have DaKey := dd
  clear dd
  have dd := Aside.mk (RTable.but Dc1.out hbt (fun b hb => ⟨by have h2 := hb.2; omega, fun h => h.elim⟩))
  clear Dc1
  have Dc1 := dd
  clear dd
  have dd := Aside.mk (Rec.term.but Dc2.out hbt (fun b hb => ⟨by have h2 := hb.2; omega, fun h => h.elim⟩))
  clear Dc2
  have Dc2 := dd
  clear dd
  clear hbt hst hb
  have l2 : w.heap.size < w5.heap.size := K2.out.lt
  have y2_0 : w5.cell? ⟨w.heap.size, 0, none⟩ = some (.int .i64 xaT0) := K2.out.cell 0
  have y2_1 : w5.cell? ⟨w.heap.size, 1, none⟩ = some (.slice xaT1a xaT1b xaT1c) := K2.out.cell 1
  have l3 : w.heap.size + 1 < w5.heap.size := K3.out.lt
  have y3_0 : w5.cell? ⟨w.heap.size + 1, 0, none⟩ = some (.int .i64 xaKey0) := K3.out.cell 0
  have y3_1 : w5.cell? ⟨w.heap.size + 1, 1, none⟩ = some (.int .i64 xaKey1) := K3.out.cell 1
  have y3_2 : w5.cell? ⟨w.heap.size + 1, 2, none⟩ = some (.string xaKey2) := K3.out.cell 2
  have y3_3 : w5.cell? ⟨w.heap.size + 1, 3, none⟩ = some (.slice xaKey3a xaKey3b xaKey3c) := K3.out.cell 3
  have HOK0 : Aside (Rec.term.sl.ok x0) := ⟨by have hh := get_ok aKey OaT.out; rw [← HRES.out] at hh; exact hh⟩
  have HWT0 : Aside (Rec.term.sl.wt x0 ≤ 1073741824) := ⟨by have hh := get_wt aKey WaT.out; rw [← HRES.out] at hh; exact hh⟩
  refine ⟨_, rfl, HS0.out, ?_⟩
  refine env_yes HSZ H5.out ?_ (fun w' hS => ?_) ?_
  rotate_left
  (go_simp
   rfl)
  refine env_yes HSZ H6.out ?_ (fun w' hS => ?_) ?_
  rotate_left
  (go_simp
   rfl)
  refine env_yes HSZ H7.out ?_ (fun w' hS => ?_) ?_
  rotate_left
  (go_simp
   rfl)
  refine env_yes HSZ H8.out ?_ (fun w' hS => ?_) ?_
  rotate_left
  (go_simp
   rfl)
  refine env_yes HSZ H9.out ?_ (fun w' hS => ?_) ?_
  rotate_left
  (go_simp
   rfl)
  refine env_end ?_
  have hfr := HFR.out
  clear HFR HSZ H0 H1 H2 H3 H4 H5 H6 H7 H8 H9 x_2 x_3
  subst hfr
  simp only [putAll, Act.put, List.setIfInBounds_toArray, List.set_cons_succ, List.set_cons_zero]
  clear HS0
  go_wp2_with fail
  refine (toTable aT [.int .i64 xaT0, .slice xaT1a xaT1b xaT1c] _ (RTable.made DaT.out (by omega) (by first | exact Below.refl _ _ | go_grown)) WaT.out).mono ?_
  rintro e w6 ⟨cs2, rfl, hr, hb⟩
  obtain ⟨c4_0, c4_1a, c4_1b, c4_1c, rfl⟩ := shapeTable hr
  have Dc4 : Aside (RTable.rd True w6 (Span (w5.heap.size) w6.heap.size) aT [.int .i64 c4_0, .slice c4_1a c4_1b c4_1c]) := ⟨RTable.mono hr (fun b h => ⟨by have h1 := h.1; (try simp at h1); omega, h.2⟩)⟩
  clear hr
  clear l2 y2_0 y2_1
  clear l3 y3_0 y3_1 y3_2 y3_3
  have hst : Below w5.heap.size w5 w6 := below_later (by go_grown) hb
  have hbt : But NoB w5 w6 := But.below hst
  have gw6 : w5.heap.size ≤ w6.heap.size := hbt.size
  have kk := (K2.out).below hst
  clear K2
  have K2 := Aside.mk kk
  clear kk
  have kk := (K3.out).below hst
  clear K3
  have K3 := Aside.mk kk
  clear kk
  have bel2 := Aside.mk (below_later BEL.out hst)
  clear BEL
  have BEL := bel2
  clear bel2
  have dd := Aside.mk (RTable.but DaT.out hbt (fun b hb => ⟨by have h2 := hb.2; omega, fun h => h.elim⟩))
  clear DaT
  have DaT := dd
  clear dd
  have dd := Aside.mk (Rec.term.but DaKey.out hbt (fun b hb => ⟨by have h2 := hb.2; omega, fun h => h.elim⟩))
  clear DaKey
  have DaKey := dd
  clear dd
  have dd := Aside.mk (RTable.but Dc1.out hbt (fun b hb => ⟨by have h2 := hb.2; omega, fun h => h.elim⟩))
  clear Dc1
  have Dc1 := dd
  clear dd
  have dd := Aside.mk (Rec.term.but Dc2.out hbt (fun b hb => ⟨by have h2 := hb.2; omega, fun h => h.elim⟩))
  clear Dc2
  have Dc2 := dd
  clear dd
  have dd := Aside.mk (Rec.term.sl.but Dr3d0.out hbt (fun b hb => ⟨by have h2 := hb.2; omega, fun h => h.elim⟩))
  clear Dr3d0
  have Dr3d0 := dd
  clear dd
  clear hbt hst hb
  have l2 : w.heap.size < w6.heap.size := K2.out.lt
  have y2_0 : w6.cell? ⟨w.heap.size, 0, none⟩ = some (.int .i64 xaT0) := K2.out.cell 0
  have y2_1 : w6.cell? ⟨w.heap.size, 1, none⟩ = some (.slice xaT1a xaT1b xaT1c) := K2.out.cell 1
  have l3 : w.heap.size + 1 < w6.heap.size := K3.out.lt
  have y3_0 : w6.cell? ⟨w.heap.size + 1, 0, none⟩ = some (.int .i64 xaKey0) := K3.out.cell 0
  have y3_1 : w6.cell? ⟨w.heap.size + 1, 1, none⟩ = some (.int .i64 xaKey1) := K3.out.cell 1
  have y3_2 : w6.cell? ⟨w.heap.size + 1, 2, none⟩ = some (.string xaKey2) := K3.out.cell 2
  have y3_3 : w6.cell? ⟨w.heap.size + 1, 3, none⟩ = some (.slice xaKey3a xaKey3b xaKey3c) := K3.out.cell 3
  go_wp2_with fail
  refine (toTerm aKey [.int .i64 xaKey0, .int .i64 xaKey1, .string xaKey2, .slice xaKey3a xaKey3b xaKey3c] _ (Rec.term.made DaKey.out (by omega) (by first | exact Below.refl _ _ | go_grown)) WaKey.out).mono ?_
  rintro e w7 ⟨cs2, rfl, hr, hb⟩
  obtain ⟨c5_0, c5_1, c5_2, c5_3a, c5_3b, c5_3c, rfl⟩ := shapeTerm hr
  have Dc5 : Aside (Rec.term.rd True w7 (Span (w6.heap.size + 1) w7.heap.size) aKey [.int .i64 c5_0, .int .i64 c5_1, .string c5_2, .slice c5_3a c5_3b c5_3c]) := ⟨Rec.term.mono hr (fun b h => ⟨by have h1 := h.1; (try simp at h1); omega, h.2⟩)⟩
  clear hr
  clear l2 y2_0 y2_1
  clear l3 y3_0 y3_1 y3_2 y3_3
  have hst : Below w6.heap.size w6 w7 := below_later (by go_grown) hb
  have hbt : But NoB w6 w7 := But.below hst
  have gw7 : w6.heap.size ≤ w7.heap.size := hbt.size
  have kk := (K2.out).below hst
  clear K2
  have K2 := Aside.mk kk
  clear kk
  have kk := (K3.out).below hst
  clear K3
  have K3 := Aside.mk kk
  clear kk
  have K8 := Aside.mk ((Blk.made w6 42 [.int .i64 c4_0, .slice c4_1a c4_1b c4_1c] (g := w6.heap.size) (by simp)).below hb)
  have m8 : w6.heap.size < w7.heap.size := K8.out.lt
  have bel2 := Aside.mk (below_later BEL.out hst)
  clear BEL
  have BEL := bel2
  clear bel2
  have dd := Aside.mk (RTable.but DaT.out hbt (fun b hb => ⟨by have h2 := hb.2; omega, fun h => h.elim⟩))
  clear DaT
  have DaT := dd
  clear dd
  have dd := Aside.mk (Rec.term.but DaKey.out hbt (fun b hb => ⟨by have h2 := hb.2; omega, fun h => h.elim⟩))
  clear DaKey
  have DaKey := dd
  clear dd
  have dd := Aside.mk (RTable.but Dc1.out hbt (fun b hb => ⟨by have h2 := hb.2; omega, fun h => h.elim⟩))
  clear Dc1
  have Dc1 := dd
  clear dd
  have dd := Aside.mk (Rec.term.but Dc2.out hbt (fun b hb => ⟨by have h2 := hb.2; omega, fun h => h.elim⟩))
  clear Dc2
  have Dc2 := dd
  clear dd
  have dd := Aside.mk (Rec.term.sl.but Dr3d0.out hbt (fun b hb => ⟨by have h2 := hb.2; omega, fun h => h.elim⟩))
  clear Dr3d0
  have Dr3d0 := dd
  clear dd
  have dd := Aside.mk (RTable.but Dc4.out hbt (fun b hb => ⟨by have h2 := hb.2; omega, fun h => h.elim⟩))
  clear Dc4
  have Dc4 := dd
  clear dd
  clear hbt hst hb
  have l2 : w.heap.size < w7.heap.size := K2.out.lt
  have y2_0 : w7.cell? ⟨w.heap.size, 0, none⟩ = some (.int .i64 xaT0) := K2.out.cell 0
  have y2_1 : w7.cell? ⟨w.heap.size, 1, none⟩ = some (.slice xaT1a xaT1b xaT1c) := K2.out.cell 1
  have l3 : w.heap.size + 1 < w7.heap.size := K3.out.lt
  have y3_0 : w7.cell? ⟨w.heap.size + 1, 0, none⟩ = some (.int .i64 xaKey0) := K3.out.cell 0
  have y3_1 : w7.cell? ⟨w.heap.size + 1, 1, none⟩ = some (.int .i64 xaKey1) := K3.out.cell 1
  have y3_2 : w7.cell? ⟨w.heap.size + 1, 2, none⟩ = some (.string xaKey2) := K3.out.cell 2
  have y3_3 : w7.cell? ⟨w.heap.size + 1, 3, none⟩ = some (.slice xaKey3a xaKey3b xaKey3c) := K3.out.cell 3
  have l8 : w6.heap.size < w7.heap.size := K8.out.lt
  have y8_0 : w7.cell? ⟨w6.heap.size, 0, none⟩ = some (.int .i64 c4_0) := K8.out.cell 0
  have y8_1 : w7.cell? ⟨w6.heap.size, 1, none⟩ = some (.slice c4_1a c4_1b c4_1c) := K8.out.cell 1
  go_wp2_with fail
  refine (iTabGet aT aKey [.int .i64 c4_0, .slice c4_1a c4_1b c4_1c] [.int .i64 c5_0, .int .i64 c5_1, .string c5_2, .slice c5_3a c5_3b c5_3c] _ (RTable.made Dc4.out (by omega) (by first | exact Below.refl _ _ | go_grown)) (Rec.term.made Dc5.out (by omega) (by first | exact Below.refl _ _ | go_grown)) WaT.out WaKey.out ).mono ?_
  rw [← HRES.out]
  rintro e w8 ⟨r6_0, rfl, hr0, hb⟩
  have hr0 : Rec.term.sl.rd True w8 _ x0 [r6_0] := hr0
  obtain ⟨Ar6d0, cr6d0, e1, -⟩ := id hr0
  injection e1 with e1 _
  subst e1
  have Dr6d0 : Aside (Rec.term.sl.rd True w8 (Span (w7.heap.size + 1) w8.heap.size) x0 [.slice Ar6d0 x0.length cr6d0]) := ⟨Rec.term.sl.mono hr0 (fun b h => ⟨by have h1 := h.1; (try simp at h1); omega, h.2⟩)⟩
  clear hr0
  clear l2 y2_0 y2_1
  clear l3 y3_0 y3_1 y3_2 y3_3
  clear l8 y8_0 y8_1
  have hst : Below w7.heap.size w7 w8 := below_later (by go_grown) hb
  have hbt : But NoB w7 w8 := But.below hst
  have gw8 : w7.heap.size ≤ w8.heap.size := hbt.size
  have kk := (K2.out).below hst
  clear K2
  have K2 := Aside.mk kk
  clear kk
  have kk := (K3.out).below hst
  clear K3
  have K3 := Aside.mk kk
  clear kk
  have kk := (K8.out).below hst
  clear K8
  have K8 := Aside.mk kk
  clear kk
  have K9 := Aside.mk ((Blk.made w7 29 [.int .i64 c5_0, .int .i64 c5_1, .string c5_2, .slice c5_3a c5_3b c5_3c] (g := w7.heap.size) (by simp)).below hb)
  have m9 : w7.heap.size < w8.heap.size := K9.out.lt
  have bel2 := Aside.mk (below_later BEL.out hst)
  clear BEL
  have BEL := bel2
  clear bel2
  have dd := Aside.mk (RTable.but DaT.out hbt (fun b hb => ⟨by have h2 := hb.2; omega, fun h => h.elim⟩))
  clear DaT
  have DaT := dd
  clear dd
  have dd := Aside.mk (Rec.term.but DaKey.out hbt (fun b hb => ⟨by have h2 := hb.2; omega, fun h => h.elim⟩))
  clear DaKey
  have DaKey := dd
  clear dd
  have dd := Aside.mk (RTable.but Dc1.out hbt (fun b hb => ⟨by have h2 := hb.2; omega, fun h => h.elim⟩))
  clear Dc1
  have Dc1 := dd
  clear dd
  have dd := Aside.mk (Rec.term.but Dc2.out hbt (fun b hb => ⟨by have h2 := hb.2; omega, fun h => h.elim⟩))
  clear Dc2
  have Dc2 := dd
  clear dd
  have dd := Aside.mk (Rec.term.sl.but Dr3d0.out hbt (fun b hb => ⟨by have h2 := hb.2; omega, fun h => h.elim⟩))
  clear Dr3d0
  have Dr3d0 := dd
  clear dd
  have dd := Aside.mk (RTable.but Dc4.out hbt (fun b hb => ⟨by have h2 := hb.2; omega, fun h => h.elim⟩))
  clear Dc4
  have Dc4 := dd
  clear dd
  have dd := Aside.mk (Rec.term.but Dc5.out hbt (fun b hb => ⟨by have h2 := hb.2; omega, fun h => h.elim⟩))
  clear Dc5
  have Dc5 := dd
  clear dd
  clear hbt hst hb
  have l2 : w.heap.size < w8.heap.size := K2.out.lt
  have y2_0 : w8.cell? ⟨w.heap.size, 0, none⟩ = some (.int .i64 xaT0) := K2.out.cell 0
  have y2_1 : w8.cell? ⟨w.heap.size, 1, none⟩ = some (.slice xaT1a xaT1b xaT1c) := K2.out.cell 1
  have l3 : w.heap.size + 1 < w8.heap.size := K3.out.lt
  have y3_0 : w8.cell? ⟨w.heap.size + 1, 0, none⟩ = some (.int .i64 xaKey0) := K3.out.cell 0
  have y3_1 : w8.cell? ⟨w.heap.size + 1, 1, none⟩ = some (.int .i64 xaKey1) := K3.out.cell 1
  have y3_2 : w8.cell? ⟨w.heap.size + 1, 2, none⟩ = some (.string xaKey2) := K3.out.cell 2
  have y3_3 : w8.cell? ⟨w.heap.size + 1, 3, none⟩ = some (.slice xaKey3a xaKey3b xaKey3c) := K3.out.cell 3
  have l8 : w6.heap.size < w8.heap.size := K8.out.lt
  have y8_0 : w8.cell? ⟨w6.heap.size, 0, none⟩ = some (.int .i64 c4_0) := K8.out.cell 0
  have y8_1 : w8.cell? ⟨w6.heap.size, 1, none⟩ = some (.slice c4_1a c4_1b c4_1c) := K8.out.cell 1
  have l9 : w7.heap.size < w8.heap.size := K9.out.lt
  have y9_0 : w8.cell? ⟨w7.heap.size, 0, none⟩ = some (.int .i64 c5_0) := K9.out.cell 0
  have y9_1 : w8.cell? ⟨w7.heap.size, 1, none⟩ = some (.int .i64 c5_1) := K9.out.cell 1
  have y9_2 : w8.cell? ⟨w7.heap.size, 2, none⟩ = some (.string c5_2) := K9.out.cell 2
  have y9_3 : w8.cell? ⟨w7.heap.size, 3, none⟩ = some (.slice c5_3a c5_3b c5_3c) := K9.out.cell 3
  go_wp2_with fail
  refine (eqTermS x0 (fun x _ ca cb w1 ha hb ho => eqTerm x ca cb w1 ha hb ho) _ _ _ (Rec.term.sl.made Dr6d0.out (by omega) (by first | exact Below.refl _ _ | go_grown)) (Rec.term.sl.made Dr3d0.out (by omega) (by first | exact Below.refl _ _ | go_grown)) HOK0.out).mono ?_
  rintro e w9 ⟨rfl, hb⟩
  clear l2 y2_0 y2_1
  clear l3 y3_0 y3_1 y3_2 y3_3
  clear l8 y8_0 y8_1
  clear l9 y9_0 y9_1 y9_2 y9_3
  have hst : Below w8.heap.size w8 w9 := below_later (by go_grown) hb
  have hbt : But NoB w8 w9 := But.below hst
  have gw9 : w8.heap.size ≤ w9.heap.size := hbt.size
  have kk := (K2.out).below hst
  clear K2
  have K2 := Aside.mk kk
  clear kk
  have kk := (K3.out).below hst
  clear K3
  have K3 := Aside.mk kk
  clear kk
  have kk := (K8.out).below hst
  clear K8
  have K8 := Aside.mk kk
  clear kk
  have kk := (K9.out).below hst
  clear K9
  have K9 := Aside.mk kk
  clear kk
  have bel2 := Aside.mk (below_later BEL.out hst)
  clear BEL
  have BEL := bel2
  clear bel2
  have dd := Aside.mk (RTable.but DaT.out hbt (fun b hb => ⟨by have h2 := hb.2; omega, fun h => h.elim⟩))
  clear DaT
  have DaT := dd
  clear dd
  have dd := Aside.mk (Rec.term.but DaKey.out hbt (fun b hb => ⟨by have h2 := hb.2; omega, fun h => h.elim⟩))
  clear DaKey
  have DaKey := dd
  clear dd
  have dd := Aside.mk (RTable.but Dc1.out hbt (fun b hb => ⟨by have h2 := hb.2; omega, fun h => h.elim⟩))
  clear Dc1
  have Dc1 := dd
  clear dd
  have dd := Aside.mk (Rec.term.but Dc2.out hbt (fun b hb => ⟨by have h2 := hb.2; omega, fun h => h.elim⟩))
  clear Dc2
  have Dc2 := dd
  clear dd
  have dd := Aside.mk (Rec.term.sl.but Dr3d0.out hbt (fun b hb => ⟨by have h2 := hb.2; omega, fun h => h.elim⟩))
  clear Dr3d0
  have Dr3d0 := dd
  clear dd
  have dd := Aside.mk (RTable.but Dc4.out hbt (fun b hb => ⟨by have h2 := hb.2; omega, fun h => h.elim⟩))
  clear Dc4
  have Dc4 := dd
  clear dd
  have dd := Aside.mk (Rec.term.but Dc5.out hbt (fun b hb => ⟨by have h2 := hb.2; omega, fun h => h.elim⟩))
  clear Dc5
  have Dc5 := dd
  clear dd
  have dd := Aside.mk (Rec.term.sl.but Dr6d0.out hbt (fun b hb => ⟨by have h2 := hb.2; omega, fun h => h.elim⟩))
  clear Dr6d0
  have Dr6d0 := dd
  clear dd
  clear hbt hst hb
  have l2 : w.heap.size < w9.heap.size := K2.out.lt
  have y2_0 : w9.cell? ⟨w.heap.size, 0, none⟩ = some (.int .i64 xaT0) := K2.out.cell 0
  have y2_1 : w9.cell? ⟨w.heap.size, 1, none⟩ = some (.slice xaT1a xaT1b xaT1c) := K2.out.cell 1
  have l3 : w.heap.size + 1 < w9.heap.size := K3.out.lt
  have y3_0 : w9.cell? ⟨w.heap.size + 1, 0, none⟩ = some (.int .i64 xaKey0) := K3.out.cell 0
  have y3_1 : w9.cell? ⟨w.heap.size + 1, 1, none⟩ = some (.int .i64 xaKey1) := K3.out.cell 1
  have y3_2 : w9.cell? ⟨w.heap.size + 1, 2, none⟩ = some (.string xaKey2) := K3.out.cell 2
  have y3_3 : w9.cell? ⟨w.heap.size + 1, 3, none⟩ = some (.slice xaKey3a xaKey3b xaKey3c) := K3.out.cell 3
  have l8 : w6.heap.size < w9.heap.size := K8.out.lt
  have y8_0 : w9.cell? ⟨w6.heap.size, 0, none⟩ = some (.int .i64 c4_0) := K8.out.cell 0
  have y8_1 : w9.cell? ⟨w6.heap.size, 1, none⟩ = some (.slice c4_1a c4_1b c4_1c) := K8.out.cell 1
  have l9 : w7.heap.size < w9.heap.size := K9.out.lt
  have y9_0 : w9.cell? ⟨w7.heap.size, 0, none⟩ = some (.int .i64 c5_0) := K9.out.cell 0
  have y9_1 : w9.cell? ⟨w7.heap.size, 1, none⟩ = some (.int .i64 c5_1) := K9.out.cell 1
  have y9_2 : w9.cell? ⟨w7.heap.size, 2, none⟩ = some (.string c5_2) := K9.out.cell 2
  have y9_3 : w9.cell? ⟨w7.heap.size, 3, none⟩ = some (.slice c5_3a c5_3b c5_3c) := K9.out.cell 3
  go_wp2_with fail
  have HS0 : Aside (Below w9.heap.size w9 w9) := ⟨Below.refl _ _⟩
  refine region_env [(0, true), (1, true), (2, false), (3, false), (4, true)] (fun w' => Below w9.heap.size w9 w') 119 rfl (by kernel_rfl) (by kernel_rfl) (fun _ _ d _ _ h => by cases d <;> exact h) ((Below.refl _ _).drew) (fun ops fr HFR HSZ hl => ?_)
  have hl_0 := ops_start hl
  clear hl
  obtain ⟨H0, hl_1⟩ := ops_next 0 1 rfl hl_0
  clear hl_0
  obtain ⟨H1, hl_2⟩ := ops_next 1 2 rfl hl_1
  clear hl_1
  obtain ⟨H2, hl_3⟩ := ops_next 2 3 rfl hl_2
  clear hl_2
  obtain ⟨H3, hl_4⟩ := ops_next 3 4 rfl hl_3
  clear hl_3
  obtain ⟨H4, hl_5⟩ := ops_next 4 5 rfl hl_4
  clear hl_4
  clear hl_5
  have x_8 : ext fr 8 = _ := congrArg (fun a => Act.eval a (.tmp 8)) HFR.out
  conv at x_8 => rhs; simp only [Act.eval, Array.getD_eq_getD_getElem?, List.getElem?_toArray, List.getElem?_cons_succ, List.getElem?_cons_zero, Option.getD_some]
  have x_2 : ext fr 2 = _ := congrArg (fun a => Act.eval a (.tmp 2)) HFR.out
  conv at x_2 => rhs; simp only [Act.eval, Array.getD_eq_getD_getElem?, List.getElem?_toArray, List.getElem?_cons_succ, List.getElem?_cons_zero, Option.getD_some]
  refine env_yes HSZ H0.out ?_ (fun w' hS => ?_) ?_
  rotate_left
  (have h0 := (hS.cell (p := ⟨w6.heap.size, 0, none⟩) l8).trans y8_0
   have h1 := (hS.cell (p := ⟨w6.heap.size, 1, none⟩) l8).trans y8_1
   go_simp
   rfl)
  refine env_yes HSZ H1.out ?_ (fun w' hS => ?_) ?_
  rotate_left
  (have h0 := (hS.cell (p := ⟨w.heap.size, 0, none⟩) l2).trans y2_0
   have h1 := (hS.cell (p := ⟨w.heap.size, 1, none⟩) l2).trans y2_1
   go_simp
   rfl)
  refine env_call HSZ H2.out ?_ ?_ ?_ ?_
  rotate_left 2
  (go_simp
   first | rfl | (constructor <;> rfl))
  refine (toTable aT [.int .i64 xaT0, .slice xaT1a xaT1b xaT1c] _ (RTable.made DaT.out (by omega) (by first | exact Below.refl _ _ | go_grown)) WaT.out).mono ?_
  rintro e w10 ⟨cs2, rfl, hr, hb⟩
  obtain ⟨c7_0, c7_1a, c7_1b, c7_1c, rfl⟩ := shapeTable hr
  have Dc7 : Aside (RTable.rd True w10 (Span (w9.heap.size) w10.heap.size) aT [.int .i64 c7_0, .slice c7_1a c7_1b c7_1c]) := ⟨RTable.mono hr (fun b h => ⟨by have h1 := h.1; (try simp at h1); omega, h.2⟩)⟩
  clear hr
  clear l2 y2_0 y2_1
  clear l3 y3_0 y3_1 y3_2 y3_3
  clear l8 y8_0 y8_1
  clear l9 y9_0 y9_1 y9_2 y9_3
  have hst : Below w9.heap.size w9 w10 := below_later (by go_grown) hb
  have hs2 := Aside.mk (below_later HS0.out hst)
  clear HS0
  have HS0 := hs2
  clear hs2
  have hbt : But NoB w9 w10 := But.below hst
  have gw10 : w9.heap.size ≤ w10.heap.size := hbt.size
  have kk := (K2.out).below hst
  clear K2
  have K2 := Aside.mk kk
  clear kk
  have kk := (K3.out).below hst
  clear K3
  have K3 := Aside.mk kk
  clear kk
  have kk := (K8.out).below hst
  clear K8
  have K8 := Aside.mk kk
  clear kk
  have kk := (K9.out).below hst
  clear K9
  have K9 := Aside.mk kk
  clear kk
  have bel2 := Aside.mk (below_later BEL.out hst)
  clear BEL
  have BEL := bel2
  clear bel2
  have dd := Aside.mk (RTable.but DaT.out hbt (fun b hb => ⟨by have h2 := hb.2; omega, fun h => h.elim⟩))
  clear DaT
  have DaT := dd
  clear dd
  have dd := Aside.mk (Rec.term.but DaKey.out hbt (fun b hb => ⟨by have h2 := hb.2; omega, fun h => h.elim⟩))
  clear DaKey
  have DaKey := dd
  clear dd
  have dd := Aside.mk (RTable.but Dc1.out hbt (fun b hb => ⟨by have h2 := hb.2; omega, fun h => h.elim⟩))
  clear Dc1
  have Dc1 := dd
  clear dd
  have dd := Aside.mk (Rec.term.but Dc2.out hbt (fun b hb => ⟨by have h2 := hb.2; omega, fun h => h.elim⟩))
  clear Dc2
  have Dc2 := dd
  clear dd
  have dd := Aside.mk (Rec.term.sl.but Dr3d0.out hbt (fun b hb => ⟨by have h2 := hb.2; omega, fun h => h.elim⟩))
  clear Dr3d0
  have Dr3d0 := dd
  clear dd
  have dd := Aside.mk (RTable.but Dc4.out hbt (fun b hb => ⟨by have h2 := hb.2; omega, fun h => h.elim⟩))
  clear Dc4
  have Dc4 := dd
  clear dd
  have dd := Aside.mk (Rec.term.but Dc5.out hbt (fun b hb => ⟨by have h2 := hb.2; omega, fun h => h.elim⟩))
  clear Dc5
  have Dc5 := dd
  clear dd
  have dd := Aside.mk (Rec.term.sl.but Dr6d0.out hbt (fun b hb => ⟨by have h2 := hb.2; omega, fun h => h.elim⟩))
  clear Dr6d0
  have Dr6d0 := dd
  clear dd
  clear hbt hst hb
  have l2 : w.heap.size < w10.heap.size := K2.out.lt
  have y2_0 : w10.cell? ⟨w.heap.size, 0, none⟩ = some (.int .i64 xaT0) := K2.out.cell 0
  have y2_1 : w10.cell? ⟨w.heap.size, 1, none⟩ = some (.slice xaT1a xaT1b xaT1c) := K2.out.cell 1
  have l3 : w.heap.size + 1 < w10.heap.size := K3.out.lt
  have y3_0 : w10.cell? ⟨w.heap.size + 1, 0, none⟩ = some (.int .i64 xaKey0) := K3.out.cell 0
  have y3_1 : w10.cell? ⟨w.heap.size + 1, 1, none⟩ = some (.int .i64 xaKey1) := K3.out.cell 1
  have y3_2 : w10.cell? ⟨w.heap.size + 1, 2, none⟩ = some (.string xaKey2) := K3.out.cell 2
  have y3_3 : w10.cell? ⟨w.heap.size + 1, 3, none⟩ = some (.slice xaKey3a xaKey3b xaKey3c) := K3.out.cell 3
  have l8 : w6.heap.size < w10.heap.size := K8.out.lt
  have y8_0 : w10.cell? ⟨w6.heap.size, 0, none⟩ = some (.int .i64 c4_0) := K8.out.cell 0
  have y8_1 : w10.cell? ⟨w6.heap.size, 1, none⟩ = some (.slice c4_1a c4_1b c4_1c) := K8.out.cell 1
  have l9 : w7.heap.size < w10.heap.size := K9.out.lt
  have y9_0 : w10.cell? ⟨w7.heap.size, 0, none⟩ = some (.int .i64 c5_0) := K9.out.cell 0
  have y9_1 : w10.cell? ⟨w7.heap.size, 1, none⟩ = some (.int .i64 c5_1) := K9.out.cell 1
  have y9_2 : w10.cell? ⟨w7.heap.size, 2, none⟩ = some (.string c5_2) := K9.out.cell 2
  have y9_3 : w10.cell? ⟨w7.heap.size, 3, none⟩ = some (.slice c5_3a c5_3b c5_3c) := K9.out.cell 3
  refine ⟨_, rfl, HS0.out, ?_⟩
  refine env_call HSZ H3.out ?_ ?_ ?_ ?_
  rotate_left 2
  (go_simp
   first | rfl | (constructor <;> rfl))
  refine (eqTable aT [.int .i64 c4_0, .slice c4_1a c4_1b c4_1c] [.int .i64 c7_0, .slice c7_1a c7_1b c7_1c] _ (RTable.made Dc4.out (by omega) (by first | exact Below.refl _ _ | go_grown)) (RTable.made Dc7.out (by omega) (by first | exact Below.refl _ _ | go_grown)) OaT.out).mono ?_
  rintro e w11 ⟨rfl, hb⟩
  clear l2 y2_0 y2_1
  clear l3 y3_0 y3_1 y3_2 y3_3
  clear l8 y8_0 y8_1
  clear l9 y9_0 y9_1 y9_2 y9_3
  have hst : Below w10.heap.size w10 w11 := below_later (by go_grown) hb
  have hs2 := Aside.mk (below_later HS0.out hst)
  clear HS0
  have HS0 := hs2
  clear hs2
  have hbt : But NoB w10 w11 := But.below hst
  have gw11 : w10.heap.size ≤ w11.heap.size := hbt.size
  have kk := (K2.out).below hst
  clear K2
  have K2 := Aside.mk kk
  clear kk
  have kk := (K3.out).below hst
  clear K3
  have K3 := Aside.mk kk
  clear kk
  have kk := (K8.out).below hst
  clear K8
  have K8 := Aside.mk kk
  clear kk
  have kk := (K9.out).below hst
  clear K9
  have K9 := Aside.mk kk
  clear kk
  have bel2 := Aside.mk (below_later BEL.out hst)
  clear BEL
  have BEL := bel2
  clear bel2
  have dd := Aside.mk (RTable.but DaT.out hbt (fun b hb => ⟨by have h2 := hb.2; omega, fun h => h.elim⟩))
  clear DaT
  have DaT := dd
  clear dd
  have dd := Aside.mk (Rec.term.but DaKey.out hbt (fun b hb => ⟨by have h2 := hb.2; omega, fun h => h.elim⟩))
  clear DaKey
  have DaKey := dd
  clear dd
  have dd := Aside.mk (RTable.but Dc1.out hbt (fun b hb => ⟨by have h2 := hb.2; omega, fun h => h.elim⟩))
  clear Dc1
  have Dc1 := dd
  clear dd
  have dd := Aside.mk (Rec.term.but Dc2.out hbt (fun b hb => ⟨by have h2 := hb.2; omega, fun h => h.elim⟩))
  clear Dc2
  have Dc2 := dd
  clear dd
  have dd := Aside.mk (Rec.term.sl.but Dr3d0.out hbt (fun b hb => ⟨by have h2 := hb.2; omega, fun h => h.elim⟩))
  clear Dr3d0
  have Dr3d0 := dd
  clear dd
  have dd := Aside.mk (RTable.but Dc4.out hbt (fun b hb => ⟨by have h2 := hb.2; omega, fun h => h.elim⟩))
  clear Dc4
  have Dc4 := dd
  clear dd
  have dd := Aside.mk (Rec.term.but Dc5.out hbt (fun b hb => ⟨by have h2 := hb.2; omega, fun h => h.elim⟩))
  clear Dc5
  have Dc5 := dd
  clear dd
  have dd := Aside.mk (Rec.term.sl.but Dr6d0.out hbt (fun b hb => ⟨by have h2 := hb.2; omega, fun h => h.elim⟩))
  clear Dr6d0
  have Dr6d0 := dd
  clear dd
  have dd := Aside.mk (RTable.but Dc7.out hbt (fun b hb => ⟨by have h2 := hb.2; omega, fun h => h.elim⟩))
  clear Dc7
  have Dc7 := dd
  clear dd
  clear hbt hst hb
  have l2 : w.heap.size < w11.heap.size := K2.out.lt
  have y2_0 : w11.cell? ⟨w.heap.size, 0, none⟩ = some (.int .i64 xaT0) := K2.out.cell 0
  have y2_1 : w11.cell? ⟨w.heap.size, 1, none⟩ = some (.slice xaT1a xaT1b xaT1c) := K2.out.cell 1
  have l3 : w.heap.size + 1 < w11.heap.size := K3.out.lt
  have y3_0 : w11.cell? ⟨w.heap.size + 1, 0, none⟩ = some (.int .i64 xaKey0) := K3.out.cell 0
  have y3_1 : w11.cell? ⟨w.heap.size + 1, 1, none⟩ = some (.int .i64 xaKey1) := K3.out.cell 1
  have y3_2 : w11.cell? ⟨w.heap.size + 1, 2, none⟩ = some (.string xaKey2) := K3.out.cell 2
  have y3_3 : w11.cell? ⟨w.heap.size + 1, 3, none⟩ = some (.slice xaKey3a xaKey3b xaKey3c) := K3.out.cell 3
  have l8 : w6.heap.size < w11.heap.size := K8.out.lt
  have y8_0 : w11.cell? ⟨w6.heap.size, 0, none⟩ = some (.int .i64 c4_0) := K8.out.cell 0
  have y8_1 : w11.cell? ⟨w6.heap.size, 1, none⟩ = some (.slice c4_1a c4_1b c4_1c) := K8.out.cell 1
  have l9 : w7.heap.size < w11.heap.size := K9.out.lt
  have y9_0 : w11.cell? ⟨w7.heap.size, 0, none⟩ = some (.int .i64 c5_0) := K9.out.cell 0
  have y9_1 : w11.cell? ⟨w7.heap.size, 1, none⟩ = some (.int .i64 c5_1) := K9.out.cell 1
  have y9_2 : w11.cell? ⟨w7.heap.size, 2, none⟩ = some (.string c5_2) := K9.out.cell 2
  have y9_3 : w11.cell? ⟨w7.heap.size, 3, none⟩ = some (.slice c5_3a c5_3b c5_3c) := K9.out.cell 3
  refine ⟨_, rfl, HS0.out, ?_⟩
  refine env_yes HSZ H4.out ?_ (fun w' hS => ?_) ?_
  rotate_left
  (go_simp
   rfl)
  refine env_end ?_
  have hfr := HFR.out
  clear HFR HSZ H0 H1 H2 H3 H4 x_8 x_2
  subst hfr
  simp only [putAll, Act.put, List.setIfInBounds_toArray, List.set_cons_succ, List.set_cons_zero]
  clear HS0
  go_wp2_with fail
  have HS0 : Aside (Below w11.heap.size w11 w11) := ⟨Below.refl _ _⟩
  refine region_env [(0, true), (1, true), (2, false), (3, false), (4, true)] (fun w' => Below w11.heap.size w11 w') 119 rfl (by kernel_rfl) (by kernel_rfl) (fun _ _ d _ _ h => by cases d <;> exact h) ((Below.refl _ _).drew) (fun ops fr HFR HSZ hl => ?_)
  have hl_0 := ops_start hl
  clear hl
  obtain ⟨H0, hl_1⟩ := ops_next 0 1 rfl hl_0
  clear hl_0
  obtain ⟨H1, hl_2⟩ := ops_next 1 2 rfl hl_1
  clear hl_1
  obtain ⟨H2, hl_3⟩ := ops_next 2 3 rfl hl_2
  clear hl_2
  obtain ⟨H3, hl_4⟩ := ops_next 3 4 rfl hl_3
  clear hl_3
  obtain ⟨H4, hl_5⟩ := ops_next 4 5 rfl hl_4
  clear hl_4
  clear hl_5
  have x_9 : ext fr 9 = _ := congrArg (fun a => Act.eval a (.tmp 9)) HFR.out
  conv at x_9 => rhs; simp only [Act.eval, Array.getD_eq_getD_getElem?, List.getElem?_toArray, List.getElem?_cons_succ, List.getElem?_cons_zero, Option.getD_some]
  have x_3 : ext fr 3 = _ := congrArg (fun a => Act.eval a (.tmp 3)) HFR.out
  conv at x_3 => rhs; simp only [Act.eval, Array.getD_eq_getD_getElem?, List.getElem?_toArray, List.getElem?_cons_succ, List.getElem?_cons_zero, Option.getD_some]
  refine env_yes HSZ H0.out ?_ (fun w' hS => ?_) ?_
  rotate_left
  (have h0 := (hS.cell (p := ⟨w7.heap.size, 0, none⟩) l9).trans y9_0
   have h1 := (hS.cell (p := ⟨w7.heap.size, 1, none⟩) l9).trans y9_1
   have h2 := (hS.cell (p := ⟨w7.heap.size, 2, none⟩) l9).trans y9_2
   have h3 := (hS.cell (p := ⟨w7.heap.size, 3, none⟩) l9).trans y9_3
   go_simp
   rfl)
  refine env_yes HSZ H1.out ?_ (fun w' hS => ?_) ?_
  rotate_left
  (have h0 := (hS.cell (p := ⟨w.heap.size + 1, 0, none⟩) l3).trans y3_0
   have h1 := (hS.cell (p := ⟨w.heap.size + 1, 1, none⟩) l3).trans y3_1
   have h2 := (hS.cell (p := ⟨w.heap.size + 1, 2, none⟩) l3).trans y3_2
   have h3 := (hS.cell (p := ⟨w.heap.size + 1, 3, none⟩) l3).trans y3_3
   go_simp
   rfl)
  refine env_call HSZ H2.out ?_ ?_ ?_ ?_
  rotate_left 2
  (go_simp
   first | rfl | (constructor <;> rfl))
  refine (toTerm aKey [.int .i64 xaKey0, .int .i64 xaKey1, .string xaKey2, .slice xaKey3a xaKey3b xaKey3c] _ (Rec.term.made DaKey.out (by omega) (by first | exact Below.refl _ _ | go_grown)) WaKey.out).mono ?_
  rintro e w12 ⟨cs2, rfl, hr, hb⟩
  obtain ⟨c8_0, c8_1, c8_2, c8_3a, c8_3b, c8_3c, rfl⟩ := shapeTerm hr
  have Dc8 : Aside (Rec.term.rd True w12 (Span (w11.heap.size) w12.heap.size) aKey [.int .i64 c8_0, .int .i64 c8_1, .string c8_2, .slice c8_3a c8_3b c8_3c]) := ⟨Rec.term.mono hr (fun b h => ⟨by have h1 := h.1; (try simp at h1); omega, h.2⟩)⟩
  clear hr
  clear l2 y2_0 y2_1
  clear l3 y3_0 y3_1 y3_2 y3_3
  clear l8 y8_0 y8_1
  clear l9 y9_0 y9_1 y9_2 y9_3
  have hst : Below w11.heap.size w11 w12 := below_later (by go_grown) hb
  have hs2 := Aside.mk (below_later HS0.out hst)
  clear HS0
  have HS0 := hs2
  clear hs2
  have hbt : But NoB w11 w12 := But.below hst
  have gw12 : w11.heap.size ≤ w12.heap.size := hbt.size
  have kk := (K2.out).below hst
  clear K2
  have K2 := Aside.mk kk
  clear kk
  have kk := (K3.out).below hst
  clear K3
  have K3 := Aside.mk kk
  clear kk
  have kk := (K8.out).below hst
  clear K8
  have K8 := Aside.mk kk
  clear kk
  have kk := (K9.out).below hst
  clear K9
  have K9 := Aside.mk kk
  clear kk
  have bel2 := Aside.mk (below_later BEL.out hst)
  clear BEL
  have BEL := bel2
  clear bel2
  have dd := Aside.mk (RTable.but DaT.out hbt (fun b hb => ⟨by have h2 := hb.2; omega, fun h => h.elim⟩))
  clear DaT
  have DaT := dd
  clear dd
  have dd := Aside.mk (Rec.term.but DaKey.out hbt (fun b hb => ⟨by have h2 := hb.2; omega, fun h => h.elim⟩))
  clear DaKey
  have DaKey := dd
  clear dd
  have dd := Aside.mk (RTable.but Dc1.out hbt (fun b hb => ⟨by have h2 := hb.2; omega, fun h => h.elim⟩))
  clear Dc1
  have Dc1 := dd
  clear dd
  have dd := Aside.mk (Rec.term.but Dc2.out hbt (fun b hb => ⟨by have h2 := hb.2; omega, fun h => h.elim⟩))
  clear Dc2
  have Dc2 := dd
  clear dd
  have dd := Aside.mk (Rec.term.sl.but Dr3d0.out hbt (fun b hb => ⟨by have h2 := hb.2; omega, fun h => h.elim⟩))
  clear Dr3d0
  have Dr3d0 := dd
  clear dd
  have dd := Aside.mk (RTable.but Dc4.out hbt (fun b hb => ⟨by have h2 := hb.2; omega, fun h => h.elim⟩))
  clear Dc4
  have Dc4 := dd
  clear dd
  have dd := Aside.mk (Rec.term.but Dc5.out hbt (fun b hb => ⟨by have h2 := hb.2; omega, fun h => h.elim⟩))
  clear Dc5
  have Dc5 := dd
  clear dd
  have dd := Aside.mk (Rec.term.sl.but Dr6d0.out hbt (fun b hb => ⟨by have h2 := hb.2; omega, fun h => h.elim⟩))
  clear Dr6d0
  have Dr6d0 := dd
  clear dd
  have dd := Aside.mk (RTable.but Dc7.out hbt (fun b hb => ⟨by have h2 := hb.2; omega, fun h => h.elim⟩))
  clear Dc7
  have Dc7 := dd
  clear dd
  clear hbt hst hb
  have l2 : w.heap.size < w12.heap.size := K2.out.lt
  have y2_0 : w12.cell? ⟨w.heap.size, 0, none⟩ = some (.int .i64 xaT0) := K2.out.cell 0
  have y2_1 : w12.cell? ⟨w.heap.size, 1, none⟩ = some (.slice xaT1a xaT1b xaT1c) := K2.out.cell 1
  have l3 : w.heap.size + 1 < w12.heap.size := K3.out.lt
  have y3_0 : w12.cell? ⟨w.heap.size + 1, 0, none⟩ = some (.int .i64 xaKey0) := K3.out.cell 0
  have y3_1 : w12.cell? ⟨w.heap.size + 1, 1, none⟩ = some (.int .i64 xaKey1) := K3.out.cell 1
  have y3_2 : w12.cell? ⟨w.heap.size + 1, 2, none⟩ = some (.string xaKey2) := K3.out.cell 2
  have y3_3 : w12.cell? ⟨w.heap.size + 1, 3, none⟩ = some (.slice xaKey3a xaKey3b xaKey3c) := K3.out.cell 3
  have l8 : w6.heap.size < w12.heap.size := K8.out.lt
  have y8_0 : w12.cell? ⟨w6.heap.size, 0, none⟩ = some (.int .i64 c4_0) := K8.out.cell 0
  have y8_1 : w12.cell? ⟨w6.heap.size, 1, none⟩ = some (.slice c4_1a c4_1b c4_1c) := K8.out.cell 1
  have l9 : w7.heap.size < w12.heap.size := K9.out.lt
  have y9_0 : w12.cell? ⟨w7.heap.size, 0, none⟩ = some (.int .i64 c5_0) := K9.out.cell 0
  have y9_1 : w12.cell? ⟨w7.heap.size, 1, none⟩ = some (.int .i64 c5_1) := K9.out.cell 1
  have y9_2 : w12.cell? ⟨w7.heap.size, 2, none⟩ = some (.string c5_2) := K9.out.cell 2
  have y9_3 : w12.cell? ⟨w7.heap.size, 3, none⟩ = some (.slice c5_3a c5_3b c5_3c) := K9.out.cell 3
  refine ⟨_, rfl, HS0.out, ?_⟩
  refine env_call HSZ H3.out ?_ ?_ ?_ ?_
  rotate_left 2
  (go_simp
   first | rfl | (constructor <;> rfl))
  refine (eqTerm aKey [.int .i64 c5_0, .int .i64 c5_1, .string c5_2, .slice c5_3a c5_3b c5_3c] [.int .i64 c8_0, .int .i64 c8_1, .string c8_2, .slice c8_3a c8_3b c8_3c] _ (Rec.term.made Dc5.out (by omega) (by first | exact Below.refl _ _ | go_grown)) (Rec.term.made Dc8.out (by omega) (by first | exact Below.refl _ _ | go_grown)) OaKey.out).mono ?_
  rintro e w13 ⟨rfl, hb⟩
  clear l2 y2_0 y2_1
  clear l3 y3_0 y3_1 y3_2 y3_3
  clear l8 y8_0 y8_1
  clear l9 y9_0 y9_1 y9_2 y9_3
  have hst : Below w12.heap.size w12 w13 := below_later (by go_grown) hb
  have hs2 := Aside.mk (below_later HS0.out hst)
  clear HS0
  have HS0 := hs2
  clear hs2
  have hbt : But NoB w12 w13 := But.below hst
  have gw13 : w12.heap.size ≤ w13.heap.size := hbt.size
  have kk := (K2.out).below hst
  clear K2
  have K2 := Aside.mk kk
  clear kk
  have kk := (K3.out).below hst
  clear K3
  have K3 := Aside.mk kk
  clear kk
  have kk := (K8.out).below hst
  clear K8
  have K8 := Aside.mk kk
  clear kk
  have kk := (K9.out).below hst
  clear K9
  have K9 := Aside.mk kk
  clear kk
  have bel2 := Aside.mk (below_later BEL.out hst)
  clear BEL
  have BEL := bel2
  clear bel2
  have dd := Aside.mk (RTable.but DaT.out hbt (fun b hb => ⟨by have h2 := hb.2; omega, fun h => h.elim⟩))
  clear DaT
  have DaT := dd
  clear dd
  have dd := Aside.mk (Rec.term.but DaKey.out hbt (fun b hb => ⟨by have h2 := hb.2; omega, fun h => h.elim⟩))
  clear DaKey
  have DaKey := dd
  clear dd
  have dd := Aside.mk (RTable.but Dc1.out hbt (fun b hb => ⟨by have h2 := hb.2; omega, fun h => h.elim⟩))
  clear Dc1
  have Dc1 := dd
  clear dd
  have dd := Aside.mk (Rec.term.but Dc2.out hbt (fun b hb => ⟨by have h2 := hb.2; omega, fun h => h.elim⟩))
  clear Dc2
  have Dc2 := dd
  clear dd
  have dd := Aside.mk (Rec.term.sl.but Dr3d0.out hbt (fun b hb => ⟨by have h2 := hb.2; omega, fun h => h.elim⟩))
  clear Dr3d0
  have Dr3d0 := dd
  clear dd
  have dd := Aside.mk (RTable.but Dc4.out hbt (fun b hb => ⟨by have h2 := hb.2; omega, fun h => h.elim⟩))
  clear Dc4
  have Dc4 := dd
  clear dd
  have dd := Aside.mk (Rec.term.but Dc5.out hbt (fun b hb => ⟨by have h2 := hb.2; omega, fun h => h.elim⟩))
  clear Dc5
  have Dc5 := dd
  clear dd
  have dd := Aside.mk (Rec.term.sl.but Dr6d0.out hbt (fun b hb => ⟨by have h2 := hb.2; omega, fun h => h.elim⟩))
  clear Dr6d0
  have Dr6d0 := dd
  clear dd
  have dd := Aside.mk (RTable.but Dc7.out hbt (fun b hb => ⟨by have h2 := hb.2; omega, fun h => h.elim⟩))
  clear Dc7
  have Dc7 := dd
  clear dd
  have dd := Aside.mk (Rec.term.but Dc8.out hbt (fun b hb => ⟨by have h2 := hb.2; omega, fun h => h.elim⟩))
  clear Dc8
  have Dc8 := dd
  clear dd
  clear hbt hst hb
  have l2 : w.heap.size < w13.heap.size := K2.out.lt
  have y2_0 : w13.cell? ⟨w.heap.size, 0, none⟩ = some (.int .i64 xaT0) := K2.out.cell 0
  have y2_1 : w13.cell? ⟨w.heap.size, 1, none⟩ = some (.slice xaT1a xaT1b xaT1c) := K2.out.cell 1
  have l3 : w.heap.size + 1 < w13.heap.size := K3.out.lt
  have y3_0 : w13.cell? ⟨w.heap.size + 1, 0, none⟩ = some (.int .i64 xaKey0) := K3.out.cell 0
  have y3_1 : w13.cell? ⟨w.heap.size + 1, 1, none⟩ = some (.int .i64 xaKey1) := K3.out.cell 1
  have y3_2 : w13.cell? ⟨w.heap.size + 1, 2, none⟩ = some (.string xaKey2) := K3.out.cell 2
  have y3_3 : w13.cell? ⟨w.heap.size + 1, 3, none⟩ = some (.slice xaKey3a xaKey3b xaKey3c) := K3.out.cell 3
  have l8 : w6.heap.size < w13.heap.size := K8.out.lt
  have y8_0 : w13.cell? ⟨w6.heap.size, 0, none⟩ = some (.int .i64 c4_0) := K8.out.cell 0
  have y8_1 : w13.cell? ⟨w6.heap.size, 1, none⟩ = some (.slice c4_1a c4_1b c4_1c) := K8.out.cell 1
  have l9 : w7.heap.size < w13.heap.size := K9.out.lt
  have y9_0 : w13.cell? ⟨w7.heap.size, 0, none⟩ = some (.int .i64 c5_0) := K9.out.cell 0
  have y9_1 : w13.cell? ⟨w7.heap.size, 1, none⟩ = some (.int .i64 c5_1) := K9.out.cell 1
  have y9_2 : w13.cell? ⟨w7.heap.size, 2, none⟩ = some (.string c5_2) := K9.out.cell 2
  have y9_3 : w13.cell? ⟨w7.heap.size, 3, none⟩ = some (.slice c5_3a c5_3b c5_3c) := K9.out.cell 3
  refine ⟨_, rfl, HS0.out, ?_⟩
  refine env_yes HSZ H4.out ?_ (fun w' hS => ?_) ?_
  rotate_left
  (go_simp
   rfl)
  refine env_end ?_
  have hfr := HFR.out
  clear HFR HSZ H0 H1 H2 H3 H4 x_9 x_3
  subst hfr
  simp only [putAll, Act.put, List.setIfInBounds_toArray, List.set_cons_succ, List.set_cons_zero]
  clear HS0
  go_wp2_with fail
  refine (markTableV aT [.int .i64 c4_0, .slice c4_1a c4_1b c4_1c] _ (Span (w5.heap.size) (w6.heap.size)) (1) Dc4.out (fun b hb => by have h2 := hb.2; first | omega | (simp; omega)) (by omega) (by have := WaT.out; omega)).mono ?_
  rintro e w14 ⟨k1, z1, rfl, hh, hr, hb, hlek1, hlfk1⟩
  have hlgk1 : k1 ≤ 1 + 8589934592 := by have := WaT.out; omega
  clear hlfk1
  have HHk1 := Aside.mk hh
  clear hh
  clear Dc4
  have Dc4 := Aside.mk hr
  clear hr
  clear l2 y2_0 y2_1
  clear l3 y3_0 y3_1 y3_2 y3_3
  clear l8 y8_0 y8_1
  clear l9 y9_0 y9_1 y9_2 y9_3
  have hbt : But (Span (w5.heap.size) (w6.heap.size)) w13 w14 := (But.below (show Below w13.heap.size w13 _ by go_grown)).trans hb
  have gw14 : w13.heap.size ≤ w14.heap.size := hbt.size
  have kk := Blk.but K2.out hbt (fun h => by have h1 := h.1; have h2 := h.2; omega)
  clear K2
  have K2 := Aside.mk kk
  clear kk
  have kk := Blk.but K3.out hbt (fun h => by have h1 := h.1; have h2 := h.2; omega)
  clear K3
  have K3 := Aside.mk kk
  clear kk
  have kk := Blk.but K8.out hbt (fun h => by have h1 := h.1; have h2 := h.2; omega)
  clear K8
  have K8 := Aside.mk kk
  clear kk
  have kk := Blk.but K9.out hbt (fun h => by have h1 := h.1; have h2 := h.2; omega)
  clear K9
  have K9 := Aside.mk kk
  clear kk
  have bel2 := Aside.mk (But.out BEL.out hbt (fun k hk => by have h1 := hk.1; have h2 := BEL.out.size; omega))
  clear BEL
  have BEL := bel2
  clear bel2
  have dd := Aside.mk (RTable.but DaT.out hbt (fun b hb => ⟨by have h2 := hb.2; omega, fun h => by have h1 := h.1; have h2 := h.2; have h3 := hb.1; have h4 := hb.2; omega⟩))
  clear DaT
  have DaT := dd
  clear dd
  have dd := Aside.mk (Rec.term.but DaKey.out hbt (fun b hb => ⟨by have h2 := hb.2; omega, fun h => by have h1 := h.1; have h2 := h.2; have h3 := hb.1; have h4 := hb.2; omega⟩))
  clear DaKey
  have DaKey := dd
  clear dd
  have dd := Aside.mk (RTable.but Dc1.out hbt (fun b hb => ⟨by have h2 := hb.2; omega, fun h => by have h1 := h.1; have h2 := h.2; have h3 := hb.1; have h4 := hb.2; omega⟩))
  clear Dc1
  have Dc1 := dd
  clear dd
  have dd := Aside.mk (Rec.term.but Dc2.out hbt (fun b hb => ⟨by have h2 := hb.2; omega, fun h => by have h1 := h.1; have h2 := h.2; have h3 := hb.1; have h4 := hb.2; omega⟩))
  clear Dc2
  have Dc2 := dd
  clear dd
  have dd := Aside.mk (Rec.term.sl.but Dr3d0.out hbt (fun b hb => ⟨by have h2 := hb.2; omega, fun h => by have h1 := h.1; have h2 := h.2; have h3 := hb.1; have h4 := hb.2; omega⟩))
  clear Dr3d0
  have Dr3d0 := dd
  clear dd
  have dd := Aside.mk (Rec.term.but Dc5.out hbt (fun b hb => ⟨by have h2 := hb.2; omega, fun h => by have h1 := h.1; have h2 := h.2; have h3 := hb.1; have h4 := hb.2; omega⟩))
  clear Dc5
  have Dc5 := dd
  clear dd
  have dd := Aside.mk (Rec.term.sl.but Dr6d0.out hbt (fun b hb => ⟨by have h2 := hb.2; omega, fun h => by have h1 := h.1; have h2 := h.2; have h3 := hb.1; have h4 := hb.2; omega⟩))
  clear Dr6d0
  have Dr6d0 := dd
  clear dd
  have dd := Aside.mk (RTable.but Dc7.out hbt (fun b hb => ⟨by have h2 := hb.2; omega, fun h => by have h1 := h.1; have h2 := h.2; have h3 := hb.1; have h4 := hb.2; omega⟩))
  clear Dc7
  have Dc7 := dd
  clear dd
  have dd := Aside.mk (Rec.term.but Dc8.out hbt (fun b hb => ⟨by have h2 := hb.2; omega, fun h => by have h1 := h.1; have h2 := h.2; have h3 := hb.1; have h4 := hb.2; omega⟩))
  clear Dc8
  have Dc8 := dd
  clear dd
  clear hbt hb
  have l2 : w.heap.size < w14.heap.size := K2.out.lt
  have y2_0 : w14.cell? ⟨w.heap.size, 0, none⟩ = some (.int .i64 xaT0) := K2.out.cell 0
  have y2_1 : w14.cell? ⟨w.heap.size, 1, none⟩ = some (.slice xaT1a xaT1b xaT1c) := K2.out.cell 1
  have l3 : w.heap.size + 1 < w14.heap.size := K3.out.lt
  have y3_0 : w14.cell? ⟨w.heap.size + 1, 0, none⟩ = some (.int .i64 xaKey0) := K3.out.cell 0
  have y3_1 : w14.cell? ⟨w.heap.size + 1, 1, none⟩ = some (.int .i64 xaKey1) := K3.out.cell 1
  have y3_2 : w14.cell? ⟨w.heap.size + 1, 2, none⟩ = some (.string xaKey2) := K3.out.cell 2
  have y3_3 : w14.cell? ⟨w.heap.size + 1, 3, none⟩ = some (.slice xaKey3a xaKey3b xaKey3c) := K3.out.cell 3
  have l8 : w6.heap.size < w14.heap.size := K8.out.lt
  have y8_0 : w14.cell? ⟨w6.heap.size, 0, none⟩ = some (.int .i64 c4_0) := K8.out.cell 0
  have y8_1 : w14.cell? ⟨w6.heap.size, 1, none⟩ = some (.slice c4_1a c4_1b c4_1c) := K8.out.cell 1
  have l9 : w7.heap.size < w14.heap.size := K9.out.lt
  have y9_0 : w14.cell? ⟨w7.heap.size, 0, none⟩ = some (.int .i64 c5_0) := K9.out.cell 0
  have y9_1 : w14.cell? ⟨w7.heap.size, 1, none⟩ = some (.int .i64 c5_1) := K9.out.cell 1
  have y9_2 : w14.cell? ⟨w7.heap.size, 2, none⟩ = some (.string c5_2) := K9.out.cell 2
  have y9_3 : w14.cell? ⟨w7.heap.size, 3, none⟩ = some (.slice c5_3a c5_3b c5_3c) := K9.out.cell 3
  go_wp2_with fail
  refine (markTermV aKey [.int .i64 c5_0, .int .i64 c5_1, .string c5_2, .slice c5_3a c5_3b c5_3c] _ (Span (w6.heap.size + 1) (w7.heap.size)) (k1) Dc5.out (fun b hb => by have h2 := hb.2; first | omega | (simp; omega)) (by omega) (by have := WaKey.out; omega)).mono ?_
  rintro e w15 ⟨k2, z2, rfl, hh, hr, hb, hlek2, hlfk2⟩
  have hlgk2 : k2 ≤ k1 + 8589934592 := by have := WaKey.out; omega
  clear hlfk2
  have HHk2 := Aside.mk hh
  clear hh
  clear Dc5
  have Dc5 := Aside.mk hr
  clear hr
  clear l2 y2_0 y2_1
  clear l3 y3_0 y3_1 y3_2 y3_3
  clear l8 y8_0 y8_1
  clear l9 y9_0 y9_1 y9_2 y9_3
  have hbt : But (Span (w6.heap.size + 1) (w7.heap.size)) w14 w15 := (But.below (show Below w14.heap.size w14 _ by go_grown)).trans hb
  have gw15 : w14.heap.size ≤ w15.heap.size := hbt.size
  have kk := Blk.but K2.out hbt (fun h => by have h1 := h.1; have h2 := h.2; omega)
  clear K2
  have K2 := Aside.mk kk
  clear kk
  have kk := Blk.but K3.out hbt (fun h => by have h1 := h.1; have h2 := h.2; omega)
  clear K3
  have K3 := Aside.mk kk
  clear kk
  have kk := Blk.but K8.out hbt (fun h => by have h1 := h.1; have h2 := h.2; omega)
  clear K8
  have K8 := Aside.mk kk
  clear kk
  have kk := Blk.but K9.out hbt (fun h => by have h1 := h.1; have h2 := h.2; omega)
  clear K9
  have K9 := Aside.mk kk
  clear kk
  have bel2 := Aside.mk (But.out BEL.out hbt (fun k hk => by have h1 := hk.1; have h2 := BEL.out.size; omega))
  clear BEL
  have BEL := bel2
  clear bel2
  have dd := Aside.mk (RTable.but DaT.out hbt (fun b hb => ⟨by have h2 := hb.2; omega, fun h => by have h1 := h.1; have h2 := h.2; have h3 := hb.1; have h4 := hb.2; omega⟩))
  clear DaT
  have DaT := dd
  clear dd
  have dd := Aside.mk (Rec.term.but DaKey.out hbt (fun b hb => ⟨by have h2 := hb.2; omega, fun h => by have h1 := h.1; have h2 := h.2; have h3 := hb.1; have h4 := hb.2; omega⟩))
  clear DaKey
  have DaKey := dd
  clear dd
  have dd := Aside.mk (RTable.but Dc1.out hbt (fun b hb => ⟨by have h2 := hb.2; omega, fun h => by have h1 := h.1; have h2 := h.2; have h3 := hb.1; have h4 := hb.2; omega⟩))
  clear Dc1
  have Dc1 := dd
  clear dd
  have dd := Aside.mk (Rec.term.but Dc2.out hbt (fun b hb => ⟨by have h2 := hb.2; omega, fun h => by have h1 := h.1; have h2 := h.2; have h3 := hb.1; have h4 := hb.2; omega⟩))
  clear Dc2
  have Dc2 := dd
  clear dd
  have dd := Aside.mk (Rec.term.sl.but Dr3d0.out hbt (fun b hb => ⟨by have h2 := hb.2; omega, fun h => by have h1 := h.1; have h2 := h.2; have h3 := hb.1; have h4 := hb.2; omega⟩))
  clear Dr3d0
  have Dr3d0 := dd
  clear dd
  have dd := Aside.mk (RTable.but Dc4.out hbt (fun b hb => ⟨by have h2 := hb.2; omega, fun h => by have h1 := h.1; have h2 := h.2; have h3 := hb.1; have h4 := hb.2; omega⟩))
  clear Dc4
  have Dc4 := dd
  clear dd
  have dd := Aside.mk (Rec.term.sl.but Dr6d0.out hbt (fun b hb => ⟨by have h2 := hb.2; omega, fun h => by have h1 := h.1; have h2 := h.2; have h3 := hb.1; have h4 := hb.2; omega⟩))
  clear Dr6d0
  have Dr6d0 := dd
  clear dd
  have dd := Aside.mk (RTable.but Dc7.out hbt (fun b hb => ⟨by have h2 := hb.2; omega, fun h => by have h1 := h.1; have h2 := h.2; have h3 := hb.1; have h4 := hb.2; omega⟩))
  clear Dc7
  have Dc7 := dd
  clear dd
  have dd := Aside.mk (Rec.term.but Dc8.out hbt (fun b hb => ⟨by have h2 := hb.2; omega, fun h => by have h1 := h.1; have h2 := h.2; have h3 := hb.1; have h4 := hb.2; omega⟩))
  clear Dc8
  have Dc8 := dd
  clear dd
  clear hbt hb
  have l2 : w.heap.size < w15.heap.size := K2.out.lt
  have y2_0 : w15.cell? ⟨w.heap.size, 0, none⟩ = some (.int .i64 xaT0) := K2.out.cell 0
  have y2_1 : w15.cell? ⟨w.heap.size, 1, none⟩ = some (.slice xaT1a xaT1b xaT1c) := K2.out.cell 1
  have l3 : w.heap.size + 1 < w15.heap.size := K3.out.lt
  have y3_0 : w15.cell? ⟨w.heap.size + 1, 0, none⟩ = some (.int .i64 xaKey0) := K3.out.cell 0
  have y3_1 : w15.cell? ⟨w.heap.size + 1, 1, none⟩ = some (.int .i64 xaKey1) := K3.out.cell 1
  have y3_2 : w15.cell? ⟨w.heap.size + 1, 2, none⟩ = some (.string xaKey2) := K3.out.cell 2
  have y3_3 : w15.cell? ⟨w.heap.size + 1, 3, none⟩ = some (.slice xaKey3a xaKey3b xaKey3c) := K3.out.cell 3
  have l8 : w6.heap.size < w15.heap.size := K8.out.lt
  have y8_0 : w15.cell? ⟨w6.heap.size, 0, none⟩ = some (.int .i64 c4_0) := K8.out.cell 0
  have y8_1 : w15.cell? ⟨w6.heap.size, 1, none⟩ = some (.slice c4_1a c4_1b c4_1c) := K8.out.cell 1
  have l9 : w7.heap.size < w15.heap.size := K9.out.lt
  have y9_0 : w15.cell? ⟨w7.heap.size, 0, none⟩ = some (.int .i64 c5_0) := K9.out.cell 0
  have y9_1 : w15.cell? ⟨w7.heap.size, 1, none⟩ = some (.int .i64 c5_1) := K9.out.cell 1
  have y9_2 : w15.cell? ⟨w7.heap.size, 2, none⟩ = some (.string c5_2) := K9.out.cell 2
  have y9_3 : w15.cell? ⟨w7.heap.size, 3, none⟩ = some (.slice c5_3a c5_3b c5_3c) := K9.out.cell 3
  go_wp2_with fail
  refine (eqTermS x0 (fun x _ ca cb w1 ha hb ho => eqTerm x ca cb w1 ha hb ho) _ _ _ (Rec.term.sl.made Dr6d0.out (by omega) (by first | exact Below.refl _ _ | go_grown)) (Rec.term.sl.made Dr3d0.out (by omega) (by first | exact Below.refl _ _ | go_grown)) HOK0.out).mono ?_
  rintro e w16 ⟨rfl, hb⟩
  clear l2 y2_0 y2_1
  clear l3 y3_0 y3_1 y3_2 y3_3
  clear l8 y8_0 y8_1
  clear l9 y9_0 y9_1 y9_2 y9_3
  have hst : Below w15.heap.size w15 w16 := below_later (by go_grown) hb
  have hbt : But NoB w15 w16 := But.below hst
  have gw16 : w15.heap.size ≤ w16.heap.size := hbt.size
  have kk := (K2.out).below hst
  clear K2
  have K2 := Aside.mk kk
  clear kk
  have kk := (K3.out).below hst
  clear K3
  have K3 := Aside.mk kk
  clear kk
  have kk := (K8.out).below hst
  clear K8
  have K8 := Aside.mk kk
  clear kk
  have kk := (K9.out).below hst
  clear K9
  have K9 := Aside.mk kk
  clear kk
  have bel2 := Aside.mk (below_later BEL.out hst)
  clear BEL
  have BEL := bel2
  clear bel2
  have dd := Aside.mk (RTable.but DaT.out hbt (fun b hb => ⟨by have h2 := hb.2; omega, fun h => h.elim⟩))
  clear DaT
  have DaT := dd
  clear dd
  have dd := Aside.mk (Rec.term.but DaKey.out hbt (fun b hb => ⟨by have h2 := hb.2; omega, fun h => h.elim⟩))
  clear DaKey
  have DaKey := dd
  clear dd
  have dd := Aside.mk (RTable.but Dc1.out hbt (fun b hb => ⟨by have h2 := hb.2; omega, fun h => h.elim⟩))
  clear Dc1
  have Dc1 := dd
  clear dd
  have dd := Aside.mk (Rec.term.but Dc2.out hbt (fun b hb => ⟨by have h2 := hb.2; omega, fun h => h.elim⟩))
  clear Dc2
  have Dc2 := dd
  clear dd
  have dd := Aside.mk (Rec.term.sl.but Dr3d0.out hbt (fun b hb => ⟨by have h2 := hb.2; omega, fun h => h.elim⟩))
  clear Dr3d0
  have Dr3d0 := dd
  clear dd
  have dd := Aside.mk (RTable.but Dc4.out hbt (fun b hb => ⟨by have h2 := hb.2; omega, fun h => h.elim⟩))
  clear Dc4
  have Dc4 := dd
  clear dd
  have dd := Aside.mk (Rec.term.but Dc5.out hbt (fun b hb => ⟨by have h2 := hb.2; omega, fun h => h.elim⟩))
  clear Dc5
  have Dc5 := dd
  clear dd
  have dd := Aside.mk (Rec.term.sl.but Dr6d0.out hbt (fun b hb => ⟨by have h2 := hb.2; omega, fun h => h.elim⟩))
  clear Dr6d0
  have Dr6d0 := dd
  clear dd
  have dd := Aside.mk (RTable.but Dc7.out hbt (fun b hb => ⟨by have h2 := hb.2; omega, fun h => h.elim⟩))
  clear Dc7
  have Dc7 := dd
  clear dd
  have dd := Aside.mk (Rec.term.but Dc8.out hbt (fun b hb => ⟨by have h2 := hb.2; omega, fun h => h.elim⟩))
  clear Dc8
  have Dc8 := dd
  clear dd
  clear hbt hst hb
  have l2 : w.heap.size < w16.heap.size := K2.out.lt
  have y2_0 : w16.cell? ⟨w.heap.size, 0, none⟩ = some (.int .i64 xaT0) := K2.out.cell 0
  have y2_1 : w16.cell? ⟨w.heap.size, 1, none⟩ = some (.slice xaT1a xaT1b xaT1c) := K2.out.cell 1
  have l3 : w.heap.size + 1 < w16.heap.size := K3.out.lt
  have y3_0 : w16.cell? ⟨w.heap.size + 1, 0, none⟩ = some (.int .i64 xaKey0) := K3.out.cell 0
  have y3_1 : w16.cell? ⟨w.heap.size + 1, 1, none⟩ = some (.int .i64 xaKey1) := K3.out.cell 1
  have y3_2 : w16.cell? ⟨w.heap.size + 1, 2, none⟩ = some (.string xaKey2) := K3.out.cell 2
  have y3_3 : w16.cell? ⟨w.heap.size + 1, 3, none⟩ = some (.slice xaKey3a xaKey3b xaKey3c) := K3.out.cell 3
  have l8 : w6.heap.size < w16.heap.size := K8.out.lt
  have y8_0 : w16.cell? ⟨w6.heap.size, 0, none⟩ = some (.int .i64 c4_0) := K8.out.cell 0
  have y8_1 : w16.cell? ⟨w6.heap.size, 1, none⟩ = some (.slice c4_1a c4_1b c4_1c) := K8.out.cell 1
  have l9 : w7.heap.size < w16.heap.size := K9.out.lt
  have y9_0 : w16.cell? ⟨w7.heap.size, 0, none⟩ = some (.int .i64 c5_0) := K9.out.cell 0
  have y9_1 : w16.cell? ⟨w7.heap.size, 1, none⟩ = some (.int .i64 c5_1) := K9.out.cell 1
  have y9_2 : w16.cell? ⟨w7.heap.size, 2, none⟩ = some (.string c5_2) := K9.out.cell 2
  have y9_3 : w16.cell? ⟨w7.heap.size, 3, none⟩ = some (.slice c5_3a c5_3b c5_3c) := K9.out.cell 3
  go_wp2_with fail
  refine (markTermAll x0 (.slice Ar6d0 x0.length cr6d0) _ (Span (w7.heap.size + 1) (w8.heap.size)) (1) Dr6d0.out (fun b hb => by have h2 := hb.2; first | omega | (simp; omega)) (by omega) (by have := HWT0.out; omega)).mono ?_
  rintro e w17 ⟨k3, z3, rfl, hh, -, hr, hb, hlek3, hlfk3⟩
  have hlgk3 : k3 ≤ 1 + 8589934592 := by have := HWT0.out; omega
  clear hlfk3
  have HHk3 := Aside.mk hh
  clear hh
  clear Dr6d0
  have Dr6d0 := Aside.mk hr
  clear hr
  clear l2 y2_0 y2_1
  clear l3 y3_0 y3_1 y3_2 y3_3
  clear l8 y8_0 y8_1
  clear l9 y9_0 y9_1 y9_2 y9_3
  have hbt : But (Span (w7.heap.size + 1) (w8.heap.size)) w16 w17 := (But.below (show Below w16.heap.size w16 _ by go_grown)).trans hb
  have gw17 : w16.heap.size ≤ w17.heap.size := hbt.size
  have kk := Blk.but K2.out hbt (fun h => by have h1 := h.1; have h2 := h.2; omega)
  clear K2
  have K2 := Aside.mk kk
  clear kk
  have kk := Blk.but K3.out hbt (fun h => by have h1 := h.1; have h2 := h.2; omega)
  clear K3
  have K3 := Aside.mk kk
  clear kk
  have kk := Blk.but K8.out hbt (fun h => by have h1 := h.1; have h2 := h.2; omega)
  clear K8
  have K8 := Aside.mk kk
  clear kk
  have kk := Blk.but K9.out hbt (fun h => by have h1 := h.1; have h2 := h.2; omega)
  clear K9
  have K9 := Aside.mk kk
  clear kk
  have bel2 := Aside.mk (But.out BEL.out hbt (fun k hk => by have h1 := hk.1; have h2 := BEL.out.size; omega))
  clear BEL
  have BEL := bel2
  clear bel2
  have dd := Aside.mk (RTable.but DaT.out hbt (fun b hb => ⟨by have h2 := hb.2; omega, fun h => by have h1 := h.1; have h2 := h.2; have h3 := hb.1; have h4 := hb.2; omega⟩))
  clear DaT
  have DaT := dd
  clear dd
  have dd := Aside.mk (Rec.term.but DaKey.out hbt (fun b hb => ⟨by have h2 := hb.2; omega, fun h => by have h1 := h.1; have h2 := h.2; have h3 := hb.1; have h4 := hb.2; omega⟩))
  clear DaKey
  have DaKey := dd
  clear dd
  have dd := Aside.mk (RTable.but Dc1.out hbt (fun b hb => ⟨by have h2 := hb.2; omega, fun h => by have h1 := h.1; have h2 := h.2; have h3 := hb.1; have h4 := hb.2; omega⟩))
  clear Dc1
  have Dc1 := dd
  clear dd
  have dd := Aside.mk (Rec.term.but Dc2.out hbt (fun b hb => ⟨by have h2 := hb.2; omega, fun h => by have h1 := h.1; have h2 := h.2; have h3 := hb.1; have h4 := hb.2; omega⟩))
  clear Dc2
  have Dc2 := dd
  clear dd
  have dd := Aside.mk (Rec.term.sl.but Dr3d0.out hbt (fun b hb => ⟨by have h2 := hb.2; omega, fun h => by have h1 := h.1; have h2 := h.2; have h3 := hb.1; have h4 := hb.2; omega⟩))
  clear Dr3d0
  have Dr3d0 := dd
  clear dd
  have dd := Aside.mk (RTable.but Dc4.out hbt (fun b hb => ⟨by have h2 := hb.2; omega, fun h => by have h1 := h.1; have h2 := h.2; have h3 := hb.1; have h4 := hb.2; omega⟩))
  clear Dc4
  have Dc4 := dd
  clear dd
  have dd := Aside.mk (Rec.term.but Dc5.out hbt (fun b hb => ⟨by have h2 := hb.2; omega, fun h => by have h1 := h.1; have h2 := h.2; have h3 := hb.1; have h4 := hb.2; omega⟩))
  clear Dc5
  have Dc5 := dd
  clear dd
  have dd := Aside.mk (RTable.but Dc7.out hbt (fun b hb => ⟨by have h2 := hb.2; omega, fun h => by have h1 := h.1; have h2 := h.2; have h3 := hb.1; have h4 := hb.2; omega⟩))
  clear Dc7
  have Dc7 := dd
  clear dd
  have dd := Aside.mk (Rec.term.but Dc8.out hbt (fun b hb => ⟨by have h2 := hb.2; omega, fun h => by have h1 := h.1; have h2 := h.2; have h3 := hb.1; have h4 := hb.2; omega⟩))
  clear Dc8
  have Dc8 := dd
  clear dd
  clear hbt hb
  have l2 : w.heap.size < w17.heap.size := K2.out.lt
  have y2_0 : w17.cell? ⟨w.heap.size, 0, none⟩ = some (.int .i64 xaT0) := K2.out.cell 0
  have y2_1 : w17.cell? ⟨w.heap.size, 1, none⟩ = some (.slice xaT1a xaT1b xaT1c) := K2.out.cell 1
  have l3 : w.heap.size + 1 < w17.heap.size := K3.out.lt
  have y3_0 : w17.cell? ⟨w.heap.size + 1, 0, none⟩ = some (.int .i64 xaKey0) := K3.out.cell 0
  have y3_1 : w17.cell? ⟨w.heap.size + 1, 1, none⟩ = some (.int .i64 xaKey1) := K3.out.cell 1
  have y3_2 : w17.cell? ⟨w.heap.size + 1, 2, none⟩ = some (.string xaKey2) := K3.out.cell 2
  have y3_3 : w17.cell? ⟨w.heap.size + 1, 3, none⟩ = some (.slice xaKey3a xaKey3b xaKey3c) := K3.out.cell 3
  have l8 : w6.heap.size < w17.heap.size := K8.out.lt
  have y8_0 : w17.cell? ⟨w6.heap.size, 0, none⟩ = some (.int .i64 c4_0) := K8.out.cell 0
  have y8_1 : w17.cell? ⟨w6.heap.size, 1, none⟩ = some (.slice c4_1a c4_1b c4_1c) := K8.out.cell 1
  have l9 : w7.heap.size < w17.heap.size := K9.out.lt
  have y9_0 : w17.cell? ⟨w7.heap.size, 0, none⟩ = some (.int .i64 c5_0) := K9.out.cell 0
  have y9_1 : w17.cell? ⟨w7.heap.size, 1, none⟩ = some (.int .i64 c5_1) := K9.out.cell 1
  have y9_2 : w17.cell? ⟨w7.heap.size, 2, none⟩ = some (.string c5_2) := K9.out.cell 2
  have y9_3 : w17.cell? ⟨w7.heap.size, 3, none⟩ = some (.slice c5_3a c5_3b c5_3c) := K9.out.cell 3
  go_wp2_with fail
  refine (heldTermAll z3 (.slice Ar6d0 x0.length cr6d0) _ (1) k3 (Rec.term.sl.made Dr6d0.out (by omega) (by first | exact Below.refl _ _ | go_grown)) HHk3.out (by omega) (by omega)).mono ?_
  rintro e w18 ⟨rfl, hb⟩
  clear l2 y2_0 y2_1
  clear l3 y3_0 y3_1 y3_2 y3_3
  clear l8 y8_0 y8_1
  clear l9 y9_0 y9_1 y9_2 y9_3
  have hst : Below w17.heap.size w17 w18 := below_later (by go_grown) hb
  have hbt : But NoB w17 w18 := But.below hst
  have gw18 : w17.heap.size ≤ w18.heap.size := hbt.size
  have kk := (K2.out).below hst
  clear K2
  have K2 := Aside.mk kk
  clear kk
  have kk := (K3.out).below hst
  clear K3
  have K3 := Aside.mk kk
  clear kk
  have kk := (K8.out).below hst
  clear K8
  have K8 := Aside.mk kk
  clear kk
  have kk := (K9.out).below hst
  clear K9
  have K9 := Aside.mk kk
  clear kk
  have bel2 := Aside.mk (below_later BEL.out hst)
  clear BEL
  have BEL := bel2
  clear bel2
  have dd := Aside.mk (RTable.but DaT.out hbt (fun b hb => ⟨by have h2 := hb.2; omega, fun h => h.elim⟩))
  clear DaT
  have DaT := dd
  clear dd
  have dd := Aside.mk (Rec.term.but DaKey.out hbt (fun b hb => ⟨by have h2 := hb.2; omega, fun h => h.elim⟩))
  clear DaKey
  have DaKey := dd
  clear dd
  have dd := Aside.mk (RTable.but Dc1.out hbt (fun b hb => ⟨by have h2 := hb.2; omega, fun h => h.elim⟩))
  clear Dc1
  have Dc1 := dd
  clear dd
  have dd := Aside.mk (Rec.term.but Dc2.out hbt (fun b hb => ⟨by have h2 := hb.2; omega, fun h => h.elim⟩))
  clear Dc2
  have Dc2 := dd
  clear dd
  have dd := Aside.mk (Rec.term.sl.but Dr3d0.out hbt (fun b hb => ⟨by have h2 := hb.2; omega, fun h => h.elim⟩))
  clear Dr3d0
  have Dr3d0 := dd
  clear dd
  have dd := Aside.mk (RTable.but Dc4.out hbt (fun b hb => ⟨by have h2 := hb.2; omega, fun h => h.elim⟩))
  clear Dc4
  have Dc4 := dd
  clear dd
  have dd := Aside.mk (Rec.term.but Dc5.out hbt (fun b hb => ⟨by have h2 := hb.2; omega, fun h => h.elim⟩))
  clear Dc5
  have Dc5 := dd
  clear dd
  have dd := Aside.mk (Rec.term.sl.but Dr6d0.out hbt (fun b hb => ⟨by have h2 := hb.2; omega, fun h => h.elim⟩))
  clear Dr6d0
  have Dr6d0 := dd
  clear dd
  have dd := Aside.mk (RTable.but Dc7.out hbt (fun b hb => ⟨by have h2 := hb.2; omega, fun h => h.elim⟩))
  clear Dc7
  have Dc7 := dd
  clear dd
  have dd := Aside.mk (Rec.term.but Dc8.out hbt (fun b hb => ⟨by have h2 := hb.2; omega, fun h => h.elim⟩))
  clear Dc8
  have Dc8 := dd
  clear dd
  clear hbt hst hb
  have l2 : w.heap.size < w18.heap.size := K2.out.lt
  have y2_0 : w18.cell? ⟨w.heap.size, 0, none⟩ = some (.int .i64 xaT0) := K2.out.cell 0
  have y2_1 : w18.cell? ⟨w.heap.size, 1, none⟩ = some (.slice xaT1a xaT1b xaT1c) := K2.out.cell 1
  have l3 : w.heap.size + 1 < w18.heap.size := K3.out.lt
  have y3_0 : w18.cell? ⟨w.heap.size + 1, 0, none⟩ = some (.int .i64 xaKey0) := K3.out.cell 0
  have y3_1 : w18.cell? ⟨w.heap.size + 1, 1, none⟩ = some (.int .i64 xaKey1) := K3.out.cell 1
  have y3_2 : w18.cell? ⟨w.heap.size + 1, 2, none⟩ = some (.string xaKey2) := K3.out.cell 2
  have y3_3 : w18.cell? ⟨w.heap.size + 1, 3, none⟩ = some (.slice xaKey3a xaKey3b xaKey3c) := K3.out.cell 3
  have l8 : w6.heap.size < w18.heap.size := K8.out.lt
  have y8_0 : w18.cell? ⟨w6.heap.size, 0, none⟩ = some (.int .i64 c4_0) := K8.out.cell 0
  have y8_1 : w18.cell? ⟨w6.heap.size, 1, none⟩ = some (.slice c4_1a c4_1b c4_1c) := K8.out.cell 1
  have l9 : w7.heap.size < w18.heap.size := K9.out.lt
  have y9_0 : w18.cell? ⟨w7.heap.size, 0, none⟩ = some (.int .i64 c5_0) := K9.out.cell 0
  have y9_1 : w18.cell? ⟨w7.heap.size, 1, none⟩ = some (.int .i64 c5_1) := K9.out.cell 1
  have y9_2 : w18.cell? ⟨w7.heap.size, 2, none⟩ = some (.string c5_2) := K9.out.cell 2
  have y9_3 : w18.cell? ⟨w7.heap.size, 3, none⟩ = some (.slice c5_3a c5_3b c5_3c) := K9.out.cell 3
  go_wp2_with fail
  have HS0 : Aside (Below w18.heap.size w18 w18) := ⟨Below.refl _ _⟩
  refine region_env [(0, true), (2, true), (1, false), (3, false), (4, false), (5, true), (6, true), (7, true), (8, true), (9, true)] (fun w' => Below w18.heap.size w18 w') 119 rfl (by kernel_rfl) (by kernel_rfl) (fun _ _ d _ _ h => by cases d <;> exact h) ((Below.refl _ _).drew) (fun ops fr HFR HSZ hl => ?_)
  have hl_0 := ops_start hl
  clear hl
  obtain ⟨H0, hl_1⟩ := ops_next 0 1 rfl hl_0
  clear hl_0
  obtain ⟨H1, hl_2⟩ := ops_next 1 2 rfl hl_1
  clear hl_1
  obtain ⟨H2, hl_3⟩ := ops_next 2 3 rfl hl_2
  clear hl_2
  obtain ⟨H3, hl_4⟩ := ops_next 3 4 rfl hl_3
  clear hl_3
  obtain ⟨H4, hl_5⟩ := ops_next 4 5 rfl hl_4
  clear hl_4
  obtain ⟨H5, hl_6⟩ := ops_next 5 6 rfl hl_5
  clear hl_5
  obtain ⟨H6, hl_7⟩ := ops_next 6 7 rfl hl_6
  clear hl_6
  obtain ⟨H7, hl_8⟩ := ops_next 7 8 rfl hl_7
  clear hl_7
  obtain ⟨H8, hl_9⟩ := ops_next 8 9 rfl hl_8
  clear hl_8
  obtain ⟨H9, hl_10⟩ := ops_next 9 10 rfl hl_9
  clear hl_9
  clear hl_10
  have x_2 : ext fr 2 = _ := congrArg (fun a => Act.eval a (.tmp 2)) HFR.out
  conv at x_2 => rhs; simp only [Act.eval, Array.getD_eq_getD_getElem?, List.getElem?_toArray, List.getElem?_cons_succ, List.getElem?_cons_zero, Option.getD_some]
  have x_3 : ext fr 3 = _ := congrArg (fun a => Act.eval a (.tmp 3)) HFR.out
  conv at x_3 => rhs; simp only [Act.eval, Array.getD_eq_getD_getElem?, List.getElem?_toArray, List.getElem?_cons_succ, List.getElem?_cons_zero, Option.getD_some]
  refine env_yes HSZ H0.out ?_ (fun w' hS => ?_) ?_
  rotate_left
  (have h0 := (hS.cell (p := ⟨w.heap.size, 0, none⟩) l2).trans y2_0
   have h1 := (hS.cell (p := ⟨w.heap.size, 1, none⟩) l2).trans y2_1
   go_simp
   rfl)
  refine env_yes HSZ H2.out ?_ (fun w' hS => ?_) ?_
  rotate_left
  (have h0 := (hS.cell (p := ⟨w.heap.size + 1, 0, none⟩) l3).trans y3_0
   have h1 := (hS.cell (p := ⟨w.heap.size + 1, 1, none⟩) l3).trans y3_1
   have h2 := (hS.cell (p := ⟨w.heap.size + 1, 2, none⟩) l3).trans y3_2
   have h3 := (hS.cell (p := ⟨w.heap.size + 1, 3, none⟩) l3).trans y3_3
   go_simp
   rfl)
  refine env_call HSZ H1.out ?_ ?_ ?_ ?_
  rotate_left 2
  (go_simp
   first | rfl | (constructor <;> rfl))
  refine (toTable aT [.int .i64 xaT0, .slice xaT1a xaT1b xaT1c] _ (RTable.made DaT.out (by omega) (by first | exact Below.refl _ _ | go_grown)) WaT.out).mono ?_
  rintro e w19 ⟨cs2, rfl, hr, hb⟩
  obtain ⟨c9_0, c9_1a, c9_1b, c9_1c, rfl⟩ := shapeTable hr
  have Dc9 : Aside (RTable.rd True w19 (Span (w18.heap.size) w19.heap.size) aT [.int .i64 c9_0, .slice c9_1a c9_1b c9_1c]) := ⟨RTable.mono hr (fun b h => ⟨by have h1 := h.1; (try simp at h1); omega, h.2⟩)⟩
  clear hr
  clear l2 y2_0 y2_1
  clear l3 y3_0 y3_1 y3_2 y3_3
  clear l8 y8_0 y8_1
  clear l9 y9_0 y9_1 y9_2 y9_3
  have hst : Below w18.heap.size w18 w19 := below_later (by go_grown) hb
  have hs2 := Aside.mk (below_later HS0.out hst)
  clear HS0
  have HS0 := hs2
  clear hs2
  have hbt : But NoB w18 w19 := But.below hst
  have gw19 : w18.heap.size ≤ w19.heap.size := hbt.size
  have kk := (K2.out).below hst
  clear K2
  have K2 := Aside.mk kk
  clear kk
  have kk := (K3.out).below hst
  clear K3
  have K3 := Aside.mk kk
  clear kk
  have kk := (K8.out).below hst
  clear K8
  have K8 := Aside.mk kk
  clear kk
  have kk := (K9.out).below hst
  clear K9
  have K9 := Aside.mk kk
  clear kk
  have bel2 := Aside.mk (below_later BEL.out hst)
  clear BEL
  have BEL := bel2
  clear bel2
  have dd := Aside.mk (RTable.but DaT.out hbt (fun b hb => ⟨by have h2 := hb.2; omega, fun h => h.elim⟩))
  clear DaT
  have DaT := dd
  clear dd
  have dd := Aside.mk (Rec.term.but DaKey.out hbt (fun b hb => ⟨by have h2 := hb.2; omega, fun h => h.elim⟩))
  clear DaKey
  have DaKey := dd
  clear dd
  have dd := Aside.mk (RTable.but Dc1.out hbt (fun b hb => ⟨by have h2 := hb.2; omega, fun h => h.elim⟩))
  clear Dc1
  have Dc1 := dd
  clear dd
  have dd := Aside.mk (Rec.term.but Dc2.out hbt (fun b hb => ⟨by have h2 := hb.2; omega, fun h => h.elim⟩))
  clear Dc2
  have Dc2 := dd
  clear dd
  have dd := Aside.mk (Rec.term.sl.but Dr3d0.out hbt (fun b hb => ⟨by have h2 := hb.2; omega, fun h => h.elim⟩))
  clear Dr3d0
  have Dr3d0 := dd
  clear dd
  have dd := Aside.mk (RTable.but Dc4.out hbt (fun b hb => ⟨by have h2 := hb.2; omega, fun h => h.elim⟩))
  clear Dc4
  have Dc4 := dd
  clear dd
  have dd := Aside.mk (Rec.term.but Dc5.out hbt (fun b hb => ⟨by have h2 := hb.2; omega, fun h => h.elim⟩))
  clear Dc5
  have Dc5 := dd
  clear dd
  have dd := Aside.mk (Rec.term.sl.but Dr6d0.out hbt (fun b hb => ⟨by have h2 := hb.2; omega, fun h => h.elim⟩))
  clear Dr6d0
  have Dr6d0 := dd
  clear dd
  have dd := Aside.mk (RTable.but Dc7.out hbt (fun b hb => ⟨by have h2 := hb.2; omega, fun h => h.elim⟩))
  clear Dc7
  have Dc7 := dd
  clear dd
  have dd := Aside.mk (Rec.term.but Dc8.out hbt (fun b hb => ⟨by have h2 := hb.2; omega, fun h => h.elim⟩))
  clear Dc8
  have Dc8 := dd
  clear dd
  clear hbt hst hb
  have l2 : w.heap.size < w19.heap.size := K2.out.lt
  have y2_0 : w19.cell? ⟨w.heap.size, 0, none⟩ = some (.int .i64 xaT0) := K2.out.cell 0
  have y2_1 : w19.cell? ⟨w.heap.size, 1, none⟩ = some (.slice xaT1a xaT1b xaT1c) := K2.out.cell 1
  have l3 : w.heap.size + 1 < w19.heap.size := K3.out.lt
  have y3_0 : w19.cell? ⟨w.heap.size + 1, 0, none⟩ = some (.int .i64 xaKey0) := K3.out.cell 0
  have y3_1 : w19.cell? ⟨w.heap.size + 1, 1, none⟩ = some (.int .i64 xaKey1) := K3.out.cell 1
  have y3_2 : w19.cell? ⟨w.heap.size + 1, 2, none⟩ = some (.string xaKey2) := K3.out.cell 2
  have y3_3 : w19.cell? ⟨w.heap.size + 1, 3, none⟩ = some (.slice xaKey3a xaKey3b xaKey3c) := K3.out.cell 3
  have l8 : w6.heap.size < w19.heap.size := K8.out.lt
  have y8_0 : w19.cell? ⟨w6.heap.size, 0, none⟩ = some (.int .i64 c4_0) := K8.out.cell 0
  have y8_1 : w19.cell? ⟨w6.heap.size, 1, none⟩ = some (.slice c4_1a c4_1b c4_1c) := K8.out.cell 1
  have l9 : w7.heap.size < w19.heap.size := K9.out.lt
  have y9_0 : w19.cell? ⟨w7.heap.size, 0, none⟩ = some (.int .i64 c5_0) := K9.out.cell 0
  have y9_1 : w19.cell? ⟨w7.heap.size, 1, none⟩ = some (.int .i64 c5_1) := K9.out.cell 1
  have y9_2 : w19.cell? ⟨w7.heap.size, 2, none⟩ = some (.string c5_2) := K9.out.cell 2
  have y9_3 : w19.cell? ⟨w7.heap.size, 3, none⟩ = some (.slice c5_3a c5_3b c5_3c) := K9.out.cell 3
  refine ⟨_, rfl, HS0.out, ?_⟩
  refine env_call HSZ H3.out ?_ ?_ ?_ ?_
  rotate_left 2
  (go_simp
   first | rfl | (constructor <;> rfl))
  refine (toTerm aKey [.int .i64 xaKey0, .int .i64 xaKey1, .string xaKey2, .slice xaKey3a xaKey3b xaKey3c] _ (Rec.term.made DaKey.out (by omega) (by first | exact Below.refl _ _ | go_grown)) WaKey.out).mono ?_
  rintro e w20 ⟨cs2, rfl, hr, hb⟩
  obtain ⟨c10_0, c10_1, c10_2, c10_3a, c10_3b, c10_3c, rfl⟩ := shapeTerm hr
  have Dc10 : Aside (Rec.term.rd True w20 (Span (w19.heap.size) w20.heap.size) aKey [.int .i64 c10_0, .int .i64 c10_1, .string c10_2, .slice c10_3a c10_3b c10_3c]) := ⟨Rec.term.mono hr (fun b h => ⟨by have h1 := h.1; (try simp at h1); omega, h.2⟩)⟩
  clear hr
  clear l2 y2_0 y2_1
  clear l3 y3_0 y3_1 y3_2 y3_3
  clear l8 y8_0 y8_1
  clear l9 y9_0 y9_1 y9_2 y9_3
  have hst : Below w19.heap.size w19 w20 := below_later (by go_grown) hb
  have hs2 := Aside.mk (below_later HS0.out hst)
  clear HS0
  have HS0 := hs2
  clear hs2
  have hbt : But NoB w19 w20 := But.below hst
  have gw20 : w19.heap.size ≤ w20.heap.size := hbt.size
  have kk := (K2.out).below hst
  clear K2
  have K2 := Aside.mk kk
  clear kk
  have kk := (K3.out).below hst
  clear K3
  have K3 := Aside.mk kk
  clear kk
  have kk := (K8.out).below hst
  clear K8
  have K8 := Aside.mk kk
  clear kk
  have kk := (K9.out).below hst
  clear K9
  have K9 := Aside.mk kk
  clear kk
  have bel2 := Aside.mk (below_later BEL.out hst)
  clear BEL
  have BEL := bel2
  clear bel2
  have dd := Aside.mk (RTable.but DaT.out hbt (fun b hb => ⟨by have h2 := hb.2; omega, fun h => h.elim⟩))
  clear DaT
  have DaT := dd
  clear dd
  have dd := Aside.mk (Rec.term.but DaKey.out hbt (fun b hb => ⟨by have h2 := hb.2; omega, fun h => h.elim⟩))
  clear DaKey
  have DaKey := dd
  clear dd
  have dd := Aside.mk (RTable.but Dc1.out hbt (fun b hb => ⟨by have h2 := hb.2; omega, fun h => h.elim⟩))
  clear Dc1
  have Dc1 := dd
  clear dd
  have dd := Aside.mk (Rec.term.but Dc2.out hbt (fun b hb => ⟨by have h2 := hb.2; omega, fun h => h.elim⟩))
  clear Dc2
  have Dc2 := dd
  clear dd
  have dd := Aside.mk (Rec.term.sl.but Dr3d0.out hbt (fun b hb => ⟨by have h2 := hb.2; omega, fun h => h.elim⟩))
  clear Dr3d0
  have Dr3d0 := dd
  clear dd
  have dd := Aside.mk (RTable.but Dc4.out hbt (fun b hb => ⟨by have h2 := hb.2; omega, fun h => h.elim⟩))
  clear Dc4
  have Dc4 := dd
  clear dd
  have dd := Aside.mk (Rec.term.but Dc5.out hbt (fun b hb => ⟨by have h2 := hb.2; omega, fun h => h.elim⟩))
  clear Dc5
  have Dc5 := dd
  clear dd
  have dd := Aside.mk (Rec.term.sl.but Dr6d0.out hbt (fun b hb => ⟨by have h2 := hb.2; omega, fun h => h.elim⟩))
  clear Dr6d0
  have Dr6d0 := dd
  clear dd
  have dd := Aside.mk (RTable.but Dc7.out hbt (fun b hb => ⟨by have h2 := hb.2; omega, fun h => h.elim⟩))
  clear Dc7
  have Dc7 := dd
  clear dd
  have dd := Aside.mk (Rec.term.but Dc8.out hbt (fun b hb => ⟨by have h2 := hb.2; omega, fun h => h.elim⟩))
  clear Dc8
  have Dc8 := dd
  clear dd
  have dd := Aside.mk (RTable.but Dc9.out hbt (fun b hb => ⟨by have h2 := hb.2; omega, fun h => h.elim⟩))
  clear Dc9
  have Dc9 := dd
  clear dd
  clear hbt hst hb
  have l2 : w.heap.size < w20.heap.size := K2.out.lt
  have y2_0 : w20.cell? ⟨w.heap.size, 0, none⟩ = some (.int .i64 xaT0) := K2.out.cell 0
  have y2_1 : w20.cell? ⟨w.heap.size, 1, none⟩ = some (.slice xaT1a xaT1b xaT1c) := K2.out.cell 1
  have l3 : w.heap.size + 1 < w20.heap.size := K3.out.lt
  have y3_0 : w20.cell? ⟨w.heap.size + 1, 0, none⟩ = some (.int .i64 xaKey0) := K3.out.cell 0
  have y3_1 : w20.cell? ⟨w.heap.size + 1, 1, none⟩ = some (.int .i64 xaKey1) := K3.out.cell 1
  have y3_2 : w20.cell? ⟨w.heap.size + 1, 2, none⟩ = some (.string xaKey2) := K3.out.cell 2
  have y3_3 : w20.cell? ⟨w.heap.size + 1, 3, none⟩ = some (.slice xaKey3a xaKey3b xaKey3c) := K3.out.cell 3
  have l8 : w6.heap.size < w20.heap.size := K8.out.lt
  have y8_0 : w20.cell? ⟨w6.heap.size, 0, none⟩ = some (.int .i64 c4_0) := K8.out.cell 0
  have y8_1 : w20.cell? ⟨w6.heap.size, 1, none⟩ = some (.slice c4_1a c4_1b c4_1c) := K8.out.cell 1
  have l9 : w7.heap.size < w20.heap.size := K9.out.lt
  have y9_0 : w20.cell? ⟨w7.heap.size, 0, none⟩ = some (.int .i64 c5_0) := K9.out.cell 0
  have y9_1 : w20.cell? ⟨w7.heap.size, 1, none⟩ = some (.int .i64 c5_1) := K9.out.cell 1
  have y9_2 : w20.cell? ⟨w7.heap.size, 2, none⟩ = some (.string c5_2) := K9.out.cell 2
  have y9_3 : w20.cell? ⟨w7.heap.size, 3, none⟩ = some (.slice c5_3a c5_3b c5_3c) := K9.out.cell 3
  refine ⟨_, rfl, HS0.out, ?_⟩
  refine env_call HSZ H4.out ?_ ?_ ?_ ?_
  rotate_left 2
  (go_simp
   first | rfl | (constructor <;> rfl))
  refine (iTabGet aT aKey [.int .i64 c9_0, .slice c9_1a c9_1b c9_1c] [.int .i64 c10_0, .int .i64 c10_1, .string c10_2, .slice c10_3a c10_3b c10_3c] _ (RTable.made Dc9.out (by omega) (by first | exact Below.refl _ _ | go_grown)) (Rec.term.made Dc10.out (by omega) (by first | exact Below.refl _ _ | go_grown)) WaT.out WaKey.out ).mono ?_
  rw [← HRES.out]
  rintro e w21 ⟨r11_0, rfl, hr0, hb⟩
  have hr0 : Rec.term.sl.rd True w21 _ x0 [r11_0] := hr0
  obtain ⟨Ar11d0, cr11d0, e1, -⟩ := id hr0
  injection e1 with e1 _
  subst e1
  have Dr11d0 : Aside (Rec.term.sl.rd True w21 (Span (w20.heap.size) w21.heap.size) x0 [.slice Ar11d0 x0.length cr11d0]) := ⟨Rec.term.sl.mono hr0 (fun b h => ⟨by have h1 := h.1; (try simp at h1); omega, h.2⟩)⟩
  clear hr0
  clear l2 y2_0 y2_1
  clear l3 y3_0 y3_1 y3_2 y3_3
  clear l8 y8_0 y8_1
  clear l9 y9_0 y9_1 y9_2 y9_3
  have hst : Below w20.heap.size w20 w21 := below_later (by go_grown) hb
  have hs2 := Aside.mk (below_later HS0.out hst)
  clear HS0
  have HS0 := hs2
  clear hs2
  have hbt : But NoB w20 w21 := But.below hst
  have gw21 : w20.heap.size ≤ w21.heap.size := hbt.size
  have kk := (K2.out).below hst
  clear K2
  have K2 := Aside.mk kk
  clear kk
  have kk := (K3.out).below hst
  clear K3
  have K3 := Aside.mk kk
  clear kk
  have kk := (K8.out).below hst
  clear K8
  have K8 := Aside.mk kk
  clear kk
  have kk := (K9.out).below hst
  clear K9
  have K9 := Aside.mk kk
  clear kk
  have bel2 := Aside.mk (below_later BEL.out hst)
  clear BEL
  have BEL := bel2
  clear bel2
  have dd := Aside.mk (RTable.but DaT.out hbt (fun b hb => ⟨by have h2 := hb.2; omega, fun h => h.elim⟩))
  clear DaT
  have DaT := dd
  clear dd
  have dd := Aside.mk (Rec.term.but DaKey.out hbt (fun b hb => ⟨by have h2 := hb.2; omega, fun h => h.elim⟩))
  clear DaKey
  have DaKey := dd
  clear dd
  have dd := Aside.mk (RTable.but Dc1.out hbt (fun b hb => ⟨by have h2 := hb.2; omega, fun h => h.elim⟩))
  clear Dc1
  have Dc1 := dd
  clear dd
  have dd := Aside.mk (Rec.term.but Dc2.out hbt (fun b hb => ⟨by have h2 := hb.2; omega, fun h => h.elim⟩))
  clear Dc2
  have Dc2 := dd
  clear dd
  have dd := Aside.mk (Rec.term.sl.but Dr3d0.out hbt (fun b hb => ⟨by have h2 := hb.2; omega, fun h => h.elim⟩))
  clear Dr3d0
  have Dr3d0 := dd
  clear dd
  have dd := Aside.mk (RTable.but Dc4.out hbt (fun b hb => ⟨by have h2 := hb.2; omega, fun h => h.elim⟩))
  clear Dc4
  have Dc4 := dd
  clear dd
  have dd := Aside.mk (Rec.term.but Dc5.out hbt (fun b hb => ⟨by have h2 := hb.2; omega, fun h => h.elim⟩))
  clear Dc5
  have Dc5 := dd
  clear dd
  have dd := Aside.mk (Rec.term.sl.but Dr6d0.out hbt (fun b hb => ⟨by have h2 := hb.2; omega, fun h => h.elim⟩))
  clear Dr6d0
  have Dr6d0 := dd
  clear dd
  have dd := Aside.mk (RTable.but Dc7.out hbt (fun b hb => ⟨by have h2 := hb.2; omega, fun h => h.elim⟩))
  clear Dc7
  have Dc7 := dd
  clear dd
  have dd := Aside.mk (Rec.term.but Dc8.out hbt (fun b hb => ⟨by have h2 := hb.2; omega, fun h => h.elim⟩))
  clear Dc8
  have Dc8 := dd
  clear dd
  have dd := Aside.mk (RTable.but Dc9.out hbt (fun b hb => ⟨by have h2 := hb.2; omega, fun h => h.elim⟩))
  clear Dc9
  have Dc9 := dd
  clear dd
  have dd := Aside.mk (Rec.term.but Dc10.out hbt (fun b hb => ⟨by have h2 := hb.2; omega, fun h => h.elim⟩))
  clear Dc10
  have Dc10 := dd
  clear dd
  clear hbt hst hb
  have l2 : w.heap.size < w21.heap.size := K2.out.lt
  have y2_0 : w21.cell? ⟨w.heap.size, 0, none⟩ = some (.int .i64 xaT0) := K2.out.cell 0
  have y2_1 : w21.cell? ⟨w.heap.size, 1, none⟩ = some (.slice xaT1a xaT1b xaT1c) := K2.out.cell 1
  have l3 : w.heap.size + 1 < w21.heap.size := K3.out.lt
  have y3_0 : w21.cell? ⟨w.heap.size + 1, 0, none⟩ = some (.int .i64 xaKey0) := K3.out.cell 0
  have y3_1 : w21.cell? ⟨w.heap.size + 1, 1, none⟩ = some (.int .i64 xaKey1) := K3.out.cell 1
  have y3_2 : w21.cell? ⟨w.heap.size + 1, 2, none⟩ = some (.string xaKey2) := K3.out.cell 2
  have y3_3 : w21.cell? ⟨w.heap.size + 1, 3, none⟩ = some (.slice xaKey3a xaKey3b xaKey3c) := K3.out.cell 3
  have l8 : w6.heap.size < w21.heap.size := K8.out.lt
  have y8_0 : w21.cell? ⟨w6.heap.size, 0, none⟩ = some (.int .i64 c4_0) := K8.out.cell 0
  have y8_1 : w21.cell? ⟨w6.heap.size, 1, none⟩ = some (.slice c4_1a c4_1b c4_1c) := K8.out.cell 1
  have l9 : w7.heap.size < w21.heap.size := K9.out.lt
  have y9_0 : w21.cell? ⟨w7.heap.size, 0, none⟩ = some (.int .i64 c5_0) := K9.out.cell 0
  have y9_1 : w21.cell? ⟨w7.heap.size, 1, none⟩ = some (.int .i64 c5_1) := K9.out.cell 1
  have y9_2 : w21.cell? ⟨w7.heap.size, 2, none⟩ = some (.string c5_2) := K9.out.cell 2
  have y9_3 : w21.cell? ⟨w7.heap.size, 3, none⟩ = some (.slice c5_3a c5_3b c5_3c) := K9.out.cell 3
  refine ⟨_, rfl, HS0.out, ?_⟩
  refine env_yes HSZ H5.out ?_ (fun w' hS => ?_) ?_
  rotate_left
  (go_simp
   rfl)
  refine env_yes HSZ H6.out ?_ (fun w' hS => ?_) ?_
  rotate_left
  (go_simp
   rfl)
  refine env_yes HSZ H7.out ?_ (fun w' hS => ?_) ?_
  rotate_left
  (go_simp
   rfl)
  refine env_yes HSZ H8.out ?_ (fun w' hS => ?_) ?_
  rotate_left
  (go_simp
   rfl)
  refine env_yes HSZ H9.out ?_ (fun w' hS => ?_) ?_
  rotate_left
  (go_simp
   rfl)
  refine env_end ?_
  have hfr := HFR.out
  clear HFR HSZ H0 H1 H2 H3 H4 H5 H6 H7 H8 H9 x_2 x_3
  subst hfr
  simp only [putAll, Act.put, List.setIfInBounds_toArray, List.set_cons_succ, List.set_cons_zero]
  clear HS0
  go_wp2_with fail
  refine (eqTermS x0 (fun x _ ca cb w1 ha hb ho => eqTerm x ca cb w1 ha hb ho) _ _ _ (Rec.term.sl.made Dr11d0.out (by omega) (by first | exact Below.refl _ _ | go_grown)) (Rec.term.sl.made Dr3d0.out (by omega) (by first | exact Below.refl _ _ | go_grown)) HOK0.out).mono ?_
  rintro e w22 ⟨rfl, hb⟩
  clear l2 y2_0 y2_1
  clear l3 y3_0 y3_1 y3_2 y3_3
  clear l8 y8_0 y8_1
  clear l9 y9_0 y9_1 y9_2 y9_3
  have hst : Below w21.heap.size w21 w22 := below_later (by go_grown) hb
  have hbt : But NoB w21 w22 := But.below hst
  have gw22 : w21.heap.size ≤ w22.heap.size := hbt.size
  have kk := (K2.out).below hst
  clear K2
  have K2 := Aside.mk kk
  clear kk
  have kk := (K3.out).below hst
  clear K3
  have K3 := Aside.mk kk
  clear kk
  have kk := (K8.out).below hst
  clear K8
  have K8 := Aside.mk kk
  clear kk
  have kk := (K9.out).below hst
  clear K9
  have K9 := Aside.mk kk
  clear kk
  have bel2 := Aside.mk (below_later BEL.out hst)
  clear BEL
  have BEL := bel2
  clear bel2
  have dd := Aside.mk (RTable.but DaT.out hbt (fun b hb => ⟨by have h2 := hb.2; omega, fun h => h.elim⟩))
  clear DaT
  have DaT := dd
  clear dd
  have dd := Aside.mk (Rec.term.but DaKey.out hbt (fun b hb => ⟨by have h2 := hb.2; omega, fun h => h.elim⟩))
  clear DaKey
  have DaKey := dd
  clear dd
  have dd := Aside.mk (RTable.but Dc1.out hbt (fun b hb => ⟨by have h2 := hb.2; omega, fun h => h.elim⟩))
  clear Dc1
  have Dc1 := dd
  clear dd
  have dd := Aside.mk (Rec.term.but Dc2.out hbt (fun b hb => ⟨by have h2 := hb.2; omega, fun h => h.elim⟩))
  clear Dc2
  have Dc2 := dd
  clear dd
  have dd := Aside.mk (Rec.term.sl.but Dr3d0.out hbt (fun b hb => ⟨by have h2 := hb.2; omega, fun h => h.elim⟩))
  clear Dr3d0
  have Dr3d0 := dd
  clear dd
  have dd := Aside.mk (RTable.but Dc4.out hbt (fun b hb => ⟨by have h2 := hb.2; omega, fun h => h.elim⟩))
  clear Dc4
  have Dc4 := dd
  clear dd
  have dd := Aside.mk (Rec.term.but Dc5.out hbt (fun b hb => ⟨by have h2 := hb.2; omega, fun h => h.elim⟩))
  clear Dc5
  have Dc5 := dd
  clear dd
  have dd := Aside.mk (Rec.term.sl.but Dr6d0.out hbt (fun b hb => ⟨by have h2 := hb.2; omega, fun h => h.elim⟩))
  clear Dr6d0
  have Dr6d0 := dd
  clear dd
  have dd := Aside.mk (RTable.but Dc7.out hbt (fun b hb => ⟨by have h2 := hb.2; omega, fun h => h.elim⟩))
  clear Dc7
  have Dc7 := dd
  clear dd
  have dd := Aside.mk (Rec.term.but Dc8.out hbt (fun b hb => ⟨by have h2 := hb.2; omega, fun h => h.elim⟩))
  clear Dc8
  have Dc8 := dd
  clear dd
  have dd := Aside.mk (RTable.but Dc9.out hbt (fun b hb => ⟨by have h2 := hb.2; omega, fun h => h.elim⟩))
  clear Dc9
  have Dc9 := dd
  clear dd
  have dd := Aside.mk (Rec.term.but Dc10.out hbt (fun b hb => ⟨by have h2 := hb.2; omega, fun h => h.elim⟩))
  clear Dc10
  have Dc10 := dd
  clear dd
  have dd := Aside.mk (Rec.term.sl.but Dr11d0.out hbt (fun b hb => ⟨by have h2 := hb.2; omega, fun h => h.elim⟩))
  clear Dr11d0
  have Dr11d0 := dd
  clear dd
  clear hbt hst hb
  have l2 : w.heap.size < w22.heap.size := K2.out.lt
  have y2_0 : w22.cell? ⟨w.heap.size, 0, none⟩ = some (.int .i64 xaT0) := K2.out.cell 0
  have y2_1 : w22.cell? ⟨w.heap.size, 1, none⟩ = some (.slice xaT1a xaT1b xaT1c) := K2.out.cell 1
  have l3 : w.heap.size + 1 < w22.heap.size := K3.out.lt
  have y3_0 : w22.cell? ⟨w.heap.size + 1, 0, none⟩ = some (.int .i64 xaKey0) := K3.out.cell 0
  have y3_1 : w22.cell? ⟨w.heap.size + 1, 1, none⟩ = some (.int .i64 xaKey1) := K3.out.cell 1
  have y3_2 : w22.cell? ⟨w.heap.size + 1, 2, none⟩ = some (.string xaKey2) := K3.out.cell 2
  have y3_3 : w22.cell? ⟨w.heap.size + 1, 3, none⟩ = some (.slice xaKey3a xaKey3b xaKey3c) := K3.out.cell 3
  have l8 : w6.heap.size < w22.heap.size := K8.out.lt
  have y8_0 : w22.cell? ⟨w6.heap.size, 0, none⟩ = some (.int .i64 c4_0) := K8.out.cell 0
  have y8_1 : w22.cell? ⟨w6.heap.size, 1, none⟩ = some (.slice c4_1a c4_1b c4_1c) := K8.out.cell 1
  have l9 : w7.heap.size < w22.heap.size := K9.out.lt
  have y9_0 : w22.cell? ⟨w7.heap.size, 0, none⟩ = some (.int .i64 c5_0) := K9.out.cell 0
  have y9_1 : w22.cell? ⟨w7.heap.size, 1, none⟩ = some (.int .i64 c5_1) := K9.out.cell 1
  have y9_2 : w22.cell? ⟨w7.heap.size, 2, none⟩ = some (.string c5_2) := K9.out.cell 2
  have y9_3 : w22.cell? ⟨w7.heap.size, 3, none⟩ = some (.slice c5_3a c5_3b c5_3c) := K9.out.cell 3
  go_wp2_with fail
  refine (heldTermAll z3 (.slice Ar6d0 x0.length cr6d0) _ (1) k3 (Rec.term.sl.made Dr6d0.out (by omega) (by first | exact Below.refl _ _ | go_grown)) HHk3.out (by omega) (by omega)).mono ?_
  rintro e w23 ⟨rfl, hb⟩
  clear l2 y2_0 y2_1
  clear l3 y3_0 y3_1 y3_2 y3_3
  clear l8 y8_0 y8_1
  clear l9 y9_0 y9_1 y9_2 y9_3
  have hst : Below w22.heap.size w22 w23 := below_later (by go_grown) hb
  have hbt : But NoB w22 w23 := But.below hst
  have gw23 : w22.heap.size ≤ w23.heap.size := hbt.size
  have kk := (K2.out).below hst
  clear K2
  have K2 := Aside.mk kk
  clear kk
  have kk := (K3.out).below hst
  clear K3
  have K3 := Aside.mk kk
  clear kk
  have kk := (K8.out).below hst
  clear K8
  have K8 := Aside.mk kk
  clear kk
  have kk := (K9.out).below hst
  clear K9
  have K9 := Aside.mk kk
  clear kk
  have bel2 := Aside.mk (below_later BEL.out hst)
  clear BEL
  have BEL := bel2
  clear bel2
  have dd := Aside.mk (RTable.but DaT.out hbt (fun b hb => ⟨by have h2 := hb.2; omega, fun h => h.elim⟩))
  clear DaT
  have DaT := dd
  clear dd
  have dd := Aside.mk (Rec.term.but DaKey.out hbt (fun b hb => ⟨by have h2 := hb.2; omega, fun h => h.elim⟩))
  clear DaKey
  have DaKey := dd
  clear dd
  have dd := Aside.mk (RTable.but Dc1.out hbt (fun b hb => ⟨by have h2 := hb.2; omega, fun h => h.elim⟩))
  clear Dc1
  have Dc1 := dd
  clear dd
  have dd := Aside.mk (Rec.term.but Dc2.out hbt (fun b hb => ⟨by have h2 := hb.2; omega, fun h => h.elim⟩))
  clear Dc2
  have Dc2 := dd
  clear dd
  have dd := Aside.mk (Rec.term.sl.but Dr3d0.out hbt (fun b hb => ⟨by have h2 := hb.2; omega, fun h => h.elim⟩))
  clear Dr3d0
  have Dr3d0 := dd
  clear dd
  have dd := Aside.mk (RTable.but Dc4.out hbt (fun b hb => ⟨by have h2 := hb.2; omega, fun h => h.elim⟩))
  clear Dc4
  have Dc4 := dd
  clear dd
  have dd := Aside.mk (Rec.term.but Dc5.out hbt (fun b hb => ⟨by have h2 := hb.2; omega, fun h => h.elim⟩))
  clear Dc5
  have Dc5 := dd
  clear dd
  have dd := Aside.mk (Rec.term.sl.but Dr6d0.out hbt (fun b hb => ⟨by have h2 := hb.2; omega, fun h => h.elim⟩))
  clear Dr6d0
  have Dr6d0 := dd
  clear dd
  have dd := Aside.mk (RTable.but Dc7.out hbt (fun b hb => ⟨by have h2 := hb.2; omega, fun h => h.elim⟩))
  clear Dc7
  have Dc7 := dd
  clear dd
  have dd := Aside.mk (Rec.term.but Dc8.out hbt (fun b hb => ⟨by have h2 := hb.2; omega, fun h => h.elim⟩))
  clear Dc8
  have Dc8 := dd
  clear dd
  have dd := Aside.mk (RTable.but Dc9.out hbt (fun b hb => ⟨by have h2 := hb.2; omega, fun h => h.elim⟩))
  clear Dc9
  have Dc9 := dd
  clear dd
  have dd := Aside.mk (Rec.term.but Dc10.out hbt (fun b hb => ⟨by have h2 := hb.2; omega, fun h => h.elim⟩))
  clear Dc10
  have Dc10 := dd
  clear dd
  have dd := Aside.mk (Rec.term.sl.but Dr11d0.out hbt (fun b hb => ⟨by have h2 := hb.2; omega, fun h => h.elim⟩))
  clear Dr11d0
  have Dr11d0 := dd
  clear dd
  clear hbt hst hb
  have l2 : w.heap.size < w23.heap.size := K2.out.lt
  have y2_0 : w23.cell? ⟨w.heap.size, 0, none⟩ = some (.int .i64 xaT0) := K2.out.cell 0
  have y2_1 : w23.cell? ⟨w.heap.size, 1, none⟩ = some (.slice xaT1a xaT1b xaT1c) := K2.out.cell 1
  have l3 : w.heap.size + 1 < w23.heap.size := K3.out.lt
  have y3_0 : w23.cell? ⟨w.heap.size + 1, 0, none⟩ = some (.int .i64 xaKey0) := K3.out.cell 0
  have y3_1 : w23.cell? ⟨w.heap.size + 1, 1, none⟩ = some (.int .i64 xaKey1) := K3.out.cell 1
  have y3_2 : w23.cell? ⟨w.heap.size + 1, 2, none⟩ = some (.string xaKey2) := K3.out.cell 2
  have y3_3 : w23.cell? ⟨w.heap.size + 1, 3, none⟩ = some (.slice xaKey3a xaKey3b xaKey3c) := K3.out.cell 3
  have l8 : w6.heap.size < w23.heap.size := K8.out.lt
  have y8_0 : w23.cell? ⟨w6.heap.size, 0, none⟩ = some (.int .i64 c4_0) := K8.out.cell 0
  have y8_1 : w23.cell? ⟨w6.heap.size, 1, none⟩ = some (.slice c4_1a c4_1b c4_1c) := K8.out.cell 1
  have l9 : w7.heap.size < w23.heap.size := K9.out.lt
  have y9_0 : w23.cell? ⟨w7.heap.size, 0, none⟩ = some (.int .i64 c5_0) := K9.out.cell 0
  have y9_1 : w23.cell? ⟨w7.heap.size, 1, none⟩ = some (.int .i64 c5_1) := K9.out.cell 1
  have y9_2 : w23.cell? ⟨w7.heap.size, 2, none⟩ = some (.string c5_2) := K9.out.cell 2
  have y9_3 : w23.cell? ⟨w7.heap.size, 3, none⟩ = some (.slice c5_3a c5_3b c5_3c) := K9.out.cell 3
  go_wp2_with fail
  go_ret
  exact ⟨rfl, BEL.out⟩
end Go.Proofs.Ytdcmoilajplfdaa.Fn
