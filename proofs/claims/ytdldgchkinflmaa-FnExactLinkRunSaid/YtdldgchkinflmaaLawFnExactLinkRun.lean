/- Walk of the law FnExactLinkRun. Conditions: those of each theorem. -/
import Derived.Test.YtdldgchkinflmaaLinkL
import Derived.Test.YtdldgchkinflmaaLinkM
import Derived.Test.YtdldgchkinflmaaMString
import Derived.Test.YtdldgchkinflmaaMPacket
import Derived.Test.YtdldgchkinflmaaMLinkAct
import Derived.Test.YtdldgchkinflmaaMLinkReport
import Derived.Test.YtdldgchkinflmaaEnv
import Derived.Test.YtdldgchkinflmaaPlanU
set_option linter.unusedVariables false
namespace Go.Proofs.Ytdldgchkinflmaa.Fn
open Go.RowKit Go.Proofs.Ytdldgchkinflmaa.Lib Go.Proofs.Ytdldgchkinflmaa.Plan
attribute [local go_sem] look_tmp look_const look_func look_global lookT_nil lookT_hit lookT_miss
set_option maxRecDepth 100000 in
set_option maxHeartbeats 8000000 in
theorem FnExactLinkRun (aWindow : Int) (aActs : (List ALinkAct)) (vaActs : Value) (w : World) (oaWindow : Rec.int.ok aWindow) (haActs : RLinkAct.sl.rd False w (Old w) aActs [vaActs]) (oaActs : RLinkAct.sl.ok aActs) :
    Calls Try.prog 9 #[.int .i64 aWindow, vaActs] w fun e w' => e = .returned (.bool true) ∧ Below w.heap.size w w' := by
  obtain ⟨AaActs, caActs, eaActs, -⟩ := id haActs
  injection eaActs with eaActs _
  subst eaActs
  have DaActs : Aside (RLinkAct.sl.rd False w (Span 0 w.heap.size) aActs [.slice AaActs aActs.length caActs]) := ⟨RLinkAct.sl.mono haActs (fun b h => ⟨Nat.zero_le _, h⟩)⟩
  have OaActs := Aside.mk oaActs
  obtain ⟨naActs, taActs⟩ : ∃ n, RLinkAct.sl.wt aActs = n := ⟨_, rfl⟩
  have TaActs := Aside.mk taActs
  clear haActs oaActs taActs
  have SaWindow : -9223372036854775808 ≤ aWindow ∧ aWindow ≤ 9223372036854775807 := oaWindow
  clear oaWindow
  obtain ⟨⟨x0, x1⟩, hRES⟩ : ∃ r, r = linkR aWindow aActs := ⟨_, rfl⟩
  have HRES := Aside.mk hRES
  clear hRES
  show Calls Try.prog 9 #[.int .i64 aWindow, .slice AaActs aActs.length caActs] w _
  have BEL : Aside (Below w.heap.size w w) := ⟨Below.refl _ _⟩
  go_enter Try.func9, Try.ntmps9
  go_wp2_with fail
  refine (szLinkActS aActs (fun x _ cs w1 l h ho h0 hl => szLinkAct x cs w1 l h ho h0 hl) _ _ (1048576) (RLinkAct.sl.made DaActs.out (by omega) (by first | exact Below.refl _ _ | go_grown)) OaActs.out (by omega) (by omega)).mono ?_
  rintro e w1 ⟨rfl, hb⟩
  have hst : Below w.heap.size w w1 := below_later (by go_grown) hb
  have hbt : But NoB w w1 := But.below hst
  have gw1 : w.heap.size ≤ w1.heap.size := hbt.size
  have bel2 := Aside.mk (below_later BEL.out hst)
  clear BEL
  have BEL := bel2
  clear bel2
  have dd := Aside.mk (RLinkAct.sl.but DaActs.out hbt (fun b hb => ⟨by have h2 := hb.2; omega, fun h => h.elim⟩))
  clear DaActs
  have DaActs := dd
  clear dd
  clear hbt hst hb
  rw [TaActs.out]
  by_cases laActs : (naActs : Int) ≤ 1048576
  rotate_left
  · rw [szR_no laActs]
    go_wp2
    go_ret
    exact ⟨rfl, BEL.out⟩
  rw [szR_yes laActs]
  have WaActs : Aside (RLinkAct.sl.wt aActs ≤ 1048576) := ⟨by rw [TaActs.out]; omega⟩
  go_wp2_with fail
  refine (toLinkActS aActs (fun x _ cs w1 h hw => toLinkAct x cs w1 h hw) _ _ WaActs.out (RLinkAct.sl.made DaActs.out (by omega) (by first | exact Below.refl _ _ | go_grown))).mono ?_
  rintro e w2 ⟨vc1, rfl, hr, hb⟩
  obtain ⟨Ac1, cc1, e1, -⟩ := id hr
  injection e1 with e1 _
  subst e1
  have Dc1 : Aside (RLinkAct.sl.rd True w2 (Span (w1.heap.size) w2.heap.size) aActs [.slice Ac1 aActs.length cc1]) := ⟨RLinkAct.sl.mono hr (fun b h => ⟨by have h1 := h.1; (try simp at h1); omega, h.2⟩)⟩
  clear hr
  have hst : Below w1.heap.size w1 w2 := below_later (by go_grown) hb
  have hbt : But NoB w1 w2 := But.below hst
  have gw2 : w1.heap.size ≤ w2.heap.size := hbt.size
  have bel2 := Aside.mk (below_later BEL.out hst)
  clear BEL
  have BEL := bel2
  clear bel2
  have dd := Aside.mk (RLinkAct.sl.but DaActs.out hbt (fun b hb => ⟨by have h2 := hb.2; omega, fun h => h.elim⟩))
  clear DaActs
  have DaActs := dd
  clear dd
  clear hbt hst hb
  go_wp2_with fail
  refine (sLinkRun aWindow aActs (.slice Ac1 aActs.length cc1) _ (RLinkAct.sl.made Dc1.out (by omega) (by first | exact Below.refl _ _ | go_grown)) WaActs.out ).mono ?_
  rw [← HRES.out]
  rintro e w3 ⟨r2_0, rfl, hr0, hb⟩
  have hr0 : RLinkReport.rd True w3 _ x0 r2_0 := hr0
  obtain ⟨r2d0_0, r2d0_1, r2d0_2, r2d0_3a, r2d0_3b, r2d0_3c, r2d0_4a, r2d0_4b, r2d0_4c, rfl⟩ := shapeLinkReport hr0
  have Dr2d0 : Aside (RLinkReport.rd True w3 (Span (w2.heap.size) w3.heap.size) x0 [.int .i64 r2d0_0, .int .i64 r2d0_1, .int .i64 r2d0_2, .slice r2d0_3a r2d0_3b r2d0_3c, .slice r2d0_4a r2d0_4b r2d0_4c]) := ⟨RLinkReport.mono hr0 (fun b h => ⟨by have h1 := h.1; (try simp at h1); omega, h.2⟩)⟩
  clear hr0
  have hst : Below w2.heap.size w2 w3 := below_later (by go_grown) hb
  have hbt : But NoB w2 w3 := But.below hst
  have gw3 : w2.heap.size ≤ w3.heap.size := hbt.size
  have bel2 := Aside.mk (below_later BEL.out hst)
  clear BEL
  have BEL := bel2
  clear bel2
  have dd := Aside.mk (RLinkAct.sl.but DaActs.out hbt (fun b hb => ⟨by have h2 := hb.2; omega, fun h => h.elim⟩))
  clear DaActs
  have DaActs := dd
  clear dd
  have dd := Aside.mk (RLinkAct.sl.but Dc1.out hbt (fun b hb => ⟨by have h2 := hb.2; omega, fun h => h.elim⟩))
  clear Dc1
  have Dc1 := dd
  clear dd
  clear hbt hst hb
  have HOK0 : Aside (RLinkReport.ok x0) := ⟨by have hh := link_ok aWindow aActs; rw [← HRES.out] at hh; exact hh⟩
  have HWT0 : Aside (RLinkReport.wt x0 ≤ 1073741824) := ⟨by have hh := link_wt aWindow aActs; rw [← HRES.out] at hh; exact hh⟩
  go_wp2_with fail
  refine (toLinkActS aActs (fun x _ cs w1 h hw => toLinkAct x cs w1 h hw) _ _ WaActs.out (RLinkAct.sl.made DaActs.out (by omega) (by first | exact Below.refl _ _ | go_grown))).mono ?_
  rintro e w4 ⟨vc3, rfl, hr, hb⟩
  obtain ⟨Ac3, cc3, e1, -⟩ := id hr
  injection e1 with e1 _
  subst e1
  have Dc3 : Aside (RLinkAct.sl.rd True w4 (Span (w3.heap.size + 1) w4.heap.size) aActs [.slice Ac3 aActs.length cc3]) := ⟨RLinkAct.sl.mono hr (fun b h => ⟨by have h1 := h.1; (try simp at h1); omega, h.2⟩)⟩
  clear hr
  have hst : Below w3.heap.size w3 w4 := below_later (by go_grown) hb
  have hbt : But NoB w3 w4 := But.below hst
  have gw4 : w3.heap.size ≤ w4.heap.size := hbt.size
  have K6 := Aside.mk ((Blk.made w3 79 [.int .i64 r2d0_0, .int .i64 r2d0_1, .int .i64 r2d0_2, .slice r2d0_3a r2d0_3b r2d0_3c, .slice r2d0_4a r2d0_4b r2d0_4c] (g := w3.heap.size) (by simp)).below hb)
  have m6 : w3.heap.size < w4.heap.size := K6.out.lt
  have bel2 := Aside.mk (below_later BEL.out hst)
  clear BEL
  have BEL := bel2
  clear bel2
  have dd := Aside.mk (RLinkAct.sl.but DaActs.out hbt (fun b hb => ⟨by have h2 := hb.2; omega, fun h => h.elim⟩))
  clear DaActs
  have DaActs := dd
  clear dd
  have dd := Aside.mk (RLinkAct.sl.but Dc1.out hbt (fun b hb => ⟨by have h2 := hb.2; omega, fun h => h.elim⟩))
  clear Dc1
  have Dc1 := dd
  clear dd
  have dd := Aside.mk (RLinkReport.but Dr2d0.out hbt (fun b hb => ⟨by have h2 := hb.2; omega, fun h => h.elim⟩))
  clear Dr2d0
  have Dr2d0 := dd
  clear dd
  clear hbt hst hb
  have l6 : w3.heap.size < w4.heap.size := K6.out.lt
  have y6_0 : w4.cell? ⟨w3.heap.size, 0, none⟩ = some (.int .i64 r2d0_0) := K6.out.cell 0
  have y6_1 : w4.cell? ⟨w3.heap.size, 1, none⟩ = some (.int .i64 r2d0_1) := K6.out.cell 1
  have y6_2 : w4.cell? ⟨w3.heap.size, 2, none⟩ = some (.int .i64 r2d0_2) := K6.out.cell 2
  have y6_3 : w4.cell? ⟨w3.heap.size, 3, none⟩ = some (.slice r2d0_3a r2d0_3b r2d0_3c) := K6.out.cell 3
  have y6_4 : w4.cell? ⟨w3.heap.size, 4, none⟩ = some (.slice r2d0_4a r2d0_4b r2d0_4c) := K6.out.cell 4
  go_wp2_with fail
  refine (iLinkRun aWindow aActs (.slice Ac3 aActs.length cc3) _ (RLinkAct.sl.made Dc3.out (by omega) (by first | exact Below.refl _ _ | go_grown)) WaActs.out ).mono ?_
  rw [← HRES.out]
  rintro e w5 ⟨r4_0, rfl, hr0, hb⟩
  have hr0 : RLinkReport.rd True w5 _ x0 r4_0 := hr0
  obtain ⟨r4d0_0, r4d0_1, r4d0_2, r4d0_3a, r4d0_3b, r4d0_3c, r4d0_4a, r4d0_4b, r4d0_4c, rfl⟩ := shapeLinkReport hr0
  have Dr4d0 : Aside (RLinkReport.rd True w5 (Span (w4.heap.size) w5.heap.size) x0 [.int .i64 r4d0_0, .int .i64 r4d0_1, .int .i64 r4d0_2, .slice r4d0_3a r4d0_3b r4d0_3c, .slice r4d0_4a r4d0_4b r4d0_4c]) := ⟨RLinkReport.mono hr0 (fun b h => ⟨by have h1 := h.1; (try simp at h1); omega, h.2⟩)⟩
  clear hr0
  clear l6 y6_0 y6_1 y6_2 y6_3 y6_4
  have hst : Below w4.heap.size w4 w5 := below_later (by go_grown) hb
  have hbt : But NoB w4 w5 := But.below hst
  have gw5 : w4.heap.size ≤ w5.heap.size := hbt.size
  have kk := (K6.out).below hst
  clear K6
  have K6 := Aside.mk kk
  clear kk
  have bel2 := Aside.mk (below_later BEL.out hst)
  clear BEL
  have BEL := bel2
  clear bel2
  have dd := Aside.mk (RLinkAct.sl.but DaActs.out hbt (fun b hb => ⟨by have h2 := hb.2; omega, fun h => h.elim⟩))
  clear DaActs
  have DaActs := dd
  clear dd
  have dd := Aside.mk (RLinkAct.sl.but Dc1.out hbt (fun b hb => ⟨by have h2 := hb.2; omega, fun h => h.elim⟩))
  clear Dc1
  have Dc1 := dd
  clear dd
  have dd := Aside.mk (RLinkReport.but Dr2d0.out hbt (fun b hb => ⟨by have h2 := hb.2; omega, fun h => h.elim⟩))
  clear Dr2d0
  have Dr2d0 := dd
  clear dd
  have dd := Aside.mk (RLinkAct.sl.but Dc3.out hbt (fun b hb => ⟨by have h2 := hb.2; omega, fun h => h.elim⟩))
  clear Dc3
  have Dc3 := dd
  clear dd
  clear hbt hst hb
  have l6 : w3.heap.size < w5.heap.size := K6.out.lt
  have y6_0 : w5.cell? ⟨w3.heap.size, 0, none⟩ = some (.int .i64 r2d0_0) := K6.out.cell 0
  have y6_1 : w5.cell? ⟨w3.heap.size, 1, none⟩ = some (.int .i64 r2d0_1) := K6.out.cell 1
  have y6_2 : w5.cell? ⟨w3.heap.size, 2, none⟩ = some (.int .i64 r2d0_2) := K6.out.cell 2
  have y6_3 : w5.cell? ⟨w3.heap.size, 3, none⟩ = some (.slice r2d0_3a r2d0_3b r2d0_3c) := K6.out.cell 3
  have y6_4 : w5.cell? ⟨w3.heap.size, 4, none⟩ = some (.slice r2d0_4a r2d0_4b r2d0_4c) := K6.out.cell 4
  go_wp2_with fail
  refine (eqLinkReport x0 [.int .i64 r4d0_0, .int .i64 r4d0_1, .int .i64 r4d0_2, .slice r4d0_3a r4d0_3b r4d0_3c, .slice r4d0_4a r4d0_4b r4d0_4c] [.int .i64 r2d0_0, .int .i64 r2d0_1, .int .i64 r2d0_2, .slice r2d0_3a r2d0_3b r2d0_3c, .slice r2d0_4a r2d0_4b r2d0_4c] _ (RLinkReport.made Dr4d0.out (by omega) (by first | exact Below.refl _ _ | go_grown)) (RLinkReport.made Dr2d0.out (by omega) (by first | exact Below.refl _ _ | go_grown)) HOK0.out).mono ?_
  rintro e w6 ⟨rfl, hb⟩
  clear l6 y6_0 y6_1 y6_2 y6_3 y6_4
  have hst : Below w5.heap.size w5 w6 := below_later (by go_grown) hb
  have hbt : But NoB w5 w6 := But.below hst
  have gw6 : w5.heap.size ≤ w6.heap.size := hbt.size
  have kk := (K6.out).below hst
  clear K6
  have K6 := Aside.mk kk
  clear kk
  have K9 := Aside.mk ((Blk.made w5 79 [.int .i64 r4d0_0, .int .i64 r4d0_1, .int .i64 r4d0_2, .slice r4d0_3a r4d0_3b r4d0_3c, .slice r4d0_4a r4d0_4b r4d0_4c] (g := w5.heap.size) (by simp)).below hb)
  have m9 : w5.heap.size < w6.heap.size := K9.out.lt
  have bel2 := Aside.mk (below_later BEL.out hst)
  clear BEL
  have BEL := bel2
  clear bel2
  have dd := Aside.mk (RLinkAct.sl.but DaActs.out hbt (fun b hb => ⟨by have h2 := hb.2; omega, fun h => h.elim⟩))
  clear DaActs
  have DaActs := dd
  clear dd
  have dd := Aside.mk (RLinkAct.sl.but Dc1.out hbt (fun b hb => ⟨by have h2 := hb.2; omega, fun h => h.elim⟩))
  clear Dc1
  have Dc1 := dd
  clear dd
  have dd := Aside.mk (RLinkReport.but Dr2d0.out hbt (fun b hb => ⟨by have h2 := hb.2; omega, fun h => h.elim⟩))
  clear Dr2d0
  have Dr2d0 := dd
  clear dd
  have dd := Aside.mk (RLinkAct.sl.but Dc3.out hbt (fun b hb => ⟨by have h2 := hb.2; omega, fun h => h.elim⟩))
  clear Dc3
  have Dc3 := dd
  clear dd
  have dd := Aside.mk (RLinkReport.but Dr4d0.out hbt (fun b hb => ⟨by have h2 := hb.2; omega, fun h => h.elim⟩))
  clear Dr4d0
  have Dr4d0 := dd
  clear dd
  clear hbt hst hb
  have l6 : w3.heap.size < w6.heap.size := K6.out.lt
  have y6_0 : w6.cell? ⟨w3.heap.size, 0, none⟩ = some (.int .i64 r2d0_0) := K6.out.cell 0
  have y6_1 : w6.cell? ⟨w3.heap.size, 1, none⟩ = some (.int .i64 r2d0_1) := K6.out.cell 1
  have y6_2 : w6.cell? ⟨w3.heap.size, 2, none⟩ = some (.int .i64 r2d0_2) := K6.out.cell 2
  have y6_3 : w6.cell? ⟨w3.heap.size, 3, none⟩ = some (.slice r2d0_3a r2d0_3b r2d0_3c) := K6.out.cell 3
  have y6_4 : w6.cell? ⟨w3.heap.size, 4, none⟩ = some (.slice r2d0_4a r2d0_4b r2d0_4c) := K6.out.cell 4
  have l9 : w5.heap.size < w6.heap.size := K9.out.lt
  have y9_0 : w6.cell? ⟨w5.heap.size, 0, none⟩ = some (.int .i64 r4d0_0) := K9.out.cell 0
  have y9_1 : w6.cell? ⟨w5.heap.size, 1, none⟩ = some (.int .i64 r4d0_1) := K9.out.cell 1
  have y9_2 : w6.cell? ⟨w5.heap.size, 2, none⟩ = some (.int .i64 r4d0_2) := K9.out.cell 2
  have y9_3 : w6.cell? ⟨w5.heap.size, 3, none⟩ = some (.slice r4d0_3a r4d0_3b r4d0_3c) := K9.out.cell 3
  have y9_4 : w6.cell? ⟨w5.heap.size, 4, none⟩ = some (.slice r4d0_4a r4d0_4b r4d0_4c) := K9.out.cell 4
  go_wp2_with fail
  refine (toLinkActS aActs (fun x _ cs w1 h hw => toLinkAct x cs w1 h hw) _ _ WaActs.out (RLinkAct.sl.made DaActs.out (by omega) (by first | exact Below.refl _ _ | go_grown))).mono ?_
  rintro e w7 ⟨vc5, rfl, hr, hb⟩
  obtain ⟨Ac5, cc5, e1, -⟩ := id hr
  injection e1 with e1 _
  subst e1
  have Dc5 : Aside (RLinkAct.sl.rd True w7 (Span (w6.heap.size) w7.heap.size) aActs [.slice Ac5 aActs.length cc5]) := ⟨RLinkAct.sl.mono hr (fun b h => ⟨by have h1 := h.1; (try simp at h1); omega, h.2⟩)⟩
  clear hr
  clear l6 y6_0 y6_1 y6_2 y6_3 y6_4
  clear l9 y9_0 y9_1 y9_2 y9_3 y9_4
  have hst : Below w6.heap.size w6 w7 := below_later (by go_grown) hb
  have hbt : But NoB w6 w7 := But.below hst
  have gw7 : w6.heap.size ≤ w7.heap.size := hbt.size
  have kk := (K6.out).below hst
  clear K6
  have K6 := Aside.mk kk
  clear kk
  have kk := (K9.out).below hst
  clear K9
  have K9 := Aside.mk kk
  clear kk
  have bel2 := Aside.mk (below_later BEL.out hst)
  clear BEL
  have BEL := bel2
  clear bel2
  have dd := Aside.mk (RLinkAct.sl.but DaActs.out hbt (fun b hb => ⟨by have h2 := hb.2; omega, fun h => h.elim⟩))
  clear DaActs
  have DaActs := dd
  clear dd
  have dd := Aside.mk (RLinkAct.sl.but Dc1.out hbt (fun b hb => ⟨by have h2 := hb.2; omega, fun h => h.elim⟩))
  clear Dc1
  have Dc1 := dd
  clear dd
  have dd := Aside.mk (RLinkReport.but Dr2d0.out hbt (fun b hb => ⟨by have h2 := hb.2; omega, fun h => h.elim⟩))
  clear Dr2d0
  have Dr2d0 := dd
  clear dd
  have dd := Aside.mk (RLinkAct.sl.but Dc3.out hbt (fun b hb => ⟨by have h2 := hb.2; omega, fun h => h.elim⟩))
  clear Dc3
  have Dc3 := dd
  clear dd
  have dd := Aside.mk (RLinkReport.but Dr4d0.out hbt (fun b hb => ⟨by have h2 := hb.2; omega, fun h => h.elim⟩))
  clear Dr4d0
  have Dr4d0 := dd
  clear dd
  clear hbt hst hb
  have l6 : w3.heap.size < w7.heap.size := K6.out.lt
  have y6_0 : w7.cell? ⟨w3.heap.size, 0, none⟩ = some (.int .i64 r2d0_0) := K6.out.cell 0
  have y6_1 : w7.cell? ⟨w3.heap.size, 1, none⟩ = some (.int .i64 r2d0_1) := K6.out.cell 1
  have y6_2 : w7.cell? ⟨w3.heap.size, 2, none⟩ = some (.int .i64 r2d0_2) := K6.out.cell 2
  have y6_3 : w7.cell? ⟨w3.heap.size, 3, none⟩ = some (.slice r2d0_3a r2d0_3b r2d0_3c) := K6.out.cell 3
  have y6_4 : w7.cell? ⟨w3.heap.size, 4, none⟩ = some (.slice r2d0_4a r2d0_4b r2d0_4c) := K6.out.cell 4
  have l9 : w5.heap.size < w7.heap.size := K9.out.lt
  have y9_0 : w7.cell? ⟨w5.heap.size, 0, none⟩ = some (.int .i64 r4d0_0) := K9.out.cell 0
  have y9_1 : w7.cell? ⟨w5.heap.size, 1, none⟩ = some (.int .i64 r4d0_1) := K9.out.cell 1
  have y9_2 : w7.cell? ⟨w5.heap.size, 2, none⟩ = some (.int .i64 r4d0_2) := K9.out.cell 2
  have y9_3 : w7.cell? ⟨w5.heap.size, 3, none⟩ = some (.slice r4d0_3a r4d0_3b r4d0_3c) := K9.out.cell 3
  have y9_4 : w7.cell? ⟨w5.heap.size, 4, none⟩ = some (.slice r4d0_4a r4d0_4b r4d0_4c) := K9.out.cell 4
  go_wp2_with fail
  refine (eqLinkActS aActs (fun x _ ca cb w1 ha hb ho => eqLinkAct x ca cb w1 ha hb ho) _ _ _ (RLinkAct.sl.made Dc3.out (by omega) (by first | exact Below.refl _ _ | go_grown)) (RLinkAct.sl.made Dc5.out (by omega) (by first | exact Below.refl _ _ | go_grown)) OaActs.out).mono ?_
  rintro e w8 ⟨rfl, hb⟩
  clear l6 y6_0 y6_1 y6_2 y6_3 y6_4
  clear l9 y9_0 y9_1 y9_2 y9_3 y9_4
  have hst : Below w7.heap.size w7 w8 := below_later (by go_grown) hb
  have hbt : But NoB w7 w8 := But.below hst
  have gw8 : w7.heap.size ≤ w8.heap.size := hbt.size
  have kk := (K6.out).below hst
  clear K6
  have K6 := Aside.mk kk
  clear kk
  have kk := (K9.out).below hst
  clear K9
  have K9 := Aside.mk kk
  clear kk
  have bel2 := Aside.mk (below_later BEL.out hst)
  clear BEL
  have BEL := bel2
  clear bel2
  have dd := Aside.mk (RLinkAct.sl.but DaActs.out hbt (fun b hb => ⟨by have h2 := hb.2; omega, fun h => h.elim⟩))
  clear DaActs
  have DaActs := dd
  clear dd
  have dd := Aside.mk (RLinkAct.sl.but Dc1.out hbt (fun b hb => ⟨by have h2 := hb.2; omega, fun h => h.elim⟩))
  clear Dc1
  have Dc1 := dd
  clear dd
  have dd := Aside.mk (RLinkReport.but Dr2d0.out hbt (fun b hb => ⟨by have h2 := hb.2; omega, fun h => h.elim⟩))
  clear Dr2d0
  have Dr2d0 := dd
  clear dd
  have dd := Aside.mk (RLinkAct.sl.but Dc3.out hbt (fun b hb => ⟨by have h2 := hb.2; omega, fun h => h.elim⟩))
  clear Dc3
  have Dc3 := dd
  clear dd
  have dd := Aside.mk (RLinkReport.but Dr4d0.out hbt (fun b hb => ⟨by have h2 := hb.2; omega, fun h => h.elim⟩))
  clear Dr4d0
  have Dr4d0 := dd
  clear dd
  have dd := Aside.mk (RLinkAct.sl.but Dc5.out hbt (fun b hb => ⟨by have h2 := hb.2; omega, fun h => h.elim⟩))
  clear Dc5
  have Dc5 := dd
  clear dd
  clear hbt hst hb
  have l6 : w3.heap.size < w8.heap.size := K6.out.lt
  have y6_0 : w8.cell? ⟨w3.heap.size, 0, none⟩ = some (.int .i64 r2d0_0) := K6.out.cell 0
  have y6_1 : w8.cell? ⟨w3.heap.size, 1, none⟩ = some (.int .i64 r2d0_1) := K6.out.cell 1
  have y6_2 : w8.cell? ⟨w3.heap.size, 2, none⟩ = some (.int .i64 r2d0_2) := K6.out.cell 2
  have y6_3 : w8.cell? ⟨w3.heap.size, 3, none⟩ = some (.slice r2d0_3a r2d0_3b r2d0_3c) := K6.out.cell 3
  have y6_4 : w8.cell? ⟨w3.heap.size, 4, none⟩ = some (.slice r2d0_4a r2d0_4b r2d0_4c) := K6.out.cell 4
  have l9 : w5.heap.size < w8.heap.size := K9.out.lt
  have y9_0 : w8.cell? ⟨w5.heap.size, 0, none⟩ = some (.int .i64 r4d0_0) := K9.out.cell 0
  have y9_1 : w8.cell? ⟨w5.heap.size, 1, none⟩ = some (.int .i64 r4d0_1) := K9.out.cell 1
  have y9_2 : w8.cell? ⟨w5.heap.size, 2, none⟩ = some (.int .i64 r4d0_2) := K9.out.cell 2
  have y9_3 : w8.cell? ⟨w5.heap.size, 3, none⟩ = some (.slice r4d0_3a r4d0_3b r4d0_3c) := K9.out.cell 3
  have y9_4 : w8.cell? ⟨w5.heap.size, 4, none⟩ = some (.slice r4d0_4a r4d0_4b r4d0_4c) := K9.out.cell 4
  go_wp2_with fail
  refine (markLinkActS aActs (.slice Ac3 aActs.length cc3) _ (Span (w3.heap.size + 1) (w4.heap.size)) (1) Dc3.out (fun b hb => by have h2 := hb.2; first | omega | (simp; omega)) (by omega) (by have := WaActs.out; omega)).mono ?_
  rintro e w9 ⟨k1, z1, rfl, hh, -, hr, hb, hlek1, hlfk1⟩
  have hlgk1 : k1 ≤ 1 + 8589934592 := by have := WaActs.out; omega
  clear hlfk1
  have HHk1 := Aside.mk hh
  clear hh
  clear Dc3
  have Dc3 := Aside.mk hr
  clear hr
  clear l6 y6_0 y6_1 y6_2 y6_3 y6_4
  clear l9 y9_0 y9_1 y9_2 y9_3 y9_4
  have hbt : But (Span (w3.heap.size + 1) (w4.heap.size)) w8 w9 := (But.below (show Below w8.heap.size w8 _ by go_grown)).trans hb
  have gw9 : w8.heap.size ≤ w9.heap.size := hbt.size
  have kk := Blk.but K6.out hbt (fun h => by have h1 := h.1; have h2 := h.2; omega)
  clear K6
  have K6 := Aside.mk kk
  clear kk
  have kk := Blk.but K9.out hbt (fun h => by have h1 := h.1; have h2 := h.2; omega)
  clear K9
  have K9 := Aside.mk kk
  clear kk
  have bel2 := Aside.mk (But.out BEL.out hbt (fun k hk => by have h1 := hk.1; have h2 := BEL.out.size; omega))
  clear BEL
  have BEL := bel2
  clear bel2
  have dd := Aside.mk (RLinkAct.sl.but DaActs.out hbt (fun b hb => ⟨by have h2 := hb.2; omega, fun h => by have h1 := h.1; have h2 := h.2; have h3 := hb.1; have h4 := hb.2; omega⟩))
  clear DaActs
  have DaActs := dd
  clear dd
  have dd := Aside.mk (RLinkAct.sl.but Dc1.out hbt (fun b hb => ⟨by have h2 := hb.2; omega, fun h => by have h1 := h.1; have h2 := h.2; have h3 := hb.1; have h4 := hb.2; omega⟩))
  clear Dc1
  have Dc1 := dd
  clear dd
  have dd := Aside.mk (RLinkReport.but Dr2d0.out hbt (fun b hb => ⟨by have h2 := hb.2; omega, fun h => by have h1 := h.1; have h2 := h.2; have h3 := hb.1; have h4 := hb.2; omega⟩))
  clear Dr2d0
  have Dr2d0 := dd
  clear dd
  have dd := Aside.mk (RLinkReport.but Dr4d0.out hbt (fun b hb => ⟨by have h2 := hb.2; omega, fun h => by have h1 := h.1; have h2 := h.2; have h3 := hb.1; have h4 := hb.2; omega⟩))
  clear Dr4d0
  have Dr4d0 := dd
  clear dd
  have dd := Aside.mk (RLinkAct.sl.but Dc5.out hbt (fun b hb => ⟨by have h2 := hb.2; omega, fun h => by have h1 := h.1; have h2 := h.2; have h3 := hb.1; have h4 := hb.2; omega⟩))
  clear Dc5
  have Dc5 := dd
  clear dd
  clear hbt hb
  have l6 : w3.heap.size < w9.heap.size := K6.out.lt
  have y6_0 : w9.cell? ⟨w3.heap.size, 0, none⟩ = some (.int .i64 r2d0_0) := K6.out.cell 0
  have y6_1 : w9.cell? ⟨w3.heap.size, 1, none⟩ = some (.int .i64 r2d0_1) := K6.out.cell 1
  have y6_2 : w9.cell? ⟨w3.heap.size, 2, none⟩ = some (.int .i64 r2d0_2) := K6.out.cell 2
  have y6_3 : w9.cell? ⟨w3.heap.size, 3, none⟩ = some (.slice r2d0_3a r2d0_3b r2d0_3c) := K6.out.cell 3
  have y6_4 : w9.cell? ⟨w3.heap.size, 4, none⟩ = some (.slice r2d0_4a r2d0_4b r2d0_4c) := K6.out.cell 4
  have l9 : w5.heap.size < w9.heap.size := K9.out.lt
  have y9_0 : w9.cell? ⟨w5.heap.size, 0, none⟩ = some (.int .i64 r4d0_0) := K9.out.cell 0
  have y9_1 : w9.cell? ⟨w5.heap.size, 1, none⟩ = some (.int .i64 r4d0_1) := K9.out.cell 1
  have y9_2 : w9.cell? ⟨w5.heap.size, 2, none⟩ = some (.int .i64 r4d0_2) := K9.out.cell 2
  have y9_3 : w9.cell? ⟨w5.heap.size, 3, none⟩ = some (.slice r4d0_3a r4d0_3b r4d0_3c) := K9.out.cell 3
  have y9_4 : w9.cell? ⟨w5.heap.size, 4, none⟩ = some (.slice r4d0_4a r4d0_4b r4d0_4c) := K9.out.cell 4
  go_wp2_with fail
  refine (eqLinkReport x0 [.int .i64 r4d0_0, .int .i64 r4d0_1, .int .i64 r4d0_2, .slice r4d0_3a r4d0_3b r4d0_3c, .slice r4d0_4a r4d0_4b r4d0_4c] [.int .i64 r2d0_0, .int .i64 r2d0_1, .int .i64 r2d0_2, .slice r2d0_3a r2d0_3b r2d0_3c, .slice r2d0_4a r2d0_4b r2d0_4c] _ (RLinkReport.made Dr4d0.out (by omega) (by first | exact Below.refl _ _ | go_grown)) (RLinkReport.made Dr2d0.out (by omega) (by first | exact Below.refl _ _ | go_grown)) HOK0.out).mono ?_
  rintro e w10 ⟨rfl, hb⟩
  clear l6 y6_0 y6_1 y6_2 y6_3 y6_4
  clear l9 y9_0 y9_1 y9_2 y9_3 y9_4
  have hst : Below w9.heap.size w9 w10 := below_later (by go_grown) hb
  have hbt : But NoB w9 w10 := But.below hst
  have gw10 : w9.heap.size ≤ w10.heap.size := hbt.size
  have kk := (K6.out).below hst
  clear K6
  have K6 := Aside.mk kk
  clear kk
  have kk := (K9.out).below hst
  clear K9
  have K9 := Aside.mk kk
  clear kk
  have bel2 := Aside.mk (below_later BEL.out hst)
  clear BEL
  have BEL := bel2
  clear bel2
  have dd := Aside.mk (RLinkAct.sl.but DaActs.out hbt (fun b hb => ⟨by have h2 := hb.2; omega, fun h => h.elim⟩))
  clear DaActs
  have DaActs := dd
  clear dd
  have dd := Aside.mk (RLinkAct.sl.but Dc1.out hbt (fun b hb => ⟨by have h2 := hb.2; omega, fun h => h.elim⟩))
  clear Dc1
  have Dc1 := dd
  clear dd
  have dd := Aside.mk (RLinkReport.but Dr2d0.out hbt (fun b hb => ⟨by have h2 := hb.2; omega, fun h => h.elim⟩))
  clear Dr2d0
  have Dr2d0 := dd
  clear dd
  have dd := Aside.mk (RLinkAct.sl.but Dc3.out hbt (fun b hb => ⟨by have h2 := hb.2; omega, fun h => h.elim⟩))
  clear Dc3
  have Dc3 := dd
  clear dd
  have dd := Aside.mk (RLinkReport.but Dr4d0.out hbt (fun b hb => ⟨by have h2 := hb.2; omega, fun h => h.elim⟩))
  clear Dr4d0
  have Dr4d0 := dd
  clear dd
  have dd := Aside.mk (RLinkAct.sl.but Dc5.out hbt (fun b hb => ⟨by have h2 := hb.2; omega, fun h => h.elim⟩))
  clear Dc5
  have Dc5 := dd
  clear dd
  clear hbt hst hb
  have l6 : w3.heap.size < w10.heap.size := K6.out.lt
  have y6_0 : w10.cell? ⟨w3.heap.size, 0, none⟩ = some (.int .i64 r2d0_0) := K6.out.cell 0
  have y6_1 : w10.cell? ⟨w3.heap.size, 1, none⟩ = some (.int .i64 r2d0_1) := K6.out.cell 1
  have y6_2 : w10.cell? ⟨w3.heap.size, 2, none⟩ = some (.int .i64 r2d0_2) := K6.out.cell 2
  have y6_3 : w10.cell? ⟨w3.heap.size, 3, none⟩ = some (.slice r2d0_3a r2d0_3b r2d0_3c) := K6.out.cell 3
  have y6_4 : w10.cell? ⟨w3.heap.size, 4, none⟩ = some (.slice r2d0_4a r2d0_4b r2d0_4c) := K6.out.cell 4
  have l9 : w5.heap.size < w10.heap.size := K9.out.lt
  have y9_0 : w10.cell? ⟨w5.heap.size, 0, none⟩ = some (.int .i64 r4d0_0) := K9.out.cell 0
  have y9_1 : w10.cell? ⟨w5.heap.size, 1, none⟩ = some (.int .i64 r4d0_1) := K9.out.cell 1
  have y9_2 : w10.cell? ⟨w5.heap.size, 2, none⟩ = some (.int .i64 r4d0_2) := K9.out.cell 2
  have y9_3 : w10.cell? ⟨w5.heap.size, 3, none⟩ = some (.slice r4d0_3a r4d0_3b r4d0_3c) := K9.out.cell 3
  have y9_4 : w10.cell? ⟨w5.heap.size, 4, none⟩ = some (.slice r4d0_4a r4d0_4b r4d0_4c) := K9.out.cell 4
  go_wp2_with fail
  refine (markLinkReportV x0 [.int .i64 r4d0_0, .int .i64 r4d0_1, .int .i64 r4d0_2, .slice r4d0_3a r4d0_3b r4d0_3c, .slice r4d0_4a r4d0_4b r4d0_4c] _ (Span (w4.heap.size) (w5.heap.size)) (1) Dr4d0.out (fun b hb => by have h2 := hb.2; first | omega | (simp; omega)) (by omega) (by have := HWT0.out; omega)).mono ?_
  rintro e w11 ⟨k2, z2, rfl, hh, hr, hb, hlek2, hlfk2⟩
  have hlgk2 : k2 ≤ 1 + 8589934592 := by have := HWT0.out; omega
  clear hlfk2
  have HHk2 := Aside.mk hh
  clear hh
  clear Dr4d0
  have Dr4d0 := Aside.mk hr
  clear hr
  clear l6 y6_0 y6_1 y6_2 y6_3 y6_4
  clear l9 y9_0 y9_1 y9_2 y9_3 y9_4
  have hbt : But (Span (w4.heap.size) (w5.heap.size)) w10 w11 := (But.below (show Below w10.heap.size w10 _ by go_grown)).trans hb
  have gw11 : w10.heap.size ≤ w11.heap.size := hbt.size
  have kk := Blk.but K6.out hbt (fun h => by have h1 := h.1; have h2 := h.2; omega)
  clear K6
  have K6 := Aside.mk kk
  clear kk
  have kk := Blk.but K9.out hbt (fun h => by have h1 := h.1; have h2 := h.2; omega)
  clear K9
  have K9 := Aside.mk kk
  clear kk
  have bel2 := Aside.mk (But.out BEL.out hbt (fun k hk => by have h1 := hk.1; have h2 := BEL.out.size; omega))
  clear BEL
  have BEL := bel2
  clear bel2
  have dd := Aside.mk (RLinkAct.sl.but DaActs.out hbt (fun b hb => ⟨by have h2 := hb.2; omega, fun h => by have h1 := h.1; have h2 := h.2; have h3 := hb.1; have h4 := hb.2; omega⟩))
  clear DaActs
  have DaActs := dd
  clear dd
  have dd := Aside.mk (RLinkAct.sl.but Dc1.out hbt (fun b hb => ⟨by have h2 := hb.2; omega, fun h => by have h1 := h.1; have h2 := h.2; have h3 := hb.1; have h4 := hb.2; omega⟩))
  clear Dc1
  have Dc1 := dd
  clear dd
  have dd := Aside.mk (RLinkReport.but Dr2d0.out hbt (fun b hb => ⟨by have h2 := hb.2; omega, fun h => by have h1 := h.1; have h2 := h.2; have h3 := hb.1; have h4 := hb.2; omega⟩))
  clear Dr2d0
  have Dr2d0 := dd
  clear dd
  have dd := Aside.mk (RLinkAct.sl.but Dc3.out hbt (fun b hb => ⟨by have h2 := hb.2; omega, fun h => by have h1 := h.1; have h2 := h.2; have h3 := hb.1; have h4 := hb.2; omega⟩))
  clear Dc3
  have Dc3 := dd
  clear dd
  have dd := Aside.mk (RLinkAct.sl.but Dc5.out hbt (fun b hb => ⟨by have h2 := hb.2; omega, fun h => by have h1 := h.1; have h2 := h.2; have h3 := hb.1; have h4 := hb.2; omega⟩))
  clear Dc5
  have Dc5 := dd
  clear dd
  clear hbt hb
  have l6 : w3.heap.size < w11.heap.size := K6.out.lt
  have y6_0 : w11.cell? ⟨w3.heap.size, 0, none⟩ = some (.int .i64 r2d0_0) := K6.out.cell 0
  have y6_1 : w11.cell? ⟨w3.heap.size, 1, none⟩ = some (.int .i64 r2d0_1) := K6.out.cell 1
  have y6_2 : w11.cell? ⟨w3.heap.size, 2, none⟩ = some (.int .i64 r2d0_2) := K6.out.cell 2
  have y6_3 : w11.cell? ⟨w3.heap.size, 3, none⟩ = some (.slice r2d0_3a r2d0_3b r2d0_3c) := K6.out.cell 3
  have y6_4 : w11.cell? ⟨w3.heap.size, 4, none⟩ = some (.slice r2d0_4a r2d0_4b r2d0_4c) := K6.out.cell 4
  have l9 : w5.heap.size < w11.heap.size := K9.out.lt
  have y9_0 : w11.cell? ⟨w5.heap.size, 0, none⟩ = some (.int .i64 r4d0_0) := K9.out.cell 0
  have y9_1 : w11.cell? ⟨w5.heap.size, 1, none⟩ = some (.int .i64 r4d0_1) := K9.out.cell 1
  have y9_2 : w11.cell? ⟨w5.heap.size, 2, none⟩ = some (.int .i64 r4d0_2) := K9.out.cell 2
  have y9_3 : w11.cell? ⟨w5.heap.size, 3, none⟩ = some (.slice r4d0_3a r4d0_3b r4d0_3c) := K9.out.cell 3
  have y9_4 : w11.cell? ⟨w5.heap.size, 4, none⟩ = some (.slice r4d0_4a r4d0_4b r4d0_4c) := K9.out.cell 4
  go_wp2_with fail
  refine (heldLinkReportV z2 [.int .i64 r4d0_0, .int .i64 r4d0_1, .int .i64 r4d0_2, .slice r4d0_3a r4d0_3b r4d0_3c, .slice r4d0_4a r4d0_4b r4d0_4c] _ (1) k2 (RLinkReport.made Dr4d0.out (by omega) (by first | exact Below.refl _ _ | go_grown)) HHk2.out (by omega) (by omega)).mono ?_
  rintro e w12 ⟨rfl, hb⟩
  clear l6 y6_0 y6_1 y6_2 y6_3 y6_4
  clear l9 y9_0 y9_1 y9_2 y9_3 y9_4
  have hst : Below w11.heap.size w11 w12 := below_later (by go_grown) hb
  have hbt : But NoB w11 w12 := But.below hst
  have gw12 : w11.heap.size ≤ w12.heap.size := hbt.size
  have kk := (K6.out).below hst
  clear K6
  have K6 := Aside.mk kk
  clear kk
  have kk := (K9.out).below hst
  clear K9
  have K9 := Aside.mk kk
  clear kk
  have bel2 := Aside.mk (below_later BEL.out hst)
  clear BEL
  have BEL := bel2
  clear bel2
  have dd := Aside.mk (RLinkAct.sl.but DaActs.out hbt (fun b hb => ⟨by have h2 := hb.2; omega, fun h => h.elim⟩))
  clear DaActs
  have DaActs := dd
  clear dd
  have dd := Aside.mk (RLinkAct.sl.but Dc1.out hbt (fun b hb => ⟨by have h2 := hb.2; omega, fun h => h.elim⟩))
  clear Dc1
  have Dc1 := dd
  clear dd
  have dd := Aside.mk (RLinkReport.but Dr2d0.out hbt (fun b hb => ⟨by have h2 := hb.2; omega, fun h => h.elim⟩))
  clear Dr2d0
  have Dr2d0 := dd
  clear dd
  have dd := Aside.mk (RLinkAct.sl.but Dc3.out hbt (fun b hb => ⟨by have h2 := hb.2; omega, fun h => h.elim⟩))
  clear Dc3
  have Dc3 := dd
  clear dd
  have dd := Aside.mk (RLinkReport.but Dr4d0.out hbt (fun b hb => ⟨by have h2 := hb.2; omega, fun h => h.elim⟩))
  clear Dr4d0
  have Dr4d0 := dd
  clear dd
  have dd := Aside.mk (RLinkAct.sl.but Dc5.out hbt (fun b hb => ⟨by have h2 := hb.2; omega, fun h => h.elim⟩))
  clear Dc5
  have Dc5 := dd
  clear dd
  clear hbt hst hb
  have l6 : w3.heap.size < w12.heap.size := K6.out.lt
  have y6_0 : w12.cell? ⟨w3.heap.size, 0, none⟩ = some (.int .i64 r2d0_0) := K6.out.cell 0
  have y6_1 : w12.cell? ⟨w3.heap.size, 1, none⟩ = some (.int .i64 r2d0_1) := K6.out.cell 1
  have y6_2 : w12.cell? ⟨w3.heap.size, 2, none⟩ = some (.int .i64 r2d0_2) := K6.out.cell 2
  have y6_3 : w12.cell? ⟨w3.heap.size, 3, none⟩ = some (.slice r2d0_3a r2d0_3b r2d0_3c) := K6.out.cell 3
  have y6_4 : w12.cell? ⟨w3.heap.size, 4, none⟩ = some (.slice r2d0_4a r2d0_4b r2d0_4c) := K6.out.cell 4
  have l9 : w5.heap.size < w12.heap.size := K9.out.lt
  have y9_0 : w12.cell? ⟨w5.heap.size, 0, none⟩ = some (.int .i64 r4d0_0) := K9.out.cell 0
  have y9_1 : w12.cell? ⟨w5.heap.size, 1, none⟩ = some (.int .i64 r4d0_1) := K9.out.cell 1
  have y9_2 : w12.cell? ⟨w5.heap.size, 2, none⟩ = some (.int .i64 r4d0_2) := K9.out.cell 2
  have y9_3 : w12.cell? ⟨w5.heap.size, 3, none⟩ = some (.slice r4d0_3a r4d0_3b r4d0_3c) := K9.out.cell 3
  have y9_4 : w12.cell? ⟨w5.heap.size, 4, none⟩ = some (.slice r4d0_4a r4d0_4b r4d0_4c) := K9.out.cell 4
  go_wp2_with fail
  refine (toLinkActS aActs (fun x _ cs w1 h hw => toLinkAct x cs w1 h hw) _ _ WaActs.out (RLinkAct.sl.made DaActs.out (by omega) (by first | exact Below.refl _ _ | go_grown))).mono ?_
  rintro e w13 ⟨vc6, rfl, hr, hb⟩
  obtain ⟨Ac6, cc6, e1, -⟩ := id hr
  injection e1 with e1 _
  subst e1
  have Dc6 : Aside (RLinkAct.sl.rd True w13 (Span (w12.heap.size) w13.heap.size) aActs [.slice Ac6 aActs.length cc6]) := ⟨RLinkAct.sl.mono hr (fun b h => ⟨by have h1 := h.1; (try simp at h1); omega, h.2⟩)⟩
  clear hr
  clear l6 y6_0 y6_1 y6_2 y6_3 y6_4
  clear l9 y9_0 y9_1 y9_2 y9_3 y9_4
  have hst : Below w12.heap.size w12 w13 := below_later (by go_grown) hb
  have hbt : But NoB w12 w13 := But.below hst
  have gw13 : w12.heap.size ≤ w13.heap.size := hbt.size
  have kk := (K6.out).below hst
  clear K6
  have K6 := Aside.mk kk
  clear kk
  have kk := (K9.out).below hst
  clear K9
  have K9 := Aside.mk kk
  clear kk
  have bel2 := Aside.mk (below_later BEL.out hst)
  clear BEL
  have BEL := bel2
  clear bel2
  have dd := Aside.mk (RLinkAct.sl.but DaActs.out hbt (fun b hb => ⟨by have h2 := hb.2; omega, fun h => h.elim⟩))
  clear DaActs
  have DaActs := dd
  clear dd
  have dd := Aside.mk (RLinkAct.sl.but Dc1.out hbt (fun b hb => ⟨by have h2 := hb.2; omega, fun h => h.elim⟩))
  clear Dc1
  have Dc1 := dd
  clear dd
  have dd := Aside.mk (RLinkReport.but Dr2d0.out hbt (fun b hb => ⟨by have h2 := hb.2; omega, fun h => h.elim⟩))
  clear Dr2d0
  have Dr2d0 := dd
  clear dd
  have dd := Aside.mk (RLinkAct.sl.but Dc3.out hbt (fun b hb => ⟨by have h2 := hb.2; omega, fun h => h.elim⟩))
  clear Dc3
  have Dc3 := dd
  clear dd
  have dd := Aside.mk (RLinkReport.but Dr4d0.out hbt (fun b hb => ⟨by have h2 := hb.2; omega, fun h => h.elim⟩))
  clear Dr4d0
  have Dr4d0 := dd
  clear dd
  have dd := Aside.mk (RLinkAct.sl.but Dc5.out hbt (fun b hb => ⟨by have h2 := hb.2; omega, fun h => h.elim⟩))
  clear Dc5
  have Dc5 := dd
  clear dd
  clear hbt hst hb
  have l6 : w3.heap.size < w13.heap.size := K6.out.lt
  have y6_0 : w13.cell? ⟨w3.heap.size, 0, none⟩ = some (.int .i64 r2d0_0) := K6.out.cell 0
  have y6_1 : w13.cell? ⟨w3.heap.size, 1, none⟩ = some (.int .i64 r2d0_1) := K6.out.cell 1
  have y6_2 : w13.cell? ⟨w3.heap.size, 2, none⟩ = some (.int .i64 r2d0_2) := K6.out.cell 2
  have y6_3 : w13.cell? ⟨w3.heap.size, 3, none⟩ = some (.slice r2d0_3a r2d0_3b r2d0_3c) := K6.out.cell 3
  have y6_4 : w13.cell? ⟨w3.heap.size, 4, none⟩ = some (.slice r2d0_4a r2d0_4b r2d0_4c) := K6.out.cell 4
  have l9 : w5.heap.size < w13.heap.size := K9.out.lt
  have y9_0 : w13.cell? ⟨w5.heap.size, 0, none⟩ = some (.int .i64 r4d0_0) := K9.out.cell 0
  have y9_1 : w13.cell? ⟨w5.heap.size, 1, none⟩ = some (.int .i64 r4d0_1) := K9.out.cell 1
  have y9_2 : w13.cell? ⟨w5.heap.size, 2, none⟩ = some (.int .i64 r4d0_2) := K9.out.cell 2
  have y9_3 : w13.cell? ⟨w5.heap.size, 3, none⟩ = some (.slice r4d0_3a r4d0_3b r4d0_3c) := K9.out.cell 3
  have y9_4 : w13.cell? ⟨w5.heap.size, 4, none⟩ = some (.slice r4d0_4a r4d0_4b r4d0_4c) := K9.out.cell 4
  go_wp2_with fail
  refine (iLinkRun aWindow aActs (.slice Ac6 aActs.length cc6) _ (RLinkAct.sl.made Dc6.out (by omega) (by first | exact Below.refl _ _ | go_grown)) WaActs.out ).mono ?_
  rw [← HRES.out]
  rintro e w14 ⟨r7_0, rfl, hr0, hb⟩
  have hr0 : RLinkReport.rd True w14 _ x0 r7_0 := hr0
  obtain ⟨r7d0_0, r7d0_1, r7d0_2, r7d0_3a, r7d0_3b, r7d0_3c, r7d0_4a, r7d0_4b, r7d0_4c, rfl⟩ := shapeLinkReport hr0
  have Dr7d0 : Aside (RLinkReport.rd True w14 (Span (w13.heap.size) w14.heap.size) x0 [.int .i64 r7d0_0, .int .i64 r7d0_1, .int .i64 r7d0_2, .slice r7d0_3a r7d0_3b r7d0_3c, .slice r7d0_4a r7d0_4b r7d0_4c]) := ⟨RLinkReport.mono hr0 (fun b h => ⟨by have h1 := h.1; (try simp at h1); omega, h.2⟩)⟩
  clear hr0
  clear l6 y6_0 y6_1 y6_2 y6_3 y6_4
  clear l9 y9_0 y9_1 y9_2 y9_3 y9_4
  have hst : Below w13.heap.size w13 w14 := below_later (by go_grown) hb
  have hbt : But NoB w13 w14 := But.below hst
  have gw14 : w13.heap.size ≤ w14.heap.size := hbt.size
  have kk := (K6.out).below hst
  clear K6
  have K6 := Aside.mk kk
  clear kk
  have kk := (K9.out).below hst
  clear K9
  have K9 := Aside.mk kk
  clear kk
  have bel2 := Aside.mk (below_later BEL.out hst)
  clear BEL
  have BEL := bel2
  clear bel2
  have dd := Aside.mk (RLinkAct.sl.but DaActs.out hbt (fun b hb => ⟨by have h2 := hb.2; omega, fun h => h.elim⟩))
  clear DaActs
  have DaActs := dd
  clear dd
  have dd := Aside.mk (RLinkAct.sl.but Dc1.out hbt (fun b hb => ⟨by have h2 := hb.2; omega, fun h => h.elim⟩))
  clear Dc1
  have Dc1 := dd
  clear dd
  have dd := Aside.mk (RLinkReport.but Dr2d0.out hbt (fun b hb => ⟨by have h2 := hb.2; omega, fun h => h.elim⟩))
  clear Dr2d0
  have Dr2d0 := dd
  clear dd
  have dd := Aside.mk (RLinkAct.sl.but Dc3.out hbt (fun b hb => ⟨by have h2 := hb.2; omega, fun h => h.elim⟩))
  clear Dc3
  have Dc3 := dd
  clear dd
  have dd := Aside.mk (RLinkReport.but Dr4d0.out hbt (fun b hb => ⟨by have h2 := hb.2; omega, fun h => h.elim⟩))
  clear Dr4d0
  have Dr4d0 := dd
  clear dd
  have dd := Aside.mk (RLinkAct.sl.but Dc5.out hbt (fun b hb => ⟨by have h2 := hb.2; omega, fun h => h.elim⟩))
  clear Dc5
  have Dc5 := dd
  clear dd
  have dd := Aside.mk (RLinkAct.sl.but Dc6.out hbt (fun b hb => ⟨by have h2 := hb.2; omega, fun h => h.elim⟩))
  clear Dc6
  have Dc6 := dd
  clear dd
  clear hbt hst hb
  have l6 : w3.heap.size < w14.heap.size := K6.out.lt
  have y6_0 : w14.cell? ⟨w3.heap.size, 0, none⟩ = some (.int .i64 r2d0_0) := K6.out.cell 0
  have y6_1 : w14.cell? ⟨w3.heap.size, 1, none⟩ = some (.int .i64 r2d0_1) := K6.out.cell 1
  have y6_2 : w14.cell? ⟨w3.heap.size, 2, none⟩ = some (.int .i64 r2d0_2) := K6.out.cell 2
  have y6_3 : w14.cell? ⟨w3.heap.size, 3, none⟩ = some (.slice r2d0_3a r2d0_3b r2d0_3c) := K6.out.cell 3
  have y6_4 : w14.cell? ⟨w3.heap.size, 4, none⟩ = some (.slice r2d0_4a r2d0_4b r2d0_4c) := K6.out.cell 4
  have l9 : w5.heap.size < w14.heap.size := K9.out.lt
  have y9_0 : w14.cell? ⟨w5.heap.size, 0, none⟩ = some (.int .i64 r4d0_0) := K9.out.cell 0
  have y9_1 : w14.cell? ⟨w5.heap.size, 1, none⟩ = some (.int .i64 r4d0_1) := K9.out.cell 1
  have y9_2 : w14.cell? ⟨w5.heap.size, 2, none⟩ = some (.int .i64 r4d0_2) := K9.out.cell 2
  have y9_3 : w14.cell? ⟨w5.heap.size, 3, none⟩ = some (.slice r4d0_3a r4d0_3b r4d0_3c) := K9.out.cell 3
  have y9_4 : w14.cell? ⟨w5.heap.size, 4, none⟩ = some (.slice r4d0_4a r4d0_4b r4d0_4c) := K9.out.cell 4
  go_wp2_with fail
  refine (eqLinkReport x0 [.int .i64 r7d0_0, .int .i64 r7d0_1, .int .i64 r7d0_2, .slice r7d0_3a r7d0_3b r7d0_3c, .slice r7d0_4a r7d0_4b r7d0_4c] [.int .i64 r2d0_0, .int .i64 r2d0_1, .int .i64 r2d0_2, .slice r2d0_3a r2d0_3b r2d0_3c, .slice r2d0_4a r2d0_4b r2d0_4c] _ (RLinkReport.made Dr7d0.out (by omega) (by first | exact Below.refl _ _ | go_grown)) (RLinkReport.made Dr2d0.out (by omega) (by first | exact Below.refl _ _ | go_grown)) HOK0.out).mono ?_
  rintro e w15 ⟨rfl, hb⟩
  clear l6 y6_0 y6_1 y6_2 y6_3 y6_4
  clear l9 y9_0 y9_1 y9_2 y9_3 y9_4
  have hst : Below w14.heap.size w14 w15 := below_later (by go_grown) hb
  have hbt : But NoB w14 w15 := But.below hst
  have gw15 : w14.heap.size ≤ w15.heap.size := hbt.size
  have kk := (K6.out).below hst
  clear K6
  have K6 := Aside.mk kk
  clear kk
  have kk := (K9.out).below hst
  clear K9
  have K9 := Aside.mk kk
  clear kk
  have K14 := Aside.mk ((Blk.made w14 79 [.int .i64 r7d0_0, .int .i64 r7d0_1, .int .i64 r7d0_2, .slice r7d0_3a r7d0_3b r7d0_3c, .slice r7d0_4a r7d0_4b r7d0_4c] (g := w14.heap.size) (by simp)).below hb)
  have m14 : w14.heap.size < w15.heap.size := K14.out.lt
  have bel2 := Aside.mk (below_later BEL.out hst)
  clear BEL
  have BEL := bel2
  clear bel2
  have dd := Aside.mk (RLinkAct.sl.but DaActs.out hbt (fun b hb => ⟨by have h2 := hb.2; omega, fun h => h.elim⟩))
  clear DaActs
  have DaActs := dd
  clear dd
  have dd := Aside.mk (RLinkAct.sl.but Dc1.out hbt (fun b hb => ⟨by have h2 := hb.2; omega, fun h => h.elim⟩))
  clear Dc1
  have Dc1 := dd
  clear dd
  have dd := Aside.mk (RLinkReport.but Dr2d0.out hbt (fun b hb => ⟨by have h2 := hb.2; omega, fun h => h.elim⟩))
  clear Dr2d0
  have Dr2d0 := dd
  clear dd
  have dd := Aside.mk (RLinkAct.sl.but Dc3.out hbt (fun b hb => ⟨by have h2 := hb.2; omega, fun h => h.elim⟩))
  clear Dc3
  have Dc3 := dd
  clear dd
  have dd := Aside.mk (RLinkReport.but Dr4d0.out hbt (fun b hb => ⟨by have h2 := hb.2; omega, fun h => h.elim⟩))
  clear Dr4d0
  have Dr4d0 := dd
  clear dd
  have dd := Aside.mk (RLinkAct.sl.but Dc5.out hbt (fun b hb => ⟨by have h2 := hb.2; omega, fun h => h.elim⟩))
  clear Dc5
  have Dc5 := dd
  clear dd
  have dd := Aside.mk (RLinkAct.sl.but Dc6.out hbt (fun b hb => ⟨by have h2 := hb.2; omega, fun h => h.elim⟩))
  clear Dc6
  have Dc6 := dd
  clear dd
  have dd := Aside.mk (RLinkReport.but Dr7d0.out hbt (fun b hb => ⟨by have h2 := hb.2; omega, fun h => h.elim⟩))
  clear Dr7d0
  have Dr7d0 := dd
  clear dd
  clear hbt hst hb
  have l6 : w3.heap.size < w15.heap.size := K6.out.lt
  have y6_0 : w15.cell? ⟨w3.heap.size, 0, none⟩ = some (.int .i64 r2d0_0) := K6.out.cell 0
  have y6_1 : w15.cell? ⟨w3.heap.size, 1, none⟩ = some (.int .i64 r2d0_1) := K6.out.cell 1
  have y6_2 : w15.cell? ⟨w3.heap.size, 2, none⟩ = some (.int .i64 r2d0_2) := K6.out.cell 2
  have y6_3 : w15.cell? ⟨w3.heap.size, 3, none⟩ = some (.slice r2d0_3a r2d0_3b r2d0_3c) := K6.out.cell 3
  have y6_4 : w15.cell? ⟨w3.heap.size, 4, none⟩ = some (.slice r2d0_4a r2d0_4b r2d0_4c) := K6.out.cell 4
  have l9 : w5.heap.size < w15.heap.size := K9.out.lt
  have y9_0 : w15.cell? ⟨w5.heap.size, 0, none⟩ = some (.int .i64 r4d0_0) := K9.out.cell 0
  have y9_1 : w15.cell? ⟨w5.heap.size, 1, none⟩ = some (.int .i64 r4d0_1) := K9.out.cell 1
  have y9_2 : w15.cell? ⟨w5.heap.size, 2, none⟩ = some (.int .i64 r4d0_2) := K9.out.cell 2
  have y9_3 : w15.cell? ⟨w5.heap.size, 3, none⟩ = some (.slice r4d0_3a r4d0_3b r4d0_3c) := K9.out.cell 3
  have y9_4 : w15.cell? ⟨w5.heap.size, 4, none⟩ = some (.slice r4d0_4a r4d0_4b r4d0_4c) := K9.out.cell 4
  have l14 : w14.heap.size < w15.heap.size := K14.out.lt
  have y14_0 : w15.cell? ⟨w14.heap.size, 0, none⟩ = some (.int .i64 r7d0_0) := K14.out.cell 0
  have y14_1 : w15.cell? ⟨w14.heap.size, 1, none⟩ = some (.int .i64 r7d0_1) := K14.out.cell 1
  have y14_2 : w15.cell? ⟨w14.heap.size, 2, none⟩ = some (.int .i64 r7d0_2) := K14.out.cell 2
  have y14_3 : w15.cell? ⟨w14.heap.size, 3, none⟩ = some (.slice r7d0_3a r7d0_3b r7d0_3c) := K14.out.cell 3
  have y14_4 : w15.cell? ⟨w14.heap.size, 4, none⟩ = some (.slice r7d0_4a r7d0_4b r7d0_4c) := K14.out.cell 4
  go_wp2_with fail
  refine (heldLinkReportV z2 [.int .i64 r4d0_0, .int .i64 r4d0_1, .int .i64 r4d0_2, .slice r4d0_3a r4d0_3b r4d0_3c, .slice r4d0_4a r4d0_4b r4d0_4c] _ (1) k2 (RLinkReport.made Dr4d0.out (by omega) (by first | exact Below.refl _ _ | go_grown)) HHk2.out (by omega) (by omega)).mono ?_
  rintro e w16 ⟨rfl, hb⟩
  clear l6 y6_0 y6_1 y6_2 y6_3 y6_4
  clear l9 y9_0 y9_1 y9_2 y9_3 y9_4
  clear l14 y14_0 y14_1 y14_2 y14_3 y14_4
  have hst : Below w15.heap.size w15 w16 := below_later (by go_grown) hb
  have hbt : But NoB w15 w16 := But.below hst
  have gw16 : w15.heap.size ≤ w16.heap.size := hbt.size
  have kk := (K6.out).below hst
  clear K6
  have K6 := Aside.mk kk
  clear kk
  have kk := (K9.out).below hst
  clear K9
  have K9 := Aside.mk kk
  clear kk
  have kk := (K14.out).below hst
  clear K14
  have K14 := Aside.mk kk
  clear kk
  have bel2 := Aside.mk (below_later BEL.out hst)
  clear BEL
  have BEL := bel2
  clear bel2
  have dd := Aside.mk (RLinkAct.sl.but DaActs.out hbt (fun b hb => ⟨by have h2 := hb.2; omega, fun h => h.elim⟩))
  clear DaActs
  have DaActs := dd
  clear dd
  have dd := Aside.mk (RLinkAct.sl.but Dc1.out hbt (fun b hb => ⟨by have h2 := hb.2; omega, fun h => h.elim⟩))
  clear Dc1
  have Dc1 := dd
  clear dd
  have dd := Aside.mk (RLinkReport.but Dr2d0.out hbt (fun b hb => ⟨by have h2 := hb.2; omega, fun h => h.elim⟩))
  clear Dr2d0
  have Dr2d0 := dd
  clear dd
  have dd := Aside.mk (RLinkAct.sl.but Dc3.out hbt (fun b hb => ⟨by have h2 := hb.2; omega, fun h => h.elim⟩))
  clear Dc3
  have Dc3 := dd
  clear dd
  have dd := Aside.mk (RLinkReport.but Dr4d0.out hbt (fun b hb => ⟨by have h2 := hb.2; omega, fun h => h.elim⟩))
  clear Dr4d0
  have Dr4d0 := dd
  clear dd
  have dd := Aside.mk (RLinkAct.sl.but Dc5.out hbt (fun b hb => ⟨by have h2 := hb.2; omega, fun h => h.elim⟩))
  clear Dc5
  have Dc5 := dd
  clear dd
  have dd := Aside.mk (RLinkAct.sl.but Dc6.out hbt (fun b hb => ⟨by have h2 := hb.2; omega, fun h => h.elim⟩))
  clear Dc6
  have Dc6 := dd
  clear dd
  have dd := Aside.mk (RLinkReport.but Dr7d0.out hbt (fun b hb => ⟨by have h2 := hb.2; omega, fun h => h.elim⟩))
  clear Dr7d0
  have Dr7d0 := dd
  clear dd
  clear hbt hst hb
  have l6 : w3.heap.size < w16.heap.size := K6.out.lt
  have y6_0 : w16.cell? ⟨w3.heap.size, 0, none⟩ = some (.int .i64 r2d0_0) := K6.out.cell 0
  have y6_1 : w16.cell? ⟨w3.heap.size, 1, none⟩ = some (.int .i64 r2d0_1) := K6.out.cell 1
  have y6_2 : w16.cell? ⟨w3.heap.size, 2, none⟩ = some (.int .i64 r2d0_2) := K6.out.cell 2
  have y6_3 : w16.cell? ⟨w3.heap.size, 3, none⟩ = some (.slice r2d0_3a r2d0_3b r2d0_3c) := K6.out.cell 3
  have y6_4 : w16.cell? ⟨w3.heap.size, 4, none⟩ = some (.slice r2d0_4a r2d0_4b r2d0_4c) := K6.out.cell 4
  have l9 : w5.heap.size < w16.heap.size := K9.out.lt
  have y9_0 : w16.cell? ⟨w5.heap.size, 0, none⟩ = some (.int .i64 r4d0_0) := K9.out.cell 0
  have y9_1 : w16.cell? ⟨w5.heap.size, 1, none⟩ = some (.int .i64 r4d0_1) := K9.out.cell 1
  have y9_2 : w16.cell? ⟨w5.heap.size, 2, none⟩ = some (.int .i64 r4d0_2) := K9.out.cell 2
  have y9_3 : w16.cell? ⟨w5.heap.size, 3, none⟩ = some (.slice r4d0_3a r4d0_3b r4d0_3c) := K9.out.cell 3
  have y9_4 : w16.cell? ⟨w5.heap.size, 4, none⟩ = some (.slice r4d0_4a r4d0_4b r4d0_4c) := K9.out.cell 4
  have l14 : w14.heap.size < w16.heap.size := K14.out.lt
  have y14_0 : w16.cell? ⟨w14.heap.size, 0, none⟩ = some (.int .i64 r7d0_0) := K14.out.cell 0
  have y14_1 : w16.cell? ⟨w14.heap.size, 1, none⟩ = some (.int .i64 r7d0_1) := K14.out.cell 1
  have y14_2 : w16.cell? ⟨w14.heap.size, 2, none⟩ = some (.int .i64 r7d0_2) := K14.out.cell 2
  have y14_3 : w16.cell? ⟨w14.heap.size, 3, none⟩ = some (.slice r7d0_3a r7d0_3b r7d0_3c) := K14.out.cell 3
  have y14_4 : w16.cell? ⟨w14.heap.size, 4, none⟩ = some (.slice r7d0_4a r7d0_4b r7d0_4c) := K14.out.cell 4
  go_wp2_with fail
  go_ret
  exact ⟨rfl, BEL.out⟩
end Go.Proofs.Ytdldgchkinflmaa.Fn
