/- Walk of the law FnExactSignal. Conditions: those of each theorem. -/
import Derived.Test.YtdcmoilajplfdaaSig
import Derived.Test.YtdcmoilajplfdaaMTerm
import Derived.Test.YtdcmoilajplfdaaSig2
import Derived.Test.YtdcmoilajplfdaaEnv
set_option linter.unusedVariables false
namespace Go.Proofs.Ytdcmoilajplfdaa.Fn
open Go.RowKit Go.Proofs.Ytdcmoilajplfdaa.Lib Go.Proofs.Ytdcmoilajplfdaa.Plan
attribute [local go_sem] look_tmp look_const look_func look_global lookT_nil lookT_hit lookT_miss
set_option maxRecDepth 100000 in
set_option maxHeartbeats 8000000 in
theorem FnExactSignal (aTrap : Bool) (aLink : Bool) (aReason : T) (csaReason : List Value) (w : World) (haReason : Rec.term.rd False w (Old w) aReason csaReason) (oaReason : Rec.term.ok aReason) :
    Calls Try.prog 9 #[.bool aTrap, .bool aLink, .agg csaReason.toArray] w fun e w' => e = .returned (.bool true) ∧ Below w.heap.size w w' := by
  obtain ⟨xaReason0, xaReason1, xaReason2, xaReason3a, xaReason3b, xaReason3c, rfl⟩ := shapeTerm haReason
  have DaReason : Aside (Rec.term.rd False w (Span 0 w.heap.size) aReason [.int .i64 xaReason0, .int .i64 xaReason1, .string xaReason2, .slice xaReason3a xaReason3b xaReason3c]) := ⟨Rec.term.mono haReason (fun b h => ⟨Nat.zero_le _, h⟩)⟩
  have OaReason := Aside.mk oaReason
  obtain ⟨naReason, taReason⟩ : ∃ n, Rec.term.wt aReason = n := ⟨_, rfl⟩
  have TaReason := Aside.mk taReason
  clear haReason oaReason taReason
  obtain ⟨⟨x0, x1, x2⟩, hRES⟩ : ∃ r, r = sigR aTrap aLink aReason := ⟨_, rfl⟩
  have HRES := Aside.mk hRES
  clear hRES
  show Calls Try.prog 9 #[.bool aTrap, .bool aLink, .agg #[.int .i64 xaReason0, .int .i64 xaReason1, .string xaReason2, .slice xaReason3a xaReason3b xaReason3c]] w _
  have BEL : Aside (Below w.heap.size w w) := ⟨Below.refl _ _⟩
  go_enter Try.func9, Try.ntmps9
  go_wp2_with fail
  refine (szTerm aReason [.int .i64 xaReason0, .int .i64 xaReason1, .string xaReason2, .slice xaReason3a xaReason3b xaReason3c] _ (1048576) (Rec.term.made DaReason.out (by omega) (by first | exact Below.refl _ _ | go_grown)) OaReason.out (by omega) (by omega)).mono ?_
  rintro e w1 ⟨rfl, hb⟩
  have hst : Below w.heap.size w w1 := below_later (by go_grown) hb
  have hbt : But NoB w w1 := But.below hst
  have gw1 : w.heap.size ≤ w1.heap.size := hbt.size
  have K5 := Aside.mk ((Blk.made w 24 [.int .i64 xaReason0, .int .i64 xaReason1, .string xaReason2, .slice xaReason3a xaReason3b xaReason3c] (g := w.heap.size) (by simp)).below hb)
  have m5 : w.heap.size < w1.heap.size := K5.out.lt
  have bel2 := Aside.mk (below_later BEL.out hst)
  clear BEL
  have BEL := bel2
  clear bel2
  have dd := Aside.mk (Rec.term.but DaReason.out hbt (fun b hb => ⟨by have h2 := hb.2; omega, fun h => h.elim⟩))
  clear DaReason
  have DaReason := dd
  clear dd
  clear hbt hst hb
  have l5 : w.heap.size < w1.heap.size := K5.out.lt
  have y5_0 : w1.cell? ⟨w.heap.size, 0, none⟩ = some (.int .i64 xaReason0) := K5.out.cell 0
  have y5_1 : w1.cell? ⟨w.heap.size, 1, none⟩ = some (.int .i64 xaReason1) := K5.out.cell 1
  have y5_2 : w1.cell? ⟨w.heap.size, 2, none⟩ = some (.string xaReason2) := K5.out.cell 2
  have y5_3 : w1.cell? ⟨w.heap.size, 3, none⟩ = some (.slice xaReason3a xaReason3b xaReason3c) := K5.out.cell 3
  rw [TaReason.out]
  by_cases laReason : (naReason : Int) ≤ 1048576
  rotate_left
  · rw [szR_no laReason]
    go_wp2
    go_ret
    exact ⟨rfl, BEL.out⟩
  rw [szR_yes laReason]
  have WaReason : Aside (Rec.term.wt aReason ≤ 1048576) := ⟨by rw [TaReason.out]; omega⟩
  go_wp2_with fail
  refine (toTerm aReason [.int .i64 xaReason0, .int .i64 xaReason1, .string xaReason2, .slice xaReason3a xaReason3b xaReason3c] _ (Rec.term.made DaReason.out (by omega) (by first | exact Below.refl _ _ | go_grown)) WaReason.out).mono ?_
  rintro e w2 ⟨cs2, rfl, hr, hb⟩
  obtain ⟨c1_0, c1_1, c1_2, c1_3a, c1_3b, c1_3c, rfl⟩ := shapeTerm hr
  have Dc1 : Aside (Rec.term.rd True w2 (Span (w1.heap.size) w2.heap.size) aReason [.int .i64 c1_0, .int .i64 c1_1, .string c1_2, .slice c1_3a c1_3b c1_3c]) := ⟨Rec.term.mono hr (fun b h => ⟨by have h1 := h.1; (try simp at h1); omega, h.2⟩)⟩
  clear hr
  clear l5 y5_0 y5_1 y5_2 y5_3
  have hst : Below w1.heap.size w1 w2 := below_later (by go_grown) hb
  have hbt : But NoB w1 w2 := But.below hst
  have gw2 : w1.heap.size ≤ w2.heap.size := hbt.size
  have kk := (K5.out).below hst
  clear K5
  have K5 := Aside.mk kk
  clear kk
  have bel2 := Aside.mk (below_later BEL.out hst)
  clear BEL
  have BEL := bel2
  clear bel2
  have dd := Aside.mk (Rec.term.but DaReason.out hbt (fun b hb => ⟨by have h2 := hb.2; omega, fun h => h.elim⟩))
  clear DaReason
  have DaReason := dd
  clear dd
  clear hbt hst hb
  have l5 : w.heap.size < w2.heap.size := K5.out.lt
  have y5_0 : w2.cell? ⟨w.heap.size, 0, none⟩ = some (.int .i64 xaReason0) := K5.out.cell 0
  have y5_1 : w2.cell? ⟨w.heap.size, 1, none⟩ = some (.int .i64 xaReason1) := K5.out.cell 1
  have y5_2 : w2.cell? ⟨w.heap.size, 2, none⟩ = some (.string xaReason2) := K5.out.cell 2
  have y5_3 : w2.cell? ⟨w.heap.size, 3, none⟩ = some (.slice xaReason3a xaReason3b xaReason3c) := K5.out.cell 3
  go_wp2_with fail
  refine (sSignal aTrap aLink aReason [.int .i64 c1_0, .int .i64 c1_1, .string c1_2, .slice c1_3a c1_3b c1_3c] _ (Rec.term.made Dc1.out (by omega) (by first | exact Below.refl _ _ | go_grown)) WaReason.out ).mono ?_
  rw [← HRES.out]
  rintro e w3 ⟨r2_1, rfl, hr1, hb⟩
  have hr1 : Rec.term.rd True w3 _ x1 r2_1 := hr1
  obtain ⟨r2d1_0, r2d1_1, r2d1_2, r2d1_3a, r2d1_3b, r2d1_3c, rfl⟩ := shapeTerm hr1
  have Dr2d1 : Aside (Rec.term.rd True w3 (Span (w2.heap.size) w3.heap.size) x1 [.int .i64 r2d1_0, .int .i64 r2d1_1, .string r2d1_2, .slice r2d1_3a r2d1_3b r2d1_3c]) := ⟨Rec.term.mono hr1 (fun b h => ⟨by have h1 := h.1; (try simp at h1); omega, h.2⟩)⟩
  clear hr1
  clear l5 y5_0 y5_1 y5_2 y5_3
  have hst : Below w2.heap.size w2 w3 := below_later (by go_grown) hb
  have hbt : But NoB w2 w3 := But.below hst
  have gw3 : w2.heap.size ≤ w3.heap.size := hbt.size
  have kk := (K5.out).below hst
  clear K5
  have K5 := Aside.mk kk
  clear kk
  have bel2 := Aside.mk (below_later BEL.out hst)
  clear BEL
  have BEL := bel2
  clear bel2
  have dd := Aside.mk (Rec.term.but DaReason.out hbt (fun b hb => ⟨by have h2 := hb.2; omega, fun h => h.elim⟩))
  clear DaReason
  have DaReason := dd
  clear dd
  have dd := Aside.mk (Rec.term.but Dc1.out hbt (fun b hb => ⟨by have h2 := hb.2; omega, fun h => h.elim⟩))
  clear Dc1
  have Dc1 := dd
  clear dd
  clear hbt hst hb
  have l5 : w.heap.size < w3.heap.size := K5.out.lt
  have y5_0 : w3.cell? ⟨w.heap.size, 0, none⟩ = some (.int .i64 xaReason0) := K5.out.cell 0
  have y5_1 : w3.cell? ⟨w.heap.size, 1, none⟩ = some (.int .i64 xaReason1) := K5.out.cell 1
  have y5_2 : w3.cell? ⟨w.heap.size, 2, none⟩ = some (.string xaReason2) := K5.out.cell 2
  have y5_3 : w3.cell? ⟨w.heap.size, 3, none⟩ = some (.slice xaReason3a xaReason3b xaReason3c) := K5.out.cell 3
  have HOK1 : Aside (Rec.term.ok x1) := ⟨by have hh := sig_ok aTrap aLink OaReason.out; rw [← HRES.out] at hh; exact hh⟩
  have HWT1 : Aside (Rec.term.wt x1 ≤ 1073741824) := ⟨by have hh := sig_wt aTrap aLink WaReason.out; rw [← HRES.out] at hh; exact hh⟩
  go_wp2_with fail
  refine (toTerm aReason [.int .i64 xaReason0, .int .i64 xaReason1, .string xaReason2, .slice xaReason3a xaReason3b xaReason3c] _ (Rec.term.made DaReason.out (by omega) (by first | exact Below.refl _ _ | go_grown)) WaReason.out).mono ?_
  rintro e w4 ⟨cs2, rfl, hr, hb⟩
  obtain ⟨c3_0, c3_1, c3_2, c3_3a, c3_3b, c3_3c, rfl⟩ := shapeTerm hr
  have Dc3 : Aside (Rec.term.rd True w4 (Span (w3.heap.size + 1) w4.heap.size) aReason [.int .i64 c3_0, .int .i64 c3_1, .string c3_2, .slice c3_3a c3_3b c3_3c]) := ⟨Rec.term.mono hr (fun b h => ⟨by have h1 := h.1; (try simp at h1); omega, h.2⟩)⟩
  clear hr
  clear l5 y5_0 y5_1 y5_2 y5_3
  have hst : Below w3.heap.size w3 w4 := below_later (by go_grown) hb
  have hbt : But NoB w3 w4 := But.below hst
  have gw4 : w3.heap.size ≤ w4.heap.size := hbt.size
  have kk := (K5.out).below hst
  clear K5
  have K5 := Aside.mk kk
  clear kk
  have K9 := Aside.mk ((Blk.made w3 29 [.int .i64 r2d1_0, .int .i64 r2d1_1, .string r2d1_2, .slice r2d1_3a r2d1_3b r2d1_3c] (g := w3.heap.size) (by simp)).below hb)
  have m9 : w3.heap.size < w4.heap.size := K9.out.lt
  have bel2 := Aside.mk (below_later BEL.out hst)
  clear BEL
  have BEL := bel2
  clear bel2
  have dd := Aside.mk (Rec.term.but DaReason.out hbt (fun b hb => ⟨by have h2 := hb.2; omega, fun h => h.elim⟩))
  clear DaReason
  have DaReason := dd
  clear dd
  have dd := Aside.mk (Rec.term.but Dc1.out hbt (fun b hb => ⟨by have h2 := hb.2; omega, fun h => h.elim⟩))
  clear Dc1
  have Dc1 := dd
  clear dd
  have dd := Aside.mk (Rec.term.but Dr2d1.out hbt (fun b hb => ⟨by have h2 := hb.2; omega, fun h => h.elim⟩))
  clear Dr2d1
  have Dr2d1 := dd
  clear dd
  clear hbt hst hb
  have l5 : w.heap.size < w4.heap.size := K5.out.lt
  have y5_0 : w4.cell? ⟨w.heap.size, 0, none⟩ = some (.int .i64 xaReason0) := K5.out.cell 0
  have y5_1 : w4.cell? ⟨w.heap.size, 1, none⟩ = some (.int .i64 xaReason1) := K5.out.cell 1
  have y5_2 : w4.cell? ⟨w.heap.size, 2, none⟩ = some (.string xaReason2) := K5.out.cell 2
  have y5_3 : w4.cell? ⟨w.heap.size, 3, none⟩ = some (.slice xaReason3a xaReason3b xaReason3c) := K5.out.cell 3
  have l9 : w3.heap.size < w4.heap.size := K9.out.lt
  have y9_0 : w4.cell? ⟨w3.heap.size, 0, none⟩ = some (.int .i64 r2d1_0) := K9.out.cell 0
  have y9_1 : w4.cell? ⟨w3.heap.size, 1, none⟩ = some (.int .i64 r2d1_1) := K9.out.cell 1
  have y9_2 : w4.cell? ⟨w3.heap.size, 2, none⟩ = some (.string r2d1_2) := K9.out.cell 2
  have y9_3 : w4.cell? ⟨w3.heap.size, 3, none⟩ = some (.slice r2d1_3a r2d1_3b r2d1_3c) := K9.out.cell 3
  go_wp2_with fail
  refine (iSignal aTrap aLink aReason [.int .i64 c3_0, .int .i64 c3_1, .string c3_2, .slice c3_3a c3_3b c3_3c] _ (Rec.term.made Dc3.out (by omega) (by first | exact Below.refl _ _ | go_grown)) WaReason.out ).mono ?_
  rw [← HRES.out]
  rintro e w5 ⟨r4_1, rfl, hr1, hb⟩
  have hr1 : Rec.term.rd True w5 _ x1 r4_1 := hr1
  obtain ⟨r4d1_0, r4d1_1, r4d1_2, r4d1_3a, r4d1_3b, r4d1_3c, rfl⟩ := shapeTerm hr1
  have Dr4d1 : Aside (Rec.term.rd True w5 (Span (w4.heap.size + 1) w5.heap.size) x1 [.int .i64 r4d1_0, .int .i64 r4d1_1, .string r4d1_2, .slice r4d1_3a r4d1_3b r4d1_3c]) := ⟨Rec.term.mono hr1 (fun b h => ⟨by have h1 := h.1; (try simp at h1); omega, h.2⟩)⟩
  clear hr1
  clear l5 y5_0 y5_1 y5_2 y5_3
  clear l9 y9_0 y9_1 y9_2 y9_3
  have hst : Below w4.heap.size w4 w5 := below_later (by go_grown) hb
  have hbt : But NoB w4 w5 := But.below hst
  have gw5 : w4.heap.size ≤ w5.heap.size := hbt.size
  have kk := (K5.out).below hst
  clear K5
  have K5 := Aside.mk kk
  clear kk
  have kk := (K9.out).below hst
  clear K9
  have K9 := Aside.mk kk
  clear kk
  have K11 := Aside.mk ((Blk.made w4 29 [.int .i64 c3_0, .int .i64 c3_1, .string c3_2, .slice c3_3a c3_3b c3_3c] (g := w4.heap.size) (by simp)).below hb)
  have m11 : w4.heap.size < w5.heap.size := K11.out.lt
  have bel2 := Aside.mk (below_later BEL.out hst)
  clear BEL
  have BEL := bel2
  clear bel2
  have dd := Aside.mk (Rec.term.but DaReason.out hbt (fun b hb => ⟨by have h2 := hb.2; omega, fun h => h.elim⟩))
  clear DaReason
  have DaReason := dd
  clear dd
  have dd := Aside.mk (Rec.term.but Dc1.out hbt (fun b hb => ⟨by have h2 := hb.2; omega, fun h => h.elim⟩))
  clear Dc1
  have Dc1 := dd
  clear dd
  have dd := Aside.mk (Rec.term.but Dr2d1.out hbt (fun b hb => ⟨by have h2 := hb.2; omega, fun h => h.elim⟩))
  clear Dr2d1
  have Dr2d1 := dd
  clear dd
  have dd := Aside.mk (Rec.term.but Dc3.out hbt (fun b hb => ⟨by have h2 := hb.2; omega, fun h => h.elim⟩))
  clear Dc3
  have Dc3 := dd
  clear dd
  clear hbt hst hb
  have l5 : w.heap.size < w5.heap.size := K5.out.lt
  have y5_0 : w5.cell? ⟨w.heap.size, 0, none⟩ = some (.int .i64 xaReason0) := K5.out.cell 0
  have y5_1 : w5.cell? ⟨w.heap.size, 1, none⟩ = some (.int .i64 xaReason1) := K5.out.cell 1
  have y5_2 : w5.cell? ⟨w.heap.size, 2, none⟩ = some (.string xaReason2) := K5.out.cell 2
  have y5_3 : w5.cell? ⟨w.heap.size, 3, none⟩ = some (.slice xaReason3a xaReason3b xaReason3c) := K5.out.cell 3
  have l9 : w3.heap.size < w5.heap.size := K9.out.lt
  have y9_0 : w5.cell? ⟨w3.heap.size, 0, none⟩ = some (.int .i64 r2d1_0) := K9.out.cell 0
  have y9_1 : w5.cell? ⟨w3.heap.size, 1, none⟩ = some (.int .i64 r2d1_1) := K9.out.cell 1
  have y9_2 : w5.cell? ⟨w3.heap.size, 2, none⟩ = some (.string r2d1_2) := K9.out.cell 2
  have y9_3 : w5.cell? ⟨w3.heap.size, 3, none⟩ = some (.slice r2d1_3a r2d1_3b r2d1_3c) := K9.out.cell 3
  have l11 : w4.heap.size < w5.heap.size := K11.out.lt
  have y11_0 : w5.cell? ⟨w4.heap.size, 0, none⟩ = some (.int .i64 c3_0) := K11.out.cell 0
  have y11_1 : w5.cell? ⟨w4.heap.size, 1, none⟩ = some (.int .i64 c3_1) := K11.out.cell 1
  have y11_2 : w5.cell? ⟨w4.heap.size, 2, none⟩ = some (.string c3_2) := K11.out.cell 2
  have y11_3 : w5.cell? ⟨w4.heap.size, 3, none⟩ = some (.slice c3_3a c3_3b c3_3c) := K11.out.cell 3
  go_wp2_with fail
  refine (eqTerm x1 [.int .i64 r4d1_0, .int .i64 r4d1_1, .string r4d1_2, .slice r4d1_3a r4d1_3b r4d1_3c] [.int .i64 r2d1_0, .int .i64 r2d1_1, .string r2d1_2, .slice r2d1_3a r2d1_3b r2d1_3c] _ (Rec.term.made Dr4d1.out (by omega) (by first | exact Below.refl _ _ | go_grown)) (Rec.term.made Dr2d1.out (by omega) (by first | exact Below.refl _ _ | go_grown)) HOK1.out).mono ?_
  rintro e w6 ⟨rfl, hb⟩
  clear l5 y5_0 y5_1 y5_2 y5_3
  clear l9 y9_0 y9_1 y9_2 y9_3
  clear l11 y11_0 y11_1 y11_2 y11_3
  have hst : Below w5.heap.size w5 w6 := below_later (by go_grown) hb
  have hbt : But NoB w5 w6 := But.below hst
  have gw6 : w5.heap.size ≤ w6.heap.size := hbt.size
  have kk := (K5.out).below hst
  clear K5
  have K5 := Aside.mk kk
  clear kk
  have kk := (K9.out).below hst
  clear K9
  have K9 := Aside.mk kk
  clear kk
  have kk := (K11.out).below hst
  clear K11
  have K11 := Aside.mk kk
  clear kk
  have K13 := Aside.mk ((Blk.made w5 29 [.int .i64 r4d1_0, .int .i64 r4d1_1, .string r4d1_2, .slice r4d1_3a r4d1_3b r4d1_3c] (g := w5.heap.size) (by simp)).below hb)
  have m13 : w5.heap.size < w6.heap.size := K13.out.lt
  have bel2 := Aside.mk (below_later BEL.out hst)
  clear BEL
  have BEL := bel2
  clear bel2
  have dd := Aside.mk (Rec.term.but DaReason.out hbt (fun b hb => ⟨by have h2 := hb.2; omega, fun h => h.elim⟩))
  clear DaReason
  have DaReason := dd
  clear dd
  have dd := Aside.mk (Rec.term.but Dc1.out hbt (fun b hb => ⟨by have h2 := hb.2; omega, fun h => h.elim⟩))
  clear Dc1
  have Dc1 := dd
  clear dd
  have dd := Aside.mk (Rec.term.but Dr2d1.out hbt (fun b hb => ⟨by have h2 := hb.2; omega, fun h => h.elim⟩))
  clear Dr2d1
  have Dr2d1 := dd
  clear dd
  have dd := Aside.mk (Rec.term.but Dc3.out hbt (fun b hb => ⟨by have h2 := hb.2; omega, fun h => h.elim⟩))
  clear Dc3
  have Dc3 := dd
  clear dd
  have dd := Aside.mk (Rec.term.but Dr4d1.out hbt (fun b hb => ⟨by have h2 := hb.2; omega, fun h => h.elim⟩))
  clear Dr4d1
  have Dr4d1 := dd
  clear dd
  clear hbt hst hb
  have l5 : w.heap.size < w6.heap.size := K5.out.lt
  have y5_0 : w6.cell? ⟨w.heap.size, 0, none⟩ = some (.int .i64 xaReason0) := K5.out.cell 0
  have y5_1 : w6.cell? ⟨w.heap.size, 1, none⟩ = some (.int .i64 xaReason1) := K5.out.cell 1
  have y5_2 : w6.cell? ⟨w.heap.size, 2, none⟩ = some (.string xaReason2) := K5.out.cell 2
  have y5_3 : w6.cell? ⟨w.heap.size, 3, none⟩ = some (.slice xaReason3a xaReason3b xaReason3c) := K5.out.cell 3
  have l9 : w3.heap.size < w6.heap.size := K9.out.lt
  have y9_0 : w6.cell? ⟨w3.heap.size, 0, none⟩ = some (.int .i64 r2d1_0) := K9.out.cell 0
  have y9_1 : w6.cell? ⟨w3.heap.size, 1, none⟩ = some (.int .i64 r2d1_1) := K9.out.cell 1
  have y9_2 : w6.cell? ⟨w3.heap.size, 2, none⟩ = some (.string r2d1_2) := K9.out.cell 2
  have y9_3 : w6.cell? ⟨w3.heap.size, 3, none⟩ = some (.slice r2d1_3a r2d1_3b r2d1_3c) := K9.out.cell 3
  have l11 : w4.heap.size < w6.heap.size := K11.out.lt
  have y11_0 : w6.cell? ⟨w4.heap.size, 0, none⟩ = some (.int .i64 c3_0) := K11.out.cell 0
  have y11_1 : w6.cell? ⟨w4.heap.size, 1, none⟩ = some (.int .i64 c3_1) := K11.out.cell 1
  have y11_2 : w6.cell? ⟨w4.heap.size, 2, none⟩ = some (.string c3_2) := K11.out.cell 2
  have y11_3 : w6.cell? ⟨w4.heap.size, 3, none⟩ = some (.slice c3_3a c3_3b c3_3c) := K11.out.cell 3
  have l13 : w5.heap.size < w6.heap.size := K13.out.lt
  have y13_0 : w6.cell? ⟨w5.heap.size, 0, none⟩ = some (.int .i64 r4d1_0) := K13.out.cell 0
  have y13_1 : w6.cell? ⟨w5.heap.size, 1, none⟩ = some (.int .i64 r4d1_1) := K13.out.cell 1
  have y13_2 : w6.cell? ⟨w5.heap.size, 2, none⟩ = some (.string r4d1_2) := K13.out.cell 2
  have y13_3 : w6.cell? ⟨w5.heap.size, 3, none⟩ = some (.slice r4d1_3a r4d1_3b r4d1_3c) := K13.out.cell 3
  go_wp2_with fail
  have HS0 : Aside (Below w6.heap.size w6 w6) := ⟨Below.refl _ _⟩
  refine region_env [(0, true), (1, true), (2, false), (3, false), (4, true)] (fun w' => Below w6.heap.size w6 w') 127 rfl (by kernel_rfl) (by kernel_rfl) (fun _ _ d _ _ h => by cases d <;> exact h) ((Below.refl _ _).drew) (fun ops fr HFR HSZ hl => ?_)
  have hl_0 := ops_start hl
  clear hl
  obtain ⟨H0, hl_1⟩ := ops_next 0 1 rfl hl_0
  clear hl_0
  obtain ⟨H1, hl_2⟩ := ops_next 1 2 rfl hl_1
  clear hl_1
  obtain ⟨H2, hl_3⟩ := ops_next 2 3 rfl hl_2
  clear hl_2
  obtain ⟨H3, hl_4⟩ := ops_next 3 4 rfl hl_3
  clear hl_3
  obtain ⟨H4, hl_5⟩ := ops_next 4 5 rfl hl_4
  clear hl_4
  clear hl_5
  have x_11 : ext fr 11 = _ := congrArg (fun a => Act.eval a (.tmp 11)) HFR.out
  conv at x_11 => rhs; simp only [Act.eval, Array.getD_eq_getD_getElem?, List.getElem?_toArray, List.getElem?_cons_succ, List.getElem?_cons_zero, Option.getD_some]
  have x_5 : ext fr 5 = _ := congrArg (fun a => Act.eval a (.tmp 5)) HFR.out
  conv at x_5 => rhs; simp only [Act.eval, Array.getD_eq_getD_getElem?, List.getElem?_toArray, List.getElem?_cons_succ, List.getElem?_cons_zero, Option.getD_some]
  refine env_yes HSZ H0.out ?_ (fun w' hS => ?_) ?_
  rotate_left
  · have h0 := (hS.cell (p := ⟨w4.heap.size, 0, none⟩) l11).trans y11_0
    have h1 := (hS.cell (p := ⟨w4.heap.size, 1, none⟩) l11).trans y11_1
    have h2 := (hS.cell (p := ⟨w4.heap.size, 2, none⟩) l11).trans y11_2
    have h3 := (hS.cell (p := ⟨w4.heap.size, 3, none⟩) l11).trans y11_3
    go_simp
    rfl
  refine env_yes HSZ H1.out ?_ (fun w' hS => ?_) ?_
  rotate_left
  · have h0 := (hS.cell (p := ⟨w.heap.size, 0, none⟩) l5).trans y5_0
    have h1 := (hS.cell (p := ⟨w.heap.size, 1, none⟩) l5).trans y5_1
    have h2 := (hS.cell (p := ⟨w.heap.size, 2, none⟩) l5).trans y5_2
    have h3 := (hS.cell (p := ⟨w.heap.size, 3, none⟩) l5).trans y5_3
    go_simp
    rfl
  refine env_call HSZ H2.out ?_ ?_ ?_ ?_
  rotate_left 2
  · go_simp
    first | rfl | (constructor <;> rfl)
  refine (toTerm aReason [.int .i64 xaReason0, .int .i64 xaReason1, .string xaReason2, .slice xaReason3a xaReason3b xaReason3c] _ (Rec.term.made DaReason.out (by omega) (by first | exact Below.refl _ _ | go_grown)) WaReason.out).mono ?_
  rintro e w7 ⟨cs2, rfl, hr, hb⟩
  obtain ⟨c5_0, c5_1, c5_2, c5_3a, c5_3b, c5_3c, rfl⟩ := shapeTerm hr
  have Dc5 : Aside (Rec.term.rd True w7 (Span (w6.heap.size) w7.heap.size) aReason [.int .i64 c5_0, .int .i64 c5_1, .string c5_2, .slice c5_3a c5_3b c5_3c]) := ⟨Rec.term.mono hr (fun b h => ⟨by have h1 := h.1; (try simp at h1); omega, h.2⟩)⟩
  clear hr
  clear l5 y5_0 y5_1 y5_2 y5_3
  clear l9 y9_0 y9_1 y9_2 y9_3
  clear l11 y11_0 y11_1 y11_2 y11_3
  clear l13 y13_0 y13_1 y13_2 y13_3
  have hst : Below w6.heap.size w6 w7 := below_later (by go_grown) hb
  have hs2 := Aside.mk (below_later HS0.out hst)
  clear HS0
  have HS0 := hs2
  clear hs2
  have hbt : But NoB w6 w7 := But.below hst
  have gw7 : w6.heap.size ≤ w7.heap.size := hbt.size
  have kk := (K5.out).below hst
  clear K5
  have K5 := Aside.mk kk
  clear kk
  have kk := (K9.out).below hst
  clear K9
  have K9 := Aside.mk kk
  clear kk
  have kk := (K11.out).below hst
  clear K11
  have K11 := Aside.mk kk
  clear kk
  have kk := (K13.out).below hst
  clear K13
  have K13 := Aside.mk kk
  clear kk
  have bel2 := Aside.mk (below_later BEL.out hst)
  clear BEL
  have BEL := bel2
  clear bel2
  have dd := Aside.mk (Rec.term.but DaReason.out hbt (fun b hb => ⟨by have h2 := hb.2; omega, fun h => h.elim⟩))
  clear DaReason
  have DaReason := dd
  clear dd
  have dd := Aside.mk (Rec.term.but Dc1.out hbt (fun b hb => ⟨by have h2 := hb.2; omega, fun h => h.elim⟩))
  clear Dc1
  have Dc1 := dd
  clear dd
  have dd := Aside.mk (Rec.term.but Dr2d1.out hbt (fun b hb => ⟨by have h2 := hb.2; omega, fun h => h.elim⟩))
  clear Dr2d1
  have Dr2d1 := dd
  clear dd
  have dd := Aside.mk (Rec.term.but Dc3.out hbt (fun b hb => ⟨by have h2 := hb.2; omega, fun h => h.elim⟩))
  clear Dc3
  have Dc3 := dd
  clear dd
  have dd := Aside.mk (Rec.term.but Dr4d1.out hbt (fun b hb => ⟨by have h2 := hb.2; omega, fun h => h.elim⟩))
  clear Dr4d1
  have Dr4d1 := dd
  clear dd
  clear hbt hst hb
  have l5 : w.heap.size < w7.heap.size := K5.out.lt
  have y5_0 : w7.cell? ⟨w.heap.size, 0, none⟩ = some (.int .i64 xaReason0) := K5.out.cell 0
  have y5_1 : w7.cell? ⟨w.heap.size, 1, none⟩ = some (.int .i64 xaReason1) := K5.out.cell 1
  have y5_2 : w7.cell? ⟨w.heap.size, 2, none⟩ = some (.string xaReason2) := K5.out.cell 2
  have y5_3 : w7.cell? ⟨w.heap.size, 3, none⟩ = some (.slice xaReason3a xaReason3b xaReason3c) := K5.out.cell 3
  have l9 : w3.heap.size < w7.heap.size := K9.out.lt
  have y9_0 : w7.cell? ⟨w3.heap.size, 0, none⟩ = some (.int .i64 r2d1_0) := K9.out.cell 0
  have y9_1 : w7.cell? ⟨w3.heap.size, 1, none⟩ = some (.int .i64 r2d1_1) := K9.out.cell 1
  have y9_2 : w7.cell? ⟨w3.heap.size, 2, none⟩ = some (.string r2d1_2) := K9.out.cell 2
  have y9_3 : w7.cell? ⟨w3.heap.size, 3, none⟩ = some (.slice r2d1_3a r2d1_3b r2d1_3c) := K9.out.cell 3
  have l11 : w4.heap.size < w7.heap.size := K11.out.lt
  have y11_0 : w7.cell? ⟨w4.heap.size, 0, none⟩ = some (.int .i64 c3_0) := K11.out.cell 0
  have y11_1 : w7.cell? ⟨w4.heap.size, 1, none⟩ = some (.int .i64 c3_1) := K11.out.cell 1
  have y11_2 : w7.cell? ⟨w4.heap.size, 2, none⟩ = some (.string c3_2) := K11.out.cell 2
  have y11_3 : w7.cell? ⟨w4.heap.size, 3, none⟩ = some (.slice c3_3a c3_3b c3_3c) := K11.out.cell 3
  have l13 : w5.heap.size < w7.heap.size := K13.out.lt
  have y13_0 : w7.cell? ⟨w5.heap.size, 0, none⟩ = some (.int .i64 r4d1_0) := K13.out.cell 0
  have y13_1 : w7.cell? ⟨w5.heap.size, 1, none⟩ = some (.int .i64 r4d1_1) := K13.out.cell 1
  have y13_2 : w7.cell? ⟨w5.heap.size, 2, none⟩ = some (.string r4d1_2) := K13.out.cell 2
  have y13_3 : w7.cell? ⟨w5.heap.size, 3, none⟩ = some (.slice r4d1_3a r4d1_3b r4d1_3c) := K13.out.cell 3
  refine ⟨_, rfl, HS0.out, ?_⟩
  refine env_call HSZ H3.out ?_ ?_ ?_ ?_
  rotate_left 2
  · go_simp
    first | rfl | (constructor <;> rfl)
  refine (eqTerm aReason [.int .i64 c3_0, .int .i64 c3_1, .string c3_2, .slice c3_3a c3_3b c3_3c] [.int .i64 c5_0, .int .i64 c5_1, .string c5_2, .slice c5_3a c5_3b c5_3c] _ (Rec.term.made Dc3.out (by omega) (by first | exact Below.refl _ _ | go_grown)) (Rec.term.made Dc5.out (by omega) (by first | exact Below.refl _ _ | go_grown)) OaReason.out).mono ?_
  rintro e w8 ⟨rfl, hb⟩
  clear l5 y5_0 y5_1 y5_2 y5_3
  clear l9 y9_0 y9_1 y9_2 y9_3
  clear l11 y11_0 y11_1 y11_2 y11_3
  clear l13 y13_0 y13_1 y13_2 y13_3
  have hst : Below w7.heap.size w7 w8 := below_later (by go_grown) hb
  have hs2 := Aside.mk (below_later HS0.out hst)
  clear HS0
  have HS0 := hs2
  clear hs2
  have hbt : But NoB w7 w8 := But.below hst
  have gw8 : w7.heap.size ≤ w8.heap.size := hbt.size
  have kk := (K5.out).below hst
  clear K5
  have K5 := Aside.mk kk
  clear kk
  have kk := (K9.out).below hst
  clear K9
  have K9 := Aside.mk kk
  clear kk
  have kk := (K11.out).below hst
  clear K11
  have K11 := Aside.mk kk
  clear kk
  have kk := (K13.out).below hst
  clear K13
  have K13 := Aside.mk kk
  clear kk
  have bel2 := Aside.mk (below_later BEL.out hst)
  clear BEL
  have BEL := bel2
  clear bel2
  have dd := Aside.mk (Rec.term.but DaReason.out hbt (fun b hb => ⟨by have h2 := hb.2; omega, fun h => h.elim⟩))
  clear DaReason
  have DaReason := dd
  clear dd
  have dd := Aside.mk (Rec.term.but Dc1.out hbt (fun b hb => ⟨by have h2 := hb.2; omega, fun h => h.elim⟩))
  clear Dc1
  have Dc1 := dd
  clear dd
  have dd := Aside.mk (Rec.term.but Dr2d1.out hbt (fun b hb => ⟨by have h2 := hb.2; omega, fun h => h.elim⟩))
  clear Dr2d1
  have Dr2d1 := dd
  clear dd
  have dd := Aside.mk (Rec.term.but Dc3.out hbt (fun b hb => ⟨by have h2 := hb.2; omega, fun h => h.elim⟩))
  clear Dc3
  have Dc3 := dd
  clear dd
  have dd := Aside.mk (Rec.term.but Dr4d1.out hbt (fun b hb => ⟨by have h2 := hb.2; omega, fun h => h.elim⟩))
  clear Dr4d1
  have Dr4d1 := dd
  clear dd
  have dd := Aside.mk (Rec.term.but Dc5.out hbt (fun b hb => ⟨by have h2 := hb.2; omega, fun h => h.elim⟩))
  clear Dc5
  have Dc5 := dd
  clear dd
  clear hbt hst hb
  have l5 : w.heap.size < w8.heap.size := K5.out.lt
  have y5_0 : w8.cell? ⟨w.heap.size, 0, none⟩ = some (.int .i64 xaReason0) := K5.out.cell 0
  have y5_1 : w8.cell? ⟨w.heap.size, 1, none⟩ = some (.int .i64 xaReason1) := K5.out.cell 1
  have y5_2 : w8.cell? ⟨w.heap.size, 2, none⟩ = some (.string xaReason2) := K5.out.cell 2
  have y5_3 : w8.cell? ⟨w.heap.size, 3, none⟩ = some (.slice xaReason3a xaReason3b xaReason3c) := K5.out.cell 3
  have l9 : w3.heap.size < w8.heap.size := K9.out.lt
  have y9_0 : w8.cell? ⟨w3.heap.size, 0, none⟩ = some (.int .i64 r2d1_0) := K9.out.cell 0
  have y9_1 : w8.cell? ⟨w3.heap.size, 1, none⟩ = some (.int .i64 r2d1_1) := K9.out.cell 1
  have y9_2 : w8.cell? ⟨w3.heap.size, 2, none⟩ = some (.string r2d1_2) := K9.out.cell 2
  have y9_3 : w8.cell? ⟨w3.heap.size, 3, none⟩ = some (.slice r2d1_3a r2d1_3b r2d1_3c) := K9.out.cell 3
  have l11 : w4.heap.size < w8.heap.size := K11.out.lt
  have y11_0 : w8.cell? ⟨w4.heap.size, 0, none⟩ = some (.int .i64 c3_0) := K11.out.cell 0
  have y11_1 : w8.cell? ⟨w4.heap.size, 1, none⟩ = some (.int .i64 c3_1) := K11.out.cell 1
  have y11_2 : w8.cell? ⟨w4.heap.size, 2, none⟩ = some (.string c3_2) := K11.out.cell 2
  have y11_3 : w8.cell? ⟨w4.heap.size, 3, none⟩ = some (.slice c3_3a c3_3b c3_3c) := K11.out.cell 3
  have l13 : w5.heap.size < w8.heap.size := K13.out.lt
  have y13_0 : w8.cell? ⟨w5.heap.size, 0, none⟩ = some (.int .i64 r4d1_0) := K13.out.cell 0
  have y13_1 : w8.cell? ⟨w5.heap.size, 1, none⟩ = some (.int .i64 r4d1_1) := K13.out.cell 1
  have y13_2 : w8.cell? ⟨w5.heap.size, 2, none⟩ = some (.string r4d1_2) := K13.out.cell 2
  have y13_3 : w8.cell? ⟨w5.heap.size, 3, none⟩ = some (.slice r4d1_3a r4d1_3b r4d1_3c) := K13.out.cell 3
  refine ⟨_, rfl, HS0.out, ?_⟩
  refine env_yes HSZ H4.out ?_ (fun w' hS => ?_) ?_
  rotate_left
  · go_simp
    rfl
  refine env_end ?_
  have hfr := HFR.out
  clear HFR HSZ H0 H1 H2 H3 H4 x_11 x_5
  subst hfr
  simp only [putAll, Act.put, List.setIfInBounds_toArray, List.set_cons_succ, List.set_cons_zero]
  clear HS0
  go_wp2_with fail
  refine (markTermV aReason [.int .i64 c3_0, .int .i64 c3_1, .string c3_2, .slice c3_3a c3_3b c3_3c] _ (Span (w3.heap.size + 1) (w4.heap.size)) (1) Dc3.out (fun b hb => by have h2 := hb.2; first | omega | (simp; omega)) (by omega) (by have := WaReason.out; omega)).mono ?_
  rintro e w9 ⟨k1, z1, rfl, hh, hr, hb, hlek1, hlfk1⟩
  have hlgk1 : k1 ≤ 1 + 8589934592 := by have := WaReason.out; omega
  clear hlfk1
  have HHk1 := Aside.mk hh
  clear hh
  clear Dc3
  have Dc3 := Aside.mk hr
  clear hr
  clear l5 y5_0 y5_1 y5_2 y5_3
  clear l9 y9_0 y9_1 y9_2 y9_3
  clear l11 y11_0 y11_1 y11_2 y11_3
  clear l13 y13_0 y13_1 y13_2 y13_3
  have hbt : But (Span (w3.heap.size + 1) (w4.heap.size)) w8 w9 := (But.below (show Below w8.heap.size w8 _ by go_grown)).trans hb
  have gw9 : w8.heap.size ≤ w9.heap.size := hbt.size
  have kk := Blk.but K5.out hbt (fun h => by have h1 := h.1; have h2 := h.2; omega)
  clear K5
  have K5 := Aside.mk kk
  clear kk
  have kk := Blk.but K9.out hbt (fun h => by have h1 := h.1; have h2 := h.2; omega)
  clear K9
  have K9 := Aside.mk kk
  clear kk
  have kk := Blk.but K11.out hbt (fun h => by have h1 := h.1; have h2 := h.2; omega)
  clear K11
  have K11 := Aside.mk kk
  clear kk
  have kk := Blk.but K13.out hbt (fun h => by have h1 := h.1; have h2 := h.2; omega)
  clear K13
  have K13 := Aside.mk kk
  clear kk
  have bel2 := Aside.mk (But.out BEL.out hbt (fun k hk => by have h1 := hk.1; have h2 := BEL.out.size; omega))
  clear BEL
  have BEL := bel2
  clear bel2
  have dd := Aside.mk (Rec.term.but DaReason.out hbt (fun b hb => ⟨by have h2 := hb.2; omega, fun h => by have h1 := h.1; have h2 := h.2; have h3 := hb.1; have h4 := hb.2; omega⟩))
  clear DaReason
  have DaReason := dd
  clear dd
  have dd := Aside.mk (Rec.term.but Dc1.out hbt (fun b hb => ⟨by have h2 := hb.2; omega, fun h => by have h1 := h.1; have h2 := h.2; have h3 := hb.1; have h4 := hb.2; omega⟩))
  clear Dc1
  have Dc1 := dd
  clear dd
  have dd := Aside.mk (Rec.term.but Dr2d1.out hbt (fun b hb => ⟨by have h2 := hb.2; omega, fun h => by have h1 := h.1; have h2 := h.2; have h3 := hb.1; have h4 := hb.2; omega⟩))
  clear Dr2d1
  have Dr2d1 := dd
  clear dd
  have dd := Aside.mk (Rec.term.but Dr4d1.out hbt (fun b hb => ⟨by have h2 := hb.2; omega, fun h => by have h1 := h.1; have h2 := h.2; have h3 := hb.1; have h4 := hb.2; omega⟩))
  clear Dr4d1
  have Dr4d1 := dd
  clear dd
  have dd := Aside.mk (Rec.term.but Dc5.out hbt (fun b hb => ⟨by have h2 := hb.2; omega, fun h => by have h1 := h.1; have h2 := h.2; have h3 := hb.1; have h4 := hb.2; omega⟩))
  clear Dc5
  have Dc5 := dd
  clear dd
  clear hbt hb
  have l5 : w.heap.size < w9.heap.size := K5.out.lt
  have y5_0 : w9.cell? ⟨w.heap.size, 0, none⟩ = some (.int .i64 xaReason0) := K5.out.cell 0
  have y5_1 : w9.cell? ⟨w.heap.size, 1, none⟩ = some (.int .i64 xaReason1) := K5.out.cell 1
  have y5_2 : w9.cell? ⟨w.heap.size, 2, none⟩ = some (.string xaReason2) := K5.out.cell 2
  have y5_3 : w9.cell? ⟨w.heap.size, 3, none⟩ = some (.slice xaReason3a xaReason3b xaReason3c) := K5.out.cell 3
  have l9 : w3.heap.size < w9.heap.size := K9.out.lt
  have y9_0 : w9.cell? ⟨w3.heap.size, 0, none⟩ = some (.int .i64 r2d1_0) := K9.out.cell 0
  have y9_1 : w9.cell? ⟨w3.heap.size, 1, none⟩ = some (.int .i64 r2d1_1) := K9.out.cell 1
  have y9_2 : w9.cell? ⟨w3.heap.size, 2, none⟩ = some (.string r2d1_2) := K9.out.cell 2
  have y9_3 : w9.cell? ⟨w3.heap.size, 3, none⟩ = some (.slice r2d1_3a r2d1_3b r2d1_3c) := K9.out.cell 3
  have l11 : w4.heap.size < w9.heap.size := K11.out.lt
  have y11_0 : w9.cell? ⟨w4.heap.size, 0, none⟩ = some (.int .i64 c3_0) := K11.out.cell 0
  have y11_1 : w9.cell? ⟨w4.heap.size, 1, none⟩ = some (.int .i64 c3_1) := K11.out.cell 1
  have y11_2 : w9.cell? ⟨w4.heap.size, 2, none⟩ = some (.string c3_2) := K11.out.cell 2
  have y11_3 : w9.cell? ⟨w4.heap.size, 3, none⟩ = some (.slice c3_3a c3_3b c3_3c) := K11.out.cell 3
  have l13 : w5.heap.size < w9.heap.size := K13.out.lt
  have y13_0 : w9.cell? ⟨w5.heap.size, 0, none⟩ = some (.int .i64 r4d1_0) := K13.out.cell 0
  have y13_1 : w9.cell? ⟨w5.heap.size, 1, none⟩ = some (.int .i64 r4d1_1) := K13.out.cell 1
  have y13_2 : w9.cell? ⟨w5.heap.size, 2, none⟩ = some (.string r4d1_2) := K13.out.cell 2
  have y13_3 : w9.cell? ⟨w5.heap.size, 3, none⟩ = some (.slice r4d1_3a r4d1_3b r4d1_3c) := K13.out.cell 3
  go_wp2_with fail
  refine (eqTerm x1 [.int .i64 r4d1_0, .int .i64 r4d1_1, .string r4d1_2, .slice r4d1_3a r4d1_3b r4d1_3c] [.int .i64 r2d1_0, .int .i64 r2d1_1, .string r2d1_2, .slice r2d1_3a r2d1_3b r2d1_3c] _ (Rec.term.made Dr4d1.out (by omega) (by first | exact Below.refl _ _ | go_grown)) (Rec.term.made Dr2d1.out (by omega) (by first | exact Below.refl _ _ | go_grown)) HOK1.out).mono ?_
  rintro e w10 ⟨rfl, hb⟩
  clear l5 y5_0 y5_1 y5_2 y5_3
  clear l9 y9_0 y9_1 y9_2 y9_3
  clear l11 y11_0 y11_1 y11_2 y11_3
  clear l13 y13_0 y13_1 y13_2 y13_3
  have hst : Below w9.heap.size w9 w10 := below_later (by go_grown) hb
  have hbt : But NoB w9 w10 := But.below hst
  have gw10 : w9.heap.size ≤ w10.heap.size := hbt.size
  have kk := (K5.out).below hst
  clear K5
  have K5 := Aside.mk kk
  clear kk
  have kk := (K9.out).below hst
  clear K9
  have K9 := Aside.mk kk
  clear kk
  have kk := (K11.out).below hst
  clear K11
  have K11 := Aside.mk kk
  clear kk
  have kk := (K13.out).below hst
  clear K13
  have K13 := Aside.mk kk
  clear kk
  have bel2 := Aside.mk (below_later BEL.out hst)
  clear BEL
  have BEL := bel2
  clear bel2
  have dd := Aside.mk (Rec.term.but DaReason.out hbt (fun b hb => ⟨by have h2 := hb.2; omega, fun h => h.elim⟩))
  clear DaReason
  have DaReason := dd
  clear dd
  have dd := Aside.mk (Rec.term.but Dc1.out hbt (fun b hb => ⟨by have h2 := hb.2; omega, fun h => h.elim⟩))
  clear Dc1
  have Dc1 := dd
  clear dd
  have dd := Aside.mk (Rec.term.but Dr2d1.out hbt (fun b hb => ⟨by have h2 := hb.2; omega, fun h => h.elim⟩))
  clear Dr2d1
  have Dr2d1 := dd
  clear dd
  have dd := Aside.mk (Rec.term.but Dc3.out hbt (fun b hb => ⟨by have h2 := hb.2; omega, fun h => h.elim⟩))
  clear Dc3
  have Dc3 := dd
  clear dd
  have dd := Aside.mk (Rec.term.but Dr4d1.out hbt (fun b hb => ⟨by have h2 := hb.2; omega, fun h => h.elim⟩))
  clear Dr4d1
  have Dr4d1 := dd
  clear dd
  have dd := Aside.mk (Rec.term.but Dc5.out hbt (fun b hb => ⟨by have h2 := hb.2; omega, fun h => h.elim⟩))
  clear Dc5
  have Dc5 := dd
  clear dd
  clear hbt hst hb
  have l5 : w.heap.size < w10.heap.size := K5.out.lt
  have y5_0 : w10.cell? ⟨w.heap.size, 0, none⟩ = some (.int .i64 xaReason0) := K5.out.cell 0
  have y5_1 : w10.cell? ⟨w.heap.size, 1, none⟩ = some (.int .i64 xaReason1) := K5.out.cell 1
  have y5_2 : w10.cell? ⟨w.heap.size, 2, none⟩ = some (.string xaReason2) := K5.out.cell 2
  have y5_3 : w10.cell? ⟨w.heap.size, 3, none⟩ = some (.slice xaReason3a xaReason3b xaReason3c) := K5.out.cell 3
  have l9 : w3.heap.size < w10.heap.size := K9.out.lt
  have y9_0 : w10.cell? ⟨w3.heap.size, 0, none⟩ = some (.int .i64 r2d1_0) := K9.out.cell 0
  have y9_1 : w10.cell? ⟨w3.heap.size, 1, none⟩ = some (.int .i64 r2d1_1) := K9.out.cell 1
  have y9_2 : w10.cell? ⟨w3.heap.size, 2, none⟩ = some (.string r2d1_2) := K9.out.cell 2
  have y9_3 : w10.cell? ⟨w3.heap.size, 3, none⟩ = some (.slice r2d1_3a r2d1_3b r2d1_3c) := K9.out.cell 3
  have l11 : w4.heap.size < w10.heap.size := K11.out.lt
  have y11_0 : w10.cell? ⟨w4.heap.size, 0, none⟩ = some (.int .i64 c3_0) := K11.out.cell 0
  have y11_1 : w10.cell? ⟨w4.heap.size, 1, none⟩ = some (.int .i64 c3_1) := K11.out.cell 1
  have y11_2 : w10.cell? ⟨w4.heap.size, 2, none⟩ = some (.string c3_2) := K11.out.cell 2
  have y11_3 : w10.cell? ⟨w4.heap.size, 3, none⟩ = some (.slice c3_3a c3_3b c3_3c) := K11.out.cell 3
  have l13 : w5.heap.size < w10.heap.size := K13.out.lt
  have y13_0 : w10.cell? ⟨w5.heap.size, 0, none⟩ = some (.int .i64 r4d1_0) := K13.out.cell 0
  have y13_1 : w10.cell? ⟨w5.heap.size, 1, none⟩ = some (.int .i64 r4d1_1) := K13.out.cell 1
  have y13_2 : w10.cell? ⟨w5.heap.size, 2, none⟩ = some (.string r4d1_2) := K13.out.cell 2
  have y13_3 : w10.cell? ⟨w5.heap.size, 3, none⟩ = some (.slice r4d1_3a r4d1_3b r4d1_3c) := K13.out.cell 3
  go_wp2_with fail
  refine (markTermV x1 [.int .i64 r4d1_0, .int .i64 r4d1_1, .string r4d1_2, .slice r4d1_3a r4d1_3b r4d1_3c] _ (Span (w4.heap.size + 1) (w5.heap.size)) (1) Dr4d1.out (fun b hb => by have h2 := hb.2; first | omega | (simp; omega)) (by omega) (by have := HWT1.out; omega)).mono ?_
  rintro e w11 ⟨k2, z2, rfl, hh, hr, hb, hlek2, hlfk2⟩
  have hlgk2 : k2 ≤ 1 + 8589934592 := by have := HWT1.out; omega
  clear hlfk2
  have HHk2 := Aside.mk hh
  clear hh
  clear Dr4d1
  have Dr4d1 := Aside.mk hr
  clear hr
  clear l5 y5_0 y5_1 y5_2 y5_3
  clear l9 y9_0 y9_1 y9_2 y9_3
  clear l11 y11_0 y11_1 y11_2 y11_3
  clear l13 y13_0 y13_1 y13_2 y13_3
  have hbt : But (Span (w4.heap.size + 1) (w5.heap.size)) w10 w11 := (But.below (show Below w10.heap.size w10 _ by go_grown)).trans hb
  have gw11 : w10.heap.size ≤ w11.heap.size := hbt.size
  have kk := Blk.but K5.out hbt (fun h => by have h1 := h.1; have h2 := h.2; omega)
  clear K5
  have K5 := Aside.mk kk
  clear kk
  have kk := Blk.but K9.out hbt (fun h => by have h1 := h.1; have h2 := h.2; omega)
  clear K9
  have K9 := Aside.mk kk
  clear kk
  have kk := Blk.but K11.out hbt (fun h => by have h1 := h.1; have h2 := h.2; omega)
  clear K11
  have K11 := Aside.mk kk
  clear kk
  have kk := Blk.but K13.out hbt (fun h => by have h1 := h.1; have h2 := h.2; omega)
  clear K13
  have K13 := Aside.mk kk
  clear kk
  have bel2 := Aside.mk (But.out BEL.out hbt (fun k hk => by have h1 := hk.1; have h2 := BEL.out.size; omega))
  clear BEL
  have BEL := bel2
  clear bel2
  have dd := Aside.mk (Rec.term.but DaReason.out hbt (fun b hb => ⟨by have h2 := hb.2; omega, fun h => by have h1 := h.1; have h2 := h.2; have h3 := hb.1; have h4 := hb.2; omega⟩))
  clear DaReason
  have DaReason := dd
  clear dd
  have dd := Aside.mk (Rec.term.but Dc1.out hbt (fun b hb => ⟨by have h2 := hb.2; omega, fun h => by have h1 := h.1; have h2 := h.2; have h3 := hb.1; have h4 := hb.2; omega⟩))
  clear Dc1
  have Dc1 := dd
  clear dd
  have dd := Aside.mk (Rec.term.but Dr2d1.out hbt (fun b hb => ⟨by have h2 := hb.2; omega, fun h => by have h1 := h.1; have h2 := h.2; have h3 := hb.1; have h4 := hb.2; omega⟩))
  clear Dr2d1
  have Dr2d1 := dd
  clear dd
  have dd := Aside.mk (Rec.term.but Dc3.out hbt (fun b hb => ⟨by have h2 := hb.2; omega, fun h => by have h1 := h.1; have h2 := h.2; have h3 := hb.1; have h4 := hb.2; omega⟩))
  clear Dc3
  have Dc3 := dd
  clear dd
  have dd := Aside.mk (Rec.term.but Dc5.out hbt (fun b hb => ⟨by have h2 := hb.2; omega, fun h => by have h1 := h.1; have h2 := h.2; have h3 := hb.1; have h4 := hb.2; omega⟩))
  clear Dc5
  have Dc5 := dd
  clear dd
  clear hbt hb
  have l5 : w.heap.size < w11.heap.size := K5.out.lt
  have y5_0 : w11.cell? ⟨w.heap.size, 0, none⟩ = some (.int .i64 xaReason0) := K5.out.cell 0
  have y5_1 : w11.cell? ⟨w.heap.size, 1, none⟩ = some (.int .i64 xaReason1) := K5.out.cell 1
  have y5_2 : w11.cell? ⟨w.heap.size, 2, none⟩ = some (.string xaReason2) := K5.out.cell 2
  have y5_3 : w11.cell? ⟨w.heap.size, 3, none⟩ = some (.slice xaReason3a xaReason3b xaReason3c) := K5.out.cell 3
  have l9 : w3.heap.size < w11.heap.size := K9.out.lt
  have y9_0 : w11.cell? ⟨w3.heap.size, 0, none⟩ = some (.int .i64 r2d1_0) := K9.out.cell 0
  have y9_1 : w11.cell? ⟨w3.heap.size, 1, none⟩ = some (.int .i64 r2d1_1) := K9.out.cell 1
  have y9_2 : w11.cell? ⟨w3.heap.size, 2, none⟩ = some (.string r2d1_2) := K9.out.cell 2
  have y9_3 : w11.cell? ⟨w3.heap.size, 3, none⟩ = some (.slice r2d1_3a r2d1_3b r2d1_3c) := K9.out.cell 3
  have l11 : w4.heap.size < w11.heap.size := K11.out.lt
  have y11_0 : w11.cell? ⟨w4.heap.size, 0, none⟩ = some (.int .i64 c3_0) := K11.out.cell 0
  have y11_1 : w11.cell? ⟨w4.heap.size, 1, none⟩ = some (.int .i64 c3_1) := K11.out.cell 1
  have y11_2 : w11.cell? ⟨w4.heap.size, 2, none⟩ = some (.string c3_2) := K11.out.cell 2
  have y11_3 : w11.cell? ⟨w4.heap.size, 3, none⟩ = some (.slice c3_3a c3_3b c3_3c) := K11.out.cell 3
  have l13 : w5.heap.size < w11.heap.size := K13.out.lt
  have y13_0 : w11.cell? ⟨w5.heap.size, 0, none⟩ = some (.int .i64 r4d1_0) := K13.out.cell 0
  have y13_1 : w11.cell? ⟨w5.heap.size, 1, none⟩ = some (.int .i64 r4d1_1) := K13.out.cell 1
  have y13_2 : w11.cell? ⟨w5.heap.size, 2, none⟩ = some (.string r4d1_2) := K13.out.cell 2
  have y13_3 : w11.cell? ⟨w5.heap.size, 3, none⟩ = some (.slice r4d1_3a r4d1_3b r4d1_3c) := K13.out.cell 3
  go_wp2_with fail
  refine (heldTermV z2 [.int .i64 r4d1_0, .int .i64 r4d1_1, .string r4d1_2, .slice r4d1_3a r4d1_3b r4d1_3c] _ (1) k2 (Rec.term.made Dr4d1.out (by omega) (by first | exact Below.refl _ _ | go_grown)) HHk2.out (by omega) (by omega)).mono ?_
  rintro e w12 ⟨rfl, hb⟩
  clear l5 y5_0 y5_1 y5_2 y5_3
  clear l9 y9_0 y9_1 y9_2 y9_3
  clear l11 y11_0 y11_1 y11_2 y11_3
  clear l13 y13_0 y13_1 y13_2 y13_3
  have hst : Below w11.heap.size w11 w12 := below_later (by go_grown) hb
  have hbt : But NoB w11 w12 := But.below hst
  have gw12 : w11.heap.size ≤ w12.heap.size := hbt.size
  have kk := (K5.out).below hst
  clear K5
  have K5 := Aside.mk kk
  clear kk
  have kk := (K9.out).below hst
  clear K9
  have K9 := Aside.mk kk
  clear kk
  have kk := (K11.out).below hst
  clear K11
  have K11 := Aside.mk kk
  clear kk
  have kk := (K13.out).below hst
  clear K13
  have K13 := Aside.mk kk
  clear kk
  have bel2 := Aside.mk (below_later BEL.out hst)
  clear BEL
  have BEL := bel2
  clear bel2
  have dd := Aside.mk (Rec.term.but DaReason.out hbt (fun b hb => ⟨by have h2 := hb.2; omega, fun h => h.elim⟩))
  clear DaReason
  have DaReason := dd
  clear dd
  have dd := Aside.mk (Rec.term.but Dc1.out hbt (fun b hb => ⟨by have h2 := hb.2; omega, fun h => h.elim⟩))
  clear Dc1
  have Dc1 := dd
  clear dd
  have dd := Aside.mk (Rec.term.but Dr2d1.out hbt (fun b hb => ⟨by have h2 := hb.2; omega, fun h => h.elim⟩))
  clear Dr2d1
  have Dr2d1 := dd
  clear dd
  have dd := Aside.mk (Rec.term.but Dc3.out hbt (fun b hb => ⟨by have h2 := hb.2; omega, fun h => h.elim⟩))
  clear Dc3
  have Dc3 := dd
  clear dd
  have dd := Aside.mk (Rec.term.but Dr4d1.out hbt (fun b hb => ⟨by have h2 := hb.2; omega, fun h => h.elim⟩))
  clear Dr4d1
  have Dr4d1 := dd
  clear dd
  have dd := Aside.mk (Rec.term.but Dc5.out hbt (fun b hb => ⟨by have h2 := hb.2; omega, fun h => h.elim⟩))
  clear Dc5
  have Dc5 := dd
  clear dd
  clear hbt hst hb
  have l5 : w.heap.size < w12.heap.size := K5.out.lt
  have y5_0 : w12.cell? ⟨w.heap.size, 0, none⟩ = some (.int .i64 xaReason0) := K5.out.cell 0
  have y5_1 : w12.cell? ⟨w.heap.size, 1, none⟩ = some (.int .i64 xaReason1) := K5.out.cell 1
  have y5_2 : w12.cell? ⟨w.heap.size, 2, none⟩ = some (.string xaReason2) := K5.out.cell 2
  have y5_3 : w12.cell? ⟨w.heap.size, 3, none⟩ = some (.slice xaReason3a xaReason3b xaReason3c) := K5.out.cell 3
  have l9 : w3.heap.size < w12.heap.size := K9.out.lt
  have y9_0 : w12.cell? ⟨w3.heap.size, 0, none⟩ = some (.int .i64 r2d1_0) := K9.out.cell 0
  have y9_1 : w12.cell? ⟨w3.heap.size, 1, none⟩ = some (.int .i64 r2d1_1) := K9.out.cell 1
  have y9_2 : w12.cell? ⟨w3.heap.size, 2, none⟩ = some (.string r2d1_2) := K9.out.cell 2
  have y9_3 : w12.cell? ⟨w3.heap.size, 3, none⟩ = some (.slice r2d1_3a r2d1_3b r2d1_3c) := K9.out.cell 3
  have l11 : w4.heap.size < w12.heap.size := K11.out.lt
  have y11_0 : w12.cell? ⟨w4.heap.size, 0, none⟩ = some (.int .i64 c3_0) := K11.out.cell 0
  have y11_1 : w12.cell? ⟨w4.heap.size, 1, none⟩ = some (.int .i64 c3_1) := K11.out.cell 1
  have y11_2 : w12.cell? ⟨w4.heap.size, 2, none⟩ = some (.string c3_2) := K11.out.cell 2
  have y11_3 : w12.cell? ⟨w4.heap.size, 3, none⟩ = some (.slice c3_3a c3_3b c3_3c) := K11.out.cell 3
  have l13 : w5.heap.size < w12.heap.size := K13.out.lt
  have y13_0 : w12.cell? ⟨w5.heap.size, 0, none⟩ = some (.int .i64 r4d1_0) := K13.out.cell 0
  have y13_1 : w12.cell? ⟨w5.heap.size, 1, none⟩ = some (.int .i64 r4d1_1) := K13.out.cell 1
  have y13_2 : w12.cell? ⟨w5.heap.size, 2, none⟩ = some (.string r4d1_2) := K13.out.cell 2
  have y13_3 : w12.cell? ⟨w5.heap.size, 3, none⟩ = some (.slice r4d1_3a r4d1_3b r4d1_3c) := K13.out.cell 3
  go_wp2_with fail
  refine (toTerm aReason [.int .i64 xaReason0, .int .i64 xaReason1, .string xaReason2, .slice xaReason3a xaReason3b xaReason3c] _ (Rec.term.made DaReason.out (by omega) (by first | exact Below.refl _ _ | go_grown)) WaReason.out).mono ?_
  rintro e w13 ⟨cs2, rfl, hr, hb⟩
  obtain ⟨c6_0, c6_1, c6_2, c6_3a, c6_3b, c6_3c, rfl⟩ := shapeTerm hr
  have Dc6 : Aside (Rec.term.rd True w13 (Span (w12.heap.size) w13.heap.size) aReason [.int .i64 c6_0, .int .i64 c6_1, .string c6_2, .slice c6_3a c6_3b c6_3c]) := ⟨Rec.term.mono hr (fun b h => ⟨by have h1 := h.1; (try simp at h1); omega, h.2⟩)⟩
  clear hr
  clear l5 y5_0 y5_1 y5_2 y5_3
  clear l9 y9_0 y9_1 y9_2 y9_3
  clear l11 y11_0 y11_1 y11_2 y11_3
  clear l13 y13_0 y13_1 y13_2 y13_3
  have hst : Below w12.heap.size w12 w13 := below_later (by go_grown) hb
  have hbt : But NoB w12 w13 := But.below hst
  have gw13 : w12.heap.size ≤ w13.heap.size := hbt.size
  have kk := (K5.out).below hst
  clear K5
  have K5 := Aside.mk kk
  clear kk
  have kk := (K9.out).below hst
  clear K9
  have K9 := Aside.mk kk
  clear kk
  have kk := (K11.out).below hst
  clear K11
  have K11 := Aside.mk kk
  clear kk
  have kk := (K13.out).below hst
  clear K13
  have K13 := Aside.mk kk
  clear kk
  have bel2 := Aside.mk (below_later BEL.out hst)
  clear BEL
  have BEL := bel2
  clear bel2
  have dd := Aside.mk (Rec.term.but DaReason.out hbt (fun b hb => ⟨by have h2 := hb.2; omega, fun h => h.elim⟩))
  clear DaReason
  have DaReason := dd
  clear dd
  have dd := Aside.mk (Rec.term.but Dc1.out hbt (fun b hb => ⟨by have h2 := hb.2; omega, fun h => h.elim⟩))
  clear Dc1
  have Dc1 := dd
  clear dd
  have dd := Aside.mk (Rec.term.but Dr2d1.out hbt (fun b hb => ⟨by have h2 := hb.2; omega, fun h => h.elim⟩))
  clear Dr2d1
  have Dr2d1 := dd
  clear dd
  have dd := Aside.mk (Rec.term.but Dc3.out hbt (fun b hb => ⟨by have h2 := hb.2; omega, fun h => h.elim⟩))
  clear Dc3
  have Dc3 := dd
  clear dd
  have dd := Aside.mk (Rec.term.but Dr4d1.out hbt (fun b hb => ⟨by have h2 := hb.2; omega, fun h => h.elim⟩))
  clear Dr4d1
  have Dr4d1 := dd
  clear dd
  have dd := Aside.mk (Rec.term.but Dc5.out hbt (fun b hb => ⟨by have h2 := hb.2; omega, fun h => h.elim⟩))
  clear Dc5
  have Dc5 := dd
  clear dd
  clear hbt hst hb
  have l5 : w.heap.size < w13.heap.size := K5.out.lt
  have y5_0 : w13.cell? ⟨w.heap.size, 0, none⟩ = some (.int .i64 xaReason0) := K5.out.cell 0
  have y5_1 : w13.cell? ⟨w.heap.size, 1, none⟩ = some (.int .i64 xaReason1) := K5.out.cell 1
  have y5_2 : w13.cell? ⟨w.heap.size, 2, none⟩ = some (.string xaReason2) := K5.out.cell 2
  have y5_3 : w13.cell? ⟨w.heap.size, 3, none⟩ = some (.slice xaReason3a xaReason3b xaReason3c) := K5.out.cell 3
  have l9 : w3.heap.size < w13.heap.size := K9.out.lt
  have y9_0 : w13.cell? ⟨w3.heap.size, 0, none⟩ = some (.int .i64 r2d1_0) := K9.out.cell 0
  have y9_1 : w13.cell? ⟨w3.heap.size, 1, none⟩ = some (.int .i64 r2d1_1) := K9.out.cell 1
  have y9_2 : w13.cell? ⟨w3.heap.size, 2, none⟩ = some (.string r2d1_2) := K9.out.cell 2
  have y9_3 : w13.cell? ⟨w3.heap.size, 3, none⟩ = some (.slice r2d1_3a r2d1_3b r2d1_3c) := K9.out.cell 3
  have l11 : w4.heap.size < w13.heap.size := K11.out.lt
  have y11_0 : w13.cell? ⟨w4.heap.size, 0, none⟩ = some (.int .i64 c3_0) := K11.out.cell 0
  have y11_1 : w13.cell? ⟨w4.heap.size, 1, none⟩ = some (.int .i64 c3_1) := K11.out.cell 1
  have y11_2 : w13.cell? ⟨w4.heap.size, 2, none⟩ = some (.string c3_2) := K11.out.cell 2
  have y11_3 : w13.cell? ⟨w4.heap.size, 3, none⟩ = some (.slice c3_3a c3_3b c3_3c) := K11.out.cell 3
  have l13 : w5.heap.size < w13.heap.size := K13.out.lt
  have y13_0 : w13.cell? ⟨w5.heap.size, 0, none⟩ = some (.int .i64 r4d1_0) := K13.out.cell 0
  have y13_1 : w13.cell? ⟨w5.heap.size, 1, none⟩ = some (.int .i64 r4d1_1) := K13.out.cell 1
  have y13_2 : w13.cell? ⟨w5.heap.size, 2, none⟩ = some (.string r4d1_2) := K13.out.cell 2
  have y13_3 : w13.cell? ⟨w5.heap.size, 3, none⟩ = some (.slice r4d1_3a r4d1_3b r4d1_3c) := K13.out.cell 3
  go_wp2_with fail
  refine (iSignal aTrap aLink aReason [.int .i64 c6_0, .int .i64 c6_1, .string c6_2, .slice c6_3a c6_3b c6_3c] _ (Rec.term.made Dc6.out (by omega) (by first | exact Below.refl _ _ | go_grown)) WaReason.out ).mono ?_
  rw [← HRES.out]
  rintro e w14 ⟨r7_1, rfl, hr1, hb⟩
  have hr1 : Rec.term.rd True w14 _ x1 r7_1 := hr1
  obtain ⟨r7d1_0, r7d1_1, r7d1_2, r7d1_3a, r7d1_3b, r7d1_3c, rfl⟩ := shapeTerm hr1
  have Dr7d1 : Aside (Rec.term.rd True w14 (Span (w13.heap.size) w14.heap.size) x1 [.int .i64 r7d1_0, .int .i64 r7d1_1, .string r7d1_2, .slice r7d1_3a r7d1_3b r7d1_3c]) := ⟨Rec.term.mono hr1 (fun b h => ⟨by have h1 := h.1; (try simp at h1); omega, h.2⟩)⟩
  clear hr1
  clear l5 y5_0 y5_1 y5_2 y5_3
  clear l9 y9_0 y9_1 y9_2 y9_3
  clear l11 y11_0 y11_1 y11_2 y11_3
  clear l13 y13_0 y13_1 y13_2 y13_3
  have hst : Below w13.heap.size w13 w14 := below_later (by go_grown) hb
  have hbt : But NoB w13 w14 := But.below hst
  have gw14 : w13.heap.size ≤ w14.heap.size := hbt.size
  have kk := (K5.out).below hst
  clear K5
  have K5 := Aside.mk kk
  clear kk
  have kk := (K9.out).below hst
  clear K9
  have K9 := Aside.mk kk
  clear kk
  have kk := (K11.out).below hst
  clear K11
  have K11 := Aside.mk kk
  clear kk
  have kk := (K13.out).below hst
  clear K13
  have K13 := Aside.mk kk
  clear kk
  have bel2 := Aside.mk (below_later BEL.out hst)
  clear BEL
  have BEL := bel2
  clear bel2
  have dd := Aside.mk (Rec.term.but DaReason.out hbt (fun b hb => ⟨by have h2 := hb.2; omega, fun h => h.elim⟩))
  clear DaReason
  have DaReason := dd
  clear dd
  have dd := Aside.mk (Rec.term.but Dc1.out hbt (fun b hb => ⟨by have h2 := hb.2; omega, fun h => h.elim⟩))
  clear Dc1
  have Dc1 := dd
  clear dd
  have dd := Aside.mk (Rec.term.but Dr2d1.out hbt (fun b hb => ⟨by have h2 := hb.2; omega, fun h => h.elim⟩))
  clear Dr2d1
  have Dr2d1 := dd
  clear dd
  have dd := Aside.mk (Rec.term.but Dc3.out hbt (fun b hb => ⟨by have h2 := hb.2; omega, fun h => h.elim⟩))
  clear Dc3
  have Dc3 := dd
  clear dd
  have dd := Aside.mk (Rec.term.but Dr4d1.out hbt (fun b hb => ⟨by have h2 := hb.2; omega, fun h => h.elim⟩))
  clear Dr4d1
  have Dr4d1 := dd
  clear dd
  have dd := Aside.mk (Rec.term.but Dc5.out hbt (fun b hb => ⟨by have h2 := hb.2; omega, fun h => h.elim⟩))
  clear Dc5
  have Dc5 := dd
  clear dd
  have dd := Aside.mk (Rec.term.but Dc6.out hbt (fun b hb => ⟨by have h2 := hb.2; omega, fun h => h.elim⟩))
  clear Dc6
  have Dc6 := dd
  clear dd
  clear hbt hst hb
  have l5 : w.heap.size < w14.heap.size := K5.out.lt
  have y5_0 : w14.cell? ⟨w.heap.size, 0, none⟩ = some (.int .i64 xaReason0) := K5.out.cell 0
  have y5_1 : w14.cell? ⟨w.heap.size, 1, none⟩ = some (.int .i64 xaReason1) := K5.out.cell 1
  have y5_2 : w14.cell? ⟨w.heap.size, 2, none⟩ = some (.string xaReason2) := K5.out.cell 2
  have y5_3 : w14.cell? ⟨w.heap.size, 3, none⟩ = some (.slice xaReason3a xaReason3b xaReason3c) := K5.out.cell 3
  have l9 : w3.heap.size < w14.heap.size := K9.out.lt
  have y9_0 : w14.cell? ⟨w3.heap.size, 0, none⟩ = some (.int .i64 r2d1_0) := K9.out.cell 0
  have y9_1 : w14.cell? ⟨w3.heap.size, 1, none⟩ = some (.int .i64 r2d1_1) := K9.out.cell 1
  have y9_2 : w14.cell? ⟨w3.heap.size, 2, none⟩ = some (.string r2d1_2) := K9.out.cell 2
  have y9_3 : w14.cell? ⟨w3.heap.size, 3, none⟩ = some (.slice r2d1_3a r2d1_3b r2d1_3c) := K9.out.cell 3
  have l11 : w4.heap.size < w14.heap.size := K11.out.lt
  have y11_0 : w14.cell? ⟨w4.heap.size, 0, none⟩ = some (.int .i64 c3_0) := K11.out.cell 0
  have y11_1 : w14.cell? ⟨w4.heap.size, 1, none⟩ = some (.int .i64 c3_1) := K11.out.cell 1
  have y11_2 : w14.cell? ⟨w4.heap.size, 2, none⟩ = some (.string c3_2) := K11.out.cell 2
  have y11_3 : w14.cell? ⟨w4.heap.size, 3, none⟩ = some (.slice c3_3a c3_3b c3_3c) := K11.out.cell 3
  have l13 : w5.heap.size < w14.heap.size := K13.out.lt
  have y13_0 : w14.cell? ⟨w5.heap.size, 0, none⟩ = some (.int .i64 r4d1_0) := K13.out.cell 0
  have y13_1 : w14.cell? ⟨w5.heap.size, 1, none⟩ = some (.int .i64 r4d1_1) := K13.out.cell 1
  have y13_2 : w14.cell? ⟨w5.heap.size, 2, none⟩ = some (.string r4d1_2) := K13.out.cell 2
  have y13_3 : w14.cell? ⟨w5.heap.size, 3, none⟩ = some (.slice r4d1_3a r4d1_3b r4d1_3c) := K13.out.cell 3
  go_wp2_with fail
  refine (eqTerm x1 [.int .i64 r7d1_0, .int .i64 r7d1_1, .string r7d1_2, .slice r7d1_3a r7d1_3b r7d1_3c] [.int .i64 r2d1_0, .int .i64 r2d1_1, .string r2d1_2, .slice r2d1_3a r2d1_3b r2d1_3c] _ (Rec.term.made Dr7d1.out (by omega) (by first | exact Below.refl _ _ | go_grown)) (Rec.term.made Dr2d1.out (by omega) (by first | exact Below.refl _ _ | go_grown)) HOK1.out).mono ?_
  rintro e w15 ⟨rfl, hb⟩
  clear l5 y5_0 y5_1 y5_2 y5_3
  clear l9 y9_0 y9_1 y9_2 y9_3
  clear l11 y11_0 y11_1 y11_2 y11_3
  clear l13 y13_0 y13_1 y13_2 y13_3
  have hst : Below w14.heap.size w14 w15 := below_later (by go_grown) hb
  have hbt : But NoB w14 w15 := But.below hst
  have gw15 : w14.heap.size ≤ w15.heap.size := hbt.size
  have kk := (K5.out).below hst
  clear K5
  have K5 := Aside.mk kk
  clear kk
  have kk := (K9.out).below hst
  clear K9
  have K9 := Aside.mk kk
  clear kk
  have kk := (K11.out).below hst
  clear K11
  have K11 := Aside.mk kk
  clear kk
  have kk := (K13.out).below hst
  clear K13
  have K13 := Aside.mk kk
  clear kk
  have K19 := Aside.mk ((Blk.made w14 29 [.int .i64 r7d1_0, .int .i64 r7d1_1, .string r7d1_2, .slice r7d1_3a r7d1_3b r7d1_3c] (g := w14.heap.size) (by simp)).below hb)
  have m19 : w14.heap.size < w15.heap.size := K19.out.lt
  have bel2 := Aside.mk (below_later BEL.out hst)
  clear BEL
  have BEL := bel2
  clear bel2
  have dd := Aside.mk (Rec.term.but DaReason.out hbt (fun b hb => ⟨by have h2 := hb.2; omega, fun h => h.elim⟩))
  clear DaReason
  have DaReason := dd
  clear dd
  have dd := Aside.mk (Rec.term.but Dc1.out hbt (fun b hb => ⟨by have h2 := hb.2; omega, fun h => h.elim⟩))
  clear Dc1
  have Dc1 := dd
  clear dd
  have dd := Aside.mk (Rec.term.but Dr2d1.out hbt (fun b hb => ⟨by have h2 := hb.2; omega, fun h => h.elim⟩))
  clear Dr2d1
  have Dr2d1 := dd
  clear dd
  have dd := Aside.mk (Rec.term.but Dc3.out hbt (fun b hb => ⟨by have h2 := hb.2; omega, fun h => h.elim⟩))
  clear Dc3
  have Dc3 := dd
  clear dd
  have dd := Aside.mk (Rec.term.but Dr4d1.out hbt (fun b hb => ⟨by have h2 := hb.2; omega, fun h => h.elim⟩))
  clear Dr4d1
  have Dr4d1 := dd
  clear dd
  have dd := Aside.mk (Rec.term.but Dc5.out hbt (fun b hb => ⟨by have h2 := hb.2; omega, fun h => h.elim⟩))
  clear Dc5
  have Dc5 := dd
  clear dd
  have dd := Aside.mk (Rec.term.but Dc6.out hbt (fun b hb => ⟨by have h2 := hb.2; omega, fun h => h.elim⟩))
  clear Dc6
  have Dc6 := dd
  clear dd
  have dd := Aside.mk (Rec.term.but Dr7d1.out hbt (fun b hb => ⟨by have h2 := hb.2; omega, fun h => h.elim⟩))
  clear Dr7d1
  have Dr7d1 := dd
  clear dd
  clear hbt hst hb
  have l5 : w.heap.size < w15.heap.size := K5.out.lt
  have y5_0 : w15.cell? ⟨w.heap.size, 0, none⟩ = some (.int .i64 xaReason0) := K5.out.cell 0
  have y5_1 : w15.cell? ⟨w.heap.size, 1, none⟩ = some (.int .i64 xaReason1) := K5.out.cell 1
  have y5_2 : w15.cell? ⟨w.heap.size, 2, none⟩ = some (.string xaReason2) := K5.out.cell 2
  have y5_3 : w15.cell? ⟨w.heap.size, 3, none⟩ = some (.slice xaReason3a xaReason3b xaReason3c) := K5.out.cell 3
  have l9 : w3.heap.size < w15.heap.size := K9.out.lt
  have y9_0 : w15.cell? ⟨w3.heap.size, 0, none⟩ = some (.int .i64 r2d1_0) := K9.out.cell 0
  have y9_1 : w15.cell? ⟨w3.heap.size, 1, none⟩ = some (.int .i64 r2d1_1) := K9.out.cell 1
  have y9_2 : w15.cell? ⟨w3.heap.size, 2, none⟩ = some (.string r2d1_2) := K9.out.cell 2
  have y9_3 : w15.cell? ⟨w3.heap.size, 3, none⟩ = some (.slice r2d1_3a r2d1_3b r2d1_3c) := K9.out.cell 3
  have l11 : w4.heap.size < w15.heap.size := K11.out.lt
  have y11_0 : w15.cell? ⟨w4.heap.size, 0, none⟩ = some (.int .i64 c3_0) := K11.out.cell 0
  have y11_1 : w15.cell? ⟨w4.heap.size, 1, none⟩ = some (.int .i64 c3_1) := K11.out.cell 1
  have y11_2 : w15.cell? ⟨w4.heap.size, 2, none⟩ = some (.string c3_2) := K11.out.cell 2
  have y11_3 : w15.cell? ⟨w4.heap.size, 3, none⟩ = some (.slice c3_3a c3_3b c3_3c) := K11.out.cell 3
  have l13 : w5.heap.size < w15.heap.size := K13.out.lt
  have y13_0 : w15.cell? ⟨w5.heap.size, 0, none⟩ = some (.int .i64 r4d1_0) := K13.out.cell 0
  have y13_1 : w15.cell? ⟨w5.heap.size, 1, none⟩ = some (.int .i64 r4d1_1) := K13.out.cell 1
  have y13_2 : w15.cell? ⟨w5.heap.size, 2, none⟩ = some (.string r4d1_2) := K13.out.cell 2
  have y13_3 : w15.cell? ⟨w5.heap.size, 3, none⟩ = some (.slice r4d1_3a r4d1_3b r4d1_3c) := K13.out.cell 3
  have l19 : w14.heap.size < w15.heap.size := K19.out.lt
  have y19_0 : w15.cell? ⟨w14.heap.size, 0, none⟩ = some (.int .i64 r7d1_0) := K19.out.cell 0
  have y19_1 : w15.cell? ⟨w14.heap.size, 1, none⟩ = some (.int .i64 r7d1_1) := K19.out.cell 1
  have y19_2 : w15.cell? ⟨w14.heap.size, 2, none⟩ = some (.string r7d1_2) := K19.out.cell 2
  have y19_3 : w15.cell? ⟨w14.heap.size, 3, none⟩ = some (.slice r7d1_3a r7d1_3b r7d1_3c) := K19.out.cell 3
  go_wp2_with fail
  refine (heldTermV z2 [.int .i64 r4d1_0, .int .i64 r4d1_1, .string r4d1_2, .slice r4d1_3a r4d1_3b r4d1_3c] _ (1) k2 (Rec.term.made Dr4d1.out (by omega) (by first | exact Below.refl _ _ | go_grown)) HHk2.out (by omega) (by omega)).mono ?_
  rintro e w16 ⟨rfl, hb⟩
  clear l5 y5_0 y5_1 y5_2 y5_3
  clear l9 y9_0 y9_1 y9_2 y9_3
  clear l11 y11_0 y11_1 y11_2 y11_3
  clear l13 y13_0 y13_1 y13_2 y13_3
  clear l19 y19_0 y19_1 y19_2 y19_3
  have hst : Below w15.heap.size w15 w16 := below_later (by go_grown) hb
  have hbt : But NoB w15 w16 := But.below hst
  have gw16 : w15.heap.size ≤ w16.heap.size := hbt.size
  have kk := (K5.out).below hst
  clear K5
  have K5 := Aside.mk kk
  clear kk
  have kk := (K9.out).below hst
  clear K9
  have K9 := Aside.mk kk
  clear kk
  have kk := (K11.out).below hst
  clear K11
  have K11 := Aside.mk kk
  clear kk
  have kk := (K13.out).below hst
  clear K13
  have K13 := Aside.mk kk
  clear kk
  have kk := (K19.out).below hst
  clear K19
  have K19 := Aside.mk kk
  clear kk
  have bel2 := Aside.mk (below_later BEL.out hst)
  clear BEL
  have BEL := bel2
  clear bel2
  have dd := Aside.mk (Rec.term.but DaReason.out hbt (fun b hb => ⟨by have h2 := hb.2; omega, fun h => h.elim⟩))
  clear DaReason
  have DaReason := dd
  clear dd
  have dd := Aside.mk (Rec.term.but Dc1.out hbt (fun b hb => ⟨by have h2 := hb.2; omega, fun h => h.elim⟩))
  clear Dc1
  have Dc1 := dd
  clear dd
  have dd := Aside.mk (Rec.term.but Dr2d1.out hbt (fun b hb => ⟨by have h2 := hb.2; omega, fun h => h.elim⟩))
  clear Dr2d1
  have Dr2d1 := dd
  clear dd
  have dd := Aside.mk (Rec.term.but Dc3.out hbt (fun b hb => ⟨by have h2 := hb.2; omega, fun h => h.elim⟩))
  clear Dc3
  have Dc3 := dd
  clear dd
  have dd := Aside.mk (Rec.term.but Dr4d1.out hbt (fun b hb => ⟨by have h2 := hb.2; omega, fun h => h.elim⟩))
  clear Dr4d1
  have Dr4d1 := dd
  clear dd
  have dd := Aside.mk (Rec.term.but Dc5.out hbt (fun b hb => ⟨by have h2 := hb.2; omega, fun h => h.elim⟩))
  clear Dc5
  have Dc5 := dd
  clear dd
  have dd := Aside.mk (Rec.term.but Dc6.out hbt (fun b hb => ⟨by have h2 := hb.2; omega, fun h => h.elim⟩))
  clear Dc6
  have Dc6 := dd
  clear dd
  have dd := Aside.mk (Rec.term.but Dr7d1.out hbt (fun b hb => ⟨by have h2 := hb.2; omega, fun h => h.elim⟩))
  clear Dr7d1
  have Dr7d1 := dd
  clear dd
  clear hbt hst hb
  have l5 : w.heap.size < w16.heap.size := K5.out.lt
  have y5_0 : w16.cell? ⟨w.heap.size, 0, none⟩ = some (.int .i64 xaReason0) := K5.out.cell 0
  have y5_1 : w16.cell? ⟨w.heap.size, 1, none⟩ = some (.int .i64 xaReason1) := K5.out.cell 1
  have y5_2 : w16.cell? ⟨w.heap.size, 2, none⟩ = some (.string xaReason2) := K5.out.cell 2
  have y5_3 : w16.cell? ⟨w.heap.size, 3, none⟩ = some (.slice xaReason3a xaReason3b xaReason3c) := K5.out.cell 3
  have l9 : w3.heap.size < w16.heap.size := K9.out.lt
  have y9_0 : w16.cell? ⟨w3.heap.size, 0, none⟩ = some (.int .i64 r2d1_0) := K9.out.cell 0
  have y9_1 : w16.cell? ⟨w3.heap.size, 1, none⟩ = some (.int .i64 r2d1_1) := K9.out.cell 1
  have y9_2 : w16.cell? ⟨w3.heap.size, 2, none⟩ = some (.string r2d1_2) := K9.out.cell 2
  have y9_3 : w16.cell? ⟨w3.heap.size, 3, none⟩ = some (.slice r2d1_3a r2d1_3b r2d1_3c) := K9.out.cell 3
  have l11 : w4.heap.size < w16.heap.size := K11.out.lt
  have y11_0 : w16.cell? ⟨w4.heap.size, 0, none⟩ = some (.int .i64 c3_0) := K11.out.cell 0
  have y11_1 : w16.cell? ⟨w4.heap.size, 1, none⟩ = some (.int .i64 c3_1) := K11.out.cell 1
  have y11_2 : w16.cell? ⟨w4.heap.size, 2, none⟩ = some (.string c3_2) := K11.out.cell 2
  have y11_3 : w16.cell? ⟨w4.heap.size, 3, none⟩ = some (.slice c3_3a c3_3b c3_3c) := K11.out.cell 3
  have l13 : w5.heap.size < w16.heap.size := K13.out.lt
  have y13_0 : w16.cell? ⟨w5.heap.size, 0, none⟩ = some (.int .i64 r4d1_0) := K13.out.cell 0
  have y13_1 : w16.cell? ⟨w5.heap.size, 1, none⟩ = some (.int .i64 r4d1_1) := K13.out.cell 1
  have y13_2 : w16.cell? ⟨w5.heap.size, 2, none⟩ = some (.string r4d1_2) := K13.out.cell 2
  have y13_3 : w16.cell? ⟨w5.heap.size, 3, none⟩ = some (.slice r4d1_3a r4d1_3b r4d1_3c) := K13.out.cell 3
  have l19 : w14.heap.size < w16.heap.size := K19.out.lt
  have y19_0 : w16.cell? ⟨w14.heap.size, 0, none⟩ = some (.int .i64 r7d1_0) := K19.out.cell 0
  have y19_1 : w16.cell? ⟨w14.heap.size, 1, none⟩ = some (.int .i64 r7d1_1) := K19.out.cell 1
  have y19_2 : w16.cell? ⟨w14.heap.size, 2, none⟩ = some (.string r7d1_2) := K19.out.cell 2
  have y19_3 : w16.cell? ⟨w14.heap.size, 3, none⟩ = some (.slice r7d1_3a r7d1_3b r7d1_3c) := K19.out.cell 3
  go_wp2_with fail
  go_ret
  exact ⟨rfl, BEL.out⟩
end Go.Proofs.Ytdcmoilajplfdaa.Fn
