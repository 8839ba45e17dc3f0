/- Walk of the law FnExactReportOK. Conditions: those of each theorem. -/
import Derived.Test.YtdldgchkinflmaaRep3
import Derived.Test.YtdldgchkinflmaaRep5
set_option linter.unusedVariables false
namespace Go.Proofs.Ytdldgchkinflmaa.Fn
open Go.RowKit Go.Proofs.Ytdldgchkinflmaa.Lib Go.Proofs.Ytdldgchkinflmaa.Plan
set_option maxRecDepth 100000 in
set_option maxHeartbeats 2000000 in
theorem FnExactReportOK (aR : AReport) (csaR : List Value) (w : World) (haR : RReport.rd False w (Old w) aR csaR) (oaR : RReport.ok aR) :
    Calls Try.prog 7 #[.agg csaR.toArray] w fun e w' => e = .returned (.bool true) ∧ Below w.heap.size w w' := by
  obtain ⟨xaR0, xaR1, xaR2a, xaR2b, xaR2c, xaR3a, xaR3b, xaR3c, xaR4a, xaR4b, xaR4c, rfl⟩ := shapeReport haR
  have HaR := Aside.mk haR
  have OaR := Aside.mk oaR
  obtain ⟨naR, taR⟩ : ∃ n, RReport.wt aR = n := ⟨_, rfl⟩
  have TaR := Aside.mk taR
  clear haR oaR taR
  show Calls Try.prog 7 #[.agg #[.int .i64 xaR0, .int .i64 xaR1, .slice xaR2a xaR2b xaR2c, .slice xaR3a xaR3b xaR3c, .slice xaR4a xaR4b xaR4c]] w _
  go_enter Try.func7, Try.ntmps7
  go_wp2_with fail
  refine (szReport aR [.int .i64 xaR0, .int .i64 xaR1, .slice xaR2a xaR2b xaR2c, .slice xaR3a xaR3b xaR3c, .slice xaR4a xaR4b xaR4c] _ (1048576) (RReport.old HaR.out (by go_grown)) OaR.out (by omega) (by omega)).mono ?_
  rintro e w1 ⟨rfl, hb1⟩
  have kaR := (Blk.made w 61 [.int .i64 xaR0, .int .i64 xaR1, .slice xaR2a xaR2b xaR2c, .slice xaR3a xaR3b xaR3c, .slice xaR4a xaR4b xaR4c] (g := w.heap.size) (by simp)).below hb1
  have KaR := Aside.mk kaR
  clear kaR
  have BEL : Aside (Below w.heap.size w w1) := ⟨below_later (by go_grown) hb1⟩
  clear hb1
  have ltaR : w.heap.size < w1.heap.size := KaR.out.lt
  have yaR_0 : w1.cell? ⟨w.heap.size, 0, none⟩ = some (.int .i64 xaR0) := KaR.out.cell 0
  have yaR_1 : w1.cell? ⟨w.heap.size, 1, none⟩ = some (.int .i64 xaR1) := KaR.out.cell 1
  have yaR_2 : w1.cell? ⟨w.heap.size, 2, none⟩ = some (.slice xaR2a xaR2b xaR2c) := KaR.out.cell 2
  have yaR_3 : w1.cell? ⟨w.heap.size, 3, none⟩ = some (.slice xaR3a xaR3b xaR3c) := KaR.out.cell 3
  have yaR_4 : w1.cell? ⟨w.heap.size, 4, none⟩ = some (.slice xaR4a xaR4b xaR4c) := KaR.out.cell 4
  rw [TaR.out]
  by_cases laR : (naR : Int) ≤ 1048576
  rotate_left
  · rw [szR_no laR]
    go_wp2
    go_ret
    exact ⟨rfl, BEL.out⟩
  rw [szR_yes laR]
  have WaR : Aside (RReport.wt aR ≤ 1048576) := ⟨by rw [TaR.out]; omega⟩
  go_wp2_with fail
  refine (toReport aR [.int .i64 xaR0, .int .i64 xaR1, .slice xaR2a xaR2b xaR2c, .slice xaR3a xaR3b xaR3c, .slice xaR4a xaR4b xaR4c] _ (RReport.old HaR.out (by first | exact BEL.out | exact BEL.out.alloc (by have := BEL.out.size; omega) _)) WaR.out).mono ?_
  rintro e w2 ⟨cs2, rfl, hr, hb2⟩
  obtain ⟨saR0, saR1, saR2a, saR2b, saR2c, saR3a, saR3b, saR3c, saR4a, saR4b, saR4c, rfl⟩ := shapeReport hr
  clear ltaR yaR_0 yaR_1 yaR_2 yaR_3 yaR_4
  have rr := RReport.made hr (Nat.le_refl _) (Below.refl _ _)
  have kaR := (KaR.out).below hb2
  clear KaR
  have KaR := Aside.mk kaR
  clear kaR
  have bel2 := Aside.mk (below_later (BEL.out) hb2)
  clear BEL
  have BEL := bel2
  clear bel2 hb2
  have RsaR := Aside.mk rr
  clear rr hr
  have ltaR : w.heap.size < w2.heap.size := KaR.out.lt
  have yaR_0 : w2.cell? ⟨w.heap.size, 0, none⟩ = some (.int .i64 xaR0) := KaR.out.cell 0
  have yaR_1 : w2.cell? ⟨w.heap.size, 1, none⟩ = some (.int .i64 xaR1) := KaR.out.cell 1
  have yaR_2 : w2.cell? ⟨w.heap.size, 2, none⟩ = some (.slice xaR2a xaR2b xaR2c) := KaR.out.cell 2
  have yaR_3 : w2.cell? ⟨w.heap.size, 3, none⟩ = some (.slice xaR3a xaR3b xaR3c) := KaR.out.cell 3
  have yaR_4 : w2.cell? ⟨w.heap.size, 4, none⟩ = some (.slice xaR4a xaR4b xaR4c) := KaR.out.cell 4
  go_wp2_with fail
  refine (sReportOK aR [.int .i64 saR0, .int .i64 saR1, .slice saR2a saR2b saR2c, .slice saR3a saR3b saR3c, .slice saR4a saR4b saR4c] _ RsaR.out WaR.out).mono ?_
  rintro e w3 ⟨rfl, hb3⟩
  clear ltaR yaR_0 yaR_1 yaR_2 yaR_3 yaR_4
  clear RsaR
  have kaR := (KaR.out).below hb3
  clear KaR
  have KaR := Aside.mk kaR
  clear kaR
  have bel2 := Aside.mk (below_later (BEL.out) hb3)
  clear BEL
  have BEL := bel2
  clear bel2 hb3
  have ltaR : w.heap.size < w3.heap.size := KaR.out.lt
  have yaR_0 : w3.cell? ⟨w.heap.size, 0, none⟩ = some (.int .i64 xaR0) := KaR.out.cell 0
  have yaR_1 : w3.cell? ⟨w.heap.size, 1, none⟩ = some (.int .i64 xaR1) := KaR.out.cell 1
  have yaR_2 : w3.cell? ⟨w.heap.size, 2, none⟩ = some (.slice xaR2a xaR2b xaR2c) := KaR.out.cell 2
  have yaR_3 : w3.cell? ⟨w.heap.size, 3, none⟩ = some (.slice xaR3a xaR3b xaR3c) := KaR.out.cell 3
  have yaR_4 : w3.cell? ⟨w.heap.size, 4, none⟩ = some (.slice xaR4a xaR4b xaR4c) := KaR.out.cell 4
  go_wp2_with fail
  refine (toReport aR [.int .i64 xaR0, .int .i64 xaR1, .slice xaR2a xaR2b xaR2c, .slice xaR3a xaR3b xaR3c, .slice xaR4a xaR4b xaR4c] _ (RReport.old HaR.out BEL.out) WaR.out).mono ?_
  rintro e w4 ⟨cs2, rfl, hr, hb4⟩
  obtain ⟨paR0, paR1, paR2a, paR2b, paR2c, paR3a, paR3b, paR3c, paR4a, paR4b, paR4c, rfl⟩ := shapeReport hr
  clear ltaR yaR_0 yaR_1 yaR_2 yaR_3 yaR_4
  have rr := RReport.made hr (Nat.le_refl _) (Below.refl _ _)
  have kaR := (KaR.out).below hb4
  clear KaR
  have KaR := Aside.mk kaR
  clear kaR
  have bel2 := Aside.mk (below_later (BEL.out) hb4)
  clear BEL
  have BEL := bel2
  clear bel2 hb4
  have RaR := Aside.mk rr
  clear rr hr
  have ltaR : w.heap.size < w4.heap.size := KaR.out.lt
  have yaR_0 : w4.cell? ⟨w.heap.size, 0, none⟩ = some (.int .i64 xaR0) := KaR.out.cell 0
  have yaR_1 : w4.cell? ⟨w.heap.size, 1, none⟩ = some (.int .i64 xaR1) := KaR.out.cell 1
  have yaR_2 : w4.cell? ⟨w.heap.size, 2, none⟩ = some (.slice xaR2a xaR2b xaR2c) := KaR.out.cell 2
  have yaR_3 : w4.cell? ⟨w.heap.size, 3, none⟩ = some (.slice xaR3a xaR3b xaR3c) := KaR.out.cell 3
  have yaR_4 : w4.cell? ⟨w.heap.size, 4, none⟩ = some (.slice xaR4a xaR4b xaR4c) := KaR.out.cell 4
  go_wp2_with fail
  refine (iReportOK aR [.int .i64 paR0, .int .i64 paR1, .slice paR2a paR2b paR2c, .slice paR3a paR3b paR3c, .slice paR4a paR4b paR4c] _ (RReport.old RaR.out (by go_grown)) WaR.out).mono ?_
  rintro e w5 ⟨rfl, hb5⟩
  clear ltaR yaR_0 yaR_1 yaR_2 yaR_3 yaR_4
  have Xl := Aside.mk ((Blk.new w4 67 [.int .i64 paR0, .int .i64 paR1, .slice paR2a paR2b paR2c, .slice paR3a paR3b paR3c, .slice paR4a paR4b paR4c]).below hb5)
  have kaR := ((KaR.out).alloc _).below hb5
  clear KaR
  have KaR := Aside.mk kaR
  clear kaR
  have rx := RReport.old RaR.out (below_later ((Below.refl _ _).alloc (Nat.le_refl _) _) hb5)
  clear RaR
  have RaR := Aside.mk rx
  clear rx
  have bel2 := Aside.mk (below_later (BEL.out.alloc (by have := BEL.out.size; omega) _) hb5)
  clear BEL
  have BEL := bel2
  clear bel2 hb5
  have XaR := Xl
  clear Xl
  have ltaR : w.heap.size < w5.heap.size := KaR.out.lt
  have yaR_0 : w5.cell? ⟨w.heap.size, 0, none⟩ = some (.int .i64 xaR0) := KaR.out.cell 0
  have yaR_1 : w5.cell? ⟨w.heap.size, 1, none⟩ = some (.int .i64 xaR1) := KaR.out.cell 1
  have yaR_2 : w5.cell? ⟨w.heap.size, 2, none⟩ = some (.slice xaR2a xaR2b xaR2c) := KaR.out.cell 2
  have yaR_3 : w5.cell? ⟨w.heap.size, 3, none⟩ = some (.slice xaR3a xaR3b xaR3c) := KaR.out.cell 3
  have yaR_4 : w5.cell? ⟨w.heap.size, 4, none⟩ = some (.slice xaR4a xaR4b xaR4c) := KaR.out.cell 4
  have lzaR : w4.heap.size < w5.heap.size := XaR.out.lt
  have zaR_0 : w5.cell? ⟨w4.heap.size, 0, none⟩ = some (.int .i64 paR0) := XaR.out.cell 0
  have zaR_1 : w5.cell? ⟨w4.heap.size, 1, none⟩ = some (.int .i64 paR1) := XaR.out.cell 1
  have zaR_2 : w5.cell? ⟨w4.heap.size, 2, none⟩ = some (.slice paR2a paR2b paR2c) := XaR.out.cell 2
  have zaR_3 : w5.cell? ⟨w4.heap.size, 3, none⟩ = some (.slice paR3a paR3b paR3c) := XaR.out.cell 3
  have zaR_4 : w5.cell? ⟨w4.heap.size, 4, none⟩ = some (.slice paR4a paR4b paR4c) := XaR.out.cell 4
  go_wp2_with fail
  refine region_all [(0, true), (1, true), (2, false), (3, false), (4, true)] (fun w' => Blk w' (w.heap.size) 61 [.int .i64 xaR0, .int .i64 xaR1, .slice xaR2a xaR2b xaR2c, .slice xaR3a xaR3b xaR3c, .slice xaR4a xaR4b xaR4c] ∧ Blk w' (w4.heap.size) 67 [.int .i64 paR0, .int .i64 paR1, .slice paR2a paR2b paR2c, .slice paR3a paR3b paR3c, .slice paR4a paR4b paR4c]) (by kernel_rfl) (by kernel_rfl) (fun _ _ d _ _ h => by cases d <;> exact h) ⟨KaR.out.drew, XaR.out.drew⟩ ?_
  refine plan_load_blk rfl rfl 67 _ rfl (w4.heap.size) [.int .i64 paR0, .int .i64 paR1, .slice paR2a paR2b paR2c, .slice paR3a paR3b paR3c, .slice paR4a paR4b paR4c] rfl 67 _ (fun _ hS => hS.2) Try.underlying67 rfl (by kernel_rfl) ?_
  refine plan_load_blk rfl rfl 61 _ rfl (w.heap.size) [.int .i64 xaR0, .int .i64 xaR1, .slice xaR2a xaR2b xaR2c, .slice xaR3a xaR3b xaR3c, .slice xaR4a xaR4b xaR4c] rfl 61 _ (fun _ hS => hS.1) Try.underlying61 rfl (by kernel_rfl) ?_
  refine plan_effect rfl rfl (fun K hK => ?_)
  go_simp
  refine (toReport aR [.int .i64 xaR0, .int .i64 xaR1, .slice xaR2a xaR2b xaR2c, .slice xaR3a xaR3b xaR3c, .slice xaR4a xaR4b xaR4c] _ (RReport.old HaR.out BEL.out.drew) WaR.out).mono ?_
  rintro e w6 ⟨cs2, rfl, hr, hb6⟩
  obtain ⟨qaR0, qaR1, qaR2a, qaR2b, qaR2c, qaR3a, qaR3b, qaR3c, qaR4a, qaR4b, qaR4c, rfl⟩ := shapeReport hr
  have rr := RReport.made hr (Nat.le_refl _) (Below.refl _ _)
  clear ltaR yaR_0 yaR_1 yaR_2 yaR_3 yaR_4
  clear lzaR
  clear zaR_0 zaR_1 zaR_2 zaR_3 zaR_4
  have hbd : Below w5.heap.size w5 w6 := ⟨hb6.os, hb6.tape, hb6.output, hb6.size, hb6.block⟩
  clear hb6
  have kaR := (KaR.out).below hbd
  clear KaR
  have KaR := Aside.mk kaR
  clear kaR
  have kx := (XaR.out).below hbd
  clear XaR
  have XaR := Aside.mk kx
  clear kx
  have rx := RReport.old RaR.out (hbd)
  clear RaR
  have RaR := Aside.mk rx
  clear rx
  have bel2 := Aside.mk (below_later (BEL.out) hbd)
  clear BEL
  have BEL := bel2
  clear bel2 hbd
  have Rq := Aside.mk rr
  clear rr hr
  refine hK _ _ ⟨KaR.out, XaR.out⟩ ?_
  clear hK K
  refine plan_effect rfl rfl (fun K hK => ?_)
  go_simp
  refine (eqReport aR [.int .i64 paR0, .int .i64 paR1, .slice paR2a paR2b paR2c, .slice paR3a paR3b paR3c, .slice paR4a paR4b paR4c] [.int .i64 qaR0, .int .i64 qaR1, .slice qaR2a qaR2b qaR2c, .slice qaR3a qaR3b qaR3c, .slice qaR4a qaR4b qaR4c] _ RaR.out Rq.out OaR.out).mono ?_
  rintro e w7 ⟨rfl, hb7⟩
  clear Rq
  have kaR := (KaR.out).below hb7
  clear KaR
  have KaR := Aside.mk kaR
  clear kaR
  have kx := (XaR.out).below hb7
  clear XaR
  have XaR := Aside.mk kx
  clear kx
  have rx := RReport.old RaR.out (hb7)
  clear RaR
  have RaR := Aside.mk rx
  clear rx
  have bel2 := Aside.mk (below_later (BEL.out) hb7)
  clear BEL
  have BEL := bel2
  clear bel2 hb7
  refine hK _ _ ⟨KaR.out, XaR.out⟩ ?_
  clear hK K
  refine plan_yields ?_ rfl rfl (fun w' hS => ?_) ?_
  rotate_left
  · go_simp
    rfl
  refine plan_end ?_
  have ltaR : w.heap.size < w7.heap.size := KaR.out.lt
  have yaR_0 : w7.cell? ⟨w.heap.size, 0, none⟩ = some (.int .i64 xaR0) := KaR.out.cell 0
  have yaR_1 : w7.cell? ⟨w.heap.size, 1, none⟩ = some (.int .i64 xaR1) := KaR.out.cell 1
  have yaR_2 : w7.cell? ⟨w.heap.size, 2, none⟩ = some (.slice xaR2a xaR2b xaR2c) := KaR.out.cell 2
  have yaR_3 : w7.cell? ⟨w.heap.size, 3, none⟩ = some (.slice xaR3a xaR3b xaR3c) := KaR.out.cell 3
  have yaR_4 : w7.cell? ⟨w.heap.size, 4, none⟩ = some (.slice xaR4a xaR4b xaR4c) := KaR.out.cell 4
  have lzaR : w4.heap.size < w7.heap.size := XaR.out.lt
  have zaR_0 : w7.cell? ⟨w4.heap.size, 0, none⟩ = some (.int .i64 paR0) := XaR.out.cell 0
  have zaR_1 : w7.cell? ⟨w4.heap.size, 1, none⟩ = some (.int .i64 paR1) := XaR.out.cell 1
  have zaR_2 : w7.cell? ⟨w4.heap.size, 2, none⟩ = some (.slice paR2a paR2b paR2c) := XaR.out.cell 2
  have zaR_3 : w7.cell? ⟨w4.heap.size, 3, none⟩ = some (.slice paR3a paR3b paR3c) := XaR.out.cell 3
  have zaR_4 : w7.cell? ⟨w4.heap.size, 4, none⟩ = some (.slice paR4a paR4b paR4c) := XaR.out.cell 4
  go_wp2_with fail
  go_ret
  exact ⟨rfl, BEL.out⟩
end Go.Proofs.Ytdldgchkinflmaa.Fn
