/- Walk of the law FnExactTabOK. Conditions: those of each theorem. -/
import Derived.Test.YtdcmoilajplfdaaTab2
import Derived.Test.YtdcmoilajplfdaaTab3
set_option linter.unusedVariables false
namespace Go.Proofs.Ytdcmoilajplfdaa.Fn
open Go.RowKit Go.Proofs.Ytdcmoilajplfdaa.Lib Go.Proofs.Ytdcmoilajplfdaa.Plan
set_option maxRecDepth 100000 in
set_option maxHeartbeats 2000000 in
theorem FnExactTabOK (a : ATable) (csa : List Value) (w : World) (ha : RTable.rd False w (Old w) a csa) (oa : RTable.ok a) :
    Calls Try.prog 7 #[.agg csa.toArray] w fun e w' => e = .returned (.bool true) ∧ Below w.heap.size w w' := by
  obtain ⟨xa0, xa1a, xa1b, xa1c, rfl⟩ := shapeTable ha
  have Ha := Aside.mk ha
  have Oa := Aside.mk oa
  obtain ⟨na, ta⟩ : ∃ n, RTable.wt a = n := ⟨_, rfl⟩
  have Ta := Aside.mk ta
  clear ha oa ta
  show Calls Try.prog 7 #[.agg #[.int .i64 xa0, .slice xa1a xa1b xa1c]] w _
  go_enter Try.func7, Try.ntmps7
  go_wp2_with fail
  refine (szTable a [.int .i64 xa0, .slice xa1a xa1b xa1c] _ (1048576) (RTable.old Ha.out (by go_grown)) Oa.out (by omega) (by omega)).mono ?_
  rintro e w1 ⟨rfl, hb1⟩
  have ka := (Blk.made w 38 [.int .i64 xa0, .slice xa1a xa1b xa1c] (g := w.heap.size) (by simp)).below hb1
  have Ka := Aside.mk ka
  clear ka
  have BEL : Aside (Below w.heap.size w w1) := ⟨below_later (by go_grown) hb1⟩
  clear hb1
  have lta : w.heap.size < w1.heap.size := Ka.out.lt
  have ya_0 : w1.cell? ⟨w.heap.size, 0, none⟩ = some (.int .i64 xa0) := Ka.out.cell 0
  have ya_1 : w1.cell? ⟨w.heap.size, 1, none⟩ = some (.slice xa1a xa1b xa1c) := Ka.out.cell 1
  rw [Ta.out]
  by_cases la : (na : Int) ≤ 1048576
  rotate_left
  · rw [szR_no la]
    go_wp2
    go_ret
    exact ⟨rfl, BEL.out⟩
  rw [szR_yes la]
  have Wa : Aside (RTable.wt a ≤ 1048576) := ⟨by rw [Ta.out]; omega⟩
  go_wp2_with fail
  refine (toTable a [.int .i64 xa0, .slice xa1a xa1b xa1c] _ (RTable.old Ha.out (by first | exact BEL.out | exact BEL.out.alloc (by have := BEL.out.size; omega) _)) Wa.out).mono ?_
  rintro e w2 ⟨cs2, rfl, hr, hb2⟩
  obtain ⟨sa0, sa1a, sa1b, sa1c, rfl⟩ := shapeTable hr
  clear lta ya_0 ya_1
  have rr := RTable.made hr (Nat.le_refl _) (Below.refl _ _)
  have ka := (Ka.out).below hb2
  clear Ka
  have Ka := Aside.mk ka
  clear ka
  have bel2 := Aside.mk (below_later (BEL.out) hb2)
  clear BEL
  have BEL := bel2
  clear bel2 hb2
  have Rsa := Aside.mk rr
  clear rr hr
  have lta : w.heap.size < w2.heap.size := Ka.out.lt
  have ya_0 : w2.cell? ⟨w.heap.size, 0, none⟩ = some (.int .i64 xa0) := Ka.out.cell 0
  have ya_1 : w2.cell? ⟨w.heap.size, 1, none⟩ = some (.slice xa1a xa1b xa1c) := Ka.out.cell 1
  go_wp2_with fail
  refine (sTabOK a [.int .i64 sa0, .slice sa1a sa1b sa1c] _ Rsa.out Wa.out).mono ?_
  rintro e w3 ⟨rfl, hb3⟩
  clear lta ya_0 ya_1
  clear Rsa
  have ka := (Ka.out).below hb3
  clear Ka
  have Ka := Aside.mk ka
  clear ka
  have bel2 := Aside.mk (below_later (BEL.out) hb3)
  clear BEL
  have BEL := bel2
  clear bel2 hb3
  have lta : w.heap.size < w3.heap.size := Ka.out.lt
  have ya_0 : w3.cell? ⟨w.heap.size, 0, none⟩ = some (.int .i64 xa0) := Ka.out.cell 0
  have ya_1 : w3.cell? ⟨w.heap.size, 1, none⟩ = some (.slice xa1a xa1b xa1c) := Ka.out.cell 1
  go_wp2_with fail
  refine (toTable a [.int .i64 xa0, .slice xa1a xa1b xa1c] _ (RTable.old Ha.out BEL.out) Wa.out).mono ?_
  rintro e w4 ⟨cs2, rfl, hr, hb4⟩
  obtain ⟨pa0, pa1a, pa1b, pa1c, rfl⟩ := shapeTable hr
  clear lta ya_0 ya_1
  have rr := RTable.made hr (Nat.le_refl _) (Below.refl _ _)
  have ka := (Ka.out).below hb4
  clear Ka
  have Ka := Aside.mk ka
  clear ka
  have bel2 := Aside.mk (below_later (BEL.out) hb4)
  clear BEL
  have BEL := bel2
  clear bel2 hb4
  have Ra := Aside.mk rr
  clear rr hr
  have lta : w.heap.size < w4.heap.size := Ka.out.lt
  have ya_0 : w4.cell? ⟨w.heap.size, 0, none⟩ = some (.int .i64 xa0) := Ka.out.cell 0
  have ya_1 : w4.cell? ⟨w.heap.size, 1, none⟩ = some (.slice xa1a xa1b xa1c) := Ka.out.cell 1
  go_wp2_with fail
  refine (iTabOK a [.int .i64 pa0, .slice pa1a pa1b pa1c] _ (RTable.old Ra.out (by go_grown)) Wa.out).mono ?_
  rintro e w5 ⟨rfl, hb5⟩
  clear lta ya_0 ya_1
  have Xl := Aside.mk ((Blk.new w4 42 [.int .i64 pa0, .slice pa1a pa1b pa1c]).below hb5)
  have ka := ((Ka.out).alloc _).below hb5
  clear Ka
  have Ka := Aside.mk ka
  clear ka
  have rx := RTable.old Ra.out (below_later ((Below.refl _ _).alloc (Nat.le_refl _) _) hb5)
  clear Ra
  have Ra := Aside.mk rx
  clear rx
  have bel2 := Aside.mk (below_later (BEL.out.alloc (by have := BEL.out.size; omega) _) hb5)
  clear BEL
  have BEL := bel2
  clear bel2 hb5
  have Xa := Xl
  clear Xl
  have lta : w.heap.size < w5.heap.size := Ka.out.lt
  have ya_0 : w5.cell? ⟨w.heap.size, 0, none⟩ = some (.int .i64 xa0) := Ka.out.cell 0
  have ya_1 : w5.cell? ⟨w.heap.size, 1, none⟩ = some (.slice xa1a xa1b xa1c) := Ka.out.cell 1
  have lza : w4.heap.size < w5.heap.size := Xa.out.lt
  have za_0 : w5.cell? ⟨w4.heap.size, 0, none⟩ = some (.int .i64 pa0) := Xa.out.cell 0
  have za_1 : w5.cell? ⟨w4.heap.size, 1, none⟩ = some (.slice pa1a pa1b pa1c) := Xa.out.cell 1
  go_wp2_with fail
  refine region_all [(0, true), (1, true), (2, false), (3, false), (4, true)] (fun w' => Blk w' (w.heap.size) 38 [.int .i64 xa0, .slice xa1a xa1b xa1c] ∧ Blk w' (w4.heap.size) 42 [.int .i64 pa0, .slice pa1a pa1b pa1c]) (by kernel_rfl) (by kernel_rfl) (fun _ _ d _ _ h => by cases d <;> exact h) ⟨Ka.out.drew, Xa.out.drew⟩ ?_
  refine plan_load_blk rfl rfl 42 _ rfl (w4.heap.size) [.int .i64 pa0, .slice pa1a pa1b pa1c] rfl 42 _ (fun _ hS => hS.2) Try.underlying42 rfl (by kernel_rfl) ?_
  refine plan_load_blk rfl rfl 38 _ rfl (w.heap.size) [.int .i64 xa0, .slice xa1a xa1b xa1c] rfl 38 _ (fun _ hS => hS.1) Try.underlying38 rfl (by kernel_rfl) ?_
  refine plan_effect rfl rfl (fun K hK => ?_)
  go_simp
  refine (toTable a [.int .i64 xa0, .slice xa1a xa1b xa1c] _ (RTable.old Ha.out BEL.out.drew) Wa.out).mono ?_
  rintro e w6 ⟨cs2, rfl, hr, hb6⟩
  obtain ⟨qa0, qa1a, qa1b, qa1c, rfl⟩ := shapeTable hr
  have rr := RTable.made hr (Nat.le_refl _) (Below.refl _ _)
  clear lta ya_0 ya_1
  clear lza
  clear za_0 za_1
  have hbd : Below w5.heap.size w5 w6 := ⟨hb6.os, hb6.tape, hb6.output, hb6.size, hb6.block⟩
  clear hb6
  have ka := (Ka.out).below hbd
  clear Ka
  have Ka := Aside.mk ka
  clear ka
  have kx := (Xa.out).below hbd
  clear Xa
  have Xa := Aside.mk kx
  clear kx
  have rx := RTable.old Ra.out (hbd)
  clear Ra
  have Ra := Aside.mk rx
  clear rx
  have bel2 := Aside.mk (below_later (BEL.out) hbd)
  clear BEL
  have BEL := bel2
  clear bel2 hbd
  have Rq := Aside.mk rr
  clear rr hr
  refine hK _ _ ⟨Ka.out, Xa.out⟩ ?_
  clear hK K
  refine plan_effect rfl rfl (fun K hK => ?_)
  go_simp
  refine (eqTable a [.int .i64 pa0, .slice pa1a pa1b pa1c] [.int .i64 qa0, .slice qa1a qa1b qa1c] _ Ra.out Rq.out Oa.out).mono ?_
  rintro e w7 ⟨rfl, hb7⟩
  clear Rq
  have ka := (Ka.out).below hb7
  clear Ka
  have Ka := Aside.mk ka
  clear ka
  have kx := (Xa.out).below hb7
  clear Xa
  have Xa := Aside.mk kx
  clear kx
  have rx := RTable.old Ra.out (hb7)
  clear Ra
  have Ra := Aside.mk rx
  clear rx
  have bel2 := Aside.mk (below_later (BEL.out) hb7)
  clear BEL
  have BEL := bel2
  clear bel2 hb7
  refine hK _ _ ⟨Ka.out, Xa.out⟩ ?_
  clear hK K
  refine plan_yields ?_ rfl rfl (fun w' hS => ?_) ?_
  rotate_left
  · go_simp
    rfl
  refine plan_end ?_
  have lta : w.heap.size < w7.heap.size := Ka.out.lt
  have ya_0 : w7.cell? ⟨w.heap.size, 0, none⟩ = some (.int .i64 xa0) := Ka.out.cell 0
  have ya_1 : w7.cell? ⟨w.heap.size, 1, none⟩ = some (.slice xa1a xa1b xa1c) := Ka.out.cell 1
  have lza : w4.heap.size < w7.heap.size := Xa.out.lt
  have za_0 : w7.cell? ⟨w4.heap.size, 0, none⟩ = some (.int .i64 pa0) := Xa.out.cell 0
  have za_1 : w7.cell? ⟨w4.heap.size, 1, none⟩ = some (.slice pa1a pa1b pa1c) := Xa.out.cell 1
  go_wp2_with fail
  go_ret
  exact ⟨rfl, BEL.out⟩
end Go.Proofs.Ytdcmoilajplfdaa.Fn
