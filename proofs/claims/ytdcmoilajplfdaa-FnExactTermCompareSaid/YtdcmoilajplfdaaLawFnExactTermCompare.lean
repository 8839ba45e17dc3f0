/- Walk of the law FnExactTermCompare. Conditions: those of each theorem. -/
import Derived.Test.YtdcmoilajplfdaaTm14
set_option linter.unusedVariables false
namespace Go.Proofs.Ytdcmoilajplfdaa.Fn
open Go.RowKit Go.Proofs.Ytdcmoilajplfdaa.Lib Go.Proofs.Ytdcmoilajplfdaa.Plan
set_option maxRecDepth 100000 in
set_option maxHeartbeats 2000000 in
theorem FnExactTermCompare (a : T) (csa : List Value) (b : T) (csb : List Value) (w : World) (ha : Rec.term.rd False w (Old w) a csa) (oa : Rec.term.ok a) (hb : Rec.term.rd False w (Old w) b csb) (ob : Rec.term.ok b) :
    Calls Try.prog 4 #[.agg csa.toArray, .agg csb.toArray] w fun e w' => e = .returned (.bool true) ∧ Below w.heap.size w w' := by
  obtain ⟨xa0, xa1, xa2, xa3a, xa3b, xa3c, rfl⟩ := shapeTerm ha
  have Ha := Aside.mk ha
  have Oa := Aside.mk oa
  obtain ⟨na, ta⟩ : ∃ n, Rec.term.wt a = n := ⟨_, rfl⟩
  have Ta := Aside.mk ta
  clear ha oa ta
  obtain ⟨xb0, xb1, xb2, xb3a, xb3b, xb3c, rfl⟩ := shapeTerm hb
  have Hb := Aside.mk hb
  have Ob := Aside.mk ob
  obtain ⟨nb, tb⟩ : ∃ n, Rec.term.wt b = n := ⟨_, rfl⟩
  have Tb := Aside.mk tb
  clear hb ob tb
  show Calls Try.prog 4 #[.agg #[.int .i64 xa0, .int .i64 xa1, .string xa2, .slice xa3a xa3b xa3c], .agg #[.int .i64 xb0, .int .i64 xb1, .string xb2, .slice xb3a xb3b xb3c]] w _
  go_enter Try.func4, Try.ntmps4
  go_wp2_with fail
  refine (szTerm a [.int .i64 xa0, .int .i64 xa1, .string xa2, .slice xa3a xa3b xa3c] _ (1048576) (Rec.term.old Ha.out (by go_grown)) Oa.out (by omega) (by omega)).mono ?_
  rintro e w1 ⟨rfl, hb1⟩
  have ka := ((Blk.made w 24 [.int .i64 xa0, .int .i64 xa1, .string xa2, .slice xa3a xa3b xa3c] (g := w.heap.size) (by simp)).alloc _).below hb1
  have Ka := Aside.mk ka
  clear ka
  have kb := (Blk.made (w.alloc _) 24 [.int .i64 xb0, .int .i64 xb1, .string xb2, .slice xb3a xb3b xb3c] (g := w.heap.size + 1) (by simp)).below hb1
  have Kb := Aside.mk kb
  clear kb
  have BEL : Aside (Below w.heap.size w w1) := ⟨below_later (by go_grown) hb1⟩
  clear hb1
  have lta : w.heap.size < w1.heap.size := Ka.out.lt
  have ya_0 : w1.cell? ⟨w.heap.size, 0, none⟩ = some (.int .i64 xa0) := Ka.out.cell 0
  have ya_1 : w1.cell? ⟨w.heap.size, 1, none⟩ = some (.int .i64 xa1) := Ka.out.cell 1
  have ya_2 : w1.cell? ⟨w.heap.size, 2, none⟩ = some (.string xa2) := Ka.out.cell 2
  have ya_3 : w1.cell? ⟨w.heap.size, 3, none⟩ = some (.slice xa3a xa3b xa3c) := Ka.out.cell 3
  have ltb : w.heap.size + 1 < w1.heap.size := Kb.out.lt
  have yb_0 : w1.cell? ⟨w.heap.size + 1, 0, none⟩ = some (.int .i64 xb0) := Kb.out.cell 0
  have yb_1 : w1.cell? ⟨w.heap.size + 1, 1, none⟩ = some (.int .i64 xb1) := Kb.out.cell 1
  have yb_2 : w1.cell? ⟨w.heap.size + 1, 2, none⟩ = some (.string xb2) := Kb.out.cell 2
  have yb_3 : w1.cell? ⟨w.heap.size + 1, 3, none⟩ = some (.slice xb3a xb3b xb3c) := Kb.out.cell 3
  rw [Ta.out]
  by_cases la : (na : Int) ≤ 1048576
  rotate_left
  · rw [szR_no la]
    go_wp2
    go_ret
    exact ⟨rfl, BEL.out⟩
  rw [szR_yes la]
  go_wp2_with fail
  have bel := BEL.out
  refine (szTerm b [.int .i64 xb0, .int .i64 xb1, .string xb2, .slice xb3a xb3b xb3c] _ (1048576 - na) (Rec.term.old Hb.out bel) Ob.out (by omega) (by omega)).mono ?_
  rintro e w2 ⟨rfl, hb2⟩
  clear bel
  have bel2 := Aside.mk (below_later BEL.out hb2)
  clear BEL
  have BEL := bel2
  clear bel2
  clear lta ltb ya_0 ya_1 ya_2 ya_3 yb_0 yb_1 yb_2 yb_3
  have ka := Ka.out.below hb2
  clear Ka
  have Ka := Aside.mk ka
  clear ka
  have kb := Kb.out.below hb2
  clear Kb
  have Kb := Aside.mk kb
  clear kb
  clear hb2
  have lta : w.heap.size < w2.heap.size := Ka.out.lt
  have ya_0 : w2.cell? ⟨w.heap.size, 0, none⟩ = some (.int .i64 xa0) := Ka.out.cell 0
  have ya_1 : w2.cell? ⟨w.heap.size, 1, none⟩ = some (.int .i64 xa1) := Ka.out.cell 1
  have ya_2 : w2.cell? ⟨w.heap.size, 2, none⟩ = some (.string xa2) := Ka.out.cell 2
  have ya_3 : w2.cell? ⟨w.heap.size, 3, none⟩ = some (.slice xa3a xa3b xa3c) := Ka.out.cell 3
  have ltb : w.heap.size + 1 < w2.heap.size := Kb.out.lt
  have yb_0 : w2.cell? ⟨w.heap.size + 1, 0, none⟩ = some (.int .i64 xb0) := Kb.out.cell 0
  have yb_1 : w2.cell? ⟨w.heap.size + 1, 1, none⟩ = some (.int .i64 xb1) := Kb.out.cell 1
  have yb_2 : w2.cell? ⟨w.heap.size + 1, 2, none⟩ = some (.string xb2) := Kb.out.cell 2
  have yb_3 : w2.cell? ⟨w.heap.size + 1, 3, none⟩ = some (.slice xb3a xb3b xb3c) := Kb.out.cell 3
  rw [Tb.out]
  by_cases lb : (nb : Int) ≤ 1048576 - na
  rotate_left
  · rw [szR_no lb]
    go_wp2
    go_ret
    exact ⟨rfl, BEL.out⟩
  rw [szR_yes lb]
  have Wa : Aside (Rec.term.wt a ≤ 1048576) := ⟨by rw [Ta.out]; omega⟩
  have Wb : Aside (Rec.term.wt b ≤ 1048576) := ⟨by rw [Tb.out]; omega⟩
  go_wp2_with fail
  refine region_all [(0, true), (2, true), (1, false), (3, false), (4, false), (5, true), (6, true), (7, true), (8, true), (9, true)] (fun w' => Blk w' (w.heap.size) 24 [.int .i64 xa0, .int .i64 xa1, .string xa2, .slice xa3a xa3b xa3c] ∧ Blk w' (w.heap.size + 1) 24 [.int .i64 xb0, .int .i64 xb1, .string xb2, .slice xb3a xb3b xb3c]) (by kernel_rfl) (by kernel_rfl) (fun _ _ d _ _ h => by cases d <;> exact h) ⟨Ka.out.drew, Kb.out.drew⟩ ?_
  clear lta ltb ya_0 ya_1 ya_2 ya_3 yb_0 yb_1 yb_2 yb_3
  refine plan_load_blk rfl rfl 24 _ rfl (w.heap.size) [.int .i64 xa0, .int .i64 xa1, .string xa2, .slice xa3a xa3b xa3c] rfl 24 _ (fun _ hS => hS.1) Try.underlying24 rfl (by kernel_rfl) ?_
  refine plan_load_blk rfl rfl 24 _ rfl (w.heap.size + 1) [.int .i64 xb0, .int .i64 xb1, .string xb2, .slice xb3a xb3b xb3c] rfl 24 _ (fun _ hS => hS.2) Try.underlying24 rfl (by kernel_rfl) ?_
  refine plan_effect rfl rfl (fun K hK => ?_)
  go_simp
  refine (toTerm a [.int .i64 xa0, .int .i64 xa1, .string xa2, .slice xa3a xa3b xa3c] _ (Rec.term.old Ha.out BEL.out.drew) Wa.out).mono ?_
  rintro e w3 ⟨cs2, rfl, hr, hb3⟩
  obtain ⟨sa0, sa1, sa2, sa3a, sa3b, sa3c, rfl⟩ := shapeTerm hr
  have rr := Rec.term.made hr (Nat.le_refl _) (Below.refl _ _)
  have hbd : Below w2.heap.size w2 w3 := ⟨hb3.os, hb3.tape, hb3.output, hb3.size, hb3.block⟩
  clear hb3
  have ka := (Ka.out).below hbd
  clear Ka
  have Ka := Aside.mk ka
  clear ka
  have kb := (Kb.out).below hbd
  clear Kb
  have Kb := Aside.mk kb
  clear kb
  have bel2 := Aside.mk (below_later (BEL.out) hbd)
  clear BEL
  have BEL := bel2
  clear bel2 hbd
  have Rsa := Aside.mk rr
  clear rr hr
  refine hK _ _ ⟨Ka.out, Kb.out⟩ ?_
  clear hK K
  refine plan_effect rfl rfl (fun K hK => ?_)
  go_simp
  refine (toTerm b [.int .i64 xb0, .int .i64 xb1, .string xb2, .slice xb3a xb3b xb3c] _ (Rec.term.old Hb.out BEL.out) Wb.out).mono ?_
  rintro e w4 ⟨cs2, rfl, hr, hb4⟩
  obtain ⟨sb0, sb1, sb2, sb3a, sb3b, sb3c, rfl⟩ := shapeTerm hr
  have rr := Rec.term.made hr (Nat.le_refl _) (Below.refl _ _)
  have ka := (Ka.out).below hb4
  clear Ka
  have Ka := Aside.mk ka
  clear ka
  have kb := (Kb.out).below hb4
  clear Kb
  have Kb := Aside.mk kb
  clear kb
  have rx := Rec.term.old Rsa.out (hb4)
  clear Rsa
  have Rsa := Aside.mk rx
  clear rx
  have bel2 := Aside.mk (below_later (BEL.out) hb4)
  clear BEL
  have BEL := bel2
  clear bel2 hb4
  have Rsb := Aside.mk rr
  clear rr hr
  refine hK _ _ ⟨Ka.out, Kb.out⟩ ?_
  clear hK K
  refine plan_effect rfl rfl (fun K hK => ?_)
  go_simp
  refine (sTermCompare a [.int .i64 sa0, .int .i64 sa1, .string sa2, .slice sa3a sa3b sa3c] b [.int .i64 sb0, .int .i64 sb1, .string sb2, .slice sb3a sb3b sb3c] _ Rsa.out Wa.out Rsb.out Wb.out).mono ?_
  rintro e w5 ⟨rfl, hb5⟩
  clear Rsa
  clear Rsb
  have ka := (Ka.out).below hb5
  clear Ka
  have Ka := Aside.mk ka
  clear ka
  have kb := (Kb.out).below hb5
  clear Kb
  have Kb := Aside.mk kb
  clear kb
  have bel2 := Aside.mk (below_later (BEL.out) hb5)
  clear BEL
  have BEL := bel2
  clear bel2 hb5
  refine hK _ _ ⟨Ka.out, Kb.out⟩ ?_
  clear hK K
  refine plan_yields ?_ rfl rfl (fun w' hS => ?_) ?_
  rotate_left
  · go_simp
    rfl
  refine plan_yields ?_ rfl rfl (fun w' hS => ?_) ?_
  rotate_left
  · go_simp
    rfl
  refine plan_yields ?_ rfl rfl (fun w' hS => ?_) ?_
  rotate_left
  · go_simp
    rfl
  refine plan_yields ?_ rfl rfl (fun w' hS => ?_) ?_
  rotate_left
  · go_simp
    rfl
  refine plan_yields ?_ rfl rfl (fun w' hS => ?_) ?_
  rotate_left
  · go_simp
    rfl
  refine plan_end ?_
  have lta : w.heap.size < w5.heap.size := Ka.out.lt
  have ya_0 : w5.cell? ⟨w.heap.size, 0, none⟩ = some (.int .i64 xa0) := Ka.out.cell 0
  have ya_1 : w5.cell? ⟨w.heap.size, 1, none⟩ = some (.int .i64 xa1) := Ka.out.cell 1
  have ya_2 : w5.cell? ⟨w.heap.size, 2, none⟩ = some (.string xa2) := Ka.out.cell 2
  have ya_3 : w5.cell? ⟨w.heap.size, 3, none⟩ = some (.slice xa3a xa3b xa3c) := Ka.out.cell 3
  have ltb : w.heap.size + 1 < w5.heap.size := Kb.out.lt
  have yb_0 : w5.cell? ⟨w.heap.size + 1, 0, none⟩ = some (.int .i64 xb0) := Kb.out.cell 0
  have yb_1 : w5.cell? ⟨w.heap.size + 1, 1, none⟩ = some (.int .i64 xb1) := Kb.out.cell 1
  have yb_2 : w5.cell? ⟨w.heap.size + 1, 2, none⟩ = some (.string xb2) := Kb.out.cell 2
  have yb_3 : w5.cell? ⟨w.heap.size + 1, 3, none⟩ = some (.slice xb3a xb3b xb3c) := Kb.out.cell 3
  go_wp2_with fail
  refine (toTerm a [.int .i64 xa0, .int .i64 xa1, .string xa2, .slice xa3a xa3b xa3c] _ (Rec.term.old Ha.out BEL.out) Wa.out).mono ?_
  rintro e w6 ⟨cs2, rfl, hr, hb6⟩
  obtain ⟨pa0, pa1, pa2, pa3a, pa3b, pa3c, rfl⟩ := shapeTerm hr
  clear lta ltb ya_0 ya_1 ya_2 ya_3 yb_0 yb_1 yb_2 yb_3
  have rr := Rec.term.made hr (Nat.le_refl _) (Below.refl _ _)
  have ka := (Ka.out).below hb6
  clear Ka
  have Ka := Aside.mk ka
  clear ka
  have kb := (Kb.out).below hb6
  clear Kb
  have Kb := Aside.mk kb
  clear kb
  have bel2 := Aside.mk (below_later (BEL.out) hb6)
  clear BEL
  have BEL := bel2
  clear bel2 hb6
  have Ra := Aside.mk rr
  clear rr hr
  have lta : w.heap.size < w6.heap.size := Ka.out.lt
  have ya_0 : w6.cell? ⟨w.heap.size, 0, none⟩ = some (.int .i64 xa0) := Ka.out.cell 0
  have ya_1 : w6.cell? ⟨w.heap.size, 1, none⟩ = some (.int .i64 xa1) := Ka.out.cell 1
  have ya_2 : w6.cell? ⟨w.heap.size, 2, none⟩ = some (.string xa2) := Ka.out.cell 2
  have ya_3 : w6.cell? ⟨w.heap.size, 3, none⟩ = some (.slice xa3a xa3b xa3c) := Ka.out.cell 3
  have ltb : w.heap.size + 1 < w6.heap.size := Kb.out.lt
  have yb_0 : w6.cell? ⟨w.heap.size + 1, 0, none⟩ = some (.int .i64 xb0) := Kb.out.cell 0
  have yb_1 : w6.cell? ⟨w.heap.size + 1, 1, none⟩ = some (.int .i64 xb1) := Kb.out.cell 1
  have yb_2 : w6.cell? ⟨w.heap.size + 1, 2, none⟩ = some (.string xb2) := Kb.out.cell 2
  have yb_3 : w6.cell? ⟨w.heap.size + 1, 3, none⟩ = some (.slice xb3a xb3b xb3c) := Kb.out.cell 3
  go_wp2_with fail
  refine (toTerm b [.int .i64 xb0, .int .i64 xb1, .string xb2, .slice xb3a xb3b xb3c] _ (Rec.term.old Hb.out (BEL.out.alloc (by have := BEL.out.size; omega) _)) Wb.out).mono ?_
  rintro e w7 ⟨cs2, rfl, hr, hb7⟩
  obtain ⟨pb0, pb1, pb2, pb3a, pb3b, pb3c, rfl⟩ := shapeTerm hr
  clear lta ltb ya_0 ya_1 ya_2 ya_3 yb_0 yb_1 yb_2 yb_3
  have rr := Rec.term.made hr (Nat.le_refl _) (Below.refl _ _)
  have Xa := Aside.mk ((Blk.new w6 29 [.int .i64 pa0, .int .i64 pa1, .string pa2, .slice pa3a pa3b pa3c]).below hb7)
  have ka := ((Ka.out).alloc _).below hb7
  clear Ka
  have Ka := Aside.mk ka
  clear ka
  have kb := ((Kb.out).alloc _).below hb7
  clear Kb
  have Kb := Aside.mk kb
  clear kb
  have rx := Rec.term.old Ra.out (below_later ((Below.refl _ _).alloc (Nat.le_refl _) _) hb7)
  clear Ra
  have Ra := Aside.mk rx
  clear rx
  have bel2 := Aside.mk (below_later (BEL.out.alloc (by have := BEL.out.size; omega) _) hb7)
  clear BEL
  have BEL := bel2
  clear bel2 hb7
  have Rb := Aside.mk rr
  clear rr hr
  have lta : w.heap.size < w7.heap.size := Ka.out.lt
  have ya_0 : w7.cell? ⟨w.heap.size, 0, none⟩ = some (.int .i64 xa0) := Ka.out.cell 0
  have ya_1 : w7.cell? ⟨w.heap.size, 1, none⟩ = some (.int .i64 xa1) := Ka.out.cell 1
  have ya_2 : w7.cell? ⟨w.heap.size, 2, none⟩ = some (.string xa2) := Ka.out.cell 2
  have ya_3 : w7.cell? ⟨w.heap.size, 3, none⟩ = some (.slice xa3a xa3b xa3c) := Ka.out.cell 3
  have ltb : w.heap.size + 1 < w7.heap.size := Kb.out.lt
  have yb_0 : w7.cell? ⟨w.heap.size + 1, 0, none⟩ = some (.int .i64 xb0) := Kb.out.cell 0
  have yb_1 : w7.cell? ⟨w.heap.size + 1, 1, none⟩ = some (.int .i64 xb1) := Kb.out.cell 1
  have yb_2 : w7.cell? ⟨w.heap.size + 1, 2, none⟩ = some (.string xb2) := Kb.out.cell 2
  have yb_3 : w7.cell? ⟨w.heap.size + 1, 3, none⟩ = some (.slice xb3a xb3b xb3c) := Kb.out.cell 3
  have lza : w6.heap.size < w7.heap.size := Xa.out.lt
  have za_0 : w7.cell? ⟨w6.heap.size, 0, none⟩ = some (.int .i64 pa0) := Xa.out.cell 0
  have za_1 : w7.cell? ⟨w6.heap.size, 1, none⟩ = some (.int .i64 pa1) := Xa.out.cell 1
  have za_2 : w7.cell? ⟨w6.heap.size, 2, none⟩ = some (.string pa2) := Xa.out.cell 2
  have za_3 : w7.cell? ⟨w6.heap.size, 3, none⟩ = some (.slice pa3a pa3b pa3c) := Xa.out.cell 3
  go_wp2_with fail
  refine (iTermCompare a [.int .i64 pa0, .int .i64 pa1, .string pa2, .slice pa3a pa3b pa3c] b [.int .i64 pb0, .int .i64 pb1, .string pb2, .slice pb3a pb3b pb3c] _ (Rec.term.old Ra.out (by go_grown)) Wa.out (Rec.term.old Rb.out (by go_grown)) Wb.out).mono ?_
  rintro e w8 ⟨rfl, hb8⟩
  clear lta ltb ya_0 ya_1 ya_2 ya_3 yb_0 yb_1 yb_2 yb_3
  clear lza
  clear za_0 za_1 za_2 za_3
  have Xl := Aside.mk ((Blk.new w7 29 [.int .i64 pb0, .int .i64 pb1, .string pb2, .slice pb3a pb3b pb3c]).below hb8)
  have ka := ((Ka.out).alloc _).below hb8
  clear Ka
  have Ka := Aside.mk ka
  clear ka
  have kb := ((Kb.out).alloc _).below hb8
  clear Kb
  have Kb := Aside.mk kb
  clear kb
  have kx := ((Xa.out).alloc _).below hb8
  clear Xa
  have Xa := Aside.mk kx
  clear kx
  have rx := Rec.term.old Ra.out (below_later ((Below.refl _ _).alloc (Nat.le_refl _) _) hb8)
  clear Ra
  have Ra := Aside.mk rx
  clear rx
  have rx := Rec.term.old Rb.out (below_later ((Below.refl _ _).alloc (Nat.le_refl _) _) hb8)
  clear Rb
  have Rb := Aside.mk rx
  clear rx
  have bel2 := Aside.mk (below_later (BEL.out.alloc (by have := BEL.out.size; omega) _) hb8)
  clear BEL
  have BEL := bel2
  clear bel2 hb8
  have Xb := Xl
  clear Xl
  have lta : w.heap.size < w8.heap.size := Ka.out.lt
  have ya_0 : w8.cell? ⟨w.heap.size, 0, none⟩ = some (.int .i64 xa0) := Ka.out.cell 0
  have ya_1 : w8.cell? ⟨w.heap.size, 1, none⟩ = some (.int .i64 xa1) := Ka.out.cell 1
  have ya_2 : w8.cell? ⟨w.heap.size, 2, none⟩ = some (.string xa2) := Ka.out.cell 2
  have ya_3 : w8.cell? ⟨w.heap.size, 3, none⟩ = some (.slice xa3a xa3b xa3c) := Ka.out.cell 3
  have ltb : w.heap.size + 1 < w8.heap.size := Kb.out.lt
  have yb_0 : w8.cell? ⟨w.heap.size + 1, 0, none⟩ = some (.int .i64 xb0) := Kb.out.cell 0
  have yb_1 : w8.cell? ⟨w.heap.size + 1, 1, none⟩ = some (.int .i64 xb1) := Kb.out.cell 1
  have yb_2 : w8.cell? ⟨w.heap.size + 1, 2, none⟩ = some (.string xb2) := Kb.out.cell 2
  have yb_3 : w8.cell? ⟨w.heap.size + 1, 3, none⟩ = some (.slice xb3a xb3b xb3c) := Kb.out.cell 3
  have lza : w6.heap.size < w8.heap.size := Xa.out.lt
  have za_0 : w8.cell? ⟨w6.heap.size, 0, none⟩ = some (.int .i64 pa0) := Xa.out.cell 0
  have za_1 : w8.cell? ⟨w6.heap.size, 1, none⟩ = some (.int .i64 pa1) := Xa.out.cell 1
  have za_2 : w8.cell? ⟨w6.heap.size, 2, none⟩ = some (.string pa2) := Xa.out.cell 2
  have za_3 : w8.cell? ⟨w6.heap.size, 3, none⟩ = some (.slice pa3a pa3b pa3c) := Xa.out.cell 3
  have lzb : w7.heap.size < w8.heap.size := Xb.out.lt
  have zb_0 : w8.cell? ⟨w7.heap.size, 0, none⟩ = some (.int .i64 pb0) := Xb.out.cell 0
  have zb_1 : w8.cell? ⟨w7.heap.size, 1, none⟩ = some (.int .i64 pb1) := Xb.out.cell 1
  have zb_2 : w8.cell? ⟨w7.heap.size, 2, none⟩ = some (.string pb2) := Xb.out.cell 2
  have zb_3 : w8.cell? ⟨w7.heap.size, 3, none⟩ = some (.slice pb3a pb3b pb3c) := Xb.out.cell 3
  go_wp2_with fail
  refine region_all [(0, true), (1, true), (2, false), (3, false), (4, true)] (fun w' => Blk w' (w.heap.size) 24 [.int .i64 xa0, .int .i64 xa1, .string xa2, .slice xa3a xa3b xa3c] ∧ Blk w' (w.heap.size + 1) 24 [.int .i64 xb0, .int .i64 xb1, .string xb2, .slice xb3a xb3b xb3c] ∧ Blk w' (w6.heap.size) 29 [.int .i64 pa0, .int .i64 pa1, .string pa2, .slice pa3a pa3b pa3c] ∧ Blk w' (w7.heap.size) 29 [.int .i64 pb0, .int .i64 pb1, .string pb2, .slice pb3a pb3b pb3c]) (by kernel_rfl) (by kernel_rfl) (fun _ _ d _ _ h => by cases d <;> exact h) ⟨Ka.out.drew, Kb.out.drew, Xa.out.drew, Xb.out.drew⟩ ?_
  refine plan_load_blk rfl rfl 29 _ rfl (w6.heap.size) [.int .i64 pa0, .int .i64 pa1, .string pa2, .slice pa3a pa3b pa3c] rfl 29 _ (fun _ hS => hS.2.2.1) Try.underlying29 rfl (by kernel_rfl) ?_
  refine plan_load_blk rfl rfl 24 _ rfl (w.heap.size) [.int .i64 xa0, .int .i64 xa1, .string xa2, .slice xa3a xa3b xa3c] rfl 24 _ (fun _ hS => hS.1) Try.underlying24 rfl (by kernel_rfl) ?_
  refine plan_effect rfl rfl (fun K hK => ?_)
  go_simp
  refine (toTerm a [.int .i64 xa0, .int .i64 xa1, .string xa2, .slice xa3a xa3b xa3c] _ (Rec.term.old Ha.out BEL.out.drew) Wa.out).mono ?_
  rintro e w9 ⟨cs2, rfl, hr, hb9⟩
  obtain ⟨qa0, qa1, qa2, qa3a, qa3b, qa3c, rfl⟩ := shapeTerm hr
  have rr := Rec.term.made hr (Nat.le_refl _) (Below.refl _ _)
  clear lta ltb ya_0 ya_1 ya_2 ya_3 yb_0 yb_1 yb_2 yb_3
  clear lza lzb
  clear za_0 za_1 za_2 za_3 zb_0 zb_1 zb_2 zb_3
  have hbd : Below w8.heap.size w8 w9 := ⟨hb9.os, hb9.tape, hb9.output, hb9.size, hb9.block⟩
  clear hb9
  have ka := (Ka.out).below hbd
  clear Ka
  have Ka := Aside.mk ka
  clear ka
  have kb := (Kb.out).below hbd
  clear Kb
  have Kb := Aside.mk kb
  clear kb
  have kx := (Xa.out).below hbd
  clear Xa
  have Xa := Aside.mk kx
  clear kx
  have kx := (Xb.out).below hbd
  clear Xb
  have Xb := Aside.mk kx
  clear kx
  have rx := Rec.term.old Ra.out (hbd)
  clear Ra
  have Ra := Aside.mk rx
  clear rx
  have rx := Rec.term.old Rb.out (hbd)
  clear Rb
  have Rb := Aside.mk rx
  clear rx
  have bel2 := Aside.mk (below_later (BEL.out) hbd)
  clear BEL
  have BEL := bel2
  clear bel2 hbd
  have Rq := Aside.mk rr
  clear rr hr
  refine hK _ _ ⟨Ka.out, Kb.out, Xa.out, Xb.out⟩ ?_
  clear hK K
  refine plan_effect rfl rfl (fun K hK => ?_)
  go_simp
  refine (eqTerm a [.int .i64 pa0, .int .i64 pa1, .string pa2, .slice pa3a pa3b pa3c] [.int .i64 qa0, .int .i64 qa1, .string qa2, .slice qa3a qa3b qa3c] _ Ra.out Rq.out Oa.out).mono ?_
  rintro e w10 ⟨rfl, hb10⟩
  clear Rq
  have ka := (Ka.out).below hb10
  clear Ka
  have Ka := Aside.mk ka
  clear ka
  have kb := (Kb.out).below hb10
  clear Kb
  have Kb := Aside.mk kb
  clear kb
  have kx := (Xa.out).below hb10
  clear Xa
  have Xa := Aside.mk kx
  clear kx
  have kx := (Xb.out).below hb10
  clear Xb
  have Xb := Aside.mk kx
  clear kx
  have rx := Rec.term.old Ra.out (hb10)
  clear Ra
  have Ra := Aside.mk rx
  clear rx
  have rx := Rec.term.old Rb.out (hb10)
  clear Rb
  have Rb := Aside.mk rx
  clear rx
  have bel2 := Aside.mk (below_later (BEL.out) hb10)
  clear BEL
  have BEL := bel2
  clear bel2 hb10
  refine hK _ _ ⟨Ka.out, Kb.out, Xa.out, Xb.out⟩ ?_
  clear hK K
  refine plan_yields ?_ rfl rfl (fun w' hS => ?_) ?_
  rotate_left
  · go_simp
    rfl
  refine plan_end ?_
  have lta : w.heap.size < w10.heap.size := Ka.out.lt
  have ya_0 : w10.cell? ⟨w.heap.size, 0, none⟩ = some (.int .i64 xa0) := Ka.out.cell 0
  have ya_1 : w10.cell? ⟨w.heap.size, 1, none⟩ = some (.int .i64 xa1) := Ka.out.cell 1
  have ya_2 : w10.cell? ⟨w.heap.size, 2, none⟩ = some (.string xa2) := Ka.out.cell 2
  have ya_3 : w10.cell? ⟨w.heap.size, 3, none⟩ = some (.slice xa3a xa3b xa3c) := Ka.out.cell 3
  have ltb : w.heap.size + 1 < w10.heap.size := Kb.out.lt
  have yb_0 : w10.cell? ⟨w.heap.size + 1, 0, none⟩ = some (.int .i64 xb0) := Kb.out.cell 0
  have yb_1 : w10.cell? ⟨w.heap.size + 1, 1, none⟩ = some (.int .i64 xb1) := Kb.out.cell 1
  have yb_2 : w10.cell? ⟨w.heap.size + 1, 2, none⟩ = some (.string xb2) := Kb.out.cell 2
  have yb_3 : w10.cell? ⟨w.heap.size + 1, 3, none⟩ = some (.slice xb3a xb3b xb3c) := Kb.out.cell 3
  have lza : w6.heap.size < w10.heap.size := Xa.out.lt
  have za_0 : w10.cell? ⟨w6.heap.size, 0, none⟩ = some (.int .i64 pa0) := Xa.out.cell 0
  have za_1 : w10.cell? ⟨w6.heap.size, 1, none⟩ = some (.int .i64 pa1) := Xa.out.cell 1
  have za_2 : w10.cell? ⟨w6.heap.size, 2, none⟩ = some (.string pa2) := Xa.out.cell 2
  have za_3 : w10.cell? ⟨w6.heap.size, 3, none⟩ = some (.slice pa3a pa3b pa3c) := Xa.out.cell 3
  have lzb : w7.heap.size < w10.heap.size := Xb.out.lt
  have zb_0 : w10.cell? ⟨w7.heap.size, 0, none⟩ = some (.int .i64 pb0) := Xb.out.cell 0
  have zb_1 : w10.cell? ⟨w7.heap.size, 1, none⟩ = some (.int .i64 pb1) := Xb.out.cell 1
  have zb_2 : w10.cell? ⟨w7.heap.size, 2, none⟩ = some (.string pb2) := Xb.out.cell 2
  have zb_3 : w10.cell? ⟨w7.heap.size, 3, none⟩ = some (.slice pb3a pb3b pb3c) := Xb.out.cell 3
  go_wp2_with fail
  refine region_all [(0, true), (1, true), (2, false), (3, false), (4, true)] (fun w' => Blk w' (w.heap.size) 24 [.int .i64 xa0, .int .i64 xa1, .string xa2, .slice xa3a xa3b xa3c] ∧ Blk w' (w.heap.size + 1) 24 [.int .i64 xb0, .int .i64 xb1, .string xb2, .slice xb3a xb3b xb3c] ∧ Blk w' (w6.heap.size) 29 [.int .i64 pa0, .int .i64 pa1, .string pa2, .slice pa3a pa3b pa3c] ∧ Blk w' (w7.heap.size) 29 [.int .i64 pb0, .int .i64 pb1, .string pb2, .slice pb3a pb3b pb3c]) (by kernel_rfl) (by kernel_rfl) (fun _ _ d _ _ h => by cases d <;> exact h) ⟨Ka.out.drew, Kb.out.drew, Xa.out.drew, Xb.out.drew⟩ ?_
  refine plan_load_blk rfl rfl 29 _ rfl (w7.heap.size) [.int .i64 pb0, .int .i64 pb1, .string pb2, .slice pb3a pb3b pb3c] rfl 29 _ (fun _ hS => hS.2.2.2) Try.underlying29 rfl (by kernel_rfl) ?_
  refine plan_load_blk rfl rfl 24 _ rfl (w.heap.size + 1) [.int .i64 xb0, .int .i64 xb1, .string xb2, .slice xb3a xb3b xb3c] rfl 24 _ (fun _ hS => hS.2.1) Try.underlying24 rfl (by kernel_rfl) ?_
  refine plan_effect rfl rfl (fun K hK => ?_)
  go_simp
  refine (toTerm b [.int .i64 xb0, .int .i64 xb1, .string xb2, .slice xb3a xb3b xb3c] _ (Rec.term.old Hb.out BEL.out.drew) Wb.out).mono ?_
  rintro e w11 ⟨cs2, rfl, hr, hb11⟩
  obtain ⟨qb0, qb1, qb2, qb3a, qb3b, qb3c, rfl⟩ := shapeTerm hr
  have rr := Rec.term.made hr (Nat.le_refl _) (Below.refl _ _)
  clear lta ltb ya_0 ya_1 ya_2 ya_3 yb_0 yb_1 yb_2 yb_3
  clear lza lzb
  clear za_0 za_1 za_2 za_3 zb_0 zb_1 zb_2 zb_3
  have hbd : Below w10.heap.size w10 w11 := ⟨hb11.os, hb11.tape, hb11.output, hb11.size, hb11.block⟩
  clear hb11
  have ka := (Ka.out).below hbd
  clear Ka
  have Ka := Aside.mk ka
  clear ka
  have kb := (Kb.out).below hbd
  clear Kb
  have Kb := Aside.mk kb
  clear kb
  have kx := (Xa.out).below hbd
  clear Xa
  have Xa := Aside.mk kx
  clear kx
  have kx := (Xb.out).below hbd
  clear Xb
  have Xb := Aside.mk kx
  clear kx
  have rx := Rec.term.old Ra.out (hbd)
  clear Ra
  have Ra := Aside.mk rx
  clear rx
  have rx := Rec.term.old Rb.out (hbd)
  clear Rb
  have Rb := Aside.mk rx
  clear rx
  have bel2 := Aside.mk (below_later (BEL.out) hbd)
  clear BEL
  have BEL := bel2
  clear bel2 hbd
  have Rq := Aside.mk rr
  clear rr hr
  refine hK _ _ ⟨Ka.out, Kb.out, Xa.out, Xb.out⟩ ?_
  clear hK K
  refine plan_effect rfl rfl (fun K hK => ?_)
  go_simp
  refine (eqTerm b [.int .i64 pb0, .int .i64 pb1, .string pb2, .slice pb3a pb3b pb3c] [.int .i64 qb0, .int .i64 qb1, .string qb2, .slice qb3a qb3b qb3c] _ Rb.out Rq.out Ob.out).mono ?_
  rintro e w12 ⟨rfl, hb12⟩
  clear Rq
  have ka := (Ka.out).below hb12
  clear Ka
  have Ka := Aside.mk ka
  clear ka
  have kb := (Kb.out).below hb12
  clear Kb
  have Kb := Aside.mk kb
  clear kb
  have kx := (Xa.out).below hb12
  clear Xa
  have Xa := Aside.mk kx
  clear kx
  have kx := (Xb.out).below hb12
  clear Xb
  have Xb := Aside.mk kx
  clear kx
  have rx := Rec.term.old Ra.out (hb12)
  clear Ra
  have Ra := Aside.mk rx
  clear rx
  have rx := Rec.term.old Rb.out (hb12)
  clear Rb
  have Rb := Aside.mk rx
  clear rx
  have bel2 := Aside.mk (below_later (BEL.out) hb12)
  clear BEL
  have BEL := bel2
  clear bel2 hb12
  refine hK _ _ ⟨Ka.out, Kb.out, Xa.out, Xb.out⟩ ?_
  clear hK K
  refine plan_yields ?_ rfl rfl (fun w' hS => ?_) ?_
  rotate_left
  · go_simp
    rfl
  refine plan_end ?_
  have lta : w.heap.size < w12.heap.size := Ka.out.lt
  have ya_0 : w12.cell? ⟨w.heap.size, 0, none⟩ = some (.int .i64 xa0) := Ka.out.cell 0
  have ya_1 : w12.cell? ⟨w.heap.size, 1, none⟩ = some (.int .i64 xa1) := Ka.out.cell 1
  have ya_2 : w12.cell? ⟨w.heap.size, 2, none⟩ = some (.string xa2) := Ka.out.cell 2
  have ya_3 : w12.cell? ⟨w.heap.size, 3, none⟩ = some (.slice xa3a xa3b xa3c) := Ka.out.cell 3
  have ltb : w.heap.size + 1 < w12.heap.size := Kb.out.lt
  have yb_0 : w12.cell? ⟨w.heap.size + 1, 0, none⟩ = some (.int .i64 xb0) := Kb.out.cell 0
  have yb_1 : w12.cell? ⟨w.heap.size + 1, 1, none⟩ = some (.int .i64 xb1) := Kb.out.cell 1
  have yb_2 : w12.cell? ⟨w.heap.size + 1, 2, none⟩ = some (.string xb2) := Kb.out.cell 2
  have yb_3 : w12.cell? ⟨w.heap.size + 1, 3, none⟩ = some (.slice xb3a xb3b xb3c) := Kb.out.cell 3
  have lza : w6.heap.size < w12.heap.size := Xa.out.lt
  have za_0 : w12.cell? ⟨w6.heap.size, 0, none⟩ = some (.int .i64 pa0) := Xa.out.cell 0
  have za_1 : w12.cell? ⟨w6.heap.size, 1, none⟩ = some (.int .i64 pa1) := Xa.out.cell 1
  have za_2 : w12.cell? ⟨w6.heap.size, 2, none⟩ = some (.string pa2) := Xa.out.cell 2
  have za_3 : w12.cell? ⟨w6.heap.size, 3, none⟩ = some (.slice pa3a pa3b pa3c) := Xa.out.cell 3
  have lzb : w7.heap.size < w12.heap.size := Xb.out.lt
  have zb_0 : w12.cell? ⟨w7.heap.size, 0, none⟩ = some (.int .i64 pb0) := Xb.out.cell 0
  have zb_1 : w12.cell? ⟨w7.heap.size, 1, none⟩ = some (.int .i64 pb1) := Xb.out.cell 1
  have zb_2 : w12.cell? ⟨w7.heap.size, 2, none⟩ = some (.string pb2) := Xb.out.cell 2
  have zb_3 : w12.cell? ⟨w7.heap.size, 3, none⟩ = some (.slice pb3a pb3b pb3c) := Xb.out.cell 3
  go_wp2_with fail
  go_ret
  exact ⟨rfl, BEL.out⟩
end Go.Proofs.Ytdcmoilajplfdaa.Fn
