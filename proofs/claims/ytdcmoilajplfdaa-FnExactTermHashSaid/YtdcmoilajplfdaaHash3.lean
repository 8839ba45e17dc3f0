/- TermHash of both sides. Conditions: those of each theorem. -/
import Derived.Test.YtdcmoilajplfdaaHash2
set_option linter.unusedVariables false
namespace Go.Proofs.Ytdcmoilajplfdaa.Fn
open Go.RowKit Go.Proofs.Ytdcmoilajplfdaa.Lib Go.Proofs.Ytdcmoilajplfdaa.Plan

/-- What TermHash answers. -/
def hashV (t : T) : Int := if t.okB then t.hashf 5381 else 0
set_option maxRecDepth 100000 in
theorem sTermHash (t : T) (cs : List Value) (w : World) (h : Rec.term.rd False w (Old w) t cs) (hw : Rec.term.wt t ≤ 1048576) :
    Calls Try.prog 24 #[.agg cs.toArray] w fun e w' => e = .returned (.tuple #[.int .i64 (hashV t), .int .i64 (sizeE t)]) ∧ Below w.heap.size w w' := by
  obtain ⟨x0, x1, x2, x3a, x3b, x3c, rfl⟩ := shapeTerm h
  have H := Aside.mk h
  clear h
  obtain ⟨r1, h1⟩ : ∃ r, r = hashV t := ⟨_, rfl⟩
  obtain ⟨r2, h2⟩ : ∃ r, r = sizeE t := ⟨_, rfl⟩
  rw [← h1, ← h2]
  have V1 : Aside (r1 = if t.okB then t.hashf 5381 else 0) := ⟨h1⟩
  have V2 : Aside (r2 = if t.okB then 0 else 1) := ⟨h2⟩
  clear h1 h2
  show Calls Try.prog 24 #[.agg #[.int .i64 x0, .int .i64 x1, .string x2, .slice x3a x3b x3c]] w _
  go_enter Try.func24, Try.ntmps24
  go_wp2_with fail
  refine (sTermOK t [.int .i64 x0, .int .i64 x1, .string x2, .slice x3a x3b x3c] _ (Rec.term.old H.out (by go_grown)) hw).mono ?_
  rintro e w1 ⟨rfl, hb1⟩
  have k0 := (Blk.new w 29 [.int .i64 x0, .int .i64 x1, .string x2, .slice x3a x3b x3c]).below hb1
  have y0 := k0.cell 0
  have y1 := k0.cell 1
  have y2 := k0.cell 2
  have y3 := k0.cell 3
  simp only [List.getElem?_cons_zero, List.getElem?_cons_succ] at y0 y1 y2 y3
  have B1 : Aside (Below w.heap.size w w1) := ⟨below_later (by go_grown) hb1⟩
  clear hb1 k0
  cases ho : t.okB
  · have E : Aside (r1 = 0 ∧ r2 = 1) := ⟨by rw [V1.out, V2.out, ho]; exact ⟨rfl, rfl⟩⟩
    go_wp2
    go_ret2
    exact ⟨ret_two E.out.1.symm E.out.2.symm, B1.out⟩
  have hr := okB_right ho
  have E : Aside (r1 = t.hashf 5381 ∧ r2 = 0) := ⟨by rw [V1.out, V2.out, ho]; exact ⟨rfl, rfl⟩⟩
  clear ho
  go_wp2_with fail
  refine (l01Hash t 5381 [.int .i64 x0, .int .i64 x1, .string x2, .slice x3a x3b x3c] _ (Rec.term.old H.out B1.out) hw hr (by decide) (by decide)).mono ?_
  rintro e w2 ⟨rfl, hb2⟩
  have B2 := Aside.mk (below_later B1.out hb2)
  clear hb2 y0 y1 y2 y3
  generalize t.hashf 5381 = c at E ⊢
  go_wp2
  go_ret2
  exact ⟨ret_two E.out.1.symm E.out.2.symm, B2.out⟩
set_option maxRecDepth 100000 in
set_option maxHeartbeats 1000000 in
theorem iTermHash (t : T) (cs : List Value) (w : World) (h : Rec.term.rd False w (Old w) t cs) (hw : Rec.term.wt t ≤ 1048576) :
    Calls Try.prog 25 #[.agg cs.toArray] w fun e w' => e = .returned (.tuple #[.int .i64 (hashV t), .int .i64 (sizeE t)]) ∧ Below w.heap.size w w' := by
  obtain ⟨x0, x1, x2, x3a, x3b, x3c, rfl⟩ := shapeTerm h
  have H := Aside.mk h
  clear h
  obtain ⟨r1, h1⟩ : ∃ r, r = hashV t := ⟨_, rfl⟩
  obtain ⟨r2, h2⟩ : ∃ r, r = sizeE t := ⟨_, rfl⟩
  rw [← h1, ← h2]
  have V1 : Aside (r1 = if t.okB then t.hashf 5381 else 0) := ⟨h1⟩
  have V2 : Aside (r2 = if t.okB then 0 else 1) := ⟨h2⟩
  clear h1 h2
  show Calls Try.prog 25 #[.agg #[.int .i64 x0, .int .i64 x1, .string x2, .slice x3a x3b x3c]] w _
  go_enter Try.func25, Try.ntmps25
  go_wp2_with fail
  refine (iTermOK t [.int .i64 x0, .int .i64 x1, .string x2, .slice x3a x3b x3c] _ (Rec.term.old H.out (by go_grown)) hw).mono ?_
  rintro e w1 ⟨rfl, hb1⟩
  have k0 := (Blk.new w 29 [.int .i64 x0, .int .i64 x1, .string x2, .slice x3a x3b x3c]).below hb1
  have K0 := Aside.mk k0
  have B1 : Aside (Below w.heap.size w w1) := ⟨below_later (by go_grown) hb1⟩
  clear hb1 k0
  cases ho : t.okB
  · have E : Aside (r1 = 0 ∧ r2 = 1) := ⟨by rw [V1.out, V2.out, ho]; exact ⟨rfl, rfl⟩⟩
    go_wp2
    go_ret2
    exact ⟨ret_two E.out.1.symm E.out.2.symm, B1.out⟩
  have hr := okB_right ho
  have E : Aside (r1 = t.hashf 5381 ∧ r2 = 0) := ⟨by rw [V1.out, V2.out, ho]; exact ⟨rfl, rfl⟩⟩
  obtain ⟨c0, c1⟩ := hashf_range t 5381 (by decide) (by decide)
  clear ho
  go_wp2_with fail
  refine region_all [(1, true), (0, false), (2, false), (3, true), (4, true), (5, true)] (fun w' => Blk w' w.heap.size 29 [.int .i64 x0, .int .i64 x1, .string x2, .slice x3a x3b x3c]) (by kernel_rfl) (by kernel_rfl) (fun _ _ d _ _ h => by cases d <;> exact h) K0.out.drew ?_
  refine plan_load_blk rfl rfl 29 _ rfl w.heap.size [.int .i64 x0, .int .i64 x1, .string x2, .slice x3a x3b x3c] rfl 29 _ (fun _ hS => hS) Try.underlying29 rfl (by kernel_rfl) ?_
  refine plan_effect rfl rfl (fun K hK => ?_)
  go_simp
  refine (newHash _).mono ?_
  rintro e w' ⟨rfl, rfl⟩
  refine hK _ _ K0.out.drew ?_
  clear hK K
  refine plan_effect rfl rfl (fun K hK => ?_)
  go_simp
  refine (hashTerm t 5381 [.int .i64 x0, .int .i64 x1, .string x2, .slice x3a x3b x3c] _ (Rec.term.old H.out B1.out.drew) hw hr (by decide) (by decide)).mono ?_
  rintro e w2 ⟨rfl, hb2⟩
  have B2 := Aside.mk (below_later B1.out.drew hb2)
  refine hK _ _ (K0.out.drew.below hb2) ?_
  clear hK K hb2
  generalize t.hashf 5381 = c at E c0 c1 ⊢
  have hw64 : IntKind.i64.wrap c = c := by rw [IntKind.wrap_i64]; omega
  refine plan_yields ?_ rfl rfl (fun w' hS => ?_) ?_
  rotate_left
  · go_simp
    rfl
  refine plan_yields ?_ rfl rfl (fun w' hS => ?_) ?_
  rotate_left
  · go_simp
    rfl
  refine plan_yields ?_ rfl rfl (fun w' hS => ?_) ?_
  rotate_left
  · go_simp
    rfl
  refine plan_end ?_
  go_wp2_with fail
  go_ret2
  exact ⟨ret_two E.out.1.symm E.out.2.symm, B2.out⟩
end Go.Proofs.Ytdcmoilajplfdaa.Fn
