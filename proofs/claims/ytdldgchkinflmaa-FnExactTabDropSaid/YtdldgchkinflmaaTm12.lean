/- Walk of small. Conditions: those of each theorem. -/
import Derived.Test.YtdldgchkinflmaaTm11
set_option linter.unusedVariables false
namespace Go.Proofs.Ytdldgchkinflmaa.Fn
open Go.RowKit Go.Proofs.Ytdldgchkinflmaa.Lib Go.Proofs.Ytdldgchkinflmaa.Plan

theorem fitsB_fits (t : T) : fitsB 0 1 t = t.fits := by
  unfold fitsB T.fits
  congr 1
  · rw [Nat.zero_add]
  · congr 1
    simp
    omega
set_option maxRecDepth 100000 in
set_option maxHeartbeats 4000000 in
theorem small (t : T) (cs : List Value) (w : World) (h : Rec.term.rd False w (Old w) t cs) (hw : Rec.term.wt t ≤ 1048576) :
    Calls Try.prog 155 #[.agg cs.toArray] w fun e w' => e = .returned (.bool t.fits) ∧ Below w.heap.size w w' := by
  have hmf : ∀ (fn : Fn) (first cap : Array Value) (w : World), (Instr.makeFunc fn first cap).run Try.prog w = .ok (.func fn first cap) w := fun _ _ _ _ => rfl
  obtain ⟨x0, x1, x2, x3a, x3b, x3c, rfl⟩ := shapeTerm h
  have H := Aside.mk h
  clear h
  obtain ⟨res, hres⟩ : ∃ r, r = t.fits := ⟨_, rfl⟩
  rw [← hres]
  have HV := Aside.mk hres
  clear hres
  show Calls Try.prog 155 #[.agg #[.int .i64 x0, .int .i64 x1, .string x2, .slice x3a x3b x3c]] w _
  go_enter_defers Try.func155, Try.ntmps155
  go_wp2_with fail
  have hwalk := walk t [.int .i64 x0, .int .i64 x1, .string x2, .slice x3a x3b x3c] (w.heap.size + 1 + 1) 0 1 (((w.alloc (.cells #[.int .i64 x0, .int .i64 x1, .string x2, .slice x3a x3b x3c] 26)).alloc (.cells #[.bool false] 4)).alloc (.cells #[.int .i64 0] 269))
    (Rec.term.frame H.out (fun b hb => (show Below w.heap.size w _ by go_grown).block b hb) (fun b hb => ⟨by have : b < w.heap.size := hb; simp; omega, by have : b < w.heap.size := hb; omega⟩)) hw (Blk.made _ 269 [.int .i64 0] (by simp)) (by decide) (by decide)
  refine hwalk.mono ?_
  clear hwalk
  rintro e w1 ⟨hg, h⟩
  have k1 := ((Blk.made (w.alloc _) 4 [.bool false] (g := w.heap.size + 1) (by simp)).alloc _).grown hg (by simp)
  have bel : Below w.heap.size w w1 := below_grown (by go_grown) hg (by omega)
  have c1 := k1.cell 0
  have z1 := k1.free 0
  simp only [List.getElem?_cons_zero] at c1
  have K1 := Aside.mk k1
  have BEL := Aside.mk bel
  clear k1 bel hg
  rcases h with ⟨hfit, rfl, -⟩ | ⟨hfit, rfl⟩
  · have E : Aside (res = true) := ⟨by rw [HV.out, ← fitsB_fits]; exact hfit⟩
    have K2 := Aside.mk (K1.out.set 0 (.bool true))
    have c2 := K2.out.cell 0
    simp only [List.set_cons_zero, List.getElem?_cons_zero] at c2
    have B2 : Aside (Below w.heap.size w (w1.setCell ⟨w.heap.size + 1, 0, none⟩ (.bool true))) := ⟨BEL.out.setCell (by simp) _⟩
    clear hfit
    go_wp2
    refine leaves_cons (f := 220) (args := #[.pointer (some ⟨w.heap.size + 1, 0, none⟩)]) (by simp) (by simp [go_sem]) ?_
    refine (catch_idle _ _).mono ?_
    rintro e u' w'' ⟨rfl, rfl, rfl⟩
    simp [Leaves, settle, results, Try.results155, go_sem, c2]
    exact ⟨E.out, B2.out⟩
  · have E : Aside (res = false) := ⟨by rw [HV.out, ← fitsB_fits]; exact hfit⟩
    clear hfit
    go_wp2
    refine leaves_cons (f := 220) (args := #[.pointer (some ⟨w.heap.size + 1, 0, none⟩)]) (by simp) (by simp [go_sem]) ?_
    refine (catch_panicking (w.heap.size + 1) false _ K1.out).mono ?_
    rintro e u' w'' ⟨rfl, rfl, hg2, k3⟩
    have c2 := k3.cell 0
    simp only [List.getElem?_cons_zero] at c2
    have B2 := Aside.mk (below_grown BEL.out hg2 (by omega))
    clear hg2 k3
    simp [Leaves, settle, results, Try.results155, go_sem, c2]
    exact ⟨E.out, B2.out⟩
end Go.Proofs.Ytdldgchkinflmaa.Fn
