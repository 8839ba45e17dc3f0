/- Walk of small: a panic that its own deferred closure recovers. Conditions: those of each theorem. -/
import Derived.Test.YtdldgchkinflmaaTm10
import Derived.Laws.Pointers
set_option linter.unusedVariables false
namespace Go.Proofs.Ytdldgchkinflmaa.Fn
open Go.RowKit Go.Proofs.Ytdldgchkinflmaa.Lib Go.Proofs.Ytdldgchkinflmaa.Plan

theorem run_mine (w : World) : (Instr.typeAssert (.iface 266 (.agg #[])) 20 266 true).run Try.prog w = .ok (.tuple #[.agg #[], .bool true]) w := by
  simp [Instr.typeAssert, run_underlying Try.underlying266]
set_option maxRecDepth 100000 in
set_option maxHeartbeats 4000000 in
theorem catch_panicking (g : Nat) (x : Bool) (w : World) (hb : Blk w g 4 [.bool x]) :
    CallsD Try.prog 220 #[.pointer (some ⟨g, 0, none⟩)] (.panicking tooMany) w fun e u' w' =>
      e = .returned (.tuple #[]) ∧ u' = .panicking [{ v := .iface 266 (.agg #[]), recovered := true }] ∧ w.grownBy w' (some g) ∧ Blk w' g 4 [.bool false] := by
  refine callsD_of_wpS Try.func220 rfl fun c₀ cs hu => ?_
  unfold tooMany at hu
  have hm := run_mine
  have k1 := hb.alloc (.cells #[] 266)
  have hc := k1.cell 0
  have hz := k1.free 0
  have k2 : Aside (w.grownBy ((w.alloc (.cells #[] 266)).setCell ⟨g, 0, none⟩ (.bool false)) (some g) ∧ Blk ((w.alloc (.cells #[] 266)).setCell ⟨g, 0, none⟩ (.bool false)) g 4 [.bool false]) := ⟨⟨grown_set (grown_alloc (grown_refl _ _) _) _ _, k1.set 0 _⟩⟩
  have k3 : Aside (w.grownBy ((w.setCell ⟨g, 0, none⟩ (.bool false)).alloc (.cells #[] 266)) (some g) ∧ Blk ((w.setCell ⟨g, 0, none⟩ (.bool false)).alloc (.cells #[] 266)) g 4 [.bool false]) := ⟨⟨grown_alloc (grown_set (grown_refl _ _) _ _) _, (hb.set 0 _).alloc _⟩⟩
  have c1 := hb.cell 0
  have z1 := hb.free 0
  simp only [List.getElem?_cons_zero] at hc c1
  clear k1 hb
  apply wpS_seq
  apply wpS_region
  simp [wpOpsS, go_sem, recoverD, hu, Try.ntmps220, Exit.thenS]
  refine wpS_of_wp ?_
  go_wp2
  simp [bodyPostS, results, Try.results220]
  first | exact k2.out | exact k3.out
set_option maxRecDepth 100000 in
set_option maxHeartbeats 4000000 in
theorem catch_idle (g : Nat) (w : World) :
    CallsD Try.prog 220 #[.pointer (some ⟨g, 0, none⟩)] .returning w fun e u' w' => e = .returned (.tuple #[]) ∧ u' = .returning ∧ w' = w := by
  refine callsD_of_wpS Try.func220 rfl fun c₀ cs hu => ?_
  apply wpS_seq
  apply wpS_region
  simp [wpOpsS, go_sem, recoverD, hu, Try.ntmps220, Exit.thenS]
  refine wpS_of_wp ?_
  go_wp2
  cases c₀
  simp_all [bodyPostS, results, Try.results220]
end Go.Proofs.Ytdldgchkinflmaa.Fn
