/- A code that is handed in, and the cursor of its draws. Conditions: those of each theorem. -/
import Derived.Test.YtlopbheahedofaaDoorDrawA
set_option linter.unusedVariables false
namespace Go.Proofs.YtlopbheahedofaaDoor.Fn
open Go Go.RowKit Go.Proofs.YtlopbheahedofaaDoor.Lib Go.Proofs.YtlopbheahedofaaDoor.Plan

/-- A code that is handed in. -/
def CodeIn (w : World) (A : Option Addr) (n : Nat) : Prop := ∀ j, j < n → ∃ b o x, A = some ⟨b, o, none⟩ ∧ b < w.heap.size ∧ w.cell? ⟨b, o + j, none⟩ = some (.int .u8 x) ∧ 0 ≤ x ∧ x ≤ 255
theorem CodeIn.under {w : World} {A : Option Addr} {n : Nat} (h : CodeIn w A n) (hn : 0 < n) : ∀ b o, A = some ⟨b, o, none⟩ → b < w.heap.size := by
  intro b o e
  obtain ⟨b2, o2, x, e2, h2, -⟩ := h 0 hn
  rw [e] at e2
  injection e2 with e2
  injection e2 with e2
  omega
set_option maxRecDepth 100000 in
theorem drawCur (A : Option Addr) (n c : Nat) (w : World) (h : CodeIn w A n) (hn : n ≤ 1048576) :
    Calls Tryd.prog 19 #[.slice A n c] w fun e w' => e = .returned (.pointer (some ⟨w.heap.size, 0, none⟩)) ∧ Below w.heap.size w w' ∧ CurOK w' w.heap.size A n c 0 := by
  have HC := Aside.mk h
  have e1 : IntKind.i64.wrap (17 + (n : Int)) = 17 + n := by rw [IntKind.wrap_i64]; omega
  clear h
  go_enter Tryd.func19, Tryd.ntmps19
  go_wp2_with fail
  go_ret
  refine ⟨rfl, by go_grown, 0, 17 + n, Blk.new w 56 [.slice A n c, .int .i64 0, .int .i64 (17 + n)], by omega, by omega, by omega, by omega, fun j hj => ?_⟩
  obtain ⟨b, o, x, e, hb, hc, x0, x1⟩ := HC.out j hj
  exact ⟨b, o, x, e, by omega, by simp; omega, ((Below.refl w.heap.size w).alloc (Nat.le_refl _) _).cell (p := ⟨b, o + j, none⟩) hb |>.trans hc, x0, x1⟩
theorem _root_.Go.Proofs.YtlopbheahedofaaDoor.Lib.Below.of_but {w a b : World} {g : Nat} (h : But (AtG g) a b) (hg : g = w.heap.size) (hw : w.heap.size ≤ a.heap.size) : Below w.heap.size a b :=
  ⟨h.os, h.tape, h.output, h.size, fun k hk => h.block k (Nat.lt_of_lt_of_le hk hw) (fun e => by have e : k = g := e; omega)⟩
theorem curBelow {w a b : World} (h : Below w.heap.size w a) (hb : But (AtG w.heap.size) a b) : Below w.heap.size w b := But.out h hb (fun k hk => by have hk : k = w.heap.size := hk; omega)
theorem bigL (A : Option Addr) (n c : Nat) (w : World) : Calls Tryd.prog 5 #[.slice A n c] w fun e w' => e = .returned (.bool (decide ((1048576 : Int) < (n : Int)))) ∧ w = w' := by
  go_enter Tryd.func5, Tryd.ntmps5
  go_wp2_with fail
  go_ret
  exact ⟨rfl, rfl⟩
end Go.Proofs.YtlopbheahedofaaDoor.Fn
