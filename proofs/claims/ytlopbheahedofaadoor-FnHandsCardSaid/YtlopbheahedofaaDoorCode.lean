/- A code that is handed in: a slice of bytes. Conditions: those of each theorem. -/
import Derived.Test.YtlopbheahedofaaDoorCur0
import Derived.Test.YtlopbheahedofaaDoorOpen
set_option linter.unusedVariables false
namespace Go.Proofs.YtlopbheahedofaaDoor.Lib
open Go Go.RowKit
def Rec.u8 : Rec Int where
  k := 1
  wt _ := 0
  ok a := 0 ≤ a ∧ a ≤ 255
  rd _ _ _ a cs := cs = [.int .u8 a]
  len h := by subst h; rfl
  frame h _ _ := h
  weak h := h
theorem opens_u8 {H : Type} {enc : TypeId × Value → H} {P : Program} {n : Nat} {t : TypeId} (ht : P.underlying t = some (.int .u8)) : OpensAt enc P n t Rec.u8 := by
  intro W cs x h
  obtain ⟨a, rfl, _, hw⟩ := DataW.trod_int ht h
  refine ⟨a, rfl, ?_⟩
  simp [Lit.wf, IntKind.min, IntKind.max, IntKind.signed, IntKind.bits] at hw
  exact ⟨hw.1, by omega⟩
theorem codeIn {w : World} {xs : List Int} {v : Value} (h : Rec.u8.sl.rd False w (Old w) xs [v]) (ho : Rec.u8.sl.ok xs) : ∃ A cap, v = .slice A xs.length cap ∧ Fn.CodeIn w A xs.length := by
  obtain ⟨A, cap, e, -, hs⟩ := h
  injection e with e _
  refine ⟨A, cap, e, fun j hj => ?_⟩
  rcases hs with h0 | ⟨b, o, rfl, hb, f, -, -, hrow⟩
  · rw [h0] at hj; exact absurd hj (Nat.not_lt_zero _)
  obtain ⟨cs, hr, hc⟩ := hrow j hj
  obtain rfl := hr
  have h1 := hc 0 (by decide)
  rw [show o + j * Rec.u8.k + 0 = o + j from by show o + j * 1 + 0 = o + j; omega] at h1
  have h2 := ho.2 xs[j] (List.getElem_mem hj)
  exact ⟨b, o, xs[j], rfl, hb, h1, h2.1, h2.2⟩
end Go.Proofs.YtlopbheahedofaaDoor.Lib
