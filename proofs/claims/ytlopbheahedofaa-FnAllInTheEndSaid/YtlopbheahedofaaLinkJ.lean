/- A link's rows read as the rows of its report. Conditions: those of each theorem. -/
import Derived.Test.YtlopbheahedofaaLinkI
import Derived.Test.YtlopbheahedofaaMark
set_option linter.unusedVariables false
namespace Go.Proofs.Ytlopbheahedofaa.Fn
open Go Go.RowKit Go.Proofs.Ytlopbheahedofaa.Lib Go.Proofs.Ytlopbheahedofaa.Plan

theorem own_strs {w : World} {base E n : Nat} {v : Value} {xs : List ByteArray} (h : w.ownsRow base E 1 v n (cstr xs)) : Rec.str.sl.rd True w (fun c => v.ownBlock = some c) xs [v] := by
  have hl : xs.length = n := by have := h.1; simpa [cstr] using this
  rcases h.2 with ⟨rfl, rfl⟩ | ⟨g, cap, cur, rfl, hb, hg, hnc, _⟩
  · obtain rfl : xs = [] := List.eq_nil_of_length_eq_zero hl
    exact ⟨none, 0, rfl, Nat.le_refl _, Or.inl rfl⟩
  · subst hl
    refine ⟨_, cap, rfl, hnc, Or.inr ⟨g, 0, rfl, rfl, fun _ _ => False, fun _ _ h => h.elim, fun _ => ⟨fun o => h.frozenAt o, ?_⟩, fun j hj => ⟨[.string xs[j]], rfl, fun t ht => ?_⟩⟩⟩
    · intros; exact False.elim ‹_›
    · have ht' : t < 1 := ht
      obtain rfl : t = 0 := by omega
      have hc := h.cells (g := g) rfl j (.string xs[j]) (cstr_at xs j hj)
      rw [add_plain] at hc
      rw [show 0 + j * Rec.str.k + 0 = j from by show 0 + j * 1 + 0 = j; omega]
      exact hc
theorem own_pkts {w : World} {base E n : Nat} {v : Value} {xs : List (Bool × ByteArray)} (h : w.ownsRow base E 2 v n (cpk xs)) : RPacket.sl.rd True w (fun c => v.ownBlock = some c) xs [v] := by
  have hl : xs.length = n := by have := h.1; rw [cpk_len] at this; omega
  rcases h.2 with ⟨rfl, rfl⟩ | ⟨g, cap, cur, rfl, hb, hg, hnc, _⟩
  · obtain rfl : xs = [] := List.eq_nil_of_length_eq_zero hl
    exact ⟨none, 0, rfl, Nat.le_refl _, Or.inl rfl⟩
  · subst hl
    refine ⟨_, cap, rfl, hnc, Or.inr ⟨g, 0, rfl, rfl, fun _ _ => False, fun _ _ h => h.elim, fun _ => ⟨fun o => h.frozenAt o, ?_⟩, fun j hj => ⟨[.bool xs[j].1, .string xs[j].2], ?_, fun t ht => ?_⟩⟩⟩
    · intros; exact False.elim ‹_›
    · exact Rec.mkpair (A := Rec.bool) (B := Rec.str) (ca := [.bool xs[j].1]) (cb := [.string xs[j].2]) (Sa := fun _ => False) (Sb := fun _ => False) rfl rfl ⟨fun _ h => h, fun _ h => h, fun _ _ h => h.elim⟩
    · have ht' : t < 2 := ht
      have hu := cpk_at xs j t hj ht'
      have ht3 : t < [Value.bool xs[j].1, Value.string xs[j].2].length := ht'
      rw [List.getElem?_eq_getElem ht3] at hu
      have hc := h.cells (g := g) rfl (j * 2 + t) _ hu
      rw [add_plain] at hc
      rw [show 0 + j * RPacket.k + t = j * 2 + t from by show 0 + j * 2 + t = j * 2 + t; omega, List.getElem?_eq_getElem ht3]
      exact hc
theorem LkV.report {w : World} {base g : Nat} {T : TypeId} {win : Nat} {s : Lk} {vg vt vw : Value} (h : LkV w base g T win s vg vt vw) : RLinkReport.rd True w (Span base w.heap.size) (repK s) [.int .i64 s.given.length, .int .i64 s.acked, .int .i64 s.packed, vt, vw] := by
  have ht := Rec.mono (Rec.str.sl) (own_strs h.ot) (S' := fun c => vt.ownBlock = some c) (fun _ h => h)
  have hw := own_pkts h.ow
  have h2 : (Rec.str.sl.pair RPacket.sl).rd True w (Span base w.heap.size) (s.taken, s.way) ([vt] ++ [vw]) := Rec.mkpair ht hw ⟨fun b hb => own_lt h.ot hb, fun b hb => own_lt h.ow hb, fun _ b hb => h.d3 b hb⟩
  have h3 := Rec.mkpair (A := Rec.int) (tr := True) (w := w) (S := Span base w.heap.size) (Sa := fun _ => False) (a := (s.packed : Int)) (ca := [.int .i64 s.packed]) rfl h2 ⟨fun _ h => h.elim, fun _ h => h, fun _ _ h => h.elim⟩
  have h4 := Rec.mkpair (A := Rec.int) (tr := True) (w := w) (S := Span base w.heap.size) (Sa := fun _ => False) (a := (s.acked : Int)) (ca := [.int .i64 s.acked]) rfl h3 ⟨fun _ h => h.elim, fun _ h => h, fun _ _ h => h.elim⟩
  exact Rec.mkpair (A := Rec.int) (tr := True) (w := w) (S := Span base w.heap.size) (Sa := fun _ => False) (a := (s.given.length : Int)) (ca := [.int .i64 s.given.length]) rfl h4 ⟨fun _ h => h.elim, fun _ h => h, fun _ _ h => h.elim⟩
end Go.Proofs.Ytlopbheahedofaa.Fn
