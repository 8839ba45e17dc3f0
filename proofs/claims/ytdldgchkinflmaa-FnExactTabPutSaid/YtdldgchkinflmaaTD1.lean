/- What TabDrop answers, and that it is a right datum. Conditions: none. -/
import Derived.Test.YtdldgchkinflmaaTG5
set_option linter.unusedVariables false
namespace Go.Proofs.Ytdldgchkinflmaa.Fn
open Go.RowKit Go.Proofs.Ytdldgchkinflmaa.Lib Go.Proofs.Ytdldgchkinflmaa.Plan
def otherK (key r : T) : Bool := !sameK key r
/-- A table without a key's rows, and how it went. -/
def dropR (a : ATable) (key : T) : ATable × Int := if tabB a.1 a.2 && key.okB then ((a.1, a.2.filter (otherK key)), 0) else ((0, []), 1)
theorem drop_ok {a : ATable} (key : T) (h : RTable.ok a) : RTable.ok (dropR a key).1 := by
  unfold dropR
  split
  · exact ⟨h.1, filter_okS _ h.2⟩
  · exact ⟨⟨by decide, by decide⟩, nil_okS⟩
theorem drop_wt {a : ATable} (key : T) (h : RTable.wt a ≤ 1048576) : RTable.wt (dropR a key).1 ≤ 1073741824 := by
  have h2 : Rec.int.wt a.1 + Rec.term.sl.wt a.2 ≤ 1048576 := h
  unfold dropR
  split
  · show Rec.int.wt a.1 + Rec.term.sl.wt (a.2.filter _) ≤ _
    have := filter_wt (R := Rec.term) (otherK key) a.2
    omega
  · show 0 + (0 + 0) ≤ _; omega
theorem filter_drop (key : T) {ty : Int} {rows : List T} (h : tabB ty rows = true) : rows.filter (otherK key) = rows.take (fromK key rows) ++ rows.drop (fromK key rows + sames key (rows.drop (fromK key rows))) := filter_other key rows (tabB_up h)
/-- A table of the call's own, and a number. -/
def RetT (w : World) (r : ATable × Int) : Ending → World → Prop := fun e w2 =>
  ∃ cs, e = .returned (.tuple #[.agg cs.toArray, .int .i64 r.2]) ∧ RTable.rd True w2 (Span w.heap.size w2.heap.size) r.1 cs ∧ Below w.heap.size w w2
theorem table_rd {tr : Prop} {w : World} {S : Nat → Prop} {ty : Int} {rows : List T} {v : Value} (h : Rec.term.sl.rd tr w S rows [v]) : RTable.rd tr w S (ty, rows) [.int .i64 ty, v] :=
  ⟨[.int .i64 ty], [v], NoB, S, rfl, rfl, h, fun _ h => h.elim, fun _ h => h, fun _ _ h => h.elim⟩
end Go.Proofs.Ytdldgchkinflmaa.Fn
