/-
  NARROWER THAN 'FOR EVERY INPUT', by the rows' own cells (each row's printed sentence says how): FnExactSpecOK: loops.
  DERIVED. THE GIVEN ROWS OF THIS SEAT. 3 by the template 'for every input the law returns true; each argument reads behind the call as it read before'; 0 by the template 'total and deterministic' (their statements: YtlopbheahedofaaTotals.lean).
  GIVEN WITH THE SEED: the statements are not yours to turn. If you find one false, say at which input.
  Laid BY PROGRAM, IN A SANDBOX (cutbox-rows.mjs): the forced cells as the released guide's own fill.sh prints them over the translation 47e4c8e83eb53dee… (all of the seat's roots in one cut). By AI agents, Wed Nov 11 2026. No macro, syntax, notation, axiom, sorry.
-/
import Derived.Test.YtlopbheahedofaaChecked
import GoSem.Claim
import GoSem.ClaimJoined
import GoSem.ClaimMapViews
import Derived.JoinedTies
import Derived.KernelRfl
namespace Go.Proofs.Ytlopbheahedofaa
/- THE CELL 'sum', in the pinned program and in every row, IS THE sha256 OF THE DUMP (.gsa) THAT YtlopbheahedofaaProg.lean LOADS. Nothing in Lean hashes anything: it is a label: what it is worth is what the hold of that sum in a sandbox is worth. -/
noncomputable def Try.pinned : Pinned := { name := "ytlopbheahedofaa", sum := "47e4c8e83eb53dee2a2548811f3a057b157ab3b3cb6a2f31f9717773464df0ca", checked := Try.checked }
namespace Rows
def none {H : Type} : Left H := { results := [], args := [] }

/-- 'laws.FnAllInTheEnd': WHATEVER THE INPUT: true; the input reads as it did. -/
def fnAllInTheEndSpec : ChangeSpec := { name := "fnAllInTheEnd", fn := fun _ => fun
  | [d] => { results := [.lit (.bool true)], args := [d] }
  | _ => none }
def fnAllInTheEndRow : OpenClaim := { program := "ytlopbheahedofaa", sum := "47e4c8e83eb53dee2a2548811f3a057b157ab3b3cb6a2f31f9717773464df0ca", func := "loop.example/g00019/laws.FnAllInTheEnd", spec := "fnAllInTheEnd", apart := false }
def FnAllInTheEndSaid : Prop := fnAllInTheEndRow.holds Try.pinned (OpenSpec.ofChange fnAllInTheEndSpec)

/-- ITS FALSE NEIGHBOUR: 'it returns false'. Refute it at one input. -/
def fnAllInTheEndWrong : ChangeSpec := { name := "fnAllInTheEnd", fn := fun _ => fun
  | [d] => { results := [.lit (.bool false)], args := [d] }
  | _ => none }
def FnAllInTheEndWrongFalsely : Prop := fnAllInTheEndRow.holds Try.pinned (OpenSpec.ofChange fnAllInTheEndWrong)

/-- 'laws.FnFirstOfAll': WHATEVER THE INPUT: true; the input reads as it did. -/
def fnFirstOfAllSpec : ChangeSpec := { name := "fnFirstOfAll", fn := fun _ => fun
  | [d] => { results := [.lit (.bool true)], args := [d] }
  | _ => none }
def fnFirstOfAllRow : OpenClaim := { program := "ytlopbheahedofaa", sum := "47e4c8e83eb53dee2a2548811f3a057b157ab3b3cb6a2f31f9717773464df0ca", func := "loop.example/g00019/laws.FnFirstOfAll", spec := "fnFirstOfAll", apart := false }
def FnFirstOfAllSaid : Prop := fnFirstOfAllRow.holds Try.pinned (OpenSpec.ofChange fnFirstOfAllSpec)

/-- ITS FALSE NEIGHBOUR: 'it returns false'. Refute it at one input. -/
def fnFirstOfAllWrong : ChangeSpec := { name := "fnFirstOfAll", fn := fun _ => fun
  | [d] => { results := [.lit (.bool false)], args := [d] }
  | _ => none }
def FnFirstOfAllWrongFalsely : Prop := fnFirstOfAllRow.holds Try.pinned (OpenSpec.ofChange fnFirstOfAllWrong)

/-- 'laws.FnExactSpecOK': WHATEVER THE INPUT: true; the input reads as it did. -/
def fnExactSpecOKSpec : ChangeSpec := { name := "fnExactSpecOK", fn := fun _ => fun
  | [d] => { results := [.lit (.bool true)], args := [d] }
  | _ => none }
def fnExactSpecOKRow : OpenClaim := { program := "ytlopbheahedofaa", sum := "47e4c8e83eb53dee2a2548811f3a057b157ab3b3cb6a2f31f9717773464df0ca", func := "loop.example/g00019/laws.FnExactSpecOK", spec := "fnExactSpecOK", inPlace := ["internal/bytealg.abigen_runtime_cmpstring"], unfollowed := true, recurses := true, loops := true, apart := false }
def FnExactSpecOKSaid : Prop := fnExactSpecOKRow.holds Try.pinned (OpenSpec.ofChange fnExactSpecOKSpec)

/-- ITS FALSE NEIGHBOUR: 'it returns false'. Refute it at one input. -/
def fnExactSpecOKWrong : ChangeSpec := { name := "fnExactSpecOK", fn := fun _ => fun
  | [d] => { results := [.lit (.bool false)], args := [d] }
  | _ => none }
def FnExactSpecOKWrongFalsely : Prop := fnExactSpecOKRow.holds Try.pinned (OpenSpec.ofChange fnExactSpecOKWrong)

/- THE SECOND FORM. 'bulk': how many values and letters a reading holds, each counted each time it is reached (what is shared counts as often as it is met; a slice's spare places count too). A statement '..UptoSaid' is the law's where the arguments, and the package variables that the reading takes, are together of bulk at most 1048576: NARROWER than '..Said'. Prove '..Said' where nothing that the law and all that it calls make is longer than what came in: it says more and counts as full. Else prove '..UptoSaid'. A law counts once. -/
mutual
def uptoBulk {H : Type} : DataW H → Nat
  | .lit (.string bytes) => bytes.length + 1
  | .lit _ => 1
  | .nil => 1
  | .ptr d => uptoBulk d + 1
  | .slice elems spare => uptoBulkAll elems + uptoBulkAll spare + 1
  | .agg parts => uptoBulkAll parts + 1
  | .iface _ d => uptoBulk d + 1
  | .map entries => uptoBulkEntries entries + 1
  | .held _ => 1
def uptoBulkAll {H : Type} : List (DataW H) → Nat
  | [] => 0
  | d :: r => uptoBulk d + uptoBulkAll r
def uptoBulkEntries {H : Type} : List (Lit × DataW H) → Nat
  | [] => 0
  | x :: r => uptoBulkEntry x + uptoBulkEntries r
def uptoBulkEntry {H : Type} : Lit × DataW H → Nat
  | (.string bytes, d) => bytes.length + uptoBulk d + 1
  | (_, d) => uptoBulk d + 1
 end
def uptoSmall : (H : Type) → List (DataW H) → Bool := fun _ ds => decide (uptoBulkAll ds ≤ 1048576)
def OpenSpec.upto (s : _root_.Go.ChangeSpec) : _root_.Go.OpenSpec := { _root_.Go.OpenSpec.ofChange s with cond := some uptoSmall }

/-- 'laws.FnAllInTheEnd', WHERE WHAT IT READS IS OF BULK AT MOST 1048576: true; the input reads as it did. -/
def fnAllInTheEndUptoRow : OpenClaim := { program := "ytlopbheahedofaa", sum := "47e4c8e83eb53dee2a2548811f3a057b157ab3b3cb6a2f31f9717773464df0ca", func := "loop.example/g00019/laws.FnAllInTheEnd", spec := "fnAllInTheEnd", apart := false, narrowed := true }
def FnAllInTheEndUptoSaid : Prop := fnAllInTheEndUptoRow.holds Try.pinned (OpenSpec.upto fnAllInTheEndSpec)

/-- 'laws.FnFirstOfAll', WHERE WHAT IT READS IS OF BULK AT MOST 1048576: true; the input reads as it did. -/
def fnFirstOfAllUptoRow : OpenClaim := { program := "ytlopbheahedofaa", sum := "47e4c8e83eb53dee2a2548811f3a057b157ab3b3cb6a2f31f9717773464df0ca", func := "loop.example/g00019/laws.FnFirstOfAll", spec := "fnFirstOfAll", apart := false, narrowed := true }
def FnFirstOfAllUptoSaid : Prop := fnFirstOfAllUptoRow.holds Try.pinned (OpenSpec.upto fnFirstOfAllSpec)

/-- 'laws.FnExactSpecOK', WHERE WHAT IT READS IS OF BULK AT MOST 1048576: true; the input reads as it did. -/
def fnExactSpecOKUptoRow : OpenClaim := { program := "ytlopbheahedofaa", sum := "47e4c8e83eb53dee2a2548811f3a057b157ab3b3cb6a2f31f9717773464df0ca", func := "loop.example/g00019/laws.FnExactSpecOK", spec := "fnExactSpecOK", inPlace := ["internal/bytealg.abigen_runtime_cmpstring"], unfollowed := true, recurses := true, loops := true, apart := false, narrowed := true }
def FnExactSpecOKUptoSaid : Prop := fnExactSpecOKUptoRow.holds Try.pinned (OpenSpec.upto fnExactSpecOKSpec)

end Rows
end Go.Proofs.Ytlopbheahedofaa
