/-
  No cell of these rows narrows 'for every input' (looked for: loops, veiled, ifaces, maps, wideKeys, modest, calm, conditions, laid).
  DERIVED. THE GIVEN ROWS OF THIS SEAT. 10 by the template 'for every input the law returns true; each argument reads behind the call as it read before'; 0 by the template 'total and deterministic' (their statements: YtjjnlbimegabpaaTotals.lean).
  GIVEN WITH THE SEED: the statements are not yours to turn. If you find one false, say at which input.
  Laid BY PROGRAM, IN A SANDBOX (cutbox-rows.mjs): the forced cells as the released guide's own fill.sh prints them over the translation 60826d9680367ad9… (all of the seat's roots in one cut). By AI agents, Wed Nov 11 2026. No macro, syntax, notation, axiom, sorry.
-/
import Derived.Test.YtjjnlbimegabpaaChecked
import GoSem.Claim
import GoSem.ClaimJoined
import GoSem.ClaimMapViews
import Derived.JoinedTies
import Derived.KernelRfl
namespace Go.Proofs.Ytjjnlbimegabpaa
/- THE CELL 'sum', in the pinned program and in every row, IS THE sha256 OF THE DUMP (.gsa) THAT YtjjnlbimegabpaaProg.lean LOADS. Nothing in Lean hashes anything: it is a label: what it is worth is what the hold of that sum in a sandbox is worth. -/
noncomputable def Try.pinned : Pinned := { name := "ytjjnlbimegabpaa", sum := "60826d9680367ad932faec30fa1fcf5394344a31f87ae4b388d5301321e7d3c9", checked := Try.checked }
namespace Rows
def none {H : Type} : Left H := { results := [], args := [] }

/-- 'laws.FnExactConstants': WHATEVER THE INPUT: true; the input reads as it did. -/
def fnExactConstantsSpec : ChangeSpec := { name := "fnExactConstants", fn := fun _ => fun
  | [] => { results := [.lit (.bool true)], args := [] }
  | _ => none }
def fnExactConstantsRow : OpenClaim := { program := "ytjjnlbimegabpaa", sum := "60826d9680367ad932faec30fa1fcf5394344a31f87ae4b388d5301321e7d3c9", func := "loop.example/g00019/laws.FnExactConstants", spec := "fnExactConstants", apart := false }
def FnExactConstantsSaid : Prop := fnExactConstantsRow.holds Try.pinned (OpenSpec.ofChange fnExactConstantsSpec)

/-- ITS FALSE NEIGHBOUR: 'it returns false'. Refute it at one input. -/
def fnExactConstantsWrong : ChangeSpec := { name := "fnExactConstants", fn := fun _ => fun
  | [] => { results := [.lit (.bool false)], args := [] }
  | _ => none }
def FnExactConstantsWrongFalsely : Prop := fnExactConstantsRow.holds Try.pinned (OpenSpec.ofChange fnExactConstantsWrong)

/-- 'laws.FnExactBitsOK': WHATEVER THE INPUT: true; the input reads as it did. -/
def fnExactBitsOKSpec : ChangeSpec := { name := "fnExactBitsOK", fn := fun _ => fun
  | [d] => { results := [.lit (.bool true)], args := [d] }
  | _ => none }
def fnExactBitsOKRow : OpenClaim := { program := "ytjjnlbimegabpaa", sum := "60826d9680367ad932faec30fa1fcf5394344a31f87ae4b388d5301321e7d3c9", func := "loop.example/g00019/laws.FnExactBitsOK", spec := "fnExactBitsOK", apart := false }
def FnExactBitsOKSaid : Prop := fnExactBitsOKRow.holds Try.pinned (OpenSpec.ofChange fnExactBitsOKSpec)

/-- ITS FALSE NEIGHBOUR: 'it returns false'. Refute it at one input. -/
def fnExactBitsOKWrong : ChangeSpec := { name := "fnExactBitsOK", fn := fun _ => fun
  | [d] => { results := [.lit (.bool false)], args := [d] }
  | _ => none }
def FnExactBitsOKWrongFalsely : Prop := fnExactBitsOKRow.holds Try.pinned (OpenSpec.ofChange fnExactBitsOKWrong)

/-- 'laws.FnExactChoose': WHATEVER THE INPUT: true; the input reads as it did. -/
def fnExactChooseSpec : ChangeSpec := { name := "fnExactChoose", fn := fun _ => fun
  | [d1, d2, d3, d4] => { results := [.lit (.bool true)], args := [d1, d2, d3, d4] }
  | _ => none }
def fnExactChooseRow : OpenClaim := { program := "ytjjnlbimegabpaa", sum := "60826d9680367ad932faec30fa1fcf5394344a31f87ae4b388d5301321e7d3c9", func := "loop.example/g00019/laws.FnExactChoose", spec := "fnExactChoose", apart := false }
def FnExactChooseSaid : Prop := fnExactChooseRow.holds Try.pinned (OpenSpec.ofChange fnExactChooseSpec)

/-- ITS FALSE NEIGHBOUR: 'it returns false'. Refute it at one input. -/
def fnExactChooseWrong : ChangeSpec := { name := "fnExactChoose", fn := fun _ => fun
  | [d1, d2, d3, d4] => { results := [.lit (.bool false)], args := [d1, d2, d3, d4] }
  | _ => none }
def FnExactChooseWrongFalsely : Prop := fnExactChooseRow.holds Try.pinned (OpenSpec.ofChange fnExactChooseWrong)

/-- 'laws.FnExactSeal': WHATEVER THE INPUT: true; the input reads as it did. -/
def fnExactSealSpec : ChangeSpec := { name := "fnExactSeal", fn := fun _ => fun
  | [d1, d2, d3] => { results := [.lit (.bool true)], args := [d1, d2, d3] }
  | _ => none }
def fnExactSealRow : OpenClaim := { program := "ytjjnlbimegabpaa", sum := "60826d9680367ad932faec30fa1fcf5394344a31f87ae4b388d5301321e7d3c9", func := "loop.example/g00019/laws.FnExactSeal", spec := "fnExactSeal", apart := false }
def FnExactSealSaid : Prop := fnExactSealRow.holds Try.pinned (OpenSpec.ofChange fnExactSealSpec)

/-- ITS FALSE NEIGHBOUR: 'it returns false'. Refute it at one input. -/
def fnExactSealWrong : ChangeSpec := { name := "fnExactSeal", fn := fun _ => fun
  | [d1, d2, d3] => { results := [.lit (.bool false)], args := [d1, d2, d3] }
  | _ => none }
def FnExactSealWrongFalsely : Prop := fnExactSealRow.holds Try.pinned (OpenSpec.ofChange fnExactSealWrong)

/-- 'laws.FnExactSupRate': WHATEVER THE INPUT: true; the input reads as it did. -/
def fnExactSupRateSpec : ChangeSpec := { name := "fnExactSupRate", fn := fun _ => fun
  | [d1, d2, d3, d4] => { results := [.lit (.bool true)], args := [d1, d2, d3, d4] }
  | _ => none }
def fnExactSupRateRow : OpenClaim := { program := "ytjjnlbimegabpaa", sum := "60826d9680367ad932faec30fa1fcf5394344a31f87ae4b388d5301321e7d3c9", func := "loop.example/g00019/laws.FnExactSupRate", spec := "fnExactSupRate", apart := false }
def FnExactSupRateSaid : Prop := fnExactSupRateRow.holds Try.pinned (OpenSpec.ofChange fnExactSupRateSpec)

/-- ITS FALSE NEIGHBOUR: 'it returns false'. Refute it at one input. -/
def fnExactSupRateWrong : ChangeSpec := { name := "fnExactSupRate", fn := fun _ => fun
  | [d1, d2, d3, d4] => { results := [.lit (.bool false)], args := [d1, d2, d3, d4] }
  | _ => none }
def FnExactSupRateWrongFalsely : Prop := fnExactSupRateRow.holds Try.pinned (OpenSpec.ofChange fnExactSupRateWrong)

/-- 'laws.FnExactBitPut': WHATEVER THE INPUT: true; the input reads as it did. -/
def fnExactBitPutSpec : ChangeSpec := { name := "fnExactBitPut", fn := fun _ => fun
  | [d1, d2, d3] => { results := [.lit (.bool true)], args := [d1, d2, d3] }
  | _ => none }
def fnExactBitPutRow : OpenClaim := { program := "ytjjnlbimegabpaa", sum := "60826d9680367ad932faec30fa1fcf5394344a31f87ae4b388d5301321e7d3c9", func := "loop.example/g00019/laws.FnExactBitPut", spec := "fnExactBitPut", apart := false }
def FnExactBitPutSaid : Prop := fnExactBitPutRow.holds Try.pinned (OpenSpec.ofChange fnExactBitPutSpec)

/-- ITS FALSE NEIGHBOUR: 'it returns false'. Refute it at one input. -/
def fnExactBitPutWrong : ChangeSpec := { name := "fnExactBitPut", fn := fun _ => fun
  | [d1, d2, d3] => { results := [.lit (.bool false)], args := [d1, d2, d3] }
  | _ => none }
def FnExactBitPutWrongFalsely : Prop := fnExactBitPutRow.holds Try.pinned (OpenSpec.ofChange fnExactBitPutWrong)

/-- 'laws.FnExactUnseal': WHATEVER THE INPUT: true; the input reads as it did. -/
def fnExactUnsealSpec : ChangeSpec := { name := "fnExactUnseal", fn := fun _ => fun
  | [d] => { results := [.lit (.bool true)], args := [d] }
  | _ => none }
def fnExactUnsealRow : OpenClaim := { program := "ytjjnlbimegabpaa", sum := "60826d9680367ad932faec30fa1fcf5394344a31f87ae4b388d5301321e7d3c9", func := "loop.example/g00019/laws.FnExactUnseal", spec := "fnExactUnseal", apart := false }
def FnExactUnsealSaid : Prop := fnExactUnsealRow.holds Try.pinned (OpenSpec.ofChange fnExactUnsealSpec)

/-- ITS FALSE NEIGHBOUR: 'it returns false'. Refute it at one input. -/
def fnExactUnsealWrong : ChangeSpec := { name := "fnExactUnseal", fn := fun _ => fun
  | [d] => { results := [.lit (.bool false)], args := [d] }
  | _ => none }
def FnExactUnsealWrongFalsely : Prop := fnExactUnsealRow.holds Try.pinned (OpenSpec.ofChange fnExactUnsealWrong)

/-- 'laws.FnExactHandOpen': WHATEVER THE INPUT: true; the input reads as it did. -/
def fnExactHandOpenSpec : ChangeSpec := { name := "fnExactHandOpen", fn := fun _ => fun
  | [d1, d2, d3, d4] => { results := [.lit (.bool true)], args := [d1, d2, d3, d4] }
  | _ => none }
def fnExactHandOpenRow : OpenClaim := { program := "ytjjnlbimegabpaa", sum := "60826d9680367ad932faec30fa1fcf5394344a31f87ae4b388d5301321e7d3c9", func := "loop.example/g00019/laws.FnExactHandOpen", spec := "fnExactHandOpen", apart := false }
def FnExactHandOpenSaid : Prop := fnExactHandOpenRow.holds Try.pinned (OpenSpec.ofChange fnExactHandOpenSpec)

/-- ITS FALSE NEIGHBOUR: 'it returns false'. Refute it at one input. -/
def fnExactHandOpenWrong : ChangeSpec := { name := "fnExactHandOpen", fn := fun _ => fun
  | [d1, d2, d3, d4] => { results := [.lit (.bool false)], args := [d1, d2, d3, d4] }
  | _ => none }
def FnExactHandOpenWrongFalsely : Prop := fnExactHandOpenRow.holds Try.pinned (OpenSpec.ofChange fnExactHandOpenWrong)

/-- 'laws.FnExactBitGet': WHATEVER THE INPUT: true; the input reads as it did. -/
def fnExactBitGetSpec : ChangeSpec := { name := "fnExactBitGet", fn := fun _ => fun
  | [d1, d2, d3, d4, d5] => { results := [.lit (.bool true)], args := [d1, d2, d3, d4, d5] }
  | _ => none }
def fnExactBitGetRow : OpenClaim := { program := "ytjjnlbimegabpaa", sum := "60826d9680367ad932faec30fa1fcf5394344a31f87ae4b388d5301321e7d3c9", func := "loop.example/g00019/laws.FnExactBitGet", spec := "fnExactBitGet", recurses := true, apart := false }
def FnExactBitGetSaid : Prop := fnExactBitGetRow.holds Try.pinned (OpenSpec.ofChange fnExactBitGetSpec)

/-- ITS FALSE NEIGHBOUR: 'it returns false'. Refute it at one input. -/
def fnExactBitGetWrong : ChangeSpec := { name := "fnExactBitGet", fn := fun _ => fun
  | [d1, d2, d3, d4, d5] => { results := [.lit (.bool false)], args := [d1, d2, d3, d4, d5] }
  | _ => none }
def FnExactBitGetWrongFalsely : Prop := fnExactBitGetRow.holds Try.pinned (OpenSpec.ofChange fnExactBitGetWrong)

/-- 'laws.FnExactSupOK': WHATEVER THE INPUT: true; the input reads as it did. -/
def fnExactSupOKSpec : ChangeSpec := { name := "fnExactSupOK", fn := fun _ => fun
  | [d] => { results := [.lit (.bool true)], args := [d] }
  | _ => none }
def fnExactSupOKRow : OpenClaim := { program := "ytjjnlbimegabpaa", sum := "60826d9680367ad932faec30fa1fcf5394344a31f87ae4b388d5301321e7d3c9", func := "loop.example/g00019/laws.FnExactSupOK", spec := "fnExactSupOK", apart := false }
def FnExactSupOKSaid : Prop := fnExactSupOKRow.holds Try.pinned (OpenSpec.ofChange fnExactSupOKSpec)

/-- ITS FALSE NEIGHBOUR: 'it returns false'. Refute it at one input. -/
def fnExactSupOKWrong : ChangeSpec := { name := "fnExactSupOK", fn := fun _ => fun
  | [d] => { results := [.lit (.bool false)], args := [d] }
  | _ => none }
def FnExactSupOKWrongFalsely : Prop := fnExactSupOKRow.holds Try.pinned (OpenSpec.ofChange fnExactSupOKWrong)

/- THE SECOND FORM. 'bulk': how many values and letters a reading holds, each counted each time it is reached (what is shared counts as often as it is met; a slice's spare places count too). A statement '..UptoSaid' is the law's where the arguments, and the package variables that the reading takes, are together of bulk at most 1048576: NARROWER than '..Said'. Prove '..Said' where nothing that the law and all that it calls make is longer than what came in: it says more and counts as full. Else prove '..UptoSaid'. A law counts once. -/
mutual
def uptoBulk {H : Type} : DataW H → Nat
  | .lit (.string bytes) => bytes.length + 1
  | .lit _ => 1
  | .nil => 1
  | .ptr d => uptoBulk d + 1
  | .slice elems spare => uptoBulkAll elems + uptoBulkAll spare + 1
  | .agg parts => uptoBulkAll parts + 1
  | .iface _ d => uptoBulk d + 1
  | .map entries => uptoBulkEntries entries + 1
  | .held _ => 1
def uptoBulkAll {H : Type} : List (DataW H) → Nat
  | [] => 0
  | d :: r => uptoBulk d + uptoBulkAll r
def uptoBulkEntries {H : Type} : List (Lit × DataW H) → Nat
  | [] => 0
  | x :: r => uptoBulkEntry x + uptoBulkEntries r
def uptoBulkEntry {H : Type} : Lit × DataW H → Nat
  | (.string bytes, d) => bytes.length + uptoBulk d + 1
  | (_, d) => uptoBulk d + 1
 end
def uptoSmall : (H : Type) → List (DataW H) → Bool := fun _ ds => decide (uptoBulkAll ds ≤ 1048576)
def OpenSpec.upto (s : _root_.Go.ChangeSpec) : _root_.Go.OpenSpec := { _root_.Go.OpenSpec.ofChange s with cond := some uptoSmall }

/-- 'laws.FnExactConstants', WHERE WHAT IT READS IS OF BULK AT MOST 1048576: true; the input reads as it did. -/
def fnExactConstantsUptoRow : OpenClaim := { program := "ytjjnlbimegabpaa", sum := "60826d9680367ad932faec30fa1fcf5394344a31f87ae4b388d5301321e7d3c9", func := "loop.example/g00019/laws.FnExactConstants", spec := "fnExactConstants", apart := false, narrowed := true }
def FnExactConstantsUptoSaid : Prop := fnExactConstantsUptoRow.holds Try.pinned (OpenSpec.upto fnExactConstantsSpec)

/-- 'laws.FnExactBitsOK', WHERE WHAT IT READS IS OF BULK AT MOST 1048576: true; the input reads as it did. -/
def fnExactBitsOKUptoRow : OpenClaim := { program := "ytjjnlbimegabpaa", sum := "60826d9680367ad932faec30fa1fcf5394344a31f87ae4b388d5301321e7d3c9", func := "loop.example/g00019/laws.FnExactBitsOK", spec := "fnExactBitsOK", apart := false, narrowed := true }
def FnExactBitsOKUptoSaid : Prop := fnExactBitsOKUptoRow.holds Try.pinned (OpenSpec.upto fnExactBitsOKSpec)

/-- 'laws.FnExactChoose', WHERE WHAT IT READS IS OF BULK AT MOST 1048576: true; the input reads as it did. -/
def fnExactChooseUptoRow : OpenClaim := { program := "ytjjnlbimegabpaa", sum := "60826d9680367ad932faec30fa1fcf5394344a31f87ae4b388d5301321e7d3c9", func := "loop.example/g00019/laws.FnExactChoose", spec := "fnExactChoose", apart := false, narrowed := true }
def FnExactChooseUptoSaid : Prop := fnExactChooseUptoRow.holds Try.pinned (OpenSpec.upto fnExactChooseSpec)

/-- 'laws.FnExactSeal', WHERE WHAT IT READS IS OF BULK AT MOST 1048576: true; the input reads as it did. -/
def fnExactSealUptoRow : OpenClaim := { program := "ytjjnlbimegabpaa", sum := "60826d9680367ad932faec30fa1fcf5394344a31f87ae4b388d5301321e7d3c9", func := "loop.example/g00019/laws.FnExactSeal", spec := "fnExactSeal", apart := false, narrowed := true }
def FnExactSealUptoSaid : Prop := fnExactSealUptoRow.holds Try.pinned (OpenSpec.upto fnExactSealSpec)

/-- 'laws.FnExactSupRate', WHERE WHAT IT READS IS OF BULK AT MOST 1048576: true; the input reads as it did. -/
def fnExactSupRateUptoRow : OpenClaim := { program := "ytjjnlbimegabpaa", sum := "60826d9680367ad932faec30fa1fcf5394344a31f87ae4b388d5301321e7d3c9", func := "loop.example/g00019/laws.FnExactSupRate", spec := "fnExactSupRate", apart := false, narrowed := true }
def FnExactSupRateUptoSaid : Prop := fnExactSupRateUptoRow.holds Try.pinned (OpenSpec.upto fnExactSupRateSpec)

/-- 'laws.FnExactBitPut', WHERE WHAT IT READS IS OF BULK AT MOST 1048576: true; the input reads as it did. -/
def fnExactBitPutUptoRow : OpenClaim := { program := "ytjjnlbimegabpaa", sum := "60826d9680367ad932faec30fa1fcf5394344a31f87ae4b388d5301321e7d3c9", func := "loop.example/g00019/laws.FnExactBitPut", spec := "fnExactBitPut", apart := false, narrowed := true }
def FnExactBitPutUptoSaid : Prop := fnExactBitPutUptoRow.holds Try.pinned (OpenSpec.upto fnExactBitPutSpec)

/-- 'laws.FnExactUnseal', WHERE WHAT IT READS IS OF BULK AT MOST 1048576: true; the input reads as it did. -/
def fnExactUnsealUptoRow : OpenClaim := { program := "ytjjnlbimegabpaa", sum := "60826d9680367ad932faec30fa1fcf5394344a31f87ae4b388d5301321e7d3c9", func := "loop.example/g00019/laws.FnExactUnseal", spec := "fnExactUnseal", apart := false, narrowed := true }
def FnExactUnsealUptoSaid : Prop := fnExactUnsealUptoRow.holds Try.pinned (OpenSpec.upto fnExactUnsealSpec)

/-- 'laws.FnExactHandOpen', WHERE WHAT IT READS IS OF BULK AT MOST 1048576: true; the input reads as it did. -/
def fnExactHandOpenUptoRow : OpenClaim := { program := "ytjjnlbimegabpaa", sum := "60826d9680367ad932faec30fa1fcf5394344a31f87ae4b388d5301321e7d3c9", func := "loop.example/g00019/laws.FnExactHandOpen", spec := "fnExactHandOpen", apart := false, narrowed := true }
def FnExactHandOpenUptoSaid : Prop := fnExactHandOpenUptoRow.holds Try.pinned (OpenSpec.upto fnExactHandOpenSpec)

/-- 'laws.FnExactBitGet', WHERE WHAT IT READS IS OF BULK AT MOST 1048576: true; the input reads as it did. -/
def fnExactBitGetUptoRow : OpenClaim := { program := "ytjjnlbimegabpaa", sum := "60826d9680367ad932faec30fa1fcf5394344a31f87ae4b388d5301321e7d3c9", func := "loop.example/g00019/laws.FnExactBitGet", spec := "fnExactBitGet", recurses := true, apart := false, narrowed := true }
def FnExactBitGetUptoSaid : Prop := fnExactBitGetUptoRow.holds Try.pinned (OpenSpec.upto fnExactBitGetSpec)

/-- 'laws.FnExactSupOK', WHERE WHAT IT READS IS OF BULK AT MOST 1048576: true; the input reads as it did. -/
def fnExactSupOKUptoRow : OpenClaim := { program := "ytjjnlbimegabpaa", sum := "60826d9680367ad932faec30fa1fcf5394344a31f87ae4b388d5301321e7d3c9", func := "loop.example/g00019/laws.FnExactSupOK", spec := "fnExactSupOK", apart := false, narrowed := true }
def FnExactSupOKUptoSaid : Prop := fnExactSupOKUptoRow.holds Try.pinned (OpenSpec.upto fnExactSupOKSpec)

end Rows
end Go.Proofs.Ytjjnlbimegabpaa
