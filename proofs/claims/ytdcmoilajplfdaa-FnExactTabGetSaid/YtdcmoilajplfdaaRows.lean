/-
  NARROWER THAN 'FOR EVERY INPUT', by the rows' own cells (each row's printed sentence says how): FnExactTermOK: loops · FnExactTermCompare: loops · FnExactTermSize: loops · FnExactTermHash: loops · FnExactTabOK: loops · FnExactSignal: loops · FnExactTabGet: loops · FnExactTabDrop: loops · FnExactTabPut: loops · FnExactSpecOK: loops.
  DERIVED. THE GIVEN ROWS OF THIS SEAT. 12 by the template 'for every input the law returns true; each argument reads behind the call as it read before'; 0 by the template 'total and deterministic' (their statements: YtdcmoilajplfdaaTotals.lean).
  GIVEN WITH THE SEED: the statements are not yours to turn. If you find one false, say at which input.
  Laid BY PROGRAM, IN A SANDBOX (cutbox-rows.mjs): the forced cells as the released guide's own fill.sh prints them over the translation f3ea8ff9f30c56f0… (all of the seat's roots in one cut). By AI agents, Wed Nov 11 2026. No macro, syntax, notation, axiom, sorry.
-/
import Derived.Test.YtdcmoilajplfdaaChecked
import GoSem.Claim
import GoSem.ClaimJoined
import GoSem.ClaimMapViews
import Derived.JoinedTies
import Derived.KernelRfl
namespace Go.Proofs.Ytdcmoilajplfdaa
/- THE CELL 'sum', in the pinned program and in every row, IS THE sha256 OF THE DUMP (.gsa) THAT YtdcmoilajplfdaaProg.lean LOADS. Nothing in Lean hashes anything: it is a label: what it is worth is what the hold of that sum in a sandbox is worth. -/
noncomputable def Try.pinned : Pinned := { name := "ytdcmoilajplfdaa", sum := "f3ea8ff9f30c56f0c8256a1069c18df8030c3db7d9712a2e8adafae265e03d6a", checked := Try.checked }
namespace Rows
def none {H : Type} : Left H := { results := [], args := [] }

/-- 'laws.FnExactTermOK': WHATEVER THE INPUT: true; the input reads as it did. -/
def fnExactTermOKSpec : ChangeSpec := { name := "fnExactTermOK", fn := fun _ => fun
  | [d] => { results := [.lit (.bool true)], args := [d] }
  | _ => none }
def fnExactTermOKRow : OpenClaim := { program := "ytdcmoilajplfdaa", sum := "f3ea8ff9f30c56f0c8256a1069c18df8030c3db7d9712a2e8adafae265e03d6a", func := "loop.example/g00019/laws.FnExactTermOK", spec := "fnExactTermOK", inPlace := ["internal/bytealg.abigen_runtime_cmpstring"], unfollowed := true, recurses := true, loops := true, apart := false }
def FnExactTermOKSaid : Prop := fnExactTermOKRow.holds Try.pinned (OpenSpec.ofChange fnExactTermOKSpec)

/-- ITS FALSE NEIGHBOUR: 'it returns false'. Refute it at one input. -/
def fnExactTermOKWrong : ChangeSpec := { name := "fnExactTermOK", fn := fun _ => fun
  | [d] => { results := [.lit (.bool false)], args := [d] }
  | _ => none }
def FnExactTermOKWrongFalsely : Prop := fnExactTermOKRow.holds Try.pinned (OpenSpec.ofChange fnExactTermOKWrong)

/-- 'laws.FnExactTermCompare': WHATEVER THE INPUT: true; the input reads as it did. -/
def fnExactTermCompareSpec : ChangeSpec := { name := "fnExactTermCompare", fn := fun _ => fun
  | [d1, d2] => { results := [.lit (.bool true)], args := [d1, d2] }
  | _ => none }
def fnExactTermCompareRow : OpenClaim := { program := "ytdcmoilajplfdaa", sum := "f3ea8ff9f30c56f0c8256a1069c18df8030c3db7d9712a2e8adafae265e03d6a", func := "loop.example/g00019/laws.FnExactTermCompare", spec := "fnExactTermCompare", inPlace := ["internal/bytealg.abigen_runtime_cmpstring"], unfollowed := true, recurses := true, loops := true, apart := false }
def FnExactTermCompareSaid : Prop := fnExactTermCompareRow.holds Try.pinned (OpenSpec.ofChange fnExactTermCompareSpec)

/-- ITS FALSE NEIGHBOUR: 'it returns false'. Refute it at one input. -/
def fnExactTermCompareWrong : ChangeSpec := { name := "fnExactTermCompare", fn := fun _ => fun
  | [d1, d2] => { results := [.lit (.bool false)], args := [d1, d2] }
  | _ => none }
def FnExactTermCompareWrongFalsely : Prop := fnExactTermCompareRow.holds Try.pinned (OpenSpec.ofChange fnExactTermCompareWrong)

/-- 'laws.FnExactTermSize': WHATEVER THE INPUT: true; the input reads as it did. -/
def fnExactTermSizeSpec : ChangeSpec := { name := "fnExactTermSize", fn := fun _ => fun
  | [d] => { results := [.lit (.bool true)], args := [d] }
  | _ => none }
def fnExactTermSizeRow : OpenClaim := { program := "ytdcmoilajplfdaa", sum := "f3ea8ff9f30c56f0c8256a1069c18df8030c3db7d9712a2e8adafae265e03d6a", func := "loop.example/g00019/laws.FnExactTermSize", spec := "fnExactTermSize", inPlace := ["internal/bytealg.abigen_runtime_cmpstring"], unfollowed := true, recurses := true, loops := true, apart := false }
def FnExactTermSizeSaid : Prop := fnExactTermSizeRow.holds Try.pinned (OpenSpec.ofChange fnExactTermSizeSpec)

/-- ITS FALSE NEIGHBOUR: 'it returns false'. Refute it at one input. -/
def fnExactTermSizeWrong : ChangeSpec := { name := "fnExactTermSize", fn := fun _ => fun
  | [d] => { results := [.lit (.bool false)], args := [d] }
  | _ => none }
def FnExactTermSizeWrongFalsely : Prop := fnExactTermSizeRow.holds Try.pinned (OpenSpec.ofChange fnExactTermSizeWrong)

/-- 'laws.FnExactTermHash': WHATEVER THE INPUT: true; the input reads as it did. -/
def fnExactTermHashSpec : ChangeSpec := { name := "fnExactTermHash", fn := fun _ => fun
  | [d] => { results := [.lit (.bool true)], args := [d] }
  | _ => none }
def fnExactTermHashRow : OpenClaim := { program := "ytdcmoilajplfdaa", sum := "f3ea8ff9f30c56f0c8256a1069c18df8030c3db7d9712a2e8adafae265e03d6a", func := "loop.example/g00019/laws.FnExactTermHash", spec := "fnExactTermHash", inPlace := ["internal/bytealg.abigen_runtime_cmpstring"], unfollowed := true, recurses := true, loops := true, apart := false }
def FnExactTermHashSaid : Prop := fnExactTermHashRow.holds Try.pinned (OpenSpec.ofChange fnExactTermHashSpec)

/-- ITS FALSE NEIGHBOUR: 'it returns false'. Refute it at one input. -/
def fnExactTermHashWrong : ChangeSpec := { name := "fnExactTermHash", fn := fun _ => fun
  | [d] => { results := [.lit (.bool false)], args := [d] }
  | _ => none }
def FnExactTermHashWrongFalsely : Prop := fnExactTermHashRow.holds Try.pinned (OpenSpec.ofChange fnExactTermHashWrong)

/-- 'laws.FnExactTabOK': WHATEVER THE INPUT: true; the input reads as it did. -/
def fnExactTabOKSpec : ChangeSpec := { name := "fnExactTabOK", fn := fun _ => fun
  | [d] => { results := [.lit (.bool true)], args := [d] }
  | _ => none }
def fnExactTabOKRow : OpenClaim := { program := "ytdcmoilajplfdaa", sum := "f3ea8ff9f30c56f0c8256a1069c18df8030c3db7d9712a2e8adafae265e03d6a", func := "loop.example/g00019/laws.FnExactTabOK", spec := "fnExactTabOK", inPlace := ["internal/bytealg.abigen_runtime_cmpstring"], unfollowed := true, recurses := true, loops := true, apart := false }
def FnExactTabOKSaid : Prop := fnExactTabOKRow.holds Try.pinned (OpenSpec.ofChange fnExactTabOKSpec)

/-- ITS FALSE NEIGHBOUR: 'it returns false'. Refute it at one input. -/
def fnExactTabOKWrong : ChangeSpec := { name := "fnExactTabOK", fn := fun _ => fun
  | [d] => { results := [.lit (.bool false)], args := [d] }
  | _ => none }
def FnExactTabOKWrongFalsely : Prop := fnExactTabOKRow.holds Try.pinned (OpenSpec.ofChange fnExactTabOKWrong)

/-- 'laws.FnOrder': WHATEVER THE INPUT: true; the input reads as it did. -/
def fnOrderSpec : ChangeSpec := { name := "fnOrder", fn := fun _ => fun
  | [d] => { results := [.lit (.bool true)], args := [d] }
  | _ => none }
def fnOrderRow : OpenClaim := { program := "ytdcmoilajplfdaa", sum := "f3ea8ff9f30c56f0c8256a1069c18df8030c3db7d9712a2e8adafae265e03d6a", func := "loop.example/g00019/laws.FnOrder", spec := "fnOrder", inPlace := ["internal/bytealg.abigen_runtime_cmpstring"], unfollowed := true, recurses := true, apart := false }
def FnOrderSaid : Prop := fnOrderRow.holds Try.pinned (OpenSpec.ofChange fnOrderSpec)

/-- ITS FALSE NEIGHBOUR: 'it returns false'. Refute it at one input. -/
def fnOrderWrong : ChangeSpec := { name := "fnOrder", fn := fun _ => fun
  | [d] => { results := [.lit (.bool false)], args := [d] }
  | _ => none }
def FnOrderWrongFalsely : Prop := fnOrderRow.holds Try.pinned (OpenSpec.ofChange fnOrderWrong)

/-- 'laws.FnExactSignal': WHATEVER THE INPUT: true; the input reads as it did. -/
def fnExactSignalSpec : ChangeSpec := { name := "fnExactSignal", fn := fun _ => fun
  | [d1, d2, d3] => { results := [.lit (.bool true)], args := [d1, d2, d3] }
  | _ => none }
def fnExactSignalRow : OpenClaim := { program := "ytdcmoilajplfdaa", sum := "f3ea8ff9f30c56f0c8256a1069c18df8030c3db7d9712a2e8adafae265e03d6a", func := "loop.example/g00019/laws.FnExactSignal", spec := "fnExactSignal", inPlace := ["internal/bytealg.abigen_runtime_cmpstring"], unfollowed := true, recurses := true, loops := true, apart := false }
def FnExactSignalSaid : Prop := fnExactSignalRow.holds Try.pinned (OpenSpec.ofChange fnExactSignalSpec)

/-- ITS FALSE NEIGHBOUR: 'it returns false'. Refute it at one input. -/
def fnExactSignalWrong : ChangeSpec := { name := "fnExactSignal", fn := fun _ => fun
  | [d1, d2, d3] => { results := [.lit (.bool false)], args := [d1, d2, d3] }
  | _ => none }
def FnExactSignalWrongFalsely : Prop := fnExactSignalRow.holds Try.pinned (OpenSpec.ofChange fnExactSignalWrong)

/-- 'laws.FnExactTabGet': WHATEVER THE INPUT: true; the input reads as it did. -/
def fnExactTabGetSpec : ChangeSpec := { name := "fnExactTabGet", fn := fun _ => fun
  | [d1, d2] => { results := [.lit (.bool true)], args := [d1, d2] }
  | _ => none }
def fnExactTabGetRow : OpenClaim := { program := "ytdcmoilajplfdaa", sum := "f3ea8ff9f30c56f0c8256a1069c18df8030c3db7d9712a2e8adafae265e03d6a", func := "loop.example/g00019/laws.FnExactTabGet", spec := "fnExactTabGet", inPlace := ["internal/bytealg.abigen_runtime_cmpstring"], unfollowed := true, recurses := true, loops := true, apart := false }
def FnExactTabGetSaid : Prop := fnExactTabGetRow.holds Try.pinned (OpenSpec.ofChange fnExactTabGetSpec)

/-- ITS FALSE NEIGHBOUR: 'it returns false'. Refute it at one input. -/
def fnExactTabGetWrong : ChangeSpec := { name := "fnExactTabGet", fn := fun _ => fun
  | [d1, d2] => { results := [.lit (.bool false)], args := [d1, d2] }
  | _ => none }
def FnExactTabGetWrongFalsely : Prop := fnExactTabGetRow.holds Try.pinned (OpenSpec.ofChange fnExactTabGetWrong)

/-- 'laws.FnExactTabDrop': WHATEVER THE INPUT: true; the input reads as it did. -/
def fnExactTabDropSpec : ChangeSpec := { name := "fnExactTabDrop", fn := fun _ => fun
  | [d1, d2] => { results := [.lit (.bool true)], args := [d1, d2] }
  | _ => none }
def fnExactTabDropRow : OpenClaim := { program := "ytdcmoilajplfdaa", sum := "f3ea8ff9f30c56f0c8256a1069c18df8030c3db7d9712a2e8adafae265e03d6a", func := "loop.example/g00019/laws.FnExactTabDrop", spec := "fnExactTabDrop", inPlace := ["internal/bytealg.abigen_runtime_cmpstring"], unfollowed := true, recurses := true, loops := true, apart := false }
def FnExactTabDropSaid : Prop := fnExactTabDropRow.holds Try.pinned (OpenSpec.ofChange fnExactTabDropSpec)

/-- ITS FALSE NEIGHBOUR: 'it returns false'. Refute it at one input. -/
def fnExactTabDropWrong : ChangeSpec := { name := "fnExactTabDrop", fn := fun _ => fun
  | [d1, d2] => { results := [.lit (.bool false)], args := [d1, d2] }
  | _ => none }
def FnExactTabDropWrongFalsely : Prop := fnExactTabDropRow.holds Try.pinned (OpenSpec.ofChange fnExactTabDropWrong)

/-- 'laws.FnExactTabPut': WHATEVER THE INPUT: true; the input reads as it did. -/
def fnExactTabPutSpec : ChangeSpec := { name := "fnExactTabPut", fn := fun _ => fun
  | [d1, d2] => { results := [.lit (.bool true)], args := [d1, d2] }
  | _ => none }
def fnExactTabPutRow : OpenClaim := { program := "ytdcmoilajplfdaa", sum := "f3ea8ff9f30c56f0c8256a1069c18df8030c3db7d9712a2e8adafae265e03d6a", func := "loop.example/g00019/laws.FnExactTabPut", spec := "fnExactTabPut", inPlace := ["internal/bytealg.abigen_runtime_cmpstring", "slices.overlaps[loop.example/g00019/impl.Term]"], unfollowed := true, recurses := true, loops := true, apart := false }
def FnExactTabPutSaid : Prop := fnExactTabPutRow.holds Try.pinned (OpenSpec.ofChange fnExactTabPutSpec)

/-- ITS FALSE NEIGHBOUR: 'it returns false'. Refute it at one input. -/
def fnExactTabPutWrong : ChangeSpec := { name := "fnExactTabPut", fn := fun _ => fun
  | [d1, d2] => { results := [.lit (.bool false)], args := [d1, d2] }
  | _ => none }
def FnExactTabPutWrongFalsely : Prop := fnExactTabPutRow.holds Try.pinned (OpenSpec.ofChange fnExactTabPutWrong)

/-- 'laws.FnRowsKept': WHATEVER THE INPUT: true; the input reads as it did. -/
def fnRowsKeptSpec : ChangeSpec := { name := "fnRowsKept", fn := fun _ => fun
  | [d] => { results := [.lit (.bool true)], args := [d] }
  | _ => none }
def fnRowsKeptRow : OpenClaim := { program := "ytdcmoilajplfdaa", sum := "f3ea8ff9f30c56f0c8256a1069c18df8030c3db7d9712a2e8adafae265e03d6a", func := "loop.example/g00019/laws.FnRowsKept", spec := "fnRowsKept", inPlace := ["internal/bytealg.abigen_runtime_cmpstring", "slices.overlaps[loop.example/g00019/impl.Term]"], unfollowed := true, recurses := true, apart := false }
def FnRowsKeptSaid : Prop := fnRowsKeptRow.holds Try.pinned (OpenSpec.ofChange fnRowsKeptSpec)

/-- ITS FALSE NEIGHBOUR: 'it returns false'. Refute it at one input. -/
def fnRowsKeptWrong : ChangeSpec := { name := "fnRowsKept", fn := fun _ => fun
  | [d] => { results := [.lit (.bool false)], args := [d] }
  | _ => none }
def FnRowsKeptWrongFalsely : Prop := fnRowsKeptRow.holds Try.pinned (OpenSpec.ofChange fnRowsKeptWrong)

/-- 'laws.FnExactSpecOK': WHATEVER THE INPUT: true; the input reads as it did. -/
def fnExactSpecOKSpec : ChangeSpec := { name := "fnExactSpecOK", fn := fun _ => fun
  | [d] => { results := [.lit (.bool true)], args := [d] }
  | _ => none }
def fnExactSpecOKRow : OpenClaim := { program := "ytdcmoilajplfdaa", sum := "f3ea8ff9f30c56f0c8256a1069c18df8030c3db7d9712a2e8adafae265e03d6a", func := "loop.example/g00019/laws.FnExactSpecOK", spec := "fnExactSpecOK", inPlace := ["internal/bytealg.abigen_runtime_cmpstring"], unfollowed := true, recurses := true, loops := true, apart := false }
def FnExactSpecOKSaid : Prop := fnExactSpecOKRow.holds Try.pinned (OpenSpec.ofChange fnExactSpecOKSpec)

/-- ITS FALSE NEIGHBOUR: 'it returns false'. Refute it at one input. -/
def fnExactSpecOKWrong : ChangeSpec := { name := "fnExactSpecOK", fn := fun _ => fun
  | [d] => { results := [.lit (.bool false)], args := [d] }
  | _ => none }
def FnExactSpecOKWrongFalsely : Prop := fnExactSpecOKRow.holds Try.pinned (OpenSpec.ofChange fnExactSpecOKWrong)

/- THE SECOND FORM. 'bulk': how many values and letters a reading holds, each counted each time it is reached (what is shared counts as often as it is met; a slice's spare places count too). A statement '..UptoSaid' is the law's where the arguments, and the package variables that the reading takes, are together of bulk at most 1048576: NARROWER than '..Said'. Prove '..Said' where nothing that the law and all that it calls make is longer than what came in: it says more and counts as full. Else prove '..UptoSaid'. A law counts once. -/
mutual
def uptoBulk {H : Type} : DataW H → Nat
  | .lit (.string bytes) => bytes.length + 1
  | .lit _ => 1
  | .nil => 1
  | .ptr d => uptoBulk d + 1
  | .slice elems spare => uptoBulkAll elems + uptoBulkAll spare + 1
  | .agg parts => uptoBulkAll parts + 1
  | .iface _ d => uptoBulk d + 1
  | .map entries => uptoBulkEntries entries + 1
  | .held _ => 1
def uptoBulkAll {H : Type} : List (DataW H) → Nat
  | [] => 0
  | d :: r => uptoBulk d + uptoBulkAll r
def uptoBulkEntries {H : Type} : List (Lit × DataW H) → Nat
  | [] => 0
  | x :: r => uptoBulkEntry x + uptoBulkEntries r
def uptoBulkEntry {H : Type} : Lit × DataW H → Nat
  | (.string bytes, d) => bytes.length + uptoBulk d + 1
  | (_, d) => uptoBulk d + 1
 end
def uptoSmall : (H : Type) → List (DataW H) → Bool := fun _ ds => decide (uptoBulkAll ds ≤ 1048576)
def OpenSpec.upto (s : _root_.Go.ChangeSpec) : _root_.Go.OpenSpec := { _root_.Go.OpenSpec.ofChange s with cond := some uptoSmall }

/-- 'laws.FnExactTermOK', WHERE WHAT IT READS IS OF BULK AT MOST 1048576: true; the input reads as it did. -/
def fnExactTermOKUptoRow : OpenClaim := { program := "ytdcmoilajplfdaa", sum := "f3ea8ff9f30c56f0c8256a1069c18df8030c3db7d9712a2e8adafae265e03d6a", func := "loop.example/g00019/laws.FnExactTermOK", spec := "fnExactTermOK", inPlace := ["internal/bytealg.abigen_runtime_cmpstring"], unfollowed := true, recurses := true, loops := true, apart := false, narrowed := true }
def FnExactTermOKUptoSaid : Prop := fnExactTermOKUptoRow.holds Try.pinned (OpenSpec.upto fnExactTermOKSpec)

/-- 'laws.FnExactTermCompare', WHERE WHAT IT READS IS OF BULK AT MOST 1048576: true; the input reads as it did. -/
def fnExactTermCompareUptoRow : OpenClaim := { program := "ytdcmoilajplfdaa", sum := "f3ea8ff9f30c56f0c8256a1069c18df8030c3db7d9712a2e8adafae265e03d6a", func := "loop.example/g00019/laws.FnExactTermCompare", spec := "fnExactTermCompare", inPlace := ["internal/bytealg.abigen_runtime_cmpstring"], unfollowed := true, recurses := true, loops := true, apart := false, narrowed := true }
def FnExactTermCompareUptoSaid : Prop := fnExactTermCompareUptoRow.holds Try.pinned (OpenSpec.upto fnExactTermCompareSpec)

/-- 'laws.FnExactTermSize', WHERE WHAT IT READS IS OF BULK AT MOST 1048576: true; the input reads as it did. -/
def fnExactTermSizeUptoRow : OpenClaim := { program := "ytdcmoilajplfdaa", sum := "f3ea8ff9f30c56f0c8256a1069c18df8030c3db7d9712a2e8adafae265e03d6a", func := "loop.example/g00019/laws.FnExactTermSize", spec := "fnExactTermSize", inPlace := ["internal/bytealg.abigen_runtime_cmpstring"], unfollowed := true, recurses := true, loops := true, apart := false, narrowed := true }
def FnExactTermSizeUptoSaid : Prop := fnExactTermSizeUptoRow.holds Try.pinned (OpenSpec.upto fnExactTermSizeSpec)

/-- 'laws.FnExactTermHash', WHERE WHAT IT READS IS OF BULK AT MOST 1048576: true; the input reads as it did. -/
def fnExactTermHashUptoRow : OpenClaim := { program := "ytdcmoilajplfdaa", sum := "f3ea8ff9f30c56f0c8256a1069c18df8030c3db7d9712a2e8adafae265e03d6a", func := "loop.example/g00019/laws.FnExactTermHash", spec := "fnExactTermHash", inPlace := ["internal/bytealg.abigen_runtime_cmpstring"], unfollowed := true, recurses := true, loops := true, apart := false, narrowed := true }
def FnExactTermHashUptoSaid : Prop := fnExactTermHashUptoRow.holds Try.pinned (OpenSpec.upto fnExactTermHashSpec)

/-- 'laws.FnExactTabOK', WHERE WHAT IT READS IS OF BULK AT MOST 1048576: true; the input reads as it did. -/
def fnExactTabOKUptoRow : OpenClaim := { program := "ytdcmoilajplfdaa", sum := "f3ea8ff9f30c56f0c8256a1069c18df8030c3db7d9712a2e8adafae265e03d6a", func := "loop.example/g00019/laws.FnExactTabOK", spec := "fnExactTabOK", inPlace := ["internal/bytealg.abigen_runtime_cmpstring"], unfollowed := true, recurses := true, loops := true, apart := false, narrowed := true }
def FnExactTabOKUptoSaid : Prop := fnExactTabOKUptoRow.holds Try.pinned (OpenSpec.upto fnExactTabOKSpec)

/-- 'laws.FnOrder', WHERE WHAT IT READS IS OF BULK AT MOST 1048576: true; the input reads as it did. -/
def fnOrderUptoRow : OpenClaim := { program := "ytdcmoilajplfdaa", sum := "f3ea8ff9f30c56f0c8256a1069c18df8030c3db7d9712a2e8adafae265e03d6a", func := "loop.example/g00019/laws.FnOrder", spec := "fnOrder", inPlace := ["internal/bytealg.abigen_runtime_cmpstring"], unfollowed := true, recurses := true, apart := false, narrowed := true }
def FnOrderUptoSaid : Prop := fnOrderUptoRow.holds Try.pinned (OpenSpec.upto fnOrderSpec)

/-- 'laws.FnExactSignal', WHERE WHAT IT READS IS OF BULK AT MOST 1048576: true; the input reads as it did. -/
def fnExactSignalUptoRow : OpenClaim := { program := "ytdcmoilajplfdaa", sum := "f3ea8ff9f30c56f0c8256a1069c18df8030c3db7d9712a2e8adafae265e03d6a", func := "loop.example/g00019/laws.FnExactSignal", spec := "fnExactSignal", inPlace := ["internal/bytealg.abigen_runtime_cmpstring"], unfollowed := true, recurses := true, loops := true, apart := false, narrowed := true }
def FnExactSignalUptoSaid : Prop := fnExactSignalUptoRow.holds Try.pinned (OpenSpec.upto fnExactSignalSpec)

/-- 'laws.FnExactTabGet', WHERE WHAT IT READS IS OF BULK AT MOST 1048576: true; the input reads as it did. -/
def fnExactTabGetUptoRow : OpenClaim := { program := "ytdcmoilajplfdaa", sum := "f3ea8ff9f30c56f0c8256a1069c18df8030c3db7d9712a2e8adafae265e03d6a", func := "loop.example/g00019/laws.FnExactTabGet", spec := "fnExactTabGet", inPlace := ["internal/bytealg.abigen_runtime_cmpstring"], unfollowed := true, recurses := true, loops := true, apart := false, narrowed := true }
def FnExactTabGetUptoSaid : Prop := fnExactTabGetUptoRow.holds Try.pinned (OpenSpec.upto fnExactTabGetSpec)

/-- 'laws.FnExactTabDrop', WHERE WHAT IT READS IS OF BULK AT MOST 1048576: true; the input reads as it did. -/
def fnExactTabDropUptoRow : OpenClaim := { program := "ytdcmoilajplfdaa", sum := "f3ea8ff9f30c56f0c8256a1069c18df8030c3db7d9712a2e8adafae265e03d6a", func := "loop.example/g00019/laws.FnExactTabDrop", spec := "fnExactTabDrop", inPlace := ["internal/bytealg.abigen_runtime_cmpstring"], unfollowed := true, recurses := true, loops := true, apart := false, narrowed := true }
def FnExactTabDropUptoSaid : Prop := fnExactTabDropUptoRow.holds Try.pinned (OpenSpec.upto fnExactTabDropSpec)

/-- 'laws.FnExactTabPut', WHERE WHAT IT READS IS OF BULK AT MOST 1048576: true; the input reads as it did. -/
def fnExactTabPutUptoRow : OpenClaim := { program := "ytdcmoilajplfdaa", sum := "f3ea8ff9f30c56f0c8256a1069c18df8030c3db7d9712a2e8adafae265e03d6a", func := "loop.example/g00019/laws.FnExactTabPut", spec := "fnExactTabPut", inPlace := ["internal/bytealg.abigen_runtime_cmpstring", "slices.overlaps[loop.example/g00019/impl.Term]"], unfollowed := true, recurses := true, loops := true, apart := false, narrowed := true }
def FnExactTabPutUptoSaid : Prop := fnExactTabPutUptoRow.holds Try.pinned (OpenSpec.upto fnExactTabPutSpec)

/-- 'laws.FnRowsKept', WHERE WHAT IT READS IS OF BULK AT MOST 1048576: true; the input reads as it did. -/
def fnRowsKeptUptoRow : OpenClaim := { program := "ytdcmoilajplfdaa", sum := "f3ea8ff9f30c56f0c8256a1069c18df8030c3db7d9712a2e8adafae265e03d6a", func := "loop.example/g00019/laws.FnRowsKept", spec := "fnRowsKept", inPlace := ["internal/bytealg.abigen_runtime_cmpstring", "slices.overlaps[loop.example/g00019/impl.Term]"], unfollowed := true, recurses := true, apart := false, narrowed := true }
def FnRowsKeptUptoSaid : Prop := fnRowsKeptUptoRow.holds Try.pinned (OpenSpec.upto fnRowsKeptSpec)

/-- 'laws.FnExactSpecOK', WHERE WHAT IT READS IS OF BULK AT MOST 1048576: true; the input reads as it did. -/
def fnExactSpecOKUptoRow : OpenClaim := { program := "ytdcmoilajplfdaa", sum := "f3ea8ff9f30c56f0c8256a1069c18df8030c3db7d9712a2e8adafae265e03d6a", func := "loop.example/g00019/laws.FnExactSpecOK", spec := "fnExactSpecOK", inPlace := ["internal/bytealg.abigen_runtime_cmpstring"], unfollowed := true, recurses := true, loops := true, apart := false, narrowed := true }
def FnExactSpecOKUptoSaid : Prop := fnExactSpecOKUptoRow.holds Try.pinned (OpenSpec.upto fnExactSpecOKSpec)

end Rows
end Go.Proofs.Ytdcmoilajplfdaa
