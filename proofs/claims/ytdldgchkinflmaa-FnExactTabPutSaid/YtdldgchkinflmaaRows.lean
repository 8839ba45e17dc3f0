/-
  NARROWER THAN 'FOR EVERY INPUT', by the rows' own cells (each row's printed sentence says how): FnExactTabDrop: loops · FnExactTabPut: loops · FnExactReportOK: loops · FnExactTermPack: loops.
  DERIVED. THE GIVEN ROWS OF THIS SEAT. 11 by the template 'for every input the law returns true; each argument reads behind the call as it read before'; 0 by the template 'total and deterministic' (their statements: YtdldgchkinflmaaTotals.lean).
  GIVEN WITH THE SEED: the statements are not yours to turn. If you find one false, say at which input.
  Laid BY PROGRAM, IN A SANDBOX (cutbox-rows.mjs): the forced cells as the released guide's own fill.sh prints them over the translation 03ef7809e8c4fae3… (all of the seat's roots in one cut). By AI agents, Wed Nov 11 2026. No macro, syntax, notation, axiom, sorry.
-/
import Derived.Test.YtdldgchkinflmaaChecked
import GoSem.Claim
import GoSem.ClaimJoined
import GoSem.ClaimMapViews
import Derived.JoinedTies
import Derived.KernelRfl
namespace Go.Proofs.Ytdldgchkinflmaa
/- THE CELL 'sum', in the pinned program and in every row, IS THE sha256 OF THE DUMP (.gsa) THAT YtdldgchkinflmaaProg.lean LOADS. Nothing in Lean hashes anything: it is a label: what it is worth is what the hold of that sum in a sandbox is worth. -/
noncomputable def Try.pinned : Pinned := { name := "ytdldgchkinflmaa", sum := "03ef7809e8c4fae3ecbc5afa6ab5f0e77d3bc55e34a1397b105923fc17c9d822", checked := Try.checked }
namespace Rows
def none {H : Type} : Left H := { results := [], args := [] }

/-- 'laws.FnOrder': WHATEVER THE INPUT: true; the input reads as it did. -/
def fnOrderSpec : ChangeSpec := { name := "fnOrder", fn := fun _ => fun
  | [d] => { results := [.lit (.bool true)], args := [d] }
  | _ => none }
def fnOrderRow : OpenClaim := { program := "ytdldgchkinflmaa", sum := "03ef7809e8c4fae3ecbc5afa6ab5f0e77d3bc55e34a1397b105923fc17c9d822", func := "loop.example/g00019/laws.FnOrder", spec := "fnOrder", inPlace := ["internal/bytealg.abigen_runtime_cmpstring"], unfollowed := true, recurses := true, apart := false }
def FnOrderSaid : Prop := fnOrderRow.holds Try.pinned (OpenSpec.ofChange fnOrderSpec)

/-- ITS FALSE NEIGHBOUR: 'it returns false'. Refute it at one input. -/
def fnOrderWrong : ChangeSpec := { name := "fnOrder", fn := fun _ => fun
  | [d] => { results := [.lit (.bool false)], args := [d] }
  | _ => none }
def FnOrderWrongFalsely : Prop := fnOrderRow.holds Try.pinned (OpenSpec.ofChange fnOrderWrong)

/-- 'laws.FnExactTabDrop': WHATEVER THE INPUT: true; the input reads as it did. -/
def fnExactTabDropSpec : ChangeSpec := { name := "fnExactTabDrop", fn := fun _ => fun
  | [d1, d2] => { results := [.lit (.bool true)], args := [d1, d2] }
  | _ => none }
def fnExactTabDropRow : OpenClaim := { program := "ytdldgchkinflmaa", sum := "03ef7809e8c4fae3ecbc5afa6ab5f0e77d3bc55e34a1397b105923fc17c9d822", func := "loop.example/g00019/laws.FnExactTabDrop", spec := "fnExactTabDrop", inPlace := ["internal/bytealg.abigen_runtime_cmpstring"], unfollowed := true, recurses := true, loops := true, apart := false }
def FnExactTabDropSaid : Prop := fnExactTabDropRow.holds Try.pinned (OpenSpec.ofChange fnExactTabDropSpec)

/-- ITS FALSE NEIGHBOUR: 'it returns false'. Refute it at one input. -/
def fnExactTabDropWrong : ChangeSpec := { name := "fnExactTabDrop", fn := fun _ => fun
  | [d1, d2] => { results := [.lit (.bool false)], args := [d1, d2] }
  | _ => none }
def FnExactTabDropWrongFalsely : Prop := fnExactTabDropRow.holds Try.pinned (OpenSpec.ofChange fnExactTabDropWrong)

/-- 'laws.FnExactTabPut': WHATEVER THE INPUT: true; the input reads as it did. -/
def fnExactTabPutSpec : ChangeSpec := { name := "fnExactTabPut", fn := fun _ => fun
  | [d1, d2] => { results := [.lit (.bool true)], args := [d1, d2] }
  | _ => none }
def fnExactTabPutRow : OpenClaim := { program := "ytdldgchkinflmaa", sum := "03ef7809e8c4fae3ecbc5afa6ab5f0e77d3bc55e34a1397b105923fc17c9d822", func := "loop.example/g00019/laws.FnExactTabPut", spec := "fnExactTabPut", inPlace := ["internal/bytealg.abigen_runtime_cmpstring", "slices.overlaps[loop.example/g00019/impl.Term]"], unfollowed := true, recurses := true, loops := true, apart := false }
def FnExactTabPutSaid : Prop := fnExactTabPutRow.holds Try.pinned (OpenSpec.ofChange fnExactTabPutSpec)

/-- ITS FALSE NEIGHBOUR: 'it returns false'. Refute it at one input. -/
def fnExactTabPutWrong : ChangeSpec := { name := "fnExactTabPut", fn := fun _ => fun
  | [d1, d2] => { results := [.lit (.bool false)], args := [d1, d2] }
  | _ => none }
def FnExactTabPutWrongFalsely : Prop := fnExactTabPutRow.holds Try.pinned (OpenSpec.ofChange fnExactTabPutWrong)

/-- 'laws.FnRowsKept': WHATEVER THE INPUT: true; the input reads as it did. -/
def fnRowsKeptSpec : ChangeSpec := { name := "fnRowsKept", fn := fun _ => fun
  | [d] => { results := [.lit (.bool true)], args := [d] }
  | _ => none }
def fnRowsKeptRow : OpenClaim := { program := "ytdldgchkinflmaa", sum := "03ef7809e8c4fae3ecbc5afa6ab5f0e77d3bc55e34a1397b105923fc17c9d822", func := "loop.example/g00019/laws.FnRowsKept", spec := "fnRowsKept", inPlace := ["internal/bytealg.abigen_runtime_cmpstring", "slices.overlaps[loop.example/g00019/impl.Term]"], unfollowed := true, recurses := true, apart := false }
def FnRowsKeptSaid : Prop := fnRowsKeptRow.holds Try.pinned (OpenSpec.ofChange fnRowsKeptSpec)

/-- ITS FALSE NEIGHBOUR: 'it returns false'. Refute it at one input. -/
def fnRowsKeptWrong : ChangeSpec := { name := "fnRowsKept", fn := fun _ => fun
  | [d] => { results := [.lit (.bool false)], args := [d] }
  | _ => none }
def FnRowsKeptWrongFalsely : Prop := fnRowsKeptRow.holds Try.pinned (OpenSpec.ofChange fnRowsKeptWrong)

/-- 'laws.FnExactReportOK': WHATEVER THE INPUT: true; the input reads as it did. -/
def fnExactReportOKSpec : ChangeSpec := { name := "fnExactReportOK", fn := fun _ => fun
  | [d] => { results := [.lit (.bool true)], args := [d] }
  | _ => none }
def fnExactReportOKRow : OpenClaim := { program := "ytdldgchkinflmaa", sum := "03ef7809e8c4fae3ecbc5afa6ab5f0e77d3bc55e34a1397b105923fc17c9d822", func := "loop.example/g00019/laws.FnExactReportOK", spec := "fnExactReportOK", inPlace := ["internal/bytealg.abigen_runtime_cmpstring"], unfollowed := true, recurses := true, loops := true, apart := false }
def FnExactReportOKSaid : Prop := fnExactReportOKRow.holds Try.pinned (OpenSpec.ofChange fnExactReportOKSpec)

/-- ITS FALSE NEIGHBOUR: 'it returns false'. Refute it at one input. -/
def fnExactReportOKWrong : ChangeSpec := { name := "fnExactReportOK", fn := fun _ => fun
  | [d] => { results := [.lit (.bool false)], args := [d] }
  | _ => none }
def FnExactReportOKWrongFalsely : Prop := fnExactReportOKRow.holds Try.pinned (OpenSpec.ofChange fnExactReportOKWrong)

/-- 'laws.FnExactTermPack': WHATEVER THE INPUT: true; the input reads as it did. -/
def fnExactTermPackSpec : ChangeSpec := { name := "fnExactTermPack", fn := fun _ => fun
  | [d] => { results := [.lit (.bool true)], args := [d] }
  | _ => none }
def fnExactTermPackRow : OpenClaim := { program := "ytdldgchkinflmaa", sum := "03ef7809e8c4fae3ecbc5afa6ab5f0e77d3bc55e34a1397b105923fc17c9d822", func := "loop.example/g00019/laws.FnExactTermPack", spec := "fnExactTermPack", inPlace := ["internal/bytealg.abigen_runtime_cmpstring", "internal/abi.NoEscape"], unfollowed := true, recurses := true, loops := true, apart := false }
def FnExactTermPackSaid : Prop := fnExactTermPackRow.holds Try.pinned (OpenSpec.ofChange fnExactTermPackSpec)

/-- ITS FALSE NEIGHBOUR: 'it returns false'. Refute it at one input. -/
def fnExactTermPackWrong : ChangeSpec := { name := "fnExactTermPack", fn := fun _ => fun
  | [d] => { results := [.lit (.bool false)], args := [d] }
  | _ => none }
def FnExactTermPackWrongFalsely : Prop := fnExactTermPackRow.holds Try.pinned (OpenSpec.ofChange fnExactTermPackWrong)

/-- 'laws.FnExactLinkRun': WHATEVER THE INPUT: true; the input reads as it did. -/
def fnExactLinkRunSpec : ChangeSpec := { name := "fnExactLinkRun", fn := fun _ => fun
  | [d1, d2] => { results := [.lit (.bool true)], args := [d1, d2] }
  | _ => none }
def fnExactLinkRunRow : OpenClaim := { program := "ytdldgchkinflmaa", sum := "03ef7809e8c4fae3ecbc5afa6ab5f0e77d3bc55e34a1397b105923fc17c9d822", func := "loop.example/g00019/laws.FnExactLinkRun", spec := "fnExactLinkRun", apart := false }
def FnExactLinkRunSaid : Prop := fnExactLinkRunRow.holds Try.pinned (OpenSpec.ofChange fnExactLinkRunSpec)

/-- ITS FALSE NEIGHBOUR: 'it returns false'. Refute it at one input. -/
def fnExactLinkRunWrong : ChangeSpec := { name := "fnExactLinkRun", fn := fun _ => fun
  | [d1, d2] => { results := [.lit (.bool false)], args := [d1, d2] }
  | _ => none }
def FnExactLinkRunWrongFalsely : Prop := fnExactLinkRunRow.holds Try.pinned (OpenSpec.ofChange fnExactLinkRunWrong)

/-- 'laws.FnExactMemOK': WHATEVER THE INPUT: true; the input reads as it did. -/
def fnExactMemOKSpec : ChangeSpec := { name := "fnExactMemOK", fn := fun _ => fun
  | [d] => { results := [.lit (.bool true)], args := [d] }
  | _ => none }
def fnExactMemOKRow : OpenClaim := { program := "ytdldgchkinflmaa", sum := "03ef7809e8c4fae3ecbc5afa6ab5f0e77d3bc55e34a1397b105923fc17c9d822", func := "loop.example/g00019/laws.FnExactMemOK", spec := "fnExactMemOK", apart := false }
def FnExactMemOKSaid : Prop := fnExactMemOKRow.holds Try.pinned (OpenSpec.ofChange fnExactMemOKSpec)

/-- ITS FALSE NEIGHBOUR: 'it returns false'. Refute it at one input. -/
def fnExactMemOKWrong : ChangeSpec := { name := "fnExactMemOK", fn := fun _ => fun
  | [d] => { results := [.lit (.bool false)], args := [d] }
  | _ => none }
def FnExactMemOKWrongFalsely : Prop := fnExactMemOKRow.holds Try.pinned (OpenSpec.ofChange fnExactMemOKWrong)

/-- 'laws.FnExactMemBirth': WHATEVER THE INPUT: true; the input reads as it did. -/
def fnExactMemBirthSpec : ChangeSpec := { name := "fnExactMemBirth", fn := fun _ => fun
  | [d] => { results := [.lit (.bool true)], args := [d] }
  | _ => none }
def fnExactMemBirthRow : OpenClaim := { program := "ytdldgchkinflmaa", sum := "03ef7809e8c4fae3ecbc5afa6ab5f0e77d3bc55e34a1397b105923fc17c9d822", func := "loop.example/g00019/laws.FnExactMemBirth", spec := "fnExactMemBirth", apart := false }
def FnExactMemBirthSaid : Prop := fnExactMemBirthRow.holds Try.pinned (OpenSpec.ofChange fnExactMemBirthSpec)

/-- ITS FALSE NEIGHBOUR: 'it returns false'. Refute it at one input. -/
def fnExactMemBirthWrong : ChangeSpec := { name := "fnExactMemBirth", fn := fun _ => fun
  | [d] => { results := [.lit (.bool false)], args := [d] }
  | _ => none }
def FnExactMemBirthWrongFalsely : Prop := fnExactMemBirthRow.holds Try.pinned (OpenSpec.ofChange fnExactMemBirthWrong)

/-- 'laws.FnExactTermUnpack': WHATEVER THE INPUT: true; the input reads as it did. -/
def fnExactTermUnpackSpec : ChangeSpec := { name := "fnExactTermUnpack", fn := fun _ => fun
  | [d] => { results := [.lit (.bool true)], args := [d] }
  | _ => none }
def fnExactTermUnpackRow : OpenClaim := { program := "ytdldgchkinflmaa", sum := "03ef7809e8c4fae3ecbc5afa6ab5f0e77d3bc55e34a1397b105923fc17c9d822", func := "loop.example/g00019/laws.FnExactTermUnpack", spec := "fnExactTermUnpack", inPlace := ["internal/bytealg.abigen_runtime_cmpstring", "internal/abi.NoEscape"], unfollowed := true, recurses := true, apart := false }
def FnExactTermUnpackSaid : Prop := fnExactTermUnpackRow.holds Try.pinned (OpenSpec.ofChange fnExactTermUnpackSpec)

/-- ITS FALSE NEIGHBOUR: 'it returns false'. Refute it at one input. -/
def fnExactTermUnpackWrong : ChangeSpec := { name := "fnExactTermUnpack", fn := fun _ => fun
  | [d] => { results := [.lit (.bool false)], args := [d] }
  | _ => none }
def FnExactTermUnpackWrongFalsely : Prop := fnExactTermUnpackRow.holds Try.pinned (OpenSpec.ofChange fnExactTermUnpackWrong)

/-- 'laws.FnTermBytes': WHATEVER THE INPUT: true; the input reads as it did. -/
def fnTermBytesSpec : ChangeSpec := { name := "fnTermBytes", fn := fun _ => fun
  | [d] => { results := [.lit (.bool true)], args := [d] }
  | _ => none }
def fnTermBytesRow : OpenClaim := { program := "ytdldgchkinflmaa", sum := "03ef7809e8c4fae3ecbc5afa6ab5f0e77d3bc55e34a1397b105923fc17c9d822", func := "loop.example/g00019/laws.FnTermBytes", spec := "fnTermBytes", inPlace := ["internal/bytealg.abigen_runtime_cmpstring", "internal/abi.NoEscape"], unfollowed := true, recurses := true, apart := false }
def FnTermBytesSaid : Prop := fnTermBytesRow.holds Try.pinned (OpenSpec.ofChange fnTermBytesSpec)

/-- ITS FALSE NEIGHBOUR: 'it returns false'. Refute it at one input. -/
def fnTermBytesWrong : ChangeSpec := { name := "fnTermBytes", fn := fun _ => fun
  | [d] => { results := [.lit (.bool false)], args := [d] }
  | _ => none }
def FnTermBytesWrongFalsely : Prop := fnTermBytesRow.holds Try.pinned (OpenSpec.ofChange fnTermBytesWrong)

/- THE SECOND FORM. 'bulk': how many values and letters a reading holds, each counted each time it is reached (what is shared counts as often as it is met; a slice's spare places count too). A statement '..UptoSaid' is the law's where the arguments, and the package variables that the reading takes, are together of bulk at most 1048576: NARROWER than '..Said'. Prove '..Said' where nothing that the law and all that it calls make is longer than what came in: it says more and counts as full. Else prove '..UptoSaid'. A law counts once. -/
mutual
def uptoBulk {H : Type} : DataW H → Nat
  | .lit (.string bytes) => bytes.length + 1
  | .lit _ => 1
  | .nil => 1
  | .ptr d => uptoBulk d + 1
  | .slice elems spare => uptoBulkAll elems + uptoBulkAll spare + 1
  | .agg parts => uptoBulkAll parts + 1
  | .iface _ d => uptoBulk d + 1
  | .map entries => uptoBulkEntries entries + 1
  | .held _ => 1
def uptoBulkAll {H : Type} : List (DataW H) → Nat
  | [] => 0
  | d :: r => uptoBulk d + uptoBulkAll r
def uptoBulkEntries {H : Type} : List (Lit × DataW H) → Nat
  | [] => 0
  | x :: r => uptoBulkEntry x + uptoBulkEntries r
def uptoBulkEntry {H : Type} : Lit × DataW H → Nat
  | (.string bytes, d) => bytes.length + uptoBulk d + 1
  | (_, d) => uptoBulk d + 1
 end
def uptoSmall : (H : Type) → List (DataW H) → Bool := fun _ ds => decide (uptoBulkAll ds ≤ 1048576)
def OpenSpec.upto (s : _root_.Go.ChangeSpec) : _root_.Go.OpenSpec := { _root_.Go.OpenSpec.ofChange s with cond := some uptoSmall }

/-- 'laws.FnOrder', WHERE WHAT IT READS IS OF BULK AT MOST 1048576: true; the input reads as it did. -/
def fnOrderUptoRow : OpenClaim := { program := "ytdldgchkinflmaa", sum := "03ef7809e8c4fae3ecbc5afa6ab5f0e77d3bc55e34a1397b105923fc17c9d822", func := "loop.example/g00019/laws.FnOrder", spec := "fnOrder", inPlace := ["internal/bytealg.abigen_runtime_cmpstring"], unfollowed := true, recurses := true, apart := false, narrowed := true }
def FnOrderUptoSaid : Prop := fnOrderUptoRow.holds Try.pinned (OpenSpec.upto fnOrderSpec)

/-- 'laws.FnExactTabDrop', WHERE WHAT IT READS IS OF BULK AT MOST 1048576: true; the input reads as it did. -/
def fnExactTabDropUptoRow : OpenClaim := { program := "ytdldgchkinflmaa", sum := "03ef7809e8c4fae3ecbc5afa6ab5f0e77d3bc55e34a1397b105923fc17c9d822", func := "loop.example/g00019/laws.FnExactTabDrop", spec := "fnExactTabDrop", inPlace := ["internal/bytealg.abigen_runtime_cmpstring"], unfollowed := true, recurses := true, loops := true, apart := false, narrowed := true }
def FnExactTabDropUptoSaid : Prop := fnExactTabDropUptoRow.holds Try.pinned (OpenSpec.upto fnExactTabDropSpec)

/-- 'laws.FnExactTabPut', WHERE WHAT IT READS IS OF BULK AT MOST 1048576: true; the input reads as it did. -/
def fnExactTabPutUptoRow : OpenClaim := { program := "ytdldgchkinflmaa", sum := "03ef7809e8c4fae3ecbc5afa6ab5f0e77d3bc55e34a1397b105923fc17c9d822", func := "loop.example/g00019/laws.FnExactTabPut", spec := "fnExactTabPut", inPlace := ["internal/bytealg.abigen_runtime_cmpstring", "slices.overlaps[loop.example/g00019/impl.Term]"], unfollowed := true, recurses := true, loops := true, apart := false, narrowed := true }
def FnExactTabPutUptoSaid : Prop := fnExactTabPutUptoRow.holds Try.pinned (OpenSpec.upto fnExactTabPutSpec)

/-- 'laws.FnRowsKept', WHERE WHAT IT READS IS OF BULK AT MOST 1048576: true; the input reads as it did. -/
def fnRowsKeptUptoRow : OpenClaim := { program := "ytdldgchkinflmaa", sum := "03ef7809e8c4fae3ecbc5afa6ab5f0e77d3bc55e34a1397b105923fc17c9d822", func := "loop.example/g00019/laws.FnRowsKept", spec := "fnRowsKept", inPlace := ["internal/bytealg.abigen_runtime_cmpstring", "slices.overlaps[loop.example/g00019/impl.Term]"], unfollowed := true, recurses := true, apart := false, narrowed := true }
def FnRowsKeptUptoSaid : Prop := fnRowsKeptUptoRow.holds Try.pinned (OpenSpec.upto fnRowsKeptSpec)

/-- 'laws.FnExactReportOK', WHERE WHAT IT READS IS OF BULK AT MOST 1048576: true; the input reads as it did. -/
def fnExactReportOKUptoRow : OpenClaim := { program := "ytdldgchkinflmaa", sum := "03ef7809e8c4fae3ecbc5afa6ab5f0e77d3bc55e34a1397b105923fc17c9d822", func := "loop.example/g00019/laws.FnExactReportOK", spec := "fnExactReportOK", inPlace := ["internal/bytealg.abigen_runtime_cmpstring"], unfollowed := true, recurses := true, loops := true, apart := false, narrowed := true }
def FnExactReportOKUptoSaid : Prop := fnExactReportOKUptoRow.holds Try.pinned (OpenSpec.upto fnExactReportOKSpec)

/-- 'laws.FnExactTermPack', WHERE WHAT IT READS IS OF BULK AT MOST 1048576: true; the input reads as it did. -/
def fnExactTermPackUptoRow : OpenClaim := { program := "ytdldgchkinflmaa", sum := "03ef7809e8c4fae3ecbc5afa6ab5f0e77d3bc55e34a1397b105923fc17c9d822", func := "loop.example/g00019/laws.FnExactTermPack", spec := "fnExactTermPack", inPlace := ["internal/bytealg.abigen_runtime_cmpstring", "internal/abi.NoEscape"], unfollowed := true, recurses := true, loops := true, apart := false, narrowed := true }
def FnExactTermPackUptoSaid : Prop := fnExactTermPackUptoRow.holds Try.pinned (OpenSpec.upto fnExactTermPackSpec)

/-- 'laws.FnExactLinkRun', WHERE WHAT IT READS IS OF BULK AT MOST 1048576: true; the input reads as it did. -/
def fnExactLinkRunUptoRow : OpenClaim := { program := "ytdldgchkinflmaa", sum := "03ef7809e8c4fae3ecbc5afa6ab5f0e77d3bc55e34a1397b105923fc17c9d822", func := "loop.example/g00019/laws.FnExactLinkRun", spec := "fnExactLinkRun", apart := false, narrowed := true }
def FnExactLinkRunUptoSaid : Prop := fnExactLinkRunUptoRow.holds Try.pinned (OpenSpec.upto fnExactLinkRunSpec)

/-- 'laws.FnExactMemOK', WHERE WHAT IT READS IS OF BULK AT MOST 1048576: true; the input reads as it did. -/
def fnExactMemOKUptoRow : OpenClaim := { program := "ytdldgchkinflmaa", sum := "03ef7809e8c4fae3ecbc5afa6ab5f0e77d3bc55e34a1397b105923fc17c9d822", func := "loop.example/g00019/laws.FnExactMemOK", spec := "fnExactMemOK", apart := false, narrowed := true }
def FnExactMemOKUptoSaid : Prop := fnExactMemOKUptoRow.holds Try.pinned (OpenSpec.upto fnExactMemOKSpec)

/-- 'laws.FnExactMemBirth', WHERE WHAT IT READS IS OF BULK AT MOST 1048576: true; the input reads as it did. -/
def fnExactMemBirthUptoRow : OpenClaim := { program := "ytdldgchkinflmaa", sum := "03ef7809e8c4fae3ecbc5afa6ab5f0e77d3bc55e34a1397b105923fc17c9d822", func := "loop.example/g00019/laws.FnExactMemBirth", spec := "fnExactMemBirth", apart := false, narrowed := true }
def FnExactMemBirthUptoSaid : Prop := fnExactMemBirthUptoRow.holds Try.pinned (OpenSpec.upto fnExactMemBirthSpec)

/-- 'laws.FnExactTermUnpack', WHERE WHAT IT READS IS OF BULK AT MOST 1048576: true; the input reads as it did. -/
def fnExactTermUnpackUptoRow : OpenClaim := { program := "ytdldgchkinflmaa", sum := "03ef7809e8c4fae3ecbc5afa6ab5f0e77d3bc55e34a1397b105923fc17c9d822", func := "loop.example/g00019/laws.FnExactTermUnpack", spec := "fnExactTermUnpack", inPlace := ["internal/bytealg.abigen_runtime_cmpstring", "internal/abi.NoEscape"], unfollowed := true, recurses := true, apart := false, narrowed := true }
def FnExactTermUnpackUptoSaid : Prop := fnExactTermUnpackUptoRow.holds Try.pinned (OpenSpec.upto fnExactTermUnpackSpec)

/-- 'laws.FnTermBytes', WHERE WHAT IT READS IS OF BULK AT MOST 1048576: true; the input reads as it did. -/
def fnTermBytesUptoRow : OpenClaim := { program := "ytdldgchkinflmaa", sum := "03ef7809e8c4fae3ecbc5afa6ab5f0e77d3bc55e34a1397b105923fc17c9d822", func := "loop.example/g00019/laws.FnTermBytes", spec := "fnTermBytes", inPlace := ["internal/bytealg.abigen_runtime_cmpstring", "internal/abi.NoEscape"], unfollowed := true, recurses := true, apart := false, narrowed := true }
def FnTermBytesUptoSaid : Prop := fnTermBytesUptoRow.holds Try.pinned (OpenSpec.upto fnTermBytesSpec)

end Rows
end Go.Proofs.Ytdldgchkinflmaa
