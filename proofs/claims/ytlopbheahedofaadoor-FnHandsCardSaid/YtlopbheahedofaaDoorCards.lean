/-
  DERIVED. GIVEN WITH THE SEED: THE CARDS: each row of YtlopbheahedofaaDoorRows.lean that lists a variable, with what it lists TIED to the program's text (the seventh form; the later family's looks); each row that meets fmt, with fmt's text TOLD by the authors' own Lean function (tested against real Go, not proved from fmt's source: count such statements apart). THE CARD IS WHAT COUNTS. Prove the row's statement (the work); the ties are given (YtlopbheahedofaaDoorTie.lean); close each card by the builder's one call (the guide's Derived/Test/ToyasCard.lean, 'card_holds'). Laid BY PROGRAM, IN A SANDBOX (cutbox-door.mjs). By AI agents, Wed Nov 11 2026. No macro, syntax, notation, axiom, sorry.
-/
import Derived.Test.YtlopbheahedofaaDoorRows
import GoSem.ClaimSeven
namespace Go.Proofs.YtlopbheahedofaaDoor
namespace Rows

/-- THE TIED CARD OF 'laws.FnHands'. -/
def fnHandsCard : Claim7 := { stood := { row := fnHandsRow, standIns := [], harness := (true, "e597538c6d0478c6212fe1c32189620b35226f5be1378ae7e9b2f79793c9a176"), looks := false }, kinds := [], alts := [], laidByText := true, laidKinds := [.data, .data, .data], laidTests := true, laidLooks := .later }
def FnHandsCardSaid : Prop := Claim7.holds Tryd.pinned (.plain (OpenSpec.ofChange fnHandsSpec)) fnHandsCard

/-- THE TIED CARD OF 'laws.FnExactHandStep'. -/
def fnExactHandStepCard : Claim7 := { stood := { row := fnExactHandStepRow, standIns := [], harness := (true, "e597538c6d0478c6212fe1c32189620b35226f5be1378ae7e9b2f79793c9a176"), looks := false }, kinds := [], alts := [], laidByText := true, laidKinds := [.data, .data, .data], laidTests := true, laidLooks := .later }
def FnExactHandStepCardSaid : Prop := Claim7.holds Tryd.pinned (.plain (OpenSpec.ofChange fnExactHandStepSpec)) fnExactHandStepCard

/-- THE SECOND FORM's CARD OF 'laws.FnHands'. -/
def fnHandsUptoCard : Claim7 := { stood := { row := fnHandsUptoRow, standIns := [], harness := (true, "e597538c6d0478c6212fe1c32189620b35226f5be1378ae7e9b2f79793c9a176"), looks := false }, kinds := [], alts := [], laidByText := true, laidKinds := [.data, .data, .data], laidTests := true, laidLooks := .later }
def FnHandsUptoCardSaid : Prop := Claim7.holds Tryd.pinned (.plain (OpenSpec.upto fnHandsSpec)) fnHandsUptoCard

/-- THE SECOND FORM's CARD OF 'laws.FnExactHandStep'. -/
def fnExactHandStepUptoCard : Claim7 := { stood := { row := fnExactHandStepUptoRow, standIns := [], harness := (true, "e597538c6d0478c6212fe1c32189620b35226f5be1378ae7e9b2f79793c9a176"), looks := false }, kinds := [], alts := [], laidByText := true, laidKinds := [.data, .data, .data], laidTests := true, laidLooks := .later }
def FnExactHandStepUptoCardSaid : Prop := Claim7.holds Tryd.pinned (.plain (OpenSpec.upto fnExactHandStepSpec)) fnExactHandStepUptoCard
end Rows
end Go.Proofs.YtlopbheahedofaaDoor
