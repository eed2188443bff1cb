/-
  DERIVED. GIVEN WITH THE SEED: THE CARDS: each row of YteehopjgmgelnabDoorRows.lean that lists a variable, with what it lists TIED to the program's text (the seventh form; the later family's looks); each row that meets fmt, with fmt's text TOLD by the authors' own Lean function (tested against real Go, not proved from fmt's source: count such statements apart). THE CARD IS WHAT COUNTS. Prove the row's statement (the work); the ties are given (YteehopjgmgelnabDoorTie.lean); close each card by the builder's one call (the guide's Derived/Test/ToyasCard.lean, 'card_holds'). Laid BY PROGRAM, IN A SANDBOX (cutbox-door.mjs). By AI agents, Wed Nov 11 2026. No macro, syntax, notation, axiom, sorry.
-/
import Derived.Test.YteehopjgmgelnabDoorRows
import GoSem.ClaimSeven
namespace Go.Proofs.YteehopjgmgelnabDoor
namespace Rows

/-- THE TIED CARD OF 'laws.FnExactListing'. -/
def fnExactListingCard : Claim7 := { stood := { row := fnExactListingRow, standIns := [], harness := (true, "1c61e2509289da611422cb445bbf20e0c191702435f7da6f4df5ccf7d3d20566"), looks := true }, kinds := [], alts := [], laidByText := true, laidKinds := [.data, .data, .data], laidTests := true, laidLooks := .later }
def FnExactListingCardSaid : Prop := Claim7.holds Tryd.pinned (.plain (OpenSpec.ofChange fnExactListingSpec)) fnExactListingCard

/-- THE TIED CARD OF 'laws.FnExactReadDecimal'. -/
def fnExactReadDecimalCard : Claim7 := { stood := { row := fnExactReadDecimalRow, standIns := [], harness := (true, "1c61e2509289da611422cb445bbf20e0c191702435f7da6f4df5ccf7d3d20566"), looks := true }, kinds := [], alts := [], laidByText := true, laidKinds := [.data, .data, .data, .sentinel, .sentinel], laidTests := true, laidLooks := .later }
def FnExactReadDecimalCardSaid : Prop := Claim7.holds Tryd.pinned (.plain (OpenSpec.ofChange fnExactReadDecimalSpec)) fnExactReadDecimalCard

/-- THE SECOND FORM's CARD OF 'laws.FnExactListing'. -/
def fnExactListingUptoCard : Claim7 := { stood := { row := fnExactListingUptoRow, standIns := [], harness := (true, "1c61e2509289da611422cb445bbf20e0c191702435f7da6f4df5ccf7d3d20566"), looks := true }, kinds := [], alts := [], laidByText := true, laidKinds := [.data, .data, .data], laidTests := true, laidLooks := .later }
def FnExactListingUptoCardSaid : Prop := Claim7.holds Tryd.pinned (.plain (OpenSpec.upto fnExactListingSpec)) fnExactListingUptoCard

/-- THE SECOND FORM's CARD OF 'laws.FnExactReadDecimal'. -/
def fnExactReadDecimalUptoCard : Claim7 := { stood := { row := fnExactReadDecimalUptoRow, standIns := [], harness := (true, "1c61e2509289da611422cb445bbf20e0c191702435f7da6f4df5ccf7d3d20566"), looks := true }, kinds := [], alts := [], laidByText := true, laidKinds := [.data, .data, .data, .sentinel, .sentinel], laidTests := true, laidLooks := .later }
def FnExactReadDecimalUptoCardSaid : Prop := Claim7.holds Tryd.pinned (.plain (OpenSpec.upto fnExactReadDecimalSpec)) fnExactReadDecimalUptoCard
end Rows
end Go.Proofs.YteehopjgmgelnabDoor
