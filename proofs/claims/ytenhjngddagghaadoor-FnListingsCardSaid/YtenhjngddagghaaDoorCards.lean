/-
  DERIVED. GIVEN WITH THE SEED: THE CARDS: each row of YtenhjngddagghaaDoorRows.lean that lists a variable, with what it lists TIED to the program's text (the seventh form; the later family's looks); each row that meets fmt, with fmt's text TOLD by the authors' own Lean function (tested against real Go, not proved from fmt's source: count such statements apart). THE CARD IS WHAT COUNTS. Prove the row's statement (the work); the ties are given (YtenhjngddagghaaDoorTie.lean); close each card by the builder's one call (the guide's Derived/Test/ToyasCard.lean, 'card_holds'). Laid BY PROGRAM, IN A SANDBOX (cutbox-door.mjs). By AI agents, Wed Nov 11 2026. No macro, syntax, notation, axiom, sorry.
-/
import Derived.Test.YtenhjngddagghaaDoorRows
import GoSem.ClaimSeven
namespace Go.Proofs.YtenhjngddagghaaDoor
namespace Rows

/-- THE TIED CARD OF 'laws.FnNumbers'. -/
def fnNumbersCard : Claim7 := { stood := { row := fnNumbersRow, standIns := [], harness := (true, "7dd25fa81a0481b5b7e923c76e16655b037bbda21ec00543cc9649f585eb26a5"), looks := true }, kinds := [], alts := [], laidByText := true, laidKinds := [.data, .data, .data, .sentinel, .sentinel], laidTests := true, laidLooks := .later }
def FnNumbersCardSaid : Prop := Claim7.holds Tryd.pinned (.plain (OpenSpec.ofChange fnNumbersSpec)) fnNumbersCard

/-- THE TIED CARD OF 'laws.FnExactAssemble'. -/
def fnExactAssembleCard : Claim7 := { stood := { row := fnExactAssembleRow, standIns := [], harness := (true, "7dd25fa81a0481b5b7e923c76e16655b037bbda21ec00543cc9649f585eb26a5"), looks := true }, kinds := [], alts := [], laidByText := true, laidKinds := [.data, .data, .data, .data, .sentinel, .sentinel, .pinned], laidTests := true, laidLooks := .later }
def FnExactAssembleCardSaid : Prop := Claim7.holds Tryd.pinned (.plain (OpenSpec.ofChange fnExactAssembleSpec)) fnExactAssembleCard

/-- THE TIED CARD OF 'laws.FnListings'. -/
def fnListingsCard : Claim7 := { stood := { row := fnListingsRow, standIns := [], harness := (true, "7dd25fa81a0481b5b7e923c76e16655b037bbda21ec00543cc9649f585eb26a5"), looks := true }, kinds := [], alts := [], laidByText := true, laidKinds := [.data, .data, .data, .data, .sentinel, .sentinel, .pinned], laidTests := true, laidLooks := .later }
def FnListingsCardSaid : Prop := Claim7.holds Tryd.pinned (.plain (OpenSpec.ofChange fnListingsSpec)) fnListingsCard

/-- THE SECOND FORM's CARD OF 'laws.FnNumbers'. -/
def fnNumbersUptoCard : Claim7 := { stood := { row := fnNumbersUptoRow, standIns := [], harness := (true, "7dd25fa81a0481b5b7e923c76e16655b037bbda21ec00543cc9649f585eb26a5"), looks := true }, kinds := [], alts := [], laidByText := true, laidKinds := [.data, .data, .data, .sentinel, .sentinel], laidTests := true, laidLooks := .later }
def FnNumbersUptoCardSaid : Prop := Claim7.holds Tryd.pinned (.plain (OpenSpec.upto fnNumbersSpec)) fnNumbersUptoCard

/-- THE SECOND FORM's CARD OF 'laws.FnExactAssemble'. -/
def fnExactAssembleUptoCard : Claim7 := { stood := { row := fnExactAssembleUptoRow, standIns := [], harness := (true, "7dd25fa81a0481b5b7e923c76e16655b037bbda21ec00543cc9649f585eb26a5"), looks := true }, kinds := [], alts := [], laidByText := true, laidKinds := [.data, .data, .data, .data, .sentinel, .sentinel, .pinned], laidTests := true, laidLooks := .later }
def FnExactAssembleUptoCardSaid : Prop := Claim7.holds Tryd.pinned (.plain (OpenSpec.upto fnExactAssembleSpec)) fnExactAssembleUptoCard

/-- THE SECOND FORM's CARD OF 'laws.FnListings'. -/
def fnListingsUptoCard : Claim7 := { stood := { row := fnListingsUptoRow, standIns := [], harness := (true, "7dd25fa81a0481b5b7e923c76e16655b037bbda21ec00543cc9649f585eb26a5"), looks := true }, kinds := [], alts := [], laidByText := true, laidKinds := [.data, .data, .data, .data, .sentinel, .sentinel, .pinned], laidTests := true, laidLooks := .later }
def FnListingsUptoCardSaid : Prop := Claim7.holds Tryd.pinned (.plain (OpenSpec.upto fnListingsSpec)) fnListingsUptoCard
end Rows
end Go.Proofs.YtenhjngddagghaaDoor
