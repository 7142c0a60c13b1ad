/-
  DERIVED. GIVEN WITH THE SEED: THE CARDS: each row of YteokagamfdcjgaaGreatDoorRows.lean that lists a variable, with what it lists TIED to the program's text (the seventh form; the later family's looks); each row that meets fmt, with fmt's text TOLD by the authors' own Lean function (tested against real Go, not proved from fmt's source: count such statements apart). THE CARD IS WHAT COUNTS. Prove the row's statement (the work); the ties are given (YteokagamfdcjgaaGreatDoorTie.lean); close each card by the builder's one call (the guide's Derived/Test/ToyasCard.lean, 'card_holds'). Laid BY PROGRAM, IN A SANDBOX (cutbox-door.mjs). By AI agents, Wed Nov 11 2026. No macro, syntax, notation, axiom, sorry.
-/
import Derived.Test.YteokagamfdcjgaaGreatDoorRows
import GoSem.ClaimSeven
namespace Go.Proofs.YteokagamfdcjgaaGreatDoor
namespace Rows

/-- THE TIED CARD OF 'laws.FnFlights'. -/
def fnFlightsCard : Claim7 := { stood := { row := fnFlightsRow, standIns := [], harness := (true, "c263809e16063d308048692b66acc18349351d4840bfe88869f91ce9391614da"), looks := false }, kinds := [], alts := [], laidByText := true, laidKinds := [.data, .pinned], laidTests := true, laidLooks := .later }
def FnFlightsCardSaid : Prop := Claim7.holds Tryz.pinned (.plain (OpenSpec.ofChange fnFlightsSpec)) fnFlightsCard

/-- THE SECOND FORM's CARD OF 'laws.FnFlights'. -/
def fnFlightsUptoCard : Claim7 := { stood := { row := fnFlightsUptoRow, standIns := [], harness := (true, "c263809e16063d308048692b66acc18349351d4840bfe88869f91ce9391614da"), looks := false }, kinds := [], alts := [], laidByText := true, laidKinds := [.data, .pinned], laidTests := true, laidLooks := .later }
def FnFlightsUptoCardSaid : Prop := Claim7.holds Tryz.pinned (.plain (OpenSpec.upto fnFlightsSpec)) fnFlightsUptoCard
end Rows
end Go.Proofs.YteokagamfdcjgaaGreatDoor
