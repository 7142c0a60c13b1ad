/-
  DERIVED. GIVEN WITH THE SEED: THE CARDS: each row of YtafgnmiflngjhaaDoorRows.lean that lists a variable, with what it lists TIED to the program's text (the seventh form; the later family's looks); each row that meets fmt, with fmt's text TOLD by the authors' own Lean function (tested against real Go, not proved from fmt's source: count such statements apart). THE CARD IS WHAT COUNTS. Prove the row's statement (the work); the ties are given (YtafgnmiflngjhaaDoorTie.lean); close each card by the builder's one call (the guide's Derived/Test/ToyasCard.lean, 'card_holds'). Laid BY PROGRAM, IN A SANDBOX (cutbox-door.mjs). By AI agents, Wed Nov 11 2026. No macro, syntax, notation, axiom, sorry.
-/
import Derived.Test.YtafgnmiflngjhaaDoorRows
import GoSem.ClaimSeven
namespace Go.Proofs.YtafgnmiflngjhaaDoor
namespace Rows

/-- THE TIED CARD OF 'laws.FnExactEntryFault'. -/
def fnExactEntryFaultCard : Claim7 := { stood := { row := fnExactEntryFaultRow, standIns := [], harness := (true, "44f9eab6f63659470df3b5006bd5fca6e09acbd9c846cc47986db120073e3e1b"), looks := false }, kinds := [], alts := [], laidByText := true, laidKinds := [.data, .pinned], laidTests := true, laidLooks := .later }
def FnExactEntryFaultCardSaid : Prop := Claim7.holds Tryd.pinned (.plain (OpenSpec.ofChange fnExactEntryFaultSpec)) fnExactEntryFaultCard

/-- THE TIED CARD OF 'laws.FnExactCostOf'. -/
def fnExactCostOfCard : Claim7 := { stood := { row := fnExactCostOfRow, standIns := [], harness := (true, "44f9eab6f63659470df3b5006bd5fca6e09acbd9c846cc47986db120073e3e1b"), looks := false }, kinds := [], alts := [], laidByText := true, laidKinds := [.data, .pinned], laidTests := true, laidLooks := .later }
def FnExactCostOfCardSaid : Prop := Claim7.holds Tryd.pinned (.plain (OpenSpec.ofChange fnExactCostOfSpec)) fnExactCostOfCard

/-- THE TIED CARD OF 'laws.FnExactStoreFault'. -/
def fnExactStoreFaultCard : Claim7 := { stood := { row := fnExactStoreFaultRow, standIns := [], harness := (true, "44f9eab6f63659470df3b5006bd5fca6e09acbd9c846cc47986db120073e3e1b"), looks := false }, kinds := [], alts := [], laidByText := true, laidKinds := [.data, .pinned], laidTests := true, laidLooks := .later }
def FnExactStoreFaultCardSaid : Prop := Claim7.holds Tryd.pinned (.plain (OpenSpec.ofChange fnExactStoreFaultSpec)) fnExactStoreFaultCard

/-- THE TIED CARD OF 'laws.FnExactCostIn'. -/
def fnExactCostInCard : Claim7 := { stood := { row := fnExactCostInRow, standIns := [], harness := (true, "44f9eab6f63659470df3b5006bd5fca6e09acbd9c846cc47986db120073e3e1b"), looks := false }, kinds := [], alts := [], laidByText := true, laidKinds := [.data, .pinned], laidTests := true, laidLooks := .later }
def FnExactCostInCardSaid : Prop := Claim7.holds Tryd.pinned (.plain (OpenSpec.ofChange fnExactCostInSpec)) fnExactCostInCard

/-- THE TIED CARD OF 'laws.FnExactNewStore'. -/
def fnExactNewStoreCard : Claim7 := { stood := { row := fnExactNewStoreRow, standIns := [], harness := (true, "44f9eab6f63659470df3b5006bd5fca6e09acbd9c846cc47986db120073e3e1b"), looks := false }, kinds := [], alts := [], laidByText := true, laidKinds := [.data, .pinned], laidTests := true, laidLooks := .later }
def FnExactNewStoreCardSaid : Prop := Claim7.holds Tryd.pinned (.plain (OpenSpec.ofChange fnExactNewStoreSpec)) fnExactNewStoreCard

/-- THE SECOND FORM's CARD OF 'laws.FnExactEntryFault'. -/
def fnExactEntryFaultUptoCard : Claim7 := { stood := { row := fnExactEntryFaultUptoRow, standIns := [], harness := (true, "44f9eab6f63659470df3b5006bd5fca6e09acbd9c846cc47986db120073e3e1b"), looks := false }, kinds := [], alts := [], laidByText := true, laidKinds := [.data, .pinned], laidTests := true, laidLooks := .later }
def FnExactEntryFaultUptoCardSaid : Prop := Claim7.holds Tryd.pinned (.plain (OpenSpec.upto fnExactEntryFaultSpec)) fnExactEntryFaultUptoCard

/-- THE SECOND FORM's CARD OF 'laws.FnExactCostOf'. -/
def fnExactCostOfUptoCard : Claim7 := { stood := { row := fnExactCostOfUptoRow, standIns := [], harness := (true, "44f9eab6f63659470df3b5006bd5fca6e09acbd9c846cc47986db120073e3e1b"), looks := false }, kinds := [], alts := [], laidByText := true, laidKinds := [.data, .pinned], laidTests := true, laidLooks := .later }
def FnExactCostOfUptoCardSaid : Prop := Claim7.holds Tryd.pinned (.plain (OpenSpec.upto fnExactCostOfSpec)) fnExactCostOfUptoCard

/-- THE SECOND FORM's CARD OF 'laws.FnExactStoreFault'. -/
def fnExactStoreFaultUptoCard : Claim7 := { stood := { row := fnExactStoreFaultUptoRow, standIns := [], harness := (true, "44f9eab6f63659470df3b5006bd5fca6e09acbd9c846cc47986db120073e3e1b"), looks := false }, kinds := [], alts := [], laidByText := true, laidKinds := [.data, .pinned], laidTests := true, laidLooks := .later }
def FnExactStoreFaultUptoCardSaid : Prop := Claim7.holds Tryd.pinned (.plain (OpenSpec.upto fnExactStoreFaultSpec)) fnExactStoreFaultUptoCard

/-- THE SECOND FORM's CARD OF 'laws.FnExactCostIn'. -/
def fnExactCostInUptoCard : Claim7 := { stood := { row := fnExactCostInUptoRow, standIns := [], harness := (true, "44f9eab6f63659470df3b5006bd5fca6e09acbd9c846cc47986db120073e3e1b"), looks := false }, kinds := [], alts := [], laidByText := true, laidKinds := [.data, .pinned], laidTests := true, laidLooks := .later }
def FnExactCostInUptoCardSaid : Prop := Claim7.holds Tryd.pinned (.plain (OpenSpec.upto fnExactCostInSpec)) fnExactCostInUptoCard

/-- THE SECOND FORM's CARD OF 'laws.FnExactNewStore'. -/
def fnExactNewStoreUptoCard : Claim7 := { stood := { row := fnExactNewStoreUptoRow, standIns := [], harness := (true, "44f9eab6f63659470df3b5006bd5fca6e09acbd9c846cc47986db120073e3e1b"), looks := false }, kinds := [], alts := [], laidByText := true, laidKinds := [.data, .pinned], laidTests := true, laidLooks := .later }
def FnExactNewStoreUptoCardSaid : Prop := Claim7.holds Tryd.pinned (.plain (OpenSpec.upto fnExactNewStoreSpec)) fnExactNewStoreUptoCard
end Rows
end Go.Proofs.YtafgnmiflngjhaaDoor
