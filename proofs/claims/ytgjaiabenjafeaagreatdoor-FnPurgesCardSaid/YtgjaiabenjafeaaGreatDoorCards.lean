/-
  DERIVED. GIVEN WITH THE SEED: THE CARDS: each row of YtgjaiabenjafeaaGreatDoorRows.lean that lists a variable, with what it lists TIED to the program's text (the seventh form; the later family's looks); each row that meets fmt, with fmt's text TOLD by the authors' own Lean function (tested against real Go, not proved from fmt's source: count such statements apart). THE CARD IS WHAT COUNTS. Prove the row's statement (the work); the ties are given (YtgjaiabenjafeaaGreatDoorTie.lean); close each card by the builder's one call (the guide's Derived/Test/ToyasCard.lean, 'card_holds'). Laid BY PROGRAM, IN A SANDBOX (cutbox-door.mjs). By AI agents, Wed Nov 11 2026. No macro, syntax, notation, axiom, sorry.
-/
import Derived.Test.YtgjaiabenjafeaaGreatDoorRows
import GoSem.ClaimSeven
namespace Go.Proofs.YtgjaiabenjafeaaGreatDoor
namespace Rows

/-- THE TIED CARD OF 'laws.FnExactPutEntry'. -/
def fnExactPutEntryCard : Claim7 := { stood := { row := fnExactPutEntryRow, standIns := [], harness := (true, "3eac612809b0d2dc8ebb8647cf85259e250d20823cd5bd2fe3e6c560d1255549"), looks := false }, kinds := [], alts := [], laidByText := true, laidKinds := [.data, .pinned], laidTests := true, laidLooks := .later }
def FnExactPutEntryCardSaid : Prop := Claim7.holds Tryz.pinned (.plain (OpenSpec.ofChange fnExactPutEntrySpec)) fnExactPutEntryCard

/-- THE TIED CARD OF 'laws.FnPurges'. -/
def fnPurgesCard : Claim7 := { stood := { row := fnPurgesRow, standIns := [], harness := (true, "3eac612809b0d2dc8ebb8647cf85259e250d20823cd5bd2fe3e6c560d1255549"), looks := false }, kinds := [], alts := [], laidByText := true, laidKinds := [.data, .pinned], laidTests := true, laidLooks := .later }
def FnPurgesCardSaid : Prop := Claim7.holds Tryz.pinned (.plain (OpenSpec.ofChange fnPurgesSpec)) fnPurgesCard

/-- THE TIED CARD OF 'laws.FnStores'. -/
def fnStoresCard : Claim7 := { stood := { row := fnStoresRow, standIns := [], harness := (true, "3eac612809b0d2dc8ebb8647cf85259e250d20823cd5bd2fe3e6c560d1255549"), looks := false }, kinds := [], alts := [], laidByText := true, laidKinds := [.data, .pinned], laidTests := true, laidLooks := .later }
def FnStoresCardSaid : Prop := Claim7.holds Tryz.pinned (.plain (OpenSpec.ofChange fnStoresSpec)) fnStoresCard

/-- THE TIED CARD OF 'laws.FnTouches'. -/
def fnTouchesCard : Claim7 := { stood := { row := fnTouchesRow, standIns := [], harness := (true, "3eac612809b0d2dc8ebb8647cf85259e250d20823cd5bd2fe3e6c560d1255549"), looks := false }, kinds := [], alts := [], laidByText := true, laidKinds := [.data, .pinned], laidTests := true, laidLooks := .later }
def FnTouchesCardSaid : Prop := Claim7.holds Tryz.pinned (.plain (OpenSpec.ofChange fnTouchesSpec)) fnTouchesCard

/-- THE TIED CARD OF 'laws.FnExactTouchEntry'. -/
def fnExactTouchEntryCard : Claim7 := { stood := { row := fnExactTouchEntryRow, standIns := [], harness := (true, "3eac612809b0d2dc8ebb8647cf85259e250d20823cd5bd2fe3e6c560d1255549"), looks := false }, kinds := [], alts := [], laidByText := true, laidKinds := [.data, .pinned], laidTests := true, laidLooks := .later }
def FnExactTouchEntryCardSaid : Prop := Claim7.holds Tryz.pinned (.plain (OpenSpec.ofChange fnExactTouchEntrySpec)) fnExactTouchEntryCard

/-- THE SECOND FORM's CARD OF 'laws.FnExactPutEntry'. -/
def fnExactPutEntryUptoCard : Claim7 := { stood := { row := fnExactPutEntryUptoRow, standIns := [], harness := (true, "3eac612809b0d2dc8ebb8647cf85259e250d20823cd5bd2fe3e6c560d1255549"), looks := false }, kinds := [], alts := [], laidByText := true, laidKinds := [.data, .pinned], laidTests := true, laidLooks := .later }
def FnExactPutEntryUptoCardSaid : Prop := Claim7.holds Tryz.pinned (.plain (OpenSpec.upto fnExactPutEntrySpec)) fnExactPutEntryUptoCard

/-- THE SECOND FORM's CARD OF 'laws.FnPurges'. -/
def fnPurgesUptoCard : Claim7 := { stood := { row := fnPurgesUptoRow, standIns := [], harness := (true, "3eac612809b0d2dc8ebb8647cf85259e250d20823cd5bd2fe3e6c560d1255549"), looks := false }, kinds := [], alts := [], laidByText := true, laidKinds := [.data, .pinned], laidTests := true, laidLooks := .later }
def FnPurgesUptoCardSaid : Prop := Claim7.holds Tryz.pinned (.plain (OpenSpec.upto fnPurgesSpec)) fnPurgesUptoCard

/-- THE SECOND FORM's CARD OF 'laws.FnStores'. -/
def fnStoresUptoCard : Claim7 := { stood := { row := fnStoresUptoRow, standIns := [], harness := (true, "3eac612809b0d2dc8ebb8647cf85259e250d20823cd5bd2fe3e6c560d1255549"), looks := false }, kinds := [], alts := [], laidByText := true, laidKinds := [.data, .pinned], laidTests := true, laidLooks := .later }
def FnStoresUptoCardSaid : Prop := Claim7.holds Tryz.pinned (.plain (OpenSpec.upto fnStoresSpec)) fnStoresUptoCard

/-- THE SECOND FORM's CARD OF 'laws.FnTouches'. -/
def fnTouchesUptoCard : Claim7 := { stood := { row := fnTouchesUptoRow, standIns := [], harness := (true, "3eac612809b0d2dc8ebb8647cf85259e250d20823cd5bd2fe3e6c560d1255549"), looks := false }, kinds := [], alts := [], laidByText := true, laidKinds := [.data, .pinned], laidTests := true, laidLooks := .later }
def FnTouchesUptoCardSaid : Prop := Claim7.holds Tryz.pinned (.plain (OpenSpec.upto fnTouchesSpec)) fnTouchesUptoCard

/-- THE SECOND FORM's CARD OF 'laws.FnExactTouchEntry'. -/
def fnExactTouchEntryUptoCard : Claim7 := { stood := { row := fnExactTouchEntryUptoRow, standIns := [], harness := (true, "3eac612809b0d2dc8ebb8647cf85259e250d20823cd5bd2fe3e6c560d1255549"), looks := false }, kinds := [], alts := [], laidByText := true, laidKinds := [.data, .pinned], laidTests := true, laidLooks := .later }
def FnExactTouchEntryUptoCardSaid : Prop := Claim7.holds Tryz.pinned (.plain (OpenSpec.upto fnExactTouchEntrySpec)) fnExactTouchEntryUptoCard
end Rows
end Go.Proofs.YtgjaiabenjafeaaGreatDoor
