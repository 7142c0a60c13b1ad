/-
  DERIVED. GIVEN WITH THE SEED: THE CARDS: each row of YtafgnmiflngjhaaGreatDoorRows.lean that lists a variable, with what it lists TIED to the program's text (the seventh form; the later family's looks); each row that meets fmt, with fmt's text TOLD by the authors' own Lean function (tested against real Go, not proved from fmt's source: count such statements apart). THE CARD IS WHAT COUNTS. Prove the row's statement (the work); the ties are given (YtafgnmiflngjhaaGreatDoorTie.lean); close each card by the builder's one call (the guide's Derived/Test/ToyasCard.lean, 'card_holds'). Laid BY PROGRAM, IN A SANDBOX (cutbox-door.mjs). By AI agents, Wed Nov 11 2026. No macro, syntax, notation, axiom, sorry.
-/
import Derived.Test.YtafgnmiflngjhaaGreatDoorRows
import GoSem.ClaimSeven
namespace Go.Proofs.YtafgnmiflngjhaaGreatDoor
namespace Rows

/-- THE TIED CARD OF 'laws.FnExactPutEntry'. -/
def fnExactPutEntryCard : Claim7 := { stood := { row := fnExactPutEntryRow, standIns := [], harness := (true, "35aa58b7d4f7d863c82126403c7cbdfdc7e050dfe7ce2013e2a8d7749b9f3925"), looks := false }, kinds := [], alts := [], laidByText := true, laidKinds := [.data, .pinned], laidTests := true, laidLooks := .later }
def FnExactPutEntryCardSaid : Prop := Claim7.holds Tryz.pinned (.plain (OpenSpec.ofChange fnExactPutEntrySpec)) fnExactPutEntryCard

/-- THE TIED CARD OF 'laws.FnExactKeysTagged'. -/
def fnExactKeysTaggedCard : Claim7 := { stood := { row := fnExactKeysTaggedRow, standIns := [], harness := (true, "35aa58b7d4f7d863c82126403c7cbdfdc7e050dfe7ce2013e2a8d7749b9f3925"), looks := false }, kinds := [], alts := [], laidByText := true, laidKinds := [.data, .pinned], laidTests := true, laidLooks := .later }
def FnExactKeysTaggedCardSaid : Prop := Claim7.holds Tryz.pinned (.plain (OpenSpec.ofChange fnExactKeysTaggedSpec)) fnExactKeysTaggedCard

/-- THE TIED CARD OF 'laws.FnExactPeekEntry'. -/
def fnExactPeekEntryCard : Claim7 := { stood := { row := fnExactPeekEntryRow, standIns := [], harness := (true, "35aa58b7d4f7d863c82126403c7cbdfdc7e050dfe7ce2013e2a8d7749b9f3925"), looks := false }, kinds := [], alts := [], laidByText := true, laidKinds := [.data, .pinned], laidTests := true, laidLooks := .later }
def FnExactPeekEntryCardSaid : Prop := Claim7.holds Tryz.pinned (.plain (OpenSpec.ofChange fnExactPeekEntrySpec)) fnExactPeekEntryCard

/-- THE TIED CARD OF 'laws.FnPurges'. -/
def fnPurgesCard : Claim7 := { stood := { row := fnPurgesRow, standIns := [], harness := (true, "35aa58b7d4f7d863c82126403c7cbdfdc7e050dfe7ce2013e2a8d7749b9f3925"), looks := false }, kinds := [], alts := [], laidByText := true, laidKinds := [.data, .pinned], laidTests := true, laidLooks := .later }
def FnPurgesCardSaid : Prop := Claim7.holds Tryz.pinned (.plain (OpenSpec.ofChange fnPurgesSpec)) fnPurgesCard

/-- THE TIED CARD OF 'laws.FnStores'. -/
def fnStoresCard : Claim7 := { stood := { row := fnStoresRow, standIns := [], harness := (true, "35aa58b7d4f7d863c82126403c7cbdfdc7e050dfe7ce2013e2a8d7749b9f3925"), looks := false }, kinds := [], alts := [], laidByText := true, laidKinds := [.data, .pinned], laidTests := true, laidLooks := .later }
def FnStoresCardSaid : Prop := Claim7.holds Tryz.pinned (.plain (OpenSpec.ofChange fnStoresSpec)) fnStoresCard

/-- THE TIED CARD OF 'laws.FnExactPinEntry'. -/
def fnExactPinEntryCard : Claim7 := { stood := { row := fnExactPinEntryRow, standIns := [], harness := (true, "35aa58b7d4f7d863c82126403c7cbdfdc7e050dfe7ce2013e2a8d7749b9f3925"), looks := false }, kinds := [], alts := [], laidByText := true, laidKinds := [.data, .pinned], laidTests := true, laidLooks := .later }
def FnExactPinEntryCardSaid : Prop := Claim7.holds Tryz.pinned (.plain (OpenSpec.ofChange fnExactPinEntrySpec)) fnExactPinEntryCard

/-- THE TIED CARD OF 'laws.FnTouches'. -/
def fnTouchesCard : Claim7 := { stood := { row := fnTouchesRow, standIns := [], harness := (true, "35aa58b7d4f7d863c82126403c7cbdfdc7e050dfe7ce2013e2a8d7749b9f3925"), looks := false }, kinds := [], alts := [], laidByText := true, laidKinds := [.data, .pinned], laidTests := true, laidLooks := .later }
def FnTouchesCardSaid : Prop := Claim7.holds Tryz.pinned (.plain (OpenSpec.ofChange fnTouchesSpec)) fnTouchesCard

/-- THE TIED CARD OF 'laws.FnExactDropEntry'. -/
def fnExactDropEntryCard : Claim7 := { stood := { row := fnExactDropEntryRow, standIns := [], harness := (true, "35aa58b7d4f7d863c82126403c7cbdfdc7e050dfe7ce2013e2a8d7749b9f3925"), looks := false }, kinds := [], alts := [], laidByText := true, laidKinds := [.data, .pinned], laidTests := true, laidLooks := .later }
def FnExactDropEntryCardSaid : Prop := Claim7.holds Tryz.pinned (.plain (OpenSpec.ofChange fnExactDropEntrySpec)) fnExactDropEntryCard

/-- THE TIED CARD OF 'laws.FnExactPurgeAll'. -/
def fnExactPurgeAllCard : Claim7 := { stood := { row := fnExactPurgeAllRow, standIns := [], harness := (true, "35aa58b7d4f7d863c82126403c7cbdfdc7e050dfe7ce2013e2a8d7749b9f3925"), looks := false }, kinds := [], alts := [], laidByText := true, laidKinds := [.data, .pinned], laidTests := true, laidLooks := .later }
def FnExactPurgeAllCardSaid : Prop := Claim7.holds Tryz.pinned (.plain (OpenSpec.ofChange fnExactPurgeAllSpec)) fnExactPurgeAllCard

/-- THE TIED CARD OF 'laws.FnExactPurgeKey'. -/
def fnExactPurgeKeyCard : Claim7 := { stood := { row := fnExactPurgeKeyRow, standIns := [], harness := (true, "35aa58b7d4f7d863c82126403c7cbdfdc7e050dfe7ce2013e2a8d7749b9f3925"), looks := false }, kinds := [], alts := [], laidByText := true, laidKinds := [.data, .pinned], laidTests := true, laidLooks := .later }
def FnExactPurgeKeyCardSaid : Prop := Claim7.holds Tryz.pinned (.plain (OpenSpec.ofChange fnExactPurgeKeySpec)) fnExactPurgeKeyCard

/-- THE TIED CARD OF 'laws.FnExactPurgeTag'. -/
def fnExactPurgeTagCard : Claim7 := { stood := { row := fnExactPurgeTagRow, standIns := [], harness := (true, "35aa58b7d4f7d863c82126403c7cbdfdc7e050dfe7ce2013e2a8d7749b9f3925"), looks := false }, kinds := [], alts := [], laidByText := true, laidKinds := [.data, .pinned], laidTests := true, laidLooks := .later }
def FnExactPurgeTagCardSaid : Prop := Claim7.holds Tryz.pinned (.plain (OpenSpec.ofChange fnExactPurgeTagSpec)) fnExactPurgeTagCard

/-- THE TIED CARD OF 'laws.FnExactTouchEntry'. -/
def fnExactTouchEntryCard : Claim7 := { stood := { row := fnExactTouchEntryRow, standIns := [], harness := (true, "35aa58b7d4f7d863c82126403c7cbdfdc7e050dfe7ce2013e2a8d7749b9f3925"), looks := false }, kinds := [], alts := [], laidByText := true, laidKinds := [.data, .pinned], laidTests := true, laidLooks := .later }
def FnExactTouchEntryCardSaid : Prop := Claim7.holds Tryz.pinned (.plain (OpenSpec.ofChange fnExactTouchEntrySpec)) fnExactTouchEntryCard

/-- THE SECOND FORM's CARD OF 'laws.FnExactPutEntry'. -/
def fnExactPutEntryUptoCard : Claim7 := { stood := { row := fnExactPutEntryUptoRow, standIns := [], harness := (true, "35aa58b7d4f7d863c82126403c7cbdfdc7e050dfe7ce2013e2a8d7749b9f3925"), looks := false }, kinds := [], alts := [], laidByText := true, laidKinds := [.data, .pinned], laidTests := true, laidLooks := .later }
def FnExactPutEntryUptoCardSaid : Prop := Claim7.holds Tryz.pinned (.plain (OpenSpec.upto fnExactPutEntrySpec)) fnExactPutEntryUptoCard

/-- THE SECOND FORM's CARD OF 'laws.FnExactKeysTagged'. -/
def fnExactKeysTaggedUptoCard : Claim7 := { stood := { row := fnExactKeysTaggedUptoRow, standIns := [], harness := (true, "35aa58b7d4f7d863c82126403c7cbdfdc7e050dfe7ce2013e2a8d7749b9f3925"), looks := false }, kinds := [], alts := [], laidByText := true, laidKinds := [.data, .pinned], laidTests := true, laidLooks := .later }
def FnExactKeysTaggedUptoCardSaid : Prop := Claim7.holds Tryz.pinned (.plain (OpenSpec.upto fnExactKeysTaggedSpec)) fnExactKeysTaggedUptoCard

/-- THE SECOND FORM's CARD OF 'laws.FnExactPeekEntry'. -/
def fnExactPeekEntryUptoCard : Claim7 := { stood := { row := fnExactPeekEntryUptoRow, standIns := [], harness := (true, "35aa58b7d4f7d863c82126403c7cbdfdc7e050dfe7ce2013e2a8d7749b9f3925"), looks := false }, kinds := [], alts := [], laidByText := true, laidKinds := [.data, .pinned], laidTests := true, laidLooks := .later }
def FnExactPeekEntryUptoCardSaid : Prop := Claim7.holds Tryz.pinned (.plain (OpenSpec.upto fnExactPeekEntrySpec)) fnExactPeekEntryUptoCard

/-- THE SECOND FORM's CARD OF 'laws.FnPurges'. -/
def fnPurgesUptoCard : Claim7 := { stood := { row := fnPurgesUptoRow, standIns := [], harness := (true, "35aa58b7d4f7d863c82126403c7cbdfdc7e050dfe7ce2013e2a8d7749b9f3925"), looks := false }, kinds := [], alts := [], laidByText := true, laidKinds := [.data, .pinned], laidTests := true, laidLooks := .later }
def FnPurgesUptoCardSaid : Prop := Claim7.holds Tryz.pinned (.plain (OpenSpec.upto fnPurgesSpec)) fnPurgesUptoCard

/-- THE SECOND FORM's CARD OF 'laws.FnStores'. -/
def fnStoresUptoCard : Claim7 := { stood := { row := fnStoresUptoRow, standIns := [], harness := (true, "35aa58b7d4f7d863c82126403c7cbdfdc7e050dfe7ce2013e2a8d7749b9f3925"), looks := false }, kinds := [], alts := [], laidByText := true, laidKinds := [.data, .pinned], laidTests := true, laidLooks := .later }
def FnStoresUptoCardSaid : Prop := Claim7.holds Tryz.pinned (.plain (OpenSpec.upto fnStoresSpec)) fnStoresUptoCard

/-- THE SECOND FORM's CARD OF 'laws.FnExactPinEntry'. -/
def fnExactPinEntryUptoCard : Claim7 := { stood := { row := fnExactPinEntryUptoRow, standIns := [], harness := (true, "35aa58b7d4f7d863c82126403c7cbdfdc7e050dfe7ce2013e2a8d7749b9f3925"), looks := false }, kinds := [], alts := [], laidByText := true, laidKinds := [.data, .pinned], laidTests := true, laidLooks := .later }
def FnExactPinEntryUptoCardSaid : Prop := Claim7.holds Tryz.pinned (.plain (OpenSpec.upto fnExactPinEntrySpec)) fnExactPinEntryUptoCard

/-- THE SECOND FORM's CARD OF 'laws.FnTouches'. -/
def fnTouchesUptoCard : Claim7 := { stood := { row := fnTouchesUptoRow, standIns := [], harness := (true, "35aa58b7d4f7d863c82126403c7cbdfdc7e050dfe7ce2013e2a8d7749b9f3925"), looks := false }, kinds := [], alts := [], laidByText := true, laidKinds := [.data, .pinned], laidTests := true, laidLooks := .later }
def FnTouchesUptoCardSaid : Prop := Claim7.holds Tryz.pinned (.plain (OpenSpec.upto fnTouchesSpec)) fnTouchesUptoCard

/-- THE SECOND FORM's CARD OF 'laws.FnExactDropEntry'. -/
def fnExactDropEntryUptoCard : Claim7 := { stood := { row := fnExactDropEntryUptoRow, standIns := [], harness := (true, "35aa58b7d4f7d863c82126403c7cbdfdc7e050dfe7ce2013e2a8d7749b9f3925"), looks := false }, kinds := [], alts := [], laidByText := true, laidKinds := [.data, .pinned], laidTests := true, laidLooks := .later }
def FnExactDropEntryUptoCardSaid : Prop := Claim7.holds Tryz.pinned (.plain (OpenSpec.upto fnExactDropEntrySpec)) fnExactDropEntryUptoCard

/-- THE SECOND FORM's CARD OF 'laws.FnExactPurgeAll'. -/
def fnExactPurgeAllUptoCard : Claim7 := { stood := { row := fnExactPurgeAllUptoRow, standIns := [], harness := (true, "35aa58b7d4f7d863c82126403c7cbdfdc7e050dfe7ce2013e2a8d7749b9f3925"), looks := false }, kinds := [], alts := [], laidByText := true, laidKinds := [.data, .pinned], laidTests := true, laidLooks := .later }
def FnExactPurgeAllUptoCardSaid : Prop := Claim7.holds Tryz.pinned (.plain (OpenSpec.upto fnExactPurgeAllSpec)) fnExactPurgeAllUptoCard

/-- THE SECOND FORM's CARD OF 'laws.FnExactPurgeKey'. -/
def fnExactPurgeKeyUptoCard : Claim7 := { stood := { row := fnExactPurgeKeyUptoRow, standIns := [], harness := (true, "35aa58b7d4f7d863c82126403c7cbdfdc7e050dfe7ce2013e2a8d7749b9f3925"), looks := false }, kinds := [], alts := [], laidByText := true, laidKinds := [.data, .pinned], laidTests := true, laidLooks := .later }
def FnExactPurgeKeyUptoCardSaid : Prop := Claim7.holds Tryz.pinned (.plain (OpenSpec.upto fnExactPurgeKeySpec)) fnExactPurgeKeyUptoCard

/-- THE SECOND FORM's CARD OF 'laws.FnExactPurgeTag'. -/
def fnExactPurgeTagUptoCard : Claim7 := { stood := { row := fnExactPurgeTagUptoRow, standIns := [], harness := (true, "35aa58b7d4f7d863c82126403c7cbdfdc7e050dfe7ce2013e2a8d7749b9f3925"), looks := false }, kinds := [], alts := [], laidByText := true, laidKinds := [.data, .pinned], laidTests := true, laidLooks := .later }
def FnExactPurgeTagUptoCardSaid : Prop := Claim7.holds Tryz.pinned (.plain (OpenSpec.upto fnExactPurgeTagSpec)) fnExactPurgeTagUptoCard

/-- THE SECOND FORM's CARD OF 'laws.FnExactTouchEntry'. -/
def fnExactTouchEntryUptoCard : Claim7 := { stood := { row := fnExactTouchEntryUptoRow, standIns := [], harness := (true, "35aa58b7d4f7d863c82126403c7cbdfdc7e050dfe7ce2013e2a8d7749b9f3925"), looks := false }, kinds := [], alts := [], laidByText := true, laidKinds := [.data, .pinned], laidTests := true, laidLooks := .later }
def FnExactTouchEntryUptoCardSaid : Prop := Claim7.holds Tryz.pinned (.plain (OpenSpec.upto fnExactTouchEntrySpec)) fnExactTouchEntryUptoCard
end Rows
end Go.Proofs.YtafgnmiflngjhaaGreatDoor
