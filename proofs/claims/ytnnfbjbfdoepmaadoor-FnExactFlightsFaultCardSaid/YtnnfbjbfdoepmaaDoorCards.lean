/-
  DERIVED. GIVEN WITH THE SEED: THE CARDS: each row of YtnnfbjbfdoepmaaDoorRows.lean that lists a variable, with what it lists TIED to the program's text (the seventh form; the later family's looks); each row that meets fmt, with fmt's text TOLD by the authors' own Lean function (tested against real Go, not proved from fmt's source: count such statements apart). THE CARD IS WHAT COUNTS. Prove the row's statement (the work); the ties are given (YtnnfbjbfdoepmaaDoorTie.lean); close each card by the builder's one call (the guide's Derived/Test/ToyasCard.lean, 'card_holds'). Laid BY PROGRAM, IN A SANDBOX (cutbox-door.mjs). By AI agents, Wed Nov 11 2026. No macro, syntax, notation, axiom, sorry.
-/
import Derived.Test.YtnnfbjbfdoepmaaDoorRows
import GoSem.ClaimSeven
namespace Go.Proofs.YtnnfbjbfdoepmaaDoor
namespace Rows

/-- THE TIED CARD OF 'laws.FnExactFlightFault'. -/
def fnExactFlightFaultCard : Claim7 := { stood := { row := fnExactFlightFaultRow, standIns := [], harness := (true, "419a4cec4891018b74885816653bad41a4d1f15cc460cde5924fb4ee6decbd6a"), looks := false }, kinds := [], alts := [], laidByText := true, laidKinds := [.data, .pinned], laidTests := true, laidLooks := .later }
def FnExactFlightFaultCardSaid : Prop := Claim7.holds Tryd.pinned (.plain (OpenSpec.ofChange fnExactFlightFaultSpec)) fnExactFlightFaultCard

/-- THE TIED CARD OF 'laws.FnExactFlightsFault'. -/
def fnExactFlightsFaultCard : Claim7 := { stood := { row := fnExactFlightsFaultRow, standIns := [], harness := (true, "419a4cec4891018b74885816653bad41a4d1f15cc460cde5924fb4ee6decbd6a"), looks := false }, kinds := [], alts := [], laidByText := true, laidKinds := [.data, .pinned], laidTests := true, laidLooks := .later }
def FnExactFlightsFaultCardSaid : Prop := Claim7.holds Tryd.pinned (.plain (OpenSpec.ofChange fnExactFlightsFaultSpec)) fnExactFlightsFaultCard

/-- THE SECOND FORM's CARD OF 'laws.FnExactFlightFault'. -/
def fnExactFlightFaultUptoCard : Claim7 := { stood := { row := fnExactFlightFaultUptoRow, standIns := [], harness := (true, "419a4cec4891018b74885816653bad41a4d1f15cc460cde5924fb4ee6decbd6a"), looks := false }, kinds := [], alts := [], laidByText := true, laidKinds := [.data, .pinned], laidTests := true, laidLooks := .later }
def FnExactFlightFaultUptoCardSaid : Prop := Claim7.holds Tryd.pinned (.plain (OpenSpec.upto fnExactFlightFaultSpec)) fnExactFlightFaultUptoCard

/-- THE SECOND FORM's CARD OF 'laws.FnExactFlightsFault'. -/
def fnExactFlightsFaultUptoCard : Claim7 := { stood := { row := fnExactFlightsFaultUptoRow, standIns := [], harness := (true, "419a4cec4891018b74885816653bad41a4d1f15cc460cde5924fb4ee6decbd6a"), looks := false }, kinds := [], alts := [], laidByText := true, laidKinds := [.data, .pinned], laidTests := true, laidLooks := .later }
def FnExactFlightsFaultUptoCardSaid : Prop := Claim7.holds Tryd.pinned (.plain (OpenSpec.upto fnExactFlightsFaultSpec)) fnExactFlightsFaultUptoCard
end Rows
end Go.Proofs.YtnnfbjbfdoepmaaDoor
