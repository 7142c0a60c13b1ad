/-
  DERIVED. GIVEN WITH THE SEED: THE CARDS: each row of YtdgipmlkkmmliaaGreatDoorRows.lean that lists a variable, with what it lists TIED to the program's text (the seventh form; the later family's looks); each row that meets fmt, with fmt's text TOLD by the authors' own Lean function (tested against real Go, not proved from fmt's source: count such statements apart). THE CARD IS WHAT COUNTS. Prove the row's statement (the work); the ties are given (YtdgipmlkkmmliaaGreatDoorTie.lean); close each card by the builder's one call (the guide's Derived/Test/ToyasCard.lean, 'card_holds'). Laid BY PROGRAM, IN A SANDBOX (cutbox-door.mjs). By AI agents, Wed Nov 11 2026. No macro, syntax, notation, axiom, sorry.
-/
import Derived.Test.YtdgipmlkkmmliaaGreatDoorRows
import GoSem.ClaimSeven
namespace Go.Proofs.YtdgipmlkkmmliaaGreatDoor
namespace Rows

/-- THE TIED CARD OF 'laws.FnExactPolicyOf'. -/
def fnExactPolicyOfCard : Claim7 := { stood := { row := fnExactPolicyOfRow, standIns := [], harness := (true, "40cc1121ace63ad71e515b0a932dceb9dcd085d068f652af1dab30ba4549f688"), looks := true }, kinds := [], alts := [], laidByText := true, laidKinds := [.data, .data, .data, .data, .sentinel, .sentinel, .pinned], laidTests := true, laidLooks := .later }
def FnExactPolicyOfCardSaid : Prop := Claim7.holds Tryz.pinned (.plain (OpenSpec.ofChange fnExactPolicyOfSpec)) fnExactPolicyOfCard

/-- THE TIED CARD OF 'laws.FnPolicies'. -/
def fnPoliciesCard : Claim7 := { stood := { row := fnPoliciesRow, standIns := [], harness := (true, "40cc1121ace63ad71e515b0a932dceb9dcd085d068f652af1dab30ba4549f688"), looks := true }, kinds := [], alts := [], laidByText := true, laidKinds := [.data, .data, .data, .data, .sentinel, .sentinel, .pinned], laidTests := true, laidLooks := .later }
def FnPoliciesCardSaid : Prop := Claim7.holds Tryz.pinned (.plain (OpenSpec.ofChange fnPoliciesSpec)) fnPoliciesCard

/-- THE TIED CARD OF 'laws.FnNames'. -/
def fnNamesCard : Claim7 := { stood := { row := fnNamesRow, standIns := [], harness := (true, "40cc1121ace63ad71e515b0a932dceb9dcd085d068f652af1dab30ba4549f688"), looks := true }, kinds := [], alts := [], laidByText := true, laidKinds := [.data, .pinned], laidTests := true, laidLooks := .later }
def FnNamesCardSaid : Prop := Claim7.holds Tryz.pinned (.plain (OpenSpec.ofChange fnNamesSpec)) fnNamesCard

/-- THE SECOND FORM's CARD OF 'laws.FnExactPolicyOf'. -/
def fnExactPolicyOfUptoCard : Claim7 := { stood := { row := fnExactPolicyOfUptoRow, standIns := [], harness := (true, "40cc1121ace63ad71e515b0a932dceb9dcd085d068f652af1dab30ba4549f688"), looks := true }, kinds := [], alts := [], laidByText := true, laidKinds := [.data, .data, .data, .data, .sentinel, .sentinel, .pinned], laidTests := true, laidLooks := .later }
def FnExactPolicyOfUptoCardSaid : Prop := Claim7.holds Tryz.pinned (.plain (OpenSpec.upto fnExactPolicyOfSpec)) fnExactPolicyOfUptoCard

/-- THE SECOND FORM's CARD OF 'laws.FnPolicies'. -/
def fnPoliciesUptoCard : Claim7 := { stood := { row := fnPoliciesUptoRow, standIns := [], harness := (true, "40cc1121ace63ad71e515b0a932dceb9dcd085d068f652af1dab30ba4549f688"), looks := true }, kinds := [], alts := [], laidByText := true, laidKinds := [.data, .data, .data, .data, .sentinel, .sentinel, .pinned], laidTests := true, laidLooks := .later }
def FnPoliciesUptoCardSaid : Prop := Claim7.holds Tryz.pinned (.plain (OpenSpec.upto fnPoliciesSpec)) fnPoliciesUptoCard

/-- THE SECOND FORM's CARD OF 'laws.FnNames'. -/
def fnNamesUptoCard : Claim7 := { stood := { row := fnNamesUptoRow, standIns := [], harness := (true, "40cc1121ace63ad71e515b0a932dceb9dcd085d068f652af1dab30ba4549f688"), looks := true }, kinds := [], alts := [], laidByText := true, laidKinds := [.data, .pinned], laidTests := true, laidLooks := .later }
def FnNamesUptoCardSaid : Prop := Claim7.holds Tryz.pinned (.plain (OpenSpec.upto fnNamesSpec)) fnNamesUptoCard
end Rows
end Go.Proofs.YtdgipmlkkmmliaaGreatDoor
