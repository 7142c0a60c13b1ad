/-
  DERIVED. GIVEN WITH THE SEED: THE CARDS: each row of YtdgipmlkkmmliaaDoorRows.lean that lists a variable, with what it lists TIED to the program's text (the seventh form; the later family's looks); each row that meets fmt, with fmt's text TOLD by the authors' own Lean function (tested against real Go, not proved from fmt's source: count such statements apart). THE CARD IS WHAT COUNTS. Prove the row's statement (the work); the ties are given (YtdgipmlkkmmliaaDoorTie.lean); close each card by the builder's one call (the guide's Derived/Test/ToyasCard.lean, 'card_holds'). Laid BY PROGRAM, IN A SANDBOX (cutbox-door.mjs). By AI agents, Wed Nov 11 2026. No macro, syntax, notation, axiom, sorry.
-/
import Derived.Test.YtdgipmlkkmmliaaDoorRows
import GoSem.ClaimSeven
namespace Go.Proofs.YtdgipmlkkmmliaaDoor
namespace Rows

/-- THE TIED CARD OF 'laws.FnExactTagsOf'. -/
def fnExactTagsOfCard : Claim7 := { stood := { row := fnExactTagsOfRow, standIns := [], harness := (true, "d0b8de5ebeffa7080441ed1fcf300e0d5998cf24444e24a8c653ea0bbc28976f"), looks := false }, kinds := [], alts := [], laidByText := true, laidKinds := [.data, .pinned], laidTests := true, laidLooks := .later }
def FnExactTagsOfCardSaid : Prop := Claim7.holds Tryd.pinned (.plain (OpenSpec.ofChange fnExactTagsOfSpec)) fnExactTagsOfCard

/-- THE TIED CARD OF 'laws.FnExactVaryFits'. -/
def fnExactVaryFitsCard : Claim7 := { stood := { row := fnExactVaryFitsRow, standIns := [], harness := (true, "d0b8de5ebeffa7080441ed1fcf300e0d5998cf24444e24a8c653ea0bbc28976f"), looks := false }, kinds := [], alts := [], laidByText := true, laidKinds := [.data, .pinned], laidTests := true, laidLooks := .later }
def FnExactVaryFitsCardSaid : Prop := Claim7.holds Tryd.pinned (.plain (OpenSpec.ofChange fnExactVaryFitsSpec)) fnExactVaryFitsCard

/-- THE SECOND FORM's CARD OF 'laws.FnExactTagsOf'. -/
def fnExactTagsOfUptoCard : Claim7 := { stood := { row := fnExactTagsOfUptoRow, standIns := [], harness := (true, "d0b8de5ebeffa7080441ed1fcf300e0d5998cf24444e24a8c653ea0bbc28976f"), looks := false }, kinds := [], alts := [], laidByText := true, laidKinds := [.data, .pinned], laidTests := true, laidLooks := .later }
def FnExactTagsOfUptoCardSaid : Prop := Claim7.holds Tryd.pinned (.plain (OpenSpec.upto fnExactTagsOfSpec)) fnExactTagsOfUptoCard

/-- THE SECOND FORM's CARD OF 'laws.FnExactVaryFits'. -/
def fnExactVaryFitsUptoCard : Claim7 := { stood := { row := fnExactVaryFitsUptoRow, standIns := [], harness := (true, "d0b8de5ebeffa7080441ed1fcf300e0d5998cf24444e24a8c653ea0bbc28976f"), looks := false }, kinds := [], alts := [], laidByText := true, laidKinds := [.data, .pinned], laidTests := true, laidLooks := .later }
def FnExactVaryFitsUptoCardSaid : Prop := Claim7.holds Tryd.pinned (.plain (OpenSpec.upto fnExactVaryFitsSpec)) fnExactVaryFitsUptoCard
end Rows
end Go.Proofs.YtdgipmlkkmmliaaDoor
