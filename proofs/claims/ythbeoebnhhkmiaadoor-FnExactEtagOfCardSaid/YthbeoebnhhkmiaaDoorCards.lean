/-
  DERIVED. GIVEN WITH THE SEED: THE CARDS: each row of YthbeoebnhhkmiaaDoorRows.lean that lists a variable, with what it lists TIED to the program's text (the seventh form; the later family's looks); each row that meets fmt, with fmt's text TOLD by the authors' own Lean function (tested against real Go, not proved from fmt's source: count such statements apart). THE CARD IS WHAT COUNTS. Prove the row's statement (the work); the ties are given (YthbeoebnhhkmiaaDoorTie.lean); close each card by the builder's one call (the guide's Derived/Test/ToyasCard.lean, 'card_holds'). Laid BY PROGRAM, IN A SANDBOX (cutbox-door.mjs). By AI agents, Wed Nov 11 2026. No macro, syntax, notation, axiom, sorry.
-/
import Derived.Test.YthbeoebnhhkmiaaDoorRows
import GoSem.ClaimSeven
namespace Go.Proofs.YthbeoebnhhkmiaaDoor
namespace Rows

/-- THE TIED CARD OF 'laws.FnExactEtagOf'. -/
def fnExactEtagOfCard : Claim7 := { stood := { row := fnExactEtagOfRow, standIns := [], harness := (true, "315ddf728737827fbcb839acc627a4bffe6cac22b1289e8efea8e57f0df58994"), looks := false }, kinds := [], alts := [], laidByText := true, laidKinds := [.data, .pinned], laidTests := true, laidLooks := .later }
def FnExactEtagOfCardSaid : Prop := Claim7.holds Tryd.pinned (.plain (OpenSpec.ofChange fnExactEtagOfSpec)) fnExactEtagOfCard

/-- THE TIED CARD OF 'laws.FnExactTagsOf'. -/
def fnExactTagsOfCard : Claim7 := { stood := { row := fnExactTagsOfRow, standIns := [], harness := (true, "315ddf728737827fbcb839acc627a4bffe6cac22b1289e8efea8e57f0df58994"), looks := false }, kinds := [], alts := [], laidByText := true, laidKinds := [.data, .pinned], laidTests := true, laidLooks := .later }
def FnExactTagsOfCardSaid : Prop := Claim7.holds Tryd.pinned (.plain (OpenSpec.ofChange fnExactTagsOfSpec)) fnExactTagsOfCard

/-- THE TIED CARD OF 'laws.FnExactVaryFits'. -/
def fnExactVaryFitsCard : Claim7 := { stood := { row := fnExactVaryFitsRow, standIns := [], harness := (true, "315ddf728737827fbcb839acc627a4bffe6cac22b1289e8efea8e57f0df58994"), looks := false }, kinds := [], alts := [], laidByText := true, laidKinds := [.data, .pinned], laidTests := true, laidLooks := .later }
def FnExactVaryFitsCardSaid : Prop := Claim7.holds Tryd.pinned (.plain (OpenSpec.ofChange fnExactVaryFitsSpec)) fnExactVaryFitsCard

/-- THE SECOND FORM's CARD OF 'laws.FnExactEtagOf'. -/
def fnExactEtagOfUptoCard : Claim7 := { stood := { row := fnExactEtagOfUptoRow, standIns := [], harness := (true, "315ddf728737827fbcb839acc627a4bffe6cac22b1289e8efea8e57f0df58994"), looks := false }, kinds := [], alts := [], laidByText := true, laidKinds := [.data, .pinned], laidTests := true, laidLooks := .later }
def FnExactEtagOfUptoCardSaid : Prop := Claim7.holds Tryd.pinned (.plain (OpenSpec.upto fnExactEtagOfSpec)) fnExactEtagOfUptoCard

/-- THE SECOND FORM's CARD OF 'laws.FnExactTagsOf'. -/
def fnExactTagsOfUptoCard : Claim7 := { stood := { row := fnExactTagsOfUptoRow, standIns := [], harness := (true, "315ddf728737827fbcb839acc627a4bffe6cac22b1289e8efea8e57f0df58994"), looks := false }, kinds := [], alts := [], laidByText := true, laidKinds := [.data, .pinned], laidTests := true, laidLooks := .later }
def FnExactTagsOfUptoCardSaid : Prop := Claim7.holds Tryd.pinned (.plain (OpenSpec.upto fnExactTagsOfSpec)) fnExactTagsOfUptoCard

/-- THE SECOND FORM's CARD OF 'laws.FnExactVaryFits'. -/
def fnExactVaryFitsUptoCard : Claim7 := { stood := { row := fnExactVaryFitsUptoRow, standIns := [], harness := (true, "315ddf728737827fbcb839acc627a4bffe6cac22b1289e8efea8e57f0df58994"), looks := false }, kinds := [], alts := [], laidByText := true, laidKinds := [.data, .pinned], laidTests := true, laidLooks := .later }
def FnExactVaryFitsUptoCardSaid : Prop := Claim7.holds Tryd.pinned (.plain (OpenSpec.upto fnExactVaryFitsSpec)) fnExactVaryFitsUptoCard
end Rows
end Go.Proofs.YthbeoebnhhkmiaaDoor
