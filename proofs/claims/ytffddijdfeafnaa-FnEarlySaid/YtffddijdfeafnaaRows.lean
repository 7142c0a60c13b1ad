/-
  No cell of these rows narrows 'for every input' (looked for: loops, veiled, ifaces, maps, wideKeys, modest, calm, conditions, laid).
  DERIVED. THE GIVEN ROWS OF THIS SEAT. 13 by the template 'for every input the law returns true; each argument reads behind the call as it read before'; 0 by the template 'total and deterministic' (their statements: YtffddijdfeafnaaTotals.lean).
  GIVEN WITH THE SEED: the statements are not yours to turn. If you find one false, say at which input.
  Laid BY PROGRAM, IN A SANDBOX (cutbox-rows.mjs): the forced cells as the released guide's own fill.sh prints them over the translation a8eef37618c502b5… (all of the seat's roots in one cut). By AI agents, Wed Nov 11 2026. No macro, syntax, notation, axiom, sorry.
-/
import Derived.Test.YtffddijdfeafnaaChecked
import GoSem.Claim
import GoSem.ClaimJoined
import GoSem.ClaimMapViews
import Derived.JoinedTies
import Derived.KernelRfl
namespace Go.Proofs.Ytffddijdfeafnaa
/- THE CELL 'sum', in the pinned program and in every row, IS THE sha256 OF THE DUMP (.gsa) THAT YtffddijdfeafnaaProg.lean LOADS. Nothing in Lean hashes anything: it is a label: what it is worth is what the hold of that sum in a sandbox is worth. -/
noncomputable def Try.pinned : Pinned := { name := "ytffddijdfeafnaa", sum := "a8eef37618c502b55d5719aa9aec7867b9b71258369afab26b7dfb5b75881f0b", checked := Try.checked }
namespace Rows
def none {H : Type} : Left H := { results := [], args := [] }

/-- 'laws.FnExactLanesFault': WHATEVER THE INPUT: true; the input reads as it did. -/
def fnExactLanesFaultSpec : ChangeSpec := { name := "fnExactLanesFault", fn := fun _ => fun
  | [d] => { results := [.lit (.bool true)], args := [d] }
  | _ => none }
def fnExactLanesFaultRow : OpenClaim := { program := "ytffddijdfeafnaa", sum := "a8eef37618c502b55d5719aa9aec7867b9b71258369afab26b7dfb5b75881f0b", func := "loop.example/g00665/laws.FnExactLanesFault", spec := "fnExactLanesFault", apart := false }
def FnExactLanesFaultSaid : Prop := fnExactLanesFaultRow.holds Try.pinned (OpenSpec.ofChange fnExactLanesFaultSpec)

/-- ITS FALSE NEIGHBOUR: 'it returns false'. Refute it at one input. -/
def fnExactLanesFaultWrong : ChangeSpec := { name := "fnExactLanesFault", fn := fun _ => fun
  | [d] => { results := [.lit (.bool false)], args := [d] }
  | _ => none }
def FnExactLanesFaultWrongFalsely : Prop := fnExactLanesFaultRow.holds Try.pinned (OpenSpec.ofChange fnExactLanesFaultWrong)

/-- 'laws.FnExactRulesFault': WHATEVER THE INPUT: true; the input reads as it did. -/
def fnExactRulesFaultSpec : ChangeSpec := { name := "fnExactRulesFault", fn := fun _ => fun
  | [d] => { results := [.lit (.bool true)], args := [d] }
  | _ => none }
def fnExactRulesFaultRow : OpenClaim := { program := "ytffddijdfeafnaa", sum := "a8eef37618c502b55d5719aa9aec7867b9b71258369afab26b7dfb5b75881f0b", func := "loop.example/g00665/laws.FnExactRulesFault", spec := "fnExactRulesFault", apart := false }
def FnExactRulesFaultSaid : Prop := fnExactRulesFaultRow.holds Try.pinned (OpenSpec.ofChange fnExactRulesFaultSpec)

/-- ITS FALSE NEIGHBOUR: 'it returns false'. Refute it at one input. -/
def fnExactRulesFaultWrong : ChangeSpec := { name := "fnExactRulesFault", fn := fun _ => fun
  | [d] => { results := [.lit (.bool false)], args := [d] }
  | _ => none }
def FnExactRulesFaultWrongFalsely : Prop := fnExactRulesFaultRow.holds Try.pinned (OpenSpec.ofChange fnExactRulesFaultWrong)

/-- 'laws.FnExactMetaFault': WHATEVER THE INPUT: true; the input reads as it did. -/
def fnExactMetaFaultSpec : ChangeSpec := { name := "fnExactMetaFault", fn := fun _ => fun
  | [d] => { results := [.lit (.bool true)], args := [d] }
  | _ => none }
def fnExactMetaFaultRow : OpenClaim := { program := "ytffddijdfeafnaa", sum := "a8eef37618c502b55d5719aa9aec7867b9b71258369afab26b7dfb5b75881f0b", func := "loop.example/g00665/laws.FnExactMetaFault", spec := "fnExactMetaFault", apart := false }
def FnExactMetaFaultSaid : Prop := fnExactMetaFaultRow.holds Try.pinned (OpenSpec.ofChange fnExactMetaFaultSpec)

/-- ITS FALSE NEIGHBOUR: 'it returns false'. Refute it at one input. -/
def fnExactMetaFaultWrong : ChangeSpec := { name := "fnExactMetaFault", fn := fun _ => fun
  | [d] => { results := [.lit (.bool false)], args := [d] }
  | _ => none }
def FnExactMetaFaultWrongFalsely : Prop := fnExactMetaFaultRow.holds Try.pinned (OpenSpec.ofChange fnExactMetaFaultWrong)

/-- 'laws.FnExactAgeAt': WHATEVER THE INPUT: true; the input reads as it did. -/
def fnExactAgeAtSpec : ChangeSpec := { name := "fnExactAgeAt", fn := fun _ => fun
  | [d1, d2] => { results := [.lit (.bool true)], args := [d1, d2] }
  | _ => none }
def fnExactAgeAtRow : OpenClaim := { program := "ytffddijdfeafnaa", sum := "a8eef37618c502b55d5719aa9aec7867b9b71258369afab26b7dfb5b75881f0b", func := "loop.example/g00665/laws.FnExactAgeAt", spec := "fnExactAgeAt", apart := false }
def FnExactAgeAtSaid : Prop := fnExactAgeAtRow.holds Try.pinned (OpenSpec.ofChange fnExactAgeAtSpec)

/-- ITS FALSE NEIGHBOUR: 'it returns false'. Refute it at one input. -/
def fnExactAgeAtWrong : ChangeSpec := { name := "fnExactAgeAt", fn := fun _ => fun
  | [d1, d2] => { results := [.lit (.bool false)], args := [d1, d2] }
  | _ => none }
def FnExactAgeAtWrongFalsely : Prop := fnExactAgeAtRow.holds Try.pinned (OpenSpec.ofChange fnExactAgeAtWrong)

/-- 'laws.FnExactStoreLife': WHATEVER THE INPUT: true; the input reads as it did. -/
def fnExactStoreLifeSpec : ChangeSpec := { name := "fnExactStoreLife", fn := fun _ => fun
  | [d1, d2, d3] => { results := [.lit (.bool true)], args := [d1, d2, d3] }
  | _ => none }
def fnExactStoreLifeRow : OpenClaim := { program := "ytffddijdfeafnaa", sum := "a8eef37618c502b55d5719aa9aec7867b9b71258369afab26b7dfb5b75881f0b", func := "loop.example/g00665/laws.FnExactStoreLife", spec := "fnExactStoreLife", apart := false }
def FnExactStoreLifeSaid : Prop := fnExactStoreLifeRow.holds Try.pinned (OpenSpec.ofChange fnExactStoreLifeSpec)

/-- ITS FALSE NEIGHBOUR: 'it returns false'. Refute it at one input. -/
def fnExactStoreLifeWrong : ChangeSpec := { name := "fnExactStoreLife", fn := fun _ => fun
  | [d1, d2, d3] => { results := [.lit (.bool false)], args := [d1, d2, d3] }
  | _ => none }
def FnExactStoreLifeWrongFalsely : Prop := fnExactStoreLifeRow.holds Try.pinned (OpenSpec.ofChange fnExactStoreLifeWrong)

/-- 'laws.FnExactSameBulks': WHATEVER THE INPUT: true; the input reads as it did. -/
def fnExactSameBulksSpec : ChangeSpec := { name := "fnExactSameBulks", fn := fun _ => fun
  | [d1, d2] => { results := [.lit (.bool true)], args := [d1, d2] }
  | _ => none }
def fnExactSameBulksRow : OpenClaim := { program := "ytffddijdfeafnaa", sum := "a8eef37618c502b55d5719aa9aec7867b9b71258369afab26b7dfb5b75881f0b", func := "loop.example/g00665/laws.FnExactSameBulks", spec := "fnExactSameBulks", apart := false }
def FnExactSameBulksSaid : Prop := fnExactSameBulksRow.holds Try.pinned (OpenSpec.ofChange fnExactSameBulksSpec)

/-- ITS FALSE NEIGHBOUR: 'it returns false'. Refute it at one input. -/
def fnExactSameBulksWrong : ChangeSpec := { name := "fnExactSameBulks", fn := fun _ => fun
  | [d1, d2] => { results := [.lit (.bool false)], args := [d1, d2] }
  | _ => none }
def FnExactSameBulksWrongFalsely : Prop := fnExactSameBulksRow.holds Try.pinned (OpenSpec.ofChange fnExactSameBulksWrong)

/-- 'laws.FnExactSameBreakers': WHATEVER THE INPUT: true; the input reads as it did. -/
def fnExactSameBreakersSpec : ChangeSpec := { name := "fnExactSameBreakers", fn := fun _ => fun
  | [d1, d2] => { results := [.lit (.bool true)], args := [d1, d2] }
  | _ => none }
def fnExactSameBreakersRow : OpenClaim := { program := "ytffddijdfeafnaa", sum := "a8eef37618c502b55d5719aa9aec7867b9b71258369afab26b7dfb5b75881f0b", func := "loop.example/g00665/laws.FnExactSameBreakers", spec := "fnExactSameBreakers", apart := false }
def FnExactSameBreakersSaid : Prop := fnExactSameBreakersRow.holds Try.pinned (OpenSpec.ofChange fnExactSameBreakersSpec)

/-- ITS FALSE NEIGHBOUR: 'it returns false'. Refute it at one input. -/
def fnExactSameBreakersWrong : ChangeSpec := { name := "fnExactSameBreakers", fn := fun _ => fun
  | [d1, d2] => { results := [.lit (.bool false)], args := [d1, d2] }
  | _ => none }
def FnExactSameBreakersWrongFalsely : Prop := fnExactSameBreakersRow.holds Try.pinned (OpenSpec.ofChange fnExactSameBreakersWrong)

/-- 'laws.FnExactMayServe': WHATEVER THE INPUT: true; the input reads as it did. -/
def fnExactMayServeSpec : ChangeSpec := { name := "fnExactMayServe", fn := fun _ => fun
  | [d1, d2, d3] => { results := [.lit (.bool true)], args := [d1, d2, d3] }
  | _ => none }
def fnExactMayServeRow : OpenClaim := { program := "ytffddijdfeafnaa", sum := "a8eef37618c502b55d5719aa9aec7867b9b71258369afab26b7dfb5b75881f0b", func := "loop.example/g00665/laws.FnExactMayServe", spec := "fnExactMayServe", apart := false }
def FnExactMayServeSaid : Prop := fnExactMayServeRow.holds Try.pinned (OpenSpec.ofChange fnExactMayServeSpec)

/-- ITS FALSE NEIGHBOUR: 'it returns false'. Refute it at one input. -/
def fnExactMayServeWrong : ChangeSpec := { name := "fnExactMayServe", fn := fun _ => fun
  | [d1, d2, d3] => { results := [.lit (.bool false)], args := [d1, d2, d3] }
  | _ => none }
def FnExactMayServeWrongFalsely : Prop := fnExactMayServeRow.holds Try.pinned (OpenSpec.ofChange fnExactMayServeWrong)

/-- 'laws.FnExactEarlyDue': WHATEVER THE INPUT: true; the input reads as it did. -/
def fnExactEarlyDueSpec : ChangeSpec := { name := "fnExactEarlyDue", fn := fun _ => fun
  | [d1, d2, d3, d4] => { results := [.lit (.bool true)], args := [d1, d2, d3, d4] }
  | _ => none }
def fnExactEarlyDueRow : OpenClaim := { program := "ytffddijdfeafnaa", sum := "a8eef37618c502b55d5719aa9aec7867b9b71258369afab26b7dfb5b75881f0b", func := "loop.example/g00665/laws.FnExactEarlyDue", spec := "fnExactEarlyDue", apart := false }
def FnExactEarlyDueSaid : Prop := fnExactEarlyDueRow.holds Try.pinned (OpenSpec.ofChange fnExactEarlyDueSpec)

/-- ITS FALSE NEIGHBOUR: 'it returns false'. Refute it at one input. -/
def fnExactEarlyDueWrong : ChangeSpec := { name := "fnExactEarlyDue", fn := fun _ => fun
  | [d1, d2, d3, d4] => { results := [.lit (.bool false)], args := [d1, d2, d3, d4] }
  | _ => none }
def FnExactEarlyDueWrongFalsely : Prop := fnExactEarlyDueRow.holds Try.pinned (OpenSpec.ofChange fnExactEarlyDueWrong)

/-- 'laws.FnExactPhaseOf': WHATEVER THE INPUT: true; the input reads as it did. -/
def fnExactPhaseOfSpec : ChangeSpec := { name := "fnExactPhaseOf", fn := fun _ => fun
  | [d1, d2] => { results := [.lit (.bool true)], args := [d1, d2] }
  | _ => none }
def fnExactPhaseOfRow : OpenClaim := { program := "ytffddijdfeafnaa", sum := "a8eef37618c502b55d5719aa9aec7867b9b71258369afab26b7dfb5b75881f0b", func := "loop.example/g00665/laws.FnExactPhaseOf", spec := "fnExactPhaseOf", apart := false }
def FnExactPhaseOfSaid : Prop := fnExactPhaseOfRow.holds Try.pinned (OpenSpec.ofChange fnExactPhaseOfSpec)

/-- ITS FALSE NEIGHBOUR: 'it returns false'. Refute it at one input. -/
def fnExactPhaseOfWrong : ChangeSpec := { name := "fnExactPhaseOf", fn := fun _ => fun
  | [d1, d2] => { results := [.lit (.bool false)], args := [d1, d2] }
  | _ => none }
def FnExactPhaseOfWrongFalsely : Prop := fnExactPhaseOfRow.holds Try.pinned (OpenSpec.ofChange fnExactPhaseOfWrong)

/-- 'laws.FnExactMetaOf': WHATEVER THE INPUT: true; the input reads as it did. -/
def fnExactMetaOfSpec : ChangeSpec := { name := "fnExactMetaOf", fn := fun _ => fun
  | [d1, d2, d3, d4] => { results := [.lit (.bool true)], args := [d1, d2, d3, d4] }
  | _ => none }
def fnExactMetaOfRow : OpenClaim := { program := "ytffddijdfeafnaa", sum := "a8eef37618c502b55d5719aa9aec7867b9b71258369afab26b7dfb5b75881f0b", func := "loop.example/g00665/laws.FnExactMetaOf", spec := "fnExactMetaOf", apart := false }
def FnExactMetaOfSaid : Prop := fnExactMetaOfRow.holds Try.pinned (OpenSpec.ofChange fnExactMetaOfSpec)

/-- ITS FALSE NEIGHBOUR: 'it returns false'. Refute it at one input. -/
def fnExactMetaOfWrong : ChangeSpec := { name := "fnExactMetaOf", fn := fun _ => fun
  | [d1, d2, d3, d4] => { results := [.lit (.bool false)], args := [d1, d2, d3, d4] }
  | _ => none }
def FnExactMetaOfWrongFalsely : Prop := fnExactMetaOfRow.holds Try.pinned (OpenSpec.ofChange fnExactMetaOfWrong)

/-- 'laws.FnPhases': WHATEVER THE INPUT: true; the input reads as it did. -/
def fnPhasesSpec : ChangeSpec := { name := "fnPhases", fn := fun _ => fun
  | [d] => { results := [.lit (.bool true)], args := [d] }
  | _ => none }
def fnPhasesRow : OpenClaim := { program := "ytffddijdfeafnaa", sum := "a8eef37618c502b55d5719aa9aec7867b9b71258369afab26b7dfb5b75881f0b", func := "loop.example/g00665/laws.FnPhases", spec := "fnPhases", apart := false }
def FnPhasesSaid : Prop := fnPhasesRow.holds Try.pinned (OpenSpec.ofChange fnPhasesSpec)

/-- ITS FALSE NEIGHBOUR: 'it returns false'. Refute it at one input. -/
def fnPhasesWrong : ChangeSpec := { name := "fnPhases", fn := fun _ => fun
  | [d] => { results := [.lit (.bool false)], args := [d] }
  | _ => none }
def FnPhasesWrongFalsely : Prop := fnPhasesRow.holds Try.pinned (OpenSpec.ofChange fnPhasesWrong)

/-- 'laws.FnEarly': WHATEVER THE INPUT: true; the input reads as it did. -/
def fnEarlySpec : ChangeSpec := { name := "fnEarly", fn := fun _ => fun
  | [d] => { results := [.lit (.bool true)], args := [d] }
  | _ => none }
def fnEarlyRow : OpenClaim := { program := "ytffddijdfeafnaa", sum := "a8eef37618c502b55d5719aa9aec7867b9b71258369afab26b7dfb5b75881f0b", func := "loop.example/g00665/laws.FnEarly", spec := "fnEarly", apart := false }
def FnEarlySaid : Prop := fnEarlyRow.holds Try.pinned (OpenSpec.ofChange fnEarlySpec)

/-- ITS FALSE NEIGHBOUR: 'it returns false'. Refute it at one input. -/
def fnEarlyWrong : ChangeSpec := { name := "fnEarly", fn := fun _ => fun
  | [d] => { results := [.lit (.bool false)], args := [d] }
  | _ => none }
def FnEarlyWrongFalsely : Prop := fnEarlyRow.holds Try.pinned (OpenSpec.ofChange fnEarlyWrong)

/- THE SECOND FORM. 'bulk': how many values and letters a reading holds, each counted each time it is reached (what is shared counts as often as it is met; a slice's spare places count too). A statement '..UptoSaid' is the law's where the arguments, and the package variables that the reading takes, are together of bulk at most 1048576: NARROWER than '..Said'. Prove '..Said' where nothing that the law and all that it calls make is longer than what came in: it says more and counts as full. Else prove '..UptoSaid'. A law counts once. -/
mutual
def uptoBulk {H : Type} : DataW H → Nat
  | .lit (.string bytes) => bytes.length + 1
  | .lit _ => 1
  | .nil => 1
  | .ptr d => uptoBulk d + 1
  | .slice elems spare => uptoBulkAll elems + uptoBulkAll spare + 1
  | .agg parts => uptoBulkAll parts + 1
  | .iface _ d => uptoBulk d + 1
  | .map entries => uptoBulkEntries entries + 1
  | .held _ => 1
def uptoBulkAll {H : Type} : List (DataW H) → Nat
  | [] => 0
  | d :: r => uptoBulk d + uptoBulkAll r
def uptoBulkEntries {H : Type} : List (Lit × DataW H) → Nat
  | [] => 0
  | x :: r => uptoBulkEntry x + uptoBulkEntries r
def uptoBulkEntry {H : Type} : Lit × DataW H → Nat
  | (.string bytes, d) => bytes.length + uptoBulk d + 1
  | (_, d) => uptoBulk d + 1
 end
def uptoSmall : (H : Type) → List (DataW H) → Bool := fun _ ds => decide (uptoBulkAll ds ≤ 1048576)
def OpenSpec.upto (s : _root_.Go.ChangeSpec) : _root_.Go.OpenSpec := { _root_.Go.OpenSpec.ofChange s with cond := some uptoSmall }

/-- 'laws.FnExactLanesFault', WHERE WHAT IT READS IS OF BULK AT MOST 1048576: true; the input reads as it did. -/
def fnExactLanesFaultUptoRow : OpenClaim := { program := "ytffddijdfeafnaa", sum := "a8eef37618c502b55d5719aa9aec7867b9b71258369afab26b7dfb5b75881f0b", func := "loop.example/g00665/laws.FnExactLanesFault", spec := "fnExactLanesFault", apart := false, narrowed := true }
def FnExactLanesFaultUptoSaid : Prop := fnExactLanesFaultUptoRow.holds Try.pinned (OpenSpec.upto fnExactLanesFaultSpec)

/-- 'laws.FnExactRulesFault', WHERE WHAT IT READS IS OF BULK AT MOST 1048576: true; the input reads as it did. -/
def fnExactRulesFaultUptoRow : OpenClaim := { program := "ytffddijdfeafnaa", sum := "a8eef37618c502b55d5719aa9aec7867b9b71258369afab26b7dfb5b75881f0b", func := "loop.example/g00665/laws.FnExactRulesFault", spec := "fnExactRulesFault", apart := false, narrowed := true }
def FnExactRulesFaultUptoSaid : Prop := fnExactRulesFaultUptoRow.holds Try.pinned (OpenSpec.upto fnExactRulesFaultSpec)

/-- 'laws.FnExactMetaFault', WHERE WHAT IT READS IS OF BULK AT MOST 1048576: true; the input reads as it did. -/
def fnExactMetaFaultUptoRow : OpenClaim := { program := "ytffddijdfeafnaa", sum := "a8eef37618c502b55d5719aa9aec7867b9b71258369afab26b7dfb5b75881f0b", func := "loop.example/g00665/laws.FnExactMetaFault", spec := "fnExactMetaFault", apart := false, narrowed := true }
def FnExactMetaFaultUptoSaid : Prop := fnExactMetaFaultUptoRow.holds Try.pinned (OpenSpec.upto fnExactMetaFaultSpec)

/-- 'laws.FnExactAgeAt', WHERE WHAT IT READS IS OF BULK AT MOST 1048576: true; the input reads as it did. -/
def fnExactAgeAtUptoRow : OpenClaim := { program := "ytffddijdfeafnaa", sum := "a8eef37618c502b55d5719aa9aec7867b9b71258369afab26b7dfb5b75881f0b", func := "loop.example/g00665/laws.FnExactAgeAt", spec := "fnExactAgeAt", apart := false, narrowed := true }
def FnExactAgeAtUptoSaid : Prop := fnExactAgeAtUptoRow.holds Try.pinned (OpenSpec.upto fnExactAgeAtSpec)

/-- 'laws.FnExactStoreLife', WHERE WHAT IT READS IS OF BULK AT MOST 1048576: true; the input reads as it did. -/
def fnExactStoreLifeUptoRow : OpenClaim := { program := "ytffddijdfeafnaa", sum := "a8eef37618c502b55d5719aa9aec7867b9b71258369afab26b7dfb5b75881f0b", func := "loop.example/g00665/laws.FnExactStoreLife", spec := "fnExactStoreLife", apart := false, narrowed := true }
def FnExactStoreLifeUptoSaid : Prop := fnExactStoreLifeUptoRow.holds Try.pinned (OpenSpec.upto fnExactStoreLifeSpec)

/-- 'laws.FnExactSameBulks', WHERE WHAT IT READS IS OF BULK AT MOST 1048576: true; the input reads as it did. -/
def fnExactSameBulksUptoRow : OpenClaim := { program := "ytffddijdfeafnaa", sum := "a8eef37618c502b55d5719aa9aec7867b9b71258369afab26b7dfb5b75881f0b", func := "loop.example/g00665/laws.FnExactSameBulks", spec := "fnExactSameBulks", apart := false, narrowed := true }
def FnExactSameBulksUptoSaid : Prop := fnExactSameBulksUptoRow.holds Try.pinned (OpenSpec.upto fnExactSameBulksSpec)

/-- 'laws.FnExactSameBreakers', WHERE WHAT IT READS IS OF BULK AT MOST 1048576: true; the input reads as it did. -/
def fnExactSameBreakersUptoRow : OpenClaim := { program := "ytffddijdfeafnaa", sum := "a8eef37618c502b55d5719aa9aec7867b9b71258369afab26b7dfb5b75881f0b", func := "loop.example/g00665/laws.FnExactSameBreakers", spec := "fnExactSameBreakers", apart := false, narrowed := true }
def FnExactSameBreakersUptoSaid : Prop := fnExactSameBreakersUptoRow.holds Try.pinned (OpenSpec.upto fnExactSameBreakersSpec)

/-- 'laws.FnExactMayServe', WHERE WHAT IT READS IS OF BULK AT MOST 1048576: true; the input reads as it did. -/
def fnExactMayServeUptoRow : OpenClaim := { program := "ytffddijdfeafnaa", sum := "a8eef37618c502b55d5719aa9aec7867b9b71258369afab26b7dfb5b75881f0b", func := "loop.example/g00665/laws.FnExactMayServe", spec := "fnExactMayServe", apart := false, narrowed := true }
def FnExactMayServeUptoSaid : Prop := fnExactMayServeUptoRow.holds Try.pinned (OpenSpec.upto fnExactMayServeSpec)

/-- 'laws.FnExactEarlyDue', WHERE WHAT IT READS IS OF BULK AT MOST 1048576: true; the input reads as it did. -/
def fnExactEarlyDueUptoRow : OpenClaim := { program := "ytffddijdfeafnaa", sum := "a8eef37618c502b55d5719aa9aec7867b9b71258369afab26b7dfb5b75881f0b", func := "loop.example/g00665/laws.FnExactEarlyDue", spec := "fnExactEarlyDue", apart := false, narrowed := true }
def FnExactEarlyDueUptoSaid : Prop := fnExactEarlyDueUptoRow.holds Try.pinned (OpenSpec.upto fnExactEarlyDueSpec)

/-- 'laws.FnExactPhaseOf', WHERE WHAT IT READS IS OF BULK AT MOST 1048576: true; the input reads as it did. -/
def fnExactPhaseOfUptoRow : OpenClaim := { program := "ytffddijdfeafnaa", sum := "a8eef37618c502b55d5719aa9aec7867b9b71258369afab26b7dfb5b75881f0b", func := "loop.example/g00665/laws.FnExactPhaseOf", spec := "fnExactPhaseOf", apart := false, narrowed := true }
def FnExactPhaseOfUptoSaid : Prop := fnExactPhaseOfUptoRow.holds Try.pinned (OpenSpec.upto fnExactPhaseOfSpec)

/-- 'laws.FnExactMetaOf', WHERE WHAT IT READS IS OF BULK AT MOST 1048576: true; the input reads as it did. -/
def fnExactMetaOfUptoRow : OpenClaim := { program := "ytffddijdfeafnaa", sum := "a8eef37618c502b55d5719aa9aec7867b9b71258369afab26b7dfb5b75881f0b", func := "loop.example/g00665/laws.FnExactMetaOf", spec := "fnExactMetaOf", apart := false, narrowed := true }
def FnExactMetaOfUptoSaid : Prop := fnExactMetaOfUptoRow.holds Try.pinned (OpenSpec.upto fnExactMetaOfSpec)

/-- 'laws.FnPhases', WHERE WHAT IT READS IS OF BULK AT MOST 1048576: true; the input reads as it did. -/
def fnPhasesUptoRow : OpenClaim := { program := "ytffddijdfeafnaa", sum := "a8eef37618c502b55d5719aa9aec7867b9b71258369afab26b7dfb5b75881f0b", func := "loop.example/g00665/laws.FnPhases", spec := "fnPhases", apart := false, narrowed := true }
def FnPhasesUptoSaid : Prop := fnPhasesUptoRow.holds Try.pinned (OpenSpec.upto fnPhasesSpec)

/-- 'laws.FnEarly', WHERE WHAT IT READS IS OF BULK AT MOST 1048576: true; the input reads as it did. -/
def fnEarlyUptoRow : OpenClaim := { program := "ytffddijdfeafnaa", sum := "a8eef37618c502b55d5719aa9aec7867b9b71258369afab26b7dfb5b75881f0b", func := "loop.example/g00665/laws.FnEarly", spec := "fnEarly", apart := false, narrowed := true }
def FnEarlyUptoSaid : Prop := fnEarlyUptoRow.holds Try.pinned (OpenSpec.upto fnEarlySpec)

end Rows
end Go.Proofs.Ytffddijdfeafnaa
