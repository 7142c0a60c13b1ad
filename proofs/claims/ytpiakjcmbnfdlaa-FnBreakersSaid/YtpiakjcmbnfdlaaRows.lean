/-
  No cell of these rows narrows 'for every input' (looked for: loops, veiled, ifaces, maps, wideKeys, modest, calm, conditions, laid).
  DERIVED. THE GIVEN ROWS OF THIS SEAT. 11 by the template 'for every input the law returns true; each argument reads behind the call as it read before'; 0 by the template 'total and deterministic' (their statements: YtpiakjcmbnfdlaaTotals.lean).
  GIVEN WITH THE SEED: the statements are not yours to turn. If you find one false, say at which input.
  Laid BY PROGRAM, IN A SANDBOX (cutbox-rows.mjs): the forced cells as the released guide's own fill.sh prints them over the translation d9d4d3a85becc68e… (all of the seat's roots in one cut). By AI agents, Wed Nov 11 2026. No macro, syntax, notation, axiom, sorry.
-/
import Derived.Test.YtpiakjcmbnfdlaaChecked
import GoSem.Claim
import GoSem.ClaimJoined
import GoSem.ClaimMapViews
import Derived.JoinedTies
import Derived.KernelRfl
namespace Go.Proofs.Ytpiakjcmbnfdlaa
/- THE CELL 'sum', in the pinned program and in every row, IS THE sha256 OF THE DUMP (.gsa) THAT YtpiakjcmbnfdlaaProg.lean LOADS. Nothing in Lean hashes anything: it is a label: what it is worth is what the hold of that sum in a sandbox is worth. -/
noncomputable def Try.pinned : Pinned := { name := "ytpiakjcmbnfdlaa", sum := "d9d4d3a85becc68e99d53cc4476c78b4e39975124dfe937e45aa44c1c389131c", checked := Try.checked }
namespace Rows
def none {H : Type} : Left H := { results := [], args := [] }

/-- 'laws.FnExactBreakerFault': WHATEVER THE INPUT: true; the input reads as it did. -/
def fnExactBreakerFaultSpec : ChangeSpec := { name := "fnExactBreakerFault", fn := fun _ => fun
  | [d] => { results := [.lit (.bool true)], args := [d] }
  | _ => none }
def fnExactBreakerFaultRow : OpenClaim := { program := "ytpiakjcmbnfdlaa", sum := "d9d4d3a85becc68e99d53cc4476c78b4e39975124dfe937e45aa44c1c389131c", func := "loop.example/g00665/laws.FnExactBreakerFault", spec := "fnExactBreakerFault", unfollowed := true, recurses := true, apart := false }
def FnExactBreakerFaultSaid : Prop := fnExactBreakerFaultRow.holds Try.pinned (OpenSpec.ofChange fnExactBreakerFaultSpec)

/-- ITS FALSE NEIGHBOUR: 'it returns false'. Refute it at one input. -/
def fnExactBreakerFaultWrong : ChangeSpec := { name := "fnExactBreakerFault", fn := fun _ => fun
  | [d] => { results := [.lit (.bool false)], args := [d] }
  | _ => none }
def FnExactBreakerFaultWrongFalsely : Prop := fnExactBreakerFaultRow.holds Try.pinned (OpenSpec.ofChange fnExactBreakerFaultWrong)

/-- 'laws.FnExactBulkFault': WHATEVER THE INPUT: true; the input reads as it did. -/
def fnExactBulkFaultSpec : ChangeSpec := { name := "fnExactBulkFault", fn := fun _ => fun
  | [d1, d2] => { results := [.lit (.bool true)], args := [d1, d2] }
  | _ => none }
def fnExactBulkFaultRow : OpenClaim := { program := "ytpiakjcmbnfdlaa", sum := "d9d4d3a85becc68e99d53cc4476c78b4e39975124dfe937e45aa44c1c389131c", func := "loop.example/g00665/laws.FnExactBulkFault", spec := "fnExactBulkFault", unfollowed := true, recurses := true, apart := false }
def FnExactBulkFaultSaid : Prop := fnExactBulkFaultRow.holds Try.pinned (OpenSpec.ofChange fnExactBulkFaultSpec)

/-- ITS FALSE NEIGHBOUR: 'it returns false'. Refute it at one input. -/
def fnExactBulkFaultWrong : ChangeSpec := { name := "fnExactBulkFault", fn := fun _ => fun
  | [d1, d2] => { results := [.lit (.bool false)], args := [d1, d2] }
  | _ => none }
def FnExactBulkFaultWrongFalsely : Prop := fnExactBulkFaultRow.holds Try.pinned (OpenSpec.ofChange fnExactBulkFaultWrong)

/-- 'laws.FnExactBadIn': WHATEVER THE INPUT: true; the input reads as it did. -/
def fnExactBadInSpec : ChangeSpec := { name := "fnExactBadIn", fn := fun _ => fun
  | [d] => { results := [.lit (.bool true)], args := [d] }
  | _ => none }
def fnExactBadInRow : OpenClaim := { program := "ytpiakjcmbnfdlaa", sum := "d9d4d3a85becc68e99d53cc4476c78b4e39975124dfe937e45aa44c1c389131c", func := "loop.example/g00665/laws.FnExactBadIn", spec := "fnExactBadIn", unfollowed := true, recurses := true, apart := false }
def FnExactBadInSaid : Prop := fnExactBadInRow.holds Try.pinned (OpenSpec.ofChange fnExactBadInSpec)

/-- ITS FALSE NEIGHBOUR: 'it returns false'. Refute it at one input. -/
def fnExactBadInWrong : ChangeSpec := { name := "fnExactBadIn", fn := fun _ => fun
  | [d] => { results := [.lit (.bool false)], args := [d] }
  | _ => none }
def FnExactBadInWrongFalsely : Prop := fnExactBadInRow.holds Try.pinned (OpenSpec.ofChange fnExactBadInWrong)

/-- 'laws.FnExactLeaveBulk': WHATEVER THE INPUT: true; the input reads as it did. -/
def fnExactLeaveBulkSpec : ChangeSpec := { name := "fnExactLeaveBulk", fn := fun _ => fun
  | [d1, d2] => { results := [.lit (.bool true)], args := [d1, d2] }
  | _ => none }
def fnExactLeaveBulkRow : OpenClaim := { program := "ytpiakjcmbnfdlaa", sum := "d9d4d3a85becc68e99d53cc4476c78b4e39975124dfe937e45aa44c1c389131c", func := "loop.example/g00665/laws.FnExactLeaveBulk", spec := "fnExactLeaveBulk", unfollowed := true, recurses := true, apart := false }
def FnExactLeaveBulkSaid : Prop := fnExactLeaveBulkRow.holds Try.pinned (OpenSpec.ofChange fnExactLeaveBulkSpec)

/-- ITS FALSE NEIGHBOUR: 'it returns false'. Refute it at one input. -/
def fnExactLeaveBulkWrong : ChangeSpec := { name := "fnExactLeaveBulk", fn := fun _ => fun
  | [d1, d2] => { results := [.lit (.bool false)], args := [d1, d2] }
  | _ => none }
def FnExactLeaveBulkWrongFalsely : Prop := fnExactLeaveBulkRow.holds Try.pinned (OpenSpec.ofChange fnExactLeaveBulkWrong)

/-- 'laws.FnLanes': WHATEVER THE INPUT: true; the input reads as it did. -/
def fnLanesSpec : ChangeSpec := { name := "fnLanes", fn := fun _ => fun
  | [d] => { results := [.lit (.bool true)], args := [d] }
  | _ => none }
def fnLanesRow : OpenClaim := { program := "ytpiakjcmbnfdlaa", sum := "d9d4d3a85becc68e99d53cc4476c78b4e39975124dfe937e45aa44c1c389131c", func := "loop.example/g00665/laws.FnLanes", spec := "fnLanes", unfollowed := true, recurses := true, apart := false }
def FnLanesSaid : Prop := fnLanesRow.holds Try.pinned (OpenSpec.ofChange fnLanesSpec)

/-- ITS FALSE NEIGHBOUR: 'it returns false'. Refute it at one input. -/
def fnLanesWrong : ChangeSpec := { name := "fnLanes", fn := fun _ => fun
  | [d] => { results := [.lit (.bool false)], args := [d] }
  | _ => none }
def FnLanesWrongFalsely : Prop := fnLanesRow.holds Try.pinned (OpenSpec.ofChange fnLanesWrong)

/-- 'laws.FnExactEnterBulk': WHATEVER THE INPUT: true; the input reads as it did. -/
def fnExactEnterBulkSpec : ChangeSpec := { name := "fnExactEnterBulk", fn := fun _ => fun
  | [d1, d2, d3, d4] => { results := [.lit (.bool true)], args := [d1, d2, d3, d4] }
  | _ => none }
def fnExactEnterBulkRow : OpenClaim := { program := "ytpiakjcmbnfdlaa", sum := "d9d4d3a85becc68e99d53cc4476c78b4e39975124dfe937e45aa44c1c389131c", func := "loop.example/g00665/laws.FnExactEnterBulk", spec := "fnExactEnterBulk", unfollowed := true, recurses := true, apart := false }
def FnExactEnterBulkSaid : Prop := fnExactEnterBulkRow.holds Try.pinned (OpenSpec.ofChange fnExactEnterBulkSpec)

/-- ITS FALSE NEIGHBOUR: 'it returns false'. Refute it at one input. -/
def fnExactEnterBulkWrong : ChangeSpec := { name := "fnExactEnterBulk", fn := fun _ => fun
  | [d1, d2, d3, d4] => { results := [.lit (.bool false)], args := [d1, d2, d3, d4] }
  | _ => none }
def FnExactEnterBulkWrongFalsely : Prop := fnExactEnterBulkRow.holds Try.pinned (OpenSpec.ofChange fnExactEnterBulkWrong)

/-- 'laws.FnExactExpireBulk': WHATEVER THE INPUT: true; the input reads as it did. -/
def fnExactExpireBulkSpec : ChangeSpec := { name := "fnExactExpireBulk", fn := fun _ => fun
  | [d1, d2, d3] => { results := [.lit (.bool true)], args := [d1, d2, d3] }
  | _ => none }
def fnExactExpireBulkRow : OpenClaim := { program := "ytpiakjcmbnfdlaa", sum := "d9d4d3a85becc68e99d53cc4476c78b4e39975124dfe937e45aa44c1c389131c", func := "loop.example/g00665/laws.FnExactExpireBulk", spec := "fnExactExpireBulk", unfollowed := true, recurses := true, apart := false }
def FnExactExpireBulkSaid : Prop := fnExactExpireBulkRow.holds Try.pinned (OpenSpec.ofChange fnExactExpireBulkSpec)

/-- ITS FALSE NEIGHBOUR: 'it returns false'. Refute it at one input. -/
def fnExactExpireBulkWrong : ChangeSpec := { name := "fnExactExpireBulk", fn := fun _ => fun
  | [d1, d2, d3] => { results := [.lit (.bool false)], args := [d1, d2, d3] }
  | _ => none }
def FnExactExpireBulkWrongFalsely : Prop := fnExactExpireBulkRow.holds Try.pinned (OpenSpec.ofChange fnExactExpireBulkWrong)

/-- 'laws.FnExactCancelBulk': WHATEVER THE INPUT: true; the input reads as it did. -/
def fnExactCancelBulkSpec : ChangeSpec := { name := "fnExactCancelBulk", fn := fun _ => fun
  | [d1, d2, d3] => { results := [.lit (.bool true)], args := [d1, d2, d3] }
  | _ => none }
def fnExactCancelBulkRow : OpenClaim := { program := "ytpiakjcmbnfdlaa", sum := "d9d4d3a85becc68e99d53cc4476c78b4e39975124dfe937e45aa44c1c389131c", func := "loop.example/g00665/laws.FnExactCancelBulk", spec := "fnExactCancelBulk", unfollowed := true, recurses := true, apart := false }
def FnExactCancelBulkSaid : Prop := fnExactCancelBulkRow.holds Try.pinned (OpenSpec.ofChange fnExactCancelBulkSpec)

/-- ITS FALSE NEIGHBOUR: 'it returns false'. Refute it at one input. -/
def fnExactCancelBulkWrong : ChangeSpec := { name := "fnExactCancelBulk", fn := fun _ => fun
  | [d1, d2, d3] => { results := [.lit (.bool false)], args := [d1, d2, d3] }
  | _ => none }
def FnExactCancelBulkWrongFalsely : Prop := fnExactCancelBulkRow.holds Try.pinned (OpenSpec.ofChange fnExactCancelBulkWrong)

/-- 'laws.FnBreakers': WHATEVER THE INPUT: true; the input reads as it did. -/
def fnBreakersSpec : ChangeSpec := { name := "fnBreakers", fn := fun _ => fun
  | [d] => { results := [.lit (.bool true)], args := [d] }
  | _ => none }
def fnBreakersRow : OpenClaim := { program := "ytpiakjcmbnfdlaa", sum := "d9d4d3a85becc68e99d53cc4476c78b4e39975124dfe937e45aa44c1c389131c", func := "loop.example/g00665/laws.FnBreakers", spec := "fnBreakers", unfollowed := true, recurses := true, apart := false }
def FnBreakersSaid : Prop := fnBreakersRow.holds Try.pinned (OpenSpec.ofChange fnBreakersSpec)

/-- ITS FALSE NEIGHBOUR: 'it returns false'. Refute it at one input. -/
def fnBreakersWrong : ChangeSpec := { name := "fnBreakers", fn := fun _ => fun
  | [d] => { results := [.lit (.bool false)], args := [d] }
  | _ => none }
def FnBreakersWrongFalsely : Prop := fnBreakersRow.holds Try.pinned (OpenSpec.ofChange fnBreakersWrong)

/-- 'laws.FnExactAllowFetch': WHATEVER THE INPUT: true; the input reads as it did. -/
def fnExactAllowFetchSpec : ChangeSpec := { name := "fnExactAllowFetch", fn := fun _ => fun
  | [d1, d2, d3] => { results := [.lit (.bool true)], args := [d1, d2, d3] }
  | _ => none }
def fnExactAllowFetchRow : OpenClaim := { program := "ytpiakjcmbnfdlaa", sum := "d9d4d3a85becc68e99d53cc4476c78b4e39975124dfe937e45aa44c1c389131c", func := "loop.example/g00665/laws.FnExactAllowFetch", spec := "fnExactAllowFetch", unfollowed := true, recurses := true, apart := false }
def FnExactAllowFetchSaid : Prop := fnExactAllowFetchRow.holds Try.pinned (OpenSpec.ofChange fnExactAllowFetchSpec)

/-- ITS FALSE NEIGHBOUR: 'it returns false'. Refute it at one input. -/
def fnExactAllowFetchWrong : ChangeSpec := { name := "fnExactAllowFetch", fn := fun _ => fun
  | [d1, d2, d3] => { results := [.lit (.bool false)], args := [d1, d2, d3] }
  | _ => none }
def FnExactAllowFetchWrongFalsely : Prop := fnExactAllowFetchRow.holds Try.pinned (OpenSpec.ofChange fnExactAllowFetchWrong)

/-- 'laws.FnWaits': WHATEVER THE INPUT: true; the input reads as it did. -/
def fnWaitsSpec : ChangeSpec := { name := "fnWaits", fn := fun _ => fun
  | [d] => { results := [.lit (.bool true)], args := [d] }
  | _ => none }
def fnWaitsRow : OpenClaim := { program := "ytpiakjcmbnfdlaa", sum := "d9d4d3a85becc68e99d53cc4476c78b4e39975124dfe937e45aa44c1c389131c", func := "loop.example/g00665/laws.FnWaits", spec := "fnWaits", unfollowed := true, recurses := true, apart := false }
def FnWaitsSaid : Prop := fnWaitsRow.holds Try.pinned (OpenSpec.ofChange fnWaitsSpec)

/-- ITS FALSE NEIGHBOUR: 'it returns false'. Refute it at one input. -/
def fnWaitsWrong : ChangeSpec := { name := "fnWaits", fn := fun _ => fun
  | [d] => { results := [.lit (.bool false)], args := [d] }
  | _ => none }
def FnWaitsWrongFalsely : Prop := fnWaitsRow.holds Try.pinned (OpenSpec.ofChange fnWaitsWrong)

/- THE SECOND FORM. 'bulk': how many values and letters a reading holds, each counted each time it is reached (what is shared counts as often as it is met; a slice's spare places count too). A statement '..UptoSaid' is the law's where the arguments, and the package variables that the reading takes, are together of bulk at most 1048576: NARROWER than '..Said'. Prove '..Said' where nothing that the law and all that it calls make is longer than what came in: it says more and counts as full. Else prove '..UptoSaid'. A law counts once. -/
mutual
def uptoBulk {H : Type} : DataW H → Nat
  | .lit (.string bytes) => bytes.length + 1
  | .lit _ => 1
  | .nil => 1
  | .ptr d => uptoBulk d + 1
  | .slice elems spare => uptoBulkAll elems + uptoBulkAll spare + 1
  | .agg parts => uptoBulkAll parts + 1
  | .iface _ d => uptoBulk d + 1
  | .map entries => uptoBulkEntries entries + 1
  | .held _ => 1
def uptoBulkAll {H : Type} : List (DataW H) → Nat
  | [] => 0
  | d :: r => uptoBulk d + uptoBulkAll r
def uptoBulkEntries {H : Type} : List (Lit × DataW H) → Nat
  | [] => 0
  | x :: r => uptoBulkEntry x + uptoBulkEntries r
def uptoBulkEntry {H : Type} : Lit × DataW H → Nat
  | (.string bytes, d) => bytes.length + uptoBulk d + 1
  | (_, d) => uptoBulk d + 1
 end
def uptoSmall : (H : Type) → List (DataW H) → Bool := fun _ ds => decide (uptoBulkAll ds ≤ 1048576)
def OpenSpec.upto (s : _root_.Go.ChangeSpec) : _root_.Go.OpenSpec := { _root_.Go.OpenSpec.ofChange s with cond := some uptoSmall }

/-- 'laws.FnExactBreakerFault', WHERE WHAT IT READS IS OF BULK AT MOST 1048576: true; the input reads as it did. -/
def fnExactBreakerFaultUptoRow : OpenClaim := { program := "ytpiakjcmbnfdlaa", sum := "d9d4d3a85becc68e99d53cc4476c78b4e39975124dfe937e45aa44c1c389131c", func := "loop.example/g00665/laws.FnExactBreakerFault", spec := "fnExactBreakerFault", unfollowed := true, recurses := true, apart := false, narrowed := true }
def FnExactBreakerFaultUptoSaid : Prop := fnExactBreakerFaultUptoRow.holds Try.pinned (OpenSpec.upto fnExactBreakerFaultSpec)

/-- 'laws.FnExactBulkFault', WHERE WHAT IT READS IS OF BULK AT MOST 1048576: true; the input reads as it did. -/
def fnExactBulkFaultUptoRow : OpenClaim := { program := "ytpiakjcmbnfdlaa", sum := "d9d4d3a85becc68e99d53cc4476c78b4e39975124dfe937e45aa44c1c389131c", func := "loop.example/g00665/laws.FnExactBulkFault", spec := "fnExactBulkFault", unfollowed := true, recurses := true, apart := false, narrowed := true }
def FnExactBulkFaultUptoSaid : Prop := fnExactBulkFaultUptoRow.holds Try.pinned (OpenSpec.upto fnExactBulkFaultSpec)

/-- 'laws.FnExactBadIn', WHERE WHAT IT READS IS OF BULK AT MOST 1048576: true; the input reads as it did. -/
def fnExactBadInUptoRow : OpenClaim := { program := "ytpiakjcmbnfdlaa", sum := "d9d4d3a85becc68e99d53cc4476c78b4e39975124dfe937e45aa44c1c389131c", func := "loop.example/g00665/laws.FnExactBadIn", spec := "fnExactBadIn", unfollowed := true, recurses := true, apart := false, narrowed := true }
def FnExactBadInUptoSaid : Prop := fnExactBadInUptoRow.holds Try.pinned (OpenSpec.upto fnExactBadInSpec)

/-- 'laws.FnExactLeaveBulk', WHERE WHAT IT READS IS OF BULK AT MOST 1048576: true; the input reads as it did. -/
def fnExactLeaveBulkUptoRow : OpenClaim := { program := "ytpiakjcmbnfdlaa", sum := "d9d4d3a85becc68e99d53cc4476c78b4e39975124dfe937e45aa44c1c389131c", func := "loop.example/g00665/laws.FnExactLeaveBulk", spec := "fnExactLeaveBulk", unfollowed := true, recurses := true, apart := false, narrowed := true }
def FnExactLeaveBulkUptoSaid : Prop := fnExactLeaveBulkUptoRow.holds Try.pinned (OpenSpec.upto fnExactLeaveBulkSpec)

/-- 'laws.FnLanes', WHERE WHAT IT READS IS OF BULK AT MOST 1048576: true; the input reads as it did. -/
def fnLanesUptoRow : OpenClaim := { program := "ytpiakjcmbnfdlaa", sum := "d9d4d3a85becc68e99d53cc4476c78b4e39975124dfe937e45aa44c1c389131c", func := "loop.example/g00665/laws.FnLanes", spec := "fnLanes", unfollowed := true, recurses := true, apart := false, narrowed := true }
def FnLanesUptoSaid : Prop := fnLanesUptoRow.holds Try.pinned (OpenSpec.upto fnLanesSpec)

/-- 'laws.FnExactEnterBulk', WHERE WHAT IT READS IS OF BULK AT MOST 1048576: true; the input reads as it did. -/
def fnExactEnterBulkUptoRow : OpenClaim := { program := "ytpiakjcmbnfdlaa", sum := "d9d4d3a85becc68e99d53cc4476c78b4e39975124dfe937e45aa44c1c389131c", func := "loop.example/g00665/laws.FnExactEnterBulk", spec := "fnExactEnterBulk", unfollowed := true, recurses := true, apart := false, narrowed := true }
def FnExactEnterBulkUptoSaid : Prop := fnExactEnterBulkUptoRow.holds Try.pinned (OpenSpec.upto fnExactEnterBulkSpec)

/-- 'laws.FnExactExpireBulk', WHERE WHAT IT READS IS OF BULK AT MOST 1048576: true; the input reads as it did. -/
def fnExactExpireBulkUptoRow : OpenClaim := { program := "ytpiakjcmbnfdlaa", sum := "d9d4d3a85becc68e99d53cc4476c78b4e39975124dfe937e45aa44c1c389131c", func := "loop.example/g00665/laws.FnExactExpireBulk", spec := "fnExactExpireBulk", unfollowed := true, recurses := true, apart := false, narrowed := true }
def FnExactExpireBulkUptoSaid : Prop := fnExactExpireBulkUptoRow.holds Try.pinned (OpenSpec.upto fnExactExpireBulkSpec)

/-- 'laws.FnExactCancelBulk', WHERE WHAT IT READS IS OF BULK AT MOST 1048576: true; the input reads as it did. -/
def fnExactCancelBulkUptoRow : OpenClaim := { program := "ytpiakjcmbnfdlaa", sum := "d9d4d3a85becc68e99d53cc4476c78b4e39975124dfe937e45aa44c1c389131c", func := "loop.example/g00665/laws.FnExactCancelBulk", spec := "fnExactCancelBulk", unfollowed := true, recurses := true, apart := false, narrowed := true }
def FnExactCancelBulkUptoSaid : Prop := fnExactCancelBulkUptoRow.holds Try.pinned (OpenSpec.upto fnExactCancelBulkSpec)

/-- 'laws.FnBreakers', WHERE WHAT IT READS IS OF BULK AT MOST 1048576: true; the input reads as it did. -/
def fnBreakersUptoRow : OpenClaim := { program := "ytpiakjcmbnfdlaa", sum := "d9d4d3a85becc68e99d53cc4476c78b4e39975124dfe937e45aa44c1c389131c", func := "loop.example/g00665/laws.FnBreakers", spec := "fnBreakers", unfollowed := true, recurses := true, apart := false, narrowed := true }
def FnBreakersUptoSaid : Prop := fnBreakersUptoRow.holds Try.pinned (OpenSpec.upto fnBreakersSpec)

/-- 'laws.FnExactAllowFetch', WHERE WHAT IT READS IS OF BULK AT MOST 1048576: true; the input reads as it did. -/
def fnExactAllowFetchUptoRow : OpenClaim := { program := "ytpiakjcmbnfdlaa", sum := "d9d4d3a85becc68e99d53cc4476c78b4e39975124dfe937e45aa44c1c389131c", func := "loop.example/g00665/laws.FnExactAllowFetch", spec := "fnExactAllowFetch", unfollowed := true, recurses := true, apart := false, narrowed := true }
def FnExactAllowFetchUptoSaid : Prop := fnExactAllowFetchUptoRow.holds Try.pinned (OpenSpec.upto fnExactAllowFetchSpec)

/-- 'laws.FnWaits', WHERE WHAT IT READS IS OF BULK AT MOST 1048576: true; the input reads as it did. -/
def fnWaitsUptoRow : OpenClaim := { program := "ytpiakjcmbnfdlaa", sum := "d9d4d3a85becc68e99d53cc4476c78b4e39975124dfe937e45aa44c1c389131c", func := "loop.example/g00665/laws.FnWaits", spec := "fnWaits", unfollowed := true, recurses := true, apart := false, narrowed := true }
def FnWaitsUptoSaid : Prop := fnWaitsUptoRow.holds Try.pinned (OpenSpec.upto fnWaitsSpec)

end Rows
end Go.Proofs.Ytpiakjcmbnfdlaa
