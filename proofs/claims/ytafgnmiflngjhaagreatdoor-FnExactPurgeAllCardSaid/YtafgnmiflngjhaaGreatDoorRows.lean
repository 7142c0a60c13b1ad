/-
  NARROWER THAN 'FOR EVERY INPUT', by the rows' own cells (each row's printed sentence says how): FnExactPutEntry: laid · FnExactKeysTagged: laid · FnExactPeekEntry: laid · FnPurges: laid · FnStores: laid · FnExactPinEntry: laid · FnTouches: laid · FnExactDropEntry: laid · FnExactPurgeAll: laid · FnExactPurgeKey: laid · FnExactPurgeTag: laid · FnExactTouchEntry: laid.
  DERIVED. THE GIVEN ROWS OF THIS SEAT. 12 by the template 'for every input the law returns true; each argument reads behind the call as it read before'; 0 by the template 'total and deterministic' (their statements: YtafgnmiflngjhaaGreatDoorTotals.lean).
  GIVEN WITH THE SEED: the statements are not yours to turn. If you find one false, say at which input.
  Laid BY PROGRAM, IN A SANDBOX (cutbox-rows.mjs): the forced cells as the released guide's own fill.sh prints them over the translation 11a0e95b05779cca… (all of the seat's roots in one cut). By AI agents, Wed Nov 11 2026. No macro, syntax, notation, axiom, sorry.
-/
import Derived.Test.YtafgnmiflngjhaaGreatDoorChecked
import GoSem.PinnedTables
import GoSem.Claim
import GoSem.ClaimJoined
import GoSem.ClaimMapViews
import Derived.JoinedTies
import Derived.KernelRfl
namespace Go.Proofs.YtafgnmiflngjhaaGreatDoor
/- THE CELL 'sum', in the pinned program and in every row, IS THE sha256 OF THE DUMP (.gsa) THAT YtafgnmiflngjhaaGreatDoorProg.lean LOADS. Nothing in Lean hashes anything: it is a label: what it is worth is what the hold of that sum in a sandbox is worth. -/
noncomputable def Tryz.pinned : Pinned := { name := "ytafgnmiflngjhaagreatdoor", sum := "11a0e95b05779ccace329ba550d1768b4a0619249fe55d353765c6a4693708c7", checked := Tryz.checked }
namespace Rows
def none {H : Type} : Left H := { results := [], args := [] }

/- WHAT THE LISTED PACKAGE-LEVEL VARIABLES READ AS WHEN THE CALL BEGINS. Each datum BY PROGRAM (the guide's laid-datum.mjs) off the statement by which the dump's own 'gosem.cut.vars' lays the variable. In a bare row this is a premise. The card (YtafgnmiflngjhaaGreatDoorCards.lean) ties it to the program's text. -/
def laid_unicode_utf8_acceptRanges {H : Type} : DataW H := .agg [.agg [.lit (.int .u8 128), .lit (.int .u8 191)], .agg [.lit (.int .u8 160), .lit (.int .u8 191)], .agg [.lit (.int .u8 128), .lit (.int .u8 159)], .agg [.lit (.int .u8 144), .lit (.int .u8 191)], .agg [.lit (.int .u8 128), .lit (.int .u8 143)], .agg [.lit (.int .u8 0), .lit (.int .u8 0)], .agg [.lit (.int .u8 0), .lit (.int .u8 0)], .agg [.lit (.int .u8 0), .lit (.int .u8 0)], .agg [.lit (.int .u8 0), .lit (.int .u8 0)], .agg [.lit (.int .u8 0), .lit (.int .u8 0)], .agg [.lit (.int .u8 0), .lit (.int .u8 0)], .agg [.lit (.int .u8 0), .lit (.int .u8 0)], .agg [.lit (.int .u8 0), .lit (.int .u8 0)], .agg [.lit (.int .u8 0), .lit (.int .u8 0)], .agg [.lit (.int .u8 0), .lit (.int .u8 0)], .agg [.lit (.int .u8 0), .lit (.int .u8 0)]]
/-- One of Go's own tables, pinned by name: the form's constant. -/
def laid_unicode_utf8_first : DataW Unit := Go.Pinned.utf8First

/-- 'laws.FnExactPutEntry': WHATEVER THE INPUT: true; the input reads as it did. -/
def fnExactPutEntrySpec : ChangeSpec := { name := "fnExactPutEntry", fn := fun _ => fun
  | [d1, d2] => { results := [.lit (.bool true)], args := [d1, d2] }
  | _ => none }
def fnExactPutEntryRow : OpenClaim := { program := "ytafgnmiflngjhaagreatdoor", sum := "11a0e95b05779ccace329ba550d1768b4a0619249fe55d353765c6a4693708c7", func := "loop.example/g00665/laws.FnExactPutEntry", spec := "fnExactPutEntry", inPlace := ["internal/bytealg.IndexByteString", "internal/bytealg.IndexString", "internal/abi.NoEscape", "slices.overlaps[loop.example/g00665/impl.Entry]"], unfollowed := true, recurses := true, named := ["unicode/utf8.first", "unicode/utf8.acceptRanges", "internal/bytealg.MaxLen"], apart := false, laid := [("unicode/utf8.acceptRanges", laid_unicode_utf8_acceptRanges), ("unicode/utf8.first", laid_unicode_utf8_first)] }
def FnExactPutEntrySaid : Prop := fnExactPutEntryRow.holds Tryz.pinned (OpenSpec.ofChange fnExactPutEntrySpec)

/-- ITS FALSE NEIGHBOUR: 'it returns false'. Refute it at one input. -/
def fnExactPutEntryWrong : ChangeSpec := { name := "fnExactPutEntry", fn := fun _ => fun
  | [d1, d2] => { results := [.lit (.bool false)], args := [d1, d2] }
  | _ => none }
def FnExactPutEntryWrongFalsely : Prop := fnExactPutEntryRow.holds Tryz.pinned (OpenSpec.ofChange fnExactPutEntryWrong)

/-- 'laws.FnExactKeysTagged': WHATEVER THE INPUT: true; the input reads as it did. -/
def fnExactKeysTaggedSpec : ChangeSpec := { name := "fnExactKeysTagged", fn := fun _ => fun
  | [d1, d2] => { results := [.lit (.bool true)], args := [d1, d2] }
  | _ => none }
def fnExactKeysTaggedRow : OpenClaim := { program := "ytafgnmiflngjhaagreatdoor", sum := "11a0e95b05779ccace329ba550d1768b4a0619249fe55d353765c6a4693708c7", func := "loop.example/g00665/laws.FnExactKeysTagged", spec := "fnExactKeysTagged", inPlace := ["internal/bytealg.IndexByteString", "internal/bytealg.IndexString", "internal/abi.NoEscape"], unfollowed := true, recurses := true, named := ["unicode/utf8.first", "unicode/utf8.acceptRanges", "internal/bytealg.MaxLen"], apart := false, laid := [("unicode/utf8.acceptRanges", laid_unicode_utf8_acceptRanges), ("unicode/utf8.first", laid_unicode_utf8_first)] }
def FnExactKeysTaggedSaid : Prop := fnExactKeysTaggedRow.holds Tryz.pinned (OpenSpec.ofChange fnExactKeysTaggedSpec)

/-- ITS FALSE NEIGHBOUR: 'it returns false'. Refute it at one input. -/
def fnExactKeysTaggedWrong : ChangeSpec := { name := "fnExactKeysTagged", fn := fun _ => fun
  | [d1, d2] => { results := [.lit (.bool false)], args := [d1, d2] }
  | _ => none }
def FnExactKeysTaggedWrongFalsely : Prop := fnExactKeysTaggedRow.holds Tryz.pinned (OpenSpec.ofChange fnExactKeysTaggedWrong)

/-- 'laws.FnExactPeekEntry': WHATEVER THE INPUT: true; the input reads as it did. -/
def fnExactPeekEntrySpec : ChangeSpec := { name := "fnExactPeekEntry", fn := fun _ => fun
  | [d1, d2] => { results := [.lit (.bool true)], args := [d1, d2] }
  | _ => none }
def fnExactPeekEntryRow : OpenClaim := { program := "ytafgnmiflngjhaagreatdoor", sum := "11a0e95b05779ccace329ba550d1768b4a0619249fe55d353765c6a4693708c7", func := "loop.example/g00665/laws.FnExactPeekEntry", spec := "fnExactPeekEntry", inPlace := ["internal/bytealg.IndexByteString", "internal/bytealg.IndexString", "internal/abi.NoEscape"], unfollowed := true, recurses := true, named := ["unicode/utf8.first", "unicode/utf8.acceptRanges", "internal/bytealg.MaxLen"], apart := false, laid := [("unicode/utf8.acceptRanges", laid_unicode_utf8_acceptRanges), ("unicode/utf8.first", laid_unicode_utf8_first)] }
def FnExactPeekEntrySaid : Prop := fnExactPeekEntryRow.holds Tryz.pinned (OpenSpec.ofChange fnExactPeekEntrySpec)

/-- ITS FALSE NEIGHBOUR: 'it returns false'. Refute it at one input. -/
def fnExactPeekEntryWrong : ChangeSpec := { name := "fnExactPeekEntry", fn := fun _ => fun
  | [d1, d2] => { results := [.lit (.bool false)], args := [d1, d2] }
  | _ => none }
def FnExactPeekEntryWrongFalsely : Prop := fnExactPeekEntryRow.holds Tryz.pinned (OpenSpec.ofChange fnExactPeekEntryWrong)

/-- 'laws.FnPurges': WHATEVER THE INPUT: true; the input reads as it did. -/
def fnPurgesSpec : ChangeSpec := { name := "fnPurges", fn := fun _ => fun
  | [d] => { results := [.lit (.bool true)], args := [d] }
  | _ => none }
def fnPurgesRow : OpenClaim := { program := "ytafgnmiflngjhaagreatdoor", sum := "11a0e95b05779ccace329ba550d1768b4a0619249fe55d353765c6a4693708c7", func := "loop.example/g00665/laws.FnPurges", spec := "fnPurges", inPlace := ["internal/bytealg.IndexByteString", "internal/bytealg.IndexString", "internal/abi.NoEscape"], unfollowed := true, recurses := true, named := ["unicode/utf8.first", "unicode/utf8.acceptRanges", "internal/bytealg.MaxLen"], apart := false, laid := [("unicode/utf8.acceptRanges", laid_unicode_utf8_acceptRanges), ("unicode/utf8.first", laid_unicode_utf8_first)] }
def FnPurgesSaid : Prop := fnPurgesRow.holds Tryz.pinned (OpenSpec.ofChange fnPurgesSpec)

/-- ITS FALSE NEIGHBOUR: 'it returns false'. Refute it at one input. -/
def fnPurgesWrong : ChangeSpec := { name := "fnPurges", fn := fun _ => fun
  | [d] => { results := [.lit (.bool false)], args := [d] }
  | _ => none }
def FnPurgesWrongFalsely : Prop := fnPurgesRow.holds Tryz.pinned (OpenSpec.ofChange fnPurgesWrong)

/-- 'laws.FnStores': WHATEVER THE INPUT: true; the input reads as it did. -/
def fnStoresSpec : ChangeSpec := { name := "fnStores", fn := fun _ => fun
  | [d] => { results := [.lit (.bool true)], args := [d] }
  | _ => none }
def fnStoresRow : OpenClaim := { program := "ytafgnmiflngjhaagreatdoor", sum := "11a0e95b05779ccace329ba550d1768b4a0619249fe55d353765c6a4693708c7", func := "loop.example/g00665/laws.FnStores", spec := "fnStores", inPlace := ["internal/bytealg.IndexByteString", "internal/bytealg.IndexString", "internal/abi.NoEscape", "slices.overlaps[loop.example/g00665/impl.Entry]"], unfollowed := true, recurses := true, named := ["unicode/utf8.first", "unicode/utf8.acceptRanges", "internal/bytealg.MaxLen"], apart := false, laid := [("unicode/utf8.acceptRanges", laid_unicode_utf8_acceptRanges), ("unicode/utf8.first", laid_unicode_utf8_first)] }
def FnStoresSaid : Prop := fnStoresRow.holds Tryz.pinned (OpenSpec.ofChange fnStoresSpec)

/-- ITS FALSE NEIGHBOUR: 'it returns false'. Refute it at one input. -/
def fnStoresWrong : ChangeSpec := { name := "fnStores", fn := fun _ => fun
  | [d] => { results := [.lit (.bool false)], args := [d] }
  | _ => none }
def FnStoresWrongFalsely : Prop := fnStoresRow.holds Tryz.pinned (OpenSpec.ofChange fnStoresWrong)

/-- 'laws.FnExactPinEntry': WHATEVER THE INPUT: true; the input reads as it did. -/
def fnExactPinEntrySpec : ChangeSpec := { name := "fnExactPinEntry", fn := fun _ => fun
  | [d1, d2, d3] => { results := [.lit (.bool true)], args := [d1, d2, d3] }
  | _ => none }
def fnExactPinEntryRow : OpenClaim := { program := "ytafgnmiflngjhaagreatdoor", sum := "11a0e95b05779ccace329ba550d1768b4a0619249fe55d353765c6a4693708c7", func := "loop.example/g00665/laws.FnExactPinEntry", spec := "fnExactPinEntry", inPlace := ["internal/bytealg.IndexByteString", "internal/bytealg.IndexString", "internal/abi.NoEscape"], unfollowed := true, recurses := true, named := ["unicode/utf8.first", "unicode/utf8.acceptRanges", "internal/bytealg.MaxLen"], apart := false, laid := [("unicode/utf8.acceptRanges", laid_unicode_utf8_acceptRanges), ("unicode/utf8.first", laid_unicode_utf8_first)] }
def FnExactPinEntrySaid : Prop := fnExactPinEntryRow.holds Tryz.pinned (OpenSpec.ofChange fnExactPinEntrySpec)

/-- ITS FALSE NEIGHBOUR: 'it returns false'. Refute it at one input. -/
def fnExactPinEntryWrong : ChangeSpec := { name := "fnExactPinEntry", fn := fun _ => fun
  | [d1, d2, d3] => { results := [.lit (.bool false)], args := [d1, d2, d3] }
  | _ => none }
def FnExactPinEntryWrongFalsely : Prop := fnExactPinEntryRow.holds Tryz.pinned (OpenSpec.ofChange fnExactPinEntryWrong)

/-- 'laws.FnTouches': WHATEVER THE INPUT: true; the input reads as it did. -/
def fnTouchesSpec : ChangeSpec := { name := "fnTouches", fn := fun _ => fun
  | [d] => { results := [.lit (.bool true)], args := [d] }
  | _ => none }
def fnTouchesRow : OpenClaim := { program := "ytafgnmiflngjhaagreatdoor", sum := "11a0e95b05779ccace329ba550d1768b4a0619249fe55d353765c6a4693708c7", func := "loop.example/g00665/laws.FnTouches", spec := "fnTouches", inPlace := ["internal/bytealg.IndexByteString", "internal/bytealg.IndexString", "internal/abi.NoEscape", "slices.overlaps[loop.example/g00665/impl.Entry]"], unfollowed := true, recurses := true, named := ["unicode/utf8.first", "unicode/utf8.acceptRanges", "internal/bytealg.MaxLen"], apart := false, laid := [("unicode/utf8.acceptRanges", laid_unicode_utf8_acceptRanges), ("unicode/utf8.first", laid_unicode_utf8_first)] }
def FnTouchesSaid : Prop := fnTouchesRow.holds Tryz.pinned (OpenSpec.ofChange fnTouchesSpec)

/-- ITS FALSE NEIGHBOUR: 'it returns false'. Refute it at one input. -/
def fnTouchesWrong : ChangeSpec := { name := "fnTouches", fn := fun _ => fun
  | [d] => { results := [.lit (.bool false)], args := [d] }
  | _ => none }
def FnTouchesWrongFalsely : Prop := fnTouchesRow.holds Tryz.pinned (OpenSpec.ofChange fnTouchesWrong)

/-- 'laws.FnExactDropEntry': WHATEVER THE INPUT: true; the input reads as it did. -/
def fnExactDropEntrySpec : ChangeSpec := { name := "fnExactDropEntry", fn := fun _ => fun
  | [d1, d2] => { results := [.lit (.bool true)], args := [d1, d2] }
  | _ => none }
def fnExactDropEntryRow : OpenClaim := { program := "ytafgnmiflngjhaagreatdoor", sum := "11a0e95b05779ccace329ba550d1768b4a0619249fe55d353765c6a4693708c7", func := "loop.example/g00665/laws.FnExactDropEntry", spec := "fnExactDropEntry", inPlace := ["internal/bytealg.IndexByteString", "internal/bytealg.IndexString", "internal/abi.NoEscape"], unfollowed := true, recurses := true, named := ["unicode/utf8.first", "unicode/utf8.acceptRanges", "internal/bytealg.MaxLen"], apart := false, laid := [("unicode/utf8.acceptRanges", laid_unicode_utf8_acceptRanges), ("unicode/utf8.first", laid_unicode_utf8_first)] }
def FnExactDropEntrySaid : Prop := fnExactDropEntryRow.holds Tryz.pinned (OpenSpec.ofChange fnExactDropEntrySpec)

/-- ITS FALSE NEIGHBOUR: 'it returns false'. Refute it at one input. -/
def fnExactDropEntryWrong : ChangeSpec := { name := "fnExactDropEntry", fn := fun _ => fun
  | [d1, d2] => { results := [.lit (.bool false)], args := [d1, d2] }
  | _ => none }
def FnExactDropEntryWrongFalsely : Prop := fnExactDropEntryRow.holds Tryz.pinned (OpenSpec.ofChange fnExactDropEntryWrong)

/-- 'laws.FnExactPurgeAll': WHATEVER THE INPUT: true; the input reads as it did. -/
def fnExactPurgeAllSpec : ChangeSpec := { name := "fnExactPurgeAll", fn := fun _ => fun
  | [d1, d2] => { results := [.lit (.bool true)], args := [d1, d2] }
  | _ => none }
def fnExactPurgeAllRow : OpenClaim := { program := "ytafgnmiflngjhaagreatdoor", sum := "11a0e95b05779ccace329ba550d1768b4a0619249fe55d353765c6a4693708c7", func := "loop.example/g00665/laws.FnExactPurgeAll", spec := "fnExactPurgeAll", inPlace := ["internal/bytealg.IndexByteString", "internal/bytealg.IndexString", "internal/abi.NoEscape"], unfollowed := true, recurses := true, named := ["unicode/utf8.first", "unicode/utf8.acceptRanges", "internal/bytealg.MaxLen"], apart := false, laid := [("unicode/utf8.acceptRanges", laid_unicode_utf8_acceptRanges), ("unicode/utf8.first", laid_unicode_utf8_first)] }
def FnExactPurgeAllSaid : Prop := fnExactPurgeAllRow.holds Tryz.pinned (OpenSpec.ofChange fnExactPurgeAllSpec)

/-- ITS FALSE NEIGHBOUR: 'it returns false'. Refute it at one input. -/
def fnExactPurgeAllWrong : ChangeSpec := { name := "fnExactPurgeAll", fn := fun _ => fun
  | [d1, d2] => { results := [.lit (.bool false)], args := [d1, d2] }
  | _ => none }
def FnExactPurgeAllWrongFalsely : Prop := fnExactPurgeAllRow.holds Tryz.pinned (OpenSpec.ofChange fnExactPurgeAllWrong)

/-- 'laws.FnExactPurgeKey': WHATEVER THE INPUT: true; the input reads as it did. -/
def fnExactPurgeKeySpec : ChangeSpec := { name := "fnExactPurgeKey", fn := fun _ => fun
  | [d1, d2, d3] => { results := [.lit (.bool true)], args := [d1, d2, d3] }
  | _ => none }
def fnExactPurgeKeyRow : OpenClaim := { program := "ytafgnmiflngjhaagreatdoor", sum := "11a0e95b05779ccace329ba550d1768b4a0619249fe55d353765c6a4693708c7", func := "loop.example/g00665/laws.FnExactPurgeKey", spec := "fnExactPurgeKey", inPlace := ["internal/bytealg.IndexByteString", "internal/bytealg.IndexString", "internal/abi.NoEscape"], unfollowed := true, recurses := true, named := ["unicode/utf8.first", "unicode/utf8.acceptRanges", "internal/bytealg.MaxLen"], apart := false, laid := [("unicode/utf8.acceptRanges", laid_unicode_utf8_acceptRanges), ("unicode/utf8.first", laid_unicode_utf8_first)] }
def FnExactPurgeKeySaid : Prop := fnExactPurgeKeyRow.holds Tryz.pinned (OpenSpec.ofChange fnExactPurgeKeySpec)

/-- ITS FALSE NEIGHBOUR: 'it returns false'. Refute it at one input. -/
def fnExactPurgeKeyWrong : ChangeSpec := { name := "fnExactPurgeKey", fn := fun _ => fun
  | [d1, d2, d3] => { results := [.lit (.bool false)], args := [d1, d2, d3] }
  | _ => none }
def FnExactPurgeKeyWrongFalsely : Prop := fnExactPurgeKeyRow.holds Tryz.pinned (OpenSpec.ofChange fnExactPurgeKeyWrong)

/-- 'laws.FnExactPurgeTag': WHATEVER THE INPUT: true; the input reads as it did. -/
def fnExactPurgeTagSpec : ChangeSpec := { name := "fnExactPurgeTag", fn := fun _ => fun
  | [d1, d2, d3] => { results := [.lit (.bool true)], args := [d1, d2, d3] }
  | _ => none }
def fnExactPurgeTagRow : OpenClaim := { program := "ytafgnmiflngjhaagreatdoor", sum := "11a0e95b05779ccace329ba550d1768b4a0619249fe55d353765c6a4693708c7", func := "loop.example/g00665/laws.FnExactPurgeTag", spec := "fnExactPurgeTag", inPlace := ["internal/bytealg.IndexByteString", "internal/bytealg.IndexString", "internal/abi.NoEscape"], unfollowed := true, recurses := true, named := ["unicode/utf8.first", "unicode/utf8.acceptRanges", "internal/bytealg.MaxLen"], apart := false, laid := [("unicode/utf8.acceptRanges", laid_unicode_utf8_acceptRanges), ("unicode/utf8.first", laid_unicode_utf8_first)] }
def FnExactPurgeTagSaid : Prop := fnExactPurgeTagRow.holds Tryz.pinned (OpenSpec.ofChange fnExactPurgeTagSpec)

/-- ITS FALSE NEIGHBOUR: 'it returns false'. Refute it at one input. -/
def fnExactPurgeTagWrong : ChangeSpec := { name := "fnExactPurgeTag", fn := fun _ => fun
  | [d1, d2, d3] => { results := [.lit (.bool false)], args := [d1, d2, d3] }
  | _ => none }
def FnExactPurgeTagWrongFalsely : Prop := fnExactPurgeTagRow.holds Tryz.pinned (OpenSpec.ofChange fnExactPurgeTagWrong)

/-- 'laws.FnExactTouchEntry': WHATEVER THE INPUT: true; the input reads as it did. -/
def fnExactTouchEntrySpec : ChangeSpec := { name := "fnExactTouchEntry", fn := fun _ => fun
  | [d1, d2] => { results := [.lit (.bool true)], args := [d1, d2] }
  | _ => none }
def fnExactTouchEntryRow : OpenClaim := { program := "ytafgnmiflngjhaagreatdoor", sum := "11a0e95b05779ccace329ba550d1768b4a0619249fe55d353765c6a4693708c7", func := "loop.example/g00665/laws.FnExactTouchEntry", spec := "fnExactTouchEntry", inPlace := ["internal/bytealg.IndexByteString", "internal/bytealg.IndexString", "internal/abi.NoEscape", "slices.overlaps[loop.example/g00665/impl.Entry]"], unfollowed := true, recurses := true, named := ["unicode/utf8.first", "unicode/utf8.acceptRanges", "internal/bytealg.MaxLen"], apart := false, laid := [("unicode/utf8.acceptRanges", laid_unicode_utf8_acceptRanges), ("unicode/utf8.first", laid_unicode_utf8_first)] }
def FnExactTouchEntrySaid : Prop := fnExactTouchEntryRow.holds Tryz.pinned (OpenSpec.ofChange fnExactTouchEntrySpec)

/-- ITS FALSE NEIGHBOUR: 'it returns false'. Refute it at one input. -/
def fnExactTouchEntryWrong : ChangeSpec := { name := "fnExactTouchEntry", fn := fun _ => fun
  | [d1, d2] => { results := [.lit (.bool false)], args := [d1, d2] }
  | _ => none }
def FnExactTouchEntryWrongFalsely : Prop := fnExactTouchEntryRow.holds Tryz.pinned (OpenSpec.ofChange fnExactTouchEntryWrong)

/- THE SECOND FORM. 'bulk': how many values and letters a reading holds, each counted each time it is reached (what is shared counts as often as it is met; a slice's spare places count too). A statement '..UptoSaid' is the law's where the arguments, and the package variables that the reading takes, are together of bulk at most 1048576: NARROWER than '..Said'. Prove '..Said' where nothing that the law and all that it calls make is longer than what came in: it says more and counts as full. Else prove '..UptoSaid'. A law counts once. -/
mutual
def uptoBulk {H : Type} : DataW H → Nat
  | .lit (.string bytes) => bytes.length + 1
  | .lit _ => 1
  | .nil => 1
  | .ptr d => uptoBulk d + 1
  | .slice elems spare => uptoBulkAll elems + uptoBulkAll spare + 1
  | .agg parts => uptoBulkAll parts + 1
  | .iface _ d => uptoBulk d + 1
  | .map entries => uptoBulkEntries entries + 1
  | .held _ => 1
def uptoBulkAll {H : Type} : List (DataW H) → Nat
  | [] => 0
  | d :: r => uptoBulk d + uptoBulkAll r
def uptoBulkEntries {H : Type} : List (Lit × DataW H) → Nat
  | [] => 0
  | x :: r => uptoBulkEntry x + uptoBulkEntries r
def uptoBulkEntry {H : Type} : Lit × DataW H → Nat
  | (.string bytes, d) => bytes.length + uptoBulk d + 1
  | (_, d) => uptoBulk d + 1
 end
def uptoSmall : (H : Type) → List (DataW H) → Bool := fun _ ds => decide (uptoBulkAll ds ≤ 1048576)
def OpenSpec.upto (s : _root_.Go.ChangeSpec) : _root_.Go.OpenSpec := { _root_.Go.OpenSpec.ofChange s with cond := some uptoSmall }

/-- 'laws.FnExactPutEntry', WHERE WHAT IT READS IS OF BULK AT MOST 1048576: true; the input reads as it did. -/
def fnExactPutEntryUptoRow : OpenClaim := { program := "ytafgnmiflngjhaagreatdoor", sum := "11a0e95b05779ccace329ba550d1768b4a0619249fe55d353765c6a4693708c7", func := "loop.example/g00665/laws.FnExactPutEntry", spec := "fnExactPutEntry", inPlace := ["internal/bytealg.IndexByteString", "internal/bytealg.IndexString", "internal/abi.NoEscape", "slices.overlaps[loop.example/g00665/impl.Entry]"], unfollowed := true, recurses := true, named := ["unicode/utf8.first", "unicode/utf8.acceptRanges", "internal/bytealg.MaxLen"], apart := false, laid := [("unicode/utf8.acceptRanges", laid_unicode_utf8_acceptRanges), ("unicode/utf8.first", laid_unicode_utf8_first)], narrowed := true }
def FnExactPutEntryUptoSaid : Prop := fnExactPutEntryUptoRow.holds Tryz.pinned (OpenSpec.upto fnExactPutEntrySpec)

/-- 'laws.FnExactKeysTagged', WHERE WHAT IT READS IS OF BULK AT MOST 1048576: true; the input reads as it did. -/
def fnExactKeysTaggedUptoRow : OpenClaim := { program := "ytafgnmiflngjhaagreatdoor", sum := "11a0e95b05779ccace329ba550d1768b4a0619249fe55d353765c6a4693708c7", func := "loop.example/g00665/laws.FnExactKeysTagged", spec := "fnExactKeysTagged", inPlace := ["internal/bytealg.IndexByteString", "internal/bytealg.IndexString", "internal/abi.NoEscape"], unfollowed := true, recurses := true, named := ["unicode/utf8.first", "unicode/utf8.acceptRanges", "internal/bytealg.MaxLen"], apart := false, laid := [("unicode/utf8.acceptRanges", laid_unicode_utf8_acceptRanges), ("unicode/utf8.first", laid_unicode_utf8_first)], narrowed := true }
def FnExactKeysTaggedUptoSaid : Prop := fnExactKeysTaggedUptoRow.holds Tryz.pinned (OpenSpec.upto fnExactKeysTaggedSpec)

/-- 'laws.FnExactPeekEntry', WHERE WHAT IT READS IS OF BULK AT MOST 1048576: true; the input reads as it did. -/
def fnExactPeekEntryUptoRow : OpenClaim := { program := "ytafgnmiflngjhaagreatdoor", sum := "11a0e95b05779ccace329ba550d1768b4a0619249fe55d353765c6a4693708c7", func := "loop.example/g00665/laws.FnExactPeekEntry", spec := "fnExactPeekEntry", inPlace := ["internal/bytealg.IndexByteString", "internal/bytealg.IndexString", "internal/abi.NoEscape"], unfollowed := true, recurses := true, named := ["unicode/utf8.first", "unicode/utf8.acceptRanges", "internal/bytealg.MaxLen"], apart := false, laid := [("unicode/utf8.acceptRanges", laid_unicode_utf8_acceptRanges), ("unicode/utf8.first", laid_unicode_utf8_first)], narrowed := true }
def FnExactPeekEntryUptoSaid : Prop := fnExactPeekEntryUptoRow.holds Tryz.pinned (OpenSpec.upto fnExactPeekEntrySpec)

/-- 'laws.FnPurges', WHERE WHAT IT READS IS OF BULK AT MOST 1048576: true; the input reads as it did. -/
def fnPurgesUptoRow : OpenClaim := { program := "ytafgnmiflngjhaagreatdoor", sum := "11a0e95b05779ccace329ba550d1768b4a0619249fe55d353765c6a4693708c7", func := "loop.example/g00665/laws.FnPurges", spec := "fnPurges", inPlace := ["internal/bytealg.IndexByteString", "internal/bytealg.IndexString", "internal/abi.NoEscape"], unfollowed := true, recurses := true, named := ["unicode/utf8.first", "unicode/utf8.acceptRanges", "internal/bytealg.MaxLen"], apart := false, laid := [("unicode/utf8.acceptRanges", laid_unicode_utf8_acceptRanges), ("unicode/utf8.first", laid_unicode_utf8_first)], narrowed := true }
def FnPurgesUptoSaid : Prop := fnPurgesUptoRow.holds Tryz.pinned (OpenSpec.upto fnPurgesSpec)

/-- 'laws.FnStores', WHERE WHAT IT READS IS OF BULK AT MOST 1048576: true; the input reads as it did. -/
def fnStoresUptoRow : OpenClaim := { program := "ytafgnmiflngjhaagreatdoor", sum := "11a0e95b05779ccace329ba550d1768b4a0619249fe55d353765c6a4693708c7", func := "loop.example/g00665/laws.FnStores", spec := "fnStores", inPlace := ["internal/bytealg.IndexByteString", "internal/bytealg.IndexString", "internal/abi.NoEscape", "slices.overlaps[loop.example/g00665/impl.Entry]"], unfollowed := true, recurses := true, named := ["unicode/utf8.first", "unicode/utf8.acceptRanges", "internal/bytealg.MaxLen"], apart := false, laid := [("unicode/utf8.acceptRanges", laid_unicode_utf8_acceptRanges), ("unicode/utf8.first", laid_unicode_utf8_first)], narrowed := true }
def FnStoresUptoSaid : Prop := fnStoresUptoRow.holds Tryz.pinned (OpenSpec.upto fnStoresSpec)

/-- 'laws.FnExactPinEntry', WHERE WHAT IT READS IS OF BULK AT MOST 1048576: true; the input reads as it did. -/
def fnExactPinEntryUptoRow : OpenClaim := { program := "ytafgnmiflngjhaagreatdoor", sum := "11a0e95b05779ccace329ba550d1768b4a0619249fe55d353765c6a4693708c7", func := "loop.example/g00665/laws.FnExactPinEntry", spec := "fnExactPinEntry", inPlace := ["internal/bytealg.IndexByteString", "internal/bytealg.IndexString", "internal/abi.NoEscape"], unfollowed := true, recurses := true, named := ["unicode/utf8.first", "unicode/utf8.acceptRanges", "internal/bytealg.MaxLen"], apart := false, laid := [("unicode/utf8.acceptRanges", laid_unicode_utf8_acceptRanges), ("unicode/utf8.first", laid_unicode_utf8_first)], narrowed := true }
def FnExactPinEntryUptoSaid : Prop := fnExactPinEntryUptoRow.holds Tryz.pinned (OpenSpec.upto fnExactPinEntrySpec)

/-- 'laws.FnTouches', WHERE WHAT IT READS IS OF BULK AT MOST 1048576: true; the input reads as it did. -/
def fnTouchesUptoRow : OpenClaim := { program := "ytafgnmiflngjhaagreatdoor", sum := "11a0e95b05779ccace329ba550d1768b4a0619249fe55d353765c6a4693708c7", func := "loop.example/g00665/laws.FnTouches", spec := "fnTouches", inPlace := ["internal/bytealg.IndexByteString", "internal/bytealg.IndexString", "internal/abi.NoEscape", "slices.overlaps[loop.example/g00665/impl.Entry]"], unfollowed := true, recurses := true, named := ["unicode/utf8.first", "unicode/utf8.acceptRanges", "internal/bytealg.MaxLen"], apart := false, laid := [("unicode/utf8.acceptRanges", laid_unicode_utf8_acceptRanges), ("unicode/utf8.first", laid_unicode_utf8_first)], narrowed := true }
def FnTouchesUptoSaid : Prop := fnTouchesUptoRow.holds Tryz.pinned (OpenSpec.upto fnTouchesSpec)

/-- 'laws.FnExactDropEntry', WHERE WHAT IT READS IS OF BULK AT MOST 1048576: true; the input reads as it did. -/
def fnExactDropEntryUptoRow : OpenClaim := { program := "ytafgnmiflngjhaagreatdoor", sum := "11a0e95b05779ccace329ba550d1768b4a0619249fe55d353765c6a4693708c7", func := "loop.example/g00665/laws.FnExactDropEntry", spec := "fnExactDropEntry", inPlace := ["internal/bytealg.IndexByteString", "internal/bytealg.IndexString", "internal/abi.NoEscape"], unfollowed := true, recurses := true, named := ["unicode/utf8.first", "unicode/utf8.acceptRanges", "internal/bytealg.MaxLen"], apart := false, laid := [("unicode/utf8.acceptRanges", laid_unicode_utf8_acceptRanges), ("unicode/utf8.first", laid_unicode_utf8_first)], narrowed := true }
def FnExactDropEntryUptoSaid : Prop := fnExactDropEntryUptoRow.holds Tryz.pinned (OpenSpec.upto fnExactDropEntrySpec)

/-- 'laws.FnExactPurgeAll', WHERE WHAT IT READS IS OF BULK AT MOST 1048576: true; the input reads as it did. -/
def fnExactPurgeAllUptoRow : OpenClaim := { program := "ytafgnmiflngjhaagreatdoor", sum := "11a0e95b05779ccace329ba550d1768b4a0619249fe55d353765c6a4693708c7", func := "loop.example/g00665/laws.FnExactPurgeAll", spec := "fnExactPurgeAll", inPlace := ["internal/bytealg.IndexByteString", "internal/bytealg.IndexString", "internal/abi.NoEscape"], unfollowed := true, recurses := true, named := ["unicode/utf8.first", "unicode/utf8.acceptRanges", "internal/bytealg.MaxLen"], apart := false, laid := [("unicode/utf8.acceptRanges", laid_unicode_utf8_acceptRanges), ("unicode/utf8.first", laid_unicode_utf8_first)], narrowed := true }
def FnExactPurgeAllUptoSaid : Prop := fnExactPurgeAllUptoRow.holds Tryz.pinned (OpenSpec.upto fnExactPurgeAllSpec)

/-- 'laws.FnExactPurgeKey', WHERE WHAT IT READS IS OF BULK AT MOST 1048576: true; the input reads as it did. -/
def fnExactPurgeKeyUptoRow : OpenClaim := { program := "ytafgnmiflngjhaagreatdoor", sum := "11a0e95b05779ccace329ba550d1768b4a0619249fe55d353765c6a4693708c7", func := "loop.example/g00665/laws.FnExactPurgeKey", spec := "fnExactPurgeKey", inPlace := ["internal/bytealg.IndexByteString", "internal/bytealg.IndexString", "internal/abi.NoEscape"], unfollowed := true, recurses := true, named := ["unicode/utf8.first", "unicode/utf8.acceptRanges", "internal/bytealg.MaxLen"], apart := false, laid := [("unicode/utf8.acceptRanges", laid_unicode_utf8_acceptRanges), ("unicode/utf8.first", laid_unicode_utf8_first)], narrowed := true }
def FnExactPurgeKeyUptoSaid : Prop := fnExactPurgeKeyUptoRow.holds Tryz.pinned (OpenSpec.upto fnExactPurgeKeySpec)

/-- 'laws.FnExactPurgeTag', WHERE WHAT IT READS IS OF BULK AT MOST 1048576: true; the input reads as it did. -/
def fnExactPurgeTagUptoRow : OpenClaim := { program := "ytafgnmiflngjhaagreatdoor", sum := "11a0e95b05779ccace329ba550d1768b4a0619249fe55d353765c6a4693708c7", func := "loop.example/g00665/laws.FnExactPurgeTag", spec := "fnExactPurgeTag", inPlace := ["internal/bytealg.IndexByteString", "internal/bytealg.IndexString", "internal/abi.NoEscape"], unfollowed := true, recurses := true, named := ["unicode/utf8.first", "unicode/utf8.acceptRanges", "internal/bytealg.MaxLen"], apart := false, laid := [("unicode/utf8.acceptRanges", laid_unicode_utf8_acceptRanges), ("unicode/utf8.first", laid_unicode_utf8_first)], narrowed := true }
def FnExactPurgeTagUptoSaid : Prop := fnExactPurgeTagUptoRow.holds Tryz.pinned (OpenSpec.upto fnExactPurgeTagSpec)

/-- 'laws.FnExactTouchEntry', WHERE WHAT IT READS IS OF BULK AT MOST 1048576: true; the input reads as it did. -/
def fnExactTouchEntryUptoRow : OpenClaim := { program := "ytafgnmiflngjhaagreatdoor", sum := "11a0e95b05779ccace329ba550d1768b4a0619249fe55d353765c6a4693708c7", func := "loop.example/g00665/laws.FnExactTouchEntry", spec := "fnExactTouchEntry", inPlace := ["internal/bytealg.IndexByteString", "internal/bytealg.IndexString", "internal/abi.NoEscape", "slices.overlaps[loop.example/g00665/impl.Entry]"], unfollowed := true, recurses := true, named := ["unicode/utf8.first", "unicode/utf8.acceptRanges", "internal/bytealg.MaxLen"], apart := false, laid := [("unicode/utf8.acceptRanges", laid_unicode_utf8_acceptRanges), ("unicode/utf8.first", laid_unicode_utf8_first)], narrowed := true }
def FnExactTouchEntryUptoSaid : Prop := fnExactTouchEntryUptoRow.holds Tryz.pinned (OpenSpec.upto fnExactTouchEntrySpec)

end Rows
end Go.Proofs.YtafgnmiflngjhaaGreatDoor
