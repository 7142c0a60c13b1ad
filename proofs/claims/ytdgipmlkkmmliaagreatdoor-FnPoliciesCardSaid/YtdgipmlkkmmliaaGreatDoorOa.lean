/-
  CONTRACTS: entries and stores, copied, compared, measured.
-/
import Derived.Test.YtdgipmlkkmmliaaGreatDoorNa
namespace Go.Proofs.YtdgipmlkkmmliaaGreatDoor
set_option maxRecDepth 100000
set_option linter.unusedSimpArgs false
set_option linter.unusedVariables false
open Go.Xe
abbrev stC (b : ByteArray) : List Value := [Tx b]
abbrev byC (b : Int) : List Value := [Y b]
theorem st_len (x : ByteArray) : (stC x).length = 1 := rfl
theorem by_len (x : Int) : (byC x).length = 1 := rfl
abbrev ZT : List Value := [Tx ByteArray.empty]
abbrev ZY : List Value := [Y 0]
def stSz (b : ByteArray) : Nat := b.size
end Go.Proofs.YtdgipmlkkmmliaaGreatDoor
