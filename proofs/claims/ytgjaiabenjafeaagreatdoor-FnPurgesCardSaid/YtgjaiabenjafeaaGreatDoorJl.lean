/-
  A FACT of the program alone, in a text of its own (a great seat's row would be too heavy with all of them).
-/
import Derived.Test.YtgjaiabenjafeaaGreatDoorProg
import Derived.Test.YtgjaiabenjafeaaGreatDoorRows
import Derived.KernelRfl
import Derived.JoinedOf
namespace Go.Proofs.YtgjaiabenjafeaaGreatDoor
open Go
theorem liftsP : Tryz.prog.liftsFinal = false := by kernel_rfl
end Go.Proofs.YtgjaiabenjafeaaGreatDoor
