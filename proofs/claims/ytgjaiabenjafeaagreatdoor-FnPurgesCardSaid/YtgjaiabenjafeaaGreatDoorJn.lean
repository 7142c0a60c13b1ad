/-
  A FACT of the program alone, in a text of its own (a great seat's row would be too heavy with all of them).
-/
import Derived.Test.YtgjaiabenjafeaaGreatDoorProg
import Derived.Test.YtgjaiabenjafeaaGreatDoorRows
import Derived.KernelRfl
import Derived.JoinedOf
namespace Go.Proofs.YtgjaiabenjafeaaGreatDoor
open Go
theorem mainIsP : Tryz.prog.mainIs = some ((true, "3eac612809b0d2dc8ebb8647cf85259e250d20823cd5bd2fe3e6c560d1255549").1, (true, "3eac612809b0d2dc8ebb8647cf85259e250d20823cd5bd2fe3e6c560d1255549").2.toList) := by kernel_rfl
end Go.Proofs.YtgjaiabenjafeaaGreatDoor
