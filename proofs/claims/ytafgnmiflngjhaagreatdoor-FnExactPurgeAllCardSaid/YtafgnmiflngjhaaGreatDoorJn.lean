/-
  A FACT of the program alone, in a text of its own (a great seat's row would be too heavy with all of them).
-/
import Derived.Test.YtafgnmiflngjhaaGreatDoorProg
import Derived.Test.YtafgnmiflngjhaaGreatDoorRows
import Derived.KernelRfl
import Derived.JoinedOf
namespace Go.Proofs.YtafgnmiflngjhaaGreatDoor
open Go
theorem mainIsP : Tryz.prog.mainIs = some ((true, "35aa58b7d4f7d863c82126403c7cbdfdc7e050dfe7ce2013e2a8d7749b9f3925").1, (true, "35aa58b7d4f7d863c82126403c7cbdfdc7e050dfe7ce2013e2a8d7749b9f3925").2.toList) := by kernel_rfl
end Go.Proofs.YtafgnmiflngjhaaGreatDoor
