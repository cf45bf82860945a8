/-
  A closed fact of the program's tie, the second.
-/
import Derived.Test.YtaabpahemponkaaGreatDoorRows
import Derived.LaidOnce
import Derived.KernelRfl
set_option linter.unusedVariables false
set_option linter.unusedSimpArgs false
set_option maxRecDepth 100000
namespace Go.Proofs.YtaabpahemponkaaGreatDoor
open Go
theorem tie_hw2 : Tryz.prog.worded (varsWordLater !true) = false := by kernel_rfl
end Go.Proofs.YtaabpahemponkaaGreatDoor
