/-
  A closed fact of the program's tie, the third.
-/
import Derived.Test.YtaabpahemponkaaGreatDoorRows
import Derived.LaidOnce
import Derived.KernelRfl
set_option linter.unusedVariables false
set_option linter.unusedSimpArgs false
set_option maxRecDepth 100000
namespace Go.Proofs.YtaabpahemponkaaGreatDoor
open Go
theorem tie_hroot : Tryz.prog.worded rootWordLater = true := by kernel_rfl
end Go.Proofs.YtaabpahemponkaaGreatDoor
