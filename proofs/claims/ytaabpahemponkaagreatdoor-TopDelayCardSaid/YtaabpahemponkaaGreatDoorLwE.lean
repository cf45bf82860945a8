/-
  The program's maps are rowed.
-/
import Derived.Test.YtaabpahemponkaaGreatDoorRows
import Derived.ProofKit
import Derived.JoinedOf
import Derived.Test.YtaabpahemponkaaGreatDoorLwB
set_option linter.unusedVariables false
set_option linter.unusedSimpArgs false
set_option maxRecDepth 100000
namespace Go.Proofs.YtaabpahemponkaaGreatDoor
open Go Go.ChangeShapes Go.WideShapes Go.ChangeAt Go.RowKit Go.Clo
theorem k03 : mapsRowed Tryz.prog = true := by kernel_rfl
end Go.Proofs.YtaabpahemponkaaGreatDoor
