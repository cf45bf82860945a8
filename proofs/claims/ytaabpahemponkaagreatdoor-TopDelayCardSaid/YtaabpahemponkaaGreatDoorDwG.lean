/-
  The number of TopDelay.
-/
import Derived.Test.YtaabpahemponkaaGreatDoorRows
import Derived.ProofKit
import Derived.JoinedOf
import Derived.Test.YtaabpahemponkaaGreatDoorLwB
set_option linter.unusedVariables false
set_option linter.unusedSimpArgs false
set_option maxRecDepth 100000
namespace Go.Proofs.YtaabpahemponkaaGreatDoor
open Go Go.ChangeShapes Go.WideShapes Go.ChangeAt Go.RowKit Go.Clo
theorem fnamed_4 : Tryz.pinned.checked.prog.funcNamed Rows.topDelayRow.func = some 4 := by kernel_rfl
theorem noinit_4 : Tryz.prog.inits.idxOf? 4 = Option.none := by kernel_rfl
end Go.Proofs.YtaabpahemponkaaGreatDoor
