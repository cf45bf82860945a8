/-
  Closed facts of the card.
-/
import Derived.Test.YtaabpahemponkaaGreatDoorRows
import Derived.ProofKit
import Derived.JoinedOf
import Derived.Test.YtaabpahemponkaaGreatDoorLwB
import GoSem.ClaimSeven
set_option linter.unusedVariables false
set_option linter.unusedSimpArgs false
set_option maxRecDepth 100000
namespace Go.Proofs.YtaabpahemponkaaGreatDoor
open Go Go.ChangeShapes Go.WideShapes Go.ChangeAt Go.RowKit Go.Clo
theorem card_wf_4 : Rows.topDelayRow.wfByText (OpenSpec.ofChange Rows.topDelaySpec) = true := by kernel_rfl
theorem card_main_4 : Tryz.prog.mainIs = some (true, "9006dc58c18ef39113e6e155c9075b6d8dc49e55133e119c6fa3683ed861f55d".toList) := by kernel_rfl
theorem card_looks_4 : true = Tryz.prog.looks [] := by kernel_rfl
theorem wants_26_4 : Tryz.prog.wantsStandIn 26 = false := by kernel_rfl
end Go.Proofs.YtaabpahemponkaaGreatDoor
