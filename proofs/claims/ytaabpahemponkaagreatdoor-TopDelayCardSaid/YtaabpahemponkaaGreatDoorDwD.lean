/-
  Closed facts of the row and of the program, the small ones.
-/
import Derived.Test.YtaabpahemponkaaGreatDoorRows
import Derived.ProofKit
import Derived.JoinedOf
import Derived.Test.YtaabpahemponkaaGreatDoorLwB
set_option linter.unusedVariables false
set_option linter.unusedSimpArgs false
set_option maxRecDepth 100000
namespace Go.Proofs.YtaabpahemponkaaGreatDoor
open Go Go.ChangeShapes Go.WideShapes Go.ChangeAt Go.RowKit Go.Clo
theorem k06_4 : (Rows.topDelayRow.stops == []) = true := by kernel_rfl
theorem k08_4 : (Rows.topDelayRow.knobs == []) = true := by kernel_rfl
theorem k14_4 : (Rows.topDelayRow.maps == (Tryz.f4.params.toList ++ Rows.topDelaySpec.plain.varTypes Tryz.prog).any (Tryz.prog.mapsRec ·)) = true := by kernel_rfl
theorem k15_4 : (Rows.topDelayRow.ifaces == (Tryz.f4.params.toList ++ Rows.topDelaySpec.plain.varTypes Tryz.prog).any (Tryz.prog.ifacesRec ·)) = true := by kernel_rfl
theorem k16_4 : (Rows.topDelayRow.mapsOut == Tryz.prog.mapsAmong Tryz.f4.resultTypes.toList) = true := by kernel_rfl
theorem k17_4 : (Rows.topDelayRow.loops == (Tryz.f4.params.toList ++ Rows.topDelaySpec.plain.varTypes Tryz.prog).any (Tryz.prog.loopsFrom ·)) = true := by kernel_rfl
theorem k18_4 : (Rows.topDelayRow.wideKeys == (Tryz.f4.params.toList ++ Rows.topDelaySpec.plain.varTypes Tryz.prog ++ Tryz.f4.resultTypes.toList).any (Tryz.prog.wideKeysFrom ·)) = true := by kernel_rfl
theorem k19_4 : Rows.topDelaySpec.vars.all (Tryz.prog.varReadable ·) = true := by kernel_rfl
theorem k20_4 : Tryz.f4.resultTypes.all (fun t => Tryz.prog.readableRec t && decide (t < Tryz.prog.types.size)) = true := by kernel_rfl
theorem k21_4 : (Rows.topDelayRow.ifacesOut == Tryz.f4.resultTypes.toList.any (Tryz.prog.ifacesRec ·)) = true := by kernel_rfl
theorem k22_4 : (Rows.topDelayRow.loopsOut == Tryz.f4.resultTypes.toList.any (Tryz.prog.loopsFrom ·)) = true := by kernel_rfl
theorem k23_4 : (Rows.topDelayRow.plainKeys == Tryz.prog.plainKeys) = true := by kernel_rfl
theorem k24_4 : Rows.topDelayRow.shortTexts.isNone = true := by kernel_rfl
theorem k27_4 : (Rows.topDelayRow.lifted == Tryz.prog.liftsFinal) = true := by kernel_rfl
theorem k28_4 : (Tryz.prog.make == some Rows.topDelayRow.make) = true := by kernel_rfl
theorem k29_4 : (Rows.topDelayRow.kinds == (if Rows.topDelayRow.domain.isEmpty then [] else Tryz.f4.params.toList.map fun t => match Tryz.prog.underlying t with | some (.int k) => some k | _ => Option.none)) = true := by kernel_rfl
theorem k30_4 : (Rows.topDelayRow.pinned == Rows.topDelayRow.pinnedBy) = true := by kernel_rfl
theorem k31_4 : (Rows.topDelayRow.veiled == (Tryz.f4.params.toList ++ Rows.topDelaySpec.plain.varTypes Tryz.prog ++ Tryz.f4.resultTypes.toList).any (Tryz.prog.veiledRec ·)) = true := by kernel_rfl
theorem k32_4 : Rows.topDelayRow.veiledFits Tryz.prog Tryz.f4.params.toList (Tryz.f4.params.toList ++ Rows.topDelaySpec.plain.varTypes Tryz.prog ++ Tryz.f4.resultTypes.toList) = true := by kernel_rfl
theorem k01_4 : Rows.topDelayRow.wf (OpenSpec.ofChange Rows.topDelaySpec) = true := by kernel_rfl
theorem k04_4 : (Tryz.f4.params.all (Tryz.prog.readableRec ·)) = true := by kernel_rfl
theorem k05_4 : namedTie Tryz.prog Rows.topDelayRow.named Rows.topDelaySpec.vars = true := by kernel_rfl
end Go.Proofs.YtaabpahemponkaaGreatDoor
set_option maxRecDepth 100000
namespace Go.Proofs.YtaabpahemponkaaGreatDoor
open Go Go.ChangeShapes Go.WideShapes Go.ChangeAt Go.RowKit Go.Clo
theorem k07 : (Tryz.prog.stops == []) = true := by kernel_rfl
theorem k09 : (Tryz.prog.stopKnobs == []) = true := by kernel_rfl
theorem kown : ownKnob Tryz.prog.godebug = Option.none := by kernel_rfl
end Go.Proofs.YtaabpahemponkaaGreatDoor
