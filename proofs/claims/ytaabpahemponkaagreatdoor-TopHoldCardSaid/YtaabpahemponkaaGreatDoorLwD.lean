/-
  Closed facts of the row and of the program, the small ones.
-/
import Derived.Test.YtaabpahemponkaaGreatDoorRows
import Derived.ProofKit
import Derived.JoinedOf
import Derived.Test.YtaabpahemponkaaGreatDoorLwB
set_option linter.unusedVariables false
set_option linter.unusedSimpArgs false
set_option maxRecDepth 100000
namespace Go.Proofs.YtaabpahemponkaaGreatDoor
open Go Go.ChangeShapes Go.WideShapes Go.ChangeAt Go.RowKit Go.Clo
theorem k06_5 : (Rows.topHoldRow.stops == []) = true := by kernel_rfl
theorem k08_5 : (Rows.topHoldRow.knobs == []) = true := by kernel_rfl
theorem k14_5 : (Rows.topHoldRow.maps == (Tryz.f5.params.toList ++ Rows.topHoldSpec.plain.varTypes Tryz.prog).any (Tryz.prog.mapsRec ·)) = true := by kernel_rfl
theorem k15_5 : (Rows.topHoldRow.ifaces == (Tryz.f5.params.toList ++ Rows.topHoldSpec.plain.varTypes Tryz.prog).any (Tryz.prog.ifacesRec ·)) = true := by kernel_rfl
theorem k16_5 : (Rows.topHoldRow.mapsOut == Tryz.prog.mapsAmong Tryz.f5.resultTypes.toList) = true := by kernel_rfl
theorem k17_5 : (Rows.topHoldRow.loops == (Tryz.f5.params.toList ++ Rows.topHoldSpec.plain.varTypes Tryz.prog).any (Tryz.prog.loopsFrom ·)) = true := by kernel_rfl
theorem k18_5 : (Rows.topHoldRow.wideKeys == (Tryz.f5.params.toList ++ Rows.topHoldSpec.plain.varTypes Tryz.prog ++ Tryz.f5.resultTypes.toList).any (Tryz.prog.wideKeysFrom ·)) = true := by kernel_rfl
theorem k19_5 : Rows.topHoldSpec.vars.all (Tryz.prog.varReadable ·) = true := by kernel_rfl
theorem k20_5 : Tryz.f5.resultTypes.all (fun t => Tryz.prog.readableRec t && decide (t < Tryz.prog.types.size)) = true := by kernel_rfl
theorem k21_5 : (Rows.topHoldRow.ifacesOut == Tryz.f5.resultTypes.toList.any (Tryz.prog.ifacesRec ·)) = true := by kernel_rfl
theorem k22_5 : (Rows.topHoldRow.loopsOut == Tryz.f5.resultTypes.toList.any (Tryz.prog.loopsFrom ·)) = true := by kernel_rfl
theorem k23_5 : (Rows.topHoldRow.plainKeys == Tryz.prog.plainKeys) = true := by kernel_rfl
theorem k24_5 : Rows.topHoldRow.shortTexts.isNone = true := by kernel_rfl
theorem k27_5 : (Rows.topHoldRow.lifted == Tryz.prog.liftsFinal) = true := by kernel_rfl
theorem k28_5 : (Tryz.prog.make == some Rows.topHoldRow.make) = true := by kernel_rfl
theorem k29_5 : (Rows.topHoldRow.kinds == (if Rows.topHoldRow.domain.isEmpty then [] else Tryz.f5.params.toList.map fun t => match Tryz.prog.underlying t with | some (.int k) => some k | _ => Option.none)) = true := by kernel_rfl
theorem k30_5 : (Rows.topHoldRow.pinned == Rows.topHoldRow.pinnedBy) = true := by kernel_rfl
theorem k31_5 : (Rows.topHoldRow.veiled == (Tryz.f5.params.toList ++ Rows.topHoldSpec.plain.varTypes Tryz.prog ++ Tryz.f5.resultTypes.toList).any (Tryz.prog.veiledRec ·)) = true := by kernel_rfl
theorem k32_5 : Rows.topHoldRow.veiledFits Tryz.prog Tryz.f5.params.toList (Tryz.f5.params.toList ++ Rows.topHoldSpec.plain.varTypes Tryz.prog ++ Tryz.f5.resultTypes.toList) = true := by kernel_rfl
theorem k01_5 : Rows.topHoldRow.wf (OpenSpec.ofChange Rows.topHoldSpec) = true := by kernel_rfl
theorem k04_5 : (Tryz.f5.params.all (Tryz.prog.readableRec ·)) = true := by kernel_rfl
theorem k05_5 : namedTie Tryz.prog Rows.topHoldRow.named Rows.topHoldSpec.vars = true := by kernel_rfl
end Go.Proofs.YtaabpahemponkaaGreatDoor
set_option maxRecDepth 100000
namespace Go.Proofs.YtaabpahemponkaaGreatDoor
open Go Go.ChangeShapes Go.WideShapes Go.ChangeAt Go.RowKit Go.Clo
theorem k07 : (Tryz.prog.stops == []) = true := by kernel_rfl
theorem k09 : (Tryz.prog.stopKnobs == []) = true := by kernel_rfl
theorem kown : ownKnob Tryz.prog.godebug = Option.none := by kernel_rfl
end Go.Proofs.YtaabpahemponkaaGreatDoor
