/-
  The program's types are as the row asks.
-/
import Derived.Test.YtaabpahemponkaaGreatDoorRows
import Derived.Test.YtaabpahemponkaaGreatDoorLwB
import Derived.ProofKit
import Derived.JoinedOf
set_option linter.unusedVariables false
set_option linter.unusedSimpArgs false
set_option maxRecDepth 100000
namespace Go.Proofs.YtaabpahemponkaaGreatDoor
open Go Go.ChangeShapes Go.WideShapes Go.ChangeAt Go.RowKit Go.Clo
noncomputable abbrev isErr (u : Nat) : Bool := Tryz.prog.typeName? 3 u == some "*errors.errorString"
theorem ne0 : ((List.range' 0 100).all fun j => !isErr j) = true := by kernel_rfl
theorem ne1 : ((List.range' 100 100).all fun j => !isErr j) = true := by kernel_rfl
theorem ne2 : ((List.range' 200 100).all fun j => !isErr j) = true := by kernel_rfl
theorem ne3 : ((List.range' 300 100).all fun j => !isErr j) = true := by kernel_rfl
theorem ne4 : ((List.range' 400 100).all fun j => !isErr j) = true := by kernel_rfl
theorem ne5 : ((List.range' 500 100).all fun j => !isErr j) = true := by kernel_rfl
theorem ne6 : ((List.range' 600 84).all fun j => !isErr j) = true := by kernel_rfl
theorem ne_at : isErr 684 = true := by kernel_rfl
theorem tsize : Tryz.prog.types.size = 724 := by kernel_rfl
theorem find_err : ((List.range Tryz.prog.types.size).find? fun u => Tryz.prog.typeName? 3 u == some "*errors.errorString") = some 684 := by
  rw [tsize]
  refine find_first ne_at (by decide) (fun j hj => ?_)
  rcases (by omega : (0 ≤ j ∧ j < 0 + 100) ∨ (100 ≤ j ∧ j < 100 + 100) ∨ (200 ≤ j ∧ j < 200 + 100) ∨ (300 ≤ j ∧ j < 300 + 100) ∨ (400 ≤ j ∧ j < 400 + 100) ∨ (500 ≤ j ∧ j < 500 + 100) ∨ (600 ≤ j ∧ j < 600 + 84)) with h | h | h | h | h | h | h
  · exact none_of (p := isErr) ne0 j h.1 h.2
  · exact none_of (p := isErr) ne1 j h.1 h.2
  · exact none_of (p := isErr) ne2 j h.1 h.2
  · exact none_of (p := isErr) ne3 j h.1 h.2
  · exact none_of (p := isErr) ne4 j h.1 h.2
  · exact none_of (p := isErr) ne5 j h.1 h.2
  · exact none_of (p := isErr) ne6 j h.1 h.2
end Go.Proofs.YtaabpahemponkaaGreatDoor
set_option maxRecDepth 100000
namespace Go.Proofs.YtaabpahemponkaaGreatDoor
open Go Go.ChangeShapes Go.WideShapes Go.ChangeAt Go.RowKit Go.Clo
theorem rf0 : ((List.range' 0 104).all (rowFine Tryz.prog)) = true := by kernel_rfl
theorem rf1 : ((List.range' 104 104).all (rowFine Tryz.prog)) = true := by kernel_rfl
theorem rf2 : ((List.range' 208 104).all (rowFine Tryz.prog)) = true := by kernel_rfl
theorem rf3 : ((List.range' 312 104).all (rowFine Tryz.prog)) = true := by kernel_rfl
theorem rf4 : ((List.range' 416 104).all (rowFine Tryz.prog)) = true := by kernel_rfl
theorem rf5 : ((List.range' 520 104).all (rowFine Tryz.prog)) = true := by kernel_rfl
theorem rf6 : ((List.range' 624 100).all (rowFine Tryz.prog)) = true := by kernel_rfl
theorem sf0 : ((List.range' 0 104).all (slcFine Tryz.prog)) = true := by kernel_rfl
theorem sf1 : ((List.range' 104 104).all (slcFine Tryz.prog)) = true := by kernel_rfl
theorem sf2 : ((List.range' 208 104).all (slcFine Tryz.prog)) = true := by kernel_rfl
theorem sf3 : ((List.range' 312 104).all (slcFine Tryz.prog)) = true := by kernel_rfl
theorem sf4 : ((List.range' 416 104).all (slcFine Tryz.prog)) = true := by kernel_rfl
theorem sf5 : ((List.range' 520 104).all (slcFine Tryz.prog)) = true := by kernel_rfl
theorem sf6 : ((List.range' 624 100).all (slcFine Tryz.prog)) = true := by kernel_rfl
theorem tsz : Tryz.prog.types.size = 724 := by kernel_rfl
theorem rows_fine : ((List.range Tryz.prog.types.size).all (rowFine Tryz.prog)) = true := by
  rw [tsz, List.all_eq_true]
  intro j hj
  have hj := List.mem_range.1 hj
  rcases (by omega : (0 ≤ j ∧ j < 0 + 104) ∨ (104 ≤ j ∧ j < 104 + 104) ∨ (208 ≤ j ∧ j < 208 + 104) ∨ (312 ≤ j ∧ j < 312 + 104) ∨ (416 ≤ j ∧ j < 416 + 104) ∨ (520 ≤ j ∧ j < 520 + 104) ∨ (624 ≤ j ∧ j < 624 + 100)) with h | h | h | h | h | h | h
  · exact all_of rf0 j h.1 h.2
  · exact all_of rf1 j h.1 h.2
  · exact all_of rf2 j h.1 h.2
  · exact all_of rf3 j h.1 h.2
  · exact all_of rf4 j h.1 h.2
  · exact all_of rf5 j h.1 h.2
  · exact all_of rf6 j h.1 h.2
theorem slc_fine : ((List.range Tryz.prog.types.size).all (slcFine Tryz.prog)) = true := by
  rw [tsz, List.all_eq_true]
  intro j hj
  have hj := List.mem_range.1 hj
  rcases (by omega : (0 ≤ j ∧ j < 0 + 104) ∨ (104 ≤ j ∧ j < 104 + 104) ∨ (208 ≤ j ∧ j < 208 + 104) ∨ (312 ≤ j ∧ j < 312 + 104) ∨ (416 ≤ j ∧ j < 416 + 104) ∨ (520 ≤ j ∧ j < 520 + 104) ∨ (624 ≤ j ∧ j < 624 + 100)) with h | h | h | h | h | h | h
  · exact all_of sf0 j h.1 h.2
  · exact all_of sf1 j h.1 h.2
  · exact all_of sf2 j h.1 h.2
  · exact all_of sf3 j h.1 h.2
  · exact all_of sf4 j h.1 h.2
  · exact all_of sf5 j h.1 h.2
  · exact all_of sf6 j h.1 h.2
theorem glb_fine : (Tryz.prog.globals.all (fun g => decide (g.type < Tryz.prog.types.size))) = true := by kernel_rfl
theorem par_list : (Tryz.prog.funcs.toList.all fun f => f.params.toList.all fun t => Nat.blt t 724) = true := by kernel_rfl
theorem par_fine : (Tryz.prog.funcs.all (fun f => f.params.all fun t => decide (t < Tryz.prog.types.size))) = true := params_of tsz par_list
theorem laid_out : laidOutB Tryz.prog = true := and_tt (and_tt rows_fine glb_fine) par_fine
theorem slices_full : ∀ t e, t < Tryz.prog.types.size → Tryz.prog.underlying t = some (.slice e) → 0 < Tryz.prog.cellsOf e := slices_full_of Tryz.prog slc_fine
theorem stops_list : (Tryz.prog.funcs.toList.all fun fn => (Stop.rowOf fn).isNone || !fn.norace) = true := by kernel_rfl
theorem stops_heard : Tryz.prog.stopsHeard = true := by unfold Program.stopsHeard; rw [← Array.all_toList]; exact stops_list
end Go.Proofs.YtaabpahemponkaaGreatDoor
