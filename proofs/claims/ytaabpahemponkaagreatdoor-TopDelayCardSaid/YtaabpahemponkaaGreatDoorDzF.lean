/-
  TopDelay: its own code, for inputs of 35 to 40 numbers.
-/
import Derived.Test.YtaabpahemponkaaGreatDoorDyX
set_option linter.unusedVariables false
set_option linter.unusedSimpArgs false
set_option maxRecDepth 100000
namespace Go.Ex
open Go Go.Am Go.Proofs
theorem n2_35 (g : Int → Int → Int) (x : Nat → Int) : Rn g 35 (k4 2) (e2 35 (dXs 35 x)) [] 3000 .normal (e2 35 (dXs 35 x)) [] 3000 := by unfold Rn; kernel_rfl
theorem n3_35 (g : Int → Int → Int) (x : Nat → Int) : Rn g 35 (k4 3) (e2 35 (dXs 35 x)) [] 3000 .normal (e3 35 x) [] 3000 := by unfold Rn; kernel_rfl
theorem n4_35 (g : Int → Int → Int) (x : Nat → Int) : Rn g 35 (k4 4) (e3 35 x) [] 3000 .normal (e4 35 x) (g4 35 x) 3120 := by unfold Rn; kernel_rfl
theorem n5_35 (g : Int → Int → Int) (x : Nat → Int) : Rn g 35 (k4 5) (e4 35 x) (g4 35 x) 3120 .normal (e5 35 x) (g5 g 35 x) 5283 := by unfold Rn; kernel_rfl
theorem n6_35 (g : Int → Int → Int) (x : Nat → Int) : Rn g 35 (k4 6) (e5 35 x) (g5 g 35 x) 5283 .normal (e6 35 x) (g6 g 35 x) 8199 := by unfold Rn; kernel_rfl
theorem n7_35 (g : Int → Int → Int) (x : Nat → Int) : Rn g 35 (k4 7) (e6 35 x) (g6 g 35 x) 8199 .normal (e7 35 x) (g7 g 35 x) 8199 := by unfold Rn; kernel_rfl
theorem n8_35 (g : Int → Int → Int) (x : Nat → Int) : Rn g 35 (k4 8) (e7 35 x) (g7 g 35 x) 8199 .normal (e8 35 x) (g8 g 35 x) 8687 := by unfold Rn; kernel_rfl
theorem n9_35 (g : Int → Int → Int) (x : Nat → Int) : Rn g 35 (k4 9) (e8 35 x) (g8 g 35 x) 8687 .normal (e9 35 x) (g8 g 35 x) 8687 := by unfold Rn; kernel_rfl
theorem n10_35 (g : Int → Int → Int) (x : Nat → Int) : Rn g 35 (k4 10) (e9 35 x) (g8 g 35 x) 8687 .normal (e10 35 x) (g8 g 35 x) 8687 := by unfold Rn; kernel_rfl
theorem n11_35 (g : Int → Int → Int) (x : Nat → Int) : Rn g 35 (k4 11) (e10 35 x) (g8 g 35 x) 8687 .normal (e10 35 x) (g8 g 35 x) 8687 := by unfold Rn; kernel_rfl
theorem n12_35 (g : Int → Int → Int) (x : Nat → Int) : xR g 35 (cRn 12 b4) (rL (e10 35 x)) (ph (g8 g 35 x)) 8687 (kOc (rT.map (fun p => p.1)) [] 10883) = tsts (yg g x) 35 := by kernel_rfl
theorem n2_36 (g : Int → Int → Int) (x : Nat → Int) : Rn g 36 (k4 2) (e2 36 (dXs 36 x)) [] 3000 .normal (e2 36 (dXs 36 x)) [] 3000 := by unfold Rn; kernel_rfl
theorem n3_36 (g : Int → Int → Int) (x : Nat → Int) : Rn g 36 (k4 3) (e2 36 (dXs 36 x)) [] 3000 .normal (e3 36 x) [] 3000 := by unfold Rn; kernel_rfl
theorem n4_36 (g : Int → Int → Int) (x : Nat → Int) : Rn g 36 (k4 4) (e3 36 x) [] 3000 .normal (e4 36 x) (g4 36 x) 3120 := by unfold Rn; kernel_rfl
theorem n5_36 (g : Int → Int → Int) (x : Nat → Int) : Rn g 36 (k4 5) (e4 36 x) (g4 36 x) 3120 .normal (e5 36 x) (g5 g 36 x) 5283 := by unfold Rn; kernel_rfl
theorem n6_36 (g : Int → Int → Int) (x : Nat → Int) : Rn g 36 (k4 6) (e5 36 x) (g5 g 36 x) 5283 .normal (e6 36 x) (g6 g 36 x) 8199 := by unfold Rn; kernel_rfl
theorem n7_36 (g : Int → Int → Int) (x : Nat → Int) : Rn g 36 (k4 7) (e6 36 x) (g6 g 36 x) 8199 .normal (e7 36 x) (g7 g 36 x) 8199 := by unfold Rn; kernel_rfl
theorem n8_36 (g : Int → Int → Int) (x : Nat → Int) : Rn g 36 (k4 8) (e7 36 x) (g7 g 36 x) 8199 .normal (e8 36 x) (g8 g 36 x) 8687 := by unfold Rn; kernel_rfl
theorem n9_36 (g : Int → Int → Int) (x : Nat → Int) : Rn g 36 (k4 9) (e8 36 x) (g8 g 36 x) 8687 .normal (e9 36 x) (g8 g 36 x) 8687 := by unfold Rn; kernel_rfl
theorem n10_36 (g : Int → Int → Int) (x : Nat → Int) : Rn g 36 (k4 10) (e9 36 x) (g8 g 36 x) 8687 .normal (e10 36 x) (g8 g 36 x) 8687 := by unfold Rn; kernel_rfl
theorem n11_36 (g : Int → Int → Int) (x : Nat → Int) : Rn g 36 (k4 11) (e10 36 x) (g8 g 36 x) 8687 .normal (e10 36 x) (g8 g 36 x) 8687 := by unfold Rn; kernel_rfl
theorem n12_36 (g : Int → Int → Int) (x : Nat → Int) : xR g 36 (cRn 12 b4) (rL (e10 36 x)) (ph (g8 g 36 x)) 8687 (kOc (rT.map (fun p => p.1)) [] 10883) = tsts (yg g x) 36 := by kernel_rfl
theorem n2_37 (g : Int → Int → Int) (x : Nat → Int) : Rn g 37 (k4 2) (e2 37 (dXs 37 x)) [] 3000 .normal (e2 37 (dXs 37 x)) [] 3000 := by unfold Rn; kernel_rfl
theorem n3_37 (g : Int → Int → Int) (x : Nat → Int) : Rn g 37 (k4 3) (e2 37 (dXs 37 x)) [] 3000 .normal (e3 37 x) [] 3000 := by unfold Rn; kernel_rfl
theorem n4_37 (g : Int → Int → Int) (x : Nat → Int) : Rn g 37 (k4 4) (e3 37 x) [] 3000 .normal (e4 37 x) (g4 37 x) 3120 := by unfold Rn; kernel_rfl
theorem n5_37 (g : Int → Int → Int) (x : Nat → Int) : Rn g 37 (k4 5) (e4 37 x) (g4 37 x) 3120 .normal (e5 37 x) (g5 g 37 x) 5283 := by unfold Rn; kernel_rfl
theorem n6_37 (g : Int → Int → Int) (x : Nat → Int) : Rn g 37 (k4 6) (e5 37 x) (g5 g 37 x) 5283 .normal (e6 37 x) (g6 g 37 x) 8199 := by unfold Rn; kernel_rfl
theorem n7_37 (g : Int → Int → Int) (x : Nat → Int) : Rn g 37 (k4 7) (e6 37 x) (g6 g 37 x) 8199 .normal (e7 37 x) (g7 g 37 x) 8199 := by unfold Rn; kernel_rfl
theorem n8_37 (g : Int → Int → Int) (x : Nat → Int) : Rn g 37 (k4 8) (e7 37 x) (g7 g 37 x) 8199 .normal (e8 37 x) (g8 g 37 x) 8687 := by unfold Rn; kernel_rfl
theorem n9_37 (g : Int → Int → Int) (x : Nat → Int) : Rn g 37 (k4 9) (e8 37 x) (g8 g 37 x) 8687 .normal (e9 37 x) (g8 g 37 x) 8687 := by unfold Rn; kernel_rfl
theorem n10_37 (g : Int → Int → Int) (x : Nat → Int) : Rn g 37 (k4 10) (e9 37 x) (g8 g 37 x) 8687 .normal (e10 37 x) (g8 g 37 x) 8687 := by unfold Rn; kernel_rfl
theorem n11_37 (g : Int → Int → Int) (x : Nat → Int) : Rn g 37 (k4 11) (e10 37 x) (g8 g 37 x) 8687 .normal (e10 37 x) (g8 g 37 x) 8687 := by unfold Rn; kernel_rfl
theorem n12_37 (g : Int → Int → Int) (x : Nat → Int) : xR g 37 (cRn 12 b4) (rL (e10 37 x)) (ph (g8 g 37 x)) 8687 (kOc (rT.map (fun p => p.1)) [] 10883) = tsts (yg g x) 37 := by kernel_rfl
theorem n2_38 (g : Int → Int → Int) (x : Nat → Int) : Rn g 38 (k4 2) (e2 38 (dXs 38 x)) [] 3000 .normal (e2 38 (dXs 38 x)) [] 3000 := by unfold Rn; kernel_rfl
theorem n3_38 (g : Int → Int → Int) (x : Nat → Int) : Rn g 38 (k4 3) (e2 38 (dXs 38 x)) [] 3000 .normal (e3 38 x) [] 3000 := by unfold Rn; kernel_rfl
theorem n4_38 (g : Int → Int → Int) (x : Nat → Int) : Rn g 38 (k4 4) (e3 38 x) [] 3000 .normal (e4 38 x) (g4 38 x) 3120 := by unfold Rn; kernel_rfl
theorem n5_38 (g : Int → Int → Int) (x : Nat → Int) : Rn g 38 (k4 5) (e4 38 x) (g4 38 x) 3120 .normal (e5 38 x) (g5 g 38 x) 5283 := by unfold Rn; kernel_rfl
theorem n6_38 (g : Int → Int → Int) (x : Nat → Int) : Rn g 38 (k4 6) (e5 38 x) (g5 g 38 x) 5283 .normal (e6 38 x) (g6 g 38 x) 8199 := by unfold Rn; kernel_rfl
theorem n7_38 (g : Int → Int → Int) (x : Nat → Int) : Rn g 38 (k4 7) (e6 38 x) (g6 g 38 x) 8199 .normal (e7 38 x) (g7 g 38 x) 8199 := by unfold Rn; kernel_rfl
theorem n8_38 (g : Int → Int → Int) (x : Nat → Int) : Rn g 38 (k4 8) (e7 38 x) (g7 g 38 x) 8199 .normal (e8 38 x) (g8 g 38 x) 8687 := by unfold Rn; kernel_rfl
theorem n9_38 (g : Int → Int → Int) (x : Nat → Int) : Rn g 38 (k4 9) (e8 38 x) (g8 g 38 x) 8687 .normal (e9 38 x) (g8 g 38 x) 8687 := by unfold Rn; kernel_rfl
theorem n10_38 (g : Int → Int → Int) (x : Nat → Int) : Rn g 38 (k4 10) (e9 38 x) (g8 g 38 x) 8687 .normal (e10 38 x) (g8 g 38 x) 8687 := by unfold Rn; kernel_rfl
theorem n11_38 (g : Int → Int → Int) (x : Nat → Int) : Rn g 38 (k4 11) (e10 38 x) (g8 g 38 x) 8687 .normal (e10 38 x) (g8 g 38 x) 8687 := by unfold Rn; kernel_rfl
theorem n12_38 (g : Int → Int → Int) (x : Nat → Int) : xR g 38 (cRn 12 b4) (rL (e10 38 x)) (ph (g8 g 38 x)) 8687 (kOc (rT.map (fun p => p.1)) [] 10883) = tsts (yg g x) 38 := by kernel_rfl
theorem n2_39 (g : Int → Int → Int) (x : Nat → Int) : Rn g 39 (k4 2) (e2 39 (dXs 39 x)) [] 3000 .normal (e2 39 (dXs 39 x)) [] 3000 := by unfold Rn; kernel_rfl
theorem n3_39 (g : Int → Int → Int) (x : Nat → Int) : Rn g 39 (k4 3) (e2 39 (dXs 39 x)) [] 3000 .normal (e3 39 x) [] 3000 := by unfold Rn; kernel_rfl
theorem n4_39 (g : Int → Int → Int) (x : Nat → Int) : Rn g 39 (k4 4) (e3 39 x) [] 3000 .normal (e4 39 x) (g4 39 x) 3120 := by unfold Rn; kernel_rfl
theorem n5_39 (g : Int → Int → Int) (x : Nat → Int) : Rn g 39 (k4 5) (e4 39 x) (g4 39 x) 3120 .normal (e5 39 x) (g5 g 39 x) 5283 := by unfold Rn; kernel_rfl
theorem n6_39 (g : Int → Int → Int) (x : Nat → Int) : Rn g 39 (k4 6) (e5 39 x) (g5 g 39 x) 5283 .normal (e6 39 x) (g6 g 39 x) 8199 := by unfold Rn; kernel_rfl
theorem n7_39 (g : Int → Int → Int) (x : Nat → Int) : Rn g 39 (k4 7) (e6 39 x) (g6 g 39 x) 8199 .normal (e7 39 x) (g7 g 39 x) 8199 := by unfold Rn; kernel_rfl
theorem n8_39 (g : Int → Int → Int) (x : Nat → Int) : Rn g 39 (k4 8) (e7 39 x) (g7 g 39 x) 8199 .normal (e8 39 x) (g8 g 39 x) 8687 := by unfold Rn; kernel_rfl
theorem n9_39 (g : Int → Int → Int) (x : Nat → Int) : Rn g 39 (k4 9) (e8 39 x) (g8 g 39 x) 8687 .normal (e9 39 x) (g8 g 39 x) 8687 := by unfold Rn; kernel_rfl
theorem n10_39 (g : Int → Int → Int) (x : Nat → Int) : Rn g 39 (k4 10) (e9 39 x) (g8 g 39 x) 8687 .normal (e10 39 x) (g8 g 39 x) 8687 := by unfold Rn; kernel_rfl
theorem n11_39 (g : Int → Int → Int) (x : Nat → Int) : Rn g 39 (k4 11) (e10 39 x) (g8 g 39 x) 8687 .normal (e10 39 x) (g8 g 39 x) 8687 := by unfold Rn; kernel_rfl
theorem n12_39 (g : Int → Int → Int) (x : Nat → Int) : xR g 39 (cRn 12 b4) (rL (e10 39 x)) (ph (g8 g 39 x)) 8687 (kOc (rT.map (fun p => p.1)) [] 10883) = tsts (yg g x) 39 := by kernel_rfl
theorem n2_40 (g : Int → Int → Int) (x : Nat → Int) : Rn g 40 (k4 2) (e2 40 (dXs 40 x)) [] 3000 .normal (e2 40 (dXs 40 x)) [] 3000 := by unfold Rn; kernel_rfl
theorem n3_40 (g : Int → Int → Int) (x : Nat → Int) : Rn g 40 (k4 3) (e2 40 (dXs 40 x)) [] 3000 .normal (e3 40 x) [] 3000 := by unfold Rn; kernel_rfl
theorem n4_40 (g : Int → Int → Int) (x : Nat → Int) : Rn g 40 (k4 4) (e3 40 x) [] 3000 .normal (e4 40 x) (g4 40 x) 3120 := by unfold Rn; kernel_rfl
theorem n5_40 (g : Int → Int → Int) (x : Nat → Int) : Rn g 40 (k4 5) (e4 40 x) (g4 40 x) 3120 .normal (e5 40 x) (g5 g 40 x) 5283 := by unfold Rn; kernel_rfl
theorem n6_40 (g : Int → Int → Int) (x : Nat → Int) : Rn g 40 (k4 6) (e5 40 x) (g5 g 40 x) 5283 .normal (e6 40 x) (g6 g 40 x) 8199 := by unfold Rn; kernel_rfl
theorem n7_40 (g : Int → Int → Int) (x : Nat → Int) : Rn g 40 (k4 7) (e6 40 x) (g6 g 40 x) 8199 .normal (e7 40 x) (g7 g 40 x) 8199 := by unfold Rn; kernel_rfl
theorem n8_40 (g : Int → Int → Int) (x : Nat → Int) : Rn g 40 (k4 8) (e7 40 x) (g7 g 40 x) 8199 .normal (e8 40 x) (g8 g 40 x) 8687 := by unfold Rn; kernel_rfl
theorem n9_40 (g : Int → Int → Int) (x : Nat → Int) : Rn g 40 (k4 9) (e8 40 x) (g8 g 40 x) 8687 .normal (e9 40 x) (g8 g 40 x) 8687 := by unfold Rn; kernel_rfl
theorem n10_40 (g : Int → Int → Int) (x : Nat → Int) : Rn g 40 (k4 10) (e9 40 x) (g8 g 40 x) 8687 .normal (e10 40 x) (g8 g 40 x) 8687 := by unfold Rn; kernel_rfl
theorem n11_40 (g : Int → Int → Int) (x : Nat → Int) : Rn g 40 (k4 11) (e10 40 x) (g8 g 40 x) 8687 .normal (e10 40 x) (g8 g 40 x) 8687 := by unfold Rn; kernel_rfl
theorem n12_40 (g : Int → Int → Int) (x : Nat → Int) : xR g 40 (cRn 12 b4) (rL (e10 40 x)) (ph (g8 g 40 x)) 8687 (kOc (rT.map (fun p => p.1)) [] 10883) = tsts (yg g x) 40 := by kernel_rfl
end Go.Ex
