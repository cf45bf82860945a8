/-
  TopDelay: its own code, for inputs of 27 to 34 numbers.
-/
import Derived.Test.YtaabpahemponkaaGreatDoorDyX
set_option linter.unusedVariables false
set_option linter.unusedSimpArgs false
set_option maxRecDepth 100000
namespace Go.Ex
open Go Go.Am Go.Proofs
theorem n2_27 (g : Int → Int → Int) (x : Nat → Int) : Rn g 27 (k4 2) (e2 27 (dXs 27 x)) [] 3000 .normal (e2 27 (dXs 27 x)) [] 3000 := by unfold Rn; kernel_rfl
theorem n3_27 (g : Int → Int → Int) (x : Nat → Int) : Rn g 27 (k4 3) (e2 27 (dXs 27 x)) [] 3000 .normal (e3 27 x) [] 3000 := by unfold Rn; kernel_rfl
theorem n4_27 (g : Int → Int → Int) (x : Nat → Int) : Rn g 27 (k4 4) (e3 27 x) [] 3000 .normal (e4 27 x) (g4 27 x) 3120 := by unfold Rn; kernel_rfl
theorem n5_27 (g : Int → Int → Int) (x : Nat → Int) : Rn g 27 (k4 5) (e4 27 x) (g4 27 x) 3120 .normal (e5 27 x) (g5 g 27 x) 5283 := by unfold Rn; kernel_rfl
theorem n6_27 (g : Int → Int → Int) (x : Nat → Int) : Rn g 27 (k4 6) (e5 27 x) (g5 g 27 x) 5283 .normal (e6 27 x) (g6 g 27 x) 8199 := by unfold Rn; kernel_rfl
theorem n7_27 (g : Int → Int → Int) (x : Nat → Int) : Rn g 27 (k4 7) (e6 27 x) (g6 g 27 x) 8199 .normal (e7 27 x) (g7 g 27 x) 8199 := by unfold Rn; kernel_rfl
theorem n8_27 (g : Int → Int → Int) (x : Nat → Int) : Rn g 27 (k4 8) (e7 27 x) (g7 g 27 x) 8199 .normal (e8 27 x) (g8 g 27 x) 8687 := by unfold Rn; kernel_rfl
theorem n9_27 (g : Int → Int → Int) (x : Nat → Int) : Rn g 27 (k4 9) (e8 27 x) (g8 g 27 x) 8687 .normal (e9 27 x) (g8 g 27 x) 8687 := by unfold Rn; kernel_rfl
theorem n10_27 (g : Int → Int → Int) (x : Nat → Int) : Rn g 27 (k4 10) (e9 27 x) (g8 g 27 x) 8687 .normal (e10 27 x) (g8 g 27 x) 8687 := by unfold Rn; kernel_rfl
theorem n11_27 (g : Int → Int → Int) (x : Nat → Int) : Rn g 27 (k4 11) (e10 27 x) (g8 g 27 x) 8687 .normal (e10 27 x) (g8 g 27 x) 8687 := by unfold Rn; kernel_rfl
theorem n12_27 (g : Int → Int → Int) (x : Nat → Int) : xR g 27 (cRn 12 b4) (rL (e10 27 x)) (ph (g8 g 27 x)) 8687 (kOc (rT.map (fun p => p.1)) [] 10883) = tsts (yg g x) 27 := by kernel_rfl
theorem n2_28 (g : Int → Int → Int) (x : Nat → Int) : Rn g 28 (k4 2) (e2 28 (dXs 28 x)) [] 3000 .normal (e2 28 (dXs 28 x)) [] 3000 := by unfold Rn; kernel_rfl
theorem n3_28 (g : Int → Int → Int) (x : Nat → Int) : Rn g 28 (k4 3) (e2 28 (dXs 28 x)) [] 3000 .normal (e3 28 x) [] 3000 := by unfold Rn; kernel_rfl
theorem n4_28 (g : Int → Int → Int) (x : Nat → Int) : Rn g 28 (k4 4) (e3 28 x) [] 3000 .normal (e4 28 x) (g4 28 x) 3120 := by unfold Rn; kernel_rfl
theorem n5_28 (g : Int → Int → Int) (x : Nat → Int) : Rn g 28 (k4 5) (e4 28 x) (g4 28 x) 3120 .normal (e5 28 x) (g5 g 28 x) 5283 := by unfold Rn; kernel_rfl
theorem n6_28 (g : Int → Int → Int) (x : Nat → Int) : Rn g 28 (k4 6) (e5 28 x) (g5 g 28 x) 5283 .normal (e6 28 x) (g6 g 28 x) 8199 := by unfold Rn; kernel_rfl
theorem n7_28 (g : Int → Int → Int) (x : Nat → Int) : Rn g 28 (k4 7) (e6 28 x) (g6 g 28 x) 8199 .normal (e7 28 x) (g7 g 28 x) 8199 := by unfold Rn; kernel_rfl
theorem n8_28 (g : Int → Int → Int) (x : Nat → Int) : Rn g 28 (k4 8) (e7 28 x) (g7 g 28 x) 8199 .normal (e8 28 x) (g8 g 28 x) 8687 := by unfold Rn; kernel_rfl
theorem n9_28 (g : Int → Int → Int) (x : Nat → Int) : Rn g 28 (k4 9) (e8 28 x) (g8 g 28 x) 8687 .normal (e9 28 x) (g8 g 28 x) 8687 := by unfold Rn; kernel_rfl
theorem n10_28 (g : Int → Int → Int) (x : Nat → Int) : Rn g 28 (k4 10) (e9 28 x) (g8 g 28 x) 8687 .normal (e10 28 x) (g8 g 28 x) 8687 := by unfold Rn; kernel_rfl
theorem n11_28 (g : Int → Int → Int) (x : Nat → Int) : Rn g 28 (k4 11) (e10 28 x) (g8 g 28 x) 8687 .normal (e10 28 x) (g8 g 28 x) 8687 := by unfold Rn; kernel_rfl
theorem n12_28 (g : Int → Int → Int) (x : Nat → Int) : xR g 28 (cRn 12 b4) (rL (e10 28 x)) (ph (g8 g 28 x)) 8687 (kOc (rT.map (fun p => p.1)) [] 10883) = tsts (yg g x) 28 := by kernel_rfl
theorem n2_29 (g : Int → Int → Int) (x : Nat → Int) : Rn g 29 (k4 2) (e2 29 (dXs 29 x)) [] 3000 .normal (e2 29 (dXs 29 x)) [] 3000 := by unfold Rn; kernel_rfl
theorem n3_29 (g : Int → Int → Int) (x : Nat → Int) : Rn g 29 (k4 3) (e2 29 (dXs 29 x)) [] 3000 .normal (e3 29 x) [] 3000 := by unfold Rn; kernel_rfl
theorem n4_29 (g : Int → Int → Int) (x : Nat → Int) : Rn g 29 (k4 4) (e3 29 x) [] 3000 .normal (e4 29 x) (g4 29 x) 3120 := by unfold Rn; kernel_rfl
theorem n5_29 (g : Int → Int → Int) (x : Nat → Int) : Rn g 29 (k4 5) (e4 29 x) (g4 29 x) 3120 .normal (e5 29 x) (g5 g 29 x) 5283 := by unfold Rn; kernel_rfl
theorem n6_29 (g : Int → Int → Int) (x : Nat → Int) : Rn g 29 (k4 6) (e5 29 x) (g5 g 29 x) 5283 .normal (e6 29 x) (g6 g 29 x) 8199 := by unfold Rn; kernel_rfl
theorem n7_29 (g : Int → Int → Int) (x : Nat → Int) : Rn g 29 (k4 7) (e6 29 x) (g6 g 29 x) 8199 .normal (e7 29 x) (g7 g 29 x) 8199 := by unfold Rn; kernel_rfl
theorem n8_29 (g : Int → Int → Int) (x : Nat → Int) : Rn g 29 (k4 8) (e7 29 x) (g7 g 29 x) 8199 .normal (e8 29 x) (g8 g 29 x) 8687 := by unfold Rn; kernel_rfl
theorem n9_29 (g : Int → Int → Int) (x : Nat → Int) : Rn g 29 (k4 9) (e8 29 x) (g8 g 29 x) 8687 .normal (e9 29 x) (g8 g 29 x) 8687 := by unfold Rn; kernel_rfl
theorem n10_29 (g : Int → Int → Int) (x : Nat → Int) : Rn g 29 (k4 10) (e9 29 x) (g8 g 29 x) 8687 .normal (e10 29 x) (g8 g 29 x) 8687 := by unfold Rn; kernel_rfl
theorem n11_29 (g : Int → Int → Int) (x : Nat → Int) : Rn g 29 (k4 11) (e10 29 x) (g8 g 29 x) 8687 .normal (e10 29 x) (g8 g 29 x) 8687 := by unfold Rn; kernel_rfl
theorem n12_29 (g : Int → Int → Int) (x : Nat → Int) : xR g 29 (cRn 12 b4) (rL (e10 29 x)) (ph (g8 g 29 x)) 8687 (kOc (rT.map (fun p => p.1)) [] 10883) = tsts (yg g x) 29 := by kernel_rfl
theorem n2_30 (g : Int → Int → Int) (x : Nat → Int) : Rn g 30 (k4 2) (e2 30 (dXs 30 x)) [] 3000 .normal (e2 30 (dXs 30 x)) [] 3000 := by unfold Rn; kernel_rfl
theorem n3_30 (g : Int → Int → Int) (x : Nat → Int) : Rn g 30 (k4 3) (e2 30 (dXs 30 x)) [] 3000 .normal (e3 30 x) [] 3000 := by unfold Rn; kernel_rfl
theorem n4_30 (g : Int → Int → Int) (x : Nat → Int) : Rn g 30 (k4 4) (e3 30 x) [] 3000 .normal (e4 30 x) (g4 30 x) 3120 := by unfold Rn; kernel_rfl
theorem n5_30 (g : Int → Int → Int) (x : Nat → Int) : Rn g 30 (k4 5) (e4 30 x) (g4 30 x) 3120 .normal (e5 30 x) (g5 g 30 x) 5283 := by unfold Rn; kernel_rfl
theorem n6_30 (g : Int → Int → Int) (x : Nat → Int) : Rn g 30 (k4 6) (e5 30 x) (g5 g 30 x) 5283 .normal (e6 30 x) (g6 g 30 x) 8199 := by unfold Rn; kernel_rfl
theorem n7_30 (g : Int → Int → Int) (x : Nat → Int) : Rn g 30 (k4 7) (e6 30 x) (g6 g 30 x) 8199 .normal (e7 30 x) (g7 g 30 x) 8199 := by unfold Rn; kernel_rfl
theorem n8_30 (g : Int → Int → Int) (x : Nat → Int) : Rn g 30 (k4 8) (e7 30 x) (g7 g 30 x) 8199 .normal (e8 30 x) (g8 g 30 x) 8687 := by unfold Rn; kernel_rfl
theorem n9_30 (g : Int → Int → Int) (x : Nat → Int) : Rn g 30 (k4 9) (e8 30 x) (g8 g 30 x) 8687 .normal (e9 30 x) (g8 g 30 x) 8687 := by unfold Rn; kernel_rfl
theorem n10_30 (g : Int → Int → Int) (x : Nat → Int) : Rn g 30 (k4 10) (e9 30 x) (g8 g 30 x) 8687 .normal (e10 30 x) (g8 g 30 x) 8687 := by unfold Rn; kernel_rfl
theorem n11_30 (g : Int → Int → Int) (x : Nat → Int) : Rn g 30 (k4 11) (e10 30 x) (g8 g 30 x) 8687 .normal (e10 30 x) (g8 g 30 x) 8687 := by unfold Rn; kernel_rfl
theorem n12_30 (g : Int → Int → Int) (x : Nat → Int) : xR g 30 (cRn 12 b4) (rL (e10 30 x)) (ph (g8 g 30 x)) 8687 (kOc (rT.map (fun p => p.1)) [] 10883) = tsts (yg g x) 30 := by kernel_rfl
theorem n2_31 (g : Int → Int → Int) (x : Nat → Int) : Rn g 31 (k4 2) (e2 31 (dXs 31 x)) [] 3000 .normal (e2 31 (dXs 31 x)) [] 3000 := by unfold Rn; kernel_rfl
theorem n3_31 (g : Int → Int → Int) (x : Nat → Int) : Rn g 31 (k4 3) (e2 31 (dXs 31 x)) [] 3000 .normal (e3 31 x) [] 3000 := by unfold Rn; kernel_rfl
theorem n4_31 (g : Int → Int → Int) (x : Nat → Int) : Rn g 31 (k4 4) (e3 31 x) [] 3000 .normal (e4 31 x) (g4 31 x) 3120 := by unfold Rn; kernel_rfl
theorem n5_31 (g : Int → Int → Int) (x : Nat → Int) : Rn g 31 (k4 5) (e4 31 x) (g4 31 x) 3120 .normal (e5 31 x) (g5 g 31 x) 5283 := by unfold Rn; kernel_rfl
theorem n6_31 (g : Int → Int → Int) (x : Nat → Int) : Rn g 31 (k4 6) (e5 31 x) (g5 g 31 x) 5283 .normal (e6 31 x) (g6 g 31 x) 8199 := by unfold Rn; kernel_rfl
theorem n7_31 (g : Int → Int → Int) (x : Nat → Int) : Rn g 31 (k4 7) (e6 31 x) (g6 g 31 x) 8199 .normal (e7 31 x) (g7 g 31 x) 8199 := by unfold Rn; kernel_rfl
theorem n8_31 (g : Int → Int → Int) (x : Nat → Int) : Rn g 31 (k4 8) (e7 31 x) (g7 g 31 x) 8199 .normal (e8 31 x) (g8 g 31 x) 8687 := by unfold Rn; kernel_rfl
theorem n9_31 (g : Int → Int → Int) (x : Nat → Int) : Rn g 31 (k4 9) (e8 31 x) (g8 g 31 x) 8687 .normal (e9 31 x) (g8 g 31 x) 8687 := by unfold Rn; kernel_rfl
theorem n10_31 (g : Int → Int → Int) (x : Nat → Int) : Rn g 31 (k4 10) (e9 31 x) (g8 g 31 x) 8687 .normal (e10 31 x) (g8 g 31 x) 8687 := by unfold Rn; kernel_rfl
theorem n11_31 (g : Int → Int → Int) (x : Nat → Int) : Rn g 31 (k4 11) (e10 31 x) (g8 g 31 x) 8687 .normal (e10 31 x) (g8 g 31 x) 8687 := by unfold Rn; kernel_rfl
theorem n12_31 (g : Int → Int → Int) (x : Nat → Int) : xR g 31 (cRn 12 b4) (rL (e10 31 x)) (ph (g8 g 31 x)) 8687 (kOc (rT.map (fun p => p.1)) [] 10883) = tsts (yg g x) 31 := by kernel_rfl
theorem n2_32 (g : Int → Int → Int) (x : Nat → Int) : Rn g 32 (k4 2) (e2 32 (dXs 32 x)) [] 3000 .normal (e2 32 (dXs 32 x)) [] 3000 := by unfold Rn; kernel_rfl
theorem n3_32 (g : Int → Int → Int) (x : Nat → Int) : Rn g 32 (k4 3) (e2 32 (dXs 32 x)) [] 3000 .normal (e3 32 x) [] 3000 := by unfold Rn; kernel_rfl
theorem n4_32 (g : Int → Int → Int) (x : Nat → Int) : Rn g 32 (k4 4) (e3 32 x) [] 3000 .normal (e4 32 x) (g4 32 x) 3120 := by unfold Rn; kernel_rfl
theorem n5_32 (g : Int → Int → Int) (x : Nat → Int) : Rn g 32 (k4 5) (e4 32 x) (g4 32 x) 3120 .normal (e5 32 x) (g5 g 32 x) 5283 := by unfold Rn; kernel_rfl
theorem n6_32 (g : Int → Int → Int) (x : Nat → Int) : Rn g 32 (k4 6) (e5 32 x) (g5 g 32 x) 5283 .normal (e6 32 x) (g6 g 32 x) 8199 := by unfold Rn; kernel_rfl
theorem n7_32 (g : Int → Int → Int) (x : Nat → Int) : Rn g 32 (k4 7) (e6 32 x) (g6 g 32 x) 8199 .normal (e7 32 x) (g7 g 32 x) 8199 := by unfold Rn; kernel_rfl
theorem n8_32 (g : Int → Int → Int) (x : Nat → Int) : Rn g 32 (k4 8) (e7 32 x) (g7 g 32 x) 8199 .normal (e8 32 x) (g8 g 32 x) 8687 := by unfold Rn; kernel_rfl
theorem n9_32 (g : Int → Int → Int) (x : Nat → Int) : Rn g 32 (k4 9) (e8 32 x) (g8 g 32 x) 8687 .normal (e9 32 x) (g8 g 32 x) 8687 := by unfold Rn; kernel_rfl
theorem n10_32 (g : Int → Int → Int) (x : Nat → Int) : Rn g 32 (k4 10) (e9 32 x) (g8 g 32 x) 8687 .normal (e10 32 x) (g8 g 32 x) 8687 := by unfold Rn; kernel_rfl
theorem n11_32 (g : Int → Int → Int) (x : Nat → Int) : Rn g 32 (k4 11) (e10 32 x) (g8 g 32 x) 8687 .normal (e10 32 x) (g8 g 32 x) 8687 := by unfold Rn; kernel_rfl
theorem n12_32 (g : Int → Int → Int) (x : Nat → Int) : xR g 32 (cRn 12 b4) (rL (e10 32 x)) (ph (g8 g 32 x)) 8687 (kOc (rT.map (fun p => p.1)) [] 10883) = tsts (yg g x) 32 := by kernel_rfl
theorem n2_33 (g : Int → Int → Int) (x : Nat → Int) : Rn g 33 (k4 2) (e2 33 (dXs 33 x)) [] 3000 .normal (e2 33 (dXs 33 x)) [] 3000 := by unfold Rn; kernel_rfl
theorem n3_33 (g : Int → Int → Int) (x : Nat → Int) : Rn g 33 (k4 3) (e2 33 (dXs 33 x)) [] 3000 .normal (e3 33 x) [] 3000 := by unfold Rn; kernel_rfl
theorem n4_33 (g : Int → Int → Int) (x : Nat → Int) : Rn g 33 (k4 4) (e3 33 x) [] 3000 .normal (e4 33 x) (g4 33 x) 3120 := by unfold Rn; kernel_rfl
theorem n5_33 (g : Int → Int → Int) (x : Nat → Int) : Rn g 33 (k4 5) (e4 33 x) (g4 33 x) 3120 .normal (e5 33 x) (g5 g 33 x) 5283 := by unfold Rn; kernel_rfl
theorem n6_33 (g : Int → Int → Int) (x : Nat → Int) : Rn g 33 (k4 6) (e5 33 x) (g5 g 33 x) 5283 .normal (e6 33 x) (g6 g 33 x) 8199 := by unfold Rn; kernel_rfl
theorem n7_33 (g : Int → Int → Int) (x : Nat → Int) : Rn g 33 (k4 7) (e6 33 x) (g6 g 33 x) 8199 .normal (e7 33 x) (g7 g 33 x) 8199 := by unfold Rn; kernel_rfl
theorem n8_33 (g : Int → Int → Int) (x : Nat → Int) : Rn g 33 (k4 8) (e7 33 x) (g7 g 33 x) 8199 .normal (e8 33 x) (g8 g 33 x) 8687 := by unfold Rn; kernel_rfl
theorem n9_33 (g : Int → Int → Int) (x : Nat → Int) : Rn g 33 (k4 9) (e8 33 x) (g8 g 33 x) 8687 .normal (e9 33 x) (g8 g 33 x) 8687 := by unfold Rn; kernel_rfl
theorem n10_33 (g : Int → Int → Int) (x : Nat → Int) : Rn g 33 (k4 10) (e9 33 x) (g8 g 33 x) 8687 .normal (e10 33 x) (g8 g 33 x) 8687 := by unfold Rn; kernel_rfl
theorem n11_33 (g : Int → Int → Int) (x : Nat → Int) : Rn g 33 (k4 11) (e10 33 x) (g8 g 33 x) 8687 .normal (e10 33 x) (g8 g 33 x) 8687 := by unfold Rn; kernel_rfl
theorem n12_33 (g : Int → Int → Int) (x : Nat → Int) : xR g 33 (cRn 12 b4) (rL (e10 33 x)) (ph (g8 g 33 x)) 8687 (kOc (rT.map (fun p => p.1)) [] 10883) = tsts (yg g x) 33 := by kernel_rfl
theorem n2_34 (g : Int → Int → Int) (x : Nat → Int) : Rn g 34 (k4 2) (e2 34 (dXs 34 x)) [] 3000 .normal (e2 34 (dXs 34 x)) [] 3000 := by unfold Rn; kernel_rfl
theorem n3_34 (g : Int → Int → Int) (x : Nat → Int) : Rn g 34 (k4 3) (e2 34 (dXs 34 x)) [] 3000 .normal (e3 34 x) [] 3000 := by unfold Rn; kernel_rfl
theorem n4_34 (g : Int → Int → Int) (x : Nat → Int) : Rn g 34 (k4 4) (e3 34 x) [] 3000 .normal (e4 34 x) (g4 34 x) 3120 := by unfold Rn; kernel_rfl
theorem n5_34 (g : Int → Int → Int) (x : Nat → Int) : Rn g 34 (k4 5) (e4 34 x) (g4 34 x) 3120 .normal (e5 34 x) (g5 g 34 x) 5283 := by unfold Rn; kernel_rfl
theorem n6_34 (g : Int → Int → Int) (x : Nat → Int) : Rn g 34 (k4 6) (e5 34 x) (g5 g 34 x) 5283 .normal (e6 34 x) (g6 g 34 x) 8199 := by unfold Rn; kernel_rfl
theorem n7_34 (g : Int → Int → Int) (x : Nat → Int) : Rn g 34 (k4 7) (e6 34 x) (g6 g 34 x) 8199 .normal (e7 34 x) (g7 g 34 x) 8199 := by unfold Rn; kernel_rfl
theorem n8_34 (g : Int → Int → Int) (x : Nat → Int) : Rn g 34 (k4 8) (e7 34 x) (g7 g 34 x) 8199 .normal (e8 34 x) (g8 g 34 x) 8687 := by unfold Rn; kernel_rfl
theorem n9_34 (g : Int → Int → Int) (x : Nat → Int) : Rn g 34 (k4 9) (e8 34 x) (g8 g 34 x) 8687 .normal (e9 34 x) (g8 g 34 x) 8687 := by unfold Rn; kernel_rfl
theorem n10_34 (g : Int → Int → Int) (x : Nat → Int) : Rn g 34 (k4 10) (e9 34 x) (g8 g 34 x) 8687 .normal (e10 34 x) (g8 g 34 x) 8687 := by unfold Rn; kernel_rfl
theorem n11_34 (g : Int → Int → Int) (x : Nat → Int) : Rn g 34 (k4 11) (e10 34 x) (g8 g 34 x) 8687 .normal (e10 34 x) (g8 g 34 x) 8687 := by unfold Rn; kernel_rfl
theorem n12_34 (g : Int → Int → Int) (x : Nat → Int) : xR g 34 (cRn 12 b4) (rL (e10 34 x)) (ph (g8 g 34 x)) 8687 (kOc (rT.map (fun p => p.1)) [] 10883) = tsts (yg g x) 34 := by kernel_rfl
end Go.Ex
