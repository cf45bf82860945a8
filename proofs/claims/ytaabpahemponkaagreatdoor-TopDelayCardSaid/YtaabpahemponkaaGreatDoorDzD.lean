/-
  TopDelay: its own code, for inputs of 17 to 26 numbers.
-/
import Derived.Test.YtaabpahemponkaaGreatDoorDyX
set_option linter.unusedVariables false
set_option linter.unusedSimpArgs false
set_option maxRecDepth 100000
namespace Go.Ex
open Go Go.Am Go.Proofs
theorem n2_17 (g : Int → Int → Int) (x : Nat → Int) : Rn g 17 (k4 2) (e2 17 (dXs 17 x)) [] 3000 .normal (e2 17 (dXs 17 x)) [] 3000 := by unfold Rn; kernel_rfl
theorem n3_17 (g : Int → Int → Int) (x : Nat → Int) : Rn g 17 (k4 3) (e2 17 (dXs 17 x)) [] 3000 .normal (e3 17 x) [] 3000 := by unfold Rn; kernel_rfl
theorem n4_17 (g : Int → Int → Int) (x : Nat → Int) : Rn g 17 (k4 4) (e3 17 x) [] 3000 .normal (e4 17 x) (g4 17 x) 3120 := by unfold Rn; kernel_rfl
theorem n5_17 (g : Int → Int → Int) (x : Nat → Int) : Rn g 17 (k4 5) (e4 17 x) (g4 17 x) 3120 .normal (e5 17 x) (g5 g 17 x) 5283 := by unfold Rn; kernel_rfl
theorem n6_17 (g : Int → Int → Int) (x : Nat → Int) : Rn g 17 (k4 6) (e5 17 x) (g5 g 17 x) 5283 .normal (e6 17 x) (g6 g 17 x) 8199 := by unfold Rn; kernel_rfl
theorem n7_17 (g : Int → Int → Int) (x : Nat → Int) : Rn g 17 (k4 7) (e6 17 x) (g6 g 17 x) 8199 .normal (e7 17 x) (g7 g 17 x) 8199 := by unfold Rn; kernel_rfl
theorem n8_17 (g : Int → Int → Int) (x : Nat → Int) : Rn g 17 (k4 8) (e7 17 x) (g7 g 17 x) 8199 .normal (e8 17 x) (g8 g 17 x) 8687 := by unfold Rn; kernel_rfl
theorem n9_17 (g : Int → Int → Int) (x : Nat → Int) : Rn g 17 (k4 9) (e8 17 x) (g8 g 17 x) 8687 .normal (e9 17 x) (g8 g 17 x) 8687 := by unfold Rn; kernel_rfl
theorem n10_17 (g : Int → Int → Int) (x : Nat → Int) : Rn g 17 (k4 10) (e9 17 x) (g8 g 17 x) 8687 .normal (e10 17 x) (g8 g 17 x) 8687 := by unfold Rn; kernel_rfl
theorem n11_17 (g : Int → Int → Int) (x : Nat → Int) : Rn g 17 (k4 11) (e10 17 x) (g8 g 17 x) 8687 .normal (e10 17 x) (g8 g 17 x) 8687 := by unfold Rn; kernel_rfl
theorem n12_17 (g : Int → Int → Int) (x : Nat → Int) : xR g 17 (cRn 12 b4) (rL (e10 17 x)) (ph (g8 g 17 x)) 8687 (kOc (rT.map (fun p => p.1)) [] 10883) = tsts (yg g x) 17 := by kernel_rfl
theorem n2_18 (g : Int → Int → Int) (x : Nat → Int) : Rn g 18 (k4 2) (e2 18 (dXs 18 x)) [] 3000 .normal (e2 18 (dXs 18 x)) [] 3000 := by unfold Rn; kernel_rfl
theorem n3_18 (g : Int → Int → Int) (x : Nat → Int) : Rn g 18 (k4 3) (e2 18 (dXs 18 x)) [] 3000 .normal (e3 18 x) [] 3000 := by unfold Rn; kernel_rfl
theorem n4_18 (g : Int → Int → Int) (x : Nat → Int) : Rn g 18 (k4 4) (e3 18 x) [] 3000 .normal (e4 18 x) (g4 18 x) 3120 := by unfold Rn; kernel_rfl
theorem n5_18 (g : Int → Int → Int) (x : Nat → Int) : Rn g 18 (k4 5) (e4 18 x) (g4 18 x) 3120 .normal (e5 18 x) (g5 g 18 x) 5283 := by unfold Rn; kernel_rfl
theorem n6_18 (g : Int → Int → Int) (x : Nat → Int) : Rn g 18 (k4 6) (e5 18 x) (g5 g 18 x) 5283 .normal (e6 18 x) (g6 g 18 x) 8199 := by unfold Rn; kernel_rfl
theorem n7_18 (g : Int → Int → Int) (x : Nat → Int) : Rn g 18 (k4 7) (e6 18 x) (g6 g 18 x) 8199 .normal (e7 18 x) (g7 g 18 x) 8199 := by unfold Rn; kernel_rfl
theorem n8_18 (g : Int → Int → Int) (x : Nat → Int) : Rn g 18 (k4 8) (e7 18 x) (g7 g 18 x) 8199 .normal (e8 18 x) (g8 g 18 x) 8687 := by unfold Rn; kernel_rfl
theorem n9_18 (g : Int → Int → Int) (x : Nat → Int) : Rn g 18 (k4 9) (e8 18 x) (g8 g 18 x) 8687 .normal (e9 18 x) (g8 g 18 x) 8687 := by unfold Rn; kernel_rfl
theorem n10_18 (g : Int → Int → Int) (x : Nat → Int) : Rn g 18 (k4 10) (e9 18 x) (g8 g 18 x) 8687 .normal (e10 18 x) (g8 g 18 x) 8687 := by unfold Rn; kernel_rfl
theorem n11_18 (g : Int → Int → Int) (x : Nat → Int) : Rn g 18 (k4 11) (e10 18 x) (g8 g 18 x) 8687 .normal (e10 18 x) (g8 g 18 x) 8687 := by unfold Rn; kernel_rfl
theorem n12_18 (g : Int → Int → Int) (x : Nat → Int) : xR g 18 (cRn 12 b4) (rL (e10 18 x)) (ph (g8 g 18 x)) 8687 (kOc (rT.map (fun p => p.1)) [] 10883) = tsts (yg g x) 18 := by kernel_rfl
theorem n2_19 (g : Int → Int → Int) (x : Nat → Int) : Rn g 19 (k4 2) (e2 19 (dXs 19 x)) [] 3000 .normal (e2 19 (dXs 19 x)) [] 3000 := by unfold Rn; kernel_rfl
theorem n3_19 (g : Int → Int → Int) (x : Nat → Int) : Rn g 19 (k4 3) (e2 19 (dXs 19 x)) [] 3000 .normal (e3 19 x) [] 3000 := by unfold Rn; kernel_rfl
theorem n4_19 (g : Int → Int → Int) (x : Nat → Int) : Rn g 19 (k4 4) (e3 19 x) [] 3000 .normal (e4 19 x) (g4 19 x) 3120 := by unfold Rn; kernel_rfl
theorem n5_19 (g : Int → Int → Int) (x : Nat → Int) : Rn g 19 (k4 5) (e4 19 x) (g4 19 x) 3120 .normal (e5 19 x) (g5 g 19 x) 5283 := by unfold Rn; kernel_rfl
theorem n6_19 (g : Int → Int → Int) (x : Nat → Int) : Rn g 19 (k4 6) (e5 19 x) (g5 g 19 x) 5283 .normal (e6 19 x) (g6 g 19 x) 8199 := by unfold Rn; kernel_rfl
theorem n7_19 (g : Int → Int → Int) (x : Nat → Int) : Rn g 19 (k4 7) (e6 19 x) (g6 g 19 x) 8199 .normal (e7 19 x) (g7 g 19 x) 8199 := by unfold Rn; kernel_rfl
theorem n8_19 (g : Int → Int → Int) (x : Nat → Int) : Rn g 19 (k4 8) (e7 19 x) (g7 g 19 x) 8199 .normal (e8 19 x) (g8 g 19 x) 8687 := by unfold Rn; kernel_rfl
theorem n9_19 (g : Int → Int → Int) (x : Nat → Int) : Rn g 19 (k4 9) (e8 19 x) (g8 g 19 x) 8687 .normal (e9 19 x) (g8 g 19 x) 8687 := by unfold Rn; kernel_rfl
theorem n10_19 (g : Int → Int → Int) (x : Nat → Int) : Rn g 19 (k4 10) (e9 19 x) (g8 g 19 x) 8687 .normal (e10 19 x) (g8 g 19 x) 8687 := by unfold Rn; kernel_rfl
theorem n11_19 (g : Int → Int → Int) (x : Nat → Int) : Rn g 19 (k4 11) (e10 19 x) (g8 g 19 x) 8687 .normal (e10 19 x) (g8 g 19 x) 8687 := by unfold Rn; kernel_rfl
theorem n12_19 (g : Int → Int → Int) (x : Nat → Int) : xR g 19 (cRn 12 b4) (rL (e10 19 x)) (ph (g8 g 19 x)) 8687 (kOc (rT.map (fun p => p.1)) [] 10883) = tsts (yg g x) 19 := by kernel_rfl
theorem n2_20 (g : Int → Int → Int) (x : Nat → Int) : Rn g 20 (k4 2) (e2 20 (dXs 20 x)) [] 3000 .normal (e2 20 (dXs 20 x)) [] 3000 := by unfold Rn; kernel_rfl
theorem n3_20 (g : Int → Int → Int) (x : Nat → Int) : Rn g 20 (k4 3) (e2 20 (dXs 20 x)) [] 3000 .normal (e3 20 x) [] 3000 := by unfold Rn; kernel_rfl
theorem n4_20 (g : Int → Int → Int) (x : Nat → Int) : Rn g 20 (k4 4) (e3 20 x) [] 3000 .normal (e4 20 x) (g4 20 x) 3120 := by unfold Rn; kernel_rfl
theorem n5_20 (g : Int → Int → Int) (x : Nat → Int) : Rn g 20 (k4 5) (e4 20 x) (g4 20 x) 3120 .normal (e5 20 x) (g5 g 20 x) 5283 := by unfold Rn; kernel_rfl
theorem n6_20 (g : Int → Int → Int) (x : Nat → Int) : Rn g 20 (k4 6) (e5 20 x) (g5 g 20 x) 5283 .normal (e6 20 x) (g6 g 20 x) 8199 := by unfold Rn; kernel_rfl
theorem n7_20 (g : Int → Int → Int) (x : Nat → Int) : Rn g 20 (k4 7) (e6 20 x) (g6 g 20 x) 8199 .normal (e7 20 x) (g7 g 20 x) 8199 := by unfold Rn; kernel_rfl
theorem n8_20 (g : Int → Int → Int) (x : Nat → Int) : Rn g 20 (k4 8) (e7 20 x) (g7 g 20 x) 8199 .normal (e8 20 x) (g8 g 20 x) 8687 := by unfold Rn; kernel_rfl
theorem n9_20 (g : Int → Int → Int) (x : Nat → Int) : Rn g 20 (k4 9) (e8 20 x) (g8 g 20 x) 8687 .normal (e9 20 x) (g8 g 20 x) 8687 := by unfold Rn; kernel_rfl
theorem n10_20 (g : Int → Int → Int) (x : Nat → Int) : Rn g 20 (k4 10) (e9 20 x) (g8 g 20 x) 8687 .normal (e10 20 x) (g8 g 20 x) 8687 := by unfold Rn; kernel_rfl
theorem n11_20 (g : Int → Int → Int) (x : Nat → Int) : Rn g 20 (k4 11) (e10 20 x) (g8 g 20 x) 8687 .normal (e10 20 x) (g8 g 20 x) 8687 := by unfold Rn; kernel_rfl
theorem n12_20 (g : Int → Int → Int) (x : Nat → Int) : xR g 20 (cRn 12 b4) (rL (e10 20 x)) (ph (g8 g 20 x)) 8687 (kOc (rT.map (fun p => p.1)) [] 10883) = tsts (yg g x) 20 := by kernel_rfl
theorem n2_21 (g : Int → Int → Int) (x : Nat → Int) : Rn g 21 (k4 2) (e2 21 (dXs 21 x)) [] 3000 .normal (e2 21 (dXs 21 x)) [] 3000 := by unfold Rn; kernel_rfl
theorem n3_21 (g : Int → Int → Int) (x : Nat → Int) : Rn g 21 (k4 3) (e2 21 (dXs 21 x)) [] 3000 .normal (e3 21 x) [] 3000 := by unfold Rn; kernel_rfl
theorem n4_21 (g : Int → Int → Int) (x : Nat → Int) : Rn g 21 (k4 4) (e3 21 x) [] 3000 .normal (e4 21 x) (g4 21 x) 3120 := by unfold Rn; kernel_rfl
theorem n5_21 (g : Int → Int → Int) (x : Nat → Int) : Rn g 21 (k4 5) (e4 21 x) (g4 21 x) 3120 .normal (e5 21 x) (g5 g 21 x) 5283 := by unfold Rn; kernel_rfl
theorem n6_21 (g : Int → Int → Int) (x : Nat → Int) : Rn g 21 (k4 6) (e5 21 x) (g5 g 21 x) 5283 .normal (e6 21 x) (g6 g 21 x) 8199 := by unfold Rn; kernel_rfl
theorem n7_21 (g : Int → Int → Int) (x : Nat → Int) : Rn g 21 (k4 7) (e6 21 x) (g6 g 21 x) 8199 .normal (e7 21 x) (g7 g 21 x) 8199 := by unfold Rn; kernel_rfl
theorem n8_21 (g : Int → Int → Int) (x : Nat → Int) : Rn g 21 (k4 8) (e7 21 x) (g7 g 21 x) 8199 .normal (e8 21 x) (g8 g 21 x) 8687 := by unfold Rn; kernel_rfl
theorem n9_21 (g : Int → Int → Int) (x : Nat → Int) : Rn g 21 (k4 9) (e8 21 x) (g8 g 21 x) 8687 .normal (e9 21 x) (g8 g 21 x) 8687 := by unfold Rn; kernel_rfl
theorem n10_21 (g : Int → Int → Int) (x : Nat → Int) : Rn g 21 (k4 10) (e9 21 x) (g8 g 21 x) 8687 .normal (e10 21 x) (g8 g 21 x) 8687 := by unfold Rn; kernel_rfl
theorem n11_21 (g : Int → Int → Int) (x : Nat → Int) : Rn g 21 (k4 11) (e10 21 x) (g8 g 21 x) 8687 .normal (e10 21 x) (g8 g 21 x) 8687 := by unfold Rn; kernel_rfl
theorem n12_21 (g : Int → Int → Int) (x : Nat → Int) : xR g 21 (cRn 12 b4) (rL (e10 21 x)) (ph (g8 g 21 x)) 8687 (kOc (rT.map (fun p => p.1)) [] 10883) = tsts (yg g x) 21 := by kernel_rfl
theorem n2_22 (g : Int → Int → Int) (x : Nat → Int) : Rn g 22 (k4 2) (e2 22 (dXs 22 x)) [] 3000 .normal (e2 22 (dXs 22 x)) [] 3000 := by unfold Rn; kernel_rfl
theorem n3_22 (g : Int → Int → Int) (x : Nat → Int) : Rn g 22 (k4 3) (e2 22 (dXs 22 x)) [] 3000 .normal (e3 22 x) [] 3000 := by unfold Rn; kernel_rfl
theorem n4_22 (g : Int → Int → Int) (x : Nat → Int) : Rn g 22 (k4 4) (e3 22 x) [] 3000 .normal (e4 22 x) (g4 22 x) 3120 := by unfold Rn; kernel_rfl
theorem n5_22 (g : Int → Int → Int) (x : Nat → Int) : Rn g 22 (k4 5) (e4 22 x) (g4 22 x) 3120 .normal (e5 22 x) (g5 g 22 x) 5283 := by unfold Rn; kernel_rfl
theorem n6_22 (g : Int → Int → Int) (x : Nat → Int) : Rn g 22 (k4 6) (e5 22 x) (g5 g 22 x) 5283 .normal (e6 22 x) (g6 g 22 x) 8199 := by unfold Rn; kernel_rfl
theorem n7_22 (g : Int → Int → Int) (x : Nat → Int) : Rn g 22 (k4 7) (e6 22 x) (g6 g 22 x) 8199 .normal (e7 22 x) (g7 g 22 x) 8199 := by unfold Rn; kernel_rfl
theorem n8_22 (g : Int → Int → Int) (x : Nat → Int) : Rn g 22 (k4 8) (e7 22 x) (g7 g 22 x) 8199 .normal (e8 22 x) (g8 g 22 x) 8687 := by unfold Rn; kernel_rfl
theorem n9_22 (g : Int → Int → Int) (x : Nat → Int) : Rn g 22 (k4 9) (e8 22 x) (g8 g 22 x) 8687 .normal (e9 22 x) (g8 g 22 x) 8687 := by unfold Rn; kernel_rfl
theorem n10_22 (g : Int → Int → Int) (x : Nat → Int) : Rn g 22 (k4 10) (e9 22 x) (g8 g 22 x) 8687 .normal (e10 22 x) (g8 g 22 x) 8687 := by unfold Rn; kernel_rfl
theorem n11_22 (g : Int → Int → Int) (x : Nat → Int) : Rn g 22 (k4 11) (e10 22 x) (g8 g 22 x) 8687 .normal (e10 22 x) (g8 g 22 x) 8687 := by unfold Rn; kernel_rfl
theorem n12_22 (g : Int → Int → Int) (x : Nat → Int) : xR g 22 (cRn 12 b4) (rL (e10 22 x)) (ph (g8 g 22 x)) 8687 (kOc (rT.map (fun p => p.1)) [] 10883) = tsts (yg g x) 22 := by kernel_rfl
theorem n2_23 (g : Int → Int → Int) (x : Nat → Int) : Rn g 23 (k4 2) (e2 23 (dXs 23 x)) [] 3000 .normal (e2 23 (dXs 23 x)) [] 3000 := by unfold Rn; kernel_rfl
theorem n3_23 (g : Int → Int → Int) (x : Nat → Int) : Rn g 23 (k4 3) (e2 23 (dXs 23 x)) [] 3000 .normal (e3 23 x) [] 3000 := by unfold Rn; kernel_rfl
theorem n4_23 (g : Int → Int → Int) (x : Nat → Int) : Rn g 23 (k4 4) (e3 23 x) [] 3000 .normal (e4 23 x) (g4 23 x) 3120 := by unfold Rn; kernel_rfl
theorem n5_23 (g : Int → Int → Int) (x : Nat → Int) : Rn g 23 (k4 5) (e4 23 x) (g4 23 x) 3120 .normal (e5 23 x) (g5 g 23 x) 5283 := by unfold Rn; kernel_rfl
theorem n6_23 (g : Int → Int → Int) (x : Nat → Int) : Rn g 23 (k4 6) (e5 23 x) (g5 g 23 x) 5283 .normal (e6 23 x) (g6 g 23 x) 8199 := by unfold Rn; kernel_rfl
theorem n7_23 (g : Int → Int → Int) (x : Nat → Int) : Rn g 23 (k4 7) (e6 23 x) (g6 g 23 x) 8199 .normal (e7 23 x) (g7 g 23 x) 8199 := by unfold Rn; kernel_rfl
theorem n8_23 (g : Int → Int → Int) (x : Nat → Int) : Rn g 23 (k4 8) (e7 23 x) (g7 g 23 x) 8199 .normal (e8 23 x) (g8 g 23 x) 8687 := by unfold Rn; kernel_rfl
theorem n9_23 (g : Int → Int → Int) (x : Nat → Int) : Rn g 23 (k4 9) (e8 23 x) (g8 g 23 x) 8687 .normal (e9 23 x) (g8 g 23 x) 8687 := by unfold Rn; kernel_rfl
theorem n10_23 (g : Int → Int → Int) (x : Nat → Int) : Rn g 23 (k4 10) (e9 23 x) (g8 g 23 x) 8687 .normal (e10 23 x) (g8 g 23 x) 8687 := by unfold Rn; kernel_rfl
theorem n11_23 (g : Int → Int → Int) (x : Nat → Int) : Rn g 23 (k4 11) (e10 23 x) (g8 g 23 x) 8687 .normal (e10 23 x) (g8 g 23 x) 8687 := by unfold Rn; kernel_rfl
theorem n12_23 (g : Int → Int → Int) (x : Nat → Int) : xR g 23 (cRn 12 b4) (rL (e10 23 x)) (ph (g8 g 23 x)) 8687 (kOc (rT.map (fun p => p.1)) [] 10883) = tsts (yg g x) 23 := by kernel_rfl
theorem n2_24 (g : Int → Int → Int) (x : Nat → Int) : Rn g 24 (k4 2) (e2 24 (dXs 24 x)) [] 3000 .normal (e2 24 (dXs 24 x)) [] 3000 := by unfold Rn; kernel_rfl
theorem n3_24 (g : Int → Int → Int) (x : Nat → Int) : Rn g 24 (k4 3) (e2 24 (dXs 24 x)) [] 3000 .normal (e3 24 x) [] 3000 := by unfold Rn; kernel_rfl
theorem n4_24 (g : Int → Int → Int) (x : Nat → Int) : Rn g 24 (k4 4) (e3 24 x) [] 3000 .normal (e4 24 x) (g4 24 x) 3120 := by unfold Rn; kernel_rfl
theorem n5_24 (g : Int → Int → Int) (x : Nat → Int) : Rn g 24 (k4 5) (e4 24 x) (g4 24 x) 3120 .normal (e5 24 x) (g5 g 24 x) 5283 := by unfold Rn; kernel_rfl
theorem n6_24 (g : Int → Int → Int) (x : Nat → Int) : Rn g 24 (k4 6) (e5 24 x) (g5 g 24 x) 5283 .normal (e6 24 x) (g6 g 24 x) 8199 := by unfold Rn; kernel_rfl
theorem n7_24 (g : Int → Int → Int) (x : Nat → Int) : Rn g 24 (k4 7) (e6 24 x) (g6 g 24 x) 8199 .normal (e7 24 x) (g7 g 24 x) 8199 := by unfold Rn; kernel_rfl
theorem n8_24 (g : Int → Int → Int) (x : Nat → Int) : Rn g 24 (k4 8) (e7 24 x) (g7 g 24 x) 8199 .normal (e8 24 x) (g8 g 24 x) 8687 := by unfold Rn; kernel_rfl
theorem n9_24 (g : Int → Int → Int) (x : Nat → Int) : Rn g 24 (k4 9) (e8 24 x) (g8 g 24 x) 8687 .normal (e9 24 x) (g8 g 24 x) 8687 := by unfold Rn; kernel_rfl
theorem n10_24 (g : Int → Int → Int) (x : Nat → Int) : Rn g 24 (k4 10) (e9 24 x) (g8 g 24 x) 8687 .normal (e10 24 x) (g8 g 24 x) 8687 := by unfold Rn; kernel_rfl
theorem n11_24 (g : Int → Int → Int) (x : Nat → Int) : Rn g 24 (k4 11) (e10 24 x) (g8 g 24 x) 8687 .normal (e10 24 x) (g8 g 24 x) 8687 := by unfold Rn; kernel_rfl
theorem n12_24 (g : Int → Int → Int) (x : Nat → Int) : xR g 24 (cRn 12 b4) (rL (e10 24 x)) (ph (g8 g 24 x)) 8687 (kOc (rT.map (fun p => p.1)) [] 10883) = tsts (yg g x) 24 := by kernel_rfl
theorem n2_25 (g : Int → Int → Int) (x : Nat → Int) : Rn g 25 (k4 2) (e2 25 (dXs 25 x)) [] 3000 .normal (e2 25 (dXs 25 x)) [] 3000 := by unfold Rn; kernel_rfl
theorem n3_25 (g : Int → Int → Int) (x : Nat → Int) : Rn g 25 (k4 3) (e2 25 (dXs 25 x)) [] 3000 .normal (e3 25 x) [] 3000 := by unfold Rn; kernel_rfl
theorem n4_25 (g : Int → Int → Int) (x : Nat → Int) : Rn g 25 (k4 4) (e3 25 x) [] 3000 .normal (e4 25 x) (g4 25 x) 3120 := by unfold Rn; kernel_rfl
theorem n5_25 (g : Int → Int → Int) (x : Nat → Int) : Rn g 25 (k4 5) (e4 25 x) (g4 25 x) 3120 .normal (e5 25 x) (g5 g 25 x) 5283 := by unfold Rn; kernel_rfl
theorem n6_25 (g : Int → Int → Int) (x : Nat → Int) : Rn g 25 (k4 6) (e5 25 x) (g5 g 25 x) 5283 .normal (e6 25 x) (g6 g 25 x) 8199 := by unfold Rn; kernel_rfl
theorem n7_25 (g : Int → Int → Int) (x : Nat → Int) : Rn g 25 (k4 7) (e6 25 x) (g6 g 25 x) 8199 .normal (e7 25 x) (g7 g 25 x) 8199 := by unfold Rn; kernel_rfl
theorem n8_25 (g : Int → Int → Int) (x : Nat → Int) : Rn g 25 (k4 8) (e7 25 x) (g7 g 25 x) 8199 .normal (e8 25 x) (g8 g 25 x) 8687 := by unfold Rn; kernel_rfl
theorem n9_25 (g : Int → Int → Int) (x : Nat → Int) : Rn g 25 (k4 9) (e8 25 x) (g8 g 25 x) 8687 .normal (e9 25 x) (g8 g 25 x) 8687 := by unfold Rn; kernel_rfl
theorem n10_25 (g : Int → Int → Int) (x : Nat → Int) : Rn g 25 (k4 10) (e9 25 x) (g8 g 25 x) 8687 .normal (e10 25 x) (g8 g 25 x) 8687 := by unfold Rn; kernel_rfl
theorem n11_25 (g : Int → Int → Int) (x : Nat → Int) : Rn g 25 (k4 11) (e10 25 x) (g8 g 25 x) 8687 .normal (e10 25 x) (g8 g 25 x) 8687 := by unfold Rn; kernel_rfl
theorem n12_25 (g : Int → Int → Int) (x : Nat → Int) : xR g 25 (cRn 12 b4) (rL (e10 25 x)) (ph (g8 g 25 x)) 8687 (kOc (rT.map (fun p => p.1)) [] 10883) = tsts (yg g x) 25 := by kernel_rfl
theorem n2_26 (g : Int → Int → Int) (x : Nat → Int) : Rn g 26 (k4 2) (e2 26 (dXs 26 x)) [] 3000 .normal (e2 26 (dXs 26 x)) [] 3000 := by unfold Rn; kernel_rfl
theorem n3_26 (g : Int → Int → Int) (x : Nat → Int) : Rn g 26 (k4 3) (e2 26 (dXs 26 x)) [] 3000 .normal (e3 26 x) [] 3000 := by unfold Rn; kernel_rfl
theorem n4_26 (g : Int → Int → Int) (x : Nat → Int) : Rn g 26 (k4 4) (e3 26 x) [] 3000 .normal (e4 26 x) (g4 26 x) 3120 := by unfold Rn; kernel_rfl
theorem n5_26 (g : Int → Int → Int) (x : Nat → Int) : Rn g 26 (k4 5) (e4 26 x) (g4 26 x) 3120 .normal (e5 26 x) (g5 g 26 x) 5283 := by unfold Rn; kernel_rfl
theorem n6_26 (g : Int → Int → Int) (x : Nat → Int) : Rn g 26 (k4 6) (e5 26 x) (g5 g 26 x) 5283 .normal (e6 26 x) (g6 g 26 x) 8199 := by unfold Rn; kernel_rfl
theorem n7_26 (g : Int → Int → Int) (x : Nat → Int) : Rn g 26 (k4 7) (e6 26 x) (g6 g 26 x) 8199 .normal (e7 26 x) (g7 g 26 x) 8199 := by unfold Rn; kernel_rfl
theorem n8_26 (g : Int → Int → Int) (x : Nat → Int) : Rn g 26 (k4 8) (e7 26 x) (g7 g 26 x) 8199 .normal (e8 26 x) (g8 g 26 x) 8687 := by unfold Rn; kernel_rfl
theorem n9_26 (g : Int → Int → Int) (x : Nat → Int) : Rn g 26 (k4 9) (e8 26 x) (g8 g 26 x) 8687 .normal (e9 26 x) (g8 g 26 x) 8687 := by unfold Rn; kernel_rfl
theorem n10_26 (g : Int → Int → Int) (x : Nat → Int) : Rn g 26 (k4 10) (e9 26 x) (g8 g 26 x) 8687 .normal (e10 26 x) (g8 g 26 x) 8687 := by unfold Rn; kernel_rfl
theorem n11_26 (g : Int → Int → Int) (x : Nat → Int) : Rn g 26 (k4 11) (e10 26 x) (g8 g 26 x) 8687 .normal (e10 26 x) (g8 g 26 x) 8687 := by unfold Rn; kernel_rfl
theorem n12_26 (g : Int → Int → Int) (x : Nat → Int) : xR g 26 (cRn 12 b4) (rL (e10 26 x)) (ph (g8 g 26 x)) 8687 (kOc (rT.map (fun p => p.1)) [] 10883) = tsts (yg g x) 26 := by kernel_rfl
end Go.Ex
