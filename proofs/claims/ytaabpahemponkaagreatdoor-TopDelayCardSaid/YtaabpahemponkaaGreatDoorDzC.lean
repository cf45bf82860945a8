/-
  TopDelay: its own code, for inputs of up to 16 numbers.
-/
import Derived.Test.YtaabpahemponkaaGreatDoorDyX
set_option linter.unusedVariables false
set_option linter.unusedSimpArgs false
set_option maxRecDepth 100000
namespace Go.Ex
open Go Go.Am Go.Proofs
theorem n2_0 (g : Int → Int → Int) (x : Nat → Int) : Rn g 0 (k4 2) (e2 0 (dXs 0 x)) [] 3000 .normal (e2 0 (dXs 0 x)) [] 3000 := by unfold Rn; kernel_rfl
theorem n3_0 (g : Int → Int → Int) (x : Nat → Int) : Rn g 0 (k4 3) (e2 0 (dXs 0 x)) [] 3000 .normal (e3 0 x) [] 3000 := by unfold Rn; kernel_rfl
theorem n4_0 (g : Int → Int → Int) (x : Nat → Int) : Rn g 0 (k4 4) (e3 0 x) [] 3000 .normal (e4 0 x) (g4 0 x) 3120 := by unfold Rn; kernel_rfl
theorem n5_0 (g : Int → Int → Int) (x : Nat → Int) : Rn g 0 (k4 5) (e4 0 x) (g4 0 x) 3120 .normal (e5 0 x) (g5 g 0 x) 5283 := by unfold Rn; kernel_rfl
theorem n6_0 (g : Int → Int → Int) (x : Nat → Int) : Rn g 0 (k4 6) (e5 0 x) (g5 g 0 x) 5283 .normal (e6 0 x) (g6 g 0 x) 8199 := by unfold Rn; kernel_rfl
theorem n7_0 (g : Int → Int → Int) (x : Nat → Int) : Rn g 0 (k4 7) (e6 0 x) (g6 g 0 x) 8199 .normal (e7 0 x) (g7 g 0 x) 8199 := by unfold Rn; kernel_rfl
theorem n8_0 (g : Int → Int → Int) (x : Nat → Int) : Rn g 0 (k4 8) (e7 0 x) (g7 g 0 x) 8199 .normal (e8 0 x) (g8 g 0 x) 8687 := by unfold Rn; kernel_rfl
theorem n9_0 (g : Int → Int → Int) (x : Nat → Int) : Rn g 0 (k4 9) (e8 0 x) (g8 g 0 x) 8687 .normal (e9 0 x) (g8 g 0 x) 8687 := by unfold Rn; kernel_rfl
theorem n10_0 (g : Int → Int → Int) (x : Nat → Int) : Rn g 0 (k4 10) (e9 0 x) (g8 g 0 x) 8687 .normal (e10 0 x) (g8 g 0 x) 8687 := by unfold Rn; kernel_rfl
theorem n11_0 (g : Int → Int → Int) (x : Nat → Int) : Rn g 0 (k4 11) (e10 0 x) (g8 g 0 x) 8687 .normal (e10 0 x) (g8 g 0 x) 8687 := by unfold Rn; kernel_rfl
theorem n12_0 (g : Int → Int → Int) (x : Nat → Int) : xR g 0 (cRn 12 b4) (rL (e10 0 x)) (ph (g8 g 0 x)) 8687 (kOc (rT.map (fun p => p.1)) [] 10883) = tsts (yg g x) 0 := by kernel_rfl
theorem n2_1 (g : Int → Int → Int) (x : Nat → Int) : Rn g 1 (k4 2) (e2 1 (dXs 1 x)) [] 3000 .normal (e2 1 (dXs 1 x)) [] 3000 := by unfold Rn; kernel_rfl
theorem n3_1 (g : Int → Int → Int) (x : Nat → Int) : Rn g 1 (k4 3) (e2 1 (dXs 1 x)) [] 3000 .normal (e3 1 x) [] 3000 := by unfold Rn; kernel_rfl
theorem n4_1 (g : Int → Int → Int) (x : Nat → Int) : Rn g 1 (k4 4) (e3 1 x) [] 3000 .normal (e4 1 x) (g4 1 x) 3120 := by unfold Rn; kernel_rfl
theorem n5_1 (g : Int → Int → Int) (x : Nat → Int) : Rn g 1 (k4 5) (e4 1 x) (g4 1 x) 3120 .normal (e5 1 x) (g5 g 1 x) 5283 := by unfold Rn; kernel_rfl
theorem n6_1 (g : Int → Int → Int) (x : Nat → Int) : Rn g 1 (k4 6) (e5 1 x) (g5 g 1 x) 5283 .normal (e6 1 x) (g6 g 1 x) 8199 := by unfold Rn; kernel_rfl
theorem n7_1 (g : Int → Int → Int) (x : Nat → Int) : Rn g 1 (k4 7) (e6 1 x) (g6 g 1 x) 8199 .normal (e7 1 x) (g7 g 1 x) 8199 := by unfold Rn; kernel_rfl
theorem n8_1 (g : Int → Int → Int) (x : Nat → Int) : Rn g 1 (k4 8) (e7 1 x) (g7 g 1 x) 8199 .normal (e8 1 x) (g8 g 1 x) 8687 := by unfold Rn; kernel_rfl
theorem n9_1 (g : Int → Int → Int) (x : Nat → Int) : Rn g 1 (k4 9) (e8 1 x) (g8 g 1 x) 8687 .normal (e9 1 x) (g8 g 1 x) 8687 := by unfold Rn; kernel_rfl
theorem n10_1 (g : Int → Int → Int) (x : Nat → Int) : Rn g 1 (k4 10) (e9 1 x) (g8 g 1 x) 8687 .normal (e10 1 x) (g8 g 1 x) 8687 := by unfold Rn; kernel_rfl
theorem n11_1 (g : Int → Int → Int) (x : Nat → Int) : Rn g 1 (k4 11) (e10 1 x) (g8 g 1 x) 8687 .normal (e10 1 x) (g8 g 1 x) 8687 := by unfold Rn; kernel_rfl
theorem n12_1 (g : Int → Int → Int) (x : Nat → Int) : xR g 1 (cRn 12 b4) (rL (e10 1 x)) (ph (g8 g 1 x)) 8687 (kOc (rT.map (fun p => p.1)) [] 10883) = tsts (yg g x) 1 := by kernel_rfl
theorem n2_2 (g : Int → Int → Int) (x : Nat → Int) : Rn g 2 (k4 2) (e2 2 (dXs 2 x)) [] 3000 .normal (e2 2 (dXs 2 x)) [] 3000 := by unfold Rn; kernel_rfl
theorem n3_2 (g : Int → Int → Int) (x : Nat → Int) : Rn g 2 (k4 3) (e2 2 (dXs 2 x)) [] 3000 .normal (e3 2 x) [] 3000 := by unfold Rn; kernel_rfl
theorem n4_2 (g : Int → Int → Int) (x : Nat → Int) : Rn g 2 (k4 4) (e3 2 x) [] 3000 .normal (e4 2 x) (g4 2 x) 3120 := by unfold Rn; kernel_rfl
theorem n5_2 (g : Int → Int → Int) (x : Nat → Int) : Rn g 2 (k4 5) (e4 2 x) (g4 2 x) 3120 .normal (e5 2 x) (g5 g 2 x) 5283 := by unfold Rn; kernel_rfl
theorem n6_2 (g : Int → Int → Int) (x : Nat → Int) : Rn g 2 (k4 6) (e5 2 x) (g5 g 2 x) 5283 .normal (e6 2 x) (g6 g 2 x) 8199 := by unfold Rn; kernel_rfl
theorem n7_2 (g : Int → Int → Int) (x : Nat → Int) : Rn g 2 (k4 7) (e6 2 x) (g6 g 2 x) 8199 .normal (e7 2 x) (g7 g 2 x) 8199 := by unfold Rn; kernel_rfl
theorem n8_2 (g : Int → Int → Int) (x : Nat → Int) : Rn g 2 (k4 8) (e7 2 x) (g7 g 2 x) 8199 .normal (e8 2 x) (g8 g 2 x) 8687 := by unfold Rn; kernel_rfl
theorem n9_2 (g : Int → Int → Int) (x : Nat → Int) : Rn g 2 (k4 9) (e8 2 x) (g8 g 2 x) 8687 .normal (e9 2 x) (g8 g 2 x) 8687 := by unfold Rn; kernel_rfl
theorem n10_2 (g : Int → Int → Int) (x : Nat → Int) : Rn g 2 (k4 10) (e9 2 x) (g8 g 2 x) 8687 .normal (e10 2 x) (g8 g 2 x) 8687 := by unfold Rn; kernel_rfl
theorem n11_2 (g : Int → Int → Int) (x : Nat → Int) : Rn g 2 (k4 11) (e10 2 x) (g8 g 2 x) 8687 .normal (e10 2 x) (g8 g 2 x) 8687 := by unfold Rn; kernel_rfl
theorem n12_2 (g : Int → Int → Int) (x : Nat → Int) : xR g 2 (cRn 12 b4) (rL (e10 2 x)) (ph (g8 g 2 x)) 8687 (kOc (rT.map (fun p => p.1)) [] 10883) = tsts (yg g x) 2 := by kernel_rfl
theorem n2_3 (g : Int → Int → Int) (x : Nat → Int) : Rn g 3 (k4 2) (e2 3 (dXs 3 x)) [] 3000 .normal (e2 3 (dXs 3 x)) [] 3000 := by unfold Rn; kernel_rfl
theorem n3_3 (g : Int → Int → Int) (x : Nat → Int) : Rn g 3 (k4 3) (e2 3 (dXs 3 x)) [] 3000 .normal (e3 3 x) [] 3000 := by unfold Rn; kernel_rfl
theorem n4_3 (g : Int → Int → Int) (x : Nat → Int) : Rn g 3 (k4 4) (e3 3 x) [] 3000 .normal (e4 3 x) (g4 3 x) 3120 := by unfold Rn; kernel_rfl
theorem n5_3 (g : Int → Int → Int) (x : Nat → Int) : Rn g 3 (k4 5) (e4 3 x) (g4 3 x) 3120 .normal (e5 3 x) (g5 g 3 x) 5283 := by unfold Rn; kernel_rfl
theorem n6_3 (g : Int → Int → Int) (x : Nat → Int) : Rn g 3 (k4 6) (e5 3 x) (g5 g 3 x) 5283 .normal (e6 3 x) (g6 g 3 x) 8199 := by unfold Rn; kernel_rfl
theorem n7_3 (g : Int → Int → Int) (x : Nat → Int) : Rn g 3 (k4 7) (e6 3 x) (g6 g 3 x) 8199 .normal (e7 3 x) (g7 g 3 x) 8199 := by unfold Rn; kernel_rfl
theorem n8_3 (g : Int → Int → Int) (x : Nat → Int) : Rn g 3 (k4 8) (e7 3 x) (g7 g 3 x) 8199 .normal (e8 3 x) (g8 g 3 x) 8687 := by unfold Rn; kernel_rfl
theorem n9_3 (g : Int → Int → Int) (x : Nat → Int) : Rn g 3 (k4 9) (e8 3 x) (g8 g 3 x) 8687 .normal (e9 3 x) (g8 g 3 x) 8687 := by unfold Rn; kernel_rfl
theorem n10_3 (g : Int → Int → Int) (x : Nat → Int) : Rn g 3 (k4 10) (e9 3 x) (g8 g 3 x) 8687 .normal (e10 3 x) (g8 g 3 x) 8687 := by unfold Rn; kernel_rfl
theorem n11_3 (g : Int → Int → Int) (x : Nat → Int) : Rn g 3 (k4 11) (e10 3 x) (g8 g 3 x) 8687 .normal (e10 3 x) (g8 g 3 x) 8687 := by unfold Rn; kernel_rfl
theorem n12_3 (g : Int → Int → Int) (x : Nat → Int) : xR g 3 (cRn 12 b4) (rL (e10 3 x)) (ph (g8 g 3 x)) 8687 (kOc (rT.map (fun p => p.1)) [] 10883) = tsts (yg g x) 3 := by kernel_rfl
theorem n2_4 (g : Int → Int → Int) (x : Nat → Int) : Rn g 4 (k4 2) (e2 4 (dXs 4 x)) [] 3000 .normal (e2 4 (dXs 4 x)) [] 3000 := by unfold Rn; kernel_rfl
theorem n3_4 (g : Int → Int → Int) (x : Nat → Int) : Rn g 4 (k4 3) (e2 4 (dXs 4 x)) [] 3000 .normal (e3 4 x) [] 3000 := by unfold Rn; kernel_rfl
theorem n4_4 (g : Int → Int → Int) (x : Nat → Int) : Rn g 4 (k4 4) (e3 4 x) [] 3000 .normal (e4 4 x) (g4 4 x) 3120 := by unfold Rn; kernel_rfl
theorem n5_4 (g : Int → Int → Int) (x : Nat → Int) : Rn g 4 (k4 5) (e4 4 x) (g4 4 x) 3120 .normal (e5 4 x) (g5 g 4 x) 5283 := by unfold Rn; kernel_rfl
theorem n6_4 (g : Int → Int → Int) (x : Nat → Int) : Rn g 4 (k4 6) (e5 4 x) (g5 g 4 x) 5283 .normal (e6 4 x) (g6 g 4 x) 8199 := by unfold Rn; kernel_rfl
theorem n7_4 (g : Int → Int → Int) (x : Nat → Int) : Rn g 4 (k4 7) (e6 4 x) (g6 g 4 x) 8199 .normal (e7 4 x) (g7 g 4 x) 8199 := by unfold Rn; kernel_rfl
theorem n8_4 (g : Int → Int → Int) (x : Nat → Int) : Rn g 4 (k4 8) (e7 4 x) (g7 g 4 x) 8199 .normal (e8 4 x) (g8 g 4 x) 8687 := by unfold Rn; kernel_rfl
theorem n9_4 (g : Int → Int → Int) (x : Nat → Int) : Rn g 4 (k4 9) (e8 4 x) (g8 g 4 x) 8687 .normal (e9 4 x) (g8 g 4 x) 8687 := by unfold Rn; kernel_rfl
theorem n10_4 (g : Int → Int → Int) (x : Nat → Int) : Rn g 4 (k4 10) (e9 4 x) (g8 g 4 x) 8687 .normal (e10 4 x) (g8 g 4 x) 8687 := by unfold Rn; kernel_rfl
theorem n11_4 (g : Int → Int → Int) (x : Nat → Int) : Rn g 4 (k4 11) (e10 4 x) (g8 g 4 x) 8687 .normal (e10 4 x) (g8 g 4 x) 8687 := by unfold Rn; kernel_rfl
theorem n12_4 (g : Int → Int → Int) (x : Nat → Int) : xR g 4 (cRn 12 b4) (rL (e10 4 x)) (ph (g8 g 4 x)) 8687 (kOc (rT.map (fun p => p.1)) [] 10883) = tsts (yg g x) 4 := by kernel_rfl
theorem n2_5 (g : Int → Int → Int) (x : Nat → Int) : Rn g 5 (k4 2) (e2 5 (dXs 5 x)) [] 3000 .normal (e2 5 (dXs 5 x)) [] 3000 := by unfold Rn; kernel_rfl
theorem n3_5 (g : Int → Int → Int) (x : Nat → Int) : Rn g 5 (k4 3) (e2 5 (dXs 5 x)) [] 3000 .normal (e3 5 x) [] 3000 := by unfold Rn; kernel_rfl
theorem n4_5 (g : Int → Int → Int) (x : Nat → Int) : Rn g 5 (k4 4) (e3 5 x) [] 3000 .normal (e4 5 x) (g4 5 x) 3120 := by unfold Rn; kernel_rfl
theorem n5_5 (g : Int → Int → Int) (x : Nat → Int) : Rn g 5 (k4 5) (e4 5 x) (g4 5 x) 3120 .normal (e5 5 x) (g5 g 5 x) 5283 := by unfold Rn; kernel_rfl
theorem n6_5 (g : Int → Int → Int) (x : Nat → Int) : Rn g 5 (k4 6) (e5 5 x) (g5 g 5 x) 5283 .normal (e6 5 x) (g6 g 5 x) 8199 := by unfold Rn; kernel_rfl
theorem n7_5 (g : Int → Int → Int) (x : Nat → Int) : Rn g 5 (k4 7) (e6 5 x) (g6 g 5 x) 8199 .normal (e7 5 x) (g7 g 5 x) 8199 := by unfold Rn; kernel_rfl
theorem n8_5 (g : Int → Int → Int) (x : Nat → Int) : Rn g 5 (k4 8) (e7 5 x) (g7 g 5 x) 8199 .normal (e8 5 x) (g8 g 5 x) 8687 := by unfold Rn; kernel_rfl
theorem n9_5 (g : Int → Int → Int) (x : Nat → Int) : Rn g 5 (k4 9) (e8 5 x) (g8 g 5 x) 8687 .normal (e9 5 x) (g8 g 5 x) 8687 := by unfold Rn; kernel_rfl
theorem n10_5 (g : Int → Int → Int) (x : Nat → Int) : Rn g 5 (k4 10) (e9 5 x) (g8 g 5 x) 8687 .normal (e10 5 x) (g8 g 5 x) 8687 := by unfold Rn; kernel_rfl
theorem n11_5 (g : Int → Int → Int) (x : Nat → Int) : Rn g 5 (k4 11) (e10 5 x) (g8 g 5 x) 8687 .normal (e10 5 x) (g8 g 5 x) 8687 := by unfold Rn; kernel_rfl
theorem n12_5 (g : Int → Int → Int) (x : Nat → Int) : xR g 5 (cRn 12 b4) (rL (e10 5 x)) (ph (g8 g 5 x)) 8687 (kOc (rT.map (fun p => p.1)) [] 10883) = tsts (yg g x) 5 := by kernel_rfl
theorem n2_6 (g : Int → Int → Int) (x : Nat → Int) : Rn g 6 (k4 2) (e2 6 (dXs 6 x)) [] 3000 .normal (e2 6 (dXs 6 x)) [] 3000 := by unfold Rn; kernel_rfl
theorem n3_6 (g : Int → Int → Int) (x : Nat → Int) : Rn g 6 (k4 3) (e2 6 (dXs 6 x)) [] 3000 .normal (e3 6 x) [] 3000 := by unfold Rn; kernel_rfl
theorem n4_6 (g : Int → Int → Int) (x : Nat → Int) : Rn g 6 (k4 4) (e3 6 x) [] 3000 .normal (e4 6 x) (g4 6 x) 3120 := by unfold Rn; kernel_rfl
theorem n5_6 (g : Int → Int → Int) (x : Nat → Int) : Rn g 6 (k4 5) (e4 6 x) (g4 6 x) 3120 .normal (e5 6 x) (g5 g 6 x) 5283 := by unfold Rn; kernel_rfl
theorem n6_6 (g : Int → Int → Int) (x : Nat → Int) : Rn g 6 (k4 6) (e5 6 x) (g5 g 6 x) 5283 .normal (e6 6 x) (g6 g 6 x) 8199 := by unfold Rn; kernel_rfl
theorem n7_6 (g : Int → Int → Int) (x : Nat → Int) : Rn g 6 (k4 7) (e6 6 x) (g6 g 6 x) 8199 .normal (e7 6 x) (g7 g 6 x) 8199 := by unfold Rn; kernel_rfl
theorem n8_6 (g : Int → Int → Int) (x : Nat → Int) : Rn g 6 (k4 8) (e7 6 x) (g7 g 6 x) 8199 .normal (e8 6 x) (g8 g 6 x) 8687 := by unfold Rn; kernel_rfl
theorem n9_6 (g : Int → Int → Int) (x : Nat → Int) : Rn g 6 (k4 9) (e8 6 x) (g8 g 6 x) 8687 .normal (e9 6 x) (g8 g 6 x) 8687 := by unfold Rn; kernel_rfl
theorem n10_6 (g : Int → Int → Int) (x : Nat → Int) : Rn g 6 (k4 10) (e9 6 x) (g8 g 6 x) 8687 .normal (e10 6 x) (g8 g 6 x) 8687 := by unfold Rn; kernel_rfl
theorem n11_6 (g : Int → Int → Int) (x : Nat → Int) : Rn g 6 (k4 11) (e10 6 x) (g8 g 6 x) 8687 .normal (e10 6 x) (g8 g 6 x) 8687 := by unfold Rn; kernel_rfl
theorem n12_6 (g : Int → Int → Int) (x : Nat → Int) : xR g 6 (cRn 12 b4) (rL (e10 6 x)) (ph (g8 g 6 x)) 8687 (kOc (rT.map (fun p => p.1)) [] 10883) = tsts (yg g x) 6 := by kernel_rfl
theorem n2_7 (g : Int → Int → Int) (x : Nat → Int) : Rn g 7 (k4 2) (e2 7 (dXs 7 x)) [] 3000 .normal (e2 7 (dXs 7 x)) [] 3000 := by unfold Rn; kernel_rfl
theorem n3_7 (g : Int → Int → Int) (x : Nat → Int) : Rn g 7 (k4 3) (e2 7 (dXs 7 x)) [] 3000 .normal (e3 7 x) [] 3000 := by unfold Rn; kernel_rfl
theorem n4_7 (g : Int → Int → Int) (x : Nat → Int) : Rn g 7 (k4 4) (e3 7 x) [] 3000 .normal (e4 7 x) (g4 7 x) 3120 := by unfold Rn; kernel_rfl
theorem n5_7 (g : Int → Int → Int) (x : Nat → Int) : Rn g 7 (k4 5) (e4 7 x) (g4 7 x) 3120 .normal (e5 7 x) (g5 g 7 x) 5283 := by unfold Rn; kernel_rfl
theorem n6_7 (g : Int → Int → Int) (x : Nat → Int) : Rn g 7 (k4 6) (e5 7 x) (g5 g 7 x) 5283 .normal (e6 7 x) (g6 g 7 x) 8199 := by unfold Rn; kernel_rfl
theorem n7_7 (g : Int → Int → Int) (x : Nat → Int) : Rn g 7 (k4 7) (e6 7 x) (g6 g 7 x) 8199 .normal (e7 7 x) (g7 g 7 x) 8199 := by unfold Rn; kernel_rfl
theorem n8_7 (g : Int → Int → Int) (x : Nat → Int) : Rn g 7 (k4 8) (e7 7 x) (g7 g 7 x) 8199 .normal (e8 7 x) (g8 g 7 x) 8687 := by unfold Rn; kernel_rfl
theorem n9_7 (g : Int → Int → Int) (x : Nat → Int) : Rn g 7 (k4 9) (e8 7 x) (g8 g 7 x) 8687 .normal (e9 7 x) (g8 g 7 x) 8687 := by unfold Rn; kernel_rfl
theorem n10_7 (g : Int → Int → Int) (x : Nat → Int) : Rn g 7 (k4 10) (e9 7 x) (g8 g 7 x) 8687 .normal (e10 7 x) (g8 g 7 x) 8687 := by unfold Rn; kernel_rfl
theorem n11_7 (g : Int → Int → Int) (x : Nat → Int) : Rn g 7 (k4 11) (e10 7 x) (g8 g 7 x) 8687 .normal (e10 7 x) (g8 g 7 x) 8687 := by unfold Rn; kernel_rfl
theorem n12_7 (g : Int → Int → Int) (x : Nat → Int) : xR g 7 (cRn 12 b4) (rL (e10 7 x)) (ph (g8 g 7 x)) 8687 (kOc (rT.map (fun p => p.1)) [] 10883) = tsts (yg g x) 7 := by kernel_rfl
theorem n2_8 (g : Int → Int → Int) (x : Nat → Int) : Rn g 8 (k4 2) (e2 8 (dXs 8 x)) [] 3000 .normal (e2 8 (dXs 8 x)) [] 3000 := by unfold Rn; kernel_rfl
theorem n3_8 (g : Int → Int → Int) (x : Nat → Int) : Rn g 8 (k4 3) (e2 8 (dXs 8 x)) [] 3000 .normal (e3 8 x) [] 3000 := by unfold Rn; kernel_rfl
theorem n4_8 (g : Int → Int → Int) (x : Nat → Int) : Rn g 8 (k4 4) (e3 8 x) [] 3000 .normal (e4 8 x) (g4 8 x) 3120 := by unfold Rn; kernel_rfl
theorem n5_8 (g : Int → Int → Int) (x : Nat → Int) : Rn g 8 (k4 5) (e4 8 x) (g4 8 x) 3120 .normal (e5 8 x) (g5 g 8 x) 5283 := by unfold Rn; kernel_rfl
theorem n6_8 (g : Int → Int → Int) (x : Nat → Int) : Rn g 8 (k4 6) (e5 8 x) (g5 g 8 x) 5283 .normal (e6 8 x) (g6 g 8 x) 8199 := by unfold Rn; kernel_rfl
theorem n7_8 (g : Int → Int → Int) (x : Nat → Int) : Rn g 8 (k4 7) (e6 8 x) (g6 g 8 x) 8199 .normal (e7 8 x) (g7 g 8 x) 8199 := by unfold Rn; kernel_rfl
theorem n8_8 (g : Int → Int → Int) (x : Nat → Int) : Rn g 8 (k4 8) (e7 8 x) (g7 g 8 x) 8199 .normal (e8 8 x) (g8 g 8 x) 8687 := by unfold Rn; kernel_rfl
theorem n9_8 (g : Int → Int → Int) (x : Nat → Int) : Rn g 8 (k4 9) (e8 8 x) (g8 g 8 x) 8687 .normal (e9 8 x) (g8 g 8 x) 8687 := by unfold Rn; kernel_rfl
theorem n10_8 (g : Int → Int → Int) (x : Nat → Int) : Rn g 8 (k4 10) (e9 8 x) (g8 g 8 x) 8687 .normal (e10 8 x) (g8 g 8 x) 8687 := by unfold Rn; kernel_rfl
theorem n11_8 (g : Int → Int → Int) (x : Nat → Int) : Rn g 8 (k4 11) (e10 8 x) (g8 g 8 x) 8687 .normal (e10 8 x) (g8 g 8 x) 8687 := by unfold Rn; kernel_rfl
theorem n12_8 (g : Int → Int → Int) (x : Nat → Int) : xR g 8 (cRn 12 b4) (rL (e10 8 x)) (ph (g8 g 8 x)) 8687 (kOc (rT.map (fun p => p.1)) [] 10883) = tsts (yg g x) 8 := by kernel_rfl
theorem n2_9 (g : Int → Int → Int) (x : Nat → Int) : Rn g 9 (k4 2) (e2 9 (dXs 9 x)) [] 3000 .normal (e2 9 (dXs 9 x)) [] 3000 := by unfold Rn; kernel_rfl
theorem n3_9 (g : Int → Int → Int) (x : Nat → Int) : Rn g 9 (k4 3) (e2 9 (dXs 9 x)) [] 3000 .normal (e3 9 x) [] 3000 := by unfold Rn; kernel_rfl
theorem n4_9 (g : Int → Int → Int) (x : Nat → Int) : Rn g 9 (k4 4) (e3 9 x) [] 3000 .normal (e4 9 x) (g4 9 x) 3120 := by unfold Rn; kernel_rfl
theorem n5_9 (g : Int → Int → Int) (x : Nat → Int) : Rn g 9 (k4 5) (e4 9 x) (g4 9 x) 3120 .normal (e5 9 x) (g5 g 9 x) 5283 := by unfold Rn; kernel_rfl
theorem n6_9 (g : Int → Int → Int) (x : Nat → Int) : Rn g 9 (k4 6) (e5 9 x) (g5 g 9 x) 5283 .normal (e6 9 x) (g6 g 9 x) 8199 := by unfold Rn; kernel_rfl
theorem n7_9 (g : Int → Int → Int) (x : Nat → Int) : Rn g 9 (k4 7) (e6 9 x) (g6 g 9 x) 8199 .normal (e7 9 x) (g7 g 9 x) 8199 := by unfold Rn; kernel_rfl
theorem n8_9 (g : Int → Int → Int) (x : Nat → Int) : Rn g 9 (k4 8) (e7 9 x) (g7 g 9 x) 8199 .normal (e8 9 x) (g8 g 9 x) 8687 := by unfold Rn; kernel_rfl
theorem n9_9 (g : Int → Int → Int) (x : Nat → Int) : Rn g 9 (k4 9) (e8 9 x) (g8 g 9 x) 8687 .normal (e9 9 x) (g8 g 9 x) 8687 := by unfold Rn; kernel_rfl
theorem n10_9 (g : Int → Int → Int) (x : Nat → Int) : Rn g 9 (k4 10) (e9 9 x) (g8 g 9 x) 8687 .normal (e10 9 x) (g8 g 9 x) 8687 := by unfold Rn; kernel_rfl
theorem n11_9 (g : Int → Int → Int) (x : Nat → Int) : Rn g 9 (k4 11) (e10 9 x) (g8 g 9 x) 8687 .normal (e10 9 x) (g8 g 9 x) 8687 := by unfold Rn; kernel_rfl
theorem n12_9 (g : Int → Int → Int) (x : Nat → Int) : xR g 9 (cRn 12 b4) (rL (e10 9 x)) (ph (g8 g 9 x)) 8687 (kOc (rT.map (fun p => p.1)) [] 10883) = tsts (yg g x) 9 := by kernel_rfl
theorem n2_10 (g : Int → Int → Int) (x : Nat → Int) : Rn g 10 (k4 2) (e2 10 (dXs 10 x)) [] 3000 .normal (e2 10 (dXs 10 x)) [] 3000 := by unfold Rn; kernel_rfl
theorem n3_10 (g : Int → Int → Int) (x : Nat → Int) : Rn g 10 (k4 3) (e2 10 (dXs 10 x)) [] 3000 .normal (e3 10 x) [] 3000 := by unfold Rn; kernel_rfl
theorem n4_10 (g : Int → Int → Int) (x : Nat → Int) : Rn g 10 (k4 4) (e3 10 x) [] 3000 .normal (e4 10 x) (g4 10 x) 3120 := by unfold Rn; kernel_rfl
theorem n5_10 (g : Int → Int → Int) (x : Nat → Int) : Rn g 10 (k4 5) (e4 10 x) (g4 10 x) 3120 .normal (e5 10 x) (g5 g 10 x) 5283 := by unfold Rn; kernel_rfl
theorem n6_10 (g : Int → Int → Int) (x : Nat → Int) : Rn g 10 (k4 6) (e5 10 x) (g5 g 10 x) 5283 .normal (e6 10 x) (g6 g 10 x) 8199 := by unfold Rn; kernel_rfl
theorem n7_10 (g : Int → Int → Int) (x : Nat → Int) : Rn g 10 (k4 7) (e6 10 x) (g6 g 10 x) 8199 .normal (e7 10 x) (g7 g 10 x) 8199 := by unfold Rn; kernel_rfl
theorem n8_10 (g : Int → Int → Int) (x : Nat → Int) : Rn g 10 (k4 8) (e7 10 x) (g7 g 10 x) 8199 .normal (e8 10 x) (g8 g 10 x) 8687 := by unfold Rn; kernel_rfl
theorem n9_10 (g : Int → Int → Int) (x : Nat → Int) : Rn g 10 (k4 9) (e8 10 x) (g8 g 10 x) 8687 .normal (e9 10 x) (g8 g 10 x) 8687 := by unfold Rn; kernel_rfl
theorem n10_10 (g : Int → Int → Int) (x : Nat → Int) : Rn g 10 (k4 10) (e9 10 x) (g8 g 10 x) 8687 .normal (e10 10 x) (g8 g 10 x) 8687 := by unfold Rn; kernel_rfl
theorem n11_10 (g : Int → Int → Int) (x : Nat → Int) : Rn g 10 (k4 11) (e10 10 x) (g8 g 10 x) 8687 .normal (e10 10 x) (g8 g 10 x) 8687 := by unfold Rn; kernel_rfl
theorem n12_10 (g : Int → Int → Int) (x : Nat → Int) : xR g 10 (cRn 12 b4) (rL (e10 10 x)) (ph (g8 g 10 x)) 8687 (kOc (rT.map (fun p => p.1)) [] 10883) = tsts (yg g x) 10 := by kernel_rfl
theorem n2_11 (g : Int → Int → Int) (x : Nat → Int) : Rn g 11 (k4 2) (e2 11 (dXs 11 x)) [] 3000 .normal (e2 11 (dXs 11 x)) [] 3000 := by unfold Rn; kernel_rfl
theorem n3_11 (g : Int → Int → Int) (x : Nat → Int) : Rn g 11 (k4 3) (e2 11 (dXs 11 x)) [] 3000 .normal (e3 11 x) [] 3000 := by unfold Rn; kernel_rfl
theorem n4_11 (g : Int → Int → Int) (x : Nat → Int) : Rn g 11 (k4 4) (e3 11 x) [] 3000 .normal (e4 11 x) (g4 11 x) 3120 := by unfold Rn; kernel_rfl
theorem n5_11 (g : Int → Int → Int) (x : Nat → Int) : Rn g 11 (k4 5) (e4 11 x) (g4 11 x) 3120 .normal (e5 11 x) (g5 g 11 x) 5283 := by unfold Rn; kernel_rfl
theorem n6_11 (g : Int → Int → Int) (x : Nat → Int) : Rn g 11 (k4 6) (e5 11 x) (g5 g 11 x) 5283 .normal (e6 11 x) (g6 g 11 x) 8199 := by unfold Rn; kernel_rfl
theorem n7_11 (g : Int → Int → Int) (x : Nat → Int) : Rn g 11 (k4 7) (e6 11 x) (g6 g 11 x) 8199 .normal (e7 11 x) (g7 g 11 x) 8199 := by unfold Rn; kernel_rfl
theorem n8_11 (g : Int → Int → Int) (x : Nat → Int) : Rn g 11 (k4 8) (e7 11 x) (g7 g 11 x) 8199 .normal (e8 11 x) (g8 g 11 x) 8687 := by unfold Rn; kernel_rfl
theorem n9_11 (g : Int → Int → Int) (x : Nat → Int) : Rn g 11 (k4 9) (e8 11 x) (g8 g 11 x) 8687 .normal (e9 11 x) (g8 g 11 x) 8687 := by unfold Rn; kernel_rfl
theorem n10_11 (g : Int → Int → Int) (x : Nat → Int) : Rn g 11 (k4 10) (e9 11 x) (g8 g 11 x) 8687 .normal (e10 11 x) (g8 g 11 x) 8687 := by unfold Rn; kernel_rfl
theorem n11_11 (g : Int → Int → Int) (x : Nat → Int) : Rn g 11 (k4 11) (e10 11 x) (g8 g 11 x) 8687 .normal (e10 11 x) (g8 g 11 x) 8687 := by unfold Rn; kernel_rfl
theorem n12_11 (g : Int → Int → Int) (x : Nat → Int) : xR g 11 (cRn 12 b4) (rL (e10 11 x)) (ph (g8 g 11 x)) 8687 (kOc (rT.map (fun p => p.1)) [] 10883) = tsts (yg g x) 11 := by kernel_rfl
theorem n2_12 (g : Int → Int → Int) (x : Nat → Int) : Rn g 12 (k4 2) (e2 12 (dXs 12 x)) [] 3000 .normal (e2 12 (dXs 12 x)) [] 3000 := by unfold Rn; kernel_rfl
theorem n3_12 (g : Int → Int → Int) (x : Nat → Int) : Rn g 12 (k4 3) (e2 12 (dXs 12 x)) [] 3000 .normal (e3 12 x) [] 3000 := by unfold Rn; kernel_rfl
theorem n4_12 (g : Int → Int → Int) (x : Nat → Int) : Rn g 12 (k4 4) (e3 12 x) [] 3000 .normal (e4 12 x) (g4 12 x) 3120 := by unfold Rn; kernel_rfl
theorem n5_12 (g : Int → Int → Int) (x : Nat → Int) : Rn g 12 (k4 5) (e4 12 x) (g4 12 x) 3120 .normal (e5 12 x) (g5 g 12 x) 5283 := by unfold Rn; kernel_rfl
theorem n6_12 (g : Int → Int → Int) (x : Nat → Int) : Rn g 12 (k4 6) (e5 12 x) (g5 g 12 x) 5283 .normal (e6 12 x) (g6 g 12 x) 8199 := by unfold Rn; kernel_rfl
theorem n7_12 (g : Int → Int → Int) (x : Nat → Int) : Rn g 12 (k4 7) (e6 12 x) (g6 g 12 x) 8199 .normal (e7 12 x) (g7 g 12 x) 8199 := by unfold Rn; kernel_rfl
theorem n8_12 (g : Int → Int → Int) (x : Nat → Int) : Rn g 12 (k4 8) (e7 12 x) (g7 g 12 x) 8199 .normal (e8 12 x) (g8 g 12 x) 8687 := by unfold Rn; kernel_rfl
theorem n9_12 (g : Int → Int → Int) (x : Nat → Int) : Rn g 12 (k4 9) (e8 12 x) (g8 g 12 x) 8687 .normal (e9 12 x) (g8 g 12 x) 8687 := by unfold Rn; kernel_rfl
theorem n10_12 (g : Int → Int → Int) (x : Nat → Int) : Rn g 12 (k4 10) (e9 12 x) (g8 g 12 x) 8687 .normal (e10 12 x) (g8 g 12 x) 8687 := by unfold Rn; kernel_rfl
theorem n11_12 (g : Int → Int → Int) (x : Nat → Int) : Rn g 12 (k4 11) (e10 12 x) (g8 g 12 x) 8687 .normal (e10 12 x) (g8 g 12 x) 8687 := by unfold Rn; kernel_rfl
theorem n12_12 (g : Int → Int → Int) (x : Nat → Int) : xR g 12 (cRn 12 b4) (rL (e10 12 x)) (ph (g8 g 12 x)) 8687 (kOc (rT.map (fun p => p.1)) [] 10883) = tsts (yg g x) 12 := by kernel_rfl
theorem n2_13 (g : Int → Int → Int) (x : Nat → Int) : Rn g 13 (k4 2) (e2 13 (dXs 13 x)) [] 3000 .normal (e2 13 (dXs 13 x)) [] 3000 := by unfold Rn; kernel_rfl
theorem n3_13 (g : Int → Int → Int) (x : Nat → Int) : Rn g 13 (k4 3) (e2 13 (dXs 13 x)) [] 3000 .normal (e3 13 x) [] 3000 := by unfold Rn; kernel_rfl
theorem n4_13 (g : Int → Int → Int) (x : Nat → Int) : Rn g 13 (k4 4) (e3 13 x) [] 3000 .normal (e4 13 x) (g4 13 x) 3120 := by unfold Rn; kernel_rfl
theorem n5_13 (g : Int → Int → Int) (x : Nat → Int) : Rn g 13 (k4 5) (e4 13 x) (g4 13 x) 3120 .normal (e5 13 x) (g5 g 13 x) 5283 := by unfold Rn; kernel_rfl
theorem n6_13 (g : Int → Int → Int) (x : Nat → Int) : Rn g 13 (k4 6) (e5 13 x) (g5 g 13 x) 5283 .normal (e6 13 x) (g6 g 13 x) 8199 := by unfold Rn; kernel_rfl
theorem n7_13 (g : Int → Int → Int) (x : Nat → Int) : Rn g 13 (k4 7) (e6 13 x) (g6 g 13 x) 8199 .normal (e7 13 x) (g7 g 13 x) 8199 := by unfold Rn; kernel_rfl
theorem n8_13 (g : Int → Int → Int) (x : Nat → Int) : Rn g 13 (k4 8) (e7 13 x) (g7 g 13 x) 8199 .normal (e8 13 x) (g8 g 13 x) 8687 := by unfold Rn; kernel_rfl
theorem n9_13 (g : Int → Int → Int) (x : Nat → Int) : Rn g 13 (k4 9) (e8 13 x) (g8 g 13 x) 8687 .normal (e9 13 x) (g8 g 13 x) 8687 := by unfold Rn; kernel_rfl
theorem n10_13 (g : Int → Int → Int) (x : Nat → Int) : Rn g 13 (k4 10) (e9 13 x) (g8 g 13 x) 8687 .normal (e10 13 x) (g8 g 13 x) 8687 := by unfold Rn; kernel_rfl
theorem n11_13 (g : Int → Int → Int) (x : Nat → Int) : Rn g 13 (k4 11) (e10 13 x) (g8 g 13 x) 8687 .normal (e10 13 x) (g8 g 13 x) 8687 := by unfold Rn; kernel_rfl
theorem n12_13 (g : Int → Int → Int) (x : Nat → Int) : xR g 13 (cRn 12 b4) (rL (e10 13 x)) (ph (g8 g 13 x)) 8687 (kOc (rT.map (fun p => p.1)) [] 10883) = tsts (yg g x) 13 := by kernel_rfl
theorem n2_14 (g : Int → Int → Int) (x : Nat → Int) : Rn g 14 (k4 2) (e2 14 (dXs 14 x)) [] 3000 .normal (e2 14 (dXs 14 x)) [] 3000 := by unfold Rn; kernel_rfl
theorem n3_14 (g : Int → Int → Int) (x : Nat → Int) : Rn g 14 (k4 3) (e2 14 (dXs 14 x)) [] 3000 .normal (e3 14 x) [] 3000 := by unfold Rn; kernel_rfl
theorem n4_14 (g : Int → Int → Int) (x : Nat → Int) : Rn g 14 (k4 4) (e3 14 x) [] 3000 .normal (e4 14 x) (g4 14 x) 3120 := by unfold Rn; kernel_rfl
theorem n5_14 (g : Int → Int → Int) (x : Nat → Int) : Rn g 14 (k4 5) (e4 14 x) (g4 14 x) 3120 .normal (e5 14 x) (g5 g 14 x) 5283 := by unfold Rn; kernel_rfl
theorem n6_14 (g : Int → Int → Int) (x : Nat → Int) : Rn g 14 (k4 6) (e5 14 x) (g5 g 14 x) 5283 .normal (e6 14 x) (g6 g 14 x) 8199 := by unfold Rn; kernel_rfl
theorem n7_14 (g : Int → Int → Int) (x : Nat → Int) : Rn g 14 (k4 7) (e6 14 x) (g6 g 14 x) 8199 .normal (e7 14 x) (g7 g 14 x) 8199 := by unfold Rn; kernel_rfl
theorem n8_14 (g : Int → Int → Int) (x : Nat → Int) : Rn g 14 (k4 8) (e7 14 x) (g7 g 14 x) 8199 .normal (e8 14 x) (g8 g 14 x) 8687 := by unfold Rn; kernel_rfl
theorem n9_14 (g : Int → Int → Int) (x : Nat → Int) : Rn g 14 (k4 9) (e8 14 x) (g8 g 14 x) 8687 .normal (e9 14 x) (g8 g 14 x) 8687 := by unfold Rn; kernel_rfl
theorem n10_14 (g : Int → Int → Int) (x : Nat → Int) : Rn g 14 (k4 10) (e9 14 x) (g8 g 14 x) 8687 .normal (e10 14 x) (g8 g 14 x) 8687 := by unfold Rn; kernel_rfl
theorem n11_14 (g : Int → Int → Int) (x : Nat → Int) : Rn g 14 (k4 11) (e10 14 x) (g8 g 14 x) 8687 .normal (e10 14 x) (g8 g 14 x) 8687 := by unfold Rn; kernel_rfl
theorem n12_14 (g : Int → Int → Int) (x : Nat → Int) : xR g 14 (cRn 12 b4) (rL (e10 14 x)) (ph (g8 g 14 x)) 8687 (kOc (rT.map (fun p => p.1)) [] 10883) = tsts (yg g x) 14 := by kernel_rfl
theorem n2_15 (g : Int → Int → Int) (x : Nat → Int) : Rn g 15 (k4 2) (e2 15 (dXs 15 x)) [] 3000 .normal (e2 15 (dXs 15 x)) [] 3000 := by unfold Rn; kernel_rfl
theorem n3_15 (g : Int → Int → Int) (x : Nat → Int) : Rn g 15 (k4 3) (e2 15 (dXs 15 x)) [] 3000 .normal (e3 15 x) [] 3000 := by unfold Rn; kernel_rfl
theorem n4_15 (g : Int → Int → Int) (x : Nat → Int) : Rn g 15 (k4 4) (e3 15 x) [] 3000 .normal (e4 15 x) (g4 15 x) 3120 := by unfold Rn; kernel_rfl
theorem n5_15 (g : Int → Int → Int) (x : Nat → Int) : Rn g 15 (k4 5) (e4 15 x) (g4 15 x) 3120 .normal (e5 15 x) (g5 g 15 x) 5283 := by unfold Rn; kernel_rfl
theorem n6_15 (g : Int → Int → Int) (x : Nat → Int) : Rn g 15 (k4 6) (e5 15 x) (g5 g 15 x) 5283 .normal (e6 15 x) (g6 g 15 x) 8199 := by unfold Rn; kernel_rfl
theorem n7_15 (g : Int → Int → Int) (x : Nat → Int) : Rn g 15 (k4 7) (e6 15 x) (g6 g 15 x) 8199 .normal (e7 15 x) (g7 g 15 x) 8199 := by unfold Rn; kernel_rfl
theorem n8_15 (g : Int → Int → Int) (x : Nat → Int) : Rn g 15 (k4 8) (e7 15 x) (g7 g 15 x) 8199 .normal (e8 15 x) (g8 g 15 x) 8687 := by unfold Rn; kernel_rfl
theorem n9_15 (g : Int → Int → Int) (x : Nat → Int) : Rn g 15 (k4 9) (e8 15 x) (g8 g 15 x) 8687 .normal (e9 15 x) (g8 g 15 x) 8687 := by unfold Rn; kernel_rfl
theorem n10_15 (g : Int → Int → Int) (x : Nat → Int) : Rn g 15 (k4 10) (e9 15 x) (g8 g 15 x) 8687 .normal (e10 15 x) (g8 g 15 x) 8687 := by unfold Rn; kernel_rfl
theorem n11_15 (g : Int → Int → Int) (x : Nat → Int) : Rn g 15 (k4 11) (e10 15 x) (g8 g 15 x) 8687 .normal (e10 15 x) (g8 g 15 x) 8687 := by unfold Rn; kernel_rfl
theorem n12_15 (g : Int → Int → Int) (x : Nat → Int) : xR g 15 (cRn 12 b4) (rL (e10 15 x)) (ph (g8 g 15 x)) 8687 (kOc (rT.map (fun p => p.1)) [] 10883) = tsts (yg g x) 15 := by kernel_rfl
theorem n2_16 (g : Int → Int → Int) (x : Nat → Int) : Rn g 16 (k4 2) (e2 16 (dXs 16 x)) [] 3000 .normal (e2 16 (dXs 16 x)) [] 3000 := by unfold Rn; kernel_rfl
theorem n3_16 (g : Int → Int → Int) (x : Nat → Int) : Rn g 16 (k4 3) (e2 16 (dXs 16 x)) [] 3000 .normal (e3 16 x) [] 3000 := by unfold Rn; kernel_rfl
theorem n4_16 (g : Int → Int → Int) (x : Nat → Int) : Rn g 16 (k4 4) (e3 16 x) [] 3000 .normal (e4 16 x) (g4 16 x) 3120 := by unfold Rn; kernel_rfl
theorem n5_16 (g : Int → Int → Int) (x : Nat → Int) : Rn g 16 (k4 5) (e4 16 x) (g4 16 x) 3120 .normal (e5 16 x) (g5 g 16 x) 5283 := by unfold Rn; kernel_rfl
theorem n6_16 (g : Int → Int → Int) (x : Nat → Int) : Rn g 16 (k4 6) (e5 16 x) (g5 g 16 x) 5283 .normal (e6 16 x) (g6 g 16 x) 8199 := by unfold Rn; kernel_rfl
theorem n7_16 (g : Int → Int → Int) (x : Nat → Int) : Rn g 16 (k4 7) (e6 16 x) (g6 g 16 x) 8199 .normal (e7 16 x) (g7 g 16 x) 8199 := by unfold Rn; kernel_rfl
theorem n8_16 (g : Int → Int → Int) (x : Nat → Int) : Rn g 16 (k4 8) (e7 16 x) (g7 g 16 x) 8199 .normal (e8 16 x) (g8 g 16 x) 8687 := by unfold Rn; kernel_rfl
theorem n9_16 (g : Int → Int → Int) (x : Nat → Int) : Rn g 16 (k4 9) (e8 16 x) (g8 g 16 x) 8687 .normal (e9 16 x) (g8 g 16 x) 8687 := by unfold Rn; kernel_rfl
theorem n10_16 (g : Int → Int → Int) (x : Nat → Int) : Rn g 16 (k4 10) (e9 16 x) (g8 g 16 x) 8687 .normal (e10 16 x) (g8 g 16 x) 8687 := by unfold Rn; kernel_rfl
theorem n11_16 (g : Int → Int → Int) (x : Nat → Int) : Rn g 16 (k4 11) (e10 16 x) (g8 g 16 x) 8687 .normal (e10 16 x) (g8 g 16 x) 8687 := by unfold Rn; kernel_rfl
theorem n12_16 (g : Int → Int → Int) (x : Nat → Int) : xR g 16 (cRn 12 b4) (rL (e10 16 x)) (ph (g8 g 16 x)) 8687 (kOc (rT.map (fun p => p.1)) [] 10883) = tsts (yg g x) 16 := by kernel_rfl
end Go.Ex
