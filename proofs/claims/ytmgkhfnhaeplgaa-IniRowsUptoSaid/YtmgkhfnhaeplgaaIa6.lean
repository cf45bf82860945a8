import Derived.Test.YtmgkhfnhaeplgaaIa3
namespace Go.Proofs.Ytmgkhfnhaeplgaa
open Go
set_option linter.unusedSimpArgs false
set_option linter.unusedVariables false
set_option maxRecDepth 20000
set_option maxHeartbeats 8000000

/-! The rows by kernel evaluation, one by one (so that the kernel lets its memory go). -/
theorem row_17_0_true : rowOk 17 0 true = true := by decide +kernel
theorem row_17_1_true : rowOk 17 1 true = true := by decide +kernel
theorem row_17_2_true : rowOk 17 2 true = true := by decide +kernel
theorem row_17_3_true : rowOk 17 3 true = true := by decide +kernel
theorem row_17_4_true : rowOk 17 4 true = true := by decide +kernel
theorem row_17_5_true : rowOk 17 5 true = true := by decide +kernel
theorem row_17_6_true : rowOk 17 6 true = true := by decide +kernel
theorem row_17_7_true : rowOk 17 7 true = true := by decide +kernel
theorem row_17_8_true : rowOk 17 8 true = true := by decide +kernel
theorem row_17_9_true : rowOk 17 9 true = true := by decide +kernel
theorem row_17_10_true : rowOk 17 10 true = true := by decide +kernel
theorem row_17_11_true : rowOk 17 11 true = true := by decide +kernel
theorem row_17_12_true : rowOk 17 12 true = true := by decide +kernel
theorem row_17_13_true : rowOk 17 13 true = true := by decide +kernel
theorem row_17_14_true : rowOk 17 14 true = true := by decide +kernel
theorem row_17_15_true : rowOk 17 15 true = true := by decide +kernel
theorem row_17_16_true : rowOk 17 16 true = true := by decide +kernel
theorem rows_17_true : ∀ a, a < 17 → rowOk 17 a true = true
  | 0, _ => row_17_0_true
  | 1, _ => row_17_1_true
  | 2, _ => row_17_2_true
  | 3, _ => row_17_3_true
  | 4, _ => row_17_4_true
  | 5, _ => row_17_5_true
  | 6, _ => row_17_6_true
  | 7, _ => row_17_7_true
  | 8, _ => row_17_8_true
  | 9, _ => row_17_9_true
  | 10, _ => row_17_10_true
  | 11, _ => row_17_11_true
  | 12, _ => row_17_12_true
  | 13, _ => row_17_13_true
  | 14, _ => row_17_14_true
  | 15, _ => row_17_15_true
  | 16, _ => row_17_16_true
  | a + 17, h => absurd h (by omega)
theorem row_17_0_false : rowOk 17 0 false = true := by decide +kernel
theorem row_17_1_false : rowOk 17 1 false = true := by decide +kernel
theorem row_17_2_false : rowOk 17 2 false = true := by decide +kernel
theorem row_17_3_false : rowOk 17 3 false = true := by decide +kernel
theorem row_17_4_false : rowOk 17 4 false = true := by decide +kernel
theorem row_17_5_false : rowOk 17 5 false = true := by decide +kernel
theorem row_17_6_false : rowOk 17 6 false = true := by decide +kernel
theorem row_17_7_false : rowOk 17 7 false = true := by decide +kernel
theorem row_17_8_false : rowOk 17 8 false = true := by decide +kernel
theorem row_17_9_false : rowOk 17 9 false = true := by decide +kernel
theorem row_17_10_false : rowOk 17 10 false = true := by decide +kernel
theorem row_17_11_false : rowOk 17 11 false = true := by decide +kernel
theorem row_17_12_false : rowOk 17 12 false = true := by decide +kernel
theorem row_17_13_false : rowOk 17 13 false = true := by decide +kernel
theorem row_17_14_false : rowOk 17 14 false = true := by decide +kernel
theorem row_17_15_false : rowOk 17 15 false = true := by decide +kernel
theorem row_17_16_false : rowOk 17 16 false = true := by decide +kernel
theorem rows_17_false : ∀ a, a < 17 → rowOk 17 a false = true
  | 0, _ => row_17_0_false
  | 1, _ => row_17_1_false
  | 2, _ => row_17_2_false
  | 3, _ => row_17_3_false
  | 4, _ => row_17_4_false
  | 5, _ => row_17_5_false
  | 6, _ => row_17_6_false
  | 7, _ => row_17_7_false
  | 8, _ => row_17_8_false
  | 9, _ => row_17_9_false
  | 10, _ => row_17_10_false
  | 11, _ => row_17_11_false
  | 12, _ => row_17_12_false
  | 13, _ => row_17_13_false
  | 14, _ => row_17_14_false
  | 15, _ => row_17_15_false
  | 16, _ => row_17_16_false
  | a + 17, h => absurd h (by omega)
theorem row_18_0_true : rowOk 18 0 true = true := by decide +kernel
theorem row_18_1_true : rowOk 18 1 true = true := by decide +kernel
theorem row_18_2_true : rowOk 18 2 true = true := by decide +kernel
theorem row_18_3_true : rowOk 18 3 true = true := by decide +kernel
theorem row_18_4_true : rowOk 18 4 true = true := by decide +kernel
theorem row_18_5_true : rowOk 18 5 true = true := by decide +kernel
theorem row_18_6_true : rowOk 18 6 true = true := by decide +kernel
theorem row_18_7_true : rowOk 18 7 true = true := by decide +kernel
theorem row_18_8_true : rowOk 18 8 true = true := by decide +kernel
theorem row_18_9_true : rowOk 18 9 true = true := by decide +kernel
theorem row_18_10_true : rowOk 18 10 true = true := by decide +kernel
theorem row_18_11_true : rowOk 18 11 true = true := by decide +kernel
theorem row_18_12_true : rowOk 18 12 true = true := by decide +kernel
theorem row_18_13_true : rowOk 18 13 true = true := by decide +kernel
theorem row_18_14_true : rowOk 18 14 true = true := by decide +kernel
theorem row_18_15_true : rowOk 18 15 true = true := by decide +kernel
theorem row_18_16_true : rowOk 18 16 true = true := by decide +kernel
theorem row_18_17_true : rowOk 18 17 true = true := by decide +kernel
theorem rows_18_true : ∀ a, a < 18 → rowOk 18 a true = true
  | 0, _ => row_18_0_true
  | 1, _ => row_18_1_true
  | 2, _ => row_18_2_true
  | 3, _ => row_18_3_true
  | 4, _ => row_18_4_true
  | 5, _ => row_18_5_true
  | 6, _ => row_18_6_true
  | 7, _ => row_18_7_true
  | 8, _ => row_18_8_true
  | 9, _ => row_18_9_true
  | 10, _ => row_18_10_true
  | 11, _ => row_18_11_true
  | 12, _ => row_18_12_true
  | 13, _ => row_18_13_true
  | 14, _ => row_18_14_true
  | 15, _ => row_18_15_true
  | 16, _ => row_18_16_true
  | 17, _ => row_18_17_true
  | a + 18, h => absurd h (by omega)
theorem row_18_0_false : rowOk 18 0 false = true := by decide +kernel
theorem row_18_1_false : rowOk 18 1 false = true := by decide +kernel
theorem row_18_2_false : rowOk 18 2 false = true := by decide +kernel
theorem row_18_3_false : rowOk 18 3 false = true := by decide +kernel
theorem row_18_4_false : rowOk 18 4 false = true := by decide +kernel
theorem row_18_5_false : rowOk 18 5 false = true := by decide +kernel
theorem row_18_6_false : rowOk 18 6 false = true := by decide +kernel
theorem row_18_7_false : rowOk 18 7 false = true := by decide +kernel
theorem row_18_8_false : rowOk 18 8 false = true := by decide +kernel
theorem row_18_9_false : rowOk 18 9 false = true := by decide +kernel
theorem row_18_10_false : rowOk 18 10 false = true := by decide +kernel
theorem row_18_11_false : rowOk 18 11 false = true := by decide +kernel
theorem row_18_12_false : rowOk 18 12 false = true := by decide +kernel
theorem row_18_13_false : rowOk 18 13 false = true := by decide +kernel
theorem row_18_14_false : rowOk 18 14 false = true := by decide +kernel
theorem row_18_15_false : rowOk 18 15 false = true := by decide +kernel
theorem row_18_16_false : rowOk 18 16 false = true := by decide +kernel
theorem row_18_17_false : rowOk 18 17 false = true := by decide +kernel
theorem rows_18_false : ∀ a, a < 18 → rowOk 18 a false = true
  | 0, _ => row_18_0_false
  | 1, _ => row_18_1_false
  | 2, _ => row_18_2_false
  | 3, _ => row_18_3_false
  | 4, _ => row_18_4_false
  | 5, _ => row_18_5_false
  | 6, _ => row_18_6_false
  | 7, _ => row_18_7_false
  | 8, _ => row_18_8_false
  | 9, _ => row_18_9_false
  | 10, _ => row_18_10_false
  | 11, _ => row_18_11_false
  | 12, _ => row_18_12_false
  | 13, _ => row_18_13_false
  | 14, _ => row_18_14_false
  | 15, _ => row_18_15_false
  | 16, _ => row_18_16_false
  | 17, _ => row_18_17_false
  | a + 18, h => absurd h (by omega)
end Go.Proofs.Ytmgkhfnhaeplgaa
