import Derived.Test.YtmgkhfnhaeplgaaIa3
namespace Go.Proofs.Ytmgkhfnhaeplgaa
open Go
set_option linter.unusedSimpArgs false
set_option linter.unusedVariables false
set_option maxRecDepth 20000
set_option maxHeartbeats 8000000

/-! The rows by kernel evaluation, one by one (so that the kernel lets its memory go). -/
theorem row_13_0_true : rowOk 13 0 true = true := by decide +kernel
theorem row_13_1_true : rowOk 13 1 true = true := by decide +kernel
theorem row_13_2_true : rowOk 13 2 true = true := by decide +kernel
theorem row_13_3_true : rowOk 13 3 true = true := by decide +kernel
theorem row_13_4_true : rowOk 13 4 true = true := by decide +kernel
theorem row_13_5_true : rowOk 13 5 true = true := by decide +kernel
theorem row_13_6_true : rowOk 13 6 true = true := by decide +kernel
theorem row_13_7_true : rowOk 13 7 true = true := by decide +kernel
theorem row_13_8_true : rowOk 13 8 true = true := by decide +kernel
theorem row_13_9_true : rowOk 13 9 true = true := by decide +kernel
theorem row_13_10_true : rowOk 13 10 true = true := by decide +kernel
theorem row_13_11_true : rowOk 13 11 true = true := by decide +kernel
theorem row_13_12_true : rowOk 13 12 true = true := by decide +kernel
theorem rows_13_true : ∀ a, a < 13 → rowOk 13 a true = true
  | 0, _ => row_13_0_true
  | 1, _ => row_13_1_true
  | 2, _ => row_13_2_true
  | 3, _ => row_13_3_true
  | 4, _ => row_13_4_true
  | 5, _ => row_13_5_true
  | 6, _ => row_13_6_true
  | 7, _ => row_13_7_true
  | 8, _ => row_13_8_true
  | 9, _ => row_13_9_true
  | 10, _ => row_13_10_true
  | 11, _ => row_13_11_true
  | 12, _ => row_13_12_true
  | a + 13, h => absurd h (by omega)
theorem row_13_0_false : rowOk 13 0 false = true := by decide +kernel
theorem row_13_1_false : rowOk 13 1 false = true := by decide +kernel
theorem row_13_2_false : rowOk 13 2 false = true := by decide +kernel
theorem row_13_3_false : rowOk 13 3 false = true := by decide +kernel
theorem row_13_4_false : rowOk 13 4 false = true := by decide +kernel
theorem row_13_5_false : rowOk 13 5 false = true := by decide +kernel
theorem row_13_6_false : rowOk 13 6 false = true := by decide +kernel
theorem row_13_7_false : rowOk 13 7 false = true := by decide +kernel
theorem row_13_8_false : rowOk 13 8 false = true := by decide +kernel
theorem row_13_9_false : rowOk 13 9 false = true := by decide +kernel
theorem row_13_10_false : rowOk 13 10 false = true := by decide +kernel
theorem row_13_11_false : rowOk 13 11 false = true := by decide +kernel
theorem row_13_12_false : rowOk 13 12 false = true := by decide +kernel
theorem rows_13_false : ∀ a, a < 13 → rowOk 13 a false = true
  | 0, _ => row_13_0_false
  | 1, _ => row_13_1_false
  | 2, _ => row_13_2_false
  | 3, _ => row_13_3_false
  | 4, _ => row_13_4_false
  | 5, _ => row_13_5_false
  | 6, _ => row_13_6_false
  | 7, _ => row_13_7_false
  | 8, _ => row_13_8_false
  | 9, _ => row_13_9_false
  | 10, _ => row_13_10_false
  | 11, _ => row_13_11_false
  | 12, _ => row_13_12_false
  | a + 13, h => absurd h (by omega)
theorem row_14_0_true : rowOk 14 0 true = true := by decide +kernel
theorem row_14_1_true : rowOk 14 1 true = true := by decide +kernel
theorem row_14_2_true : rowOk 14 2 true = true := by decide +kernel
theorem row_14_3_true : rowOk 14 3 true = true := by decide +kernel
theorem row_14_4_true : rowOk 14 4 true = true := by decide +kernel
theorem row_14_5_true : rowOk 14 5 true = true := by decide +kernel
theorem row_14_6_true : rowOk 14 6 true = true := by decide +kernel
theorem row_14_7_true : rowOk 14 7 true = true := by decide +kernel
theorem row_14_8_true : rowOk 14 8 true = true := by decide +kernel
theorem row_14_9_true : rowOk 14 9 true = true := by decide +kernel
theorem row_14_10_true : rowOk 14 10 true = true := by decide +kernel
theorem row_14_11_true : rowOk 14 11 true = true := by decide +kernel
theorem row_14_12_true : rowOk 14 12 true = true := by decide +kernel
theorem row_14_13_true : rowOk 14 13 true = true := by decide +kernel
theorem rows_14_true : ∀ a, a < 14 → rowOk 14 a true = true
  | 0, _ => row_14_0_true
  | 1, _ => row_14_1_true
  | 2, _ => row_14_2_true
  | 3, _ => row_14_3_true
  | 4, _ => row_14_4_true
  | 5, _ => row_14_5_true
  | 6, _ => row_14_6_true
  | 7, _ => row_14_7_true
  | 8, _ => row_14_8_true
  | 9, _ => row_14_9_true
  | 10, _ => row_14_10_true
  | 11, _ => row_14_11_true
  | 12, _ => row_14_12_true
  | 13, _ => row_14_13_true
  | a + 14, h => absurd h (by omega)
theorem row_14_0_false : rowOk 14 0 false = true := by decide +kernel
theorem row_14_1_false : rowOk 14 1 false = true := by decide +kernel
theorem row_14_2_false : rowOk 14 2 false = true := by decide +kernel
theorem row_14_3_false : rowOk 14 3 false = true := by decide +kernel
theorem row_14_4_false : rowOk 14 4 false = true := by decide +kernel
theorem row_14_5_false : rowOk 14 5 false = true := by decide +kernel
theorem row_14_6_false : rowOk 14 6 false = true := by decide +kernel
theorem row_14_7_false : rowOk 14 7 false = true := by decide +kernel
theorem row_14_8_false : rowOk 14 8 false = true := by decide +kernel
theorem row_14_9_false : rowOk 14 9 false = true := by decide +kernel
theorem row_14_10_false : rowOk 14 10 false = true := by decide +kernel
theorem row_14_11_false : rowOk 14 11 false = true := by decide +kernel
theorem row_14_12_false : rowOk 14 12 false = true := by decide +kernel
theorem row_14_13_false : rowOk 14 13 false = true := by decide +kernel
theorem rows_14_false : ∀ a, a < 14 → rowOk 14 a false = true
  | 0, _ => row_14_0_false
  | 1, _ => row_14_1_false
  | 2, _ => row_14_2_false
  | 3, _ => row_14_3_false
  | 4, _ => row_14_4_false
  | 5, _ => row_14_5_false
  | 6, _ => row_14_6_false
  | 7, _ => row_14_7_false
  | 8, _ => row_14_8_false
  | 9, _ => row_14_9_false
  | 10, _ => row_14_10_false
  | 11, _ => row_14_11_false
  | 12, _ => row_14_12_false
  | 13, _ => row_14_13_false
  | a + 14, h => absurd h (by omega)
theorem row_15_0_true : rowOk 15 0 true = true := by decide +kernel
theorem row_15_1_true : rowOk 15 1 true = true := by decide +kernel
theorem row_15_2_true : rowOk 15 2 true = true := by decide +kernel
theorem row_15_3_true : rowOk 15 3 true = true := by decide +kernel
theorem row_15_4_true : rowOk 15 4 true = true := by decide +kernel
theorem row_15_5_true : rowOk 15 5 true = true := by decide +kernel
theorem row_15_6_true : rowOk 15 6 true = true := by decide +kernel
theorem row_15_7_true : rowOk 15 7 true = true := by decide +kernel
theorem row_15_8_true : rowOk 15 8 true = true := by decide +kernel
theorem row_15_9_true : rowOk 15 9 true = true := by decide +kernel
theorem row_15_10_true : rowOk 15 10 true = true := by decide +kernel
theorem row_15_11_true : rowOk 15 11 true = true := by decide +kernel
theorem row_15_12_true : rowOk 15 12 true = true := by decide +kernel
theorem row_15_13_true : rowOk 15 13 true = true := by decide +kernel
theorem row_15_14_true : rowOk 15 14 true = true := by decide +kernel
theorem rows_15_true : ∀ a, a < 15 → rowOk 15 a true = true
  | 0, _ => row_15_0_true
  | 1, _ => row_15_1_true
  | 2, _ => row_15_2_true
  | 3, _ => row_15_3_true
  | 4, _ => row_15_4_true
  | 5, _ => row_15_5_true
  | 6, _ => row_15_6_true
  | 7, _ => row_15_7_true
  | 8, _ => row_15_8_true
  | 9, _ => row_15_9_true
  | 10, _ => row_15_10_true
  | 11, _ => row_15_11_true
  | 12, _ => row_15_12_true
  | 13, _ => row_15_13_true
  | 14, _ => row_15_14_true
  | a + 15, h => absurd h (by omega)
theorem row_15_0_false : rowOk 15 0 false = true := by decide +kernel
theorem row_15_1_false : rowOk 15 1 false = true := by decide +kernel
theorem row_15_2_false : rowOk 15 2 false = true := by decide +kernel
theorem row_15_3_false : rowOk 15 3 false = true := by decide +kernel
theorem row_15_4_false : rowOk 15 4 false = true := by decide +kernel
theorem row_15_5_false : rowOk 15 5 false = true := by decide +kernel
theorem row_15_6_false : rowOk 15 6 false = true := by decide +kernel
theorem row_15_7_false : rowOk 15 7 false = true := by decide +kernel
theorem row_15_8_false : rowOk 15 8 false = true := by decide +kernel
theorem row_15_9_false : rowOk 15 9 false = true := by decide +kernel
theorem row_15_10_false : rowOk 15 10 false = true := by decide +kernel
theorem row_15_11_false : rowOk 15 11 false = true := by decide +kernel
theorem row_15_12_false : rowOk 15 12 false = true := by decide +kernel
theorem row_15_13_false : rowOk 15 13 false = true := by decide +kernel
theorem row_15_14_false : rowOk 15 14 false = true := by decide +kernel
theorem rows_15_false : ∀ a, a < 15 → rowOk 15 a false = true
  | 0, _ => row_15_0_false
  | 1, _ => row_15_1_false
  | 2, _ => row_15_2_false
  | 3, _ => row_15_3_false
  | 4, _ => row_15_4_false
  | 5, _ => row_15_5_false
  | 6, _ => row_15_6_false
  | 7, _ => row_15_7_false
  | 8, _ => row_15_8_false
  | 9, _ => row_15_9_false
  | 10, _ => row_15_10_false
  | 11, _ => row_15_11_false
  | 12, _ => row_15_12_false
  | 13, _ => row_15_13_false
  | 14, _ => row_15_14_false
  | a + 15, h => absurd h (by omega)
theorem row_16_0_true : rowOk 16 0 true = true := by decide +kernel
theorem row_16_1_true : rowOk 16 1 true = true := by decide +kernel
theorem row_16_2_true : rowOk 16 2 true = true := by decide +kernel
theorem row_16_3_true : rowOk 16 3 true = true := by decide +kernel
theorem row_16_4_true : rowOk 16 4 true = true := by decide +kernel
theorem row_16_5_true : rowOk 16 5 true = true := by decide +kernel
theorem row_16_6_true : rowOk 16 6 true = true := by decide +kernel
theorem row_16_7_true : rowOk 16 7 true = true := by decide +kernel
theorem row_16_8_true : rowOk 16 8 true = true := by decide +kernel
theorem row_16_9_true : rowOk 16 9 true = true := by decide +kernel
theorem row_16_10_true : rowOk 16 10 true = true := by decide +kernel
theorem row_16_11_true : rowOk 16 11 true = true := by decide +kernel
theorem row_16_12_true : rowOk 16 12 true = true := by decide +kernel
theorem row_16_13_true : rowOk 16 13 true = true := by decide +kernel
theorem row_16_14_true : rowOk 16 14 true = true := by decide +kernel
theorem row_16_15_true : rowOk 16 15 true = true := by decide +kernel
theorem rows_16_true : ∀ a, a < 16 → rowOk 16 a true = true
  | 0, _ => row_16_0_true
  | 1, _ => row_16_1_true
  | 2, _ => row_16_2_true
  | 3, _ => row_16_3_true
  | 4, _ => row_16_4_true
  | 5, _ => row_16_5_true
  | 6, _ => row_16_6_true
  | 7, _ => row_16_7_true
  | 8, _ => row_16_8_true
  | 9, _ => row_16_9_true
  | 10, _ => row_16_10_true
  | 11, _ => row_16_11_true
  | 12, _ => row_16_12_true
  | 13, _ => row_16_13_true
  | 14, _ => row_16_14_true
  | 15, _ => row_16_15_true
  | a + 16, h => absurd h (by omega)
theorem row_16_0_false : rowOk 16 0 false = true := by decide +kernel
theorem row_16_1_false : rowOk 16 1 false = true := by decide +kernel
theorem row_16_2_false : rowOk 16 2 false = true := by decide +kernel
theorem row_16_3_false : rowOk 16 3 false = true := by decide +kernel
theorem row_16_4_false : rowOk 16 4 false = true := by decide +kernel
theorem row_16_5_false : rowOk 16 5 false = true := by decide +kernel
theorem row_16_6_false : rowOk 16 6 false = true := by decide +kernel
theorem row_16_7_false : rowOk 16 7 false = true := by decide +kernel
theorem row_16_8_false : rowOk 16 8 false = true := by decide +kernel
theorem row_16_9_false : rowOk 16 9 false = true := by decide +kernel
theorem row_16_10_false : rowOk 16 10 false = true := by decide +kernel
theorem row_16_11_false : rowOk 16 11 false = true := by decide +kernel
theorem row_16_12_false : rowOk 16 12 false = true := by decide +kernel
theorem row_16_13_false : rowOk 16 13 false = true := by decide +kernel
theorem row_16_14_false : rowOk 16 14 false = true := by decide +kernel
theorem row_16_15_false : rowOk 16 15 false = true := by decide +kernel
theorem rows_16_false : ∀ a, a < 16 → rowOk 16 a false = true
  | 0, _ => row_16_0_false
  | 1, _ => row_16_1_false
  | 2, _ => row_16_2_false
  | 3, _ => row_16_3_false
  | 4, _ => row_16_4_false
  | 5, _ => row_16_5_false
  | 6, _ => row_16_6_false
  | 7, _ => row_16_7_false
  | 8, _ => row_16_8_false
  | 9, _ => row_16_9_false
  | 10, _ => row_16_10_false
  | 11, _ => row_16_11_false
  | 12, _ => row_16_12_false
  | 13, _ => row_16_13_false
  | 14, _ => row_16_14_false
  | 15, _ => row_16_15_false
  | a + 16, h => absurd h (by omega)
end Go.Proofs.Ytmgkhfnhaeplgaa
