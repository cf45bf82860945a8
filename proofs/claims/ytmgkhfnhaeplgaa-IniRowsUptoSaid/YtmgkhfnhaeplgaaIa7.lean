import Derived.Test.YtmgkhfnhaeplgaaIa3
namespace Go.Proofs.Ytmgkhfnhaeplgaa
open Go
set_option linter.unusedSimpArgs false
set_option linter.unusedVariables false
set_option maxRecDepth 20000
set_option maxHeartbeats 8000000

/-! The rows by kernel evaluation, one by one (so that the kernel lets its memory go). -/
theorem row_19_0_true : rowOk 19 0 true = true := by decide +kernel
theorem row_19_1_true : rowOk 19 1 true = true := by decide +kernel
theorem row_19_2_true : rowOk 19 2 true = true := by decide +kernel
theorem row_19_3_true : rowOk 19 3 true = true := by decide +kernel
theorem row_19_4_true : rowOk 19 4 true = true := by decide +kernel
theorem row_19_5_true : rowOk 19 5 true = true := by decide +kernel
theorem row_19_6_true : rowOk 19 6 true = true := by decide +kernel
theorem row_19_7_true : rowOk 19 7 true = true := by decide +kernel
theorem row_19_8_true : rowOk 19 8 true = true := by decide +kernel
theorem row_19_9_true : rowOk 19 9 true = true := by decide +kernel
theorem row_19_10_true : rowOk 19 10 true = true := by decide +kernel
theorem row_19_11_true : rowOk 19 11 true = true := by decide +kernel
theorem row_19_12_true : rowOk 19 12 true = true := by decide +kernel
theorem row_19_13_true : rowOk 19 13 true = true := by decide +kernel
theorem row_19_14_true : rowOk 19 14 true = true := by decide +kernel
theorem row_19_15_true : rowOk 19 15 true = true := by decide +kernel
theorem row_19_16_true : rowOk 19 16 true = true := by decide +kernel
theorem row_19_17_true : rowOk 19 17 true = true := by decide +kernel
theorem row_19_18_true : rowOk 19 18 true = true := by decide +kernel
theorem rows_19_true : ∀ a, a < 19 → rowOk 19 a true = true
  | 0, _ => row_19_0_true
  | 1, _ => row_19_1_true
  | 2, _ => row_19_2_true
  | 3, _ => row_19_3_true
  | 4, _ => row_19_4_true
  | 5, _ => row_19_5_true
  | 6, _ => row_19_6_true
  | 7, _ => row_19_7_true
  | 8, _ => row_19_8_true
  | 9, _ => row_19_9_true
  | 10, _ => row_19_10_true
  | 11, _ => row_19_11_true
  | 12, _ => row_19_12_true
  | 13, _ => row_19_13_true
  | 14, _ => row_19_14_true
  | 15, _ => row_19_15_true
  | 16, _ => row_19_16_true
  | 17, _ => row_19_17_true
  | 18, _ => row_19_18_true
  | a + 19, h => absurd h (by omega)
theorem row_19_0_false : rowOk 19 0 false = true := by decide +kernel
theorem row_19_1_false : rowOk 19 1 false = true := by decide +kernel
theorem row_19_2_false : rowOk 19 2 false = true := by decide +kernel
theorem row_19_3_false : rowOk 19 3 false = true := by decide +kernel
theorem row_19_4_false : rowOk 19 4 false = true := by decide +kernel
theorem row_19_5_false : rowOk 19 5 false = true := by decide +kernel
theorem row_19_6_false : rowOk 19 6 false = true := by decide +kernel
theorem row_19_7_false : rowOk 19 7 false = true := by decide +kernel
theorem row_19_8_false : rowOk 19 8 false = true := by decide +kernel
theorem row_19_9_false : rowOk 19 9 false = true := by decide +kernel
theorem row_19_10_false : rowOk 19 10 false = true := by decide +kernel
theorem row_19_11_false : rowOk 19 11 false = true := by decide +kernel
theorem row_19_12_false : rowOk 19 12 false = true := by decide +kernel
theorem row_19_13_false : rowOk 19 13 false = true := by decide +kernel
theorem row_19_14_false : rowOk 19 14 false = true := by decide +kernel
theorem row_19_15_false : rowOk 19 15 false = true := by decide +kernel
theorem row_19_16_false : rowOk 19 16 false = true := by decide +kernel
theorem row_19_17_false : rowOk 19 17 false = true := by decide +kernel
theorem row_19_18_false : rowOk 19 18 false = true := by decide +kernel
theorem rows_19_false : ∀ a, a < 19 → rowOk 19 a false = true
  | 0, _ => row_19_0_false
  | 1, _ => row_19_1_false
  | 2, _ => row_19_2_false
  | 3, _ => row_19_3_false
  | 4, _ => row_19_4_false
  | 5, _ => row_19_5_false
  | 6, _ => row_19_6_false
  | 7, _ => row_19_7_false
  | 8, _ => row_19_8_false
  | 9, _ => row_19_9_false
  | 10, _ => row_19_10_false
  | 11, _ => row_19_11_false
  | 12, _ => row_19_12_false
  | 13, _ => row_19_13_false
  | 14, _ => row_19_14_false
  | 15, _ => row_19_15_false
  | 16, _ => row_19_16_false
  | 17, _ => row_19_17_false
  | 18, _ => row_19_18_false
  | a + 19, h => absurd h (by omega)
theorem row_20_0_true : rowOk 20 0 true = true := by decide +kernel
theorem row_20_1_true : rowOk 20 1 true = true := by decide +kernel
theorem row_20_2_true : rowOk 20 2 true = true := by decide +kernel
theorem row_20_3_true : rowOk 20 3 true = true := by decide +kernel
theorem row_20_4_true : rowOk 20 4 true = true := by decide +kernel
theorem row_20_5_true : rowOk 20 5 true = true := by decide +kernel
theorem row_20_6_true : rowOk 20 6 true = true := by decide +kernel
theorem row_20_7_true : rowOk 20 7 true = true := by decide +kernel
theorem row_20_8_true : rowOk 20 8 true = true := by decide +kernel
theorem row_20_9_true : rowOk 20 9 true = true := by decide +kernel
theorem row_20_10_true : rowOk 20 10 true = true := by decide +kernel
theorem row_20_11_true : rowOk 20 11 true = true := by decide +kernel
theorem row_20_12_true : rowOk 20 12 true = true := by decide +kernel
theorem row_20_13_true : rowOk 20 13 true = true := by decide +kernel
theorem row_20_14_true : rowOk 20 14 true = true := by decide +kernel
theorem row_20_15_true : rowOk 20 15 true = true := by decide +kernel
theorem row_20_16_true : rowOk 20 16 true = true := by decide +kernel
theorem row_20_17_true : rowOk 20 17 true = true := by decide +kernel
theorem row_20_18_true : rowOk 20 18 true = true := by decide +kernel
theorem row_20_19_true : rowOk 20 19 true = true := by decide +kernel
theorem rows_20_true : ∀ a, a < 20 → rowOk 20 a true = true
  | 0, _ => row_20_0_true
  | 1, _ => row_20_1_true
  | 2, _ => row_20_2_true
  | 3, _ => row_20_3_true
  | 4, _ => row_20_4_true
  | 5, _ => row_20_5_true
  | 6, _ => row_20_6_true
  | 7, _ => row_20_7_true
  | 8, _ => row_20_8_true
  | 9, _ => row_20_9_true
  | 10, _ => row_20_10_true
  | 11, _ => row_20_11_true
  | 12, _ => row_20_12_true
  | 13, _ => row_20_13_true
  | 14, _ => row_20_14_true
  | 15, _ => row_20_15_true
  | 16, _ => row_20_16_true
  | 17, _ => row_20_17_true
  | 18, _ => row_20_18_true
  | 19, _ => row_20_19_true
  | a + 20, h => absurd h (by omega)
theorem row_20_0_false : rowOk 20 0 false = true := by decide +kernel
theorem row_20_1_false : rowOk 20 1 false = true := by decide +kernel
theorem row_20_2_false : rowOk 20 2 false = true := by decide +kernel
theorem row_20_3_false : rowOk 20 3 false = true := by decide +kernel
theorem row_20_4_false : rowOk 20 4 false = true := by decide +kernel
theorem row_20_5_false : rowOk 20 5 false = true := by decide +kernel
theorem row_20_6_false : rowOk 20 6 false = true := by decide +kernel
theorem row_20_7_false : rowOk 20 7 false = true := by decide +kernel
theorem row_20_8_false : rowOk 20 8 false = true := by decide +kernel
theorem row_20_9_false : rowOk 20 9 false = true := by decide +kernel
theorem row_20_10_false : rowOk 20 10 false = true := by decide +kernel
theorem row_20_11_false : rowOk 20 11 false = true := by decide +kernel
theorem row_20_12_false : rowOk 20 12 false = true := by decide +kernel
theorem row_20_13_false : rowOk 20 13 false = true := by decide +kernel
theorem row_20_14_false : rowOk 20 14 false = true := by decide +kernel
theorem row_20_15_false : rowOk 20 15 false = true := by decide +kernel
theorem row_20_16_false : rowOk 20 16 false = true := by decide +kernel
theorem row_20_17_false : rowOk 20 17 false = true := by decide +kernel
theorem row_20_18_false : rowOk 20 18 false = true := by decide +kernel
theorem row_20_19_false : rowOk 20 19 false = true := by decide +kernel
theorem rows_20_false : ∀ a, a < 20 → rowOk 20 a false = true
  | 0, _ => row_20_0_false
  | 1, _ => row_20_1_false
  | 2, _ => row_20_2_false
  | 3, _ => row_20_3_false
  | 4, _ => row_20_4_false
  | 5, _ => row_20_5_false
  | 6, _ => row_20_6_false
  | 7, _ => row_20_7_false
  | 8, _ => row_20_8_false
  | 9, _ => row_20_9_false
  | 10, _ => row_20_10_false
  | 11, _ => row_20_11_false
  | 12, _ => row_20_12_false
  | 13, _ => row_20_13_false
  | 14, _ => row_20_14_false
  | 15, _ => row_20_15_false
  | 16, _ => row_20_16_false
  | 17, _ => row_20_17_false
  | 18, _ => row_20_18_false
  | 19, _ => row_20_19_false
  | a + 20, h => absurd h (by omega)
end Go.Proofs.Ytmgkhfnhaeplgaa
