import Derived.Test.YtmgkhfnhaeplgaaIa3
namespace Go.Proofs.Ytmgkhfnhaeplgaa
open Go
set_option linter.unusedSimpArgs false
set_option linter.unusedVariables false
set_option maxRecDepth 20000
set_option maxHeartbeats 8000000

/-! The rows by kernel evaluation, one by one (so that the kernel lets its memory go). -/
theorem row_1_0_true : rowOk 1 0 true = true := by decide +kernel
theorem rows_1_true : ∀ a, a < 1 → rowOk 1 a true = true
  | 0, _ => row_1_0_true
  | a + 1, h => absurd h (by omega)
theorem row_1_0_false : rowOk 1 0 false = true := by decide +kernel
theorem rows_1_false : ∀ a, a < 1 → rowOk 1 a false = true
  | 0, _ => row_1_0_false
  | a + 1, h => absurd h (by omega)
theorem row_2_0_true : rowOk 2 0 true = true := by decide +kernel
theorem row_2_1_true : rowOk 2 1 true = true := by decide +kernel
theorem rows_2_true : ∀ a, a < 2 → rowOk 2 a true = true
  | 0, _ => row_2_0_true
  | 1, _ => row_2_1_true
  | a + 2, h => absurd h (by omega)
theorem row_2_0_false : rowOk 2 0 false = true := by decide +kernel
theorem row_2_1_false : rowOk 2 1 false = true := by decide +kernel
theorem rows_2_false : ∀ a, a < 2 → rowOk 2 a false = true
  | 0, _ => row_2_0_false
  | 1, _ => row_2_1_false
  | a + 2, h => absurd h (by omega)
theorem row_3_0_true : rowOk 3 0 true = true := by decide +kernel
theorem row_3_1_true : rowOk 3 1 true = true := by decide +kernel
theorem row_3_2_true : rowOk 3 2 true = true := by decide +kernel
theorem rows_3_true : ∀ a, a < 3 → rowOk 3 a true = true
  | 0, _ => row_3_0_true
  | 1, _ => row_3_1_true
  | 2, _ => row_3_2_true
  | a + 3, h => absurd h (by omega)
theorem row_3_0_false : rowOk 3 0 false = true := by decide +kernel
theorem row_3_1_false : rowOk 3 1 false = true := by decide +kernel
theorem row_3_2_false : rowOk 3 2 false = true := by decide +kernel
theorem rows_3_false : ∀ a, a < 3 → rowOk 3 a false = true
  | 0, _ => row_3_0_false
  | 1, _ => row_3_1_false
  | 2, _ => row_3_2_false
  | a + 3, h => absurd h (by omega)
theorem row_4_0_true : rowOk 4 0 true = true := by decide +kernel
theorem row_4_1_true : rowOk 4 1 true = true := by decide +kernel
theorem row_4_2_true : rowOk 4 2 true = true := by decide +kernel
theorem row_4_3_true : rowOk 4 3 true = true := by decide +kernel
theorem rows_4_true : ∀ a, a < 4 → rowOk 4 a true = true
  | 0, _ => row_4_0_true
  | 1, _ => row_4_1_true
  | 2, _ => row_4_2_true
  | 3, _ => row_4_3_true
  | a + 4, h => absurd h (by omega)
theorem row_4_0_false : rowOk 4 0 false = true := by decide +kernel
theorem row_4_1_false : rowOk 4 1 false = true := by decide +kernel
theorem row_4_2_false : rowOk 4 2 false = true := by decide +kernel
theorem row_4_3_false : rowOk 4 3 false = true := by decide +kernel
theorem rows_4_false : ∀ a, a < 4 → rowOk 4 a false = true
  | 0, _ => row_4_0_false
  | 1, _ => row_4_1_false
  | 2, _ => row_4_2_false
  | 3, _ => row_4_3_false
  | a + 4, h => absurd h (by omega)
theorem row_5_0_true : rowOk 5 0 true = true := by decide +kernel
theorem row_5_1_true : rowOk 5 1 true = true := by decide +kernel
theorem row_5_2_true : rowOk 5 2 true = true := by decide +kernel
theorem row_5_3_true : rowOk 5 3 true = true := by decide +kernel
theorem row_5_4_true : rowOk 5 4 true = true := by decide +kernel
theorem rows_5_true : ∀ a, a < 5 → rowOk 5 a true = true
  | 0, _ => row_5_0_true
  | 1, _ => row_5_1_true
  | 2, _ => row_5_2_true
  | 3, _ => row_5_3_true
  | 4, _ => row_5_4_true
  | a + 5, h => absurd h (by omega)
theorem row_5_0_false : rowOk 5 0 false = true := by decide +kernel
theorem row_5_1_false : rowOk 5 1 false = true := by decide +kernel
theorem row_5_2_false : rowOk 5 2 false = true := by decide +kernel
theorem row_5_3_false : rowOk 5 3 false = true := by decide +kernel
theorem row_5_4_false : rowOk 5 4 false = true := by decide +kernel
theorem rows_5_false : ∀ a, a < 5 → rowOk 5 a false = true
  | 0, _ => row_5_0_false
  | 1, _ => row_5_1_false
  | 2, _ => row_5_2_false
  | 3, _ => row_5_3_false
  | 4, _ => row_5_4_false
  | a + 5, h => absurd h (by omega)
theorem row_6_0_true : rowOk 6 0 true = true := by decide +kernel
theorem row_6_1_true : rowOk 6 1 true = true := by decide +kernel
theorem row_6_2_true : rowOk 6 2 true = true := by decide +kernel
theorem row_6_3_true : rowOk 6 3 true = true := by decide +kernel
theorem row_6_4_true : rowOk 6 4 true = true := by decide +kernel
theorem row_6_5_true : rowOk 6 5 true = true := by decide +kernel
theorem rows_6_true : ∀ a, a < 6 → rowOk 6 a true = true
  | 0, _ => row_6_0_true
  | 1, _ => row_6_1_true
  | 2, _ => row_6_2_true
  | 3, _ => row_6_3_true
  | 4, _ => row_6_4_true
  | 5, _ => row_6_5_true
  | a + 6, h => absurd h (by omega)
theorem row_6_0_false : rowOk 6 0 false = true := by decide +kernel
theorem row_6_1_false : rowOk 6 1 false = true := by decide +kernel
theorem row_6_2_false : rowOk 6 2 false = true := by decide +kernel
theorem row_6_3_false : rowOk 6 3 false = true := by decide +kernel
theorem row_6_4_false : rowOk 6 4 false = true := by decide +kernel
theorem row_6_5_false : rowOk 6 5 false = true := by decide +kernel
theorem rows_6_false : ∀ a, a < 6 → rowOk 6 a false = true
  | 0, _ => row_6_0_false
  | 1, _ => row_6_1_false
  | 2, _ => row_6_2_false
  | 3, _ => row_6_3_false
  | 4, _ => row_6_4_false
  | 5, _ => row_6_5_false
  | a + 6, h => absurd h (by omega)
theorem row_7_0_true : rowOk 7 0 true = true := by decide +kernel
theorem row_7_1_true : rowOk 7 1 true = true := by decide +kernel
theorem row_7_2_true : rowOk 7 2 true = true := by decide +kernel
theorem row_7_3_true : rowOk 7 3 true = true := by decide +kernel
theorem row_7_4_true : rowOk 7 4 true = true := by decide +kernel
theorem row_7_5_true : rowOk 7 5 true = true := by decide +kernel
theorem row_7_6_true : rowOk 7 6 true = true := by decide +kernel
theorem rows_7_true : ∀ a, a < 7 → rowOk 7 a true = true
  | 0, _ => row_7_0_true
  | 1, _ => row_7_1_true
  | 2, _ => row_7_2_true
  | 3, _ => row_7_3_true
  | 4, _ => row_7_4_true
  | 5, _ => row_7_5_true
  | 6, _ => row_7_6_true
  | a + 7, h => absurd h (by omega)
theorem row_7_0_false : rowOk 7 0 false = true := by decide +kernel
theorem row_7_1_false : rowOk 7 1 false = true := by decide +kernel
theorem row_7_2_false : rowOk 7 2 false = true := by decide +kernel
theorem row_7_3_false : rowOk 7 3 false = true := by decide +kernel
theorem row_7_4_false : rowOk 7 4 false = true := by decide +kernel
theorem row_7_5_false : rowOk 7 5 false = true := by decide +kernel
theorem row_7_6_false : rowOk 7 6 false = true := by decide +kernel
theorem rows_7_false : ∀ a, a < 7 → rowOk 7 a false = true
  | 0, _ => row_7_0_false
  | 1, _ => row_7_1_false
  | 2, _ => row_7_2_false
  | 3, _ => row_7_3_false
  | 4, _ => row_7_4_false
  | 5, _ => row_7_5_false
  | 6, _ => row_7_6_false
  | a + 7, h => absurd h (by omega)
theorem row_8_0_true : rowOk 8 0 true = true := by decide +kernel
theorem row_8_1_true : rowOk 8 1 true = true := by decide +kernel
theorem row_8_2_true : rowOk 8 2 true = true := by decide +kernel
theorem row_8_3_true : rowOk 8 3 true = true := by decide +kernel
theorem row_8_4_true : rowOk 8 4 true = true := by decide +kernel
theorem row_8_5_true : rowOk 8 5 true = true := by decide +kernel
theorem row_8_6_true : rowOk 8 6 true = true := by decide +kernel
theorem row_8_7_true : rowOk 8 7 true = true := by decide +kernel
theorem rows_8_true : ∀ a, a < 8 → rowOk 8 a true = true
  | 0, _ => row_8_0_true
  | 1, _ => row_8_1_true
  | 2, _ => row_8_2_true
  | 3, _ => row_8_3_true
  | 4, _ => row_8_4_true
  | 5, _ => row_8_5_true
  | 6, _ => row_8_6_true
  | 7, _ => row_8_7_true
  | a + 8, h => absurd h (by omega)
theorem row_8_0_false : rowOk 8 0 false = true := by decide +kernel
theorem row_8_1_false : rowOk 8 1 false = true := by decide +kernel
theorem row_8_2_false : rowOk 8 2 false = true := by decide +kernel
theorem row_8_3_false : rowOk 8 3 false = true := by decide +kernel
theorem row_8_4_false : rowOk 8 4 false = true := by decide +kernel
theorem row_8_5_false : rowOk 8 5 false = true := by decide +kernel
theorem row_8_6_false : rowOk 8 6 false = true := by decide +kernel
theorem row_8_7_false : rowOk 8 7 false = true := by decide +kernel
theorem rows_8_false : ∀ a, a < 8 → rowOk 8 a false = true
  | 0, _ => row_8_0_false
  | 1, _ => row_8_1_false
  | 2, _ => row_8_2_false
  | 3, _ => row_8_3_false
  | 4, _ => row_8_4_false
  | 5, _ => row_8_5_false
  | 6, _ => row_8_6_false
  | 7, _ => row_8_7_false
  | a + 8, h => absurd h (by omega)
theorem row_9_0_true : rowOk 9 0 true = true := by decide +kernel
theorem row_9_1_true : rowOk 9 1 true = true := by decide +kernel
theorem row_9_2_true : rowOk 9 2 true = true := by decide +kernel
theorem row_9_3_true : rowOk 9 3 true = true := by decide +kernel
theorem row_9_4_true : rowOk 9 4 true = true := by decide +kernel
theorem row_9_5_true : rowOk 9 5 true = true := by decide +kernel
theorem row_9_6_true : rowOk 9 6 true = true := by decide +kernel
theorem row_9_7_true : rowOk 9 7 true = true := by decide +kernel
theorem row_9_8_true : rowOk 9 8 true = true := by decide +kernel
theorem rows_9_true : ∀ a, a < 9 → rowOk 9 a true = true
  | 0, _ => row_9_0_true
  | 1, _ => row_9_1_true
  | 2, _ => row_9_2_true
  | 3, _ => row_9_3_true
  | 4, _ => row_9_4_true
  | 5, _ => row_9_5_true
  | 6, _ => row_9_6_true
  | 7, _ => row_9_7_true
  | 8, _ => row_9_8_true
  | a + 9, h => absurd h (by omega)
theorem row_9_0_false : rowOk 9 0 false = true := by decide +kernel
theorem row_9_1_false : rowOk 9 1 false = true := by decide +kernel
theorem row_9_2_false : rowOk 9 2 false = true := by decide +kernel
theorem row_9_3_false : rowOk 9 3 false = true := by decide +kernel
theorem row_9_4_false : rowOk 9 4 false = true := by decide +kernel
theorem row_9_5_false : rowOk 9 5 false = true := by decide +kernel
theorem row_9_6_false : rowOk 9 6 false = true := by decide +kernel
theorem row_9_7_false : rowOk 9 7 false = true := by decide +kernel
theorem row_9_8_false : rowOk 9 8 false = true := by decide +kernel
theorem rows_9_false : ∀ a, a < 9 → rowOk 9 a false = true
  | 0, _ => row_9_0_false
  | 1, _ => row_9_1_false
  | 2, _ => row_9_2_false
  | 3, _ => row_9_3_false
  | 4, _ => row_9_4_false
  | 5, _ => row_9_5_false
  | 6, _ => row_9_6_false
  | 7, _ => row_9_7_false
  | 8, _ => row_9_8_false
  | a + 9, h => absurd h (by omega)
theorem row_10_0_true : rowOk 10 0 true = true := by decide +kernel
theorem row_10_1_true : rowOk 10 1 true = true := by decide +kernel
theorem row_10_2_true : rowOk 10 2 true = true := by decide +kernel
theorem row_10_3_true : rowOk 10 3 true = true := by decide +kernel
theorem row_10_4_true : rowOk 10 4 true = true := by decide +kernel
theorem row_10_5_true : rowOk 10 5 true = true := by decide +kernel
theorem row_10_6_true : rowOk 10 6 true = true := by decide +kernel
theorem row_10_7_true : rowOk 10 7 true = true := by decide +kernel
theorem row_10_8_true : rowOk 10 8 true = true := by decide +kernel
theorem row_10_9_true : rowOk 10 9 true = true := by decide +kernel
theorem rows_10_true : ∀ a, a < 10 → rowOk 10 a true = true
  | 0, _ => row_10_0_true
  | 1, _ => row_10_1_true
  | 2, _ => row_10_2_true
  | 3, _ => row_10_3_true
  | 4, _ => row_10_4_true
  | 5, _ => row_10_5_true
  | 6, _ => row_10_6_true
  | 7, _ => row_10_7_true
  | 8, _ => row_10_8_true
  | 9, _ => row_10_9_true
  | a + 10, h => absurd h (by omega)
theorem row_10_0_false : rowOk 10 0 false = true := by decide +kernel
theorem row_10_1_false : rowOk 10 1 false = true := by decide +kernel
theorem row_10_2_false : rowOk 10 2 false = true := by decide +kernel
theorem row_10_3_false : rowOk 10 3 false = true := by decide +kernel
theorem row_10_4_false : rowOk 10 4 false = true := by decide +kernel
theorem row_10_5_false : rowOk 10 5 false = true := by decide +kernel
theorem row_10_6_false : rowOk 10 6 false = true := by decide +kernel
theorem row_10_7_false : rowOk 10 7 false = true := by decide +kernel
theorem row_10_8_false : rowOk 10 8 false = true := by decide +kernel
theorem row_10_9_false : rowOk 10 9 false = true := by decide +kernel
theorem rows_10_false : ∀ a, a < 10 → rowOk 10 a false = true
  | 0, _ => row_10_0_false
  | 1, _ => row_10_1_false
  | 2, _ => row_10_2_false
  | 3, _ => row_10_3_false
  | 4, _ => row_10_4_false
  | 5, _ => row_10_5_false
  | 6, _ => row_10_6_false
  | 7, _ => row_10_7_false
  | 8, _ => row_10_8_false
  | 9, _ => row_10_9_false
  | a + 10, h => absurd h (by omega)
theorem row_11_0_true : rowOk 11 0 true = true := by decide +kernel
theorem row_11_1_true : rowOk 11 1 true = true := by decide +kernel
theorem row_11_2_true : rowOk 11 2 true = true := by decide +kernel
theorem row_11_3_true : rowOk 11 3 true = true := by decide +kernel
theorem row_11_4_true : rowOk 11 4 true = true := by decide +kernel
theorem row_11_5_true : rowOk 11 5 true = true := by decide +kernel
theorem row_11_6_true : rowOk 11 6 true = true := by decide +kernel
theorem row_11_7_true : rowOk 11 7 true = true := by decide +kernel
theorem row_11_8_true : rowOk 11 8 true = true := by decide +kernel
theorem row_11_9_true : rowOk 11 9 true = true := by decide +kernel
theorem row_11_10_true : rowOk 11 10 true = true := by decide +kernel
theorem rows_11_true : ∀ a, a < 11 → rowOk 11 a true = true
  | 0, _ => row_11_0_true
  | 1, _ => row_11_1_true
  | 2, _ => row_11_2_true
  | 3, _ => row_11_3_true
  | 4, _ => row_11_4_true
  | 5, _ => row_11_5_true
  | 6, _ => row_11_6_true
  | 7, _ => row_11_7_true
  | 8, _ => row_11_8_true
  | 9, _ => row_11_9_true
  | 10, _ => row_11_10_true
  | a + 11, h => absurd h (by omega)
theorem row_11_0_false : rowOk 11 0 false = true := by decide +kernel
theorem row_11_1_false : rowOk 11 1 false = true := by decide +kernel
theorem row_11_2_false : rowOk 11 2 false = true := by decide +kernel
theorem row_11_3_false : rowOk 11 3 false = true := by decide +kernel
theorem row_11_4_false : rowOk 11 4 false = true := by decide +kernel
theorem row_11_5_false : rowOk 11 5 false = true := by decide +kernel
theorem row_11_6_false : rowOk 11 6 false = true := by decide +kernel
theorem row_11_7_false : rowOk 11 7 false = true := by decide +kernel
theorem row_11_8_false : rowOk 11 8 false = true := by decide +kernel
theorem row_11_9_false : rowOk 11 9 false = true := by decide +kernel
theorem row_11_10_false : rowOk 11 10 false = true := by decide +kernel
theorem rows_11_false : ∀ a, a < 11 → rowOk 11 a false = true
  | 0, _ => row_11_0_false
  | 1, _ => row_11_1_false
  | 2, _ => row_11_2_false
  | 3, _ => row_11_3_false
  | 4, _ => row_11_4_false
  | 5, _ => row_11_5_false
  | 6, _ => row_11_6_false
  | 7, _ => row_11_7_false
  | 8, _ => row_11_8_false
  | 9, _ => row_11_9_false
  | 10, _ => row_11_10_false
  | a + 11, h => absurd h (by omega)
theorem row_12_0_true : rowOk 12 0 true = true := by decide +kernel
theorem row_12_1_true : rowOk 12 1 true = true := by decide +kernel
theorem row_12_2_true : rowOk 12 2 true = true := by decide +kernel
theorem row_12_3_true : rowOk 12 3 true = true := by decide +kernel
theorem row_12_4_true : rowOk 12 4 true = true := by decide +kernel
theorem row_12_5_true : rowOk 12 5 true = true := by decide +kernel
theorem row_12_6_true : rowOk 12 6 true = true := by decide +kernel
theorem row_12_7_true : rowOk 12 7 true = true := by decide +kernel
theorem row_12_8_true : rowOk 12 8 true = true := by decide +kernel
theorem row_12_9_true : rowOk 12 9 true = true := by decide +kernel
theorem row_12_10_true : rowOk 12 10 true = true := by decide +kernel
theorem row_12_11_true : rowOk 12 11 true = true := by decide +kernel
theorem rows_12_true : ∀ a, a < 12 → rowOk 12 a true = true
  | 0, _ => row_12_0_true
  | 1, _ => row_12_1_true
  | 2, _ => row_12_2_true
  | 3, _ => row_12_3_true
  | 4, _ => row_12_4_true
  | 5, _ => row_12_5_true
  | 6, _ => row_12_6_true
  | 7, _ => row_12_7_true
  | 8, _ => row_12_8_true
  | 9, _ => row_12_9_true
  | 10, _ => row_12_10_true
  | 11, _ => row_12_11_true
  | a + 12, h => absurd h (by omega)
theorem row_12_0_false : rowOk 12 0 false = true := by decide +kernel
theorem row_12_1_false : rowOk 12 1 false = true := by decide +kernel
theorem row_12_2_false : rowOk 12 2 false = true := by decide +kernel
theorem row_12_3_false : rowOk 12 3 false = true := by decide +kernel
theorem row_12_4_false : rowOk 12 4 false = true := by decide +kernel
theorem row_12_5_false : rowOk 12 5 false = true := by decide +kernel
theorem row_12_6_false : rowOk 12 6 false = true := by decide +kernel
theorem row_12_7_false : rowOk 12 7 false = true := by decide +kernel
theorem row_12_8_false : rowOk 12 8 false = true := by decide +kernel
theorem row_12_9_false : rowOk 12 9 false = true := by decide +kernel
theorem row_12_10_false : rowOk 12 10 false = true := by decide +kernel
theorem row_12_11_false : rowOk 12 11 false = true := by decide +kernel
theorem rows_12_false : ∀ a, a < 12 → rowOk 12 a false = true
  | 0, _ => row_12_0_false
  | 1, _ => row_12_1_false
  | 2, _ => row_12_2_false
  | 3, _ => row_12_3_false
  | 4, _ => row_12_4_false
  | 5, _ => row_12_5_false
  | 6, _ => row_12_6_false
  | 7, _ => row_12_7_false
  | 8, _ => row_12_8_false
  | 9, _ => row_12_9_false
  | 10, _ => row_12_10_false
  | 11, _ => row_12_11_false
  | a + 12, h => absurd h (by omega)
end Go.Proofs.Ytmgkhfnhaeplgaa
