import Derived.Test.YtkhjnopmkihmiaaSm2
namespace Go.Proofs.Ytkhjnopmkihmiaa
open Go Go.Am Go.Proofs
set_option linter.unusedSimpArgs false
set_option linter.unusedVariables false
set_option maxRecDepth 20000
set_option maxHeartbeats 4000000

/-- Frames one behind the other. -/
def allF : Nat → List UInt8 → Nat → List (List UInt8) × Nat
  | 0, _, _ => ([], 0)
  | f + 1, b, nx =>
    if (takeF b).2.2 = 0 then ([], 0) else if (takeF b).1 ≠ nx then ([], 0)
    else if nx = 18446744073709551615 then ([(takeF b).2.1], (takeF b).2.2)
    else ((takeF b).2.1 :: (allF f (b.drop (takeF b).2.2) (nx + 1)).1, (takeF b).2.2 + (allF f (b.drop (takeF b).2.2) (nx + 1)).2)

theorem takeF_size (b : List UInt8) : (takeF b).2.2 = 0 ∨ (17 ≤ (takeF b).2.2 ∧ (takeF b).2.2 ≤ b.length ∧ (takeF b).2.2 ≤ 60017) := by
  unfold takeF
  repeat' split
  all_goals first | exact .inl rfl | (right; simp only []; omega)
theorem takeF_num (b : List UInt8) : (takeF b).1 < 2 ^ 64 := by
  unfold takeF
  repeat' split
  all_goals first | (show (0 : Nat) < 2 ^ 64; decide) | exact num_lt _
theorem takeF_text (b : List UInt8) : (takeF b).2.1.length ≤ b.length := by
  unfold takeF
  repeat' split
  all_goals simp
  omega

theorem allF_fuel : ∀ (f : Nat) (b : List UInt8) (nx : Nat), b.length < f → allF (f + 1) b nx = allF f b nx
  | 0, b, nx, h => by omega
  | f + 1, b, nx, h => by
    rw [allF]
    conv => rhs; rw [allF]
    split
    · rfl
    · split
      · rfl
      · split
        · rfl
        · have := takeF_size b
          rw [allF_fuel f (b.drop (takeF b).2.2) (nx + 1) (by rw [List.length_drop]; omega)]
def allB (b : List UInt8) (nx : Nat) : List (List UInt8) × Nat := allF (b.length + 1) b nx
theorem allF_eq : ∀ (k : Nat) (b : List UInt8) (nx : Nat), allF (b.length + 1 + k) b nx = allB b nx
  | 0, b, nx => rfl
  | k + 1, b, nx => by rw [← Nat.add_assoc, allF_fuel _ b nx (by omega), allF_eq k b nx]
theorem allB_step {b : List UInt8} {nx : Nat} (h1 : (takeF b).2.2 ≠ 0) (h2 : (takeF b).1 = nx) (h3 : nx ≠ 18446744073709551615) :
    allB b nx = ((takeF b).2.1 :: (allB (b.drop (takeF b).2.2) (nx + 1)).1, (takeF b).2.2 + (allB (b.drop (takeF b).2.2) (nx + 1)).2) := by
  have hs := takeF_size b
  have : allF b.length (b.drop (takeF b).2.2) (nx + 1) = allB (b.drop (takeF b).2.2) (nx + 1) := by
    rw [← allF_eq ((takeF b).2.2 - 1)]
    congr 1
    rw [List.length_drop]; omega
  rw [allB, allF, if_neg h1, if_neg (by simp [h2]), if_neg h3, this]
theorem allB_stop {b : List UInt8} {nx : Nat} (h : (takeF b).2.2 = 0 ∨ (takeF b).1 ≠ nx) : allB b nx = ([], 0) := by
  rw [allB, allF]
  by_cases h0 : (takeF b).2.2 = 0
  · rw [if_pos h0]
  · rw [if_neg h0, if_pos (by rcases h with h | h; · exact absurd h h0
                              · exact h)]
theorem allB_last {b : List UInt8} (h1 : (takeF b).2.2 ≠ 0) (h2 : (takeF b).1 = 18446744073709551615) : allB b 18446744073709551615 = ([(takeF b).2.1], (takeF b).2.2) := by
  rw [allB, allF, if_neg h1, if_neg (by simp [h2]), if_pos rfl]

end Go.Proofs.Ytkhjnopmkihmiaa
