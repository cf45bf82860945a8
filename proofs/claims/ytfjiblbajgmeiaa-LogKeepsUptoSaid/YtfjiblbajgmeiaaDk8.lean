import Derived.Test.YtfjiblbajgmeiaaDk7
namespace Go.Proofs.Ytfjiblbajgmeiaa
open Go Go.Am Go.Proofs
set_option linter.unusedSimpArgs false
set_option linter.unusedVariables false
set_option maxRecDepth 20000
set_option maxHeartbeats 4000000

theorem AHeap.set_comm {H : AHeap} {o p : Nat} {x y : AO} (h : p ≠ o) : (H.set o x).set p y = (H.set p y).set o x := by
  funext q
  simp only [AHeap.set]
  by_cases h1 : q = p
  · subst h1; simp [h]
  · simp [h1]
theorem power_at {d : Dk} {b : Bool} (hb : (!d.off) = b) (H : AHeap) (o : Nat) (h : H o = some (.cel d.cells)) : ACalls Try.prog 35 [.ptr o 0] H fun r H' => r = .raw (.bool b) ∧ H' = H := by
  subst hb; exact Power_calls H o d h
theorem lives_at {d : Dk} {l : Nat} (hb : d.lives = l) (H : AHeap) (o : Nat) (h : H o = some (.cel d.cells)) : ACalls Try.prog 23 [.ptr o 0] H fun r H' => r = .raw (.int .i64 (l : Int)) ∧ H' = H := by
  subst hb; exact Lives_calls H o d h

end Go.Proofs.Ytfjiblbajgmeiaa
