import Derived.Test.YtipjoghlmgmhaaaDk7
namespace Go.Proofs.Ytipjoghlmgmhaaa
open Go Go.Am Go.Proofs
set_option linter.unusedSimpArgs false
set_option linter.unusedVariables false
set_option maxRecDepth 20000
set_option maxHeartbeats 4000000

theorem AHeap.set_comm {H : AHeap} {o p : Nat} {x y : AO} (h : p ≠ o) : (H.set o x).set p y = (H.set p y).set o x := by
  funext q
  simp only [AHeap.set]
  by_cases h1 : q = p
  · subst h1; simp [h]
  · simp [h1]
end Go.Proofs.Ytipjoghlmgmhaaa
