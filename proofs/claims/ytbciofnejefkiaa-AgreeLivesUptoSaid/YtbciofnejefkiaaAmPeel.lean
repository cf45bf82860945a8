/-
  The abstract machine: a region that draws its order, whose last operation waits for all others. No program in sight.
-/
import Derived.Test.YtbciofnejefkiaaAmDrawC
namespace Go.Am
set_option linter.unusedSimpArgs false
set_option linter.unusedVariables false
open Go
section
variable {P : Program} {n : Nat} {K : Exit -> Regs -> AHeap -> Prop} {R : Regs} {H : AHeap}
end
end Go.Am
