/-
  The abstract machine: a region that draws its order, of two parts: each operation of the second waits for all of the first. No program in sight.
-/
import Derived.Test.YtbciofnejefkiaaAmPeel
namespace Go.Am
set_option linter.unusedSimpArgs false
set_option linter.unusedVariables false
open Go
def binds (o : Oper) : List Nat := (o.after.toList.filter (Region.binds .any)).map (·.on)
section
variable {P : Program} {n : Nat} {K : Exit -> Regs -> AHeap -> Prop} {R : Regs} {H : AHeap}
end
end Go.Am
