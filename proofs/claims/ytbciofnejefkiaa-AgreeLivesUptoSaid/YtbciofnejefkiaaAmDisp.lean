/-
  The abstract machine: which rule may serve, by the operation's kind. No program in sight.
-/
import Derived.Test.YtbciofnejefkiaaAmMore
set_option linter.unusedSimpArgs false
set_option linter.unusedVariables false
namespace Go.Am
open Go
section
variable {P : Program} {n : Nat} {K : Exit -> Regs -> AHeap -> Prop} {R : Regs} {H : AHeap} {ops : Array Oper} {rest : List Oper} {ty : TypeId} {d : Tmp} {od : Option Tmp} {pos : String} {af : Array Edge} {gd : Option (Nat × Bool)} {v : AV} {x y z : Operand} {t t2 : TypeId}
end
end Go.Am
