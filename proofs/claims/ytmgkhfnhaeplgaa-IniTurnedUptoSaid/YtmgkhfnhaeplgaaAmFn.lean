/-
  The abstract machine: calls of functions that lie in registers. No program in sight.
-/
import Derived.Test.YtmgkhfnhaeplgaaAmRet
namespace Go.Am
open Go
section
variable {P : Program} {n : Nat} {K : Exit → Regs → AHeap → Prop} {R : Regs} {H : AHeap} {ops : Array Oper} {rest : List Oper} {ty : TypeId} {d : Tmp} {pos : String} {af : Array Edge}
end
end Go.Am
