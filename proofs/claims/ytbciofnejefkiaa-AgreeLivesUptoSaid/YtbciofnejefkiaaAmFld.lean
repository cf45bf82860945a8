/-
  The abstract machine: a field of a struct value. No program in sight.
-/
import Derived.Test.YtbciofnejefkiaaAmMap
namespace Go.Am
set_option linter.unusedSimpArgs false
set_option linter.unusedVariables false
open Go
class FldV (P : Program) (s : TypeId) (f : Nat) (k : outParam Nat) : Prop where
  h : ∃ fs fd, P.underlying s = some (.struct fs) /\ fs[f]? = some fd /\ fd.offset = k /\ CellT P fd.type
class FldG (P : Program) (s : TypeId) (f : Nat) (k m : outParam Nat) : Prop where
  h : ∃ fs fd, P.underlying s = some (.struct fs) /\ fs[f]? = some fd /\ fd.offset = k /\ AggT P fd.type m
section
variable {P : Program} {n : Nat} {R : Regs} {H : AHeap} {ty : TypeId}
end
end Go.Am
