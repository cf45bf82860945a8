/-
  The abstract machine: a field of a struct value. No program in sight.
-/
import Derived.Test.YtmgkhfnhaeplgaaAmMap
namespace Go.Am
set_option linter.unusedSimpArgs false
set_option linter.unusedVariables false
open Go
class FldV (P : Program) (s : TypeId) (f : Nat) (k : outParam Nat) : Prop where
  h : ∃ fs fd, P.underlying s = some (.struct fs) ∧ fs[f]? = some fd ∧ fd.offset = k ∧ CellT P fd.type
class FldG (P : Program) (s : TypeId) (f : Nat) (k m : outParam Nat) : Prop where
  h : ∃ fs fd, P.underlying s = some (.struct fs) ∧ fs[f]? = some fd ∧ fd.offset = k ∧ AggT P fd.type m
section
variable {P : Program} {n : Nat} {R : Regs} {H : AHeap} {ty : TypeId}
theorem s_fieldv {t : TypeId} {x : Operand} {f k : Nat} {xs : List AV} {y : AV} [hF : FldV P t f k] (hx : reval R x = .agg xs) (hy : xs[k]? = some y) : Stp P n (.field t x f) ty R H y := by
  obtain ⟨fs, fd, e1, e2, e3, e4⟩ := hF.h
  exact s_field1 ⟨fs, fd, e1, e2, e3, e4.a⟩ hx hy
end
end Go.Am
