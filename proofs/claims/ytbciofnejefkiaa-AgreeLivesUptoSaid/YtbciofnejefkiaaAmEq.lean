/-
  The abstract machine: struct values compared. No program in sight.
-/
import Derived.Test.YtbciofnejefkiaaAmMap
import Derived.Laws.StructEq
namespace Go.Am
set_option linter.unusedSimpArgs false
set_option linter.unusedVariables false
open Go
inductive EqFlds (P : Program) : Nat -> List Field -> List Nat -> Prop
  | nil (i : Nat) : EqFlds P i [] []
  | str {i : Nat} {f : Field} {fs : List Field} {ks : List Nat} : f.name ≠ "_" -> f.offset = i -> CellT P f.type -> P.underlying f.type = some .string -> EqFlds P (i + 1) fs ks -> EqFlds P i (f :: fs) (0 :: ks)
  | bool {i : Nat} {f : Field} {fs : List Field} {ks : List Nat} : f.name ≠ "_" -> f.offset = i -> CellT P f.type -> P.underlying f.type = some .bool -> EqFlds P (i + 1) fs ks -> EqFlds P i (f :: fs) (1 :: ks)
  | int {i : Nat} {f : Field} {fs : List Field} {ks : List Nat} (k : IntKind) : f.name ≠ "_" -> f.offset = i -> CellT P f.type -> P.underlying f.type = some (.int k) -> EqFlds P (i + 1) fs ks -> EqFlds P i (f :: fs) (2 :: ks)
class EqT (P : Program) (t : TypeId) (ks : outParam (List Nat)) : Prop where
  g : P.eqGuardType P.depth t = false
  s : P.stoodInHeld t = false
  u : P.underlying t = some (.struct (P.fieldsOf t))
  f : EqFlds P 0 (P.fieldsOf t).toList ks
theorem EqT.of {P : Program} {t : TypeId} {fs : Array Field} {ks : List Nat} (g : P.eqGuardType P.depth t = false) (s : P.stoodInHeld t = false) (h : P.underlying t = some (.struct fs)) (f : EqFlds P 0 fs.toList ks) : EqT P t ks := by
  have e : P.fieldsOf t = fs := by unfold Program.fieldsOf; rw [h]
  exact ⟨g, s, by rw [e]; exact h, by rw [e]; exact f⟩
section
variable {P : Program} {n : Nat} {R : Regs} {H : AHeap} {ty : TypeId} {g : Gh}
end
end Go.Am
