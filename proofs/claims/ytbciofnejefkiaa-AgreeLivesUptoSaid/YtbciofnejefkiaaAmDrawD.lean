/-
  The abstract machine: guards in a region that draws its order with a chain (AWN). No program in sight.
-/
import Derived.Test.YtbciofnejefkiaaAmDrawC
namespace Go.Am.DC
set_option linter.unusedSimpArgs false
set_option linter.unusedVariables false
open Go Go.Am
section
variable {P : Program} {n : Nat} {ops : Array Oper} {Kx : Exit -> Regs -> AHeap -> Prop} {Ψ : AHeap -> Prop} {R : Regs} {H : AHeap} {rest : List Oper} {acc : List (Oper × Bool)} {m : List Bool} {d : Tmp} {op : Op} {ty : TypeId} {pos : String} {af : Array Edge} {bm : List Bool} {k j dj : Nat} {b : Bool}
theorem awn_guard_t (hj : (ops[j]?).bind (·.dst) = some dj) (hb : rget R dj = .raw (.bool b)) (hk : AWN P n ops Kx Ψ H bm k acc (false :: m) (⟨some d, op, ty, pos, af, none⟩ :: rest) R) :
    AWN P n ops Kx Ψ H bm k acc (false :: m) (⟨some d, op, ty, pos, af, some (j, b)⟩ :: rest) R := by
  rw [AWN, if_neg (by simp)] at hk ⊢
  obtain ⟨x, h1, h2⟩ := hk; exact ⟨x, fun H' hP hH => ⟨dj, hj, .inl ⟨hb, h1 H' hP hH⟩⟩, h2⟩
theorem awn_guard_f (hj : (ops[j]?).bind (·.dst) = some dj) (hb : rget R dj = .raw (.bool (!b))) (hk : AWN P n ops Kx Ψ H bm (k + 1) acc m rest ((d, .raw undef) :: R)) :
    AWN P n ops Kx Ψ H bm k acc (false :: m) (⟨some d, op, ty, pos, af, some (j, b)⟩ :: rest) R := by
  rw [AWN, if_neg (by simp)]
  exact ⟨.raw undef, fun H' _ _ => ⟨dj, hj, .inr ⟨.inl hb, rfl⟩⟩, hk⟩
end
end Go.Am.DC
