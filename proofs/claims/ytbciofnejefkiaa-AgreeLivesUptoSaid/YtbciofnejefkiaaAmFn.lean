/-
  The abstract machine: calls of functions that lie in registers. No program in sight.
-/
import Derived.Test.YtbciofnejefkiaaAmRet
set_option linter.unusedSimpArgs false
set_option linter.unusedVariables false
namespace Go.Am
open Go
section
variable {P : Program} {n : Nat} {K : Exit -> Regs -> AHeap -> Prop} {R : Regs} {H : AHeap} {ops : Array Oper} {rest : List Oper} {ty : TypeId} {d : Tmp} {pos : String} {af : Array Edge}
theorem zu {f : FuncId} [hF : FuncT P f] {fo : Operand} {args : Array Operand} {ats : Array TypeId} {caps ys : List AV} {Kc : AV -> AHeap -> Prop} (hdn : Nat.blt d n = true) (hf : am R fo = .fnc (.func f) [] caps)
    (hw : WL (args.toList.map (am R) ++ caps) ys) (hc : ACalls P f ys H Kc) (hk : ∀ r H', Kc r H' -> AWL P n ops rest K ((d, r) :: R) H') :
    AWL P n ops (⟨some d, .call { callee := .value fo, args := args, argTypes := ats }, ty, pos, af, none⟩ :: rest) K R H := aeb hdn hf rfl (by simpa using hc.weak hw) hk
end
end Go.Am
