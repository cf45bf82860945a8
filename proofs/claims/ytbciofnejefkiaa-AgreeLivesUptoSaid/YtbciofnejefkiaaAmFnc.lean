/-
  The abstract machine: closures that have first arguments. No program in sight.
-/
import Derived.Test.YtbciofnejefkiaaAmMap
namespace Go.Am
set_option linter.unusedSimpArgs false
set_option linter.unusedVariables false
open Go
section
variable {P : Program} {n : Nat} {K : Exit -> Regs -> AHeap -> Prop} {R : Regs} {H : AHeap} {ops : Array Oper} {rest : List Oper} {ty : TypeId} {d : Tmp} {pos : String} {af : Array Edge}
theorem am5 {e : TypeId} {x : Operand} {av : AV} {xs : List AV} (hdn : Nat.blt d n = true) (hx : am R x = av) (hxs : av.parts = xs) (h1 : xs.all AV.one1 = true)
    (hk : AWL P n ops rest K ((d, .pce xs 0) :: R) H) : AWL P n ops (⟨some d, .box e x, ty, pos, af, none⟩ :: rest) K R H :=
  ahd hdn hx hxs h1 fun o' ho => qr (Ent.seal_var ho) hk
end
end Go.Am
