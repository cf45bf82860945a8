/-
  The abstract machine: a region that draws its order, whose last operation waits for all others. No program in sight.
-/
import Derived.Test.YtbciofnejefkiaaAmDrawC
namespace Go.Am
set_option linter.unusedSimpArgs false
set_option linter.unusedVariables false
open Go

section
variable {P : Program} {n : Nat} {K : Exit → Regs → AHeap → Prop} {R : Regs} {H : AHeap}

theorem oper_wp_same {o : Oper} {a : Act} {w : World} {k k' : Act → World → Prop} {Q Q' : Exit → Act → World → Prop}
    (hk : ∀ a w, k a w → k' a w) (hq : ∀ e a w, e ≠ .normal → Q e a w → Q' e a w) (h : o.wp P a w k Q) : o.wp P a w k' Q' := oper_wp_mono3 hk hq h

end
end Go.Am
