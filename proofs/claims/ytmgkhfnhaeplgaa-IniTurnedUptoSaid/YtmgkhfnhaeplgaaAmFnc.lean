/-
  The abstract machine: closures that have first arguments. No program in sight.
-/
import Derived.Test.YtmgkhfnhaeplgaaAmMap
namespace Go.Am
set_option linter.unusedSimpArgs false
set_option linter.unusedVariables false
open Go
section
variable {P : Program} {n : Nat} {K : Exit → Regs → AHeap → Prop} {R : Regs} {H : AHeap} {ops : Array Oper} {rest : List Oper} {ty : TypeId} {d : Tmp} {pos : String} {af : Array Edge}
theorem s_makeFuncV {fn : Fn} {fs cs : Array Operand} {fvs avs : List AV} (hf : fs.toList.map (reval R) = fvs) (hc : cs.toList.map (reval R) = avs) : Stp P n (.makeFunc fn fs cs) ty R H (.fnc fn fvs avs) :=
  stp_pure fun o ho _ g a w hp => by
    refine ⟨.func fn (fs.map a.eval) (cs.map a.eval), by simp [execOp, ho, Instr.makeFunc], ?_⟩
    simp only [Rep]
    refine ⟨fs.map a.eval, cs.map a.eval, rfl, ?_, ?_⟩
    · rw [Array.toList_map]; exact hf ▸ repL_map hp _
    · rw [Array.toList_map]; exact hc ▸ repL_map hp _
theorem awl_callcvf {f : FuncId} [hF : FuncT P f] {fo : Operand} {args : Array Operand} {ats : Array TypeId} {first caps ys : List AV} {Kc : AV → AHeap → Prop} (hdn : Nat.blt d n = true) (hf : reval R fo = .fnc (.func f) first caps)
    (hw : WL (first ++ args.toList.map (reval R) ++ caps) ys) (hc : ACalls P f ys H Kc) (hk : ∀ r H', Kc r H' → AWL P n ops rest K ((d, r) :: R) H') :
    AWL P n ops (⟨some d, .call { callee := .value fo, args := args, argTypes := ats }, ty, pos, af, none⟩ :: rest) K R H := awl_callv hdn hf rfl (hc.weak hw) hk
/-- A variable of one cell or more that is not written again. -/
theorem awl_box_1 {e : TypeId} {x : Operand} {av : AV} {xs : List AV} (hdn : Nat.blt d n = true) (hx : reval R x = av) (hxs : av.parts = xs) (h1 : xs.all AV.one1 = true)
    (hk : AWL P n ops rest K ((d, .pce xs 0) :: R) H) : AWL P n ops (⟨some d, .box e x, ty, pos, af, none⟩ :: rest) K R H :=
  awl_box hdn hx hxs h1 fun o' ho => awl_ent (Ent.seal_var ho) hk
end
end Go.Am
