/-
  The abstract machine: calls of functions that lie in registers. No program in sight.
-/
import Derived.Test.YtmgkhfnhaeplgaaAmRet
namespace Go.Am
open Go
section
variable {P : Program} {n : Nat} {K : Exit → Regs → AHeap → Prop} {R : Regs} {H : AHeap} {ops : Array Oper} {rest : List Oper} {ty : TypeId} {d : Tmp} {pos : String} {af : Array Edge}
theorem awl_callcv {f : FuncId} [hF : FuncT P f] {fo : Operand} {args : Array Operand} {ats : Array TypeId} {caps ys : List AV} {Kc : AV → AHeap → Prop} (hdn : Nat.blt d n = true) (hf : reval R fo = .fnc (.func f) [] caps)
    (hw : WL (args.toList.map (reval R) ++ caps) ys) (hc : ACalls P f ys H Kc) (hk : ∀ r H', Kc r H' → AWL P n ops rest K ((d, r) :: R) H') :
    AWL P n ops (⟨some d, .call { callee := .value fo, args := args, argTypes := ats }, ty, pos, af, none⟩ :: rest) K R H := awl_callv hdn hf rfl (by simpa using hc.weak hw) hk
theorem s_callcv {f : FuncId} [hF : FuncT P f] {fo : Operand} {args : Array Operand} {ats : Array TypeId} {caps ys : List AV} {x : AV} (hf : reval R fo = .fnc (.func f) [] caps)
    (hw : WL (args.toList.map (reval R) ++ caps) ys) (hc : ACalls P f ys H fun r H' => r = x ∧ H' = H) : Stp P n (.call { callee := .value fo, args := args, argTypes := ats }) ty R H x := s_callv hf rfl (by simpa using hc.weak hw)
theorem srcA_full {o : Nat} {a : List UInt8} (hx : H o = some (.byt a)) : SrcA H (.vw o 1 0 a.length) a.length 1 (.byt a) := by
  have := srcA_vwb (off := 0) (len := a.length) hx (by omega)
  rwa [List.drop_zero, Nat.mul_one, List.take_length] at this
theorem srcA_part {o off len : Nat} {a : List UInt8} (hx : H o = some (.byt a)) (hl : off + len ≤ a.length) : SrcA H (.vw o 1 off len) ((a.drop off).take len).length 1 (.byt ((a.drop off).take len)) := by
  have := srcA_vwb (off := off) (len := len) hx (by omega)
  rw [Nat.mul_one] at this
  have e : ((a.drop off).take len).length = len := by simp; omega
  rw [e]; exact this
theorem s_vw_str0 {s t : TypeId} {x : Operand} {o len e sz bytes : Nat} {a : List UInt8} {z : Value} [hT : SliceT P s e sz bytes z] [hS : StrT P t] [hE : IntT P e .u8] (hx : reval R x = .vw o 1 0 len) (hH : H o = some (.byt a)) (hl : len = a.length) : Stp P n (.convert s t x) ty R H (.str a) := by
  subst hl; exact s_bytes_str hx (srcA_full hH) (sl_vw _ _ _ _)
theorem s_vw_str {s t : TypeId} {x : Operand} {o off len e sz bytes : Nat} {a : List UInt8} {z : Value} [hT : SliceT P s e sz bytes z] [hS : StrT P t] [hE : IntT P e .u8] (hx : reval R x = .vw o 1 off len) (hH : H o = some (.byt a)) (hl : off + len ≤ a.length) : Stp P n (.convert s t x) ty R H (.str ((a.drop off).take len)) :=
  s_bytes_str hx (srcA_part hH hl) (sl_vw _ _ _ _)
end
end Go.Am
