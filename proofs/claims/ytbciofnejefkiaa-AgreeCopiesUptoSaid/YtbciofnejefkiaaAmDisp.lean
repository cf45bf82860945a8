/-
  The abstract machine: which rule may serve, by the operation's kind. No program in sight.
-/
import Derived.Test.YtbciofnejefkiaaAmMore
set_option linter.unusedSimpArgs false
set_option linter.unusedVariables false
namespace Go.Am
open Go
section
variable {P : Program} {n : Nat} {K : Exit → Regs → AHeap → Prop} {R : Regs} {H : AHeap} {ops : Array Oper} {rest : List Oper} {ty : TypeId} {d : Tmp} {od : Option Tmp} {pos : String} {af : Array Edge} {gd : Option (Nat × Bool)} {v : AV} {x y z : Operand} {t t2 : TypeId}

theorem ik_callv {args : Array Operand} {ats : Array TypeId} (h : AWL P n ops (⟨od, .call { callee := .value x, args := args, argTypes := ats }, ty, pos, af, none⟩ :: rest) K R H) : AWL P n ops (⟨od, .call { callee := .value x, args := args, argTypes := ats }, ty, pos, af, none⟩ :: rest) K R H := h
theorem ik_guard {op : Op} {jw : Nat × Bool} (h : AWL P n ops (⟨od, op, ty, pos, af, some jw⟩ :: rest) K R H) : AWL P n ops (⟨od, op, ty, pos, af, some jw⟩ :: rest) K R H := h
theorem ik_store (h : AWL P n ops (⟨od, .store t x y, ty, pos, af, none⟩ :: rest) K R H) : AWL P n ops (⟨od, .store t x y, ty, pos, af, none⟩ :: rest) K R H := h
theorem is_move (h : Stp P n (.move x) ty R H v) : Stp P n (.move x) ty R H v := h
theorem is_assign (h : Stp P n (.assign x) ty R H v) : Stp P n (.assign x) ty R H v := h
theorem is_pick (h : Stp P n (.pick x y z) ty R H v) : Stp P n (.pick x y z) ty R H v := h
theorem is_nilCheck (h : Stp P n (.nilCheck x) ty R H v) : Stp P n (.nilCheck x) ty R H v := h
theorem is_fieldAddr {i : Nat} (h : Stp P n (.fieldAddr t x i) ty R H v) : Stp P n (.fieldAddr t x i) ty R H v := h
theorem is_load (h : Stp P n (.load t x) ty R H v) : Stp P n (.load t x) ty R H v := h
theorem is_len {args : Array Operand} {ats : Array TypeId} (h : Stp P n (.call { callee := .builtin .len, args := args, argTypes := ats }) ty R H v) : Stp P n (.call { callee := .builtin .len, args := args, argTypes := ats }) ty R H v := h
theorem is_bin {op : BinOp} (h : Stp P n (.binOp op t x y t2) ty R H v) : Stp P n (.binOp op t x y t2) ty R H v := h
theorem is_add (h : Stp P n (.binOp .add t x y t2) ty R H v) : Stp P n (.binOp .add t x y t2) ty R H v := h
theorem is_eql (h : Stp P n (.binOp .eql t x y t2) ty R H v) : Stp P n (.binOp .eql t x y t2) ty R H v := h
theorem is_neq (h : Stp P n (.binOp .neq t x y t2) ty R H v) : Stp P n (.binOp .neq t x y t2) ty R H v := h
theorem is_un {op : UnOp} (h : Stp P n (.unOp op t x) ty R H v) : Stp P n (.unOp op t x) ty R H v := h
theorem is_indexAddr (h : Stp P n (.indexAddr t x y) ty R H v) : Stp P n (.indexAddr t x y) ty R H v := h
end
end Go.Am
