/-
  The abstract machine: which rule may serve, by the operation's kind. No program in sight.
-/
import Derived.Test.YtmgkhfnhaeplgaaAmMore
namespace Go.Am
open Go
section
variable {P : Program} {n : Nat} {K : Exit → Regs → AHeap → Prop} {R : Regs} {H : AHeap} {ops : Array Oper} {rest : List Oper} {ty : TypeId} {d : Tmp} {od : Option Tmp} {pos : String} {af : Array Edge} {gd : Option (Nat × Bool)} {v : AV} {x y z : Operand} {t t2 : TypeId}

theorem ik_callv {args : Array Operand} {ats : Array TypeId} (h : AWL P n ops (⟨od, .call { callee := .value x, args := args, argTypes := ats }, ty, pos, af, none⟩ :: rest) K R H) : AWL P n ops (⟨od, .call { callee := .value x, args := args, argTypes := ats }, ty, pos, af, none⟩ :: rest) K R H := h
theorem ik_guard {op : Op} {jw : Nat × Bool} (h : AWL P n ops (⟨od, op, ty, pos, af, some jw⟩ :: rest) K R H) : AWL P n ops (⟨od, op, ty, pos, af, some jw⟩ :: rest) K R H := h
theorem ik_append {args : Array Operand} {ats : Array TypeId} (h : AWL P n ops (⟨od, .call { callee := .builtin .append, args := args, argTypes := ats }, ty, pos, af, none⟩ :: rest) K R H) : AWL P n ops (⟨od, .call { callee := .builtin .append, args := args, argTypes := ats }, ty, pos, af, none⟩ :: rest) K R H := h
theorem ik_box {e : TypeId} (h : AWL P n ops (⟨od, .box e x, ty, pos, af, none⟩ :: rest) K R H) : AWL P n ops (⟨od, .box e x, ty, pos, af, none⟩ :: rest) K R H := h
theorem ik_alloc {e : TypeId} (h : AWL P n ops (⟨od, .alloc e, ty, pos, af, none⟩ :: rest) K R H) : AWL P n ops (⟨od, .alloc e, ty, pos, af, none⟩ :: rest) K R H := h
theorem ik_make (h : AWL P n ops (⟨od, .makeSlice t x y, ty, pos, af, none⟩ :: rest) K R H) : AWL P n ops (⟨od, .makeSlice t x y, ty, pos, af, none⟩ :: rest) K R H := h
theorem ik_store (h : AWL P n ops (⟨od, .store t x y, ty, pos, af, none⟩ :: rest) K R H) : AWL P n ops (⟨od, .store t x y, ty, pos, af, none⟩ :: rest) K R H := h
theorem ik_none {op : Op} (h : AWL P n ops (⟨none, op, ty, pos, af, none⟩ :: rest) K R H) : AWL P n ops (⟨none, op, ty, pos, af, none⟩ :: rest) K R H := h

theorem is_move (h : Stp P n (.move x) ty R H v) : Stp P n (.move x) ty R H v := h
theorem is_assign (h : Stp P n (.assign x) ty R H v) : Stp P n (.assign x) ty R H v := h
theorem is_pick (h : Stp P n (.pick x y z) ty R H v) : Stp P n (.pick x y z) ty R H v := h
theorem is_extract {i : Nat} (h : Stp P n (.extract x i) ty R H v) : Stp P n (.extract x i) ty R H v := h
theorem is_nilCheck (h : Stp P n (.nilCheck x) ty R H v) : Stp P n (.nilCheck x) ty R H v := h
theorem is_fieldAddr {i : Nat} (h : Stp P n (.fieldAddr t x i) ty R H v) : Stp P n (.fieldAddr t x i) ty R H v := h
theorem is_field {i : Nat} (h : Stp P n (.field t x i) ty R H v) : Stp P n (.field t x i) ty R H v := h
theorem is_load (h : Stp P n (.load t x) ty R H v) : Stp P n (.load t x) ty R H v := h
theorem is_builtin {b : Builtin} {args : Array Operand} {ats : Array TypeId} (h : Stp P n (.call { callee := .builtin b, args := args, argTypes := ats }) ty R H v) : Stp P n (.call { callee := .builtin b, args := args, argTypes := ats }) ty R H v := h
theorem is_len {args : Array Operand} {ats : Array TypeId} (h : Stp P n (.call { callee := .builtin .len, args := args, argTypes := ats }) ty R H v) : Stp P n (.call { callee := .builtin .len, args := args, argTypes := ats }) ty R H v := h
theorem is_append {args : Array Operand} {ats : Array TypeId} (h : Stp P n (.call { callee := .builtin .append, args := args, argTypes := ats }) ty R H v) : Stp P n (.call { callee := .builtin .append, args := args, argTypes := ats }) ty R H v := h
theorem is_bin {op : BinOp} (h : Stp P n (.binOp op t x y t2) ty R H v) : Stp P n (.binOp op t x y t2) ty R H v := h
theorem is_add (h : Stp P n (.binOp .add t x y t2) ty R H v) : Stp P n (.binOp .add t x y t2) ty R H v := h
theorem is_sub (h : Stp P n (.binOp .sub t x y t2) ty R H v) : Stp P n (.binOp .sub t x y t2) ty R H v := h
theorem is_eql (h : Stp P n (.binOp .eql t x y t2) ty R H v) : Stp P n (.binOp .eql t x y t2) ty R H v := h
theorem is_neq (h : Stp P n (.binOp .neq t x y t2) ty R H v) : Stp P n (.binOp .neq t x y t2) ty R H v := h
theorem is_un {op : UnOp} (h : Stp P n (.unOp op t x) ty R H v) : Stp P n (.unOp op t x) ty R H v := h
theorem is_convert {s : TypeId} (h : Stp P n (.convert s t x) ty R H v) : Stp P n (.convert s t x) ty R H v := h
theorem is_indexAddr (h : Stp P n (.indexAddr t x y) ty R H v) : Stp P n (.indexAddr t x y) ty R H v := h
theorem is_index (h : Stp P n (.index t x y) ty R H v) : Stp P n (.index t x y) ty R H v := h
theorem is_slice {l h' m : Option Operand} (h : Stp P n (.slice t x l h' m) ty R H v) : Stp P n (.slice t x l h' m) ty R H v := h
theorem is_buildSlice {l : Nat} {ps : Array (Nat × Operand)} (h : Stp P n (.buildSlice t l ps) ty R H v) : Stp P n (.buildSlice t l ps) ty R H v := h
theorem is_build {ps : Array (Nat × Operand)} (h : Stp P n (.build t ps) ty R H v) : Stp P n (.build t ps) ty R H v := h
end
end Go.Am
