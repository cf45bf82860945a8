/-
  A step of the second text's machine, whatever the numbers.
-/
import Derived.Test.YtaabpahemponkaaGreatDoorDyV
set_option linter.unusedVariables false
set_option linter.unusedSimpArgs false
set_option maxRecDepth 100000
namespace Go.Ex
open Go Go.Am Go.Proofs
def spK : List (Nat × XL) := [(8674, .cel [.raw (.int .i64 2)]),
  (8676, .cel [.raw (.int .i64 2), .raw (.int .i64 2)]),
  (8678, .cel [.raw (.int .i64 2), .raw (.int .i64 2), .raw (.int .i64 2), .raw (.int .i64 2), .raw (.int .i64 2), .raw (.int .i64 2), .raw (.int .i64 2), .raw (.int .i64 1), .raw (.int .i64 2), .raw (.int .i64 2), .raw (.int .i64 2), .raw (.int .i64 2), .raw (.int .i64 1), .raw (.int .i64 2), .raw (.int .i64 2), .raw (.int .i64 1)]),
  (8680, .cel [.raw (.int .i64 2), .raw (.int .i64 1), .raw (.int .i64 2), .raw (.int .i64 1)]),
  (8682, .cel [.raw (.int .i64 0), .raw (.int .i64 1)]),
  (8684, .cel [.raw (.int .i64 2), .raw (.int .i64 6), .raw (.int .i64 0), .raw (.int .i64 0), .raw (.int .i64 2), .raw (.int .i64 7), .raw (.int .i64 1), .raw (.int .i64 0), .raw (.int .i64 2), .raw (.int .i64 11), .raw (.int .i64 2), .raw (.int .i64 0), .raw (.int .i64 2), .raw (.int .i64 12), .raw (.int .i64 3), .raw (.int .i64 0), .raw (.int .i64 4), .raw (.int .i64 0), .raw (.int .i64 0), .raw (.int .i64 0), .raw (.int .i64 0), .raw (.int .i64 5), .raw (.int .i64 0), .raw (.int .i64 0), .raw (.int .i64 19), .raw (.int .i64 9), .raw (.int .i64 7), .raw (.int .i64 0), .raw (.int .i64 1), .raw (.int .i64 8), .raw (.int .i64 6), .raw (.int .i64 0), .raw (.int .i64 20), .raw (.int .i64 10), .raw (.int .i64 0), .raw (.int .i64 0), .raw (.int .i64 1), .raw (.int .i64 8), .raw (.int .i64 5), .raw (.int .i64 0), .raw (.int .i64 1), .raw (.int .i64 1), .raw (.int .i64 8), .raw (.int .i64 0), .raw (.int .i64 1), .raw (.int .i64 3), .raw (.int .i64 0), .raw (.int .i64 0), .raw (.int .i64 10), .raw (.int .i64 9), .raw (.int .i64 3), .raw (.int .i64 3), .raw (.int .i64 0), .raw (.int .i64 10), .raw (.int .i64 1), .raw (.int .i64 0), .raw (.int .i64 19), .raw (.int .i64 17), .raw (.int .i64 12), .raw (.int .i64 0), .raw (.int .i64 1), .raw (.int .i64 13), .raw (.int .i64 11), .raw (.int .i64 0), .raw (.int .i64 20), .raw (.int .i64 18), .raw (.int .i64 0), .raw (.int .i64 0), .raw (.int .i64 1), .raw (.int .i64 13), .raw (.int .i64 10), .raw (.int .i64 0), .raw (.int .i64 8), .raw (.int .i64 14), .raw (.int .i64 9), .raw (.int .i64 13), .raw (.int .i64 1), .raw (.int .i64 4), .raw (.int .i64 14), .raw (.int .i64 0), .raw (.int .i64 1), .raw (.int .i64 2), .raw (.int .i64 4), .raw (.int .i64 0), .raw (.int .i64 3), .raw (.int .i64 0), .raw (.int .i64 2), .raw (.int .i64 0), .raw (.int .i64 3), .raw (.int .i64 2), .raw (.int .i64 4), .raw (.int .i64 0), .raw (.int .i64 0), .raw (.int .i64 15), .raw (.int .i64 1), .raw (.int .i64 0), .raw (.int .i64 3), .raw (.int .i64 1), .raw (.int .i64 15), .raw (.int .i64 0), .raw (.int .i64 3), .raw (.int .i64 3), .raw (.int .i64 15), .raw (.int .i64 0), .raw (.int .i64 5), .raw (.int .i64 0), .raw (.int .i64 1), .raw (.int .i64 0), .raw (.int .i64 5), .raw (.int .i64 1), .raw (.int .i64 2), .raw (.int .i64 0)])]
def spMC : List AV := [.vwn 8674 1 0 1, .vwn 8676 1 0 2, .vwn 8678 1 0 16, .vwn 8680 1 0 4, .vwn 8682 1 0 2, .vwn 8684 4 0 28, .vwn 8686 1 0 4]
def spM (t : Nat) : List AV := spMC ++ [ivv t]
def spA (i : Nat) : Nat := match i with | 0 => 8687 | i + 1 => 8738 + 55 * i
def spO (i : Nat) (x p y : Int) : List (Nat × XL) := [(3000 + 3 * i, .cel [ivv x]), (8685, .cel (spM (i + 1))), (8686, .cel [ivv y, ivv 1, ivv y, ivv 1]), (spA i + 1, .cel [ivv p, ivv y])]
def sp0 : Tpl := ⟨[.ptr 8685 0, .vwn 3000 1 0 1], spK, [(3000, .cel [.h]), (8685, .cel ((spM 0).map Pt.v)), (8686, .cel [.v (ivv 0), .v (ivv 0), .v (ivv 0), .v (ivv 0)])], 8687, fun _ => .tup [.vwn 8688 1 0 2, ivv 0], fun v => spO 0 (vn v 0 0) 0 (W64 (W64 (vn v 0 0 * vn v 0 0) + 1)), 8738⟩
def spS (i : Nat) : Tpl := ⟨[.ptr 8685 0, .vwn (3000 + 3 * i) 1 0 1], spK, [(3000 + 3 * i, .cel [.h]), (8685, .cel ((spM i).map Pt.v)), (8686, .cel [.h, .v (ivv 1), .h, .v (ivv 1)])], spA i, fun _ => .tup [.vwn (spA i + 1) 1 0 2, ivv 0], fun v => spO i (vn v 0 0) (vn v 2 0) (W64 (W64 (vn v 0 0 * vn v 0 0) + vn v 2 1)), spA (i + 1)⟩
theorem sp_0 : TplOk Tryz.prog 12 sp0 := tpl_of (fun v => by kernel_rfl) (fun v => by kernel_rfl) (fun v => by kernel_rfl)
theorem sp_1 : TplOk Tryz.prog 12 (spS 1) := tpl_of (fun v => by kernel_rfl) (fun v => by kernel_rfl) (fun v => by kernel_rfl)
theorem sp_2 : TplOk Tryz.prog 12 (spS 2) := tpl_of (fun v => by kernel_rfl) (fun v => by kernel_rfl) (fun v => by kernel_rfl)
theorem sp_3 : TplOk Tryz.prog 12 (spS 3) := tpl_of (fun v => by kernel_rfl) (fun v => by kernel_rfl) (fun v => by kernel_rfl)
theorem sp_4 : TplOk Tryz.prog 12 (spS 4) := tpl_of (fun v => by kernel_rfl) (fun v => by kernel_rfl) (fun v => by kernel_rfl)
theorem sp_5 : TplOk Tryz.prog 12 (spS 5) := tpl_of (fun v => by kernel_rfl) (fun v => by kernel_rfl) (fun v => by kernel_rfl)
theorem sp_6 : TplOk Tryz.prog 12 (spS 6) := tpl_of (fun v => by kernel_rfl) (fun v => by kernel_rfl) (fun v => by kernel_rfl)
theorem sp_7 : TplOk Tryz.prog 12 (spS 7) := tpl_of (fun v => by kernel_rfl) (fun v => by kernel_rfl) (fun v => by kernel_rfl)
theorem sp_8 : TplOk Tryz.prog 12 (spS 8) := tpl_of (fun v => by kernel_rfl) (fun v => by kernel_rfl) (fun v => by kernel_rfl)
theorem sp_9 : TplOk Tryz.prog 12 (spS 9) := tpl_of (fun v => by kernel_rfl) (fun v => by kernel_rfl) (fun v => by kernel_rfl)
theorem sp_10 : TplOk Tryz.prog 12 (spS 10) := tpl_of (fun v => by kernel_rfl) (fun v => by kernel_rfl) (fun v => by kernel_rfl)
theorem sp_11 : TplOk Tryz.prog 12 (spS 11) := tpl_of (fun v => by kernel_rfl) (fun v => by kernel_rfl) (fun v => by kernel_rfl)
theorem sp_12 : TplOk Tryz.prog 12 (spS 12) := tpl_of (fun v => by kernel_rfl) (fun v => by kernel_rfl) (fun v => by kernel_rfl)
theorem sp_13 : TplOk Tryz.prog 12 (spS 13) := tpl_of (fun v => by kernel_rfl) (fun v => by kernel_rfl) (fun v => by kernel_rfl)
theorem sp_14 : TplOk Tryz.prog 12 (spS 14) := tpl_of (fun v => by kernel_rfl) (fun v => by kernel_rfl) (fun v => by kernel_rfl)
theorem sp_15 : TplOk Tryz.prog 12 (spS 15) := tpl_of (fun v => by kernel_rfl) (fun v => by kernel_rfl) (fun v => by kernel_rfl)
theorem sp_16 : TplOk Tryz.prog 12 (spS 16) := tpl_of (fun v => by kernel_rfl) (fun v => by kernel_rfl) (fun v => by kernel_rfl)
theorem sp_17 : TplOk Tryz.prog 12 (spS 17) := tpl_of (fun v => by kernel_rfl) (fun v => by kernel_rfl) (fun v => by kernel_rfl)
theorem sp_18 : TplOk Tryz.prog 12 (spS 18) := tpl_of (fun v => by kernel_rfl) (fun v => by kernel_rfl) (fun v => by kernel_rfl)
theorem sp_19 : TplOk Tryz.prog 12 (spS 19) := tpl_of (fun v => by kernel_rfl) (fun v => by kernel_rfl) (fun v => by kernel_rfl)
theorem sp_20 : TplOk Tryz.prog 12 (spS 20) := tpl_of (fun v => by kernel_rfl) (fun v => by kernel_rfl) (fun v => by kernel_rfl)
theorem sp_21 : TplOk Tryz.prog 12 (spS 21) := tpl_of (fun v => by kernel_rfl) (fun v => by kernel_rfl) (fun v => by kernel_rfl)
theorem sp_22 : TplOk Tryz.prog 12 (spS 22) := tpl_of (fun v => by kernel_rfl) (fun v => by kernel_rfl) (fun v => by kernel_rfl)
theorem sp_23 : TplOk Tryz.prog 12 (spS 23) := tpl_of (fun v => by kernel_rfl) (fun v => by kernel_rfl) (fun v => by kernel_rfl)
theorem sp_24 : TplOk Tryz.prog 12 (spS 24) := tpl_of (fun v => by kernel_rfl) (fun v => by kernel_rfl) (fun v => by kernel_rfl)
theorem sp_25 : TplOk Tryz.prog 12 (spS 25) := tpl_of (fun v => by kernel_rfl) (fun v => by kernel_rfl) (fun v => by kernel_rfl)
theorem sp_26 : TplOk Tryz.prog 12 (spS 26) := tpl_of (fun v => by kernel_rfl) (fun v => by kernel_rfl) (fun v => by kernel_rfl)
theorem sp_27 : TplOk Tryz.prog 12 (spS 27) := tpl_of (fun v => by kernel_rfl) (fun v => by kernel_rfl) (fun v => by kernel_rfl)
theorem sp_28 : TplOk Tryz.prog 12 (spS 28) := tpl_of (fun v => by kernel_rfl) (fun v => by kernel_rfl) (fun v => by kernel_rfl)
theorem sp_29 : TplOk Tryz.prog 12 (spS 29) := tpl_of (fun v => by kernel_rfl) (fun v => by kernel_rfl) (fun v => by kernel_rfl)
theorem sp_30 : TplOk Tryz.prog 12 (spS 30) := tpl_of (fun v => by kernel_rfl) (fun v => by kernel_rfl) (fun v => by kernel_rfl)
theorem sp_31 : TplOk Tryz.prog 12 (spS 31) := tpl_of (fun v => by kernel_rfl) (fun v => by kernel_rfl) (fun v => by kernel_rfl)
theorem sp_32 : TplOk Tryz.prog 12 (spS 32) := tpl_of (fun v => by kernel_rfl) (fun v => by kernel_rfl) (fun v => by kernel_rfl)
theorem sp_33 : TplOk Tryz.prog 12 (spS 33) := tpl_of (fun v => by kernel_rfl) (fun v => by kernel_rfl) (fun v => by kernel_rfl)
theorem sp_34 : TplOk Tryz.prog 12 (spS 34) := tpl_of (fun v => by kernel_rfl) (fun v => by kernel_rfl) (fun v => by kernel_rfl)
theorem sp_35 : TplOk Tryz.prog 12 (spS 35) := tpl_of (fun v => by kernel_rfl) (fun v => by kernel_rfl) (fun v => by kernel_rfl)
theorem sp_36 : TplOk Tryz.prog 12 (spS 36) := tpl_of (fun v => by kernel_rfl) (fun v => by kernel_rfl) (fun v => by kernel_rfl)
theorem sp_37 : TplOk Tryz.prog 12 (spS 37) := tpl_of (fun v => by kernel_rfl) (fun v => by kernel_rfl) (fun v => by kernel_rfl)
theorem sp_38 : TplOk Tryz.prog 12 (spS 38) := tpl_of (fun v => by kernel_rfl) (fun v => by kernel_rfl) (fun v => by kernel_rfl)
theorem sp_39 : TplOk Tryz.prog 12 (spS 39) := tpl_of (fun v => by kernel_rfl) (fun v => by kernel_rfl) (fun v => by kernel_rfl)
def spL : List Tpl := sp0 :: (List.range' 1 39).map spS
theorem spL_ok : ∀ L ∈ spL, TplOk Tryz.prog 12 L := by
  intro L hL
  have hL : L ∈ [sp0, spS 1, spS 2, spS 3, spS 4, spS 5, spS 6, spS 7, spS 8, spS 9, spS 10, spS 11, spS 12, spS 13, spS 14, spS 15, spS 16, spS 17, spS 18, spS 19, spS 20, spS 21, spS 22, spS 23, spS 24, spS 25, spS 26, spS 27, spS 28, spS 29, spS 30, spS 31, spS 32, spS 33, spS 34, spS 35, spS 36, spS 37, spS 38, spS 39] := hL
  simp only [List.mem_cons, List.not_mem_nil, or_false] at hL
  rcases hL with rfl | rfl | rfl | rfl | rfl | rfl | rfl | rfl | rfl | rfl | rfl | rfl | rfl | rfl | rfl | rfl | rfl | rfl | rfl | rfl | rfl | rfl | rfl | rfl | rfl | rfl | rfl | rfl | rfl | rfl | rfl | rfl | rfl | rfl | rfl | rfl | rfl | rfl | rfl | rfl
  · exact sp_0
  · exact sp_1
  · exact sp_2
  · exact sp_3
  · exact sp_4
  · exact sp_5
  · exact sp_6
  · exact sp_7
  · exact sp_8
  · exact sp_9
  · exact sp_10
  · exact sp_11
  · exact sp_12
  · exact sp_13
  · exact sp_14
  · exact sp_15
  · exact sp_16
  · exact sp_17
  · exact sp_18
  · exact sp_19
  · exact sp_20
  · exact sp_21
  · exact sp_22
  · exact sp_23
  · exact sp_24
  · exact sp_25
  · exact sp_26
  · exact sp_27
  · exact sp_28
  · exact sp_29
  · exact sp_30
  · exact sp_31
  · exact sp_32
  · exact sp_33
  · exact sp_34
  · exact sp_35
  · exact sp_36
  · exact sp_37
  · exact sp_38
  · exact sp_39
end Go.Ex
