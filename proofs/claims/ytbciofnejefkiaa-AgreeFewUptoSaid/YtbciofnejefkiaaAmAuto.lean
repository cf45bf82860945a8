/-
  The abstract machine: side conditions and plain steps, by themselves. Printed by wip/tpl.py. No program in sight.
-/
import Derived.Test.YtbciofnejefkiaaAmFn2
import Derived.Test.YtbciofnejefkiaaAmDrawC
import Derived.Test.YtbciofnejefkiaaAmMapI
import Derived.Test.YtbciofnejefkiaaAmFld
import Derived.Test.YtbciofnejefkiaaAmEq
import Derived.Test.YtbciofnejefkiaaAmFnc
import Derived.Test.YtbciofnejefkiaaAmSplit
set_option linter.unusedSimpArgs false
set_option linter.unusedVariables false
namespace Go.Am
open Go
/-- A fact that omega shall not see. -/
structure Hdq (p : Prop) : Prop where
  out : p
theorem auto_len {p : Prop} (h : p := by first | (first | omega | (rw [List.length_replicate] <;> omega) | (simp only [List.length_append, List.length_cons, List.length_nil, List.length_map, List.length_replicate] <;> omega) | (simp only [List.length_append, List.length_cons, List.length_nil, List.length_take, List.length_drop, le_len, frame_len] <;> omega) | (simp <;> omega)) | fail) : p := h
theorem auto_lt {p : Prop} (h : p := by first | (first | omega | exact UInt8.toNat_lt _ | exact Nat.xor_lt_two_pow (UInt8.toNat_lt _) (by omega) | exact Nat.mod_lt _ (by decide) | exact or_lt 8 (by omega) (by omega) | exact or_lt 16 (by omega) (by omega) | exact or_lt 32 (by omega) (by omega) | exact or_lt 64 (by omega) (by omega)) | fail) : p := h
theorem auto_ne0 {p : Prop} (h : p := by first | (first | assumption | exact Ne.symm (by assumption) | exact AHeap.ne_of_fresh (by assumption) | exact Ne.symm (AHeap.ne_of_fresh (by assumption)) | exact AHeap.ne_of_fresh (AHeap.none_of_set (by assumption)) | exact Ne.symm (AHeap.ne_of_fresh (AHeap.none_of_set (by assumption))) | exact AHeap.ne_ns (by assumption) (by assumption) | exact AHeap.ne_sn (by assumption) (by assumption)) | fail) : p := h
theorem auto_heap1 {p : Prop} (h : p := by first | ((fail_if_success (with_reducible apply bogusL)); first | assumption | exact AHeap.set_self _ _ _ | ((repeat' (first | exact AHeap.set_self _ _ _ | assumption | (apply AHeap.get_skip; (· exact auto_ne0)) | (apply AHeap.get_unerase; (· exact auto_ne0)))); done)) | fail) : p := h
theorem auto_ne1 {p : Prop} (h : p := by first | (first | assumption | exact Ne.symm (by assumption) | exact AHeap.ne_of_fresh (by assumption) | exact Ne.symm (AHeap.ne_of_fresh (by assumption)) | exact AHeap.ne_of_fresh (AHeap.none_of_set (by assumption)) | exact Ne.symm (AHeap.ne_of_fresh (AHeap.none_of_set (by assumption))) | exact AHeap.ne_ns (by assumption) (by assumption) | exact AHeap.ne_sn (by assumption) (by assumption) | exact AHeap.ne_ns (by assumption) auto_heap1 | exact AHeap.ne_sn (by assumption) auto_heap1) | fail) : p := h
theorem auto_heap2 {p : Prop} (h : p := by first | ((fail_if_success (with_reducible apply bogusL)); first | assumption | exact AHeap.set_self _ _ _ | ((repeat' (first | exact AHeap.set_self _ _ _ | assumption | (apply AHeap.get_skip; (· exact auto_ne1)) | (apply AHeap.get_unerase; (· exact auto_ne1)))); done)) | fail) : p := h
theorem auto_heap {p : Prop} (h : p := by first | ((fail_if_success (with_reducible apply bogusL)); first | assumption | exact AHeap.set_self _ _ _ | exact AHeap.get_set_of (by assumption) (by assumption) | exact AHeap.get_set_of (by assumption) (AHeap.set_self _ _ _) | ((repeat' (first | exact AHeap.set_self _ _ _ | assumption | (apply AHeap.get_skip; (· (first | assumption | exact Ne.symm (by assumption) | exact AHeap.ne_of_fresh (by assumption) | exact Ne.symm (AHeap.ne_of_fresh (by assumption)) | exact AHeap.ne_of_fresh (AHeap.none_of_set (by assumption)) | exact Ne.symm (AHeap.ne_of_fresh (AHeap.none_of_set (by assumption))) | exact AHeap.ne_ns (by assumption) (by assumption) | exact AHeap.ne_sn (by assumption) (by assumption) | exact AHeap.ne_ns (by assumption) auto_heap2 | exact AHeap.ne_sn (by assumption) auto_heap2))) | (apply AHeap.get_unerase; (· (first | assumption | exact Ne.symm (by assumption) | exact AHeap.ne_of_fresh (by assumption) | exact Ne.symm (AHeap.ne_of_fresh (by assumption)) | exact AHeap.ne_of_fresh (AHeap.none_of_set (by assumption)) | exact Ne.symm (AHeap.ne_of_fresh (AHeap.none_of_set (by assumption))) | exact AHeap.ne_ns (by assumption) (by assumption) | exact AHeap.ne_sn (by assumption) (by assumption) | exact AHeap.ne_ns (by assumption) auto_heap2 | exact AHeap.ne_sn (by assumption) auto_heap2))))); done)) | fail) : p := h
theorem auto_sub {p : Prop} (h : p := by first | (first | exact Sub.refl _ | (intro sp sy shp; exact auto_heap) | (refine Sub.set auto_heap (fun sp sy sne shp => ?_); exact auto_heap) | (refine Sub.set2 auto_heap (fun sne => ?_) (fun sp sy sne sne2 shp => ?_) <;> exact auto_heap)) | fail) : p := h
theorem auto_hs {p : Prop} (h : p := by first | (intro sp sy shp; exact ⟨by (first | assumption | exact Ne.symm (by assumption) | exact AHeap.ne_of_fresh (by assumption) | exact Ne.symm (AHeap.ne_of_fresh (by assumption)) | exact AHeap.ne_of_fresh (AHeap.none_of_set (by assumption)) | exact Ne.symm (AHeap.ne_of_fresh (AHeap.none_of_set (by assumption))) | exact AHeap.ne_ns (by assumption) (by assumption) | exact AHeap.ne_sn (by assumption) (by assumption) | exact AHeap.ne_ns (by assumption) auto_heap2 | exact AHeap.ne_sn (by assumption) auto_heap2), auto_heap⟩) | fail) : p := h
theorem auto_src {p : Prop} (h : p := by first | (first | exact srcA_bys _ _ | exact srcA_bysx _ _ | exact srcA_str _ _ | exact srcA_sls _ _ _ _ (by first | assumption | (simp; done)) | exact srcA_slsx _ _ _ _ (by first | assumption | (simp; done)) | exact srcA_emp _ _ _ rfl | exact srcA_nil _ _ _ rfl | exact srcA_vwb auto_heap auto_len | exact srcA_vwc auto_heap auto_len) | fail) : p := h
theorem auto_sl {p : Prop} (h : p := by first | (first | exact sl_bys _ | exact sl_bysx _ | exact sl_sls _ _ | exact sl_vw _ _ _ _ | exact sl_nil | exact sl_emp | exact sl_slsx _ _) | fail) : p := h
theorem auto_bnd {p : Prop} (h : p := by first | (first | exact bnd_none _ _ | exact bnd_some rfl) | fail) : p := h
theorem auto_idx {p : Prop} (h : p := by first | (first | rfl | assumption | exact map_get (by assumption) | exact map_get0 (by assumption) | exact map_get2 (by assumption)) | fail) : p := h
theorem auto_sd {p : Prop} (h : p := by first | (first | assumption | omega | exact auto_heap | exact auto_len | rfl | ((repeat (first | refine Nat.le_trans (rd_len _) ?_ | refine Nat.le_trans (rs_len _) ?_)); exact auto_len) | (exact Nat.lt_of_lt_of_le (crc_lt _) (by decide)) | (exact Nat.lt_of_lt_of_le (num_lt _) (by decide)) | (decide +kernel)) | fail) : p := h
theorem auto_no {p : Prop} (h : ¬ p := by first | (intro hc; exfalso; omega) | (intro hc; with_reducible exact absurd rfl hc) | decide +kernel | fail) : ¬ p := h
theorem auto_kr {p : Prop} (h : p := by first | kernel_rfl | fail) : p := h
theorem auto_dk {p : Prop} (h : p := by first | decide +kernel | fail) : p := h
theorem auto_om {p : Prop} (h : p := by first | omega | fail) : p := h
theorem auto_r {p : Prop} (h : p := by first | rfl | fail) : p := h
theorem auto_rl {p : Prop} (h : p := by first | rfl | exact auto_len | fail) : p := h
theorem auto_al {p : Prop} (h : p := by first | assumption | rfl | (simp; done) | (simp; omega) | fail) : p := h
theorem auto_d {p : Prop} (h : p := by first | decide | rfl | exact Nat.le_of_ble_eq_true rfl | fail) : p := h
theorem auto_k {p : Prop} (h : p := by first | decide | exact Nat.le_of_ble_eq_true rfl | omega | (simp; done) | (simp; omega) | fail) : p := h
theorem auto_mv {a b : AV} (h : a = b := by first | (first | exact (rfl : _ = AV.raw _) | exact (rfl : _ = AV.bys _) | exact (rfl : _ = AV.vw _ _ _ _) | exact (rfl : _ = AV.ptr _ _) | exact (rfl : _ = AV.str _) | exact (rfl : _ = AV.sls _ _) | exact (rfl : _ = AV.tup _) | exact (rfl : _ = AV.agg _) | exact (rfl : _ = AV.pce _ _) | exact (rfl : _ = AV.emp) | exact (rfl : _ = AV.bysx _) | exact (rfl : _ = AV.slsx _ _) | exact (rfl : _ = AV.mp _) | exact (rfl : _ = AV.fnc _ _ _) | exact (rfl : _ = AV.pby _ _) | exact (rfl : _ = AV.ifc _ _)) | fail) : a = b := h
theorem auto_wl {xs ys : List AV} (h : WL xs ys := by first | ((repeat' (first | exact WL.nil | apply WL.cons)); all_goals (first | exact W.of rfl | exact W.int rfl | exact W.nilb rfl | exact W.empb rfl | exact W.bysx rfl | exact W.nils rfl | exact W.emps rfl | exact W.slsx rfl)) | fail) : WL xs ys := h
/-! The rules' short names. -/
abbrev zg1 := @awl_guard_pt
abbrev zg2 := @awl_guard_pf
abbrev zg3 := @awl_guard_t
abbrev zg4 := @awl_guard_f
abbrev zg5 := @awl_guard_undef
abbrev zg7 := @awl_guard_bf
abbrev zt1 := @awt_guard_pt
abbrev zt2 := @awt_guard_pf
abbrev zt3 := @awt_guard_t
abbrev zt4 := @awt_guard_f
abbrev zt5 := @awt_guard_undef
abbrev za1 := @awl_app_byt1
abbrev za2 := @awl_app_cel1
abbrev za4 := @awl_app_cel
abbrev zb1 := @awl_box_agg
abbrev zb4 := @awl_box_pce
abbrev zs1 := @awl_storea
abbrev zs2 := @awl_storeg
abbrev zs5 := @awl_store1s
abbrev zs6 := @awl_store1
abbrev zs7 := @awl_store_pce
theorem auto_ent {R0 R : Regs} {H H' : AHeap} (hs : RSub R0 R := by (repeat' (first | exact RSub.nil _ | apply RSub.cons)); all_goals (first | rfl | (apply vw_eq <;> exact auto_len) | (apply int_eq; exact auto_len) | (apply inti_eq; exact auto_len) | (simp [rget]; done)))
    (hh : H = H' := by first | rfl | (simp only [AHeap.erase_set, AHeap.set_set, AHeap.erase_none, List.replicate_zero, List.nil_append, *]; done) | (simp [AHeap.erase_set, AHeap.set_set, AHeap.erase_none, *]; done)) : Ent R H R0 H' := Ent.to hs hh
theorem auto_entw {R0 R : Regs} {H H' : AHeap} (hs : RSubW R0 R := by (repeat' (first | exact RSubW.nil _ | apply RSubW.cons)); all_goals (first | exact W.of rfl | exact W.int rfl | exact W.nilb rfl | exact W.empb rfl | exact W.bysx rfl | exact W.nils rfl | exact W.emps rfl | exact W.slsx rfl | (apply W.of; first | (apply vw_eq <;> exact auto_len) | (apply int_eq; exact auto_len) | (apply inti_eq; exact auto_len) | (simp [rget]; done))))
    (hh : H' = H := by first | rfl | (simp only [AHeap.erase_set, AHeap.set_set, AHeap.erase_none, List.replicate_zero, List.nil_append, *]; done) | (simp [AHeap.erase_set, AHeap.set_set, AHeap.erase_none, *]; done)) : Ent R H R0 H' := Ent.tow hs hh
theorem auto_entg {R0 R : Regs} {H H' : AHeap} (hs : RSub R0 R := by (repeat' (first | exact RSub.nil _ | apply RSub.cons)); all_goals (first | rfl | (apply vw_eq <;> exact auto_len) | (apply int_eq; exact auto_len) | (apply inti_eq; exact auto_len) | (simp [rget]; done)))
    (hh : Sub H' H := by first | (first | exact Sub.refl _ | (intro sp sy shp; exact auto_heap) | (refine Sub.set auto_heap (fun sp sy sne shp => ?_); exact auto_heap) | (refine Sub.set2 auto_heap (fun sne => ?_) (fun sp sy sne sne2 shp => ?_) <;> exact auto_heap)) | fail) : Ent R H R0 H' := Ent.tog hs hh
theorem auto_nn {p : Prop} (h : p := by first | (first | assumption | exact AHeap.none_of_set ((by assumption)) | exact AHeap.none_of_set (AHeap.none_of_set ((by assumption))) | exact AHeap.none_of_set (AHeap.none_of_set (AHeap.none_of_set ((by assumption)))) | exact AHeap.none_of_set (AHeap.none_of_set (AHeap.none_of_set (AHeap.none_of_set ((by assumption))))) | exact AHeap.none_of_set (AHeap.none_of_set (AHeap.none_of_set (AHeap.none_of_set (AHeap.none_of_set ((by assumption)))))) | exact AHeap.none_of_set (AHeap.none_of_set (AHeap.none_of_set (AHeap.none_of_set (AHeap.none_of_set (AHeap.none_of_set ((by assumption))))))) | exact AHeap.none_of_set (AHeap.none_of_set (AHeap.none_of_set (AHeap.none_of_set (AHeap.none_of_set (AHeap.none_of_set (AHeap.none_of_set ((by assumption)))))))) | exact AHeap.none_of_set (AHeap.none_of_set (AHeap.none_of_set (AHeap.none_of_set (AHeap.none_of_set (AHeap.none_of_set (AHeap.none_of_set (AHeap.none_of_set ((by assumption))))))))) | exact AHeap.none_of_set (AHeap.none_of_set (AHeap.none_of_set (AHeap.none_of_set (AHeap.none_of_set (AHeap.none_of_set (AHeap.none_of_set (AHeap.none_of_set (AHeap.none_of_set ((by assumption)))))))))) | exact AHeap.none_of_set (AHeap.none_of_set (AHeap.none_of_set (AHeap.none_of_set (AHeap.none_of_set (AHeap.none_of_set (AHeap.none_of_set (AHeap.none_of_set (AHeap.none_of_set (AHeap.none_of_set ((by assumption)))))))))))) | fail) : p := h
theorem auto_nq {p : Prop} (h : p := by first | (first | assumption | exact Ne.symm (by assumption) | exact AHeap.ne_of_fresh (by assumption) | exact Ne.symm (AHeap.ne_of_fresh (by assumption)) | exact AHeap.ne_of_fresh (AHeap.none_of_set (by assumption)) | exact Ne.symm (AHeap.ne_of_fresh (AHeap.none_of_set (by assumption))) | exact AHeap.ne_ns (by assumption) (by assumption) | exact AHeap.ne_sn (by assumption) (by assumption) | exact AHeap.ne_ns (by assumption) auto_heap2 | exact AHeap.ne_sn (by assumption) auto_heap2) | fail) : p := h
theorem auto_wcc {p : Prop} (h : p := by first | ((repeat' (first | exact WC.nil | apply WC.cons)); all_goals (first | exact W.of rfl | exact W.int rfl | exact W.nilb rfl | exact W.empb rfl | exact W.bysx rfl | exact W.nils rfl | exact W.emps rfl | exact W.slsx rfl)) | fail) : p := h
end Go.Am
