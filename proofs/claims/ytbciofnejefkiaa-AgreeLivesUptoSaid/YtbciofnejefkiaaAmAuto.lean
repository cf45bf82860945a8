/-
  The abstract machine: side conditions and plain steps, by themselves. Printed by wip/tpl.py. No program in sight.
-/
import Derived.Test.YtbciofnejefkiaaAmFn2
import Derived.Test.YtbciofnejefkiaaAmDrawC
import Derived.Test.YtbciofnejefkiaaAmMapI
import Derived.Test.YtbciofnejefkiaaAmFld
import Derived.Test.YtbciofnejefkiaaAmEq
import Derived.Test.YtbciofnejefkiaaAmFnc
import Derived.Test.YtbciofnejefkiaaAmSplit
set_option linter.unusedSimpArgs false
set_option linter.unusedVariables false
namespace Go.Am
open Go
structure Hdq (p : Prop) : Prop where
  out : p
theorem au {p : Prop} (h : p := by first | (first | omega | (rw [List.length_replicate] <;> omega) | (simp only [List.length_append, List.length_cons, List.length_nil, List.length_map, List.length_replicate] <;> omega) | (simp only [List.length_append, List.length_cons, List.length_nil, List.length_take, List.length_drop, qm, yj] <;> omega) | (simp <;> omega)) | fail) : p := h
theorem ii {p : Prop} (h : p := by first | (first | omega | exact UInt8.toNat_lt _ | exact Nat.xor_lt_two_pow (UInt8.toNat_lt _) (by omega) | exact Nat.mod_lt _ (by decide) | exact sd 8 (by omega) (by omega) | exact sd 16 (by omega) (by omega) | exact sd 32 (by omega) (by omega) | exact sd 64 (by omega) (by omega)) | fail) : p := h
theorem ae1 {p : Prop} (h : p := by first | (first | assumption | exact Ne.symm (by assumption) | exact arp (by assumption) | exact Ne.symm (arp (by assumption)) | exact arp (arm (by assumption)) | exact Ne.symm (arp (arm (by assumption))) | exact arr (by assumption) (by assumption) | exact art (by assumption) (by assumption)) | fail) : p := h
theorem ahg {p : Prop} (h : p := by first | ((fail_if_success (with_reducible apply bogusL)); first | assumption | exact arn _ _ _ | ((repeat' (first | exact arn _ _ _ | assumption | (apply arl; (· exact ae1)) | (apply arq; (· exact ae1)))); done)) | fail) : p := h
theorem ajq {p : Prop} (h : p := by first | (first | assumption | exact Ne.symm (by assumption) | exact arp (by assumption) | exact Ne.symm (arp (by assumption)) | exact arp (arm (by assumption)) | exact Ne.symm (arp (arm (by assumption))) | exact arr (by assumption) (by assumption) | exact art (by assumption) (by assumption) | exact arr (by assumption) ahg | exact art (by assumption) ahg) | fail) : p := h
theorem qt {p : Prop} (h : p := by first | ((fail_if_success (with_reducible apply bogusL)); first | assumption | exact arn _ _ _ | ((repeat' (first | exact arn _ _ _ | assumption | (apply arl; (· exact ajq)) | (apply arq; (· exact ajq)))); done)) | fail) : p := h
theorem aa {p : Prop} (h : p := by first | ((fail_if_success (with_reducible apply bogusL)); first | assumption | exact arn _ _ _ | exact AHeap.get_set_of (by assumption) (by assumption) | exact AHeap.get_set_of (by assumption) (arn _ _ _) | ((repeat' (first | exact arn _ _ _ | assumption | (apply arl; (· (first | assumption | exact Ne.symm (by assumption) | exact arp (by assumption) | exact Ne.symm (arp (by assumption)) | exact arp (arm (by assumption)) | exact Ne.symm (arp (arm (by assumption))) | exact arr (by assumption) (by assumption) | exact art (by assumption) (by assumption) | exact arr (by assumption) qt | exact art (by assumption) qt))) | (apply arq; (· (first | assumption | exact Ne.symm (by assumption) | exact arp (by assumption) | exact Ne.symm (arp (by assumption)) | exact arp (arm (by assumption)) | exact Ne.symm (arp (arm (by assumption))) | exact arr (by assumption) (by assumption) | exact art (by assumption) (by assumption) | exact arr (by assumption) qt | exact art (by assumption) qt))))); done)) | fail) : p := h
theorem mq {p : Prop} (h : p := by first | (first | exact Sub.refl _ | (intro sp sy shp; exact aa) | (refine Sub.set aa (fun sp sy sne shp => ?_); exact aa) | (refine Sub.set2 aa (fun sne => ?_) (fun sp sy sne sne2 shp => ?_) <;> exact aa)) | fail) : p := h
theorem vr {p : Prop} (h : p := by first | (intro sp sy shp; exact ⟨by (first | assumption | exact Ne.symm (by assumption) | exact arp (by assumption) | exact Ne.symm (arp (by assumption)) | exact arp (arm (by assumption)) | exact Ne.symm (arp (arm (by assumption))) | exact arr (by assumption) (by assumption) | exact art (by assumption) (by assumption) | exact arr (by assumption) qt | exact art (by assumption) qt), aa⟩) | fail) : p := h
theorem dc {p : Prop} (h : p := by first | (first | exact aaq _ _ | exact aie _ _ | exact aqs _ _ | exact aj7 _ _ _ _ (by first | assumption | (simp; done)) | exact ahy _ _ _ _ (by first | assumption | (simp; done)) | exact adr _ _ _ rfl | exact afw _ _ _ rfl | exact aqd aa au | exact ac1 aa au) | fail) : p := h
theorem v9 {p : Prop} (h : p := by first | (first | exact aid _ | exact sl_bysx _ | exact sl_sls _ _ | exact sl_vw _ _ _ _ | exact ad5 | exact sl_emp | exact sl_slsx _ _) | fail) : p := h
theorem ji {p : Prop} (h : p := by first | (first | exact zx _ _ | exact aq8 rfl) | fail) : p := h
theorem ij {p : Prop} (h : p := by first | (first | rfl | assumption | exact alk (by assumption) | exact map_get0 (by assumption) | exact aqr (by assumption)) | fail) : p := h
theorem cq {p : Prop} (h : p := by first | (first | assumption | omega | exact aa | exact au | rfl | ((repeat (first | refine Nat.le_trans (iy _) ?_ | refine Nat.le_trans (um _) ?_)); exact au) | (exact Nat.lt_of_lt_of_le (xn _) (by decide)) | (exact Nat.lt_of_lt_of_le (aby _) (by decide)) | (decide +kernel)) | fail) : p := h
theorem aj {p : Prop} (h : ¬ p := by first | (intro hc; exfalso; omega) | (intro hc; with_reducible exact absurd rfl hc) | decide +kernel | fail) : ¬ p := h
theorem dz {p : Prop} (h : p := by first | kernel_rfl | fail) : p := h
theorem bg {p : Prop} (h : p := by first | decide +kernel | fail) : p := h
theorem ti {p : Prop} (h : p := by first | omega | fail) : p := h
theorem ab9 {p : Prop} (h : p := by first | rfl | fail) : p := h
theorem pu {p : Prop} (h : p := by first | rfl | exact au | fail) : p := h
theorem mc {p : Prop} (h : p := by first | assumption | rfl | (simp; done) | (simp; omega) | fail) : p := h
theorem qu {p : Prop} (h : p := by first | decide | rfl | exact Nat.le_of_ble_eq_true rfl | fail) : p := h
theorem abt {p : Prop} (h : p := by first | decide | exact Nat.le_of_ble_eq_true rfl | omega | (simp; done) | (simp; omega) | fail) : p := h
theorem qe {a b : AV} (h : a = b := by first | (first | exact (rfl : _ = AV.raw _) | exact (rfl : _ = AV.bys _) | exact (rfl : _ = AV.vw _ _ _ _) | exact (rfl : _ = AV.ptr _ _) | exact (rfl : _ = AV.str _) | exact (rfl : _ = AV.sls _ _) | exact (rfl : _ = AV.tup _) | exact (rfl : _ = AV.agg _) | exact (rfl : _ = AV.pce _ _) | exact (rfl : _ = AV.emp) | exact (rfl : _ = AV.bysx _) | exact (rfl : _ = AV.slsx _ _) | exact (rfl : _ = AV.mp _) | exact (rfl : _ = AV.fnc _ _ _) | exact (rfl : _ = AV.pby _ _) | exact (rfl : _ = AV.ifc _ _)) | fail) : a = b := h
theorem ah {xs ys : List AV} (h : WL xs ys := by first | ((repeat' (first | exact WL.nil | apply WL.cons)); all_goals (first | exact W.of rfl | exact W.int rfl | exact W.nilb rfl | exact W.empb rfl | exact W.bysx rfl | exact W.nils rfl | exact W.emps rfl | exact W.slsx rfl)) | fail) : WL xs ys := h
abbrev zg1 := @ano
abbrev zg2 := @afn
abbrev zg3 := @yt
abbrev zg4 := @ade
abbrev zg5 := @alu
abbrev zg7 := @ara
abbrev zt1 := @aox
abbrev zt2 := @apx
abbrev zt3 := @aag
abbrev zt4 := @aat
abbrev zt5 := @apq
abbrev za1 := @apb
abbrev za2 := @ali
abbrev za4 := @ajv
abbrev zb1 := @afc
abbrev zb4 := @aoj
abbrev zs1 := @aex
abbrev zs2 := @an4
abbrev zs5 := @apt
abbrev zs6 := @ag6
abbrev zs7 := @ao8
theorem ba {R0 R : Regs} {H H' : AHeap} (hs : RSub R0 R := by (repeat' (first | exact RSub.nil _ | apply RSub.cons)); all_goals (first | rfl | (apply aax <;> exact au) | (apply adl; exact au) | (apply inti_eq; exact au) | (simp [rget]; done)))
    (hh : H = H' := by first | rfl | (simp only [ars, AHeap.set_set, AHeap.erase_none, List.replicate_zero, List.nil_append, *]; done) | (simp [ars, AHeap.set_set, AHeap.erase_none, *]; done)) : Ent R H R0 H' := Ent.to hs hh
theorem xb {R0 R : Regs} {H H' : AHeap} (hs : RSubW R0 R := by (repeat' (first | exact RSubW.nil _ | apply RSubW.cons)); all_goals (first | exact W.of rfl | exact W.int rfl | exact W.nilb rfl | exact W.empb rfl | exact W.bysx rfl | exact W.nils rfl | exact W.emps rfl | exact W.slsx rfl | (apply W.of; first | (apply aax <;> exact au) | (apply adl; exact au) | (apply inti_eq; exact au) | (simp [rget]; done))))
    (hh : H' = H := by first | rfl | (simp only [ars, AHeap.set_set, AHeap.erase_none, List.replicate_zero, List.nil_append, *]; done) | (simp [ars, AHeap.set_set, AHeap.erase_none, *]; done)) : Ent R H R0 H' := Ent.tow hs hh
theorem jt {R0 R : Regs} {H H' : AHeap} (hs : RSub R0 R := by (repeat' (first | exact RSub.nil _ | apply RSub.cons)); all_goals (first | rfl | (apply aax <;> exact au) | (apply adl; exact au) | (apply inti_eq; exact au) | (simp [rget]; done)))
    (hh : Sub H' H := by first | (first | exact Sub.refl _ | (intro sp sy shp; exact aa) | (refine Sub.set aa (fun sp sy sne shp => ?_); exact aa) | (refine Sub.set2 aa (fun sne => ?_) (fun sp sy sne sne2 shp => ?_) <;> exact aa)) | fail) : Ent R H R0 H' := Ent.tog hs hh
theorem ka {p : Prop} (h : p := by first | (first | assumption | exact arm ((by assumption)) | exact arm (arm ((by assumption))) | exact arm (arm (arm ((by assumption)))) | exact arm (arm (arm (arm ((by assumption))))) | exact arm (arm (arm (arm (arm ((by assumption)))))) | exact arm (arm (arm (arm (arm (arm ((by assumption))))))) | exact arm (arm (arm (arm (arm (arm (arm ((by assumption)))))))) | exact arm (arm (arm (arm (arm (arm (arm (arm ((by assumption))))))))) | exact arm (arm (arm (arm (arm (arm (arm (arm (arm ((by assumption)))))))))) | exact arm (arm (arm (arm (arm (arm (arm (arm (arm (arm ((by assumption)))))))))))) | fail) : p := h
theorem ed {p : Prop} (h : p := by first | (first | assumption | exact Ne.symm (by assumption) | exact arp (by assumption) | exact Ne.symm (arp (by assumption)) | exact arp (arm (by assumption)) | exact Ne.symm (arp (arm (by assumption))) | exact arr (by assumption) (by assumption) | exact art (by assumption) (by assumption) | exact arr (by assumption) qt | exact art (by assumption) qt) | fail) : p := h
theorem df {p : Prop} (h : p := by first | ((repeat' (first | exact WC.nil | apply WC.cons)); all_goals (first | exact W.of rfl | exact W.int rfl | exact W.nilb rfl | exact W.empb rfl | exact W.bysx rfl | exact W.nils rfl | exact W.emps rfl | exact W.slsx rfl)) | fail) : p := h
theorem qh {a b : Prop} (h : a \/ b := by first | exact Or.inl (by decide +kernel) | (refine Or.inr ?_; (try dsimp only); first | done | trivial)) : a \/ b := h
end Go.Am
