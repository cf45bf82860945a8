/-
  The abstract machine: a field of a struct value. No program in sight.
-/
import Derived.Test.YtmgkhfnhaeplgaaAmMap
namespace Go.Am
open Go
class FldV (P : Program) (s : TypeId) (f : Nat) (k : outParam Nat) : Prop where
  h : ∃ fs fd, P.underlying s = some (.struct fs) ∧ fs[f]? = some fd ∧ fd.offset = k ∧ CellT P fd.type
class FldG (P : Program) (s : TypeId) (f : Nat) (k m : outParam Nat) : Prop where
  h : ∃ fs fd, P.underlying s = some (.struct fs) ∧ fs[f]? = some fd ∧ fd.offset = k ∧ AggT P fd.type m
section
variable {P : Program} {n : Nat} {R : Regs} {H : AHeap} {ty : TypeId}
theorem is_fieldv {t : TypeId} {x : Operand} {f : Nat} {v : AV} (h : Stp P n (.field t x f) ty R H v) : Stp P n (.field t x f) ty R H v := h
theorem s_fieldv {t : TypeId} {x : Operand} {f k : Nat} {xs : List AV} {y : AV} [hF : FldV P t f k] (hx : reval R x = .agg xs) (hy : xs[k]? = some y) : Stp P n (.field t x f) ty R H y := by
  obtain ⟨fs, fd, e1, e2, e3, e4⟩ := hF.h
  exact s_field1 ⟨fs, fd, e1, e2, e3, e4.a⟩ hx hy
theorem s_fieldg {t : TypeId} {x : Operand} {f k m : Nat} {xs : List AV} [hF : FldG P t f k m] (hx : reval R x = .agg xs) (hl : k + m ≤ xs.length) : Stp P n (.field t x f) ty R H (.agg ((xs.drop k).take m)) :=
  stp_pure fun o ho ht g a w hp => by
    have h1 := rv hp hx
    simp only [Rep] at h1
    obtain ⟨ar, he, hr⟩ := h1
    have hr' := (repL_iff _ _).1 hr
    obtain ⟨fs, fd, e1, e2, e3, e4⟩ := hF.h
    refine ⟨.agg (ar.extract k (k + m)), by simp [execOp, ho, he, Instr.field, run_underlying e1, e2, part, e4.a, e4.s, asAgg, e3], ?_⟩
    simp only [Rep]
    refine ⟨_, rfl, (repL_iff _ _).2 ⟨?_, fun i y hy => ?_⟩⟩
    · have := hr'.1
      simp at this ⊢
      omega
    · rw [List.getElem?_take] at hy
      split at hy
      · rw [List.getElem?_drop] at hy
        obtain ⟨u, hu, hy'⟩ := hr'.2 _ _ hy
        rw [Array.getElem?_toList] at hu
        refine ⟨u, ?_, hy'⟩
        have hk := (Array.getElem?_eq_some_iff.1 hu).1
        rw [Array.getElem?_toList, Array.getElem?_extract, if_pos (by omega)]
        exact hu
      · cases hy
end
end Go.Am
