/-
  The abstract machine: slices that may be nothing, capacities, 'append' of so many zeroes on nothing. No program in sight.
-/
import Derived.Test.YtbciofnejefkiaaAmDrawB
import Derived.Lib.SliceRun
set_option linter.unusedSimpArgs false
set_option linter.unusedVariables false
namespace Go.Am
open Go
section
variable {P : Program}
end
section
variable {P : Program} {n : Nat} {K : Exit -> Regs -> AHeap -> Prop} {R : Regs} {H : AHeap} {ops : Array Oper} {rest : List Oper} {d : Tmp} {ty : TypeId} {pos : String} {af : Array Edge}
theorem ahb {x y : Operand} {ats : Array TypeId} {k k' : IntKind} {za zb : Int} {a b : Nat} [na : NatOf za a] [nb : NatOf zb b] (hx : am R x = .raw (.int k za)) (hy : am R y = .raw (.int k' zb)) :
    Stp P n (.call { callee := .builtin .min, args := #[x, y], argTypes := ats }) ty R H (.raw (.int k ((min a b : Nat) : Int))) := by
  cases na.h; cases nb.h
  exact du fun o ho ht g ac w hp => by
    have h1 := rv hp hx; have h2 := rv hp hy; simp only [Rep] at h1 h2; have e : (if b < a then (b : Int) else (a : Int)) = ((min a b : Nat) : Int) := by split <;> omega
    exact ⟨.int k ((min a b : Nat) : Int), by simp [execOp, ho, resolve, invoke, builtin, h1, h2, Builtin.min_, Builtin.min2, e], by simp only [Rep]⟩
theorem aa7 {x y : Operand} {ats : Array TypeId} {k k' : IntKind} {a b : Int} (hx : am R x = .raw (.int k a)) (hy : am R y = .raw (.int k' b)) :
    Stp P n (.call { callee := .builtin .max, args := #[x, y], argTypes := ats }) ty R H (.raw (.int k (max a b))) :=
  du fun o ho ht g ac w hp => by
    have h1 := rv hp hx; have h2 := rv hp hy; simp only [Rep] at h1 h2; have e : (if b > a then b else a) = max a b := by split <;> omega
    exact ⟨.int k (max a b), by simp [execOp, ho, resolve, invoke, builtin, h1, h2, Builtin.max_, Builtin.max2, e], by simp only [Rep]⟩
end
def WC (xs ys : List AV) : Prop := xs.length = ys.length /\ ∀ (i : Nat) (x y : AV), xs[i]? = some x -> ys[i]? = some y -> W x y
theorem WC.nil : WC [] [] := ⟨rfl, fun i x y h => by simp at h⟩
theorem WC.cons {x y : AV} {xs ys : List AV} (h : W x y) (hs : WC xs ys) : WC (x :: xs) (y :: ys) := ⟨by simp [hs.1], fun i u v h1 h2 => by
  cases i with
  | zero => simp at h1 h2; subst h1; subst h2; exact h
  | succ i => exact hs.2 i u v (by simpa using h1) (by simpa using h2)⟩
theorem Ent.wcel {R : Regs} {H : AHeap} {o : Nat} {xs ys : List AV} (h : WC xs ys) : Ent R (H.set o (.cel xs)) R (H.set o (.cel ys)) :=
  Ent.weak h.1.symm fun g c k hr => by
    rw [i6] at hr ⊢; intro i y hy; have hlt : i < xs.length := by rw [h.1]; exact (List.getElem?_eq_some_iff.1 hy).1
    have hx := List.getElem?_eq_getElem hlt; obtain ⟨u, e1, e2, e3⟩ := hr i _ hx; exact ⟨u, e1, e2, h.2 i _ y hx hy g u e3⟩
theorem Ent.wcelH {R : Regs} {H H0 : AHeap} {o : Nat} {xs ys : List AV} (hH : H = H0.set o (.cel xs)) (h : WC xs ys) : Ent R H R (H0.set o (.cel ys)) := by subst hH; exact Ent.wcel h
section
variable {P : Program} {n : Nat} {ops : Array Oper} {K : Exit -> Regs -> AHeap -> Prop} {R : Regs} {H H0 : AHeap} {rest : List Oper} {ty : TypeId} {pos : String} {af : Array Edge} {t : TypeId} {x y : Operand}
theorem apt {ob k : Nat} {xs : List AV} {av : AV} [hC : CellT P t] (hx : am R x = .ptr ob k) (hy : am R y = av) (hH : H = H0.set ob (.cel xs)) (h1 : av.one1 = true) (hk : k < xs.length)
    (hcont : AWL P n ops rest K R (H0.set ob (.cel (xs.set k av)))) : AWL P n ops (⟨none, .store t x y, ty, pos, af, none⟩ :: rest) K R H := by
  subst hH; exact ag6 hx hy (arn _ _ _) h1 hk (by rw [AHeap.set_set]; exact hcont)
theorem aex {ob k m : Nat} {xs ys : List AV} [hA : AggT P t m] (hx : am R x = .ptr ob k) (hy : am R y = .agg ys) (hH : H = H0.set ob (.cel xs)) (hm : ys.length = m) (h1 : ys.all AV.one1 = true) (hk : k + m <= xs.length)
    (hcont : AWL P n ops rest K R (H0.set ob (.cel (putAt xs k ys)))) : AWL P n ops (⟨none, .store t x y, ty, pos, af, none⟩ :: rest) K R H := by
  subst hH; exact adh hx hy (arn _ _ _) rfl h1 hA.s hm hk (by rw [AHeap.set_set]; exact hcont)
end
end Go.Am
