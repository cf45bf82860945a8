/-
  The abstract machine: more rules. No program in sight.
-/
import Derived.Test.YtmgkhfnhaeplgaaAmDraw
namespace Go.Am
open Go
section
variable {P : Program} {n : Nat} {K : Exit → Regs → AHeap → Prop} {R : Regs} {H : AHeap} {ops : Array Oper} {rest : List Oper} {ty : TypeId} {d : Tmp} {pos : String} {af : Array Edge} {t t2 : TypeId} {x y s : Operand} {bv : AV} {m e sz bytes : Nat} {z : Value}

theorem eqL_nil : ([] : List AV) = [] := rfl
theorem eqL_cons {x y : AV} {xs ys : List AV} (h : x = y) (h2 : xs = ys) : x :: xs = y :: ys := by rw [h, h2]
/-- A literal of a struct, its parts first. -/
theorem s_buildv {pl : List (Nat × Nat)} {zs : List Value} [hB : BuildT P t pl zs] {parts : Array (Nat × Operand)} {vs xs : List AV} (hv : (parts.toList.map fun p => reval R p.2) = vs)
    (hx : afill pl (zs.map .raw) ((parts.toList.map (·.1)).zip vs) = some xs) : Stp P n (.build t parts) ty R H (.agg xs) := by
  refine s_build ?_
  rw [← hx, ← hv]
  congr 1
  generalize parts.toList = l
  induction l with
  | nil => rfl
  | cons p l ih => simp only [List.map_cons, List.zip_cons_cons, ih]

/-- A literal of a slice, its parts first; it is not written again. -/
theorem s_buildSlicev {len : Nat} [hT : SliceT P t e sz bytes z] {ps : Array (Nat × Operand)} {vs ys : List AV} (hv : (ps.toList.map fun p => reval R p.2) = vs) (hi : ps.toList.map (·.1) = List.range vs.length) (hlen : vs.length = len)
    (hx : (vs.all fun x => x.parts.all AV.one1 && x.parts.length == sz) = true) (hys : vs.flatMap AV.parts = ys) (hsmall : len * sz ≤ 16777216) : Stp P n (.buildSlice t len ps) ty R H (.slsx len ys) :=
  s_buildSlice (hT := hT) ⟨hi, hv⟩ hlen (fun x h => by have := List.all_eq_true.1 hx x h; simp only [Bool.and_eq_true, beq_iff_eq] at this; exact this) hys hsmall
theorem srcA_vwc {H : AHeap} {o sz off len : Nat} {a : List AV} (hx : H o = some (.cel a)) (hl : off + len * sz ≤ a.length) : SrcA H (.vw o sz off len) len sz (.cel ((a.drop off).take (len * sz))) := srcA_vw H o sz off len (.cel a) hx (fun _ h => by cases h) hl
theorem emp_base : ∀ g v, Rep g .emp v → ∃ base, v = .slice base 0 0 := fun g v h => by simp only [Rep] at h; exact h
theorem nil_base : ∀ g v, Rep g (.raw (.slice none 0 0)) v → ∃ base, v = .slice base 0 0 := fun g v h => by simp only [Rep] at h; exact ⟨none, h⟩

theorem awl_own_emp_cel [hT : SliceT P t e sz bytes z] [h2 : NotIntT P t2] {xs : List AV} (hdn : Nat.blt d n = true) (hs : reval R s = .emp) (hx : reval R x = bv) (hb : SrcA H bv m sz (.cel xs)) (h63 : m ≤ 9223372036854775807) (hby : m * bytes ≤ 140737488355328)
    (hk : ∀ o', H o' = none → AWL P n ops rest K ((d, .vw o' sz 0 m) :: R) (H.set o' (.cel xs))) : AWL P n ops (⟨some d, .call { callee := .builtin .append, args := #[s, x], argTypes := #[t, t2] }, ty, pos, af, none⟩ :: rest) K R H :=
  awl_append_0 (hT := hT) hdn hs hx emp_base hb (fun _ h => by cases h) h63 hby hk
theorem awl_own_nil_cel [hT : SliceT P t e sz bytes z] [h2 : NotIntT P t2] {xs : List AV} (hdn : Nat.blt d n = true) (hs : reval R s = .raw (.slice none 0 0)) (hx : reval R x = bv) (hb : SrcA H bv m sz (.cel xs)) (h63 : m ≤ 9223372036854775807) (hby : m * bytes ≤ 140737488355328)
    (hk : ∀ o', H o' = none → AWL P n ops rest K ((d, .vw o' sz 0 m) :: R) (H.set o' (.cel xs))) : AWL P n ops (⟨some d, .call { callee := .builtin .append, args := #[s, x], argTypes := #[t, t2] }, ty, pos, af, none⟩ :: rest) K R H :=
  awl_append_0 (hT := hT) hdn hs hx nil_base hb (fun _ h => by cases h) h63 hby hk

theorem s_mulu {za zb : Int} {a b : Nat} [na : NatOf za a] [nb : NatOf zb b] (hx : reval R x = .raw (.int .u64 za)) (hy : reval R y = .raw (.int .u64 zb)) (h : a * b ≤ 18446744073709551615) : Stp P n (.binOp .mul t x y t2) ty R H (.raw (.int .u64 ((a * b : Nat) : Int))) := by
  cases na.h; cases nb.h
  have := s_mul (P := P) (n := n) (H := H) (ty := ty) (t := t) (t2 := t2) hx hy
  rwa [show (a : Int) * (b : Int) = ((a * b : Nat) : Int) by rw [Int.natCast_mul], wrap_u64_id (by omega) (by omega)] at this
/-- A slice that is nothing, as an object of its own that holds nothing. -/
theorem aw_own_nil {c : Code} (i sz : Nat) (x : AO) (hv : x.void) (hi : rget R i = .raw (.slice none 0 0)) (h : ∀ o, H o = none → AW P n c K ((i, .vw o sz 0 0) :: R) (H.set o x)) : AW P n c K R H := fun g a w hp => by
  obtain ⟨o, ho, hl⟩ := hp.sim.fresh
  have hr := hp.regs i
  rw [hi] at hr
  simp only [Rep] at hr
  refine h o ho g a w ⟨hp.defers, hp.size, fun j => ?_, hp.sim.void hl hv⟩
  simp only [rget]
  split
  · rename_i hb
    rw [← Nat.eq_of_beq_eq_true hb, hr]
    simp only [Rep]
    exact .inr ⟨trivial, none, rfl⟩
  · exact hp.regs j

end
end Go.Am
