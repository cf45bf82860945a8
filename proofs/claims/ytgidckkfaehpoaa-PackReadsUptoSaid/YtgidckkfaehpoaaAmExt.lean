/-
  The abstract machine: more rules. No program in sight.
-/
import Derived.Test.YtgidckkfaehpoaaAmDraw
namespace Go.Am
open Go
section
variable {P : Program} {n : Nat} {K : Exit → Regs → AHeap → Prop} {R : Regs} {H : AHeap} {ops : Array Oper} {rest : List Oper} {ty : TypeId} {d : Tmp} {pos : String} {af : Array Edge} {t t2 : TypeId} {x y s : Operand} {bv : AV} {m e sz bytes : Nat} {z : Value}

theorem eqL_nil : ([] : List AV) = [] := rfl
theorem eqL_cons {x y : AV} {xs ys : List AV} (h : x = y) (h2 : xs = ys) : x :: xs = y :: ys := by rw [h, h2]
/-- A literal of a struct, its parts first. -/
theorem s_buildv {pl : List (Nat × Nat)} {zs : List Value} [hB : BuildT P t pl zs] {parts : Array (Nat × Operand)} {vs xs : List AV} (hv : (parts.toList.map fun p => reval R p.2) = vs)
    (hx : afill pl (zs.map .raw) ((parts.toList.map (·.1)).zip vs) = some xs) : Stp P n (.build t parts) ty R H (.agg xs) := by
  refine s_build ?_
  rw [← hx, ← hv]
  congr 1
  generalize parts.toList = l
  induction l with
  | nil => rfl
  | cons p l ih => simp only [List.map_cons, List.zip_cons_cons, ih]

theorem AHeap.two_set {H : AHeap} {o p : Nat} {a b c e : AO} (h : p ≠ o) : (((H.set o a).set p b).set o c).set p e = (H.set o c).set p e := by
  funext q
  simp only [AHeap.set]
  by_cases h1 : q = p
  · simp [h1]
  · simp only [h1, if_false]
    by_cases h2 : q = o
    · simp [h2]
    · simp [h2]

theorem emp_base : ∀ g v, Rep g .emp v → ∃ base, v = .slice base 0 0 := fun g v h => by simp only [Rep] at h; exact h
theorem nil_base : ∀ g v, Rep g (.raw (.slice none 0 0)) v → ∃ base, v = .slice base 0 0 := fun g v h => by simp only [Rep] at h; exact ⟨none, h⟩

/-- 'append' on nothing: an object of its own. -/
theorem awl_own_emp_byt [hT : SliceT P t e 1 bytes z] [h2 : NotIntT P t2] {bs : List UInt8} (hdn : Nat.blt d n = true) (hs : reval R s = .emp) (hx : reval R x = bv) (hb : SrcA H bv m 1 (.byt bs)) (h63 : m ≤ 9223372036854775807) (hby : m * bytes ≤ 140737488355328)
    (hk : ∀ o', H o' = none → AWL P n ops rest K ((d, .vw o' 1 0 m) :: R) (H.set o' (.byt bs))) : AWL P n ops (⟨some d, .call { callee := .builtin .append, args := #[s, x], argTypes := #[t, t2] }, ty, pos, af, none⟩ :: rest) K R H :=
  awl_append_0 (hT := hT) hdn hs hx emp_base hb (fun _ h => by cases h) h63 hby hk
theorem awl_own_nil_byt [hT : SliceT P t e 1 bytes z] [h2 : NotIntT P t2] {bs : List UInt8} (hdn : Nat.blt d n = true) (hs : reval R s = .raw (.slice none 0 0)) (hx : reval R x = bv) (hb : SrcA H bv m 1 (.byt bs)) (h63 : m ≤ 9223372036854775807) (hby : m * bytes ≤ 140737488355328)
    (hk : ∀ o', H o' = none → AWL P n ops rest K ((d, .vw o' 1 0 m) :: R) (H.set o' (.byt bs))) : AWL P n ops (⟨some d, .call { callee := .builtin .append, args := #[s, x], argTypes := #[t, t2] }, ty, pos, af, none⟩ :: rest) K R H :=
  awl_append_0 (hT := hT) hdn hs hx nil_base hb (fun _ h => by cases h) h63 hby hk
theorem awl_own_emp_cel [hT : SliceT P t e sz bytes z] [h2 : NotIntT P t2] {xs : List AV} (hdn : Nat.blt d n = true) (hs : reval R s = .emp) (hx : reval R x = bv) (hb : SrcA H bv m sz (.cel xs)) (h63 : m ≤ 9223372036854775807) (hby : m * bytes ≤ 140737488355328)
    (hk : ∀ o', H o' = none → AWL P n ops rest K ((d, .vw o' sz 0 m) :: R) (H.set o' (.cel xs))) : AWL P n ops (⟨some d, .call { callee := .builtin .append, args := #[s, x], argTypes := #[t, t2] }, ty, pos, af, none⟩ :: rest) K R H :=
  awl_append_0 (hT := hT) hdn hs hx emp_base hb (fun _ h => by cases h) h63 hby hk
theorem awl_own_nil_cel [hT : SliceT P t e sz bytes z] [h2 : NotIntT P t2] {xs : List AV} (hdn : Nat.blt d n = true) (hs : reval R s = .raw (.slice none 0 0)) (hx : reval R x = bv) (hb : SrcA H bv m sz (.cel xs)) (h63 : m ≤ 9223372036854775807) (hby : m * bytes ≤ 140737488355328)
    (hk : ∀ o', H o' = none → AWL P n ops rest K ((d, .vw o' sz 0 m) :: R) (H.set o' (.cel xs))) : AWL P n ops (⟨some d, .call { callee := .builtin .append, args := #[s, x], argTypes := #[t, t2] }, ty, pos, af, none⟩ :: rest) K R H :=
  awl_append_0 (hT := hT) hdn hs hx nil_base hb (fun _ h => by cases h) h63 hby hk

theorem s_mulu {za zb : Int} {a b : Nat} [na : NatOf za a] [nb : NatOf zb b] (hx : reval R x = .raw (.int .u64 za)) (hy : reval R y = .raw (.int .u64 zb)) (h : a * b ≤ 18446744073709551615) : Stp P n (.binOp .mul t x y t2) ty R H (.raw (.int .u64 ((a * b : Nat) : Int))) := by
  cases na.h; cases nb.h
  have := s_mul (P := P) (n := n) (H := H) (ty := ty) (t := t) (t2 := t2) hx hy
  rwa [show (a : Int) * (b : Int) = ((a * b : Nat) : Int) by rw [Int.natCast_mul], wrap_u64_id (by omega) (by omega)] at this
theorem s_neg64 {a : Int} (hx : reval R x = .raw (.int .i64 a)) (h1 : -9223372036854775807 ≤ a) (h2 : a ≤ 9223372036854775807) : Stp P n (.unOp .neg t x) ty R H (.raw (.int .i64 (-a))) := by
  have := s_neg (P := P) (n := n) (H := H) (ty := ty) (t := t) hx
  rwa [Int.zero_sub, wrap_i64_id (by omega) (by omega)] at this
/-- A number that is not below 0, as an unsigned one. -/
theorem s_convnn {s t' : TypeId} {k : IntKind} {z : Int} [hT : IntT P t' .u64] [hS : KnownT P s] (hx : reval R x = .raw (.int k z)) (h1 : 0 ≤ z) (h2 : z ≤ 18446744073709551615) : Stp P n (.convert s t' x) ty R H (.raw (.int .u64 ((z.toNat : Nat) : Int))) := by
  have := s_conv_id (P := P) (n := n) (H := H) (ty := ty) (s := s) (t := t') (k' := .u64) hx (wrap_u64_id h1 h2)
  rwa [show ((z.toNat : Nat) : Int) = z by omega]
end
end Go.Am
