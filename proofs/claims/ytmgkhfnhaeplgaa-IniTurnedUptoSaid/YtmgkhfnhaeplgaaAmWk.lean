/-
  The abstract machine: values said more weakly. No program in sight.
-/
import Derived.Test.YtmgkhfnhaeplgaaAmAuto
namespace Go.Am
set_option linter.unusedSimpArgs false
set_option linter.unusedVariables false
open Go
theorem w_refl (x : AV) : W x x := W.of rfl
theorem w_sls {n : Nat} {xs ys : List AV} (h : WC xs ys) : W (.sls n xs) (.sls n ys) := fun g v hr => by
  simp only [Rep] at hr ⊢
  rcases hr with ⟨h1, h2, h3⟩ | ⟨b, off, cap, c, e, fz, h1, h2, h3, h4⟩
  · exact .inl ⟨h1, by have := h.1; rw [h2] at this; exact List.length_eq_zero_iff.1 this.symm, h3⟩
  · refine .inr ⟨b, off, cap, c, e, fz, h1, h2, h3, ?_⟩
    rw [repAt_iff] at h4 ⊢
    intro i y hy
    have hlt : i < xs.length := by rw [h.1]; exact (List.getElem?_eq_some_iff.1 hy).1
    have hx := List.getElem?_eq_getElem hlt
    obtain ⟨u, e1, e2, e3⟩ := h4 i _ hx
    exact ⟨u, e1, e2, h.2 i _ y hx hy g u e3⟩
theorem w_str0 {x : AV} (h : x = .raw (.string ⟨#[]⟩)) : W x (.str []) := fun g v hr => by
  subst h; simpa only [Rep] using hr
theorem wc_refl : ∀ xs : List AV, WC xs xs
  | [] => WC.nil
  | _ :: xs => WC.cons (w_refl _) (wc_refl xs)
theorem wc_app {xs ys us vs : List AV} (h : WC xs ys) (k : WC us vs) : WC (xs ++ us) (ys ++ vs) := by
  refine ⟨by rw [List.length_append, List.length_append, h.1, k.1], fun i x y hx hy => ?_⟩
  by_cases hi : i < xs.length
  · rw [List.getElem?_append_left hi] at hx
    rw [List.getElem?_append_left (by rw [← h.1]; exact hi)] at hy
    exact h.2 i x y hx hy
  · rw [List.getElem?_append_right (by omega)] at hx
    rw [List.getElem?_append_right (by rw [← h.1]; omega), ← h.1] at hy
    exact k.2 _ x y hx hy
/-- A point that several ways come to. -/
theorem aw_kmid {P : Program} {n : Nat} {c c2 : Code} {K K2 : Exit → Regs → AHeap → Prop} {R : Regs} {H : AHeap} (M : Regs → AHeap → Prop) (h1 : AW P n c (kseq (fun R' H' => ∃ R1 H1, Ent R' H' R1 H1 ∧ M R1 H1) K) R H)
    (h2 : ∀ R1 H1, M R1 H1 → AW P n c2 K2 R1 H1) : AW P n c (kseq (AW P n c2 K2) K) R H :=
  aw_mono h1 fun e R' H' hk => by
    cases e with
    | normal =>
      obtain ⟨R1, H1, he, hm⟩ := hk
      exact aw_ent he (h2 R1 H1 hm)
    | _ => exact hk
end Go.Am
