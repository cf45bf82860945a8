/-
  The abstract machine: values said more weakly. No program in sight.
-/
import Derived.Test.YtbciofnejefkiaaAmAuto
namespace Go.Am
set_option linter.unusedSimpArgs false
set_option linter.unusedVariables false
open Go
theorem apw (x : AV) : W x x := W.of rfl
theorem qb {xs ys : List AV} (h : WL xs ys) : W (.agg xs) (.agg ys) := fun g v hr => by
  simp only [Rep] at hr ⊢; obtain ⟨a, e, r⟩ := hr; exact ⟨a, e, h g _ r⟩
theorem aab : ∀ xs : List AV, WC xs xs
  | [] => WC.nil
  | _ :: xs => WC.cons (apw _) (aab xs)
theorem am7 {xs ys us vs : List AV} (h : WC xs ys) (k : WC us vs) : WC (xs ++ us) (ys ++ vs) := by
  refine ⟨by rw [List.length_append, List.length_append, h.1, k.1], fun i x y hx hy => ?_⟩
  by_cases hi : i < xs.length
  · rw [List.getElem?_append_left hi] at hx
    rw [List.getElem?_append_left (by rw [<- h.1]; exact hi)] at hy
    exact h.2 i x y hx hy
  · rw [List.getElem?_append_right (by omega)] at hx
    rw [List.getElem?_append_right (by rw [<- h.1]; omega), <- h.1] at hy
    exact k.2 _ x y hx hy
theorem mg {P : Program} {n : Nat} {c c2 : Code} {K K2 : Exit -> Regs -> AHeap -> Prop} {R : Regs} {H : AHeap} (M : Regs -> AHeap -> Prop) (h1 : AW P n c (kseq (fun R' H' => ∃ R1 H1, Ent R' H' R1 H1 /\ M R1 H1) K) R H)
    (h2 : ∀ R1 H1, M R1 H1 -> AW P n c2 K2 R1 H1) : AW P n c (kseq (AW P n c2 K2) K) R H :=
  arj h1 fun e R' H' hk => by
    cases e with
    | normal =>
      obtain ⟨R1, H1, he, hm⟩ := hk; exact dy he (h2 R1 H1 hm)
    | _ => exact hk
end Go.Am
