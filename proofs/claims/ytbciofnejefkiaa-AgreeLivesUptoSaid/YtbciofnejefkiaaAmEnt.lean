/-
  The abstract machine: ghost steps that say less; rows of like things. No program in sight.
-/
import Derived.Test.YtbciofnejefkiaaAmDisp
set_option linter.unusedSimpArgs false
set_option linter.unusedVariables false
namespace Go.Am
open Go
def RSubW : Regs -> Regs -> Prop
  | [], _ => True
  | (i, x) :: R0, R => W (rget R i) x /\ RSubW R0 R
theorem RSubW.nil (R : Regs) : RSubW [] R := trivial
theorem RSubW.cons {i : Nat} {x : AV} {R0 R : Regs} (h : W (rget R i) x) (h2 : RSubW R0 R) : RSubW ((i, x) :: R0) R := ⟨h, h2⟩
theorem RSubW.get : ∀ {R0 R : Regs}, RSubW R0 R -> ∀ i, rget R0 i = .unk \/ W (rget R i) (rget R0 i)
  | [], _, _, _ => .inl rfl
  | (j, x) :: R0, R, h, i => by
    simp only [rget]; by_cases hb : Nat.beq j i = true
    · simp only [hb, if_true]; exact .inr (by rw [<- Nat.eq_of_beq_eq_true hb]; exact h.1)
    · simp only [hb, Bool.false_eq_true, if_false]; exact RSubW.get h.2 i
theorem RegRel.subw {g : Gh} {R0 R : Regs} {t : Array Value} (h : RegRel g R t) (hs : RSubW R0 R) : RegRel g R0 t := fun i => by
  rcases hs.get i with h0 | h0
  · rw [h0]; simp only [Rep]
  · exact h0 g _ (h i)
theorem Ent.tow {R0 R : Regs} {H H' : AHeap} (hs : RSubW R0 R) (hh : H' = H) : Ent R H R0 H' := by
  subst hh; exact fun g _ _ h1 h2 => ⟨g, .refl g, h1.subw hs, h2⟩
theorem Ent.weakReg {R : Regs} {H : AHeap} (i : Nat) {x y : AV} (hi : rget R i = x) (hw : W x y) : Ent R H ((i, y) :: R) H := fun g t w h1 h2 =>
  ⟨g, .refl g, fun j => by
    simp only [rget]; by_cases hb : Nat.beq i j = true
    · simp only [hb, if_true]
      have := Nat.eq_of_beq_eq_true hb; subst this; exact hw _ _ (hi ▸ h1 i)
    · simp only [hb, Bool.false_eq_true, if_false]; exact h1 j, h2⟩
theorem alk {α : Type} {f : α -> AV} {l : List α} {i : Nat} {x : α} (h : l[i]? = some x) : (l.map f)[i * 1]? = some (f x) := by simp [h]
theorem yb {α : Type} {f : α -> List AV} {sz : Nat} (hf : ∀ x, (f x).length = sz) : ∀ {l : List α} {i : Nat}, (l.flatMap f).drop (i * sz) = (l.drop i).flatMap f
  | [], i => by simp
  | x :: l, 0 => by simp
  | x :: l, i + 1 => by
    rw [List.flatMap_cons, List.drop_append, hf, List.drop_eq_nil_of_le (by rw [hf, Nat.add_mul]; omega), List.nil_append, show (i + 1) * sz - sz = i * sz by rw [Nat.add_mul]; omega, yb hf]
    rfl
theorem aix {α : Type} {f : α -> List AV} {sz : Nat} (hf : ∀ x, (f x).length = sz) {l : List α} {i k : Nat} {x : α} (h : l[i]? = some x) (hk : k < sz) {y : AV} (hy : (f x)[k]? = some y) : (l.flatMap f)[i * sz + k]? = some y := by
  rw [<- List.getElem?_drop, yb hf]; have hlt := (List.getElem?_eq_some_iff.1 h).1; rw [List.drop_eq_getElem_cons hlt, List.flatMap_cons, List.getElem?_append_left (by rw [hf]; exact hk)]
  have : l[i] = x := by have := (List.getElem?_eq_some_iff.1 h).2; exact this
  rw [this]; exact hy
theorem wh {α : Type} {f : α -> List AV} {sz : Nat} (hf : ∀ x, (f x).length = sz) {l : List α} {i : Nat} {x : α} (h : l[i]? = some x) : ((l.flatMap f).drop (i * sz)).take sz = f x := by
  rw [yb hf]; have hlt := (List.getElem?_eq_some_iff.1 h).1; rw [List.drop_eq_getElem_cons hlt, List.flatMap_cons, List.take_append_of_le_length (by rw [hf]; exact Nat.le_refl _)]
  have : l[i] = x := by have := (List.getElem?_eq_some_iff.1 h).2; exact this
  rw [this, List.take_of_length_le (by rw [hf]; exact Nat.le_refl _)]
theorem i8 {α : Type} {f : α -> List AV} {sz : Nat} (hf : ∀ x, (f x).length = sz) (l : List α) : (l.flatMap f).length = l.length * sz := by
  induction l with
  | nil => simp
  | cons x l ih => rw [List.flatMap_cons, List.length_append, hf, ih, List.length_cons, Nat.add_mul]; omega
end Go.Am
