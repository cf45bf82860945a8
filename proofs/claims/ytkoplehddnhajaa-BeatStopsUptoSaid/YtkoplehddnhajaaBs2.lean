import Derived.Test.YtkoplehddnhajaaBt8
namespace Go.Proofs.Ytkoplehddnhajaa
open Go Go.Am Go.Proofs
set_option linter.unusedSimpArgs false
set_option linter.unusedVariables false

/-! Blocks of one width, each sorted. -/
inductive Bl (tm : Nm → Int) (w : Nat) : List Nm → List Nm → Prop
  | last {zs ys : List Nm} : zs.length ≤ w → ys.Perm zs → Srt tm ys → Bl tm w zs ys
  | cons {X Y zs ys : List Nm} : X.length = w → Y.Perm X → Srt tm Y → Bl tm w zs ys → Bl tm w (X ++ zs) (Y ++ ys)
section
variable {tm : Nm → Int} {w : Nat}
theorem bl_perm {zs ys : List Nm} (h : Bl tm w zs ys) : ys.Perm zs := by
  induction h with
  | last _ p _ => exact p
  | cons _ p _ _ ih => exact p.append ih
theorem bl_one {zs ys : List Nm} (h : Bl tm w zs ys) (hl : zs.length ≤ w) : ys.Perm zs ∧ Srt tm ys := by
  cases h with
  | last _ p s => exact ⟨p, s⟩
  | @cons X Y zs ys hX p s k =>
    have e : zs = [] := List.length_eq_zero_iff.1 (by rw [List.length_append] at hl; omega)
    subst e
    have e2 : ys = [] := List.perm_nil.1 (bl_perm k)
    subst e2
    simp only [List.append_nil]
    exact ⟨p, s⟩
theorem bl_split {zs ys : List Nm} (h : Bl tm w zs ys) (hl : w ≤ zs.length) : ∃ X Y zs2 ys2, zs = X ++ zs2 ∧ ys = Y ++ ys2 ∧ X.length = w ∧ Y.Perm X ∧ Srt tm Y ∧ Bl tm w zs2 ys2 := by
  cases h with
  | last hz p s => exact ⟨zs, ys, [], [], by simp, by simp, by omega, p, s, .last (by simp) (List.Perm.refl _) List.Pairwise.nil⟩
  | @cons X Y zs ys hX p s k => exact ⟨X, Y, zs, ys, rfl, rfl, hX, p, s, k⟩
theorem names_rise {X X' Y Y' Z T : List Nm} (h : (Z ++ (X ++ (Y ++ T))).Pairwise (· < ·)) (p : X'.Perm X) (q : Y'.Perm Y) : ∀ x ∈ X', ∀ y ∈ Y', x < y := fun x hx y hy => by
  have h := (List.pairwise_append.1 h).2.1
  exact (List.pairwise_append.1 h).2.2 x (p.mem_iff.1 hx) y (List.mem_append_left _ (q.mem_iff.1 hy))
end
end Go.Proofs.Ytkoplehddnhajaa
