import Derived.Test.YtkoplehddnhajaaBt4
namespace Go.Proofs.Ytkoplehddnhajaa
open Go Go.Am Go.Proofs
set_option linter.unusedSimpArgs false
set_option linter.unusedVariables false

/-! The order of alarms: by their time, of one time by their names. -/
abbrev Nm := List UInt8
def lx (tm : Nm → Int) (x y : Nm) : Prop := tm x < tm y ∨ (tm x = tm y ∧ x < y)
section
variable {tm : Nm → Int}
theorem nm_asymm {x y : Nm} (h : x < y) : ¬ y < x := fun k => List.lt_irrefl x (List.lt_trans h k)
theorem lx_irrefl (x : Nm) : ¬ lx tm x x := fun h => by
  rcases h with h | ⟨_, h⟩
  · omega
  · exact List.lt_irrefl x h
theorem lx_trans {x y z : Nm} (h : lx tm x y) (k : lx tm y z) : lx tm x z := by
  rcases h with h | ⟨h1, h2⟩ <;> rcases k with k | ⟨k1, k2⟩
  · exact .inl (by omega)
  · exact .inl (by omega)
  · exact .inl (by omega)
  · exact .inr ⟨by omega, List.lt_trans h2 k2⟩
theorem cmp_neg (a b : Int) : cmpI a b < 0 ↔ a < b := by
  unfold cmpI; (repeat' split) <;> omega
theorem cmp_lx {x y : Nm} (h : x < y) : cmpI (tm y) (tm x) < 0 ↔ lx tm y x := by
  rw [cmp_neg]
  exact ⟨.inl, fun k => k.elim id fun k => absurd k.2 (nm_asymm h)⟩
theorem not_lx {x y : Nm} (h : x < y) (k : ¬ lx tm y x) : lx tm x y := by
  by_cases e : tm x < tm y
  · exact .inl e
  · refine .inr ⟨?_, h⟩
    have : ¬ tm y < tm x := fun h => k (.inl h)
    omega
abbrev Srt (tm : Nm → Int) (l : List Nm) : Prop := l.Pairwise (lx tm)
theorem all_before {R1 : List Nm} {x : Nm} (h : Srt tm R1) (hl : ∀ z ∈ R1.getLast?, lx tm z x) : ∀ r ∈ R1, lx tm r x := by
  intro r hr
  cases e : R1.getLast? with
  | none => rw [List.getLast?_eq_none_iff.1 e] at hr; cases hr
  | some z =>
    have hz := hl z e
    obtain ⟨R, rfl⟩ := List.getLast?_eq_some_iff.1 e
    rcases List.mem_append.1 hr with h1 | h1
    · exact lx_trans ((List.pairwise_append.1 h).2.2 r h1 z (List.mem_singleton.2 rfl)) hz
    · rw [List.mem_singleton.1 h1]; exact hz
theorem all_behind {R2 : List Nm} {x : Nm} (h : Srt tm R2) (hl : ∀ z ∈ R2.head?, lx tm x z) : ∀ r ∈ R2, lx tm x r := by
  cases R2 with
  | nil => intro r hr; cases hr
  | cons z R =>
    have hz := hl z rfl
    intro r hr
    rcases List.mem_cons.1 hr with rfl | h1
    · exact hz
    · exact lx_trans hz ((List.pairwise_cons.1 h).1 r h1)
theorem srt_insert {R1 R2 : List Nm} {x : Nm} (h : Srt tm (R1 ++ R2)) (h1 : ∀ z ∈ R1.getLast?, lx tm z x) (h2 : ∀ z ∈ R2.head?, lx tm x z) : Srt tm (R1 ++ x :: R2) := by
  obtain ⟨k1, k2, k3⟩ := List.pairwise_append.1 h
  have b1 := all_before k1 h1
  have b2 := all_behind k2 h2
  refine List.pairwise_append.2 ⟨k1, List.pairwise_cons.2 ⟨b2, k2⟩, fun a ha b hb => ?_⟩
  rcases List.mem_cons.1 hb with rfl | hb
  · exact b1 a ha
  · exact k3 a ha b hb
/-- The two halves that a merge's turn leaves. -/
theorem srt_halves {L1 L2 R1 R2 : List Nm} (hL : Srt tm (L1 ++ L2)) (hR : Srt tm (R1 ++ R2)) (h1 : ∀ x ∈ L1.getLast?, ∀ y ∈ R2.head?, lx tm x y) (h2 : ∀ x ∈ R1.getLast?, ∀ y ∈ L2.head?, lx tm x y) :
    ∀ x ∈ L1 ++ R1, ∀ y ∈ L2 ++ R2, lx tm x y := by
  obtain ⟨a1, a2, a3⟩ := List.pairwise_append.1 hL
  obtain ⟨b1, b2, b3⟩ := List.pairwise_append.1 hR
  have key : ∀ (P Q : List Nm), Srt tm P → Srt tm Q → (∀ x ∈ P.getLast?, ∀ y ∈ Q.head?, lx tm x y) → ∀ x ∈ P, ∀ y ∈ Q, lx tm x y := by
    intro P Q hP hQ h x hx y hy
    exact all_behind hQ (fun z hz => all_before hP (fun w hw => h w hw z hz) x hx) y hy
  intro x hx y hy
  rcases List.mem_append.1 hx with hx | hx <;> rcases List.mem_append.1 hy with hy | hy
  · exact a3 x hx y hy
  · exact key L1 R2 a1 b2 h1 x hx y hy
  · exact key R1 L2 b1 a2 h2 x hx y hy
  · exact b3 x hx y hy
theorem srt_join {L1 L2 R1 R2 S1 S2 : List Nm} (h : ∀ x ∈ L1 ++ R1, ∀ y ∈ L2 ++ R2, lx tm x y) (p1 : S1.Perm (L1 ++ R1)) (p2 : S2.Perm (L2 ++ R2)) (s1 : Srt tm S1) (s2 : Srt tm S2) :
    Srt tm (S1 ++ S2) ∧ (S1 ++ S2).Perm (L1 ++ L2 ++ (R1 ++ R2)) := by
  refine ⟨List.pairwise_append.2 ⟨s1, s2, fun x hx y hy => h x (p1.mem_iff.1 hx) y (p2.mem_iff.1 hy)⟩, (p1.append p2).trans ?_⟩
  rw [List.append_assoc, List.append_assoc]
  refine List.Perm.append_left L1 ?_
  rw [← List.append_assoc, ← List.append_assoc]
  exact List.Perm.append_right R2 List.perm_append_comm
end
end Go.Proofs.Ytkoplehddnhajaa
