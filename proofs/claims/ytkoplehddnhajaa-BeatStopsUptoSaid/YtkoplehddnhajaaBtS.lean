import Derived.Test.YtkoplehddnhajaaBt10
namespace Go.Am
open Go
/-! Cells at an object's end that are let go. -/
theorem repAt_init {g : Gh} : ∀ (xs ys : List AV) (c : Array Value) (k : Nat), RepAt g (xs ++ ys) c k → RepAt g xs c k
  | [], _, _, _, _ => by simp only [RepAt]
  | x :: xs, ys, c, k, h => by
    rw [List.cons_append] at h
    simp only [RepAt] at h ⊢
    exact ⟨h.1, repAt_init xs ys c _ h.2⟩
theorem Sim.shrink {g : Gh} {H : AHeap} {w : World} (h : Sim g H w) {o : Nat} {xs ys : List AV} (hx : H o = some (.cel (xs ++ ys))) : Sim g (H.set o (.cel xs)) w := by
  have sub : ∀ p y, H.set o (.cel xs) p = some y → ∃ y', H p = some y' := fun p y hp => by
    simp only [AHeap.set] at hp
    split at hp
    · rename_i e; exact ⟨_, e ▸ hx⟩
    · exact ⟨y, hp⟩
  refine ⟨h.os, h.tape, h.output, h.sealed, ?_, fun o1 o2 x1 x2 l1 l2 h1 h2 k1 k2 => ?_, fun p y l hp hl => ?_, ?_⟩
  · intro p y hp
    simp only [AHeap.set] at hp
    split at hp
    · rename_i e
      cases hp
      subst e
      rcases h.objs p _ hx with ⟨hv, hl⟩ | ⟨l, c, e, fz, h1, h2, h3, h4, h5, h6⟩ | ⟨l, es, es', ck, h1, _⟩
      · exact .inl ⟨(List.append_eq_nil_iff.1 hv).1, hl⟩
      · refine .inr (.inl ⟨l, c, e, fz, h1, h2, h3, h4, ?_, repAt_init xs ys c _ h6⟩)
        rw [List.length_append] at h5
        omega
      · cases h1
    · exact h.objs p y hp
  · obtain ⟨y1, e1⟩ := sub _ _ h1
    obtain ⟨y2, e2⟩ := sub _ _ h2
    exact h.inj _ _ _ _ _ _ e1 e2 k1 k2
  · obtain ⟨y1, e1⟩ := sub _ _ hp
    exact h.apart p y1 l e1 hl
  · obtain ⟨N, hN⟩ := h.fin
    refine ⟨N, fun p hp => ?_⟩
    have := hN p hp
    refine ⟨?_, this.2⟩
    have hpo : p ≠ o := fun e => by rw [e] at this; rw [hx] at this; cases this.1
    simp [AHeap.set, hpo, this.1]
theorem Ent.shrink (R : Regs) {H : AHeap} {o : Nat} {xs ys : List AV} (hx : H o = some (.cel (xs ++ ys))) : Ent R H R (H.set o (.cel xs)) := fun g _ _ h1 h2 => ⟨g, .refl g, h1, h2.shrink hx⟩
end Go.Am
