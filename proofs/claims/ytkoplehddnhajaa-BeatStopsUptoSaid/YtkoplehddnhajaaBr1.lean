import Derived.Test.YtkoplehddnhajaaBs1
namespace Go.Proofs.Ytkoplehddnhajaa
open Go Go.Am Go.Proofs
set_option linter.unusedSimpArgs false
set_option linter.unusedVariables false
set_option maxRecDepth 20000
set_option maxHeartbeats 4000000

/-! The reference: a list of alarms, sorted. -/
def acs (l : Al) : List AV := l.flatMap fun p => [.str p.1, avI p.2]
theorem acs_len (l : Al) : (acs l).length = 2 * l.length := by
  induction l with
  | nil => rfl
  | cons x l ih => show (acs l).length + 1 + 1 = _; rw [ih, List.length_cons]; omega
theorem bless_iff : ∀ x y : List UInt8, Op.bytesLess x y = true ↔ x < y
  | [], [] => by simp [Op.bytesLess]
  | [], _ :: _ => by simp [Op.bytesLess]
  | _ :: _, [] => by simp [Op.bytesLess]
  | a :: x, b :: y => by
    have ih := bless_iff x y
    simp [Op.bytesLess, ih, List.cons_lt_cons_iff]
def lb (b : Bool) (x y : Nm × Int) : Prop := if b then x.1 < y.1 else x.2 < y.2 ∨ (x.2 = y.2 ∧ x.1 < y.1)
theorem nm_total {x y : Nm} (hne : x ≠ y) (h : ¬ y < x) : x < y := by
  rcases Decidable.em (x < y) with h1 | h1
  · exact h1
  · exact absurd (List.le_antisymm (by simpa [List.le] using h) (by simpa [List.le] using h1)) hne
theorem lb_trans {b : Bool} {x y z : Nm × Int} (h : lb b x y) (k : lb b y z) : lb b x z := by
  unfold lb at *
  cases b
  · simp only [Bool.false_eq_true, if_false] at *
    rcases h with h | ⟨h1, h2⟩ <;> rcases k with k | ⟨k1, k2⟩
    · exact .inl (by omega)
    · exact .inl (by omega)
    · exact .inl (by omega)
    · exact .inr ⟨by omega, List.lt_trans h2 k2⟩
  · simp only [if_true] at *
    exact List.lt_trans h k
theorem put_mid (P xs S ys : List AV) (k : Nat) (hk : k = P.length) (hl : xs.length = ys.length) : putAt (P ++ (xs ++ S)) k ys = P ++ (ys ++ S) := by
  subst hk
  simp [putAt, List.take_append_of_le_length, ← hl, List.drop_append]
theorem acs_cons (x : Nm × Int) (l : Al) : acs (x :: l) = [.str x.1, avI x.2] ++ acs l := rfl
theorem acs_app (l m : Al) : acs (l ++ m) = acs l ++ acs m := List.flatMap_append ..
theorem acs_swap (A B V : Al) (y z : Nm × Int) (q i : Nat) (hq : q = A.length) (hi : i = A.length + 1 + B.length) :
    putAt (putAt (acs (A ++ y :: B ++ z :: V)) (0 + i * 2) [.str y.1, avI y.2]) (0 + q * 2) [.str z.1, avI z.2] = acs (A ++ [z] ++ B ++ y :: V) := by
  have e1 : acs (A ++ y :: B ++ z :: V) = (acs A ++ ([.str y.1, avI y.2] ++ acs B)) ++ ([.str z.1, avI z.2] ++ acs V) := by simp [acs_app, acs_cons]
  have hA := acs_len A
  have hB := acs_len B
  rw [e1, put_mid _ [.str z.1, avI z.2] _ [.str y.1, avI y.2] _ (by simp; omega) rfl]
  have e2 : (acs A ++ ([.str y.1, avI y.2] ++ acs B)) ++ ([.str y.1, avI y.2] ++ acs V) = acs A ++ ([.str y.1, avI y.2] ++ (acs B ++ ([.str y.1, avI y.2] ++ acs V))) := by simp
  rw [e2, put_mid _ [.str y.1, avI y.2] _ [.str z.1, avI z.2] _ (by omega) rfl]
  simp [acs_app, acs_cons]
theorem acs_swap2 (A B V : Al) (y z : Nm × Int) (q i : Nat) (hq : q = A.length) (hi : i = A.length + 1 + B.length) :
    putAt (putAt (acs (A ++ y :: B ++ z :: V)) (0 + q * 2) [.str z.1, avI z.2]) (0 + i * 2) [.str y.1, avI y.2] = acs (A ++ [z] ++ B ++ y :: V) := by
  have e1 : acs (A ++ y :: B ++ z :: V) = acs A ++ ([.str y.1, avI y.2] ++ (acs B ++ ([.str z.1, avI z.2] ++ acs V))) := by simp [acs_app, acs_cons]
  have hA := acs_len A
  have hB := acs_len B
  rw [e1, put_mid _ [.str y.1, avI y.2] _ [.str z.1, avI z.2] _ (by omega) rfl]
  have e2 : acs A ++ ([.str z.1, avI z.2] ++ (acs B ++ ([.str z.1, avI z.2] ++ acs V))) = (acs A ++ ([.str z.1, avI z.2] ++ acs B)) ++ ([.str z.1, avI z.2] ++ acs V) := by simp
  rw [e2, put_mid _ [.str z.1, avI z.2] _ [.str y.1, avI y.2] _ (by simp; omega) rfl]
  simp [acs_app, acs_cons]
theorem putAt_len {xs ys : List AV} {k : Nat} (h : k + ys.length ≤ xs.length) : (putAt xs k ys).length = xs.length := by simp [putAt]; omega
theorem pw_swap {b : Bool} {A B : Al} {y z : Nm × Int} (hAB : (A ++ y :: B).Pairwise (lb b)) (hAz : ∀ a ∈ A, lb b a z) (h : lb b z y) : (A ++ [z] ++ B).Pairwise (lb b) ∧ ∀ a ∈ A ++ [z], lb b a y := by
  obtain ⟨h1, h2, h3⟩ := List.pairwise_append.1 hAB
  obtain ⟨h4, h5⟩ := List.pairwise_cons.1 h2
  refine ⟨List.pairwise_append.2 ⟨List.pairwise_append.2 ⟨h1, List.pairwise_singleton _ _, fun a ha c hc => by rw [List.mem_singleton.1 hc]; exact hAz a ha⟩, h5, fun a ha c hc => ?_⟩, fun a ha => ?_⟩
  · rcases List.mem_append.1 ha with ha | ha
    · exact h3 a ha c (List.mem_cons_of_mem _ hc)
    · rw [List.mem_singleton.1 ha]; exact lb_trans h (h4 c hc)
  · rcases List.mem_append.1 ha with ha | ha
    · exact h3 a ha y (List.mem_cons_self ..)
    · rw [List.mem_singleton.1 ha]; exact h
theorem perm_swap {A B V : Al} {y z : Nm × Int} {ws : Al} (h : (A ++ y :: B ++ z :: V).Perm ws) : (A ++ [z] ++ B ++ y :: V).Perm ws := by
  refine List.Perm.trans ?_ h
  have e1 : A ++ [z] ++ B ++ y :: V = A ++ (z :: (B ++ (y :: V))) := by simp
  have e2 : A ++ y :: B ++ z :: V = A ++ (y :: (B ++ (z :: V))) := by simp
  rw [e1, e2]
  refine List.Perm.append_left A ?_
  have p1 : (B ++ y :: V).Perm (y :: (B ++ V)) := List.perm_middle
  have p2 : (B ++ z :: V).Perm (z :: (B ++ V)) := List.perm_middle
  exact ((p1.cons z).trans (List.Perm.swap y z _)).trans (p2.symm.cons y)
theorem sorted_loop (H : AHeap) (oN k : Nat) (ws : Al) (b : Bool) (hk : k = ws.length) (hl : k ≤ 1000) (hnd : (ws.map Prod.fst).Nodup) (A B V : Al) (y z : Nm × Int) (q i : Nat) (hq : A.length = q) (hqB : q + (B.length + 1) = i) (hpm : (A ++ y :: B ++ z :: V).Perm ws) :
    (acs (A ++ y :: B ++ z :: V)).length = 2 * k ∧ (acs (A ++ y :: B ++ z :: V))[0 + q * 2 + 0]? = some (.str y.1) ∧ (acs (A ++ y :: B ++ z :: V))[0 + q * 2 + 1]? = some (avI y.2) ∧
    (acs (A ++ y :: B ++ z :: V))[0 + i * 2 + 0]? = some (.str z.1) ∧ (acs (A ++ y :: B ++ z :: V))[0 + i * 2 + 1]? = some (avI z.2) ∧
    ((acs (A ++ y :: B ++ z :: V)).drop (0 + q * 2)).take 2 = [.str y.1, avI y.2] ∧ ((acs (A ++ y :: B ++ z :: V)).drop (0 + i * 2)).take 2 = [.str z.1, avI z.2] ∧ i < k ∧ y.1 ≠ z.1 := by
  have hA := acs_len A
  have hB := acs_len B
  have hV := acs_len V
  have hw := hpm.length_eq
  have hn := (hpm.map Prod.fst).nodup_iff.2 hnd
  have d1 : (acs (A ++ y :: B ++ z :: V)).drop (0 + q * 2) = [.str y.1, avI y.2] ++ (acs B ++ ([.str z.1, avI z.2] ++ acs V)) := by
    rw [show acs (A ++ y :: B ++ z :: V) = acs A ++ ([.str y.1, avI y.2] ++ (acs B ++ ([.str z.1, avI z.2] ++ acs V))) by simp [acs_app, acs_cons]]
    rw [show 0 + q * 2 = (acs A).length by omega, List.drop_left]
  have d2 : (acs (A ++ y :: B ++ z :: V)).drop (0 + i * 2) = [.str z.1, avI z.2] ++ acs V := by
    rw [show acs (A ++ y :: B ++ z :: V) = (acs A ++ ([.str y.1, avI y.2] ++ acs B)) ++ ([.str z.1, avI z.2] ++ acs V) by simp [acs_app, acs_cons]]
    rw [show 0 + i * 2 = (acs A ++ ([.str y.1, avI y.2] ++ acs B)).length by simp; omega, List.drop_left]
  simp only [List.length_append, List.length_cons] at hw
  refine ⟨by rw [acs_len]; simp; omega, ?_, ?_, ?_, ?_, by rw [d1]; rfl, by rw [d2]; rfl, by omega, ?_⟩
  · rw [← List.getElem?_drop, d1]; rfl
  · rw [← List.getElem?_drop, d1]; rfl
  · rw [← List.getElem?_drop, d2]; rfl
  · rw [← List.getElem?_drop, d2]; rfl
  · simp only [List.map_append, List.map_cons] at hn
    have h2 := (List.nodup_append.1 hn).2.2
    exact h2 y.1 (by simp) z.1 (by simp)
end Go.Proofs.Ytkoplehddnhajaa
