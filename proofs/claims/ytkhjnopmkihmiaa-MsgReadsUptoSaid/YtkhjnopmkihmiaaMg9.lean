import Derived.Test.YtkhjnopmkihmiaaMg8
namespace Go.Proofs.Ytkhjnopmkihmiaa
open Go Go.Am Go.Proofs
set_option linter.unusedSimpArgs false
set_option linter.unusedVariables false
set_option maxRecDepth 20000

/-! The reference reads the same messages. -/
theorem rdU_pos : ∀ f i u b r n, rdU f i u b = some (r, n) → i < n ∧ n ≤ b.length
  | 0, i, u, b, r, n, h => by simp [rdU] at h
  | f + 1, i, u, b, r, n, h => by
    simp only [rdU] at h
    split at h
    · cases h
    · rename_i hl
      split at h
      · cases h
      · split at h
        · have := rdU_pos f _ _ _ _ _ h; omega
        · split at h
          · cases h
          · simp only [Option.some.injEq, Prod.mk.injEq] at h
            omega
theorem rd_bad {b : List UInt8} (h : (rd b).2.2 = true) : rd b = (0, [], true) := by
  cases e : rdU 10 0 0 b with
  | none => exact rd_none e
  | some p => obtain ⟨u, n⟩ := p; rw [rd_some e] at h; cases h
theorem rd_short {b : List UInt8} (h : (rd b).2.2 = false) : (rd b).2.1.length < b.length := by
  cases e : rdU 10 0 0 b with
  | none => rw [rd_none e] at h; cases h
  | some p =>
    obtain ⟨u, n⟩ := p
    have := rdU_pos _ _ _ _ _ _ e
    rw [rd_some e]; simp; omega
theorem rs_bad {b : List UInt8} (h : (rs b).2.2 = true) : rs b = ([], [], true) := by
  unfold rs at h ⊢
  split
  · rfl
  · rename_i hl
    rw [if_neg hl] at h
    have := rd_bad h
    rw [this]; simp
theorem rs_short {b : List UInt8} (h : (rs b).2.2 = false) : (rs b).2.1.length < b.length := by
  unfold rs at h ⊢
  split
  · rename_i hl
    rw [if_pos hl] at h; cases h
  · rename_i hl
    rw [if_neg hl] at h
    have := rd_short h
    simp; omega
theorem getE_nil : getE [] = none := by decide +kernel
theorem getE_rs {b : List UInt8} {e : En} (h : getE (rs b).1 = some e) : (rs b).2.2 = false := by
  cases hb : (rs b).2.2 with
  | false => rfl
  | true => rw [rs_bad hb] at h; rw [show getE ([], [], true).1 = none from getE_nil] at h; cases h

def rdEsR : Nat → List UInt8 → Bool → Option (List En × List UInt8 × Bool)
  | 0, b, f => some ([], b, f)
  | n + 1, b, f =>
    if f = true then some ([], b, f) else
    match getE (rs b).1 with
    | none => none
    | some e => (rdEsR n (rs b).2.1 (f || (rs b).2.2)).map fun x => (e :: x.1, x.2)
theorem rdEsR_none {n : Nat} {b : List UInt8} (h : getE (rs b).1 = none) : rdEsR (n + 1) b false = none := by simp [rdEsR, h]
theorem rdEsR_some {n : Nat} {b : List UInt8} {e : En} (h : getE (rs b).1 = some e) : rdEsR (n + 1) b false = (rdEsR n (rs b).2.1 false).map fun x => (e :: x.1, x.2) := by
  simp [rdEsR, h, getE_rs h]
theorem rdEsR_eq : ∀ n b, rdEsR n b false = if (rdEs n b false).2.2.2 = true then some ((rdEs n b false).1, (rdEs n b false).2.1, (rdEs n b false).2.2.1) else none
  | 0, b => rfl
  | n + 1, b => by
    cases hg : getE (rs b).1 with
    | none => rw [rdEsR_none hg, rdEs_none hg]; rfl
    | some e =>
      rw [rdEsR_some hg, rdEs_some hg, getE_rs hg, rdEsR_eq n]
      show Option.map _ (if (rdEs n (rs b).2.1 false).2.2.2 = true then _ else none) = if (rdEs n (rs b).2.1 false).2.2.2 = true then _ else none
      split <;> rfl
theorem rdEsR_bad (n : Nat) (b : List UInt8) : rdEsR n b true = some ([], b, true) := by cases n <;> simp [rdEsR]
theorem rdEsR_len : ∀ (n : Nat) (b : List UInt8) (f : Bool) (x : List En × List UInt8 × Bool), rdEsR n b f = some x → x.2.2 = false → x.1.length = n
  | 0, b, f, x, h, hf => by simp [rdEsR] at h; subst h; rfl
  | n + 1, b, f, x, h, hf => by
    cases f with
    | true => rw [rdEsR_bad] at h; cases h; cases hf
    | false =>
      cases hg : getE (rs b).1 with
      | none => rw [rdEsR_none hg] at h; cases h
      | some e =>
        rw [rdEsR_some hg] at h
        cases hr : rdEsR n (rs b).2.1 false with
        | none => rw [hr] at h; cases h
        | some y =>
          rw [hr] at h
          simp only [Option.map_some, Option.some.injEq] at h
          subst h
          simpa using rdEsR_len n _ _ y hr hf
def finR (t : List UInt8) (x : List En × List UInt8 × Bool) : Option Mg :=
  if (x.2.2 || (rs x.2.1).2.2) = true ∨ (rs x.2.1).2.1 ≠ [] ∨ ¬ (mgT t x.1 (rs x.2.1).1).good then none else some (mgT t x.1 (rs x.2.1).1)
def getR (t : List UInt8) : Option Mg :=
  (rdEsR (rd (s7 t).1).1 (rd (s7 t).1).2.1 ((s7 t).2 || (rd (s7 t).1).2.2)).bind (finR t)
theorem stN_bad {s : RS} (h : s.2 = true → s.1 = []) : (stN s).2 = true → (stN s).1 = [] := by
  intro h2
  simp only [stN, Bool.or_eq_true] at h2 ⊢
  rcases h2 with h2 | h2
  · rw [h h2, rd_nil]
  · rw [rd_bad h2]
theorem s7_bad (t : List UInt8) : (s7 t).2 = true → (s7 t).1 = [] := by
  unfold s7
  exact stN_bad (stN_bad (stN_bad (stN_bad (stN_bad (stN_bad (stN_bad (fun h => Bool.noConfusion h)))))))
theorem good_num {m : Mg} (h : 200 < m.ents.length) : ¬ m.good := fun hg => by have := hg.1.2.2.2.1; omega
theorem getR_eq (t : List UInt8) : getR t = getT t := by
  have hs := s7_bad t
  have key : ∀ f8, ((s7 t).2 || (rd (s7 t).1).2.2) = f8 → (rdEsR (rd (s7 t).1).1 (rd (s7 t).1).2.1 f8).bind (finR t) = getT t := by
    intro f8 hf
    cases f8 with
    | true =>
      have h0 : (rd (s7 t).1).1 = 0 := by
        rcases Bool.or_eq_true_iff.1 hf with h | h
        · rw [hs h, rd_nil]
        · rw [rd_bad h]
      rw [rdEsR_bad]
      have he : entsB (s7 t).1 (s7 t).2 = ([], (rd (s7 t).1).2.1, true, true) := by
        rw [entsB, if_neg (by omega), hf, h0]; rfl
      unfold getT
      rw [he]
      simp [finR, Option.bind]
    | false =>
      by_cases hn : 200 < (rd (s7 t).1).1
      · have he : entsB (s7 t).1 (s7 t).2 = ([], (rd (s7 t).1).2.1, false, false) := by rw [entsB, if_pos hn, hf]
        have hg : getT t = none := by unfold getT; rw [he]; rfl
        rw [hg]
        cases hr : rdEsR (rd (s7 t).1).1 (rd (s7 t).1).2.1 false with
        | none => rfl
        | some x =>
          show finR t x = none
          unfold finR
          cases hx : x.2.2 with
          | true => simp
          | false =>
            have hl := rdEsR_len _ _ _ _ hr hx
            rw [if_pos (.inr (.inr (good_num (show 200 < x.1.length by omega))))]
      · have he : entsB (s7 t).1 (s7 t).2 = rdEs (rd (s7 t).1).1 (rd (s7 t).1).2.1 false := by rw [entsB, if_neg hn, hf]
        unfold getT
        rw [he, rdEsR_eq]
        generalize rdEs (rd (s7 t).1).1 (rd (s7 t).1).2.1 false = y
        obtain ⟨l, be, fe, ok⟩ := y
        cases ok <;> rfl
  have := key _ rfl
  unfold getR
  exact this
end Go.Proofs.Ytkhjnopmkihmiaa
