/-
  The executor is right about regions that draw their order, second part.
-/
import Derived.Test.YtaabpahemponkaaGreatDoorDyF
set_option linter.unusedVariables false
set_option linter.unusedSimpArgs false
namespace Go.Ex
open Go Go.Am
def sup (c c' : Rc) (p : Nat) : Prop := match c.kd with
  | .lay _ => p = c.a
  | .wr _ => (hof (minus c.m c.ps c.H) p).isSome = true ∨ (c.a ≤ p ∧ p < c'.a)
  | _ => False
noncomputable def val (c : Rc) (p : Nat) : Option AO := match c.kd with
  | .lay y => some y.ao
  | .wr H' => hof H' p
  | _ => none
open Classical in
noncomputable def upd (c c' : Rc) (p : Nat) (old : Option AO) : Option AO := if sup c c' p then val c p else old
noncomputable def HD (S : Nat → Rc) (D : Nat → Bool) : Nat → AHeap
  | 0 => hof (S 0).H
  | j + 1 => if D j then fun p => upd (S j) (S (j + 1)) p (HD S D j p) else HD S D j
theorem hof_some {H : T XO} {p : Nat} {x : AO} (h : hof H p = some x) : ∃ y, H.get p = some y ∧ y.ao = x := by
  unfold hof at h
  cases hg : H.get p with
  | none => rw [hg] at h; cases h
  | some y => rw [hg] at h; exact ⟨y, rfl, by simpa using h⟩
theorem hof_none {H : T XO} {p : Nat} (h : hof H p = none) : H.get p = none := by
  unfold hof at h
  cases hg : H.get p with
  | none => rfl
  | some y => rw [hg] at h; cases h
theorem hof_minus {m : Nat} {ps : List Pend} {H : T XO} {p : Nat} {x : AO} (h : hof (minus m ps H) p = some x) : hof H p = some x ∧ ∀ q ∈ ps, hasBit m q.i = false → q.a ≠ p := by
  obtain ⟨y, hy, rfl⟩ := hof_some h
  rw [minus_get] at hy
  split at hy
  · cases hy
  · rename_i hn
    exact ⟨by unfold hof; rw [hy]; rfl, fun q hq hb e => hn ⟨q, hq, hb, e⟩⟩
section
variable {ρ : Type} {Good : ρ → Prop} {P : Program} {n : Nat} {ops : Array Oper} {S : Nat → Rc}
variable (hr : Run P n ops Good 0 ⟨.nil, [], [], []⟩ S) (hps : (S 0).ps = []) (hbk : ∀ i o, ops[i]? = some o → ∀ e ∈ o.after, Region.binds .any e = true → e.on < i)
theorem at_lt {j : Nat} (h : j < ops.size) : ∃ o, ops[j]? = some o := ⟨ops[j], by simp [h]⟩
include hr hbk in
theorem mask_iff {i : Nat} {o : Oper} (ho : ops[i]? = some o) (j : Nat) : hasBit (S i).m j = true ↔ ∃ e ∈ o.after.toList, Region.binds .any e = true ∧ e.on < i ∧ (e.on = j ∨ hasBit (S e.on).m j = true) := by
  obtain ⟨M, h1, h2, h3⟩ := hr.mask i o (by omega) ho
  rw [h1, ancOf_bit]
  constructor
  · rintro ⟨e, he, hb, h⟩
    have hlt := hbk i o ho e (by simpa using he) hb
    rw [h2 e.on (by omega) hlt] at h
    exact ⟨e, he, hb, hlt, h⟩
  · rintro ⟨e, he, hb, hlt, h⟩
    refine ⟨e, he, hb, ?_⟩
    rw [h2 e.on (by omega) hlt]
    exact h
include hr hbk in
theorem mask_lt : ∀ (i j : Nat), i < ops.size → hasBit (S i).m j = true → j < i := by
  intro i
  induction i using Nat.strongRecOn with
  | _ i ih =>
    intro j hi h
    obtain ⟨o, ho⟩ := at_lt hi
    obtain ⟨e, _, _, hlt, h⟩ := (mask_iff hr hbk ho j).1 h
    rcases h with h | h
    · omega
    · have := ih e.on hlt j (by omega) h
      omega
include hr hbk in
theorem mask_trans : ∀ (i j k : Nat), i < ops.size → hasBit (S i).m j = true → hasBit (S j).m k = true → hasBit (S i).m k = true := by
  intro i
  induction i using Nat.strongRecOn with
  | _ i ih =>
    intro j k hi h hk
    obtain ⟨o, ho⟩ := at_lt hi
    obtain ⟨e, he, hb, hlt, h⟩ := (mask_iff hr hbk ho j).1 h
    refine (mask_iff hr hbk ho k).2 ⟨e, he, hb, hlt, ?_⟩
    rcases h with h | h
    · rw [h]; exact .inr hk
    · exact .inr (ih e.on hlt j k (by omega) h hk)
include hr in
theorem a_step {j : Nat} (hj : j < ops.size) : (S j).a ≤ (S (j + 1)).a := by
  obtain ⟨o, ho⟩ := at_lt hj
  have h := (hr.step j o (by omega) ho).2
  cases hk : (S j).kd <;> rw [hk] at h
  · obtain ⟨_, _, _, h, _⟩ := h; omega
  · obtain ⟨_, _, _, h, _⟩ := h; omega
  · obtain ⟨_, _, _, h, _⟩ := h; omega
  · obtain ⟨_, _, _, h, _⟩ := h; omega
  · exact h.2.1.1
include hr in
theorem a_mono {i j : Nat} (hij : i ≤ j) (hj : j ≤ ops.size) : (S i).a ≤ (S j).a := by
  induction j with
  | zero => rw [show i = 0 by omega]; exact Nat.le_refl _
  | succ j ih =>
    rcases Nat.lt_or_ge j i with h | h
    · rw [show i = j + 1 by omega]; exact Nat.le_refl _
    · exact Nat.le_trans (ih h (by omega)) (a_step hr (by omega))
include hr in
theorem lay_step {j : Nat} (hj : j < ops.size) {y : XO} (hk : (S j).kd = .lay y) : (S (j + 1)).a = (S j).a + 1 := by
  obtain ⟨o, ho⟩ := at_lt hj
  have h := (hr.step j o (by omega) ho).2
  rw [hk] at h
  exact h.2.2.2.1
include hr hps in
theorem ps_iff : ∀ (j : Nat), j ≤ ops.size → ∀ q, q ∈ (S j).ps ↔ (q.i < j ∧ (S q.i).kd = .lay q.x ∧ q.a = (S q.i).a) := by
  intro j
  induction j with
  | zero => intro _ q; rw [hps]; simp
  | succ j ih =>
    intro hj q
    obtain ⟨o, ho⟩ := at_lt (show j < ops.size by omega)
    have h := (hr.step j o (by omega) ho).2
    have same : (∀ y, (S j).kd ≠ .lay y) → (S (j + 1)).ps = (S j).ps → (q ∈ (S (j + 1)).ps ↔ (q.i < j + 1 ∧ (S q.i).kd = .lay q.x ∧ q.a = (S q.i).a)) := fun hn e => by
      rw [e, ih (by omega)]
      constructor
      · rintro ⟨h1, h2⟩; exact ⟨by omega, h2⟩
      · rintro ⟨h1, h2, h3⟩
        have : q.i ≠ j := fun e => by rw [e] at h2; exact hn _ h2
        exact ⟨by omega, h2, h3⟩
    cases hk : (S j).kd <;> rw [hk] at h
    · exact same (fun y e => by rw [hk] at e; cases e) h.2.2.2.2
    · exact same (fun y e => by rw [hk] at e; cases e) h.2.2.2.2
    · exact same (fun y e => by rw [hk] at e; cases e) h.2.2.2.2
    · rename_i y
      rw [h.2.2.2.2, List.mem_cons, ih (by omega)]
      constructor
      · rintro (rfl | ⟨h1, h2⟩)
        · exact ⟨by simp, hk, rfl⟩
        · exact ⟨by omega, h2⟩
      · rintro ⟨h1, h2, h3⟩
        by_cases e : q.i = j
        · left
          obtain ⟨qi, qa, qx⟩ := q
          simp only at e h2 h3
          subst e
          rw [hk] at h2; cases h2
          rw [h3]
        · exact .inr ⟨by omega, h2, h3⟩
    · exact same (fun y e => by rw [hk] at e; cases e) h.2.2.2
include hr hps in
theorem ps_lt {j : Nat} (hj : j ≤ ops.size) {q : Pend} (hq : q ∈ (S j).ps) : (S 0).a ≤ q.a ∧ q.a < (S j).a := by
  obtain ⟨h1, h2, h3⟩ := (ps_iff hr hps j hj q).1 hq
  have e1 := lay_step hr (show q.i < ops.size by omega) h2
  have e2 := a_mono hr (show q.i + 1 ≤ j by omega) hj
  have e3 := a_mono hr (show 0 ≤ q.i by omega) (show q.i ≤ ops.size by omega)
  omega
include hr hps in
theorem ps_nodup : ∀ (j : Nat), j ≤ ops.size → ((S j).ps.map Pend.a).Nodup := by
  intro j
  induction j with
  | zero => intro _; rw [hps]; simp
  | succ j ih =>
    intro hj
    obtain ⟨o, ho⟩ := at_lt (show j < ops.size by omega)
    have h := (hr.step j o (by omega) ho).2
    cases hk : (S j).kd <;> rw [hk] at h
    · rw [h.2.2.2.2]; exact ih (by omega)
    · rw [h.2.2.2.2]; exact ih (by omega)
    · rw [h.2.2.2.2]; exact ih (by omega)
    · rw [h.2.2.2.2, List.map_cons, List.nodup_cons]
      refine ⟨fun hm => ?_, ih (by omega)⟩
      obtain ⟨q, hq, e⟩ := List.mem_map.1 hm
      have := ps_lt hr hps (show j ≤ ops.size by omega) hq
      simp only at e
      omega
    · rw [h.2.2.2]; exact ih (by omega)
include hr hps in
theorem kept_lay : ∀ (j : Nat), j ≤ ops.size → ∀ q ∈ (S j).ps, (∀ w H', w < j → (S w).kd = .wr H' → hasBit (S w).m q.i = false) → (S j).H.get q.a = some q.x := by
  intro j
  induction j with
  | zero => intro _ q hq; rw [hps] at hq; cases hq
  | succ j ih =>
    intro hj q hq hw
    have hw' := fun w H' (h : w < j) => hw w H' (by omega)
    obtain ⟨o, ho⟩ := at_lt (show j < ops.size by omega)
    have h := (hr.step j o (by omega) ho).2
    cases hk : (S j).kd <;> rw [hk] at h
    · obtain ⟨_, _, e1, _, e2⟩ := h; rw [e2] at hq; rw [e1]; exact ih (by omega) q hq hw'
    · obtain ⟨_, _, e1, _, e2⟩ := h; rw [e2] at hq; rw [e1]; exact ih (by omega) q hq hw'
    · obtain ⟨_, _, e1, _, e2⟩ := h; rw [e2] at hq; rw [e1]; exact ih (by omega) q hq hw'
    · obtain ⟨_, _, e1, _, e2⟩ := h
      rw [e2] at hq
      rw [e1, get_put]
      rcases List.mem_cons.1 hq with rfl | hq
      · rw [if_pos rfl]
      · have := ps_lt hr hps (show j ≤ ops.size by omega) hq
        rw [if_neg (by omega)]
        exact ih (by omega) q hq hw'
    · obtain ⟨_, _, e1, e2⟩ := h
      rw [e2] at hq
      rw [e1]
      exact plus_get_self _ _ _ q (ps_nodup hr hps j (by omega)) hq (hw j _ (by omega) hk)
include hr hps in
theorem dom_le : ∀ (j : Nat), j ≤ ops.size → ∀ p, (hof (S j).H p).isSome = true → (hof (S 0).H p).isSome = true ∨ ((S 0).a ≤ p ∧ p < (S j).a) := by
  intro j
  induction j with
  | zero => intro _ p h; exact .inl h
  | succ j ih =>
    intro hj p hp
    have hj' : j < ops.size := by omega
    obtain ⟨o, ho⟩ := at_lt hj'
    have h := (hr.step j o (by omega) ho).2
    have hs := a_step hr hj'
    have ha := a_mono hr (show 0 ≤ j by omega) (show j ≤ ops.size by omega)
    have old : (hof (S j).H p).isSome = true → (hof (S 0).H p).isSome = true ∨ ((S 0).a ≤ p ∧ p < (S (j + 1)).a) := fun h => by
      rcases ih (by omega) p h with h | h
      · exact .inl h
      · exact .inr ⟨h.1, by omega⟩
    cases hk : (S j).kd <;> rw [hk] at h
    · rw [h.2.2.1] at hp; exact old hp
    · rw [h.2.2.1] at hp; exact old hp
    · rw [h.2.2.1] at hp; exact old hp
    · rw [h.2.2.1, hof_put] at hp
      simp only [AHeap.set] at hp
      by_cases e : p = (S j).a
      · have := h.2.2.2.1; exact .inr (by omega)
      · rw [if_neg e] at hp; exact old hp
    · rename_i H'
      obtain ⟨_, ⟨_, hd, _⟩, e1, e2⟩ := h
      rw [e1] at hp
      by_cases hq : ∀ q ∈ (S j).ps, hasBit (S j).m q.i = false → q.a ≠ p
      · have e := plus_get_other (S j).m p (S j).ps H' hq
        unfold hof at hp
        rw [e] at hp
        rcases hd p hp with h | h
        · obtain ⟨x, hx⟩ := Option.isSome_iff_exists.1 h
          exact old (by rw [(hof_minus hx).1]; rfl)
        · exact .inr (by omega)
      · have : ∃ q ∈ (S j).ps, q.a = p := Classical.byContradiction fun hn => hq fun q hq _ e => hn ⟨q, hq, e⟩
        obtain ⟨q, hq2, e⟩ := this
        have := ps_lt hr hps (show j ≤ ops.size by omega) hq2
        exact .inr (by omega)
include hr hps hbk in
theorem full_step {j : Nat} (hj : j < ops.size) (p : Nat) : hof (S (j + 1)).H p = upd (S j) (S (j + 1)) p (hof (S j).H p) := by
  obtain ⟨o, ho⟩ := at_lt hj
  have h := (hr.step j o (by omega) ho).2
  cases hk : (S j).kd <;> rw [hk] at h
  · rw [h.2.2.1]; simp only [upd, sup, hk]; simp
  · rw [h.2.2.1]; simp only [upd, sup, hk]; simp
  · rw [h.2.2.1]; simp only [upd, sup, hk]; simp
  · rw [h.2.2.1, hof_put]; simp only [upd, sup, val, hk, AHeap.set]
  · rename_i H'
    obtain ⟨_, ⟨_, hd, _⟩, e1, e2⟩ := h
    rw [e1]
    simp only [upd, sup, val, hk]
    split
    · rename_i hs
      unfold hof
      rw [plus_get_other (S j).m p (S j).ps H' fun q hq hb e => ?_]
      rcases hs with hs | hs
      · obtain ⟨x, hx⟩ := Option.isSome_iff_exists.1 hs
        exact (hof_minus hx).2 q hq hb e
      · have := ps_lt hr hps (show j ≤ ops.size by omega) hq
        omega
    · rename_i hs
      have hno : hof H' p = none := by
        rcases Option.eq_none_or_eq_some (hof H' p) with h | ⟨x, h⟩
        · exact h
        · exact absurd (hd p (by rw [h]; rfl)) hs
      by_cases hq : ∃ q ∈ (S j).ps, hasBit (S j).m q.i = false ∧ q.a = p
      · obtain ⟨q, hq, hb, rfl⟩ := hq
        unfold hof
        rw [plus_get_self _ _ _ q (ps_nodup hr hps j (by omega)) hq hb]
        rw [kept_lay hr hps j (by omega) q hq fun w H2 hw hkw => ?_]
        cases hc : hasBit (S w).m q.i with
        | false => rfl
        | true =>
          have := mask_trans hr hbk j w q.i hj (hr.ww j w H2 H' (by omega) hw hj hkw hk) hc
          rw [hb] at this; cases this
      · unfold hof
        rw [plus_get_other (S j).m p (S j).ps H' fun q hq' hb e => hq ⟨q, hq', hb, e⟩]
        rw [hof_none hno]
        have : hof (minus (S j).m (S j).ps (S j).H) p = none := by
          rcases Option.eq_none_or_eq_some (hof (minus (S j).m (S j).ps (S j).H) p) with h | ⟨x, h⟩
          · exact h
          · exact absurd (.inl (by rw [h]; rfl)) hs
        have := hof_none this
        rw [minus_get, if_neg hq] at this
        rw [this]
end
end Go.Ex
namespace Go.Ex
open Go Go.Am
section
variable {ρ : Type} {Good : ρ → Prop} {P : Program} {n : Nat} {ops : Array Oper} {S : Nat → Rc}
variable (hr : Run P n ops Good 0 ⟨.nil, [], [], []⟩ S) (hps : (S 0).ps = []) (hbk : ∀ i o, ops[i]? = some o → ∀ e ∈ o.after, Region.binds .any e = true → e.on < i)
theorem HD_succ (S : Nat → Rc) (D : Nat → Bool) (j : Nat) (p : Nat) : HD S D (j + 1) p = if D j then upd (S j) (S (j + 1)) p (HD S D j p) else HD S D j p := by
  cases h : D j <;> simp [HD, h]
theorem upd_sup {c c' : Rc} {p : Nat} {old : Option AO} (h : sup c c' p) : upd c c' p old = val c p := by rw [upd, if_pos h]
theorem upd_not {c c' : Rc} {p : Nat} {old : Option AO} (h : ¬ sup c c' p) : upd c c' p old = old := by rw [upd, if_neg h]
include hr hps hbk in
theorem hd_agree {D : Nat → Bool} {l : Nat} (hw : ∀ w H', w < l → (S w).kd = .wr H' → D w = true) {p : Nat} (hp : ∀ j y, j < l → (S j).kd = .lay y → D j = false → p ≠ (S j).a) (hl : l ≤ ops.size) : HD S D l p = hof (S l).H p := by
  induction l with
  | zero => rfl
  | succ l ih =>
    have ih := ih (fun w H' h => hw w H' (by omega)) (fun j y h => hp j y (by omega)) (by omega)
    rw [HD_succ, full_step hr hps hbk (by omega), ih]
    cases hD : D l with
    | true => simp
    | false =>
      simp only [Bool.false_eq_true, if_false]
      rw [upd_not]
      intro hs
      unfold sup at hs
      split at hs
      · rename_i y hk
        exact hp l y (by omega) hk hD hs
      · rename_i H' hk
        rw [hw l H' (by omega) hk] at hD; cases hD
      · exact hs
include hr in
theorem hd_later {D : Nat → Bool} {l : Nat} : ∀ k, l ≤ k → k ≤ ops.size → (∀ w H', l ≤ w → w < k → (S w).kd = .wr H' → D w = false) → ∀ p, (p < (S l).a ∨ (S ops.size).a ≤ p) → HD S D k p = HD S D l p := by
  intro k
  induction k with
  | zero => intro h _ _ p _; rw [show l = 0 by omega]
  | succ k ih =>
    intro hlk hk hw p hp
    by_cases e : l = k + 1
    · rw [e]
    have ih := ih (by omega) (by omega) (fun w H' h1 h2 => hw w H' h1 (by omega)) p hp
    rw [HD_succ]
    split
    · rename_i hD
      rw [upd_not, ih]
      intro hs
      unfold sup at hs
      split at hs
      · rename_i y hkd
        have h1 := a_mono hr (show l ≤ k by omega) (by omega)
        have h2 := lay_step hr (show k < ops.size by omega) hkd
        have h3 := a_mono hr (show k + 1 ≤ ops.size by omega) (Nat.le_refl _)
        omega
      · rename_i H' hkd
        rw [hw k H' (by omega) (by omega) hkd] at hD; cases hD
      · exact hs
    · exact ih
variable (h0 : ∀ p, (S 0).a ≤ p → p < (S ops.size).a → hof (S 0).H p = none)
include hr hps hbk h0 in
theorem hd_part {D : Nat → Bool} {l : Nat} (hl : l ≤ ops.size) (hw : ∀ w H', w < l → (S w).kd = .wr H' → D w = true) (hw2 : ∀ w H', l ≤ w → w < ops.size → (S w).kd = .wr H' → D w = false)
    {p : Nat} {x : AO} (hx : hof (S l).H p = some x) (hp : ∀ j y, j < l → (S j).kd = .lay y → D j = false → p ≠ (S j).a) : HD S D ops.size p = some x := by
  rw [hd_later hr (l := l) ops.size hl (Nat.le_refl _) hw2 p ?_, hd_agree hr hps hbk hw hp hl, hx]
  rcases dom_le hr hps l hl p (by rw [hx]; rfl) with h | h
  · have h1 := a_mono hr (show 0 ≤ l by omega) hl
    by_cases h2 : p < (S 0).a
    · exact .inl (by omega)
    · by_cases h3 : p < (S ops.size).a
      · rw [h0 p (by omega) h3] at h; cases h
      · exact .inr (by omega)
  · exact .inl h.2
include hr hps in
theorem hd_dom {D : Nat → Bool} : ∀ k, k ≤ ops.size → ∀ p, (HD S D k p).isSome = true → (hof (S 0).H p).isSome = true ∨ ((S 0).a ≤ p ∧ p < (S ops.size).a) := by
  intro k
  induction k with
  | zero => intro _ p h; exact .inl h
  | succ k ih =>
    intro hk p hp
    rw [HD_succ] at hp
    split at hp
    · by_cases hs : sup (S k) (S (k + 1)) p
      · have h1 := a_mono hr (show 0 ≤ k by omega) (by omega)
        have h3 := a_mono hr (show k + 1 ≤ ops.size by omega) (Nat.le_refl _)
        unfold sup at hs
        split at hs
        · rename_i y hkd
          have h2 := lay_step hr (show k < ops.size by omega) hkd
          exact .inr (by omega)
        · rcases hs with hs | hs
          · obtain ⟨x, hx⟩ := Option.isSome_iff_exists.1 hs
            rcases dom_le hr hps k (by omega) p (by rw [(hof_minus hx).1]; rfl) with h | h
            · exact .inl h
            · have := a_mono hr (show k ≤ k + 1 by omega) (by omega); exact .inr (by omega)
          · exact .inr (by omega)
        · exact hs.elim
      · rw [upd_not hs] at hp
        exact ih (by omega) p hp
    · exact ih (by omega) p hp
theorem sup_new {j p : Nat} (hj : j < ops.size) (hr : Run P n ops Good 0 ⟨.nil, [], [], []⟩ S) (h : (∃ y, (S j).kd = .lay y ∧ p = (S j).a) ∨ (∃ H', (S j).kd = .wr H' ∧ (S j).a ≤ p ∧ p < (S (j + 1)).a)) : (S j).a ≤ p ∧ p < (S (j + 1)).a := by
  rcases h with ⟨y, hk, rfl⟩ | ⟨_, _, h⟩
  · have := lay_step hr hj hk; omega
  · exact h
include hr hps h0 in
theorem sup_own {i j p : Nat} (hi : i < ops.size) (hj : j < ops.size) (hij : i ≠ j) (hp : (S j).a ≤ p ∧ p < (S (j + 1)).a) (hm : hasBit (S i).m j = false) (hjk : (∃ y, (S j).kd = .lay y ∧ p = (S j).a) ∨ (∃ H', (S j).kd = .wr H')) : ¬ sup (S i) (S (i + 1)) p := by
  intro hs
  have apart : ¬ ((S i).a ≤ p ∧ p < (S (i + 1)).a) := fun h => by
    rcases Nat.lt_or_gt_of_ne hij with h1 | h1
    · have := a_mono hr (show i + 1 ≤ j by omega) (by omega); omega
    · have := a_mono hr (show j + 1 ≤ i by omega) (by omega); omega
  have hfree := h0 p (by have := a_mono hr (show 0 ≤ j by omega) (by omega); omega) (by have := a_mono hr (show j + 1 ≤ ops.size by omega) (Nat.le_refl _); omega)
  unfold sup at hs
  split at hs
  · rename_i y hk
    have := lay_step hr hi hk
    exact apart (by omega)
  · rename_i H' hk
    rcases hs with hs | hs
    · obtain ⟨x, hx⟩ := Option.isSome_iff_exists.1 hs
      obtain ⟨h1, h2⟩ := hof_minus hx
      rcases dom_le hr hps i (by omega) p (by rw [h1]; rfl) with h | h
      · rw [hfree] at h; cases h
      · have hji : j < i := by
          rcases Nat.lt_or_ge j i with h3 | h3
          · exact h3
          · have := a_mono hr (show i ≤ j by omega) (by omega); omega
        rcases hjk with ⟨y, hy, e⟩ | ⟨H2, hy⟩
        · exact h2 ⟨j, (S j).a, y⟩ ((ps_iff hr hps i (by omega) _).2 ⟨hji, hy, rfl⟩) hm e.symm
        · have := hr.ww i j H2 H' (by omega) hji hi hy hk
          rw [hm] at this; cases this
    · exact apart hs
  · exact hs
include hr hps h0 in
theorem hd_own {D : Nat → Bool} {j p : Nat} (hj : j < ops.size) (hD : D j = false) (hcl : ∀ i, i < ops.size → D i = true → ∀ j, hasBit (S i).m j = true → D j = true) (hjk : (∃ y, (S j).kd = .lay y ∧ p = (S j).a) ∨ (∃ H', (S j).kd = .wr H')) (hp : (S j).a ≤ p ∧ p < (S (j + 1)).a) :
    ∀ k, k ≤ ops.size → HD S D k p = none := by
  intro k
  induction k with
  | zero => intro _; exact h0 p (by have := a_mono hr (show 0 ≤ j by omega) (by omega); omega) (by have := a_mono hr (show j + 1 ≤ ops.size by omega) (Nat.le_refl _); omega)
  | succ k ih =>
    intro hk
    rw [HD_succ]
    split
    · rename_i hDk
      rw [upd_not, ih (by omega)]
      refine sup_own hr hps h0 (by omega) hj (fun e => by rw [e, hD] at hDk; cases hDk) hp ?_ hjk
      cases hc : hasBit (S k).m j with
      | false => rfl
      | true => rw [hcl k (by omega) hDk j hc] at hD; cases hD
    · exact ih (by omega)
include hr hps hbk h0 in
theorem sup_disj {i j p : Nat} (hij : i < j) (hj : j < ops.size) (hm : hasBit (S j).m i = false) (h1 : sup (S i) (S (i + 1)) p) (h2 : sup (S j) (S (j + 1)) p) : False := by
  have hi : i < ops.size := by omega
  have hb : (∃ y, (S j).kd = .lay y) ∨ (∃ y, (S i).kd = .lay y) := by
    cases hk : (S j).kd with
    | lay y => exact .inl ⟨y, rfl⟩
    | wr H' =>
      cases hk2 : (S i).kd with
      | lay y => exact .inr ⟨y, rfl⟩
      | wr H2 => have := hr.ww j i H2 H' (by omega) hij hj hk2 hk; rw [hm] at this; cases this
      | _ => unfold sup at h1; rw [hk2] at h1; exact h1.elim
    | _ => unfold sup at h2; rw [hk] at h2; exact h2.elim
  rcases hb with ⟨y, hk⟩ | ⟨y, hk⟩
  · have e : p = (S j).a := by unfold sup at h2; rw [hk] at h2; exact h2
    have hst := lay_step hr hj hk
    have hmi : hasBit (S i).m j = false := by
      cases hc : hasBit (S i).m j with
      | false => rfl
      | true => have := mask_lt hr hbk i j hi hc; omega
    exact sup_own hr hps h0 hi hj (by omega) (by omega) hmi (.inl ⟨y, hk, e⟩) h1
  · have e : p = (S i).a := by unfold sup at h1; rw [hk] at h1; exact h1
    have hst := lay_step hr hi hk
    exact sup_own hr hps h0 hj hi (by omega) (by omega) hm (.inl ⟨y, hk, e⟩) h2
include hr hps hbk h0 in
theorem hd_one {D D' : Nat → Bool} {i : Nat} (hi : i < ops.size) (hD : D i = false) (hD' : ∀ j, D' j = if i = j then true else D j) (hw : ∀ j, j < ops.size → D j = true → hasBit (S j).m i = false) (p : Nat) :
    HD S D' ops.size p = upd (S i) (S (i + 1)) p (HD S D ops.size p) := by
  have early : ∀ k, k ≤ i → HD S D' k p = HD S D k p := by
    intro k
    induction k with
    | zero => intro _; rfl
    | succ k ih =>
      intro hk
      rw [HD_succ, HD_succ, ih (by omega), hD' k, if_neg (show ¬ i = k by omega)]
  have late : ∀ k, i < k → k ≤ ops.size → HD S D' k p = upd (S i) (S (i + 1)) p (HD S D k p) := by
    intro k
    induction k with
    | zero => intro h; omega
    | succ k ih =>
      intro hk hN
      by_cases e : k = i
      · subst e
        rw [HD_succ, HD_succ, early k (Nat.le_refl _), hD' k, if_pos rfl, hD]
        simp
      · have ih := ih (by omega) (by omega)
        rw [HD_succ, HD_succ, ih, hD' k, if_neg (show ¬ i = k by omega)]
        split
        · rename_i hDk
          by_cases h1 : sup (S i) (S (i + 1)) p
          · rw [upd_not (fun h2 => sup_disj hr hps hbk h0 (by omega) (by omega) (hw k (by omega) hDk) h1 h2), upd_sup h1, upd_sup h1]
          · rw [upd_not h1, upd_not h1]
        · rfl
  exact late ops.size hi (Nat.le_refl _)
end
end Go.Ex
namespace Go.Ex
open Go Go.Am
noncomputable def beside (K : T XO) (G : AHeap) : AHeap := fun p => if (hof K p).isSome then none else G p
theorem join_beside {K : T XO} {G : AHeap} (h : ∀ p x, hof K p = some x → G p = some x) : join (hof K) (beside K G) = G := by
  funext p
  simp only [join, beside]
  cases hk : hof K p with
  | some x => simp [h p x hk]
  | none => simp
section
variable {ρ : Type} {Good : ρ → Prop} {P : Program} {n : Nat} {ops : Array Oper} {S : Nat → Rc}
theorem reg_at (hr : Run P n ops Good 0 ⟨.nil, [], [], []⟩ S) (hnd : (ops.toList.filterMap (·.dst)).Nodup) {t : Tmp} {j : Nat} {q : Oper} (hj : ops[j]? = some q) (hq : q.dst = some t) : ∀ i, j < i → i ≤ ops.size → rg (S i).R t = (S j).x := by
  intro i
  induction i with
  | zero => intro h; omega
  | succ i ih =>
    intro h hi
    obtain ⟨o, ho⟩ := at_lt (show i < ops.size by omega)
    rw [(hr.step i o (by omega) ho).1]
    by_cases e : j = i
    · subst e
      rw [hj] at ho; cases ho
      rw [hq]
      show rg ((S j).R.put t (S j).x) t = _
      rw [rg_put, if_pos rfl]
    · have hne : o.dst ≠ some t := fun hd => e (nodup_dst hnd hj ho hq hd)
      rw [← ih (by omega) (by omega)]
      cases hd : o.dst with
      | none => rfl
      | some u =>
        show rg ((S i).R.put u (S i).x) t = _
        rw [rg_put, if_neg (fun e => hne (by rw [hd, e]))]
theorem reg_not (hr : Run P n ops Good 0 ⟨.nil, [], [], []⟩ S) {t : Tmp} : ∀ i, i ≤ ops.size → (∀ j q, j < i → ops[j]? = some q → q.dst ≠ some t) → rg (S i).R t = rg (S 0).R t := by
  intro i
  induction i with
  | zero => intro _ _; rfl
  | succ i ih =>
    intro hi h
    obtain ⟨o, ho⟩ := at_lt (show i < ops.size by omega)
    rw [(hr.step i o (by omega) ho).1]
    have hne : o.dst ≠ some t := h i o (by omega) ho
    rw [← ih (by omega) (fun j q hj => h j q (by omega))]
    cases hd : o.dst with
    | none => rfl
    | some u =>
      show rg ((S i).R.put u (S i).x) t = _
      rw [rg_put, if_neg (fun e => hne (by rw [hd, e]))]
def DrawS (P : Program) (n : Nat) (ops : Array Oper) (R : T AV) (H : T XO) (a : Nat) (R' : T AV) (H' : T XO) (b : Nat) : Prop :=
  a ≤ b ∧ Dom H H' a b ∧ ∀ (F : AHeap) (g : Gh) (act : Act) (w : World), Disj (hof H) F a b → XPre n R (join (hof H) F) g act w → Free g a b →
    wpAny P .any ops (fun e' act' w' => e' = .normal ∧ ∃ g', Ext g g' a b ∧ XPre n R' (join (hof H') F) g' act' w') ops.size (Array.replicate ops.size false) act { w with drawn := w.drawn + 1 }
structure Way (n : Nat) (ops : Array Oper) (S : Nat → Rc) (F : AHeap) (g0 : Gh) (D : Nat → Bool) (g : Gh) (a : Act) (w : World) : Prop where
  defers : a.defers = []
  size : a.tmps.size = n
  sim : Sim g (join (HD S D ops.size) F) w
  wrote : ∀ t j p, ops[j]? = some p → p.dst = some t → D j = true → Rep g (S j).x (a.tmps.getD t undef)
  kept : ∀ t, (∀ j p, ops[j]? = some p → p.dst = some t → D j = false) → Rep g (rg (S 0).R t) (a.tmps.getD t undef)
  free : ∀ j p, j < ops.size → D j = false → (S j).a ≤ p → p < (S (j + 1)).a → g.loc p = none
  ext : Ext g0 g (S 0).a (S ops.size).a
variable {F : AHeap} {g0 g : Gh} {D : Nat → Bool} {a : Act} {w : World}
variable (hr : Run P n ops Good 0 ⟨.nil, [], [], []⟩ S) (hps : (S 0).ps = []) (hok : DrawOk n ops.size ops) (h0 : ∀ p, (S 0).a ≤ p → p < (S ops.size).a → hof (S 0).H p = none)
def Closed (ops : Array Oper) (D : Nat → Bool) : Prop := ∀ (j : Nat) (p : Oper), ops[j]? = some p → D j = true → ∀ e ∈ p.after, Region.binds .any e = true → D e.on = true
include hr hok in
theorem closed_mask (hcl : Closed ops D) : ∀ (i : Nat), i < ops.size → (D i = true ∨ ∀ o, ops[i]? = some o → ∀ e ∈ o.after, Region.binds .any e = true → D e.on = true) → ∀ j, hasBit (S i).m j = true → D j = true := by
  intro i
  induction i using Nat.strongRecOn with
  | _ i ih =>
    intro hi h j hj
    obtain ⟨o, ho⟩ := at_lt hi
    have h : ∀ e ∈ o.after, Region.binds .any e = true → D e.on = true := by
      rcases h with h | h
      · exact hcl i o ho h
      · exact h o ho
    obtain ⟨e, he, hb, hlt, hj⟩ := (mask_iff hr hok.back ho j).1 hj
    have hD := h e (by simpa using he) hb
    rcases hj with hj | hj
    · rw [← hj]; exact hD
    · exact ih e.on hlt (by omega) (.inl hD) j hj
include hr hok in
theorem way_looks (hw : Way n ops S F g0 D g a w) (hcl : Closed ops D) {i : Nat} {o : Oper} (ho : ops[i]? = some o) (hD : D i = false) (haft : ∀ e ∈ o.after, Region.binds .any e = true → D e.on = true) {t : Tmp} (ht : t ∈ o.looksAt ops) :
    Rep g (rg (S i).R t) (a.tmps.getD t undef) := by
  have hi := (Array.getElem?_eq_some_iff.1 ho).1
  by_cases hex : ∃ (j : Nat) (q : Oper), ops[j]? = some q ∧ q.dst = some t
  · obtain ⟨j, q, hj, hq⟩ := hex
    obtain ⟨h1, h2, h3⟩ := hok.wait i o ho j q t hj hq ht
    rcases Nat.lt_or_gt_of_ne h3 with hlt | hgt
    · rw [reg_at hr hok.nodup hj hq i hlt (by omega)]
      obtain ⟨e, he, hb, hon⟩ := h1 hlt
      exact hw.wrote t j q hj hq (by rw [← hon]; exact haft e he hb)
    · rw [reg_not hr i (by omega) fun k r hk hkr hrd => (by have := nodup_dst hok.nodup hj hkr hq hrd; omega)]
      refine hw.kept t fun k r hk hrd => ?_
      have : j = k := nodup_dst hok.nodup hj hk hq hrd
      subst this
      cases hDj : D j with
      | false => rfl
      | true =>
        obtain ⟨e, he, hb, hon⟩ := h2 hgt
        have := hcl j q hj hDj e he hb
        rw [hon, hD] at this; cases this
  · have hn : ∀ (j : Nat) (q : Oper), ops[j]? = some q → q.dst ≠ some t := fun j q hj hq => hex ⟨j, q, hj, hq⟩
    rw [reg_not hr i (by omega) fun j q _ => hn j q]
    exact hw.kept t fun j q hj hq => absurd hq (hn j q hj)
include hr hok in
theorem way_put (hw : Way n ops S F g0 D g a w) {D' : Nat → Bool} {i : Nat} {o : Oper} (ho : ops[i]? = some o) (hD : D i = false) (hD' : ∀ j, D' j = if i = j then true else D j) {v : Value} {g' : Gh} {w' : World}
    (he : Ext g g' (S i).a (S (i + 1)).a) (hv : Rep g' (S i).x v) (hs : Sim g' (join (HD S D' ops.size) F) w') : Way n ops S F g0 D' g' (a.put o.dst v) w' := by
  have hi := (Array.getElem?_eq_some_iff.1 ho).1
  have hget : ∀ (t : Nat), o.dst ≠ some t → (a.put o.dst v).tmps.getD t undef = a.tmps.getD t undef := fun t ht => by
    cases hd : o.dst with
    | none => rfl
    | some d =>
      have hne : d ≠ t := fun e => ht (by rw [hd, e])
      simp [Act.put, Array.getD_eq_getD_getElem?, Array.getElem?_setIfInBounds_ne hne]
  have hself : ∀ (t : Nat), o.dst = some t → (a.put o.dst v).tmps.getD t undef = v := fun t ht => by
    have hlt : t < a.tmps.size := by rw [hw.size]; exact hok.small i o t ho ht
    rw [ht]
    simp [Act.put, Array.getD_eq_getD_getElem?, hlt]
  refine ⟨?_, ?_, hs, ?_, ?_, ?_, ?_⟩
  · cases hd : o.dst <;> simpa [Act.put, hd] using hw.defers
  · cases hd : o.dst <;> simpa [Act.put, hd] using hw.size
  · intro t j p hj hp hlj
    rw [hD'] at hlj
    by_cases hji : i = j
    · subst hji
      rw [ho] at hj; cases hj
      rw [hself t hp]; exact hv
    · rw [if_neg hji] at hlj
      have hne : o.dst ≠ some t := fun ht => hji (nodup_dst hok.nodup ho hj ht hp)
      rw [hget t hne]
      exact Rep.mono he.le _ _ (hw.wrote t j p hj hp hlj)
  · intro t ht
    have hne : o.dst ≠ some t := fun hd => by
      have := ht i o ho hd
      rw [hD', if_pos rfl] at this
      cases this
    rw [hget t hne]
    refine Rep.mono he.le _ _ (hw.kept t fun j p hj hp => ?_)
    have := ht j p hj hp
    rw [hD'] at this
    split at this
    · cases this
    · exact this
  · intro j p hj hDj h1 h2
    rw [hD'] at hDj
    split at hDj
    · cases hDj
    · rename_i hne
      rw [he.out p ?_]
      · exact hw.free j p hj hDj h1 h2
      · rcases Nat.lt_or_gt_of_ne hne with h | h
        · have := a_mono hr (show i + 1 ≤ j by omega) (by omega); omega
        · have := a_mono hr (show j + 1 ≤ i by omega) (by omega); omega
  · have e1 := a_mono hr (show 0 ≤ i by omega) (by omega)
    have e2 := a_mono hr (show i + 1 ≤ ops.size by omega) (Nat.le_refl _)
    exact ⟨hw.ext.le.trans he.le, fun p hp => by rw [he.out p (by omega), hw.ext.out p hp]⟩
include hr hok in
theorem way_run (hw : Way n ops S F g0 D g a w) (hF : Disj (hof (S 0).H) F (S 0).a (S ops.size).a) (hcl : Closed ops D) {D' : Nat → Bool} {i : Nat} {o : Oper} (ho : ops[i]? = some o) (hD : D i = false) (hD' : ∀ j, D' j = if i = j then true else D j)
    (haft : ∀ e ∈ o.after, Region.binds .any e = true → D e.on = true) {K K' : T XO} {b : Nat} (hop : OpS P n o (ronly ops o (S i).R) K (S i).a (S i).x K' b) (hb : b ≤ (S (i + 1)).a)
    (hK : ∀ p x, hof K p = some x → HD S D ops.size p = some x) (hown : ∀ p, (S i).a ≤ p → p < b → HD S D ops.size p = none) (hpost : ∀ p, join (hof K') (beside K (join (HD S D ops.size) F)) p = join (HD S D' ops.size) F p)
    {Kc : Act → World → Prop} {Q : Exit → Act → World → Prop} (hk : ∀ g' a' w', Way n ops S F g0 D' g' a' w' → Kc a' w') : o.wp P a w Kc Q := by
  have hi := (Array.getElem?_eq_some_iff.1 ho).1
  have hj : join (hof K) (beside K (join (HD S D ops.size) F)) = join (HD S D ops.size) F := join_beside fun p x h => join_some (hK p x h)
  have e1 := a_mono hr (show 0 ≤ i by omega) (by omega)
  have e2 := a_mono hr (show i + 1 ≤ ops.size by omega) (Nat.le_refl _)
  refine hop.2.2 (beside K (join (HD S D ops.size) F)) g a w ⟨fun p x h => by simp [beside, h], fun p h1 h2 => ?_, fun p h1 h2 => ?_⟩ ⟨hw.defers, hw.size, fun t => ?_, by rw [hj]; exact hw.sim⟩ (fun p h1 h2 => hw.free i p hi hD h1 (by omega)) Kc Q fun v w' g' he hv hs => ?_
  · simp only [beside, join, hown p h1 h2]
    split
    · rfl
    · exact hF.f p (by omega) (by omega)
  · rcases Option.eq_none_or_eq_some (hof K p) with h | ⟨x, h⟩
    · exact h
    · have := hK p x h; rw [hown p h1 h2] at this; cases this
  · rw [ronly, rg_cutR]
    split
    · rename_i ht; exact way_looks hr hok hw hcl ho hD haft ht
    · simp only [Rep]
  · refine hk g' _ w' (way_put hr hok hw ho hD hD' ⟨he.le, fun p hp => he.out p (by omega)⟩ hv ?_)
    rw [show join (HD S D' ops.size) F = _ from (funext hpost).symm]
    exact hs
include hr hps hok h0 in
theorem way_op (hw : Way n ops S F g0 D g a w) (hF : Disj (hof (S 0).H) F (S 0).a (S ops.size).a) (hcl : Closed ops D) {D' : Nat → Bool} {i : Nat} {o : Oper} (ho : ops[i]? = some o) (hD : D i = false) (hD' : ∀ j, D' j = if i = j then true else D j)
    (haft : ∀ e ∈ o.after, Region.binds .any e = true → D e.on = true) {Kc : Act → World → Prop} {Q : Exit → Act → World → Prop} (hk : ∀ g' a' w', Way n ops S F g0 D' g' a' w' → Kc a' w') : wpOp P ops Q i Kc a w := by
  have hi := (Array.getElem?_eq_some_iff.1 ho).1
  have hbk := hok.back
  have hstep := (hr.step i o (by omega) ho).2
  have hcm := closed_mask hr hok hcl
  have hmi : ∀ j, hasBit (S i).m j = true → D j = true := hcm i hi (.inr fun o' ho' => by rw [ho] at ho'; cases ho'; exact haft)
  have hmD : ∀ j, j < ops.size → D j = true → hasBit (S j).m i = false := fun j hj hDj => by
    cases hc : hasBit (S j).m i with
    | false => rfl
    | true => rw [hcm j hj (.inl hDj) i hc] at hD; cases hD
  have hone := hd_one hr hps hbk h0 hi hD hD' hmD
  have hnil : ∀ G : AHeap, join (hof .nil) (beside .nil G) = G := fun G => join_beside fun p x h => by cases h
  have hpre : ∀ t, Rep g (rg (ronly ops o (S i).R) t) (a.tmps.getD t undef) := fun t => by
    rw [ronly, rg_cutR]
    split
    · rename_i ht; exact way_looks hr hok hw hcl ho hD haft ht
    · simp only [Rep]
  have hxp : XPre n (ronly ops o (S i).R) (join (HD S D ops.size) F) g a w := ⟨hw.defers, hw.size, hpre, hw.sim⟩
  have hsame : (∀ p, ¬ sup (S i) (S (i + 1)) p) → HD S D' ops.size = HD S D ops.size := fun h => funext fun p => by rw [hone, upd_not (h p)]
  have hww : ∀ u v H1 H2, u < v → v < ops.size → (S u).kd = .wr H1 → (S v).kd = .wr H2 → D v = true → D u = true := fun u v H1 H2 huv hv k1 k2 hDv => hcm v hv (.inl hDv) u (hr.ww v u H1 H2 (by omega) huv hv k1 k2)
  unfold Go.wpOp
  simp only [ho]
  cases hkd : (S i).kd with
  | skip =>
    rw [hkd] at hstep
    obtain ⟨h1, h2, h3, h4, h5⟩ := hstep
    rw [if_neg (by rw [h1 _ _ _ _ hxp]; simp)]
    refine hk g _ w (way_put hr hok hw ho hD hD' (.refl g _ _) (by rw [h2]; simp only [undefV, Rep]; rfl) ?_)
    rw [hsame fun p hs => by unfold sup at hs; rw [hkd] at hs; exact hs]
    exact hw.sim
  | flo =>
    rw [hkd] at hstep
    obtain ⟨h1, h2, h3, h4, h5⟩ := hstep
    rw [if_pos (h1 _ _ _ _ hxp)]
    refine .inl (way_run hr hok hw hF hcl ho hD hD' haft (h2 .nil (S i).a) (by omega) (fun p x h => by cases h) (fun p q1 q2 => by omega) (fun p => ?_) hk)
    rw [hsame fun p hs => by unfold sup at hs; rw [hkd] at hs; exact hs, hnil]
  | lay y =>
    rw [hkd] at hstep
    obtain ⟨h1, h2, h3, h4, h5⟩ := hstep
    rw [if_pos (h1 _ _ _ _ hxp)]
    refine .inl (way_run hr hok hw hF hcl ho hD hD' haft (h2 .nil) (by omega) (fun p x h => by cases h) (fun p q1 q2 => ?_) (fun p => ?_) hk)
    · exact hd_own hr hps h0 hi hD (fun j hj hDj => hcm j hj (.inl hDj)) (.inl ⟨y, hkd, by omega⟩) (by omega) ops.size (Nat.le_refl _)
    · rw [hof_put, ← join_set, hnil]
      simp only [AHeap.set, join, hone]
      by_cases e : p = (S i).a
      · rw [if_pos e, upd_sup (by unfold sup; rw [hkd]; exact e)]
        simp [val, hkd]
      · rw [if_neg e, upd_not (by unfold sup; rw [hkd]; exact e)]
  | wr H' =>
    rw [hkd] at hstep
    obtain ⟨h1, h2, h3, h4⟩ := hstep
    rw [if_pos (h1 _ _ _ _ hxp)]
    have hpart : ∀ p x, hof (minus (S i).m (S i).ps (S i).H) p = some x → HD S D ops.size p = some x := fun p x hx => by
      obtain ⟨hx1, hx2⟩ := hof_minus hx
      refine hd_part hr hps hbk h0 (Nat.le_of_lt hi) (fun u H2 hu hku => hmi u (hr.ww i u H2 H' (by omega) hu hi hku hkd)) (fun u H2 hu hul hku => ?_) hx1 fun j y hj hkj hDj e => ?_
      · rcases Nat.lt_or_eq_of_le hu with h | h
        · cases hc : D u with
          | false => rfl
          | true => rw [hww i u H' H2 h hul hkd hku hc] at hD; cases hD
        · rw [← h]; exact hD
      · refine hx2 ⟨j, (S j).a, y⟩ ((ps_iff hr hps i (by omega) _).2 ⟨hj, hkj, rfl⟩) ?_ e.symm
        cases hc : hasBit (S i).m j with
        | false => rfl
        | true => rw [hmi j hc] at hDj; cases hDj
    have hfr : ∀ p x, HD S D ops.size p = some x → F p = none := fun p x hx => by
      rcases hd_dom hr hps ops.size (Nat.le_refl _) p (by rw [hx]; rfl) with h | h
      · obtain ⟨z, hz⟩ := Option.isSome_iff_exists.1 h
        exact hF.h p z hz
      · exact hF.f p h.1 h.2
    have e1 := a_mono hr (show 0 ≤ i by omega) (by omega)
    have e2 := a_mono hr (show i + 1 ≤ ops.size by omega) (Nat.le_refl _)
    have hownp : ∀ p, (S i).a ≤ p → p < (S (i + 1)).a → HD S D ops.size p = none := fun p q1 q2 =>
      hd_own hr hps h0 hi hD (fun j hj hDj => hcm j hj (.inl hDj)) (.inr ⟨H', hkd⟩) ⟨q1, q2⟩ ops.size (Nat.le_refl _)
    refine .inl (way_run hr hok hw hF hcl ho hD hD' haft h2 (Nat.le_refl _) hpart hownp (fun p => ?_) hk)
    simp only [join, beside, hone]
    by_cases hs : sup (S i) (S (i + 1)) p
    · rw [upd_sup hs]
      have hv : val (S i) p = hof H' p := by simp [val, hkd]
      rw [hv]
      unfold sup at hs
      rw [hkd] at hs
      cases hh : hof H' p with
      | some x => rfl
      | none =>
        simp only
        rcases hs with hs | hs
        · obtain ⟨x, hx⟩ := Option.isSome_iff_exists.1 hs
          rw [if_pos hs]
          exact (hfr p x (hpart p x hx)).symm
        · rw [hownp p hs.1 hs.2]
          split
          · exact (hF.f p (by omega) (by omega)).symm
          · rfl
    · rw [upd_not hs]
      unfold sup at hs
      rw [hkd] at hs
      have hno : hof H' p = none := by
        rcases Option.eq_none_or_eq_some (hof H' p) with h | ⟨x, h⟩
        · exact h
        · exact absurd (h2.2.1 p (by rw [h]; rfl)) hs
      rw [hno]
      simp only
      rw [if_neg fun h => hs (.inl h)]
  | rd =>
    rw [hkd] at hstep
    obtain ⟨h1, h2, h3, h4, h5⟩ := hstep
    rw [if_pos (h1 _ _ _ _ hxp)]
    have hkk : ∃ K, OpS P n o (ronly ops o (S i).R) K (S i).a (S i).x K (S i).a ∧ ∀ p x, hof K p = some x → HD S D ops.size p = some x := by
      have cut : ∀ l q, l ≤ ops.size → (∀ u H2, u < l → (S u).kd = .wr H2 → D u = true) → (∀ u H2, l ≤ u → u < ops.size → (S u).kd = .wr H2 → D u = false) → q ≤ ops.size → (∀ j y, j < l → (S j).kd = .lay y → j < q) →
          ∀ p x, hof (minus (S i).m (S q).ps (S l).H) p = some x → HD S D ops.size p = some x := by
        intro l q hl c1 c2 hq c3 p x hx
        obtain ⟨hx1, hx2⟩ := hof_minus hx
        refine hd_part hr hps hbk h0 hl c1 c2 hx1 fun j y hj hkj hDj e => ?_
        refine hx2 ⟨j, (S j).a, y⟩ ((ps_iff hr hps q hq _).2 ⟨c3 j y hj hkj, hkj, rfl⟩) ?_ e.symm
        cases hc : hasBit (S i).m j with
        | false => rfl
        | true => rw [hmi j hc] at hDj; cases hDj
      by_cases hB : ∃ u, u < i ∧ (∃ H2, (S u).kd = .wr H2) ∧ D u = false
      ·
        obtain ⟨u, ⟨hui, ⟨H2, hku⟩, hDu⟩, hmin⟩ : ∃ u, (u < i ∧ (∃ H2, (S u).kd = .wr H2) ∧ D u = false) ∧ ∀ v, v < u → ¬ (v < i ∧ (∃ H2, (S v).kd = .wr H2) ∧ D v = false) := by
          obtain ⟨u, hu⟩ := hB
          induction u using Nat.strongRecOn with
          | _ u ih =>
            by_cases hex : ∃ v, v < u ∧ (v < i ∧ (∃ H2, (S v).kd = .wr H2) ∧ D v = false)
            · obtain ⟨v, hv, hv2⟩ := hex; exact ih v hv hv2
            · exact ⟨u, hu, fun v hv h => hex ⟨v, hv, h⟩⟩
        have hbit : hasBit (S i).m u = false := by
          cases hc : hasBit (S i).m u with
          | false => rfl
          | true => rw [hmi u hc] at hDu; cases hDu
        refine ⟨minus (S i).m (S i).ps (S u).H, hr.rb i u H2 (by omega) hui hi hkd hku hbit o ho, cut u i (by omega) (fun v H3 hv hkv => ?_) (fun v H3 hv hvl hkv => ?_) (by omega) (fun j y hj _ => by omega)⟩
        · cases hc : D v with
          | true => rfl
          | false => exact absurd ⟨by omega, ⟨H3, hkv⟩, hc⟩ (hmin v hv)
        · rcases Nat.lt_or_eq_of_le hv with h | h
          · cases hc : D v with
            | false => rfl
            | true => rw [hww u v H2 H3 h hvl hku hkv hc] at hDu; cases hDu
          · rw [← h]; exact hDu
      · have hall : ∀ u H2, u < i → (S u).kd = .wr H2 → D u = true := fun u H2 hu hku => by
          cases hc : D u with
          | true => rfl
          | false => exact absurd ⟨u, hu, ⟨H2, hku⟩, hc⟩ hB
        by_cases hC : ∃ u, i < u ∧ u < ops.size ∧ (∃ H2, (S u).kd = .wr H2) ∧ D u = true
        ·
          obtain ⟨u, ⟨hiu, hul, ⟨H2, hku⟩, hDu⟩, hmax⟩ : ∃ u, (i < u ∧ u < ops.size ∧ (∃ H2, (S u).kd = .wr H2) ∧ D u = true) ∧ ∀ v, u < v → ¬ (i < v ∧ v < ops.size ∧ (∃ H2, (S v).kd = .wr H2) ∧ D v = true) := by
            obtain ⟨u, hu⟩ := hC
            generalize hd : ops.size - u = d
            induction d using Nat.strongRecOn generalizing u with
            | _ d ih =>
              by_cases hex : ∃ v, u < v ∧ (i < v ∧ v < ops.size ∧ (∃ H2, (S v).kd = .wr H2) ∧ D v = true)
              · obtain ⟨v, hv, hv2⟩ := hex; exact ih (ops.size - v) (by omega) v hv2 rfl
              · exact ⟨u, hu, fun v hv h => hex ⟨v, hv, h⟩⟩
          refine ⟨minus (S i).m (S u).ps (S (u + 1)).H, hr.ra i u H2 (by omega) hiu hul hkd hku (hmD u hul hDu) o ho, cut (u + 1) u (by omega) (fun v H3 hv hkv => ?_) (fun v H3 hv hvl hkv => ?_) (by omega) (fun j y hj hkj => ?_)⟩
          · rcases Nat.lt_or_eq_of_le (Nat.le_of_lt_succ hv) with h | h
            · exact hww v u H3 H2 h hul hkv hku hDu
            · rw [h]; exact hDu
          · cases hc : D v with
            | false => rfl
            | true => exact absurd ⟨by omega, hvl, ⟨H3, hkv⟩, hc⟩ (hmax v (by omega))
          · rcases Nat.lt_or_eq_of_le (Nat.le_of_lt_succ hj) with h | h
            · exact h
            · rw [h, hku] at hkj; cases hkj
        · refine ⟨minus (S i).m (S i).ps (S i).H, h2, cut i i (by omega) hall (fun v H3 hv hvl hkv => ?_) (by omega) (fun j y hj _ => hj)⟩
          rcases Nat.lt_or_eq_of_le hv with h | h
          · cases hc : D v with
            | false => rfl
            | true => exact absurd ⟨v, h, hvl, ⟨H3, hkv⟩, hc⟩ hC
          · rw [← h, hkd] at hkv; cases hkv
    obtain ⟨K, hK1, hK2⟩ := hkk
    refine .inl (way_run hr hok hw hF hcl ho hD hD' haft hK1 (by omega) hK2 (fun p q1 q2 => by omega) (fun p => ?_) hk)
    rw [hsame fun p hs => by unfold sup at hs; rw [hkd] at hs; exact hs, join_beside fun p x h => join_some (hK2 p x h)]
include hr hps hok in
theorem way_ops : DrawS P n ops (S 0).R (S 0).H (S 0).a (S ops.size).R (S ops.size).H (S ops.size).a := by
  refine ⟨a_mono hr (Nat.zero_le _) (Nat.le_refl _), fun p hp => dom_le hr hps ops.size (Nat.le_refl _) p hp, fun F g act w hF hp hf => ?_⟩
  have h0 : ∀ p, (S 0).a ≤ p → p < (S ops.size).a → hof (S 0).H p = none := hF.n
  have hcount := @count_set
  let Q : Exit → Act → World → Prop := fun e' act' w' => e' = .normal ∧ ∃ g', Ext g g' (S 0).a (S ops.size).a ∧ XPre n (S ops.size).R (join (hof (S ops.size).H) F) g' act' w'
  have hend : ∀ (listed : Array Bool) g' a' w', Way n ops S F g (fun j => listed.getD j false) g' a' w' → (∀ i, i < ops.size → listed.getD i false = true) → Q .normal a' w' := fun listed g' a' w' hw hall => by
    refine ⟨rfl, g', hw.ext, ⟨hw.defers, hw.size, fun t => ?_, ?_⟩⟩
    · by_cases hex : ∃ (j : Nat) (q : Oper), ops[j]? = some q ∧ q.dst = some t
      · obtain ⟨j, q, hj, hq⟩ := hex
        have hjl := (Array.getElem?_eq_some_iff.1 hj).1
        rw [reg_at hr hok.nodup hj hq ops.size hjl (Nat.le_refl _)]
        exact hw.wrote t j q hj hq (hall j hjl)
      · have hn : ∀ (j : Nat) (q : Oper), ops[j]? = some q → q.dst ≠ some t := fun j q hj hq => hex ⟨j, q, hj, hq⟩
        rw [reg_not hr ops.size (Nat.le_refl _) fun j q _ => hn j q]
        exact hw.kept t fun j q hj hq => absurd hq (hn j q hj)
    · have e : HD S (fun j => listed.getD j false) ops.size = hof (S ops.size).H := funext fun p => hd_agree hr hps hok.back (fun u _ hu _ => hall u hu) (fun j y hj _ hD => by rw [hall j hj] at hD; cases hD) (Nat.le_refl _)
      rw [← e]; exact hw.sim
  have key : ∀ (fuel : Nat) (listed : Array Bool) (g' : Gh) (a' : Act) (w' : World), listed.size = ops.size → Closed ops (fun j => listed.getD j false) → Way n ops S F g (fun j => listed.getD j false) g' a' w' → (∃ k, k ≤ fuel ∧ (listed.toList.filter (!·)).length = k) → wpAny P .any ops Q fuel listed a' w' := by
    intro fuel
    induction fuel with
    | zero =>
      intro listed g' a' w' hsz hcl hw hcnt
      obtain ⟨k, hk0, hk⟩ := hcnt
      have hall : ∀ i, i < ops.size → listed.getD i false = true := fun i hi => by
        cases hli : listed.getD i false with
        | true => rfl
        | false =>
          have := hcount listed i (by rw [hsz]; exact hi) hli
          omega
      have hready : Region.ready .any ops listed = [] := by
        rw [List.eq_nil_iff_forall_not_mem]
        intro i hi
        obtain ⟨hu, o, ho, _⟩ := mem_ready.1 hi
        have hlt := (Array.getElem?_eq_some_iff.1 ho).1
        have := hall i hlt
        have hil : i < listed.size := by rw [hsz]; exact hlt
        simp [hil] at hu this
        rw [hu] at this; cases this
      exact ⟨hready, hend listed g' a' w' hw hall⟩
    | succ fuel ih =>
      intro listed g' a' w' hsz hcl hw hcnt
      obtain ⟨k, hk0, hk⟩ := hcnt
      refine ⟨fun hready => hend listed g' a' w' hw (ready_nil hok hsz hready), fun i hi => ?_⟩
      obtain ⟨hun, o, ho, hafter⟩ := mem_ready.1 hi
      have hlt := (Array.getElem?_eq_some_iff.1 ho).1
      have hil : i < listed.size := by rw [hsz]; exact hlt
      have hunf : listed.getD i false = false := by simp [hil] at hun ⊢; exact hun
      refine way_op (D := fun j => listed.getD j false) (D' := fun j => (listed.setIfInBounds i true).getD j false) hr hps hok h0 hw hF hcl ho hunf (fun j => getD_set hil) hafter fun g2 a2 w2 hw2 => ih _ g2 a2 w2 (by simpa using hsz) ?_ hw2 ⟨_, ?_, rfl⟩
      · intro j p hj hlj e he hb
        have hlj : (listed.setIfInBounds i true).getD j false = true := hlj
        show (listed.setIfInBounds i true).getD e.on false = true
        rw [getD_set hil] at hlj ⊢
        split
        · rfl
        · split at hlj
          · rename_i hji
            rw [← hji, ho] at hj; cases hj
            exact hafter e he hb
          · exact hcl j p hj hlj e he hb
      · have := hcount listed i hil hunf
        omega
  have hrep : ∀ j, (Array.replicate ops.size false).getD j false = false := fun j => by
    simp [Array.getD_eq_getD_getElem?, Array.getElem?_replicate]
    split <;> simp
  have hHD : HD S (fun j => (Array.replicate ops.size false).getD j false) ops.size = hof (S 0).H := by
    have : ∀ k, HD S (fun j => (Array.replicate ops.size false).getD j false) k = hof (S 0).H := by
      intro k
      induction k with
      | zero => rfl
      | succ k ih => rw [HD, hrep k, ih]; rfl
    exact this _
  refine (key ops.size _ g act _ (by simp) (fun j p hj hl => ?_) ⟨hp.defers, hp.size, ?_, fun t j p hj hp2 hl => ?_, fun t _ => hp.regs t, fun j p hj hl q1 q2 => ?_, .refl g _ _⟩ ⟨_, ?_, rfl⟩)
  · have hl : (Array.replicate ops.size false).getD j false = true := hl
    rw [hrep] at hl; cases hl
  · rw [hHD]
    exact hp.sim.same ⟨rfl, rfl, rfl⟩ rfl
  · have hl : (Array.replicate ops.size false).getD j false = true := hl
    rw [hrep] at hl; cases hl
  · have e1 := a_mono hr (show 0 ≤ j by omega) (by omega)
    have e2 := a_mono hr (show j + 1 ≤ ops.size by omega) (Nat.le_refl _)
    exact hf p (by omega) (by omega)
  · refine Nat.le_trans (List.length_filter_le _ _) ?_
    simp
end
theorem drawn_ops {ρ : Type} {Good : ρ → Prop} {P : Program} {n : Nat} {E : Env ρ} (hb : ¬ Good E.bad) (hty : ∀ t i, E.ty.get t = some i → TyOk P t i) {call : CallF ρ} (hc : CallOk Good P call) {ops : Array Oper} {R : T AV} {H : T XO} {a : Nat} {k : R3 ρ}
    (hok : drawOk n ops.size ops = true) (h : Good (cDrawn ops E call R H a k)) : ∃ R' H' b, DrawS P n ops R H a R' H' b ∧ Good (k R' H' b) := by
  obtain ⟨S, s1, s2, s3, s4, s5, s6⟩ := ok_drawn_run (n := n) (ops := ops) hb hty hc ops.toList 0 ⟨.nil, [], [], []⟩ R H a k (fun j => by simp) (fun r hr => by cases hr) h
  rw [show 0 + ops.toList.length = ops.size by simp] at s6
  refine ⟨_, _, _, ?_, s6⟩
  have := way_ops s1 s5 (drawOk_spec hok)
  rw [s2, s3, s4] at this
  exact this
theorem drawnOk {ρ : Type} {Good : ρ → Prop} {P : Program} {n : Nat} {E : Env ρ} (hb : ¬ Good E.bad) (hty : ∀ t i, E.ty.get t = some i → TyOk P t i) {call : CallF ρ} (hc : CallOk Good P call) (hm : P.follows .mixedOrders = true) : DrawnOk Good P n E call := by
  intro id ops R H a k hok h
  obtain ⟨R', H', b, ⟨h1, h2, h3⟩, hk⟩ := drawn_ops hb hty hc hok h
  exact ⟨R', H', b, ⟨h1, h2, fun F g act w hd hp hf => wp_region_any hm (h3 F g act w hd hp hf)⟩, hk⟩
end Go.Ex
