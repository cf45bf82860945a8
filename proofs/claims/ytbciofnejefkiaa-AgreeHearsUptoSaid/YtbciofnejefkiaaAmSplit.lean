/-
  The abstract machine: a region that draws its order, of two parts: each operation of the second waits for all of the first. No program in sight.
-/
import Derived.Test.YtbciofnejefkiaaAmPeel
namespace Go.Am
set_option linter.unusedSimpArgs false
set_option linter.unusedVariables false
open Go

def binds (o : Oper) : List Nat := (o.after.toList.filter (Region.binds .any)).map (·.on)
def splitOk (l1 l2 : List Oper) : Bool :=
  let m := l1.length
  (l1.all fun o => (binds o).all (Nat.blt · m) && (match o.guard with | some (g, _) => Nat.blt g m | none => true)) &&
  (l2.all fun o => match o.guard with | some (g, _) => !Nat.blt g m | none => true) &&
  (List.range l2.length).all fun k => (List.range m).all fun j => (reachAll ⟨l1 ++ l2⟩ (m + k) (preds ⟨l1 ++ l2⟩ (m + k))).any (Nat.beq j)
def shiftE (m : Nat) (e : Edge) : Edge := { e with on := e.on - m }
def shiftO (m : Nat) (o : Oper) : Oper := { o with after := ((o.after.toList.filter fun e => !Nat.blt e.on m).map (shiftE m)).toArray, guard := o.guard.map fun (g, b) => (g - m, b) }

section
variable {P : Program} {n : Nat} {K : Exit → Regs → AHeap → Prop} {R : Regs} {H : AHeap}

theorem wpAny_fuel {ops : Array Oper} {Q : Exit → Act → World → Prop} : ∀ (f : Nat) (listed : Array Bool) (a : Act) (w : World), wpAny P .any ops Q f listed a w → wpAny P .any ops Q (f + 1) listed a w
  | 0, listed, a, w, ⟨h1, h2⟩ => ⟨fun _ => h2, fun i hi => by rw [h1] at hi; cases hi⟩
  | f + 1, listed, a, w, ⟨h1, h2⟩ => ⟨h1, fun i hi => wpOp_mono (fun a w h => wpAny_fuel f _ a w h) (h2 i hi)⟩
theorem wpAny_fuel_le {ops : Array Oper} {Q : Exit → Act → World → Prop} {f f' : Nat} (h : f ≤ f') {listed : Array Bool} {a : Act} {w : World} (hw : wpAny P .any ops Q f listed a w) : wpAny P .any ops Q f' listed a w := by
  induction f' with
  | zero => obtain rfl : f = 0 := by omega
            exact hw
  | succ f' ih =>
    rcases Nat.lt_or_ge f' f with h1 | h1
    · obtain rfl : f = f' + 1 := by omega
      exact hw
    · exact wpAny_fuel _ _ _ _ (ih h1)

theorem getD_app {l1 l2 : List Bool} {j : Nat} (h : j < l1.length) : (⟨l1 ++ l2⟩ : Array Bool).getD j false = l1.getD j false := by
  simp [Array.getD_eq_getD_getElem?, List.getD_eq_getElem?_getD, List.getElem?_append_left h]
theorem getD_app_r {l1 l2 : List Bool} {j : Nat} : (⟨l1 ++ l2⟩ : Array Bool).getD (l1.length + j) false = l2.getD j false := by
  simp [Array.getD_eq_getD_getElem?, List.getD_eq_getElem?_getD, List.getElem?_append_right]
theorem unl {L : List Bool} {i : Nat} (hi : i < L.length) : (⟨L⟩ : Array Bool).getD i true = L.getD i false := by
  simp [Array.getD_eq_getD_getElem?, List.getD_eq_getElem?_getD, List.getElem?_eq_getElem hi]

def peelOk1 (l1 : List Oper) : Prop := ∀ o ∈ l1, (∀ e ∈ o.after.toList, Region.binds .any e = true → e.on < l1.length) ∧ (∀ g b, o.guard = some (g, b) → g < l1.length)
theorem wpOp_app {l l2 : List Oper} (hok : peelOk1 l) {Q Q' : Exit → Act → World → Prop} (hq : ∀ e a w, e ≠ .normal → Q e a w → Q' e a w) {i : Nat} (hi : i < l.length) {k k' : Act → World → Prop} (hk : ∀ a w, k a w → k' a w) {a : Act} {w : World}
    (h : wpOp P ⟨l⟩ Q i k a w) : wpOp P ⟨l ++ l2⟩ Q' i k' a w := by
  unfold wpOp at *
  have e1 : (⟨l⟩ : Array Oper)[i]? = some l[i] := by simp [hi]
  have e2 : (⟨l ++ l2⟩ : Array Oper)[i]? = some l[i] := by simp [hi, List.getElem?_append_left]
  rw [e1] at h
  rw [e2]
  simp only at *
  have hy : Region.wanted l[i] (yielded ⟨l ++ l2⟩ a.tmps) = Region.wanted l[i] (yielded ⟨l⟩ a.tmps) := by
    have hg := (hok l[i] (List.getElem_mem hi)).2
    unfold Region.wanted
    split
    · rfl
    · rename_i g b hgd
      have hgl := hg g b hgd
      have : yielded ⟨l ++ l2⟩ a.tmps g = yielded ⟨l⟩ a.tmps g := by
        unfold yielded
        have : (⟨l ++ l2⟩ : Array Oper)[g]? = (⟨l⟩ : Array Oper)[g]? := by simp [List.getElem?_append_left hgl]
        rw [this]
      rw [this]
  rw [hy]
  split at h
  · rename_i hw
    rw [if_pos hw]
    rcases h with h | ⟨h1, a', w', h2⟩
    · exact .inl (oper_wp_same hk hq h)
    · exact .inr ⟨h1, a', w', hq _ _ _ (by intro e; cases e) h2⟩
  · rename_i hw
    rw [if_neg hw]
    exact hk _ _ h
theorem wpOp_monoQ {ops : Array Oper} {Q Q' : Exit → Act → World → Prop} (hq : ∀ e a w, Q e a w → Q' e a w) {i : Nat} {k k' : Act → World → Prop} (hk : ∀ a w, k a w → k' a w) {a : Act} {w : World} (h : wpOp P ops Q i k a w) : wpOp P ops Q' i k' a w := by
  unfold wpOp at *
  split
  · rename_i ho; rw [ho] at h; exact hk _ _ h
  · rename_i o ho
    rw [ho] at h
    simp only at h
    split at h
    · rename_i hw
      rw [if_pos hw]
      rcases h with h | ⟨h1, a', w', h2⟩
      · exact .inl (oper_wp_same hk (fun e a w _ h => hq e a w h) h)
      · exact .inr ⟨h1, a', w', hq _ _ _ h2⟩
    · rename_i hw
      rw [if_neg hw]
      exact hk _ _ h
theorem wpAny_mono {ops : Array Oper} {Q Q' : Exit → Act → World → Prop} (hq : ∀ e a w, Q e a w → Q' e a w) : ∀ (f : Nat) (listed : Array Bool) (a : Act) (w : World), wpAny P .any ops Q f listed a w → wpAny P .any ops Q' f listed a w
  | 0, listed, a, w, ⟨h1, h2⟩ => ⟨h1, hq _ _ _ h2⟩
  | f + 1, listed, a, w, ⟨h1, h2⟩ => ⟨fun hn => hq _ _ _ (h1 hn), fun i hi => wpOp_monoQ hq (fun a w h => wpAny_mono hq f _ a w h) (h2 i hi)⟩
/-- The second part, as a region of its own. -/
theorem any_tail {l1 l2 : List Oper} (hok : splitOk l1 l2 = true) {Q : Exit → Act → World → Prop} : ∀ (f : Nat) (lst : List Bool) (a : Act) (w : World), lst.length = l2.length → wpAny P .any ⟨l2.map (shiftO l1.length)⟩ Q f ⟨lst⟩ a w → wpAny P .any ⟨l1 ++ l2⟩ Q f ⟨List.replicate l1.length true ++ lst⟩ a w := by
  have hall := hok
  simp only [splitOk, Bool.and_eq_true, List.all_eq_true] at hall
  obtain ⟨⟨_, hg2⟩, _⟩ := hall
  have hrl : (List.replicate l1.length true).length = l1.length := by simp
  -- ready here, ready there
  have hr : ∀ (lst : List Bool), lst.length = l2.length → ∀ i, i ∈ Region.ready .any (⟨l1 ++ l2⟩ : Array Oper) ⟨List.replicate l1.length true ++ lst⟩ ↔ ∃ k, i = l1.length + k ∧ k ∈ Region.ready .any (⟨l2.map (shiftO l1.length)⟩ : Array Oper) ⟨lst⟩ := by
    intro lst hl i
    constructor
    · intro hi
      obtain ⟨hu, o, ho, ha⟩ := mem_ready.1 hi
      have hil : i < (l1 ++ l2).length := by have := (Array.getElem?_eq_some_iff.1 ho).1; simpa using this
      rw [List.length_append] at hil
      have hge : l1.length ≤ i := by
        rcases Nat.lt_or_ge i l1.length with h | h
        · rw [unl (by simp; omega), List.getD_eq_getElem?_getD, List.getElem?_append_left (by simpa using h)] at hu
          simp [h] at hu
        · exact h
      obtain ⟨k, rfl⟩ : ∃ k, i = l1.length + k := ⟨i - l1.length, by omega⟩
      refine ⟨k, rfl, mem_ready.2 ⟨?_, shiftO l1.length o, ?_, fun e he hb => ?_⟩⟩
      · rw [unl (by simp; omega)] at hu
        rw [unl (by omega)]
        rw [List.getD_eq_getElem?_getD, List.getElem?_append_right (by simp)] at hu
        rw [List.getD_eq_getElem?_getD]
        simpa using hu
      · have ho' : l2[k]? = some o := by simpa [List.getElem?_append_right] using ho
        simp [ho']
      · simp only [shiftO, List.mem_toArray, List.mem_map, List.mem_filter] at he
        obtain ⟨e0, ⟨he0, hf⟩, rfl⟩ := he
        have hge2 : l1.length ≤ e0.on := by
          rcases Nat.lt_or_ge e0.on l1.length with h | h
          · rw [blt_iff.2 h] at hf; cases hf
          · exact h
        have h1 := ha e0 (by simpa using he0) hb
        have h2 : (⟨List.replicate l1.length true ++ lst⟩ : Array Bool).getD ((List.replicate l1.length true).length + (e0.on - l1.length)) false = true := by rw [hrl, show l1.length + (e0.on - l1.length) = e0.on by omega]; exact h1
        rw [getD_app_r] at h2
        simpa [shiftE, Array.getD_eq_getD_getElem?, List.getD_eq_getElem?_getD] using h2
    · rintro ⟨k, rfl, hk⟩
      obtain ⟨hu, o', ho', ha⟩ := mem_ready.1 hk
      have hkl : k < l2.length := by have := (Array.getElem?_eq_some_iff.1 ho').1; simpa using this
      refine mem_ready.2 ⟨?_, l2[k], by simp [List.getElem?_append_right, hkl], fun e he hb => ?_⟩
      · rw [unl (by omega)] at hu
        rw [unl (by simp; omega), List.getD_eq_getElem?_getD, List.getElem?_append_right (by simp)]
        rw [List.getD_eq_getElem?_getD] at hu
        simpa using hu
      · have hoe : o' = shiftO l1.length l2[k] := by simpa [hkl] using ho'.symm
        subst hoe
        rcases Nat.lt_or_ge e.on l1.length with h | h
        · rw [getD_app (by simpa using h), List.getD_eq_getElem?_getD]; simp [h]
        · have h1 := ha (shiftE l1.length e) (by
            simp only [shiftO, List.mem_toArray, List.mem_map, List.mem_filter]
            refine ⟨e, ⟨by simpa using he, ?_⟩, rfl⟩
            cases hbl : Nat.blt e.on l1.length with
            | false => rfl
            | true => have := blt_iff.1 hbl; omega) hb
          have h2 : (⟨List.replicate l1.length true ++ lst⟩ : Array Bool).getD ((List.replicate l1.length true).length + (e.on - l1.length)) false = lst.getD (e.on - l1.length) false := getD_app_r
          rw [hrl, show l1.length + (e.on - l1.length) = e.on by omega] at h2
          rw [h2]
          simpa [shiftE, Array.getD_eq_getD_getElem?, List.getD_eq_getElem?_getD] using h1
  have hop : ∀ (k : Nat) (kk kk' : Act → World → Prop), (∀ a w, kk a w → kk' a w) → ∀ a w, wpOp P ⟨l2.map (shiftO l1.length)⟩ Q k kk a w → wpOp P ⟨l1 ++ l2⟩ Q (l1.length + k) kk' a w := by
    intro k kk kk' hkk a w h
    unfold wpOp at *
    have e2 : (⟨l1 ++ l2⟩ : Array Oper)[l1.length + k]? = l2[k]? := by simp [List.getElem?_append_right]
    have e1 : (⟨l2.map (shiftO l1.length)⟩ : Array Oper)[k]? = l2[k]?.map (shiftO l1.length) := by simp
    rw [e1] at h
    rw [e2]
    cases ho : l2[k]? with
    | none => rw [ho] at h; simp only [Option.map_none] at h; exact hkk _ _ h
    | some o =>
      rw [ho] at h
      simp only [Option.map_some] at h ⊢
      have hyy : ∀ gi, l1.length ≤ gi → yielded ⟨l2.map (shiftO l1.length)⟩ a.tmps (gi - l1.length) = yielded ⟨l1 ++ l2⟩ a.tmps gi := fun gi hge => by
        unfold yielded
        have f2 : (⟨l1 ++ l2⟩ : Array Oper)[gi]? = l2[gi - l1.length]? := by simp [List.getElem?_append_right hge]
        have f1 : (⟨l2.map (shiftO l1.length)⟩ : Array Oper)[gi - l1.length]? = l2[gi - l1.length]?.map (shiftO l1.length) := by simp
        rw [f1, f2]
        cases l2[gi - l1.length]? <;> rfl
      have hy : Region.wanted (shiftO l1.length o) (yielded ⟨l2.map (shiftO l1.length)⟩ a.tmps) = Region.wanted o (yielded ⟨l1 ++ l2⟩ a.tmps) := by
        have hg := hg2 o (List.mem_of_getElem? ho)
        generalize yielded ⟨l2.map (shiftO l1.length)⟩ a.tmps = Y at *
        unfold Region.wanted shiftO
        cases hgd : o.guard with
        | none => rfl
        | some q =>
          obtain ⟨gi, b⟩ := q
          rw [hgd] at hg
          simp only at hg
          have hge : l1.length ≤ gi := by
            rcases Nat.lt_or_ge gi l1.length with h | h
            · rw [blt_iff.2 h] at hg; cases hg
            · exact h
          simp only [Option.map_some, hyy gi hge]
      rw [hy] at h
      split at h
      · rename_i hw
        rw [if_pos hw]
        rcases h with h | h
        · exact .inl (oper_wp_same (o := o) hkk (fun _ _ _ _ hq => hq) h)
        · exact .inr h
      · rename_i hw
        rw [if_neg hw]
        exact hkk _ _ h
  have hset : ∀ (lst : List Bool) (k : Nat), (⟨List.replicate l1.length true ++ lst⟩ : Array Bool).setIfInBounds (l1.length + k) true = ⟨List.replicate l1.length true ++ lst.set k true⟩ := fun lst k => by
    simp [List.set_append]
  intro f
  induction f with
  | zero =>
    intro lst a w hl h
    obtain ⟨k1, k2⟩ := h
    refine ⟨?_, k2⟩
    rw [List.eq_nil_iff_forall_not_mem]
    intro i hi
    obtain ⟨k, _, hk⟩ := (hr lst hl i).1 hi
    rw [k1] at hk; cases hk
  | succ f ih =>
    intro lst a w hl h
    obtain ⟨k1, k2⟩ := h
    refine ⟨fun hn => k1 ?_, fun i hi => ?_⟩
    · rw [List.eq_nil_iff_forall_not_mem]
      intro k hk
      have := (hr lst hl (l1.length + k)).2 ⟨k, rfl, hk⟩
      rw [hn] at this; cases this
    · obtain ⟨k, rfl, hk⟩ := (hr lst hl i).1 hi
      refine hop k _ _ (fun a w h => ?_) a w (k2 k hk)
      rw [hset]
      refine ih _ a w (by simpa using hl) ?_
      simpa using h

theorem any_split {l1 l2 : List Oper} (hok : splitOk l1 l2 = true) (hback : ∀ i j, j ∈ preds ⟨l1⟩ i → j < i) {Q Q' : Exit → Act → World → Prop}
    (hq : ∀ e a w, e ≠ .normal → Q' e a w → Q e a w) (hn : ∀ a w, Q' .normal a w → wpAny P .any ⟨l1 ++ l2⟩ Q l2.length ⟨List.replicate l1.length true ++ List.replicate l2.length false⟩ a w) :
    ∀ (fuel : Nat) (listed : List Bool) (a : Act) (w : World), listed.length = l1.length → (∀ j, listed.getD j false = true → ∀ p ∈ preds ⟨l1⟩ j, listed.getD p false = true) → wpAny P .any ⟨l1⟩ Q' fuel ⟨listed⟩ a w →
    wpAny P .any ⟨l1 ++ l2⟩ Q (fuel + l2.length) ⟨listed ++ List.replicate l2.length false⟩ a w := by
  have hall := hok
  simp only [splitOk, Bool.and_eq_true, List.all_eq_true, List.mem_range] at hall
  obtain ⟨⟨h1, _⟩, h3⟩ := hall
  have hpk : peelOk1 l1 := fun o ho => by
    have := h1 o ho
    refine ⟨fun e he hb => ?_, fun g b hg => ?_⟩
    · have := this.1 e.on (List.mem_map.2 ⟨e, List.mem_filter.2 ⟨he, hb⟩, rfl⟩)
      exact blt_iff.1 this
    · rw [hg] at this; exact blt_iff.1 this.2
  have hpr : ∀ j, j < l1.length → preds ⟨l1 ++ l2⟩ j = preds ⟨l1⟩ j := fun j hj => by
    unfold preds
    have e1 : (⟨l1⟩ : Array Oper)[j]? = some l1[j] := by simp [hj]
    have e2 : (⟨l1 ++ l2⟩ : Array Oper)[j]? = some l1[j] := by simp [hj, List.getElem?_append_left]
    rw [e1, e2]
  -- ready of the whole
  have hr : ∀ (listed : List Bool), listed.length = l1.length → (∀ j, listed.getD j false = true → ∀ p ∈ preds ⟨l1⟩ j, listed.getD p false = true) → ∀ i, i ∈ Region.ready .any (⟨l1 ++ l2⟩ : Array Oper) ⟨listed ++ List.replicate l2.length false⟩ → (i < l1.length ∧ i ∈ Region.ready .any (⟨l1⟩ : Array Oper) ⟨listed⟩) ∨ (∀ j, j < l1.length → listed.getD j false = true) := by
    intro listed hl hcl i hi
    obtain ⟨hu, o, ho, ha⟩ := mem_ready.1 hi
    have hil : i < (l1 ++ l2).length := by have := (Array.getElem?_eq_some_iff.1 ho).1; simpa using this
    rw [List.length_append] at hil
    rcases Nat.lt_or_ge i l1.length with h | h
    · left
      have hoe : l1[i]? = some o := by simpa [List.getElem?_append_left h] using ho
      refine ⟨h, mem_ready.2 ⟨?_, o, by simpa using hoe, fun e he hb => ?_⟩⟩
      · rw [unl (by simp; omega), List.getD_eq_getElem?_getD, List.getElem?_append_left (by omega)] at hu
        rw [unl (by omega), List.getD_eq_getElem?_getD]; exact hu
      · have hlt := (hpk o (List.mem_of_getElem? hoe)).1 e (by simpa using he) hb
        have := ha e he hb
        rw [getD_app (by omega)] at this
        simpa [Array.getD_eq_getD_getElem?, List.getD_eq_getElem?_getD] using this
    · right
      intro j hj
      have hcl2 : ∀ j, (⟨listed ++ List.replicate l2.length false⟩ : Array Bool).getD j false = true → ∀ p ∈ preds ⟨l1 ++ l2⟩ j, (⟨listed ++ List.replicate l2.length false⟩ : Array Bool).getD p false = true := by
        intro q hq1 p hp
        rcases Nat.lt_or_ge q l1.length with hq2 | hq2
        · rw [getD_app (by omega)] at hq1
          rw [hpr q hq2] at hp
          have := hcl q hq1 p hp
          have hpl := hback q p hp
          rw [getD_app (by omega)]; exact this
        · obtain ⟨r, rfl⟩ : ∃ r, q = listed.length + r := ⟨q - listed.length, by omega⟩
          rw [getD_app_r, List.getD_eq_getElem?_getD] at hq1
          simp [List.getElem?_replicate] at hq1
          split at hq1 <;> cases hq1
      have hk := h3 (i - l1.length) (by omega) j hj
      rw [show l1.length + (i - l1.length) = i by omega] at hk
      have := reachAll_listed hcl2 i _ (fun p hp => by
        unfold preds at hp
        rw [ho] at hp
        obtain ⟨e, he, rfl⟩ := List.mem_map.1 hp
        rw [List.mem_filter] at he
        exact ha e (by simpa using he.1) he.2) j (anyBeq.1 hk)
      rw [getD_app (by omega)] at this
      exact this
  have hset : ∀ (listed : List Bool) (i : Nat), i < listed.length → (⟨listed ++ List.replicate l2.length false⟩ : Array Bool).setIfInBounds i true = ⟨listed.set i true ++ List.replicate l2.length false⟩ := fun listed i hi => by
    simp [List.set_append, hi]
  have hclosed : ∀ (listed : List Bool), listed.length = l1.length → Region.ready .any (⟨l1⟩ : Array Oper) ⟨listed⟩ = [] → ∀ j, j < l1.length → listed.getD j false = true := by
    intro listed hl hnil j
    induction j using Nat.strongRecOn with
    | _ j ih =>
      intro hj
      cases hlj : listed.getD j false with
      | true => rfl
      | false =>
        have : j ∈ Region.ready .any (⟨l1⟩ : Array Oper) ⟨listed⟩ := by
          refine mem_ready.2 ⟨?_, l1[j], by simp [hj], fun e he hb => ?_⟩
          · rw [unl (by omega)]; exact hlj
          · have hp : e.on ∈ preds ⟨l1⟩ j := by
              unfold preds
              have : (⟨l1⟩ : Array Oper)[j]? = some l1[j] := by simp [hj]
              rw [this]
              exact List.mem_map.2 ⟨e, List.mem_filter.2 ⟨by simpa using he, hb⟩, rfl⟩
            have hlt := hback j e.on hp
            have := ih e.on hlt (by omega)
            simpa [Array.getD_eq_getD_getElem?, List.getD_eq_getElem?_getD] using this
        rw [hnil] at this; cases this
  have hallt : ∀ (listed : List Bool), listed.length = l1.length → (∀ j, j < l1.length → listed.getD j false = true) → listed = List.replicate l1.length true := by
    intro listed hl hj
    refine List.ext_getElem (by simpa using hl) fun i h1 h2 => ?_
    have := hj i (by omega)
    rw [List.getD_eq_getElem?_getD, List.getElem?_eq_getElem h1] at this
    simpa using this
  have hnone : ∀ (listed : List Bool), listed.length = l1.length → (∀ j, j < l1.length → listed.getD j false = true) → Region.ready .any (⟨l1⟩ : Array Oper) ⟨listed⟩ = [] := by
    intro listed hl hj
    rw [List.eq_nil_iff_forall_not_mem]
    intro i hi
    obtain ⟨hu, o, ho, _⟩ := mem_ready.1 hi
    have hlt : i < l1.length := by have := (Array.getElem?_eq_some_iff.1 ho).1; simpa using this
    rw [unl (by omega), hj i hlt] at hu
    cases hu
  intro fuel
  induction fuel with
  | zero =>
    intro listed a w hl hcl h
    obtain ⟨k1, k2⟩ := h
    have := hn a w k2
    rw [← hallt listed hl (hclosed listed hl k1)] at this
    rw [Nat.zero_add]
    exact this
  | succ fuel ih =>
    intro listed a w hl hcl h
    obtain ⟨k1, k2⟩ := h
    by_cases hj : ∀ j, j < l1.length → listed.getD j false = true
    · have := hn a w (k1 (hnone listed hl hj))
      rw [← hallt listed hl hj] at this
      exact wpAny_fuel_le (by omega) this
    · rw [show fuel + 1 + l2.length = (fuel + l2.length) + 1 by omega]
      refine ⟨fun hnil => ?_, fun i hi => ?_⟩
      · have hn0 : Region.ready .any (⟨l1⟩ : Array Oper) ⟨listed⟩ ≠ [] := fun h => hj (hclosed listed hl h)
        obtain ⟨i, hi⟩ := List.exists_mem_of_ne_nil _ hn0
        have hm : i ∈ Region.ready .any (⟨l1 ++ l2⟩ : Array Oper) ⟨listed ++ List.replicate l2.length false⟩ := by
          obtain ⟨hu, o, ho, ha⟩ := mem_ready.1 hi
          have hlt : i < l1.length := by have := (Array.getElem?_eq_some_iff.1 ho).1; simpa using this
          refine mem_ready.2 ⟨?_, o, by simpa [List.getElem?_append_left hlt] using ho, fun e he hb => ?_⟩
          · rw [unl (by omega)] at hu
            rw [unl (by simp; omega), List.getD_eq_getElem?_getD, List.getElem?_append_left (by omega), ← List.getD_eq_getElem?_getD]; exact hu
          · have hlt := (hpk o (List.mem_of_getElem? (by simpa using ho : l1[i]? = some o))).1 e (by simpa using he) hb
            have := ha e he hb
            rw [getD_app (by omega)]
            simpa [Array.getD_eq_getD_getElem?, List.getD_eq_getElem?_getD] using this
        rw [hnil] at hm; cases hm
      · rcases hr listed hl hcl i hi with ⟨hlt, h⟩ | h
        · have := k2 i h
          refine wpOp_app hpk hq hlt (fun a w hw => ?_) this
          rw [hset _ _ (by omega)]
          have hsz : (⟨listed⟩ : Array Bool).setIfInBounds i true = ⟨listed.set i true⟩ := by simp
          rw [hsz] at hw
          refine ih _ a w (by simpa using hl) (fun j hj2 p hp => ?_) hw
          obtain ⟨_, o, ho, ha⟩ := mem_ready.1 h
          have hgs : ∀ q, (listed.set i true).getD q false = if q = i then true else listed.getD q false := fun q => by
            rw [List.getD_eq_getElem?_getD, List.getD_eq_getElem?_getD, List.getElem?_set]
            split
            · rename_i e; subst e; rw [if_pos (by omega), if_pos rfl]; rfl
            · rename_i e; rw [if_neg (fun e2 => e e2.symm)]
          rw [hgs] at hj2 ⊢
          split
          · rfl
          · split at hj2
            · rename_i e
              subst e
              unfold preds at hp
              rw [ho] at hp
              obtain ⟨e, he, rfl⟩ := List.mem_map.1 hp
              rw [List.mem_filter] at he
              have := ha e (by simpa using he.1) he.2
              simpa [Array.getD_eq_getD_getElem?, List.getD_eq_getElem?_getD] using this
            · exact hcl j hj2 p hp
        · exact absurd h hj

theorem aw_split {id : Nat} {ops : Array Oper} {l1 l2 : List Oper} (hl : ops.toList = l1 ++ l2) (hm : P.follows .mixedOrders = true) (hk : splitOk l1 l2 = true) (hback : ∀ i j, j ∈ preds ⟨l1⟩ i → j < i)
    (h : AnyW P n ⟨l1⟩ (kseq (fun R H => AnyK P n ⟨l2.map (shiftO l1.length)⟩ K R H) K) R H) : AW P n (.region id ops true) K R H := by
  obtain rfl : ops = ⟨l1 ++ l2⟩ := by cases ops; simp only at hl; rw [hl]
  intro g a w hp
  refine wp_region_any hm ?_
  have h0 := h g a w hp
  have := any_split (P := P) (Q := Post n g K) (Q' := Post n g (kseq (fun R H => AnyK P n ⟨l2.map (shiftO l1.length)⟩ K R H) K)) hk hback
    (fun e a w hne ⟨R', H', g', h1, h2, h3⟩ => ⟨R', H', g', by cases e <;> first | exact absurd rfl hne | exact h1, h2, h3⟩) (fun a w ⟨R', H', g', h1, h2, h3⟩ => ?_) _ (List.replicate l1.length false) a _ (by simp) (fun j hj => by
      rw [List.getD_eq_getElem?_getD, List.getElem?_replicate] at hj
      split at hj <;> cases hj) (by simpa using h0)
  · have e : (⟨List.replicate l1.length false ++ List.replicate l2.length false⟩ : Array Bool) = Array.replicate (⟨l1 ++ l2⟩ : Array Oper).size false := by
      rw [List.replicate_append_replicate]
      simp
    rw [e] at this
    simpa using this
  · have ht := any_tail (P := P) hk (Q := Post n g K) l2.length (List.replicate l2.length false) a w (by simp)
    refine ht ?_
    have hx := h1 g' a w h3
    have hmono := wpAny_mono (fun _ _ _ hq => Post.le h2 hq) _ _ _ _ hx
    simpa using hmono
theorem spl2_call {d : Option Tmp} {x : Operand} {args : Array Operand} {ats : Array TypeId} {ty : TypeId} {pos : String} {af : Array Edge} {gd : Option (Nat × Bool)} {l : List Oper} :
    (⟨d, .call { callee := .value x, args := args, argTypes := ats }, ty, pos, af, gd⟩ : Oper) :: l = [⟨d, .call { callee := .value x, args := args, argTypes := ats }, ty, pos, af, gd⟩] ++ l := rfl
theorem spl2_cons {a : Oper} {l l1 l2 : List Oper} (h : l = l1 ++ l2) : a :: l = (a :: l1) ++ l2 := by rw [h]; rfl
theorem aw_split2 (c : Bool) {id : Nat} {ops : Array Oper} {l1 l2 : List Oper} (hl : ops.toList = l1 ++ l2) (hm : P.follows .mixedOrders = true) (hk : splitOk l1 l2 = true) (hok : drawOkB n ⟨l1⟩ (bmask c ⟨l1⟩) = true)
    (h : AWM P n ⟨l1⟩ (kseq (fun R H => AnyK P n ⟨l2.map (shiftO l1.length)⟩ K R H) K) H (bmask c ⟨l1⟩) 0 [] (bmask c ⟨l1⟩) l1 R) : AW P n (.region id ops true) K R H :=
  aw_split hl hm hk (fun i j hj => (drawOkB_spec hok).back i j hj) (any_draw3 (by rw [bmask, bmaskF_len]) hok h)
end
end Go.Am
