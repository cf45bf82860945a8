/-
  The abstract machine: a region that draws its order, whose last operation waits for all others. No program in sight.
-/
import Derived.Test.YtmgkhfnhaeplgaaAmDrawC
namespace Go.Am
set_option linter.unusedSimpArgs false
set_option linter.unusedVariables false
open Go

def peelOk (l : List Oper) (last : Oper) : Bool :=
  let m := l.length
  let pl := (last.after.toList.filter (Region.binds .any)).map (·.on)
  (List.range m).all (fun j => pl.any (Nat.beq j)) && pl.all (Nat.blt · m) &&
  l.all fun o => ((o.after.toList.filter (Region.binds .any)).all fun e => Nat.blt e.on m) && (match o.guard with | some (g, _) => Nat.blt g m | none => true)

theorem spl_one {α : Type} {x : α} : [x] = [] ++ [x] := rfl
theorem spl_cons {α : Type} {a x : α} {l l' : List α} (h : l = l' ++ [x]) : a :: l = (a :: l') ++ [x] := by rw [h]; rfl

section
variable {P : Program} {n : Nat} {K : Exit → Regs → AHeap → Prop} {R : Regs} {H : AHeap}

theorem oper_wp_same {o : Oper} {a : Act} {w : World} {k k' : Act → World → Prop} {Q Q' : Exit → Act → World → Prop}
    (hk : ∀ a w, k a w → k' a w) (hq : ∀ e a w, e ≠ .normal → Q e a w → Q' e a w) (h : o.wp P a w k Q) : o.wp P a w k' Q' := oper_wp_mono3 hk hq h

theorem wpOp_push {l : List Oper} {last : Oper} (hok : peelOk l last = true) {Q Q' : Exit → Act → World → Prop} (hq : ∀ e a w, e ≠ .normal → Q e a w → Q' e a w) {i : Nat} (hi : i < l.length) {k k' : Act → World → Prop} (hk : ∀ a w, k a w → k' a w) {a : Act} {w : World}
    (h : wpOp P ⟨l⟩ Q i k a w) : wpOp P ⟨l ++ [last]⟩ Q' i k' a w := by
  unfold wpOp at *
  have e1 : (⟨l⟩ : Array Oper)[i]? = some l[i] := by simp [hi]
  have e2 : (⟨l ++ [last]⟩ : Array Oper)[i]? = some l[i] := by simp [hi, List.getElem?_append_left]
  rw [e1] at h
  rw [e2]
  simp only at *
  have hy : Region.wanted l[i] (yielded ⟨l ++ [last]⟩ a.tmps) = Region.wanted l[i] (yielded ⟨l⟩ a.tmps) := by
    have hall := hok
    simp only [peelOk, Bool.and_eq_true, List.all_eq_true] at hall
    have hg := (hall.2 l[i] (List.getElem_mem hi)).2
    unfold Region.wanted
    split
    · rfl
    · rename_i g b hgd
      rw [hgd] at hg
      have hgl : g < l.length := Nat.le_of_ble_eq_true hg
      have : yielded ⟨l ++ [last]⟩ a.tmps g = yielded ⟨l⟩ a.tmps g := by
        unfold yielded
        have : (⟨l ++ [last]⟩ : Array Oper)[g]? = (⟨l⟩ : Array Oper)[g]? := by simp [List.getElem?_append_left hgl]
        rw [this]
      rw [this]
  rw [hy]
  split at h
  · rename_i hw
    rw [if_pos hw]
    rcases h with h | ⟨h1, a', w', h2⟩
    · exact .inl (oper_wp_same hk hq h)
    · exact .inr ⟨h1, a', w', hq _ _ _ (by intro e; cases e) h2⟩
  · rename_i hw
    rw [if_neg hw]
    exact hk _ _ h

theorem any_peel {l : List Oper} {last : Oper} (hok : peelOk l last = true) (hback : ∀ i j, j ∈ preds ⟨l⟩ i → j < i) {Q Q' : Exit → Act → World → Prop}
    (hq : ∀ e a w, e ≠ .normal → Q' e a w → Q e a w) (hn : ∀ a w, Q' .normal a w → wpOp P ⟨l ++ [last]⟩ Q l.length (Q .normal) a w) :
    ∀ (fuel : Nat) (listed : List Bool) (a : Act) (w : World), listed.length = l.length → wpAny P .any ⟨l⟩ Q' fuel ⟨listed⟩ a w → wpAny P .any ⟨l ++ [last]⟩ Q (fuel + 1) ⟨listed ++ [false]⟩ a w := by
  have hall := hok
  simp only [peelOk, Bool.and_eq_true, List.all_eq_true, List.mem_range] at hall
  obtain ⟨⟨h1, h2⟩, h3⟩ := hall
  -- which are ready
  have hr : ∀ (listed : List Bool), listed.length = l.length → ∀ i, i ∈ Region.ready .any (⟨l ++ [last]⟩ : Array Oper) ⟨listed ++ [false]⟩ → (i < l.length ∧ i ∈ Region.ready .any (⟨l⟩ : Array Oper) ⟨listed⟩) ∨ (i = l.length ∧ ∀ j, j < l.length → listed.getD j false = true) := by
    intro listed hl i hi
    obtain ⟨hu, o, ho, ha⟩ := mem_ready.1 hi
    have hil : i < l.length + 1 := by have := (Array.getElem?_eq_some_iff.1 ho).1; simpa using this
    have hget : ∀ j, j < l.length → (⟨listed ++ [false]⟩ : Array Bool).getD j false = listed.getD j false := fun j hj => by
      simp [Array.getD_eq_getD_getElem?, List.getD_eq_getElem?_getD, List.getElem?_append_left (by omega : j < listed.length)]
    rcases Nat.lt_or_ge i l.length with h | h
    · left
      refine ⟨h, mem_ready.2 ⟨?_, o, ?_, fun e he hb => ?_⟩⟩
      · have := hu
        simp only [Array.getD_eq_getD_getElem?, List.getElem?_toArray] at this ⊢
        rwa [List.getElem?_append_left (by omega)] at this
      · simpa [List.getElem?_append_left h] using ho
      · have hm : o ∈ l := by
          have : l[i]? = some o := by simpa [List.getElem?_append_left h] using ho
          exact List.mem_of_getElem? this
        have hlt : e.on < l.length := Nat.le_of_ble_eq_true ((h3 o hm).1 e (List.mem_filter.2 ⟨by simpa using he, hb⟩))
        have := ha e he hb
        rw [hget _ hlt] at this
        simpa [Array.getD_eq_getD_getElem?, List.getD_eq_getElem?_getD] using this
    · obtain rfl : i = l.length := by omega
      right
      refine ⟨rfl, fun j hj => ?_⟩
      have ho' : o = last := by simpa using ho.symm
      subst ho'
      obtain ⟨e, he, rfl⟩ := List.mem_map.1 (anyBeq.1 (h1 j hj))
      rw [List.mem_filter] at he
      rw [← hget _ hj]
      exact ha e (by simpa using he.1) he.2
  have hset : ∀ (listed : List Bool) (i : Nat), i < listed.length → (⟨listed ++ [false]⟩ : Array Bool).setIfInBounds i true = ⟨listed.set i true ++ [false]⟩ := fun listed i hi => by
    simp [List.set_append, hi]
  have hset2 : ∀ (listed : List Bool) (i : Nat), (⟨listed⟩ : Array Bool).setIfInBounds i true = ⟨listed.set i true⟩ := fun listed i => by simp
  -- at the end
  have hfin : ∀ (fuel : Nat) (listed : List Bool) (a : Act) (w : World), listed.length = l.length → (∀ j, j < l.length → listed.getD j false = true) → Q .normal a w → wpAny P .any ⟨l ++ [last]⟩ Q fuel ((⟨listed ++ [false]⟩ : Array Bool).setIfInBounds l.length true) a w := by
    intro fuel listed a w hl hj hqn
    have hnil : Region.ready .any (⟨l ++ [last]⟩ : Array Oper) ((⟨listed ++ [false]⟩ : Array Bool).setIfInBounds l.length true) = [] := by
      rw [List.eq_nil_iff_forall_not_mem]
      intro i hi
      obtain ⟨hu, o, ho, _⟩ := mem_ready.1 hi
      have hil : i < l.length + 1 := by have := (Array.getElem?_eq_some_iff.1 ho).1; simpa using this
      rw [Array.getD_eq_getD_getElem?, Array.getElem?_setIfInBounds] at hu
      split at hu
      · rename_i h
        simp only [List.size_toArray, List.length_append, List.length_singleton, hl] at hu
        rw [if_pos (by omega)] at hu
        simp at hu
      · have hlt : i < l.length := by omega
        have := hj i hlt
        simp only [List.getElem?_toArray] at hu
        rw [List.getElem?_append_left (by omega), List.getElem?_eq_getElem (by omega)] at hu
        rw [List.getD_eq_getElem?_getD, List.getElem?_eq_getElem (by omega)] at this
        simp at hu this
        rw [hu] at this; cases this
    cases fuel with
    | zero => exact ⟨hnil, hqn⟩
    | succ fuel => exact ⟨fun _ => hqn, fun i hi => by rw [hnil] at hi; cases hi⟩
  have hend : ∀ (listed : List Bool), listed.length = l.length → (∀ j, j < l.length → listed.getD j false = true) → Region.ready .any (⟨l⟩ : Array Oper) ⟨listed⟩ = [] := by
    intro listed hl hj
    rw [List.eq_nil_iff_forall_not_mem]
    intro i hi
    obtain ⟨hu, o, ho, _⟩ := mem_ready.1 hi
    have hlt : i < l.length := by have := (Array.getElem?_eq_some_iff.1 ho).1; simpa using this
    have := hj i hlt
    rw [Array.getD_eq_getD_getElem?, List.getElem?_toArray, List.getElem?_eq_getElem (by omega)] at hu
    rw [List.getD_eq_getElem?_getD, List.getElem?_eq_getElem (by omega)] at this
    simp at hu this
    rw [hu] at this; cases this
  -- nothing is ready: all are listed
  have hclosed : ∀ (listed : List Bool), listed.length = l.length → Region.ready .any (⟨l⟩ : Array Oper) ⟨listed⟩ = [] → ∀ j, j < l.length → listed.getD j false = true := by
    intro listed hl hnil j
    induction j using Nat.strongRecOn with
    | _ j ih =>
      intro hj
      cases hlj : listed.getD j false with
      | true => rfl
      | false =>
        have : j ∈ Region.ready .any (⟨l⟩ : Array Oper) ⟨listed⟩ := by
          refine mem_ready.2 ⟨?_, l[j], by simp [hj], fun e he hb => ?_⟩
          · rw [List.getD_eq_getElem?_getD, List.getElem?_eq_getElem (by omega)] at hlj
            rw [Array.getD_eq_getD_getElem?, List.getElem?_toArray, List.getElem?_eq_getElem (by omega)]
            simpa using hlj
          · have hp : e.on ∈ preds ⟨l⟩ j := by
              unfold preds
              have : (⟨l⟩ : Array Oper)[j]? = some l[j] := by simp [hj]
              rw [this]
              exact List.mem_map.2 ⟨e, List.mem_filter.2 ⟨by simpa using he, hb⟩, rfl⟩
            have hlt := hback j e.on hp
            have := ih e.on hlt (by omega)
            simpa [Array.getD_eq_getD_getElem?, List.getD_eq_getElem?_getD] using this
        rw [hnil] at this; cases this
  have hlast : ∀ (listed : List Bool), listed.length = l.length → (∀ j, j < l.length → listed.getD j false = true) → l.length ∈ Region.ready .any (⟨l ++ [last]⟩ : Array Oper) ⟨listed ++ [false]⟩ := by
    intro listed hl hj
    refine mem_ready.2 ⟨?_, last, by simp, fun e he hb => ?_⟩
    · rw [Array.getD_eq_getD_getElem?, List.getElem?_toArray, List.getElem?_append_right (by omega)]
      simp [hl]
    · have hlt : e.on < l.length := Nat.le_of_ble_eq_true (h2 e.on (List.mem_map.2 ⟨e, List.mem_filter.2 ⟨by simpa using he, hb⟩, rfl⟩))
      have := hj e.on hlt
      rw [List.getD_eq_getElem?_getD, List.getElem?_eq_getElem (by omega)] at this
      rw [Array.getD_eq_getD_getElem?, List.getElem?_toArray, List.getElem?_append_left (by omega), List.getElem?_eq_getElem (by omega)]
      simpa using this
  intro fuel
  induction fuel with
  | zero =>
    intro listed a w hl h
    obtain ⟨k1, k2⟩ := h
    have hj := hclosed listed hl k1
    refine ⟨fun hnil => ?_, fun i hi => ?_⟩
    · have := hlast listed hl hj
      rw [hnil] at this; cases this
    · rcases hr listed hl i hi with ⟨_, h⟩ | ⟨rfl, _⟩
      · rw [k1] at h; cases h
      · exact wpOp_mono (fun a w hqn => hfin 0 listed a w hl hj hqn) (hn a w k2)
  | succ fuel ih =>
    intro listed a w hl h
    obtain ⟨k1, k2⟩ := h
    refine ⟨fun hnil => ?_, fun i hi => ?_⟩
    · by_cases hn0 : Region.ready .any (⟨l⟩ : Array Oper) ⟨listed⟩ = []
      · have := hlast listed hl (hclosed listed hl hn0)
        rw [hnil] at this; cases this
      · obtain ⟨i, hi⟩ := List.exists_mem_of_ne_nil _ hn0
        have hm : i ∈ Region.ready .any (⟨l ++ [last]⟩ : Array Oper) ⟨listed ++ [false]⟩ := by
          obtain ⟨hu, o, ho, ha⟩ := mem_ready.1 hi
          have hlt : i < l.length := by have := (Array.getElem?_eq_some_iff.1 ho).1; simpa using this
          refine mem_ready.2 ⟨?_, o, ?_, fun e he hb => ?_⟩
          · rw [Array.getD_eq_getD_getElem?, List.getElem?_toArray] at hu ⊢
            rw [List.getElem?_append_left (by omega)]; exact hu
          · simpa [List.getElem?_append_left hlt] using ho
          · have hm : o ∈ l := List.mem_of_getElem? (by simpa using ho : l[i]? = some o)
            have hlt : e.on < l.length := Nat.le_of_ble_eq_true ((h3 o hm).1 e (List.mem_filter.2 ⟨by simpa using he, hb⟩))
            have := ha e he hb
            rw [Array.getD_eq_getD_getElem?, List.getElem?_toArray] at this ⊢
            rw [List.getElem?_append_left (by omega)]; exact this
        rw [hnil] at hm; cases hm
    · rcases hr listed hl i hi with ⟨hlt, h⟩ | ⟨rfl, hj⟩
      · have := k2 i h
        refine wpOp_push hok hq hlt (fun a w hw => ?_) this
        rw [hset _ _ (by omega)]
        rw [hset2] at hw
        exact ih _ a w (by simpa using hl) hw
      · exact wpOp_mono (fun a w hqn => hfin (fuel + 1) listed a w hl hj hqn) (hn a w (k1 (hend listed hl hj)))

/-- The last operation waits for all others: it comes behind them. -/
theorem aw_peel {id : Nat} {ops : Array Oper} {l : List Oper} {last : Oper} (hl : ops.toList = l ++ [last]) (hm : P.follows .mixedOrders = true) (hk : peelOk l last = true) (hback : ∀ i j, j ∈ preds ⟨l⟩ i → j < i)
    (h : AnyW P n ⟨l⟩ (kseq (fun R H => AWL P n ops [last] K R H) K) R H) : AW P n (.region id ops true) K R H := by
  obtain rfl : ops = ⟨l ++ [last]⟩ := by cases ops; simp only at hl; rw [hl]
  intro g a w hp
  refine wp_region_any hm ?_
  have h0 := h g a w hp
  have := any_peel (P := P) (Q := Post n g K) (Q' := Post n g (kseq (fun R H => AWL P n ⟨l ++ [last]⟩ [last] K R H) K)) hk hback (fun e a w hne ⟨R', H', g', h1, h2, h3⟩ => ⟨R', H', g', by cases e <;> first | exact absurd rfl hne | exact h1, h2, h3⟩) (fun a w ⟨R', H', g', h1, h2, h3⟩ => ?_) _ (List.replicate l.length false) a _ (by simp) (by simpa using h0)
  · have e : (⟨List.replicate l.length false ++ [false]⟩ : Array Bool) = Array.replicate (⟨l ++ [last]⟩ : Array Oper).size false := by
      rw [← List.replicate_succ']
      simp
    rw [e] at this
    simpa using this
  · have hw := wpList_mono2 (fun _ _ _ hq => Post.le h2 hq) _ _ _ (h1 g' a w h3)
    unfold wpList at hw
    unfold wpOp
    have e2 : (⟨l ++ [last]⟩ : Array Oper)[l.length]? = some last := by simp
    rw [e2]
    simp only
    split
    · rename_i hwant
      rw [if_pos hwant] at hw
      rcases hw with hw | hw
      · exact .inl (oper_wp_same (fun a w hq => by simpa [wpList] using hq) (fun _ _ _ _ hq => hq) hw)
      · exact .inr hw
    · rename_i hwant
      rw [if_neg hwant] at hw
      simpa [wpList] using hw
theorem aw_peel2 (c : Bool) {id : Nat} {ops : Array Oper} {l : List Oper} {last : Oper} (hl : ops.toList = l ++ [last]) (hm : P.follows .mixedOrders = true) (hk : peelOk l last = true) (hok : drawOkB n ⟨l⟩ (bmask c ⟨l⟩) = true)
    (h : AWM P n ⟨l⟩ (kseq (fun R H => AWL P n ops [last] K R H) K) H (bmask c ⟨l⟩) 0 [] (bmask c ⟨l⟩) l R) : AW P n (.region id ops true) K R H :=
  aw_peel hl hm hk (fun i j hj => (drawOkB_spec hok).back i j hj) (any_draw3 (by rw [bmask, bmaskF_len]) hok h)
end
end Go.Am
