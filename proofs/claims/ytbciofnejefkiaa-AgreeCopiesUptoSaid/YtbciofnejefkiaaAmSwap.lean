/-
  The abstract machine: a region that draws its order, taken apart by which of two operations comes first; the parts as regions of another text order. No program in sight.
-/
import Derived.Test.YtbciofnejefkiaaAmSplit
namespace Go.Am
set_option linter.unusedSimpArgs false
set_option linter.unusedVariables false
open Go

/-- b does not come ahead of a. -/
def Bef (a b : Nat) : List Nat → Prop
  | [] => True
  | i :: r => i = a ∨ (i ≠ b ∧ Bef a b r)
theorem bef_or (a b : Nat) : ∀ l, Bef a b l ∨ Bef b a l
  | [] => .inl trivial
  | i :: r => by
    by_cases h1 : i = a
    · exact .inl (.inl h1)
    · by_cases h2 : i = b
      · exact .inr (.inl h2)
      · rcases bef_or a b r with h | h
        · exact .inl (.inr ⟨h2, h⟩)
        · exact .inr (.inr ⟨h1, h⟩)
/-- An order that a region may draw. -/
def Valid (ops : Array Oper) : Nat → Array Bool → List Nat → Prop
  | 0, _, l => l = []
  | _ + 1, listed, [] => Region.ready .any ops listed = []
  | f + 1, listed, i :: r => i ∈ Region.ready .any ops listed ∧ Valid ops f (listed.setIfInBounds i true) r
theorem go_valid (ops : Array Oper) : ∀ (f t : Nat) (listed : Array Bool), Valid ops f listed (Region.linearise.go .any ops f t listed []) := by
  intro f
  induction f with
  | zero => intro t listed; simp [Region.linearise.go, Valid]
  | succ f ih =>
    intro t listed
    simp only [Region.linearise.go]
    change Valid ops (f + 1) listed (match (Region.ready .any ops listed)[t % (Region.ready .any ops listed).length]? with
      | some i => Region.linearise.go .any ops f (t / (Region.ready .any ops listed).length) (listed.setIfInBounds i true) [i]
      | none => [].reverse)
    cases hi : (Region.ready .any ops listed)[t % (Region.ready .any ops listed).length]? with
    | none =>
      show Region.ready .any ops listed = []
      cases hr : Region.ready .any ops listed with
      | nil => rfl
      | cons x xs =>
        rw [hr] at hi
        have hlt : t % (x :: xs).length < (x :: xs).length := Nat.mod_lt _ (by simp)
        simp at hi
        simp at hlt
        omega
    | some i =>
      simp only []
      rw [linearise_go_acc, List.reverse_singleton, List.singleton_append]
      exact ⟨List.mem_of_getElem? hi, ih _ _⟩

def pick : List Oper → Nat → Oper
  | [], _ => default
  | o :: _, 0 => o
  | _ :: l, k + 1 => pick l k
def relab (e : List Nat) (o : Oper) : Oper := { o with after := (e.map fun j => (⟨j, .data⟩ : Edge)).toArray, guard := none }
/-- The operations in another order of text, with other edges. -/
def mkP (l : List Oper) (spec : List (Nat × List Nat)) : List Oper := spec.map fun s => relab s.2 (pick l s.1)
def sig (spec : List (Nat × List Nat)) (k : Nat) : Nat := ((spec[k]?).map (·.1)).getD 0
def permOk (ops : Array Oper) (spec : List (Nat × List Nat)) (Cs : List (Nat × Nat)) : Bool :=
  Nat.beq spec.length ops.size &&
  (List.range ops.size).all (fun i => Nat.blt (sig spec i) ops.size && (List.range ops.size).any (fun k => Nat.beq (sig spec k) i) && (List.range ops.size).all (fun k => Nat.beq k i || !Nat.beq (sig spec k) (sig spec i)) && (match ops[i]? with | some o => o.guard.isNone | none => false) &&
    (match spec[i]? with | some s => s.2.all (fun e => Nat.blt e ops.size && ((preds ops (sig spec i)).any (Nat.beq (sig spec e)) || Cs.any (fun p => Nat.beq p.1 (sig spec e) && Nat.beq p.2 (sig spec i)))) | none => false) &&
    (preds ops i).all (fun j => Nat.blt j i)) &&
  Cs.all (fun p => !Nat.beq p.1 p.2 && Nat.blt p.1 ops.size && Nat.blt p.2 ops.size)
structure PermOk (ops : Array Oper) (spec : List (Nat × List Nat)) (Cs : List (Nat × Nat)) : Prop where
  len : spec.length = ops.size
  lt : ∀ i, i < ops.size → sig spec i < ops.size
  sur : ∀ i, i < ops.size → ∃ k, k < ops.size ∧ sig spec k = i
  inj : ∀ i k, i < ops.size → k < ops.size → sig spec k = sig spec i → k = i
  gd : ∀ (i : Nat) (o : Oper), ops[i]? = some o → o.guard = none
  edge : ∀ (i : Nat) (s : Nat × List Nat), spec[i]? = some s → ∀ e ∈ s.2, e < ops.size ∧ (sig spec e ∈ preds ops (sig spec i) ∨ (sig spec e, sig spec i) ∈ Cs)
  back : ∀ i j, i < ops.size → j ∈ preds ops i → j < i
  ne : ∀ p ∈ Cs, p.1 ≠ p.2
theorem permOk_spec {ops : Array Oper} {spec : List (Nat × List Nat)} {Cs : List (Nat × Nat)} (h : permOk ops spec Cs = true) : PermOk ops spec Cs := by
  simp only [permOk, Bool.and_eq_true, List.all_eq_true, List.mem_range, Bool.or_eq_true, Bool.not_eq_true', List.any_eq_true] at h
  obtain ⟨⟨h1, h2⟩, h3⟩ := h
  have hl := Nat.eq_of_beq_eq_true h1
  refine ⟨hl, fun i hi => blt_iff.1 (h2 i hi).1.1.1.1.1, fun i hi => ?_, fun i k hi hk e => ?_, fun i o ho => ?_, fun i s hs e he => ?_, fun i j hi hj => blt_iff.1 ((h2 i hi).2 j hj), fun p hp e => ?_⟩
  · obtain ⟨k, k1, k2⟩ := (h2 i hi).1.1.1.1.2
    exact ⟨k, k1, Nat.eq_of_beq_eq_true k2⟩
  · rcases (h2 i hi).1.1.1.2 k hk with h | h
    · exact Nat.eq_of_beq_eq_true h
    · rw [e, Nat.beq_refl] at h; cases h
  · have := (h2 i (Array.getElem?_eq_some_iff.1 ho).1).1.1.2
    rw [ho] at this
    simpa using this
  · have hi : i < ops.size := by rw [← hl]; exact (List.getElem?_eq_some_iff.1 hs).1
    have := (h2 i hi).1.2
    rw [hs] at this
    simp only [List.all_eq_true, Bool.and_eq_true, Bool.or_eq_true, List.any_eq_true] at this
    obtain ⟨a1, a2⟩ := this e he
    refine ⟨blt_iff.1 a1, ?_⟩
    rcases a2 with ⟨x, x1, x2⟩ | ⟨p, p1, p2, p3⟩
    · left; rw [Nat.eq_of_beq_eq_true x2]; exact x1
    · right
      rw [← Nat.eq_of_beq_eq_true p2, ← Nat.eq_of_beq_eq_true p3]
      exact p1
  · have := (h3 p hp).1.1
    rw [e, Nat.beq_refl] at this; cases this

theorem pick_0 {d : Option Tmp} {op : Op} {ty : TypeId} {pos : String} {af : Array Edge} {gd : Option (Nat × Bool)} {l : List Oper} : pick (⟨d, op, ty, pos, af, gd⟩ :: l) 0 = ⟨d, op, ty, pos, af, gd⟩ := rfl
theorem pick_s {a o : Oper} {l : List Oper} {k : Nat} (h : pick l k = o) : pick (a :: l) (k + 1) = o := h
theorem mk_nil {l : List Oper} : mkP l [] = [] := rfl
theorem mk_cons {d : Option Tmp} {op : Op} {ty : TypeId} {pos : String} {af : Array Edge} {gd : Option (Nat × Bool)} {l l' : List Oper} {k : Nat} {e : List Nat} {spec : List (Nat × List Nat)} (h1 : pick l k = ⟨d, op, ty, pos, af, gd⟩) (h2 : mkP l spec = l') :
    mkP l ((k, e) :: spec) = ⟨d, op, ty, pos, (e.map fun j => (⟨j, .data⟩ : Edge)).toArray, none⟩ :: l' := by
  show relab e (pick l k) :: mkP l spec = _
  rw [h1, h2]; rfl
theorem pick_get : ∀ (l : List Oper) (k : Nat) (o : Oper), l[k]? = some o → pick l k = o
  | [], k, o, h => by simp at h
  | a :: l, 0, o, h => by simpa [pick] using h
  | a :: l, k + 1, o, h => by rw [pick]; exact pick_get l k o (by simpa using h)
theorem mkP_get {l : List Oper} {spec : List (Nat × List Nat)} {k : Nat} (hk : k < spec.length) {o : Oper} (ho : l[sig spec k]? = some o) :
    (⟨mkP l spec⟩ : Array Oper)[k]? = some (relab (spec[k]).2 o) := by
  have hs : spec[k]? = some spec[k] := List.getElem?_eq_getElem hk
  have e : sig spec k = (spec[k]).1 := by unfold sig; rw [hs]; rfl
  simp only [List.getElem?_toArray, mkP, List.getElem?_map, hs, Option.map_some]
  rw [← e, pick_get _ _ _ ho]

section
variable {P : Program} {n : Nat} {K : Exit → Regs → AHeap → Prop} {R : Regs} {H : AHeap}

theorem wpOp_relab {ops ops' : Array Oper} {Q : Exit → Act → World → Prop} {i k : Nat} {e : List Nat} {o : Oper} (hi : ops[i]? = some o) (hg : o.guard = none) (hk : ops'[k]? = some (relab e o)) {F F' : Act → World → Prop} (hF : ∀ a w, F a w → F' a w) {a : Act} {w : World}
    (h : wpOp P ops' Q k F a w) : wpOp P ops Q i F' a w := by
  unfold wpOp at *
  rw [hk] at h
  rw [hi]
  simp only at *
  have w1 : Region.wanted (relab e o) (yielded ops' a.tmps) = true := by simp [Region.wanted, relab]
  have w2 : Region.wanted o (yielded ops a.tmps) = true := by simp [Region.wanted, hg]
  rw [if_pos w1] at h
  rw [if_pos w2]
  rcases h with h | h
  · exact .inl (oper_wp_mono3 hF (fun _ _ _ _ hq => hq) h)
  · exact .inr h

theorem all_listed {ops : Array Oper} {spec : List (Nat × List Nat)} {Cs : List (Nat × Nat)} (hok : PermOk ops spec Cs) {listed : Array Bool} (hsz : listed.size = ops.size) (h : Region.ready .any ops listed = []) : ∀ i, i < ops.size → listed.getD i false = true := by
  intro i
  induction i using Nat.strongRecOn with
  | ind i ih =>
    intro hi
    cases hl : listed.getD i false with
    | true => rfl
    | false =>
      exfalso
      have ho : ops[i]? = some ops[i] := Array.getElem?_eq_getElem hi
      have hmem : i ∈ Region.ready .any ops listed := by
        refine mem_ready.2 ⟨?_, _, ho, fun e he hb => ?_⟩
        · have : i < listed.size := by omega
          simp [this] at hl ⊢; exact hl
        · have hj : e.on ∈ preds ops i := by
            unfold preds; rw [ho]
            exact List.mem_map.2 ⟨e, List.mem_filter.2 ⟨Array.mem_toList_iff.2 he, hb⟩, rfl⟩
          have := hok.back i _ hi hj
          exact ih _ this (by omega)
      rw [h] at hmem; cases hmem

theorem orders_perm {ops : Array Oper} {spec : List (Nat × List Nat)} {Cs : List (Nat × Nat)} (hok : PermOk ops spec Cs) {Q : Exit → Act → World → Prop} :
    ∀ (f : Nat) (listed listed' : Array Bool) (l : List Nat) (a : Act) (w : World), listed.size = ops.size → listed'.size = ops.size → (∀ k, k < ops.size → listed'.getD k false = listed.getD (sig spec k) false) →
      (∀ p ∈ Cs, listed.getD p.1 false = true ∨ Bef p.1 p.2 l) → wpAny P .any ⟨mkP ops.toList spec⟩ Q f listed' a w → Valid ops f listed l → wpOps P ops Q l a w := by
  have hls : (⟨mkP ops.toList spec⟩ : Array Oper).size = ops.size := by simp [mkP, hok.len]
  intro f
  induction f with
  | zero => intro listed listed' l a w _ _ _ _ h hv; rw [show l = [] from hv]; exact h.2
  | succ f ih =>
    intro listed listed' l a w hs hs' hrel hC h hv
    cases l with
    | nil =>
      have hall := all_listed hok hs hv
      refine h.1 ?_
      rw [List.eq_nil_iff_forall_not_mem]
      intro k hk
      obtain ⟨hu, o, ho, _⟩ := mem_ready.1 hk
      have hlt : k < ops.size := by rw [← hls]; exact (Array.getElem?_eq_some_iff.1 ho).1
      have := hrel k hlt
      rw [hall _ (hok.lt k hlt)] at this
      have hkl : k < listed'.size := by omega
      simp [hkl] at hu this
      rw [hu] at this; cases this
    | cons i r =>
      obtain ⟨hi, hv⟩ := hv
      obtain ⟨hu, o, ho, haf⟩ := mem_ready.1 hi
      have hlt := (Array.getElem?_eq_some_iff.1 ho).1
      have hil : i < listed.size := by omega
      obtain ⟨k, hk, hki⟩ := hok.sur i hlt
      have hkl : k < listed'.size := by omega
      have hks : k < spec.length := by rw [hok.len]; exact hk
      have hunf : listed.getD i false = false := by simp [hil] at hu ⊢; exact hu
      have ho' := mkP_get (l := ops.toList) hks (o := o) (by rw [hki]; simpa using ho)
      have hrdy : k ∈ Region.ready .any ⟨mkP ops.toList spec⟩ listed' := by
        refine mem_ready.2 ⟨?_, _, ho', fun e he hb => ?_⟩
        · have := hrel k hk
          rw [hki, hunf] at this
          simp [hkl] at this ⊢; exact this
        · have he2 : ∃ j ∈ (spec[k]).2, e = ⟨j, .data⟩ := by simpa [relab, eq_comm] using he
          obtain ⟨j, hj, rfl⟩ := he2
          obtain ⟨b1, b2⟩ := hok.edge k _ (List.getElem?_eq_getElem hks) j hj
          show listed'.getD j false = true
          rw [hrel j b1]
          rcases b2 with b2 | b2
          · rw [hki] at b2
            unfold preds at b2; rw [ho] at b2
            obtain ⟨e, e1, e2⟩ := List.mem_map.1 b2
            obtain ⟨e3, e4⟩ := List.mem_filter.1 e1
            rw [← e2]; exact haf e (Array.mem_toList_iff.1 e3) e4
          · rw [hki] at b2
            rcases hC _ b2 with c | c
            · exact c
            · rcases c with c | c
              · exact absurd c.symm (hok.ne _ b2)
              · exact absurd rfl c.1
      rw [wpOps_cons]
      refine wpOp_relab ho (hok.gd i o ho) ho' (fun a2 w2 h2 => ih _ _ r a2 w2 (by simpa using hs) (by simpa using hs') (fun k2 hk2 => ?_) (fun p hp => ?_) h2 hv) (h.2 k hrdy)
      · rw [getD_set hkl, getD_set hil]
        by_cases e : k = k2
        · subst e; rw [if_pos rfl, if_pos hki.symm]
        · rw [if_neg e, if_neg fun e2 => e (hok.inj k2 k hk2 hk (hki.trans e2)), hrel k2 hk2]
      · rw [getD_set hil]
        split
        · exact .inl rfl
        · rename_i hne
          rcases hC p hp with c | c
          · exact .inl c
          · rcases c with c | c
            · exact absurd c hne
            · exact .inr c.2

/-- The orders in which each first of Cs comes ahead of its second. -/
def AnyO (P : Program) (n : Nat) (ops : Array Oper) (Cs : List (Nat × Nat)) (K : Exit → Regs → AHeap → Prop) (R : Regs) (H : AHeap) : Prop :=
  ∀ g a w, Pre n R H g a w → ∀ l, Valid ops ops.size (Array.replicate ops.size false) l → (∀ p ∈ Cs, Bef p.1 p.2 l) → wpOps P ops (Post n g K) l a { w with drawn := w.drawn + 1 }
theorem aw_orders {id : Nat} {ops : Array Oper} (hm : P.follows .mixedOrders = true) (h : AnyO P n ops [] K R H) : AW P n (.region id ops true) K R H := fun g a w hp =>
  wp_region_draw fun t => by
    simp only [Region.schedule, hm, Bool.true_or, if_true]
    exact h g a w hp _ (go_valid ops ops.size t _) (by simp)
theorem any_swap {ops : Array Oper} {Cs : List (Nat × Nat)} (a b : Nat) (h1 : AnyO P n ops ((a, b) :: Cs) K R H) (h2 : AnyO P n ops ((b, a) :: Cs) K R H) : AnyO P n ops Cs K R H := fun g x w hp l hv hc => by
  rcases bef_or a b l with h | h
  · refine h1 g x w hp l hv fun p hp => ?_
    rcases List.mem_cons.1 hp with rfl | hp
    · exact h
    · exact hc p hp
  · refine h2 g x w hp l hv fun p hp => ?_
    rcases List.mem_cons.1 hp with rfl | hp
    · exact h
    · exact hc p hp
theorem any_perm {ops : Array Oper} {Cs : List (Nat × Nat)} (spec : List (Nat × List Nat)) (hok : permOk ops spec Cs = true) {l' : List Oper} (hl : mkP ops.toList spec = l') (h : AnyW P n ⟨l'⟩ K R H) : AnyO P n ops Cs K R H := fun g a w hp l hv hc => by
  subst hl
  have hok := permOk_spec hok
  have hls : (⟨mkP ops.toList spec⟩ : Array Oper).size = ops.size := by simp [mkP, hok.len]
  have h0 := h g a w hp
  rw [hls] at h0
  refine orders_perm hok ops.size _ _ l a _ (by simp) (by simp) (fun k hk => ?_) (fun p hp => .inr (hc p hp)) h0 hv
  have := hok.lt k hk
  simp [Array.getD_eq_getD_getElem?, Array.getElem?_replicate, hk, this]
theorem any_drawp (Ψ : AHeap → Prop) {ops : Array Oper} (hΨ : Ψ H) (hok : drawOkB n ops (bmask true ops) = true) (h : DC.AWN P n ops K Ψ H (bmask true ops) 0 [] (bmask true ops) ops.toList R) : AnyW P n ops K R H :=
  DC.any_draw4 hΨ (by rw [bmask, bmaskF_len]) hok h
end
end Go.Am
