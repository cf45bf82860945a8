/-
  Rounds of a loop, a range over a function, and the function that splits a text.
-/
import Derived.Test.YtaabpahemponkaaGreatDoorDyJ
import Derived.RangeFuncRecord
import Derived.TacticsIn
set_option linter.unusedVariables false
set_option linter.unusedSimpArgs false
namespace Go.Ex
open Go Go.Am
def fw (r : Option Nat) : Fence := { Fence.wide with round := r }
theorem callsIn_fw {r : Option Nat} {m : Nat} {P : Program} {f : FuncId} {args : Array Value} {w : World} {R : Ending → World → Prop} (h : Calls P f args w R) : CallsIn (fw r) m P f args w R := (callsIn_wide (n := m)).2 h
theorem rowsIn_fw {r : Option Nat} {m : Nat} {P : Program} {row : String} {args : Array Value} {w : World} {R : Value → World → Prop} (h : Rows P row args w R) : RowsIn (fw r) m P row args w R := fun c cs _ =>
  let ⟨v, w', q, s⟩ := h c cs
  ⟨v, w', q, (stepsIn_wide (P := P)).2 s⟩
section
variable {P : Program} {n : Nat} {r : Option Nat} {o : Oper} {a : Act} {w : World} {K K' : Act → World → Prop} {Q : Exit → Act → World → Prop} {m : Nat} {ops : Array Oper}
theorem uponIn_of (hK : ∀ a w, K a w → K' a w) {x : Result Next} (h : o.upon P a K Q x) : o.uponIn (fw r) m P a K' Q x := by
  cases x with
  | ok y w' =>
    cases y with
    | value v => exact hK _ _ h
    | skip => exact hK _ _ h
    | defer d => exact hK _ _ h
    | enter f args =>
      refine ⟨fun h => (by cases h), (callsIn_fw h).mono ?_⟩
      intro e w'' h
      cases e with
      | returned v => exact hK _ _ h
      | panicked chain => exact h
      | outgrown => exact h
    | row row args => exact ⟨fun h => (by cases h), (rowsIn_fw h).mono fun v w'' h => hK _ _ h⟩
    | _ => exact (show False from h).elim
  | halt e w' =>
    cases e with
    | panic v => exact h
    | _ => exact (show False from h).elim
theorem opIn (hnd : ∀ c, o.op ≠ .defer c) (hK : ∀ a w, K a w → K' a w) (h : o.wp P a w K Q) : o.wpIn (fw r) m P a w K' Q :=
  ⟨fun _ _ => trivial, by rw [Oper.semAt_eq _ _ _ hnd]; exact uponIn_of hK h⟩
theorem opsIn (hnd : ∀ (i : Nat) (o : Oper), ops[i]? = some o → ∀ c, o.op ≠ .defer c) (hQ : ¬ LetsOut Q) : ∀ (l : List Nat) (a : Act) (w : World), wpOps P ops Q l a w → wpOpsIn (fw r) m P ops Q l a w
  | [], a, w, h => h
  | i :: l, a, w, h => by
    simp only [wpOps] at h
    simp only [wpOpsIn]
    cases ho : ops[i]? with
    | none => simp only [ho] at h ⊢; exact opsIn hnd hQ l _ _ h
    | some o =>
      simp only [ho] at h ⊢
      split at h
      · rename_i hw
        rw [if_pos hw]
        rcases h with h | ⟨_, h⟩
        · exact opIn (hnd i o ho) (fun a w h => opsIn hnd hQ l a w h) h
        · exact absurd h hQ
      · rename_i hw
        rw [if_neg hw]
        exact ⟨fun _ _ => trivial, opsIn hnd hQ l _ _ h⟩
theorem listIn {l : List Oper} (hnd : ∀ o ∈ l, ∀ c, o.op ≠ .defer c) (hQ : ¬ LetsOut Q) : ∀ (a : Act) (w : World), wpList P ops Q l a w → wpListIn (fw r) m P ops Q l a w := by
  induction l with
  | nil => exact fun a w h => h
  | cons o l ih =>
    intro a w h
    have ih := ih fun o' h' => hnd o' (by simp [h'])
    simp only [wpList] at h
    simp only [wpListIn]
    split at h
    · rename_i hw
      rw [if_pos hw]
      rcases h with h | ⟨_, h⟩
      · exact opIn (hnd o (by simp)) ih h
      · exact absurd h hQ
    · rename_i hw
      rw [if_neg hw]
      exact ⟨fun _ _ => trivial, ih _ _ h⟩
end
theorem letsOut_no {R : Act → World → Prop} : ¬ LetsOut (fun e a w => e = .normal ∧ R a w) := by
  rintro ⟨a, w, h, _⟩
  cases h
section
variable (P : Program) (n : Nat) (r : Option Nat)
def CodeI (c : Code) (R : T AV) (H : T XO) (a : Nat) (e : Exit) (R' : T AV) (H' : T XO) (b : Nat) : Prop :=
  a ≤ b ∧ Dom H H' a b ∧ ∀ (F : AHeap) (g : Gh) (act : Act) (w : World), Disj (hof H) F a b → XPre n R (join (hof H) F) g act w → Free g a b → ∀ m,
    c.wpIn (fw r) m P (fun e' act' w' => e' = e ∧ ∃ g', Ext g g' a b ∧ XPre n R' (join (hof H') F) g' act' w') act w
end
def isDefer (o : Op) : Bool := match o with
  | .defer _ => true
  | _ => false
def codeI : Code → Bool
  | .skip => true
  | .exit _ => true
  | .ret => true
  | .region _ ops _ => ops.toList.all fun o => !isDefer o.op
  | .seq x y => codeI x && codeI y
  | .cond _ x y => codeI x && codeI y
  | .block _ x => codeI x
  | _ => false
theorem noDefer {l : List Oper} (h : (l.all fun o => !isDefer o.op) = true) : ∀ o ∈ l, ∀ c, o.op ≠ .defer c := fun o ho c e => by
  have := List.all_eq_true.1 h o ho
  rw [e] at this
  cases this
section
variable {P : Program} {n : Nat} {r : Option Nat}
theorem codeI_seq {x y : Code} {R R1 R2 : T AV} {H H1 H2 : T XO} {a b c : Nat} {e : Exit} (h1 : CodeI P n r x R H a .normal R1 H1 b) (h2 : CodeI P n r y R1 H1 b e R2 H2 c) : CodeI P n r (.seq x y) R H a e R2 H2 c := by
  obtain ⟨p1, p2, p3⟩ := h1
  obtain ⟨q1, q2, q3⟩ := h2
  refine ⟨Nat.le_trans p1 q1, p2.trans q2 p1 q1, fun F g act w hd hp hf m => ?_⟩
  refine wpIn_seq (wpIn_mono (p3 F g act w (hd.sub q1) hp (hf.sub q1) m) ?_)
  rintro e' act' w' ⟨rfl, g', he, hp'⟩
  refine wpIn_mono (q3 F g' act' w' (hd.step p2 p1 q1) hp' (he.free p1 hf) m) ?_
  rintro e2 act2 w2 ⟨h, g2, he2, hp2⟩
  exact ⟨h, g2, he.trans he2 p1 q1, hp2⟩
theorem codeI_seq_exit {x y : Code} {R R1 : T AV} {H H1 : T XO} {a b : Nat} {e : Exit} (hne : e ≠ .normal) (h1 : CodeI P n r x R H a e R1 H1 b) : CodeI P n r (.seq x y) R H a e R1 H1 b := by
  obtain ⟨p1, p2, p3⟩ := h1
  refine ⟨p1, p2, fun F g act w hd hp hf m => wpIn_seq (wpIn_mono (p3 F g act w hd hp hf m) ?_)⟩
  rintro e' act' w' ⟨rfl, h⟩
  exact then_ne hne ⟨rfl, h⟩
theorem codeI_cond {x y : Code} {c : Operand} {R R1 : T AV} {H H1 : T XO} {a b : Nat} {e : Exit} {t : Bool} (hc : ev c R = .raw (.bool t)) (h : CodeI P n r (if t then x else y) R H a e R1 H1 b) : CodeI P n r (.cond c x y) R H a e R1 H1 b := by
  obtain ⟨p1, p2, p3⟩ := h
  refine ⟨p1, p2, fun F g act w hd hp hf m => wpIn_cond (t := t) ?_ (p3 F g act w hd hp hf m)⟩
  have := ev_is hp hc
  simpa only [Rep] using this
theorem codeI_block {x : Code} {id : Nat} {R R1 : T AV} {H H1 : T XO} {a b : Nat} {e e' : Exit} (h : CodeI P n r x R H a e R1 H1 b) (he : e' = blockExit id e) : CodeI P n r (.block id x) R H a e' R1 H1 b := by
  obtain ⟨p1, p2, p3⟩ := h
  refine ⟨p1, p2, fun F g act w hd hp hf m => wpIn_block (wpIn_mono (p3 F g act w hd hp hf m) ?_)⟩
  rintro e2 act' w' ⟨rfl, h⟩
  cases e2 with
  | exit i =>
    simp only [Exit.inBlock]
    simp only [blockExit] at he
    by_cases hi : i = id
    · rw [if_pos hi]; rw [if_pos hi] at he; exact ⟨he.symm, h⟩
    · rw [if_neg hi]; rw [if_neg hi] at he; exact ⟨he.symm, h⟩
  | _ => exact ⟨he.symm, h⟩
variable {ρ : Type} {Good : ρ → Prop} {E : Env ρ} (hb : ¬ Good E.bad) (hty : ∀ t i, E.ty.get t = some i → TyOk P t i)
include hb hty in
theorem ok_codeI {call : CallF ρ} (hc : CallOk Good P call) (hm : P.follows .mixedOrders = true) (fuel : Nat) : ∀ (c : Code), CodeWf n c → codeI c = true → ∀ (R : T AV) (H : T XO) (a : Nat) (k : C ρ), Good (exec c E call fuel R H a k) →
    ∃ e R' H' b, CodeI P n r c R H a e R' H' b ∧ Good (k e R' H' b)
  | .skip, _, _, R, H, a, k, h => ⟨.normal, R, H, a, ⟨Nat.le_refl a, .refl H a a, fun F g act w hd hp hf m => wpIn_skip ⟨rfl, g, .refl g a a, hp⟩⟩, h⟩
  | .exit i, _, _, R, H, a, k, h => ⟨.exit i, R, H, a, ⟨Nat.le_refl a, .refl H a a, fun F g act w hd hp hf m => wpIn_exit ⟨rfl, g, .refl g a a, hp⟩⟩, h⟩
  | .ret, _, _, R, H, a, k, h => ⟨.ret, R, H, a, ⟨Nat.le_refl a, .refl H a a, fun F g act w hd hp hf m => wpIn_ret ⟨rfl, g, .refl g a a, hp⟩⟩, h⟩
  | .region id ops d, hw, hi, R, H, a, k, h => by
    have hnd := noDefer hi
    rcases ifb_cases (x := cDrawn ops E call R H a (fun R H a => k .normal R H a)) (y := runOps ops.toList E call ops.toList R H a (fun R H a => k .normal R H a)) h with ⟨rfl, h⟩ | ⟨rfl, h⟩
    · obtain ⟨R', H', b, ⟨h1, h2, h3⟩, hk⟩ := drawn_ops hb hty hc (hw.2 rfl) h
      refine ⟨.normal, R', H', b, ⟨h1, h2, fun F g act w hd hp hf m => wpIn_region_draw fun t => ?_⟩, hk⟩
      refine opsIn (fun i o ho => hnd o (by simpa using Array.mem_of_getElem? ho)) letsOut_no _ _ _ ?_
      simp only [Region.schedule, hm, Bool.true_or, if_true]
      exact wpAny_sound ops.size t _ act _ (h3 F g act w hd hp hf)
    · obtain ⟨R', H', b, ⟨h1, h2, h3⟩, hk⟩ := ok_list hb hty hc ops.toList hw.1 R H a (fun R H a => k .normal R H a) h
      exact ⟨.normal, R', H', b, ⟨h1, h2, fun F g act w hd hp hf m => wpIn_region_list (listIn hnd letsOut_no _ _ (h3 F g act w hd hp hf _ fun act' w' g' he hp' => ⟨rfl, g', he, hp'⟩))⟩, hk⟩
  | .seq x y, hw, hi, R, H, a, k, h => by
    simp only [codeI, Bool.and_eq_true] at hi
    obtain ⟨e, R1, H1, b1, h1, h2⟩ := ok_codeI hc hm fuel x hw.1 hi.1 R H a (fun e R H a => onNormal e (exec y E call fuel R H a k) (fun e => k e R H a)) h
    rcases onNormal_cases h2 with ⟨rfl, h2⟩ | ⟨hne, h2⟩
    · obtain ⟨e, R2, H2, b2, h3, h4⟩ := ok_codeI hc hm fuel y hw.2 hi.2 R1 H1 b1 k h2
      exact ⟨e, R2, H2, b2, codeI_seq h1 h3, h4⟩
    · exact ⟨e, R1, H1, b1, codeI_seq_exit hne h1, h2⟩
  | .cond c x y, hw, hi, R, H, a, k, h => by
    simp only [codeI, Bool.and_eq_true] at hi
    rcases asBool_cases (f := fun b => ifb b (exec x E call fuel R H a k) (exec y E call fuel R H a k)) h with ⟨t, ht, h⟩ | h
    rotate_left
    · exact absurd h hb
    cases t
    · obtain ⟨e, R1, H1, b1, h1, h2⟩ := ok_codeI hc hm fuel y hw.2 hi.2 R H a k h
      exact ⟨e, R1, H1, b1, codeI_cond (t := false) ht h1, h2⟩
    · obtain ⟨e, R1, H1, b1, h1, h2⟩ := ok_codeI hc hm fuel x hw.1 hi.1 R H a k h
      exact ⟨e, R1, H1, b1, codeI_cond (t := true) ht h1, h2⟩
  | .block id x, hw, hi, R, H, a, k, h => by
    obtain ⟨e, R1, H1, b1, h1, h2⟩ := ok_codeI hc hm fuel x hw hi R H a (fun e R H a => onExit e (fun i => ifb (Nat.beq i id) (k .normal R H a) (k (.exit i) R H a)) (fun e => k e R H a)) h
    rcases onExit_cases h2 with ⟨i, rfl, h2⟩ | ⟨hne, h2⟩
    · rcases ifb_cases h2 with ⟨hi, h2⟩ | ⟨hi, h2⟩
      · have hi := Nat.eq_of_beq_eq_true hi
        exact ⟨.normal, R1, H1, b1, codeI_block h1 (by simp [blockExit, hi]), h2⟩
      · have hi : i ≠ id := fun h => by rw [h] at hi; simp at hi
        exact ⟨.exit i, R1, H1, b1, codeI_block h1 (by simp [blockExit, hi]), h2⟩
    · exact ⟨e, R1, H1, b1, codeI_block h1 (by cases e <;> first | rfl | exact absurd rfl (hne _)), h2⟩
theorem CodeI.part {c : Code} {R R' R'' : T AV} {H H' H'' : T XO} {a b b' : Nat} {e : Exit} (h : CodeI P n r c R H a e R' H' b) (hR : ∀ i, rg R'' i = .unk ∨ rg R'' i = rg R' i) (hs : ∀ p y, hof H'' p = some y → hof H' p = some y) (hb : b ≤ b') : CodeI P n r c R H a e R'' H'' b' := by
  obtain ⟨h1, h2, h3⟩ := h
  refine ⟨Nat.le_trans h1 hb, fun p hp => ?_, fun F g act w hd hp hf m => wpIn_mono (h3 F g act w (hd.sub hb) hp (hf.sub hb) m) ?_⟩
  · obtain ⟨y, hy⟩ := Option.isSome_iff_exists.1 hp
    rcases h2 p (by rw [hs p y hy]; rfl) with h | h
    · exact .inl h
    · exact .inr ⟨h.1, by omega⟩
  · rintro e' act' w' ⟨rfl, g', he, hx⟩
    refine ⟨rfl, g', ⟨he.le, fun p hp => he.out p (by omega)⟩, hx.defers, hx.size, fun i => ?_, sim_part hx.sim fun p y hp => ?_⟩
    · rcases hR i with h | h
      · rw [h]; simp only [Rep]
      · rw [h]; exact hx.regs i
    · simp only [join] at hp ⊢
      cases hq : hof H'' p with
      | some u => rw [hq] at hp; rw [hs p u hq]; exact hp
      | none =>
        rw [hq] at hp
        simp only at hp
        cases hq' : hof H' p with
        | none => exact hp
        | some u =>
          exfalso
          rcases h2 p (by rw [hq']; rfl) with h | h
          · obtain ⟨z, hz⟩ := Option.isSome_iff_exists.1 h
            rw [hd.h p z hz] at hp; cases hp
          · rw [hd.f p h.1 (by omega)] at hp; cases hp
theorem node_okI {E : Env Oc} {call : CallF Oc} {fuel : Nat} {c : Code} {e : Exit} {R : T AV} {H : T XO} {a b0 : Nat} {rs : List (Nat × AV)} {outs : List (Nat × List AV)} (hb : ¬ ocG e rs outs E.bad) (hty : ∀ t i, E.ty.get t = some i → TyOk P t i)
    (hc : CallOk (ocG e rs outs) P call) (hm : P.follows .mixedOrders = true) (hw : codeWfB n c = true) (hi : codeI c = true)
    (h : exec c E call fuel R H a (kOc (rs.map (fun p => p.1)) (outs.map (fun p => p.1)) b0) = some (e, rs.map (fun p => p.2), outs.map (fun p => some p.2), true)) :
    CodeI P n r c R H a e (rL rs) (putAll .nil (celL outs)) b0 := by
  obtain ⟨e', R', H', b, hcs, h⟩ := ok_codeI (Good := ocG e rs outs) (r := r) hb hty hc hm fuel c (codeWf_of hw) hi R H a _ h
  have h : some (e', regsL R' (rs.map (fun p => p.1)), viewL H' (outs.map (fun p => p.1)), Nat.ble b b0) = some (e, rs.map (fun p => p.2), outs.map (fun p => some p.2), true) := h
  injection h with h
  injection h with h1 h
  injection h with h2 h
  injection h with h3 h4
  rw [h1] at hcs
  refine hcs.part (fun i => ?_) (fun p y hy => ?_) (Nat.le_of_ble_eq_true h4)
  · rcases rL_get rs i with h | ⟨p, hp, e1, e2⟩
    · exact .inl h
    · exact .inr (by rw [e2, ← e1, regsL_some h2 p hp])
  · obtain ⟨q, hq, e1, e2⟩ := putAll_some hy
    obtain ⟨r, hr, rfl⟩ := List.mem_map.1 hq
    rw [← e1, viewL_some h3 r hr, e2]
    show some (AO.cel r.2) = some (XL.cel r.2).xo.ao
    rw [show (XL.cel r.2).xo = cel r.2 from rfl, cel_ao]
end
end Go.Ex
namespace Go.Ex
open Go Go.Am
structure LeC (g g' : Gh) : Prop where
  hc : ∀ b c e fz, g.h b = some (.cells c e fz) → g'.h b = some (.cells c e fz)
  loc : ∀ o l, g.loc o = some l → g'.loc o = some l
theorem leC_le {g g' : Gh} (h : g.le g') : LeC g g' := ⟨fun _ _ _ _ e => h.h _ _ e, h.loc⟩
theorem LeC.refl (g : Gh) : LeC g g := ⟨fun _ _ _ _ e => e, fun _ _ e => e⟩
theorem LeC.trans {a b c : Gh} (h : LeC a b) (k : LeC b c) : LeC a c := ⟨fun _ _ _ _ e => k.hc _ _ _ _ (h.hc _ _ _ _ e), fun _ _ e => k.loc _ _ (h.loc _ _ e)⟩
mutual
theorem rep_leC {g g' : Gh} (hg : LeC g g') : ∀ (x : AV) (v : Value), Rep g x v → Rep g' x v
  | .unk, _, _ => trivial
  | .raw _, _, h => h
  | .emp, _, h => h
  | .bys bs, v, h => by
    simp only [Rep] at h ⊢
    rcases h with h | ⟨b, off, cap, c, e, fz, h1, h2, h3, h4⟩
    · exact .inl h
    · exact .inr ⟨b, off, cap, c, e, fz, h1, h2, hg.hc _ _ _ _ h3, h4⟩
  | .sls n xs, v, h => by
    simp only [Rep] at h ⊢
    rcases h with h | ⟨b, off, cap, c, e, fz, h1, h2, h3, h4⟩
    · exact .inl h
    · exact .inr ⟨b, off, cap, c, e, fz, h1, h2, hg.hc _ _ _ _ h3, repAt_leC hg xs _ _ h4⟩
  | .pby bs i, v, h => by
    simp only [Rep] at h ⊢
    obtain ⟨b, off, c, e, fz, h1, h3, h4⟩ := h
    exact ⟨b, off, c, e, fz, h1, hg.hc _ _ _ _ h3, h4⟩
  | .pce xs i, v, h => by
    simp only [Rep] at h ⊢
    obtain ⟨b, off, c, e, fz, h1, h3, h4⟩ := h
    exact ⟨b, off, c, e, fz, h1, hg.hc _ _ _ _ h3, repAt_leC hg xs _ _ h4⟩
  | .ptr o off, v, h => by
    simp only [Rep] at h ⊢
    obtain ⟨l, h1, h2⟩ := h
    exact ⟨l, hg.loc _ _ h1, h2⟩
  | .vw o sz off len, v, h => by
    simp only [Rep] at h ⊢
    rcases h with ⟨l, cap, h1, h2⟩ | h
    · exact .inl ⟨l, cap, hg.loc _ _ h1, h2⟩
    · exact .inr h
  | .vwn o sz off len, v, h => by
    simp only [Rep] at h ⊢
    rcases h with ⟨l, cap, h1, h2⟩ | h
    · exact .inl ⟨l, cap, hg.loc _ _ h1, h2⟩
    · exact .inr h
  | .mp o, v, h => by
    simp only [Rep] at h ⊢
    obtain ⟨l, h1, h2⟩ := h
    exact ⟨l, hg.loc _ _ h1, h2⟩
  | .agg xs, v, h => by
    simp only [Rep] at h ⊢
    obtain ⟨a, h1, h2⟩ := h
    exact ⟨a, h1, repL_leC hg xs _ h2⟩
  | .tup xs, v, h => by
    simp only [Rep] at h ⊢
    obtain ⟨a, h1, h2⟩ := h
    exact ⟨a, h1, repL_leC hg xs _ h2⟩
  | .fnc fn fs cs, v, h => by
    simp only [Rep] at h ⊢
    obtain ⟨a, b, h1, h2, h3⟩ := h
    exact ⟨a, b, h1, repL_leC hg fs _ h2, repL_leC hg cs _ h3⟩
  | .ifc t x, v, h => by
    simp only [Rep] at h ⊢
    obtain ⟨u, h1, h2⟩ := h
    exact ⟨u, h1, rep_leC hg x _ h2⟩
  | .bysx bs, v, h => by
    simp only [Rep] at h ⊢
    rcases h with h | ⟨b, off, c, e, fz, h1, h3, h4⟩
    · exact .inl h
    · exact .inr ⟨b, off, c, e, fz, h1, hg.hc _ _ _ _ h3, h4⟩
  | .str _, _, h => h
  | .slsx n xs, v, h => by
    simp only [Rep] at h ⊢
    rcases h with h | ⟨b, off, c, e, fz, h1, h3, h4⟩
    · exact .inl h
    · exact .inr ⟨b, off, c, e, fz, h1, hg.hc _ _ _ _ h3, repAt_leC hg xs _ _ h4⟩
theorem repL_leC {g g' : Gh} (hg : LeC g g') : ∀ (xs : List AV) (l : List Value), RepL g xs l → RepL g' xs l
  | [], _, h => by simpa only [RepL] using h
  | x :: xs, l, h => by
    simp only [RepL] at h ⊢
    obtain ⟨u, us, h1, h2, h3⟩ := h
    exact ⟨u, us, h1, rep_leC hg x _ h2, repL_leC hg xs _ h3⟩
theorem repAt_leC {g g' : Gh} (hg : LeC g g') : ∀ (xs : List AV) (c : Array Value) (k : Nat), RepAt g xs c k → RepAt g' xs c k
  | [], _, _, _ => by simp only [RepAt]
  | x :: xs, c, k, h => by
    simp only [RepAt] at h ⊢
    obtain ⟨⟨u, h1, h2, h3⟩, h4⟩ := h
    exact ⟨⟨u, h1, h2, rep_leC hg x _ h3⟩, repAt_leC hg xs _ _ h4⟩
end
theorem repEs_leC {g g' : Gh} (hg : LeC g g') : ∀ (es : List (AV × AV)) (l : List MapEntry), RepEs g es l → RepEs g' es l
  | [], _, h => h
  | (k, v) :: es, l, h => by
    obtain ⟨m, ms, h1, h2, h3, h4⟩ := h
    exact ⟨m, ms, h1, rep_leC hg _ _ h2, rep_leC hg _ _ h3, repEs_leC hg es ms h4⟩
theorem repC_leC {g g' : Gh} (hg : LeC g g') {x : AO} {c : Array Value} {k : Nat} (h : RepC g x c k) : RepC g' x c k := by
  cases x with
  | byt bs => exact h
  | cel xs => exact ⟨h.1, repAt_leC hg _ _ _ h.2⟩
  | mpo es => exact h
theorem oddO_leC {g g' : Gh} (hg : LeC g g') {x : AO} {b : Am.Loc} {ob : Obj} (h : OddO g x b ob) : OddO g' x b ob := by
  rcases h with ⟨t, ex, xs, c, h1, h2, h3, h4, h5, h6⟩ | h | ⟨es, es', clock, h1, h2, h3, h4⟩
  · exact .inl ⟨t, ex, xs, c, h1, h2, h3, h4, h5, repAt_leC hg _ _ _ h6⟩
  · exact .inr (.inl h)
  · exact .inr (.inr ⟨es, es', clock, h1, h2, repEs_leC hg _ _ h3, h4⟩)
theorem repO_leC {g g' : Gh} {heap heap' : Array Obj} {o : Nat} {x : AO} (h : RepO g heap o x) (hg : LeC g g') (hloc : g'.loc o = g.loc o)
    (hb : ∀ l, g.loc o = some l → heap'[l.blk]? = heap[l.blk]?) : RepO g' heap' o x := by
  rcases h with ⟨h1, h2⟩ | ⟨l, c, e, fz, h1, h2, h3, h4, h5⟩ | ⟨l, es, es', ck, h0, h1, h2, h3, h4, h5⟩ | ⟨l, ob, h1, h2, h3⟩
  · exact .inl ⟨h1, hloc.trans h2⟩
  · exact .inr (.inl ⟨l, c, e, fz, hg.loc _ _ h1, (hb l h1).trans h2, h3, h4, repC_leC hg h5⟩)
  · exact .inr (.inr (.inl ⟨l, es, es', ck, h0, hg.loc _ _ h1, (hb l h1).trans h2, repEs_leC hg _ _ h3, h4, h5⟩))
  · exact .inr (.inr (.inr ⟨l, ob, hg.loc _ _ h1, (hb l h1).trans h2, oddO_leC hg h3⟩))
def noCel (o : Obj) : Prop := ∀ c e fz, o ≠ .cells c e fz
theorem leC_seal {g : Gh} {l : Nat} {o o' : Obj} (hl : g.h l = some o) (ho : noCel o) : LeC g (g.seal' l o') :=
  ⟨fun b c e fz h => by
    have hne : b ≠ l := fun e' => by rw [e', hl] at h; exact ho _ _ _ (Option.some.inj h)
    simpa [Gh.seal', hne] using h, fun _ _ h => h⟩
theorem sim_reseal {g : Gh} {A : AHeap} {w : World} {l : Nat} {o o' : Obj} (h : Sim g A w) (hl : g.h l = some o) (ho : noCel o) : Sim (g.seal' l o') A (w.putObj l o') := by
  have hw := h.sealed l o hl
  have hlt := (Array.getElem?_eq_some_iff.1 hw).1
  refine ⟨h.os, h.tape, h.output, fun b ob hb => ?_, fun p x hp => ?_, h.inj, fun p x l' hp hl' => ?_, h.fin⟩
  · by_cases hbl : b = l
    · subst hbl
      rw [Gh.seal'_self] at hb
      rw [World.putObj_heap_same hlt, hb]
    · rw [World.putObj_heap_other hbl]
      exact h.sealed b ob (by simpa [Gh.seal', hbl] using hb)
  · refine repO_leC (h.objs p x hp) (leC_seal hl ho) rfl fun l' hl' => World.putObj_heap_other fun e => ?_
    have := h.apart p x l' hp hl'
    rw [e, hl] at this
    cases this
  · have h1 := h.apart p x l' hp hl'
    have hne : l'.blk ≠ l := fun e => by rw [e, hl] at h1; cases h1
    simpa [Gh.seal', hne] using h1
structure LeX (l d : Nat) (g g' : Gh) : Prop where
  w0 : g'.w0 = g.w0
  h : ∀ b o, b ≠ l → b ≠ d → g.h b = some o → g'.h b = some o
  loc : ∀ o x, g.loc o = some x → g'.loc o = some x
theorem leX_le {l d : Nat} {g g' : Gh} (h : g.le g') : LeX l d g g' := ⟨h.w0, fun b o _ _ e => h.h b o e, h.loc⟩
theorem LeX.trans {l d : Nat} {a b c : Gh} (h : LeX l d a b) (k : LeX l d b c) : LeX l d a c := ⟨k.w0.trans h.w0, fun b o h1 h2 e => k.h _ _ h1 h2 (h.h _ _ h1 h2 e), fun _ _ e => k.loc _ _ (h.loc _ _ e)⟩
theorem leX_seal {l d b : Nat} {g : Gh} {o : Obj} (hb : b = l ∨ b = d) : LeX l d g (g.seal' b o) :=
  ⟨rfl, fun p x h1 h2 e => by
    have hne : p ≠ b := fun e => by rcases hb with h | h <;> omega
    simpa [Gh.seal', hne] using e, fun _ _ e => e⟩
theorem LeX.le {l d : Nat} {g g' : Gh} (h : LeX l d g g') (hl : g.h l = none) (hd : g.h d = none) : g.le g' :=
  ⟨h.w0, fun b o e => h.h b o (fun e' => by rw [e', hl] at e; cases e) (fun e' => by rw [e', hd] at e; cases e) e, h.loc⟩
structure XR (n : Nat) (R : T AV) (g : Gh) (a : Act) : Prop where
  defers : a.defers = []
  size : a.tmps.size = n
  regs : ∀ i, Rep g (rg R i) (a.tmps.getD i undef)
theorem XR.mono {n : Nat} {R : T AV} {g g' : Gh} {a : Act} (h : XR n R g a) (hg : LeC g g') : XR n R g' a := ⟨h.defers, h.size, fun i => rep_leC hg _ _ (h.regs i)⟩
theorem XR.sub {n : Nat} {l0 l1 : List (Nat × AV)} {g : Gh} {a : Act} (h : XR n (rL l1) g a) (hl : regsL (rL l1) (l0.map (fun p => p.1)) = l0.map (fun p => p.2)) : XR n (rL l0) g a :=
  ⟨h.defers, h.size, fun i => by
    rcases rL_get l0 i with e | ⟨p, hp', e1, e2⟩
    · rw [e]; simp only [Rep]
    · have := regsL_some hl p hp'
      rw [e2, ← this, e1]
      exact h.regs i⟩
theorem XR.put {n : Nat} {R : T AV} {g : Gh} {a : Act} (h : XR n R g a) {d : Nat} (hd : d < n) {x : AV} {v : Value} (hx : Rep g x v) : XR n (R.put d x) g (a.put (some d) v) := by
  refine ⟨h.defers, by simp [Act.put, h.size], fun i => ?_⟩
  rw [rg_put]
  by_cases e : i = d
  · subst e
    rw [if_pos rfl]
    simp only [Act.put, Array.getD_eq_getD_getElem?]
    rw [Array.getElem?_setIfInBounds_self_of_lt (by rw [h.size]; exact hd)]
    exact hx
  · rw [if_neg e]
    simp only [Act.put, Array.getD_eq_getD_getElem?]
    rw [Array.getElem?_setIfInBounds_ne (by omega), ← Array.getD_eq_getD_getElem?]
    exact h.regs i
structure Lp (l d B : Nat) (g0 : Gh) (F : AHeap) (outs : List (Nat × List AV)) (N : Nat) (rec : Loop) (w : World) (g : Gh) : Prop where
  lex : LeX l d g0 g
  out : ∀ p, (p < 3 ∨ N ≤ p) → g.loc p = g0.loc p
  sim : Sim g (join (hof (putAll .nil (celL outs))) F) w
  hl : g.h l = some (.loop rec)
  hd : g.h d = some (.deferred (some []))
theorem noCel_loop (r : Loop) : noCel (.loop r) := fun _ _ _ h => by cases h
theorem noCel_def (r : Option (List Deferred)) : noCel (.deferred r) := fun _ _ _ h => by cases h
theorem lit_in' {l : List (Nat × List AV)} {p : Nat} {y : AO} (h : hof (putAll .nil (celL l)) p = some y) : ∃ q ∈ l, q.1 = p ∧ y = .cel q.2 := by
  obtain ⟨q, hq, e1, e2⟩ := putAll_some h
  obtain ⟨r, hr, rfl⟩ := List.mem_map.1 hq
  exact ⟨r, hr, e1, by rw [e2]; exact cel_ao r.2⟩
def in3 (a : Nat) (l : List (Nat × List AV)) : Bool := l.all fun q => Nat.ble 3 q.1 && Nat.blt q.1 a
theorem disj_in {F : AHeap} {B a b : Nat} {l : List (Nat × List AV)} (hF : ∀ p, 3 ≤ p → p < B → F p = none) (hl : in3 a l = true) (h3 : 3 ≤ a) (hab : a ≤ b) (hb : b ≤ B) : Disj (hof (putAll .nil (celL l))) F a b := by
  have hin : ∀ q ∈ l, 3 ≤ q.1 ∧ q.1 < a := fun q hq => by
    have := List.all_eq_true.1 hl q hq
    simp only [Bool.and_eq_true] at this
    exact ⟨Nat.le_of_ble_eq_true this.1, Nat.le_of_ble_eq_true this.2⟩
  refine ⟨fun p x h => ?_, fun p h1 h2 => hF p (by omega) (by omega), fun p h1 h2 => ?_⟩
  · obtain ⟨q, hq, rfl, _⟩ := lit_in' h
    have := hin q hq
    exact hF _ (by omega) (by omega)
  · rcases Option.eq_none_or_eq_some (hof (putAll .nil (celL l)) p) with h | ⟨y, h⟩
    · exact h
    · obtain ⟨q, hq, rfl, _⟩ := lit_in' h
      have := hin q hq
      omega
section
variable {P : Program} {l d B n : Nat} {g0 g : Gh} {F : AHeap} {outs outs' : List (Nat × List AV)} {a b : Nat} {rec : Loop} {w : World} {act : Act} {R R' : List (Nat × AV)} {c assign body : Code} {e : Exit} {Q : Exit → Act → World → Prop}
theorem Lp.step {w' : World} {g' : Gh} (hs : Lp l d B g0 F outs a rec w g) (h3 : 3 ≤ a) (hab : a ≤ b) (he : Ext g g' a b) (hsim : Sim g' (join (hof (putAll .nil (celL outs'))) F) w') : Lp l d B g0 F outs' b rec w' g' :=
  ⟨hs.lex.trans (leX_le he.le), fun p hp => by rw [he.out p (by omega)]; exact hs.out p (by omega), hsim, he.le.h _ _ hs.hl, he.le.h _ _ hs.hd⟩
theorem Lp.free (hs : Lp l d B g0 F outs a rec w g) (hfree : Free g0 3 B) (h3 : 3 ≤ a) (hb : b ≤ B) : Free g a b := fun p h1 h2 => by
  rw [hs.out p (.inr h1)]
  exact hfree p (by omega) (by omega)
theorem lp_node (hF : ∀ p, 3 ≤ p → p < B → F p = none) (hfree : Free g0 3 B) (h : CodeS P n c (rL R) (putAll .nil (celL outs)) a e (rL R') (putAll .nil (celL outs')) b) (ha : in3 a outs = true) (h3 : 3 ≤ a) (hb : b ≤ B)
    (hs : Lp l d B g0 F outs a rec w g) (hx : XR n (rL R) g act) (hk : ∀ act' w' g', Lp l d B g0 F outs' b rec w' g' → XR n (rL R') g' act' → LeC g g' → Q e act' w') : c.wp P Q act w := by
  refine wp_mono (h.2.2 F g act w (disj_in hF ha h3 h.1 hb) ⟨hx.defers, hx.size, hx.regs, hs.sim⟩ (hs.free hfree h3 hb)) ?_
  rintro e' act' w' ⟨rfl, g', he, hp⟩
  exact hk act' w' g' (hs.step h3 h.1 he hp.sim) ⟨hp.defers, hp.size, hp.regs⟩ (leC_le he.le)
theorem lp_nodeI {r : Option Nat} {m : Nat} (hF : ∀ p, 3 ≤ p → p < B → F p = none) (hfree : Free g0 3 B) (h : CodeI P n r c (rL R) (putAll .nil (celL outs)) a e (rL R') (putAll .nil (celL outs')) b) (ha : in3 a outs = true) (h3 : 3 ≤ a) (hb : b ≤ B)
    (hs : Lp l d B g0 F outs a rec w g) (hx : XR n (rL R) g act) (hk : ∀ act' w' g', Lp l d B g0 F outs' b rec w' g' → XR n (rL R') g' act' → LeC g g' → Q e act' w') : c.wpIn (fw r) m P Q act w := by
  refine wpIn_mono (h.2.2 F g act w (disj_in hF ha h3 h.1 hb) ⟨hx.defers, hx.size, hx.regs, hs.sim⟩ (hs.free hfree h3 hb) m) ?_
  rintro e' act' w' ⟨rfl, g', he, hp⟩
  exact hk act' w' g' (hs.step h3 h.1 he hp.sim) ⟨hp.defers, hp.size, hp.regs⟩ (leC_le he.le)
theorem Lp.reseal {rec' : Loop} (hne : l ≠ d) (hs : Lp l d B g0 F outs a rec w g) : Lp l d B g0 F outs a rec' (w.putObj l (.loop rec')) (g.seal' l (.loop rec')) ∧ LeC g (g.seal' l (.loop rec')) :=
  ⟨⟨hs.lex.trans (leX_seal (.inl rfl)), hs.out, sim_reseal hs.sim hs.hl (noCel_loop _), Gh.seal'_self _ _ _, by
    simpa [Gh.seal', hne.symm] using hs.hd⟩, leC_seal hs.hl (noCel_loop _)⟩
def jumpOf : Exit → Option Code
  | .ret => some .ret
  | _ => none
def recN (r : Loop) (j : Option Code) : Loop := { r with state := if j.isNone then .ready else .done, pending := j }
theorem lp_round {m : Nat} {f : FuncId} {T' : Array Value} {RA RB RC : List (Nat × AV)} (hne : l ≠ d) (hF : ∀ p, 3 ≤ p → p < B → F p = none) (hfree : Free g0 3 B) (he : e = .normal ∨ e = .ret) (hready : rec.state = .ready)
    (hA : CodeI P n (some l) assign (rL RA) (putAll .nil (celL outs)) a .normal (rL RB) (putAll .nil (celL outs)) a) (hB : CodeI P n (some l) body (rL RB) (putAll .nil (celL outs)) a e (rL RC) (putAll .nil (celL outs')) b)
    (ha : in3 a outs = true) (h3 : 3 ≤ a) (hb : b ≤ B) (hs : Lp l d B g0 F outs a rec w g) (hx : XR n (rL RA) g { tmps := T', defers := [] }) :
    RoundIn (fw none) m P l f T' assign body w fun e' w' => e' = .returned (.bool (jumpOf e).isNone) ∧ ∃ g', Lp l d B g0 F outs' b (recN rec (jumpOf e)) w' g' ∧ LeC g g' := by
  refine roundIn_of_wpIn trivial (lp_nodeI (r := some l) hF hfree hA ha h3 (Nat.le_trans hB.1 hb) hs hx fun a1 w1 g1 k1 k2 k3 => ?_)
  obtain ⟨k4, k5⟩ := k1.reseal (rec' := { rec with state := .busy }) hne
  refine ⟨_, run_beginRound (k1.sim.sealed _ _ k1.hl) hready, lp_nodeI (r := some l) hF hfree hB ha h3 hb k4 (k2.mono k5) fun a2 w2 g2 j1 j2 j3 => ?_⟩
  have hw2 := j1.sim.sealed _ _ j1.hl
  obtain ⟨j4, j5⟩ := j1.reseal (rec' := recN rec (jumpOf e)) hne
  rcases he with rfl | rfl
  · exact ⟨_, _, run_endRound none hw2, rfl, _, j4, k3.trans (k5.trans (j3.trans j5))⟩
  · exact ⟨_, _, run_endRound (some .ret) hw2, rfl, _, j4, k3.trans (k5.trans (j3.trans j5))⟩
theorem wanted_none {o : Oper} {y : Nat → Option Bool} (hg : o.guard = none) : Region.wanted o y = true := by simp [Region.wanted, hg]
theorem listIn_value {o : Oper} {rest : List Oper} {ops : Array Oper} {v : Value} (hg : o.guard = none) (hs : (execOp act.eval o).run P w = .ok (.value v) w) (h : wpListIn (fw none) 0 P ops Q rest (act.put o.dst v) w) : wpListIn (fw none) 0 P ops Q (o :: rest) act w := by
  simp only [wpListIn]
  rw [if_pos (by simp [Region.wanted, hg])]
  refine ⟨fun _ _ => trivial, ?_⟩
  show o.uponIn _ _ _ _ _ _ ((execOp act.eval o).run P w)
  rw [hs]
  exact h
theorem yield_region {id p : Nat} {o0 o1 o2 o3 : Oper} {ops : Array Oper} {s : Value} {bb : Bool} (hops : ops.toList = [o0, o1, o2, o3]) (hg0 : o0.guard = none) (hg1 : o1.guard = none) (hg2 : o2.guard = none) (hg3 : o3.guard = none)
    {v0 v1 v2 v3 u0 u1 : Nat} {ts : Array TypeId} {tb : TypeId} (h0 : o0.op = .move (.tmp u0)) (h1 : o1.op = .move (.tmp u1)) (h2 : o2.op = .call { callee := .value (.tmp v0), args := #[.tmp v1], argTypes := ts }) (h3 : o3.op = .unOp .not tb (.tmp v2))
    (d0 : o0.dst = some v0) (d1 : o1.dst = some v1) (d2 : o2.dst = some v2) (d3 : o3.dst = some v3) (n01 : v0 ≠ v1) (n1 : u1 ≠ v0) (hv0 : v0 < act.tmps.size) (hv1 : v1 < act.tmps.size) (hv2 : v2 < act.tmps.size)
    (hy : act.tmps.getD u0 undef = .func (.yield l) #[] #[]) (hs1 : act.tmps.getD u1 undef = s) (hrec : w.heap[l]? = some (.loop rec)) (hps : rec.params = #[p])
    {Rd : Ending → World → Prop} (hround : RoundIn (fw none) 0 P l rec.fn (rec.tmps.setIfInBounds p s) rec.assign rec.body w fun e' w' => e' = .returned (.bool bb) ∧ Rd e' w')
    (hk : ∀ w', Rd (.returned (.bool bb)) w' → Q .normal ((((act.put (some v0) (.func (.yield l) #[] #[])).put (some v1) s).put (some v2) (.bool bb)).put (some v3) (.bool !bb)) w') : (Code.region id ops false).wp P Q act w := by
  refine (wpIn_wide (n := 0)).1 (show (Code.region id ops false).wpIn (fw none) 0 P Q act w from wpIn_region_list ?_)
  rw [hops]
  have get_put : ∀ (a : Act) (t u : Nat) (v : Value), t ≠ u → (a.put (some t) v).tmps.getD u undef = a.tmps.getD u undef := fun a t u v h => by
    simp only [Act.put, Array.getD_eq_getD_getElem?]
    rw [Array.getElem?_setIfInBounds_ne h]
  have get_self : ∀ (a : Act) (t : Nat) (v : Value), t < a.tmps.size → (a.put (some t) v).tmps.getD t undef = v := fun a t v h => by
    simp only [Act.put, Array.getD_eq_getD_getElem?]
    rw [Array.getElem?_setIfInBounds_self_of_lt h]
    rfl
  have sz : ∀ (a : Act) (t : Nat) (v : Value), (a.put (some t) v).tmps.size = a.tmps.size := fun a t v => by simp [Act.put]
  refine listIn_value hg0 (v := .func (.yield l) #[] #[]) (by simp [execOp, h0, Act.eval, hy]) ?_
  rw [d0]
  refine listIn_value hg1 (v := s) (by simp [execOp, h1, Act.eval, get_put _ _ _ _ n1.symm, hs1]) ?_
  rw [d1]
  generalize hA : (act.put (some v0) (.func (.yield l) #[] #[])).put (some v1) s = A at hk ⊢
  have e0 : A.tmps.getD v0 undef = .func (.yield l) #[] #[] := by rw [← hA, get_put _ _ _ _ n01.symm, get_self _ _ _ hv0]
  have e1 : A.tmps.getD v1 undef = s := by rw [← hA, get_self _ _ _ (by rw [sz]; exact hv1)]
  have eA : A.tmps.size = act.tmps.size := by rw [← hA, sz, sz]
  have hcall : (execOp A.eval o2).run P w = .ok (.round l rec.fn (rec.tmps.setIfInBounds p s) rec.assign rec.body) w := by
    have hy := run_yield (P := P) (args := #[s]) hrec (by rw [hps]; rfl)
    rw [hps] at hy
    simp [execOp, h2, resolve, Act.eval, e0, e1, Deferred.ofValue, invoke, hy]
  simp only [wpListIn]
  rw [if_pos (wanted_none hg2)]
  refine ⟨fun _ _ => trivial, ?_⟩
  show o2.uponIn _ _ _ _ _ _ ((execOp A.eval o2).run P w)
  rw [hcall]
  refine ⟨fun h => (by cases h), hround.mono ?_⟩
  rintro e' w' ⟨rfl, hR⟩
  dsimp only
  rw [if_pos (wanted_none hg3)]
  refine ⟨fun _ _ => trivial, ?_⟩
  show o3.uponIn _ _ _ _ _ _ ((execOp (A.put o2.dst (.bool bb)).eval o3).run P w')
  have e2 : (A.put o2.dst (.bool bb)).tmps.getD v2 undef = .bool bb := by rw [d2, get_self _ _ _ (by rw [eA]; exact hv2)]
  have hnot : (execOp (A.put o2.dst (.bool bb)).eval o3).run P w' = .ok (.value (.bool !bb)) w' := by
    simp [execOp, h3, Act.eval, e2, Op.unary]
  rw [hnot, d2]
  show Q .normal _ w'
  rw [d3]
  exact hk w' hR
end
end Go.Ex
namespace Go.Ex
open Go Go.Am Go.Proofs
def cL : Code → Code
  | .seq x _ => x
  | .cond _ x _ => x
  | .block _ x => x
  | .loop x => x
  | _ => .skip
def cR : Code → Code
  | .seq _ y => y
  | .cond _ _ y => y
  | _ => .skip
def cO : Code → Array Oper
  | .region _ ops _ => ops
  | _ => #[]
def cA : Code → Code
  | .rangeFunc _ _ a _ => a
  | _ => .skip
def cY : Code → Code
  | .rangeFunc _ _ _ b => b
  | _ => .skip
def bodyOf (f : Func) : Code := match f.body with
  | some c => c
  | none => .skip
noncomputable abbrev xN (c : Code) (R : T AV) (H : T XO) (a : Nat) (k : C Oc) : Oc := exec c (envL (none : Oc) .nil) (calls (envL (none : Oc) .nil) 1000000 1000) 1000000 R H a k
theorem nodeN {n : Nat} {c : Code} {e : Exit} {R : T AV} {H : T XO} {a b0 : Nat} {rs : List (Nat × AV)} {outs : List (Nat × List AV)} (hw : codeWfB n c = true)
    (h : xN c R H a (kOc (rs.map (fun p => p.1)) (outs.map (fun p => p.1)) b0) = some (e, rs.map (fun p => p.2), outs.map (fun p => some p.2), true)) : CodeS Tryz.prog n c R H a e (rL rs) (putAll .nil (celL outs)) b0 :=
  node_ok (ocG_none _ _ _) (envL_ok _ .nil).ty (callsL_ok (ocG_none _ _ _) lts_nil 1000000 1000) follows_mixed hw h
theorem nodeNI {n : Nat} {r : Option Nat} {c : Code} {e : Exit} {R : T AV} {H : T XO} {a b0 : Nat} {rs : List (Nat × AV)} {outs : List (Nat × List AV)} (hw : codeWfB n c = true) (hi : codeI c = true)
    (h : xN c R H a (kOc (rs.map (fun p => p.1)) (outs.map (fun p => p.1)) b0) = some (e, rs.map (fun p => p.2), outs.map (fun p => some p.2), true)) : CodeI Tryz.prog n r c R H a e (rL rs) (putAll .nil (celL outs)) b0 :=
  node_okI (ocG_none _ _ _) (envL_ok _ .nil).ty (callsL_ok (ocG_none _ _ _) lts_nil 1000000 1000) follows_mixed hw hi h
def txS : List UInt8 := [110, 111, 100, 101, 32, 102, 40, 120, 58, 32, 105, 110, 116, 41, 32, 114, 101, 116, 117, 114, 110, 115, 32, 40, 121, 58, 32, 105, 110, 116, 41, 59, 32, 108, 101, 116, 32, 121, 32, 61, 32, 120, 32, 43, 32, 49, 59, 32, 116, 101, 108, 10, 45, 45, 45, 10, 109, 101, 97, 110, 32, 53, 32, 54, 10]
def txL : List UInt8 := [110, 111, 100, 101, 32, 102, 40, 120, 58, 32, 105, 110, 116, 41, 32, 114, 101, 116, 117, 114, 110, 115, 32, 40, 121, 58, 32, 105, 110, 116, 41, 59, 32, 108, 101, 116, 32, 121, 32, 61, 32, 120, 32, 43, 32, 49, 59, 32, 116, 101, 108]
def txP : List UInt8 := [110, 111, 100, 101, 32, 102, 40, 120, 58, 32, 105, 110, 116, 41, 32, 114, 101, 116, 117, 114, 110, 115, 32, 40, 121, 58, 32, 105, 110, 116, 41, 59, 32, 108, 101, 116, 32, 121, 32, 61, 32, 120, 32, 43, 32, 49, 59, 32, 116, 101, 108, 10]
def txR : List UInt8 := [45, 45, 45, 10, 109, 101, 97, 110, 32, 53, 32, 54, 10]
noncomputable abbrev b36 : Code := bodyOf Tryz.f36
noncomputable abbrev b248 : Code := bodyOf Tryz.f248
noncomputable abbrev rf36 : Code := cL (cR (cL (cR (cR (cR b36)))))
noncomputable abbrev as36 : Code := cA rf36
noncomputable abbrev bo36 : Code := cY rf36
noncomputable abbrev lp248 : Code := cL (cL (cL (cL (cR b248))))
def n64 (k : Int) : AV := .raw (.int .i64 k)
def oA : List (Nat × List AV) := [(3, [.str txS]), (4, [.str []]), (5, [.raw (.slice none 0 0)])]
def oB (k : Int) (s : List UInt8) : List (Nat × List AV) := oA ++ [(6, [n64 k]), (7, [.str s]), (8, [.str [10]]), (9, [n64 0])]
def oE : List (Nat × List AV) := [(4, [.str txP]), (5, [.vwn 10 1 0 1]), (10, [.str [109, 101, 97, 110, 32, 53, 32, 54]])]
def r123 : List (Nat × AV) := [(1, .ptr 3 0), (2, .ptr 4 0), (3, .ptr 5 0)]
def r1234 : List (Nat × AV) := [(1, .ptr 3 0), (2, .ptr 4 0), (3, .ptr 5 0), (4, .ptr 6 0)]
def rX : List (Nat × AV) := r1234 ++ [(10, .fnc (.func 248) [] [.ptr 8 0, .ptr 7 0, .ptr 9 0])]
theorem s1 : CodeS Tryz.prog 41 (cL b36) (rL [(0, .str txS)]) (putAll .nil (celL [])) 3 .normal (rL r123) (putAll .nil (celL oA)) 6 := nodeN (by kernel_rfl) (by kernel_rfl)
theorem s2 : CodeS Tryz.prog 41 (cL (cR b36)) (rL r123) (putAll .nil (celL oA)) 6 .normal (rL r123) (putAll .nil (celL oA)) 6 := nodeN (by kernel_rfl) (by kernel_rfl)
theorem s3 : CodeS Tryz.prog 41 (cL (cR (cR b36))) (rL r123) (putAll .nil (celL oA)) 6 .normal (rL r1234) (putAll .nil (celL (oA ++ [(6, [n64 0])]))) 7 := nodeN (by kernel_rfl) (by kernel_rfl)
theorem s4 : CodeS Tryz.prog 41 (cL (cL (cR (cR (cR b36))))) (rL r1234) (putAll .nil (celL (oA ++ [(6, [n64 0])]))) 7 .normal (rL rX) (putAll .nil (celL (oB 0 txS))) 10 := nodeN (by kernel_rfl) (by kernel_rfl)
section
variable (l : Nat)
def rI4 : List (Nat × AV) := [(0, .raw (.func (.yield l) #[] #[])), (1, .ptr 8 0), (2, .ptr 7 0), (3, .ptr 9 0)]
theorem i0 : CodeS Tryz.prog 52 (cL b248) (rL (rI4 l)) (putAll .nil (celL (oB 0 txS))) 10 .normal (rL (rI4 l)) (putAll .nil (celL (oB 0 txS))) 10 := nodeN (by kernel_rfl) (by kernel_rfl)
theorem i05 : CodeS Tryz.prog 52 (cL lp248) (rL (rI4 l)) (putAll .nil (celL (oB 0 txS))) 10 .normal (rL (rI4 l ++ [(7, n64 51)])) (putAll .nil (celL (oB 0 txS))) 10 := nodeN (by kernel_rfl) (by kernel_rfl)
theorem i06 : CodeS Tryz.prog 52 (cL (cR lp248)) (rL (rI4 l ++ [(7, n64 51)])) (putAll .nil (celL (oB 0 txS))) 10 .normal (rL (rI4 l ++ [(7, n64 51)])) (putAll .nil (celL (oB 0 txS))) 10 := nodeN (by kernel_rfl) (by kernel_rfl)
theorem i07 : CodeS Tryz.prog 52 (cL (cR (cR lp248))) (rL (rI4 l ++ [(7, n64 51)])) (putAll .nil (celL (oB 0 txS))) 10 .normal (rL (rI4 l ++ [(7, n64 51), (8, .str txL)])) (putAll .nil (celL (oB 0 txS))) 10 := nodeN (by kernel_rfl) (by kernel_rfl)
theorem a0 : CodeI Tryz.prog 41 (some l) as36 (rL (r1234 ++ [(11, .str txL)])) (putAll .nil (celL (oB 0 txS))) 10 .normal (rL (r1234 ++ [(5, .str txL)])) (putAll .nil (celL (oB 0 txS))) 10 := nodeNI (by kernel_rfl) (by kernel_rfl) (by kernel_rfl)
theorem y0 : CodeI Tryz.prog 41 (some l) bo36 (rL (r1234 ++ [(5, .str txL)])) (putAll .nil (celL (oB 0 txS))) 10 .normal (rL []) (putAll .nil (celL (oB 52 txS))) 10 := nodeNI (by kernel_rfl) (by kernel_rfl) (by kernel_rfl)
theorem c0 : CodeS Tryz.prog 52 (cR (cL (cR (cR (cR lp248))))) (rL (rI4 l ++ [(7, n64 51), (42, .raw (.bool false))])) (putAll .nil (celL (oB 52 txS))) 10 .normal (rL (rI4 l ++ [(7, n64 51)])) (putAll .nil (celL (oB 52 txS))) 10 := nodeN (by kernel_rfl) (by kernel_rfl)
theorem i09 : CodeS Tryz.prog 52 (cR (cR (cR (cR lp248)))) (rL (rI4 l ++ [(7, n64 51)])) (putAll .nil (celL (oB 52 txS))) 10 .normal (rL (rI4 l)) (putAll .nil (celL (oB 52 txR))) 10 := nodeN (by kernel_rfl) (by kernel_rfl)
theorem i15 : CodeS Tryz.prog 52 (cL lp248) (rL (rI4 l)) (putAll .nil (celL (oB 52 txR))) 10 .normal (rL (rI4 l ++ [(7, n64 3)])) (putAll .nil (celL (oB 52 txR))) 10 := nodeN (by kernel_rfl) (by kernel_rfl)
theorem i16 : CodeS Tryz.prog 52 (cL (cR lp248)) (rL (rI4 l ++ [(7, n64 3)])) (putAll .nil (celL (oB 52 txR))) 10 .normal (rL (rI4 l ++ [(7, n64 3)])) (putAll .nil (celL (oB 52 txR))) 10 := nodeN (by kernel_rfl) (by kernel_rfl)
theorem i17 : CodeS Tryz.prog 52 (cL (cR (cR lp248))) (rL (rI4 l ++ [(7, n64 3)])) (putAll .nil (celL (oB 52 txR))) 10 .normal (rL (rI4 l ++ [(7, n64 3), (8, .str [45, 45, 45])])) (putAll .nil (celL (oB 52 txR))) 10 := nodeN (by kernel_rfl) (by kernel_rfl)
theorem a1 : CodeI Tryz.prog 41 (some l) as36 (rL (r1234 ++ [(11, .str [45, 45, 45])])) (putAll .nil (celL (oB 52 txR))) 10 .normal (rL (r1234 ++ [(5, .str [45, 45, 45])])) (putAll .nil (celL (oB 52 txR))) 10 := nodeNI (by kernel_rfl) (by kernel_rfl) (by kernel_rfl)
theorem y1 : CodeI Tryz.prog 41 (some l) bo36 (rL (r1234 ++ [(5, .str [45, 45, 45])])) (putAll .nil (celL (oB 52 txR))) 10 .ret (rL []) (putAll .nil (celL oE)) 11 := nodeNI (by kernel_rfl) (by kernel_rfl) (by kernel_rfl)
theorem c1 : CodeS Tryz.prog 52 (cR (cL (cR (cR (cR lp248))))) (rL (rI4 l ++ [(42, .raw (.bool true))])) (putAll .nil (celL oE)) 11 .ret (rL []) (putAll .nil (celL oE)) 11 := nodeN (by kernel_rfl) (by kernel_rfl)
end
theorem b36_eq : b36 = Code.seq (cL b36) (Code.seq (cL (cR b36)) (Code.seq (cL (cR (cR b36))) (Code.seq (Code.seq (cL (cL (cR (cR (cR b36))))) (Code.block 0 (Code.rangeFunc (.tmp 10) #[11] as36 bo36))) (cR (cR (cR (cR b36))))))) := by kernel_rfl
theorem b248_eq : b248 = Code.seq (cL b248) (Code.seq (Code.block 2 (Code.loop (Code.block 3 lp248))) (cR (cR b248))) := by kernel_rfl
noncomputable abbrev q8 : Code := cL (cL (cR (cR (cR lp248))))
theorem lp248_eq : lp248 = Code.seq (cL lp248) (Code.seq (cL (cR lp248)) (Code.seq (cL (cR (cR lp248))) (Code.seq (Code.seq (Code.region 8 (cO q8) false) (cR (cL (cR (cR (cR lp248)))))) (cR (cR (cR (cR lp248))))))) := by kernel_rfl
def op0 : Oper := { dst := none, op := .move (.func 0), type := 0, pos := "", after := #[], guard := none }
def opAt (ops : Array Oper) (i : Nat) : Oper := ops.toList.getD i op0
theorem q8_ops : (cO q8).toList = [opAt (cO q8) 0, opAt (cO q8) 1, opAt (cO q8) 2, opAt (cO q8) 3] := by kernel_rfl
def opDG (o : Oper) : Option Tmp × Option (Nat × Bool) := (o.dst, o.guard)
theorem q8_0 : opDG (opAt (cO q8) 0) = (some 39, none) ∧ (opAt (cO q8) 0).op = .move (.tmp 0) := ⟨by kernel_rfl, by kernel_rfl⟩
theorem q8_1 : opDG (opAt (cO q8) 1) = (some 40, none) ∧ (opAt (cO q8) 1).op = .move (.tmp 8) := ⟨by kernel_rfl, by kernel_rfl⟩
theorem q8_2 : opDG (opAt (cO q8) 2) = (some 41, none) ∧ (opAt (cO q8) 2).op = .call { callee := .value (.tmp 39), args := #[.tmp 40], argTypes := #[9] } := ⟨by kernel_rfl, by kernel_rfl⟩
theorem q8_3 : opDG (opAt (cO q8) 3) = (some 42, none) ∧ (opAt (cO q8) 3).op = .unOp .not 4 (.tmp 41) := ⟨by kernel_rfl, by kernel_rfl⟩
section
variable {l d : Nat} {g0 g : Gh} {F : AHeap} {outs outs' : List (Nat × List AV)} {a b n : Nat} {rec : Loop} {w : World} {act : Act} {R R' : List (Nat × AV)} {x y : Code} {e : Exit} {Q : Exit → Act → World → Prop}
theorem lp_seq (hF : ∀ p, 3 ≤ p → p < 11 → F p = none) (hfree : Free g0 3 11) (h : CodeS Tryz.prog n x (rL R) (putAll .nil (celL outs)) a .normal (rL R') (putAll .nil (celL outs')) b) (ha : in3 a outs = true) (h3 : 3 ≤ a) (hb : b ≤ 11)
    (hs : Lp l d 11 g0 F outs a rec w g) (hx : XR n (rL R) g act) (hk : ∀ act' w' g', Lp l d 11 g0 F outs' b rec w' g' → XR n (rL R') g' act' → LeC g g' → y.wp Tryz.prog Q act' w') : (Code.seq x y).wp Tryz.prog Q act w :=
  wp_seq (lp_node hF hfree h ha h3 hb hs hx hk)
theorem yield_at {s : List UInt8} {R0 : List (Nat × AV)} (hne : l ≠ d) (hF : ∀ p, 3 ≤ p → p < 11 → F p = none) (hfree : Free g0 3 11) (he : e = .normal ∨ e = .ret) (hready : rec.state = .ready) (hps : rec.params = #[11]) (has : rec.assign = as36) (hbo : rec.body = bo36)
    (hA : CodeI Tryz.prog 41 (some l) as36 (rL (r1234 ++ [(11, .str s)])) (putAll .nil (celL outs)) 10 .normal (rL (r1234 ++ [(5, .str s)])) (putAll .nil (celL outs)) 10) (hB : CodeI Tryz.prog 41 (some l) bo36 (rL (r1234 ++ [(5, .str s)])) (putAll .nil (celL outs)) 10 e (rL []) (putAll .nil (celL outs')) b)
    (ha : in3 10 outs = true) (hb : b ≤ 11) (hs : Lp l d 11 g0 F outs 10 rec w g) (hx : XR 52 (rL R) g act) (hr0 : rg (rL R) 0 = .raw (.func (.yield l) #[] #[])) (hr8 : rg (rL R) 8 = .str s) (hT : XR 41 (rL r1234) g { tmps := rec.tmps, defers := [] })
    (hR0 : regsL (((((rL R).put 39 (.raw (.func (.yield l) #[] #[]))).put 40 (.str s)).put 41 (.raw (.bool (jumpOf e).isNone))).put 42 (.raw (.bool !(jumpOf e).isNone))) (R0.map (fun p => p.1)) = R0.map (fun p => p.2))
    (hk : ∀ act' w' g', Lp l d 11 g0 F outs' b (recN rec (jumpOf e)) w' g' → XR 52 (rL R0) g' act' → LeC g g' → Q .normal act' w') : (Code.region 8 (cO q8) false).wp Tryz.prog Q act w := by
  have h0 := hx.regs 0
  have h8 := hx.regs 8
  rw [hr0] at h0
  rw [hr8] at h8
  simp only [Rep] at h0 h8
  have e0 := q8_0; have e1 := q8_1; have e2 := q8_2; have e3 := q8_3
  simp only [opDG, Prod.mk.injEq] at e0 e1 e2 e3
  have hTs : XR 41 (rL (r1234 ++ [(11, .str s)])) g { tmps := rec.tmps.setIfInBounds 11 (.string ⟨s.toArray⟩), defers := [] } := by
    have := hT.put (d := 11) (x := .str s) (v := .string ⟨s.toArray⟩) (by decide) (by simp only [Rep])
    refine ⟨rfl, this.size, fun i => ?_⟩
    have h1 := this.regs i
    have e : rL (r1234 ++ [(11, .str s)]) = (rL r1234).put 11 (.str s) := by kernel_rfl
    rw [e]
    exact h1
  have hround := lp_round (m := 0) (f := rec.fn) (n := 41) hne hF hfree he hready hA hB ha (by decide) hb hs hTs
  rw [← has, ← hbo] at hround
  refine yield_region (rec := rec) (p := 11) (s := .string ⟨s.toArray⟩) (bb := (jumpOf e).isNone) q8_ops e0.1.2 e1.1.2 e2.1.2 e3.1.2 e0.2 e1.2 e2.2 e3.2 e0.1.1 e1.1.1 e2.1.1 e3.1.1 (by decide) (by decide) (by rw [hx.size]; decide) (by rw [hx.size]; decide) (by rw [hx.size]; decide) h0 h8
    (hs.sim.sealed _ _ hs.hl) hps hround ?_
  rintro w' ⟨g', k1, k2⟩
  refine hk _ w' g' k1 ?_ k2
  have h1 := ((((hx.mono k2).put (d := 39) (x := .raw (.func (.yield l) #[] #[])) (v := .func (.yield l) #[] #[]) (by decide) (by simp only [Rep])).put (d := 40) (x := .str s) (v := .string ⟨s.toArray⟩) (by decide) (by simp only [Rep])).put (d := 41) (x := .raw (.bool (jumpOf e).isNone)) (v := .bool (jumpOf e).isNone) (by decide) (by simp only [Rep])).put (d := 42) (x := .raw (.bool !(jumpOf e).isNone)) (v := .bool !(jumpOf e).isNone) (by decide) (by simp only [Rep])
  refine ⟨h1.defers, h1.size, fun i => ?_⟩
  rcases rL_get R0 i with e | ⟨p, hp', e1, e2⟩
  · rw [e]; simp only [Rep]
  · rw [e2, ← regsL_some hR0 p hp', e1]
    exact h1.regs i
theorem iter_wp (hne : l ≠ d) (hF : ∀ p, 3 ≤ p → p < 11 → F p = none) (hfree : Free g0 3 11) (hready : rec.state = .ready) (hps : rec.params = #[11]) (has : rec.assign = as36) (hbo : rec.body = bo36)
    (hs : Lp l d 11 g0 F (oB 0 txS) 10 rec w g) (hx : XR 52 (rL (rI4 l)) g act) (hT : XR 41 (rL r1234) g { tmps := rec.tmps, defers := [] })
    (hk : ∀ act' w' g', Lp l d 11 g0 F oE 11 (recN (recN rec none) (some .ret)) w' g' → LeC g g' → act'.defers = [] → Q .ret act' w') : b248.wp Tryz.prog Q act w := by
  rw [b248_eq]
  refine lp_seq hF hfree (i0 l) (by kernel_rfl) (by decide) (by decide) hs hx fun act1 w1 g1 hs hx q1 => wp_seq (wp_block (wp_loop_rounds 2 ?_))
  show (Code.block 3 lp248).wp Tryz.prog _ act1 w1
  refine wp_block ?_
  rw [lp248_eq]
  refine lp_seq hF hfree (i05 l) (by kernel_rfl) (by decide) (by decide) hs hx fun act2 w2 g2 hs hx q2 => ?_
  refine lp_seq hF hfree (i06 l) (by kernel_rfl) (by decide) (by decide) hs hx fun act3 w3 g3 hs hx q3 => ?_
  refine lp_seq hF hfree (i07 l) (by kernel_rfl) (by decide) (by decide) hs hx fun act4 w4 g4 hs hx q4 => ?_
  have q := q1.trans (q2.trans (q3.trans q4))
  refine wp_seq (wp_seq (yield_at (R0 := rI4 l ++ [(7, n64 51), (42, .raw (.bool false))]) hne hF hfree (.inl rfl) hready hps has hbo (a0 l) (y0 l) (by kernel_rfl) (by decide) hs hx (by kernel_rfl) (by kernel_rfl) (hT.mono q) (by kernel_rfl) fun act5 w5 g5 hs hx q5 => ?_))
  refine lp_node hF hfree (c0 l) (by kernel_rfl) (by decide) (by decide) hs hx fun act6 w6 g6 hs hx q6 => ?_
  refine lp_node hF hfree (i09 l) (by kernel_rfl) (by decide) (by decide) hs hx fun act7 w7 g7 hs hx q7 => ?_
  show (Code.block 3 lp248).wp Tryz.prog _ act7 w7
  refine wp_block ?_
  rw [lp248_eq]
  have q := q.trans (q5.trans (q6.trans q7))
  refine lp_seq hF hfree (i15 l) (by kernel_rfl) (by decide) (by decide) hs hx fun act2 w2 g2 hs hx q2 => ?_
  refine lp_seq hF hfree (i16 l) (by kernel_rfl) (by decide) (by decide) hs hx fun act3 w3 g3 hs hx q3 => ?_
  refine lp_seq hF hfree (i17 l) (by kernel_rfl) (by decide) (by decide) hs hx fun act4 w4 g4 hs hx q4 => ?_
  have q := q.trans (q2.trans (q3.trans q4))
  refine wp_seq (wp_seq (yield_at (R0 := rI4 l ++ [(42, .raw (.bool true))]) hne hF hfree (rec := recN rec none) (.inr rfl) rfl hps has hbo (a1 l) (y1 l) (by kernel_rfl) (by decide) hs hx (by kernel_rfl) (by kernel_rfl) (hT.mono q) (by kernel_rfl) fun act5 w5 g5 hs hx q5 => ?_))
  refine lp_node hF hfree (c1 l) (by kernel_rfl) (by decide) (by decide) hs hx fun act6 w6 g6 hs hx q6 => ?_
  exact hk act6 w6 g6 hs (q.trans (q5.trans q6)) hx.defers
end
def split1 : Lit := ⟨[.str txS], [], 3, .tup [.str txP, .vwn 10 1 0 1], [(10, .cel [.str [109, 101, 97, 110, 32, 53, 32, 54]])], 11⟩
theorem split_res : resL Tryz.f36.results.toList (rL r1234) (putAll .nil (celL oE)) (envL (none : Option (List AV)) .nil) some = some [.str txP, .vwn 10 1 0 1] := by kernel_rfl
theorem split1_ok : LitOk Tryz.prog 36 split1 := by
  refine ⟨(by decide : 3 ≤ 11), fun p hp => ?_, fun F g w vals hd hr hs hf => ?_⟩
  · obtain ⟨y, hy⟩ := Option.isSome_iff_exists.1 hp
    obtain ⟨q, hq, rfl, _⟩ := lit_in' (l := [(10, [.str [109, 101, 97, 110, 32, 53, 32, 54]])]) hy
    simp only [List.mem_singleton] at hq
    subst hq
    exact .inr ⟨(by decide : 3 ≤ 10), (by decide : 10 < 11)⟩
  have hF : ∀ p, 3 ≤ p → p < 11 → F p = none := hd.f
  have hf : Free g 3 11 := hf
  have hr : RepL g [.str txS] vals.toList := hr
  refine (callsIn_wide (n := 0)).1 (callsIn_of_wp_marks (fn := Tryz.f36) (c := b36) Tryz.func36 (by kernel_rfl) trivial ((wpIn_wide (n := 0)).2 ?_) rfl)
  have hp0 := xpre_start (n := 41) hr (show 1 ≤ 41 by decide) hs
  have hp : XPre 41 (rL [(0, .str txS)]) (join (hof (putAll .nil (celL []))) F) g { tmps := vals ++ Array.replicate (41 - vals.size) undef, defers := [] } w := by
    refine ⟨hp0.defers, hp0.size, fun i => ?_, hp0.sim⟩
    rcases rL_get [(0, .str txS)] i with h | ⟨p, hp', rfl, e2⟩
    · rw [h]; simp only [Rep]
    · rw [e2]
      simp only [List.mem_singleton] at hp'
      subst hp'
      exact hp0.regs 0
  rw [b36_eq]
  refine s1.then (disj_in hF (by kernel_rfl) (by decide) (by decide) (by decide)) hp (hf.sub (by decide)) fun g1 a1 w1 x1 hp => ?_
  refine s2.then (disj_in hF (by kernel_rfl) (by decide) (by decide) (by decide)) hp (fun p h1 h2 => by omega) fun g2 a2 w2 x2 hp => ?_
  have x2 := x1.trans x2 (by decide) (by decide)
  refine s3.then (disj_in hF (by kernel_rfl) (by decide) (by decide) (by decide)) hp ((x2.free (by decide) hf).sub (by decide)) fun g3 a3 w3 x3 hp => wp_seq ?_
  have x3 := x2.trans x3 (by decide) (by decide)
  refine s4.then (disj_in hF (by kernel_rfl) (by decide) (by decide) (by decide)) hp ((x3.free (by decide) hf).sub (by decide)) fun g4 a4 w4 x4 hp => ?_
  have x4 := x3.trans x4 (by decide) (by decide)
  clear hp0
  refine wp_block ((wpIn_wide (n := 0)).1 (wpIn_rangeFunc fun fn hfn => ?_))
  obtain ⟨rec, hrec⟩ : ∃ rec : Loop, rec = { state := .ready, pending := none, fn, tmps := a4.tmps, params := #[11], assign := as36, body := bo36, defers := w4.heap.size } := ⟨_, rfl⟩
  have hcl := hp.regs 10
  rw [show rg (rL rX) 10 = .fnc (.func 248) [] [.ptr 8 0, .ptr 7 0, .ptr 9 0] by kernel_rfl] at hcl
  simp only [Rep] at hcl
  obtain ⟨u, v, hc1, hc2, hc3⟩ := hcl
  have hu : u = #[] := by
    have : u.toList = [] := by simpa only [RepL] using hc2
    exact Array.toList_eq_nil_iff.1 this
  subst hu
  have hg : a4.eval (.tmp 10) = .func (.func 248) #[] v := hc1
  obtain ⟨n1, k1⟩ := hp.sim.newSeal (w' := w4.alloc (.deferred (some []))) (ob := .deferred (some [])) ⟨rfl, rfl, rfl⟩ rfl
  obtain ⟨n2, k2⟩ := k1.newSeal (w' := (w4.alloc (.deferred (some []))).alloc (.loop rec)) (ob := .loop rec) ⟨rfl, rfl, rfl⟩ rfl
  have hsz : (w4.alloc (.deferred (some []))).heap.size = w4.heap.size + 1 := by simp [World.size_alloc]
  rw [hsz] at n2 k2
  have hne : w4.heap.size + 1 ≠ w4.heap.size := by omega
  have hgl : g.h (w4.heap.size + 1) = none := by
    cases hn : g.h (w4.heap.size + 1) with
    | none => rfl
    | some ob =>
      have := (Array.getElem?_eq_some_iff.1 (hp.sim.sealed _ _ (x4.le.h _ _ hn))).1
      omega
  have hgd : g.h w4.heap.size = none := by
    cases hn : g.h w4.heap.size with
    | none => rfl
    | some ob =>
      have := (Array.getElem?_eq_some_iff.1 (hp.sim.sealed _ _ (x4.le.h _ _ hn))).1
      omega
  generalize hG : (g4.seal' w4.heap.size (.deferred (some []))).seal' (w4.heap.size + 1) (.loop rec) = G at k2
  have hle : g4.le G := by rw [← hG]; exact (g4.le_seal' n1 _).trans (Gh.le_seal' _ n2 _)
  have hLp : Lp (w4.heap.size + 1) w4.heap.size 11 g F (oB 0 txS) 10 rec ((w4.alloc (.deferred (some []))).alloc (.loop rec)) G := by
    refine ⟨leX_le (x4.le.trans hle), fun p hp' => ?_, k2, ?_, ?_⟩
    · rw [← hG]; exact x4.out p hp'
    · rw [← hG]; exact Gh.seal'_self _ _ _
    · rw [← hG]; simp [Gh.seal']
  have hXR : XR 41 (rL rX) G a4 := ⟨hp.defers, hp.size, fun i => Rep.mono hle _ _ (hp.regs i)⟩
  have hX4 : XR 41 (rL r1234) G a4 := hXR.sub (by kernel_rfl)
  have ha4 : ({ tmps := rec.tmps, defers := [] } : Act) = a4 := by
    rw [hrec]
    cases a4 with
    | mk t ds => have : ds = [] := hp.defers; subst this; rfl
  refine ⟨w4.heap.size + 1, [{ target := .collected w4.heap.size, args := #[] }], (w4.alloc (.deferred (some []))).alloc (.loop rec), { target := .fn (.func 248) v, args := #[.func (.yield (w4.heap.size + 1)) #[] #[]] }, (w4.alloc (.deferred (some []))).alloc (.loop rec), 248,
    #[Value.func (.yield (w4.heap.size + 1)) #[] #[]] ++ v, (w4.alloc (.deferred (some []))).alloc (.loop rec), by rw [hrec]; exact run_enterLoop_outer _ _ _ _ _, ?_, fun _ _ => trivial, ?_, fun h => (by cases h), ?_⟩
  · simp only [resolve, hg]
    simp [Act.eval, Deferred.ofValue]
  · simp [invoke, Tryz.call248]
  refine (callsIn_wide (n := 0)).2 (calls_of_wp (fn := Tryz.f248) (c := b248) Tryz.func248 (by kernel_rfl) ?_)
  have hargs : RepL G [.raw (.func (.yield (w4.heap.size + 1)) #[] #[]), .ptr 8 0, .ptr 7 0, .ptr 9 0] (#[Value.func (.yield (w4.heap.size + 1)) #[] #[]] ++ v).toList := by
    have h3 := RepL.mono hle _ _ hc3
    simp only [Array.toList_append, List.cons_append, List.nil_append]
    rw [RepL]
    exact ⟨_, _, rfl, by simp only [Rep], h3⟩
  have hI0 := xpre_start (n := 52) hargs (show 4 ≤ 52 by decide) hLp.sim
  have hI : XR 52 (rL (rI4 (w4.heap.size + 1))) G { tmps := (#[Value.func (.yield (w4.heap.size + 1)) #[] #[]] ++ v) ++ Array.replicate (52 - (#[Value.func (.yield (w4.heap.size + 1)) #[] #[]] ++ v).size) undef, defers := [] } := by
    refine ⟨hI0.defers, hI0.size, fun i => ?_⟩
    rcases rL_get (rI4 (w4.heap.size + 1)) i with h | ⟨p, hp', rfl, e2⟩
    · rw [h]; simp only [Rep]
    · rw [e2]
      simp only [rI4, List.mem_cons, List.not_mem_nil, or_false] at hp'
      rcases hp' with rfl | rfl | rfl | rfl
      · exact hI0.regs 0
      · exact hI0.regs 1
      · exact hI0.regs 2
      · exact hI0.regs 3
  refine iter_wp hne hF hf (by rw [hrec]) (by rw [hrec]) (by rw [hrec]) (by rw [hrec]) hLp hI (by rw [ha4]; exact hX4) fun act5 w5 g5 hs5 q5 hd5 => ?_
  refine ⟨hd5, _, results_run (us := []) (by rfl), ?_⟩
  have hend := run_endLoop (P := Tryz.prog) (hs5.sim.sealed _ _ hs5.hl) (by simp [recN])
  obtain ⟨m1, m2⟩ := hs5.reseal (rec' := { recN (recN rec none) (some .ret) with state := .exhausted }) hne
  refine ⟨_, _, hend, wpIn_ret ?_⟩
  have hX6 := (hX4.mono (q5.trans m2))
  generalize hw6 : w5.putObj (w4.heap.size + 1) (.loop { recN (recN rec none) (some .ret) with state := .exhausted }) = w6 at m1
  generalize hg6 : g5.seal' (w4.heap.size + 1) (.loop { recN (recN rec none) (some .ret) with state := .exhausted }) = g6 at m1 hX6
  have hdef := m1.sim.sealed _ _ m1.hd
  have hfin := sim_reseal (o' := .deferred none) m1.sim m1.hd (noCel_def _)
  have hfl := leC_seal (o' := .deferred none) m1.hd (noCel_def _)
  have hX7 := hX6.mono hfl
  have hle7 : g.le (g6.seal' w4.heap.size (.deferred none)) := (m1.lex.trans (leX_seal (.inr rfl))).le hgl hgd
  obtain ⟨vs, hvs, hres⟩ := ok_resL (Good := fun r => r = some [.str txP, .vwn 10 1 0 1]) (P := Tryz.prog) (n := 41) (E := envL (none : Option (List AV)) .nil) (fun h => by cases h) (envL_ok _ .nil).ty split_res
  have hvs : vs = [.str txP, .vwn 10 1 0 1] := Option.some.inj hvs
  obtain ⟨us, r1, r2⟩ := hres F _ a4 _ ⟨hX7.defers, hX7.size, hX7.regs, hfin⟩
  rw [hvs] at r2
  show LeavesInM _ _ _ _ _ _ _ _ _
  rw [show ([{ target := .collected w4.heap.size, args := #[] }] ++ a4.defers : List Deferred) = [{ target := .collected w4.heap.size, args := #[] }] by rw [hp.defers]; rfl]
  refine ⟨by simp, .inl ⟨w4.heap.size, _, rfl, run_takeDeferred hdef, ?_⟩⟩
  refine ⟨_, results_run r1, _, _, rfl, ⟨hle7, fun p hp' => m1.out p hp'⟩, rep_results1 r2, ?_⟩
  refine sim_part hfin fun p y hp' => ?_
  simp only [join] at hp' ⊢
  cases hq : hof (putAll .nil split1.outs) p with
  | some z =>
    obtain ⟨q, hq', rfl, e2⟩ := lit_in' (l := [(10, [.str [109, 101, 97, 110, 32, 53, 32, 54]])]) hq
    simp only [List.mem_singleton] at hq'
    subst hq'
    rw [hq] at hp'
    rw [show hof (putAll .nil (celL oE)) 10 = some (.cel [.str [109, 101, 97, 110, 32, 53, 32, 54]]) by kernel_rfl]
    rw [← e2]
    exact hp'
  | none =>
    rw [hq] at hp'
    cases hq2 : hof (putAll .nil (celL oE)) p with
    | none => exact hp'
    | some z =>
      exfalso
      obtain ⟨q, hq', rfl, _⟩ := lit_in' hq2
      have : F q.1 = none := by
        simp only [oE, List.mem_cons, List.not_mem_nil, or_false] at hq'
        rcases hq' with rfl | rfl | rfl <;> exact hF _ (by decide) (by decide)
      rw [this] at hp'
      cases hp'
end Go.Ex
