/-
  Calls that are written down, some but for their numbers, and the environment of the program.
-/
import Derived.Test.YtaabpahemponkaaGreatDoorDyH
import Derived.Test.YtaabpahemponkaaGreatDoorDyI
set_option linter.unusedVariables false
set_option linter.unusedSimpArgs false
namespace Go.Ex
open Go Go.Am
inductive XL where
  | cel (xs : List AV)
  | mps (es : List (List UInt8 × AV))
  | mpi (k : IntKind) (es : List (Int × AV))
  | tcl (t : Nat) (ex : Bool) (xs : List AV)
structure Lit where
  args : List AV
  ins : List (Nat × XL)
  a : Nat
  x : AV
  outs : List (Nat × XL)
  b : Nat
noncomputable section
section
variable {ρ : Type}
def eqVl (e : AV → AV → ρ → ρ → ρ) (xs xs' : List AV) (y z : ρ) : ρ := listRec (β := List AV → ρ) (fun l => listOn l y (fun _ _ => z)) (fun x _ ih l => listOn l z (fun x' l => e x x' (ih l) z)) xs xs'
def eqVs (e : AV → AV → ρ → ρ → ρ) (x x' : AV) (y z : ρ) : ρ :=
  asSls x (fun n xs => asSls x' (fun n' xs' => eqN n n' (eqVl e xs xs' y z) z) z)
  (asSlsx x (fun n xs => asSlsx x' (fun n' xs' => eqN n n' (eqVl e xs xs' y z) z) z)
  (asAgg x (fun xs => asAgg x' (fun xs' => eqVl e xs xs' y z) z)
  (asTup x (fun xs => asTup x' (fun xs' => eqVl e xs xs' y z) z)
  (asFnc x (fun f a b => asFnc x' (fun f' a' b' => eqN f f' (eqVl e a a' (eqVl e b b' y z) z) z) z) (eq0 x x' y z)))))
def eqV (d : Nat) : AV → AV → ρ → ρ → ρ := iter (β := AV → AV → ρ → ρ → ρ) d (fun x x' y z => eq0 x x' y z) (fun ih => eqVs ih)
def deep : Nat := 5
def eqVL (xs xs' : List AV) (y z : ρ) : ρ := eqVl (eqV deep) xs xs' y z
def eqS (es es' : List (List UInt8 × AV)) (y z : ρ) : ρ := listRec (β := List (List UInt8 × AV) → ρ) (fun l => listOn l y (fun _ _ => z)) (fun p _ ih l => listOn l z (fun p' l => ifb (strEq p.1 p'.1) (eqV deep p.2 p'.2 (ih l) z) z)) es es'
def eqI (es es' : List (Int × AV)) (y z : ρ) : ρ := listRec (β := List (Int × AV) → ρ) (fun l => listOn l y (fun _ _ => z)) (fun p _ ih l => listOn l z (fun p' l => ifb (decide (p.1 = p'.1)) (eqV deep p.2 p'.2 (ih l) z) z)) es es'
def hasL (H : T XO) (o : Nat) (l : XL) (y z : ρ) : ρ := XL.rec (motive := fun _ => ρ)
  (fun xs => atCel H o (fun n t => eqVL (t.seg .unk 0 n) xs y z) z)
  (fun es => atMps H o (fun es' => eqS es' es y z) z)
  (fun k es => atMpi H o (fun k' es' => ifb (sameK k' k) (eqI es' es y z) z) z)
  (fun t ex xs => atTcl H o (fun t' ex' xs' => eqN t' t (ifb (eqB ex' ex) (eqVL xs' xs y z) z) z) z) l
def XL.xo (l : XL) : XO := XL.rec (motive := fun _ => XO) (fun xs => Go.Ex.cel xs) (fun es => .mps es) (fun k es => .mpi k es) (fun t ex xs => .tcl t ex xs) l
def hasAll (H : T XO) (l : List (Nat × XL)) (y z : ρ) : ρ := listRec (β := ρ) y (fun p _ ih => hasL H p.1 p.2 ih z) l
def delAll (H : T XO) (l : List (Nat × XL)) : T XO := listRec (β := T XO → T XO) (fun H => H) (fun p _ ih H => ih (H.del p.1)) l H
def putAll (H : T XO) (l : List (Nat × XL)) : T XO := listRec (β := T XO → T XO) (fun H => H) (fun p _ ih H => ih (H.put p.1 p.2.xo)) l H
def sLit (L : Lit) (z : ρ) : SumF ρ := fun args H a k => eqN a L.a (eqVL args L.args (hasAll H L.ins (k L.x (putAll (delAll H L.ins) L.outs) L.b) z) z) z
def sLits (l : List Lit) (z : ρ) : SumF ρ := fun args H a k => listRec (β := ρ) z (fun L _ ih => ifb (Nat.beq a L.a) (sLit L z args H a k) ih) l
def chk (L : Lit) (y z : ρ) : K ρ := fun x H b => eqN b L.b (eqVl (eqV deep) [x] [L.x] (hasAll H L.outs y z) z) z
end
section
variable {ρ : Type} {Good : ρ → Prop} {z : ρ}
theorem eqVl_cases {e : AV → AV → ρ → ρ → ρ} (he : ∀ {x x' : AV} {y : ρ}, Good (e x x' y z) → (x = x' ∧ Good y) ∨ Good z) {y : ρ} : ∀ {xs xs' : List AV}, Good (eqVl e xs xs' y z) → (xs = xs' ∧ Good y) ∨ Good z
  | [], xs', h => by
    rcases listOn_cases (l := xs') (z := y) (s := fun _ _ => z) h with ⟨e1, h⟩ | ⟨_, _, _, h⟩
    · exact .inl ⟨e1.symm, h⟩
    · exact .inr h
  | x :: xs, xs', h => by
    rcases listOn_cases (l := xs') (z := z) (s := fun x' l => e x x' (eqVl e xs l y z) z) h with ⟨_, h⟩ | ⟨x', l, e0, h⟩
    · exact .inr h
    · rcases he h with ⟨e1, h⟩ | h
      · rcases eqVl_cases he h with ⟨e2, h⟩ | h
        · exact .inl ⟨by rw [e0, e1, e2], h⟩
        · exact .inr h
      · exact .inr h
theorem eqVs_cases {e : AV → AV → ρ → ρ → ρ} (he : ∀ {x x' : AV} {y : ρ}, Good (e x x' y z) → (x = x' ∧ Good y) ∨ Good z) {x x' : AV} {y : ρ} (h : Good (eqVs e x x' y z)) : (x = x' ∧ Good y) ∨ Good z := by
  rcases asSls_cases h with ⟨m, xs, hx, h⟩ | h
  · rcases asSls_cases h with ⟨m', xs', hx', h⟩ | h
    · rcases eqN_cases h with ⟨e1, h⟩ | h
      · rcases eqVl_cases he h with ⟨e2, h⟩ | h
        · exact .inl ⟨by rw [hx, hx', e1, e2], h⟩
        · exact .inr h
      · exact .inr h
    · exact .inr h
  rcases asSlsx_cases h with ⟨m, xs, hx, h⟩ | h
  · rcases asSlsx_cases h with ⟨m', xs', hx', h⟩ | h
    · rcases eqN_cases h with ⟨e1, h⟩ | h
      · rcases eqVl_cases he h with ⟨e2, h⟩ | h
        · exact .inl ⟨by rw [hx, hx', e1, e2], h⟩
        · exact .inr h
      · exact .inr h
    · exact .inr h
  rcases asAgg_cases h with ⟨xs, hx, h⟩ | h
  · rcases asAgg_cases h with ⟨xs', hx', h⟩ | h
    · rcases eqVl_cases he h with ⟨e2, h⟩ | h
      · exact .inl ⟨by rw [hx, hx', e2], h⟩
      · exact .inr h
    · exact .inr h
  rcases asTup_cases h with ⟨xs, hx, h⟩ | h
  · rcases asTup_cases h with ⟨xs', hx', h⟩ | h
    · rcases eqVl_cases he h with ⟨e2, h⟩ | h
      · exact .inl ⟨by rw [hx, hx', e2], h⟩
      · exact .inr h
    · exact .inr h
  rcases asFnc_cases h with ⟨f, u, v, hx, h⟩ | h
  · rcases asFnc_cases h with ⟨f', u', v', hx', h⟩ | h
    · rcases eqN_cases h with ⟨e1, h⟩ | h
      · rcases eqVl_cases he h with ⟨e2, h⟩ | h
        · rcases eqVl_cases he h with ⟨e3, h⟩ | h
          · exact .inl ⟨by rw [hx, hx', e1, e2, e3], h⟩
          · exact .inr h
        · exact .inr h
      · exact .inr h
    · exact .inr h
  exact eq0_cases h
theorem eqV_cases : ∀ (d : Nat) {x x' : AV} {y : ρ}, Good (eqV d x x' y z) → (x = x' ∧ Good y) ∨ Good z
  | 0, x, x', y, h => eq0_cases h
  | d + 1, x, x', y, h => eqVs_cases (e := eqV d) (fun {x x' y} hh => eqV_cases d (x := x) (x' := x') (y := y) hh) h
theorem eqVL_cases {xs xs' : List AV} {y : ρ} (h : Good (eqVL xs xs' y z)) : (xs = xs' ∧ Good y) ∨ Good z := eqVl_cases (fun h => eqV_cases deep h) h
theorem eqS_cases {y : ρ} : ∀ {es es' : List (List UInt8 × AV)}, Good (eqS es es' y z) → (es = es' ∧ Good y) ∨ Good z
  | [], es', h => by
    rcases listOn_cases (l := es') (z := y) (s := fun _ _ => z) h with ⟨e1, h⟩ | ⟨_, _, _, h⟩
    · exact .inl ⟨e1.symm, h⟩
    · exact .inr h
  | p :: es, es', h => by
    rcases listOn_cases (l := es') (z := z) (s := fun p' l => ifb (strEq p.1 p'.1) (eqV deep p.2 p'.2 (eqS es l y z) z) z) h with ⟨_, h⟩ | ⟨p', l, e0, h⟩
    · exact .inr h
    · rcases ifb_cases h with ⟨h1, h⟩ | ⟨_, h⟩
      · rw [strEq_spec] at h1
        have h1 := of_decide_eq_true h1
        rcases eqV_cases deep h with ⟨e1, h⟩ | h
        · rcases eqS_cases h with ⟨e2, h⟩ | h
          · exact .inl ⟨by rw [e0, e2, show p = p' from Prod.ext h1 e1], h⟩
          · exact .inr h
        · exact .inr h
      · exact .inr h
theorem eqI_cases {y : ρ} : ∀ {es es' : List (Int × AV)}, Good (eqI es es' y z) → (es = es' ∧ Good y) ∨ Good z
  | [], es', h => by
    rcases listOn_cases (l := es') (z := y) (s := fun _ _ => z) h with ⟨e1, h⟩ | ⟨_, _, _, h⟩
    · exact .inl ⟨e1.symm, h⟩
    · exact .inr h
  | p :: es, es', h => by
    rcases listOn_cases (l := es') (z := z) (s := fun p' l => ifb (decide (p.1 = p'.1)) (eqV deep p.2 p'.2 (eqI es l y z) z) z) h with ⟨_, h⟩ | ⟨p', l, e0, h⟩
    · exact .inr h
    · rcases ifb_cases h with ⟨h1, h⟩ | ⟨_, h⟩
      · have h1 := of_decide_eq_true h1
        rcases eqV_cases deep h with ⟨e1, h⟩ | h
        · rcases eqI_cases h with ⟨e2, h⟩ | h
          · exact .inl ⟨by rw [e0, e2, show p = p' from Prod.ext h1 e1], h⟩
          · exact .inr h
        · exact .inr h
      · exact .inr h
theorem seg_self (xs : List AV) : (T.putL .nil 0 xs).seg .unk 0 xs.length = xs := by
  have := cel_ao xs
  unfold cel at this
  have h : AO.cel ((T.putL .nil 0 xs).seg .unk 0 xs.length) = .cel xs := this
  simpa using h
theorem hasL_cases {H : T XO} {o : Nat} {l : XL} {y : ρ} (h : Good (hasL H o l y z)) : (hof H o = some l.xo.ao ∧ Good y) ∨ Good z := by
  cases l with
  | cel xs =>
    rcases atCel_cases h with ⟨n, t, hH, h⟩ | h
    · rcases eqVL_cases h with ⟨e, h⟩ | h
      · refine .inl ⟨?_, h⟩
        rw [hof_get hH]
        show some (AO.cel (t.seg .unk 0 n)) = some (cel xs).ao
        rw [cel_ao, e]
      · exact .inr h
    · exact .inr h
  | mps es =>
    rcases atMps_cases h with ⟨es', hH, h⟩ | h
    · rcases eqS_cases h with ⟨e, h⟩ | h
      · refine .inl ⟨?_, h⟩
        unfold hof; rw [hH, e]; rfl
      · exact .inr h
    · exact .inr h
  | mpi k es =>
    rcases atMpi_cases h with ⟨k', es', hH, h⟩ | h
    · rcases ifb_cases h with ⟨h1, h⟩ | ⟨_, h⟩
      · have h1 : k' = k := by simpa [sameK] using h1
        rcases eqI_cases h with ⟨e, h⟩ | h
        · refine .inl ⟨?_, h⟩
          unfold hof; rw [hH, e, h1]; rfl
        · exact .inr h
      · exact .inr h
    · exact .inr h
  | tcl t ex xs =>
    rcases atTcl_cases h with ⟨t', ex', xs', hH, h⟩ | h
    · rcases eqN_cases h with ⟨e1, h⟩ | h
      · rcases ifb_cases h with ⟨h1, h⟩ | ⟨_, h⟩
        · have h1 : ex' = ex := by revert h1; cases ex' <;> cases ex <;> decide
          rcases eqVL_cases h with ⟨e, h⟩ | h
          · refine .inl ⟨?_, h⟩
            unfold hof; rw [hH, e, h1, e1]; rfl
          · exact .inr h
        · exact .inr h
      · exact .inr h
    · exact .inr h
theorem hasAll_cases {H : T XO} {y : ρ} : ∀ {l : List (Nat × XL)}, Good (hasAll H l y z) → ((∀ p ∈ l, hof H p.1 = some p.2.xo.ao) ∧ Good y) ∨ Good z
  | [], h => .inl ⟨fun p hp => (by cases hp), h⟩
  | p :: l, h => by
    rcases hasL_cases (y := hasAll H l y z) h with ⟨h1, h⟩ | h
    · rcases hasAll_cases h with ⟨h2, h⟩ | h
      · refine .inl ⟨fun q hq => ?_, h⟩
        rcases List.mem_cons.1 hq with rfl | hq
        · exact h1
        · exact h2 q hq
      · exact .inr h
    · exact .inr h
end
theorem delAll_get : ∀ (l : List (Nat × XL)) (H : T XO) (p : Nat), (delAll H l).get p = if ∃ q ∈ l, q.1 = p then none else H.get p
  | [], H, p => by simp [delAll, listRec]
  | q :: l, H, p => by
    show (delAll (H.del q.1) l).get p = _
    rw [delAll_get l, get_del]
    by_cases h1 : ∃ r ∈ l, r.1 = p
    · rw [if_pos h1, if_pos]
      obtain ⟨r, hr, e⟩ := h1
      exact ⟨r, by simp [hr], e⟩
    · rw [if_neg h1]
      by_cases h2 : p = q.1
      · rw [if_pos h2, if_pos ⟨q, by simp, h2.symm⟩]
      · rw [if_neg h2, if_neg]
        rintro ⟨r, hr, e⟩
        rcases List.mem_cons.1 hr with rfl | hr
        · exact h2 e.symm
        · exact h1 ⟨r, hr, e⟩
theorem putAll_not : ∀ (l : List (Nat × XL)) (H : T XO) (p : Nat), (∀ q ∈ l, q.1 ≠ p) → (putAll H l).get p = H.get p
  | [], H, p, _ => rfl
  | q :: l, H, p, h => by
    show (putAll (H.put q.1 q.2.xo) l).get p = _
    rw [putAll_not l _ p fun r hr => h r (by simp [hr]), get_put, if_neg (fun e => h q (by simp) e.symm)]
theorem putAll_in : ∀ (l : List (Nat × XL)) (H H' : T XO) (p : Nat), (∃ q ∈ l, q.1 = p) → (putAll H l).get p = (putAll H' l).get p ∧ ∃ q ∈ l, q.1 = p ∧ (putAll H l).get p = some q.2.xo
  | [], H, H', p, h => by obtain ⟨q, hq, _⟩ := h; cases hq
  | q :: l, H, H', p, h => by
    show (putAll (H.put q.1 q.2.xo) l).get p = (putAll (H'.put q.1 q.2.xo) l).get p ∧ ∃ r ∈ q :: l, r.1 = p ∧ (putAll (H.put q.1 q.2.xo) l).get p = some r.2.xo
    by_cases h1 : ∃ r ∈ l, r.1 = p
    · obtain ⟨e, r, hr, e1, e2⟩ := putAll_in l (H.put q.1 q.2.xo) (H'.put q.1 q.2.xo) p h1
      exact ⟨e, r, by simp [hr], e1, e2⟩
    · have hn : ∀ r ∈ l, r.1 ≠ p := fun r hr e => h1 ⟨r, hr, e⟩
      obtain ⟨r, hr, e⟩ := h
      rcases List.mem_cons.1 hr with rfl | hr
      · rw [putAll_not l _ p hn, putAll_not l _ p hn, get_put, get_put, if_pos e.symm, if_pos e.symm]
        exact ⟨rfl, r, by simp, e, rfl⟩
      · exact absurd e (hn r hr)
section
variable {P : Program} {f : FuncId}
theorem sim_part {g : Gh} {A B : AHeap} {w : World} (h : Sim g A w) (hs : ∀ p x, B p = some x → A p = some x) : Sim g B w := by
  refine ⟨h.os, h.tape, h.output, h.sealed, fun o x ho => h.objs o x (hs o x ho), fun o1 o2 x1 x2 l1 l2 h1 h2 => h.inj o1 o2 x1 x2 l1 l2 (hs _ _ h1) (hs _ _ h2), fun o x l ho => h.apart o x l (hs o x ho), ?_⟩
  obtain ⟨N, hN⟩ := h.fin
  refine ⟨N, fun o ho => ⟨?_, (hN o ho).2⟩⟩
  rcases Option.eq_none_or_eq_some (B o) with hb | ⟨x, hb⟩
  · exact hb
  · have := hs o x hb; rw [(hN o ho).1] at this; cases this
theorem CallS.part {args : List AV} {H H' H'' : T XO} {a b : Nat} {x : AV} (h : CallS P f args H a x H' b) (hs : ∀ p y, hof H'' p = some y → hof H' p = some y) : CallS P f args H a x H'' b := by
  obtain ⟨h1, h2, h3⟩ := h
  refine ⟨h1, fun p hp => ?_, fun F g w vals hd hr hsim hf => (h3 F g w vals hd hr hsim hf).mono ?_⟩
  · obtain ⟨y, hy⟩ := Option.isSome_iff_exists.1 hp
    exact h2 p (by rw [hs p y hy]; rfl)
  · rintro e w' ⟨v, g', rfl, he, hx, hs'⟩
    refine ⟨v, g', rfl, he, hx, sim_part hs' fun p y hp => ?_⟩
    simp only [join] at hp ⊢
    cases hq : hof H'' p with
    | some u => rw [hq] at hp; rw [hs p u hq]; exact hp
    | none =>
      rw [hq] at hp
      simp only at hp
      cases hq' : hof H' p with
      | none => exact hp
      | some u =>
        exfalso
        rcases h2 p (by rw [hq']; rfl) with h | h
        · obtain ⟨z, hz⟩ := Option.isSome_iff_exists.1 h
          rw [hd.h p z hz] at hp; cases hp
        · rw [hd.f p h.1 h.2] at hp; cases hp
theorem CallS.frame {args : List AV} {K K' H H' : T XO} {a b : Nat} {x : AV} (h : CallS P f args K a x K' b) (hK : ∀ p y, hof K p = some y → hof H p = some y)
    (h1 : ∀ p y, hof K' p = some y → hof H' p = some y) (h2 : ∀ p, hof K' p = none → (hof K p).isSome = true → hof H' p = none) (h3 : ∀ p, hof K' p = none → hof K p = none → hof H' p = hof H p) : CallS P f args H a x H' b := by
  obtain ⟨q1, q2, q3⟩ := h
  have hdom : Dom H H' a b := fun p hp => by
    cases hk' : hof K' p with
    | some y =>
      rcases q2 p (by rw [hk']; rfl) with h | h
      · obtain ⟨u, hu⟩ := Option.isSome_iff_exists.1 h
        exact .inl (by rw [hK p u hu]; rfl)
      · exact .inr h
    | none =>
      cases hk : hof K p with
      | some y => rw [h2 p hk' (by rw [hk]; rfl)] at hp; cases hp
      | none => rw [h3 p hk' hk] at hp; exact .inl hp
  refine ⟨q1, hdom, fun F g w vals hd hr hs hf => ?_⟩
  have hj : join (hof K) (beside K (join (hof H) F)) = join (hof H) F := join_beside fun p y hy => join_some (hK p y hy)
  refine (q3 (beside K (join (hof H) F)) g w vals ⟨fun p y hy => by simp [beside, hy], fun p e1 e2 => ?_, fun p e1 e2 => ?_⟩ hr (by rw [hj]; exact hs) hf).mono ?_
  · simp only [beside, join, hd.n p e1 e2, hd.f p e1 e2]
    split <;> rfl
  · rcases Option.eq_none_or_eq_some (hof K p) with h | ⟨y, h⟩
    · exact h
    · have := hK p y h; rw [hd.n p e1 e2] at this; cases this
  · rintro e w' ⟨v, g', rfl, he, hx, hs'⟩
    refine ⟨v, g', rfl, he, hx, ?_⟩
    have : join (hof H') F = join (hof K') (beside K (join (hof H) F)) := funext fun p => by
      simp only [join, beside]
      cases hk' : hof K' p with
      | some y => simp only [h1 p y hk']
      | none =>
        simp only
        cases hk : hof K p with
        | some y =>
          rw [h2 p hk' (by rw [hk]; rfl)]
          simp [hd.h p y (hK p y hk)]
        | none =>
          rw [h3 p hk' hk]
          simp
    rw [this]
    exact hs'
def LitOk (P : Program) (f : FuncId) (L : Lit) : Prop := CallS P f L.args (putAll .nil L.ins) L.a L.x (putAll .nil L.outs) L.b
variable {ρ : Type} {Good : ρ → Prop} {z : ρ}
theorem putAll_some {l : List (Nat × XL)} {p : Nat} {y : AO} (h : hof (putAll .nil l) p = some y) : ∃ q ∈ l, q.1 = p ∧ y = q.2.xo.ao := by
  by_cases hex : ∃ q ∈ l, q.1 = p
  · obtain ⟨_, q, hq, e1, e2⟩ := putAll_in l .nil .nil p hex
    refine ⟨q, hq, e1, ?_⟩
    unfold hof at h
    rw [e2] at h
    simpa using h.symm
  · unfold hof at h
    rw [putAll_not l .nil p fun q hq e => hex ⟨q, hq, e⟩] at h
    cases h
theorem lit_ok (hz : ¬ Good z) {L : Lit} (hL : LitOk P f L) (hF : FuncT P f) {args : List AV} {H : T XO} {a : Nat} {k : K ρ} (h : Good (sLit L z args H a k)) : ∃ x H' b, FuncT P f ∧ CallS P f args H a x H' b ∧ Good (k x H' b) := by
  rcases eqN_cases h with ⟨ha, h⟩ | h
  rotate_left
  · exact absurd h hz
  rcases eqVL_cases h with ⟨hargs, h⟩ | h
  rotate_left
  · exact absurd h hz
  rcases hasAll_cases h with ⟨hins, h⟩ | h
  rotate_left
  · exact absurd h hz
  refine ⟨_, _, _, hF, ?_, h⟩
  rw [ha, hargs]
  have hnone : ∀ {p}, hof (putAll .nil L.outs) p = none → ∀ q ∈ L.outs, q.1 ≠ p := fun {p} h q hq e => by
    obtain ⟨_, q', hq', e1, e2⟩ := putAll_in L.outs .nil .nil p ⟨q, hq, e⟩
    unfold hof at h
    rw [e2] at h; cases h
  refine hL.frame (fun p y hy => ?_) (fun p y hy => ?_) (fun p h1 h2 => ?_) (fun p h1 h2 => ?_)
  · obtain ⟨q, hq, e1, e2⟩ := putAll_some hy
    rw [← e1, hins q hq, e2]
  · obtain ⟨q, hq, e1, e2⟩ := putAll_some hy
    have := (putAll_in L.outs (delAll H L.ins) .nil p ⟨q, hq, e1⟩).1
    unfold hof at hy ⊢
    rw [this]; exact hy
  · obtain ⟨y, hy⟩ := Option.isSome_iff_exists.1 h2
    obtain ⟨q, hq, e1, _⟩ := putAll_some hy
    unfold hof
    rw [putAll_not L.outs _ p (hnone h1), delAll_get, if_pos ⟨q, hq, e1⟩]; rfl
  · unfold hof
    rw [putAll_not L.outs _ p (hnone h1), delAll_get, if_neg]
    rintro ⟨q, hq, e1⟩
    obtain ⟨_, q', hq', _, e2⟩ := putAll_in L.ins .nil .nil p ⟨q, hq, e1⟩
    unfold hof at h2
    rw [e2] at h2; cases h2
theorem lits_ok (hz : ¬ Good z) (hF : FuncT P f) : ∀ {l : List Lit}, (∀ L ∈ l, LitOk P f L) → ∀ {args : List AV} {H : T XO} {a : Nat} {k : K ρ}, Good (sLits l z args H a k) → ∃ x H' b, FuncT P f ∧ CallS P f args H a x H' b ∧ Good (k x H' b)
  | [], _, args, H, a, k, h => absurd h hz
  | L :: l, hl, args, H, a, k, h => by
    rcases ifb_cases (x := sLit L z args H a k) (y := sLits l z args H a k) h with ⟨_, h⟩ | ⟨_, h⟩
    · exact lit_ok hz (hl L (by simp)) hF h
    · exact lits_ok hz hF (fun L' hL' => hl L' (by simp [hL'])) h
theorem chk_ok (hz : ¬ Good z) {call : CallF ρ} (hc : CallOkB Good P call) {L : Lit} {y : ρ} (h : Good (call f L.args (putAll .nil L.ins) L.a (chk L y z))) : LitOk P f L := by
  obtain ⟨x, H', b, hF, hcs, h⟩ := hc _ _ _ _ _ h
  rcases eqN_cases (a := b) (b := L.b) h with ⟨hb, h⟩ | h
  rotate_left
  · exact absurd h hz
  rcases eqVl_cases (fun h => eqV_cases deep h) h with ⟨hx, h⟩ | h
  rotate_left
  · exact absurd h hz
  rcases hasAll_cases h with ⟨houts, _⟩ | h
  rotate_left
  · exact absurd h hz
  have hx : x = L.x := by simpa using hx
  rw [hb, hx] at hcs
  exact hcs.part fun p y hy => by
    obtain ⟨q, hq, e1, e2⟩ := putAll_some hy
    rw [← e1, houts q hq, e2]
end
end
end Go.Ex
namespace Go.Ex
open Go Go.Am Go.Proofs
def SumAt {ρ : Type} (Good : ρ → Prop) (P : Program) (f : Nat) (s : SumF ρ) : Prop := ∀ args H a k, Good (s args H a k) → ∃ x H' b, FuncT P f ∧ CallS P f args H a x H' b ∧ Good (k x H' b)
def NatAt {ρ : Type} (Good : ρ → Prop) (P : Program) (f : Nat) (s : SumF ρ) : Prop := ∀ args H a k, Good (s args H a k) → ∃ x H' b, NatS P f args H a x H' b ∧ Good (k x H' b)
section
variable {ρ : Type} {Good : ρ → Prop} {z : ρ} (nf : ¬ Good z)
noncomputable section
def slT : T Unit := (T.nil.put 122 ()).put 226 ()
def baseS (z : ρ) (f : Nat) : Option (SumF ρ) := ifb (Nat.beq f 378) (some (sTrimLeft z)) (ifb (Nat.beq f 184) (some (sRepeat z)) (ifb (Nat.beq f 40) (some (sWrite 116 5 z)) (ifb (Nat.beq f 42) (some (sText 116 5 z)) none)))
def natsS (z : ρ) (f : Nat) : Option (SumF ρ) := ifb (Nat.beq f 469) (some (sIndex z)) (ifb (Nat.beq f 331) (some (sCount z)) none)
def envL (z : ρ) (lits : T (SumF ρ)) : Env ρ := ⟨z, tys, funs, slT, 88, fun f => onSome (lits.get f) some (baseS z f), natsS z⟩
end
include nf in
theorem base_ok {f : Nat} {s : SumF ρ} (h : baseS z f = some s) : SumAt Good Tryz.prog f s := by
  have h1 : ∀ {P : Option (SumF ρ) → Prop} {b : Bool} {x y : Option (SumF ρ)}, P (ifb b x y) → (b = true ∧ P x) ∨ (b = false ∧ P y) := fun {P b x y} h => by cases b; exact .inr ⟨rfl, h⟩; exact .inl ⟨rfl, h⟩
  rcases h1 (P := fun o => o = some s) h with ⟨e, h⟩ | ⟨_, h⟩
  · cases h; rw [Nat.eq_of_beq_eq_true e]
    exact fun args H a k h => trimLeft_ok nf ⟨Tryz.call378⟩ Tryz.f_trimLeft h
  rcases h1 (P := fun o => o = some s) h with ⟨e, h⟩ | ⟨_, h⟩
  · cases h; rw [Nat.eq_of_beq_eq_true e]
    exact fun args H a k h => repeat_ok nf ⟨Tryz.call184⟩ Tryz.f_repeat h
  rcases h1 (P := fun o => o = some s) h with ⟨e, h⟩ | ⟨_, h⟩
  · cases h; rw [Nat.eq_of_beq_eq_true e]
    exact fun args H a k h => write_ok nf h
  rcases h1 (P := fun o => o = some s) h with ⟨e, h⟩ | ⟨_, h⟩
  · cases h; rw [Nat.eq_of_beq_eq_true e]
    exact fun args H a k h => text_ok nf h
  cases h
include nf in
theorem nats_ok {f : Nat} {s : SumF ρ} (h : natsS z f = some s) : NatAt Good Tryz.prog f s := by
  have h1 : ∀ {P : Option (SumF ρ) → Prop} {b : Bool} {x y : Option (SumF ρ)}, P (ifb b x y) → (b = true ∧ P x) ∨ (b = false ∧ P y) := fun {P b x y} h => by cases b; exact .inr ⟨rfl, h⟩; exact .inl ⟨rfl, h⟩
  rcases h1 (P := fun o => o = some s) h with ⟨e, h⟩ | ⟨_, h⟩
  · cases h; rw [Nat.eq_of_beq_eq_true e]
    exact fun args H a k h => index_ok nf Tryz.f_index h
  rcases h1 (P := fun o => o = some s) h with ⟨e, h⟩ | ⟨_, h⟩
  · cases h; rw [Nat.eq_of_beq_eq_true e]
    exact fun args H a k h => count_ok nf Tryz.f_count h
  cases h
theorem envL_ok (z : ρ) (lits : T (SumF ρ)) : EnvOk Tryz.prog (envL z lits) := envOk_of tys_ok funs_ok
def Lts (Good : ρ → Prop) (lits : T (SumF ρ)) : Prop := ∀ f s, lits.get f = some s → SumAt Good Tryz.prog f s
theorem lts_nil : Lts Good (T.nil : T (SumF ρ)) := fun f s h => by cases h
theorem lts_put {l : T (SumF ρ)} {f : FuncId} {s : SumF ρ} (h : Lts Good l) (hs : SumAt Good Tryz.prog f s) : Lts Good (l.put f s) := fun f' s' h' => by
  rw [get_put] at h'
  split at h'
  · rename_i e; cases h'; rw [e]; exact hs
  · exact h f' s' h'
include nf in
theorem sumL_ok {lits : T (SumF ρ)} (h : Lts Good lits) : SumOk Good Tryz.prog (envL z lits) := fun f s hs args H a k hg => by
  have hs : onSome (lits.get f) some (baseS z f) = some s := hs
  cases hl : lits.get f with
  | some s' =>
    rw [hl] at hs
    cases hs
    exact h f _ hl args H a k hg
  | none =>
    rw [hl] at hs
    exact base_ok nf hs args H a k hg
include nf in
theorem natL_ok (lits : T (SumF ρ)) : NatOk Good Tryz.prog (envL z lits) := fun f s hs args H a k hg => nats_ok nf hs args H a k hg
theorem follows_mixed : Tryz.prog.follows .mixedOrders = true := by kernel_rfl
include nf in
theorem callsL_ok {lits : T (SumF ρ)} (h : Lts Good lits) (fuel d : Nat) : CallOk Good Tryz.prog (calls (envL z lits) fuel d) :=
  ok_calls (envL_ok z lits) (sumL_ok nf h) (natL_ok nf lits) once_ok (fun call n hc => drawnOk nf (envL_ok z lits).ty hc follows_mixed) fuel nf d
include nf in
theorem callsB_ok {lits : T (SumF ρ)} (h : Lts Good lits) (fuel d : Nat) : CallOkB Good Tryz.prog (callO (envL z lits) (calls (envL z lits) fuel d) fuel) :=
  ok_callO (envL_ok z lits) (sumL_ok nf h) once_ok (callsL_ok nf h fuel d) (fun n => drawnOk nf (envL_ok z lits).ty (callsL_ok nf h fuel d) follows_mixed) fuel nf
theorem litsAt {f : FuncId} (nf : ¬ Good z) (hF : FuncT Tryz.prog f) {l : List Lit} (h : ∀ L ∈ l, LitOk Tryz.prog f L) : SumAt Good Tryz.prog f (sLits l z) := fun args H a k hg => lits_ok nf hF h hg
end
def GoodB (b : Bool) : Prop := b = true
theorem nfB : ¬ GoodB false := by simp [GoodB]
theorem runL_ok {lits : T (SumF Bool)} (h : Lts GoodB lits) {fuel d : Nat} {f : FuncId} {L : Lit}
    (hr : callO (envL false lits) (calls (envL false lits) fuel d) fuel f L.args (putAll .nil L.ins) L.a (chk L true false) = true) : LitOk Tryz.prog f L :=
  chk_ok (Good := GoodB) nfB (callsB_ok (Good := GoodB) nfB h fuel d) hr
end Go.Ex
namespace Go.Ex
open Go Go.Am
mutual
def low (N : Nat) : AV → Bool
  | .sls _ xs => lowL N xs
  | .pce xs _ => lowL N xs
  | .ptr o _ => Nat.blt o N
  | .vw o _ _ _ => Nat.blt o N
  | .vwn o _ _ _ => Nat.blt o N
  | .mp o => Nat.blt o N
  | .agg xs => lowL N xs
  | .tup xs => lowL N xs
  | .fnc _ fs cs => lowL N fs && lowL N cs
  | .ifc _ x => low N x
  | .slsx _ xs => lowL N xs
  | .unk => true
  | .raw _ => true
  | .emp => true
  | .bys _ => true
  | .pby _ _ => true
  | .bysx _ => true
  | .str _ => true
def lowL (N : Nat) : List AV → Bool
  | [] => true
  | x :: xs => low N x && lowL N xs
end
end Go.Ex
namespace Go.Am
def Gh.cut (g : Gh) (N : Nat) : Gh := { g with loc := fun p => if p < N then g.loc p else none }
end Go.Am
namespace Go.Ex
open Go Go.Am
theorem cut_loc {g : Gh} {N o : Nat} (h : Nat.blt o N = true) : (g.cut N).loc o = g.loc o := by
  have : o < N := Nat.le_of_ble_eq_true h
  simp [Gh.cut, this]
mutual
theorem rep_low {g : Gh} {N : Nat} : ∀ (x : AV) (v : Value), low N x = true → Rep g x v → Rep (g.cut N) x v
  | .unk, _, _, _ => by simp only [Rep]
  | .raw _, _, _, h => by simpa only [Rep] using h
  | .emp, _, _, h => by simpa only [Rep] using h
  | .str _, _, _, h => by simpa only [Rep] using h
  | .bys bs, v, _, h => by simpa only [Rep, Gh.cut] using h
  | .pby bs i, v, _, h => by simpa only [Rep, Gh.cut] using h
  | .bysx bs, v, _, h => by simpa only [Rep, Gh.cut] using h
  | .sls n xs, v, hl, h => by
    simp only [low] at hl
    simp only [Rep] at h ⊢
    rcases h with h | ⟨b, off, cap, c, e, fz, h1, h2, h3, h4⟩
    · exact .inl h
    · exact .inr ⟨b, off, cap, c, e, fz, h1, h2, h3, repAt_low xs _ _ hl h4⟩
  | .slsx n xs, v, hl, h => by
    simp only [low] at hl
    simp only [Rep] at h ⊢
    rcases h with h | ⟨b, off, c, e, fz, h1, h3, h4⟩
    · exact .inl h
    · exact .inr ⟨b, off, c, e, fz, h1, h3, repAt_low xs _ _ hl h4⟩
  | .pce xs i, v, hl, h => by
    simp only [low] at hl
    simp only [Rep] at h ⊢
    obtain ⟨b, off, c, e, fz, h1, h3, h4⟩ := h
    exact ⟨b, off, c, e, fz, h1, h3, repAt_low xs _ _ hl h4⟩
  | .ptr o off, v, hl, h => by
    simp only [low] at hl
    simp only [Rep] at h ⊢
    rw [cut_loc hl]; exact h
  | .vw o sz off len, v, hl, h => by
    simp only [low] at hl
    simp only [Rep] at h ⊢
    rw [cut_loc hl]; exact h
  | .vwn o sz off len, v, hl, h => by
    simp only [low] at hl
    simp only [Rep] at h ⊢
    rw [cut_loc hl]; exact h
  | .mp o, v, hl, h => by
    simp only [low] at hl
    simp only [Rep] at h ⊢
    rw [cut_loc hl]; exact h
  | .agg xs, v, hl, h => by
    simp only [low] at hl
    simp only [Rep] at h ⊢
    obtain ⟨a, h1, h2⟩ := h
    exact ⟨a, h1, repL_low xs _ hl h2⟩
  | .tup xs, v, hl, h => by
    simp only [low] at hl
    simp only [Rep] at h ⊢
    obtain ⟨a, h1, h2⟩ := h
    exact ⟨a, h1, repL_low xs _ hl h2⟩
  | .fnc fn fs cs, v, hl, h => by
    simp only [low, Bool.and_eq_true] at hl
    simp only [Rep] at h ⊢
    obtain ⟨a, b, h1, h2, h3⟩ := h
    exact ⟨a, b, h1, repL_low fs _ hl.1 h2, repL_low cs _ hl.2 h3⟩
  | .ifc t x, v, hl, h => by
    simp only [low] at hl
    simp only [Rep] at h ⊢
    obtain ⟨u, h1, h2⟩ := h
    exact ⟨u, h1, rep_low x _ hl h2⟩
theorem repL_low {g : Gh} {N : Nat} : ∀ (xs : List AV) (l : List Value), lowL N xs = true → RepL g xs l → RepL (g.cut N) xs l
  | [], _, _, h => by simpa only [RepL] using h
  | x :: xs, l, hl, h => by
    simp only [lowL, Bool.and_eq_true] at hl
    simp only [RepL] at h ⊢
    obtain ⟨u, us, h1, h2, h3⟩ := h
    exact ⟨u, us, h1, rep_low x _ hl.1 h2, repL_low xs _ hl.2 h3⟩
theorem repAt_low {g : Gh} {N : Nat} : ∀ (xs : List AV) (c : Array Value) (k : Nat), lowL N xs = true → RepAt g xs c k → RepAt (g.cut N) xs c k
  | [], _, _, _, _ => by simp only [RepAt]
  | x :: xs, c, k, hl, h => by
    simp only [lowL, Bool.and_eq_true] at hl
    simp only [RepAt] at h ⊢
    obtain ⟨⟨u, h1, h2, h3⟩, h4⟩ := h
    exact ⟨⟨u, h1, h2, rep_low x _ hl.1 h3⟩, repAt_low xs _ _ hl.2 h4⟩
end
theorem lowL_mem {N : Nat} : ∀ {xs : List AV}, lowL N xs = true → ∀ x ∈ xs, low N x = true
  | [], _, x, h => by cases h
  | y :: xs, hl, x, h => by
    simp only [lowL, Bool.and_eq_true] at hl
    rcases List.mem_cons.1 h with rfl | h
    · exact hl.1
    · exact lowL_mem hl.2 x h
def lowXs (N : Nat) (l : List (Nat × List AV)) : Bool := l.all fun p => Nat.blt p.1 N && lowL N p.2
def celsH (l : List (Nat × List AV)) : AHeap := fun p => (l.find? fun q => q.1 == p).map fun q => .cel q.2
theorem celsH_some {l : List (Nat × List AV)} {p : Nat} {x : AO} (h : celsH l p = some x) : ∃ xs, (p, xs) ∈ l ∧ x = .cel xs := by
  unfold celsH at h
  cases hf : l.find? (fun q => q.1 == p) with
  | none => rw [hf] at h; cases h
  | some q =>
    rw [hf] at h
    have h1 := List.mem_of_find?_eq_some hf
    have h2 := List.find?_some hf
    simp only [beq_iff_eq] at h2
    obtain ⟨a, b⟩ := q
    simp only at h2
    subst h2
    exact ⟨b, h1, by simpa using h.symm⟩
theorem sim_cut {g : Gh} {A : AHeap} {w : World} {N : Nat} {l : List (Nat × List AV)} (h : Sim g A w) (hl : lowXs N l = true) (hs : ∀ p x, celsH l p = some x → A p = some x) : Sim (g.cut N) (celsH l) w := by
  have hlow : ∀ p x, celsH l p = some x → p < N ∧ ∃ xs, x = .cel xs ∧ lowL N xs = true := fun p x hp => by
    obtain ⟨xs, hm, rfl⟩ := celsH_some hp
    have := List.all_eq_true.1 hl _ hm
    simp only [Bool.and_eq_true] at this
    exact ⟨Nat.le_of_ble_eq_true this.1, xs, rfl, this.2⟩
  have hloc : ∀ p x, celsH l p = some x → (g.cut N).loc p = g.loc p := fun p x hp => by
    have := (hlow p x hp).1
    simp [Gh.cut, this]
  refine ⟨h.os, h.tape, h.output, h.sealed, fun o x ho => ?_, fun o1 o2 x1 x2 l1 l2 h1 h2 k1 k2 => ?_, fun o x l' ho k => ?_, ?_⟩
  · obtain ⟨hN, xs, rfl, hx⟩ := hlow o x ho
    rcases h.objs o _ (hs o _ ho) with ⟨hv, hn⟩ | ⟨l', c, e, fz, k1, k2, k3, k4, k5⟩ | ⟨l', es, es', ck, he, _⟩ | ⟨l', ob, k1, k2, k3⟩
    · exact .inl ⟨hv, by rw [hloc o _ ho]; exact hn⟩
    · exact .inr (.inl ⟨l', c, e, fz, by rw [hloc o _ ho]; exact k1, k2, k3, k4, k5.1, repAt_low xs _ _ hx k5.2⟩)
    · cases he
    · obtain ⟨_, _, he⟩ := k3.mp; cases he
  · rw [hloc _ _ h1] at k1
    rw [hloc _ _ h2] at k2
    exact h.inj _ _ _ _ _ _ (hs _ _ h1) (hs _ _ h2) k1 k2
  · rw [hloc _ _ ho] at k
    exact h.apart _ _ _ (hs _ _ ho) k
  · refine ⟨N, fun o ho => ⟨?_, by simp [Gh.cut, show ¬ o < N by omega]⟩⟩
    rcases Option.eq_none_or_eq_some (celsH l o) with hb | ⟨x, hb⟩
    · exact hb
    · have := (hlow o x hb).1; omega
theorem xpre_cut {n : Nat} {R R' : T AV} {A : AHeap} {g : Gh} {act : Act} {w : World} {N : Nat} {l : List (Nat × List AV)} (h : XPre n R A g act w) (hl : lowXs N l = true) (hs : ∀ p x, celsH l p = some x → A p = some x)
    (hR : ∀ i, rg R' i = .unk ∨ (rg R' i = rg R i ∧ low N (rg R i) = true)) : XPre n R' (celsH l) (g.cut N) act w :=
  ⟨h.defers, h.size, fun i => by
    rcases hR i with h1 | ⟨h1, h2⟩
    · rw [h1]; simp only [Rep]
    · rw [h1]; exact rep_low _ _ h2 (h.regs i), sim_cut h.sim hl hs⟩
theorem free_cut {g : Gh} {N b : Nat} : Free (g.cut N) N b := fun p h1 _ => by simp [Gh.cut, show ¬ p < N by omega]
end Go.Ex
namespace Go.Ex
open Go Go.Am
noncomputable def viewC (H : T XO) (o : Nat) : Option (List AV) := onSome (H.get o) (fun x => xCel x (fun n t => some (t.seg .unk 0 n)) none) none
noncomputable def viewL (H : T XO) (l : List Nat) : List (Option (List AV)) := listRec (β := List (Option (List AV))) [] (fun o _ ih => viewC H o :: ih) l
abbrev Ob := Option (AV × List (Option (List AV)) × Bool)
noncomputable def kOb (names : List Nat) (most : Nat) : K Ob := fun x H b => some (x, viewL H names, Nat.ble b most)
theorem xCel_cases {ρ : Type} {Good : ρ → Prop} {x : XO} {f : Nat → T AV → ρ} {z : ρ} (h : Good (xCel x f z)) : (∃ n t, x = .cel n t ∧ Good (f n t)) ∨ Good z := by
  cases x with
  | cel n t => exact .inl ⟨n, t, rfl, h⟩
  | _ => exact .inr h
theorem viewC_some {H : T XO} {o : Nat} {xs : List AV} (h : viewC H o = some xs) : hof H o = some (.cel xs) := by
  have h1 : (fun r : Option (List AV) => r = some xs) (onSome (H.get o) (fun x => xCel x (fun n t => some (t.seg .unk 0 n)) none) none) := h
  rcases onSome_cases (Good := fun r : Option (List AV) => r = some xs) h1 with ⟨x, hx, h2⟩ | ⟨_, h2⟩
  · rcases xCel_cases (Good := fun r : Option (List AV) => r = some xs) h2 with ⟨n, t, rfl, h3⟩ | h3
    · rw [hof_get hx]
      have h3 : some (t.seg .unk 0 n) = some xs := h3
      cases h3; rfl
    · cases h3
  · cases h2
theorem viewL_some {H : T XO} : ∀ {l : List (Nat × List AV)}, viewL H (l.map (·.1)) = l.map (fun p => some p.2) → ∀ p ∈ l, hof H p.1 = some (.cel p.2)
  | [], _, p, hp => by cases hp
  | q :: l, h, p, hp => by
    have h : viewC H q.1 :: viewL H (l.map (·.1)) = some q.2 :: l.map (fun p => some p.2) := h
    injection h with h1 h2
    rcases List.mem_cons.1 hp with rfl | hp
    · exact viewC_some h1
    · exact viewL_some h2 p hp
def celL (l : List (Nat × List AV)) : List (Nat × XL) := l.map fun p => (p.1, .cel p.2)
theorem CallS.more {P : Program} {f : FuncId} {args : List AV} {H H' : T XO} {a b b' : Nat} {x : AV} (h : CallS P f args H a x H' b) (hb : b ≤ b') : CallS P f args H a x H' b' := by
  obtain ⟨h1, h2, h3⟩ := h
  refine ⟨Nat.le_trans h1 hb, fun p hp => ?_, fun F g w vals hd hr hs hf => (h3 F g w vals (hd.sub hb) hr hs (hf.sub hb)).mono ?_⟩
  · rcases h2 p hp with h | h
    · exact .inl h
    · exact .inr ⟨h.1, by omega⟩
  · rintro e w' ⟨v, g', rfl, he, hx, hs'⟩
    exact ⟨v, g', rfl, ⟨he.le, fun p hp => he.out p (by omega)⟩, hx, hs'⟩
def obG (x : AV) (outs : List (Nat × List AV)) (r : Ob) : Prop := r = some (x, outs.map (fun p => some p.2), true)
theorem obG_none (x : AV) (outs : List (Nat × List AV)) : ¬ obG x outs none := fun h => by cases h
theorem sym_ok {P : Program} {f : FuncId} {call : CallF Ob} {args : List AV} {ins : List (Nat × XL)} {a b0 : Nat} {x0 : AV} {outs : List (Nat × List AV)} (hc : CallOkB (obG x0 outs) P call)
    (h : call f args (putAll .nil ins) a (kOb (outs.map (fun p => p.1)) b0) = some (x0, outs.map (fun p => some p.2), true)) : LitOk P f ⟨args, ins, a, x0, celL outs, b0⟩ := by
  obtain ⟨x, H', b, hF, hcs, h⟩ := hc _ _ _ _ _ h
  have h : some (x, viewL H' (outs.map (fun p => p.1)), Nat.ble b b0) = some (x0, outs.map (fun p => some p.2), true) := h
  injection h with h
  injection h with h1 h
  injection h with h2 h3
  rw [h1] at hcs
  refine (hcs.more (Nat.le_of_ble_eq_true h3)).part fun p y hy => ?_
  obtain ⟨q, hq, e1, e2⟩ := putAll_some hy
  obtain ⟨r, hr, rfl⟩ := List.mem_map.1 hq
  rw [← e1, viewL_some h2 r hr, e2]
  show some (AO.cel r.2) = some (XL.cel r.2).xo.ao
  rw [show (XL.cel r.2).xo = cel r.2 from rfl, cel_ao]
end Go.Ex
namespace Go.Ex
open Go Go.Am
noncomputable def rLg (l : List (Nat × AV)) : T AV → T AV := listRec (β := T AV → T AV) (fun R => R) (fun p _ ih R => ih (R.put p.1 p.2)) l
noncomputable def rL (l : List (Nat × AV)) : T AV := rLg l .nil
theorem rLg_cons (p : Nat × AV) (l : List (Nat × AV)) (R : T AV) : rLg (p :: l) R = rLg l (R.put p.1 p.2) := rfl
theorem rL_go : ∀ (l : List (Nat × AV)) (R : T AV) (i : Nat), rg (rLg l R) i = rg R i ∨ ∃ p ∈ l, p.1 = i ∧ rg (rLg l R) i = p.2
  | [], R, i => .inl rfl
  | p :: l, R, i => by
    rw [rLg_cons]
    rcases rL_go l (R.put p.1 p.2) i with h | ⟨q, hq, h1, h2⟩
    · by_cases e : i = p.1
      · refine .inr ⟨p, by simp, e.symm, ?_⟩
        rw [h, rg_put, if_pos e]
      · left
        rw [h, rg_put, if_neg e]
    · exact .inr ⟨q, by simp [hq], h1, h2⟩
theorem rL_get (l : List (Nat × AV)) (i : Nat) : rg (rL l) i = .unk ∨ ∃ p ∈ l, p.1 = i ∧ rg (rL l) i = p.2 := by
  rcases rL_go l .nil i with h | h
  · exact .inl (by unfold rL; rw [h, rg_nil])
  · exact .inr h
abbrev Oc := Option (Exit × List AV × List (Option (List AV)) × Bool)
noncomputable def regsL (R : T AV) (l : List Nat) : List AV := listRec (β := List AV) [] (fun i _ ih => rg R i :: ih) l
noncomputable def kOc (regs names : List Nat) (most : Nat) : C Oc := fun e R H b => some (e, regsL R regs, viewL H names, Nat.ble b most)
def ocG (e : Exit) (rs : List (Nat × AV)) (outs : List (Nat × List AV)) (r : Oc) : Prop := r = some (e, rs.map (fun p => p.2), outs.map (fun p => some p.2), true)
theorem ocG_none (e : Exit) (rs : List (Nat × AV)) (outs : List (Nat × List AV)) : ¬ ocG e rs outs none := fun h => by cases h
theorem regsL_some {R : T AV} : ∀ {l : List (Nat × AV)}, regsL R (l.map (fun p => p.1)) = l.map (fun p => p.2) → ∀ p ∈ l, rg R p.1 = p.2
  | [], _, p, hp => by cases hp
  | q :: l, h, p, hp => by
    have h : rg R q.1 :: regsL R (l.map (fun p => p.1)) = q.2 :: l.map (fun p => p.2) := h
    injection h with h1 h2
    rcases List.mem_cons.1 hp with rfl | hp
    · exact h1
    · exact regsL_some h2 p hp
section
variable {P : Program} {n : Nat}
theorem CodeS.part {c : Code} {R R' R'' : T AV} {H H' H'' : T XO} {a b b' : Nat} {e : Exit} (h : CodeS P n c R H a e R' H' b) (hR : ∀ i, rg R'' i = .unk ∨ rg R'' i = rg R' i) (hs : ∀ p y, hof H'' p = some y → hof H' p = some y) (hb : b ≤ b') : CodeS P n c R H a e R'' H'' b' := by
  obtain ⟨h1, h2, h3⟩ := h
  refine ⟨Nat.le_trans h1 hb, fun p hp => ?_, fun F g act w hd hp hf => wp_mono (h3 F g act w (hd.sub hb) hp (hf.sub hb)) ?_⟩
  · obtain ⟨y, hy⟩ := Option.isSome_iff_exists.1 hp
    rcases h2 p (by rw [hs p y hy]; rfl) with h | h
    · exact .inl h
    · exact .inr ⟨h.1, by omega⟩
  · rintro e' act' w' ⟨rfl, g', he, hx⟩
    refine ⟨rfl, g', ⟨he.le, fun p hp => he.out p (by omega)⟩, hx.defers, hx.size, fun i => ?_, sim_part hx.sim fun p y hp => ?_⟩
    · rcases hR i with h | h
      · rw [h]; simp only [Rep]
      · rw [h]; exact hx.regs i
    · simp only [join] at hp ⊢
      cases hq : hof H'' p with
      | some u => rw [hq] at hp; rw [hs p u hq]; exact hp
      | none =>
        rw [hq] at hp
        simp only at hp
        cases hq' : hof H' p with
        | none => exact hp
        | some u =>
          exfalso
          rcases h2 p (by rw [hq']; rfl) with h | h
          · obtain ⟨z, hz⟩ := Option.isSome_iff_exists.1 h
            rw [hd.h p z hz] at hp; cases hp
          · rw [hd.f p h.1 (by omega)] at hp; cases hp
theorem node_ok {E : Env Oc} {call : CallF Oc} {fuel : Nat} {c : Code} {e : Exit} {R : T AV} {H : T XO} {a b0 : Nat} {rs : List (Nat × AV)} {outs : List (Nat × List AV)} (hb : ¬ ocG e rs outs E.bad) (hty : ∀ t i, E.ty.get t = some i → TyOk P t i)
    (hc : CallOk (ocG e rs outs) P call) (hm : P.follows .mixedOrders = true) (hw : codeWfB n c = true)
    (h : exec c E call fuel R H a (kOc (rs.map (fun p => p.1)) (outs.map (fun p => p.1)) b0) = some (e, rs.map (fun p => p.2), outs.map (fun p => some p.2), true)) :
    CodeS P n c R H a e (rL rs) (putAll .nil (celL outs)) b0 := by
  obtain ⟨e', R', H', b, hcs, h⟩ := ok_code (Good := ocG e rs outs) hb hty hc (drawnOk hb hty hc hm) fuel c (codeWf_of hw) R H a _ h
  have h : some (e', regsL R' (rs.map (fun p => p.1)), viewL H' (outs.map (fun p => p.1)), Nat.ble b b0) = some (e, rs.map (fun p => p.2), outs.map (fun p => some p.2), true) := h
  injection h with h
  injection h with h1 h
  injection h with h2 h
  injection h with h3 h4
  rw [h1] at hcs
  refine hcs.part (fun i => ?_) (fun p y hy => ?_) (Nat.le_of_ble_eq_true h4)
  · rcases rL_get rs i with h | ⟨p, hp, e1, e2⟩
    · exact .inl h
    · exact .inr (by rw [e2, ← e1, regsL_some h2 p hp])
  · obtain ⟨q, hq, e1, e2⟩ := putAll_some hy
    obtain ⟨r, hr, rfl⟩ := List.mem_map.1 hq
    rw [← e1, viewL_some h3 r hr, e2]
    show some (AO.cel r.2) = some (XL.cel r.2).xo.ao
    rw [show (XL.cel r.2).xo = cel r.2 from rfl, cel_ao]
theorem CodeS.then {x y : Code} {R R' : T AV} {H H' : T XO} {a b : Nat} (h : CodeS P n x R H a .normal R' H' b) {F : AHeap} {g : Gh} {act : Act} {w : World} {Q : Exit → Act → World → Prop} (hd : Disj (hof H) F a b) (hp : XPre n R (join (hof H) F) g act w) (hf : Free g a b)
    (hk : ∀ g' act' w', Ext g g' a b → XPre n R' (join (hof H') F) g' act' w' → y.wp P Q act' w') : (Code.seq x y).wp P Q act w := by
  refine wp_seq (wp_mono (h.2.2 F g act w hd hp hf) ?_)
  rintro e act' w' ⟨rfl, g', he, hx⟩
  exact hk g' act' w' he hx
end
end Go.Ex
namespace Go.Ex
open Go Go.Am
inductive Pt where
  | v (x : AV)
  | h
inductive PX where
  | cel (ps : List Pt)
  | mps (es : List (List UInt8 × Pt))
structure Tpl where
  args : List AV
  keep : List (Nat × XL)
  holes : List (Nat × PX)
  a : Nat
  x : List (List Int) → AV
  outs : List (List Int) → List (Nat × XL)
  b : Nat
noncomputable section
section
variable {ρ : Type}
def ptOn {α : Type} (p : Pt) (f : AV → α) (g : α) : α := Pt.rec (motive := fun _ => α) f g p
def fill (ps : List Pt) : List Int → List AV := listRec (β := List Int → List AV) (fun _ => []) (fun p _ ih l => ptOn p (fun x => x :: ih l) (.raw (.int .i64 (l.headD 0)) :: ih l.tail)) ps
def fillM (es : List (List UInt8 × Pt)) : List Int → List (List UInt8 × AV) := listRec (β := List Int → List (List UInt8 × AV)) (fun _ => []) (fun p _ ih l => ptOn p.2 (fun x => (p.1, x) :: ih l) ((p.1, .raw (.int .i64 (l.headD 0))) :: ih l.tail)) es
def fillX (p : PX) (l : List Int) : XL := PX.rec (motive := fun _ => XL) (fun ps => .cel (fill ps l)) (fun es => .mps (fillM es l)) p
def fillAll (hs : List (Nat × PX)) : List (List Int) → List (Nat × XL) := listRec (β := List (List Int) → List (Nat × XL)) (fun _ => []) (fun p _ ih v => (p.1, fillX p.2 (v.headD [])) :: ih v.tail) hs
def mt (ps : List Pt) (z : ρ) : List AV → (List Int → ρ) → ρ := listRec (β := List AV → (List Int → ρ) → ρ) (fun xs k => listOn xs (k []) (fun _ _ => z))
  (fun p _ ih xs k => listOn xs z (fun x xs => ptOn p (fun y => eqV deep x y (ih xs k) z) (asInt x (fun q i => ifb (sameK q .i64) (ih xs (fun l => k (i :: l))) z) z))) ps
def mtM (es : List (List UInt8 × Pt)) (z : ρ) : List (List UInt8 × AV) → (List Int → ρ) → ρ := listRec (β := List (List UInt8 × AV) → (List Int → ρ) → ρ) (fun xs k => listOn xs (k []) (fun _ _ => z))
  (fun p _ ih xs k => listOn xs z (fun x xs => ifb (strEq x.1 p.1) (ptOn p.2 (fun y => eqV deep x.2 y (ih xs k) z) (asInt x.2 (fun q i => ifb (sameK q .i64) (ih xs (fun l => k (i :: l))) z) z)) z)) es
def mtX (H : T XO) (o : Nat) (p : PX) (z : ρ) (k : List Int → ρ) : ρ := PX.rec (motive := fun _ => ρ) (fun ps => atCel H o (fun n t => mt ps z (t.seg .unk 0 n) k) z) (fun es => atMps H o (fun es' => mtM es z es' k) z) p
def mtAll (H : T XO) (hs : List (Nat × PX)) (z : ρ) : (List (List Int) → ρ) → ρ := listRec (β := (List (List Int) → ρ) → ρ) (fun k => k []) (fun p _ ih k => mtX H p.1 p.2 z (fun l => ih (fun v => k (l :: v)))) hs
def sTpl (L : Tpl) (z : ρ) : SumF ρ := fun args H a k => eqN a L.a (eqVL args L.args (hasAll H L.keep (mtAll H L.holes z (fun v => k (L.x v) (putAll H (L.outs v)) L.b)) z) z) z
def sTpls (l : List Tpl) (z : ρ) : SumF ρ := fun args H a k => listRec (β := ρ) z (fun L _ ih => ifb (Nat.beq a L.a) (sTpl L z args H a k) ih) l
end
end
structure TplOk (P : Program) (f : FuncId) (L : Tpl) : Prop where
  ok : ∀ v, LitOk P f ⟨L.args, L.keep ++ fillAll L.holes v, L.a, L.x v, L.keep ++ L.outs v, L.b⟩
  cov : ∀ v, L.holes.all (fun p => (L.outs v).any (fun q => Nat.beq q.1 p.1)) = true
  apart : ∀ v, L.keep.all (fun p => (L.outs v).all (fun q => !Nat.beq q.1 p.1)) = true
section
variable {ρ : Type} {Good : ρ → Prop} {z : ρ}
theorem ptOn_v {α : Type} (x : AV) (f : AV → α) (g : α) : ptOn (.v x) f g = f x := rfl
theorem ptOn_h {α : Type} (f : AV → α) (g : α) : ptOn .h f g = g := rfl
theorem mt_cases : ∀ {ps : List Pt} {xs : List AV} {k : List Int → ρ}, Good (mt ps z xs k) → (∃ l, xs = fill ps l ∧ Good (k l)) ∨ Good z
  | [], xs, k, h => by
    rcases listOn_cases (l := xs) (z := k []) (s := fun _ _ => z) h with ⟨e1, h⟩ | ⟨_, _, _, h⟩
    · exact .inl ⟨[], e1, h⟩
    · exact .inr h
  | .v y :: ps, xs, k, h => by
    rcases listOn_cases (l := xs) (z := z) (s := fun x xs => eqV deep x y (mt ps z xs k) z) h with ⟨_, h⟩ | ⟨x, l, e0, h⟩
    · exact .inr h
    · rcases eqV_cases deep h with ⟨e1, h⟩ | h
      · rcases mt_cases h with ⟨l', e2, h⟩ | h
        · exact .inl ⟨l', by rw [e0, e1, e2]; rfl, h⟩
        · exact .inr h
      · exact .inr h
  | .h :: ps, xs, k, h => by
    rcases listOn_cases (l := xs) (z := z) (s := fun x xs => asInt x (fun q i => ifb (sameK q .i64) (mt ps z xs (fun l => k (i :: l))) z) z) h with ⟨_, h⟩ | ⟨x, l, e0, h⟩
    · exact .inr h
    · rcases asInt_cases h with ⟨q, i, e1, h⟩ | h
      · rcases ifb_cases h with ⟨h1, h⟩ | ⟨_, h⟩
        · have h1 : q = .i64 := of_decide_eq_true h1
          rcases mt_cases h with ⟨l', e2, h⟩ | h
          · exact .inl ⟨i :: l', by rw [e0, e1, e2, h1]; rfl, h⟩
          · exact .inr h
        · exact .inr h
      · exact .inr h
theorem mtM_cases : ∀ {es : List (List UInt8 × Pt)} {xs : List (List UInt8 × AV)} {k : List Int → ρ}, Good (mtM es z xs k) → (∃ l, xs = fillM es l ∧ Good (k l)) ∨ Good z
  | [], xs, k, h => by
    rcases listOn_cases (l := xs) (z := k []) (s := fun _ _ => z) h with ⟨e1, h⟩ | ⟨_, _, _, h⟩
    · exact .inl ⟨[], e1, h⟩
    · exact .inr h
  | (s, .v y) :: ps, xs, k, h => by
    rcases listOn_cases (l := xs) (z := z) (s := fun x xs => ifb (strEq x.1 s) (eqV deep x.2 y (mtM ps z xs k) z) z) h with ⟨_, h⟩ | ⟨x, l, e0, h⟩
    · exact .inr h
    · rcases ifb_cases h with ⟨h1, h⟩ | ⟨_, h⟩
      · rw [strEq_spec] at h1
        have h1 := of_decide_eq_true h1
        rcases eqV_cases deep h with ⟨e1, h⟩ | h
        · rcases mtM_cases h with ⟨l', e2, h⟩ | h
          · exact .inl ⟨l', by rw [e0, e2, show x = (s, y) from Prod.ext h1 e1]; rfl, h⟩
          · exact .inr h
        · exact .inr h
      · exact .inr h
  | (s, .h) :: ps, xs, k, h => by
    rcases listOn_cases (l := xs) (z := z) (s := fun x xs => ifb (strEq x.1 s) (asInt x.2 (fun q i => ifb (sameK q .i64) (mtM ps z xs (fun l => k (i :: l))) z) z) z) h with ⟨_, h⟩ | ⟨x, l, e0, h⟩
    · exact .inr h
    · rcases ifb_cases h with ⟨h0, h⟩ | ⟨_, h⟩
      · rw [strEq_spec] at h0
        have h0 := of_decide_eq_true h0
        rcases asInt_cases h with ⟨q, i, e1, h⟩ | h
        · rcases ifb_cases h with ⟨h1, h⟩ | ⟨_, h⟩
          · have h1 : q = .i64 := of_decide_eq_true h1
            rcases mtM_cases h with ⟨l', e2, h⟩ | h
            · refine .inl ⟨i :: l', ?_, h⟩
              rw [e0, e2, show x = (s, .raw (.int .i64 i)) from Prod.ext h0 (by rw [e1, h1])]; rfl
            · exact .inr h
          · exact .inr h
        · exact .inr h
      · exact .inr h
theorem mtX_cases {H : T XO} {o : Nat} {p : PX} {k : List Int → ρ} (h : Good (mtX H o p z k)) : (∃ l, hof H o = some (fillX p l).xo.ao ∧ Good (k l)) ∨ Good z := by
  cases p with
  | cel ps =>
    rcases atCel_cases h with ⟨n, t, hH, h⟩ | h
    · rcases mt_cases h with ⟨l, e, h⟩ | h
      · refine .inl ⟨l, ?_, h⟩
        rw [hof_get hH]
        show some (AO.cel (t.seg .unk 0 n)) = some (cel (fill ps l)).ao
        rw [cel_ao, e]
      · exact .inr h
    · exact .inr h
  | mps es =>
    rcases atMps_cases h with ⟨es', hH, h⟩ | h
    · rcases mtM_cases h with ⟨l, e, h⟩ | h
      · refine .inl ⟨l, ?_, h⟩
        unfold hof; rw [hH, e]; rfl
      · exact .inr h
    · exact .inr h
theorem mtAll_cases {H : T XO} : ∀ {hs : List (Nat × PX)} {k : List (List Int) → ρ}, Good (mtAll H hs z k) → (∃ v, (∀ q ∈ fillAll hs v, hof H q.1 = some q.2.xo.ao) ∧ Good (k v)) ∨ Good z
  | [], k, h => .inl ⟨[], (fun q hq => by cases hq), h⟩
  | p :: hs, k, h => by
    rcases mtX_cases (k := fun l => mtAll H hs z (fun v => k (l :: v))) h with ⟨l, e1, h⟩ | h
    · rcases mtAll_cases h with ⟨v, e2, h⟩ | h
      · refine .inl ⟨l :: v, fun q hq => ?_, h⟩
        have hq : q ∈ (p.1, fillX p.2 l) :: fillAll hs v := hq
        rcases List.mem_cons.1 hq with rfl | hq
        · exact e1
        · exact e2 q hq
      · exact .inr h
    · exact .inr h
theorem fillAll_names : ∀ (hs : List (Nat × PX)) (v : List (List Int)), ∀ q ∈ fillAll hs v, ∃ p ∈ hs, p.1 = q.1
  | [], v, q, hq => by cases hq
  | p :: hs, v, q, hq => by
    have hq : q ∈ (p.1, fillX p.2 (v.headD [])) :: fillAll hs v.tail := hq
    rcases List.mem_cons.1 hq with rfl | hq
    · exact ⟨p, by simp, rfl⟩
    · obtain ⟨r, hr, e⟩ := fillAll_names hs _ q hq
      exact ⟨r, by simp [hr], e⟩
theorem putAll_append (l l' : List (Nat × XL)) (H : T XO) : putAll H (l ++ l') = putAll (putAll H l) l' := by
  induction l generalizing H with
  | nil => rfl
  | cons q l ih => exact ih (H.put q.1 q.2.xo)
theorem tpl_ok {P : Program} {f : FuncId} (hz : ¬ Good z) {L : Tpl} (hL : TplOk P f L) (hF : FuncT P f) {args : List AV} {H : T XO} {a : Nat} {k : K ρ} (h : Good (sTpl L z args H a k)) : ∃ x H' b, FuncT P f ∧ CallS P f args H a x H' b ∧ Good (k x H' b) := by
  rcases eqN_cases h with ⟨ha, h⟩ | h
  rotate_left
  · exact absurd h hz
  rcases eqVL_cases h with ⟨hargs, h⟩ | h
  rotate_left
  · exact absurd h hz
  rcases hasAll_cases h with ⟨hkeep, h⟩ | h
  rotate_left
  · exact absurd h hz
  rcases mtAll_cases h with ⟨v, hholes, h⟩ | h
  rotate_left
  · exact absurd h hz
  refine ⟨_, _, _, hF, ?_, h⟩
  rw [ha, hargs]
  have hcov : ∀ q ∈ fillAll L.holes v, ∃ r ∈ L.outs v, r.1 = q.1 := fun q hq => by
    obtain ⟨p, hp, e⟩ := fillAll_names _ _ q hq
    have := List.all_eq_true.1 (hL.cov v) p hp
    obtain ⟨r, hr, h⟩ := List.any_eq_true.1 this
    exact ⟨r, hr, (Nat.eq_of_beq_eq_true h).trans e⟩
  have hap : ∀ q ∈ L.keep, ∀ r ∈ L.outs v, r.1 ≠ q.1 := fun q hq r hr e => by
    have := List.all_eq_true.1 (List.all_eq_true.1 (hL.apart v) q hq) r hr
    rw [e, Nat.beq_refl] at this; cases this
  have hin : ∀ q ∈ L.keep ++ fillAll L.holes v, hof H q.1 = some q.2.xo.ao := fun q hq => by
    rcases List.mem_append.1 hq with hq | hq
    · exact hkeep q hq
    · exact hholes q hq
  have hout : ∀ {p : Nat} {A B : T XO}, (∃ q ∈ L.outs v, q.1 = p) → hof (putAll A (L.outs v)) p = hof (putAll B (L.outs v)) p := fun {p A B} h => by
    unfold hof; rw [(putAll_in (L.outs v) A B p h).1]
  have hoff : ∀ {p : Nat} {A : T XO}, ¬ (∃ q ∈ L.outs v, q.1 = p) → hof (putAll A (L.outs v)) p = hof A p := fun {p A} h => by
    unfold hof; rw [putAll_not (L.outs v) A p fun q hq e => h ⟨q, hq, e⟩]
  refine (hL.ok v).frame (fun p y hy => ?_) (fun p y hy => ?_) (fun p h1 h2 => ?_) (fun p h1 h2 => ?_)
  · obtain ⟨q, hq, e1, e2⟩ := putAll_some hy
    rw [← e1, hin q hq, e2]
  · have hy : hof (putAll .nil (L.keep ++ L.outs v)) p = some y := hy
    rw [putAll_append] at hy
    by_cases ho : ∃ q ∈ L.outs v, q.1 = p
    · rw [hout ho (B := putAll .nil L.keep)]; exact hy
    · rw [hoff ho] at hy ⊢
      obtain ⟨q, hq, e1, e2⟩ := putAll_some hy
      rw [← e1, hkeep q hq, e2]
  · have h1 : hof (putAll .nil (L.keep ++ L.outs v)) p = none := h1
    obtain ⟨y, hy⟩ := Option.isSome_iff_exists.1 h2
    obtain ⟨q, hq, e1, _⟩ := putAll_some hy
    exfalso
    rcases List.mem_append.1 hq with hq | hq
    · rw [putAll_append, hoff (fun ⟨r, hr, e⟩ => hap q hq r hr (e.trans e1.symm))] at h1
      obtain ⟨_, r, hr, _, e3⟩ := putAll_in L.keep .nil .nil p ⟨q, hq, e1⟩
      unfold hof at h1
      rw [e3] at h1; cases h1
    · obtain ⟨r, hr, e⟩ := hcov q hq
      rw [putAll_append] at h1
      obtain ⟨_, r', _, _, e3⟩ := putAll_in (L.outs v) (putAll .nil L.keep) .nil p ⟨r, hr, e.trans e1⟩
      unfold hof at h1
      rw [e3] at h1; cases h1
  · have h1 : hof (putAll .nil (L.keep ++ L.outs v)) p = none := h1
    refine hoff fun ho => ?_
    obtain ⟨q, hq, e⟩ := ho
    rw [putAll_append] at h1
    obtain ⟨_, r', _, _, e3⟩ := putAll_in (L.outs v) (putAll .nil L.keep) .nil p ⟨q, hq, e⟩
    unfold hof at h1
    rw [e3] at h1; cases h1
theorem tpls_ok {P : Program} {f : FuncId} (hz : ¬ Good z) (hF : FuncT P f) : ∀ {l : List Tpl}, (∀ L ∈ l, TplOk P f L) → ∀ {args : List AV} {H : T XO} {a : Nat} {k : K ρ}, Good (sTpls l z args H a k) → ∃ x H' b, FuncT P f ∧ CallS P f args H a x H' b ∧ Good (k x H' b)
  | [], _, args, H, a, k, h => absurd h hz
  | L :: l, hl, args, H, a, k, h => by
    rcases ifb_cases (x := sTpl L z args H a k) (y := sTpls l z args H a k) h with ⟨_, h⟩ | ⟨_, h⟩
    · exact tpl_ok hz (hl L (by simp)) hF h
    · exact tpls_ok hz hF (fun L' hL' => hl L' (by simp [hL'])) h
end
noncomputable def viewY (H : T XO) (o : Nat) : Option XL := onSome (H.get o) (fun x => xCel x (fun n t => some (.cel (t.seg .unk 0 n))) (xMps x (fun es => some (.mps es)) none)) none
noncomputable def viewYs (H : T XO) (l : List Nat) : List (Option XL) := listRec (β := List (Option XL)) [] (fun o _ ih => viewY H o :: ih) l
abbrev Oy := Option (AV × List (Option XL) × Bool)
noncomputable def kOy (names : List Nat) (most : Nat) : Go.Ex.K Oy := fun x H b => some (x, viewYs H names, Nat.ble b most)
theorem xMps_cases {ρ : Type} {Good : ρ → Prop} {x : XO} {f : List (List UInt8 × AV) → ρ} {z : ρ} (h : Good (xMps x f z)) : (∃ es, x = .mps es ∧ Good (f es)) ∨ Good z := by
  cases x with
  | mps es => exact .inl ⟨es, rfl, h⟩
  | _ => exact .inr h
theorem viewY_some {H : T XO} {o : Nat} {l : XL} (h : viewY H o = some l) : hof H o = some l.xo.ao := by
  have h1 : (fun r : Option XL => r = some l) (onSome (H.get o) (fun x => xCel x (fun n t => some (.cel (t.seg .unk 0 n))) (xMps x (fun es => some (.mps es)) none)) none) := h
  rcases onSome_cases (Good := fun r : Option XL => r = some l) h1 with ⟨x, hx, h2⟩ | ⟨_, h2⟩
  · rcases xCel_cases (Good := fun r : Option XL => r = some l) h2 with ⟨n, t, rfl, h3⟩ | h3
    · rw [hof_get hx]
      have h3 : some (XL.cel (t.seg .unk 0 n)) = some l := h3
      cases h3
      show some (AO.cel (t.seg .unk 0 n)) = some (cel (t.seg .unk 0 n)).ao
      rw [cel_ao]
    · rcases xMps_cases (Good := fun r : Option XL => r = some l) h3 with ⟨es, rfl, h4⟩ | h4
      · have h4 : some (XL.mps es) = some l := h4
        cases h4
        unfold hof; rw [hx]; rfl
      · cases h4
  · cases h2
theorem viewYs_some {H : T XO} : ∀ {l : List (Nat × XL)}, viewYs H (l.map (·.1)) = l.map (fun p => some p.2) → ∀ p ∈ l, hof H p.1 = some p.2.xo.ao
  | [], _, p, hp => by cases hp
  | q :: l, h, p, hp => by
    have h : viewY H q.1 :: viewYs H (l.map (·.1)) = some q.2 :: l.map (fun p => some p.2) := h
    injection h with h1 h2
    rcases List.mem_cons.1 hp with rfl | hp
    · exact viewY_some h1
    · exact viewYs_some h2 p hp
def oyG (x : AV) (outs : List (Nat × XL)) (r : Oy) : Prop := r = some (x, outs.map (fun p => some p.2), true)
theorem oyG_none (x : AV) (outs : List (Nat × XL)) : ¬ oyG x outs none := fun h => by cases h
theorem symY_ok {P : Program} {f : FuncId} {call : CallF Oy} {args : List AV} {ins : List (Nat × XL)} {a b0 : Nat} {x0 : AV} {outs : List (Nat × XL)} (hc : CallOkB (oyG x0 outs) P call)
    (h : call f args (putAll .nil ins) a (kOy (outs.map (fun p => p.1)) b0) = some (x0, outs.map (fun p => some p.2), true)) : LitOk P f ⟨args, ins, a, x0, outs, b0⟩ := by
  obtain ⟨x, H', b, hF, hcs, h⟩ := hc _ _ _ _ _ h
  have h : some (x, viewYs H' (outs.map (fun p => p.1)), Nat.ble b b0) = some (x0, outs.map (fun p => some p.2), true) := h
  injection h with h
  injection h with h1 h
  injection h with h2 h3
  rw [h1] at hcs
  refine (hcs.more (Nat.le_of_ble_eq_true h3)).part fun p y hy => ?_
  obtain ⟨q, hq, e1, e2⟩ := putAll_some hy
  rw [← e1, viewYs_some h2 q hq, e2]
end Go.Ex
