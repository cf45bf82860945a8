/-
  Calls that are written down, and the environment of the program.
-/
import Derived.Test.YtaabpahemponkaaGreatDoorExH
import Derived.Test.YtaabpahemponkaaGreatDoorExI
set_option linter.unusedVariables false
set_option linter.unusedSimpArgs false
namespace Go.Ex
open Go Go.Am
inductive XL where
  | cel (xs : List AV)
  | mps (es : List (List UInt8 × AV))
  | mpi (k : IntKind) (es : List (Int × AV))
  | tcl (t : Nat) (ex : Bool) (xs : List AV)
structure Lit where
  args : List AV
  ins : List (Nat × XL)
  a : Nat
  x : AV
  outs : List (Nat × XL)
  b : Nat
noncomputable section
section
variable {ρ : Type}
def eqVl (e : AV → AV → ρ → ρ → ρ) (xs xs' : List AV) (y z : ρ) : ρ := listRec (β := List AV → ρ) (fun l => listOn l y (fun _ _ => z)) (fun x _ ih l => listOn l z (fun x' l => e x x' (ih l) z)) xs xs'
def eqVs (e : AV → AV → ρ → ρ → ρ) (x x' : AV) (y z : ρ) : ρ :=
  asSls x (fun n xs => asSls x' (fun n' xs' => eqN n n' (eqVl e xs xs' y z) z) z)
  (asSlsx x (fun n xs => asSlsx x' (fun n' xs' => eqN n n' (eqVl e xs xs' y z) z) z)
  (asAgg x (fun xs => asAgg x' (fun xs' => eqVl e xs xs' y z) z)
  (asTup x (fun xs => asTup x' (fun xs' => eqVl e xs xs' y z) z)
  (asFnc x (fun f a b => asFnc x' (fun f' a' b' => eqN f f' (eqVl e a a' (eqVl e b b' y z) z) z) z) (eq0 x x' y z)))))
def eqV (d : Nat) : AV → AV → ρ → ρ → ρ := iter (β := AV → AV → ρ → ρ → ρ) d (fun x x' y z => eq0 x x' y z) (fun ih => eqVs ih)
def deep : Nat := 5
def eqVL (xs xs' : List AV) (y z : ρ) : ρ := eqVl (eqV deep) xs xs' y z
def eqS (es es' : List (List UInt8 × AV)) (y z : ρ) : ρ := listRec (β := List (List UInt8 × AV) → ρ) (fun l => listOn l y (fun _ _ => z)) (fun p _ ih l => listOn l z (fun p' l => ifb (strEq p.1 p'.1) (eqV deep p.2 p'.2 (ih l) z) z)) es es'
def eqI (es es' : List (Int × AV)) (y z : ρ) : ρ := listRec (β := List (Int × AV) → ρ) (fun l => listOn l y (fun _ _ => z)) (fun p _ ih l => listOn l z (fun p' l => ifb (decide (p.1 = p'.1)) (eqV deep p.2 p'.2 (ih l) z) z)) es es'
def hasL (H : T XO) (o : Nat) (l : XL) (y z : ρ) : ρ := XL.rec (motive := fun _ => ρ)
  (fun xs => atCel H o (fun n t => eqVL (t.seg .unk 0 n) xs y z) z)
  (fun es => atMps H o (fun es' => eqS es' es y z) z)
  (fun k es => atMpi H o (fun k' es' => ifb (sameK k' k) (eqI es' es y z) z) z)
  (fun t ex xs => atTcl H o (fun t' ex' xs' => eqN t' t (ifb (eqB ex' ex) (eqVL xs' xs y z) z) z) z) l
def XL.xo (l : XL) : XO := XL.rec (motive := fun _ => XO) (fun xs => Go.Ex.cel xs) (fun es => .mps es) (fun k es => .mpi k es) (fun t ex xs => .tcl t ex xs) l
def hasAll (H : T XO) (l : List (Nat × XL)) (y z : ρ) : ρ := listRec (β := ρ) y (fun p _ ih => hasL H p.1 p.2 ih z) l
def delAll (H : T XO) (l : List (Nat × XL)) : T XO := listRec (β := T XO → T XO) (fun H => H) (fun p _ ih H => ih (H.del p.1)) l H
def putAll (H : T XO) (l : List (Nat × XL)) : T XO := listRec (β := T XO → T XO) (fun H => H) (fun p _ ih H => ih (H.put p.1 p.2.xo)) l H
def sLit (L : Lit) (z : ρ) : SumF ρ := fun args H a k => eqN a L.a (eqVL args L.args (hasAll H L.ins (k L.x (putAll (delAll H L.ins) L.outs) L.b) z) z) z
def sLits (l : List Lit) (z : ρ) : SumF ρ := fun args H a k => listRec (β := ρ) z (fun L _ ih => ifb (Nat.beq a L.a) (sLit L z args H a k) ih) l
def chk (L : Lit) (y z : ρ) : K ρ := fun x H b => eqN b L.b (eqVl (eqV deep) [x] [L.x] (hasAll H L.outs y z) z) z
end
section
variable {ρ : Type} {Good : ρ → Prop} {z : ρ}
theorem eqVl_cases {e : AV → AV → ρ → ρ → ρ} (he : ∀ {x x' : AV} {y : ρ}, Good (e x x' y z) → (x = x' ∧ Good y) ∨ Good z) {y : ρ} : ∀ {xs xs' : List AV}, Good (eqVl e xs xs' y z) → (xs = xs' ∧ Good y) ∨ Good z
  | [], xs', h => by
    rcases listOn_cases (l := xs') (z := y) (s := fun _ _ => z) h with ⟨e1, h⟩ | ⟨_, _, _, h⟩
    · exact .inl ⟨e1.symm, h⟩
    · exact .inr h
  | x :: xs, xs', h => by
    rcases listOn_cases (l := xs') (z := z) (s := fun x' l => e x x' (eqVl e xs l y z) z) h with ⟨_, h⟩ | ⟨x', l, e0, h⟩
    · exact .inr h
    · rcases he h with ⟨e1, h⟩ | h
      · rcases eqVl_cases he h with ⟨e2, h⟩ | h
        · exact .inl ⟨by rw [e0, e1, e2], h⟩
        · exact .inr h
      · exact .inr h
theorem eqVs_cases {e : AV → AV → ρ → ρ → ρ} (he : ∀ {x x' : AV} {y : ρ}, Good (e x x' y z) → (x = x' ∧ Good y) ∨ Good z) {x x' : AV} {y : ρ} (h : Good (eqVs e x x' y z)) : (x = x' ∧ Good y) ∨ Good z := by
  rcases asSls_cases h with ⟨m, xs, hx, h⟩ | h
  · rcases asSls_cases h with ⟨m', xs', hx', h⟩ | h
    · rcases eqN_cases h with ⟨e1, h⟩ | h
      · rcases eqVl_cases he h with ⟨e2, h⟩ | h
        · exact .inl ⟨by rw [hx, hx', e1, e2], h⟩
        · exact .inr h
      · exact .inr h
    · exact .inr h
  rcases asSlsx_cases h with ⟨m, xs, hx, h⟩ | h
  · rcases asSlsx_cases h with ⟨m', xs', hx', h⟩ | h
    · rcases eqN_cases h with ⟨e1, h⟩ | h
      · rcases eqVl_cases he h with ⟨e2, h⟩ | h
        · exact .inl ⟨by rw [hx, hx', e1, e2], h⟩
        · exact .inr h
      · exact .inr h
    · exact .inr h
  rcases asAgg_cases h with ⟨xs, hx, h⟩ | h
  · rcases asAgg_cases h with ⟨xs', hx', h⟩ | h
    · rcases eqVl_cases he h with ⟨e2, h⟩ | h
      · exact .inl ⟨by rw [hx, hx', e2], h⟩
      · exact .inr h
    · exact .inr h
  rcases asTup_cases h with ⟨xs, hx, h⟩ | h
  · rcases asTup_cases h with ⟨xs', hx', h⟩ | h
    · rcases eqVl_cases he h with ⟨e2, h⟩ | h
      · exact .inl ⟨by rw [hx, hx', e2], h⟩
      · exact .inr h
    · exact .inr h
  rcases asFnc_cases h with ⟨f, u, v, hx, h⟩ | h
  · rcases asFnc_cases h with ⟨f', u', v', hx', h⟩ | h
    · rcases eqN_cases h with ⟨e1, h⟩ | h
      · rcases eqVl_cases he h with ⟨e2, h⟩ | h
        · rcases eqVl_cases he h with ⟨e3, h⟩ | h
          · exact .inl ⟨by rw [hx, hx', e1, e2, e3], h⟩
          · exact .inr h
        · exact .inr h
      · exact .inr h
    · exact .inr h
  exact eq0_cases h
theorem eqV_cases : ∀ (d : Nat) {x x' : AV} {y : ρ}, Good (eqV d x x' y z) → (x = x' ∧ Good y) ∨ Good z
  | 0, x, x', y, h => eq0_cases h
  | d + 1, x, x', y, h => eqVs_cases (e := eqV d) (fun {x x' y} hh => eqV_cases d (x := x) (x' := x') (y := y) hh) h
theorem eqVL_cases {xs xs' : List AV} {y : ρ} (h : Good (eqVL xs xs' y z)) : (xs = xs' ∧ Good y) ∨ Good z := eqVl_cases (fun h => eqV_cases deep h) h
theorem eqS_cases {y : ρ} : ∀ {es es' : List (List UInt8 × AV)}, Good (eqS es es' y z) → (es = es' ∧ Good y) ∨ Good z
  | [], es', h => by
    rcases listOn_cases (l := es') (z := y) (s := fun _ _ => z) h with ⟨e1, h⟩ | ⟨_, _, _, h⟩
    · exact .inl ⟨e1.symm, h⟩
    · exact .inr h
  | p :: es, es', h => by
    rcases listOn_cases (l := es') (z := z) (s := fun p' l => ifb (strEq p.1 p'.1) (eqV deep p.2 p'.2 (eqS es l y z) z) z) h with ⟨_, h⟩ | ⟨p', l, e0, h⟩
    · exact .inr h
    · rcases ifb_cases h with ⟨h1, h⟩ | ⟨_, h⟩
      · rw [strEq_spec] at h1
        have h1 := of_decide_eq_true h1
        rcases eqV_cases deep h with ⟨e1, h⟩ | h
        · rcases eqS_cases h with ⟨e2, h⟩ | h
          · exact .inl ⟨by rw [e0, e2, show p = p' from Prod.ext h1 e1], h⟩
          · exact .inr h
        · exact .inr h
      · exact .inr h
theorem eqI_cases {y : ρ} : ∀ {es es' : List (Int × AV)}, Good (eqI es es' y z) → (es = es' ∧ Good y) ∨ Good z
  | [], es', h => by
    rcases listOn_cases (l := es') (z := y) (s := fun _ _ => z) h with ⟨e1, h⟩ | ⟨_, _, _, h⟩
    · exact .inl ⟨e1.symm, h⟩
    · exact .inr h
  | p :: es, es', h => by
    rcases listOn_cases (l := es') (z := z) (s := fun p' l => ifb (decide (p.1 = p'.1)) (eqV deep p.2 p'.2 (eqI es l y z) z) z) h with ⟨_, h⟩ | ⟨p', l, e0, h⟩
    · exact .inr h
    · rcases ifb_cases h with ⟨h1, h⟩ | ⟨_, h⟩
      · have h1 := of_decide_eq_true h1
        rcases eqV_cases deep h with ⟨e1, h⟩ | h
        · rcases eqI_cases h with ⟨e2, h⟩ | h
          · exact .inl ⟨by rw [e0, e2, show p = p' from Prod.ext h1 e1], h⟩
          · exact .inr h
        · exact .inr h
      · exact .inr h
theorem seg_self (xs : List AV) : (T.putL .nil 0 xs).seg .unk 0 xs.length = xs := by
  have := cel_ao xs
  unfold cel at this
  have h : AO.cel ((T.putL .nil 0 xs).seg .unk 0 xs.length) = .cel xs := this
  simpa using h
theorem hasL_cases {H : T XO} {o : Nat} {l : XL} {y : ρ} (h : Good (hasL H o l y z)) : (hof H o = some l.xo.ao ∧ Good y) ∨ Good z := by
  cases l with
  | cel xs =>
    rcases atCel_cases h with ⟨n, t, hH, h⟩ | h
    · rcases eqVL_cases h with ⟨e, h⟩ | h
      · refine .inl ⟨?_, h⟩
        rw [hof_get hH]
        show some (AO.cel (t.seg .unk 0 n)) = some (cel xs).ao
        rw [cel_ao, e]
      · exact .inr h
    · exact .inr h
  | mps es =>
    rcases atMps_cases h with ⟨es', hH, h⟩ | h
    · rcases eqS_cases h with ⟨e, h⟩ | h
      · refine .inl ⟨?_, h⟩
        unfold hof; rw [hH, e]; rfl
      · exact .inr h
    · exact .inr h
  | mpi k es =>
    rcases atMpi_cases h with ⟨k', es', hH, h⟩ | h
    · rcases ifb_cases h with ⟨h1, h⟩ | ⟨_, h⟩
      · have h1 : k' = k := by simpa [sameK] using h1
        rcases eqI_cases h with ⟨e, h⟩ | h
        · refine .inl ⟨?_, h⟩
          unfold hof; rw [hH, e, h1]; rfl
        · exact .inr h
      · exact .inr h
    · exact .inr h
  | tcl t ex xs =>
    rcases atTcl_cases h with ⟨t', ex', xs', hH, h⟩ | h
    · rcases eqN_cases h with ⟨e1, h⟩ | h
      · rcases ifb_cases h with ⟨h1, h⟩ | ⟨_, h⟩
        · have h1 : ex' = ex := by revert h1; cases ex' <;> cases ex <;> decide
          rcases eqVL_cases h with ⟨e, h⟩ | h
          · refine .inl ⟨?_, h⟩
            unfold hof; rw [hH, e, h1, e1]; rfl
          · exact .inr h
        · exact .inr h
      · exact .inr h
    · exact .inr h
theorem hasAll_cases {H : T XO} {y : ρ} : ∀ {l : List (Nat × XL)}, Good (hasAll H l y z) → ((∀ p ∈ l, hof H p.1 = some p.2.xo.ao) ∧ Good y) ∨ Good z
  | [], h => .inl ⟨fun p hp => (by cases hp), h⟩
  | p :: l, h => by
    rcases hasL_cases (y := hasAll H l y z) h with ⟨h1, h⟩ | h
    · rcases hasAll_cases h with ⟨h2, h⟩ | h
      · refine .inl ⟨fun q hq => ?_, h⟩
        rcases List.mem_cons.1 hq with rfl | hq
        · exact h1
        · exact h2 q hq
      · exact .inr h
    · exact .inr h
end
theorem delAll_get : ∀ (l : List (Nat × XL)) (H : T XO) (p : Nat), (delAll H l).get p = if ∃ q ∈ l, q.1 = p then none else H.get p
  | [], H, p => by simp [delAll, listRec]
  | q :: l, H, p => by
    show (delAll (H.del q.1) l).get p = _
    rw [delAll_get l, get_del]
    by_cases h1 : ∃ r ∈ l, r.1 = p
    · rw [if_pos h1, if_pos]
      obtain ⟨r, hr, e⟩ := h1
      exact ⟨r, by simp [hr], e⟩
    · rw [if_neg h1]
      by_cases h2 : p = q.1
      · rw [if_pos h2, if_pos ⟨q, by simp, h2.symm⟩]
      · rw [if_neg h2, if_neg]
        rintro ⟨r, hr, e⟩
        rcases List.mem_cons.1 hr with rfl | hr
        · exact h2 e.symm
        · exact h1 ⟨r, hr, e⟩
theorem putAll_not : ∀ (l : List (Nat × XL)) (H : T XO) (p : Nat), (∀ q ∈ l, q.1 ≠ p) → (putAll H l).get p = H.get p
  | [], H, p, _ => rfl
  | q :: l, H, p, h => by
    show (putAll (H.put q.1 q.2.xo) l).get p = _
    rw [putAll_not l _ p fun r hr => h r (by simp [hr]), get_put, if_neg (fun e => h q (by simp) e.symm)]
theorem putAll_in : ∀ (l : List (Nat × XL)) (H H' : T XO) (p : Nat), (∃ q ∈ l, q.1 = p) → (putAll H l).get p = (putAll H' l).get p ∧ ∃ q ∈ l, q.1 = p ∧ (putAll H l).get p = some q.2.xo
  | [], H, H', p, h => by obtain ⟨q, hq, _⟩ := h; cases hq
  | q :: l, H, H', p, h => by
    show (putAll (H.put q.1 q.2.xo) l).get p = (putAll (H'.put q.1 q.2.xo) l).get p ∧ ∃ r ∈ q :: l, r.1 = p ∧ (putAll (H.put q.1 q.2.xo) l).get p = some r.2.xo
    by_cases h1 : ∃ r ∈ l, r.1 = p
    · obtain ⟨e, r, hr, e1, e2⟩ := putAll_in l (H.put q.1 q.2.xo) (H'.put q.1 q.2.xo) p h1
      exact ⟨e, r, by simp [hr], e1, e2⟩
    · have hn : ∀ r ∈ l, r.1 ≠ p := fun r hr e => h1 ⟨r, hr, e⟩
      obtain ⟨r, hr, e⟩ := h
      rcases List.mem_cons.1 hr with rfl | hr
      · rw [putAll_not l _ p hn, putAll_not l _ p hn, get_put, get_put, if_pos e.symm, if_pos e.symm]
        exact ⟨rfl, r, by simp, e, rfl⟩
      · exact absurd e (hn r hr)
section
variable {P : Program} {f : FuncId}
theorem sim_part {g : Gh} {A B : AHeap} {w : World} (h : Sim g A w) (hs : ∀ p x, B p = some x → A p = some x) : Sim g B w := by
  refine ⟨h.os, h.tape, h.output, h.sealed, fun o x ho => h.objs o x (hs o x ho), fun o1 o2 x1 x2 l1 l2 h1 h2 => h.inj o1 o2 x1 x2 l1 l2 (hs _ _ h1) (hs _ _ h2), fun o x l ho => h.apart o x l (hs o x ho), ?_⟩
  obtain ⟨N, hN⟩ := h.fin
  refine ⟨N, fun o ho => ⟨?_, (hN o ho).2⟩⟩
  rcases Option.eq_none_or_eq_some (B o) with hb | ⟨x, hb⟩
  · exact hb
  · have := hs o x hb; rw [(hN o ho).1] at this; cases this
theorem CallS.part {args : List AV} {H H' H'' : T XO} {a b : Nat} {x : AV} (h : CallS P f args H a x H' b) (hs : ∀ p y, hof H'' p = some y → hof H' p = some y) : CallS P f args H a x H'' b := by
  obtain ⟨h1, h2, h3⟩ := h
  refine ⟨h1, fun p hp => ?_, fun F g w vals hd hr hsim hf => (h3 F g w vals hd hr hsim hf).mono ?_⟩
  · obtain ⟨y, hy⟩ := Option.isSome_iff_exists.1 hp
    exact h2 p (by rw [hs p y hy]; rfl)
  · rintro e w' ⟨v, g', rfl, he, hx, hs'⟩
    refine ⟨v, g', rfl, he, hx, sim_part hs' fun p y hp => ?_⟩
    simp only [join] at hp ⊢
    cases hq : hof H'' p with
    | some u => rw [hq] at hp; rw [hs p u hq]; exact hp
    | none =>
      rw [hq] at hp
      simp only at hp
      cases hq' : hof H' p with
      | none => exact hp
      | some u =>
        exfalso
        rcases h2 p (by rw [hq']; rfl) with h | h
        · obtain ⟨z, hz⟩ := Option.isSome_iff_exists.1 h
          rw [hd.h p z hz] at hp; cases hp
        · rw [hd.f p h.1 h.2] at hp; cases hp
theorem CallS.frame {args : List AV} {K K' H H' : T XO} {a b : Nat} {x : AV} (h : CallS P f args K a x K' b) (hK : ∀ p y, hof K p = some y → hof H p = some y)
    (h1 : ∀ p y, hof K' p = some y → hof H' p = some y) (h2 : ∀ p, hof K' p = none → (hof K p).isSome = true → hof H' p = none) (h3 : ∀ p, hof K' p = none → hof K p = none → hof H' p = hof H p) : CallS P f args H a x H' b := by
  obtain ⟨q1, q2, q3⟩ := h
  have hdom : Dom H H' a b := fun p hp => by
    cases hk' : hof K' p with
    | some y =>
      rcases q2 p (by rw [hk']; rfl) with h | h
      · obtain ⟨u, hu⟩ := Option.isSome_iff_exists.1 h
        exact .inl (by rw [hK p u hu]; rfl)
      · exact .inr h
    | none =>
      cases hk : hof K p with
      | some y => rw [h2 p hk' (by rw [hk]; rfl)] at hp; cases hp
      | none => rw [h3 p hk' hk] at hp; exact .inl hp
  refine ⟨q1, hdom, fun F g w vals hd hr hs hf => ?_⟩
  have hj : join (hof K) (beside K (join (hof H) F)) = join (hof H) F := join_beside fun p y hy => join_some (hK p y hy)
  refine (q3 (beside K (join (hof H) F)) g w vals ⟨fun p y hy => by simp [beside, hy], fun p e1 e2 => ?_, fun p e1 e2 => ?_⟩ hr (by rw [hj]; exact hs) hf).mono ?_
  · simp only [beside, join, hd.n p e1 e2, hd.f p e1 e2]
    split <;> rfl
  · rcases Option.eq_none_or_eq_some (hof K p) with h | ⟨y, h⟩
    · exact h
    · have := hK p y h; rw [hd.n p e1 e2] at this; cases this
  · rintro e w' ⟨v, g', rfl, he, hx, hs'⟩
    refine ⟨v, g', rfl, he, hx, ?_⟩
    have : join (hof H') F = join (hof K') (beside K (join (hof H) F)) := funext fun p => by
      simp only [join, beside]
      cases hk' : hof K' p with
      | some y => simp only [h1 p y hk']
      | none =>
        simp only
        cases hk : hof K p with
        | some y =>
          rw [h2 p hk' (by rw [hk]; rfl)]
          simp [hd.h p y (hK p y hk)]
        | none =>
          rw [h3 p hk' hk]
          simp
    rw [this]
    exact hs'
def LitOk (P : Program) (f : FuncId) (L : Lit) : Prop := CallS P f L.args (putAll .nil L.ins) L.a L.x (putAll .nil L.outs) L.b
variable {ρ : Type} {Good : ρ → Prop} {z : ρ}
theorem putAll_some {l : List (Nat × XL)} {p : Nat} {y : AO} (h : hof (putAll .nil l) p = some y) : ∃ q ∈ l, q.1 = p ∧ y = q.2.xo.ao := by
  by_cases hex : ∃ q ∈ l, q.1 = p
  · obtain ⟨_, q, hq, e1, e2⟩ := putAll_in l .nil .nil p hex
    refine ⟨q, hq, e1, ?_⟩
    unfold hof at h
    rw [e2] at h
    simpa using h.symm
  · unfold hof at h
    rw [putAll_not l .nil p fun q hq e => hex ⟨q, hq, e⟩] at h
    cases h
theorem lit_ok (hz : ¬ Good z) {L : Lit} (hL : LitOk P f L) (hF : FuncT P f) {args : List AV} {H : T XO} {a : Nat} {k : K ρ} (h : Good (sLit L z args H a k)) : ∃ x H' b, FuncT P f ∧ CallS P f args H a x H' b ∧ Good (k x H' b) := by
  rcases eqN_cases h with ⟨ha, h⟩ | h
  rotate_left
  · exact absurd h hz
  rcases eqVL_cases h with ⟨hargs, h⟩ | h
  rotate_left
  · exact absurd h hz
  rcases hasAll_cases h with ⟨hins, h⟩ | h
  rotate_left
  · exact absurd h hz
  refine ⟨_, _, _, hF, ?_, h⟩
  rw [ha, hargs]
  have hnone : ∀ {p}, hof (putAll .nil L.outs) p = none → ∀ q ∈ L.outs, q.1 ≠ p := fun {p} h q hq e => by
    obtain ⟨_, q', hq', e1, e2⟩ := putAll_in L.outs .nil .nil p ⟨q, hq, e⟩
    unfold hof at h
    rw [e2] at h; cases h
  refine hL.frame (fun p y hy => ?_) (fun p y hy => ?_) (fun p h1 h2 => ?_) (fun p h1 h2 => ?_)
  · obtain ⟨q, hq, e1, e2⟩ := putAll_some hy
    rw [← e1, hins q hq, e2]
  · obtain ⟨q, hq, e1, e2⟩ := putAll_some hy
    have := (putAll_in L.outs (delAll H L.ins) .nil p ⟨q, hq, e1⟩).1
    unfold hof at hy ⊢
    rw [this]; exact hy
  · obtain ⟨y, hy⟩ := Option.isSome_iff_exists.1 h2
    obtain ⟨q, hq, e1, _⟩ := putAll_some hy
    unfold hof
    rw [putAll_not L.outs _ p (hnone h1), delAll_get, if_pos ⟨q, hq, e1⟩]; rfl
  · unfold hof
    rw [putAll_not L.outs _ p (hnone h1), delAll_get, if_neg]
    rintro ⟨q, hq, e1⟩
    obtain ⟨_, q', hq', _, e2⟩ := putAll_in L.ins .nil .nil p ⟨q, hq, e1⟩
    unfold hof at h2
    rw [e2] at h2; cases h2
theorem lits_ok (hz : ¬ Good z) (hF : FuncT P f) : ∀ {l : List Lit}, (∀ L ∈ l, LitOk P f L) → ∀ {args : List AV} {H : T XO} {a : Nat} {k : K ρ}, Good (sLits l z args H a k) → ∃ x H' b, FuncT P f ∧ CallS P f args H a x H' b ∧ Good (k x H' b)
  | [], _, args, H, a, k, h => absurd h hz
  | L :: l, hl, args, H, a, k, h => by
    rcases ifb_cases (x := sLit L z args H a k) (y := sLits l z args H a k) h with ⟨_, h⟩ | ⟨_, h⟩
    · exact lit_ok hz (hl L (by simp)) hF h
    · exact lits_ok hz hF (fun L' hL' => hl L' (by simp [hL'])) h
theorem chk_ok (hz : ¬ Good z) {call : CallF ρ} (hc : CallOkB Good P call) {L : Lit} {y : ρ} (h : Good (call f L.args (putAll .nil L.ins) L.a (chk L y z))) : LitOk P f L := by
  obtain ⟨x, H', b, hF, hcs, h⟩ := hc _ _ _ _ _ h
  rcases eqN_cases (a := b) (b := L.b) h with ⟨hb, h⟩ | h
  rotate_left
  · exact absurd h hz
  rcases eqVl_cases (fun h => eqV_cases deep h) h with ⟨hx, h⟩ | h
  rotate_left
  · exact absurd h hz
  rcases hasAll_cases h with ⟨houts, _⟩ | h
  rotate_left
  · exact absurd h hz
  have hx : x = L.x := by simpa using hx
  rw [hb, hx] at hcs
  exact hcs.part fun p y hy => by
    obtain ⟨q, hq, e1, e2⟩ := putAll_some hy
    rw [← e1, houts q hq, e2]
end
end
end Go.Ex
namespace Go.Ex
open Go Go.Am Go.Proofs
def SumAt {ρ : Type} (Good : ρ → Prop) (P : Program) (f : Nat) (s : SumF ρ) : Prop := ∀ args H a k, Good (s args H a k) → ∃ x H' b, FuncT P f ∧ CallS P f args H a x H' b ∧ Good (k x H' b)
def NatAt {ρ : Type} (Good : ρ → Prop) (P : Program) (f : Nat) (s : SumF ρ) : Prop := ∀ args H a k, Good (s args H a k) → ∃ x H' b, NatS P f args H a x H' b ∧ Good (k x H' b)
section
variable {ρ : Type} {Good : ρ → Prop} {z : ρ} (nf : ¬ Good z)
noncomputable section
def slT : T Unit := (T.nil.put 122 ()).put 226 ()
def baseS (z : ρ) (f : Nat) : Option (SumF ρ) := ifb (Nat.beq f 378) (some (sTrimLeft z)) (ifb (Nat.beq f 184) (some (sRepeat z)) (ifb (Nat.beq f 40) (some (sWrite 116 5 z)) (ifb (Nat.beq f 42) (some (sText 116 5 z)) none)))
def natsS (z : ρ) (f : Nat) : Option (SumF ρ) := ifb (Nat.beq f 469) (some (sIndex z)) (ifb (Nat.beq f 331) (some (sCount z)) none)
def envL (z : ρ) (lits : T (SumF ρ)) : Env ρ := ⟨z, tys, funs, slT, 88, fun f => onSome (lits.get f) some (baseS z f), natsS z⟩
end
include nf in
theorem base_ok {f : Nat} {s : SumF ρ} (h : baseS z f = some s) : SumAt Good Tryz.prog f s := by
  have h1 : ∀ {P : Option (SumF ρ) → Prop} {b : Bool} {x y : Option (SumF ρ)}, P (ifb b x y) → (b = true ∧ P x) ∨ (b = false ∧ P y) := fun {P b x y} h => by cases b; exact .inr ⟨rfl, h⟩; exact .inl ⟨rfl, h⟩
  rcases h1 (P := fun o => o = some s) h with ⟨e, h⟩ | ⟨_, h⟩
  · cases h; rw [Nat.eq_of_beq_eq_true e]
    exact fun args H a k h => trimLeft_ok nf ⟨Tryz.call378⟩ Tryz.f_trimLeft h
  rcases h1 (P := fun o => o = some s) h with ⟨e, h⟩ | ⟨_, h⟩
  · cases h; rw [Nat.eq_of_beq_eq_true e]
    exact fun args H a k h => repeat_ok nf ⟨Tryz.call184⟩ Tryz.f_repeat h
  rcases h1 (P := fun o => o = some s) h with ⟨e, h⟩ | ⟨_, h⟩
  · cases h; rw [Nat.eq_of_beq_eq_true e]
    exact fun args H a k h => write_ok nf h
  rcases h1 (P := fun o => o = some s) h with ⟨e, h⟩ | ⟨_, h⟩
  · cases h; rw [Nat.eq_of_beq_eq_true e]
    exact fun args H a k h => text_ok nf h
  cases h
include nf in
theorem nats_ok {f : Nat} {s : SumF ρ} (h : natsS z f = some s) : NatAt Good Tryz.prog f s := by
  have h1 : ∀ {P : Option (SumF ρ) → Prop} {b : Bool} {x y : Option (SumF ρ)}, P (ifb b x y) → (b = true ∧ P x) ∨ (b = false ∧ P y) := fun {P b x y} h => by cases b; exact .inr ⟨rfl, h⟩; exact .inl ⟨rfl, h⟩
  rcases h1 (P := fun o => o = some s) h with ⟨e, h⟩ | ⟨_, h⟩
  · cases h; rw [Nat.eq_of_beq_eq_true e]
    exact fun args H a k h => index_ok nf Tryz.f_index h
  rcases h1 (P := fun o => o = some s) h with ⟨e, h⟩ | ⟨_, h⟩
  · cases h; rw [Nat.eq_of_beq_eq_true e]
    exact fun args H a k h => count_ok nf Tryz.f_count h
  cases h
theorem envL_ok (z : ρ) (lits : T (SumF ρ)) : EnvOk Tryz.prog (envL z lits) := envOk_of tys_ok funs_ok
def Lts (Good : ρ → Prop) (lits : T (SumF ρ)) : Prop := ∀ f s, lits.get f = some s → SumAt Good Tryz.prog f s
theorem lts_nil : Lts Good (T.nil : T (SumF ρ)) := fun f s h => by cases h
theorem lts_put {l : T (SumF ρ)} {f : FuncId} {s : SumF ρ} (h : Lts Good l) (hs : SumAt Good Tryz.prog f s) : Lts Good (l.put f s) := fun f' s' h' => by
  rw [get_put] at h'
  split at h'
  · rename_i e; cases h'; rw [e]; exact hs
  · exact h f' s' h'
include nf in
theorem sumL_ok {lits : T (SumF ρ)} (h : Lts Good lits) : SumOk Good Tryz.prog (envL z lits) := fun f s hs args H a k hg => by
  have hs : onSome (lits.get f) some (baseS z f) = some s := hs
  cases hl : lits.get f with
  | some s' =>
    rw [hl] at hs
    cases hs
    exact h f _ hl args H a k hg
  | none =>
    rw [hl] at hs
    exact base_ok nf hs args H a k hg
include nf in
theorem natL_ok (lits : T (SumF ρ)) : NatOk Good Tryz.prog (envL z lits) := fun f s hs args H a k hg => nats_ok nf hs args H a k hg
theorem follows_mixed : Tryz.prog.follows .mixedOrders = true := by kernel_rfl
include nf in
theorem callsL_ok {lits : T (SumF ρ)} (h : Lts Good lits) (fuel d : Nat) : CallOk Good Tryz.prog (calls (envL z lits) fuel d) :=
  ok_calls (envL_ok z lits) (sumL_ok nf h) (natL_ok nf lits) once_ok (fun call n hc => drawnOk nf (envL_ok z lits).ty hc follows_mixed) fuel nf d
include nf in
theorem callsB_ok {lits : T (SumF ρ)} (h : Lts Good lits) (fuel d : Nat) : CallOkB Good Tryz.prog (callO (envL z lits) (calls (envL z lits) fuel d) fuel) :=
  ok_callO (envL_ok z lits) (sumL_ok nf h) once_ok (callsL_ok nf h fuel d) (fun n => drawnOk nf (envL_ok z lits).ty (callsL_ok nf h fuel d) follows_mixed) fuel nf
theorem litsAt {f : FuncId} (nf : ¬ Good z) (hF : FuncT Tryz.prog f) {l : List Lit} (h : ∀ L ∈ l, LitOk Tryz.prog f L) : SumAt Good Tryz.prog f (sLits l z) := fun args H a k hg => lits_ok nf hF h hg
end
def GoodB (b : Bool) : Prop := b = true
theorem nfB : ¬ GoodB false := by simp [GoodB]
theorem runL_ok {lits : T (SumF Bool)} (h : Lts GoodB lits) {fuel d : Nat} {f : FuncId} {L : Lit}
    (hr : callO (envL false lits) (calls (envL false lits) fuel d) fuel f L.args (putAll .nil L.ins) L.a (chk L true false) = true) : LitOk Tryz.prog f L :=
  chk_ok (Good := GoodB) nfB (callsB_ok (Good := GoodB) nfB h fuel d) hr
end Go.Ex
namespace Go.Ex
open Go Go.Am
mutual
def low (N : Nat) : AV → Bool
  | .sls _ xs => lowL N xs
  | .pce xs _ => lowL N xs
  | .ptr o _ => Nat.blt o N
  | .vw o _ _ _ => Nat.blt o N
  | .vwn o _ _ _ => Nat.blt o N
  | .mp o => Nat.blt o N
  | .agg xs => lowL N xs
  | .tup xs => lowL N xs
  | .fnc _ fs cs => lowL N fs && lowL N cs
  | .ifc _ x => low N x
  | .slsx _ xs => lowL N xs
  | .unk => true
  | .raw _ => true
  | .emp => true
  | .bys _ => true
  | .pby _ _ => true
  | .bysx _ => true
  | .str _ => true
def lowL (N : Nat) : List AV → Bool
  | [] => true
  | x :: xs => low N x && lowL N xs
end
end Go.Ex
namespace Go.Am
def Gh.cut (g : Gh) (N : Nat) : Gh := { g with loc := fun p => if p < N then g.loc p else none }
end Go.Am
namespace Go.Ex
open Go Go.Am
theorem cut_loc {g : Gh} {N o : Nat} (h : Nat.blt o N = true) : (g.cut N).loc o = g.loc o := by
  have : o < N := Nat.le_of_ble_eq_true h
  simp [Gh.cut, this]
mutual
theorem rep_low {g : Gh} {N : Nat} : ∀ (x : AV) (v : Value), low N x = true → Rep g x v → Rep (g.cut N) x v
  | .unk, _, _, _ => by simp only [Rep]
  | .raw _, _, _, h => by simpa only [Rep] using h
  | .emp, _, _, h => by simpa only [Rep] using h
  | .str _, _, _, h => by simpa only [Rep] using h
  | .bys bs, v, _, h => by simpa only [Rep, Gh.cut] using h
  | .pby bs i, v, _, h => by simpa only [Rep, Gh.cut] using h
  | .bysx bs, v, _, h => by simpa only [Rep, Gh.cut] using h
  | .sls n xs, v, hl, h => by
    simp only [low] at hl
    simp only [Rep] at h ⊢
    rcases h with h | ⟨b, off, cap, c, e, fz, h1, h2, h3, h4⟩
    · exact .inl h
    · exact .inr ⟨b, off, cap, c, e, fz, h1, h2, h3, repAt_low xs _ _ hl h4⟩
  | .slsx n xs, v, hl, h => by
    simp only [low] at hl
    simp only [Rep] at h ⊢
    rcases h with h | ⟨b, off, c, e, fz, h1, h3, h4⟩
    · exact .inl h
    · exact .inr ⟨b, off, c, e, fz, h1, h3, repAt_low xs _ _ hl h4⟩
  | .pce xs i, v, hl, h => by
    simp only [low] at hl
    simp only [Rep] at h ⊢
    obtain ⟨b, off, c, e, fz, h1, h3, h4⟩ := h
    exact ⟨b, off, c, e, fz, h1, h3, repAt_low xs _ _ hl h4⟩
  | .ptr o off, v, hl, h => by
    simp only [low] at hl
    simp only [Rep] at h ⊢
    rw [cut_loc hl]; exact h
  | .vw o sz off len, v, hl, h => by
    simp only [low] at hl
    simp only [Rep] at h ⊢
    rw [cut_loc hl]; exact h
  | .vwn o sz off len, v, hl, h => by
    simp only [low] at hl
    simp only [Rep] at h ⊢
    rw [cut_loc hl]; exact h
  | .mp o, v, hl, h => by
    simp only [low] at hl
    simp only [Rep] at h ⊢
    rw [cut_loc hl]; exact h
  | .agg xs, v, hl, h => by
    simp only [low] at hl
    simp only [Rep] at h ⊢
    obtain ⟨a, h1, h2⟩ := h
    exact ⟨a, h1, repL_low xs _ hl h2⟩
  | .tup xs, v, hl, h => by
    simp only [low] at hl
    simp only [Rep] at h ⊢
    obtain ⟨a, h1, h2⟩ := h
    exact ⟨a, h1, repL_low xs _ hl h2⟩
  | .fnc fn fs cs, v, hl, h => by
    simp only [low, Bool.and_eq_true] at hl
    simp only [Rep] at h ⊢
    obtain ⟨a, b, h1, h2, h3⟩ := h
    exact ⟨a, b, h1, repL_low fs _ hl.1 h2, repL_low cs _ hl.2 h3⟩
  | .ifc t x, v, hl, h => by
    simp only [low] at hl
    simp only [Rep] at h ⊢
    obtain ⟨u, h1, h2⟩ := h
    exact ⟨u, h1, rep_low x _ hl h2⟩
theorem repL_low {g : Gh} {N : Nat} : ∀ (xs : List AV) (l : List Value), lowL N xs = true → RepL g xs l → RepL (g.cut N) xs l
  | [], _, _, h => by simpa only [RepL] using h
  | x :: xs, l, hl, h => by
    simp only [lowL, Bool.and_eq_true] at hl
    simp only [RepL] at h ⊢
    obtain ⟨u, us, h1, h2, h3⟩ := h
    exact ⟨u, us, h1, rep_low x _ hl.1 h2, repL_low xs _ hl.2 h3⟩
theorem repAt_low {g : Gh} {N : Nat} : ∀ (xs : List AV) (c : Array Value) (k : Nat), lowL N xs = true → RepAt g xs c k → RepAt (g.cut N) xs c k
  | [], _, _, _, _ => by simp only [RepAt]
  | x :: xs, c, k, hl, h => by
    simp only [lowL, Bool.and_eq_true] at hl
    simp only [RepAt] at h ⊢
    obtain ⟨⟨u, h1, h2, h3⟩, h4⟩ := h
    exact ⟨⟨u, h1, h2, rep_low x _ hl.1 h3⟩, repAt_low xs _ _ hl.2 h4⟩
end
theorem lowL_mem {N : Nat} : ∀ {xs : List AV}, lowL N xs = true → ∀ x ∈ xs, low N x = true
  | [], _, x, h => by cases h
  | y :: xs, hl, x, h => by
    simp only [lowL, Bool.and_eq_true] at hl
    rcases List.mem_cons.1 h with rfl | h
    · exact hl.1
    · exact lowL_mem hl.2 x h
def lowXs (N : Nat) (l : List (Nat × List AV)) : Bool := l.all fun p => Nat.blt p.1 N && lowL N p.2
def celsH (l : List (Nat × List AV)) : AHeap := fun p => (l.find? fun q => q.1 == p).map fun q => .cel q.2
theorem celsH_some {l : List (Nat × List AV)} {p : Nat} {x : AO} (h : celsH l p = some x) : ∃ xs, (p, xs) ∈ l ∧ x = .cel xs := by
  unfold celsH at h
  cases hf : l.find? (fun q => q.1 == p) with
  | none => rw [hf] at h; cases h
  | some q =>
    rw [hf] at h
    have h1 := List.mem_of_find?_eq_some hf
    have h2 := List.find?_some hf
    simp only [beq_iff_eq] at h2
    obtain ⟨a, b⟩ := q
    simp only at h2
    subst h2
    exact ⟨b, h1, by simpa using h.symm⟩
theorem sim_cut {g : Gh} {A : AHeap} {w : World} {N : Nat} {l : List (Nat × List AV)} (h : Sim g A w) (hl : lowXs N l = true) (hs : ∀ p x, celsH l p = some x → A p = some x) : Sim (g.cut N) (celsH l) w := by
  have hlow : ∀ p x, celsH l p = some x → p < N ∧ ∃ xs, x = .cel xs ∧ lowL N xs = true := fun p x hp => by
    obtain ⟨xs, hm, rfl⟩ := celsH_some hp
    have := List.all_eq_true.1 hl _ hm
    simp only [Bool.and_eq_true] at this
    exact ⟨Nat.le_of_ble_eq_true this.1, xs, rfl, this.2⟩
  have hloc : ∀ p x, celsH l p = some x → (g.cut N).loc p = g.loc p := fun p x hp => by
    have := (hlow p x hp).1
    simp [Gh.cut, this]
  refine ⟨h.os, h.tape, h.output, h.sealed, fun o x ho => ?_, fun o1 o2 x1 x2 l1 l2 h1 h2 k1 k2 => ?_, fun o x l' ho k => ?_, ?_⟩
  · obtain ⟨hN, xs, rfl, hx⟩ := hlow o x ho
    rcases h.objs o _ (hs o _ ho) with ⟨hv, hn⟩ | ⟨l', c, e, fz, k1, k2, k3, k4, k5⟩ | ⟨l', es, es', ck, he, _⟩ | ⟨l', ob, k1, k2, k3⟩
    · exact .inl ⟨hv, by rw [hloc o _ ho]; exact hn⟩
    · exact .inr (.inl ⟨l', c, e, fz, by rw [hloc o _ ho]; exact k1, k2, k3, k4, k5.1, repAt_low xs _ _ hx k5.2⟩)
    · cases he
    · obtain ⟨_, _, he⟩ := k3.mp; cases he
  · rw [hloc _ _ h1] at k1
    rw [hloc _ _ h2] at k2
    exact h.inj _ _ _ _ _ _ (hs _ _ h1) (hs _ _ h2) k1 k2
  · rw [hloc _ _ ho] at k
    exact h.apart _ _ _ (hs _ _ ho) k
  · refine ⟨N, fun o ho => ⟨?_, by simp [Gh.cut, show ¬ o < N by omega]⟩⟩
    rcases Option.eq_none_or_eq_some (celsH l o) with hb | ⟨x, hb⟩
    · exact hb
    · have := (hlow o x hb).1; omega
theorem xpre_cut {n : Nat} {R R' : T AV} {A : AHeap} {g : Gh} {act : Act} {w : World} {N : Nat} {l : List (Nat × List AV)} (h : XPre n R A g act w) (hl : lowXs N l = true) (hs : ∀ p x, celsH l p = some x → A p = some x)
    (hR : ∀ i, rg R' i = .unk ∨ (rg R' i = rg R i ∧ low N (rg R i) = true)) : XPre n R' (celsH l) (g.cut N) act w :=
  ⟨h.defers, h.size, fun i => by
    rcases hR i with h1 | ⟨h1, h2⟩
    · rw [h1]; simp only [Rep]
    · rw [h1]; exact rep_low _ _ h2 (h.regs i), sim_cut h.sim hl hs⟩
theorem free_cut {g : Gh} {N b : Nat} : Free (g.cut N) N b := fun p h1 _ => by simp [Gh.cut, show ¬ p < N by omega]
end Go.Ex
namespace Go.Ex
open Go Go.Am
noncomputable def viewC (H : T XO) (o : Nat) : Option (List AV) := onSome (H.get o) (fun x => xCel x (fun n t => some (t.seg .unk 0 n)) none) none
noncomputable def viewL (H : T XO) (l : List Nat) : List (Option (List AV)) := listRec (β := List (Option (List AV))) [] (fun o _ ih => viewC H o :: ih) l
abbrev Ob := Option (AV × List (Option (List AV)) × Bool)
noncomputable def kOb (names : List Nat) (most : Nat) : K Ob := fun x H b => some (x, viewL H names, Nat.ble b most)
theorem xCel_cases {ρ : Type} {Good : ρ → Prop} {x : XO} {f : Nat → T AV → ρ} {z : ρ} (h : Good (xCel x f z)) : (∃ n t, x = .cel n t ∧ Good (f n t)) ∨ Good z := by
  cases x with
  | cel n t => exact .inl ⟨n, t, rfl, h⟩
  | _ => exact .inr h
theorem viewC_some {H : T XO} {o : Nat} {xs : List AV} (h : viewC H o = some xs) : hof H o = some (.cel xs) := by
  have h1 : (fun r : Option (List AV) => r = some xs) (onSome (H.get o) (fun x => xCel x (fun n t => some (t.seg .unk 0 n)) none) none) := h
  rcases onSome_cases (Good := fun r : Option (List AV) => r = some xs) h1 with ⟨x, hx, h2⟩ | ⟨_, h2⟩
  · rcases xCel_cases (Good := fun r : Option (List AV) => r = some xs) h2 with ⟨n, t, rfl, h3⟩ | h3
    · rw [hof_get hx]
      have h3 : some (t.seg .unk 0 n) = some xs := h3
      cases h3; rfl
    · cases h3
  · cases h2
theorem viewL_some {H : T XO} : ∀ {l : List (Nat × List AV)}, viewL H (l.map (·.1)) = l.map (fun p => some p.2) → ∀ p ∈ l, hof H p.1 = some (.cel p.2)
  | [], _, p, hp => by cases hp
  | q :: l, h, p, hp => by
    have h : viewC H q.1 :: viewL H (l.map (·.1)) = some q.2 :: l.map (fun p => some p.2) := h
    injection h with h1 h2
    rcases List.mem_cons.1 hp with rfl | hp
    · exact viewC_some h1
    · exact viewL_some h2 p hp
def celL (l : List (Nat × List AV)) : List (Nat × XL) := l.map fun p => (p.1, .cel p.2)
theorem CallS.more {P : Program} {f : FuncId} {args : List AV} {H H' : T XO} {a b b' : Nat} {x : AV} (h : CallS P f args H a x H' b) (hb : b ≤ b') : CallS P f args H a x H' b' := by
  obtain ⟨h1, h2, h3⟩ := h
  refine ⟨Nat.le_trans h1 hb, fun p hp => ?_, fun F g w vals hd hr hs hf => (h3 F g w vals (hd.sub hb) hr hs (hf.sub hb)).mono ?_⟩
  · rcases h2 p hp with h | h
    · exact .inl h
    · exact .inr ⟨h.1, by omega⟩
  · rintro e w' ⟨v, g', rfl, he, hx, hs'⟩
    exact ⟨v, g', rfl, ⟨he.le, fun p hp => he.out p (by omega)⟩, hx, hs'⟩
def obG (x : AV) (outs : List (Nat × List AV)) (r : Ob) : Prop := r = some (x, outs.map (fun p => some p.2), true)
theorem obG_none (x : AV) (outs : List (Nat × List AV)) : ¬ obG x outs none := fun h => by cases h
theorem sym_ok {P : Program} {f : FuncId} {call : CallF Ob} {args : List AV} {ins : List (Nat × XL)} {a b0 : Nat} {x0 : AV} {outs : List (Nat × List AV)} (hc : CallOkB (obG x0 outs) P call)
    (h : call f args (putAll .nil ins) a (kOb (outs.map (fun p => p.1)) b0) = some (x0, outs.map (fun p => some p.2), true)) : LitOk P f ⟨args, ins, a, x0, celL outs, b0⟩ := by
  obtain ⟨x, H', b, hF, hcs, h⟩ := hc _ _ _ _ _ h
  have h : some (x, viewL H' (outs.map (fun p => p.1)), Nat.ble b b0) = some (x0, outs.map (fun p => some p.2), true) := h
  injection h with h
  injection h with h1 h
  injection h with h2 h3
  rw [h1] at hcs
  refine (hcs.more (Nat.le_of_ble_eq_true h3)).part fun p y hy => ?_
  obtain ⟨q, hq, e1, e2⟩ := putAll_some hy
  obtain ⟨r, hr, rfl⟩ := List.mem_map.1 hq
  rw [← e1, viewL_some h2 r hr, e2]
  show some (AO.cel r.2) = some (XL.cel r.2).xo.ao
  rw [show (XL.cel r.2).xo = cel r.2 from rfl, cel_ao]
end Go.Ex
namespace Go.Ex
open Go Go.Am Go.Proofs
def thC : List (Nat × List AV) := [(10101, [.raw (.int .i64 1), .raw (.int .i64 2)]),
  (10103, [.raw (.int .i64 2), .raw (.int .i64 2)]),
  (10105, [.raw (.int .i64 1), .raw (.int .i64 2), .raw (.int .i64 2), .raw (.int .i64 2), .raw (.int .i64 1), .raw (.int .i64 2), .raw (.int .i64 2), .raw (.int .i64 2), .raw (.int .i64 2), .raw (.int .i64 2), .raw (.int .i64 2), .raw (.int .i64 2), .raw (.int .i64 2), .raw (.int .i64 1), .raw (.int .i64 2), .raw (.int .i64 2), .raw (.int .i64 2), .raw (.int .i64 2), .raw (.int .i64 1), .raw (.int .i64 2), .raw (.int .i64 2), .raw (.int .i64 2), .raw (.int .i64 2), .raw (.int .i64 1), .raw (.int .i64 2), .raw (.int .i64 2), .raw (.int .i64 2), .raw (.int .i64 1), .raw (.int .i64 1), .raw (.int .i64 1)]),
  (10107, [.raw (.int .i64 2), .raw (.int .i64 1), .raw (.int .i64 2), .raw (.int .i64 1), .raw (.int .i64 2), .raw (.int .i64 1)]),
  (10109, [.raw (.int .i64 0), .raw (.int .i64 1)]),
  (10111, [.raw (.int .i64 2), .raw (.int .i64 12), .raw (.int .i64 0), .raw (.int .i64 0), .raw (.int .i64 2), .raw (.int .i64 13), .raw (.int .i64 1), .raw (.int .i64 0), .raw (.int .i64 2), .raw (.int .i64 17), .raw (.int .i64 2), .raw (.int .i64 0), .raw (.int .i64 2), .raw (.int .i64 18), .raw (.int .i64 3), .raw (.int .i64 0), .raw (.int .i64 2), .raw (.int .i64 22), .raw (.int .i64 4), .raw (.int .i64 0), .raw (.int .i64 2), .raw (.int .i64 23), .raw (.int .i64 5), .raw (.int .i64 0), .raw (.int .i64 4), .raw (.int .i64 0), .raw (.int .i64 0), .raw (.int .i64 0), .raw (.int .i64 4), .raw (.int .i64 1), .raw (.int .i64 1), .raw (.int .i64 0), .raw (.int .i64 1), .raw (.int .i64 4), .raw (.int .i64 0), .raw (.int .i64 0), .raw (.int .i64 1), .raw (.int .i64 5), .raw (.int .i64 1), .raw (.int .i64 0), .raw (.int .i64 0), .raw (.int .i64 11), .raw (.int .i64 0), .raw (.int .i64 0), .raw (.int .i64 19), .raw (.int .i64 14), .raw (.int .i64 13), .raw (.int .i64 0), .raw (.int .i64 1), .raw (.int .i64 14), .raw (.int .i64 12), .raw (.int .i64 0), .raw (.int .i64 20), .raw (.int .i64 15), .raw (.int .i64 0), .raw (.int .i64 0), .raw (.int .i64 1), .raw (.int .i64 14), .raw (.int .i64 11), .raw (.int .i64 0), .raw (.int .i64 19), .raw (.int .i64 18), .raw (.int .i64 4), .raw (.int .i64 0), .raw (.int .i64 1), .raw (.int .i64 15), .raw (.int .i64 5), .raw (.int .i64 0), .raw (.int .i64 20), .raw (.int .i64 19), .raw (.int .i64 0), .raw (.int .i64 0), .raw (.int .i64 1), .raw (.int .i64 15), .raw (.int .i64 14), .raw (.int .i64 0), .raw (.int .i64 1), .raw (.int .i64 6), .raw (.int .i64 15), .raw (.int .i64 0), .raw (.int .i64 1), .raw (.int .i64 2), .raw (.int .i64 6), .raw (.int .i64 0), .raw (.int .i64 1), .raw (.int .i64 7), .raw (.int .i64 1), .raw (.int .i64 0), .raw (.int .i64 0), .raw (.int .i64 16), .raw (.int .i64 0), .raw (.int .i64 0), .raw (.int .i64 19), .raw (.int .i64 26), .raw (.int .i64 18), .raw (.int .i64 0), .raw (.int .i64 1), .raw (.int .i64 19), .raw (.int .i64 17), .raw (.int .i64 0), .raw (.int .i64 20), .raw (.int .i64 27), .raw (.int .i64 0), .raw (.int .i64 0), .raw (.int .i64 1), .raw (.int .i64 19), .raw (.int .i64 16), .raw (.int .i64 0), .raw (.int .i64 8), .raw (.int .i64 20), .raw (.int .i64 7), .raw (.int .i64 19), .raw (.int .i64 1), .raw (.int .i64 8), .raw (.int .i64 20), .raw (.int .i64 0), .raw (.int .i64 1), .raw (.int .i64 9), .raw (.int .i64 1), .raw (.int .i64 0), .raw (.int .i64 0), .raw (.int .i64 21), .raw (.int .i64 0), .raw (.int .i64 0), .raw (.int .i64 19), .raw (.int .i64 34), .raw (.int .i64 23), .raw (.int .i64 0), .raw (.int .i64 1), .raw (.int .i64 24), .raw (.int .i64 22), .raw (.int .i64 0), .raw (.int .i64 20), .raw (.int .i64 35), .raw (.int .i64 0), .raw (.int .i64 0), .raw (.int .i64 1), .raw (.int .i64 24), .raw (.int .i64 21), .raw (.int .i64 0), .raw (.int .i64 8), .raw (.int .i64 25), .raw (.int .i64 9), .raw (.int .i64 24), .raw (.int .i64 1), .raw (.int .i64 10), .raw (.int .i64 25), .raw (.int .i64 0), .raw (.int .i64 19), .raw (.int .i64 40), .raw (.int .i64 0), .raw (.int .i64 0), .raw (.int .i64 1), .raw (.int .i64 26), .raw (.int .i64 8), .raw (.int .i64 0), .raw (.int .i64 20), .raw (.int .i64 41), .raw (.int .i64 0), .raw (.int .i64 0), .raw (.int .i64 1), .raw (.int .i64 26), .raw (.int .i64 10), .raw (.int .i64 0), .raw (.int .i64 1), .raw (.int .i64 3), .raw (.int .i64 26), .raw (.int .i64 0), .raw (.int .i64 3), .raw (.int .i64 0), .raw (.int .i64 6), .raw (.int .i64 0), .raw (.int .i64 19), .raw (.int .i64 45), .raw (.int .i64 0), .raw (.int .i64 0), .raw (.int .i64 3), .raw (.int .i64 2), .raw (.int .i64 8), .raw (.int .i64 0), .raw (.int .i64 6), .raw (.int .i64 27), .raw (.int .i64 0), .raw (.int .i64 0), .raw (.int .i64 19), .raw (.int .i64 48), .raw (.int .i64 27), .raw (.int .i64 0), .raw (.int .i64 3), .raw (.int .i64 4), .raw (.int .i64 10), .raw (.int .i64 0), .raw (.int .i64 0), .raw (.int .i64 28), .raw (.int .i64 1), .raw (.int .i64 0), .raw (.int .i64 3), .raw (.int .i64 1), .raw (.int .i64 28), .raw (.int .i64 0), .raw (.int .i64 19), .raw (.int .i64 52), .raw (.int .i64 0), .raw (.int .i64 0), .raw (.int .i64 3), .raw (.int .i64 3), .raw (.int .i64 28), .raw (.int .i64 0), .raw (.int .i64 6), .raw (.int .i64 29), .raw (.int .i64 0), .raw (.int .i64 0), .raw (.int .i64 19), .raw (.int .i64 55), .raw (.int .i64 29), .raw (.int .i64 0), .raw (.int .i64 3), .raw (.int .i64 5), .raw (.int .i64 28), .raw (.int .i64 0), .raw (.int .i64 5), .raw (.int .i64 0), .raw (.int .i64 2), .raw (.int .i64 0), .raw (.int .i64 5), .raw (.int .i64 1), .raw (.int .i64 3), .raw (.int .i64 0)])]
def thM (tk : AV) : List AV := [.vwn 10101 1 0 2, .vwn 10103 1 0 2, .vwn 10105 1 0 30, .vwn 10107 1 0 6, .vwn 10109 1 0 2, .vwn 10111 4 0 57, .vwn 10113 1 0 6, tk]
def thB (b : Bool) : AV := .raw (.int .i64 (if b then 1 else 0))
def iv (n : Int) : AV := .raw (.int .i64 n)
def thH (tk : Int) (mems : List AV) : List (Nat × List AV) := thC ++ [(10112, thM (iv tk)), (10113, mems)]
def thO (tk : Int) (mems row out : List AV) : List (Nat × List AV) := thH tk mems ++ [(10114, row), (10116, out)]
def thL (tk : Int) (mems : List AV) (row : List AV) (tk' : Int) (mems' out : List AV) : Lit :=
  ⟨[.ptr 10112 0, .vwn 10114 1 0 2], celL (thH tk mems ++ [(10114, row)]), 10115, .tup [.vwn 10116 1 0 2, iv 0], celL (thO tk' mems' row out), 10607⟩
theorem tick_ok {tk tk' : Int} {mems row mems' out : List AV}
    (h : callO (envL (none : Ob) .nil) (calls (envL (none : Ob) .nil) 1000000 1000) 1000000 12 [.ptr 10112 0, .vwn 10114 1 0 2] (putAll .nil (celL (thH tk mems ++ [(10114, row)]))) 10115 (kOb ((thO tk' mems' row out).map (fun p => p.1)) 10607)
      = some (.tup [.vwn 10116 1 0 2, iv 0], (thO tk' mems' row out).map (fun p => some p.2), true)) : LitOk Tryz.prog 12 (thL tk mems row tk' mems' out) :=
  sym_ok (callsB_ok (obG_none _ _) lts_nil 1000000 1000) h
theorem tickA1 (tk h s u x : Int) : LitOk Tryz.prog 12 (thL tk [iv 0, iv 0, iv 0, iv 0, iv 0, iv 0] [iv 1, iv x] (IntKind.i64.wrap (tk + 1)) [iv x, iv 1, iv (IntKind.i64.wrap (x + 0)), iv 1, iv 0, iv 0] [iv x, iv (IntKind.i64.wrap (x + 0))]) := tick_ok (by kernel_rfl)
theorem tickA0 (tk h s u x : Int) : LitOk Tryz.prog 12 (thL tk [iv 0, iv 0, iv 0, iv 0, iv 0, iv 0] [iv 0, iv x] (IntKind.i64.wrap (tk + 1)) [iv 0, iv 1, iv 0, iv 0, iv (IntKind.i64.wrap (x + 0)), iv 1] [iv 0, iv (IntKind.i64.wrap (x + 0))]) := tick_ok (by kernel_rfl)
theorem tickB1 (tk h s u x : Int) : LitOk Tryz.prog 12 (thL tk [iv h, iv 1, iv s, iv 1, iv 0, iv 0] [iv 1, iv x] (IntKind.i64.wrap (tk + 1)) [iv x, iv 1, iv (IntKind.i64.wrap (x + s)), iv 1, iv 0, iv 0] [iv x, iv (IntKind.i64.wrap (x + s))]) := tick_ok (by kernel_rfl)
theorem tickB0 (tk h s u x : Int) : LitOk Tryz.prog 12 (thL tk [iv h, iv 1, iv s, iv 1, iv 0, iv 0] [iv 0, iv x] (IntKind.i64.wrap (tk + 1)) [iv h, iv 1, iv s, iv 1, iv (IntKind.i64.wrap (x + 0)), iv 1] [iv h, iv (IntKind.i64.wrap (x + 0))]) := tick_ok (by kernel_rfl)
theorem tickC1 (tk h s u x : Int) : LitOk Tryz.prog 12 (thL tk [iv h, iv 1, iv 0, iv 0, iv u, iv 1] [iv 1, iv x] (IntKind.i64.wrap (tk + 1)) [iv x, iv 1, iv (IntKind.i64.wrap (x + 0)), iv 1, iv u, iv 1] [iv x, iv (IntKind.i64.wrap (x + 0))]) := tick_ok (by kernel_rfl)
theorem tickC0 (tk h s u x : Int) : LitOk Tryz.prog 12 (thL tk [iv h, iv 1, iv 0, iv 0, iv u, iv 1] [iv 0, iv x] (IntKind.i64.wrap (tk + 1)) [iv h, iv 1, iv 0, iv 0, iv (IntKind.i64.wrap (x + u)), iv 1] [iv h, iv (IntKind.i64.wrap (x + u))]) := tick_ok (by kernel_rfl)
theorem tickD1 (tk h s u x : Int) : LitOk Tryz.prog 12 (thL tk [iv h, iv 1, iv s, iv 1, iv u, iv 1] [iv 1, iv x] (IntKind.i64.wrap (tk + 1)) [iv x, iv 1, iv (IntKind.i64.wrap (x + s)), iv 1, iv u, iv 1] [iv x, iv (IntKind.i64.wrap (x + s))]) := tick_ok (by kernel_rfl)
theorem tickD0 (tk h s u x : Int) : LitOk Tryz.prog 12 (thL tk [iv h, iv 1, iv s, iv 1, iv u, iv 1] [iv 0, iv x] (IntKind.i64.wrap (tk + 1)) [iv h, iv 1, iv s, iv 1, iv (IntKind.i64.wrap (x + u)), iv 1] [iv h, iv (IntKind.i64.wrap (x + u))]) := tick_ok (by kernel_rfl)
end Go.Ex
namespace Go.Ex
open Go Go.Am Go.Proofs
def saO (p q p' q' : Int) : List (Nat × List AV) := [(10116, [iv p, iv q]), (10607, [iv p', iv q'])]
theorem same_run (p q p' q' : Int) (k : K Ob) :
    callO (envL (none : Ob) .nil) (calls (envL (none : Ob) .nil) 1000000 1000) 1000000 11 [.vwn 10116 1 0 2, .vwn 10607 1 0 2] (putAll .nil (celL (saO p q p' q'))) 10608 k
      = ifb (decide (p ≠ p')) (k (.raw (.bool false)) (putAll .nil (celL (saO p q p' q'))) 10608) (ifb (decide (q ≠ q')) (k (.raw (.bool false)) (putAll .nil (celL (saO p q p' q'))) 10608) (k (.raw (.bool true)) (putAll .nil (celL (saO p q p' q'))) 10608)) := by kernel_rfl
def saL (p q : Int) : Lit := ⟨[.vwn 10116 1 0 2, .vwn 10607 1 0 2], celL (saO p q p q), 10608, .raw (.bool true), celL (saO p q p q), 10608⟩
theorem same_ok (p q : Int) : LitOk Tryz.prog 11 (saL p q) :=
  sym_ok (callsB_ok (obG_none _ _) lts_nil 1000000 1000) (by
    rw [same_run]
    simp only [ne_eq, not_true_eq_false, decide_false]
    kernel_rfl)
end Go.Ex
namespace Go.Ex
open Go Go.Am
noncomputable def rLg (l : List (Nat × AV)) : T AV → T AV := listRec (β := T AV → T AV) (fun R => R) (fun p _ ih R => ih (R.put p.1 p.2)) l
noncomputable def rL (l : List (Nat × AV)) : T AV := rLg l .nil
theorem rLg_cons (p : Nat × AV) (l : List (Nat × AV)) (R : T AV) : rLg (p :: l) R = rLg l (R.put p.1 p.2) := rfl
theorem rL_go : ∀ (l : List (Nat × AV)) (R : T AV) (i : Nat), rg (rLg l R) i = rg R i ∨ ∃ p ∈ l, p.1 = i ∧ rg (rLg l R) i = p.2
  | [], R, i => .inl rfl
  | p :: l, R, i => by
    rw [rLg_cons]
    rcases rL_go l (R.put p.1 p.2) i with h | ⟨q, hq, h1, h2⟩
    · by_cases e : i = p.1
      · refine .inr ⟨p, by simp, e.symm, ?_⟩
        rw [h, rg_put, if_pos e]
      · left
        rw [h, rg_put, if_neg e]
    · exact .inr ⟨q, by simp [hq], h1, h2⟩
theorem rL_get (l : List (Nat × AV)) (i : Nat) : rg (rL l) i = .unk ∨ ∃ p ∈ l, p.1 = i ∧ rg (rL l) i = p.2 := by
  rcases rL_go l .nil i with h | h
  · exact .inl (by unfold rL; rw [h, rg_nil])
  · exact .inr h
abbrev Oc := Option (Exit × List AV × List (Option (List AV)) × Bool)
noncomputable def regsL (R : T AV) (l : List Nat) : List AV := listRec (β := List AV) [] (fun i _ ih => rg R i :: ih) l
noncomputable def kOc (regs names : List Nat) (most : Nat) : C Oc := fun e R H b => some (e, regsL R regs, viewL H names, Nat.ble b most)
def ocG (e : Exit) (rs : List (Nat × AV)) (outs : List (Nat × List AV)) (r : Oc) : Prop := r = some (e, rs.map (fun p => p.2), outs.map (fun p => some p.2), true)
theorem ocG_none (e : Exit) (rs : List (Nat × AV)) (outs : List (Nat × List AV)) : ¬ ocG e rs outs none := fun h => by cases h
theorem regsL_some {R : T AV} : ∀ {l : List (Nat × AV)}, regsL R (l.map (fun p => p.1)) = l.map (fun p => p.2) → ∀ p ∈ l, rg R p.1 = p.2
  | [], _, p, hp => by cases hp
  | q :: l, h, p, hp => by
    have h : rg R q.1 :: regsL R (l.map (fun p => p.1)) = q.2 :: l.map (fun p => p.2) := h
    injection h with h1 h2
    rcases List.mem_cons.1 hp with rfl | hp
    · exact h1
    · exact regsL_some h2 p hp
section
variable {P : Program} {n : Nat}
theorem CodeS.part {c : Code} {R R' R'' : T AV} {H H' H'' : T XO} {a b b' : Nat} {e : Exit} (h : CodeS P n c R H a e R' H' b) (hR : ∀ i, rg R'' i = .unk ∨ rg R'' i = rg R' i) (hs : ∀ p y, hof H'' p = some y → hof H' p = some y) (hb : b ≤ b') : CodeS P n c R H a e R'' H'' b' := by
  obtain ⟨h1, h2, h3⟩ := h
  refine ⟨Nat.le_trans h1 hb, fun p hp => ?_, fun F g act w hd hp hf => wp_mono (h3 F g act w (hd.sub hb) hp (hf.sub hb)) ?_⟩
  · obtain ⟨y, hy⟩ := Option.isSome_iff_exists.1 hp
    rcases h2 p (by rw [hs p y hy]; rfl) with h | h
    · exact .inl h
    · exact .inr ⟨h.1, by omega⟩
  · rintro e' act' w' ⟨rfl, g', he, hx⟩
    refine ⟨rfl, g', ⟨he.le, fun p hp => he.out p (by omega)⟩, hx.defers, hx.size, fun i => ?_, sim_part hx.sim fun p y hp => ?_⟩
    · rcases hR i with h | h
      · rw [h]; simp only [Rep]
      · rw [h]; exact hx.regs i
    · simp only [join] at hp ⊢
      cases hq : hof H'' p with
      | some u => rw [hq] at hp; rw [hs p u hq]; exact hp
      | none =>
        rw [hq] at hp
        simp only at hp
        cases hq' : hof H' p with
        | none => exact hp
        | some u =>
          exfalso
          rcases h2 p (by rw [hq']; rfl) with h | h
          · obtain ⟨z, hz⟩ := Option.isSome_iff_exists.1 h
            rw [hd.h p z hz] at hp; cases hp
          · rw [hd.f p h.1 (by omega)] at hp; cases hp
theorem node_ok {E : Env Oc} {call : CallF Oc} {fuel : Nat} {c : Code} {e : Exit} {R : T AV} {H : T XO} {a b0 : Nat} {rs : List (Nat × AV)} {outs : List (Nat × List AV)} (hb : ¬ ocG e rs outs E.bad) (hty : ∀ t i, E.ty.get t = some i → TyOk P t i)
    (hc : CallOk (ocG e rs outs) P call) (hm : P.follows .mixedOrders = true) (hw : codeWfB n c = true)
    (h : exec c E call fuel R H a (kOc (rs.map (fun p => p.1)) (outs.map (fun p => p.1)) b0) = some (e, rs.map (fun p => p.2), outs.map (fun p => some p.2), true)) :
    CodeS P n c R H a e (rL rs) (putAll .nil (celL outs)) b0 := by
  obtain ⟨e', R', H', b, hcs, h⟩ := ok_code (Good := ocG e rs outs) hb hty hc (drawnOk hb hty hc hm) fuel c (codeWf_of hw) R H a _ h
  have h : some (e', regsL R' (rs.map (fun p => p.1)), viewL H' (outs.map (fun p => p.1)), Nat.ble b b0) = some (e, rs.map (fun p => p.2), outs.map (fun p => some p.2), true) := h
  injection h with h
  injection h with h1 h
  injection h with h2 h
  injection h with h3 h4
  rw [h1] at hcs
  refine hcs.part (fun i => ?_) (fun p y hy => ?_) (Nat.le_of_ble_eq_true h4)
  · rcases rL_get rs i with h | ⟨p, hp, e1, e2⟩
    · exact .inl h
    · exact .inr (by rw [e2, ← e1, regsL_some h2 p hp])
  · obtain ⟨q, hq, e1, e2⟩ := putAll_some hy
    obtain ⟨r, hr, rfl⟩ := List.mem_map.1 hq
    rw [← e1, viewL_some h3 r hr, e2]
    show some (AO.cel r.2) = some (XL.cel r.2).xo.ao
    rw [show (XL.cel r.2).xo = cel r.2 from rfl, cel_ao]
theorem CodeS.then {x y : Code} {R R' : T AV} {H H' : T XO} {a b : Nat} (h : CodeS P n x R H a .normal R' H' b) {F : AHeap} {g : Gh} {act : Act} {w : World} {Q : Exit → Act → World → Prop} (hd : Disj (hof H) F a b) (hp : XPre n R (join (hof H) F) g act w) (hf : Free g a b)
    (hk : ∀ g' act' w', Ext g g' a b → XPre n R' (join (hof H') F) g' act' w' → y.wp P Q act' w') : (Code.seq x y).wp P Q act w := by
  refine wp_seq (wp_mono (h.2.2 F g act w hd hp hf) ?_)
  rintro e act' w' ⟨rfl, g', he, hx⟩
  exact hk g' act' w' he hx
end
end Go.Ex
