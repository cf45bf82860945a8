/-
  The abstract machine: regions that draw their order, with a chain of operations on objects, and others that hold as long as something does of the objects. No program in sight.
-/
import Derived.Test.YtbciofnejefkiaaAmDrawB
namespace Go.Am.DC
set_option linter.unusedSimpArgs false
set_option linter.unusedVariables false
open Go Go.Am
def lateB (ops : Array Oper) (bm : List Bool) (i : Nat) : Bool := (List.range ops.size).all fun k => bm.getD k false || (reachAll ops i (preds ops i)).any (Nat.beq k)
def selC (ops : Array Oper) (bm : List Bool) : Nat -> List Bool -> List Oper -> List (Oper × Bool)
  | k, b :: m, o :: l => if b = true then (o, lateB ops bm k) :: selC ops bm (k + 1) m l else selC ops bm (k + 1) m l
  | _, _, _ => []
section
variable (P : Program) (n : Nat) (ops : Array Oper) (Kx : Exit -> Regs -> AHeap -> Prop) (Ψ : AHeap -> Prop)
def AWC : List (Oper × Bool) -> Regs -> AHeap -> Prop
  | [], R, H => Kx .normal R H
  | (o, f) :: l, R, H => ∀ (Rx : Regs) (K1 : Exit -> Regs -> AHeap -> Prop), (∀ x H', (f = true \/ Ψ H') -> AWC l (pushR o x R) H' -> K1 .normal (pushR o x (lonly ops o R ++ Rx)) H') -> AWL P n ops [o] K1 (lonly ops o R ++ Rx) H
def AWN (H : AHeap) (bm : List Bool) : Nat -> List (Oper × Bool) -> List Bool -> List Oper -> Regs -> Prop
  | k, acc, b :: m, o :: l, R => if b = true then AWN H bm (k + 1) (acc ++ [(o, lateB ops bm k)]) m l (pushR o .unk R) else ∃ x, (∀ H', Ψ H' -> (earlyB ops bm k = true -> H' = H) -> StepQ P n ops H' o R x) /\ AWN H bm (k + 1) acc m l (pushR o x R)
  | _, acc, _, _, R => AWC P n ops Kx Ψ acc R H
end
section
variable {P : Program} {n : Nat} {ops : Array Oper} {Kx : Exit -> Regs -> AHeap -> Prop} {Ψ : AHeap -> Prop} {H : AHeap}
theorem rt {bm : List Bool} : ∀ {m : List Bool} {l : List Oper} {acc : List (Oper × Bool)} {R : Regs} {k : Nat}, AWN P n ops Kx Ψ H bm k acc m l R -> m.length = l.length ->
    ∃ xs : List AV, xs.length = l.length /\ (∀ (i : Nat) (o : Oper), l[i]? = some o -> m[i]? = some false -> ∃ x, xs[i]? = some x /\ ∀ H', Ψ H' -> (earlyB ops bm (k + i) = true -> H' = H) -> StepQ P n ops H' o (lexR (l.take i) (xs.take i) R) x) /\ AWC P n ops Kx Ψ (acc ++ selC ops bm k m l) (lexR l xs R) H
  | [], [], acc, R, k, h, _ => ⟨[], rfl, fun i o hi => by simp at hi, by simpa [selC, lexR, AWN] using h⟩
  | b :: m, o :: l, acc, R, k, h, hl => by
    rw [AWN] at h; simp only [List.length_cons, Nat.add_right_cancel_iff] at hl
    cases b with
    | true =>
      rw [if_pos rfl] at h; obtain ⟨xs, h1, h2, h3⟩ := rt h hl; refine ⟨.unk :: xs, by simp [h1], fun i p hi hm => ?_, ?_⟩
      · cases i with
        | zero => simp at hm
        | succ i =>
          obtain ⟨x, e1, e2⟩ := h2 i p (by simpa using hi) (by simpa using hm)
          exact ⟨x, by simpa using e1, fun H' hP hH => by simpa [lexR] using e2 H' hP (by rw [show k + 1 + i = k + (i + 1) by omega]; exact hH)⟩
      · simpa [selC, lexR] using h3
    | false =>
      rw [if_neg (by simp)] at h
      obtain ⟨y, hy, h⟩ := h; obtain ⟨xs, h1, h2, h3⟩ := rt h hl; refine ⟨y :: xs, by simp [h1], fun i p hi hm => ?_, ?_⟩
      · cases i with
        | zero => simp at hi; subst hi; exact ⟨y, rfl, fun H' hP hH => by simpa [lexR] using hy H' hP hH⟩
        | succ i =>
          obtain ⟨x, e1, e2⟩ := h2 i p (by simpa using hi) (by simpa using hm)
          exact ⟨x, by simpa using e1, fun H' hP hH => by simpa [lexR] using e2 H' hP (by rw [show k + 1 + i = k + (i + 1) by omega]; exact hH)⟩
      · simpa [selC, lexR] using h3
  | [], o :: l, _, _, _, _, hl => by simp at hl
  | b :: m, [], _, _, _, _, hl => by simp at hl
def remC (ops : Array Oper) (bm : List Bool) (p : Nat -> Bool) : Nat -> List Oper -> List (Oper × Bool)
  | _, [] => []
  | k, o :: l => if p k = true then (o, lateB ops bm k) :: remC ops bm p (k + 1) l else remC ops bm p (k + 1) l
theorem zy {bm : List Bool} {p q : Nat -> Bool} : ∀ {l : List Oper} {k : Nat}, (∀ j, k <= j -> p j = q j) -> remC ops bm p k l = remC ops bm q k l
  | [], _, _ => rfl
  | o :: l, k, h => by rw [remC, remC, h k (Nat.le_refl _), zy fun j hj => h j (by omega)]
theorem ahh {bm : List Bool} : ∀ {l : List Oper} {m : List Bool} {k : Nat} {p : Nat -> Bool}, m.length = l.length -> (∀ j, p (k + j) = m.getD j false) -> remC ops bm p k l = selC ops bm k m l
  | [], [], _, _, _, _ => rfl
  | o :: l, b :: m, k, p, hl, hp => by
    have h0 : p k = b := by simpa using hp 0
    rw [remC, selC, h0, ahh (m := m) (by simpa using hl) fun j => by have := hp (j + 1); rw [show k + 1 + j = k + (j + 1) by omega, this]; simp]
  | [], b :: m, _, _, h, _ => by simp at h
  | o :: l, [], _, _, h, _ => by simp at h
theorem aea {bm : List Bool} : ∀ {l : List Oper} {k : Nat} {p : Nat -> Bool}, (∀ j, j < l.length -> p (k + j) = false) -> remC ops bm p k l = []
  | [], _, _, _ => rfl
  | o :: l, k, p, h => by
    have h0 : p k = false := by simpa using h 0 (by simp)
    rw [remC, if_neg (by simp [h0]), aea fun j hj => by rw [show k + 1 + j = k + (j + 1) by omega]; exact h (j + 1) (by simpa using hj)]
theorem aik {bm : List Bool} {i : Nat} {o : Oper} : ∀ {l : List Oper} {k : Nat} {p q : Nat -> Bool} {d : Nat}, i = k + d -> l[d]? = some o -> p i = true -> q i = false -> (∀ j, j < i -> p j = false /\ q j = false) -> (∀ j, i < j -> p j = q j) -> remC ops bm p k l = (o, lateB ops bm i) :: remC ops bm q k l
  | [], _, _, _, d, _, h, _, _, _, _ => by simp at h
  | u :: l, k, p, q, d, hd, hl, hp, hq, hlo, hhi => by
    cases d with
    | zero =>
      simp at hl; subst hl
      obtain rfl : i = k := by omega
      rw [remC, remC, if_pos hp, if_neg (by simp [hq]), zy fun j hj => hhi j (by omega)]
    | succ d =>
      have := hlo k (by omega)
      rw [remC, remC, if_neg (by simp [this.1]), if_neg (by simp [this.2])]
      exact aik (d := d) (by omega) (by simpa using hl) hp hq hlo hhi
structure WayC (P : Program) (n : Nat) (ops : Array Oper) (bm : List Bool) (Kx : Exit -> Regs -> AHeap -> Prop) (Ψ : AHeap -> Prop) (H0 : AHeap) (R RA : Regs) (listed : Array Bool) (Rb : Regs) (Hk : AHeap) (g : Gh) (a : Act) (w : World) : Prop where
  size : listed.size = ops.size
  closed : ∀ j, listed.getD j false = true -> ∀ i ∈ preds ops j, listed.getD i false = true
  chain : AWC P n ops Kx Ψ (remC ops bm (left bm listed) 0 ops.toList) Rb Hk
  rb : ∀ t, (∀ (j : Nat) (o : Oper), ops[j]? = some o -> bm.getD j false = true -> o.dst ≠ some t) -> rget Rb t = rget RA t
  defers : a.defers = []
  tmps : a.tmps.size = n
  sim : Sim g Hk w
  wrote : ∀ t, DstL ops listed t -> Rep g (rget Rb t) (a.tmps.getD t undef)
  kept : ∀ t, ¬ DstL ops listed t -> Rep g (rget R t) (a.tmps.getD t undef)
  fresh : (∀ j, bm.getD j false = true -> listed.getD j false = false) -> Hk = H0
  stab : (∃ i, i < ops.size /\ bm.getD i false = false /\ listed.getD i false = false) -> Ψ Hk
variable {bm : List Bool} {H0 : AHeap} {R RA : Regs} {xs : List AV} {listed : Array Bool} {Rb : Regs} {Hk : AHeap} {g : Gh} {a : Act} {w : World}
theorem looksB (hok : DrawOkB n ops bm) (hRA : RA = lexR ops.toList xs R) (hw : WayC P n ops bm Kx Ψ H0 R RA listed Rb Hk g a w) {i : Nat} {o : Oper} (hi : ops[i]? = some o) (hp : ∀ j ∈ preds ops i, listed.getD j false = true) {t : Tmp} (ht : t ∈ o.looksAt ops) :
    Rep g (rget Rb t) (a.tmps.getD t undef) := by
  by_cases hex : ∃ (j : Nat) (p : Oper), ops[j]? = some p /\ p.dst = some t
  · obtain ⟨j, p, hj, hpd⟩ := hex
    obtain ⟨h1, h2, h3⟩ := hok.wait i o hi j p t hj hpd ht; exact hw.wrote t ⟨j, p, hj, hpd, hp j h2⟩
  · have e : rget Rb t = rget R t := by
      rw [hw.rb t fun j p hj _ hd => hex ⟨j, p, hj, hd⟩, hRA]
      exact ly _ _ _ _ fun j p hj hd => hex ⟨j, p, by simpa using hj, hd⟩
    rw [e]; exact hw.kept t fun ⟨j, p, hj, hd, _⟩ => hex ⟨j, p, hj, hd⟩
theorem looksA (hok : DrawOkB n ops bm) (hRA : RA = lexR ops.toList xs R) (hxl : xs.length = ops.size) (hw : WayC P n ops bm Kx Ψ H0 R RA listed Rb Hk g a w) {i : Nat} {o : Oper} (hi : ops[i]? = some o) (hbi : bm.getD i false = false) {t : Tmp} (ht : t ∈ o.looksAt ops) :
    rget (lexR (ops.toList.take i) (xs.take i) R) t = rget Rb t := by
  by_cases hex : ∃ (j : Nat) (p : Oper), ops[j]? = some p /\ p.dst = some t
  · obtain ⟨j, p, hj, hpd⟩ := hex
    obtain ⟨h1, h2, h3⟩ := hok.wait i o hi j p t hj hpd ht
    have hbj : bm.getD j false = false := by rcases h3 with h3 | h3; · rw [hbi] at h3; cases h3
                                             · exact h3
    have hjl := (Array.getElem?_eq_some_iff.1 hj).1; have hx := List.getElem?_eq_getElem (show j < xs.length by omega)
    rw [agb hok.nodup h1 hj hpd hx, hw.rb t fun k q hk hbk hd => by
      have := nj hok.nodup hk hj hd hpd; subst this; rw [hbj] at hbk; cases hbk]
    rw [hRA, yd hok.nodup hj hpd hx]
  · have e1 := ly ops.toList xs R t fun j p hj hd => hex ⟨j, p, by simpa using hj, hd⟩
    have e2 := ly (ops.toList.take i) (xs.take i) R t fun j p hj hd => by
      rw [List.getElem?_take] at hj; split at hj
      · exact hex ⟨j, p, by simpa using hj, hd⟩
      · cases hj
    rw [hw.rb t fun j p hj _ hd => hex ⟨j, p, hj, hd⟩, hRA, e1, e2]
theorem putB (hok : DrawOkB n ops bm) (hRA : RA = lexR ops.toList xs R) (hxl : xs.length = ops.size) (hw : WayC P n ops bm Kx Ψ H0 R RA listed Rb Hk g a w) {i : Nat} {o : Oper} (hi : ops[i]? = some o) (hp : ∀ j ∈ preds ops i, listed.getD j false = true) (hbi : bm.getD i false = false)
    {x : AV} (hx : xs[i]? = some x) {v : Value} {g' : Gh} {w' : World} (hl : g.le g') (hr : Rep g' x v) (hs : Sim g' Hk w') : WayC P n ops bm Kx Ψ H0 R RA (listed.setIfInBounds i true) Rb Hk g' (a.put o.dst v) w' := by
  have hil : i < listed.size := by rw [hw.size]; exact (Array.getElem?_eq_some_iff.1 hi).1
  have hget : ∀ (t : Nat), o.dst ≠ some t -> (a.put o.dst v).tmps.getD t undef = a.tmps.getD t undef := fun t ht => by
    cases hd : o.dst with
    | none => rfl
    | some d =>
      have hne : d ≠ t := fun e => ht (by rw [hd, e])
      simp [Act.put, Array.getD_eq_getD_getElem?, Array.getElem?_setIfInBounds_ne hne]
  have hself : ∀ (t : Nat), o.dst = some t -> (a.put o.dst v).tmps.getD t undef = v := fun t ht => by
    have hlt : t < a.tmps.size := by rw [hw.tmps]; exact hok.small i o t hi ht
    rw [ht]; simp [Act.put, Array.getD_eq_getD_getElem?, hlt]
  refine ⟨by simpa using hw.size, zm hil hw.closed hp, ?_, hw.rb, ?_, ?_, hs, fun t ht => ?_, fun t ht => ?_, fun hno => hw.fresh fun j hj => ?_, fun hst => hw.stab (by
    obtain ⟨k, k1, k2, k3⟩ := hst; refine ⟨k, k1, k2, ?_⟩; rw [jf hil] at k3; split at k3
    · cases k3
    · exact k3)⟩
  · rw [zy (q := left bm listed) fun j _ => ?_]
    · exact hw.chain
    · unfold left
      rw [jf hil]; split
      · rename_i hij; subst hij; rw [hbi]; rfl
      · rfl
  · cases hd : o.dst <;> simpa [Act.put, hd] using hw.defers
  · cases hd : o.dst <;> simpa [Act.put, hd] using hw.tmps
  · rw [qk hil hi] at ht
    by_cases hd : o.dst = some t
    · rw [hself t hd, hw.rb t fun k q hk hbk hkd => by
        have := nj hok.nodup hk hi hkd hd; subst this; rw [hbi] at hbk; cases hbk]
      rw [hRA, yd hok.nodup hi hd hx]; exact hr
    · rw [hget t hd]
      exact Rep.mono hl _ _ (hw.wrote t (ht.resolve_left hd))
  · rw [qk hil hi, not_or] at ht
    rw [hget t ht.1]; exact Rep.mono hl _ _ (hw.kept t ht.2)
  · have := hno j hj
    rw [jf hil] at this; split at this
    · cases this
    · exact this
theorem stepA (hok : DrawOkB n ops bm) (hRA : RA = lexR ops.toList xs R) (hxl : xs.length = ops.size) (hw : WayC P n ops bm Kx Ψ H0 R RA listed Rb Hk g a w) {i : Nat} (hready : i ∈ Region.ready .any ops listed) (hbi : bm.getD i false = false)
    (hlex : ∀ o, ops[i]? = some o -> ∃ x, xs[i]? = some x /\ ∀ H', Ψ H' -> (earlyB ops bm i = true -> H' = H0) -> StepQ P n ops H' o (lexR (ops.toList.take i) (xs.take i) R) x) {Q : Exit -> Act -> World -> Prop} {K : Act -> World -> Prop}
    (hk : ∀ g' a' w', g.le g' -> WayC P n ops bm Kx Ψ H0 R RA (listed.setIfInBounds i true) Rb Hk g' a' w' -> K a' w') : wpOp P ops Q i K a w := by
  obtain ⟨hun, ⟨o, ho⟩, hp⟩ := w9 hready; obtain ⟨x, hx, hstep⟩ := hlex o ho
  replace hstep := hstep Hk (hw.stab ⟨i, (Array.getElem?_eq_some_iff.1 ho).1, hbi, by
    have hil : i < listed.size := by rw [hw.size]; exact (Array.getElem?_eq_some_iff.1 ho).1
    simp [hil] at hun ⊢; exact hun⟩) fun he => hw.fresh fun j hj => by
    cases hlj : listed.getD j false with
    | false => rfl
    | true =>
      have hil : i < listed.size := by rw [hw.size]; exact (Array.getElem?_eq_some_iff.1 ho).1
      have hunf : listed.getD i false = false := by simp [hil] at hun ⊢; exact hun
      have hjs : j < ops.size := by
        rw [<- hok.len]; rcases Nat.lt_or_ge j bm.length with h | h
        · exact h
        · rw [List.getD_eq_getElem?_getD, List.getElem?_eq_none h] at hj; cases hj
      unfold earlyB at he
      cases hf : firstB bm 0 with
      | none => exact absurd hj (by rw [ai5 hf j]; decide)
      | some f =>
        rw [hf] at he; obtain ⟨hfb, hfm⟩ := ag4 hf
        have hfl : listed.getD f false = true := by
          rcases Nat.lt_or_ge f j with h | h
          · exact wn hok hw.closed (j - f - 1) j f (by omega) hjs (hw.closed j hlj) hj hfb
          · rcases Nat.eq_or_lt_of_le h with h | h
            · rw [<- h]; exact hlj
            · exact absurd hj (by rw [hfm j h]; decide)
        have := wj hw.closed f _ (hw.closed f hfl) i (anyBeq.1 he); rw [hunf] at this; cases this
  have hlook : ∀ t ∈ o.looksAt ops, Rep g (rget (lexR (ops.toList.take i) (xs.take i) R) t) (a.tmps.getD t undef) := fun t ht => by
    rw [looksA hok hRA hxl hw ho hbi ht]; exact looksB hok hRA hw ho hp ht
  have hpre : Pre n (ronly o.op (lexR (ops.toList.take i) (xs.take i) R)) Hk g a w := ⟨hw.defers, hw.tmps, fun t => by
    unfold ronly; by_cases ht : t ∈ opTmps o.op
    · rw [ub _ _ _ ht]; exact hlook t (ab7 ht)
    · rw [tz _ _ _ ht]; simp only [Rep], hw.sim⟩
  unfold Go.wpOp; simp only [ho]
  have run : Stp P n o.op o.type (ronly o.op (lexR (ops.toList.take i) (xs.take i) R)) Hk x -> o.wp P a w K Q := fun hs =>
    hs o rfl rfl g a w hpre K Q fun v w' g' hl hr hsim => hk g' _ w' hl (putB hok hRA hxl hw ho hp hbi hx hl hr hsim)
  unfold StepQ at hstep; split at hstep
  · rename_i hg
    rw [if_pos (by simp [Region.wanted, hg])]
    exact .inl (run hstep)
  · rename_i j want hg
    obtain ⟨dj, hdj, hcase⟩ := hstep; have hl := hlook dj (by unfold Oper.looksAt; rw [hg]; exact List.mem_append_right _ (by simp [hdj]))
    rcases hcase with ⟨h1, h2⟩ | ⟨h1, rfl⟩
    · rw [h1] at hl
      simp only [Rep] at hl
      have hy : yielded ops a.tmps j = some want := by
        unfold yielded; rw [hdj]; simp only [Option.bind_some]; rw [Array.getD_eq_getD_getElem?] at hl
        cases ht : a.tmps[dj]? with
        | none => rw [ht] at hl; simp [undef] at hl
        | some u => rw [ht] at hl; simp at hl; subst hl; rfl
      rw [if_pos (by simp [Region.wanted, hg, hy])]
      exact .inl (run h2)
    · have hy : yielded ops a.tmps j ≠ some want := by
        unfold yielded; rw [hdj]; simp only [Option.bind_some]; rcases h1 with h1 | h1 <;> (rw [h1] at hl; simp only [Rep] at hl; rw [Array.getD_eq_getD_getElem?] at hl)
        · cases ht : a.tmps[dj]? with
          | none => simp
          | some u => rw [ht] at hl; simp at hl; subst hl; simp
        · cases ht : a.tmps[dj]? with
          | none => simp
          | some u => rw [ht] at hl; simp at hl; subst hl; simp [undef]
      rw [if_neg (by simp [Region.wanted, hg, hy])]
      exact hk g _ w (.refl g) (putB hok hRA hxl hw ho hp hbi hx (.refl g) (by simp only [Rep]) hw.sim)
theorem stepB (hok : DrawOkB n ops bm) (hRA : RA = lexR ops.toList xs R) (hw : WayC P n ops bm Kx Ψ H0 R RA listed Rb Hk g a w) {i : Nat} (hready : i ∈ Region.ready .any ops listed) (hbi : bm.getD i false = true) {g0 : Gh} (hg0 : g0.le g) {K : Act -> World -> Prop}
    (hk : ∀ Rb' Hk' g' a' w', g.le g' -> WayC P n ops bm Kx Ψ H0 R RA (listed.setIfInBounds i true) Rb' Hk' g' a' w' -> K a' w') : wpOp P ops (Post n g0 Kx) i K a w := by
  obtain ⟨hun, ⟨o, ho⟩, hp⟩ := w9 hready; have hio := (Array.getElem?_eq_some_iff.1 ho).1; have hil : i < listed.size := by rw [hw.size]; exact hio
  have hunf : listed.getD i false = false := by simp [hil] at hun ⊢; exact hun
  have hrem : remC ops bm (left bm listed) 0 ops.toList = (o, lateB ops bm i) :: remC ops bm (left bm (listed.setIfInBounds i true)) 0 ops.toList := by
    refine aik (k := 0) (d := i) (Nat.zero_add i).symm (by simpa using ho) (by unfold left; rw [hbi, hunf]; rfl) (by unfold left; rw [jf hil, if_pos rfl]; simp) (fun j hj => ?_) (fun j hj => ?_)
    · cases hbj : bm.getD j false with
      | false => unfold left; rw [hbj]; exact ⟨rfl, rfl⟩
      | true =>
        have hl := wn hok hw.closed (i - j - 1) i j (by omega) hio hp hbi hbj
        unfold left; rw [jf hil, if_neg (by omega), hl, hbj]
        exact ⟨rfl, rfl⟩
    · unfold left
      rw [jf hil, if_neg (by omega)]
  have hchain := hw.chain; rw [hrem, AWC] at hchain; have hdec : ∀ t, Decidable (DstL ops listed t) := fun t => Classical.propDecidable _
  generalize hRc : ((List.range n).map fun t => (t, if DstL ops listed t then rget Rb t else rget R t)) = Rc
  have hRc2 : ∀ t, rget (lonly ops o Rb ++ Rc) t = if t < n then (if DstL ops listed t then rget Rb t else rget R t) else rget (lonly ops o Rb ++ Rc) t := fun t => by
    split
    · rename_i htn
      rw [lonly, v5 (fun t => rget Rb t)]
      split
      · rename_i hlk
        split
        · rfl
        · rename_i hnd
          by_cases hex : ∃ (j : Nat) (p : Oper), ops[j]? = some p /\ p.dst = some t
          · obtain ⟨j, p, hj, hpd⟩ := hex
            obtain ⟨h1, h2, h3⟩ := hok.wait i o ho j p t hj hpd hlk; exact absurd ⟨j, p, hj, hpd, hp j h2⟩ hnd
          · rw [hw.rb t fun j p hj _ hd => hex ⟨j, p, hj, hd⟩, hRA]
            exact ly _ _ _ _ fun j p hj hd => hex ⟨j, p, by simpa using hj, hd⟩
      · rw [<- hRc]
        exact ub (fun t => if DstL ops listed t then rget Rb t else rget R t) _ _ (List.mem_range.2 htn)
    · rfl
  have hpre : Pre n (lonly ops o Rb ++ Rc) Hk g a w := ⟨hw.defers, hw.tmps, fun t => by
    by_cases htn : t < n
    · rw [hRc2, if_pos htn]
      split
      · rename_i hd; exact hw.wrote t hd
      · rename_i hd; exact hw.kept t hd
    · rw [lonly, v5 (fun t => rget Rb t)]
      split
      · rename_i hlk; exact looksB hok hRA hw ho hp hlk
      · rw [<- hRc, tz _ _ _ (by simp; omega)]; simp only [Rep], hw.sim⟩
  have hrun := hchain Rc (fun e R' H' => e = .normal /\ ∃ x, R' = pushR o x (lonly ops o Rb ++ Rc) /\ (lateB ops bm i = true \/ Ψ H') /\ AWC P n ops Kx Ψ (remC ops bm (left bm (listed.setIfInBounds i true)) 0 ops.toList) (pushR o x Rb) H') (fun x H' hf hb => ⟨rfl, x, rfl, hf, hb⟩) g a w hpre
  have hdone : ∀ a2 w2, Post n g (fun e R' H' => e = .normal /\ ∃ x, R' = pushR o x (lonly ops o Rb ++ Rc) /\ (lateB ops bm i = true \/ Ψ H') /\ AWC P n ops Kx Ψ (remC ops bm (left bm (listed.setIfInBounds i true)) 0 ops.toList) (pushR o x Rb) H') .normal a2 w2 -> K a2 w2 := by
    rintro a2 w2 ⟨R', H', g', ⟨_, x, rfl, hf, hb⟩, hl, hpost⟩; refine hk (pushR o x Rb) H' g' a2 w2 hl ⟨by simpa using hw.size, zm hil hw.closed hp, hb, fun t ht => ?_, hpost.defers, hpost.size, hpost.sim, fun t ht => ?_, fun t ht => ?_, fun hno => absurd (hno i hbi) (by rw [jf hil, if_pos rfl]; decide), fun hst => ?_⟩
    · rw [tq, if_neg (ht i o ho hbi)]
      exact hw.rb t ht
    · rw [qk hil ho] at ht
      have := hpost.regs t; rw [tq] at this ⊢; by_cases hd : o.dst = some t
      · rw [if_pos hd] at this ⊢; exact this
      · rw [if_neg hd] at this ⊢
        obtain hdl := ht.resolve_left hd; obtain ⟨j, p, hj, hpd, _⟩ := id hdl; rw [hRc2, if_pos (hok.small j p t hj hpd), if_pos hdl] at this; exact this
    · rw [qk hil ho, not_or] at ht
      have := hpost.regs t; rw [tq, if_neg ht.1] at this; by_cases htn : t < n
      · rw [hRc2, if_pos htn, if_neg ht.2] at this
        exact this
      · have h0 := hw.kept t ht.2
        have e1 : a.tmps.getD t undef = undef := by
          have hh := hw.tmps; rw [Array.getD_eq_getD_getElem?, Array.getElem?_eq_none (hh ▸ Nat.le_of_not_lt htn : a.tmps.size <= t)]; rfl
        have e2 : a2.tmps.getD t undef = undef := by
          have hh := hpost.size; rw [Array.getD_eq_getD_getElem?, Array.getElem?_eq_none (hh ▸ Nat.le_of_not_lt htn : a2.tmps.size <= t)]; rfl
        rw [e1] at h0; rw [e2]; exact Rep.mono hl _ _ h0
    · obtain ⟨q, q1, q2, q3⟩ := hst
      rcases hf with hf | hf
      · have hq := List.all_eq_true.1 hf q (List.mem_range.2 q1)
        rw [q2, Bool.false_or] at hq; have := wj hw.closed i _ hp q (anyBeq.1 hq); rw [jf hil] at q3; split at q3
        · cases q3
        · rw [this] at q3; cases q3
      · exact hf
  unfold wpList at hrun; unfold Go.wpOp; simp only [ho]; split
  · rename_i hwant
    rw [if_pos hwant] at hrun; rcases hrun with h | h
    · refine .inl (aem (fun a2 w2 hq => hdone a2 w2 (by simpa [wpList] using hq)) (fun e a2 w2 hne hq => ?_) h)
      obtain ⟨_, _, _, ⟨he, _⟩, _⟩ := hq; exact absurd he hne
    · obtain ⟨_, _, _, _, _, _, ⟨he, _⟩, _⟩ := h
      cases he
  · rename_i hwant
    rw [if_neg hwant] at hrun; exact hdone _ _ (by simpa [wpList] using hrun)
theorem akg {bm : List Bool} (hΨ : Ψ H) (hbm : bm.length = ops.toList.length) (hok : drawOkB n ops bm = true) (h : AWN P n ops Kx Ψ H bm 0 [] bm ops.toList R) : AnyW P n ops Kx R H := by
  intro g a w hp; have hok := aej hok; obtain ⟨xs, hxl, hlex, hch⟩ := rt h (hbm); simp only [Array.length_toList] at hxl; simp only [Nat.zero_add] at hlex; rw [List.nil_append] at hch; have hcount := @adc
  have key : ∀ (fuel : Nat) (listed : Array Bool) (Rb : Regs) (Hk : AHeap) (g' : Gh) (a' : Act) (w' : World), g.le g' -> WayC P n ops bm Kx Ψ H R (lexR ops.toList xs R) listed Rb Hk g' a' w' -> (∃ k, k <= fuel /\ (listed.toList.filter (!·)).length = k) -> wpAny P .any ops (Post n g Kx) fuel listed a' w' := by
    have hend : ∀ (listed : Array Bool) (Rb : Regs) (Hk : AHeap) (g' : Gh) (a' : Act) (w' : World), g.le g' -> WayC P n ops bm Kx Ψ H R (lexR ops.toList xs R) listed Rb Hk g' a' w' -> (∀ i, i < ops.size -> listed.getD i false = true) -> Post n g Kx .normal a' w' := by
      intro listed Rb Hk g' a' w' hl hw hall; have hc := hw.chain; rw [aea fun j hj => by rw [Nat.zero_add, left, hall j (by simpa using hj)]; simp] at hc
      refine ⟨Rb, Hk, g', hc, hl, hw.defers, hw.tmps, fun t => ?_, hw.sim⟩
      by_cases hex : ∃ (j : Nat) (p : Oper), ops[j]? = some p /\ p.dst = some t
      · obtain ⟨j, p, hj, hpd⟩ := hex
        exact hw.wrote t ⟨j, p, hj, hpd, hall j (Array.getElem?_eq_some_iff.1 hj).1⟩
      · rw [hw.rb t fun j p hj _ hd => hex ⟨j, p, hj, hd⟩, ly _ _ _ _ fun j p hj hd => hex ⟨j, p, by simpa using hj, hd⟩]
        exact hw.kept t fun ⟨j, p, hj, hd, _⟩ => hex ⟨j, p, hj, hd⟩
    intro fuel
    induction fuel with
    | zero =>
      intro listed Rb Hk g' a' w' hl hw hcnt; obtain ⟨k, hk0, hk⟩ := hcnt
      have hall : ∀ i, i < ops.size -> listed.getD i false = true := fun i hi => by
        cases hli : listed.getD i false with
        | true => rfl
        | false =>
          have := hcount listed i (by rw [hw.size]; exact hi) hli
          omega
      refine ⟨?_, hend _ _ _ _ _ _ hl hw hall⟩; rw [List.eq_nil_iff_forall_not_mem]; intro i hi; obtain ⟨hu, o, ho, _⟩ := mem_ready.1 hi; have hlt := (Array.getElem?_eq_some_iff.1 ho).1; have := hall i hlt; have hil : i < listed.size := by rw [hw.size]; exact hlt
      simp [hil] at hu this
      rw [hu] at this; cases this
    | succ fuel ih =>
      intro listed Rb Hk g' a' w' hl hw hcnt; obtain ⟨k, hk0, hk⟩ := hcnt; refine ⟨fun hready => hend _ _ _ _ _ _ hl hw (aiv hok hw.size hready), fun i hi => ?_⟩
      obtain ⟨hun, o, ho, hafter⟩ := mem_ready.1 hi; have hlt := (Array.getElem?_eq_some_iff.1 ho).1; have hil : i < listed.size := by rw [hw.size]; exact hlt
      have hunf : listed.getD i false = false := by simp [hil] at hun ⊢; exact hun
      have hc := hcount listed i hil hunf
      cases hbi : bm.getD i false with
      | false =>
        refine stepA hok rfl hxl hw hi hbi (fun o' ho' => ?_) fun g2 a2 w2 hl2 hw2 => ih _ _ _ _ _ _ (hl.trans hl2) hw2 ⟨_, by omega, rfl⟩
        have hbl : i < bm.length := by rw [hok.len]; exact hlt
        refine hlex i o' (by simpa using ho') ?_
        rw [List.getElem?_eq_getElem hbl]; rw [List.getD_eq_getElem?_getD, List.getElem?_eq_getElem hbl] at hbi; simpa using hbi
      | true => exact stepB hok rfl hw hi hbi hl fun Rb' Hk' g2 a2 w2 hl2 hw2 => ih _ _ _ _ _ _ (hl.trans hl2) hw2 ⟨_, by omega, rfl⟩
  have hno : ∀ j, (Array.replicate ops.size false).getD j false = false := fun j => by
    simp [Array.getD_eq_getD_getElem?, Array.getElem?_replicate]
    split <;> simp
  have hnd : ∀ t, ¬ DstL ops (Array.replicate ops.size false) t := fun t ⟨j, o, _, _, hl⟩ => by rw [hno] at hl; cases hl
  refine key ops.size _ (lexR ops.toList xs R) H g a _ (.refl g) ⟨by simp, fun j hl => (by rw [hno] at hl; cases hl), ?_, fun _ _ => rfl, hp.defers, hp.size, hp.sim.same ⟨rfl, rfl, rfl⟩ rfl, fun t ht => absurd ht (hnd t), fun t _ => hp.regs t, fun _ => rfl, fun _ => hΨ⟩ ⟨_, ?_, rfl⟩
  · rw [ahh (m := bm) hbm fun j => by rw [Nat.zero_add, left, hno]; simp]
    exact hch
  · refine Nat.le_trans (List.length_filter_le _ _) ?_
    simp
theorem ai3 {bm : List Bool} {id : Nat} (hΨ : Ψ H) (hbm : bm.length = ops.toList.length) (hm : P.follows .mixedOrders = true) (hok : drawOkB n ops bm = true) (h : AWN P n ops Kx Ψ H bm 0 [] bm ops.toList R) : AW P n (.region id ops true) Kx R H :=
  fun g a w hp => wp_region_any hm (akg hΨ hbm hok h g a w hp)
end
section
variable {P : Program} {n : Nat} {ops : Array Oper} {Kx : Exit -> Regs -> AHeap -> Prop} {Ψ : AHeap -> Prop} {R : Regs} {H : AHeap} {rest : List Oper} {acc l : List (Oper × Bool)} {m : List Bool} {d : Tmp} {op : Op} {ty : TypeId} {pos : String} {af : Array Edge} {gd : Option (Nat × Bool)} {f : Bool}
theorem awn_nil {bm : List Bool} {k : Nat} (h : AWC P n ops Kx Ψ acc R H) : AWN P n ops Kx Ψ H bm k acc [] [] R := by rw [AWN]; exact h; intros; simp_all
theorem awn_b {bm : List Bool} {k : Nat} (h : AWN P n ops Kx Ψ H bm (k + 1) (acc ++ [(⟨some d, op, ty, pos, af, gd⟩, lateB ops bm k)]) m rest ((d, .unk) :: R)) : AWN P n ops Kx Ψ H bm k acc (true :: m) (⟨some d, op, ty, pos, af, gd⟩ :: rest) R := by rw [AWN, if_pos rfl]; exact h
theorem awn_b0 {bm : List Bool} {k : Nat} (h : AWN P n ops Kx Ψ H bm (k + 1) (acc ++ [(⟨none, op, ty, pos, af, gd⟩, lateB ops bm k)]) m rest R) : AWN P n ops Kx Ψ H bm k acc (true :: m) (⟨none, op, ty, pos, af, gd⟩ :: rest) R := by rw [AWN, if_pos rfl]; exact h
theorem awn_s {bm : List Bool} {k : Nat} {x : AV} (hs : ∀ H', Ψ H' -> Stp P n op ty (ronly op R) H' x) (hk : AWN P n ops Kx Ψ H bm (k + 1) acc m rest ((d, x) :: R)) : AWN P n ops Kx Ψ H bm k acc (false :: m) (⟨some d, op, ty, pos, af, none⟩ :: rest) R := by
  rw [AWN, if_neg (by simp)]; exact ⟨x, fun H' hP _ => hs H' hP, hk⟩
theorem awn_e {bm : List Bool} {k : Nat} {x : AV} (he : earlyB ops bm k = true) (hs : Stp P n op ty (ronly op R) H x) (hk : AWN P n ops Kx Ψ H bm (k + 1) acc m rest ((d, x) :: R)) : AWN P n ops Kx Ψ H bm k acc (false :: m) (⟨some d, op, ty, pos, af, none⟩ :: rest) R := by
  rw [AWN, if_neg (by simp)]; exact ⟨x, fun H' _ hH => by rw [hH he]; exact hs, hk⟩
theorem awc_nil (h : Kx .normal R H) : AWC P n ops Kx Ψ [] R H := h
theorem awc_cons (h : ∀ (Rx : Regs) (K1 : Exit -> Regs -> AHeap -> Prop), (∀ x H', (f = true \/ Ψ H') -> AWC P n ops Kx Ψ l ((d, x) :: R) H' -> K1 .normal ((d, x) :: (lonly ops ⟨some d, op, ty, pos, af, gd⟩ R ++ Rx)) H') -> AWL P n ops [⟨some d, op, ty, pos, af, gd⟩] K1 (lonly ops ⟨some d, op, ty, pos, af, gd⟩ R ++ Rx) H) :
    AWC P n ops Kx Ψ ((⟨some d, op, ty, pos, af, gd⟩, f) :: l) R H := h
theorem awc_cons0 (h : ∀ (Rx : Regs) (K1 : Exit -> Regs -> AHeap -> Prop), (∀ H', (f = true \/ Ψ H') -> AWC P n ops Kx Ψ l R H' -> K1 .normal (lonly ops ⟨none, op, ty, pos, af, gd⟩ R ++ Rx) H') -> AWL P n ops [⟨none, op, ty, pos, af, gd⟩] K1 (lonly ops ⟨none, op, ty, pos, af, gd⟩ R ++ Rx) H) :
    AWC P n ops Kx Ψ ((⟨none, op, ty, pos, af, gd⟩, f) :: l) R H := fun Rx K1 hk => h Rx K1 fun H' hf hb => hk .unk H' hf hb
theorem aw_drawp (Ψ : AHeap -> Prop) {id : Nat} (hΨ : Ψ H) (hm : P.follows .mixedOrders = true) (hneed : needB true ops = true) (hok : drawOkB n ops (bmask true ops) = true) (h : AWN P n ops Kx Ψ H (bmask true ops) 0 [] (bmask true ops) ops.toList R) : AW P n (.region id ops true) Kx R H :=
  ai3 hΨ (by rw [bmask, aac]) hm hok h
theorem aw_drawpx (ex : List Nat) (Ψ : AHeap -> Prop) {id : Nat} (hΨ : Ψ H) (hm : P.follows .mixedOrders = true) (hneed : (ops.toList.dropLast.any fun o => objOpX ex o.op) = true) (hok : drawOkB n ops (bmaskX ex ops) = true) (h : AWN P n ops Kx Ψ H (bmaskX ex ops) 0 [] (bmaskX ex ops) ops.toList R) : AW P n (.region id ops true) Kx R H :=
  ai3 hΨ (by rw [bmaskX, zr]) hm hok h
end
end Go.Am.DC
