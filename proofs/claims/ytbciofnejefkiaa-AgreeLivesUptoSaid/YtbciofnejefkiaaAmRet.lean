/-
  The abstract machine: objects that are let go; results that lie in cells. No program in sight.
-/
import Derived.Test.YtbciofnejefkiaaAmRow
import Derived.Test.YtbciofnejefkiaaAmSlc
set_option linter.unusedVariables false
set_option linter.unusedSimpArgs false
namespace Go.Am
open Go
section
variable {P : Program} {n : Nat} {R R' : Regs} {H H0 : AHeap}
theorem arr {K : AHeap} {a b : Nat} {y : AO} (h1 : K a = none) (h2 : K b = some y) : b ≠ a := fun e => by subst e; rw [h1] at h2; cases h2
theorem art {K : AHeap} {a b : Nat} {y : AO} (h1 : K b = none) (h2 : K a = some y) : b ≠ a := Ne.symm (arr h1 h2)
theorem arq {K : AHeap} {a b : Nat} {y : AO} (h1 : b ≠ a) (h2 : K b = some y) : (K.erase a) b = some y := by simpa [AHeap.erase, h1] using h2
def Sub (H0 H : AHeap) : Prop := ∀ p y, H0 p = some y -> H p = some y
theorem Sub.refl (H : AHeap) : Sub H H := fun _ _ h => h
theorem Sub.set {o : Nat} {x : AO} (h1 : H o = some x) (h2 : ∀ p y, p ≠ o -> H0 p = some y -> H p = some y) : Sub (H0.set o x) H := fun p y hp => by
  by_cases e : p = o
  · subst e; rw [arn] at hp; cases hp; exact h1
  · rw [aru _ e] at hp; exact h2 p y e hp
theorem Ent.gc (h : Sub H0 H) : Ent R H R H0 := fun g t w h1 h2 => by
  obtain ⟨N, hN⟩ := h2.fin; refine ⟨g, .refl g, h1, h2.os, h2.tape, h2.output, h2.sealed, fun p y hp => h2.objs p y (h p y hp), fun o1 o2 x1 x2 l1 l2 k1 k2 => h2.inj _ _ _ _ _ _ (h _ _ k1) (h _ _ k2), fun p y l hp => h2.apart p y l (h _ _ hp), N, fun p hp => ⟨?_, (hN p hp).2⟩⟩
  cases e : H0 p with
  | none => rfl
  | some y => have := h p y e; rw [(hN p hp).1] at this; cases this
theorem Ent.tog (hs : RSub R' R) (hh : Sub H0 H) : Ent R H R' H0 := (Ent.sub H hs).trans (Ent.gc hh)
theorem Ent.seal_ptr {o k i : Nat} {xs : List AV} (hi : rget R i = .ptr o k) (hH : H o = some (.cel xs)) : Ent R H ((i, .pce xs k) :: R) (H.erase o) := fun g t w h1 h2 => by
  have hv := h1 i; rw [hi] at hv; simp only [Rep] at hv; obtain ⟨l, k1, k2⟩ := hv; obtain ⟨c, e, fz, q1, q2, q3, q4⟩ := oe h2 hH (fun _ h => by cases h) k1
  have hle := g.le_seal (h2.apart o _ l hH k1) (.cells c e fz); refine ⟨_, hle, fun j => ?_, h2.sealObj hH k1 q1⟩
  simp only [rget]; by_cases hb : Nat.beq i j = true
  · rw [if_pos hb, <- Nat.eq_of_beq_eq_true hb]
    simp only [Rep]; exact ⟨l.blk, l.base, c, e, fz, k2, Gh.seal_self _ _ _, (RepC.mono hle q4).2⟩
  · rw [if_neg hb]; exact Rep.mono hle _ _ (h1 j)
theorem W.pce {xs ys : List AV} {k : Nat} (h : WC xs ys) : W (.pce xs k) (.pce ys k) := fun g v hr => by
  simp only [Rep] at hr ⊢; obtain ⟨b, off, c, e, fz, h1, h2, h3⟩ := hr; refine ⟨b, off, c, e, fz, h1, h2, ?_⟩; rw [i6] at h3 ⊢; intro i y hy; have hlt : i < xs.length := by rw [h.1]; exact (List.getElem?_eq_some_iff.1 hy).1
  have hx := List.getElem?_eq_getElem hlt; obtain ⟨u, e1, e2, e3⟩ := h3 i _ hx; exact ⟨u, e1, e2, h.2 i _ y hx hy g u e3⟩
theorem aro (i : Nat) {o : Nat} {xs : List AV} (ys : List AV) (hi : rget R i = .ptr o 0) (hH : H o = some (.cel xs)) (hw : WC xs ys) (hs : ∀ p y, H0 p = some y -> p ≠ o /\ H p = some y) : Ent R H ((i, .pce ys 0) :: R) H0 := by
  refine (Ent.seal_ptr hi hH).trans ((Ent.weakReg i (x := .pce xs 0) (by simp [rget]) (W.pce hw)).trans (Ent.trans (R2 := (i, .pce ys 0) :: R) (fun g t w h1 h2 => ⟨g, .refl g, fun j => ?_, h2⟩) (Ent.gc fun p y hp => ?_)))
  · have := h1 j
    simp only [rget] at this ⊢; split
    · rename_i e; rwa [if_pos e] at this
    · rename_i e; rwa [if_neg e, if_neg e] at this
  · obtain ⟨h1, h2⟩ := hs p y hp
    simpa [AHeap.erase, h1] using h2
theorem aqr {α : Type} {f : α -> AV} {l : List α} {i : Nat} {x : α} (h : l[i]? = some x) : (l.map f)[0 + i * 1]? = some (f x) := by simp [h]
def resV (tm : Array Value) (rv : ResultVar) : Sem Value := match rv with
  | .tmp t => pure (tm.getD t undef)
  | .cell p ty => do loadVar ty (← asAddr (tm.getD p undef))
theorem ag0 (fn : Func) (tm : Array Value) : results fn tm = (do let vs <- fn.results.mapM (resV tm); pure (if h : vs.size = 1 then vs[0] else .tuple vs)) := rfl
def RV1 (P : Program) (n : Nat) (R : Regs) (H : AHeap) (rv : ResultVar) (x : AV) : Prop :=
  ∀ g a w, Pre n R H g a w -> ∃ v, (resV a.tmps rv).run P w = .ok v w /\ Rep g x v
theorem gu {t : Tmp} {x : AV} (h : rget R t = x) : RV1 P n R H (.tmp t) x := fun g a w hp => ⟨_, rfl, h ▸ hp.regs t⟩
theorem dr {p : Tmp} {ty : TypeId} {k m : Nat} {xs ys : List AV} [hA : AggT P ty m] (hx : rget R p = .pce xs k) (hy : (xs.drop k).take m = ys) (hm : ys.length = m) (h0 : 0 < m) : RV1 P n R H (.cell p ty) (.agg ys) := fun g a w hp => by
  have hv := hp.regs p; rw [hx] at hv; simp only [Rep] at hv; obtain ⟨b, off, c, e, fz, he, h2, h3⟩ := hv; have hr : RepAt g ys c (off + k) := hy ▸ tx (qv h3 k) m; obtain ⟨u, hu, _⟩ := (i6 _ _ _).1 hr (m - 1) _ (List.getElem?_eq_getElem (by omega))
  have hsz := (Array.getElem?_eq_some_iff.1 hu).1; refine ⟨.agg ((c.toList.drop (off + k)).take m).toArray, ?_, ?_⟩
  · have := z0 (P := P) (t := ty) (m := m) (hp.sim.sealed _ _ h2) (k := off + k) (by omega)
    simp [Instr.loadAt, Instr.sureAddr] at this
    simp [resV, he, asAddr, this]
  · simp only [Rep]
    exact ⟨_, rfl, by simpa using aar hr hm⟩
theorem jp {fn : Func} {a : ResultVar} {x : AV} (h : fn.results = #[a]) (h1 : RV1 P fn.ntmps R H a x) : Ret P fn R H x := fun g ac w hp => by
  obtain ⟨v1, e1, r1⟩ := h1 g ac w hp; exact ⟨v1, by rw [ag0, h]; simp [Sem.run_bind, e1], r1⟩
theorem i7 {fn : Func} {a b : ResultVar} {x y : AV} (h : fn.results = #[a, b]) (h1 : RV1 P fn.ntmps R H a x) (h2 : RV1 P fn.ntmps R H b y) : Ret P fn R H (.tup [x, y]) := fun g ac w hp => by
  obtain ⟨v1, e1, r1⟩ := h1 g ac w hp; obtain ⟨v2, e2, r2⟩ := h2 g ac w hp; refine ⟨.tuple #[v1, v2], ?_, by simp only [Rep]; exact ⟨_, rfl, by simp only [RepL]; exact ⟨_, _, rfl, r1, _, _, rfl, r2, rfl⟩⟩⟩
  rw [ag0, h]; simp [Sem.run_bind, e1, e2]
end
section
variable {P : Program} {n : Nat} {ops : Array Oper} {K : Exit -> Regs -> AHeap -> Prop} {R : Regs} {H : AHeap} {rest : List Oper} {ty : TypeId} {pos : String} {af : Array Edge} {t : TypeId} {x y : Operand}
theorem an4 {ob k m : Nat} {xs ys : List AV} [hA : AggT P t m] (hx : am R x = .ptr ob k) (hy : am R y = .agg ys) (hH : H ob = some (.cel xs)) (hm : ys.length = m) (h1 : ys.all AV.one1 = true) (hk : k + m <= xs.length)
    (hcont : AWL P n ops rest K R (H.set ob (.cel (putAt xs k ys)))) : AWL P n ops (⟨none, .store t x y, ty, pos, af, none⟩ :: rest) K R H :=
  adh hx hy hH rfl h1 hA.s hm hk hcont
end
end Go.Am
