/-
  The abstract machine: a variable that is written once alone. No program in sight.
-/
import Derived.Test.YtbciofnejefkiaaAmFn
set_option linter.unusedSimpArgs false
set_option linter.unusedVariables false
namespace Go.Am
open Go
section
variable {P : Program} {n : Nat} {K : Exit -> Regs -> AHeap -> Prop} {R : Regs} {H : AHeap} {ops : Array Oper} {rest : List Oper} {ty : TypeId} {d : Tmp} {pos : String} {af : Array Edge}
theorem Ent.seal_var {i o : Nat} {xs : List AV} (ho : H o = none) : Ent ((i, .ptr o 0) :: R) (H.set o (.cel xs)) ((i, .pce xs 0) :: R) H := by
  refine (Ent.seal_ptr (i := i) (o := o) (k := 0) (by simp [rget]) (arn _ _ _)).trans ?_
  rw [ars ho]
  exact fun g t w h1 h2 => ⟨g, .refl g, fun j => by
    have := h1 j; simp only [rget] at this ⊢; by_cases hb : Nat.beq i j = true
    · simp only [hb, if_true] at this ⊢; exact this
    · simp only [hb, Bool.false_eq_true, if_false] at this ⊢; exact this, h2⟩
theorem aoj {e : TypeId} {x : Operand} {xs : List AV} (hdn : Nat.blt d n = true) (hx : am R x = .agg xs) (h1 : xs.all AV.one1 = true)
    (hk : AWL P n ops rest K ((d, .pce xs 0) :: R) H) : AWL P n ops (⟨some d, .box e x, ty, pos, af, none⟩ :: rest) K R H :=
  afc hdn hx h1 fun o' ho => qr (Ent.seal_var ho) hk
theorem ao8 {t : TypeId} {i : Tmp} {y : Operand} {ob m : Nat} {xs ys : List AV} {H0 : AHeap} [hA : AggT P t m] (hx : rget R i = .ptr ob 0) (hy : am R y = .agg ys) (hH : H = H0.set ob (.cel xs)) (ho : H0 ob = none) (hm : ys.length = m) (h1 : ys.all AV.one1 = true) (hl : xs.length = m)
    (hcont : AWL P n ops rest K ((i, .pce ys 0) :: R) H0) : AWL P n ops (⟨none, .store t (.tmp i) y, ty, pos, af, none⟩ :: rest) K R H := by
  refine aex (x := .tmp i) (k := 0) hx hy hH hm h1 (by omega) (qr (R' := (i, .pce ys 0) :: R) (H' := H0) ?_ hcont)
  have e : putAt xs 0 ys = ys := by simp [putAt]; omega
  rw [e]; have := Ent.seal_ptr (R := R) (H := H0.set ob (.cel ys)) (i := i) (o := ob) (k := 0) hx (arn _ _ _)
  rwa [ars ho] at this
end
section
variable {R : Regs} {H : AHeap}
theorem amj {g : Gh} {len : Nat} {x : AO} {v : Value} (hm : ∀ es, x ≠ .mpo es) (h : Rep g (sealAV len x) v) : one v := by
  cases x with
  | byt bs => exact rp (by rfl) h
  | cel xs => exact rp (by rfl) h
  | mpo es => exact absurd rfl (hm es)
theorem Ent.seal_cell {p o k sz off len : Nat} {xs : List AV} {x : AO} (hpo : p ≠ o) (hp : H p = some (.cel xs)) (hH : H o = some x) (hk : xs[k]? = some (.vw o sz off len)) (hm : ∀ es, x ≠ .mpo es) (hl : off + len * sz <= x.len) (hsz : ∀ bs, x = .byt bs -> sz = 1) :
    Ent R H R ((H.erase o).set p (.cel (xs.set k (sealAV len (x.seg off (len * sz)))))) := fun g t w h1 h2 => by
  have hlt := (List.getElem?_eq_some_iff.1 hk).1; have hsegm : ∀ es, x.seg off (len * sz) ≠ .mpo es := fun es e => by cases x <;> simp_all [AO.seg]
  have hszs : ∀ bs, x.seg off (len * sz) = .byt bs -> sz = 1 := fun bs e => by cases x <;> simp_all [AO.seg]
  have hpe : (H.erase o) p = some (.cel xs) := by simp [AHeap.erase, hpo, hp]
  rcases h2.objs p _ hp with ⟨hv, hlo⟩ | ⟨l, c, e, fz, hlo, k1, k2, k3, k4⟩ | ⟨l, es, es', cl, hx, _⟩ | ⟨_, _, _, _, hq⟩
  · simp only [AO.void] at hv; subst hv; simp at hlt
  · have hall := (i6 _ _ _).1 k4.2
    obtain ⟨u, u1, u2, u3⟩ := hall k _ hk
    have fin : ∀ g' : Gh, g.le g' -> Sim g' (H.erase o) w -> Rep g' (sealAV len (x.seg off (len * sz))) u -> ∃ g', g.le g' /\ RegRel g' R t /\ Sim g' ((H.erase o).set p (.cel (xs.set k (sealAV len (x.seg off (len * sz)))))) w := fun g' hle hs hr => by
      refine ⟨g', hle, fun j => Rep.mono hle _ _ (h1 j), ?_⟩
      refine hs.write (w' := w) ⟨rfl, rfl, rfl⟩ hpe (hle.loc _ _ hlo) (fun _ _ => rfl) k1 k2 k3 ⟨by simpa using k4.1, (i6 _ _ _).2 fun i y hi => ?_⟩
      rw [List.getElem?_set] at hi; by_cases hik : k = i
      · subst hik
        rw [if_pos rfl, if_pos hlt] at hi
        cases hi
        exact ⟨u, u1, amj hsegm hr, hr⟩
      · rw [if_neg hik] at hi
        obtain ⟨v, v1, v2, v3⟩ := hall i y hi; exact ⟨v, v1, v2, Rep.mono hle _ _ v3⟩
    simp only [Rep] at u3; rcases u3 with ⟨lo, cap, q1, q2, q3, q4⟩ | ⟨k0, a, q2⟩
    · obtain ⟨c2, e2, fz2, r1, r2, r3, r4⟩ := oe h2 hH hm q1
      have hsim := h2.sealObj hH q1 r1; have hle := g.le_seal (h2.apart o x lo hH q1) (.cells c2 e2 fz2); refine fin _ hle hsim ?_; rw [q2]; exact adf (sz := sz) (Gh.seal_self _ _ _) ((r4.seg hl).mono hle) (abe hl hm) hszs q3
    · refine fin g (.refl g) (h2.erase o) ?_
      subst k0; rw [q2]
      cases x with
      | byt bs => simp [AO.seg, sealAV, Rep]
      | cel xs => simp [AO.seg, sealAV, Rep]
      | mpo es => exact absurd rfl (hm es)
  · cases hx
  · obtain ⟨_, _, he⟩ := hq.mp; cases he
theorem Ent.seal_cellC {p o k sz len : Nat} {xs ys : List AV} (hpo : p ≠ o) (hp : H p = some (.cel xs)) (hH : H o = some (.cel ys)) (hk : xs[k]? = some (.vw o sz 0 len)) (hl : ys.length = len * sz) : Ent R H R ((H.erase o).set p (.cel (xs.set k (.sls len ys)))) := by
  have := Ent.seal_cell (R := R) hpo hp hH hk (fun _ h => by cases h) (by simp [AO.len, hl]) (fun _ h => by cases h)
  rw [<- hl] at this; simpa [AO.seg, sealAV] using this
end
end Go.Am
