/-
  The abstract machine: a call that tells a plain value alone may look at live objects. No program in sight.
-/
import Derived.Test.YtbciofnejefkiaaAmMapI
import Derived.Test.YtbciofnejefkiaaAmHand
import Derived.Test.YtbciofnejefkiaaAmSorted
set_option linter.unusedVariables false
set_option linter.unusedSimpArgs false
namespace Go.Am
open Go Go.RowKit
def Gh.all (g : Gh) (w : World) : Gh := { w0 := g.w0, h := fun b => w.heap[b]?, loc := g.loc }
theorem Gh.le_all {g : Gh} {H : AHeap} {w : World} (hs : Sim g H w) : g.le (g.all w) := ⟨rfl, fun b o h => hs.sealed b o h, fun _ _ h => h⟩
theorem Sim.all {g : Gh} {H : AHeap} {w : World} (hs : Sim g H w) : Sim (g.all w) AHeap.empty w :=
  ⟨hs.os, hs.tape, hs.output, fun b o h => h, fun o x h => by simp [AHeap.empty] at h, fun o1 _ _ _ _ _ h => by simp [AHeap.empty] at h, fun o _ _ h => by simp [AHeap.empty] at h, let ⟨N, hN⟩ := hs.fin; ⟨N, fun o ho => ⟨rfl, (hN o ho).2⟩⟩⟩
theorem Below.ofAll {g g' : Gh} {H H' : AHeap} {w w' : World} (hs : Sim g H w) (hle : (g.all w).le g') (h : Sim g' H' w') : Below w.heap.size w w' := by
  have hw : g'.w0 = g.w0 := hle.w0
  have hb : ∀ k, k < w.heap.size -> w'.heap[k]? = w.heap[k]? := fun k hk => by
    have hk' : w.heap[k]? = some w.heap[k] := by simp [hk]
    rw [hk']; exact h.sealed k _ (hle.h k _ hk')
  refine ⟨by rw [h.os, hw, hs.os], by rw [h.tape, hw, hs.tape], by rw [h.output, hw, hs.output], ?_, hb⟩
  by_cases hz : w.heap.size = 0
  · omega
  · have hl := hb (w.heap.size - 1) (by omega)
    have hs : w.heap[w.heap.size - 1]? = some (w.heap[w.heap.size - 1]'(by omega)) := by simp
    rw [hs] at hl; have := (Array.getElem?_eq_some_iff.1 hl).1; omega
def Peek (H : AHeap) (x y : AV) : Prop := ∀ g w v, Sim g H w -> Rep g x v -> Rep (g.all w) y v
def PeekL (H : AHeap) (xs ys : List AV) : Prop := ∀ g w vs, Sim g H w -> RepL g xs vs -> RepL (g.all w) ys vs
theorem Peek.refl {H : AHeap} (x : AV) : Peek H x x := fun g w v hs hr => Rep.mono (Gh.le_all hs) _ _ hr
theorem PeekL.nil {H : AHeap} : PeekL H [] [] := fun g w vs _ h => by simpa [RepL] using h
theorem PeekL.cons {H : AHeap} {x y : AV} {xs ys : List AV} (h : Peek H x y) (k : PeekL H xs ys) : PeekL H (x :: xs) (y :: ys) := fun g w vs hs hr => by
  simp only [RepL] at hr ⊢; obtain ⟨u, us, rfl, h1, h2⟩ := hr; exact ⟨u, us, rfl, h g w u hs h1, k g w us hs h2⟩
theorem Peek.vw {H : AHeap} {o sz off m : Nat} {xs : List AV} (hH : H o = some (.cel xs)) (hl : off + m * sz <= xs.length) : Peek H (.vw o sz off m) (.sls m ((xs.drop off).take (m * sz))) := fun g w v hs hr => by
  simp only [Rep] at hr ⊢; rcases hr with ⟨l, cap, h1, h2, h3, h4⟩ | ⟨rfl, a, h2⟩
  · obtain ⟨c, e, fz, k1, k2, k3, k4⟩ := oe hs hH (fun _ h => by cases h) h1
    refine .inr ⟨l.blk, l.base + off, cap, c, e, fz, h2, h3, k1, ?_⟩; have h5 := tx (qv k4.2 off) (m * sz); exact RepAt.mono (Gh.le_all hs) _ _ _ h5
  · exact .inl ⟨rfl, by simp, a, 0, h2⟩
theorem Peek.ptr {H : AHeap} {o k : Nat} {xs : List AV} (hH : H o = some (.cel xs)) : Peek H (.ptr o k) (.pce xs k) := fun g w v hs hr => by
  simp only [Rep] at hr ⊢; obtain ⟨l, h1, h2⟩ := hr; obtain ⟨c, e, fz, k1, k2, k3, k4⟩ := oe hs hH (fun _ h => by cases h) h1
  exact ⟨l.blk, l.base, c, e, fz, h2, k1, RepAt.mono (Gh.le_all hs) _ _ _ k4.2⟩
theorem ACalls.peek {P : Program} {f : FuncId} {xs ys : List AV} {H : AHeap} {v : Value} (h : ACalls P f ys AHeap.empty fun r _ => r = .raw v) (hp : PeekL H xs ys) : ACalls P f xs H fun r H' => r = .raw v /\ H' = H := fun g w vals hr hs =>
  (h (g.all w) w vals (hp g w _ hs hr) hs.all).mono fun e w' ⟨u, r, H', g', e1, e2, e3, e4, e5⟩ => by
    subst e5; simp only [Rep] at e3; subst e3; exact ⟨u, .raw u, H, g, e1, .refl g, by simp only [Rep], hs.grown (Below.ofAll hs e2 e4), rfl, rfl⟩
theorem ACalls.seal_cel {P : Program} {f : FuncId} {args : List AV} {H : AHeap} {sz m : Nat} {xs : List AV} (hl : xs.length = m * sz)
    (h : ACalls P f args H fun r H' => ∃ o, H o = none /\ r = .vw o sz 0 m /\ H' = H.set o (.cel xs)) : ACalls P f args H fun r H' => r = .sls m xs /\ H' = H :=
  h.conv fun r H' ⟨o, ho, hr, hH⟩ => ⟨.sls m xs, H, ⟨rfl, rfl⟩, by subst hr hH; exact (Ent.seal_cel1 0 rfl hl ho).trans (Ent.sub H (RSub.cons rfl (RSub.nil _)))⟩
section
variable {P : Program} {n : Nat} {R : Regs} {H : AHeap} {ty t : TypeId} {x : Operand}
theorem apk {e sz bytes : Nat} {z : Value} [hT : SliceT P t e sz bytes z] {yh ym : Operand} {m : Nat} {xs : List AV} {kh km : IntKind} (hx : am R x = .sls m xs) {z1 z2 : Int} [n1 : NatOf z1 m] [n2 : NatOf z2 m] (hh' : am R yh = .raw (.int kh z1)) (hm' : am R ym = .raw (.int km z2)) :
    Stp P n (.slice t x none (some yh) (some ym)) ty R H (.slsx m xs) :=
  have hh : am R yh = .raw (.int kh (m : Int)) := by rw [hh', n1.h]
  have hm : am R ym = .raw (.int km (m : Int)) := by rw [hm', n2.h]
  du fun o ho ht g a w hp => by
    have hv := rv hp hx; simp only [Rep] at hv; rcases hv with ⟨rfl, rfl, ad, cap, he⟩ | ⟨b, off, cap, c, e', fz, he, hc, hg, hr'⟩
    · have hr := ad2 (P := P) (t := t) (ad := ad) (len := 0) (cap := cap) hp (zx R 0) ⟨yh, kh, rfl, hh⟩ ⟨ym, km, rfl, hm⟩ (Nat.le_refl _) (by omega)
      refine ⟨_, by simp only [execOp, ho, he, Sem.run_bind, hr, Result.andThen_ok, Sem.run_pure]; rfl, ?_⟩
      simp only [Rep]; exact .inl ⟨trivial, trivial, ad, by simp⟩
    · have hr := ad2 (P := P) (t := t) (ad := some ⟨b, off, none⟩) (len := m) (cap := cap) hp (zx R 0) ⟨yh, kh, rfl, hh⟩ ⟨ym, km, rfl, hm⟩ (Nat.zero_le _) (by omega)
      refine ⟨_, by simp only [execOp, ho, he, Sem.run_bind, hr, Result.andThen_ok, Sem.run_pure]; rfl, ?_⟩
      simp only [Rep]; refine .inr ⟨b, off, c, e', fz, ?_, hg, hr'⟩; by_cases h0 : m = 0
      · subst h0; simp
      · rw [if_neg h0]; simp [qd]
end
section
variable {P : Program} {n : Nat} {K : Exit -> Regs -> AHeap -> Prop} {R : Regs} {H : AHeap} {ops : Array Oper} {rest : List Oper} {ty : TypeId} {d : Tmp} {pos : String} {af : Array Edge}
theorem zz {t t2 e sz bytes : Nat} {z : Value} [hT : SliceT P t e sz bytes z] [h2 : NotIntT P t2] {s x : Operand} {bv : AV} {ob off k m : Nat} {as bs : List AV} (hdn : Nat.blt d n = true) (hs : am R s = .vw ob sz off k) (hx : am R x = bv) (hH : H ob = some (.cel as)) (hk0 : off + k * sz = as.length) (hb : SrcA H bv m sz (.cel bs))
    (h63 : k + m <= 9223372036854775807) (hby : (k + m) * bytes <= 140737488355328)
    (hk : ∀ o', H o' = none -> AWL P n ops rest K ((d, .vw o' sz 0 (k + m)) :: R) ((H.erase ob).set o' (.cel (as.drop off ++ bs)))) :
    AWL P n ops (⟨some d, .call { callee := .builtin .append, args := #[s, x], argTypes := #[t, t2] }, ty, pos, af, none⟩ :: rest) K R H :=
  abk (hT := hT) (h2 := h2) hdn hs hx hH (fun _ h => by cases h) (by simp [AO.len, hk0]) hb trivial h63 hby (fun o' ho' => by have := hk o' ho'; simpa [AO.drop, AO.app] using this)
theorem aoq {t t2 e sz bytes : Nat} {z : Value} [hT : SliceT P t e sz bytes z] [h2 : NotIntT P t2] {s x : Operand} {bv : AV} {k m : Nat} {as bs : List AV} (hdn : Nat.blt d n = true) (hs : am R s = .slsx k as) (hk0 : as.length = k * sz) (hx : am R x = bv) (hb : SrcA H bv m sz (.cel bs)) (h0 : 0 < m) (h63 : k + m <= 9223372036854775807) (hby : (k + m) * bytes <= 140737488355328)
    (hk : ∀ o', H o' = none -> AWL P n ops rest K ((d, .vw o' sz 0 (k + m)) :: R) (H.set o' (.cel (as ++ bs)))) : AWL P n ops (⟨some d, .call { callee := .builtin .append, args := #[s, x], argTypes := #[t, t2] }, ty, pos, af, none⟩ :: rest) K R H :=
  aj6 (hT := hT) (h2 := h2) (xd := .cel as) hdn hs hx (ahy H k sz as hk0) (al5 k as) hb trivial h0 h63 hby hk
end
theorem s8 {P : Program} {n : Nat} {K : Exit -> Regs -> AHeap -> Prop} {R : Regs} {H : AHeap} {c : Code} {o : Nat} {xs : List AV} (k sz : Nat) (hH : H o = some (.cel xs)) (hk : xs[k]? = some (.raw (.slice none 0 0)))
    (h : ∀ ow, H ow = none -> AW P n c K R ((H.set o (.cel (xs.set k (.vw ow sz 0 0)))).set ow (.cel []))) : AW P n c K R H := fun g a w hp => by
  obtain ⟨ow, ho, hl⟩ := hp.sim.fresh
  have hw : ∀ c j, RepAt g xs c j -> RepAt g (xs.set k (.vw ow sz 0 0)) c j := fun c j hr => by
    rw [i6] at hr ⊢; intro i x hi; rw [List.getElem?_set] at hi; by_cases e : k = i
    · subst e
      rw [if_pos rfl] at hi; split at hi
      · cases hi
        obtain ⟨u, u1, u2, u3⟩ := hr k _ hk; refine ⟨u, u1, u2, ?_⟩; simp only [Rep] at u3 ⊢; exact .inr ⟨trivial, none, u3⟩
      · cases hi
    · rw [if_neg e] at hi
      exact hr i x hi
  rcases hp.sim.objs o _ hH with ⟨hv, hlo⟩ | ⟨l, c, e, fz, hlo, k1, k2, k3, k4⟩ | ⟨l, es, es', cl, hx, _⟩ | ⟨_, _, _, _, hq⟩
  · simp only [AO.void] at hv
    rw [hv] at hk; cases hk
  · exact h ow ho g a w ⟨hp.defers, hp.size, hp.regs, (hp.sim.write (w' := w) (x := .cel (xs.set k (.vw ow sz 0 0))) ⟨rfl, rfl, rfl⟩ hH hlo (fun _ _ => rfl) k1 k2 k3 ⟨by rw [List.length_set]; exact k4.1, hw _ _ k4.2⟩).void hl rfl⟩
  · cases hx
  · obtain ⟨_, _, he⟩ := hq.mp; cases he
theorem Stp.weak {P : Program} {n : Nat} {op : Op} {ty : TypeId} {R : Regs} {H : AHeap} {x y : AV} (h : Stp P n op ty R H x) (hw : W x y) : Stp P n op ty R H y :=
  fun o h1 h2 g a w hp Kc Q hk => h o h1 h2 g a w hp Kc Q fun v w' g' hl hr hs => hk v w' g' hl (hw g' v hr) hs
theorem apg (a : Array Value) : W (.raw (.agg a)) (.agg (a.toList.map .raw)) := fun g v hr => by
  simp only [Rep] at hr ⊢; refine ⟨a, hr, ?_⟩; generalize a.toList = l
  induction l with
  | nil => simp only [List.map_nil, RepL]
  | cons x l ih => simp only [List.map_cons, RepL]; exact ⟨x, l, rfl, by simp only [Rep], ih⟩
theorem ako {x y b : AV} (h : W x y) : W (.tup [x, b]) (.tup [y, b]) := fun g v hr => by
  simp only [Rep, RepL] at hr ⊢; obtain ⟨a, e, u, us, e1, r1, u2, us2, e2, r2, e3⟩ := hr; exact ⟨a, e, u, us, e1, h g u r1, u2, us2, e2, r2, e3⟩
theorem aew {P : Program} {n : Nat} {R : Regs} {H : AHeap} {ty t k e : TypeId} {ik : IntKind} [hT : MapIT P t k e ik] {a : Array Value} [hZ : ZeroT P e (.agg a)] {m x : Operand} {o : Nat} {es : MI} {ks : Int} (hm : am R m = .mp o) (hx : am R x = .raw (.int ik ks)) (hH : H o = some (es.ao ik)) (hn : es.get ks = none) :
    Stp P n (.lookup t m x true) ty R H (.tup [.agg (a.toList.map .raw), .raw (.bool false)]) :=
  Stp.weak (xg hm hx hH (v := .raw (.agg a)) (by rw [hn]; rfl) (b := false) (by rw [hn]; rfl)) (ako (apg a))
theorem aq4 {P : Program} {H : AHeap} {f : FuncId} {fn : Func} {c : Code} {x0 x1 x2 x3 x4 x5 : AV} {Kc : AV -> AHeap -> Prop} (hf : P.funcs[f]? = some fn) (hb : fn.body = some c) (hn : 6 <= fn.ntmps)
    (h : AW P fn.ntmps c (kret P fn Kc) [(0, x0), (1, x1), (2, x2), (3, x3), (4, x4), (5, x5)] H) : ACalls P f [x0, x1, x2, x3, x4, x5] H Kc := rf hf hb (by simpa using hn) h
end Go.Am
