/-
  The abstract machine: variables, stores, literals, strings, tuples, calls, loops. No program in sight.
-/
import Derived.Test.YtbciofnejefkiaaAmRest
set_option linter.unusedSimpArgs false
set_option linter.unusedVariables false
namespace Go.Am
open Go
section
variable {P : Program} {n : Nat} {K : Exit -> Regs -> AHeap -> Prop} {R : Regs} {H : AHeap} {ops : Array Oper} {rest : List Oper} {ty : TypeId} {d : Tmp} {pos : String} {af : Array Edge}
def AV.one1 : AV -> Bool
  | .unk | .agg _ | .tup _ => false
  | .raw v => v.oneCell'
  | _ => true
theorem rp {g : Gh} {x : AV} {v : Value} (h1 : x.one1 = true) (h : Rep g x v) : one v := by
  cases x with
  | unk => cases h1
  | agg xs => cases h1
  | tup xs => cases h1
  | raw u => simp only [Rep] at h; subst h; exact h1
  | emp => simp only [Rep] at h; obtain ⟨a, rfl⟩ := h; rfl
  | bys bs => simp only [Rep] at h; rcases h with ⟨_, a, cap, rfl⟩ | ⟨b, off, cap, c, e, fz, rfl, _⟩ <;> rfl
  | sls m xs => simp only [Rep] at h; rcases h with ⟨_, _, a, cap, rfl⟩ | ⟨b, off, cap, c, e, fz, rfl, _⟩ <;> rfl
  | pby bs i => simp only [Rep] at h; obtain ⟨b, off, c, e, fz, rfl, _⟩ := h; rfl
  | pce xs i => simp only [Rep] at h; obtain ⟨b, off, c, e, fz, rfl, _⟩ := h; rfl
  | ptr o off => simp only [Rep] at h; obtain ⟨l, _, rfl⟩ := h; rfl
  | vw o sz off len => simp only [Rep] at h; rcases h with ⟨l, cap, _, rfl, _⟩ | ⟨_, a, rfl⟩ <;> rfl
  | mp o => simp only [Rep] at h; obtain ⟨l, _, rfl⟩ := h; rfl
  | fnc f a b => simp only [Rep] at h; obtain ⟨a, b, rfl, _⟩ := h; rfl
  | ifc t x => simp only [Rep] at h; obtain ⟨u, rfl, _⟩ := h; rfl
  | bysx bs => simp only [Rep] at h; rcases h with ⟨_, a, rfl⟩ | ⟨b, off, c, e, fz, rfl, _⟩ <;> rfl
  | slsx m xs => simp only [Rep] at h; rcases h with ⟨_, _, a, rfl⟩ | ⟨b, off, c, e, fz, rfl, _⟩ <;> rfl
  | str bs => simp only [Rep] at h; subst h; rfl
def AV.parts : AV -> List AV
  | .agg xs => xs
  | .raw (.agg cs) => cs.toList.map .raw
  | x => [x]
theorem aju {v : Value} (h : one v) : v.cells = #[v] := by cases v <;> first | rfl | (simp [one, Value.oneCell'] at h)
theorem t9 {g : Gh} {x : AV} {v : Value} (h : Rep g x v) (hx : x.parts.all AV.one1 = true) : RepL g x.parts v.cells.toList := by
  cases x with
  | agg xs => simp only [Rep] at h; obtain ⟨a, rfl, h⟩ := h; exact h
  | raw u =>
    simp only [Rep] at h; subst h
    cases v with
    | agg cs => exact yr _
    | _ => simp [AV.parts, RepL, Rep, Value.cells]
  | tup xs => simp [AV.parts, AV.one1] at hx
  | unk => simp [AV.parts, AV.one1] at hx
  | _ =>
    have h1 := rp (by simpa [AV.parts] using hx) h
    rw [aju h1]; simp only [AV.parts, RepL]; exact ⟨v, [], rfl, h, rfl⟩
theorem ajg {g : Gh} {xs : List AV} {l : List Value} (h : RepL g xs l) (h1 : xs.all AV.one1 = true) : RepAt g xs l.toArray 0 := by
  rw [i6]; intro i x hi; obtain ⟨u, hu, hr⟩ := ((ny _ _).1 h).2 i x hi; exact ⟨u, by simpa using hu, rp (List.all_eq_true.1 h1 x (List.mem_of_getElem? hi)) hr, hr⟩
theorem ahd {e : TypeId} {x : Operand} {av : AV} {xs : List AV} (hdn : Nat.blt d n = true) (hx : am R x = av) (hxs : av.parts = xs) (h1 : xs.all AV.one1 = true)
    (hk : ∀ o', H o' = none -> AWL P n ops rest K ((d, .ptr o' 0) :: R) (H.set o' (.cel xs))) :
    AWL P n ops (⟨some d, .box e x, ty, pos, af, none⟩ :: rest) K R H :=
  ns rfl rfl hdn fun g a w hp => by
    have hv := rv hp hx; subst hxs; have hr := t9 hv h1; obtain ⟨o', ho', hl'⟩ := hp.sim.fresh; have hat := ajg hr h1; refine ⟨.pointer (some ⟨w.heap.size, 0, none⟩), w.alloc (.cells (a.eval x).cells e), _, .ptr o' 0, _, ?_, g.le_at hl' ⟨w.heap.size, 0, (a.eval x).cells.size⟩, ?_, hp.sim.new (w' := w.alloc (.cells (a.eval x).cells e)) (c := (a.eval x).cells) (fz := (0, 0)) (x := .cel av.parts) ⟨rfl, rfl, rfl⟩ rfl (unfrozen00 _) hl' ⟨?_, by simpa using hat⟩, hk o' ho'⟩
    · simp [execOp, Instr.box, newVar, newRow]
    · simp only [Rep]; exact ⟨_, Gh.at_self _ _ _, by simp⟩
    · have := pf _ _ hr
      simp at this ⊢
      omega
theorem cz {e : TypeId} {z : Value} {xs : List AV} [hZ : ZeroT P e z] (hdn : Nat.blt d n = true) (hxs : (AV.raw z).parts = xs) (h1 : xs.all AV.one1 = true)
    (hk : ∀ o', H o' = none -> AWL P n ops rest K ((d, .ptr o' 0) :: R) (H.set o' (.cel xs))) :
    AWL P n ops (⟨some d, .alloc e, ty, pos, af, none⟩ :: rest) K R H :=
  ns rfl rfl hdn fun g a w hp => by
    subst hxs; have hr := t9 (g := g) (x := .raw z) (v := z) (by simp only [Rep]) h1
    obtain ⟨o', ho', hl'⟩ := hp.sim.fresh; have hat := ajg hr h1; refine ⟨.pointer (some ⟨w.heap.size, 0, none⟩), w.alloc (.cells z.cells e), _, .ptr o' 0, _, ?_, g.le_at hl' ⟨w.heap.size, 0, z.cells.size⟩, ?_, hp.sim.new (w' := w.alloc (.cells z.cells e)) (c := z.cells) (fz := (0, 0)) (x := .cel (AV.raw z).parts) ⟨rfl, rfl, rfl⟩ rfl (unfrozen00 _) hl' ⟨?_, by simpa using hat⟩, hk o' ho'⟩
    · simp [execOp, Instr.alloc, hZ.h, newVar, newRow]
    · simp only [Rep]; exact ⟨_, Gh.at_self _ _ _, by simp⟩
    · have := pf _ _ hr
      simp at this ⊢
      omega
def putAt (xs : List AV) (k : Nat) (ys : List AV) : List AV := xs.take k ++ ys ++ xs.drop (k + ys.length)
theorem adh {t : TypeId} {x y : Operand} {ob k m : Nat} {xs ys : List AV} {av : AV} (hx : am R x = .ptr ob k) (hy : am R y = av) (hH : H ob = some (.cel xs)) (hys : av.parts = ys) (h1 : ys.all AV.one1 = true)
    (hsz : ∀ w, (sizeOf t).run P w = .ok m w) (hm : ys.length = m) (hk : k + m <= xs.length) (hcont : AWL P n ops rest K R (H.set ob (.cel (putAt xs k ys)))) :
    AWL P n ops (⟨none, .store t x y, ty, pos, af, none⟩ :: rest) K R H :=
  agz rfl rfl fun g a w hp => by
    have hv := rv hp hx; have hu := rv hp hy; subst hys; have hr := t9 hu h1; have hlen := pf _ _ hr; simp only [Rep] at hv; obtain ⟨l, hl, he⟩ := hv; obtain ⟨c, e, fz, k1, k2, k3, k4⟩ := oe hp.sim hH (fun _ h => by cases h) hl
    have hfit := k4.1
    have hone : ∀ v ∈ (a.eval y).cells.toList, one v := fun v hv => by
      obtain ⟨i, hi, rfl⟩ := List.getElem_of_mem hv; obtain ⟨u, hu', hr'⟩ := ((ny _ _).1 hr).2 i _ (List.getElem?_eq_getElem (by omega))
      rw [List.getElem?_eq_getElem hi] at hu'
      cases hu'
      exact rp (List.all_eq_true.1 h1 _ (List.getElem_mem _)) hr'
    obtain ⟨c', q1, q2, q3, q4⟩ := aay (P := P) (a.eval y).cells.toList 0 (w := w) (b := l.blk) (off := l.base + k) k1 k3 (by rw [hlen]; omega) hone
    simp only [Nat.add_zero] at q3 q4; refine ⟨w.setRow l.blk c', g, _, ?_, .refl g, hp.sim.write (x := .cel (putAt xs k av.parts)) (age _ _ _) hH hl (fun b hb => setRow_other w _ _ _ hb) (abq k1) (by omega) (fun j hj => k3 j (by omega)) ⟨?_, ?_⟩, hcont⟩
    · have hs : (a.eval y).cells.size = m := by rw [<- Array.length_toList, hlen, hm]
      simp [execOp, he, Instr.storeAt, Instr.sureAddr, storeVar, hsz, hs, q1]
    · simp [putAt]; omega
    · rw [i6]
      intro i z hi; have hlt := (List.getElem?_eq_some_iff.1 hi).1; have hall := (i6 _ _ _).1 k4.2; simp only [putAt] at hi hlt; by_cases c1 : i < k
      · rw [List.append_assoc, List.getElem?_append_left (by simp; omega), List.getElem?_take, if_pos c1] at hi
        rw [q3 _ (.inl (by omega))]
        exact hall i z hi
      · by_cases c2 : i < k + av.parts.length
        · rw [List.append_assoc, List.getElem?_append_right (by simp; omega), List.getElem?_append_left (by simp; omega)] at hi
          have hmin : (xs.take k).length = k := by simp; omega
          rw [hmin] at hi; obtain ⟨u, hu', hr'⟩ := ((ny _ _).1 hr).2 _ z hi; refine ⟨u, ?_, rp (List.all_eq_true.1 h1 z (List.mem_of_getElem? hi)) hr', hr'⟩; have := q4 (i - k) (by omega)
          rw [show l.base + k + (i - k) = l.base + i from by omega] at this
          rw [this]; exact hu'
        · rw [List.getElem?_append_right (by simp; omega)] at hi
          have hmin : (xs.take k ++ av.parts).length = k + av.parts.length := by simp; omega
          rw [hmin, List.getElem?_drop] at hi; rw [q3 _ (.inr (by omega))]
          have := hall _ z hi
          rwa [show k + av.parts.length + (i - (k + av.parts.length)) = i from by omega] at this
theorem ag6 {t : TypeId} {x y : Operand} {ob k : Nat} {xs : List AV} {av : AV} [hC : CellT P t] (hx : am R x = .ptr ob k) (hy : am R y = av) (hH : H ob = some (.cel xs)) (h1 : av.one1 = true) (hk : k < xs.length)
    (hcont : AWL P n ops rest K R (H.set ob (.cel (xs.set k av)))) : AWL P n ops (⟨none, .store t x y, ty, pos, af, none⟩ :: rest) K R H := by
  have hp : av.parts = [av] := by
    cases av with
    | raw v => cases v <;> first | rfl | (simp [AV.one1, Value.oneCell'] at h1)
    | agg xs => simp [AV.one1] at h1
    | _ => rfl
  refine adh hx hy hH hp (by simp [h1]) hC.s rfl (by omega) ?_
  have : putAt xs k [av] = xs.set k av := by
    simp only [putAt, List.length_singleton]; rw [List.set_eq_take_append_cons_drop, if_pos hk]; simp
  rw [this]; exact hcont
theorem wu {s t : TypeId} {x : Operand} {av : AV} {bs : List UInt8} {e sz bytes : Nat} {z : Value} [hT : SliceT P s e sz bytes z] [hS : StrT P t] [hE : IntT P e .u8] (hx : am R x = av) (hsrc : SrcA H av bs.length 1 (.byt bs)) (hsl : ∀ g v, Rep g av v -> ∃ a k cap, v = .slice a k cap) :
    Stp P n (.convert s t x) ty R H (.str bs) :=
  du fun o ho ht g a w hp => by
    have hv := rv hp hx; obtain ⟨ad, k, cap, he⟩ := hsl g _ hv; have hs := hsrc P g w _ hp.sim hv; obtain ⟨news, n1, n2, n3, n4⟩ := hs.cells; have hlo := hs.lenOf w; rw [he] at hlo n4; simp [Builtin.lenOf] at hlo
    subst hlo; refine ⟨.string ⟨bs.toArray⟩, ?_, by simp only [Rep]⟩
    have hnews : news = ((bs.map fun b => (b.toNat : Int)).map (Value.int .u8)).toArray := by
      apply Array.ext'; apply List.ext_getElem?; intro i; by_cases hi : i < bs.length
      · have := n2.2 i _ (List.getElem?_eq_getElem hi)
        rw [Nat.zero_add] at this; rw [Array.getElem?_toList, this]; simp [hi]
      · simp only [AO.len] at n1
        rw [Array.getElem?_toList, Array.getElem?_eq_none (by rw [n1]; omega), List.getElem?_eq_none (by simp; omega)]
    cases ad with
    | none =>
      have h0 := n4 w rfl; simp [Builtin.firstCells] at h0
      have hb : bs = [] := by
        subst hnews; simpa using h0
      subst hb; simp [execOp, ho, he, run_convert_bytes_string w s t e none 0 cap hT.h hE.h hS.h, Conv.bytesToString]
      rfl
    | some ad =>
      have hl := n4 w rfl; simp only [Builtin.firstCells, Nat.mul_one] at hl; have hr := run_bytesToString (P := P) w ad bs.length cap (bs.map fun b => (b.toNat : Int)) (by rw [hl, hnews])
      rw [foldl_push_byteCells] at hr; simp only [execOp, ho, he, Sem.run_bind, run_convert_bytes_string w s t e (some ad) bs.length cap hT.h hE.h hS.h, hr, Result.andThen_ok, Sem.run_pure]
      congr 4
      show (#[] : Array UInt8) ++ bs.toArray = bs.toArray
      simp
theorem uy {s t : TypeId} {x : Operand} {bs : List UInt8} {e sz bytes : Nat} {z : Value} [hT : SliceT P t e sz bytes z] [hS : StrT P s] [hE : IntT P e .u8] (hx : am R x = .str bs) :
    Stp P n (.convert s t x) ty R H (.bys bs) :=
  tg fun o ho ht g a w hp => by
    have hv := rv hp hx; simp only [Rep] at hv; have hr := run_bytes_of_string (P := P) w s t e ⟨bs.toArray⟩ hS.h hT.h hE.h; rw [acy] at hr; generalize hcap : grownCap w bs.length 0 e = cap at hr; have hge : bs.length <= cap := hcap ▸ grownCap_ge w _ _ _; generalize hc3 : bytesRow ⟨bs.toArray⟩ cap = c3 at hr; obtain ⟨hn, hsim⟩ := hp.sim.newSeal (w' := w.drew.alloc (.cells c3 e (c3.size, c3.size + 1))) ⟨rfl, rfl, rfl⟩ rfl; refine ⟨.slice (some ⟨w.heap.size, 0, none⟩) bs.length cap, _, _, by simp only [execOp, ho, hv, Sem.run_bind, hr, Result.andThen_ok, Sem.run_pure], g.le_seal' hn _, ?_, hsim⟩
    simp only [Rep]; refine .inr ⟨w.heap.size, 0, cap, c3, e, (c3.size, c3.size + 1), rfl, hge, Gh.seal'_self _ _ _, fun i y hi => ?_⟩
    subst hc3; have hlt := (List.getElem?_eq_some_iff.1 hi).1; rw [bytesRow, Nat.zero_add, Array.getElem?_append_left (by simp; omega)]
    simp [hi]
theorem kw {x : Operand} {i : Nat} {xs : List AV} {y : AV} (hx : am R x = .tup xs) (hy : xs[i]? = some y) : Stp P n (.extract x i) ty R H y :=
  du fun o ho ht g a w hp => by
    have h1 := rv hp hx; simp only [Rep] at h1; obtain ⟨ar, he, hr⟩ := h1; obtain ⟨u, hu, hr'⟩ := ((ny _ _).1 hr).2 i y hy; rw [Array.getElem?_toList] at hu; exact ⟨u, by simp [execOp, ho, he, Instr.extract, hu], hr'⟩
end
end Go.Am
