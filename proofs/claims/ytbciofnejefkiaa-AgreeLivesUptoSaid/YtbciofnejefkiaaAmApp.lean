/-
  The abstract machine: append, make, literals. No program in sight.
-/
import Derived.Test.YtbciofnejefkiaaAmMem
set_option linter.unusedSimpArgs false
set_option linter.unusedVariables false
namespace Go.Am
open Go
class NotIntT (P : Program) (t : TypeId) : Prop where
  h : (∃ e, P.underlying t = some (.slice e)) \/ P.underlying t = some .string
section
variable {P : Program}
theorem zf {t t2 ty e sz bytes : Nat} {z : Value} [hT : SliceT P t e sz bytes z] [h2 : NotIntT P t2] {w : World} {x : Value} {base : Option Addr} {sLen sCap m : Nat} {news old : Array Value}
    (hlen : ∀ w', (Builtin.lenOf x).run P w' = .ok m w') (hnew : ∀ w', w'.heap = w.heap -> (Builtin.firstCells sz m x).run P w' = .ok news w')
    (hold : ∀ w', w'.heap = w.heap -> (Builtin.firstCells sz sLen (.slice base sLen sCap)).run P w' = .ok old w') (hg : sCap < sLen + m) (h63 : sLen + m <= 9223372036854775807) (hb : (sLen + m) * bytes <= 140737488355328) :
    ∃ cap, sLen + m <= cap /\ (Builtin.append_ #[t, t2] ty #[.slice base sLen sCap, x]).run P w =
      .ok (.slice (some ⟨w.heap.size, 0, none⟩) (sLen + m) cap) (w.drew.alloc (.cells (old ++ news ++ Builtin.zeroCells z.cells (cap - (sLen + m))) e)) := by
  obtain ⟨i, hi, hz, hs, hby⟩ := hT.info; subst hs; subst hby; have hfit := growslice_fits hg hb; have hn : ¬ (sLen + m <= sCap) := by omega
  have h63' : ¬ (9223372036854775807 < ((sLen : Int) + (m : Int))) := by omega
  have h48' : ¬ (281474976710656 < Builtin.nextslicecap (sLen + m) sCap * i.bytes) := by omega
  refine ⟨grownCap w (sLen + m) sCap e, grownCap_ge w _ _ _, ?_⟩
  rcases h2.h with ⟨e2, hd⟩ | hd <;>
    simp [Builtin.append_, run_underlying hT.h, run_underlying hd, sizeOf, typeInfo, zeroValue, hi, hz, hlen, hn, h63', h48', Question.forced, hnew w.drew rfl, hold w.drew rfl, newRow, grownCap]
theorem yn {t t2 ty e sz bytes : Nat} {z : Value} [hT : SliceT P t e sz bytes z] [h2 : NotIntT P t2] {w : World} {x : Value} {base : Option Addr} {sLen sCap m : Nat} {news : Array Value}
    (hlen : ∀ w', (Builtin.lenOf x).run P w' = .ok m w') (hnew : ∀ w', w'.heap = w.heap -> (Builtin.firstCells sz m x).run P w' = .ok news w') (hr : sLen + m <= sCap) :
    (Builtin.append_ #[t, t2] ty #[.slice base sLen sCap, x]).run P w =
      match base with
      | none => .ok (.slice none (sLen + m) sCap) w
      | some a => ((storeCells (a.add (sLen * sz)) news.toList).run P w).andThen fun _ w' => .ok (.slice (some a) (sLen + m) sCap) w' := by
  obtain ⟨i, hi, hz, hs, hby⟩ := hT.info; subst hs; rcases h2.h with ⟨e2, hd⟩ | hd <;> cases base <;> simp [Builtin.append_, run_underlying hT.h, run_underlying hd, sizeOf, typeInfo, hi, hlen, hr, hnew w rfl]
def sealAV (k : Nat) : AO -> AV
  | .byt bs => .bys bs
  | .cel xs => .sls k xs
  | .mpo _ => .unk
theorem adf {g : Gh} {b off k sz cap : Nat} {c : Array Value} {e : TypeId} {fz : Nat × Nat} {x : AO} (h : g.h b = some (.cells c e fz)) (hx : RepC g x c off) (hl : x.len = k * sz) (hsz : ∀ bs, x = .byt bs -> sz = 1) (hk : k <= cap) :
    Rep g (sealAV k x) (.slice (some ⟨b, off, none⟩) k cap) := by
  cases x with
  | byt bs =>
    have h1 := hsz bs rfl; subst h1; simp only [AO.len, Nat.mul_one] at hl; subst hl; simp only [sealAV, Rep]; exact .inr ⟨b, off, cap, c, e, fz, rfl, hk, h, hx.2⟩
  | cel xs =>
    simp only [sealAV, Rep]; exact .inr ⟨b, off, cap, c, e, fz, rfl, hk, h, hx.2⟩
  | mpo es => exact hx.elim
theorem RepC.append {g : Gh} {x y : AO} {c1 c2 : Array Value} (h1 : RepC g x c1 0) (s1 : c1.size = x.len) (h2 : RepC g y c2 0) (s2 : c2.size = y.len) (hl : x.like y) (c3 : Array Value) : RepC g (x.app y) (c1 ++ c2 ++ c3) 0 := by
  have k1 : ∀ i, i < x.len -> (c1 ++ c2 ++ c3)[i]? = c1[i]? := fun i hi => by
    rw [Array.getElem?_append_left (by simp; omega), Array.getElem?_append_left (by omega)]
  have k2 : ∀ i, ¬ i < x.len -> i < x.len + y.len -> (c1 ++ c2 ++ c3)[i]? = c2[i - x.len]? := fun i hi hj => by
    rw [Array.getElem?_append_left (by simp; omega), Array.getElem?_append_right (by omega), s1]
  cases x with
  | byt a =>
    cases y with
    | byt b =>
      refine ⟨by simp; simp only [AO.len] at s1 s2; omega, fun i z hi => ?_⟩
      have hlt : i < (AO.byt a).len + (AO.byt b).len := by have := (List.getElem?_eq_some_iff.1 hi).1; simpa [AO.len] using this
      rw [Nat.zero_add]; rw [List.getElem?_append] at hi; by_cases h : i < a.length
      · rw [if_pos h] at hi; rw [k1 i h]; have := h1.2 i z hi; rwa [Nat.zero_add] at this
      · rw [if_neg h] at hi; rw [k2 i h hlt]; have := h2.2 _ z hi; rwa [Nat.zero_add] at this
    | cel b => exact hl.elim
    | mpo es => exact hl.elim
  | cel a =>
    cases y with
    | cel b =>
      refine ⟨by simp; simp only [AO.len] at s1 s2; omega, (i6 _ _ _).2 fun i z hi => ?_⟩
      have hlt : i < (AO.cel a).len + (AO.cel b).len := by have := (List.getElem?_eq_some_iff.1 hi).1; simpa [AO.len] using this
      rw [Nat.zero_add]; rw [List.getElem?_append] at hi; by_cases h : i < a.length
      · rw [if_pos h] at hi; rw [k1 i h]; have := (i6 _ _ _).1 h1.2 i z hi; rwa [Nat.zero_add] at this
      · rw [if_neg h] at hi; rw [k2 i h hlt]; have := (i6 _ _ _).1 h2.2 _ z hi; rwa [Nat.zero_add] at this
    | byt b => exact hl.elim
    | mpo es => exact hl.elim
  | mpo es => exact hl.elim
theorem RepC.padded {g : Gh} {x : AO} {c : Array Value} (h : RepC g x c 0) (c3 : Array Value) : RepC g x (#[] ++ c ++ c3) 0 := by
  have hk : ∀ i, i < c.size -> (#[] ++ c ++ c3)[i]? = c[i]? := fun i hi => by simp [Array.getElem?_append_left hi]
  have hle := h.len_le; have hmx : ∀ es, x ≠ .mpo es := fun es e => by subst e; exact h
  rw [rx hmx] at h ⊢; refine ⟨by simp; omega, fun i hi => ?_⟩
  obtain ⟨v, hv, ha⟩ := h.2 i hi; exact ⟨v, by rw [Nat.zero_add, hk i (by omega)]; rwa [Nat.zero_add] at hv, ha⟩
theorem AO.len_app {x y : AO} (hl : x.like y) : (x.app y).len = x.len + y.len := by
  cases x <;> cases y <;> simp_all [AO.like, AO.app, AO.len]
theorem AO.app_void {x y : AO} (hl : x.like y) (hy : y.len = 0) : x.app y = x := by
  cases x <;> cases y <;> simp_all [AO.like, AO.app, AO.len]
theorem AO.void_of_len {x : AO} (hm : ∀ es, x ≠ .mpo es) (h : x.len = 0) : x.void := by
  cases x with
  | mpo es => exact absurd rfl (hm es)
  | _ => simpa [AO.len, AO.void] using h
section
variable {n : Nat} {K : Exit -> Regs -> AHeap -> Prop} {R : Regs} {H : AHeap} {ops : Array Oper} {rest : List Oper} {ty : TypeId} {d : Tmp} {pos : String} {af : Array Edge}
theorem unfrozen00 (c : Array Value) : Unfrozen c (0, 0) := fun i _ h => by simp at h
theorem aee {t t2 e sz bytes : Nat} {z : Value} [hT : SliceT P t e sz bytes z] [h2 : NotIntT P t2] {s x : Operand} {av bv : AV} {k m : Nat} {xd xs : AO}
    (hs : am R s = av) (hx : am R x = bv) (hd : SrcA H av k sz xd) (hdx : ∀ g v, Rep g av v -> ∃ base, v = .slice base k k) (hdr : ∀ g v, Rep g av v -> Rep g (sealAV k xd) v) (hb : SrcA H bv m sz xs) (hl : xd.like xs) (hsz : ∀ bs, xd = .byt bs -> sz = 1)
    (h63 : k + m <= 9223372036854775807) (hby : (k + m) * bytes <= 140737488355328) :
    Stp P n (.call { callee := .builtin .append, args := #[s, x], argTypes := #[t, t2] }) ty R H (sealAV (k + m) (xd.app xs)) :=
  tg fun o ho ht g a w hp => by
    have hv := rv hp hs; have hu := rv hp hx; obtain ⟨base, he⟩ := hdx g _ hv; have s1 := hd P g w _ hp.sim hv; have s2 := hb P g w _ hp.sim hu; obtain ⟨old, o1, o2, o3, o4⟩ := s1.cells; obtain ⟨news, n1, n2, n3, n4⟩ := s2.cells; rw [he] at o4; rcases Nat.eq_zero_or_pos m with h0 | h0
    · subst h0
      have hx0 : xs.len = 0 := by rw [s2.len, Nat.zero_mul]
      have hn0 : news = #[] := by simpa [hx0] using n1
      subst hn0; have hr := yn (P := P) (t := t) (t2 := t2) (ty := ty) (sz := sz) (base := base) (sLen := k) (sCap := k) s2.lenOf n4 (Nat.le_refl _); refine ⟨.slice base k k, w, g, ?_, .refl g, ?_, hp.sim⟩
      · simp only [execOp, ho, resolve, invoke, builtin, ht, Sem.run_bind, Sem.run_pure, Result.andThen_ok, List.map_toArray, List.map_cons, List.map_nil, he, hr]
        cases base <;> simp [storeCells]
      · rw [AO.app_void hl hx0, Nat.add_zero, <- he]
        exact hdr g _ hv
    · obtain ⟨cap, hc, hr⟩ := zf (P := P) (t := t) (t2 := t2) (ty := ty) (sz := sz) (base := base) (sLen := k) (sCap := k) s2.lenOf n4 o4 (by omega) h63 hby
      have hh : (w.drew.alloc (.cells (old ++ news ++ Builtin.zeroCells z.cells (cap - (k + m))) e)).heap = w.heap.push (.cells (old ++ news ++ Builtin.zeroCells z.cells (cap - (k + m))) e) := rfl; obtain ⟨hn, hsim⟩ := hp.sim.newSeal (w' := w.drew.alloc (.cells (old ++ news ++ Builtin.zeroCells z.cells (cap - (k + m))) e)) ⟨rfl, rfl, rfl⟩ hh; have hle := g.le_seal' hn (.cells (old ++ news ++ Builtin.zeroCells z.cells (cap - (k + m))) e); refine ⟨.slice (some ⟨w.heap.size, 0, none⟩) (k + m) cap, _, _, ?_, hle, ?_, hsim⟩
      · simp only [execOp, ho, resolve, invoke, builtin, ht, Sem.run_bind, Sem.run_pure, Result.andThen_ok, List.map_toArray, List.map_cons, List.map_nil, he, hr]
      · refine adf (sz := sz) (Gh.seal'_self _ _ _) ((o2.append o1 n2 n1 hl _).mono hle) (by rw [AO.len_app hl, s1.len, s2.len, Nat.add_mul]) (fun bs hbs => ?_) hc
        cases xd with
        | byt b => exact hsz b rfl
        | cel b => cases xs <;> simp [AO.app] at hbs
        | mpo es => simp [AO.app] at hbs
theorem adq {t t2 e sz bytes : Nat} {z : Value} [hT : SliceT P t e sz bytes z] [h2 : NotIntT P t2] {s x : Operand} {av bv : AV} {m : Nat} {xs : AO} (hdn : Nat.blt d n = true)
    (hs : am R s = av) (hx : am R x = bv) (hdx : ∀ g v, Rep g av v -> ∃ base, v = .slice base 0 0) (hb : SrcA H bv m sz xs) (hm : ∀ es, xs ≠ .mpo es)
    (h63 : m <= 9223372036854775807) (hby : m * bytes <= 140737488355328) (hk : ∀ o', H o' = none -> AWL P n ops rest K ((d, .vw o' sz 0 m) :: R) (H.set o' xs)) :
    AWL P n ops (⟨some d, .call { callee := .builtin .append, args := #[s, x], argTypes := #[t, t2] }, ty, pos, af, none⟩ :: rest) K R H :=
  ns rfl rfl hdn fun g a w hp => by
    have hv := rv hp hs; have hu := rv hp hx; obtain ⟨base, he⟩ := hdx g _ hv; have s2 := hb P g w _ hp.sim hu; obtain ⟨news, n1, n2, n3, n4⟩ := s2.cells; obtain ⟨o', ho', hl'⟩ := hp.sim.fresh; rcases Nat.eq_zero_or_pos m with h0 | h0
    · subst h0
      have hx0 : xs.len = 0 := by rw [s2.len, Nat.zero_mul]
      have hn0 : news = #[] := by simpa [hx0] using n1
      subst hn0; have hr := yn (P := P) (t := t) (t2 := t2) (ty := ty) (sz := sz) (base := base) (sLen := 0) (sCap := 0) s2.lenOf n4 (Nat.le_refl _); refine ⟨.slice base 0 0, w, g, .vw o' sz 0 0, _, ?_, .refl g, ?_, hp.sim.void hl' (AO.void_of_len hm hx0), hk o' ho'⟩
      · simp only [execOp, resolve, invoke, builtin, Sem.run_bind, Sem.run_pure, Result.andThen_ok, List.map_toArray, List.map_cons, List.map_nil, he, hr]
        cases base <;> simp [storeCells]
      · simp only [Rep]; exact .inr ⟨trivial, base, rfl⟩
    · have hold : ∀ w', w'.heap = w.heap -> (Builtin.firstCells sz 0 (.slice base 0 0)).run P w' = .ok #[] w' := fun w' _ => by cases base <;> simp [Builtin.firstCells, loadCells, loadCellsFrom]
      obtain ⟨cap, hc, hr⟩ := zf (P := P) (t := t) (t2 := t2) (ty := ty) (sz := sz) (base := base) (sLen := 0) (sCap := 0) s2.lenOf n4 hold (by omega) (by omega) (by rw [Nat.zero_add]; exact hby)
      rw [Nat.zero_add] at hc hr; generalize hc3 : (#[] ++ news ++ Builtin.zeroCells z.cells (cap - m) : Array Value) = c3 at hr; have hn2 : RepC g xs c3 0 := hc3 ▸ n2.padded _
      have hcs : c3.size = cap * sz := by
        subst hc3; simp only [Array.size_append, List.size_toArray, List.length_nil, Nat.zero_add, size_zeroCells, hT.c, n1, s2.len, <- Nat.add_mul]
        congr 1
        omega
      refine ⟨.slice (some ⟨w.heap.size, 0, none⟩) m cap, _, _, .vw o' sz 0 m, _, ?_, g.le_at hl' ⟨w.heap.size, 0, c3.size⟩, ?_, hp.sim.new (w' := w.drew.alloc (.cells c3 e)) ⟨rfl, rfl, rfl⟩ rfl (unfrozen00 c3) hl' hn2, hk o' ho'⟩
      · simp only [execOp, resolve, invoke, builtin, Sem.run_bind, Sem.run_pure, Result.andThen_ok, List.map_toArray, List.map_cons, List.map_nil, he, hr]
      · simp only [Rep]
        exact .inl ⟨⟨w.heap.size, 0, c3.size⟩, cap, Gh.at_self _ _ _, rfl, hc, by simp; omega⟩
theorem AO.at_left {g : Gh} {x y : AO} (hl : x.like y) {i : Nat} {v : Value} (h : x.at? g i v) : (x.app y).at? g i v := by
  cases x with
  | byt a =>
    cases y with
    | byt b => obtain ⟨z, h1, h2⟩ := h; exact ⟨z, by rw [List.getElem?_append_left (List.getElem?_eq_some_iff.1 h1).1]; exact h1, h2⟩
    | _ => exact hl.elim
  | cel a =>
    cases y with
    | cel b => obtain ⟨z, h1, h2⟩ := h; exact ⟨z, by rw [List.getElem?_append_left (List.getElem?_eq_some_iff.1 h1).1]; exact h1, h2⟩
    | _ => exact hl.elim
  | mpo es => exact h.elim
theorem AO.at_right {g : Gh} {x y : AO} (hl : x.like y) {i : Nat} {v : Value} (hi : x.len <= i) (h : y.at? g (i - x.len) v) : (x.app y).at? g i v := by
  cases x with
  | byt a =>
    cases y with
    | byt b => obtain ⟨z, h1, h2⟩ := h; exact ⟨z, by rw [List.getElem?_append_right hi]; exact h1, h2⟩
    | _ => exact hl.elim
  | cel a =>
    cases y with
    | cel b => obtain ⟨z, h1, h2⟩ := h; exact ⟨z, by rw [List.getElem?_append_right hi]; exact h1, h2⟩
    | _ => exact hl.elim
  | mpo es => cases y <;> exact hl.elim
theorem RepC.grown {g : Gh} {x y : AO} {c c' : Array Value} {k : Nat} {news : List Value} (hx : RepC g x c k) (hy : RepC g y news.toArray 0) (hn : news.length = y.len) (hl : x.like y) (hsz : c'.size = c.size)
    (hfit : k + x.len + y.len <= c.size) (hold : ∀ j, j < k + x.len -> c'[j]? = c[j]?) (hnew : ∀ j, j < news.length -> c'[k + x.len + j]? = news[j]?) : RepC g (x.app y) c' k := by
  have hmx : ∀ es, x ≠ .mpo es := fun es e => by subst e; exact hx
  have hmy : ∀ es, y ≠ .mpo es := fun es e => by subst e; exact hy
  have hma : ∀ es, x.app y ≠ .mpo es := fun es e => by cases x <;> cases y <;> simp_all [AO.app, AO.like]
  rw [rx hma]; rw [rx hmx] at hx; rw [rx hmy] at hy; rw [AO.len_app hl]; refine ⟨by omega, fun i hi => ?_⟩
  by_cases h : i < x.len
  · obtain ⟨v, hv, ha⟩ := hx.2 i h
    exact ⟨v, by rw [hold _ (by omega)]; exact hv, AO.at_left hl ha⟩
  · obtain ⟨v, hv, ha⟩ := hy.2 (i - x.len) (by omega)
    refine ⟨v, ?_, ?_⟩
    · have := hnew (i - x.len) (by omega)
      rw [show k + x.len + (i - x.len) = k + i from by omega] at this
      rw [this]; simpa using hv
    · exact AO.at_right hl (by omega) ha
theorem AO.like_drop {x y : AO} (h : x.like y) (k : Nat) : (x.drop k).like y := by cases x <;> cases y <;> simp_all [AO.like, AO.drop]
theorem AO.len_drop {x : AO} (hm : ∀ es, x ≠ .mpo es) (k : Nat) : (x.drop k).len = x.len - k := by
  cases x with
  | mpo es => exact absurd rfl (hm es)
  | _ => simp [AO.drop, AO.len]
theorem AO.seg_all {x : AO} {k m : Nat} (hm : ∀ es, x ≠ .mpo es) (h : k + m = x.len) : x.seg k m = x.drop k := by
  cases x with
  | mpo es => exact absurd rfl (hm es)
  | byt bs => simp only [AO.seg, AO.drop, AO.len] at *; rw [List.take_of_length_le (by simp; omega)]
  | cel bs => simp only [AO.seg, AO.drop, AO.len] at *; rw [List.take_of_length_le (by simp; omega)]
theorem abk {t t2 e sz bytes : Nat} {z : Value} [hT : SliceT P t e sz bytes z] [h2 : NotIntT P t2] {s x : Operand} {bv : AV} {ob off k m : Nat} {xd xs : AO} (hdn : Nat.blt d n = true)
    (hs : am R s = .vw ob sz off k) (hx : am R x = bv) (hH : H ob = some xd) (hmd : ∀ es, xd ≠ .mpo es) (hfull : off + k * sz = xd.len) (hb : SrcA H bv m sz xs) (hl : xd.like xs)
    (h63 : k + m <= 9223372036854775807) (hby : (k + m) * bytes <= 140737488355328)
    (hk : ∀ o', H o' = none -> AWL P n ops rest K ((d, .vw o' sz 0 (k + m)) :: R) ((H.erase ob).set o' ((xd.drop off).app xs))) :
    AWL P n ops (⟨some d, .call { callee := .builtin .append, args := #[s, x], argTypes := #[t, t2] }, ty, pos, af, none⟩ :: rest) K R H :=
  ns rfl rfl hdn fun g a w hp => by
    have hv := rv hp hs; have hu := rv hp hx; have s1 := aa9 H ob sz off k xd hH hmd (by omega) P g w _ hp.sim hv
    rw [AO.seg_all hmd hfull] at s1; have s2 := hb P g w _ hp.sim hu; obtain ⟨old, o1, o2, o3, o4⟩ := s1.cells; obtain ⟨news, n1, n2, n3, n4⟩ := s2.cells; obtain ⟨o', ho', hl'⟩ := hp.sim.fresh; have hne : o' ≠ ob := fun e => by rw [e, hH] at ho'; cases ho'
    have he' : (H.erase ob) o' = none := by simp [AHeap.erase, ho']
    have hmx : ∀ es, xs ≠ .mpo es := fun es e => by subst e; cases xd <;> exact hl
    have hmdd : ∀ es, xd.drop off ≠ .mpo es := fun es e => by cases xd <;> simp_all [AO.drop]
    have hsimE := hp.sim.erase ob
    have hgrown : ∀ (base : Option Addr) (cap0 : Nat), a.eval s = .slice base k cap0 -> cap0 < k + m ->
        ∃ v w' g' y H', (execOp a.eval ⟨some d, .call { callee := .builtin .append, args := #[s, x], argTypes := #[t, t2] }, ty, pos, af, none⟩).run P w = .ok (.value v) w' /\ g.le g' /\ Rep g' y v /\ Sim g' H' w' /\ AWL P n ops rest K ((d, y) :: R) H' := by
      intro base cap0 he hcap; rw [he] at o4; obtain ⟨cap, hc, hr⟩ := zf (P := P) (t := t) (t2 := t2) (ty := ty) (sz := sz) (base := base) (sLen := k) (sCap := cap0) s2.lenOf n4 o4 hcap h63 hby; generalize hc3 : (old ++ news ++ Builtin.zeroCells z.cells (cap - (k + m)) : Array Value) = c3 at hr
      have hcs : c3.size = cap * sz := by
        subst hc3; simp only [Array.size_append, size_zeroCells, hT.c, o1, n1, s1.len, s2.len, <- Nat.add_mul]
        congr 1
        omega
      have hrep : RepC g ((xd.drop off).app xs) c3 0 := hc3 ▸ o2.append o1 n2 n1 (AO.like_drop hl off) _; refine ⟨.slice (some ⟨w.heap.size, 0, none⟩) (k + m) cap, _, _, .vw o' sz 0 (k + m), _, ?_, g.le_at hl' ⟨w.heap.size, 0, c3.size⟩, ?_, hsimE.new (w' := w.drew.alloc (.cells c3 e)) ⟨rfl, rfl, rfl⟩ rfl (unfrozen00 c3) hl' hrep, hk o' ho'⟩
      · simp only [execOp, resolve, invoke, builtin, Sem.run_bind, Sem.run_pure, Result.andThen_ok, List.map_toArray, List.map_cons, List.map_nil, he, hr]
      · simp only [Rep]
        exact .inl ⟨⟨w.heap.size, 0, c3.size⟩, cap, Gh.at_self _ _ _, rfl, hc, by simp; omega⟩
    have hv' := hv; simp only [Rep] at hv'; rcases hv' with ⟨l, cap0, hloc, he, hkc, hfit⟩ | ⟨hk0, base, he⟩
    · by_cases hroom : k + m <= cap0
      · obtain ⟨c, e1, fz, h1, h2', h3, h4⟩ := oe hp.sim hH hmd hloc
        have hcap : (k + m) * sz <= cap0 * sz := Nat.mul_le_mul_right _ hroom; rw [Nat.add_mul] at hcap; have hr := yn (P := P) (t := t) (t2 := t2) (ty := ty) (sz := sz) (base := some ⟨l.blk, l.base + off, none⟩) (sLen := k) (sCap := cap0) s2.lenOf n4 hroom; have hnl : news.toList.length = m * sz := by rw [Array.length_toList, n1, s2.len]
        obtain ⟨c', q1, q2, q3, q4⟩ := aay (P := P) news.toList 0 (w := w) (b := l.blk) (off := l.base + off + k * sz) h1 h3 (by omega) (fun v hv => n3 v (by simpa using hv))
        simp only [Nat.add_zero] at q3 q4
        have hfree : ∀ p y l', (H.erase ob) p = some y -> g.loc p = some l' -> l'.blk ≠ l.blk := fun p y l' hpy hl'' e => by
          simp only [AHeap.erase] at hpy; split at hpy
          · cases hpy
          · rename_i hpo
            exact hpo (hp.sim.inj _ _ _ _ _ _ hpy hH hl'' hloc e)
        have hrep : RepC g ((xd.drop off).app xs) c' (l.base + off) := by
          have hdl : (xd.drop off).len = k * sz := by rw [AO.len_drop hmd]; omega
          refine RepC.grown (x := xd.drop off) (c := c) (news := news.toList) (h4.drop (by omega)) (by simpa using n2) (by rw [hnl, s2.len]) (AO.like_drop hl off) q2 (by rw [hdl, s2.len]; omega) (fun j hj => ?_) (fun j hj => ?_)
          · rw [hdl] at hj; exact q3 j (.inl (by omega))
          · rw [hdl]; exact q4 j hj
        have hplace := hsimE.place (w' := w.setRow l.blk c') (age _ _ _) (hp.sim.apart _ _ _ hH hloc) hfree (fun k' hk' => setRow_other w _ _ _ hk') (abq h1) (fun j hj => h3 j (by omega)) hl' hrep
        refine ⟨.slice (some ⟨l.blk, l.base + off, none⟩) (k + m) cap0, _, _, .vw o' sz 0 (k + m), _, ?_, g.le_at hl' ⟨l.blk, l.base + off, c'.size⟩, ?_, hplace, hk o' ho'⟩
        · simp only [qd] at hr
          simp only [execOp, resolve, invoke, builtin, Sem.run_bind, Sem.run_pure, Result.andThen_ok, List.map_toArray, List.map_cons, List.map_nil, he, hr, q1]
        · simp only [Rep]
          exact .inl ⟨⟨l.blk, l.base + off, c'.size⟩, cap0, Gh.at_self _ _ _, by simp, hroom, by simp; omega⟩
      · exact hgrown _ _ he (by omega)
    · subst hk0
      rcases Nat.eq_zero_or_pos m with h0 | h0
      · subst h0
        have hx0 : xs.len = 0 := by rw [s2.len, Nat.zero_mul]
        have hn0 : news = #[] := by simpa [hx0] using n1
        subst hn0; have hr := yn (P := P) (t := t) (t2 := t2) (ty := ty) (sz := sz) (base := base) (sLen := 0) (sCap := 0) s2.lenOf n4 (Nat.le_refl _); have hvoid : ((xd.drop off).app xs).len = 0 := by rw [AO.len_app (AO.like_drop hl off), hx0, AO.len_drop hmd]; omega
        refine ⟨.slice base 0 0, w, g, .vw o' sz 0 0, _, ?_, .refl g, ?_, hsimE.void hl' (AO.void_of_len (fun es e => ?_) hvoid), hk o' ho'⟩
        · simp only [execOp, resolve, invoke, builtin, Sem.run_bind, Sem.run_pure, Result.andThen_ok, List.map_toArray, List.map_cons, List.map_nil, he, hr]
          cases base <;> simp [storeCells]
        · simp only [Rep]; exact .inr ⟨trivial, base, rfl⟩
        · cases xd <;> cases xs <;> simp_all [AO.app, AO.drop, AO.like]
      · exact hgrown base 0 he (by omega)
end
end
end Go.Am
