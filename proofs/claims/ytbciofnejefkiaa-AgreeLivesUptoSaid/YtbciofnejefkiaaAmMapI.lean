/-
  The abstract machine: maps whose keys are numbers; maps gone through. No program in sight.
-/
import Derived.Test.YtbciofnejefkiaaAmMap
import Derived.Maps.RangeRun
set_option linter.unusedSimpArgs false
set_option linter.unusedVariables false
namespace Go.Am
open Go Go.RowKit Go.MapKept
abbrev MI := List (Int × AV)
def MI.ao (ik : IntKind) (es : MI) : AO := .mpo (es.map fun p => (.raw (.int ik p.1), p.2))
theorem zo {ik : IntKind} (es : MI) : ∀ p ∈ es.map (fun p => (AV.raw (.int ik p.1), p.2)), p.1 ≠ AV.emp := fun p hp => by
  obtain ⟨q, _, rfl⟩ := List.mem_map.1 hp; exact fun e => by cases e
def MI.get : MI -> Int -> Option AV
  | [], _ => none
  | (a, v) :: es, k => if a = k then some v else MI.get es k
def MI.put : MI -> Int -> AV -> MI
  | [], k, v => [(k, v)]
  | (a, u) :: es, k, v => if a = k then (k, v) :: es else (a, u) :: MI.put es k v
class MapIT (P : Program) (t : TypeId) (k e : outParam TypeId) (ik : outParam IntKind) : Prop where
  h : P.underlying t = some (.map k e)
  k : P.underlying k = some (.int ik)
def RepMI (ik : IntKind) (g : Gh) (es : MI) (l : List MapEntry) : Prop := RepEs g (es.map fun p => (AV.raw (.int ik p.1), p.2)) l
theorem abn {ik : IntKind} {g : Gh} {l : List MapEntry} : RepMI ik g [] l ↔ l = [] := Iff.rfl
theorem pm {ik : IntKind} {g : Gh} {a : Int} {v : AV} {es : MI} {l : List MapEntry} : RepMI ik g ((a, v) :: es) l ↔ ∃ m ms, l = m :: ms /\ m.key = (.int ik a) /\ Rep g v m.val /\ RepMI ik g es ms := by
  show RepEs g ((AV.raw (.int ik a), v) :: es.map fun p => (AV.raw (.int ik p.1), p.2)) l ↔ _
  simp only [RepEs, Rep]; rfl
theorem wa {ik : IntKind} {g : Gh} {k : Int} : ∀ (es : MI) (l : List MapEntry) (i : Nat), RepMI ik g es l -> es.get k = none -> Instr.findNow (.int ik) (.int ik k) l i = some none
  | [], l, i, h, _ => by rw [abn] at h; subst h; rfl
  | (a, v) :: es, l, i, h, hg => by
    obtain ⟨m, ms, rfl, h1, h2, h3⟩ := pm.1 h; have hne : ¬ a = k := fun e => by rw [MI.get, if_pos e] at hg; cases hg
    rw [MI.get, if_neg hne] at hg; have := wa es ms (i + 1) h3 hg; simp only [Instr.findNow, h1, Instr.sameNow, if_true]; rw [show (k == a) = false from by simpa using fun e => hne e.symm]
    exact this
theorem abf {ik : IntKind} {g : Gh} {k : Int} {v : AV} : ∀ (es : MI) (l : List MapEntry) (i : Nat), RepMI ik g es l -> es.get k = some v -> ∃ j m, Instr.findNow (.int ik) (.int ik k) l i = some (some (i + j, m.val)) /\ l[j]? = some m /\ m.key = (.int ik k) /\ Rep g v m.val
  | [], l, i, h, hg => by cases hg
  | (a, u) :: es, l, i, h, hg => by
    obtain ⟨m, ms, rfl, h1, h2, h3⟩ := pm.1 h; by_cases he : a = k
    · subst he
      rw [MI.get, if_pos rfl] at hg
      cases hg
      refine ⟨0, m, ?_, rfl, h1, h2⟩; simp only [Instr.findNow, h1, Instr.sameNow, if_true, beq_self_eq_true]; rfl
    · rw [MI.get, if_neg he] at hg
      obtain ⟨j, m', e1, e2, e3, e4⟩ := abf es ms (i + 1) h3 hg; refine ⟨j + 1, m', ?_, e2, e3, e4⟩; simp only [Instr.findNow, h1, Instr.sameNow, if_true]; rw [show (k == a) = false from by simpa using fun e => he e.symm]
      rw [show i + (j + 1) = i + 1 + j by omega]
      exact e1
def MI.idx : MI -> Int -> Nat
  | [], _ => 0
  | (a, _) :: es, k => if a = k then 0 else MI.idx es k + 1
theorem agx {ik : IntKind} {g : Gh} {k : Int} {v : AV} : ∀ (es : MI) (l : List MapEntry) (i : Nat), RepMI ik g es l -> es.get k = some v -> ∃ m, Instr.findNow (.int ik) (.int ik k) l i = some (some (i + MI.idx es k, m.val)) /\ l[MI.idx es k]? = some m /\ m.key = (.int ik k) /\ Rep g v m.val
  | [], l, i, h, hg => by cases hg
  | (a, u) :: es, l, i, h, hg => by
    obtain ⟨m, ms, rfl, h1, h2, h3⟩ := pm.1 h; by_cases he : a = k
    · subst he
      rw [MI.get, if_pos rfl] at hg
      cases hg
      refine ⟨m, ?_, by rw [MI.idx, if_pos rfl]; rfl, h1, h2⟩
      rw [MI.idx, if_pos rfl]; simp only [Instr.findNow, h1, Instr.sameNow, if_true, beq_self_eq_true]; rfl
    · rw [MI.get, if_neg he] at hg
      obtain ⟨m', e1, e2, e3, e4⟩ := agx es ms (i + 1) h3 hg; refine ⟨m', ?_, by rw [MI.idx, if_neg he]; exact e2, e3, e4⟩
      rw [MI.idx, if_neg he]; simp only [Instr.findNow, h1, Instr.sameNow, if_true]; rw [show (k == a) = false from by simpa using fun e => he e.symm]
      rw [show i + (MI.idx es k + 1) = i + 1 + MI.idx es k by omega]
      exact e1
theorem ai9 {ik : IntKind} {g : Gh} {k : Int} {v u : AV} {z : Value} (hz : Rep g v z) : ∀ (es : MI) (l : List MapEntry), RepMI ik g es l -> es.get k = some u -> RepMI ik g (es.put k v) (l.modify (MI.idx es k) fun e => { e with key := (.int ik k), val := z })
  | [], l, h, hg => by cases hg
  | (a, w) :: es, l, h, hg => by
    obtain ⟨m, ms, rfl, h1, h2, h3⟩ := pm.1 h; by_cases he : a = k
    · subst he
      rw [MI.put, if_pos rfl, MI.idx, if_pos rfl]; exact pm.2 ⟨_, _, rfl, rfl, hz, h3⟩
    · rw [MI.get, if_neg he] at hg
      rw [MI.put, if_neg he, MI.idx, if_neg he]; exact pm.2 ⟨m, _, rfl, h1, h2, ai9 hz es ms h3 hg⟩
theorem ajl {ik : IntKind} {g : Gh} {k : Int} {v : AV} {z : Value} {c : Nat} (hz : Rep g v z) : ∀ (es : MI) (l : List MapEntry), RepMI ik g es l -> es.get k = none -> RepMI ik g (es.put k v) (l ++ [{ key := (.int ik k), val := z, born := c }])
  | [], l, h, hg => by
    rw [abn] at h; subst h; exact pm.2 ⟨_, _, rfl, rfl, hz, abn.2 rfl⟩
  | (a, w) :: es, l, h, hg => by
    obtain ⟨m, ms, rfl, h1, h2, h3⟩ := pm.1 h; by_cases he : a = k
    · rw [MI.get, if_pos he] at hg; cases hg
    · rw [MI.get, if_neg he] at hg
      rw [MI.put, if_neg he]; exact pm.2 ⟨m, _, rfl, h1, h2, ajl hz es ms h3 hg⟩
theorem vp {ik : IntKind} {g : Gh} {heap : Array Obj} {o : Nat} {es : MI} (h : RepO g heap o (es.ao ik)) : ∃ l es' clock, g.loc o = some l /\ heap[l.blk]? = some (.map es' clock) /\ RepMI ik g es es'.toList /\ (∀ m ∈ es', m.born < clock) /\ (es'.toList.map (·.born)).Nodup := by
  rcases h with ⟨h, _⟩ | ⟨l, c, e, fz, h1, h2, h3, h4, h5⟩ | ⟨l, es1, es', clock, h0, h1, h2, h3, h4, h5⟩ | ⟨_, _, _, _, hq⟩
  · exact h.elim
  · exact h5.elim
  · cases h0; exact ⟨l, es', clock, h1, h2, h3, h4, h5.1⟩
  · obtain ⟨_, _, he⟩ := hq.mp
    cases es with
    | nil => cases he
    | cons a es => cases he
section
variable {P : Program} {n : Nat} {K : Exit -> Regs -> AHeap -> Prop} {R : Regs} {H : AHeap} {ops : Array Oper} {rest : List Oper} {ty : TypeId} {d : Tmp} {pos : String} {af : Array Edge}
theorem su {k : TypeId} {ik : IntKind} (hk : P.underlying k = some (.int ik)) (b : Bool) (s : Int) (w : World) : (Instr.checkKey b 10000 k (.int ik s)).run P w = .ok () w := MapKept.run_checkKey (k := .int ik s) hk (by simp [IsKey]) b 9999
theorem ady {t k e : TypeId} {ik : IntKind} [hT : MapIT P t k e ik] {z : Value} [hZ : ZeroT P e z] {m x : Operand} {o : Nat} {es : MI} {ks : Int} (hm : am R m = .mp o) (hx : am R x = .raw (.int ik ks)) (hH : H o = some (es.ao ik)) {v : AV} (hv : (es.get ks).getD (.raw z) = v) :
    Stp P n (.lookup t m x false) ty R H v :=
  du fun op ho _ g a w hp => by
    obtain ⟨l, hl, he⟩ := uz (hm ▸ rv hp (x := m) rfl); have hk := rv hp hx; simp only [Rep] at hk; obtain ⟨l', es', clock, q1, q2, q3, q4, q5⟩ := vp (hp.sim.objs o _ hH); rw [hl] at q1; cases q1; have h2 := MapKept.run_getObj_map (P := P) q2
    cases hg : es.get ks with
    | none =>
      have hf := wa es es'.toList 0 q3 hg; refine ⟨z, ?_, by rw [<- hv, hg]; simp only [Option.getD_none, Rep]⟩
      simp [execOp, ho, he, hk, Instr.lookup, run_underlying hT.h, h2, Result.andThen, su hT.k, MapKept.run_findKey hT.k hf, hZ.h]
    | some u =>
      obtain ⟨j, m', e1, e2, e3, e4⟩ := abf es es'.toList 0 q3 hg; refine ⟨m'.val, ?_, by rw [<- hv, hg]; simpa using e4⟩
      simp [execOp, ho, he, hk, Instr.lookup, run_underlying hT.h, h2, Result.andThen, su hT.k, MapKept.run_findKey hT.k e1]
theorem uk {t k e : TypeId} {ik : IntKind} [hT : MapIT P t k e ik] {m x y : Operand} {o : Nat} {es : MI} {ks : Int} {v : AV} (hm : am R m = .mp o) (hx : am R x = .raw (.int ik ks)) (hy : am R y = v) (hH : H o = some (es.ao ik))
    (hk : AWL P n ops rest K R (H.set o ((es.put ks v).ao ik))) : AWL P n ops (⟨none, .mapUpdate t m x y, ty, pos, af, none⟩ :: rest) K R H :=
  agz rfl rfl fun g a w hp => by
    obtain ⟨l, hl, he⟩ := uz (hm ▸ rv hp (x := m) rfl); have hkk := rv hp hx; have hvv := rv hp hy; simp only [Rep] at hkk; obtain ⟨l', es', clock, q1, q2, q3, q4, q5⟩ := vp (hp.sim.objs o _ hH); rw [hl] at q1; cases q1; have h2 := MapKept.run_getObj_map (P := P) q2; have hlt := (Array.getElem?_eq_some_iff.1 q2).1
    cases hg : es.get ks with
    | none =>
      have hf := wa es es'.toList 0 q3 hg; refine ⟨{ w with heap := w.heap.setIfInBounds l.blk (.map (es'.push { key := (.int ik ks), val := a.eval y, born := clock }) (clock + 1)) }, g, _, ?_, .refl g, ?_, hk⟩
      · simp [execOp, he, hkk, Instr.mapUpdate, run_underlying hT.h, h2, su hT.k, MapKept.run_findKey hT.k hf, MapKept.run_setObj_map _ q2, Result.andThen]
      · refine hp.sim.writeO (w' := { w with heap := w.heap.setIfInBounds l.blk (.map (es'.push { key := (.int ik ks), val := a.eval y, born := clock }) (clock + 1)) }) ⟨rfl, rfl, rfl⟩ hH hl (fun b hb => by simp [Ne.symm hb]) (.inr (.inr (.inl ⟨l, _, es'.push { key := (.int ik ks), val := a.eval y, born := clock }, clock + 1, rfl, hl, af2 hlt _, ?_, ?_, ⟨?_, zo _⟩⟩)))
        · have := ajl (c := clock) hvv es es'.toList q3 hg
          simpa [RepMI, Array.toList_push] using this
        · intro m hm
          rcases Array.mem_push.1 hm with h | rfl
          · have := q4 m h; omega
          · exact Nat.lt_succ_self _
        · rw [Array.toList_push, List.map_append, List.nodup_append]
          refine ⟨q5, by simp, fun b hb c hc => ?_⟩
          obtain ⟨m', hm', rfl⟩ := List.mem_map.1 hb; have := q4 m' (by simpa using hm')
          simp at hc
          omega
    | some u =>
      obtain ⟨m', e1, e2, e3, e4⟩ := agx es es'.toList 0 q3 hg; rw [Nat.zero_add] at e1; have e2' : es'[MI.idx es ks]? = some m' := by simpa using e2
      refine ⟨{ w with heap := w.heap.setIfInBounds l.blk (.map (es'.modify (MI.idx es ks) fun e => { e with key := (.int ik ks), val := a.eval y }) clock) }, g, _, ?_, .refl g, ?_, hk⟩
      · simp [execOp, he, hkk, Instr.mapUpdate, run_underlying hT.h, h2, su hT.k, MapKept.run_findKey hT.k e1, MapKept.run_setObj_map _ q2, Result.andThen, e2', e3, Instr.keyThatStays, Instr.sameBits, beq_self_eq_true, Bool.and_self]
      · refine hp.sim.writeO (w' := { w with heap := w.heap.setIfInBounds l.blk (.map (es'.modify (MI.idx es ks) fun e => { e with key := (.int ik ks), val := a.eval y }) clock) }) ⟨rfl, rfl, rfl⟩ hH hl (fun b hb => by simp [Ne.symm hb]) (.inr (.inr (.inl ⟨l, _, es'.modify (MI.idx es ks) fun e => { e with key := (.int ik ks), val := a.eval y }, clock, rfl, hl, af2 hlt _, ?_, ?_, ⟨?_, zo _⟩⟩)))
        · have := ai9 hvv es es'.toList q3 hg
          simpa [RepMI, Array.toList_modify] using this
        · intro m hm
          rw [Array.mem_iff_getElem?] at hm; obtain ⟨i, hi⟩ := hm; rw [Array.getElem?_modify] at hi; split at hi
          · rw [Option.map_eq_some_iff] at hi
            obtain ⟨x, hx, rfl⟩ := hi; exact q4 x (Array.mem_of_getElem? hx)
          · exact q4 m (Array.mem_of_getElem? hi)
        · have : (es'.modify (MI.idx es ks) fun e => { e with key := (.int ik ks), val := a.eval y }).toList.map (·.born) = es'.toList.map (·.born) := by
            rw [Array.toList_modify]; apply List.ext_getElem?; intro i; simp only [List.getElem?_map, List.getElem?_modify]; split <;> cases es'.toList[i]? <;> rfl
          rw [this]; exact q5
theorem uc {t k e : TypeId} {ik : IntKind} [hT : MapIT P t k e ik] (hdn : Nat.blt d n = true) (hk : ∀ o', H o' = none -> AWL P n ops rest K ((d, .mp o') :: R) (H.set o' (MI.ao ik []))) :
    AWL P n ops (⟨some d, .makeMap t none, ty, pos, af, none⟩ :: rest) K R H := aqk hdn hk
theorem xg {t k e : TypeId} {ik : IntKind} [hT : MapIT P t k e ik] {z : Value} [hZ : ZeroT P e z] {m x : Operand} {o : Nat} {es : MI} {ks : Int} (hm : am R m = .mp o) (hx : am R x = .raw (.int ik ks)) (hH : H o = some (es.ao ik)) {v : AV} (hv : (es.get ks).getD (.raw z) = v) {b : Bool} (hb : (es.get ks).isSome = b) :
    Stp P n (.lookup t m x true) ty R H (.tup [v, .raw (.bool b)]) :=
  du fun op ho _ g a w hp => by
    obtain ⟨l, hl, he⟩ := uz (hm ▸ rv hp (x := m) rfl); have hk := rv hp hx; simp only [Rep] at hk; obtain ⟨l', es', clock, q1, q2, q3, q4, q5⟩ := vp (hp.sim.objs o _ hH); rw [hl] at q1; cases q1; have h2 := MapKept.run_getObj_map (P := P) q2
    cases hg : es.get ks with
    | none =>
      have hf := wa es es'.toList 0 q3 hg; refine ⟨.tuple #[z, .bool false], ?_, by rw [<- hv, <- hb, hg]; simp [Rep, RepL]⟩
      simp [execOp, ho, he, hk, Instr.lookup, run_underlying hT.h, h2, Result.andThen, su hT.k, MapKept.run_findKey hT.k hf, hZ.h]
    | some u =>
      obtain ⟨j, m', e1, e2, e3, e4⟩ := abf es es'.toList 0 q3 hg; refine ⟨.tuple #[m'.val, .bool true], ?_, by rw [<- hv, <- hb, hg]; simpa [Rep, RepL] using e4⟩
      simp [execOp, ho, he, hk, Instr.lookup, run_underlying hT.h, h2, Result.andThen, su hT.k, MapKept.run_findKey hT.k e1]
theorem acj {g : Gh} : ∀ (es : List (AV × AV)) (l : List MapEntry), RepEs g es l -> l.length = es.length
  | [], l, h => by simp only [RepEs] at h; rw [h]; rfl
  | (k, v) :: es, l, h => by
    obtain ⟨m, ms, rfl, _, _, h⟩ := h; rw [List.length_cons, List.length_cons, acj es ms h]
theorem aas {g : Gh} : ∀ (es : List (AV × AV)) (l : List MapEntry), RepEs g es l -> ∀ (i : Nat) (m : MapEntry), l[i]? = some m -> ∃ k v, es[i]? = some (k, v) /\ Rep g k m.key /\ Rep g v m.val
  | [], l, h, i, m, hm => by simp only [RepEs] at h; rw [h] at hm; cases hm
  | (k, v) :: es, l, h, 0, m, hm => by
    obtain ⟨m', ms, rfl, h1, h2, h⟩ := h
    cases hm
    exact ⟨k, v, rfl, h1, h2⟩
  | (k, v) :: es, l, h, i + 1, m, hm => by
    obtain ⟨m', ms, rfl, h1, h2, h⟩ := h; exact aas es ms h i m hm
theorem ajs {t k e : TypeId} {ik : IntKind} [hT : MapIT P t k e ik] {x : Operand} {o : Nat} {es : MI} (hx : am R x = .mp o) (hH : H o = some (es.ao ik)) :
    Stp P n (.call { callee := .builtin .len, args := #[x], argTypes := #[t] }) ty R H (.raw (.int .i64 (es.length : Int))) :=
  du fun op ho _ g a w hp => by
    obtain ⟨l, hl, he⟩ := uz (hx ▸ rv hp (x := x) rfl); obtain ⟨l', es', clock, q1, q2, q3, q4, q5⟩ := vp (hp.sim.objs o _ hH); rw [hl] at q1; cases q1; have h2 := MapKept.run_getObj_map (P := P) q2; have hsz : es'.size = es.length := by have := acj _ _ q3; simpa using this
    refine ⟨.int .i64 (es.length : Int), ?_, by simp only [Rep]⟩
    simp [execOp, ho, he, resolve, invoke, builtin, Builtin.len_, run_underlying hT.h, h2, Result.andThen, goInt, hsz]
theorem akx {a b c a' b' c' : Nat} {s s' : List Nat} (h : itrO a b c s = itrO a' b' c' s') : a = a' /\ b = b' /\ c = c' /\ s = s' := by
  simp only [itrO, AO.mpo.injEq, List.cons.injEq, Prod.mk.injEq, AV.vw.injEq] at h; refine ⟨h.1.2.1, h.1.2.2.2.1, h.1.2.2.2.2, ?_⟩; have h2 := h.2; clear h
  induction s generalizing s' with
  | nil => cases s' with
    | nil => rfl
    | cons x l => cases h2
  | cons x l ih => cases s' with
    | nil => cases h2
    | cons y m =>
      simp only [List.map_cons, List.cons.injEq, Prod.mk.injEq, AV.ptr.injEq] at h2; rw [h2.1.2.1, ih h2.2]
theorem apy {a b a' b' : Nat} {es es' : List (AV × AV)} {s s' : List Nat} (h : mpxO a b es s = mpxO a' b' es' s') : a = a' /\ b = b' /\ es = es' /\ s = s' := by
  simp only [mpxO, AO.mpo.injEq, List.cons.injEq, Prod.mk.injEq, AV.vw.injEq, AV.tup.injEq] at h; refine ⟨h.1.2.1, h.1.2.2.2.1, h.2.2, ?_⟩; have h2 := h.2.1.2; clear h
  induction s generalizing s' with
  | nil => cases s' with
    | nil => rfl
    | cons x l => cases h2
  | cons x l ih => cases s' with
    | nil => cases h2
    | cons y m =>
      simp only [List.map_cons, List.cons.injEq, AV.ptr.injEq] at h2; rw [h2.1.1, ih h2.2]
theorem ae7 {a b c a' b' : Nat} {es : List (AV × AV)} {s s' : List Nat} (h : itrO a b c s = mpxO a' b' es s') : False := by
  simp only [itrO, mpxO, AO.mpo.injEq, List.cons.injEq, Prod.mk.injEq, AV.vw.injEq] at h; exact absurd h.1.2.2.1 (by decide)
theorem ags {g : Gh} {heap : Array Obj} {o mb since last : Nat} {seen : List Nat} (h : RepO g heap o (itrO mb since last seen)) : ∃ l, g.loc o = some l /\ l.base = 0 /\ heap[l.blk]? = some (.mapIter (some mb) since seen.toArray last) := by
  rcases h with ⟨h, _⟩ | ⟨l, c, e, fz, h1, h2, h3, h4, h5⟩ | ⟨l, es1, es', clock, h0, h1, h2, h3, h4, h5⟩ | ⟨l, ob, h1, h2, hq⟩
  · exact h.elim
  · exact h5.elim
  · simp only [itrO, AO.mpo.injEq] at h0
    subst h0; exact absurd rfl (h5.2 _ (List.mem_cons_self))
  · rcases hq with ⟨_, _, _, s, e1, e2, e3⟩ | ⟨_, _, _, e1, _⟩
    · obtain ⟨rfl, rfl, rfl, rfl⟩ := akx e1
      exact ⟨l, h1, e3, by rw [h2, e2]⟩
    · exact (ae7 e1).elim
theorem aaf {g : Gh} {heap : Array Obj} {o mb clock : Nat} {es : List (AV × AV)} {born : List Nat} (h : RepO g heap o (mpxO mb clock es born)) : ∃ l es', g.loc o = some l /\ l.blk = mb /\ heap[mb]? = some (.map es' clock) /\ RepEs g es es'.toList /\ es'.toList.map (·.born) = born /\ (∀ m ∈ es', m.born < clock) /\ born.Nodup := by
  rcases h with ⟨h, _⟩ | ⟨l, c, e, fz, h1, h2, h3, h4, h5⟩ | ⟨l, es1, es', clock, h0, h1, h2, h3, h4, h5⟩ | ⟨l, ob, h1, h2, hq⟩
  · exact h.elim
  · exact h5.elim
  · simp only [mpxO, AO.mpo.injEq] at h0
    subst h0; exact absurd rfl (h5.2 _ (List.mem_cons_self))
  · rcases hq with ⟨_, _, _, s, e1, e2, e3⟩ | ⟨es1, es', cl, e1, e2, e3, e4, e5⟩
    · exact (ae7 e1.symm).elim
    · obtain ⟨rfl, rfl, rfl, rfl⟩ := apy e1
      exact ⟨l, es', h1, rfl, by rw [h2, e2], e3, rfl, e4, e5⟩
theorem aes {t k e : TypeId} {ik : IntKind} [hT : MapIT P t k e ik] {x : Operand} {om : Nat} {es : MI} (hdn : Nat.blt d n = true) (hx : am R x = .mp om) (hH : H om = some (es.ao ik))
    (hk : ∀ oi mb clock born, H oi = none -> born.length = es.length -> born.Nodup -> (∀ b ∈ born, b < clock) -> AWL P n ops rest K ((d, .ptr oi 0) :: R) ((H.set om (mpxO mb clock (es.map fun p => (.raw (.int ik p.1), p.2)) born)).set oi (itrO mb clock clock []))) :
    AWL P n ops (⟨some d, .range t x, ty, pos, af, none⟩ :: rest) K R H :=
  ns rfl rfl hdn fun g a w hp => by
    obtain ⟨l, hl, he⟩ := uz (hx ▸ rv hp (x := x) rfl); obtain ⟨l', es', clock, q1, q2, q3, q4, q5⟩ := vp (hp.sim.objs om _ hH); rw [hl] at q1; cases q1; have h2 := MapKept.run_getObj_map (P := P) q2; have hsim := hp.sim.writeO (w' := w) (Same.refl w) hH hl (fun _ _ => rfl) (x := mpxO l.blk clock (es.map fun p => (.raw (.int ik p.1), p.2)) (es'.toList.map (·.born))) (.inr (.inr (.inr ⟨l, _, hl, q2, .inr ⟨_, es', clock, rfl, rfl, q3, q4, q5⟩⟩)))
    obtain ⟨oi, ho', hl'⟩ := hsim.fresh; have hne : oi ≠ om := fun e => by rw [e, hl] at hl'; cases hl'
    have hoH : H oi = none := by simpa [AHeap.set, hne] using ho'
    refine ⟨.pointer (some ⟨w.heap.size, 0, none⟩), w.alloc (.mapIter (some l.blk) clock #[] clock), g.at oi ⟨w.heap.size, 0, 0⟩, .ptr oi 0, _, ?_, g.le_at hl' _, ?_, hsim.newO (w' := w.alloc (.mapIter (some l.blk) clock #[] clock)) ⟨rfl, rfl, rfl⟩ rfl hl' ?_, hk oi l.blk clock (es'.toList.map (·.born)) hoH ?_ q5 ?_⟩
    · simp only [execOp, he, Instr.range, Sem.run_bind, run_underlying hT.h, Result.andThen, h2]
      rfl
    · simp only [Rep]; exact ⟨_, Gh.at_self _ _ _, rfl⟩
    · exact .inr (.inr (.inr ⟨_, _, Gh.at_self _ _ _, by show (w.heap.push _)[w.heap.size]? = _; simp, .inl ⟨_, _, _, #[], rfl, rfl, rfl⟩⟩))
    · have := acj _ _ q3; simpa using this
    · intro b hb
      obtain ⟨m, hm, rfl⟩ := List.mem_map.1 hb; exact q4 m (by simpa using hm)
theorem ait {x : Operand} {oi om mb clock : Nat} {seen : List Nat} {es : List (AV × AV)} {born : List Nat} (hdn : Nat.blt d n = true) (hx : am R x = .ptr oi 0) (hI : H oi = some (itrO mb clock clock seen)) (hM : H om = some (mpxO mb clock es born))
    (hk1 : ∀ (i : Nat) (k v : AV) (b : Nat), es[i]? = some (k, v) -> born[i]? = some b -> b ∉ seen -> AWL P n ops rest K ((d, .tup [.raw (.bool true), k, v]) :: R) (H.set oi (itrO mb clock clock (seen ++ [b]))))
    (hk0 : (∀ b ∈ born, b ∈ seen) -> AWL P n ops rest K ((d, .tup [.raw (.bool false)]) :: R) H) :
    AWL P n ops (⟨some d, .next x false, ty, pos, af, none⟩ :: rest) K R H :=
  ns rfl rfl hdn fun g a w hp => by
    obtain ⟨li, hli, hb0, hit⟩ := ags (hp.sim.objs oi _ hI); obtain ⟨lm, es', hlm, hmb, hmap, q3, q4, q5, q6⟩ := aaf (hp.sim.objs om _ hM); have hv := rv hp hx; simp only [Rep] at hv; obtain ⟨l, hl, he⟩ := hv; rw [hli] at hl; cases hl; rw [hb0] at he; rcases run_next_at (P := P) w ty li.blk mb clock clock seen.toArray es' clock hit hmap (fun m hm => q5 m (by simpa using hm)) (Nat.le_refl _) with ⟨h0, hr⟩ | ⟨m, hm, w1, hw1, hr⟩
    · refine ⟨.tuple #[.bool false], w, g, .tup [.raw (.bool false)], H, ?_, .refl g, ?_, hp.sim, hk0 fun b hb => ?_⟩
      · have he' : a.eval x = Value.pointer (some ⟨li.blk, 0, none⟩) := he
        simp only [execOp, he']; simp [hr]
      · simp [Rep, RepL]
      · rw [<- q4] at hb
        obtain ⟨m, hm, rfl⟩ := List.mem_map.1 hb; refine Classical.byContradiction fun hn => ?_
        have h1 : m ∈ (leftOf es' seen.toArray).toList := by
          simp only [leftOf, Array.toList_filter, List.mem_filter]; exact ⟨hm, by simpa using hn⟩
        have h2 := Array.eq_empty_of_size_eq_zero h0; rw [h2] at h1; simp at h1
    · have hm' : m ∈ es'.toList /\ m.born ∉ seen := by
        simp only [leftOf, Array.toList_filter, List.mem_filter] at hm; exact ⟨hm.1, by simpa using hm.2⟩
      obtain ⟨i, hi⟩ := List.getElem?_of_mem hm'.1; obtain ⟨k, v, e1, e2, e3⟩ := aas _ _ q3 i m hi; have hbi : born[i]? = some m.born := by rw [<- q4, List.getElem?_map, hi]; rfl
      have hlt := (Array.getElem?_eq_some_iff.1 hit).1; refine ⟨.tuple #[.bool true, m.key, m.val], ChangeMaps.setBlock w1 li.blk (.mapIter (some mb) clock (seen.toArray.push m.born) clock), g, .tup [.raw (.bool true), k, v], _, ?_, .refl g, ?_, ?_, hk1 i k v m.born e1 hbi hm'.2⟩
      · have he' : a.eval x = Value.pointer (some ⟨li.blk, 0, none⟩) := he
        simp only [execOp, he']; simp [hr]
      · simp only [Rep, RepL]
        exact ⟨#[.bool true, m.key, m.val], rfl, _, _, rfl, rfl, _, _, rfl, e2, _, _, rfl, e3, rfl⟩
      · have hs : Same w (ChangeMaps.setBlock w1 li.blk (.mapIter (some mb) clock (seen.toArray.push m.born) clock)) := by rcases hw1 with rfl | rfl <;> exact ⟨rfl, rfl, rfl⟩
        have hh : w1.heap = w.heap := by rcases hw1 with rfl | rfl <;> rfl
        refine hp.sim.writeO hs hI hli (fun b hb => ?_) (.inr (.inr (.inr ⟨li, .mapIter (some mb) clock (seen.toArray.push m.born) clock, hli, ?_, .inl ⟨mb, clock, clock, seen.toArray.push m.born, by simp, rfl, hb0⟩⟩)))
        · show (w1.heap.setIfInBounds li.blk _)[b]? = _
          rw [hh, Array.getElem?_setIfInBounds, if_neg (fun e => hb e.symm)]
        · show (w1.heap.setIfInBounds li.blk _)[li.blk]? = _
          rw [hh, Array.getElem?_setIfInBounds, if_pos rfl, if_pos hlt]
theorem agc {x : Operand} {oi om mb clock b i : Nat} {seen : List Nat} {es : List (AV × AV)} {born : List Nat} {k v : AV} (hx : am R x = .ptr oi 0) (hI : H oi = some (itrO mb clock clock (seen ++ [b]))) (hM : H om = some (mpxO mb clock es born)) (hb : born[i]? = some b) (he : es[i]? = some (k, v)) :
    Stp P n (.entry x) ty R H (.tup [k, v]) :=
  du fun op ho _ g a w hp => by
    obtain ⟨li, hli, hb0, hit⟩ := ags (hp.sim.objs oi _ hI); obtain ⟨lm, es', hlm, hmb, hmap, q3, q4, q5, q6⟩ := aaf (hp.sim.objs om _ hM); have hv := rv hp hx; simp only [Rep] at hv; obtain ⟨l, hl, hev⟩ := hv; rw [hli] at hl; cases hl; rw [hb0] at hev; have hbb := hb; rw [<- q4, List.getElem?_map] at hb
    cases hm : es'.toList[i]? with
    | none => rw [hm] at hb; cases hb
    | some m =>
      rw [hm] at hb; have hmb' : m.born = b := by simpa using hb
      obtain ⟨k', v', e1, e2, e3⟩ := aas _ _ q3 i m hm; rw [he] at e1; cases e1; have hr := run_entry_at (P := P) w li.blk mb clock seen.toArray es' clock m (by rw [hit, hmb']; simp) hmap (List.mem_of_getElem? hm) (by rw [q4]; exact q6)
      refine ⟨.tuple #[m.key, m.val], ?_, by simp only [Rep, RepL]; exact ⟨#[m.key, m.val], rfl, _, _, rfl, e2, _, _, rfl, e3, rfl⟩⟩
      have hev' : a.eval x = Value.pointer (some ⟨li.blk, 0, none⟩) := hev; simp only [execOp, ho, hev']; simp [hr]
theorem Ent.unpin {ik : IntKind} {om mb clock : Nat} {es : MI} {born : List Nat} (hM : H om = some (mpxO mb clock (es.map fun p => (.raw (.int ik p.1), p.2)) born)) : Ent R H R (H.set om (es.ao ik)) := fun g t w h1 h2 => by
  refine ⟨g, .refl g, h1, ?_⟩; obtain ⟨lm, es', hlm, rfl, hmap, q3, q4, q5, q6⟩ := aaf (h2.objs om _ hM); exact h2.writeO (w' := w) (Same.refl w) hM hlm (fun _ _ => rfl) (.inr (.inr (.inl ⟨lm, _, es', clock, rfl, hlm, hmap, q3, q5, by rw [q4]; exact q6, zo _⟩)))
theorem al6 {t t2 e sz bytes : Nat} {z : Value} [hT : SliceT P t e sz bytes z] {x y : Operand} {m : Nat} {xs : List AV} (hdn : Nat.blt d n = true) (hx : am R x = .sls m xs) (hy : am R y = .raw (.slice none 0 0))
    (hk : ∀ b : Bool, (b = true -> m = 0 /\ xs = []) -> AWL P n ops rest K ((d, .raw (.bool b)) :: R) H) : AWL P n ops (⟨some d, .binOp .eql t x y t2, ty, pos, af, none⟩ :: rest) K R H :=
  ns rfl rfl hdn fun g a w hp => by
    have h1 := rv hp hx; have h2 := rv hp hy; simp only [Rep] at h1 h2; rcases h1 with ⟨rfl, rfl, ad, cap, he⟩ | ⟨b, off, cap, c, e', fz, he, _⟩
    · exact ⟨.bool ad.isNone, w, g, .raw (.bool ad.isNone), H, by simp [execOp, he, h2, eqGuard_at_slice, Lib.run_eql_slice_nil w t e ad 0 cap 0 0 hT.h], .refl g, by simp only [Rep], hp.sim, hk _ fun _ => ⟨rfl, rfl⟩⟩
    · exact ⟨.bool false, w, g, .raw (.bool false), H, by simp [execOp, he, h2, eqGuard_at_slice, Lib.run_eql_slice_nil w t e (some ⟨b, off, none⟩) m cap 0 0 hT.h], .refl g, by simp only [Rep], hp.sim, hk false (fun h => by cases h)⟩
end
end Go.Am
