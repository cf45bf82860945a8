/-
  The abstract machine: maps whose keys are texts; closures. No program in sight.
-/
import Derived.Test.YtmgkhfnhaeplgaaAmFn2
import Derived.MapKept
import Derived.Carry
namespace Go.Am
open Go Go.RowKit Go.MapKept

/-! A map's entries, in the order in which they were born. -/
abbrev MS := List (List UInt8 × AV)
def MS.ao (es : MS) : AO := .mpo (es.map fun p => (.str p.1, p.2))
def MS.get : MS → List UInt8 → Option AV
  | [], _ => none
  | (a, v) :: es, k => if a = k then some v else MS.get es k
def MS.put : MS → List UInt8 → AV → MS
  | [], k, v => [(k, v)]
  | (a, u) :: es, k, v => if a = k then (k, v) :: es else (a, u) :: MS.put es k v
class MapT (P : Program) (t : TypeId) (k e : outParam TypeId) : Prop where
  h : P.underlying t = some (.map k e)
  k : P.underlying k = some .string
abbrev kS (k : List UInt8) : Value := .string ⟨k.toArray⟩
def RepM (g : Gh) (es : MS) (l : List MapEntry) : Prop := RepEs g (es.map fun p => (AV.str p.1, p.2)) l
theorem repM_nil {g : Gh} {l : List MapEntry} : RepM g [] l ↔ l = [] := Iff.rfl
theorem repM_cons {g : Gh} {a : List UInt8} {v : AV} {es : MS} {l : List MapEntry} : RepM g ((a, v) :: es) l ↔ ∃ m ms, l = m :: ms ∧ m.key = kS a ∧ Rep g v m.val ∧ RepM g es ms := by
  show RepEs g ((AV.str a, v) :: es.map fun p => (AV.str p.1, p.2)) l ↔ _
  simp only [RepEs, Rep]
  rfl
theorem kS_beq (a b : List UInt8) : ((⟨a.toArray⟩ : ByteArray) == ⟨b.toArray⟩) = decide (a = b) := by
  show (a.toArray == b.toArray) = decide (a = b)
  rw [Bool.eq_iff_iff]; simp
theorem kS_self (a : List UInt8) : ((⟨a.toArray⟩ : ByteArray) == ⟨a.toArray⟩) = true := by rw [kS_beq]; simp
theorem findNow_none {g : Gh} {k : List UInt8} : ∀ (es : MS) (l : List MapEntry) (i : Nat), RepM g es l → es.get k = none → Instr.findNow .string (kS k) l i = some none
  | [], l, i, h, _ => by rw [repM_nil] at h; subst h; rfl
  | (a, v) :: es, l, i, h, hg => by
    obtain ⟨m, ms, rfl, h1, h2, h3⟩ := repM_cons.1 h
    have hne : ¬ a = k := fun e => by rw [MS.get, if_pos e] at hg; cases hg
    rw [MS.get, if_neg hne] at hg
    have := findNow_none es ms (i + 1) h3 hg
    simp only [Instr.findNow, h1, Instr.sameNow, kS_beq]
    rw [decide_eq_false (fun e => hne e.symm)]
    exact this
theorem findNow_some {g : Gh} {k : List UInt8} {v : AV} : ∀ (es : MS) (l : List MapEntry) (i : Nat), RepM g es l → es.get k = some v → ∃ j m, Instr.findNow .string (kS k) l i = some (some (i + j, m.val)) ∧ l[j]? = some m ∧ m.key = kS k ∧ Rep g v m.val
  | [], l, i, h, hg => by cases hg
  | (a, u) :: es, l, i, h, hg => by
    obtain ⟨m, ms, rfl, h1, h2, h3⟩ := repM_cons.1 h
    by_cases he : a = k
    · subst he
      rw [MS.get, if_pos rfl] at hg
      cases hg
      refine ⟨0, m, ?_, rfl, h1, h2⟩
      simp only [Instr.findNow, h1, Instr.sameNow, kS_beq, decide_true]
      rfl
    · rw [MS.get, if_neg he] at hg
      obtain ⟨j, m', e1, e2, e3, e4⟩ := findNow_some es ms (i + 1) h3 hg
      refine ⟨j + 1, m', ?_, e2, e3, e4⟩
      simp only [Instr.findNow, h1, Instr.sameNow, kS_beq]
      rw [decide_eq_false (fun e => he e.symm)]
      rw [show i + (j + 1) = i + 1 + j by omega]
      exact e1
/-- Where a key stands. -/
def MS.idx : MS → List UInt8 → Nat
  | [], _ => 0
  | (a, _) :: es, k => if a = k then 0 else MS.idx es k + 1
theorem findNow_idx {g : Gh} {k : List UInt8} {v : AV} : ∀ (es : MS) (l : List MapEntry) (i : Nat), RepM g es l → es.get k = some v → ∃ m, Instr.findNow .string (kS k) l i = some (some (i + MS.idx es k, m.val)) ∧ l[MS.idx es k]? = some m ∧ m.key = kS k ∧ Rep g v m.val
  | [], l, i, h, hg => by cases hg
  | (a, u) :: es, l, i, h, hg => by
    obtain ⟨m, ms, rfl, h1, h2, h3⟩ := repM_cons.1 h
    by_cases he : a = k
    · subst he
      rw [MS.get, if_pos rfl] at hg
      cases hg
      refine ⟨m, ?_, by rw [MS.idx, if_pos rfl]; rfl, h1, h2⟩
      rw [MS.idx, if_pos rfl]
      simp only [Instr.findNow, h1, Instr.sameNow, kS_beq, decide_true]
      rfl
    · rw [MS.get, if_neg he] at hg
      obtain ⟨m', e1, e2, e3, e4⟩ := findNow_idx es ms (i + 1) h3 hg
      refine ⟨m', ?_, by rw [MS.idx, if_neg he]; exact e2, e3, e4⟩
      rw [MS.idx, if_neg he]
      simp only [Instr.findNow, h1, Instr.sameNow, kS_beq]
      rw [decide_eq_false (fun e => he e.symm)]
      rw [show i + (MS.idx es k + 1) = i + 1 + MS.idx es k by omega]
      exact e1
theorem rep_put_old {g : Gh} {k : List UInt8} {v u : AV} {z : Value} (hz : Rep g v z) : ∀ (es : MS) (l : List MapEntry), RepM g es l → es.get k = some u → RepM g (es.put k v) (l.modify (MS.idx es k) fun e => { e with key := kS k, val := z })
  | [], l, h, hg => by cases hg
  | (a, w) :: es, l, h, hg => by
    obtain ⟨m, ms, rfl, h1, h2, h3⟩ := repM_cons.1 h
    by_cases he : a = k
    · subst he
      rw [MS.put, if_pos rfl, MS.idx, if_pos rfl]
      exact repM_cons.2 ⟨_, _, rfl, rfl, hz, h3⟩
    · rw [MS.get, if_neg he] at hg
      rw [MS.put, if_neg he, MS.idx, if_neg he]
      exact repM_cons.2 ⟨m, _, rfl, h1, h2, rep_put_old hz es ms h3 hg⟩
theorem rep_put_new {g : Gh} {k : List UInt8} {v : AV} {z : Value} {c : Nat} (hz : Rep g v z) : ∀ (es : MS) (l : List MapEntry), RepM g es l → es.get k = none → RepM g (es.put k v) (l ++ [{ key := kS k, val := z, born := c }])
  | [], l, h, hg => by
    rw [repM_nil] at h; subst h
    exact repM_cons.2 ⟨_, _, rfl, rfl, hz, repM_nil.2 rfl⟩
  | (a, w) :: es, l, h, hg => by
    obtain ⟨m, ms, rfl, h1, h2, h3⟩ := repM_cons.1 h
    by_cases he : a = k
    · rw [MS.get, if_pos he] at hg; cases hg
    · rw [MS.get, if_neg he] at hg
      rw [MS.put, if_neg he]
      exact repM_cons.2 ⟨m, _, rfl, h1, h2, rep_put_new hz es ms h3 hg⟩
/-- A live object's block turns. -/
theorem Sim.writeO {g : Gh} {H : AHeap} {w w' : World} (h : Sim g H w) (hs : Same w w') {o : Nat} {x0 x : AO} (hx0 : H o = some x0) {l : Loc} (hl : g.loc o = some l)
    (hoth : ∀ b, b ≠ l.blk → w'.heap[b]? = w.heap[b]?) (hx : RepO g w'.heap o x) : Sim g (H.set o x) w' := by
  refine ⟨hs.os.trans h.os, hs.tape.trans h.tape, hs.output.trans h.output, ?_, ?_, ?_, ?_, ?_⟩
  · intro b ob hbo
    rw [hoth b (fun e => by have := h.apart o x0 l hx0 hl; rw [← e] at this; rw [this] at hbo; cases hbo)]
    exact h.sealed b ob hbo
  · intro p y hp
    simp only [AHeap.set] at hp
    by_cases hpo : p = o
    · subst hpo; simp at hp; subst hp
      exact hx
    · rw [if_neg hpo] at hp
      exact (h.objs p y hp).move (.refl g) rfl fun l' hl' => hoth _ fun e => hpo (h.inj _ _ _ _ _ _ hp hx0 hl' hl e)
  · intro o1 o2 x1 x2 l1 l2 h1 h2 k1 k2 hbb
    simp only [AHeap.set] at h1 h2
    have f1 : ∃ y, H o1 = some y := by by_cases e1 : o1 = o; · exact ⟨x0, e1 ▸ hx0⟩
                                       · rw [if_neg e1] at h1; exact ⟨_, h1⟩
    have f2 : ∃ y, H o2 = some y := by by_cases e2 : o2 = o; · exact ⟨x0, e2 ▸ hx0⟩
                                       · rw [if_neg e2] at h2; exact ⟨_, h2⟩
    obtain ⟨y1, f1⟩ := f1
    obtain ⟨y2, f2⟩ := f2
    exact h.inj _ _ _ _ _ _ f1 f2 k1 k2 hbb
  · intro p y l' hp hl'
    simp only [AHeap.set] at hp
    by_cases hpo : p = o
    · subst hpo; exact h.apart _ _ _ hx0 hl'
    · rw [if_neg hpo] at hp; exact h.apart _ _ _ hp hl'
  · obtain ⟨N, hN⟩ := h.fin
    refine ⟨max N (o + 1), fun p hp => ?_⟩
    have hpo : p ≠ o := by omega
    have := hN p (by omega)
    exact ⟨by simp [AHeap.set, hpo, this.1], this.2⟩
/-- A new block that is an object. -/
theorem Sim.newO {g : Gh} {H : AHeap} {w w' : World} (h : Sim g H w) (hs : Same w w') {ob : Obj} (hh : w'.heap = w.heap.push ob) {o sz : Nat} (ho : g.loc o = none) {x : AO} (hx : RepO (g.at o ⟨w.heap.size, 0, sz⟩) w'.heap o x) :
    Sim (g.at o ⟨w.heap.size, 0, sz⟩) (H.set o x) w' := by
  have hle := g.le_at ho ⟨w.heap.size, 0, sz⟩
  have hold : ∀ b, b < w.heap.size → w'.heap[b]? = w.heap[b]? := fun b hb => by rw [hh, Array.getElem?_push, if_neg (by omega)]
  have hself : (g.at o ⟨w.heap.size, 0, sz⟩).loc o = some ⟨w.heap.size, 0, sz⟩ := by simp [Gh.at]
  have hother : ∀ p, p ≠ o → (g.at o ⟨w.heap.size, 0, sz⟩).loc p = g.loc p := fun p hp => by simp [Gh.at, hp]
  refine ⟨hs.os.trans h.os, hs.tape.trans h.tape, hs.output.trans h.output, ?_, ?_, ?_, ?_, ?_⟩
  · intro b ob hb
    have := h.sealed b ob hb
    rw [hold b (Array.getElem?_eq_some_iff.1 this).1]; exact this
  · intro p y hp
    simp only [AHeap.set] at hp
    by_cases hpo : p = o
    · subst hpo
      simp at hp; subst hp
      exact hx
    · rw [if_neg hpo] at hp
      have hr := h.objs p y hp
      exact hr.move hle (hother p hpo) fun l hl => hold _ (hr.blk_lt hl)
  · intro o1 o2 x1 x2 l1 l2 h1 h2 k1 k2 hb
    simp only [AHeap.set] at h1 h2
    by_cases e1 : o1 = o <;> by_cases e2 : o2 = o
    · rw [e1, e2]
    · subst e1; rw [hself] at k1; cases k1
      rw [if_neg e2] at h2; rw [hother _ e2] at k2
      have := (h.objs _ _ h2).blk_lt k2
      simp at hb; omega
    · subst e2; rw [hself] at k2; cases k2
      rw [if_neg e1] at h1; rw [hother _ e1] at k1
      have := (h.objs _ _ h1).blk_lt k1
      simp at hb; omega
    · rw [if_neg e1] at h1; rw [if_neg e2] at h2; rw [hother _ e1] at k1; rw [hother _ e2] at k2
      exact h.inj _ _ _ _ _ _ h1 h2 k1 k2 hb
  · intro p y l hp hl
    simp only [AHeap.set] at hp
    by_cases hpo : p = o
    · subst hpo
      rw [hself] at hl; cases hl
      show g.h w.heap.size = none
      cases hn : g.h w.heap.size with
      | none => rfl
      | some ob => have := (Array.getElem?_eq_some_iff.1 (h.sealed _ _ hn)).1; omega
    · rw [if_neg hpo] at hp; rw [hother p hpo] at hl
      exact h.apart p y l hp hl
  · obtain ⟨N, hN⟩ := h.fin
    refine ⟨max N (o + 1), fun p hp => ?_⟩
    have hpo : p ≠ o := by omega
    have := hN p (by omega)
    exact ⟨by simp [AHeap.set, hpo, this.1], by rw [hother p hpo]; exact this.2⟩

theorem heap_put {w : World} {b : Nat} (h : b < w.heap.size) (ob : Obj) : ({ w with heap := w.heap.setIfInBounds b ob } : World).heap[b]? = some ob := by
  show (w.heap.setIfInBounds b ob)[b]? = _
  rw [Array.getElem?_setIfInBounds, if_pos rfl, if_pos h]
theorem repO_map {g : Gh} {heap : Array Obj} {o : Nat} {es : MS} (h : RepO g heap o es.ao) : ∃ l es' clock, g.loc o = some l ∧ heap[l.blk]? = some (.map es' clock) ∧ RepM g es es'.toList ∧ (∀ m ∈ es', m.born < clock) ∧ (es'.toList.map (·.born)).Nodup := by
  rcases h with ⟨h, _⟩ | ⟨l, c, e, fz, h1, h2, h3, h4, h5⟩ | ⟨l, es1, es', clock, h0, h1, h2, h3, h4, h5⟩
  · exact h.elim
  · exact h5.elim
  · cases h0; exact ⟨l, es', clock, h1, h2, h3, h4, h5⟩
theorem loc_of_mp {g : Gh} {o : Nat} {v : Value} (h : Rep g (.mp o) v) : ∃ l, g.loc o = some l ∧ v = .map (some l.blk) := by simpa only [Rep] using h

section
variable {P : Program} {n : Nat} {K : Exit → Regs → AHeap → Prop} {R : Regs} {H : AHeap} {ops : Array Oper} {rest : List Oper} {ty : TypeId} {d : Tmp} {pos : String} {af : Array Edge}

theorem awl_makeMap {t : TypeId} (hdn : Nat.blt d n = true) (hk : ∀ o', H o' = none → AWL P n ops rest K ((d, .mp o') :: R) (H.set o' (MS.ao []))) :
    AWL P n ops (⟨some d, .makeMap t none, ty, pos, af, none⟩ :: rest) K R H :=
  awl_step rfl rfl hdn fun g a w hp => by
    obtain ⟨o', ho', hl'⟩ := hp.sim.fresh
    refine ⟨.map (some w.heap.size), w.alloc (.map #[] 0), g.at o' ⟨w.heap.size, 0, 0⟩, .mp o', _, ?_, g.le_at hl' _, ?_, hp.sim.newO (w' := w.alloc (.map #[] 0)) ⟨rfl, rfl, rfl⟩ rfl hl' ?_, hk o' ho'⟩
    · simp only [execOp, Option.map_none]; rfl
    · simp only [Rep]; exact ⟨_, Gh.at_self _ _ _, rfl⟩
    · exact .inr (.inr ⟨_, [], #[], 0, rfl, Gh.at_self _ _ _, by show (w.heap.push _)[w.heap.size]? = _; simp, rfl, fun m hm => by simp at hm, by simp⟩)

theorem ck_str {k : TypeId} (hk : P.underlying k = some .string) (b : Bool) (s : ByteArray) (w : World) : (Instr.checkKey b 10000 k (.string s)).run P w = .ok () w := MapKept.run_checkKey (k := .string s) hk (by simp [IsKey]) b 9999
theorem s_lookup {t k e : TypeId} [hT : MapT P t k e] {z : Value} [hZ : ZeroT P e z] {m x : Operand} {o : Nat} {es : MS} {ks : List UInt8} (hm : reval R m = .mp o) (hx : reval R x = .str ks) (hH : H o = some es.ao) {v : AV} (hv : (es.get ks).getD (.raw z) = v) :
    Stp P n (.lookup t m x false) ty R H v :=
  stp_pure fun op ho _ g a w hp => by
    obtain ⟨l, hl, he⟩ := loc_of_mp (hm ▸ rv hp (x := m) rfl)
    have hk := rv hp hx
    simp only [Rep] at hk
    obtain ⟨l', es', clock, q1, q2, q3, q4, q5⟩ := repO_map (hp.sim.objs o _ hH)
    rw [hl] at q1; cases q1
    have h2 := MapKept.run_getObj_map (P := P) q2
    cases hg : es.get ks with
    | none =>
      have hf := findNow_none es es'.toList 0 q3 hg
      refine ⟨z, ?_, by rw [← hv, hg]; simp only [Option.getD_none, Rep]⟩
      simp [execOp, ho, he, hk, Instr.lookup, run_underlying hT.h, h2, Result.andThen, ck_str hT.k, MapKept.run_findKey hT.k hf, hZ.h]
    | some u =>
      obtain ⟨j, m', e1, e2, e3, e4⟩ := findNow_some es es'.toList 0 q3 hg
      refine ⟨m'.val, ?_, by rw [← hv, hg]; simpa using e4⟩
      simp [execOp, ho, he, hk, Instr.lookup, run_underlying hT.h, h2, Result.andThen, ck_str hT.k, MapKept.run_findKey hT.k e1]

theorem awl_mapUpdate {t k e : TypeId} [hT : MapT P t k e] {m x y : Operand} {o : Nat} {es : MS} {ks : List UInt8} {v : AV} (hm : reval R m = .mp o) (hx : reval R x = .str ks) (hy : reval R y = v) (hH : H o = some es.ao)
    (hk : AWL P n ops rest K R (H.set o (es.put ks v).ao)) : AWL P n ops (⟨none, .mapUpdate t m x y, ty, pos, af, none⟩ :: rest) K R H :=
  awl_none rfl rfl fun g a w hp => by
    obtain ⟨l, hl, he⟩ := loc_of_mp (hm ▸ rv hp (x := m) rfl)
    have hkk := rv hp hx
    have hvv := rv hp hy
    simp only [Rep] at hkk
    obtain ⟨l', es', clock, q1, q2, q3, q4, q5⟩ := repO_map (hp.sim.objs o _ hH)
    rw [hl] at q1; cases q1
    have h2 := MapKept.run_getObj_map (P := P) q2
    have hlt := (Array.getElem?_eq_some_iff.1 q2).1
    cases hg : es.get ks with
    | none =>
      have hf := findNow_none es es'.toList 0 q3 hg
      refine ⟨{ w with heap := w.heap.setIfInBounds l.blk (.map (es'.push { key := kS ks, val := a.eval y, born := clock }) (clock + 1)) }, g, _, ?_, .refl g, ?_, hk⟩
      · simp [execOp, he, hkk, Instr.mapUpdate, run_underlying hT.h, h2, ck_str hT.k, MapKept.run_findKey hT.k hf, MapKept.run_setObj_map _ q2, Result.andThen]
      · refine hp.sim.writeO (w' := { w with heap := w.heap.setIfInBounds l.blk (.map (es'.push { key := kS ks, val := a.eval y, born := clock }) (clock + 1)) }) ⟨rfl, rfl, rfl⟩ hH hl (fun b hb => by simp [Ne.symm hb]) (.inr (.inr ⟨l, _, es'.push { key := kS ks, val := a.eval y, born := clock }, clock + 1, rfl, hl, heap_put hlt _, ?_, ?_, ?_⟩))
        · have := rep_put_new (c := clock) hvv es es'.toList q3 hg
          simpa [RepM, Array.toList_push] using this
        · intro m hm
          rcases Array.mem_push.1 hm with h | rfl
          · have := q4 m h; omega
          · exact Nat.lt_succ_self _
        · rw [Array.toList_push, List.map_append, List.nodup_append]
          refine ⟨q5, by simp, fun b hb c hc => ?_⟩
          obtain ⟨m', hm', rfl⟩ := List.mem_map.1 hb
          have := q4 m' (by simpa using hm')
          simp at hc
          omega
    | some u =>
      obtain ⟨m', e1, e2, e3, e4⟩ := findNow_idx es es'.toList 0 q3 hg
      rw [Nat.zero_add] at e1
      have e2' : es'[MS.idx es ks]? = some m' := by simpa using e2
      refine ⟨{ w with heap := w.heap.setIfInBounds l.blk (.map (es'.modify (MS.idx es ks) fun e => { e with key := kS ks, val := a.eval y }) clock) }, g, _, ?_, .refl g, ?_, hk⟩
      · simp [execOp, he, hkk, Instr.mapUpdate, run_underlying hT.h, h2, ck_str hT.k, MapKept.run_findKey hT.k e1, MapKept.run_setObj_map _ q2, Result.andThen, e2', e3, Instr.keyThatStays, Instr.sameBits, kS_self]
      · refine hp.sim.writeO (w' := { w with heap := w.heap.setIfInBounds l.blk (.map (es'.modify (MS.idx es ks) fun e => { e with key := kS ks, val := a.eval y }) clock) }) ⟨rfl, rfl, rfl⟩ hH hl (fun b hb => by simp [Ne.symm hb]) (.inr (.inr ⟨l, _, es'.modify (MS.idx es ks) fun e => { e with key := kS ks, val := a.eval y }, clock, rfl, hl, heap_put hlt _, ?_, ?_, ?_⟩))
        · have := rep_put_old hvv es es'.toList q3 hg
          simpa [RepM, Array.toList_modify] using this
        · intro m hm
          rw [Array.mem_iff_getElem?] at hm
          obtain ⟨i, hi⟩ := hm
          rw [Array.getElem?_modify] at hi
          split at hi
          · rw [Option.map_eq_some_iff] at hi
            obtain ⟨x, hx, rfl⟩ := hi
            exact q4 x (Array.mem_of_getElem? hx)
          · exact q4 m (Array.mem_of_getElem? hi)
        · have : (es'.modify (MS.idx es ks) fun e => { e with key := kS ks, val := a.eval y }).toList.map (·.born) = es'.toList.map (·.born) := by
            rw [Array.toList_modify]
            apply List.ext_getElem?
            intro i
            simp only [List.getElem?_map, List.getElem?_modify]
            split <;> cases es'.toList[i]? <;> rfl
          rw [this]; exact q5

/-! Closures. -/
theorem s_makeFunc {fn : Fn} {fs cs : Array Operand} {avs : List AV} (hf : fs = #[]) (hc : cs.toList.map (reval R) = avs) : Stp P n (.makeFunc fn fs cs) ty R H (.fnc fn [] avs) :=
  stp_pure fun o ho _ g a w hp => by
    subst hf
    refine ⟨.func fn #[] (cs.map a.eval), by simp [execOp, ho, Instr.makeFunc], ?_⟩
    simp only [Rep]
    refine ⟨#[], cs.map a.eval, rfl, by simp only [RepL], ?_⟩
    rw [Array.toList_map]
    exact hc ▸ repL_map hp _

/-! The order of texts. -/
/-! Which rule may serve. -/
variable {v : AV} {x y z : Operand} {t t2 : TypeId} {od : Option Tmp}
end
end Go.Am
