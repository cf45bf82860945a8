/-
  An executor over the abstract machine: tries, and how code is carried out.
-/
import Derived.Test.YtaabpahemponkaaGreatDoorAmB
import Derived.MapKept
import Derived.Carry
import Derived.Maps.RangeRun
import Derived.Test.YtaabpahemponkaaGreatDoorAmA
import Derived.Laws.Entries
set_option linter.unusedVariables false
set_option linter.unusedSimpArgs false
namespace Go.Am
open Go Go.RowKit Go.MapKept
abbrev MS := List (List UInt8 × AV)
def MS.ao (es : MS) : AO := .mpo (es.map fun p => (.str p.1, p.2))
theorem ms_ok (es : MS) : ∀ p ∈ es.map (fun p => (AV.str p.1, p.2)), p.1 ≠ AV.emp := fun p hp => by
  obtain ⟨q, _, rfl⟩ := List.mem_map.1 hp
  exact fun e => by cases e
def MS.get : MS → List UInt8 → Option AV
  | [], _ => none
  | (a, v) :: es, k => if a = k then some v else MS.get es k
def MS.put : MS → List UInt8 → AV → MS
  | [], k, v => [(k, v)]
  | (a, u) :: es, k, v => if a = k then (k, v) :: es else (a, u) :: MS.put es k v
def MS.del : MS → List UInt8 → MS
  | [], _ => []
  | (a, u) :: es, k => if a = k then es else (a, u) :: MS.del es k
class MapT (P : Program) (t : TypeId) (k e : outParam TypeId) : Prop where
  h : P.underlying t = some (.map k e)
  k : P.underlying k = some .string
abbrev kS (k : List UInt8) : Value := .string ⟨k.toArray⟩
def RepM (g : Gh) (es : MS) (l : List MapEntry) : Prop := RepEs g (es.map fun p => (AV.str p.1, p.2)) l
theorem repM_nil {g : Gh} {l : List MapEntry} : RepM g [] l ↔ l = [] := Iff.rfl
theorem repM_cons {g : Gh} {a : List UInt8} {v : AV} {es : MS} {l : List MapEntry} : RepM g ((a, v) :: es) l ↔ ∃ m ms, l = m :: ms ∧ m.key = kS a ∧ Rep g v m.val ∧ RepM g es ms := by
  show RepEs g ((AV.str a, v) :: es.map fun p => (AV.str p.1, p.2)) l ↔ _
  simp only [RepEs, Rep]
  rfl
theorem kS_beq (a b : List UInt8) : ((⟨a.toArray⟩ : ByteArray) == ⟨b.toArray⟩) = decide (a = b) := by
  show (a.toArray == b.toArray) = decide (a = b)
  rw [Bool.eq_iff_iff]; simp
theorem kS_self (a : List UInt8) : ((⟨a.toArray⟩ : ByteArray) == ⟨a.toArray⟩) = true := by rw [kS_beq]; simp
theorem findNow_none {g : Gh} {k : List UInt8} : ∀ (es : MS) (l : List MapEntry) (i : Nat), RepM g es l → es.get k = none → Instr.findNow .string (kS k) l i = some none
  | [], l, i, h, _ => by rw [repM_nil] at h; subst h; rfl
  | (a, v) :: es, l, i, h, hg => by
    obtain ⟨m, ms, rfl, h1, h2, h3⟩ := repM_cons.1 h
    have hne : ¬ a = k := fun e => by rw [MS.get, if_pos e] at hg; cases hg
    rw [MS.get, if_neg hne] at hg
    have := findNow_none es ms (i + 1) h3 hg
    simp only [Instr.findNow, h1, Instr.sameNow, kS_beq]
    rw [decide_eq_false (fun e => hne e.symm)]
    exact this
theorem findNow_some {g : Gh} {k : List UInt8} {v : AV} : ∀ (es : MS) (l : List MapEntry) (i : Nat), RepM g es l → es.get k = some v → ∃ j m, Instr.findNow .string (kS k) l i = some (some (i + j, m.val)) ∧ l[j]? = some m ∧ m.key = kS k ∧ Rep g v m.val
  | [], l, i, h, hg => by cases hg
  | (a, u) :: es, l, i, h, hg => by
    obtain ⟨m, ms, rfl, h1, h2, h3⟩ := repM_cons.1 h
    by_cases he : a = k
    · subst he
      rw [MS.get, if_pos rfl] at hg
      cases hg
      refine ⟨0, m, ?_, rfl, h1, h2⟩
      simp only [Instr.findNow, h1, Instr.sameNow, kS_beq, decide_true]
      rfl
    · rw [MS.get, if_neg he] at hg
      obtain ⟨j, m', e1, e2, e3, e4⟩ := findNow_some es ms (i + 1) h3 hg
      refine ⟨j + 1, m', ?_, e2, e3, e4⟩
      simp only [Instr.findNow, h1, Instr.sameNow, kS_beq]
      rw [decide_eq_false (fun e => he e.symm)]
      rw [show i + (j + 1) = i + 1 + j by omega]
      exact e1
def MS.idx : MS → List UInt8 → Nat
  | [], _ => 0
  | (a, _) :: es, k => if a = k then 0 else MS.idx es k + 1
theorem findNow_idx {g : Gh} {k : List UInt8} {v : AV} : ∀ (es : MS) (l : List MapEntry) (i : Nat), RepM g es l → es.get k = some v → ∃ m, Instr.findNow .string (kS k) l i = some (some (i + MS.idx es k, m.val)) ∧ l[MS.idx es k]? = some m ∧ m.key = kS k ∧ Rep g v m.val
  | [], l, i, h, hg => by cases hg
  | (a, u) :: es, l, i, h, hg => by
    obtain ⟨m, ms, rfl, h1, h2, h3⟩ := repM_cons.1 h
    by_cases he : a = k
    · subst he
      rw [MS.get, if_pos rfl] at hg
      cases hg
      refine ⟨m, ?_, by rw [MS.idx, if_pos rfl]; rfl, h1, h2⟩
      rw [MS.idx, if_pos rfl]
      simp only [Instr.findNow, h1, Instr.sameNow, kS_beq, decide_true]
      rfl
    · rw [MS.get, if_neg he] at hg
      obtain ⟨m', e1, e2, e3, e4⟩ := findNow_idx es ms (i + 1) h3 hg
      refine ⟨m', ?_, by rw [MS.idx, if_neg he]; exact e2, e3, e4⟩
      rw [MS.idx, if_neg he]
      simp only [Instr.findNow, h1, Instr.sameNow, kS_beq]
      rw [decide_eq_false (fun e => he e.symm)]
      rw [show i + (MS.idx es k + 1) = i + 1 + MS.idx es k by omega]
      exact e1
theorem rep_put_old {g : Gh} {k : List UInt8} {v u : AV} {z : Value} (hz : Rep g v z) : ∀ (es : MS) (l : List MapEntry), RepM g es l → es.get k = some u → RepM g (es.put k v) (l.modify (MS.idx es k) fun e => { e with key := kS k, val := z })
  | [], l, h, hg => by cases hg
  | (a, w) :: es, l, h, hg => by
    obtain ⟨m, ms, rfl, h1, h2, h3⟩ := repM_cons.1 h
    by_cases he : a = k
    · subst he
      rw [MS.put, if_pos rfl, MS.idx, if_pos rfl]
      exact repM_cons.2 ⟨_, _, rfl, rfl, hz, h3⟩
    · rw [MS.get, if_neg he] at hg
      rw [MS.put, if_neg he, MS.idx, if_neg he]
      exact repM_cons.2 ⟨m, _, rfl, h1, h2, rep_put_old hz es ms h3 hg⟩
theorem rep_put_new {g : Gh} {k : List UInt8} {v : AV} {z : Value} {c : Nat} (hz : Rep g v z) : ∀ (es : MS) (l : List MapEntry), RepM g es l → es.get k = none → RepM g (es.put k v) (l ++ [{ key := kS k, val := z, born := c }])
  | [], l, h, hg => by
    rw [repM_nil] at h; subst h
    exact repM_cons.2 ⟨_, _, rfl, rfl, hz, repM_nil.2 rfl⟩
  | (a, w) :: es, l, h, hg => by
    obtain ⟨m, ms, rfl, h1, h2, h3⟩ := repM_cons.1 h
    by_cases he : a = k
    · rw [MS.get, if_pos he] at hg; cases hg
    · rw [MS.get, if_neg he] at hg
      rw [MS.put, if_neg he]
      exact repM_cons.2 ⟨m, _, rfl, h1, h2, rep_put_new hz es ms h3 hg⟩
theorem rep_del {g : Gh} {k : List UInt8} {u : AV} : ∀ (es : MS) (l : List MapEntry), RepM g es l → es.get k = some u → RepM g (es.del k) (l.eraseIdx (MS.idx es k))
  | [], l, h, hg => by cases hg
  | (a, w) :: es, l, h, hg => by
    obtain ⟨m, ms, rfl, h1, h2, h3⟩ := repM_cons.1 h
    by_cases he : a = k
    · subst he
      rw [MS.del, if_pos rfl, MS.idx, if_pos rfl]
      exact h3
    · rw [MS.get, if_neg he] at hg
      rw [MS.del, if_neg he, MS.idx, if_neg he]
      exact repM_cons.2 ⟨m, _, rfl, h1, h2, rep_del es ms h3 hg⟩
theorem del_none {k : List UInt8} : ∀ es : MS, es.get k = none → es.del k = es
  | [], _ => rfl
  | (a, w) :: es, hg => by
    by_cases he : a = k
    · rw [MS.get, if_pos he] at hg; cases hg
    · rw [MS.get, if_neg he] at hg
      rw [MS.del, if_neg he, del_none es hg]
theorem Sim.writeO {g : Gh} {H : AHeap} {w w' : World} (h : Sim g H w) (hs : Same w w') {o : Nat} {x0 x : AO} (hx0 : H o = some x0) {l : Loc} (hl : g.loc o = some l)
    (hoth : ∀ b, b ≠ l.blk → w'.heap[b]? = w.heap[b]?) (hx : RepO g w'.heap o x) : Sim g (H.set o x) w' := by
  refine ⟨hs.os.trans h.os, hs.tape.trans h.tape, hs.output.trans h.output, ?_, ?_, ?_, ?_, ?_⟩
  · intro b ob hbo
    rw [hoth b (fun e => by have := h.apart o x0 l hx0 hl; rw [← e] at this; rw [this] at hbo; cases hbo)]
    exact h.sealed b ob hbo
  · intro p y hp
    simp only [AHeap.set] at hp
    by_cases hpo : p = o
    · subst hpo; simp at hp; subst hp
      exact hx
    · rw [if_neg hpo] at hp
      exact (h.objs p y hp).move (.refl g) rfl fun l' hl' => hoth _ fun e => hpo (h.inj _ _ _ _ _ _ hp hx0 hl' hl e)
  · intro o1 o2 x1 x2 l1 l2 h1 h2 k1 k2 hbb
    simp only [AHeap.set] at h1 h2
    have f1 : ∃ y, H o1 = some y := by by_cases e1 : o1 = o; · exact ⟨x0, e1 ▸ hx0⟩
                                       · rw [if_neg e1] at h1; exact ⟨_, h1⟩
    have f2 : ∃ y, H o2 = some y := by by_cases e2 : o2 = o; · exact ⟨x0, e2 ▸ hx0⟩
                                       · rw [if_neg e2] at h2; exact ⟨_, h2⟩
    obtain ⟨y1, f1⟩ := f1
    obtain ⟨y2, f2⟩ := f2
    exact h.inj _ _ _ _ _ _ f1 f2 k1 k2 hbb
  · intro p y l' hp hl'
    simp only [AHeap.set] at hp
    by_cases hpo : p = o
    · subst hpo; exact h.apart _ _ _ hx0 hl'
    · rw [if_neg hpo] at hp; exact h.apart _ _ _ hp hl'
  · obtain ⟨N, hN⟩ := h.fin
    refine ⟨max N (o + 1), fun p hp => ?_⟩
    have hpo : p ≠ o := by omega
    have := hN p (by omega)
    exact ⟨by simp [AHeap.set, hpo, this.1], this.2⟩
theorem Sim.newO {g : Gh} {H : AHeap} {w w' : World} (h : Sim g H w) (hs : Same w w') {ob : Obj} (hh : w'.heap = w.heap.push ob) {o sz : Nat} (ho : g.loc o = none) {x : AO} (hx : RepO (g.at o ⟨w.heap.size, 0, sz⟩) w'.heap o x) :
    Sim (g.at o ⟨w.heap.size, 0, sz⟩) (H.set o x) w' := by
  have hle := g.le_at ho ⟨w.heap.size, 0, sz⟩
  have hold : ∀ b, b < w.heap.size → w'.heap[b]? = w.heap[b]? := fun b hb => by rw [hh, Array.getElem?_push, if_neg (by omega)]
  have hself : (g.at o ⟨w.heap.size, 0, sz⟩).loc o = some ⟨w.heap.size, 0, sz⟩ := by simp [Gh.at]
  have hother : ∀ p, p ≠ o → (g.at o ⟨w.heap.size, 0, sz⟩).loc p = g.loc p := fun p hp => by simp [Gh.at, hp]
  refine ⟨hs.os.trans h.os, hs.tape.trans h.tape, hs.output.trans h.output, ?_, ?_, ?_, ?_, ?_⟩
  · intro b ob hb
    have := h.sealed b ob hb
    rw [hold b (Array.getElem?_eq_some_iff.1 this).1]; exact this
  · intro p y hp
    simp only [AHeap.set] at hp
    by_cases hpo : p = o
    · subst hpo
      simp at hp; subst hp
      exact hx
    · rw [if_neg hpo] at hp
      have hr := h.objs p y hp
      exact hr.move hle (hother p hpo) fun l hl => hold _ (hr.blk_lt hl)
  · intro o1 o2 x1 x2 l1 l2 h1 h2 k1 k2 hb
    simp only [AHeap.set] at h1 h2
    by_cases e1 : o1 = o <;> by_cases e2 : o2 = o
    · rw [e1, e2]
    · subst e1; rw [hself] at k1; cases k1
      rw [if_neg e2] at h2; rw [hother _ e2] at k2
      have := (h.objs _ _ h2).blk_lt k2
      simp at hb; omega
    · subst e2; rw [hself] at k2; cases k2
      rw [if_neg e1] at h1; rw [hother _ e1] at k1
      have := (h.objs _ _ h1).blk_lt k1
      simp at hb; omega
    · rw [if_neg e1] at h1; rw [if_neg e2] at h2; rw [hother _ e1] at k1; rw [hother _ e2] at k2
      exact h.inj _ _ _ _ _ _ h1 h2 k1 k2 hb
  · intro p y l hp hl
    simp only [AHeap.set] at hp
    by_cases hpo : p = o
    · subst hpo
      rw [hself] at hl; cases hl
      show g.h w.heap.size = none
      cases hn : g.h w.heap.size with
      | none => rfl
      | some ob => have := (Array.getElem?_eq_some_iff.1 (h.sealed _ _ hn)).1; omega
    · rw [if_neg hpo] at hp; rw [hother p hpo] at hl
      exact h.apart p y l hp hl
  · obtain ⟨N, hN⟩ := h.fin
    refine ⟨max N (o + 1), fun p hp => ?_⟩
    have hpo : p ≠ o := by omega
    have := hN p (by omega)
    exact ⟨by simp [AHeap.set, hpo, this.1], by rw [hother p hpo]; exact this.2⟩
theorem heap_put {w : World} {b : Nat} (h : b < w.heap.size) (ob : Obj) : ({ w with heap := w.heap.setIfInBounds b ob } : World).heap[b]? = some ob := by
  show (w.heap.setIfInBounds b ob)[b]? = _
  rw [Array.getElem?_setIfInBounds, if_pos rfl, if_pos h]
theorem repO_map {g : Gh} {heap : Array Obj} {o : Nat} {es : MS} (h : RepO g heap o es.ao) : ∃ l es' clock, g.loc o = some l ∧ heap[l.blk]? = some (.map es' clock) ∧ RepM g es es'.toList ∧ (∀ m ∈ es', m.born < clock) ∧ (es'.toList.map (·.born)).Nodup := by
  rcases h with ⟨h, _⟩ | ⟨l, c, e, fz, h1, h2, h3, h4, h5⟩ | ⟨l, es1, es', clock, h0, h1, h2, h3, h4, h5⟩ | ⟨_, _, _, _, hq⟩
  · exact h.elim
  · exact h5.elim
  · cases h0; exact ⟨l, es', clock, h1, h2, h3, h4, h5.1⟩
  · obtain ⟨_, _, he⟩ := hq.mp
    cases es with
    | nil => cases he
    | cons a es => cases he
theorem loc_of_mp {g : Gh} {o : Nat} {v : Value} (h : Rep g (.mp o) v) : ∃ l, g.loc o = some l ∧ v = .map (some l.blk) := by simpa only [Rep] using h
section
variable {P : Program}
theorem ck_str {k : TypeId} (hk : P.underlying k = some .string) (b : Bool) (s : ByteArray) (w : World) : (Instr.checkKey b 10000 k (.string s)).run P w = .ok () w := MapKept.run_checkKey (k := .string s) hk (by simp [IsKey]) b 9999
end
abbrev MI := List (Int × AV)
def MI.ao (ik : IntKind) (es : MI) : AO := .mpo (es.map fun p => (.raw (.int ik p.1), p.2))
theorem mi_ok {ik : IntKind} (es : MI) : ∀ p ∈ es.map (fun p => (AV.raw (.int ik p.1), p.2)), p.1 ≠ AV.emp := fun p hp => by
  obtain ⟨q, _, rfl⟩ := List.mem_map.1 hp
  exact fun e => by cases e
def MI.get : MI → Int → Option AV
  | [], _ => none
  | (a, v) :: es, k => if a = k then some v else MI.get es k
def MI.put : MI → Int → AV → MI
  | [], k, v => [(k, v)]
  | (a, u) :: es, k, v => if a = k then (k, v) :: es else (a, u) :: MI.put es k v
def MI.del : MI → Int → MI
  | [], _ => []
  | (a, u) :: es, k => if a = k then es else (a, u) :: MI.del es k
class MapIT (P : Program) (t : TypeId) (k e : outParam TypeId) (ik : outParam IntKind) : Prop where
  h : P.underlying t = some (.map k e)
  k : P.underlying k = some (.int ik)
def RepMI (ik : IntKind) (g : Gh) (es : MI) (l : List MapEntry) : Prop := RepEs g (es.map fun p => (AV.raw (.int ik p.1), p.2)) l
theorem repMI_nil {ik : IntKind} {g : Gh} {l : List MapEntry} : RepMI ik g [] l ↔ l = [] := Iff.rfl
theorem repMI_cons {ik : IntKind} {g : Gh} {a : Int} {v : AV} {es : MI} {l : List MapEntry} : RepMI ik g ((a, v) :: es) l ↔ ∃ m ms, l = m :: ms ∧ m.key = (.int ik a) ∧ Rep g v m.val ∧ RepMI ik g es ms := by
  show RepEs g ((AV.raw (.int ik a), v) :: es.map fun p => (AV.raw (.int ik p.1), p.2)) l ↔ _
  simp only [RepEs, Rep]
  rfl
theorem findI_none {ik : IntKind} {g : Gh} {k : Int} : ∀ (es : MI) (l : List MapEntry) (i : Nat), RepMI ik g es l → es.get k = none → Instr.findNow (.int ik) (.int ik k) l i = some none
  | [], l, i, h, _ => by rw [repMI_nil] at h; subst h; rfl
  | (a, v) :: es, l, i, h, hg => by
    obtain ⟨m, ms, rfl, h1, h2, h3⟩ := repMI_cons.1 h
    have hne : ¬ a = k := fun e => by rw [MI.get, if_pos e] at hg; cases hg
    rw [MI.get, if_neg hne] at hg
    have := findI_none es ms (i + 1) h3 hg
    simp only [Instr.findNow, h1, Instr.sameNow, if_true]
    rw [show (k == a) = false from by simpa using fun e => hne e.symm]
    exact this
theorem findI_some {ik : IntKind} {g : Gh} {k : Int} {v : AV} : ∀ (es : MI) (l : List MapEntry) (i : Nat), RepMI ik g es l → es.get k = some v → ∃ j m, Instr.findNow (.int ik) (.int ik k) l i = some (some (i + j, m.val)) ∧ l[j]? = some m ∧ m.key = (.int ik k) ∧ Rep g v m.val
  | [], l, i, h, hg => by cases hg
  | (a, u) :: es, l, i, h, hg => by
    obtain ⟨m, ms, rfl, h1, h2, h3⟩ := repMI_cons.1 h
    by_cases he : a = k
    · subst he
      rw [MI.get, if_pos rfl] at hg
      cases hg
      refine ⟨0, m, ?_, rfl, h1, h2⟩
      simp only [Instr.findNow, h1, Instr.sameNow, if_true, beq_self_eq_true]
      rfl
    · rw [MI.get, if_neg he] at hg
      obtain ⟨j, m', e1, e2, e3, e4⟩ := findI_some es ms (i + 1) h3 hg
      refine ⟨j + 1, m', ?_, e2, e3, e4⟩
      simp only [Instr.findNow, h1, Instr.sameNow, if_true]
      rw [show (k == a) = false from by simpa using fun e => he e.symm]
      rw [show i + (j + 1) = i + 1 + j by omega]
      exact e1
def MI.idx : MI → Int → Nat
  | [], _ => 0
  | (a, _) :: es, k => if a = k then 0 else MI.idx es k + 1
theorem findI_idx {ik : IntKind} {g : Gh} {k : Int} {v : AV} : ∀ (es : MI) (l : List MapEntry) (i : Nat), RepMI ik g es l → es.get k = some v → ∃ m, Instr.findNow (.int ik) (.int ik k) l i = some (some (i + MI.idx es k, m.val)) ∧ l[MI.idx es k]? = some m ∧ m.key = (.int ik k) ∧ Rep g v m.val
  | [], l, i, h, hg => by cases hg
  | (a, u) :: es, l, i, h, hg => by
    obtain ⟨m, ms, rfl, h1, h2, h3⟩ := repMI_cons.1 h
    by_cases he : a = k
    · subst he
      rw [MI.get, if_pos rfl] at hg
      cases hg
      refine ⟨m, ?_, by rw [MI.idx, if_pos rfl]; rfl, h1, h2⟩
      rw [MI.idx, if_pos rfl]
      simp only [Instr.findNow, h1, Instr.sameNow, if_true, beq_self_eq_true]
      rfl
    · rw [MI.get, if_neg he] at hg
      obtain ⟨m', e1, e2, e3, e4⟩ := findI_idx es ms (i + 1) h3 hg
      refine ⟨m', ?_, by rw [MI.idx, if_neg he]; exact e2, e3, e4⟩
      rw [MI.idx, if_neg he]
      simp only [Instr.findNow, h1, Instr.sameNow, if_true]
      rw [show (k == a) = false from by simpa using fun e => he e.symm]
      rw [show i + (MI.idx es k + 1) = i + 1 + MI.idx es k by omega]
      exact e1
theorem repI_put_old {ik : IntKind} {g : Gh} {k : Int} {v u : AV} {z : Value} (hz : Rep g v z) : ∀ (es : MI) (l : List MapEntry), RepMI ik g es l → es.get k = some u → RepMI ik g (es.put k v) (l.modify (MI.idx es k) fun e => { e with key := (.int ik k), val := z })
  | [], l, h, hg => by cases hg
  | (a, w) :: es, l, h, hg => by
    obtain ⟨m, ms, rfl, h1, h2, h3⟩ := repMI_cons.1 h
    by_cases he : a = k
    · subst he
      rw [MI.put, if_pos rfl, MI.idx, if_pos rfl]
      exact repMI_cons.2 ⟨_, _, rfl, rfl, hz, h3⟩
    · rw [MI.get, if_neg he] at hg
      rw [MI.put, if_neg he, MI.idx, if_neg he]
      exact repMI_cons.2 ⟨m, _, rfl, h1, h2, repI_put_old hz es ms h3 hg⟩
theorem repI_put_new {ik : IntKind} {g : Gh} {k : Int} {v : AV} {z : Value} {c : Nat} (hz : Rep g v z) : ∀ (es : MI) (l : List MapEntry), RepMI ik g es l → es.get k = none → RepMI ik g (es.put k v) (l ++ [{ key := (.int ik k), val := z, born := c }])
  | [], l, h, hg => by
    rw [repMI_nil] at h; subst h
    exact repMI_cons.2 ⟨_, _, rfl, rfl, hz, repMI_nil.2 rfl⟩
  | (a, w) :: es, l, h, hg => by
    obtain ⟨m, ms, rfl, h1, h2, h3⟩ := repMI_cons.1 h
    by_cases he : a = k
    · rw [MI.get, if_pos he] at hg; cases hg
    · rw [MI.get, if_neg he] at hg
      rw [MI.put, if_neg he]
      exact repMI_cons.2 ⟨m, _, rfl, h1, h2, repI_put_new hz es ms h3 hg⟩
theorem repO_mapI {ik : IntKind} {g : Gh} {heap : Array Obj} {o : Nat} {es : MI} (h : RepO g heap o (es.ao ik)) : ∃ l es' clock, g.loc o = some l ∧ heap[l.blk]? = some (.map es' clock) ∧ RepMI ik g es es'.toList ∧ (∀ m ∈ es', m.born < clock) ∧ (es'.toList.map (·.born)).Nodup := by
  rcases h with ⟨h, _⟩ | ⟨l, c, e, fz, h1, h2, h3, h4, h5⟩ | ⟨l, es1, es', clock, h0, h1, h2, h3, h4, h5⟩ | ⟨_, _, _, _, hq⟩
  · exact h.elim
  · exact h5.elim
  · cases h0; exact ⟨l, es', clock, h1, h2, h3, h4, h5.1⟩
  · obtain ⟨_, _, he⟩ := hq.mp
    cases es with
    | nil => cases he
    | cons a es => cases he
section
variable {P : Program}
theorem ck_int {k : TypeId} {ik : IntKind} (hk : P.underlying k = some (.int ik)) (b : Bool) (s : Int) (w : World) : (Instr.checkKey b 10000 k (.int ik s)).run P w = .ok () w := MapKept.run_checkKey (k := .int ik s) hk (by simp [IsKey]) b 9999
end
theorem repEs_len {g : Gh} : ∀ (es : List (AV × AV)) (l : List MapEntry), RepEs g es l → l.length = es.length
  | [], l, h => by simp only [RepEs] at h; rw [h]; rfl
  | (k, v) :: es, l, h => by
    obtain ⟨m, ms, rfl, _, _, h⟩ := h
    rw [List.length_cons, List.length_cons, repEs_len es ms h]
end Go.Am
namespace Go.Ex
open Go Go.Am
noncomputable section
def fail {ρ : Type} (s : String) (z : ρ) : ρ := z
inductive T (α : Type) where
  | nil
  | node (l : T α) (v : Option α) (r : T α)
def onSome {α ρ : Type} (o : Option α) : (α → ρ) → ρ → ρ := @Option.rec α (fun _ => (α → ρ) → ρ → ρ) (fun _ z => z) (fun x f _ => f x) o
def ifb {ρ : Type} (b : Bool) : ρ → ρ → ρ := @Bool.rec (fun _ => ρ → ρ → ρ) (fun _ y => y) (fun x _ => x) b
def T.getN {α : Type} : T α → Nat → Option α :=
  @T.rec α (fun _ => Nat → Option α) (fun _ => none)
    (fun _ v _ gl gr i => Nat.rec (motive := fun _ => Option α) v (fun j _ => Bool.rec (motive := fun _ => Option α) (gr (Nat.div j 2)) (gl (Nat.div j 2)) (Nat.beq (Nat.mod j 2) 0)) i)
def T.get {α : Type} (t : T α) (i : Nat) : Option α := T.getN t i
def T.setF {α : Type} (x : Option α) (f : Nat) : T α → Nat → T α :=
  Nat.rec (motive := fun _ => T α → Nat → T α) (fun t _ => t) (fun _ ih t i =>
    Nat.rec (motive := fun _ => T α) (T.rec (motive := fun _ => T α) (.node .nil x .nil) (fun l _ r _ _ => .node l x r) t)
      (fun j _ => T.rec (motive := fun _ => T α)
         (Bool.rec (motive := fun _ => T α) (.node .nil none (ih .nil (Nat.div j 2))) (.node (ih .nil (Nat.div j 2)) none .nil) (Nat.beq (Nat.mod j 2) 0))
         (fun l v r _ _ => Bool.rec (motive := fun _ => T α) (.node l v (ih r (Nat.div j 2))) (.node (ih l (Nat.div j 2)) v r) (Nat.beq (Nat.mod j 2) 0)) t) i) f
def natOn {ρ : Type} (n : Nat) : ρ → (Nat → ρ) → ρ := @Nat.rec (fun _ => ρ → (Nat → ρ) → ρ) (fun z _ => z) (fun m _ _ s => s m) n
def iter {β : Type} (n : Nat) : β → (β → β) → β := @Nat.rec (fun _ => β → (β → β) → β) (fun z _ => z) (fun _ ih z s => s (ih z s)) n
def listOn {α ρ : Type} (l : List α) : ρ → (α → List α → ρ) → ρ := @List.rec α (fun _ => ρ → (α → List α → ρ) → ρ) (fun z _ => z) (fun x xs _ _ s => s x xs) l
def listRec {α β : Type} (z : β) (s : α → List α → β → β) (l : List α) : β := @List.rec α (fun _ => β) z s l
def T.put {α : Type} (t : T α) (i : Nat) (x : α) : T α := T.setF (some x) (Nat.succ i) t i
def T.del {α : Type} (t : T α) (i : Nat) : T α := T.setF none (Nat.succ i) t i
def T.putL {α : Type} (t : T α) (i : Nat) (l : List α) : T α := listRec (β := T α → Nat → T α) (fun t _ => t) (fun x _ ih t i => ih (t.put i x) (Nat.succ i)) l t i
def T.seg {α : Type} (t : T α) (d : α) (i n : Nat) : List α := iter (β := Nat → List α) n (fun _ => []) (fun ih i => (onSome (t.get i) id d) :: ih (Nat.succ i)) i
def nth {α : Type} (l : List α) (i : Nat) : Option α := listRec (β := Nat → Option α) (fun _ => none) (fun x _ ih i => natOn i (some x) ih) l i
structure Fd where
  off : Nat
  sz : Nat
  agg : Bool
inductive TD where
  | int (k : IntKind)
  | str
  | slice (sz by_ : Nat) (z : List AV)
  | arr (len sz : Nat) (agg : Bool)
  | parr (len sz : Nat)
  | map (key : Option IntKind) (agg : Bool) (z : List AV)
  | struct (fs : List Fd)
  | bool
  | ptr
  | func
  | iface
  | bld
  | other
structure TI where
  sz : Nat
  agg : Bool
  z : List AV
  d : TD
  q : List Nat
inductive XO where
  | cel (n : Nat) (t : T AV)
  | mps (es : List (List UInt8 × AV))
  | mpi (k : IntKind) (es : List (Int × AV))
  | tcl (t : Nat) (ex : Bool) (xs : List AV)
abbrev K (ρ : Type) := AV → T XO → Nat → ρ
structure Env (ρ : Type) where
  bad : ρ
  ty : T TI
  fn : T Func
  sl : T Unit
  once : Nat
  sum : FuncId → Option (List AV → T XO → Nat → K ρ → ρ)
  nat : FuncId → Option (List AV → T XO → Nat → K ρ → ρ)
abbrev OpF (ρ : Type) := Env ρ → T AV → T XO → Nat → K ρ → ρ
def asPtr {ρ : Type} (x : AV) : (Nat → Nat → ρ) → ρ → ρ := @AV.rec (fun _ => (Nat → Nat → ρ) → ρ → ρ) (fun _ => Unit)
  (fun _ z => z)
  (fun _ => fun _ z => z)
  (fun _ z => z)
  (fun _ => fun _ z => z)
  (fun _ _ _ => fun _ z => z)
  (fun _ _ => fun _ z => z)
  (fun _ _ _ => fun _ z => z)
  (fun o k => fun f _ => f o k)
  (fun _ _ _ _ => fun _ z => z)
  (fun _ => fun _ z => z)
  (fun _ _ => fun _ z => z)
  (fun _ _ => fun _ z => z)
  (fun _ _ _ _ _ => fun _ z => z)
  (fun _ _ _ => fun _ z => z)
  (fun _ => fun _ z => z)
  (fun _ _ _ => fun _ z => z)
  (fun _ => fun _ z => z)
  (fun _ _ _ _ => fun _ z => z)
  ()
  (fun _ _ _ _ => ()) x
def asPce {ρ : Type} (x : AV) : (List AV → Nat → ρ) → ρ → ρ := @AV.rec (fun _ => (List AV → Nat → ρ) → ρ → ρ) (fun _ => Unit)
  (fun _ z => z)
  (fun _ => fun _ z => z)
  (fun _ z => z)
  (fun _ => fun _ z => z)
  (fun _ _ _ => fun _ z => z)
  (fun _ _ => fun _ z => z)
  (fun o k _ => fun f _ => f o k)
  (fun _ _ => fun _ z => z)
  (fun _ _ _ _ => fun _ z => z)
  (fun _ => fun _ z => z)
  (fun _ _ => fun _ z => z)
  (fun _ _ => fun _ z => z)
  (fun _ _ _ _ _ => fun _ z => z)
  (fun _ _ _ => fun _ z => z)
  (fun _ => fun _ z => z)
  (fun _ _ _ => fun _ z => z)
  (fun _ => fun _ z => z)
  (fun _ _ _ _ => fun _ z => z)
  ()
  (fun _ _ _ _ => ()) x
def asVwn {ρ : Type} (x : AV) : (Nat → Nat → Nat → Nat → ρ) → ρ → ρ := @AV.rec (fun _ => (Nat → Nat → Nat → Nat → ρ) → ρ → ρ) (fun _ => Unit)
  (fun _ z => z)
  (fun _ => fun _ z => z)
  (fun _ z => z)
  (fun _ => fun _ z => z)
  (fun _ _ _ => fun _ z => z)
  (fun _ _ => fun _ z => z)
  (fun _ _ _ => fun _ z => z)
  (fun _ _ => fun _ z => z)
  (fun _ _ _ _ => fun _ z => z)
  (fun _ => fun _ z => z)
  (fun _ _ => fun _ z => z)
  (fun _ _ => fun _ z => z)
  (fun _ _ _ _ _ => fun _ z => z)
  (fun _ _ _ => fun _ z => z)
  (fun _ => fun _ z => z)
  (fun _ _ _ => fun _ z => z)
  (fun _ => fun _ z => z)
  (fun o s f l => fun h _ => h o s f l)
  ()
  (fun _ _ _ _ => ()) x
def asSls {ρ : Type} (x : AV) : (Nat → List AV → ρ) → ρ → ρ := @AV.rec (fun _ => (Nat → List AV → ρ) → ρ → ρ) (fun _ => Unit)
  (fun _ z => z)
  (fun _ => fun _ z => z)
  (fun _ z => z)
  (fun _ => fun _ z => z)
  (fun n xs _ => fun f _ => f n xs)
  (fun _ _ => fun _ z => z)
  (fun _ _ _ => fun _ z => z)
  (fun _ _ => fun _ z => z)
  (fun _ _ _ _ => fun _ z => z)
  (fun _ => fun _ z => z)
  (fun _ _ => fun _ z => z)
  (fun _ _ => fun _ z => z)
  (fun _ _ _ _ _ => fun _ z => z)
  (fun _ _ _ => fun _ z => z)
  (fun _ => fun _ z => z)
  (fun _ _ _ => fun _ z => z)
  (fun _ => fun _ z => z)
  (fun _ _ _ _ => fun _ z => z)
  ()
  (fun _ _ _ _ => ()) x
def asSlsx {ρ : Type} (x : AV) : (Nat → List AV → ρ) → ρ → ρ := @AV.rec (fun _ => (Nat → List AV → ρ) → ρ → ρ) (fun _ => Unit)
  (fun _ z => z)
  (fun _ => fun _ z => z)
  (fun _ z => z)
  (fun _ => fun _ z => z)
  (fun _ _ _ => fun _ z => z)
  (fun _ _ => fun _ z => z)
  (fun _ _ _ => fun _ z => z)
  (fun _ _ => fun _ z => z)
  (fun _ _ _ _ => fun _ z => z)
  (fun _ => fun _ z => z)
  (fun _ _ => fun _ z => z)
  (fun _ _ => fun _ z => z)
  (fun _ _ _ _ _ => fun _ z => z)
  (fun _ _ _ => fun _ z => z)
  (fun _ => fun _ z => z)
  (fun n xs _ => fun f _ => f n xs)
  (fun _ => fun _ z => z)
  (fun _ _ _ _ => fun _ z => z)
  ()
  (fun _ _ _ _ => ()) x
def asStr {ρ : Type} (x : AV) : (List UInt8 → ρ) → ρ → ρ := @AV.rec (fun _ => (List UInt8 → ρ) → ρ → ρ) (fun _ => Unit)
  (fun _ z => z)
  (fun _ => fun _ z => z)
  (fun _ z => z)
  (fun _ => fun _ z => z)
  (fun _ _ _ => fun _ z => z)
  (fun _ _ => fun _ z => z)
  (fun _ _ _ => fun _ z => z)
  (fun _ _ => fun _ z => z)
  (fun _ _ _ _ => fun _ z => z)
  (fun _ => fun _ z => z)
  (fun _ _ => fun _ z => z)
  (fun _ _ => fun _ z => z)
  (fun _ _ _ _ _ => fun _ z => z)
  (fun _ _ _ => fun _ z => z)
  (fun _ => fun _ z => z)
  (fun _ _ _ => fun _ z => z)
  (fun bs => fun f _ => f bs)
  (fun _ _ _ _ => fun _ z => z)
  ()
  (fun _ _ _ _ => ()) x
def asMp {ρ : Type} (x : AV) : (Nat → ρ) → ρ → ρ := @AV.rec (fun _ => (Nat → ρ) → ρ → ρ) (fun _ => Unit)
  (fun _ z => z)
  (fun _ => fun _ z => z)
  (fun _ z => z)
  (fun _ => fun _ z => z)
  (fun _ _ _ => fun _ z => z)
  (fun _ _ => fun _ z => z)
  (fun _ _ _ => fun _ z => z)
  (fun _ _ => fun _ z => z)
  (fun _ _ _ _ => fun _ z => z)
  (fun o => fun f _ => f o)
  (fun _ _ => fun _ z => z)
  (fun _ _ => fun _ z => z)
  (fun _ _ _ _ _ => fun _ z => z)
  (fun _ _ _ => fun _ z => z)
  (fun _ => fun _ z => z)
  (fun _ _ _ => fun _ z => z)
  (fun _ => fun _ z => z)
  (fun _ _ _ _ => fun _ z => z)
  ()
  (fun _ _ _ _ => ()) x
def asAgg {ρ : Type} (x : AV) : (List AV → ρ) → ρ → ρ := @AV.rec (fun _ => (List AV → ρ) → ρ → ρ) (fun _ => Unit)
  (fun _ z => z)
  (fun _ => fun _ z => z)
  (fun _ z => z)
  (fun _ => fun _ z => z)
  (fun _ _ _ => fun _ z => z)
  (fun _ _ => fun _ z => z)
  (fun _ _ _ => fun _ z => z)
  (fun _ _ => fun _ z => z)
  (fun _ _ _ _ => fun _ z => z)
  (fun _ => fun _ z => z)
  (fun xs _ => fun f _ => f xs)
  (fun _ _ => fun _ z => z)
  (fun _ _ _ _ _ => fun _ z => z)
  (fun _ _ _ => fun _ z => z)
  (fun _ => fun _ z => z)
  (fun _ _ _ => fun _ z => z)
  (fun _ => fun _ z => z)
  (fun _ _ _ _ => fun _ z => z)
  ()
  (fun _ _ _ _ => ()) x
def asTup {ρ : Type} (x : AV) : (List AV → ρ) → ρ → ρ := @AV.rec (fun _ => (List AV → ρ) → ρ → ρ) (fun _ => Unit)
  (fun _ z => z)
  (fun _ => fun _ z => z)
  (fun _ z => z)
  (fun _ => fun _ z => z)
  (fun _ _ _ => fun _ z => z)
  (fun _ _ => fun _ z => z)
  (fun _ _ _ => fun _ z => z)
  (fun _ _ => fun _ z => z)
  (fun _ _ _ _ => fun _ z => z)
  (fun _ => fun _ z => z)
  (fun _ _ => fun _ z => z)
  (fun xs _ => fun f _ => f xs)
  (fun _ _ _ _ _ => fun _ z => z)
  (fun _ _ _ => fun _ z => z)
  (fun _ => fun _ z => z)
  (fun _ _ _ => fun _ z => z)
  (fun _ => fun _ z => z)
  (fun _ _ _ _ => fun _ z => z)
  ()
  (fun _ _ _ _ => ()) x
def asEmp {ρ : Type} (x : AV) : ρ → ρ → ρ := @AV.rec (fun _ => ρ → ρ → ρ) (fun _ => Unit)
  (fun _ z => z)
  (fun _ => fun _ z => z)
  (fun y _ => y)
  (fun _ => fun _ z => z)
  (fun _ _ _ => fun _ z => z)
  (fun _ _ => fun _ z => z)
  (fun _ _ _ => fun _ z => z)
  (fun _ _ => fun _ z => z)
  (fun _ _ _ _ => fun _ z => z)
  (fun _ => fun _ z => z)
  (fun _ _ => fun _ z => z)
  (fun _ _ => fun _ z => z)
  (fun _ _ _ _ _ => fun _ z => z)
  (fun _ _ _ => fun _ z => z)
  (fun _ => fun _ z => z)
  (fun _ _ _ => fun _ z => z)
  (fun _ => fun _ z => z)
  (fun _ _ _ _ => fun _ z => z)
  ()
  (fun _ _ _ _ => ()) x
def asRaw {ρ : Type} (x : AV) : (Value → ρ) → ρ → ρ := @AV.rec (fun _ => (Value → ρ) → ρ → ρ) (fun _ => Unit)
  (fun _ z => z)
  (fun v => fun f _ => f v)
  (fun _ z => z)
  (fun _ => fun _ z => z)
  (fun _ _ _ => fun _ z => z)
  (fun _ _ => fun _ z => z)
  (fun _ _ _ => fun _ z => z)
  (fun _ _ => fun _ z => z)
  (fun _ _ _ _ => fun _ z => z)
  (fun _ => fun _ z => z)
  (fun _ _ => fun _ z => z)
  (fun _ _ => fun _ z => z)
  (fun _ _ _ _ _ => fun _ z => z)
  (fun _ _ _ => fun _ z => z)
  (fun _ => fun _ z => z)
  (fun _ _ _ => fun _ z => z)
  (fun _ => fun _ z => z)
  (fun _ _ _ _ => fun _ z => z)
  ()
  (fun _ _ _ _ => ()) x
def vInt {ρ : Type} (v : Value) : (IntKind → Int → ρ) → ρ → ρ := @Value.rec (fun _ => (IntKind → Int → ρ) → ρ → ρ) (fun _ => Unit) (fun _ => Unit)
  (fun _ => fun _ z => z)
  (fun k n => fun f _ => f k n)
  (fun _ _ => fun _ z => z)
  (fun _ _ _ => fun _ z => z)
  (fun _ => fun _ z => z)
  (fun _ => fun _ z => z)
  (fun _ _ _ => fun _ z => z)
  (fun _ => fun _ z => z)
  (fun _ => fun _ z => z)
  (fun _ _ _ _ _ => fun _ z => z)
  (fun _ z => z)
  (fun _ _ _ => fun _ z => z)
  (fun _ z => z)
  (fun _ _ => fun _ z => z)
  (fun _ _ => fun _ z => z)
  (fun _ _ => ())
  ()
  (fun _ _ _ _ => ()) v
def vBool {ρ : Type} (v : Value) : (Bool → ρ) → ρ → ρ := @Value.rec (fun _ => (Bool → ρ) → ρ → ρ) (fun _ => Unit) (fun _ => Unit)
  (fun b => fun f _ => f b)
  (fun _ _ => fun _ z => z)
  (fun _ _ => fun _ z => z)
  (fun _ _ _ => fun _ z => z)
  (fun _ => fun _ z => z)
  (fun _ => fun _ z => z)
  (fun _ _ _ => fun _ z => z)
  (fun _ => fun _ z => z)
  (fun _ => fun _ z => z)
  (fun _ _ _ _ _ => fun _ z => z)
  (fun _ z => z)
  (fun _ _ _ => fun _ z => z)
  (fun _ z => z)
  (fun _ _ => fun _ z => z)
  (fun _ _ => fun _ z => z)
  (fun _ _ => ())
  ()
  (fun _ _ _ _ => ()) v
def asInt {ρ : Type} (x : AV) (f : IntKind → Int → ρ) (z : ρ) : ρ := asRaw x (fun v => vInt v f z) z
def asBool {ρ : Type} (x : AV) (f : Bool → ρ) (z : ρ) : ρ := asRaw x (fun v => vBool v f z) z
def intNat {ρ : Type} (n : Int) : (Nat → ρ) → ρ → ρ := @Int.rec (fun _ => (Nat → ρ) → ρ → ρ)
  (fun n => fun f _ => f n)
  (fun _ => fun _ z => z) n
def asNat {ρ : Type} (x : AV) (f : Nat → ρ) (z : ρ) : ρ := asInt x (fun _ n => intNat n f z) z
def fnF {ρ : Type} (f : Fn) : (Nat → ρ) → ρ → ρ := @Fn.rec (fun _ => (Nat → ρ) → ρ → ρ)
  (fun f => fun g _ => g f)
  (fun _ => fun _ z => z)
  (fun _ _ => fun _ z => z)
  (fun _ _ _ _ => fun _ z => z)
  (fun _ => fun _ z => z) f
def asFnc {ρ : Type} (x : AV) : (Nat → List AV → List AV → ρ) → ρ → ρ := @AV.rec (fun _ => (Nat → List AV → List AV → ρ) → ρ → ρ) (fun _ => Unit)
  (fun _ z => z)
  (fun _ => fun _ z => z)
  (fun _ z => z)
  (fun _ => fun _ z => z)
  (fun _ _ _ => fun _ z => z)
  (fun _ _ => fun _ z => z)
  (fun _ _ _ => fun _ z => z)
  (fun _ _ => fun _ z => z)
  (fun _ _ _ _ => fun _ z => z)
  (fun _ => fun _ z => z)
  (fun _ _ => fun _ z => z)
  (fun _ _ => fun _ z => z)
  (fun fn a b _ _ => fun f z => fnF fn (fun g => f g a b) z)
  (fun _ _ _ => fun _ z => z)
  (fun _ => fun _ z => z)
  (fun _ _ _ => fun _ z => z)
  (fun _ => fun _ z => z)
  (fun _ _ _ _ => fun _ z => z)
  ()
  (fun _ _ _ _ => ()) x
def optNatIs {ρ : Type} (o : Option Addr) (y z : ρ) : ρ := onSome o (fun _ => z) y
def vNilS {ρ : Type} (v : Value) : ρ → ρ → ρ := @Value.rec (fun _ => ρ → ρ → ρ) (fun _ => Unit) (fun _ => Unit)
  (fun _ => fun _ z => z)
  (fun _ _ => fun _ z => z)
  (fun _ _ => fun _ z => z)
  (fun _ _ _ => fun _ z => z)
  (fun _ => fun _ z => z)
  (fun _ => fun _ z => z)
  (fun a n c => fun y z => optNatIs a (natOn n (natOn c y (fun _ => z)) (fun _ => z)) z)
  (fun _ => fun _ z => z)
  (fun _ => fun _ z => z)
  (fun _ _ _ _ _ => fun _ z => z)
  (fun _ z => z)
  (fun _ _ _ => fun _ z => z)
  (fun _ z => z)
  (fun _ _ => fun _ z => z)
  (fun _ _ => fun _ z => z)
  (fun _ _ => ())
  ()
  (fun _ _ _ _ => ()) v
def asNilS {ρ : Type} (x : AV) (y z : ρ) : ρ := asRaw x (fun v => vNilS v y z) z
def vNilM {ρ : Type} (v : Value) : ρ → ρ → ρ := @Value.rec (fun _ => ρ → ρ → ρ) (fun _ => Unit) (fun _ => Unit)
  (fun _ => fun _ z => z)
  (fun _ _ => fun _ z => z)
  (fun _ _ => fun _ z => z)
  (fun _ _ _ => fun _ z => z)
  (fun _ => fun _ z => z)
  (fun _ => fun _ z => z)
  (fun _ _ _ => fun _ z => z)
  (fun r => fun y z => onSome r (fun _ => z) y)
  (fun _ => fun _ z => z)
  (fun _ _ _ _ _ => fun _ z => z)
  (fun _ z => z)
  (fun _ _ _ => fun _ z => z)
  (fun _ z => z)
  (fun _ _ => fun _ z => z)
  (fun _ _ => fun _ z => z)
  (fun _ _ => ())
  ()
  (fun _ _ _ _ => ()) v
def asNilM {ρ : Type} (x : AV) (y z : ρ) : ρ := asRaw x (fun v => vNilM v y z) z
def xCel {ρ : Type} (x : XO) : (Nat → T AV → ρ) → ρ → ρ := @XO.rec (fun _ => (Nat → T AV → ρ) → ρ → ρ)
  (fun n t => fun f _ => f n t)
  (fun _ => fun _ z => z)
  (fun _ _ => fun _ z => z)
  (fun _ _ _ => fun _ z => z) x
def xMps {ρ : Type} (x : XO) : (List (List UInt8 × AV) → ρ) → ρ → ρ := @XO.rec (fun _ => (List (List UInt8 × AV) → ρ) → ρ → ρ)
  (fun _ _ => fun _ z => z)
  (fun es => fun f _ => f es)
  (fun _ _ => fun _ z => z)
  (fun _ _ _ => fun _ z => z) x
def xMpi {ρ : Type} (x : XO) : (IntKind → List (Int × AV) → ρ) → ρ → ρ := @XO.rec (fun _ => (IntKind → List (Int × AV) → ρ) → ρ → ρ)
  (fun _ _ => fun _ z => z)
  (fun _ => fun _ z => z)
  (fun k es => fun f _ => f k es)
  (fun _ _ _ => fun _ z => z) x
def atCel {ρ : Type} (H : T XO) (o : Nat) (f : Nat → T AV → ρ) (z : ρ) : ρ := onSome (H.get o) (fun x => xCel x f z) z
def atMps {ρ : Type} (H : T XO) (o : Nat) (f : List (List UInt8 × AV) → ρ) (z : ρ) : ρ := onSome (H.get o) (fun x => xMps x f z) z
def atMpi {ρ : Type} (H : T XO) (o : Nat) (f : IntKind → List (Int × AV) → ρ) (z : ρ) : ρ := onSome (H.get o) (fun x => xMpi x f z) z
def tySlice {ρ : Type} (d : TD) : (Nat → Nat → List AV → ρ) → ρ → ρ := @TD.rec (fun _ => (Nat → Nat → List AV → ρ) → ρ → ρ)
  (fun _ => fun _ z => z)
  (fun _ z => z)
  (fun s b z => fun f _ => f s b z)
  (fun _ _ _ => fun _ z => z)
  (fun _ _ => fun _ z => z)
  (fun _ _ _ => fun _ z => z)
  (fun _ => fun _ z => z)
  (fun _ z => z)
  (fun _ z => z)
  (fun _ z => z)
  (fun _ z => z)
  (fun _ z => z)
  (fun _ z => z) d
def tyArr {ρ : Type} (d : TD) : (Nat → Nat → ρ) → ρ → ρ := @TD.rec (fun _ => (Nat → Nat → ρ) → ρ → ρ)
  (fun _ => fun _ z => z)
  (fun _ z => z)
  (fun _ _ _ => fun _ z => z)
  (fun n s g => fun f _ => f n s)
  (fun n s => fun f _ => f n s)
  (fun _ _ _ => fun _ z => z)
  (fun _ => fun _ z => z)
  (fun _ z => z)
  (fun _ z => z)
  (fun _ z => z)
  (fun _ z => z)
  (fun _ z => z)
  (fun _ z => z) d
def tyArr0 {ρ : Type} (d : TD) : (Nat → Nat → Bool → ρ) → ρ → ρ := @TD.rec (fun _ => (Nat → Nat → Bool → ρ) → ρ → ρ)
  (fun _ => fun _ z => z)
  (fun _ z => z)
  (fun _ _ _ => fun _ z => z)
  (fun n s g => fun f _ => f n s g)
  (fun _ _ => fun _ z => z)
  (fun _ _ _ => fun _ z => z)
  (fun _ => fun _ z => z)
  (fun _ z => z)
  (fun _ z => z)
  (fun _ z => z)
  (fun _ z => z)
  (fun _ z => z)
  (fun _ z => z) d
def tyStruct {ρ : Type} (d : TD) : (List Fd → ρ) → ρ → ρ := @TD.rec (fun _ => (List Fd → ρ) → ρ → ρ)
  (fun _ => fun _ z => z)
  (fun _ z => z)
  (fun _ _ _ => fun _ z => z)
  (fun _ _ _ => fun _ z => z)
  (fun _ _ => fun _ z => z)
  (fun _ _ _ => fun _ z => z)
  (fun fs => fun f _ => f fs)
  (fun _ z => z)
  (fun _ z => z)
  (fun _ z => z)
  (fun _ z => z)
  (fun _ z => z)
  (fun _ z => z) d
def tyMap {ρ : Type} (d : TD) : (Option IntKind → Bool → List AV → ρ) → ρ → ρ := @TD.rec (fun _ => (Option IntKind → Bool → List AV → ρ) → ρ → ρ)
  (fun _ => fun _ z => z)
  (fun _ z => z)
  (fun _ _ _ => fun _ z => z)
  (fun _ _ _ => fun _ z => z)
  (fun _ _ => fun _ z => z)
  (fun k b z => fun f _ => f k b z)
  (fun _ => fun _ z => z)
  (fun _ z => z)
  (fun _ z => z)
  (fun _ z => z)
  (fun _ z => z)
  (fun _ z => z)
  (fun _ z => z) d
def tyInt {ρ : Type} (d : TD) : (IntKind → ρ) → ρ → ρ := @TD.rec (fun _ => (IntKind → ρ) → ρ → ρ)
  (fun k => fun f _ => f k)
  (fun _ z => z)
  (fun _ _ _ => fun _ z => z)
  (fun _ _ _ => fun _ z => z)
  (fun _ _ => fun _ z => z)
  (fun _ _ _ => fun _ z => z)
  (fun _ => fun _ z => z)
  (fun _ z => z)
  (fun _ z => z)
  (fun _ z => z)
  (fun _ z => z)
  (fun _ z => z)
  (fun _ z => z) d
def tyStr {ρ : Type} (d : TD) : ρ → ρ → ρ := @TD.rec (fun _ => ρ → ρ → ρ)
  (fun _ => fun _ z => z)
  (fun y _ => y)
  (fun _ _ _ => fun _ z => z)
  (fun _ _ _ => fun _ z => z)
  (fun _ _ => fun _ z => z)
  (fun _ _ _ => fun _ z => z)
  (fun _ => fun _ z => z)
  (fun _ z => z)
  (fun _ z => z)
  (fun _ z => z)
  (fun _ z => z)
  (fun _ z => z)
  (fun _ z => z) d
def tySl {ρ : Type} (d : TD) : ρ → ρ → ρ := @TD.rec (fun _ => ρ → ρ → ρ)
  (fun _ => fun _ z => z)
  (fun y _ => y)
  (fun _ _ _ => fun y _ => y)
  (fun _ _ _ => fun _ z => z)
  (fun _ _ => fun _ z => z)
  (fun _ _ _ => fun _ z => z)
  (fun _ => fun _ z => z)
  (fun _ z => z)
  (fun _ z => z)
  (fun _ z => z)
  (fun _ z => z)
  (fun _ z => z)
  (fun _ z => z) d
def tyBld {ρ : Type} (d : TD) : ρ → ρ → ρ := @TD.rec (fun _ => ρ → ρ → ρ)
  (fun _ => fun _ z => z)
  (fun _ z => z)
  (fun _ _ _ => fun _ z => z)
  (fun _ _ _ => fun _ z => z)
  (fun _ _ => fun _ z => z)
  (fun _ _ _ => fun _ z => z)
  (fun _ => fun _ z => z)
  (fun _ z => z)
  (fun _ z => z)
  (fun _ z => z)
  (fun _ z => z)
  (fun y _ => y)
  (fun _ z => z) d
def xTcl {ρ : Type} (x : XO) : (Nat → Bool → List AV → ρ) → ρ → ρ := @XO.rec (fun _ => (Nat → Bool → List AV → ρ) → ρ → ρ)
  (fun _ _ => fun _ z => z)
  (fun _ => fun _ z => z)
  (fun _ _ => fun _ z => z)
  (fun t ex xs => fun f _ => f t ex xs) x
def atTcl {ρ : Type} (H : T XO) (o : Nat) (f : Nat → Bool → List AV → ρ) (z : ρ) : ρ := onSome (H.get o) (fun x => xTcl x f z) z
def tyOf {ρ : Type} (E : Env ρ) (t : Nat) (f : TI → ρ) : ρ := onSome (E.ty.get t) f (fail "type" E.bad)
def norm1 (v : Value) : AV := @Value.rec (fun _ => AV) (fun _ => Unit) (fun _ => Unit)
  (fun y0 => .raw (Value.bool y0))
  (fun y0 y1 => .raw (Value.int y0 y1))
  (fun y0 y1 => .raw (Value.float y0 y1))
  (fun y0 y1 y2 => .raw (Value.complex y0 y1 y2))
  (fun s => .str s.data.toList)
  (fun y0 => .raw (Value.pointer y0))
  (fun y0 y1 y2 => .raw (Value.slice y0 y1 y2))
  (fun y0 => .raw (Value.map y0))
  (fun y0 => .raw (Value.chan y0))
  (fun y0 y1 y2 _ _ => .raw (Value.func y0 y1 y2))
  (.raw (Value.nilFunc))
  (fun y0 y1 _ => .raw (Value.iface y0 y1))
  (.raw (Value.nilIface))
  (fun y0 _ => .raw (Value.agg y0))
  (fun y0 _ => .raw (Value.tuple y0))
  (fun _ _ => ())
  ()
  (fun _ _ _ _ => ()) v
def norm (v : Value) : AV := @Value.rec (fun _ => AV) (fun _ => Unit) (fun _ => Unit)
  (fun y0 => .raw (Value.bool y0))
  (fun y0 y1 => .raw (Value.int y0 y1))
  (fun y0 y1 => .raw (Value.float y0 y1))
  (fun y0 y1 y2 => .raw (Value.complex y0 y1 y2))
  (fun s => .str s.data.toList)
  (fun y0 => .raw (Value.pointer y0))
  (fun y0 y1 y2 => .raw (Value.slice y0 y1 y2))
  (fun y0 => .raw (Value.map y0))
  (fun y0 => .raw (Value.chan y0))
  (fun y0 y1 y2 _ _ => .raw (Value.func y0 y1 y2))
  (.raw (Value.nilFunc))
  (fun y0 y1 _ => .raw (Value.iface y0 y1))
  (.raw (Value.nilIface))
  (fun cs _ => .agg (cs.toList.map norm1))
  (fun cs _ => .tup (cs.toList.map norm1))
  (fun _ _ => ())
  ()
  (fun _ _ _ _ => ()) v
def rg (R : T AV) (i : Nat) : AV := onSome (R.get i) id .unk
def ev (x : Operand) : T AV → AV := @Operand.rec (fun _ => T AV → AV)
  (fun t => fun R => rg R t)
  (fun v => fun _ => norm v)
  (fun g => fun _ => .raw (.pointer (some ⟨g, 0, none⟩)))
  (fun f => fun _ => .fnc (.func f) [] []) x
def evs (xs : List Operand) (R : T AV) : List AV := listRec (β := List AV) [] (fun x _ ih => ev x R :: ih) xs
def vcells (x : AV) : List AV := @AV.rec (fun _ => List AV) (fun _ => Unit)
  ([(AV.unk)])
  (fun y0 => [(AV.raw y0)])
  ([(AV.emp)])
  (fun y0 => [(AV.bys y0)])
  (fun y0 y1 _ => [(AV.sls y0 y1)])
  (fun y0 y1 => [(AV.pby y0 y1)])
  (fun y0 y1 _ => [(AV.pce y0 y1)])
  (fun y0 y1 => [(AV.ptr y0 y1)])
  (fun y0 y1 y2 y3 => [(AV.vw y0 y1 y2 y3)])
  (fun y0 => [(AV.mp y0)])
  (fun xs _ => xs)
  (fun y0 _ => [(AV.tup y0)])
  (fun y0 y1 y2 _ _ => [(AV.fnc y0 y1 y2)])
  (fun y0 y1 _ => [(AV.ifc y0 y1)])
  (fun y0 => [(AV.bysx y0)])
  (fun y0 y1 _ => [(AV.slsx y0 y1)])
  (fun y0 => [(AV.str y0)])
  (fun y0 y1 y2 y3 => [(AV.vwn y0 y1 y2 y3)])
  ()
  (fun _ _ _ _ => ()) x
def vOne (v : Value) : Bool := @Value.rec (fun _ => Bool) (fun _ => Unit) (fun _ => Unit)
  (fun _ => true)
  (fun _ _ => true)
  (fun _ _ => true)
  (fun _ _ _ => true)
  (fun _ => true)
  (fun _ => true)
  (fun _ _ _ => true)
  (fun _ => true)
  (fun _ => true)
  (fun _ _ _ _ _ => true)
  (true)
  (fun _ _ _ => true)
  (true)
  (fun _ _ => false)
  (fun _ _ => false)
  (fun _ _ => ())
  ()
  (fun _ _ _ _ => ()) v
def isOne (x : AV) : Bool := @AV.rec (fun _ => Bool) (fun _ => Unit)
  (false)
  (fun v => vOne v)
  (true)
  (fun _ => true)
  (fun _ _ _ => true)
  (fun _ _ => true)
  (fun _ _ _ => true)
  (fun _ _ => true)
  (fun _ _ _ _ => true)
  (fun _ => true)
  (fun _ _ => false)
  (fun _ _ => false)
  (fun _ _ _ _ _ => true)
  (fun _ _ _ => true)
  (fun _ => true)
  (fun _ _ _ => true)
  (fun _ => true)
  (fun _ _ _ _ => true)
  ()
  (fun _ _ _ _ => ()) x
def ones (xs : List AV) : Bool := listRec (β := Bool) true (fun x _ ih => ifb (isOne x) ih false) xs
def one1 {ρ : Type} (xs : List AV) (f : AV → ρ) (z : ρ) : ρ := listOn xs z (fun x r => listOn r (f x) (fun _ _ => z))
def aggOf {ρ : Type} (agg : Bool) (xs : List AV) (f : AV → ρ) (z : ρ) : ρ := ifb agg (f (.agg xs)) (one1 xs f z)
def rep (xs : List AV) (n : Nat) : List AV := iter (β := List AV) n [] (fun ih => xs ++ ih)
def putAt (ys : List AV) (k : Nat) : List AV → List AV := iter (β := List AV → List AV) k (fun xs => ys ++ xs.drop ys.length) (fun ih xs => listOn xs [] (fun x xs => x :: ih xs))
def strEq (a b : List UInt8) : Bool := listRec (β := List UInt8 → Bool) (fun b => listOn b true (fun _ _ => false)) (fun x _ ih b => listOn b false (fun y ys => ifb (Nat.beq x.toNat y.toNat) (ih ys) false)) a b
def notB (b : Bool) : Bool := ifb b false true
def vNilP {ρ : Type} (v : Value) : ρ → ρ → ρ := @Value.rec (fun _ => ρ → ρ → ρ) (fun _ => Unit) (fun _ => Unit)
  (fun _ => fun _ z => z)
  (fun _ _ => fun _ z => z)
  (fun _ _ => fun _ z => z)
  (fun _ _ _ => fun _ z => z)
  (fun _ => fun _ z => z)
  (fun a => fun y z => onSome a (fun _ => z) y)
  (fun _ _ _ => fun _ z => z)
  (fun _ => fun _ z => z)
  (fun _ => fun _ z => z)
  (fun _ _ _ _ _ => fun _ z => z)
  (fun _ z => z)
  (fun _ _ _ => fun _ z => z)
  (fun _ z => z)
  (fun _ _ => fun _ z => z)
  (fun _ _ => fun _ z => z)
  (fun _ _ => ())
  ()
  (fun _ _ _ _ => ()) v
def asNilP {ρ : Type} (x : AV) (y z : ρ) : ρ := asRaw x (fun v => vNilP v y z) z
def vNilI {ρ : Type} (v : Value) : ρ → ρ → ρ := @Value.rec (fun _ => ρ → ρ → ρ) (fun _ => Unit) (fun _ => Unit)
  (fun _ => fun _ z => z)
  (fun _ _ => fun _ z => z)
  (fun _ _ => fun _ z => z)
  (fun _ _ _ => fun _ z => z)
  (fun _ => fun _ z => z)
  (fun _ => fun _ z => z)
  (fun _ _ _ => fun _ z => z)
  (fun _ => fun _ z => z)
  (fun _ => fun _ z => z)
  (fun _ _ _ _ _ => fun _ z => z)
  (fun _ z => z)
  (fun _ _ _ => fun _ z => z)
  (fun y _ => y)
  (fun _ _ => fun _ z => z)
  (fun _ _ => fun _ z => z)
  (fun _ _ => ())
  ()
  (fun _ _ _ _ => ()) v
def asNilI {ρ : Type} (x : AV) (y z : ρ) : ρ := asRaw x (fun v => vNilI v y z) z
def eqB (a b : Bool) : Bool := ifb a b (notB b)
def sameK (a b : IntKind) : Bool := decide (a = b)
def eqF {ρ : Type} (k : Nat) (x y : AV) (f : Bool → ρ) (z : ρ) : ρ :=
  natOn k (asStr x (fun a => asStr y (fun b => f (strEq a b)) z) z) (fun k =>
  natOn k (asBool x (fun a => asBool y (fun b => f (eqB a b)) z) z) (fun k =>
  natOn k (asInt x (fun q a => asInt y (fun q' b => ifb (sameK q q') (f (decide (a = b))) z) z) z) (fun _ => z)))
def eqFs {ρ : Type} (ks : List Nat) (xs ys : List AV) (f : Bool → ρ) (z : ρ) : ρ :=
  listRec (β := List AV → List AV → (Bool → ρ) → ρ) (fun xs ys f => listOn xs (listOn ys (f true) (fun _ _ => z)) (fun _ _ => z))
    (fun k _ ih xs ys f => listOn xs z (fun x xs => listOn ys z (fun y ys => eqF k x y (fun b => ih xs ys (fun r => f (ifb b r false))) z))) ks xs ys f
def isC (x : Operand) : Bool := @Operand.rec (fun _ => Bool)
  (fun _ => false)
  (fun _ => true)
  (fun _ => false)
  (fun _ => false) x
def tyEq {ρ : Type} (d : TD) : List Nat → Bool → AV → AV → (Bool → ρ) → ρ → ρ := @TD.rec (fun _ => List Nat → Bool → AV → AV → (Bool → ρ) → ρ → ρ)
  (fun _ => fun _ _ _ _ _ z => z)
  (fun _ _ _ _ _ z => z)
  (fun _ _ _ => fun _ _ x y f z => asNilS y (asNilS x (f true) (asVwn x (fun _ _ _ _ => f false) z)) z)
  (fun _ _ _ => fun _ _ _ _ _ z => z)
  (fun _ _ => fun _ _ _ _ _ z => z)
  (fun _ _ _ => fun _ _ _ _ _ z => z)
  (fun _ => fun q _ x y f z => asAgg x (fun xs => asAgg y (fun ys => listOn q z (fun _ _ => eqFs q xs ys f z)) z) z)
  (fun _ _ x y f z => asBool x (fun a => asBool y (fun b => f (eqB a b)) z) z)
  (fun _ _ x y f z => asNilP x (asNilP y (f true) z) (asPtr x (fun _ _ => asNilP y (f false) z) z))
  (fun _ _ _ _ _ z => z)
  (fun _ c x y f z => ifb c (asNilI x (asNilI y (f true) z) z) z)
  (fun _ _ _ _ _ z => z)
  (fun _ _ _ _ _ z => z) d
def most : Nat := 140737488355328
def shOk (k : IntKind) (b : Int) : Bool := decide (0 ≤ b ∧ b ≤ k.bits)
def intOp {ρ : Type} (op : BinOp) : IntKind → Int → Int → (AV → ρ) → ρ → ρ := @BinOp.rec (fun _ => IntKind → Int → Int → (AV → ρ) → ρ → ρ)
  (fun k a b f _ => f (.raw (.int k (k.wrap (a + b)))))
  (fun k a b f _ => f (.raw (.int k (k.wrap (a - b)))))
  (fun k a b f _ => f (.raw (.int k (k.wrap (a * b)))))
  (fun k a b f z => ifb (decide (b = 0)) z (f (.raw (.int k (k.wrap (a.tdiv b))))))
  (fun k a b f z => ifb (decide (b = 0)) z (f (.raw (.int k (a.tmod b)))))
  (fun k a b f _ => f (.raw (.int k (bits .and k a b))))
  (fun k a b f _ => f (.raw (.int k (bits .or k a b))))
  (fun k a b f _ => f (.raw (.int k (bits .xor k a b))))
  (fun k a b f z => ifb (shOk k b) (f (.raw (.int k (k.wrap (a * 2 ^ b.toNat))))) z)
  (fun k a b f z => ifb (shOk k b) (f (.raw (.int k (a / 2 ^ b.toNat)))) z)
  (fun _ _ _ _ z => z)
  (fun k a b f _ => f (.raw (.bool (decide (a = b)))))
  (fun k a b f _ => ifb (decide (a ≠ b)) (f (.raw (.bool true))) (f (.raw (.bool false))))
  (fun k a b f _ => f (.raw (.bool (decide (a < b)))))
  (fun k a b f _ => f (.raw (.bool (decide (a ≤ b)))))
  (fun k a b f _ => f (.raw (.bool (decide (b < a)))))
  (fun k a b f _ => f (.raw (.bool (decide (b ≤ a))))) op
def isEql {ρ : Type} (op : BinOp) : ρ → ρ → ρ → ρ := @BinOp.rec (fun _ => ρ → ρ → ρ → ρ)
  (fun _ _ z => z)
  (fun _ _ z => z)
  (fun _ _ z => z)
  (fun _ _ z => z)
  (fun _ _ z => z)
  (fun _ _ z => z)
  (fun _ _ z => z)
  (fun _ _ z => z)
  (fun _ _ z => z)
  (fun _ _ z => z)
  (fun _ _ z => z)
  (fun x _ _ => x)
  (fun _ y _ => y)
  (fun _ _ z => z)
  (fun _ _ z => z)
  (fun _ _ z => z)
  (fun _ _ z => z) op
def isSh (op : BinOp) : Bool := @BinOp.rec (fun _ => Bool)
  (false)
  (false)
  (false)
  (false)
  (false)
  (false)
  (false)
  (false)
  (true)
  (true)
  (false)
  (false)
  (false)
  (false)
  (false)
  (false)
  (false) op
def isAdd {ρ : Type} (op : BinOp) : ρ → ρ → ρ := @BinOp.rec (fun _ => ρ → ρ → ρ)
  (fun x _ => x)
  (fun _ y => y)
  (fun _ y => y)
  (fun _ y => y)
  (fun _ y => y)
  (fun _ y => y)
  (fun _ y => y)
  (fun _ y => y)
  (fun _ y => y)
  (fun _ y => y)
  (fun _ y => y)
  (fun _ y => y)
  (fun _ y => y)
  (fun _ y => y)
  (fun _ y => y)
  (fun _ y => y)
  (fun _ y => y) op
def binop {ρ : Type} (op : BinOp) (x y : AV) (f : AV → ρ) (els : ρ) (z : ρ) : ρ :=
  asInt x (fun k a => asInt y (fun k' b => ifb (ifb (isSh op) true (sameK k k')) (intOp op k a b f z) z) z)
    (asStr x (fun a => asStr y (fun b => isEql op (f (.raw (.bool (strEq a b)))) (f (.raw (.bool (notB (strEq a b))))) (isAdd op (ifb (Nat.ble (a.length + b.length) most) (f (.str (a ++ b))) z) z)) z) els)
def byteOf {ρ : Type} (x : AV) (f : UInt8 → ρ) (z : ρ) : ρ := asInt x (fun k i => ifb (sameK k .u8) (intNat i (fun n => ifb (Nat.blt n 256) (f (UInt8.ofNat n)) z) z) z) z
def toBytes {ρ : Type} (xs : List AV) (f : List UInt8 → ρ) (z : ρ) : ρ := listRec (β := (List UInt8 → ρ) → ρ) (fun f => f []) (fun x _ ih f => byteOf x (fun b => ih (fun l => f (b :: l))) z) xs f
def ofBytes (l : List UInt8) : List AV := l.map fun b => .raw (.int .u8 (b.toNat : Int))
def cel (xs : List AV) : XO := .cel xs.length (T.putL .nil 0 xs)
def i64 (n : Int) : AV := .raw (.int .i64 n)
def iN (n : Nat) : AV := .raw (.int .i64 (.ofNat n))
def lenIs {ρ : Type} (xs : List AV) (n : Nat) (y z : ρ) : ρ := ifb (Nat.beq xs.length n) y z
def is1 {ρ : Type} (n : Nat) (y z : ρ) : ρ := ifb (Nat.beq n 1) y z
def src {ρ : Type} (H : T XO) (sz : Nat) (x : AV) (f : Nat → List AV → ρ) (z : ρ) : ρ :=
  asVwn x (fun o _ off len => atCel H o (fun n t => ifb (Nat.ble (off + len * sz) n) (f len (t.seg .unk off (len * sz))) (fail "src" z)) (fail "src dead" z))
  (asStr x (fun bs => is1 sz (f bs.length (ofBytes bs)) z)
  (asSls x (fun n xs => lenIs xs (n * sz) (f n xs) z) (asSlsx x (fun n xs => lenIs xs (n * sz) (f n xs) z) (asNilS x (f 0 []) (asEmp x (f 0 []) (fail "src?" z))))))
def getS {ρ : Type} (k : List UInt8) (es : List (List UInt8 × AV)) (f : AV → ρ) (no : ρ) : ρ := listRec (β := ρ) no (fun e _ ih => ifb (strEq e.1 k) (f e.2) ih) es
def getI {ρ : Type} (k : Int) (es : List (Int × AV)) (f : AV → ρ) (no : ρ) : ρ := listRec (β := ρ) no (fun e _ ih => ifb (decide (e.1 = k)) (f e.2) ih) es
def putS {ρ : Type} (k : List UInt8) (v : AV) (es : List (List UInt8 × AV)) (f : List (List UInt8 × AV) → ρ) : ρ :=
  listRec (β := (List (List UInt8 × AV) → ρ) → ρ) (fun f => f [(k, v)]) (fun e es ih f => ifb (strEq e.1 k) (f ((k, v) :: es)) (ih (fun l => f (e :: l)))) es f
def putI {ρ : Type} (k : Int) (v : AV) (es : List (Int × AV)) (f : List (Int × AV) → ρ) : ρ :=
  listRec (β := (List (Int × AV) → ρ) → ρ) (fun f => f [(k, v)]) (fun e es ih f => ifb (decide (e.1 = k)) (f ((k, v) :: es)) (ih (fun l => f (e :: l)))) es f
def slOk (lo hi len : Nat) : Bool := ifb (Nat.ble lo hi) (Nat.ble hi len) false
def optD (o : Option Nat) (d : Nat) : Nat := onSome o id d
def maxZ {ρ : Type} (m : Option Nat) (zero none_ : ρ) (some_ : Nat → ρ) : ρ := onSome m (fun n => natOn n zero (fun _ => some_ n)) none_
def tyParr {ρ : Type} (d : TD) : (Nat → Nat → ρ) → ρ → ρ := @TD.rec (fun _ => (Nat → Nat → ρ) → ρ → ρ)
  (fun _ => fun _ z => z)
  (fun _ z => z)
  (fun _ _ _ => fun _ z => z)
  (fun _ _ _ => fun _ z => z)
  (fun n s => fun f _ => f n s)
  (fun _ _ _ => fun _ z => z)
  (fun _ => fun _ z => z)
  (fun _ z => z)
  (fun _ z => z)
  (fun _ z => z)
  (fun _ z => z)
  (fun _ z => z)
  (fun _ z => z) d
def slVw {ρ : Type} (sz lo hi : Nat) (m : Option Nat) (o s off len : Nat) (f : AV → ρ) (z : ρ) : ρ :=
  ifb (Nat.beq s sz) (ifb (slOk lo hi len) (maxZ m (ifb (Nat.beq hi 0) (f .emp) z) (f (.vwn o sz (off + lo * sz) (hi - lo))) (fun k => ifb (slOk hi k len) (f (.vwn o sz (off + lo * sz) (hi - lo))) z)) z) z
def slSl {ρ : Type} (sz lo hi : Nat) (m : Option Nat) (n : Nat) (xs : List AV) (f : AV → ρ) (z : ρ) : ρ :=
  ifb (slOk lo hi n) (maxZ m (ifb (Nat.beq hi 0) (f .emp) z) (f (.sls (hi - lo) ((xs.drop (lo * sz)).take ((hi - lo) * sz)))) (fun k => ifb (Nat.beq k hi) (f (.slsx (hi - lo) ((xs.drop (lo * sz)).take ((hi - lo) * sz)))) z)) z
def slZ {ρ : Type} (lo hi : Nat) (m : Option Nat) (y z : ρ) : ρ := natOn lo (natOn hi (maxZ m y y (fun _ => z)) (fun _ => z)) (fun _ => z)
def slice1 {ρ : Type} (H : T XO) (d : TD) (x : AV) (l h m : Option Nat) (f : AV → ρ) (z : ρ) : ρ :=
  tySlice d (fun sz _ _ => asVwn x (fun o s off len => slVw sz (optD l 0) (optD h len) m o s off len f (fail "slice vw" z))
    (asNilS x (slZ (optD l 0) (optD h 0) m (f x) z) (asEmp x (slZ (optD l 0) (optD h 0) m (f x) z)
    (asSls x (fun n xs => slSl sz (optD l 0) (optD h n) m n xs f (fail "slice sls" z)) (fail "slice?" z)))))
  (tyStr d (asStr x (fun bs => onSome m (fun _ => z) (ifb (slOk (optD l 0) (optD h bs.length) bs.length) (f (.str ((bs.drop (optD l 0)).take (optD h bs.length - optD l 0)))) (fail "slice str" z))) z)
  (tyArr0 d (fun len e _ => asPtr x (fun o off => onSome m (fun _ => z) (atCel H o (fun n c => ifb (Nat.ble (off + len * e) n) (ifb (slOk (optD l 0) (optD h len) len) (f (.vwn o e (off + optD l 0 * e) (optD h len - optD l 0))) (fail "slice arr" z)) (fail "slice arr range" z)) (fail "slice arr dead" z))) z) (fail "slice type" z)))
def optNat {ρ : Type} (o : Option Operand) (R : T AV) (f : Option Nat → ρ) (z : ρ) : ρ := onSome o (fun x => asNat (ev x R) (fun n => f (some n)) z) (f none)
section
variable {ρ : Type}
def oMove (x : Operand) : OpF ρ := fun E R H a k => k (ev x R) H a
def oPick (c x y : Operand) : OpF ρ := fun E R H a k => asBool (ev c R) (fun b => k (ifb b (ev x R) (ev y R)) H a) (fail "pick" E.bad)
def oAlloc (t : TypeId) : OpF ρ := fun E R H a k => tyOf E t (fun i => tyBld i.d (k (.ptr a 0) (H.put a (.tcl t true i.z)) (Nat.succ a)) (k (.ptr a 0) (H.put a (cel i.z)) (Nat.succ a)))
def oBox (_ : TypeId) (x : Operand) : OpF ρ := fun E R H a k => ifb (ones (vcells (ev x R))) (k (.ptr a 0) (H.put a (cel (vcells (ev x R)))) (Nat.succ a)) (fail "box" E.bad)
def fillParts (at_ : Nat → (Nat → Nat → ρ) → ρ) (n : Nat) (z : ρ) (R : T AV) (ps : List (Nat × Operand)) (xs : List AV) (f : List AV → ρ) : ρ :=
  listRec (β := List AV → ρ) f (fun p _ ih xs => at_ p.1 (fun k s => ifb (ones (vcells (ev p.2 R))) (ifb (Nat.beq (vcells (ev p.2 R)).length s) (ifb (Nat.ble (k + s) n) (ih (putAt (vcells (ev p.2 R)) k xs)) z) z) z)) ps xs
def oBuild (t : TypeId) (parts : Array (Nat × Operand)) : OpF ρ := fun E R H a k => tyOf E t (fun i =>
  tyStruct i.d (fun fs => fillParts (fun j g => onSome (nth fs j) (fun fd => g fd.off fd.sz) (fail "build" E.bad)) i.sz (fail "build part" E.bad) R parts.toList i.z (fun xs => k (.agg xs) H a))
  (tyArr0 i.d (fun _ sz _ => fillParts (fun j g => g (j * sz) sz) i.sz (fail "build part" E.bad) R parts.toList i.z (fun xs => k (.agg xs) H a)) (fail "build ty" E.bad)))
def flatP (R : T AV) (sz : Nat) (ps : List (Nat × Operand)) (i : Nat) (f : Nat → List AV → ρ) (z : ρ) : ρ :=
  listRec (β := Nat → (Nat → List AV → ρ) → ρ) (fun i f => f i []) (fun p _ ih i f => ifb (Nat.beq p.1 i) (ifb (ones (vcells (ev p.2 R))) (ifb (Nat.beq (vcells (ev p.2 R)).length sz) (ih (Nat.succ i) (fun j l => f j (vcells (ev p.2 R) ++ l))) z) z) z) ps i f
def oBuildSlice (t : TypeId) (len : Nat) (parts : Array (Nat × Operand)) : OpF ρ := fun E R H a k => tyOf E t (fun i => tySlice i.d (fun sz _ z =>
  flatP R sz parts.toList 0 (fun m ys => ifb (Nat.beq m len) (ifb (Nat.ble (len * sz) 16777216) (k (.vwn a sz 0 len) (H.put a (cel ys)) (Nat.succ a)) E.bad) (fail "buildSlice len" E.bad)) (fail "buildSlice cells" E.bad)) (fail "buildSlice" E.bad))
def oLoad (t : TypeId) (x : Operand) : OpF ρ := fun E R H a k => tyOf E t (fun i =>
  asPtr (ev x R) (fun o j => atCel H o (fun n c => ifb (Nat.ble (j + i.sz) n) (aggOf i.agg (c.seg .unk j i.sz) (fun v => k v H a) E.bad) (fail "load range" E.bad)) (fail "load dead" E.bad))
  (asPce (ev x R) (fun xs j => ifb (Nat.ble (j + i.sz) xs.length) (ifb (Nat.beq i.sz 0) E.bad (aggOf i.agg ((xs.drop j).take i.sz) (fun v => k v H a) E.bad)) E.bad) (fail "load" E.bad)))
def oStore (t : TypeId) (x v : Operand) : OpF ρ := fun E R H a k => tyOf E t (fun i =>
  asPtr (ev x R) (fun o j => atCel H o (fun n c => ifb (ones (vcells (ev v R))) (ifb (Nat.ble (j + (vcells (ev v R)).length) n) (ifb (Nat.beq (vcells (ev v R)).length i.sz) (k .unk (H.put o (.cel n (c.putL j (vcells (ev v R))))) a) (fail "store size" E.bad)) (fail "store range" E.bad)) (fail "store cells" E.bad)) (fail "store dead" E.bad)) (fail "store" E.bad))
def oNilCheck (x : Operand) : OpF ρ := fun E R H a k => asPtr (ev x R) (fun o j => k (.ptr o j) H a) (asPce (ev x R) (fun o j => k (.pce o j) H a) (fail "nilCheck" E.bad))
def oFieldAddr (t : TypeId) (x : Operand) (f : Nat) : OpF ρ := fun E R H a k => tyOf E t (fun i => tyStruct i.d (fun fs => onSome (nth fs f) (fun fd =>
  ifb (Nat.beq fd.sz 0) E.bad (asPtr (ev x R) (fun o j => k (.ptr o (j + fd.off)) H a) (asPce (ev x R) (fun o j => k (.pce o (j + fd.off)) H a) (fail "fieldAddr" E.bad)))) E.bad) E.bad)
def oField (t : TypeId) (x : Operand) (f : Nat) : OpF ρ := fun E R H a k => tyOf E t (fun i => tyStruct i.d (fun fs => onSome (nth fs f) (fun fd =>
  asAgg (ev x R) (fun xs => ifb (Nat.ble (fd.off + fd.sz) xs.length) (aggOf fd.agg ((xs.drop fd.off).take fd.sz) (fun v => k v H a) E.bad) E.bad) (fail "field" E.bad)) E.bad) E.bad)
def oIndexAddr (t : TypeId) (x y : Operand) : OpF ρ := fun E R H a k => asNat (ev y R) (fun j => tyOf E t (fun i =>
  tySlice i.d (fun s _ _ => asVwn (ev x R) (fun o _ off len => ifb (Nat.blt j len) (k (.ptr o (off + j * s)) H a) (fail "index range" E.bad))
    (asSls (ev x R) (fun n xs => ifb (Nat.blt j n) (k (.pce xs (j * s)) H a) (fail "index range" E.bad)) (fail "indexAddr" E.bad)))
  (asPtr (ev x R) (fun o m => tyArr0 i.d (fun len s _ => ifb (Nat.blt j len) (k (.ptr o (m + j * s)) H a) (fail "index range" E.bad)) E.bad) (fail "indexAddr ptr" E.bad)))) (fail "index" E.bad)
def oIndex (t : TypeId) (x y : Operand) : OpF ρ := fun E R H a k => asNat (ev y R) (fun j => tyOf E t (fun i =>
  asStr (ev x R) (fun bs => tyStr i.d (onSome (nth bs j) (fun b => k (.raw (.int .u8 (.ofNat b.toNat))) H a) (fail "index str" E.bad)) E.bad)
  (asAgg (ev x R) (fun xs => tyArr0 i.d (fun len s g => ifb (Nat.blt j len) (ifb (Nat.beq s 1) (ifb g E.bad (onSome (nth xs j) (fun v => k v H a) E.bad)) E.bad) E.bad) E.bad) (fail "index?" E.bad)))) (fail "index" E.bad)
def hm (h m : Option Nat) (y z : ρ) : ρ := onSome m (fun _ => onSome h (fun _ => y) z) y
def oSlice (t : TypeId) (x : Operand) (l h m : Option Operand) : OpF ρ := fun E R H a k => optNat l R (fun l' => optNat h R (fun h' => optNat m R (fun m' => tyOf E t (fun i => hm h' m' (slice1 H i.d (ev x R) l' h' m' (fun v => k v H a) E.bad) E.bad)) E.bad) E.bad) E.bad
def found (commaOk b : Bool) (v : AV) : AV := ifb commaOk (.tup [v, .raw (.bool b)]) v
def oLookup (t : TypeId) (x y : Operand) (commaOk : Bool) : OpF ρ := fun E R H a k => tyOf E t (fun i => tyMap i.d (fun key agg z =>
  asMp (ev x R) (fun o => onSome key
      (fun ik => atMpi H o (fun ik' es => asInt (ev y R) (fun ik2 n => ifb (sameK ik ik') (ifb (sameK ik ik2) (getI n es (fun v => k (found commaOk true v) H a) (aggOf agg z (fun v => k (found commaOk false v) H a) E.bad)) E.bad) E.bad) E.bad) (fail "lookup dead" E.bad))
      (atMps H o (fun es => asStr (ev y R) (fun ks => getS ks es (fun v => k (found commaOk true v) H a) (aggOf agg z (fun v => k (found commaOk false v) H a) E.bad)) (fail "lookup" E.bad)) (fail "lookup dead" E.bad)))
  (asNilM (ev x R) (onSome key (fun ik => asInt (ev y R) (fun ik2 _ => ifb (sameK ik ik2) (aggOf agg z (fun v => k (found commaOk false v) H a) E.bad) E.bad) E.bad) (asStr (ev y R) (fun _ => aggOf agg z (fun v => k (found commaOk false v) H a) E.bad) E.bad)) (fail "lookup?" E.bad))) E.bad)
def oMapUpdate (t : TypeId) (x y v : Operand) : OpF ρ := fun E R H a k => tyOf E t (fun i => tyMap i.d (fun key _ _ => asMp (ev x R) (fun o => onSome key
    (fun ik => atMpi H o (fun ik' es => asInt (ev y R) (fun ik2 n => ifb (sameK ik ik') (ifb (sameK ik ik2) (putI n (ev v R) es (fun es => k .unk (H.put o (.mpi ik es)) a)) E.bad) E.bad) E.bad) (fail "mapUpdate dead" E.bad))
    (atMps H o (fun es => asStr (ev y R) (fun ks => putS ks (ev v R) es (fun es => k .unk (H.put o (.mps es)) a)) (fail "mapUpdate" E.bad)) (fail "mapUpdate dead" E.bad))) E.bad) E.bad)
def oMakeMap (t : TypeId) (r : Option Operand) : OpF ρ := fun E R H a k => tyOf E t (fun i => tyMap i.d (fun key _ _ => optNat r R (fun _ => onSome key (fun ik => k (.mp a) (H.put a (.mpi ik [])) (Nat.succ a)) (k (.mp a) (H.put a (.mps [])) (Nat.succ a))) E.bad) E.bad)
def oMakeSlice (t : TypeId) (l c : Operand) : OpF ρ := fun E R H a k => tyOf E t (fun i => tySlice i.d (fun sz by_ z => asNat (ev l R) (fun n => asNat (ev c R) (fun m =>
  ifb (Nat.ble n m) (ifb (Nat.ble (m * by_) most) (ifb (Nat.ble m most) (k (.vwn a sz 0 n) (H.put a (.cel (m * sz) (T.putL .nil 0 (rep z m)))) (Nat.succ a)) E.bad) E.bad) E.bad) E.bad) E.bad) (fail "makeSlice" E.bad))
def oMakeFunc (fn : Fn) (first caps : Array Operand) : OpF ρ := fun E R H a k => k (.fnc fn (evs first.toList R) (evs caps.toList R)) H a
def oExtract (x : Operand) (i : Nat) : OpF ρ := fun E R H a k => asTup (ev x R) (fun xs => onSome (nth xs i) (fun v => k v H a) E.bad) (fail "extract" E.bad)
def unop (op : UnOp) : AV → (AV → ρ) → ρ → ρ := @UnOp.rec (fun _ => AV → (AV → ρ) → ρ → ρ)
  (fun x f z => asInt x (fun k n => f (.raw (.int k (k.wrap (0 - n))))) z)
  (fun x f z => asInt x (fun k n => f (.raw (.int k (bits .xor k (if k.signed then -1 else k.max) n)))) z)
  (fun x f z => asBool x (fun b => f (.raw (.bool (notB b)))) z)
  (fun _ _ z => z) op
def oUnOp (op : UnOp) (_ : TypeId) (x : Operand) : OpF ρ := fun E R H a k => unop op (ev x R) (fun v => k v H a) (fail "unOp" E.bad)
def oBinOp (op : BinOp) (t : TypeId) (x y : Operand) (_ : TypeId) : OpF ρ := fun E R H a k => binop op (ev x R) (ev y R) (fun v => k v H a)
  (tyOf E t (fun i => isEql op (tyEq i.d i.q (ifb (isC x) true (isC y)) (ev x R) (ev y R) (fun b => k (.raw (.bool b)) H a) (fail "eql" E.bad)) (tyEq i.d i.q (ifb (isC x) true (isC y)) (ev x R) (ev y R) (fun b => k (.raw (.bool (notB b))) H a) (fail "neq" E.bad)) (fail "binOp" E.bad))) (fail "binOp" E.bad)
def u8z (z : List AV) (y no : ρ) : ρ := one1 z (fun x => asInt x (fun k _ => ifb (sameK k .u8) y no) no) no
def oConvert (s t : TypeId) (x : Operand) : OpF ρ := fun E R H a k => tyOf E s (fun i => tyOf E t (fun j =>
  tyInt j.d (fun q => asInt (ev x R) (fun _ n => k (.raw (.int q (q.wrap n))) H a) (fail "convert int" E.bad))
  (tyStr j.d (tyStr i.d (asStr (ev x R) (fun bs => k (.str bs) H a) E.bad) (tySlice i.d (fun _ _ z => u8z z (asStr (ev x R) (fun _ => fail "bytes of text" E.bad) (src H 1 (ev x R) (fun _ xs => toBytes xs (fun bs => k (.str bs) H a) (fail "toBytes" E.bad)) E.bad)) E.bad) (fail "convert str" E.bad)))
  (tySlice j.d (fun _ _ z => u8z z (tyStr i.d (asStr (ev x R) (fun bs => k (.vwn a 1 0 bs.length) (H.put a (cel (ofBytes bs))) (Nat.succ a)) E.bad) (fail "convert bytes" E.bad)) E.bad) (fail "convert" E.bad)))))
def two {α : Type} (l : List α) (f : α → α → ρ) (z : ρ) : ρ := listOn l z (fun x r => listOn r z (fun y r => listOn r (f x y) (fun _ _ => z)))
def just {α : Type} (l : List α) (f : α → ρ) (z : ρ) : ρ := listOn l z (fun x r => listOn r (f x) (fun _ _ => z))
def evalLen (d : TD) (H : T XO) (x : AV) (f : AV → ρ) (z : ρ) : ρ :=
  tySlice d (fun _ _ _ => asVwn x (fun _ _ _ len => f (iN len)) (asSls x (fun n _ => f (iN n)) (asSlsx x (fun n _ => f (iN n)) (asNilS x (f (iN 0)) (asEmp x (f (iN 0)) (fail "len" z))))))
  (tyStr d (asStr x (fun bs => f (iN bs.length)) z)
  (tyMap d (fun _ _ _ => asMp x (fun o => fail "len map" z) (asNilM x (f (iN 0)) z)) (fail "len?" z)))
def appendTo (sz by_ : Nat) (s : AV) (m : Nat) (ys : List AV) (H : T XO) (a : Nat) (k : K ρ) (z : ρ) : ρ :=
  natOn m (asVwn s (fun _ _ _ _ => k s H a) (asNilS s (k s H a) (asEmp s (k s H a) (fail "append 0" z))))
  (fun _ => asVwn s (fun o s' off n => ifb (Nat.beq s' sz) (ifb (Nat.ble ((n + m) * by_) most) (ifb (Nat.ble (n + m) most) (atCel H o (fun len t => ifb (Nat.ble (off + n * sz) len)
        (natOn off (k (.vwn a sz 0 (n + m)) ((H.del o).put a (.cel ((n + m) * sz) (t.putL (n * sz) ys))) (Nat.succ a))
          (fun _ => k (.vwn a sz 0 (n + m)) ((H.del o).put a (cel (t.seg .unk off (n * sz) ++ ys))) (Nat.succ a))) (fail "append room" z)) (fail "append dead" z)) z) (fail "append great" z)) (fail "append sz" z))
    (asSlsx s (fun n xs => lenIs xs (n * sz) (ifb (Nat.ble ((n + m) * by_) most) (ifb (Nat.ble (n + m) most) (k (.sls (n + m) (xs ++ ys)) H a) z) (fail "append great" z)) z)
    (ifb (Nat.ble (m * by_) most) (ifb (Nat.ble m most) (asNilS s (k (.vwn a sz 0 m) (H.put a (cel ys)) (Nat.succ a)) (asEmp s (k (.vwn a sz 0 m) (H.put a (cel ys)) (Nat.succ a)) (fail "append?" z))) z) (fail "append great" z))))
def bAppend (args : List Operand) (ts : List TypeId) : OpF ρ := fun E R H a k => two args (fun s x => two ts (fun t t2 =>
  tyOf E t (fun i => tySlice i.d (fun sz by_ z => tyOf E t2 (fun j => tyInt j.d (fun _ => asNat (ev x R) (fun m => natOn m (fail "append nothing" E.bad) (fun _ => ifb (Nat.ble (m * by_) most) (ifb (Nat.ble m most)
      (asNilS (ev s R) (k (.vwn a sz 0 m) (H.put a (cel (rep z m))) (Nat.succ a)) (asEmp (ev s R) (k (.vwn a sz 0 m) (H.put a (cel (rep z m))) (Nat.succ a)) (fail "append count" E.bad))) E.bad) E.bad)) (fail "append many" E.bad)) (tySl j.d
      (src H sz (ev x R) (fun m ys => appendTo sz by_ (ev s R) m ys H a k E.bad) E.bad) (fail "append count" E.bad)))) (fail "append" E.bad))) E.bad) E.bad
def bLen (args : List Operand) (ts : List TypeId) : OpF ρ := fun E R H a k => just args (fun x => just ts (fun t => tyOf E t (fun i => evalLen i.d H (ev x R) (fun v => k v H a) E.bad)) E.bad) E.bad
def bMin (args : List Operand) (_ : List TypeId) : OpF ρ := fun E R H a k => two args (fun x y => asInt (ev x R) (fun q m => asInt (ev y R) (fun _ n => k (.raw (.int q (ifb (decide (m ≤ n)) m n))) H a) E.bad) E.bad) E.bad
def bMax (args : List Operand) (_ : List TypeId) : OpF ρ := fun E R H a k => two args (fun x y => asInt (ev x R) (fun q m => asInt (ev y R) (fun _ n => k (.raw (.int q (ifb (decide (m ≤ n)) n m))) H a) E.bad) E.bad) E.bad
def bClear (args : List Operand) (ts : List TypeId) : OpF ρ := fun E R H a k => just args (fun x => just ts (fun t => tyOf E t (fun i => tySlice i.d (fun s _ z =>
  asVwn (ev x R) (fun o _ off len => natOn len (k .unk H a) (fun _ => atCel H o (fun n c => ifb (Nat.ble (off + len * s) n) (k .unk (H.put o (.cel n (c.putL off (rep z len)))) a) (fail "clear range" E.bad)) (fail "clear dead" E.bad))) (fail "clear" E.bad)) E.bad)) E.bad) E.bad
def bCopy (args : List Operand) (ts : List TypeId) : OpF ρ := fun E R H a k => two args (fun x y => listOn ts E.bad (fun t _ => tyOf E t (fun i => tySlice i.d (fun sz _ _ =>
  asVwn (ev x R) (fun o _ off len => src H sz (ev y R) (fun m ys => ifb (Nat.ble m len) (natOn m (k (iN 0) H a) (fun _ => atCel H o (fun n c => ifb (Nat.ble (off + m * sz) n) (k (iN m) (H.put o (.cel n (c.putL off ys))) a) (fail "copy range" E.bad)) (fail "copy dead" E.bad))) (fail "copy much" E.bad)) E.bad) (fail "copy" E.bad)) E.bad))) E.bad
def bCap (args : List Operand) (ts : List TypeId) : OpF ρ := fun E R H a k => just args (fun x => just ts (fun t => tyOf E t (fun i => tySlice i.d (fun _ _ _ => asNilS (ev x R) (k (iN 0) H a) (asEmp (ev x R) (k (iN 0) H a) (fail "cap" E.bad))) E.bad)) E.bad) E.bad
def builtin (b : Builtin) : List Operand → List TypeId → OpF ρ := @Builtin.rec (fun _ => List Operand → List TypeId → OpF ρ)
  (bAppend)
  (bCap)
  (bClear)
  (fun _ _ E _ _ _ _ => fail "builtin" E.bad)
  (fun _ _ E _ _ _ _ => fail "builtin" E.bad)
  (bCopy)
  (fun _ _ E _ _ _ _ => fail "builtin" E.bad)
  (fun _ _ E _ _ _ _ => fail "builtin" E.bad)
  (bLen)
  (fun _ _ E _ _ _ _ => fail "builtin" E.bad)
  (bMax)
  (bMin)
  (fun _ _ E _ _ _ _ => fail "builtin" E.bad)
  (fun _ _ E _ _ _ _ => fail "builtin" E.bad)
  (fun _ _ E _ _ _ _ => fail "builtin" E.bad)
  (fun _ _ E _ _ _ _ => fail "builtin" E.bad)
  (fun _ _ E _ _ _ _ => fail "builtin" E.bad)
  (fun _ _ E _ _ _ _ => fail "builtin" E.bad)
  (fun _ _ E _ _ _ _ => fail "builtin" E.bad)
  (fun _ _ E _ _ _ _ => fail "builtin" E.bad)
  (fun _ _ E _ _ _ _ => fail "builtin" E.bad)
  (fun _ _ E _ _ _ _ => fail "builtin" E.bad)
  (fun _ _ E _ _ _ _ => fail "builtin" E.bad)
  (fun _ _ E _ _ _ _ => fail "builtin" E.bad)
  (fun _ _ E _ _ _ _ => fail "builtin" E.bad)
  (fun _ _ E _ _ _ _ => fail "builtin" E.bad) b
def builtinK (b : Builtin) (pure wr : ρ) : ρ := match b with
  | .len => pure
  | .min => pure
  | .max => pure
  | .cap => pure
  | _ => wr
def calleeK (c : Callee) (pure wr : ρ) : ρ := match c with
  | .builtin b => builtinK b pure wr
  | _ => wr
abbrev CallF (ρ : Type) := Nat → List AV → T XO → Nat → K ρ → ρ
def callee (c : Callee) : CallF ρ → List Operand → List TypeId → OpF ρ := @Callee.rec (fun _ => CallF ρ → List Operand → List TypeId → OpF ρ)
  (fun x => fun call args _ E R H a k => asFnc (ev x R) (fun f first caps => call f (first ++ (evs args R ++ caps)) H a k) (fail "call" E.bad))
  (fun _ _ => fun _ _ _ E _ _ _ _ => fail "invoke" E.bad)
  (fun b => fun _ args ts => builtin b args ts) c
def oCall (c : Call) (call : CallF ρ) : OpF ρ := callee c.callee call c.args.toList c.argTypes.toList
def oNone : OpF ρ := fun E _ _ _ _ => fail "op" E.bad
def evalOp (op : Op) : CallF ρ → OpF ρ := @Op.rec (fun _ => CallF ρ → OpF ρ)
  (fun x => fun _ => oMove x)
  (fun x => fun _ => oMove x)
  (fun c x y => fun _ => oPick c x y)
  (fun t => fun _ => oAlloc t)
  (fun t x => fun _ => oBox t x)
  (fun t ps => fun _ => oBuild t ps)
  (fun t n ps => fun _ => oBuildSlice t n ps)
  (fun _ _ _ _ => fun _ => oNone)
  (fun t x => fun _ => oLoad t x)
  (fun t x v => fun _ => oStore t x v)
  (fun _ => fun _ => oNone)
  (fun _ => fun _ => oNone)
  (fun x => fun _ => oNilCheck x)
  (fun b t x y t2 => fun _ => oBinOp b t x y t2)
  (fun b t x => fun _ => oUnOp b t x)
  (fun s t x => fun _ => oConvert s t x)
  (fun _ _ => fun _ => oNone)
  (fun _ _ => fun _ => oNone)
  (fun f a b => fun _ => oMakeFunc f a b)
  (fun t r => fun _ => oMakeMap t r)
  (fun _ _ => fun _ => oNone)
  (fun t l c => fun _ => oMakeSlice t l c)
  (fun t x l h m => fun _ => oSlice t x l h m)
  (fun t x f => fun _ => oFieldAddr t x f)
  (fun t x f => fun _ => oField t x f)
  (fun t x y => fun _ => oIndexAddr t x y)
  (fun t x y => fun _ => oIndex t x y)
  (fun t x y c => fun _ => oLookup t x y c)
  (fun t x y v => fun _ => oMapUpdate t x y v)
  (fun _ _ _ => fun _ => oNone)
  (fun _ _ _ _ => fun _ => oNone)
  (fun _ _ => fun _ => oNone)
  (fun _ _ => fun _ => oNone)
  (fun _ => fun _ => oNone)
  (fun _ _ _ _ => fun _ => oNone)
  (fun x i => fun _ => oExtract x i)
  (fun c => oCall c)
  (fun _ => fun _ => oNone)
  (fun _ => fun _ => oNone)
  (fun _ => fun _ => oNone)
  (fun _ _ => fun _ => oNone)
  (fun _ _ _ => fun _ => oNone)
  (fun _ _ => fun _ => oNone) op
abbrev C (ρ : Type) := Exit → T AV → T XO → Nat → ρ
abbrev R3 (α : Type) := T AV → T XO → Nat → α
def putR (R : T AV) (d : Option Tmp) (x : AV) : T AV := onSome d (fun d => R.put d x) R
def undefV : AV := .raw (.tuple #[])
def yieldB (v : AV) (want : Bool) (y n z : ρ) : ρ := asRaw v (fun v => vBool v (fun b => ifb want (ifb b y n) (ifb b n y)) n) z
def guarded (g : Option (Nat × Bool)) (ops : List Oper) (R : T AV) (y n z : ρ) : ρ := onSome g (fun p => onSome (nth ops p.1) (fun o => onSome o.dst (fun d => yieldB (rg R d) p.2 y n z) z) z) y
def runOp (o : Oper) (E : Env ρ) (call : CallF ρ) (R : T AV) (H : T XO) (a : Nat) (k : R3 ρ) : ρ := evalOp o.op call E R H a (fun x H a => k (putR R o.dst x) H a)
def runOps (l : List Oper) : Env ρ → CallF ρ → List Oper → T AV → T XO → Nat → R3 ρ → ρ :=
  listRec (β := Env ρ → CallF ρ → List Oper → T AV → T XO → Nat → R3 ρ → ρ) (fun _ _ _ R H a k => k R H a)
    (fun o _ ih E call ops R H a k => guarded o.guard ops R (runOp o E call R H a (fun R H a => ih E call ops R H a k)) (ih E call ops (putR R o.dst undefV) H a k) (fail "guard" E.bad)) l
abbrev CodeF (ρ : Type) := Env ρ → CallF ρ → Nat → R3 (C ρ → ρ)
def onNormal (e : Exit) : ρ → (Exit → ρ) → ρ := @Exit.rec (fun _ => ρ → (Exit → ρ) → ρ)
  (fun x _ => x)
  (fun y0 => fun _ f => f (Exit.exit y0))
  (fun y0 => fun _ f => f (Exit.goto y0))
  (fun _ f => f (Exit.ret))
  (fun y0 => fun _ f => f (Exit.panic y0))
  (fun _ f => f (Exit.outgrown)) e
def onExit (e : Exit) : (Nat → ρ) → (Exit → ρ) → ρ := @Exit.rec (fun _ => (Nat → ρ) → (Exit → ρ) → ρ)
  (fun _ f => f (Exit.normal))
  (fun i => fun f _ => f i)
  (fun y0 => fun _ f => f (Exit.goto y0))
  (fun _ f => f (Exit.ret))
  (fun y0 => fun _ f => f (Exit.panic y0))
  (fun _ f => f (Exit.outgrown)) e
def onEnd (e : Exit) : ρ → ρ → ρ := @Exit.rec (fun _ => ρ → ρ → ρ)
  (fun x _ => x)
  (fun _ => fun _ z => z)
  (fun _ => fun _ z => z)
  (fun x _ => x)
  (fun _ => fun _ z => z)
  (fun _ z => z) e
def cSkip : CodeF ρ := fun _ _ _ R H a k => k .normal R H a
def eqN (a b : Nat) (y z : ρ) : ρ := ifb (Nat.beq a b) y z
def eq0 (x x' : AV) (y z : ρ) : ρ :=
  asInt x (fun k n => asInt x' (fun k' n' => ifb (sameK k k') (ifb (decide (n = n')) y z) z) z)
  (asPtr x (fun o j => asPtr x' (fun o' j' => eqN o o' (eqN j j' y z) z) z)
  (asStr x (fun b => asStr x' (fun b' => ifb (strEq b b') y z) z)
  (asVwn x (fun o s j l => asVwn x' (fun o' s' j' l' => eqN o o' (eqN s s' (eqN j j' (eqN l l' y z) z) z) z) z)
  (asBool x (fun b => asBool x' (fun b' => ifb (eqB b b') y z) z)
  (asMp x (fun o => asMp x' (fun o' => eqN o o' y z) z)
  (asEmp x (asEmp x' y z)
  (asNilS x (asNilS x' y z) (asNilM x (asNilM x' y z) (asNilI x (asNilI x' y z) (asNilP x (asNilP x' y z) z))))))))))
def eq0s (xs xs' : List AV) (y z : ρ) : ρ := listRec (β := List AV → ρ) (fun l => listOn l y (fun _ _ => z)) (fun x _ ih l => listOn l z (fun x' l => eq0 x x' (ih l) z)) xs xs'
def eq1 (x x' : AV) (y z : ρ) : ρ :=
  asSls x (fun n xs => asSls x' (fun n' xs' => eqN n n' (eq0s xs xs' y z) z) z)
  (asSlsx x (fun n xs => asSlsx x' (fun n' xs' => eqN n n' (eq0s xs xs' y z) z) z)
  (asAgg x (fun xs => asAgg x' (fun xs' => eq0s xs xs' y z) z)
  (asFnc x (fun f a b => asFnc x' (fun f' a' b' => eqN f f' (eq0s a a' (eq0s b b' y z) z) z) z) (eq0 x x' y z))))
def eq1s (xs xs' : List AV) (y z : ρ) : ρ := listRec (β := List AV → ρ) (fun l => listOn l y (fun _ _ => z)) (fun x _ ih l => listOn l z (fun x' l => eq1 x x' (ih l) z)) xs xs'
def eqA (x x' : AV) (y z : ρ) : ρ :=
  asAgg x (fun xs => asAgg x' (fun xs' => eq1s xs xs' y z) z)
  (asTup x (fun xs => asTup x' (fun xs' => eq1s xs xs' y z) z) (eq1 x x' y z))
def hasBit (m i : Nat) : Bool := Nat.beq (Nat.land (Nat.shiftRight m i) 1) 1
def orBit (m i : Nat) : Nat := Nat.lor m (Nat.shiftLeft 1 i)
def bindsG (g : Ground) : Bool := @Ground.rec (fun _ => Bool)
  (true)
  (true)
  (true)
  (true)
  (fun _ => false)
  (fun _ => false) g
def ancOf (M : T Nat) (es : List Edge) : Nat := listRec (β := Nat) 0 (fun e _ ih => ifb (bindsG e.ground) (orBit (Nat.lor ih (onSome (M.get e.on) id 0)) e.on) ih) es
def opK (op : Op) (pure read wr : ρ) : ρ := match op with
  | .load _ _ => read
  | .lookup _ _ _ _ => read
  | .slice _ _ _ _ _ => read
  | .alloc _ => read
  | .box _ _ => read
  | .buildSlice _ _ _ => read
  | .makeSlice _ _ _ => read
  | .makeMap _ _ => read
  | .convert _ _ _ => read
  | .store _ _ _ => wr
  | .mapUpdate _ _ _ _ => wr
  | .call c => calleeK c.callee pure wr
  | _ => pure
structure Pend where
  i : Nat
  a : Nat
  x : XO
def minus (m : Nat) (ps : List Pend) (H : T XO) : T XO := listRec (β := T XO → T XO) (fun H => H) (fun p _ ih H => ih (ifb (hasBit m p.i) H (H.del p.a))) ps H
def plus (m : Nat) (ps : List Pend) (H : T XO) : T XO := listRec (β := T XO → T XO) (fun H => H) (fun p _ ih H => ih (ifb (hasBit m p.i) H (H.put p.a p.x))) ps H
structure Was where
  i : Nat
  h : T XO
structure Red (ρ : Type) where
  i : Nat
  f : List Pend → T XO → ρ → ρ
structure Dr (ρ : Type) where
  M : T Nat
  ws : List Was
  ps : List Pend
  rs : List (Red ρ)
def Dr.m (d : Dr ρ) : T Nat := d.M
def again (m : Nat) (ps : List Pend) (H : T XO) (rs : List (Red ρ)) (y : ρ) : ρ := listRec (β := ρ) y (fun r _ ih => ifb (hasBit m r.i) ih (r.f ps H ih)) rs
def before (m : Nat) (ws : List Was) (f : T XO → ρ → ρ) (y : ρ) : ρ := listRec (β := ρ) y (fun w _ ih => ifb (hasBit m w.i) ih (f w.h ih)) ws
def allW (m : Nat) (ws : List Was) (y z : ρ) : ρ := listRec (β := ρ) y (fun w _ ih => ifb (hasBit m w.i) ih z) ws
def reread (o : Oper) (E : Env ρ) (call : CallF ρ) (R : T AV) (a m : Nat) (x : AV) : List Pend → T XO → ρ → ρ := fun ps H y => evalOp o.op call E R (minus m ps H) a (fun x' _ a' => ifb (Nat.beq a' a) (eqA x x' y (fail "drawn: read" E.bad)) (fail "drawn: read lays" E.bad))
def drawnOp (o : Oper) (E : Env ρ) (call : CallF ρ) (R : T AV) (H : T XO) (a i m : Nat) (d : Dr ρ) (k : AV → T XO → Nat → Dr ρ → ρ) : ρ :=
  opK o.op (evalOp o.op call E R H a (fun x _ _ => k x H a ⟨d.M.put i m, d.ws, d.ps, d.rs⟩))
  (evalOp o.op call E R (minus m d.ps H) a (fun x H' a' => ifb (Nat.beq a' a)
    (before m d.ws (reread o E call R a m x d.ps) (k x H a ⟨d.M.put i m, d.ws, d.ps, ⟨i, reread o E call R a m x⟩ :: d.rs⟩))
    (onSome (H'.get a) (fun y => k x (H.put a y) a' ⟨d.M.put i m, d.ws, ⟨i, a, y⟩ :: d.ps, d.rs⟩) (fail "drawn: laid" E.bad))))
  (allW m d.ws (evalOp o.op call E R (minus m d.ps H) a (fun x H' a' => again m d.ps (plus m d.ps H') d.rs (k x (plus m d.ps H') a' ⟨d.M.put i m, ⟨i, H⟩ :: d.ws, d.ps, d.rs⟩))) (fail "drawn: writers" E.bad))
def runDrawn (l : List Oper) : Env ρ → CallF ρ → List Oper → Nat → Dr ρ → T AV → T XO → Nat → R3 ρ → ρ :=
  listRec (β := Env ρ → CallF ρ → List Oper → Nat → Dr ρ → T AV → T XO → Nat → R3 ρ → ρ) (fun _ _ _ _ _ R H a k => k R H a)
    (fun o _ ih E call ops i d R H a k => guarded o.guard ops R (drawnOp o E call R H a i (ancOf d.M o.after.toList) d (fun x H a d => ih E call ops (Nat.succ i) d (putR R o.dst x) H a k)) (ih E call ops (Nat.succ i) ⟨d.M.put i (ancOf d.M o.after.toList), d.ws, d.ps, d.rs⟩ (putR R o.dst undefV) H a k) (fail "guard" E.bad)) l
def cDrawn (ops : Array Oper) (E : Env ρ) (call : CallF ρ) (R : T AV) (H : T XO) (a : Nat) (k : R3 ρ) : ρ := runDrawn ops.toList E call ops.toList 0 ⟨.nil, [], [], []⟩ R H a k
def cRegion (_ : Nat) (ops : Array Oper) (d : Bool) : CodeF ρ := fun E call _ R H a k => ifb d (cDrawn ops E call R H a (fun R H a => k .normal R H a)) (runOps ops.toList E call ops.toList R H a (fun R H a => k .normal R H a))
def cSeq (x y : CodeF ρ) : CodeF ρ := fun E call f R H a k => x E call f R H a (fun e R H a => onNormal e (y E call f R H a k) (fun e => k e R H a))
def cCond (c : Operand) (x y : CodeF ρ) : CodeF ρ := fun E call f R H a k => asBool (ev c R) (fun b => ifb b (x E call f R H a k) (y E call f R H a k)) (fail "cond" E.bad)
def cBlock (id : Nat) (x : CodeF ρ) : CodeF ρ := fun E call f R H a k => x E call f R H a (fun e R H a => onExit e (fun i => ifb (Nat.beq i id) (k .normal R H a) (k (.exit i) R H a)) (fun e => k e R H a))
def cLoop (x : CodeF ρ) : CodeF ρ := fun E call f R H a k => iter (β := R3 ρ) f (fun _ _ _ => fail "fuel" E.bad) (fun ih R H a => x E call f R H a (fun e R H a => onNormal e (ih R H a) (fun e => k e R H a))) R H a
def cExit (id : Nat) : CodeF ρ := fun _ _ _ R H a k => k (.exit id) R H a
def cRet : CodeF ρ := fun _ _ _ R H a k => k .ret R H a
def cNone : CodeF ρ := fun E _ _ _ _ _ _ => fail "code" E.bad
def exec (c : Code) : CodeF ρ := @Code.rec (fun _ => CodeF ρ) cSkip cRegion (fun _ _ x y => cSeq x y) (fun c _ _ x y => cCond c x y) (fun id _ x => cBlock id x) (fun _ x => cLoop x) (fun _ _ _ _ _ _ => cNone) cExit (fun _ _ => cNone) (fun _ => cSkip) (fun _ => cNone) cRet (fun _ => cNone) c
def resV (r : ResultVar) : T AV → T XO → Env ρ → (AV → ρ) → ρ := @ResultVar.rec (fun _ => T AV → T XO → Env ρ → (AV → ρ) → ρ)
  (fun t => fun R _ _ k => k (rg R t))
  (fun p t => fun R H E k => asPtr (rg R p) (fun o j => tyOf E t (fun i => atCel H o (fun n c => ifb (Nat.ble (j + i.sz) n) (aggOf i.agg (c.seg .unk j i.sz) k E.bad) (fail "res range" E.bad)) (fail "res dead" E.bad))) (fail "res" E.bad)) r
def resL (rs : List ResultVar) (R : T AV) (H : T XO) (E : Env ρ) (k : List AV → ρ) : ρ := listRec (β := (List AV → ρ) → ρ) (fun k => k []) (fun r _ ih k => resV r R H E (fun v => ih (fun vs => k (v :: vs)))) rs k
def results1 (xs : List AV) : AV := listOn xs (.tup []) (fun x r => listOn r x (fun _ _ => .tup xs))
def sealV (H : T XO) (a : Nat) (v : AV) (k : K ρ) : ρ :=
  asVwn v (fun o s off len => atCel H o (fun n t => ifb (Nat.ble (off + len * s) n) (k (.sls len (t.seg .unk off (len * s))) (H.del o) a) (k v H a)) (k v H a)) (k v H a)
def bodyF (fn : Func) (f : FuncId) (E : Env ρ) (call : CallF ρ) (fuel : Nat) (args : List AV) (H : T XO) (a : Nat) (k : K ρ) : ρ :=
  onSome fn.body (fun c => ifb (Nat.ble args.length fn.ntmps) (exec c E call fuel (T.putL .nil 0 args) H a (fun e R H a =>
    onEnd e (resL fn.results.toList R H E (fun vs => onSome (E.sl.get f) (fun _ => sealV H a (results1 vs) k) (k (results1 vs) H a))) (fail "exit" E.bad))) (fail "args" E.bad)) (fail ("no body " ++ fn.name) E.bad)
def callB (E : Env ρ) (call : CallF ρ) (fuel : Nat) : CallF ρ := fun f args H a k =>
  onSome (E.sum f) (fun s => s args H a k) (onSome (E.fn.get f) (fun fn => bodyF fn f E call fuel args H a k) (fail "no fn" E.bad))
def isI (q : IntKind) (m : Int) (x : AV) (y z : ρ) : ρ := asInt x (fun k n => ifb (sameK k q) (ifb (decide (n = m)) y z) z) z
def onceAt (c : T AV) (j : Nat) (l : Int) (y z : ρ) : ρ := isI .u32 0 (rg c j) (isI .i32 l (rg c (Nat.succ j)) (isI .u32 0 (rg c (Nat.succ (Nat.succ j))) y z) z) z
def callO (E : Env ρ) (call : CallF ρ) (fuel : Nat) : CallF ρ := fun f args H a k => ifb (Nat.beq f E.once)
  (two args (fun x g => asPtr x (fun o j => asFnc g (fun h fs cs => atCel H o (fun n c => ifb (Nat.ble (j + 3) n) (onceAt c j 0
    (callB E call fuel h (fs ++ cs) (H.put o (.cel n (c.put (Nat.succ j) (.raw (.int .i32 1))))) a (fun _ H a => atCel H o (fun n c => ifb (Nat.ble (j + 3) n) (onceAt c j 1
      (k (.tup []) (H.put o (.cel n ((c.put j (.raw (.int .u32 1))).put (Nat.succ j) (.raw (.int .i32 0))))) a) (fail "once behind" E.bad)) (fail "once behind range" E.bad)) (fail "once behind dead" E.bad)))
    (fail "once old" E.bad)) (fail "once range" E.bad)) (fail "once dead" E.bad)) E.bad) E.bad) E.bad)
  (callB E call fuel f args H a k)
def callN (E : Env ρ) (c : CallF ρ) : CallF ρ := fun f args H a k => onSome (E.nat f) (fun s => s args H a k) (c f args H a k)
def calls (E : Env ρ) (fuel n : Nat) : CallF ρ := iter (β := CallF ρ) n (fun _ _ _ _ _ => fail "depth" E.bad) (fun ih => callN E (callO E ih fuel))
end
end
end Go.Ex
