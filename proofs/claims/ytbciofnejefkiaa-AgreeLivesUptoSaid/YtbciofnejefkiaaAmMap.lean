/-
  The abstract machine: maps whose keys are texts; closures. No program in sight.
-/
import Derived.Test.YtbciofnejefkiaaAmFn2
import Derived.MapKept
import Derived.Carry
set_option linter.unusedSimpArgs false
set_option linter.unusedVariables false
namespace Go.Am
open Go Go.RowKit Go.MapKept
abbrev MS := List (List UInt8 × AV)
def MS.ao (es : MS) : AO := .mpo (es.map fun p => (.str p.1, p.2))
def MS.get : MS -> List UInt8 -> Option AV
  | [], _ => none
  | (a, v) :: es, k => if a = k then some v else MS.get es k
def MS.put : MS -> List UInt8 -> AV -> MS
  | [], k, v => [(k, v)]
  | (a, u) :: es, k, v => if a = k then (k, v) :: es else (a, u) :: MS.put es k v
class MapT (P : Program) (t : TypeId) (k e : outParam TypeId) : Prop where
  h : P.underlying t = some (.map k e)
  k : P.underlying k = some .string
theorem Sim.writeO {g : Gh} {H : AHeap} {w w' : World} (h : Sim g H w) (hs : Same w w') {o : Nat} {x0 x : AO} (hx0 : H o = some x0) {l : Loc} (hl : g.loc o = some l)
    (hoth : ∀ b, b ≠ l.blk -> w'.heap[b]? = w.heap[b]?) (hx : RepO g w'.heap o x) : Sim g (H.set o x) w' := by
  refine ⟨hs.os.trans h.os, hs.tape.trans h.tape, hs.output.trans h.output, ?_, ?_, ?_, ?_, ?_⟩
  · intro b ob hbo
    rw [hoth b (fun e => by have := h.apart o x0 l hx0 hl; rw [<- e] at this; rw [this] at hbo; cases hbo)]
    exact h.sealed b ob hbo
  · intro p y hp
    simp only [AHeap.set] at hp; by_cases hpo : p = o
    · subst hpo; simp at hp; subst hp
      exact hx
    · rw [if_neg hpo] at hp
      exact (h.objs p y hp).move (.refl g) rfl fun l' hl' => hoth _ fun e => hpo (h.inj _ _ _ _ _ _ hp hx0 hl' hl e)
  · intro o1 o2 x1 x2 l1 l2 h1 h2 k1 k2 hbb
    simp only [AHeap.set] at h1 h2
    have f1 : ∃ y, H o1 = some y := by by_cases e1 : o1 = o; · exact ⟨x0, e1 ▸ hx0⟩
                                       · rw [if_neg e1] at h1; exact ⟨_, h1⟩
    have f2 : ∃ y, H o2 = some y := by by_cases e2 : o2 = o; · exact ⟨x0, e2 ▸ hx0⟩
                                       · rw [if_neg e2] at h2; exact ⟨_, h2⟩
    obtain ⟨y1, f1⟩ := f1; obtain ⟨y2, f2⟩ := f2; exact h.inj _ _ _ _ _ _ f1 f2 k1 k2 hbb
  · intro p y l' hp hl'
    simp only [AHeap.set] at hp; by_cases hpo : p = o
    · subst hpo; exact h.apart _ _ _ hx0 hl'
    · rw [if_neg hpo] at hp; exact h.apart _ _ _ hp hl'
  · obtain ⟨N, hN⟩ := h.fin
    refine ⟨max N (o + 1), fun p hp => ?_⟩
    have hpo : p ≠ o := by omega
    have := hN p (by omega)
    exact ⟨by simp [AHeap.set, hpo, this.1], this.2⟩
theorem Sim.newO {g : Gh} {H : AHeap} {w w' : World} (h : Sim g H w) (hs : Same w w') {ob : Obj} (hh : w'.heap = w.heap.push ob) {o sz : Nat} (ho : g.loc o = none) {x : AO} (hx : RepO (g.at o ⟨w.heap.size, 0, sz⟩) w'.heap o x) :
    Sim (g.at o ⟨w.heap.size, 0, sz⟩) (H.set o x) w' := by
  have hle := g.le_at ho ⟨w.heap.size, 0, sz⟩; have hold : ∀ b, b < w.heap.size -> w'.heap[b]? = w.heap[b]? := fun b hb => by rw [hh, Array.getElem?_push, if_neg (by omega)]
  have hself : (g.at o ⟨w.heap.size, 0, sz⟩).loc o = some ⟨w.heap.size, 0, sz⟩ := by simp [Gh.at]
  have hother : ∀ p, p ≠ o -> (g.at o ⟨w.heap.size, 0, sz⟩).loc p = g.loc p := fun p hp => by simp [Gh.at, hp]
  refine ⟨hs.os.trans h.os, hs.tape.trans h.tape, hs.output.trans h.output, ?_, ?_, ?_, ?_, ?_⟩
  · intro b ob hb
    have := h.sealed b ob hb; rw [hold b (Array.getElem?_eq_some_iff.1 this).1]; exact this
  · intro p y hp
    simp only [AHeap.set] at hp; by_cases hpo : p = o
    · subst hpo
      simp at hp; subst hp
      exact hx
    · rw [if_neg hpo] at hp
      have hr := h.objs p y hp; exact hr.move hle (hother p hpo) fun l hl => hold _ (hr.blk_lt hl)
  · intro o1 o2 x1 x2 l1 l2 h1 h2 k1 k2 hb
    simp only [AHeap.set] at h1 h2; by_cases e1 : o1 = o <;> by_cases e2 : o2 = o
    · rw [e1, e2]
    · subst e1; rw [hself] at k1; cases k1
      rw [if_neg e2] at h2; rw [hother _ e2] at k2; have := (h.objs _ _ h2).blk_lt k2; simp at hb; omega
    · subst e2; rw [hself] at k2; cases k2
      rw [if_neg e1] at h1; rw [hother _ e1] at k1; have := (h.objs _ _ h1).blk_lt k1; simp at hb; omega
    · rw [if_neg e1] at h1; rw [if_neg e2] at h2; rw [hother _ e1] at k1; rw [hother _ e2] at k2
      exact h.inj _ _ _ _ _ _ h1 h2 k1 k2 hb
  · intro p y l hp hl
    simp only [AHeap.set] at hp; by_cases hpo : p = o
    · subst hpo
      rw [hself] at hl; cases hl; show g.h w.heap.size = none
      cases hn : g.h w.heap.size with
      | none => rfl
      | some ob => have := (Array.getElem?_eq_some_iff.1 (h.sealed _ _ hn)).1; omega
    · rw [if_neg hpo] at hp; rw [hother p hpo] at hl
      exact h.apart p y l hp hl
  · obtain ⟨N, hN⟩ := h.fin
    refine ⟨max N (o + 1), fun p hp => ?_⟩
    have hpo : p ≠ o := by omega
    have := hN p (by omega)
    exact ⟨by simp [AHeap.set, hpo, this.1], by rw [hother p hpo]; exact this.2⟩
theorem af2 {w : World} {b : Nat} (h : b < w.heap.size) (ob : Obj) : ({ w with heap := w.heap.setIfInBounds b ob } : World).heap[b]? = some ob := by
  show (w.heap.setIfInBounds b ob)[b]? = _
  rw [Array.getElem?_setIfInBounds, if_pos rfl, if_pos h]
theorem uz {g : Gh} {o : Nat} {v : Value} (h : Rep g (.mp o) v) : ∃ l, g.loc o = some l /\ v = .map (some l.blk) := by simpa only [Rep] using h
section
variable {P : Program} {n : Nat} {K : Exit -> Regs -> AHeap -> Prop} {R : Regs} {H : AHeap} {ops : Array Oper} {rest : List Oper} {ty : TypeId} {d : Tmp} {pos : String} {af : Array Edge}
theorem aqk {t : TypeId} (hdn : Nat.blt d n = true) (hk : ∀ o', H o' = none -> AWL P n ops rest K ((d, .mp o') :: R) (H.set o' (MS.ao []))) :
    AWL P n ops (⟨some d, .makeMap t none, ty, pos, af, none⟩ :: rest) K R H :=
  ns rfl rfl hdn fun g a w hp => by
    obtain ⟨o', ho', hl'⟩ := hp.sim.fresh; refine ⟨.map (some w.heap.size), w.alloc (.map #[] 0), g.at o' ⟨w.heap.size, 0, 0⟩, .mp o', _, ?_, g.le_at hl' _, ?_, hp.sim.newO (w' := w.alloc (.map #[] 0)) ⟨rfl, rfl, rfl⟩ rfl hl' ?_, hk o' ho'⟩
    · simp only [execOp, Option.map_none]; rfl
    · simp only [Rep]; exact ⟨_, Gh.at_self _ _ _, rfl⟩
    · exact .inr (.inr (.inl ⟨_, [], #[], 0, rfl, Gh.at_self _ _ _, by show (w.heap.push _)[w.heap.size]? = _; simp, rfl, fun m hm => by simp at hm, by simp⟩))
theorem ama {fn : Fn} {fs cs : Array Operand} {avs : List AV} (hf : fs = #[]) (hc : cs.toList.map (am R) = avs) : Stp P n (.makeFunc fn fs cs) ty R H (.fnc fn [] avs) :=
  du fun o ho _ g a w hp => by
    subst hf; refine ⟨.func fn #[] (cs.map a.eval), by simp [execOp, ho, Instr.makeFunc], ?_⟩
    simp only [Rep]; refine ⟨#[], cs.map a.eval, rfl, by simp only [RepL], ?_⟩
    rw [Array.toList_map]; exact hc ▸ acd hp _
variable {v : AV} {x y z : Operand} {t t2 : TypeId} {od : Option Tmp}
end
end Go.Am
