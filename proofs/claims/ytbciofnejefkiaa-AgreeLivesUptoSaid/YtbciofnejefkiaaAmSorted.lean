/-
  The abstract machine: slices.Sorted(maps.Keys(m)) by the library's contracts. No program in sight.
-/
import Derived.Test.YtbciofnejefkiaaAmMap
import Derived.Maps.Own
import Derived.Sort.KeysCollected
import Derived.Sort.OwnSorted
import Derived.CallsIn
set_option linter.unusedSimpArgs false
set_option linter.unusedVariables false
namespace Go.Am
open Go Go.RowKit Go.MapKept Go.Maps Go.Proofs
open Go.WideElems (Fit rd rg pl)
def MS.keys (es : MS) : List (List UInt8) := es.map Prod.fst
theorem Sim.grown {g : Gh} {H : AHeap} {w w' : World} (h : Sim g H w) (hb : Below w.heap.size w w') : Sim g H w' := by
  refine ⟨hb.os.trans h.os, hb.tape.trans h.tape, hb.output.trans h.output, ?_, ?_, h.inj, h.apart, h.fin⟩
  · intro b o hbo
    have := h.sealed b o hbo; rw [hb.block b (Array.getElem?_eq_some_iff.1 this).1]; exact this
  · intro o x hx
    have hr := h.objs o x hx; exact hr.move (.refl g) rfl fun l hl => hb.block _ (hr.blk_lt hl)
theorem al4 {g : Gh} {ss : List (List UInt8)} {c : Array Value} (h : ∀ (i : Nat) (s : List UInt8), ss[i]? = some s -> c[i]? = some (encStr s)) : RepAt g (ss.map .str) c 0 := by
  rw [i6]; intro i x hi; rw [List.getElem?_map] at hi
  cases hs : ss[i]? with
  | none => rw [hs] at hi; cases hi
  | some s =>
    rw [hs] at hi
    cases hi
    refine ⟨encStr s, by rw [Nat.zero_add]; exact h i s hs, rfl, by simp only [Rep]⟩
theorem Sim.row {g : Gh} {H : AHeap} {w w' : World} (h : Sim g H w) (hb : Below w.heap.size w w') {et : TypeId} {v : Value} {ss : List (List UInt8)} (hr : w'.ownsRow w.heap.size et 1 v ss.length (ss.map encStr)) :
    ∃ g' oS, g.le g' /\ H oS = none /\ Rep g' (.vw oS 1 0 ss.length) v /\ Sim g' (H.set oS (.cel (ss.map .str))) w' := by
  have h' := h.grown hb; obtain ⟨oS, hoS, hl⟩ := h'.fresh; rcases hr.2 with ⟨rfl, h0⟩ | ⟨gb, cap, cur, rfl, hbase, hgb, r1, r2, r3, r4⟩
  · have : ss = [] := List.eq_nil_of_length_eq_zero h0
    subst this; refine ⟨g, oS, .refl g, hoS, ?_, h'.void hl rfl⟩; simp only [Rep]; exact .inr ⟨rfl, _, rfl⟩
  · have hsm : Same w' w' := ⟨rfl, rfl, rfl⟩
    have hsz := r3
    have hb0 : g.h gb = none := by
      cases hn : g.h gb with
      | none => rfl
      | some ob => have := (Array.getElem?_eq_some_iff.1 (h.sealed _ _ hn)).1; omega
    have hfree : ∀ o x l, H o = some x -> g.loc o = some l -> l.blk ≠ gb := fun o x l h1 h2 e => by
      have := (h.objs o x h1).blk_lt h2; omega
    have hc : ∀ (i : Nat) (s : List UInt8), ss[i]? = some s -> cur[i]? = some (encStr s) := fun i s hs => by
      have hlt := (List.getElem?_eq_some_iff.1 hs).1; have h1 : (cur.toList.take (ss.length * 1))[i]? = (ss.map encStr)[i]? := by rw [r4]
      rw [List.getElem?_take_of_lt (by omega)] at h1
      rw [<- Array.getElem?_toList, h1, List.getElem?_map, hs]; rfl
    refine ⟨g.at oS ⟨gb, 0, cur.size⟩, oS, g.le_at hl _, hoS, ?_, h'.place hsm hb0 hfree (fun k _ => rfl) hgb (fun i _ hh => by have := hh.2; omega) hl ⟨by simp; omega, al4 hc⟩⟩
    simp only [Rep]; exact .inl ⟨_, cap, Gh.at_self _ _ _, rfl, r1, by simp; omega⟩
section
variable {P : Program} {n : Nat} {K : Exit -> Regs -> AHeap -> Prop} {R : Regs} {H : AHeap} {ops : Array Oper} {rest : List Oper}
end
end Go.Am
