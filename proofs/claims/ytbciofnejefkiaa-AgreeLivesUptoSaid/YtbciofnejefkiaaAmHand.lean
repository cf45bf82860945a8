/-
  From a contract on the abstract machine to what a row's step asks for. No program in sight.
-/
import Derived.Test.YtbciofnejefkiaaAmMore
import Derived.Below
import Derived.ChangeSame
set_option linter.unusedSimpArgs false
set_option linter.unusedVariables false
namespace Go.Am
open Go Go.RowKit
def Gh.start (w : World) : Gh := { w0 := w, h := fun b => w.heap[b]?, loc := fun _ => none }
theorem Sim.start (w : World) : Sim (Gh.start w) AHeap.empty w :=
  ⟨rfl, rfl, rfl, fun b o h => h, fun o x h => by simp [AHeap.empty] at h, fun o1 _ _ _ _ _ h => by simp [AHeap.empty] at h, fun o _ _ h => by simp [AHeap.empty] at h, ⟨0, fun _ _ => ⟨rfl, rfl⟩⟩⟩
theorem Sim.below {g : Gh} {H : AHeap} {w w' : World} (h : Sim g H w') (hg : (Gh.start w).le g) : Below w.heap.size w w' := by
  have hw : g.w0 = w := hg.w0
  have hb : ∀ k, k < w.heap.size -> w'.heap[k]? = w.heap[k]? := fun k hk => by
    have hk' : w.heap[k]? = some w.heap[k] := by simp [hk]
    rw [hk']; exact h.sealed k _ (hg.h k _ hk')
  refine ⟨by rw [h.os, hw], by rw [h.tape, hw], by rw [h.output, hw], ?_, hb⟩
  by_cases hz : w.heap.size = 0
  · omega
  · have hl := hb (w.heap.size - 1) (by omega)
    have hs : w.heap[w.heap.size - 1]? = some (w.heap[w.heap.size - 1]'(by omega)) := by simp
    rw [hs] at hl; have := (Array.getElem?_eq_some_iff.1 hl).1; omega
theorem ACalls.below {P : Program} {f : FuncId} {avs : List AV} {w : World} {args : Array Value} {v : Value} (hc : ACalls P f avs AHeap.empty fun r _ => r = .raw v)
    (hr : RepL (Gh.start w) avs args.toList) : Calls P f args w fun e w' => e = .returned v /\ Below w.heap.size w w' :=
  (hc (Gh.start w) w args hr (Sim.start w)).mono fun e w' ⟨u, r, H', g', e1, e2, e3, e4, e5⟩ => by
    subst e5; simp only [Rep] at e3; subst e3; exact ⟨e1, e4.below e2⟩
section
open Go.WideShapes Go.ChangeShapes
variable {T : Type} {enc : TypeId × Value -> T} {P : Program}
theorem aqi {f : Func} {s : ChangeSpec} {ap fr ho ag : Bool} {w w' : World} {args : Array Value} {v : Value} {ds gs : List (DataW T)} {bef pa pv : List MemPlace}
    (hW : DataW.Whole enc P f.params.toList s.vars ap w args.toList ds gs bef)
    (hr : ∀ (b : Nat) (sp : Nat -> Bool) (hd : Bool), DataW.TrodAll enc P w' b sp hd f.resultTypes.toList (v.resultList f.resultTypes.size) (s.fn T (ds ++ gs)).results [])
    (ha : ∀ sp : Nat -> Bool, (∀ p ∈ bef, sp p.block = true) -> DataW.TrodAll enc P w' 0 sp true f.params.toList args.toList (s.fn T (ds ++ gs)).args pa)
    (hv : ∀ sp : Nat -> Bool, (∀ p ∈ bef, sp p.block = true) -> DataW.TrodVars enc P w' sp s.vars (s.fn T (ds ++ gs)).vars pv)
    (hp : bef = pa ++ pv) (hb : Below w.heap.size w w')
    (hok : ∀ (j : Nat) (t : TypeId) (r : Value), f.resultTypes[j]? = some t -> (v.resultList f.resultTypes.size)[j]? = some r -> Value.okWide P w' .any 0 t r) :
    s.post enc P f ap fr ho ag w args v w' := by
  have old : ∀ p ∈ bef, (fun b => decide (b < w.heap.size)) p.block = true := fun p h => by simpa using hW.lt p h
  have both : ∀ p, p ∈ bef -> p ∈ pa ++ pv := fun p h => hp ▸ h
  refine ⟨ds, gs, bef, [], pa, pv, hW, hr _ _ _, ha _ old, hv _ old, World.keptBut_mono (fun p h => ⟨h, Or.inr (by simpa using both p h)⟩) (hb.frame (· ∈ bef)), fun _ => ?_⟩
  obtain ⟨_, _, _, _, _, hz, hn⟩ := id hW; refine ⟨hok, _, _, ([] ++ pa) ++ pv, ⟨[] ++ pa, pv, trodAll_append (ha _ (fun _ _ => rfl)) (hr _ _ _), hv _ (fun _ _ => rfl), rfl, fun b k hm => ?_, fun h => ?_⟩, fun p h _ => ?_⟩
  · have hin : MemPlace.cell b k ∈ bef := by rw [hp]; simpa using hm
    rw [hb.frozen (hW.lt _ hin)]; exact hz b k hin
  · have := hn h
    rw [hp] at this; simpa using this
  · rw [hp]; simpa using h
end
end Go.Am
