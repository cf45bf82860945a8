/-
  The world at the program's start, and how listed variables are laid in it.
-/
import Derived.Lay
import Derived.Test.YtaabpahemponkaaGreatDoorProg
import Derived.KernelRfl
set_option linter.unusedVariables false
set_option linter.unusedSimpArgs false
namespace Go.Clo
open Go
def rdy (f : Func) : List Nat := (f.body.map readies).getD []
theorem cut_flat (l : List Func) (n : Nat) (h1 : (l.take n).flatMap rdy = []) (h2 : (l.drop n).flatMap rdy = []) : l.flatMap rdy = [] := by
  rw [← List.take_append_drop n l, List.flatMap_append, h1, h2]; rfl
noncomputable def heapAt (P : Program) : Array Obj :=
  (P.globals.map fun g => Obj.cells (((linked P g).getD ((((P.types[g.type]?).bind (·.zero)).map (·.cells)).getD #[]))) g.type)
    |>.push (.cells ((Array.range P.types.size).map fun t => .int .u64 (Int.ofNat t)) 0) |>.push (.map #[] 0) |>.push (.finalizers #[] none) |>.push (.cells #[.bool false] 0) |>.push (.finalizers #[] none)
theorem begin_heap {P : Program} (h : P.funcs.toList.flatMap rdy = []) (hn : P.globals.all (fun g => !(g.name == "internal/cpu.X86")) = true) (tape : Nat → Question → Nat) (os : Os) : (begin P tape os).world.heap = heapAt P := by
  have hw : waiting P = Array.replicate P.globals.size false := by
    unfold waiting
    rw [show (P.funcs.toList.flatMap fun f => (f.body.map readies).getD []) = [] from h]; rfl
  unfold begin heapAt
  dsimp only
  rw [hw]
  congr 5
  apply Array.ext
  · simp
  · intro i h1 h2
    simp only [Array.getElem_mapIdx, Array.getElem_map]
    have h0 : ((Array.replicate P.globals.size false).getD i false) = false := by
      simp only [Array.getD_eq_getD_getElem?, Array.getElem?_replicate]; split <;> rfl
    rw [h0]
    have hi : i < P.globals.size := by simpa using h2
    have := (Array.all_eq_true.1 hn) i hi
    simp only [Bool.not_eq_true'] at this
    rw [this]; rfl
noncomputable def heapUp (P : Program) : Array Obj := ((heapAt P).toList.map fun | .pending c t => .cells c t | o => o).toArray
theorem holding_eq {P : Program} (h : P.funcs.toList.flatMap rdy = []) (hn : P.globals.all (fun g => !(g.name == "internal/cpu.X86")) = true) {hp : Array Obj} (he : heapUp P = hp) (os : Os) :
    World.holding P os ⟨#[], #[], []⟩ = { (begin P (fun _ _ => 0) os).world with heap := hp } := by
  unfold World.holding World.settled
  dsimp only
  rw [begin_heap h hn, ← he]
  simp only [heapUp, Array.append_empty]
  congr 3
end Go.Clo
namespace Go.Proofs.YtaabpahemponkaaGreatDoor
open Go Go.Clo
noncomputable abbrev gs0 : List Func := Tryz.prog.funcs.toList
noncomputable abbrev gs1 : List Func := gs0.drop 100
noncomputable abbrev gs2 : List Func := gs1.drop 100
noncomputable abbrev gs3 : List Func := gs2.drop 100
noncomputable abbrev gs4 : List Func := gs3.drop 100
noncomputable abbrev gs5 : List Func := gs4.drop 100
noncomputable abbrev gs6 : List Func := gs5.drop 100
theorem rd0 : (gs0.take 100).flatMap rdy = [] := by kernel_rfl
theorem rd1 : (gs1.take 100).flatMap rdy = [] := by kernel_rfl
theorem rd2 : (gs2.take 100).flatMap rdy = [] := by kernel_rfl
theorem rd3 : (gs3.take 100).flatMap rdy = [] := by kernel_rfl
theorem rd4 : (gs4.take 100).flatMap rdy = [] := by kernel_rfl
theorem rd5 : (gs5.take 100).flatMap rdy = [] := by kernel_rfl
theorem rd6 : gs6.flatMap rdy = [] := by kernel_rfl
theorem rd_ok : Tryz.prog.funcs.toList.flatMap rdy = [] := (cut_flat _ 100 rd0 (cut_flat _ 100 rd1 (cut_flat _ 100 rd2 (cut_flat _ 100 rd3 (cut_flat _ 100 rd4 (cut_flat _ 100 rd5 rd6))))))
theorem cpu_ok : Tryz.prog.globals.all (fun g => !(g.name == "internal/cpu.X86")) = true := by kernel_rfl
end Go.Proofs.YtaabpahemponkaaGreatDoor
namespace Go.Clo
open Go
theorem layList_step {P : Program} {n : Nat} {x : String × DataW Unit} {r : List (String × DataW Unit)} {g : Nat} {t : TypeId} {y : List Value × List Obj} {z : List (Nat × List Value) × List Obj}
    (h1 : P.globalNamed x.1 = some g) (h2 : (P.globals[g]?).map (fun l => l.type) = some t) (h3 : x.2.lay P t n = some y) (h4 : Lay.layList P (n + y.2.length) r = some z) :
    Lay.layList P n (x :: r) = some ((g, y.1) :: z.1, y.2 ++ z.2) := by
  cases hg : P.globals[g]? with
  | none => rw [hg] at h2; cases h2
  | some gl =>
    rw [hg] at h2
    cases h2
    rw [Lay.layList, h1]
    dsimp only
    rw [hg]
    dsimp only
    rw [h3]
    dsimp only
    rw [h4]
theorem lay_iface {P : Program} {t u : TypeId} {n : Nat} {name : String} {d : DataW Unit} {x : List Value × List Obj} {v : Value} (ht : (match P.underlying t with | some (.interface _) => true | _ => false) = true)
    (hf : ((List.range P.types.size).find? fun u => P.typeName? 3 u == some name) = some u) (hd : d.lay P u n = some x) (hp : Lay.pack P u x.1 = some v) : (DataW.iface name d).lay P t n = some ([.iface u v], x.2) := by
  rw [DataW.lay, hf]
  split at ht
  · rename_i i hi
    rw [hi]
    dsimp only
    rw [hd]
    dsimp only
    rw [hp]
  · cases ht
theorem find_first {p : Nat → Bool} {N u : Nat} (h : p u = true) (hN : u < N) (hb : ∀ j, j < u → p j = false) : (List.range N).find? p = some u :=
  List.find?_range_eq_some.2 ⟨h, List.mem_range.2 hN, fun j hj => by rw [hb j hj]; rfl⟩
theorem none_of {p : Nat → Bool} {a n : Nat} (h : ((List.range' a n).all fun j => !p j) = true) (j : Nat) (h1 : a ≤ j) (h2 : j < a + n) : p j = false := by
  have := List.all_eq_true.1 h j (List.mem_range'_1.2 ⟨h1, h2⟩)
  simpa using this
theorem all_of {p : Nat → Bool} {a n : Nat} (h : ((List.range' a n).all p) = true) (j : Nat) (h1 : a ≤ j) (h2 : j < a + n) : p j = true :=
  List.all_eq_true.1 h j (List.mem_range'_1.2 ⟨h1, h2⟩)
theorem params_of {P : Program} {N : Nat} (hs : P.types.size = N) (h : (P.funcs.toList.all fun f => f.params.toList.all fun t => Nat.blt t N) = true) : (P.funcs.all fun f => f.params.all fun t => decide (t < P.types.size)) = true := by
  rw [← Array.all_toList, List.all_eq_true]
  intro f hf
  have h1 := List.all_eq_true.1 h f hf
  rw [← Array.all_toList, List.all_eq_true]
  intro t ht
  have h2 : Nat.blt t N = true := List.all_eq_true.1 h1 t ht
  rw [hs]
  exact decide_eq_true (Nat.le_of_ble_eq_true h2)
theorem and_tt {a b : Bool} (ha : a = true) (hb : b = true) : (a && b) = true := by rw [ha, hb]; rfl
theorem beq_tt {α : Type} [BEq α] [LawfulBEq α] {a b : α} (h : b = a) : (a == b) = true := by rw [h]; exact beq_self_eq_true a
def slcFine (P : Program) (t : Nat) : Bool := match P.underlying t with | some (.slice e) => decide (0 < P.cellsOf e) | _ => true
section
variable {P : Program} {w w' : World} {l : List (String × DataW Unit)} {B : List Nat} {n : Nat} {y : List (Nat × List Value) × List Obj}
theorem layFits_of (hs : w.heap.size = n) (hy : Lay.layList P n l = some y) (h1 : decide (y.1.map (·.1)).Nodup = true) (h2 : (y.1.all fun r => Lay.isRow w.heap.toList[r.1]? && !B.contains r.1) = true) (h3 : B.all (· < w.heap.size) = true) : w.layFits P l B = true := by
  subst hs
  unfold World.layFits
  rw [hy]
  exact and_tt (and_tt h1 h2) h3
theorem layVars_of (hs : w.heap.size = n) (hy : Lay.layList P n l = some y) : w.layVars P l = { w with heap := ⟨Lay.setRows w.heap.toList y.1 ++ y.2⟩ } := by
  subst hs
  unfold World.layVars
  rw [hy]
theorem layIfaces_of (hs : w.heap.size = n) (hy : Lay.layList P n l = some y) (h1 : (y.1.all fun r => r.2.all (Lay.okV P w')) = true) (h2 : y.2.all (Lay.okO P w') = true) : w.layIfaces P l w' = true := by
  subst hs
  unfold World.layIfaces
  rw [hy]
  exact and_tt h1 h2
end
end Go.Clo
