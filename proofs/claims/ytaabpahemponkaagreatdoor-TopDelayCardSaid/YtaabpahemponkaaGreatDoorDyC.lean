/-
  The executor is right about operations, first part.
-/
import Derived.Test.YtaabpahemponkaaGreatDoorDyB
import Derived.Laws.Pointers
import Derived.Laws.Small
import Derived.WideLaws
import Derived.WalkSpells
import Derived.Laws.Cover3
set_option linter.unusedVariables false
set_option linter.unusedSimpArgs false
namespace Go.Ex
open Go Go.Am
theorem strOf (s : ByteArray) : (⟨s.data.toList.toArray⟩ : ByteArray) = s := by cases s; simp
theorem rep_norm1 {g : Gh} (v : Value) : Rep g (norm1 v) v := by
  cases v <;> simp only [norm1, Rep]
theorem repL_norm1 {g : Gh} : ∀ l : List Value, RepL g (l.map norm1) l
  | [] => by simp only [List.map_nil, RepL]
  | v :: l => by simp only [List.map_cons, RepL]; exact ⟨v, l, rfl, rep_norm1 v, repL_norm1 l⟩
theorem rep_norm {g : Gh} (v : Value) : Rep g (norm v) v := by
  cases v with
  | agg cs => simp only [norm, Rep]; exact ⟨cs, rfl, repL_norm1 _⟩
  | tuple cs => simp only [norm, Rep]; exact ⟨cs, rfl, repL_norm1 _⟩
  | string s => simp only [norm, Rep]
  | _ => simp only [norm, Rep]
def FdOk (P : Program) (fields : Array Field) (f : Nat) (fd : Fd) : Prop :=
  ∃ F, fields[f]? = some F ∧ F.offset = fd.off ∧ (∀ w, (sizeOf F.type).run P w = .ok fd.sz w) ∧ (∀ w, (isAgg F.type).run P w = .ok fd.agg w) ∧ (P.info? F.type).map (fun i => decide (i.size = 0)) = some (decide (fd.sz = 0))
def ElOk (P : Program) (e sz by_ : Nat) (z : List AV) : Prop :=
  ∃ zv, (P.info? e).map (fun i => (i.zero, i.size, i.bytes)) = some (some zv, sz, by_) ∧ zv.cells.size = sz ∧ z = zv.cells.toList.map norm1 ∧ z.all AV.one1 = true
def zOf (agg : Bool) (z : List AV) : Option AV := if agg then some (.agg z) else match z with
  | [x] => some x
  | _ => none
def TDOk (P : Program) (t : TypeId) : TD → Prop
  | .int k => P.underlying t = some (.int k)
  | .str => P.underlying t = some .string
  | .slice sz by_ z => ∃ e, P.underlying t = some (.slice e) ∧ ElOk P e sz by_ z ∧ (∀ q, z = [.raw (.int .u8 q)] → P.underlying e = some (.int .u8))
  | .arr len sz g => ∃ e, P.underlying t = some (.array len e) ∧ (∀ w, (sizeOf e).run P w = .ok sz w) ∧ ∀ w, (isAgg e).run P w = .ok g w
  | .parr len sz => ∃ p e, P.underlying t = some (.pointer p) ∧ P.underlying p = some (.array len e) ∧ ∀ w, (sizeOf e).run P w = .ok sz w
  | .map key agg z => ∃ k e zv, P.underlying t = some (.map k e) ∧ (match key with | none => P.underlying k = some .string | some ik => P.underlying k = some (.int ik)) ∧ (∀ w, (zeroValue e).run P w = .ok zv w) ∧ zOf agg z = some (norm zv)
  | .struct fs => ∃ fields, P.underlying t = some (.struct fields) ∧ (∀ f fd, fs[f]? = some fd → FdOk P fields f fd) ∧ fs.length = fields.size
  | .bool => P.underlying t = some .bool
  | .ptr => P.underlying t = some (.pointer (P.pointee t))
  | .func => True
  | .iface => P.underlying t = some (.interface (P.methodsAt t))
  | .bld => True
  | .other => True
structure TyOk (P : Program) (t : TypeId) (i : TI) : Prop where
  agg : ∀ w, (isAgg t).run P w = .ok i.agg w
  size : ∀ w, (sizeOf t).run P w = .ok i.sz w
  zero : ∃ zv, (∀ w, (zeroValue t).run P w = .ok zv w) ∧ i.z = zv.cells.toList.map norm1 ∧ zv.cells.size = i.sz
  zone : i.z.all AV.one1 = true
  known : (P.underlying t).isSome = true
  d : TDOk P t i.d
  q : i.q = [] ∨ EqT P t i.q
theorem isOne_spec {x : AV} (h : isOne x = true) : x.one1 = true := by
  cases x with
  | unk => exact absurd h (by decide)
  | agg xs => exact absurd h (by simp [isOne])
  | tup xs => exact absurd h (by simp [isOne])
  | raw v => cases v <;> first | rfl | exact absurd h (by simp [isOne, vOne])
  | _ => rfl
theorem ones_spec : ∀ {xs : List AV}, ones xs = true → xs.all AV.one1 = true
  | [], _ => rfl
  | x :: xs, h => by
    have h' : ifb (isOne x) (ones xs) false = true := h
    rcases ifb_cases (Good := fun b => b = true) h' with ⟨h1, h2⟩ | ⟨_, h2⟩
    · simp only [List.all_cons, isOne_spec h1, ones_spec h2, Bool.and_self]
    · cases h2
theorem vcells_parts (x : AV) (h : ones (vcells x) = true) : x.parts = vcells x := by
  cases x with
  | raw v => cases v <;> first | rfl | exact absurd h (by simp [vcells, ones, listRec, isOne, vOne, ifb])
  | _ => rfl
theorem cel_ao (xs : List AV) : (cel xs).ao = .cel xs := by
  show AO.cel _ = _
  congr 1
  apply List.ext_getElem?
  intro k
  rw [seg_get, Nat.zero_add, get_putL]
  by_cases h : k < xs.length
  · rw [if_pos h, if_pos (by omega), Nat.sub_zero, List.getElem?_eq_getElem h]; rfl
  · rw [if_neg h, List.getElem?_eq_none (by omega)]
section
variable {ρ : Type} {Good : ρ → Prop} {P : Program} {n : Nat}
def OpOk (Good : ρ → Prop) (P : Program) (n : Nat) (E : Env ρ) (o : Oper) (f : OpF ρ) : Prop :=
  ∀ R H a k, Good (f E R H a k) → ∃ x H' b, OpS P n o R H a x H' b ∧ Good (k x H' b)
theorem ev_rep {R : T AV} {H : AHeap} {g : Gh} {a : Act} {w : World} (hp : XPre n R H g a w) (x : Operand) : Rep g (ev x R) (a.eval x) := by
  cases x with
  | tmp t => exact hp.regs t
  | const v => exact rep_norm v
  | global g' => simp only [ev, Act.eval, Rep]
  | func f => simp only [ev, Act.eval, Rep]; exact ⟨#[], #[], rfl, by simp only [RepL], by simp only [RepL]⟩
theorem ev_is {R : T AV} {H : AHeap} {g : Gh} {a : Act} {w : World} (hp : XPre n R H g a w) {x : Operand} {v : AV} (h : ev x R = v) : Rep g v (a.eval x) := h ▸ ev_rep hp x
theorem hof_get {H : T XO} {o : Nat} {x : XO} (h : H.get o = some x) : hof H o = some x.ao := by show (H.get o).map XO.ao = _; rw [h]; rfl
theorem join_get {H : T XO} {F : AHeap} {o : Nat} {x : XO} (h : H.get o = some x) : join (hof H) F o = some x.ao := join_some (hof_get h)
variable {E : Env ρ} {o : Oper} (hb : ¬ Good E.bad) (hty : ∀ t i, E.ty.get t = some i → TyOk P t i)
theorem ok_move {x : Operand} (ho : o.op = .move x ∨ o.op = .assign x) : OpOk Good P n E o (oMove x) := fun R H a k h =>
  ⟨_, H, a, opS_pure fun F g act w _ hp => ⟨act.eval x, by rcases ho with ho | ho <;> simp [execOp, ho], ev_rep hp x⟩, h⟩
include hb in
theorem ok_pick {c x y : Operand} (ho : o.op = .pick c x y) : OpOk Good P n E o (oPick c x y) := fun R H a k h => by
  rcases asBool_cases h with ⟨b, hc, h⟩ | h
  · refine ⟨_, H, a, opS_pure fun F g act w _ hp => ?_, h⟩
    have h1 := ev_is hp hc
    simp only [Rep] at h1
    refine ⟨if b then act.eval x else act.eval y, by simp [execOp, ho, h1, Go.asBool], ?_⟩
    cases b
    · exact ev_rep hp y
    · exact ev_rep hp x
  · exact absurd h hb
include hb in
theorem ok_nilCheck {x : Operand} (ho : o.op = .nilCheck x) : OpOk Good P n E o (oNilCheck x) := fun R H a k h => by
  rcases asPtr_cases h with ⟨ob, j, hx, h⟩ | h
  · refine ⟨_, H, a, opS_pure fun F g act w _ hp => ?_, h⟩
    have hv := ev_is hp hx
    have hv' := hv
    simp only [Rep] at hv
    obtain ⟨l, hl, he⟩ := hv
    exact ⟨act.eval x, by simp [execOp, ho, he], hv'⟩
  · rcases asPce_cases h with ⟨xs, j, hx, h⟩ | h
    · refine ⟨_, H, a, opS_pure fun F g act w _ hp => ?_, h⟩
      have hv := ev_is hp hx
      have hv' := hv
      simp only [Rep] at hv
      obtain ⟨b, off, c, e, fz, he, h2, h3⟩ := hv
      exact ⟨act.eval x, by simp [execOp, ho, he], hv'⟩
    · exact absurd h hb
theorem run_fieldAt' {s f : Nat} {fields : Array Field} {fd : Fd} (hu : P.underlying s = some (.struct fields)) (hf : FdOk P fields f fd) (h0 : fd.sz ≠ 0) (b k : Nat) (w : World) :
    (Instr.fieldAt s (.pointer (some ⟨b, k, none⟩)) f).run P w = .ok (.pointer (some ⟨b, k + fd.off, none⟩)) w := by
  obtain ⟨F, h1, h2, h3, h4, h5⟩ := hf
  haveI : FldT P s f fd.off := ⟨fields, F, hu, h1, h2, by rw [h5]; simp [h0]⟩
  exact run_fieldAt b k w
include hb hty in
theorem ok_fieldAddr {t : TypeId} {x : Operand} {f : Nat} (ho : o.op = .fieldAddr t x f) : OpOk Good P n E o (oFieldAddr t x f) := fun R H a k h => by
  rcases onSome_cases h with ⟨i, hi, h⟩ | ⟨_, h⟩
  rotate_left
  · exact absurd h hb
  have T := (hty t i hi).d
  rcases tyStruct_cases h with ⟨fs, hd, h⟩ | h
  rotate_left
  · exact absurd h hb
  rw [hd] at T
  obtain ⟨fields, hu, hf, _⟩ := T
  rcases onSome_cases h with ⟨fd, hfd, h⟩ | ⟨_, h⟩
  rotate_left
  · exact absurd h hb
  rw [nth_eq] at hfd
  have hf := hf f fd hfd
  rcases ifb_cases h with ⟨_, h⟩ | ⟨h0, h⟩
  · exact absurd h hb
  have h0 := Nat.ne_of_beq_eq_false h0
  rcases asPtr_cases h with ⟨ob, j, hx, h⟩ | h
  · refine ⟨_, H, a, opS_pure fun F g act w _ hp => ?_, h⟩
    have hv := ev_is hp hx
    simp only [Rep] at hv
    obtain ⟨l, hl, he⟩ := hv
    exact ⟨.pointer (some ⟨l.blk, l.base + j + fd.off, none⟩), by simp [execOp, ho, he, run_fieldAt' (P := P) hu hf h0], by simp only [Rep]; exact ⟨l, hl, by rw [Nat.add_assoc]⟩⟩
  · rcases asPce_cases h with ⟨xs, j, hx, h⟩ | h
    · refine ⟨_, H, a, opS_pure fun F g act w _ hp => ?_, h⟩
      have hv := ev_is hp hx
      simp only [Rep] at hv
      obtain ⟨b, off, c, e, fz, he, h2⟩ := hv
      exact ⟨.pointer (some ⟨b, off + j + fd.off, none⟩), by simp [execOp, ho, he, run_fieldAt' (P := P) hu hf h0], by simp only [Rep]; exact ⟨b, off, c, e, fz, by rw [Nat.add_assoc], h2⟩⟩
    · exact absurd h hb
theorem repL_cut {g : Gh} {xs : List AV} {l : List Value} (h : RepL g xs l) (k m : Nat) : RepL g ((xs.drop k).take m) ((l.drop k).take m) := by
  rw [repL_iff] at h ⊢
  refine ⟨by simp [h.1], fun i x hi => ?_⟩
  rw [List.getElem?_take] at hi ⊢
  split at hi
  · rename_i hlt
    rw [if_pos hlt]
    rw [List.getElem?_drop] at hi ⊢
    exact h.2 _ x hi
  · cases hi
include hb hty in
theorem ok_field {t : TypeId} {x : Operand} {f : Nat} (ho : o.op = .field t x f) : OpOk Good P n E o (oField t x f) := fun R H a k h => by
  rcases onSome_cases h with ⟨i, hi, h⟩ | ⟨_, h⟩
  rotate_left
  · exact absurd h hb
  have T := (hty t i hi).d
  rcases tyStruct_cases h with ⟨fs, hd, h⟩ | h
  rotate_left
  · exact absurd h hb
  rw [hd] at T
  obtain ⟨fields, hu, hf, _⟩ := T
  rcases onSome_cases h with ⟨fd, hfd, h⟩ | ⟨_, h⟩
  rotate_left
  · exact absurd h hb
  rw [nth_eq] at hfd
  obtain ⟨F, h1, h2, h3, h4, h5⟩ := hf f fd hfd
  rcases asAgg_cases h with ⟨xs, hx, h⟩ | h
  rotate_left
  · exact absurd h hb
  rcases ifb_cases h with ⟨hle, h⟩ | ⟨_, h⟩
  rotate_left
  · exact absurd h hb
  have hle := Nat.le_of_ble_eq_true hle
  rcases aggOf_cases h with ⟨hA, h⟩ | ⟨y, hA, hy, h⟩ | h
  rotate_left 2
  · exact absurd h hb
  · refine ⟨_, H, a, opS_pure fun F' g act w _ hp => ?_, h⟩
    have hv := ev_is hp hx
    simp only [Rep] at hv
    obtain ⟨ar, he, hr⟩ := hv
    have hl := repL_length _ _ hr
    rw [Array.length_toList] at hl
    refine ⟨.agg (ar.extract fd.off (fd.off + fd.sz)), ?_, ?_⟩
    · simp [execOp, ho, he, Instr.field, run_underlying hu, h1, h2, part, h4, hA, Go.asAgg, h3, hl, hle]
    · simp only [Rep]
      refine ⟨_, rfl, ?_⟩
      have := repL_cut hr fd.off fd.sz
      rwa [show (ar.extract fd.off (fd.off + fd.sz)).toList = (ar.toList.drop fd.off).take fd.sz from by simp]
  · refine ⟨_, H, a, opS_pure fun F' g act w _ hp => ?_, h⟩
    have hv := ev_is hp hx
    simp only [Rep] at hv
    obtain ⟨ar, he, hr⟩ := hv
    have hy' : xs[fd.off]? = some y := by
      have := congrArg (fun l => l[0]?) hy
      simp only [List.getElem?_take, List.getElem?_drop] at this
      split at this
      · simpa using this
      · simp at this
    obtain ⟨u, hu', hr'⟩ := ((repL_iff _ _).1 hr).2 _ y hy'
    rw [Array.getElem?_toList] at hu'
    exact ⟨u, by simp [execOp, ho, he, Instr.field, run_underlying hu, h1, h2, part, h4, hA, Go.asAgg, hu'], hr'⟩
end
end Go.Ex
namespace Go.Ex
open Go Go.Am
section
variable {ρ : Type} {Good : ρ → Prop} {P : Program} {n : Nat}
variable {E : Env ρ} {o : Oper} (hb : ¬ Good E.bad) (hty : ∀ t i, E.ty.get t = some i → TyOk P t i)
theorem seg_cut (t : T AV) (m k s : Nat) (h : k + s ≤ m) : ((t.seg .unk 0 m).drop k).take s = t.seg .unk k s := by
  rw [seg_drop _ _ _ _ _ (by omega), seg_take _ _ _ _ _ (by omega), Nat.zero_add]
include hb hty in
theorem ok_load {t : TypeId} {x : Operand} (ho : o.op = .load t x) : OpOk Good P n E o (oLoad t x) := fun R H a k h => by
  rcases onSome_cases h with ⟨i, hi, h⟩ | ⟨_, h⟩
  rotate_left
  · exact absurd h hb
  have T := hty t i hi
  rcases asPtr_cases h with ⟨ob, j, hx, h⟩ | h
  · rcases atCel_cases h with ⟨m, c, hH, h⟩ | h
    rotate_left
    · exact absurd h hb
    rcases ifb_cases h with ⟨hle, h⟩ | ⟨_, h⟩
    rotate_left
    · exact absurd h hb
    have hle := Nat.le_of_ble_eq_true hle
    rcases aggOf_cases h with ⟨hA, h⟩ | ⟨y, hA, hy, h⟩ | h
    rotate_left 2
    · exact absurd h hb
    · refine ⟨_, H, a, opS_pure fun F g act w _ hp => ?_, h⟩
      have hv := ev_is hp hx
      simp only [Rep] at hv
      obtain ⟨l, hl, he⟩ := hv
      obtain ⟨cv, e, fz, h1, h2, h3, h4⟩ := row_of hp.sim (join_get hH) (fun _ h => by cases h) hl
      have hr : RepAt g (c.seg .unk j i.sz) cv (l.base + j) := by rw [← seg_cut c m j i.sz hle]; exact repAt_take (repAt_drop h4.2 j) i.sz
      have hsz := h4.1
      rw [seg_length] at hsz
      haveI : AggT P t i.sz := ⟨by rw [← hA]; exact T.agg, T.size⟩
      refine ⟨.agg ((cv.toList.drop (l.base + j)).take i.sz).toArray, by simp [execOp, ho, he, run_loadAt_agg (P := P) (t := t) (m := i.sz) h1 (k := l.base + j) (by omega)], ?_⟩
      simp only [Rep]
      exact ⟨_, rfl, by simpa using repL_seg hr (seg_length _ _ _ _)⟩
    · refine ⟨_, H, a, opS_pure fun F g act w _ hp => ?_, h⟩
      have hv := ev_is hp hx
      simp only [Rep] at hv
      obtain ⟨l, hl, he⟩ := hv
      obtain ⟨cv, e, fz, h1, h2, h3, h4⟩ := row_of hp.sim (join_get hH) (fun _ h => by cases h) hl
      have hs1 : i.sz = 1 := by have := congrArg List.length hy; rw [seg_length] at this; simpa using this
      haveI : CellT P t := ⟨by rw [← hA]; exact T.agg, by rw [← hs1]; exact T.size⟩
      have hg : (c.seg .unk 0 m)[j]? = some y := by
        have := congrArg (fun l => l[0]?) hy
        rw [← seg_cut c m j i.sz hle] at this
        simp only [List.getElem?_take, List.getElem?_drop] at this
        rw [if_pos (by omega)] at this
        simpa using this
      obtain ⟨u, hu, _, hr⟩ := (repAt_iff _ _ _).1 h4.2 j y hg
      exact ⟨u, by simp [execOp, ho, he, run_loadAt_cell (P := P) (t := t) ((cell_at h1).trans hu)], hr⟩
  · rcases asPce_cases h with ⟨xs, j, hx, h⟩ | h
    rotate_left
    · exact absurd h hb
    rcases ifb_cases h with ⟨hle, h⟩ | ⟨_, h⟩
    rotate_left
    · exact absurd h hb
    have hle := Nat.le_of_ble_eq_true hle
    rcases ifb_cases h with ⟨_, h⟩ | ⟨h0, h⟩
    · exact absurd h hb
    have h0 := Nat.ne_of_beq_eq_false h0
    rcases aggOf_cases h with ⟨hA, h⟩ | ⟨y, hA, hy, h⟩ | h
    rotate_left 2
    · exact absurd h hb
    · refine ⟨_, H, a, opS_pure fun F g act w _ hp => ?_, h⟩
      have hv := ev_is hp hx
      simp only [Rep] at hv
      obtain ⟨b, off, c, e, fz, he, h2, h3⟩ := hv
      haveI : AggT P t i.sz := ⟨by rw [← hA]; exact T.agg, T.size⟩
      have hlen : ((xs.drop j).take i.sz).length = i.sz := by simp; omega
      have hr : RepAt g ((xs.drop j).take i.sz) c (off + j) := repAt_take (repAt_drop h3 j) i.sz
      obtain ⟨u, hu, _⟩ := (repAt_iff _ _ _).1 hr (i.sz - 1) _ (List.getElem?_eq_getElem (by omega))
      have hsz := (Array.getElem?_eq_some_iff.1 hu).1
      refine ⟨.agg ((c.toList.drop (off + j)).take i.sz).toArray, by simp [execOp, ho, he, run_loadAt_agg (P := P) (t := t) (m := i.sz) (hp.sim.sealed _ _ h2) (k := off + j) (by omega)], ?_⟩
      simp only [Rep]
      exact ⟨_, rfl, by simpa using repL_seg hr hlen⟩
    · refine ⟨_, H, a, opS_pure fun F g act w _ hp => ?_, h⟩
      have hv := ev_is hp hx
      simp only [Rep] at hv
      obtain ⟨b, off, c, e, fz, he, h2, h3⟩ := hv
      have hs1 : i.sz = 1 := by have := congrArg List.length hy; simp at this; omega
      haveI : CellT P t := ⟨by rw [← hA]; exact T.agg, by rw [← hs1]; exact T.size⟩
      have hg : xs[j]? = some y := by
        have := congrArg (fun l => l[0]?) hy
        simp only [List.getElem?_take, List.getElem?_drop] at this
        rw [if_pos (by omega)] at this
        simpa using this
      obtain ⟨u, hu, _, hr⟩ := (repAt_iff _ _ _).1 h3 j y hg
      exact ⟨u, by simp [execOp, ho, he, run_loadAt_cell (P := P) (t := t) ((cell_at (hp.sim.sealed _ _ h2)).trans hu)], hr⟩
theorem sim_new {g : Gh} {H : AHeap} {w w' : World} {a : Nat} {y : AO} {c : Array Value} {e : TypeId} {fz : Nat × Nat} (hs : Sim g H w) (hw : Same w w') (hh : w'.heap = w.heap.push (.cells c e fz)) (hu : Unfrozen c fz) (hl : g.loc a = none) (hx : RepC g y c 0) :
    ∃ g', Ext g g' a (a + 1) ∧ g'.loc a = some ⟨w.heap.size, 0, c.size⟩ ∧ Sim g' (H.set a y) w' :=
  ⟨_, ⟨g.le_at hl ⟨w.heap.size, 0, c.size⟩, fun p hp => by simp [Gh.at]; omega⟩, Gh.at_self _ _ _, hs.new hw hh hu hl hx⟩
include hb in
theorem ok_box {t : TypeId} {x : Operand} (ho : o.op = .box t x) : OpOk Good P n E o (oBox t x) := fun R H a k h => by
  rcases ifb_cases h with ⟨h1, h⟩ | ⟨_, h⟩
  rotate_left
  · exact absurd h hb
  refine ⟨_, _, _, opS_new fun F g act w hd hp hl => ?_, h⟩
  have hr := rep_parts (ev_rep hp x) (by rw [vcells_parts _ h1]; exact ones_spec h1)
  rw [vcells_parts _ h1] at hr
  have hat := repAt_of_repL hr (ones_spec h1)
  have hlen := repL_length _ _ hr
  obtain ⟨g', e1, e2, e3⟩ := sim_new (w' := w.alloc (.cells (act.eval x).cells t)) (y := (cel (vcells (ev x R))).ao) hp.sim ⟨rfl, rfl, rfl⟩ rfl (unfrozen00 _) hl (by rw [cel_ao]; exact ⟨by simp at hlen; omega, by simpa using hat⟩)
  exact ⟨.pointer (some ⟨w.heap.size, 0, none⟩), _, g', by simp [execOp, ho, Instr.box, newVar, newRow], e1, by simp only [Rep]; exact ⟨_, e2, by simp⟩, e3⟩
include hb hty in
theorem ok_alloc {t : TypeId} (ho : o.op = .alloc t) : OpOk Good P n E o (oAlloc t) := fun R H a k h => by
  rcases onSome_cases h with ⟨i, hi, h⟩ | ⟨_, h⟩
  rotate_left
  · exact absurd h hb
  have T := hty t i hi
  obtain ⟨zv, hz, hz2, hz3⟩ := T.zero
  rcases tyBld_cases h with ⟨_, h⟩ | h
  · refine ⟨_, _, _, opS_new fun F g act w hd hp hl => ?_, h⟩
    have hr : RepL g i.z zv.cells.toList := by rw [hz2]; exact repL_norm1 _
    have hat := repAt_of_repL hr T.zone
    have hlen := repL_length _ _ hr
    have hle := g.le_at hl ⟨w.heap.size, 0, zv.cells.size⟩
    have hsz : i.z.length = zv.cells.size := by rw [← hlen]; simp
    have hself := Gh.at_self g a ⟨w.heap.size, 0, zv.cells.size⟩
    have hsim := hp.sim.newO (w' := w.alloc (.cells zv.cells t)) (ob := .cells zv.cells t) (o := a) (sz := zv.cells.size) (x := tclO t true i.z) ⟨rfl, rfl, rfl⟩ rfl hl
      (.inr (.inr (.inr ⟨⟨w.heap.size, 0, zv.cells.size⟩, .cells zv.cells t, hself, Array.getElem?_push_size, .inl ⟨t, true, i.z, zv.cells, rfl, rfl, rfl, rfl, ⟨Nat.le_of_eq hsz, fun _ => hsz⟩, RepAt.mono hle _ _ _ (by simpa using hat)⟩⟩)))
    exact ⟨.pointer (some ⟨w.heap.size, 0, none⟩), _, _, by simp [execOp, ho, Instr.alloc, hz, newVar, newRow], ⟨hle, fun p hp => by simp [Gh.at]; omega⟩, by simp only [Rep]; exact ⟨_, hself, rfl⟩, hsim⟩
  refine ⟨_, _, _, opS_new fun F g act w hd hp hl => ?_, h⟩
  have hr : RepL g i.z zv.cells.toList := by rw [hz2]; exact repL_norm1 _
  have hat := repAt_of_repL hr T.zone
  have hlen := repL_length _ _ hr
  obtain ⟨g', e1, e2, e3⟩ := sim_new (w' := w.alloc (.cells zv.cells t)) (y := (cel i.z).ao) hp.sim ⟨rfl, rfl, rfl⟩ rfl (unfrozen00 _) hl (by rw [cel_ao]; exact ⟨by simp at hlen; omega, by simpa using hat⟩)
  exact ⟨.pointer (some ⟨w.heap.size, 0, none⟩), _, g', by simp [execOp, ho, Instr.alloc, hz, newVar, newRow], e1, by simp only [Rep]; exact ⟨_, e2, by simp⟩, e3⟩
theorem putL_cells (c : T AV) (m k : Nat) (ys : List AV) (h : k + ys.length ≤ m) : (c.putL k ys).seg .unk 0 m = Am.putAt (c.seg .unk 0 m) k ys := by
  apply List.ext_getElem?
  intro i
  rw [seg_get, Nat.zero_add, get_putL]
  unfold Am.putAt
  by_cases h1 : i < k
  · rw [List.append_assoc, List.getElem?_append_left (by simp [seg_length]; omega), List.getElem?_take, if_pos h1, seg_get, Nat.zero_add]
    simp only [show ¬ (k ≤ i ∧ i < k + ys.length) from by omega, if_false]
  · by_cases h2 : i < k + ys.length
    · rw [List.append_assoc, List.getElem?_append_right (by simp [seg_length]; omega), List.getElem?_append_left (by simp [seg_length]; omega)]
      simp only [List.length_take, seg_length, Nat.min_eq_left (show k ≤ m by omega), show (k ≤ i ∧ i < k + ys.length) from by omega, if_true, and_self]
      rw [if_pos (by omega), List.getElem?_eq_getElem (by omega)]
      rfl
    · rw [List.getElem?_append_right (by simp [seg_length]; omega), List.getElem?_drop, seg_get, Nat.zero_add]
      simp only [List.length_append, List.length_take, seg_length, Nat.min_eq_left (show k ≤ m by omega), show ¬ (k ≤ i ∧ i < k + ys.length) from by omega, if_false]
      rw [show k + ys.length + (i - (k + ys.length)) = i from by omega]
include hb hty in
theorem ok_store {t : TypeId} {x v : Operand} (ho : o.op = .store t x v) : OpOk Good P n E o (oStore t x v) := fun R H a k h => by
  rcases onSome_cases h with ⟨i, hi, h⟩ | ⟨_, h⟩
  rotate_left
  · exact absurd h hb
  have T := hty t i hi
  rcases asPtr_cases h with ⟨ob, j, hx, h⟩ | h
  rotate_left
  · exact absurd h hb
  rcases atCel_cases h with ⟨m, c, hH, h⟩ | h
  rotate_left
  · exact absurd h hb
  rcases ifb_cases h with ⟨h1, h⟩ | ⟨_, h⟩
  rotate_left
  · exact absurd h hb
  rcases ifb_cases h with ⟨hle, h⟩ | ⟨_, h⟩
  rotate_left
  · exact absurd h hb
  have hle := Nat.le_of_ble_eq_true hle
  rcases ifb_cases h with ⟨hs, h⟩ | ⟨_, h⟩
  rotate_left
  · exact absurd h hb
  have hs := Nat.eq_of_beq_eq_true hs
  refine ⟨_, _, _, opS_put (by rw [hof_get hH]; rfl) fun F g act w hd hp => ?_, h⟩
  have hv := ev_is hp hx
  have hu := ev_rep hp v
  have hr := rep_parts hu (by rw [vcells_parts _ h1]; exact ones_spec h1)
  rw [vcells_parts _ h1] at hr
  have hlen := repL_length _ _ hr
  simp only [Rep] at hv
  obtain ⟨l, hl, he⟩ := hv
  obtain ⟨cv, e, fz, k1, k2, k3, k4⟩ := row_of hp.sim (join_get hH) (fun _ h => by cases h) hl
  have hfit := k4.1
  rw [seg_length] at hfit
  generalize hys : vcells (ev v R) = ys at *
  have hone : ∀ u ∈ (act.eval v).cells.toList, one u := fun u hu => by
    obtain ⟨q, hq, rfl⟩ := List.getElem_of_mem hu
    obtain ⟨u', hu', hr'⟩ := ((repL_iff _ _).1 hr).2 q _ (List.getElem?_eq_getElem (by omega))
    rw [List.getElem?_eq_getElem hq] at hu'
    cases hu'
    exact rep_one (List.all_eq_true.1 (ones_spec h1) _ (List.getElem_mem _)) hr'
  obtain ⟨c', q1, q2, q3, q4⟩ := run_storeCells_row (P := P) (act.eval v).cells.toList 0 (w := w) (b := l.blk) (off := l.base + j) k1 k3 (by rw [hlen]; omega) hone
  simp only [Nat.add_zero] at q3 q4
  refine ⟨w.setRow l.blk c', ?_, hp.sim.write (same_setRow _ _ _) (join_get hH) hl (fun b hb => setRow_other w _ _ _ hb) (heap_setRow k1) (by omega) (fun j hj => k3 j (by omega)) ?_⟩
  · have hsz : (act.eval v).cells.size = i.sz := by rw [← Array.length_toList, hlen, hs]
    simp [execOp, ho, he, Instr.storeAt, Instr.sureAddr, storeVar, T.size, hsz, q1]
  · show RepC g (.cel ((c.putL j ys).seg .unk 0 m)) c' l.base
    rw [putL_cells c m j ys hle]
    refine ⟨by simp [Am.putAt, seg_length]; omega, ?_⟩
    rw [repAt_iff]
    intro q z hq
    have hlt := (List.getElem?_eq_some_iff.1 hq).1
    have hall := (repAt_iff _ _ _).1 k4.2
    simp only [Am.putAt] at hq hlt
    by_cases c1 : q < j
    · rw [List.append_assoc, List.getElem?_append_left (by simp [seg_length]; omega), List.getElem?_take, if_pos c1] at hq
      rw [q3 _ (.inl (by omega))]
      exact hall q z hq
    · by_cases c2 : q < j + ys.length
      · rw [List.append_assoc, List.getElem?_append_right (by simp [seg_length]; omega), List.getElem?_append_left (by simp [seg_length]; omega)] at hq
        have hmin : ((c.seg .unk 0 m).take j).length = j := by simp [seg_length]; omega
        rw [hmin] at hq
        obtain ⟨u, hu', hr'⟩ := ((repL_iff _ _).1 hr).2 _ z hq
        refine ⟨u, ?_, rep_one (List.all_eq_true.1 (ones_spec h1) z (List.mem_of_getElem? hq)) hr', hr'⟩
        have := q4 (q - j) (by omega)
        rw [show l.base + j + (q - j) = l.base + q from by omega] at this
        rw [this]; exact hu'
      · rw [List.getElem?_append_right (by simp [seg_length]; omega)] at hq
        have hmin : ((c.seg .unk 0 m).take j ++ ys).length = j + ys.length := by simp [seg_length]; omega
        rw [hmin, List.getElem?_drop] at hq
        rw [q3 _ (.inr (by omega))]
        have := hall _ z hq
        rwa [show j + ys.length + (q - (j + ys.length)) = q from by omega] at this
end
end Go.Ex
namespace Go.Ex
open Go Go.Am
section
variable {ρ : Type} {Good : ρ → Prop} {P : Program} {n : Nat}
variable {E : Env ρ} {o : Oper} (hb : ¬ Good E.bad) (hty : ∀ t i, E.ty.get t = some i → TyOk P t i)
include hb in
theorem ok_extract {x : Operand} {i : Nat} (ho : o.op = .extract x i) : OpOk Good P n E o (oExtract x i) := fun R H a k h => by
  rcases asTup_cases h with ⟨xs, hx, h⟩ | h
  rotate_left
  · exact absurd h hb
  rcases onSome_cases h with ⟨y, hy, h⟩ | ⟨_, h⟩
  rotate_left
  · exact absurd h hb
  rw [nth_eq] at hy
  refine ⟨_, H, a, opS_pure fun F g act w _ hp => ?_, h⟩
  have h1 := ev_is hp hx
  simp only [Rep] at h1
  obtain ⟨ar, he, hr⟩ := h1
  obtain ⟨u, hu, hr'⟩ := ((repL_iff _ _).1 hr).2 i y hy
  rw [Array.getElem?_toList] at hu
  exact ⟨u, by simp [execOp, ho, he, Instr.extract, hu], hr'⟩
include hb in
theorem ok_unOp {op : UnOp} {t : TypeId} {x : Operand} (ho : o.op = .unOp op t x) : OpOk Good P n E o (oUnOp op t x) := fun R H a k h => by
  cases op with
  | not =>
    rcases asBool_cases (f := fun b => k (.raw (.bool (notB b))) H a) (z := E.bad) h with ⟨b, hx, h⟩ | h
    rotate_left
    · exact absurd h hb
    refine ⟨_, H, a, opS_pure fun F g act w _ hp => ?_, h⟩
    have h1 := ev_is hp hx
    simp only [Rep] at h1
    exact ⟨.bool (!b), by simp [execOp, ho, h1, Op.unary], by simp only [Rep]; cases b <;> rfl⟩
  | neg =>
    rcases asInt_cases (f := fun q m => k (.raw (.int q (q.wrap (0 - m)))) H a) (z := E.bad) h with ⟨q, m, hx, h⟩ | h
    rotate_left
    · exact absurd h hb
    refine ⟨_, H, a, opS_pure fun F g act w _ hp => ?_, h⟩
    have h1 := ev_is hp hx
    simp only [Rep] at h1
    exact ⟨.int q (q.wrap (0 - m)), by simp [execOp, ho, h1, Op.unary, Op.intArith], by simp only [Rep]⟩
  | xor =>
    rcases asInt_cases (f := fun q m => k (.raw (.int q (bits .xor q (if q.signed then -1 else q.max) m))) H a) (z := E.bad) h with ⟨q, m, hx, h⟩ | h
    rotate_left
    · exact absurd h hb
    refine ⟨_, H, a, opS_pure fun F g act w _ hp => ?_, h⟩
    have h1 := ev_is hp hx
    simp only [Rep] at h1
    exact ⟨.int q (bits .xor q (if q.signed then -1 else q.max) m), by simp [execOp, ho, h1, Op.unary, intBits_xor], by simp only [Rep]⟩
  | plus => exact absurd h hb
theorem strEq_spec : ∀ (a b : List UInt8), strEq a b = decide (a = b)
  | [], [] => rfl
  | [], _ :: _ => rfl
  | _ :: _, [] => rfl
  | x :: xs, y :: ys => by
    show ifb (Nat.beq x.toNat y.toNat) (strEq xs ys) false = _
    have ih := strEq_spec xs ys
    cases hx : Nat.beq x.toNat y.toNat with
    | true =>
      have : x = y := UInt8.toNat.inj (Nat.eq_of_beq_eq_true hx)
      subst this
      rw [ifb_true, ih]; simp
    | false =>
      have : x ≠ y := fun e => by subst e; simp at hx
      rw [ifb_false]; simp [this]
theorem notB_eq (b : Bool) : notB b = !b := by cases b <;> rfl
theorem eqB_eq (a b : Bool) : eqB a b = (a == b) := by cases a <;> cases b <;> rfl
theorem intOp_ok {op : BinOp} {t : TypeId} {k k' : IntKind} {a b : Int} {f : AV → ρ} {z : ρ} (hz : ¬ Good z) (hk : isSh op = true ∨ k = k') (h : Good (intOp op k a b f z)) : ∃ r, binOp op t (.int k a) (.int k' b) = pure r ∧ Good (f (.raw r)) := by
  have hd : ∀ p q : Bool, p = q → Good (f (.raw (.bool p))) → Good (f (.raw (.bool q))) := fun p q e h => e ▸ h
  cases op <;> (try (rcases hk with hk | hk; · exact absurd hk (by decide)); subst hk)
  case add => exact ⟨_, by simp [binOp_add, Op.intArith], h⟩
  case sub => exact ⟨_, by simp [binOp_sub, Op.intArith], h⟩
  case mul => exact ⟨_, by simp [binOp_mul, Op.intArith], h⟩
  case quo =>
    rcases ifb_cases h with ⟨_, h⟩ | ⟨h0, h⟩
    · exact absurd h hz
    · exact ⟨_, by have : b ≠ 0 := by simpa using h0
                   simp [binOp_quo, Op.intDiv, this], h⟩
  case rem =>
    rcases ifb_cases h with ⟨_, h⟩ | ⟨h0, h⟩
    · exact absurd h hz
    · exact ⟨_, by have : b ≠ 0 := by simpa using h0
                   simp [binOp_rem, Op.intDiv, this], h⟩
  case and => exact ⟨_, by simp [binOp_and, intBits_and], h⟩
  case or => exact ⟨_, by simp [binOp_or, intBits_or], h⟩
  case xor => exact ⟨_, by simp [binOp_xor, intBits_xor], h⟩
  case shl =>
    rcases ifb_cases h with ⟨h0, h⟩ | ⟨_, h⟩
    · have h0 : 0 ≤ b ∧ b ≤ k.bits := by simpa [shOk] using h0
      exact ⟨_, by rw [binOp_shl, shift_shl _ _ _ _ h0.1 h0.2], h⟩
    · exact absurd h hz
  case shr =>
    rcases ifb_cases h with ⟨h0, h⟩ | ⟨_, h⟩
    · have h0 : 0 ≤ b ∧ b ≤ k.bits := by simpa [shOk] using h0
      exact ⟨_, by rw [binOp_shr, shift_shr _ _ _ _ h0.1 h0.2], h⟩
    · exact absurd h hz
  case andNot => exact absurd h hz
  case eql => exact ⟨_, by rw [binOp_eql]; rfl, h⟩
  case neq =>
    have h : Good (f (.raw (.bool (decide (a ≠ b))))) := by
      rcases ifb_cases (b := decide (a ≠ b)) (x := f (.raw (.bool true))) (y := f (.raw (.bool false))) h with ⟨e, h⟩ | ⟨e, h⟩ <;> rw [e] <;> exact h
    exact ⟨_, by
      rw [binOp_neq]
      have : (a != b) = decide (a ≠ b) := by rw [Bool.eq_iff_iff]; simp
      rw [this], h⟩
  case lss => exact ⟨_, by simp [binOp_lss], h⟩
  case leq => exact ⟨_, by simp [binOp_leq], h⟩
  case gtr => exact ⟨_, by simp [binOp_gtr], h⟩
  case geq => exact ⟨_, by simp [binOp_geq], h⟩
theorem asNilP_cases {x : AV} {y z : ρ} (h : Good (asNilP x y z)) : (x = .raw (.pointer none) ∧ Good y) ∨ Good z := by
  rcases asRaw_cases h with ⟨v, rfl, h⟩ | h
  · cases v with
    | pointer a =>
      rcases onSome_cases (f := fun _ => z) (z := y) h with ⟨_, _, h⟩ | ⟨rfl, h⟩
      · exact .inr h
      · exact .inl ⟨rfl, h⟩
    | _ => exact .inr h
  · exact .inr h
theorem asNilI_cases {x : AV} {y z : ρ} (h : Good (asNilI x y z)) : (x = .raw .nilIface ∧ Good y) ∨ Good z := by
  rcases asRaw_cases h with ⟨v, rfl, h⟩ | h
  · cases v with
    | nilIface => exact .inl ⟨rfl, h⟩
    | _ => exact .inr h
  · exact .inr h
theorem eqFs_ok {z : ρ} (hz : ¬ Good z) : ∀ (ks : List Nat) (xs ys : List AV) (f : Bool → ρ), Good (eqFs ks xs ys f z) → ∃ p, eqAVs ks xs ys = some p ∧ ∃ b, (b = true ↔ p) ∧ Good (f b)
  | [], xs, ys, f, h => by
    rcases listOn_cases (l := xs) h with ⟨rfl, h⟩ | ⟨_, _, _, h⟩
    · rcases listOn_cases (l := ys) h with ⟨rfl, h⟩ | ⟨_, _, _, h⟩
      · exact ⟨True, rfl, true, by simp, h⟩
      · exact absurd h hz
    · exact absurd h hz
  | k :: ks, xs, ys, f, h => by
    rcases listOn_cases (l := xs) h with ⟨_, h⟩ | ⟨x, xs, rfl, h⟩
    · exact absurd h hz
    rcases listOn_cases (l := ys) h with ⟨_, h⟩ | ⟨y, ys, rfl, h⟩
    · exact absurd h hz
    have next : ∀ b, Good (eqFs ks xs ys (fun r => f (ifb b r false)) z) → ∃ p, eqAVs ks xs ys = some p ∧ ∃ c, (c = true ↔ p) ∧ Good (f (ifb b c false)) := fun b hb => eqFs_ok hz ks xs ys _ hb
    have fin : ∀ (q : Prop) [Decidable q] (b : Bool), (b = true ↔ q) → ∀ p : Prop, (∃ c, (c = true ↔ p) ∧ Good (f (ifb b c false))) → ∃ c, (c = true ↔ (q ∧ p)) ∧ Good (f c) := fun q _ b hq p ⟨c, hc, hg⟩ => ⟨_, by cases b <;> simp_all [ifb], hg⟩
    rcases natOn_cases (n := k) h with ⟨rfl, h⟩ | ⟨k, rfl, h⟩
    · rcases asStr_cases h with ⟨a, rfl, h⟩ | h
      · rcases asStr_cases h with ⟨b, rfl, h⟩ | h
        · obtain ⟨p, hp, hc⟩ := next _ h
          exact ⟨a = b ∧ p, by show (eqAVs ks xs ys).map _ = _; rw [hp]; rfl, fin (a = b) _ (by rw [strEq_spec]; simp) p hc⟩
        · exact absurd h hz
      · exact absurd h hz
    · rcases natOn_cases (n := k) h with ⟨rfl, h⟩ | ⟨k, rfl, h⟩
      · rcases asBool_cases h with ⟨a, rfl, h⟩ | h
        · rcases asBool_cases h with ⟨b, rfl, h⟩ | h
          · obtain ⟨p, hp, hc⟩ := next _ h
            exact ⟨a = b ∧ p, by show (eqAVs ks xs ys).map _ = _; rw [hp]; rfl, fin (a = b) _ (by rw [eqB_eq]; simp) p hc⟩
          · exact absurd h hz
        · exact absurd h hz
      · rcases natOn_cases (n := k) h with ⟨rfl, h⟩ | ⟨k, rfl, h⟩
        · rcases asInt_cases h with ⟨q, a, rfl, h⟩ | h
          · rcases asInt_cases h with ⟨q', b, rfl, h⟩ | h
            · rcases ifb_cases h with ⟨hq, h⟩ | ⟨_, h⟩
              · have hq : q = q' := by simpa [sameK] using hq
                obtain ⟨p, hp, hc⟩ := next _ h
                exact ⟨a = b ∧ p, by show (if q = q' then (eqAVs ks xs ys).map _ else none) = _; rw [if_pos hq, hp]; rfl, fin (a = b) _ (by simp) p hc⟩
              · exact absurd h hz
            · exact absurd h hz
          · exact absurd h hz
        · exact absurd h hz
theorem run_eql_slice_vn (w : World) (t e : TypeId) (a : Option Addr) (l c : Nat) (h : P.underlying t = some (.slice e)) : (binOp .eql t (.slice a l c) (.slice none 0 0)).run P w = .ok (.bool a.isNone) w := by
  simp only [binOp]
  simp [run_equal_slice_nil w t e a l c h]
theorem tyEq_ok {t t2 : TypeId} {x y : Operand} {i : TI} {R : T AV} {f : Bool → ρ} {z : ρ} (hz : ¬ Good z) (T : TyOk P t i) (h : Good (tyEq i.d i.q (ifb (isC x) true (isC y)) (ev x R) (ev y R) f z)) :
    ∃ b, Good (f b) ∧ ∀ H g act w, XPre n R H g act w →
      (o.op = .binOp .eql t x y t2 → (execOp act.eval o).run P w = .ok (.value (.bool b)) w) ∧ (o.op = .binOp .neq t x y t2 → (execOp act.eval o).run P w = .ok (.value (.bool (!b))) w) := by
  have T2 := T.d
  generalize hd : i.d = d at h T2
  cases d with
  | bool =>
    rcases asBool_cases h with ⟨a, hx, h⟩ | h
    rotate_left
    · exact absurd h hz
    rcases asBool_cases h with ⟨b, hy, h⟩ | h
    rotate_left
    · exact absurd h hz
    refine ⟨_, h, fun H g act w hp => ?_⟩
    have h1 := ev_is hp hx
    have h2 := ev_is hp hy
    simp only [Rep] at h1 h2
    rw [eqB_eq]
    exact ⟨fun ho => by simp [execOp, ho, h1, h2, eqGuard_at_bool, run_eql_bool w t a b T2], fun ho => by simp [execOp, ho, h1, h2, eqGuard_at_bool, run_neq_bool w t a b T2]⟩
  | ptr =>
    rcases asNilP_cases h with ⟨hx, h⟩ | h
    · rcases asNilP_cases h with ⟨hy, h⟩ | h
      · refine ⟨_, h, fun H g act w hp => ?_⟩
        have h1 := ev_is hp hx
        have h2 := ev_is hp hy
        simp only [Rep] at h1 h2
        exact ⟨fun ho => by simp [execOp, ho, h1, h2, eqGuard_at_pointer, run_eql_pointer_nil w t _ T2], fun ho => by simp [execOp, ho, h1, h2, eqGuard_at_pointer, run_neq_pointer_nil w t _ T2]⟩
      · exact absurd h hz
    · rcases asPtr_cases h with ⟨o', j, hx, h⟩ | h
      · rcases asNilP_cases h with ⟨hy, h⟩ | h
        · refine ⟨_, h, fun H g act w hp => ?_⟩
          have h1 := ev_is hp hx
          have h2 := ev_is hp hy
          simp only [Rep] at h1 h2
          obtain ⟨l, _, h1⟩ := h1
          exact ⟨fun ho => by simp [execOp, ho, h1, h2, eqGuard_at_pointer, run_eql_pointer_nil w t _ T2], fun ho => by simp [execOp, ho, h1, h2, eqGuard_at_pointer, run_neq_pointer_nil w t _ T2]⟩
        · exact absurd h hz
      · exact absurd h hz
  | slice sz by_ zz =>
    obtain ⟨e, hu, _⟩ := T2
    rcases asNilS_cases h with ⟨hy, h⟩ | h
    rotate_left
    · exact absurd h hz
    rcases asNilS_cases h with ⟨hx, h⟩ | h
    · refine ⟨_, h, fun H g act w hp => ?_⟩
      have h1 := ev_is hp hx
      have h2 := ev_is hp hy
      simp only [Rep] at h1 h2
      exact ⟨fun ho => by simp [execOp, ho, h1, h2, eqGuard_at_slice, run_eql_nil_slice (P := P) w t e none 0 0 0 0 hu], fun ho => by simp [execOp, ho, h1, h2, eqGuard_at_slice, run_neq_slice_nil_any (P := P) w t e none 0 0 0 0 hu]⟩
    · rcases asVwn_cases h with ⟨ob, s, j, l, hx, h⟩ | h
      rotate_left
      · exact absurd h hz
      refine ⟨_, h, fun H g act w hp => ?_⟩
      have h1 := ev_is hp hx
      have h2 := ev_is hp hy
      simp only [Rep] at h1 h2
      have h3 : ∃ ad m c, act.eval x = .slice (some ad) m c := by
        rcases h1 with ⟨l', cap, _, h1, _⟩ | ⟨_, ad, h1⟩
        · exact ⟨_, _, _, h1⟩
        · exact ⟨_, _, _, h1⟩
      obtain ⟨ad, m, c, h3⟩ := h3
      exact ⟨fun ho => by
          simp [execOp, ho, h3, h2, eqGuard_at_slice, run_eql_slice_vn (P := P) w t e (some ad) m c hu],
        fun ho => by simp [execOp, ho, h3, h2, eqGuard_at_slice, run_neq_slice_nil_any (P := P) w t e (some ad) m c 0 0 hu]⟩
  | iface =>
    rcases ifb_cases h with ⟨hc, h⟩ | ⟨_, h⟩
    rotate_left
    · exact absurd h hz
    rcases asNilI_cases h with ⟨hx, h⟩ | h
    rotate_left
    · exact absurd h hz
    rcases asNilI_cases h with ⟨hy, h⟩ | h
    rotate_left
    · exact absurd h hz
    refine ⟨_, h, fun H g act w hp => ?_⟩
    have h1 := ev_is hp hx
    have h2 := ev_is hp hy
    simp only [Rep] at h1 h2
    have hg : ∀ op, eqGuard op t x y .nilIface .nilIface = pure () := fun op => by
      have hc' : isC x = true ∨ isC y = true := by
        cases hx' : isC x <;> cases hy' : isC y <;> simp_all [ifb]
      unfold eqGuard
      cases op <;> first | rfl | (cases x <;> cases y <;> first | rfl | (simp [isC] at hc'))
    exact ⟨fun ho => by simp [execOp, ho, h1, h2, hg, run_eql_nil_nil (P := P) (w := w) t T2], fun ho => by simp [execOp, ho, h1, h2, hg, run_neq_nil_nil (P := P) (w := w) t T2]⟩
  | struct fs =>
    rcases asAgg_cases h with ⟨xs, hx, h⟩ | h
    rotate_left
    · exact absurd h hz
    rcases asAgg_cases h with ⟨ys, hy, h⟩ | h
    rotate_left
    · exact absurd h hz
    rcases listOn_cases h with ⟨_, h⟩ | ⟨q0, qs, hq, h⟩
    · exact absurd h hz
    obtain ⟨p, hp1, b, hbp, h⟩ := eqFs_ok hz _ _ _ _ h
    refine ⟨b, h, fun H g act w hp => ?_⟩
    rcases T.q with hq0 | hT
    · rw [hq0] at hq; cases hq
    haveI := hT
    obtain ⟨u, u1, u2⟩ := rep_agg (ev_is hp hx)
    obtain ⟨v, v1, v2⟩ := rep_agg (ev_is hp hy)
    have hr := run_equalIn_agg w 9999 t u v hT.u hT.s
    rw [eqFields_run (d := 9998) hT.f u2 v2 hp1] at hr
    have hbd : @decide p (Classical.propDecidable p) = b := by
      by_cases h' : p
      · simp [h', hbp.2 h']
      · have : b ≠ true := fun e => h' (hbp.1 e)
        simp [h', this]
    rw [hbd] at hr
    exact ⟨fun ho => by simp [execOp, ho, u1, v1, run_eql_struct, run_eqGuard_agg _ _ _ _ _ _ _ hT.g, hr], fun ho => by simp [execOp, ho, u1, v1, run_neq_struct, run_eqGuard_agg _ _ _ _ _ _ _ hT.g, hr]⟩
  | _ => exact absurd h hz
include hb hty in
theorem ok_binOp {op : BinOp} {t t2 : TypeId} {x y : Operand} (ho : o.op = .binOp op t x y t2) : OpOk Good P n E o (oBinOp op t x y t2) := fun R H a k h => by
  unfold oBinOp binop at h
  rcases asInt_cases h with ⟨q, m, hx, h⟩ | h
  · rcases asInt_cases h with ⟨q', m', hy, h⟩ | h
    rotate_left
    · exact absurd h hb
    rcases ifb_cases h with ⟨hq, h⟩ | ⟨_, h⟩
    rotate_left
    · exact absurd h hb
    have hq : isSh op = true ∨ q = q' := by
      cases hs : isSh op with
      | true => exact .inl rfl
      | false => rw [hs] at hq; exact .inr (by simpa [sameK, ifb] using hq)
    obtain ⟨r, hr, h⟩ := intOp_ok (t := t) hb hq h
    refine ⟨_, H, a, opS_pure fun F g act w _ hp => ?_, h⟩
    have h1 := ev_is hp hx
    have h2 := ev_is hp hy
    simp only [Rep] at h1 h2
    exact ⟨r, by simp [execOp, ho, h1, h2, eqGuard_at_int, hr], by simp only [Rep]⟩
  · rcases asStr_cases h with ⟨as, hx, h⟩ | h
    · rcases asStr_cases h with ⟨bs, hy, h⟩ | h
      rotate_left
      · exact absurd h hb
      cases op
      case eql =>
        refine ⟨_, H, a, opS_pure fun F g act w _ hp => ?_, h⟩
        have h1 := ev_is hp hx
        have h2 := ev_is hp hy
        simp only [Rep] at h1 h2
        have hbb : (as == bs) = decide (as = bs) := by rw [Bool.eq_iff_iff]; simp
        exact ⟨.bool (decide (as = bs)), by simp [execOp, ho, h1, h2, binOp_string_eql, eqGuard_at_string, hbb], by simp only [Rep]; rw [strEq_spec]⟩
      case neq =>
        refine ⟨_, H, a, opS_pure fun F g act w _ hp => ?_, h⟩
        have h1 := ev_is hp hx
        have h2 := ev_is hp hy
        simp only [Rep] at h1 h2
        have hbb : (as == bs) = decide (as = bs) := by rw [Bool.eq_iff_iff]; simp
        exact ⟨.bool (decide (as ≠ bs)), by simp [execOp, ho, h1, h2, binOp_string_neq, eqGuard_at_string, hbb], by simp only [Rep]; rw [notB_eq, strEq_spec]; simp⟩
      case add =>
        rcases ifb_cases h with ⟨hle, h⟩ | ⟨_, h⟩
        rotate_left
        · exact absurd h hb
        have hle := Nat.le_of_ble_eq_true hle
        refine ⟨_, H, a, opS_pure fun F g act w _ hp => ?_, h⟩
        have h1 := ev_is hp hx
        have h2 := ev_is hp hy
        simp only [Rep] at h1 h2
        refine ⟨.string ⟨(as ++ bs).toArray⟩, ?_, by simp only [Rep]⟩
        have hc : ¬ ((9223372036854775807 : Int) < (as.length : Int) + (bs.length : Int)) := by unfold most at hle; omega
        have he : (ByteArray.mk as.toArray) ++ (ByteArray.mk bs.toArray) = ⟨(as ++ bs).toArray⟩ := by
          apply ByteArray.ext
          simp
        simp [execOp, ho, h1, h2, binOp, Op.stringOp, size_mk, hc, he, eqGuard_at_string]
      all_goals exact absurd h hb
    · rcases onSome_cases h with ⟨i, hi, h⟩ | ⟨_, h⟩
      rotate_left
      · exact absurd h hb
      have T := hty t i hi
      cases op
      case eql =>
        obtain ⟨b, h, hr⟩ := tyEq_ok (n := n) (o := o) (t2 := t2) (f := fun b => k (.raw (.bool b)) H a) hb T h
        exact ⟨_, H, a, opS_pure fun F g act w _ hp => ⟨.bool b, (hr _ g act w hp).1 ho, by simp only [Rep]⟩, h⟩
      case neq =>
        obtain ⟨b, h, hr⟩ := tyEq_ok (n := n) (o := o) (t2 := t2) (f := fun b => k (.raw (.bool (notB b))) H a) hb T h
        exact ⟨_, H, a, opS_pure fun F g act w _ hp => ⟨.bool (!b), (hr _ g act w hp).2 ho, by simp only [Rep]; rw [notB_eq]⟩, h⟩
      all_goals exact absurd h hb
end
end Go.Ex
namespace Go.Ex
open Go Go.Am
section
variable {ρ : Type} {Good : ρ → Prop} {P : Program} {n : Nat}
variable {E : Env ρ} {o : Oper} (hb : ¬ Good E.bad) (hty : ∀ t i, E.ty.get t = some i → TyOk P t i)
theorem ElOk.sliceT {t e sz by_ : Nat} {z : List AV} (hu : P.underlying t = some (.slice e)) (h : ElOk P e sz by_ z) : ∃ zv, SliceT P t e sz by_ zv ∧ z = zv.cells.toList.map norm1 ∧ zv.cells.size = sz ∧ z.all AV.one1 = true :=
  let ⟨zv, h1, h2, h3, h4⟩ := h
  ⟨zv, ⟨hu, h1, h2⟩, h3, h2, h4⟩
include hb hty in
theorem ok_indexAddr {t : TypeId} {x y : Operand} (ho : o.op = .indexAddr t x y) : OpOk Good P n E o (oIndexAddr t x y) := fun R H a k h => by
  rcases asNat_cases h with ⟨q, j, hy, h⟩ | h
  rotate_left
  · exact absurd h hb
  rcases onSome_cases h with ⟨i, hi, h⟩ | ⟨_, h⟩
  rotate_left
  · exact absurd h hb
  have T := (hty t i hi).d
  rcases tySlice_cases h with ⟨s, by_, zz, hd, h⟩ | h
  · rw [hd] at T
    obtain ⟨e, hu, hel, _⟩ := T
    obtain ⟨zv, hT, _⟩ := hel.sliceT hu
    haveI := hT
    rcases asVwn_cases h with ⟨ob, s', off, len, hx, h⟩ | h
    · rcases ifb_cases h with ⟨hlt, h⟩ | ⟨_, h⟩
      rotate_left
      · exact absurd h hb
      have hlt : j < len := Nat.le_of_ble_eq_true hlt
      refine ⟨_, H, a, opS_pure fun F g act w _ hp => ?_, h⟩
      have hv := ev_is hp hx
      have hu' := ev_is hp hy
      simp only [Rep] at hv hu'
      rcases hv with ⟨l, cap, hl, he, _⟩ | ⟨rfl, _⟩
      · exact ⟨_, by simp [execOp, ho, he, hu', run_indexAt_slice' (P := P) (t := t) (i := j) hlt]; rfl, by simp only [Rep]; exact ⟨l, hl, by rw [Nat.add_assoc]⟩⟩
      · omega
    · rcases asSls_cases h with ⟨m, xs, hx, h⟩ | h
      rotate_left
      · exact absurd h hb
      rcases ifb_cases h with ⟨hlt, h⟩ | ⟨_, h⟩
      rotate_left
      · exact absurd h hb
      have hlt : j < m := Nat.le_of_ble_eq_true hlt
      refine ⟨_, H, a, opS_pure fun F g act w _ hp => ?_, h⟩
      have hv := ev_is hp hx
      have hu' := ev_is hp hy
      simp only [Rep] at hv hu'
      rcases hv with ⟨rfl, _⟩ | ⟨b, off, cap, c, e', fz, he, h2, h3, h4⟩
      · omega
      · exact ⟨_, by simp [execOp, ho, he, hu', run_indexAt_slice' (P := P) (t := t) (i := j) hlt]; rfl, by simp only [Rep]; exact ⟨b, off, c, e', fz, rfl, h3, h4⟩⟩
  · rcases asPtr_cases h with ⟨ob, m, hx, h⟩ | h
    rotate_left
    · exact absurd h hb
    rcases tyArr0_cases h with ⟨len, s, ag, hd, h⟩ | h
    rotate_left
    · exact absurd h hb
    rw [hd] at T
    rcases ifb_cases h with ⟨hlt, h⟩ | ⟨_, h⟩
    rotate_left
    · exact absurd h hb
    have hlt : j < len := Nat.le_of_ble_eq_true hlt
    refine ⟨_, H, a, opS_pure fun F g act w _ hp => ?_, h⟩
    have hv := ev_is hp hx
    have hu := ev_is hp hy
    simp only [Rep] at hv hu
    obtain ⟨l, hl, he⟩ := hv
    obtain ⟨e, h1, h2, _⟩ := T
    have hi' : ¬ len ≤ j := by omega
    exact ⟨.pointer (some ⟨l.blk, l.base + m + j * s, none⟩), by simp [execOp, ho, he, hu, Instr.indexAt, run_underlying h1, Instr.sureAddr, asIntOf, hi', h2, add_lit'], by simp only [Rep]; exact ⟨l, hl, by rw [Nat.add_assoc]⟩⟩
theorem run_arr_index {t e len : Nat} (hu : P.underlying t = some (.array len e)) (h1 : ∀ w, (sizeOf e).run P w = .ok 1 w) (ha : ∀ w, (isAgg e).run P w = .ok false w) {ar : Array Value} {k : IntKind} {j : Nat} (hj : j < len) {u : Value} (hu' : ar[j]? = some u) (w : World) :
    (Instr.index t (.agg ar) (.int k (j : Int))).run P w = .ok u w := by
  simp [Instr.index, asIntOf, run_underlying hu, hj, h1, part, ha, hu', Go.asAgg]
include hb hty in
theorem ok_index {t : TypeId} {x y : Operand} (ho : o.op = .index t x y) : OpOk Good P n E o (oIndex t x y) := fun R H a k h => by
  rcases asNat_cases h with ⟨q, j, hy, h⟩ | h
  rotate_left
  · exact absurd h hb
  rcases onSome_cases h with ⟨i, hi, h⟩ | ⟨_, h⟩
  rotate_left
  · exact absurd h hb
  have T := (hty t i hi).d
  rcases asStr_cases h with ⟨bs, hx, h⟩ | h
  · rcases tyStr_cases h with ⟨hd, h⟩ | h
    rotate_left
    · exact absurd h hb
    rw [hd] at T
    rcases onSome_cases h with ⟨b, hbs, h⟩ | ⟨_, h⟩
    rotate_left
    · exact absurd h hb
    rw [nth_eq] at hbs
    obtain ⟨hlt, hbs'⟩ := List.getElem?_eq_some_iff.1 hbs
    refine ⟨_, H, a, opS_pure fun F g act w _ hp => ?_, h⟩
    have hv := ev_is hp hx
    have hu := ev_is hp hy
    simp only [Rep] at hv hu
    have hq : (ByteArray.mk bs.toArray)[j]? = some b := by
      rw [getElem?_pos (ByteArray.mk bs.toArray) j (by rw [size_mk]; exact hlt)]
      rw [← hbs']; rfl
    exact ⟨.int .u8 (b.toNat : Int), by simp only [execOp, ho, hv, hu, Instr.index, asIntOf, Sem.run_bind, Sem.run_pure, Result.andThen_ok, run_underlying T, show (0 : Int) ≤ (j : Int) from by omega, if_true, Int.toNat_natCast, hq], by simp only [Rep]; rfl⟩
  · rcases asAgg_cases h with ⟨xs, hx, h⟩ | h
    rotate_left
    · exact absurd h hb
    rcases tyArr0_cases h with ⟨len, s, ag, hd, h⟩ | h
    rotate_left
    · exact absurd h hb
    rw [hd] at T
    obtain ⟨e, h1, h2, h3⟩ := T
    rcases ifb_cases h with ⟨hlt, h⟩ | ⟨_, h⟩
    rotate_left
    · exact absurd h hb
    have hlt : j < len := Nat.le_of_ble_eq_true hlt
    rcases ifb_cases h with ⟨hs1, h⟩ | ⟨_, h⟩
    rotate_left
    · exact absurd h hb
    have hs1 := Nat.eq_of_beq_eq_true hs1
    rw [hs1] at h2
    rcases ifb_cases h with ⟨_, h⟩ | ⟨hg, h⟩
    · exact absurd h hb
    rw [hg] at h3
    rcases onSome_cases h with ⟨u, hu0, h⟩ | ⟨_, h⟩
    rotate_left
    · exact absurd h hb
    rw [nth_eq] at hu0
    refine ⟨_, H, a, opS_pure fun F g act w _ hp => ?_, h⟩
    have hv := ev_is hp hx
    have hu := ev_is hp hy
    simp only [Rep] at hv hu
    obtain ⟨ar, he, hr⟩ := hv
    obtain ⟨u', hu1, hr'⟩ := ((repL_iff _ _).1 hr).2 j u hu0
    rw [Array.getElem?_toList] at hu1
    exact ⟨u', by simp only [execOp, ho, he, hu, Sem.run_bind, run_arr_index h1 h2 h3 hlt hu1, Result.andThen_ok, Sem.run_pure], hr'⟩
theorem lenS {m : Nat} {a : Option Addr} {cap : Nat} (w : World) : (Builtin.lenOf (.slice a m cap)).run P w = .ok m w := rfl
theorem ok_makeFunc {fn : Fn} {first caps : Array Operand} (ho : o.op = .makeFunc fn first caps) : OpOk Good P n E o (oMakeFunc fn first caps) := fun R H a k h => by
  refine ⟨_, H, a, opS_pure fun F g act w _ hp => ?_, h⟩
  have hl : ∀ l : List Operand, RepL g (evs l R) (l.map act.eval) := fun l => by
    induction l with
    | nil => simp [evs, listRec, RepL]
    | cons x l ih => exact (show RepL g (ev x R :: evs l R) (act.eval x :: l.map act.eval) from by simp only [RepL]; exact ⟨_, _, rfl, ev_rep hp x, ih⟩)
  exact ⟨.func fn (first.map act.eval) (caps.map act.eval), by simp [execOp, ho, Instr.makeFunc], by simp only [Rep]; exact ⟨_, _, rfl, by rw [Array.toList_map]; exact hl _, by rw [Array.toList_map]; exact hl _⟩⟩
end
end Go.Ex
namespace Go.Ex
open Go Go.Am
section
variable {ρ : Type} {Good : ρ → Prop} {P : Program} {n : Nat}
theorem tySl_cases {d : TD} {y z : ρ} (h : Good (tySl d y z)) : ((∃ s b l, d = .slice s b l) ∨ d = .str) ∧ Good y ∨ Good z := by
  cases d <;> first | exact .inl ⟨.inl ⟨_, _, _, rfl⟩, h⟩ | exact .inl ⟨.inr rfl, h⟩ | exact .inr h
theorem two_cases {α : Type} {l : List α} {f : α → α → ρ} {z : ρ} (h : Good (two l f z)) : (∃ x y, l = [x, y] ∧ Good (f x y)) ∨ Good z := by
  rcases listOn_cases h with ⟨_, h⟩ | ⟨x, r, rfl, h⟩
  · exact .inr h
  · rcases listOn_cases (l := r) h with ⟨_, h⟩ | ⟨y, r', rfl, h⟩
    · exact .inr h
    · rcases listOn_cases (l := r') (z := f x y) (s := fun _ _ => z) h with ⟨rfl, h⟩ | ⟨_, _, _, h⟩
      · exact .inl ⟨x, y, rfl, h⟩
      · exact .inr h
theorem one_cases {α : Type} {l : List α} {f : α → ρ} {z : ρ} (h : Good (just l f z)) : (∃ x, l = [x] ∧ Good (f x)) ∨ Good z := by
  rcases listOn_cases h with ⟨_, h⟩ | ⟨x, r, rfl, h⟩
  · exact .inr h
  · rcases listOn_cases (l := r) (z := f x) (s := fun _ _ => z) h with ⟨rfl, h⟩ | ⟨_, _, _, h⟩
    · exact .inl ⟨x, rfl, h⟩
    · exact .inr h
theorem lenIs_cases {xs : List AV} {m : Nat} {y z : ρ} (h : Good (lenIs xs m y z)) : (xs.length = m ∧ Good y) ∨ Good z := by
  rcases ifb_cases h with ⟨h1, h⟩ | ⟨_, h⟩
  · exact .inl ⟨Nat.eq_of_beq_eq_true h1, h⟩
  · exact .inr h
theorem is1_cases {m : Nat} {y z : ρ} (h : Good (is1 m y z)) : (m = 1 ∧ Good y) ∨ Good z := by
  rcases ifb_cases h with ⟨h1, h⟩ | ⟨_, h⟩
  · exact .inl ⟨Nat.eq_of_beq_eq_true h1, h⟩
  · exact .inr h
theorem ble_cases {a b : Nat} {y z : ρ} (h : Good (ifb (Nat.ble a b) y z)) : (a ≤ b ∧ Good y) ∨ Good z := by
  rcases ifb_cases h with ⟨h1, h⟩ | ⟨_, h⟩
  · exact .inl ⟨Nat.le_of_ble_eq_true h1, h⟩
  · exact .inr h
theorem beq_cases {a b : Nat} {y z : ρ} (h : Good (ifb (Nat.beq a b) y z)) : (a = b ∧ Good y) ∨ Good z := by
  rcases ifb_cases h with ⟨h1, h⟩ | ⟨_, h⟩
  · exact .inl ⟨Nat.eq_of_beq_eq_true h1, h⟩
  · exact .inr h
theorem repC_cel_of_byt {g : Gh} {bs : List UInt8} {c : Array Value} {k : Nat} (h : RepC g (.byt bs) c k) : RepC g (.cel (ofBytes bs)) c k := by
  refine ⟨by have := h.1; simp [ofBytes]; omega, (repAt_iff _ _ _).2 fun i x hi => ?_⟩
  simp only [ofBytes, List.getElem?_map, Option.map_eq_some_iff] at hi
  obtain ⟨b, hb, rfl⟩ := hi
  exact ⟨_, h.2 i b hb, rfl, by simp only [Rep]⟩
theorem src_ok {H : T XO} {sz : Nat} {x : AV} {f : Nat → List AV → ρ} {z : ρ} (hz : ¬ Good z) (h : Good (src H sz x f z)) :
    ∃ m ys, Good (f m ys) ∧ ys.length = m * sz ∧ ∀ F g w v, Sim g (join (hof H) F) w → Rep g x v → Src P g w v m sz (.cel ys) := by
  rcases asVwn_cases h with ⟨ob, s, off, len, rfl, h⟩ | h
  · rcases atCel_cases h with ⟨q, t, hH, h⟩ | h
    rotate_left
    · exact absurd h hz
    rcases ble_cases h with ⟨hle, h⟩ | h
    rotate_left
    · exact absurd h hz
    refine ⟨_, _, h, seg_length _ _ _ _, fun F g w v hs hv => ?_⟩
    simp only [Rep] at hv
    rcases hv with ⟨l, cap, hl, he, _⟩ | ⟨rfl, ad, he⟩
    · obtain ⟨c, e, fz, h1, h2, h3, h4⟩ := row_of hs (join_get hH) (fun _ h => by cases h) hl
      rw [he]
      refine src_row h1 ?_ (by simp [AO.len, seg_length])
      have hcut := seg_cut t q off (len * sz) hle
      have hfit := h4.1
      rw [seg_length] at hfit
      exact ⟨by rw [seg_length]; omega, by rw [← hcut]; exact repAt_take (repAt_drop h4.2 off) _⟩
    · rw [he]
      exact src_none (by simp [AO.void, seg_zero])
  · rcases asStr_cases h with ⟨bs, rfl, h⟩ | h
    · rcases is1_cases h with ⟨rfl, h⟩ | h
      rotate_left
      · exact absurd h hz
      refine ⟨_, _, h, by simp [ofBytes], fun F g w v hs hv => ?_⟩
      obtain ⟨k1, k2, news, k3, k4, k5, k6⟩ := srcA_str (join (hof H) F) bs P g w v hs hv
      exact ⟨by simp [AO.len, ofBytes], k2, news, by simpa [AO.len, ofBytes] using k3, repC_cel_of_byt k4, k5, k6⟩
    · rcases asSls_cases h with ⟨m, xs, rfl, h⟩ | h
      · rcases lenIs_cases h with ⟨hl, h⟩ | h
        rotate_left
        · exact absurd h hz
        exact ⟨_, _, h, hl, fun F g w v hs hv => srcA_sls _ m sz xs hl P g w v hs hv⟩
      · rcases asSlsx_cases h with ⟨m, xs, rfl, h⟩ | h
        · rcases lenIs_cases h with ⟨hl, h⟩ | h
          rotate_left
          · exact absurd h hz
          exact ⟨_, _, h, hl, fun F g w v hs hv => srcA_slsx _ m sz xs hl P g w v hs hv⟩
        · rcases asNilS_cases h with ⟨rfl, h⟩ | h
          · exact ⟨_, _, h, by simp, fun F g w v hs hv => srcA_nil _ sz _ (by simp [AO.void]) P g w v hs hv⟩
          · rcases asEmp_cases h with ⟨rfl, h⟩ | h
            · exact ⟨_, _, h, by simp, fun F g w v hs hv => srcA_emp _ sz _ (by simp [AO.void]) P g w v hs hv⟩
            · exact absurd h hz
variable {E : Env ρ} {o : Oper} (hb : ¬ Good E.bad) (hty : ∀ t i, E.ty.get t = some i → TyOk P t i)
theorem run_len_slice {t e : TypeId} {a : Option Addr} {m cap : Nat} {x : Operand} {act : Act} {w : World} (hu : P.underlying t = some (.slice e)) (ho : o.op = .call { callee := .builtin .len, args := #[x], argTypes := #[t] }) (he : act.eval x = .slice a m cap) :
    (execOp act.eval o).run P w = .ok (.value (.int .i64 (m : Int))) w := by
  simp [execOp, ho, resolve, invoke, Go.builtin, he, Builtin.len_, run_underlying hu, goInt]
include hb hty in
theorem ok_len {args : Array Operand} {ats : Array TypeId} (ho : o.op = .call { callee := .builtin .len, args := args, argTypes := ats }) : OpOk Good P n E o (bLen args.toList ats.toList) := fun R H a k h => by
  rcases one_cases h with ⟨x, hx0, h⟩ | h
  rotate_left
  · exact absurd h hb
  rcases one_cases h with ⟨t, ht0, h⟩ | h
  rotate_left
  · exact absurd h hb
  have hx1 : args = #[x] := by rw [← Array.toArray_toList (xs := args), hx0]
  have ht1 : ats = #[t] := by rw [← Array.toArray_toList (xs := ats), ht0]
  subst hx1; subst ht1
  rcases onSome_cases h with ⟨i, hi, h⟩ | ⟨_, h⟩
  rotate_left
  · exact absurd h hb
  have T := (hty t i hi).d
  unfold evalLen at h
  rcases tySlice_cases h with ⟨s, by_, zz, hd, h⟩ | h
  · rw [hd] at T
    obtain ⟨e, hu, hel, _⟩ := T
    have fin : ∀ m, Good (k (iN m) H a) → (∀ g v, Rep g (ev x R) v → ∃ ad cap, v = .slice ad m cap) → ∃ x' H' b, OpS P n o R H a x' H' b ∧ Good (k x' H' b) := fun m hg hv => by
      refine ⟨_, H, a, opS_pure fun F g act w _ hp => ?_, hg⟩
      obtain ⟨ad, cap, he⟩ := hv g _ (ev_rep hp x)
      exact ⟨.int .i64 (m : Int), run_len_slice hu ho he, by simp only [iN, Rep]; rfl⟩
    rcases asVwn_cases h with ⟨ob, s', off, len, hx, h⟩ | h
    · refine fin _ h fun g v hv => ?_
      rw [hx] at hv
      simp only [Rep] at hv
      rcases hv with ⟨l, cap, _, he, _⟩ | ⟨h0, ad, he⟩
      · exact ⟨_, _, he⟩
      · exact ⟨_, _, by rw [he, h0]⟩
    · rcases asSls_cases h with ⟨m, xs, hx, h⟩ | h
      · refine fin _ h fun g v hv => ?_
        rw [hx] at hv
        simp only [Rep] at hv
        rcases hv with ⟨rfl, _, ad, cap, he⟩ | ⟨b, off, cap, c, e', fz, he, _⟩
        · exact ⟨_, _, he⟩
        · exact ⟨_, _, he⟩
      · rcases asSlsx_cases h with ⟨m, xs, hx, h⟩ | h
        · refine fin _ h fun g v hv => ?_
          rw [hx] at hv
          simp only [Rep] at hv
          rcases hv with ⟨rfl, _, ad, he⟩ | ⟨b, off, c, e', fz, he, _⟩
          · exact ⟨_, _, he⟩
          · exact ⟨_, _, he⟩
        · rcases asNilS_cases h with ⟨hx, h⟩ | h
          · refine fin _ h fun g v hv => ?_
            rw [hx] at hv
            simp only [Rep] at hv
            exact ⟨_, _, hv⟩
          · rcases asEmp_cases h with ⟨hx, h⟩ | h
            · refine fin _ h fun g v hv => ?_
              rw [hx] at hv
              simp only [Rep] at hv
              obtain ⟨ad, hv⟩ := hv
              exact ⟨_, _, hv⟩
            · exact absurd h hb
  · rcases tyStr_cases h with ⟨hd, h⟩ | h
    · rw [hd] at T
      rcases asStr_cases h with ⟨bs, hx, h⟩ | h
      rotate_left
      · exact absurd h hb
      refine ⟨_, H, a, opS_pure fun F g act w _ hp => ?_, h⟩
      have hv := ev_is hp hx
      simp only [Rep] at hv
      exact ⟨.int .i64 (bs.length : Int), by simp [execOp, ho, resolve, invoke, Go.builtin, hv, Builtin.len_, run_underlying T, goInt, size_mk], by simp only [iN, Rep]; rfl⟩
    · rcases tyMap_cases h with ⟨k0, g0, zz, hd, h⟩ | h
      rotate_left
      · exact absurd h hb
      rw [hd] at T
      obtain ⟨kt, e, zv, hu, _⟩ := T
      rcases asMp_cases h with ⟨ob, hx, h⟩ | h
      · exact absurd h hb
      · rcases asNilM_cases h with ⟨hx, h⟩ | h
        rotate_left
        · exact absurd h hb
        refine ⟨_, H, a, opS_pure fun F g act w _ hp => ?_, h⟩
        have hv := ev_is hp hx
        simp only [Rep] at hv
        exact ⟨.int .i64 0, by simp [execOp, ho, resolve, invoke, Go.builtin, hv, Builtin.len_, run_underlying hu, goInt], by simp only [iN, Rep]; rfl⟩
include hb in
theorem ok_min {args : Array Operand} {ats : Array TypeId} (ho : o.op = .call { callee := .builtin .min, args := args, argTypes := ats }) : OpOk Good P n E o (bMin args.toList ats.toList) := fun R H a k h => by
  rcases two_cases h with ⟨x, y, hx0, h⟩ | h
  rotate_left
  · exact absurd h hb
  have hx1 : args = #[x, y] := by rw [← Array.toArray_toList (xs := args), hx0]
  subst hx1
  rcases asInt_cases h with ⟨q, m, hx, h⟩ | h
  rotate_left
  · exact absurd h hb
  rcases asInt_cases h with ⟨q', m', hy, h⟩ | h
  rotate_left
  · exact absurd h hb
  refine ⟨_, H, a, opS_pure fun F g act w _ hp => ?_, h⟩
  have h1 := ev_is hp hx
  have h2 := ev_is hp hy
  simp only [Rep] at h1 h2
  exact ⟨.int q (if m' < m then m' else m), by
    simp [execOp, ho, resolve, invoke, Go.builtin, h1, h2, Builtin.min_, Builtin.min2], by
    simp only [Rep]; by_cases hm : m ≤ m'
    · simp [hm, ifb, show ¬ m' < m from by omega]
    · simp [hm, ifb, show m' < m from by omega]⟩
include hb in
theorem ok_max {args : Array Operand} {ats : Array TypeId} (ho : o.op = .call { callee := .builtin .max, args := args, argTypes := ats }) : OpOk Good P n E o (bMax args.toList ats.toList) := fun R H a k h => by
  rcases two_cases h with ⟨x, y, hx0, h⟩ | h
  rotate_left
  · exact absurd h hb
  have hx1 : args = #[x, y] := by rw [← Array.toArray_toList (xs := args), hx0]
  subst hx1
  rcases asInt_cases h with ⟨q, m, hx, h⟩ | h
  rotate_left
  · exact absurd h hb
  rcases asInt_cases h with ⟨q', m', hy, h⟩ | h
  rotate_left
  · exact absurd h hb
  refine ⟨_, H, a, opS_pure fun F g act w _ hp => ?_, h⟩
  have h1 := ev_is hp hx
  have h2 := ev_is hp hy
  simp only [Rep] at h1 h2
  exact ⟨.int q (if m < m' then m' else m), by
    simp [execOp, ho, resolve, invoke, Go.builtin, h1, h2, Builtin.max_, Builtin.max2], by
    simp only [Rep]; by_cases hm : m < m'
    · simp [hm, ifb, show m ≤ m' from by omega]
    · by_cases he : m ≤ m'
      · simp [hm, he, ifb, show m = m' from by omega]
      · simp [hm, he, ifb]⟩
theorem rep_get (xs : List AV) : ∀ (m i : Nat), i < m * xs.length → (rep xs m)[i]? = xs[i % xs.length]?
  | 0, i, h => by simp at h
  | m + 1, i, h => by
    show (xs ++ rep xs m)[i]? = _
    by_cases hi : i < xs.length
    · rw [List.getElem?_append_left hi, Nat.mod_eq_of_lt hi]
    · rw [List.getElem?_append_right (by omega), rep_get xs m (i - xs.length) (by rw [Nat.add_mul, Nat.one_mul] at h; omega)]
      congr 1
      rw [← Nat.mod_eq_sub_mod (by omega)]
theorem rep_length (xs : List AV) : ∀ m, (rep xs m).length = m * xs.length
  | 0 => by show ([] : List AV).length = _; simp
  | m + 1 => by
    show (xs ++ rep xs m).length = _
    rw [List.length_append, rep_length xs m, Nat.add_mul, Nat.one_mul]; omega
include hb hty in
theorem ok_makeSlice {t : TypeId} {l c : Operand} (ho : o.op = .makeSlice t l c) : OpOk Good P n E o (oMakeSlice t l c) := fun R H a k h => by
  rcases onSome_cases h with ⟨i, hi, h⟩ | ⟨_, h⟩
  rotate_left
  · exact absurd h hb
  have T := (hty t i hi).d
  rcases tySlice_cases h with ⟨sz, by_, zz, hd, h⟩ | h
  rotate_left
  · exact absurd h hb
  rw [hd] at T
  obtain ⟨e, hu, hel, _⟩ := T
  obtain ⟨zv, hT, hz1, hz2, hz3⟩ := hel.sliceT hu
  rcases asNat_cases h with ⟨q1, m, hl, h⟩ | h
  rotate_left
  · exact absurd h hb
  rcases asNat_cases h with ⟨q2, m', hc, h⟩ | h
  rotate_left
  · exact absurd h hb
  rcases ble_cases h with ⟨hmm, h⟩ | h
  rotate_left
  · exact absurd h hb
  rcases ble_cases h with ⟨hby, h⟩ | h
  rotate_left
  · exact absurd h hb
  rcases ble_cases h with ⟨h63, h⟩ | h
  rotate_left
  · exact absurd h hb
  unfold most at hby h63
  refine ⟨_, _, _, opS_new fun F g act w hdj hp hloc => ?_, h⟩
  have hv := ev_is hp hl
  have hu' := ev_is hp hc
  simp only [Rep] at hv hu'
  obtain ⟨inf, i1, i2, i3, i4⟩ := hT.info
  have hb' : (inf.bytes : Int) * (m' : Int) ≤ 281474976710656 := by
    rw [i4]
    have h : ((by_ * m' : Nat) : Int) ≤ 281474976710656 := by rw [Nat.mul_comm]; omega
    rwa [Int.natCast_mul] at h
  have hr := run_make (P := P) w t e inf _ hT.h i1 i2 q1 q2 m m' (by omega) (by omega) hb' (by omega)
  simp only [Int.toNat_natCast, i3] at hr
  have hzl : zz.length = sz := by rw [hz1]; simp [hz2]
  have hcells : (XO.cel (m' * sz) (T.putL .nil 0 (rep zz m'))).ao = .cel (rep zz m') := by
    have := cel_ao (rep zz m')
    unfold cel at this
    rwa [rep_length, hzl] at this
  obtain ⟨g', e1, e2, e3⟩ := sim_new (w' := w.alloc (.cells (madeCells zv.cells (m' * sz)) e)) (y := (XO.cel (m' * sz) (T.putL .nil 0 (rep zz m'))).ao) hp.sim ⟨rfl, rfl, rfl⟩ rfl (unfrozen00 _) hloc (by
    rw [hcells]
    refine ⟨by simp [size_madeCells, rep_length, hzl], (repAt_iff _ _ _).2 fun i x hi => ?_⟩
    have hlt := (List.getElem?_eq_some_iff.1 hi).1
    rw [rep_length, hzl] at hlt
    rw [rep_get zz m' i (by rw [hzl]; exact hlt), hz1] at hi
    simp only [List.length_map, Array.length_toList, List.getElem?_map, Option.map_eq_some_iff] at hi
    obtain ⟨u, hu0, rfl⟩ := hi
    rw [Nat.zero_add, madeCells_get (by omega)]
    rw [Array.getElem?_toList] at hu0
    have h1 : (norm1 u).one1 = true := List.all_eq_true.1 hz3 _ (by rw [hz1]; exact List.mem_map_of_mem (List.mem_of_getElem? (by rw [Array.getElem?_toList]; exact hu0)))
    refine ⟨u, ?_, rep_one h1 (rep_norm1 (g := g) u), rep_norm1 u⟩
    rw [getElem!_def, hu0])
  exact ⟨.slice (some ⟨w.heap.size, 0, none⟩) m m', _, g', by simp only [execOp, ho, hv, hu', Sem.run_bind, hr, Result.andThen_ok, Sem.run_pure], e1, by
    simp only [Rep]
    exact .inl ⟨_, m', e2, by simp, hmm, by simp [size_madeCells]⟩, e3⟩
end
end Go.Ex
