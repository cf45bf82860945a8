/-
  The abstract machine: rules for the operations that touch memory. No program in sight.
-/
import Derived.Test.YtbciofnejefkiaaAmOps
set_option linter.unusedSimpArgs false
set_option linter.unusedVariables false
namespace Go.Am
open Go
class SliceT (P : Program) (t : TypeId) (e sz bytes : outParam Nat) (z : outParam Value) : Prop where
  h : P.underlying t = some (.slice e)
  i : (P.info? e).map (fun i => (i.zero, i.size, i.bytes)) = some (some z, sz, bytes)
  c : z.cells.size = sz
class CellT (P : Program) (t : TypeId) : Prop where
  a : ∀ w, (isAgg t).run P w = .ok false w
  s : ∀ w, (sizeOf t).run P w = .ok 1 w
class AggT (P : Program) (t : TypeId) (n : outParam Nat) : Prop where
  a : ∀ w, (isAgg t).run P w = .ok true w
  s : ∀ w, (sizeOf t).run P w = .ok n w
class StrT (P : Program) (t : TypeId) : Prop where
  h : P.underlying t = some .string
class FldT (P : Program) (s : TypeId) (f : Nat) (off : outParam Nat) : Prop where
  h : ∃ fs fd, P.underlying s = some (.struct fs) /\ fs[f]? = some fd /\ fd.offset = off /\ (P.info? fd.type).map (fun i => decide (i.size = 0)) = some false
class ZeroT (P : Program) (t : TypeId) (z : outParam Value) : Prop where
  h : ∀ w, (zeroValue t).run P w = .ok z w
theorem SliceT.info {P : Program} {t : TypeId} {e sz bytes : Nat} {z : Value} (h : SliceT P t e sz bytes z) : ∃ i, P.info? e = some i /\ i.zero = some z /\ i.size = sz /\ i.bytes = bytes := by
  have hi := h.i
  cases hq : P.info? e with
  | none => rw [hq] at hi; cases hi
  | some i => rw [hq] at hi; simp at hi; exact ⟨i, rfl, hi.1, hi.2.1, hi.2.2⟩
section
variable {P : Program}
theorem s6 {w : World} {b k : Nat} {c : Array Value} {e : TypeId} {fz : Nat × Nat} (h : w.heap[b]? = some (.cells c e fz)) : w.cell? ⟨b, k, none⟩ = c[k]? := by simp [World.cell?, h]
theorem anb {w : World} {b k : Nat} {c : Array Value} {e : TypeId} {fz : Nat × Nat} (h : w.heap[b]? = some (.cells c e fz)) (hu : Unfrozen c fz) (hk : k < c.size) : w.frozen? ⟨b, k, none⟩ = false := by
  have := hu k hk; obtain ⟨lo, hi⟩ := fz; simp only [World.frozen?, h]; simp at this ⊢
  omega
theorem abq {w : World} {b : Nat} {c c' : Array Value} {e : TypeId} {fz : Nat × Nat} (h : w.heap[b]? = some (.cells c e fz)) : (w.setRow b c').heap[b]? = some (.cells c' e fz) := setRow_heap w b c c' e fz h
theorem age (w : World) (b : Nat) (c : Array Value) : Same w (w.setRow b c) := ⟨rfl, rfl, rfl⟩
theorem anp {w : World} {b k : Nat} {c : Array Value} {e : TypeId} {fz : Nat × Nat} {v : Value} (h : w.heap[b]? = some (.cells c e fz)) (hu : Unfrozen c fz) (hk : k < c.size) (hv : one v) :
    (store ⟨b, k, none⟩ v).run P w = .ok () (w.setRow b (c.setIfInBounds k v)) := by
  rw [run_store P w _ v _ hv, s6 h, Array.getElem?_eq_getElem hk]; simp only [anb h hu hk, Bool.false_eq_true, if_false]; rw [setCell_eq_setRow w b k c e fz v h]
theorem qd (b o k : Nat) : (⟨b, o, none⟩ : Addr).add k = ⟨b, o + k, none⟩ := Addr.add_lit b o k
theorem aay : ∀ (vs : List Value) (i : Nat) {w : World} {b off : Nat} {c : Array Value} {e : TypeId} {fz : Nat × Nat}, w.heap[b]? = some (.cells c e fz) -> Unfrozen c fz -> off + i + vs.length <= c.size -> (∀ v ∈ vs, one v) ->
    ∃ c' : Array Value, (storeCells ⟨b, off, none⟩ vs i).run P w = .ok () (w.setRow b c') /\ c'.size = c.size /\ (∀ j, j < off + i \/ off + i + vs.length <= j -> c'[j]? = c[j]?) /\ ∀ j, j < vs.length -> c'[off + i + j]? = vs[j]?
  | [], i, w, b, off, c, e, fz, h, _, _, _ => ⟨c, by simp only [storeCells]; rw [setRow_self w b c e fz h]; rfl, rfl, fun _ _ => rfl, fun j hj => by simp at hj⟩
  | v :: vs, i, w, b, off, c, e, fz, h, hu, hl, h1 => by
    simp at hl
    have hst := anp (P := P) (v := v) h hu (k := off + i) (by omega) (h1 v (by simp))
    obtain ⟨c', hr, hs, ho, hn⟩ := aay vs (i + 1) (w := w.setRow b (c.setIfInBounds (off + i) v)) (off := off) (abq h) (fun j hj => hu j (by simpa using hj)) (by simp; omega) (fun u hu' => h1 u (by simp [hu']))
    refine ⟨c', by simp only [storeCells, Sem.run_bind, qd, hst, Result.andThen_ok, hr, setRow_setRow], by simpa using hs, fun j hj => ?_, fun j hj => ?_⟩
    · simp at hj
      rw [ho j (by omega), Array.getElem?_setIfInBounds_ne (by omega)]
    · cases j with
      | zero =>
        rw [ho (off + i + 0) (by omega)]
        simp only [Nat.add_zero, List.getElem?_cons_zero]; rw [Array.getElem?_setIfInBounds_self_of_lt (by omega)]
      | succ j =>
        have := hn j (by simpa using hj)
        rw [show off + (i + 1) + j = off + i + (j + 1) from by omega] at this
        simpa using this
theorem ais {w : World} {b off m : Nat} {c : Array Value} {e : TypeId} {fz : Nat × Nat} (h : w.heap[b]? = some (.cells c e fz)) (hm : off + m <= c.size) :
    (loadCells ⟨b, off, none⟩ m).run P w = .ok ((c.toList.drop off).take m).toArray w := by
  have hl := run_loadCells_list (P := P) w ⟨b, off, none⟩ ((c.toList.drop off).take m) (fun j v hj => by
    rw [qd, s6 h]; rw [List.getElem?_take] at hj; split at hj
    · rw [List.getElem?_drop] at hj; simpa using hj
    · cases hj)
  have hlen : ((c.toList.drop off).take m).length = m := by simp; omega
  rw [hlen] at hl; exact hl
theorem agi {c : Array Value} {off m i : Nat} (hi : i < m) : ((c.toList.drop off).take m).toArray[i]? = c[off + i]? := by
  simp [hi]
theorem acy (bs : List UInt8) : ByteArray.size ⟨bs.toArray⟩ = bs.length := by show bs.toArray.size = _; simp
structure Src (P : Program) (g : Gh) (w : World) (v : Value) (m sz : Nat) (x : AO) : Prop where
  len : x.len = m * sz
  lenOf : ∀ w', (Builtin.lenOf v).run P w' = .ok m w'
  cells : ∃ news : Array Value, news.size = x.len /\ RepC g x news 0 /\ (∀ u ∈ news, one u) /\ ∀ w', w'.heap = w.heap -> (Builtin.firstCells sz m v).run P w' = .ok news w'
def SrcA (H : AHeap) (av : AV) (m sz : Nat) (x : AO) : Prop := ∀ P g w v, Sim g H w -> Rep g av v -> Src P g w v m sz x
theorem aao {g : Gh} {w : World} {b off m sz cap : Nat} {c : Array Value} {e : TypeId} {fz : Nat × Nat} {x : AO} (h : w.heap[b]? = some (.cells c e fz)) (hx : RepC g x c off) (hl : x.len = m * sz) :
    Src P g w (.slice (some ⟨b, off, none⟩) m cap) m sz x := by
  have hle := hx.len_le; have hmp : ∀ es, x ≠ .mpo es := fun es e => by subst e; exact hx
  refine ⟨hl, fun _ => rfl, ((c.toList.drop off).take x.len).toArray, by simp; omega, ?_, ?_, fun w' hw => ?_⟩
  · rw [rx hmp]
    refine ⟨by simp; omega, fun i hi => ?_⟩
    obtain ⟨v, hv, ha⟩ := ((rx hmp).1 hx).2 i hi; exact ⟨v, by rw [Nat.zero_add, agi hi]; exact hv, ha⟩
  · intro u hu
    obtain ⟨i, hi, he⟩ := Array.getElem_of_mem hu; have hi' : i < x.len := by simp at hi; omega
    obtain ⟨v, hv, ha⟩ := ((rx hmp).1 hx).2 i hi'; have : ((c.toList.drop off).take x.len).toArray[i]? = some u := by rw [Array.getElem?_eq_getElem hi, he]
    rw [agi hi', hv] at this
    cases this
    exact AO.at_one ha
  · simp only [Builtin.firstCells]
    rw [<- hl]; exact ais (by rw [hw]; exact h) hle
theorem vf {g : Gh} {w : World} {a : Option Addr} {cap sz : Nat} {x : AO} (hx : x.void) : Src P g w (.slice a 0 cap) 0 sz x := by
  have hl : x.len = 0 := by cases x <;> simp_all [AO.void, AO.len]
  refine ⟨by simp [hl], fun _ => rfl, #[], by simp [hl], ?_, by simp, fun w' _ => ?_⟩
  · cases x with
    | byt bs => simp only [AO.void] at hx; subst hx; exact ⟨by simp, fun i x hi => by simp at hi⟩
    | cel xs => simp only [AO.void] at hx; subst hx; exact ⟨by simp, by simp only [RepAt]⟩
    | mpo es => exact hx.elim
  · cases a <;> simp [Builtin.firstCells, loadCells, loadCellsFrom]
theorem aaq (H : AHeap) (bs : List UInt8) : SrcA H (.bys bs) bs.length 1 (.byt bs) := fun P g w v hs hv => by
  simp only [Rep] at hv; rcases Nat.eq_zero_or_pos bs.length with h0 | h0
  · have hb : bs = [] := List.eq_nil_of_length_eq_zero h0
    subst hb; rcases hv with ⟨_, a, cap, rfl⟩ | ⟨b, off, cap, c, e, fz, rfl, _, h3, h4⟩ <;> exact vf rfl
  · rcases hv with ⟨rfl, a, cap, rfl⟩ | ⟨b, off, cap, c, e, fz, rfl, _, h3, h4⟩
    · simp at h0
    · refine aao (hs.sealed _ _ h3) ⟨?_, h4⟩ (by simp [AO.len])
      have := h4 (bs.length - 1) _ (List.getElem?_eq_getElem (by omega))
      have := (Array.getElem?_eq_some_iff.1 this).1; omega
theorem aie (H : AHeap) (bs : List UInt8) : SrcA H (.bysx bs) bs.length 1 (.byt bs) := fun P g w v hs hv => by
  refine aaq H bs P g w v hs ?_; simp only [Rep] at hv ⊢; rcases hv with ⟨rfl, a, rfl⟩ | ⟨b, off, c, e, fz, rfl, h3, h4⟩
  · exact .inl ⟨rfl, a, 0, rfl⟩
  · exact .inr ⟨b, off, _, c, e, fz, rfl, Nat.le_refl _, h3, h4⟩
theorem aj7 (H : AHeap) (m sz : Nat) (xs : List AV) (hl : xs.length = m * sz) : SrcA H (.sls m xs) m sz (.cel xs) := fun P g w v hs hv => by
  simp only [Rep] at hv; rcases Nat.eq_zero_or_pos xs.length with h0 | h0
  · have hb : xs = [] := List.eq_nil_of_length_eq_zero h0
    subst hb; rcases hv with ⟨rfl, _, a, cap, rfl⟩ | ⟨b, off, cap, c, e, fz, rfl, _, h3, h4⟩
    · exact vf rfl
    · refine ⟨hl, fun _ => rfl, #[], by simp [AO.len], ⟨by simp, by simp only [RepAt]⟩, by simp, fun w' _ => ?_⟩
      simp only [List.length_nil] at hl; simp [Builtin.firstCells, <- hl, loadCells, loadCellsFrom]
  · rcases hv with ⟨rfl, rfl, a, cap, rfl⟩ | ⟨b, off, cap, c, e, fz, rfl, _, h3, h4⟩
    · simp at h0
    · refine aao (hs.sealed _ _ h3) ⟨?_, h4⟩ (by simpa [AO.len] using hl)
      obtain ⟨u, hu, _⟩ := (i6 _ _ _).1 h4 (xs.length - 1) _ (List.getElem?_eq_getElem (by omega))
      have := (Array.getElem?_eq_some_iff.1 hu).1; omega
theorem ahy (H : AHeap) (m sz : Nat) (xs : List AV) (hl : xs.length = m * sz) : SrcA H (.slsx m xs) m sz (.cel xs) := fun P g w v hs hv => by
  refine aj7 H m sz xs hl P g w v hs ?_; simp only [Rep] at hv ⊢; rcases hv with ⟨rfl, rfl, a, rfl⟩ | ⟨b, off, c, e, fz, rfl, h3, h4⟩
  · exact .inl ⟨rfl, rfl, a, 0, rfl⟩
  · exact .inr ⟨b, off, _, c, e, fz, rfl, Nat.le_refl _, h3, h4⟩
theorem afw (H : AHeap) (sz : Nat) (x : AO) (hx : x.void) : SrcA H (.raw (.slice none 0 0)) 0 sz x := fun P g w v hs hv => by
  simp only [Rep] at hv; subst hv; exact vf hx
theorem adr (H : AHeap) (sz : Nat) (x : AO) (hx : x.void) : SrcA H .emp 0 sz x := fun P g w v hs hv => by
  simp only [Rep] at hv; obtain ⟨a, rfl⟩ := hv; exact vf hx
theorem aqs (H : AHeap) (bs : List UInt8) : SrcA H (.str bs) bs.length 1 (.byt bs) := fun P g w v hs hv => by
  simp only [Rep] at hv; subst hv; refine ⟨by simp [AO.len], fun _ => by simp [Builtin.lenOf, ByteArray.size], (bs.map fun b => Value.int .u8 (b.toNat : Int)).toArray, by simp [AO.len], ⟨by simp, fun i x hi => by simp [hi]⟩, fun u hu => ?_, fun w' _ => ?_⟩
  · simp at hu
    obtain ⟨b, _, rfl⟩ := hu; rfl
  · simp only [Builtin.firstCells, Sem.run_pure]
    congr 1
    have : (ByteArray.extract ⟨bs.toArray⟩ 0 bs.length).data = bs.toArray := by
      rw [ByteArray.data_extract]; simp
    rw [this]; simp
theorem abe {x : AO} {off k : Nat} (h : off + k <= x.len) (hm : ∀ es, x ≠ .mpo es) : (x.seg off k).len = k := by
  cases x with
  | byt bs => simp [AO.seg, AO.len] at h ⊢; omega
  | cel xs => simp [AO.seg, AO.len] at h ⊢; omega
  | mpo es => exact absurd rfl (hm es)
theorem aa9 (H : AHeap) (o sz off len : Nat) (x : AO) (hx : H o = some x) (hm : ∀ es, x ≠ .mpo es) (hl : off + len * sz <= x.len) : SrcA H (.vw o sz off len) len sz (x.seg off (len * sz)) := fun P g w v hs hv => by
  simp only [Rep] at hv
  have hvoid : len = 0 -> (x.seg off (len * sz)).void := fun h0 => by
    subst h0
    cases x with
    | byt bs => simp [AO.seg, AO.void]
    | cel xs => simp [AO.seg, AO.void]
    | mpo es => exact absurd rfl (hm es)
  rcases hv with ⟨l, cap, h1, rfl, h3, h4⟩ | ⟨rfl, a, rfl⟩
  · rcases hs.objs o x hx with ⟨_, h⟩ | ⟨l', c, e, fz, k1, k2, k3, k4, k5⟩ | ⟨_, es, _, _, he, _⟩ | ⟨_, _, _, _, hq⟩
    · rw [h] at h1; cases h1
    · rw [k1] at h1; cases h1
      exact aao k2 (k5.seg hl) (abe hl hm)
    · exact absurd he (hm es)
    · obtain ⟨_, _, he⟩ := hq.mp; exact absurd he (hm _)
  · exact vf (hvoid rfl)
section
variable {n : Nat} {K : Exit -> Regs -> AHeap -> Prop} {R : Regs} {H : AHeap} {ops : Array Oper} {rest : List Oper} {ty : TypeId}
theorem SrcA.slice {av : AV} {m sz : Nat} {x : AO} (h : SrcA H av m sz x) {g : Gh} {w : World} {v : Value} (hs : Sim g H w) (hv : Rep g av v) (w' : World) : (Builtin.lenOf v).run P w' = .ok m w' := (h P g w v hs hv).lenOf w'
theorem agv {t e sz bytes : Nat} {z : Value} {x : Operand} {av : AV} {m sz' : Nat} {c : AO} [hT : SliceT P t e sz bytes z] (hx : am R x = av) (hsrc : SrcA H av m sz' c) (hsl : ∀ g v, Rep g av v -> ∃ a k cap, v = .slice a k cap) :
    Stp P n (.call { callee := .builtin .len, args := #[x], argTypes := #[t] }) ty R H (.raw (.int .i64 (m : Int))) :=
  du fun o ho ht g a w hp => by
    have hv := rv hp hx; obtain ⟨ad, k, cap, he⟩ := hsl g _ hv; have hl := (hsrc P g w _ hp.sim hv).lenOf w; rw [he] at hl; simp [Builtin.lenOf] at hl
    subst hl; exact ⟨.int .i64 (k : Int), by simp [execOp, ho, resolve, invoke, builtin, he, Builtin.len_, run_underlying hT.h, goInt], by simp only [Rep]⟩
theorem aid (bs : List UInt8) : ∀ g v, Rep g (.bys bs) v -> ∃ a k cap, v = .slice a k cap := fun g v h => by
  simp only [Rep] at h; rcases h with ⟨_, a, cap, rfl⟩ | ⟨b, off, cap, c, e, fz, rfl, _⟩ <;> exact ⟨_, _, _, rfl⟩
theorem ad5 : ∀ g v, Rep g (.raw (.slice none 0 0)) v -> ∃ a k cap, v = .slice a k cap := fun g v h => by
  simp only [Rep] at h; exact ⟨_, _, _, h⟩
section
variable {t e sz bytes : Nat} {z : Value} {x : Operand} [hT : SliceT P t e sz bytes z]
include hT
theorem anq {bs : List UInt8} (hx : am R x = .bys bs) : Stp P n (.call { callee := .builtin .len, args := #[x], argTypes := #[t] }) ty R H (.raw (.int .i64 (bs.length : Int))) := agv (hT := hT) hx (aaq H bs) (aid bs)
theorem aq0 (hx : am R x = .raw (.slice none 0 0)) : Stp P n (.call { callee := .builtin .len, args := #[x], argTypes := #[t] }) ty R H (.raw (.int .i64 0)) := agv (m := 0) (hT := hT) hx (afw H 1 (.byt []) rfl) ad5
theorem vb {m : Nat} {xs : List AV} (hx : am R x = .sls m xs) : Stp P n (.call { callee := .builtin .len, args := #[x], argTypes := #[t] }) ty R H (.raw (.int .i64 (m : Int))) :=
  du fun o ho ht g a w hp => by
    have hv := rv hp hx; simp only [Rep] at hv; rcases hv with ⟨rfl, _, ad, cap, he⟩ | ⟨b, off, cap, c, e, fz, he, _⟩
    · exact ⟨.int .i64 0, by simp [execOp, ho, resolve, invoke, builtin, he, Builtin.len_, run_underlying hT.h, goInt], by simp only [Rep]; rfl⟩
    · exact ⟨.int .i64 (m : Int), by simp [execOp, ho, resolve, invoke, builtin, he, Builtin.len_, run_underlying hT.h, goInt], by simp only [Rep]⟩
theorem xo {m : Nat} {xs : List AV} (hx : am R x = .slsx m xs) : Stp P n (.call { callee := .builtin .len, args := #[x], argTypes := #[t] }) ty R H (.raw (.int .i64 (m : Int))) :=
  du fun o ho ht g a w hp => by
    have hv := rv hp hx; simp only [Rep] at hv; rcases hv with ⟨rfl, _, ad, he⟩ | ⟨b, off, c, e, fz, he, _⟩
    · exact ⟨.int .i64 0, by simp [execOp, ho, resolve, invoke, builtin, he, Builtin.len_, run_underlying hT.h, goInt], by simp only [Rep]; rfl⟩
    · exact ⟨.int .i64 (m : Int), by simp [execOp, ho, resolve, invoke, builtin, he, Builtin.len_, run_underlying hT.h, goInt], by simp only [Rep]⟩
theorem acm {ob s off len : Nat} (hx : am R x = .vw ob s off len) : Stp P n (.call { callee := .builtin .len, args := #[x], argTypes := #[t] }) ty R H (.raw (.int .i64 (len : Int))) :=
  du fun o ho ht g a w hp => by
    have hv := rv hp hx; simp only [Rep] at hv; rcases hv with ⟨l, cap, _, he, _⟩ | ⟨rfl, ad, he⟩
    · exact ⟨.int .i64 (len : Int), by simp [execOp, ho, resolve, invoke, builtin, he, Builtin.len_, run_underlying hT.h, goInt], by simp only [Rep]⟩
    · exact ⟨.int .i64 0, by simp [execOp, ho, resolve, invoke, builtin, he, Builtin.len_, run_underlying hT.h, goInt], by simp only [Rep]; rfl⟩
end
theorem aqp {t : TypeId} {x : Operand} {bs : List UInt8} [hT : StrT P t] (hx : am R x = .str bs) : Stp P n (.call { callee := .builtin .len, args := #[x], argTypes := #[t] }) ty R H (.raw (.int .i64 (bs.length : Int))) :=
  du fun o ho ht g a w hp => by
    have hv := rv hp hx; simp only [Rep] at hv; exact ⟨.int .i64 (bs.length : Int), by simp [execOp, ho, resolve, invoke, builtin, hv, Builtin.len_, run_underlying hT.h, goInt, acy], by simp only [Rep]⟩
theorem md {x : Operand} {ob off : Nat} (hx : am R x = .ptr ob off) : Stp P n (.nilCheck x) ty R H (.ptr ob off) :=
  du fun o ho ht g a w hp => by
    have hv := rv hp hx; have hv' := hv; simp only [Rep] at hv; obtain ⟨l, _, he⟩ := hv; exact ⟨a.eval x, by simp [execOp, ho, he], hv'⟩
theorem aei {s f off : Nat} [hF : FldT P s f off] (b k : Nat) (w : World) : (Instr.fieldAt s (.pointer (some ⟨b, k, none⟩)) f).run P w = .ok (.pointer (some ⟨b, k + off, none⟩)) w := by
  obtain ⟨fs, fd, h1, h2, rfl, h4⟩ := hF.h
  cases hi : P.info? fd.type with
  | none => rw [hi] at h4; cases h4
  | some i =>
    rw [hi] at h4; simp at h4
    simp [Instr.fieldAt, run_underlying h1, h2, Instr.sureAddr, fieldPlace, sizeOf, typeInfo, hi, h4, qd]
theorem kg {s : TypeId} {x : Operand} {f ob k off : Nat} [hF : FldT P s f off] (hx : am R x = .ptr ob k) : Stp P n (.fieldAddr s x f) ty R H (.ptr ob (k + off)) :=
  du fun o ho ht g a w hp => by
    have hv := rv hp hx; simp only [Rep] at hv; obtain ⟨l, hl, he⟩ := hv; exact ⟨.pointer (some ⟨l.blk, l.base + k + off, none⟩), by simp [execOp, ho, he, aei], by simp only [Rep]; exact ⟨l, hl, by rw [Nat.add_assoc]⟩⟩
theorem mj {s : TypeId} {x : Operand} {f k off : Nat} {xs : List AV} [hF : FldT P s f off] (hx : am R x = .pce xs k) : Stp P n (.fieldAddr s x f) ty R H (.pce xs (k + off)) :=
  du fun o ho ht g a w hp => by
    have hv := rv hp hx; simp only [Rep] at hv; obtain ⟨b, o2, c, e, fz, he, h2⟩ := hv; exact ⟨.pointer (some ⟨b, o2 + k + off, none⟩), by simp [execOp, ho, he, aei], by simp only [Rep]; exact ⟨b, o2, c, e, fz, by rw [Nat.add_assoc], h2⟩⟩
theorem yg {t : TypeId} [hC : CellT P t] {w : World} {b k : Nat} {v : Value} (h : w.cell? ⟨b, k, none⟩ = some v) : (Instr.loadAt t (.pointer (some ⟨b, k, none⟩))).run P w = .ok v w := by
  simp [Instr.loadAt, Instr.sureAddr, loadVar, hC.a, h]
theorem oe {g : Gh} {w : World} {H : AHeap} (hs : Sim g H w) {ob : Nat} {x : AO} (hx : H ob = some x) (hm : ∀ es, x ≠ .mpo es) {l : Loc} (hl : g.loc ob = some l) :
    ∃ c e fz, w.heap[l.blk]? = some (.cells c e fz) /\ c.size = l.size /\ Unfrozen c fz /\ RepC g x c l.base := by
  rcases hs.objs ob x hx with ⟨_, h⟩ | ⟨l', c, e, fz, k1, k2, k3, k4, k5⟩ | ⟨_, es, _, _, he, _⟩ | ⟨_, _, _, _, hq⟩
  · rw [h] at hl; cases hl
  · rw [k1] at hl; cases hl
    exact ⟨c, e, fz, k2, k3, k4, k5⟩
  · exact absurd he (hm es)
  · obtain ⟨_, _, he⟩ := hq.mp; exact absurd he (hm _)
theorem fc {t : TypeId} {x : Operand} {ob k : Nat} {xs : List AV} {y : AV} [hC : CellT P t] (hx : am R x = .ptr ob k) (hH : H ob = some (.cel xs)) (hy : xs[k]? = some y) : Stp P n (.load t x) ty R H y :=
  du fun o ho ht g a w hp => by
    have hv := rv hp hx; simp only [Rep] at hv; obtain ⟨l, hl, he⟩ := hv; obtain ⟨c, e, fz, h1, h2, h3, h4⟩ := oe hp.sim hH (fun _ h => by cases h) hl
    obtain ⟨u, hu, _, hr⟩ := (i6 _ _ _).1 h4.2 k y hy; exact ⟨u, by simp [execOp, ho, he, yg (P := P) (t := t) ((s6 h1).trans hu)], hr⟩
theorem ak7 {t : TypeId} {x : Operand} {ob k : Nat} {bs : List UInt8} [hC : CellT P t] (hx : am R x = .ptr ob k) (hH : H ob = some (.byt bs)) (hk : k < bs.length) : Stp P n (.load t x) ty R H (.raw (.int .u8 ((bs.getD k 0).toNat : Int))) :=
  du fun o ho ht g a w hp => by
    have hv := rv hp hx; simp only [Rep] at hv; obtain ⟨l, hl, he⟩ := hv; obtain ⟨c, e, fz, h1, h2, h3, h4⟩ := oe hp.sim hH (fun _ h => by cases h) hl
    have hu := h4.2 k _ (List.getElem?_eq_getElem hk); exact ⟨_, by simp [execOp, ho, he, yg (P := P) (t := t) ((s6 h1).trans hu)]; rfl, by simp only [Rep]; simp [List.getD, List.getElem?_eq_getElem hk]⟩
theorem yx {t : TypeId} {x : Operand} {k : Nat} {bs : List UInt8} [hC : CellT P t] (hx : am R x = .pby bs k) (hk : k < bs.length) : Stp P n (.load t x) ty R H (.raw (.int .u8 ((bs.getD k 0).toNat : Int))) :=
  du fun o ho ht g a w hp => by
    have hv := rv hp hx; simp only [Rep] at hv; obtain ⟨b, off, c, e, fz, he, h2, h3⟩ := hv; have hu := h3 k _ (List.getElem?_eq_getElem hk); exact ⟨_, by simp [execOp, ho, he, yg (P := P) (t := t) ((s6 (hp.sim.sealed _ _ h2)).trans hu)]; rfl, by simp only [Rep]; simp [List.getD, List.getElem?_eq_getElem hk]⟩
theorem ls {t : TypeId} {x : Operand} {k : Nat} {xs : List AV} {y : AV} [hC : CellT P t] (hx : am R x = .pce xs k) (hy : xs[k]? = some y) : Stp P n (.load t x) ty R H y :=
  du fun o ho ht g a w hp => by
    have hv := rv hp hx; simp only [Rep] at hv; obtain ⟨b, off, c, e, fz, he, h2, h3⟩ := hv; obtain ⟨u, hu, _, hr⟩ := (i6 _ _ _).1 h3 k y hy; exact ⟨u, by simp [execOp, ho, he, yg (P := P) (t := t) ((s6 (hp.sim.sealed _ _ h2)).trans hu)], hr⟩
theorem aar {g : Gh} {xs : List AV} {c : Array Value} {k m : Nat} (h : RepAt g xs c k) (hm : xs.length = m) : RepL g xs ((c.toList.drop k).take m) := by
  rw [ny]; have hall := (i6 _ _ _).1 h
  have hsz : m = 0 \/ k + m <= c.size := by
    rcases Nat.eq_zero_or_pos m with h0 | h0
    · exact .inl h0
    · obtain ⟨u, hu, _⟩ := hall (xs.length - 1) _ (List.getElem?_eq_getElem (by omega))
      have := (Array.getElem?_eq_some_iff.1 hu).1; exact .inr (by omega)
  refine ⟨?_, fun i y hi => ?_⟩
  · rcases hsz with h0 | h0
    · subst h0; simp [hm]
    · simp; omega
  · obtain ⟨u, hu, _, hr⟩ := hall i y hi
    have hlt := (List.getElem?_eq_some_iff.1 hi).1; refine ⟨u, ?_, hr⟩; rw [List.getElem?_take, if_pos (by omega), List.getElem?_drop]
    simpa using hu
theorem z0 {t m : Nat} [hA : AggT P t m] {w : World} {b k : Nat} {c : Array Value} {e : TypeId} {fz : Nat × Nat} (h : w.heap[b]? = some (.cells c e fz)) (hm : k + m <= c.size) :
    (Instr.loadAt t (.pointer (some ⟨b, k, none⟩))).run P w = .ok (.agg ((c.toList.drop k).take m).toArray) w := by
  simp [Instr.loadAt, Instr.sureAddr, loadVar, hA.a, hA.s, ais (P := P) h hm]
theorem pw {t : TypeId} {x : Operand} {ob k m : Nat} {xs ys : List AV} [hA : AggT P t m] (hx : am R x = .ptr ob k) (hH : H ob = some (.cel xs)) (hy : (xs.drop k).take m = ys) (hm : ys.length = m) (hk : k + m <= xs.length) : Stp P n (.load t x) ty R H (.agg ys) :=
  du fun o ho ht g a w hp => by
    have hv := rv hp hx; simp only [Rep] at hv; obtain ⟨l, hl, he⟩ := hv; obtain ⟨c, e, fz, h1, h2, h3, h4⟩ := oe hp.sim hH (fun _ h => by cases h) hl
    have hr : RepAt g ys c (l.base + k) := hy ▸ tx (qv h4.2 k) m; refine ⟨.agg ((c.toList.drop (l.base + k)).take m).toArray, by simp [execOp, ho, he, z0 (P := P) (t := t) (m := m) h1 (k := l.base + k) (by have := h4.1; omega)], ?_⟩
    simp only [Rep]; exact ⟨_, rfl, by simpa using aar hr hm⟩
theorem rh {t : TypeId} {x : Operand} {k m : Nat} {xs ys : List AV} [hA : AggT P t m] (hx : am R x = .pce xs k) (hy : (xs.drop k).take m = ys) (hm : ys.length = m) (h0 : 0 < m) : Stp P n (.load t x) ty R H (.agg ys) :=
  du fun o ho ht g a w hp => by
    have hv := rv hp hx; simp only [Rep] at hv; obtain ⟨b, off, c, e, fz, he, h2, h3⟩ := hv; have hr : RepAt g ys c (off + k) := hy ▸ tx (qv h3 k) m; obtain ⟨u, hu, _⟩ := (i6 _ _ _).1 hr (m - 1) _ (List.getElem?_eq_getElem (by omega))
    have hsz := (Array.getElem?_eq_some_iff.1 hu).1; refine ⟨.agg ((c.toList.drop (off + k)).take m).toArray, by simp [execOp, ho, he, z0 (P := P) (t := t) (m := m) (hp.sim.sealed _ _ h2) (k := off + k) (by omega)], ?_⟩
    simp only [Rep]; exact ⟨_, rfl, by simpa using aar hr hm⟩
end
end
end Go.Am
