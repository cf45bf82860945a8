/-
  Summaries of library functions for the executor.
-/
import Derived.Test.YtaabpahemponkaaGreatDoorDyG
import Derived.Lib.Bytealg
import Derived.Lib.Repeat
import Derived.Lib.SlTrimSet
import Derived.Below
import Derived.Test.YtaabpahemponkaaGreatDoorDyE
import Derived.Test.YtaabpahemponkaaGreatDoorProg
import Derived.Shelf.Strings.SlTrimAscii
import Derived.Shelf.Strings.Repeat
import Derived.Tactics
import Derived.Tactics2
import Derived.RegionTactic
import Derived.RegionCalls
import Derived.Shelf.Strings.Builder1
import Derived.Lib.UnsafeStr
import Derived.Shelf.RegionOpenPlain
import Derived.Laws.NewBlocks
import Derived.Laws.Append
import Derived.Defers
import Derived.Laws.Pointers
import Derived.Laws.LoneSync
import Derived.ChangeAlike
set_option linter.unusedVariables false
set_option linter.unusedSimpArgs false
namespace Go.Ex
open Go Go.Am Go.RowKit
noncomputable section
section
variable {ρ : Type}
abbrev SumF (ρ : Type) := List AV → T XO → Nat → K ρ → ρ
def byteN (x : AV) (f : Nat → ρ) (z : ρ) : ρ := asInt x (fun q n => ifb (sameK q .u8) (intNat n (fun m => ifb (Nat.blt m 256) (f m) z) z) z) z
def cntB (bs : List UInt8) (m : Nat) : Nat := listRec (β := Nat) 0 (fun b _ ih => ifb (Nat.beq b.toNat m) (Nat.succ ih) ih) bs
def sCount (z : ρ) : SumF ρ := fun args H a k => two args (fun x c => asStr x (fun bs => byteN c (fun m => k (iN (cntB bs m)) H a) z) z) z
def idxB (bs : List UInt8) (m : Nat) (i : Nat) : Int := listRec (β := Nat → Int) (fun _ => -1) (fun b _ ih i => ifb (Nat.beq b.toNat m) (Int.ofNat i) (ih (Nat.succ i))) bs i
def sIndex (z : ρ) : SumF ρ := fun args H a k => two args (fun x c => asStr x (fun bs => byteN c (fun m => k (i64 (idxB bs m 0)) H a) z) z) z
def repB (bs : List UInt8) (n : Nat) : List UInt8 := iter (β := List UInt8) n [] (fun ih => bs ++ ih)
def sRepeat (z : ρ) : SumF ρ := fun args H a k => two args (fun x c => asStr x (fun bs => asInt c (fun q m => ifb (sameK q .i64) (intNat m (fun n => ifb (Nat.ble (bs.length * n) most) (ifb (Nat.ble n most) (k (.str (repB bs n)) H a) z) z) z) z) z) z) z
def inB (b : UInt8) (cs : List UInt8) : Bool := listRec (β := Bool) false (fun c _ ih => ifb (Nat.beq c.toNat b.toNat) true ih) cs
def asc (cs : List UInt8) : Bool := listRec (β := Bool) true (fun c _ ih => ifb (Nat.blt c.toNat 128) ih false) cs
def trimB (cs bs : List UInt8) : List UInt8 := listRec (β := List UInt8) [] (fun b r ih => ifb (inB b cs) ih (b :: r)) bs
def sTrimLeft (z : ρ) : SumF ρ := fun args H a k => two args (fun x c => asStr x (fun bs => asStr c (fun cs => ifb (asc cs) (ifb (Nat.ble cs.length 1000) (k (.str (trimB cs bs)) H a) z) z) z) z) z
end
section
variable {ρ : Type} {Good : ρ → Prop} {P : Program} {z : ρ} (hz : ¬ Good z)
theorem byteN_cases {x : AV} {f : Nat → ρ} {z : ρ} (h : Good (byteN x f z)) : (∃ m : Nat, x = .raw (.int .u8 (m : Int)) ∧ m < 256 ∧ Good (f m)) ∨ Good z := by
  rcases asInt_cases h with ⟨k, n, rfl, h⟩ | h
  · rcases ifb_cases h with ⟨h1, h⟩ | ⟨_, h⟩
    · have h1 : k = .u8 := by simpa [sameK] using h1
      rcases intNat_cases h with ⟨m, rfl, h⟩ | h
      · rcases ifb_cases h with ⟨h2, h⟩ | ⟨_, h⟩
        · exact .inl ⟨m, by rw [h1], Nat.le_of_ble_eq_true h2, h⟩
        · exact .inr h
      · exact .inr h
    · exact .inr h
  · exact .inr h
theorem beq_u8 (b : UInt8) (m : Nat) (hm : m < 256) : Nat.beq b.toNat m = (b == m.toUInt8) := by
  have h1 : (Nat.toUInt8 m).toNat = m := by
    show (UInt8.ofNat m).toNat = m
    simp; omega
  rw [Bool.eq_iff_iff]
  simp only [beq_iff_eq]
  constructor
  · intro h
    have h := Nat.eq_of_beq_eq_true h
    exact UInt8.toNat_inj.1 (by rw [h1]; exact h)
  · intro h
    rw [h, h1]
    exact Nat.beq_refl m
theorem cntB_eq (m : Nat) (hm : m < 256) : ∀ bs : List UInt8, cntB bs m = Lib.countByte bs m.toUInt8
  | [] => rfl
  | b :: bs => by
    show ifb (Nat.beq b.toNat m) (Nat.succ (cntB bs m)) (cntB bs m) = _
    rw [cntB_eq m hm bs, beq_u8 b m hm]
    unfold Lib.countByte
    rw [List.count_cons]
    cases hb : (b == m.toUInt8) <;> simp [ifb]
theorem idxB_eq (m : Nat) (hm : m < 256) : ∀ (bs : List UInt8) (i : Nat), idxB bs m i = if Lib.indexByte bs m.toUInt8 == -1 then -1 else Lib.indexByte bs m.toUInt8 + i
  | [], i => by simp [idxB, listRec, Lib.indexByte]
  | b :: bs, i => by
    show ifb (Nat.beq b.toNat m) (Int.ofNat i) (idxB bs m (Nat.succ i)) = _
    rw [idxB_eq m hm bs (Nat.succ i), beq_u8 b m hm]
    have hge := Lib.indexByte_ge bs m.toUInt8
    rw [show Lib.indexByte (b :: bs) m.toUInt8 = if b == m.toUInt8 then 0 else if Lib.indexByte bs m.toUInt8 == -1 then -1 else Lib.indexByte bs m.toUInt8 + 1 from rfl]
    generalize Lib.indexByte bs m.toUInt8 = q at hge
    cases hb : (b == m.toUInt8)
    · simp only [ifb, Bool.false_eq_true, if_false]
      by_cases h1 : q = -1
      · simp [h1]
      · have h2 : ¬ (q + 1 = -1) := by omega
        simp [h1, h2]
        omega
    · simp [ifb]
theorem rep2 {g : Gh} {x y : AV} {vals : Array Value} (h : RepL g [x, y] vals.toList) : ∃ u v, vals = #[u, v] ∧ Rep g x u ∧ Rep g y v := by
  simp only [RepL] at h
  obtain ⟨u, r, h1, h2, v, r2, h3, h4, h5⟩ := h
  refine ⟨u, v, ?_, h2, h4⟩
  rw [← Array.toArray_toList (xs := vals), h1, h3, h5]
theorem rep1 {g : Gh} {x : AV} {vals : Array Value} (h : RepL g [x] vals.toList) : ∃ u, vals = #[u] ∧ Rep g x u := by
  simp only [RepL] at h
  obtain ⟨u, r, h1, h2, h3⟩ := h
  refine ⟨u, ?_, h2⟩
  rw [← Array.toArray_toList (xs := vals), h1, h3]
include hz in
theorem count_ok {f : FuncId} (hf : ∀ s c w, (callFunc f #[.string s, .int .u8 c]).run P w = .ok (.value (.int .i64 (Lib.countByte s.data.toList c.toNat.toUInt8))) w) {args : List AV} {H : T XO} {a : Nat} {k : K ρ}
    (h : Good (sCount z args H a k)) : ∃ x H' b, NatS P f args H a x H' b ∧ Good (k x H' b) := by
  rcases two_cases h with ⟨x, c, rfl, h⟩ | h
  rotate_left
  · exact absurd h hz
  rcases asStr_cases h with ⟨bs, rfl, h⟩ | h
  rotate_left
  · exact absurd h hz
  rcases byteN_cases h with ⟨m, rfl, hm, h⟩ | h
  rotate_left
  · exact absurd h hz
  refine ⟨_, H, a, ⟨Nat.le_refl a, .refl H a a, fun F g w vals hd hr hs hfr => ?_⟩, h⟩
  obtain ⟨u, v, rfl, h1, h2⟩ := rep2 hr
  simp only [Rep] at h1 h2
  subst h1; subst h2
  refine ⟨_, w, g, hf _ _ _, .refl g a a, ?_, hs⟩
  simp only [Rep, iN, Int.toNat_natCast]
  rw [cntB_eq m hm]
  rfl
include hz in
theorem index_ok {f : FuncId} (hf : ∀ s c w, (callFunc f #[.string s, .int .u8 c]).run P w = .ok (.value (.int .i64 (Lib.indexByte s.data.toList c.toNat.toUInt8))) w) {args : List AV} {H : T XO} {a : Nat} {k : K ρ}
    (h : Good (sIndex z args H a k)) : ∃ x H' b, NatS P f args H a x H' b ∧ Good (k x H' b) := by
  rcases two_cases h with ⟨x, c, rfl, h⟩ | h
  rotate_left
  · exact absurd h hz
  rcases asStr_cases h with ⟨bs, rfl, h⟩ | h
  rotate_left
  · exact absurd h hz
  rcases byteN_cases h with ⟨m, rfl, hm, h⟩ | h
  rotate_left
  · exact absurd h hz
  refine ⟨_, H, a, ⟨Nat.le_refl a, .refl H a a, fun F g w vals hd hr hs hfr => ?_⟩, h⟩
  obtain ⟨u, v, rfl, h1, h2⟩ := rep2 hr
  simp only [Rep] at h1 h2
  subst h1; subst h2
  refine ⟨_, w, g, hf _ _ _, .refl g a a, ?_, hs⟩
  simp only [Rep, i64, Int.toNat_natCast]
  rw [idxB_eq m hm]
  split
  · rename_i h
    have := beq_iff_eq.1 h
    simp [this]
  · simp
theorem sim_below {g : Gh} {H : AHeap} {w w' : World} (h : Sim g H w) (hb : Below w.heap.size w w') : Sim g H w' :=
  ⟨hb.os.trans h.os, hb.tape.trans h.tape, hb.output.trans h.output, fun b o hbo => by
      have := h.sealed b o hbo
      rw [hb.block b (Array.getElem?_eq_some_iff.1 this).1]; exact this,
    fun o x ho => (h.objs o x ho).move (.refl g) rfl fun l hl => hb.block l.blk ((h.objs o x ho).blk_lt hl), h.inj, h.apart, h.fin⟩
theorem repB_eq (bs : List UInt8) : ∀ n, repB bs n = Lib.repeatL bs n
  | 0 => rfl
  | n + 1 => by
    show bs ++ repB bs n = _
    rw [repB_eq bs n]
    rfl
include hz in
theorem repeat_ok {f : FuncId} (hF : FuncT P f) (hf : ∀ (s : ByteArray) (c : Nat) (w : World), c ≤ 9223372036854775807 → s.size * c ≤ 140737488355328 → Calls P f #[.string s, .int .i64 c] w fun e w' => e = .returned (.string ⟨(Lib.repeatL s.data.toList c).toArray⟩) ∧ Below w.heap.size w w') {args : List AV} {H : T XO} {a : Nat} {k : K ρ}
    (h : Good (sRepeat z args H a k)) : ∃ x H' b, FuncT P f ∧ CallS P f args H a x H' b ∧ Good (k x H' b) := by
  rcases two_cases h with ⟨x, c, rfl, h⟩ | h
  rotate_left
  · exact absurd h hz
  rcases asStr_cases h with ⟨bs, rfl, h⟩ | h
  rotate_left
  · exact absurd h hz
  rcases asInt_cases h with ⟨q, m, rfl, h⟩ | h
  rotate_left
  · exact absurd h hz
  rcases ifb_cases h with ⟨h1, h⟩ | ⟨_, h⟩
  rotate_left
  · exact absurd h hz
  rcases intNat_cases h with ⟨n, rfl, h⟩ | h
  rotate_left
  · exact absurd h hz
  rcases ble_cases h with ⟨hl, h⟩ | h
  rotate_left
  · exact absurd h hz
  rcases ble_cases h with ⟨hn, h⟩ | h
  rotate_left
  · exact absurd h hz
  have h1 : q = .i64 := by simpa [sameK] using h1
  unfold most at hl hn
  refine ⟨_, H, a, hF, ⟨Nat.le_refl a, .refl H a a, fun F g w vals hd hr hs hfr => ?_⟩, h⟩
  obtain ⟨u, v, rfl, h2, h3⟩ := rep2 hr
  simp only [Rep] at h2 h3
  subst h1; subst h2; subst h3
  refine (hf ⟨bs.toArray⟩ n w (by omega) (by simpa [ByteArray.size] using hl)).mono ?_
  rintro e w' ⟨rfl, hb⟩
  exact ⟨_, g, rfl, .refl g a a, by simp only [Rep]; rw [repB_eq], sim_below hs hb⟩
theorem inB_eq (b : UInt8) : ∀ cs : List UInt8, inB b cs = cs.contains b
  | [] => rfl
  | c :: cs => by
    show ifb (Nat.beq c.toNat b.toNat) true (inB b cs) = _
    rw [inB_eq b cs, List.contains_cons]
    have : Nat.beq c.toNat b.toNat = (b == c) := by
      rw [Bool.eq_iff_iff]
      simp only [beq_iff_eq]
      constructor
      · intro h; exact (UInt8.toNat_inj.1 (Nat.eq_of_beq_eq_true h)).symm
      · intro h; rw [h]; exact Nat.beq_refl _
    rw [this]
    cases (b == c) <;> rfl
theorem trimB_eq (cs : List UInt8) : ∀ bs : List UInt8, trimB cs bs = Lib.trimLeftS bs cs
  | [] => rfl
  | b :: bs => by
    show ifb (inB b cs) (trimB cs bs) (b :: bs) = _
    rw [trimB_eq cs bs, inB_eq]
    unfold Lib.trimLeftS
    rw [List.dropWhile_cons]
    cases cs.contains b <;> rfl
theorem asc_spec : ∀ {cs : List UInt8}, asc cs = true → ∀ (j : Nat) b, cs[j]? = some b → b.toNat < 128
  | [], _, j, b, h => by simp at h
  | c :: cs, h, j, b, hj => by
    have h : ifb (Nat.blt c.toNat 128) (asc cs) false = true := h
    cases hc : Nat.blt c.toNat 128 with
    | false => rw [hc] at h; cases h
    | true =>
      rw [hc] at h
      cases j with
      | zero => simp at hj; subst hj; exact Nat.le_of_ble_eq_true hc
      | succ j => exact asc_spec h j b (by simpa using hj)
include hz in
theorem trimLeft_ok {f : FuncId} (hF : FuncT P f) (hf : ∀ (s c : ByteArray) (w : World), c.size < 4294967281 → (∀ (j : Nat) b, c.data.toList[j]? = some b → b.toNat < 128) → Calls P f #[.string s, .string c] w fun e w' => e = .returned (.string ⟨(Lib.trimLeftS s.data.toList c.data.toList).toArray⟩) ∧ Below w.heap.size w w') {args : List AV} {H : T XO} {a : Nat} {k : K ρ}
    (h : Good (sTrimLeft z args H a k)) : ∃ x H' b, FuncT P f ∧ CallS P f args H a x H' b ∧ Good (k x H' b) := by
  rcases two_cases h with ⟨x, c, rfl, h⟩ | h
  rotate_left
  · exact absurd h hz
  rcases asStr_cases h with ⟨bs, rfl, h⟩ | h
  rotate_left
  · exact absurd h hz
  rcases asStr_cases h with ⟨cs, rfl, h⟩ | h
  rotate_left
  · exact absurd h hz
  rcases ifb_cases h with ⟨h1, h⟩ | ⟨_, h⟩
  rotate_left
  · exact absurd h hz
  rcases ble_cases h with ⟨hl, h⟩ | h
  rotate_left
  · exact absurd h hz
  refine ⟨_, H, a, hF, ⟨Nat.le_refl a, .refl H a a, fun F g w vals hd hr hs hfr => ?_⟩, h⟩
  obtain ⟨u, v, rfl, h2, h3⟩ := rep2 hr
  simp only [Rep] at h2 h3
  subst h2; subst h3
  refine (hf ⟨bs.toArray⟩ ⟨cs.toArray⟩ w (by simp [ByteArray.size]; omega) (by simpa using asc_spec h1)).mono ?_
  rintro e w' ⟨rfl, hb⟩
  exact ⟨_, g, rfl, .refl g a a, by simp only [Rep]; rw [trimB_eq], sim_below hs hb⟩
end
end
end Go.Ex
namespace Go.Ex
open Go Go.Am
theorem seg_rg (c : T AV) (m j : Nat) (hj : j < m) : (c.seg .unk 0 m)[j]? = some (rg c j) := by
  rw [seg_get, if_pos hj, Nat.zero_add]
  unfold rg
  cases c.get j <;> rfl
theorem cel_read {g : Gh} {H : T XO} {F : AHeap} {w : World} {ob m j : Nat} {c : T AV} {l : Am.Loc} (hs : Sim g (join (hof H) F) w) (hH : H.get ob = some (.cel m c)) (hl : g.loc ob = some l) (hj : j < m) :
    (∃ u, w.cell? ⟨l.blk, l.base + j, none⟩ = some u ∧ Rep g (rg c j) u) ∧ w.frozen? ⟨l.blk, l.base + j, none⟩ = false := by
  obtain ⟨cv, e, fz, k1, k2, k3, k4⟩ := row_of hs (join_get hH) (fun _ h => by cases h) hl
  have hfit := k4.1
  rw [seg_length] at hfit
  obtain ⟨u, hu, _, hr⟩ := (repAt_iff _ _ _).1 k4.2 j _ (seg_rg c m j hj)
  refine ⟨⟨u, ?_, hr⟩, ?_⟩
  · simp only [World.cell?, k1]
    simpa using hu
  · have := k3 (l.base + j) (by omega)
    simp only [World.frozen?, k1]
    obtain ⟨lo, hi⟩ := fz
    simp only at this ⊢
    rw [Bool.eq_false_iff]
    simp only [ne_eq, Bool.and_eq_true, decide_eq_true_eq]
    exact this
theorem cel_write {g : Gh} {H : T XO} {F : AHeap} {w : World} {ob m j : Nat} {c : T AV} {l : Am.Loc} (hs : Sim g (join (hof H) F) w) (hH : H.get ob = some (.cel m c)) (hl : g.loc ob = some l) (hj : j < m) {y : AV} {v : Value} (hv : Rep g y v) (h1 : one v) :
    Sim g (join (hof (H.put ob (.cel m (c.put j y)))) F) (w.setCell ⟨l.blk, l.base + j, none⟩ v) := by
  obtain ⟨cv, e, fz, k1, k2, k3, k4⟩ := row_of hs (join_get hH) (fun _ h => by cases h) hl
  have hfit := k4.1
  rw [seg_length] at hfit
  rw [hof_put, ← join_set]
  refine hs.write (w' := w.setCell ⟨l.blk, l.base + j, none⟩ v) ⟨rfl, rfl, rfl⟩ (join_get hH) hl (fun b hb => ?_) (c := cv.setIfInBounds (l.base + j) v) (e := e) (fz := fz) ?_ (by simpa using k2) (fun i hi => k3 i (by simpa using hi)) ?_
  · simp only [World.setCell]
    rw [Array.getElem?_modify, if_neg (fun h => hb h.symm)]
  · simp only [World.setCell]
    rw [Array.getElem?_modify, if_pos rfl, k1]
    rfl
  · show RepC g (.cel ((c.put j y).seg .unk 0 m)) _ l.base
    refine ⟨by rw [seg_length]; simpa using hfit, (repAt_iff _ _ _).2 fun i x hi => ?_⟩
    have him : i < m := by have := (List.getElem?_eq_some_iff.1 hi).1; rwa [seg_length] at this
    rw [seg_rg _ _ _ him, rg_put] at hi
    by_cases e1 : i = j
    · subst e1
      rw [if_pos rfl] at hi
      cases hi
      exact ⟨v, by rw [Array.getElem?_setIfInBounds_self_of_lt (by omega)], h1, hv⟩
    · rw [if_neg e1] at hi
      cases hi
      obtain ⟨u, hu, ho, hr⟩ := (repAt_iff _ _ _).1 k4.2 i _ (seg_rg c m i him)
      exact ⟨u, by rw [Array.getElem?_setIfInBounds_ne (by omega)]; exact hu, ho, hr⟩
end Go.Ex
namespace Go.Ex
open Go Go.Am
theorem hof_tcl {H : T XO} {o : Nat} {t : TypeId} {ex : Bool} {xs : List AV} (h : H.get o = some (.tcl t ex xs)) : hof H o = some (tclO t ex xs) := by
  unfold hof; rw [h]; rfl
theorem tcl_read {g : Gh} {A : AHeap} {w : World} {o : Nat} {t : TypeId} {ex : Bool} {xs : List AV} {l : Am.Loc} (hs : Sim g A w) (hA : A o = some (tclO t ex xs)) (hl : g.loc o = some l) :
    ∃ c, w.heap[l.blk]? = some (.cells c t (0, 0)) ∧ l.base = 0 ∧ l.size = c.size ∧ (xs.length ≤ c.size ∧ (ex = true → xs.length = c.size)) ∧ RepAt g xs c 0 := by
  rcases hs.objs o _ hA with ⟨hv, _⟩ | ⟨l', c, e, fz, k1, k2, k3, k4, k5⟩ | ⟨l', es, es', ck, he, k1, k2, k3, k4, k5, k6⟩ | ⟨l', ob, k1, k2, k3⟩
  · exact hv.elim
  · exact k5.elim
  · have he : [((AV.emp, AV.sls t xs) : AV × AV), (AV.emp, AV.raw (.bool ex))] = es := by simpa [tclO] using he
    exact absurd rfl (k6 (AV.emp, AV.sls t xs) (by rw [← he]; simp))
  · rw [k1] at hl; cases hl
    rcases k3 with ⟨t', ex', xs', c, h1, rfl, h3, h4, h5, h6⟩ | ⟨_, _, _, _, h1, _⟩ | ⟨_, _, _, h1, _⟩
    · simp only [tclO, AO.mpo.injEq, List.cons.injEq, Prod.mk.injEq, AV.sls.injEq, AV.raw.injEq, Value.bool.injEq, true_and, and_true] at h1
      obtain ⟨⟨rfl, rfl⟩, rfl⟩ := h1
      exact ⟨c, k2, h3, h4, h5, h6⟩
    · simp [tclO, itrO] at h1
    · simp [tclO, mpxO] at h1
theorem tcl_repO {g : Gh} {heap : Array Obj} {o : Nat} {t : TypeId} {ex : Bool} {xs : List AV} {l : Am.Loc} {c : Array Value} (hl : g.loc o = some l) (hb : heap[l.blk]? = some (.cells c t (0, 0))) (h0 : l.base = 0) (hsz : l.size = c.size) (hx : xs.length ≤ c.size ∧ (ex = true → xs.length = c.size)) (hr : RepAt g xs c 0) :
    RepO g heap o (tclO t ex xs) := .inr (.inr (.inr ⟨l, _, hl, hb, .inl ⟨t, ex, xs, c, rfl, rfl, h0, hsz, hx, hr⟩⟩))
theorem Sim.eraseO {g : Gh} {H : AHeap} {w w' : World} (h : Sim g H w) (hs : Same w w') {o : Nat} {x0 : AO} (hx0 : H o = some x0) {l : Am.Loc} (hl : g.loc o = some l)
    (hoth : ∀ b, b ≠ l.blk → w'.heap[b]? = w.heap[b]?) : Sim g (H.erase o) w' := by
  refine ⟨hs.os.trans h.os, hs.tape.trans h.tape, hs.output.trans h.output, ?_, ?_, ?_, ?_, ?_⟩
  · intro b ob hbo
    rw [hoth b (fun e => by have := h.apart o x0 l hx0 hl; rw [← e] at this; rw [this] at hbo; cases hbo)]
    exact h.sealed b ob hbo
  · intro p y hp
    simp only [AHeap.erase] at hp
    by_cases hpo : p = o
    · rw [if_pos hpo] at hp; cases hp
    · rw [if_neg hpo] at hp
      exact (h.objs p y hp).move (.refl g) rfl fun l' hl' => hoth _ fun e => hpo (h.inj _ _ _ _ _ _ hp hx0 hl' hl e)
  · intro o1 o2 x1 x2 l1 l2 h1 h2 k1 k2 hbb
    simp only [AHeap.erase] at h1 h2
    split at h1
    · cases h1
    · split at h2
      · cases h2
      · exact h.inj _ _ _ _ _ _ h1 h2 k1 k2 hbb
  · intro p y l' hp hl'
    simp only [AHeap.erase] at hp
    split at hp
    · cases hp
    · exact h.apart p y l' hp hl'
  · obtain ⟨N, hN⟩ := h.fin
    refine ⟨N, fun p hp => ⟨?_, (hN p hp).2⟩⟩
    simp only [AHeap.erase]
    split
    · rfl
    · exact (hN p hp).1
end Go.Ex
namespace Go.Proofs
open Go Go.Shelf Go.Am Go.Ex Go.RowKit
def Tryz.lays161_ren : Go.Shelf.Ren := ⟨fun | 161 => 378 | 231 => 404 | 227 => 406 | 233 => 407 | 235 => 409 | 228 => 479 | 197 => 249 | 151 => 480 | 260 => 328 | 152 => 528 | 137 => 287 | 119 => 548 | 224 => 400 | 225 => 399 | 217 => 379 | 266 => 469 | n => n, fun | 9 => 9 | 4 => 4 | 3 => 3 | 5 => 5 | 117 => 563 | 116 => 562 | 0 => 0 | 124 => 566 | 105 => 425 | 21 => 21 | 119 => 555 | 46 => 180 | 139 => 558 | 138 => 557 | n => n, fun | 3 => 1 | 4 => 2 | n => n⟩
theorem Tryz.lays161 : Go.Proofs.Lays.n161 Tryz.prog Tryz.lays161_ren := {
  mixed := by kernel_rfl
  f119 := Tryz.func548.trans (congrArg some (by kernel_rfl))
  f137 := Tryz.func287.trans (congrArg some (by kernel_rfl))
  f151 := Tryz.func480.trans (congrArg some (by kernel_rfl))
  f152 := Tryz.func528.trans (congrArg some (by kernel_rfl))
  f161 := Tryz.func378.trans (congrArg some (by kernel_rfl))
  f197 := Tryz.func249.trans (congrArg some (by kernel_rfl))
  f217 := Tryz.func379.trans (congrArg some (by kernel_rfl))
  f224 := Tryz.func400.trans (congrArg some (by kernel_rfl))
  f225 := Tryz.func399.trans (congrArg some (by kernel_rfl))
  f227 := Tryz.func406.trans (congrArg some (by kernel_rfl))
  f228 := Tryz.func479.trans (congrArg some (by kernel_rfl))
  f231 := Tryz.func404.trans (congrArg some (by kernel_rfl))
  f233 := Tryz.func407.trans (congrArg some (by kernel_rfl))
  f235 := Tryz.func409.trans (congrArg some (by kernel_rfl))
  f260 := Tryz.func328.trans (congrArg some (by kernel_rfl))
  f266 := Tryz.func469.trans (congrArg some (by kernel_rfl))
  t0 := Tryz.underlying0
  a0 := Tryz.isAgg0
  z0 := Tryz.sizeOf0
  v0 := Tryz.zeroValue0
  t3 := Tryz.underlying3
  a3 := Tryz.isAgg3
  z3 := Tryz.sizeOf3
  v3 := Tryz.zeroValue3
  t4 := Tryz.underlying4
  a4 := Tryz.isAgg4
  z4 := Tryz.sizeOf4
  v4 := Tryz.zeroValue4
  t5 := Tryz.underlying5
  a5 := Tryz.isAgg5
  z5 := Tryz.sizeOf5
  v5 := Tryz.zeroValue5
  t9 := Tryz.underlying9
  a9 := Tryz.isAgg9
  z9 := Tryz.sizeOf9
  v9 := Tryz.zeroValue9
  t21 := Tryz.underlying21
  a21 := Tryz.isAgg21
  z21 := Tryz.sizeOf21
  v21 := Tryz.zeroValue21
  t46 := Tryz.underlying180
  a46 := Tryz.isAgg180
  z46 := Tryz.sizeOf180
  v46 := Tryz.zeroValue180
  t105 := Tryz.underlying425
  a105 := Tryz.isAgg425
  z105 := Tryz.sizeOf425
  v105 := Tryz.zeroValue425
  t116 := Tryz.underlying562
  a116 := Tryz.isAgg562
  z116 := Tryz.sizeOf562
  t117 := Tryz.underlying563
  a117 := Tryz.isAgg563
  z117 := Tryz.sizeOf563
  v117 := Tryz.zeroValue563
  t119 := Tryz.underlying555
  a119 := Tryz.isAgg555
  z119 := Tryz.sizeOf555
  t124 := Tryz.underlying566
  a124 := Tryz.isAgg566
  z124 := Tryz.sizeOf566
  v124 := Tryz.zeroValue566
  t138 := Tryz.underlying557
  a138 := Tryz.isAgg557
  z138 := Tryz.sizeOf557
  v138 := Tryz.zeroValue557
  t139 := Tryz.underlying558
  a139 := Tryz.isAgg558
  z139 := Tryz.sizeOf558
  v139 := Tryz.zeroValue558
  g3 := by kernel_rfl
  g4 := by kernel_rfl }
def Tryz.lays105_ren : Go.Shelf.Ren := ⟨fun | 105 => 184 | 212 => 254 | 99 => 255 | 165 => 256 | 166 => 40 | 170 => 257 | 169 => 42 | 263 => 332 | 264 => 333 | 206 => 334 | 240 => 91 | 241 => 335 | 276 => 190 | 277 => 402 | n => n, fun | 9 => 9 | 3 => 3 | 4 => 4 | 20 => 20 | 0 => 0 | 46 => 180 | 109 => 429 | 5 => 5 | 72 => 116 | 76 => 122 | 51 => 211 | 146 => 487 | 53 => 84 | 148 => 489 | 70 => 114 | 37 => 42 | 75 => 121 | 127 => 247 | 164 => 363 | 80 => 125 | n => n, fun | n => n⟩
theorem Tryz.lays105 : Go.Proofs.Lays.n105 Tryz.prog Tryz.lays105_ren := {
  mixed := by kernel_rfl
  f99 := Tryz.func255.trans (congrArg some (by kernel_rfl))
  f105 := Tryz.func184.trans (congrArg some (by kernel_rfl))
  f165 := Tryz.func256.trans (congrArg some (by kernel_rfl))
  f166 := Tryz.func40.trans (congrArg some (by kernel_rfl))
  f169 := Tryz.func42.trans (congrArg some (by kernel_rfl))
  f170 := Tryz.func257.trans (congrArg some (by kernel_rfl))
  f206 := Tryz.func334.trans (congrArg some (by kernel_rfl))
  f212 := Tryz.func254.trans (congrArg some (by kernel_rfl))
  f240 := Tryz.func91.trans (congrArg some (by kernel_rfl))
  f241 := Tryz.func335.trans (congrArg some (by kernel_rfl))
  f263 := Tryz.func332.trans (congrArg some (by kernel_rfl))
  f264 := Tryz.func333.trans (congrArg some (by kernel_rfl))
  f276 := Tryz.func190.trans (congrArg some (by kernel_rfl))
  f277 := Tryz.func402.trans (congrArg some (by kernel_rfl))
  t0 := Tryz.underlying0
  a0 := Tryz.isAgg0
  z0 := Tryz.sizeOf0
  v0 := Tryz.zeroValue0
  t3 := Tryz.underlying3
  a3 := Tryz.isAgg3
  z3 := Tryz.sizeOf3
  v3 := Tryz.zeroValue3
  t4 := Tryz.underlying4
  a4 := Tryz.isAgg4
  z4 := Tryz.sizeOf4
  v4 := Tryz.zeroValue4
  t5 := Tryz.underlying5
  a5 := Tryz.isAgg5
  z5 := Tryz.sizeOf5
  v5 := Tryz.zeroValue5
  t9 := Tryz.underlying9
  a9 := Tryz.isAgg9
  z9 := Tryz.sizeOf9
  v9 := Tryz.zeroValue9
  t20 := Tryz.underlying20
  a20 := Tryz.isAgg20
  z20 := Tryz.sizeOf20
  v20 := Tryz.zeroValue20
  t37 := Tryz.underlying42
  a37 := Tryz.isAgg42
  z37 := Tryz.sizeOf42
  v37 := Tryz.zeroValue42
  t46 := Tryz.underlying180
  a46 := Tryz.isAgg180
  z46 := Tryz.sizeOf180
  v46 := Tryz.zeroValue180
  t51 := Tryz.underlying211
  a51 := Tryz.isAgg211
  z51 := Tryz.sizeOf211
  v51 := Tryz.zeroValue211
  t53 := Tryz.underlying84
  a53 := Tryz.isAgg84
  z53 := Tryz.sizeOf84
  v53 := Tryz.zeroValue84
  t70 := Tryz.underlying114
  a70 := Tryz.isAgg114
  z70 := Tryz.sizeOf114
  v70 := Tryz.zeroValue114
  t72 := Tryz.underlying116
  a72 := Tryz.isAgg116
  z72 := Tryz.sizeOf116
  v72 := Tryz.zeroValue116
  t75 := Tryz.underlying121
  a75 := Tryz.isAgg121
  z75 := Tryz.sizeOf121
  v75 := Tryz.zeroValue121
  t76 := Tryz.underlying122
  a76 := Tryz.isAgg122
  z76 := Tryz.sizeOf122
  v76 := Tryz.zeroValue122
  t109 := Tryz.underlying429
  a109 := Tryz.isAgg429
  z109 := Tryz.sizeOf429
  v109 := Tryz.zeroValue429
  t127 := Tryz.underlying247
  a127 := Tryz.isAgg247
  z127 := Tryz.sizeOf247
  v127 := Tryz.zeroValue247
  t146 := Tryz.underlying487
  a146 := Tryz.isAgg487
  z146 := Tryz.sizeOf487
  v146 := Tryz.zeroValue487
  t148 := Tryz.underlying489
  a148 := Tryz.isAgg489
  z148 := Tryz.sizeOf489
  v148 := Tryz.zeroValue489
  t164 := Tryz.underlying363
  a164 := Tryz.isAgg363
  z164 := Tryz.sizeOf363
  v164 := Tryz.zeroValue363 }
theorem Tryz.f_trimLeft (s c : ByteArray) (w : World) (hcs : c.size < 4294967281) (ha : ∀ (j : Nat) b, c.data.toList[j]? = some b → b.toNat < 128) :
    Calls Tryz.prog 378 #[.string s, .string c] w fun e w' => e = .returned (.string ⟨(Lib.trimLeftS s.data.toList c.data.toList).toArray⟩) ∧ Below w.heap.size w w' :=
  Any.strings_TrimLeft_laid Tryz.lays161 (by kernel_rfl) s c w hcs ha
theorem Tryz.extraX72 : Builder.X72 Tryz.prog Tryz.lays105_ren := { sizeBuilder := by kernel_rfl, liesBuilder := by kernel_rfl }
theorem Tryz.extraB : Builder.Extra Tryz.prog Tryz.lays105_ren := { Tryz.extraX72 with
  t5 := Tryz.underlying5, a5 := Tryz.isAgg5, z5 := Tryz.sizeOf5, v5 := Tryz.zeroValue5, infoByte := by kernel_rfl, cellsByte := by kernel_rfl, sizeByte := by kernel_rfl, neB5 := by decide }
theorem Tryz.f_repeat (s : ByteArray) (c : Nat) (w : World) (hc : c ≤ 9223372036854775807) (hl : s.size * c ≤ 140737488355328) :
    Calls Tryz.prog 184 #[.string s, .int .i64 c] w fun e w' => e = .returned (.string ⟨(Lib.repeatL s.data.toList c).toArray⟩) ∧ Below w.heap.size w w' :=
  Any.strings_Repeat Tryz.lays105 Tryz.extraB s c w hc hl
theorem Tryz.f_count (s : ByteArray) (c : Int) (w : World) : (callFunc 331 #[.string s, .int .u8 c]).run Tryz.prog w = .ok (.value (.int .i64 (Lib.countByte s.data.toList c.toNat.toUInt8))) w := by
  rw [run_callFunc_extern Tryz.func331 (by kernel_rfl) (by kernel_rfl) (by kernel_rfl) (e := Extern.BytealgCount.count) (by kernel_rfl), Lib.run_countString]
  rfl
theorem Tryz.f_index (s : ByteArray) (c : Int) (w : World) : (callFunc 469 #[.string s, .int .u8 c]).run Tryz.prog w = .ok (.value (.int .i64 (Lib.indexByte s.data.toList c.toNat.toUInt8))) w := by
  rw [run_callFunc_extern Tryz.func469 (by kernel_rfl) (by kernel_rfl) (by kernel_rfl) (e := Extern.BytealgIndexByte.indexByte) (by kernel_rfl), Lib.run_indexByteString]
  rfl
end Go.Proofs
namespace Go.Proofs
open Go Go.Shelf Go.Am Go.Ex Go.RowKit
theorem Tryz.l240 : Lays.n240 Tryz.prog Tryz.lays105_ren := { Tryz.lays105 with }
theorem Tryz.f_copyCheck (b : Nat) (w : World) (h0 : w.cell? ⟨b, 0, none⟩ = some (.pointer none)) (hsh : w.shape? b = some (116, 2)) (hfz : w.frozen? ⟨b, 0, none⟩ = false) :
    Calls Tryz.prog 91 #[.pointer (some ⟨b, 0, none⟩)] w fun e w' => e = .returned (.tuple #[]) ∧ w' = w.setCell ⟨b, 0, none⟩ (.pointer (some ⟨b, 0, none⟩)) :=
  Any.Builder_copyCheck_fresh Tryz.l240 Tryz.extraX72 b w h0 hsh hfz
set_option maxRecDepth 100000 in
set_option maxHeartbeats 1600000 in
theorem Tryz.f_write (b : Nat) (s : ByteArray) (w : World) (hb : w.heap[b]? = some (.cells #[.pointer none, .slice none 0 0] 116 (0, 0))) (hs : 0 < s.size) (hs2 : s.size ≤ 140737488355328) :
    Calls Tryz.prog 40 #[.pointer (some ⟨b, 0, none⟩), .string s] w fun e w' => e = .returned (.tuple #[.int .i64 s.size, .nilIface]) ∧ ∃ cap, s.size ≤ cap ∧
      w' = (((w.setCell ⟨b, 0, none⟩ (.pointer (some ⟨b, 0, none⟩))).setCell ⟨b, 1, none⟩ (.slice (some ⟨w.heap.size, 0, none⟩) s.size cap)).alloc (.cells ((Array.map (fun b => Value.int IntKind.u8 ↑b.toNat) s.data).extract 0 s.size ++ Builtin.zeroCells #[Value.int IntKind.u8 0] (cap - s.size)) 5)).drew := by
  have c0 : w.cell? ⟨b, 0, none⟩ = some (.pointer none) := by simp [World.cell?, hb]
  have hsh : w.shape? b = some (116, 2) := by simp [World.shape?, hb]
  have z0 : w.frozen? ⟨b, 0, none⟩ = false := by simp [World.frozen?, hb]
  have c1 : (w.setCell ⟨b, 0, none⟩ (.pointer (some ⟨b, 0, none⟩))).cell? ⟨b, 1, none⟩ = some (.slice none 0 0) := by simp [World.cell?, World.setCell, Array.getElem?_modify, hb]
  have hlt : b < w.heap.size := (Array.getElem?_eq_some_iff.1 hb).1
  have g1 : ∀ ob, ((w.setCell ⟨b, 0, none⟩ (.pointer (some ⟨b, 0, none⟩))).alloc ob).cell? ⟨b, 1, none⟩ = some (.slice none 0 0) := fun ob => by rw [World.cell?_alloc_past _ _ _ (by simpa using hlt)]; exact c1
  have g2 : ∀ ob, ((w.setCell ⟨b, 0, none⟩ (.pointer (some ⟨b, 0, none⟩))).alloc ob).frozen? ⟨b, 1, none⟩ = false := fun ob => by
    rw [World.frozen?_alloc_past _ _ _ (by simpa using hlt)]; simp [World.frozen?, World.setCell, Array.getElem?_modify, hb]
  have hbytes : Tryz.t5.bytes = 1 := by kernel_rfl
  have hcap : ¬ 281474976710656 < Builtin.nextslicecap s.size 0 * Tryz.t5.bytes := by
    have := growslice_fits hs (bytes := Tryz.t5.bytes) (by rw [hbytes]; omega)
    omega
  go_enter Tryz.func40, Tryz.ntmps40
  go_wp2_with (go_at_call 91; refine (Tryz.f_copyCheck b _ c0 hsh z0).mono ?_; rintro e w' ⟨rfl, rfl⟩)
  go_ret2
  exact ⟨rfl, _, grownCap_ge w s.size 0 5, rfl⟩
set_option maxRecDepth 100000 in
set_option maxHeartbeats 1600000 in
theorem Tryz.f_string (b g cap : Nat) (p : Value) (cur : Array Value) (l : List UInt8) (w : World) (hb : w.heap[b]? = some (.cells #[p, .slice (some ⟨g, 0, none⟩) l.length cap] 116 (0, 0))) (h0 : l ≠ []) (hg : w.heap[g]? = some (.cells cur 5 (0, 0)))
    (hcap : l.length ≤ cap) (hc63 : l.length ≤ 140737488355328) (hn : l.length ≤ cur.size) (hcur : ∀ (j : Nat) (x : UInt8), l[j]? = some x → cur[j]? = some (Value.int .u8 (x.toNat : Int))) :
    Calls Tryz.prog 42 #[.pointer (some ⟨b, 0, none⟩)] w fun e w' => e = .returned (.string ⟨l.toArray⟩) ∧ w' = w.drew.freeze ⟨g, 0, none⟩ l.length := by
  have hl0 : l.length ≠ 0 := by simpa using h0
  have c1 : w.drew.cell? ⟨b, 1, none⟩ = some (.slice (some ⟨g, 0, none⟩) l.length cap) := by
    have : w.drew.heap[b]? = some (.cells #[p, .slice (some ⟨g, 0, none⟩) l.length cap] 116 (0, 0)) := hb
    rw [Lib.cell_of_heap this]; rfl
  have hSD : (Builtin.unsafeSliceData_ #[42] 247 #[.slice (some ⟨g, 0, none⟩) l.length cap]).run Tryz.prog w.drew = .ok (.pointer (some ⟨g, 0, none⟩)) w.drew :=
    Lib.run_unsafeSliceData_row _ _ _ _ _ _ (by omega)
  have hg' : w.drew.heap[g]? = some (.cells cur 5 (0, 0)) := hg
  have hUS : (Builtin.unsafeString_ #[247, 3] 9 #[.pointer (some ⟨g, 0, none⟩), .int .i64 l.length]).run Tryz.prog w.drew = .ok (.string ⟨l.toArray⟩) (w.drew.freeze ⟨g, 0, none⟩ l.length) := by
    refine Lib.run_unsafeString_row w.drew 247 3 9 5 Tryz.underlying247 (by kernel_rfl) g cur.size (by simp [World.shape?, hg']) l h0 hn (by omega) ?_
    intro j x hx
    have := hcur j x hx
    rw [show ((⟨g, 0, none⟩ : Addr).add j) = ⟨g, j, none⟩ from by simp [Addr.add]; omega]
    rw [Lib.cell_of_heap hg']; exact this
  have mixed : Tryz.prog.follows .mixedOrders = true := by kernel_rfl
  go_enter Tryz.func42, Tryz.ntmps42
  go_wp2
  go_region_o
  all_goals (go_wp2; go_ret; exact ⟨rfl, rfl⟩)
end Go.Proofs
namespace Go.Ex
open Go Go.Am Go.RowKit
noncomputable section
section
variable {ρ : Type}
def sWrite (tB tb : Nat) (z : ρ) : SumF ρ := fun args H a k => two args (fun p s => asPtr p (fun o j => natOn j (atTcl H o (fun t ex xs => ifb ex (eqN t tB (two xs (fun p0 v0 => asNilP p0 (asNilS v0 (asStr s (fun bs => listOn bs z (fun _ _ => ifb (Nat.ble bs.length most)
  (k (.tup [iN bs.length, .raw .nilIface]) ((H.put o (.tcl tB true [.ptr o 0, .vwn a 1 0 bs.length])).put a (.tcl tb false (ofBytes bs))) (Nat.succ a)) z)) z) z) z) z) z) z) z) (fun _ => z)) z) z
def sText (tB tb : Nat) (z : ρ) : SumF ρ := fun args H a k => just args (fun p => asPtr p (fun o j => natOn j (atTcl H o (fun t ex xs => ifb ex (eqN t tB (two xs (fun p0 v0 => asVwn v0 (fun o' s off len => eqN s 1 (natOn off (natOn len z (fun _ => atTcl H o' (fun t' ex' ys => eqN t' tb
  (toBytes ys (fun bs => eqN bs.length len (ifb (Nat.ble len most) (k (.str bs) (H.del o') a) z) z) z) z) z)) (fun _ => z)) z) z) z) z) z) z) (fun _ => z)) z) z
end
section
variable {ρ : Type} {Good : ρ → Prop} {z : ρ} (hz : ¬ Good z)
theorem rep_nilP {g : Gh} {v : Value} (h : Rep g (.raw (.pointer none)) v) : v = .pointer none := by simpa only [Rep] using h
include hz in
theorem write_ok {args : List AV} {H : T XO} {a : Nat} {k : K ρ} (h : Good (sWrite 116 5 z args H a k)) : ∃ x H' b, FuncT Go.Proofs.Tryz.prog 40 ∧ CallS Go.Proofs.Tryz.prog 40 args H a x H' b ∧ Good (k x H' b) := by
  rcases two_cases h with ⟨x, s, rfl, h⟩ | h
  rotate_left
  · exact absurd h hz
  rcases asPtr_cases h with ⟨o, j, rfl, h⟩ | h
  rotate_left
  · exact absurd h hz
  rcases natOn_cases h with ⟨rfl, h⟩ | ⟨_, _, h⟩
  rotate_left
  · exact absurd h hz
  rcases atTcl_cases h with ⟨t, ex, xs, hH, h⟩ | h
  rotate_left
  · exact absurd h hz
  rcases ifb_cases h with ⟨rfl, h⟩ | ⟨_, h⟩
  rotate_left
  · exact absurd h hz
  rcases eqN_cases h with ⟨rfl, h⟩ | h
  rotate_left
  · exact absurd h hz
  rcases two_cases h with ⟨p0, v0, rfl, h⟩ | h
  rotate_left
  · exact absurd h hz
  rcases asNilP_cases h with ⟨rfl, h⟩ | h
  rotate_left
  · exact absurd h hz
  rcases asNilS_cases h with ⟨rfl, h⟩ | h
  rotate_left
  · exact absurd h hz
  rcases asStr_cases h with ⟨bs, rfl, h⟩ | h
  rotate_left
  · exact absurd h hz
  rcases listOn_cases h with ⟨_, h⟩ | ⟨b0, r0, hbs, h⟩
  · exact absurd h hz
  rcases ble_cases h with ⟨hl, h⟩ | h
  rotate_left
  · exact absurd h hz
  unfold most at hl
  refine ⟨_, _, _, ⟨Go.Proofs.Tryz.call40⟩, ⟨by omega, fun p hp => ?_, fun F g w vals hd hr hs hfr => ?_⟩, h⟩
  · rw [hof_put, hof_put] at hp
    simp only [AHeap.set] at hp
    by_cases e1 : p = a
    · exact .inr (by omega)
    · rw [if_neg e1] at hp
      by_cases e2 : p = o
      · rw [e2, hof_tcl hH]; exact .inl rfl
      · rw [if_neg e2] at hp; exact .inl hp
  obtain ⟨pv, sv, rfl, hp, hsv⟩ := rep2 hr
  simp only [Rep] at hp hsv
  obtain ⟨l, hloc, rfl⟩ := hp
  subst hsv
  obtain ⟨c, k1, k2, k3, k4, k5⟩ := tcl_read hs (join_some (hof_tcl hH)) hloc
  have hc2 : c.size = 2 := (k4.2 rfl).symm
  have hcc : c = #[.pointer none, .slice none 0 0] := by
    obtain ⟨u0, q0, _, r0⟩ := (repAt_iff _ _ _).1 k5 0 _ rfl
    obtain ⟨u1, q1, _, r1⟩ := (repAt_iff _ _ _).1 k5 1 _ rfl
    simp only [Rep] at r0 r1
    subst r0; subst r1
    apply Array.ext_getElem?
    intro i
    match i with
    | 0 => exact q0
    | 1 => exact q1
    | i + 2 => rw [Array.getElem?_eq_none (by omega)]; simp
  subst hcc
  have hao : a ≠ o := fun e => by
    have := hfr a (Nat.le_refl a) (by omega)
    rw [e, hloc] at this; cases this
  have hfree : g.loc a = none := hfr a (Nat.le_refl a) (by omega)
  have hblt : l.blk < w.heap.size := (Array.getElem?_eq_some_iff.1 k1).1
  rw [k2]
  refine (Go.Proofs.Tryz.f_write l.blk ⟨bs.toArray⟩ w k1 (by rw [hbs]; simp [ByteArray.size]) (by simpa [ByteArray.size] using hl)).mono ?_
  rintro e w' ⟨rfl, cap, hcap, rfl⟩
  have hsize : (⟨bs.toArray⟩ : ByteArray).size = bs.length := by simp [ByteArray.size]
  rw [hsize] at hcap ⊢
  generalize hc3 : ((Array.map (fun b => Value.int IntKind.u8 ↑b.toNat) (⟨bs.toArray⟩ : ByteArray).data).extract 0 bs.length ++ Builtin.zeroCells #[Value.int IntKind.u8 0] (cap - bs.length) : Array Value) = c3
  have hc3s : c3.size = cap := by
    rw [← hc3, Array.size_append, size_zeroCells, Array.size_extract]
    simp
    omega
  have hrep : RepAt g (ofBytes bs) c3 0 := (repAt_iff _ _ _).2 fun i y hi => by
    simp only [ofBytes, List.getElem?_map, Option.map_eq_some_iff] at hi
    obtain ⟨b, hb, rfl⟩ := hi
    obtain ⟨hlt, hbe⟩ := List.getElem?_eq_some_iff.1 hb
    refine ⟨.int .u8 (b.toNat : Int), ?_, by trivial, by simp only [Rep]⟩
    rw [← hc3, Nat.zero_add, Array.getElem?_append_left (by simp; exact hlt), Array.getElem?_extract]
    simp [hlt, hbe]
  have hle := g.le_at hfree ⟨w.heap.size, 0, c3.size⟩
  have hself := Gh.at_self g a ⟨w.heap.size, 0, c3.size⟩
  have hlen3 : (ofBytes bs).length ≤ c3.size := by rw [hc3s]; simp [ofBytes]; exact hcap
  have s1 := hs.newO (w' := w.alloc (.cells c3 5)) (ob := .cells c3 5) (o := a) (sz := c3.size) (x := tclO 5 false (ofBytes bs)) ⟨rfl, rfl, rfl⟩ rfl hfree
    (tcl_repO hself Array.getElem?_push_size rfl rfl ⟨hlen3, fun h => by cases h⟩ (RepAt.mono hle _ _ _ hrep))
  have hl' := hle.loc _ _ hloc
  have hget : ((join (hof H) F).set a (tclO 5 false (ofBytes bs))) o = some (tclO 116 true [.raw (.pointer none), .raw (.slice none 0 0)]) := by
    simp only [AHeap.set]
    rw [if_neg (fun e => hao e.symm)]
    exact join_some (hof_tcl hH)
  have hblk : ∀ b, (((w.setCell ⟨l.blk, 0, none⟩ (.pointer (some ⟨l.blk, 0, none⟩))).setCell ⟨l.blk, 1, none⟩ (.slice (some ⟨w.heap.size, 0, none⟩) bs.length cap)).alloc (.cells c3 5)).drew.heap[b]? = if b = l.blk then some (.cells #[.pointer (some ⟨l.blk, 0, none⟩), .slice (some ⟨w.heap.size, 0, none⟩) bs.length cap] 116 (0, 0)) else (w.alloc (.cells c3 5)).heap[b]? := fun b => by
    show (Array.push _ _)[b]? = if b = l.blk then _ else (w.heap.push _)[b]?
    rw [Array.getElem?_push, Array.getElem?_push]
    simp only [World.setCell, Array.size_modify]
    by_cases e : b = w.heap.size
    · rw [if_pos e, if_neg (by omega), if_pos e]
    · rw [if_neg e, if_neg e, Array.getElem?_modify, Array.getElem?_modify]
      by_cases e2 : b = l.blk
      · subst e2
        simp only [if_pos, k1, Option.map_some]
        rfl
      · rw [if_neg e2, if_neg (fun h => e2 h.symm), if_neg (fun h => e2 h.symm)]
  have s2 := s1.writeO (w' := (((w.setCell ⟨l.blk, 0, none⟩ (.pointer (some ⟨l.blk, 0, none⟩))).setCell ⟨l.blk, 1, none⟩ (.slice (some ⟨w.heap.size, 0, none⟩) bs.length cap)).alloc (.cells c3 5)).drew) (x := tclO 116 true [.ptr o 0, .vwn a 1 0 bs.length]) ⟨rfl, rfl, rfl⟩ hget hl'
    (fun b hb => by rw [hblk b, if_neg hb]) (tcl_repO hl' (by rw [hblk, if_pos rfl]) k2 (by rw [k3]; rfl) ⟨Nat.le_refl _, fun _ => rfl⟩ (by
      simp only [RepAt, Rep, and_true]
      refine ⟨⟨.pointer (some ⟨l.blk, 0, none⟩), rfl, by trivial, l, hl', by rw [k2]⟩, ⟨.slice (some ⟨w.heap.size, 0, none⟩) bs.length cap, rfl, by trivial, .inl ⟨⟨w.heap.size, 0, c3.size⟩, cap, hself, by simp, hcap, by simp [hc3s]⟩⟩⟩))
  refine ⟨_, g.at a ⟨w.heap.size, 0, c3.size⟩, rfl, ⟨hle, fun p hp => by simp [Gh.at]; omega⟩, ?_, ?_⟩
  · simp only [Rep, iN]
    exact ⟨_, rfl, by simp [RepL, Rep]⟩
  · have e : join (hof ((H.put o (.tcl 116 true [.ptr o 0, .vwn a 1 0 bs.length])).put a (.tcl 5 false (ofBytes bs)))) F = ((join (hof H) F).set a (tclO 5 false (ofBytes bs))).set o (tclO 116 true [.ptr o 0, .vwn a 1 0 bs.length]) := by
      rw [hof_put, hof_put, join_set, join_set]
      congr 1
      funext p
      simp only [AHeap.set, XO.ao]
      by_cases e1 : p = a
      · rw [if_pos e1, if_neg (fun e => hao (e1.symm.trans e)), if_pos e1]
      · rw [if_neg e1, if_neg e1]
    rw [e]
    exact s2
include hz in
theorem text_ok {args : List AV} {H : T XO} {a : Nat} {k : K ρ} (h : Good (sText 116 5 z args H a k)) : ∃ x H' b, FuncT Go.Proofs.Tryz.prog 42 ∧ CallS Go.Proofs.Tryz.prog 42 args H a x H' b ∧ Good (k x H' b) := by
  rcases listOn_cases (l := args) h with ⟨_, h⟩ | ⟨x, r, rfl, h⟩
  · exact absurd h hz
  rcases listOn_cases h with ⟨rfl, h⟩ | ⟨_, _, _, h⟩
  rotate_left
  · exact absurd h hz
  rcases asPtr_cases h with ⟨o, j, rfl, h⟩ | h
  rotate_left
  · exact absurd h hz
  rcases natOn_cases h with ⟨rfl, h⟩ | ⟨_, _, h⟩
  rotate_left
  · exact absurd h hz
  rcases atTcl_cases h with ⟨t, ex, xs, hH, h⟩ | h
  rotate_left
  · exact absurd h hz
  rcases ifb_cases h with ⟨rfl, h⟩ | ⟨_, h⟩
  rotate_left
  · exact absurd h hz
  rcases eqN_cases h with ⟨rfl, h⟩ | h
  rotate_left
  · exact absurd h hz
  rcases two_cases h with ⟨p0, v0, rfl, h⟩ | h
  rotate_left
  · exact absurd h hz
  rcases asVwn_cases h with ⟨o', s, off, len, rfl, h⟩ | h
  rotate_left
  · exact absurd h hz
  rcases eqN_cases h with ⟨rfl, h⟩ | h
  rotate_left
  · exact absurd h hz
  rcases natOn_cases h with ⟨rfl, h⟩ | ⟨_, _, h⟩
  rotate_left
  · exact absurd h hz
  rcases natOn_cases h with ⟨_, h⟩ | ⟨len', hlen, h⟩
  · exact absurd h hz
  rcases atTcl_cases h with ⟨t', ex', ys, hH', h⟩ | h
  rotate_left
  · exact absurd h hz
  rcases eqN_cases h with ⟨rfl, h⟩ | h
  rotate_left
  · exact absurd h hz
  rcases toBytes_cases h with ⟨bs, hys, h1⟩ | h1
  rotate_left
  · exact absurd h1 hz
  rw [hys] at hH'
  rcases eqN_cases h1 with ⟨hbl, h2⟩ | h2
  rotate_left
  · exact absurd h2 hz
  rcases ble_cases h2 with ⟨hl, h3⟩ | h3
  rotate_left
  · exact absurd h3 hz
  unfold most at hl
  refine ⟨_, _, _, ⟨Go.Proofs.Tryz.call42⟩, ⟨Nat.le_refl a, fun p hp => ?_, fun F g w vals hd hr hs hfr => ?_⟩, h3⟩
  · rw [hof_del] at hp
    simp only [AHeap.erase] at hp
    split at hp
    · cases hp
    · exact .inl hp
  obtain ⟨pv, rfl, hp⟩ := rep1 hr
  simp only [Rep] at hp
  obtain ⟨l, hloc, rfl⟩ := hp
  obtain ⟨c, k1, k2, k3, k4, k5⟩ := tcl_read hs (join_some (hof_tcl hH)) hloc
  have hc2 : c.size = 2 := (k4.2 rfl).symm
  obtain ⟨u0, q0, _, r0⟩ := (repAt_iff _ _ _).1 k5 0 _ rfl
  obtain ⟨u1, q1, _, r1⟩ := (repAt_iff _ _ _).1 k5 1 _ rfl
  simp only [Rep] at r1
  rcases r1 with ⟨l', cap, hloc', rfl, hcap, hfit⟩ | ⟨h0, _⟩
  rotate_left
  · omega
  obtain ⟨cur, m1, m2, m3, m4, m5⟩ := tcl_read hs (join_some (hof_tcl hH')) hloc'
  have hcc : c = #[u0, .slice (some ⟨l'.blk, 0, none⟩) bs.length cap] := by
    apply Array.ext_getElem?
    intro i
    match i with
    | 0 => exact q0
    | 1 => rw [show (0 : Nat) + 1 = 1 from rfl] at q1; rw [q1, m2, hbl]; rfl
    | i + 2 => rw [Array.getElem?_eq_none (by omega)]; simp
  subst hcc
  have hne : bs ≠ [] := fun e => by rw [e] at hbl; simp at hbl; omega
  rw [k2]
  refine (Go.Proofs.Tryz.f_string l.blk l'.blk cap u0 cur bs w k1 hne m1 (by omega) (by omega) (by have := m4.1; simpa [ofBytes] using this) (fun j x hx => ?_)).mono ?_
  · obtain ⟨u, hu, _, hr⟩ := (repAt_iff _ _ _).1 m5 j (.raw (.int .u8 (x.toNat : Int))) (by simp only [ofBytes, List.getElem?_map, hx, Option.map_some])
    simp only [Rep] at hr
    subst hr
    rw [Nat.zero_add] at hu
    exact hu
  · rintro e w' ⟨rfl, rfl⟩
    have hF : F o' = none := hd.h o' _ (hof_tcl hH')
    refine ⟨_, g, rfl, .refl g a a, by simp only [Rep], ?_⟩
    rw [hof_del, ← join_erase hF]
    have hs1 : Sim g (join (hof H) F) w.drew := hs.same ⟨rfl, rfl, rfl⟩ rfl
    refine Sim.eraseO hs1 (w' := w.drew.freeze ⟨l'.blk, 0, none⟩ bs.length) ?_ (join_some (hof_tcl hH')) hloc' (fun b hb => ?_)
    · unfold World.freeze
      split <;> exact ⟨rfl, rfl, rfl⟩
    · unfold World.freeze
      split
      · rfl
      · simp only [Array.getElem?_modify]
        rw [if_neg (fun h => hb h.symm)]
end
end
end Go.Ex
namespace Go.Proofs
open Go Go.Am Go.Ex
theorem rep2' {g : Gh} {x y : AV} {vals : Array Value} (h : RepL g [x, y] vals.toList) : ∃ u v, vals = #[u, v] ∧ Rep g x u ∧ Rep g y v := by
  simp only [RepL] at h
  obtain ⟨u, r, h1, h2, v, r2, h3, h4, h5⟩ := h
  refine ⟨u, v, ?_, h2, h4⟩
  rw [← Array.toArray_toList (xs := vals), h1, h3, h5]
theorem o_disable (w : World) : (callFunc 416 #[]).run Tryz.prog w = .ok (.value (.tuple #[])) w := run_call_mark0 Tryz.func416 (by kernel_rfl) (by kernel_rfl) (by kernel_rfl) .disable (by kernel_rfl) w
theorem o_enable (w : World) : (callFunc 418 #[]).run Tryz.prog w = .ok (.value (.tuple #[])) w := run_call_mark0 Tryz.func418 (by kernel_rfl) (by kernel_rfl) (by kernel_rfl) .enable (by kernel_rfl) w
theorem o_acquire (a : Addr) (w : World) : (callFunc 419 #[.pointer (some a)]).run Tryz.prog w = .ok (.value (.tuple #[])) w := run_call_marked Tryz.func419 (by kernel_rfl) (by kernel_rfl) (by kernel_rfl) .acquire (by kernel_rfl) a w
theorem o_release (a : Addr) (w : World) : (callFunc 421 #[.pointer (some a)]).run Tryz.prog w = .ok (.value (.tuple #[])) w := run_call_marked Tryz.func421 (by kernel_rfl) (by kernel_rfl) (by kernel_rfl) .releaseMerge (by kernel_rfl) a w
theorem o_store (a : Addr) (x : Value) (u : FrameMode) (w : World) (hc : w.cell? a = some x) (hz : w.frozen? a = false) :
    CallsD Tryz.prog 267 #[.pointer (some a), .bool true] u w fun e u' w' => u' = u ∧ (e = .returned (.tuple #[]) ∧ w' = w.drew.setCell a (.int .u32 1)) := by
  have hc' : w.drew.cell? a = some x := by go_simp
  have hz' : w.drew.frozen? a = false := by go_simp
  have hst := run_call_store (P := Tryz.prog) Tryz.func347 (by kernel_rfl) (by kernel_rfl) (by kernel_rfl) (by kernel_rfl) (k := .u32) (y := 1) hc' hz'
  go_enter_d Tryz.func267, Tryz.ntmps267
  go_wp2
  go_region_calls
  all_goals (go_end0; exact ⟨rfl, rfl⟩)
set_option maxRecDepth 100000 in
set_option maxHeartbeats 1600000 in
theorem o_unlock1 (a : Addr) (w : World) (hc : w.cell? a = some (.int .i32 1)) (hz : w.frozen? a = false) :
    Calls Tryz.prog 346 #[.pointer (some a)] w fun e w' => e = .returned (.tuple #[]) ∧ w' = w.setCell a (.int .i32 0) := by
  have hd := o_disable
  have he := o_enable
  have hr := o_release
  have hadd := run_call_add (P := Tryz.prog) Tryz.func422 (by kernel_rfl) (by kernel_rfl) (by kernel_rfl) .i32 (by kernel_rfl) (y := -1) (s := 0) hc hz (by simp [go_sem]; rfl)
  have hcv := run_convert_to_unsafe (P := Tryz.prog) (src := 569) (dst := 363) Tryz.underlying569 Tryz.underlying363 (by kernel_rfl) hc
  go_enter Tryz.func346, Tryz.ntmps346
  go_wp2
  go_end0
  exact ⟨rfl, rfl⟩
set_option maxRecDepth 100000 in
set_option maxHeartbeats 1600000 in
theorem o_lock1 (a : Addr) (w : World) (hc : w.cell? a = some (.int .i32 0)) (hz : w.frozen? a = false) :
    Calls Tryz.prog 345 #[.pointer (some a)] w fun e w' => e = .returned (.tuple #[]) ∧ w' = w.setCell a (.int .i32 1) := by
  have hd := o_disable
  have he := o_enable
  have ha := o_acquire
  have hcas := run_call_cas_hit (P := Tryz.prog) Tryz.func417 (by kernel_rfl) (by kernel_rfl) (by kernel_rfl) .i32 (by kernel_rfl) (y := 1) hc hz
  have hc' : (w.setCell a (.int .i32 1)).cell? a = some (.int .i32 1) := World.cell?_setCell_same w a _ hc
  have hcv := run_convert_to_unsafe (P := Tryz.prog) (src := 569) (dst := 363) Tryz.underlying569 Tryz.underlying363 (by kernel_rfl) hc'
  go_enter Tryz.func345, Tryz.ntmps345
  go_wp2
  first | go_end0 | (simp only [Exit.inBlock, Exit.then]; refine bodyPost_ret (results_none rfl _ _ _) rfl ?_) | refine bodyPost_ret (results_none rfl _ _ _) rfl ?_
  exact ⟨rfl, rfl⟩
theorem o_lock (a : Addr) (w : World) (hc : w.cell? a = some (.int .i32 0)) (hz : w.frozen? a = false) :
    Calls Tryz.prog 265 #[.pointer (some a)] w fun e w' => e = .returned (.tuple #[]) ∧ w' = w.setCell a (.int .i32 1) := by
  go_enter Tryz.func265, Tryz.ntmps265
  go_wp2_with (go_at_call 345; refine (o_lock1 a _ hc hz).mono ?_; rintro e w' ⟨rfl, rfl⟩)
  go_end0
  exact ⟨rfl, rfl⟩
theorem o_unlock (a : Addr) (u : FrameMode) (w : World) (hc : w.cell? a = some (.int .i32 1)) (hz : w.frozen? a = false) :
    CallsD Tryz.prog 266 #[.pointer (some a)] u w fun e u' w' => u' = u ∧ (e = .returned (.tuple #[]) ∧ w' = w.setCell a (.int .i32 0)) := by
  go_enter_d Tryz.func266, Tryz.ntmps266
  go_wp2_with (go_at_call 346; refine (o_unlock1 a _ hc hz).mono ?_; rintro e w' ⟨rfl, rfl⟩)
  go_end0
  exact ⟨rfl, rfl⟩
theorem o_load (a : Addr) (w : World) (hc : w.cell? a = some (.int .u32 0)) :
    Calls Tryz.prog 187 #[.pointer (some a)] w fun e w' => e = .returned (.bool false) ∧ w' = w := by
  have hl := run_call_load (P := Tryz.prog) Tryz.func264 (by kernel_rfl) (by kernel_rfl) (by kernel_rfl) .u32 (by kernel_rfl) hc
  go_enter Tryz.func187, Tryz.ntmps187
  go_wp2
  go_ret
  exact ⟨rfl, rfl⟩
set_option maxRecDepth 100000 in
set_option maxHeartbeats 1600000 in
theorem o_slow (b off : Nat) (h : FuncId) (hF : FuncT Tryz.prog h) (u v : Array Value) (w : World) (K : World → Prop)
    (h0 : w.cell? ⟨b, off, none⟩ = some (.int .u32 0)) (h1 : w.cell? ⟨b, off + 1, none⟩ = some (.int .i32 0)) (f1 : w.frozen? ⟨b, off + 1, none⟩ = false)
    (hc : Calls Tryz.prog h (u ++ v) (w.setCell ⟨b, off + 1, none⟩ (.int .i32 1)) fun e w1 => ∃ r, e = .returned r ∧ w1.cell? ⟨b, off, none⟩ = some (.int .u32 0) ∧ w1.cell? ⟨b, off + 1, none⟩ = some (.int .i32 1) ∧ w1.frozen? ⟨b, off, none⟩ = false ∧ w1.frozen? ⟨b, off + 1, none⟩ = false ∧ K w1) :
    Calls Tryz.prog 188 #[.pointer (some ⟨b, off, none⟩), .func (.func h) u v] w fun e w' => e = .returned (.tuple #[]) ∧ ∃ w1, K w1 ∧ w' = (w1.drew.setCell ⟨b, off, none⟩ (.int .u32 1)).setCell ⟨b, off + 1, none⟩ (.int .i32 0) := by
  have hnot : ∀ (x : Bool) (w : World), (Op.unary .not (.bool x)).run Tryz.prog w = .ok (.bool (!x)) w := fun _ _ => rfl
  have h0' : (w.setCell ⟨b, off + 1, none⟩ (.int .i32 1)).cell? ⟨b, off, none⟩ = some (.int .u32 0) := (World.cell?_setCell_other _ ⟨b, off + 1, none⟩ ⟨b, off, none⟩ _ (by simp)).trans h0
  go_enter_defers Tryz.func188, Tryz.ntmps188
  go_wp2_with (first
    | (go_at_call 265; refine (o_lock ⟨b, off + 1, none⟩ _ h1 f1).mono ?_; rintro e w' ⟨rfl, rfl⟩)
    | (go_at_call 187; refine (o_load ⟨b, off, none⟩ _ h0').mono ?_; rintro e w' ⟨rfl, rfl⟩))
  rename_i Qq Kk hk
  rw [hF.h, Oper.upon_enter]
  refine hc.mono ?_
  rintro e w1 ⟨r, rfl, q0, q1, q2, q3, hK⟩
  refine hk _ _ ?_
  go_wp2
  refine leaves_cons (f := 267) (args := #[.pointer (some ⟨b, off, none⟩), .bool true]) (by simp [Act.put]) (by simp [go_sem]) ?_
  refine (o_store ⟨b, off, none⟩ (.int .u32 0) .returning _ q0 q2).mono ?_
  rintro e u' w'' ⟨rfl, rfl, rfl⟩
  refine leaves_cons (f := 266) (args := #[.pointer (some ⟨b, off + 1, none⟩)]) (by simp [settle]) (by simp [go_sem]) ?_
  refine (o_unlock ⟨b, off + 1, none⟩ _ _ ?_ (by simp [q3])).mono ?_
  · exact (World.cell?_setCell_other _ ⟨b, off, none⟩ ⟨b, off + 1, none⟩ _ (by simp)).trans q1
  rintro e u' w'' ⟨rfl, rfl, rfl⟩
  simp [Leaves, settle, results, Tryz.results188]
  exact ⟨w1, hK, rfl⟩
set_option maxRecDepth 100000 in
set_option maxHeartbeats 1600000 in
theorem o_do (b off : Nat) (h : FuncId) (hF : FuncT Tryz.prog h) (u v : Array Value) (w : World) (K : World → Prop)
    (h0 : w.cell? ⟨b, off, none⟩ = some (.int .u32 0)) (h1 : w.cell? ⟨b, off + 1, none⟩ = some (.int .i32 0)) (f1 : w.frozen? ⟨b, off + 1, none⟩ = false)
    (hc : Calls Tryz.prog h (u ++ v) (w.setCell ⟨b, off + 1, none⟩ (.int .i32 1)) fun e w1 => ∃ r, e = .returned r ∧ w1.cell? ⟨b, off, none⟩ = some (.int .u32 0) ∧ w1.cell? ⟨b, off + 1, none⟩ = some (.int .i32 1) ∧ w1.frozen? ⟨b, off, none⟩ = false ∧ w1.frozen? ⟨b, off + 1, none⟩ = false ∧ K w1) :
    Calls Tryz.prog 88 #[.pointer (some ⟨b, off, none⟩), .func (.func h) u v] w fun e w' => e = .returned (.tuple #[]) ∧ ∃ w1, K w1 ∧ w' = (w1.drew.setCell ⟨b, off, none⟩ (.int .u32 1)).setCell ⟨b, off + 1, none⟩ (.int .i32 0) := by
  have hnot : ∀ (x : Bool) (w : World), (Op.unary .not (.bool x)).run Tryz.prog w = .ok (.bool (!x)) w := fun _ _ => rfl
  go_enter Tryz.func88, Tryz.ntmps88
  go_wp2_with (first
    | (go_at_call 187; refine (o_load ⟨b, off, none⟩ _ h0).mono ?_; rintro e w' ⟨rfl, rfl⟩)
    | (go_at_call 188; refine (o_slow b off h hF u v _ K h0 h1 f1 hc).mono ?_; rintro e w' ⟨rfl, w1, hK, rfl⟩))
  go_end0
  exact ⟨rfl, w1, hK, rfl⟩
theorem once_ok : OnceOk Tryz.prog 88 := by
  refine ⟨⟨Tryz.call88⟩, fun H o j m c h fs cs a x H1 b m1 c1 hH hjm hC hFh hcall hH1 hjm1 hC1 => ?_⟩
  obtain ⟨hab, hdom, hc⟩ := hcall
  have hsub : ∀ p, (hof (H.put o (.cel m (c.put (j + 1) (.raw (.int .i32 1))))) p).isSome = true → (hof H p).isSome = true := fun p hp => by
    rw [hof_put] at hp
    simp only [AHeap.set] at hp
    by_cases e : p = o
    · rw [e, hof_get hH]; rfl
    · rw [if_neg e] at hp; exact hp
  refine ⟨hab, fun p hp => ?_, fun F g w vals hd hr hs hf => ?_⟩
  · rw [hof_put] at hp
    simp only [AHeap.set] at hp
    have hp1 : (hof H1 p).isSome = true := by
      by_cases e : p = o
      · rw [e, hof_get hH1]; rfl
      · rw [if_neg e] at hp; exact hp
    rcases hdom p hp1 with h | h
    · exact .inl (hsub p h)
    · exact .inr h
  obtain ⟨pv, fv, hvals, hpv, hfv⟩ := rep2' hr
  simp only [Rep] at hpv hfv
  obtain ⟨l, hl, rfl⟩ := hpv
  obtain ⟨u, v, rfl, hu, hv⟩ := hfv
  obtain ⟨⟨x0, q0, r0⟩, z0⟩ := cel_read hs hH hl (j := j) (by omega)
  obtain ⟨⟨x1, q1, r1⟩, z1⟩ := cel_read hs hH hl (j := j + 1) (by omega)
  rw [hC.done] at r0
  rw [hC.lock] at r1
  simp only [Rep] at r0 r1
  subst r0; subst r1
  have hs1 := cel_write hs hH hl (j := j + 1) (by omega) (y := .raw (.int .i32 1)) (v := .int .i32 1) (by simp only [Rep]) (by trivial)
  rw [← Nat.add_assoc] at hs1 q1 z1
  have hd1 : Disj (hof (H.put o (.cel m (c.put (j + 1) (.raw (.int .i32 1)))))) F a b := ⟨fun p x hp => by
      have := hsub p (by rw [hp]; rfl)
      obtain ⟨y, hy⟩ := Option.isSome_iff_exists.1 this
      exact hd.h p y hy, hd.f, fun p h1 h2 => by
      rcases Option.eq_none_or_eq_some (hof (H.put o (.cel m (c.put (j + 1) (.raw (.int .i32 1))))) p) with h | ⟨x, h⟩
      · exact h
      · have := hsub p (by rw [h]; rfl)
        rw [hd.n p h1 h2] at this; cases this⟩
  have hcc := hc F g _ (u ++ v) hd1 (by rw [Array.toList_append]; exact repL_append hu hv) hs1 hf
  rw [hvals]
  refine (o_do l.blk (l.base + j) h hFh u v w (fun w1 => ∃ g', Ext g g' a b ∧ Sim g' (join (hof H1) F) w1) q0 q1 z1 (hcc.mono ?_)).mono ?_
  · rintro e w1 ⟨r, g', rfl, he, hx, hs2⟩
    have hl' := he.le.loc _ _ hl
    obtain ⟨⟨y0, t0, s0⟩, z2⟩ := cel_read hs2 hH1 hl' (j := j) (by omega)
    obtain ⟨⟨y1, t1, s1⟩, z3⟩ := cel_read hs2 hH1 hl' (j := j + 1) (by omega)
    rw [hC1.done] at s0
    rw [hC1.lock] at s1
    simp only [Rep] at s0 s1
    subst s0; subst s1
    rw [← Nat.add_assoc] at t1 z3
    exact ⟨r, rfl, t0, t1, z2, z3, g', he, hs2⟩
  · rintro e w' ⟨rfl, w1, ⟨g', he, hs2⟩, rfl⟩
    have hl' := he.le.loc _ _ hl
    have hs3 : Sim g' (join (hof H1) F) w1.drew := hs2.same ⟨rfl, rfl, rfl⟩ rfl
    have hs4 := cel_write hs3 hH1 hl' (j := j) (by omega) (y := .raw (.int .u32 1)) (v := .int .u32 1) (by simp only [Rep]) (by trivial)
    have hs5 := cel_write hs4 (ob := o) (m := m1) (c := c1.put j (.raw (.int .u32 1))) (by rw [get_put, if_pos rfl]) hl' (j := j + 1) (by omega) (y := .raw (.int .i32 0)) (v := .int .i32 0) (by simp only [Rep]) (by trivial)
    refine ⟨.tuple #[], g', rfl, he, ?_, ?_⟩
    · simp only [Rep]
      exact ⟨#[], rfl, by simp only [RepL]⟩
    · rw [Nat.add_assoc]
      have e : hof ((H1.put o (.cel m1 (c1.put j (.raw (.int .u32 1))))).put o (.cel m1 ((c1.put j (.raw (.int .u32 1))).put (j + 1) (.raw (.int .i32 0))))) = hof (H1.put o (.cel m1 ((c1.put j (.raw (.int .u32 1))).put (j + 1) (.raw (.int .i32 0))))) := by
        rw [hof_put, hof_put, hof_put]
        funext p
        simp only [AHeap.set]
        split <;> rfl
      rw [← e]
      exact hs5
end Go.Proofs
namespace Go.Ex
open Go Go.Am
def T.Each {α : Type} (Q : Nat → α → Prop) : T α → (Nat → Nat) → Prop
  | .nil, _ => True
  | .node l v r, f => (match v with | none => True | some x => Q (f 0) x) ∧ T.Each Q l (fun q => f (2 * q + 1)) ∧ T.Each Q r (fun q => f (2 * q + 2))
theorem get_nil' {α : Type} (i : Nat) : (T.nil : T α).get i = none := rfl
theorem get_node {α : Type} (l : T α) (v : Option α) (r : T α) (i : Nat) : (T.node l v r).get i = match i with | 0 => v | j + 1 => if j % 2 = 0 then l.get (j / 2) else r.get (j / 2) := by
  cases i with
  | zero => rfl
  | succ j =>
    show @Bool.rec (fun _ => Option α) (r.getN (j / 2)) (l.getN (j / 2)) (Nat.beq (j % 2) 0) = _
    cases h : Nat.beq (j % 2) 0 with
    | true =>
      have := Nat.eq_of_beq_eq_true h
      simp only [this, if_true]; rfl
    | false =>
      have : ¬ j % 2 = 0 := fun e => by rw [e] at h; cases h
      simp only [this, if_false]; rfl
theorem each_get {α : Type} {Q : Nat → α → Prop} : ∀ (t : T α) (f : Nat → Nat), t.Each Q f → ∀ i x, t.get i = some x → Q (f i) x
  | .nil, f, _, i, x, h => by rw [get_nil'] at h; cases h
  | .node l v r, f, ⟨h1, h2, h3⟩, i, x, h => by
    rw [get_node] at h
    cases i with
    | zero =>
      simp only at h
      subst h
      exact h1
    | succ j =>
      simp only at h
      split at h
      · rename_i hj
        have : Q (f (2 * (j / 2) + 1)) x := each_get l _ h2 (j / 2) x h
        rwa [show 2 * (j / 2) + 1 = j + 1 by omega] at this
      · rename_i hj
        have : Q (f (2 * (j / 2) + 2)) x := each_get r _ h3 (j / 2) x h
        rwa [show 2 * (j / 2) + 2 = j + 1 by omega] at this
def zvOf (P : Program) (e : TypeId) : Value := ((P.info? e).bind (·.zero)).getD .nilIface
def FdsOk (P : Program) (fields : Array Field) : Nat → List Fd → Prop
  | _, [] => True
  | i, fd :: r => FdOk P fields i fd ∧ FdsOk P fields (i + 1) r
theorem fds_ok {P : Program} {fields : Array Field} : ∀ (fs : List Fd) (i : Nat), FdsOk P fields i fs → ∀ f fd, fs[f]? = some fd → FdOk P fields (i + f) fd
  | [], i, _, f, fd, h => by simp at h
  | x :: fs, i, ⟨h1, h2⟩, f, fd, h => by
    cases f with
    | zero => simp at h; subst h; exact h1
    | succ f =>
      have := fds_ok fs (i + 1) h2 f fd (by simpa using h)
      rwa [show i + 1 + f = i + (f + 1) by omega] at this
theorem fds_ok0 {P : Program} {fields : Array Field} {fs : List Fd} (h : FdsOk P fields 0 fs) : ∀ f fd, fs[f]? = some fd → FdOk P fields f fd := fun f fd hf => by
  have := fds_ok fs 0 h f fd hf
  rwa [Nat.zero_add] at this
def codeWfB (n : Nat) : Code → Bool
  | .region _ ops d => ops.toList.all (fun o => match o.dst with | none => true | some t => Nat.blt t n) && (!d || drawOk n ops.size ops)
  | .seq x y => codeWfB n x && codeWfB n y
  | .cond _ x y => codeWfB n x && codeWfB n y
  | .block _ x => codeWfB n x
  | .loop x => codeWfB n x
  | _ => true
theorem codeWf_of {n : Nat} : ∀ {c : Code}, codeWfB n c = true → CodeWf n c
  | .region _ ops d, h => by
    simp only [codeWfB, Bool.and_eq_true, List.all_eq_true, Bool.or_eq_true, Bool.not_eq_true'] at h
    refine ⟨fun o ho t ht => ?_, fun hd => ?_⟩
    · have := h.1 o ho
      rw [ht] at this
      exact Nat.le_of_ble_eq_true this
    · rcases h.2 with h | h
      · rw [hd] at h; cases h
      · exact h
  | .seq x y, h => by
    simp only [codeWfB, Bool.and_eq_true] at h
    exact ⟨codeWf_of h.1, codeWf_of h.2⟩
  | .cond _ x y, h => by
    simp only [codeWfB, Bool.and_eq_true] at h
    exact ⟨codeWf_of h.1, codeWf_of h.2⟩
  | .block _ x, h => codeWf_of (c := x) h
  | .loop x, h => codeWf_of (c := x) h
  | .skip, _ => trivial
  | .label _, _ => trivial
  | .exit _, _ => trivial
  | .ret, _ => trivial
  | .rangeFunc _ _ _ _, _ => trivial
  | .scope _, _ => trivial
  | .goto _, _ => trivial
  | .refuse _, _ => trivial
def fnWfB (fn : Func) : Bool := match fn.body with
  | some c => codeWfB fn.ntmps c
  | none => true
structure FnOk (P : Program) (f : Nat) (fn : Func) : Prop where
  at_ : P.funcs[f]? = some fn
  T : FuncT P f
  wf : fnWfB fn = true
theorem FnOk.code {P : Program} {f : Nat} {fn : Func} (h : FnOk P f fn) : ∀ c, fn.body = some c → CodeWf fn.ntmps c := fun c hc => by
  have := h.wf
  unfold fnWfB at this
  rw [hc] at this
  exact codeWf_of this
theorem envOk_of {ρ : Type} {P : Program} {E : Env ρ} (h1 : E.ty.Each (TyOk P) id) (h2 : E.fn.Each (FnOk P) id) : EnvOk P E :=
  ⟨fun t i h => each_get E.ty id h1 t i h, fun f fn h => let k := each_get E.fn id h2 f fn h; ⟨k.at_, k.T, k.code⟩⟩
end Go.Ex
