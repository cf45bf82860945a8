/-
  The abstract machine: contracts of functions, calls, and how a contract becomes the step of a row. No program in sight.
-/
import Derived.Test.YtaabpahemponkaaGreatDoorAmA
import Derived.Laws.Small
import Derived.Laws.Pointers
import Derived.Laws.Cover3
import Derived.Laws.Tables
import Derived.Below
import Derived.ChangeSame
import Derived.Carry
import Derived.OpenShut
import Derived.ReadAgain
set_option linter.unusedVariables false
set_option linter.unusedSimpArgs false
namespace Go.Am
open Go
class ArrT (P : Program) (t : TypeId) (len sz : outParam Nat) : Prop where
  h : ∃ e, P.underlying t = some (.array len e) ∧ ∀ w, (sizeOf e).run P w = .ok sz w
section
variable {P : Program} {n : Nat} {K : Exit → Regs → AHeap → Prop} {R : Regs} {H : AHeap} {ops : Array Oper} {rest : List Oper} {ty : TypeId} {d : Tmp} {pos : String} {af : Array Edge}
theorem run_indexAt_slice' {t e sz bytes : Nat} {z : Value} [hT : SliceT P t e sz bytes z] {b off len cap : Nat} {k : IntKind} {i : Nat} (hi : i < len) (w : World) :
    (Instr.indexAt t (.slice (some ⟨b, off, none⟩) len cap) (.int k (i : Int))).run P w = .ok (.pointer (some ⟨b, off + i * sz, none⟩)) w := by
  obtain ⟨inf, h1, h2, h3, h4⟩ := hT.info
  have hi' : ¬ len ≤ i := by omega
  simp [Instr.indexAt, run_underlying hT.h, asIntOf, hi', sizeOf, typeInfo, h1, h3, add_lit']
theorem s_indexAddr_bys {t e sz bytes : Nat} {z : Value} [hT : SliceT P t e sz bytes z] {x y : Operand} {bs : List UInt8} {k : IntKind} {i : Nat} {zi : Int} [ni : NatOf zi i] (hx : reval R x = .bys bs) (hy : reval R y = .raw (.int k zi)) (hi : i < bs.length) (h1 : sz = 1) :
    Stp P n (.indexAddr t x y) ty R H (.pby bs i) := by
  cases ni.h
  exact stp_pure fun o ho ht g a w hp => by
    have hv := rv hp hx
    have hu := rv hp hy
    subst h1
    simp only [Rep] at hv hu
    rcases hv with ⟨rfl, _⟩ | ⟨b, off, cap, c, e', fz, he, h2, h3, h4⟩
    · simp at hi
    · exact ⟨_, by simp [execOp, ho, he, hu, run_indexAt_slice' (P := P) (t := t) (i := i) hi]; rfl, by simp only [Rep]; exact ⟨b, off, c, e', fz, by simp, h3, h4⟩⟩
theorem s_indexAddr_sls {t e sz bytes : Nat} {z : Value} [hT : SliceT P t e sz bytes z] {x y : Operand} {m : Nat} {xs : List AV} {k : IntKind} {i : Nat} {zi : Int} [ni : NatOf zi i] (hx : reval R x = .sls m xs) (hy : reval R y = .raw (.int k zi)) (hi : i < m) :
    Stp P n (.indexAddr t x y) ty R H (.pce xs (i * sz)) := by
  cases ni.h
  exact stp_pure fun o ho ht g a w hp => by
    have hv := rv hp hx
    have hu := rv hp hy
    simp only [Rep] at hv hu
    rcases hv with ⟨rfl, _⟩ | ⟨b, off, cap, c, e', fz, he, h2, h3, h4⟩
    · simp at hi
    · exact ⟨_, by simp [execOp, ho, he, hu, run_indexAt_slice' (P := P) (t := t) (i := i) hi]; rfl, by simp only [Rep]; exact ⟨b, off, c, e', fz, rfl, h3, h4⟩⟩
theorem s_indexAddr_vw {t e sz bytes : Nat} {z : Value} [hT : SliceT P t e sz bytes z] {x y : Operand} {ob s off len : Nat} {k : IntKind} {i : Nat} {zi : Int} [ni : NatOf zi i] (hx : reval R x = .vw ob s off len) (hy : reval R y = .raw (.int k zi)) (hi : i < len) :
    Stp P n (.indexAddr t x y) ty R H (.ptr ob (off + i * sz)) := by
  cases ni.h
  exact stp_pure fun o ho ht g a w hp => by
    have hv := rv hp hx
    have hu := rv hp hy
    simp only [Rep] at hv hu
    rcases hv with ⟨l, cap, hl, he, _⟩ | ⟨rfl, _⟩
    · exact ⟨_, by simp [execOp, ho, he, hu, run_indexAt_slice' (P := P) (t := t) (i := i) hi]; rfl, by simp only [Rep]; exact ⟨l, hl, by rw [Nat.add_assoc]⟩⟩
    · simp at hi
theorem s_indexAddr_arr {t len sz : Nat} [hT : ArrT P t len sz] {x y : Operand} {ob off : Nat} {k : IntKind} {i : Nat} {zi : Int} [ni : NatOf zi i] (hx : reval R x = .ptr ob off) (hy : reval R y = .raw (.int k zi)) (hi : i < len) :
    Stp P n (.indexAddr t x y) ty R H (.ptr ob (off + i * sz)) := by
  cases ni.h
  exact stp_pure fun o ho ht g a w hp => by
    have hv := rv hp hx
    have hu := rv hp hy
    simp only [Rep] at hv hu
    obtain ⟨l, hl, he⟩ := hv
    obtain ⟨e, h1, h2⟩ := hT.h
    have hi' : ¬ len ≤ i := by omega
    exact ⟨.pointer (some ⟨l.blk, l.base + off + i * sz, none⟩), by simp [execOp, ho, he, hu, Instr.indexAt, run_underlying h1, Instr.sureAddr, asIntOf, hi', h2, add_lit'], by simp only [Rep]; exact ⟨l, hl, by rw [Nat.add_assoc]⟩⟩
theorem s_index_str {t : TypeId} [hT : StrT P t] {x y : Operand} {bs : List UInt8} {k : IntKind} {i : Nat} {zi : Int} [ni : NatOf zi i] (hx : reval R x = .str bs) (hy : reval R y = .raw (.int k zi)) (hi : i < bs.length) :
    Stp P n (.index t x y) ty R H (.raw (.int .u8 ((bs.getD i 0).toNat : Int))) := by
  cases ni.h
  exact stp_pure fun o ho ht g a w hp => by
    have hv := rv hp hx
    have hu := rv hp hy
    simp only [Rep] at hv hu
    have hb : (ByteArray.mk bs.toArray)[i]? = some (bs.getD i 0) := by
      rw [getElem?_pos (ByteArray.mk bs.toArray) i (by rw [size_mk]; exact hi)]
      simp [List.getD, List.getElem?_eq_getElem hi]
      rfl
    exact ⟨.int .u8 ((bs.getD i 0).toNat : Int), by simp only [execOp, ho, hv, hu, Instr.index, asIntOf, Sem.run_bind, Sem.run_pure, Result.andThen_ok, run_underlying hT.h, show (0 : Int) ≤ (i : Int) from by omega, if_true, Int.toNat_natCast, hb], by simp only [Rep]⟩
theorem run_sl {t e sz bytes : Nat} {z : Value} [hT : SliceT P t e sz bytes z] (a : Option Addr) (len cap lo hi : Nat) (kl kh : IntKind) (L H' : Option Value) (hL : L = some (.int kl (lo : Int)) ∨ (L = none ∧ lo = 0)) (hH : H' = some (.int kh (hi : Int)) ∨ (H' = none ∧ hi = len)) (h1 : lo ≤ hi) (h2 : hi ≤ cap) (w : World) :
    (Instr.sliceAt t (.slice a len cap) L H' none).run P w = .ok (.slice (if cap = lo then a else a.map (·.add (lo * sz))) (hi - lo) (cap - lo)) w := by
  obtain ⟨inf, k1, k2, k3, k4⟩ := hT.info
  have hhi : ¬ cap < hi := by omega
  rcases hL with rfl | ⟨rfl, rfl⟩ <;> rcases hH with rfl | ⟨rfl, rfl⟩ <;>
    simp [Instr.sliceAt, Instr.slice, run_underlying hT.h, Instr.sliceBounds, Instr.sliceBound, asIntOf, hhi, sizeOf, typeInfo, k1, k3, h1]
def Bnd (R : Regs) (o : Option Operand) (dflt k : Nat) : Prop := (o = none ∧ k = dflt) ∨ ∃ y kd, o = some y ∧ reval R y = .raw (.int kd (k : Int))
theorem bnd_none (R : Regs) (k : Nat) : Bnd R none k k := .inl ⟨rfl, rfl⟩
theorem bnd_some {R : Regs} {y : Operand} {kd : IntKind} {dflt k : Nat} {z : Int} [nz : NatOf z k] (h : reval R y = .raw (.int kd z)) : Bnd R (some y) dflt k := .inr ⟨y, kd, rfl, by rw [h, nz.h]⟩
theorem bnd_val {g : Gh} {a : Act} {w : World} (hp : Pre n R H g a w) {o : Option Operand} {dflt k : Nat} (h : Bnd R o dflt k) : ∃ kd, o.map a.eval = some (.int kd (k : Int)) ∨ (o.map a.eval = none ∧ k = dflt) := by
  rcases h with ⟨rfl, rfl⟩ | ⟨y, kd, rfl, hy⟩
  · exact ⟨.i64, .inr ⟨rfl, rfl⟩⟩
  · have := rv hp hy
    simp only [Rep] at this
    exact ⟨kd, .inl (by simp [this])⟩
theorem run_slice_op {t e sz bytes : Nat} {z : Value} [hT : SliceT P t e sz bytes z] {g : Gh} {a : Act} {w : World} (hp : Pre n R H g a w) {ol oh : Option Operand} {ad : Option Addr} {len cap lo hi : Nat} (hl : Bnd R ol 0 lo) (hh : Bnd R oh len hi) (h1 : lo ≤ hi) (h2 : hi ≤ cap) :
    (Instr.sliceAt t (.slice ad len cap) (ol.map a.eval) (oh.map a.eval) none).run P w = .ok (.slice (if cap = lo then ad else ad.map (·.add (lo * sz))) (hi - lo) (cap - lo)) w := by
  obtain ⟨kl, hl'⟩ := bnd_val hp hl
  obtain ⟨kh, hh'⟩ := bnd_val hp hh
  exact run_sl ad len cap lo hi kl kh _ _ hl' hh' h1 h2 w
theorem s_slice_bys {t e sz bytes : Nat} {z : Value} [hT : SliceT P t e sz bytes z] {x : Operand} {ol oh : Option Operand} {bs : List UInt8} {lo hi : Nat} (hx : reval R x = .bys bs) (hl : Bnd R ol 0 lo) (hh : Bnd R oh bs.length hi) (h1 : lo ≤ hi) (h2 : hi ≤ bs.length) (hz : sz = 1) :
    Stp P n (.slice t x ol oh none) ty R H (.bys ((bs.drop lo).take (hi - lo))) :=
  stp_pure fun o ho ht g a w hp => by
    have hv := rv hp hx
    subst hz
    simp only [Rep] at hv
    rcases hv with ⟨rfl, ad, cap, he⟩ | ⟨b, off, cap, c, e', fz, he, h3, h4, h5⟩
    · have hr := run_slice_op (P := P) (t := t) (ad := ad) (cap := cap) hp hl hh h1 (by simp at h2; omega)
      simp only [List.length_nil] at hr
      exact ⟨_, by simp only [execOp, ho, he, Sem.run_bind, hr, Result.andThen_ok, Sem.run_pure, Option.map_none]; rfl, by
        simp only [Rep]
        exact .inl ⟨by simp, _, _, by simp at h2; rw [show hi - lo = 0 from by omega]⟩⟩
    · have hr := run_slice_op (P := P) (t := t) (ad := some ⟨b, off, none⟩) (cap := cap) hp hl hh h1 (by omega)
      refine ⟨_, by simp only [execOp, ho, he, Sem.run_bind, hr, Result.andThen_ok, Sem.run_pure, Option.map_none]; rfl, ?_⟩
      simp only [Rep]
      by_cases h0 : hi - lo = 0
      · exact .inl ⟨by simp [h0], _, _, by rw [h0]⟩
      · refine .inr ⟨b, off + lo, cap - lo, c, e', fz, ?_, by simp; omega, h4, byAt_take (byAt_drop h5 lo) _⟩
        rw [if_neg (by omega)]
        simp [add_lit']
        omega
theorem s_slice_sls {t e sz bytes : Nat} {z : Value} [hT : SliceT P t e sz bytes z] {x : Operand} {ol oh : Option Operand} {m : Nat} {xs : List AV} {lo hi : Nat} (hx : reval R x = .sls m xs) (hl : Bnd R ol 0 lo) (hh : Bnd R oh m hi) (h1 : lo ≤ hi) (h2 : hi ≤ m) :
    Stp P n (.slice t x ol oh none) ty R H (.sls (hi - lo) ((xs.drop (lo * sz)).take ((hi - lo) * sz))) :=
  stp_pure fun o ho ht g a w hp => by
    have hv := rv hp hx
    simp only [Rep] at hv
    rcases hv with ⟨rfl, rfl, ad, cap, he⟩ | ⟨b, off, cap, c, e', fz, he, h3, h4, h5⟩
    · have hr := run_slice_op (P := P) (t := t) (ad := ad) (cap := cap) hp hl hh h1 (by omega)
      exact ⟨_, by simp only [execOp, ho, he, Sem.run_bind, hr, Result.andThen_ok, Sem.run_pure, Option.map_none]; rfl, by
        simp only [Rep]
        exact .inl ⟨by omega, by simp, _, _, by rw [show hi - lo = 0 from by omega]⟩⟩
    · have hr := run_slice_op (P := P) (t := t) (ad := some ⟨b, off, none⟩) (cap := cap) hp hl hh h1 (by omega)
      refine ⟨_, by simp only [execOp, ho, he, Sem.run_bind, hr, Result.andThen_ok, Sem.run_pure, Option.map_none]; rfl, ?_⟩
      simp only [Rep]
      by_cases h0 : hi - lo = 0
      · exact .inl ⟨h0, by simp [h0], _, _, by rw [h0]⟩
      · refine .inr ⟨b, off + lo * sz, cap - lo, c, e', fz, ?_, by omega, h4, repAt_take (repAt_drop h5 _) _⟩
        rw [if_neg (by omega)]
        simp [add_lit']
theorem s_slice_vw {t e sz bytes : Nat} {z : Value} [hT : SliceT P t e sz bytes z] {x : Operand} {ol oh : Option Operand} {ob off m lo hi : Nat} (hx : reval R x = .vw ob sz off m) (hl : Bnd R ol 0 lo) (hh : Bnd R oh m hi) (h1 : lo ≤ hi) (h2 : hi ≤ m) :
    Stp P n (.slice t x ol oh none) ty R H (.vw ob sz (off + lo * sz) (hi - lo)) :=
  stp_pure fun o ho ht g a w hp => by
    have hv := rv hp hx
    simp only [Rep] at hv
    rcases hv with ⟨l, cap, h3, he, h4, h5⟩ | ⟨rfl, ad, he⟩
    · have hr := run_slice_op (P := P) (t := t) (ad := some ⟨l.blk, l.base + off, none⟩) (cap := cap) hp hl hh h1 (by omega)
      refine ⟨_, by simp only [execOp, ho, he, Sem.run_bind, hr, Result.andThen_ok, Sem.run_pure, Option.map_none]; rfl, ?_⟩
      simp only [Rep]
      by_cases h0 : cap = lo
      · exact .inr ⟨by omega, some ⟨l.blk, l.base + off, none⟩, by rw [if_pos h0, show hi - lo = 0 from by omega, show cap - lo = 0 from by omega]⟩
      · refine .inl ⟨l, cap - lo, h3, ?_, by omega, ?_⟩
        · rw [if_neg h0]
          simp [add_lit', Nat.add_assoc]
        · have : cap * sz = lo * sz + (cap - lo) * sz := by rw [← Nat.add_mul]; congr 1; omega
          omega
    · have hr := run_slice_op (P := P) (t := t) (ad := ad) (cap := 0) hp hl hh h1 (by omega)
      refine ⟨_, by simp only [execOp, ho, he, Sem.run_bind, hr, Result.andThen_ok, Sem.run_pure, Option.map_none]; rfl, ?_⟩
      simp only [Rep]
      exact .inr ⟨by omega, _, by rw [show hi - lo = 0 from by omega, show 0 - lo = 0 from by omega]⟩
theorem s_slice_nil {t e sz bytes : Nat} {z : Value} [hT : SliceT P t e sz bytes z] {x : Operand} {ol oh : Option Operand} (hx : reval R x = .raw (.slice none 0 0)) (hl : Bnd R ol 0 0) (hh : Bnd R oh 0 0) :
    Stp P n (.slice t x ol oh none) ty R H (.raw (.slice none 0 0)) :=
  stp_pure fun o ho ht g a w hp => by
    have hv := rv hp hx
    simp only [Rep] at hv
    have hr := run_slice_op (P := P) (t := t) (ad := none) (cap := 0) hp hl hh (Nat.le_refl _) (Nat.le_refl _)
    exact ⟨_, by simp only [execOp, ho, hv, Sem.run_bind, hr, Result.andThen_ok, Sem.run_pure, Option.map_none]; rfl, by simp only [Rep]; rfl⟩
theorem s_slice_str {t : TypeId} [hT : StrT P t] {x : Operand} {ol oh : Option Operand} {bs : List UInt8} {lo hi : Nat} (hx : reval R x = .str bs) (hl : Bnd R ol 0 lo) (hh : Bnd R oh bs.length hi) (h1 : lo ≤ hi) (h2 : hi ≤ bs.length) :
    Stp P n (.slice t x ol oh none) ty R H (.str ((bs.drop lo).take (hi - lo))) :=
  stp_pure fun o ho ht g a w hp => by
    have hv := rv hp hx
    simp only [Rep] at hv
    obtain ⟨kl, hl'⟩ := bnd_val hp hl
    obtain ⟨kh, hh'⟩ := bnd_val hp hh
    have e1 : (ByteArray.mk bs.toArray).extract lo hi = ⟨((bs.drop lo).take (hi - lo)).toArray⟩ := by
      apply ByteArray.ext
      rw [ByteArray.data_extract]
      apply Array.ext'
      simp
    have hhi : ¬ bs.length < hi := by omega
    have hr : (Instr.sliceAt t (.string ⟨bs.toArray⟩) (ol.map a.eval) (oh.map a.eval) none).run P w = .ok (.string ((ByteArray.mk bs.toArray).extract lo hi)) w := by
      rcases hl' with hl' | ⟨hl', rfl⟩ <;> rcases hh' with hh' | ⟨hh', rfl⟩ <;> rw [hl', hh'] <;>
        simp [Instr.sliceAt, Instr.slice, run_underlying hT.h, Instr.sliceBounds, Instr.sliceBound, asIntOf, size_mk, hhi, h1]
      rw [e1]; simp
    exact ⟨_, by simp only [execOp, ho, hv, Sem.run_bind, hr, Result.andThen_ok, Sem.run_pure, Option.map_none]; rfl, by simp only [Rep]; rw [e1]⟩
theorem run_slice3_op {t e sz bytes : Nat} {z : Value} [hT : SliceT P t e sz bytes z] {g : Gh} {a : Act} {w : World} (hp : Pre n R H g a w) {ol oh om : Option Operand} {ad : Option Addr} {len cap lo hi : Nat} (hl : Bnd R ol 0 lo) (hh : ∃ y kd, oh = some y ∧ reval R y = .raw (.int kd (hi : Int))) (hm : ∃ y kd, om = some y ∧ reval R y = .raw (.int kd (hi : Int))) (h1 : lo ≤ hi) (h2 : hi ≤ cap) :
    (Instr.sliceAt t (.slice ad len cap) (ol.map a.eval) (oh.map a.eval) (om.map a.eval)).run P w = .ok (.slice (if hi = lo then ad else ad.map (·.add (lo * sz))) (hi - lo) (hi - lo)) w := by
  obtain ⟨kl, hl'⟩ := bnd_val hp hl
  obtain ⟨y1, k1, rfl, e1⟩ := hh
  obtain ⟨y2, k2, rfl, e2⟩ := hm
  have v1 := rv hp e1
  have v2 := rv hp e2
  simp only [Rep] at v1 v2
  obtain ⟨inf, i1, i2, i3, i4⟩ := hT.info
  have hhi : ¬ cap < hi := by omega
  rcases hl' with hl' | ⟨hl', rfl⟩ <;> rw [hl'] <;>
    simp [v1, v2, Instr.sliceAt, Instr.slice, run_underlying hT.h, Instr.sliceBounds, Instr.sliceBound, asIntOf, hhi, sizeOf, typeInfo, i1, i3, h1]
theorem s_slice3_bys {t e sz bytes : Nat} {z : Value} [hT : SliceT P t e sz bytes z] {x yh ym : Operand} {ol : Option Operand} {bs : List UInt8} {lo hi : Nat} {kh km : IntKind} (hx : reval R x = .bys bs) (hl : Bnd R ol 0 lo) {z1 z2 : Int} [n1 : NatOf z1 hi] [n2 : NatOf z2 hi] (hh' : reval R yh = .raw (.int kh z1)) (hm' : reval R ym = .raw (.int km z2)) (h1 : lo ≤ hi) (h2 : hi ≤ bs.length) (hz : sz = 1) :
    Stp P n (.slice t x ol (some yh) (some ym)) ty R H (.bysx ((bs.drop lo).take (hi - lo))) :=
  have hh : reval R yh = .raw (.int kh (hi : Int)) := by rw [hh', n1.h]
  have hm : reval R ym = .raw (.int km (hi : Int)) := by rw [hm', n2.h]
  stp_pure fun o ho ht g a w hp => by
    have hv := rv hp hx
    subst hz
    simp only [Rep] at hv
    rcases hv with ⟨rfl, ad, cap, he⟩ | ⟨b, off, cap, c, e', fz, he, h3, h4, h5⟩
    · have hr := run_slice3_op (P := P) (t := t) (ad := ad) (len := 0) (cap := cap) hp hl ⟨yh, kh, rfl, hh⟩ ⟨ym, km, rfl, hm⟩ h1 (by simp at h2; omega)
      exact ⟨_, by simp only [execOp, ho, he, Sem.run_bind, hr, Result.andThen_ok, Sem.run_pure]; rfl, by
        simp only [Rep]
        exact .inl ⟨by simp, _, by simp at h2; rw [show hi - lo = 0 from by omega]⟩⟩
    · have hr := run_slice3_op (P := P) (t := t) (ad := some ⟨b, off, none⟩) (len := bs.length) (cap := cap) hp hl ⟨yh, kh, rfl, hh⟩ ⟨ym, km, rfl, hm⟩ h1 (by omega)
      refine ⟨_, by simp only [execOp, ho, he, Sem.run_bind, hr, Result.andThen_ok, Sem.run_pure]; rfl, ?_⟩
      simp only [Rep]
      by_cases h0 : hi - lo = 0
      · exact .inl ⟨by simp [h0], _, by rw [h0]⟩
      · have hlen : ((bs.drop lo).take (hi - lo)).length = hi - lo := by simp; omega
        refine .inr ⟨b, off + lo, c, e', fz, ?_, h4, byAt_take (byAt_drop h5 lo) _⟩
        rw [if_neg (by omega), hlen]
        simp [add_lit']
theorem s_slice3_sls {t e sz bytes : Nat} {z : Value} [hT : SliceT P t e sz bytes z] {x yh ym : Operand} {ol : Option Operand} {m : Nat} {xs : List AV} {lo hi : Nat} {kh km : IntKind} (hx : reval R x = .sls m xs) (hl : Bnd R ol 0 lo) {z1 z2 : Int} [n1 : NatOf z1 hi] [n2 : NatOf z2 hi] (hh' : reval R yh = .raw (.int kh z1)) (hm' : reval R ym = .raw (.int km z2)) (h1 : lo ≤ hi) (h2 : hi ≤ m) :
    Stp P n (.slice t x ol (some yh) (some ym)) ty R H (.slsx (hi - lo) ((xs.drop (lo * sz)).take ((hi - lo) * sz))) :=
  have hh : reval R yh = .raw (.int kh (hi : Int)) := by rw [hh', n1.h]
  have hm : reval R ym = .raw (.int km (hi : Int)) := by rw [hm', n2.h]
  stp_pure fun o ho ht g a w hp => by
    have hv := rv hp hx
    simp only [Rep] at hv
    rcases hv with ⟨rfl, rfl, ad, cap, he⟩ | ⟨b, off, cap, c, e', fz, he, h3, h4, h5⟩
    · have hr := run_slice3_op (P := P) (t := t) (ad := ad) (len := 0) (cap := cap) hp hl ⟨yh, kh, rfl, hh⟩ ⟨ym, km, rfl, hm⟩ h1 (by omega)
      exact ⟨_, by simp only [execOp, ho, he, Sem.run_bind, hr, Result.andThen_ok, Sem.run_pure]; rfl, by
        simp only [Rep]
        exact .inl ⟨by omega, by simp, _, by rw [show hi - lo = 0 from by omega]⟩⟩
    · have hr := run_slice3_op (P := P) (t := t) (ad := some ⟨b, off, none⟩) (len := m) (cap := cap) hp hl ⟨yh, kh, rfl, hh⟩ ⟨ym, km, rfl, hm⟩ h1 (by omega)
      refine ⟨_, by simp only [execOp, ho, he, Sem.run_bind, hr, Result.andThen_ok, Sem.run_pure]; rfl, ?_⟩
      simp only [Rep]
      by_cases h0 : hi - lo = 0
      · exact .inl ⟨h0, by simp [h0], _, by rw [h0]⟩
      · refine .inr ⟨b, off + lo * sz, c, e', fz, ?_, h4, repAt_take (repAt_drop h5 _) _⟩
        rw [if_neg (by omega)]
        simp [add_lit']
theorem s_slice3_zero {t e sz bytes : Nat} {z : Value} [hT : SliceT P t e sz bytes z] {x yh ym : Operand} {ol : Option Operand} {av : AV} {kh km : IntKind} (hx : reval R x = av) (hsl : ∀ g v, Rep g av v → ∃ a k cap, v = .slice a k cap) (hl : Bnd R ol 0 0) (hh : reval R yh = .raw (.int kh 0)) (hm : reval R ym = .raw (.int km 0)) :
    Stp P n (.slice t x ol (some yh) (some ym)) ty R H .emp :=
  stp_pure fun o ho ht g a w hp => by
    obtain ⟨ad, k, cap, he⟩ := hsl g _ (rv hp hx)
    have hr := run_slice3_op (P := P) (t := t) (ad := ad) (len := k) (cap := cap) (hi := 0) hp hl ⟨yh, kh, rfl, hh⟩ ⟨ym, km, rfl, hm⟩ (Nat.le_refl _) (by omega)
    exact ⟨_, by simp only [execOp, ho, he, Sem.run_bind, hr, Result.andThen_ok, Sem.run_pure]; rfl, by simp only [Rep]; exact ⟨_, rfl⟩⟩
end
end Go.Am
namespace Go.Am
open Go
section
variable {P : Program} {n : Nat} {K : Exit → Regs → AHeap → Prop} {R : Regs} {H : AHeap} {ops : Array Oper} {rest : List Oper} {ty : TypeId} {d : Tmp} {pos : String} {af : Array Edge}
def AV.one1 : AV → Bool
  | .unk | .agg _ | .tup _ => false
  | .raw v => v.oneCell'
  | _ => true
theorem rep_one {g : Gh} {x : AV} {v : Value} (h1 : x.one1 = true) (h : Rep g x v) : one v := by
  cases x with
  | unk => cases h1
  | agg xs => cases h1
  | tup xs => cases h1
  | raw u => simp only [Rep] at h; subst h; exact h1
  | emp => simp only [Rep] at h; obtain ⟨a, rfl⟩ := h; rfl
  | bys bs => simp only [Rep] at h; rcases h with ⟨_, a, cap, rfl⟩ | ⟨b, off, cap, c, e, fz, rfl, _⟩ <;> rfl
  | sls m xs => simp only [Rep] at h; rcases h with ⟨_, _, a, cap, rfl⟩ | ⟨b, off, cap, c, e, fz, rfl, _⟩ <;> rfl
  | pby bs i => simp only [Rep] at h; obtain ⟨b, off, c, e, fz, rfl, _⟩ := h; rfl
  | pce xs i => simp only [Rep] at h; obtain ⟨b, off, c, e, fz, rfl, _⟩ := h; rfl
  | ptr o off => simp only [Rep] at h; obtain ⟨l, _, rfl⟩ := h; rfl
  | vw o sz off len => simp only [Rep] at h; rcases h with ⟨l, cap, _, rfl, _⟩ | ⟨_, a, rfl⟩ <;> rfl
  | mp o => simp only [Rep] at h; obtain ⟨l, _, rfl⟩ := h; rfl
  | fnc f a b => simp only [Rep] at h; obtain ⟨a, b, rfl, _⟩ := h; rfl
  | ifc t x => simp only [Rep] at h; obtain ⟨u, rfl, _⟩ := h; rfl
  | bysx bs => simp only [Rep] at h; rcases h with ⟨_, a, rfl⟩ | ⟨b, off, c, e, fz, rfl, _⟩ <;> rfl
  | slsx m xs => simp only [Rep] at h; rcases h with ⟨_, _, a, rfl⟩ | ⟨b, off, c, e, fz, rfl, _⟩ <;> rfl
  | str bs => simp only [Rep] at h; subst h; rfl
  | vwn o sz off len => simp only [Rep] at h; rcases h with ⟨l, cap, _, rfl, _⟩ | ⟨_, a, rfl⟩ <;> rfl
def AV.parts : AV → List AV
  | .agg xs => xs
  | .raw (.agg cs) => cs.toList.map .raw
  | x => [x]
theorem cells_of_one {v : Value} (h : one v) : v.cells = #[v] := by cases v <;> first | rfl | (simp [one, Value.oneCell'] at h)
theorem rep_parts {g : Gh} {x : AV} {v : Value} (h : Rep g x v) (hx : x.parts.all AV.one1 = true) : RepL g x.parts v.cells.toList := by
  cases x with
  | agg xs => simp only [Rep] at h; obtain ⟨a, rfl, h⟩ := h; exact h
  | raw u =>
    simp only [Rep] at h; subst h
    cases v with
    | agg cs => exact repL_raw _
    | _ => simp [AV.parts, RepL, Rep, Value.cells]
  | tup xs => simp [AV.parts, AV.one1] at hx
  | unk => simp [AV.parts, AV.one1] at hx
  | _ =>
    have h1 := rep_one (by simpa [AV.parts] using hx) h
    rw [cells_of_one h1]
    simp only [AV.parts, RepL]
    exact ⟨v, [], rfl, h, rfl⟩
theorem repAt_of_repL {g : Gh} {xs : List AV} {l : List Value} (h : RepL g xs l) (h1 : xs.all AV.one1 = true) : RepAt g xs l.toArray 0 := by
  rw [repAt_iff]
  intro i x hi
  obtain ⟨u, hu, hr⟩ := ((repL_iff _ _).1 h).2 i x hi
  exact ⟨u, by simpa using hu, rep_one (List.all_eq_true.1 h1 x (List.mem_of_getElem? hi)) hr, hr⟩
theorem awl_box {e : TypeId} {x : Operand} {av : AV} {xs : List AV} (hdn : Nat.blt d n = true) (hx : reval R x = av) (hxs : av.parts = xs) (h1 : xs.all AV.one1 = true)
    (hk : ∀ o', H o' = none → AWL P n ops rest K ((d, .ptr o' 0) :: R) (H.set o' (.cel xs))) :
    AWL P n ops (⟨some d, .box e x, ty, pos, af, none⟩ :: rest) K R H :=
  awl_step rfl rfl hdn fun g a w hp => by
    have hv := rv hp hx
    subst hxs
    have hr := rep_parts hv h1
    obtain ⟨o', ho', hl'⟩ := hp.sim.fresh
    have hat := repAt_of_repL hr h1
    refine ⟨.pointer (some ⟨w.heap.size, 0, none⟩), w.alloc (.cells (a.eval x).cells e), _, .ptr o' 0, _, ?_, g.le_at hl' ⟨w.heap.size, 0, (a.eval x).cells.size⟩, ?_, hp.sim.new (w' := w.alloc (.cells (a.eval x).cells e)) (c := (a.eval x).cells) (fz := (0, 0)) (x := .cel av.parts) ⟨rfl, rfl, rfl⟩ rfl (unfrozen00 _) hl' ⟨?_, by simpa using hat⟩, hk o' ho'⟩
    · simp [execOp, Instr.box, newVar, newRow]
    · simp only [Rep]; exact ⟨_, Gh.at_self _ _ _, by simp⟩
    · have := repL_length _ _ hr
      simp at this ⊢
      omega
theorem awl_alloc {e : TypeId} {z : Value} {xs : List AV} [hZ : ZeroT P e z] (hdn : Nat.blt d n = true) (hxs : (AV.raw z).parts = xs) (h1 : xs.all AV.one1 = true)
    (hk : ∀ o', H o' = none → AWL P n ops rest K ((d, .ptr o' 0) :: R) (H.set o' (.cel xs))) :
    AWL P n ops (⟨some d, .alloc e, ty, pos, af, none⟩ :: rest) K R H :=
  awl_step rfl rfl hdn fun g a w hp => by
    subst hxs
    have hr := rep_parts (g := g) (x := .raw z) (v := z) (by simp only [Rep]) h1
    obtain ⟨o', ho', hl'⟩ := hp.sim.fresh
    have hat := repAt_of_repL hr h1
    refine ⟨.pointer (some ⟨w.heap.size, 0, none⟩), w.alloc (.cells z.cells e), _, .ptr o' 0, _, ?_, g.le_at hl' ⟨w.heap.size, 0, z.cells.size⟩, ?_, hp.sim.new (w' := w.alloc (.cells z.cells e)) (c := z.cells) (fz := (0, 0)) (x := .cel (AV.raw z).parts) ⟨rfl, rfl, rfl⟩ rfl (unfrozen00 _) hl' ⟨?_, by simpa using hat⟩, hk o' ho'⟩
    · simp [execOp, Instr.alloc, hZ.h, newVar, newRow]
    · simp only [Rep]; exact ⟨_, Gh.at_self _ _ _, by simp⟩
    · have := repL_length _ _ hr
      simp at this ⊢
      omega
def putAt (xs : List AV) (k : Nat) (ys : List AV) : List AV := xs.take k ++ ys ++ xs.drop (k + ys.length)
theorem awl_store {t : TypeId} {x y : Operand} {ob k m : Nat} {xs ys : List AV} {av : AV} (hx : reval R x = .ptr ob k) (hy : reval R y = av) (hH : H ob = some (.cel xs)) (hys : av.parts = ys) (h1 : ys.all AV.one1 = true)
    (hsz : ∀ w, (sizeOf t).run P w = .ok m w) (hm : ys.length = m) (hk : k + m ≤ xs.length) (hcont : AWL P n ops rest K R (H.set ob (.cel (putAt xs k ys)))) :
    AWL P n ops (⟨none, .store t x y, ty, pos, af, none⟩ :: rest) K R H :=
  awl_none rfl rfl fun g a w hp => by
    have hv := rv hp hx
    have hu := rv hp hy
    subst hys
    have hr := rep_parts hu h1
    have hlen := repL_length _ _ hr
    simp only [Rep] at hv
    obtain ⟨l, hl, he⟩ := hv
    obtain ⟨c, e, fz, k1, k2, k3, k4⟩ := row_of hp.sim hH (fun _ h => by cases h) hl
    have hfit := k4.1
    have hone : ∀ v ∈ (a.eval y).cells.toList, one v := fun v hv => by
      obtain ⟨i, hi, rfl⟩ := List.getElem_of_mem hv
      obtain ⟨u, hu', hr'⟩ := ((repL_iff _ _).1 hr).2 i _ (List.getElem?_eq_getElem (by omega))
      rw [List.getElem?_eq_getElem hi] at hu'
      cases hu'
      exact rep_one (List.all_eq_true.1 h1 _ (List.getElem_mem _)) hr'
    obtain ⟨c', q1, q2, q3, q4⟩ := run_storeCells_row (P := P) (a.eval y).cells.toList 0 (w := w) (b := l.blk) (off := l.base + k) k1 k3 (by rw [hlen]; omega) hone
    simp only [Nat.add_zero] at q3 q4
    refine ⟨w.setRow l.blk c', g, _, ?_, .refl g, hp.sim.write (x := .cel (putAt xs k av.parts)) (same_setRow _ _ _) hH hl (fun b hb => setRow_other w _ _ _ hb) (heap_setRow k1) (by omega) (fun j hj => k3 j (by omega)) ⟨?_, ?_⟩, hcont⟩
    · have hs : (a.eval y).cells.size = m := by rw [← Array.length_toList, hlen, hm]
      simp [execOp, he, Instr.storeAt, Instr.sureAddr, storeVar, hsz, hs, q1]
    · simp [putAt]; omega
    · rw [repAt_iff]
      intro i z hi
      have hlt := (List.getElem?_eq_some_iff.1 hi).1
      have hall := (repAt_iff _ _ _).1 k4.2
      simp only [putAt] at hi hlt
      by_cases c1 : i < k
      · rw [List.append_assoc, List.getElem?_append_left (by simp; omega), List.getElem?_take, if_pos c1] at hi
        rw [q3 _ (.inl (by omega))]
        exact hall i z hi
      · by_cases c2 : i < k + av.parts.length
        · rw [List.append_assoc, List.getElem?_append_right (by simp; omega), List.getElem?_append_left (by simp; omega)] at hi
          have hmin : (xs.take k).length = k := by simp; omega
          rw [hmin] at hi
          obtain ⟨u, hu', hr'⟩ := ((repL_iff _ _).1 hr).2 _ z hi
          refine ⟨u, ?_, rep_one (List.all_eq_true.1 h1 z (List.mem_of_getElem? hi)) hr', hr'⟩
          have := q4 (i - k) (by omega)
          rw [show l.base + k + (i - k) = l.base + i from by omega] at this
          rw [this]; exact hu'
        · rw [List.getElem?_append_right (by simp; omega)] at hi
          have hmin : (xs.take k ++ av.parts).length = k + av.parts.length := by simp; omega
          rw [hmin, List.getElem?_drop] at hi
          rw [q3 _ (.inr (by omega))]
          have := hall _ z hi
          rwa [show k + av.parts.length + (i - (k + av.parts.length)) = i from by omega] at this
theorem awl_store1 {t : TypeId} {x y : Operand} {ob k : Nat} {xs : List AV} {av : AV} [hC : CellT P t] (hx : reval R x = .ptr ob k) (hy : reval R y = av) (hH : H ob = some (.cel xs)) (h1 : av.one1 = true) (hk : k < xs.length)
    (hcont : AWL P n ops rest K R (H.set ob (.cel (xs.set k av)))) : AWL P n ops (⟨none, .store t x y, ty, pos, af, none⟩ :: rest) K R H := by
  have hp : av.parts = [av] := by
    cases av with
    | raw v => cases v <;> first | rfl | (simp [AV.one1, Value.oneCell'] at h1)
    | agg xs => simp [AV.one1] at h1
    | _ => rfl
  refine awl_store hx hy hH hp (by simp [h1]) hC.s rfl (by omega) ?_
  have : putAt xs k [av] = xs.set k av := by
    simp only [putAt, List.length_singleton]
    rw [List.set_eq_take_append_cons_drop, if_pos hk]
    simp
  rw [this]; exact hcont
theorem awl_storeByte {t : TypeId} {x y : Operand} {ob k : Nat} {bs : List UInt8} {a0 : Int} [hC : CellT P t] (hx : reval R x = .ptr ob k) (hy : reval R y = .raw (.int .u8 a0)) (hH : H ob = some (.byt bs)) (h0 : 0 ≤ a0) (h1 : a0 ≤ 255) (hk : k < bs.length)
    (hcont : AWL P n ops rest K R (H.set ob (.byt (bs.set k (UInt8.ofNat a0.toNat))))) : AWL P n ops (⟨none, .store t x y, ty, pos, af, none⟩ :: rest) K R H :=
  awl_none rfl rfl fun g a w hp => by
    have hv := rv hp hx
    have hu := rv hp hy
    simp only [Rep] at hv hu
    obtain ⟨l, hl, he⟩ := hv
    obtain ⟨c, e, fz, k1, k2, k3, k4⟩ := row_of hp.sim hH (fun _ h => by cases h) hl
    have hfit := k4.1
    have hst := run_store_row (P := P) (v := .int .u8 a0) k1 k3 (k := l.base + k) (by omega) rfl
    refine ⟨w.setRow l.blk (c.setIfInBounds (l.base + k) (.int .u8 a0)), g, _, ?_, .refl g, hp.sim.write (x := .byt (bs.set k (UInt8.ofNat a0.toNat))) (same_setRow _ _ _) hH hl (fun b hb => setRow_other w _ _ _ hb) (heap_setRow k1) (by simp [k2]) (fun j hj => k3 j (by simpa using hj)) ⟨?_, fun i z hi => ?_⟩, hcont⟩
    · simp [execOp, he, hu, Instr.storeAt, Instr.sureAddr, storeVar, hC.s, Value.cells, storeCells, Addr.add_zero', hst]
    · simp; omega
    · rw [List.getElem?_set] at hi
      by_cases hik : k = i
      · subst hik
        rw [if_pos rfl, if_pos hk] at hi
        cases hi
        rw [Array.getElem?_setIfInBounds_self_of_lt (by omega)]
        have : (UInt8.ofNat a0.toNat).toNat = a0.toNat := by simp; omega
        rw [this]
        congr 2
        omega
      · rw [if_neg hik] at hi
        rw [Array.getElem?_setIfInBounds_ne (by omega)]
        exact k4.2 i z hi
theorem s_bytes_str {s t : TypeId} {x : Operand} {av : AV} {bs : List UInt8} {e sz bytes : Nat} {z : Value} [hT : SliceT P s e sz bytes z] [hS : StrT P t] [hE : IntT P e .u8] (hx : reval R x = av) (hsrc : SrcA H av bs.length 1 (.byt bs)) (hsl : ∀ g v, Rep g av v → ∃ a k cap, v = .slice a k cap) :
    Stp P n (.convert s t x) ty R H (.str bs) :=
  stp_pure fun o ho ht g a w hp => by
    have hv := rv hp hx
    obtain ⟨ad, k, cap, he⟩ := hsl g _ hv
    have hs := hsrc P g w _ hp.sim hv
    obtain ⟨news, n1, n2, n3, n4⟩ := hs.cells
    have hlo := hs.lenOf w
    rw [he] at hlo n4
    simp [Builtin.lenOf] at hlo
    subst hlo
    refine ⟨.string ⟨bs.toArray⟩, ?_, by simp only [Rep]⟩
    have hnews : news = ((bs.map fun b => (b.toNat : Int)).map (Value.int .u8)).toArray := by
      apply Array.ext'
      apply List.ext_getElem?
      intro i
      by_cases hi : i < bs.length
      · have := n2.2 i _ (List.getElem?_eq_getElem hi)
        rw [Nat.zero_add] at this
        rw [Array.getElem?_toList, this]
        simp [hi]
      · simp only [AO.len] at n1
        rw [Array.getElem?_toList, Array.getElem?_eq_none (by rw [n1]; omega), List.getElem?_eq_none (by simp; omega)]
    cases ad with
    | none =>
      have h0 := n4 w rfl
      simp [Builtin.firstCells] at h0
      have hb : bs = [] := by
        subst hnews
        simpa using h0
      subst hb
      simp [execOp, ho, he, run_convert_bytes_string w s t e none 0 cap hT.h hE.h hS.h, Conv.bytesToString]
      rfl
    | some ad =>
      have hl := n4 w rfl
      simp only [Builtin.firstCells, Nat.mul_one] at hl
      have hr := run_bytesToString (P := P) w ad bs.length cap (bs.map fun b => (b.toNat : Int)) (by rw [hl, hnews])
      rw [foldl_push_byteCells] at hr
      simp only [execOp, ho, he, Sem.run_bind, run_convert_bytes_string w s t e (some ad) bs.length cap hT.h hE.h hS.h, hr, Result.andThen_ok, Sem.run_pure]
      congr 4
      show (#[] : Array UInt8) ++ bs.toArray = bs.toArray
      simp
theorem s_str_bytes {s t : TypeId} {x : Operand} {bs : List UInt8} {e sz bytes : Nat} {z : Value} [hT : SliceT P t e sz bytes z] [hS : StrT P s] [hE : IntT P e .u8] (hx : reval R x = .str bs) :
    Stp P n (.convert s t x) ty R H (.bys bs) :=
  stp_run fun o ho ht g a w hp => by
    have hv := rv hp hx
    simp only [Rep] at hv
    have hr := run_bytes_of_string (P := P) w s t e ⟨bs.toArray⟩ hS.h hT.h hE.h
    rw [size_mk] at hr
    generalize hcap : grownCap w bs.length 0 e = cap at hr
    have hge : bs.length ≤ cap := hcap ▸ grownCap_ge w _ _ _
    generalize hc3 : bytesRow ⟨bs.toArray⟩ cap = c3 at hr
    obtain ⟨hn, hsim⟩ := hp.sim.newSeal (w' := w.drew.alloc (.cells c3 e (c3.size, c3.size + 1))) ⟨rfl, rfl, rfl⟩ rfl
    refine ⟨.slice (some ⟨w.heap.size, 0, none⟩) bs.length cap, _, _, by simp only [execOp, ho, hv, Sem.run_bind, hr, Result.andThen_ok, Sem.run_pure], g.le_seal' hn _, ?_, hsim⟩
    simp only [Rep]
    refine .inr ⟨w.heap.size, 0, cap, c3, e, (c3.size, c3.size + 1), rfl, hge, Gh.seal'_self _ _ _, fun i y hi => ?_⟩
    subst hc3
    have hlt := (List.getElem?_eq_some_iff.1 hi).1
    rw [bytesRow, Nat.zero_add, Array.getElem?_append_left (by simp; omega)]
    simp [hi]
theorem s_streq {t t2 : TypeId} {x y : Operand} {as bs : List UInt8} (hx : reval R x = .str as) (hy : reval R y = .str bs) : Stp P n (.binOp .eql t x y t2) ty R H (.raw (.bool (decide (as = bs)))) :=
  stp_pure fun o ho ht g a w hp => by
    have h1 := rv hp hx
    have h2 := rv hp hy
    simp only [Rep] at h1 h2
    refine ⟨.bool (decide (as = bs)), ?_, by simp only [Rep]⟩
    have hb : (as == bs) = decide (as = bs) := by rw [Bool.eq_iff_iff]; simp
    simp [execOp, ho, h1, h2, binOp_string_eql, eqGuard_at_string, hb]
theorem s_strne {t t2 : TypeId} {x y : Operand} {as bs : List UInt8} (hx : reval R x = .str as) (hy : reval R y = .str bs) : Stp P n (.binOp .neq t x y t2) ty R H (.raw (.bool (decide (as ≠ bs)))) :=
  stp_pure fun o ho ht g a w hp => by
    have h1 := rv hp hx
    have h2 := rv hp hy
    simp only [Rep] at h1 h2
    refine ⟨.bool (decide (as ≠ bs)), ?_, by simp only [Rep]⟩
    have hb : (as == bs) = decide (as = bs) := by rw [Bool.eq_iff_iff]; simp
    simp [execOp, ho, h1, h2, binOp_string_neq, eqGuard_at_string, hb]
theorem s_stradd {t t2 : TypeId} {x y : Operand} {as bs : List UInt8} (hx : reval R x = .str as) (hy : reval R y = .str bs) (hb : as.length + bs.length ≤ 9223372036854775807) : Stp P n (.binOp .add t x y t2) ty R H (.str (as ++ bs)) :=
  stp_pure fun o ho ht g a w hp => by
    have h1 := rv hp hx
    have h2 := rv hp hy
    simp only [Rep] at h1 h2
    refine ⟨.string ⟨(as ++ bs).toArray⟩, ?_, by simp only [Rep]⟩
    have hc : ¬ ((9223372036854775807 : Int) < (as.length : Int) + (bs.length : Int)) := by omega
    have he : (ByteArray.mk as.toArray) ++ (ByteArray.mk bs.toArray) = ⟨(as ++ bs).toArray⟩ := by
      apply ByteArray.ext
      simp
    simp [execOp, ho, h1, h2, binOp, Op.stringOp, size_mk, hc, he, eqGuard_at_string]
theorem s_extract {x : Operand} {i : Nat} {xs : List AV} {y : AV} (hx : reval R x = .tup xs) (hy : xs[i]? = some y) : Stp P n (.extract x i) ty R H y :=
  stp_pure fun o ho ht g a w hp => by
    have h1 := rv hp hx
    simp only [Rep] at h1
    obtain ⟨ar, he, hr⟩ := h1
    obtain ⟨u, hu, hr'⟩ := ((repL_iff _ _).1 hr).2 i y hy
    rw [Array.getElem?_toList] at hu
    exact ⟨u, by simp [execOp, ho, he, Instr.extract, hu], hr'⟩
theorem s_field1 {t : TypeId} {x : Operand} {f k : Nat} {xs : List AV} {y : AV} (hF : ∃ fs fd, P.underlying t = some (.struct fs) ∧ fs[f]? = some fd ∧ fd.offset = k ∧ (∀ w, (isAgg fd.type).run P w = .ok false w)) (hx : reval R x = .agg xs) (hy : xs[k]? = some y) : Stp P n (.field t x f) ty R H y :=
  stp_pure fun o ho ht g a w hp => by
    have h1 := rv hp hx
    simp only [Rep] at h1
    obtain ⟨ar, he, hr⟩ := h1
    obtain ⟨u, hu, hr'⟩ := ((repL_iff _ _).1 hr).2 k y hy
    rw [Array.getElem?_toList] at hu
    obtain ⟨fs, fd, e1, e2, e3, e4⟩ := hF
    exact ⟨u, by simp [execOp, ho, he, Instr.field, run_underlying e1, e2, part, e4, asAgg, e3, hu], hr'⟩
end
end Go.Am
namespace Go.Am
open Go
section
variable {P : Program} {n : Nat} {K : Exit → Regs → AHeap → Prop} {R : Regs} {H : AHeap} {ops : Array Oper} {rest : List Oper} {ty : TypeId} {d : Tmp} {pos : String} {af : Array Edge}
def ACalls (P : Program) (f : FuncId) (args : List AV) (H : AHeap) (Kc : AV → AHeap → Prop) : Prop :=
  ∀ g w (vals : Array Value), RepL g args vals.toList → Sim g H w →
    Calls P f vals w fun e w' => ∃ v r H' g', e = .returned v ∧ g.le g' ∧ Rep g' r v ∧ Sim g' H' w' ∧ Kc r H'
theorem ACalls.mono {f : FuncId} {args : List AV} {Kc Kc' : AV → AHeap → Prop} (h : ACalls P f args H Kc) (hk : ∀ r H', Kc r H' → Kc' r H') : ACalls P f args H Kc' :=
  fun g w vals h1 h2 => (h g w vals h1 h2).mono fun _ _ ⟨v, r, H', g', e1, e2, e3, e4, e5⟩ => ⟨v, r, H', g', e1, e2, e3, e4, hk _ _ e5⟩
class FuncT (P : Program) (f : FuncId) : Prop where
  h : ∀ (args : Array Value) (w : World), (callFunc f args).run P w = .ok (.enter f args) w
theorem repL_append {g : Gh} : ∀ {xs ys : List AV} {l m : List Value}, RepL g xs l → RepL g ys m → RepL g (xs ++ ys) (l ++ m)
  | [], ys, l, m, h, k => by simp only [RepL] at h; subst h; simpa using k
  | x :: xs, ys, l, m, h, k => by
    simp only [RepL] at h
    obtain ⟨u, us, rfl, h1, h2⟩ := h
    simp only [List.cons_append, RepL]
    exact ⟨u, us ++ m, rfl, h1, repL_append h2 k⟩
theorem repL_map {g : Gh} {a : Act} {w : World} (hp : Pre n R H g a w) : ∀ l : List Operand, RepL g (l.map (reval R)) (l.map a.eval)
  | [] => by simp only [List.map_nil, RepL]
  | x :: l => by simp only [List.map_cons, RepL]; exact ⟨_, _, rfl, rv hp rfl, repL_map hp l⟩
theorem run_call_op {f : FuncId} [hF : FuncT P f] {fo : Operand} {args : Array Operand} {ats : Array TypeId} {first caps avs : List AV} {g : Gh} {a : Act} {w : World} (hp : Pre n R H g a w) (hf : reval R fo = .fnc (.func f) first caps)
    (hargs : args.toList.map (reval R) = avs) (o : Oper) (ho : o.op = .call { callee := .value fo, args := args, argTypes := ats }) :
    ∃ vals : Array Value, (execOp a.eval o).run P w = .ok (.enter f vals) w ∧ RepL g (first ++ avs ++ caps) vals.toList := by
  have hv := rv hp hf
  simp only [Rep] at hv
  obtain ⟨x, y, he, h1, h2⟩ := hv
  refine ⟨x ++ args.map a.eval ++ y, ?_, ?_⟩
  · simp [execOp, ho, resolve, he, Deferred.ofValue, invoke, hF.h]
  · simp only [Array.toList_append, Array.toList_map]
    exact repL_append (repL_append h1 (hargs ▸ repL_map hp _)) h2
theorem awl_callv {f : FuncId} [hF : FuncT P f] {fo : Operand} {args : Array Operand} {ats : Array TypeId} {first caps avs : List AV} {Kc : AV → AHeap → Prop} (hdn : Nat.blt d n = true) (hf : reval R fo = .fnc (.func f) first caps) (hargs : args.toList.map (reval R) = avs)
    (hc : ACalls P f (first ++ avs ++ caps) H Kc) (hk : ∀ r H', Kc r H' → AWL P n ops rest K ((d, r) :: R) H') :
    AWL P n ops (⟨some d, .call { callee := .value fo, args := args, argTypes := ats }, ty, pos, af, none⟩ :: rest) K R H := fun g a w hp => by
  obtain ⟨vals, hr, hl⟩ := run_call_op (P := P) hp hf hargs ⟨some d, .call { callee := .value fo, args := args, argTypes := ats }, ty, pos, af, none⟩ rfl
  refine wpList_plain rfl fun K' hK' => ?_
  rw [Oper.wp, hr, Oper.upon_enter]
  refine (hc g w vals hl hp.sim).mono ?_
  rintro e w' ⟨v, r, H', g', rfl, e2, e3, e4, e5⟩
  exact hK' _ _ (wpList_mono2 (fun _ _ _ hq => hq.le e2) _ _ _ (hk r H' e5 g' _ w' (hp.put e2 hdn e3 e4)))
theorem awl_call {f : FuncId} [hF : FuncT P f] {args : Array Operand} {ats : Array TypeId} {avs : List AV} {Kc : AV → AHeap → Prop} (hdn : Nat.blt d n = true) (hargs : args.toList.map (reval R) = avs)
    (hc : ACalls P f avs H Kc) (hk : ∀ r H', Kc r H' → AWL P n ops rest K ((d, r) :: R) H') :
    AWL P n ops (⟨some d, .call { callee := .value (.func f), args := args, argTypes := ats }, ty, pos, af, none⟩ :: rest) K R H :=
  awl_callv hdn (first := []) (caps := []) rfl hargs (by simpa using hc) hk
theorem awl_call0 {f : FuncId} [hF : FuncT P f] {args : Array Operand} {ats : Array TypeId} {avs : List AV} {Kc : AV → AHeap → Prop} (hargs : args.toList.map (reval R) = avs)
    (hc : ACalls P f avs H Kc) (hk : ∀ r H', Kc r H' → AWL P n ops rest K R H') :
    AWL P n ops (⟨none, .call { callee := .value (.func f), args := args, argTypes := ats }, ty, pos, af, none⟩ :: rest) K R H := fun g a w hp => by
  obtain ⟨vals, hr, hl⟩ := run_call_op (P := P) (f := f) (first := []) (caps := []) hp rfl hargs ⟨none, .call { callee := .value (.func f), args := args, argTypes := ats }, ty, pos, af, none⟩ rfl
  refine wpList_plain rfl fun K' hK' => ?_
  rw [Oper.wp, hr, Oper.upon_enter]
  refine (hc g w vals (by simpa using hl) hp.sim).mono ?_
  rintro e w' ⟨v, r, H', g', rfl, e2, e3, e4, e5⟩
  exact hK' _ _ (wpList_mono2 (fun _ _ _ hq => hq.le e2) _ _ _ (hk r H' e5 g' _ w' ⟨hp.defers, hp.size, hp.regs.mono e2, e4⟩))
theorem s_callv {f : FuncId} [hF : FuncT P f] {fo : Operand} {args : Array Operand} {ats : Array TypeId} {first caps avs : List AV} {x : AV} (hf : reval R fo = .fnc (.func f) first caps) (hargs : args.toList.map (reval R) = avs)
    (hc : ACalls P f (first ++ avs ++ caps) H fun r H' => r = x ∧ H' = H) : Stp P n (.call { callee := .value fo, args := args, argTypes := ats }) ty R H x := fun o ho ht g a w hp Kc Q hk => by
  obtain ⟨vals, hr, hl⟩ := run_call_op (P := P) hp hf hargs o ho
  rw [Oper.wp, hr, Oper.upon_enter]
  refine (hc g w vals hl hp.sim).mono ?_
  rintro e w' ⟨v, r, H', g', rfl, e2, e3, e4, rfl, rfl⟩
  exact hk v w' g' e2 e3 e4
theorem s_call {f : FuncId} [hF : FuncT P f] {args : Array Operand} {ats : Array TypeId} {avs : List AV} {x : AV} (hargs : args.toList.map (reval R) = avs)
    (hc : ACalls P f avs H fun r H' => r = x ∧ H' = H) : Stp P n (.call { callee := .value (.func f), args := args, argTypes := ats }) ty R H x :=
  s_callv (first := []) (caps := []) rfl hargs (by simpa using hc)
def argRegs : List AV → Nat → Regs
  | [], _ => []
  | x :: xs, i => (i, x) :: argRegs xs (i + 1)
theorem rget_argRegs : ∀ (xs : List AV) (k i : Nat), rget (argRegs xs k) i = if k ≤ i then (xs[i - k]?).getD .unk else .unk
  | [], k, i => by simp [argRegs, rget]
  | x :: xs, k, i => by
    simp only [argRegs, rget]
    by_cases h : k = i
    · subst h; simp
    · have hb : Nat.beq k i = false := by
        cases hb : Nat.beq k i with
        | false => rfl
        | true => exact absurd (Nat.eq_of_beq_eq_true hb) h
      rw [hb]
      simp only [Bool.false_eq_true, if_false, rget_argRegs xs (k + 1) i]
      by_cases h2 : k ≤ i
      · rw [if_pos (by omega), if_pos h2, show i - k = (i - (k + 1)) + 1 from by omega, List.getElem?_cons_succ]
      · rw [if_neg (by omega), if_neg h2]
def Ret (P : Program) (fn : Func) (R : Regs) (H : AHeap) (r : AV) : Prop :=
  ∀ g a w, Pre fn.ntmps R H g a w → ∃ v, (results fn a.tmps).run P w = .ok v w ∧ Rep g r v
def kret (P : Program) (fn : Func) (Kc : AV → AHeap → Prop) : Exit → Regs → AHeap → Prop :=
  fun e R H => (e = .ret ∨ e = .normal) ∧ ∃ R' H' r, Ent R H R' H' ∧ Ret P fn R' H' r ∧ Kc r H'
theorem acalls_of_aw {f : FuncId} {fn : Func} {c : Code} {args : List AV} {Kc : AV → AHeap → Prop} (hf : P.funcs[f]? = some fn) (hb : fn.body = some c) (hn : args.length ≤ fn.ntmps)
    (h : AW P fn.ntmps c (kret P fn Kc) (argRegs args 0) H) : ACalls P f args H Kc := fun g w vals hl hs => by
  have hlen := repL_length _ _ hl
  rw [Array.length_toList] at hlen
  refine calls_of_wp hf hb (wp_mono (h g _ w ⟨rfl, ?_, ?_, hs⟩) ?_)
  · simp; omega
  · intro i
    rw [rget_argRegs]
    simp only [Nat.zero_le, if_true, Nat.sub_zero]
    cases hi : args[i]? with
    | none => simp [Rep]
    | some x =>
      obtain ⟨u, hu, hr⟩ := ((repL_iff _ _).1 hl).2 i x hi
      rw [Array.getElem?_toList] at hu
      have hlt := (Array.getElem?_eq_some_iff.1 hu).1
      rw [Array.getD_eq_getD_getElem?, Array.getElem?_append_left hlt, hu]
      simpa using hr
  · rintro e a' w' ⟨R', H', g', ⟨he, R2, H2, r, h1, h2, h3⟩, hle, hp⟩
    obtain ⟨g'', l2, r2, s2⟩ := h1 g' a'.tmps w' hp.regs hp.sim
    obtain ⟨v, hv, hrep⟩ := h2 g'' a' w' ⟨hp.defers, hp.size, r2, s2⟩
    rcases he with rfl | rfl <;> exact ⟨hp.defers, v, hv, v, r, H2, g'', rfl, hle.trans l2, hrep, s2, h3⟩
theorem acalls_of_aw0 {f : FuncId} {fn : Func} {c : Code} {Kc : AV → AHeap → Prop} (hf : P.funcs[f]? = some fn) (hb : fn.body = some c)
    (h : AW P fn.ntmps c (kret P fn Kc) [] H) : ACalls P f [] H Kc := acalls_of_aw hf hb (by simp) h
theorem acalls_of_aw1 {f : FuncId} {fn : Func} {c : Code} {x0 : AV} {Kc : AV → AHeap → Prop} (hf : P.funcs[f]? = some fn) (hb : fn.body = some c) (hn : 1 ≤ fn.ntmps)
    (h : AW P fn.ntmps c (kret P fn Kc) [(0, x0)] H) : ACalls P f [x0] H Kc := acalls_of_aw hf hb (by simpa using hn) h
theorem acalls_of_aw2 {f : FuncId} {fn : Func} {c : Code} {x0 x1 : AV} {Kc : AV → AHeap → Prop} (hf : P.funcs[f]? = some fn) (hb : fn.body = some c) (hn : 2 ≤ fn.ntmps)
    (h : AW P fn.ntmps c (kret P fn Kc) [(0, x0), (1, x1)] H) : ACalls P f [x0, x1] H Kc := acalls_of_aw hf hb (by simpa using hn) h
theorem acalls_of_aw3 {f : FuncId} {fn : Func} {c : Code} {x0 x1 x2 : AV} {Kc : AV → AHeap → Prop} (hf : P.funcs[f]? = some fn) (hb : fn.body = some c) (hn : 3 ≤ fn.ntmps)
    (h : AW P fn.ntmps c (kret P fn Kc) [(0, x0), (1, x1), (2, x2)] H) : ACalls P f [x0, x1, x2] H Kc := acalls_of_aw hf hb (by simpa using hn) h
theorem acalls_of_aw4 {f : FuncId} {fn : Func} {c : Code} {x0 x1 x2 x3 : AV} {Kc : AV → AHeap → Prop} (hf : P.funcs[f]? = some fn) (hb : fn.body = some c) (hn : 4 ≤ fn.ntmps)
    (h : AW P fn.ntmps c (kret P fn Kc) [(0, x0), (1, x1), (2, x2), (3, x3)] H) : ACalls P f [x0, x1, x2, x3] H Kc := acalls_of_aw hf hb (by simpa using hn) h
theorem acalls_of_aw5 {f : FuncId} {fn : Func} {c : Code} {x0 x1 x2 x3 x4 : AV} {Kc : AV → AHeap → Prop} (hf : P.funcs[f]? = some fn) (hb : fn.body = some c) (hn : 5 ≤ fn.ntmps)
    (h : AW P fn.ntmps c (kret P fn Kc) [(0, x0), (1, x1), (2, x2), (3, x3), (4, x4)] H) : ACalls P f [x0, x1, x2, x3, x4] H Kc := acalls_of_aw hf hb (by simpa using hn) h
theorem ret1 {fn : Func} {t : Tmp} {r : AV} (h : fn.results = #[.tmp t]) (hr : rget R t = r) : Ret P fn R H r := fun _ _ _ hp => ⟨_, results_tmp h _ _ _, hr ▸ hp.regs t⟩
theorem ret0 {fn : Func} (h : fn.results = #[]) : Ret P fn R H (.tup []) := fun _ _ _ _ => ⟨_, results_none h _ _ _, by simp only [Rep]; exact ⟨#[], rfl, by simp only [RepL]⟩⟩
theorem ret2 {fn : Func} {t u : Tmp} {r s : AV} (h : fn.results = #[.tmp t, .tmp u]) (hr : rget R t = r) (hs : rget R u = s) : Ret P fn R H (.tup [r, s]) := fun _ _ _ hp =>
  ⟨_, results_tmp2 h _ _ _, by simp only [Rep]; exact ⟨_, rfl, by simp only [RepL]; exact ⟨_, _, rfl, hr ▸ hp.regs t, _, _, rfl, hs ▸ hp.regs u, rfl⟩⟩⟩
theorem ret3 {fn : Func} {t u x : Tmp} {r s y : AV} (h : fn.results = #[.tmp t, .tmp u, .tmp x]) (hr : rget R t = r) (hs : rget R u = s) (hy : rget R x = y) : Ret P fn R H (.tup [r, s, y]) := fun _ a _ hp =>
  ⟨.tuple #[a.tmps.getD t undef, a.tmps.getD u undef, a.tmps.getD x undef], by simp [results, h], by simp only [Rep]; exact ⟨_, rfl, by simp only [RepL]; exact ⟨_, _, rfl, hr ▸ hp.regs t, _, _, rfl, hs ▸ hp.regs u, _, _, rfl, hy ▸ hp.regs x, rfl⟩⟩⟩
theorem aw_loop {c : Code} (I : Nat → Regs → AHeap → Prop) (h0 : ∃ m R0 H0, Ent R H R0 H0 ∧ I m R0 H0)
    (round : ∀ m R0 H0, I m R0 H0 → AW P n c (kseq (fun R' H' => ∃ m' R1 H1, m' < m ∧ Ent R' H' R1 H1 ∧ I m' R1 H1) K) R0 H0) : AW P n (.loop c) K R H := by
  intro g a w hp b k cs
  have key : ∀ m g a w R0 H0, I m R0 H0 → Pre n R0 H0 g a w →
      ∃ e a' w', Post n g K e a' w' ∧ Arrives P (lone (b.at a (.code c :: .inLoop c :: k)) cs w) b k cs e a' w' := by
    intro m
    induction m using Nat.strongRecOn with
    | _ m ih =>
      intro g a w R0 H0 hI hp
      obtain ⟨e, a1, w1, ⟨R', H', g', hk, hle, hp'⟩, harr⟩ := round m R0 H0 hI g a w hp b (.inLoop c :: k) cs
      cases e with
      | normal =>
        obtain ⟨m', R1, H1, hlt, hent, hI'⟩ := hk
        obtain ⟨g'', l2, r2, s2⟩ := hent g' a1.tmps w1 hp'.regs hp'.sim
        obtain ⟨e2, a2, w2, hq2, harr2⟩ := ih m' hlt g'' a1 w1 R1 H1 hI' ⟨hp'.defers, hp'.size, r2, s2⟩
        exact ⟨e2, a2, w2, (hq2.le l2).le hle, .of_steps (Steps.trans harr (.one step_inLoop)) harr2⟩
      | exit id => exact ⟨_, a1, w1, ⟨R', H', g', hk, hle, hp'⟩, .pass (x := .inLoop c) rfl (fun _ _ => .inl (by simp)) harr⟩
      | goto l => exact ⟨_, a1, w1, ⟨R', H', g', hk, hle, hp'⟩, .pass (x := .inLoop c) rfl (fun _ _ => .inl (by simp)) harr⟩
      | ret => exact ⟨_, a1, w1, ⟨R', H', g', hk, hle, hp'⟩, .pass (x := .inLoop c) rfl (fun _ _ => .inl (by simp)) harr⟩
      | panic ch => exact ⟨_, a1, w1, ⟨R', H', g', hk, hle, hp'⟩, .pass (x := .inLoop c) rfl (fun _ _ => .inl (by simp)) harr⟩
      | outgrown => exact ⟨_, a1, w1, ⟨R', H', g', hk, hle, hp'⟩, .pass (x := .inLoop c) rfl (fun _ _ => .inl (by simp)) harr⟩
  obtain ⟨m, R0, H0, hent, hI⟩ := h0
  obtain ⟨g1, l1, r1, s1⟩ := hent g a.tmps w hp.regs hp.sim
  obtain ⟨e, a', w', hq, harr⟩ := key m g1 a w R0 H0 hI ⟨hp.defers, hp.size, r1, s1⟩
  exact ⟨e, a', w', hq.le l1, .of_steps (.one step_loop) harr⟩
theorem AHeap.set_self (H : AHeap) (o : Nat) (x : AO) : (H.set o x) o = some x := by simp [AHeap.set]
theorem AHeap.erase_set {H : AHeap} {o : Nat} (h : H o = none) (x : AO) : (H.set o x).erase o = H := by
  funext p
  simp only [AHeap.set, AHeap.erase]
  by_cases hp : p = o
  · subst hp; simp [h]
  · simp [hp]
theorem AHeap.set_set (H : AHeap) (o : Nat) (x y : AO) : (H.set o x).set o y = H.set o y := by
  funext p
  simp only [AHeap.set]
  split <;> rfl
theorem AHeap.get_set_ne {H : AHeap} {o p : Nat} (x : AO) (h : p ≠ o) : (H.set o x) p = H p := by simp [AHeap.set, h]
theorem AHeap.get_set_of {H : AHeap} {o p : Nat} {x : AO} {y : AO} (hn : H o = none) (h : H p = some y) : (H.set o x) p = some y := by
  rw [AHeap.get_set_ne]
  · exact h
  · rintro rfl; rw [hn] at h; cases h
theorem AHeap.erase_none {H : AHeap} {o : Nat} (h : H o = none) : H.erase o = H := by
  funext p
  simp only [AHeap.erase]
  split
  · rename_i e; rw [e, h]
  · rfl
theorem Ent.drop (R : Regs) (H : AHeap) (o : Nat) : Ent R H R (H.erase o) := fun g _ _ h1 h2 => ⟨g, .refl g, h1, h2.erase o⟩
theorem Ent.drop_set (R : Regs) {H : AHeap} {o : Nat} (h : H o = none) (x : AO) : Ent R (H.set o x) R H := by
  have := Ent.drop R (H.set o x) o
  rwa [AHeap.erase_set h] at this
theorem Ent.seal {o sz off len i : Nat} {x : AO} (hi : rget R i = .vw o sz off len) (hH : H o = some x) (hm : ∀ es, x ≠ .mpo es) (hl : off + len * sz ≤ x.len) (hsz : ∀ bs, x = .byt bs → sz = 1) :
    Ent R H ((i, sealAV len (x.seg off (len * sz))) :: R) (H.erase o) := fun g t w h1 h2 => by
  have hv := h1 i
  rw [hi] at hv
  simp only [Rep] at hv
  have hget : ∀ (g' : Gh) (y : AV), g.le g' → Rep g' y (t.getD i undef) → RegRel g' ((i, y) :: R) t := fun g' y hle hy j => by
    simp only [rget]
    by_cases hb : Nat.beq i j = true
    · rw [if_pos hb, ← Nat.eq_of_beq_eq_true hb]; exact hy
    · rw [if_neg hb]; exact Rep.mono hle _ _ (h1 j)
  have hsegm : ∀ es, x.seg off (len * sz) ≠ .mpo es := fun es e => by cases x <;> simp_all [AO.seg]
  have hszs : ∀ bs, x.seg off (len * sz) = .byt bs → sz = 1 := fun bs e => by cases x <;> simp_all [AO.seg]
  rcases hv with ⟨l, cap, k1, k2, k3, k4⟩ | ⟨k0, a, k2⟩
  · obtain ⟨c, e, fz, q1, q2, q3, q4⟩ := row_of h2 hH hm k1
    have hsim := h2.sealObj hH k1 q1
    have hle := g.le_seal (h2.apart o x l hH k1) (.cells c e fz)
    refine ⟨_, hle, hget _ _ hle ?_, hsim⟩
    rw [k2]
    exact rep_sealAV (sz := sz) (Gh.seal_self _ _ _) ((q4.seg hl).mono hle) (segAO_len hl hm) hszs k3
  · refine ⟨g, .refl g, hget _ _ (.refl g) ?_, h2.erase o⟩
    subst k0
    rw [k2]
    cases x with
    | byt bs => simp [AO.seg, sealAV, Rep]
    | cel xs => simp [AO.seg, sealAV, Rep]
    | mpo es => exact absurd rfl (hm es)
theorem Ent.seal_byt {o i : Nat} {bs : List UInt8} (hi : rget R i = .vw o 1 0 bs.length) (hH : H o = some (.byt bs)) : Ent R H ((i, .bys bs) :: R) (H.erase o) := by
  have := Ent.seal (R := R) (H := H) hi hH (fun _ h => by cases h) (by simp [AO.len]) (fun _ _ => rfl)
  simpa [AO.seg, sealAV] using this
theorem Ent.seal_cel {o sz i m : Nat} {xs : List AV} (hi : rget R i = .vw o sz 0 m) (hH : H o = some (.cel xs)) (hl : xs.length = m * sz) : Ent R H ((i, .sls m xs) :: R) (H.erase o) := by
  have := Ent.seal (R := R) (H := H) hi hH (fun _ h => by cases h) (by simp [AO.len, hl]) (fun _ h => by cases h)
  rw [← hl] at this
  simpa [AO.seg, sealAV] using this
theorem madeCells_get {z : Array Value} {m i : Nat} (hi : i < m) : (madeCells z m)[i]? = some (z[i % z.size]!) := by
  simp [madeCells, hi]
theorem awl_make_byt {t e bytes : Nat} [hT : SliceT P t e 1 bytes (.int .u8 0)] {x y : Operand} {kl kc : IntKind} {l c : Nat} {zl zc : Int} [nl : NatOf zl l] [nc : NatOf zc c] (hdn : Nat.blt d n = true) (hx : reval R x = .raw (.int kl zl)) (hy : reval R y = .raw (.int kc zc)) (hlc : l ≤ c)
    (hb : bytes * c ≤ 281474976710656) (h63 : c ≤ 9223372036854775807) (hk : ∀ o', H o' = none → AWL P n ops rest K ((d, .vw o' 1 0 l) :: R) (H.set o' (.byt (List.replicate l 0)))) :
    AWL P n ops (⟨some d, .makeSlice t x y, ty, pos, af, none⟩ :: rest) K R H := by
  cases nl.h; cases nc.h
  exact awl_step rfl rfl hdn fun g a w hp => by
    have hv := rv hp hx
    have hu := rv hp hy
    simp only [Rep] at hv hu
    obtain ⟨inf, i1, i2, i3, i4⟩ := hT.info
    have hb' : (inf.bytes : Int) * (c : Int) ≤ 281474976710656 := by
      rw [i4]
      have h : ((bytes * c : Nat) : Int) ≤ 281474976710656 := by omega
      rwa [Int.natCast_mul] at h
    have hr := run_make (P := P) w t e inf _ hT.h i1 i2 kl kc l c (by omega) (by omega) hb' (by omega)
    simp only [Int.toNat_natCast, i3, Nat.mul_one] at hr
    obtain ⟨o', ho', hl'⟩ := hp.sim.fresh
    refine ⟨.slice (some ⟨w.heap.size, 0, none⟩) l c, w.alloc (.cells (madeCells (Value.cells (.int .u8 0)) c) e), _, .vw o' 1 0 l, _, ?_, g.le_at hl' ⟨w.heap.size, 0, (madeCells (Value.cells (.int .u8 0)) c).size⟩, ?_,
      hp.sim.new (w' := w.alloc (.cells (madeCells (Value.cells (.int .u8 0)) c) e)) (x := .byt (List.replicate l 0)) ⟨rfl, rfl, rfl⟩ rfl (unfrozen00 _) hl' ⟨?_, fun i y hi => ?_⟩, hk o' ho'⟩
    · simp only [execOp, hv, hu, Sem.run_bind, hr, Result.andThen_ok, Sem.run_pure]
    · simp only [Rep]
      exact .inl ⟨_, c, Gh.at_self _ _ _, rfl, hlc, by simp [size_madeCells]⟩
    · simp [size_madeCells]; exact hlc
    · have hlt := (List.getElem?_eq_some_iff.1 hi).1
      simp at hlt
      rw [List.getElem?_replicate, if_pos hlt] at hi
      cases hi
      rw [Nat.zero_add, madeCells_get (by omega)]
      simp [Value.cells, Nat.mod_one]
theorem awl_make_cel {t e sz bytes : Nat} {z : Value} [hT : SliceT P t e sz bytes z] {x y : Operand} {kl kc : IntKind} {l c : Nat} {zl zc : Int} [nl : NatOf zl l] [nc : NatOf zc c] (hdn : Nat.blt d n = true) (hx : reval R x = .raw (.int kl zl)) (hy : reval R y = .raw (.int kc zc)) (hlc : l ≤ c) (h1 : sz = 1) (hz1 : z.oneCell' = true)
    (hb : bytes * c ≤ 281474976710656) (h63 : c ≤ 9223372036854775807) (hk : ∀ o', H o' = none → AWL P n ops rest K ((d, .vw o' 1 0 l) :: R) (H.set o' (.cel (List.replicate l (.raw z))))) :
    AWL P n ops (⟨some d, .makeSlice t x y, ty, pos, af, none⟩ :: rest) K R H := by
  cases nl.h; cases nc.h
  exact awl_step rfl rfl hdn fun g a w hp => by
    subst h1
    have hv := rv hp hx
    have hu := rv hp hy
    simp only [Rep] at hv hu
    obtain ⟨inf, i1, i2, i3, i4⟩ := hT.info
    have hb' : (inf.bytes : Int) * (c : Int) ≤ 281474976710656 := by
      rw [i4]
      have h : ((bytes * c : Nat) : Int) ≤ 281474976710656 := by omega
      rwa [Int.natCast_mul] at h
    have hr := run_make (P := P) w t e inf _ hT.h i1 i2 kl kc l c (by omega) (by omega) hb' (by omega)
    simp only [Int.toNat_natCast, i3, Nat.mul_one] at hr
    obtain ⟨o', ho', hl'⟩ := hp.sim.fresh
    have hzc : z.cells = #[z] := cells_of_one hz1
    refine ⟨.slice (some ⟨w.heap.size, 0, none⟩) l c, w.alloc (.cells (madeCells z.cells c) e), _, .vw o' 1 0 l, _, ?_, g.le_at hl' ⟨w.heap.size, 0, (madeCells z.cells c).size⟩, ?_,
      hp.sim.new (w' := w.alloc (.cells (madeCells z.cells c) e)) (x := .cel (List.replicate l (.raw z))) ⟨rfl, rfl, rfl⟩ rfl (unfrozen00 _) hl' ⟨?_, (repAt_iff _ _ _).2 fun i y hi => ?_⟩, hk o' ho'⟩
    · simp only [execOp, hv, hu, Sem.run_bind, hr, Result.andThen_ok, Sem.run_pure]
    · simp only [Rep]
      exact .inl ⟨_, c, Gh.at_self _ _ _, rfl, hlc, by simp [size_madeCells]⟩
    · simp [size_madeCells]; exact hlc
    · have hlt := (List.getElem?_eq_some_iff.1 hi).1
      simp at hlt
      rw [List.getElem?_replicate, if_pos hlt] at hi
      cases hi
      rw [Nat.zero_add, madeCells_get (by omega)]
      exact ⟨z, by simp [hzc, Nat.mod_one], hz1, by simp only [Rep]⟩
theorem foldl_set (off : Nat) : ∀ (l : List Value) (s : Nat) (cs : Array Value), off + s + l.length ≤ cs.size →
    ((l.zipIdx s).foldl (fun (cs : Array Value) (p : Value × Nat) => cs.setIfInBounds (off + p.2) p.1) cs).size = cs.size ∧
    (∀ j, j < off + s ∨ off + s + l.length ≤ j → ((l.zipIdx s).foldl (fun (cs : Array Value) (p : Value × Nat) => cs.setIfInBounds (off + p.2) p.1) cs)[j]? = cs[j]?) ∧
    (∀ j, j < l.length → ((l.zipIdx s).foldl (fun (cs : Array Value) (p : Value × Nat) => cs.setIfInBounds (off + p.2) p.1) cs)[off + s + j]? = l[j]?)
  | [], s, cs, _ => ⟨rfl, fun _ _ => rfl, fun j hj => by simp at hj⟩
  | v :: l, s, cs, h => by
    simp only [List.length_cons] at h
    obtain ⟨i1, i2, i3⟩ := foldl_set off l (s + 1) (cs.setIfInBounds (off + s) v) (by simp; omega)
    simp only [List.zipIdx_cons, List.foldl_cons, List.length_cons]
    refine ⟨by simpa using i1, fun j hj => ?_, fun j hj => ?_⟩
    · rw [i2 j (by omega), Array.getElem?_setIfInBounds_ne (by omega)]
    · cases j with
      | zero =>
        rw [i2 _ (by omega), Nat.add_zero, Array.getElem?_setIfInBounds_self_of_lt (by omega)]
        rfl
      | succ j =>
        have := i3 j (by omega)
        rw [show off + (s + 1) + j = off + s + (j + 1) from by omega] at this
        rw [this]; rfl
theorem fill_parts (sz : Nat) : ∀ (vs : List Value) (k : Nat) (cells : Array Value), (∀ v ∈ vs, v.cells.size = sz) → (k + vs.length) * sz ≤ cells.size →
    ∃ c', Instr.fill (fun i => some (i * sz, sz)) cells ((vs.zipIdx k).map fun p => (p.2, p.1)) = some c' ∧ c'.size = cells.size ∧
      (∀ j, j < k * sz → c'[j]? = cells[j]?) ∧ ∀ i r v, vs[i]? = some v → r < sz → c'[(k + i) * sz + r]? = v.cells[r]?
  | [], k, cells, _, _ => ⟨cells, rfl, rfl, fun _ _ => rfl, fun i r v h => by simp at h⟩
  | v :: vs, k, cells, hs, hl => by
    have hv := hs v (by simp)
    simp only [List.length_cons] at hl
    have hle : (k + 1) * sz ≤ cells.size := Nat.le_trans (Nat.mul_le_mul_right _ (by omega)) hl
    have hfit : k * sz + sz ≤ cells.size := by rw [Nat.add_mul, Nat.one_mul] at hle; exact hle
    have hvl : v.cells.toList.length = sz := by rw [Array.length_toList, hv]
    obtain ⟨f1, f2, f3⟩ := foldl_set (k * sz) v.cells.toList 0 cells (by omega)
    simp only [Nat.add_zero] at f2 f3
    have hfe : v.cells.zipIdx.foldl (fun cs x => cs.setIfInBounds (k * sz + x.2) x.1) cells = (v.cells.toList.zipIdx 0).foldl (fun (cs : Array Value) (p : Value × Nat) => cs.setIfInBounds (k * sz + p.2) p.1) cells := by
      rw [← Array.foldl_toList, Array.toList_zipIdx]
    generalize hcs : (v.cells.toList.zipIdx 0).foldl (fun (cs : Array Value) (p : Value × Nat) => cs.setIfInBounds (k * sz + p.2) p.1) cells = cs' at f1 f2 f3 hfe
    obtain ⟨c', q1, q2, q3, q4⟩ := fill_parts sz vs (k + 1) cs' (fun u hu => hs u (by simp [hu])) (by rw [f1, show k + 1 + vs.length = k + (vs.length + 1) from by omega]; exact hl)
    refine ⟨c', ?_, by rw [q2, f1], fun j hj => ?_, fun i r u hi hr => ?_⟩
    · simp only [List.zipIdx_cons, List.map_cons, Instr.fill]
      have hno : (decide (v.cells.size ≠ sz) || decide (k * sz + v.cells.size > cells.size)) = false := by
        rw [hv]; simp; omega
      rw [if_neg (by simp [hv]; omega), hfe]
      exact q1
    · rw [q3 j (by rw [Nat.add_mul]; omega), f2 j (.inl hj)]
    · cases i with
      | zero =>
        simp at hi; subst hi
        rw [Nat.add_zero, q3 _ (by rw [Nat.add_mul]; omega), f3 r (by omega)]
        simp
      | succ i =>
        simp at hi
        have := q4 i r u hi hr
        rwa [show k + 1 + i = k + (i + 1) from by omega] at this
def Parts (R : Regs) (ps : Array (Nat × Operand)) (xs : List AV) : Prop := ps.toList.map (·.1) = List.range xs.length ∧ ps.toList.map (fun p => reval R p.2) = xs
theorem parts_eq {a : Act} {ps : Array (Nat × Operand)} {m : Nat} (h : ps.toList.map (·.1) = List.range m) :
    (ps.map fun (i, x) => (i, a.eval x)).toList = ((ps.toList.map fun p => a.eval p.2).zipIdx 0).map fun p => (p.2, p.1) := by
  have hlen : ps.toList.length = m := by have := congrArg List.length h; simpa using this
  apply List.ext_getElem?
  intro i
  by_cases hi : i < m
  · have h1 : i < ps.toList.length := by omega
    have h2 : ps.toList[i].1 = i := by
      have := congrArg (fun l => l[i]?) h
      simp [hi] at this
      have h3 : i < ps.size := by simpa using h1
      rw [Array.getElem?_eq_getElem h3] at this
      simp at this
      obtain ⟨y, hy⟩ := this
      rw [Array.getElem_toList, hy]
    have h3 : i < ps.size := by simpa using h1
    simp [h3]
    simpa using h2
  · rw [List.getElem?_eq_none (by simp; simp at hlen; omega), List.getElem?_eq_none (by simp; simp at hlen; omega)]
theorem run_buildSlice {t e sz bytes len : Nat} {z : Value} [hT : SliceT P t e sz bytes z] {g : Gh} {a : Act} {w : World} (hp : Pre n R H g a w) {ps : Array (Nat × Operand)} {xs : List AV} (hps : Parts R ps xs) (hlen : xs.length = len)
    (hx : ∀ x ∈ xs, x.parts.all AV.one1 = true ∧ x.parts.length = sz) (hsmall : len * sz ≤ 16777216) :
    ∃ c : Array Value, (Instr.buildSlice t len (ps.map fun (i, x) => (i, a.eval x))).run P w = .ok (.slice (some ⟨w.heap.size, 0, none⟩) len len) (w.alloc (.cells c e)) ∧ c.size = len * sz ∧ RepAt g (xs.flatMap AV.parts) c 0 := by
  obtain ⟨inf, i1, i2, i3, i4⟩ := hT.info
  obtain ⟨h1, h2⟩ := hps
  rw [hlen] at h1
  have hval : ∀ i x, xs[i]? = some x → ∃ u, (ps.toList.map fun p => a.eval p.2)[i]? = some u ∧ Rep g x u := fun i x hi => by
    subst h2
    rw [List.getElem?_map] at hi
    cases hq : ps.toList[i]? with
    | none => rw [hq] at hi; cases hi
    | some p =>
      rw [hq] at hi
      simp at hi
      exact ⟨a.eval p.2, by rw [List.getElem?_map, hq]; rfl, hi ▸ rv hp rfl⟩
  have hlv : (ps.toList.map fun p => a.eval p.2).length = len := by
    have := congrArg List.length h1
    simpa using this
  have hsz : ∀ v ∈ (ps.toList.map fun p => a.eval p.2), v.cells.size = sz := fun v hv => by
    obtain ⟨i, hi, rfl⟩ := List.getElem_of_mem hv
    obtain ⟨u, hu, hr⟩ := hval i _ (List.getElem?_eq_getElem (show i < xs.length by rw [hlen, ← hlv]; exact hi))
    rw [List.getElem?_eq_getElem hi] at hu
    cases hu
    obtain ⟨e1, e2⟩ := hx _ (List.getElem_mem (show i < xs.length by rw [hlen, ← hlv]; exact hi))
    have := repL_length _ _ (rep_parts hr e1)
    rw [Array.length_toList] at this
    omega
  generalize hzero : (if len * sz = 0 then (#[] : Array Value) else z.cells) = zc
  obtain ⟨c, q1, q2, q3, q4⟩ := fill_parts sz (ps.toList.map fun p => a.eval p.2) 0 ((Array.range (len * sz)).map (zc[· % zc.size]!)) hsz (by simp [hlv])
  refine ⟨c, ?_, by simpa using q2, ?_⟩
  · rw [← parts_eq h1] at q1
    have hn : ¬ (16777216 < len * sz) := by omega
    by_cases h0 : len * sz = 0
    · rw [if_pos h0] at hzero
      subst hzero
      simp only [h0] at q1
      simp [Instr.buildSlice, run_underlying hT.h, sizeOf, typeInfo, i1, i3, h0, newRow]
      simp at q1
      rw [q1]
      rfl
    · rw [if_neg h0] at hzero
      subst hzero
      simp only [Instr.buildSlice, run_underlying hT.h, Sem.run_bind, Result.andThen_ok, sizeOf, typeInfo, i1, i3, run_program, Sem.run_pure, zeroValue]
      simp [hn, h0, newRow, i1, i2]
      simp at q1
      rw [q1]
      simp
  · rw [repAt_iff]
    intro j y hj
    have hflat : ∀ (l : List AV) (k : Nat), (∀ x ∈ l, x.parts.length = sz) → ∀ j y, (l.flatMap AV.parts)[j]? = some y → ∃ i r x, l[i]? = some x ∧ r < sz ∧ x.parts[r]? = some y ∧ j = i * sz + r := by
      intro l
      induction l with
      | nil => intro _ _ j y h; simp at h
      | cons x l ih =>
        intro k hl j y h
        have hx0 := hl x (by simp)
        rw [List.flatMap_cons, List.getElem?_append] at h
        by_cases hlt : j < x.parts.length
        · rw [if_pos hlt] at h
          exact ⟨0, j, x, rfl, by omega, h, by simp⟩
        · rw [if_neg hlt] at h
          obtain ⟨i, r, x', e1, e2, e3, e4⟩ := ih k (fun u hu => hl u (by simp [hu])) _ _ h
          refine ⟨i + 1, r, x', by simpa using e1, e2, e3, ?_⟩
          rw [Nat.add_mul]; omega
    obtain ⟨i, r, x, e1, e2, e3, rfl⟩ := hflat xs 0 (fun u hu => (hx u hu).2) j y hj
    obtain ⟨u, hu, hr⟩ := hval i x e1
    have hxm := List.mem_of_getElem? e1
    have hq := q4 i r u hu e2
    simp only [Nat.zero_add] at hq ⊢
    obtain ⟨u2, hu2, hr2⟩ := ((repL_iff _ _).1 (rep_parts hr (hx x hxm).1)).2 r y e3
    rw [Array.getElem?_toList] at hu2
    exact ⟨u2, hq.trans hu2, rep_one (List.all_eq_true.1 (hx x hxm).1 y (List.mem_of_getElem? e3)) hr2, hr2⟩
theorem s_buildSlice0 {t e sz bytes : Nat} {z : Value} [hT : SliceT P t e sz bytes z] : Stp P n (.buildSlice t 0 #[]) ty R H .emp :=
  stp_run fun o ho ht g a w hp => by
    obtain ⟨c, h1, h2, h3⟩ := run_buildSlice (P := P) (t := t) (len := 0) hp (ps := #[]) (xs := []) ⟨rfl, rfl⟩ rfl (by simp) (by simp)
    obtain ⟨hn, hsim⟩ := hp.sim.newSeal (w' := w.alloc (.cells c e)) ⟨rfl, rfl, rfl⟩ rfl
    exact ⟨_, _, _, by simp only [execOp, ho, Sem.run_bind]; rw [h1]; rfl, g.le_seal' hn _, by simp only [Rep]; exact ⟨_, rfl⟩, hsim⟩
theorem parts_bytes : ∀ as : List Int, (as.map fun a => AV.raw (.int .u8 a)).flatMap AV.parts = as.map fun a => AV.raw (.int .u8 a)
  | [] => rfl
  | a :: l => by rw [List.map_cons, List.flatMap_cons, parts_bytes l]; rfl
theorem s_buildSlice {t e sz bytes len : Nat} {z : Value} [hT : SliceT P t e sz bytes z] {ps : Array (Nat × Operand)} {xs ys : List AV} (hps : Parts R ps xs) (hlen : xs.length = len) (hx : ∀ x ∈ xs, x.parts.all AV.one1 = true ∧ x.parts.length = sz) (hys : xs.flatMap AV.parts = ys) (hsmall : len * sz ≤ 16777216) :
    Stp P n (.buildSlice t len ps) ty R H (.slsx len ys) :=
  stp_run fun o ho ht g a w hp => by
    subst hys
    obtain ⟨c, h1, h2, h3⟩ := run_buildSlice (P := P) (t := t) hp hps hlen hx hsmall
    obtain ⟨hn, hsim⟩ := hp.sim.newSeal (w' := w.alloc (.cells c e)) ⟨rfl, rfl, rfl⟩ rfl
    refine ⟨_, _, _, by simp only [execOp, ho, Sem.run_bind]; rw [h1]; rfl, g.le_seal' hn _, ?_, hsim⟩
    simp only [Rep]
    exact .inr ⟨w.heap.size, 0, c, e, (0, 0), rfl, Gh.seal'_self _ _ _, RepAt.mono (g.le_seal' hn _) _ _ _ h3⟩
theorem s_buildBytes {t e bytes len : Nat} {z : Value} [hT : SliceT P t e 1 bytes z] {ps : Array (Nat × Operand)} {as : List Int} {bs : List UInt8} (hps : Parts R ps (as.map fun a => .raw (.int .u8 a))) (hlen : as.length = len) (ha : ∀ a ∈ as, 0 ≤ a ∧ a ≤ 255) (hbs : as.map (fun a => UInt8.ofNat a.toNat) = bs) (hsmall : len ≤ 16777216) :
    Stp P n (.buildSlice t len ps) ty R H (.bysx bs) :=
  stp_run fun o ho ht g a w hp => by
    subst hbs
    obtain ⟨c, h1, h2, h3⟩ := run_buildSlice (P := P) (t := t) hp hps (by simpa using hlen) (fun x hx => by simp at hx; obtain ⟨b, _, rfl⟩ := hx; exact ⟨rfl, rfl⟩) (by omega)
    obtain ⟨hn, hsim⟩ := hp.sim.newSeal (w' := w.alloc (.cells c e)) ⟨rfl, rfl, rfl⟩ rfl
    refine ⟨_, _, _, by simp only [execOp, ho, Sem.run_bind]; rw [h1]; rfl, g.le_seal' hn _, ?_, hsim⟩
    simp only [Rep]
    refine .inr ⟨w.heap.size, 0, c, e, (0, 0), by simp [hlen], Gh.seal'_self _ _ _, fun i y hi => ?_⟩
    rw [List.getElem?_map] at hi
    cases hq : as[i]? with
    | none => rw [hq] at hi; cases hi
    | some b =>
      rw [hq] at hi
      simp at hi
      subst hi
      have hb := ha b (List.mem_of_getElem? hq)
      have hfm := parts_bytes as
      rw [hfm] at h3
      obtain ⟨u, hu, _, hr⟩ := (repAt_iff _ _ _).1 h3 i (.raw (.int .u8 b)) (by simp [hq])
      simp only [Rep] at hr
      subst hr
      rw [hu]
      have : (UInt8.ofNat b.toNat).toNat = b.toNat := by simp; omega
      rw [this]
      congr 2
      omega
end
end Go.Am
namespace Go.Am
open Go
section
variable {P : Program} {n : Nat} {K : Exit → Regs → AHeap → Prop} {N : Regs → AHeap → Prop} {R : Regs} {H : AHeap} {ops : Array Oper} {rest : List Oper} {ty : TypeId} {d : Tmp} {pos : String} {af : Array Edge}
theorem k_seq_normal (h : N R H) : kseq N K .normal R H := h
theorem k_seq_exit {id : Nat} (h : K (.exit id) R H) : kseq N K (.exit id) R H := h
theorem k_seq_ret (h : K .ret R H) : kseq N K .ret R H := h
theorem k_block_normal {id : Nat} (h : K .normal R H) : kblock id K .normal R H := h
theorem k_block_ret {id : Nat} (h : K .ret R H) : kblock id K .ret R H := h
theorem k_block_eq {id : Nat} (h : K .normal R H) : kblock id K (.exit id) R H := by simp only [kblock, if_true]; exact h
theorem k_block_ne {id id' : Nat} (hne : Nat.beq id' id = false) (h : K (.exit id') R H) : kblock id K (.exit id') R H := by
  simp only [kblock]
  rw [if_neg]
  · exact h
  · rintro rfl; simp at hne
theorem aw_condp {c : Operand} {x y : Code} {p : Prop} [inst : Decidable p] (hc : reval R c = .raw (.bool (@decide p inst))) (ht : p → AW P n x K R H) (hf : ¬ p → AW P n y K R H) : AW P n (.cond c x y) K R H :=
  aw_cond hc (fun h => ht (of_decide_eq_true h)) (fun h => hf (of_decide_eq_false h))
theorem aw_cond_t {c : Operand} {x y : Code} (hc : reval R c = .raw (.bool true)) (h : AW P n x K R H) : AW P n (.cond c x y) K R H := aw_cond hc (fun _ => h) (fun h => by cases h)
theorem aw_cond_f {c : Operand} {x y : Code} (hc : reval R c = .raw (.bool false)) (h : AW P n y K R H) : AW P n (.cond c x y) K R H := aw_cond hc (fun h => by cases h) (fun _ => h)
theorem awl_guard_t {op : Op} {j dj : Nat} {b : Bool} (hj : (ops[j]?).bind (·.dst) = some dj) (hb : rget R dj = .raw (.bool b)) (hdn : Nat.blt d n = true) (h : AWL P n ops (⟨some d, op, ty, pos, af, none⟩ :: rest) K R H) :
    AWL P n ops (⟨some d, op, ty, pos, af, some (j, b)⟩ :: rest) K R H := awl_guard hj hb hdn (fun _ => h) (fun e => by cases b <;> cases e)
theorem awl_guard_f {op : Op} {j dj : Nat} {b : Bool} (hj : (ops[j]?).bind (·.dst) = some dj) (hb : rget R dj = .raw (.bool (!b))) (hdn : Nat.blt d n = true) (h : AWL P n ops rest K ((d, .raw undef) :: R) H) :
    AWL P n ops (⟨some d, op, ty, pos, af, some (j, b)⟩ :: rest) K R H := awl_guard hj hb hdn (fun e => by cases b <;> cases e) (fun _ => h)
theorem awl_split {i : Tmp} {p : Prop} [inst : Decidable p] (hb : rget R i = .raw (.bool (@decide p inst))) {l : List Oper} (ht : p → AWL P n ops l K ((i, .raw (.bool true)) :: R) H) (hf : ¬ p → AWL P n ops l K ((i, .raw (.bool false)) :: R) H) : AWL P n ops l K R H := by
  have key : ∀ b, rget R i = .raw (.bool b) → Ent R H ((i, .raw (.bool b)) :: R) H := fun b h g t w h1 h2 => ⟨g, .refl g, fun j => by
    simp only [rget]
    by_cases hh : Nat.beq i j = true
    · rw [if_pos hh, ← Nat.eq_of_beq_eq_true hh, ← h]; exact h1 i
    · rw [if_neg hh]; exact h1 j, h2⟩
  by_cases hp : p
  · exact awl_ent (key true (by rw [hb, decide_eq_true hp])) (ht hp)
  · exact awl_ent (key false (by rw [hb, decide_eq_false hp])) (hf hp)
theorem s_pick_t {c x y : Operand} {v : AV} (hc : reval R c = .raw (.bool true)) (hv : reval R x = v) : Stp P n (.pick c x y) ty R H v := s_pick hc (by simpa using hv)
theorem s_pick_f {c x y : Operand} {v : AV} (hc : reval R c = .raw (.bool false)) (hv : reval R y = v) : Stp P n (.pick c x y) ty R H v := s_pick hc (by simpa using hv)
section
variable {t t2 : TypeId} {x y : Operand} {a b : Nat}
theorem s_addn {za zb : Int} [na : NatOf za a] [nb : NatOf zb b] (hx : reval R x = .raw (.int .i64 za)) (hy : reval R y = .raw (.int .i64 zb)) (h : a + b ≤ 9223372036854775807) : Stp P n (.binOp .add t x y t2) ty R H (.raw (.int .i64 ((a + b : Nat) : Int))) := by
  cases na.h; cases nb.h
  have := s_add64 (P := P) (n := n) (H := H) (ty := ty) (t := t) (t2 := t2) hx hy (by omega) (by omega)
  rwa [show (a : Int) + (b : Int) = ((a + b : Nat) : Int) from by omega] at this
theorem s_subn {za zb : Int} [na : NatOf za a] [nb : NatOf zb b] (hx : reval R x = .raw (.int .i64 za)) (hy : reval R y = .raw (.int .i64 zb)) (h : b ≤ a) (h2 : a ≤ 9223372036854775807) : Stp P n (.binOp .sub t x y t2) ty R H (.raw (.int .i64 ((a - b : Nat) : Int))) := by
  cases na.h; cases nb.h
  have := s_sub64 (P := P) (n := n) (H := H) (ty := ty) (t := t) (t2 := t2) hx hy (by omega) (by omega)
  rwa [show (a : Int) - (b : Int) = ((a - b : Nat) : Int) from by omega] at this
theorem s_muln {za zb : Int} [na : NatOf za a] [nb : NatOf zb b] (hx : reval R x = .raw (.int .i64 za)) (hy : reval R y = .raw (.int .i64 zb)) (h : a * b ≤ 9223372036854775807) : Stp P n (.binOp .mul t x y t2) ty R H (.raw (.int .i64 ((a * b : Nat) : Int))) := by
  cases na.h; cases nb.h
  have e : (a : Int) * (b : Int) = ((a * b : Nat) : Int) := by rw [Int.natCast_mul]
  have := s_mul64 (P := P) (n := n) (H := H) (ty := ty) (t := t) (t2 := t2) hx hy (by omega) (by omega)
  rwa [e] at this
theorem s_addu {za zb : Int} [na : NatOf za a] [nb : NatOf zb b] (hx : reval R x = .raw (.int .u64 za)) (hy : reval R y = .raw (.int .u64 zb)) (h : a + b ≤ 18446744073709551615) : Stp P n (.binOp .add t x y t2) ty R H (.raw (.int .u64 ((a + b : Nat) : Int))) := by
  cases na.h; cases nb.h
  have := s_addu64 (P := P) (n := n) (H := H) (ty := ty) (t := t) (t2 := t2) hx hy (by omega) (by omega)
  rwa [show (a : Int) + (b : Int) = ((a + b : Nat) : Int) from by omega] at this
theorem s_addu_wrap {za zb : Int} [na : NatOf za a] [nb : NatOf zb b] (hx : reval R x = .raw (.int .u64 za)) (hy : reval R y = .raw (.int .u64 zb)) : Stp P n (.binOp .add t x y t2) ty R H (.raw (.int .u64 (((a + b) % 18446744073709551616 : Nat) : Int))) := by
  cases na.h; cases nb.h
  have := s_add (P := P) (n := n) (H := H) (ty := ty) (t := t) (t2 := t2) hx hy
  rwa [show IntKind.u64.wrap ((a : Int) + (b : Int)) = (((a + b) % 18446744073709551616 : Nat) : Int) from by simp only [IntKind.wrap, IntKind.bits, IntKind.signed]; simp] at this
theorem s_subu {za zb : Int} [na : NatOf za a] [nb : NatOf zb b] (hx : reval R x = .raw (.int .u64 za)) (hy : reval R y = .raw (.int .u64 zb)) (h : b ≤ a) (h2 : a ≤ 18446744073709551615) : Stp P n (.binOp .sub t x y t2) ty R H (.raw (.int .u64 ((a - b : Nat) : Int))) := by
  cases na.h; cases nb.h
  have := s_sub (P := P) (n := n) (H := H) (ty := ty) (t := t) (t2 := t2) hx hy
  rw [wrap_u64_id (by omega) (by omega)] at this
  rwa [show (a : Int) - (b : Int) = ((a - b : Nat) : Int) from by omega] at this
theorem s_quou {za zb : Int} [na : NatOf za a] [nb : NatOf zb b] (hx : reval R x = .raw (.int .u64 za)) (hy : reval R y = .raw (.int .u64 zb)) (hb : 0 < b) (h2 : a ≤ 18446744073709551615) : Stp P n (.binOp .quo t x y t2) ty R H (.raw (.int .u64 ((a / b : Nat) : Int))) := by
  cases na.h; cases nb.h
  have := s_quo (P := P) (n := n) (H := H) (ty := ty) (t := t) (t2 := t2) hx hy (by omega)
  have hle : a / b ≤ a := Nat.div_le_self a b
  rw [Int.tdiv_eq_ediv_of_nonneg (by omega), ← Int.natCast_ediv] at this
  generalize a / b = q at *
  rw [wrap_u64_id (by omega) (by omega)] at this
  exact this
theorem s_quon {za zb : Int} [na : NatOf za a] [nb : NatOf zb b] (hx : reval R x = .raw (.int .i64 za)) (hy : reval R y = .raw (.int .i64 zb)) (hb : 0 < b) (h2 : a ≤ 9223372036854775807) : Stp P n (.binOp .quo t x y t2) ty R H (.raw (.int .i64 ((a / b : Nat) : Int))) := by
  cases na.h; cases nb.h
  have := s_quo (P := P) (n := n) (H := H) (ty := ty) (t := t) (t2 := t2) hx hy (by omega)
  have hle : a / b ≤ a := Nat.div_le_self a b
  rw [Int.tdiv_eq_ediv_of_nonneg (by omega), ← Int.natCast_ediv] at this
  generalize a / b = q at *
  rw [wrap_i64_id (by omega) (by omega)] at this
  exact this
theorem s_remn {k : IntKind} {za zb : Int} [na : NatOf za a] [nb : NatOf zb b] (hx : reval R x = .raw (.int k za)) (hy : reval R y = .raw (.int k zb)) (hb : 0 < b) : Stp P n (.binOp .rem t x y t2) ty R H (.raw (.int k ((a % b : Nat) : Int))) := by
  cases na.h; cases nb.h
  have := s_rem (P := P) (n := n) (H := H) (ty := ty) (t := t) (t2 := t2) hx hy (by omega)
  rw [Int.tmod_eq_emod_of_nonneg (by omega), ← Int.natCast_emod] at this
  exact this
theorem s_eqn {k : IntKind} {za zb : Int} [na : NatOf za a] [nb : NatOf zb b] (hx : reval R x = .raw (.int k za)) (hy : reval R y = .raw (.int k zb)) : Stp P n (.binOp .eql t x y t2) ty R H (.raw (.bool (decide (a = b)))) := by
  cases na.h; cases nb.h
  have := s_eql (P := P) (n := n) (H := H) (ty := ty) (t := t) (t2 := t2) hx hy
  rwa [show decide ((a : Int) = (b : Int)) = decide (a = b) from decide_eq_decide.2 (by omega)] at this
theorem s_nen {k : IntKind} {za zb : Int} [na : NatOf za a] [nb : NatOf zb b] (hx : reval R x = .raw (.int k za)) (hy : reval R y = .raw (.int k zb)) : Stp P n (.binOp .neq t x y t2) ty R H (.raw (.bool (decide (a ≠ b)))) := by
  cases na.h; cases nb.h
  have := s_neq (P := P) (n := n) (H := H) (ty := ty) (t := t) (t2 := t2) hx hy
  rwa [show decide ((a : Int) ≠ (b : Int)) = decide (a ≠ b) from decide_eq_decide.2 (by omega)] at this
theorem s_ltn {k : IntKind} {za zb : Int} [na : NatOf za a] [nb : NatOf zb b] (hx : reval R x = .raw (.int k za)) (hy : reval R y = .raw (.int k zb)) : Stp P n (.binOp .lss t x y t2) ty R H (.raw (.bool (decide (a < b)))) := by
  cases na.h; cases nb.h
  have := s_lss (P := P) (n := n) (H := H) (ty := ty) (t := t) (t2 := t2) hx hy
  rwa [show decide ((a : Int) < (b : Int)) = decide (a < b) from decide_eq_decide.2 (by omega)] at this
theorem s_len_ {k : IntKind} {za zb : Int} [na : NatOf za a] [nb : NatOf zb b] (hx : reval R x = .raw (.int k za)) (hy : reval R y = .raw (.int k zb)) : Stp P n (.binOp .leq t x y t2) ty R H (.raw (.bool (decide (a ≤ b)))) := by
  cases na.h; cases nb.h
  have := s_leq (P := P) (n := n) (H := H) (ty := ty) (t := t) (t2 := t2) hx hy
  rwa [show decide ((a : Int) ≤ (b : Int)) = decide (a ≤ b) from decide_eq_decide.2 (by omega)] at this
theorem s_gtn {k : IntKind} {za zb : Int} [na : NatOf za a] [nb : NatOf zb b] (hx : reval R x = .raw (.int k za)) (hy : reval R y = .raw (.int k zb)) : Stp P n (.binOp .gtr t x y t2) ty R H (.raw (.bool (decide (b < a)))) := by
  cases na.h; cases nb.h
  have := s_gtr (P := P) (n := n) (H := H) (ty := ty) (t := t) (t2 := t2) hx hy
  rwa [show decide ((b : Int) < (a : Int)) = decide (b < a) from decide_eq_decide.2 (by omega)] at this
theorem s_gen {k : IntKind} {za zb : Int} [na : NatOf za a] [nb : NatOf zb b] (hx : reval R x = .raw (.int k za)) (hy : reval R y = .raw (.int k zb)) : Stp P n (.binOp .geq t x y t2) ty R H (.raw (.bool (decide (b ≤ a)))) := by
  cases na.h; cases nb.h
  have := s_geq (P := P) (n := n) (H := H) (ty := ty) (t := t) (t2 := t2) hx hy
  rwa [show decide ((b : Int) ≤ (a : Int)) = decide (b ≤ a) from decide_eq_decide.2 (by omega)] at this
theorem bits_le (op : BinOp) (k : IntKind) (h : op = .and ∨ op = .or ∨ op = .xor) {m : Nat} (hs : k.signed = false) (hm : k.bits = m) (ha : a < 2 ^ m) (hb : b < 2 ^ m) :
    bits op k (a : Int) (b : Int) = ((match op with | .and => a &&& b | .or => a ||| b | _ => a ^^^ b : Nat) : Int) := by
  subst hm
  have e1 : (BitVec.ofInt k.bits (a : Int)).toNat = a := by simp [Nat.mod_eq_of_lt ha]
  have e2 : (BitVec.ofInt k.bits (b : Int)).toNat = b := by simp [Nat.mod_eq_of_lt hb]
  have hw : ∀ z : Nat, z < 2 ^ k.bits → k.wrap (z : Int) = (z : Int) := fun z hz => by
    simp only [IntKind.wrap, hs, Bool.false_and, Bool.false_eq_true, if_false]
    rw [Int.emod_eq_of_lt (by omega)]
    exact_mod_cast hz
  rcases h with rfl | rfl | rfl <;> simp only [bits]
  · rw [BitVec.toNat_and, e1, e2]; exact hw _ (Nat.and_lt_two_pow _ hb)
  · rw [BitVec.toNat_or, e1, e2]; exact hw _ (Nat.or_lt_two_pow ha hb)
  · rw [BitVec.toNat_xor, e1, e2]; exact hw _ (Nat.xor_lt_two_pow ha hb)
class Unsg (k : IntKind) (m : outParam Nat) : Prop where
  s : k.signed = false
  b : k.bits = m
instance : Unsg .u8 8 := ⟨rfl, rfl⟩
instance : Unsg .u16 16 := ⟨rfl, rfl⟩
instance : Unsg .u32 32 := ⟨rfl, rfl⟩
instance : Unsg .u64 64 := ⟨rfl, rfl⟩
theorem s_andn {k : IntKind} {m : Nat} [hk : Unsg k m] {za zb : Int} [na : NatOf za a] [nb : NatOf zb b] (hx : reval R x = .raw (.int k za)) (hy : reval R y = .raw (.int k zb)) (ha : a < 2 ^ m) (hb : b < 2 ^ m) : Stp P n (.binOp .and t x y t2) ty R H (.raw (.int k ((a &&& b : Nat) : Int))) := by
  cases na.h; cases nb.h
  have := s_and (P := P) (n := n) (H := H) (ty := ty) (t := t) (t2 := t2) hx hy
  rwa [bits_le .and k (.inl rfl) hk.s hk.b ha hb] at this
theorem s_orn {k : IntKind} {m : Nat} [hk : Unsg k m] {za zb : Int} [na : NatOf za a] [nb : NatOf zb b] (hx : reval R x = .raw (.int k za)) (hy : reval R y = .raw (.int k zb)) (ha : a < 2 ^ m) (hb : b < 2 ^ m) : Stp P n (.binOp .or t x y t2) ty R H (.raw (.int k ((a ||| b : Nat) : Int))) := by
  cases na.h; cases nb.h
  have := s_or (P := P) (n := n) (H := H) (ty := ty) (t := t) (t2 := t2) hx hy
  rwa [bits_le .or k (.inr (.inl rfl)) hk.s hk.b ha hb] at this
theorem s_xorn {k : IntKind} {m : Nat} [hk : Unsg k m] {za zb : Int} [na : NatOf za a] [nb : NatOf zb b] (hx : reval R x = .raw (.int k za)) (hy : reval R y = .raw (.int k zb)) (ha : a < 2 ^ m) (hb : b < 2 ^ m) : Stp P n (.binOp .xor t x y t2) ty R H (.raw (.int k ((a ^^^ b : Nat) : Int))) := by
  cases na.h; cases nb.h
  have := s_xor (P := P) (n := n) (H := H) (ty := ty) (t := t) (t2 := t2) hx hy
  rwa [bits_le .xor k (.inr (.inr rfl)) hk.s hk.b ha hb] at this
theorem wrap_unsg {k : IntKind} {m : Nat} [hk : Unsg k m] (z : Nat) : k.wrap (z : Int) = ((z % 2 ^ m : Nat) : Int) := by
  simp only [IntKind.wrap, hk.s, Bool.false_and, Bool.false_eq_true, if_false, hk.b]
  rw [Int.natCast_emod]
  simp
theorem s_shln {k k' : IntKind} {m : Nat} [hk : Unsg k m] {za zb : Int} [na : NatOf za a] [nb : NatOf zb b] (hx : reval R x = .raw (.int k za)) (hy : reval R y = .raw (.int k' zb)) (h : b ≤ m) : Stp P n (.binOp .shl t x y t2) ty R H (.raw (.int k ((a * 2 ^ b % 2 ^ m : Nat) : Int))) := by
  cases na.h; cases nb.h
  have := s_shl (P := P) (n := n) (H := H) (ty := ty) (t := t) (t2 := t2) hx hy (by omega) (by rw [hk.b]; omega)
  have e : (a : Int) * 2 ^ ((b : Int)).toNat = ((a * 2 ^ b : Nat) : Int) := by simp
  rwa [e, wrap_unsg] at this
theorem s_shrn {k k' : IntKind} {za zb : Int} [na : NatOf za a] [nb : NatOf zb b] (hx : reval R x = .raw (.int k za)) (hy : reval R y = .raw (.int k' zb)) (h : b ≤ k.bits) : Stp P n (.binOp .shr t x y t2) ty R H (.raw (.int k ((a / 2 ^ b : Nat) : Int))) := by
  cases na.h; cases nb.h
  have := s_shr (P := P) (n := n) (H := H) (ty := ty) (t := t) (t2 := t2) hx hy (by omega) (by omega)
  have e : (a : Int) / 2 ^ ((b : Int)).toNat = ((a / 2 ^ b : Nat) : Int) := by simp
  rwa [e] at this
theorem s_convn {s t' : TypeId} {k k' : IntKind} [hT : IntT P t' k'] [hS : KnownT P s] {m : Nat} [hk : Unsg k' m] {za : Int} [na : NatOf za a] (hx : reval R x = .raw (.int k za)) (h : a < 2 ^ m) : Stp P n (.convert s t' x) ty R H (.raw (.int k' (a : Int))) := by
  cases na.h
  have := s_conv (P := P) (n := n) (H := H) (ty := ty) (s := s) (t := t') (k' := k') hx
  rwa [wrap_unsg, Nat.mod_eq_of_lt h] at this
theorem s_convm {s t' : TypeId} {k k' : IntKind} [hT : IntT P t' k'] [hS : KnownT P s] {m : Nat} [hk : Unsg k' m] {za : Int} [na : NatOf za a] (hx : reval R x = .raw (.int k za)) : Stp P n (.convert s t' x) ty R H (.raw (.int k' ((a % 2 ^ m : Nat) : Int))) := by
  cases na.h
  have := s_conv (P := P) (n := n) (H := H) (ty := ty) (s := s) (t := t') (k' := k') hx
  rwa [wrap_unsg] at this
theorem s_convi {s t' : TypeId} {k : IntKind} {z : Int} [hT : IntT P t' .i64] [hS : KnownT P s] (hx : reval R x = .raw (.int k z)) (h1 : -9223372036854775808 ≤ z) (h2 : z ≤ 9223372036854775807) : Stp P n (.convert s t' x) ty R H (.raw (.int .i64 z)) :=
  s_conv_id hx (wrap_i64_id h1 h2)
end
theorem awl_box_agg {e : TypeId} {x : Operand} {xs : List AV} (hdn : Nat.blt d n = true) (hx : reval R x = .agg xs) (h1 : xs.all AV.one1 = true)
    (hk : ∀ o', H o' = none → AWL P n ops rest K ((d, .ptr o' 0) :: R) (H.set o' (.cel xs))) : AWL P n ops (⟨some d, .box e x, ty, pos, af, none⟩ :: rest) K R H := awl_box hdn hx rfl h1 hk
theorem awl_box_raw {e : TypeId} {x : Operand} {v : Value} (hdn : Nat.blt d n = true) (hx : reval R x = .raw v) (h1 : v.oneCell' = true)
    (hk : ∀ o', H o' = none → AWL P n ops rest K ((d, .ptr o' 0) :: R) (H.set o' (.cel [.raw v]))) : AWL P n ops (⟨some d, .box e x, ty, pos, af, none⟩ :: rest) K R H :=
  awl_box hdn hx (by cases v <;> first | rfl | (simp [Value.oneCell'] at h1)) (by simp [AV.one1, h1]) hk
theorem awl_box_bys {e : TypeId} {x : Operand} {bs : List UInt8} (hdn : Nat.blt d n = true) (hx : reval R x = .bys bs)
    (hk : ∀ o', H o' = none → AWL P n ops rest K ((d, .ptr o' 0) :: R) (H.set o' (.cel [.bys bs]))) : AWL P n ops (⟨some d, .box e x, ty, pos, af, none⟩ :: rest) K R H := awl_box hdn hx rfl rfl hk
theorem Ent.to {R' : Regs} {H' : AHeap} (hs : RSub R' R) (hh : H = H') : Ent R H R' H' := hh ▸ Ent.sub H hs
section
variable {t t2 e sz bytes : Nat} {z : Value} {s x : Operand} {bv : AV} {m : Nat}
theorem s_app_emp_byt [hT : SliceT P t e 1 bytes z] [h2 : NotIntT P t2] {bs : List UInt8} (hs : reval R s = .emp) (hx : reval R x = bv) (hb : SrcA H bv m 1 (.byt bs)) (h63 : m ≤ 9223372036854775807) (hby : m * bytes ≤ 140737488355328) :
    Stp P n (.call { callee := .builtin .append, args := #[s, x], argTypes := #[t, t2] }) ty R H (.bys bs) := by
  have := s_append_x (P := P) (n := n) (ty := ty) (hT := hT) (h2 := h2) (k := 0) (xd := .byt []) hs hx (srcA_emp H 1 _ rfl) (fun _ _ h => by simpa only [Rep] using h) (fun _ _ h => by simp only [Rep] at h; obtain ⟨a, rfl⟩ := h; simp [sealAV, Rep]) hb trivial (fun _ _ => rfl) (by omega) (by rw [Nat.zero_add]; exact hby)
  simpa [sealAV, AO.app] using this
theorem s_app_nil_byt [hT : SliceT P t e 1 bytes z] [h2 : NotIntT P t2] {bs : List UInt8} (hs : reval R s = .raw (.slice none 0 0)) (hx : reval R x = bv) (hb : SrcA H bv m 1 (.byt bs)) (h63 : m ≤ 9223372036854775807) (hby : m * bytes ≤ 140737488355328) :
    Stp P n (.call { callee := .builtin .append, args := #[s, x], argTypes := #[t, t2] }) ty R H (.bys bs) := by
  have := s_append_x (P := P) (n := n) (ty := ty) (hT := hT) (h2 := h2) (k := 0) (xd := .byt []) hs hx (srcA_nil H 1 _ rfl) (fun _ _ h => by simp only [Rep] at h; exact ⟨none, h⟩) (fun _ _ h => by simp only [Rep] at h; subst h; simp [sealAV, Rep]) hb trivial (fun _ _ => rfl) (by omega) (by rw [Nat.zero_add]; exact hby)
  simpa [sealAV, AO.app] using this
theorem s_app_bysx_byt [hT : SliceT P t e 1 bytes z] [h2 : NotIntT P t2] {as bs : List UInt8} (hs : reval R s = .bysx as) (hx : reval R x = bv) (hb : SrcA H bv m 1 (.byt bs)) (h63 : as.length + m ≤ 9223372036854775807) (hby : (as.length + m) * bytes ≤ 140737488355328) :
    Stp P n (.call { callee := .builtin .append, args := #[s, x], argTypes := #[t, t2] }) ty R H (.bys (as ++ bs)) := by
  have := s_append_x (P := P) (n := n) (ty := ty) (hT := hT) (h2 := h2) (k := as.length) (xd := .byt as) hs hx (srcA_bysx H as) (fun _ _ h => by simp only [Rep] at h; rcases h with ⟨rfl, a, rfl⟩ | ⟨b, off, c, e, fz, rfl, _⟩ <;> exact ⟨_, rfl⟩)
    (fun _ _ h => by
      simp only [Rep] at h
      rcases h with ⟨rfl, a, rfl⟩ | ⟨b, off, c, e, fz, rfl, h3, h4⟩
      · simp [sealAV, Rep]
      · simp only [sealAV, Rep]; exact .inr ⟨b, off, _, c, e, fz, rfl, Nat.le_refl _, h3, h4⟩) hb trivial (fun _ _ => rfl) h63 hby
  simpa [sealAV, AO.app] using this
theorem s_app_emp_cel [hT : SliceT P t e sz bytes z] [h2 : NotIntT P t2] {xs : List AV} (hs : reval R s = .emp) (hx : reval R x = bv) (hb : SrcA H bv m sz (.cel xs)) (h63 : m ≤ 9223372036854775807) (hby : m * bytes ≤ 140737488355328) :
    Stp P n (.call { callee := .builtin .append, args := #[s, x], argTypes := #[t, t2] }) ty R H (.sls m xs) := by
  have := s_append_x (P := P) (n := n) (ty := ty) (hT := hT) (h2 := h2) (k := 0) (xd := .cel []) hs hx (srcA_emp H sz _ rfl) (fun _ _ h => by simpa only [Rep] using h) (fun _ _ h => by simp only [Rep] at h; obtain ⟨a, rfl⟩ := h; simp [sealAV, Rep]) hb trivial (fun _ h => by cases h) (by omega) (by rw [Nat.zero_add]; exact hby)
  simpa [sealAV, AO.app] using this
theorem s_app_nil_cel [hT : SliceT P t e sz bytes z] [h2 : NotIntT P t2] {xs : List AV} (hs : reval R s = .raw (.slice none 0 0)) (hx : reval R x = bv) (hb : SrcA H bv m sz (.cel xs)) (h63 : m ≤ 9223372036854775807) (hby : m * bytes ≤ 140737488355328) :
    Stp P n (.call { callee := .builtin .append, args := #[s, x], argTypes := #[t, t2] }) ty R H (.sls m xs) := by
  have := s_append_x (P := P) (n := n) (ty := ty) (hT := hT) (h2 := h2) (k := 0) (xd := .cel []) hs hx (srcA_nil H sz _ rfl) (fun _ _ h => by simp only [Rep] at h; exact ⟨none, h⟩) (fun _ _ h => by simp only [Rep] at h; subst h; simp [sealAV, Rep]) hb trivial (fun _ h => by cases h) (by omega) (by rw [Nat.zero_add]; exact hby)
  simpa [sealAV, AO.app] using this
theorem s_app_slsx_cel [hT : SliceT P t e sz bytes z] [h2 : NotIntT P t2] {k : Nat} {ys xs : List AV} (hs : reval R s = .slsx k ys) (hk : ys.length = k * sz) (hx : reval R x = bv) (hb : SrcA H bv m sz (.cel xs)) (h63 : k + m ≤ 9223372036854775807) (hby : (k + m) * bytes ≤ 140737488355328) :
    Stp P n (.call { callee := .builtin .append, args := #[s, x], argTypes := #[t, t2] }) ty R H (.sls (k + m) (ys ++ xs)) := by
  have := s_append_x (P := P) (n := n) (ty := ty) (hT := hT) (h2 := h2) (k := k) (xd := .cel ys) hs hx (srcA_slsx H k sz ys hk) (fun _ _ h => by simp only [Rep] at h; rcases h with ⟨rfl, rfl, a, rfl⟩ | ⟨b, off, c, e, fz, rfl, _⟩ <;> exact ⟨_, rfl⟩)
    (fun _ _ h => by
      simp only [Rep] at h
      rcases h with ⟨rfl, rfl, a, rfl⟩ | ⟨b, off, c, e, fz, rfl, h3, h4⟩
      · simp [sealAV, Rep]
      · simp only [sealAV, Rep]; exact .inr ⟨b, off, _, c, e, fz, rfl, Nat.le_refl _, h3, h4⟩) hb trivial (fun _ h => by cases h) h63 hby
  simpa [sealAV, AO.app] using this
theorem s_byte1 [hT : SliceT P t e 1 bytes z] {za : Int} {a : Nat} [na : NatOf za a] (hx : reval R x = .raw (.int .u8 za)) (ha : a < 256) : Stp P n (.buildSlice t 1 #[(0, x)]) ty R H (.bysx [UInt8.ofNat a]) := by
  cases na.h
  exact s_buildBytes (as := [(a : Int)]) ⟨rfl, by simp [hx]⟩ rfl (by simp; omega) (by simp) (by decide)
theorem s_byte2 [hT : SliceT P t e 1 bytes z] {y : Operand} {za zb : Int} {a b : Nat} [na : NatOf za a] [nb : NatOf zb b] (hx : reval R x = .raw (.int .u8 za)) (hy : reval R y = .raw (.int .u8 zb)) (ha : a < 256) (hb : b < 256) : Stp P n (.buildSlice t 2 #[(0, x), (1, y)]) ty R H (.bysx [UInt8.ofNat a, UInt8.ofNat b]) := by
  cases na.h; cases nb.h
  exact s_buildBytes (as := [(a : Int), (b : Int)]) ⟨rfl, by simp [hx, hy]⟩ rfl (by simp; omega) (by simp) (by decide)
theorem awl_app_byt [hT : SliceT P t e 1 bytes z] [h2 : NotIntT P t2] {ob k : Nat} {as bs : List UInt8} (hdn : Nat.blt d n = true) (hs : reval R s = .vw ob 1 0 k) (hx : reval R x = bv) (hH : H ob = some (.byt as)) (hk0 : k = as.length) (hb : SrcA H bv m 1 (.byt bs))
    (h63 : k + m ≤ 9223372036854775807) (hby : (k + m) * bytes ≤ 140737488355328)
    (hk : ∀ o', H o' = none → AWL P n ops rest K ((d, .vw o' 1 0 (k + m)) :: R) ((H.erase ob).set o' (.byt (as ++ bs)))) :
    AWL P n ops (⟨some d, .call { callee := .builtin .append, args := #[s, x], argTypes := #[t, t2] }, ty, pos, af, none⟩ :: rest) K R H :=
  awl_append_vw (hT := hT) (h2 := h2) hdn hs hx hH (fun _ h => by cases h) (by simp [AO.len, hk0]) hb trivial h63 hby (fun o' ho' => by have := hk o' ho'; simpa [AO.drop, AO.app] using this)
theorem awl_app_cel [hT : SliceT P t e sz bytes z] [h2 : NotIntT P t2] {ob k : Nat} {as bs : List AV} (hdn : Nat.blt d n = true) (hs : reval R s = .vw ob sz 0 k) (hx : reval R x = bv) (hH : H ob = some (.cel as)) (hk0 : as.length = k * sz) (hb : SrcA H bv m sz (.cel bs))
    (h63 : k + m ≤ 9223372036854775807) (hby : (k + m) * bytes ≤ 140737488355328)
    (hk : ∀ o', H o' = none → AWL P n ops rest K ((d, .vw o' sz 0 (k + m)) :: R) ((H.erase ob).set o' (.cel (as ++ bs)))) :
    AWL P n ops (⟨some d, .call { callee := .builtin .append, args := #[s, x], argTypes := #[t, t2] }, ty, pos, af, none⟩ :: rest) K R H :=
  awl_append_vw (hT := hT) (h2 := h2) hdn hs hx hH (fun _ h => by cases h) (by simp [AO.len, hk0]) hb trivial h63 hby (fun o' ho' => by have := hk o' ho'; simpa [AO.drop, AO.app] using this)
end
end
end Go.Am
namespace Go.Am
open Go
theorem RSub.nil (R : Regs) : RSub [] R := trivial
theorem RSub.cons {i : Nat} {x : AV} {R0 R : Regs} (h : rget R i = x) (h2 : RSub R0 R) : RSub ((i, x) :: R0) R := ⟨h, h2⟩
theorem vw_eq {o sz a b c d : Nat} (h1 : a = c) (h2 : b = d) : AV.vw o sz a b = AV.vw o sz c d := by rw [h1, h2]
theorem int_eq {k : IntKind} {a b : Nat} (h : a = b) : AV.raw (.int k (a : Int)) = .raw (.int k (b : Int)) := by rw [h]
theorem inti_eq {k : IntKind} {a b : Int} (h : a = b) : AV.raw (.int k a) = .raw (.int k b) := by rw [h]
theorem or_lt {a b : Nat} (n : Nat) (ha : a < 2 ^ n) (hb : b < 2 ^ n) : a ||| b < 2 ^ n := Nat.or_lt_two_pow ha hb
theorem AHeap.none_of_set {H : AHeap} {o p : Nat} {x : AO} (h : (H.set o x) p = none) : H p = none := by
  by_cases hp : p = o
  · subst hp; simp [AHeap.set] at h
  · simpa [AHeap.set, hp] using h
section
variable {P : Program} {n : Nat} {K : Exit → Regs → AHeap → Prop} {R : Regs} {H : AHeap} {ops : Array Oper} {rest : List Oper} {ty : TypeId} {d : Tmp} {pos : String} {af : Array Edge}
variable {t e t2 : TypeId} {bytes : Nat} {z : Value} {s x : Operand} {bv : AV} {m sz : Nat}
theorem awl_app_byt1 [hT : SliceT P t e 1 bytes z] [h2 : NotIntT P t2] {ob k : Nat} {as bs : List UInt8} (hdn : Nat.blt d n = true) (hs : reval R s = .vw ob 1 0 k) (hx : reval R x = bv) (hH : H ob = none) (hk0 : k = as.length) (hb : SrcA (H.set ob (.byt as)) bv m 1 (.byt bs))
    (h63 : k + m ≤ 9223372036854775807) (hby : (k + m) * bytes ≤ 140737488355328)
    (hk : ∀ o', H o' = none → AWL P n ops rest K ((d, .vw o' 1 0 (k + m)) :: R) (H.set o' (.byt (as ++ bs)))) :
    AWL P n ops (⟨some d, .call { callee := .builtin .append, args := #[s, x], argTypes := #[t, t2] }, ty, pos, af, none⟩ :: rest) K R (H.set ob (.byt as)) :=
  awl_app_byt hdn hs hx (AHeap.set_self _ _ _) hk0 hb h63 hby (fun o' ho' => by rw [AHeap.erase_set hH]; exact hk o' (AHeap.none_of_set ho'))
theorem awl_app_cel1 [hT : SliceT P t e sz bytes z] [h2 : NotIntT P t2] {ob k : Nat} {as bs : List AV} (hdn : Nat.blt d n = true) (hs : reval R s = .vw ob sz 0 k) (hx : reval R x = bv) (hH : H ob = none) (hk0 : as.length = k * sz) (hb : SrcA (H.set ob (.cel as)) bv m sz (.cel bs))
    (h63 : k + m ≤ 9223372036854775807) (hby : (k + m) * bytes ≤ 140737488355328)
    (hk : ∀ o', H o' = none → AWL P n ops rest K ((d, .vw o' sz 0 (k + m)) :: R) (H.set o' (.cel (as ++ bs)))) :
    AWL P n ops (⟨some d, .call { callee := .builtin .append, args := #[s, x], argTypes := #[t, t2] }, ty, pos, af, none⟩ :: rest) K R (H.set ob (.cel as)) :=
  awl_app_cel hdn hs hx (AHeap.set_self _ _ _) hk0 hb h63 hby (fun o' ho' => by rw [AHeap.erase_set hH]; exact hk o' (AHeap.none_of_set ho'))
theorem Ent.seal_byt1 (i : Nat) {o k : Nat} {bs : List UInt8} (hi : rget R i = .vw o 1 0 k) (hk : k = bs.length) (ho : H o = none) : Ent R (H.set o (.byt bs)) ((i, .bys bs) :: R) H := by
  subst hk; have := Ent.seal_byt (R := R) hi (AHeap.set_self H o (.byt bs)); rwa [AHeap.erase_set ho] at this
theorem Ent.seal_cel1 (i : Nat) {o m : Nat} {xs : List AV} (hi : rget R i = .vw o sz 0 m) (hl : xs.length = m * sz) (ho : H o = none) : Ent R (H.set o (.cel xs)) ((i, .sls m xs) :: R) H := by
  have := Ent.seal_cel (R := R) hi (AHeap.set_self H o (.cel xs)) hl; rwa [AHeap.erase_set ho] at this
end
class BuildT (P : Program) (t : TypeId) (pl : outParam (List (Nat × Nat))) (zs : outParam (List Value)) : Prop where
  z : (P.info? t).bind (fun i => i.zero.map fun z => z.cells.toList) = some zs
  p : (match P.underlying t with | some (.struct fs) => fs.toList.mapM (fun f => (P.info? f.type).map fun i => (f.offset, i.size)) | _ => none) = some pl
theorem BuildT.built {P : Program} {t : TypeId} {pl : List (Nat × Nat)} {zs : List Value} (h : BuildT P t pl zs) {parts : List (Nat × Value)} {c : Array Value}
    (hf : Instr.fill (fun i => pl[i]?) zs.toArray parts = some c) : P.built t parts = some c := by
  have hz := h.z
  have hp := h.p
  unfold Program.built
  cases hi : P.info? t with
  | none => simp [hi] at hz
  | some it =>
    cases hu : P.underlying t with
    | none => simp [hu] at hp
    | some ud =>
      cases ud <;> try (simp [hu] at hp; done)
      rename_i fields
      simp only [hu] at hp
      simp only [hi, Option.bind_some] at hz
      cases hzz : it.zero with
      | none => simp [hzz] at hz
      | some z =>
        simp [hzz] at hz
        subst hz
        simp only [hp, hzz]
        simpa using hf
def afill (pl : List (Nat × Nat)) : List AV → List (Nat × AV) → Option (List AV)
  | cs, [] => some cs
  | cs, (i, x) :: r =>
    match pl[i]? with
    | none => none
    | some (off, size) =>
      match x.parts.all AV.one1, Nat.beq x.parts.length size, Nat.ble (off + size) cs.length with
      | true, true, true => afill pl (putAt cs off x.parts) r
      | _, _, _ => none
theorem repL_putAt {g : Gh} {xs ys : List AV} {c d : List Value} {k : Nat} (hx : RepL g xs c) (hy : RepL g ys d) (hk : k + ys.length ≤ xs.length) :
    RepL g (putAt xs k ys) (c.take k ++ d ++ c.drop (k + d.length)) := by
  have h1 := repL_length _ _ hx
  have h2 := repL_length _ _ hy
  rw [repL_iff] at *
  refine ⟨by simp [putAt]; omega, fun i x hi => ?_⟩
  simp only [putAt, List.append_assoc] at hi
  rw [List.append_assoc]
  by_cases c1 : i < k
  · rw [List.getElem?_append_left (by simp; omega), List.getElem?_take, if_pos c1] at hi
    rw [List.getElem?_append_left (by simp; omega), List.getElem?_take, if_pos c1]
    exact hx.2 i x hi
  · have l1 : (xs.take k).length = k := by simp; omega
    have l2 : (c.take k).length = k := by simp; omega
    rw [List.getElem?_append_right (by omega), l1] at hi
    rw [List.getElem?_append_right (by omega), l2]
    by_cases c2 : i - k < ys.length
    · rw [List.getElem?_append_left c2] at hi
      rw [List.getElem?_append_left (by omega)]
      exact hy.2 _ x hi
    · rw [List.getElem?_append_right (by omega), List.getElem?_drop] at hi
      rw [List.getElem?_append_right (by omega), List.getElem?_drop, h2]
      exact hx.2 _ x hi
theorem foldl_set_list (v : Value) (off : Nat) (cs : Array Value) (h : off + v.cells.size ≤ cs.size) :
    (v.cells.zipIdx.foldl (fun cs x => cs.setIfInBounds (off + x.2) x.1) cs).toList = cs.toList.take off ++ v.cells.toList ++ cs.toList.drop (off + v.cells.toList.length) := by
  have hfe : v.cells.zipIdx.foldl (fun cs x => cs.setIfInBounds (off + x.2) x.1) cs = (v.cells.toList.zipIdx 0).foldl (fun (cs : Array Value) (p : Value × Nat) => cs.setIfInBounds (off + p.2) p.1) cs := by
    rw [← Array.foldl_toList, Array.toList_zipIdx]
  obtain ⟨f1, f2, f3⟩ := foldl_set off v.cells.toList 0 cs (by simpa using h)
  rw [hfe]
  generalize (v.cells.toList.zipIdx 0).foldl (fun (cs : Array Value) (p : Value × Nat) => cs.setIfInBounds (off + p.2) p.1) cs = cs' at f1 f2 f3
  have hl : cs.toList.length = cs.size := by simp
  have hv : v.cells.toList.length = v.cells.size := by simp
  apply List.ext_getElem?
  intro i
  rw [Array.getElem?_toList, List.append_assoc]
  have l2 : (cs.toList.take off).length = off := by simp; omega
  by_cases c1 : i < off
  · rw [List.getElem?_append_left (by omega), List.getElem?_take, if_pos c1, f2 i (.inl (by omega)), Array.getElem?_toList]
  · rw [List.getElem?_append_right (by omega), l2]
    by_cases c2 : i - off < v.cells.toList.length
    · rw [List.getElem?_append_left c2, ← f3 _ c2]
      congr 1
      omega
    · rw [List.getElem?_append_right (by omega), List.getElem?_drop, f2 i (.inr (by omega)), Array.getElem?_toList]
      congr 1
      omega
def PRel (g : Gh) : List (Nat × AV) → List (Nat × Value) → Prop
  | [], [] => True
  | (i, x) :: ps, (j, v) :: vs => i = j ∧ Rep g x v ∧ PRel g ps vs
  | _, _ => False
theorem fill_rep {g : Gh} (pl : List (Nat × Nat)) : ∀ (ps : List (Nat × AV)) (vs : List (Nat × Value)) (cs cs' : List AV) (c : Array Value), PRel g ps vs → RepL g cs c.toList → afill pl cs ps = some cs' →
    ∃ c', Instr.fill (fun i => pl[i]?) c vs = some c' ∧ RepL g cs' c'.toList
  | [], [], cs, cs', c, _, hr, h => by simp only [afill, Option.some.injEq] at h; subst h; exact ⟨c, by simp [Instr.fill], hr⟩
  | (i, x) :: ps, (j, v) :: vs, cs, cs', c, hp, hr, h => by
    simp only [PRel] at hp
    obtain ⟨rfl, hx, hp⟩ := hp
    simp only [afill] at h
    split at h
    · cases h
    · rename_i off size hpl
      split at h
      · rename_i e1 e2 e3
        have e2' := Nat.eq_of_beq_eq_true e2
        have e3' := Nat.le_of_ble_eq_true e3
        have hv := rep_parts hx e1
        have l1 : v.cells.size = x.parts.length := by simpa using repL_length _ _ hv
        have l2 : c.size = cs.length := by simpa using repL_length _ _ hr
        have l3 : off + x.parts.length ≤ cs.length := by rw [e2']; exact e3'
        have hput := repL_putAt hr hv l3
        rw [← foldl_set_list v off c (by rw [l1, l2]; exact l3)] at hput
        obtain ⟨c', q1, q2⟩ := fill_rep pl ps vs _ cs' _ hp hput h
        refine ⟨c', ?_, q2⟩
        simp only [Instr.fill, hpl]
        rw [if_neg (by simp [l1, e2', l2]; exact e3')]
        exact q1
      · cases h
  | [], _ :: _, _, _, _, hp, _, _ => by simp [PRel] at hp
  | _ :: _, [], _, _, _, hp, _, _ => by simp [PRel] at hp
section
variable {P : Program} {n : Nat} {R : Regs} {H : AHeap} {ty : TypeId}
theorem prel_map {g : Gh} {a : Act} {w : World} (hp : Pre n R H g a w) : ∀ l : List (Nat × Operand), PRel g (l.map fun p => (p.1, reval R p.2)) (l.map fun p => (p.1, a.eval p.2))
  | [] => by simp [PRel]
  | p :: l => by simp only [List.map_cons, PRel]; exact ⟨trivial, rv hp rfl, prel_map hp l⟩
theorem s_build {t : TypeId} {pl : List (Nat × Nat)} {zs : List Value} [hB : BuildT P t pl zs] {parts : Array (Nat × Operand)} {xs : List AV}
    (hx : afill pl (zs.map .raw) (parts.toList.map fun p => (p.1, reval R p.2)) = some xs) : Stp P n (.build t parts) ty R H (.agg xs) :=
  stp_pure fun o ho ht g a w hp => by
    obtain ⟨c, q1, q2⟩ := fill_rep (g := g) pl _ _ _ _ zs.toArray (prel_map hp parts.toList) (by simpa using repL_raw zs) hx
    refine ⟨.agg c, ?_, by simp only [Rep]; exact ⟨c, rfl, q2⟩⟩
    have hb := hB.built q1
    have hr : (Instr.build t (parts.map fun x => (x.1, a.eval x.2))).run P w = .ok (.agg c) w := run_build w t _ c (by simpa using hb)
    simp [execOp, ho, hr]
theorem Ent.weak {o : Nat} {xs ys : List AV} (hl : ys.length = xs.length) (hw : ∀ g c k, RepAt g xs c k → RepAt g ys c k) : Ent R (H.set o (.cel xs)) R (H.set o (.cel ys)) := fun g t w h1 h2 => by
  refine ⟨g, .refl g, h1, ?_⟩
  have hs : H.set o (.cel ys) = (H.set o (.cel xs)).set o (.cel ys) := (AHeap.set_set _ _ _ _).symm
  rw [hs]
  rcases h2.objs o _ (AHeap.set_self _ _ _) with ⟨hv, hlo⟩ | ⟨l, c, e, fz, hlo, k1, k2, k3, k4⟩ | ⟨l, es, es', cl, hx, _⟩ | ⟨_, _, _, _, hq⟩
  · refine h2.void hlo ?_
    simp only [AO.void] at hv ⊢
    subst hv
    simpa using hl
  · exact h2.write (w' := w) ⟨rfl, rfl, rfl⟩ (AHeap.set_self _ _ _) hlo (fun _ _ => rfl) k1 k2 k3 ⟨by have := k4.1; omega, hw _ _ _ k4.2⟩
  · cases hx
  · obtain ⟨_, _, he⟩ := hq.mp; cases he
theorem repAt_nil_bys {g : Gh} {xs : List AV} {c : Array Value} {k : Nat} (h : RepAt g (.raw (.slice none 0 0) :: xs) c k) : RepAt g (.bys [] :: xs) c k := by
  rw [repAt_iff] at h ⊢
  intro i x hi
  cases i with
  | zero =>
    simp at hi
    subst hi
    obtain ⟨u, h1, h2, h3⟩ := h 0 _ rfl
    refine ⟨u, h1, h2, ?_⟩
    simp only [Rep] at h3 ⊢
    subst h3
    exact .inl ⟨trivial, _, _, rfl⟩
  | succ i => exact h (i + 1) x (by simpa using hi)
end
def W (x y : AV) : Prop := ∀ g v, Rep g x v → Rep g y v
def WL (xs ys : List AV) : Prop := ∀ g l, RepL g xs l → RepL g ys l
theorem W.of {x y : AV} (h : x = y) : W x y := fun _ _ hr => h ▸ hr
theorem W.int {x : AV} {k : IntKind} {za : Int} {a : Nat} [na : NatOf za a] (h : x = .raw (.int k za)) : W x (.raw (.int k (a : Int))) := W.of (by rw [h, na.h])
theorem W.nilb {x : AV} (h : x = .raw (.slice none 0 0)) : W x (.bys []) := fun g v hr => by
  subst h; simp only [Rep] at hr ⊢; subst hr; exact .inl ⟨trivial, _, _, rfl⟩
theorem W.nils {x : AV} (h : x = .raw (.slice none 0 0)) : W x (.sls 0 []) := fun g v hr => by
  subst h; simp only [Rep] at hr ⊢; subst hr; exact .inl ⟨trivial, trivial, _, _, rfl⟩
theorem W.empb {x : AV} (h : x = .emp) : W x (.bys []) := fun g v hr => by
  subst h; simp only [Rep] at hr ⊢; obtain ⟨a, rfl⟩ := hr; exact .inl ⟨trivial, _, _, rfl⟩
theorem W.emps {x : AV} (h : x = .emp) : W x (.sls 0 []) := fun g v hr => by
  subst h; simp only [Rep] at hr ⊢; obtain ⟨a, rfl⟩ := hr; exact .inl ⟨trivial, trivial, _, _, rfl⟩
theorem W.bysx {x : AV} {bs : List UInt8} (h : x = .bysx bs) : W x (.bys bs) := fun g v hr => by
  subst h; simp only [Rep] at hr ⊢
  rcases hr with ⟨e, a, rfl⟩ | ⟨b, off, c, e, fz, rfl, hrest⟩
  · exact .inl ⟨e, _, _, rfl⟩
  · exact .inr ⟨b, off, _, c, e, fz, rfl, Nat.le_refl _, hrest⟩
theorem W.slsx {x : AV} {m : Nat} {xs : List AV} (h : x = .slsx m xs) : W x (.sls m xs) := fun g v hr => by
  subst h; simp only [Rep] at hr ⊢
  rcases hr with ⟨e, e', a, rfl⟩ | ⟨b, off, c, e, fz, rfl, hrest⟩
  · exact .inl ⟨e, e', _, _, rfl⟩
  · exact .inr ⟨b, off, _, c, e, fz, rfl, Nat.le_refl _, hrest⟩
theorem WL.nil : WL [] [] := fun _ _ h => h
theorem WL.cons {x y : AV} {xs ys : List AV} (h : W x y) (hs : WL xs ys) : WL (x :: xs) (y :: ys) := fun g l hr => by
  simp only [RepL] at hr ⊢
  obtain ⟨u, us, rfl, h1, h2⟩ := hr
  exact ⟨u, us, rfl, h g u h1, hs g us h2⟩
section
variable {P : Program} {n : Nat} {K : Exit → Regs → AHeap → Prop} {R : Regs} {H : AHeap} {ops : Array Oper} {rest : List Oper} {ty : TypeId} {d : Tmp} {pos : String} {af : Array Edge}
theorem ACalls.weak {f : FuncId} {xs ys : List AV} {Kc : AV → AHeap → Prop} (h : WL xs ys) (hc : ACalls P f ys H Kc) : ACalls P f xs H Kc := fun g w vals hl hs => hc g w vals (h g _ hl) hs
theorem awl_callc {f : FuncId} [hF : FuncT P f] {args : Array Operand} {ats : Array TypeId} {ys : List AV} {Kc : AV → AHeap → Prop} (hdn : Nat.blt d n = true) (hw : WL (args.toList.map (reval R)) ys)
    (hc : ACalls P f ys H Kc) (hk : ∀ r H', Kc r H' → AWL P n ops rest K ((d, r) :: R) H') :
    AWL P n ops (⟨some d, .call { callee := .value (.func f), args := args, argTypes := ats }, ty, pos, af, none⟩ :: rest) K R H := awl_call hdn rfl (hc.weak hw) hk
theorem awl_callc0 {f : FuncId} [hF : FuncT P f] {args : Array Operand} {ats : Array TypeId} {ys : List AV} {Kc : AV → AHeap → Prop} (hw : WL (args.toList.map (reval R)) ys)
    (hc : ACalls P f ys H Kc) (hk : ∀ r H', Kc r H' → AWL P n ops rest K R H') :
    AWL P n ops (⟨none, .call { callee := .value (.func f), args := args, argTypes := ats }, ty, pos, af, none⟩ :: rest) K R H := awl_call0 rfl (hc.weak hw) hk
end
section
variable {P : Program} {n : Nat} {K : Exit → Regs → AHeap → Prop} {R : Regs} {H : AHeap} {ops : Array Oper} {rest : List Oper} {ty : TypeId} {d : Tmp} {pos : String} {af : Array Edge}
theorem awl_guard_pt {op : Op} {j dj : Nat} {p : Prop} [inst : Decidable p] (hj : (ops[j]?).bind (·.dst) = some dj) (hb : rget R dj = .raw (.bool (@decide p inst))) (hdn : Nat.blt d n = true)
    (ht : p → AWL P n ops (⟨some d, op, ty, pos, af, none⟩ :: rest) K ((dj, .raw (.bool true)) :: R) H) (hf : ¬ p → AWL P n ops rest K ((d, .raw undef) :: (dj, .raw (.bool false)) :: R) H) :
    AWL P n ops (⟨some d, op, ty, pos, af, some (j, true)⟩ :: rest) K R H :=
  awl_split hb (fun h => awl_guard_t hj (by simp [rget]) hdn (ht h)) (fun h => awl_guard_f hj (by simp [rget]) hdn (hf h))
theorem awl_guard_pf {op : Op} {j dj : Nat} {p : Prop} [inst : Decidable p] (hj : (ops[j]?).bind (·.dst) = some dj) (hb : rget R dj = .raw (.bool (@decide p inst))) (hdn : Nat.blt d n = true)
    (ht : p → AWL P n ops rest K ((d, .raw undef) :: (dj, .raw (.bool true)) :: R) H) (hf : ¬ p → AWL P n ops (⟨some d, op, ty, pos, af, none⟩ :: rest) K ((dj, .raw (.bool false)) :: R) H) :
    AWL P n ops (⟨some d, op, ty, pos, af, some (j, false)⟩ :: rest) K R H :=
  awl_split hb (fun h => awl_guard_f hj (by simp [rget]) hdn (ht h)) (fun h => awl_guard_t hj (by simp [rget]) hdn (hf h))
theorem awl_guard_bt {op : Op} {j dj : Nat} {b : Bool} (hj : (ops[j]?).bind (·.dst) = some dj) (hb : rget R dj = .raw (.bool b)) (hdn : Nat.blt d n = true)
    (ht : b = true → AWL P n ops (⟨some d, op, ty, pos, af, none⟩ :: rest) K ((dj, .raw (.bool true)) :: R) H) (hf : b = false → AWL P n ops rest K ((d, .raw undef) :: (dj, .raw (.bool false)) :: R) H) :
    AWL P n ops (⟨some d, op, ty, pos, af, some (j, true)⟩ :: rest) K R H :=
  awl_guard_pt (p := b = true) hj (by rw [hb]; simp) hdn ht (fun h => hf (by simpa using h))
theorem awl_guard_bf {op : Op} {j dj : Nat} {b : Bool} (hj : (ops[j]?).bind (·.dst) = some dj) (hb : rget R dj = .raw (.bool b)) (hdn : Nat.blt d n = true)
    (ht : b = true → AWL P n ops rest K ((d, .raw undef) :: (dj, .raw (.bool true)) :: R) H) (hf : b = false → AWL P n ops (⟨some d, op, ty, pos, af, none⟩ :: rest) K ((dj, .raw (.bool false)) :: R) H) :
    AWL P n ops (⟨some d, op, ty, pos, af, some (j, false)⟩ :: rest) K R H :=
  awl_guard_pf (p := b = true) hj (by rw [hb]; simp) hdn ht (fun h => hf (by simpa using h))
def u64 (z : Int) : Nat := (z % 18446744073709551616).toNat
theorem u64_lt (z : Int) : u64 z < 18446744073709551616 := by unfold u64; omega
theorem wrap_u64 (z : Int) : IntKind.wrap .u64 z = (u64 z : Int) := by
  have h : IntKind.wrap .u64 z = z % 18446744073709551616 := by simp [IntKind.wrap, IntKind.bits, IntKind.signed]
  rw [h, u64, Int.toNat_of_nonneg (by omega)]
theorem s_convu {s t : TypeId} {x : Operand} {k : IntKind} {a : Int} [hT : IntT P t .u64] [hS : KnownT P s] (hx : reval R x = .raw (.int k a)) : Stp P n (.convert s t x) ty R H (.raw (.int .u64 ((u64 a : Nat) : Int))) := by
  rw [← wrap_u64]; exact s_conv hx
theorem s_shl1 {t t2 : TypeId} {x y : Operand} {k' : IntKind} {a : Nat} {zb : Int} {b : Nat} [nb : NatOf zb b] (hx : reval R x = .raw (.int .u64 (a : Int))) (hy : reval R y = .raw (.int k' zb)) (h : b ≤ 64) : Stp P n (.binOp .shl t x y t2) ty R H (.raw (.int .u64 ((a * 2 ^ b % 2 ^ 64 : Nat) : Int))) := s_shln hx hy h
end
theorem idAW {P : Program} {n : Nat} {c : Code} {K : Exit → Regs → AHeap → Prop} {R : Regs} {H : AHeap} (h : AW P n c K R H) : AW P n c K R H := h
theorem idAWL {P : Program} {n : Nat} {ops : Array Oper} {l : List Oper} {K : Exit → Regs → AHeap → Prop} {R : Regs} {H : AHeap} (h : AWL P n ops l K R H) : AWL P n ops l K R H := h
theorem idKS {N : Regs → AHeap → Prop} {K : Exit → Regs → AHeap → Prop} {e : Exit} {R : Regs} {H : AHeap} (h : kseq N K e R H) : kseq N K e R H := h
theorem idKB {id : Nat} {K : Exit → Regs → AHeap → Prop} {e : Exit} {R : Regs} {H : AHeap} (h : kblock id K e R H) : kblock id K e R H := h
theorem ACalls.conv {P : Program} {f : FuncId} {args : List AV} {H : AHeap} {Kc Kc' : AV → AHeap → Prop} (h : ACalls P f args H Kc)
    (hk : ∀ r H', Kc r H' → ∃ r' H'', Kc' r' H'' ∧ Ent [(0, r)] H' [(0, r')] H'') : ACalls P f args H Kc' := fun g w vals h1 h2 => by
  refine (h g w vals h1 h2).mono ?_
  rintro e w' ⟨v, r, H', g', e1, e2, e3, e4, e5⟩
  obtain ⟨r', H'', k1, k2⟩ := hk r H' e5
  have hreg : RegRel g' [(0, r)] #[v] := fun i => by
    cases i with
    | zero => simpa [rget] using e3
    | succ i => simp [rget, Rep]
  obtain ⟨g'', q1, q2, q3⟩ := k2 g' #[v] w' hreg e4
  have := q2 0
  simp [rget] at this
  exact ⟨v, r', H'', g'', e1, e2.trans q1, this, q3, k1⟩
theorem ACalls.seal {P : Program} {f : FuncId} {args : List AV} {H : AHeap} {bs : List UInt8}
    (h : ACalls P f args H fun r H' => ∃ o, H o = none ∧ r = .vw o 1 0 bs.length ∧ H' = H.set o (.byt bs)) : ACalls P f args H fun r H' => r = .bys bs ∧ H' = H :=
  h.conv fun r H' ⟨o, ho, hr, hH⟩ => ⟨.bys bs, H, ⟨rfl, rfl⟩, by subst hr hH; exact (Ent.seal_byt1 0 rfl rfl ho).trans (Ent.sub H (RSub.cons rfl (RSub.nil _)))⟩
class PtrT (P : Program) (t : TypeId) : Prop where
  h : P.underlying t = some (.pointer (P.pointee t))
class BoolT (P : Program) (t : TypeId) : Prop where
  h : P.underlying t = some .bool
section
variable {P : Program} {n : Nat} {R : Regs} {H : AHeap} {ty : TypeId} {t t2 : TypeId} {x y : Operand}
theorem s_ptr_eqnil [hT : PtrT P t] {o k : Nat} (hx : reval R x = .ptr o k) (hy : reval R y = .raw (.pointer none)) : Stp P n (.binOp .eql t x y t2) ty R H (.raw (.bool false)) :=
  stp_pure fun o ho ht g a w hp => by
    have h1 := rv hp hx
    have h2 := rv hp hy
    simp only [Rep] at h1 h2
    obtain ⟨l, _, h1⟩ := h1
    exact ⟨.bool false, by simp [execOp, ho, h1, h2, eqGuard_at_pointer, run_eql_pointer_nil w t _ hT.h], by simp only [Rep]⟩
theorem s_ptr_nenil [hT : PtrT P t] {o k : Nat} (hx : reval R x = .ptr o k) (hy : reval R y = .raw (.pointer none)) : Stp P n (.binOp .neq t x y t2) ty R H (.raw (.bool true)) :=
  stp_pure fun o ho ht g a w hp => by
    have h1 := rv hp hx
    have h2 := rv hp hy
    simp only [Rep] at h1 h2
    obtain ⟨l, _, h1⟩ := h1
    exact ⟨.bool true, by simp [execOp, ho, h1, h2, eqGuard_at_pointer, run_neq_pointer_nil w t _ hT.h], by simp only [Rep]⟩
theorem s_nil_eqnil [hT : PtrT P t] (hx : reval R x = .raw (.pointer none)) (hy : reval R y = .raw (.pointer none)) : Stp P n (.binOp .eql t x y t2) ty R H (.raw (.bool true)) :=
  stp_pure fun o ho ht g a w hp => by
    have h1 := rv hp hx
    have h2 := rv hp hy
    simp only [Rep] at h1 h2
    exact ⟨.bool true, by simp [execOp, ho, h1, h2, eqGuard_at_pointer, run_eql_pointer_nil w t _ hT.h], by simp only [Rep]⟩
theorem s_beq [hT : BoolT P t] {a b : Bool} (hx : reval R x = .raw (.bool a)) (hy : reval R y = .raw (.bool b)) : Stp P n (.binOp .eql t x y t2) ty R H (.raw (.bool (a == b))) :=
  stp_pure fun o ho ht g c w hp => by
    have h1 := rv hp hx
    have h2 := rv hp hy
    simp only [Rep] at h1 h2
    exact ⟨.bool (a == b), by simp [execOp, ho, h1, h2, eqGuard_at_bool, run_eql_bool w t a b hT.h], by simp only [Rep]⟩
theorem s_bne [hT : BoolT P t] {a b : Bool} (hx : reval R x = .raw (.bool a)) (hy : reval R y = .raw (.bool b)) : Stp P n (.binOp .neq t x y t2) ty R H (.raw (.bool (!(a == b)))) :=
  stp_pure fun o ho ht g c w hp => by
    have h1 := rv hp hx
    have h2 := rv hp hy
    simp only [Rep] at h1 h2
    exact ⟨.bool (!(a == b)), by simp [execOp, ho, h1, h2, eqGuard_at_bool, run_neq_bool w t a b hT.h], by simp only [Rep]⟩
end
theorem AHeap.get_skip {H : AHeap} {a b : Nat} {x y : AO} (h1 : b ≠ a) (h2 : H b = some y) : (H.set a x) b = some y := by simpa [AHeap.set, h1] using h2
theorem AHeap.ne_of_fresh {H : AHeap} {a b : Nat} {x : AO} (h : (H.set a x) b = none) : b ≠ a := fun e => by subst e; simp [AHeap.set] at h
end Go.Am
namespace Go.Am
open Go Go.RowKit
def Gh.start (w : World) : Gh := { w0 := w, h := fun b => w.heap[b]?, loc := fun _ => none }
theorem Sim.start (w : World) : Sim (Gh.start w) AHeap.empty w :=
  ⟨rfl, rfl, rfl, fun b o h => h, fun o x h => by simp [AHeap.empty] at h, fun o1 _ _ _ _ _ h => by simp [AHeap.empty] at h, fun o _ _ h => by simp [AHeap.empty] at h, ⟨0, fun _ _ => ⟨rfl, rfl⟩⟩⟩
theorem Sim.below {g : Gh} {H : AHeap} {w w' : World} (h : Sim g H w') (hg : (Gh.start w).le g) : Below w.heap.size w w' := by
  have hw : g.w0 = w := hg.w0
  have hb : ∀ k, k < w.heap.size → w'.heap[k]? = w.heap[k]? := fun k hk => by
    have hk' : w.heap[k]? = some w.heap[k] := by simp [hk]
    rw [hk']
    exact h.sealed k _ (hg.h k _ hk')
  refine ⟨by rw [h.os, hw], by rw [h.tape, hw], by rw [h.output, hw], ?_, hb⟩
  by_cases hz : w.heap.size = 0
  · omega
  · have hl := hb (w.heap.size - 1) (by omega)
    have hs : w.heap[w.heap.size - 1]? = some (w.heap[w.heap.size - 1]'(by omega)) := by simp
    rw [hs] at hl
    have := (Array.getElem?_eq_some_iff.1 hl).1
    omega
theorem ACalls.below {P : Program} {f : FuncId} {avs : List AV} {w : World} {args : Array Value} {v : Value} (hc : ACalls P f avs AHeap.empty fun r _ => r = .raw v)
    (hr : RepL (Gh.start w) avs args.toList) : Calls P f args w fun e w' => e = .returned v ∧ Below w.heap.size w w' :=
  (hc (Gh.start w) w args hr (Sim.start w)).mono fun e w' ⟨u, r, H', g', e1, e2, e3, e4, e5⟩ => by
    subst e5
    simp only [Rep] at e3
    subst e3
    exact ⟨e1, e4.below e2⟩
section
open Go.WideShapes Go.ChangeShapes
variable {T : Type} {enc : TypeId × Value → T} {P : Program}
theorem post_kept {f : Func} {s : ChangeSpec} {ap fr ho ag : Bool} {w w' : World} {args : Array Value} {v : Value} {ds gs : List (DataW T)} {bef pa pv : List MemPlace}
    (hW : DataW.Whole enc P f.params.toList s.vars ap w args.toList ds gs bef)
    (hr : ∀ (b : Nat) (sp : Nat → Bool) (hd : Bool), DataW.TrodAll enc P w' b sp hd f.resultTypes.toList (v.resultList f.resultTypes.size) (s.fn T (ds ++ gs)).results [])
    (ha : ∀ sp : Nat → Bool, (∀ p ∈ bef, sp p.block = true) → DataW.TrodAll enc P w' 0 sp true f.params.toList args.toList (s.fn T (ds ++ gs)).args pa)
    (hv : ∀ sp : Nat → Bool, (∀ p ∈ bef, sp p.block = true) → DataW.TrodVars enc P w' sp s.vars (s.fn T (ds ++ gs)).vars pv)
    (hp : bef = pa ++ pv) (hb : Below w.heap.size w w')
    (hok : ∀ (j : Nat) (t : TypeId) (r : Value), f.resultTypes[j]? = some t → (v.resultList f.resultTypes.size)[j]? = some r → Value.okWide P w' .any 0 t r) :
    s.post enc P f ap fr ho ag w args v w' := by
  have old : ∀ p ∈ bef, (fun b => decide (b < w.heap.size)) p.block = true := fun p h => by simpa using hW.lt p h
  have both : ∀ p, p ∈ bef → p ∈ pa ++ pv := fun p h => hp ▸ h
  refine ⟨ds, gs, bef, [], pa, pv, hW, hr _ _ _, ha _ old, hv _ old, World.keptBut_mono (fun p h => ⟨h, Or.inr (by simpa using both p h)⟩) (hb.frame (· ∈ bef)), fun _ => ?_⟩
  obtain ⟨_, _, _, _, _, hz, hn⟩ := id hW
  refine ⟨hok, _, _, ([] ++ pa) ++ pv, ⟨[] ++ pa, pv, trodAll_append (ha _ (fun _ _ => rfl)) (hr _ _ _), hv _ (fun _ _ => rfl), rfl, fun b k hm => ?_, fun h => ?_⟩, fun p h _ => ?_⟩
  · have hin : MemPlace.cell b k ∈ bef := by rw [hp]; simpa using hm
    rw [hb.frozen (hW.lt _ hin)]
    exact hz b k hin
  · have := hn h
    rw [hp] at this
    simpa using this
  · rw [hp]; simpa using h
end
end Go.Am
namespace Go.Am
open Go Go.RowKit
inductive Ty where
  | bool
  | int (k : IntKind)
  | str
  | bys
  | sl (t : Ty)
  | unit
  | pair (a b : Ty)
def Ty.V : Ty → Type
  | .bool => Bool
  | .int _ => Int
  | .str => List UInt8
  | .bys => List UInt8
  | .sl t => List t.V
  | .unit => Unit
  | .pair a b => a.V × b.V
def Ty.ok : (t : Ty) → t.V → Prop
  | .bool, _ => True
  | .int k, z => (Lit.int k z).wf = true
  | .str, _ => True
  | .bys, _ => True
  | .sl t, (l : List t.V) => ∀ x ∈ l, t.ok x
  | .unit, _ => True
  | .pair a b, x => a.ok x.1 ∧ b.ok x.2
def Ty.bulk : (t : Ty) → t.V → Nat
  | .bool, _ => 1
  | .int _, _ => 1
  | .str, (s : List UInt8) => s.length + 1
  | .bys, (s : List UInt8) => s.length + 1
  | .sl t, l => (l.map t.bulk).sum + 1
  | .unit, _ => 0
  | .pair a b, x => a.bulk x.1 + b.bulk x.2
def Ty.len : Ty → Nat
  | .unit => 0
  | .pair a b => a.len + b.len
  | _ => 1
def Ty.avs : (t : Ty) → t.V → List AV
  | .bool, b => [.raw (.bool b)]
  | .int k, z => [.raw (.int k z)]
  | .str, s => [.str s]
  | .bys, s => [.bys s]
  | .sl t, l => [.sls l.length (l.flatMap t.avs)]
  | .unit, _ => []
  | .pair a b, x => a.avs x.1 ++ b.avs x.2
theorem Ty.avs_len : ∀ (t : Ty) (x : t.V), (t.avs x).length = t.len
  | .bool, _ => rfl
  | .int _, _ => rfl
  | .str, _ => rfl
  | .bys, _ => rfl
  | .sl _, _ => rfl
  | .unit, _ => rfl
  | .pair a b, x => by simp [Ty.avs, Ty.len, a.avs_len, b.avs_len]
def Ty.arg : (t : Ty) → t.V → AV
  | .bool, b => .raw (.bool b)
  | .int k, z => .raw (.int k z)
  | .str, s => .str s
  | .bys, s => .bys s
  | .sl t, l => .sls l.length (l.flatMap t.avs)
  | .unit, _ => .agg []
  | .pair a b, x => .agg (a.avs x.1 ++ b.avs x.2)
def Ty.args : (t : Ty) → t.V → List AV
  | .pair a b, x => a.arg x.1 :: b.args x.2
  | _, _ => []
def isFs (P : Program) (f : Ty → TypeId → Bool) : Ty → List Field → Nat → Nat → Bool
  | .unit, [], off, tot => off == tot
  | .pair a b, fd :: fs, off, tot => fd.offset == off && P.cellsOf fd.type == a.len && f a fd.type && isFs P f b fs (off + a.len) tot
  | _, _, _, _ => false
def isTy (P : Program) : Nat → Ty → TypeId → Bool
  | 0, _, _ => false
  | m + 1, ty, t =>
    match P.underlying t, ty with
    | some .bool, .bool => true
    | some (.int k), .int k' => decide (k = k')
    | some .string, .str => true
    | some (.slice e), .bys => (match P.underlying e with | some (.int .u8) => true | _ => false) && P.cellsOf e == 1
    | some (.slice e), .sl ty' => isTy P m ty' e && P.cellsOf e == ty'.len && decide (0 < ty'.len)
    | some (.struct fs), ty => isFs P (isTy P m) ty fs.toList 0 (P.cellsOf t)
    | _, _ => false
structure Bulk (H : Type) where
  b : DataW H → Nat
  all : List (DataW H) → Nat
  lit : ∀ l, 1 ≤ b (.lit l)
  str : ∀ bs, b (.lit (.string bs)) = bs.length + 1
  nil : 1 ≤ b .nil
  slice : ∀ e s, b (.slice e s) = all e + all s + 1
  agg : ∀ p, b (.agg p) = all p + 1
  all0 : all [] = 0
  all1 : ∀ d l, all (d :: l) = b d + all l
theorem repAt_append {g : Gh} : ∀ (xs ys : List AV) (c : Array Value) (k : Nat), RepAt g (xs ++ ys) c k ↔ RepAt g xs c k ∧ RepAt g ys c (k + xs.length)
  | [], ys, c, k => by simp [RepAt]
  | x :: xs, ys, c, k => by
    simp only [List.cons_append, RepAt, repAt_append xs ys c (k + 1), List.length_cons, and_assoc]
    rw [show k + 1 + xs.length = k + (xs.length + 1) by omega]
theorem mapM_get {α β : Type} {f : α → Option β} : ∀ {l : List α} {r : List β}, l.mapM f = some r → r.length = l.length ∧ ∀ (i : Nat) (x : α) (y : β), l[i]? = some x → r[i]? = some y → f x = some y := fun {l r} h =>
  ⟨by simpa using mapM_some_length h, fun i x y hx hy => by rw [mapM_some_get h i x hx]; exact hy⟩
theorem cell?_get {w : World} {b off : Nat} {v : Value} (h : w.cell? ⟨b, off, none⟩ = some v) : ∃ c e fz, w.heap[b]? = some (.cells c e fz) ∧ c[off]? = some v := by
  unfold World.cell? at h
  split at h
  · rename_i c e fz hb
    exact ⟨c, e, fz, hb, by simpa using h⟩
  · cases h
theorem cell?_plain {w : World} {a : Addr} {v : Value} (h : w.cell? a = some v) : a = ⟨a.block, a.off, none⟩ := by
  obtain ⟨b, off, sp⟩ := a
  cases sp with
  | none => rfl
  | some s =>
    unfold World.cell? at h
    split at h
    · simp at h
    · cases h
theorem cells?_get {w : World} {a : Addr} {m : Nat} {cs : List Value} (h : w.cells? 0 a m = some cs) : cs.length = m ∧ ∀ j v, cs[j]? = some v → w.cell? (a.add j) = some v := by
  unfold World.cells? at h
  rw [if_pos (Nat.zero_le _)] at h
  have hl : cs.length = m := by simpa using mapM_some_length h
  refine ⟨hl, fun j v hj => ?_⟩
  have hlt : j < m := by rw [← hl]; exact (List.getElem?_eq_some_iff.1 hj).1
  have := mapM_some_get h j j (by simp [hlt])
  rw [this]
  exact hj
theorem add_plain (b off j : Nat) : Addr.add ⟨b, off, none⟩ j = ⟨b, off + j, none⟩ := Go.WideShapes.add_plain _ _ _
section
variable {H : Type} {enc : TypeId × Value → H} {P : Program} {w : World} (B : Bulk H)
theorem all_ge {t : Ty} : ∀ (xs : List t.V) (ds : List (DataW H)), xs.length = ds.length → (∀ (i : Nat) x d, xs[i]? = some x → ds[i]? = some d → t.bulk x ≤ B.b d) → (xs.map t.bulk).sum ≤ B.all ds
  | [], ds, h, _ => by simp
  | x :: xs, [], h, _ => by simp at h
  | x :: xs, d :: ds, h, hb => by
    have h1 := hb 0 x d rfl rfl
    have h2 := all_ge xs ds (by simpa using h) fun i y e hy he => hb (i + 1) y e (by simpa using hy) (by simpa using he)
    simp only [List.map_cons, List.sum_cons, B.all1]
    omega
theorem collect {α β : Type} {R : Nat → α → β → Prop} : ∀ (ds : List α) (k : Nat), (∀ (i : Nat) d, ds[i]? = some d → ∃ x, R (k + i) d x) → ∃ xs : List β, xs.length = ds.length ∧ ∀ (i : Nat) d x, ds[i]? = some d → xs[i]? = some x → R (k + i) d x
  | [], k, _ => ⟨[], rfl, fun i d x h => by simp at h⟩
  | d :: ds, k, h => by
    obtain ⟨x, hx⟩ := h 0 d rfl
    obtain ⟨xs, h1, h2⟩ := collect ds (k + 1) fun i e he => by
      obtain ⟨y, hy⟩ := h (i + 1) e (by simpa using he)
      exact ⟨y, by rwa [Nat.add_assoc, Nat.add_comm 1 i]⟩
    refine ⟨x :: xs, by simp [h1], fun i e y he hy => ?_⟩
    cases i with
    | zero => simp at he hy; subst he; subst hy; exact hx
    | succ i => have := h2 i e y (by simpa using he) (by simpa using hy); rwa [Nat.add_assoc, Nat.add_comm 1 i] at this
theorem repAt_flat {g : Gh} {t : Ty} {c : Array Value} : ∀ (xs : List t.V) (k : Nat), (∀ (i : Nat) x, xs[i]? = some x → RepAt g (t.avs x) c (k + i * t.len)) → RepAt g (xs.flatMap t.avs) c k
  | [], k, _ => by simp [RepAt]
  | x :: xs, k, h => by
    rw [List.flatMap_cons, repAt_append, t.avs_len]
    refine ⟨by simpa using h 0 x rfl, repAt_flat xs (k + t.len) fun i y hy => ?_⟩
    have := h (i + 1) y (by simpa using hy)
    rwa [Nat.add_mul, Nat.one_mul, Nat.add_comm (i * t.len), ← Nat.add_assoc] at this
theorem repAt_of_cells {xs : List AV} {cs : List Value} {b off : Nat} {c : Array Value} {e : TypeId} {fz : Nat × Nat} (hb : w.heap[b]? = some (.cells c e fz)) {g : Gh} (h : RepL g xs cs) (h1 : ∀ v ∈ cs, one v)
    (hc : ∀ j v, cs[j]? = some v → w.cell? ⟨b, off + j, none⟩ = some v) : RepAt g xs c off := by
  rw [repAt_iff]
  obtain ⟨_, h2⟩ := (repL_iff _ _).1 h
  intro i x hi
  obtain ⟨u, hu, hr⟩ := h2 i x hi
  obtain ⟨c', e', fz', hb', hcu⟩ := cell?_get (hc i u hu)
  rw [hb] at hb'; cases hb'
  exact ⟨u, hcu, h1 u (List.mem_of_getElem? hu), hr⟩
def Good (B : Bulk H) (w : World) (ty : Ty) (d : DataW H) (cs : List Value) (x : ty.V) : Prop := ty.ok x ∧ ty.bulk x ≤ B.b d ∧ RepL (Gh.start w) (ty.avs x) cs ∧ ∀ v ∈ cs, one v
def GoodFs (B : Bulk H) (w : World) (ty : Ty) (ds : List (DataW H)) (cs : List Value) (x : ty.V) : Prop := ty.ok x ∧ ty.bulk x ≤ B.all ds ∧ RepL (Gh.start w) (ty.avs x) cs ∧ ∀ v ∈ cs, one v
theorem trod_avs : ∀ (m : Nat) (ty : Ty) (fuel : Nat) (t : TypeId) (cs : List Value) (x : DataW H × List MemPlace), isTy P m ty t = true →
    DataW.trod enc P w 0 (fun _ => true) true fuel t cs = some x → ∃ y : ty.V, Good B w ty x.1 cs y := by
  intro m
  induction m with
  | zero => intro ty fuel t cs x hty; simp [isTy] at hty
  | succ m ih =>
    intro ty fuel t cs x hty h
    unfold isTy at hty
    split at hty
    · rename_i hu
      obtain ⟨b, rfl, rfl⟩ := DataW.trod_bool hu h
      exact ⟨b, trivial, B.lit _, by simp only [Ty.avs, RepL]; exact ⟨_, _, rfl, by simp only [Rep], rfl⟩, by rintro v hv; simp at hv; subst hv; rfl⟩
    · rename_i k k' hu
      have hk := of_decide_eq_true hty
      subst hk
      obtain ⟨z, rfl, rfl, hz⟩ := DataW.trod_int hu h
      exact ⟨z, hz, B.lit _, by simp only [Ty.avs, RepL]; exact ⟨_, _, rfl, by simp only [Rep], rfl⟩, by rintro v hv; simp at hv; subst hv; rfl⟩
    · rename_i hu
      obtain ⟨s, rfl, rfl, _⟩ := DataW.trod_string hu h
      exact ⟨s.data.toList, trivial, by rw [B.str]; exact Nat.le_refl _, by simp only [Ty.avs, RepL]; exact ⟨_, _, rfl, by simp only [Rep], rfl⟩, by rintro v hv; simp at hv; subst hv; rfl⟩
    · rename_i e hu
      simp only [Bool.and_eq_true, beq_iff_eq] at hty
      obtain ⟨he, hz⟩ := hty
      split at he
      case h_2 => cases he
      rename_i hue
      rcases DataW.trod_slice hu h with ⟨rfl, rfl⟩ | ⟨a, len, cap, elems, rest, n, rfl, rfl, rfl, _, hcap, _, hlen, hget, _⟩
      · exact ⟨[], trivial, B.nil, by simp only [Ty.avs, RepL]; exact ⟨_, _, rfl, by simp only [Rep]; exact .inl ⟨trivial, _, _, rfl⟩, rfl⟩, by rintro v hv; simp at hv; subst hv; rfl⟩
      · have hone : ∀ (i : Nat) y, elems[i]? = some y → ∃ x : UInt8, 1 ≤ B.b y.1 ∧ w.cell? (a.add i) = some (.int .u8 (x.toNat : Int)) := fun i y hy => by
          have hi : i < len := by rw [← hlen]; exact (List.getElem?_eq_some_iff.1 hy).1
          have hh := hget i hi
          rw [hy] at hh
          simp only [Option.bind_eq_some_iff] at hh
          obtain ⟨cs', hc', hy'⟩ := hh
          rw [hz, Nat.mul_one] at hc'
          obtain ⟨l1, l2⟩ := cells?_get hc'
          obtain ⟨z, rfl, rfl, hwf⟩ := DataW.trod_int hue hy'
          have h255 := bounds_u8 hwf
          refine ⟨UInt8.ofNat z.toNat, B.lit _, ?_⟩
          have hn : ((UInt8.ofNat z.toNat).toNat : Int) = z := by simp; omega
          rw [hn]
          have := l2 0 _ rfl
          simpa [Addr.add] using this
        obtain ⟨bs, hbl, hbs⟩ := collect (R := fun i (y : DataW H × List MemPlace) (x : UInt8) => 1 ≤ B.b y.1 ∧ w.cell? (a.add i) = some (.int .u8 (x.toNat : Int))) elems 0 (fun i y hy => by rw [Nat.zero_add]; exact hone i y hy)
        refine ⟨bs, trivial, ?_, ?_, by rintro v hv; simp at hv; subst hv; rfl⟩
        · rw [B.slice]
          have : ∀ (l : List (DataW H × List MemPlace)), (∀ y ∈ l, 1 ≤ B.b y.1) → l.length ≤ B.all (l.map (·.1)) := fun l => by
            induction l with
            | nil => intro _; simp
            | cons y l ih2 =>
              intro hl
              have h1 := hl y (by simp)
              have h2 := ih2 fun z hz => hl z (by simp [hz])
              simp only [List.map_cons, B.all1, List.length_cons]
              omega
          have := this elems fun y hy => by
            obtain ⟨i, hi, rfl⟩ := List.getElem_of_mem hy
            obtain ⟨x, hx, _⟩ := hone i _ (List.getElem?_eq_getElem hi)
            exact hx
          show bs.length + 1 ≤ _
          omega
        · simp only [Ty.avs, RepL]
          refine ⟨_, _, rfl, ?_, rfl⟩
          simp only [Rep]
          cases bs with
          | nil => exact .inl ⟨rfl, _, _, by simp at hbl; rw [show len = 0 by omega]⟩
          | cons x0 bs' =>
            have h0 : 0 < elems.length := by simp at hbl; omega
            have hc0 := (hbs 0 _ x0 (List.getElem?_eq_getElem h0) rfl).2
            rw [Nat.zero_add, show a.add 0 = a by simp [Addr.add]] at hc0
            have hpl := cell?_plain hc0
            obtain ⟨c, e2, fz, hb2, hcc⟩ := cell?_get (hpl ▸ hc0)
            refine .inr ⟨a.block, a.off, cap, c, e2, fz, by rw [← hpl, hbl, hlen], by rw [hbl, hlen]; exact hcap, hb2, fun i x hi => ?_⟩
            have hil : i < elems.length := by rw [← hbl]; exact (List.getElem?_eq_some_iff.1 hi).1
            have hci := (hbs i _ x (List.getElem?_eq_getElem hil) hi).2
            rw [Nat.zero_add, hpl, add_plain] at hci
            obtain ⟨c', e', fz', hb', hcu⟩ := cell?_get hci
            rw [hb2] at hb'; cases hb'
            exact hcu
    · rename_i e ty' hu
      simp only [Bool.and_eq_true, beq_iff_eq, decide_eq_true_eq] at hty
      obtain ⟨⟨hte, hz⟩, hpos⟩ := hty
      rcases DataW.trod_slice hu h with ⟨rfl, rfl⟩ | ⟨a, len, cap, elems, rest, n, rfl, rfl, rfl, _, hcap, _, hlen, hget, _⟩
      · exact ⟨[], by intro x hx; simp at hx, B.nil, by simp only [Ty.avs, RepL]; exact ⟨_, _, rfl, by simp only [Rep]; exact .inl ⟨rfl, rfl, _, _, rfl⟩, rfl⟩, by rintro v hv; simp at hv; subst hv; rfl⟩
      · have hone : ∀ (i : Nat) y, elems[i]? = some y → ∃ x : ty'.V, ∃ cs', Good B w ty' y.1 cs' x ∧ w.cells? 0 (a.add (i * ty'.len)) ty'.len = some cs' := fun i y hy => by
          have hi : i < len := by rw [← hlen]; exact (List.getElem?_eq_some_iff.1 hy).1
          have hh := hget i hi
          rw [hy] at hh
          simp only [Option.bind_eq_some_iff] at hh
          obtain ⟨cs', hc', hy'⟩ := hh
          rw [hz] at hc'
          obtain ⟨x, hx⟩ := ih ty' n e cs' y hte hy'
          exact ⟨x, cs', hx, hc'⟩
        obtain ⟨xs, hbl, hbs⟩ := collect (R := fun i (y : DataW H × List MemPlace) (x : ty'.V) => ∃ cs', Good B w ty' y.1 cs' x ∧ w.cells? 0 (a.add (i * ty'.len)) ty'.len = some cs') elems 0 (fun i y hy => by rw [Nat.zero_add]; exact hone i y hy)
        simp only [Nat.zero_add] at hbs
        refine ⟨xs, ?_, ?_, ?_, by rintro v hv; simp at hv; subst hv; rfl⟩
        · intro x hx
          obtain ⟨i, hi, rfl⟩ := List.getElem_of_mem hx
          obtain ⟨cs', hg, _⟩ := hbs i _ _ (List.getElem?_eq_getElem (by omega)) (List.getElem?_eq_getElem hi)
          exact hg.1
        · rw [B.slice]
          have := all_ge B xs (elems.map (·.1)) (by simp [hbl]) fun i x d' hx hd' => by
            rw [List.getElem?_map] at hd'
            cases hq : elems[i]? with
            | none => rw [hq] at hd'; cases hd'
            | some y =>
              rw [hq] at hd'
              simp at hd'; subst hd'
              obtain ⟨cs', hg, _⟩ := hbs i y x hq hx
              exact hg.2.1
          show (xs.map ty'.bulk).sum + 1 ≤ _
          omega
        · simp only [Ty.avs, RepL]
          refine ⟨_, _, rfl, ?_, rfl⟩
          simp only [Rep]
          cases xs with
          | nil => exact .inl ⟨rfl, rfl, _, _, by simp at hbl; rw [show len = 0 by omega]⟩
          | cons x0 xs' =>
            have h0 : 0 < elems.length := by simp at hbl; omega
            obtain ⟨cs0, hg0, hc0⟩ := hbs 0 _ x0 (List.getElem?_eq_getElem h0) rfl
            obtain ⟨l1, l2⟩ := cells?_get hc0
            have hcell0 := l2 0 cs0[0] (List.getElem?_eq_getElem (by omega))
            rw [Nat.zero_mul] at hcell0
            rw [show (a.add 0).add 0 = a by simp [Addr.add]] at hcell0
            have hpl := cell?_plain hcell0
            obtain ⟨c, e2, fz, hb2, hcc⟩ := cell?_get (hpl ▸ hcell0)
            refine .inr ⟨a.block, a.off, cap, c, e2, fz, by rw [← hpl, hbl, hlen], by rw [hbl, hlen]; exact hcap, hb2, repAt_flat _ _ fun i x hi => ?_⟩
            have hil : i < elems.length := by rw [← hbl]; exact (List.getElem?_eq_some_iff.1 hi).1
            obtain ⟨csi, hgi, hci⟩ := hbs i _ x (List.getElem?_eq_getElem hil) hi
            obtain ⟨m1, m2⟩ := cells?_get hci
            refine repAt_of_cells hb2 hgi.2.2.1 hgi.2.2.2 fun j v hj => ?_
            have := m2 j v hj
            rwa [hpl, add_plain, add_plain] at this
    · rename_i _ ty0 fs hu
      obtain ⟨xs, n, rfl, rfl, hcl, hxl, hget⟩ := DataW.trod_struct hu h
      have key : ∀ (ty : Ty) (fl : List Field) (xl : List (DataW H × List MemPlace)) (off : Nat), isFs P (isTy P m) ty fl off (P.cellsOf t) = true → xl.length = fl.length →
          (∀ (i : Nat) (f : Field), fl[i]? = some f → DataW.trod enc P w 0 (fun _ => true) true n f.type ((cs.drop f.offset).take (P.cellsOf f.type)) = xl[i]?) → ∃ x : ty.V, GoodFs B w ty (xl.map (·.1)) (cs.drop off) x := by
        intro ty
        induction ty with
        | unit =>
          intro fl xl off hf hx _
          cases fl with
          | nil =>
            simp [isFs] at hf
            have hdr : cs.drop off = [] := by rw [hf, ← hcl]; simp
            exact ⟨(), trivial, Nat.zero_le _, by simp only [Ty.avs, RepL]; exact hdr, by rw [hdr]; intro v hv; simp at hv⟩
          | cons f fl => simp [isFs] at hf
        | pair a b iha ihb =>
          intro fl xl off hf hx hg
          cases fl with
          | nil => simp [isFs] at hf
          | cons f fl =>
            cases xl with
            | nil => simp at hx
            | cons y ys =>
            simp only [isFs, Bool.and_eq_true, beq_iff_eq] at hf
            obtain ⟨⟨⟨h1, h2⟩, h3⟩, h4⟩ := hf
            have hy := hg 0 f rfl
            obtain ⟨x1, hx1⟩ := ih a n f.type _ y h3 hy
            obtain ⟨x2, hx2⟩ := ihb fl ys (off + a.len) h4 (by simpa using hx) fun i g hi => hg (i + 1) g (by simpa using hi)
            rw [h1, h2] at hx1
            have hsplit : cs.drop off = (cs.drop off).take a.len ++ cs.drop (off + a.len) := by
              rw [← List.drop_drop, List.take_append_drop]
            refine ⟨(x1, x2), ⟨hx1.1, hx2.1⟩, ?_, ?_, ?_⟩
            · simp only [Ty.bulk, List.map_cons, B.all1]
              have := hx1.2.1
              have := hx2.2.1
              omega
            · rw [hsplit]
              simp only [Ty.avs]
              exact repL_append hx1.2.2.1 hx2.2.2.1
            · rw [hsplit]
              intro v hv
              rcases List.mem_append.1 hv with hv | hv
              · exact hx1.2.2.2 v hv
              · exact hx2.2.2.2 v hv
        | bool => intro fl xl off hf; cases fl <;> simp [isFs] at hf
        | int k => intro fl xl off hf; cases fl <;> simp [isFs] at hf
        | str => intro fl xl off hf; cases fl <;> simp [isFs] at hf
        | bys => intro fl xl off hf; cases fl <;> simp [isFs] at hf
        | sl t => intro fl xl off hf; cases fl <;> simp [isFs] at hf
      obtain ⟨x, hx⟩ := key _ fs.toList xs 0 hty (by simpa using hxl) fun i f hi => hget i f (by simpa using hi)
      refine ⟨x, hx.1, ?_, by simpa using hx.2.2.1, by simpa using hx.2.2.2⟩
      rw [B.agg]
      have := hx.2.1
      omega
    · cases hty
theorem trod_arg {m : Nat} {ty : Ty} {t : TypeId} {v : Value} {d : DataW H} {ps : List MemPlace} {base : Nat} (hty : isTy P m ty t = true) (hval : Value.okWide P w .any base t v)
    (h : DataW.Trod enc P w 0 (fun _ => true) true t v d ps) : ∃ y : ty.V, ty.ok y ∧ ty.bulk y ≤ B.b d ∧ Rep (Gh.start w) (ty.arg y) v := by
  obtain ⟨fuel, h⟩ := h
  obtain ⟨y, h1, h2, h3, h4⟩ := trod_avs B m ty fuel t _ (d, ps) hty h
  refine ⟨y, h1, h2, ?_⟩
  cases m with
  | zero => simp [isTy] at hty
  | succ m =>
  unfold isTy at hty
  unfold Value.okWide at hval
  have leaf : ∀ {a : AV}, (∀ cs, v ≠ .agg cs) → (∀ cs, v ≠ .tuple cs) → RepL (Gh.start w) [a] v.cells.toList → Rep (Gh.start w) a v := fun hna hnt hr => by
    have hc : v.cells = #[v] := by cases v <;> first | rfl | exact absurd rfl (hna _) | exact absurd rfl (hnt _)
    rw [hc] at hr
    simp only [RepL] at hr
    obtain ⟨u, us, he, hr, rfl⟩ := hr
    simp at he
    rw [he]; exact hr
  split at hty
  · rename_i hu
    rw [hu] at hval
    refine leaf ?_ ?_ h3 <;> (rintro cs rfl; simp [Cell.okWide, Cell.ok, hu] at hval)
  · rename_i k k' hu
    rw [hu] at hval
    refine leaf ?_ ?_ h3 <;> (rintro cs rfl; simp [Cell.okWide, Cell.ok, hu] at hval)
  · rename_i hu
    rw [hu] at hval
    refine leaf ?_ ?_ h3 <;> (rintro cs rfl; simp [Cell.okWide, Cell.ok, hu] at hval)
  · rename_i e hu
    rw [hu] at hval
    refine leaf ?_ ?_ h3 <;> (rintro cs rfl; simp [Cell.okWide, Cell.ok, hu] at hval)
  · rename_i e ty' hu
    rw [hu] at hval
    refine leaf ?_ ?_ h3 <;> (rintro cs rfl; simp [Cell.okWide, Cell.ok, hu] at hval)
  · rename_i tyA _ ty0 fs hu
    rw [hu] at hval
    obtain ⟨cs, rfl, _, _⟩ := hval
    have he : (Value.agg cs).cells = cs := rfl
    rw [he] at h3
    cases tyA with
    | unit => simp only [Ty.arg, Rep]; exact ⟨cs, rfl, h3⟩
    | pair a b => simp only [Ty.arg, Rep]; exact ⟨cs, rfl, h3⟩
    | _ => cases fs.toList <;> simp [isFs] at hty
  · cases hty
def isTys (P : Program) : Ty → List TypeId → Bool
  | .unit, [] => true
  | .pair a b, t :: ts => isTy P 20 a t && isTys P b ts
  | _, _ => false
theorem trod_args {base : Nat} : ∀ (ty : Ty) (ts : List TypeId) (vs : List Value) (ds : List (DataW H)) (ps : List MemPlace), isTys P ty ts = true → (∀ (j : Nat) t v, ts[j]? = some t → vs[j]? = some v → Value.okWide P w .any base t v) →
    DataW.TrodAll enc P w 0 (fun _ => true) true ts vs ds ps → ∃ y : ty.V, ty.ok y ∧ ty.bulk y ≤ B.all ds ∧ RepL (Gh.start w) (ty.args y) vs
  | .unit, [], [], [], ps, _, _, _ => ⟨(), trivial, Nat.zero_le _, by simp only [Ty.args, RepL]⟩
  | .unit, [], _ :: _, _, ps, _, _, h => by simp [DataW.TrodAll] at h
  | .unit, [], [], _ :: _, ps, _, _, h => by simp [DataW.TrodAll] at h
  | .pair a b, t :: ts, [], ds, ps, _, _, h => by simp [DataW.TrodAll] at h
  | .pair a b, t :: ts, v :: vs, [], ps, _, _, h => by simp [DataW.TrodAll] at h
  | .pair a b, t :: ts, v :: vs, d :: ds, ps, hty, hval, h => by
    simp only [isTys, Bool.and_eq_true] at hty
    obtain ⟨p, q, h1, h2, _⟩ := h
    obtain ⟨y, a1, a2, a3⟩ := trod_arg B hty.1 (hval 0 t v rfl rfl) h1
    obtain ⟨z, b1, b2, b3⟩ := trod_args b ts vs ds q hty.2 (fun j t' v' ht hv => hval (j + 1) t' v' (by simpa using ht) (by simpa using hv)) h2
    refine ⟨(y, z), ⟨a1, b1⟩, ?_, ?_⟩
    · simp only [Ty.bulk, B.all1]; omega
    · simp only [Ty.args, RepL]; exact ⟨v, vs, rfl, a3, b3⟩
  | .unit, _ :: _, _, _, _, hty, _, _ => by simp [isTys] at hty
  | .pair _ _, [], _, _, _, hty, _, _ => by simp [isTys] at hty
  | .bool, [], _, _, _, hty, _, _ => by simp [isTys] at hty
  | .bool, _ :: _, _, _, _, hty, _, _ => by simp [isTys] at hty
  | .int _, [], _, _, _, hty, _, _ => by simp [isTys] at hty
  | .int _, _ :: _, _, _, _, hty, _, _ => by simp [isTys] at hty
  | .str, [], _, _, _, hty, _, _ => by simp [isTys] at hty
  | .str, _ :: _, _, _, _, hty, _, _ => by simp [isTys] at hty
  | .bys, [], _, _, _, hty, _, _ => by simp [isTys] at hty
  | .bys, _ :: _, _, _, _, hty, _, _ => by simp [isTys] at hty
  | .sl _, [], _, _, _, hty, _, _ => by simp [isTys] at hty
  | .sl _, _ :: _, _, _, _, hty, _, _ => by simp [isTys] at hty
theorem trodAll_lens {W : World} {b : Nat} {sp : Nat → Bool} {hd : Bool} : ∀ (ts : List TypeId) (vs : List Value) (ds : List (DataW H)) (ps : List MemPlace), DataW.TrodAll enc P W b sp hd ts vs ds ps → vs.length = ts.length ∧ ds.length = ts.length
  | [], [], [], _, _ => ⟨rfl, rfl⟩
  | t :: ts, v :: vs, d :: ds, ps, ⟨p, q, _, h2, _⟩ => by have := trodAll_lens ts vs ds q h2; simp [this]
  | [], [], _ :: _, _, h => h.elim
  | [], _ :: _, _, _, h => h.elim
  | _ :: _, [], _, _, h => h.elim
  | _ :: _, _ :: _, [], _, h => h.elim
theorem trodAll_stays (hl : laidOutB P = true) (hz : ∀ t e, t < P.types.size → P.underlying t = some (.slice e) → 0 < P.cellsOf e) (hm : mapsRowed P = true) {W W' : World} (hb : Below W.heap.size W W') {sp : Nat → Bool} {ts : List TypeId} {vs : List Value} {ds : List (DataW H)} {ps : List MemPlace}
    (hrow : ∀ t ∈ ts, t < P.types.size) (h : DataW.TrodAll enc P W 0 (fun _ => true) true ts vs ds ps) (hlt : ∀ x ∈ ps, x.block < W.heap.size) (hs : ∀ x ∈ ps, sp x.block = true) : DataW.TrodAll enc P W' 0 sp true ts vs ds ps := by
  have h' : DataW.TrodAll enc P W' 0 (fun _ => true) true ts vs ds ps := by
    clear hs hrow
    induction ts generalizing vs ds ps with
    | nil => cases vs <;> cases ds <;> first | exact h | exact h.elim
    | cons t ts ih =>
      cases vs with
      | nil => exact h.elim
      | cons v vs =>
        cases ds with
        | nil => exact h.elim
        | cons d ds =>
          obtain ⟨p, q, ⟨n, h1⟩, h2, rfl⟩ := h
          exact ⟨p, q, ⟨n, DataW.trod_carry n t _ _ h1 fun x hx => hb.same (hlt x (List.mem_append_left _ hx))⟩, ih h2 fun x hx => hlt x (List.mem_append_right _ hx), rfl⟩
  exact DataW.TrodAll.respare (kids_rows hl hm) hz hrow h' hs
open Go.ChangeShapes Go.WideShapes in
theorem law_contract {f : FuncId} {fn : Func} {s : ChangeSpec} {ty : Ty} {tb : TypeId} {bound : Nat} (hts : isTys P ty fn.params.toList = true) (hrow : ∀ t ∈ fn.params.toList, t < P.types.size)
    (hvars : s.vars = []) (hfn : ∀ ds : List (DataW H), ds.length = fn.params.toList.length → s.fn H ds = { results := [.lit (.bool true)], args := ds })
    (hres : fn.resultTypes = #[tb]) (hub : P.underlying tb = some .bool) (hl : laidOutB P = true) (hz : ∀ t e, t < P.types.size → P.underlying t = some (.slice e) → 0 < P.cellsOf e) (hm : mapsRowed P = true)
    (hc : ∀ y : ty.V, ty.ok y → ty.bulk y ≤ bound → ACalls P f (ty.args y) AHeap.empty fun r _ => r = .raw (.bool true))
    {ap fr ho ag : Bool} (W : World) (base : Nat) (args : Array Value) (ds gs : List (DataW H)) (before : List MemPlace)
    (hval : ∀ (j : Nat) t v, fn.params[j]? = some t → args[j]? = some v → Value.okWide P W .any base t v)
    (hW : DataW.Whole enc P fn.params.toList s.vars ap W args.toList ds gs before) (hk : B.all (ds ++ gs) ≤ bound) :
    Calls P f args W fun e W' => ∃ v, e = .returned v ∧ s.post enc P fn ap fr ho ag W args v W' := by
  have hW' := hW
  obtain ⟨p, q, hA, hV, rfl, hfz, hnd⟩ := hW
  rw [hvars] at hV
  obtain ⟨rfl, rfl⟩ := trodVars_none hV
  rw [List.append_nil] at hk
  have hlt : ∀ x ∈ p ++ [], x.block < W.heap.size := fun x hx => hW'.lt x hx
  obtain ⟨y, h1, h2, h3⟩ := trod_args B ty _ _ _ _ hts (fun j t v ht hv => hval j t v (by simpa using ht) (by simpa using hv)) hA
  refine ((hc y h1 (by omega)).below h3).mono fun e W' ⟨he, hg⟩ => ?_
  subst he
  obtain ⟨hlen1, hlen2⟩ := trodAll_lens _ _ _ _ hA
  have hfn' := hfn (ds ++ []) (by simpa using hlen2)
  refine ⟨_, rfl, post_kept (pa := p) (pv := []) hW' ?_ ?_ ?_ rfl hg ?_⟩
  · intro b sp hd
    rw [hfn', hres]
    exact trodAll_cons_mk (shut_bool hub _) trodAll_mk0
  · intro sp hsp
    rw [hfn']
    simp only [List.append_nil]
    exact trodAll_stays hl hz hm hg hrow hA (fun x hx => hlt x (by simpa using hx)) fun x hx => hsp x (by simpa using hx)
  · intro sp hsp
    rw [hfn', hvars]
    rfl
  · exact ok_one hres rfl (okWide_bool_mk hub _)
end
end Go.Am
