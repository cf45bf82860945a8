/-
  The abstract machine: slices of slices, elements, new variables, stores, strings, tuples. No program in sight.
-/
import Derived.Test.YtbciofnejefkiaaAmApp
set_option linter.unusedSimpArgs false
set_option linter.unusedVariables false
namespace Go.Am
open Go
class ArrT (P : Program) (t : TypeId) (len sz : outParam Nat) : Prop where
  h : ∃ e, P.underlying t = some (.array len e) /\ ∀ w, (sizeOf e).run P w = .ok sz w
section
variable {P : Program} {n : Nat} {K : Exit -> Regs -> AHeap -> Prop} {R : Regs} {H : AHeap} {ops : Array Oper} {rest : List Oper} {ty : TypeId} {d : Tmp} {pos : String} {af : Array Edge}
theorem abg {t e sz bytes : Nat} {z : Value} [hT : SliceT P t e sz bytes z] {b off len cap : Nat} {k : IntKind} {i : Nat} (hi : i < len) (w : World) :
    (Instr.indexAt t (.slice (some ⟨b, off, none⟩) len cap) (.int k (i : Int))).run P w = .ok (.pointer (some ⟨b, off + i * sz, none⟩)) w := by
  obtain ⟨inf, h1, h2, h3, h4⟩ := hT.info; have hi' : ¬ len <= i := by omega
  simp [Instr.indexAt, run_underlying hT.h, asIntOf, hi', sizeOf, typeInfo, h1, h3, qd]
theorem xe {t e sz bytes : Nat} {z : Value} [hT : SliceT P t e sz bytes z] {x y : Operand} {bs : List UInt8} {k : IntKind} {i : Nat} {zi : Int} [ni : NatOf zi i] (hx : am R x = .bys bs) (hy : am R y = .raw (.int k zi)) (hi : i < bs.length) (h1 : sz = 1) :
    Stp P n (.indexAddr t x y) ty R H (.pby bs i) := by
  cases ni.h
  exact du fun o ho ht g a w hp => by
    have hv := rv hp hx; have hu := rv hp hy; subst h1; simp only [Rep] at hv hu; rcases hv with ⟨rfl, _⟩ | ⟨b, off, cap, c, e', fz, he, h2, h3, h4⟩
    · simp at hi
    · exact ⟨_, by simp [execOp, ho, he, hu, abg (P := P) (t := t) (i := i) hi]; rfl, by simp only [Rep]; exact ⟨b, off, c, e', fz, by simp, h3, h4⟩⟩
theorem ack {t e sz bytes : Nat} {z : Value} [hT : SliceT P t e sz bytes z] {x y : Operand} {m : Nat} {xs : List AV} {k : IntKind} {i : Nat} {zi : Int} [ni : NatOf zi i] (hx : am R x = .sls m xs) (hy : am R y = .raw (.int k zi)) (hi : i < m) :
    Stp P n (.indexAddr t x y) ty R H (.pce xs (i * sz)) := by
  cases ni.h
  exact du fun o ho ht g a w hp => by
    have hv := rv hp hx; have hu := rv hp hy; simp only [Rep] at hv hu; rcases hv with ⟨rfl, _⟩ | ⟨b, off, cap, c, e', fz, he, h2, h3, h4⟩
    · simp at hi
    · exact ⟨_, by simp [execOp, ho, he, hu, abg (P := P) (t := t) (i := i) hi]; rfl, by simp only [Rep]; exact ⟨b, off, c, e', fz, rfl, h3, h4⟩⟩
theorem vv {t e sz bytes : Nat} {z : Value} [hT : SliceT P t e sz bytes z] {x y : Operand} {ob s off len : Nat} {k : IntKind} {i : Nat} {zi : Int} [ni : NatOf zi i] (hx : am R x = .vw ob s off len) (hy : am R y = .raw (.int k zi)) (hi : i < len) :
    Stp P n (.indexAddr t x y) ty R H (.ptr ob (off + i * sz)) := by
  cases ni.h
  exact du fun o ho ht g a w hp => by
    have hv := rv hp hx; have hu := rv hp hy; simp only [Rep] at hv hu; rcases hv with ⟨l, cap, hl, he, _⟩ | ⟨rfl, _⟩
    · exact ⟨_, by simp [execOp, ho, he, hu, abg (P := P) (t := t) (i := i) hi]; rfl, by simp only [Rep]; exact ⟨l, hl, by rw [Nat.add_assoc]⟩⟩
    · simp at hi
theorem amx {t : TypeId} [hT : StrT P t] {x y : Operand} {bs : List UInt8} {k : IntKind} {i : Nat} {zi : Int} [ni : NatOf zi i] (hx : am R x = .str bs) (hy : am R y = .raw (.int k zi)) (hi : i < bs.length) :
    Stp P n (.index t x y) ty R H (.raw (.int .u8 ((bs.getD i 0).toNat : Int))) := by
  cases ni.h
  exact du fun o ho ht g a w hp => by
    have hv := rv hp hx; have hu := rv hp hy; simp only [Rep] at hv hu
    have hb : (ByteArray.mk bs.toArray)[i]? = some (bs.getD i 0) := by
      rw [getElem?_pos (ByteArray.mk bs.toArray) i (by rw [acy]; exact hi)]
      simp [List.getD, List.getElem?_eq_getElem hi]
      rfl
    exact ⟨.int .u8 ((bs.getD i 0).toNat : Int), by simp only [execOp, ho, hv, hu, Instr.index, asIntOf, Sem.run_bind, Sem.run_pure, Result.andThen_ok, run_underlying hT.h, show (0 : Int) <= (i : Int) from by omega, if_true, Int.toNat_natCast, hb], by simp only [Rep]⟩
theorem amo {t e sz bytes : Nat} {z : Value} [hT : SliceT P t e sz bytes z] (a : Option Addr) (len cap lo hi : Nat) (kl kh : IntKind) (L H' : Option Value) (hL : L = some (.int kl (lo : Int)) \/ (L = none /\ lo = 0)) (hH : H' = some (.int kh (hi : Int)) \/ (H' = none /\ hi = len)) (h1 : lo <= hi) (h2 : hi <= cap) (w : World) :
    (Instr.sliceAt t (.slice a len cap) L H' none).run P w = .ok (.slice (if cap = lo then a else a.map (·.add (lo * sz))) (hi - lo) (cap - lo)) w := by
  obtain ⟨inf, k1, k2, k3, k4⟩ := hT.info; have hhi : ¬ cap < hi := by omega
  rcases hL with rfl | ⟨rfl, rfl⟩ <;> rcases hH with rfl | ⟨rfl, rfl⟩ <;>
    simp [Instr.sliceAt, Instr.slice, run_underlying hT.h, Instr.sliceBounds, Instr.sliceBound, asIntOf, hhi, sizeOf, typeInfo, k1, k3, h1]
def Bnd (R : Regs) (o : Option Operand) (dflt k : Nat) : Prop := (o = none /\ k = dflt) \/ ∃ y kd, o = some y /\ am R y = .raw (.int kd (k : Int))
theorem zx (R : Regs) (k : Nat) : Bnd R none k k := .inl ⟨rfl, rfl⟩
theorem aq8 {R : Regs} {y : Operand} {kd : IntKind} {dflt k : Nat} {z : Int} [nz : NatOf z k] (h : am R y = .raw (.int kd z)) : Bnd R (some y) dflt k := .inr ⟨y, kd, rfl, by rw [h, nz.h]⟩
theorem abu {g : Gh} {a : Act} {w : World} (hp : Pre n R H g a w) {o : Option Operand} {dflt k : Nat} (h : Bnd R o dflt k) : ∃ kd, o.map a.eval = some (.int kd (k : Int)) \/ (o.map a.eval = none /\ k = dflt) := by
  rcases h with ⟨rfl, rfl⟩ | ⟨y, kd, rfl, hy⟩
  · exact ⟨.i64, .inr ⟨rfl, rfl⟩⟩
  · have := rv hp hy
    simp only [Rep] at this; exact ⟨kd, .inl (by simp [this])⟩
theorem ta {t e sz bytes : Nat} {z : Value} [hT : SliceT P t e sz bytes z] {g : Gh} {a : Act} {w : World} (hp : Pre n R H g a w) {ol oh : Option Operand} {ad : Option Addr} {len cap lo hi : Nat} (hl : Bnd R ol 0 lo) (hh : Bnd R oh len hi) (h1 : lo <= hi) (h2 : hi <= cap) :
    (Instr.sliceAt t (.slice ad len cap) (ol.map a.eval) (oh.map a.eval) none).run P w = .ok (.slice (if cap = lo then ad else ad.map (·.add (lo * sz))) (hi - lo) (cap - lo)) w := by
  obtain ⟨kl, hl'⟩ := abu hp hl; obtain ⟨kh, hh'⟩ := abu hp hh; exact amo ad len cap lo hi kl kh _ _ hl' hh' h1 h2 w
theorem abh {t e sz bytes : Nat} {z : Value} [hT : SliceT P t e sz bytes z] {x : Operand} {ol oh : Option Operand} {bs : List UInt8} {lo hi : Nat} (hx : am R x = .bys bs) (hl : Bnd R ol 0 lo) (hh : Bnd R oh bs.length hi) (h1 : lo <= hi) (h2 : hi <= bs.length) (hz : sz = 1) :
    Stp P n (.slice t x ol oh none) ty R H (.bys ((bs.drop lo).take (hi - lo))) :=
  du fun o ho ht g a w hp => by
    have hv := rv hp hx; subst hz; simp only [Rep] at hv; rcases hv with ⟨rfl, ad, cap, he⟩ | ⟨b, off, cap, c, e', fz, he, h3, h4, h5⟩
    · have hr := ta (P := P) (t := t) (ad := ad) (cap := cap) hp hl hh h1 (by simp at h2; omega)
      simp only [List.length_nil] at hr
      exact ⟨_, by simp only [execOp, ho, he, Sem.run_bind, hr, Result.andThen_ok, Sem.run_pure, Option.map_none]; rfl, by
        simp only [Rep]; exact .inl ⟨by simp, _, _, by simp at h2; rw [show hi - lo = 0 from by omega]⟩⟩
    · have hr := ta (P := P) (t := t) (ad := some ⟨b, off, none⟩) (cap := cap) hp hl hh h1 (by omega)
      refine ⟨_, by simp only [execOp, ho, he, Sem.run_bind, hr, Result.andThen_ok, Sem.run_pure, Option.map_none]; rfl, ?_⟩
      simp only [Rep]; by_cases h0 : hi - lo = 0
      · exact .inl ⟨by simp [h0], _, _, by rw [h0]⟩
      · refine .inr ⟨b, off + lo, cap - lo, c, e', fz, ?_, by simp; omega, h4, af7 (aa3 h5 lo) _⟩
        rw [if_neg (by omega)]
        simp [qd]
        omega
theorem vz {t e sz bytes : Nat} {z : Value} [hT : SliceT P t e sz bytes z] {x : Operand} {ol oh : Option Operand} {m : Nat} {xs : List AV} {lo hi : Nat} (hx : am R x = .sls m xs) (hl : Bnd R ol 0 lo) (hh : Bnd R oh m hi) (h1 : lo <= hi) (h2 : hi <= m) :
    Stp P n (.slice t x ol oh none) ty R H (.sls (hi - lo) ((xs.drop (lo * sz)).take ((hi - lo) * sz))) :=
  du fun o ho ht g a w hp => by
    have hv := rv hp hx; simp only [Rep] at hv; rcases hv with ⟨rfl, rfl, ad, cap, he⟩ | ⟨b, off, cap, c, e', fz, he, h3, h4, h5⟩
    · have hr := ta (P := P) (t := t) (ad := ad) (cap := cap) hp hl hh h1 (by omega)
      exact ⟨_, by simp only [execOp, ho, he, Sem.run_bind, hr, Result.andThen_ok, Sem.run_pure, Option.map_none]; rfl, by
        simp only [Rep]; exact .inl ⟨by omega, by simp, _, _, by rw [show hi - lo = 0 from by omega]⟩⟩
    · have hr := ta (P := P) (t := t) (ad := some ⟨b, off, none⟩) (cap := cap) hp hl hh h1 (by omega)
      refine ⟨_, by simp only [execOp, ho, he, Sem.run_bind, hr, Result.andThen_ok, Sem.run_pure, Option.map_none]; rfl, ?_⟩
      simp only [Rep]; by_cases h0 : hi - lo = 0
      · exact .inl ⟨h0, by simp [h0], _, _, by rw [h0]⟩
      · refine .inr ⟨b, off + lo * sz, cap - lo, c, e', fz, ?_, by omega, h4, tx (qv h5 _) _⟩
        rw [if_neg (by omega)]
        simp [qd]
theorem xz {t e sz bytes : Nat} {z : Value} [hT : SliceT P t e sz bytes z] {x : Operand} {ol oh : Option Operand} {ob off m lo hi : Nat} (hx : am R x = .vw ob sz off m) (hl : Bnd R ol 0 lo) (hh : Bnd R oh m hi) (h1 : lo <= hi) (h2 : hi <= m) :
    Stp P n (.slice t x ol oh none) ty R H (.vw ob sz (off + lo * sz) (hi - lo)) :=
  du fun o ho ht g a w hp => by
    have hv := rv hp hx; simp only [Rep] at hv; rcases hv with ⟨l, cap, h3, he, h4, h5⟩ | ⟨rfl, ad, he⟩
    · have hr := ta (P := P) (t := t) (ad := some ⟨l.blk, l.base + off, none⟩) (cap := cap) hp hl hh h1 (by omega)
      refine ⟨_, by simp only [execOp, ho, he, Sem.run_bind, hr, Result.andThen_ok, Sem.run_pure, Option.map_none]; rfl, ?_⟩
      simp only [Rep]; by_cases h0 : cap = lo
      · exact .inr ⟨by omega, some ⟨l.blk, l.base + off, none⟩, by rw [if_pos h0, show hi - lo = 0 from by omega, show cap - lo = 0 from by omega]⟩
      · refine .inl ⟨l, cap - lo, h3, ?_, by omega, ?_⟩
        · rw [if_neg h0]
          simp [qd, Nat.add_assoc]
        · have : cap * sz = lo * sz + (cap - lo) * sz := by rw [<- Nat.add_mul]; congr 1; omega
          omega
    · have hr := ta (P := P) (t := t) (ad := ad) (cap := 0) hp hl hh h1 (by omega)
      refine ⟨_, by simp only [execOp, ho, he, Sem.run_bind, hr, Result.andThen_ok, Sem.run_pure, Option.map_none]; rfl, ?_⟩
      simp only [Rep]; exact .inr ⟨by omega, _, by rw [show hi - lo = 0 from by omega, show 0 - lo = 0 from by omega]⟩
theorem ad2 {t e sz bytes : Nat} {z : Value} [hT : SliceT P t e sz bytes z] {g : Gh} {a : Act} {w : World} (hp : Pre n R H g a w) {ol oh om : Option Operand} {ad : Option Addr} {len cap lo hi : Nat} (hl : Bnd R ol 0 lo) (hh : ∃ y kd, oh = some y /\ am R y = .raw (.int kd (hi : Int))) (hm : ∃ y kd, om = some y /\ am R y = .raw (.int kd (hi : Int))) (h1 : lo <= hi) (h2 : hi <= cap) :
    (Instr.sliceAt t (.slice ad len cap) (ol.map a.eval) (oh.map a.eval) (om.map a.eval)).run P w = .ok (.slice (if hi = lo then ad else ad.map (·.add (lo * sz))) (hi - lo) (hi - lo)) w := by
  obtain ⟨kl, hl'⟩ := abu hp hl; obtain ⟨y1, k1, rfl, e1⟩ := hh; obtain ⟨y2, k2, rfl, e2⟩ := hm; have v1 := rv hp e1; have v2 := rv hp e2; simp only [Rep] at v1 v2; obtain ⟨inf, i1, i2, i3, i4⟩ := hT.info; have hhi : ¬ cap < hi := by omega
  rcases hl' with hl' | ⟨hl', rfl⟩ <;> rw [hl'] <;>
    simp [v1, v2, Instr.sliceAt, Instr.slice, run_underlying hT.h, Instr.sliceBounds, Instr.sliceBound, asIntOf, hhi, sizeOf, typeInfo, i1, i3, h1]
end
end Go.Am
