/-
  The abstract machine: more rules. No program in sight.
-/
import Derived.Test.YtbciofnejefkiaaAmDraw
set_option linter.unusedSimpArgs false
set_option linter.unusedVariables false
namespace Go.Am
open Go
section
variable {P : Program} {n : Nat} {K : Exit → Regs → AHeap → Prop} {R : Regs} {H : AHeap} {ops : Array Oper} {rest : List Oper} {ty : TypeId} {d : Tmp} {pos : String} {af : Array Edge} {t t2 : TypeId} {x y s : Operand} {bv : AV} {m e sz bytes : Nat} {z : Value}

theorem eqL_nil : ([] : List AV) = [] := rfl
theorem eqL_cons {x y : AV} {xs ys : List AV} (h : x = y) (h2 : xs = ys) : x :: xs = y :: ys := by rw [h, h2]
/-- A literal of a struct, its parts first. -/
theorem s_buildv {pl : List (Nat × Nat)} {zs : List Value} [hB : BuildT P t pl zs] {parts : Array (Nat × Operand)} {vs xs : List AV} (hv : (parts.toList.map fun p => reval R p.2) = vs)
    (hx : afill pl (zs.map .raw) ((parts.toList.map (·.1)).zip vs) = some xs) : Stp P n (.build t parts) ty R H (.agg xs) := by
  refine s_build ?_
  rw [← hx, ← hv]
  congr 1
  generalize parts.toList = l
  induction l with
  | nil => rfl
  | cons p l ih => simp only [List.map_cons, List.zip_cons_cons, ih]

/-- A literal of a slice, its parts first; it is not written again. -/
theorem s_buildSlicev {len : Nat} [hT : SliceT P t e sz bytes z] {ps : Array (Nat × Operand)} {vs ys : List AV} (hv : (ps.toList.map fun p => reval R p.2) = vs) (hi : ps.toList.map (·.1) = List.range vs.length) (hlen : vs.length = len)
    (hx : (vs.all fun x => x.parts.all AV.one1 && x.parts.length == sz) = true) (hys : vs.flatMap AV.parts = ys) (hsmall : len * sz ≤ 16777216) : Stp P n (.buildSlice t len ps) ty R H (.slsx len ys) :=
  s_buildSlice (hT := hT) ⟨hi, hv⟩ hlen (fun x h => by have := List.all_eq_true.1 hx x h; simp only [Bool.and_eq_true, beq_iff_eq] at this; exact this) hys hsmall
theorem srcA_vwb {H : AHeap} {o off len : Nat} {a : List UInt8} (hx : H o = some (.byt a)) (hl : off + len * 1 ≤ a.length) : SrcA H (.vw o 1 off len) len 1 (.byt ((a.drop off).take (len * 1))) := srcA_vw H o 1 off len (.byt a) hx (fun _ h => by cases h) hl
theorem srcA_vwc {H : AHeap} {o sz off len : Nat} {a : List AV} (hx : H o = some (.cel a)) (hl : off + len * sz ≤ a.length) : SrcA H (.vw o sz off len) len sz (.cel ((a.drop off).take (len * sz))) := srcA_vw H o sz off len (.cel a) hx (fun _ h => by cases h) hl
theorem emp_base : ∀ g v, Rep g .emp v → ∃ base, v = .slice base 0 0 := fun g v h => by simp only [Rep] at h; exact h
theorem nil_base : ∀ g v, Rep g (.raw (.slice none 0 0)) v → ∃ base, v = .slice base 0 0 := fun g v h => by simp only [Rep] at h; exact ⟨none, h⟩

/-- 'append' on nothing: an object of its own. -/
theorem awl_own_emp_byt [hT : SliceT P t e 1 bytes z] [h2 : NotIntT P t2] {bs : List UInt8} (hdn : Nat.blt d n = true) (hs : reval R s = .emp) (hx : reval R x = bv) (hb : SrcA H bv m 1 (.byt bs)) (h63 : m ≤ 9223372036854775807) (hby : m * bytes ≤ 140737488355328)
    (hk : ∀ o', H o' = none → AWL P n ops rest K ((d, .vw o' 1 0 m) :: R) (H.set o' (.byt bs))) : AWL P n ops (⟨some d, .call { callee := .builtin .append, args := #[s, x], argTypes := #[t, t2] }, ty, pos, af, none⟩ :: rest) K R H :=
  awl_append_0 (hT := hT) hdn hs hx emp_base hb (fun _ h => by cases h) h63 hby hk
theorem awl_own_emp_cel [hT : SliceT P t e sz bytes z] [h2 : NotIntT P t2] {xs : List AV} (hdn : Nat.blt d n = true) (hs : reval R s = .emp) (hx : reval R x = bv) (hb : SrcA H bv m sz (.cel xs)) (h63 : m ≤ 9223372036854775807) (hby : m * bytes ≤ 140737488355328)
    (hk : ∀ o', H o' = none → AWL P n ops rest K ((d, .vw o' sz 0 m) :: R) (H.set o' (.cel xs))) : AWL P n ops (⟨some d, .call { callee := .builtin .append, args := #[s, x], argTypes := #[t, t2] }, ty, pos, af, none⟩ :: rest) K R H :=
  awl_append_0 (hT := hT) hdn hs hx emp_base hb (fun _ h => by cases h) h63 hby hk
theorem awl_own_nil_cel [hT : SliceT P t e sz bytes z] [h2 : NotIntT P t2] {xs : List AV} (hdn : Nat.blt d n = true) (hs : reval R s = .raw (.slice none 0 0)) (hx : reval R x = bv) (hb : SrcA H bv m sz (.cel xs)) (h63 : m ≤ 9223372036854775807) (hby : m * bytes ≤ 140737488355328)
    (hk : ∀ o', H o' = none → AWL P n ops rest K ((d, .vw o' sz 0 m) :: R) (H.set o' (.cel xs))) : AWL P n ops (⟨some d, .call { callee := .builtin .append, args := #[s, x], argTypes := #[t, t2] }, ty, pos, af, none⟩ :: rest) K R H :=
  awl_append_0 (hT := hT) hdn hs hx nil_base hb (fun _ h => by cases h) h63 hby hk

theorem wrap_unsgz {k : IntKind} {m : Nat} [hk : Unsg k m] (a : Nat) : k.wrap (0 - (a : Int)) = (((2 ^ m - a % 2 ^ m) % 2 ^ m : Nat) : Int) := by
  obtain ⟨h1, h2⟩ := hk
  have hp : 0 < 2 ^ m := Nat.two_pow_pos m
  have e : k.wrap (0 - (a : Int)) = (0 - (a : Int)) % ((2 ^ m : Nat) : Int) := by simp [IntKind.wrap, h1, h2]
  have hr := Nat.mod_lt a hp
  have hd := Nat.div_add_mod a (2 ^ m)
  generalize 2 ^ m = M at *
  rw [e]
  by_cases h0 : a % M = 0
  · rw [h0, Nat.sub_zero, Nat.mod_self]
    have : (M : Int) ∣ (0 - (a : Int)) := by
      rw [Int.zero_sub]
      exact Int.dvd_neg.2 (Int.natCast_dvd_natCast.2 (Nat.dvd_of_mod_eq_zero h0))
    rw [Int.emod_eq_zero_of_dvd this]; rfl
  · rw [Nat.mod_eq_of_lt (show M - a % M < M by omega)]
    have : (0 - (a : Int)) = ((M - a % M : Nat) : Int) + (M : Int) * (-(a / M : Nat) - 1) := by
      rw [Int.mul_sub, Int.mul_neg, ← Int.natCast_mul]
      omega
    rw [this, Int.add_mul_emod_self_left]
    exact Int.emod_eq_of_lt (by omega) (by omega)
theorem compl_unsg {k : IntKind} {m : Nat} [hk : Unsg k m] {a : Nat} (h : a < 2 ^ m) : bits .xor k (if k.signed then -1 else k.max) (a : Int) = ((2 ^ m - 1 - a : Nat) : Int) := by
  obtain ⟨h1, h2⟩ := hk
  have hp : 0 < 2 ^ m := Nat.two_pow_pos m
  have hmx : k.max = ((2 ^ m - 1 : Nat) : Int) := by
    rw [Int.natCast_sub hp]
    simp [IntKind.max, h1, h2]
  rw [h1, if_neg (by simp), hmx, bits_le .xor k (.inr (.inr rfl)) h1 h2 (by omega) h]
  congr 1
  have := congrArg BitVec.toNat (BitVec.allOnes_xor (x := BitVec.ofNat m a))
  rw [BitVec.toNat_xor, BitVec.toNat_not, BitVec.toNat_allOnes, BitVec.toNat_ofNat, Nat.mod_eq_of_lt h] at this
  exact this
theorem s_negm {k : IntKind} {m : Nat} [hk : Unsg k m] {za : Int} {a : Nat} [na : NatOf za a] (hx : reval R x = .raw (.int k za)) : Stp P n (.unOp .neg t x) ty R H (.raw (.int k (((2 ^ m - a % 2 ^ m) % 2 ^ m : Nat) : Int))) := by
  cases na.h
  have := s_neg (P := P) (n := n) (H := H) (ty := ty) (t := t) hx
  rwa [wrap_unsgz (k := k) (m := m)] at this
theorem s_complm {k : IntKind} {m : Nat} [hk : Unsg k m] {za : Int} {a : Nat} [na : NatOf za a] (hx : reval R x = .raw (.int k za)) (h : a < 2 ^ m) : Stp P n (.unOp .xor t x) ty R H (.raw (.int k ((2 ^ m - 1 - a : Nat) : Int))) := by
  cases na.h
  have := s_compl (P := P) (n := n) (H := H) (ty := ty) (t := t) hx
  rwa [compl_unsg (k := k) (m := m) h] at this
theorem s_neg64 {a : Int} (hx : reval R x = .raw (.int .i64 a)) (h1 : -9223372036854775807 ≤ a) (h2 : a ≤ 9223372036854775807) : Stp P n (.unOp .neg t x) ty R H (.raw (.int .i64 (-a))) := by
  have := s_neg (P := P) (n := n) (H := H) (ty := ty) (t := t) hx
  rwa [Int.zero_sub, wrap_i64_id (by omega) (by omega)] at this
/-- 'append' of something on a slice without room: an object of its own. -/
theorem awl_own_x [hT : SliceT P t e sz bytes z] [h2 : NotIntT P t2] {av : AV} {k : Nat} {xd xs : AO} (hdn : Nat.blt d n = true)
    (hs : reval R s = av) (hx : reval R x = bv) (hd : SrcA H av k sz xd) (hdx : ∀ g v, Rep g av v → ∃ base, v = .slice base k k) (hb : SrcA H bv m sz xs) (hl : xd.like xs) (h0 : 0 < m)
    (h63 : k + m ≤ 9223372036854775807) (hby : (k + m) * bytes ≤ 140737488355328) (hk : ∀ o', H o' = none → AWL P n ops rest K ((d, .vw o' sz 0 (k + m)) :: R) (H.set o' (xd.app xs))) :
    AWL P n ops (⟨some d, .call { callee := .builtin .append, args := #[s, x], argTypes := #[t, t2] }, ty, pos, af, none⟩ :: rest) K R H :=
  awl_step rfl rfl hdn fun g a w hp => by
    have hv := rv hp hs
    have hu := rv hp hx
    obtain ⟨base, he⟩ := hdx g _ hv
    have s1 := hd P g w _ hp.sim hv
    have s2 := hb P g w _ hp.sim hu
    obtain ⟨old, o1, o2, o3, o4⟩ := s1.cells
    obtain ⟨news, n1, n2, n3, n4⟩ := s2.cells
    rw [he] at o4
    obtain ⟨o', ho', hl'⟩ := hp.sim.fresh
    obtain ⟨cap, hc, hr⟩ := run_append_grow' (P := P) (t := t) (t2 := t2) (ty := ty) (sz := sz) (base := base) (sLen := k) (sCap := k) s2.lenOf n4 o4 (by omega) h63 hby
    generalize hc3 : (old ++ news ++ Builtin.zeroCells z.cells (cap - (k + m)) : Array Value) = c3 at hr
    have hn2 : RepC g (xd.app xs) c3 0 := hc3 ▸ o2.append o1 n2 n1 hl _
    have hcs : c3.size = cap * sz := by
      subst hc3
      simp only [Array.size_append, size_zeroCells, hT.c, n1, o1, s1.len, s2.len, ← Nat.add_mul]
      congr 1
      omega
    refine ⟨.slice (some ⟨w.heap.size, 0, none⟩) (k + m) cap, _, _, .vw o' sz 0 (k + m), _, ?_, g.le_at hl' ⟨w.heap.size, 0, c3.size⟩, ?_, hp.sim.new (w' := w.drew.alloc (.cells c3 e)) ⟨rfl, rfl, rfl⟩ rfl (unfrozen00 c3) hl' hn2, hk o' ho'⟩
    · simp only [execOp, resolve, invoke, builtin, Sem.run_bind, Sem.run_pure, Result.andThen_ok, List.map_toArray, List.map_cons, List.map_nil, he, hr]
    · simp only [Rep]
      exact .inl ⟨⟨w.heap.size, 0, c3.size⟩, cap, Gh.at_self _ _ _, rfl, hc, by simp; omega⟩

theorem bysx_base (bs : List UInt8) : ∀ g v, Rep g (.bysx bs) v → ∃ base, v = .slice base bs.length bs.length := fun g v h => by
  simp only [Rep] at h
  rcases h with ⟨rfl, a, rfl⟩ | ⟨b, off, c, e, fz, rfl, _⟩
  · exact ⟨a, rfl⟩
  · exact ⟨_, rfl⟩
theorem slsx_base (k : Nat) (xs : List AV) : ∀ g v, Rep g (.slsx k xs) v → ∃ base, v = .slice base k k := fun g v h => by
  simp only [Rep] at h
  rcases h with ⟨rfl, rfl, a, rfl⟩ | ⟨b, off, c, e, fz, rfl, _⟩
  · exact ⟨a, rfl⟩
  · exact ⟨_, rfl⟩
theorem awl_own_bysx_byt [hT : SliceT P t e 1 bytes z] [h2 : NotIntT P t2] {as bs : List UInt8} (hdn : Nat.blt d n = true) (hs : reval R s = .bysx as) (hx : reval R x = bv) (hb : SrcA H bv m 1 (.byt bs)) (h0 : 0 < m) (h63 : as.length + m ≤ 9223372036854775807) (hby : (as.length + m) * bytes ≤ 140737488355328)
    (hk : ∀ o', H o' = none → AWL P n ops rest K ((d, .vw o' 1 0 (as.length + m)) :: R) (H.set o' (.byt (as ++ bs)))) : AWL P n ops (⟨some d, .call { callee := .builtin .append, args := #[s, x], argTypes := #[t, t2] }, ty, pos, af, none⟩ :: rest) K R H :=
  awl_own_x (hT := hT) hdn hs hx (srcA_bysx H as) (bysx_base as) hb trivial h0 h63 hby hk

/-- A slice that is nothing, as an object of its own that holds nothing. -/
theorem aw_own_nil {c : Code} (i sz : Nat) (x : AO) (hv : x.void) (hi : rget R i = .raw (.slice none 0 0)) (h : ∀ o, H o = none → AW P n c K ((i, .vw o sz 0 0) :: R) (H.set o x)) : AW P n c K R H := fun g a w hp => by
  obtain ⟨o, ho, hl⟩ := hp.sim.fresh
  have hr := hp.regs i
  rw [hi] at hr
  simp only [Rep] at hr
  refine h o ho g a w ⟨hp.defers, hp.size, fun j => ?_, hp.sim.void hl hv⟩
  simp only [rget]
  split
  · rename_i hb
    rw [← Nat.eq_of_beq_eq_true hb, hr]
    simp only [Rep]
    exact .inr ⟨trivial, none, rfl⟩
  · exact hp.regs j

theorem awl_storeb {ob k a : Nat} {bs : List UInt8} {za : Int} [na : NatOf za a] [hC : CellT P t] (hx : reval R x = .ptr ob k) (hy : reval R y = .raw (.int .u8 za)) (hH : H ob = some (.byt bs)) (h1 : a < 2 ^ 8) (hk : k < bs.length)
    (hcont : AWL P n ops rest K R (H.set ob (.byt (bs.set k (UInt8.ofNat a))))) : AWL P n ops (⟨none, .store t x y, ty, pos, af, none⟩ :: rest) K R H := by
  cases na.h
  exact awl_storeByte hx hy hH (by omega) (by omega) hk (by rw [Int.toNat_natCast]; exact hcont)
end
end Go.Am
