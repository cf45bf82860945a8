/-
  The abstract machine: more rules. No program in sight.
-/
import Derived.Test.YtbciofnejefkiaaAmDraw
set_option linter.unusedSimpArgs false
set_option linter.unusedVariables false
namespace Go.Am
open Go
section
variable {P : Program} {n : Nat} {K : Exit -> Regs -> AHeap -> Prop} {R : Regs} {H : AHeap} {ops : Array Oper} {rest : List Oper} {ty : TypeId} {d : Tmp} {pos : String} {af : Array Edge} {t t2 : TypeId} {x y s : Operand} {bv : AV} {m e sz bytes : Nat} {z : Value}
theorem nq : ([] : List AV) = [] := rfl
theorem np {x y : AV} {xs ys : List AV} (h : x = y) (h2 : xs = ys) : x :: xs = y :: ys := by rw [h, h2]
theorem abv {pl : List (Nat × Nat)} {zs : List Value} [hB : BuildT P t pl zs] {parts : Array (Nat × Operand)} {vs xs : List AV} (hv : (parts.toList.map fun p => am R p.2) = vs)
    (hx : afill pl (zs.map .raw) ((parts.toList.map (·.1)).zip vs) = some xs) : Stp P n (.build t parts) ty R H (.agg xs) := by
  refine aku ?_; rw [<- hx, <- hv]
  congr 1
  generalize parts.toList = l
  induction l with
  | nil => rfl
  | cons p l ih => simp only [List.map_cons, List.zip_cons_cons, ih]
theorem zg {len : Nat} [hT : SliceT P t e sz bytes z] {ps : Array (Nat × Operand)} {vs ys : List AV} (hv : (ps.toList.map fun p => am R p.2) = vs) (hi : ps.toList.map (·.1) = List.range vs.length) (hlen : vs.length = len)
    (hx : (vs.all fun x => x.parts.all AV.one1 && x.parts.length == sz) = true) (hys : vs.flatMap AV.parts = ys) (hsmall : len * sz <= 16777216) : Stp P n (.buildSlice t len ps) ty R H (.slsx len ys) :=
  arh (hT := hT) ⟨hi, hv⟩ hlen (fun x h => by have := List.all_eq_true.1 hx x h; simp only [Bool.and_eq_true, beq_iff_eq] at this; exact this) hys hsmall
theorem aqd {H : AHeap} {o off len : Nat} {a : List UInt8} (hx : H o = some (.byt a)) (hl : off + len * 1 <= a.length) : SrcA H (.vw o 1 off len) len 1 (.byt ((a.drop off).take (len * 1))) := aa9 H o 1 off len (.byt a) hx (fun _ h => by cases h) hl
theorem ac1 {H : AHeap} {o sz off len : Nat} {a : List AV} (hx : H o = some (.cel a)) (hl : off + len * sz <= a.length) : SrcA H (.vw o sz off len) len sz (.cel ((a.drop off).take (len * sz))) := aa9 H o sz off len (.cel a) hx (fun _ h => by cases h) hl
theorem ai0 : ∀ g v, Rep g .emp v -> ∃ base, v = .slice base 0 0 := fun g v h => by simp only [Rep] at h; exact h
theorem ak0 : ∀ g v, Rep g (.raw (.slice none 0 0)) v -> ∃ base, v = .slice base 0 0 := fun g v h => by simp only [Rep] at h; exact ⟨none, h⟩
theorem ai8 [hT : SliceT P t e 1 bytes z] [h2 : NotIntT P t2] {bs : List UInt8} (hdn : Nat.blt d n = true) (hs : am R s = .emp) (hx : am R x = bv) (hb : SrcA H bv m 1 (.byt bs)) (h63 : m <= 9223372036854775807) (hby : m * bytes <= 140737488355328)
    (hk : ∀ o', H o' = none -> AWL P n ops rest K ((d, .vw o' 1 0 m) :: R) (H.set o' (.byt bs))) : AWL P n ops (⟨some d, .call { callee := .builtin .append, args := #[s, x], argTypes := #[t, t2] }, ty, pos, af, none⟩ :: rest) K R H :=
  adq (hT := hT) hdn hs hx ai0 hb (fun _ h => by cases h) h63 hby hk
theorem ada [hT : SliceT P t e sz bytes z] [h2 : NotIntT P t2] {xs : List AV} (hdn : Nat.blt d n = true) (hs : am R s = .emp) (hx : am R x = bv) (hb : SrcA H bv m sz (.cel xs)) (h63 : m <= 9223372036854775807) (hby : m * bytes <= 140737488355328)
    (hk : ∀ o', H o' = none -> AWL P n ops rest K ((d, .vw o' sz 0 m) :: R) (H.set o' (.cel xs))) : AWL P n ops (⟨some d, .call { callee := .builtin .append, args := #[s, x], argTypes := #[t, t2] }, ty, pos, af, none⟩ :: rest) K R H :=
  adq (hT := hT) hdn hs hx ai0 hb (fun _ h => by cases h) h63 hby hk
theorem ao1 [hT : SliceT P t e sz bytes z] [h2 : NotIntT P t2] {xs : List AV} (hdn : Nat.blt d n = true) (hs : am R s = .raw (.slice none 0 0)) (hx : am R x = bv) (hb : SrcA H bv m sz (.cel xs)) (h63 : m <= 9223372036854775807) (hby : m * bytes <= 140737488355328)
    (hk : ∀ o', H o' = none -> AWL P n ops rest K ((d, .vw o' sz 0 m) :: R) (H.set o' (.cel xs))) : AWL P n ops (⟨some d, .call { callee := .builtin .append, args := #[s, x], argTypes := #[t, t2] }, ty, pos, af, none⟩ :: rest) K R H :=
  adq (hT := hT) hdn hs hx ak0 hb (fun _ h => by cases h) h63 hby hk
theorem alw {k : IntKind} {m : Nat} [hk : Unsg k m] (a : Nat) : k.wrap (0 - (a : Int)) = (((2 ^ m - a % 2 ^ m) % 2 ^ m : Nat) : Int) := by
  obtain ⟨h1, h2⟩ := hk; have hp : 0 < 2 ^ m := Nat.two_pow_pos m; have e : k.wrap (0 - (a : Int)) = (0 - (a : Int)) % ((2 ^ m : Nat) : Int) := by simp [IntKind.wrap, h1, h2]
  have hr := Nat.mod_lt a hp; have hd := Nat.div_add_mod a (2 ^ m); generalize 2 ^ m = M at *; rw [e]; by_cases h0 : a % M = 0
  · rw [h0, Nat.sub_zero, Nat.mod_self]
    have : (M : Int) ∣ (0 - (a : Int)) := by
      rw [Int.zero_sub]; exact Int.dvd_neg.2 (Int.natCast_dvd_natCast.2 (Nat.dvd_of_mod_eq_zero h0))
    rw [Int.emod_eq_zero_of_dvd this]; rfl
  · rw [Nat.mod_eq_of_lt (show M - a % M < M by omega)]
    have : (0 - (a : Int)) = ((M - a % M : Nat) : Int) + (M : Int) * (-(a / M : Nat) - 1) := by
      rw [Int.mul_sub, Int.mul_neg, <- Int.natCast_mul]; omega
    rw [this, Int.add_mul_emod_self_left]; exact Int.emod_eq_of_lt (by omega) (by omega)
theorem aqj {k : IntKind} {m : Nat} [hk : Unsg k m] {a : Nat} (h : a < 2 ^ m) : bits .xor k (if k.signed then -1 else k.max) (a : Int) = ((2 ^ m - 1 - a : Nat) : Int) := by
  obtain ⟨h1, h2⟩ := hk; have hp : 0 < 2 ^ m := Nat.two_pow_pos m
  have hmx : k.max = ((2 ^ m - 1 : Nat) : Int) := by
    rw [Int.natCast_sub hp]; simp [IntKind.max, h1, h2]
  rw [h1, if_neg (by simp), hmx, yv .xor k (.inr (.inr rfl)) h1 h2 (by omega) h]
  congr 1
  have := congrArg BitVec.toNat (BitVec.allOnes_xor (x := BitVec.ofNat m a)); rw [BitVec.toNat_xor, BitVec.toNat_not, BitVec.toNat_allOnes, BitVec.toNat_ofNat, Nat.mod_eq_of_lt h] at this; exact this
theorem af1 {k : IntKind} {m : Nat} [hk : Unsg k m] {za : Int} {a : Nat} [na : NatOf za a] (hx : am R x = .raw (.int k za)) : Stp P n (.unOp .neg t x) ty R H (.raw (.int k (((2 ^ m - a % 2 ^ m) % 2 ^ m : Nat) : Int))) := by
  cases na.h
  have := ah1 (P := P) (n := n) (H := H) (ty := ty) (t := t) hx
  rwa [alw (k := k) (m := m)] at this
theorem aj0 {k : IntKind} {m : Nat} [hk : Unsg k m] {za : Int} {a : Nat} [na : NatOf za a] (hx : am R x = .raw (.int k za)) (h : a < 2 ^ m) : Stp P n (.unOp .xor t x) ty R H (.raw (.int k ((2 ^ m - 1 - a : Nat) : Int))) := by
  cases na.h
  have := aoc (P := P) (n := n) (H := H) (ty := ty) (t := t) hx
  rwa [aqj (k := k) (m := m) h] at this
theorem ann {a : Int} (hx : am R x = .raw (.int .i64 a)) (h1 : -9223372036854775807 <= a) (h2 : a <= 9223372036854775807) : Stp P n (.unOp .neg t x) ty R H (.raw (.int .i64 (-a))) := by
  have := ah1 (P := P) (n := n) (H := H) (ty := ty) (t := t) hx
  rwa [Int.zero_sub, ui (by omega) (by omega)] at this
theorem aj6 [hT : SliceT P t e sz bytes z] [h2 : NotIntT P t2] {av : AV} {k : Nat} {xd xs : AO} (hdn : Nat.blt d n = true)
    (hs : am R s = av) (hx : am R x = bv) (hd : SrcA H av k sz xd) (hdx : ∀ g v, Rep g av v -> ∃ base, v = .slice base k k) (hb : SrcA H bv m sz xs) (hl : xd.like xs) (h0 : 0 < m)
    (h63 : k + m <= 9223372036854775807) (hby : (k + m) * bytes <= 140737488355328) (hk : ∀ o', H o' = none -> AWL P n ops rest K ((d, .vw o' sz 0 (k + m)) :: R) (H.set o' (xd.app xs))) :
    AWL P n ops (⟨some d, .call { callee := .builtin .append, args := #[s, x], argTypes := #[t, t2] }, ty, pos, af, none⟩ :: rest) K R H :=
  ns rfl rfl hdn fun g a w hp => by
    have hv := rv hp hs; have hu := rv hp hx; obtain ⟨base, he⟩ := hdx g _ hv; have s1 := hd P g w _ hp.sim hv; have s2 := hb P g w _ hp.sim hu; obtain ⟨old, o1, o2, o3, o4⟩ := s1.cells; obtain ⟨news, n1, n2, n3, n4⟩ := s2.cells; rw [he] at o4; obtain ⟨o', ho', hl'⟩ := hp.sim.fresh; obtain ⟨cap, hc, hr⟩ := zf (P := P) (t := t) (t2 := t2) (ty := ty) (sz := sz) (base := base) (sLen := k) (sCap := k) s2.lenOf n4 o4 (by omega) h63 hby
    generalize hc3 : (old ++ news ++ Builtin.zeroCells z.cells (cap - (k + m)) : Array Value) = c3 at hr; have hn2 : RepC g (xd.app xs) c3 0 := hc3 ▸ o2.append o1 n2 n1 hl _
    have hcs : c3.size = cap * sz := by
      subst hc3; simp only [Array.size_append, size_zeroCells, hT.c, n1, o1, s1.len, s2.len, <- Nat.add_mul]
      congr 1
      omega
    refine ⟨.slice (some ⟨w.heap.size, 0, none⟩) (k + m) cap, _, _, .vw o' sz 0 (k + m), _, ?_, g.le_at hl' ⟨w.heap.size, 0, c3.size⟩, ?_, hp.sim.new (w' := w.drew.alloc (.cells c3 e)) ⟨rfl, rfl, rfl⟩ rfl (unfrozen00 c3) hl' hn2, hk o' ho'⟩
    · simp only [execOp, resolve, invoke, builtin, Sem.run_bind, Sem.run_pure, Result.andThen_ok, List.map_toArray, List.map_cons, List.map_nil, he, hr]
    · simp only [Rep]
      exact .inl ⟨⟨w.heap.size, 0, c3.size⟩, cap, Gh.at_self _ _ _, rfl, hc, by simp; omega⟩
theorem am3 (bs : List UInt8) : ∀ g v, Rep g (.bysx bs) v -> ∃ base, v = .slice base bs.length bs.length := fun g v h => by
  simp only [Rep] at h; rcases h with ⟨rfl, a, rfl⟩ | ⟨b, off, c, e, fz, rfl, _⟩
  · exact ⟨a, rfl⟩
  · exact ⟨_, rfl⟩
theorem al5 (k : Nat) (xs : List AV) : ∀ g v, Rep g (.slsx k xs) v -> ∃ base, v = .slice base k k := fun g v h => by
  simp only [Rep] at h; rcases h with ⟨rfl, rfl, a, rfl⟩ | ⟨b, off, c, e, fz, rfl, _⟩
  · exact ⟨a, rfl⟩
  · exact ⟨_, rfl⟩
theorem alt [hT : SliceT P t e 1 bytes z] [h2 : NotIntT P t2] {as bs : List UInt8} (hdn : Nat.blt d n = true) (hs : am R s = .bysx as) (hx : am R x = bv) (hb : SrcA H bv m 1 (.byt bs)) (h0 : 0 < m) (h63 : as.length + m <= 9223372036854775807) (hby : (as.length + m) * bytes <= 140737488355328)
    (hk : ∀ o', H o' = none -> AWL P n ops rest K ((d, .vw o' 1 0 (as.length + m)) :: R) (H.set o' (.byt (as ++ bs)))) : AWL P n ops (⟨some d, .call { callee := .builtin .append, args := #[s, x], argTypes := #[t, t2] }, ty, pos, af, none⟩ :: rest) K R H :=
  aj6 (hT := hT) hdn hs hx (aie H as) (am3 as) hb trivial h0 h63 hby hk
theorem vx {c : Code} (i sz : Nat) (x : AO) (hv : x.void) (hi : rget R i = .raw (.slice none 0 0)) (h : ∀ o, H o = none -> AW P n c K ((i, .vw o sz 0 0) :: R) (H.set o x)) : AW P n c K R H := fun g a w hp => by
  obtain ⟨o, ho, hl⟩ := hp.sim.fresh; have hr := hp.regs i; rw [hi] at hr; simp only [Rep] at hr; refine h o ho g a w ⟨hp.defers, hp.size, fun j => ?_, hp.sim.void hl hv⟩
  simp only [rget]; split
  · rename_i hb
    rw [<- Nat.eq_of_beq_eq_true hb, hr]; simp only [Rep]; exact .inr ⟨trivial, none, rfl⟩
  · exact hp.regs j
end
end Go.Am
