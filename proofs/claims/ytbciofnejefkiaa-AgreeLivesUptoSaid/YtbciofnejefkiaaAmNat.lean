/-
  The abstract machine: the rules in the forms that a walk meets: numbers that are naturals, bytes, structure. No program in sight.
-/
import Derived.Test.YtbciofnejefkiaaAmCall
set_option linter.unusedSimpArgs false
set_option linter.unusedVariables false
namespace Go.Am
open Go
section
variable {P : Program} {n : Nat} {K : Exit -> Regs -> AHeap -> Prop} {N : Regs -> AHeap -> Prop} {R : Regs} {H : AHeap} {ops : Array Oper} {rest : List Oper} {ty : TypeId} {d : Tmp} {pos : String} {af : Array Edge}
theorem ee (h : N R H) : kseq N K .normal R H := h
theorem jz {id : Nat} (h : K (.exit id) R H) : kseq N K (.exit id) R H := h
theorem ye (h : K .ret R H) : kseq N K .ret R H := h
theorem xu {id : Nat} (h : K .normal R H) : kblock id K .normal R H := h
theorem aae {id : Nat} (h : K .ret R H) : kblock id K .ret R H := h
theorem ou {id : Nat} (h : K .normal R H) : kblock id K (.exit id) R H := by simp only [kblock, if_true]; exact h
theorem zk {id id' : Nat} (hne : Nat.beq id' id = false) (h : K (.exit id') R H) : kblock id K (.exit id') R H := by
  simp only [kblock]; rw [if_neg]
  · exact h
  · rintro rfl; simp at hne
theorem ax {c : Operand} {x y : Code} {p : Prop} [inst : Decidable p] (hc : am R c = .raw (.bool (@decide p inst))) (ht : p -> AW P n x K R H) (hf : ¬ p -> AW P n y K R H) : AW P n (.cond c x y) K R H :=
  qp hc (fun h => ht (of_decide_eq_true h)) (fun h => hf (of_decide_eq_false h))
theorem ajz {c : Operand} {x y : Code} (hc : am R c = .raw (.bool true)) (h : AW P n x K R H) : AW P n (.cond c x y) K R H := qp hc (fun _ => h) (fun h => by cases h)
theorem mf {c : Operand} {x y : Code} (hc : am R c = .raw (.bool false)) (h : AW P n y K R H) : AW P n (.cond c x y) K R H := qp hc (fun h => by cases h) (fun _ => h)
theorem yt {op : Op} {j dj : Nat} {b : Bool} (hj : (ops[j]?).bind (·.dst) = some dj) (hb : rget R dj = .raw (.bool b)) (hdn : Nat.blt d n = true) (h : AWL P n ops (⟨some d, op, ty, pos, af, none⟩ :: rest) K R H) :
    AWL P n ops (⟨some d, op, ty, pos, af, some (j, b)⟩ :: rest) K R H := afi hj hb hdn (fun _ => h) (fun e => by cases b <;> cases e)
theorem ade {op : Op} {j dj : Nat} {b : Bool} (hj : (ops[j]?).bind (·.dst) = some dj) (hb : rget R dj = .raw (.bool (!b))) (hdn : Nat.blt d n = true) (h : AWL P n ops rest K ((d, .raw undef) :: R) H) :
    AWL P n ops (⟨some d, op, ty, pos, af, some (j, b)⟩ :: rest) K R H := afi hj hb hdn (fun e => by cases b <;> cases e) (fun _ => h)
theorem ajb {i : Tmp} {p : Prop} [inst : Decidable p] (hb : rget R i = .raw (.bool (@decide p inst))) {l : List Oper} (ht : p -> AWL P n ops l K ((i, .raw (.bool true)) :: R) H) (hf : ¬ p -> AWL P n ops l K ((i, .raw (.bool false)) :: R) H) : AWL P n ops l K R H := by
  have key : ∀ b, rget R i = .raw (.bool b) -> Ent R H ((i, .raw (.bool b)) :: R) H := fun b h g t w h1 h2 => ⟨g, .refl g, fun j => by
    simp only [rget]; by_cases hh : Nat.beq i j = true
    · rw [if_pos hh, <- Nat.eq_of_beq_eq_true hh, <- h]; exact h1 i
    · rw [if_neg hh]; exact h1 j, h2⟩
  by_cases hp : p
  · exact qr (key true (by rw [hb, decide_eq_true hp])) (ht hp)
  · exact qr (key false (by rw [hb, decide_eq_false hp])) (hf hp)
theorem aad {c x y : Operand} {v : AV} (hc : am R c = .raw (.bool true)) (hv : am R x = v) : Stp P n (.pick c x y) ty R H v := afe hc (by simpa using hv)
theorem tc {c x y : Operand} {v : AV} (hc : am R c = .raw (.bool false)) (hv : am R y = v) : Stp P n (.pick c x y) ty R H v := afe hc (by simpa using hv)
section
variable {t t2 : TypeId} {x y : Operand} {a b : Nat}
theorem my {za zb : Int} [na : NatOf za a] [nb : NatOf zb b] (hx : am R x = .raw (.int .i64 za)) (hy : am R y = .raw (.int .i64 zb)) (h : a + b <= 9223372036854775807) : Stp P n (.binOp .add t x y t2) ty R H (.raw (.int .i64 ((a + b : Nat) : Int))) := by
  cases na.h; cases nb.h
  have := aqf (P := P) (n := n) (H := H) (ty := ty) (t := t) (t2 := t2) hx hy (by omega) (by omega)
  rwa [show (a : Int) + (b : Int) = ((a + b : Nat) : Int) from by omega] at this
theorem ry {za zb : Int} [na : NatOf za a] [nb : NatOf zb b] (hx : am R x = .raw (.int .i64 za)) (hy : am R y = .raw (.int .i64 zb)) (h : b <= a) (h2 : a <= 9223372036854775807) : Stp P n (.binOp .sub t x y t2) ty R H (.raw (.int .i64 ((a - b : Nat) : Int))) := by
  cases na.h; cases nb.h
  have := ab2 (P := P) (n := n) (H := H) (ty := ty) (t := t) (t2 := t2) hx hy (by omega) (by omega)
  rwa [show (a : Int) - (b : Int) = ((a - b : Nat) : Int) from by omega] at this
theorem zd {za zb : Int} [na : NatOf za a] [nb : NatOf zb b] (hx : am R x = .raw (.int .i64 za)) (hy : am R y = .raw (.int .i64 zb)) (h : a * b <= 9223372036854775807) : Stp P n (.binOp .mul t x y t2) ty R H (.raw (.int .i64 ((a * b : Nat) : Int))) := by
  cases na.h; cases nb.h
  have e : (a : Int) * (b : Int) = ((a * b : Nat) : Int) := by rw [Int.natCast_mul]
  have := aln (P := P) (n := n) (H := H) (ty := ty) (t := t) (t2 := t2) hx hy (by omega) (by omega)
  rwa [e] at this
theorem un {za zb : Int} [na : NatOf za a] [nb : NatOf zb b] (hx : am R x = .raw (.int .u64 za)) (hy : am R y = .raw (.int .u64 zb)) (h : a + b <= 18446744073709551615) : Stp P n (.binOp .add t x y t2) ty R H (.raw (.int .u64 ((a + b : Nat) : Int))) := by
  cases na.h; cases nb.h
  have := ap0 (P := P) (n := n) (H := H) (ty := ty) (t := t) (t2 := t2) hx hy (by omega) (by omega)
  rwa [show (a : Int) + (b : Int) = ((a + b : Nat) : Int) from by omega] at this
theorem s_quou {za zb : Int} [na : NatOf za a] [nb : NatOf zb b] (hx : am R x = .raw (.int .u64 za)) (hy : am R y = .raw (.int .u64 zb)) (hb : 0 < b) (h2 : a <= 18446744073709551615) : Stp P n (.binOp .quo t x y t2) ty R H (.raw (.int .u64 ((a / b : Nat) : Int))) := by
  cases na.h; cases nb.h
  have := ajn (P := P) (n := n) (H := H) (ty := ty) (t := t) (t2 := t2) hx hy (by omega)
  have hle : a / b <= a := Nat.div_le_self a b; rw [Int.tdiv_eq_ediv_of_nonneg (by omega), <- Int.natCast_ediv] at this
  generalize a / b = q at *; rw [ad9 (by omega) (by omega)] at this
  exact this
theorem al3 {za zb : Int} [na : NatOf za a] [nb : NatOf zb b] (hx : am R x = .raw (.int .i64 za)) (hy : am R y = .raw (.int .i64 zb)) (hb : 0 < b) (h2 : a <= 9223372036854775807) : Stp P n (.binOp .quo t x y t2) ty R H (.raw (.int .i64 ((a / b : Nat) : Int))) := by
  cases na.h; cases nb.h
  have := ajn (P := P) (n := n) (H := H) (ty := ty) (t := t) (t2 := t2) hx hy (by omega)
  have hle : a / b <= a := Nat.div_le_self a b; rw [Int.tdiv_eq_ediv_of_nonneg (by omega), <- Int.natCast_ediv] at this
  generalize a / b = q at *; rw [ui (by omega) (by omega)] at this
  exact this
theorem uq {k : IntKind} {za zb : Int} [na : NatOf za a] [nb : NatOf zb b] (hx : am R x = .raw (.int k za)) (hy : am R y = .raw (.int k zb)) (hb : 0 < b) : Stp P n (.binOp .rem t x y t2) ty R H (.raw (.int k ((a % b : Nat) : Int))) := by
  cases na.h; cases nb.h
  have := aqc (P := P) (n := n) (H := H) (ty := ty) (t := t) (t2 := t2) hx hy (by omega)
  rw [Int.tmod_eq_emod_of_nonneg (by omega), <- Int.natCast_emod] at this
  exact this
theorem ml {k : IntKind} {za zb : Int} [na : NatOf za a] [nb : NatOf zb b] (hx : am R x = .raw (.int k za)) (hy : am R y = .raw (.int k zb)) : Stp P n (.binOp .eql t x y t2) ty R H (.raw (.bool (decide (a = b)))) := by
  cases na.h; cases nb.h
  have := kj (P := P) (n := n) (H := H) (ty := ty) (t := t) (t2 := t2) hx hy
  rwa [show decide ((a : Int) = (b : Int)) = decide (a = b) from decide_eq_decide.2 (by omega)] at this
theorem wq {k : IntKind} {za zb : Int} [na : NatOf za a] [nb : NatOf zb b] (hx : am R x = .raw (.int k za)) (hy : am R y = .raw (.int k zb)) : Stp P n (.binOp .neq t x y t2) ty R H (.raw (.bool (decide (a ≠ b)))) := by
  cases na.h; cases nb.h
  have := nu (P := P) (n := n) (H := H) (ty := ty) (t := t) (t2 := t2) hx hy
  rwa [show decide ((a : Int) ≠ (b : Int)) = decide (a ≠ b) from decide_eq_decide.2 (by omega)] at this
theorem wo {k : IntKind} {za zb : Int} [na : NatOf za a] [nb : NatOf zb b] (hx : am R x = .raw (.int k za)) (hy : am R y = .raw (.int k zb)) : Stp P n (.binOp .lss t x y t2) ty R H (.raw (.bool (decide (a < b)))) := by
  cases na.h; cases nb.h
  have := sq (P := P) (n := n) (H := H) (ty := ty) (t := t) (t2 := t2) hx hy
  rwa [show decide ((a : Int) < (b : Int)) = decide (a < b) from decide_eq_decide.2 (by omega)] at this
theorem mt {k : IntKind} {za zb : Int} [na : NatOf za a] [nb : NatOf zb b] (hx : am R x = .raw (.int k za)) (hy : am R y = .raw (.int k zb)) : Stp P n (.binOp .leq t x y t2) ty R H (.raw (.bool (decide (a <= b)))) := by
  cases na.h; cases nb.h
  have := ahe (P := P) (n := n) (H := H) (ty := ty) (t := t) (t2 := t2) hx hy
  rwa [show decide ((a : Int) <= (b : Int)) = decide (a <= b) from decide_eq_decide.2 (by omega)] at this
theorem aiw {k : IntKind} {za zb : Int} [na : NatOf za a] [nb : NatOf zb b] (hx : am R x = .raw (.int k za)) (hy : am R y = .raw (.int k zb)) : Stp P n (.binOp .gtr t x y t2) ty R H (.raw (.bool (decide (b < a)))) := by
  cases na.h; cases nb.h
  have := zq (P := P) (n := n) (H := H) (ty := ty) (t := t) (t2 := t2) hx hy
  rwa [show decide ((b : Int) < (a : Int)) = decide (b < a) from decide_eq_decide.2 (by omega)] at this
theorem aji {k : IntKind} {za zb : Int} [na : NatOf za a] [nb : NatOf zb b] (hx : am R x = .raw (.int k za)) (hy : am R y = .raw (.int k zb)) : Stp P n (.binOp .geq t x y t2) ty R H (.raw (.bool (decide (b <= a)))) := by
  cases na.h; cases nb.h
  have := ky (P := P) (n := n) (H := H) (ty := ty) (t := t) (t2 := t2) hx hy
  rwa [show decide ((b : Int) <= (a : Int)) = decide (b <= a) from decide_eq_decide.2 (by omega)] at this
theorem yv (op : BinOp) (k : IntKind) (h : op = .and \/ op = .or \/ op = .xor) {m : Nat} (hs : k.signed = false) (hm : k.bits = m) (ha : a < 2 ^ m) (hb : b < 2 ^ m) :
    bits op k (a : Int) (b : Int) = ((match op with | .and => a &&& b | .or => a ||| b | _ => a ^^^ b : Nat) : Int) := by
  subst hm; have e1 : (BitVec.ofInt k.bits (a : Int)).toNat = a := by simp [Nat.mod_eq_of_lt ha]
  have e2 : (BitVec.ofInt k.bits (b : Int)).toNat = b := by simp [Nat.mod_eq_of_lt hb]
  have hw : ∀ z : Nat, z < 2 ^ k.bits -> k.wrap (z : Int) = (z : Int) := fun z hz => by
    simp only [IntKind.wrap, hs, Bool.false_and, Bool.false_eq_true, if_false]; rw [Int.emod_eq_of_lt (by omega)]
    exact_mod_cast hz
  rcases h with rfl | rfl | rfl <;> simp only [bits]
  · rw [BitVec.toNat_and, e1, e2]; exact hw _ (Nat.and_lt_two_pow _ hb)
  · rw [BitVec.toNat_or, e1, e2]; exact hw _ (Nat.or_lt_two_pow ha hb)
  · rw [BitVec.toNat_xor, e1, e2]; exact hw _ (Nat.xor_lt_two_pow ha hb)
class Unsg (k : IntKind) (m : outParam Nat) : Prop where
  s : k.signed = false
  b : k.bits = m
instance : Unsg .u8 8 := ⟨rfl, rfl⟩
instance : Unsg .u16 16 := ⟨rfl, rfl⟩
instance : Unsg .u32 32 := ⟨rfl, rfl⟩
instance : Unsg .u64 64 := ⟨rfl, rfl⟩
theorem apl {k : IntKind} {m : Nat} [hk : Unsg k m] {za zb : Int} [na : NatOf za a] [nb : NatOf zb b] (hx : am R x = .raw (.int k za)) (hy : am R y = .raw (.int k zb)) (ha : a < 2 ^ m) (hb : b < 2 ^ m) : Stp P n (.binOp .and t x y t2) ty R H (.raw (.int k ((a &&& b : Nat) : Int))) := by
  cases na.h; cases nb.h
  have := amb (P := P) (n := n) (H := H) (ty := ty) (t := t) (t2 := t2) hx hy
  rwa [yv .and k (.inl rfl) hk.s hk.b ha hb] at this
theorem xm {k : IntKind} {m : Nat} [hk : Unsg k m] {za zb : Int} [na : NatOf za a] [nb : NatOf zb b] (hx : am R x = .raw (.int k za)) (hy : am R y = .raw (.int k zb)) (ha : a < 2 ^ m) (hb : b < 2 ^ m) : Stp P n (.binOp .or t x y t2) ty R H (.raw (.int k ((a ||| b : Nat) : Int))) := by
  cases na.h; cases nb.h
  have := aqo (P := P) (n := n) (H := H) (ty := ty) (t := t) (t2 := t2) hx hy
  rwa [yv .or k (.inr (.inl rfl)) hk.s hk.b ha hb] at this
theorem vj {k : IntKind} {m : Nat} [hk : Unsg k m] {za zb : Int} [na : NatOf za a] [nb : NatOf zb b] (hx : am R x = .raw (.int k za)) (hy : am R y = .raw (.int k zb)) (ha : a < 2 ^ m) (hb : b < 2 ^ m) : Stp P n (.binOp .xor t x y t2) ty R H (.raw (.int k ((a ^^^ b : Nat) : Int))) := by
  cases na.h; cases nb.h
  have := ail (P := P) (n := n) (H := H) (ty := ty) (t := t) (t2 := t2) hx hy
  rwa [yv .xor k (.inr (.inr rfl)) hk.s hk.b ha hb] at this
theorem adi {k : IntKind} {m : Nat} [hk : Unsg k m] (z : Nat) : k.wrap (z : Int) = ((z % 2 ^ m : Nat) : Int) := by
  simp only [IntKind.wrap, hk.s, Bool.false_and, Bool.false_eq_true, if_false, hk.b]; rw [Int.natCast_emod]; simp
theorem yp {k k' : IntKind} {m : Nat} [hk : Unsg k m] {za zb : Int} [na : NatOf za a] [nb : NatOf zb b] (hx : am R x = .raw (.int k za)) (hy : am R y = .raw (.int k' zb)) (h : b <= m) : Stp P n (.binOp .shl t x y t2) ty R H (.raw (.int k ((a * 2 ^ b % 2 ^ m : Nat) : Int))) := by
  cases na.h; cases nb.h
  have := apf (P := P) (n := n) (H := H) (ty := ty) (t := t) (t2 := t2) hx hy (by omega) (by rw [hk.b]; omega)
  have e : (a : Int) * 2 ^ ((b : Int)).toNat = ((a * 2 ^ b : Nat) : Int) := by simp
  rwa [e, adi] at this
theorem r8 {k k' : IntKind} {za zb : Int} [na : NatOf za a] [nb : NatOf zb b] (hx : am R x = .raw (.int k za)) (hy : am R y = .raw (.int k' zb)) (h : b <= k.bits) : Stp P n (.binOp .shr t x y t2) ty R H (.raw (.int k ((a / 2 ^ b : Nat) : Int))) := by
  cases na.h; cases nb.h
  have := ajt (P := P) (n := n) (H := H) (ty := ty) (t := t) (t2 := t2) hx hy (by omega) (by omega)
  have e : (a : Int) / 2 ^ ((b : Int)).toNat = ((a / 2 ^ b : Nat) : Int) := by simp
  rwa [e] at this
theorem fu {s t' : TypeId} {k k' : IntKind} [hT : IntT P t' k'] [hS : KnownT P s] {m : Nat} [hk : Unsg k' m] {za : Int} [na : NatOf za a] (hx : am R x = .raw (.int k za)) (h : a < 2 ^ m) : Stp P n (.convert s t' x) ty R H (.raw (.int k' (a : Int))) := by
  cases na.h
  have := wy (P := P) (n := n) (H := H) (ty := ty) (s := s) (t := t') (k' := k') hx
  rwa [adi, Nat.mod_eq_of_lt h] at this
theorem rn {s t' : TypeId} {k k' : IntKind} [hT : IntT P t' k'] [hS : KnownT P s] {m : Nat} [hk : Unsg k' m] {za : Int} [na : NatOf za a] (hx : am R x = .raw (.int k za)) : Stp P n (.convert s t' x) ty R H (.raw (.int k' ((a % 2 ^ m : Nat) : Int))) := by
  cases na.h
  have := wy (P := P) (n := n) (H := H) (ty := ty) (s := s) (t := t') (k' := k') hx
  rwa [adi] at this
theorem qs {s t' : TypeId} {k : IntKind} {z : Int} [hT : IntT P t' .i64] [hS : KnownT P s] (hx : am R x = .raw (.int k z)) (h1 : -9223372036854775808 <= z) (h2 : z <= 9223372036854775807) : Stp P n (.convert s t' x) ty R H (.raw (.int .i64 z)) :=
  ap1 hx (ui h1 h2)
end
theorem afc {e : TypeId} {x : Operand} {xs : List AV} (hdn : Nat.blt d n = true) (hx : am R x = .agg xs) (h1 : xs.all AV.one1 = true)
    (hk : ∀ o', H o' = none -> AWL P n ops rest K ((d, .ptr o' 0) :: R) (H.set o' (.cel xs))) : AWL P n ops (⟨some d, .box e x, ty, pos, af, none⟩ :: rest) K R H := ahd hdn hx rfl h1 hk
theorem Ent.to {R' : Regs} {H' : AHeap} (hs : RSub R' R) (hh : H = H') : Ent R H R' H' := hh ▸ Ent.sub H hs
section
variable {t t2 e sz bytes : Nat} {z : Value} {s x : Operand} {bv : AV} {m : Nat}
theorem aan [hT : SliceT P t e 1 bytes z] [h2 : NotIntT P t2] {bs : List UInt8} (hs : am R s = .emp) (hx : am R x = bv) (hb : SrcA H bv m 1 (.byt bs)) (h63 : m <= 9223372036854775807) (hby : m * bytes <= 140737488355328) :
    Stp P n (.call { callee := .builtin .append, args := #[s, x], argTypes := #[t, t2] }) ty R H (.bys bs) := by
  have := aee (P := P) (n := n) (ty := ty) (hT := hT) (h2 := h2) (k := 0) (xd := .byt []) hs hx (adr H 1 _ rfl) (fun _ _ h => by simpa only [Rep] using h) (fun _ _ h => by simp only [Rep] at h; obtain ⟨a, rfl⟩ := h; simp [sealAV, Rep]) hb trivial (fun _ _ => rfl) (by omega) (by rw [Nat.zero_add]; exact hby)
  simpa [sealAV, AO.app] using this
theorem ag2 [hT : SliceT P t e sz bytes z] [h2 : NotIntT P t2] {xs : List AV} (hs : am R s = .emp) (hx : am R x = bv) (hb : SrcA H bv m sz (.cel xs)) (h63 : m <= 9223372036854775807) (hby : m * bytes <= 140737488355328) :
    Stp P n (.call { callee := .builtin .append, args := #[s, x], argTypes := #[t, t2] }) ty R H (.sls m xs) := by
  have := aee (P := P) (n := n) (ty := ty) (hT := hT) (h2 := h2) (k := 0) (xd := .cel []) hs hx (adr H sz _ rfl) (fun _ _ h => by simpa only [Rep] using h) (fun _ _ h => by simp only [Rep] at h; obtain ⟨a, rfl⟩ := h; simp [sealAV, Rep]) hb trivial (fun _ h => by cases h) (by omega) (by rw [Nat.zero_add]; exact hby)
  simpa [sealAV, AO.app] using this
theorem s9 [hT : SliceT P t e 1 bytes z] {za : Int} {a : Nat} [na : NatOf za a] (hx : am R x = .raw (.int .u8 za)) (ha : a < 256) : Stp P n (.buildSlice t 1 #[(0, x)]) ty R H (.bysx [UInt8.ofNat a]) := by
  cases na.h
  exact aob (as := [(a : Int)]) ⟨rfl, by simp [hx]⟩ rfl (by simp; omega) (by simp) (by decide)
theorem ale [hT : SliceT P t e 1 bytes z] [h2 : NotIntT P t2] {ob k : Nat} {as bs : List UInt8} (hdn : Nat.blt d n = true) (hs : am R s = .vw ob 1 0 k) (hx : am R x = bv) (hH : H ob = some (.byt as)) (hk0 : k = as.length) (hb : SrcA H bv m 1 (.byt bs))
    (h63 : k + m <= 9223372036854775807) (hby : (k + m) * bytes <= 140737488355328)
    (hk : ∀ o', H o' = none -> AWL P n ops rest K ((d, .vw o' 1 0 (k + m)) :: R) ((H.erase ob).set o' (.byt (as ++ bs)))) :
    AWL P n ops (⟨some d, .call { callee := .builtin .append, args := #[s, x], argTypes := #[t, t2] }, ty, pos, af, none⟩ :: rest) K R H :=
  abk (hT := hT) (h2 := h2) hdn hs hx hH (fun _ h => by cases h) (by simp [AO.len, hk0]) hb trivial h63 hby (fun o' ho' => by have := hk o' ho'; simpa [AO.drop, AO.app] using this)
theorem ajv [hT : SliceT P t e sz bytes z] [h2 : NotIntT P t2] {ob k : Nat} {as bs : List AV} (hdn : Nat.blt d n = true) (hs : am R s = .vw ob sz 0 k) (hx : am R x = bv) (hH : H ob = some (.cel as)) (hk0 : as.length = k * sz) (hb : SrcA H bv m sz (.cel bs))
    (h63 : k + m <= 9223372036854775807) (hby : (k + m) * bytes <= 140737488355328)
    (hk : ∀ o', H o' = none -> AWL P n ops rest K ((d, .vw o' sz 0 (k + m)) :: R) ((H.erase ob).set o' (.cel (as ++ bs)))) :
    AWL P n ops (⟨some d, .call { callee := .builtin .append, args := #[s, x], argTypes := #[t, t2] }, ty, pos, af, none⟩ :: rest) K R H :=
  abk (hT := hT) (h2 := h2) hdn hs hx hH (fun _ h => by cases h) (by simp [AO.len, hk0]) hb trivial h63 hby (fun o' ho' => by have := hk o' ho'; simpa [AO.drop, AO.app] using this)
end
end
end Go.Am
