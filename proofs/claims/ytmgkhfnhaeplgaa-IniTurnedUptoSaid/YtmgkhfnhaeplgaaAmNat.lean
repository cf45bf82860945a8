/-
  The abstract machine: the rules in the forms that a walk meets: numbers that are naturals, bytes, structure. No program in sight.
-/
import Derived.Test.YtmgkhfnhaeplgaaAmCall
namespace Go.Am
open Go

section
variable {P : Program} {n : Nat} {K : Exit → Regs → AHeap → Prop} {N : Regs → AHeap → Prop} {R : Regs} {H : AHeap} {ops : Array Oper} {rest : List Oper} {ty : TypeId} {d : Tmp} {pos : String} {af : Array Edge}

/-! Structure. -/
theorem k_seq_normal (h : N R H) : kseq N K .normal R H := h
theorem k_seq_exit {id : Nat} (h : K (.exit id) R H) : kseq N K (.exit id) R H := h
theorem k_seq_ret (h : K .ret R H) : kseq N K .ret R H := h
theorem k_block_normal {id : Nat} (h : K .normal R H) : kblock id K .normal R H := h
theorem k_block_ret {id : Nat} (h : K .ret R H) : kblock id K .ret R H := h
theorem k_block_eq {id : Nat} (h : K .normal R H) : kblock id K (.exit id) R H := by simp only [kblock, if_true]; exact h
theorem k_block_ne {id id' : Nat} (hne : Nat.beq id' id = false) (h : K (.exit id') R H) : kblock id K (.exit id') R H := by
  simp only [kblock]
  rw [if_neg]
  · exact h
  · rintro rfl; simp at hne

theorem aw_condp {c : Operand} {x y : Code} {p : Prop} [inst : Decidable p] (hc : reval R c = .raw (.bool (@decide p inst))) (ht : p → AW P n x K R H) (hf : ¬ p → AW P n y K R H) : AW P n (.cond c x y) K R H :=
  aw_cond hc (fun h => ht (of_decide_eq_true h)) (fun h => hf (of_decide_eq_false h))
theorem aw_cond_t {c : Operand} {x y : Code} (hc : reval R c = .raw (.bool true)) (h : AW P n x K R H) : AW P n (.cond c x y) K R H := aw_cond hc (fun _ => h) (fun h => by cases h)
theorem aw_cond_f {c : Operand} {x y : Code} (hc : reval R c = .raw (.bool false)) (h : AW P n y K R H) : AW P n (.cond c x y) K R H := aw_cond hc (fun h => by cases h) (fun _ => h)

theorem awl_guard_t {op : Op} {j dj : Nat} {b : Bool} (hj : (ops[j]?).bind (·.dst) = some dj) (hb : rget R dj = .raw (.bool b)) (hdn : Nat.blt d n = true) (h : AWL P n ops (⟨some d, op, ty, pos, af, none⟩ :: rest) K R H) :
    AWL P n ops (⟨some d, op, ty, pos, af, some (j, b)⟩ :: rest) K R H := awl_guard hj hb hdn (fun _ => h) (fun e => by cases b <;> cases e)
theorem awl_guard_f {op : Op} {j dj : Nat} {b : Bool} (hj : (ops[j]?).bind (·.dst) = some dj) (hb : rget R dj = .raw (.bool (!b))) (hdn : Nat.blt d n = true) (h : AWL P n ops rest K ((d, .raw undef) :: R) H) :
    AWL P n ops (⟨some d, op, ty, pos, af, some (j, b)⟩ :: rest) K R H := awl_guard hj hb hdn (fun e => by cases b <;> cases e) (fun _ => h)

/-- A test behind a guard: the two ways part. -/
theorem awl_split {i : Tmp} {p : Prop} [inst : Decidable p] (hb : rget R i = .raw (.bool (@decide p inst))) {l : List Oper} (ht : p → AWL P n ops l K ((i, .raw (.bool true)) :: R) H) (hf : ¬ p → AWL P n ops l K ((i, .raw (.bool false)) :: R) H) : AWL P n ops l K R H := by
  have key : ∀ b, rget R i = .raw (.bool b) → Ent R H ((i, .raw (.bool b)) :: R) H := fun b h g t w h1 h2 => ⟨g, .refl g, fun j => by
    simp only [rget]
    by_cases hh : Nat.beq i j = true
    · rw [if_pos hh, ← Nat.eq_of_beq_eq_true hh, ← h]; exact h1 i
    · rw [if_neg hh]; exact h1 j, h2⟩
  by_cases hp : p
  · exact awl_ent (key true (by rw [hb, decide_eq_true hp])) (ht hp)
  · exact awl_ent (key false (by rw [hb, decide_eq_false hp])) (hf hp)

theorem s_pick_t {c x y : Operand} {v : AV} (hc : reval R c = .raw (.bool true)) (hv : reval R x = v) : Stp P n (.pick c x y) ty R H v := s_pick hc (by simpa using hv)
theorem s_pick_f {c x y : Operand} {v : AV} (hc : reval R c = .raw (.bool false)) (hv : reval R y = v) : Stp P n (.pick c x y) ty R H v := s_pick hc (by simpa using hv)

/-! Naturals. -/
section
variable {t t2 : TypeId} {x y : Operand} {a b : Nat}
theorem s_addn {za zb : Int} [na : NatOf za a] [nb : NatOf zb b] (hx : reval R x = .raw (.int .i64 za)) (hy : reval R y = .raw (.int .i64 zb)) (h : a + b ≤ 9223372036854775807) : Stp P n (.binOp .add t x y t2) ty R H (.raw (.int .i64 ((a + b : Nat) : Int))) := by
  cases na.h; cases nb.h
  have := s_add64 (P := P) (n := n) (H := H) (ty := ty) (t := t) (t2 := t2) hx hy (by omega) (by omega)
  rwa [show (a : Int) + (b : Int) = ((a + b : Nat) : Int) from by omega] at this
theorem s_subn {za zb : Int} [na : NatOf za a] [nb : NatOf zb b] (hx : reval R x = .raw (.int .i64 za)) (hy : reval R y = .raw (.int .i64 zb)) (h : b ≤ a) (h2 : a ≤ 9223372036854775807) : Stp P n (.binOp .sub t x y t2) ty R H (.raw (.int .i64 ((a - b : Nat) : Int))) := by
  cases na.h; cases nb.h
  have := s_sub64 (P := P) (n := n) (H := H) (ty := ty) (t := t) (t2 := t2) hx hy (by omega) (by omega)
  rwa [show (a : Int) - (b : Int) = ((a - b : Nat) : Int) from by omega] at this
theorem s_addu {za zb : Int} [na : NatOf za a] [nb : NatOf zb b] (hx : reval R x = .raw (.int .u64 za)) (hy : reval R y = .raw (.int .u64 zb)) (h : a + b ≤ 18446744073709551615) : Stp P n (.binOp .add t x y t2) ty R H (.raw (.int .u64 ((a + b : Nat) : Int))) := by
  cases na.h; cases nb.h
  have := s_addu64 (P := P) (n := n) (H := H) (ty := ty) (t := t) (t2 := t2) hx hy (by omega) (by omega)
  rwa [show (a : Int) + (b : Int) = ((a + b : Nat) : Int) from by omega] at this
/-- '==' on naturals. -/
theorem s_eqn {k : IntKind} {za zb : Int} [na : NatOf za a] [nb : NatOf zb b] (hx : reval R x = .raw (.int k za)) (hy : reval R y = .raw (.int k zb)) : Stp P n (.binOp .eql t x y t2) ty R H (.raw (.bool (decide (a = b)))) := by
  cases na.h; cases nb.h
  have := s_eql (P := P) (n := n) (H := H) (ty := ty) (t := t) (t2 := t2) hx hy
  rwa [show decide ((a : Int) = (b : Int)) = decide (a = b) from decide_eq_decide.2 (by omega)] at this
theorem s_nen {k : IntKind} {za zb : Int} [na : NatOf za a] [nb : NatOf zb b] (hx : reval R x = .raw (.int k za)) (hy : reval R y = .raw (.int k zb)) : Stp P n (.binOp .neq t x y t2) ty R H (.raw (.bool (decide (a ≠ b)))) := by
  cases na.h; cases nb.h
  have := s_neq (P := P) (n := n) (H := H) (ty := ty) (t := t) (t2 := t2) hx hy
  rwa [show decide ((a : Int) ≠ (b : Int)) = decide (a ≠ b) from decide_eq_decide.2 (by omega)] at this
theorem s_ltn {k : IntKind} {za zb : Int} [na : NatOf za a] [nb : NatOf zb b] (hx : reval R x = .raw (.int k za)) (hy : reval R y = .raw (.int k zb)) : Stp P n (.binOp .lss t x y t2) ty R H (.raw (.bool (decide (a < b)))) := by
  cases na.h; cases nb.h
  have := s_lss (P := P) (n := n) (H := H) (ty := ty) (t := t) (t2 := t2) hx hy
  rwa [show decide ((a : Int) < (b : Int)) = decide (a < b) from decide_eq_decide.2 (by omega)] at this
theorem s_len_ {k : IntKind} {za zb : Int} [na : NatOf za a] [nb : NatOf zb b] (hx : reval R x = .raw (.int k za)) (hy : reval R y = .raw (.int k zb)) : Stp P n (.binOp .leq t x y t2) ty R H (.raw (.bool (decide (a ≤ b)))) := by
  cases na.h; cases nb.h
  have := s_leq (P := P) (n := n) (H := H) (ty := ty) (t := t) (t2 := t2) hx hy
  rwa [show decide ((a : Int) ≤ (b : Int)) = decide (a ≤ b) from decide_eq_decide.2 (by omega)] at this
theorem s_gtn {k : IntKind} {za zb : Int} [na : NatOf za a] [nb : NatOf zb b] (hx : reval R x = .raw (.int k za)) (hy : reval R y = .raw (.int k zb)) : Stp P n (.binOp .gtr t x y t2) ty R H (.raw (.bool (decide (b < a)))) := by
  cases na.h; cases nb.h
  have := s_gtr (P := P) (n := n) (H := H) (ty := ty) (t := t) (t2 := t2) hx hy
  rwa [show decide ((b : Int) < (a : Int)) = decide (b < a) from decide_eq_decide.2 (by omega)] at this
theorem s_gen {k : IntKind} {za zb : Int} [na : NatOf za a] [nb : NatOf zb b] (hx : reval R x = .raw (.int k za)) (hy : reval R y = .raw (.int k zb)) : Stp P n (.binOp .geq t x y t2) ty R H (.raw (.bool (decide (b ≤ a)))) := by
  cases na.h; cases nb.h
  have := s_geq (P := P) (n := n) (H := H) (ty := ty) (t := t) (t2 := t2) hx hy
  rwa [show decide ((b : Int) ≤ (a : Int)) = decide (b ≤ a) from decide_eq_decide.2 (by omega)] at this
class Unsg (k : IntKind) (m : outParam Nat) : Prop where
  s : k.signed = false
  b : k.bits = m
instance : Unsg .u8 8 := ⟨rfl, rfl⟩
instance : Unsg .u16 16 := ⟨rfl, rfl⟩
instance : Unsg .u32 32 := ⟨rfl, rfl⟩
instance : Unsg .u64 64 := ⟨rfl, rfl⟩
theorem wrap_unsg {k : IntKind} {m : Nat} [hk : Unsg k m] (z : Nat) : k.wrap (z : Int) = ((z % 2 ^ m : Nat) : Int) := by
  simp only [IntKind.wrap, hk.s, Bool.false_and, Bool.false_eq_true, if_false, hk.b]
  rw [Int.natCast_emod]
  simp
theorem s_convn {s t' : TypeId} {k k' : IntKind} [hT : IntT P t' k'] [hS : KnownT P s] {m : Nat} [hk : Unsg k' m] {za : Int} [na : NatOf za a] (hx : reval R x = .raw (.int k za)) (h : a < 2 ^ m) : Stp P n (.convert s t' x) ty R H (.raw (.int k' (a : Int))) := by
  cases na.h
  have := s_conv (P := P) (n := n) (H := H) (ty := ty) (s := s) (t := t') (k' := k') hx
  rwa [wrap_unsg, Nat.mod_eq_of_lt h] at this
end

theorem awl_box_agg {e : TypeId} {x : Operand} {xs : List AV} (hdn : Nat.blt d n = true) (hx : reval R x = .agg xs) (h1 : xs.all AV.one1 = true)
    (hk : ∀ o', H o' = none → AWL P n ops rest K ((d, .ptr o' 0) :: R) (H.set o' (.cel xs))) : AWL P n ops (⟨some d, .box e x, ty, pos, af, none⟩ :: rest) K R H := awl_box hdn hx rfl h1 hk
theorem Ent.to {R' : Regs} {H' : AHeap} (hs : RSub R' R) (hh : H = H') : Ent R H R' H' := hh ▸ Ent.sub H hs

/-! append, on bytes and on cells. -/
section
variable {t t2 e sz bytes : Nat} {z : Value} {s x : Operand} {bv : AV} {m : Nat}
theorem s_app_slsx_cel [hT : SliceT P t e sz bytes z] [h2 : NotIntT P t2] {k : Nat} {ys xs : List AV} (hs : reval R s = .slsx k ys) (hk : ys.length = k * sz) (hx : reval R x = bv) (hb : SrcA H bv m sz (.cel xs)) (h63 : k + m ≤ 9223372036854775807) (hby : (k + m) * bytes ≤ 140737488355328) :
    Stp P n (.call { callee := .builtin .append, args := #[s, x], argTypes := #[t, t2] }) ty R H (.sls (k + m) (ys ++ xs)) := by
  have := s_append_x (P := P) (n := n) (ty := ty) (hT := hT) (h2 := h2) (k := k) (xd := .cel ys) hs hx (srcA_slsx H k sz ys hk) (fun _ _ h => by simp only [Rep] at h; rcases h with ⟨rfl, rfl, a, rfl⟩ | ⟨b, off, c, e, fz, rfl, _⟩ <;> exact ⟨_, rfl⟩)
    (fun _ _ h => by
      simp only [Rep] at h
      rcases h with ⟨rfl, rfl, a, rfl⟩ | ⟨b, off, c, e, fz, rfl, h3, h4⟩
      · simp [sealAV, Rep]
      · simp only [sealAV, Rep]; exact .inr ⟨b, off, _, c, e, fz, rfl, Nat.le_refl _, h3, h4⟩) hb trivial (fun _ h => by cases h) h63 hby
  simpa [sealAV, AO.app] using this

theorem awl_app_cel [hT : SliceT P t e sz bytes z] [h2 : NotIntT P t2] {ob k : Nat} {as bs : List AV} (hdn : Nat.blt d n = true) (hs : reval R s = .vw ob sz 0 k) (hx : reval R x = bv) (hH : H ob = some (.cel as)) (hk0 : as.length = k * sz) (hb : SrcA H bv m sz (.cel bs))
    (h63 : k + m ≤ 9223372036854775807) (hby : (k + m) * bytes ≤ 140737488355328)
    (hk : ∀ o', H o' = none → AWL P n ops rest K ((d, .vw o' sz 0 (k + m)) :: R) ((H.erase ob).set o' (.cel (as ++ bs)))) :
    AWL P n ops (⟨some d, .call { callee := .builtin .append, args := #[s, x], argTypes := #[t, t2] }, ty, pos, af, none⟩ :: rest) K R H :=
  awl_append_vw (hT := hT) (h2 := h2) hdn hs hx hH (fun _ h => by cases h) (by simp [AO.len, hk0]) hb trivial h63 hby (fun o' ho' => by have := hk o' ho'; simpa [AO.drop, AO.app] using this)
end
end
end Go.Am
