/-
  The abstract machine: a rule for each operation; loops; calls. No program in sight.
-/
import Derived.Test.YtbciofnejefkiaaAmCore
import Derived.Laws.Slices
import Derived.Laws.Strings
import Derived.Laws.BytesString
import Derived.Laws.IdiomStrings
import Derived.Laws.IdiomCopy
import Derived.Laws.MakeOwn
import Derived.Laws.BitsAllLaws
set_option linter.unusedSimpArgs false
set_option linter.unusedVariables false
namespace Go.Am
open Go
section
variable {P : Program} {n : Nat} {K : Exit -> Regs -> AHeap -> Prop} {R : Regs} {H : AHeap} {ops : Array Oper} {rest : List Oper}
theorem rv {g : Gh} {a : Act} {w : World} (hp : Pre n R H g a w) {x : Operand} {v : AV} (hx : am R x = v) : Rep g v (a.eval x) := hx ▸ aek hp.regs x
theorem Pre.put {g g' : Gh} {a : Act} {w w' : World} {H' : AHeap} (hp : Pre n R H g a w) (hl : g.le g') {d : Tmp} (hd : Nat.blt d n = true) {x : AV} {v : Value} (hx : Rep g' x v) (hs : Sim g' H' w') :
    Pre n ((d, x) :: R) H' g' (a.put (some d) v) w' :=
  ⟨hp.defers, by simp [Act.put, hp.size], (hp.regs.mono hl).put (by rw [hp.size]; exact Nat.le_of_ble_eq_true hd) hx, hs⟩
theorem ns {o : Oper} {d : Tmp} (hg : o.guard = none) (hd : o.dst = some d) (hdn : Nat.blt d n = true)
    (h : ∀ g a w, Pre n R H g a w -> ∃ v w' g' x H', (execOp a.eval o).run P w = .ok (.value v) w' /\ g.le g' /\ Rep g' x v /\ Sim g' H' w' /\ AWL P n ops rest K ((d, x) :: R) H') :
    AWL P n ops (o :: rest) K R H := fun g a w hp => by
  obtain ⟨v, w', g', x, H', hr, hl, hx, hs, hk⟩ := h g a w hp; refine wpList_plain hg fun K' hK' => ?_
  rw [Oper.wp, hr, Oper.upon_value, hd]; exact hK' _ _ (qn (fun _ _ _ hq => hq.le hl) _ _ _ (hk g' _ w' (hp.put hl hdn hx hs)))
theorem agz {o : Oper} (hg : o.guard = none) (hd : o.dst = none)
    (h : ∀ g a w, Pre n R H g a w -> ∃ w' g' H', (execOp a.eval o).run P w = .ok .skip w' /\ g.le g' /\ Sim g' H' w' /\ AWL P n ops rest K R H') :
    AWL P n ops (o :: rest) K R H := fun g a w hp => by
  obtain ⟨w', g', H', hr, hl, hs, hk⟩ := h g a w hp; refine wpList_plain hg fun K' hK' => ?_
  rw [Oper.wp, hr, Oper.upon_skip, hd]; exact hK' _ _ (qn (fun _ _ _ hq => hq.le hl) _ _ _ (hk g' _ w' ⟨hp.defers, hp.size, hp.regs.mono hl, hs⟩))
def Stp (P : Program) (n : Nat) (op : Op) (ty : TypeId) (R : Regs) (H : AHeap) (x : AV) : Prop :=
  ∀ (o : Oper), o.op = op -> o.type = ty -> ∀ g a w, Pre n R H g a w -> ∀ (Kc : Act -> World -> Prop) (Q : Exit -> Act -> World -> Prop),
    (∀ v w' g', g.le g' -> Rep g' x v -> Sim g' H w' -> Kc (a.put o.dst v) w') -> o.wp P a w Kc Q
theorem tg {op : Op} {ty : TypeId} {x : AV}
    (h : ∀ (o : Oper), o.op = op -> o.type = ty -> ∀ g a w, Pre n R H g a w -> ∃ v w' g', (execOp a.eval o).run P w = .ok (.value v) w' /\ g.le g' /\ Rep g' x v /\ Sim g' H w') : Stp P n op ty R H x := fun o h1 h2 g a w hp Kc Q hk => by
  obtain ⟨v, w', g', hr, hl, hx, hs⟩ := h o h1 h2 g a w hp; rw [Oper.wp, hr, Oper.upon_value]; exact hk v w' g' hl hx hs
theorem du {op : Op} {ty : TypeId} {x : AV}
    (h : ∀ (o : Oper), o.op = op -> o.type = ty -> ∀ g a w, Pre n R H g a w -> ∃ v, (execOp a.eval o).run P w = .ok (.value v) w /\ Rep g x v) : Stp P n op ty R H x :=
  tg fun o h1 h2 g a w hp => let ⟨v, hr, hx⟩ := h o h1 h2 g a w hp; ⟨v, w, g, hr, .refl g, hx, hp.sim⟩
variable {d : Tmp} {ty : TypeId} {pos : String} {af : Array Edge}
theorem ae {op : Op} {x : AV} (hdn : Nat.blt d n = true) (hs : Stp P n op ty R H x) (hk : AWL P n ops rest K ((d, x) :: R) H) :
    AWL P n ops (⟨some d, op, ty, pos, af, none⟩ :: rest) K R H := fun g a w hp => by
  refine wpList_plain rfl fun K' hK' => ?_
  exact hs _ rfl rfl g a w hp _ _ fun v w' g' hl hx hsim => hK' _ _ (qn (fun _ _ _ hq => hq.le hl) _ _ _ (hk g' _ w' (hp.put hl hdn hx hsim)))
theorem ce {x : Operand} {v : AV} (hx : am R x = v) : Stp P n (.move x) ty R H v :=
  du fun o h1 _ _ a _ hp => ⟨a.eval x, by simp [execOp, h1], rv hp hx⟩
theorem gq {x : Operand} {v : AV} (hx : am R x = v) : Stp P n (.assign x) ty R H v :=
  du fun o h1 _ _ a _ hp => ⟨a.eval x, by simp [execOp, h1], rv hp hx⟩
theorem afi {op : Op} {j dj : Nat} {want b : Bool} (hj : (ops[j]?).bind (·.dst) = some dj) (hb : rget R dj = .raw (.bool b)) (hdn : Nat.blt d n = true)
    (hyes : b = want -> AWL P n ops (⟨some d, op, ty, pos, af, none⟩ :: rest) K R H) (hno : b = !want -> AWL P n ops rest K ((d, .raw undef) :: R) H) :
    AWL P n ops (⟨some d, op, ty, pos, af, some (j, want)⟩ :: rest) K R H := fun g a w hp => by
  have hv : a.tmps.getD dj undef = .bool b := by have := hp.regs dj; rw [hb] at this; simpa only [Rep] using this
  have hy : yielded ops a.tmps j = some b := by
    unfold yielded; rw [hj]; simp only [Option.bind_some]; rw [Array.getD_eq_getD_getElem?] at hv
    cases ht : a.tmps[dj]? with
    | none => rw [ht] at hv; simp [undef] at hv
    | some u => rw [ht] at hv; simp at hv; subst hv; rfl
  unfold wpList; by_cases hw : b = want
  · have := hyes hw g a w hp
    unfold wpList at this; rw [if_pos (by simp [Region.wanted])] at this
    rw [if_pos (by simp [Region.wanted, hy, hw])]
    exact this
  · rw [if_neg (by simp [Region.wanted, hy, hw])]
    exact hno (by cases b <;> cases want <;> simp_all) g _ w (hp.put (.refl g) hdn (by simp only [Rep]) hp.sim)
theorem alu {op : Op} {j dj : Nat} {want : Bool} (hj : (ops[j]?).bind (·.dst) = some dj) (hb : rget R dj = .raw undef) (hdn : Nat.blt d n = true)
    (hno : AWL P n ops rest K ((d, .raw undef) :: R) H) : AWL P n ops (⟨some d, op, ty, pos, af, some (j, want)⟩ :: rest) K R H := fun g a w hp => by
  have hv : a.tmps.getD dj undef = undef := by have := hp.regs dj; rw [hb] at this; simpa only [Rep] using this
  have hy : yielded ops a.tmps j = none := by
    unfold yielded; rw [hj]; simp only [Option.bind_some]; rw [Array.getD_eq_getD_getElem?] at hv
    cases ht : a.tmps[dj]? with
    | none => rfl
    | some u => rw [ht] at hv; simp at hv; subst hv; rfl
  unfold wpList; rw [if_neg (by simp [Region.wanted, hy])]
  exact hno g _ w (hp.put (.refl g) hdn (by simp only [Rep]) hp.sim)
theorem afe {c x y : Operand} {b : Bool} {v : AV} (hc : am R c = .raw (.bool b)) (hv : (if b then am R x else am R y) = v)  :
    Stp P n (.pick c x y) ty R H (v) :=
  du fun o ho _ g a w hp => by
    have h := rv hp hc; simp only [Rep] at h; refine ⟨if b then a.eval x else a.eval y, by simp [execOp, ho, h, asBool], ?_⟩
    cases b
    · exact rv hp hv
    · exact rv hp hv
theorem k9 {op : BinOp} {t t2 : TypeId} {x y : Operand} {k k' : IntKind} {a b : Int} {r : Value}
    (hx : am R x = .raw (.int k a)) (hy : am R y = .raw (.int k' b)) (hr : binOp op t (.int k a) (.int k' b) = pure r)  :
    Stp P n (.binOp op t x y t2) ty R H (.raw r) :=
  du fun o ho _ g ac w hp => by
    have h1 := rv hp hx; have h2 := rv hp hy; simp only [Rep] at h1 h2; exact ⟨r, by simp [execOp, ho, h1, h2, eqGuard_at_int, hr], by simp only [Rep]⟩
section
variable {t t2 : TypeId} {x y : Operand} {k : IntKind} {a b : Int} (hx : am R x = .raw (.int k a)) (hy : am R y = .raw (.int k b))
include hx hy
theorem abz  : Stp P n (.binOp .add t x y t2) ty R H (.raw (.int k (k.wrap (a + b)))) :=
  k9 hx hy (by simp [binOp_add, Op.intArith])
theorem ao3  : Stp P n (.binOp .sub t x y t2) ty R H (.raw (.int k (k.wrap (a - b)))) :=
  k9 hx hy (by simp [binOp_sub, Op.intArith])
theorem aq1  : Stp P n (.binOp .mul t x y t2) ty R H (.raw (.int k (k.wrap (a * b)))) :=
  k9 hx hy (by simp [binOp_mul, Op.intArith])
theorem ajn (hb : b ≠ 0)  : Stp P n (.binOp .quo t x y t2) ty R H (.raw (.int k (k.wrap (a.tdiv b)))) :=
  k9 hx hy (by simp [binOp_quo, Op.intDiv, hb])
theorem aqc (hb : b ≠ 0)  : Stp P n (.binOp .rem t x y t2) ty R H (.raw (.int k (a.tmod b))) :=
  k9 hx hy (by simp [binOp_rem, Op.intDiv, hb])
theorem amb  : Stp P n (.binOp .and t x y t2) ty R H (.raw (.int k (bits .and k a b))) :=
  k9 hx hy (by simp [binOp_and, intBits_and])
theorem aqo  : Stp P n (.binOp .or t x y t2) ty R H (.raw (.int k (bits .or k a b))) :=
  k9 hx hy (by simp [binOp_or, intBits_or])
theorem ail  : Stp P n (.binOp .xor t x y t2) ty R H (.raw (.int k (bits .xor k a b))) :=
  k9 hx hy (by simp [binOp_xor, intBits_xor])
theorem sq  : Stp P n (.binOp .lss t x y t2) ty R H (.raw (.bool (decide (a < b)))) :=
  k9 hx hy (by simp [binOp_lss])
theorem ahe  : Stp P n (.binOp .leq t x y t2) ty R H (.raw (.bool (decide (a <= b)))) :=
  k9 hx hy (by simp [binOp_leq])
theorem zq  : Stp P n (.binOp .gtr t x y t2) ty R H (.raw (.bool (decide (b < a)))) :=
  k9 hx hy (by simp [binOp_gtr])
theorem ky  : Stp P n (.binOp .geq t x y t2) ty R H (.raw (.bool (decide (b <= a)))) :=
  k9 hx hy (by simp [binOp_geq])
theorem kj  : Stp P n (.binOp .eql t x y t2) ty R H (.raw (.bool (decide (a = b)))) :=
  k9 hx hy (by rw [binOp_eql]; rfl)
theorem nu  : Stp P n (.binOp .neq t x y t2) ty R H (.raw (.bool (decide (a ≠ b)))) :=
  k9 hx hy (by
    rw [binOp_neq]; have : (a != b) = decide (a ≠ b) := by rw [Bool.eq_iff_iff]; simp
    rw [this])
end
theorem ui {x : Int} (h1 : -9223372036854775808 <= x) (h2 : x <= 9223372036854775807) : IntKind.i64.wrap x = x := by rw [IntKind.wrap_i64]; omega
theorem ad9 {x : Int} (h1 : 0 <= x) (h2 : x <= 18446744073709551615) : IntKind.u64.wrap x = x := by rw [show IntKind.u64.wrap x = x % 18446744073709551616 from by simp [IntKind.wrap, IntKind.bits, IntKind.signed]]; omega
section
variable {t t2 : TypeId} {x y : Operand} {a b : Int}
theorem aqf (hx : am R x = .raw (.int .i64 a)) (hy : am R y = .raw (.int .i64 b)) (h1 : -9223372036854775808 <= a + b) (h2 : a + b <= 9223372036854775807)  :
    Stp P n (.binOp .add t x y t2) ty R H (.raw (.int .i64 (a + b))) := by have := abz (P := P) (n := n) (H := H) (ty := ty) (t := t) (t2 := t2) hx hy; rwa [ui h1 h2] at this
theorem ab2 (hx : am R x = .raw (.int .i64 a)) (hy : am R y = .raw (.int .i64 b)) (h1 : -9223372036854775808 <= a - b) (h2 : a - b <= 9223372036854775807)  :
    Stp P n (.binOp .sub t x y t2) ty R H (.raw (.int .i64 (a - b))) := by have := ao3 (P := P) (n := n) (H := H) (ty := ty) (t := t) (t2 := t2) hx hy; rwa [ui h1 h2] at this
theorem aln (hx : am R x = .raw (.int .i64 a)) (hy : am R y = .raw (.int .i64 b)) (h1 : -9223372036854775808 <= a * b) (h2 : a * b <= 9223372036854775807)  :
    Stp P n (.binOp .mul t x y t2) ty R H (.raw (.int .i64 (a * b))) := by have := aq1 (P := P) (n := n) (H := H) (ty := ty) (t := t) (t2 := t2) hx hy; rwa [ui h1 h2] at this
theorem ap0 (hx : am R x = .raw (.int .u64 a)) (hy : am R y = .raw (.int .u64 b)) (h1 : 0 <= a + b) (h2 : a + b <= 18446744073709551615)  :
    Stp P n (.binOp .add t x y t2) ty R H (.raw (.int .u64 (a + b))) := by have := abz (P := P) (n := n) (H := H) (ty := ty) (t := t) (t2 := t2) hx hy; rwa [ad9 h1 h2] at this
end
theorem apf {t t2 : TypeId} {x y : Operand} {k k' : IntKind} {a b : Int} (hx : am R x = .raw (.int k a)) (hy : am R y = .raw (.int k' b)) (h0 : 0 <= b) (h1 : b <= k.bits)
     : Stp P n (.binOp .shl t x y t2) ty R H (.raw (.int k (k.wrap (a * 2 ^ b.toNat)))) :=
  k9 hx hy (by rw [binOp_shl, shift_shl _ _ _ _ h0 h1])
theorem ajt {t t2 : TypeId} {x y : Operand} {k k' : IntKind} {a b : Int} (hx : am R x = .raw (.int k a)) (hy : am R y = .raw (.int k' b)) (h0 : 0 <= b) (h1 : b <= k.bits)
     : Stp P n (.binOp .shr t x y t2) ty R H (.raw (.int k (a / 2 ^ b.toNat))) :=
  k9 hx hy (by rw [binOp_shr, shift_shr _ _ _ _ h0 h1])
class IntT (P : Program) (t : TypeId) (k : outParam IntKind) : Prop where
  h : P.underlying t = some (.int k)
class KnownT (P : Program) (t : TypeId) : Prop where
  h : (P.underlying t).isSome = true
theorem wy {s t : TypeId} {x : Operand} {k k' : IntKind} {a : Int} [hT : IntT P t k'] [hS : KnownT P s] (hx : am R x = .raw (.int k a))
     : Stp P n (.convert s t x) ty R H (.raw (.int k' (k'.wrap a))) :=
  du fun o ho _ g ac w hp => by
    have h1 := rv hp hx; simp only [Rep] at h1; obtain ⟨d', hd'⟩ := Option.isSome_iff_exists.mp hS.h; exact ⟨.int k' (k'.wrap a), by simp [execOp, ho, h1, convert, run_underlying hd', run_underlying hT.h, Conv.intToInt], by simp only [Rep]⟩
theorem ap1 {s t : TypeId} {x : Operand} {k k' : IntKind} {a : Int} [hT : IntT P t k'] [hS : KnownT P s] (hx : am R x = .raw (.int k a)) (hw : k'.wrap a = a)
     : Stp P n (.convert s t x) ty R H (.raw (.int k' a)) :=
  by have := wy (P := P) (n := n) (H := H) (ty := ty) (s := s) (t := t) (k' := k') hx; rwa [hw] at this
theorem akn {t : TypeId} {x : Operand} {p : Prop} [Decidable p] (hx : am R x = .raw (.bool (decide p)))
     : Stp P n (.unOp .not t x) ty R H (.raw (.bool (decide (¬ p)))) :=
  du fun o ho _ g ac w hp => by
    have h1 := rv hp hx; simp only [Rep] at h1; exact ⟨.bool (decide (¬ p)), by simp [execOp, ho, h1, Op.unary], by simp only [Rep]⟩
theorem pn {t : TypeId} {x : Operand} {b : Bool} (hx : am R x = .raw (.bool b))
     : Stp P n (.unOp .not t x) ty R H (.raw (.bool (!b))) :=
  du fun o ho _ g ac w hp => by
    have h1 := rv hp hx; simp only [Rep] at h1; exact ⟨.bool (!b), by simp [execOp, ho, h1, Op.unary], by simp only [Rep]⟩
theorem aoc {t : TypeId} {x : Operand} {k : IntKind} {a : Int} (hx : am R x = .raw (.int k a))
     : Stp P n (.unOp .xor t x) ty R H (.raw (.int k (bits .xor k (if k.signed then -1 else k.max) a))) :=
  du fun o ho _ g ac w hp => by
    have h1 := rv hp hx; simp only [Rep] at h1; exact ⟨.int k (bits .xor k (if k.signed then -1 else k.max) a), by simp [execOp, ho, h1, Op.unary, intBits_xor], by simp only [Rep]⟩
theorem ah1 {t : TypeId} {x : Operand} {k : IntKind} {a : Int} (hx : am R x = .raw (.int k a))
     : Stp P n (.unOp .neg t x) ty R H (.raw (.int k (k.wrap (0 - a)))) :=
  du fun o ho _ g ac w hp => by
    have h1 := rv hp hx; simp only [Rep] at h1; exact ⟨.int k (k.wrap (0 - a)), by simp [execOp, ho, h1, Op.unary, Op.intArith], by simp only [Rep]⟩
end
end Go.Am
