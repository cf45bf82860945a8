import Derived.Test.YtbciofnejefkiaaIz
import Derived.Test.YtbciofnejefkiaaIa4
import Derived.Test.YtbciofnejefkiaaAmDrawD
set_option linter.unusedVariables false
set_option linter.unusedSimpArgs false
set_option maxRecDepth 20000
set_option maxHeartbeats 4000000
namespace Go.Proofs.Ytbciofnejefkiaa
open Go Go.Am Go.Proofs
theorem wt (u : Nat) : b64 (unzig u) := by
  unfold unzig; show -9223372036854775808 <= IntKind.i64.wrap _ /\ IntKind.i64.wrap _ <= 9223372036854775807
  rw [IntKind.wrap_i64]; omega
theorem RU_at {b b' : List UInt8} {u : Nat} {g : Bool} (e : rd b = (u, b', g)) (H : AHeap) (o : Nat) (f : Bool) (h : H o = some (.cel [.bys b, .raw (.bool f)])) (hb : b.length <= 4000000000) :
    ACalls Try.prog 57 [.ptr o 0] H fun r H' => r = .raw (.int .u64 (u : Int)) /\ H' = H.set o (.cel [.bys b', .raw (.bool (f || g))]) := by
  have := RU_calls H o b f h hb; rw [e] at this; exact this
theorem RI_at {b b' : List UInt8} {u : Nat} {g : Bool} {v : Int} (e : rd b = (u, b', g)) (hv : unzig u = v) (H : AHeap) (o : Nat) (f : Bool) (h : H o = some (.cel [.bys b, .raw (.bool f)])) (hb : b.length <= 4000000000) :
    ACalls Try.prog 82 [.ptr o 0] H fun r H' => r = mI v /\ H' = H.set o (.cel [.bys b', .raw (.bool (f || g))]) := by
  have := RI_calls H o b f h hb; rw [e] at this; subst hv; exact this
abbrev RS := List UInt8 × Bool
def stN (s : RS) : RS := ((rd s.1).2.1, s.2 || (rd s.1).2.2)
def vlN (s : RS) : Nat := (rd s.1).1
theorem fp {b b' : List UInt8} {u : Nat} {g f : Bool} (e : rd b = (u, b', g)) : stN (b, f) = (b', f || g) := by rw [stN, e]
theorem fj {b b' : List UInt8} {u : Nat} {g f : Bool} (e : rd b = (u, b', g)) : vlN (b, f) = u := by rw [vlN, e]
def Mg0 : Mg := ⟨0, 0, 0, 0, 0, 0, 0, [], []⟩
def s7 (t : List UInt8) : RS := stN (stN (stN (stN (stN (stN (stN (t, false)))))))
def mgT (t : List UInt8) (l : List En) (b : List UInt8) : Mg :=
  ⟨unzig (vlN (t, false)), unzig (vlN (stN (t, false))), unzig (vlN (stN (stN (t, false)))), vlN (stN (stN (stN (t, false)))), vlN (stN (stN (stN (stN (t, false))))), vlN (stN (stN (stN (stN (stN (t, false)))))), vlN (stN (stN (stN (stN (stN (stN (t, false))))))), l, b⟩
def getT (t : List UInt8) : Option Mg :=
  if (entsB (s7 t).1 (s7 t).2).2.2.2 = false then none
  else if ((entsB (s7 t).1 (s7 t).2).2.2.1 || (rs (entsB (s7 t).1 (s7 t).2).2.1).2.2) = true \/ (rs (entsB (s7 t).1 (s7 t).2).2.1).2.1 ≠ [] \/ ¬ (mgT t (entsB (s7 t).1 (s7 t).2).1 (rs (entsB (s7 t).1 (s7 t).2).2.1).1).good then none
  else some (mgT t (entsB (s7 t).1 (s7 t).2).1 (rs (entsB (s7 t).1 (s7 t).2).2.1).1)
def getM (b : List UInt8) : Option Mg := if (takeF b).2.2 = 0 \/ (takeF b).2.2 ≠ b.length \/ (takeF b).1 ≠ 0 then none else getT (takeF b).2.1
def outM : Option Mg -> AV
  | none => .tup [.agg Mg0.cells, .raw (.int .i64 (3 : Int))]
  | some m => .tup [.agg m.cells, .raw (.int .i64 (0 : Int))]
theorem ajc {P : Program} {n : Nat} {ops : Array Oper} {rest : List Oper} {K : Exit -> Regs -> AHeap -> Prop} {R : Regs} {H : AHeap} (Φ : AHeap -> Prop) (h : Φ H) (hk : ∀ H3, Φ H3 -> AWL P n ops rest K R H3) : AWL P n ops rest K R H := hk H h
theorem aov {b : List UInt8} {e : En} (h : getE b = some e) : e.Ok := by
  unfold getE at h; split at h
  · cases h
  split at h
  · cases h
  cases h
  refine ⟨k8 _, k8 _, ?_⟩
  have : ∀ (n : Nat) (b : List UInt8) (f : Bool), ∀ v ∈ (rdIs n b f).1, b64 v := by
    intro n
    induction n with
    | zero => intro b f v hv; cases hv
    | succ n ih =>
      intro b f v hv; rw [rdIs] at hv; rcases List.mem_cons.1 hv with rfl | hv
      · exact wt _
      · exact ih _ _ _ hv
  exact this _ _ _
theorem aa0 : ∀ (n : Nat) (b : List UInt8) (f : Bool), ∀ e ∈ (rdEs n b f).1, e.Ok
  | 0, _, _ => fun e h => by cases h
  | n + 1, b, f => fun e h => by
    cases hg : getE (rs b).1 with
    | none => rw [sm hg] at h; cases h
    | some x =>
      rw [ru hg] at h; rcases List.mem_cons.1 h with rfl | h
      · exact aov hg
      · exact aa0 n _ _ e h
theorem agy : ∀ (n : Nat) (b : List UInt8) (f : Bool), (rdEs n b f).1.length <= n
  | 0, _, _ => Nat.le_refl _
  | n + 1, b, f => by
    cases hg : getE (rs b).1 with
    | none => rw [sm hg]; simp
    | some x => rw [ru hg]; have := agy n (rs b).2.1 (f || (rs b).2.2); simp; omega
theorem ad1 : ∀ (n : Nat) (b : List UInt8) (f : Bool), (rdEs n b f).2.1.length <= b.length
  | 0, _, _ => Nat.le_refl _
  | n + 1, b, f => by
    have hr := um b
    cases hg : getE (rs b).1 with
    | none => rw [sm hg]; exact hr
    | some x => rw [ru hg]; exact Nat.le_trans (ad1 n _ _) hr
theorem al0 (b : List UInt8) (f : Bool) : (∀ e ∈ (entsB b f).1, e.Ok) /\ (entsB b f).1.length <= 200 /\ (entsB b f).2.1.length <= b.length := by
  have hl := iy b; unfold entsB; split
  · exact ⟨fun e h => (by cases h), Nat.zero_le _, hl⟩
  · exact ⟨aa0 _ _ _, Nat.le_trans (agy _ _ _) (by omega), Nat.le_trans (ad1 _ _ _) hl⟩
theorem air {b : List UInt8} {f : Bool} {x : List En × List UInt8 × Bool × Bool} (hx : entsB b f = x) (oR oM oZ : Nat) (xs zs : List AV) (hM : oM ≠ oR) (hZ : oZ ≠ oR) (H : AHeap) (h : H oR = some (.cel [.bys b, .raw (.bool f)])) (hb : b.length <= 100000000) (h2 : H oM = some (.cel xs)) (h3 : H oZ = some (.cel zs)) :
    ACalls Try.prog 88 [.ptr oR 0] H fun r H' => r = outEs x /\ H' oR = some (.cel [.bys x.2.1, .raw (.bool x.2.2.1)]) /\ H' oM = some (.cel xs) /\ H' oZ = some (.cel zs) /\ ∀ p y, p ≠ oR -> H p = some y -> H' p = some y :=
  (ank H oR b f h hb).mono fun r H' hh => by
    obtain ⟨e1, e2, e3⟩ := hh; subst hx; exact ⟨e1, e2, e3 _ _ hM h2, e3 _ _ hZ h3, e3⟩
set_option maxHeartbeats 40000000 in
theorem Get_calls (H : AHeap) (b : List UInt8) (hb : b.length <= 100000000) :
    ACalls Try.prog 69 [.bys b] H fun r H' => r = outM (getM b) /\ H' = H := by
  have z1 := ame b; have z3 := alh b; have hT := fun H => Take_calls H b (by omega)
  unfold getM; generalize takeF b = x at *; obtain ⟨num, t, sz⟩ := x; simp only at z1 z3 hT ⊢; obtain ⟨u1, b1, g1, e1⟩ : ∃ u c g, rd t = (u, c, g) := ⟨_, _, _, rfl⟩; have l1 := iy t; rw [e1] at l1; simp only at l1; obtain ⟨v1, hv1⟩ : ∃ v, unzig u1 = v := ⟨_, rfl⟩; have r1 := wt u1; rw [hv1] at r1; obtain ⟨u2, b2, g2, e2⟩ : ∃ u c g, rd b1 = (u, c, g) := ⟨_, _, _, rfl⟩; have l2 := iy b1; rw [e2] at l2; simp only at l2; obtain ⟨v2, hv2⟩ : ∃ v, unzig u2 = v := ⟨_, rfl⟩; have r2 := wt u2; rw [hv2] at r2; obtain ⟨u3, b3, g3, e3⟩ : ∃ u c g, rd b2 = (u, c, g) := ⟨_, _, _, rfl⟩; have l3 := iy b2; rw [e3] at l3; simp only at l3; obtain ⟨v3, hv3⟩ : ∃ v, unzig u3 = v := ⟨_, rfl⟩; have r3 := wt u3; rw [hv3] at r3; obtain ⟨u4, b4, g4, e4⟩ : ∃ u c g, rd b3 = (u, c, g) := ⟨_, _, _, rfl⟩; have l4 := iy b3; rw [e4] at l4; simp only at l4; obtain ⟨u5, b5, g5, e5⟩ : ∃ u c g, rd b4 = (u, c, g) := ⟨_, _, _, rfl⟩; have l5 := iy b4; rw [e5] at l5; simp only at l5; obtain ⟨u6, b6, g6, e6⟩ : ∃ u c g, rd b5 = (u, c, g) := ⟨_, _, _, rfl⟩; have l6 := iy b5; rw [e6] at l6; simp only at l6; obtain ⟨u7, b7, g7, e7⟩ : ∃ u c g, rd b6 = (u, c, g) := ⟨_, _, _, rfl⟩; have l7 := iy b6; rw [e7] at l7; simp only at l7; refine ej Try.func69 rfl (by decide) ?_
  focus (refine az ?_; refine cz rfl rfl rfl (fun oN hoN => ?_); refine dk ?_; refine ei ?_; (refine zc ah (hT _) ?_; rintro r H' ⟨rfl, rfl⟩); refine jj ?_; refine ae rfl (kw rfl rfl) ?_; refine dq ?_; refine kv ?_; refine bc ?_; refine bz ?_; refine fh ?_; refine an ?_; refine zg2 rfl rfl rfl (fun hc => ?_) (fun hc => ?_); refine gp ?_; refine fb ?_; refine bu ?_; refine an ?_; refine gp ?_; refine bu ?_; refine gy ?_; refine az ?_; refine jn ?_; refine jx ?_; refine bn ?_; refine db ?_; rotate_left; refine ep ?_; refine ei ?_; refine a0 ?_; refine mh ?_; refine a0 ?_; refine jk ?_; refine jv ?_; refine zg2 rfl rfl rfl (fun hc => ?_) (fun hc => ?_); refine fb ?_; refine bu ?_; refine gy ?_; refine az ?_; refine jn ?_; refine jx ?_; refine bn ?_; refine db ?_; rotate_left; refine ep ?_; refine jk ?_; refine cd ?_; refine aq ?_; refine ax rfl (fun hc => ?_) (fun hc => ?_); refine az ?_; refine jn ?_; refine jx ?_; refine bn ?_; refine db ?_; rotate_left; refine cy ?_; refine az ?_; refine ei ?_; (refine zc ah (adp _ _ cq) ?_; rintro r H' ⟨oR, hoR, rfl, rfl⟩); refine ku ?_; refine aq ?_; refine dg ?_; rotate_left)
  · exact ⟨.inl rfl, _, _, _, aro 2 Mg0.cells rfl aa df vr, i7 rfl (dr (m := 9) rfl rfl rfl (by decide)) (gu rfl), by rw [if_pos (.inl hc)]; rfl, rfl⟩
  · exact ⟨.inl rfl, _, _, _, aro 2 Mg0.cells rfl aa df vr, i7 rfl (dr (m := 9) rfl rfl rfl (by decide)) (gu rfl), by rw [if_pos (.inr (.inl hc))]; rfl, rfl⟩
  · exact ⟨.inl rfl, _, _, _, aro 2 Mg0.cells rfl aa df vr, i7 rfl (dr (m := 9) rfl rfl rfl (by decide)) (gu rfl), by rw [if_pos (.inr (.inr hc))]; rfl, rfl⟩
  rename_i hc1 hc2
  have hoZ := hoN; clear hoN; generalize oN = oZ at *; rw [if_neg (fun h => h.elim hc1 (fun h => h.elim hc2 hc))]
  refine qr (Ent.sub (R0 := [(31, .ptr oR 0), (7, .ptr oR 0), (2, .ptr oZ 0)]) _ (by (repeat' (first | exact RSub.nil _ | apply RSub.cons)); all_goals rfl)) ?_
  focus ((refine zc ah (RI_at (by assumption) (by assumption) _ _ _ (arn _ _ _) (by omega)) ?_; rintro r H' ⟨rfl, rfl⟩); refine cu ?_; (refine zc ah (RI_at (by assumption) (by assumption) _ _ _ (arn _ _ _) (by omega)) ?_; rintro r H' ⟨rfl, rfl⟩); refine cu ?_; (refine zc ah (RI_at (by assumption) (by assumption) _ _ _ (arn _ _ _) (by omega)) ?_; rintro r H' ⟨rfl, rfl⟩); refine cu ?_; (refine zc ah (RU_at (by assumption) _ _ _ (arn _ _ _) (by omega)) ?_; rintro r H' ⟨rfl, rfl⟩); refine cu ?_; (refine zc ah (RU_at (by assumption) _ _ _ (arn _ _ _) (by omega)) ?_; rintro r H' ⟨rfl, rfl⟩); refine cu ?_; (refine zc ah (RU_at (by assumption) _ _ _ (arn _ _ _) (by omega)) ?_; rintro r H' ⟨rfl, rfl⟩); refine cu ?_; (refine zc ah (RU_at (by assumption) _ _ _ (arn _ _ _) (by omega)) ?_; rintro r H' ⟨rfl, rfl⟩); refine jn ?_; refine cz rfl rfl rfl (fun oN hoN => ?_); refine jx ?_; refine il ?_; refine bc ?_; refine bq ?_; refine cu ?_)
  obtain ⟨f7, hf7⟩ : ∃ f, (false || g1 || g2 || g3 || g4 || g5 || g6 || g7) = f := ⟨_, rfl⟩
  rw [hf7]; refine qr (Ent.sub (R0 := [(47, .ptr oR 0), (9, .raw (.int .i64 (0 : Int))), (8, .ptr oN 0), (7, .ptr oR 0), (2, .ptr oZ 0)]) _ (by (repeat' (first | exact RSub.nil _ | apply RSub.cons)); all_goals rfl)) ?_
  refine ajc (fun H3 => (oZ ≠ oR /\ oN ≠ oR /\ oZ ≠ oN /\ H oZ = none /\ H oR = none /\ H oN = none) /\ H3 oZ = some (.cel [.raw (.int .i64 (0 : Int)), .raw (.int .i64 (0 : Int)), .raw (.int .i64 (0 : Int)), .raw (.int .u64 (0 : Int)), .raw (.int .u64 (0 : Int)), .raw (.int .u64 (0 : Int)), .raw (.int .u64 (0 : Int)), .raw (.slice none 0 0), .raw (.slice none 0 0)]) /\
    H3 oN = some (.cel [mI v1, mI v2, mI v3, .raw (.int .u64 (u4 : Int)), .raw (.int .u64 (u5 : Int)), .raw (.int .u64 (u6 : Int)), .raw (.int .u64 (u7 : Int)), .raw (.slice none 0 0), .raw (.slice none 0 0)]) /\ H3 oR = some (.cel [.bys b7, .raw (.bool f7)]) /\ (∀ p y, H p = some y -> H3 p = some y))
    ⟨⟨by exact ed, by exact ed, by exact ed, by exact ka, by exact ka, by exact ka⟩, aa, aa, aa, fun p y hp => aa⟩ ?_
  rintro H3 ⟨⟨m1, m2, m3, n1, n2, n3⟩, q1, q2, q3, hfr⟩
  have hgt : getT t = if (entsB b7 f7).2.2.2 = false then none
    else if ((entsB b7 f7).2.2.1 || (rs (entsB b7 f7).2.1).2.2) = true \/ (rs (entsB b7 f7).2.1).2.1 ≠ [] \/ ¬ (⟨v1, v2, v3, u4, u5, u6, u7, (entsB b7 f7).1, (rs (entsB b7 f7).2.1).1⟩ : Mg).good then none
    else some ⟨v1, v2, v3, u4, u5, u6, u7, (entsB b7 f7).1, (rs (entsB b7 f7).2.1).1⟩ := by
    unfold getT s7 mgT; simp only [fp e1, fj e1, fp e2, fj e2, fp e3, fj e3, fp e4, fj e4, fp e5, fj e5, fp e6, fj e6, fp e7, fj e7, hv1, hv2, hv3, hf7]
  rw [hgt]; have hu4 := k8 b3; have hu5 := k8 b4; have hu6 := k8 b5; have hu7 := k8 b6; rw [e4] at hu4; rw [e5] at hu5; rw [e6] at hu6; rw [e7] at hu7; simp only at hu4 hu5 hu6 hu7; clear hgt e1 e2 e3 e4 e5 e6 e7 hv1 hv2 hv3 hf7 hoN hoR hoZ hc1 hc2 hc; obtain ⟨es, be, fe, ke, hes⟩ : ∃ es be fe ke, entsB b7 f7 = (es, be, fe, ke) := ⟨_, _, _, _, rfl⟩; have hok := al0 b7 f7; rw [hes] at hok ⊢; simp only at hok ⊢; obtain ⟨k1, k2, k3⟩ := hok
  cases ke with
  | false =>
    have hE := fun H => air hes oR oN oZ (zs := [.raw (.int .i64 (0 : Int)), .raw (.int .i64 (0 : Int)), .raw (.int .i64 (0 : Int)), .raw (.int .u64 (0 : Int)), .raw (.int .u64 (0 : Int)), .raw (.int .u64 (0 : Int)), .raw (.int .u64 (0 : Int)), .raw (.slice none 0 0), .raw (.slice none 0 0)]) m2 m1 H (xs := [mI v1, mI v2, mI v3, .raw (.int .u64 (u4 : Int)), .raw (.int .u64 (u5 : Int)), .raw (.int .u64 (u6 : Int)), .raw (.int .u64 (u7 : Int)), .raw (.slice none 0 0), .raw (.slice none 0 0)])
    simp only [outEs, Bool.false_eq_true, if_false] at hE
    focus ((refine zc ah (hE _ q3 (by omega) q2 q1) ?_; rintro r H' ⟨rfl, j1, j2, j3, hf2⟩); refine jj ?_; refine iu ?_; refine gv ?_; refine dk ?_; refine an ?_; refine jk ?_; refine aq ?_; refine ax rfl (fun hc => ?_) (fun hc => ?_); refine az ?_; refine jn ?_; refine an ?_; refine kn ?_; refine bn ?_; refine db ?_; rotate_left; exact absurd hc aj)
    exact ⟨.inl rfl, _, _, _, aro 2 Mg0.cells rfl aa df (fun p y hp => by have hp2 := hf2 _ _ (arr n2 hp) (hfr _ _ hp); exact ⟨by exact ed, aa⟩), i7 rfl (dr (m := 9) rfl rfl rfl (by decide)) (gu rfl), by rw [if_pos rfl]; rfl, rfl⟩
  | true =>
    have hE := fun H => air hes oR oN oZ (zs := [.raw (.int .i64 (0 : Int)), .raw (.int .i64 (0 : Int)), .raw (.int .i64 (0 : Int)), .raw (.int .u64 (0 : Int)), .raw (.int .u64 (0 : Int)), .raw (.int .u64 (0 : Int)), .raw (.int .u64 (0 : Int)), .raw (.slice none 0 0), .raw (.slice none 0 0)]) m2 m1 H (xs := [mI v1, mI v2, mI v3, .raw (.int .u64 (u4 : Int)), .raw (.int .u64 (u5 : Int)), .raw (.int .u64 (u6 : Int)), .raw (.int .u64 (u7 : Int)), .raw (.slice none 0 0), .raw (.slice none 0 0)])
    simp only [outEs, if_true] at hE; rw [if_neg (by decide)]
    have s1 := xt be; have s2 := um be; have hS := fun H f h => RS_calls H oR be f h (by omega)
    generalize rs be = x at *; obtain ⟨sb, b9, f9⟩ := x; simp only at s1 s2 hS ⊢; have hG := fun H => Good_calls H ⟨v1, v2, v3, u4, u5, u6, u7, es, sb⟩ ⟨r1, r2, r3, hu4, hu5, hu6, hu7, k1⟩ (show es.length <= _ by omega) (show sb.length <= _ by omega)
    generalize hm : (⟨v1, v2, v3, u4, u5, u6, u7, es, sb⟩ : Mg) = m at *; have hmc : m.cells = [mI v1, mI v2, mI v3, .raw (.int .u64 (u4 : Int)), .raw (.int .u64 (u5 : Int)), .raw (.int .u64 (u6 : Int)), .raw (.int .u64 (u7 : Int)), .sls es.length (es.flatMap En.cells), .bys sb] := by rw [<- hm]; rfl
    rw [hmc] at hG
    focus ((refine zc ah (hE _ q3 (by omega) q2 q1) ?_; rintro r H' ⟨rfl, j1, j2, j3, hf2⟩); refine jj ?_; refine iu ?_; refine gv ?_; refine dk ?_; refine an ?_; refine jk ?_; refine aq ?_; refine gh ?_; intro hc; refine dg ?_; (refine zc ah (hS _ _ aa) ?_; rintro r H' ⟨rfl, rfl⟩); refine ae rfl (uy rfl) ?_; refine iu ?_; refine gv ?_; refine aq ?_; refine bq ?_; refine cu ?_; (refine zc ah (nm _ _ _ _ aa) ?_; rintro r H' ⟨rfl, rfl⟩); refine an ?_; refine zg7 rfl rfl rfl (fun hc => ?_) (fun hc => ?_); refine gp ?_; refine bu ?_; refine an ?_; refine gp ?_; refine fb ?_; refine bu ?_; refine gy ?_; refine az ?_; refine jn ?_; refine kn ?_; refine bn ?_; refine db ?_; rotate_left; refine lx ?_; (refine zc ah (ox _ _ _ _ aa) ?_; rintro r H' ⟨rfl, rfl⟩); refine a0 ?_; refine dw ?_; refine jv ?_; refine zg2 rfl rfl rfl (fun hc => ?_) (fun hc => ?_); refine gp ?_; refine bu ?_; refine gy ?_; refine az ?_; refine jn ?_; refine kn ?_; refine bn ?_; refine db ?_; rotate_left; refine pi ?_; refine a0 ?_; (refine zc ah (hG _) ?_; rintro r H' ⟨rfl, rfl⟩); refine a0 ?_; refine ae rfl (akn rfl) ?_; refine cd ?_; refine aq ?_; refine ax rfl (fun hc => ?_) (fun hc => ?_); refine az ?_; refine jn ?_; refine kn ?_; refine bn ?_; refine db ?_; rotate_left; refine cy ?_; refine az ?_; refine i5 ?_; refine bn ?_; rotate_left)
    · exact ⟨.inl rfl, _, _, _, aro 2 Mg0.cells rfl aa df (fun p y hp => by have hp2 := hf2 _ _ (arr n2 hp) (hfr _ _ hp); exact ⟨by exact ed, aa⟩), i7 rfl (dr (m := 9) rfl rfl rfl (by decide)) (gu rfl), by rw [if_pos (.inl hc)]; rfl, rfl⟩
    · exact ⟨.inl rfl, _, _, _, aro 2 Mg0.cells rfl aa df (fun p y hp => by have hp2 := hf2 _ _ (arr n2 hp) (hfr _ _ hp); exact ⟨by exact ed, aa⟩), i7 rfl (dr (m := 9) rfl rfl rfl (by decide)) (gu rfl), by rw [if_pos (.inr (.inl (List.length_pos_iff.1 hc)))]; rfl, rfl⟩
    · exact ⟨.inl rfl, _, _, _, aro 2 Mg0.cells rfl aa df (fun p y hp => by have hp2 := hf2 _ _ (arr n2 hp) (hfr _ _ hp); exact ⟨by exact ed, aa⟩), i7 rfl (dr (m := 9) rfl rfl rfl (by decide)) (gu rfl), by rw [if_pos (.inr (.inr hc))]; rfl, rfl⟩
    · rename_i c1 c2
      rw [if_neg (fun h => h.elim (fun h => by rw [c1] at h; cases h) (fun h => h.elim (fun h => c2 (List.length_pos_iff.2 h)) hc))]
      exact ⟨.inl rfl, _, _, _, aro 2 [mI v1, mI v2, mI v3, .raw (.int .u64 (u4 : Int)), .raw (.int .u64 (u5 : Int)), .raw (.int .u64 (u6 : Int)), .raw (.int .u64 (u7 : Int)), .sls es.length (es.flatMap En.cells), .bys sb] rfl aa df (fun p y hp => by have hp2 := hf2 _ _ (arr n2 hp) (hfr _ _ hp); exact ⟨by exact ed, aa⟩), i7 rfl (dr (m := 9) rfl rfl rfl (by decide)) (gu rfl), by rw [outM, hmc]; rfl, rfl⟩
end Go.Proofs.Ytbciofnejefkiaa
namespace Go.Proofs.Ytbciofnejefkiaa
open Go Go.Am Go.Proofs
theorem ajr : ∀ (l : List Int) (r : List UInt8) (f : Bool), (∀ v ∈ l, b64 v) -> rdIs l.length (encR l ++ r) f = (l, r, f)
  | [], r, f, _ => rfl
  | v :: l, r, f, h => by
    have hv := h v (List.mem_cons_self); have e : encR (v :: l) ++ r = encU 10 (zig v) ++ (encR l ++ r) := by simp [encR]
    rw [List.length_cons, rdIs, e, xj]; simp only [Bool.or_false]; rw [ajr l r f fun x hx => h x (List.mem_cons_of_mem _ hx), yy hv.1 hv.2]
theorem ai4 : ∀ l : List Int, l.length <= (encR l).length
  | [] => Nat.zero_le _
  | v :: l => by
    have := aib 10 (zig v); have := ai4 l; have e : encR (v :: l) = encU 10 (zig v) ++ encR l := by simp [encR]
    rw [e, List.length_append, List.length_cons]; omega
theorem akj (e : En) (ok : e.Ok) (hl : e.row.length < 2 ^ 64) : getE (encE e) = some e := by
  have e1 : rd (encE e) = (e.id, encU 10 e.view ++ encU 10 e.row.length ++ encR e.row, false) := by
    rw [show encE e = encU 10 e.id ++ (encU 10 e.view ++ encU 10 e.row.length ++ encR e.row) by simp [encE]]
    exact kt ok.id _
  have e2 : rd (encU 10 e.view ++ encU 10 e.row.length ++ encR e.row) = (e.view, encU 10 e.row.length ++ encR e.row, false) := by
    rw [List.append_assoc]; exact kt ok.view _
  have e3 : rd (encU 10 e.row.length ++ encR e.row) = (e.row.length, encR e.row, false) := kt hl _
  have hh : hdE (encE e) = (e.row.length, encR e.row, false) := by
    unfold hdE; simp only [e1, e2, e3, Bool.or_false]
  have hr := ajr e.row [] false ok.row; rw [List.append_nil] at hr; have := ai4 e.row; unfold getE; rw [hh]; simp only [hr, e1, e2]; rw [if_neg (by omega), if_neg (by simp)]
theorem acw : ∀ (l : List En) (r : List UInt8), (∀ e ∈ l, e.Ok /\ e.row.length < 2 ^ 60) -> rdEs l.length (cn l ++ r) false = (l, r, false, true)
  | [], r, _ => rfl
  | e :: l, r, h => by
    obtain ⟨h1, h2⟩ := h e (List.mem_cons_self); have hl := adb e; have e0 : cn (e :: l) ++ r = encU 10 (encE e).length ++ encE e ++ (cn l ++ r) := by simp [cn, enc1]
    have e1 := agf (s := encE e) (by omega) (cn l ++ r)
    have hg : getE (rs (cn (e :: l) ++ r)).1 = some e := by rw [e0, e1]; exact akj e h1 (by omega)
    rw [List.length_cons, ru hg, e0, e1]; simp only [Bool.or_false]; rw [acw l r fun x hx => h x (List.mem_cons_of_mem _ hx)]
theorem ant {m : Mg} (h : m.plain) : ∀ e ∈ m.ents, e.row.length <= 64 := fun e he => ahi h.2.2.2.2.2 he
theorem ak2 (m : Mg) (ok : m.Ok) (hp : m.good) : getT (textB m) = some m := by
  have hr := ant hp.1; have hn := hp.1.2.2.2.1; have hb := hp.1.2.2.2.2.1; obtain ⟨k, f, t, vw, la, op, co, es, body⟩ := m; obtain ⟨o1, o2, o3, o4, o5, o6, o7, o8⟩ := ok; simp only at hr hn hb o1 o2 o3 o4 o5 o6 o7 o8
  have t0 : textB ⟨k, f, t, vw, la, op, co, es, body⟩ = encU 10 (zig k) ++ (encU 10 (zig f) ++ (encU 10 (zig t) ++ (encU 10 vw ++ (encU 10 la ++ (encU 10 op ++ (encU 10 co ++ (encU 10 es.length ++ (cn es ++ (encU 10 body.length ++ body))))))))) := by
    simp [textB, encR, jy]
  have q1 := xj k (encU 10 (zig f) ++ (encU 10 (zig t) ++ (encU 10 vw ++ (encU 10 la ++ (encU 10 op ++ (encU 10 co ++ (encU 10 es.length ++ (cn es ++ (encU 10 body.length ++ body))))))))); have q2 := xj f (encU 10 (zig t) ++ (encU 10 vw ++ (encU 10 la ++ (encU 10 op ++ (encU 10 co ++ (encU 10 es.length ++ (cn es ++ (encU 10 body.length ++ body)))))))); have q3 := xj t (encU 10 vw ++ (encU 10 la ++ (encU 10 op ++ (encU 10 co ++ (encU 10 es.length ++ (cn es ++ (encU 10 body.length ++ body))))))); have q4 := kt o4 (encU 10 la ++ (encU 10 op ++ (encU 10 co ++ (encU 10 es.length ++ (cn es ++ (encU 10 body.length ++ body)))))); have q5 := kt o5 (encU 10 op ++ (encU 10 co ++ (encU 10 es.length ++ (cn es ++ (encU 10 body.length ++ body))))); have q6 := kt o6 (encU 10 co ++ (encU 10 es.length ++ (cn es ++ (encU 10 body.length ++ body)))); have q7 := kt o7 (encU 10 es.length ++ (cn es ++ (encU 10 body.length ++ body))); have q8 := kt (show es.length < 2 ^ 64 by omega) (cn es ++ (encU 10 body.length ++ body))
  have q9 := acw es (encU 10 body.length ++ body) fun e he => ⟨o8 e he, by have := hr e he; omega⟩
  have q10 := agf (s := body) (by omega) []
  rw [List.append_nil] at q10
  have hen : entsB (encU 10 es.length ++ (cn es ++ (encU 10 body.length ++ body))) false = (es, encU 10 body.length ++ body, false, true) := by
    rw [entsB, q8]; simp only [Bool.or_false]; rw [if_neg (by omega), q9]
  unfold getT s7 mgT; rw [t0]; simp only [fp q1, fj q1, fp q2, fj q2, fp q3, fj q3, fp q4, fj q4, fp q5, fj q5, fp q6, fj q6, fp q7, fj q7, Bool.or_false, hen, q10, yy o1.1 o1.2, yy o2.1 o2.2, yy o3.1 o3.2]; rw [if_neg (by decide), if_neg (by simp [hp])]
theorem aoa (m : Mg) (ok : m.Ok) (hp : m.good) : getM (frame 0 (textB m)) = some m := by
  have ht := al9 0 (textB m) [] (by decide) hp.2
  rw [List.append_nil] at ht; have hl := yj 0 (textB m); unfold getM; rw [ht]; simp only; rw [if_neg (by rw [hl]; omega), ak2 m ok hp]
theorem abj {m : Mg} (h : m.good) : putB m = frame 0 (textB m) := if_pos h
theorem Get_put (H : AHeap) (m : Mg) (ok : m.Ok) (hg : m.good) : ACalls Try.prog 69 [.bys (putB m)] H fun r H' => r = .tup [.agg m.cells, .raw (.int .i64 (0 : Int))] /\ H' = H := by
  have hl := yj 0 (textB m); have := Get_calls H (putB m) (by rw [abj hg, hl]; have := hg.2; omega)
  rw [abj hg, aoa m ok hg] at this; rw [abj hg]; exact this
end Go.Proofs.Ytbciofnejefkiaa
namespace Go.Proofs.Ytbciofnejefkiaa
open Go Go.Am Go.Proofs
def rdC (x : Ag.Rd) : List AV := [uI x.kind, uI x.view, uI x.last, uI x.agreed, lsE x.list]
def Rd0 : Ag.Rd := ⟨0, 0, 0, 0, []⟩
theorem nr {P : Program} {n : Nat} {code : Code} {K : Exit -> Regs -> AHeap -> Prop} {R : Regs} {H : AHeap} (Φ : AHeap -> Prop) (h : Φ H) (hk : ∀ H3, Φ H3 -> AW P n code K R H3) : AW P n code K R H := hk H h
def stK : Nat -> RS -> RS
  | 0, s => s
  | k + 1, s => stK k (stN s)
def rdX (b : List UInt8) : Ag.Rd := ⟨vlN (stK 2 (b, false)), vlN (stK 3 (b, false)), vlN (stK 4 (b, false)), vlN (stK 5 (b, false)), (rdEs (vlN (stK 6 (b, false))) (stK 7 (b, false)).1 (stK 7 (b, false)).2).1⟩
def parOk (me n : Nat) (b : List UInt8) : Prop :=
  vlN (b, false) = me /\ vlN (stK 1 (b, false)) = n /\ vlN (stK 6 (b, false)) <= 200 /\ (rdEs (vlN (stK 6 (b, false))) (stK 7 (b, false)).1 (stK 7 (b, false)).2).2 = ([], false, true) /\ (rdX b).ok
instance (me n : Nat) (b : List UInt8) : Decidable (parOk me n b) := by unfold parOk; infer_instance
theorem anu {b : List UInt8} {e : En} (h : getE b = some e) : e.row.length <= b.length := by
  unfold getE at h; split at h
  · cases h
  next h1 =>
  split at h
  · cases h
  cases h
  show (rdIs _ _ _).1.length <= _
  rw [abo]; have a1 := iy b; have a2 := iy (rd b).2.1; have a3 := iy (rd (rd b).2.1).2.1; have h2 : (hdE b).2.1 = (rd (rd (rd b).2.1).2.1).2.1 := rfl; rw [h2] at h1; omega
theorem aig : ∀ (n : Nat) (b : List UInt8) (f : Bool), ∀ e ∈ (rdEs n b f).1, e.row.length <= b.length
  | 0, _, _ => fun e h => by cases h
  | n + 1, b, f => fun e h => by
    have l2 := xt b; have l3 := um b
    cases hg : getE (rs b).1 with
    | none => rw [sm hg] at h; cases h
    | some x =>
      rw [ru hg] at h; rcases List.mem_cons.1 h with rfl | h
      · have := anu hg; omega
      · have := aig n _ _ e h; omega
theorem al7 (H : AHeap) (o : Nat) (c : Ag.Co) (og oh : Nat) (wv : AV) (b : List UInt8) (h : H o = some (.cel (bo c og oh wv))) (hm : c.me < 7) (h7 : c.n <= 7) (hb : b.length <= 1000000) :
    ACalls Try.prog 32 [.ptr o 0, .bys b] H fun r H' => (∃ x : Ag.Rd, r = .tup [.agg (rdC x), bB (decide (parOk c.me c.n b))] /\ (parOk c.me c.n b -> x = rdX b)) /\ H' = H := by
  unfold bo at h; obtain ⟨u1, b1, g1, e1⟩ : ∃ u c g, rd b = (u, c, g) := ⟨_, _, _, rfl⟩; have l1 := iy b; have w1 := k8 b; rw [e1] at l1 w1; simp only at l1 w1; obtain ⟨u2, b2, g2, e2⟩ : ∃ u c g, rd b1 = (u, c, g) := ⟨_, _, _, rfl⟩; have l2 := iy b1; have w2 := k8 b1; rw [e2] at l2 w2; simp only at l2 w2; obtain ⟨u3, b3, g3, e3⟩ : ∃ u c g, rd b2 = (u, c, g) := ⟨_, _, _, rfl⟩; have l3 := iy b2; have w3 := k8 b2; rw [e3] at l3 w3; simp only at l3 w3; obtain ⟨u4, b4, g4, e4⟩ : ∃ u c g, rd b3 = (u, c, g) := ⟨_, _, _, rfl⟩; have l4 := iy b3; have w4 := k8 b3; rw [e4] at l4 w4; simp only at l4 w4; obtain ⟨u5, b5, g5, e5⟩ : ∃ u c g, rd b4 = (u, c, g) := ⟨_, _, _, rfl⟩; have l5 := iy b4; have w5 := k8 b4; rw [e5] at l5 w5; simp only at l5 w5; obtain ⟨u6, b6, g6, e6⟩ : ∃ u c g, rd b5 = (u, c, g) := ⟨_, _, _, rfl⟩; have l6 := iy b5; have w6 := k8 b5; rw [e6] at l6 w6; simp only at l6 w6; obtain ⟨u7, b7, g7, e7⟩ : ∃ u c g, rd b6 = (u, c, g) := ⟨_, _, _, rfl⟩; have l7 := iy b6; have w7 := k8 b6; rw [e7] at l7 w7; simp only at l7 w7
  have hst : stK 1 (b, false) = (b1, false || g1) /\ stK 2 (b, false) = (b2, (false || g1) || g2) /\ stK 3 (b, false) = (b3, ((false || g1) || g2) || g3) /\ stK 4 (b, false) = (b4, (((false || g1) || g2) || g3) || g4) /\ stK 5 (b, false) = (b5, ((((false || g1) || g2) || g3) || g4) || g5) /\ stK 6 (b, false) = (b6, (((((false || g1) || g2) || g3) || g4) || g5) || g6) /\ stK 7 (b, false) = (b7, (((((((false || g1) || g2) || g3) || g4) || g5) || g6) || g7)) := by
    simp only [stK, fp e1, fp e2, fp e3, fp e4, fp e5, fp e6, fp e7, and_self]
  obtain ⟨t1, t2, t3, t4, t5, t6, t7⟩ := hst
  have hX : rdX b = ⟨u3, u4, u5, u6, (rdEs u7 b7 (((((((false || g1) || g2) || g3) || g4) || g5) || g6) || g7)).1⟩ := by
    unfold rdX; rw [t2, t3, t4, t5, t6, t7, fj e3, fj e4, fj e5, fj e6, fj e7]
  have hP : parOk c.me c.n b ↔ u1 = c.me /\ u2 = c.n /\ u7 <= 200 /\ (rdEs u7 b7 (((((((false || g1) || g2) || g3) || g4) || g5) || g6) || g7)).2 = ([], false, true) /\ (rdX b).ok := by
    unfold parOk; rw [t1, t6, t7, fj e1, fj e2, fj e7]
  clear t1 t2 t3 t4 t5 t6 t7; refine gm Try.func32 rfl (by decide) ?_
  focus (refine az ?_; refine cz rfl rfl rfl (fun oN hoN => ?_); refine dk ?_; refine ei ?_; (refine zc ah (adp _ _ cq) ?_; rintro r H' ⟨oR, hoR, rfl, rfl⟩); refine ku ?_; refine aq ?_; refine dg ?_; (refine zc ah (RU_at e1 _ _ _ aa (by omega)) ?_; rintro r H' ⟨rfl, rfl⟩); refine cu ?_; (refine zc ah (RU_at e2 _ _ _ aa (by omega)) ?_; rintro r H' ⟨rfl, rfl⟩); refine dq ?_; refine dk ?_; refine cu ?_; (refine zc ah (RU_at e3 _ _ _ aa (by omega)) ?_; rintro r H' ⟨rfl, rfl⟩); refine cu ?_; (refine zc ah (RU_at e4 _ _ _ aa (by omega)) ?_; rintro r H' ⟨rfl, rfl⟩); refine cu ?_; (refine zc ah (RU_at e5 _ _ _ aa (by omega)) ?_; rintro r H' ⟨rfl, rfl⟩); refine cu ?_; (refine zc ah (RU_at e6 _ _ _ aa (by omega)) ?_; rintro r H' ⟨rfl, rfl⟩); refine jn ?_; refine cz rfl rfl rfl (fun oN hoN => ?_); refine jx ?_; refine aq ?_; refine dg ?_; (refine zc ah (RU_at e7 _ _ _ aa (by omega)) ?_; rintro r H' ⟨rfl, rfl⟩); refine bc ?_)
  rename_i oQ hoQ
  have hoX := hoN; generalize hqq : oN = oX at *; clear hqq hoN; refine dy (R' := [(0, .ptr o 0), (4, .ptr oQ 0), (5, bB false), (6, .ptr oR 0), (7, uI u1), (8, uI u2), (9, .ptr oX 0), (10, uI u7)]) (Ent.sub _ (by (repeat' (first | exact RSub.nil _ | apply RSub.cons)); all_goals rfl)) ?_
  have n1 : oR ≠ oQ := arp hoR; have k1 : H oR = none := arm hoR; have k2 : H oX = none := by exact ka
  have n2 : oX ≠ oR := by exact ed
  have n3 : oX ≠ oQ := by
    have hz := hoX
    repeat (first | exact arp hz | replace hz := arm hz)
  have n4 : o ≠ oQ := fun e => by rw [e, hoQ] at h; cases h
  have n5 : o ≠ oR := fun e => by rw [e, k1] at h; cases h
  have n6 : o ≠ oX := fun e => by rw [e, k2] at h; cases h
  generalize (((((((false || g1) || g2) || g3) || g4) || g5) || g6) || g7) = G at *
  clear e1 e2 e3 e4 e5 e6 e7
  refine nr (fun H2 => H2 oR = some (.cel [.bys b7, .raw (.bool G)]) /\ H2 oX = some (.cel [uI u3, uI u4, uI u5, uI u6, .raw (.slice none 0 0)]) /\ H2 oQ = some (.cel (AV.raw (.agg #[.int .u64 0, .int .u64 0, .int .u64 0, .int .u64 0, .slice none 0 0])).parts) /\ ∀ p y, H p = some y -> H2 p = some y) ⟨by exact aa, by exact aa, (by repeat' (first | exact arn _ _ _ | refine arl n1.symm ?_ | refine arl n3.symm ?_)), fun p y hp => by
    have hne : ∀ {q : Nat}, H q = none -> p ≠ q := fun b e => by rw [e, b] at hp; cases hp
    have a1 := hne hoQ; have a2 := hne k1; have a3 := hne k2; exact aa⟩ ?_
  clear hoR hoX; rintro H2 ⟨q1, q2, q3, q4⟩; have hco := q4 _ _ h; clear oN; refine s8 (o := oX) 4 3 q2 rfl (fun oL hoL => ?_)
  have x1 : oL ≠ oR := fun e => by rw [e, q1] at hoL; cases hoL
  have x2 : oL ≠ oX := fun e => by rw [e, q2] at hoL; cases hoL
  have x3 : oL ≠ oQ := fun e => by rw [e, q3] at hoL; cases hoL
  have x4 : H oL = none := by
    cases hx : H oL with
    | none => rfl
    | some y => rw [q4 _ _ hx] at hoL; cases hoL
  refine nr (fun H3 => H3 oR = some (.cel [.bys b7, .raw (.bool G)]) /\ H3 oX = some (.cel [uI u3, uI u4, uI u5, uI u6, .vw oL 3 0 0]) /\ H3 oQ = some (.cel (AV.raw (.agg #[.int .u64 0, .int .u64 0, .int .u64 0, .int .u64 0, .slice none 0 0])).parts) /\ H3 oL = some (.cel []) /\ ∀ p y, H p = some y -> H3 p = some y) ⟨by exact aa, by exact aa, by exact aa, by exact aa, fun p y hp => by
    have hne : ∀ {q : Nat}, H q = none -> p ≠ q := fun b e => by rw [e, b] at hp; cases hp
    have a1 := q4 p y hp; have a2 := hne k2; have a3 := hne x4; exact aa⟩ ?_
  clear q1 q2 q3 q4 hoL hco; clear H2; rintro H2 ⟨q1, q2, q3, q5, q4⟩; have hco := q4 _ _ h; have hfq : ∀ p y, H p = some y -> p ≠ oQ := fun p y hp e => by rw [e, hoQ] at hp; cases hp
  by_cases p1 : u1 = c.me /\ u2 = c.n /\ u7 <= 200
  rotate_left
  · have hno : ¬ parOk c.me c.n b := fun hp => by obtain ⟨a, b, c, _⟩ := hP.1 hp; exact p1 ⟨a, b, c⟩
    rw [decide_eq_false hno]
    focus (refine fq ?_; refine ae rfl (fu rfl (by omega)) ?_; refine jk ?_; refine an ?_; refine zg2 rfl rfl rfl (fun hc => ?_) (fun hc => ?_); refine dp ?_; refine gp ?_; refine bu ?_; refine an ?_; refine gp ?_; refine bu ?_; refine gy ?_; refine az ?_; refine jn ?_; refine kn ?_; refine bn ?_; refine db ?_; rotate_left; refine i9 ?_; refine j4 ?_; refine eo ?_; refine ae rfl (fu rfl (by omega)) ?_; refine a0 ?_; refine jk ?_; refine jv ?_; refine zg2 rfl rfl rfl (fun hc => ?_) (fun hc => ?_); refine fb ?_; refine bu ?_; refine gy ?_; refine az ?_; refine jn ?_; refine kn ?_; refine bn ?_; refine db ?_; rotate_left; refine ep ?_; refine dw ?_; refine cd ?_; refine aq ?_; refine ax rfl (fun hc => ?_) (fun hc => ?_); refine az ?_; refine jn ?_; refine kn ?_; refine bn ?_; refine db ?_; rotate_left; exact absurd hc aj)
    all_goals try (exfalso; omega)
    all_goals exact ⟨.inl rfl, _, _, _, aro (H0 := H) 4 (rdC Rd0) rfl aa df (fun p y hp => ⟨hfq p y hp, arl (hfq p y hp) (q4 p y hp)⟩), i7 rfl (dr (m := 5) rfl rfl rfl (by decide)) (gu rfl), ⟨Rd0, rfl, fun hp => absurd hp hno⟩, rfl⟩
  obtain ⟨p1, p2, p3⟩ := p1; refine bf ?_
  focus (refine gn ?_; refine bl ?_; refine ae rfl (fu rfl (by omega)) ?_; refine jk ?_; refine an ?_; refine zg2 rfl rfl rfl (fun hc => ?_) (fun hc => ?_); exact absurd hc aj; refine i9 ?_; refine j4 ?_; refine eo ?_; refine ae rfl (fu rfl (by omega)) ?_; refine a0 ?_; refine jk ?_; refine jv ?_; refine zg2 rfl rfl rfl (fun hc => ?_) (fun hc => ?_); exact absurd hc aj; refine ep ?_; refine dw ?_; refine cd ?_; refine aq ?_; refine gh ?_; intro hc; refine bz ?_; refine ig ?_)
  all_goals try (exfalso; omega)
  have hfr : ∀ p y, H p = some y -> p ≠ oR := fun p y hp e => by rw [e, k1] at hp; cases hp
  have hfx : ∀ p y, H p = some y -> p ≠ oX := fun p y hp e => by rw [e, k2] at hp; cases hp
  refine cv (fun mm R' H3 => ∃ (i oL : Nat) (l : List En) (b' : List UInt8) (f' : Bool), (H oL = none /\ oL ≠ oR /\ oL ≠ oX /\ oL ≠ oQ /\ H3 oL = some (.cel (l.flatMap En.cells)) /\ H3 oX = some (.cel [uI u3, uI u4, uI u5, uI u6, .vw oL 3 0 i]) /\ H3 oR = some (.cel [.bys b', .raw (.bool f')]) /\ H3 oQ = some (.cel (AV.raw (.agg #[.int .u64 0, .int .u64 0, .int .u64 0, .int .u64 0, .slice none 0 0])).parts) /\ ∀ p y, H p = some y -> H3 p = some y) /\ l.length = i /\ b'.length <= b7.length /\
    rdEs u7 b7 G = (l ++ (rdEs (u7 - i) b' f').1, (rdEs (u7 - i) b' f').2) /\
    R' = [(0, .ptr o 0), (4, .ptr oQ 0), (5, bB false), (6, .ptr oR 0), (9, .ptr oX 0), (51, .raw (.int .u64 (u7 : Int))), (52, .raw (.int .u64 (i : Int)))] /\ i + mm = u7) ?_ ?_
  · exact ⟨u7, _, _, ba, 0, oL, [], b7, G, ⟨x4, x1, x2, x3, q5, q2, q1, q3, q4⟩, rfl, Nat.le_refl _, by simp, rfl, by omega⟩
  clear q1 q2 q3 q4 q5 x1 x2 x3 x4 hco; clear H2 oL; rintro mm R0 H2 ⟨i, oL, l, b', f', ⟨q1, q2, q3, q4, q5, q6, q7, q8, q9⟩, hl, hbl, hrd, rfl, hi⟩; have hfl : (l.flatMap En.cells).length = i * 3 := by rw [i8 (sz := 3) (fun _ => rfl), hl]
  by_cases hlt : i < u7
  · have hsn : u7 - i = (u7 - (i + 1)) + 1 := by omega
    have l2 := xt b'; have l3 := um b'
    cases hg : getE (rs b').1 with
    | none =>
      have hG : ∀ H, ACalls Try.prog 58 [.bys (rs b').1] H fun r H' => r = .tup [.agg En0.cells, .raw (.int .i64 (3 : Int))] /\ H' = H := fun H => (GetEntry_calls H _ (by omega)).mono (by rw [hg]; exact fun _ _ h => h)
      rw [hsn, sm hg] at hrd
      have hno : ¬ parOk c.me c.n b := fun hp => by
        obtain ⟨_, _, _, hp, _⟩ := hP.1 hp; rw [hrd] at hp; simp at hp
      rw [decide_eq_false hno]; clear hP hX hrd hg p1 p2
      focus (refine br ?_; refine ax rfl (fun hc => ?_) (fun hc => ?_); refine ct ?_; refine cu ?_; (refine zc ah (RS_calls _ _ _ _ q7 (by omega)) ?_; rintro r H' ⟨rfl, rfl⟩); refine ae rfl (uy rfl) ?_; (refine zc ah (hG _) ?_; rintro r H' ⟨rfl, rfl⟩); refine jj ?_; refine cz rfl rfl rfl (fun oN hoN => ?_); refine jo ?_; refine bc ?_; refine bz ?_; refine jk ?_; refine aq ?_; refine ax rfl (fun hc => ?_) (fun hc => ?_); refine az ?_; refine jn ?_; refine kn ?_; refine bn ?_; refine fi ?_; refine fi ?_; rotate_left; exact absurd hc aj; exact absurd hc aj)
      all_goals try (exfalso; omega)
      all_goals exact ⟨.inl rfl, _, _, _, aro (H0 := H) 4 (rdC Rd0) rfl aa df (fun p y hp => ⟨hfq p y hp, by have a1 := hfq p y hp; have a2 := q9 p y hp; have a3 := hfr p y hp; exact aa⟩), i7 rfl (dr (m := 5) rfl rfl rfl (by decide)) (gu rfl), ⟨Rd0, rfl, fun hp => absurd hp hno⟩, rfl⟩
    | some e =>
      have hG : ∀ H, ACalls Try.prog 58 [.bys (rs b').1] H fun r H' => r = .tup [.agg e.cells, .raw (.int .i64 (0 : Int))] /\ H' = H := fun H => (GetEntry_calls H _ (by omega)).mono (by rw [hg]; exact fun _ _ h => h)
      rw [hsn, ru hg] at hrd; clear hP hX hg; replace hrd := Hdq.mk hrd
      focus (refine br ?_; refine ax rfl (fun hc => ?_) (fun hc => ?_); refine ct ?_; refine cu ?_; (refine zc ah (RS_calls _ _ _ _ q7 (by omega)) ?_; rintro r H' ⟨rfl, rfl⟩); refine ae rfl (uy rfl) ?_; (refine zc ah (hG _) ?_; rintro r H' ⟨rfl, rfl⟩); refine jj ?_; refine cz rfl rfl rfl (fun oN hoN => ?_); refine jo ?_; refine bc ?_; refine bz ?_; refine jk ?_; refine aq ?_; refine gh ?_; intro hc; refine ca ?_; refine iu ?_; refine ma ?_; refine ip ?_; refine kq ?_; refine za4 rfl rfl rfl aa mc dc au au (fun oN hoN => ?_); refine iu ?_; refine jc ?_; refine ul ?_; refine ae rfl (un rfl rfl au) ?_; refine oz ?_; rotate_left; exact absurd hc aj)
      all_goals try (exfalso; omega)
      have y0 : H2 oN = none := arm hoN; have y1 : oN ≠ oR := arp hoN; have y2 : oN ≠ oX := fun e => by rw [e, q6] at y0; cases y0
      have y3 : oN ≠ oQ := fun e => by rw [e, q8] at y0; cases y0
      have y4 : oN ≠ oL := fun e => by rw [e, q5] at y0; cases y0
      have y5 : H oN = none := by
        cases hx : H oN with
        | none => rfl
        | some y => rw [q9 _ _ hx] at y0; cases y0
      refine ⟨mm - 1, _, _, by omega, Ent.sub _ (by (repeat' (first | exact RSub.nil _ | apply RSub.cons)); all_goals rfl), i + 1, oN, l ++ [e], _, _, ⟨y5, y1, y2, y3, by rw [List.flatMap_append]; exact aa, by exact aa, by exact aa, by exact aa, fun p y hp => ?_⟩, by simp [hl], by omega, by rw [hrd.out]; simp, rfl, by omega⟩
      have a1 := hfx p y hp; have a2 := q9 p y hp; have a3 := hfr p y hp; have a4 : p ≠ oL := fun e => by rw [e, q1] at hp; cases hp
      have a5 : p ≠ oN := fun e => by rw [e, y5] at hp; cases hp
      exact aa
  obtain rfl : i = u7 := by omega
  rw [Nat.sub_self] at hrd; simp only [rdEs, List.append_nil] at hrd; have hok : (rdX b).ok ↔ u4 <= 1099511627776 /\ u5 <= u4 /\ Ag.listed l = true := by rw [hX, hrd]; rfl
  have hP2 : parOk c.me c.n b ↔ f' = false /\ b' = [] /\ u4 <= 1099511627776 /\ u5 <= u4 /\ Ag.listed l = true := by
    rw [hP, hok, hrd]; simp [p1, p2, p3, and_comm, and_assoc, and_left_comm]
  have hX2 : rdX b = ⟨u3, u4, u5, u6, l⟩ := by rw [hX, hrd]
  have hen : ∀ e ∈ l, e.row.length <= b7.length := by
    have h1 := aig i b7 G; rw [hrd] at h1; exact h1
  replace hX2 := Hdq.mk hX2; replace hP2 := Hdq.mk hP2; clear hP hX hok hrd; have hLi := fun H => acp H l (by omega) (fun e he => by have := (hen e he); omega)
  refine dy (H' := (H2.erase oL).set oX (.cel [uI u3, uI u4, uI u5, uI u6, lsE l])) (Ent.seal_cellC (p := oX) (o := oL) (k := 4) (sz := 3) (len := i) (ys := l.flatMap En.cells) q3.symm q6 q5 rfl hfl |>.trans (by rw [<- hl]; exact Ent.refl _ _)) ?_
  have b1 : o ≠ oL := fun e => by rw [e, q1] at h; cases h
  have q7' : ((H2.erase oL).set oX (.cel [uI u3, uI u4, uI u5, uI u6, lsE l])) oR = some (.cel [.bys b', .raw (.bool f')]) := arl n2.symm (arq q2.symm q7); have q8' : ((H2.erase oL).set oX (.cel [uI u3, uI u4, uI u5, uI u6, lsE l])) oQ = some (.cel (AV.raw (.agg #[.int .u64 0, .int .u64 0, .int .u64 0, .int .u64 0, .slice none 0 0])).parts) := arl n3.symm (arq q4.symm q8); have q6' : ((H2.erase oL).set oX (.cel [uI u3, uI u4, uI u5, uI u6, lsE l])) oX = some (.cel [uI u3, uI u4, uI u5, uI u6, lsE l]) := arn _ _ _; have q9' : ∀ p y, H p = some y -> ((H2.erase oL).set oX (.cel [uI u3, uI u4, uI u5, uI u6, lsE l])) p = some y := fun p y hp => arl (hfx p y hp) (arq (fun e => by rw [e, q1] at hp; cases hp) (q9 p y hp))
  clear q5 q6 q7 q8 q9 hfl; generalize ((H2.erase oL).set oX (.cel [uI u3, uI u4, uI u5, uI u6, lsE l])) = H4 at *; clear q1 q2 q3 q4 hlt hi
  cases f' with
  | true =>
    have hno : ¬ parOk c.me c.n b := fun hp => by have := (hP2.out.1 hp).1; cases this
    rw [decide_eq_false hno]
    focus (refine br ?_; refine c8 ?_; intro hc)
    all_goals try (exfalso; omega)
    refine bf ?_; refine DC.aw_drawpx [60, 61, 51] (fun H' => H' oX = some (.cel [uI u3, uI u4, uI u5, uI u6, lsE l]) /\ H' oR = some (.cel [.bys b', .raw (.bool true)])) ⟨q6', q7'⟩ dz bg bg ?_
    focus (refine th ?_; refine dx ?_; (apply DC.awn_s; · (intro H1 hPsi; (try dsimp only at hPsi); (try (obtain ⟨hPsi, hPsi2⟩ := hPsi)); exact bw ah (nm _ oR _ _ aa))); (apply DC.awn_s; · (intros; exact pn rfl)); refine fa ?_)
    iterate 3 refine DC.awn_guard_f rfl rfl ?_
    focus (refine oy ?_; refine fa ?_)
    iterate 3 refine DC.awn_guard_f rfl rfl ?_
    focus (refine oy ?_; refine fa ?_)
    iterate 5 refine DC.awn_guard_f rfl rfl ?_
    focus (refine oy ?_; refine fa ?_)
    iterate 3 refine DC.awn_guard_f rfl rfl ?_
    focus (refine oy ?_; refine DC.awn_b0 ?_; refine qa ?_; refine DC.awn_nil ?_; refine DC.awc_cons0 (fun Rx K1 hK1x => ?_); refine kn ?_; refine bb ?_; (refine hK1x _ (by first | exact Or.inl (by decide +kernel) | (refine Or.inr ?_; (try dsimp only); first | exact ⟨aa, aa⟩)) ?_; clear hK1x K1 Rx); refine DC.awc_nil ?_; refine gj ?_; refine j7 ?_)
    all_goals try (exfalso; omega)
    exact ⟨.inl rfl, _, _, _, aro (H0 := H) 4 (rdC ⟨u3, u4, u5, u6, l⟩) rfl aa df (fun p y hp => ⟨hfq p y hp, arl (hfq p y hp) (q9' p y hp)⟩), i7 rfl (dr (m := 5) rfl rfl rfl (by decide)) (gu rfl), ⟨⟨u3, u4, u5, u6, l⟩, rfl, fun hp => absurd hp hno⟩, rfl⟩
  | false =>
    by_cases pb : b'.length = 0
    rotate_left
    · have hno : ¬ parOk c.me c.n b := fun hp => pb (by rw [(hP2.out.1 hp).2.1]; rfl)
      rw [decide_eq_false hno]
      focus (refine br ?_; refine c8 ?_; intro hc)
      all_goals try (exfalso; omega)
      refine bf ?_; refine DC.aw_drawpx [60, 61, 51] (fun H' => H' oX = some (.cel [uI u3, uI u4, uI u5, uI u6, lsE l]) /\ H' oR = some (.cel [.bys b', .raw (.bool false)])) ⟨q6', q7'⟩ dz bg bg ?_
      focus (refine th ?_; refine dx ?_; (apply DC.awn_s; · (intro H1 hPsi; (try dsimp only at hPsi); (try (obtain ⟨hPsi, hPsi2⟩ := hPsi)); exact bw ah (nm _ oR _ _ aa))); (apply DC.awn_s; · (intros; exact pn rfl)); refine fa ?_)
      all_goals try (exfalso; omega)
      try rw [decide_eq_false pb]
      first
        | refine DC.awn_guard_t rfl rfl ?_
        | (refine DC.awn_guard_pt rfl rfl (fun hq => ?_) (fun hq => absurd hq (Decidable.not_not.2 (by omega))))
      focus (refine dx ?_)
      all_goals try (exfalso; omega)
      try rw [decide_eq_false pb]
      first
        | refine DC.awn_guard_t rfl rfl ?_
        | (refine DC.awn_guard_pt rfl rfl (fun hq => ?_) (fun hq => absurd hq (Decidable.not_not.2 (by omega))))
      focus ((apply DC.awn_s; · (intro H1 hPsi; (try dsimp only at hPsi); (try (obtain ⟨hPsi, hPsi2⟩ := hPsi)); exact bw ah (ox _ oR _ _ aa))))
      all_goals try (exfalso; omega)
      try rw [decide_eq_false pb]
      first
        | refine DC.awn_guard_t rfl rfl ?_
        | (refine DC.awn_guard_pt rfl rfl (fun hq => ?_) (fun hq => absurd hq (Decidable.not_not.2 (by omega))))
      focus ((apply DC.awn_s; · (intros; exact ml rfl rfl)); refine l9 ?_; refine fa ?_)
      all_goals try (exfalso; omega)
      try rw [decide_eq_false pb]
      first
        | refine DC.awn_guard_f rfl rfl ?_
        | refine DC.awn_guard_undef rfl rfl ?_
        | (refine DC.awn_guard_pt rfl rfl (fun hq => absurd hq (by omega)) (fun hq => ?_))
      first
        | refine DC.awn_guard_f rfl rfl ?_
        | refine DC.awn_guard_undef rfl rfl ?_
        | (refine DC.awn_guard_pt rfl rfl (fun hq => absurd hq (by omega)) (fun hq => ?_))
      first
        | refine DC.awn_guard_f rfl rfl ?_
        | refine DC.awn_guard_undef rfl rfl ?_
        | (refine DC.awn_guard_pt rfl rfl (fun hq => absurd hq (by omega)) (fun hq => ?_))
      focus (refine oy ?_; refine fa ?_)
      all_goals try (exfalso; omega)
      try rw [decide_eq_false pb]
      first
        | refine DC.awn_guard_f rfl rfl ?_
        | refine DC.awn_guard_undef rfl rfl ?_
        | (refine DC.awn_guard_pt rfl rfl (fun hq => absurd hq (by omega)) (fun hq => ?_))
      first
        | refine DC.awn_guard_f rfl rfl ?_
        | refine DC.awn_guard_undef rfl rfl ?_
        | (refine DC.awn_guard_pt rfl rfl (fun hq => absurd hq (by omega)) (fun hq => ?_))
      first
        | refine DC.awn_guard_f rfl rfl ?_
        | refine DC.awn_guard_undef rfl rfl ?_
        | (refine DC.awn_guard_pt rfl rfl (fun hq => absurd hq (by omega)) (fun hq => ?_))
      first
        | refine DC.awn_guard_f rfl rfl ?_
        | refine DC.awn_guard_undef rfl rfl ?_
        | (refine DC.awn_guard_pt rfl rfl (fun hq => absurd hq (by omega)) (fun hq => ?_))
      first
        | refine DC.awn_guard_f rfl rfl ?_
        | refine DC.awn_guard_undef rfl rfl ?_
        | (refine DC.awn_guard_pt rfl rfl (fun hq => absurd hq (by omega)) (fun hq => ?_))
      focus (refine oy ?_; refine fa ?_)
      all_goals try (exfalso; omega)
      try rw [decide_eq_false pb]
      first
        | refine DC.awn_guard_f rfl rfl ?_
        | refine DC.awn_guard_undef rfl rfl ?_
        | (refine DC.awn_guard_pt rfl rfl (fun hq => absurd hq (by omega)) (fun hq => ?_))
      first
        | refine DC.awn_guard_f rfl rfl ?_
        | refine DC.awn_guard_undef rfl rfl ?_
        | (refine DC.awn_guard_pt rfl rfl (fun hq => absurd hq (by omega)) (fun hq => ?_))
      first
        | refine DC.awn_guard_f rfl rfl ?_
        | refine DC.awn_guard_undef rfl rfl ?_
        | (refine DC.awn_guard_pt rfl rfl (fun hq => absurd hq (by omega)) (fun hq => ?_))
      focus (refine oy ?_; refine DC.awn_b0 ?_; refine qa ?_; refine DC.awn_nil ?_; refine DC.awc_cons0 (fun Rx K1 hK1x => ?_); refine kn ?_; refine bb ?_; (refine hK1x _ (by first | exact Or.inl (by decide +kernel) | (refine Or.inr ?_; (try dsimp only); first | exact ⟨aa, aa⟩)) ?_; clear hK1x K1 Rx); refine DC.awc_nil ?_; refine gj ?_; refine j7 ?_)
      all_goals try (exfalso; omega)
      try rw [decide_eq_false pb]
      exact ⟨.inl rfl, _, _, _, aro (H0 := H) 4 (rdC ⟨u3, u4, u5, u6, l⟩) rfl aa df (fun p y hp => ⟨hfq p y hp, arl (hfq p y hp) (q9' p y hp)⟩), i7 rfl (dr (m := 5) rfl rfl rfl (by decide)) (gu rfl), ⟨⟨u3, u4, u5, u6, l⟩, rfl, fun hp => absurd hp hno⟩, rfl⟩
    by_cases pc : u4 <= 1099511627776
    rotate_left
    · have hno : ¬ parOk c.me c.n b := fun hp => pc (hP2.out.1 hp).2.2.1
      rw [decide_eq_false hno]
      focus (refine br ?_; refine c8 ?_; intro hc)
      all_goals try (exfalso; omega)
      refine bf ?_; refine DC.aw_drawpx [60, 61, 51] (fun H' => H' oX = some (.cel [uI u3, uI u4, uI u5, uI u6, lsE l]) /\ H' oR = some (.cel [.bys b', .raw (.bool false)])) ⟨q6', q7'⟩ dz bg bg ?_
      focus (refine th ?_; refine dx ?_; (apply DC.awn_s; · (intro H1 hPsi; (try dsimp only at hPsi); (try (obtain ⟨hPsi, hPsi2⟩ := hPsi)); exact bw ah (nm _ oR _ _ aa))); (apply DC.awn_s; · (intros; exact pn rfl)); refine fa ?_)
      all_goals try (exfalso; omega)
      try rw [decide_eq_true pb]
      try rw [decide_eq_false pc]
      first
        | refine DC.awn_guard_t rfl rfl ?_
        | (refine DC.awn_guard_pt rfl rfl (fun hq => ?_) (fun hq => absurd hq (Decidable.not_not.2 (by omega))))
      focus (refine dx ?_)
      all_goals try (exfalso; omega)
      try rw [decide_eq_true pb]
      try rw [decide_eq_false pc]
      first
        | refine DC.awn_guard_t rfl rfl ?_
        | (refine DC.awn_guard_pt rfl rfl (fun hq => ?_) (fun hq => absurd hq (Decidable.not_not.2 (by omega))))
      focus ((apply DC.awn_s; · (intro H1 hPsi; (try dsimp only at hPsi); (try (obtain ⟨hPsi, hPsi2⟩ := hPsi)); exact bw ah (ox _ oR _ _ aa))))
      all_goals try (exfalso; omega)
      try rw [decide_eq_true pb]
      try rw [decide_eq_false pc]
      first
        | refine DC.awn_guard_t rfl rfl ?_
        | (refine DC.awn_guard_pt rfl rfl (fun hq => ?_) (fun hq => absurd hq (Decidable.not_not.2 (by omega))))
      focus ((apply DC.awn_s; · (intros; exact ml rfl rfl)); refine l9 ?_; refine fa ?_)
      all_goals try (exfalso; omega)
      try rw [decide_eq_true pb]
      try rw [decide_eq_false pc]
      first
        | refine DC.awn_guard_t rfl rfl ?_
        | (refine DC.awn_guard_pt rfl rfl (fun hq => ?_) (fun hq => absurd hq (Decidable.not_not.2 (by omega))))
      focus (refine jr ?_)
      all_goals try (exfalso; omega)
      try rw [decide_eq_true pb]
      try rw [decide_eq_false pc]
      first
        | refine DC.awn_guard_t rfl rfl ?_
        | (refine DC.awn_guard_pt rfl rfl (fun hq => ?_) (fun hq => absurd hq (Decidable.not_not.2 (by omega))))
      focus (refine e8 ?_)
      all_goals try (exfalso; omega)
      try rw [decide_eq_true pb]
      try rw [decide_eq_false pc]
      first
        | refine DC.awn_guard_t rfl rfl ?_
        | (refine DC.awn_guard_pt rfl rfl (fun hq => ?_) (fun hq => absurd hq (Decidable.not_not.2 (by omega))))
      focus (refine rm ?_; refine l9 ?_; refine fa ?_)
      all_goals try (exfalso; omega)
      try rw [decide_eq_true pb]
      try rw [decide_eq_false pc]
      first
        | refine DC.awn_guard_f rfl rfl ?_
        | refine DC.awn_guard_undef rfl rfl ?_
        | (refine DC.awn_guard_pt rfl rfl (fun hq => absurd hq (by omega)) (fun hq => ?_))
      first
        | refine DC.awn_guard_f rfl rfl ?_
        | refine DC.awn_guard_undef rfl rfl ?_
        | (refine DC.awn_guard_pt rfl rfl (fun hq => absurd hq (by omega)) (fun hq => ?_))
      first
        | refine DC.awn_guard_f rfl rfl ?_
        | refine DC.awn_guard_undef rfl rfl ?_
        | (refine DC.awn_guard_pt rfl rfl (fun hq => absurd hq (by omega)) (fun hq => ?_))
      first
        | refine DC.awn_guard_f rfl rfl ?_
        | refine DC.awn_guard_undef rfl rfl ?_
        | (refine DC.awn_guard_pt rfl rfl (fun hq => absurd hq (by omega)) (fun hq => ?_))
      first
        | refine DC.awn_guard_f rfl rfl ?_
        | refine DC.awn_guard_undef rfl rfl ?_
        | (refine DC.awn_guard_pt rfl rfl (fun hq => absurd hq (by omega)) (fun hq => ?_))
      focus (refine oy ?_; refine fa ?_)
      all_goals try (exfalso; omega)
      try rw [decide_eq_true pb]
      try rw [decide_eq_false pc]
      first
        | refine DC.awn_guard_f rfl rfl ?_
        | refine DC.awn_guard_undef rfl rfl ?_
        | (refine DC.awn_guard_pt rfl rfl (fun hq => absurd hq (by omega)) (fun hq => ?_))
      first
        | refine DC.awn_guard_f rfl rfl ?_
        | refine DC.awn_guard_undef rfl rfl ?_
        | (refine DC.awn_guard_pt rfl rfl (fun hq => absurd hq (by omega)) (fun hq => ?_))
      first
        | refine DC.awn_guard_f rfl rfl ?_
        | refine DC.awn_guard_undef rfl rfl ?_
        | (refine DC.awn_guard_pt rfl rfl (fun hq => absurd hq (by omega)) (fun hq => ?_))
      focus (refine oy ?_; refine DC.awn_b0 ?_; refine qa ?_; refine DC.awn_nil ?_; refine DC.awc_cons0 (fun Rx K1 hK1x => ?_); refine kn ?_; refine bb ?_; (refine hK1x _ (by first | exact Or.inl (by decide +kernel) | (refine Or.inr ?_; (try dsimp only); first | exact ⟨aa, aa⟩)) ?_; clear hK1x K1 Rx); refine DC.awc_nil ?_; refine gj ?_; refine j7 ?_)
      all_goals try (exfalso; omega)
      try rw [decide_eq_true pb]
      try rw [decide_eq_false pc]
      exact ⟨.inl rfl, _, _, _, aro (H0 := H) 4 (rdC ⟨u3, u4, u5, u6, l⟩) rfl aa df (fun p y hp => ⟨hfq p y hp, arl (hfq p y hp) (q9' p y hp)⟩), i7 rfl (dr (m := 5) rfl rfl rfl (by decide)) (gu rfl), ⟨⟨u3, u4, u5, u6, l⟩, rfl, fun hp => absurd hp hno⟩, rfl⟩
    by_cases pd : u5 <= u4
    rotate_left
    · have hno : ¬ parOk c.me c.n b := fun hp => pd (hP2.out.1 hp).2.2.2.1
      rw [decide_eq_false hno]
      focus (refine br ?_; refine c8 ?_; intro hc)
      all_goals try (exfalso; omega)
      refine bf ?_; refine DC.aw_drawpx [60, 61, 51] (fun H' => H' oX = some (.cel [uI u3, uI u4, uI u5, uI u6, lsE l]) /\ H' oR = some (.cel [.bys b', .raw (.bool false)])) ⟨q6', q7'⟩ dz bg bg ?_
      focus (refine th ?_; refine dx ?_; (apply DC.awn_s; · (intro H1 hPsi; (try dsimp only at hPsi); (try (obtain ⟨hPsi, hPsi2⟩ := hPsi)); exact bw ah (nm _ oR _ _ aa))); (apply DC.awn_s; · (intros; exact pn rfl)); refine fa ?_)
      all_goals try (exfalso; omega)
      try rw [decide_eq_true pb]
      try rw [decide_eq_true pc]
      try rw [decide_eq_false pd]
      first
        | refine DC.awn_guard_t rfl rfl ?_
        | (refine DC.awn_guard_pt rfl rfl (fun hq => ?_) (fun hq => absurd hq (Decidable.not_not.2 (by omega))))
      focus (refine dx ?_)
      all_goals try (exfalso; omega)
      try rw [decide_eq_true pb]
      try rw [decide_eq_true pc]
      try rw [decide_eq_false pd]
      first
        | refine DC.awn_guard_t rfl rfl ?_
        | (refine DC.awn_guard_pt rfl rfl (fun hq => ?_) (fun hq => absurd hq (Decidable.not_not.2 (by omega))))
      focus ((apply DC.awn_s; · (intro H1 hPsi; (try dsimp only at hPsi); (try (obtain ⟨hPsi, hPsi2⟩ := hPsi)); exact bw ah (ox _ oR _ _ aa))))
      all_goals try (exfalso; omega)
      try rw [decide_eq_true pb]
      try rw [decide_eq_true pc]
      try rw [decide_eq_false pd]
      first
        | refine DC.awn_guard_t rfl rfl ?_
        | (refine DC.awn_guard_pt rfl rfl (fun hq => ?_) (fun hq => absurd hq (Decidable.not_not.2 (by omega))))
      focus ((apply DC.awn_s; · (intros; exact ml rfl rfl)); refine l9 ?_; refine fa ?_)
      all_goals try (exfalso; omega)
      try rw [decide_eq_true pb]
      try rw [decide_eq_true pc]
      try rw [decide_eq_false pd]
      first
        | refine DC.awn_guard_t rfl rfl ?_
        | (refine DC.awn_guard_pt rfl rfl (fun hq => ?_) (fun hq => absurd hq (Decidable.not_not.2 (by omega))))
      focus (refine jr ?_)
      all_goals try (exfalso; omega)
      try rw [decide_eq_true pb]
      try rw [decide_eq_true pc]
      try rw [decide_eq_false pd]
      first
        | refine DC.awn_guard_t rfl rfl ?_
        | (refine DC.awn_guard_pt rfl rfl (fun hq => ?_) (fun hq => absurd hq (Decidable.not_not.2 (by omega))))
      focus (refine e8 ?_)
      all_goals try (exfalso; omega)
      try rw [decide_eq_true pb]
      try rw [decide_eq_true pc]
      try rw [decide_eq_false pd]
      first
        | refine DC.awn_guard_t rfl rfl ?_
        | (refine DC.awn_guard_pt rfl rfl (fun hq => ?_) (fun hq => absurd hq (Decidable.not_not.2 (by omega))))
      focus (refine rm ?_; refine l9 ?_; refine fa ?_)
      all_goals try (exfalso; omega)
      try rw [decide_eq_true pb]
      try rw [decide_eq_true pc]
      try rw [decide_eq_false pd]
      first
        | refine DC.awn_guard_t rfl rfl ?_
        | (refine DC.awn_guard_pt rfl rfl (fun hq => ?_) (fun hq => absurd hq (Decidable.not_not.2 (by omega))))
      focus (refine jr ?_)
      all_goals try (exfalso; omega)
      try rw [decide_eq_true pb]
      try rw [decide_eq_true pc]
      try rw [decide_eq_false pd]
      first
        | refine DC.awn_guard_t rfl rfl ?_
        | (refine DC.awn_guard_pt rfl rfl (fun hq => ?_) (fun hq => absurd hq (Decidable.not_not.2 (by omega))))
      focus (refine e8 ?_)
      all_goals try (exfalso; omega)
      try rw [decide_eq_true pb]
      try rw [decide_eq_true pc]
      try rw [decide_eq_false pd]
      first
        | refine DC.awn_guard_t rfl rfl ?_
        | (refine DC.awn_guard_pt rfl rfl (fun hq => ?_) (fun hq => absurd hq (Decidable.not_not.2 (by omega))))
      focus (refine jr ?_)
      all_goals try (exfalso; omega)
      try rw [decide_eq_true pb]
      try rw [decide_eq_true pc]
      try rw [decide_eq_false pd]
      first
        | refine DC.awn_guard_t rfl rfl ?_
        | (refine DC.awn_guard_pt rfl rfl (fun hq => ?_) (fun hq => absurd hq (Decidable.not_not.2 (by omega))))
      focus (refine e8 ?_)
      all_goals try (exfalso; omega)
      try rw [decide_eq_true pb]
      try rw [decide_eq_true pc]
      try rw [decide_eq_false pd]
      first
        | refine DC.awn_guard_t rfl rfl ?_
        | (refine DC.awn_guard_pt rfl rfl (fun hq => ?_) (fun hq => absurd hq (Decidable.not_not.2 (by omega))))
      focus (refine rm ?_; refine l9 ?_; refine fa ?_)
      all_goals try (exfalso; omega)
      try rw [decide_eq_true pb]
      try rw [decide_eq_true pc]
      try rw [decide_eq_false pd]
      first
        | refine DC.awn_guard_f rfl rfl ?_
        | refine DC.awn_guard_undef rfl rfl ?_
        | (refine DC.awn_guard_pt rfl rfl (fun hq => absurd hq (by omega)) (fun hq => ?_))
      first
        | refine DC.awn_guard_f rfl rfl ?_
        | refine DC.awn_guard_undef rfl rfl ?_
        | (refine DC.awn_guard_pt rfl rfl (fun hq => absurd hq (by omega)) (fun hq => ?_))
      first
        | refine DC.awn_guard_f rfl rfl ?_
        | refine DC.awn_guard_undef rfl rfl ?_
        | (refine DC.awn_guard_pt rfl rfl (fun hq => absurd hq (by omega)) (fun hq => ?_))
      focus (refine oy ?_; refine DC.awn_b0 ?_; refine qa ?_; refine DC.awn_nil ?_; refine DC.awc_cons0 (fun Rx K1 hK1x => ?_); refine kn ?_; refine bb ?_; (refine hK1x _ (by first | exact Or.inl (by decide +kernel) | (refine Or.inr ?_; (try dsimp only); first | exact ⟨aa, aa⟩)) ?_; clear hK1x K1 Rx); refine DC.awc_nil ?_; refine gj ?_; refine j7 ?_)
      all_goals try (exfalso; omega)
      try rw [decide_eq_true pb]
      try rw [decide_eq_true pc]
      try rw [decide_eq_false pd]
      exact ⟨.inl rfl, _, _, _, aro (H0 := H) 4 (rdC ⟨u3, u4, u5, u6, l⟩) rfl aa df (fun p y hp => ⟨hfq p y hp, arl (hfq p y hp) (q9' p y hp)⟩), i7 rfl (dr (m := 5) rfl rfl rfl (by decide)) (gu rfl), ⟨⟨u3, u4, u5, u6, l⟩, rfl, fun hp => absurd hp hno⟩, rfl⟩
    cases pe : Ag.listed l with
    | false =>
      have hno : ¬ parOk c.me c.n b := fun hp => by have := (hP2.out.1 hp).2.2.2.2; rw [pe] at this; cases this
      rw [decide_eq_false hno]; rw [pe] at hLi
      focus (refine br ?_; refine c8 ?_; intro hc)
      all_goals try (exfalso; omega)
      refine bf ?_; refine DC.aw_drawpx [60, 61, 51] (fun H' => H' oX = some (.cel [uI u3, uI u4, uI u5, uI u6, lsE l]) /\ H' oR = some (.cel [.bys b', .raw (.bool false)])) ⟨q6', q7'⟩ dz bg bg ?_
      focus (refine th ?_; refine dx ?_; (apply DC.awn_s; · (intro H1 hPsi; (try dsimp only at hPsi); (try (obtain ⟨hPsi, hPsi2⟩ := hPsi)); exact bw ah (nm _ oR _ _ aa))); (apply DC.awn_s; · (intros; exact pn rfl)); refine fa ?_)
      all_goals try (exfalso; omega)
      try rw [decide_eq_true pb]
      try rw [decide_eq_true pc]
      try rw [decide_eq_true pd]
      first
        | refine DC.awn_guard_t rfl rfl ?_
        | (refine DC.awn_guard_pt rfl rfl (fun hq => ?_) (fun hq => absurd hq (Decidable.not_not.2 (by omega))))
      focus (refine dx ?_)
      all_goals try (exfalso; omega)
      try rw [decide_eq_true pb]
      try rw [decide_eq_true pc]
      try rw [decide_eq_true pd]
      first
        | refine DC.awn_guard_t rfl rfl ?_
        | (refine DC.awn_guard_pt rfl rfl (fun hq => ?_) (fun hq => absurd hq (Decidable.not_not.2 (by omega))))
      focus ((apply DC.awn_s; · (intro H1 hPsi; (try dsimp only at hPsi); (try (obtain ⟨hPsi, hPsi2⟩ := hPsi)); exact bw ah (ox _ oR _ _ aa))))
      all_goals try (exfalso; omega)
      try rw [decide_eq_true pb]
      try rw [decide_eq_true pc]
      try rw [decide_eq_true pd]
      first
        | refine DC.awn_guard_t rfl rfl ?_
        | (refine DC.awn_guard_pt rfl rfl (fun hq => ?_) (fun hq => absurd hq (Decidable.not_not.2 (by omega))))
      focus ((apply DC.awn_s; · (intros; exact ml rfl rfl)); refine l9 ?_; refine fa ?_)
      all_goals try (exfalso; omega)
      try rw [decide_eq_true pb]
      try rw [decide_eq_true pc]
      try rw [decide_eq_true pd]
      first
        | refine DC.awn_guard_t rfl rfl ?_
        | (refine DC.awn_guard_pt rfl rfl (fun hq => ?_) (fun hq => absurd hq (Decidable.not_not.2 (by omega))))
      focus (refine jr ?_)
      all_goals try (exfalso; omega)
      try rw [decide_eq_true pb]
      try rw [decide_eq_true pc]
      try rw [decide_eq_true pd]
      first
        | refine DC.awn_guard_t rfl rfl ?_
        | (refine DC.awn_guard_pt rfl rfl (fun hq => ?_) (fun hq => absurd hq (Decidable.not_not.2 (by omega))))
      focus (refine e8 ?_)
      all_goals try (exfalso; omega)
      try rw [decide_eq_true pb]
      try rw [decide_eq_true pc]
      try rw [decide_eq_true pd]
      first
        | refine DC.awn_guard_t rfl rfl ?_
        | (refine DC.awn_guard_pt rfl rfl (fun hq => ?_) (fun hq => absurd hq (Decidable.not_not.2 (by omega))))
      focus (refine rm ?_; refine l9 ?_; refine fa ?_)
      all_goals try (exfalso; omega)
      try rw [decide_eq_true pb]
      try rw [decide_eq_true pc]
      try rw [decide_eq_true pd]
      first
        | refine DC.awn_guard_t rfl rfl ?_
        | (refine DC.awn_guard_pt rfl rfl (fun hq => ?_) (fun hq => absurd hq (Decidable.not_not.2 (by omega))))
      focus (refine jr ?_)
      all_goals try (exfalso; omega)
      try rw [decide_eq_true pb]
      try rw [decide_eq_true pc]
      try rw [decide_eq_true pd]
      first
        | refine DC.awn_guard_t rfl rfl ?_
        | (refine DC.awn_guard_pt rfl rfl (fun hq => ?_) (fun hq => absurd hq (Decidable.not_not.2 (by omega))))
      focus (refine e8 ?_)
      all_goals try (exfalso; omega)
      try rw [decide_eq_true pb]
      try rw [decide_eq_true pc]
      try rw [decide_eq_true pd]
      first
        | refine DC.awn_guard_t rfl rfl ?_
        | (refine DC.awn_guard_pt rfl rfl (fun hq => ?_) (fun hq => absurd hq (Decidable.not_not.2 (by omega))))
      focus (refine jr ?_)
      all_goals try (exfalso; omega)
      try rw [decide_eq_true pb]
      try rw [decide_eq_true pc]
      try rw [decide_eq_true pd]
      first
        | refine DC.awn_guard_t rfl rfl ?_
        | (refine DC.awn_guard_pt rfl rfl (fun hq => ?_) (fun hq => absurd hq (Decidable.not_not.2 (by omega))))
      focus (refine e8 ?_)
      all_goals try (exfalso; omega)
      try rw [decide_eq_true pb]
      try rw [decide_eq_true pc]
      try rw [decide_eq_true pd]
      first
        | refine DC.awn_guard_t rfl rfl ?_
        | (refine DC.awn_guard_pt rfl rfl (fun hq => ?_) (fun hq => absurd hq (Decidable.not_not.2 (by omega))))
      focus (refine rm ?_; refine l9 ?_; refine fa ?_)
      all_goals try (exfalso; omega)
      try rw [decide_eq_true pb]
      try rw [decide_eq_true pc]
      try rw [decide_eq_true pd]
      first
        | refine DC.awn_guard_t rfl rfl ?_
        | (refine DC.awn_guard_pt rfl rfl (fun hq => ?_) (fun hq => absurd hq (Decidable.not_not.2 (by omega))))
      focus (refine jr ?_)
      all_goals try (exfalso; omega)
      try rw [decide_eq_true pb]
      try rw [decide_eq_true pc]
      try rw [decide_eq_true pd]
      first
        | refine DC.awn_guard_t rfl rfl ?_
        | (refine DC.awn_guard_pt rfl rfl (fun hq => ?_) (fun hq => absurd hq (Decidable.not_not.2 (by omega))))
      focus (refine e8 ?_)
      all_goals try (exfalso; omega)
      try rw [decide_eq_true pb]
      try rw [decide_eq_true pc]
      try rw [decide_eq_true pd]
      first
        | refine DC.awn_guard_t rfl rfl ?_
        | (refine DC.awn_guard_pt rfl rfl (fun hq => ?_) (fun hq => absurd hq (Decidable.not_not.2 (by omega))))
      focus ((apply DC.awn_s; · (intros; exact bw ah (hLi _))); refine l9 ?_; refine DC.awn_b0 ?_; refine qa ?_; refine DC.awn_nil ?_; refine DC.awc_cons0 (fun Rx K1 hK1x => ?_); refine kn ?_; refine bb ?_; (refine hK1x _ (by first | exact Or.inl (by decide +kernel) | (refine Or.inr ?_; (try dsimp only); first | exact ⟨aa, aa⟩)) ?_; clear hK1x K1 Rx); refine DC.awc_nil ?_; refine gj ?_; refine j7 ?_)
      all_goals try (exfalso; omega)
      try rw [decide_eq_true pb]
      try rw [decide_eq_true pc]
      try rw [decide_eq_true pd]
      exact ⟨.inl rfl, _, _, _, aro (H0 := H) 4 (rdC ⟨u3, u4, u5, u6, l⟩) rfl aa df (fun p y hp => ⟨hfq p y hp, arl (hfq p y hp) (q9' p y hp)⟩), i7 rfl (dr (m := 5) rfl rfl rfl (by decide)) (gu rfl), ⟨⟨u3, u4, u5, u6, l⟩, rfl, fun hp => absurd hp hno⟩, rfl⟩
    | true =>
      have hyes : parOk c.me c.n b := hP2.out.2 ⟨rfl, List.eq_nil_of_length_eq_zero pb, pc, pd, pe⟩; rw [decide_eq_true hyes]; rw [pe] at hLi
      focus (refine br ?_; refine c8 ?_; intro hc)
      all_goals try (exfalso; omega)
      refine bf ?_; refine DC.aw_drawpx [60, 61, 51] (fun H' => H' oX = some (.cel [uI u3, uI u4, uI u5, uI u6, lsE l]) /\ H' oR = some (.cel [.bys b', .raw (.bool false)])) ⟨q6', q7'⟩ dz bg bg ?_
      focus (refine th ?_; refine dx ?_; (apply DC.awn_s; · (intro H1 hPsi; (try dsimp only at hPsi); (try (obtain ⟨hPsi, hPsi2⟩ := hPsi)); exact bw ah (nm _ oR _ _ aa))); (apply DC.awn_s; · (intros; exact pn rfl)); refine fa ?_)
      all_goals try (exfalso; omega)
      try rw [decide_eq_true pb]
      try rw [decide_eq_true pc]
      try rw [decide_eq_true pd]
      first
        | refine DC.awn_guard_t rfl rfl ?_
        | (refine DC.awn_guard_pt rfl rfl (fun hq => ?_) (fun hq => absurd hq (Decidable.not_not.2 (by omega))))
      focus (refine dx ?_)
      all_goals try (exfalso; omega)
      try rw [decide_eq_true pb]
      try rw [decide_eq_true pc]
      try rw [decide_eq_true pd]
      first
        | refine DC.awn_guard_t rfl rfl ?_
        | (refine DC.awn_guard_pt rfl rfl (fun hq => ?_) (fun hq => absurd hq (Decidable.not_not.2 (by omega))))
      focus ((apply DC.awn_s; · (intro H1 hPsi; (try dsimp only at hPsi); (try (obtain ⟨hPsi, hPsi2⟩ := hPsi)); exact bw ah (ox _ oR _ _ aa))))
      all_goals try (exfalso; omega)
      try rw [decide_eq_true pb]
      try rw [decide_eq_true pc]
      try rw [decide_eq_true pd]
      first
        | refine DC.awn_guard_t rfl rfl ?_
        | (refine DC.awn_guard_pt rfl rfl (fun hq => ?_) (fun hq => absurd hq (Decidable.not_not.2 (by omega))))
      focus ((apply DC.awn_s; · (intros; exact ml rfl rfl)); refine l9 ?_; refine fa ?_)
      all_goals try (exfalso; omega)
      try rw [decide_eq_true pb]
      try rw [decide_eq_true pc]
      try rw [decide_eq_true pd]
      first
        | refine DC.awn_guard_t rfl rfl ?_
        | (refine DC.awn_guard_pt rfl rfl (fun hq => ?_) (fun hq => absurd hq (Decidable.not_not.2 (by omega))))
      focus (refine jr ?_)
      all_goals try (exfalso; omega)
      try rw [decide_eq_true pb]
      try rw [decide_eq_true pc]
      try rw [decide_eq_true pd]
      first
        | refine DC.awn_guard_t rfl rfl ?_
        | (refine DC.awn_guard_pt rfl rfl (fun hq => ?_) (fun hq => absurd hq (Decidable.not_not.2 (by omega))))
      focus (refine e8 ?_)
      all_goals try (exfalso; omega)
      try rw [decide_eq_true pb]
      try rw [decide_eq_true pc]
      try rw [decide_eq_true pd]
      first
        | refine DC.awn_guard_t rfl rfl ?_
        | (refine DC.awn_guard_pt rfl rfl (fun hq => ?_) (fun hq => absurd hq (Decidable.not_not.2 (by omega))))
      focus (refine rm ?_; refine l9 ?_; refine fa ?_)
      all_goals try (exfalso; omega)
      try rw [decide_eq_true pb]
      try rw [decide_eq_true pc]
      try rw [decide_eq_true pd]
      first
        | refine DC.awn_guard_t rfl rfl ?_
        | (refine DC.awn_guard_pt rfl rfl (fun hq => ?_) (fun hq => absurd hq (Decidable.not_not.2 (by omega))))
      focus (refine jr ?_)
      all_goals try (exfalso; omega)
      try rw [decide_eq_true pb]
      try rw [decide_eq_true pc]
      try rw [decide_eq_true pd]
      first
        | refine DC.awn_guard_t rfl rfl ?_
        | (refine DC.awn_guard_pt rfl rfl (fun hq => ?_) (fun hq => absurd hq (Decidable.not_not.2 (by omega))))
      focus (refine e8 ?_)
      all_goals try (exfalso; omega)
      try rw [decide_eq_true pb]
      try rw [decide_eq_true pc]
      try rw [decide_eq_true pd]
      first
        | refine DC.awn_guard_t rfl rfl ?_
        | (refine DC.awn_guard_pt rfl rfl (fun hq => ?_) (fun hq => absurd hq (Decidable.not_not.2 (by omega))))
      focus (refine jr ?_)
      all_goals try (exfalso; omega)
      try rw [decide_eq_true pb]
      try rw [decide_eq_true pc]
      try rw [decide_eq_true pd]
      first
        | refine DC.awn_guard_t rfl rfl ?_
        | (refine DC.awn_guard_pt rfl rfl (fun hq => ?_) (fun hq => absurd hq (Decidable.not_not.2 (by omega))))
      focus (refine e8 ?_)
      all_goals try (exfalso; omega)
      try rw [decide_eq_true pb]
      try rw [decide_eq_true pc]
      try rw [decide_eq_true pd]
      first
        | refine DC.awn_guard_t rfl rfl ?_
        | (refine DC.awn_guard_pt rfl rfl (fun hq => ?_) (fun hq => absurd hq (Decidable.not_not.2 (by omega))))
      focus (refine rm ?_; refine l9 ?_; refine fa ?_)
      all_goals try (exfalso; omega)
      try rw [decide_eq_true pb]
      try rw [decide_eq_true pc]
      try rw [decide_eq_true pd]
      first
        | refine DC.awn_guard_t rfl rfl ?_
        | (refine DC.awn_guard_pt rfl rfl (fun hq => ?_) (fun hq => absurd hq (Decidable.not_not.2 (by omega))))
      focus (refine jr ?_)
      all_goals try (exfalso; omega)
      try rw [decide_eq_true pb]
      try rw [decide_eq_true pc]
      try rw [decide_eq_true pd]
      first
        | refine DC.awn_guard_t rfl rfl ?_
        | (refine DC.awn_guard_pt rfl rfl (fun hq => ?_) (fun hq => absurd hq (Decidable.not_not.2 (by omega))))
      focus (refine e8 ?_)
      all_goals try (exfalso; omega)
      try rw [decide_eq_true pb]
      try rw [decide_eq_true pc]
      try rw [decide_eq_true pd]
      first
        | refine DC.awn_guard_t rfl rfl ?_
        | (refine DC.awn_guard_pt rfl rfl (fun hq => ?_) (fun hq => absurd hq (Decidable.not_not.2 (by omega))))
      focus ((apply DC.awn_s; · (intros; exact bw ah (hLi _))); refine l9 ?_; refine DC.awn_b0 ?_; refine qa ?_; refine DC.awn_nil ?_; refine DC.awc_cons0 (fun Rx K1 hK1x => ?_); refine kn ?_; refine bb ?_; (refine hK1x _ (by first | exact Or.inl (by decide +kernel) | (refine Or.inr ?_; (try dsimp only); first | exact ⟨aa, aa⟩)) ?_; clear hK1x K1 Rx); refine DC.awc_nil ?_; refine gj ?_; refine j7 ?_)
      all_goals try (exfalso; omega)
      try rw [decide_eq_true pb]
      try rw [decide_eq_true pc]
      try rw [decide_eq_true pd]
      exact ⟨.inl rfl, _, _, _, aro (H0 := H) 4 (rdC ⟨u3, u4, u5, u6, l⟩) rfl aa df (fun p y hp => ⟨hfq p y hp, arl (hfq p y hp) (q9' p y hp)⟩), i7 rfl (dr (m := 5) rfl rfl rfl (by decide)) (gu rfl), ⟨⟨u3, u4, u5, u6, l⟩, rfl, fun _ => hX2.out.symm⟩, rfl⟩
end Go.Proofs.Ytbciofnejefkiaa
namespace Go.Proofs.Ytbciofnejefkiaa
open Go Go.Am Go.Proofs
theorem CAt.set {H : AHeap} {F : Ob} {c : Ag.Co} (h : CAt H F c) (nd : NdC F) : ∃ off, H F.o = some (.cel (bo c F.og F.oh (.vw F.ow 3 off c.wait.length))) /\
    ∀ c' : Ag.Co, c'.got = c.got -> c'.n = c.n -> c'.me = c.me -> c'.held = c.held -> c'.wait = c.wait ->
      CAt (H.set F.o (.cel (bo c' F.og F.oh (.vw F.ow 3 off c.wait.length)))) F c' /\ TurnC H F F (H.set F.o (.cel (bo c' F.og F.oh (.vw F.ow 3 off c.wait.length)))) := by
  have nd0 := nd; obtain ⟨⟨off, xs, hco, hw, hx1, hx2⟩, ⟨eg, hg, hg2⟩, ⟨eh, hh, hh2⟩⟩ := h; obtain ⟨n1, n2, n3, n4, n5, n6⟩ := nd; refine ⟨off, hco, fun c' e1 e2 e3 e4 e5 => ⟨⟨⟨off, xs, ?_, ?_, ?_, ?_⟩, ⟨eg, ?_, ?_⟩, ⟨eh, ?_, ?_⟩⟩, ⟨rfl, rfl, rfl, rfl, fun p hp => .inl hp, fun p y hp hF => arl (fun e => hF (by simp [Ob.c, e])) hp, nd0⟩⟩⟩
  · rw [e5]; exact arn _ _ _
  · exact arl n3.symm hw
  · rw [e5]; exact hx1
  · rw [e5]; exact hx2
  · exact arl n1.symm hg
  · refine ⟨fun k => by rw [hg2.get k, e1], ?_⟩
    rw [hg2.len]; unfold Ag.Co.size; rw [e1, e2]
  · exact arl n2.symm hh
  · exact ⟨fun k => by rw [hh2.get k, e4], hh2.nd⟩
theorem ap9 (H : AHeap) (F : Ob) (c : Ag.Co) (x : Ag.Rd) (h : CAt H F c) (nd : NdC F) (hf : CFine c) (hL : LF x.list) (hk : x.kind < 2 ^ 64) (hv : x.view <= Ag.mostView) (hl : x.last <= x.view) (ha : x.agreed < 2 ^ 64) :
    ACalls Try.prog 33 [.ptr F.o 0, .agg (rdC x)] H fun r H' => r = bB (c.apply x).isSome /\ CAt H' F ((c.apply x).getD c) /\ TurnC H F F H' := by
  have h0 := h; obtain ⟨off, hco, hset⟩ := h.set nd; have f1 := hf.list.len; have f2 := hf.agr; have f3 := hf.list.ok; have f4 := hf.view; have f5 := hf.last; unfold Ag.mostView at f4 f5 hv; have g1 := hL.len; have g2 := hL.ok; have hB := fun H => ach hL hf H
  unfold bo at hco; refine gm Try.func33 rfl (by decide) ?_
  focus (refine az ?_; refine zb1 rfl rfl rfl (fun oN hoN => ?_); refine bc ?_)
  refine dy (R' := [(0, .ptr F.o 0), (3, .pce (rdC x) 0), (4, bB false)]) (H' := H) ((aro (H0 := H) 3 (rdC x) rfl aa df (aih hoN)).trans (Ent.sub _ (by (repeat' (first | exact RSub.nil _ | apply RSub.cons)); all_goals rfl))) ?_
  clear hoN oN; have hne : x.list ≠ [] ↔ 0 < x.list.length := List.length_pos_iff.symm; by_cases k1 : x.kind = 1
  · have hap : c.apply x = if x.view < c.view \/ x.list ≠ [] then none else some { c with view := x.view } := by unfold Ag.Co.apply; rw [if_pos k1]
    rw [hap]; clear hap; by_cases q : x.view < c.view \/ x.list ≠ []
    · rw [if_pos q]
      replace q : x.view < c.view \/ 0 < x.list.length := q.imp id hne.1; clear hne
      focus (refine fy ?_; refine ja ?_; refine ax rfl (fun hc => ?_) (fun hc => ?_); refine bf ?_; refine cj ?_; refine dm ?_; refine cw ?_; refine mo ?_; refine bj ?_; refine zt2 rfl rfl rfl (fun hc => ?_) (fun hc => ?_); refine dh ?_; refine nh ?_; refine cx ?_; refine nv ?_; refine jh ?_; refine ax rfl (fun hc => ?_) (fun hc => ?_); refine cp ?_; refine fi ?_; rotate_left; exact absurd hc aj; refine je ?_; refine zt4 rfl rfl ?_; refine da ?_; refine de ?_; refine ia ?_; refine cp ?_; refine fi ?_; rotate_left; exact absurd hc aj)
      all_goals try (exfalso; omega)
      all_goals exact ⟨.inl rfl, _, _, _, Ent.refl _ _, ret1 rfl rfl, rfl, h0, TurnC.refl _ _ nd⟩
    · rw [if_neg q]
      replace q : ¬ (x.view < c.view \/ 0 < x.list.length) := fun h => q (h.imp id hne.2)
      clear hne
      focus (refine fy ?_; refine ja ?_; refine ax rfl (fun hc => ?_) (fun hc => ?_); refine bf ?_; refine cj ?_; refine dm ?_; refine cw ?_; refine mo ?_; refine bj ?_; refine zt2 rfl rfl rfl (fun hc => ?_) (fun hc => ?_); refine dh ?_; refine nh ?_; refine cx ?_; refine nv ?_; refine jh ?_; refine gh ?_; intro hc; refine fv ?_; refine ez ?_; refine iw ?_; refine jc ?_; refine ft ?_; refine cp ?_; rotate_left; exact absurd hc aj; exact absurd hc aj)
      all_goals try (exfalso; omega)
      exact ⟨.inl rfl, _, _, _, Ent.refl _ _, ret1 rfl rfl, rfl, (hset { c with view := x.view } rfl rfl rfl rfl rfl).1, (hset { c with view := x.view } rfl rfl rfl rfl rfl).2⟩
  clear hne; by_cases k2 : x.kind = 2
  · have hap : c.apply x = if x.view < c.view \/ x.view < c.last \/ Ag.begins x.list (c.list.take c.agreed) = false then none else some { c with view := x.view, last := x.view, list := x.list } := by unfold Ag.Co.apply; rw [if_neg k1, if_pos k2]
    rw [hap]; clear hap
    cases hbg : Ag.begins x.list (c.list.take c.agreed) with
    | false =>
      rw [hbg] at hB; rw [if_pos (.inr (.inr rfl))]
      focus (refine fy ?_; refine ja ?_; refine kx ?_; intro hc; refine ja ?_; refine ax rfl (fun hc => ?_) (fun hc => ?_); refine bf ?_; refine cj ?_; refine dm ?_; refine cw ?_; refine mo ?_; refine bj ?_; refine zt2 rfl rfl rfl (fun hc => ?_) (fun hc => ?_); refine dh ?_; refine dd ?_; refine mo ?_; refine ie ?_; refine zt2 rfl rfl rfl (fun hc => ?_) (fun hc => ?_); refine dh ?_; refine dd ?_; refine dd ?_; refine oq ?_; refine cx ?_; (apply ay; · exact bw ah (hB _)); refine cx ?_; refine ju ?_; refine jh ?_; refine ia ?_; refine cp ?_; refine fi ?_; rotate_left; refine bx ?_; refine bx ?_; refine bx ?_; refine da ?_; refine de ?_; refine ia ?_; refine cp ?_; refine fi ?_; rotate_left; refine bx ?_; refine je ?_; refine da ?_; refine bj ?_; refine bx ?_; refine bx ?_; refine bx ?_; refine zt4 rfl rfl ?_; refine da ?_; refine de ?_; refine ia ?_; refine cp ?_; refine fi ?_; rotate_left; exact absurd hc aj)
      all_goals try (exfalso; omega)
      all_goals exact ⟨.inl rfl, _, _, _, Ent.refl _ _, ret1 rfl rfl, rfl, h0, TurnC.refl _ _ nd⟩
    | true =>
      rw [hbg] at hB; by_cases q : x.view < c.view \/ x.view < c.last
      · rw [if_pos (by rcases q with q | q; exact .inl q; exact .inr (.inl q))]
        focus (refine fy ?_; refine ja ?_; refine kx ?_; intro hc; refine ja ?_; refine ax rfl (fun hc => ?_) (fun hc => ?_); refine bf ?_; refine cj ?_; refine dm ?_; refine cw ?_; refine mo ?_; refine bj ?_; refine zt2 rfl rfl rfl (fun hc => ?_) (fun hc => ?_); refine dh ?_; refine dd ?_; refine mo ?_; refine ie ?_; refine zt2 rfl rfl rfl (fun hc => ?_) (fun hc => ?_); exact absurd hc aj; refine bx ?_; refine bx ?_; refine bx ?_; refine da ?_; refine de ?_; refine ia ?_; refine cp ?_; refine fi ?_; rotate_left; refine bx ?_; refine je ?_; refine da ?_; refine bj ?_; refine bx ?_; refine bx ?_; refine bx ?_; refine zt4 rfl rfl ?_; refine da ?_; refine de ?_; refine ia ?_; refine cp ?_; refine fi ?_; rotate_left; exact absurd hc aj)
        all_goals try (exfalso; omega)
        all_goals exact ⟨.inl rfl, _, _, _, Ent.refl _ _, ret1 rfl rfl, rfl, h0, TurnC.refl _ _ nd⟩
      · rw [if_neg (by rintro (e | e | e); exact q (.inl e); exact q (.inr e); cases e)]
        focus (refine fy ?_; refine ja ?_; refine kx ?_; intro hc; refine ja ?_; refine ax rfl (fun hc => ?_) (fun hc => ?_); refine bf ?_; refine cj ?_; refine dm ?_; refine cw ?_; refine mo ?_; refine bj ?_; refine zt2 rfl rfl rfl (fun hc => ?_) (fun hc => ?_); refine dh ?_; refine dd ?_; refine mo ?_; refine ie ?_; refine zt2 rfl rfl rfl (fun hc => ?_) (fun hc => ?_); refine dh ?_; refine dd ?_; refine dd ?_; refine oq ?_; refine cx ?_; (apply ay; · exact bw ah (hB _)); refine cx ?_; refine ju ?_; refine jh ?_; refine mf rfl ?_; refine cy ?_; refine mw false dz bg bg ?_; refine gz ?_; refine gz ?_; refine gz ?_; refine lk ?_; refine lh ?_; refine lk ?_; refine lh ?_; refine lk ?_; refine lh ?_; refine jd ?_; refine lq ?_; refine jd ?_; refine lq ?_; refine jd ?_; refine lq ?_; refine mr ?_; refine lw (fun Rx K1 hK1x => ?_); refine jc ?_; (refine hK1x _ ?_; clear hK1x K1 Rx); refine lw (fun Rx K1 hK1x => ?_); refine iq ?_; refine bb ?_; (refine hK1x _ ?_; clear hK1x K1 Rx); refine lw (fun Rx K1 hK1x => ?_); refine iq ?_; refine bb ?_; (refine hK1x _ ?_; clear hK1x K1 Rx); refine mi ?_; refine ft ?_; refine cp ?_; rotate_left; exact absurd hc aj; exact absurd hc aj; exact absurd hc aj)
        all_goals try (exfalso; omega)
        exact ⟨.inl rfl, _, _, _, Ent.refl _ _, ret1 rfl rfl, rfl, (hset { c with view := x.view, last := x.view, list := x.list } rfl rfl rfl rfl rfl).1, (hset { c with view := x.view, last := x.view, list := x.list } rfl rfl rfl rfl rfl).2⟩
  by_cases k4 : x.kind = 4
  · have hap : c.apply x = if x.list.length < x.agreed then none else some { c with view := x.view, last := x.last, agreed := x.agreed, list := x.list } := by unfold Ag.Co.apply; rw [if_neg k1, if_neg k2, if_neg (by omega), if_pos k4]
    rw [hap]; clear hap; by_cases q : x.list.length < x.agreed
    · rw [if_pos q]
      focus (refine fy ?_; refine ja ?_; refine kx ?_; intro hc; refine ja ?_; refine kx ?_; intro hc; refine ja ?_; refine kx ?_; intro hc; refine ja ?_; refine ax rfl (fun hc => ?_) (fun hc => ?_); refine sw ?_; refine ez ?_; refine eu ?_; refine ae rfl (fu rfl (by omega)) ?_; refine dw ?_; refine aq ?_; refine ax rfl (fun hc => ?_) (fun hc => ?_); refine cp ?_; refine fi ?_; rotate_left; exact absurd hc aj; exact absurd hc aj)
      all_goals try (exfalso; omega)
      all_goals exact ⟨.inl rfl, _, _, _, Ent.refl _ _, ret1 rfl rfl, rfl, h0, TurnC.refl _ _ nd⟩
    · rw [if_neg q]
      focus (refine fy ?_; refine ja ?_; refine kx ?_; intro hc; refine ja ?_; refine kx ?_; intro hc; refine ja ?_; refine kx ?_; intro hc; refine ja ?_; refine ax rfl (fun hc => ?_) (fun hc => ?_); refine sw ?_; refine ez ?_; refine eu ?_; refine ae rfl (fu rfl (by omega)) ?_; refine dw ?_; refine aq ?_; refine gh ?_; intro hc; refine mw false dz bg bg ?_; refine gz ?_; refine gz ?_; refine gz ?_; refine gz ?_; refine lk ?_; refine lh ?_; refine lk ?_; refine lh ?_; refine lk ?_; refine lh ?_; (apply jl; · (intro H1; exact qs rfl (by omega) (by omega))); refine lk ?_; refine lh ?_; refine jd ?_; refine lq ?_; refine jd ?_; refine lq ?_; refine jd ?_; refine lq ?_; refine jd ?_; refine lq ?_; refine mr ?_; refine lw (fun Rx K1 hK1x => ?_); refine jc ?_; (refine hK1x _ ?_; clear hK1x K1 Rx); refine lw (fun Rx K1 hK1x => ?_); refine iq ?_; refine bb ?_; (refine hK1x _ ?_; clear hK1x K1 Rx); refine lw (fun Rx K1 hK1x => ?_); refine iq ?_; refine bb ?_; (refine hK1x _ ?_; clear hK1x K1 Rx); refine lw (fun Rx K1 hK1x => ?_); refine iq ?_; refine bb ?_; (refine hK1x _ ?_; clear hK1x K1 Rx); refine mi ?_; refine ft ?_; refine cp ?_; rotate_left; exact absurd hc aj)
      all_goals try (exfalso; omega)
      exact ⟨.inl rfl, _, _, _, Ent.refl _ _, ret1 rfl rfl, rfl, (hset { c with view := x.view, last := x.last, agreed := x.agreed, list := x.list } rfl rfl rfl rfl rfl).1, (hset { c with view := x.view, last := x.last, agreed := x.agreed, list := x.list } rfl rfl rfl rfl rfl).2⟩
  by_cases k3 : x.kind = 3
  · have hap : c.apply x = if Ag.listed (c.list ++ x.list) = true then some { c with list := c.list ++ x.list } else none := by unfold Ag.Co.apply; rw [if_neg k1, if_neg k2, if_pos k3]
    rw [hap]; clear hap; have hcp := fun H => pg H c.list (by omega) fun e he => by have := (f3 e he).2; omega
    have hLi := fun H => acp H (c.list ++ x.list) (by rw [List.length_append]; omega) (fun e he => by
      rcases List.mem_append.1 he with he | he
      · have := (f3 e he).2; omega
      · have := (g2 e he).2; omega)
    have hcl : (c.list.flatMap En.cells).length = c.list.length * 3 := i8 (sz := 3) (fun _ => rfl) _
    have hxl : (x.list.flatMap En.cells).length = x.list.length * 3 := i8 (sz := 3) (fun _ => rfl) _
    focus (refine fy ?_; refine ja ?_; refine kx ?_; intro hc; refine ja ?_; refine kx ?_; intro hc; refine ja ?_; refine ax rfl (fun hc => ?_) (fun hc => ?_); refine bf ?_; refine mw true dz bg bg ?_; refine gz ?_; refine jd ?_; (apply j8 bg; (· exact fc rfl aa rfl)); refine lu ?_; refine lk ?_; refine lh ?_; refine lu ?_; refine lu ?_; refine mr ?_; refine kz (fun Rx K1 hK1x => ?_); (refine zc ah (hcp _) ?_; rintro r H' ⟨oL, hoL, rfl, rfl⟩); refine bb ?_; (refine hK1x _ _ ?_; clear hK1x K1 Rx); refine kz (fun Rx K1 hK1x => ?_); refine zz rfl rfl rfl aa au dc au au (fun oN hoN => ?_); refine bb ?_; (refine hK1x _ _ ?_; clear hK1x K1 Rx); refine kz (fun Rx K1 hK1x => ?_); refine ix ?_; refine bb ?_; (refine hK1x _ _ ?_; clear hK1x K1 Rx); refine mi ?_; refine gj ?_; rotate_left; exact absurd hc aj)
    all_goals try (exfalso; omega)
    rw [List.drop_zero, <- List.flatMap_append, ars hoL, <- List.length_append]; have hoN2 : H oN = none := arm hoN; refine dy (R' := [(0, .ptr F.o 0), (4, bB false), (5, lsE (c.list ++ x.list))]) (H' := H) ((Ent.seal_cel1 5 rfl (i8 (sz := 3) (fun _ => rfl) (c.list ++ x.list)) hoN2).trans (Ent.sub _ (by (repeat' (first | exact RSub.nil _ | apply RSub.cons)); all_goals rfl))) ?_
    clear hoL hoN hoN2
    cases hls : Ag.listed (c.list ++ x.list) with
    | false =>
      rw [hls] at hLi; rw [if_neg (by simp)]
      focus (refine bq ?_; refine dt ?_; (refine zc ah (hLi _) ?_; rintro r H' ⟨rfl, rfl⟩); refine ea ?_; refine gy ?_; refine cp ?_; refine fi ?_)
      exact ⟨.inl rfl, _, _, _, Ent.refl _ _, ret1 rfl rfl, rfl, h0, TurnC.refl _ _ nd⟩
    | true =>
      rw [hls] at hLi; rw [if_pos rfl]
      focus (refine bq ?_; refine dt ?_; (refine zc ah (hLi _) ?_; rintro r H' ⟨rfl, rfl⟩); refine ea ?_; refine fm ?_; refine cy ?_; refine fv ?_; refine dt ?_; refine iw ?_; refine jc ?_; refine ft ?_; refine cp ?_)
      exact ⟨.inl rfl, _, _, _, Ent.refl _ _, ret1 rfl rfl, rfl, (hset { c with list := c.list ++ x.list } rfl rfl rfl rfl rfl).1, (hset { c with list := c.list ++ x.list } rfl rfl rfl rfl rfl).2⟩
  have hap : c.apply x = none := by unfold Ag.Co.apply; rw [if_neg k1, if_neg k2, if_neg k3, if_neg k4]
  rw [hap]
  focus (refine fy ?_; refine ja ?_; refine kx ?_; intro hc; refine ja ?_; refine kx ?_; intro hc; refine ja ?_; refine kx ?_; intro hc; refine ja ?_; refine kx ?_; intro hc; refine bn ?_; refine j9 ?_)
  all_goals try (exfalso; omega)
  all_goals exact ⟨.inl rfl, _, _, _, Ent.refl _ _, ret1 rfl rfl, rfl, h0, TurnC.refl _ _ nd⟩
end Go.Proofs.Ytbciofnejefkiaa
namespace Go.Proofs.Ytbciofnejefkiaa
open Go Go.Am Go.Proofs
theorem ala {me n : Nat} {x : Ag.Rd} (hm : me < 2 ^ 64) (hn : n < 2 ^ 64) (hk : x.kind < 2 ^ 64) (hv : x.view < 2 ^ 64) (hl : x.last < 2 ^ 64) (ha : x.agreed < 2 ^ 64) (hL : LF x.list) :
    rdX (recB me n x) = x /\ (parOk me n (recB me n x) ↔ x.ok) := by
  have h200 := hL.len
  have t0 : recB me n x = encU 10 me ++ (encU 10 n ++ (encU 10 x.kind ++ (encU 10 x.view ++ (encU 10 x.last ++ (encU 10 x.agreed ++ (encU 10 x.list.length ++ (cn x.list ++ []))))))) := by
    simp [recB, jy]
  have q1 := kt hm (encU 10 n ++ (encU 10 x.kind ++ (encU 10 x.view ++ (encU 10 x.last ++ (encU 10 x.agreed ++ (encU 10 x.list.length ++ (cn x.list ++ []))))))); have q2 := kt hn (encU 10 x.kind ++ (encU 10 x.view ++ (encU 10 x.last ++ (encU 10 x.agreed ++ (encU 10 x.list.length ++ (cn x.list ++ [])))))); have q3 := kt hk (encU 10 x.view ++ (encU 10 x.last ++ (encU 10 x.agreed ++ (encU 10 x.list.length ++ (cn x.list ++ []))))); have q4 := kt hv (encU 10 x.last ++ (encU 10 x.agreed ++ (encU 10 x.list.length ++ (cn x.list ++ [])))); have q5 := kt hl (encU 10 x.agreed ++ (encU 10 x.list.length ++ (cn x.list ++ []))); have q6 := kt ha (encU 10 x.list.length ++ (cn x.list ++ [])); have q7 := kt (show x.list.length < 2 ^ 64 by omega) (cn x.list ++ [])
  have q9 := acw x.list [] fun e he => ⟨(hL.ok e he).1, by have := (hL.ok e he).2; omega⟩
  have hX : rdX (recB me n x) = x := by
    rw [t0]; unfold rdX; simp only [stK, fp q1, fj q1, fp q2, fj q2, fp q3, fj q3, fp q4, fj q4, fp q5, fj q5, fp q6, fj q6, fp q7, fj q7, Bool.or_false, q9]
  refine ⟨hX, ?_⟩; unfold parOk; rw [hX, t0]; simp only [stK, fp q1, fj q1, fp q2, fj q2, fp q3, fj q3, fp q4, fj q4, fp q5, fj q5, fp q6, fj q6, fp q7, fj q7, Bool.or_false, q9, true_and]; exact ⟨fun h => h.2, fun h => ⟨by omega, h⟩⟩
end Go.Proofs.Ytbciofnejefkiaa
namespace Go.Proofs.Ytbciofnejefkiaa
open Go Go.Am Go.Proofs
noncomputable def openB (me n : Nat) : Ag.Co -> List (List UInt8) -> Option Ag.Co
  | c, [] => some c
  | c, b :: l => if parOk me n b then (c.apply (rdX b)).bind fun c => openB me n c l else none
theorem ae8 {l : List En} (hm : ∀ e ∈ l, e.Ok) (h : Ag.listed l = true) : LF l := by
  unfold Ag.listed at h; simp only [Bool.and_eq_true, decide_eq_true_eq, List.all_eq_true] at h; refine ⟨fun e he => ⟨hm e he, ?_⟩, h.2⟩
  have := h.1.1 e he; simp only [Ag.may, Bool.and_eq_true, decide_eq_true_eq] at this; exact this.2
theorem aic (s : RS) : vlN s < 2 ^ 64 := by unfold vlN; exact k8 _
theorem ak5 (b : List UInt8) : (∀ e ∈ (rdX b).list, e.Ok) /\ (rdX b).kind < 2 ^ 64 /\ (rdX b).agreed < 2 ^ 64 := by
  have h1 := aic (stK 2 (b, false)); have h2 := aic (stK 5 (b, false)); unfold rdX; generalize vlN (stK 6 (b, false)) = n; generalize stK 7 (b, false) = s; generalize vlN (stK 2 (b, false)) = x2 at *; generalize vlN (stK 5 (b, false)) = x5 at *; have h3 := aa0 n s.1 s.2; generalize rdEs n s.1 s.2 = y at *; exact ⟨h3, h1, h2⟩
theorem aqy {me n : Nat} {b : List UInt8} (h : parOk me n b) : (rdX b).ok := by
  unfold parOk at h; exact h.2.2.2.2
theorem api {me n : Nat} {b : List UInt8} (h : parOk me n b) : LF (rdX b).list /\ (rdX b).kind < 2 ^ 64 /\ (rdX b).view <= Ag.mostView /\ (rdX b).last <= (rdX b).view /\ (rdX b).agreed < 2 ^ 64 := by
  have h5 := aqy h; obtain ⟨e1, e2, e3⟩ := ak5 b; clear h; generalize rdX b = x at *; unfold Ag.Rd.ok at h5; exact ⟨ae8 e1 h5.2.2, e2, h5.1, h5.2.1, e3⟩
theorem CFine.apply {c d : Ag.Co} {x : Ag.Rd} (hf : CFine c) (hL : LF x.list) (hv : x.view <= Ag.mostView) (hl : x.last <= x.view) (h : c.apply x = some d) : CFine d /\ d.me = c.me /\ d.n = c.n := by
  unfold Ag.Co.apply at h; split at h
  · split at h
    · cases h
    · cases h; exact ⟨⟨hf.me, hf.n, hv, hf.last, hf.list, hf.agr, hf.wait, hf.quiet, hf.got, hf.held⟩, rfl, rfl⟩
  split at h
  · split at h
    · cases h
    · next hq =>
      cases h
      rw [not_or, not_or, Bool.not_eq_false] at hq; have hb := hq.2.2; have := hf.agr; simp only [Ag.begins, Bool.and_eq_true, decide_eq_true_eq, List.length_take] at hb; exact ⟨⟨hf.me, hf.n, hv, hv, hL, by show c.agreed <= x.list.length; omega, hf.wait, hf.quiet, hf.got, hf.held⟩, rfl, rfl⟩
  split at h
  · split at h
    · next hq =>
      cases h
      exact ⟨⟨hf.me, hf.n, hf.view, hf.last, ae8 (fun e he => by
        rcases List.mem_append.1 he with he | he
        · exact (hf.list.ok e he).1
        · exact (hL.ok e he).1) hq, by have := hf.agr; show c.agreed <= (c.list ++ x.list).length; rw [List.length_append]; omega, hf.wait, hf.quiet, hf.got, hf.held⟩, rfl, rfl⟩
    · cases h
  split at h
  · split at h
    · cases h
    · cases h
      exact ⟨⟨hf.me, hf.n, hv, by show x.last <= _; omega, hL, by show x.agreed <= x.list.length; omega, hf.wait, hf.quiet, hf.got, hf.held⟩, rfl, rfl⟩
  · cases h
end Go.Proofs.Ytbciofnejefkiaa
namespace Go.Proofs.Ytbciofnejefkiaa
open Go Go.Am Go.Proofs
structure Hdn (p : Prop) : Prop where
  out : p
theorem CFine.new {me n : Nat} (hm : me < n) (h7 : n <= 7) : CFine (Ag.Co.new me n) :=
  ⟨hm, h7, Nat.zero_le _, Nat.zero_le _, ⟨by simp [Ag.Co.new], by simp [Ag.Co.new]⟩, Nat.le_refl _, ⟨by simp [Ag.Co.new], by simp [Ag.Co.new]⟩, Nat.zero_le _, fun q x h => (by cases h), fun q x h => (by cases h)⟩
theorem am1 {me n : Nat} {l : List (List UInt8)} {i : Nat} {b : List UInt8} (h : l[i]? = some b) (c : Ag.Co) : openB me n c (l.drop i) = if parOk me n b then (c.apply (rdX b)).bind fun c => openB me n c (l.drop (i + 1)) else none := by
  have e : l.drop i = b :: l.drop (i + 1) := by
    rw [List.drop_eq_getElem_cons (List.getElem?_eq_some_iff.1 h).1, (List.getElem?_eq_some_iff.1 h).2]
  rw [e, openB]
theorem al2 {l : List (List UInt8)} {i : Nat} {b : List UInt8} (h : l[i]? = some b) : (l.map AV.bys)[i]? = some (.bys b) := by simp [h]
theorem Open_calls (H : AHeap) (me n : Nat) (l : List (List UInt8)) (hm : me < n) (h7 : n <= 7) (h2 : n % 2 = 1) (hl : l.length <= 1000000000000) (hb : ∀ b ∈ l, b.length <= 1000000) :
    ACalls Try.prog 16 [mI (me : Int), mI (n : Int), .sls l.length (l.map .bys)] H fun r H' => (match openB me n (Ag.Co.new me n) l with
      | none => r = .tup [.raw (.pointer none), mI 3]
      | some c => ∃ F : Ob, r = .tup [.ptr F.o 0, mI 0] /\ CAt H' F (if n = 1 then { c with agreed := c.list.length } else c) /\ NdC F /\ (∀ p ∈ F.c, H p = none)) /\ ∀ p y, H p = some y -> H' p = some y := by
  refine lz Try.func16 rfl (by decide) ?_
  focus (refine az ?_; refine dq ?_; refine dk ?_; refine an ?_; refine an ?_; (refine zc ah (New_calls _ me n hm h7 h2) ?_; rintro r H' ⟨F, rfl, a1, a2, a3, a4⟩); refine jj ?_; refine ku ?_; refine bc ?_; refine bz ?_; refine jk ?_; refine aq ?_; refine gh ?_; intro hc; refine bq ?_; refine ey ?_; refine ig ?_)
  generalize hB : openB me n (Ag.Co.new me n) l = B; have hN := CFine.new hm h7; have hN1 : (Ag.Co.new me n).me = me := rfl; have hN2 : (Ag.Co.new me n).n = n := rfl; generalize Ag.Co.new me n = c0 at *; refine cv (fun mm R' H2 => ∃ (i : Nat) (c : Ag.Co), R' = [(1, mI (n : Int)), (8, .ptr F.o 0), (9, mI 0), (23, .sls l.length (l.map .bys)), (24, mI (l.length : Int)), (25, mI (i : Int))] /\ CAt H2 F c /\ CFine c /\ c.me = me /\ c.n = n /\ openB me n c (l.drop i) = B /\ (∀ p y, H p = some y -> H2 p = some y) /\ i + mm = l.length) ?_ ?_
  · exact ⟨l.length, _, _, ba, 0, c0, rfl, a1, hN, hN1, hN2, by rw [List.drop_zero]; exact hB, a4, by omega⟩
  clear a1 a4 hB hN hN1 hN2; rintro mm R0 H2 ⟨i, c, rfl, b1, b2, b3, b4, b5, b6, hi⟩; by_cases hlt : i < l.length
  · have hg : l[i]? = some l[i] := List.getElem?_eq_getElem hlt
    have hbb := hb _ (List.getElem_mem hlt); have g1 := al2 hg; have hs := fun c => am1 (me := me) (n := n) hg c
    generalize l[i] = b at *; have hrd := fun h => api (me := me) (n := n) (b := b) h
    obtain ⟨off, _, hco, _⟩ := b1.core; have hP := al7 H2 F.o c F.og F.oh _ b hco (by omega) (by omega) hbb
    rw [b3, b4] at hP; by_cases hp : parOk me n b
    · obtain ⟨k1, k2, k3, k4, k5⟩ := hrd hp
      have hA := ap9 H2 F c (rdX b) b1 a2 b2 k1 k2 k3 k4 k5; rw [decide_eq_true hp] at hP; have hfa := fun d => CFine.apply (d := d) b2 k1 k3 k4
      rw [hs, if_pos hp] at b5; clear hs hrd; replace hfa := Hdn.mk hfa; replace hP : ACalls Try.prog 32 [.ptr F.o 0, .bys b] H2 fun r H' => r = .tup [.agg (rdC (rdX b)), bB true] /\ H' = H2 := hP.mono fun r H' ⟨⟨x, h1, h2⟩, h3⟩ => by rw [h2 hp] at h1; exact ⟨h1, h3⟩
      cases ha : c.apply (rdX b) with
      | none =>
        rw [ha] at hA b5; replace ha := Hdn.mk ha; replace b5 := Hdn.mk b5
        focus (refine br ?_; refine ax rfl (fun hc => ?_) (fun hc => ?_); refine ct ?_; refine ic ?_; refine gx ?_; refine kv ?_; refine aq ?_; refine dg ?_; refine ei ?_; (refine zc ah (hP) ?_; rintro r H' ⟨rfl, rfl⟩); refine jj ?_; refine cz rfl rfl rfl (fun oN hoN => ?_); refine jo ?_; refine dk ?_; refine an ?_; refine ea ?_; refine i9 ?_; refine ip ?_; refine a0 ?_; (refine zc ah (hA) ?_; rintro r H' ⟨rfl, d1, d2⟩); refine a0 ?_; refine ea ?_; refine cd ?_; refine gy ?_; refine az ?_; refine dq ?_; refine bn ?_; refine j9 ?_; refine fi ?_; rotate_left; exact absurd hc aj)
        obtain rfl := b5.out; exact ⟨.inl rfl, _, _, _, Ent.refl _ _, i7 rfl (gu rfl) (gu rfl), rfl, fun p y hp => d2.fr p y (b6 p y hp) (fun e => by rw [a3 p e] at hp; cases hp)⟩
      | some d =>
        rw [ha] at hA b5; replace ha := Hdn.mk ha; replace b5 := Hdn.mk b5
        focus (refine br ?_; refine ax rfl (fun hc => ?_) (fun hc => ?_); refine ct ?_; refine ic ?_; refine gx ?_; refine kv ?_; refine aq ?_; refine dg ?_; refine ei ?_; (refine zc ah (hP) ?_; rintro r H' ⟨rfl, rfl⟩); refine jj ?_; refine cz rfl rfl rfl (fun oN hoN => ?_); refine jo ?_; refine dk ?_; refine an ?_; refine ea ?_; refine i9 ?_; refine ip ?_; refine a0 ?_; (refine zc ah (hA) ?_; rintro r H' ⟨rfl, d1, d2⟩); refine a0 ?_; refine ea ?_; refine cd ?_; refine fm ?_; refine di ?_; refine dl ?_; rotate_left; exact absurd hc aj)
        obtain ⟨c1, c2, c3⟩ := hfa.out d ha.out; exact ⟨mm - 1, _, _, by omega, jt, i + 1, d, rfl, d1, c1, c2.trans b3, c3.trans b4, b5.out, fun p y hp => d2.fr p y (b6 p y hp) (fun e => by rw [a3 p e] at hp; cases hp), by omega⟩
    · rw [decide_eq_false hp] at hP
      rw [hs, if_neg hp] at b5; subst b5; clear hs hrd hp
      focus (refine br ?_; refine ax rfl (fun hc => ?_) (fun hc => ?_); refine ct ?_; refine ic ?_; refine gx ?_; refine kv ?_; refine aq ?_; refine dg ?_; refine ei ?_; (refine zc ah (hP) ?_; rintro r H' ⟨⟨x, rfl, _⟩, rfl⟩); refine jj ?_; refine cz rfl rfl rfl (fun oN hoN => ?_); refine jo ?_; refine dk ?_; refine an ?_; refine ea ?_; refine an ?_; refine dp ?_; refine bu ?_; refine gy ?_; refine az ?_; refine dq ?_; refine bn ?_; refine j9 ?_; refine fi ?_; rotate_left; exact absurd hc aj)
      exact ⟨.inl rfl, _, _, _, Ent.refl _ _, i7 rfl (gu rfl) (gu rfl), rfl, b6⟩
  obtain rfl : i = l.length := by omega
  rw [List.drop_length] at *; rw [openB] at b5; subst b5; obtain ⟨off, hco, hset⟩ := b1.set a2; have hset1 := hset { c with agreed := c.list.length } rfl rfl rfl rfl rfl
  clear hset; have b10 := b1; unfold bo at hco
  focus (refine br ?_; refine c8 ?_; intro hc; refine bz ?_; refine fh ?_; refine aq ?_; refine ax rfl (fun hc => ?_) (fun hc => ?_); refine fv ?_; refine bl ?_; refine eu ?_; refine iw ?_; refine gv ?_; refine aq ?_; refine dg ?_; refine ku ?_; refine bn ?_; rotate_left; refine cy ?_; refine dg ?_; refine ku ?_; refine bn ?_; rotate_left)
  · dsimp only
    rw [if_pos hc]; exact ⟨.inl rfl, _, _, _, Ent.refl _ _, i7 rfl (gu rfl) (gu rfl), ⟨F, rfl, hset1.1, a2, a3⟩, fun p y hp => hset1.2.fr p y (b6 p y hp) (fun e => by rw [a3 p e] at hp; cases hp)⟩
  · dsimp only
    rw [if_neg hc]; exact ⟨.inl rfl, _, _, _, Ent.refl _ _, i7 rfl (gu rfl) (gu rfl), ⟨F, rfl, b10, a2, a3⟩, b6⟩
end Go.Proofs.Ytbciofnejefkiaa
namespace Go.Proofs.Ytbciofnejefkiaa
open Go Go.Am Go.Proofs
theorem ao7 {xs : List AV} {off : Nat} {l : List En} {i : Nat} {e : En} (hx : xs.drop off = l.flatMap En.cells) (hg : l[i]? = some e) : (xs.drop (off + i * 3)).take 3 = e.cells := by
  rw [<- List.drop_drop, hx]
  have h1 : l.flatMap En.cells = (l.take i).flatMap En.cells ++ (e.cells ++ (l.drop (i + 1)).flatMap En.cells) := by
    have e1 : l = l.take i ++ (e :: l.drop (i + 1)) := by
      rw [<- (List.getElem?_eq_some_iff.1 hg).2, <- List.drop_eq_getElem_cons, List.take_append_drop]
    conv => lhs; rw [e1]
    rw [List.flatMap_append, List.flatMap_cons]
  have h2 : ((l.take i).flatMap En.cells).length = i * 3 := by
    have := (List.getElem?_eq_some_iff.1 hg).1; rw [i8 (sz := 3) (fun _ => rfl), List.length_take, Nat.min_eq_left (by omega)]
  rw [h1, <- h2, List.drop_left]; rfl
theorem ak4 (H : AHeap) (o off : Nat) (xs : List AV) (l : List En) (hl : l.length <= 1000000) (hr : ∀ e ∈ l, e.row.length <= 1000000) (hH : H o = some (.cel xs)) (hf : off + l.length * 3 = xs.length) (hx : xs.drop off = l.flatMap En.cells) :
    ACalls Try.prog 43 [.vw o 3 off l.length] H fun r H' => ∃ o', H o' = none /\ r = .vw o' 3 0 l.length /\ H' = H.set o' (.cel (l.flatMap En.cells)) := by
  refine ej Try.func43 rfl (by decide) ?_
  focus (refine f0 ?_; refine bc ?_; refine bq ?_; refine c9 ?_; refine iz ?_; refine ig ?_)
  refine vx 3 3 (.cel []) rfl rfl (fun oL hoL => ?_)
  refine cv (fun mm R' H2 => ∃ (i oL : Nat), H oL = none /\ H2 = H.set oL (.cel ((l.take i).flatMap En.cells)) /\ R' = [(3, .vw oL 3 0 i), (6, .vw o 3 off l.length), (7, .raw (.int .i64 (l.length : Int))), (8, .raw (.int .i64 (i : Int)))] /\ i + mm = l.length) ?_ ?_
  · exact ⟨l.length, _, _, ba, 0, oL, hoL, by rw [List.take_zero]; rfl, rfl, by omega⟩
  clear hoL oL; rintro mm R0 H2 ⟨i, oL, hoL, rfl, rfl, hi⟩; have hfl : ((l.take i).flatMap En.cells).length = i * 3 := by rw [i8 (sz := 3) (fun _ => rfl), List.length_take, Nat.min_eq_left (by omega)]
  have hne : o ≠ oL := fun e => by rw [e, hoL] at hH; cases hH
  by_cases hlt : i < l.length
  · have hg : l[i]? = some l[i] := List.getElem?_eq_getElem hlt
    have hm := hr _ (List.getElem_mem hlt); have hge := ao7 hx hg; have hsn : (l.take (i + 1)).flatMap En.cells = (l.take i).flatMap En.cells ++ (l[i]).cells := by rw [List.take_add_one, hg, List.flatMap_append]; simp [hg]
    generalize l[i] = e at *
    focus (refine br ?_; refine ax rfl (fun hc => ?_) (fun hc => ?_); refine ct ?_; refine pk ?_; refine sg ?_; refine cz rfl rfl rfl (fun oN hoN => ?_); refine jo ?_; refine aq ?_; refine ca ?_; refine c9 ?_; refine ip ?_; (refine zc ah (Copy_calls _ e hm) ?_; rintro r H' ⟨rfl, rfl⟩); refine kq ?_; refine za2 rfl rfl rfl (by assumption) au dc au au (fun oN hoN => ?_); refine ix ?_; refine bb ?_; refine dl ?_; rotate_left; exact absurd hc aj)
    all_goals first
      | (exfalso; omega)
      | exact ⟨mm - 1, _, _, by omega, jt, i + 1, oN, hoN, by rw [hsn]; rfl, rfl, by omega⟩
      | trace_state
  obtain rfl : i = l.length := by omega
  rw [List.take_length] at *
  focus (refine br ?_; refine c8 ?_; intro hc; refine az ?_; refine c9 ?_; refine ix ?_; refine dv ?_)
  all_goals first
    | (exfalso; omega)
    | exact ⟨.inl rfl, _, _, _, Ent.refl _ _, ret1 rfl rfl, oL, hoL, rfl, rfl⟩
theorem MI.get_at {k : Int} {u : AV} : ∀ {es : MI}, es.get k = some u -> ∃ i : Nat, es[i]? = some (k, u)
  | [], h => by cases h
  | (a, v) :: es, h => by
    unfold MI.get at h; split at h
    · next e => cases h; exact ⟨0, by rw [e]; rfl⟩
    · obtain ⟨i, hi⟩ := MI.get_at h; exact ⟨i + 1, hi⟩
theorem MI.at_get {k : Int} {u : AV} : ∀ {es : MI} {i : Nat}, (es.map (·.1)).Nodup -> es[i]? = some (k, u) -> es.get k = some u
  | [], _, _, h => by cases h
  | (a, v) :: es, 0, _, h => by cases h; unfold MI.get; rw [if_pos rfl]
  | (a, v) :: es, i + 1, hn, h => by
    rw [List.map_cons, List.nodup_cons] at hn; have hi : es[i]? = some (k, u) := h; unfold MI.get; rw [if_neg (fun e => hn.1 (by rw [e]; exact List.mem_map.2 ⟨(k, u), List.mem_of_getElem? hi, rfl⟩))]
    exact MI.at_get hn.2 hi
theorem MI.put_len {k : Int} {v : AV} : ∀ {es : MI}, es.get k = none -> (es.put k v).length = es.length + 1
  | [], _ => rfl
  | (a, u) :: es, h => by
    unfold MI.get at h; split at h
    · cases h
    · next e => unfold MI.put; rw [if_neg e, List.length_cons, List.length_cons, MI.put_len h]
theorem yl : ∀ {a b : List Nat}, a.Nodup -> (∀ x ∈ a, x ∈ b) -> a.length <= b.length
  | [], b, _, _ => Nat.zero_le _
  | x :: a, b, h, hs => by
    rw [List.nodup_cons] at h; have hx := hs x List.mem_cons_self
    have := yl (a := a) (b := b.erase x) h.2 fun y hy => by
      have hne : y ≠ x := fun e => h.1 (by rw [<- e]; exact hy)
      exact (List.mem_erase_of_ne hne).2 (hs y (List.mem_cons_of_mem _ hy))
    rw [List.length_erase_of_mem hx] at this; have : 0 < b.length := List.length_pos_of_mem hx; rw [List.length_cons]; omega
theorem acb {α : Type} {l : List α} (h : l.Nodup) {i j : Nat} {k : α} (hi : l[i]? = some k) (hj : l[j]? = some k) : i = j := by
  obtain ⟨a1, a2⟩ := List.getElem?_eq_some_iff.1 hi; obtain ⟨b1, b2⟩ := List.getElem?_eq_some_iff.1 hj; have hp := List.pairwise_iff_getElem.1 h; rcases Nat.lt_trichotomy i j with hlt | e | hlt
  · exact absurd (a2.trans b2.symm) (hp i j a1 b1 hlt)
  · exact e
  · exact absurd (b2.trans a2.symm) (hp j i b1 a1 hlt)
structure Cpd (eg es2 : MI) (born seen : List Nat) : Prop where
  sub : ∀ k u, es2.get k = some u -> eg.get k = some u
  did : ∀ (i b : Nat) (p : Int × AV), born[i]? = some b -> b ∈ seen -> eg[i]? = some p -> es2.get p.1 = some p.2
  yet : ∀ (i b : Nat) (p : Int × AV), born[i]? = some b -> b ∉ seen -> eg[i]? = some p -> es2.get p.1 = none
  len : es2.length = seen.length
  nd : (es2.map (·.1)).Nodup
  snd : seen.Nodup
  ss : ∀ b ∈ seen, b ∈ born
theorem Cpd.nil (eg : MI) (born : List Nat) : Cpd eg [] born [] :=
  ⟨fun k u h => (by cases h), fun _ _ _ _ h => (by cases h), fun _ _ _ _ _ _ => rfl, rfl, List.Pairwise.nil, List.Pairwise.nil, fun _ h => (by cases h)⟩
theorem Cpd.step {eg es2 : MI} {born seen : List Nat} (h : Cpd eg es2 born seen) (hn : (eg.map (·.1)).Nodup) (hb : born.Nodup) {i b : Nat} {k : Int} {v : AV} (h1 : born[i]? = some b) (h2 : b ∉ seen) (h3 : eg[i]? = some (k, v)) : Cpd eg (es2.put k v) born (seen ++ [b]) := by
  have hnone := h.yet i b _ h1 h2 h3; refine ⟨fun k' u hk => ?_, fun j b' p hj hm hp => ?_, fun j b' p hj hm hp => ?_, ?_, abi h.nd, ?_, fun x hx => ?_⟩
  · rw [rz] at hk
    split at hk
    · next e => cases hk; rw [<- e]; exact MI.at_get hn h3
    · exact h.sub k' u hk
  · rw [rz]
    split
    · next e =>
      have : i = j := acb hn (i := i) (j := j) (k := k) (by rw [List.getElem?_map, h3]; rfl) (by rw [List.getElem?_map, hp, e]; rfl)
      subst this; rw [h3] at hp; cases hp; rfl
    · next e =>
      rcases List.mem_append.1 hm with hm | hm
      · exact h.did j b' p hj hm hp
      · rw [List.mem_singleton.1 hm] at hj
        have : i = j := acb hb h1 hj; subst this; rw [h3] at hp; cases hp; exact absurd rfl e
  · rw [List.mem_append, not_or] at hm
    have h4 := h.yet j b' p hj hm.1 hp; rw [rz, if_neg ?_]
    · exact h4
    · intro e
      have : i = j := acb hn (i := i) (j := j) (k := k) (by rw [List.getElem?_map, h3]; rfl) (by rw [List.getElem?_map, hp, e]; rfl)
      subst this; rw [h1] at hj; cases hj; exact hm.2 (List.mem_singleton.2 rfl)
  · rw [MI.put_len hnone, h.len, List.length_append]; rfl
  · rw [List.nodup_append]
    exact ⟨h.snd, by simp, fun x hx y hy e => h2 (by rw [List.mem_singleton.1 hy] at e; rw [<- e]; exact hx)⟩
  · rcases List.mem_append.1 hx with hx | hx
    · exact h.ss x hx
    · rw [List.mem_singleton.1 hx]; exact List.mem_of_getElem? h1
theorem Cpd.lt {eg es2 : MI} {born seen : List Nat} (h : Cpd eg es2 born seen) {b : Nat} (h1 : b ∈ born) (h2 : b ∉ seen) : seen.length < born.length := by
  have := yl (a := b :: seen) (b := born) (List.nodup_cons.2 ⟨h2, h.snd⟩) fun x hx => by
    rcases List.mem_cons.1 hx with hx | hx
    · rw [hx]; exact h1
    · exact h.ss x hx
  rw [List.length_cons] at this; omega
theorem Cpd.done {eg es2 : MI} {born seen : List Nat} (h : Cpd eg es2 born seen) (hb : born.Nodup) (hl : born.length = eg.length) (hs : ∀ b ∈ born, b ∈ seen) : (∀ k, es2.get k = eg.get k) /\ es2.length = eg.length := by
  refine ⟨fun k => ?_, ?_⟩
  · cases he : eg.get k with
    | some u =>
      obtain ⟨i, hi⟩ := MI.get_at he; have hlt := (List.getElem?_eq_some_iff.1 hi).1; have hb : born[i]? = some (born[i]'(by omega)) := List.getElem?_eq_getElem (by omega)
      exact h.did i _ _ hb (hs _ (List.mem_of_getElem? hb)) hi
    | none =>
      cases h2 : es2.get k with
      | none => rfl
      | some u => rw [h.sub k u h2] at he; cases he
  · have h1 := yl h.snd h.ss
    have h2 := yl hb hs; rw [h.len]; omega
theorem MI.get_none {k : Int} : ∀ {es : MI}, es.get k = none -> k ∉ es.map (·.1)
  | [], _ => by simp
  | (a, u) :: es, h => by
    unfold MI.get at h; split at h
    · cases h
    · next e =>
      rw [List.map_cons, List.mem_cons, not_or]; exact ⟨fun x => e x.symm, MI.get_none h⟩
theorem anh (n : Nat) (a : Int) : (List.range n).countP (fun r : Nat => decide (a = (r : Int))) <= 1 := by
  have h : ∀ l : List Nat, l.Nodup -> l.countP (fun r : Nat => decide (a = (r : Int))) <= 1 := by
    intro l
    induction l with
    | nil => intro _; simp
    | cons x l ih =>
      intro hn; rw [List.nodup_cons] at hn; rw [List.countP_cons]; by_cases e : a = (x : Int)
      · have : l.countP (fun r : Nat => decide (a = (r : Int))) = 0 := by
          rw [List.countP_eq_zero]; intro y hy hq; have : a = (y : Int) := by simpa using hq
          have : x = y := by omega
          exact hn.1 (by rw [this]; exact hy)
        rw [this]; split <;> omega
      · rw [if_neg (by simpa using e)]; exact ih hn.2
  exact h _ List.nodup_range
theorem afk (P Q : Nat -> Bool) : ∀ l : List Nat, l.countP (fun r => P r || Q r) <= l.countP P + l.countP Q
  | [] => by simp
  | x :: l => by
    have ih := afk P Q l; simp only [List.countP_cons]
    cases P x <;> cases Q x <;> simp <;> omega
theorem MI.size_le (n : Nat) : ∀ es : MI, (List.range n).countP (fun r : Nat => (MI.get es (r : Int)).isSome) <= es.length /\ ((List.range n).countP (fun r : Nat => (MI.get es (r : Int)).isSome) = es.length -> (es.map (·.1)).Nodup)
  | [] => ⟨by simp [MI.get], fun _ => List.Pairwise.nil⟩
  | (a, v) :: es => by
    obtain ⟨i1, i2⟩ := MI.size_le n es
    have he : (fun r : Nat => ((MI.get ((a, v) :: es) (r : Int)).isSome)) = fun r : Nat => (decide (a = (r : Int)) || (MI.get es (r : Int)).isSome) := by
      funext r
      by_cases e : a = (r : Int)
      · simp [MI.get, e]
      · simp [MI.get, e]
    rw [he, List.length_cons]; have h1 := afk (fun r : Nat => decide (a = (r : Int))) (fun r : Nat => (MI.get es (r : Int)).isSome) (List.range n)
    have h2 := anh n a; refine ⟨by omega, fun h => ?_⟩
    have h3 : MI.get es a = none := by
      cases hg : MI.get es a with
      | none => rfl
      | some u =>
        exfalso
        have : (fun r : Nat => (decide (a = (r : Int)) || (MI.get es (r : Int)).isSome)) = fun r : Nat => (MI.get es (r : Int)).isSome := by
          funext r
          by_cases e : a = (r : Int)
          · rw [<- e, hg]; simp
          · simp [e]
        rw [this] at h; omega
    rw [List.map_cons, List.nodup_cons]; exact ⟨MI.get_none h3, i2 (by omega)⟩
theorem GotM.nd {es : MI} {c : Ag.Co} (h : GotM es c) : (es.map (·.1)).Nodup := by
  refine (MI.size_le c.n es).2 ?_; rw [h.len]; unfold Ag.Co.size
  congr 1
  funext r
  rw [h.get, if_pos (by omega), Int.toNat_natCast]
  cases c.got r <;> rfl
theorem aey {ik : IntKind} {es : MI} {i : Nat} {k v : AV} (h : (es.map fun p => (AV.raw (.int ik p.1), p.2))[i]? = some (k, v)) : ∃ a : Int, k = .raw (.int ik a) /\ es[i]? = some (a, v) := by
  rw [List.getElem?_map] at h
  cases he : es[i]? with
  | none => rw [he] at h; cases h
  | some p => rw [he] at h; cases h; exact ⟨p.1, rfl, rfl⟩
end Go.Proofs.Ytbciofnejefkiaa
