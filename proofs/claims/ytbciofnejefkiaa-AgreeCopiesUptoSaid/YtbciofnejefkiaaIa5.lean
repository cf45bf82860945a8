import Derived.Test.YtbciofnejefkiaaIz
import Derived.Test.YtbciofnejefkiaaIa4
import Derived.Test.YtbciofnejefkiaaAmDrawD
set_option linter.unusedVariables false
set_option linter.unusedSimpArgs false
set_option maxRecDepth 20000
set_option maxHeartbeats 4000000
namespace Go.Proofs.Ytbciofnejefkiaa
open Go Go.Am Go.Proofs

theorem unzig_rng (u : Nat) : b64 (unzig u) := by
  unfold unzig
  show -9223372036854775808 ≤ IntKind.i64.wrap _ ∧ IntKind.i64.wrap _ ≤ 9223372036854775807
  rw [IntKind.wrap_i64]; omega
theorem RU_at {b b' : List UInt8} {u : Nat} {g : Bool} (e : rd b = (u, b', g)) (H : AHeap) (o : Nat) (f : Bool) (h : H o = some (.cel [.bys b, .raw (.bool f)])) (hb : b.length ≤ 4000000000) :
    ACalls Try.prog 57 [.ptr o 0] H fun r H' => r = .raw (.int .u64 (u : Int)) ∧ H' = H.set o (.cel [.bys b', .raw (.bool (f || g))]) := by
  have := RU_calls H o b f h hb
  rw [e] at this
  exact this
theorem RI_at {b b' : List UInt8} {u : Nat} {g : Bool} {v : Int} (e : rd b = (u, b', g)) (hv : unzig u = v) (H : AHeap) (o : Nat) (f : Bool) (h : H o = some (.cel [.bys b, .raw (.bool f)])) (hb : b.length ≤ 4000000000) :
    ACalls Try.prog 82 [.ptr o 0] H fun r H' => r = mI v ∧ H' = H.set o (.cel [.bys b', .raw (.bool (f || g))]) := by
  have := RI_calls H o b f h hb
  rw [e] at this
  subst hv
  exact this
abbrev RS := List UInt8 × Bool
def stN (s : RS) : RS := ((rd s.1).2.1, s.2 || (rd s.1).2.2)
def vlN (s : RS) : Nat := (rd s.1).1
theorem stN_at {b b' : List UInt8} {u : Nat} {g f : Bool} (e : rd b = (u, b', g)) : stN (b, f) = (b', f || g) := by rw [stN, e]
theorem vlN_at {b b' : List UInt8} {u : Nat} {g f : Bool} (e : rd b = (u, b', g)) : vlN (b, f) = u := by rw [vlN, e]
def Mg0 : Mg := ⟨0, 0, 0, 0, 0, 0, 0, [], []⟩
def s7 (t : List UInt8) : RS := stN (stN (stN (stN (stN (stN (stN (t, false)))))))
def mgT (t : List UInt8) (l : List En) (b : List UInt8) : Mg :=
  ⟨unzig (vlN (t, false)), unzig (vlN (stN (t, false))), unzig (vlN (stN (stN (t, false)))), vlN (stN (stN (stN (t, false)))), vlN (stN (stN (stN (stN (t, false))))), vlN (stN (stN (stN (stN (stN (t, false)))))), vlN (stN (stN (stN (stN (stN (stN (t, false))))))), l, b⟩
def getT (t : List UInt8) : Option Mg :=
  if (entsB (s7 t).1 (s7 t).2).2.2.2 = false then none
  else if ((entsB (s7 t).1 (s7 t).2).2.2.1 || (rs (entsB (s7 t).1 (s7 t).2).2.1).2.2) = true ∨ (rs (entsB (s7 t).1 (s7 t).2).2.1).2.1 ≠ [] ∨ ¬ (mgT t (entsB (s7 t).1 (s7 t).2).1 (rs (entsB (s7 t).1 (s7 t).2).2.1).1).good then none
  else some (mgT t (entsB (s7 t).1 (s7 t).2).1 (rs (entsB (s7 t).1 (s7 t).2).2.1).1)
def getM (b : List UInt8) : Option Mg := if (takeF b).2.2 = 0 ∨ (takeF b).2.2 ≠ b.length ∨ (takeF b).1 ≠ 0 then none else getT (takeF b).2.1
def outM : Option Mg → AV
  | none => .tup [.agg Mg0.cells, .raw (.int .i64 (3 : Int))]
  | some m => .tup [.agg m.cells, .raw (.int .i64 (0 : Int))]
theorem awl_gen {P : Program} {n : Nat} {ops : Array Oper} {rest : List Oper} {K : Exit → Regs → AHeap → Prop} {R : Regs} {H : AHeap} (Φ : AHeap → Prop) (h : Φ H) (hk : ∀ H3, Φ H3 → AWL P n ops rest K R H3) : AWL P n ops rest K R H := hk H h
theorem getE_ok {b : List UInt8} {e : En} (h : getE b = some e) : e.Ok := by
  unfold getE at h
  split at h
  · cases h
  split at h
  · cases h
  cases h
  refine ⟨rd_lt _, rd_lt _, ?_⟩
  have : ∀ (n : Nat) (b : List UInt8) (f : Bool), ∀ v ∈ (rdIs n b f).1, b64 v := by
    intro n
    induction n with
    | zero => intro b f v hv; cases hv
    | succ n ih =>
      intro b f v hv
      rw [rdIs] at hv
      rcases List.mem_cons.1 hv with rfl | hv
      · exact unzig_rng _
      · exact ih _ _ _ hv
  exact this _ _ _
theorem rdEs_ok : ∀ (n : Nat) (b : List UInt8) (f : Bool), ∀ e ∈ (rdEs n b f).1, e.Ok
  | 0, _, _ => fun e h => by cases h
  | n + 1, b, f => fun e h => by
    cases hg : getE (rs b).1 with
    | none => rw [rdEs_none hg] at h; cases h
    | some x =>
      rw [rdEs_some hg] at h
      rcases List.mem_cons.1 h with rfl | h
      · exact getE_ok hg
      · exact rdEs_ok n _ _ e h
theorem rdEs_num : ∀ (n : Nat) (b : List UInt8) (f : Bool), (rdEs n b f).1.length ≤ n
  | 0, _, _ => Nat.le_refl _
  | n + 1, b, f => by
    cases hg : getE (rs b).1 with
    | none => rw [rdEs_none hg]; simp
    | some x => rw [rdEs_some hg]; have := rdEs_num n (rs b).2.1 (f || (rs b).2.2); simp; omega
theorem rdEs_left : ∀ (n : Nat) (b : List UInt8) (f : Bool), (rdEs n b f).2.1.length ≤ b.length
  | 0, _, _ => Nat.le_refl _
  | n + 1, b, f => by
    have hr := rs_len b
    cases hg : getE (rs b).1 with
    | none => rw [rdEs_none hg]; exact hr
    | some x => rw [rdEs_some hg]; exact Nat.le_trans (rdEs_left n _ _) hr
theorem entsB_ok (b : List UInt8) (f : Bool) : (∀ e ∈ (entsB b f).1, e.Ok) ∧ (entsB b f).1.length ≤ 200 ∧ (entsB b f).2.1.length ≤ b.length := by
  have hl := rd_len b
  unfold entsB
  split
  · exact ⟨fun e h => (by cases h), Nat.zero_le _, hl⟩
  · exact ⟨rdEs_ok _ _ _, Nat.le_trans (rdEs_num _ _ _) (by omega), Nat.le_trans (rdEs_left _ _ _) hl⟩
theorem entries_at {b : List UInt8} {f : Bool} {x : List En × List UInt8 × Bool × Bool} (hx : entsB b f = x) (oR oM oZ : Nat) (xs zs : List AV) (hM : oM ≠ oR) (hZ : oZ ≠ oR) (H : AHeap) (h : H oR = some (.cel [.bys b, .raw (.bool f)])) (hb : b.length ≤ 100000000) (h2 : H oM = some (.cel xs)) (h3 : H oZ = some (.cel zs)) :
    ACalls Try.prog 88 [.ptr oR 0] H fun r H' => r = outEs x ∧ H' oR = some (.cel [.bys x.2.1, .raw (.bool x.2.2.1)]) ∧ H' oM = some (.cel xs) ∧ H' oZ = some (.cel zs) ∧ ∀ p y, p ≠ oR → H p = some y → H' p = some y :=
  (entries_calls H oR b f h hb).mono fun r H' hh => by
    obtain ⟨e1, e2, e3⟩ := hh
    subst hx
    exact ⟨e1, e2, e3 _ _ hM h2, e3 _ _ hZ h3, e3⟩
set_option maxHeartbeats 40000000 in
theorem Get_calls (H : AHeap) (b : List UInt8) (hb : b.length ≤ 100000000) :
    ACalls Try.prog 69 [.bys b] H fun r H' => r = outM (getM b) ∧ H' = H := by
  have z1 := takeF_size b
  have z3 := takeF_text b
  have hT := fun H => Take_calls H b (by omega)
  unfold getM
  generalize takeF b = x at *
  obtain ⟨num, t, sz⟩ := x
  simp only at z1 z3 hT ⊢
  obtain ⟨u1, b1, g1, e1⟩ : ∃ u c g, rd t = (u, c, g) := ⟨_, _, _, rfl⟩
  have l1 := rd_len t
  rw [e1] at l1
  simp only at l1
  obtain ⟨v1, hv1⟩ : ∃ v, unzig u1 = v := ⟨_, rfl⟩
  have r1 := unzig_rng u1
  rw [hv1] at r1
  obtain ⟨u2, b2, g2, e2⟩ : ∃ u c g, rd b1 = (u, c, g) := ⟨_, _, _, rfl⟩
  have l2 := rd_len b1
  rw [e2] at l2
  simp only at l2
  obtain ⟨v2, hv2⟩ : ∃ v, unzig u2 = v := ⟨_, rfl⟩
  have r2 := unzig_rng u2
  rw [hv2] at r2
  obtain ⟨u3, b3, g3, e3⟩ : ∃ u c g, rd b2 = (u, c, g) := ⟨_, _, _, rfl⟩
  have l3 := rd_len b2
  rw [e3] at l3
  simp only at l3
  obtain ⟨v3, hv3⟩ : ∃ v, unzig u3 = v := ⟨_, rfl⟩
  have r3 := unzig_rng u3
  rw [hv3] at r3
  obtain ⟨u4, b4, g4, e4⟩ : ∃ u c g, rd b3 = (u, c, g) := ⟨_, _, _, rfl⟩
  have l4 := rd_len b3
  rw [e4] at l4
  simp only at l4
  obtain ⟨u5, b5, g5, e5⟩ : ∃ u c g, rd b4 = (u, c, g) := ⟨_, _, _, rfl⟩
  have l5 := rd_len b4
  rw [e5] at l5
  simp only at l5
  obtain ⟨u6, b6, g6, e6⟩ : ∃ u c g, rd b5 = (u, c, g) := ⟨_, _, _, rfl⟩
  have l6 := rd_len b5
  rw [e6] at l6
  simp only at l6
  obtain ⟨u7, b7, g7, e7⟩ : ∃ u c g, rd b6 = (u, c, g) := ⟨_, _, _, rfl⟩
  have l7 := rd_len b6
  rw [e7] at l7
  simp only at l7
  refine acalls_of_aw1 Try.func69 rfl (by decide) ?_
  (first | focus (refine yy1 ?_; refine awl_alloc rfl rfl rfl (fun oN hoN => ?_); refine yy5 ?_; refine yy1 ?_; refine yy39 ?_; (refine zc auto_wl (hT _) ?_; rintro r H' ⟨rfl, rfl⟩); refine yy88 ?_; refine awl_s rfl (s_extract rfl rfl) ?_; refine yy40 ?_; refine yy110 ?_; refine yy5 ?_; refine yy11 ?_; refine yy57 ?_; refine yy2 ?_; refine zg2 rfl rfl rfl (fun hc => ?_) (fun hc => ?_); refine yy76 ?_; refine yy61 ?_; refine yy55 ?_; refine yy2 ?_; refine yy76 ?_; refine yy68 ?_; refine yy23 ?_; refine yy1 ?_; refine yy95 ?_; refine yy87 ?_; refine yy8 ?_; refine yy32 ?_; rotate_left; refine yy26 ?_; refine yy39 ?_; refine yy6 ?_; refine yy117 ?_; refine yy6 ?_; refine yy85 ?_; refine yy27 ?_; refine yy2 ?_; refine zg2 rfl rfl rfl (fun hc => ?_) (fun hc => ?_); refine yy61 ?_; refine yy68 ?_; refine yy23 ?_; refine yy1 ?_; refine yy95 ?_; refine yy87 ?_; refine yy8 ?_; refine yy32 ?_; rotate_left; refine yy26 ?_; refine yy85 ?_; refine yy65 ?_; refine aw_condp rfl (fun hc => ?_) (fun hc => ?_); refine yy1 ?_; refine yy95 ?_; refine yy87 ?_; refine yy8 ?_; refine yy32 ?_; rotate_left; refine yy82 ?_; refine yy1 ?_; refine yy39 ?_; (refine zc auto_wl (read_calls _ _ auto_sd) ?_; rintro r H' ⟨oR, hoR, rfl, rfl⟩); refine yy105 ?_; refine yy3 ?_; refine yy16 ?_; rotate_left) | fail)
  · exact ⟨.inl rfl, _, _, _, Ent.cellRet 2 Mg0.cells rfl auto_heap auto_wcc auto_hs, ret_2 rfl (rv1_agg (m := 9) rfl rfl rfl (by decide)) (rv1_tmp rfl), by rw [if_pos (.inl hc)]; rfl, rfl⟩
  · exact ⟨.inl rfl, _, _, _, Ent.cellRet 2 Mg0.cells rfl auto_heap auto_wcc auto_hs, ret_2 rfl (rv1_agg (m := 9) rfl rfl rfl (by decide)) (rv1_tmp rfl), by rw [if_pos (.inr (.inl hc))]; rfl, rfl⟩
  · exact ⟨.inl rfl, _, _, _, Ent.cellRet 2 Mg0.cells rfl auto_heap auto_wcc auto_hs, ret_2 rfl (rv1_agg (m := 9) rfl rfl rfl (by decide)) (rv1_tmp rfl), by rw [if_pos (.inr (.inr hc))]; rfl, rfl⟩
  rename_i hc1 hc2
  have hoZ := hoN
  clear hoN
  generalize oN = oZ at *
  rw [if_neg (fun h => h.elim hc1 (fun h => h.elim hc2 hc))]
  refine awl_ent (Ent.sub (R0 := [(31, .ptr oR 0), (7, .ptr oR 0), (2, .ptr oZ 0)]) _ (by (repeat' (first | exact RSub.nil _ | apply RSub.cons)); all_goals rfl)) ?_
  (first | focus ((refine zc auto_wl (RI_at (by assumption) (by assumption) _ _ _ (AHeap.set_self _ _ _) (by omega)) ?_; rintro r H' ⟨rfl, rfl⟩); refine yy30 ?_; (refine zc auto_wl (RI_at (by assumption) (by assumption) _ _ _ (AHeap.set_self _ _ _) (by omega)) ?_; rintro r H' ⟨rfl, rfl⟩); refine yy30 ?_; (refine zc auto_wl (RI_at (by assumption) (by assumption) _ _ _ (AHeap.set_self _ _ _) (by omega)) ?_; rintro r H' ⟨rfl, rfl⟩); refine yy30 ?_; (refine zc auto_wl (RU_at (by assumption) _ _ _ (AHeap.set_self _ _ _) (by omega)) ?_; rintro r H' ⟨rfl, rfl⟩); refine yy30 ?_; (refine zc auto_wl (RU_at (by assumption) _ _ _ (AHeap.set_self _ _ _) (by omega)) ?_; rintro r H' ⟨rfl, rfl⟩); refine yy30 ?_; (refine zc auto_wl (RU_at (by assumption) _ _ _ (AHeap.set_self _ _ _) (by omega)) ?_; rintro r H' ⟨rfl, rfl⟩); refine yy30 ?_; (refine zc auto_wl (RU_at (by assumption) _ _ _ (AHeap.set_self _ _ _) (by omega)) ?_; rintro r H' ⟨rfl, rfl⟩); refine yy95 ?_; refine awl_alloc rfl rfl rfl (fun oN hoN => ?_); refine yy87 ?_; refine yy3 ?_; refine yy17 ?_; refine yy13 ?_; refine yy30 ?_; rotate_left) | fail)
  obtain ⟨f7, hf7⟩ : ∃ f, (false || g1 || g2 || g3 || g4 || g5 || g6 || g7) = f := ⟨_, rfl⟩
  rw [hf7]
  refine awl_ent (Ent.sub (R0 := [(47, .ptr oR 0), (9, .raw (.int .i64 (0 : Int))), (8, .ptr oN 0), (7, .ptr oR 0), (2, .ptr oZ 0)]) _ (by (repeat' (first | exact RSub.nil _ | apply RSub.cons)); all_goals rfl)) ?_
  refine awl_gen (fun H3 => (oZ ≠ oR ∧ oN ≠ oR ∧ oZ ≠ oN ∧ H oZ = none ∧ H oR = none ∧ H oN = none) ∧ H3 oZ = some (.cel [.raw (.int .i64 (0 : Int)), .raw (.int .i64 (0 : Int)), .raw (.int .i64 (0 : Int)), .raw (.int .u64 (0 : Int)), .raw (.int .u64 (0 : Int)), .raw (.int .u64 (0 : Int)), .raw (.int .u64 (0 : Int)), .raw (.slice none 0 0), .raw (.slice none 0 0)]) ∧
    H3 oN = some (.cel [mI v1, mI v2, mI v3, .raw (.int .u64 (u4 : Int)), .raw (.int .u64 (u5 : Int)), .raw (.int .u64 (u6 : Int)), .raw (.int .u64 (u7 : Int)), .raw (.slice none 0 0), .raw (.slice none 0 0)]) ∧ H3 oR = some (.cel [.bys b7, .raw (.bool f7)]) ∧ (∀ p y, H p = some y → H3 p = some y))
    ⟨⟨by exact auto_nq, by exact auto_nq, by exact auto_nq, by exact auto_nn, by exact auto_nn, by exact auto_nn⟩, auto_heap, auto_heap, auto_heap, fun p y hp => auto_heap⟩ ?_
  rintro H3 ⟨⟨m1, m2, m3, n1, n2, n3⟩, q1, q2, q3, hfr⟩
  have hgt : getT t = if (entsB b7 f7).2.2.2 = false then none
    else if ((entsB b7 f7).2.2.1 || (rs (entsB b7 f7).2.1).2.2) = true ∨ (rs (entsB b7 f7).2.1).2.1 ≠ [] ∨ ¬ (⟨v1, v2, v3, u4, u5, u6, u7, (entsB b7 f7).1, (rs (entsB b7 f7).2.1).1⟩ : Mg).good then none
    else some ⟨v1, v2, v3, u4, u5, u6, u7, (entsB b7 f7).1, (rs (entsB b7 f7).2.1).1⟩ := by
    unfold getT s7 mgT
    simp only [stN_at e1, vlN_at e1, stN_at e2, vlN_at e2, stN_at e3, vlN_at e3, stN_at e4, vlN_at e4, stN_at e5, vlN_at e5, stN_at e6, vlN_at e6, stN_at e7, vlN_at e7, hv1, hv2, hv3, hf7]
  rw [hgt]
  have hu4 := rd_lt b3
  have hu5 := rd_lt b4
  have hu6 := rd_lt b5
  have hu7 := rd_lt b6
  rw [e4] at hu4
  rw [e5] at hu5
  rw [e6] at hu6
  rw [e7] at hu7
  simp only at hu4 hu5 hu6 hu7
  clear hgt e1 e2 e3 e4 e5 e6 e7 hv1 hv2 hv3 hf7 hoN hoR hoZ hc1 hc2 hc
  obtain ⟨es, be, fe, ke, hes⟩ : ∃ es be fe ke, entsB b7 f7 = (es, be, fe, ke) := ⟨_, _, _, _, rfl⟩
  have hok := entsB_ok b7 f7
  rw [hes] at hok ⊢
  simp only at hok ⊢
  obtain ⟨k1, k2, k3⟩ := hok
  cases ke with
  | false =>
    have hE := fun H => entries_at hes oR oN oZ (zs := [.raw (.int .i64 (0 : Int)), .raw (.int .i64 (0 : Int)), .raw (.int .i64 (0 : Int)), .raw (.int .u64 (0 : Int)), .raw (.int .u64 (0 : Int)), .raw (.int .u64 (0 : Int)), .raw (.int .u64 (0 : Int)), .raw (.slice none 0 0), .raw (.slice none 0 0)]) m2 m1 H (xs := [mI v1, mI v2, mI v3, .raw (.int .u64 (u4 : Int)), .raw (.int .u64 (u5 : Int)), .raw (.int .u64 (u6 : Int)), .raw (.int .u64 (u7 : Int)), .raw (.slice none 0 0), .raw (.slice none 0 0)])
    simp only [outEs, Bool.false_eq_true, if_false] at hE
    (first | focus ((refine zc auto_wl (hE _ q3 (by omega) q2 q1) ?_; rintro r H' ⟨rfl, j1, j2, j3, hf2⟩); refine yy88 ?_; refine yy77 ?_; refine yy75 ?_; refine yy5 ?_; refine yy14 ?_; refine yy85 ?_; refine yy3 ?_; refine aw_condp rfl (fun hc => ?_) (fun hc => ?_); refine yy1 ?_; refine yy95 ?_; refine yy2 ?_; refine yy47 ?_; refine yy8 ?_; refine yy32 ?_; rotate_left; exact absurd hc auto_no) | fail)
    exact ⟨.inl rfl, _, _, _, Ent.cellRet 2 Mg0.cells rfl auto_heap auto_wcc (fun p y hp => by have hp2 := hf2 _ _ (AHeap.ne_ns n2 hp) (hfr _ _ hp); exact ⟨by exact auto_nq, auto_heap⟩), ret_2 rfl (rv1_agg (m := 9) rfl rfl rfl (by decide)) (rv1_tmp rfl), by rw [if_pos rfl]; rfl, rfl⟩
  | true =>
    have hE := fun H => entries_at hes oR oN oZ (zs := [.raw (.int .i64 (0 : Int)), .raw (.int .i64 (0 : Int)), .raw (.int .i64 (0 : Int)), .raw (.int .u64 (0 : Int)), .raw (.int .u64 (0 : Int)), .raw (.int .u64 (0 : Int)), .raw (.int .u64 (0 : Int)), .raw (.slice none 0 0), .raw (.slice none 0 0)]) m2 m1 H (xs := [mI v1, mI v2, mI v3, .raw (.int .u64 (u4 : Int)), .raw (.int .u64 (u5 : Int)), .raw (.int .u64 (u6 : Int)), .raw (.int .u64 (u7 : Int)), .raw (.slice none 0 0), .raw (.slice none 0 0)])
    simp only [outEs, if_true] at hE
    rw [if_neg (by decide)]
    have s1 := rs_text be
    have s2 := rs_len be
    have hS := fun H f h => RS_calls H oR be f h (by omega)
    generalize rs be = x at *
    obtain ⟨sb, b9, f9⟩ := x
    simp only at s1 s2 hS ⊢
    have hG := fun H => Good_calls H ⟨v1, v2, v3, u4, u5, u6, u7, es, sb⟩ ⟨r1, r2, r3, hu4, hu5, hu6, hu7, k1⟩ (show es.length ≤ _ by omega) (show sb.length ≤ _ by omega)
    generalize hm : (⟨v1, v2, v3, u4, u5, u6, u7, es, sb⟩ : Mg) = m at *
    have hmc : m.cells = [mI v1, mI v2, mI v3, .raw (.int .u64 (u4 : Int)), .raw (.int .u64 (u5 : Int)), .raw (.int .u64 (u6 : Int)), .raw (.int .u64 (u7 : Int)), .sls es.length (es.flatMap En.cells), .bys sb] := by rw [← hm]; rfl
    rw [hmc] at hG
    (first | focus ((refine zc auto_wl (hE _ q3 (by omega) q2 q1) ?_; rintro r H' ⟨rfl, j1, j2, j3, hf2⟩); refine yy88 ?_; refine yy77 ?_; refine yy75 ?_; refine yy5 ?_; refine yy14 ?_; refine yy85 ?_; refine yy3 ?_; refine yy63 ?_; intro hc; refine yy16 ?_; (refine zc auto_wl (hS _ _ auto_heap) ?_; rintro r H' ⟨rfl, rfl⟩); refine awl_s rfl (s_str_bytes rfl) ?_; refine yy77 ?_; refine yy75 ?_; refine yy3 ?_; refine yy13 ?_; refine yy30 ?_; (refine zc auto_wl (bad_calls _ _ _ _ auto_heap) ?_; rintro r H' ⟨rfl, rfl⟩); refine yy2 ?_; refine zg7 rfl rfl rfl (fun hc => ?_) (fun hc => ?_); refine yy76 ?_; refine yy55 ?_; refine yy2 ?_; refine yy76 ?_; refine yy61 ?_; refine yy68 ?_; refine yy23 ?_; refine yy1 ?_; refine yy95 ?_; refine yy47 ?_; refine yy8 ?_; refine yy32 ?_; rotate_left; refine yy49 ?_; (refine zc auto_wl (left_calls _ _ _ _ auto_heap) ?_; rintro r H' ⟨rfl, rfl⟩); refine yy6 ?_; refine yy44 ?_; refine yy27 ?_; refine yy2 ?_; refine zg2 rfl rfl rfl (fun hc => ?_) (fun hc => ?_); refine yy76 ?_; refine yy68 ?_; refine yy23 ?_; refine yy1 ?_; refine yy95 ?_; refine yy47 ?_; refine yy8 ?_; refine yy32 ?_; rotate_left; refine yy46 ?_; refine yy6 ?_; (refine zc auto_wl (hG _) ?_; rintro r H' ⟨rfl, rfl⟩); refine yy6 ?_; refine awl_s rfl (s_not rfl) ?_; refine yy65 ?_; refine aw_condp rfl (fun hc => ?_) (fun hc => ?_); refine yy1 ?_; refine yy95 ?_; refine yy47 ?_; refine yy8 ?_; refine yy32 ?_; rotate_left; refine yy82 ?_; refine yy1 ?_; refine yy46 ?_; refine yy47 ?_; refine yy8 ?_; rotate_left) | fail)
    · exact ⟨.inl rfl, _, _, _, Ent.cellRet 2 Mg0.cells rfl auto_heap auto_wcc (fun p y hp => by have hp2 := hf2 _ _ (AHeap.ne_ns n2 hp) (hfr _ _ hp); exact ⟨by exact auto_nq, auto_heap⟩), ret_2 rfl (rv1_agg (m := 9) rfl rfl rfl (by decide)) (rv1_tmp rfl), by rw [if_pos (.inl hc)]; rfl, rfl⟩
    · exact ⟨.inl rfl, _, _, _, Ent.cellRet 2 Mg0.cells rfl auto_heap auto_wcc (fun p y hp => by have hp2 := hf2 _ _ (AHeap.ne_ns n2 hp) (hfr _ _ hp); exact ⟨by exact auto_nq, auto_heap⟩), ret_2 rfl (rv1_agg (m := 9) rfl rfl rfl (by decide)) (rv1_tmp rfl), by rw [if_pos (.inr (.inl (List.length_pos_iff.1 hc)))]; rfl, rfl⟩
    · exact ⟨.inl rfl, _, _, _, Ent.cellRet 2 Mg0.cells rfl auto_heap auto_wcc (fun p y hp => by have hp2 := hf2 _ _ (AHeap.ne_ns n2 hp) (hfr _ _ hp); exact ⟨by exact auto_nq, auto_heap⟩), ret_2 rfl (rv1_agg (m := 9) rfl rfl rfl (by decide)) (rv1_tmp rfl), by rw [if_pos (.inr (.inr hc))]; rfl, rfl⟩
    · rename_i c1 c2
      rw [if_neg (fun h => h.elim (fun h => by rw [c1] at h; cases h) (fun h => h.elim (fun h => c2 (List.length_pos_iff.2 h)) hc))]
      exact ⟨.inl rfl, _, _, _, Ent.cellRet 2 [mI v1, mI v2, mI v3, .raw (.int .u64 (u4 : Int)), .raw (.int .u64 (u5 : Int)), .raw (.int .u64 (u6 : Int)), .raw (.int .u64 (u7 : Int)), .sls es.length (es.flatMap En.cells), .bys sb] rfl auto_heap auto_wcc (fun p y hp => by have hp2 := hf2 _ _ (AHeap.ne_ns n2 hp) (hfr _ _ hp); exact ⟨by exact auto_nq, auto_heap⟩), ret_2 rfl (rv1_agg (m := 9) rfl rfl rfl (by decide)) (rv1_tmp rfl), by rw [outM, hmc]; rfl, rfl⟩
end Go.Proofs.Ytbciofnejefkiaa

namespace Go.Proofs.Ytbciofnejefkiaa
open Go Go.Am Go.Proofs

theorem rdIs_enc : ∀ (l : List Int) (r : List UInt8) (f : Bool), (∀ v ∈ l, b64 v) → rdIs l.length (encR l ++ r) f = (l, r, f)
  | [], r, f, _ => rfl
  | v :: l, r, f, h => by
    have hv := h v (List.mem_cons_self)
    have e : encR (v :: l) ++ r = encU 10 (zig v) ++ (encR l ++ r) := by simp [encR]
    rw [List.length_cons, rdIs, e, rd_zig]
    simp only [Bool.or_false]
    rw [rdIs_enc l r f fun x hx => h x (List.mem_cons_of_mem _ hx), unzig_zig hv.1 hv.2]
theorem encR_ge : ∀ l : List Int, l.length ≤ (encR l).length
  | [] => Nat.zero_le _
  | v :: l => by
    have := encU_pos 10 (zig v)
    have := encR_ge l
    have e : encR (v :: l) = encU 10 (zig v) ++ encR l := by simp [encR]
    rw [e, List.length_append, List.length_cons]; omega
theorem getE_enc (e : En) (ok : e.Ok) (hl : e.row.length < 2 ^ 64) : getE (encE e) = some e := by
  have e1 : rd (encE e) = (e.id, encU 10 e.view ++ encU 10 e.row.length ++ encR e.row, false) := by
    rw [show encE e = encU 10 e.id ++ (encU 10 e.view ++ encU 10 e.row.length ++ encR e.row) by simp [encE]]
    exact rd_enc ok.id _
  have e2 : rd (encU 10 e.view ++ encU 10 e.row.length ++ encR e.row) = (e.view, encU 10 e.row.length ++ encR e.row, false) := by
    rw [List.append_assoc]; exact rd_enc ok.view _
  have e3 : rd (encU 10 e.row.length ++ encR e.row) = (e.row.length, encR e.row, false) := rd_enc hl _
  have hh : hdE (encE e) = (e.row.length, encR e.row, false) := by
    unfold hdE
    simp only [e1, e2, e3, Bool.or_false]
  have hr := rdIs_enc e.row [] false ok.row
  rw [List.append_nil] at hr
  have := encR_ge e.row
  unfold getE
  rw [hh]
  simp only [hr, e1, e2]
  rw [if_neg (by omega), if_neg (by simp)]
theorem rdEs_enc : ∀ (l : List En) (r : List UInt8), (∀ e ∈ l, e.Ok ∧ e.row.length < 2 ^ 60) → rdEs l.length (encEs l ++ r) false = (l, r, false, true)
  | [], r, _ => rfl
  | e :: l, r, h => by
    obtain ⟨h1, h2⟩ := h e (List.mem_cons_self)
    have hl := encE_len e
    have e0 : encEs (e :: l) ++ r = encU 10 (encE e).length ++ encE e ++ (encEs l ++ r) := by simp [encEs, enc1]
    have e1 := rs_enc (s := encE e) (by omega) (encEs l ++ r)
    have hg : getE (rs (encEs (e :: l) ++ r)).1 = some e := by rw [e0, e1]; exact getE_enc e h1 (by omega)
    rw [List.length_cons, rdEs_some hg, e0, e1]
    simp only [Bool.or_false]
    rw [rdEs_enc l r fun x hx => h x (List.mem_cons_of_mem _ hx)]
theorem plain_rows {m : Mg} (h : m.plain) : ∀ e ∈ m.ents, e.row.length ≤ 64 := fun e he => wide_get h.2.2.2.2.2 he
theorem getT_enc (m : Mg) (ok : m.Ok) (hp : m.good) : getT (textB m) = some m := by
  have hr := plain_rows hp.1
  have hn := hp.1.2.2.2.1
  have hb := hp.1.2.2.2.2.1
  obtain ⟨k, f, t, vw, la, op, co, es, body⟩ := m
  obtain ⟨o1, o2, o3, o4, o5, o6, o7, o8⟩ := ok
  simp only at hr hn hb o1 o2 o3 o4 o5 o6 o7 o8
  have t0 : textB ⟨k, f, t, vw, la, op, co, es, body⟩ = encU 10 (zig k) ++ (encU 10 (zig f) ++ (encU 10 (zig t) ++ (encU 10 vw ++ (encU 10 la ++ (encU 10 op ++ (encU 10 co ++ (encU 10 es.length ++ (encEs es ++ (encU 10 body.length ++ body))))))))) := by
    simp [textB, encR, encUs]
  have q1 := rd_zig k (encU 10 (zig f) ++ (encU 10 (zig t) ++ (encU 10 vw ++ (encU 10 la ++ (encU 10 op ++ (encU 10 co ++ (encU 10 es.length ++ (encEs es ++ (encU 10 body.length ++ body)))))))))
  have q2 := rd_zig f (encU 10 (zig t) ++ (encU 10 vw ++ (encU 10 la ++ (encU 10 op ++ (encU 10 co ++ (encU 10 es.length ++ (encEs es ++ (encU 10 body.length ++ body))))))))
  have q3 := rd_zig t (encU 10 vw ++ (encU 10 la ++ (encU 10 op ++ (encU 10 co ++ (encU 10 es.length ++ (encEs es ++ (encU 10 body.length ++ body)))))))
  have q4 := rd_enc o4 (encU 10 la ++ (encU 10 op ++ (encU 10 co ++ (encU 10 es.length ++ (encEs es ++ (encU 10 body.length ++ body))))))
  have q5 := rd_enc o5 (encU 10 op ++ (encU 10 co ++ (encU 10 es.length ++ (encEs es ++ (encU 10 body.length ++ body)))))
  have q6 := rd_enc o6 (encU 10 co ++ (encU 10 es.length ++ (encEs es ++ (encU 10 body.length ++ body))))
  have q7 := rd_enc o7 (encU 10 es.length ++ (encEs es ++ (encU 10 body.length ++ body)))
  have q8 := rd_enc (show es.length < 2 ^ 64 by omega) (encEs es ++ (encU 10 body.length ++ body))
  have q9 := rdEs_enc es (encU 10 body.length ++ body) fun e he => ⟨o8 e he, by have := hr e he; omega⟩
  have q10 := rs_enc (s := body) (by omega) []
  rw [List.append_nil] at q10
  have hen : entsB (encU 10 es.length ++ (encEs es ++ (encU 10 body.length ++ body))) false = (es, encU 10 body.length ++ body, false, true) := by
    rw [entsB, q8]
    simp only [Bool.or_false]
    rw [if_neg (by omega), q9]
  unfold getT s7 mgT
  rw [t0]
  simp only [stN_at q1, vlN_at q1, stN_at q2, vlN_at q2, stN_at q3, vlN_at q3, stN_at q4, vlN_at q4, stN_at q5, vlN_at q5, stN_at q6, vlN_at q6, stN_at q7, vlN_at q7, Bool.or_false, hen, q10, unzig_zig o1.1 o1.2, unzig_zig o2.1 o2.2, unzig_zig o3.1 o3.2]
  rw [if_neg (by decide), if_neg (by simp [hp])]
theorem getM_frame (m : Mg) (ok : m.Ok) (hp : m.good) : getM (frame 0 (textB m)) = some m := by
  have ht := take_frame 0 (textB m) [] (by decide) hp.2
  rw [List.append_nil] at ht
  have hl := frame_len 0 (textB m)
  unfold getM
  rw [ht]
  simp only
  rw [if_neg (by rw [hl]; omega), getT_enc m ok hp]

theorem put_good {m : Mg} (h : m.good) : putB m = frame 0 (textB m) := if_pos h
theorem Get_put (H : AHeap) (m : Mg) (ok : m.Ok) (hg : m.good) : ACalls Try.prog 69 [.bys (putB m)] H fun r H' => r = .tup [.agg m.cells, .raw (.int .i64 (0 : Int))] ∧ H' = H := by
  have hl := frame_len 0 (textB m)
  have := Get_calls H (putB m) (by rw [put_good hg, hl]; have := hg.2; omega)
  rw [put_good hg, getM_frame m ok hg] at this
  rw [put_good hg]
  exact this
end Go.Proofs.Ytbciofnejefkiaa

namespace Go.Proofs.Ytbciofnejefkiaa
open Go Go.Am Go.Proofs

def rdC (x : Ag.Rd) : List AV := [uI x.kind, uI x.view, uI x.last, uI x.agreed, lsE x.list]
def Rd0 : Ag.Rd := ⟨0, 0, 0, 0, []⟩
theorem aw_gen {P : Program} {n : Nat} {code : Code} {K : Exit → Regs → AHeap → Prop} {R : Regs} {H : AHeap} (Φ : AHeap → Prop) (h : Φ H) (hk : ∀ H3, Φ H3 → AW P n code K R H3) : AW P n code K R H := hk H h
def stK : Nat → RS → RS
  | 0, s => s
  | k + 1, s => stK k (stN s)
def rdX (b : List UInt8) : Ag.Rd := ⟨vlN (stK 2 (b, false)), vlN (stK 3 (b, false)), vlN (stK 4 (b, false)), vlN (stK 5 (b, false)), (rdEs (vlN (stK 6 (b, false))) (stK 7 (b, false)).1 (stK 7 (b, false)).2).1⟩
def parOk (me n : Nat) (b : List UInt8) : Prop :=
  vlN (b, false) = me ∧ vlN (stK 1 (b, false)) = n ∧ vlN (stK 6 (b, false)) ≤ 200 ∧ (rdEs (vlN (stK 6 (b, false))) (stK 7 (b, false)).1 (stK 7 (b, false)).2).2 = ([], false, true) ∧ (rdX b).ok
instance (me n : Nat) (b : List UInt8) : Decidable (parOk me n b) := by unfold parOk; infer_instance
theorem getE_row {b : List UInt8} {e : En} (h : getE b = some e) : e.row.length ≤ b.length := by
  unfold getE at h
  split at h
  · cases h
  next h1 =>
  split at h
  · cases h
  cases h
  show (rdIs _ _ _).1.length ≤ _
  rw [rdIs_len]
  have a1 := rd_len b
  have a2 := rd_len (rd b).2.1
  have a3 := rd_len (rd (rd b).2.1).2.1
  have h2 : (hdE b).2.1 = (rd (rd (rd b).2.1).2.1).2.1 := rfl
  rw [h2] at h1
  omega
theorem rdEs_row : ∀ (n : Nat) (b : List UInt8) (f : Bool), ∀ e ∈ (rdEs n b f).1, e.row.length ≤ b.length
  | 0, _, _ => fun e h => by cases h
  | n + 1, b, f => fun e h => by
    have l2 := rs_text b
    have l3 := rs_len b
    cases hg : getE (rs b).1 with
    | none => rw [rdEs_none hg] at h; cases h
    | some x =>
      rw [rdEs_some hg] at h
      rcases List.mem_cons.1 h with rfl | h
      · have := getE_row hg; omega
      · have := rdEs_row n _ _ e h; omega
theorem parse_calls (H : AHeap) (o : Nat) (c : Ag.Co) (og oh : Nat) (wv : AV) (b : List UInt8) (h : H o = some (.cel (coreC c og oh wv))) (hm : c.me < 7) (h7 : c.n ≤ 7) (hb : b.length ≤ 1000000) :
    ACalls Try.prog 32 [.ptr o 0, .bys b] H fun r H' => (∃ x : Ag.Rd, r = .tup [.agg (rdC x), bB (decide (parOk c.me c.n b))] ∧ (parOk c.me c.n b → x = rdX b)) ∧ H' = H := by
  unfold coreC at h
  obtain ⟨u1, b1, g1, e1⟩ : ∃ u c g, rd b = (u, c, g) := ⟨_, _, _, rfl⟩
  have l1 := rd_len b
  have w1 := rd_lt b
  rw [e1] at l1 w1
  simp only at l1 w1
  obtain ⟨u2, b2, g2, e2⟩ : ∃ u c g, rd b1 = (u, c, g) := ⟨_, _, _, rfl⟩
  have l2 := rd_len b1
  have w2 := rd_lt b1
  rw [e2] at l2 w2
  simp only at l2 w2
  obtain ⟨u3, b3, g3, e3⟩ : ∃ u c g, rd b2 = (u, c, g) := ⟨_, _, _, rfl⟩
  have l3 := rd_len b2
  have w3 := rd_lt b2
  rw [e3] at l3 w3
  simp only at l3 w3
  obtain ⟨u4, b4, g4, e4⟩ : ∃ u c g, rd b3 = (u, c, g) := ⟨_, _, _, rfl⟩
  have l4 := rd_len b3
  have w4 := rd_lt b3
  rw [e4] at l4 w4
  simp only at l4 w4
  obtain ⟨u5, b5, g5, e5⟩ : ∃ u c g, rd b4 = (u, c, g) := ⟨_, _, _, rfl⟩
  have l5 := rd_len b4
  have w5 := rd_lt b4
  rw [e5] at l5 w5
  simp only at l5 w5
  obtain ⟨u6, b6, g6, e6⟩ : ∃ u c g, rd b5 = (u, c, g) := ⟨_, _, _, rfl⟩
  have l6 := rd_len b5
  have w6 := rd_lt b5
  rw [e6] at l6 w6
  simp only at l6 w6
  obtain ⟨u7, b7, g7, e7⟩ : ∃ u c g, rd b6 = (u, c, g) := ⟨_, _, _, rfl⟩
  have l7 := rd_len b6
  have w7 := rd_lt b6
  rw [e7] at l7 w7
  simp only at l7 w7
  have hst : stK 1 (b, false) = (b1, false || g1) ∧ stK 2 (b, false) = (b2, (false || g1) || g2) ∧ stK 3 (b, false) = (b3, ((false || g1) || g2) || g3) ∧ stK 4 (b, false) = (b4, (((false || g1) || g2) || g3) || g4) ∧ stK 5 (b, false) = (b5, ((((false || g1) || g2) || g3) || g4) || g5) ∧ stK 6 (b, false) = (b6, (((((false || g1) || g2) || g3) || g4) || g5) || g6) ∧ stK 7 (b, false) = (b7, (((((((false || g1) || g2) || g3) || g4) || g5) || g6) || g7)) := by
    simp only [stK, stN_at e1, stN_at e2, stN_at e3, stN_at e4, stN_at e5, stN_at e6, stN_at e7, and_self]
  obtain ⟨t1, t2, t3, t4, t5, t6, t7⟩ := hst
  have hX : rdX b = ⟨u3, u4, u5, u6, (rdEs u7 b7 (((((((false || g1) || g2) || g3) || g4) || g5) || g6) || g7)).1⟩ := by
    unfold rdX; rw [t2, t3, t4, t5, t6, t7, vlN_at e3, vlN_at e4, vlN_at e5, vlN_at e6, vlN_at e7]
  have hP : parOk c.me c.n b ↔ u1 = c.me ∧ u2 = c.n ∧ u7 ≤ 200 ∧ (rdEs u7 b7 (((((((false || g1) || g2) || g3) || g4) || g5) || g6) || g7)).2 = ([], false, true) ∧ (rdX b).ok := by
    unfold parOk; rw [t1, t6, t7, vlN_at e1, vlN_at e2, vlN_at e7]
  clear t1 t2 t3 t4 t5 t6 t7
  refine acalls_of_aw2 Try.func32 rfl (by decide) ?_
  (first | focus (refine yy1 ?_; refine awl_alloc rfl rfl rfl (fun oN hoN => ?_); refine yy5 ?_; refine yy1 ?_; refine yy39 ?_; (refine zc auto_wl (read_calls _ _ auto_sd) ?_; rintro r H' ⟨oR, hoR, rfl, rfl⟩); refine yy105 ?_; refine yy3 ?_; refine yy16 ?_; (refine zc auto_wl (RU_at e1 _ _ _ auto_heap (by omega)) ?_; rintro r H' ⟨rfl, rfl⟩); refine yy30 ?_; (refine zc auto_wl (RU_at e2 _ _ _ auto_heap (by omega)) ?_; rintro r H' ⟨rfl, rfl⟩); refine yy40 ?_; refine yy5 ?_; refine yy16 ?_; (refine zc auto_wl (RU_at e3 _ _ _ auto_heap (by omega)) ?_; rintro r H' ⟨rfl, rfl⟩); refine yy30 ?_; (refine zc auto_wl (RU_at e4 _ _ _ auto_heap (by omega)) ?_; rintro r H' ⟨rfl, rfl⟩); refine yy30 ?_; (refine zc auto_wl (RU_at e5 _ _ _ auto_heap (by omega)) ?_; rintro r H' ⟨rfl, rfl⟩); refine yy30 ?_; (refine zc auto_wl (RU_at e6 _ _ _ auto_heap (by omega)) ?_; rintro r H' ⟨rfl, rfl⟩); refine yy95 ?_; refine awl_alloc rfl rfl rfl (fun oN hoN => ?_); refine yy87 ?_; refine yy3 ?_; refine yy16 ?_; (refine zc auto_wl (RU_at e7 _ _ _ auto_heap (by omega)) ?_; rintro r H' ⟨rfl, rfl⟩); refine yy5 ?_; rotate_left) | fail)
  rename_i oQ hoQ
  have hoX := hoN
  generalize hqq : oN = oX at *
  clear hqq hoN
  refine aw_ent (R' := [(0, .ptr o 0), (4, .ptr oQ 0), (5, bB false), (6, .ptr oR 0), (7, uI u1), (8, uI u2), (9, .ptr oX 0), (10, uI u7)]) (Ent.sub _ (by (repeat' (first | exact RSub.nil _ | apply RSub.cons)); all_goals rfl)) ?_
  have n1 : oR ≠ oQ := AHeap.ne_of_fresh hoR
  have k1 : H oR = none := AHeap.none_of_set hoR
  have k2 : H oX = none := by exact auto_nn
  have n2 : oX ≠ oR := by exact auto_nq
  have n3 : oX ≠ oQ := by
    have hz := hoX
    repeat (first | exact AHeap.ne_of_fresh hz | replace hz := AHeap.none_of_set hz)
  have n4 : o ≠ oQ := fun e => by rw [e, hoQ] at h; cases h
  have n5 : o ≠ oR := fun e => by rw [e, k1] at h; cases h
  have n6 : o ≠ oX := fun e => by rw [e, k2] at h; cases h
  generalize (((((((false || g1) || g2) || g3) || g4) || g5) || g6) || g7) = G at *
  clear e1 e2 e3 e4 e5 e6 e7
  refine aw_gen (fun H2 => H2 oR = some (.cel [.bys b7, .raw (.bool G)]) ∧ H2 oX = some (.cel [uI u3, uI u4, uI u5, uI u6, .raw (.slice none 0 0)]) ∧ H2 oQ = some (.cel (AV.raw (.agg #[.int .u64 0, .int .u64 0, .int .u64 0, .int .u64 0, .slice none 0 0])).parts) ∧ ∀ p y, H p = some y → H2 p = some y) ⟨by exact auto_heap, by exact auto_heap, (by repeat' (first | exact AHeap.set_self _ _ _ | refine AHeap.get_skip n1.symm ?_ | refine AHeap.get_skip n3.symm ?_)), fun p y hp => by
    have hne : ∀ {q : Nat}, H q = none → p ≠ q := fun b e => by rw [e, b] at hp; cases hp
    have a1 := hne hoQ
    have a2 := hne k1
    have a3 := hne k2
    exact auto_heap⟩ ?_
  clear hoR hoX
  rintro H2 ⟨q1, q2, q3, q4⟩
  have hco := q4 _ _ h
  clear oN
  refine aw_own_cell (o := oX) 4 3 q2 rfl (fun oL hoL => ?_)
  have x1 : oL ≠ oR := fun e => by rw [e, q1] at hoL; cases hoL
  have x2 : oL ≠ oX := fun e => by rw [e, q2] at hoL; cases hoL
  have x3 : oL ≠ oQ := fun e => by rw [e, q3] at hoL; cases hoL
  have x4 : H oL = none := by
    cases hx : H oL with
    | none => rfl
    | some y => rw [q4 _ _ hx] at hoL; cases hoL
  refine aw_gen (fun H3 => H3 oR = some (.cel [.bys b7, .raw (.bool G)]) ∧ H3 oX = some (.cel [uI u3, uI u4, uI u5, uI u6, .vw oL 3 0 0]) ∧ H3 oQ = some (.cel (AV.raw (.agg #[.int .u64 0, .int .u64 0, .int .u64 0, .int .u64 0, .slice none 0 0])).parts) ∧ H3 oL = some (.cel []) ∧ ∀ p y, H p = some y → H3 p = some y) ⟨by exact auto_heap, by exact auto_heap, by exact auto_heap, by exact auto_heap, fun p y hp => by
    have hne : ∀ {q : Nat}, H q = none → p ≠ q := fun b e => by rw [e, b] at hp; cases hp
    have a1 := q4 p y hp
    have a2 := hne k2
    have a3 := hne x4
    exact auto_heap⟩ ?_
  clear q1 q2 q3 q4 hoL hco
  clear H2
  rintro H2 ⟨q1, q2, q3, q5, q4⟩
  have hco := q4 _ _ h
  have hfq : ∀ p y, H p = some y → p ≠ oQ := fun p y hp e => by rw [e, hoQ] at hp; cases hp
  by_cases p1 : u1 = c.me ∧ u2 = c.n ∧ u7 ≤ 200
  rotate_left
  · have hno : ¬ parOk c.me c.n b := fun hp => by obtain ⟨a, b, c, _⟩ := hP.1 hp; exact p1 ⟨a, b, c⟩
    rw [decide_eq_false hno]
    (first | focus (refine yy11 ?_; refine yy21 ?_; refine awl_s rfl (s_convn rfl (by omega)) ?_; refine yy85 ?_; refine yy2 ?_; refine zg2 rfl rfl rfl (fun hc => ?_) (fun hc => ?_); refine yy45 ?_; refine yy76 ?_; refine yy55 ?_; refine yy2 ?_; refine yy76 ?_; refine yy68 ?_; refine yy23 ?_; refine yy1 ?_; refine yy95 ?_; refine yy47 ?_; refine yy8 ?_; refine yy32 ?_; rotate_left; refine yy26 ?_; refine yy49 ?_; refine yy103 ?_; refine yy41 ?_; refine awl_s rfl (s_convn rfl (by omega)) ?_; refine yy6 ?_; refine yy85 ?_; refine yy27 ?_; refine yy2 ?_; refine zg2 rfl rfl rfl (fun hc => ?_) (fun hc => ?_); refine yy61 ?_; refine yy68 ?_; refine yy23 ?_; refine yy1 ?_; refine yy95 ?_; refine yy47 ?_; refine yy8 ?_; refine yy32 ?_; rotate_left; refine yy26 ?_; refine yy44 ?_; refine yy65 ?_; refine aw_condp rfl (fun hc => ?_) (fun hc => ?_); refine yy1 ?_; refine yy95 ?_; refine yy47 ?_; refine yy8 ?_; refine yy32 ?_; rotate_left; exact absurd hc auto_no) | fail)
    all_goals try (exfalso; omega)
    all_goals exact ⟨.inl rfl, _, _, _, Ent.cellRet (H0 := H) 4 (rdC Rd0) rfl auto_heap auto_wcc (fun p y hp => ⟨hfq p y hp, AHeap.get_skip (hfq p y hp) (q4 p y hp)⟩), ret_2 rfl (rv1_agg (m := 5) rfl rfl rfl (by decide)) (rv1_tmp rfl), ⟨Rd0, rfl, fun hp => absurd hp hno⟩, rfl⟩
  obtain ⟨p1, p2, p3⟩ := p1
  refine aw_seq ?_
  (first | focus (refine yy14 ?_; refine yy21 ?_; refine awl_s rfl (s_convn rfl (by omega)) ?_; refine yy85 ?_; refine yy2 ?_; refine zg2 rfl rfl rfl (fun hc => ?_) (fun hc => ?_); exact absurd hc auto_no; refine yy26 ?_; refine yy49 ?_; refine yy103 ?_; refine yy41 ?_; refine awl_s rfl (s_convn rfl (by omega)) ?_; refine yy6 ?_; refine yy85 ?_; refine yy27 ?_; refine yy2 ?_; refine zg2 rfl rfl rfl (fun hc => ?_) (fun hc => ?_); exact absurd hc auto_no; refine yy26 ?_; refine yy44 ?_; refine yy65 ?_; refine yy63 ?_; intro hc; refine yy11 ?_; refine yy67 ?_; rotate_left) | fail)
  all_goals try (exfalso; omega)
  have hfr : ∀ p y, H p = some y → p ≠ oR := fun p y hp e => by rw [e, k1] at hp; cases hp
  have hfx : ∀ p y, H p = some y → p ≠ oX := fun p y hp e => by rw [e, k2] at hp; cases hp
  refine aw_loop (fun mm R' H3 => ∃ (i oL : Nat) (l : List En) (b' : List UInt8) (f' : Bool), (H oL = none ∧ oL ≠ oR ∧ oL ≠ oX ∧ oL ≠ oQ ∧ H3 oL = some (.cel (l.flatMap En.cells)) ∧ H3 oX = some (.cel [uI u3, uI u4, uI u5, uI u6, .vw oL 3 0 i]) ∧ H3 oR = some (.cel [.bys b', .raw (.bool f')]) ∧ H3 oQ = some (.cel (AV.raw (.agg #[.int .u64 0, .int .u64 0, .int .u64 0, .int .u64 0, .slice none 0 0])).parts) ∧ ∀ p y, H p = some y → H3 p = some y) ∧ l.length = i ∧ b'.length ≤ b7.length ∧
    rdEs u7 b7 G = (l ++ (rdEs (u7 - i) b' f').1, (rdEs (u7 - i) b' f').2) ∧
    R' = [(0, .ptr o 0), (4, .ptr oQ 0), (5, bB false), (6, .ptr oR 0), (9, .ptr oX 0), (51, .raw (.int .u64 (u7 : Int))), (52, .raw (.int .u64 (i : Int)))] ∧ i + mm = u7) ?_ ?_
  · exact ⟨u7, _, _, auto_ent, 0, oL, [], b7, G, ⟨x4, x1, x2, x3, q5, q2, q1, q3, q4⟩, rfl, Nat.le_refl _, by simp, rfl, by omega⟩
  clear q1 q2 q3 q4 q5 x1 x2 x3 x4 hco
  clear H2 oL
  rintro mm R0 H2 ⟨i, oL, l, b', f', ⟨q1, q2, q3, q4, q5, q6, q7, q8, q9⟩, hl, hbl, hrd, rfl, hi⟩
  have hfl : (l.flatMap En.cells).length = i * 3 := by rw [flat_len (sz := 3) (fun _ => rfl), hl]
  by_cases hlt : i < u7
  · have hsn : u7 - i = (u7 - (i + 1)) + 1 := by omega
    have l2 := rs_text b'
    have l3 := rs_len b'
    cases hg : getE (rs b').1 with
    | none =>
      have hG : ∀ H, ACalls Try.prog 58 [.bys (rs b').1] H fun r H' => r = .tup [.agg En0.cells, .raw (.int .i64 (3 : Int))] ∧ H' = H := fun H => (GetEntry_calls H _ (by omega)).mono (by rw [hg]; exact fun _ _ h => h)
      rw [hsn, rdEs_none hg] at hrd
      have hno : ¬ parOk c.me c.n b := fun hp => by
        obtain ⟨_, _, _, hp, _⟩ := hP.1 hp
        rw [hrd] at hp
        simp at hp
      rw [decide_eq_false hno]
      clear hP hX hrd hg p1 p2
      (first | focus (refine yy9 ?_; refine aw_condp rfl (fun hc => ?_) (fun hc => ?_); refine yy20 ?_; refine yy16 ?_; (refine zc auto_wl (RS_calls _ _ _ _ q7 (by omega)) ?_; rintro r H' ⟨rfl, rfl⟩); refine awl_s rfl (s_str_bytes rfl) ?_; (refine zc auto_wl (hG _) ?_; rintro r H' ⟨rfl, rfl⟩); refine yy88 ?_; refine awl_alloc rfl rfl rfl (fun oN hoN => ?_); refine yy102 ?_; refine yy5 ?_; refine yy11 ?_; refine yy85 ?_; refine yy3 ?_; refine aw_condp rfl (fun hc => ?_) (fun hc => ?_); refine yy1 ?_; refine yy95 ?_; refine yy47 ?_; refine yy8 ?_; refine yy66 ?_; refine yy66 ?_; rotate_left; exact absurd hc auto_no; exact absurd hc auto_no) | fail)
      all_goals try (exfalso; omega)
      all_goals exact ⟨.inl rfl, _, _, _, Ent.cellRet (H0 := H) 4 (rdC Rd0) rfl auto_heap auto_wcc (fun p y hp => ⟨hfq p y hp, by have a1 := hfq p y hp; have a2 := q9 p y hp; have a3 := hfr p y hp; exact auto_heap⟩), ret_2 rfl (rv1_agg (m := 5) rfl rfl rfl (by decide)) (rv1_tmp rfl), ⟨Rd0, rfl, fun hp => absurd hp hno⟩, rfl⟩
    | some e =>
      have hG : ∀ H, ACalls Try.prog 58 [.bys (rs b').1] H fun r H' => r = .tup [.agg e.cells, .raw (.int .i64 (0 : Int))] ∧ H' = H := fun H => (GetEntry_calls H _ (by omega)).mono (by rw [hg]; exact fun _ _ h => h)
      rw [hsn, rdEs_some hg] at hrd
      clear hP hX hg
      replace hrd := Hdq.mk hrd
      (first | focus (refine yy9 ?_; refine aw_condp rfl (fun hc => ?_) (fun hc => ?_); refine yy20 ?_; refine yy16 ?_; (refine zc auto_wl (RS_calls _ _ _ _ q7 (by omega)) ?_; rintro r H' ⟨rfl, rfl⟩); refine awl_s rfl (s_str_bytes rfl) ?_; (refine zc auto_wl (hG _) ?_; rintro r H' ⟨rfl, rfl⟩); refine yy88 ?_; refine awl_alloc rfl rfl rfl (fun oN hoN => ?_); refine yy102 ?_; refine yy5 ?_; refine yy11 ?_; refine yy85 ?_; refine yy3 ?_; refine yy63 ?_; intro hc; refine aw_region ?_; refine yy77 ?_; refine yy114 ?_; refine yy78 ?_; refine yy111 ?_; refine za4 rfl rfl rfl auto_heap auto_al auto_src auto_len auto_len (fun oN hoN => ?_); refine yy77 ?_; refine yy86 ?_; refine yy106 ?_; refine awl_s rfl (s_addu rfl rfl auto_len) ?_; refine yy136 ?_; rotate_left; exact absurd hc auto_no) | fail)
      all_goals try (exfalso; omega)
      have y0 : H2 oN = none := AHeap.none_of_set hoN
      have y1 : oN ≠ oR := AHeap.ne_of_fresh hoN
      have y2 : oN ≠ oX := fun e => by rw [e, q6] at y0; cases y0
      have y3 : oN ≠ oQ := fun e => by rw [e, q8] at y0; cases y0
      have y4 : oN ≠ oL := fun e => by rw [e, q5] at y0; cases y0
      have y5 : H oN = none := by
        cases hx : H oN with
        | none => rfl
        | some y => rw [q9 _ _ hx] at y0; cases y0
      refine ⟨mm - 1, _, _, by omega, Ent.sub _ (by (repeat' (first | exact RSub.nil _ | apply RSub.cons)); all_goals rfl), i + 1, oN, l ++ [e], _, _, ⟨y5, y1, y2, y3, by rw [List.flatMap_append]; exact auto_heap, by exact auto_heap, by exact auto_heap, by exact auto_heap, fun p y hp => ?_⟩, by simp [hl], by omega, by rw [hrd.out]; simp, rfl, by omega⟩
      have a1 := hfx p y hp
      have a2 := q9 p y hp
      have a3 := hfr p y hp
      have a4 : p ≠ oL := fun e => by rw [e, q1] at hp; cases hp
      have a5 : p ≠ oN := fun e => by rw [e, y5] at hp; cases hp
      exact auto_heap
  obtain rfl : i = u7 := by omega
  rw [Nat.sub_self] at hrd
  simp only [rdEs, List.append_nil] at hrd
  have hok : (rdX b).ok ↔ u4 ≤ 1099511627776 ∧ u5 ≤ u4 ∧ Ag.listed l = true := by rw [hX, hrd]; rfl
  have hP2 : parOk c.me c.n b ↔ f' = false ∧ b' = [] ∧ u4 ≤ 1099511627776 ∧ u5 ≤ u4 ∧ Ag.listed l = true := by
    rw [hP, hok, hrd]
    simp [p1, p2, p3, and_comm, and_assoc, and_left_comm]
  have hX2 : rdX b = ⟨u3, u4, u5, u6, l⟩ := by rw [hX, hrd]
  have hen : ∀ e ∈ l, e.row.length ≤ b7.length := by
    have h1 := rdEs_row i b7 G
    rw [hrd] at h1; exact h1
  replace hX2 := Hdq.mk hX2
  replace hP2 := Hdq.mk hP2
  clear hP hX hok hrd
  have hLi := fun H => listed_calls H l (by omega) (fun e he => by have := (hen e he); omega)
  refine aw_ent (H' := (H2.erase oL).set oX (.cel [uI u3, uI u4, uI u5, uI u6, lsE l])) (Ent.seal_cellC (p := oX) (o := oL) (k := 4) (sz := 3) (len := i) (ys := l.flatMap En.cells) q3.symm q6 q5 rfl hfl |>.trans (by rw [← hl]; exact Ent.refl _ _)) ?_
  have b1 : o ≠ oL := fun e => by rw [e, q1] at h; cases h
  have q7' : ((H2.erase oL).set oX (.cel [uI u3, uI u4, uI u5, uI u6, lsE l])) oR = some (.cel [.bys b', .raw (.bool f')]) := AHeap.get_skip n2.symm (AHeap.get_unerase q2.symm q7)
  have q8' : ((H2.erase oL).set oX (.cel [uI u3, uI u4, uI u5, uI u6, lsE l])) oQ = some (.cel (AV.raw (.agg #[.int .u64 0, .int .u64 0, .int .u64 0, .int .u64 0, .slice none 0 0])).parts) := AHeap.get_skip n3.symm (AHeap.get_unerase q4.symm q8)
  have q6' : ((H2.erase oL).set oX (.cel [uI u3, uI u4, uI u5, uI u6, lsE l])) oX = some (.cel [uI u3, uI u4, uI u5, uI u6, lsE l]) := AHeap.set_self _ _ _
  have q9' : ∀ p y, H p = some y → ((H2.erase oL).set oX (.cel [uI u3, uI u4, uI u5, uI u6, lsE l])) p = some y := fun p y hp => AHeap.get_skip (hfx p y hp) (AHeap.get_unerase (fun e => by rw [e, q1] at hp; cases hp) (q9 p y hp))
  clear q5 q6 q7 q8 q9 hfl
  generalize ((H2.erase oL).set oX (.cel [uI u3, uI u4, uI u5, uI u6, lsE l])) = H4 at *
  clear q1 q2 q3 q4 hlt hi
  cases f' with
  | true =>
    have hno : ¬ parOk c.me c.n b := fun hp => by have := (hP2.out.1 hp).1; cases this
    rw [decide_eq_false hno]
    (first | focus (refine yy9 ?_; refine yy37 ?_; intro hc; rotate_left) | fail)
    all_goals try (exfalso; omega)
    refine aw_seq ?_
    refine DC.aw_drawpx [60, 61, 51] (fun H' => H' oX = some (.cel [uI u3, uI u4, uI u5, uI u6, lsE l]) ∧ H' oR = some (.cel [.bys b', .raw (.bool true)])) ⟨q6', q7'⟩ auto_kr auto_dk auto_dk ?_
    (first | focus (refine yy150 ?_; refine yy10 ?_; (apply DC.awn_s; · (intro H1 hPsi; (try dsimp only at hPsi); (try (obtain ⟨hPsi, hPsi2⟩ := hPsi)); exact s_callc auto_wl (bad_calls _ oR _ _ auto_heap))); (apply DC.awn_s; · (intros; exact s_notb rfl)); refine yy53 ?_; rotate_left) | fail)
    iterate 3 refine DC.awn_guard_f rfl rfl ?_
    (first | focus (refine yy126 ?_; refine yy53 ?_; rotate_left) | fail)
    iterate 3 refine DC.awn_guard_f rfl rfl ?_
    (first | focus (refine yy126 ?_; refine yy53 ?_; rotate_left) | fail)
    iterate 5 refine DC.awn_guard_f rfl rfl ?_
    (first | focus (refine yy126 ?_; refine yy53 ?_; rotate_left) | fail)
    iterate 3 refine DC.awn_guard_f rfl rfl ?_
    (first | focus (refine yy126 ?_; refine DC.awn_b0 ?_; refine yy130 ?_; refine DC.awn_nil ?_; refine DC.awc_cons0 (fun Rx K1 hK1x => ?_); refine yy71 ?_; (refine hK1x _ (by first | exact Or.inl (by decide +kernel) | (refine Or.inr ?_; (try dsimp only); first | exact ⟨auto_heap, auto_heap⟩)) ?_; clear hK1x K1 Rx); refine DC.awc_nil ?_; refine yy31 ?_; refine aw_ret ?_; rotate_left) | fail)
    all_goals try (exfalso; omega)
    exact ⟨.inl rfl, _, _, _, Ent.cellRet (H0 := H) 4 (rdC ⟨u3, u4, u5, u6, l⟩) rfl auto_heap auto_wcc (fun p y hp => ⟨hfq p y hp, AHeap.get_skip (hfq p y hp) (q9' p y hp)⟩), ret_2 rfl (rv1_agg (m := 5) rfl rfl rfl (by decide)) (rv1_tmp rfl), ⟨⟨u3, u4, u5, u6, l⟩, rfl, fun hp => absurd hp hno⟩, rfl⟩
  | false =>
    by_cases pb : b'.length = 0
    rotate_left
    · have hno : ¬ parOk c.me c.n b := fun hp => pb (by rw [(hP2.out.1 hp).2.1]; rfl)
      rw [decide_eq_false hno]
      (first | focus (refine yy9 ?_; refine yy37 ?_; intro hc; rotate_left) | fail)
      all_goals try (exfalso; omega)
      refine aw_seq ?_
      refine DC.aw_drawpx [60, 61, 51] (fun H' => H' oX = some (.cel [uI u3, uI u4, uI u5, uI u6, lsE l]) ∧ H' oR = some (.cel [.bys b', .raw (.bool false)])) ⟨q6', q7'⟩ auto_kr auto_dk auto_dk ?_
      (first | focus (refine yy150 ?_; refine yy10 ?_; (apply DC.awn_s; · (intro H1 hPsi; (try dsimp only at hPsi); (try (obtain ⟨hPsi, hPsi2⟩ := hPsi)); exact s_callc auto_wl (bad_calls _ oR _ _ auto_heap))); (apply DC.awn_s; · (intros; exact s_notb rfl)); refine yy53 ?_; rotate_left) | fail)
      all_goals try (exfalso; omega)
      try rw [decide_eq_false pb]
      first
        | refine DC.awn_guard_t rfl rfl ?_
        | (refine DC.awn_guard_pt rfl rfl (fun hq => ?_) (fun hq => absurd hq (Decidable.not_not.2 (by omega))))
      (first | focus (refine yy10 ?_; rotate_left) | fail)
      all_goals try (exfalso; omega)
      try rw [decide_eq_false pb]
      first
        | refine DC.awn_guard_t rfl rfl ?_
        | (refine DC.awn_guard_pt rfl rfl (fun hq => ?_) (fun hq => absurd hq (Decidable.not_not.2 (by omega))))
      (first | focus ((apply DC.awn_s; · (intro H1 hPsi; (try dsimp only at hPsi); (try (obtain ⟨hPsi, hPsi2⟩ := hPsi)); exact s_callc auto_wl (left_calls _ oR _ _ auto_heap))); rotate_left) | fail)
      all_goals try (exfalso; omega)
      try rw [decide_eq_false pb]
      first
        | refine DC.awn_guard_t rfl rfl ?_
        | (refine DC.awn_guard_pt rfl rfl (fun hq => ?_) (fun hq => absurd hq (Decidable.not_not.2 (by omega))))
      (first | focus ((apply DC.awn_s; · (intros; exact s_eqn rfl rfl)); refine yy116 ?_; refine yy53 ?_; rotate_left) | fail)
      all_goals try (exfalso; omega)
      try rw [decide_eq_false pb]
      first
        | refine DC.awn_guard_f rfl rfl ?_
        | refine DC.awn_guard_undef rfl rfl ?_
        | (refine DC.awn_guard_pt rfl rfl (fun hq => absurd hq (by omega)) (fun hq => ?_))
      first
        | refine DC.awn_guard_f rfl rfl ?_
        | refine DC.awn_guard_undef rfl rfl ?_
        | (refine DC.awn_guard_pt rfl rfl (fun hq => absurd hq (by omega)) (fun hq => ?_))
      first
        | refine DC.awn_guard_f rfl rfl ?_
        | refine DC.awn_guard_undef rfl rfl ?_
        | (refine DC.awn_guard_pt rfl rfl (fun hq => absurd hq (by omega)) (fun hq => ?_))
      (first | focus (refine yy126 ?_; refine yy53 ?_; rotate_left) | fail)
      all_goals try (exfalso; omega)
      try rw [decide_eq_false pb]
      first
        | refine DC.awn_guard_f rfl rfl ?_
        | refine DC.awn_guard_undef rfl rfl ?_
        | (refine DC.awn_guard_pt rfl rfl (fun hq => absurd hq (by omega)) (fun hq => ?_))
      first
        | refine DC.awn_guard_f rfl rfl ?_
        | refine DC.awn_guard_undef rfl rfl ?_
        | (refine DC.awn_guard_pt rfl rfl (fun hq => absurd hq (by omega)) (fun hq => ?_))
      first
        | refine DC.awn_guard_f rfl rfl ?_
        | refine DC.awn_guard_undef rfl rfl ?_
        | (refine DC.awn_guard_pt rfl rfl (fun hq => absurd hq (by omega)) (fun hq => ?_))
      first
        | refine DC.awn_guard_f rfl rfl ?_
        | refine DC.awn_guard_undef rfl rfl ?_
        | (refine DC.awn_guard_pt rfl rfl (fun hq => absurd hq (by omega)) (fun hq => ?_))
      first
        | refine DC.awn_guard_f rfl rfl ?_
        | refine DC.awn_guard_undef rfl rfl ?_
        | (refine DC.awn_guard_pt rfl rfl (fun hq => absurd hq (by omega)) (fun hq => ?_))
      (first | focus (refine yy126 ?_; refine yy53 ?_; rotate_left) | fail)
      all_goals try (exfalso; omega)
      try rw [decide_eq_false pb]
      first
        | refine DC.awn_guard_f rfl rfl ?_
        | refine DC.awn_guard_undef rfl rfl ?_
        | (refine DC.awn_guard_pt rfl rfl (fun hq => absurd hq (by omega)) (fun hq => ?_))
      first
        | refine DC.awn_guard_f rfl rfl ?_
        | refine DC.awn_guard_undef rfl rfl ?_
        | (refine DC.awn_guard_pt rfl rfl (fun hq => absurd hq (by omega)) (fun hq => ?_))
      first
        | refine DC.awn_guard_f rfl rfl ?_
        | refine DC.awn_guard_undef rfl rfl ?_
        | (refine DC.awn_guard_pt rfl rfl (fun hq => absurd hq (by omega)) (fun hq => ?_))
      (first | focus (refine yy126 ?_; refine DC.awn_b0 ?_; refine yy130 ?_; refine DC.awn_nil ?_; refine DC.awc_cons0 (fun Rx K1 hK1x => ?_); refine yy71 ?_; (refine hK1x _ (by first | exact Or.inl (by decide +kernel) | (refine Or.inr ?_; (try dsimp only); first | exact ⟨auto_heap, auto_heap⟩)) ?_; clear hK1x K1 Rx); refine DC.awc_nil ?_; refine yy31 ?_; refine aw_ret ?_; rotate_left) | fail)
      all_goals try (exfalso; omega)
      try rw [decide_eq_false pb]
      exact ⟨.inl rfl, _, _, _, Ent.cellRet (H0 := H) 4 (rdC ⟨u3, u4, u5, u6, l⟩) rfl auto_heap auto_wcc (fun p y hp => ⟨hfq p y hp, AHeap.get_skip (hfq p y hp) (q9' p y hp)⟩), ret_2 rfl (rv1_agg (m := 5) rfl rfl rfl (by decide)) (rv1_tmp rfl), ⟨⟨u3, u4, u5, u6, l⟩, rfl, fun hp => absurd hp hno⟩, rfl⟩
    by_cases pc : u4 ≤ 1099511627776
    rotate_left
    · have hno : ¬ parOk c.me c.n b := fun hp => pc (hP2.out.1 hp).2.2.1
      rw [decide_eq_false hno]
      (first | focus (refine yy9 ?_; refine yy37 ?_; intro hc; rotate_left) | fail)
      all_goals try (exfalso; omega)
      refine aw_seq ?_
      refine DC.aw_drawpx [60, 61, 51] (fun H' => H' oX = some (.cel [uI u3, uI u4, uI u5, uI u6, lsE l]) ∧ H' oR = some (.cel [.bys b', .raw (.bool false)])) ⟨q6', q7'⟩ auto_kr auto_dk auto_dk ?_
      (first | focus (refine yy150 ?_; refine yy10 ?_; (apply DC.awn_s; · (intro H1 hPsi; (try dsimp only at hPsi); (try (obtain ⟨hPsi, hPsi2⟩ := hPsi)); exact s_callc auto_wl (bad_calls _ oR _ _ auto_heap))); (apply DC.awn_s; · (intros; exact s_notb rfl)); refine yy53 ?_; rotate_left) | fail)
      all_goals try (exfalso; omega)
      try rw [decide_eq_true pb]
      try rw [decide_eq_false pc]
      first
        | refine DC.awn_guard_t rfl rfl ?_
        | (refine DC.awn_guard_pt rfl rfl (fun hq => ?_) (fun hq => absurd hq (Decidable.not_not.2 (by omega))))
      (first | focus (refine yy10 ?_; rotate_left) | fail)
      all_goals try (exfalso; omega)
      try rw [decide_eq_true pb]
      try rw [decide_eq_false pc]
      first
        | refine DC.awn_guard_t rfl rfl ?_
        | (refine DC.awn_guard_pt rfl rfl (fun hq => ?_) (fun hq => absurd hq (Decidable.not_not.2 (by omega))))
      (first | focus ((apply DC.awn_s; · (intro H1 hPsi; (try dsimp only at hPsi); (try (obtain ⟨hPsi, hPsi2⟩ := hPsi)); exact s_callc auto_wl (left_calls _ oR _ _ auto_heap))); rotate_left) | fail)
      all_goals try (exfalso; omega)
      try rw [decide_eq_true pb]
      try rw [decide_eq_false pc]
      first
        | refine DC.awn_guard_t rfl rfl ?_
        | (refine DC.awn_guard_pt rfl rfl (fun hq => ?_) (fun hq => absurd hq (Decidable.not_not.2 (by omega))))
      (first | focus ((apply DC.awn_s; · (intros; exact s_eqn rfl rfl)); refine yy116 ?_; refine yy53 ?_; rotate_left) | fail)
      all_goals try (exfalso; omega)
      try rw [decide_eq_true pb]
      try rw [decide_eq_false pc]
      first
        | refine DC.awn_guard_t rfl rfl ?_
        | (refine DC.awn_guard_pt rfl rfl (fun hq => ?_) (fun hq => absurd hq (Decidable.not_not.2 (by omega))))
      (first | focus (refine yy100 ?_; rotate_left) | fail)
      all_goals try (exfalso; omega)
      try rw [decide_eq_true pb]
      try rw [decide_eq_false pc]
      first
        | refine DC.awn_guard_t rfl rfl ?_
        | (refine DC.awn_guard_pt rfl rfl (fun hq => ?_) (fun hq => absurd hq (Decidable.not_not.2 (by omega))))
      (first | focus (refine yy38 ?_; rotate_left) | fail)
      all_goals try (exfalso; omega)
      try rw [decide_eq_true pb]
      try rw [decide_eq_false pc]
      first
        | refine DC.awn_guard_t rfl rfl ?_
        | (refine DC.awn_guard_pt rfl rfl (fun hq => ?_) (fun hq => absurd hq (Decidable.not_not.2 (by omega))))
      (first | focus (refine yy144 ?_; refine yy116 ?_; refine yy53 ?_; rotate_left) | fail)
      all_goals try (exfalso; omega)
      try rw [decide_eq_true pb]
      try rw [decide_eq_false pc]
      first
        | refine DC.awn_guard_f rfl rfl ?_
        | refine DC.awn_guard_undef rfl rfl ?_
        | (refine DC.awn_guard_pt rfl rfl (fun hq => absurd hq (by omega)) (fun hq => ?_))
      first
        | refine DC.awn_guard_f rfl rfl ?_
        | refine DC.awn_guard_undef rfl rfl ?_
        | (refine DC.awn_guard_pt rfl rfl (fun hq => absurd hq (by omega)) (fun hq => ?_))
      first
        | refine DC.awn_guard_f rfl rfl ?_
        | refine DC.awn_guard_undef rfl rfl ?_
        | (refine DC.awn_guard_pt rfl rfl (fun hq => absurd hq (by omega)) (fun hq => ?_))
      first
        | refine DC.awn_guard_f rfl rfl ?_
        | refine DC.awn_guard_undef rfl rfl ?_
        | (refine DC.awn_guard_pt rfl rfl (fun hq => absurd hq (by omega)) (fun hq => ?_))
      first
        | refine DC.awn_guard_f rfl rfl ?_
        | refine DC.awn_guard_undef rfl rfl ?_
        | (refine DC.awn_guard_pt rfl rfl (fun hq => absurd hq (by omega)) (fun hq => ?_))
      (first | focus (refine yy126 ?_; refine yy53 ?_; rotate_left) | fail)
      all_goals try (exfalso; omega)
      try rw [decide_eq_true pb]
      try rw [decide_eq_false pc]
      first
        | refine DC.awn_guard_f rfl rfl ?_
        | refine DC.awn_guard_undef rfl rfl ?_
        | (refine DC.awn_guard_pt rfl rfl (fun hq => absurd hq (by omega)) (fun hq => ?_))
      first
        | refine DC.awn_guard_f rfl rfl ?_
        | refine DC.awn_guard_undef rfl rfl ?_
        | (refine DC.awn_guard_pt rfl rfl (fun hq => absurd hq (by omega)) (fun hq => ?_))
      first
        | refine DC.awn_guard_f rfl rfl ?_
        | refine DC.awn_guard_undef rfl rfl ?_
        | (refine DC.awn_guard_pt rfl rfl (fun hq => absurd hq (by omega)) (fun hq => ?_))
      (first | focus (refine yy126 ?_; refine DC.awn_b0 ?_; refine yy130 ?_; refine DC.awn_nil ?_; refine DC.awc_cons0 (fun Rx K1 hK1x => ?_); refine yy71 ?_; (refine hK1x _ (by first | exact Or.inl (by decide +kernel) | (refine Or.inr ?_; (try dsimp only); first | exact ⟨auto_heap, auto_heap⟩)) ?_; clear hK1x K1 Rx); refine DC.awc_nil ?_; refine yy31 ?_; refine aw_ret ?_; rotate_left) | fail)
      all_goals try (exfalso; omega)
      try rw [decide_eq_true pb]
      try rw [decide_eq_false pc]
      exact ⟨.inl rfl, _, _, _, Ent.cellRet (H0 := H) 4 (rdC ⟨u3, u4, u5, u6, l⟩) rfl auto_heap auto_wcc (fun p y hp => ⟨hfq p y hp, AHeap.get_skip (hfq p y hp) (q9' p y hp)⟩), ret_2 rfl (rv1_agg (m := 5) rfl rfl rfl (by decide)) (rv1_tmp rfl), ⟨⟨u3, u4, u5, u6, l⟩, rfl, fun hp => absurd hp hno⟩, rfl⟩
    by_cases pd : u5 ≤ u4
    rotate_left
    · have hno : ¬ parOk c.me c.n b := fun hp => pd (hP2.out.1 hp).2.2.2.1
      rw [decide_eq_false hno]
      (first | focus (refine yy9 ?_; refine yy37 ?_; intro hc; rotate_left) | fail)
      all_goals try (exfalso; omega)
      refine aw_seq ?_
      refine DC.aw_drawpx [60, 61, 51] (fun H' => H' oX = some (.cel [uI u3, uI u4, uI u5, uI u6, lsE l]) ∧ H' oR = some (.cel [.bys b', .raw (.bool false)])) ⟨q6', q7'⟩ auto_kr auto_dk auto_dk ?_
      (first | focus (refine yy150 ?_; refine yy10 ?_; (apply DC.awn_s; · (intro H1 hPsi; (try dsimp only at hPsi); (try (obtain ⟨hPsi, hPsi2⟩ := hPsi)); exact s_callc auto_wl (bad_calls _ oR _ _ auto_heap))); (apply DC.awn_s; · (intros; exact s_notb rfl)); refine yy53 ?_; rotate_left) | fail)
      all_goals try (exfalso; omega)
      try rw [decide_eq_true pb]
      try rw [decide_eq_true pc]
      try rw [decide_eq_false pd]
      first
        | refine DC.awn_guard_t rfl rfl ?_
        | (refine DC.awn_guard_pt rfl rfl (fun hq => ?_) (fun hq => absurd hq (Decidable.not_not.2 (by omega))))
      (first | focus (refine yy10 ?_; rotate_left) | fail)
      all_goals try (exfalso; omega)
      try rw [decide_eq_true pb]
      try rw [decide_eq_true pc]
      try rw [decide_eq_false pd]
      first
        | refine DC.awn_guard_t rfl rfl ?_
        | (refine DC.awn_guard_pt rfl rfl (fun hq => ?_) (fun hq => absurd hq (Decidable.not_not.2 (by omega))))
      (first | focus ((apply DC.awn_s; · (intro H1 hPsi; (try dsimp only at hPsi); (try (obtain ⟨hPsi, hPsi2⟩ := hPsi)); exact s_callc auto_wl (left_calls _ oR _ _ auto_heap))); rotate_left) | fail)
      all_goals try (exfalso; omega)
      try rw [decide_eq_true pb]
      try rw [decide_eq_true pc]
      try rw [decide_eq_false pd]
      first
        | refine DC.awn_guard_t rfl rfl ?_
        | (refine DC.awn_guard_pt rfl rfl (fun hq => ?_) (fun hq => absurd hq (Decidable.not_not.2 (by omega))))
      (first | focus ((apply DC.awn_s; · (intros; exact s_eqn rfl rfl)); refine yy116 ?_; refine yy53 ?_; rotate_left) | fail)
      all_goals try (exfalso; omega)
      try rw [decide_eq_true pb]
      try rw [decide_eq_true pc]
      try rw [decide_eq_false pd]
      first
        | refine DC.awn_guard_t rfl rfl ?_
        | (refine DC.awn_guard_pt rfl rfl (fun hq => ?_) (fun hq => absurd hq (Decidable.not_not.2 (by omega))))
      (first | focus (refine yy100 ?_; rotate_left) | fail)
      all_goals try (exfalso; omega)
      try rw [decide_eq_true pb]
      try rw [decide_eq_true pc]
      try rw [decide_eq_false pd]
      first
        | refine DC.awn_guard_t rfl rfl ?_
        | (refine DC.awn_guard_pt rfl rfl (fun hq => ?_) (fun hq => absurd hq (Decidable.not_not.2 (by omega))))
      (first | focus (refine yy38 ?_; rotate_left) | fail)
      all_goals try (exfalso; omega)
      try rw [decide_eq_true pb]
      try rw [decide_eq_true pc]
      try rw [decide_eq_false pd]
      first
        | refine DC.awn_guard_t rfl rfl ?_
        | (refine DC.awn_guard_pt rfl rfl (fun hq => ?_) (fun hq => absurd hq (Decidable.not_not.2 (by omega))))
      (first | focus (refine yy144 ?_; refine yy116 ?_; refine yy53 ?_; rotate_left) | fail)
      all_goals try (exfalso; omega)
      try rw [decide_eq_true pb]
      try rw [decide_eq_true pc]
      try rw [decide_eq_false pd]
      first
        | refine DC.awn_guard_t rfl rfl ?_
        | (refine DC.awn_guard_pt rfl rfl (fun hq => ?_) (fun hq => absurd hq (Decidable.not_not.2 (by omega))))
      (first | focus (refine yy100 ?_; rotate_left) | fail)
      all_goals try (exfalso; omega)
      try rw [decide_eq_true pb]
      try rw [decide_eq_true pc]
      try rw [decide_eq_false pd]
      first
        | refine DC.awn_guard_t rfl rfl ?_
        | (refine DC.awn_guard_pt rfl rfl (fun hq => ?_) (fun hq => absurd hq (Decidable.not_not.2 (by omega))))
      (first | focus (refine yy38 ?_; rotate_left) | fail)
      all_goals try (exfalso; omega)
      try rw [decide_eq_true pb]
      try rw [decide_eq_true pc]
      try rw [decide_eq_false pd]
      first
        | refine DC.awn_guard_t rfl rfl ?_
        | (refine DC.awn_guard_pt rfl rfl (fun hq => ?_) (fun hq => absurd hq (Decidable.not_not.2 (by omega))))
      (first | focus (refine yy100 ?_; rotate_left) | fail)
      all_goals try (exfalso; omega)
      try rw [decide_eq_true pb]
      try rw [decide_eq_true pc]
      try rw [decide_eq_false pd]
      first
        | refine DC.awn_guard_t rfl rfl ?_
        | (refine DC.awn_guard_pt rfl rfl (fun hq => ?_) (fun hq => absurd hq (Decidable.not_not.2 (by omega))))
      (first | focus (refine yy38 ?_; rotate_left) | fail)
      all_goals try (exfalso; omega)
      try rw [decide_eq_true pb]
      try rw [decide_eq_true pc]
      try rw [decide_eq_false pd]
      first
        | refine DC.awn_guard_t rfl rfl ?_
        | (refine DC.awn_guard_pt rfl rfl (fun hq => ?_) (fun hq => absurd hq (Decidable.not_not.2 (by omega))))
      (first | focus (refine yy144 ?_; refine yy116 ?_; refine yy53 ?_; rotate_left) | fail)
      all_goals try (exfalso; omega)
      try rw [decide_eq_true pb]
      try rw [decide_eq_true pc]
      try rw [decide_eq_false pd]
      first
        | refine DC.awn_guard_f rfl rfl ?_
        | refine DC.awn_guard_undef rfl rfl ?_
        | (refine DC.awn_guard_pt rfl rfl (fun hq => absurd hq (by omega)) (fun hq => ?_))
      first
        | refine DC.awn_guard_f rfl rfl ?_
        | refine DC.awn_guard_undef rfl rfl ?_
        | (refine DC.awn_guard_pt rfl rfl (fun hq => absurd hq (by omega)) (fun hq => ?_))
      first
        | refine DC.awn_guard_f rfl rfl ?_
        | refine DC.awn_guard_undef rfl rfl ?_
        | (refine DC.awn_guard_pt rfl rfl (fun hq => absurd hq (by omega)) (fun hq => ?_))
      (first | focus (refine yy126 ?_; refine DC.awn_b0 ?_; refine yy130 ?_; refine DC.awn_nil ?_; refine DC.awc_cons0 (fun Rx K1 hK1x => ?_); refine yy71 ?_; (refine hK1x _ (by first | exact Or.inl (by decide +kernel) | (refine Or.inr ?_; (try dsimp only); first | exact ⟨auto_heap, auto_heap⟩)) ?_; clear hK1x K1 Rx); refine DC.awc_nil ?_; refine yy31 ?_; refine aw_ret ?_; rotate_left) | fail)
      all_goals try (exfalso; omega)
      try rw [decide_eq_true pb]
      try rw [decide_eq_true pc]
      try rw [decide_eq_false pd]
      exact ⟨.inl rfl, _, _, _, Ent.cellRet (H0 := H) 4 (rdC ⟨u3, u4, u5, u6, l⟩) rfl auto_heap auto_wcc (fun p y hp => ⟨hfq p y hp, AHeap.get_skip (hfq p y hp) (q9' p y hp)⟩), ret_2 rfl (rv1_agg (m := 5) rfl rfl rfl (by decide)) (rv1_tmp rfl), ⟨⟨u3, u4, u5, u6, l⟩, rfl, fun hp => absurd hp hno⟩, rfl⟩
    cases pe : Ag.listed l with
    | false =>
      have hno : ¬ parOk c.me c.n b := fun hp => by have := (hP2.out.1 hp).2.2.2.2; rw [pe] at this; cases this
      rw [decide_eq_false hno]
      rw [pe] at hLi
      (first | focus (refine yy9 ?_; refine yy37 ?_; intro hc; rotate_left) | fail)
      all_goals try (exfalso; omega)
      refine aw_seq ?_
      refine DC.aw_drawpx [60, 61, 51] (fun H' => H' oX = some (.cel [uI u3, uI u4, uI u5, uI u6, lsE l]) ∧ H' oR = some (.cel [.bys b', .raw (.bool false)])) ⟨q6', q7'⟩ auto_kr auto_dk auto_dk ?_
      (first | focus (refine yy150 ?_; refine yy10 ?_; (apply DC.awn_s; · (intro H1 hPsi; (try dsimp only at hPsi); (try (obtain ⟨hPsi, hPsi2⟩ := hPsi)); exact s_callc auto_wl (bad_calls _ oR _ _ auto_heap))); (apply DC.awn_s; · (intros; exact s_notb rfl)); refine yy53 ?_; rotate_left) | fail)
      all_goals try (exfalso; omega)
      try rw [decide_eq_true pb]
      try rw [decide_eq_true pc]
      try rw [decide_eq_true pd]
      first
        | refine DC.awn_guard_t rfl rfl ?_
        | (refine DC.awn_guard_pt rfl rfl (fun hq => ?_) (fun hq => absurd hq (Decidable.not_not.2 (by omega))))
      (first | focus (refine yy10 ?_; rotate_left) | fail)
      all_goals try (exfalso; omega)
      try rw [decide_eq_true pb]
      try rw [decide_eq_true pc]
      try rw [decide_eq_true pd]
      first
        | refine DC.awn_guard_t rfl rfl ?_
        | (refine DC.awn_guard_pt rfl rfl (fun hq => ?_) (fun hq => absurd hq (Decidable.not_not.2 (by omega))))
      (first | focus ((apply DC.awn_s; · (intro H1 hPsi; (try dsimp only at hPsi); (try (obtain ⟨hPsi, hPsi2⟩ := hPsi)); exact s_callc auto_wl (left_calls _ oR _ _ auto_heap))); rotate_left) | fail)
      all_goals try (exfalso; omega)
      try rw [decide_eq_true pb]
      try rw [decide_eq_true pc]
      try rw [decide_eq_true pd]
      first
        | refine DC.awn_guard_t rfl rfl ?_
        | (refine DC.awn_guard_pt rfl rfl (fun hq => ?_) (fun hq => absurd hq (Decidable.not_not.2 (by omega))))
      (first | focus ((apply DC.awn_s; · (intros; exact s_eqn rfl rfl)); refine yy116 ?_; refine yy53 ?_; rotate_left) | fail)
      all_goals try (exfalso; omega)
      try rw [decide_eq_true pb]
      try rw [decide_eq_true pc]
      try rw [decide_eq_true pd]
      first
        | refine DC.awn_guard_t rfl rfl ?_
        | (refine DC.awn_guard_pt rfl rfl (fun hq => ?_) (fun hq => absurd hq (Decidable.not_not.2 (by omega))))
      (first | focus (refine yy100 ?_; rotate_left) | fail)
      all_goals try (exfalso; omega)
      try rw [decide_eq_true pb]
      try rw [decide_eq_true pc]
      try rw [decide_eq_true pd]
      first
        | refine DC.awn_guard_t rfl rfl ?_
        | (refine DC.awn_guard_pt rfl rfl (fun hq => ?_) (fun hq => absurd hq (Decidable.not_not.2 (by omega))))
      (first | focus (refine yy38 ?_; rotate_left) | fail)
      all_goals try (exfalso; omega)
      try rw [decide_eq_true pb]
      try rw [decide_eq_true pc]
      try rw [decide_eq_true pd]
      first
        | refine DC.awn_guard_t rfl rfl ?_
        | (refine DC.awn_guard_pt rfl rfl (fun hq => ?_) (fun hq => absurd hq (Decidable.not_not.2 (by omega))))
      (first | focus (refine yy144 ?_; refine yy116 ?_; refine yy53 ?_; rotate_left) | fail)
      all_goals try (exfalso; omega)
      try rw [decide_eq_true pb]
      try rw [decide_eq_true pc]
      try rw [decide_eq_true pd]
      first
        | refine DC.awn_guard_t rfl rfl ?_
        | (refine DC.awn_guard_pt rfl rfl (fun hq => ?_) (fun hq => absurd hq (Decidable.not_not.2 (by omega))))
      (first | focus (refine yy100 ?_; rotate_left) | fail)
      all_goals try (exfalso; omega)
      try rw [decide_eq_true pb]
      try rw [decide_eq_true pc]
      try rw [decide_eq_true pd]
      first
        | refine DC.awn_guard_t rfl rfl ?_
        | (refine DC.awn_guard_pt rfl rfl (fun hq => ?_) (fun hq => absurd hq (Decidable.not_not.2 (by omega))))
      (first | focus (refine yy38 ?_; rotate_left) | fail)
      all_goals try (exfalso; omega)
      try rw [decide_eq_true pb]
      try rw [decide_eq_true pc]
      try rw [decide_eq_true pd]
      first
        | refine DC.awn_guard_t rfl rfl ?_
        | (refine DC.awn_guard_pt rfl rfl (fun hq => ?_) (fun hq => absurd hq (Decidable.not_not.2 (by omega))))
      (first | focus (refine yy100 ?_; rotate_left) | fail)
      all_goals try (exfalso; omega)
      try rw [decide_eq_true pb]
      try rw [decide_eq_true pc]
      try rw [decide_eq_true pd]
      first
        | refine DC.awn_guard_t rfl rfl ?_
        | (refine DC.awn_guard_pt rfl rfl (fun hq => ?_) (fun hq => absurd hq (Decidable.not_not.2 (by omega))))
      (first | focus (refine yy38 ?_; rotate_left) | fail)
      all_goals try (exfalso; omega)
      try rw [decide_eq_true pb]
      try rw [decide_eq_true pc]
      try rw [decide_eq_true pd]
      first
        | refine DC.awn_guard_t rfl rfl ?_
        | (refine DC.awn_guard_pt rfl rfl (fun hq => ?_) (fun hq => absurd hq (Decidable.not_not.2 (by omega))))
      (first | focus (refine yy144 ?_; refine yy116 ?_; refine yy53 ?_; rotate_left) | fail)
      all_goals try (exfalso; omega)
      try rw [decide_eq_true pb]
      try rw [decide_eq_true pc]
      try rw [decide_eq_true pd]
      first
        | refine DC.awn_guard_t rfl rfl ?_
        | (refine DC.awn_guard_pt rfl rfl (fun hq => ?_) (fun hq => absurd hq (Decidable.not_not.2 (by omega))))
      (first | focus (refine yy100 ?_; rotate_left) | fail)
      all_goals try (exfalso; omega)
      try rw [decide_eq_true pb]
      try rw [decide_eq_true pc]
      try rw [decide_eq_true pd]
      first
        | refine DC.awn_guard_t rfl rfl ?_
        | (refine DC.awn_guard_pt rfl rfl (fun hq => ?_) (fun hq => absurd hq (Decidable.not_not.2 (by omega))))
      (first | focus (refine yy38 ?_; rotate_left) | fail)
      all_goals try (exfalso; omega)
      try rw [decide_eq_true pb]
      try rw [decide_eq_true pc]
      try rw [decide_eq_true pd]
      first
        | refine DC.awn_guard_t rfl rfl ?_
        | (refine DC.awn_guard_pt rfl rfl (fun hq => ?_) (fun hq => absurd hq (Decidable.not_not.2 (by omega))))
      (first | focus ((apply DC.awn_s; · (intros; exact s_callc auto_wl (hLi _))); refine yy116 ?_; refine DC.awn_b0 ?_; refine yy130 ?_; refine DC.awn_nil ?_; refine DC.awc_cons0 (fun Rx K1 hK1x => ?_); refine yy71 ?_; (refine hK1x _ (by first | exact Or.inl (by decide +kernel) | (refine Or.inr ?_; (try dsimp only); first | exact ⟨auto_heap, auto_heap⟩)) ?_; clear hK1x K1 Rx); refine DC.awc_nil ?_; refine yy31 ?_; refine aw_ret ?_; rotate_left) | fail)
      all_goals try (exfalso; omega)
      try rw [decide_eq_true pb]
      try rw [decide_eq_true pc]
      try rw [decide_eq_true pd]
      exact ⟨.inl rfl, _, _, _, Ent.cellRet (H0 := H) 4 (rdC ⟨u3, u4, u5, u6, l⟩) rfl auto_heap auto_wcc (fun p y hp => ⟨hfq p y hp, AHeap.get_skip (hfq p y hp) (q9' p y hp)⟩), ret_2 rfl (rv1_agg (m := 5) rfl rfl rfl (by decide)) (rv1_tmp rfl), ⟨⟨u3, u4, u5, u6, l⟩, rfl, fun hp => absurd hp hno⟩, rfl⟩
    | true =>
      have hyes : parOk c.me c.n b := hP2.out.2 ⟨rfl, List.eq_nil_of_length_eq_zero pb, pc, pd, pe⟩
      rw [decide_eq_true hyes]
      rw [pe] at hLi
      (first | focus (refine yy9 ?_; refine yy37 ?_; intro hc; rotate_left) | fail)
      all_goals try (exfalso; omega)
      refine aw_seq ?_
      refine DC.aw_drawpx [60, 61, 51] (fun H' => H' oX = some (.cel [uI u3, uI u4, uI u5, uI u6, lsE l]) ∧ H' oR = some (.cel [.bys b', .raw (.bool false)])) ⟨q6', q7'⟩ auto_kr auto_dk auto_dk ?_
      (first | focus (refine yy150 ?_; refine yy10 ?_; (apply DC.awn_s; · (intro H1 hPsi; (try dsimp only at hPsi); (try (obtain ⟨hPsi, hPsi2⟩ := hPsi)); exact s_callc auto_wl (bad_calls _ oR _ _ auto_heap))); (apply DC.awn_s; · (intros; exact s_notb rfl)); refine yy53 ?_; rotate_left) | fail)
      all_goals try (exfalso; omega)
      try rw [decide_eq_true pb]
      try rw [decide_eq_true pc]
      try rw [decide_eq_true pd]
      first
        | refine DC.awn_guard_t rfl rfl ?_
        | (refine DC.awn_guard_pt rfl rfl (fun hq => ?_) (fun hq => absurd hq (Decidable.not_not.2 (by omega))))
      (first | focus (refine yy10 ?_; rotate_left) | fail)
      all_goals try (exfalso; omega)
      try rw [decide_eq_true pb]
      try rw [decide_eq_true pc]
      try rw [decide_eq_true pd]
      first
        | refine DC.awn_guard_t rfl rfl ?_
        | (refine DC.awn_guard_pt rfl rfl (fun hq => ?_) (fun hq => absurd hq (Decidable.not_not.2 (by omega))))
      (first | focus ((apply DC.awn_s; · (intro H1 hPsi; (try dsimp only at hPsi); (try (obtain ⟨hPsi, hPsi2⟩ := hPsi)); exact s_callc auto_wl (left_calls _ oR _ _ auto_heap))); rotate_left) | fail)
      all_goals try (exfalso; omega)
      try rw [decide_eq_true pb]
      try rw [decide_eq_true pc]
      try rw [decide_eq_true pd]
      first
        | refine DC.awn_guard_t rfl rfl ?_
        | (refine DC.awn_guard_pt rfl rfl (fun hq => ?_) (fun hq => absurd hq (Decidable.not_not.2 (by omega))))
      (first | focus ((apply DC.awn_s; · (intros; exact s_eqn rfl rfl)); refine yy116 ?_; refine yy53 ?_; rotate_left) | fail)
      all_goals try (exfalso; omega)
      try rw [decide_eq_true pb]
      try rw [decide_eq_true pc]
      try rw [decide_eq_true pd]
      first
        | refine DC.awn_guard_t rfl rfl ?_
        | (refine DC.awn_guard_pt rfl rfl (fun hq => ?_) (fun hq => absurd hq (Decidable.not_not.2 (by omega))))
      (first | focus (refine yy100 ?_; rotate_left) | fail)
      all_goals try (exfalso; omega)
      try rw [decide_eq_true pb]
      try rw [decide_eq_true pc]
      try rw [decide_eq_true pd]
      first
        | refine DC.awn_guard_t rfl rfl ?_
        | (refine DC.awn_guard_pt rfl rfl (fun hq => ?_) (fun hq => absurd hq (Decidable.not_not.2 (by omega))))
      (first | focus (refine yy38 ?_; rotate_left) | fail)
      all_goals try (exfalso; omega)
      try rw [decide_eq_true pb]
      try rw [decide_eq_true pc]
      try rw [decide_eq_true pd]
      first
        | refine DC.awn_guard_t rfl rfl ?_
        | (refine DC.awn_guard_pt rfl rfl (fun hq => ?_) (fun hq => absurd hq (Decidable.not_not.2 (by omega))))
      (first | focus (refine yy144 ?_; refine yy116 ?_; refine yy53 ?_; rotate_left) | fail)
      all_goals try (exfalso; omega)
      try rw [decide_eq_true pb]
      try rw [decide_eq_true pc]
      try rw [decide_eq_true pd]
      first
        | refine DC.awn_guard_t rfl rfl ?_
        | (refine DC.awn_guard_pt rfl rfl (fun hq => ?_) (fun hq => absurd hq (Decidable.not_not.2 (by omega))))
      (first | focus (refine yy100 ?_; rotate_left) | fail)
      all_goals try (exfalso; omega)
      try rw [decide_eq_true pb]
      try rw [decide_eq_true pc]
      try rw [decide_eq_true pd]
      first
        | refine DC.awn_guard_t rfl rfl ?_
        | (refine DC.awn_guard_pt rfl rfl (fun hq => ?_) (fun hq => absurd hq (Decidable.not_not.2 (by omega))))
      (first | focus (refine yy38 ?_; rotate_left) | fail)
      all_goals try (exfalso; omega)
      try rw [decide_eq_true pb]
      try rw [decide_eq_true pc]
      try rw [decide_eq_true pd]
      first
        | refine DC.awn_guard_t rfl rfl ?_
        | (refine DC.awn_guard_pt rfl rfl (fun hq => ?_) (fun hq => absurd hq (Decidable.not_not.2 (by omega))))
      (first | focus (refine yy100 ?_; rotate_left) | fail)
      all_goals try (exfalso; omega)
      try rw [decide_eq_true pb]
      try rw [decide_eq_true pc]
      try rw [decide_eq_true pd]
      first
        | refine DC.awn_guard_t rfl rfl ?_
        | (refine DC.awn_guard_pt rfl rfl (fun hq => ?_) (fun hq => absurd hq (Decidable.not_not.2 (by omega))))
      (first | focus (refine yy38 ?_; rotate_left) | fail)
      all_goals try (exfalso; omega)
      try rw [decide_eq_true pb]
      try rw [decide_eq_true pc]
      try rw [decide_eq_true pd]
      first
        | refine DC.awn_guard_t rfl rfl ?_
        | (refine DC.awn_guard_pt rfl rfl (fun hq => ?_) (fun hq => absurd hq (Decidable.not_not.2 (by omega))))
      (first | focus (refine yy144 ?_; refine yy116 ?_; refine yy53 ?_; rotate_left) | fail)
      all_goals try (exfalso; omega)
      try rw [decide_eq_true pb]
      try rw [decide_eq_true pc]
      try rw [decide_eq_true pd]
      first
        | refine DC.awn_guard_t rfl rfl ?_
        | (refine DC.awn_guard_pt rfl rfl (fun hq => ?_) (fun hq => absurd hq (Decidable.not_not.2 (by omega))))
      (first | focus (refine yy100 ?_; rotate_left) | fail)
      all_goals try (exfalso; omega)
      try rw [decide_eq_true pb]
      try rw [decide_eq_true pc]
      try rw [decide_eq_true pd]
      first
        | refine DC.awn_guard_t rfl rfl ?_
        | (refine DC.awn_guard_pt rfl rfl (fun hq => ?_) (fun hq => absurd hq (Decidable.not_not.2 (by omega))))
      (first | focus (refine yy38 ?_; rotate_left) | fail)
      all_goals try (exfalso; omega)
      try rw [decide_eq_true pb]
      try rw [decide_eq_true pc]
      try rw [decide_eq_true pd]
      first
        | refine DC.awn_guard_t rfl rfl ?_
        | (refine DC.awn_guard_pt rfl rfl (fun hq => ?_) (fun hq => absurd hq (Decidable.not_not.2 (by omega))))
      (first | focus ((apply DC.awn_s; · (intros; exact s_callc auto_wl (hLi _))); refine yy116 ?_; refine DC.awn_b0 ?_; refine yy130 ?_; refine DC.awn_nil ?_; refine DC.awc_cons0 (fun Rx K1 hK1x => ?_); refine yy71 ?_; (refine hK1x _ (by first | exact Or.inl (by decide +kernel) | (refine Or.inr ?_; (try dsimp only); first | exact ⟨auto_heap, auto_heap⟩)) ?_; clear hK1x K1 Rx); refine DC.awc_nil ?_; refine yy31 ?_; refine aw_ret ?_; rotate_left) | fail)
      all_goals try (exfalso; omega)
      try rw [decide_eq_true pb]
      try rw [decide_eq_true pc]
      try rw [decide_eq_true pd]
      exact ⟨.inl rfl, _, _, _, Ent.cellRet (H0 := H) 4 (rdC ⟨u3, u4, u5, u6, l⟩) rfl auto_heap auto_wcc (fun p y hp => ⟨hfq p y hp, AHeap.get_skip (hfq p y hp) (q9' p y hp)⟩), ret_2 rfl (rv1_agg (m := 5) rfl rfl rfl (by decide)) (rv1_tmp rfl), ⟨⟨u3, u4, u5, u6, l⟩, rfl, fun _ => hX2.out.symm⟩, rfl⟩
end Go.Proofs.Ytbciofnejefkiaa

namespace Go.Proofs.Ytbciofnejefkiaa
open Go Go.Am Go.Proofs

theorem CAt.set {H : AHeap} {F : Ob} {c : Ag.Co} (h : CAt H F c) (nd : NdC F) : ∃ off, H F.o = some (.cel (coreC c F.og F.oh (.vw F.ow 3 off c.wait.length))) ∧
    ∀ c' : Ag.Co, c'.got = c.got → c'.n = c.n → c'.me = c.me → c'.held = c.held → c'.wait = c.wait →
      CAt (H.set F.o (.cel (coreC c' F.og F.oh (.vw F.ow 3 off c.wait.length)))) F c' ∧ TurnC H F F (H.set F.o (.cel (coreC c' F.og F.oh (.vw F.ow 3 off c.wait.length)))) := by
  have nd0 := nd
  obtain ⟨⟨off, xs, hco, hw, hx1, hx2⟩, ⟨eg, hg, hg2⟩, ⟨eh, hh, hh2⟩⟩ := h
  obtain ⟨n1, n2, n3, n4, n5, n6⟩ := nd
  refine ⟨off, hco, fun c' e1 e2 e3 e4 e5 => ⟨⟨⟨off, xs, ?_, ?_, ?_, ?_⟩, ⟨eg, ?_, ?_⟩, ⟨eh, ?_, ?_⟩⟩, ⟨rfl, rfl, rfl, rfl, fun p hp => .inl hp, fun p y hp hF => AHeap.get_skip (fun e => hF (by simp [Ob.c, e])) hp, nd0⟩⟩⟩
  · rw [e5]; exact AHeap.set_self _ _ _
  · exact AHeap.get_skip n3.symm hw
  · rw [e5]; exact hx1
  · rw [e5]; exact hx2
  · exact AHeap.get_skip n1.symm hg
  · refine ⟨fun k => by rw [hg2.get k, e1], ?_⟩
    rw [hg2.len]; unfold Ag.Co.size; rw [e1, e2]
  · exact AHeap.get_skip n2.symm hh
  · exact ⟨fun k => by rw [hh2.get k, e4], hh2.nd⟩
theorem apply_calls (H : AHeap) (F : Ob) (c : Ag.Co) (x : Ag.Rd) (h : CAt H F c) (nd : NdC F) (hf : CFine c) (hL : LF x.list) (hk : x.kind < 2 ^ 64) (hv : x.view ≤ Ag.mostView) (hl : x.last ≤ x.view) (ha : x.agreed < 2 ^ 64) :
    ACalls Try.prog 33 [.ptr F.o 0, .agg (rdC x)] H fun r H' => r = bB (c.apply x).isSome ∧ CAt H' F ((c.apply x).getD c) ∧ TurnC H F F H' := by
  have h0 := h
  obtain ⟨off, hco, hset⟩ := h.set nd
  have f1 := hf.list.len
  have f2 := hf.agr
  have f3 := hf.list.ok
  have f4 := hf.view
  have f5 := hf.last
  unfold Ag.mostView at f4 f5 hv
  have g1 := hL.len
  have g2 := hL.ok
  have hB := fun H => begins_at hL hf H
  unfold coreC at hco
  refine acalls_of_aw2 Try.func33 rfl (by decide) ?_
  (first | focus (refine yy1 ?_; refine zb1 rfl rfl rfl (fun oN hoN => ?_); refine yy5 ?_; rotate_left) | fail)
  refine aw_ent (R' := [(0, .ptr F.o 0), (3, .pce (rdC x) 0), (4, bB false)]) (H' := H) ((Ent.cellRet (H0 := H) 3 (rdC x) rfl auto_heap auto_wcc (fresh_sub hoN)).trans (Ent.sub _ (by (repeat' (first | exact RSub.nil _ | apply RSub.cons)); all_goals rfl))) ?_
  clear hoN oN
  have hne : x.list ≠ [] ↔ 0 < x.list.length := List.length_pos_iff.symm
  by_cases k1 : x.kind = 1
  · have hap : c.apply x = if x.view < c.view ∨ x.list ≠ [] then none else some { c with view := x.view } := by unfold Ag.Co.apply; rw [if_pos k1]
    rw [hap]
    clear hap
    by_cases q : x.view < c.view ∨ x.list ≠ []
    · rw [if_pos q]
      replace q : x.view < c.view ∨ 0 < x.list.length := q.imp id hne.1
      clear hne
      (first | focus (refine yy59 ?_; refine yy94 ?_; refine yy5 ?_; refine aw_condp rfl (fun hc => ?_) (fun hc => ?_); refine aw_seq ?_; refine yy19 ?_; refine yy36 ?_; refine yy22 ?_; refine yy121 ?_; refine yy7 ?_; refine zt2 rfl rfl rfl (fun hc => ?_) (fun hc => ?_); refine yy34 ?_; refine yy120 ?_; refine yy25 ?_; refine yy123 ?_; refine yy70 ?_; refine yy12 ?_; refine aw_condp rfl (fun hc => ?_) (fun hc => ?_); refine yy24 ?_; refine yy66 ?_; rotate_left; exact absurd hc auto_no; refine yy98 ?_; refine zt4 rfl rfl ?_; refine yy28 ?_; refine yy12 ?_; refine yy23 ?_; refine yy24 ?_; refine yy66 ?_; rotate_left; exact absurd hc auto_no) | fail)
      all_goals try (exfalso; omega)
      all_goals exact ⟨.inl rfl, _, _, _, Ent.refl _ _, ret1 rfl rfl, rfl, h0, TurnC.refl _ _ nd⟩
    · rw [if_neg q]
      replace q : ¬ (x.view < c.view ∨ 0 < x.list.length) := fun h => q (h.imp id hne.2)
      clear hne
      (first | focus (refine yy59 ?_; refine yy94 ?_; refine yy5 ?_; refine aw_condp rfl (fun hc => ?_) (fun hc => ?_); refine aw_seq ?_; refine yy19 ?_; refine yy36 ?_; refine yy22 ?_; refine yy121 ?_; refine yy7 ?_; refine zt2 rfl rfl rfl (fun hc => ?_) (fun hc => ?_); refine yy34 ?_; refine yy120 ?_; refine yy25 ?_; refine yy123 ?_; refine yy70 ?_; refine yy12 ?_; refine yy63 ?_; intro hc; refine yy51 ?_; refine yy43 ?_; refine yy60 ?_; refine yy86 ?_; refine yy50 ?_; refine yy24 ?_; rotate_left; exact absurd hc auto_no; exact absurd hc auto_no) | fail)
      all_goals try (exfalso; omega)
      exact ⟨.inl rfl, _, _, _, Ent.refl _ _, ret1 rfl rfl, rfl, (hset { c with view := x.view } rfl rfl rfl rfl rfl).1, (hset { c with view := x.view } rfl rfl rfl rfl rfl).2⟩
  clear hne
  by_cases k2 : x.kind = 2
  · have hap : c.apply x = if x.view < c.view ∨ x.view < c.last ∨ Ag.begins x.list (c.list.take c.agreed) = false then none else some { c with view := x.view, last := x.view, list := x.list } := by unfold Ag.Co.apply; rw [if_neg k1, if_pos k2]
    rw [hap]
    clear hap
    cases hbg : Ag.begins x.list (c.list.take c.agreed) with
    | false =>
      rw [hbg] at hB
      rw [if_pos (.inr (.inr rfl))]
      (first | focus (refine yy59 ?_; refine yy94 ?_; refine yy5 ?_; refine yy48 ?_; intro hc; refine yy94 ?_; refine yy5 ?_; refine aw_condp rfl (fun hc => ?_) (fun hc => ?_); refine aw_seq ?_; refine yy19 ?_; refine yy36 ?_; refine yy22 ?_; refine yy121 ?_; refine yy7 ?_; refine zt2 rfl rfl rfl (fun hc => ?_) (fun hc => ?_); refine yy34 ?_; refine yy29 ?_; refine yy121 ?_; refine yy79 ?_; refine zt2 rfl rfl rfl (fun hc => ?_) (fun hc => ?_); refine yy34 ?_; refine yy29 ?_; refine yy29 ?_; refine yy125 ?_; refine yy25 ?_; (apply awt_s; · exact s_callc auto_wl (hB _)); refine yy25 ?_; refine yy97 ?_; refine yy70 ?_; refine yy12 ?_; refine yy23 ?_; refine yy24 ?_; refine yy66 ?_; rotate_left; refine yy18 ?_; refine yy18 ?_; refine yy18 ?_; refine yy28 ?_; refine yy12 ?_; refine yy23 ?_; refine yy24 ?_; refine yy66 ?_; rotate_left; refine yy18 ?_; refine yy98 ?_; refine yy28 ?_; refine yy7 ?_; refine yy18 ?_; refine yy18 ?_; refine yy18 ?_; refine zt4 rfl rfl ?_; refine yy28 ?_; refine yy12 ?_; refine yy23 ?_; refine yy24 ?_; refine yy66 ?_; rotate_left; exact absurd hc auto_no) | fail)
      all_goals try (exfalso; omega)
      all_goals exact ⟨.inl rfl, _, _, _, Ent.refl _ _, ret1 rfl rfl, rfl, h0, TurnC.refl _ _ nd⟩
    | true =>
      rw [hbg] at hB
      by_cases q : x.view < c.view ∨ x.view < c.last
      · rw [if_pos (by rcases q with q | q; exact .inl q; exact .inr (.inl q))]
        (first | focus (refine yy59 ?_; refine yy94 ?_; refine yy5 ?_; refine yy48 ?_; intro hc; refine yy94 ?_; refine yy5 ?_; refine aw_condp rfl (fun hc => ?_) (fun hc => ?_); refine aw_seq ?_; refine yy19 ?_; refine yy36 ?_; refine yy22 ?_; refine yy121 ?_; refine yy7 ?_; refine zt2 rfl rfl rfl (fun hc => ?_) (fun hc => ?_); refine yy34 ?_; refine yy29 ?_; refine yy121 ?_; refine yy79 ?_; refine zt2 rfl rfl rfl (fun hc => ?_) (fun hc => ?_); exact absurd hc auto_no; refine yy18 ?_; refine yy18 ?_; refine yy18 ?_; refine yy28 ?_; refine yy12 ?_; refine yy23 ?_; refine yy24 ?_; refine yy66 ?_; rotate_left; refine yy18 ?_; refine yy98 ?_; refine yy28 ?_; refine yy7 ?_; refine yy18 ?_; refine yy18 ?_; refine yy18 ?_; refine zt4 rfl rfl ?_; refine yy28 ?_; refine yy12 ?_; refine yy23 ?_; refine yy24 ?_; refine yy66 ?_; rotate_left; exact absurd hc auto_no) | fail)
        all_goals try (exfalso; omega)
        all_goals exact ⟨.inl rfl, _, _, _, Ent.refl _ _, ret1 rfl rfl, rfl, h0, TurnC.refl _ _ nd⟩
      · rw [if_neg (by rintro (e | e | e); exact q (.inl e); exact q (.inr e); cases e)]
        (first | focus (refine yy59 ?_; refine yy94 ?_; refine yy5 ?_; refine yy48 ?_; intro hc; refine yy94 ?_; refine yy5 ?_; refine aw_condp rfl (fun hc => ?_) (fun hc => ?_); refine aw_seq ?_; refine yy19 ?_; refine yy36 ?_; refine yy22 ?_; refine yy121 ?_; refine yy7 ?_; refine zt2 rfl rfl rfl (fun hc => ?_) (fun hc => ?_); refine yy34 ?_; refine yy29 ?_; refine yy121 ?_; refine yy79 ?_; refine zt2 rfl rfl rfl (fun hc => ?_) (fun hc => ?_); refine yy34 ?_; refine yy29 ?_; refine yy29 ?_; refine yy125 ?_; refine yy25 ?_; (apply awt_s; · exact s_callc auto_wl (hB _)); refine yy25 ?_; refine yy97 ?_; refine yy70 ?_; refine yy12 ?_; refine yy96 ?_; refine aw_draw2 false auto_kr auto_dk auto_dk ?_; refine yy73 ?_; refine yy73 ?_; refine yy73 ?_; refine yy112 ?_; refine yy113 ?_; refine yy112 ?_; refine yy113 ?_; refine yy112 ?_; refine yy113 ?_; refine yy84 ?_; refine awm_b0 ?_; refine yy84 ?_; refine awm_b0 ?_; refine yy84 ?_; refine awm_b0 ?_; refine awm_nil ?_; refine awb_cons0 (fun Rx K1 hK1x => ?_); refine yy86 ?_; (refine hK1x _ ?_; clear hK1x K1 Rx); refine awb_cons0 (fun Rx K1 hK1x => ?_); refine yy83 ?_; refine yy4 ?_; (refine hK1x _ ?_; clear hK1x K1 Rx); refine awb_cons0 (fun Rx K1 hK1x => ?_); refine yy83 ?_; refine yy4 ?_; (refine hK1x _ ?_; clear hK1x K1 Rx); refine awb_nil ?_; refine yy50 ?_; refine yy24 ?_; rotate_left; exact absurd hc auto_no; exact absurd hc auto_no; exact absurd hc auto_no) | fail)
        all_goals try (exfalso; omega)
        exact ⟨.inl rfl, _, _, _, Ent.refl _ _, ret1 rfl rfl, rfl, (hset { c with view := x.view, last := x.view, list := x.list } rfl rfl rfl rfl rfl).1, (hset { c with view := x.view, last := x.view, list := x.list } rfl rfl rfl rfl rfl).2⟩
  by_cases k4 : x.kind = 4
  · have hap : c.apply x = if x.list.length < x.agreed then none else some { c with view := x.view, last := x.last, agreed := x.agreed, list := x.list } := by unfold Ag.Co.apply; rw [if_neg k1, if_neg k2, if_neg (by omega), if_pos k4]
    rw [hap]
    clear hap
    by_cases q : x.list.length < x.agreed
    · rw [if_pos q]
      (first | focus (refine yy59 ?_; refine yy94 ?_; refine yy5 ?_; refine yy48 ?_; intro hc; refine yy94 ?_; refine yy5 ?_; refine yy48 ?_; intro hc; refine yy94 ?_; refine yy5 ?_; refine yy48 ?_; intro hc; refine yy94 ?_; refine yy5 ?_; refine aw_condp rfl (fun hc => ?_) (fun hc => ?_); refine yy134 ?_; refine yy43 ?_; refine yy54 ?_; refine awl_s rfl (s_convn rfl (by omega)) ?_; refine yy44 ?_; refine yy3 ?_; refine aw_condp rfl (fun hc => ?_) (fun hc => ?_); refine yy24 ?_; refine yy66 ?_; rotate_left; exact absurd hc auto_no; exact absurd hc auto_no) | fail)
      all_goals try (exfalso; omega)
      all_goals exact ⟨.inl rfl, _, _, _, Ent.refl _ _, ret1 rfl rfl, rfl, h0, TurnC.refl _ _ nd⟩
    · rw [if_neg q]
      (first | focus (refine yy59 ?_; refine yy94 ?_; refine yy5 ?_; refine yy48 ?_; intro hc; refine yy94 ?_; refine yy5 ?_; refine yy48 ?_; intro hc; refine yy94 ?_; refine yy5 ?_; refine yy48 ?_; intro hc; refine yy94 ?_; refine yy5 ?_; refine aw_condp rfl (fun hc => ?_) (fun hc => ?_); refine yy134 ?_; refine yy43 ?_; refine yy54 ?_; refine awl_s rfl (s_convn rfl (by omega)) ?_; refine yy44 ?_; refine yy3 ?_; refine yy63 ?_; intro hc; refine aw_draw2 false auto_kr auto_dk auto_dk ?_; refine yy73 ?_; refine yy73 ?_; refine yy73 ?_; refine yy73 ?_; refine yy112 ?_; refine yy113 ?_; refine yy112 ?_; refine yy113 ?_; refine yy112 ?_; refine yy113 ?_; (apply awm_s; · (intro H1; exact s_convi rfl (by omega) (by omega))); refine yy112 ?_; refine yy113 ?_; refine yy84 ?_; refine awm_b0 ?_; refine yy84 ?_; refine awm_b0 ?_; refine yy84 ?_; refine awm_b0 ?_; refine yy84 ?_; refine awm_b0 ?_; refine awm_nil ?_; refine awb_cons0 (fun Rx K1 hK1x => ?_); refine yy86 ?_; (refine hK1x _ ?_; clear hK1x K1 Rx); refine awb_cons0 (fun Rx K1 hK1x => ?_); refine yy83 ?_; refine yy4 ?_; (refine hK1x _ ?_; clear hK1x K1 Rx); refine awb_cons0 (fun Rx K1 hK1x => ?_); refine yy83 ?_; refine yy4 ?_; (refine hK1x _ ?_; clear hK1x K1 Rx); refine awb_cons0 (fun Rx K1 hK1x => ?_); refine yy83 ?_; refine yy4 ?_; (refine hK1x _ ?_; clear hK1x K1 Rx); refine awb_nil ?_; refine yy50 ?_; refine yy24 ?_; rotate_left; exact absurd hc auto_no) | fail)
      all_goals try (exfalso; omega)
      exact ⟨.inl rfl, _, _, _, Ent.refl _ _, ret1 rfl rfl, rfl, (hset { c with view := x.view, last := x.last, agreed := x.agreed, list := x.list } rfl rfl rfl rfl rfl).1, (hset { c with view := x.view, last := x.last, agreed := x.agreed, list := x.list } rfl rfl rfl rfl rfl).2⟩
  by_cases k3 : x.kind = 3
  · have hap : c.apply x = if Ag.listed (c.list ++ x.list) = true then some { c with list := c.list ++ x.list } else none := by unfold Ag.Co.apply; rw [if_neg k1, if_neg k2, if_pos k3]
    rw [hap]
    clear hap
    have hcp := fun H => copies_own H c.list (by omega) fun e he => by have := (f3 e he).2; omega
    have hLi := fun H => listed_calls H (c.list ++ x.list) (by rw [List.length_append]; omega) (fun e he => by
      rcases List.mem_append.1 he with he | he
      · have := (f3 e he).2; omega
      · have := (g2 e he).2; omega)
    have hcl : (c.list.flatMap En.cells).length = c.list.length * 3 := flat_len (sz := 3) (fun _ => rfl) _
    have hxl : (x.list.flatMap En.cells).length = x.list.length * 3 := flat_len (sz := 3) (fun _ => rfl) _
    (first | focus (refine yy59 ?_; refine yy94 ?_; refine yy5 ?_; refine yy48 ?_; intro hc; refine yy94 ?_; refine yy5 ?_; refine yy48 ?_; intro hc; refine yy94 ?_; refine yy5 ?_; refine aw_condp rfl (fun hc => ?_) (fun hc => ?_); refine aw_seq ?_; refine aw_draw2 true auto_kr auto_dk auto_dk ?_; refine yy73 ?_; refine yy84 ?_; (apply awm_e auto_dk; (· exact s_load_cel rfl auto_heap rfl)); refine awm_b ?_; refine yy112 ?_; refine yy113 ?_; refine awm_b ?_; refine awm_b ?_; refine awm_nil ?_; refine awb_cons (fun Rx K1 hK1x => ?_); (refine zc auto_wl (hcp _) ?_; rintro r H' ⟨oL, hoL, rfl, rfl⟩); refine yy4 ?_; (refine hK1x _ _ ?_; clear hK1x K1 Rx); refine awb_cons (fun Rx K1 hK1x => ?_); refine awl_app_celo rfl rfl rfl auto_heap auto_len auto_src auto_len auto_len (fun oN hoN => ?_); refine yy4 ?_; (refine hK1x _ _ ?_; clear hK1x K1 Rx); refine awb_cons (fun Rx K1 hK1x => ?_); refine yy81 ?_; refine yy4 ?_; (refine hK1x _ _ ?_; clear hK1x K1 Rx); refine awb_nil ?_; refine yy31 ?_; rotate_left; exact absurd hc auto_no) | fail)
    all_goals try (exfalso; omega)
    rw [List.drop_zero, ← List.flatMap_append, AHeap.erase_set hoL, ← List.length_append]
    have hoN2 : H oN = none := AHeap.none_of_set hoN
    refine aw_ent (R' := [(0, .ptr F.o 0), (4, bB false), (5, lsE (c.list ++ x.list))]) (H' := H) ((Ent.seal_cel1 5 rfl (flat_len (sz := 3) (fun _ => rfl) (c.list ++ x.list)) hoN2).trans (Ent.sub _ (by (repeat' (first | exact RSub.nil _ | apply RSub.cons)); all_goals rfl))) ?_
    clear hoL hoN hoN2
    cases hls : Ag.listed (c.list ++ x.list) with
    | false =>
      rw [hls] at hLi
      rw [if_neg (by simp)]
      (first | focus (refine yy13 ?_; refine yy56 ?_; (refine zc auto_wl (hLi _) ?_; rintro r H' ⟨rfl, rfl⟩); refine yy58 ?_; refine yy3 ?_; refine yy23 ?_; refine yy24 ?_; refine yy66 ?_; rotate_left) | fail)
      exact ⟨.inl rfl, _, _, _, Ent.refl _ _, ret1 rfl rfl, rfl, h0, TurnC.refl _ _ nd⟩
    | true =>
      rw [hls] at hLi
      rw [if_pos rfl]
      (first | focus (refine yy13 ?_; refine yy56 ?_; (refine zc auto_wl (hLi _) ?_; rintro r H' ⟨rfl, rfl⟩); refine yy58 ?_; refine yy3 ?_; refine yy96 ?_; refine yy51 ?_; refine yy56 ?_; refine yy60 ?_; refine yy86 ?_; refine yy50 ?_; refine yy24 ?_; rotate_left) | fail)
      exact ⟨.inl rfl, _, _, _, Ent.refl _ _, ret1 rfl rfl, rfl, (hset { c with list := c.list ++ x.list } rfl rfl rfl rfl rfl).1, (hset { c with list := c.list ++ x.list } rfl rfl rfl rfl rfl).2⟩
  have hap : c.apply x = none := by unfold Ag.Co.apply; rw [if_neg k1, if_neg k2, if_neg k3, if_neg k4]
  rw [hap]
  (first | focus (refine yy59 ?_; refine yy94 ?_; refine yy5 ?_; refine yy48 ?_; intro hc; refine yy94 ?_; refine yy5 ?_; refine yy48 ?_; intro hc; refine yy94 ?_; refine yy5 ?_; refine yy48 ?_; intro hc; refine yy94 ?_; refine yy5 ?_; refine yy48 ?_; intro hc; refine yy24 ?_; refine yy109 ?_; rotate_left) | fail)
  all_goals try (exfalso; omega)
  all_goals exact ⟨.inl rfl, _, _, _, Ent.refl _ _, ret1 rfl rfl, rfl, h0, TurnC.refl _ _ nd⟩
end Go.Proofs.Ytbciofnejefkiaa

namespace Go.Proofs.Ytbciofnejefkiaa
open Go Go.Am Go.Proofs

theorem rec_back {me n : Nat} {x : Ag.Rd} (hm : me < 2 ^ 64) (hn : n < 2 ^ 64) (hk : x.kind < 2 ^ 64) (hv : x.view < 2 ^ 64) (hl : x.last < 2 ^ 64) (ha : x.agreed < 2 ^ 64) (hL : LF x.list) :
    rdX (recB me n x) = x ∧ (parOk me n (recB me n x) ↔ x.ok) := by
  have h200 := hL.len
  have t0 : recB me n x = encU 10 me ++ (encU 10 n ++ (encU 10 x.kind ++ (encU 10 x.view ++ (encU 10 x.last ++ (encU 10 x.agreed ++ (encU 10 x.list.length ++ (encEs x.list ++ []))))))) := by
    simp [recB, encUs]
  have q1 := rd_enc hm (encU 10 n ++ (encU 10 x.kind ++ (encU 10 x.view ++ (encU 10 x.last ++ (encU 10 x.agreed ++ (encU 10 x.list.length ++ (encEs x.list ++ [])))))))
  have q2 := rd_enc hn (encU 10 x.kind ++ (encU 10 x.view ++ (encU 10 x.last ++ (encU 10 x.agreed ++ (encU 10 x.list.length ++ (encEs x.list ++ []))))))
  have q3 := rd_enc hk (encU 10 x.view ++ (encU 10 x.last ++ (encU 10 x.agreed ++ (encU 10 x.list.length ++ (encEs x.list ++ [])))))
  have q4 := rd_enc hv (encU 10 x.last ++ (encU 10 x.agreed ++ (encU 10 x.list.length ++ (encEs x.list ++ []))))
  have q5 := rd_enc hl (encU 10 x.agreed ++ (encU 10 x.list.length ++ (encEs x.list ++ [])))
  have q6 := rd_enc ha (encU 10 x.list.length ++ (encEs x.list ++ []))
  have q7 := rd_enc (show x.list.length < 2 ^ 64 by omega) (encEs x.list ++ [])
  have q9 := rdEs_enc x.list [] fun e he => ⟨(hL.ok e he).1, by have := (hL.ok e he).2; omega⟩
  have hX : rdX (recB me n x) = x := by
    rw [t0]
    unfold rdX
    simp only [stK, stN_at q1, vlN_at q1, stN_at q2, vlN_at q2, stN_at q3, vlN_at q3, stN_at q4, vlN_at q4, stN_at q5, vlN_at q5, stN_at q6, vlN_at q6, stN_at q7, vlN_at q7, Bool.or_false, q9]
  refine ⟨hX, ?_⟩
  unfold parOk
  rw [hX, t0]
  simp only [stK, stN_at q1, vlN_at q1, stN_at q2, vlN_at q2, stN_at q3, vlN_at q3, stN_at q4, vlN_at q4, stN_at q5, vlN_at q5, stN_at q6, vlN_at q6, stN_at q7, vlN_at q7, Bool.or_false, q9, true_and]
  exact ⟨fun h => h.2, fun h => ⟨by omega, h⟩⟩
end Go.Proofs.Ytbciofnejefkiaa

namespace Go.Proofs.Ytbciofnejefkiaa
open Go Go.Am Go.Proofs

noncomputable def openB (me n : Nat) : Ag.Co → List (List UInt8) → Option Ag.Co
  | c, [] => some c
  | c, b :: l => if parOk me n b then (c.apply (rdX b)).bind fun c => openB me n c l else none
theorem listed_LF2 {l : List En} (hm : ∀ e ∈ l, e.Ok) (h : Ag.listed l = true) : LF l := by
  unfold Ag.listed at h
  simp only [Bool.and_eq_true, decide_eq_true_eq, List.all_eq_true] at h
  refine ⟨fun e he => ⟨hm e he, ?_⟩, h.2⟩
  have := h.1.1 e he
  simp only [Ag.may, Bool.and_eq_true, decide_eq_true_eq] at this
  exact this.2
theorem vlN_lt (s : RS) : vlN s < 2 ^ 64 := by unfold vlN; exact rd_lt _
theorem rdX_parts (b : List UInt8) : (∀ e ∈ (rdX b).list, e.Ok) ∧ (rdX b).kind < 2 ^ 64 ∧ (rdX b).agreed < 2 ^ 64 := by
  have h1 := vlN_lt (stK 2 (b, false))
  have h2 := vlN_lt (stK 5 (b, false))
  unfold rdX
  generalize vlN (stK 6 (b, false)) = n
  generalize stK 7 (b, false) = s
  generalize vlN (stK 2 (b, false)) = x2 at *
  generalize vlN (stK 5 (b, false)) = x5 at *
  have h3 := rdEs_ok n s.1 s.2
  generalize rdEs n s.1 s.2 = y at *
  exact ⟨h3, h1, h2⟩
theorem parOk_rd {me n : Nat} {b : List UInt8} (h : parOk me n b) : (rdX b).ok := by
  unfold parOk at h; exact h.2.2.2.2
theorem rdX_fine {me n : Nat} {b : List UInt8} (h : parOk me n b) : LF (rdX b).list ∧ (rdX b).kind < 2 ^ 64 ∧ (rdX b).view ≤ Ag.mostView ∧ (rdX b).last ≤ (rdX b).view ∧ (rdX b).agreed < 2 ^ 64 := by
  have h5 := parOk_rd h
  obtain ⟨e1, e2, e3⟩ := rdX_parts b
  clear h
  generalize rdX b = x at *
  unfold Ag.Rd.ok at h5
  exact ⟨listed_LF2 e1 h5.2.2, e2, h5.1, h5.2.1, e3⟩
theorem CFine.apply {c d : Ag.Co} {x : Ag.Rd} (hf : CFine c) (hL : LF x.list) (hv : x.view ≤ Ag.mostView) (hl : x.last ≤ x.view) (h : c.apply x = some d) : CFine d ∧ d.me = c.me ∧ d.n = c.n := by
  unfold Ag.Co.apply at h
  split at h
  · split at h
    · cases h
    · cases h; exact ⟨⟨hf.me, hf.n, hv, hf.last, hf.list, hf.agr, hf.wait, hf.quiet, hf.got, hf.held⟩, rfl, rfl⟩
  split at h
  · split at h
    · cases h
    · next hq =>
      cases h
      rw [not_or, not_or, Bool.not_eq_false] at hq
      have hb := hq.2.2
      have := hf.agr
      simp only [Ag.begins, Bool.and_eq_true, decide_eq_true_eq, List.length_take] at hb
      exact ⟨⟨hf.me, hf.n, hv, hv, hL, by show c.agreed ≤ x.list.length; omega, hf.wait, hf.quiet, hf.got, hf.held⟩, rfl, rfl⟩
  split at h
  · split at h
    · next hq =>
      cases h
      exact ⟨⟨hf.me, hf.n, hf.view, hf.last, listed_LF2 (fun e he => by
        rcases List.mem_append.1 he with he | he
        · exact (hf.list.ok e he).1
        · exact (hL.ok e he).1) hq, by have := hf.agr; show c.agreed ≤ (c.list ++ x.list).length; rw [List.length_append]; omega, hf.wait, hf.quiet, hf.got, hf.held⟩, rfl, rfl⟩
    · cases h
  split at h
  · split at h
    · cases h
    · cases h
      exact ⟨⟨hf.me, hf.n, hv, by show x.last ≤ _; omega, hL, by show x.agreed ≤ x.list.length; omega, hf.wait, hf.quiet, hf.got, hf.held⟩, rfl, rfl⟩
  · cases h
end Go.Proofs.Ytbciofnejefkiaa

namespace Go.Proofs.Ytbciofnejefkiaa
open Go Go.Am Go.Proofs

structure Hdn (p : Prop) : Prop where
  out : p
theorem CFine.new {me n : Nat} (hm : me < n) (h7 : n ≤ 7) : CFine (Ag.Co.new me n) :=
  ⟨hm, h7, Nat.zero_le _, Nat.zero_le _, ⟨by simp [Ag.Co.new], by simp [Ag.Co.new]⟩, Nat.le_refl _, ⟨by simp [Ag.Co.new], by simp [Ag.Co.new]⟩, Nat.zero_le _, fun q x h => (by cases h), fun q x h => (by cases h)⟩
theorem openB_snoc {me n : Nat} {l : List (List UInt8)} {i : Nat} {b : List UInt8} (h : l[i]? = some b) (c : Ag.Co) : openB me n c (l.drop i) = if parOk me n b then (c.apply (rdX b)).bind fun c => openB me n c (l.drop (i + 1)) else none := by
  have e : l.drop i = b :: l.drop (i + 1) := by
    rw [List.drop_eq_getElem_cons (List.getElem?_eq_some_iff.1 h).1, (List.getElem?_eq_some_iff.1 h).2]
  rw [e, openB]
theorem bys_get {l : List (List UInt8)} {i : Nat} {b : List UInt8} (h : l[i]? = some b) : (l.map AV.bys)[i]? = some (.bys b) := by simp [h]
theorem Open_calls (H : AHeap) (me n : Nat) (l : List (List UInt8)) (hm : me < n) (h7 : n ≤ 7) (h2 : n % 2 = 1) (hl : l.length ≤ 1000000000000) (hb : ∀ b ∈ l, b.length ≤ 1000000) :
    ACalls Try.prog 16 [mI (me : Int), mI (n : Int), .sls l.length (l.map .bys)] H fun r H' => (match openB me n (Ag.Co.new me n) l with
      | none => r = .tup [.raw (.pointer none), mI 3]
      | some c => ∃ F : Ob, r = .tup [.ptr F.o 0, mI 0] ∧ CAt H' F (if n = 1 then { c with agreed := c.list.length } else c) ∧ NdC F ∧ (∀ p ∈ F.c, H p = none)) ∧ ∀ p y, H p = some y → H' p = some y := by
  refine acalls_of_aw3 Try.func16 rfl (by decide) ?_
  (first | focus (refine yy1 ?_; refine yy40 ?_; refine yy5 ?_; refine yy14 ?_; refine yy2 ?_; (refine zc auto_wl (New_calls _ me n hm h7 h2) ?_; rintro r H' ⟨F, rfl, a1, a2, a3, a4⟩); refine yy88 ?_; refine yy105 ?_; refine yy5 ?_; refine yy11 ?_; refine yy85 ?_; refine yy3 ?_; refine yy63 ?_; intro hc; refine yy13 ?_; refine yy62 ?_; refine yy67 ?_; rotate_left) | fail)
  generalize hB : openB me n (Ag.Co.new me n) l = B
  have hN := CFine.new hm h7
  have hN1 : (Ag.Co.new me n).me = me := rfl
  have hN2 : (Ag.Co.new me n).n = n := rfl
  generalize Ag.Co.new me n = c0 at *
  refine aw_loop (fun mm R' H2 => ∃ (i : Nat) (c : Ag.Co), R' = [(1, mI (n : Int)), (8, .ptr F.o 0), (9, mI 0), (23, .sls l.length (l.map .bys)), (24, mI (l.length : Int)), (25, mI (i : Int))] ∧ CAt H2 F c ∧ CFine c ∧ c.me = me ∧ c.n = n ∧ openB me n c (l.drop i) = B ∧ (∀ p y, H p = some y → H2 p = some y) ∧ i + mm = l.length) ?_ ?_
  · exact ⟨l.length, _, _, auto_ent, 0, c0, rfl, a1, hN, hN1, hN2, by rw [List.drop_zero]; exact hB, a4, by omega⟩
  clear a1 a4 hB hN hN1 hN2
  rintro mm R0 H2 ⟨i, c, rfl, b1, b2, b3, b4, b5, b6, hi⟩
  by_cases hlt : i < l.length
  · have hg : l[i]? = some l[i] := List.getElem?_eq_getElem hlt
    have hbb := hb _ (List.getElem_mem hlt)
    have g1 := bys_get hg
    have hs := fun c => openB_snoc (me := me) (n := n) hg c
    generalize l[i] = b at *
    have hrd := fun h => rdX_fine (me := me) (n := n) (b := b) h
    obtain ⟨off, _, hco, _⟩ := b1.core
    have hP := parse_calls H2 F.o c F.og F.oh _ b hco (by omega) (by omega) hbb
    rw [b3, b4] at hP
    by_cases hp : parOk me n b
    · obtain ⟨k1, k2, k3, k4, k5⟩ := hrd hp
      have hA := apply_calls H2 F c (rdX b) b1 a2 b2 k1 k2 k3 k4 k5
      rw [decide_eq_true hp] at hP
      have hfa := fun d => CFine.apply (d := d) b2 k1 k3 k4
      rw [hs, if_pos hp] at b5
      clear hs hrd
      replace hfa := Hdn.mk hfa
      replace hP : ACalls Try.prog 32 [.ptr F.o 0, .bys b] H2 fun r H' => r = .tup [.agg (rdC (rdX b)), bB true] ∧ H' = H2 := hP.mono fun r H' ⟨⟨x, h1, h2⟩, h3⟩ => by rw [h2 hp] at h1; exact ⟨h1, h3⟩
      cases ha : c.apply (rdX b) with
      | none =>
        rw [ha] at hA b5
        replace ha := Hdn.mk ha
        replace b5 := Hdn.mk b5
        (first | focus (refine yy9 ?_; refine aw_condp rfl (fun hc => ?_) (fun hc => ?_); refine yy20 ?_; refine yy1 ?_; refine yy93 ?_; refine yy72 ?_; refine yy110 ?_; refine yy3 ?_; refine yy16 ?_; refine yy39 ?_; (refine zc auto_wl (hP) ?_; rintro r H' ⟨rfl, rfl⟩); refine yy88 ?_; refine awl_alloc rfl rfl rfl (fun oN hoN => ?_); refine yy102 ?_; refine yy5 ?_; refine yy14 ?_; refine yy58 ?_; refine yy26 ?_; refine yy49 ?_; refine yy78 ?_; refine yy6 ?_; (refine zc auto_wl (hA) ?_; rintro r H' ⟨rfl, d1, d2⟩); refine yy6 ?_; refine yy58 ?_; refine yy65 ?_; refine yy23 ?_; refine yy1 ?_; refine yy40 ?_; refine yy8 ?_; refine yy109 ?_; refine yy66 ?_; rotate_left; exact absurd hc auto_no) | fail)
        obtain rfl := b5.out
        exact ⟨.inl rfl, _, _, _, Ent.refl _ _, ret_2 rfl (rv1_tmp rfl) (rv1_tmp rfl), rfl, fun p y hp => d2.fr p y (b6 p y hp) (fun e => by rw [a3 p e] at hp; cases hp)⟩
      | some d =>
        rw [ha] at hA b5
        replace ha := Hdn.mk ha
        replace b5 := Hdn.mk b5
        (first | focus (refine yy9 ?_; refine aw_condp rfl (fun hc => ?_) (fun hc => ?_); refine yy20 ?_; refine yy1 ?_; refine yy93 ?_; refine yy72 ?_; refine yy110 ?_; refine yy3 ?_; refine yy16 ?_; refine yy39 ?_; (refine zc auto_wl (hP) ?_; rintro r H' ⟨rfl, rfl⟩); refine yy88 ?_; refine awl_alloc rfl rfl rfl (fun oN hoN => ?_); refine yy102 ?_; refine yy5 ?_; refine yy14 ?_; refine yy58 ?_; refine yy26 ?_; refine yy49 ?_; refine yy78 ?_; refine yy6 ?_; (refine zc auto_wl (hA) ?_; rintro r H' ⟨rfl, d1, d2⟩); refine yy6 ?_; refine yy58 ?_; refine yy65 ?_; refine yy101 ?_; refine yy33 ?_; rotate_left; exact absurd hc auto_no) | fail)
        obtain ⟨c1, c2, c3⟩ := hfa.out d ha.out
        exact ⟨mm - 1, _, _, by omega, auto_entg, i + 1, d, rfl, d1, c1, c2.trans b3, c3.trans b4, b5.out, fun p y hp => d2.fr p y (b6 p y hp) (fun e => by rw [a3 p e] at hp; cases hp), by omega⟩
    · rw [decide_eq_false hp] at hP
      rw [hs, if_neg hp] at b5
      subst b5
      clear hs hrd hp
      (first | focus (refine yy9 ?_; refine aw_condp rfl (fun hc => ?_) (fun hc => ?_); refine yy20 ?_; refine yy1 ?_; refine yy93 ?_; refine yy72 ?_; refine yy110 ?_; refine yy3 ?_; refine yy16 ?_; refine yy39 ?_; (refine zc auto_wl (hP) ?_; rintro r H' ⟨⟨x, rfl, _⟩, rfl⟩); refine yy88 ?_; refine awl_alloc rfl rfl rfl (fun oN hoN => ?_); refine yy102 ?_; refine yy5 ?_; refine yy14 ?_; refine yy58 ?_; refine yy2 ?_; refine yy45 ?_; refine yy68 ?_; refine yy23 ?_; refine yy1 ?_; refine yy40 ?_; refine yy8 ?_; refine yy109 ?_; refine yy66 ?_; rotate_left; exact absurd hc auto_no) | fail)
      exact ⟨.inl rfl, _, _, _, Ent.refl _ _, ret_2 rfl (rv1_tmp rfl) (rv1_tmp rfl), rfl, b6⟩
  obtain rfl : i = l.length := by omega
  rw [List.drop_length] at *
  rw [openB] at b5
  subst b5
  obtain ⟨off, hco, hset⟩ := b1.set a2
  have hset1 := hset { c with agreed := c.list.length } rfl rfl rfl rfl rfl
  clear hset
  have b10 := b1
  unfold coreC at hco
  (first | focus (refine yy9 ?_; refine yy37 ?_; intro hc; refine yy11 ?_; refine yy57 ?_; refine yy3 ?_; refine aw_condp rfl (fun hc => ?_) (fun hc => ?_); refine yy51 ?_; refine yy21 ?_; refine yy54 ?_; refine yy60 ?_; refine yy75 ?_; refine yy3 ?_; refine yy16 ?_; refine yy105 ?_; refine yy8 ?_; rotate_left; refine yy82 ?_; refine yy16 ?_; refine yy105 ?_; refine yy8 ?_; rotate_left) | fail)
  · dsimp only
    rw [if_pos hc]
    exact ⟨.inl rfl, _, _, _, Ent.refl _ _, ret_2 rfl (rv1_tmp rfl) (rv1_tmp rfl), ⟨F, rfl, hset1.1, a2, a3⟩, fun p y hp => hset1.2.fr p y (b6 p y hp) (fun e => by rw [a3 p e] at hp; cases hp)⟩
  · dsimp only
    rw [if_neg hc]
    exact ⟨.inl rfl, _, _, _, Ent.refl _ _, ret_2 rfl (rv1_tmp rfl) (rv1_tmp rfl), ⟨F, rfl, b10, a2, a3⟩, b6⟩
end Go.Proofs.Ytbciofnejefkiaa
