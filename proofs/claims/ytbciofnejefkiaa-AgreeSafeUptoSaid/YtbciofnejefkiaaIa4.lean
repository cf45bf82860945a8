import Derived.Test.YtbciofnejefkiaaIz
import Derived.Test.YtbciofnejefkiaaIa3
import Derived.Test.YtbciofnejefkiaaIa1
import Derived.Test.YtbciofnejefkiaaAmDrawD
import Derived.Test.YtbciofnejefkiaaIa2
namespace Go.Proofs.Ytbciofnejefkiaa
open Go Go.Am Go.Proofs
set_option linter.unusedSimpArgs false
set_option linter.unusedVariables false
set_option maxRecDepth 20000
set_option maxHeartbeats 4000000

/-! A record is read. -/
def rdC (x : Ag.Rd) : List AV := [uI x.kind, uI x.view, uI x.last, uI x.agreed, lsE x.list]
def Rd0 : Ag.Rd := ⟨0, 0, 0, 0, []⟩
theorem aw_gen {P : Program} {n : Nat} {code : Code} {K : Exit → Regs → AHeap → Prop} {R : Regs} {H : AHeap} (Φ : AHeap → Prop) (h : Φ H) (hk : ∀ H3, Φ H3 → AW P n code K R H3) : AW P n code K R H := hk H h
/-- A reader's state behind k numbers. -/
def stK : Nat → RS → RS
  | 0, s => s
  | k + 1, s => stK k (stN s)
def rdX (b : List UInt8) : Ag.Rd := ⟨vlN (stK 2 (b, false)), vlN (stK 3 (b, false)), vlN (stK 4 (b, false)), vlN (stK 5 (b, false)), (rdEs (vlN (stK 6 (b, false))) (stK 7 (b, false)).1 (stK 7 (b, false)).2).1⟩
def parOk (me n : Nat) (b : List UInt8) : Prop :=
  vlN (b, false) = me ∧ vlN (stK 1 (b, false)) = n ∧ vlN (stK 6 (b, false)) ≤ 200 ∧ (rdEs (vlN (stK 6 (b, false))) (stK 7 (b, false)).1 (stK 7 (b, false)).2).2 = ([], false, true) ∧ (rdX b).ok
instance (me n : Nat) (b : List UInt8) : Decidable (parOk me n b) := by unfold parOk; infer_instance
theorem getE_row {b : List UInt8} {e : En} (h : getE b = some e) : e.row.length ≤ b.length := by
  unfold getE at h
  split at h
  · cases h
  next h1 =>
  split at h
  · cases h
  cases h
  show (rdIs _ _ _).1.length ≤ _
  rw [rdIs_len]
  have a1 := rd_len b
  have a2 := rd_len (rd b).2.1
  have a3 := rd_len (rd (rd b).2.1).2.1
  have h2 : (hdE b).2.1 = (rd (rd (rd b).2.1).2.1).2.1 := rfl
  rw [h2] at h1
  omega
theorem rdEs_row : ∀ (n : Nat) (b : List UInt8) (f : Bool), ∀ e ∈ (rdEs n b f).1, e.row.length ≤ b.length
  | 0, _, _ => fun e h => by cases h
  | n + 1, b, f => fun e h => by
    have l2 := rs_text b
    have l3 := rs_len b
    cases hg : getE (rs b).1 with
    | none => rw [rdEs_none hg] at h; cases h
    | some x =>
      rw [rdEs_some hg] at h
      rcases List.mem_cons.1 h with rfl | h
      · have := getE_row hg; omega
      · have := rdEs_row n _ _ e h; omega
theorem parse_calls (H : AHeap) (o : Nat) (c : Ag.Co) (og oh : Nat) (wv : AV) (b : List UInt8) (h : H o = some (.cel (coreC c og oh wv))) (hm : c.me < 7) (h7 : c.n ≤ 7) (hb : b.length ≤ 1000000) :
    ACalls Try.prog 32 [.ptr o 0, .bys b] H fun r H' => (∃ x : Ag.Rd, r = .tup [.agg (rdC x), bB (decide (parOk c.me c.n b))] ∧ (parOk c.me c.n b → x = rdX b)) ∧ H' = H := by
  unfold coreC at h
  obtain ⟨u1, b1, g1, e1⟩ : ∃ u c g, rd b = (u, c, g) := ⟨_, _, _, rfl⟩
  have l1 := rd_len b
  have w1 := rd_lt b
  rw [e1] at l1 w1
  simp only at l1 w1
  obtain ⟨u2, b2, g2, e2⟩ : ∃ u c g, rd b1 = (u, c, g) := ⟨_, _, _, rfl⟩
  have l2 := rd_len b1
  have w2 := rd_lt b1
  rw [e2] at l2 w2
  simp only at l2 w2
  obtain ⟨u3, b3, g3, e3⟩ : ∃ u c g, rd b2 = (u, c, g) := ⟨_, _, _, rfl⟩
  have l3 := rd_len b2
  have w3 := rd_lt b2
  rw [e3] at l3 w3
  simp only at l3 w3
  obtain ⟨u4, b4, g4, e4⟩ : ∃ u c g, rd b3 = (u, c, g) := ⟨_, _, _, rfl⟩
  have l4 := rd_len b3
  have w4 := rd_lt b3
  rw [e4] at l4 w4
  simp only at l4 w4
  obtain ⟨u5, b5, g5, e5⟩ : ∃ u c g, rd b4 = (u, c, g) := ⟨_, _, _, rfl⟩
  have l5 := rd_len b4
  have w5 := rd_lt b4
  rw [e5] at l5 w5
  simp only at l5 w5
  obtain ⟨u6, b6, g6, e6⟩ : ∃ u c g, rd b5 = (u, c, g) := ⟨_, _, _, rfl⟩
  have l6 := rd_len b5
  have w6 := rd_lt b5
  rw [e6] at l6 w6
  simp only at l6 w6
  obtain ⟨u7, b7, g7, e7⟩ : ∃ u c g, rd b6 = (u, c, g) := ⟨_, _, _, rfl⟩
  have l7 := rd_len b6
  have w7 := rd_lt b6
  rw [e7] at l7 w7
  simp only at l7 w7
  have hst : stK 1 (b, false) = (b1, false || g1) ∧ stK 2 (b, false) = (b2, (false || g1) || g2) ∧ stK 3 (b, false) = (b3, ((false || g1) || g2) || g3) ∧ stK 4 (b, false) = (b4, (((false || g1) || g2) || g3) || g4) ∧ stK 5 (b, false) = (b5, ((((false || g1) || g2) || g3) || g4) || g5) ∧ stK 6 (b, false) = (b6, (((((false || g1) || g2) || g3) || g4) || g5) || g6) ∧ stK 7 (b, false) = (b7, (((((((false || g1) || g2) || g3) || g4) || g5) || g6) || g7)) := by
    simp only [stK, stN_at e1, stN_at e2, stN_at e3, stN_at e4, stN_at e5, stN_at e6, stN_at e7, and_self]
  obtain ⟨t1, t2, t3, t4, t5, t6, t7⟩ := hst
  have hX : rdX b = ⟨u3, u4, u5, u6, (rdEs u7 b7 (((((((false || g1) || g2) || g3) || g4) || g5) || g6) || g7)).1⟩ := by
    unfold rdX; rw [t2, t3, t4, t5, t6, t7, vlN_at e3, vlN_at e4, vlN_at e5, vlN_at e6, vlN_at e7]
  have hP : parOk c.me c.n b ↔ u1 = c.me ∧ u2 = c.n ∧ u7 ≤ 200 ∧ (rdEs u7 b7 (((((((false || g1) || g2) || g3) || g4) || g5) || g6) || g7)).2 = ([], false, true) ∧ (rdX b).ok := by
    unfold parOk; rw [t1, t6, t7, vlN_at e1, vlN_at e2, vlN_at e7]
  clear t1 t2 t3 t4 t5 t6 t7
  refine acalls_of_aw2 Try.func32 rfl (by decide) ?_
  (first | focus (refine yy4 ?_; refine awl_alloc rfl rfl rfl (fun oN hoN => ?_); refine yy24 ?_; refine yy29 ?_; (refine zc auto_wl (read_calls _ _ auto_sd) ?_; rintro r H' ⟨oR, hoR, rfl, rfl⟩); refine yy90 ?_; refine yy3 ?_; refine yy22 ?_; (refine zc auto_wl (RU_at e1 _ _ _ auto_heap (by omega)) ?_; rintro r H' ⟨rfl, rfl⟩); refine yy17 ?_; (refine zc auto_wl (RU_at e2 _ _ _ auto_heap (by omega)) ?_; rintro r H' ⟨rfl, rfl⟩); refine yy30 ?_; refine yy24 ?_; refine yy17 ?_; (refine zc auto_wl (RU_at e3 _ _ _ auto_heap (by omega)) ?_; rintro r H' ⟨rfl, rfl⟩); refine yy17 ?_; (refine zc auto_wl (RU_at e4 _ _ _ auto_heap (by omega)) ?_; rintro r H' ⟨rfl, rfl⟩); refine yy17 ?_; (refine zc auto_wl (RU_at e5 _ _ _ auto_heap (by omega)) ?_; rintro r H' ⟨rfl, rfl⟩); refine yy17 ?_; (refine zc auto_wl (RU_at e6 _ _ _ auto_heap (by omega)) ?_; rintro r H' ⟨rfl, rfl⟩); refine yy75 ?_; refine awl_alloc rfl rfl rfl (fun oN hoN => ?_); refine yy78 ?_; refine yy3 ?_; refine yy22 ?_; (refine zc auto_wl (RU_at e7 _ _ _ auto_heap (by omega)) ?_; rintro r H' ⟨rfl, rfl⟩); refine yy6 ?_; rotate_left) | fail)
  rename_i oQ hoQ
  have hoX := hoN
  generalize hqq : oN = oX at *
  clear hqq hoN
  refine aw_ent (R' := [(0, .ptr o 0), (4, .ptr oQ 0), (5, bB false), (6, .ptr oR 0), (7, uI u1), (8, uI u2), (9, .ptr oX 0), (10, uI u7)]) (Ent.sub _ (by (repeat' (first | exact RSub.nil _ | apply RSub.cons)); all_goals rfl)) ?_
  have n1 : oR ≠ oQ := AHeap.ne_of_fresh hoR
  have k1 : H oR = none := AHeap.none_of_set hoR
  have k2 : H oX = none := by (first | assumption | exact AHeap.none_of_set ((by assumption)) | exact AHeap.none_of_set (AHeap.none_of_set ((by assumption))) | exact AHeap.none_of_set (AHeap.none_of_set (AHeap.none_of_set ((by assumption)))) | exact AHeap.none_of_set (AHeap.none_of_set (AHeap.none_of_set (AHeap.none_of_set ((by assumption))))) | exact AHeap.none_of_set (AHeap.none_of_set (AHeap.none_of_set (AHeap.none_of_set (AHeap.none_of_set ((by assumption)))))) | exact AHeap.none_of_set (AHeap.none_of_set (AHeap.none_of_set (AHeap.none_of_set (AHeap.none_of_set (AHeap.none_of_set ((by assumption))))))) | exact AHeap.none_of_set (AHeap.none_of_set (AHeap.none_of_set (AHeap.none_of_set (AHeap.none_of_set (AHeap.none_of_set (AHeap.none_of_set ((by assumption)))))))) | exact AHeap.none_of_set (AHeap.none_of_set (AHeap.none_of_set (AHeap.none_of_set (AHeap.none_of_set (AHeap.none_of_set (AHeap.none_of_set (AHeap.none_of_set ((by assumption))))))))) | exact AHeap.none_of_set (AHeap.none_of_set (AHeap.none_of_set (AHeap.none_of_set (AHeap.none_of_set (AHeap.none_of_set (AHeap.none_of_set (AHeap.none_of_set (AHeap.none_of_set ((by assumption)))))))))) | exact AHeap.none_of_set (AHeap.none_of_set (AHeap.none_of_set (AHeap.none_of_set (AHeap.none_of_set (AHeap.none_of_set (AHeap.none_of_set (AHeap.none_of_set (AHeap.none_of_set (AHeap.none_of_set ((by assumption))))))))))))
  have n2 : oX ≠ oR := by (first | assumption | exact Ne.symm (by assumption) | exact AHeap.ne_of_fresh (by assumption) | exact Ne.symm (AHeap.ne_of_fresh (by assumption)) | exact AHeap.ne_of_fresh (AHeap.none_of_set (by assumption)) | exact Ne.symm (AHeap.ne_of_fresh (AHeap.none_of_set (by assumption))) | exact AHeap.ne_ns (by assumption) (by assumption) | exact AHeap.ne_sn (by assumption) (by assumption) | exact AHeap.ne_ns (by assumption) auto_heap2 | exact AHeap.ne_sn (by assumption) auto_heap2)
  have n3 : oX ≠ oQ := by
    have hz := hoX
    repeat (first | exact AHeap.ne_of_fresh hz | replace hz := AHeap.none_of_set hz)
  have n4 : o ≠ oQ := fun e => by rw [e, hoQ] at h; cases h
  have n5 : o ≠ oR := fun e => by rw [e, k1] at h; cases h
  have n6 : o ≠ oX := fun e => by rw [e, k2] at h; cases h
  generalize (((((((false || g1) || g2) || g3) || g4) || g5) || g6) || g7) = G at *
  clear e1 e2 e3 e4 e5 e6 e7
  refine aw_gen (fun H2 => H2 oR = some (.cel [.bys b7, .raw (.bool G)]) ∧ H2 oX = some (.cel [uI u3, uI u4, uI u5, uI u6, .raw (.slice none 0 0)]) ∧ H2 oQ = some (.cel (AV.raw (.agg #[.int .u64 0, .int .u64 0, .int .u64 0, .int .u64 0, .slice none 0 0])).parts) ∧ ∀ p y, H p = some y → H2 p = some y) ⟨by exact auto_heap, by exact auto_heap, (by repeat' (first | exact AHeap.set_self _ _ _ | refine AHeap.get_skip n1.symm ?_ | refine AHeap.get_skip n3.symm ?_)), fun p y hp => by
    have hne : ∀ {q : Nat}, H q = none → p ≠ q := fun b e => by rw [e, b] at hp; cases hp
    have a1 := hne hoQ
    have a2 := hne k1
    have a3 := hne k2
    exact auto_heap⟩ ?_
  clear hoR hoX
  rintro H2 ⟨q1, q2, q3, q4⟩
  have hco := q4 _ _ h
  clear oN
  refine aw_own_cell (o := oX) 4 3 q2 rfl (fun oL hoL => ?_)
  have x1 : oL ≠ oR := fun e => by rw [e, q1] at hoL; cases hoL
  have x2 : oL ≠ oX := fun e => by rw [e, q2] at hoL; cases hoL
  have x3 : oL ≠ oQ := fun e => by rw [e, q3] at hoL; cases hoL
  have x4 : H oL = none := by
    cases hx : H oL with
    | none => rfl
    | some y => rw [q4 _ _ hx] at hoL; cases hoL
  refine aw_gen (fun H3 => H3 oR = some (.cel [.bys b7, .raw (.bool G)]) ∧ H3 oX = some (.cel [uI u3, uI u4, uI u5, uI u6, .vw oL 3 0 0]) ∧ H3 oQ = some (.cel (AV.raw (.agg #[.int .u64 0, .int .u64 0, .int .u64 0, .int .u64 0, .slice none 0 0])).parts) ∧ H3 oL = some (.cel []) ∧ ∀ p y, H p = some y → H3 p = some y) ⟨by exact auto_heap, by exact auto_heap, by exact auto_heap, by exact auto_heap, fun p y hp => by
    have hne : ∀ {q : Nat}, H q = none → p ≠ q := fun b e => by rw [e, b] at hp; cases hp
    have a1 := q4 p y hp
    have a2 := hne k2
    have a3 := hne x4
    exact auto_heap⟩ ?_
  clear q1 q2 q3 q4 hoL hco
  clear H2
  rintro H2 ⟨q1, q2, q3, q5, q4⟩
  have hco := q4 _ _ h
  have hfq : ∀ p y, H p = some y → p ≠ oQ := fun p y hp e => by rw [e, hoQ] at hp; cases hp
  by_cases p1 : u1 = c.me ∧ u2 = c.n ∧ u7 ≤ 200
  rotate_left
  · have hno : ¬ parOk c.me c.n b := fun hp => by obtain ⟨a, b, c, _⟩ := hP.1 hp; exact p1 ⟨a, b, c⟩
    rw [decide_eq_false hno]
    (first | focus (refine yy11 ?_; refine yy8 ?_; refine awl_s rfl (s_convn rfl (by omega)) ?_; refine yy70 ?_; refine yy2 ?_; refine zg2 rfl rfl rfl (fun hc => ?_) (fun hc => ?_); refine yy34 ?_; refine yy54 ?_; refine yy40 ?_; refine yy2 ?_; refine yy54 ?_; refine yy48 ?_; refine yy79 ?_; refine yy75 ?_; refine yy89 ?_; refine yy9 ?_; refine yy21 ?_; rotate_left; refine yy19 ?_; refine yy36 ?_; refine yy81 ?_; refine yy33 ?_; refine awl_s rfl (s_convn rfl (by omega)) ?_; refine yy5 ?_; refine yy70 ?_; refine yy20 ?_; refine yy2 ?_; refine zg2 rfl rfl rfl (fun hc => ?_) (fun hc => ?_); refine yy41 ?_; refine yy48 ?_; refine yy79 ?_; refine yy75 ?_; refine yy89 ?_; refine yy9 ?_; refine yy21 ?_; rotate_left; refine yy19 ?_; refine yy27 ?_; refine yy43 ?_; refine aw_condp rfl (fun hc => ?_) (fun hc => ?_); refine yy4 ?_; refine yy75 ?_; refine yy89 ?_; refine yy9 ?_; refine yy21 ?_; rotate_left; exact absurd hc auto_no) | fail)
    all_goals try (exfalso; omega)
    all_goals exact ⟨.inl rfl, _, _, _, Ent.cellRet (H0 := H) 4 (rdC Rd0) rfl auto_heap (by ((repeat' (first | exact WC.nil | apply WC.cons)); all_goals (first | exact W.of rfl | exact W.int rfl | exact W.nilb rfl | exact W.empb rfl | exact W.bysx rfl | exact W.nils rfl | exact W.emps rfl | exact W.slsx rfl))) (fun p y hp => ⟨hfq p y hp, AHeap.get_skip (hfq p y hp) (q4 p y hp)⟩), ret_2 rfl (rv1_agg (m := 5) rfl rfl rfl (by decide)) (rv1_tmp rfl), ⟨Rd0, rfl, fun hp => absurd hp hno⟩, rfl⟩
  obtain ⟨p1, p2, p3⟩ := p1
  refine aw_seq ?_
  (first | focus (refine yy50 ?_; refine yy8 ?_; refine awl_s rfl (s_convn rfl (by omega)) ?_; refine yy70 ?_; refine yy2 ?_; refine zg2 rfl rfl rfl (fun hc => ?_) (fun hc => ?_); exact absurd hc auto_no; refine yy19 ?_; refine yy36 ?_; refine yy81 ?_; refine yy33 ?_; refine awl_s rfl (s_convn rfl (by omega)) ?_; refine yy5 ?_; refine yy70 ?_; refine yy20 ?_; refine yy2 ?_; refine zg2 rfl rfl rfl (fun hc => ?_) (fun hc => ?_); exact absurd hc auto_no; refine yy19 ?_; refine yy27 ?_; refine yy43 ?_; refine yy53 ?_; intro hc; refine yy11 ?_; refine yy56 ?_; rotate_left) | fail)
  all_goals try (exfalso; omega)
  have hfr : ∀ p y, H p = some y → p ≠ oR := fun p y hp e => by rw [e, k1] at hp; cases hp
  have hfx : ∀ p y, H p = some y → p ≠ oX := fun p y hp e => by rw [e, k2] at hp; cases hp
  refine aw_loop (fun mm R' H3 => ∃ (i oL : Nat) (l : List En) (b' : List UInt8) (f' : Bool), (H oL = none ∧ oL ≠ oR ∧ oL ≠ oX ∧ oL ≠ oQ ∧ H3 oL = some (.cel (l.flatMap En.cells)) ∧ H3 oX = some (.cel [uI u3, uI u4, uI u5, uI u6, .vw oL 3 0 i]) ∧ H3 oR = some (.cel [.bys b', .raw (.bool f')]) ∧ H3 oQ = some (.cel (AV.raw (.agg #[.int .u64 0, .int .u64 0, .int .u64 0, .int .u64 0, .slice none 0 0])).parts) ∧ ∀ p y, H p = some y → H3 p = some y) ∧ l.length = i ∧ b'.length ≤ b7.length ∧
    rdEs u7 b7 G = (l ++ (rdEs (u7 - i) b' f').1, (rdEs (u7 - i) b' f').2) ∧
    R' = [(0, .ptr o 0), (4, .ptr oQ 0), (5, bB false), (6, .ptr oR 0), (9, .ptr oX 0), (51, .raw (.int .u64 (u7 : Int))), (52, .raw (.int .u64 (i : Int)))] ∧ i + mm = u7) ?_ ?_
  · exact ⟨u7, _, _, auto_ent, 0, oL, [], b7, G, ⟨x4, x1, x2, x3, q5, q2, q1, q3, q4⟩, rfl, Nat.le_refl _, by simp, rfl, by omega⟩
  clear q1 q2 q3 q4 q5 x1 x2 x3 x4 hco
  clear H2 oL
  rintro mm R0 H2 ⟨i, oL, l, b', f', ⟨q1, q2, q3, q4, q5, q6, q7, q8, q9⟩, hl, hbl, hrd, rfl, hi⟩
  have hfl : (l.flatMap En.cells).length = i * 3 := by rw [flat_len (sz := 3) (fun _ => rfl), hl]
  by_cases hlt : i < u7
  · have hsn : u7 - i = (u7 - (i + 1)) + 1 := by omega
    have l2 := rs_text b'
    have l3 := rs_len b'
    cases hg : getE (rs b').1 with
    | none =>
      have hG : ∀ H, ACalls Try.prog 58 [.bys (rs b').1] H fun r H' => r = .tup [.agg En0.cells, .raw (.int .i64 (3 : Int))] ∧ H' = H := fun H => (GetEntry_calls H _ (by omega)).mono (by rw [hg]; exact fun _ _ h => h)
      rw [hsn, rdEs_none hg] at hrd
      have hno : ¬ parOk c.me c.n b := fun hp => by
        obtain ⟨_, _, _, hp, _⟩ := hP.1 hp
        rw [hrd] at hp
        simp at hp
      rw [decide_eq_false hno]
      clear hP hX hrd hg p1 p2
      (first | focus (refine yy10 ?_; refine aw_condp rfl (fun hc => ?_) (fun hc => ?_); refine yy26 ?_; refine yy17 ?_; (refine zc auto_wl (RS_calls _ _ _ _ q7 (by omega)) ?_; rintro r H' ⟨rfl, rfl⟩); refine awl_s rfl (s_str_bytes rfl) ?_; (refine zc auto_wl (hG _) ?_; rintro r H' ⟨rfl, rfl⟩); refine yy73 ?_; refine awl_alloc rfl rfl rfl (fun oN hoN => ?_); refine yy80 ?_; refine yy6 ?_; refine yy11 ?_; refine yy70 ?_; refine yy3 ?_; refine aw_condp rfl (fun hc => ?_) (fun hc => ?_); refine yy4 ?_; refine yy75 ?_; refine yy89 ?_; refine yy9 ?_; refine yy51 ?_; refine yy51 ?_; rotate_left; exact absurd hc auto_no; exact absurd hc auto_no) | fail)
      all_goals try (exfalso; omega)
      all_goals exact ⟨.inl rfl, _, _, _, Ent.cellRet (H0 := H) 4 (rdC Rd0) rfl auto_heap (by ((repeat' (first | exact WC.nil | apply WC.cons)); all_goals (first | exact W.of rfl | exact W.int rfl | exact W.nilb rfl | exact W.empb rfl | exact W.bysx rfl | exact W.nils rfl | exact W.emps rfl | exact W.slsx rfl))) (fun p y hp => ⟨hfq p y hp, by have a1 := hfq p y hp; have a2 := q9 p y hp; have a3 := hfr p y hp; exact auto_heap⟩), ret_2 rfl (rv1_agg (m := 5) rfl rfl rfl (by decide)) (rv1_tmp rfl), ⟨Rd0, rfl, fun hp => absurd hp hno⟩, rfl⟩
    | some e =>
      have hG : ∀ H, ACalls Try.prog 58 [.bys (rs b').1] H fun r H' => r = .tup [.agg e.cells, .raw (.int .i64 (0 : Int))] ∧ H' = H := fun H => (GetEntry_calls H _ (by omega)).mono (by rw [hg]; exact fun _ _ h => h)
      rw [hsn, rdEs_some hg] at hrd
      clear hP hX hg
      replace hrd := Hdq.mk hrd
      (first | focus (refine yy10 ?_; refine aw_condp rfl (fun hc => ?_) (fun hc => ?_); refine yy26 ?_; refine yy17 ?_; (refine zc auto_wl (RS_calls _ _ _ _ q7 (by omega)) ?_; rintro r H' ⟨rfl, rfl⟩); refine awl_s rfl (s_str_bytes rfl) ?_; (refine zc auto_wl (hG _) ?_; rintro r H' ⟨rfl, rfl⟩); refine yy73 ?_; refine awl_alloc rfl rfl rfl (fun oN hoN => ?_); refine yy80 ?_; refine yy6 ?_; refine yy11 ?_; refine yy70 ?_; refine yy3 ?_; refine yy53 ?_; intro hc; refine aw_region ?_; refine yy61 ?_; refine yy94 ?_; refine yy62 ?_; refine yy92 ?_; refine za4 rfl rfl rfl auto_heap auto_al auto_src auto_len auto_len (fun oN hoN => ?_); refine yy61 ?_; refine yy72 ?_; refine yy84 ?_; refine awl_s rfl (s_addu rfl rfl auto_len) ?_; refine yy104 ?_; rotate_left; exact absurd hc auto_no) | fail)
      all_goals try (exfalso; omega)
      have y0 : H2 oN = none := AHeap.none_of_set hoN
      have y1 : oN ≠ oR := AHeap.ne_of_fresh hoN
      have y2 : oN ≠ oX := fun e => by rw [e, q6] at y0; cases y0
      have y3 : oN ≠ oQ := fun e => by rw [e, q8] at y0; cases y0
      have y4 : oN ≠ oL := fun e => by rw [e, q5] at y0; cases y0
      have y5 : H oN = none := by
        cases hx : H oN with
        | none => rfl
        | some y => rw [q9 _ _ hx] at y0; cases y0
      refine ⟨mm - 1, _, _, by omega, Ent.sub _ (by (repeat' (first | exact RSub.nil _ | apply RSub.cons)); all_goals rfl), i + 1, oN, l ++ [e], _, _, ⟨y5, y1, y2, y3, by rw [List.flatMap_append]; exact auto_heap, by exact auto_heap, by exact auto_heap, by exact auto_heap, fun p y hp => ?_⟩, by simp [hl], by omega, by rw [hrd.out]; simp, rfl, by omega⟩
      have a1 := hfx p y hp
      have a2 := q9 p y hp
      have a3 := hfr p y hp
      have a4 : p ≠ oL := fun e => by rw [e, q1] at hp; cases hp
      have a5 : p ≠ oN := fun e => by rw [e, y5] at hp; cases hp
      exact auto_heap
  obtain rfl : i = u7 := by omega
  rw [Nat.sub_self] at hrd
  simp only [rdEs, List.append_nil] at hrd
  have hok : (rdX b).ok ↔ u4 ≤ 1099511627776 ∧ u5 ≤ u4 ∧ Ag.listed l = true := by rw [hX, hrd]; rfl
  have hP2 : parOk c.me c.n b ↔ f' = false ∧ b' = [] ∧ u4 ≤ 1099511627776 ∧ u5 ≤ u4 ∧ Ag.listed l = true := by
    rw [hP, hok, hrd]
    simp [p1, p2, p3, and_comm, and_assoc, and_left_comm]
  have hX2 : rdX b = ⟨u3, u4, u5, u6, l⟩ := by rw [hX, hrd]
  have hen : ∀ e ∈ l, e.row.length ≤ b7.length := by
    have h1 := rdEs_row i b7 G
    rw [hrd] at h1; exact h1
  replace hX2 := Hdq.mk hX2
  replace hP2 := Hdq.mk hP2
  clear hP hX hok hrd
  have hLi := fun H => listed_calls H l (by omega) (fun e he => by have := (hen e he); omega)
  refine aw_ent (H' := (H2.erase oL).set oX (.cel [uI u3, uI u4, uI u5, uI u6, lsE l])) (Ent.seal_cellC (p := oX) (o := oL) (k := 4) (sz := 3) (len := i) (ys := l.flatMap En.cells) q3.symm q6 q5 rfl hfl |>.trans (by rw [← hl]; exact Ent.refl _ _)) ?_
  have b1 : o ≠ oL := fun e => by rw [e, q1] at h; cases h
  have q7' : ((H2.erase oL).set oX (.cel [uI u3, uI u4, uI u5, uI u6, lsE l])) oR = some (.cel [.bys b', .raw (.bool f')]) := AHeap.get_skip n2.symm (AHeap.get_unerase q2.symm q7)
  have q8' : ((H2.erase oL).set oX (.cel [uI u3, uI u4, uI u5, uI u6, lsE l])) oQ = some (.cel (AV.raw (.agg #[.int .u64 0, .int .u64 0, .int .u64 0, .int .u64 0, .slice none 0 0])).parts) := AHeap.get_skip n3.symm (AHeap.get_unerase q4.symm q8)
  have q6' : ((H2.erase oL).set oX (.cel [uI u3, uI u4, uI u5, uI u6, lsE l])) oX = some (.cel [uI u3, uI u4, uI u5, uI u6, lsE l]) := AHeap.set_self _ _ _
  have q9' : ∀ p y, H p = some y → ((H2.erase oL).set oX (.cel [uI u3, uI u4, uI u5, uI u6, lsE l])) p = some y := fun p y hp => AHeap.get_skip (hfx p y hp) (AHeap.get_unerase (fun e => by rw [e, q1] at hp; cases hp) (q9 p y hp))
  clear q5 q6 q7 q8 q9 hfl
  generalize ((H2.erase oL).set oX (.cel [uI u3, uI u4, uI u5, uI u6, lsE l])) = H4 at *
  clear q1 q2 q3 q4 hlt hi
  cases f' with
  | true =>
    have hno : ¬ parOk c.me c.n b := fun hp => by have := (hP2.out.1 hp).1; cases this
    rw [decide_eq_false hno]
    (first | focus (refine yy10 ?_; refine yy28 ?_; intro hc; rotate_left) | fail)
    all_goals try (exfalso; omega)
    refine aw_seq ?_
    refine DC.aw_drawpx [60, 61, 51] (fun H' => H' oX = some (.cel [uI u3, uI u4, uI u5, uI u6, lsE l]) ∧ H' oR = some (.cel [.bys b', .raw (.bool true)])) ⟨q6', q7'⟩ auto_kr auto_dk auto_dk ?_
    (first | focus ((apply DC.awn_s; · (intro H1 hPsi; (try dsimp only at hPsi); (try (obtain ⟨hPsi, hPsi2⟩ := hPsi)); exact s_load_agg rfl auto_heap rfl rfl (by first | decide | exact Nat.le_of_ble_eq_true rfl))); (apply DC.awn_s; · (intro H1 hPsi; (try dsimp only at hPsi); (try (obtain ⟨hPsi, hPsi2⟩ := hPsi)); exact s_move (v := .ptr _ _) rfl)); (apply DC.awn_s; · (intro H1 hPsi; (try dsimp only at hPsi); (try (obtain ⟨hPsi, hPsi2⟩ := hPsi)); exact s_callc auto_wl (bad_calls _ oR _ _ auto_heap))); (apply DC.awn_s; · (intro H1 hPsi; (try dsimp only at hPsi); (try (obtain ⟨hPsi, hPsi2⟩ := hPsi)); exact s_notb rfl)); (apply DC.awn_s; · (intro H1 hPsi; (try dsimp only at hPsi); (try (obtain ⟨hPsi, hPsi2⟩ := hPsi)); exact s_move (v := .raw _) rfl)); rotate_left) | fail)
    iterate 3 refine DC.awn_guard_f rfl rfl ?_
    (first | focus ((apply DC.awn_s; · (intro H1 hPsi; (try dsimp only at hPsi); (try (obtain ⟨hPsi, hPsi2⟩ := hPsi)); exact s_pick_f (v := .raw _) rfl rfl)); (apply DC.awn_s; · (intro H1 hPsi; (try dsimp only at hPsi); (try (obtain ⟨hPsi, hPsi2⟩ := hPsi)); exact s_move (v := .raw _) rfl)); rotate_left) | fail)
    iterate 3 refine DC.awn_guard_f rfl rfl ?_
    (first | focus ((apply DC.awn_s; · (intro H1 hPsi; (try dsimp only at hPsi); (try (obtain ⟨hPsi, hPsi2⟩ := hPsi)); exact s_pick_f (v := .raw _) rfl rfl)); (apply DC.awn_s; · (intro H1 hPsi; (try dsimp only at hPsi); (try (obtain ⟨hPsi, hPsi2⟩ := hPsi)); exact s_move (v := .raw _) rfl)); rotate_left) | fail)
    iterate 5 refine DC.awn_guard_f rfl rfl ?_
    (first | focus ((apply DC.awn_s; · (intro H1 hPsi; (try dsimp only at hPsi); (try (obtain ⟨hPsi, hPsi2⟩ := hPsi)); exact s_pick_f (v := .raw _) rfl rfl)); (apply DC.awn_s; · (intro H1 hPsi; (try dsimp only at hPsi); (try (obtain ⟨hPsi, hPsi2⟩ := hPsi)); exact s_move (v := .raw _) rfl)); rotate_left) | fail)
    iterate 3 refine DC.awn_guard_f rfl rfl ?_
    (first | focus ((apply DC.awn_s; · (intro H1 hPsi; (try dsimp only at hPsi); (try (obtain ⟨hPsi, hPsi2⟩ := hPsi)); exact s_pick_f (v := .raw _) rfl rfl)); refine DC.awn_b0 ?_; (apply DC.awn_s; · (intro H1 hPsi; (try dsimp only at hPsi); (try (obtain ⟨hPsi, hPsi2⟩ := hPsi)); exact s_assign (v := .raw _) rfl)); refine DC.awn_nil ?_; refine DC.awc_cons0 (fun Rx K1 hK1x => ?_); refine yy89 ?_; refine yy7 ?_; (refine hK1x _ (by first | exact Or.inl (by decide +kernel) | (refine Or.inr ?_; (try dsimp only); first | exact ⟨auto_heap, auto_heap⟩)) ?_; clear hK1x K1 Rx); refine DC.awc_nil ?_; refine yy47 ?_; refine aw_ret ?_; rotate_left) | fail)
    all_goals try (exfalso; omega)
    exact ⟨.inl rfl, _, _, _, Ent.cellRet (H0 := H) 4 (rdC ⟨u3, u4, u5, u6, l⟩) rfl auto_heap (by ((repeat' (first | exact WC.nil | apply WC.cons)); all_goals (first | exact W.of rfl | exact W.int rfl | exact W.nilb rfl | exact W.empb rfl | exact W.bysx rfl | exact W.nils rfl | exact W.emps rfl | exact W.slsx rfl))) (fun p y hp => ⟨hfq p y hp, AHeap.get_skip (hfq p y hp) (q9' p y hp)⟩), ret_2 rfl (rv1_agg (m := 5) rfl rfl rfl (by decide)) (rv1_tmp rfl), ⟨⟨u3, u4, u5, u6, l⟩, rfl, fun hp => absurd hp hno⟩, rfl⟩
  | false =>
    by_cases pb : b'.length = 0
    rotate_left
    · have hno : ¬ parOk c.me c.n b := fun hp => pb (by rw [(hP2.out.1 hp).2.1]; rfl)
      rw [decide_eq_false hno]
      (first | focus (refine yy10 ?_; refine yy28 ?_; intro hc; rotate_left) | fail)
      all_goals try (exfalso; omega)
      refine aw_seq ?_
      refine DC.aw_drawpx [60, 61, 51] (fun H' => H' oX = some (.cel [uI u3, uI u4, uI u5, uI u6, lsE l]) ∧ H' oR = some (.cel [.bys b', .raw (.bool false)])) ⟨q6', q7'⟩ auto_kr auto_dk auto_dk ?_
      (first | focus ((apply DC.awn_s; · (intro H1 hPsi; (try dsimp only at hPsi); (try (obtain ⟨hPsi, hPsi2⟩ := hPsi)); exact s_load_agg rfl auto_heap rfl rfl (by first | decide | exact Nat.le_of_ble_eq_true rfl))); (apply DC.awn_s; · (intro H1 hPsi; (try dsimp only at hPsi); (try (obtain ⟨hPsi, hPsi2⟩ := hPsi)); exact s_move (v := .ptr _ _) rfl)); (apply DC.awn_s; · (intro H1 hPsi; (try dsimp only at hPsi); (try (obtain ⟨hPsi, hPsi2⟩ := hPsi)); exact s_callc auto_wl (bad_calls _ oR _ _ auto_heap))); (apply DC.awn_s; · (intro H1 hPsi; (try dsimp only at hPsi); (try (obtain ⟨hPsi, hPsi2⟩ := hPsi)); exact s_notb rfl)); (apply DC.awn_s; · (intro H1 hPsi; (try dsimp only at hPsi); (try (obtain ⟨hPsi, hPsi2⟩ := hPsi)); exact s_move (v := .raw _) rfl)); rotate_left) | fail)
      all_goals try (exfalso; omega)
      try rw [decide_eq_false pb]
      first
        | refine DC.awn_guard_t rfl rfl ?_
        | (refine DC.awn_guard_pt rfl rfl (fun hq => ?_) (fun hq => absurd hq (Decidable.not_not.2 (by omega))))
      (first | focus ((apply DC.awn_s; · (intro H1 hPsi; (try dsimp only at hPsi); (try (obtain ⟨hPsi, hPsi2⟩ := hPsi)); exact s_move (v := .ptr _ _) rfl)); rotate_left) | fail)
      all_goals try (exfalso; omega)
      try rw [decide_eq_false pb]
      first
        | refine DC.awn_guard_t rfl rfl ?_
        | (refine DC.awn_guard_pt rfl rfl (fun hq => ?_) (fun hq => absurd hq (Decidable.not_not.2 (by omega))))
      (first | focus ((apply DC.awn_s; · (intro H1 hPsi; (try dsimp only at hPsi); (try (obtain ⟨hPsi, hPsi2⟩ := hPsi)); exact s_callc auto_wl (left_calls _ oR _ _ auto_heap))); rotate_left) | fail)
      all_goals try (exfalso; omega)
      try rw [decide_eq_false pb]
      first
        | refine DC.awn_guard_t rfl rfl ?_
        | (refine DC.awn_guard_pt rfl rfl (fun hq => ?_) (fun hq => absurd hq (Decidable.not_not.2 (by omega))))
      (first | focus ((apply DC.awn_s; · (intro H1 hPsi; (try dsimp only at hPsi); (try (obtain ⟨hPsi, hPsi2⟩ := hPsi)); exact s_eqn rfl rfl)); (apply DC.awn_s; · (intro H1 hPsi; (try dsimp only at hPsi); (try (obtain ⟨hPsi, hPsi2⟩ := hPsi)); exact s_pick_t (v := .raw _) rfl rfl)); (apply DC.awn_s; · (intro H1 hPsi; (try dsimp only at hPsi); (try (obtain ⟨hPsi, hPsi2⟩ := hPsi)); exact s_move (v := .raw _) rfl)); rotate_left) | fail)
      all_goals try (exfalso; omega)
      try rw [decide_eq_false pb]
      first
        | refine DC.awn_guard_f rfl rfl ?_
        | refine DC.awn_guard_undef rfl rfl ?_
        | (refine DC.awn_guard_pt rfl rfl (fun hq => absurd hq (by omega)) (fun hq => ?_))
      first
        | refine DC.awn_guard_f rfl rfl ?_
        | refine DC.awn_guard_undef rfl rfl ?_
        | (refine DC.awn_guard_pt rfl rfl (fun hq => absurd hq (by omega)) (fun hq => ?_))
      first
        | refine DC.awn_guard_f rfl rfl ?_
        | refine DC.awn_guard_undef rfl rfl ?_
        | (refine DC.awn_guard_pt rfl rfl (fun hq => absurd hq (by omega)) (fun hq => ?_))
      (first | focus ((apply DC.awn_s; · (intro H1 hPsi; (try dsimp only at hPsi); (try (obtain ⟨hPsi, hPsi2⟩ := hPsi)); exact s_pick_f (v := .raw _) rfl rfl)); (apply DC.awn_s; · (intro H1 hPsi; (try dsimp only at hPsi); (try (obtain ⟨hPsi, hPsi2⟩ := hPsi)); exact s_move (v := .raw _) rfl)); rotate_left) | fail)
      all_goals try (exfalso; omega)
      try rw [decide_eq_false pb]
      first
        | refine DC.awn_guard_f rfl rfl ?_
        | refine DC.awn_guard_undef rfl rfl ?_
        | (refine DC.awn_guard_pt rfl rfl (fun hq => absurd hq (by omega)) (fun hq => ?_))
      first
        | refine DC.awn_guard_f rfl rfl ?_
        | refine DC.awn_guard_undef rfl rfl ?_
        | (refine DC.awn_guard_pt rfl rfl (fun hq => absurd hq (by omega)) (fun hq => ?_))
      first
        | refine DC.awn_guard_f rfl rfl ?_
        | refine DC.awn_guard_undef rfl rfl ?_
        | (refine DC.awn_guard_pt rfl rfl (fun hq => absurd hq (by omega)) (fun hq => ?_))
      first
        | refine DC.awn_guard_f rfl rfl ?_
        | refine DC.awn_guard_undef rfl rfl ?_
        | (refine DC.awn_guard_pt rfl rfl (fun hq => absurd hq (by omega)) (fun hq => ?_))
      first
        | refine DC.awn_guard_f rfl rfl ?_
        | refine DC.awn_guard_undef rfl rfl ?_
        | (refine DC.awn_guard_pt rfl rfl (fun hq => absurd hq (by omega)) (fun hq => ?_))
      (first | focus ((apply DC.awn_s; · (intro H1 hPsi; (try dsimp only at hPsi); (try (obtain ⟨hPsi, hPsi2⟩ := hPsi)); exact s_pick_f (v := .raw _) rfl rfl)); (apply DC.awn_s; · (intro H1 hPsi; (try dsimp only at hPsi); (try (obtain ⟨hPsi, hPsi2⟩ := hPsi)); exact s_move (v := .raw _) rfl)); rotate_left) | fail)
      all_goals try (exfalso; omega)
      try rw [decide_eq_false pb]
      first
        | refine DC.awn_guard_f rfl rfl ?_
        | refine DC.awn_guard_undef rfl rfl ?_
        | (refine DC.awn_guard_pt rfl rfl (fun hq => absurd hq (by omega)) (fun hq => ?_))
      first
        | refine DC.awn_guard_f rfl rfl ?_
        | refine DC.awn_guard_undef rfl rfl ?_
        | (refine DC.awn_guard_pt rfl rfl (fun hq => absurd hq (by omega)) (fun hq => ?_))
      first
        | refine DC.awn_guard_f rfl rfl ?_
        | refine DC.awn_guard_undef rfl rfl ?_
        | (refine DC.awn_guard_pt rfl rfl (fun hq => absurd hq (by omega)) (fun hq => ?_))
      (first | focus ((apply DC.awn_s; · (intro H1 hPsi; (try dsimp only at hPsi); (try (obtain ⟨hPsi, hPsi2⟩ := hPsi)); exact s_pick_f (v := .raw _) rfl rfl)); refine DC.awn_b0 ?_; (apply DC.awn_s; · (intro H1 hPsi; (try dsimp only at hPsi); (try (obtain ⟨hPsi, hPsi2⟩ := hPsi)); exact s_assign (v := .raw _) rfl)); refine DC.awn_nil ?_; refine DC.awc_cons0 (fun Rx K1 hK1x => ?_); refine yy89 ?_; refine yy7 ?_; (refine hK1x _ (by first | exact Or.inl (by decide +kernel) | (refine Or.inr ?_; (try dsimp only); first | exact ⟨auto_heap, auto_heap⟩)) ?_; clear hK1x K1 Rx); refine DC.awc_nil ?_; refine yy47 ?_; refine aw_ret ?_; rotate_left) | fail)
      all_goals try (exfalso; omega)
      try rw [decide_eq_false pb]
      exact ⟨.inl rfl, _, _, _, Ent.cellRet (H0 := H) 4 (rdC ⟨u3, u4, u5, u6, l⟩) rfl auto_heap (by ((repeat' (first | exact WC.nil | apply WC.cons)); all_goals (first | exact W.of rfl | exact W.int rfl | exact W.nilb rfl | exact W.empb rfl | exact W.bysx rfl | exact W.nils rfl | exact W.emps rfl | exact W.slsx rfl))) (fun p y hp => ⟨hfq p y hp, AHeap.get_skip (hfq p y hp) (q9' p y hp)⟩), ret_2 rfl (rv1_agg (m := 5) rfl rfl rfl (by decide)) (rv1_tmp rfl), ⟨⟨u3, u4, u5, u6, l⟩, rfl, fun hp => absurd hp hno⟩, rfl⟩
    by_cases pc : u4 ≤ 1099511627776
    rotate_left
    · have hno : ¬ parOk c.me c.n b := fun hp => pc (hP2.out.1 hp).2.2.1
      rw [decide_eq_false hno]
      (first | focus (refine yy10 ?_; refine yy28 ?_; intro hc; rotate_left) | fail)
      all_goals try (exfalso; omega)
      refine aw_seq ?_
      refine DC.aw_drawpx [60, 61, 51] (fun H' => H' oX = some (.cel [uI u3, uI u4, uI u5, uI u6, lsE l]) ∧ H' oR = some (.cel [.bys b', .raw (.bool false)])) ⟨q6', q7'⟩ auto_kr auto_dk auto_dk ?_
      (first | focus ((apply DC.awn_s; · (intro H1 hPsi; (try dsimp only at hPsi); (try (obtain ⟨hPsi, hPsi2⟩ := hPsi)); exact s_load_agg rfl auto_heap rfl rfl (by first | decide | exact Nat.le_of_ble_eq_true rfl))); (apply DC.awn_s; · (intro H1 hPsi; (try dsimp only at hPsi); (try (obtain ⟨hPsi, hPsi2⟩ := hPsi)); exact s_move (v := .ptr _ _) rfl)); (apply DC.awn_s; · (intro H1 hPsi; (try dsimp only at hPsi); (try (obtain ⟨hPsi, hPsi2⟩ := hPsi)); exact s_callc auto_wl (bad_calls _ oR _ _ auto_heap))); (apply DC.awn_s; · (intro H1 hPsi; (try dsimp only at hPsi); (try (obtain ⟨hPsi, hPsi2⟩ := hPsi)); exact s_notb rfl)); (apply DC.awn_s; · (intro H1 hPsi; (try dsimp only at hPsi); (try (obtain ⟨hPsi, hPsi2⟩ := hPsi)); exact s_move (v := .raw _) rfl)); rotate_left) | fail)
      all_goals try (exfalso; omega)
      try rw [decide_eq_true pb]
      try rw [decide_eq_false pc]
      first
        | refine DC.awn_guard_t rfl rfl ?_
        | (refine DC.awn_guard_pt rfl rfl (fun hq => ?_) (fun hq => absurd hq (Decidable.not_not.2 (by omega))))
      (first | focus ((apply DC.awn_s; · (intro H1 hPsi; (try dsimp only at hPsi); (try (obtain ⟨hPsi, hPsi2⟩ := hPsi)); exact s_move (v := .ptr _ _) rfl)); rotate_left) | fail)
      all_goals try (exfalso; omega)
      try rw [decide_eq_true pb]
      try rw [decide_eq_false pc]
      first
        | refine DC.awn_guard_t rfl rfl ?_
        | (refine DC.awn_guard_pt rfl rfl (fun hq => ?_) (fun hq => absurd hq (Decidable.not_not.2 (by omega))))
      (first | focus ((apply DC.awn_s; · (intro H1 hPsi; (try dsimp only at hPsi); (try (obtain ⟨hPsi, hPsi2⟩ := hPsi)); exact s_callc auto_wl (left_calls _ oR _ _ auto_heap))); rotate_left) | fail)
      all_goals try (exfalso; omega)
      try rw [decide_eq_true pb]
      try rw [decide_eq_false pc]
      first
        | refine DC.awn_guard_t rfl rfl ?_
        | (refine DC.awn_guard_pt rfl rfl (fun hq => ?_) (fun hq => absurd hq (Decidable.not_not.2 (by omega))))
      (first | focus ((apply DC.awn_s; · (intro H1 hPsi; (try dsimp only at hPsi); (try (obtain ⟨hPsi, hPsi2⟩ := hPsi)); exact s_eqn rfl rfl)); (apply DC.awn_s; · (intro H1 hPsi; (try dsimp only at hPsi); (try (obtain ⟨hPsi, hPsi2⟩ := hPsi)); exact s_pick_t (v := .raw _) rfl rfl)); (apply DC.awn_s; · (intro H1 hPsi; (try dsimp only at hPsi); (try (obtain ⟨hPsi, hPsi2⟩ := hPsi)); exact s_move (v := .raw _) rfl)); rotate_left) | fail)
      all_goals try (exfalso; omega)
      try rw [decide_eq_true pb]
      try rw [decide_eq_false pc]
      first
        | refine DC.awn_guard_t rfl rfl ?_
        | (refine DC.awn_guard_pt rfl rfl (fun hq => ?_) (fun hq => absurd hq (Decidable.not_not.2 (by omega))))
      (first | focus ((apply DC.awn_s; · (intro H1 hPsi; (try dsimp only at hPsi); (try (obtain ⟨hPsi, hPsi2⟩ := hPsi)); exact s_fieldAddr_ptr rfl)); rotate_left) | fail)
      all_goals try (exfalso; omega)
      try rw [decide_eq_true pb]
      try rw [decide_eq_false pc]
      first
        | refine DC.awn_guard_t rfl rfl ?_
        | (refine DC.awn_guard_pt rfl rfl (fun hq => ?_) (fun hq => absurd hq (Decidable.not_not.2 (by omega))))
      (first | focus ((apply DC.awn_s; · (intro H1 hPsi; (try dsimp only at hPsi); (try (obtain ⟨hPsi, hPsi2⟩ := hPsi)); exact s_load_cel rfl auto_heap rfl)); rotate_left) | fail)
      all_goals try (exfalso; omega)
      try rw [decide_eq_true pb]
      try rw [decide_eq_false pc]
      first
        | refine DC.awn_guard_t rfl rfl ?_
        | (refine DC.awn_guard_pt rfl rfl (fun hq => ?_) (fun hq => absurd hq (Decidable.not_not.2 (by omega))))
      (first | focus ((apply DC.awn_s; · (intro H1 hPsi; (try dsimp only at hPsi); (try (obtain ⟨hPsi, hPsi2⟩ := hPsi)); exact s_len_ rfl rfl)); (apply DC.awn_s; · (intro H1 hPsi; (try dsimp only at hPsi); (try (obtain ⟨hPsi, hPsi2⟩ := hPsi)); exact s_pick_t (v := .raw _) rfl rfl)); (apply DC.awn_s; · (intro H1 hPsi; (try dsimp only at hPsi); (try (obtain ⟨hPsi, hPsi2⟩ := hPsi)); exact s_move (v := .raw _) rfl)); rotate_left) | fail)
      all_goals try (exfalso; omega)
      try rw [decide_eq_true pb]
      try rw [decide_eq_false pc]
      first
        | refine DC.awn_guard_f rfl rfl ?_
        | refine DC.awn_guard_undef rfl rfl ?_
        | (refine DC.awn_guard_pt rfl rfl (fun hq => absurd hq (by omega)) (fun hq => ?_))
      first
        | refine DC.awn_guard_f rfl rfl ?_
        | refine DC.awn_guard_undef rfl rfl ?_
        | (refine DC.awn_guard_pt rfl rfl (fun hq => absurd hq (by omega)) (fun hq => ?_))
      first
        | refine DC.awn_guard_f rfl rfl ?_
        | refine DC.awn_guard_undef rfl rfl ?_
        | (refine DC.awn_guard_pt rfl rfl (fun hq => absurd hq (by omega)) (fun hq => ?_))
      first
        | refine DC.awn_guard_f rfl rfl ?_
        | refine DC.awn_guard_undef rfl rfl ?_
        | (refine DC.awn_guard_pt rfl rfl (fun hq => absurd hq (by omega)) (fun hq => ?_))
      first
        | refine DC.awn_guard_f rfl rfl ?_
        | refine DC.awn_guard_undef rfl rfl ?_
        | (refine DC.awn_guard_pt rfl rfl (fun hq => absurd hq (by omega)) (fun hq => ?_))
      (first | focus ((apply DC.awn_s; · (intro H1 hPsi; (try dsimp only at hPsi); (try (obtain ⟨hPsi, hPsi2⟩ := hPsi)); exact s_pick_f (v := .raw _) rfl rfl)); (apply DC.awn_s; · (intro H1 hPsi; (try dsimp only at hPsi); (try (obtain ⟨hPsi, hPsi2⟩ := hPsi)); exact s_move (v := .raw _) rfl)); rotate_left) | fail)
      all_goals try (exfalso; omega)
      try rw [decide_eq_true pb]
      try rw [decide_eq_false pc]
      first
        | refine DC.awn_guard_f rfl rfl ?_
        | refine DC.awn_guard_undef rfl rfl ?_
        | (refine DC.awn_guard_pt rfl rfl (fun hq => absurd hq (by omega)) (fun hq => ?_))
      first
        | refine DC.awn_guard_f rfl rfl ?_
        | refine DC.awn_guard_undef rfl rfl ?_
        | (refine DC.awn_guard_pt rfl rfl (fun hq => absurd hq (by omega)) (fun hq => ?_))
      first
        | refine DC.awn_guard_f rfl rfl ?_
        | refine DC.awn_guard_undef rfl rfl ?_
        | (refine DC.awn_guard_pt rfl rfl (fun hq => absurd hq (by omega)) (fun hq => ?_))
      (first | focus ((apply DC.awn_s; · (intro H1 hPsi; (try dsimp only at hPsi); (try (obtain ⟨hPsi, hPsi2⟩ := hPsi)); exact s_pick_f (v := .raw _) rfl rfl)); refine DC.awn_b0 ?_; (apply DC.awn_s; · (intro H1 hPsi; (try dsimp only at hPsi); (try (obtain ⟨hPsi, hPsi2⟩ := hPsi)); exact s_assign (v := .raw _) rfl)); refine DC.awn_nil ?_; refine DC.awc_cons0 (fun Rx K1 hK1x => ?_); refine yy89 ?_; refine yy7 ?_; (refine hK1x _ (by first | exact Or.inl (by decide +kernel) | (refine Or.inr ?_; (try dsimp only); first | exact ⟨auto_heap, auto_heap⟩)) ?_; clear hK1x K1 Rx); refine DC.awc_nil ?_; refine yy47 ?_; refine aw_ret ?_; rotate_left) | fail)
      all_goals try (exfalso; omega)
      try rw [decide_eq_true pb]
      try rw [decide_eq_false pc]
      exact ⟨.inl rfl, _, _, _, Ent.cellRet (H0 := H) 4 (rdC ⟨u3, u4, u5, u6, l⟩) rfl auto_heap (by ((repeat' (first | exact WC.nil | apply WC.cons)); all_goals (first | exact W.of rfl | exact W.int rfl | exact W.nilb rfl | exact W.empb rfl | exact W.bysx rfl | exact W.nils rfl | exact W.emps rfl | exact W.slsx rfl))) (fun p y hp => ⟨hfq p y hp, AHeap.get_skip (hfq p y hp) (q9' p y hp)⟩), ret_2 rfl (rv1_agg (m := 5) rfl rfl rfl (by decide)) (rv1_tmp rfl), ⟨⟨u3, u4, u5, u6, l⟩, rfl, fun hp => absurd hp hno⟩, rfl⟩
    by_cases pd : u5 ≤ u4
    rotate_left
    · have hno : ¬ parOk c.me c.n b := fun hp => pd (hP2.out.1 hp).2.2.2.1
      rw [decide_eq_false hno]
      (first | focus (refine yy10 ?_; refine yy28 ?_; intro hc; rotate_left) | fail)
      all_goals try (exfalso; omega)
      refine aw_seq ?_
      refine DC.aw_drawpx [60, 61, 51] (fun H' => H' oX = some (.cel [uI u3, uI u4, uI u5, uI u6, lsE l]) ∧ H' oR = some (.cel [.bys b', .raw (.bool false)])) ⟨q6', q7'⟩ auto_kr auto_dk auto_dk ?_
      (first | focus ((apply DC.awn_s; · (intro H1 hPsi; (try dsimp only at hPsi); (try (obtain ⟨hPsi, hPsi2⟩ := hPsi)); exact s_load_agg rfl auto_heap rfl rfl (by first | decide | exact Nat.le_of_ble_eq_true rfl))); (apply DC.awn_s; · (intro H1 hPsi; (try dsimp only at hPsi); (try (obtain ⟨hPsi, hPsi2⟩ := hPsi)); exact s_move (v := .ptr _ _) rfl)); (apply DC.awn_s; · (intro H1 hPsi; (try dsimp only at hPsi); (try (obtain ⟨hPsi, hPsi2⟩ := hPsi)); exact s_callc auto_wl (bad_calls _ oR _ _ auto_heap))); (apply DC.awn_s; · (intro H1 hPsi; (try dsimp only at hPsi); (try (obtain ⟨hPsi, hPsi2⟩ := hPsi)); exact s_notb rfl)); (apply DC.awn_s; · (intro H1 hPsi; (try dsimp only at hPsi); (try (obtain ⟨hPsi, hPsi2⟩ := hPsi)); exact s_move (v := .raw _) rfl)); rotate_left) | fail)
      all_goals try (exfalso; omega)
      try rw [decide_eq_true pb]
      try rw [decide_eq_true pc]
      try rw [decide_eq_false pd]
      first
        | refine DC.awn_guard_t rfl rfl ?_
        | (refine DC.awn_guard_pt rfl rfl (fun hq => ?_) (fun hq => absurd hq (Decidable.not_not.2 (by omega))))
      (first | focus ((apply DC.awn_s; · (intro H1 hPsi; (try dsimp only at hPsi); (try (obtain ⟨hPsi, hPsi2⟩ := hPsi)); exact s_move (v := .ptr _ _) rfl)); rotate_left) | fail)
      all_goals try (exfalso; omega)
      try rw [decide_eq_true pb]
      try rw [decide_eq_true pc]
      try rw [decide_eq_false pd]
      first
        | refine DC.awn_guard_t rfl rfl ?_
        | (refine DC.awn_guard_pt rfl rfl (fun hq => ?_) (fun hq => absurd hq (Decidable.not_not.2 (by omega))))
      (first | focus ((apply DC.awn_s; · (intro H1 hPsi; (try dsimp only at hPsi); (try (obtain ⟨hPsi, hPsi2⟩ := hPsi)); exact s_callc auto_wl (left_calls _ oR _ _ auto_heap))); rotate_left) | fail)
      all_goals try (exfalso; omega)
      try rw [decide_eq_true pb]
      try rw [decide_eq_true pc]
      try rw [decide_eq_false pd]
      first
        | refine DC.awn_guard_t rfl rfl ?_
        | (refine DC.awn_guard_pt rfl rfl (fun hq => ?_) (fun hq => absurd hq (Decidable.not_not.2 (by omega))))
      (first | focus ((apply DC.awn_s; · (intro H1 hPsi; (try dsimp only at hPsi); (try (obtain ⟨hPsi, hPsi2⟩ := hPsi)); exact s_eqn rfl rfl)); (apply DC.awn_s; · (intro H1 hPsi; (try dsimp only at hPsi); (try (obtain ⟨hPsi, hPsi2⟩ := hPsi)); exact s_pick_t (v := .raw _) rfl rfl)); (apply DC.awn_s; · (intro H1 hPsi; (try dsimp only at hPsi); (try (obtain ⟨hPsi, hPsi2⟩ := hPsi)); exact s_move (v := .raw _) rfl)); rotate_left) | fail)
      all_goals try (exfalso; omega)
      try rw [decide_eq_true pb]
      try rw [decide_eq_true pc]
      try rw [decide_eq_false pd]
      first
        | refine DC.awn_guard_t rfl rfl ?_
        | (refine DC.awn_guard_pt rfl rfl (fun hq => ?_) (fun hq => absurd hq (Decidable.not_not.2 (by omega))))
      (first | focus ((apply DC.awn_s; · (intro H1 hPsi; (try dsimp only at hPsi); (try (obtain ⟨hPsi, hPsi2⟩ := hPsi)); exact s_fieldAddr_ptr rfl)); rotate_left) | fail)
      all_goals try (exfalso; omega)
      try rw [decide_eq_true pb]
      try rw [decide_eq_true pc]
      try rw [decide_eq_false pd]
      first
        | refine DC.awn_guard_t rfl rfl ?_
        | (refine DC.awn_guard_pt rfl rfl (fun hq => ?_) (fun hq => absurd hq (Decidable.not_not.2 (by omega))))
      (first | focus ((apply DC.awn_s; · (intro H1 hPsi; (try dsimp only at hPsi); (try (obtain ⟨hPsi, hPsi2⟩ := hPsi)); exact s_load_cel rfl auto_heap rfl)); rotate_left) | fail)
      all_goals try (exfalso; omega)
      try rw [decide_eq_true pb]
      try rw [decide_eq_true pc]
      try rw [decide_eq_false pd]
      first
        | refine DC.awn_guard_t rfl rfl ?_
        | (refine DC.awn_guard_pt rfl rfl (fun hq => ?_) (fun hq => absurd hq (Decidable.not_not.2 (by omega))))
      (first | focus ((apply DC.awn_s; · (intro H1 hPsi; (try dsimp only at hPsi); (try (obtain ⟨hPsi, hPsi2⟩ := hPsi)); exact s_len_ rfl rfl)); (apply DC.awn_s; · (intro H1 hPsi; (try dsimp only at hPsi); (try (obtain ⟨hPsi, hPsi2⟩ := hPsi)); exact s_pick_t (v := .raw _) rfl rfl)); (apply DC.awn_s; · (intro H1 hPsi; (try dsimp only at hPsi); (try (obtain ⟨hPsi, hPsi2⟩ := hPsi)); exact s_move (v := .raw _) rfl)); rotate_left) | fail)
      all_goals try (exfalso; omega)
      try rw [decide_eq_true pb]
      try rw [decide_eq_true pc]
      try rw [decide_eq_false pd]
      first
        | refine DC.awn_guard_t rfl rfl ?_
        | (refine DC.awn_guard_pt rfl rfl (fun hq => ?_) (fun hq => absurd hq (Decidable.not_not.2 (by omega))))
      (first | focus ((apply DC.awn_s; · (intro H1 hPsi; (try dsimp only at hPsi); (try (obtain ⟨hPsi, hPsi2⟩ := hPsi)); exact s_fieldAddr_ptr rfl)); rotate_left) | fail)
      all_goals try (exfalso; omega)
      try rw [decide_eq_true pb]
      try rw [decide_eq_true pc]
      try rw [decide_eq_false pd]
      first
        | refine DC.awn_guard_t rfl rfl ?_
        | (refine DC.awn_guard_pt rfl rfl (fun hq => ?_) (fun hq => absurd hq (Decidable.not_not.2 (by omega))))
      (first | focus ((apply DC.awn_s; · (intro H1 hPsi; (try dsimp only at hPsi); (try (obtain ⟨hPsi, hPsi2⟩ := hPsi)); exact s_load_cel rfl auto_heap rfl)); rotate_left) | fail)
      all_goals try (exfalso; omega)
      try rw [decide_eq_true pb]
      try rw [decide_eq_true pc]
      try rw [decide_eq_false pd]
      first
        | refine DC.awn_guard_t rfl rfl ?_
        | (refine DC.awn_guard_pt rfl rfl (fun hq => ?_) (fun hq => absurd hq (Decidable.not_not.2 (by omega))))
      (first | focus ((apply DC.awn_s; · (intro H1 hPsi; (try dsimp only at hPsi); (try (obtain ⟨hPsi, hPsi2⟩ := hPsi)); exact s_fieldAddr_ptr rfl)); rotate_left) | fail)
      all_goals try (exfalso; omega)
      try rw [decide_eq_true pb]
      try rw [decide_eq_true pc]
      try rw [decide_eq_false pd]
      first
        | refine DC.awn_guard_t rfl rfl ?_
        | (refine DC.awn_guard_pt rfl rfl (fun hq => ?_) (fun hq => absurd hq (Decidable.not_not.2 (by omega))))
      (first | focus ((apply DC.awn_s; · (intro H1 hPsi; (try dsimp only at hPsi); (try (obtain ⟨hPsi, hPsi2⟩ := hPsi)); exact s_load_cel rfl auto_heap rfl)); rotate_left) | fail)
      all_goals try (exfalso; omega)
      try rw [decide_eq_true pb]
      try rw [decide_eq_true pc]
      try rw [decide_eq_false pd]
      first
        | refine DC.awn_guard_t rfl rfl ?_
        | (refine DC.awn_guard_pt rfl rfl (fun hq => ?_) (fun hq => absurd hq (Decidable.not_not.2 (by omega))))
      (first | focus ((apply DC.awn_s; · (intro H1 hPsi; (try dsimp only at hPsi); (try (obtain ⟨hPsi, hPsi2⟩ := hPsi)); exact s_len_ rfl rfl)); (apply DC.awn_s; · (intro H1 hPsi; (try dsimp only at hPsi); (try (obtain ⟨hPsi, hPsi2⟩ := hPsi)); exact s_pick_t (v := .raw _) rfl rfl)); (apply DC.awn_s; · (intro H1 hPsi; (try dsimp only at hPsi); (try (obtain ⟨hPsi, hPsi2⟩ := hPsi)); exact s_move (v := .raw _) rfl)); rotate_left) | fail)
      all_goals try (exfalso; omega)
      try rw [decide_eq_true pb]
      try rw [decide_eq_true pc]
      try rw [decide_eq_false pd]
      first
        | refine DC.awn_guard_f rfl rfl ?_
        | refine DC.awn_guard_undef rfl rfl ?_
        | (refine DC.awn_guard_pt rfl rfl (fun hq => absurd hq (by omega)) (fun hq => ?_))
      first
        | refine DC.awn_guard_f rfl rfl ?_
        | refine DC.awn_guard_undef rfl rfl ?_
        | (refine DC.awn_guard_pt rfl rfl (fun hq => absurd hq (by omega)) (fun hq => ?_))
      first
        | refine DC.awn_guard_f rfl rfl ?_
        | refine DC.awn_guard_undef rfl rfl ?_
        | (refine DC.awn_guard_pt rfl rfl (fun hq => absurd hq (by omega)) (fun hq => ?_))
      (first | focus ((apply DC.awn_s; · (intro H1 hPsi; (try dsimp only at hPsi); (try (obtain ⟨hPsi, hPsi2⟩ := hPsi)); exact s_pick_f (v := .raw _) rfl rfl)); refine DC.awn_b0 ?_; (apply DC.awn_s; · (intro H1 hPsi; (try dsimp only at hPsi); (try (obtain ⟨hPsi, hPsi2⟩ := hPsi)); exact s_assign (v := .raw _) rfl)); refine DC.awn_nil ?_; refine DC.awc_cons0 (fun Rx K1 hK1x => ?_); refine yy89 ?_; refine yy7 ?_; (refine hK1x _ (by first | exact Or.inl (by decide +kernel) | (refine Or.inr ?_; (try dsimp only); first | exact ⟨auto_heap, auto_heap⟩)) ?_; clear hK1x K1 Rx); refine DC.awc_nil ?_; refine yy47 ?_; refine aw_ret ?_; rotate_left) | fail)
      all_goals try (exfalso; omega)
      try rw [decide_eq_true pb]
      try rw [decide_eq_true pc]
      try rw [decide_eq_false pd]
      exact ⟨.inl rfl, _, _, _, Ent.cellRet (H0 := H) 4 (rdC ⟨u3, u4, u5, u6, l⟩) rfl auto_heap (by ((repeat' (first | exact WC.nil | apply WC.cons)); all_goals (first | exact W.of rfl | exact W.int rfl | exact W.nilb rfl | exact W.empb rfl | exact W.bysx rfl | exact W.nils rfl | exact W.emps rfl | exact W.slsx rfl))) (fun p y hp => ⟨hfq p y hp, AHeap.get_skip (hfq p y hp) (q9' p y hp)⟩), ret_2 rfl (rv1_agg (m := 5) rfl rfl rfl (by decide)) (rv1_tmp rfl), ⟨⟨u3, u4, u5, u6, l⟩, rfl, fun hp => absurd hp hno⟩, rfl⟩
    cases pe : Ag.listed l with
    | false =>
      have hno : ¬ parOk c.me c.n b := fun hp => by have := (hP2.out.1 hp).2.2.2.2; rw [pe] at this; cases this
      rw [decide_eq_false hno]
      rw [pe] at hLi
      (first | focus (refine yy10 ?_; refine yy28 ?_; intro hc; rotate_left) | fail)
      all_goals try (exfalso; omega)
      refine aw_seq ?_
      refine DC.aw_drawpx [60, 61, 51] (fun H' => H' oX = some (.cel [uI u3, uI u4, uI u5, uI u6, lsE l]) ∧ H' oR = some (.cel [.bys b', .raw (.bool false)])) ⟨q6', q7'⟩ auto_kr auto_dk auto_dk ?_
      (first | focus ((apply DC.awn_s; · (intro H1 hPsi; (try dsimp only at hPsi); (try (obtain ⟨hPsi, hPsi2⟩ := hPsi)); exact s_load_agg rfl auto_heap rfl rfl (by first | decide | exact Nat.le_of_ble_eq_true rfl))); (apply DC.awn_s; · (intro H1 hPsi; (try dsimp only at hPsi); (try (obtain ⟨hPsi, hPsi2⟩ := hPsi)); exact s_move (v := .ptr _ _) rfl)); (apply DC.awn_s; · (intro H1 hPsi; (try dsimp only at hPsi); (try (obtain ⟨hPsi, hPsi2⟩ := hPsi)); exact s_callc auto_wl (bad_calls _ oR _ _ auto_heap))); (apply DC.awn_s; · (intro H1 hPsi; (try dsimp only at hPsi); (try (obtain ⟨hPsi, hPsi2⟩ := hPsi)); exact s_notb rfl)); (apply DC.awn_s; · (intro H1 hPsi; (try dsimp only at hPsi); (try (obtain ⟨hPsi, hPsi2⟩ := hPsi)); exact s_move (v := .raw _) rfl)); rotate_left) | fail)
      all_goals try (exfalso; omega)
      try rw [decide_eq_true pb]
      try rw [decide_eq_true pc]
      try rw [decide_eq_true pd]
      first
        | refine DC.awn_guard_t rfl rfl ?_
        | (refine DC.awn_guard_pt rfl rfl (fun hq => ?_) (fun hq => absurd hq (Decidable.not_not.2 (by omega))))
      (first | focus ((apply DC.awn_s; · (intro H1 hPsi; (try dsimp only at hPsi); (try (obtain ⟨hPsi, hPsi2⟩ := hPsi)); exact s_move (v := .ptr _ _) rfl)); rotate_left) | fail)
      all_goals try (exfalso; omega)
      try rw [decide_eq_true pb]
      try rw [decide_eq_true pc]
      try rw [decide_eq_true pd]
      first
        | refine DC.awn_guard_t rfl rfl ?_
        | (refine DC.awn_guard_pt rfl rfl (fun hq => ?_) (fun hq => absurd hq (Decidable.not_not.2 (by omega))))
      (first | focus ((apply DC.awn_s; · (intro H1 hPsi; (try dsimp only at hPsi); (try (obtain ⟨hPsi, hPsi2⟩ := hPsi)); exact s_callc auto_wl (left_calls _ oR _ _ auto_heap))); rotate_left) | fail)
      all_goals try (exfalso; omega)
      try rw [decide_eq_true pb]
      try rw [decide_eq_true pc]
      try rw [decide_eq_true pd]
      first
        | refine DC.awn_guard_t rfl rfl ?_
        | (refine DC.awn_guard_pt rfl rfl (fun hq => ?_) (fun hq => absurd hq (Decidable.not_not.2 (by omega))))
      (first | focus ((apply DC.awn_s; · (intro H1 hPsi; (try dsimp only at hPsi); (try (obtain ⟨hPsi, hPsi2⟩ := hPsi)); exact s_eqn rfl rfl)); (apply DC.awn_s; · (intro H1 hPsi; (try dsimp only at hPsi); (try (obtain ⟨hPsi, hPsi2⟩ := hPsi)); exact s_pick_t (v := .raw _) rfl rfl)); (apply DC.awn_s; · (intro H1 hPsi; (try dsimp only at hPsi); (try (obtain ⟨hPsi, hPsi2⟩ := hPsi)); exact s_move (v := .raw _) rfl)); rotate_left) | fail)
      all_goals try (exfalso; omega)
      try rw [decide_eq_true pb]
      try rw [decide_eq_true pc]
      try rw [decide_eq_true pd]
      first
        | refine DC.awn_guard_t rfl rfl ?_
        | (refine DC.awn_guard_pt rfl rfl (fun hq => ?_) (fun hq => absurd hq (Decidable.not_not.2 (by omega))))
      (first | focus ((apply DC.awn_s; · (intro H1 hPsi; (try dsimp only at hPsi); (try (obtain ⟨hPsi, hPsi2⟩ := hPsi)); exact s_fieldAddr_ptr rfl)); rotate_left) | fail)
      all_goals try (exfalso; omega)
      try rw [decide_eq_true pb]
      try rw [decide_eq_true pc]
      try rw [decide_eq_true pd]
      first
        | refine DC.awn_guard_t rfl rfl ?_
        | (refine DC.awn_guard_pt rfl rfl (fun hq => ?_) (fun hq => absurd hq (Decidable.not_not.2 (by omega))))
      (first | focus ((apply DC.awn_s; · (intro H1 hPsi; (try dsimp only at hPsi); (try (obtain ⟨hPsi, hPsi2⟩ := hPsi)); exact s_load_cel rfl auto_heap rfl)); rotate_left) | fail)
      all_goals try (exfalso; omega)
      try rw [decide_eq_true pb]
      try rw [decide_eq_true pc]
      try rw [decide_eq_true pd]
      first
        | refine DC.awn_guard_t rfl rfl ?_
        | (refine DC.awn_guard_pt rfl rfl (fun hq => ?_) (fun hq => absurd hq (Decidable.not_not.2 (by omega))))
      (first | focus ((apply DC.awn_s; · (intro H1 hPsi; (try dsimp only at hPsi); (try (obtain ⟨hPsi, hPsi2⟩ := hPsi)); exact s_len_ rfl rfl)); (apply DC.awn_s; · (intro H1 hPsi; (try dsimp only at hPsi); (try (obtain ⟨hPsi, hPsi2⟩ := hPsi)); exact s_pick_t (v := .raw _) rfl rfl)); (apply DC.awn_s; · (intro H1 hPsi; (try dsimp only at hPsi); (try (obtain ⟨hPsi, hPsi2⟩ := hPsi)); exact s_move (v := .raw _) rfl)); rotate_left) | fail)
      all_goals try (exfalso; omega)
      try rw [decide_eq_true pb]
      try rw [decide_eq_true pc]
      try rw [decide_eq_true pd]
      first
        | refine DC.awn_guard_t rfl rfl ?_
        | (refine DC.awn_guard_pt rfl rfl (fun hq => ?_) (fun hq => absurd hq (Decidable.not_not.2 (by omega))))
      (first | focus ((apply DC.awn_s; · (intro H1 hPsi; (try dsimp only at hPsi); (try (obtain ⟨hPsi, hPsi2⟩ := hPsi)); exact s_fieldAddr_ptr rfl)); rotate_left) | fail)
      all_goals try (exfalso; omega)
      try rw [decide_eq_true pb]
      try rw [decide_eq_true pc]
      try rw [decide_eq_true pd]
      first
        | refine DC.awn_guard_t rfl rfl ?_
        | (refine DC.awn_guard_pt rfl rfl (fun hq => ?_) (fun hq => absurd hq (Decidable.not_not.2 (by omega))))
      (first | focus ((apply DC.awn_s; · (intro H1 hPsi; (try dsimp only at hPsi); (try (obtain ⟨hPsi, hPsi2⟩ := hPsi)); exact s_load_cel rfl auto_heap rfl)); rotate_left) | fail)
      all_goals try (exfalso; omega)
      try rw [decide_eq_true pb]
      try rw [decide_eq_true pc]
      try rw [decide_eq_true pd]
      first
        | refine DC.awn_guard_t rfl rfl ?_
        | (refine DC.awn_guard_pt rfl rfl (fun hq => ?_) (fun hq => absurd hq (Decidable.not_not.2 (by omega))))
      (first | focus ((apply DC.awn_s; · (intro H1 hPsi; (try dsimp only at hPsi); (try (obtain ⟨hPsi, hPsi2⟩ := hPsi)); exact s_fieldAddr_ptr rfl)); rotate_left) | fail)
      all_goals try (exfalso; omega)
      try rw [decide_eq_true pb]
      try rw [decide_eq_true pc]
      try rw [decide_eq_true pd]
      first
        | refine DC.awn_guard_t rfl rfl ?_
        | (refine DC.awn_guard_pt rfl rfl (fun hq => ?_) (fun hq => absurd hq (Decidable.not_not.2 (by omega))))
      (first | focus ((apply DC.awn_s; · (intro H1 hPsi; (try dsimp only at hPsi); (try (obtain ⟨hPsi, hPsi2⟩ := hPsi)); exact s_load_cel rfl auto_heap rfl)); rotate_left) | fail)
      all_goals try (exfalso; omega)
      try rw [decide_eq_true pb]
      try rw [decide_eq_true pc]
      try rw [decide_eq_true pd]
      first
        | refine DC.awn_guard_t rfl rfl ?_
        | (refine DC.awn_guard_pt rfl rfl (fun hq => ?_) (fun hq => absurd hq (Decidable.not_not.2 (by omega))))
      (first | focus ((apply DC.awn_s; · (intro H1 hPsi; (try dsimp only at hPsi); (try (obtain ⟨hPsi, hPsi2⟩ := hPsi)); exact s_len_ rfl rfl)); (apply DC.awn_s; · (intro H1 hPsi; (try dsimp only at hPsi); (try (obtain ⟨hPsi, hPsi2⟩ := hPsi)); exact s_pick_t (v := .raw _) rfl rfl)); (apply DC.awn_s; · (intro H1 hPsi; (try dsimp only at hPsi); (try (obtain ⟨hPsi, hPsi2⟩ := hPsi)); exact s_move (v := .raw _) rfl)); rotate_left) | fail)
      all_goals try (exfalso; omega)
      try rw [decide_eq_true pb]
      try rw [decide_eq_true pc]
      try rw [decide_eq_true pd]
      first
        | refine DC.awn_guard_t rfl rfl ?_
        | (refine DC.awn_guard_pt rfl rfl (fun hq => ?_) (fun hq => absurd hq (Decidable.not_not.2 (by omega))))
      (first | focus ((apply DC.awn_s; · (intro H1 hPsi; (try dsimp only at hPsi); (try (obtain ⟨hPsi, hPsi2⟩ := hPsi)); exact s_fieldAddr_ptr rfl)); rotate_left) | fail)
      all_goals try (exfalso; omega)
      try rw [decide_eq_true pb]
      try rw [decide_eq_true pc]
      try rw [decide_eq_true pd]
      first
        | refine DC.awn_guard_t rfl rfl ?_
        | (refine DC.awn_guard_pt rfl rfl (fun hq => ?_) (fun hq => absurd hq (Decidable.not_not.2 (by omega))))
      (first | focus ((apply DC.awn_s; · (intro H1 hPsi; (try dsimp only at hPsi); (try (obtain ⟨hPsi, hPsi2⟩ := hPsi)); exact s_load_cel rfl auto_heap rfl)); rotate_left) | fail)
      all_goals try (exfalso; omega)
      try rw [decide_eq_true pb]
      try rw [decide_eq_true pc]
      try rw [decide_eq_true pd]
      first
        | refine DC.awn_guard_t rfl rfl ?_
        | (refine DC.awn_guard_pt rfl rfl (fun hq => ?_) (fun hq => absurd hq (Decidable.not_not.2 (by omega))))
      (first | focus ((apply DC.awn_s; · (intro H1 hPsi; (try dsimp only at hPsi); (try (obtain ⟨hPsi, hPsi2⟩ := hPsi)); exact s_callc auto_wl (hLi _))); (apply DC.awn_s; · (intro H1 hPsi; (try dsimp only at hPsi); (try (obtain ⟨hPsi, hPsi2⟩ := hPsi)); exact s_pick_t (v := .raw _) rfl rfl)); refine DC.awn_b0 ?_; (apply DC.awn_s; · (intro H1 hPsi; (try dsimp only at hPsi); (try (obtain ⟨hPsi, hPsi2⟩ := hPsi)); exact s_assign (v := .raw _) rfl)); refine DC.awn_nil ?_; refine DC.awc_cons0 (fun Rx K1 hK1x => ?_); refine yy89 ?_; refine yy7 ?_; (refine hK1x _ (by first | exact Or.inl (by decide +kernel) | (refine Or.inr ?_; (try dsimp only); first | exact ⟨auto_heap, auto_heap⟩)) ?_; clear hK1x K1 Rx); refine DC.awc_nil ?_; refine yy47 ?_; refine aw_ret ?_; rotate_left) | fail)
      all_goals try (exfalso; omega)
      try rw [decide_eq_true pb]
      try rw [decide_eq_true pc]
      try rw [decide_eq_true pd]
      exact ⟨.inl rfl, _, _, _, Ent.cellRet (H0 := H) 4 (rdC ⟨u3, u4, u5, u6, l⟩) rfl auto_heap (by ((repeat' (first | exact WC.nil | apply WC.cons)); all_goals (first | exact W.of rfl | exact W.int rfl | exact W.nilb rfl | exact W.empb rfl | exact W.bysx rfl | exact W.nils rfl | exact W.emps rfl | exact W.slsx rfl))) (fun p y hp => ⟨hfq p y hp, AHeap.get_skip (hfq p y hp) (q9' p y hp)⟩), ret_2 rfl (rv1_agg (m := 5) rfl rfl rfl (by decide)) (rv1_tmp rfl), ⟨⟨u3, u4, u5, u6, l⟩, rfl, fun hp => absurd hp hno⟩, rfl⟩
    | true =>
      have hyes : parOk c.me c.n b := hP2.out.2 ⟨rfl, List.eq_nil_of_length_eq_zero pb, pc, pd, pe⟩
      rw [decide_eq_true hyes]
      rw [pe] at hLi
      (first | focus (refine yy10 ?_; refine yy28 ?_; intro hc; rotate_left) | fail)
      all_goals try (exfalso; omega)
      refine aw_seq ?_
      refine DC.aw_drawpx [60, 61, 51] (fun H' => H' oX = some (.cel [uI u3, uI u4, uI u5, uI u6, lsE l]) ∧ H' oR = some (.cel [.bys b', .raw (.bool false)])) ⟨q6', q7'⟩ auto_kr auto_dk auto_dk ?_
      (first | focus ((apply DC.awn_s; · (intro H1 hPsi; (try dsimp only at hPsi); (try (obtain ⟨hPsi, hPsi2⟩ := hPsi)); exact s_load_agg rfl auto_heap rfl rfl (by first | decide | exact Nat.le_of_ble_eq_true rfl))); (apply DC.awn_s; · (intro H1 hPsi; (try dsimp only at hPsi); (try (obtain ⟨hPsi, hPsi2⟩ := hPsi)); exact s_move (v := .ptr _ _) rfl)); (apply DC.awn_s; · (intro H1 hPsi; (try dsimp only at hPsi); (try (obtain ⟨hPsi, hPsi2⟩ := hPsi)); exact s_callc auto_wl (bad_calls _ oR _ _ auto_heap))); (apply DC.awn_s; · (intro H1 hPsi; (try dsimp only at hPsi); (try (obtain ⟨hPsi, hPsi2⟩ := hPsi)); exact s_notb rfl)); (apply DC.awn_s; · (intro H1 hPsi; (try dsimp only at hPsi); (try (obtain ⟨hPsi, hPsi2⟩ := hPsi)); exact s_move (v := .raw _) rfl)); rotate_left) | fail)
      all_goals try (exfalso; omega)
      try rw [decide_eq_true pb]
      try rw [decide_eq_true pc]
      try rw [decide_eq_true pd]
      first
        | refine DC.awn_guard_t rfl rfl ?_
        | (refine DC.awn_guard_pt rfl rfl (fun hq => ?_) (fun hq => absurd hq (Decidable.not_not.2 (by omega))))
      (first | focus ((apply DC.awn_s; · (intro H1 hPsi; (try dsimp only at hPsi); (try (obtain ⟨hPsi, hPsi2⟩ := hPsi)); exact s_move (v := .ptr _ _) rfl)); rotate_left) | fail)
      all_goals try (exfalso; omega)
      try rw [decide_eq_true pb]
      try rw [decide_eq_true pc]
      try rw [decide_eq_true pd]
      first
        | refine DC.awn_guard_t rfl rfl ?_
        | (refine DC.awn_guard_pt rfl rfl (fun hq => ?_) (fun hq => absurd hq (Decidable.not_not.2 (by omega))))
      (first | focus ((apply DC.awn_s; · (intro H1 hPsi; (try dsimp only at hPsi); (try (obtain ⟨hPsi, hPsi2⟩ := hPsi)); exact s_callc auto_wl (left_calls _ oR _ _ auto_heap))); rotate_left) | fail)
      all_goals try (exfalso; omega)
      try rw [decide_eq_true pb]
      try rw [decide_eq_true pc]
      try rw [decide_eq_true pd]
      first
        | refine DC.awn_guard_t rfl rfl ?_
        | (refine DC.awn_guard_pt rfl rfl (fun hq => ?_) (fun hq => absurd hq (Decidable.not_not.2 (by omega))))
      (first | focus ((apply DC.awn_s; · (intro H1 hPsi; (try dsimp only at hPsi); (try (obtain ⟨hPsi, hPsi2⟩ := hPsi)); exact s_eqn rfl rfl)); (apply DC.awn_s; · (intro H1 hPsi; (try dsimp only at hPsi); (try (obtain ⟨hPsi, hPsi2⟩ := hPsi)); exact s_pick_t (v := .raw _) rfl rfl)); (apply DC.awn_s; · (intro H1 hPsi; (try dsimp only at hPsi); (try (obtain ⟨hPsi, hPsi2⟩ := hPsi)); exact s_move (v := .raw _) rfl)); rotate_left) | fail)
      all_goals try (exfalso; omega)
      try rw [decide_eq_true pb]
      try rw [decide_eq_true pc]
      try rw [decide_eq_true pd]
      first
        | refine DC.awn_guard_t rfl rfl ?_
        | (refine DC.awn_guard_pt rfl rfl (fun hq => ?_) (fun hq => absurd hq (Decidable.not_not.2 (by omega))))
      (first | focus ((apply DC.awn_s; · (intro H1 hPsi; (try dsimp only at hPsi); (try (obtain ⟨hPsi, hPsi2⟩ := hPsi)); exact s_fieldAddr_ptr rfl)); rotate_left) | fail)
      all_goals try (exfalso; omega)
      try rw [decide_eq_true pb]
      try rw [decide_eq_true pc]
      try rw [decide_eq_true pd]
      first
        | refine DC.awn_guard_t rfl rfl ?_
        | (refine DC.awn_guard_pt rfl rfl (fun hq => ?_) (fun hq => absurd hq (Decidable.not_not.2 (by omega))))
      (first | focus ((apply DC.awn_s; · (intro H1 hPsi; (try dsimp only at hPsi); (try (obtain ⟨hPsi, hPsi2⟩ := hPsi)); exact s_load_cel rfl auto_heap rfl)); rotate_left) | fail)
      all_goals try (exfalso; omega)
      try rw [decide_eq_true pb]
      try rw [decide_eq_true pc]
      try rw [decide_eq_true pd]
      first
        | refine DC.awn_guard_t rfl rfl ?_
        | (refine DC.awn_guard_pt rfl rfl (fun hq => ?_) (fun hq => absurd hq (Decidable.not_not.2 (by omega))))
      (first | focus ((apply DC.awn_s; · (intro H1 hPsi; (try dsimp only at hPsi); (try (obtain ⟨hPsi, hPsi2⟩ := hPsi)); exact s_len_ rfl rfl)); (apply DC.awn_s; · (intro H1 hPsi; (try dsimp only at hPsi); (try (obtain ⟨hPsi, hPsi2⟩ := hPsi)); exact s_pick_t (v := .raw _) rfl rfl)); (apply DC.awn_s; · (intro H1 hPsi; (try dsimp only at hPsi); (try (obtain ⟨hPsi, hPsi2⟩ := hPsi)); exact s_move (v := .raw _) rfl)); rotate_left) | fail)
      all_goals try (exfalso; omega)
      try rw [decide_eq_true pb]
      try rw [decide_eq_true pc]
      try rw [decide_eq_true pd]
      first
        | refine DC.awn_guard_t rfl rfl ?_
        | (refine DC.awn_guard_pt rfl rfl (fun hq => ?_) (fun hq => absurd hq (Decidable.not_not.2 (by omega))))
      (first | focus ((apply DC.awn_s; · (intro H1 hPsi; (try dsimp only at hPsi); (try (obtain ⟨hPsi, hPsi2⟩ := hPsi)); exact s_fieldAddr_ptr rfl)); rotate_left) | fail)
      all_goals try (exfalso; omega)
      try rw [decide_eq_true pb]
      try rw [decide_eq_true pc]
      try rw [decide_eq_true pd]
      first
        | refine DC.awn_guard_t rfl rfl ?_
        | (refine DC.awn_guard_pt rfl rfl (fun hq => ?_) (fun hq => absurd hq (Decidable.not_not.2 (by omega))))
      (first | focus ((apply DC.awn_s; · (intro H1 hPsi; (try dsimp only at hPsi); (try (obtain ⟨hPsi, hPsi2⟩ := hPsi)); exact s_load_cel rfl auto_heap rfl)); rotate_left) | fail)
      all_goals try (exfalso; omega)
      try rw [decide_eq_true pb]
      try rw [decide_eq_true pc]
      try rw [decide_eq_true pd]
      first
        | refine DC.awn_guard_t rfl rfl ?_
        | (refine DC.awn_guard_pt rfl rfl (fun hq => ?_) (fun hq => absurd hq (Decidable.not_not.2 (by omega))))
      (first | focus ((apply DC.awn_s; · (intro H1 hPsi; (try dsimp only at hPsi); (try (obtain ⟨hPsi, hPsi2⟩ := hPsi)); exact s_fieldAddr_ptr rfl)); rotate_left) | fail)
      all_goals try (exfalso; omega)
      try rw [decide_eq_true pb]
      try rw [decide_eq_true pc]
      try rw [decide_eq_true pd]
      first
        | refine DC.awn_guard_t rfl rfl ?_
        | (refine DC.awn_guard_pt rfl rfl (fun hq => ?_) (fun hq => absurd hq (Decidable.not_not.2 (by omega))))
      (first | focus ((apply DC.awn_s; · (intro H1 hPsi; (try dsimp only at hPsi); (try (obtain ⟨hPsi, hPsi2⟩ := hPsi)); exact s_load_cel rfl auto_heap rfl)); rotate_left) | fail)
      all_goals try (exfalso; omega)
      try rw [decide_eq_true pb]
      try rw [decide_eq_true pc]
      try rw [decide_eq_true pd]
      first
        | refine DC.awn_guard_t rfl rfl ?_
        | (refine DC.awn_guard_pt rfl rfl (fun hq => ?_) (fun hq => absurd hq (Decidable.not_not.2 (by omega))))
      (first | focus ((apply DC.awn_s; · (intro H1 hPsi; (try dsimp only at hPsi); (try (obtain ⟨hPsi, hPsi2⟩ := hPsi)); exact s_len_ rfl rfl)); (apply DC.awn_s; · (intro H1 hPsi; (try dsimp only at hPsi); (try (obtain ⟨hPsi, hPsi2⟩ := hPsi)); exact s_pick_t (v := .raw _) rfl rfl)); (apply DC.awn_s; · (intro H1 hPsi; (try dsimp only at hPsi); (try (obtain ⟨hPsi, hPsi2⟩ := hPsi)); exact s_move (v := .raw _) rfl)); rotate_left) | fail)
      all_goals try (exfalso; omega)
      try rw [decide_eq_true pb]
      try rw [decide_eq_true pc]
      try rw [decide_eq_true pd]
      first
        | refine DC.awn_guard_t rfl rfl ?_
        | (refine DC.awn_guard_pt rfl rfl (fun hq => ?_) (fun hq => absurd hq (Decidable.not_not.2 (by omega))))
      (first | focus ((apply DC.awn_s; · (intro H1 hPsi; (try dsimp only at hPsi); (try (obtain ⟨hPsi, hPsi2⟩ := hPsi)); exact s_fieldAddr_ptr rfl)); rotate_left) | fail)
      all_goals try (exfalso; omega)
      try rw [decide_eq_true pb]
      try rw [decide_eq_true pc]
      try rw [decide_eq_true pd]
      first
        | refine DC.awn_guard_t rfl rfl ?_
        | (refine DC.awn_guard_pt rfl rfl (fun hq => ?_) (fun hq => absurd hq (Decidable.not_not.2 (by omega))))
      (first | focus ((apply DC.awn_s; · (intro H1 hPsi; (try dsimp only at hPsi); (try (obtain ⟨hPsi, hPsi2⟩ := hPsi)); exact s_load_cel rfl auto_heap rfl)); rotate_left) | fail)
      all_goals try (exfalso; omega)
      try rw [decide_eq_true pb]
      try rw [decide_eq_true pc]
      try rw [decide_eq_true pd]
      first
        | refine DC.awn_guard_t rfl rfl ?_
        | (refine DC.awn_guard_pt rfl rfl (fun hq => ?_) (fun hq => absurd hq (Decidable.not_not.2 (by omega))))
      (first | focus ((apply DC.awn_s; · (intro H1 hPsi; (try dsimp only at hPsi); (try (obtain ⟨hPsi, hPsi2⟩ := hPsi)); exact s_callc auto_wl (hLi _))); (apply DC.awn_s; · (intro H1 hPsi; (try dsimp only at hPsi); (try (obtain ⟨hPsi, hPsi2⟩ := hPsi)); exact s_pick_t (v := .raw _) rfl rfl)); refine DC.awn_b0 ?_; (apply DC.awn_s; · (intro H1 hPsi; (try dsimp only at hPsi); (try (obtain ⟨hPsi, hPsi2⟩ := hPsi)); exact s_assign (v := .raw _) rfl)); refine DC.awn_nil ?_; refine DC.awc_cons0 (fun Rx K1 hK1x => ?_); refine yy89 ?_; refine yy7 ?_; (refine hK1x _ (by first | exact Or.inl (by decide +kernel) | (refine Or.inr ?_; (try dsimp only); first | exact ⟨auto_heap, auto_heap⟩)) ?_; clear hK1x K1 Rx); refine DC.awc_nil ?_; refine yy47 ?_; refine aw_ret ?_; rotate_left) | fail)
      all_goals try (exfalso; omega)
      try rw [decide_eq_true pb]
      try rw [decide_eq_true pc]
      try rw [decide_eq_true pd]
      exact ⟨.inl rfl, _, _, _, Ent.cellRet (H0 := H) 4 (rdC ⟨u3, u4, u5, u6, l⟩) rfl auto_heap (by ((repeat' (first | exact WC.nil | apply WC.cons)); all_goals (first | exact W.of rfl | exact W.int rfl | exact W.nilb rfl | exact W.empb rfl | exact W.bysx rfl | exact W.nils rfl | exact W.emps rfl | exact W.slsx rfl))) (fun p y hp => ⟨hfq p y hp, AHeap.get_skip (hfq p y hp) (q9' p y hp)⟩), ret_2 rfl (rv1_agg (m := 5) rfl rfl rfl (by decide)) (rv1_tmp rfl), ⟨⟨u3, u4, u5, u6, l⟩, rfl, fun _ => hX2.out.symm⟩, rfl⟩
end Go.Proofs.Ytbciofnejefkiaa

namespace Go.Proofs.Ytbciofnejefkiaa
open Go Go.Am Go.Proofs
set_option linter.unusedSimpArgs false
set_option linter.unusedVariables false
set_option maxRecDepth 20000
set_option maxHeartbeats 4000000

/-! A record is done. -/
theorem CAt.set {H : AHeap} {F : Ob} {c : Ag.Co} (h : CAt H F c) (nd : NdC F) : ∃ off, H F.o = some (.cel (coreC c F.og F.oh (.vw F.ow 3 off c.wait.length))) ∧
    ∀ c' : Ag.Co, c'.got = c.got → c'.n = c.n → c'.me = c.me → c'.held = c.held → c'.wait = c.wait →
      CAt (H.set F.o (.cel (coreC c' F.og F.oh (.vw F.ow 3 off c.wait.length)))) F c' ∧ TurnC H F F (H.set F.o (.cel (coreC c' F.og F.oh (.vw F.ow 3 off c.wait.length)))) := by
  have nd0 := nd
  obtain ⟨⟨off, xs, hco, hw, hx1, hx2⟩, ⟨eg, hg, hg2⟩, ⟨eh, hh, hh2⟩⟩ := h
  obtain ⟨n1, n2, n3, n4, n5, n6⟩ := nd
  refine ⟨off, hco, fun c' e1 e2 e3 e4 e5 => ⟨⟨⟨off, xs, ?_, ?_, ?_, ?_⟩, ⟨eg, ?_, ?_⟩, ⟨eh, ?_, ?_⟩⟩, ⟨rfl, rfl, rfl, rfl, fun p hp => .inl hp, fun p y hp hF => AHeap.get_skip (fun e => hF (by simp [Ob.c, e])) hp, nd0⟩⟩⟩
  · rw [e5]; exact AHeap.set_self _ _ _
  · exact AHeap.get_skip n3.symm hw
  · rw [e5]; exact hx1
  · rw [e5]; exact hx2
  · exact AHeap.get_skip n1.symm hg
  · refine ⟨fun k => by rw [hg2.get k, e1], ?_⟩
    rw [hg2.len]; unfold Ag.Co.size; rw [e1, e2]
  · exact AHeap.get_skip n2.symm hh
  · exact ⟨fun k => by rw [hh2.get k, e4], hh2.nd⟩
theorem apply_calls (H : AHeap) (F : Ob) (c : Ag.Co) (x : Ag.Rd) (h : CAt H F c) (nd : NdC F) (hf : CFine c) (hL : LF x.list) (hk : x.kind < 2 ^ 64) (hv : x.view ≤ Ag.mostView) (hl : x.last ≤ x.view) (ha : x.agreed < 2 ^ 64) :
    ACalls Try.prog 33 [.ptr F.o 0, .agg (rdC x)] H fun r H' => r = bB (c.apply x).isSome ∧ CAt H' F ((c.apply x).getD c) ∧ TurnC H F F H' := by
  have h0 := h
  obtain ⟨off, hco, hset⟩ := h.set nd
  have f1 := hf.list.len
  have f2 := hf.agr
  have f3 := hf.list.ok
  have f4 := hf.view
  have f5 := hf.last
  unfold Ag.mostView at f4 f5 hv
  have g1 := hL.len
  have g2 := hL.ok
  have hB := fun H => begins_at hL hf H
  unfold coreC at hco
  refine acalls_of_aw2 Try.func33 rfl (by decide) ?_
  (first | focus (refine yy4 ?_; refine zb1 rfl rfl rfl (fun oN hoN => ?_); refine yy6 ?_; rotate_left) | fail)
  refine aw_ent (R' := [(0, .ptr F.o 0), (3, .pce (rdC x) 0), (4, bB false)]) (H' := H) ((Ent.cellRet (H0 := H) 3 (rdC x) rfl auto_heap (by ((repeat' (first | exact WC.nil | apply WC.cons)); all_goals (first | exact W.of rfl | exact W.int rfl | exact W.nilb rfl | exact W.empb rfl | exact W.bysx rfl | exact W.nils rfl | exact W.emps rfl | exact W.slsx rfl))) (fresh_sub hoN)).trans (Ent.sub _ (by (repeat' (first | exact RSub.nil _ | apply RSub.cons)); all_goals rfl))) ?_
  clear hoN oN
  have hne : x.list ≠ [] ↔ 0 < x.list.length := List.length_pos_iff.symm
  by_cases k1 : x.kind = 1
  · have hap : c.apply x = if x.view < c.view ∨ x.list ≠ [] then none else some { c with view := x.view } := by unfold Ag.Co.apply; rw [if_pos k1]
    rw [hap]
    clear hap
    by_cases q : x.view < c.view ∨ x.list ≠ []
    · rw [if_pos q]
      replace q : x.view < c.view ∨ 0 < x.list.length := q.imp id hne.1
      clear hne
      (first | focus (refine yy45 ?_; refine yy69 ?_; refine aw_condp rfl (fun hc => ?_) (fun hc => ?_); refine aw_seq ?_; refine yy16 ?_; (apply awt_s; · exact s_fieldAddr_pce rfl); (apply awt_s; · exact s_load_pce rfl auto_idx); (apply awt_s; · exact s_move (v := .ptr _ _) rfl); (apply awt_s; · exact s_nilCheck_ptr rfl); (apply awt_s; · exact s_fieldAddr_ptr rfl); (apply awt_s; · exact s_load_cel rfl auto_heap rfl); (apply awt_s; · exact s_ltn rfl rfl); (apply awt_s; · exact s_move (v := .raw _) rfl); refine zt2 rfl rfl rfl (fun hc => ?_) (fun hc => ?_); (apply awt_s; · exact s_fieldAddr_pce rfl); refine yy1 ?_; (apply awt_s; · exact s_load_pce rfl auto_idx); refine yy1 ?_; (apply awt_s; · exact s_len_sls rfl); refine yy1 ?_; (apply awt_s; · exact s_gtn rfl rfl); (apply awt_s; · exact s_pick_f (v := .raw _) rfl rfl); refine yy13 ?_; refine aw_condp rfl (fun hc => ?_) (fun hc => ?_); refine yy18 ?_; refine yy51 ?_; rotate_left; exact absurd hc auto_no; refine yy77 ?_; refine zt4 rfl rfl ?_; (apply awt_s; · exact s_pick_t (v := .raw _) rfl rfl); refine yy13 ?_; refine yy42 ?_; refine yy18 ?_; refine yy51 ?_; rotate_left; exact absurd hc auto_no) | fail)
      all_goals try (exfalso; omega)
      all_goals exact ⟨.inl rfl, _, _, _, Ent.refl _ _, ret1 rfl rfl, rfl, h0, TurnC.refl _ _ nd⟩
    · rw [if_neg q]
      replace q : ¬ (x.view < c.view ∨ 0 < x.list.length) := fun h => q (h.imp id hne.2)
      clear hne
      (first | focus (refine yy45 ?_; refine yy69 ?_; refine aw_condp rfl (fun hc => ?_) (fun hc => ?_); refine aw_seq ?_; refine yy16 ?_; (apply awt_s; · exact s_fieldAddr_pce rfl); (apply awt_s; · exact s_load_pce rfl auto_idx); (apply awt_s; · exact s_move (v := .ptr _ _) rfl); (apply awt_s; · exact s_nilCheck_ptr rfl); (apply awt_s; · exact s_fieldAddr_ptr rfl); (apply awt_s; · exact s_load_cel rfl auto_heap rfl); (apply awt_s; · exact s_ltn rfl rfl); (apply awt_s; · exact s_move (v := .raw _) rfl); refine zt2 rfl rfl rfl (fun hc => ?_) (fun hc => ?_); (apply awt_s; · exact s_fieldAddr_pce rfl); refine yy1 ?_; (apply awt_s; · exact s_load_pce rfl auto_idx); refine yy1 ?_; (apply awt_s; · exact s_len_sls rfl); refine yy1 ?_; (apply awt_s; · exact s_gtn rfl rfl); (apply awt_s; · exact s_pick_f (v := .raw _) rfl rfl); refine yy13 ?_; refine yy53 ?_; intro hc; refine yy39 ?_; refine yy35 ?_; refine yy60 ?_; refine yy72 ?_; refine yy38 ?_; refine yy18 ?_; rotate_left; exact absurd hc auto_no; exact absurd hc auto_no) | fail)
      all_goals try (exfalso; omega)
      exact ⟨.inl rfl, _, _, _, Ent.refl _ _, ret1 rfl rfl, rfl, (hset { c with view := x.view } rfl rfl rfl rfl rfl).1, (hset { c with view := x.view } rfl rfl rfl rfl rfl).2⟩
  clear hne
  by_cases k2 : x.kind = 2
  · have hap : c.apply x = if x.view < c.view ∨ x.view < c.last ∨ Ag.begins x.list (c.list.take c.agreed) = false then none else some { c with view := x.view, last := x.view, list := x.list } := by unfold Ag.Co.apply; rw [if_neg k1, if_pos k2]
    rw [hap]
    clear hap
    cases hbg : Ag.begins x.list (c.list.take c.agreed) with
    | false =>
      rw [hbg] at hB
      rw [if_pos (.inr (.inr rfl))]
      (first | focus (refine yy45 ?_; refine yy69 ?_; refine yy93 ?_; intro hc; refine yy69 ?_; refine aw_condp rfl (fun hc => ?_) (fun hc => ?_); refine aw_seq ?_; refine yy16 ?_; (apply awt_s; · exact s_fieldAddr_pce rfl); (apply awt_s; · exact s_load_pce rfl auto_idx); (apply awt_s; · exact s_move (v := .ptr _ _) rfl); (apply awt_s; · exact s_nilCheck_ptr rfl); (apply awt_s; · exact s_fieldAddr_ptr rfl); (apply awt_s; · exact s_load_cel rfl auto_heap rfl); (apply awt_s; · exact s_ltn rfl rfl); (apply awt_s; · exact s_move (v := .raw _) rfl); refine zt2 rfl rfl rfl (fun hc => ?_) (fun hc => ?_); (apply awt_s; · exact s_fieldAddr_pce rfl); refine yy1 ?_; (apply awt_s; · exact s_load_pce rfl auto_idx); refine yy1 ?_; (apply awt_s; · exact s_move (v := .ptr _ _) rfl); refine yy1 ?_; (apply awt_s; · exact s_nilCheck_ptr rfl); refine yy1 ?_; (apply awt_s; · exact s_fieldAddr_ptr rfl); refine yy1 ?_; (apply awt_s; · exact s_load_cel rfl auto_heap rfl); refine yy1 ?_; (apply awt_s; · exact s_ltn rfl rfl); (apply awt_s; · exact s_pick_f (v := .raw _) rfl rfl); (apply awt_s; · exact s_move (v := .raw _) rfl); refine zt2 rfl rfl rfl (fun hc => ?_) (fun hc => ?_); (apply awt_s; · exact s_fieldAddr_pce rfl); refine yy1 ?_; (apply awt_s; · exact s_load_pce rfl auto_idx); refine yy1 ?_; (apply awt_s; · exact s_move (v := .ptr _ _) rfl); refine yy1 ?_; (apply awt_s; · exact s_nilCheck_ptr rfl); refine yy1 ?_; (apply awt_s; · exact s_fieldAddr_ptr rfl); refine yy1 ?_; (apply awt_s; · exact s_load_cel rfl auto_heap rfl); refine yy1 ?_; (apply awt_s; · exact s_move (v := .ptr _ _) rfl); refine yy1 ?_; (apply awt_s; · exact s_nilCheck_ptr rfl); refine yy1 ?_; (apply awt_s; · exact s_fieldAddr_ptr rfl); refine yy1 ?_; (apply awt_s; · exact s_load_cel rfl auto_heap rfl); refine yy1 ?_; (apply awt_s; · exact s_slice_sls rfl auto_bnd auto_bnd auto_len auto_len); refine yy1 ?_; (apply awt_s; · exact s_callc auto_wl (hB _)); refine yy1 ?_; (apply awt_s; · exact s_notb rfl); (apply awt_s; · exact s_pick_f (v := .raw _) rfl rfl); refine yy13 ?_; refine yy42 ?_; refine yy18 ?_; refine yy51 ?_; rotate_left; refine yy15 ?_; refine yy15 ?_; refine yy15 ?_; (apply awt_s; · exact s_pick_t (v := .raw _) rfl rfl); refine yy13 ?_; refine yy42 ?_; refine yy18 ?_; refine yy51 ?_; rotate_left; refine yy15 ?_; refine yy77 ?_; (apply awt_s; · exact s_pick_t (v := .raw _) rfl rfl); (apply awt_s; · exact s_move (v := .raw _) rfl); refine yy15 ?_; refine yy15 ?_; refine yy15 ?_; refine zt4 rfl rfl ?_; (apply awt_s; · exact s_pick_t (v := .raw _) rfl rfl); refine yy13 ?_; refine yy42 ?_; refine yy18 ?_; refine yy51 ?_; rotate_left; exact absurd hc auto_no) | fail)
      all_goals try (exfalso; omega)
      all_goals exact ⟨.inl rfl, _, _, _, Ent.refl _ _, ret1 rfl rfl, rfl, h0, TurnC.refl _ _ nd⟩
    | true =>
      rw [hbg] at hB
      by_cases q : x.view < c.view ∨ x.view < c.last
      · rw [if_pos (by rcases q with q | q; exact .inl q; exact .inr (.inl q))]
        (first | focus (refine yy45 ?_; refine yy69 ?_; refine yy93 ?_; intro hc; refine yy69 ?_; refine aw_condp rfl (fun hc => ?_) (fun hc => ?_); refine aw_seq ?_; refine yy16 ?_; (apply awt_s; · exact s_fieldAddr_pce rfl); (apply awt_s; · exact s_load_pce rfl auto_idx); (apply awt_s; · exact s_move (v := .ptr _ _) rfl); (apply awt_s; · exact s_nilCheck_ptr rfl); (apply awt_s; · exact s_fieldAddr_ptr rfl); (apply awt_s; · exact s_load_cel rfl auto_heap rfl); (apply awt_s; · exact s_ltn rfl rfl); (apply awt_s; · exact s_move (v := .raw _) rfl); refine zt2 rfl rfl rfl (fun hc => ?_) (fun hc => ?_); (apply awt_s; · exact s_fieldAddr_pce rfl); refine yy1 ?_; (apply awt_s; · exact s_load_pce rfl auto_idx); refine yy1 ?_; (apply awt_s; · exact s_move (v := .ptr _ _) rfl); refine yy1 ?_; (apply awt_s; · exact s_nilCheck_ptr rfl); refine yy1 ?_; (apply awt_s; · exact s_fieldAddr_ptr rfl); refine yy1 ?_; (apply awt_s; · exact s_load_cel rfl auto_heap rfl); refine yy1 ?_; (apply awt_s; · exact s_ltn rfl rfl); (apply awt_s; · exact s_pick_f (v := .raw _) rfl rfl); (apply awt_s; · exact s_move (v := .raw _) rfl); refine zt2 rfl rfl rfl (fun hc => ?_) (fun hc => ?_); exact absurd hc auto_no; refine yy15 ?_; refine yy15 ?_; refine yy15 ?_; (apply awt_s; · exact s_pick_t (v := .raw _) rfl rfl); refine yy13 ?_; refine yy42 ?_; refine yy18 ?_; refine yy51 ?_; rotate_left; refine yy15 ?_; refine yy77 ?_; (apply awt_s; · exact s_pick_t (v := .raw _) rfl rfl); (apply awt_s; · exact s_move (v := .raw _) rfl); refine yy15 ?_; refine yy15 ?_; refine yy15 ?_; refine zt4 rfl rfl ?_; (apply awt_s; · exact s_pick_t (v := .raw _) rfl rfl); refine yy13 ?_; refine yy42 ?_; refine yy18 ?_; refine yy51 ?_; rotate_left; exact absurd hc auto_no) | fail)
        all_goals try (exfalso; omega)
        all_goals exact ⟨.inl rfl, _, _, _, Ent.refl _ _, ret1 rfl rfl, rfl, h0, TurnC.refl _ _ nd⟩
      · rw [if_neg (by rintro (e | e | e); exact q (.inl e); exact q (.inr e); cases e)]
        (first | focus (refine yy45 ?_; refine yy69 ?_; refine yy93 ?_; intro hc; refine yy69 ?_; refine aw_condp rfl (fun hc => ?_) (fun hc => ?_); refine aw_seq ?_; refine yy16 ?_; (apply awt_s; · exact s_fieldAddr_pce rfl); (apply awt_s; · exact s_load_pce rfl auto_idx); (apply awt_s; · exact s_move (v := .ptr _ _) rfl); (apply awt_s; · exact s_nilCheck_ptr rfl); (apply awt_s; · exact s_fieldAddr_ptr rfl); (apply awt_s; · exact s_load_cel rfl auto_heap rfl); (apply awt_s; · exact s_ltn rfl rfl); (apply awt_s; · exact s_move (v := .raw _) rfl); refine zt2 rfl rfl rfl (fun hc => ?_) (fun hc => ?_); (apply awt_s; · exact s_fieldAddr_pce rfl); refine yy1 ?_; (apply awt_s; · exact s_load_pce rfl auto_idx); refine yy1 ?_; (apply awt_s; · exact s_move (v := .ptr _ _) rfl); refine yy1 ?_; (apply awt_s; · exact s_nilCheck_ptr rfl); refine yy1 ?_; (apply awt_s; · exact s_fieldAddr_ptr rfl); refine yy1 ?_; (apply awt_s; · exact s_load_cel rfl auto_heap rfl); refine yy1 ?_; (apply awt_s; · exact s_ltn rfl rfl); (apply awt_s; · exact s_pick_f (v := .raw _) rfl rfl); (apply awt_s; · exact s_move (v := .raw _) rfl); refine zt2 rfl rfl rfl (fun hc => ?_) (fun hc => ?_); (apply awt_s; · exact s_fieldAddr_pce rfl); refine yy1 ?_; (apply awt_s; · exact s_load_pce rfl auto_idx); refine yy1 ?_; (apply awt_s; · exact s_move (v := .ptr _ _) rfl); refine yy1 ?_; (apply awt_s; · exact s_nilCheck_ptr rfl); refine yy1 ?_; (apply awt_s; · exact s_fieldAddr_ptr rfl); refine yy1 ?_; (apply awt_s; · exact s_load_cel rfl auto_heap rfl); refine yy1 ?_; (apply awt_s; · exact s_move (v := .ptr _ _) rfl); refine yy1 ?_; (apply awt_s; · exact s_nilCheck_ptr rfl); refine yy1 ?_; (apply awt_s; · exact s_fieldAddr_ptr rfl); refine yy1 ?_; (apply awt_s; · exact s_load_cel rfl auto_heap rfl); refine yy1 ?_; (apply awt_s; · exact s_slice_sls rfl auto_bnd auto_bnd auto_len auto_len); refine yy1 ?_; (apply awt_s; · exact s_callc auto_wl (hB _)); refine yy1 ?_; (apply awt_s; · exact s_notb rfl); (apply awt_s; · exact s_pick_f (v := .raw _) rfl rfl); refine yy13 ?_; refine yy68 ?_; refine aw_draw2 false auto_kr auto_dk auto_dk ?_; (apply awm_s; · (intro H1; exact s_move (v := .ptr _ _) rfl)); (apply awm_s; · (intro H1; exact s_move (v := .ptr _ _) rfl)); (apply awm_s; · (intro H1; exact s_move (v := .ptr _ _) rfl)); (apply awm_s; · (intro H1; exact s_fieldAddr_pce rfl)); (apply awm_s; · (intro H1; exact s_load_pce rfl auto_idx)); (apply awm_s; · (intro H1; exact s_fieldAddr_pce rfl)); (apply awm_s; · (intro H1; exact s_load_pce rfl auto_idx)); (apply awm_s; · (intro H1; exact s_fieldAddr_pce rfl)); (apply awm_s; · (intro H1; exact s_load_pce rfl auto_idx)); (apply awm_s; · (intro H1; exact s_nilCheck_ptr rfl)); (apply awm_s; · (intro H1; exact s_fieldAddr_ptr rfl)); refine awm_b0 ?_; (apply awm_s; · (intro H1; exact s_nilCheck_ptr rfl)); (apply awm_s; · (intro H1; exact s_fieldAddr_ptr rfl)); refine awm_b0 ?_; (apply awm_s; · (intro H1; exact s_nilCheck_ptr rfl)); (apply awm_s; · (intro H1; exact s_fieldAddr_ptr rfl)); refine awm_b0 ?_; refine awm_nil ?_; refine awb_cons0 (fun Rx K1 hK1x => ?_); refine yy72 ?_; (refine hK1x _ ?_; clear hK1x K1 Rx); refine awb_cons0 (fun Rx K1 hK1x => ?_); refine yy67 ?_; refine yy7 ?_; (refine hK1x _ ?_; clear hK1x K1 Rx); refine awb_cons0 (fun Rx K1 hK1x => ?_); refine yy67 ?_; refine yy7 ?_; (refine hK1x _ ?_; clear hK1x K1 Rx); refine awb_nil ?_; refine yy38 ?_; refine yy18 ?_; rotate_left; exact absurd hc auto_no; exact absurd hc auto_no; exact absurd hc auto_no) | fail)
        all_goals try (exfalso; omega)
        exact ⟨.inl rfl, _, _, _, Ent.refl _ _, ret1 rfl rfl, rfl, (hset { c with view := x.view, last := x.view, list := x.list } rfl rfl rfl rfl rfl).1, (hset { c with view := x.view, last := x.view, list := x.list } rfl rfl rfl rfl rfl).2⟩
  by_cases k4 : x.kind = 4
  · have hap : c.apply x = if x.list.length < x.agreed then none else some { c with view := x.view, last := x.last, agreed := x.agreed, list := x.list } := by unfold Ag.Co.apply; rw [if_neg k1, if_neg k2, if_neg (by omega), if_pos k4]
    rw [hap]
    clear hap
    by_cases q : x.list.length < x.agreed
    · rw [if_pos q]
      (first | focus (refine yy45 ?_; refine yy69 ?_; refine yy93 ?_; intro hc; refine yy69 ?_; refine yy93 ?_; intro hc; refine yy69 ?_; refine yy93 ?_; intro hc; refine yy69 ?_; refine aw_condp rfl (fun hc => ?_) (fun hc => ?_); refine yy110 ?_; refine yy35 ?_; refine yy32 ?_; refine awl_s rfl (s_convn rfl (by omega)) ?_; refine yy27 ?_; refine yy3 ?_; refine aw_condp rfl (fun hc => ?_) (fun hc => ?_); refine yy18 ?_; refine yy51 ?_; rotate_left; exact absurd hc auto_no; exact absurd hc auto_no) | fail)
      all_goals try (exfalso; omega)
      all_goals exact ⟨.inl rfl, _, _, _, Ent.refl _ _, ret1 rfl rfl, rfl, h0, TurnC.refl _ _ nd⟩
    · rw [if_neg q]
      (first | focus (refine yy45 ?_; refine yy69 ?_; refine yy93 ?_; intro hc; refine yy69 ?_; refine yy93 ?_; intro hc; refine yy69 ?_; refine yy93 ?_; intro hc; refine yy69 ?_; refine aw_condp rfl (fun hc => ?_) (fun hc => ?_); refine yy110 ?_; refine yy35 ?_; refine yy32 ?_; refine awl_s rfl (s_convn rfl (by omega)) ?_; refine yy27 ?_; refine yy3 ?_; refine yy53 ?_; intro hc; refine aw_draw2 false auto_kr auto_dk auto_dk ?_; (apply awm_s; · (intro H1; exact s_move (v := .ptr _ _) rfl)); (apply awm_s; · (intro H1; exact s_move (v := .ptr _ _) rfl)); (apply awm_s; · (intro H1; exact s_move (v := .ptr _ _) rfl)); (apply awm_s; · (intro H1; exact s_move (v := .ptr _ _) rfl)); (apply awm_s; · (intro H1; exact s_fieldAddr_pce rfl)); (apply awm_s; · (intro H1; exact s_load_pce rfl auto_idx)); (apply awm_s; · (intro H1; exact s_fieldAddr_pce rfl)); (apply awm_s; · (intro H1; exact s_load_pce rfl auto_idx)); (apply awm_s; · (intro H1; exact s_fieldAddr_pce rfl)); (apply awm_s; · (intro H1; exact s_load_pce rfl auto_idx)); (apply awm_s; · (intro H1; exact s_convi rfl (by omega) (by omega))); (apply awm_s; · (intro H1; exact s_fieldAddr_pce rfl)); (apply awm_s; · (intro H1; exact s_load_pce rfl auto_idx)); (apply awm_s; · (intro H1; exact s_nilCheck_ptr rfl)); (apply awm_s; · (intro H1; exact s_fieldAddr_ptr rfl)); refine awm_b0 ?_; (apply awm_s; · (intro H1; exact s_nilCheck_ptr rfl)); (apply awm_s; · (intro H1; exact s_fieldAddr_ptr rfl)); refine awm_b0 ?_; (apply awm_s; · (intro H1; exact s_nilCheck_ptr rfl)); (apply awm_s; · (intro H1; exact s_fieldAddr_ptr rfl)); refine awm_b0 ?_; (apply awm_s; · (intro H1; exact s_nilCheck_ptr rfl)); (apply awm_s; · (intro H1; exact s_fieldAddr_ptr rfl)); refine awm_b0 ?_; refine awm_nil ?_; refine awb_cons0 (fun Rx K1 hK1x => ?_); refine yy72 ?_; (refine hK1x _ ?_; clear hK1x K1 Rx); refine awb_cons0 (fun Rx K1 hK1x => ?_); refine yy67 ?_; refine yy7 ?_; (refine hK1x _ ?_; clear hK1x K1 Rx); refine awb_cons0 (fun Rx K1 hK1x => ?_); refine yy67 ?_; refine yy7 ?_; (refine hK1x _ ?_; clear hK1x K1 Rx); refine awb_cons0 (fun Rx K1 hK1x => ?_); refine yy67 ?_; refine yy7 ?_; (refine hK1x _ ?_; clear hK1x K1 Rx); refine awb_nil ?_; refine yy38 ?_; refine yy18 ?_; rotate_left; exact absurd hc auto_no) | fail)
      all_goals try (exfalso; omega)
      exact ⟨.inl rfl, _, _, _, Ent.refl _ _, ret1 rfl rfl, rfl, (hset { c with view := x.view, last := x.last, agreed := x.agreed, list := x.list } rfl rfl rfl rfl rfl).1, (hset { c with view := x.view, last := x.last, agreed := x.agreed, list := x.list } rfl rfl rfl rfl rfl).2⟩
  by_cases k3 : x.kind = 3
  · have hap : c.apply x = if Ag.listed (c.list ++ x.list) = true then some { c with list := c.list ++ x.list } else none := by unfold Ag.Co.apply; rw [if_neg k1, if_neg k2, if_pos k3]
    rw [hap]
    clear hap
    have hcp := fun H => copies_own H c.list (by omega) fun e he => by have := (f3 e he).2; omega
    have hLi := fun H => listed_calls H (c.list ++ x.list) (by rw [List.length_append]; omega) (fun e he => by
      rcases List.mem_append.1 he with he | he
      · have := (f3 e he).2; omega
      · have := (g2 e he).2; omega)
    have hcl : (c.list.flatMap En.cells).length = c.list.length * 3 := flat_len (sz := 3) (fun _ => rfl) _
    have hxl : (x.list.flatMap En.cells).length = x.list.length * 3 := flat_len (sz := 3) (fun _ => rfl) _
    (first | focus (refine yy45 ?_; refine yy69 ?_; refine yy93 ?_; intro hc; refine yy69 ?_; refine yy93 ?_; intro hc; refine yy69 ?_; refine aw_condp rfl (fun hc => ?_) (fun hc => ?_); refine aw_seq ?_; refine aw_draw2 true auto_kr auto_dk auto_dk ?_; (apply awm_s; · (intro H1; exact s_move (v := .ptr _ _) rfl)); (apply awm_s; · (intro H1; exact s_nilCheck_ptr rfl)); (apply awm_s; · (intro H1; exact s_fieldAddr_ptr rfl)); (apply awm_e auto_dk; (· exact s_load_cel rfl auto_heap rfl)); refine awm_b ?_; (apply awm_s; · (intro H1; exact s_fieldAddr_pce rfl)); (apply awm_s; · (intro H1; exact s_load_pce rfl auto_idx)); refine awm_b ?_; refine awm_b ?_; refine awm_nil ?_; refine awb_cons (fun Rx K1 hK1x => ?_); (refine zc auto_wl (hcp _) ?_; rintro r H' ⟨oL, hoL, rfl, rfl⟩); refine yy7 ?_; (refine hK1x _ _ ?_; clear hK1x K1 Rx); refine awb_cons (fun Rx K1 hK1x => ?_); refine awl_app_celo rfl rfl rfl auto_heap auto_len auto_src auto_len auto_len (fun oN hoN => ?_); refine yy7 ?_; (refine hK1x _ _ ?_; clear hK1x K1 Rx); refine awb_cons (fun Rx K1 hK1x => ?_); refine yy65 ?_; refine yy7 ?_; (refine hK1x _ _ ?_; clear hK1x K1 Rx); refine awb_nil ?_; refine yy47 ?_; rotate_left; exact absurd hc auto_no) | fail)
    all_goals try (exfalso; omega)
    rw [List.drop_zero, ← List.flatMap_append, AHeap.erase_set hoL, ← List.length_append]
    have hoN2 : H oN = none := AHeap.none_of_set hoN
    refine aw_ent (R' := [(0, .ptr F.o 0), (4, bB false), (5, lsE (c.list ++ x.list))]) (H' := H) ((Ent.seal_cel1 5 rfl (flat_len (sz := 3) (fun _ => rfl) (c.list ++ x.list)) hoN2).trans (Ent.sub _ (by (repeat' (first | exact RSub.nil _ | apply RSub.cons)); all_goals rfl))) ?_
    clear hoL hoN hoN2
    cases hls : Ag.listed (c.list ++ x.list) with
    | false =>
      rw [hls] at hLi
      rw [if_neg (by simp)]
      (first | focus (refine yy12 ?_; refine yy31 ?_; (refine zc auto_wl (hLi _) ?_; rintro r H' ⟨rfl, rfl⟩); refine yy37 ?_; refine yy3 ?_; refine yy42 ?_; refine yy18 ?_; refine yy51 ?_; rotate_left) | fail)
      exact ⟨.inl rfl, _, _, _, Ent.refl _ _, ret1 rfl rfl, rfl, h0, TurnC.refl _ _ nd⟩
    | true =>
      rw [hls] at hLi
      rw [if_pos rfl]
      (first | focus (refine yy12 ?_; refine yy31 ?_; (refine zc auto_wl (hLi _) ?_; rintro r H' ⟨rfl, rfl⟩); refine yy37 ?_; refine yy3 ?_; refine yy68 ?_; refine yy39 ?_; refine yy31 ?_; refine yy60 ?_; refine yy72 ?_; refine yy38 ?_; refine yy18 ?_; rotate_left) | fail)
      exact ⟨.inl rfl, _, _, _, Ent.refl _ _, ret1 rfl rfl, rfl, (hset { c with list := c.list ++ x.list } rfl rfl rfl rfl rfl).1, (hset { c with list := c.list ++ x.list } rfl rfl rfl rfl rfl).2⟩
  have hap : c.apply x = none := by unfold Ag.Co.apply; rw [if_neg k1, if_neg k2, if_neg k3, if_neg k4]
  rw [hap]
  (first | focus (refine yy45 ?_; refine yy69 ?_; refine yy93 ?_; intro hc; refine yy69 ?_; refine yy93 ?_; intro hc; refine yy69 ?_; refine yy93 ?_; intro hc; refine yy69 ?_; refine yy93 ?_; intro hc; refine yy9 ?_; refine yy86 ?_; rotate_left) | fail)
  all_goals try (exfalso; omega)
  all_goals exact ⟨.inl rfl, _, _, _, Ent.refl _ _, ret1 rfl rfl, rfl, h0, TurnC.refl _ _ nd⟩
end Go.Proofs.Ytbciofnejefkiaa

namespace Go.Proofs.Ytbciofnejefkiaa
open Go Go.Am Go.Proofs
set_option linter.unusedSimpArgs false
set_option linter.unusedVariables false
set_option maxRecDepth 20000

/-! What a replica saved is read as it was. -/
theorem rec_back {me n : Nat} {x : Ag.Rd} (hm : me < 2 ^ 64) (hn : n < 2 ^ 64) (hk : x.kind < 2 ^ 64) (hv : x.view < 2 ^ 64) (hl : x.last < 2 ^ 64) (ha : x.agreed < 2 ^ 64) (hL : LF x.list) :
    rdX (recB me n x) = x ∧ (parOk me n (recB me n x) ↔ x.ok) := by
  have h200 := hL.len
  have t0 : recB me n x = encU 10 me ++ (encU 10 n ++ (encU 10 x.kind ++ (encU 10 x.view ++ (encU 10 x.last ++ (encU 10 x.agreed ++ (encU 10 x.list.length ++ (encEs x.list ++ []))))))) := by
    simp [recB, encUs]
  have q1 := rd_enc hm (encU 10 n ++ (encU 10 x.kind ++ (encU 10 x.view ++ (encU 10 x.last ++ (encU 10 x.agreed ++ (encU 10 x.list.length ++ (encEs x.list ++ [])))))))
  have q2 := rd_enc hn (encU 10 x.kind ++ (encU 10 x.view ++ (encU 10 x.last ++ (encU 10 x.agreed ++ (encU 10 x.list.length ++ (encEs x.list ++ []))))))
  have q3 := rd_enc hk (encU 10 x.view ++ (encU 10 x.last ++ (encU 10 x.agreed ++ (encU 10 x.list.length ++ (encEs x.list ++ [])))))
  have q4 := rd_enc hv (encU 10 x.last ++ (encU 10 x.agreed ++ (encU 10 x.list.length ++ (encEs x.list ++ []))))
  have q5 := rd_enc hl (encU 10 x.agreed ++ (encU 10 x.list.length ++ (encEs x.list ++ [])))
  have q6 := rd_enc ha (encU 10 x.list.length ++ (encEs x.list ++ []))
  have q7 := rd_enc (show x.list.length < 2 ^ 64 by omega) (encEs x.list ++ [])
  have q9 := rdEs_enc x.list [] fun e he => ⟨(hL.ok e he).1, by have := (hL.ok e he).2; omega⟩
  have hX : rdX (recB me n x) = x := by
    rw [t0]
    unfold rdX
    simp only [stK, stN_at q1, vlN_at q1, stN_at q2, vlN_at q2, stN_at q3, vlN_at q3, stN_at q4, vlN_at q4, stN_at q5, vlN_at q5, stN_at q6, vlN_at q6, stN_at q7, vlN_at q7, Bool.or_false, q9]
  refine ⟨hX, ?_⟩
  unfold parOk
  rw [hX, t0]
  simp only [stK, stN_at q1, vlN_at q1, stN_at q2, vlN_at q2, stN_at q3, vlN_at q3, stN_at q4, vlN_at q4, stN_at q5, vlN_at q5, stN_at q6, vlN_at q6, stN_at q7, vlN_at q7, Bool.or_false, q9, true_and]
  exact ⟨fun h => h.2, fun h => ⟨by omega, h⟩⟩
end Go.Proofs.Ytbciofnejefkiaa

namespace Go.Proofs.Ytbciofnejefkiaa
open Go Go.Am Go.Proofs
set_option linter.unusedSimpArgs false
set_option linter.unusedVariables false
set_option maxRecDepth 20000
set_option maxHeartbeats 4000000

/-! A part is opened. -/
noncomputable def openB (me n : Nat) : Ag.Co → List (List UInt8) → Option Ag.Co
  | c, [] => some c
  | c, b :: l => if parOk me n b then (c.apply (rdX b)).bind fun c => openB me n c l else none
theorem listed_LF2 {l : List En} (hm : ∀ e ∈ l, e.Ok) (h : Ag.listed l = true) : LF l := by
  unfold Ag.listed at h
  simp only [Bool.and_eq_true, decide_eq_true_eq, List.all_eq_true] at h
  refine ⟨fun e he => ⟨hm e he, ?_⟩, h.2⟩
  have := h.1.1 e he
  simp only [Ag.may, Bool.and_eq_true, decide_eq_true_eq] at this
  exact this.2
theorem vlN_lt (s : RS) : vlN s < 2 ^ 64 := by unfold vlN; exact rd_lt _
theorem rdX_parts (b : List UInt8) : (∀ e ∈ (rdX b).list, e.Ok) ∧ (rdX b).kind < 2 ^ 64 ∧ (rdX b).agreed < 2 ^ 64 := by
  have h1 := vlN_lt (stK 2 (b, false))
  have h2 := vlN_lt (stK 5 (b, false))
  unfold rdX
  generalize vlN (stK 6 (b, false)) = n
  generalize stK 7 (b, false) = s
  generalize vlN (stK 2 (b, false)) = x2 at *
  generalize vlN (stK 5 (b, false)) = x5 at *
  have h3 := rdEs_ok n s.1 s.2
  generalize rdEs n s.1 s.2 = y at *
  exact ⟨h3, h1, h2⟩
theorem parOk_rd {me n : Nat} {b : List UInt8} (h : parOk me n b) : (rdX b).ok := by
  unfold parOk at h; exact h.2.2.2.2
theorem rdX_fine {me n : Nat} {b : List UInt8} (h : parOk me n b) : LF (rdX b).list ∧ (rdX b).kind < 2 ^ 64 ∧ (rdX b).view ≤ Ag.mostView ∧ (rdX b).last ≤ (rdX b).view ∧ (rdX b).agreed < 2 ^ 64 := by
  have h5 := parOk_rd h
  obtain ⟨e1, e2, e3⟩ := rdX_parts b
  clear h
  generalize rdX b = x at *
  unfold Ag.Rd.ok at h5
  exact ⟨listed_LF2 e1 h5.2.2, e2, h5.1, h5.2.1, e3⟩
theorem CFine.apply {c d : Ag.Co} {x : Ag.Rd} (hf : CFine c) (hL : LF x.list) (hv : x.view ≤ Ag.mostView) (hl : x.last ≤ x.view) (h : c.apply x = some d) : CFine d ∧ d.me = c.me ∧ d.n = c.n := by
  unfold Ag.Co.apply at h
  split at h
  · split at h
    · cases h
    · cases h; exact ⟨⟨hf.me, hf.n, hv, hf.last, hf.list, hf.agr, hf.wait, hf.quiet, hf.got, hf.held⟩, rfl, rfl⟩
  split at h
  · split at h
    · cases h
    · next hq =>
      cases h
      rw [not_or, not_or, Bool.not_eq_false] at hq
      have hb := hq.2.2
      have := hf.agr
      simp only [Ag.begins, Bool.and_eq_true, decide_eq_true_eq, List.length_take] at hb
      exact ⟨⟨hf.me, hf.n, hv, hv, hL, by show c.agreed ≤ x.list.length; omega, hf.wait, hf.quiet, hf.got, hf.held⟩, rfl, rfl⟩
  split at h
  · split at h
    · next hq =>
      cases h
      exact ⟨⟨hf.me, hf.n, hf.view, hf.last, listed_LF2 (fun e he => by
        rcases List.mem_append.1 he with he | he
        · exact (hf.list.ok e he).1
        · exact (hL.ok e he).1) hq, by have := hf.agr; show c.agreed ≤ (c.list ++ x.list).length; rw [List.length_append]; omega, hf.wait, hf.quiet, hf.got, hf.held⟩, rfl, rfl⟩
    · cases h
  split at h
  · split at h
    · cases h
    · cases h
      exact ⟨⟨hf.me, hf.n, hv, by show x.last ≤ _; omega, hL, by show x.agreed ≤ x.list.length; omega, hf.wait, hf.quiet, hf.got, hf.held⟩, rfl, rfl⟩
  · cases h
end Go.Proofs.Ytbciofnejefkiaa

namespace Go.Proofs.Ytbciofnejefkiaa
open Go Go.Am Go.Proofs
set_option linter.unusedSimpArgs false
set_option linter.unusedVariables false
set_option maxRecDepth 20000
set_option maxHeartbeats 4000000

/-- A fact that the driver does not look at. -/
structure Hdn (p : Prop) : Prop where
  out : p
theorem CFine.new {me n : Nat} (hm : me < n) (h7 : n ≤ 7) : CFine (Ag.Co.new me n) :=
  ⟨hm, h7, Nat.zero_le _, Nat.zero_le _, ⟨by simp [Ag.Co.new], by simp [Ag.Co.new]⟩, Nat.le_refl _, ⟨by simp [Ag.Co.new], by simp [Ag.Co.new]⟩, Nat.zero_le _, fun q x h => (by cases h), fun q x h => (by cases h)⟩
theorem openB_snoc {me n : Nat} {l : List (List UInt8)} {i : Nat} {b : List UInt8} (h : l[i]? = some b) (c : Ag.Co) : openB me n c (l.drop i) = if parOk me n b then (c.apply (rdX b)).bind fun c => openB me n c (l.drop (i + 1)) else none := by
  have e : l.drop i = b :: l.drop (i + 1) := by
    rw [List.drop_eq_getElem_cons (List.getElem?_eq_some_iff.1 h).1, (List.getElem?_eq_some_iff.1 h).2]
  rw [e, openB]
theorem bys_get {l : List (List UInt8)} {i : Nat} {b : List UInt8} (h : l[i]? = some b) : (l.map AV.bys)[i]? = some (.bys b) := by simp [h]
theorem Open_calls (H : AHeap) (me n : Nat) (l : List (List UInt8)) (hm : me < n) (h7 : n ≤ 7) (h2 : n % 2 = 1) (hl : l.length ≤ 1000000000000) (hb : ∀ b ∈ l, b.length ≤ 1000000) :
    ACalls Try.prog 16 [mI (me : Int), mI (n : Int), .sls l.length (l.map .bys)] H fun r H' => (match openB me n (Ag.Co.new me n) l with
      | none => r = .tup [.raw (.pointer none), mI 3]
      | some c => ∃ F : Ob, r = .tup [.ptr F.o 0, mI 0] ∧ CAt H' F (if n = 1 then { c with agreed := c.list.length } else c) ∧ NdC F ∧ (∀ p ∈ F.c, H p = none)) ∧ ∀ p y, H p = some y → H' p = some y := by
  refine acalls_of_aw3 Try.func16 rfl (by decide) ?_
  (first | focus (refine yy4 ?_; refine yy30 ?_; refine yy24 ?_; refine yy2 ?_; refine yy2 ?_; (refine zc auto_wl (New_calls _ me n hm h7 h2) ?_; rintro r H' ⟨F, rfl, a1, a2, a3, a4⟩); refine yy73 ?_; refine yy90 ?_; refine yy6 ?_; refine yy11 ?_; refine yy70 ?_; refine yy3 ?_; refine yy53 ?_; intro hc; refine yy12 ?_; refine yy44 ?_; refine yy56 ?_; rotate_left) | fail)
  generalize hB : openB me n (Ag.Co.new me n) l = B
  have hN := CFine.new hm h7
  have hN1 : (Ag.Co.new me n).me = me := rfl
  have hN2 : (Ag.Co.new me n).n = n := rfl
  generalize Ag.Co.new me n = c0 at *
  refine aw_loop (fun mm R' H2 => ∃ (i : Nat) (c : Ag.Co), R' = [(1, mI (n : Int)), (8, .ptr F.o 0), (9, mI 0), (23, .sls l.length (l.map .bys)), (24, mI (l.length : Int)), (25, mI (i : Int))] ∧ CAt H2 F c ∧ CFine c ∧ c.me = me ∧ c.n = n ∧ openB me n c (l.drop i) = B ∧ (∀ p y, H p = some y → H2 p = some y) ∧ i + mm = l.length) ?_ ?_
  · exact ⟨l.length, _, _, auto_ent, 0, c0, rfl, a1, hN, hN1, hN2, by rw [List.drop_zero]; exact hB, a4, by omega⟩
  clear a1 a4 hB hN hN1 hN2
  rintro mm R0 H2 ⟨i, c, rfl, b1, b2, b3, b4, b5, b6, hi⟩
  by_cases hlt : i < l.length
  · have hg : l[i]? = some l[i] := List.getElem?_eq_getElem hlt
    have hbb := hb _ (List.getElem_mem hlt)
    have g1 := bys_get hg
    have hs := fun c => openB_snoc (me := me) (n := n) hg c
    generalize l[i] = b at *
    have hrd := fun h => rdX_fine (me := me) (n := n) (b := b) h
    obtain ⟨off, _, hco, _⟩ := b1.core
    have hP := parse_calls H2 F.o c F.og F.oh _ b hco (by omega) (by omega) hbb
    rw [b3, b4] at hP
    by_cases hp : parOk me n b
    · obtain ⟨k1, k2, k3, k4, k5⟩ := hrd hp
      have hA := apply_calls H2 F c (rdX b) b1 a2 b2 k1 k2 k3 k4 k5
      rw [decide_eq_true hp] at hP
      have hfa := fun d => CFine.apply (d := d) b2 k1 k3 k4
      rw [hs, if_pos hp] at b5
      clear hs hrd
      replace hfa := Hdn.mk hfa
      replace hP : ACalls Try.prog 32 [.ptr F.o 0, .bys b] H2 fun r H' => r = .tup [.agg (rdC (rdX b)), bB true] ∧ H' = H2 := hP.mono fun r H' ⟨⟨x, h1, h2⟩, h3⟩ => by rw [h2 hp] at h1; exact ⟨h1, h3⟩
      cases ha : c.apply (rdX b) with
      | none =>
        rw [ha] at hA b5
        replace ha := Hdn.mk ha
        replace b5 := Hdn.mk b5
        (first | focus (refine yy10 ?_; refine aw_condp rfl (fun hc => ?_) (fun hc => ?_); refine yy26 ?_; refine yy63 ?_; refine yy58 ?_; refine yy91 ?_; refine yy3 ?_; refine yy22 ?_; refine yy29 ?_; (refine zc auto_wl (hP) ?_; rintro r H' ⟨rfl, rfl⟩); refine yy73 ?_; refine awl_alloc rfl rfl rfl (fun oN hoN => ?_); refine yy80 ?_; refine yy24 ?_; refine yy2 ?_; refine yy37 ?_; refine yy19 ?_; refine yy36 ?_; refine yy62 ?_; refine yy5 ?_; (refine zc auto_wl (hA) ?_; rintro r H' ⟨rfl, d1, d2⟩); refine yy5 ?_; refine yy37 ?_; refine yy43 ?_; refine yy79 ?_; refine yy30 ?_; refine yy9 ?_; refine yy86 ?_; refine yy51 ?_; rotate_left; exact absurd hc auto_no) | fail)
        obtain rfl := b5.out
        exact ⟨.inl rfl, _, _, _, Ent.refl _ _, ret_2 rfl (rv1_tmp rfl) (rv1_tmp rfl), rfl, fun p y hp => d2.fr p y (b6 p y hp) (fun e => by rw [a3 p e] at hp; cases hp)⟩
      | some d =>
        rw [ha] at hA b5
        replace ha := Hdn.mk ha
        replace b5 := Hdn.mk b5
        (first | focus (refine yy10 ?_; refine aw_condp rfl (fun hc => ?_) (fun hc => ?_); refine yy26 ?_; refine yy63 ?_; refine yy58 ?_; refine yy91 ?_; refine yy3 ?_; refine yy22 ?_; refine yy29 ?_; (refine zc auto_wl (hP) ?_; rintro r H' ⟨rfl, rfl⟩); refine yy73 ?_; refine awl_alloc rfl rfl rfl (fun oN hoN => ?_); refine yy80 ?_; refine yy24 ?_; refine yy2 ?_; refine yy37 ?_; refine yy19 ?_; refine yy36 ?_; refine yy62 ?_; refine yy5 ?_; (refine zc auto_wl (hA) ?_; rintro r H' ⟨rfl, d1, d2⟩); refine yy5 ?_; refine yy37 ?_; refine yy43 ?_; refine yy76 ?_; refine yy23 ?_; rotate_left; exact absurd hc auto_no) | fail)
        obtain ⟨c1, c2, c3⟩ := hfa.out d ha.out
        exact ⟨mm - 1, _, _, by omega, auto_entg, i + 1, d, rfl, d1, c1, c2.trans b3, c3.trans b4, b5.out, fun p y hp => d2.fr p y (b6 p y hp) (fun e => by rw [a3 p e] at hp; cases hp), by omega⟩
    · rw [decide_eq_false hp] at hP
      rw [hs, if_neg hp] at b5
      subst b5
      clear hs hrd hp
      (first | focus (refine yy10 ?_; refine aw_condp rfl (fun hc => ?_) (fun hc => ?_); refine yy26 ?_; refine yy63 ?_; refine yy58 ?_; refine yy91 ?_; refine yy3 ?_; refine yy22 ?_; refine yy29 ?_; (refine zc auto_wl (hP) ?_; rintro r H' ⟨⟨x, rfl, _⟩, rfl⟩); refine yy73 ?_; refine awl_alloc rfl rfl rfl (fun oN hoN => ?_); refine yy80 ?_; refine yy24 ?_; refine yy2 ?_; refine yy37 ?_; refine yy2 ?_; refine yy34 ?_; refine yy48 ?_; refine yy79 ?_; refine yy30 ?_; refine yy9 ?_; refine yy86 ?_; refine yy51 ?_; rotate_left; exact absurd hc auto_no) | fail)
      exact ⟨.inl rfl, _, _, _, Ent.refl _ _, ret_2 rfl (rv1_tmp rfl) (rv1_tmp rfl), rfl, b6⟩
  obtain rfl : i = l.length := by omega
  rw [List.drop_length] at *
  rw [openB] at b5
  subst b5
  obtain ⟨off, hco, hset⟩ := b1.set a2
  have hset1 := hset { c with agreed := c.list.length } rfl rfl rfl rfl rfl
  clear hset
  have b10 := b1
  unfold coreC at hco
  (first | focus (refine yy10 ?_; refine yy28 ?_; intro hc; refine yy11 ?_; refine yy49 ?_; refine yy3 ?_; refine aw_condp rfl (fun hc => ?_) (fun hc => ?_); refine yy39 ?_; refine yy8 ?_; refine yy32 ?_; refine yy60 ?_; refine yy59 ?_; refine yy3 ?_; refine yy22 ?_; refine yy90 ?_; refine yy9 ?_; rotate_left; refine yy66 ?_; refine yy22 ?_; refine yy90 ?_; refine yy9 ?_; rotate_left) | fail)
  · dsimp only
    rw [if_pos hc]
    exact ⟨.inl rfl, _, _, _, Ent.refl _ _, ret_2 rfl (rv1_tmp rfl) (rv1_tmp rfl), ⟨F, rfl, hset1.1, a2, a3⟩, fun p y hp => hset1.2.fr p y (b6 p y hp) (fun e => by rw [a3 p e] at hp; cases hp)⟩
  · dsimp only
    rw [if_neg hc]
    exact ⟨.inl rfl, _, _, _, Ent.refl _ _, ret_2 rfl (rv1_tmp rfl) (rv1_tmp rfl), ⟨F, rfl, b10, a2, a3⟩, b6⟩
end Go.Proofs.Ytbciofnejefkiaa

namespace Go.Proofs.Ytbciofnejefkiaa
open Go Go.Am Go.Proofs
set_option linter.unusedSimpArgs false
set_option linter.unusedVariables false
set_option maxRecDepth 20000
set_option maxHeartbeats 4000000

/-! A copy of a part. -/
theorem vw_cell {xs : List AV} {off : Nat} {l : List En} {i : Nat} {e : En} (hx : xs.drop off = l.flatMap En.cells) (hg : l[i]? = some e) : (xs.drop (off + i * 3)).take 3 = e.cells := by
  rw [← List.drop_drop, hx]
  have h1 : l.flatMap En.cells = (l.take i).flatMap En.cells ++ (e.cells ++ (l.drop (i + 1)).flatMap En.cells) := by
    have e1 : l = l.take i ++ (e :: l.drop (i + 1)) := by
      rw [← (List.getElem?_eq_some_iff.1 hg).2, ← List.drop_eq_getElem_cons, List.take_append_drop]
    conv => lhs; rw [e1]
    rw [List.flatMap_append, List.flatMap_cons]
  have h2 : ((l.take i).flatMap En.cells).length = i * 3 := by
    have := (List.getElem?_eq_some_iff.1 hg).1
    rw [flat_len (sz := 3) (fun _ => rfl), List.length_take, Nat.min_eq_left (by omega)]
  rw [h1, ← h2, List.drop_left]
  rfl
theorem copies_vw (H : AHeap) (o off : Nat) (xs : List AV) (l : List En) (hl : l.length ≤ 1000000) (hr : ∀ e ∈ l, e.row.length ≤ 1000000) (hH : H o = some (.cel xs)) (hf : off + l.length * 3 = xs.length) (hx : xs.drop off = l.flatMap En.cells) :
    ACalls Try.prog 43 [.vw o 3 off l.length] H fun r H' => ∃ o', H o' = none ∧ r = .vw o' 3 0 l.length ∧ H' = H.set o' (.cel (l.flatMap En.cells)) := by
  refine acalls_of_aw1 Try.func43 rfl (by decide) ?_
  (first | focus (refine yy46 ?_; refine yy6 ?_; refine yy12 ?_; refine yy52 ?_; refine yy87 ?_; refine yy56 ?_; rotate_left) | fail)
  refine aw_own_nil 3 3 (.cel []) rfl rfl (fun oL hoL => ?_)
  refine aw_loop (fun mm R' H2 => ∃ (i oL : Nat), H oL = none ∧ H2 = H.set oL (.cel ((l.take i).flatMap En.cells)) ∧ R' = [(3, .vw oL 3 0 i), (6, .vw o 3 off l.length), (7, .raw (.int .i64 (l.length : Int))), (8, .raw (.int .i64 (i : Int)))] ∧ i + mm = l.length) ?_ ?_
  · exact ⟨l.length, _, _, auto_ent, 0, oL, hoL, by rw [List.take_zero]; rfl, rfl, by omega⟩
  clear hoL oL
  rintro mm R0 H2 ⟨i, oL, hoL, rfl, rfl, hi⟩
  have hfl : ((l.take i).flatMap En.cells).length = i * 3 := by rw [flat_len (sz := 3) (fun _ => rfl), List.length_take, Nat.min_eq_left (by omega)]
  have hne : o ≠ oL := fun e => by rw [e, hoL] at hH; cases hH
  by_cases hlt : i < l.length
  · have hg : l[i]? = some l[i] := List.getElem?_eq_getElem hlt
    have hm := hr _ (List.getElem_mem hlt)
    have hge := vw_cell hx hg
    have hsn : (l.take (i + 1)).flatMap En.cells = (l.take i).flatMap En.cells ++ (l[i]).cells := by rw [List.take_add_one, hg, List.flatMap_append]; simp [hg]
    generalize l[i] = e at *
    (first | focus (refine yy10 ?_; refine aw_condp rfl (fun hc => ?_) (fun hc => ?_); refine yy26 ?_; refine yy95 ?_; refine awl_s rfl (s_load_agg rfl auto_heap (by assumption) (by rfl) auto_len) ?_; refine awl_alloc rfl rfl rfl (fun oN hoN => ?_); refine yy80 ?_; refine yy3 ?_; refine aw_region ?_; refine yy52 ?_; refine yy62 ?_; (refine zc auto_wl (Copy_calls _ e hm) ?_; rintro r H' ⟨rfl, rfl⟩); refine yy92 ?_; refine za2 rfl rfl rfl (by assumption) auto_len auto_src auto_len auto_len (fun oN hoN => ?_); refine yy65 ?_; refine yy7 ?_; refine yy23 ?_; rotate_left; exact absurd hc auto_no) | fail)
    all_goals first
      | (exfalso; omega)
      | exact ⟨mm - 1, _, _, by omega, auto_entg, i + 1, oN, hoN, by rw [hsn]; rfl, rfl, by omega⟩
      | trace_state
  obtain rfl : i = l.length := by omega
  rw [List.take_length] at *
  (first | focus (refine yy10 ?_; refine yy28 ?_; intro hc; refine yy4 ?_; refine yy52 ?_; refine yy65 ?_; refine yy25 ?_; rotate_left) | fail)
  all_goals first
    | (exfalso; omega)
    | exact ⟨.inl rfl, _, _, _, Ent.refl _ _, ret1 rfl rfl, oL, hoL, rfl, rfl⟩
/-! A map is copied. -/
theorem MI.get_at {k : Int} {u : AV} : ∀ {es : MI}, es.get k = some u → ∃ i : Nat, es[i]? = some (k, u)
  | [], h => by cases h
  | (a, v) :: es, h => by
    unfold MI.get at h
    split at h
    · next e => cases h; exact ⟨0, by rw [e]; rfl⟩
    · obtain ⟨i, hi⟩ := MI.get_at h; exact ⟨i + 1, hi⟩
theorem MI.at_get {k : Int} {u : AV} : ∀ {es : MI} {i : Nat}, (es.map (·.1)).Nodup → es[i]? = some (k, u) → es.get k = some u
  | [], _, _, h => by cases h
  | (a, v) :: es, 0, _, h => by cases h; unfold MI.get; rw [if_pos rfl]
  | (a, v) :: es, i + 1, hn, h => by
    rw [List.map_cons, List.nodup_cons] at hn
    have hi : es[i]? = some (k, u) := h
    unfold MI.get
    rw [if_neg (fun e => hn.1 (by rw [e]; exact List.mem_map.2 ⟨(k, u), List.mem_of_getElem? hi, rfl⟩))]
    exact MI.at_get hn.2 hi
theorem MI.put_len {k : Int} {v : AV} : ∀ {es : MI}, es.get k = none → (es.put k v).length = es.length + 1
  | [], _ => rfl
  | (a, u) :: es, h => by
    unfold MI.get at h
    split at h
    · cases h
    · next e => unfold MI.put; rw [if_neg e, List.length_cons, List.length_cons, MI.put_len h]
theorem nd_len : ∀ {a b : List Nat}, a.Nodup → (∀ x ∈ a, x ∈ b) → a.length ≤ b.length
  | [], b, _, _ => Nat.zero_le _
  | x :: a, b, h, hs => by
    rw [List.nodup_cons] at h
    have hx := hs x List.mem_cons_self
    have := nd_len (a := a) (b := b.erase x) h.2 fun y hy => by
      have hne : y ≠ x := fun e => h.1 (by rw [← e]; exact hy)
      exact (List.mem_erase_of_ne hne).2 (hs y (List.mem_cons_of_mem _ hy))
    rw [List.length_erase_of_mem hx] at this
    have : 0 < b.length := List.length_pos_of_mem hx
    rw [List.length_cons]; omega
theorem nd_at {α : Type} {l : List α} (h : l.Nodup) {i j : Nat} {k : α} (hi : l[i]? = some k) (hj : l[j]? = some k) : i = j := by
  obtain ⟨a1, a2⟩ := List.getElem?_eq_some_iff.1 hi
  obtain ⟨b1, b2⟩ := List.getElem?_eq_some_iff.1 hj
  have hp := List.pairwise_iff_getElem.1 h
  rcases Nat.lt_trichotomy i j with hlt | e | hlt
  · exact absurd (a2.trans b2.symm) (hp i j a1 b1 hlt)
  · exact e
  · exact absurd (b2.trans a2.symm) (hp j i b1 a1 hlt)
structure Cpd (eg es2 : MI) (born seen : List Nat) : Prop where
  sub : ∀ k u, es2.get k = some u → eg.get k = some u
  did : ∀ (i b : Nat) (p : Int × AV), born[i]? = some b → b ∈ seen → eg[i]? = some p → es2.get p.1 = some p.2
  yet : ∀ (i b : Nat) (p : Int × AV), born[i]? = some b → b ∉ seen → eg[i]? = some p → es2.get p.1 = none
  len : es2.length = seen.length
  nd : (es2.map (·.1)).Nodup
  snd : seen.Nodup
  ss : ∀ b ∈ seen, b ∈ born
theorem Cpd.nil (eg : MI) (born : List Nat) : Cpd eg [] born [] :=
  ⟨fun k u h => (by cases h), fun _ _ _ _ h => (by cases h), fun _ _ _ _ _ _ => rfl, rfl, List.Pairwise.nil, List.Pairwise.nil, fun _ h => (by cases h)⟩
theorem Cpd.step {eg es2 : MI} {born seen : List Nat} (h : Cpd eg es2 born seen) (hn : (eg.map (·.1)).Nodup) (hb : born.Nodup) {i b : Nat} {k : Int} {v : AV} (h1 : born[i]? = some b) (h2 : b ∉ seen) (h3 : eg[i]? = some (k, v)) : Cpd eg (es2.put k v) born (seen ++ [b]) := by
  have hnone := h.yet i b _ h1 h2 h3
  refine ⟨fun k' u hk => ?_, fun j b' p hj hm hp => ?_, fun j b' p hj hm hp => ?_, ?_, put_nd h.nd, ?_, fun x hx => ?_⟩
  · rw [get_put] at hk
    split at hk
    · next e => cases hk; rw [← e]; exact MI.at_get hn h3
    · exact h.sub k' u hk
  · rw [get_put]
    split
    · next e =>
      have : i = j := nd_at hn (i := i) (j := j) (k := k) (by rw [List.getElem?_map, h3]; rfl) (by rw [List.getElem?_map, hp, e]; rfl)
      subst this
      rw [h3] at hp; cases hp; rfl
    · next e =>
      rcases List.mem_append.1 hm with hm | hm
      · exact h.did j b' p hj hm hp
      · rw [List.mem_singleton.1 hm] at hj
        have : i = j := nd_at hb h1 hj
        subst this
        rw [h3] at hp; cases hp; exact absurd rfl e
  · rw [List.mem_append, not_or] at hm
    have h4 := h.yet j b' p hj hm.1 hp
    rw [get_put, if_neg ?_]
    · exact h4
    · intro e
      have : i = j := nd_at hn (i := i) (j := j) (k := k) (by rw [List.getElem?_map, h3]; rfl) (by rw [List.getElem?_map, hp, e]; rfl)
      subst this
      rw [h1] at hj; cases hj; exact hm.2 (List.mem_singleton.2 rfl)
  · rw [MI.put_len hnone, h.len, List.length_append]; rfl
  · rw [List.nodup_append]
    exact ⟨h.snd, by simp, fun x hx y hy e => h2 (by rw [List.mem_singleton.1 hy] at e; rw [← e]; exact hx)⟩
  · rcases List.mem_append.1 hx with hx | hx
    · exact h.ss x hx
    · rw [List.mem_singleton.1 hx]; exact List.mem_of_getElem? h1
theorem Cpd.lt {eg es2 : MI} {born seen : List Nat} (h : Cpd eg es2 born seen) {b : Nat} (h1 : b ∈ born) (h2 : b ∉ seen) : seen.length < born.length := by
  have := nd_len (a := b :: seen) (b := born) (List.nodup_cons.2 ⟨h2, h.snd⟩) fun x hx => by
    rcases List.mem_cons.1 hx with hx | hx
    · rw [hx]; exact h1
    · exact h.ss x hx
  rw [List.length_cons] at this; omega
theorem Cpd.done {eg es2 : MI} {born seen : List Nat} (h : Cpd eg es2 born seen) (hb : born.Nodup) (hl : born.length = eg.length) (hs : ∀ b ∈ born, b ∈ seen) : (∀ k, es2.get k = eg.get k) ∧ es2.length = eg.length := by
  refine ⟨fun k => ?_, ?_⟩
  · cases he : eg.get k with
    | some u =>
      obtain ⟨i, hi⟩ := MI.get_at he
      have hlt := (List.getElem?_eq_some_iff.1 hi).1
      have hb : born[i]? = some (born[i]'(by omega)) := List.getElem?_eq_getElem (by omega)
      exact h.did i _ _ hb (hs _ (List.mem_of_getElem? hb)) hi
    | none =>
      cases h2 : es2.get k with
      | none => rfl
      | some u => rw [h.sub k u h2] at he; cases he
  · have h1 := nd_len h.snd h.ss
    have h2 := nd_len hb hs
    rw [h.len]; omega
theorem MI.get_none {k : Int} : ∀ {es : MI}, es.get k = none → k ∉ es.map (·.1)
  | [], _ => by simp
  | (a, u) :: es, h => by
    unfold MI.get at h
    split at h
    · cases h
    · next e =>
      rw [List.map_cons, List.mem_cons, not_or]
      exact ⟨fun x => e x.symm, MI.get_none h⟩
theorem count_one (n : Nat) (a : Int) : (List.range n).countP (fun r : Nat => decide (a = (r : Int))) ≤ 1 := by
  have h : ∀ l : List Nat, l.Nodup → l.countP (fun r : Nat => decide (a = (r : Int))) ≤ 1 := by
    intro l
    induction l with
    | nil => intro _; simp
    | cons x l ih =>
      intro hn
      rw [List.nodup_cons] at hn
      rw [List.countP_cons]
      by_cases e : a = (x : Int)
      · have : l.countP (fun r : Nat => decide (a = (r : Int))) = 0 := by
          rw [List.countP_eq_zero]
          intro y hy hq
          have : a = (y : Int) := by simpa using hq
          have : x = y := by omega
          exact hn.1 (by rw [this]; exact hy)
        rw [this]; split <;> omega
      · rw [if_neg (by simpa using e)]; exact ih hn.2
  exact h _ List.nodup_range
theorem count_or (P Q : Nat → Bool) : ∀ l : List Nat, l.countP (fun r => P r || Q r) ≤ l.countP P + l.countP Q
  | [] => by simp
  | x :: l => by
    have ih := count_or P Q l
    simp only [List.countP_cons]
    cases P x <;> cases Q x <;> simp <;> omega
theorem MI.size_le (n : Nat) : ∀ es : MI, (List.range n).countP (fun r : Nat => (MI.get es (r : Int)).isSome) ≤ es.length ∧ ((List.range n).countP (fun r : Nat => (MI.get es (r : Int)).isSome) = es.length → (es.map (·.1)).Nodup)
  | [] => ⟨by simp [MI.get], fun _ => List.Pairwise.nil⟩
  | (a, v) :: es => by
    obtain ⟨i1, i2⟩ := MI.size_le n es
    have he : (fun r : Nat => ((MI.get ((a, v) :: es) (r : Int)).isSome)) = fun r : Nat => (decide (a = (r : Int)) || (MI.get es (r : Int)).isSome) := by
      funext r
      by_cases e : a = (r : Int)
      · simp [MI.get, e]
      · simp [MI.get, e]
    rw [he, List.length_cons]
    have h1 := count_or (fun r : Nat => decide (a = (r : Int))) (fun r : Nat => (MI.get es (r : Int)).isSome) (List.range n)
    have h2 := count_one n a
    refine ⟨by omega, fun h => ?_⟩
    have h3 : MI.get es a = none := by
      cases hg : MI.get es a with
      | none => rfl
      | some u =>
        exfalso
        have : (fun r : Nat => (decide (a = (r : Int)) || (MI.get es (r : Int)).isSome)) = fun r : Nat => (MI.get es (r : Int)).isSome := by
          funext r
          by_cases e : a = (r : Int)
          · rw [← e, hg]; simp
          · simp [e]
        rw [this] at h; omega
    rw [List.map_cons, List.nodup_cons]
    exact ⟨MI.get_none h3, i2 (by omega)⟩
theorem GotM.nd {es : MI} {c : Ag.Co} (h : GotM es c) : (es.map (·.1)).Nodup := by
  refine (MI.size_le c.n es).2 ?_
  rw [h.len]
  unfold Ag.Co.size
  congr 1
  funext r
  rw [h.get, if_pos (by omega), Int.toNat_natCast]
  cases c.got r <;> rfl
theorem map_at {ik : IntKind} {es : MI} {i : Nat} {k v : AV} (h : (es.map fun p => (AV.raw (.int ik p.1), p.2))[i]? = some (k, v)) : ∃ a : Int, k = .raw (.int ik a) ∧ es[i]? = some (a, v) := by
  rw [List.getElem?_map] at h
  cases he : es[i]? with
  | none => rw [he] at h; cases h
  | some p => rw [he] at h; cases h; exact ⟨p.1, rfl, rfl⟩
end Go.Proofs.Ytbciofnejefkiaa

namespace Go.Proofs.Ytbciofnejefkiaa
open Go Go.Am Go.Proofs
set_option linter.unusedSimpArgs false
set_option linter.unusedVariables false
set_option maxRecDepth 20000
set_option maxHeartbeats 4000000

/-! A copy of a part: the walk. -/
theorem CopyP_calls (H : AHeap) (F : Ob) (c : Ag.Co) (h : CAt H F c) (nd : NdC F) (hf : CFine c) :
    ACalls Try.prog 28 [.ptr F.o 0] H fun r H' => ∃ F2 : Ob, r = .ptr F2.o 0 ∧ CAt H' F2 c ∧ NdC F2 ∧ (∀ p ∈ F2.c, H p = none) ∧ ∀ p y, H p = some y → H' p = some y := by
  obtain ⟨⟨off, xs, hco, hw, hx1, hx2⟩, ⟨eg, hg, hg2⟩, ⟨eh, hh, hh2⟩⟩ := h
  obtain ⟨n1, n2, n3, n4, n5, n6⟩ := nd
  have f1 := hf.list.len
  have f2 := hf.list.ok
  have f3 := hf.wait.len
  have f4 := hf.wait.ok
  have hc1 := fun H => (copies_own H c.list (by omega) fun e he => by have := (f2 e he).2; omega).seal_cel (flat_len (sz := 3) (fun _ => rfl) _)
  have hc2 := fun H h => copies_vw H F.ow off xs c.wait (by omega) (fun e he => by have := (f4 e he).2; omega) h hx1 hx2
  unfold coreC at hco
  refine acalls_of_aw1 Try.func28 rfl (by decide) ?_
  (first | focus (refine yy46 ?_; refine yy17 ?_; refine awl_s rfl (s_nilCheck_ptr rfl) ?_; refine yy100 ?_; refine awl_alloc rfl rfl rfl (fun oN hoN => ?_); refine yy78 ?_; refine yy3 ?_; refine aw_seq ?_; refine DC.aw_drawp (fun H' => H' F.o = some (.cel [mI c.me, mI c.n, uI c.view, uI c.last, lsE c.list, mI c.agreed, bB c.lead, mI c.quiet, .mp F.og, .mp F.oh, .vw F.ow 3 off c.wait.length]) ∧ H' F.ow = some (.cel xs)) (by first | exact ⟨auto_heap, auto_heap⟩) auto_kr auto_dk auto_dk ?_; (apply DC.awn_s; · (intro H1 hPsi; (try dsimp only at hPsi); (try (obtain ⟨hPsi, hPsi2⟩ := hPsi)); exact s_move (v := .ptr _ _) rfl)); (apply DC.awn_s; · (intro H1 hPsi; (try dsimp only at hPsi); (try (obtain ⟨hPsi, hPsi2⟩ := hPsi)); exact s_nilCheck_ptr rfl)); (apply DC.awn_s; · (intro H1 hPsi; (try dsimp only at hPsi); (try (obtain ⟨hPsi, hPsi2⟩ := hPsi)); exact s_fieldAddr_ptr rfl)); (apply DC.awn_s; · (intro H1 hPsi; (try dsimp only at hPsi); (try (obtain ⟨hPsi, hPsi2⟩ := hPsi)); exact s_load_cel rfl auto_heap rfl)); refine DC.awn_b ?_; (apply DC.awn_s; · (intro H1 hPsi; (try dsimp only at hPsi); (try (obtain ⟨hPsi, hPsi2⟩ := hPsi)); exact s_move (v := .ptr _ _) rfl)); (apply DC.awn_s; · (intro H1 hPsi; (try dsimp only at hPsi); (try (obtain ⟨hPsi, hPsi2⟩ := hPsi)); exact s_nilCheck_ptr rfl)); (apply DC.awn_s; · (intro H1 hPsi; (try dsimp only at hPsi); (try (obtain ⟨hPsi, hPsi2⟩ := hPsi)); exact s_fieldAddr_ptr rfl)); (apply DC.awn_s; · (intro H1 hPsi; (try dsimp only at hPsi); (try (obtain ⟨hPsi, hPsi2⟩ := hPsi)); exact s_load_cel rfl auto_heap rfl)); refine DC.awn_b ?_; (apply DC.awn_s; · (intro H1 hPsi; (try dsimp only at hPsi); (try (obtain ⟨hPsi, hPsi2⟩ := hPsi)); exact s_fieldAddr_ptr rfl)); refine DC.awn_b0 ?_; (apply DC.awn_s; · (intro H1 hPsi; (try dsimp only at hPsi); (try (obtain ⟨hPsi, hPsi2⟩ := hPsi)); exact s_fieldAddr_ptr rfl)); refine DC.awn_b0 ?_; refine DC.awn_nil ?_; refine DC.awc_cons (fun Rx K1 hK1x => ?_); (refine zc auto_wl (hc1 _) ?_; rintro r H' ⟨rfl, rfl⟩); refine yy7 ?_; (refine hK1x _ _ (by first | exact Or.inl (by decide +kernel) | (refine Or.inr ?_; (try dsimp only); first | exact ⟨auto_heap, auto_heap⟩)) ?_; clear hK1x K1 Rx); refine DC.awc_cons (fun Rx K1 hK1x => ?_); (refine zc auto_wl (hc2 _ auto_heap) ?_; rintro r H' ⟨ow2, how2, rfl, rfl⟩); refine yy7 ?_; (refine hK1x _ _ (by first | exact Or.inl (by decide +kernel) | (refine Or.inr ?_; (try dsimp only); first | exact ⟨auto_heap, auto_heap⟩)) ?_; clear hK1x K1 Rx); refine DC.awc_cons0 (fun Rx K1 hK1x => ?_); refine yy72 ?_; (refine hK1x _ (by first | exact Or.inl (by decide +kernel) | (refine Or.inr ?_; (try dsimp only); first | exact ⟨auto_heap, auto_heap⟩)) ?_; clear hK1x K1 Rx); refine DC.awc_cons0 (fun Rx K1 hK1x => ?_); refine yy67 ?_; refine yy7 ?_; (refine hK1x _ (by first | exact Or.inl (by decide +kernel) | (refine Or.inr ?_; (try dsimp only); first | exact ⟨auto_heap, auto_heap⟩)) ?_; clear hK1x K1 Rx); refine DC.awc_nil ?_; refine yy47 ?_; refine yy4 ?_; refine awl_makeMapI rfl (fun oN hoN => ?_); refine awl_makeMapI rfl (fun oN hoN => ?_); refine yy61 ?_; refine yy59 ?_; refine yy61 ?_; refine yy67 ?_; refine yy3 ?_; rotate_left) | fail)
  rename_i oO hoO oG hoG
  have hoH := hoN
  generalize hqq : oN = oH at *
  clear hqq hoN oN
  refine aw_ent (R' := [(0, .ptr F.o 0), (3, .ptr oO 0)]) (Ent.sub _ (by (repeat' (first | exact RSub.nil _ | apply RSub.cons)); all_goals rfl)) ?_
  refine aw_gen (fun H2 => H2 oO = some (.cel (coreC c oG oH (.vw ow2 3 0 c.wait.length))) ∧ H2 ow2 = some (.cel (c.wait.flatMap En.cells)) ∧ H2 oG = some (MI.ao .i64 []) ∧ H2 oH = some (MI.ao .i64 []) ∧ oG ≠ oO ∧ oH ≠ oO ∧ ow2 ≠ oO ∧ oG ≠ oH ∧ oG ≠ ow2 ∧ oH ≠ ow2 ∧ H ow2 = none ∧ H oG = none ∧ H oH = none ∧ ∀ p y, H p = some y → H2 p = some y) ?_ ?_
  · have a1 : ow2 ≠ oO := AHeap.ne_of_fresh how2
    have a2 : H ow2 = none := AHeap.none_of_set how2
    have g0 := AHeap.none_of_set hoG
    have g1 := AHeap.none_of_set g0
    have a3 : oG ≠ oO := AHeap.ne_of_fresh hoG
    have a4 : oG ≠ ow2 := AHeap.ne_of_fresh g0
    have a5 : H oG = none := AHeap.none_of_set g1
    have h0 := AHeap.none_of_set hoH
    have h1 := AHeap.none_of_set h0
    have h2 := AHeap.none_of_set h1
    have a6 : oH ≠ oG := AHeap.ne_of_fresh hoH
    have a7 : oH ≠ oO := AHeap.ne_of_fresh h0
    have a8 : oH ≠ ow2 := AHeap.ne_of_fresh h1
    have a9 : H oH = none := AHeap.none_of_set h2
    clear hoG hoH how2 g0 g1 h0 h1 h2
    refine ⟨by exact auto_heap, by exact auto_heap, by exact auto_heap, by exact auto_heap, a3, a7, a1, a6.symm, a4, a8, a2, a5, a9, fun p y hp => ?_⟩
    have hne : ∀ {q : Nat}, H q = none → p ≠ q := fun b e => by rw [e, b] at hp; cases hp
    have b1 := hne hoO
    have b2 := hne a2
    have b3 := hne a5
    have b4 := hne a9
    exact auto_heap
  clear hoG hoH how2
  rintro H2 ⟨q1, q2, q3, q4, d1, d2, d3, d4, d5, d6, r1, r2, r3, fr⟩
  have hne : ∀ {H : AHeap} {p q : Nat} {y : AO}, H p = some y → H q = none → p ≠ q := fun a b e => by rw [e, b] at a; cases a
  have e1 := fr _ _ hco
  have e2 := fr _ _ hw
  have e3 := fr _ _ hg
  have e4 := fr _ _ hh
  have u1 := hne hco hoO
  have u2 := hne hg hoO
  have u3 := hne hg r2
  have u4 := hne hg r1
  have u5 := hne hg r3
  have u6 := hne hh hoO
  have u7 := hne hh r2
  have u8 := hne hh r1
  have u9 := hne hh r3
  unfold coreC at q1
  (first | focus (refine yy12 ?_; refine yy8 ?_; refine awl_rangeI rfl rfl auto_heap (fun oN mbN clN brN hoN hbl hbn hbc => ?_); refine yy3 ?_; refine aw_block ?_; rotate_left) | fail)
  have v1 : ∀ p, H2 p = none → H p = none := fun p hp => by
    cases hx : H p with
    | none => rfl
    | some y => rw [fr _ _ hx] at hp; cases hp
  have hoi0 := v1 _ hoN
  have w1 := hne q1 hoN
  have w2 := hne q2 hoN
  have w3 := hne q3 hoN
  have w4 := hne q4 hoN
  have w5 := hne hco hoi0
  have w6 := hne hg hoi0
  have w7 := hne hh hoi0
  have w8 := hne hw hoi0
  have hoi := hoN
  generalize hqq : oN = oi at *
  clear hqq hoN oN
  have hgd := hg2.nd
  refine aw_loop (fun mm R' H3 => ∃ (seen : List Nat) (es2 : MI), R' = [(0, .ptr F.o 0), (3, .ptr oO 0), (31, .ptr oi 0)] ∧ H3 oi = some (itrO mbN clN clN seen) ∧ H3 F.og = some (mpxO mbN clN (eg.map fun p => (AV.raw (.int .i64 p.1), p.2)) brN) ∧ H3 oO = some (.cel [mI c.me, mI c.n, uI c.view, uI c.last, lsE c.list, mI c.agreed, bB c.lead, mI c.quiet, .mp oG, .mp oH, .vw ow2 3 0 c.wait.length]) ∧ H3 ow2 = some (.cel (c.wait.flatMap En.cells)) ∧ H3 oG = some (MI.ao .i64 es2) ∧ H3 oH = some (MI.ao .i64 []) ∧ (∀ p y, H p = some y → p ≠ F.og → H3 p = some y) ∧ Cpd eg es2 brN seen ∧ seen.length + mm = brN.length) ?_ ?_
  · exact ⟨brN.length, _, _, auto_ent, [], [], rfl, by exact auto_heap, by exact auto_heap, by exact auto_heap, by exact auto_heap, by exact auto_heap, by exact auto_heap, fun p y hp hF => AHeap.get_skip (hne hp hoi0) (AHeap.get_skip hF (fr _ _ hp)), Cpd.nil _ _, by simp⟩
  clear e1 e2 e3 e4 q1 q2 q3 q4 fr hoi v1 H2
  rintro mm R0 H3 ⟨seen, es2, rfl, p1, p2, p3, p4, p5, p6, p7, p8, p9⟩
  have e1 := p7 _ _ hco n1
  (first | focus (refine yy4 ?_; refine awl_nextI rfl rfl auto_heap auto_heap (fun iN kN vN bN heN hbN hsN => ?_) (fun hsN => ?_); refine awl_s rfl (s_extract rfl rfl) ?_; refine yy3 ?_; refine aw_seq ?_; refine yy42 ?_; refine yy66 ?_; refine yy101 ?_; rotate_left; refine awl_s rfl (s_extract rfl rfl) ?_; refine yy3 ?_; refine aw_seq ?_; refine aw_cond_f rfl ?_; refine yy109 ?_; refine yy12 ?_; refine yy8 ?_; rotate_left) | fail)
  · obtain ⟨kk, rfl, he⟩ := map_at heN
    have hgk := MI.at_get hgd he
    rw [hg2.get kk] at hgk
    by_cases hk0 : 0 ≤ kk
    rotate_left
    · rw [if_neg hk0] at hgk; cases hgk
    rw [if_pos hk0] at hgk
    cases hq : c.got kk.toNat with
    | none => rw [hq] at hgk; cases hgk
    | some x =>
    rw [hq] at hgk
    cases hgk
    have hxl := (hf.got _ _ hq).2.2.len
    have hxr := (hf.got _ _ hq).2.2.ok
    have hc3 := fun H => (copies_own H x.list (by omega) fun e he => by have := (hxr e he).2; omega).seal_cel (flat_len (sz := 3) (fun _ => rfl) _)
    have hst := p8.step hgd hbn hbN hsN he
    have hlt := p8.lt (List.mem_of_getElem? hbN) hsN
    clear hq hxl hxr hc1 hc2
    unfold voteA at *
    have pM : (H3.set oi (itrO mbN clN clN (seen ++ [bN]))) F.og = some (mpxO mbN clN (eg.map fun p => (AV.raw (.int .i64 p.1), p.2)) brN) := by exact auto_heap
    (first | focus (refine awl_s rfl (s_entryI rfl auto_heap auto_heap (by assumption) (by assumption)) ?_; refine awl_s rfl (s_extract rfl rfl) ?_; refine awl_s rfl (s_extract rfl rfl) ?_; refine awl_alloc rfl rfl rfl (fun oN hoN => ?_); refine yy30 ?_; refine yy80 ?_; refine yy3 ?_; refine yy82 ?_; (apply awt_s; · exact s_fieldAddr_ptr rfl); (apply awt_s; · exact s_load_cel rfl auto_heap rfl); (apply awt_s; · exact s_move (v := .raw _) rfl); (apply awt_s; · exact s_fieldAddr_pce rfl); (apply awt_s; · exact s_load_pce rfl auto_idx); (apply awt_s; · exact s_fieldAddr_pce rfl); (apply awt_s; · exact s_load_pce rfl auto_idx); (apply awt_s; · exact s_callc auto_wl (hc3 _)); (apply awt_s; · exact s_buildv (by ((repeat' (first | exact eqL_nil | apply eqL_cons)); all_goals (first | exact (rfl : _ = AV.raw _) | exact (rfl : _ = AV.bys _) | exact (rfl : _ = AV.vw _ _ _ _) | exact (rfl : _ = AV.ptr _ _) | exact (rfl : _ = AV.str _) | exact (rfl : _ = AV.sls _ _) | exact (rfl : _ = AV.tup _) | exact (rfl : _ = AV.agg _) | exact (rfl : _ = AV.pce _ _) | exact (rfl : _ = AV.emp) | exact (rfl : _ = AV.bysx _) | exact (rfl : _ = AV.slsx _ _) | exact (rfl : _ = AV.mp _) | exact (rfl : _ = AV.fnc _ _ _) | exact (rfl : _ = AV.pby _ _) | exact (rfl : _ = AV.ifc _ _)))) (by rfl)); refine awt_last ?_; refine awl_mapUpdateI rfl rfl auto_mv auto_heap ?_; refine yy7 ?_; refine yy38 ?_; rotate_left) | fail)
    exact ⟨mm - 1, _, _, by omega, auto_ent, seen ++ [bN], es2.put kk (.agg [uI x.last, lsE x.list]), rfl, by exact auto_heap, by exact auto_heap, by exact auto_heap, by exact auto_heap, by exact auto_heap, by exact auto_heap, fun p y hp hF => AHeap.get_skip (hne hp r2) (AHeap.get_skip (hne hp hoi0) (p7 p y hp hF)), hst, by rw [List.length_append]; simp only [List.length_cons, List.length_nil]; omega⟩
  · obtain ⟨z1, z2⟩ := p8.done hbn hbl hsN
    have hG2 : GotM es2 c := ⟨fun k => (z1 k).trans (hg2.get k), z2.trans hg2.len⟩
    have x1 := p7 _ _ hh n4.symm
    refine awl_ent (R' := [(0, .ptr F.o 0), (3, .ptr oO 0), (49, .mp F.oh)]) ((Ent.unpin p2).trans (Ent.sub _ (by (repeat' (first | exact RSub.nil _ | apply RSub.cons)); all_goals rfl))) ?_
    refine awl_gen (fun H4 => H4 oO = some (.cel [mI c.me, mI c.n, uI c.view, uI c.last, lsE c.list, mI c.agreed, bB c.lead, mI c.quiet, .mp oG, .mp oH, .vw ow2 3 0 c.wait.length]) ∧ H4 ow2 = some (.cel (c.wait.flatMap En.cells)) ∧ H4 oG = some (MI.ao .i64 es2) ∧ H4 oH = some (MI.ao .i64 []) ∧ ∀ p y, H p = some y → H4 p = some y) ?_ ?_
    · refine ⟨by exact auto_heap, by exact auto_heap, by exact auto_heap, by exact auto_heap, fun p y hp => ?_⟩
      by_cases hF : p = F.og
      · rw [hF, hg] at hp; cases hp; rw [hF]; exact AHeap.set_self _ _ _
      · exact AHeap.get_skip hF (p7 p y hp hF)
    clear p1 p2 p3 p4 p5 p6 p7 p8 p9 hbn hbl hsN z1 z2 hbc hoi0 w1 w2 w3 w4 w5 w6 w7 w8 e1 x1 H3
    rintro H4 ⟨p3, p4, p5, p6, p7⟩
    have e1 := p7 _ _ hh
    (first | focus (refine awl_rangeI rfl rfl auto_heap (fun oN mbN clN brN hoN hbl hbn hbc => ?_); refine yy3 ?_; refine aw_block ?_; rotate_left) | fail)
    have v1 : ∀ p, H4 p = none → H p = none := fun p hp => by
      cases hx : H p with
      | none => rfl
      | some y => rw [p7 _ _ hx] at hp; cases hp
    have hoi0 := v1 _ hoN
    have w1 := hne p3 hoN
    have w2 := hne p4 hoN
    have w3 := hne p5 hoN
    have w4 := hne p6 hoN
    have w5 := hne hco hoi0
    have w6 := hne hg hoi0
    have w7 := hne hh hoi0
    have w8 := hne hw hoi0
    have hoj := hoN
    generalize hqq : oN = oj at *
    clear hqq hoN oN
    have hgd := hh2.nd
    refine aw_loop (fun mm R' H3 => ∃ (seen : List Nat) (es3 : MI), R' = [(0, .ptr F.o 0), (3, .ptr oO 0), (50, .ptr oj 0)] ∧ H3 oj = some (itrO mbN clN clN seen) ∧ H3 F.oh = some (mpxO mbN clN (eh.map fun p => (AV.raw (.int .i64 p.1), p.2)) brN) ∧ H3 oO = some (.cel [mI c.me, mI c.n, uI c.view, uI c.last, lsE c.list, mI c.agreed, bB c.lead, mI c.quiet, .mp oG, .mp oH, .vw ow2 3 0 c.wait.length]) ∧ H3 ow2 = some (.cel (c.wait.flatMap En.cells)) ∧ H3 oG = some (MI.ao .i64 es2) ∧ H3 oH = some (MI.ao .i64 es3) ∧ (∀ p y, H p = some y → p ≠ F.oh → H3 p = some y) ∧ Cpd eh es3 brN seen ∧ seen.length + mm = brN.length) ?_ ?_
    · exact ⟨brN.length, _, _, auto_ent, [], [], rfl, by exact auto_heap, by exact auto_heap, by exact auto_heap, by exact auto_heap, by exact auto_heap, by exact auto_heap, fun p y hp hF => AHeap.get_skip (hne hp hoi0) (AHeap.get_skip hF (p7 _ _ hp)), Cpd.nil _ _, by simp⟩
    clear e1 p3 p4 p5 p6 p7 hoj v1 H4
    rintro mm R0 H3 ⟨seen, es3, rfl, p1, p2, p3, p4, p5, p6, p7, p8, p9⟩
    have e1 := p7 _ _ hco n2
    (first | focus (refine yy4 ?_; refine awl_nextI rfl rfl auto_heap auto_heap (fun iN kN vN bN heN hbN hsN => ?_) (fun hsN => ?_); refine awl_s rfl (s_extract rfl rfl) ?_; refine yy3 ?_; refine aw_seq ?_; refine yy42 ?_; refine yy66 ?_; refine yy101 ?_; rotate_left; refine awl_s rfl (s_extract rfl rfl) ?_; refine yy3 ?_; refine aw_seq ?_; refine aw_cond_f rfl ?_; refine yy109 ?_; refine yy4 ?_; refine yy90 ?_; refine yy25 ?_; rotate_left) | fail)
    · obtain ⟨kk, rfl, he⟩ := map_at heN
      have hgk := MI.at_get hgd he
      rw [hh2.get kk] at hgk
      by_cases hk0 : 0 ≤ kk
      rotate_left
      · rw [if_neg hk0] at hgk; cases hgk
      rw [if_pos hk0] at hgk
      cases hq : c.held kk.toNat with
      | none => rw [hq] at hgk; cases hgk
      | some x =>
      rw [hq] at hgk
      cases hgk
      have hst := p8.step hgd hbn hbN hsN he
      have hlt := p8.lt (List.mem_of_getElem? hbN) hsN
      clear hq hc1 hc2
      have pM : (H3.set oj (itrO mbN clN clN (seen ++ [bN]))) F.oh = some (mpxO mbN clN (eh.map fun p => (AV.raw (.int .i64 p.1), p.2)) brN) := by exact auto_heap
      (first | focus (refine awl_s rfl (s_entryI rfl auto_heap auto_heap (by assumption) (by assumption)) ?_; refine awl_s rfl (s_extract rfl rfl) ?_; refine awl_s rfl (s_extract rfl rfl) ?_; refine yy30 ?_; refine yy6 ?_; refine aw_region ?_; refine yy61 ?_; refine yy94 ?_; refine yy2 ?_; refine yy2 ?_; refine awl_mapUpdateI rfl rfl auto_mv auto_heap ?_; refine yy7 ?_; refine yy38 ?_; rotate_left) | fail)
      exact ⟨mm - 1, _, _, by omega, auto_ent, seen ++ [bN], es3.put kk (uI x), rfl, by exact auto_heap, by exact auto_heap, by exact auto_heap, by exact auto_heap, by exact auto_heap, by exact auto_heap, fun p y hp hF => AHeap.get_skip (hne hp r3) (AHeap.get_skip (hne hp hoi0) (p7 p y hp hF)), hst, by rw [List.length_append]; simp only [List.length_cons, List.length_nil]; omega⟩
    · obtain ⟨z1, z2⟩ := p8.done hbn hbl hsN
      have hH3 : HeldM es3 c := ⟨fun k => (z1 k).trans (hh2.get k), p8.nd⟩
      refine ⟨.inl rfl, _, _, _, Ent.unpin p2, ret1 rfl rfl, ⟨oO, oG, oH, ow2, 0, 0, 0⟩, rfl, ⟨⟨0, c.wait.flatMap En.cells, AHeap.get_skip u6.symm p3, AHeap.get_skip u8.symm p4, by rw [flat_len (sz := 3) (fun _ => rfl)]; omega, rfl⟩, ⟨es2, AHeap.get_skip u7.symm p5, hG2⟩, ⟨es3, AHeap.get_skip u9.symm p6, hH3⟩⟩, ⟨d1.symm, d2.symm, d3.symm, d4, d5, d6⟩, fun p hp => ?_, fun p y hp => ?_⟩
      · simp only [Ob.c, List.mem_cons, List.not_mem_nil, or_false] at hp
        rcases hp with e | e | e | e <;> rw [e]
        · exact hoO
        · exact r2
        · exact r3
        · exact r1
      · by_cases hF : p = F.oh
        · rw [hF, hh] at hp; cases hp; rw [hF]; exact AHeap.set_self _ _ _
        · exact AHeap.get_skip hF (p7 p y hp hF)
end Go.Proofs.Ytbciofnejefkiaa

namespace Go.Proofs.Ytbciofnejefkiaa
open Go Go.Am Go.Proofs
set_option linter.unusedSimpArgs false
set_option linter.unusedVariables false
set_option maxRecDepth 20000
set_option maxHeartbeats 4000000

/-! Records that a replica saves; how long it was quiet (plain). -/
structure RFine (x : Ag.Rd) : Prop where
  kind : x.kind < 100
  view : x.view ≤ Ag.mostView
  last : x.last ≤ Ag.mostView
  agr : x.agreed ≤ 200
  list : LF x.list
theorem openB_rec {me n : Nat} (hm : me < 100) (hn : n < 100) : ∀ (l : List Ag.Rd) (c : Ag.Co), (∀ x ∈ l, RFine x) → openB me n c (l.map (recB me n)) = c.replay l
  | [], c, _ => rfl
  | x :: l, c, h => by
    have hx := h x List.mem_cons_self
    have hv := hx.view
    have hl := hx.last
    have hk := hx.kind
    have ha := hx.agr
    unfold Ag.mostView at hv hl
    obtain ⟨h1, h2⟩ := rec_back (me := me) (n := n) (x := x) (by omega) (by omega) (by omega) (by omega) (by omega) (by omega) hx.list
    rw [List.map_cons, openB, Ag.Co.replay]
    by_cases hok : x.ok
    · rw [if_pos (h2.2 hok), if_pos hok, h1]
      cases hc : c.apply x with
      | none => rfl
      | some d =>
        rw [Option.bind_some, Option.bind_some]
        exact openB_rec hm hn l d fun y hy => h y (List.mem_cons_of_mem _ hy)
    · rw [if_neg (fun e => hok (h2.1 e)), if_neg hok]
def RS' (s : Ag.St) : Prop := ∀ x ∈ s.save, RFine x
theorem RS'.nil (c : Ag.Co) : RS' ⟨c, [], []⟩ := fun x h => by cases h
theorem rs_put {s : Ag.St} (h : RS' s) {k v : Nat} {l : List En} (hk : k < 100) (hv : v ≤ Ag.mostView) (hl : LF l) : RS' (s.put k v l) := fun x hx => by
  rcases List.mem_append.1 hx with hx | hx
  · exact h x hx
  · rw [List.mem_singleton.1 hx]; exact ⟨hk, hv, Nat.zero_le _, Nat.zero_le _, hl⟩
theorem rs_out {s : Ag.St} (h : RS' s) (m : Mg) : RS' (s.out m) := fun x hx => h x (by rw [Ag.out_save] at hx; exact hx)
theorem rs_lay {s : Ag.St} (h : RS' s) : RS' s.lay := fun x hx => h x (by rw [(Ag.lay_c s).2] at hx; exact hx)
theorem rs_tell {s : Ag.St} (h : RS' s) (m : Mg) : RS' (s.tell m) := fun x hx => h x (by rw [(Ag.tell_c s m).2] at hx; exact hx)
theorem rs_take {s : Ag.St} (h : RS' s) {v : Nat} (hv : v ≤ Ag.mostView) {l : List En} (hl : LF l) : RS' (s.take v l) := by
  unfold Ag.St.take
  dsimp only
  intro x hx
  replace hx : x ∈ (if s.c.last = v ∧ Ag.begins l s.c.list = true then (if s.c.list.length < l.length then s.put 3 0 (l.drop s.c.list.length) else s) else s.put 2 v l).save := hx
  split at hx
  · split at hx
    · exact rs_put h (by omega) (Nat.zero_le _) (hl.drop _) x hx
    · exact h x hx
  · exact rs_put h (by omega) hv hl x hx
theorem rs_grow {s : Ag.St} (h : RS' s) (hf : CFine s.c) : RS' s.grow := by
  obtain ⟨g1, g2⟩ := grown_LF hf.list hf.wait.ok
  unfold Ag.St.grow; dsimp only
  refine rs_lay (s := ⟨_, _, _⟩) ?_
  split
  · exact rs_take (s := { s with c := { s.c with wait := [] } }) h hf.view g1
  · exact h
theorem rs_won {s : Ag.St} (h : RS' s) (hf : CFine s.c) : RS' s.won := by
  unfold Ag.St.won; dsimp only
  split
  · exact h
  · obtain ⟨b1, b2, b3⟩ := bestK_LF hf s.c.n
    have hk : Sm 1 0 s (s.take s.c.view s.c.best.list) := take_sm hf hf.view b1 b3
    exact rs_grow (s := { s.take s.c.view s.c.best.list with c := { (s.take s.c.view s.c.best.list).c with lead := true, got := fun _ => none } }) (rs_take h hf.view b1) hk.c.leads
theorem rs_count {s : Ag.St} (h : RS' s) (hf : CFine s.c) {q : Nat} {v : Ag.Vt} (hq : q < s.c.n) (hv : LF v.list) (hv2 : v.last ≤ Ag.mostView) : RS' (s.count q v) := by
  unfold Ag.St.count
  split
  · exact h
  · exact rs_won (s := { s with c := { s.c with got := Ag.upd s.c.got q (some v) } }) h (hf.got1 hq hv hv2)
theorem rs_vote {s : Ag.St} (h : RS' s) (hf : CFine s.c) : RS' s.vote := by
  unfold Ag.St.vote; dsimp only
  split
  · exact rs_count h hf hf.me hf.list hf.last
  · exact rs_out h _
theorem LF.nil : LF [] := ⟨by simp, by simp⟩
theorem rs_promise {s : Ag.St} (h : RS' s) {v : Nat} (hv : v ≤ Ag.mostView) : RS' (s.promise v) := by
  unfold Ag.St.promise
  exact rs_put (s := ⟨_, _, _⟩) h (by omega) hv LF.nil
theorem rs_begin {s : Ag.St} (h : RS' s) (hf : CFine s.c) : RS' s.begin := by
  unfold Ag.St.begin
  split
  · next hv =>
    have k1 := promise_sm hf (v := s.c.view + 1) (by omega)
    have k2 := k1.trans (tell_sm k1.c (Ag.msg0 2 0))
    exact rs_vote (rs_tell (rs_promise h (by omega)) _) k2.c
  · exact h
theorem rs_want {s : Ag.St} (h : RS' s) (hf : CFine s.c) {e : En} (he : e.Ok) : RS' (s.want e) := by
  obtain ⟨h1, h2, h3⟩ := hf.wanted he
  unfold Ag.St.want; dsimp only
  split
  · exact rs_grow (s := { s with c := (s.c.wanted e).1 }) h h1
  · exact h
theorem rs_submit {c : Ag.Co} (hf : CFine c) {id : Nat} {row : List Int} (he : (⟨id, 0, row⟩ : En).Ok) : RS' (c.submit id row) := by
  have key : ∀ s : Ag.St, RS' s → CFine s.c → RS' (let s2 : Ag.St := { s with c := (s.c.wanted ⟨id, 0, row⟩).1 }; if (s.c.wanted ⟨id, 0, row⟩).2 then s2.grow else if Ag.may ⟨id, 0, row⟩ = true ∧ s2.c.lead = false ∧ Ag.hasId s2.c.list id = false then s2.out { Ag.msg0 1 ((s2.c.view % s2.c.n : Nat) : Int) with ents := [⟨id, 0, row⟩] } else s2) := by
    intro s h k
    obtain ⟨h1, h2, h3⟩ := k.wanted he
    dsimp only
    split
    · exact rs_grow (s := { s with c := (s.c.wanted ⟨id, 0, row⟩).1 }) h h1
    · split
      · exact rs_out (s := { s with c := (s.c.wanted ⟨id, 0, row⟩).1 }) h _
      · exact h
  have hs1 : Sm 3 14 ⟨c, [], []⟩ (if c.n = 1 ∧ c.lead = false then Ag.St.begin ⟨c, [], []⟩ else ⟨c, [], []⟩) := by
    split
    · exact begin_sm (s := ⟨c, [], []⟩) hf
    · exact ⟨hf, rfl, rfl, Nat.zero_le _, Nat.zero_le _⟩
  refine key _ ?_ hs1.c
  split
  · exact rs_begin (RS'.nil c) hf
  · exact RS'.nil c
theorem rs_tick {c : Ag.Co} (hf : CFine c) (hq : c.quiet < 1000000000) : RS' c.tick := by
  unfold Ag.Co.tick
  dsimp only
  have hfq : CFine { c with quiet := c.quiet + 1 } := hf.calm hq
  split
  · exact rs_grow (s := ⟨c, [], []⟩) (RS'.nil c) hf
  · split
    · exact rs_begin (s := ⟨{ c with quiet := c.quiet + 1 }, [], []⟩) (RS'.nil _) hfq
    · split
      · exact rs_vote (s := ⟨{ c with quiet := c.quiet + 1 }, [], []⟩) (RS'.nil _) hfq
      · exact RS'.nil _
end Go.Proofs.Ytbciofnejefkiaa

namespace Go.Proofs.Ytbciofnejefkiaa
open Go Go.Am Go.Proofs
set_option linter.unusedSimpArgs false
set_option linter.unusedVariables false
set_option maxRecDepth 20000
set_option maxHeartbeats 4000000

/-! What is agreed only grows, as long as a replica is not opened anew; sizes (plain). -/
structure Gr (c d : Ag.Co) : Prop where
  agr : c.agreed ≤ d.agreed
  quiet : d.quiet ≤ c.quiet
theorem Gr.refl (c : Ag.Co) : Gr c c := ⟨Nat.le_refl _, Nat.le_refl _⟩
theorem Gr.trans {a b c : Ag.Co} (h : Gr a b) (k : Gr b c) : Gr a c := ⟨Nat.le_trans h.agr k.agr, Nat.le_trans k.quiet h.quiet⟩
theorem gr_settle (c : Ag.Co) : Gr c c.settle := by
  unfold Ag.Co.settle; dsimp only
  split
  · exact ⟨Nat.le_refl _, Nat.le_refl _⟩
  · exact ⟨Nat.le_max_left _ _, Nat.le_refl _⟩
theorem gr_lay (s : Ag.St) : Gr s.c s.lay.c := by rw [(Ag.lay_c s).1]; exact Gr.refl _
theorem gr_tell (s : Ag.St) (m : Mg) : Gr s.c (s.tell m).c := by rw [(Ag.tell_c s m).1]; exact Gr.refl _
theorem gr_out (s : Ag.St) (m : Mg) : Gr s.c (s.out m).c := by rw [Ag.out_c]; exact Gr.refl _
theorem gr_take (s : Ag.St) (v : Nat) (l : List En) : Gr s.c (s.take v l).c := by rw [Ag.take_c]; exact ⟨Nat.le_refl _, Nat.le_refl _⟩
theorem gr_grow (s : Ag.St) : Gr s.c s.grow.c := by
  unfold Ag.St.grow; dsimp only
  have key : ∀ t : Ag.St, Gr s.c t.c → Gr s.c (Ag.St.lay { t with c := t.c.settle }).c := fun t h => (h.trans (gr_settle t.c)).trans (gr_lay { t with c := t.c.settle })
  refine key _ ?_
  split
  · have := gr_take { s with c := { s.c with wait := [] } } s.c.view (Ag.grown s.c.list s.c.wait)
    exact ⟨this.agr, this.quiet⟩
  · exact ⟨Nat.le_refl _, Nat.le_refl _⟩
theorem gr_won (s : Ag.St) : Gr s.c s.won.c := by
  unfold Ag.St.won; dsimp only
  split
  · exact Gr.refl _
  · refine Gr.trans (b := { (s.take s.c.view s.c.best.list).c with lead := true, got := fun _ => none }) ?_ (gr_grow { s.take s.c.view s.c.best.list with c := { (s.take s.c.view s.c.best.list).c with lead := true, got := fun _ => none } })
    have := gr_take s s.c.view s.c.best.list
    exact ⟨this.agr, this.quiet⟩
theorem gr_count (s : Ag.St) (q : Nat) (v : Ag.Vt) : Gr s.c (s.count q v).c := by
  unfold Ag.St.count
  split
  · exact Gr.refl _
  · have := gr_won { s with c := { s.c with got := Ag.upd s.c.got q (some v) } }
    exact ⟨this.agr, this.quiet⟩
theorem gr_vote (s : Ag.St) : Gr s.c s.vote.c := by
  unfold Ag.St.vote; dsimp only
  split
  · exact gr_count _ _ _
  · exact gr_out _ _
theorem gr_promise (s : Ag.St) (v : Nat) : Gr s.c (s.promise v).c := ⟨Nat.le_refl _, Nat.zero_le _⟩
theorem gr_begin (s : Ag.St) : Gr s.c s.begin.c := by
  unfold Ag.St.begin
  split
  · exact ((gr_promise s _).trans (gr_tell _ _)).trans (gr_vote _)
  · exact Gr.refl _
theorem gr_wanted (c : Ag.Co) (e : En) : Gr c (c.wanted e).1 := by
  unfold Ag.Co.wanted
  split
  · exact Gr.refl _
  · exact ⟨Nat.le_refl _, Nat.le_refl _⟩
theorem gr_want (s : Ag.St) (e : En) : Gr s.c (s.want e).c := by
  unfold Ag.St.want; dsimp only
  split
  · exact (gr_wanted _ _).trans (gr_grow { s with c := (s.c.wanted e).1 })
  · exact gr_wanted _ _
theorem gr_wants : ∀ (l : List En) (s : Ag.St), Gr s.c (l.foldl Ag.St.want s).c
  | [], s => Gr.refl _
  | e :: l, s => (gr_want s e).trans (gr_wants l _)
theorem gr_submit (c : Ag.Co) (id : Nat) (row : List Int) : Gr c (c.submit id row).c := by
  have key : ∀ s : Ag.St, Gr c s.c → Gr c (let s2 : Ag.St := { s with c := (s.c.wanted ⟨id, 0, row⟩).1 }; if (s.c.wanted ⟨id, 0, row⟩).2 then s2.grow else if Ag.may ⟨id, 0, row⟩ = true ∧ s2.c.lead = false ∧ Ag.hasId s2.c.list id = false then s2.out { Ag.msg0 1 ((s2.c.view % s2.c.n : Nat) : Int) with ents := [⟨id, 0, row⟩] } else s2).c := by
    intro s h
    have h2 : Gr c (s.c.wanted ⟨id, 0, row⟩).1 := h.trans (gr_wanted _ _)
    dsimp only
    split
    · exact h2.trans (gr_grow { s with c := (s.c.wanted ⟨id, 0, row⟩).1 })
    · split
      · exact h2.trans (gr_out { s with c := (s.c.wanted ⟨id, 0, row⟩).1 } _)
      · exact h2
  refine key _ ?_
  split
  · exact gr_begin ⟨c, [], []⟩
  · exact Gr.refl _
theorem gr_tick (c : Ag.Co) : c.agreed ≤ c.tick.c.agreed ∧ c.tick.c.quiet ≤ c.quiet + 1 := by
  unfold Ag.Co.tick
  dsimp only
  split
  · have := gr_grow ⟨c, [], []⟩; exact ⟨this.agr, Nat.le_succ_of_le this.quiet⟩
  · split
    · have := gr_begin ⟨{ c with quiet := c.quiet + 1 }, [], []⟩; exact ⟨this.agr, this.quiet⟩
    · split
      · have := gr_vote ⟨{ c with quiet := c.quiet + 1 }, [], []⟩; exact ⟨this.agr, this.quiet⟩
      · exact ⟨Nat.le_refl _, Nat.le_refl _⟩
theorem gr_fin (s : Ag.St) (m : Mg) : Gr s.c (s.fin m).c := by
  unfold Ag.St.fin
  split
  · exact ⟨Nat.le_max_left _ _, Nat.le_refl _⟩
  · exact Gr.refl _
theorem gr_hear (s : Ag.St) (m : Mg) : Gr s.c (s.hear m).c := by
  unfold Ag.St.hear
  have h0 : Gr s.c { s.c with quiet := 0 } := ⟨Nat.le_refl _, Nat.zero_le _⟩
  refine h0.trans ?_
  show Gr ({ s with c := { s.c with quiet := 0 } } : Ag.St).c _
  generalize ({ s with c := { s.c with quiet := 0 } } : Ag.St) = t
  unfold Ag.St.heard
  split
  · split
    · exact Gr.refl _
    · unfold Ag.St.hold
      refine Gr.trans ?_ (gr_fin _ _)
      refine Gr.trans ?_ (gr_out _ _)
      split
      · exact gr_take _ _ _
      · exact Gr.refl _
  · exact gr_fin _ _
theorem gr_get2 (s : Ag.St) (m : Mg) : Gr s.c (get2 s m).c := by
  unfold get2
  split
  · split
    · exact gr_count _ _ _
    · exact Gr.refl _
  split
  · split
    · have := gr_settle { s.c with held := Ag.upd s.c.held m.from_.toNat (some (max ((s.c.held m.from_.toNat).getD 0) m.op)) }
      exact ⟨this.agr, this.quiet⟩
    · exact Gr.refl _
  split
  · split
    · exact gr_hear _ _
    · exact Gr.refl _
  · exact Gr.refl _
theorem gr_get1 (c : Ag.Co) (m : Mg) : Gr c (get1 c m).c := by
  unfold get1
  split
  · exact (gr_promise ⟨c, [], []⟩ m.view).trans (gr_vote _)
  · exact Gr.refl _
theorem gr_get (c : Ag.Co) (m : Mg) : Gr c (c.get m).c := by
  by_cases ho : c.odd m
  · rw [get_odd c m ho]; exact Gr.refl _
  by_cases hk : m.kind = 1
  · rw [get_want c m ho hk]
    exact gr_wants _ ⟨c, [], []⟩
  by_cases hv : m.view < (get1 c m).c.view
  · rw [get_past c m ho hk hv]; exact gr_get1 c m
  · rw [get_now c m ho hk hv]; exact (gr_get1 c m).trans (gr_get2 _ _)
/-! Sizes. -/
theorem fin_sm {s : Ag.St} (h : CFine s.c) (m : Mg) : Sm 0 0 s (s.fin m) := by
  unfold Ag.St.fin
  split
  · exact ⟨⟨h.me, h.n, h.view, h.last, h.list, (by have := h.agr; show max s.c.agreed (min m.commit s.c.list.length) ≤ s.c.list.length; omega), h.wait, h.quiet, h.got, h.held⟩, rfl, rfl, Nat.le_refl _, Nat.le_refl _⟩
  · exact ⟨h, rfl, rfl, Nat.le_refl _, Nat.le_refl _⟩
theorem begins_len {l w : List En} (h : Ag.begins l w = true) : w.length ≤ l.length := by
  unfold Ag.begins at h
  rw [Bool.and_eq_true, decide_eq_true_eq] at h
  exact h.1
theorem heard_sm {t : Ag.St} (hc : CFine t.c) {m : Mg} (hL : LF m.ents) (hv : m.view ≤ Ag.mostView) : Sm 1 1 t (t.heard m) := by
  unfold Ag.St.heard
  split
  · split
    · exact ⟨hc, rfl, rfl, by omega, by omega⟩
    · next hb =>
      have hb2 := begins_len (by simpa using hb)
      rw [List.length_take] at hb2
      have ha := hc.agr
      unfold Ag.St.hold
      have k1 : Sm 1 0 t (if t.c.last < m.view ∨ t.c.list.length < m.ents.length then t.take m.view m.ents else t) := by
        split
        · exact take_sm hc hv hL (by omega)
        · exact ⟨hc, rfl, rfl, by omega, by omega⟩
      exact ((k1.trans (out_sm k1.c _)).trans (fin_sm (out_sm k1.c _).c m)).more (by omega) (by omega)
  · exact (fin_sm hc m).more (by omega) (by omega)
theorem hear_sm {s : Ag.St} (h : CFine s.c) {m : Mg} (hL : LF m.ents) (hv : m.view ≤ Ag.mostView) : Sm 1 1 s (s.hear m) := by
  have h0 : CFine { s.c with quiet := 0 } := h.calm (Nat.zero_le _)
  have k0 : Sm 0 0 s { s with c := { s.c with quiet := 0 } } := mem_sm (s := s) h0 rfl rfl
  exact (k0.trans (heard_sm (t := { s with c := { s.c with quiet := 0 } }) h0 hL hv)).more (by omega) (by omega)
theorem rs_fin {s : Ag.St} (h : RS' s) (m : Mg) : RS' (s.fin m) := by
  unfold Ag.St.fin
  split
  · exact h
  · exact h
theorem rs_hear {s : Ag.St} (h : RS' s) (hf : CFine s.c) {m : Mg} (hL : LF m.ents) (hv : m.view ≤ Ag.mostView) : RS' (s.hear m) := by
  unfold Ag.St.hear
  have hr : RS' { s with c := { s.c with quiet := 0 } } := h
  generalize ({ s with c := { s.c with quiet := 0 } } : Ag.St) = t at *
  unfold Ag.St.heard
  split
  · split
    · exact hr
    · unfold Ag.St.hold
      refine rs_fin (rs_out ?_ _) m
      split
      · exact rs_take hr hv hL
      · exact hr
  · exact rs_fin hr m
theorem get2_sm {s : Ag.St} (h : CFine s.c) {m : Mg} (hm : m.Ok) (hL : LF m.ents) (hv : m.view ≤ Ag.mostView) (hf : m.from_.toNat < s.c.n) : Sm 2 7 s (get2 s m) := by
  have h0 : Sm 2 7 s s := ⟨h, rfl, rfl, by omega, by omega⟩
  unfold get2
  split
  · split
    · next hk => exact count_sm h hf hL (by show m.last ≤ _; have := hk.2; omega)
    · exact h0
  split
  · split
    · have h1 : CFine { s.c with held := Ag.upd s.c.held m.from_.toNat (some (max ((s.c.held m.from_.toNat).getD 0) m.op)) } := h.hold hf (by
        have := hm.op
        cases hh : s.c.held m.from_.toNat with
        | none => simp only [Option.getD_none]; omega
        | some x => have := (h.held _ _ hh).2; simp only [Option.getD_some]; omega)
      exact (mem_sm (s := s) h1.settle (settle_same2 _).1 (settle_same2 _).2).more (by omega) (by omega)
    · exact h0
  split
  · split
    · exact (hear_sm h hL hv).more (by omega) (by omega)
    · exact h0
  · exact h0
theorem rs_get2 {s : Ag.St} (hr : RS' s) (h : CFine s.c) {m : Mg} (hL : LF m.ents) (hv : m.view ≤ Ag.mostView) (hf : m.from_.toNat < s.c.n) : RS' (get2 s m) := by
  unfold get2
  split
  · split
    · next hk => exact rs_count hr h hf hL (by show m.last ≤ _; have := hk.2; omega)
    · exact hr
  split
  · split
    · exact hr
    · exact hr
  split
  · split
    · exact rs_hear hr h hL hv
    · exact hr
  · exact hr
theorem rs_wants : ∀ (l : List En) {s : Ag.St}, RS' s → CFine s.c → (∀ e ∈ l, e.Ok) → RS' (l.foldl Ag.St.want s)
  | [], s, h, _, _ => h
  | e :: l, s, h, hf, he => rs_wants l (rs_want h hf (he e List.mem_cons_self)) (want_sm hf (he e List.mem_cons_self)).c fun x hx => he x (List.mem_cons_of_mem _ hx)
theorem get_fine {c : Ag.Co} (hf : CFine c) {m : Mg} (hm : m.Ok) : Sm 200 1400 ⟨c, [], []⟩ (c.get m) ∧ RS' (c.get m) := by
  by_cases ho : c.odd m
  · rw [get_odd c m ho]; exact ⟨⟨hf, rfl, rfl, by omega, by omega⟩, RS'.nil c⟩
  have ho2 := ho
  unfold Ag.Co.odd at ho2
  simp only [not_or, Classical.not_not] at ho2
  obtain ⟨o1, o2, o3, o4, o5, o6⟩ := ho2
  have hL := listed_LF hm (by simpa using o6)
  have hfr : m.from_.toNat < c.n := by have := o1.1.2.1; omega
  by_cases hk : m.kind = 1
  · rw [get_want c m ho hk]
    have h200 := hL.len
    refine ⟨(wantK_sm (s := ⟨c, [], []⟩) hf (fun e he => (hL.ok e he).1) m.ents.length (Nat.le_refl _)).more h200 (by omega), ?_⟩
    unfold wantK
    rw [List.take_length]
    exact rs_wants _ (RS'.nil c) hf fun e he => (hL.ok e he).1
  have h1 := get1_sm hf (m := m) (by omega)
  have r1 : RS' (get1 c m) := by
    unfold get1
    split
    · exact rs_vote (rs_promise (RS'.nil c) (by omega)) (promise_sm (s := ⟨c, [], []⟩) hf (by omega)).c
    · exact RS'.nil c
  by_cases hv : m.view < (get1 c m).c.view
  · rw [get_past c m ho hk hv]; exact ⟨h1.more (by omega) (by omega), r1⟩
  · rw [get_now c m ho hk hv]
    have hn : (get1 c m).c.n = c.n := h1.n
    exact ⟨(h1.trans (get2_sm h1.c hm hL (by omega) (by rw [hn]; exact hfr))).more (by omega) (by omega), rs_get2 r1 h1.c hL (by omega) (by rw [hn]; exact hfr)⟩
theorem tick_fine {c : Ag.Co} (hf : CFine c) (hq : c.quiet < 1000000000) : Sm 200 1400 ⟨c, [], []⟩ c.tick ∧ RS' c.tick := by
  refine ⟨?_, rs_tick hf hq⟩
  unfold Ag.Co.tick
  dsimp only
  have hfq : CFine { c with quiet := c.quiet + 1 } := hf.calm hq
  have h0 : Sm 0 0 ⟨c, [], []⟩ ⟨{ c with quiet := c.quiet + 1 }, [], []⟩ := mem_sm (s := ⟨c, [], []⟩) hfq rfl rfl
  split
  · exact (grow_sm (s := ⟨c, [], []⟩) hf).more (by omega) (by omega)
  · split
    · exact (h0.trans (begin_sm (s := ⟨{ c with quiet := c.quiet + 1 }, [], []⟩) hfq)).more (by omega) (by omega)
    · split
      · exact (h0.trans (vote_sm (s := ⟨{ c with quiet := c.quiet + 1 }, [], []⟩) hfq)).more (by omega) (by omega)
      · exact h0.more (by omega) (by omega)
theorem submit_fine {c : Ag.Co} (hf : CFine c) {id : Nat} {row : List Int} (he : (⟨id, 0, row⟩ : En).Ok) : Sm 200 1400 ⟨c, [], []⟩ (c.submit id row) ∧ RS' (c.submit id row) := by
  refine ⟨?_, rs_submit hf he⟩
  have key : ∀ s : Ag.St, Sm 3 14 ⟨c, [], []⟩ s → Sm 200 1400 ⟨c, [], []⟩ (let s2 : Ag.St := { s with c := (s.c.wanted ⟨id, 0, row⟩).1 }; if (s.c.wanted ⟨id, 0, row⟩).2 then s2.grow else if Ag.may ⟨id, 0, row⟩ = true ∧ s2.c.lead = false ∧ Ag.hasId s2.c.list id = false then s2.out { Ag.msg0 1 ((s2.c.view % s2.c.n : Nat) : Int) with ents := [⟨id, 0, row⟩] } else s2) := by
    intro s k
    obtain ⟨h1, h2, h3⟩ := k.c.wanted he
    have k2 := k.trans (mem_sm (s := s) h1 h2 h3)
    dsimp only
    split
    · exact (k2.trans (grow_sm (s := { s with c := (s.c.wanted ⟨id, 0, row⟩).1 }) h1)).more (by omega) (by omega)
    · split
      · exact (k2.trans (out_sm (s := { s with c := (s.c.wanted ⟨id, 0, row⟩).1 }) h1 _)).more (by omega) (by omega)
      · exact k2.more (by omega) (by omega)
  refine key _ ?_
  split
  · exact begin_sm (s := ⟨c, [], []⟩) hf
  · exact ⟨hf, rfl, rfl, Nat.zero_le _, Nat.zero_le _⟩
end Go.Proofs.Ytbciofnejefkiaa

namespace Go.Proofs.Ytbciofnejefkiaa
open Go Go.Am Go.Proofs
set_option linter.unusedSimpArgs false
set_option linter.unusedVariables false
set_option maxRecDepth 20000
set_option maxHeartbeats 4000000

/-! What the document tells of one replica alone. -/
def s7a : Ag.St := (Ag.Co.new 0 1).submit 7 [1]
theorem e7ok : (⟨7, 0, [1]⟩ : En).Ok := ⟨by decide, by decide, fun v hv => by rw [show v = 1 from List.mem_singleton.1 hv]; decide⟩
theorem s7_fine : CFine s7a.c ∧ RS' s7a ∧ s7a.c.me = 0 ∧ s7a.c.n = 1 ∧ s7a.save.length ≤ 200 := by
  obtain ⟨h1, h2⟩ := submit_fine (CFine.new (me := 0) (n := 1) (by omega) (by omega)) e7ok
  exact ⟨h1.c, h2, h1.me, h1.n, by have := h1.sv; simp only [List.length_nil] at this; exact Nat.le_trans this (by omega)⟩
theorem s7_list : s7a.c.list.take s7a.c.agreed = [⟨7, 0, [1]⟩] := by rfl
theorem s7_replay : ((Ag.Co.new 0 1).replay s7a.save).isSome = true := by decide +kernel
theorem recB_small {me n : Nat} {x : Ag.Rd} (h : RFine x) : (recB me n x).length ≤ 1000000 := by
  have h1 := encEs_small h.list
  have h2 := encUs_len [me, n, x.kind, x.view, x.last, x.agreed, x.list.length]
  unfold recB
  rw [List.length_append]
  simp only [List.length_cons, List.length_nil] at h2
  omega
theorem CAt.ext {H H' : AHeap} {F : Ob} {c : Ag.Co} (h : CAt H F c) (fr : ∀ p y, H p = some y → H' p = some y) : CAt H' F c := by
  obtain ⟨⟨off, xs, hco, hw, hx1, hx2⟩, ⟨eg, hg, hg2⟩, ⟨eh, hh, hh2⟩⟩ := h
  exact ⟨⟨off, xs, fr _ _ hco, fr _ _ hw, hx1, hx2⟩, ⟨eg, fr _ _ hg, hg2⟩, ⟨eh, fr _ _ hh, hh2⟩⟩
theorem awake_calls (H : AHeap) : ACalls Try.prog 14 [] H fun r H' => r = .raw (.bool true) ∧ ∀ p y, H p = some y → H' p = some y := by
  obtain ⟨k1, k2, k3, k4, k5⟩ := s7_fine
  have k6 := s7_list
  obtain ⟨d, hd⟩ := Option.isSome_iff_exists.1 s7_replay
  have ho : openB 0 1 (Ag.Co.new 0 1) (s7a.save.map (recB 0 1)) = some d := by rw [openB_rec (by omega) (by omega) _ _ k2]; exact hd
  have hO := fun H => Open_calls H 0 1 (s7a.save.map (recB 0 1)) (by omega) (by omega) (by omega) (by rw [List.length_map]; omega) (fun b hb => by
    obtain ⟨x, hx, rfl⟩ := List.mem_map.1 hb
    exact recB_small (k2 x hx))
  rw [ho] at hO
  have hS := fun H F h nd => Submit_calls H F (Ag.Co.new 0 1) 7 [1] h nd (CFine.new (by omega) (by omega)) e7ok (by simp)
  have hs7 : (Ag.Co.new 0 1).submit 7 [1] = s7a := rfl
  rw [hs7] at hS
  clear hs7 hd ho
  have hsa : stepA s7a = .agg [.sls (s7a.save.map (recB 0 1)).length ((s7a.save.map (recB 0 1)).map .bys), sendA s7a] := by
    unfold stepA saveA
    rw [k3, k4, List.length_map, List.map_map]; rfl
  rw [hsa] at hS
  have hC := fun H F h nd => CopyP_calls H F s7a.c h nd k1
  have hL := fun H F h => Committed_calls H F s7a.c h k1
  rw [k6] at hL
  clear hsa k6
  generalize s7a.save.map (recB 0 1) = sv at *
  unfold sendA at *
  generalize s7a.send.length = sk at *
  generalize s7a.send.flatMap Mg.cells = sn at *
  generalize s7a.c = c7 at *
  refine acalls_of_aw Try.func14 rfl (by decide) ?_
  (first | focus (refine yy46 ?_; (refine zc auto_wl (New_calls _ 0 1 (by omega) (by omega) (by omega)) ?_; rintro r H' ⟨F, rfl, a1, a2, a3, a4⟩); refine yy73 ?_; refine yy90 ?_; refine yy6 ?_; refine yy11 ?_; refine yy70 ?_; refine yy2 ?_; refine zg2 rfl rfl rfl (fun hc => ?_) (fun hc => ?_); exact absurd hc auto_no; refine yy36 ?_; refine awl_s rfl (s_ptr_eqnil rfl rfl) ?_; refine yy43 ?_; refine yy68 ?_; rotate_left) | fail)
  have hS1 := hS _ F a1 a2
  (first | focus (refine yy22 ?_; refine yy92 ?_; (refine zc auto_wl (hS1) ?_; rintro r H' ⟨rfl, F2, b1, b2⟩); refine awl_alloc rfl rfl rfl (fun oN hoN => ?_); refine yy80 ?_; refine yy3 ?_; rotate_left) | fail)
  have o2 := b2.o
  have hL1 := hL _ F2 b1
  rw [o2] at hL1
  (first | focus (refine yy22 ?_; (refine zc auto_wl (hL1) ?_; rintro r H' ⟨rfl, rfl⟩); refine awl_s rfl (s_assign (v := .sls _ _) rfl) ?_; refine yy3 ?_; rotate_left) | fail)
  have hO1 := hO H'
  (first | focus (refine yy4 ?_; refine yy35 ?_; (refine zc auto_wl (hO1) ?_; rintro r H' ⟨⟨F3, rfl, c1, c2, c3⟩, c4⟩); refine yy73 ?_; refine yy90 ?_; refine yy6 ?_; rotate_left) | fail)
  have b3 := b1.ext c4
  have hC1 := hC _ F2 b3 b2.nd
  rw [o2] at hC1
  (first | focus (refine yy4 ?_; refine yy44 ?_; refine yy49 ?_; refine yy2 ?_; refine zg1 rfl rfl rfl (fun hc => ?_) (fun hc => ?_); refine yy31 ?_; refine yy5 ?_; refine yy63 ?_; refine yy5 ?_; refine yy88 ?_; refine yy5 ?_; refine yy58 ?_; refine yy5 ?_; refine yy49 ?_; refine yy40 ?_; refine yy2 ?_; refine zg1 rfl rfl rfl (fun hc => ?_) (fun hc => ?_); refine yy31 ?_; refine yy5 ?_; refine yy63 ?_; refine yy5 ?_; refine yy88 ?_; refine yy5 ?_; refine yy58 ?_; refine yy5 ?_; refine yy32 ?_; refine yy5 ?_; refine yy49 ?_; refine yy40 ?_; refine yy2 ?_; refine zg1 rfl rfl rfl (fun hc => ?_) (fun hc => ?_); refine yy31 ?_; refine yy5 ?_; refine yy63 ?_; refine yy5 ?_; refine yy88 ?_; refine yy5 ?_; refine yy58 ?_; refine yy5 ?_; refine yy63 ?_; refine yy5 ?_; refine yy58 ?_; refine yy5 ?_; refine yy49 ?_; refine yy40 ?_; refine yy2 ?_; refine zg1 rfl rfl rfl (fun hc => ?_) (fun hc => ?_); refine yy19 ?_; refine yy49 ?_; refine yy40 ?_; refine yy2 ?_; refine zg1 rfl rfl rfl (fun hc => ?_) (fun hc => ?_); refine yy36 ?_; refine awl_s rfl (s_ptr_nenil rfl rfl) ?_; refine yy40 ?_; refine yy19 ?_; refine yy36 ?_; (refine zc auto_wl (hC1) ?_; rintro r H' ⟨F4, rfl, d1, d2, d3, d4⟩); refine yy5 ?_; refine awl_s rfl (s_ptr_nenil rfl rfl) ?_; refine yy40 ?_; refine yy9 ?_; rotate_left; exact absurd hc auto_no; exact absurd hc auto_no; exact absurd hc auto_no; exact absurd hc auto_no; exact absurd hc auto_no) | fail)
  exact ⟨.inl rfl, _, _, _, Ent.refl _ _, ret1 rfl rfl, rfl, fun p y hp => d4 p y (c4 p y (b2.fr p y (a4 p y hp) (fun e => by rw [a3 p e] at hp; cases hp)))⟩
end Go.Proofs.Ytbciofnejefkiaa

namespace Go.Proofs.Ytbciofnejefkiaa
open Go Go.Am Go.Proofs
set_option linter.unusedSimpArgs false
set_option linter.unusedVariables false
set_option maxRecDepth 20000
set_option maxHeartbeats 4000000

/-! What is refused. -/
theorem CFine.full {c : Ag.Co} (h : CFine c) : CFine { c with agreed := c.list.length } := ⟨h.me, h.n, h.view, h.last, h.list, Nat.le_refl _, h.wait, h.quiet, h.got, h.held⟩
end Go.Proofs.Ytbciofnejefkiaa

namespace Go.Proofs.Ytbciofnejefkiaa
open Go Go.Am Go.Proofs
set_option linter.unusedSimpArgs false
set_option linter.unusedVariables false
set_option maxRecDepth 20000
set_option maxHeartbeats 4000000

theorem CAt.live {H : AHeap} {F : Ob} {c : Ag.Co} (h : CAt H F c) : ∀ p ∈ F.c, ∃ y, H p = some y := by
  obtain ⟨⟨off, xs, hco, hw, hx1, hx2⟩, ⟨eg, hg, hg2⟩, ⟨eh, hh, hh2⟩⟩ := h
  intro p hp
  simp only [Ob.c, List.mem_cons, List.not_mem_nil, or_false] at hp
  rcases hp with e | e | e | e <;> rw [e] <;> exact ⟨_, by assumption⟩
theorem CAt.keep {H H' : AHeap} {F G G' : Ob} {c : Ag.Co} (h : CAt H F c) (t : TurnK H G G' H') (hd : ∀ p ∈ F.c, p ∉ G.c) : CAt H' F c := by
  obtain ⟨⟨off, xs, hco, hw, hx1, hx2⟩, ⟨eg, hg, hg2⟩, ⟨eh, hh, hh2⟩⟩ := h
  exact ⟨⟨off, xs, t.fr _ _ hco (hd _ (by simp [Ob.c])), t.fr _ _ hw (hd _ (by simp [Ob.c])), hx1, hx2⟩, ⟨eg, t.fr _ _ hg (hd _ (by simp [Ob.c])), hg2⟩, ⟨eh, t.fr _ _ hh (hd _ (by simp [Ob.c])), hh2⟩⟩
end Go.Proofs.Ytbciofnejefkiaa

namespace Go.Proofs.Ytbciofnejefkiaa
open Go Go.Am Go.Proofs
set_option linter.unusedSimpArgs false
set_option linter.unusedVariables false
set_option maxRecDepth 20000
set_option maxHeartbeats 4000000

/-! The law's world in memory. -/
structure Wo where
  w : Nat
  c : Nat
  s : Nat
  k : Nat
  l : Nat
  i : Nat
  r : Nat
  b : Nat
def Wo.l' (O : Wo) : List Nat := [O.w, O.c, O.s, O.k, O.l, O.i, O.r, O.b]
def cutA (x : Option Nat) : AV := mI (match x with | some k => (k : Int) | none => -1)
def svA (r n : Nat) (l : List Ag.Rd) : AV := .sls l.length (l.map fun x => .bys (recB r n x))
def rowA (x : List Int) : AV := .sls x.length (x.map mI)
def worldC (O : Wo) (w : Ag.W) : List AV := [mI w.n, .vw O.c 1 0 w.n, .vw O.s 1 0 w.n, .vw O.k 1 0 w.n, .vw O.l 9 0 w.l.length, .vw O.i 1 0 w.ids.length, .vw O.r 1 0 w.ids.length, .vw O.b 3 0 w.best.length]
structure WAt (H : AHeap) (O : Wo) (F : Nat → Ob) (w : Ag.W) : Prop where
  aw : H O.w = some (.cel (worldC O w))
  ac : H O.c = some (.cel ((List.range w.n).map fun r => .ptr (F r).o 0))
  asv : H O.s = some (.cel ((List.range w.n).map fun r => svA r w.n (w.saved r)))
  ak : H O.k = some (.cel ((List.range w.n).map fun r => cutA (w.cut r)))
  al : H O.l = some (.cel (w.l.flatMap Mg.cells))
  ai : H O.i = some (.cel (w.ids.map fun x => uI x.1))
  ar : H O.r = some (.cel (w.ids.map fun x => rowA x.2))
  ab : H O.b = some (.cel (w.best.flatMap En.cells))
  nd : O.l'.Nodup
  co : ∀ r, r < w.n → CAt H (F r) (w.c r)
  ndC : ∀ r, r < w.n → NdC (F r)
  ap : ∀ r, r < w.n → ∀ p ∈ (F r).c, p ∉ O.l'
  rr : ∀ r s, r < w.n → s < w.n → r ≠ s → ∀ p ∈ (F r).c, p ∉ (F s).c
/-- An object of the world. -/
def Dom (O : Wo) (F : Nat → Ob) (n : Nat) (p : Nat) : Prop := p ∈ O.l' ∨ ∃ r, r < n ∧ p ∈ (F r).c
structure TurnW (n : Nat) (H : AHeap) (O : Wo) (F : Nat → Ob) (O' : Wo) (F' : Nat → Ob) (H' : AHeap) : Prop where
  w : O'.w = O.w
  new : ∀ p, Dom O' F' n p → Dom O F n p ∨ H p = none
  fr : ∀ p y, H p = some y → ¬ Dom O F n p → H' p = some y
theorem TurnW.refl (n : Nat) (H : AHeap) (O : Wo) (F : Nat → Ob) : TurnW n H O F O F H := ⟨rfl, fun p hp => .inl hp, fun p y hp _ => hp⟩
theorem TurnW.trans {n : Nat} {H H1 H2 : AHeap} {O O1 O2 : Wo} {F F1 F2 : Nat → Ob} (a : TurnW n H O F O1 F1 H1) (b : TurnW n H1 O1 F1 O2 F2 H2) : TurnW n H O F O2 F2 H2 := by
  refine ⟨b.w.trans a.w, fun p hp => ?_, fun p y hp hd => ?_⟩
  · rcases b.new p hp with h | h
    · exact a.new p h
    · by_cases hd : Dom O F n p
      · exact .inl hd
      · right
        cases hx : H p with
        | none => rfl
        | some y => rw [a.fr p y hx hd] at h; cases h
  · have h1 := a.fr p y hp hd
    refine b.fr p y h1 fun h => ?_
    rcases a.new p h with h | h
    · exact hd h
    · rw [h] at hp; cases hp
theorem WAt.live {H : AHeap} {O : Wo} {F : Nat → Ob} {w : Ag.W} (h : WAt H O F w) {p : Nat} (hd : Dom O F w.n p) : ∃ y, H p = some y := by
  rcases hd with hd | ⟨r, hr, hd⟩
  · simp only [Wo.l', List.mem_cons, List.not_mem_nil, or_false] at hd
    rcases hd with e | e | e | e | e | e | e | e <;> rw [e]
    · exact ⟨_, h.aw⟩
    · exact ⟨_, h.ac⟩
    · exact ⟨_, h.asv⟩
    · exact ⟨_, h.ak⟩
    · exact ⟨_, h.al⟩
    · exact ⟨_, h.ai⟩
    · exact ⟨_, h.ar⟩
    · exact ⟨_, h.ab⟩
  · exact (h.co r hr).live p hd
theorem WAt.fresh {H : AHeap} {O : Wo} {F : Nat → Ob} {w : Ag.W} (h : WAt H O F w) {p : Nat} (hp : H p = none) : ¬ Dom O F w.n p := fun hd => by
  obtain ⟨y, hy⟩ := h.live hd
  rw [hp] at hy; cases hy
structure WNe (O : Wo) : Prop where
  wc : O.w ≠ O.c
  ws : O.w ≠ O.s
  wk : O.w ≠ O.k
  wl : O.w ≠ O.l
  wi : O.w ≠ O.i
  wr : O.w ≠ O.r
  wb : O.w ≠ O.b
  cs : O.c ≠ O.s
  ck : O.c ≠ O.k
  cl : O.c ≠ O.l
  ci : O.c ≠ O.i
  cr : O.c ≠ O.r
  cb : O.c ≠ O.b
  sk : O.s ≠ O.k
  sl : O.s ≠ O.l
  si : O.s ≠ O.i
  sr : O.s ≠ O.r
  sb : O.s ≠ O.b
  kl : O.k ≠ O.l
  ki : O.k ≠ O.i
  kr : O.k ≠ O.r
  kb : O.k ≠ O.b
  li : O.l ≠ O.i
  lr : O.l ≠ O.r
  lb : O.l ≠ O.b
  ir : O.i ≠ O.r
  ib : O.i ≠ O.b
  rb : O.r ≠ O.b
theorem Wo.ne {O : Wo} (h : O.l'.Nodup) : WNe O := by
  simp only [Wo.l', List.nodup_cons, List.mem_cons, List.not_mem_nil, or_false, not_or, not_false_eq_true, List.nodup_nil, and_true] at h
  obtain ⟨⟨a1, a2, a3, a4, a5, a6, a7⟩, ⟨b1, b2, b3, b4, b5, b6⟩, ⟨c1, c2, c3, c4, c5⟩, ⟨d1, d2, d3, d4⟩, ⟨e1, e2, e3⟩, ⟨f1, f2⟩, g1⟩ := h
  exact ⟨a1, a2, a3, a4, a5, a6, a7, b1, b2, b3, b4, b5, b6, c1, c2, c3, c4, c5, d1, d2, d3, d4, e1, e2, e3, f1, f2, g1⟩
theorem Wo.nd {O : Wo} (h : WNe O) : O.l'.Nodup := by
  obtain ⟨a1, a2, a3, a4, a5, a6, a7, b1, b2, b3, b4, b5, b6, c1, c2, c3, c4, c5, d1, d2, d3, d4, e1, e2, e3, f1, f2, g1⟩ := h
  simp only [Wo.l', List.nodup_cons, List.mem_cons, List.not_mem_nil, or_false, not_or, not_false_eq_true, List.nodup_nil, and_true]
  exact ⟨⟨a1, a2, a3, a4, a5, a6, a7⟩, ⟨b1, b2, b3, b4, b5, b6⟩, ⟨c1, c2, c3, c4, c5⟩, ⟨d1, d2, d3, d4⟩, ⟨e1, e2, e3⟩, ⟨f1, f2⟩, g1⟩
/-- A replica's part has turned. -/
theorem WAt.turn {H H' : AHeap} {O : Wo} {F : Nat → Ob} {w : Ag.W} {r : Nat} {G : Ob} {c : Ag.Co} (h : WAt H O F w) (hr : r < w.n) (hc : CAt H' G c) (t : TurnK H (F r) G H') :
    WAt H' O (Ag.upd F r G) { w with c := Ag.upd w.c r c } ∧ TurnW w.n H O F O (Ag.upd F r G) H' := by
  have hO : ∀ p y, p ∈ O.l' → H p = some y → H' p = some y := fun p y hp hy => t.fr p y hy fun hF => h.ap r hr p hF hp
  have hF : ∀ q, Ag.upd F r G q = if q = r then G else F q := fun q => rfl
  refine ⟨⟨hO _ _ (by simp [Wo.l']) h.aw, ?_, hO _ _ (by simp [Wo.l']) h.asv, hO _ _ (by simp [Wo.l']) h.ak, hO _ _ (by simp [Wo.l']) h.al, hO _ _ (by simp [Wo.l']) h.ai, hO _ _ (by simp [Wo.l']) h.ar, hO _ _ (by simp [Wo.l']) h.ab, h.nd, fun q hq => ?_, fun q hq => ?_, fun q hq p hp => ?_, fun q s hq hs hne p hp hps => ?_⟩, ⟨rfl, fun p hp => ?_, fun p y hp hd => t.fr p y hp fun hF => hd (.inr ⟨r, hr, hF⟩)⟩⟩
  · have : ((List.range w.n).map fun q => AV.ptr (Ag.upd F r G q).o 0) = (List.range w.n).map fun q => AV.ptr (F q).o 0 := by
      refine List.map_congr_left fun q _ => ?_
      rw [hF]
      split
      · next e => rw [e, t.o]
      · rfl
    show H' O.c = some (.cel ((List.range w.n).map fun q => AV.ptr (Ag.upd F r G q).o 0))
    rw [this]; exact hO _ _ (by simp [Wo.l']) h.ac
  · show CAt H' (Ag.upd F r G q) (Ag.upd w.c r c q)
    by_cases e : q = r
    · rw [e, Ag.upd_same, Ag.upd_same]; exact hc
    · rw [Ag.upd_other _ _ e, Ag.upd_other _ _ e]; exact (h.co q hq).keep t (h.rr q r hq hr e)
  · by_cases e : q = r
    · rw [e, Ag.upd_same]; exact t.nd
    · rw [Ag.upd_other _ _ e]; exact h.ndC q hq
  · by_cases e : q = r
    · rw [e, Ag.upd_same] at hp
      rcases t.new p hp with hp | hp
      · exact h.ap r hr p hp
      · exact fun hx => h.fresh hp (.inl hx)
    · rw [Ag.upd_other _ _ e] at hp; exact h.ap q hq p hp
  · by_cases e : q = r
    · rw [e, Ag.upd_same] at hp
      rw [Ag.upd_other _ _ (fun x => hne (e.trans x.symm))] at hps
      rcases t.new p hp with hp | hp
      · exact h.rr r s hr hs (fun x => hne (e.trans x)) p hp hps
      · exact h.fresh hp (.inr ⟨s, hs, hps⟩)
    · rw [Ag.upd_other _ _ e] at hp
      by_cases e2 : s = r
      · rw [e2, Ag.upd_same] at hps
        rcases t.new p hps with hps | hps
        · exact h.rr q r hq hr e p hp hps
        · exact h.fresh hps (.inr ⟨q, hq, hp⟩)
      · rw [Ag.upd_other _ _ e2] at hps; exact h.rr q s hq hs hne p hp hps
  · rcases hp with hp | ⟨q, hq, hp⟩
    · exact .inl (.inl hp)
    · by_cases e : q = r
      · rw [e, Ag.upd_same] at hp
        rcases t.new p hp with hp | hp
        · exact .inl (.inr ⟨r, hr, hp⟩)
        · exact .inr hp
      · rw [Ag.upd_other _ _ e] at hp
        exact .inl (.inr ⟨q, hq, hp⟩)
end Go.Proofs.Ytbciofnejefkiaa

namespace Go.Proofs.Ytbciofnejefkiaa
open Go Go.Am Go.Proofs
set_option linter.unusedSimpArgs false
set_option linter.unusedVariables false
set_option maxRecDepth 20000
set_option maxHeartbeats 4000000

/-! The world's objects alone turn; what was told. -/
theorem WAt.objs {H H' : AHeap} {O O' : Wo} {F : Nat → Ob} {w w' : Ag.W} (h : WAt H O F w) (hn : w'.n = w.n) (hcc : w'.c = w.c) (e : O'.w = O.w)
    (h1 : H' O'.w = some (.cel (worldC O' w'))) (h2 : H' O'.c = some (.cel ((List.range w.n).map fun r => .ptr (F r).o 0))) (h3 : H' O'.s = some (.cel ((List.range w.n).map fun r => svA r w.n (w'.saved r))))
    (h4 : H' O'.k = some (.cel ((List.range w.n).map fun r => cutA (w'.cut r)))) (h5 : H' O'.l = some (.cel (w'.l.flatMap Mg.cells))) (h6 : H' O'.i = some (.cel (w'.ids.map fun x => uI x.1)))
    (h7 : H' O'.r = some (.cel (w'.ids.map fun x => rowA x.2))) (h8 : H' O'.b = some (.cel (w'.best.flatMap En.cells))) (nd : O'.l'.Nodup)
    (new : ∀ p ∈ O'.l', p ∈ O.l' ∨ H p = none) (fr : ∀ p y, H p = some y → p ∉ O.l' → H' p = some y) : WAt H' O' F w' ∧ TurnW w.n H O F O' F H' := by
  refine ⟨⟨h1, by rw [hn]; exact h2, by rw [hn]; exact h3, by rw [hn]; exact h4, h5, h6, h7, h8, nd, fun r hr => ?_, fun r hr => h.ndC r (hn ▸ hr), fun r hr p hp hx => ?_, fun r s hr hs hne p hp => h.rr r s (hn ▸ hr) (hn ▸ hs) hne p hp⟩, ⟨e, fun p hp => ?_, fun p y hp hd => fr p y hp fun hx => hd (.inl hx)⟩⟩
  · rw [hcc]
    rw [hn] at hr
    obtain ⟨⟨off, xs, a1, a2, a3, a4⟩, ⟨eg, b1, b2⟩, ⟨eh, c1, c2⟩⟩ := h.co r hr
    have hap := h.ap r hr
    exact ⟨⟨off, xs, fr _ _ a1 (hap _ (by simp [Ob.c])), fr _ _ a2 (hap _ (by simp [Ob.c])), a3, a4⟩, ⟨eg, fr _ _ b1 (hap _ (by simp [Ob.c])), b2⟩, ⟨eh, fr _ _ c1 (hap _ (by simp [Ob.c])), c2⟩⟩
  · rw [hn] at hr
    rcases new p hx with hx | hx
    · exact h.ap r hr p hp hx
    · exact h.fresh hx (.inr ⟨r, hr, hp⟩)
  · rcases hp with hp | ⟨q, hq, hp⟩
    · rcases new p hp with hp | hp
      · exact .inl (.inl hp)
      · exact .inr hp
    · exact .inl (.inr ⟨q, hq, hp⟩)
theorem same_calls (H : AHeap) (a b : List Int) (ha : a.length ≤ 1000000000) (hb : b.length ≤ 1000000000) : ACalls Try.prog 71 [rowA a, rowA b] H fun r H' => r = bB (decide (a = b)) ∧ H' = H := by
  unfold rowA
  refine acalls_of_aw2 Try.func71 rfl (by decide) ?_
  (first | focus (refine yy4 ?_; refine yy6 ?_; refine yy12 ?_; refine yy44 ?_; refine yy44 ?_; refine yy70 ?_; refine yy3 ?_; refine aw_condp rfl (fun hc => ?_) (fun hc => ?_); refine yy18 ?_; refine yy21 ?_; rotate_left; refine yy66 ?_; refine yy12 ?_; refine yy6 ?_; refine aw_block ?_; rotate_left) | fail)
  · exact ⟨.inl rfl, _, _, _, Ent.refl _ _, ret1 rfl rfl, by rw [decide_eq_false (fun (e : a = b) => hc (congrArg List.length e))]; rfl, rfl⟩
  have hlen : a.length = b.length := by omega
  refine aw_loop (fun mm R' H2 => ∃ (i : Nat), H2 = H ∧ R' = [(0, .sls a.length (a.map mI)), (1, .sls b.length (b.map mI)), (5, .raw (.int .i64 (i : Int)))] ∧ a.take i = b.take i ∧ i + mm = a.length) ?_ ?_
  · exact ⟨a.length, _, _, auto_ent, 0, rfl, rfl, rfl, by omega⟩
  rintro mm R0 H2 ⟨i, rfl, rfl, ht, hi⟩
  by_cases hlt : i < a.length
  · have hga : a[i]? = some a[i] := List.getElem?_eq_getElem hlt
    have hgb : b[i]? = some (b[i]'(by omega)) := List.getElem?_eq_getElem (by omega)
    have g1 := row_get hga
    have g2 := row_get hgb
    have hsn := fun e => take_eq_snoc hga hgb ht e
    have hne := fun e => ne_of_get hga hgb e
    generalize a[i] = x at *
    generalize b[i]'(by omega) = y at *
    (first | focus (refine yy11 ?_; refine yy44 ?_; refine yy57 ?_; refine aw_condp rfl (fun hc => ?_) (fun hc => ?_); refine yy83 ?_; refine aw_block ?_; refine yy16 ?_; (apply awt_s; · exact s_move (v := .sls _ _) rfl); (apply awt_s; · exact s_move (v := .raw _) rfl); (apply awt_s; · exact s_indexAddr_sls rfl rfl auto_len); (apply awt_s; · exact s_load_pce rfl auto_idx); (apply awt_s; · exact s_move (v := .sls _ _) rfl); (apply awt_s; · exact s_move (v := .raw _) rfl); (apply awt_s; · exact s_indexAddr_sls rfl rfl auto_len); (apply awt_s; · exact s_load_pce rfl auto_idx); (apply awt_s; · exact s_neq rfl rfl); refine yy13 ?_; refine aw_condp rfl (fun hc => ?_) (fun hc => ?_); refine yy18 ?_; refine yy86 ?_; refine yy51 ?_; rotate_left; refine aw_skip ?_; refine yy84 ?_; refine yy2 ?_; refine yy74 ?_; refine yy6 ?_; rotate_left; exact absurd hc auto_no) | fail)
    all_goals first
      | exact ⟨.inl rfl, _, _, _, Ent.refl _ _, ret1 rfl rfl, by rw [decide_eq_false (hne hc)]; rfl, rfl⟩
      | exact ⟨mm - 1, _, _, by omega, auto_ent, i + 1, rfl, rfl, hsn (Decidable.of_not_not hc), by omega⟩
      | (exfalso; omega)
  obtain rfl : i = a.length := by omega
  rw [List.take_length, hlen, List.take_length] at ht
  (first | focus (refine yy11 ?_; refine yy44 ?_; refine yy57 ?_; refine yy28 ?_; intro hc; refine yy18 ?_; rotate_left) | fail)
  all_goals first
    | (exfalso; omega)
    | exact ⟨.inl rfl, _, _, _, Ent.refl _ _, ret1 rfl rfl, by rw [decide_eq_true ht]; rfl, rfl⟩
end Go.Proofs.Ytbciofnejefkiaa

namespace Go.Proofs.Ytbciofnejefkiaa
open Go Go.Am Go.Proofs
set_option linter.unusedSimpArgs false
set_option linter.unusedVariables false
set_option maxRecDepth 20000
set_option maxHeartbeats 4000000

/-! What a replica tells goes with what was told. -/
theorem rng_get {α : Type} {n r : Nat} (f : Nat → α) (h : r < n) : ((List.range n).map f)[r]? = some (f r) := by
  rw [List.getElem?_map, List.getElem?_range h]; rfl
theorem en_at {l : List En} {i j : Nat} {e : En} {y : AV} (h : l[i]? = some e) (hj : j < 3) (hy : e.cells[j]? = some y) : (l.flatMap En.cells)[i * 3 + j]? = some y := flat_get (sz := 3) (f := En.cells) (fun _ => rfl) h hj hy
theorem en_at0 {l : List En} {i j : Nat} {e : En} {y : AV} (h : l[i]? = some e) (hj : j < 3) (hy : e.cells[j]? = some y) : (l.flatMap En.cells)[0 + i * 3 + j]? = some y := by rw [Nat.zero_add]; exact en_at h hj hy
theorem told_calls (H : AHeap) (O : Wo) (F : Nat → Ob) (w : Ag.W) (r : Nat) (h : WAt H O F w) (hr : r < w.n) (h7 : w.n ≤ 7) (hf : CFine (w.c r)) (hb : LF w.best) (hi : w.ids.length ≤ 1000000) (hrow : ∀ x ∈ w.ids, x.2.length ≤ 1000000) {b' : List En}
    (ht : Ag.toldL w.ids [] ((w.c r).list.take (w.c r).agreed) w.best = some b') :
    ACalls Try.prog 48 [.ptr O.w 0, mI (r : Int)] H fun r H' => r = bB true ∧ ∃ O', WAt H' O' F { w with best := b' } ∧ TurnW w.n H O F O' F H' := by
  have h0 := h
  obtain ⟨aw, ac, asv, ak, al, ai, ar, ab, nd, co, _, _, _⟩ := h
  obtain ⟨d1, d2, d3, d4, d5, d6, d7, d8, d9, d10, d11, d12, d13, d14, d15, d16, d17, d18, d19, d20, d21, d22, d23, d24, d25, d26, d27, d28⟩ := Wo.ne nd
  have hcr : ((List.range w.n).map fun r => AV.ptr (F r).o 0)[0 + r * 1]? = some (.ptr (F r).o 0) := by rw [show 0 + r * 1 = r by omega]; exact rng_get _ hr
  have hL := fun H h => Committed_calls H (F r) (w.c r) h hf
  have hl200 : ((w.c r).list.take (w.c r).agreed).length ≤ 200 := by have := hf.list.len; rw [List.length_take]; omega
  have hlr : ∀ e ∈ (w.c r).list.take (w.c r).agreed, e.Ok ∧ e.row.length ≤ 16 := fun e he => hf.list.ok e (List.mem_of_mem_take he)
  have hco := co r hr
  generalize (w.c r).list.take (w.c r).agreed = L at *
  unfold worldC at aw
  have hL1 := hL H hco
  refine acalls_of_aw2 Try.func48 rfl (by decide) ?_
  (first | focus (refine yy46 ?_; refine yy8 ?_; refine yy2 ?_; refine yy95 ?_; refine yy108 ?_; (refine zc auto_wl (hL1) ?_; rintro r H' ⟨rfl, rfl⟩); refine awl_s rfl (s_assign (v := .sls _ _) rfl) ?_; refine yy3 ?_; refine yy12 ?_; refine yy6 ?_; refine aw_block ?_; rotate_left) | fail)
  refine aw_loop (fun mm R' H2 => ∃ (i ob : Nat) (b : List En), R' = [(0, .ptr O.w 0), (5, lsE L), (6, .raw (.int .i64 (i : Int)))] ∧ H2 O.w = some (.cel [mI w.n, .vw O.c 1 0 w.n, .vw O.s 1 0 w.n, .vw O.k 1 0 w.n, .vw O.l 9 0 w.l.length, .vw O.i 1 0 w.ids.length, .vw O.r 1 0 w.ids.length, .vw ob 3 0 b.length]) ∧ H2 ob = some (.cel (b.flatMap En.cells)) ∧ (ob = O.b ∨ H' ob = none) ∧ (∀ p y, H' p = some y → p ≠ O.w → p ≠ O.b → H2 p = some y) ∧ LF b ∧ Ag.toldL w.ids (L.take i) (L.drop i) b = some b' ∧ i + mm = L.length) ?_ ?_
  · exact ⟨L.length, _, _, auto_ent, 0, O.b, w.best, rfl, aw, ab, .inl rfl, fun p y hp _ _ => hp, hb, by rw [List.take_zero, List.drop_zero]; exact ht, by omega⟩
  clear ht hb hL1 hco co asv ak al ab hcr aw
  rintro mm R0 H2 ⟨i, ob, b, rfl, q1, q2, q3, q4, q5, q6, hi⟩
  have hob : ∀ p y, H' p = some y → p ≠ O.b → p ≠ ob := fun p y hp hne e => by
    rcases q3 with h | h
    · exact hne (e.trans h)
    · rw [e, h] at hp; cases hp
  have b5 := q5.len
  by_cases hlt : i < L.length
  rotate_left
  · obtain rfl : i = L.length := by omega
    rw [List.drop_length, Ag.toldL] at q6
    cases q6
    (first | focus (refine yy11 ?_; refine yy44 ?_; refine yy57 ?_; refine yy28 ?_; intro hc; refine yy4 ?_; refine yy44 ?_; refine awl_s rfl (s_len_ rfl rfl) ?_; refine yy9 ?_; rotate_left) | fail)
    all_goals try (exfalso; omega)
    have hres : WAt H2 { O with b := ob } F { w with best := b' } ∧ TurnW w.n H' O F { O with b := ob } F H2 := by
      have hne : ∀ x, (∃ y, H' x = some y) → x ≠ O.b → ob ≠ x := fun x ⟨y, hx⟩ hn e => hob x y hx hn e.symm
      refine h0.objs rfl rfl rfl q1 (q4 _ _ h0.ac d1.symm d13) (q4 _ _ h0.asv d2.symm d18) (q4 _ _ h0.ak d3.symm d22) (q4 _ _ h0.al d4.symm d25) (q4 _ _ h0.ai d5.symm d27) (q4 _ _ h0.ar d6.symm d28) q2 (Wo.nd ⟨d1, d2, d3, d4, d5, d6, (hne _ ⟨_, h0.aw⟩ d7).symm, d8, d9, d10, d11, d12, (hne _ ⟨_, h0.ac⟩ d13).symm, d14, d15, d16, d17, (hne _ ⟨_, h0.asv⟩ d18).symm, d19, d20, d21, (hne _ ⟨_, h0.ak⟩ d22).symm, d23, d24, (hne _ ⟨_, h0.al⟩ d25).symm, d26, (hne _ ⟨_, h0.ai⟩ d27).symm, (hne _ ⟨_, h0.ar⟩ d28).symm⟩) (fun p hp => ?_) (fun p y hp hF => q4 p y hp (fun e => hF (by rw [e]; simp [Wo.l'])) (fun e => hF (by rw [e]; simp [Wo.l'])))
      simp only [Wo.l', List.mem_cons, List.not_mem_nil, or_false] at hp ⊢
      rcases hp with e | e | e | e | e | e | e | e
      · exact .inl (.inl e)
      · exact .inl (.inr (.inl e))
      · exact .inl (.inr (.inr (.inl e)))
      · exact .inl (.inr (.inr (.inr (.inl e))))
      · exact .inl (.inr (.inr (.inr (.inr (.inl e)))))
      · exact .inl (.inr (.inr (.inr (.inr (.inr (.inl e))))))
      · exact .inl (.inr (.inr (.inr (.inr (.inr (.inr (.inl e)))))))
      · rcases q3 with h | h
        · exact .inl (.inr (.inr (.inr (.inr (.inr (.inr (.inr (e.trans h))))))))
        · exact .inr (e ▸ h)
    exact ⟨.inl rfl, _, _, _, Ent.refl _ _, ret1 rfl rfl, congrArg (fun b => AV.raw (Value.bool b)) (decide_eq_true hl200), _, hres.1, hres.2⟩
  have hg : L[i]? = some L[i] := List.getElem?_eq_getElem hlt
  obtain ⟨oke, hr16⟩ := hlr _ (List.getElem_mem hlt)
  have hg0 := en_at (j := 0) hg (by omega) rfl
  have hg2 := en_at (j := 2) hg (by omega) rfl
  have hge := ent_get hg
  have hdr : L.drop i = L[i] :: L.drop (i + 1) := List.drop_eq_getElem_cons hlt
  have htk : L.take (i + 1) = L.take i ++ [L[i]] := by rw [List.take_add_one, hg]; rfl
  have hlen : (L.take i).length = i := by rw [List.length_take]; omega
  rw [hdr, Ag.toldL, hlen, ← htk] at q6
  generalize L[i] = e at *
  by_cases hlb : i < b.length
  · have hgb : b[i]? = some b[i] := List.getElem?_eq_getElem hlb
    have hrb := (q5.ok _ (List.getElem_mem hlb)).2
    have hb0 := en_at0 (j := 0) hgb (by omega) rfl
    have hb2 := en_at0 (j := 2) hgb (by omega) rfl
    rw [hgb] at q6
    generalize b[i] = x at *
    dsimp only at q6
    split at q6
    · cases q6
    · next hno =>
      rw [not_or, Decidable.not_not, Decidable.not_not] at hno
      obtain ⟨hno1, hno2⟩ := hno
      have hS := fun H => same_calls H e.row x.row (by omega) (by omega)
      rw [decide_eq_true hno2] at hS
      clear hdr htk
      replace q6 := Hdn.mk q6
      (first | focus (refine yy11 ?_; refine yy44 ?_; refine yy57 ?_; refine aw_condp rfl (fun hc => ?_) (fun hc => ?_); refine yy83 ?_; refine aw_block ?_; refine yy11 ?_; refine yy8 ?_; refine yy87 ?_; refine yy57 ?_; refine aw_condp rfl (fun hc => ?_) (fun hc => ?_); refine aw_seq ?_; refine yy16 ?_; (apply awt_s; · exact s_move (v := .sls _ _) rfl); (apply awt_s; · exact s_move (v := .raw _) rfl); (apply awt_s; · exact s_indexAddr_sls rfl rfl auto_len); (apply awt_s; · exact s_fieldAddr_pce rfl); (apply awt_s; · exact s_load_pce rfl auto_idx); (apply awt_s; · exact s_move (v := .ptr _ _) rfl); (apply awt_s; · exact s_nilCheck_ptr rfl); (apply awt_s; · exact s_fieldAddr_ptr rfl); (apply awt_s; · exact s_load_cel rfl auto_heap rfl); (apply awt_s; · exact s_move (v := .raw _) rfl); (apply awt_s; · exact s_indexAddr_vw rfl rfl auto_len); (apply awt_s; · exact s_fieldAddr_ptr rfl); (apply awt_s; · exact s_load_cel rfl auto_heap auto_idx); (apply awt_s; · exact s_nen rfl rfl); (apply awt_s; · exact s_move (v := .raw _) rfl); refine zt2 rfl rfl rfl (fun hc => ?_) (fun hc => ?_); (apply awt_s; · exact s_move (v := .sls _ _) rfl); refine yy1 ?_; (apply awt_s; · exact s_move (v := .raw _) rfl); refine yy1 ?_; (apply awt_s; · exact s_indexAddr_sls rfl rfl auto_len); refine yy1 ?_; (apply awt_s; · exact s_fieldAddr_pce rfl); refine yy1 ?_; (apply awt_s; · exact s_load_pce rfl auto_idx); refine yy1 ?_; (apply awt_s; · exact s_move (v := .ptr _ _) rfl); refine yy1 ?_; (apply awt_s; · exact s_nilCheck_ptr rfl); refine yy1 ?_; (apply awt_s; · exact s_fieldAddr_ptr rfl); refine yy1 ?_; (apply awt_s; · exact s_load_cel rfl auto_heap rfl); refine yy1 ?_; (apply awt_s; · exact s_move (v := .raw _) rfl); refine yy1 ?_; (apply awt_s; · exact s_indexAddr_vw rfl rfl auto_len); refine yy1 ?_; (apply awt_s; · exact s_fieldAddr_ptr rfl); refine yy1 ?_; (apply awt_s; · exact s_load_cel rfl auto_heap auto_idx); refine yy1 ?_; (apply awt_s; · exact s_callc auto_wl (hS _)); refine yy1 ?_; (apply awt_s; · exact s_notb rfl); (apply awt_s; · exact s_pick_f (v := .raw _) rfl rfl); refine yy13 ?_; refine yy68 ?_; refine aw_exit ?_; refine k_seq_exit ?_; refine k_block_eq ?_; refine yy47 ?_; refine aw_region ?_; refine yy2 ?_; refine yy74 ?_; refine yy6 ?_; rotate_left; exact absurd hc auto_no; exact absurd hc auto_no; exact absurd hc auto_no) | fail)
      all_goals try (exfalso; omega)
      all_goals exact ⟨mm - 1, _, _, by omega, auto_ent, i + 1, ob, b, rfl, q1, q2, q3, q4, q5, q6.out, by omega⟩
  have hgb : b[i]? = none := List.getElem?_eq_none (by omega)
  rw [hgb] at q6
  dsimp only at q6
  split at q6
  rotate_left
  · cases q6
  next hyes =>
  obtain ⟨hy1, hy2⟩ := hyes
  have hbi : b.length = i ∨ b.length < i := by omega
  clear hgb
  replace q6 := Hdn.mk q6
  (first | focus (refine yy11 ?_; refine yy44 ?_; refine yy57 ?_; refine aw_condp rfl (fun hc => ?_) (fun hc => ?_); refine yy83 ?_; refine aw_block ?_; refine yy11 ?_; refine yy8 ?_; refine yy87 ?_; refine yy57 ?_; refine yy53 ?_; intro hc; refine yy4 ?_; refine yy6 ?_; refine yy12 ?_; refine yy6 ?_; refine aw_block ?_; rotate_left; exact absurd hc auto_no) | fail)
  all_goals try (exfalso; omega)
  have xi := q4 _ _ ai d5.symm d27
  have xr := q4 _ _ ar d6.symm d28
  refine aw_loop (fun mm2 R' H3 => ∃ (k : Nat) (fk : Bool), H3 = H2 ∧ R' = [(0, .ptr O.w 0), (5, lsE L), (6, .raw (.int .i64 (i : Int))), (7, .raw (.bool fk)), (8, .raw (.int .i64 (k : Int)))] ∧ fk = ((w.ids.take k).any fun x => decide (x.1 = e.id ∧ x.2 = e.row)) ∧ k + mm2 = w.ids.length) ?_ ?_
  · exact ⟨w.ids.length, _, _, auto_ent, 0, false, rfl, rfl, rfl, by omega⟩
  rintro mm2 R1 H3 ⟨k, fk, rfl, rfl, hfk, hk⟩
  by_cases hkl : k < w.ids.length
  · have hgk : w.ids[k]? = some w.ids[k] := List.getElem?_eq_getElem hkl
    have hrk := hrow _ (List.getElem_mem hkl)
    have hany : (w.ids.take (k + 1)).any (fun x => decide (x.1 = e.id ∧ x.2 = e.row)) = ((w.ids.take k).any (fun x => decide (x.1 = e.id ∧ x.2 = e.row)) || decide (w.ids[k].1 = e.id ∧ w.ids[k].2 = e.row)) := by
      rw [List.take_add_one, hgk, List.any_append, Option.toList_some, List.any_cons, List.any_nil, Bool.or_false]
    generalize w.ids[k] = x at *
    rw [← hfk] at hany
    clear hfk
    obtain ⟨xid, xrow⟩ := x
    dsimp only at hrk hany
    have hS := fun H => same_calls H xrow e.row (by omega) (by omega)
    cases fk with
    | true =>
      rw [Bool.true_or] at hany
      (first | focus (refine yy11 ?_; refine yy8 ?_; refine yy87 ?_; refine yy57 ?_; refine aw_condp rfl (fun hc => ?_) (fun hc => ?_); refine yy83 ?_; refine aw_block ?_; refine yy82 ?_; (apply awt_s; · exact s_move (v := .raw _) rfl); (apply awt_s; · exact s_move (v := .raw _) rfl); refine yy15 ?_; refine yy15 ?_; refine yy15 ?_; refine yy77 ?_; refine zt5 rfl rfl ?_; refine zt5 rfl rfl ?_; refine zt5 rfl rfl ?_; refine zt5 rfl rfl ?_; refine zt5 rfl rfl ?_; refine zt5 rfl rfl ?_; refine zt5 rfl rfl ?_; refine zt5 rfl rfl ?_; refine zt5 rfl rfl ?_; refine zt5 rfl rfl ?_; refine zt5 rfl rfl ?_; refine zt5 rfl rfl ?_; refine zt5 rfl rfl ?_; refine zt4 rfl rfl ?_; (apply awt_s; · exact s_pick_t (v := .raw _) rfl rfl); (apply awt_s; · exact s_assign (v := .raw _) rfl); (with_reducible refine awt_nil ?_); refine yy84 ?_; refine yy2 ?_; refine yy74 ?_; refine yy6 ?_; rotate_left; exact absurd hc auto_no) | fail)
      all_goals try (exfalso; omega)
      all_goals exact ⟨mm2 - 1, _, _, by omega, auto_ent, k + 1, _, rfl, rfl, hany.symm, by omega⟩
    | false =>
      rw [Bool.false_or] at hany
      by_cases hx1 : xid = e.id
      · have hx2 : decide (xid = e.id ∧ xrow = e.row) = decide (xrow = e.row) := decide_eq_decide.2 ⟨fun h => h.2, fun h => ⟨hx1, h⟩⟩
        rw [hx2] at hany
        (first | focus (refine yy11 ?_; refine yy8 ?_; refine yy87 ?_; refine yy57 ?_; refine aw_condp rfl (fun hc => ?_) (fun hc => ?_); refine yy83 ?_; refine aw_block ?_; refine yy82 ?_; (apply awt_s; · exact s_move (v := .raw _) rfl); (apply awt_s; · exact s_move (v := .raw _) rfl); refine yy1 ?_; (apply awt_s; · exact s_move (v := .ptr _ _) rfl); refine yy1 ?_; (apply awt_s; · exact s_nilCheck_ptr rfl); refine yy1 ?_; (apply awt_s; · exact s_fieldAddr_ptr rfl); refine yy1 ?_; (apply awt_s; · exact s_load_cel rfl auto_heap rfl); refine yy1 ?_; (apply awt_s; · exact s_move (v := .raw _) rfl); refine yy1 ?_; (apply awt_s; · exact s_indexAddr_vw rfl rfl auto_len); refine yy1 ?_; (apply awt_s; · exact s_load_cel rfl auto_heap auto_idx); refine yy1 ?_; (apply awt_s; · exact s_move (v := .sls _ _) rfl); refine yy1 ?_; (apply awt_s; · exact s_move (v := .raw _) rfl); refine yy1 ?_; (apply awt_s; · exact s_indexAddr_sls rfl rfl auto_len); refine yy1 ?_; (apply awt_s; · exact s_fieldAddr_pce rfl); refine yy1 ?_; (apply awt_s; · exact s_load_pce rfl auto_idx); refine yy1 ?_; (apply awt_s; · exact s_eqn rfl rfl); refine yy1 ?_; (apply awt_s; · exact s_move (v := .raw _) rfl); refine zt1 rfl rfl rfl (fun hc => ?_) (fun hc => ?_); (apply awt_s; · exact s_move (v := .ptr _ _) rfl); refine yy1 ?_; (apply awt_s; · exact s_nilCheck_ptr rfl); refine yy1 ?_; (apply awt_s; · exact s_fieldAddr_ptr rfl); refine yy1 ?_; (apply awt_s; · exact s_load_cel rfl auto_heap rfl); refine yy1 ?_; (apply awt_s; · exact s_move (v := .raw _) rfl); refine yy1 ?_; (apply awt_s; · exact s_indexAddr_vw rfl rfl auto_len); refine yy1 ?_; (apply awt_s; · exact s_load_cel rfl auto_heap auto_idx); refine yy1 ?_; (apply awt_s; · exact s_move (v := .sls _ _) rfl); refine yy1 ?_; (apply awt_s; · exact s_move (v := .raw _) rfl); refine yy1 ?_; (apply awt_s; · exact s_indexAddr_sls rfl rfl auto_len); refine yy1 ?_; (apply awt_s; · exact s_fieldAddr_pce rfl); refine yy1 ?_; (apply awt_s; · exact s_load_pce rfl auto_idx); refine yy1 ?_; (apply awt_s; · exact s_callc auto_wl (hS _)); refine yy1 ?_; (apply awt_s; · exact s_pick_t (v := .raw _) rfl rfl); (apply awt_s; · exact s_pick_f (v := .raw _) rfl rfl); (apply awt_s; · exact s_assign (v := .raw _) rfl); (with_reducible refine awt_nil ?_); refine yy84 ?_; refine yy2 ?_; refine yy74 ?_; refine yy6 ?_; rotate_left; exact absurd hc auto_no; exact absurd hc auto_no) | fail)
        all_goals try (exfalso; omega)
        all_goals exact ⟨mm2 - 1, _, _, by omega, auto_ent, k + 1, _, rfl, rfl, hany.symm, by omega⟩
      · have hx2 : decide (xid = e.id ∧ xrow = e.row) = false := decide_eq_false fun h => hx1 h.1
        rw [hx2] at hany
        (first | focus (refine yy11 ?_; refine yy8 ?_; refine yy87 ?_; refine yy57 ?_; refine aw_condp rfl (fun hc => ?_) (fun hc => ?_); refine yy83 ?_; refine aw_block ?_; refine yy82 ?_; (apply awt_s; · exact s_move (v := .raw _) rfl); (apply awt_s; · exact s_move (v := .raw _) rfl); refine yy1 ?_; (apply awt_s; · exact s_move (v := .ptr _ _) rfl); refine yy1 ?_; (apply awt_s; · exact s_nilCheck_ptr rfl); refine yy1 ?_; (apply awt_s; · exact s_fieldAddr_ptr rfl); refine yy1 ?_; (apply awt_s; · exact s_load_cel rfl auto_heap rfl); refine yy1 ?_; (apply awt_s; · exact s_move (v := .raw _) rfl); refine yy1 ?_; (apply awt_s; · exact s_indexAddr_vw rfl rfl auto_len); refine yy1 ?_; (apply awt_s; · exact s_load_cel rfl auto_heap auto_idx); refine yy1 ?_; (apply awt_s; · exact s_move (v := .sls _ _) rfl); refine yy1 ?_; (apply awt_s; · exact s_move (v := .raw _) rfl); refine yy1 ?_; (apply awt_s; · exact s_indexAddr_sls rfl rfl auto_len); refine yy1 ?_; (apply awt_s; · exact s_fieldAddr_pce rfl); refine yy1 ?_; (apply awt_s; · exact s_load_pce rfl auto_idx); refine yy1 ?_; (apply awt_s; · exact s_eqn rfl rfl); refine yy1 ?_; (apply awt_s; · exact s_move (v := .raw _) rfl); refine zt1 rfl rfl rfl (fun hc => ?_) (fun hc => ?_); exact absurd hc auto_no; refine yy15 ?_; refine yy15 ?_; refine yy15 ?_; refine yy1 ?_; (apply awt_s; · exact s_pick_f (v := .raw _) rfl rfl); (apply awt_s; · exact s_pick_f (v := .raw _) rfl rfl); (apply awt_s; · exact s_assign (v := .raw _) rfl); (with_reducible refine awt_nil ?_); refine yy84 ?_; refine yy2 ?_; refine yy74 ?_; refine yy6 ?_; rotate_left; exact absurd hc auto_no) | fail)
        all_goals try (exfalso; omega)
        all_goals exact ⟨mm2 - 1, _, _, by omega, auto_ent, k + 1, _, rfl, rfl, hany.symm, by omega⟩
  obtain rfl : k = w.ids.length := by omega
  rw [List.take_length, hy1] at hfk
  subst hfk
  (first | focus (refine yy11 ?_; refine yy8 ?_; refine yy87 ?_; refine yy57 ?_; refine yy28 ?_; intro hc; refine yy12 ?_; refine yy6 ?_; refine aw_block ?_; rotate_left) | fail)
  all_goals try (exfalso; omega)
  clear hk hkl hc
  refine aw_loop (fun mm2 R' H2 => ∃ (k : Nat) (f2 : Bool), H2 = H3 ∧ R' = [(0, .ptr O.w 0), (5, lsE L), (6, .raw (.int .i64 (i : Int))), (7, .raw (.bool f2)), (9, .raw (.int .i64 (k : Int)))] ∧ f2 = true ∧ k + mm2 = i) ?_ ?_
  · exact ⟨i, _, _, auto_ent, 0, true, rfl, rfl, rfl, by omega⟩
  rintro mm2 R1 H2 ⟨k, f2, rfl, rfl, rfl, hk⟩
  by_cases hki : k < i
  · have hgk : L[k]? = some (L[k]'(by omega)) := List.getElem?_eq_getElem (by omega)
    have hk0 := en_at (j := 0) hgk (by omega) rfl
    have hne : (L[k]'(by omega)).id ≠ e.id := fun hx => by
      have : Ag.hasId (L.take i) e.id = true := hasId_mem (List.mem_of_getElem? (i := k) (by rw [List.getElem?_take, if_pos hki]; exact hgk)) hx
      rw [this] at hy2; cases hy2
    generalize (L[k]'(by omega)) = x at *
    (first | focus (refine yy11 ?_; refine yy2 ?_; refine yy57 ?_; refine aw_condp rfl (fun hc => ?_) (fun hc => ?_); refine yy83 ?_; refine aw_block ?_; refine yy82 ?_; (apply awt_s; · exact s_move (v := .raw _) rfl); (apply awt_s; · exact s_move (v := .raw _) rfl); refine yy1 ?_; (apply awt_s; · exact s_move (v := .sls _ _) rfl); refine yy1 ?_; (apply awt_s; · exact s_move (v := .raw _) rfl); refine yy1 ?_; (apply awt_s; · exact s_indexAddr_sls rfl rfl auto_len); refine yy1 ?_; (apply awt_s; · exact s_fieldAddr_pce rfl); refine yy1 ?_; (apply awt_s; · exact s_load_pce rfl auto_idx); refine yy1 ?_; (apply awt_s; · exact s_move (v := .sls _ _) rfl); refine yy1 ?_; (apply awt_s; · exact s_move (v := .raw _) rfl); refine yy1 ?_; (apply awt_s; · exact s_indexAddr_sls rfl rfl auto_len); refine yy1 ?_; (apply awt_s; · exact s_fieldAddr_pce rfl); refine yy1 ?_; (apply awt_s; · exact s_load_pce rfl auto_idx); refine yy1 ?_; (apply awt_s; · exact s_nen rfl rfl); (apply awt_s; · exact s_pick_t (v := .raw _) rfl rfl); (apply awt_s; · exact s_assign (v := .raw _) rfl); (with_reducible refine awt_nil ?_); refine yy84 ?_; refine yy2 ?_; refine yy74 ?_; refine yy6 ?_; rotate_left; exact absurd hc auto_no) | fail)
    all_goals try (exfalso; omega)
    all_goals exact ⟨mm2 - 1, _, _, by omega, auto_ent, k + 1, _, rfl, rfl, decide_eq_true hne, by omega⟩
  obtain rfl : k = i := by omega
  have hbf : (b.flatMap En.cells).length = b.length * 3 := flat_len (sz := 3) (fun _ => rfl) _
  have hob2 : O.w ≠ ob := hob _ _ h0.aw d7
  (first | focus (refine yy11 ?_; refine yy2 ?_; refine yy57 ?_; refine yy28 ?_; intro hc; refine yy11 ?_; refine yy37 ?_; refine yy3 ?_; refine yy68 ?_; refine aw_draw2 false auto_kr auto_dk auto_dk ?_; (apply awm_s; · (intro H1; exact s_move (v := .ptr _ _) rfl)); (apply awm_s; · (intro H1; exact s_move (v := .ptr _ _) rfl)); (apply awm_s; · (intro H1; exact s_nilCheck_ptr rfl)); (apply awm_s; · (intro H1; exact s_fieldAddr_ptr rfl)); (apply awm_e auto_dk; (· exact s_load_cel rfl auto_heap rfl)); (apply awm_s; · (intro H1; exact s_move (v := .sls _ _) rfl)); (apply awm_s; · (intro H1; exact s_move (v := .raw _) rfl)); (apply awm_s; · (intro H1; exact s_indexAddr_sls rfl rfl auto_len)); (apply awm_s; · (intro H1; exact s_load_pce_agg rfl (by assumption) (by rfl) (by decide))); (apply awm_s; · (intro H1; exact s_buildSlicev (by ((repeat' (first | exact eqL_nil | apply eqL_cons)); all_goals (first | exact (rfl : _ = AV.raw _) | exact (rfl : _ = AV.bys _) | exact (rfl : _ = AV.vw _ _ _ _) | exact (rfl : _ = AV.ptr _ _) | exact (rfl : _ = AV.str _) | exact (rfl : _ = AV.sls _ _) | exact (rfl : _ = AV.tup _) | exact (rfl : _ = AV.agg _) | exact (rfl : _ = AV.pce _ _) | exact (rfl : _ = AV.emp) | exact (rfl : _ = AV.bysx _) | exact (rfl : _ = AV.slsx _ _) | exact (rfl : _ = AV.mp _) | exact (rfl : _ = AV.fnc _ _ _) | exact (rfl : _ = AV.pby _ _) | exact (rfl : _ = AV.ifc _ _)))) (by rfl) (by rfl) (by rfl) (by ((repeat' (first | exact eqL_nil | apply eqL_cons)); all_goals (first | exact (rfl : _ = AV.raw _) | exact (rfl : _ = AV.bys _) | exact (rfl : _ = AV.vw _ _ _ _) | exact (rfl : _ = AV.ptr _ _) | exact (rfl : _ = AV.str _) | exact (rfl : _ = AV.sls _ _) | exact (rfl : _ = AV.tup _) | exact (rfl : _ = AV.agg _) | exact (rfl : _ = AV.pce _ _) | exact (rfl : _ = AV.emp) | exact (rfl : _ = AV.bysx _) | exact (rfl : _ = AV.slsx _ _) | exact (rfl : _ = AV.mp _) | exact (rfl : _ = AV.fnc _ _ _) | exact (rfl : _ = AV.pby _ _) | exact (rfl : _ = AV.ifc _ _)))) (by decide))); refine awm_b ?_; (apply awm_s; · (intro H1; exact s_nilCheck_ptr rfl)); (apply awm_s; · (intro H1; exact s_fieldAddr_ptr rfl)); refine awm_b0 ?_; refine awm_nil ?_; refine awb_cons (fun Rx K1 hK1x => ?_); refine za4 rfl rfl rfl auto_heap auto_al auto_src auto_len auto_len (fun oN hoN => ?_); refine yy7 ?_; (refine hK1x _ _ ?_; clear hK1x K1 Rx); refine awb_cons0 (fun Rx K1 hK1x => ?_); refine yy72 ?_; (refine hK1x _ ?_; clear hK1x K1 Rx); refine awb_nil ?_; refine yy84 ?_; refine yy2 ?_; refine yy74 ?_; refine yy6 ?_; rotate_left) | fail)
  all_goals try (exfalso; omega)
  have hln : (b ++ [e]).length = b.length + 1 := by simp
  have hcs : (b ++ [e]).flatMap En.cells = b.flatMap En.cells ++ e.cells := by simp
  have m1 : oN ≠ O.w := fun x => by rw [x, q1] at hoN; cases hoN
  have m2 : oN ≠ ob := fun x => by rw [x, q2] at hoN; cases hoN
  refine ⟨mm - 1, _, _, by omega, auto_entg, k + 1, oN, b ++ [e], rfl, by rw [hln]; exact auto_heap, by rw [hcs]; exact auto_heap, ?_, fun p y hp h1 h2 => ?_, ⟨fun x hx => ?_, by omega⟩, q6.out, by omega⟩
  · by_cases hx : oN = O.b
    · exact .inl hx
    · right
      cases hy : H' oN with
      | none => rfl
      | some y => rw [q4 _ _ hy m1 hx] at hoN; cases hoN
  · have m3 := q4 p y hp h1 h2
    have m4 : p ≠ oN := fun x => by rw [x, hoN] at m3; cases m3
    have m5 := hob p y hp h2
    exact auto_heap
  · rcases List.mem_append.1 hx with hx | hx
    · exact q5.ok x hx
    · rw [List.mem_singleton.1 hx]; exact ⟨oke, hr16⟩
end Go.Proofs.Ytbciofnejefkiaa

namespace Go.Proofs.Ytbciofnejefkiaa
open Go Go.Am Go.Proofs
set_option linter.unusedSimpArgs false
set_option linter.unusedVariables false
set_option maxRecDepth 20000
set_option maxHeartbeats 4000000

/-! A replica is opened anew. -/
theorem rng_set {n r : Nat} (F : Nat → Ob) (G : Ob) : ((List.range n).map fun q => AV.ptr (F q).o 0).set r (.ptr G.o 0) = (List.range n).map fun q => AV.ptr (Ag.upd F r G q).o 0 := by
  apply List.ext_getElem?
  intro i
  rw [List.getElem?_set, List.getElem?_map, List.getElem?_map, List.length_map, List.length_range]
  by_cases hi : i < n
  · rw [List.getElem?_range hi]
    by_cases e : r = i
    · subst e; rw [if_pos rfl, if_pos hi]; simp [Ag.upd]
    · have e2 : ¬ i = r := fun x => e x.symm
      rw [if_neg e]; simp [Ag.upd, e2]
  · rw [List.getElem?_eq_none (by rw [List.length_range]; omega)]
    by_cases e : r = i
    · rw [if_pos e, if_neg (by omega)]; rfl
    · rw [if_neg e]; rfl
theorem heap_split {H : AHeap} {o : Nat} {x : AO} (h : H o = some x) : H = (H.erase o).set o x := by
  funext p
  by_cases e : p = o
  · rw [e, h]; exact (AHeap.set_self _ _ _).symm
  · simp [AHeap.set, AHeap.erase, e]
theorem WAt.reopen {H H2 : AHeap} {O : Wo} {F : Nat → Ob} {w : Ag.W} {r : Nat} {G : Ob} {c : Ag.Co} (h : WAt H O F w) (hr : r < w.n) (fr : ∀ p y, H p = some y → H2 p = some y) (hc : CAt H2 G c) (nd : NdC G) (hG : ∀ p ∈ G.c, H p = none) :
    WAt (H2.set O.c (.cel (((List.range w.n).map fun q => AV.ptr (F q).o 0).set r (.ptr G.o 0)))) O (Ag.upd F r G) { w with c := Ag.upd w.c r c } ∧ TurnW w.n H O F O (Ag.upd F r G) (H2.set O.c (.cel (((List.range w.n).map fun q => AV.ptr (F q).o 0).set r (.ptr G.o 0)))) := by
  rw [rng_set F G]
  have ne := Wo.ne h.nd
  have hs : ∀ p y, p ≠ O.c → H2 p = some y → (H2.set O.c (.cel ((List.range w.n).map fun q => AV.ptr (Ag.upd F r G q).o 0))) p = some y := fun p y hp hy => AHeap.get_skip hp hy
  have hext : ∀ {K : Ob} {d : Ag.Co}, CAt H2 K d → (∀ p ∈ K.c, p ≠ O.c) → CAt (H2.set O.c (.cel ((List.range w.n).map fun q => AV.ptr (Ag.upd F r G q).o 0))) K d := by
    intro K d hk hn
    obtain ⟨⟨off, xs, a1, a2, a3, a4⟩, ⟨eg, b1, b2⟩, ⟨eh, c1, c2⟩⟩ := hk
    exact ⟨⟨off, xs, hs _ _ (hn _ (by simp [Ob.c])) a1, hs _ _ (hn _ (by simp [Ob.c])) a2, a3, a4⟩, ⟨eg, hs _ _ (hn _ (by simp [Ob.c])) b1, b2⟩, ⟨eh, hs _ _ (hn _ (by simp [Ob.c])) c1, c2⟩⟩
  have hGO : ∀ p ∈ G.c, p ∉ O.l' := fun p hp hx => h.fresh (hG p hp) (.inl hx)
  refine ⟨⟨hs _ _ ne.wc (fr _ _ h.aw), AHeap.set_self _ _ _, hs _ _ ne.cs.symm (fr _ _ h.asv), hs _ _ ne.ck.symm (fr _ _ h.ak), hs _ _ ne.cl.symm (fr _ _ h.al), hs _ _ ne.ci.symm (fr _ _ h.ai), hs _ _ ne.cr.symm (fr _ _ h.ar), hs _ _ ne.cb.symm (fr _ _ h.ab), h.nd, fun q hq => ?_, fun q hq => ?_, fun q hq p hp => ?_, fun q s hq hs' hne p hp hps => ?_⟩, ⟨rfl, fun p hp => ?_, fun p y hp hd => hs _ _ (fun e => hd (.inl (by rw [e]; simp [Wo.l']))) (fr _ _ hp)⟩⟩
  · show CAt _ (Ag.upd F r G q) (Ag.upd w.c r c q)
    by_cases e : q = r
    · rw [e, Ag.upd_same, Ag.upd_same]; exact hext hc fun p hp x => hGO p hp (by rw [x]; simp [Wo.l'])
    · rw [Ag.upd_other _ _ e, Ag.upd_other _ _ e]; exact hext ((h.co q hq).ext fr) fun p hp x => h.ap q hq p hp (by rw [x]; simp [Wo.l'])
  · by_cases e : q = r
    · rw [e, Ag.upd_same]; exact nd
    · rw [Ag.upd_other _ _ e]; exact h.ndC q hq
  · by_cases e : q = r
    · rw [e, Ag.upd_same] at hp; exact hGO p hp
    · rw [Ag.upd_other _ _ e] at hp; exact h.ap q hq p hp
  · by_cases e : q = r
    · rw [e, Ag.upd_same] at hp
      rw [Ag.upd_other _ _ (fun x => hne (e.trans x.symm))] at hps
      exact h.fresh (hG p hp) (.inr ⟨s, hs', hps⟩)
    · rw [Ag.upd_other _ _ e] at hp
      by_cases e2 : s = r
      · rw [e2, Ag.upd_same] at hps
        exact h.fresh (hG p hps) (.inr ⟨q, hq, hp⟩)
      · rw [Ag.upd_other _ _ e2] at hps; exact h.rr q s hq hs' hne p hp hps
  · rcases hp with hp | ⟨q, hq, hp⟩
    · exact .inl (.inl hp)
    · by_cases e : q = r
      · rw [e, Ag.upd_same] at hp; exact .inr (hG p hp)
      · rw [Ag.upd_other _ _ e] at hp; exact .inl (.inr ⟨q, hq, hp⟩)
theorem opened_calls (H : AHeap) (O : Wo) (F : Nat → Ob) (w : Ag.W) (r : Nat) (h : WAt H O F w) (hr : r < w.n) (h7 : w.n ≤ 7) (h2 : w.n % 2 = 1) (hs : ∀ x ∈ w.saved r, RFine x) (hl : (w.saved r).length ≤ 1000000000000) {d : Ag.Co}
    (ho : Ag.open_ r w.n (w.saved r) = some d) :
    ACalls Try.prog 47 [.ptr O.w 0, mI (r : Int)] H fun r' H' => r' = bB true ∧ ∃ G, WAt H' O (Ag.upd F r G) { w with c := Ag.upd w.c r d } ∧ TurnW w.n H O F O (Ag.upd F r G) H' := by
  have h0 := h
  obtain ⟨aw, ac, asv, ak, al, ai, ar, ab, nd, co, _, _, _⟩ := h
  obtain ⟨d1, d2, d3, d4, d5, d6, d7, d8, d9, d10, d11, d12, d13, d14, d15, d16, d17, d18, d19, d20, d21, d22, d23, d24, d25, d26, d27, d28⟩ := Wo.ne nd
  have hrg : (List.range w.n)[r]? = some r := List.getElem?_range hr
  unfold worldC at aw
  unfold svA at asv
  have hO := fun H => Open_calls H r w.n ((w.saved r).map (recB r w.n)) hr h7 h2 (by rw [List.length_map]; exact hl) (fun b hb => by
    obtain ⟨x, hx, rfl⟩ := List.mem_map.1 hb
    exact recB_small (hs x hx))
  rw [openB_rec (by omega) (by omega) _ _ hs] at hO
  unfold Ag.open_ at ho
  cases hrp : (Ag.Co.new r w.n).replay (w.saved r) with
  | none => rw [hrp] at ho; cases ho
  | some c0 =>
  rw [hrp, Option.map_some] at ho
  rw [hrp] at hO
  have hd : (if w.n = 1 then { c0 with agreed := c0.list.length } else c0) = d := Option.some.inj ho
  replace hO : ∀ H, ACalls Try.prog 16 [mI (r : Int), mI (w.n : Int), .sls ((w.saved r).map (recB r w.n)).length (((w.saved r).map (recB r w.n)).map .bys)] H fun r' H' => ∃ G : Ob, r' = .tup [.ptr G.o 0, mI 0] ∧ CAt H' G d ∧ NdC G ∧ (∀ p ∈ G.c, H p = none) ∧ ∀ p y, H p = some y → H' p = some y := fun H => (hO H).mono fun r' H' ⟨⟨G, k1, k2, k3, k4⟩, k5⟩ => ⟨G, k1, by rw [← hd]; exact k2, k3, k4, k5⟩
  clear hd ho hrp c0
  have hre := fun H2 G a b c e => h0.reopen (H2 := H2) (G := G) (c := d) hr a b c e
  rw [List.length_map] at hO
  have hmm : ((w.saved r).map (recB r w.n)).map AV.bys = (w.saved r).map fun x => .bys (recB r w.n x) := by rw [List.map_map]; rfl
  rw [hmm] at hO
  clear hmm
  refine acalls_of_aw2 Try.func47 rfl (by decide) ?_
  (first | focus (refine yy46 ?_; refine yy6 ?_; refine yy12 ?_; refine yy6 ?_; refine aw_block ?_; rotate_left) | fail)
  refine aw_own_nil 5 1 (.cel []) rfl rfl (fun oX hoX => ?_)
  refine aw_loop (fun mm R' H3 => ∃ (i oX : Nat), R' = [(0, .ptr O.w 0), (1, mI (r : Int)), (5, .vw oX 1 0 i), (6, .raw (.int .i64 (i : Int)))] ∧ H3 oX = some (.cel (((w.saved r).take i).map fun x => .bys (recB r w.n x))) ∧ H oX = none ∧ (∀ p y, H p = some y → H3 p = some y) ∧ i + mm = (w.saved r).length) ?_ ?_
  · exact ⟨(w.saved r).length, _, _, auto_ent, 0, oX, rfl, by rw [List.take_zero]; exact AHeap.set_self _ _ _, hoX, fun p y hp => AHeap.get_skip (fun e => by rw [e, hoX] at hp; cases hp) hp, by omega⟩
  clear hoX oX
  rintro mm R0 H3 ⟨i, oX, rfl, q1, q2, q3, hi⟩
  have hne : ∀ {p : Nat} {y : AO}, H p = some y → p ≠ oX := fun hp e => by rw [e, q2] at hp; cases hp
  have e1 := q3 _ _ aw
  have e2 := q3 _ _ asv
  have e3 := q3 _ _ ac
  have n1 := hne aw
  have n2 := hne asv
  have n3 := hne ac
  have hlt2 : ((w.saved r).take i).length = i := by rw [List.length_take]; omega
  by_cases hlt : i < (w.saved r).length
  · have hg : (w.saved r)[i]? = some (w.saved r)[i] := List.getElem?_eq_getElem hlt
    have hsm := recB_small (me := r) (n := w.n) (hs _ (List.getElem_mem hlt))
    have hsn : ((w.saved r).take (i + 1)).map (fun x => AV.bys (recB r w.n x)) = ((w.saved r).take i).map (fun x => AV.bys (recB r w.n x)) ++ [.bys (recB r w.n (w.saved r)[i])] := by rw [List.take_add_one, hg, List.map_append]; rfl
    generalize (w.saved r)[i] = x at *
    have g1 : ((w.saved r).map fun x => AV.bys (recB r w.n x))[i]? = some (.bys (recB r w.n x)) := by rw [List.getElem?_map, hg]; rfl
    (first | focus (refine yy11 ?_; refine yy8 ?_; refine yy2 ?_; refine yy95 ?_; refine yy108 ?_; refine yy32 ?_; refine yy57 ?_; refine aw_condp rfl (fun hc => ?_) (fun hc => ?_); refine yy83 ?_; refine aw_block ?_; refine aw_region ?_; refine yy52 ?_; refine awl_s rfl (s_buildSlice0) ?_; refine yy8 ?_; refine yy2 ?_; refine yy95 ?_; refine yy108 ?_; refine yy2 ?_; refine yy63 ?_; refine yy58 ?_; refine awl_s rfl (s_app_emp_byt rfl rfl auto_src auto_len auto_len) ?_; refine yy92 ?_; refine za4 rfl rfl rfl auto_heap auto_al auto_src auto_len auto_len (fun oN hoN => ?_); refine yy65 ?_; refine yy7 ?_; refine yy84 ?_; refine yy2 ?_; refine yy74 ?_; refine yy6 ?_; rotate_left; exact absurd hc auto_no) | fail)
    all_goals try (exfalso; omega)
    refine ⟨mm - 1, _, _, by omega, auto_entg, i + 1, oN, rfl, by rw [hsn]; exact auto_heap, ?_, fun p y hp => ?_, by omega⟩
    · cases hx : H oN with
      | none => rfl
      | some y => rw [q3 _ _ hx] at hoN; cases hoN
    · have m1 := q3 p y hp
      have m2 : p ≠ oN := fun e => by rw [e, hoN] at m1; cases m1
      have m3 := hne hp
      exact auto_heap
  obtain rfl : i = (w.saved r).length := by omega
  rw [List.take_length] at q1
  rw [heap_split q1]
  have hE : (H3.erase oX) oX = none := by simp [AHeap.erase]
  have q4 : ∀ p y, H p = some y → (H3.erase oX) p = some y := fun p y hp => AHeap.get_unerase (hne hp) (q3 p y hp)
  generalize H3.erase oX = H4 at *
  clear q1 q3 e1 e2 e3 n1 n2 n3 H3 q2 hne
  have e1 := q4 _ _ aw
  have e2 := q4 _ _ asv
  have e3 := q4 _ _ ac
  refine aw_ent (R' := [(0, .ptr O.w 0), (1, mI (r : Int)), (5, .sls (w.saved r).length ((w.saved r).map fun x => .bys (recB r w.n x))), (6, .raw (.int .i64 ((w.saved r).length : Int)))]) (H' := H4) ((Ent.seal_cel1 5 rfl (by rw [List.length_map, Nat.mul_one]) hE).trans (Ent.sub _ (by (repeat' (first | exact RSub.nil _ | apply RSub.cons)); all_goals rfl))) ?_
  clear hE
  have hO1 := hO H4
  (first | focus (refine yy11 ?_; refine yy8 ?_; refine yy2 ?_; refine yy95 ?_; refine yy108 ?_; refine yy32 ?_; refine yy57 ?_; refine yy28 ?_; intro hc; refine yy50 ?_; refine yy8 ?_; refine yy31 ?_; (refine zc auto_wl (hO1) ?_; rintro r H' ⟨G, rfl, a1, a2, a3, a4⟩); refine yy73 ?_; refine yy90 ?_; refine yy6 ?_; refine yy11 ?_; refine yy70 ?_; refine yy2 ?_; refine zg2 rfl rfl rfl (fun hc => ?_) (fun hc => ?_); exact absurd hc auto_no; refine yy36 ?_; refine awl_s rfl (s_ptr_eqnil rfl rfl) ?_; refine yy43 ?_; refine yy68 ?_; refine yy4 ?_; refine yy111 ?_; rotate_left) | fail)
  all_goals try (exfalso; omega)
  have f1 := a4 _ _ e1
  have f3 := a4 _ _ e3
  have hfin := hre H' G (fun p y hp => a4 p y (q4 p y hp)) a1 a2 (fun p hp => by
    cases hx : H p with
    | none => rfl
    | some y => have := q4 p y hx; rw [a3 p hp] at this; cases this)
  have hidx : 0 + r * 1 = r := by omega
  (first | focus (refine yy94 ?_; refine yy2 ?_; refine yy17 ?_; refine yy95 ?_; refine yy59 ?_; refine yy3 ?_; refine yy18 ?_; rotate_left) | fail)
  rw [hidx]
  exact ⟨.inl rfl, _, _, _, Ent.refl _ _, ret1 rfl rfl, rfl, G, hfin⟩
end Go.Proofs.Ytbciofnejefkiaa

namespace Go.Proofs.Ytbciofnejefkiaa
open Go Go.Am Go.Proofs
set_option linter.unusedSimpArgs false
set_option linter.unusedVariables false
set_option maxRecDepth 20000
set_option maxHeartbeats 4000000

/-! What a step wants is saved, then sent. -/
noncomputable def stepW (w : Ag.W) (r : Nat) (sv : List Ag.Rd) (sn : List Mg) : Option Ag.W :=
  match w.cut r with
  | some k => (Ag.W.opened { w with cut := Ag.upd w.cut r none, saved := Ag.upd w.saved r (w.saved r ++ sv.take k) } r).bind fun w => w.told r
  | none =>
    open Classical in
    if (∀ m ∈ sn, Ag.fits r w.n m) then Ag.W.told { w with saved := Ag.upd w.saved r (w.saved r ++ sv), l := sn.foldl Ag.addL w.l } r else none
theorem step_eq (w : Ag.W) (r : Nat) (s : Ag.St) : w.step r s = stepW { w with c := Ag.upd w.c r s.c } r s.save s.send := by
  unfold Ag.W.step stepW; rfl
theorem replay_fine : ∀ (l : List Ag.Rd) {c d : Ag.Co}, CFine c → (∀ x ∈ l, RFine x) → c.replay l = some d → CFine d ∧ d.me = c.me ∧ d.n = c.n ∧ d.quiet = c.quiet
  | [], c, d, hf, _, h => by cases h; exact ⟨hf, rfl, rfl, rfl⟩
  | x :: l, c, d, hf, hx, h => by
    rw [Ag.Co.replay] at h
    split at h
    · next hok =>
      obtain ⟨k1, k2, k3⟩ := hok
      have hxx := hx x List.mem_cons_self
      cases ha : c.apply x with
      | none => rw [ha] at h; cases h
      | some e =>
        rw [ha, Option.bind_some] at h
        obtain ⟨c1, c2, c3⟩ := CFine.apply hf hxx.list k1 k2 ha
        obtain ⟨d1, d2, d3, d4⟩ := replay_fine l c1 (fun y hy => hx y (List.mem_cons_of_mem _ hy)) h
        refine ⟨d1, d2.trans c2, d3.trans c3, d4.trans ?_⟩
        unfold Ag.Co.apply at ha
        repeat' split at ha
        all_goals first | (cases ha; rfl) | cases ha
    · cases h
theorem open_fine {me n : Nat} (hm : me < n) (h7 : n ≤ 7) {l : List Ag.Rd} (hx : ∀ x ∈ l, RFine x) {d : Ag.Co} (h : Ag.open_ me n l = some d) : CFine d ∧ d.me = me ∧ d.n = n ∧ d.quiet = 0 := by
  unfold Ag.open_ at h
  cases hr : (Ag.Co.new me n).replay l with
  | none => rw [hr] at h; cases h
  | some e =>
    rw [hr, Option.map_some] at h
    have h := Option.some.inj h
    obtain ⟨a, b, c, q⟩ := replay_fine l (CFine.new hm h7) hx hr
    subst h
    split
    · exact ⟨a.full, b, c, q⟩
    · exact ⟨a, b, c, q⟩
structure WFin (w : Ag.W) : Prop where
  n7 : w.n ≤ 7
  odd : w.n % 2 = 1
  co : ∀ r, r < w.n → CFine (w.c r)
  sv : ∀ r, r < w.n → ∀ x ∈ w.saved r, RFine x
  best : LF w.best
  ids : w.ids.length ≤ 1000000
  row : ∀ x ∈ w.ids, x.2.length ≤ 1000000
  l : w.l.length ≤ 4000
theorem rng_upd {n r : Nat} {α : Type} (f : Nat → α) (v : α) : ((List.range n).map f).set r v = (List.range n).map fun q => if q = r then v else f q := by
  apply List.ext_getElem?
  intro i
  rw [List.getElem?_set, List.getElem?_map, List.getElem?_map, List.length_map, List.length_range]
  by_cases hi : i < n
  · rw [List.getElem?_range hi]
    by_cases e : r = i
    · subst e; rw [if_pos rfl, if_pos hi]; simp
    · have e2 : ¬ i = r := fun x => e x.symm
      rw [if_neg e]; simp [e2]
  · rw [List.getElem?_eq_none (by rw [List.length_range]; omega)]
    by_cases e : r = i
    · rw [if_pos e, if_neg (by omega)]; rfl
    · rw [if_neg e]; rfl
theorem rng_cut {n r : Nat} (f : Nat → Option Nat) (k : Option Nat) : ((List.range n).map fun q => cutA (f q)).set r (cutA k) = (List.range n).map fun q => cutA (Ag.upd f r k q) := by
  rw [rng_upd]
  refine List.map_congr_left fun q _ => ?_
  unfold Ag.upd
  split <;> rfl
theorem rng_sv {n r : Nat} (f : Nat → List Ag.Rd) (l : List Ag.Rd) : ((List.range n).map fun q => svA q n (f q)).set r (svA r n l) = (List.range n).map fun q => svA q n (Ag.upd f r l q) := by
  rw [rng_upd]
  refine List.map_congr_left fun q _ => ?_
  unfold Ag.upd
  split
  · next e => rw [e]
  · rfl
theorem told_some {w w' : Ag.W} {r : Nat} (h : w.told r = some w') : ∃ b, Ag.toldL w.ids [] ((w.c r).list.take (w.c r).agreed) w.best = some b ∧ w' = { w with best := b } := by
  unfold Ag.W.told at h
  dsimp only at h
  cases ht : Ag.toldL w.ids [] ((w.c r).list.take (w.c r).agreed) w.best with
  | none => rw [ht] at h; cases h
  | some b =>
    rw [ht, Option.bind_some] at h
    split at h
    · exact ⟨b, rfl, (Option.some.inj h).symm⟩
    · cases h
theorem opened_some {w w' : Ag.W} {r : Nat} (h : w.opened r = some w') : ∃ d, Ag.open_ r w.n (w.saved r) = some d ∧ w' = { w with c := Ag.upd w.c r d } := by
  unfold Ag.W.opened at h
  cases ho : Ag.open_ r w.n (w.saved r) with
  | none => rw [ho] at h; cases h
  | some d => rw [ho, Option.map_some] at h; exact ⟨d, rfl, (Option.some.inj h).symm⟩
theorem step_cut (H : AHeap) (O : Wo) (F : Nat → Ob) (w w' : Ag.W) (r k : Nat) (sv : List Ag.Rd) (sn : List Mg) (h : WAt H O F w) (hr : r < w.n) (hf : WFin w) (hl : (w.saved r).length ≤ 100000000000) (hsv : ∀ x ∈ sv, RFine x) (hsl : sv.length ≤ 1000000) (hsn : sn.length ≤ 1000000) (hk : w.cut r = some k) (hk63 : k < 2 ^ 63)
    (hst : stepW w r sv sn = some w') :
    ACalls Try.prog 45 [.ptr O.w 0, mI (r : Int), .agg [.sls sv.length (sv.map fun x => .bys (recB r w.n x)), .sls sn.length (sn.flatMap Mg.cells)]] H fun r' H' => r' = bB true ∧ ∃ O' F', WAt H' O' F' w' ∧ TurnW w.n H O F O' F' H' := by
  have h0 := h
  obtain ⟨aw, ac, asv, ak, al, ai, ar, ab, nd, co, _, _, _⟩ := h
  obtain ⟨d1, d2, d3, d4, d5, d6, d7, d8, d9, d10, d11, d12, d13, d14, d15, d16, d17, d18, d19, d20, d21, d22, d23, d24, d25, d26, d27, d28⟩ := Wo.ne nd
  have hrg : (List.range w.n)[r]? = some r := List.getElem?_range hr
  have hck : ((List.range w.n).map fun r => cutA (w.cut r))[0 + r * 1]? = some (mI (k : Int)) := by
    rw [show 0 + r * 1 = r by omega, rng_get _ hr, hk]; rfl
  have hcs : ((List.range w.n).map fun r => svA r w.n (w.saved r))[0 + r * 1]? = some (.sls (w.saved r).length ((w.saved r).map fun x => .bys (recB r w.n x))) := by
    rw [show 0 + r * 1 = r by omega, rng_get _ hr]; rfl
  unfold worldC at aw
  refine acalls_of_aw3 Try.func45 rfl (by decide) ?_
  (first | focus (refine yy4 ?_; refine zb4 rfl rfl rfl ?_; refine yy6 ?_; refine yy12 ?_; refine yy8 ?_; refine yy2 ?_; refine yy95 ?_; refine yy108 ?_; refine yy97 ?_; refine yy3 ?_; refine aw_condp rfl (fun hc => ?_) (fun hc => ?_); refine yy4 ?_; refine yy8 ?_; refine yy2 ?_; refine yy95 ?_; refine yy108 ?_; refine yy24 ?_; refine yy8 ?_; refine yy2 ?_; refine yy95 ?_; refine yy59 ?_; refine yy3 ?_; refine yy11 ?_; refine yy35 ?_; refine yy32 ?_; refine yy27 ?_; refine yy3 ?_; rotate_left; exact absurd hc auto_no) | fail)
  refine aw_kmid (fun R1 H2 => H2 = H.set O.k (.cel (((List.range w.n).map fun r => cutA (w.cut r)).set (0 + r * 1) (mI (-1)))) ∧ R1 = [(0, .ptr O.w 0), (1, mI (r : Int)), (5, .pce [.sls sv.length (sv.map fun x => .bys (recB r w.n x)), .sls sn.length (sn.flatMap Mg.cells)] 0), (7, mI ((min k sv.length : Nat) : Int))]) ?_ ?_
  · by_cases hks : sv.length < k
    · rw [Nat.min_eq_right (by omega)]
      (first | focus (refine aw_condp rfl (fun hc => ?_) (fun hc => ?_); refine aw_region ?_; refine yy35 ?_; refine yy32 ?_; refine yy6 ?_; rotate_left; exact absurd hc auto_no) | fail)
      all_goals try (exfalso; omega)
      exact ⟨_, _, auto_ent, rfl, rfl⟩
    · rw [Nat.min_eq_left (by omega)]
      (first | focus (refine yy53 ?_; intro hc; rotate_left) | fail)
      all_goals try (exfalso; omega)
      exact ⟨_, _, auto_ent, rfl, rfl⟩
  rintro R1 H2 ⟨rfl, rfl⟩
  clear hc hck
  have hmin : min k sv.length ≤ sv.length := Nat.min_le_right _ _
  have htk : sv.take k = sv.take (min k sv.length) := by
    by_cases hks : sv.length < k
    · rw [Nat.min_eq_right (by omega), List.take_of_length_le (by omega), List.take_of_length_le (by omega)]
    · rw [Nat.min_eq_left (by omega)]
  generalize min k sv.length = k2 at *
  refine aw_gen (fun H2 => H2 O.k = some (.cel ((List.range w.n).map fun q => cutA (Ag.upd w.cut r none q))) ∧ ∀ p y, H p = some y → p ≠ O.k → H2 p = some y) ⟨?_, fun p y hp hn => AHeap.get_skip hn hp⟩ ?_
  · rw [show 0 + r * 1 = r by omega, AHeap.set_self]
    exact congrArg (fun x => some (AO.cel x)) (rng_cut w.cut none)
  rintro H2 ⟨q1, q2⟩
  have e1 := q2 _ _ aw d3
  have e2 := q2 _ _ asv d14
  have hlt : (List.take ((k2 - 0) * 1) (List.drop (0 * 1) (List.map (fun x => AV.bys (recB r w.n x)) sv))).length = (k2 - 0) * 1 := by rw [List.length_take, List.length_drop, List.length_map]; omega
  (first | focus (refine aw_seq ?_; refine DC.aw_drawp (fun H' => H' O.w = some (.cel [mI w.n, .vw O.c 1 0 w.n, .vw O.s 1 0 w.n, .vw O.k 1 0 w.n, .vw O.l 9 0 w.l.length, .vw O.i 1 0 w.ids.length, .vw O.r 1 0 w.ids.length, .vw O.b 3 0 w.best.length]) ∧ H' O.s = some (.cel ((List.range w.n).map fun r => svA r w.n (w.saved r)))) (by first | exact ⟨auto_heap, auto_heap⟩) auto_kr auto_dk auto_dk ?_; (apply DC.awn_s; · (intro H1 hPsi; (try dsimp only at hPsi); (try (obtain ⟨hPsi, hPsi2⟩ := hPsi)); exact s_move (v := .ptr _ _) rfl)); (apply DC.awn_s; · (intro H1 hPsi; (try dsimp only at hPsi); (try (obtain ⟨hPsi, hPsi2⟩ := hPsi)); exact s_nilCheck_ptr rfl)); (apply DC.awn_s; · (intro H1 hPsi; (try dsimp only at hPsi); (try (obtain ⟨hPsi, hPsi2⟩ := hPsi)); exact s_fieldAddr_ptr rfl)); (apply DC.awn_s; · (intro H1 hPsi; (try dsimp only at hPsi); (try (obtain ⟨hPsi, hPsi2⟩ := hPsi)); exact s_load_cel rfl auto_heap rfl)); (apply DC.awn_s; · (intro H1 hPsi; (try dsimp only at hPsi); (try (obtain ⟨hPsi, hPsi2⟩ := hPsi)); exact s_move (v := .raw _) rfl)); (apply DC.awn_s; · (intro H1 hPsi; (try dsimp only at hPsi); (try (obtain ⟨hPsi, hPsi2⟩ := hPsi)); exact s_buildSlice0)); (apply DC.awn_s; · (intro H1 hPsi; (try dsimp only at hPsi); (try (obtain ⟨hPsi, hPsi2⟩ := hPsi)); exact s_move (v := .ptr _ _) rfl)); (apply DC.awn_s; · (intro H1 hPsi; (try dsimp only at hPsi); (try (obtain ⟨hPsi, hPsi2⟩ := hPsi)); exact s_nilCheck_ptr rfl)); (apply DC.awn_s; · (intro H1 hPsi; (try dsimp only at hPsi); (try (obtain ⟨hPsi, hPsi2⟩ := hPsi)); exact s_fieldAddr_ptr rfl)); (apply DC.awn_s; · (intro H1 hPsi; (try dsimp only at hPsi); (try (obtain ⟨hPsi, hPsi2⟩ := hPsi)); exact s_load_cel rfl auto_heap rfl)); (apply DC.awn_s; · (intro H1 hPsi; (try dsimp only at hPsi); (try (obtain ⟨hPsi, hPsi2⟩ := hPsi)); exact s_move (v := .raw _) rfl)); (apply DC.awn_s; · (intro H1 hPsi; (try dsimp only at hPsi); (try (obtain ⟨hPsi, hPsi2⟩ := hPsi)); exact s_indexAddr_vw rfl rfl auto_len)); (apply DC.awn_s; · (intro H1 hPsi; (try dsimp only at hPsi); (try (obtain ⟨hPsi, hPsi2⟩ := hPsi)); exact s_load_cel rfl auto_heap auto_idx)); refine DC.awn_b ?_; (apply DC.awn_s; · (intro H1 hPsi; (try dsimp only at hPsi); (try (obtain ⟨hPsi, hPsi2⟩ := hPsi)); exact s_fieldAddr_pce rfl)); (apply DC.awn_s; · (intro H1 hPsi; (try dsimp only at hPsi); (try (obtain ⟨hPsi, hPsi2⟩ := hPsi)); exact s_load_pce rfl auto_idx)); (apply DC.awn_s; · (intro H1 hPsi; (try dsimp only at hPsi); (try (obtain ⟨hPsi, hPsi2⟩ := hPsi)); exact s_move (v := .raw _) rfl)); (apply DC.awn_s; · (intro H1 hPsi; (try dsimp only at hPsi); (try (obtain ⟨hPsi, hPsi2⟩ := hPsi)); exact s_slice_sls rfl auto_bnd auto_bnd auto_len auto_len)); refine DC.awn_b ?_; (apply DC.awn_s; · (intro H1 hPsi; (try dsimp only at hPsi); (try (obtain ⟨hPsi, hPsi2⟩ := hPsi)); exact s_indexAddr_vw rfl rfl auto_len)); refine DC.awn_b0 ?_; refine DC.awn_nil ?_; refine DC.awc_cons (fun Rx K1 hK1x => ?_); refine awl_own_emp_cel rfl rfl rfl auto_src auto_len auto_len (fun oN hoN => ?_); refine yy7 ?_; (refine hK1x _ _ (by first | exact Or.inl (by decide +kernel) | (refine Or.inr ?_; (try dsimp only); first | exact ⟨auto_heap, auto_heap⟩)) ?_; clear hK1x K1 Rx); refine DC.awc_cons (fun Rx K1 hK1x => ?_); refine za2 rfl rfl rfl (by assumption) auto_len auto_src auto_len auto_len (fun oN hoN => ?_); refine yy7 ?_; (refine hK1x _ _ (by first | exact Or.inl (by decide +kernel) | (refine Or.inr ?_; (try dsimp only); first | exact ⟨auto_heap, auto_heap⟩)) ?_; clear hK1x K1 Rx); refine DC.awc_cons0 (fun Rx K1 hK1x => ?_); refine yy72 ?_; (refine hK1x _ (by first | exact Or.inl (by decide +kernel) | (refine Or.inr ?_; (try dsimp only); first | exact ⟨auto_heap, auto_heap⟩)) ?_; clear hK1x K1 Rx); refine DC.awc_nil ?_; refine yy47 ?_; rotate_left) | fail)
  have hoS : O.s ≠ oN := fun e => by rw [← e, e2] at hoN; cases hoN
  have hflat : List.map (fun x => AV.bys (recB r w.n x)) (w.saved r) ++ List.take ((k2 - 0) * 1) (List.drop (0 * 1) (List.map (fun x => AV.bys (recB r w.n x)) sv)) = (w.saved r ++ sv.take k).map fun x => AV.bys (recB r w.n x) := by
    rw [htk, List.map_append, List.map_take, Nat.sub_zero, Nat.mul_one, Nat.zero_mul, List.drop_zero]
  have hln : (w.saved r).length + (k2 - 0) = (w.saved r ++ sv.take k).length := by rw [htk, List.length_append, List.length_take]; omega
  rw [hflat, hln, show 0 + r * 1 = r by omega]
  refine aw_ent (R' := [(0, .ptr O.w 0), (1, mI (r : Int))]) ((Ent.seal_cellC (p := O.s) (o := oN) (k := r) (sz := 1) (ys := (w.saved r ++ sv.take k).map fun x => AV.bys (recB r w.n x)) hoS (AHeap.set_self _ _ _) (AHeap.get_skip hoS.symm (AHeap.set_self _ _ _)) (by rw [List.getElem?_set, if_pos rfl, if_pos (by rw [List.length_map, List.length_range]; exact hr)]) (by rw [List.length_map, Nat.mul_one])).trans (Ent.sub _ (by (repeat' (first | exact RSub.nil _ | apply RSub.cons)); all_goals rfl))) ?_
  rw [List.set_set]
  have hnew : (((List.range w.n).map fun r => svA r w.n (w.saved r)).set r (.sls (w.saved r ++ sv.take k).length ((w.saved r ++ sv.take k).map fun x => .bys (recB r w.n x)))) = (List.range w.n).map fun q => svA q w.n (Ag.upd w.saved r (w.saved r ++ sv.take k) q) := rng_sv w.saved _
  rw [hnew]
  clear hnew hflat hln hlt
  refine aw_gen (fun H3 => H3 O.s = some (.cel ((List.range w.n).map fun q => svA q w.n (Ag.upd w.saved r (w.saved r ++ sv.take k) q))) ∧ ∀ p y, p ≠ O.s → H2 p = some y → H3 p = some y) ⟨AHeap.set_self _ _ _, fun p y h1 h2 => by
      have h3 : p ≠ oN := fun e => by rw [e, hoN] at h2; cases h2
      exact AHeap.get_skip h1 (AHeap.get_unerase h3 (AHeap.get_skip h1 (AHeap.get_skip h3 h2)))⟩ ?_
  rintro H3 ⟨q3, hsk⟩
  obtain ⟨w1, hw1⟩ : ∃ w1 : Ag.W, w1 = { w with cut := Ag.upd w.cut r none, saved := Ag.upd w.saved r (w.saved r ++ sv.take k) } := ⟨_, rfl⟩
  have hst1 : (w1.opened r).bind (fun w => w.told r) = some w' := by unfold stepW at hst; rw [hk] at hst; rw [hw1]; exact hst
  cases hop : w1.opened r with
  | none => rw [hop] at hst1; cases hst1
  | some w2 =>
  rw [hop, Option.bind_some] at hst1
  obtain ⟨d, ho, hw2⟩ := opened_some hop
  obtain ⟨b, htl, hw3⟩ := told_some hst1
  have hAt : WAt H3 O F w1 ∧ TurnW w.n H O F O F H3 := by
    rw [hw1]
    exact h0.objs rfl rfl rfl (hsk _ _ d2 e1) (hsk _ _ d8 (q2 _ _ ac d9)) q3 (hsk _ _ d14.symm q1) (hsk _ _ d15.symm (q2 _ _ al d19.symm)) (hsk _ _ d16.symm (q2 _ _ ai d20.symm)) (hsk _ _ d17.symm (q2 _ _ ar d21.symm)) (hsk _ _ d18.symm (q2 _ _ ab d22.symm)) nd (fun p hp => .inl hp) (fun p y hp hF => hsk _ _ (fun e => hF (by rw [e]; simp [Wo.l'])) (q2 _ _ hp (fun e => hF (by rw [e]; simp [Wo.l']))))
  clear q1 q2 e1 e2 hoS hsk q3 hoN
  obtain ⟨t1, t2⟩ := hAt
  have hn1 : w1.n = w.n := by rw [hw1]
  have hs1 : w1.saved r = w.saved r ++ sv.take k := by rw [hw1]; exact Ag.upd_same _ _ _
  have hrf : ∀ x ∈ w1.saved r, RFine x := fun x hx => by
    rw [hs1] at hx
    rcases List.mem_append.1 hx with hx | hx
    · exact hf.sv r hr x hx
    · exact hsv x (List.mem_of_mem_take hx)
  have hOp := opened_calls H3 O F w1 r t1 (by rw [hn1]; exact hr) (by rw [hn1]; exact hf.n7) (by rw [hn1]; exact hf.odd) hrf (by rw [hs1, List.length_append, List.length_take]; omega) ho
  have hdf := (open_fine (by rw [hn1]; exact hr) (by rw [hn1]; exact hf.n7) hrf ho).1
  have hw2c : w2.c r = d := by rw [hw2]; exact Ag.upd_same _ _ _
  have hTo := fun H G h => told_calls H O (Ag.upd F r G) w2 r h (by rw [hw2, hn1]; exact hr) (by rw [hw2, hn1]; exact hf.n7) (by rw [hw2c]; exact hdf) (by rw [hw2, hw1]; exact hf.best) (by rw [hw2, hw1]; exact hf.ids) (by rw [hw2, hw1]; exact hf.row) htl
  rw [← hw2] at hOp
  rw [← hw3] at hTo
  have hn2 : w2.n = w.n := by rw [hw2, hn1]
  rw [hn1] at hOp
  rw [hn2] at hTo
  clear hst hst1 hop ho htl hw1 hw2 hw3 hs1 hrf
  (first | focus (refine yy22 ?_; refine yy2 ?_; (refine zc auto_wl (hOp) ?_; rintro r H' ⟨rfl, G, u1, u2⟩); refine yy19 ?_; refine yy36 ?_; refine yy19 ?_; rotate_left) | fail)
  have hT1 := hTo H' G u1
  (first | focus ((refine zc auto_wl (hT1) ?_; rintro r H' ⟨rfl, O2, v1, v2⟩); refine yy40 ?_; refine yy9 ?_; refine yy21 ?_; rotate_left) | fail)
  exact ⟨.inl rfl, _, _, _, Ent.refl _ _, ret1 rfl rfl, rfl, O2, _, v1, (t2.trans u2).trans v2⟩
end Go.Proofs.Ytbciofnejefkiaa
