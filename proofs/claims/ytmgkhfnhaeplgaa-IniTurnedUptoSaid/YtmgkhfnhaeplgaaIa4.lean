import Derived.Test.YtmgkhfnhaeplgaaIz
import Derived.Test.YtmgkhfnhaeplgaaIa3
namespace Go.Proofs.Ytmgkhfnhaeplgaa
open Go Go.Am Go.Proofs
set_option linter.unusedSimpArgs false
set_option linter.unusedVariables false
set_option maxRecDepth 20000
set_option maxHeartbeats 8000000

/-! Clocks: of an expression. -/
abbrev clA (l : List (List Stp1 × Bool)) : List AV := l.map fun y => stA y.1
abbrev cbA (l : List (List Stp1 × Bool)) : List AV := l.map fun y => avB y.2
theorem ne_of_none_some {K : AHeap} {a b : Nat} {y : AO} (h1 : K a = none) (h2 : K b = some y) : a ≠ b := fun e => by rw [e, h2] at h1; cases h1
theorem clA_len (l : List (List Stp1 × Bool)) : (clA l).length = l.length * 1 := by rw [List.length_map, Nat.mul_one]
theorem cbA_len (l : List (List Stp1 × Bool)) : (cbA l).length = l.length * 1 := by rw [List.length_map, Nat.mul_one]
theorem clockF_len (n : Nd) : ∀ (m : Nat) (v : Vr × Bool) (l : List Stp1), (clockF n m v l).length ≤ l.length + m
  | 0, v, l => Nat.le_refl _
  | m + 1, v, l => by
    unfold clockF
    split
    · have := clockF_len n m (findV n v.1.on) (⟨v.1.on, v.1.not⟩ :: l)
      rw [List.length_cons] at this; omega
    · omega
theorem clockOf_len (n : Nd) (s : Bs) : (clockOf n s).length ≤ (varsN n).length + 1 := by
  have := clockF_len n ((varsN n).length + 1) (findV n s) []
  unfold clockOf
  simpa using this
theorem clockR_len {B : Nat} : ∀ (l : List (List Stp1 × Bool)) (x : List Stp1 × Bool) (a : Nat) (c : Ck), (∀ y ∈ l, y.1.length ≤ B) → x.1.length ≤ B → (clockR l x a c).1.1.length ≤ B
  | [], x, a, c, _, hx => hx
  | y :: r, x, a, c, h, hx => by
    unfold clockR
    have h1 := h y (List.mem_cons_self)
    have h2 := fun z hz => h z (List.mem_cons_of_mem _ hz)
    split
    · exact clockR_len r x a c h2 hx
    · split
      · exact clockR_len r _ a c h2 h1
      · exact clockR_len r x a _ h2 hx
theorem clockOp_len (n : Nd) (op nm : Bs) (nn : Int) (a : Nat) (l : List (List Stp1 × Bool)) (c : Ck) (h : ∀ y ∈ l, y.1.length ≤ (varsN n).length + 2) : (clockOp n op nm nn a l c).1.1.length ≤ (varsN n).length + 2 := by
  have hk := clockOf_len n nm
  unfold clockOp
  simp only
  split
  · exact Nat.zero_le _
  · split
    · simp only; omega
    · split
      · simp only [List.length_append, List.length_singleton]; omega
      · split
        · simp only; omega
        · exact clockR_len l _ a c h (Nat.zero_le _)
mutual
theorem clockE_len (n : Nd) : ∀ (c : Ck) (e : Ex), (clockE n c e).1.1.length ≤ (varsN n).length + 2
  | c, .mk op nm nn a ks => by
    unfold clockE
    exact clockOp_len n op nm nn a _ _ (clockL_len n c [] ks (fun y hy => by cases hy))
theorem clockL_len (n : Nd) : ∀ (c : Ck) (acc : List (List Stp1 × Bool)) (l : List Ex), (∀ y ∈ acc, y.1.length ≤ (varsN n).length + 2) → ∀ y ∈ (clockL n c acc l).1, y.1.length ≤ (varsN n).length + 2
  | c, acc, [], h => by unfold clockL; exact h
  | c, acc, e :: r, h => by
    unfold clockL
    refine clockL_len n _ _ r fun y hy => ?_
    rcases List.mem_append.1 hy with hy | hy
    · exact h y hy
    · rw [List.mem_singleton] at hy; subst hy; exact clockE_len n c e
end
theorem clockL_drop (n : Nd) (c : Ck) (acc : List (List Stp1 × Bool)) {ks : List Ex} {i : Nat} {k : Ex} (h : ks[i]? = some k) : clockL n c acc (ks.drop i) = clockL n (clockE n c k).2 (acc ++ [(clockE n c k).1]) (ks.drop (i + 1)) := by
  have hlt := (List.getElem?_eq_some_iff.1 h).1
  rw [List.drop_eq_getElem_cons hlt, (List.getElem?_eq_some_iff.1 h).2, clockL]
theorem clock_calls {o : Nat} (l : List Nd) (n : Nd) (h1 : n.ins.length ≤ 2000000) (h2 : n.outs.length ≤ 2000000) (h3 : n.locs.length ≤ 2000000) (hon : OnOk n) (m : Nat) : ∀ (e : Ex) (H : AHeap) (c : Ck), exSz e ≤ m → exSz e ≤ 2000000 → exOk l e → H o = some (.cel (ckA c)) →
    ACalls Try.prog 48 [.ptr o 0, .agg n.cells, exA e] H fun r H' => r = .tup [stA (clockE n c e).1.1, avB (clockE n c e).1.2] ∧ H' = H.set o (.cel (ckA (clockE n c e).2)) := by
  have hlv : (varsN n).length ≤ 6000000 := by unfold varsN; rw [List.length_append, List.length_append]; omega
  induction m with
  | zero => intro e H c h; rw [exSz_eq] at h; omega
  | succ m ih =>
    intro e H c h hb hok hH
    obtain ⟨op, nm, nn, at_, ks⟩ := e
    rw [exSz_eq] at h hb
    rw [exOk] at hok
    unfold clockE
    simp only [Ex.kids, Ex.op, Ex.name, Ex.n, Ex.at_] at *
    show ACalls Try.prog _ [.ptr o 0, .agg n.cells, .agg [.str op, .str nm, avI nn, avI at_, .sls ks.length (exL ks)]] H _
    have hml := exL_len ks
    have hkl : ks.length ≤ exSzL ks := by
      clear hml h hb hok
      induction ks with
      | nil => exact Nat.zero_le _
      | cons x l ih => rw [exSzL, List.length_cons]; have := exSz_eq x; omega
    have cf := fun H => ClockOf_calls H n nm h1 h2 h3 hon
    have hlz := clockL_len n c [] ks (fun y hy => by cases hy)
    have hko := clockOf_len n nm
    generalize hZ : clockL n c [] ks = Z at *
    replace hZ := Hdn.mk hZ
    have hn : n.cells = [.str n.name, .sls n.ins.length (vrL n.ins), .sls n.outs.length (vrL n.outs), .sls n.locs.length (vrL n.locs), .sls n.eqs.length (eqL n.eqs), avI n.at_] := rfl
    rw [hn] at *
    refine acalls_of_aw3 Try.func48 rfl (by decide) ?_
    (first | focus (refine yy2 ?_; refine zb1 rfl rfl rfl (fun oN hoN => ?_); refine zb1 rfl rfl rfl (fun oN hoN => ?_); refine yy21 ?_; refine yy6 ?_; refine yy15 ?_; refine yy15 ?_; refine yy38 ?_; refine yy71 ?_; rotate_left) | fail)
    rename_i oP hoP
    obtain ⟨oE, hoEe⟩ : ∃ x, x = oN := ⟨_, rfl⟩
    subst hoEe
    have hP0 : H oP = none := hoP
    have hE0 : H oE = none := by (first | assumption | exact AHeap.none_of_set ((by assumption)) | exact AHeap.none_of_set (AHeap.none_of_set ((by assumption))) | exact AHeap.none_of_set (AHeap.none_of_set (AHeap.none_of_set ((by assumption)))) | exact AHeap.none_of_set (AHeap.none_of_set (AHeap.none_of_set (AHeap.none_of_set ((by assumption))))) | exact AHeap.none_of_set (AHeap.none_of_set (AHeap.none_of_set (AHeap.none_of_set (AHeap.none_of_set ((by assumption)))))) | exact AHeap.none_of_set (AHeap.none_of_set (AHeap.none_of_set (AHeap.none_of_set (AHeap.none_of_set (AHeap.none_of_set ((by assumption))))))) | exact AHeap.none_of_set (AHeap.none_of_set (AHeap.none_of_set (AHeap.none_of_set (AHeap.none_of_set (AHeap.none_of_set (AHeap.none_of_set ((by assumption)))))))) | exact AHeap.none_of_set (AHeap.none_of_set (AHeap.none_of_set (AHeap.none_of_set (AHeap.none_of_set (AHeap.none_of_set (AHeap.none_of_set (AHeap.none_of_set ((by assumption))))))))) | exact AHeap.none_of_set (AHeap.none_of_set (AHeap.none_of_set (AHeap.none_of_set (AHeap.none_of_set (AHeap.none_of_set (AHeap.none_of_set (AHeap.none_of_set (AHeap.none_of_set ((by assumption)))))))))) | exact AHeap.none_of_set (AHeap.none_of_set (AHeap.none_of_set (AHeap.none_of_set (AHeap.none_of_set (AHeap.none_of_set (AHeap.none_of_set (AHeap.none_of_set (AHeap.none_of_set (AHeap.none_of_set ((by assumption))))))))))))
    have hEP : oE ≠ oP := by (first | assumption | exact Ne.symm (by assumption) | exact AHeap.ne_of_fresh (by assumption) | exact Ne.symm (AHeap.ne_of_fresh (by assumption)) | exact AHeap.ne_of_fresh (AHeap.none_of_set (by assumption)) | exact Ne.symm (AHeap.ne_of_fresh (AHeap.none_of_set (by assumption))) | exact AHeap.ne_ns (by assumption) (by assumption) | exact AHeap.ne_sn (by assumption) (by assumption) | exact AHeap.ne_ns (by assumption) auto_heap2 | exact AHeap.ne_sn (by assumption) auto_heap2)
    have hPo : oP ≠ o := fun e => by rw [e, hH] at hP0; cases hP0
    have hEo : oE ≠ o := fun e => by rw [e, hH] at hE0; cases hE0
    refine aw_own_nil 8 1 (.cel []) rfl rfl (fun oA hoA => ?_)
    refine aw_own_nil 9 1 (.cel []) rfl rfl (fun oB hoB => ?_)
    have hA0 : H oA = none := AHeap.none_of_set (AHeap.none_of_set hoA)
    have hAE : oA ≠ oE := AHeap.ne_of_fresh hoA
    have hAP : oA ≠ oP := AHeap.ne_of_fresh (AHeap.none_of_set hoA)
    have hAo : oA ≠ o := fun e => by rw [e, hH] at hA0; cases hA0
    have hBA : oB ≠ oA := AHeap.ne_of_fresh hoB
    have hoB2 := AHeap.none_of_set hoB
    have hB0 : H oB = none := AHeap.none_of_set (AHeap.none_of_set hoB2)
    have hBE : oB ≠ oE := AHeap.ne_of_fresh hoB2
    have hBP : oB ≠ oP := AHeap.ne_of_fresh (AHeap.none_of_set hoB2)
    have hBo : oB ≠ o := fun e => by rw [e, hH] at hB0; cases hB0
    refine aw_loop (fun mm R2 H2 => ∃ (i oA oB : Nat) (acc : List (List Stp1 × Bool)) (c' : Ck), i ≤ ks.length ∧ acc.length = i ∧ Hdn (clockL n c' acc (ks.drop i) = Z) ∧ (H oA = none ∧ oA ≠ o ∧ oA ≠ oE ∧ oA ≠ oP) ∧ (H oB = none ∧ oB ≠ o ∧ oB ≠ oE ∧ oB ≠ oP ∧ oB ≠ oA) ∧ H2 oE = some (.cel [.str op, .str nm, avI nn, avI at_, .sls ks.length (exL ks)]) ∧ H2 oP = some (.cel [.str n.name, .sls n.ins.length (vrL n.ins), .sls n.outs.length (vrL n.outs), .sls n.locs.length (vrL n.locs), .sls n.eqs.length (eqL n.eqs), avI n.at_]) ∧ H2 o = some (.cel (ckA c')) ∧ H2 oA = some (.cel (clA acc)) ∧ H2 oB = some (.cel (cbA acc)) ∧ (∀ p y, p ≠ o → H p = some y → H2 p = some y) ∧ R2 = [(0, .ptr o 0), (4, .ptr oP 0), (5, .ptr oE 0), (8, .vw oA 1 0 i), (9, .vw oB 1 0 i), (10, avI i)] ∧ ks.length - i = mm) ?_ ?_
    · exact ⟨_, _, _, Ent.sub _ (by (repeat' (first | exact RSub.nil _ | apply RSub.cons)); all_goals rfl), 0, oA, oB, [], c, Nat.zero_le _, rfl, hZ, ⟨hA0, hAo, hAE, hAP⟩, ⟨hB0, hBo, hBE, hBP, hBA⟩, by exact auto_heap, by exact auto_heap, by exact auto_heap, by exact auto_heap, by exact AHeap.set_self _ _ _, (fun p y hpo hp => by
          have hp3 : p ≠ oP := fun e => by rw [e, hP0] at hp; cases hp
          have hp4 : p ≠ oE := fun e => by rw [e, hE0] at hp; cases hp
          have hp5 : p ≠ oA := fun e => by rw [e, hA0] at hp; cases hp
          have hp6 : p ≠ oB := fun e => by rw [e, hB0] at hp; cases hp
          exact auto_heap), rfl, rfl⟩
    clear hZ hoA hoB hoB2 hA0 hAo hAE hAP hB0 hBo hBE hBP hBA oA oB hoN
    rintro mm R2 H2 ⟨i, oA, oB, acc, c', hi, hal, hZ, ⟨hA0, hAo, hAE, hAP⟩, ⟨hB0, hBo, hBE, hBP, hBA⟩, q1, q2, q3, q4, q5, hfr, rfl, rfl⟩
    have hAB := hBA.symm
    by_cases hlt : i < ks.length
    · have hg : ks[i]? = some ks[i] := List.getElem?_eq_getElem hlt
      have hseg := exL_get hg
      have hmem := exSz_mem (List.getElem_mem hlt)
      have hokk := exOkL_mem hok.2 (List.getElem_mem hlt)
      rw [clockL_drop n c' acc hg] at hZ
      generalize ks[i] = k at *
      have cb := fun H h => ih k H c' (by omega) (by omega) hokk h
      generalize clockE n c' k = r at *
      obtain ⟨⟨r0, r1⟩, c2⟩ := r
      simp only at hZ cb
      have hka : (clA acc).length = i * 1 := by rw [List.length_map, hal, Nat.mul_one]
      have hkb : (cbA acc).length = i * 1 := by rw [List.length_map, hal, Nat.mul_one]
      clear ih hg hmem hokk hok cf hlz hko
      (first | focus (refine yy93 ?_; refine yy89 ?_; refine aw_condp rfl (fun hc => ?_) (fun hc => ?_); refine yy13 ?_; refine aw_seq ?_; (apply aw_split2 true; (· (repeat' (first | exact spl2_call | apply spl2_cons))); (· exact auto_kr); (· exact auto_dk); (· exact auto_dk)); (apply awm_s; · (intro H1; exact s_move (v := .ptr _ _) rfl)); (apply awm_e auto_dk; (· exact s_load_agg rfl auto_heap rfl rfl (by first | decide | exact Nat.le_of_ble_eq_true rfl))); (apply awm_s; · (intro H1; exact s_fieldAddr_ptr rfl)); (apply awm_e auto_dk; (· exact s_load_cel rfl auto_heap rfl)); (apply awm_s; · (intro H1; exact s_move (v := .raw _) rfl)); (apply awm_s; · (intro H1; exact s_indexAddr_sls rfl rfl auto_len)); (apply awm_s; · (intro H1; exact s_load_pce_agg rfl (by assumption) (by rfl) (by decide))); refine awm_b ?_; refine awm_nil ?_; refine awb_cons (fun Rx K1 hK1x => ?_); (refine zc auto_wl (cb _ auto_heap) ?_; rintro r H' ⟨rfl, rfl⟩); refine yy61 ?_; (refine hK1x _ _ ?_; clear hK1x K1 Rx); refine awb_nil ?_; refine k_seq_normal ?_; refine any_draw0 auto_kr ?_; (apply awt_s; · exact s_move (v := .tup _) rfl); (apply awt_s; · exact s_extract rfl rfl); (apply awt_s; · exact s_extract rfl rfl); (apply awt_s; · exact s_assign (v := .sls _ _) rfl); (apply awt_s; · exact s_assign (v := .raw _) rfl); refine awt_nil ?_; refine k_seq_normal ?_; refine yy2 ?_; refine yy23 ?_; refine yy27 ?_; refine yy37 ?_; refine za4 rfl rfl rfl auto_heap auto_al auto_src auto_len auto_len (fun oN hoN => ?_); refine yy40 ?_; refine yy4 ?_; refine yy32 ?_; refine yy23 ?_; refine yy7 ?_; refine yy37 ?_; refine za4 rfl rfl rfl auto_heap auto_al auto_src auto_len auto_len (fun oN hoN => ?_); refine yy40 ?_; refine yy48 ?_; refine yy22 ?_; rotate_left; exact absurd hc auto_no) | fail)
      rename_i oA2 hoA2
      have n0 : H2 oA2 = none := by (first | assumption | exact AHeap.none_of_set ((by assumption)) | exact AHeap.none_of_set (AHeap.none_of_set ((by assumption))) | exact AHeap.none_of_set (AHeap.none_of_set (AHeap.none_of_set ((by assumption)))) | exact AHeap.none_of_set (AHeap.none_of_set (AHeap.none_of_set (AHeap.none_of_set ((by assumption))))) | exact AHeap.none_of_set (AHeap.none_of_set (AHeap.none_of_set (AHeap.none_of_set (AHeap.none_of_set ((by assumption)))))) | exact AHeap.none_of_set (AHeap.none_of_set (AHeap.none_of_set (AHeap.none_of_set (AHeap.none_of_set (AHeap.none_of_set ((by assumption))))))) | exact AHeap.none_of_set (AHeap.none_of_set (AHeap.none_of_set (AHeap.none_of_set (AHeap.none_of_set (AHeap.none_of_set (AHeap.none_of_set ((by assumption)))))))) | exact AHeap.none_of_set (AHeap.none_of_set (AHeap.none_of_set (AHeap.none_of_set (AHeap.none_of_set (AHeap.none_of_set (AHeap.none_of_set (AHeap.none_of_set ((by assumption))))))))) | exact AHeap.none_of_set (AHeap.none_of_set (AHeap.none_of_set (AHeap.none_of_set (AHeap.none_of_set (AHeap.none_of_set (AHeap.none_of_set (AHeap.none_of_set (AHeap.none_of_set ((by assumption)))))))))) | exact AHeap.none_of_set (AHeap.none_of_set (AHeap.none_of_set (AHeap.none_of_set (AHeap.none_of_set (AHeap.none_of_set (AHeap.none_of_set (AHeap.none_of_set (AHeap.none_of_set (AHeap.none_of_set ((by assumption))))))))))))
      have a1 : oA2 ≠ o := fun e => by rw [e, q3] at n0; cases n0
      have a2 : oA2 ≠ oE := fun e => by rw [e, q1] at n0; cases n0
      have a3 : oA2 ≠ oP := fun e => by rw [e, q2] at n0; cases n0
      have a5 : oA2 ≠ oB := fun e => by rw [e, q5] at n0; cases n0
      have a4 : H oA2 = none := by
        cases e : H oA2 with
        | none => rfl
        | some y => rw [hfr _ _ a1 e] at n0; cases n0
      have b1 : oN ≠ o := ne_of_none_some hoN auto_heap
      have b2 : oN ≠ oE := ne_of_none_some hoN auto_heap
      have b3 : oN ≠ oP := ne_of_none_some hoN auto_heap
      have b5 : oN ≠ oA2 := AHeap.ne_of_fresh hoN
      have b4 : H oN = none := by
        cases e : H oN with
        | none => rfl
        | some y =>
          have hp2 := hfr _ _ b1 e
          have hp3 : oN ≠ oA := fun e2 => by rw [e2, hA0] at e; cases e
          exact absurd rfl (ne_of_none_some (b := oN) (y := y) hoN auto_heap)
      have e1 : clA (acc ++ [(r0, r1)]) = clA acc ++ [stA r0] := by simp only [clA, List.map_append, List.map_cons, List.map_nil]
      have e2 : cbA (acc ++ [(r0, r1)]) = cbA acc ++ [avB r1] := by simp only [cbA, List.map_append, List.map_cons, List.map_nil]
      exact ⟨ks.length - (i + 1), _, _, by omega, Ent.sub _ (by (repeat' (first | exact RSub.nil _ | apply RSub.cons)); all_goals rfl), i + 1, oA2, oN, acc ++ [(r0, r1)], c2, by omega, by rw [List.length_append, hal]; rfl, hZ, ⟨a4, a1, a2, a3⟩, ⟨b4, b1, b2, b3, b5⟩, by exact auto_heap, by exact auto_heap, by exact auto_heap, by rw [e1]; exact auto_heap, by rw [e2]; exact AHeap.set_self _ _ _, fun p y hpo hp => by
        have hp2 := hfr p y hpo hp
        have hp3 : p ≠ oA := fun e => by rw [e, hA0] at hp; cases hp
        have hp4 : p ≠ oB := fun e => by rw [e, hB0] at hp; cases hp
        have hp5 : p ≠ oA2 := fun e => by rw [e, a4] at hp; cases hp
        have hp6 : p ≠ oN := fun e => by rw [e, b4] at hp; cases hp
        exact auto_heap, rfl, rfl⟩
    · obtain rfl : i = ks.length := by omega
      have hZ2 : Z = (acc, c') := by rw [← hZ.out, List.drop_length, clockL]
      subst hZ2
      simp only at hlz ⊢
      have hent : ∃ H3, Ent [(0, .ptr o 0), (4, .ptr oP 0), (5, .ptr oE 0), (8, .vw oA 1 0 ks.length), (9, .vw oB 1 0 ks.length), (10, avI ks.length)] H2 [(0, .ptr o 0), (4, .ptr oP 0), (5, .ptr oE 0), (8, .sls acc.length (clA acc)), (9, .sls acc.length (cbA acc)), (10, avI acc.length)] H3 ∧ H3 oE = some (.cel [.str op, .str nm, avI nn, avI at_, .sls ks.length (exL ks)]) ∧ H3 oP = some (.cel [.str n.name, .sls n.ins.length (vrL n.ins), .sls n.outs.length (vrL n.outs), .sls n.locs.length (vrL n.locs), .sls n.eqs.length (eqL n.eqs), avI n.at_]) ∧ H3 o = some (.cel (ckA c')) ∧ (∀ p y, p ≠ o → H p = some y → H3 p = some y) := by
        refine ⟨_, ((Ent.seal_cel (i := 8) (o := oA) (xs := clA acc) rfl q4 (by rw [List.length_map, hal, Nat.mul_one])).trans (Ent.seal_cel (i := 9) (o := oB) (xs := cbA acc) (m := ks.length) rfl (AHeap.get_unerase hBA q5) (by rw [List.length_map, hal, Nat.mul_one]))).trans (Ent.sub _ (by rw [← hal]; (repeat' (first | exact RSub.nil _ | apply RSub.cons)); all_goals rfl)), ?_, ?_, ?_, fun p y hpo hp => ?_⟩
        · exact AHeap.get_unerase hBE.symm (AHeap.get_unerase hAE.symm q1)
        · exact AHeap.get_unerase hBP.symm (AHeap.get_unerase hAP.symm q2)
        · exact AHeap.get_unerase hBo.symm (AHeap.get_unerase hAo.symm q3)
        · have hp2 := hfr p y hpo hp
          have hp3 : p ≠ oA := fun e => by rw [e, hA0] at hp; cases hp
          have hp4 : p ≠ oB := fun e => by rw [e, hB0] at hp; cases hp
          exact AHeap.get_unerase hp4 (AHeap.get_unerase hp3 hp2)
      clear q1 q2 q3 q4 q5 hfr hZ
      obtain ⟨H3, he, q1, q2, q3, hfr⟩ := hent
      have ce := fun H (c : Ck) h => fail_calls6 (o := o) H c 10 at_ h
      have hla := clA_len acc
      have hlb := cbA_len acc
      have hbk : ks.length ≤ 2000000 := by omega
      clear ih hml h hb hkl hi hlt hA0 hAo hAE hAP hB0 hBo hBE hBP hBA hAB
      generalize hx : clockOp n op nm nn at_ acc c' = X
      obtain ⟨⟨x1, x2⟩, x3⟩ := X
      simp only
      refine aw_ent he ?_
      clear he
      (first | focus (refine yy93 ?_; refine yy89 ?_; refine yy34 ?_; intro hc; rotate_left) | fail)
      unfold clockOp at hx
      simp only at hx
      by_cases g1 : op = ([105, 110, 116] : Bs) ∨ op = ([98, 111, 111, 108] : Bs)
      · rw [if_pos g1] at hx
        simp only [Prod.mk.injEq] at hx
        obtain ⟨⟨rfl, rfl⟩, rfl⟩ := hx
        rcases g1 with rfl | rfl
        all_goals (
          (first | focus (refine yy54 ?_; refine yy70 ?_; refine yy65 ?_; refine aw_condp rfl (fun hc => ?_) (fun hc => ?_); refine yy35 ?_; refine aw_condp rfl (fun hc => ?_) (fun hc => ?_); refine yy2 ?_; refine yy21 ?_; refine yy41 ?_; refine yy33 ?_; rotate_left; exact absurd hc auto_no; exact absurd hc auto_no) | focus (refine yy54 ?_; refine yy70 ?_; refine yy65 ?_; refine yy28 ?_; intro hc; refine aw_condp rfl (fun hc => ?_) (fun hc => ?_); refine yy2 ?_; refine yy21 ?_; refine yy41 ?_; refine yy33 ?_; rotate_left; exact absurd hc auto_no) | fail)
          exact ⟨.inl rfl, _, _, _, (Ent.gc (Sub.set auto_heap (fun p y hpo hp => by
              have hp2 := hfr p y hpo hp
              exact auto_heap))).trans (Ent.weakReg 6 rfl (W.nils rfl)), ret_2 rfl (rv1_tmp rfl) (rv1_tmp rfl), rfl, rfl⟩)
      rw [if_neg g1] at hx
      rw [not_or] at g1
      obtain ⟨g1, g1b⟩ := g1
      replace g1 := Hdq.mk g1
      replace g1b := Hdq.mk g1b
      by_cases g2 : op = ([118, 97, 114] : Bs)
      · rw [if_pos g2] at hx
        subst g2
        simp only [Prod.mk.injEq] at hx
        obtain ⟨⟨rfl, rfl⟩, rfl⟩ := hx
        (first | focus (refine yy54 ?_; refine yy70 ?_; refine yy65 ?_; refine yy30 ?_; intro hc; refine yy126 ?_; refine yy29 ?_; intro hc; refine aw_condp rfl (fun hc => ?_) (fun hc => ?_); refine yy98 ?_; refine yy10 ?_; (refine zc auto_wl (cf _) ?_; rintro r H' ⟨rfl, rfl⟩); refine yy83 ?_; refine yy41 ?_; refine yy33 ?_; rotate_left; exact absurd hc auto_no) | fail)
        exact ⟨.inl rfl, _, _, _, (Ent.gc (Sub.set auto_heap (fun p y hpo hp => by
              have hp2 := hfr p y hpo hp
              exact auto_heap))).trans (Ent.weakReg 6 rfl (W.of rfl)), ret_2 rfl (rv1_tmp rfl) (rv1_tmp rfl), rfl, rfl⟩
      rw [if_neg g2] at hx
      replace g2 := Hdq.mk g2
      by_cases g3 : op = ([119, 104, 101, 110] : Bs)
      · rw [if_pos g3] at hx
        subst g3
        have har := hok.1.1
        rw [ar_when, ← hal] at har
        obtain ⟨a0, ar, rfl⟩ : ∃ a0 ar, acc = a0 :: ar := by
          match acc, har with
          | a0 :: ar, _ => exact ⟨a0, ar, rfl⟩
        obtain ⟨x0, y0⟩ := a0
        have hx0 := hlz (x0, y0) (List.mem_cons_self)
        have cs := fun H => SameClock_calls H x0 (clockOf n nm) (by simp only at hx0; omega) (by omega)
        have co := fun H => on_calls H (clockOf n nm) nm (decide (nn = 0)) (by omega)
        generalize clockOf n nm = own at *
        clear hok har hlz hx0 hal g1 g1b g2
        simp only [List.getD_cons_zero, Prod.mk.injEq] at hx
        obtain ⟨⟨rfl, rfl⟩, rfl⟩ := hx
        by_cases hf : y0 = false ∧ x0 ≠ own
        · rw [if_pos hf]
          obtain ⟨rfl, hf⟩ := hf
          rw [decide_eq_false hf] at cs
          replace hf := Hdn.mk hf
          (first | focus (refine yy54 ?_; refine yy70 ?_; refine yy65 ?_; refine yy28 ?_; intro hc; refine yy1 ?_; intro hc; refine yy1 ?_; intro hc; refine aw_condp rfl (fun hc => ?_) (fun hc => ?_); refine yy98 ?_; refine yy10 ?_; (refine zc auto_wl (cf _) ?_; rintro r H' ⟨rfl, rfl⟩); refine yy83 ?_; refine yy42 ?_; refine yy27 ?_; refine yy44 ?_; refine yy43 ?_; refine yy52 ?_; refine yy18 ?_; refine yy27 ?_; refine yy5 ?_; refine yy44 ?_; refine yy5 ?_; refine yy43 ?_; refine yy5 ?_; refine yy27 ?_; refine yy5 ?_; (refine zc auto_wl (cs _) ?_; rintro r H' ⟨rfl, rfl⟩); refine yy5 ?_; refine yy52 ?_; refine yy112 ?_; refine yy67 ?_; refine yy10 ?_; (refine zc auto_wl (ce _ _ auto_heap) ?_; rintro r H' ⟨rfl, rfl⟩); refine yy16 ?_; refine yy27 ?_; refine yy10 ?_; refine yy10 ?_; refine awl_s rfl (s_eql rfl rfl) ?_; (refine zc auto_wl (co _) ?_; rintro r H' ⟨rfl, rfl⟩); refine yy83 ?_; refine yy41 ?_; refine yy33 ?_; rotate_left; exact absurd hc auto_no) | fail)
          exact ⟨.inl rfl, _, _, _, (Ent.gc (Sub.set auto_heap (fun p y hpo hp => by
              have hp2 := hfr p y hpo hp
              exact auto_heap))).trans (Ent.weakReg 6 rfl (W.of rfl)), ret_2 rfl (rv1_tmp rfl) (rv1_tmp rfl), rfl, rfl⟩
        · rw [if_neg hf]
          cases y0
          · obtain rfl : x0 = own := Decidable.byContradiction fun h => hf ⟨rfl, h⟩
            rw [decide_eq_true rfl] at cs
            (first | focus (refine yy54 ?_; refine yy70 ?_; refine yy65 ?_; refine yy28 ?_; intro hc; refine yy1 ?_; intro hc; refine yy1 ?_; intro hc; refine aw_condp rfl (fun hc => ?_) (fun hc => ?_); refine yy98 ?_; refine yy10 ?_; (refine zc auto_wl (cf _) ?_; rintro r H' ⟨rfl, rfl⟩); refine yy83 ?_; refine yy42 ?_; refine yy27 ?_; refine yy44 ?_; refine yy43 ?_; refine yy52 ?_; refine yy18 ?_; refine yy27 ?_; refine yy5 ?_; refine yy44 ?_; refine yy5 ?_; refine yy43 ?_; refine yy5 ?_; refine yy27 ?_; refine yy5 ?_; (refine zc auto_wl (cs _) ?_; rintro r H' ⟨rfl, rfl⟩); refine yy5 ?_; refine yy52 ?_; refine yy69 ?_; refine yy25 ?_; refine yy76 ?_; refine yy10 ?_; refine yy10 ?_; refine awl_s rfl (s_eql rfl rfl) ?_; (refine zc auto_wl (co _) ?_; rintro r H' ⟨rfl, rfl⟩); refine yy83 ?_; refine yy41 ?_; refine yy33 ?_; rotate_left; exact absurd hc auto_no) | fail)
            exact ⟨.inl rfl, _, _, _, (Ent.gc (Sub.set auto_heap (fun p y hpo hp => by
              have hp2 := hfr p y hpo hp
              exact auto_heap))).trans (Ent.weakReg 6 rfl (W.of rfl)), ret_2 rfl (rv1_tmp rfl) (rv1_tmp rfl), rfl, rfl⟩
          · (first | focus (refine yy54 ?_; refine yy70 ?_; refine yy65 ?_; refine yy28 ?_; intro hc; refine yy1 ?_; intro hc; refine yy1 ?_; intro hc; refine aw_condp rfl (fun hc => ?_) (fun hc => ?_); refine yy98 ?_; refine yy10 ?_; (refine zc auto_wl (cf _) ?_; rintro r H' ⟨rfl, rfl⟩); refine yy83 ?_; refine yy42 ?_; refine yy27 ?_; refine yy44 ?_; refine yy43 ?_; refine yy52 ?_; refine yy7 ?_; refine yy66 ?_; refine yy50 ?_; refine yy63 ?_; refine yy25 ?_; refine yy76 ?_; refine yy10 ?_; refine yy10 ?_; refine awl_s rfl (s_eql rfl rfl) ?_; (refine zc auto_wl (co _) ?_; rintro r H' ⟨rfl, rfl⟩); refine yy83 ?_; refine yy41 ?_; refine yy33 ?_; rotate_left; exact absurd hc auto_no) | fail)
            exact ⟨.inl rfl, _, _, _, (Ent.gc (Sub.set auto_heap (fun p y hpo hp => by
              have hp2 := hfr p y hpo hp
              exact auto_heap))).trans (Ent.weakReg 6 rfl (W.of rfl)), ret_2 rfl (rv1_tmp rfl) (rv1_tmp rfl), rfl, rfl⟩
      rw [if_neg g3] at hx
      replace g3 := Hdq.mk g3
      by_cases g4 : op = ([109, 101, 114, 103, 101] : Bs)
      · rw [if_pos g4] at hx
        subst g4
        have har := hok.1.1
        rw [ar_merge, ← hal] at har
        obtain ⟨a0, a1, ar, rfl⟩ : ∃ a0 a1 ar, acc = a0 :: a1 :: ar := by
          match acc, har with
          | a0 :: a1 :: ar, _ => exact ⟨a0, a1, ar, rfl⟩
        obtain ⟨x0, y0⟩ := a0
        obtain ⟨u0, v0⟩ := a1
        have hx0 := hlz (x0, y0) (List.mem_cons_self)
        have hu0 := hlz (u0, v0) (List.mem_cons_of_mem _ List.mem_cons_self)
        simp only [List.length_cons] at *
        have cs0 := fun H => SameClock_calls H x0 (clockOf n nm ++ [⟨nm, false⟩]) (by omega) (by rw [List.length_append, List.length_singleton]; omega)
        have cs1 := fun H => SameClock_calls H u0 (clockOf n nm ++ [⟨nm, true⟩]) (by omega) (by rw [List.length_append, List.length_singleton]; omega)
        have co0 := fun H => on_calls H (clockOf n nm) nm false (by omega)
        have co1 := fun H => on_calls H (clockOf n nm) nm true (by omega)
        generalize clockOf n nm = own at *
        clear hok har hlz hx0 hu0 hal g1 g1b g2 g3
        simp only [List.getD_cons_zero, List.getD_cons_succ, Prod.mk.injEq] at hx
        obtain ⟨⟨rfl, rfl⟩, hx⟩ := hx
        generalize hc1 : (if y0 = false ∧ x0 ≠ own ++ [⟨nm, false⟩] then failC c' 10 at_ else c') = c1 at hx
        (first | focus (refine yy54 ?_; refine yy70 ?_; refine yy65 ?_; refine yy28 ?_; intro hc; refine yy1 ?_; intro hc; refine yy1 ?_; intro hc; refine yy1 ?_; intro hc; refine aw_condp rfl (fun hc => ?_) (fun hc => ?_); refine yy98 ?_; refine yy10 ?_; (refine zc auto_wl (cf _) ?_; rintro r H' ⟨rfl, rfl⟩); refine yy83 ?_; refine yy42 ?_; refine yy71 ?_; rotate_left; exact absurd hc auto_no) | fail)
        refine aw_loop (fun mm R4 H4 => ∃ (i : Nat) (cc : Ck), ((i = 0 ∧ cc = c') ∨ (i = 1 ∧ cc = c1) ∨ (i = 2 ∧ cc = x3)) ∧ H4 oE = some (.cel [.str ([109, 101, 114, 103, 101] : Bs), .str nm, avI nn, avI at_, .sls ks.length (exL ks)]) ∧ H4 oP = some (.cel [.str n.name, .sls n.ins.length (vrL n.ins), .sls n.outs.length (vrL n.outs), .sls n.locs.length (vrL n.locs), .sls n.eqs.length (eqL n.eqs), avI n.at_]) ∧ H4 o = some (.cel (ckA cc)) ∧ (∀ p y, p ≠ o → H p = some y → H4 p = some y) ∧ R4 = [(0, .ptr o 0), (4, .ptr oP 0), (5, .ptr oE 0), (8, .sls (ar.length + 1 + 1) (clA ((x0, y0) :: (u0, v0) :: ar))), (9, .sls (ar.length + 1 + 1) (cbA ((x0, y0) :: (u0, v0) :: ar))), (14, stA own), (15, avI i)] ∧ 2 - i = mm) ?_ ?_
        · exact ⟨_, _, _, Ent.sub _ (by (repeat' (first | exact RSub.nil _ | apply RSub.cons)); all_goals rfl), 0, c', .inl ⟨rfl, rfl⟩, by exact auto_heap, by exact auto_heap, by exact auto_heap, (fun p y hpo hp => by
              have hp2 := hfr p y hpo hp
              exact auto_heap), rfl, rfl⟩
        clear q1 q2 q3 hfr
        rintro mm R4 H4 ⟨i, cc, hi, q1, q2, q3, hfr, rfl, rfl⟩
        rcases hi with ⟨rfl, rfl⟩ | ⟨rfl, rfl⟩ | ⟨rfl, rfl⟩
        · by_cases hf : y0 = false ∧ x0 ≠ own ++ [⟨nm, false⟩]
          · rw [if_pos hf] at hc1
            subst hc1
            obtain ⟨rfl, hf⟩ := hf
            rw [decide_eq_false hf] at cs0
            replace hf := Hdn.mk hf
            replace hx := Hdn.mk hx
            (first | focus (refine yy9 ?_; refine yy49 ?_; refine aw_condp rfl (fun hc => ?_) (fun hc => ?_); refine yy13 ?_; refine yy73 ?_; (apply awt_s; · exact s_move (v := .sls _ _) rfl); (apply awt_s; · exact s_move (v := .raw _) rfl); (apply awt_s; · exact s_indexAddr_sls rfl rfl auto_len); (apply awt_s; · exact s_load_pce rfl auto_idx); (apply awt_s; · exact s_notb rfl); (apply awt_s; · exact s_move (v := .raw _) rfl); refine yy3 ?_; (apply awt_s; · exact s_move (v := .sls _ _) rfl); refine yy3 ?_; (apply awt_s; · exact s_move (v := .raw _) rfl); refine yy3 ?_; (apply awt_s; · exact s_indexAddr_sls rfl rfl auto_len); refine yy3 ?_; (apply awt_s; · exact s_load_pce rfl auto_idx); refine yy3 ?_; (apply awt_s; · exact s_move (v := .sls _ _) rfl); refine yy3 ?_; (apply awt_s; · exact s_fieldAddr_ptr rfl); refine yy3 ?_; (apply awt_s; · exact s_load_cel rfl auto_heap rfl); refine yy3 ?_; (apply awt_s; · exact s_move (v := .raw _) rfl); refine yy3 ?_; (apply awt_s; · exact s_eqn rfl rfl); refine yy3 ?_; (apply awt_s; · exact s_callc auto_wl (co0 _)); refine yy3 ?_; (apply awt_s; · exact s_callc auto_wl (cs0 _)); refine yy3 ?_; (apply awt_s; · exact s_notb rfl); (apply awt_s; · exact s_pick_t (v := .raw _) rfl rfl); refine yy77 ?_; refine aw_cond_t rfl ?_; refine yy67 ?_; refine yy10 ?_; (refine zc auto_wl (ce _ _ auto_heap) ?_; rintro r H' ⟨rfl, rfl⟩); refine yy48 ?_; refine yy22 ?_; rotate_left; exact absurd hc auto_no) | fail)
            exact ⟨1, _, _, by omega, Ent.sub _ (by (repeat' (first | exact RSub.nil _ | apply RSub.cons)); all_goals rfl), 1, _, .inr (.inl ⟨rfl, rfl⟩), by exact auto_heap, by exact auto_heap, by exact auto_heap, (fun p y hpo hp => by
              have hp2 := hfr p y hpo hp
              exact auto_heap), rfl, rfl⟩
          · rw [if_neg hf] at hc1
            subst hc1
            replace hx := Hdn.mk hx
            cases y0
            · obtain rfl : x0 = own ++ [⟨nm, false⟩] := Decidable.byContradiction fun h => hf ⟨rfl, h⟩
              rw [decide_eq_true rfl] at cs0
              (first | focus (refine yy9 ?_; refine yy49 ?_; refine aw_condp rfl (fun hc => ?_) (fun hc => ?_); refine yy13 ?_; refine yy73 ?_; (apply awt_s; · exact s_move (v := .sls _ _) rfl); (apply awt_s; · exact s_move (v := .raw _) rfl); (apply awt_s; · exact s_indexAddr_sls rfl rfl auto_len); (apply awt_s; · exact s_load_pce rfl auto_idx); (apply awt_s; · exact s_notb rfl); (apply awt_s; · exact s_move (v := .raw _) rfl); refine yy3 ?_; (apply awt_s; · exact s_move (v := .sls _ _) rfl); refine yy3 ?_; (apply awt_s; · exact s_move (v := .raw _) rfl); refine yy3 ?_; (apply awt_s; · exact s_indexAddr_sls rfl rfl auto_len); refine yy3 ?_; (apply awt_s; · exact s_load_pce rfl auto_idx); refine yy3 ?_; (apply awt_s; · exact s_move (v := .sls _ _) rfl); refine yy3 ?_; (apply awt_s; · exact s_fieldAddr_ptr rfl); refine yy3 ?_; (apply awt_s; · exact s_load_cel rfl auto_heap rfl); refine yy3 ?_; (apply awt_s; · exact s_move (v := .raw _) rfl); refine yy3 ?_; (apply awt_s; · exact s_eqn rfl rfl); refine yy3 ?_; (apply awt_s; · exact s_callc auto_wl (co0 _)); refine yy3 ?_; (apply awt_s; · exact s_callc auto_wl (cs0 _)); refine yy3 ?_; (apply awt_s; · exact s_notb rfl); (apply awt_s; · exact s_pick_t (v := .raw _) rfl rfl); refine yy77 ?_; refine aw_cond_f rfl ?_; refine yy39 ?_; refine yy22 ?_; rotate_left; exact absurd hc auto_no) | fail)
              exact ⟨1, _, _, by omega, Ent.sub _ (by (repeat' (first | exact RSub.nil _ | apply RSub.cons)); all_goals rfl), 1, _, .inr (.inl ⟨rfl, rfl⟩), by exact auto_heap, by exact auto_heap, by exact auto_heap, (fun p y hpo hp => by
              have hp2 := hfr p y hpo hp
              exact auto_heap), rfl, rfl⟩
            · (first | focus (refine yy9 ?_; refine yy49 ?_; refine aw_condp rfl (fun hc => ?_) (fun hc => ?_); refine yy13 ?_; refine yy73 ?_; (apply awt_s; · exact s_move (v := .sls _ _) rfl); (apply awt_s; · exact s_move (v := .raw _) rfl); (apply awt_s; · exact s_indexAddr_sls rfl rfl auto_len); (apply awt_s; · exact s_load_pce rfl auto_idx); (apply awt_s; · exact s_notb rfl); (apply awt_s; · exact s_move (v := .raw _) rfl); refine yy64 ?_; refine yy64 ?_; refine yy64 ?_; (apply awt_s; · exact s_pick_f (v := .raw _) rfl rfl); refine yy77 ?_; refine aw_cond_f rfl ?_; refine yy39 ?_; refine yy22 ?_; rotate_left; exact absurd hc auto_no) | fail)
              exact ⟨1, _, _, by omega, Ent.sub _ (by (repeat' (first | exact RSub.nil _ | apply RSub.cons)); all_goals rfl), 1, _, .inr (.inl ⟨rfl, rfl⟩), by exact auto_heap, by exact auto_heap, by exact auto_heap, (fun p y hpo hp => by
              have hp2 := hfr p y hpo hp
              exact auto_heap), rfl, rfl⟩
        · by_cases hf : v0 = false ∧ u0 ≠ own ++ [⟨nm, true⟩]
          · rw [if_pos hf] at hx
            subst hx
            obtain ⟨rfl, hf⟩ := hf
            rw [decide_eq_false hf] at cs1
            replace hf := Hdn.mk hf
            replace hc1 := Hdn.mk hc1
            (first | focus (refine yy9 ?_; refine yy49 ?_; refine aw_condp rfl (fun hc => ?_) (fun hc => ?_); refine yy13 ?_; refine yy73 ?_; (apply awt_s; · exact s_move (v := .sls _ _) rfl); (apply awt_s; · exact s_move (v := .raw _) rfl); (apply awt_s; · exact s_indexAddr_sls rfl rfl auto_len); (apply awt_s; · exact s_load_pce rfl auto_idx); (apply awt_s; · exact s_notb rfl); (apply awt_s; · exact s_move (v := .raw _) rfl); refine yy3 ?_; (apply awt_s; · exact s_move (v := .sls _ _) rfl); refine yy3 ?_; (apply awt_s; · exact s_move (v := .raw _) rfl); refine yy3 ?_; (apply awt_s; · exact s_indexAddr_sls rfl rfl auto_len); refine yy3 ?_; (apply awt_s; · exact s_load_pce rfl auto_idx); refine yy3 ?_; (apply awt_s; · exact s_move (v := .sls _ _) rfl); refine yy3 ?_; (apply awt_s; · exact s_fieldAddr_ptr rfl); refine yy3 ?_; (apply awt_s; · exact s_load_cel rfl auto_heap rfl); refine yy3 ?_; (apply awt_s; · exact s_move (v := .raw _) rfl); refine yy3 ?_; (apply awt_s; · exact s_eqn rfl rfl); refine yy3 ?_; (apply awt_s; · exact s_callc auto_wl (co1 _)); refine yy3 ?_; (apply awt_s; · exact s_callc auto_wl (cs1 _)); refine yy3 ?_; (apply awt_s; · exact s_notb rfl); (apply awt_s; · exact s_pick_t (v := .raw _) rfl rfl); refine yy77 ?_; refine aw_cond_t rfl ?_; refine yy67 ?_; refine yy10 ?_; (refine zc auto_wl (ce _ _ auto_heap) ?_; rintro r H' ⟨rfl, rfl⟩); refine yy48 ?_; refine yy22 ?_; rotate_left; exact absurd hc auto_no) | fail)
            exact ⟨0, _, _, by omega, Ent.sub _ (by (repeat' (first | exact RSub.nil _ | apply RSub.cons)); all_goals rfl), 2, _, .inr (.inr ⟨rfl, rfl⟩), by exact auto_heap, by exact auto_heap, by exact auto_heap, (fun p y hpo hp => by
              have hp2 := hfr p y hpo hp
              exact auto_heap), rfl, rfl⟩
          · rw [if_neg hf] at hx
            subst hx
            replace hc1 := Hdn.mk hc1
            cases v0
            · obtain rfl : u0 = own ++ [⟨nm, true⟩] := Decidable.byContradiction fun h => hf ⟨rfl, h⟩
              rw [decide_eq_true rfl] at cs1
              (first | focus (refine yy9 ?_; refine yy49 ?_; refine aw_condp rfl (fun hc => ?_) (fun hc => ?_); refine yy13 ?_; refine yy73 ?_; (apply awt_s; · exact s_move (v := .sls _ _) rfl); (apply awt_s; · exact s_move (v := .raw _) rfl); (apply awt_s; · exact s_indexAddr_sls rfl rfl auto_len); (apply awt_s; · exact s_load_pce rfl auto_idx); (apply awt_s; · exact s_notb rfl); (apply awt_s; · exact s_move (v := .raw _) rfl); refine yy3 ?_; (apply awt_s; · exact s_move (v := .sls _ _) rfl); refine yy3 ?_; (apply awt_s; · exact s_move (v := .raw _) rfl); refine yy3 ?_; (apply awt_s; · exact s_indexAddr_sls rfl rfl auto_len); refine yy3 ?_; (apply awt_s; · exact s_load_pce rfl auto_idx); refine yy3 ?_; (apply awt_s; · exact s_move (v := .sls _ _) rfl); refine yy3 ?_; (apply awt_s; · exact s_fieldAddr_ptr rfl); refine yy3 ?_; (apply awt_s; · exact s_load_cel rfl auto_heap rfl); refine yy3 ?_; (apply awt_s; · exact s_move (v := .raw _) rfl); refine yy3 ?_; (apply awt_s; · exact s_eqn rfl rfl); refine yy3 ?_; (apply awt_s; · exact s_callc auto_wl (co1 _)); refine yy3 ?_; (apply awt_s; · exact s_callc auto_wl (cs1 _)); refine yy3 ?_; (apply awt_s; · exact s_notb rfl); (apply awt_s; · exact s_pick_t (v := .raw _) rfl rfl); refine yy77 ?_; refine aw_cond_f rfl ?_; refine yy39 ?_; refine yy22 ?_; rotate_left; exact absurd hc auto_no) | fail)
              exact ⟨0, _, _, by omega, Ent.sub _ (by (repeat' (first | exact RSub.nil _ | apply RSub.cons)); all_goals rfl), 2, _, .inr (.inr ⟨rfl, rfl⟩), by exact auto_heap, by exact auto_heap, by exact auto_heap, (fun p y hpo hp => by
              have hp2 := hfr p y hpo hp
              exact auto_heap), rfl, rfl⟩
            · (first | focus (refine yy9 ?_; refine yy49 ?_; refine aw_condp rfl (fun hc => ?_) (fun hc => ?_); refine yy13 ?_; refine yy73 ?_; (apply awt_s; · exact s_move (v := .sls _ _) rfl); (apply awt_s; · exact s_move (v := .raw _) rfl); (apply awt_s; · exact s_indexAddr_sls rfl rfl auto_len); (apply awt_s; · exact s_load_pce rfl auto_idx); (apply awt_s; · exact s_notb rfl); (apply awt_s; · exact s_move (v := .raw _) rfl); refine yy64 ?_; refine yy64 ?_; refine yy64 ?_; (apply awt_s; · exact s_pick_f (v := .raw _) rfl rfl); refine yy77 ?_; refine aw_cond_f rfl ?_; refine yy39 ?_; refine yy22 ?_; rotate_left; exact absurd hc auto_no) | fail)
              exact ⟨0, _, _, by omega, Ent.sub _ (by (repeat' (first | exact RSub.nil _ | apply RSub.cons)); all_goals rfl), 2, _, .inr (.inr ⟨rfl, rfl⟩), by exact auto_heap, by exact auto_heap, by exact auto_heap, (fun p y hpo hp => by
              have hp2 := hfr p y hpo hp
              exact auto_heap), rfl, rfl⟩
        · replace hc1 := Hdn.mk hc1
          replace hx := Hdn.mk hx
          (first | focus (refine yy9 ?_; refine yy49 ?_; refine yy34 ?_; intro hc; refine yy76 ?_; refine yy83 ?_; refine yy41 ?_; refine yy33 ?_; rotate_left) | fail)
          exact ⟨.inl rfl, _, _, _, (Ent.gc (Sub.set auto_heap (fun p y hpo hp => by
              have hp2 := hfr p y hpo hp
              exact auto_heap))).trans (Ent.weakReg 6 rfl (W.of rfl)), ret_2 rfl (rv1_tmp rfl) (rv1_tmp rfl), rfl, rfl⟩
      rw [if_neg g4] at hx
      replace g4 := Hdq.mk g4
      have hx2 := Hdn.mk hx
      clear hx
      (first | focus (refine yy54 ?_; refine yy70 ?_; refine yy65 ?_; refine yy30 ?_; intro hc; refine yy126 ?_; refine yy29 ?_; intro hc; refine yy29 ?_; intro hc; refine yy29 ?_; intro hc; refine yy30 ?_; intro hc; refine yy39 ?_; refine yy15 ?_; refine yy15 ?_; refine yy38 ?_; refine yy71 ?_; rotate_left) | fail)
      refine aw_loop (fun mm R4 H4 => ∃ (i : Nat) (x : List Stp1) (y : Bool) (cc : Ck), i ≤ acc.length ∧ x.length ≤ (varsN n).length + 2 ∧ Hdn (clockR (acc.drop i) (x, y) at_ cc = ((x1, x2), x3)) ∧ H4 oE = some (.cel [.str op, .str nm, avI nn, avI at_, .sls ks.length (exL ks)]) ∧ H4 oP = some (.cel [.str n.name, .sls n.ins.length (vrL n.ins), .sls n.outs.length (vrL n.outs), .sls n.locs.length (vrL n.locs), .sls n.eqs.length (eqL n.eqs), avI n.at_]) ∧ H4 o = some (.cel (ckA cc)) ∧ (∀ p y, p ≠ o → H p = some y → H4 p = some y) ∧ R4 = [(0, .ptr o 0), (4, .ptr oP 0), (5, .ptr oE 0), (8, .sls acc.length (clA acc)), (9, .sls acc.length (cbA acc)), (16, stA x), (17, avB y), (18, avI i)] ∧ acc.length - i = mm) ?_ ?_
      · exact ⟨_, [(0, .ptr o 0), (4, .ptr oP 0), (5, .ptr oE 0), (8, .sls acc.length (clA acc)), (9, .sls acc.length (cbA acc)), (16, stA []), (17, avB true), (18, avI 0)], _, Ent.tow (by (repeat' (first | exact RSubW.nil _ | apply RSubW.cons)); all_goals (first | exact W.of rfl | exact W.nils rfl)) rfl, 0, [], true, c', Nat.zero_le _, Nat.zero_le _, hx2, q1, q2, q3, hfr, rfl, rfl⟩
      clear hx2 q1 q2 q3 hfr
      rintro mm R4 H4 ⟨i, x, y, cc, hi, hxl, hx, q1, q2, q3, hfr, rfl, rfl⟩
      by_cases hlt : i < acc.length
      · have hg : acc[i]? = some acc[i] := List.getElem?_eq_getElem hlt
        have hd : acc.drop i = acc[i] :: acc.drop (i + 1) := List.drop_eq_getElem_cons hlt
        have hm := hlz _ (List.getElem_mem hlt)
        rw [hd, clockR] at hx
        generalize acc[i] = a at *
        obtain ⟨a, b⟩ := a
        have ga : (clA acc)[i * 1]? = some (stA a) := map_get hg
        have gb : (cbA acc)[i * 1]? = some (avB b) := map_get hg
        simp only at hx hm
        have cs := fun H => SameClock_calls H x a (by omega) (by omega)
        clear hg hd hlz hok g1 g1b g2 g3 g4 hko cf hla hlb
        cases b
        · simp only [Bool.false_eq_true, if_false] at hx
          cases y
          · simp only [Bool.false_eq_true, if_false] at hx
            by_cases hxa : x = a
            · rw [if_pos hxa] at hx
              rw [decide_eq_true hxa] at cs
              replace hxa := Hdn.mk hxa
              (first | focus (refine yy45 ?_; refine aw_condp rfl (fun hc => ?_) (fun hc => ?_); refine yy13 ?_; refine yy38 ?_; refine yy27 ?_; refine yy47 ?_; refine yy43 ?_; refine yy25 ?_; refine yy19 ?_; refine yy81 ?_; refine yy76 ?_; refine yy27 ?_; refine yy47 ?_; refine yy43 ?_; (refine zc auto_wl (cs _) ?_; rintro r H' ⟨rfl, rfl⟩); refine yy52 ?_; refine yy81 ?_; refine yy39 ?_; refine yy22 ?_; rotate_left; exact absurd hc auto_no) | fail)
              exact ⟨acc.length - (i + 1), _, _, by omega, Ent.sub _ (by (repeat' (first | exact RSub.nil _ | apply RSub.cons)); all_goals rfl), i + 1, x, false, cc, by omega, hxl, hx, q1, q2, q3, hfr, rfl, rfl⟩
            · rw [if_neg hxa] at hx
              rw [decide_eq_false hxa] at cs
              replace hxa := Hdn.mk hxa
              (first | focus (refine yy45 ?_; refine aw_condp rfl (fun hc => ?_) (fun hc => ?_); refine yy13 ?_; refine yy38 ?_; refine yy27 ?_; refine yy47 ?_; refine yy43 ?_; refine yy25 ?_; refine yy19 ?_; refine yy81 ?_; refine yy76 ?_; refine yy27 ?_; refine yy47 ?_; refine yy43 ?_; (refine zc auto_wl (cs _) ?_; rintro r H' ⟨rfl, rfl⟩); refine yy104 ?_; refine yy67 ?_; refine yy10 ?_; (refine zc auto_wl (ce _ _ auto_heap) ?_; rintro r H' ⟨rfl, rfl⟩); refine yy48 ?_; refine yy22 ?_; rotate_left; exact absurd hc auto_no) | fail)
              exact ⟨acc.length - (i + 1), _, _, by omega, Ent.sub _ (by (repeat' (first | exact RSub.nil _ | apply RSub.cons)); all_goals rfl), i + 1, x, false, _, by omega, hxl, hx, by exact auto_heap, by exact auto_heap, by exact auto_heap, (fun p y hpo hp => by
              have hp2 := hfr p y hpo hp
              exact auto_heap), rfl, rfl⟩
          · simp only [if_true] at hx
            (first | focus (refine yy45 ?_; refine aw_condp rfl (fun hc => ?_) (fun hc => ?_); refine yy13 ?_; refine yy38 ?_; refine yy27 ?_; refine yy47 ?_; refine yy43 ?_; refine yy25 ?_; refine yy19 ?_; refine yy122 ?_; refine yy107 ?_; refine yy47 ?_; refine yy43 ?_; refine yy83 ?_; refine yy14 ?_; refine yy22 ?_; rotate_left; exact absurd hc auto_no) | fail)
            exact ⟨acc.length - (i + 1), _, _, by omega, Ent.sub _ (by (repeat' (first | exact RSub.nil _ | apply RSub.cons)); all_goals rfl), i + 1, a, false, cc, by omega, hm, hx, q1, q2, q3, hfr, rfl, rfl⟩
        · simp only [if_true] at hx
          (first | focus (refine yy45 ?_; refine aw_condp rfl (fun hc => ?_) (fun hc => ?_); refine yy13 ?_; refine yy38 ?_; refine yy27 ?_; refine yy47 ?_; refine yy43 ?_; refine yy122 ?_; refine aw_exit ?_; refine yy134 ?_; refine yy22 ?_; rotate_left; exact absurd hc auto_no) | fail)
          exact ⟨acc.length - (i + 1), _, _, by omega, Ent.sub _ (by (repeat' (first | exact RSub.nil _ | apply RSub.cons)); all_goals rfl), i + 1, x, y, cc, by omega, hxl, hx, q1, q2, q3, hfr, rfl, rfl⟩
      · obtain rfl : i = acc.length := by omega
        have hx2 := hx.out
        rw [List.drop_length, clockR] at hx2
        simp only [Prod.mk.injEq] at hx2
        obtain ⟨⟨rfl, rfl⟩, rfl⟩ := hx2
        clear hx
        (first | focus (refine yy45 ?_; refine yy34 ?_; intro hc; refine yy76 ?_; refine yy7 ?_; refine yy83 ?_; refine yy41 ?_; rotate_left) | fail)
        exact ⟨.inl rfl, _, _, _, (Ent.gc (Sub.set auto_heap (fun p y hpo hp => by
              have hp2 := hfr p y hpo hp
              exact auto_heap))).trans (Ent.weakReg 6 rfl (W.of rfl)), ret_2 rfl (rv1_tmp rfl) (rv1_tmp rfl), rfl, rfl⟩
end Go.Proofs.Ytmgkhfnhaeplgaa

namespace Go.Proofs.Ytmgkhfnhaeplgaa
open Go Go.Am Go.Proofs
set_option linter.unusedSimpArgs false
set_option linter.unusedVariables false
set_option maxRecDepth 20000
set_option maxHeartbeats 8000000

/-! Clocks. -/
theorem Clocks_calls (H : AHeap) (l : List Nd) (hl : l.length ≤ 2000000) (hok : ∀ n ∈ l, NdOk n) (hex : ∀ n ∈ l, ∀ q ∈ n.eqs, exOk l q.e) (hon : ∀ n ∈ l, OnOk n) : ACalls Try.prog 24 [ndsA l] H fun r H' => r = .agg (ckA (clocks l)) ∧ H' = H := by
  have hvl := nd_len l
  unfold clocks
  generalize hZ : clocksN l (0, 0) = Z
  replace hZ := Hdn.mk hZ
  refine acalls_of_aw1 Try.func24 rfl (by decide) ?_
  (first | focus (refine yy2 ?_; refine awl_alloc rfl rfl rfl (fun oN hoN => ?_); refine yy16 ?_; refine yy20 ?_; refine zb1 rfl rfl rfl (fun oN hoN => ?_); refine awl_s rfl (s_assign (v := .ptr _ _) rfl) ?_; refine yy42 ?_; refine yy71 ?_; rotate_left) | fail)
  rename_i oR hoR
  obtain ⟨oC, hoCe⟩ : ∃ x, x = oN := ⟨_, rfl⟩
  subst hoCe
  have hC0 : H oC = none := by (first | assumption | exact AHeap.none_of_set ((by assumption)) | exact AHeap.none_of_set (AHeap.none_of_set ((by assumption))) | exact AHeap.none_of_set (AHeap.none_of_set (AHeap.none_of_set ((by assumption)))) | exact AHeap.none_of_set (AHeap.none_of_set (AHeap.none_of_set (AHeap.none_of_set ((by assumption))))) | exact AHeap.none_of_set (AHeap.none_of_set (AHeap.none_of_set (AHeap.none_of_set (AHeap.none_of_set ((by assumption)))))) | exact AHeap.none_of_set (AHeap.none_of_set (AHeap.none_of_set (AHeap.none_of_set (AHeap.none_of_set (AHeap.none_of_set ((by assumption))))))) | exact AHeap.none_of_set (AHeap.none_of_set (AHeap.none_of_set (AHeap.none_of_set (AHeap.none_of_set (AHeap.none_of_set (AHeap.none_of_set ((by assumption)))))))) | exact AHeap.none_of_set (AHeap.none_of_set (AHeap.none_of_set (AHeap.none_of_set (AHeap.none_of_set (AHeap.none_of_set (AHeap.none_of_set (AHeap.none_of_set ((by assumption))))))))) | exact AHeap.none_of_set (AHeap.none_of_set (AHeap.none_of_set (AHeap.none_of_set (AHeap.none_of_set (AHeap.none_of_set (AHeap.none_of_set (AHeap.none_of_set (AHeap.none_of_set ((by assumption)))))))))) | exact AHeap.none_of_set (AHeap.none_of_set (AHeap.none_of_set (AHeap.none_of_set (AHeap.none_of_set (AHeap.none_of_set (AHeap.none_of_set (AHeap.none_of_set (AHeap.none_of_set (AHeap.none_of_set ((by assumption))))))))))))
  have hCR : oC ≠ oR := by (first | assumption | exact Ne.symm (by assumption) | exact AHeap.ne_of_fresh (by assumption) | exact Ne.symm (AHeap.ne_of_fresh (by assumption)) | exact AHeap.ne_of_fresh (AHeap.none_of_set (by assumption)) | exact Ne.symm (AHeap.ne_of_fresh (AHeap.none_of_set (by assumption))) | exact AHeap.ne_ns (by assumption) (by assumption) | exact AHeap.ne_sn (by assumption) (by assumption) | exact AHeap.ne_ns (by assumption) auto_heap2 | exact AHeap.ne_sn (by assumption) auto_heap2)
  refine aw_loop (fun mm R1 H1 => ∃ (i : Nat) (c : Ck), i ≤ l.length ∧ Hdn (clocksN (l.drop i) c = Z) ∧ H1 oC = some (.cel (ckA c)) ∧ H1 oR = some (.cel ckZ) ∧ (∀ p y, H p = some y → H1 p = some y) ∧ R1 = [(0, ndsA l), (2, .ptr oR 0), (3, .ptr oC 0), (4, avI i)] ∧ l.length - i = mm) ?_ ?_
  · exact ⟨_, _, _, Ent.sub _ (by (repeat' (first | exact RSub.nil _ | apply RSub.cons)); all_goals rfl), 0, (0, 0), Nat.zero_le _, hZ, by exact auto_heap, by exact auto_heap, fun p y hp => auto_heap, rfl, rfl⟩
  clear hZ hoN
  rintro mm R1 H1 ⟨i, c, hi, hZ, q1, q2, hfr, rfl, rfl⟩
  by_cases hlt : i < l.length
  · have hg : l[i]? = some l[i] := List.getElem?_eq_getElem hlt
    have hd : l.drop i = l[i] :: l.drop (i + 1) := List.drop_eq_getElem_cons hlt
    have hn := hok _ (List.getElem_mem hlt)
    have hx := hex _ (List.getElem_mem hlt)
    have ho := hon _ (List.getElem_mem hlt)
    rw [hd, clocksN] at hZ
    generalize l[i] = n at *
    have hseg : List.take 6 (List.drop (i * 6) (ndL l)) = [.str n.name, .sls n.ins.length (vrL n.ins), .sls n.outs.length (vrL n.outs), .sls n.locs.length (vrL n.locs), .sls n.eqs.length (eqL n.eqs), avI n.at_] := nd_get hg
    clear hg hd
    have heq := eq_len n.eqs
    have hbq := hn.q
    have hlv := varsN_len hn
    generalize hZ4 : clocksQ n n.eqs c = Zq at *
    replace hZ4 := Hdn.mk hZ4
    (first | focus (refine yy45 ?_; refine aw_condp rfl (fun hc => ?_) (fun hc => ?_); refine yy13 ?_; refine yy76 ?_; refine yy47 ?_; refine yy101 ?_; refine awl_alloc rfl rfl rfl (fun oN hoN => ?_); refine yy11 ?_; refine yy4 ?_; refine yy15 ?_; refine aw_block ?_; rotate_left; exact absurd hc auto_no) | fail)
    obtain ⟨oX, hoXe⟩ : ∃ x, x = oN := ⟨_, rfl⟩
    subst hoXe
    have hX0 : H oX = none := by
      cases e : H oX with
      | none => rfl
      | some y => rw [hfr _ _ e] at hoN; cases hoN
    have hXC : oX ≠ oC := fun e => by rw [e, q1] at hoN; cases hoN
    have hXR : oX ≠ oR := fun e => by rw [e, q2] at hoN; cases hoN
    refine aw_loop (fun mm R3 H3 => ∃ (k : Nat) (c : Ck), k ≤ n.eqs.length ∧ Hdn (clocksQ n (n.eqs.drop k) c = Zq) ∧ H3 oC = some (.cel (ckA c)) ∧ H3 oR = some (.cel ckZ) ∧ H3 oX = some (.cel [.str n.name, .sls n.ins.length (vrL n.ins), .sls n.outs.length (vrL n.outs), .sls n.locs.length (vrL n.locs), .sls n.eqs.length (eqL n.eqs), avI n.at_]) ∧ (∀ p y, H p = some y → H3 p = some y) ∧ R3 = [(0, ndsA l), (2, .ptr oR 0), (3, .ptr oC 0), (4, avI i), (5, .ptr oX 0), (6, avI k)] ∧ n.eqs.length - k = mm) ?_ ?_
    · exact ⟨_, _, _, Ent.sub _ (by (repeat' (first | exact RSub.nil _ | apply RSub.cons)); all_goals rfl), 0, c, Nat.zero_le _, hZ4, by exact auto_heap, by exact auto_heap, by exact auto_heap, (fun p y hp => by
          have hp2 := hfr p y hp
          have hp4 : p ≠ oX := fun e => by rw [e, hX0] at hp; cases hp
          exact auto_heap), rfl, rfl⟩
    clear hZ4 q1 q2 hfr c hoN hseg
    rintro mm R3 H3 ⟨k, c, hk, hZ4, q1, q2, q3, hfr, rfl, rfl⟩
    by_cases hkt : k < n.eqs.length
    · have hg : n.eqs[k]? = some n.eqs[k] := List.getElem?_eq_getElem hkt
      have hd : n.eqs.drop k = n.eqs[k] :: n.eqs.drop (k + 1) := List.drop_eq_getElem_cons hkt
      have hbx := hn.e _ (List.getElem_mem hkt)
      have hxo := hx _ (List.getElem_mem hkt)
      rw [hd, clocksQ] at hZ4
      generalize n.eqs[k] = x at *
      have hsq : List.take 7 (List.drop (k * 7) (eqL n.eqs)) = [.str x.name, .str x.e.op, .str x.e.name, avI x.e.n, avI x.e.at_, .sls x.e.kids.length (exL x.e.kids), avI x.at_] := eq_get hg
      have hsE : List.take 5 (List.drop (k * 7 + 1) (eqL n.eqs)) = x.e.cells := seg_sub hsq 1 5 (by decide)
      have y0 := eq_at hg (j := 0) (by decide) rfl
      have y6 := eq_at hg (j := 6) (by decide) rfl
      clear hg hd hsq
      have cco := fun H => ClockOf_calls H n x.name hn.i hn.o hn.l ho
      have hco := clockOf_len n x.name
      have ck := fun H h => clock_calls (o := oC) l n hn.i hn.o hn.l ho _ x.e H c (Nat.le_refl _) hbx hxo h
      have hck := clockE_len n c x.e
      generalize clockOf n x.name = own at *
      generalize clockE n c x.e = kv at *
      obtain ⟨⟨kx, ka⟩, c1⟩ := kv
      simp only at hZ4 ck hck
      have cs := fun H => SameClock_calls H kx own (by omega) (by omega)
      have cf := fun H h => fail_calls6 (o := oC) H c1 10 x.at_ h
      generalize failC c1 10 x.at_ = c2 at *
      cases ka
      · by_cases hk1 : kx = own
        · rw [if_neg (fun h => h.2 hk1)] at hZ4
          rw [decide_eq_true hk1] at cs
          replace hk1 := Hdn.mk hk1
          (first | focus (refine yy93 ?_; refine yy89 ?_; refine aw_condp rfl (fun hc => ?_) (fun hc => ?_); refine yy13 ?_; refine aw_seq ?_; (apply aw_split2 true; (· (repeat' (first | exact spl2_call | apply spl2_cons))); (· exact auto_kr); (· exact auto_dk); (· exact auto_dk)); (apply awm_s; · (intro H1; exact s_move (v := .ptr _ _) rfl)); (apply awm_e auto_dk; (· exact s_load_agg rfl auto_heap rfl rfl (by first | decide | exact Nat.le_of_ble_eq_true rfl))); (apply awm_s; · (intro H1; exact s_fieldAddr_ptr rfl)); (apply awm_e auto_dk; (· exact s_load_cel rfl auto_heap rfl)); (apply awm_s; · (intro H1; exact s_move (v := .raw _) rfl)); (apply awm_s; · (intro H1; exact s_indexAddr_sls rfl rfl auto_len)); (apply awm_s; · (intro H1; exact s_fieldAddr_pce rfl)); (apply awm_s; · (intro H1; exact s_load_pce_agg rfl (by assumption) (by rfl) (by decide))); refine awm_b ?_; refine awm_nil ?_; refine awb_cons (fun Rx K1 hK1x => ?_); (refine zc auto_wl (ck _ auto_heap) ?_; rintro r H' ⟨rfl, rfl⟩); refine yy61 ?_; (refine hK1x _ _ ?_; clear hK1x K1 Rx); refine awb_nil ?_; refine k_seq_normal ?_; refine any_draw0 auto_kr ?_; (apply awt_s; · exact s_move (v := .tup _) rfl); (apply awt_s; · exact s_extract rfl rfl); (apply awt_s; · exact s_extract rfl rfl); (apply awt_s; · exact s_assign (v := .sls _ _) rfl); (apply awt_s; · exact s_assign (v := .raw _) rfl); refine awt_nil ?_; refine k_seq_normal ?_; refine yy73 ?_; (apply awt_s; · exact s_move (v := .raw _) rfl); (apply awt_s; · exact s_notb rfl); (apply awt_s; · exact s_move (v := .raw _) rfl); refine yy3 ?_; (apply awt_s; · exact s_move (v := .sls _ _) rfl); refine yy3 ?_; (apply awt_s; · exact s_load_agg rfl auto_heap rfl rfl (by first | decide | exact Nat.le_of_ble_eq_true rfl)); refine yy3 ?_; (apply awt_s; · exact s_fieldAddr_ptr rfl); refine yy3 ?_; (apply awt_s; · exact s_load_cel rfl auto_heap rfl); refine yy3 ?_; (apply awt_s; · exact s_move (v := .raw _) rfl); refine yy3 ?_; (apply awt_s; · exact s_indexAddr_sls rfl rfl auto_len); refine yy3 ?_; (apply awt_s; · exact s_fieldAddr_pce rfl); refine yy3 ?_; (apply awt_s; · exact s_load_pce rfl auto_idx); refine yy3 ?_; rotate_left; exact absurd hc auto_no) | fail)
          (first | focus ((apply awt_s; · exact s_callc auto_wl (cco _)); refine yy3 ?_; (apply awt_s; · exact s_callc auto_wl (cs _)); refine yy3 ?_; (apply awt_s; · exact s_notb rfl); (apply awt_s; · exact s_pick_t (v := .raw _) rfl rfl); refine yy77 ?_; refine aw_cond_f rfl ?_; refine yy39 ?_; refine yy22 ?_; rotate_left) | fail)
          exact ⟨n.eqs.length - (k + 1), _, _, by omega, Ent.sub _ (by (repeat' (first | exact RSub.nil _ | apply RSub.cons)); all_goals rfl), k + 1, c1, by omega, hZ4, by exact auto_heap, by exact auto_heap, by exact auto_heap, (fun p y hp => by
              have hp2 := hfr p y hp
              have hp3 : p ≠ oC := fun e => by rw [e, hC0] at hp; cases hp
              exact auto_heap), rfl, rfl⟩
        · rw [if_pos ⟨rfl, hk1⟩] at hZ4
          rw [decide_eq_false hk1] at cs
          replace hk1 := Hdn.mk hk1
          (first | focus (refine yy93 ?_; refine yy89 ?_; refine aw_condp rfl (fun hc => ?_) (fun hc => ?_); refine yy13 ?_; refine aw_seq ?_; (apply aw_split2 true; (· (repeat' (first | exact spl2_call | apply spl2_cons))); (· exact auto_kr); (· exact auto_dk); (· exact auto_dk)); (apply awm_s; · (intro H1; exact s_move (v := .ptr _ _) rfl)); (apply awm_e auto_dk; (· exact s_load_agg rfl auto_heap rfl rfl (by first | decide | exact Nat.le_of_ble_eq_true rfl))); (apply awm_s; · (intro H1; exact s_fieldAddr_ptr rfl)); (apply awm_e auto_dk; (· exact s_load_cel rfl auto_heap rfl)); (apply awm_s; · (intro H1; exact s_move (v := .raw _) rfl)); (apply awm_s; · (intro H1; exact s_indexAddr_sls rfl rfl auto_len)); (apply awm_s; · (intro H1; exact s_fieldAddr_pce rfl)); (apply awm_s; · (intro H1; exact s_load_pce_agg rfl (by assumption) (by rfl) (by decide))); refine awm_b ?_; refine awm_nil ?_; refine awb_cons (fun Rx K1 hK1x => ?_); (refine zc auto_wl (ck _ auto_heap) ?_; rintro r H' ⟨rfl, rfl⟩); refine yy61 ?_; (refine hK1x _ _ ?_; clear hK1x K1 Rx); refine awb_nil ?_; refine k_seq_normal ?_; refine any_draw0 auto_kr ?_; (apply awt_s; · exact s_move (v := .tup _) rfl); (apply awt_s; · exact s_extract rfl rfl); (apply awt_s; · exact s_extract rfl rfl); (apply awt_s; · exact s_assign (v := .sls _ _) rfl); (apply awt_s; · exact s_assign (v := .raw _) rfl); refine awt_nil ?_; refine k_seq_normal ?_; refine yy73 ?_; (apply awt_s; · exact s_move (v := .raw _) rfl); (apply awt_s; · exact s_notb rfl); (apply awt_s; · exact s_move (v := .raw _) rfl); refine yy3 ?_; (apply awt_s; · exact s_move (v := .sls _ _) rfl); refine yy3 ?_; (apply awt_s; · exact s_load_agg rfl auto_heap rfl rfl (by first | decide | exact Nat.le_of_ble_eq_true rfl)); refine yy3 ?_; (apply awt_s; · exact s_fieldAddr_ptr rfl); refine yy3 ?_; (apply awt_s; · exact s_load_cel rfl auto_heap rfl); refine yy3 ?_; (apply awt_s; · exact s_move (v := .raw _) rfl); refine yy3 ?_; (apply awt_s; · exact s_indexAddr_sls rfl rfl auto_len); refine yy3 ?_; (apply awt_s; · exact s_fieldAddr_pce rfl); refine yy3 ?_; (apply awt_s; · exact s_load_pce rfl auto_idx); refine yy3 ?_; rotate_left; exact absurd hc auto_no) | fail)
          (first | focus ((apply awt_s; · exact s_callc auto_wl (cco _)); refine yy3 ?_; (apply awt_s; · exact s_callc auto_wl (cs _)); refine yy3 ?_; (apply awt_s; · exact s_notb rfl); (apply awt_s; · exact s_pick_t (v := .raw _) rfl rfl); refine yy77 ?_; refine aw_cond_t rfl ?_; refine yy67 ?_; refine yy10 ?_; refine yy47 ?_; refine yy118 ?_; (refine zc auto_wl (cf _ auto_heap) ?_; rintro r H' ⟨rfl, rfl⟩); refine yy48 ?_; refine yy22 ?_; rotate_left) | fail)
          exact ⟨n.eqs.length - (k + 1), _, _, by omega, Ent.sub _ (by (repeat' (first | exact RSub.nil _ | apply RSub.cons)); all_goals rfl), k + 1, c2, by omega, hZ4, by exact auto_heap, by exact auto_heap, by exact auto_heap, (fun p y hp => by
              have hp2 := hfr p y hp
              have hp3 : p ≠ oC := fun e => by rw [e, hC0] at hp; cases hp
              exact auto_heap), rfl, rfl⟩
      · rw [if_neg (fun h => by cases h.1)] at hZ4
        (first | focus (refine yy93 ?_; refine yy89 ?_; refine aw_condp rfl (fun hc => ?_) (fun hc => ?_); refine yy13 ?_; refine aw_seq ?_; (apply aw_split2 true; (· (repeat' (first | exact spl2_call | apply spl2_cons))); (· exact auto_kr); (· exact auto_dk); (· exact auto_dk)); (apply awm_s; · (intro H1; exact s_move (v := .ptr _ _) rfl)); (apply awm_e auto_dk; (· exact s_load_agg rfl auto_heap rfl rfl (by first | decide | exact Nat.le_of_ble_eq_true rfl))); (apply awm_s; · (intro H1; exact s_fieldAddr_ptr rfl)); (apply awm_e auto_dk; (· exact s_load_cel rfl auto_heap rfl)); (apply awm_s; · (intro H1; exact s_move (v := .raw _) rfl)); (apply awm_s; · (intro H1; exact s_indexAddr_sls rfl rfl auto_len)); (apply awm_s; · (intro H1; exact s_fieldAddr_pce rfl)); (apply awm_s; · (intro H1; exact s_load_pce_agg rfl (by assumption) (by rfl) (by decide))); refine awm_b ?_; refine awm_nil ?_; refine awb_cons (fun Rx K1 hK1x => ?_); (refine zc auto_wl (ck _ auto_heap) ?_; rintro r H' ⟨rfl, rfl⟩); refine yy61 ?_; (refine hK1x _ _ ?_; clear hK1x K1 Rx); refine awb_nil ?_; refine k_seq_normal ?_; refine any_draw0 auto_kr ?_; (apply awt_s; · exact s_move (v := .tup _) rfl); (apply awt_s; · exact s_extract rfl rfl); (apply awt_s; · exact s_extract rfl rfl); (apply awt_s; · exact s_assign (v := .sls _ _) rfl); (apply awt_s; · exact s_assign (v := .raw _) rfl); refine awt_nil ?_; refine k_seq_normal ?_; refine yy73 ?_; (apply awt_s; · exact s_move (v := .raw _) rfl); (apply awt_s; · exact s_notb rfl); (apply awt_s; · exact s_move (v := .raw _) rfl); refine yy64 ?_; refine yy64 ?_; refine yy131 ?_; refine zt4 rfl rfl ?_; (apply awt_s; · exact s_pick_f (v := .raw _) rfl rfl); refine yy77 ?_; refine aw_cond_f rfl ?_; refine yy39 ?_; refine yy22 ?_; rotate_left; exact absurd hc auto_no) | fail)
        (first | focus (rotate_left) | fail)
        exact ⟨n.eqs.length - (k + 1), _, _, by omega, Ent.sub _ (by (repeat' (first | exact RSub.nil _ | apply RSub.cons)); all_goals rfl), k + 1, c1, by omega, hZ4, by exact auto_heap, by exact auto_heap, by exact auto_heap, (fun p y hp => by
              have hp2 := hfr p y hp
              have hp3 : p ≠ oC := fun e => by rw [e, hC0] at hp; cases hp
              exact auto_heap), rfl, rfl⟩
    · obtain rfl : k = n.eqs.length := by omega
      have hZ3 : c = Zq := by rw [← hZ4.out, List.drop_length, clocksQ]
      subst hZ3
      clear hZ4
      (first | focus (refine yy93 ?_; refine yy89 ?_; refine yy90 ?_; intro hc; refine aw_exit ?_; refine k_seq_exit ?_; refine k_seq_exit ?_; refine k_block_eq ?_; refine yy100 ?_; refine yy22 ?_; rotate_left) | fail)
      all_goals exact ⟨l.length - (i + 1), _, _, by omega, Ent.sub _ (by (repeat' (first | exact RSub.nil _ | apply RSub.cons)); all_goals rfl), i + 1, c, by omega, hZ, q1, q2, hfr, rfl, rfl⟩
  · obtain rfl : i = l.length := by omega
    have hZ2 := hZ.out
    rw [List.drop_length, clocksN] at hZ2
    subst hZ2
    clear hZ
    (first | focus (refine yy45 ?_; refine yy34 ?_; intro hc; refine yy8 ?_; refine yy88 ?_; refine yy26 ?_; refine yy36 ?_; rotate_left) | fail)
    exact ⟨.inl rfl, _, _, _, Ent.cellRet 2 (ckA c) rfl auto_heap (by ((repeat' (first | exact WC.nil | apply WC.cons)); all_goals (first | exact W.of rfl | exact W.int rfl | exact W.nilb rfl | exact W.empb rfl | exact W.bysx rfl | exact W.nils rfl | exact W.emps rfl | exact W.slsx rfl))) (fun sp sy shp => by
      have hp2 := hfr sp sy shp
      have hp3 : sp ≠ oR := fun e => by rw [e, hoR] at shp; cases shp
      exact ⟨hp3, auto_heap⟩), ret_1 rfl (rv1_agg (m := 2) rfl rfl rfl (by decide)), rfl, rfl⟩
end Go.Proofs.Ytmgkhfnhaeplgaa

namespace Go.Proofs.Ytmgkhfnhaeplgaa
open Go Go.Am Go.Proofs
set_option linter.unusedSimpArgs false
set_option linter.unusedVariables false
set_option maxRecDepth 20000
set_option maxHeartbeats 8000000

/-! What is late. -/
end Go.Proofs.Ytmgkhfnhaeplgaa

namespace Go.Proofs.Ytmgkhfnhaeplgaa
open Go Go.Am Go.Proofs
set_option linter.unusedSimpArgs false
set_option linter.unusedVariables false
set_option maxRecDepth 20000
set_option maxHeartbeats 8000000

/-! The late names. -/
theorem nodup_len : ∀ {l m : List Bs}, l.Nodup → (∀ s ∈ l, s ∈ m) → l.length ≤ m.length
  | [], m, _, _ => Nat.zero_le _
  | x :: r, m, h, hs => by
    rw [List.nodup_cons] at h
    have hx := hs x List.mem_cons_self
    have := nodup_len (m := m.erase x) h.2 (fun s hm => (List.mem_erase_of_ne (fun e => h.1 (by rw [← e]; exact hm))).2 (hs s (List.mem_cons_of_mem _ hm)))
    rw [List.length_erase_of_mem hx] at this
    have hpos : 0 < m.length := List.length_pos_of_mem hx
    rw [List.length_cons]; omega
/-- Names of these equations, each once. -/
structure NmOk (eqs : List Eqn) (l : List Bs) : Prop where
  nd : l.Nodup
  sub : ∀ s ∈ l, s ∈ eqs.map (·.name)
theorem NmOk.len {eqs : List Eqn} {l : List Bs} (h : NmOk eqs l) : l.length ≤ eqs.length := by
  have := nodup_len h.nd h.sub
  rwa [List.length_map] at this
theorem hasB_iff {l : List Bs} {s : Bs} : hasB l s = true ↔ s ∈ l := by unfold hasB; simp
theorem NmOk.nil (eqs : List Eqn) : NmOk eqs [] := ⟨List.nodup_nil, fun s h => by cases h⟩
theorem NmOk.q {eqs : List Eqn} {l : List Bs} (h : NmOk eqs l) {q : Eqn} (hq : q ∈ eqs) : NmOk eqs (lateQ l q) := by
  unfold lateQ
  split
  · rename_i hc
    simp only [Bool.and_eq_true, Bool.not_eq_true'] at hc
    refine ⟨?_, fun s hs => ?_⟩
    · rw [List.nodup_append]
      refine ⟨h.nd, by simp, fun a ha b hb e => ?_⟩
      rw [List.mem_singleton] at hb
      subst hb
      have := hasB_iff.2 (e ▸ ha)
      rw [this] at hc
      exact absurd hc.1 (by decide)
    · rcases List.mem_append.1 hs with hs | hs
      · exact h.sub s hs
      · rw [List.mem_singleton] at hs; subst hs; exact List.mem_map_of_mem hq
  · exact h
end Go.Proofs.Ytmgkhfnhaeplgaa

namespace Go.Proofs.Ytmgkhfnhaeplgaa
open Go Go.Am Go.Proofs
set_option linter.unusedSimpArgs false
set_option linter.unusedVariables false
set_option maxRecDepth 20000
set_option maxHeartbeats 8000000

/-! What is used ahead of its being there: of an expression. -/
end Go.Proofs.Ytmgkhfnhaeplgaa

namespace Go.Proofs.Ytmgkhfnhaeplgaa
open Go Go.Am Go.Proofs
set_option linter.unusedSimpArgs false
set_option linter.unusedVariables false
set_option maxRecDepth 20000
set_option maxHeartbeats 8000000

/-! What is used ahead of its being there: Inits. -/
end Go.Proofs.Ytmgkhfnhaeplgaa

namespace Go.Proofs.Ytmgkhfnhaeplgaa
open Go Go.Am Go.Proofs
set_option linter.unusedSimpArgs false
set_option linter.unusedVariables false
set_option maxRecDepth 20000
set_option maxHeartbeats 8000000

/-! The program: what is late. -/
def setA (l : List Bs) : MS := l.map fun s => (s, avB true)
theorem setA_get (l : List Bs) (s : Bs) : (MS.get (setA l) s).getD (.raw (.bool false)) = avB (hasB l s) := by
  induction l with
  | nil => rfl
  | cons x l ih =>
    show (MS.get ((x, avB true) :: setA l) s).getD _ = _
    rw [MS.get]
    unfold hasB
    rw [List.any_cons]
    by_cases h : x = s
    · rw [if_pos h]; simp [h]
    · rw [if_neg h]; simp only [h, decide_false, Bool.false_or]; exact ih
theorem setA_put {l : List Bs} {s : Bs} (h : hasB l s = false) : MS.put (setA l) s (avB true) = setA (l ++ [s]) := by
  induction l with
  | nil => rfl
  | cons x l ih =>
    unfold hasB at h
    rw [List.any_cons, Bool.or_eq_false_iff] at h
    have hx : ¬ x = s := by simpa using h.1
    show MS.put ((x, avB true) :: setA l) s (avB true) = (x, avB true) :: setA (l ++ [s])
    rw [MS.put, if_neg hx, ih h.2]
def idxF {α : Type} (p : α → Bool) : List α → Nat → Int
  | [], _ => -1
  | x :: l, i => if p x then (i : Int) else idxF p l (i + 1)
theorem idxF_any {α : Type} (p : α → Bool) : ∀ (l : List α) (i : Nat), decide (0 ≤ idxF p l i) = l.any p
  | [], i => rfl
  | x :: l, i => by
    unfold idxF
    rw [List.any_cons]
    cases h : p x
    · rw [if_neg (by decide), Bool.false_or]; exact idxF_any p l (i + 1)
    · rw [if_pos rfl, Bool.true_or, decide_eq_true (by omega)]
theorem lateL_any (p : Bs → Bool) : ∀ ks : List Ex, lateL p ks = ks.any (lateE p)
  | [] => rfl
  | e :: l => by rw [lateL, List.any_cons, lateL_any p l]
theorem IndexFuncE_calls {om : Nat} (H : AHeap) (ks : List Ex) (p : Ex → Bool) (hl : ks.length ≤ 2000000) (hp : ∀ e ∈ ks, ACalls Try.prog 37 [.mp om, exA e] H fun r H' => r = avB (p e) ∧ H' = H) :
    ACalls Try.prog 77 [.sls ks.length (exL ks), .fnc (.func 37) [.mp om] []] H fun r H' => r = avI (idxF p ks 0) ∧ H' = H := by
  have hml := exL_len ks
  generalize hZ : idxF p ks 0 = Z
  replace hZ := Hdn.mk hZ
  refine acalls_of_aw2 Try.func77 rfl (by decide) ?_
  (first | focus (refine yy15 ?_; refine yy38 ?_; refine yy27 ?_; refine yy115 ?_; refine yy7 ?_; refine yy70 ?_; rotate_left) | fail)
  refine aw_loop (fun mm R1 H1 => ∃ (i : Nat), i ≤ ks.length ∧ Hdn (idxF p (ks.drop i) i = Z) ∧ H1 = H ∧ R1 = [(0, .sls ks.length (exL ks)), (1, .fnc (.func 37) [.mp om] []), (7, avI ks.length), (8, avI i)] ∧ ks.length - i = mm) ?_ ?_
  · exact ⟨_, _, _, Ent.sub _ (by (repeat' (first | exact RSub.nil _ | apply RSub.cons)); all_goals rfl), 0, Nat.zero_le _, hZ, rfl, rfl, rfl⟩
  clear hZ
  rintro mm R1 H1 ⟨i, hi, hZ, rfl, rfl, rfl⟩
  by_cases hlt : i < ks.length
  · have hg : ks[i]? = some ks[i] := List.getElem?_eq_getElem hlt
    have hd : ks.drop i = ks[i] :: ks.drop (i + 1) := List.drop_eq_getElem_cons hlt
    have hseg := exL_get hg
    have cp := hp _ (List.getElem_mem hlt)
    rw [hd, idxF] at hZ
    generalize ks[i] = k at *
    generalize p k = b at *
    clear hg hd hp
    cases b
    · rw [if_neg (by decide)] at hZ
      (first | focus (refine yy94 ?_; refine aw_condp rfl (fun hc => ?_) (fun hc => ?_); refine yy13 ?_; refine yy19 ?_; refine yy6 ?_; refine yy2 ?_; refine awl_s rfl (s_move (v := .fnc _ _ _) rfl) ?_; refine yy27 ?_; refine yy47 ?_; refine yy101 ?_; (((refine awl_callcvf rfl rfl auto_wl (cp) (fun r H' hpost => ?_); obtain ⟨rfl, rfl⟩ := hpost))); refine yy81 ?_; refine yy39 ?_; refine yy32 ?_; refine yy109 ?_; refine yy7 ?_; refine yy4 ?_; rotate_left; exact absurd hc auto_no) | fail)
      exact ⟨ks.length - (i + 1), _, _, by omega, Ent.sub _ (by (repeat' (first | exact RSub.nil _ | apply RSub.cons)); all_goals rfl), i + 1, by omega, hZ, rfl, rfl, rfl⟩
    · rw [if_pos rfl] at hZ
      obtain rfl : Z = (i : Int) := hZ.out.symm
      (first | focus (refine yy94 ?_; refine aw_condp rfl (fun hc => ?_) (fun hc => ?_); refine yy13 ?_; refine yy19 ?_; refine yy6 ?_; refine yy2 ?_; refine awl_s rfl (s_move (v := .fnc _ _ _) rfl) ?_; refine yy27 ?_; refine yy47 ?_; refine yy101 ?_; (((refine awl_callcvf rfl rfl auto_wl (cp) (fun r H' hpost => ?_); obtain ⟨rfl, rfl⟩ := hpost))); refine yy122 ?_; refine yy19 ?_; refine yy41 ?_; refine yy33 ?_; refine yy102 ?_; rotate_left; exact absurd hc auto_no) | fail)
      exact ⟨.inl rfl, _, _, _, Ent.refl _ _, ret1 rfl rfl, rfl, rfl⟩
  · obtain rfl : i = ks.length := by omega
    have hZ2 := hZ.out
    rw [List.drop_length, idxF] at hZ2
    subst hZ2
    (first | focus (refine yy94 ?_; refine yy34 ?_; intro hc; refine yy92 ?_; rotate_left) | fail)
    exact ⟨.inl rfl, _, _, _, Ent.refl _ _, ret1 rfl rfl, rfl, rfl⟩
theorem ContainsFuncE_calls {om : Nat} (H : AHeap) (ks : List Ex) (p : Ex → Bool) (hl : ks.length ≤ 2000000) (hp : ∀ e ∈ ks, ACalls Try.prog 37 [.mp om, exA e] H fun r H' => r = avB (p e) ∧ H' = H) :
    ACalls Try.prog 72 [.sls ks.length (exL ks), .fnc (.func 37) [.mp om] []] H fun r H' => r = avB (ks.any p) ∧ H' = H := by
  have ci := IndexFuncE_calls H ks p hl hp
  have hz := idxF_any p ks 0
  generalize idxF p ks 0 = z at *
  rw [← hz]
  clear hp hz
  refine acalls_of_aw2 Try.func72 rfl (by decide) ?_
  (first | focus (refine yy15 ?_; refine yy76 ?_; refine awl_s rfl (s_move (v := .fnc _ _ _) rfl) ?_; (refine zc auto_wl (ci) ?_; rintro r H' ⟨rfl, rfl⟩); refine awl_s rfl (s_geq rfl rfl) ?_; refine yy41 ?_; rotate_left) | fail)
  exact ⟨.inl rfl, _, _, _, Ent.refl _ _, ret1 rfl rfl, rfl, rfl⟩
theorem any_calls {om : Nat} (H : AHeap) (ks : List Ex) (p : Ex → Bool) (hl : ks.length ≤ 2000000) (hp : ∀ e ∈ ks, ACalls Try.prog 37 [.mp om, exA e] H fun r H' => r = avB (p e) ∧ H' = H) : ACalls Try.prog 57 [.mp om, .sls ks.length (exL ks)] H fun r H' => r = avB (ks.any p) ∧ H' = H := by
  have cc := ContainsFuncE_calls H ks p hl hp
  generalize ks.any p = b at *
  clear hp
  refine acalls_of_aw2 Try.func57 rfl (by decide) ?_
  (first | focus (refine yy15 ?_; refine yy76 ?_; refine yy95 ?_; refine awl_s rfl (s_makeFuncV rfl rfl) ?_; (refine zc auto_wl (cc) ?_; rintro r H' ⟨rfl, rfl⟩); refine yy41 ?_; rotate_left) | fail)
  exact ⟨.inl rfl, _, _, _, Ent.refl _ _, ret1 rfl rfl, rfl, rfl⟩
theorem plate_calls {om : Nat} (l : List Bs) (m : Nat) : ∀ (e : Ex) (H : AHeap), exSz e ≤ m → exSz e ≤ 2000000 → H om = some (setA l).ao →
    ACalls Try.prog 37 [.mp om, exA e] H fun r H' => r = avB (lateE (hasB l) e) ∧ H' = H := by
  induction m with
  | zero => intro e H h; rw [exSz_eq] at h; omega
  | succ m ih =>
    intro e H h hb hH
    obtain ⟨op, nm, nn, at_, ks⟩ := e
    rw [exSz_eq] at h hb
    unfold lateE
    simp only [Ex.kids, Ex.op, Ex.name, Ex.n, Ex.at_] at *
    show ACalls Try.prog _ [.mp om, .agg [.str op, .str nm, avI nn, avI at_, .sls ks.length (exL ks)]] H _
    have hml := exL_len ks
    have hkl : ks.length ≤ exSzL ks := by
      clear hml h hb
      induction ks with
      | nil => exact Nat.zero_le _
      | cons x l ih => rw [exSzL, List.length_cons]; have := exSz_eq x; omega
    have hsg := setA_get l nm
    rw [lateL_any]
    have hp : ∀ (H2 : AHeap), H2 om = some (setA l).ao → ∀ e ∈ ks, ACalls Try.prog 37 [.mp om, exA e] H2 fun r H' => r = avB (lateE (hasB l) e) ∧ H' = H2 := fun H2 h2 e he => ih e H2 (by have := exSz_mem he; omega) (by have := exSz_mem he; omega) h2
    have ca := fun H2 h2 => any_calls H2 ks (lateE (hasB l)) (by omega) (hp H2 h2)
    clear hp ih
    generalize hx : (if op = ([118, 97, 114] : Bs) then hasB l nm else if op = ([112, 114, 101] : Bs) then true else if op = ([45, 62] : Bs) ∨ op = ([102, 98, 121] : Bs) ∨ op = ([109, 101, 114, 103, 101] : Bs) ∨ op = ([99, 97, 108, 108] : Bs) ∨ op = ([105, 110, 116] : Bs) ∨ op = ([98, 111, 111, 108] : Bs) then false else ks.any (lateE (hasB l))) = X
    refine acalls_of_aw2 Try.func37 rfl (by decide) ?_
    by_cases g1 : op = ([118, 97, 114] : Bs)
    · rw [if_pos g1] at hx
      subst g1
      rw [hx] at hsg
      (first | focus (refine yy2 ?_; refine zb1 rfl rfl rfl (fun oN hoN => ?_); refine yy6 ?_; refine yy54 ?_; refine yy70 ?_; refine yy75 ?_; refine yy1 ?_; intro hc; refine aw_condp rfl (fun hc => ?_) (fun hc => ?_); refine yy2 ?_; refine yy95 ?_; refine yy10 ?_; refine yy138 ?_; refine yy41 ?_; refine yy33 ?_; rotate_left; exact absurd hc auto_no) | fail)
      exact ⟨.inl rfl, _, _, _, Ent.gc auto_sub, ret1 rfl rfl, rfl, rfl⟩
    rw [if_neg g1] at hx
    replace g1 := Hdq.mk g1
    by_cases g2 : op = ([112, 114, 101] : Bs)
    · rw [if_pos g2] at hx
      subst g2
      subst hx
      (first | focus (refine yy2 ?_; refine zb1 rfl rfl rfl (fun oN hoN => ?_); refine yy6 ?_; refine yy54 ?_; refine yy70 ?_; refine yy75 ?_; refine aw_condp rfl (fun hc => ?_) (fun hc => ?_); refine yy92 ?_; refine yy33 ?_; rotate_left; exact absurd hc auto_no) | fail)
      exact ⟨.inl rfl, _, _, _, Ent.gc auto_sub, ret1 rfl rfl, rfl, rfl⟩
    rw [if_neg g2] at hx
    replace g2 := Hdq.mk g2
    by_cases g3 : op = ([45, 62] : Bs) ∨ op = ([102, 98, 121] : Bs) ∨ op = ([109, 101, 114, 103, 101] : Bs) ∨ op = ([99, 97, 108, 108] : Bs) ∨ op = ([105, 110, 116] : Bs) ∨ op = ([98, 111, 111, 108] : Bs)
    · rw [if_pos g3] at hx
      subst hx
      rcases g3 with rfl | rfl | rfl | rfl | rfl | rfl
      all_goals (
        (first | focus (refine yy2 ?_; refine zb1 rfl rfl rfl (fun oN hoN => ?_); refine yy6 ?_; refine yy54 ?_; refine yy70 ?_; refine yy75 ?_; refine yy29 ?_; intro hc; refine yy30 ?_; intro hc; refine yy65 ?_; refine yy1 ?_; intro hc; refine yy1 ?_; intro hc; refine aw_condp rfl (fun hc => ?_) (fun hc => ?_); refine yy35 ?_; refine aw_condp rfl (fun hc => ?_) (fun hc => ?_); refine yy92 ?_; refine yy33 ?_; rotate_left; exact absurd hc auto_no; exact absurd hc auto_no) | focus (refine yy2 ?_; refine zb1 rfl rfl rfl (fun oN hoN => ?_); refine yy6 ?_; refine yy54 ?_; refine yy70 ?_; refine yy75 ?_; refine yy29 ?_; intro hc; refine yy30 ?_; intro hc; refine yy65 ?_; refine yy1 ?_; intro hc; refine yy1 ?_; intro hc; refine yy1 ?_; intro hc; refine aw_condp rfl (fun hc => ?_) (fun hc => ?_); refine yy35 ?_; refine aw_condp rfl (fun hc => ?_) (fun hc => ?_); refine yy92 ?_; refine yy33 ?_; rotate_left; exact absurd hc auto_no; exact absurd hc auto_no) | focus (refine yy2 ?_; refine zb1 rfl rfl rfl (fun oN hoN => ?_); refine yy6 ?_; refine yy54 ?_; refine yy70 ?_; refine yy75 ?_; refine yy29 ?_; intro hc; refine yy30 ?_; intro hc; refine yy65 ?_; refine yy1 ?_; intro hc; refine yy1 ?_; intro hc; refine yy1 ?_; intro hc; refine yy1 ?_; intro hc; refine aw_condp rfl (fun hc => ?_) (fun hc => ?_); refine yy35 ?_; refine aw_condp rfl (fun hc => ?_) (fun hc => ?_); refine yy92 ?_; refine yy33 ?_; rotate_left; exact absurd hc auto_no; exact absurd hc auto_no) | focus (refine yy2 ?_; refine zb1 rfl rfl rfl (fun oN hoN => ?_); refine yy6 ?_; refine yy54 ?_; refine yy70 ?_; refine yy75 ?_; refine yy29 ?_; intro hc; refine yy30 ?_; intro hc; refine yy65 ?_; refine yy1 ?_; intro hc; refine yy1 ?_; intro hc; refine yy1 ?_; intro hc; refine yy1 ?_; intro hc; refine yy28 ?_; intro hc; refine aw_condp rfl (fun hc => ?_) (fun hc => ?_); refine yy92 ?_; refine yy33 ?_; rotate_left; exact absurd hc auto_no) | focus (refine yy2 ?_; refine zb1 rfl rfl rfl (fun oN hoN => ?_); refine yy6 ?_; refine yy54 ?_; refine yy70 ?_; refine yy75 ?_; refine yy29 ?_; intro hc; refine yy30 ?_; intro hc; refine yy65 ?_; refine aw_condp rfl (fun hc => ?_) (fun hc => ?_); refine yy35 ?_; refine aw_condp rfl (fun hc => ?_) (fun hc => ?_); refine yy92 ?_; refine yy33 ?_; rotate_left; exact absurd hc auto_no; exact absurd hc auto_no) | focus (refine yy2 ?_; refine zb1 rfl rfl rfl (fun oN hoN => ?_); refine yy6 ?_; refine yy54 ?_; refine yy70 ?_; refine yy75 ?_; refine yy29 ?_; intro hc; refine yy30 ?_; intro hc; refine yy65 ?_; refine yy1 ?_; intro hc; refine aw_condp rfl (fun hc => ?_) (fun hc => ?_); refine yy35 ?_; refine aw_condp rfl (fun hc => ?_) (fun hc => ?_); refine yy92 ?_; refine yy33 ?_; rotate_left; exact absurd hc auto_no; exact absurd hc auto_no) | fail)
        exact ⟨.inl rfl, _, _, _, Ent.gc auto_sub, ret1 rfl rfl, rfl, rfl⟩)
    rw [if_neg g3] at hx
    simp only [not_or] at g3
    obtain ⟨d1, d2, d3, d4, d5, d6⟩ := g3
    replace d1 := Hdq.mk d1
    replace d2 := Hdq.mk d2
    replace d3 := Hdq.mk d3
    replace d4 := Hdq.mk d4
    replace d5 := Hdq.mk d5
    replace d6 := Hdq.mk d6
    subst hx
    generalize ks.any (lateE (hasB l)) = X at *
    (first | focus (refine yy2 ?_; refine zb1 rfl rfl rfl (fun oN hoN => ?_); refine yy6 ?_; refine yy54 ?_; refine yy70 ?_; refine yy75 ?_; refine yy29 ?_; intro hc; refine yy30 ?_; intro hc; refine yy65 ?_; refine yy29 ?_; intro hc; refine yy29 ?_; intro hc; refine yy29 ?_; intro hc; refine yy29 ?_; intro hc; refine yy30 ?_; intro hc; refine yy126 ?_; refine yy30 ?_; intro hc; refine yy39 ?_; refine yy2 ?_; refine yy95 ?_; refine yy10 ?_; (refine zc auto_wl (ca _ auto_heap) ?_; rintro r H' ⟨rfl, rfl⟩); refine yy41 ?_; rotate_left) | fail)
    exact ⟨.inl rfl, _, _, _, Ent.gc auto_sub, ret1 rfl rfl, rfl, rfl⟩
end Go.Proofs.Ytmgkhfnhaeplgaa

namespace Go.Proofs.Ytmgkhfnhaeplgaa
open Go Go.Am Go.Proofs
set_option linter.unusedSimpArgs false
set_option linter.unusedVariables false
set_option maxRecDepth 20000
set_option maxHeartbeats 8000000

/-! The program: the late names. -/
theorem lateRounds_add (eqs : List Eqn) : ∀ (a b : Nat) (l : List Bs), lateRounds eqs (a + b) l = lateRounds eqs b (lateRounds eqs a l)
  | 0, b, l => by rw [Nat.zero_add]; rfl
  | a + 1, b, l => by rw [show a + 1 + b = (a + b) + 1 by omega, lateRounds, lateRounds, lateRounds_add eqs a b]
theorem lateRounds_fix {eqs : List Eqn} {l : List Bs} (h : lateRound eqs l = l) : ∀ m, lateRounds eqs m l = l
  | 0 => rfl
  | m + 1 => by rw [lateRounds, h, lateRounds_fix h m]
theorem lates_calls (H : AHeap) (n : Nd) (hn : NdOk n) : ACalls Try.prog 28 [.agg n.cells] H fun r H' => ∃ om, r = .mp om ∧ H om = none ∧ H' = H.set om (setA (lateNames n)).ao := by
  have heq := eq_len n.eqs
  have hbq := hn.q
  unfold lateNames
  generalize hZ : lateRounds n.eqs (n.eqs.length + 1) [] = Z
  replace hZ := Hdn.mk hZ
  have hn0 : n.cells = [.str n.name, .sls n.ins.length (vrL n.ins), .sls n.outs.length (vrL n.outs), .sls n.locs.length (vrL n.locs), .sls n.eqs.length (eqL n.eqs), avI n.at_] := rfl
  rw [hn0] at *
  refine acalls_of_aw1 Try.func28 rfl (by decide) ?_
  (first | focus (refine yy2 ?_; refine zb1 rfl rfl rfl (fun oN hoN => ?_); refine yy6 ?_; refine yy2 ?_; refine awl_makeMap rfl (fun oN hoN => ?_); refine awl_s rfl (s_assign (v := .mp _) rfl) ?_; refine yy42 ?_; refine yy71 ?_; rotate_left) | fail)
  rename_i oX hoX
  obtain ⟨oM, hoMe⟩ : ∃ x, x = oN := ⟨_, rfl⟩
  subst hoMe
  have hM0 : H oM = none := by (first | assumption | exact AHeap.none_of_set ((by assumption)) | exact AHeap.none_of_set (AHeap.none_of_set ((by assumption))) | exact AHeap.none_of_set (AHeap.none_of_set (AHeap.none_of_set ((by assumption)))) | exact AHeap.none_of_set (AHeap.none_of_set (AHeap.none_of_set (AHeap.none_of_set ((by assumption))))) | exact AHeap.none_of_set (AHeap.none_of_set (AHeap.none_of_set (AHeap.none_of_set (AHeap.none_of_set ((by assumption)))))) | exact AHeap.none_of_set (AHeap.none_of_set (AHeap.none_of_set (AHeap.none_of_set (AHeap.none_of_set (AHeap.none_of_set ((by assumption))))))) | exact AHeap.none_of_set (AHeap.none_of_set (AHeap.none_of_set (AHeap.none_of_set (AHeap.none_of_set (AHeap.none_of_set (AHeap.none_of_set ((by assumption)))))))) | exact AHeap.none_of_set (AHeap.none_of_set (AHeap.none_of_set (AHeap.none_of_set (AHeap.none_of_set (AHeap.none_of_set (AHeap.none_of_set (AHeap.none_of_set ((by assumption))))))))) | exact AHeap.none_of_set (AHeap.none_of_set (AHeap.none_of_set (AHeap.none_of_set (AHeap.none_of_set (AHeap.none_of_set (AHeap.none_of_set (AHeap.none_of_set (AHeap.none_of_set ((by assumption)))))))))) | exact AHeap.none_of_set (AHeap.none_of_set (AHeap.none_of_set (AHeap.none_of_set (AHeap.none_of_set (AHeap.none_of_set (AHeap.none_of_set (AHeap.none_of_set (AHeap.none_of_set (AHeap.none_of_set ((by assumption))))))))))))
  have hMX : oM ≠ oX := by (first | assumption | exact Ne.symm (by assumption) | exact AHeap.ne_of_fresh (by assumption) | exact Ne.symm (AHeap.ne_of_fresh (by assumption)) | exact AHeap.ne_of_fresh (AHeap.none_of_set (by assumption)) | exact Ne.symm (AHeap.ne_of_fresh (AHeap.none_of_set (by assumption))) | exact AHeap.ne_ns (by assumption) (by assumption) | exact AHeap.ne_sn (by assumption) (by assumption) | exact AHeap.ne_ns (by assumption) auto_heap2 | exact AHeap.ne_sn (by assumption) auto_heap2)
  refine aw_loop (fun mm R1 H1 => ∃ (r : Nat) (s : List Bs) (more : Bool), NmOk n.eqs s ∧ Hdn (lateRounds n.eqs r [] = s) ∧ r ≤ s.length ∧ Hdn (more = false → lateRound n.eqs s = s) ∧ H1 oX = some (.cel [.str n.name, .sls n.ins.length (vrL n.ins), .sls n.outs.length (vrL n.outs), .sls n.locs.length (vrL n.locs), .sls n.eqs.length (eqL n.eqs), avI n.at_]) ∧ H1 oM = some (setA s).ao ∧ (∀ p y, H p = some y → H1 p = some y) ∧ R1 = [(1, .ptr oX 0), (3, .mp oM), (4, avB more)] ∧ (if more then n.eqs.length + 1 - s.length else 0) = mm) ?_ ?_
  · exact ⟨_, _, _, Ent.sub _ (by (repeat' (first | exact RSub.nil _ | apply RSub.cons)); all_goals rfl), 0, [], true, NmOk.nil _, ⟨rfl⟩, Nat.zero_le _, ⟨fun h => by cases h⟩, by exact auto_heap, AHeap.set_self _ _ _, fun p y hp => auto_heap, rfl, rfl⟩
  clear hoN
  rintro mm R1 H1 ⟨r, s, more, hs, hr, hrs, hm, q1, q2, hfr, rfl, rfl⟩
  have hsl := hs.len
  cases more
  · have hfix := hm.out rfl
    have hsZ : s = Z := by
      rw [← hZ.out, show n.eqs.length + 1 = r + (n.eqs.length + 1 - r) by omega, lateRounds_add, hr.out, lateRounds_fix hfix]
    subst hsZ
    clear hZ hr hm hfix
    (first | focus (refine yy9 ?_; refine yy81 ?_; refine yy113 ?_; refine yy2 ?_; refine yy95 ?_; refine awl_s rfl (s_assign (v := .mp _) rfl) ?_; refine yy108 ?_; rotate_left) | fail)
    exact ⟨.inl rfl, _, _, _, Ent.gc (Sub.set auto_heap (fun p y hpo hp => hfr p y hp)), ret1 rfl rfl, oM, rfl, hM0, rfl⟩
  · generalize hY : lateRound n.eqs s = Y
    replace hY := Hdn.mk hY
    clear hm hZ
    (first | focus (refine yy9 ?_; refine yy122 ?_; refine yy51 ?_; refine yy15 ?_; refine yy99 ?_; refine yy115 ?_; refine yy7 ?_; refine yy70 ?_; rotate_left) | fail)
    refine aw_loop (fun mm R2 H2 => ∃ (i : Nat) (s' : List Bs) (b : Bool), i ≤ n.eqs.length ∧ NmOk n.eqs s' ∧ Hdn (lateRound (n.eqs.drop i) s' = Y) ∧ Hdn (b = false → s' = s) ∧ Hdn (b = true → s.length < s'.length) ∧ H2 oX = some (.cel [.str n.name, .sls n.ins.length (vrL n.ins), .sls n.outs.length (vrL n.outs), .sls n.locs.length (vrL n.locs), .sls n.eqs.length (eqL n.eqs), avI n.at_]) ∧ H2 oM = some (setA s').ao ∧ (∀ p y, H p = some y → H2 p = some y) ∧ R2 = [(1, .ptr oX 0), (3, .mp oM), (4, avB b), (10, .sls n.eqs.length (eqL n.eqs)), (11, avI n.eqs.length), (12, avI i)] ∧ n.eqs.length - i = mm) ?_ ?_
    · exact ⟨_, _, _, Ent.sub _ (by (repeat' (first | exact RSub.nil _ | apply RSub.cons)); all_goals rfl), 0, s, false, Nat.zero_le _, hs, hY, ⟨fun _ => rfl⟩, ⟨fun h => by cases h⟩, q1, q2, hfr, rfl, rfl⟩
    clear q1 q2 hfr H1
    rintro mm R2 H2 ⟨i, s', b, hi, hs', hY2, hb0, hb1, q1, q2, hfr, rfl, rfl⟩
    by_cases hlt : i < n.eqs.length
    · have hg : n.eqs[i]? = some n.eqs[i] := List.getElem?_eq_getElem hlt
      have hd : n.eqs.drop i = n.eqs[i] :: n.eqs.drop (i + 1) := List.drop_eq_getElem_cons hlt
      have hbx := hn.e _ (List.getElem_mem hlt)
      have hs2 := hs'.q (List.getElem_mem hlt)
      rw [hd, lateRound] at hY2
      generalize n.eqs[i] = x at *
      have hsq : List.take 7 (List.drop (i * 7) (eqL n.eqs)) = [.str x.name, .str x.e.op, .str x.e.name, avI x.e.n, avI x.e.at_, .sls x.e.kids.length (exL x.e.kids), avI x.at_] := eq_get hg
      clear hg hd
      have hsg := setA_get s' x.name
      have hsp := setA_put (l := s') (s := x.name)
      have cl := fun H h => plate_calls (om := oM) s' _ x.e H (Nat.le_refl _) hbx h
      simp only [exA, Ex.cells] at cl
      unfold lateQ at hY2 hs2
      generalize hasB s' x.name = b1 at *
      generalize lateE (hasB s') x.e = b2 at *
      cases b1
      · cases b2
        · simp only [Bool.not_false, Bool.true_and, Bool.false_eq_true, if_false] at hY2
          (first | focus (refine yy94 ?_; refine aw_condp rfl (fun hc => ?_) (fun hc => ?_); refine yy13 ?_; refine yy2 ?_; refine yy44 ?_; refine yy101 ?_; refine awl_alloc rfl rfl rfl (fun oN hoN => ?_); refine yy11 ?_; refine yy16 ?_; refine yy95 ?_; refine yy10 ?_; refine yy138 ?_; refine yy52 ?_; refine yy18 ?_; refine yy95 ?_; refine yy5 ?_; refine yy62 ?_; refine yy5 ?_; refine yy26 ?_; refine yy5 ?_; (refine zc auto_wl (cl _ auto_heap) ?_; rintro r H' ⟨rfl, rfl⟩); refine yy69 ?_; refine yy81 ?_; refine yy39 ?_; refine yy32 ?_; refine yy109 ?_; refine yy7 ?_; refine yy4 ?_; rotate_left; exact absurd hc auto_no) | fail)
          exact ⟨n.eqs.length - (i + 1), _, _, by omega, Ent.tog (by (repeat' (first | exact RSub.nil _ | apply RSub.cons)); all_goals rfl) auto_sub, i + 1, s', b, by omega, hs', hY2, hb0, hb1, q1, q2, hfr, rfl, rfl⟩
        · simp only [Bool.not_false, Bool.true_and, if_true] at hY2 hs2
          have hsp2 := hsp rfl
          clear hsp
          (first | focus (refine yy94 ?_; refine aw_condp rfl (fun hc => ?_) (fun hc => ?_); refine yy13 ?_; refine yy2 ?_; refine yy44 ?_; refine yy101 ?_; refine awl_alloc rfl rfl rfl (fun oN hoN => ?_); refine yy11 ?_; refine yy16 ?_; refine yy95 ?_; refine yy10 ?_; refine yy138 ?_; refine yy52 ?_; refine yy18 ?_; refine yy95 ?_; refine yy5 ?_; refine yy62 ?_; refine yy5 ?_; refine yy26 ?_; refine yy5 ?_; (refine zc auto_wl (cl _ auto_heap) ?_; rintro r H' ⟨rfl, rfl⟩); refine yy112 ?_; refine yy2 ?_; refine yy95 ?_; refine yy10 ?_; refine awl_mapUpdate rfl rfl auto_mv auto_heap ?_; refine yy4 ?_; refine yy32 ?_; refine yy14 ?_; refine yy32 ?_; refine yy109 ?_; refine yy7 ?_; refine yy4 ?_; rotate_left; exact absurd hc auto_no) | fail)
          exact ⟨n.eqs.length - (i + 1), _, H2.set oM (setA (s' ++ [x.name])).ao, by omega, Ent.tog (by (repeat' (first | exact RSub.nil _ | apply RSub.cons)); all_goals rfl) (Sub.set (by rw [← hsp2]; exact AHeap.set_self _ _ _) (fun p y hpo hp => by
            have hp3 : p ≠ oN := fun e => by rw [e, hoN] at hp; cases hp
            exact auto_heap)), i + 1, s' ++ [x.name], true, by omega, hs2, hY2, ⟨fun h => by cases h⟩, ⟨fun _ => by
              rw [List.length_append, List.length_singleton]
              cases b with
              | false => rw [hb0.out rfl]; omega
              | true => have := hb1.out rfl; omega⟩, by exact auto_heap, AHeap.set_self _ _ _, fun p y hp => by
            have hp2 := hfr p y hp
            have hp3 : p ≠ oM := fun e => by rw [e, hM0] at hp; cases hp
            exact auto_heap, rfl, rfl⟩
      · simp only [Bool.not_true, Bool.false_and, Bool.false_eq_true, if_false] at hY2
        (first | focus (refine yy94 ?_; refine aw_condp rfl (fun hc => ?_) (fun hc => ?_); refine yy13 ?_; refine yy2 ?_; refine yy44 ?_; refine yy101 ?_; refine awl_alloc rfl rfl rfl (fun oN hoN => ?_); refine yy11 ?_; refine yy16 ?_; refine yy95 ?_; refine yy10 ?_; refine yy138 ?_; refine yy52 ?_; refine yy7 ?_; refine yy66 ?_; refine yy63 ?_; refine yy81 ?_; refine yy39 ?_; refine yy32 ?_; refine yy109 ?_; refine yy7 ?_; refine yy4 ?_; rotate_left; exact absurd hc auto_no) | fail)
        exact ⟨n.eqs.length - (i + 1), _, _, by omega, Ent.tog (by (repeat' (first | exact RSub.nil _ | apply RSub.cons)); all_goals rfl) auto_sub, i + 1, s', b, by omega, hs', hY2, hb0, hb1, q1, q2, hfr, rfl, rfl⟩
    · obtain rfl : i = n.eqs.length := by omega
      have hY3 : s' = Y := by rw [← hY2.out, List.drop_length, lateRound]
      subst hY3
      have hsl2 := hs'.len
      clear hY2
      (first | focus (refine yy94 ?_; refine yy90 ?_; intro hc; refine aw_exit ?_; refine k_seq_exit ?_; refine k_seq_exit ?_; refine k_block_eq ?_; refine yy100 ?_; rotate_left) | fail)
      cases b
      · obtain rfl : s' = s := hb0.out rfl
        exact ⟨0, _, _, by rw [if_pos rfl]; omega, Ent.sub _ (by (repeat' (first | exact RSub.nil _ | apply RSub.cons)); all_goals rfl), r, s', false, hs', hr, hrs, ⟨fun _ => hY.out⟩, q1, q2, hfr, rfl, rfl⟩
      · have hlt2 := hb1.out rfl
        exact ⟨_, _, _, by rw [if_pos rfl]; exact (show n.eqs.length + 1 - s'.length < n.eqs.length + 1 - s.length by omega), Ent.sub _ (by (repeat' (first | exact RSub.nil _ | apply RSub.cons)); all_goals rfl), r + 1, s', true, hs', ⟨by rw [lateRounds_add, hr.out]; exact hY.out⟩, by omega, ⟨fun h => by cases h⟩, q1, q2, hfr, rfl, rfl⟩
end Go.Proofs.Ytmgkhfnhaeplgaa

namespace Go.Proofs.Ytmgkhfnhaeplgaa
open Go Go.Am Go.Proofs
set_option linter.unusedSimpArgs false
set_option linter.unusedVariables false
set_option maxRecDepth 20000
set_option maxHeartbeats 8000000

/-! slices.Concat of variables. -/
abbrev vlA (l : List Vr) : AV := .sls l.length (vrL l)
theorem GrowV_nil (H : AHeap) (k : Nat) (hk0 : 0 < k) (hk : k ≤ 4000000000) :
    ACalls Try.prog 56 [.raw (.slice none 0 0), .raw (.int .i64 (k : Int))] H fun r H' => ∃ o, H o = none ∧ r = .vw o 5 0 0 ∧ H' = H.set o (.cel []) := by
  refine acalls_of_aw2 Try.func56 rfl (by decide) ?_
  (first | focus (refine yy15 ?_; refine yy9 ?_; refine yy49 ?_; refine yy60 ?_; intro hc; refine yy9 ?_; refine yy7 ?_; refine awl_s rfl (s_cap_nil rfl) ?_; refine yy7 ?_; refine awl_s rfl (s_len_nil rfl) ?_; refine awl_s rfl (s_subn rfl rfl (by omega) (by omega)) ?_; refine awl_s rfl (s_subn rfl rfl (by omega) (by omega)) ?_; refine yy6 ?_; refine yy19 ?_; refine yy123 ?_; refine yy4 ?_; refine aw_condp rfl (fun hc => ?_) (fun hc => ?_); refine yy78 ?_; refine yy7 ?_; refine awl_s rfl (s_cap_nil rfl) ?_; refine awl_s rfl (s_slice_nil rfl auto_bnd auto_bnd) ?_; refine yy7 ?_; refine awl_app_zeros (sz := 5) (z := .agg #[.string ⟨#[]⟩, .int .i64 0, .string ⟨#[]⟩, .bool false, .int .i64 0]) (xs := .cel []) rfl rfl rfl rfl auto_om auto_om auto_len (fun oN hoN => ?_); refine yy7 ?_; refine awl_s rfl (s_len_nil rfl) ?_; refine awl_s rfl (s_slice_vw rfl auto_bnd auto_bnd auto_len auto_len) ?_; refine yy40 ?_; refine yy16 ?_; refine yy23 ?_; refine yy40 ?_; refine yy108 ?_; rotate_left; exact absurd hc auto_no) | fail)
  exact ⟨.inl rfl, _, _, _, Ent.refl _ _, ret1 rfl rfl, oN, hoN, rfl, rfl⟩
theorem GrowV_zero (H : AHeap) :
    ACalls Try.prog 56 [.raw (.slice none 0 0), .raw (.int .i64 ((0 : Nat) : Int))] H fun r H' => r = .raw (.slice none 0 0) ∧ H' = H := by
  refine acalls_of_aw2 Try.func56 rfl (by decide) ?_
  (first | focus (refine yy15 ?_; refine yy9 ?_; refine yy49 ?_; refine yy60 ?_; intro hc; refine yy9 ?_; refine yy7 ?_; refine awl_s rfl (s_cap_nil rfl) ?_; refine yy7 ?_; refine awl_s rfl (s_len_nil rfl) ?_; refine awl_s rfl (s_subn rfl rfl (by omega) (by omega)) ?_; refine awl_s rfl (s_subn rfl rfl (by omega) (by omega)) ?_; refine yy6 ?_; refine yy19 ?_; refine yy123 ?_; refine yy4 ?_; refine yy60 ?_; intro hc; refine yy19 ?_; refine yy41 ?_; rotate_left) | fail)
  exact ⟨.inl rfl, _, _, _, Ent.refl _ _, ret1 rfl rfl, rfl, rfl⟩
theorem ConcatV_calls (H : AHeap) (ls : List (List Vr)) (hl : ls.length ≤ 1000) (hb : ∀ b ∈ ls, b.length ≤ 2000000) :
    ACalls Try.prog 34 [.sls ls.length (ls.map vlA)] H fun r H' => r = vlA ls.flatten ∧ H' = H := by
  refine acalls_of_aw1 Try.func34 rfl (by decide) ?_
  (first | focus (refine yy15 ?_; refine yy15 ?_; refine yy38 ?_; refine yy27 ?_; refine yy115 ?_; refine yy7 ?_; refine yy70 ?_; rotate_left) | fail)
  refine aw_loop (fun m R' H1 => ∃ i, H1 = H ∧ R' = [(0, .sls ls.length (ls.map vlA)), (3, .raw (.int .i64 (((ls.take i).flatten.length : Nat) : Int))), (9, .sls ls.length (ls.map vlA)), (10, .raw (.int .i64 ((ls.length : Nat) : Int))), (11, .raw (.int .i64 ((i : Nat) : Int)))] ∧ i + m = ls.length ∧ (ls.take i).flatten.length ≤ 2000000 * i) ?_ ?_
  · exact ⟨ls.length, _, _, auto_ent, 0, rfl, rfl, by omega, by simp⟩
  rintro m R0 H1 ⟨i, rfl, rfl, hi, hs⟩
  by_cases hlt : i < ls.length
  · have hg : ls[i]? = some ls[i] := List.getElem?_eq_getElem hlt
    have hbi := hb _ (List.getElem_mem hlt)
    have hsn : (ls.take (i + 1)).flatten.length = (ls.take i).flatten.length + ls[i].length := by rw [List.take_add_one, hg, List.flatten_append, List.length_append]; simp [Option.toList]
    generalize ls[i] = x at *
    (first | focus (refine yy94 ?_; refine aw_condp rfl (fun hc => ?_) (fun hc => ?_); refine yy13 ?_; refine yy2 ?_; refine yy44 ?_; refine yy43 ?_; refine yy83 ?_; refine yy16 ?_; refine yy7 ?_; refine yy27 ?_; refine yy115 ?_; refine yy109 ?_; refine yy6 ?_; refine yy19 ?_; refine yy49 ?_; refine yy90 ?_; intro hc; refine yy39 ?_; refine yy32 ?_; refine yy109 ?_; refine yy7 ?_; refine yy4 ?_; rotate_left; exact absurd hc auto_no) | fail)
    simp only [← hsn]
    exact ⟨m - 1, _, _, by omega, auto_ent, i + 1, rfl, rfl, by omega, by omega⟩
  obtain rfl : i = ls.length := by omega
  rw [List.take_length] at hs ⊢
  by_cases hz : ls.flatten.length = 0
  case' pos =>
    rw [hz]
    (first | focus (refine yy94 ?_; refine yy34 ?_; intro hc; refine yy19 ?_; (refine zc auto_wl (GrowV_zero _) ?_; rintro r H' ⟨rfl, rfl⟩); refine yy6 ?_; refine yy38 ?_; refine yy27 ?_; refine yy115 ?_; refine yy7 ?_; refine yy70 ?_; rotate_left) | fail)
    rename AHeap => H1
    refine aw_own_nil 6 5 (.cel []) rfl rfl (fun o ho => ?_)
  case' neg =>
    (first | focus (refine yy94 ?_; refine yy34 ?_; intro hc; refine yy19 ?_; (refine zc auto_wl (GrowV_nil _ _ (by omega) (by omega)) ?_; rintro r H' ⟨o, ho, rfl, rfl⟩); refine yy40 ?_; refine yy42 ?_; refine yy27 ?_; refine yy115 ?_; refine yy7 ?_; refine yy70 ?_; rotate_left) | fail)
  all_goals
    refine aw_loop (fun m R' H2 => ∃ o i, H1 o = none ∧ H2 = H1.set o (.cel (vrL (ls.take i).flatten)) ∧ R' = [(6, .vw o 5 0 (ls.take i).flatten.length), (25, .sls ls.length (ls.map vlA)), (26, .raw (.int .i64 ((ls.length : Nat) : Int))), (27, .raw (.int .i64 ((i : Nat) : Int)))] ∧ i + m = ls.length ∧ (ls.take i).flatten.length ≤ 2000000 * i) ?_ ?_
    · exact ⟨ls.length, _, _, auto_ent, o, 0, ho, by simp, rfl, by omega, by simp⟩
    clear ho hi hlt
    rintro m R0 H2 ⟨o, i, ho, rfl, rfl, hi, hs⟩
    by_cases hlt : i < ls.length
    · have hg : ls[i]? = some ls[i] := List.getElem?_eq_getElem hlt
      have hbi := hb _ (List.getElem_mem hlt)
      have hsn : (ls.take (i + 1)).flatten = (ls.take i).flatten ++ ls[i] := by rw [List.take_add_one, hg, List.flatten_append]; simp [Option.toList]
      have hsl : (ls.take (i + 1)).flatten.length = (ls.take i).flatten.length + ls[i].length := by rw [hsn, List.length_append]
      have hv1 := vr_len (ls.take i).flatten
      have hgm : (ls.map vlA)[i * 1]? = some (vlA ls[i]) := map_get hg
      generalize ls[i] = x at *
      have hv2 := vr_len x
      (first | focus (refine yy94 ?_; refine aw_condp rfl (fun hc => ?_) (fun hc => ?_); refine yy13 ?_; refine yy2 ?_; refine yy44 ?_; refine yy43 ?_; refine yy83 ?_; refine yy4 ?_; refine yy32 ?_; refine yy23 ?_; refine yy27 ?_; refine za2 rfl rfl rfl (by assumption) auto_len auto_src auto_len auto_len (fun oN hoN => ?_); refine yy40 ?_; refine yy48 ?_; refine yy32 ?_; refine yy109 ?_; refine yy7 ?_; refine yy4 ?_; rotate_left; exact absurd hc auto_no) | fail)
      simp only [← vr_app, ← hsn, ← hsl]
      exact ⟨m - 1, _, _, by omega, auto_ent, oN, i + 1, hoN, rfl, rfl, by omega, by omega⟩
    obtain rfl : i = ls.length := by omega
    rw [List.take_length] at hs ⊢
    (first | focus (refine yy94 ?_; refine yy34 ?_; intro hc; refine yy2 ?_; refine yy23 ?_; refine yy40 ?_; refine yy108 ?_; rotate_left) | fail)
    exact ⟨.inl rfl, _, _, _, Ent.seal_cel1 2 rfl (vr_len _) ho, ret1 rfl rfl, rfl, rfl⟩
end Go.Proofs.Ytmgkhfnhaeplgaa

namespace Go.Proofs.Ytmgkhfnhaeplgaa
open Go Go.Am Go.Proofs
set_option linter.unusedSimpArgs false
set_option linter.unusedVariables false
set_option maxRecDepth 20000
set_option maxHeartbeats 8000000

/-! The program: Late, Expr, told. -/
theorem lateNames_ok (n : Nd) : NmOk n.eqs (lateNames n) := by
  have hq : ∀ (l : List Eqn), (∀ q ∈ l, q ∈ n.eqs) → ∀ s, NmOk n.eqs s → NmOk n.eqs (lateRound l s) := by
    intro l
    induction l with
    | nil => intro _ s hs; exact hs
    | cons q l ih => intro h s hs; exact ih (fun q hq => h q (List.mem_cons_of_mem _ hq)) _ (hs.q (h q List.mem_cons_self))
  have hr : ∀ m s, NmOk n.eqs s → NmOk n.eqs (lateRounds n.eqs m s) := by
    intro m
    induction m with
    | zero => intro s hs; exact hs
    | succ m ih => intro s hs; exact ih _ (hq _ (fun _ h => h) s hs)
  exact hr _ _ (NmOk.nil _)
theorem pExpr_calls (H : AHeap) (n : Nd) (e : Ex) (hn : NdOk n) (hb : exSz e ≤ 2000000) : ACalls Try.prog 18 [.agg n.cells, exA e] H fun r H' => r = avB (lateE (hasB (lateNames n)) e) ∧ H' = H := by
  have cl := fun H => lates_calls H n hn
  generalize lateNames n = l at *
  have ce := fun om H h => plate_calls (om := om) l _ e H (Nat.le_refl _) hb h
  generalize lateE (hasB l) e = b at *
  have hn0 : n.cells = [.str n.name, .sls n.ins.length (vrL n.ins), .sls n.outs.length (vrL n.outs), .sls n.locs.length (vrL n.locs), .sls n.eqs.length (eqL n.eqs), avI n.at_] := rfl
  rw [hn0] at *
  obtain ⟨op, nm, nn, at_, ks⟩ := e
  simp only [exA, Ex.cells, Ex.op, Ex.name, Ex.n, Ex.at_, Ex.kids] at *
  refine acalls_of_aw2 Try.func18 rfl (by decide) ?_
  (first | focus (refine yy2 ?_; refine zb1 rfl rfl rfl (fun oN hoN => ?_); refine zb1 rfl rfl rfl (fun oN hoN => ?_); refine yy6 ?_; refine aw_seq ?_; refine DC.aw_drawp (fun H' => H' oN = some (.cel [.str op, .str nm, avI nn, avI at_, .sls ks.length (exL ks)])) (by first | exact auto_heap | exact ⟨auto_heap, auto_heap⟩ | exact ⟨auto_heap, auto_heap, auto_heap⟩) auto_kr auto_dk auto_dk ?_; (apply DC.awn_e auto_dk; (· exact s_load_agg rfl auto_heap rfl rfl (by first | decide | exact Nat.le_of_ble_eq_true rfl))); refine DC.awn_b ?_; (apply DC.awn_s; · (intro H1 hPsi; (try dsimp only at hPsi); exact s_load_agg rfl auto_heap rfl rfl (by first | decide | exact Nat.le_of_ble_eq_true rfl))); refine DC.awn_b ?_; refine DC.awn_b ?_; refine DC.awn_nil ?_; refine DC.awc_cons (fun Rx K1 hK1x => ?_); (refine zc auto_wl (cl _) ?_; rintro r H' ⟨om, rfl, hom, rfl⟩); refine yy61 ?_; (refine hK1x _ _ (by first | exact Or.inl (by decide +kernel) | (refine Or.inr ?_; (try dsimp only); first | exact auto_heap | exact ⟨auto_heap, auto_heap⟩ | exact ⟨auto_heap, auto_heap, auto_heap⟩)) ?_; clear hK1x K1 Rx); refine DC.awc_cons (fun Rx K1 hK1x => ?_); (refine zc auto_wl (ce om _ auto_heap) ?_; rintro r H' ⟨rfl, rfl⟩); refine yy61 ?_; (refine hK1x _ _ (by first | exact Or.inl (by decide +kernel) | (refine Or.inr ?_; (try dsimp only); first | exact auto_heap | exact ⟨auto_heap, auto_heap⟩ | exact ⟨auto_heap, auto_heap, auto_heap⟩)) ?_; clear hK1x K1 Rx); refine DC.awc_cons (fun Rx K1 hK1x => ?_); refine yy21 ?_; refine yy61 ?_; (refine hK1x _ _ (by first | exact Or.inl (by decide +kernel) | (refine Or.inr ?_; (try dsimp only); first | exact auto_heap | exact ⟨auto_heap, auto_heap⟩ | exact ⟨auto_heap, auto_heap, auto_heap⟩)) ?_; clear hK1x K1 Rx); refine DC.awc_nil ?_; refine k_seq_normal ?_; refine aw_ret ?_; rotate_left) | fail)
  exact ⟨.inl rfl, _, _, _, Ent.gc auto_sub, ret1 rfl rfl, rfl, rfl⟩
theorem pLate_calls (H : AHeap) (n : Nd) (hn : NdOk n) : ACalls Try.prog 16 [.agg n.cells] H fun r H' => r = .sls (lateN n).length (bsL (lateN n)) ∧ H' = H := by
  have cl := fun H => lates_calls H n hn
  have hns := (lateNames_ok n).len
  have hbq := hn.q
  have hlv := varsN_len hn
  unfold lateN
  generalize lateNames n = s at *
  have cv := fun H => ConcatV_calls H [n.ins, n.outs, n.locs] (show 3 ≤ 1000 by decide) (fun b hb => by
    simp only [List.mem_cons, List.mem_nil_iff, or_false] at hb
    rcases hb with rfl | rfl | rfl
    · exact hn.i
    · exact hn.o
    · exact hn.l)
  have hfl : [n.ins, n.outs, n.locs].flatten = varsN n := by unfold varsN; simp
  rw [hfl] at cv
  generalize varsN n = v at *
  have hmv := vr_len v
  generalize hZ : (v.filter fun v => hasB s v.name).map (·.name) = Z
  replace hZ := Hdn.mk hZ
  simp only [List.map_cons, List.map_nil, List.length_cons, List.length_nil] at cv
  have hn0 : n.cells = [.str n.name, .sls n.ins.length (vrL n.ins), .sls n.outs.length (vrL n.outs), .sls n.locs.length (vrL n.locs), .sls n.eqs.length (eqL n.eqs), avI n.at_] := rfl
  rw [hn0] at *
  refine acalls_of_aw1 Try.func16 rfl (by decide) ?_
  (first | focus (refine yy2 ?_; refine zb1 rfl rfl rfl (fun oN hoN => ?_); refine yy6 ?_; refine yy98 ?_; (refine zc auto_wl (cl _) ?_; rintro r H' ⟨om, rfl, hom, rfl⟩); refine awl_s rfl (s_assign (v := .mp _) rfl) ?_; refine yy4 ?_; refine yy15 ?_; refine yy54 ?_; refine yy10 ?_; refine yy10 ?_; refine yy37 ?_; (refine zc auto_wl (cv _) ?_; rintro r H' ⟨rfl, rfl⟩); refine yy115 ?_; refine yy7 ?_; refine yy70 ?_; rotate_left) | fail)
  obtain ⟨oX, hoXe⟩ : ∃ x, x = oN := ⟨_, rfl⟩
  subst hoXe
  have hoX : H oX = none := hoN
  have hM0 : H om = none := by (first | assumption | exact AHeap.none_of_set ((by assumption)) | exact AHeap.none_of_set (AHeap.none_of_set ((by assumption))) | exact AHeap.none_of_set (AHeap.none_of_set (AHeap.none_of_set ((by assumption)))) | exact AHeap.none_of_set (AHeap.none_of_set (AHeap.none_of_set (AHeap.none_of_set ((by assumption))))) | exact AHeap.none_of_set (AHeap.none_of_set (AHeap.none_of_set (AHeap.none_of_set (AHeap.none_of_set ((by assumption)))))) | exact AHeap.none_of_set (AHeap.none_of_set (AHeap.none_of_set (AHeap.none_of_set (AHeap.none_of_set (AHeap.none_of_set ((by assumption))))))) | exact AHeap.none_of_set (AHeap.none_of_set (AHeap.none_of_set (AHeap.none_of_set (AHeap.none_of_set (AHeap.none_of_set (AHeap.none_of_set ((by assumption)))))))) | exact AHeap.none_of_set (AHeap.none_of_set (AHeap.none_of_set (AHeap.none_of_set (AHeap.none_of_set (AHeap.none_of_set (AHeap.none_of_set (AHeap.none_of_set ((by assumption))))))))) | exact AHeap.none_of_set (AHeap.none_of_set (AHeap.none_of_set (AHeap.none_of_set (AHeap.none_of_set (AHeap.none_of_set (AHeap.none_of_set (AHeap.none_of_set (AHeap.none_of_set ((by assumption)))))))))) | exact AHeap.none_of_set (AHeap.none_of_set (AHeap.none_of_set (AHeap.none_of_set (AHeap.none_of_set (AHeap.none_of_set (AHeap.none_of_set (AHeap.none_of_set (AHeap.none_of_set (AHeap.none_of_set ((by assumption))))))))))))
  have hMX : om ≠ oX := by (first | assumption | exact Ne.symm (by assumption) | exact AHeap.ne_of_fresh (by assumption) | exact Ne.symm (AHeap.ne_of_fresh (by assumption)) | exact AHeap.ne_of_fresh (AHeap.none_of_set (by assumption)) | exact Ne.symm (AHeap.ne_of_fresh (AHeap.none_of_set (by assumption))) | exact AHeap.ne_ns (by assumption) (by assumption) | exact AHeap.ne_sn (by assumption) (by assumption) | exact AHeap.ne_ns (by assumption) auto_heap2 | exact AHeap.ne_sn (by assumption) auto_heap2)
  refine aw_own_nil 4 1 (.cel []) rfl rfl (fun oL hoL => ?_)
  have hL0 : H oL = none := by (first | assumption | exact AHeap.none_of_set ((by assumption)) | exact AHeap.none_of_set (AHeap.none_of_set ((by assumption))) | exact AHeap.none_of_set (AHeap.none_of_set (AHeap.none_of_set ((by assumption)))) | exact AHeap.none_of_set (AHeap.none_of_set (AHeap.none_of_set (AHeap.none_of_set ((by assumption))))) | exact AHeap.none_of_set (AHeap.none_of_set (AHeap.none_of_set (AHeap.none_of_set (AHeap.none_of_set ((by assumption)))))) | exact AHeap.none_of_set (AHeap.none_of_set (AHeap.none_of_set (AHeap.none_of_set (AHeap.none_of_set (AHeap.none_of_set ((by assumption))))))) | exact AHeap.none_of_set (AHeap.none_of_set (AHeap.none_of_set (AHeap.none_of_set (AHeap.none_of_set (AHeap.none_of_set (AHeap.none_of_set ((by assumption)))))))) | exact AHeap.none_of_set (AHeap.none_of_set (AHeap.none_of_set (AHeap.none_of_set (AHeap.none_of_set (AHeap.none_of_set (AHeap.none_of_set (AHeap.none_of_set ((by assumption))))))))) | exact AHeap.none_of_set (AHeap.none_of_set (AHeap.none_of_set (AHeap.none_of_set (AHeap.none_of_set (AHeap.none_of_set (AHeap.none_of_set (AHeap.none_of_set (AHeap.none_of_set ((by assumption)))))))))) | exact AHeap.none_of_set (AHeap.none_of_set (AHeap.none_of_set (AHeap.none_of_set (AHeap.none_of_set (AHeap.none_of_set (AHeap.none_of_set (AHeap.none_of_set (AHeap.none_of_set (AHeap.none_of_set ((by assumption))))))))))))
  have hLM : oL ≠ om := by (first | assumption | exact Ne.symm (by assumption) | exact AHeap.ne_of_fresh (by assumption) | exact Ne.symm (AHeap.ne_of_fresh (by assumption)) | exact AHeap.ne_of_fresh (AHeap.none_of_set (by assumption)) | exact Ne.symm (AHeap.ne_of_fresh (AHeap.none_of_set (by assumption))) | exact AHeap.ne_ns (by assumption) (by assumption) | exact AHeap.ne_sn (by assumption) (by assumption) | exact AHeap.ne_ns (by assumption) auto_heap2 | exact AHeap.ne_sn (by assumption) auto_heap2)
  refine aw_loop (fun mm R1 H1 => ∃ (i oL : Nat) (a : List Bs), i ≤ v.length ∧ a.length ≤ i ∧ Hdn (a ++ ((v.drop i).filter fun v => hasB s v.name).map (·.name) = Z) ∧ H oL = none ∧ oL ≠ om ∧ H1 om = some (setA s).ao ∧ H1 oL = some (.cel (bsL a)) ∧ (∀ p y, H p = some y → H1 p = some y) ∧ R1 = [(3, .mp om), (4, .vw oL 1 0 a.length), (16, vlA v), (17, avI v.length), (18, avI i)] ∧ v.length - i = mm) ?_ ?_
  · exact ⟨_, _, _, Ent.sub _ (by (repeat' (first | exact RSub.nil _ | apply RSub.cons)); all_goals rfl), 0, oL, [], Nat.zero_le _, Nat.zero_le _, hZ, hL0, hLM, by exact auto_heap, by exact AHeap.set_self _ _ _, fun p y hp => by
      have hp3 : p ≠ oL := fun e => by rw [e, hL0] at hp; cases hp
      have hp4 : p ≠ om := fun e => by rw [e, hM0] at hp; cases hp
      have hp5 : p ≠ oX := fun e => by rw [e, hoX] at hp; cases hp
      exact auto_heap, rfl, rfl⟩
  clear hZ hoL hL0 hLM oL hom
  rintro mm R1 H1 ⟨i, oL, a, hi, hai, hZ, hL0, hLM, q1, q3, hfr, rfl, rfl⟩
  have hal := bsL_len a
  by_cases hlt : i < v.length
  · have hg : v[i]? = some v[i] := List.getElem?_eq_getElem hlt
    have hd : v.drop i = v[i] :: v.drop (i + 1) := List.drop_eq_getElem_cons hlt
    rw [hd, List.filter_cons] at hZ
    generalize v[i] = x at *
    have hsx := vr_get5 hg
    have hsg := setA_get s x.name
    clear hg hd
    generalize hasB s x.name = b at *
    cases b
    · simp only [Bool.false_eq_true, if_false] at hZ
      (first | focus (refine yy94 ?_; refine aw_condp rfl (fun hc => ?_) (fun hc => ?_); refine yy13 ?_; refine yy2 ?_; refine yy44 ?_; refine yy101 ?_; refine awl_alloc rfl rfl rfl (fun oN hoN => ?_); refine yy11 ?_; refine yy16 ?_; refine yy95 ?_; refine yy10 ?_; refine yy138 ?_; refine yy81 ?_; refine yy39 ?_; refine yy32 ?_; refine yy109 ?_; refine yy7 ?_; refine yy4 ?_; rotate_left; exact absurd hc auto_no) | fail)
      exact ⟨v.length - (i + 1), _, _, by omega, Ent.tog (by (repeat' (first | exact RSub.nil _ | apply RSub.cons)); all_goals rfl) auto_sub, i + 1, oL, a, by omega, by omega, hZ, hL0, hLM, q1, q3, hfr, rfl, rfl⟩
    · simp only [if_true, List.map_cons] at hZ
      have hZ1 : Hdn ((a ++ [x.name]) ++ ((v.drop (i + 1)).filter fun v => hasB s v.name).map (·.name) = Z) := ⟨by rw [← hZ.out, List.append_assoc]; rfl⟩
      clear hZ
      (first | focus (refine yy94 ?_; refine aw_condp rfl (fun hc => ?_) (fun hc => ?_); refine yy13 ?_; refine yy2 ?_; refine yy44 ?_; refine yy101 ?_; refine awl_alloc rfl rfl rfl (fun oN hoN => ?_); refine yy11 ?_; refine yy16 ?_; refine yy95 ?_; refine yy10 ?_; refine yy138 ?_; refine yy122 ?_; refine yy32 ?_; refine yy23 ?_; refine yy10 ?_; refine yy37 ?_; refine za4 rfl rfl rfl auto_heap auto_al auto_src auto_len auto_len (fun oN hoN => ?_); refine yy40 ?_; refine yy48 ?_; refine yy32 ?_; refine yy109 ?_; refine yy7 ?_; refine yy4 ?_; rotate_left; exact absurd hc auto_no) | fail)
      have n0 : H1 oN = none := by (first | assumption | exact AHeap.none_of_set ((by assumption)) | exact AHeap.none_of_set (AHeap.none_of_set ((by assumption))) | exact AHeap.none_of_set (AHeap.none_of_set (AHeap.none_of_set ((by assumption)))) | exact AHeap.none_of_set (AHeap.none_of_set (AHeap.none_of_set (AHeap.none_of_set ((by assumption))))) | exact AHeap.none_of_set (AHeap.none_of_set (AHeap.none_of_set (AHeap.none_of_set (AHeap.none_of_set ((by assumption)))))) | exact AHeap.none_of_set (AHeap.none_of_set (AHeap.none_of_set (AHeap.none_of_set (AHeap.none_of_set (AHeap.none_of_set ((by assumption))))))) | exact AHeap.none_of_set (AHeap.none_of_set (AHeap.none_of_set (AHeap.none_of_set (AHeap.none_of_set (AHeap.none_of_set (AHeap.none_of_set ((by assumption)))))))) | exact AHeap.none_of_set (AHeap.none_of_set (AHeap.none_of_set (AHeap.none_of_set (AHeap.none_of_set (AHeap.none_of_set (AHeap.none_of_set (AHeap.none_of_set ((by assumption))))))))) | exact AHeap.none_of_set (AHeap.none_of_set (AHeap.none_of_set (AHeap.none_of_set (AHeap.none_of_set (AHeap.none_of_set (AHeap.none_of_set (AHeap.none_of_set (AHeap.none_of_set ((by assumption)))))))))) | exact AHeap.none_of_set (AHeap.none_of_set (AHeap.none_of_set (AHeap.none_of_set (AHeap.none_of_set (AHeap.none_of_set (AHeap.none_of_set (AHeap.none_of_set (AHeap.none_of_set (AHeap.none_of_set ((by assumption))))))))))))
      have n1 : oN ≠ om := fun e => by rw [e, q1] at n0; cases n0
      have n4 : H oN = none := by
        cases e : H oN with
        | none => rfl
        | some y => rw [hfr _ _ e] at n0; cases n0
      have e1 : bsL (a ++ [x.name]) = bsL a ++ [.str x.name] := by simp only [bsL, List.map_append, List.map_cons, List.map_nil]
      have hLM2 := hLM.symm
      rename_i oV hoV
      have v0 : H1 oV = none := by (first | assumption | exact AHeap.none_of_set ((by assumption)) | exact AHeap.none_of_set (AHeap.none_of_set ((by assumption))) | exact AHeap.none_of_set (AHeap.none_of_set (AHeap.none_of_set ((by assumption)))) | exact AHeap.none_of_set (AHeap.none_of_set (AHeap.none_of_set (AHeap.none_of_set ((by assumption))))) | exact AHeap.none_of_set (AHeap.none_of_set (AHeap.none_of_set (AHeap.none_of_set (AHeap.none_of_set ((by assumption)))))) | exact AHeap.none_of_set (AHeap.none_of_set (AHeap.none_of_set (AHeap.none_of_set (AHeap.none_of_set (AHeap.none_of_set ((by assumption))))))) | exact AHeap.none_of_set (AHeap.none_of_set (AHeap.none_of_set (AHeap.none_of_set (AHeap.none_of_set (AHeap.none_of_set (AHeap.none_of_set ((by assumption)))))))) | exact AHeap.none_of_set (AHeap.none_of_set (AHeap.none_of_set (AHeap.none_of_set (AHeap.none_of_set (AHeap.none_of_set (AHeap.none_of_set (AHeap.none_of_set ((by assumption))))))))) | exact AHeap.none_of_set (AHeap.none_of_set (AHeap.none_of_set (AHeap.none_of_set (AHeap.none_of_set (AHeap.none_of_set (AHeap.none_of_set (AHeap.none_of_set (AHeap.none_of_set ((by assumption)))))))))) | exact AHeap.none_of_set (AHeap.none_of_set (AHeap.none_of_set (AHeap.none_of_set (AHeap.none_of_set (AHeap.none_of_set (AHeap.none_of_set (AHeap.none_of_set (AHeap.none_of_set (AHeap.none_of_set ((by assumption))))))))))))
      have v1 : om ≠ oV := fun e => by rw [← e, q1] at v0; cases v0
      have v4 : H oV = none := by
        cases e : H oV with
        | none => rfl
        | some y => rw [hfr _ _ e] at v0; cases v0
      exact ⟨v.length - (i + 1), [(3, .mp om), (4, .vw oN 1 0 (a ++ [x.name]).length), (16, vlA v), (17, avI v.length), (18, avI (i + 1 : Nat))], _, by omega, Ent.sub _ (by rw [List.length_append]; (repeat' (first | exact RSub.nil _ | apply RSub.cons)); all_goals rfl), i + 1, oN, a ++ [x.name], by omega, by rw [List.length_append, List.length_singleton]; omega, hZ1, n4, n1, by exact auto_heap, by rw [e1]; exact AHeap.set_self _ _ _, fun p y hp => by
        have hp2 := hfr p y hp
        have hp3 : p ≠ oN := fun e => by rw [e, n4] at hp; cases hp
        have hp4 : p ≠ oL := fun e => by rw [e, hL0] at hp; cases hp
        have hp5 : p ≠ oV := fun e => by rw [e, v4] at hp; cases hp
        exact auto_heap, rfl, rfl⟩
  · obtain rfl : i = v.length := by omega
    have hZ2 : a = Z := by rw [← hZ.out, List.drop_length]; simp
    subst hZ2
    clear hZ
    (first | focus (refine yy94 ?_; refine yy34 ?_; intro hc; refine yy2 ?_; refine yy23 ?_; refine yy40 ?_; refine yy108 ?_; rotate_left) | fail)
    exact ⟨.inl rfl, _, _, _, (Ent.seal_cel (i := 2) (o := oL) (xs := bsL a) rfl auto_heap hal).trans (Ent.gc (fun p y hp => by
      have hp2 := hfr p y hp
      have hp3 : p ≠ oL := fun e => by rw [e, hL0] at hp; cases hp
      exact auto_heap)), ret1 rfl rfl, rfl, rfl⟩
end Go.Proofs.Ytmgkhfnhaeplgaa

namespace Go.Proofs.Ytmgkhfnhaeplgaa
open Go Go.Am Go.Proofs
set_option linter.unusedSimpArgs false
set_option linter.unusedVariables false
set_option maxRecDepth 20000
set_option maxHeartbeats 8000000

/-! The program: told, part, wrong. -/
theorem IndexFuncV_calls (H : AHeap) (f : FuncId) [hF : FuncT Try.prog f] (x : AV) (l : List Vr) (p : Vr → Bool) (hl : l.length ≤ 2000000) (hp : ∀ v ∈ l, ACalls Try.prog f [.agg v.cells, x] H fun r H' => r = avB (p v) ∧ H' = H) :
    ACalls Try.prog 71 [vlA l, .fnc (.func f) [] [x]] H fun r H' => r = avI (idxF p l 0) ∧ H' = H := by
  have hml := vr_len l
  generalize hZ : idxF p l 0 = Z
  replace hZ := Hdn.mk hZ
  refine acalls_of_aw2 Try.func71 rfl (by decide) ?_
  (first | focus (refine yy15 ?_; refine yy38 ?_; refine yy27 ?_; refine yy115 ?_; refine yy7 ?_; refine yy70 ?_; rotate_left) | fail)
  refine aw_loop (fun mm R1 H1 => ∃ (i : Nat), i ≤ l.length ∧ Hdn (idxF p (l.drop i) i = Z) ∧ H1 = H ∧ R1 = [(0, vlA l), (1, .fnc (.func f) [] [x]), (7, avI l.length), (8, avI i)] ∧ l.length - i = mm) ?_ ?_
  · exact ⟨_, _, _, Ent.sub _ (by (repeat' (first | exact RSub.nil _ | apply RSub.cons)); all_goals rfl), 0, Nat.zero_le _, hZ, rfl, rfl, rfl⟩
  clear hZ
  rintro mm R1 H1 ⟨i, hi, hZ, rfl, rfl, rfl⟩
  by_cases hlt : i < l.length
  · have hg : l[i]? = some l[i] := List.getElem?_eq_getElem hlt
    have hd : l.drop i = l[i] :: l.drop (i + 1) := List.drop_eq_getElem_cons hlt
    have cp := hp _ (List.getElem_mem hlt)
    rw [hd, idxF] at hZ
    generalize l[i] = k at *
    have hseg := vr_get hg
    generalize p k = b at *
    clear hg hd hp
    cases b
    · rw [if_neg (by decide)] at hZ
      (first | focus (refine yy94 ?_; refine aw_condp rfl (fun hc => ?_) (fun hc => ?_); refine yy13 ?_; refine yy19 ?_; refine yy6 ?_; refine yy2 ?_; refine awl_s rfl (s_move (v := .fnc _ _ _) rfl) ?_; refine yy27 ?_; refine yy47 ?_; refine yy101 ?_; (((refine awl_callcvf rfl rfl auto_wl (cp) (fun r H' hpost => ?_); obtain ⟨rfl, rfl⟩ := hpost))); refine yy81 ?_; refine yy39 ?_; refine yy32 ?_; refine yy109 ?_; refine yy7 ?_; refine yy4 ?_; rotate_left; exact absurd hc auto_no) | fail)
      exact ⟨l.length - (i + 1), _, _, by omega, Ent.sub _ (by (repeat' (first | exact RSub.nil _ | apply RSub.cons)); all_goals rfl), i + 1, by omega, hZ, rfl, rfl, rfl⟩
    · rw [if_pos rfl] at hZ
      obtain rfl : Z = (i : Int) := hZ.out.symm
      (first | focus (refine yy94 ?_; refine aw_condp rfl (fun hc => ?_) (fun hc => ?_); refine yy13 ?_; refine yy19 ?_; refine yy6 ?_; refine yy2 ?_; refine awl_s rfl (s_move (v := .fnc _ _ _) rfl) ?_; refine yy27 ?_; refine yy47 ?_; refine yy101 ?_; (((refine awl_callcvf rfl rfl auto_wl (cp) (fun r H' hpost => ?_); obtain ⟨rfl, rfl⟩ := hpost))); refine yy122 ?_; refine yy19 ?_; refine yy41 ?_; refine yy33 ?_; refine yy102 ?_; rotate_left; exact absurd hc auto_no) | fail)
      exact ⟨.inl rfl, _, _, _, Ent.refl _ _, ret1 rfl rfl, rfl, rfl⟩
  · obtain rfl : i = l.length := by omega
    have hZ2 := hZ.out
    rw [List.drop_length, idxF] at hZ2
    subst hZ2
    (first | focus (refine yy94 ?_; refine yy34 ?_; intro hc; refine yy92 ?_; rotate_left) | fail)
    exact ⟨.inl rfl, _, _, _, Ent.refl _ _, ret1 rfl rfl, rfl, rfl⟩
theorem ContainsFuncV_calls (H : AHeap) (f : FuncId) [hF : FuncT Try.prog f] (x : AV) (l : List Vr) (p : Vr → Bool) (hl : l.length ≤ 2000000) (hp : ∀ v ∈ l, ACalls Try.prog f [.agg v.cells, x] H fun r H' => r = avB (p v) ∧ H' = H) :
    ACalls Try.prog 53 [vlA l, .fnc (.func f) [] [x]] H fun r H' => r = avB (l.any p) ∧ H' = H := by
  have ci := IndexFuncV_calls H f x l p hl hp
  have hz := idxF_any p l 0
  generalize idxF p l 0 = z at *
  rw [← hz]
  clear hp hz
  refine acalls_of_aw2 Try.func53 rfl (by decide) ?_
  (first | focus (refine yy15 ?_; refine yy76 ?_; refine awl_s rfl (s_move (v := .fnc _ _ _) rfl) ?_; (refine zc auto_wl (ci) ?_; rintro r H' ⟨rfl, rfl⟩); refine awl_s rfl (s_geq rfl rfl) ?_; refine yy41 ?_; rotate_left) | fail)
  exact ⟨.inl rfl, _, _, _, Ent.refl _ _, ret1 rfl rfl, rfl, rfl⟩
theorem told1_calls (H : AHeap) (v : Vr) (s : Bs) : ACalls Try.prog 54 [.agg v.cells, .pce [.str s] 0] H fun r H' => r = avB (decide (v.name = s)) ∧ H' = H := by
  refine acalls_of_aw2 Try.func54 rfl (by decide) ?_
  (first | focus (refine yy2 ?_; refine zb1 rfl rfl rfl (fun oN hoN => ?_); refine yy6 ?_; refine yy99 ?_; refine yy43 ?_; refine yy144 ?_; refine aw_ret ?_; rotate_left) | fail)
  exact ⟨.inl rfl, _, _, _, Ent.gc auto_sub, ret1 rfl rfl, rfl, rfl⟩
theorem told2_calls (H : AHeap) (v : Vr) (s : Bs) : ACalls Try.prog 55 [.agg v.cells, .pce [.str s] 0] H fun r H' => r = avB (decide (v.on = s)) ∧ H' = H := by
  refine acalls_of_aw2 Try.func55 rfl (by decide) ?_
  (first | focus (refine yy2 ?_; refine zb1 rfl rfl rfl (fun oN hoN => ?_); refine yy6 ?_; refine yy99 ?_; refine yy43 ?_; refine yy144 ?_; refine aw_ret ?_; rotate_left) | fail)
  exact ⟨.inl rfl, _, _, _, Ent.gc auto_sub, ret1 rfl rfl, rfl, rfl⟩
theorem told_calls (H : AHeap) (n : Nd) (s : Bs) (hn : NdOk n) : ACalls Try.prog 30 [.agg n.cells, .str s] H fun r H' => r = avB (toldB n s) ∧ H' = H := by
  have c1 := fun H => ContainsFuncV_calls H 54 (.pce [.str s] 0) n.outs (fun v => decide (v.name = s)) hn.o (fun v _ => told1_calls H v s)
  have c2 := fun H => ContainsFuncV_calls H 55 (.pce [.str s] 0) n.locs (fun v => decide (v.on = s)) hn.l (fun v _ => told2_calls H v s)
  unfold toldB
  generalize (n.outs.any fun v => decide (v.name = s)) = b1 at *
  generalize (n.locs.any fun v => decide (v.on = s)) = b2 at *
  have hn0 : n.cells = [.str n.name, .sls n.ins.length (vrL n.ins), .sls n.outs.length (vrL n.outs), .sls n.locs.length (vrL n.locs), .sls n.eqs.length (eqL n.eqs), avI n.at_] := rfl
  rw [hn0] at *
  refine acalls_of_aw2 Try.func30 rfl (by decide) ?_
  cases b1
  · (first | focus (refine yy2 ?_; refine awl_box_1 rfl rfl rfl rfl ?_; refine awl_box_1 rfl rfl rfl rfl ?_; refine yy6 ?_; refine yy2 ?_; refine yy118 ?_; refine awl_s rfl (s_makeFunc rfl rfl) ?_; (refine zc auto_wl (c1 _) ?_; rintro r H' ⟨rfl, rfl⟩); refine yy18 ?_; refine awl_s rfl (s_fieldAddr_pce rfl) ?_; refine yy5 ?_; refine yy43 ?_; refine yy5 ?_; refine awl_s rfl (s_makeFunc rfl rfl) ?_; refine yy5 ?_; (refine zc auto_wl (c2 _) ?_; rintro r H' ⟨rfl, rfl⟩); refine yy63 ?_; refine yy41 ?_; rotate_left) | fail)
    exact ⟨.inl rfl, _, _, _, Ent.gc auto_sub, ret1 rfl rfl, rfl, rfl⟩
  · (first | focus (refine yy2 ?_; refine awl_box_1 rfl rfl rfl rfl ?_; refine awl_box_1 rfl rfl rfl rfl ?_; refine yy6 ?_; refine yy2 ?_; refine yy118 ?_; refine awl_s rfl (s_makeFunc rfl rfl) ?_; (refine zc auto_wl (c1 _) ?_; rintro r H' ⟨rfl, rfl⟩); refine yy7 ?_; refine yy66 ?_; refine yy69 ?_; refine yy41 ?_; rotate_left) | fail)
    exact ⟨.inl rfl, _, _, _, Ent.gc auto_sub, ret1 rfl rfl, rfl, rfl⟩
theorem ppart_calls {om : Nat} (l : List Bs) (e : Ex) (H : AHeap) (hb : exSz e ≤ 2000000) (hH : H om = some (setA l).ao) :
    ACalls Try.prog 52 [.mp om, exA e] H fun r H' => r = avB (partB (hasB l) e.op e.name e.kids) ∧ H' = H := by
  obtain ⟨op, nm, nn, at_, ks⟩ := e
  rw [exSz_eq] at hb
  simp only [Ex.kids, Ex.op, Ex.name, Ex.n, Ex.at_] at *
  show ACalls Try.prog _ [.mp om, .agg [.str op, .str nm, avI nn, avI at_, .sls ks.length (exL ks)]] H _
  have hml := exL_len ks
  have hkl : ks.length ≤ exSzL ks := by
    clear hml hb
    induction ks with
    | nil => exact Nat.zero_le _
    | cons x l ih => rw [exSzL, List.length_cons]; have := exSz_eq x; omega
  have hsg := setA_get l nm
  have ca := fun (H2 : AHeap) (h2 : H2 om = some (setA l).ao) => any_calls H2 ks (lateE (hasB l)) (by omega) (fun e he => plate_calls l _ e H2 (Nat.le_refl _) (by have := exSz_mem he; omega) h2)
  have c0 : ∀ k kr, ks = k :: kr → ∀ (H2 : AHeap), H2 om = some (setA l).ao → ACalls Try.prog 37 [.mp om, exA k] H2 fun r H' => r = avB (lateE (hasB l) k) ∧ H' = H2 := fun k kr e H2 h2 => plate_calls l _ k H2 (Nat.le_refl _) (by have := exSz_mem (l := ks) (e := k) (by rw [e]; exact List.mem_cons_self); omega) h2
  rw [← lateL_any] at ca
  generalize hX : partB (hasB l) op nm ks = X
  unfold partB at hX
  refine acalls_of_aw2 Try.func52 rfl (by decide) ?_
  by_cases g1 : op = ([112, 114, 101] : Bs) ∨ op = ([102, 98, 121] : Bs) ∨ op = ([99, 97, 108, 108] : Bs)
  · rw [if_pos g1] at hX
    rw [hX] at ca
    clear hX
    rcases g1 with rfl | rfl | rfl
    all_goals (
      (first | focus (refine yy2 ?_; refine zb1 rfl rfl rfl (fun oN hoN => ?_); refine yy6 ?_; refine yy54 ?_; refine yy70 ?_; refine yy65 ?_; refine aw_condp rfl (fun hc => ?_) (fun hc => ?_); refine yy35 ?_; refine aw_condp rfl (fun hc => ?_) (fun hc => ?_); refine yy2 ?_; refine yy95 ?_; refine yy10 ?_; (refine zc auto_wl (ca _ auto_heap) ?_; rintro r H' ⟨rfl, rfl⟩); refine yy41 ?_; refine yy33 ?_; rotate_left; exact absurd hc auto_no; exact absurd hc auto_no) | focus (refine yy2 ?_; refine zb1 rfl rfl rfl (fun oN hoN => ?_); refine yy6 ?_; refine yy54 ?_; refine yy70 ?_; refine yy65 ?_; refine yy1 ?_; intro hc; refine aw_condp rfl (fun hc => ?_) (fun hc => ?_); refine yy35 ?_; refine aw_condp rfl (fun hc => ?_) (fun hc => ?_); refine yy2 ?_; refine yy95 ?_; refine yy10 ?_; (refine zc auto_wl (ca _ auto_heap) ?_; rintro r H' ⟨rfl, rfl⟩); refine yy41 ?_; refine yy33 ?_; rotate_left; exact absurd hc auto_no; exact absurd hc auto_no) | focus (refine yy2 ?_; refine zb1 rfl rfl rfl (fun oN hoN => ?_); refine yy6 ?_; refine yy54 ?_; refine yy70 ?_; refine yy65 ?_; refine yy1 ?_; intro hc; refine yy28 ?_; intro hc; refine aw_condp rfl (fun hc => ?_) (fun hc => ?_); refine yy2 ?_; refine yy95 ?_; refine yy10 ?_; (refine zc auto_wl (ca _ auto_heap) ?_; rintro r H' ⟨rfl, rfl⟩); refine yy41 ?_; refine yy33 ?_; rotate_left; exact absurd hc auto_no) | fail)
      exact ⟨.inl rfl, _, _, _, Ent.gc auto_sub, ret1 rfl rfl, rfl, rfl⟩)
  rw [if_neg g1] at hX
  simp only [not_or] at g1
  obtain ⟨d1, d2, d3⟩ := g1
  replace d1 := Hdq.mk d1
  replace d2 := Hdq.mk d2
  replace d3 := Hdq.mk d3
  by_cases g2 : op = ([45, 62] : Bs)
  · rw [if_pos g2] at hX
    subst g2
    cases ks with
    | nil =>
      simp only at hX
      subst hX
      (first | focus (refine yy2 ?_; refine zb1 rfl rfl rfl (fun oN hoN => ?_); refine yy6 ?_; refine yy54 ?_; refine yy70 ?_; refine yy65 ?_; refine yy29 ?_; intro hc; refine yy30 ?_; intro hc; refine yy126 ?_; refine yy29 ?_; intro hc; refine aw_condp rfl (fun hc => ?_) (fun hc => ?_); refine yy99 ?_; refine yy115 ?_; refine yy123 ?_; refine yy7 ?_; refine zg1 rfl rfl rfl (fun hc => ?_) (fun hc => ?_); exact absurd hc auto_no; refine yy66 ?_; refine yy53 ?_; refine yy41 ?_; refine yy33 ?_; rotate_left; exact absurd hc auto_no) | fail)
      exact ⟨.inl rfl, _, _, _, Ent.gc auto_sub, ret1 rfl rfl, rfl, rfl⟩
    | cons k kr =>
      simp only at hX
      have c1 := c0 k kr rfl
      rw [hX] at c1
      have hseg := exL_get (l := k :: kr) (i := 0) (e := k) rfl
      simp only [List.length_cons] at *
      clear hX c0
      (first | focus (refine yy2 ?_; refine zb1 rfl rfl rfl (fun oN hoN => ?_); refine yy6 ?_; refine yy54 ?_; refine yy70 ?_; refine yy65 ?_; refine yy29 ?_; intro hc; refine yy30 ?_; intro hc; refine yy126 ?_; refine yy29 ?_; intro hc; refine aw_condp rfl (fun hc => ?_) (fun hc => ?_); refine yy99 ?_; refine yy115 ?_; refine yy123 ?_; refine yy7 ?_; refine zg1 rfl rfl rfl (fun hc => ?_) (fun hc => ?_); refine yy95 ?_; refine yy5 ?_; refine yy62 ?_; refine yy5 ?_; refine yy135 ?_; refine yy5 ?_; refine yy44 ?_; refine yy5 ?_; refine yy101 ?_; refine yy5 ?_; (refine zc auto_wl (c1 _ auto_heap) ?_; rintro r H' ⟨rfl, rfl⟩); refine yy69 ?_; refine yy41 ?_; refine yy33 ?_; rotate_left; exact absurd hc auto_no; exact absurd hc auto_no) | fail)
      exact ⟨.inl rfl, _, _, _, Ent.gc auto_sub, ret1 rfl rfl, rfl, rfl⟩
  rw [if_neg g2] at hX
  replace g2 := Hdq.mk g2
  by_cases g3 : op = ([119, 104, 101, 110] : Bs)
  · rw [if_pos g3] at hX
    subst g3
    rw [hX] at hsg
    clear hX
    (first | focus (refine yy2 ?_; refine zb1 rfl rfl rfl (fun oN hoN => ?_); refine yy6 ?_; refine yy54 ?_; refine yy70 ?_; refine yy65 ?_; refine yy29 ?_; intro hc; refine yy30 ?_; intro hc; refine yy126 ?_; refine yy29 ?_; intro hc; refine yy29 ?_; intro hc; refine aw_condp rfl (fun hc => ?_) (fun hc => ?_); refine yy2 ?_; refine yy95 ?_; refine yy10 ?_; refine yy138 ?_; refine yy41 ?_; refine yy33 ?_; rotate_left; exact absurd hc auto_no) | fail)
    exact ⟨.inl rfl, _, _, _, Ent.gc auto_sub, ret1 rfl rfl, rfl, rfl⟩
  rw [if_neg g3] at hX
  replace g3 := Hdq.mk g3
  by_cases g4 : op = ([109, 101, 114, 103, 101] : Bs)
  · rw [if_pos g4] at hX
    subst g4
    generalize hasB l nm = b1 at *
    cases b1
    · rw [Bool.false_or] at hX
      rw [hX] at ca
      clear hX
      (first | focus (refine yy2 ?_; refine zb1 rfl rfl rfl (fun oN hoN => ?_); refine yy6 ?_; refine yy54 ?_; refine yy70 ?_; refine yy65 ?_; refine yy29 ?_; intro hc; refine yy30 ?_; intro hc; refine yy126 ?_; refine yy29 ?_; intro hc; refine yy29 ?_; intro hc; refine yy29 ?_; intro hc; refine aw_condp rfl (fun hc => ?_) (fun hc => ?_); refine yy2 ?_; refine yy95 ?_; refine yy10 ?_; refine yy138 ?_; refine yy18 ?_; refine yy95 ?_; refine yy5 ?_; refine yy62 ?_; refine yy5 ?_; refine yy135 ?_; refine yy5 ?_; (refine zc auto_wl (ca _ auto_heap) ?_; rintro r H' ⟨rfl, rfl⟩); refine yy63 ?_; refine yy41 ?_; refine yy33 ?_; rotate_left; exact absurd hc auto_no) | fail)
      exact ⟨.inl rfl, _, _, _, Ent.gc auto_sub, ret1 rfl rfl, rfl, rfl⟩
    · rw [Bool.true_or] at hX
      subst hX
      (first | focus (refine yy2 ?_; refine zb1 rfl rfl rfl (fun oN hoN => ?_); refine yy6 ?_; refine yy54 ?_; refine yy70 ?_; refine yy65 ?_; refine yy29 ?_; intro hc; refine yy30 ?_; intro hc; refine yy126 ?_; refine yy29 ?_; intro hc; refine yy29 ?_; intro hc; refine yy29 ?_; intro hc; refine aw_condp rfl (fun hc => ?_) (fun hc => ?_); refine yy2 ?_; refine yy95 ?_; refine yy10 ?_; refine yy138 ?_; refine yy7 ?_; refine yy66 ?_; refine yy69 ?_; refine yy41 ?_; refine yy33 ?_; rotate_left; exact absurd hc auto_no) | fail)
      exact ⟨.inl rfl, _, _, _, Ent.gc auto_sub, ret1 rfl rfl, rfl, rfl⟩
  rw [if_neg g4] at hX
  replace g4 := Hdq.mk g4
  subst hX
  (first | focus (refine yy2 ?_; refine zb1 rfl rfl rfl (fun oN hoN => ?_); refine yy6 ?_; refine yy54 ?_; refine yy70 ?_; refine yy65 ?_; refine yy29 ?_; intro hc; refine yy30 ?_; intro hc; refine yy126 ?_; refine yy29 ?_; intro hc; refine yy29 ?_; intro hc; refine yy29 ?_; intro hc; refine yy30 ?_; intro hc; refine yy39 ?_; refine yy92 ?_; rotate_left) | fail)
  exact ⟨.inl rfl, _, _, _, Ent.gc auto_sub, ret1 rfl rfl, rfl, rfl⟩
theorem wrongL_at (p : Bs → Bool) {ks : List Ex} {i : Nat} {k : Ex} (h : ks[i]? = some k) : wrongL p (ks.drop i) = match wrongE p k with | some a => some a | none => wrongL p (ks.drop (i + 1)) := by
  have hlt := (List.getElem?_eq_some_iff.1 h).1
  rw [List.drop_eq_getElem_cons hlt, (List.getElem?_eq_some_iff.1 h).2, wrongL]
  cases wrongE p k <;> rfl
def wrongA (x : Option Nat) (a : Nat) : AV := .tup [avI (x.getD a), avB x.isSome]
theorem wrong_calls {om : Nat} (l : List Bs) (m : Nat) : ∀ (e : Ex) (H : AHeap), exSz e ≤ m → exSz e ≤ 2000000 → H om = some (setA l).ao →
    ACalls Try.prog 29 [.mp om, exA e] H fun r H' => r = wrongA (wrongE (hasB l) e) e.at_ ∧ H' = H := by
  induction m with
  | zero => intro e H h; rw [exSz_eq] at h; omega
  | succ m ih =>
    intro e H h hb hH
    have cp := fun H2 h2 => ppart_calls (om := om) l e H2 hb h2
    obtain ⟨op, nm, nn, at_, ks⟩ := e
    rw [exSz_eq] at h hb
    unfold wrongE
    simp only [Ex.kids, Ex.op, Ex.name, Ex.n, Ex.at_] at *
    show ACalls Try.prog _ [.mp om, .agg [.str op, .str nm, avI nn, avI at_, .sls ks.length (exL ks)]] H _
    simp only [exA, Ex.cells, Ex.kids, Ex.op, Ex.name, Ex.n, Ex.at_] at cp
    have hml := exL_len ks
    have hkl : ks.length ≤ exSzL ks := by
      clear hml h hb cp
      induction ks with
      | nil => exact Nat.zero_le _
      | cons x l ih => rw [exSzL, List.length_cons]; have := exSz_eq x; omega
    generalize partB (hasB l) op nm ks = pb at *
    generalize hZ : wrongL (hasB l) ks = Z
    replace hZ := Hdn.mk hZ
    refine acalls_of_aw2 Try.func29 rfl (by decide) ?_
    (first | focus (refine yy2 ?_; refine zb1 rfl rfl rfl (fun oN hoN => ?_); refine yy21 ?_; refine yy6 ?_; refine yy54 ?_; refine yy115 ?_; refine yy7 ?_; refine yy70 ?_; rotate_left) | fail)
    obtain ⟨oE, hoEe⟩ : ∃ x, x = oN := ⟨_, rfl⟩
    subst hoEe
    have hE0 : H oE = none := hoN
    have hEm : oE ≠ om := fun e => by rw [e, hH] at hE0; cases hE0
    refine aw_loop (fun mm R1 H1 => ∃ (i : Nat), i ≤ ks.length ∧ Hdn (wrongL (hasB l) (ks.drop i) = Z) ∧ H1 = H.set oE (.cel [.str op, .str nm, avI nn, avI at_, .sls ks.length (exL ks)]) ∧ R1 = [(0, .mp om), (3, .ptr oE 0), (11, .sls ks.length (exL ks)), (12, avI ks.length), (13, avI i)] ∧ ks.length - i = mm) ?_ ?_
    · exact ⟨_, _, _, Ent.sub _ (by (repeat' (first | exact RSub.nil _ | apply RSub.cons)); all_goals rfl), 0, Nat.zero_le _, hZ, rfl, rfl, rfl⟩
    clear hZ hoN
    rintro mm R1 H1 ⟨i, hi, hZ, rfl, rfl, rfl⟩
    by_cases hlt : i < ks.length
    · have hg : ks[i]? = some ks[i] := List.getElem?_eq_getElem hlt
      have hseg := exL_get hg
      have hmem := exSz_mem (List.getElem_mem hlt)
      rw [wrongL_at (hasB l) hg] at hZ
      generalize ks[i] = k at *
      have cb : ∀ H2 : AHeap, H2 om = some (setA l).ao → ACalls Try.prog 29 [.mp om, exA k] H2 fun r H' => r = wrongA (wrongE (hasB l) k) k.at_ ∧ H' = H2 := fun H2 h2 => ih k H2 (by omega) (by omega) h2
      generalize wrongE (hasB l) k = wk at *
      clear ih hg hmem cp
      unfold wrongA at cb
      cases wk with
      | none =>
        simp only [Option.getD_none, Option.isSome_none] at hZ cb
        (first | focus (refine yy94 ?_; refine aw_condp rfl (fun hc => ?_) (fun hc => ?_); refine yy13 ?_; refine yy2 ?_; refine yy44 ?_; refine yy101 ?_; refine awl_alloc rfl rfl rfl (fun oN hoN => ?_); refine yy11 ?_; refine yy16 ?_; refine yy95 ?_; refine yy26 ?_; (refine zc auto_wl (cb _ auto_heap) ?_; rintro r H' ⟨rfl, rfl⟩); refine yy80 ?_; refine yy21 ?_; refine yy6 ?_; refine yy19 ?_; refine yy81 ?_; refine yy39 ?_; refine yy32 ?_; refine yy109 ?_; refine yy7 ?_; refine yy4 ?_; rotate_left; exact absurd hc auto_no) | fail)
        exact ⟨ks.length - (i + 1), _, _, by omega, Ent.tog (by (repeat' (first | exact RSub.nil _ | apply RSub.cons)); all_goals rfl) auto_sub, i + 1, by omega, hZ, rfl, rfl, rfl⟩
      | some a =>
        simp only [Option.getD_some, Option.isSome_some] at hZ cb
        obtain rfl : Z = some a := hZ.out.symm
        (first | focus (refine yy94 ?_; refine aw_condp rfl (fun hc => ?_) (fun hc => ?_); refine yy13 ?_; refine yy2 ?_; refine yy44 ?_; refine yy101 ?_; refine awl_alloc rfl rfl rfl (fun oN hoN => ?_); refine yy11 ?_; refine yy16 ?_; refine yy95 ?_; refine yy26 ?_; (refine zc auto_wl (cb _ auto_heap) ?_; rintro r H' ⟨rfl, rfl⟩); refine yy80 ?_; refine yy21 ?_; refine yy6 ?_; refine yy19 ?_; refine yy122 ?_; refine yy19 ?_; refine yy21 ?_; refine yy41 ?_; refine yy33 ?_; refine yy102 ?_; rotate_left; exact absurd hc auto_no) | fail)
        exact ⟨.inl rfl, _, _, _, Ent.gc auto_sub, ret_2 rfl (rv1_tmp rfl) (rv1_tmp rfl), rfl, rfl⟩
    · obtain rfl : i = ks.length := by omega
      obtain rfl : Z = none := by rw [← hZ.out, List.drop_length, wrongL]
      clear hZ ih
      cases pb
      · (first | focus (refine yy94 ?_; refine yy34 ?_; intro hc; refine yy73 ?_; (apply awt_s; · exact s_fieldAddr_ptr rfl); (apply awt_s; · exact s_load_cel rfl auto_heap rfl); (apply awt_s; · exact s_move (v := .mp _) rfl); (apply awt_s; · exact s_load_agg rfl auto_heap rfl rfl (by first | decide | exact Nat.le_of_ble_eq_true rfl)); (apply awt_s; · exact s_callc auto_wl (cp _ auto_heap)); (apply awt_s; · exact s_assign (v := .raw _) rfl); (apply awt_s; · exact s_assign (v := .raw _) rfl); refine yy77 ?_; refine aw_ret ?_; rotate_left) | fail)
        exact ⟨.inl rfl, _, _, _, Ent.gc auto_sub, ret_2 rfl (rv1_tmp rfl) (rv1_tmp rfl), rfl, rfl⟩
      · (first | focus (refine yy94 ?_; refine yy34 ?_; intro hc; refine yy73 ?_; (apply awt_s; · exact s_fieldAddr_ptr rfl); (apply awt_s; · exact s_load_cel rfl auto_heap rfl); (apply awt_s; · exact s_move (v := .mp _) rfl); (apply awt_s; · exact s_load_agg rfl auto_heap rfl rfl (by first | decide | exact Nat.le_of_ble_eq_true rfl)); (apply awt_s; · exact s_callc auto_wl (cp _ auto_heap)); (apply awt_s; · exact s_assign (v := .raw _) rfl); (apply awt_s; · exact s_assign (v := .raw _) rfl); refine yy77 ?_; refine aw_ret ?_; rotate_left) | fail)
        exact ⟨.inl rfl, _, _, _, Ent.gc auto_sub, ret_2 rfl (rv1_tmp rfl) (rv1_tmp rfl), rfl, rfl⟩
end Go.Proofs.Ytmgkhfnhaeplgaa

namespace Go.Proofs.Ytmgkhfnhaeplgaa
open Go Go.Am Go.Proofs
set_option linter.unusedSimpArgs false
set_option linter.unusedVariables false
set_option maxRecDepth 20000
set_option maxHeartbeats 8000000

/-! The program: Check. -/
def checkQ (p : Bs → Bool) (n : Nd) : List Eqn → Option Nat
  | [] => none
  | q :: r => match wrongE p q.e with
    | some a => some a
    | none => if p q.name && toldB n q.name then some q.at_ else checkQ p n r
def checkN : List Nd → Option Nat
  | [] => none
  | n :: r => match checkQ (hasB (lateNames n)) n n.eqs with
    | some a => some a
    | none => checkN r
theorem checkQ_at (p : Bs → Bool) (n : Nd) {l : List Eqn} {i : Nat} {x : Eqn} (h : l[i]? = some x) : checkQ p n (l.drop i) = match wrongE p x.e with | some a => some a | none => if p x.name && toldB n x.name then some x.at_ else checkQ p n (l.drop (i + 1)) := by
  have hlt := (List.getElem?_eq_some_iff.1 h).1
  rw [List.drop_eq_getElem_cons hlt, (List.getElem?_eq_some_iff.1 h).2, checkQ]
theorem checkN_at {l : List Nd} {i : Nat} {x : Nd} (h : l[i]? = some x) : checkN (l.drop i) = match checkQ (hasB (lateNames x)) x x.eqs with | some a => some a | none => checkN (l.drop (i + 1)) := by
  have hlt := (List.getElem?_eq_some_iff.1 h).1
  rw [List.drop_eq_getElem_cons hlt, (List.getElem?_eq_some_iff.1 h).2, checkN]
def faultA (x : Option Nat) : AV := match x with | some a => .agg [avI 11, avI a] | none => .agg [avI 0, avI 0]
theorem Check_calls (H : AHeap) (l : List Nd) (hl : l.length ≤ 2000000) (hok : ∀ n ∈ l, NdOk n) : ACalls Try.prog 13 [ndsA l] H fun r H' => r = faultA (checkN l) ∧ H' = H := by
  have hvl := nd_len l
  generalize hZ : checkN l = Z
  replace hZ := Hdn.mk hZ
  refine acalls_of_aw1 Try.func13 rfl (by decide) ?_
  (first | focus (refine yy2 ?_; refine awl_alloc rfl rfl rfl (fun oN hoN => ?_); refine yy42 ?_; refine yy27 ?_; refine yy115 ?_; refine yy7 ?_; refine yy70 ?_; rotate_left) | fail)
  obtain ⟨oR, hoRe⟩ : ∃ x, x = oN := ⟨_, rfl⟩
  subst hoRe
  have hR0 : H oR = none := hoN
  refine aw_loop (fun mm R1 H1 => ∃ (i : Nat), i ≤ l.length ∧ Hdn (checkN (l.drop i) = Z) ∧ H1 = H.set oR (.cel [avI 0, avI 0]) ∧ R1 = [(2, .ptr oR 0), (10, ndsA l), (11, avI l.length), (12, avI i)] ∧ l.length - i = mm) ?_ ?_
  · exact ⟨_, _, _, Ent.sub _ (by (repeat' (first | exact RSub.nil _ | apply RSub.cons)); all_goals rfl), 0, Nat.zero_le _, hZ, rfl, rfl, rfl⟩
  clear hZ hoN
  rintro mm R1 H1 ⟨i, hi, hZ, rfl, rfl, rfl⟩
  by_cases hlt : i < l.length
  · have hg : l[i]? = some l[i] := List.getElem?_eq_getElem hlt
    have hn := hok _ (List.getElem_mem hlt)
    rw [checkN_at hg] at hZ
    generalize l[i] = n at *
    have hseg : List.take 6 (List.drop (i * 6) (ndL l)) = [.str n.name, .sls n.ins.length (vrL n.ins), .sls n.outs.length (vrL n.outs), .sls n.locs.length (vrL n.locs), .sls n.eqs.length (eqL n.eqs), avI n.at_] := nd_get hg
    clear hg
    have heq := eq_len n.eqs
    have hbq := hn.q
    have cl := fun H => lates_calls H n hn
    have ct := fun H s => told_calls H n s hn
    generalize lateNames n = nm at *
    generalize hZ4 : checkQ (hasB nm) n n.eqs = Zq at *
    replace hZ4 := Hdn.mk hZ4
    (first | focus (refine yy94 ?_; refine aw_condp rfl (fun hc => ?_) (fun hc => ?_); refine yy13 ?_; refine yy2 ?_; refine yy44 ?_; refine yy101 ?_; refine awl_alloc rfl rfl rfl (fun oN hoN => ?_); refine yy11 ?_; refine yy16 ?_; refine yy26 ?_; (refine zc auto_wl (cl _) ?_; rintro r H' ⟨om, rfl, hom, rfl⟩); refine awl_s rfl (s_assign (v := .mp _) rfl) ?_; refine yy16 ?_; refine yy10 ?_; refine yy115 ?_; refine yy7 ?_; refine yy70 ?_; rotate_left; exact absurd hc auto_no) | fail)
    obtain ⟨oX, hoXe⟩ : ∃ x, x = oN := ⟨_, rfl⟩
    subst hoXe
    have hX0 : H oX = none := by (first | assumption | exact AHeap.none_of_set ((by assumption)) | exact AHeap.none_of_set (AHeap.none_of_set ((by assumption))) | exact AHeap.none_of_set (AHeap.none_of_set (AHeap.none_of_set ((by assumption)))) | exact AHeap.none_of_set (AHeap.none_of_set (AHeap.none_of_set (AHeap.none_of_set ((by assumption))))) | exact AHeap.none_of_set (AHeap.none_of_set (AHeap.none_of_set (AHeap.none_of_set (AHeap.none_of_set ((by assumption)))))) | exact AHeap.none_of_set (AHeap.none_of_set (AHeap.none_of_set (AHeap.none_of_set (AHeap.none_of_set (AHeap.none_of_set ((by assumption))))))) | exact AHeap.none_of_set (AHeap.none_of_set (AHeap.none_of_set (AHeap.none_of_set (AHeap.none_of_set (AHeap.none_of_set (AHeap.none_of_set ((by assumption)))))))) | exact AHeap.none_of_set (AHeap.none_of_set (AHeap.none_of_set (AHeap.none_of_set (AHeap.none_of_set (AHeap.none_of_set (AHeap.none_of_set (AHeap.none_of_set ((by assumption))))))))) | exact AHeap.none_of_set (AHeap.none_of_set (AHeap.none_of_set (AHeap.none_of_set (AHeap.none_of_set (AHeap.none_of_set (AHeap.none_of_set (AHeap.none_of_set (AHeap.none_of_set ((by assumption)))))))))) | exact AHeap.none_of_set (AHeap.none_of_set (AHeap.none_of_set (AHeap.none_of_set (AHeap.none_of_set (AHeap.none_of_set (AHeap.none_of_set (AHeap.none_of_set (AHeap.none_of_set (AHeap.none_of_set ((by assumption))))))))))))
    have hXR : oX ≠ oR := by (first | assumption | exact Ne.symm (by assumption) | exact AHeap.ne_of_fresh (by assumption) | exact Ne.symm (AHeap.ne_of_fresh (by assumption)) | exact AHeap.ne_of_fresh (AHeap.none_of_set (by assumption)) | exact Ne.symm (AHeap.ne_of_fresh (AHeap.none_of_set (by assumption))) | exact AHeap.ne_ns (by assumption) (by assumption) | exact AHeap.ne_sn (by assumption) (by assumption) | exact AHeap.ne_ns (by assumption) auto_heap2 | exact AHeap.ne_sn (by assumption) auto_heap2)
    have hM0 : H om = none := by (first | assumption | exact AHeap.none_of_set ((by assumption)) | exact AHeap.none_of_set (AHeap.none_of_set ((by assumption))) | exact AHeap.none_of_set (AHeap.none_of_set (AHeap.none_of_set ((by assumption)))) | exact AHeap.none_of_set (AHeap.none_of_set (AHeap.none_of_set (AHeap.none_of_set ((by assumption))))) | exact AHeap.none_of_set (AHeap.none_of_set (AHeap.none_of_set (AHeap.none_of_set (AHeap.none_of_set ((by assumption)))))) | exact AHeap.none_of_set (AHeap.none_of_set (AHeap.none_of_set (AHeap.none_of_set (AHeap.none_of_set (AHeap.none_of_set ((by assumption))))))) | exact AHeap.none_of_set (AHeap.none_of_set (AHeap.none_of_set (AHeap.none_of_set (AHeap.none_of_set (AHeap.none_of_set (AHeap.none_of_set ((by assumption)))))))) | exact AHeap.none_of_set (AHeap.none_of_set (AHeap.none_of_set (AHeap.none_of_set (AHeap.none_of_set (AHeap.none_of_set (AHeap.none_of_set (AHeap.none_of_set ((by assumption))))))))) | exact AHeap.none_of_set (AHeap.none_of_set (AHeap.none_of_set (AHeap.none_of_set (AHeap.none_of_set (AHeap.none_of_set (AHeap.none_of_set (AHeap.none_of_set (AHeap.none_of_set ((by assumption)))))))))) | exact AHeap.none_of_set (AHeap.none_of_set (AHeap.none_of_set (AHeap.none_of_set (AHeap.none_of_set (AHeap.none_of_set (AHeap.none_of_set (AHeap.none_of_set (AHeap.none_of_set (AHeap.none_of_set ((by assumption))))))))))))
    have hMR : om ≠ oR := by (first | assumption | exact Ne.symm (by assumption) | exact AHeap.ne_of_fresh (by assumption) | exact Ne.symm (AHeap.ne_of_fresh (by assumption)) | exact AHeap.ne_of_fresh (AHeap.none_of_set (by assumption)) | exact Ne.symm (AHeap.ne_of_fresh (AHeap.none_of_set (by assumption))) | exact AHeap.ne_ns (by assumption) (by assumption) | exact AHeap.ne_sn (by assumption) (by assumption) | exact AHeap.ne_ns (by assumption) auto_heap2 | exact AHeap.ne_sn (by assumption) auto_heap2)
    have hMX : om ≠ oX := by (first | assumption | exact Ne.symm (by assumption) | exact AHeap.ne_of_fresh (by assumption) | exact Ne.symm (AHeap.ne_of_fresh (by assumption)) | exact AHeap.ne_of_fresh (AHeap.none_of_set (by assumption)) | exact Ne.symm (AHeap.ne_of_fresh (AHeap.none_of_set (by assumption))) | exact AHeap.ne_ns (by assumption) (by assumption) | exact AHeap.ne_sn (by assumption) (by assumption) | exact AHeap.ne_ns (by assumption) auto_heap2 | exact AHeap.ne_sn (by assumption) auto_heap2)
    refine aw_loop (fun mm R2 H2 => ∃ (k : Nat), k ≤ n.eqs.length ∧ Hdn (checkQ (hasB nm) n (n.eqs.drop k) = Zq) ∧ H2 oR = some (.cel [avI 0, avI 0]) ∧ H2 oX = some (.cel [.str n.name, .sls n.ins.length (vrL n.ins), .sls n.outs.length (vrL n.outs), .sls n.locs.length (vrL n.locs), .sls n.eqs.length (eqL n.eqs), avI n.at_]) ∧ H2 om = some (setA nm).ao ∧ (∀ p y, H p = some y → H2 p = some y) ∧ R2 = [(2, .ptr oR 0), (4, .ptr oX 0), (5, .mp om), (10, ndsA l), (11, avI l.length), (12, avI i), (19, .sls n.eqs.length (eqL n.eqs)), (20, avI n.eqs.length), (21, avI k)] ∧ n.eqs.length - k = mm) ?_ ?_
    · exact ⟨_, _, _, Ent.sub _ (by (repeat' (first | exact RSub.nil _ | apply RSub.cons)); all_goals rfl), 0, Nat.zero_le _, hZ4, by exact auto_heap, by exact auto_heap, by exact auto_heap, fun p y hp => by
        have hp3 : p ≠ oR := fun e => by rw [e, hR0] at hp; cases hp
        have hp4 : p ≠ oX := fun e => by rw [e, hX0] at hp; cases hp
        have hp5 : p ≠ om := fun e => by rw [e, hM0] at hp; cases hp
        exact auto_heap, rfl, rfl⟩
    clear hZ4 hoN hom hseg cl
    rintro mm R2 H2 ⟨k, hk, hZ4, q1, q2, q3, hfr, rfl, rfl⟩
    by_cases hkt : k < n.eqs.length
    · have hg : n.eqs[k]? = some n.eqs[k] := List.getElem?_eq_getElem hkt
      have hbx := hn.e _ (List.getElem_mem hkt)
      rw [checkQ_at (hasB nm) n hg] at hZ4
      generalize n.eqs[k] = x at *
      have hsq : List.take 7 (List.drop (k * 7) (eqL n.eqs)) = [.str x.name, .str x.e.op, .str x.e.name, avI x.e.n, avI x.e.at_, .sls x.e.kids.length (exL x.e.kids), avI x.at_] := eq_get hg
      clear hg
      have hsg := setA_get nm x.name
      have cw := fun H h => wrong_calls (om := om) nm _ x.e H (Nat.le_refl _) hbx h
      have ct := fun H => ct H x.name
      unfold wrongA at cw
      simp only [exA, Ex.cells] at cw
      generalize hasB nm x.name = b1 at *
      generalize toldB n x.name = b2 at *
      generalize wrongE (hasB nm) x.e = wk at *
      cases wk with
      | some a =>
        simp only [Option.getD_some, Option.isSome_some] at hZ4 cw
        obtain rfl : Zq = some a := hZ4.out.symm
        obtain rfl : Z = some a := hZ.out.symm
        (first | focus (refine yy94 ?_; refine aw_condp rfl (fun hc => ?_) (fun hc => ?_); refine yy13 ?_; refine yy2 ?_; refine yy44 ?_; refine yy101 ?_; refine awl_alloc rfl rfl rfl (fun oN hoN => ?_); refine yy11 ?_; refine yy42 ?_; refine yy95 ?_; refine yy62 ?_; refine yy26 ?_; (refine zc auto_wl (cw _ auto_heap) ?_; rintro r H' ⟨rfl, rfl⟩); refine yy80 ?_; refine yy21 ?_; refine yy6 ?_; refine yy19 ?_; refine yy122 ?_; refine yy19 ?_; refine yy20 ?_; refine yy36 ?_; refine yy102 ?_; refine k_seq_ret ?_; refine k_block_ret ?_; refine yy33 ?_; refine yy102 ?_; rotate_left; exact absurd hc auto_no) | fail)
        exact ⟨.inl rfl, _, _, _, Ent.cellRet 2 [avI 11, avI a] rfl auto_heap (by ((repeat' (first | exact WC.nil | apply WC.cons)); all_goals (first | exact W.of rfl | exact W.int rfl | exact W.nilb rfl | exact W.empb rfl | exact W.bysx rfl | exact W.nils rfl | exact W.emps rfl | exact W.slsx rfl))) (fun sp sy shp => by
            have hp2 := hfr sp sy shp
            have hp3 : sp ≠ oR := fun e => by rw [e, hR0] at shp; cases shp
            have hp5 : H2 sp ≠ none := fun e => by rw [hp2] at e; cases e
            have hp7 : sp ≠ oN := fun e => hp5 (by rw [e]; exact hoN)
            exact ⟨hp3, auto_heap⟩), ret_1 rfl (rv1_agg (m := 2) rfl rfl rfl (by decide)), rfl, rfl⟩
      | none =>
        simp only [Option.getD_none, Option.isSome_none] at hZ4 cw
        cases b1
        · simp only [Bool.false_and, Bool.false_eq_true, if_false] at hZ4
          (first | focus (refine yy94 ?_; refine aw_condp rfl (fun hc => ?_) (fun hc => ?_); refine yy13 ?_; refine yy2 ?_; refine yy44 ?_; refine yy101 ?_; refine awl_alloc rfl rfl rfl (fun oN hoN => ?_); refine yy11 ?_; refine yy42 ?_; refine yy95 ?_; refine yy62 ?_; refine yy26 ?_; (refine zc auto_wl (cw _ auto_heap) ?_; rintro r H' ⟨rfl, rfl⟩); refine yy80 ?_; refine yy21 ?_; refine yy6 ?_; refine yy19 ?_; refine yy25 ?_; refine yy2 ?_; refine yy95 ?_; refine yy10 ?_; refine yy138 ?_; refine yy7 ?_; refine yy66 ?_; refine yy63 ?_; refine yy81 ?_; refine yy39 ?_; refine yy32 ?_; refine yy109 ?_; refine yy7 ?_; refine yy4 ?_; rotate_left; exact absurd hc auto_no) | fail)
          exact ⟨n.eqs.length - (k + 1), _, _, by omega, Ent.tog (by (repeat' (first | exact RSub.nil _ | apply RSub.cons)); all_goals rfl) auto_sub, k + 1, by omega, hZ4, q1, q2, q3, hfr, rfl, rfl⟩
        · cases b2
          · simp only [Bool.and_false, Bool.false_eq_true, if_false] at hZ4
            (first | focus (refine yy94 ?_; refine aw_condp rfl (fun hc => ?_) (fun hc => ?_); refine yy13 ?_; refine yy2 ?_; refine yy44 ?_; refine yy101 ?_; refine awl_alloc rfl rfl rfl (fun oN hoN => ?_); refine yy11 ?_; refine yy42 ?_; refine yy95 ?_; refine yy62 ?_; refine yy26 ?_; (refine zc auto_wl (cw _ auto_heap) ?_; rintro r H' ⟨rfl, rfl⟩); refine yy80 ?_; refine yy21 ?_; refine yy6 ?_; refine yy19 ?_; refine yy25 ?_; refine yy2 ?_; refine yy95 ?_; refine yy10 ?_; refine yy138 ?_; refine yy18 ?_; refine yy26 ?_; refine yy5 ?_; refine yy62 ?_; refine yy5 ?_; refine yy135 ?_; refine yy5 ?_; (refine zc auto_wl (ct _) ?_; rintro r H' ⟨rfl, rfl⟩); refine yy69 ?_; refine yy81 ?_; refine yy39 ?_; refine yy32 ?_; refine yy109 ?_; refine yy7 ?_; refine yy4 ?_; rotate_left; exact absurd hc auto_no) | fail)
            exact ⟨n.eqs.length - (k + 1), _, _, by omega, Ent.tog (by (repeat' (first | exact RSub.nil _ | apply RSub.cons)); all_goals rfl) auto_sub, k + 1, by omega, hZ4, q1, q2, q3, hfr, rfl, rfl⟩
          · simp only [Bool.and_self, if_true] at hZ4
            obtain rfl : Zq = some x.at_ := hZ4.out.symm
            obtain rfl : Z = some x.at_ := hZ.out.symm
            (first | focus (refine yy94 ?_; refine aw_condp rfl (fun hc => ?_) (fun hc => ?_); refine yy13 ?_; refine yy2 ?_; refine yy44 ?_; refine yy101 ?_; refine awl_alloc rfl rfl rfl (fun oN hoN => ?_); refine yy11 ?_; refine yy42 ?_; refine yy95 ?_; refine yy62 ?_; refine yy26 ?_; (refine zc auto_wl (cw _ auto_heap) ?_; rintro r H' ⟨rfl, rfl⟩); refine yy80 ?_; refine yy21 ?_; refine yy6 ?_; refine yy19 ?_; refine yy25 ?_; refine yy2 ?_; refine yy95 ?_; refine yy10 ?_; refine yy138 ?_; refine yy18 ?_; refine yy26 ?_; refine yy5 ?_; refine yy62 ?_; refine yy5 ?_; refine yy135 ?_; refine yy5 ?_; (refine zc auto_wl (ct _) ?_; rintro r H' ⟨rfl, rfl⟩); refine yy112 ?_; refine yy99 ?_; refine yy20 ?_; refine yy36 ?_; refine yy33 ?_; refine k_seq_ret ?_; refine k_block_ret ?_; refine yy33 ?_; refine yy102 ?_; rotate_left; exact absurd hc auto_no) | fail)
            exact ⟨.inl rfl, _, _, _, Ent.cellRet 2 [avI 11, avI x.at_] rfl auto_heap (by ((repeat' (first | exact WC.nil | apply WC.cons)); all_goals (first | exact W.of rfl | exact W.int rfl | exact W.nilb rfl | exact W.empb rfl | exact W.bysx rfl | exact W.nils rfl | exact W.emps rfl | exact W.slsx rfl))) (fun sp sy shp => by
            have hp2 := hfr sp sy shp
            have hp3 : sp ≠ oR := fun e => by rw [e, hR0] at shp; cases shp
            have hp5 : H2 sp ≠ none := fun e => by rw [hp2] at e; cases e
            have hp7 : sp ≠ oN := fun e => hp5 (by rw [e]; exact hoN)
            exact ⟨hp3, auto_heap⟩), ret_1 rfl (rv1_agg (m := 2) rfl rfl rfl (by decide)), rfl, rfl⟩
    · obtain rfl : k = n.eqs.length := by omega
      obtain rfl : Zq = none := by rw [← hZ4.out, List.drop_length, checkQ]
      clear hZ4
      (first | focus (refine yy94 ?_; refine yy90 ?_; intro hc; refine aw_exit ?_; refine k_seq_exit ?_; refine k_seq_exit ?_; refine k_block_eq ?_; refine yy100 ?_; refine yy32 ?_; refine yy109 ?_; refine yy7 ?_; refine yy4 ?_; rotate_left) | fail)
      exact ⟨l.length - (i + 1), _, H.set oR (.cel [avI 0, avI 0]), by omega, Ent.tog (by (repeat' (first | exact RSub.nil _ | apply RSub.cons)); all_goals rfl) (Sub.set q1 (fun p y hpo hp => hfr p y hp)), i + 1, by omega, hZ, rfl, rfl, rfl⟩
  · obtain rfl : i = l.length := by omega
    obtain rfl : Z = none := by rw [← hZ.out, List.drop_length, checkN]
    clear hZ
    (first | focus (refine yy94 ?_; refine yy34 ?_; intro hc; refine yy2 ?_; refine yy20 ?_; refine yy11 ?_; refine yy108 ?_; rotate_left) | fail)
    exact ⟨.inl rfl, _, _, _, Ent.cellRet 2 [avI 0, avI 0] rfl auto_heap (by ((repeat' (first | exact WC.nil | apply WC.cons)); all_goals (first | exact W.of rfl | exact W.int rfl | exact W.nilb rfl | exact W.empb rfl | exact W.bysx rfl | exact W.nils rfl | exact W.emps rfl | exact W.slsx rfl))) auto_hs, ret_1 rfl (rv1_agg (m := 2) rfl rfl rfl (by decide)), rfl, rfl⟩
end Go.Proofs.Ytmgkhfnhaeplgaa

namespace Go.Proofs.Ytmgkhfnhaeplgaa
open Go
set_option linter.unusedSimpArgs false
set_option linter.unusedVariables false
set_option maxRecDepth 20000

/-! The parser's trees are small, and each operation has its kids. Plain. -/
mutual
def arE : Ex → Prop
  | .mk op _ _ _ ks => arOf op ≤ ks.length ∧ arL ks
def arL : List Ex → Prop
  | [] => True
  | e :: r => arE e ∧ arL r
end
theorem arL_app : ∀ {l m : List Ex}, arL l → arL m → arL (l ++ m)
  | [], m, _, h => h
  | e :: l, m, h, k => by
    rw [arL] at h
    rw [List.cons_append, arL]
    exact ⟨h.1, arL_app h.2 k⟩
theorem exSzL_app : ∀ l m : List Ex, exSzL (l ++ m) = exSzL l + exSzL m
  | [], m => by rw [exSzL, List.nil_append, Nat.zero_add]
  | e :: l, m => by rw [List.cons_append, exSzL, exSzL, exSzL_app l m, Nat.add_assoc]
theorem arE_leaf {op nm : Bs} {n : Int} {a : Nat} (h : arOf op = 0) : arE (.mk op nm n a []) := by
  rw [arE]; exact ⟨by rw [h]; exact Nat.zero_le _, by rw [arL]; trivial⟩
theorem arE_0 : arE Ex0 := arE_leaf rfl
theorem exSz_leaf (op nm : Bs) (n : Int) (a : Nat) : exSz (.mk op nm n a []) = 1 := by rw [exSz, exSzL]
section
variable {ws : List Wd}
theorem Tr.ok {S T : Ps} (h : Tr ws S T) (e : T.err = 0) : S.err = 0 := Decidable.byContradiction fun c => h.e c e
theorem want_ok {S : Ps} {s : Bs} (h : (S.want ws s).err = 0) : (S.want ws s).k = S.k + 1 ∧ S.err = 0 := by
  unfold Ps.want at *
  split at h
  · rename_i hs; rw [if_pos hs]; exact ⟨rfl, (is_kind hs).1⟩
  · exact absurd h (fail_err (by decide))
theorem name_ok {S : Ps} (h : (S.name ws).2.err = 0) : (S.name ws).2.k = S.k + 1 := by
  unfold Ps.name at *
  split at h
  · exact absurd h (fail_err (by decide))
  · rename_i hs; rw [if_neg hs]; rfl
theorem zpart_k (S : Ps) : (S.part ws).k = S.k := by
  unfold Ps.part Ps.fail; split <;> simp
  split <;> rfl
theorem part_is {S : Ps} {s : Bs} (hs : S.is ws s = true) (h : (S.part ws).err = 0) : (S.part ws).is ws s = true := by
  have hk := is_kind hs
  unfold Ps.is at *
  unfold Ps.w at *
  rw [zpart_k, h]
  rw [hk.1] at hs
  exact hs
theorem ztake_k {S : Ps} {s : Bs} (hs : S.is ws s = true) : (S.take ws s).2.k = S.k + 1 ∧ (S.take ws s).2.err = S.err := by
  unfold Ps.take; rw [if_pos hs]; exact ⟨rfl, rfl⟩
theorem ztake_t {S : Ps} {s : Bs} (h : (S.take ws s).1 = true) : (S.take ws s).2.k = S.k + 1 := by
  unfold Ps.take at *
  split at h
  · rename_i hs; rw [if_pos hs]; rfl
  · cases h
/-- What a reader's tree is. -/
def Sz (S : Ps) (r : Ex × Ps) : Prop := arE r.1 ∧ (r.2.err = 0 → exSz r.1 + 4 * S.k ≤ 4 * r.2.k + 1)
def GoodS (ws : List Wd) (d : Nat) (f : Ps → Ex × Ps) : Prop := ∀ S, S.k < ws.length → S.d = d → Sz S (f S)
theorem sz_deep {S : Ps} {f : Ps → Ex × Ps} {d : Nat} (hf : d < 30 → GoodS ws (d + 1) f) (h : S.k < ws.length) (hd : S.d = d) : Sz S (deep ws f S) := by
  unfold deep Ps.inn
  by_cases he : S.err ≠ 0
  · simp only [if_pos he]; exact ⟨arE_0, fun h => absurd h he⟩
  · simp only [if_neg he]
    by_cases h30 : 30 ≤ S.d
    · simp only [if_pos h30]; exact ⟨arE_0, fun h => absurd h (fail_err (by decide))⟩
    · simp only [if_neg h30, if_true]
      have := hf (by omega) { S with d := S.d + 1 } h (by rw [← hd])
      exact ⟨this.1, fun e => this.2 e⟩
structure SzLv (ws : List Wd) (d : Nat) (nx : Lv) : Prop where
  arrow : GoodS ws d nx.arrow
  fby : GoodS ws d nx.fby
  un : GoodS ws d nx.un
  prim : GoodS ws d nx.prim
theorem sz_args {expr : Ps → Ex × Ps} {d : Nat} (hw : WsOk ws) (he : Good ws d expr) (hs : GoodS ws d expr) : ∀ (m : Nat) (acc : List Ex) (S : Ps), S.k < ws.length → S.d = d → arL acc →
    arL (argsF ws expr m acc S).1 ∧ ((argsF ws expr m acc S).2.err = 0 → exSzL (argsF ws expr m acc S).1 + 4 * S.k ≤ 4 * (argsF ws expr m acc S).2.k + 1 + exSzL acc)
  | 0, acc, S, h, hd, ha => ⟨ha, fun _ => by show exSzL acc + 4 * S.k ≤ 4 * S.k + 1 + exSzL acc; omega⟩
  | m + 1, acc, S, h, hd, ha => by
    unfold argsF
    by_cases h0 : S.err = 0
    · simp only [if_pos h0]
      have h1 := he S h hd
      have s1 := hs S h hd
      generalize expr S = r at *
      have h2 := Tr.take (s := ([44] : Bs)) hw h1.kl
      have ha2 : arL (acc ++ [r.1]) := arL_app ha (by rw [arL]; exact ⟨s1.1, by rw [arL]; trivial⟩)
      have hsz : exSzL (acc ++ [r.1]) = exSzL acc + exSz r.1 := by rw [exSzL_app, exSzL, exSzL, Nat.add_zero]
      by_cases ht : (r.2.take ws ([44] : Bs)).1 = true
      · rw [if_pos ht]
        have hk := ztake_t ht
        have ih := sz_args hw he hs m (acc ++ [r.1]) _ h2.kl (h2.d.trans (h1.d.trans hd)) ha2
        refine ⟨ih.1, fun e => ?_⟩
        have e1 := ih.2 e
        have t3 := tr_args hw he m (acc ++ [r.1]) _ h2.kl (h2.d.trans (h1.d.trans hd))
        have e2 := s1.2 (h2.ok (t3.ok e))
        rw [hsz, hk] at e1
        omega
      · rw [if_neg ht]
        refine ⟨ha2, fun e => ?_⟩
        have e2 := s1.2 (h2.ok e)
        have := h2.k
        simp only [hsz]
        omega
    · simp only [if_neg h0]; exact ⟨ha, fun e => absurd e h0⟩
theorem sz_primV {nx : Lv} {d at_ : Nat} (hw : WsOk ws) (hx : d < 30 → GoodLv ws (d + 1) nx) (hz : d < 30 → SzLv ws (d + 1) nx) : GoodS ws d (primV ws nx at_) := fun T h hd => by
  unfold primV
  simp only
  have h1 := Tr.name hw h
  by_cases hc : (T.name ws).2.is ws ([40] : Bs) = true
  · rw [if_pos hc]
    have h2 := Tr.step hw h1.kl (is_kind hc).2.1
    have hk := name_ok (ws := ws) (S := T) (is_kind hc).1
    by_cases hc2 : (T.name ws).2.step.is ws ([41] : Bs) = true
    · rw [if_pos hc2]
      refine ⟨arE_leaf rfl, fun _ => ?_⟩
      rw [exSz_leaf]
      show 1 + 4 * T.k ≤ 4 * ((T.name ws).2.k + 1 + 1) + 1
      omega
    · rw [if_neg hc2]
      have ha := sz_args hw (d := d) (fun T hk hd => tr_deep (fun z => (hx z).arrow) hk hd) (fun T hk hd => sz_deep (fun z => (hz z).arrow) hk hd) (ws.length + 3) [] _ h2.kl (h2.d.trans (h1.d.trans hd)) (by rw [arL]; trivial)
      have t3 := tr_args hw (d := d) (fun T hk hd => tr_deep (fun z => (hx z).arrow) hk hd) (ws.length + 3) [] _ h2.kl (h2.d.trans (h1.d.trans hd))
      generalize argsF ws (deep ws nx.arrow) (ws.length + 3) [] (T.name ws).2.step = r at *
      refine ⟨by rw [arE]; exact ⟨Nat.zero_le _, ha.1⟩, fun e => ?_⟩
      have e1 := want_ok e
      have e2 := ha.2 e1.2
      rw [exSz]
      rw [exSzL] at e2
      have hst : (T.name ws).2.step.k = (T.name ws).2.k + 1 := rfl
      simp only at e1 ⊢
      rw [hst] at e2
      omega
  · rw [if_neg hc]
    refine ⟨arE_leaf rfl, fun e => ?_⟩
    have := h1.k
    rw [exSz_leaf]
    simp only
    omega
theorem sz_two {op nm : Bs} {n : Int} {a : Nat} {x y : Ex} (h : arOf op ≤ 2) (hx : arE x) (hy : arE y) : arE (.mk op nm n a [x, y]) := by
  rw [arE]; exact ⟨h, by rw [arL]; exact ⟨hx, by rw [arL]; exact ⟨hy, by rw [arL]; trivial⟩⟩⟩
theorem sz_one {op nm : Bs} {n : Int} {a : Nat} {x : Ex} (h : arOf op ≤ 1) (hx : arE x) : arE (.mk op nm n a [x]) := by
  rw [arE]; exact ⟨h, by rw [arL]; exact ⟨hx, by rw [arL]; trivial⟩⟩
theorem exSz_two (op nm : Bs) (n : Int) (a : Nat) (x y : Ex) : exSz (.mk op nm n a [x, y]) = exSz x + exSz y + 1 := by rw [exSz, exSzL, exSzL, exSzL]; omega
theorem exSz_one (op nm : Bs) (n : Int) (a : Nat) (x : Ex) : exSz (.mk op nm n a [x]) = exSz x + 1 := by rw [exSz, exSzL, exSzL, Nat.add_zero]
theorem sz_primG {nx : Lv} {d : Nat} {w : Wd} (hw : WsOk ws) (hx : d < 30 → GoodLv ws (d + 1) nx) (hz : d < 30 → SzLv ws (d + 1) nx) (T : Ps) (h : T.k < ws.length) (hd : T.d = d) (hk : T.w ws = w) : Sz T (primG ws nx w T) := by
  unfold primG
  simp only
  by_cases c1 : T.err = 0 ∧ w.kind = 3
  · rw [if_pos c1]
    exact ⟨arE_leaf rfl, fun _ => by rw [exSz_leaf]; show 1 + 4 * T.k ≤ 4 * (T.k + 1) + 1; omega⟩
  rw [if_neg c1]
  by_cases c2 : T.is ws ([116, 114, 117, 101] : Bs) = true
  · rw [if_pos c2]
    exact ⟨arE_leaf rfl, fun _ => by rw [exSz_leaf]; show 1 + 4 * T.k ≤ 4 * (T.k + 1) + 1; omega⟩
  rw [if_neg c2]
  by_cases c3 : T.is ws ([102, 97, 108, 115, 101] : Bs) = true
  · rw [if_pos c3]
    exact ⟨arE_leaf rfl, fun _ => by rw [exSz_leaf]; show 1 + 4 * T.k ≤ 4 * (T.k + 1) + 1; omega⟩
  rw [if_neg c3]
  by_cases c4 : T.is ws ([105, 102] : Bs) = true
  · rw [if_pos c4]
    have h1 := Tr.step hw h (is_kind c4).2.1
    have hk1 : T.step.k = T.k + 1 := rfl
    generalize T.step = U1 at *
    have a := tr_deep (fun z => (hx z).arrow) h1.kl (h1.d.trans hd)
    have sa := sz_deep (fun z => (hz z).arrow) h1.kl (h1.d.trans hd)
    generalize deep ws nx.arrow U1 = A at *
    have h2 := Tr.want (s := ([116, 104, 101, 110] : Bs)) hw a.kl
    have hw2 := want_ok (ws := ws) (S := A.2) (s := ([116, 104, 101, 110] : Bs))
    generalize A.2.want ws ([116, 104, 101, 110] : Bs) = U2 at *
    have hd2 := h2.d.trans (a.d.trans (h1.d.trans hd))
    have b := tr_deep (fun z => (hx z).arrow) h2.kl hd2
    have sb := sz_deep (fun z => (hz z).arrow) h2.kl hd2
    generalize deep ws nx.arrow U2 = B at *
    have h3 := Tr.want (s := ([101, 108, 115, 101] : Bs)) hw b.kl
    have hw3 := want_ok (ws := ws) (S := B.2) (s := ([101, 108, 115, 101] : Bs))
    generalize B.2.want ws ([101, 108, 115, 101] : Bs) = U3 at *
    have hd3 := h3.d.trans (b.d.trans hd2)
    have c := tr_deep (fun z => (hx z).arrow) h3.kl hd3
    have sc := sz_deep (fun z => (hz z).arrow) h3.kl hd3
    generalize deep ws nx.arrow U3 = C at *
    refine ⟨by rw [arE]; exact ⟨(show (3 : Nat) ≤ 3 by decide), by rw [arL, arL, arL, arL]; exact ⟨sa.1, sb.1, sc.1, trivial⟩⟩, fun e => ?_⟩
    have e3 := c.ok e
    have e2 := (hw3 e3).2
    have e1 := (hw2 (b.ok e2)).2
    have q1 := sa.2 e1
    have q2 := sb.2 e2
    have q3 := sc.2 e
    have k2 := (hw2 (b.ok e2)).1
    have k3 := (hw3 e3).1
    rw [exSz, exSzL, exSzL, exSzL, exSzL]
    simp only
    omega
  rw [if_neg c4]
  by_cases c5 : T.is ws ([109, 101, 114, 103, 101] : Bs) = true
  · rw [if_pos c5]
    have h1 := Tr.step hw h (is_kind c5).2.1
    have hk1 : T.step.k = T.k + 1 := rfl
    generalize T.step = U1 at *
    have h2 := Tr.name hw h1.kl
    generalize U1.name ws = N1 at *
    have hd2 := h2.d.trans (h1.d.trans hd)
    have a := tr_deep (fun z => (hx z).prim) h2.kl hd2
    have sa := sz_deep (fun z => (hz z).prim) h2.kl hd2
    generalize deep ws nx.prim N1.2 = A at *
    have b := tr_deep (fun z => (hx z).prim) a.kl (a.d.trans hd2)
    have sb := sz_deep (fun z => (hz z).prim) a.kl (a.d.trans hd2)
    generalize deep ws nx.prim A.2 = B at *
    refine ⟨sz_two (by decide) sa.1 sb.1, fun e => ?_⟩
    have q2 := sb.2 e
    have q1 := sa.2 (b.ok e)
    have := h2.k
    rw [exSz_two]
    simp only
    omega
  rw [if_neg c5]
  exact sz_primV hw hx hz T h hd
theorem sz_prim {nx : Lv} {d : Nat} (hw : WsOk ws) (hx : d < 30 → GoodLv ws (d + 1) nx) (hz : d < 30 → SzLv ws (d + 1) nx) : GoodS ws d (primF ws nx) := fun S h hd => by
  unfold primF
  simp only
  by_cases hp : S.is ws ([40] : Bs) = true
  · rw [if_pos hp]
    have h1 := Tr.step hw h (is_kind hp).2.1
    have hk1 : S.step.k = S.k + 1 := rfl
    generalize S.step = U1 at *
    have sa := sz_deep (fun z => (hz z).arrow) h1.kl (h1.d.trans hd)
    generalize deep ws nx.arrow U1 = A at *
    refine ⟨sa.1, fun e => ?_⟩
    have e1 := want_ok e
    have e2 := sa.2 e1.2
    simp only at e1 ⊢
    omega
  · rw [if_neg hp]
    obtain ⟨h1, h2⟩ := Tr.primP (S := S) h
    have := sz_primG hw hx hz _ h1.kl (h1.d.trans hd) (w := S.w ws) (by unfold Ps.w; rw [h2])
    refine ⟨this.1, fun e => ?_⟩
    have := this.2 e
    omega
theorem unOp_ar (S : Ps) : arOf (unOp ws S) ≤ 1 := by
  unfold unOp
  split
  · decide
  split
  · decide
  split
  · decide
  · decide
theorem unOp_is {S : Ps} (h : unOp ws S ≠ []) : (S.w ws).kind ≠ 0 := by
  unfold unOp at h
  split at h
  · rename_i hc; exact (is_kind hc).2.1
  split at h
  · rename_i hc; exact (is_kind hc).2.1
  split at h
  · rename_i hc; exact (is_kind hc).2.1
  · exact absurd rfl h
theorem sz_un {nx : Lv} {d : Nat} (hw : WsOk ws) (hx : d < 30 → GoodLv ws (d + 1) nx) (hz : d < 30 → SzLv ws (d + 1) nx) : GoodS ws d (unF ws nx) := fun S h hd => by
  unfold unF
  by_cases hu : unOp ws S = []
  · rw [if_pos hu]; exact sz_prim hw hx hz S h hd
  · rw [if_neg hu]
    have h1 := Tr.part (ws := ws) h
    by_cases he : (S.part ws).err ≠ 0
    · rw [if_pos he]; exact ⟨arE_0, fun e => absurd e he⟩
    · rw [if_neg he]
      have hk : ((S.part ws).w ws).kind ≠ 0 := by unfold Ps.w; rw [zpart_k]; exact unOp_is hu
      have h2 := h1.trans (.step hw h1.kl hk)
      have hk2 : (S.part ws).step.k = S.k + 1 := by show (S.part ws).k + 1 = _; rw [zpart_k]
      have s3 := sz_deep (fun z => (hz z).un) h2.kl (h2.d.trans hd)
      unfold deep at s3
      split
      · rename_i hi
        simp only [if_pos hi] at s3
        refine ⟨sz_one (unOp_ar S) s3.1, fun e => ?_⟩
        have := s3.2 e
        rw [exSz_one]
        simp only at this ⊢
        omega
      · rename_i hi
        simp only [if_neg hi] at s3
        exact ⟨arE_0, fun e => by have := s3.2 e; simp only at this ⊢; omega⟩
theorem sz_whenL (hw : WsOk ws) : ∀ (m : Nat) (a : Ex) (S : Ps), S.k < ws.length → arE a → arE (whenL ws m a S).1 ∧ ((whenL ws m a S).2.err = 0 → exSz (whenL ws m a S).1 + 4 * S.k ≤ 4 * (whenL ws m a S).2.k + exSz a)
  | 0, a, S, h, ha => ⟨ha, fun _ => by show exSz a + 4 * S.k ≤ 4 * S.k + exSz a; omega⟩
  | m + 1, a, S, h, ha => by
    unfold whenL
    by_cases hc : S.is ws ([119, 104, 101, 110] : Bs) = true
    · rw [if_pos hc]
      have h1 := Tr.part (ws := ws) h
      have h2 := Tr.take (s := ([119, 104, 101, 110] : Bs)) hw h1.kl
      have h3 := Tr.take (s := ([110, 111, 116] : Bs)) hw h2.kl
      have h4 := Tr.name hw h3.kl
      have t5 := tr_whenL hw m (.mk ([119, 104, 101, 110] : Bs) ((((S.part ws).take ws ([119, 104, 101, 110] : Bs)).2.take ws ([110, 111, 116] : Bs)).2.name ws).1 (if (((S.part ws).take ws ([119, 104, 101, 110] : Bs)).2.take ws ([110, 111, 116] : Bs)).1 then 0 else 1) (S.w ws).at_ [a]) _ h4.kl
      have ih := sz_whenL hw m (.mk ([119, 104, 101, 110] : Bs) ((((S.part ws).take ws ([119, 104, 101, 110] : Bs)).2.take ws ([110, 111, 116] : Bs)).2.name ws).1 (if (((S.part ws).take ws ([119, 104, 101, 110] : Bs)).2.take ws ([110, 111, 116] : Bs)).1 then 0 else 1) (S.w ws).at_ [a]) _ h4.kl (sz_one (by decide) ha)
      refine ⟨ih.1, fun e => ?_⟩
      have e1 := ih.2 e
      rw [exSz_one] at e1
      have hp := h2.ok (h3.ok (h4.ok (t5.ok e)))
      have hk := (ztake_k (part_is hc hp)).1
      rw [zpart_k] at hk
      have := h3.k
      have := h4.k
      simp only at e1 ⊢
      omega
    · rw [if_neg hc]; exact ⟨ha, fun _ => by show exSz a + 4 * S.k ≤ 4 * S.k + exSz a; omega⟩
theorem sz_when {nx : Lv} {d : Nat} (hw : WsOk ws) (hx : d < 30 → GoodLv ws (d + 1) nx) (hz : d < 30 → SzLv ws (d + 1) nx) : GoodS ws d (whenF ws nx) := fun S h hd => by
  have h1 := tr_un hw hx S h hd
  have s1 := sz_un hw hx hz S h hd
  have s2 := sz_whenL hw (ws.length + 3) (unF ws nx S).1 _ h1.kl s1.1
  have t2 := tr_whenL hw (ws.length + 3) (unF ws nx S).1 _ h1.kl
  refine ⟨s2.1, fun e => ?_⟩
  have e2 := s2.2 e
  have e1 := s1.2 (t2.ok e)
  show exSz (whenL ws (ws.length + 3) (unF ws nx S).1 (unF ws nx S).2).1 + 4 * S.k ≤ 4 * (whenL ws (ws.length + 3) (unF ws nx S).1 (unF ws nx S).2).2.k + 1
  omega
theorem sz_inn {f : Ps → Ex × Ps} {d : Nat} {T : Ps} (hf : d < 30 → GoodS ws (d + 1) f) (h : T.k < ws.length) (hd : T.d = d) : ((T.inn ws).1 = true → Sz T ((f (T.inn ws).2).1, (f (T.inn ws).2).2.out)) ∧ ((T.inn ws).1 ≠ true → (T.inn ws).2.err ≠ 0) := by
  have h3 := sz_deep hf h hd
  unfold deep at h3
  refine ⟨fun hi => ?_, fun hi => ?_⟩
  · simp only [if_pos hi] at h3; exact h3
  · unfold Ps.inn at hi ⊢
    split
    · assumption
    · split
      · exact fail_err (by decide)
      · rename_i a b; rw [if_neg a, if_neg b] at hi; exact absurd rfl hi
theorem sz_fby {nx : Lv} {d : Nat} (hw : WsOk ws) (hx : d < 30 → GoodLv ws (d + 1) nx) (hz : d < 30 → SzLv ws (d + 1) nx) : GoodS ws d (fbyF ws nx) := fun S h hd => by
  have h1 := tr_when hw hx S h hd
  have s1 := sz_when hw hx hz S h hd
  unfold fbyF
  generalize whenF ws nx S = a at *
  simp only
  by_cases hc : a.2.is ws ([102, 98, 121] : Bs) = true
  · rw [if_pos hc]
    have h2 := Tr.part (ws := ws) h1.kl
    have h3 := Tr.take (s := ([102, 98, 121] : Bs)) hw h2.kl
    have hd3 := h3.d.trans (h2.d.trans (h1.d.trans hd))
    have s4 := sz_inn (fun z => (hz z).fby) h3.kl hd3
    have t4 := (tr_inn (fun z => (hx z).fby) (.refl h3.kl) hd3).1
    by_cases hi : (((a.2.part ws).take ws ([102, 98, 121] : Bs)).2.inn ws).1 = true
    · rw [if_pos hi]
      have q := s4.1 hi
      refine ⟨sz_two (by decide) s1.1 q.1, fun e => ?_⟩
      have e3 := (t4 hi).ok e
      have e2 := h3.ok e3
      have hk := (ztake_k (part_is hc e2)).1
      rw [zpart_k] at hk
      have e1 := s1.2 (h2.ok e2)
      have e4 := q.2 e
      rw [exSz_two]
      simp only at e4 ⊢
      omega
    · rw [if_neg hi]; exact ⟨arE_0, fun e => absurd e (s4.2 hi)⟩
  · rw [if_neg hc]; exact s1
theorem opAt_is (level : Nat) (S : Ps) (h : opAt ws level S ≠ []) : S.is ws (opAt ws level S) = true ∧ opAt ws level S ∈ opsOf level := by
  have key : ∀ (l : List Bs) (op : Bs), (op = [] ∨ S.is ws op = true) → (l.foldl (fun op s => if S.is ws s then s else op) op ≠ [] → S.is ws (l.foldl (fun op s => if S.is ws s then s else op) op) = true) ∧ (l.foldl (fun op s => if S.is ws s then s else op) op = op ∨ l.foldl (fun op s => if S.is ws s then s else op) op ∈ l) := by
    intro l
    induction l with
    | nil => intro op ho; exact ⟨fun h => ho.resolve_left h, .inl rfl⟩
    | cons s l ih =>
      intro op ho
      rw [List.foldl_cons]
      by_cases hs : S.is ws s = true
      · rw [if_pos hs]
        have := ih s (.inr hs)
        exact ⟨this.1, .inr (this.2.elim (fun e => by rw [e]; exact List.mem_cons_self) (fun e => List.mem_cons_of_mem _ e))⟩
      · rw [if_neg hs]
        have := ih op ho
        exact ⟨this.1, this.2.elim .inl (fun e => .inr (List.mem_cons_of_mem _ e))⟩
  have := key (opsOf level) [] (.inl rfl)
  exact ⟨this.1 h, this.2.resolve_left h⟩
theorem ops_ar (level : Nat) : ∀ s ∈ opsOf level, arOf s ≤ 2 := by
  match level with
  | 0 => decide
  | 1 => decide
  | 2 => decide
  | 3 => decide
  | n + 4 => exact (by decide : ∀ s ∈ opsOf 4, arOf s ≤ 2)
theorem sz_rowL {nr : Ps → Ex × Ps} {d level : Nat} (hw : WsOk ws) (hn : Good ws d nr) (hs : GoodS ws d nr) : ∀ (m : Nat) (a : Ex) (S : Ps), S.k < ws.length → S.d = d → arE a →
    arE (rowL ws level nr m a S).1 ∧ ((rowL ws level nr m a S).2.err = 0 → exSz (rowL ws level nr m a S).1 + 4 * S.k ≤ 4 * (rowL ws level nr m a S).2.k + exSz a)
  | 0, a, S, h, hd, ha => ⟨ha, fun _ => by show exSz a + 4 * S.k ≤ 4 * S.k + exSz a; omega⟩
  | m + 1, a, S, h, hd, ha => by
    unfold rowL
    by_cases ho : opAt ws level S = []
    · rw [if_pos ho]; exact ⟨ha, fun _ => by show exSz a + 4 * S.k ≤ 4 * S.k + exSz a; omega⟩
    · rw [if_neg ho]
      obtain ⟨oi, om⟩ := opAt_is level S ho
      have har := ops_ar level _ om
      generalize opAt ws level S = op at *
      have h1 := Tr.part (ws := ws) h
      have h2 := Tr.take (s := op) hw h1.kl
      have hd2 := h2.d.trans (h1.d.trans hd)
      have h3 := hn _ h2.kl hd2
      have s3 := hs _ h2.kl hd2
      have hk : (S.part ws).err = 0 → ((S.part ws).take ws op).2.k = S.k + 1 := fun e => by have := (ztake_k (part_is oi e)).1; rwa [zpart_k] at this
      generalize ((S.part ws).take ws op).2 = U at *
      generalize nr U = b at *
      have hae : arE (.mk op [] 0 (S.w ws).at_ [a, b.1]) := sz_two har ha s3.1
      simp only
      by_cases hl : level = 2
      · rw [if_pos hl]
        refine ⟨hae, fun e => ?_⟩
        have e2 := h3.ok e
        have e1 := h2.ok e2
        have := hk e1
        have := s3.2 e
        rw [exSz_two]
        simp only
        omega
      · rw [if_neg hl]
        have ih := sz_rowL (level := level) hw hn hs m (.mk op [] 0 (S.w ws).at_ [a, b.1]) b.2 h3.kl (h3.d.trans hd2) hae
        have t := tr_rowL (level := level) hw hn m (.mk op [] 0 (S.w ws).at_ [a, b.1]) b.2 h3.kl (h3.d.trans hd2)
        refine ⟨ih.1, fun e => ?_⟩
        have e0 := ih.2 e
        have e3 := t.ok e
        have e1 := h2.ok (h3.ok e3)
        have := hk e1
        have := s3.2 e3
        rw [exSz_two] at e0
        omega
theorem sz_row {nx : Lv} {d : Nat} (hw : WsOk ws) (hx : d < 30 → GoodLv ws (d + 1) nx) (hz : d < 30 → SzLv ws (d + 1) nx) : ∀ m, GoodS ws d (rowF ws nx m)
  | 0 => sz_fby hw hx hz
  | m + 1 => fun S h hd => by
    have h1 := tr_row hw hx m S h hd
    have s1 := sz_row hw hx hz m S h hd
    have s2 := sz_rowL (level := 4 - m) hw (tr_row hw hx m) (sz_row hw hx hz m) (ws.length + 3) (rowF ws nx m S).1 (rowF ws nx m S).2 h1.kl (h1.d.trans hd) s1.1
    have t2 := tr_rowL (level := 4 - m) hw (tr_row hw hx m) (ws.length + 3) (rowF ws nx m S).1 (rowF ws nx m S).2 h1.kl (h1.d.trans hd)
    refine ⟨s2.1, fun e => ?_⟩
    have e2 := s2.2 e
    have e1 := s1.2 (t2.ok e)
    show exSz (rowL ws (4 - m) (rowF ws nx m) (ws.length + 3) (rowF ws nx m S).1 (rowF ws nx m S).2).1 + 4 * S.k ≤ 4 * (rowL ws (4 - m) (rowF ws nx m) (ws.length + 3) (rowF ws nx m S).1 (rowF ws nx m S).2).2.k + 1
    omega
theorem sz_arrow {nx : Lv} {d : Nat} (hw : WsOk ws) (hx : d < 30 → GoodLv ws (d + 1) nx) (hz : d < 30 → SzLv ws (d + 1) nx) : GoodS ws d (arrowF ws nx) := fun S h hd => by
  have h1 := tr_row hw hx 5 S h hd
  have s1 := sz_row hw hx hz 5 S h hd
  unfold arrowF
  generalize rowF ws nx 5 S = a at *
  simp only
  by_cases hc : a.2.is ws ([45, 62] : Bs) = true
  · rw [if_pos hc]
    have h2 := Tr.part (ws := ws) h1.kl
    have h3 := Tr.take (s := ([45, 62] : Bs)) hw h2.kl
    have hd3 := h3.d.trans (h2.d.trans (h1.d.trans hd))
    have s4 := sz_inn (fun z => (hz z).arrow) h3.kl hd3
    have t4 := (tr_inn (fun z => (hx z).arrow) (.refl h3.kl) hd3).1
    by_cases hi : (((a.2.part ws).take ws ([45, 62] : Bs)).2.inn ws).1 = true
    · rw [if_pos hi]
      have q := s4.1 hi
      refine ⟨sz_two (by decide) s1.1 q.1, fun e => ?_⟩
      have e3 := (t4 hi).ok e
      have e2 := h3.ok e3
      have hk := (ztake_k (part_is hc e2)).1
      rw [zpart_k] at hk
      have e1 := s1.2 (h2.ok e2)
      have e4 := q.2 e
      rw [exSz_two]
      simp only at e4 ⊢
      omega
    · rw [if_neg hi]; exact ⟨arE_0, fun e => absurd e (s4.2 hi)⟩
  · rw [if_neg hc]; exact s1
theorem szlv_mk (hw : WsOk ws) {nx : Lv} {d : Nat} (hx : d < 30 → GoodLv ws (d + 1) nx) (hz : d < 30 → SzLv ws (d + 1) nx) : SzLv ws d (mkLv ws nx) := by
  have h1 := sz_arrow hw hx hz
  have h2 := sz_fby hw hx hz
  have h3 := sz_un hw hx hz
  have h4 := sz_prim hw hx hz
  unfold mkLv
  generalize arrowF ws nx = f1 at *
  generalize fbyF ws nx = f2 at *
  generalize unF ws nx = f3 at *
  generalize primF ws nx = f4 at *
  exact ⟨h1, h2, h3, h4⟩
theorem szlv (hw : WsOk ws) (n : Nat) : ∀ d, d + n = 30 → SzLv ws d (lv ws n) := by
  induction n with
  | zero =>
    intro d hd
    rw [lv]; exact szlv_mk hw (nx := Lv0) (fun z => absurd z (by omega)) (fun z => absurd z (by omega))
  | succ n ih =>
    intro d hd
    rw [lv]; exact szlv_mk hw (nx := lv ws n) (fun z => good_lv hw n (d + 1) (by omega)) (fun z => ih (d + 1) (by omega))
theorem sz_expr (hw : WsOk ws) (S : Ps) (h : S.k < ws.length) (hd : S.d ≤ 29) : Sz S (exprF ws S) :=
  sz_deep (d := S.d) (fun z => (szlv hw (29 - S.d) (S.d + 1) (by omega)).arrow) h rfl
end
end Go.Proofs.Ytmgkhfnhaeplgaa

namespace Go.Proofs.Ytmgkhfnhaeplgaa
open Go
set_option linter.unusedSimpArgs false
set_option linter.unusedVariables false
set_option maxRecDepth 20000

/-! What a text that is read gives: small nodes, equations of the right arity. Plain. -/
section
variable {ws : List Wd}
theorem mu_top (hw : WsOk ws) (S : Ps) : mu ws S ≤ 20001 := by
  have := hw.len
  unfold mu; split <;> omega
theorem mu_step2 {S : Ps} (h : S.k < ws.length) : mu ws S.step ≤ mu ws S := by
  unfold mu Ps.step; simp only; omega
theorem declsL_mu (hw : WsOk ws) : ∀ (m : Nat) (acc : List Vr) (S : Ps), S.k < ws.length → (declsL ws m acc S).1.length + mu ws (declsL ws m acc S).2 ≤ acc.length + mu ws S
  | 0, acc, S, h => Nat.le_refl _
  | m + 1, acc, S, h => by
    unfold declsL
    by_cases hb : S.is ws ([59] : Bs) = true
    · rw [if_pos hb]
      have h1 := Tr.step hw h (is_kind hb).2.1
      have h2 := tr_decl hw _ h1.kl
      have m1 := mu_step2 h
      have m2 := decl_mu hw _ h1.kl
      have := declsL_mu hw m (acc ++ (declF ws S.step).1) (declF ws S.step).2 h2.kl
      rw [List.length_append] at this
      simp only
      omega
    · rw [if_neg hb]; exact Nat.le_refl _
theorem decls_len (hw : WsOk ws) (S : Ps) (h : S.k < ws.length) : (declsF ws S).1.length ≤ 20001 := by
  unfold declsF
  have := mu_top hw S
  by_cases hb : S.is ws ([41] : Bs) = true
  · rw [if_pos hb]; exact Nat.zero_le _
  · rw [if_neg hb]
    have h1 := tr_decl hw S h
    have m1 := decl_mu hw S h
    have m2 := declsL_mu hw (ws.length + 3) (declF ws S).1 (declF ws S).2 h1.kl
    simp only
    omega
theorem localsL_mu (hw : WsOk ws) : ∀ (m : Nat) (acc : List Vr) (S : Ps), S.k < ws.length → (localsL ws m acc S).1.length + mu ws (localsL ws m acc S).2 ≤ acc.length + mu ws S
  | 0, acc, S, h => Nat.le_refl _
  | m + 1, acc, S, h => by
    rw [localsL_eq]
    by_cases h0 : S.err = 0
    · rw [if_pos h0]
      have h1 := tr_decl hw S h
      have m1 := decl_mu hw S h
      have h2 := tr_onF hw (declF ws S) h1.kl
      have m2 := h2.mu
      have hl := onF_len (ws := ws) (declF ws S)
      by_cases hb : (onF ws (declF ws S)).2.is ws ([59] : Bs) = true ∧ ((onF ws (declF ws S)).2.step.w ws).kind = 1
      · rw [if_pos hb]
        have h3 := Tr.step hw h2.kl (is_kind hb.1).2.1
        have m3 := mu_step2 h2.kl
        have := localsL_mu hw m (acc ++ (onF ws (declF ws S)).1) (onF ws (declF ws S)).2.step h3.kl
        rw [List.length_append] at this
        omega
      · rw [if_neg hb, List.length_append]
        simp only
        omega
    · rw [if_neg h0]; exact Nat.le_refl _
theorem locals_len (hw : WsOk ws) (S : Ps) (h : S.k < ws.length) : (localsF ws S).1.length ≤ 20001 := by
  unfold localsF
  have := mu_top hw S
  by_cases hb : S.is ws ([59] : Bs) = true
  · rw [if_pos hb]; exact Nat.zero_le _
  · rw [if_neg hb]
    have m2 := localsL_mu hw (ws.length + 3) [] S h
    simp only [List.length_nil] at m2
    omega
theorem eqsL_len : ∀ (m : Nat) (acc : List Eqn) (S : Ps), (eqsL ws m acc S).1.length ≤ acc.length + m := by
  intro m
  induction m with
  | zero => intro acc S; exact Nat.le_refl _
  | succ m ih =>
    intro acc S
    unfold eqsL
    split
    · refine Nat.le_trans (ih _ _) ?_
      rw [List.length_append, List.length_singleton]
      omega
    · exact Nat.le_add_right _ _
theorem eqsL_ok (hw : WsOk ws) : ∀ (m : Nat) (acc : List Eqn) (S : Ps), S.k < ws.length → S.d ≤ 29 → (∀ q ∈ acc, arE q.e ∧ exSz q.e ≤ 2000000) →
    (eqsL ws m acc S).1.length ≤ acc.length + m ∧ ((eqsL ws m acc S).2.err = 0 → ∀ q ∈ (eqsL ws m acc S).1, arE q.e ∧ exSz q.e ≤ 2000000)
  | 0, acc, S, h, hd, ha => ⟨Nat.le_refl _, fun _ => ha⟩
  | m + 1, acc, S, h, hd, ha => by
    unfold eqsL
    by_cases hc : S.err = 0 ∧ (S.w ws).kind = 1
    · rw [if_pos hc]
      have h1 := Tr.name (S := S) hw h
      have h2 := h1.trans (.want (s := ([61] : Bs)) hw h1.kl)
      have h3 : Tr ws S { ((S.name ws).2.want ws ([61] : Bs)) with parts := 0 } := ⟨h2.d, h2.k, h2.kl, h2.e⟩
      have hz := sz_expr hw { ((S.name ws).2.want ws ([61] : Bs)) with parts := 0 } h3.kl (by rw [h3.d]; exact hd)
      have h4 := h3.trans (good_expr hw _ h3.kl (by rw [h3.d]; exact hd))
      simp only
      generalize exprF ws { ((S.name ws).2.want ws ([61] : Bs)) with parts := 0 } = r at *
      have h5 := h4.trans (.want (s := ([59] : Bs)) hw h4.kl)
      have t6 := tr_eqsL hw m (acc ++ [⟨(S.name ws).1, r.1, (S.w ws).at_⟩]) (r.2.want ws ([59] : Bs)) h5.kl (by rw [h5.d]; exact hd)
      have hlen := hw.len
      by_cases he : r.2.err = 0
      · have z1 := hz.2 he
        have k1 := h4.kl
        have ih := eqsL_ok hw m (acc ++ [⟨(S.name ws).1, r.1, (S.w ws).at_⟩]) (r.2.want ws ([59] : Bs)) h5.kl (by rw [h5.d]; exact hd) (fun q hq => by
          rcases List.mem_append.1 hq with hq | hq
          · exact ha q hq
          · rw [List.mem_singleton] at hq; subst hq; exact ⟨hz.1, by show exSz r.1 ≤ 2000000; omega⟩)
        refine ⟨?_, ih.2⟩
        have := ih.1
        rw [List.length_append, List.length_singleton] at this
        omega
      · have hT := Tr.want (s := ([59] : Bs)) hw h4.kl
        refine ⟨?_, fun e => absurd (hT.ok (t6.ok e)) he⟩
        have := eqsL_len (ws := ws) m (acc ++ [⟨(S.name ws).1, r.1, (S.w ws).at_⟩]) (r.2.want ws ([59] : Bs))
        rw [List.length_append, List.length_singleton] at this
        omega
    · rw [if_neg hc]; exact ⟨Nat.le_add_right _ _, fun _ => ha⟩
/-- A node as the parser gives it. -/
structure NdG (n : Nd) : Prop where
  ok : NdOk n
  ar : ∀ q ∈ n.eqs, arE q.e
  sm : n.ins.length + n.outs.length + n.locs.length ≤ 100000
theorem node_ok (hw : WsOk ws) (S : Ps) (h : S.k < ws.length) (hd : S.d ≤ 29) : (nodeF ws S).2.err = 0 → NdG (nodeF ws S).1 := by
  have hlen := hw.len
  unfold nodeF
  have t0 : Tr ws S { S with names := 0 } := ⟨rfl, Nat.le_refl _, h, id⟩
  have t1 := t0.trans (.want (s := ([110, 111, 100, 101] : Bs)) hw h)
  generalize ({ S with names := 0 } : Ps).want ws ([110, 111, 100, 101] : Bs) = S1 at *
  have t2 := t1.trans (.name hw t1.kl)
  generalize S1.name ws = A at *
  obtain ⟨nm, S2⟩ := A
  simp only at *
  have t3 := t2.trans (.want (s := ([40] : Bs)) hw t2.kl)
  generalize S2.want ws ([40] : Bs) = S3 at *
  have t4 := t3.trans (tr_decls hw _ t3.kl)
  have l4 := decls_len hw _ t3.kl
  generalize declsF ws S3 = A at *
  obtain ⟨ins, S4⟩ := A
  simp only at *
  have t5 := t4.trans (.want (s := ([41] : Bs)) hw t4.kl)
  generalize S4.want ws ([41] : Bs) = S5 at *
  have t6 := t5.trans (.want (s := ([114, 101, 116, 117, 114, 110, 115] : Bs)) hw t5.kl)
  generalize S5.want ws ([114, 101, 116, 117, 114, 110, 115] : Bs) = S6 at *
  have t7 := t6.trans (.want (s := ([40] : Bs)) hw t6.kl)
  generalize S6.want ws ([40] : Bs) = S7 at *
  have t8 := t7.trans (tr_decls hw _ t7.kl)
  have l8 := decls_len hw _ t7.kl
  generalize declsF ws S7 = A at *
  obtain ⟨outs, S8⟩ := A
  simp only at *
  have t9 := t8.trans (.want (s := ([41] : Bs)) hw t8.kl)
  generalize S8.want ws ([41] : Bs) = S9 at *
  have t10 := t9.trans (.want (s := ([59] : Bs)) hw t9.kl)
  generalize S9.want ws ([59] : Bs) = S10 at *
  have t11 : Tr ws S (if S10.is ws ([118, 97, 114] : Bs) = true then ((localsF ws S10.step).1, (localsF ws S10.step).2.want ws ([59] : Bs)) else ([], S10)).2 ∧ (if S10.is ws ([118, 97, 114] : Bs) = true then ((localsF ws S10.step).1, (localsF ws S10.step).2.want ws ([59] : Bs)) else ([], S10)).1.length ≤ 20001 := by
    split
    · rename_i hb
      have h1 := t10.trans (.step hw t10.kl (is_kind hb).2.1)
      have h2 := h1.trans (tr_locals hw _ h1.kl)
      exact ⟨h2.trans (.want hw h2.kl), locals_len hw _ h1.kl⟩
    · exact ⟨t10, Nat.zero_le _⟩
  generalize (if S10.is ws ([118, 97, 114] : Bs) = true then ((localsF ws S10.step).1, (localsF ws S10.step).2.want ws ([59] : Bs)) else ([], S10)) = Cc at *
  obtain ⟨t11, l11⟩ := t11
  have t12 := t11.trans (.want (s := ([108, 101, 116] : Bs)) hw t11.kl)
  generalize Cc.2.want ws ([108, 101, 116] : Bs) = S12 at *
  have t13 := t12.trans (tr_eqsL hw (ws.length + 3) [] _ t12.kl (by rw [t12.d]; exact hd))
  have q13 := eqsL_ok hw (ws.length + 3) [] _ t12.kl (by rw [t12.d]; exact hd) (fun q hq => absurd hq (List.not_mem_nil))
  generalize eqsL ws (ws.length + 3) [] S12 = Q at *
  have t14 := Tr.want (s := ([116, 101, 108] : Bs)) hw t13.kl
  have t15 := Tr.take (s := ([59] : Bs)) hw t14.kl
  intro e
  have q14 := q13.2 (t14.ok (t15.ok e))
  have q15 := q13.1
  simp only [List.length_nil] at q15
  exact ⟨⟨by show ins.length ≤ _; omega, by show outs.length ≤ _; omega, by show Cc.1.length ≤ _; omega, by show Q.1.length ≤ _; omega, fun q hq => (q14 q hq).2⟩, fun q hq => (q14 q hq).1, by show ins.length + outs.length + Cc.1.length ≤ _; omega⟩
theorem nodesL_ok (hw : WsOk ws) : ∀ (m : Nat) (acc : List Nd) (S : Ps), S.k < ws.length → S.d ≤ 29 → acc.length ≤ 32 → (S.err = 0 → ∀ n ∈ acc, NdG n) →
    (nodesL ws m acc S).1.length ≤ 32 ∧ ((nodesL ws m acc S).2.err = 0 → ∀ n ∈ (nodesL ws m acc S).1, NdG n)
  | 0, acc, S, h, hd, hl, ha => ⟨hl, ha⟩
  | m + 1, acc, S, h, hd, hl, ha => by
    rw [nodesL]
    by_cases hc : S.err = 0 ∧ (acc.isEmpty = true ∨ (S.w ws).kind ≠ 0)
    · rw [if_pos hc]
      by_cases h32 : acc.length = 32
      · rw [if_pos h32]; exact ⟨hl, fun e => absurd e (fail_err (by decide))⟩
      · rw [if_neg h32]
        have t1 := tr_node hw S h hd
        have n1 := node_ok hw S h hd
        refine nodesL_ok hw m _ _ t1.kl (by rw [t1.d]; exact hd) (by rw [List.length_append, List.length_singleton]; omega) (fun e n hn => ?_)
        rcases List.mem_append.1 hn with hn | hn
        · exact ha (t1.ok e) n hn
        · rw [List.mem_singleton] at hn; subst hn; exact n1 e
    · rw [if_neg hc]; exact ⟨hl, ha⟩
end
theorem parse_ok (t : Bs) (h : (parse t).2.1 = 0) : (parse t).1.length ≤ 32 ∧ ∀ n ∈ (parse t).1, NdG n := by
  have hok := cut_ok t
  unfold parse at *
  generalize cut t = c at *
  obtain ⟨ws, err, at_⟩ := c
  simp only at *
  by_cases he : err ≠ 0
  · rw [if_pos he] at h; exact absurd h he
  · rw [if_neg he] at h ⊢
    have hw := hok (by omega)
    have h0 : 0 < ws.length := by obtain ⟨l, w, e, _⟩ := hw.last; rw [e]; simp
    have hn := nodesL_ok hw 40 [] ⟨0, 0, 0, 0, 0, 0⟩ h0 (by decide) (by decide) (fun _ n hn => absurd hn (List.not_mem_nil))
    generalize nodesL ws 40 [] ⟨0, 0, 0, 0, 0, 0⟩ = R at *
    by_cases h2 : R.2.err ≠ 0
    · rw [if_pos h2] at h; exact absurd h h2
    · rw [if_neg h2]
      exact ⟨hn.1, hn.2 (by omega)⟩
theorem parse_len (t : Bs) : (parse t).1.length ≤ 32 := by
  by_cases h : (parse t).2.1 = 0
  · exact (parse_ok t h).1
  · unfold parse at *
    generalize cut t = c at *
    obtain ⟨ws, err, at_⟩ := c
    simp only at *
    by_cases he : err ≠ 0
    · rw [if_pos he]; exact Nat.zero_le _
    · rw [if_neg he] at h ⊢
      generalize nodesL ws 40 [] ⟨0, 0, 0, 0, 0, 0⟩ = R at *
      by_cases h2 : R.2.err ≠ 0
      · rw [if_pos h2]; exact Nat.zero_le _
      · rw [if_neg h2] at h; exact absurd rfl h
end Go.Proofs.Ytmgkhfnhaeplgaa

namespace Go.Proofs.Ytmgkhfnhaeplgaa
open Go Go.Am Go.Proofs
set_option linter.unusedSimpArgs false
set_option linter.unusedVariables false
set_option maxRecDepth 20000
set_option maxHeartbeats 8000000

/-! The laws' own parts: a text's fault. -/
theorem parse_nd (t : Bs) : ∀ n ∈ (parse t).1, NdG n := by
  by_cases h : (parse t).2.1 = 0
  · exact (parse_ok t h).2
  · intro n hn
    exfalso
    unfold parse at *
    generalize cut t = c at *
    obtain ⟨ws, err, at_⟩ := c
    simp only at *
    by_cases he : err ≠ 0
    · rw [if_pos he] at hn; cases hn
    · rw [if_neg he] at h hn
      generalize nodesL ws 40 [] ⟨0, 0, 0, 0, 0, 0⟩ = R at *
      by_cases h2 : R.2.err ≠ 0
      · rw [if_pos h2] at hn; cases hn
      · rw [if_neg h2] at h; exact h rfl
/-- A text's fault, plain. -/
def fltN (l : List Nd) : Nat × Nat := match checkN l with | some a => (11, a) | none => (0, 0)
def flt (t : Bs) : Nat × Nat := fltN (parse t).1
theorem faultA_eq (l : List Nd) : faultA (checkN l) = .agg [avI (fltN l).1, avI (fltN l).2] := by
  unfold fltN faultA; cases checkN l <;> rfl
theorem fault_calls (H : AHeap) (t : Bs) (hl : t.length ≤ 2000000) : ACalls Try.prog 9 [.str t] H fun r H' => r = .agg [avI (flt t).1, avI (flt t).2] ∧ H' = H := by
  have cp := fun H => Parse_calls H t hl
  have hlen := parse_len t
  have hnd := parse_nd t
  unfold flt
  generalize parse t = x at *
  obtain ⟨l, a, b⟩ := x
  simp only at *
  unfold parseA at cp
  simp only at cp
  have cb := fun H => Back_calls H l (by omega) (fun n hn => (hnd n hn).ok)
  have ck := fun H => Check_calls H l (by omega) (fun n hn => (hnd n hn).ok)
  have hvl := nd_len l
  simp only [faultA_eq] at ck
  generalize fltN l = z at *
  have cd := fun H => Bad_calls H (z.1 : Int) (z.2 : Int)
  clear hnd
  refine acalls_of_aw1 Try.func9 rfl (by decide) ?_
  (first | focus (refine yy2 ?_; refine awl_alloc rfl rfl rfl (fun oN hoN => ?_); refine yy16 ?_; refine yy116 ?_; (refine zc auto_wl (cp _) ?_; rintro r H' ⟨rfl, rfl⟩); refine yy80 ?_; refine awl_alloc rfl rfl rfl (fun oN hoN => ?_); refine yy83 ?_; refine yy11 ?_; refine yy16 ?_; refine yy27 ?_; (refine zc auto_wl (cb _) ?_; rintro r H' ⟨rfl, rfl⟩); (refine zc auto_wl (ck _) ?_; rintro r H' ⟨rfl, rfl⟩); (refine zc auto_wl (cd _) ?_; rintro r H' ⟨rfl, rfl⟩); refine yy36 ?_; rotate_left) | fail)
  exact ⟨.inl rfl, _, _, _, Ent.cellRet 2 [avI z.1, avI z.2] rfl auto_heap (by ((repeat' (first | exact WC.nil | apply WC.cons)); all_goals (first | exact W.of rfl | exact W.int rfl | exact W.nilb rfl | exact W.empb rfl | exact W.bysx rfl | exact W.nils rfl | exact W.emps rfl | exact W.slsx rfl))) auto_hs, ret_1 rfl (rv1_agg (m := 2) rfl rfl rfl (by decide)), rfl, rfl⟩
end Go.Proofs.Ytmgkhfnhaeplgaa

namespace Go.Proofs.Ytmgkhfnhaeplgaa
open Go
set_option linter.unusedSimpArgs false
set_option linter.unusedVariables false
set_option maxRecDepth 20000
set_option maxHeartbeats 8000000

/-! The closed texts. Plain. -/
abbrev tK1 : Bs := ([110, 111, 100, 101, 32, 102, 40, 120, 58, 32, 105, 110, 116, 41, 32, 114, 101, 116, 117, 114, 110, 115, 32, 40, 121, 58, 32, 105, 110, 116, 41, 59, 32, 108, 101, 116, 32, 121, 32, 61, 32, 112, 114, 101, 32, 120, 59, 32, 116, 101, 108] : Bs)
abbrev tK2 : Bs := ([110, 111, 100, 101, 32, 102, 40, 120, 58, 32, 105, 110, 116, 41, 32, 114, 101, 116, 117, 114, 110, 115, 32, 40, 121, 58, 32, 105, 110, 116, 41, 59, 32, 108, 101, 116, 32, 121, 32, 61, 32, 48, 32, 45, 62, 32, 112, 114, 101, 32, 120, 59, 32, 116, 101, 108] : Bs)
abbrev tA : Bs := ([110, 111, 100, 101, 32, 102, 40, 120, 58, 32, 105, 110, 116, 41, 32, 114, 101, 116, 117, 114, 110, 115, 32, 40, 121, 58, 32, 105, 110, 116, 41, 59, 32, 118, 97, 114, 32, 116, 58, 32, 105, 110, 116, 59, 32, 108, 101, 116, 32, 116, 32, 61, 32, 49, 32, 43, 32, 112, 114, 101, 32, 120, 59, 32, 121, 32, 61, 32, 48, 32, 45, 62, 32, 116, 59, 32, 116, 101, 108] : Bs)
theorem tK1_flt : flt tK1 = (11, 37) := by decide +kernel
theorem tK2_flt : flt tK2 = (0, 0) := by decide +kernel
def awk (l : List Nd) : Bool := match l with
  | [n] => (match n.eqs with
    | [q0, q1] => decide (checkN [n] = none) && decide (lateN n = [([116] : Bs)]) && lateE (hasB (lateNames n)) q0.e && !lateE (hasB (lateNames n)) q1.e
    | _ => false)
  | _ => false
theorem tA_awk : awk (parse tA).1 = true := by decide +kernel
theorem tA_is : ∃ nm ins outs locs a0 op0 nm0 n0 p0 k0 b0 a1 op1 nm1 n1 p1 k1 b1 at_ n, n = Nd.mk nm ins outs locs [⟨a0, .mk op0 nm0 n0 p0 k0, b0⟩, ⟨a1, .mk op1 nm1 n1 p1 k1, b1⟩] at_ ∧ (parse tA).1 = [n] ∧ checkN [n] = none ∧ lateN n = [([116] : Bs)] ∧ lateE (hasB (lateNames n)) (.mk op0 nm0 n0 p0 k0) = true ∧ lateE (hasB (lateNames n)) (.mk op1 nm1 n1 p1 k1) = false := by
  have h := tA_awk
  generalize (parse tA).1 = l at *
  unfold awk at h
  split at h
  · rename_i n
    split at h
    · rename_i q0 q1 hq
      obtain ⟨nm, ins, outs, locs, eqs, at_⟩ := n
      obtain ⟨a0, ⟨op0, nm0, n0, p0, k0⟩, b0⟩ := q0
      obtain ⟨a1, ⟨op1, nm1, n1, p1, k1⟩, b1⟩ := q1
      simp only at hq
      subst hq
      simp only [Bool.and_eq_true, decide_eq_true_eq, Bool.not_eq_true'] at h
      exact ⟨_, _, _, _, _, _, _, _, _, _, _, _, _, _, _, _, _, _, _, _, rfl, rfl, h.1.1.1, h.1.1.2, h.1.2, h.2⟩
    · cases h
  · cases h
end Go.Proofs.Ytmgkhfnhaeplgaa

namespace Go.Proofs.Ytmgkhfnhaeplgaa
open Go Go.Am Go.Proofs
set_option linter.unusedSimpArgs false
set_option linter.unusedVariables false
set_option maxRecDepth 20000
set_option maxHeartbeats 8000000

/-! The laws' own parts: awake. -/
theorem awake_calls (H : AHeap) : ACalls Try.prog 8 [] H fun r H' => r = avB true ∧ H' = H := by
  have cp := fun H => Parse_calls H tA (by decide)
  have hnd := parse_nd tA
  obtain ⟨nm, ins, outs, locs, a0, op0, nm0, n0, p0, k0, b0, a1, op1, nm1, n1, p1, k1, b1, at_, n, hn, hl, h1, h2, h3, h4⟩ := tA_is
  generalize parse tA = x at *
  obtain ⟨l, a, b⟩ := x
  simp only at *
  subst hl
  have hok := (hnd n (List.mem_singleton.2 rfl)).ok
  have cb := fun H => Back_calls H [n] (show 1 ≤ 2000000 by decide) (fun m hm => by rw [List.mem_singleton.1 hm]; exact hok)
  have ck := fun H => Check_calls H [n] (show 1 ≤ 2000000 by decide) (fun m hm => by rw [List.mem_singleton.1 hm]; exact hok)
  have cl := fun H => pLate_calls H n hok
  have ce0 := fun H => pExpr_calls H n (.mk op0 nm0 n0 p0 k0) hok (by subst hn; exact hok.e _ (List.mem_cons_self ..))
  have ce1 := fun H => pExpr_calls H n (.mk op1 nm1 n1 p1 k1) hok (by subst hn; exact hok.e _ (List.mem_cons_of_mem _ (List.mem_cons_self ..)))
  simp only [h1, faultA] at ck
  simp only [h2] at cl
  simp only [h3] at ce0
  simp only [h4] at ce1
  clear h1 h2 h3 h4 hnd
  have f1 := fun H => fault_calls H tK1 (by decide)
  have f2 := fun H => fault_calls H tK2 (by decide)
  simp only [tK1_flt] at f1
  simp only [tK2_flt] at f2
  unfold parseA at cp
  subst hn
  simp only [ndsA, ndL, List.flatMap_cons, List.flatMap_nil, List.append_nil, List.length_cons, List.length_nil, Nat.zero_add] at *
  clear hok
  refine acalls_of_aw0 Try.func8 rfl ?_
  (first | focus (refine yy15 ?_; refine yy2 ?_; (refine zc auto_wl (cp _) ?_; rintro r H' ⟨rfl, rfl⟩); refine yy80 ?_; refine awl_alloc rfl rfl rfl (fun oN hoN => ?_); refine yy83 ?_; refine yy11 ?_; refine yy16 ?_; refine yy27 ?_; (refine zc auto_wl (cb _) ?_; rintro r H' ⟨rfl, rfl⟩); refine yy83 ?_; refine yy16 ?_; refine yy27 ?_; refine yy44 ?_; refine yy141 ?_; (refine zc auto_wl (cl _) ?_; rintro r H' ⟨rfl, rfl⟩); refine yy83 ?_; refine yy4 ?_; refine yy73 ?_; (apply awt_s; · exact s_callc auto_wl (f1 _)); (apply awt_s; · exact s_buildv (by ((repeat' (first | exact eqL_nil | apply eqL_cons)); all_goals (first | exact (rfl : _ = AV.raw _) | exact (rfl : _ = AV.bys _) | exact (rfl : _ = AV.vw _ _ _ _) | exact (rfl : _ = AV.ptr _ _) | exact (rfl : _ = AV.str _) | exact (rfl : _ = AV.sls _ _) | exact (rfl : _ = AV.tup _) | exact (rfl : _ = AV.agg _) | exact (rfl : _ = AV.pce _ _) | exact (rfl : _ = AV.emp) | exact (rfl : _ = AV.bysx _) | exact (rfl : _ = AV.slsx _ _) | exact (rfl : _ = AV.mp _) | exact (rfl : _ = AV.fnc _ _ _) | exact (rfl : _ = AV.pby _ _) | exact (rfl : _ = AV.ifc _ _)))) (by rfl)); (apply awt_s; · exact s_eqlg rfl rfl rfl); (apply awt_s; · exact s_move (v := .raw _) rfl); refine zt6 rfl rfl rfl (fun hc => ?_) (fun hc => ?_); (apply awt_s; · exact s_callc auto_wl (f2 _)); refine yy3 ?_; (apply awt_s; · exact s_fieldv rfl rfl); refine yy3 ?_; (apply awt_s; · exact s_eqn rfl rfl); (apply awt_s; · exact s_pick_t (v := .raw _) rfl rfl); (apply awt_s; · exact s_move (v := .raw _) rfl); refine zt1 rfl rfl rfl (fun hc => ?_) (fun hc => ?_); (apply awt_s; · exact s_move (v := .sls _ _) rfl); refine yy3 ?_; (apply awt_s; · exact s_callc auto_wl (ck _)); refine yy3 ?_; (apply awt_s; · exact s_buildv (by ((repeat' (first | exact eqL_nil | apply eqL_cons)); all_goals (first | exact (rfl : _ = AV.raw _) | exact (rfl : _ = AV.bys _) | exact (rfl : _ = AV.vw _ _ _ _) | exact (rfl : _ = AV.ptr _ _) | exact (rfl : _ = AV.str _) | exact (rfl : _ = AV.sls _ _) | exact (rfl : _ = AV.tup _) | exact (rfl : _ = AV.agg _) | exact (rfl : _ = AV.pce _ _) | exact (rfl : _ = AV.emp) | exact (rfl : _ = AV.bysx _) | exact (rfl : _ = AV.slsx _ _) | exact (rfl : _ = AV.mp _) | exact (rfl : _ = AV.fnc _ _ _) | exact (rfl : _ = AV.pby _ _) | exact (rfl : _ = AV.ifc _ _)))) (by rfl)); refine yy3 ?_; (apply awt_s; · exact s_eqlg rfl rfl rfl); (apply awt_s; · exact s_pick_t (v := .raw _) rfl rfl); (apply awt_s; · exact s_move (v := .raw _) rfl); refine zt6 rfl rfl rfl (fun hc => ?_) (fun hc => ?_); (apply awt_s; · exact s_move (v := .sls _ _) rfl); refine yy3 ?_; (apply awt_s; · exact s_len_sls rfl); refine yy3 ?_; (apply awt_s; · exact s_eqn rfl rfl); (apply awt_s; · exact s_pick_t (v := .raw _) rfl rfl); (apply awt_s; · exact s_move (v := .raw _) rfl); refine zt1 rfl rfl rfl (fun hc => ?_) (fun hc => ?_); (apply awt_s; · exact s_move (v := .sls _ _) rfl); refine yy3 ?_; (apply awt_s; · exact s_indexAddr_sls rfl rfl auto_len); refine yy3 ?_; (apply awt_s; · exact s_load_pce rfl auto_idx); refine yy3 ?_; (apply awt_s; · exact s_streq rfl rfl); (apply awt_s; · exact s_pick_t (v := .raw _) rfl rfl); (apply awt_s; · exact s_move (v := .raw _) rfl); refine zt1 rfl rfl rfl (fun hc => ?_) (fun hc => ?_); (apply awt_s; · exact s_move (v := .sls _ _) rfl); refine yy3 ?_; (apply awt_s; · exact s_indexAddr_sls rfl rfl auto_len); refine yy3 ?_; (apply awt_s; · exact s_load_pce_agg rfl rfl rfl (by decide)); refine yy3 ?_; (apply awt_s; · exact s_move (v := .sls _ _) rfl); refine yy3 ?_; (apply awt_s; · exact s_indexAddr_sls rfl rfl auto_len); refine yy3 ?_; (apply awt_s; · exact s_fieldAddr_pce rfl); refine yy3 ?_; (apply awt_s; · exact s_load_pce rfl auto_idx); refine yy3 ?_; (apply awt_s; · exact s_indexAddr_sls rfl rfl auto_len); refine yy3 ?_; (apply awt_s; · exact s_fieldAddr_pce rfl); refine yy3 ?_; (apply awt_s; · exact s_load_pce_agg rfl rfl rfl (by decide)); refine yy3 ?_; (apply awt_s; · exact s_callc auto_wl (ce0 _)); (apply awt_s; · exact s_pick_t (v := .raw _) rfl rfl); (apply awt_s; · exact s_move (v := .raw _) rfl); refine yy3 ?_; (apply awt_s; · exact s_move (v := .sls _ _) rfl); refine yy3 ?_; (apply awt_s; · exact s_indexAddr_sls rfl rfl auto_len); refine yy3 ?_; (apply awt_s; · exact s_load_pce_agg rfl rfl rfl (by decide)); refine yy3 ?_; (apply awt_s; · exact s_move (v := .sls _ _) rfl); refine yy3 ?_; (apply awt_s; · exact s_indexAddr_sls rfl rfl auto_len); refine yy3 ?_; (apply awt_s; · exact s_fieldAddr_pce rfl); refine yy3 ?_; (apply awt_s; · exact s_load_pce rfl auto_idx); refine yy3 ?_; (apply awt_s; · exact s_indexAddr_sls rfl rfl auto_len); refine yy3 ?_; (apply awt_s; · exact s_fieldAddr_pce rfl); refine yy3 ?_; (apply awt_s; · exact s_load_pce_agg rfl rfl rfl (by decide)); refine yy3 ?_; (apply awt_s; · exact s_callc auto_wl (ce1 _)); refine yy3 ?_; (apply awt_s; · exact s_notb rfl); (apply awt_s; · exact s_pick_t (v := .raw _) rfl rfl); (apply awt_s; · exact s_assign (v := .raw _) rfl); refine yy77 ?_; refine aw_ret ?_; rotate_left; exact absurd hc auto_no; exact absurd hc auto_no; refine yy131 ?_; (apply awt_s; · exact s_pick_f (v := .raw _) rfl rfl); (apply awt_s; · exact s_move (v := .raw _) rfl); refine yy64 ?_; (apply awt_s; · exact s_pick_f (v := .raw _) rfl rfl); (apply awt_s; · exact s_move (v := .raw _) rfl); refine yy64 ?_; refine yy64 ?_; refine yy131 ?_; refine zt4 rfl rfl ?_; (apply awt_s; · exact s_pick_f (v := .raw _) rfl rfl); (apply awt_s; · exact s_move (v := .raw _) rfl); refine yy64 ?_; refine yy64 ?_; refine yy64 ?_; (apply awt_s; · exact s_pick_f (v := .raw _) rfl rfl); (apply awt_s; · exact s_assign (v := .raw _) rfl); refine yy77 ?_; refine aw_ret ?_; rotate_left; exact absurd hc auto_no; refine yy131 ?_; (apply awt_s; · exact s_pick_f (v := .raw _) rfl rfl); (apply awt_s; · exact s_move (v := .raw _) rfl); refine yy64 ?_; (apply awt_s; · exact s_pick_f (v := .raw _) rfl rfl); (apply awt_s; · exact s_move (v := .raw _) rfl); refine yy131 ?_; refine zt4 rfl rfl ?_; (apply awt_s; · exact s_pick_f (v := .raw _) rfl rfl); (apply awt_s; · exact s_move (v := .raw _) rfl); refine yy64 ?_; (apply awt_s; · exact s_pick_f (v := .raw _) rfl rfl); (apply awt_s; · exact s_move (v := .raw _) rfl); refine yy64 ?_; refine yy64 ?_; refine yy131 ?_; refine zt4 rfl rfl ?_; (apply awt_s; · exact s_pick_f (v := .raw _) rfl rfl); (apply awt_s; · exact s_move (v := .raw _) rfl); refine yy64 ?_; refine yy64 ?_; refine yy64 ?_; (apply awt_s; · exact s_pick_f (v := .raw _) rfl rfl); (apply awt_s; · exact s_assign (v := .raw _) rfl); refine yy77 ?_; refine aw_ret ?_; rotate_left) | fail)
  all_goals first | exact ⟨.inl rfl, _, _, _, Ent.gc auto_sub, ret1 rfl rfl, by rfl, rfl⟩ | (exfalso; first | simp at hc | (revert hc; decide))
end Go.Proofs.Ytmgkhfnhaeplgaa

namespace Go.Proofs.Ytmgkhfnhaeplgaa
open Go
set_option linter.unusedSimpArgs false
set_option linter.unusedVariables false
set_option maxRecDepth 20000

/-! What the reference's check of names leaves: plain. -/
theorem failC_pos (c : Ck) (e a : Nat) (he : e ≠ 0) : (failC c e a).1 ≠ 0 := by
  unfold failC
  by_cases h : c.1 = 0
  · rw [if_pos h]; exact he
  · rw [if_neg h]; exact h
theorem failC_if {b : Bool} {c : Ck} {e a : Nat} (he : e ≠ 0) (h : (if b = true then c else failC c e a).1 = 0) : c.1 = 0 ∧ b = true := by
  cases b with
  | true => exact ⟨h, rfl⟩
  | false => exact absurd h (failC_pos c e a he)
theorem failC_ifn {b : Bool} {c : Ck} {e a : Nat} (he : e ≠ 0) (h : (if b = true then failC c e a else c).1 = 0) : c.1 = 0 ∧ b = false := by
  cases b with
  | false => exact ⟨h, rfl⟩
  | true => exact absurd h (failC_pos c e a he)
mutual
def nmE (ahead : List Nd) (n : Nd) : Ex → Prop
  | .mk op nm _ _ ks => nameOk ahead n op nm ks.length = true ∧ nmL ahead n ks
def nmL (ahead : List Nd) (n : Nd) : List Ex → Prop
  | [] => True
  | e :: l => nmE ahead n e ∧ nmL ahead n l
end
section
variable {ahead : List Nd} {n : Nd}
mutual
theorem namesE_ok : ∀ (e : Ex) (c : Ck), (namesE ahead n c e).1 = 0 → c.1 = 0 ∧ nmE ahead n e
  | .mk op nm nn at_ ks, c, h => by
    rw [namesE] at h
    have h1 := namesL_ok ks _ h
    have h2 := failC_if (by decide) h1.1
    exact ⟨h2.1, by rw [nmE]; exact ⟨h2.2, h1.2⟩⟩
theorem namesL_ok : ∀ (l : List Ex) (c : Ck), (namesL ahead n c l).1 = 0 → c.1 = 0 ∧ nmL ahead n l
  | [], c, h => ⟨by rw [namesL] at h; exact h, by rw [nmL]; trivial⟩
  | e :: l, c, h => by
    rw [namesL] at h
    have h1 := namesL_ok l _ h
    have h2 := namesE_ok e _ h1.1
    exact ⟨h2.1, by rw [nmL]; exact ⟨h2.2, h1.2⟩⟩
end
theorem nameV_ok {pre : List Vr} {v : Vr} {c : Ck} (h : (nameV pre v c).1 = 0) : c.1 = 0 ∧ (v.on = [] ∨ inputL v.on pre = true) := by
  unfold nameV at h
  have h1 := failC_if (by decide) h
  have h2 := failC_ifn (by decide) h1.1
  exact ⟨h2.1, by simpa using h1.2⟩
theorem namesV_ok : ∀ (l pre : List Vr) (c : Ck), (namesV pre l c).1 = 0 → c.1 = 0 ∧ ∀ (k : Nat) (v : Vr), l[k]? = some v → v.on = [] ∨ inputL v.on (pre ++ l.take k) = true
  | [], pre, c, h => ⟨h, fun k v hv => by cases k <;> cases hv⟩
  | v :: r, pre, c, h => by
    rw [namesV] at h
    have h1 := namesV_ok r _ _ h
    have h2 := nameV_ok h1.1
    refine ⟨h2.1, fun k u hu => ?_⟩
    cases k with
    | zero => cases hu; rw [List.take_zero, List.append_nil]; exact h2.2
    | succ k =>
      have := h1.2 k u hu
      rwa [List.append_assoc] at this
theorem on_ok {c : Ck} (h : (namesV [] (varsN n) c).1 = 0) : c.1 = 0 ∧ OnOk n := by
  have h1 := namesV_ok _ _ _ h
  refine ⟨h1.1, fun k v hv ho => ?_⟩
  have h2 := (h1.2 k v hv).resolve_left ho
  rw [List.nil_append] at h2
  unfold inputL at h2
  rw [List.any_eq_true] at h2
  obtain ⟨u, hu, he⟩ := h2
  obtain ⟨j, hj⟩ := List.mem_iff_getElem?.1 hu
  rw [List.getElem?_take] at hj
  split at hj
  · rename_i hjk; exact ⟨j, u, hjk, hj, by simpa using he⟩
  · cases hj
theorem namesQ_ok : ∀ (l pre : List Eqn) (c : Ck), (namesQ ahead n pre l c).1 = 0 → c.1 = 0 ∧ ∀ q ∈ l, (findV n q.name).2 = true ∧ nmE ahead n q.e
  | [], pre, c, h => ⟨h, fun q hq => by cases hq⟩
  | q :: r, pre, c, h => by
    rw [namesQ] at h
    have h1 := namesQ_ok r _ _ h
    have h2 := h1.1
    unfold nameQ at h2
    have h3 := namesE_ok q.e _ h2
    have h4 := failC_ifn (by decide) h3.1
    refine ⟨h4.1, fun u hu => ?_⟩
    rcases List.mem_cons.1 hu with rfl | hu
    · refine ⟨?_, h3.2⟩
      have := h4.2
      simp only [Bool.or_eq_false_iff, Bool.not_eq_false'] at this
      exact this.1.1
    · exact h1.2 u hu
theorem namesO_ok : ∀ (l : List Vr) (c : Ck), (namesO n l c).1 = 0 → c.1 = 0
  | [], c, h => h
  | v :: r, c, h => by
    rw [namesO] at h
    exact (failC_if (by decide) (namesO_ok r _ h)).1
/-- What the check of names leaves of a node. -/
structure NmN (ahead : List Nd) (n : Nd) : Prop where
  on : OnOk n
  decl : ∀ q ∈ n.eqs, (findV n q.name).2 = true
  nm : ∀ q ∈ n.eqs, nmE ahead n q.e
theorem nameN_ok {c : Ck} (h : (nameN ahead n c).1 = 0) : c.1 = 0 ∧ NmN ahead n := by
  unfold nameN at h
  have h1 := namesQ_ok _ _ _ (namesO_ok _ _ h)
  have h2 := on_ok h1.1
  have h3 := failC_ifn (by decide) h2.1
  exact ⟨h3.1, h2.2, fun q hq => (h1.2 q hq).1, fun q hq => (h1.2 q hq).2⟩
end
theorem namesN_ok : ∀ (l pre : List Nd) (c : Ck), (namesN pre l c).1 = 0 → c.1 = 0 ∧ ∀ (k : Nat) (n : Nd), l[k]? = some n → NmN (pre ++ l.take k) n
  | [], pre, c, h => ⟨h, fun k n hn => by cases k <;> cases hn⟩
  | n :: r, pre, c, h => by
    rw [namesN] at h
    have h1 := namesN_ok r _ _ h
    have h2 := nameN_ok h1.1
    refine ⟨h2.1, fun k u hu => ?_⟩
    cases k with
    | zero => cases hu; rw [List.take_zero, List.append_nil]; exact h2.2
    | succ k =>
      have := h1.2 k u hu
      rwa [List.append_assoc] at this
theorem nodeL_app (s : Bs) : ∀ (l r : List Nd) (i : Nat), 0 ≤ nodeL s l i → nodeL s (l ++ r) i = nodeL s l i
  | [], r, i, h => by rw [nodeL] at h; exact absurd h (by decide)
  | n :: l, r, i, h => by
    rw [List.cons_append, nodeL, nodeL]
    rw [nodeL] at h
    by_cases hn : n.name = s
    · rw [if_pos hn, if_pos hn]
    · rw [if_neg hn, if_neg hn]; rw [if_neg hn] at h; exact nodeL_app s l r _ h
mutual
theorem nm_exOk {ahead rest : List Nd} {n : Nd} : ∀ (e : Ex), arE e → nmE ahead n e → exOk (ahead ++ rest) e
  | .mk op nm nn at_ ks, ha, h => by
    rw [arE] at ha
    rw [nmE] at h
    rw [exOk]
    refine ⟨⟨ha.1, fun hc => ?_⟩, nm_exOkL ks ha.2 h.2⟩
    have h1 := h.1
    subst hc
    unfold nameOk at h1
    rw [if_neg (by decide), if_pos rfl] at h1
    simp only [Bool.and_eq_true, decide_eq_true_eq] at h1
    obtain ⟨h2, h3⟩ := h1
    cases hm : ahead[(nodeOf ahead nm).toNat]? with
    | none => rw [hm] at h3; cases h3
    | some m =>
      rw [hm] at h3
      simp only [Bool.and_eq_true, decide_eq_true_eq] at h3
      refine ⟨(nodeOf ahead nm).toNat, m, ?_, ?_, h3.1, h3.2⟩
      · rw [List.getElem?_append_left (List.getElem?_eq_some_iff.1 hm).1]; exact hm
      · unfold nodeOf at *
        rw [nodeL_app _ _ _ _ h2, Int.toNat_of_nonneg h2]
theorem nm_exOkL {ahead rest : List Nd} {n : Nd} : ∀ (l : List Ex), arL l → nmL ahead n l → exOkL (ahead ++ rest) l
  | [], _, _ => by rw [exOkL]; trivial
  | e :: l, ha, h => by
    rw [arL] at ha
    rw [nmL] at h
    rw [exOkL]
    exact ⟨nm_exOk e ha.1 h.1, nm_exOkL l ha.2 h.2⟩
end
/-- Names answered 0: what kinds, clocks and the rest lean on. -/
theorem names_ok {l : List Nd} (h : (names l).1 = 0) (hg : ∀ n ∈ l, NdG n) : ∀ n ∈ l, OnOk n ∧ (∀ q ∈ n.eqs, (findV n q.name).2 = true) ∧ ∀ q ∈ n.eqs, exOk l q.e := by
  have h1 := (namesN_ok l [] _ h).2
  intro n hn
  obtain ⟨k, hk⟩ := List.mem_iff_getElem?.1 hn
  have h2 := h1 k n hk
  rw [List.nil_append] at h2
  refine ⟨h2.on, h2.decl, fun q hq => ?_⟩
  have := nm_exOk (rest := l.drop k) q.e ((hg n hn).ar q hq) (h2.nm q hq)
  rwa [List.take_append_drop] at this
end Go.Proofs.Ytmgkhfnhaeplgaa

namespace Go.Proofs.Ytmgkhfnhaeplgaa
open Go
set_option linter.unusedSimpArgs false
set_option linter.unusedVariables false
set_option maxRecDepth 20000

/-! Both sides tell the same late names and the same first fault. Plain. -/
/-! What is late is the least set that the equations close. -/
mutual
theorem lateE_mono {p p' : Bs → Bool} (h : ∀ s, p s = true → p' s = true) : ∀ e : Ex, lateE p e = true → lateE p' e = true
  | .mk op nm nn at_ ks, he => by
    rw [lateE] at he ⊢
    by_cases h1 : op = ([118, 97, 114] : Bs)
    · rw [if_pos h1] at he ⊢; exact h _ he
    · rw [if_neg h1] at he ⊢
      by_cases h2 : op = ([112, 114, 101] : Bs)
      · rw [if_pos h2]
      · rw [if_neg h2] at he ⊢
        by_cases h3 : op = ([45, 62] : Bs) ∨ op = ([102, 98, 121] : Bs) ∨ op = ([109, 101, 114, 103, 101] : Bs) ∨ op = ([99, 97, 108, 108] : Bs) ∨ op = ([105, 110, 116] : Bs) ∨ op = ([98, 111, 111, 108] : Bs)
        · rw [if_pos h3] at he; cases he
        · rw [if_neg h3] at he ⊢; exact lateL_mono h ks he
theorem lateL_mono {p p' : Bs → Bool} (h : ∀ s, p s = true → p' s = true) : ∀ l : List Ex, lateL p l = true → lateL p' l = true
  | [], he => by rw [lateL] at he; cases he
  | e :: l, he => by
    rw [lateL, Bool.or_eq_true] at he ⊢
    exact he.imp (lateE_mono h e) (lateL_mono h l)
end
def ClosedS (l : List Eqn) (S : Bs → Bool) : Prop := ∀ q ∈ l, lateE S q.e = true → S q.name = true
theorem lateQ_sub {S : Bs → Bool} {names : List Bs} {q : Eqn} (hq : lateE S q.e = true → S q.name = true) (h : ∀ s ∈ names, S s = true) : ∀ s ∈ lateQ names q, S s = true := by
  unfold lateQ
  split
  · rename_i hc
    rw [Bool.and_eq_true] at hc
    intro s hs
    rcases List.mem_append.1 hs with hs | hs
    · exact h s hs
    · rw [List.mem_singleton] at hs; subst hs
      exact hq (lateE_mono (fun s hs => h s (hasB_iff.1 hs)) _ hc.2)
  · exact h
theorem lateRound_sub {S : Bs → Bool} : ∀ (l : List Eqn) (names : List Bs), ClosedS l S → (∀ s ∈ names, S s = true) → ∀ s ∈ lateRound l names, S s = true
  | [], names, _, h => h
  | q :: r, names, hc, h => lateRound_sub r _ (fun u hu => hc u (List.mem_cons_of_mem _ hu)) (lateQ_sub (hc q List.mem_cons_self) h)
theorem lateRounds_sub {S : Bs → Bool} {l : List Eqn} (hc : ClosedS l S) : ∀ (m : Nat) (names : List Bs), (∀ s ∈ names, S s = true) → ∀ s ∈ lateRounds l m names, S s = true
  | 0, names, h => h
  | m + 1, names, h => lateRounds_sub hc m _ (lateRound_sub l names hc h)
theorem zlateQ_len (names : List Bs) (q : Eqn) : lateQ names q = names ∨ names.length < (lateQ names q).length := by
  unfold lateQ
  split
  · right; rw [List.length_append, List.length_singleton]; omega
  · left; rfl
theorem zlateRound_len : ∀ (l : List Eqn) (names : List Bs), names.length ≤ (lateRound l names).length ∧ ((lateRound l names).length = names.length → lateRound l names = names ∧ ∀ q ∈ l, lateQ names q = names)
  | [], names => ⟨Nat.le_refl _, fun _ => ⟨rfl, fun q hq => by cases hq⟩⟩
  | q :: r, names => by
    have h := zlateRound_len r (lateQ names q)
    rw [lateRound]
    rcases zlateQ_len names q with hq | hq
    · rw [hq] at h ⊢
      exact ⟨h.1, fun e => ⟨(h.2 e).1, fun u hu => by
        rcases List.mem_cons.1 hu with rfl | hu
        · exact hq
        · exact (h.2 e).2 u hu⟩⟩
    · exact ⟨by omega, fun e => by omega⟩
theorem zlateRounds_fix {l : List Eqn} {names : List Bs} (h : lateRound l names = names) : ∀ m, lateRounds l m names = names
  | 0 => rfl
  | m + 1 => by rw [lateRounds, h]; exact zlateRounds_fix h m
theorem zlateRounds_len {l : List Eqn} : ∀ (m : Nat) (names : List Bs), lateRound l (lateRounds l m names) = lateRounds l m names ∨ names.length + m ≤ (lateRounds l m names).length
  | 0, names => .inr (Nat.le_refl _)
  | m + 1, names => by
    rw [lateRounds]
    have h := zlateRound_len l names
    by_cases e : (lateRound l names).length = names.length
    · have e2 := (h.2 e).1
      rw [e2, zlateRounds_fix e2]
      exact .inl e2
    · exact (zlateRounds_len m (lateRound l names)).imp id (fun k => by omega)
theorem late_closed (n : Nd) : ClosedS n.eqs (hasB (lateNames n)) := by
  have h := zlateRounds_len (l := n.eqs) (n.eqs.length + 1) []
  have hl := (lateNames_ok n).len
  unfold lateNames at hl ⊢
  have h1 := h.resolve_right (fun k => by simp only [List.length_nil] at k; omega)
  have h2 := ((zlateRound_len n.eqs (lateRounds n.eqs (n.eqs.length + 1) [])).2 (by rw [h1])).2
  intro q hq he
  have h3 := h2 q hq
  unfold lateQ at h3
  by_cases hb : hasB (lateRounds n.eqs (n.eqs.length + 1) []) q.name = true
  · exact hb
  · rw [if_pos (by rw [Bool.and_eq_true, he]; exact ⟨by simpa using hb, rfl⟩)] at h3
    have := congrArg List.length h3
    rw [List.length_append, List.length_singleton] at this
    omega
/-- The same equations in whatever order: the same late names. -/
theorem late_turned {n m : Nd} (h : ∀ q, q ∈ n.eqs ↔ q ∈ m.eqs) : hasB (lateNames n) = hasB (lateNames m) := by
  have one : ∀ {n m : Nd}, (∀ q, q ∈ n.eqs ↔ q ∈ m.eqs) → ∀ s, hasB (lateNames n) s = true → hasB (lateNames m) s = true := fun {n m} h s hs =>
    lateRounds_sub (S := hasB (lateNames m)) (fun q hq => late_closed m q ((h q).1 hq)) _ [] (fun s hs => by cases hs) s (hasB_iff.1 hs)
  funext s
  rw [Bool.eq_iff_iff]
  exact ⟨one h s, one (fun q => (h q).symm) s⟩
theorem checkQ_none {p : Bs → Bool} {n : Nd} : ∀ {l : List Eqn}, checkQ p n l = none ↔ ∀ q ∈ l, wrongE p q.e = none ∧ (p q.name && toldB n q.name) = false
  | [] => ⟨fun _ q hq => (by cases hq), fun _ => rfl⟩
  | q :: r => by
    rw [checkQ]
    cases hw : wrongE p q.e with
    | some a => exact ⟨fun h => (by cases h), fun h => (by rw [(h q List.mem_cons_self).1] at hw; cases hw)⟩
    | none =>
      show (if (p q.name && toldB n q.name) = true then some q.at_ else checkQ p n r) = none ↔ _
      by_cases hb : (p q.name && toldB n q.name) = true
      · rw [if_pos hb]
        exact ⟨fun h => (by cases h), fun h => (by rw [(h q List.mem_cons_self).2] at hb; cases hb)⟩
      · rw [if_neg hb, checkQ_none]
        constructor
        · intro h u hu
          rcases List.mem_cons.1 hu with rfl | hu
          · exact ⟨hw, by simpa using hb⟩
          · exact h u hu
        · exact fun h u hu => h u (List.mem_cons_of_mem _ hu)
end Go.Proofs.Ytmgkhfnhaeplgaa

namespace Go.Proofs.Ytmgkhfnhaeplgaa
open Go Go.Am Go.Proofs
set_option linter.unusedSimpArgs false
set_option linter.unusedVariables false
set_option maxRecDepth 20000
set_option maxHeartbeats 8000000

/-! The reference: Upto, as far as clocks. -/
def okU (x : List Nd × Nat × Nat) : Bool := decide (x.2.1 = 0) && decide ((names x.1).1 = 0) && decide ((types x.1).1 = 0) && decide ((clocks x.1).1 = 0)
def uptoA (x : List Nd × Nat × Nat) : AV := if okU x = true then .tup [ndsA x.1, avB true] else .tup [.raw (.slice none 0 0), avB false]
theorem Upto_calls (H : AHeap) (t : Bs) (hl : t.length ≤ 2000000) : ACalls Try.prog 10 [.str t, avI 8] H fun r H' => r = uptoA (parse t) ∧ H' = H := by
  have cp := fun H => Parse_calls H t hl
  have hlen := parse_len t
  have hnd := parse_nd t
  unfold uptoA okU
  generalize parse t = x at *
  obtain ⟨l, a, b⟩ := x
  simp only at *
  unfold parseA at cp
  simp only at cp
  have hvl := nd_len l
  have hok : ∀ n ∈ l, NdOk n := fun n hn => (hnd n hn).ok
  have cn := fun H => Names_calls H l (by omega) hok
  by_cases h1 : a = 0
  · subst h1
    by_cases h2 : (names l).1 = 0
    · have hno := names_ok h2 hnd
      have ct := fun H => Types_calls H l (by omega) hok (fun n hn => (hno n hn).2.2)
      have cc := fun H => Clocks_calls H l (by omega) hok (fun n hn => (hno n hn).2.2) (fun n hn => (hno n hn).1)
      clear hno hnd hok
      generalize names l = c1 at *
      generalize types l = c2 at *
      generalize clocks l = c3 at *
      obtain ⟨e1, a1⟩ := c1
      obtain ⟨e2, a2⟩ := c2
      obtain ⟨e3, a3⟩ := c3
      simp only [ckA] at *
      subst h2
      by_cases h3 : e2 = 0
      · subst h3
        by_cases h4 : e3 = 0
        · subst h4
          refine acalls_of_aw2 Try.func10 rfl (by decide) ?_
          (first | focus (refine yy2 ?_; refine yy21 ?_; refine yy6 ?_; refine yy2 ?_; refine yy116 ?_; (refine zc auto_wl (cp _) ?_; rintro r H' ⟨rfl, rfl⟩); refine yy80 ?_; refine awl_alloc rfl rfl rfl (fun oN hoN => ?_); refine yy83 ?_; refine yy11 ?_; refine yy42 ?_; refine yy10 ?_; refine yy17 ?_; refine zg1 rfl rfl rfl (fun hc => ?_) (fun hc => ?_); refine yy18 ?_; refine yy129 ?_; refine yy79 ?_; refine aw_condp rfl (fun hc => ?_) (fun hc => ?_); refine yy107 ?_; (refine zc auto_wl (cn _) ?_; rintro r H' ⟨rfl, rfl⟩); refine yy11 ?_; refine yy42 ?_; refine yy10 ?_; refine yy17 ?_; refine zg1 rfl rfl rfl (fun hc => ?_) (fun hc => ?_); refine yy18 ?_; refine yy129 ?_; refine yy79 ?_; refine aw_condp rfl (fun hc => ?_) (fun hc => ?_); refine yy107 ?_; (refine zc auto_wl (ct _) ?_; rintro r H' ⟨rfl, rfl⟩); refine yy11 ?_; refine yy42 ?_; refine yy10 ?_; refine yy17 ?_; refine zg1 rfl rfl rfl (fun hc => ?_) (fun hc => ?_); refine yy18 ?_; refine yy129 ?_; refine yy79 ?_; refine aw_condp rfl (fun hc => ?_) (fun hc => ?_); refine yy107 ?_; (refine zc auto_wl (cc _) ?_; rintro r H' ⟨rfl, rfl⟩); refine yy11 ?_; refine yy42 ?_; refine yy10 ?_; refine yy17 ?_; refine zg1 rfl rfl rfl (fun hc => ?_) (fun hc => ?_); refine yy18 ?_; refine yy129 ?_; refine yy79 ?_; refine yy60 ?_; intro hc; refine yy54 ?_; refine yy17 ?_; refine zg1 rfl rfl rfl (fun hc => ?_) (fun hc => ?_); refine yy18 ?_; refine yy129 ?_; refine yy79 ?_; refine yy60 ?_; intro hc; refine yy54 ?_; refine yy110 ?_; refine yy60 ?_; intro hc; refine yy76 ?_; refine yy83 ?_; refine yy41 ?_; rotate_left; exact absurd hc auto_no; exact absurd hc auto_no; exact absurd hc auto_no; exact absurd hc auto_no; exact absurd hc auto_no; exact absurd hc auto_no; exact absurd hc auto_no; exact absurd hc auto_no) | fail)
          all_goals first | exact ⟨.inl rfl, _, _, _, Ent.gc auto_sub, ret_2 rfl (rv1_tmp rfl) (rv1_tmp rfl), by rfl, rfl⟩ | (exfalso; omega) | trace_state
        · have hd : decide (e3 = 0) = false := decide_eq_false h4
          rw [hd]
          clear hd
          refine acalls_of_aw2 Try.func10 rfl (by decide) ?_
          (first | focus (refine yy2 ?_; refine yy21 ?_; refine yy6 ?_; refine yy2 ?_; refine yy116 ?_; (refine zc auto_wl (cp _) ?_; rintro r H' ⟨rfl, rfl⟩); refine yy80 ?_; refine awl_alloc rfl rfl rfl (fun oN hoN => ?_); refine yy83 ?_; refine yy11 ?_; refine yy42 ?_; refine yy10 ?_; refine yy17 ?_; refine zg1 rfl rfl rfl (fun hc => ?_) (fun hc => ?_); refine yy18 ?_; refine yy129 ?_; refine yy79 ?_; refine aw_condp rfl (fun hc => ?_) (fun hc => ?_); refine yy107 ?_; (refine zc auto_wl (cn _) ?_; rintro r H' ⟨rfl, rfl⟩); refine yy11 ?_; refine yy42 ?_; refine yy10 ?_; refine yy17 ?_; refine zg1 rfl rfl rfl (fun hc => ?_) (fun hc => ?_); refine yy18 ?_; refine yy129 ?_; refine yy79 ?_; refine aw_condp rfl (fun hc => ?_) (fun hc => ?_); refine yy107 ?_; (refine zc auto_wl (ct _) ?_; rintro r H' ⟨rfl, rfl⟩); refine yy11 ?_; refine yy42 ?_; refine yy10 ?_; refine yy17 ?_; refine zg1 rfl rfl rfl (fun hc => ?_) (fun hc => ?_); refine yy18 ?_; refine yy129 ?_; refine yy79 ?_; refine aw_condp rfl (fun hc => ?_) (fun hc => ?_); refine yy107 ?_; (refine zc auto_wl (cc _) ?_; rintro r H' ⟨rfl, rfl⟩); refine yy11 ?_; refine yy42 ?_; refine yy10 ?_; refine yy17 ?_; refine zg1 rfl rfl rfl (fun hc => ?_) (fun hc => ?_); exact absurd hc auto_no; replace hc := hide_nat hc; refine yy53 ?_; refine yy25 ?_; refine yy54 ?_; refine yy17 ?_; refine zg1 rfl rfl rfl (fun hc => ?_) (fun hc => ?_); exact absurd hc (Hdq.out (by assumption)); replace hc := hide_nat hc; refine yy53 ?_; refine yy25 ?_; refine yy54 ?_; refine yy110 ?_; refine aw_condp rfl (fun hc => ?_) (fun hc => ?_); replace hc := hide_nat hc; refine yy2 ?_; refine yy21 ?_; refine yy41 ?_; refine k_seq_ret ?_; rotate_left; exact absurd hc auto_no; exact absurd hc auto_no; exact absurd hc auto_no; exact absurd hc auto_no; exact absurd hc auto_no; exact absurd hc auto_no; exact absurd hc auto_no) | fail)
          all_goals first | exact ⟨.inl rfl, _, _, _, Ent.gc auto_sub, ret_2 rfl (rv1_tmp rfl) (rv1_tmp rfl), by rfl, rfl⟩ | (exfalso; omega) | trace_state
      · have hd : decide (e2 = 0) = false := decide_eq_false h3
        rw [hd]
        clear hd cc
        refine acalls_of_aw2 Try.func10 rfl (by decide) ?_
        (first | focus (refine yy2 ?_; refine yy21 ?_; refine yy6 ?_; refine yy2 ?_; refine yy116 ?_; (refine zc auto_wl (cp _) ?_; rintro r H' ⟨rfl, rfl⟩); refine yy80 ?_; refine awl_alloc rfl rfl rfl (fun oN hoN => ?_); refine yy83 ?_; refine yy11 ?_; refine yy42 ?_; refine yy10 ?_; refine yy17 ?_; refine zg1 rfl rfl rfl (fun hc => ?_) (fun hc => ?_); refine yy18 ?_; refine yy129 ?_; refine yy79 ?_; refine aw_condp rfl (fun hc => ?_) (fun hc => ?_); refine yy107 ?_; (refine zc auto_wl (cn _) ?_; rintro r H' ⟨rfl, rfl⟩); refine yy11 ?_; refine yy42 ?_; refine yy10 ?_; refine yy17 ?_; refine zg1 rfl rfl rfl (fun hc => ?_) (fun hc => ?_); refine yy18 ?_; refine yy129 ?_; refine yy79 ?_; refine aw_condp rfl (fun hc => ?_) (fun hc => ?_); refine yy107 ?_; (refine zc auto_wl (ct _) ?_; rintro r H' ⟨rfl, rfl⟩); refine yy11 ?_; refine yy42 ?_; refine yy10 ?_; refine yy17 ?_; refine zg1 rfl rfl rfl (fun hc => ?_) (fun hc => ?_); exact absurd hc auto_no; replace hc := hide_nat hc; refine yy53 ?_; refine yy25 ?_; refine yy54 ?_; refine yy17 ?_; refine zg1 rfl rfl rfl (fun hc => ?_) (fun hc => ?_); exact absurd hc (Hdq.out (by assumption)); replace hc := hide_nat hc; refine yy53 ?_; refine yy25 ?_; refine yy54 ?_; refine yy17 ?_; refine zg1 rfl rfl rfl (fun hc => ?_) (fun hc => ?_); exact absurd hc (Hdq.out (by assumption)); replace hc := hide_nat hc; refine yy53 ?_; refine yy25 ?_; refine yy54 ?_; refine yy110 ?_; refine aw_condp rfl (fun hc => ?_) (fun hc => ?_); replace hc := hide_nat hc; refine yy2 ?_; refine yy21 ?_; refine yy41 ?_; refine k_seq_ret ?_; rotate_left; exact absurd hc auto_no; exact absurd hc auto_no; exact absurd hc auto_no; exact absurd hc auto_no; exact absurd hc auto_no) | fail)
        all_goals first | exact ⟨.inl rfl, _, _, _, Ent.gc auto_sub, ret_2 rfl (rv1_tmp rfl) (rv1_tmp rfl), by rfl, rfl⟩ | (exfalso; omega) | trace_state
    · have hd : decide ((names l).1 = 0) = false := decide_eq_false h2
      rw [hd]
      clear hd hnd hok
      generalize names l = c1 at *
      obtain ⟨e1, a1⟩ := c1
      simp only [ckA] at *
      refine acalls_of_aw2 Try.func10 rfl (by decide) ?_
      (first | focus (refine yy2 ?_; refine yy21 ?_; refine yy6 ?_; refine yy2 ?_; refine yy116 ?_; (refine zc auto_wl (cp _) ?_; rintro r H' ⟨rfl, rfl⟩); refine yy80 ?_; refine awl_alloc rfl rfl rfl (fun oN hoN => ?_); refine yy83 ?_; refine yy11 ?_; refine yy42 ?_; refine yy10 ?_; refine yy17 ?_; refine zg1 rfl rfl rfl (fun hc => ?_) (fun hc => ?_); refine yy18 ?_; refine yy129 ?_; refine yy79 ?_; refine aw_condp rfl (fun hc => ?_) (fun hc => ?_); refine yy107 ?_; (refine zc auto_wl (cn _) ?_; rintro r H' ⟨rfl, rfl⟩); refine yy11 ?_; refine yy42 ?_; refine yy10 ?_; refine yy17 ?_; refine zg1 rfl rfl rfl (fun hc => ?_) (fun hc => ?_); exact absurd hc auto_no; replace hc := hide_nat hc; refine yy53 ?_; refine yy25 ?_; refine yy54 ?_; refine yy17 ?_; refine zg1 rfl rfl rfl (fun hc => ?_) (fun hc => ?_); exact absurd hc (Hdq.out (by assumption)); replace hc := hide_nat hc; refine yy53 ?_; refine yy25 ?_; refine yy54 ?_; refine yy17 ?_; refine zg1 rfl rfl rfl (fun hc => ?_) (fun hc => ?_); exact absurd hc (Hdq.out (by assumption)); replace hc := hide_nat hc; refine yy53 ?_; refine yy25 ?_; refine yy54 ?_; refine yy17 ?_; refine zg1 rfl rfl rfl (fun hc => ?_) (fun hc => ?_); exact absurd hc (Hdq.out (by assumption)); replace hc := hide_nat hc; refine yy53 ?_; refine yy25 ?_; refine yy54 ?_; refine yy110 ?_; refine aw_condp rfl (fun hc => ?_) (fun hc => ?_); replace hc := hide_nat hc; refine yy2 ?_; refine yy21 ?_; refine yy41 ?_; refine k_seq_ret ?_; rotate_left; exact absurd hc auto_no; exact absurd hc auto_no; exact absurd hc auto_no) | fail)
      all_goals first | exact ⟨.inl rfl, _, _, _, Ent.gc auto_sub, ret_2 rfl (rv1_tmp rfl) (rv1_tmp rfl), by rfl, rfl⟩ | (exfalso; omega) | trace_state
  · have hd : decide (a = 0) = false := decide_eq_false h1
    rw [hd]
    clear hd cn hnd hok
    refine acalls_of_aw2 Try.func10 rfl (by decide) ?_
    (first | focus (refine yy2 ?_; refine yy21 ?_; refine yy6 ?_; refine yy2 ?_; refine yy116 ?_; (refine zc auto_wl (cp _) ?_; rintro r H' ⟨rfl, rfl⟩); refine yy80 ?_; refine awl_alloc rfl rfl rfl (fun oN hoN => ?_); refine yy83 ?_; refine yy11 ?_; refine yy42 ?_; refine yy10 ?_; refine yy17 ?_; refine zg1 rfl rfl rfl (fun hc => ?_) (fun hc => ?_); exact absurd hc auto_no; replace hc := hide_nat hc; refine yy53 ?_; refine yy25 ?_; refine yy54 ?_; refine yy17 ?_; refine zg1 rfl rfl rfl (fun hc => ?_) (fun hc => ?_); exact absurd hc (Hdq.out (by assumption)); replace hc := hide_nat hc; refine yy53 ?_; refine yy25 ?_; refine yy54 ?_; refine yy17 ?_; refine zg1 rfl rfl rfl (fun hc => ?_) (fun hc => ?_); exact absurd hc (Hdq.out (by assumption)); replace hc := hide_nat hc; refine yy53 ?_; refine yy25 ?_; refine yy54 ?_; refine yy17 ?_; refine zg1 rfl rfl rfl (fun hc => ?_) (fun hc => ?_); exact absurd hc (Hdq.out (by assumption)); replace hc := hide_nat hc; refine yy53 ?_; refine yy25 ?_; refine yy54 ?_; refine yy17 ?_; refine zg1 rfl rfl rfl (fun hc => ?_) (fun hc => ?_); exact absurd hc (Hdq.out (by assumption)); replace hc := hide_nat hc; refine yy53 ?_; refine yy25 ?_; refine yy54 ?_; refine yy110 ?_; refine aw_condp rfl (fun hc => ?_) (fun hc => ?_); replace hc := hide_nat hc; refine yy2 ?_; refine yy21 ?_; refine yy41 ?_; refine k_seq_ret ?_; rotate_left; exact absurd hc auto_no) | fail)
    all_goals first | exact ⟨.inl rfl, _, _, _, Ent.gc auto_sub, ret_2 rfl (rv1_tmp rfl) (rv1_tmp rfl), by rfl, rfl⟩ | (exfalso; omega) | trace_state
end Go.Proofs.Ytmgkhfnhaeplgaa
