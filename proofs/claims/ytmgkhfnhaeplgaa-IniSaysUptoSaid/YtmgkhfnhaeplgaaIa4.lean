import Derived.Test.YtmgkhfnhaeplgaaIz
import Derived.Test.YtmgkhfnhaeplgaaIa3
namespace Go.Proofs.Ytmgkhfnhaeplgaa
open Go Go.Am Go.Proofs
set_option linter.unusedSimpArgs false
set_option linter.unusedVariables false
set_option maxRecDepth 20000
set_option maxHeartbeats 8000000

/-! Clocks: of an expression. -/
abbrev clA (l : List (List Stp1 × Bool)) : List AV := l.map fun y => stA y.1
abbrev cbA (l : List (List Stp1 × Bool)) : List AV := l.map fun y => avB y.2
theorem ne_of_none_some {K : AHeap} {a b : Nat} {y : AO} (h1 : K a = none) (h2 : K b = some y) : a ≠ b := fun e => by rw [e, h2] at h1; cases h1
theorem clA_len (l : List (List Stp1 × Bool)) : (clA l).length = l.length * 1 := by rw [List.length_map, Nat.mul_one]
theorem cbA_len (l : List (List Stp1 × Bool)) : (cbA l).length = l.length * 1 := by rw [List.length_map, Nat.mul_one]
theorem clockF_len (n : Nd) : ∀ (m : Nat) (v : Vr × Bool) (l : List Stp1), (clockF n m v l).length ≤ l.length + m
  | 0, v, l => Nat.le_refl _
  | m + 1, v, l => by
    unfold clockF
    split
    · have := clockF_len n m (findV n v.1.on) (⟨v.1.on, v.1.not⟩ :: l)
      rw [List.length_cons] at this; omega
    · omega
theorem clockOf_len (n : Nd) (s : Bs) : (clockOf n s).length ≤ (varsN n).length + 1 := by
  have := clockF_len n ((varsN n).length + 1) (findV n s) []
  unfold clockOf
  simpa using this
theorem clockR_len {B : Nat} : ∀ (l : List (List Stp1 × Bool)) (x : List Stp1 × Bool) (a : Nat) (c : Ck), (∀ y ∈ l, y.1.length ≤ B) → x.1.length ≤ B → (clockR l x a c).1.1.length ≤ B
  | [], x, a, c, _, hx => hx
  | y :: r, x, a, c, h, hx => by
    unfold clockR
    have h1 := h y (List.mem_cons_self)
    have h2 := fun z hz => h z (List.mem_cons_of_mem _ hz)
    split
    · exact clockR_len r x a c h2 hx
    · split
      · exact clockR_len r _ a c h2 h1
      · exact clockR_len r x a _ h2 hx
theorem clockOp_len (n : Nd) (op nm : Bs) (nn : Int) (a : Nat) (l : List (List Stp1 × Bool)) (c : Ck) (h : ∀ y ∈ l, y.1.length ≤ (varsN n).length + 2) : (clockOp n op nm nn a l c).1.1.length ≤ (varsN n).length + 2 := by
  have hk := clockOf_len n nm
  unfold clockOp
  simp only
  split
  · exact Nat.zero_le _
  · split
    · simp only; omega
    · split
      · simp only [List.length_append, List.length_singleton]; omega
      · split
        · simp only; omega
        · exact clockR_len l _ a c h (Nat.zero_le _)
mutual
theorem clockE_len (n : Nd) : ∀ (c : Ck) (e : Ex), (clockE n c e).1.1.length ≤ (varsN n).length + 2
  | c, .mk op nm nn a ks => by
    unfold clockE
    exact clockOp_len n op nm nn a _ _ (clockL_len n c [] ks (fun y hy => by cases hy))
theorem clockL_len (n : Nd) : ∀ (c : Ck) (acc : List (List Stp1 × Bool)) (l : List Ex), (∀ y ∈ acc, y.1.length ≤ (varsN n).length + 2) → ∀ y ∈ (clockL n c acc l).1, y.1.length ≤ (varsN n).length + 2
  | c, acc, [], h => by unfold clockL; exact h
  | c, acc, e :: r, h => by
    unfold clockL
    refine clockL_len n _ _ r fun y hy => ?_
    rcases List.mem_append.1 hy with hy | hy
    · exact h y hy
    · rw [List.mem_singleton] at hy; subst hy; exact clockE_len n c e
end
theorem clockL_drop (n : Nd) (c : Ck) (acc : List (List Stp1 × Bool)) {ks : List Ex} {i : Nat} {k : Ex} (h : ks[i]? = some k) : clockL n c acc (ks.drop i) = clockL n (clockE n c k).2 (acc ++ [(clockE n c k).1]) (ks.drop (i + 1)) := by
  have hlt := (List.getElem?_eq_some_iff.1 h).1
  rw [List.drop_eq_getElem_cons hlt, (List.getElem?_eq_some_iff.1 h).2, clockL]
theorem clock_calls {o : Nat} (l : List Nd) (n : Nd) (h1 : n.ins.length ≤ 2000000) (h2 : n.outs.length ≤ 2000000) (h3 : n.locs.length ≤ 2000000) (hon : OnOk n) (m : Nat) : ∀ (e : Ex) (H : AHeap) (c : Ck), exSz e ≤ m → exSz e ≤ 2000000 → exOk l e → H o = some (.cel (ckA c)) →
    ACalls Try.prog 48 [.ptr o 0, .agg n.cells, exA e] H fun r H' => r = .tup [stA (clockE n c e).1.1, avB (clockE n c e).1.2] ∧ H' = H.set o (.cel (ckA (clockE n c e).2)) := by
  have hlv : (varsN n).length ≤ 6000000 := by unfold varsN; rw [List.length_append, List.length_append]; omega
  induction m with
  | zero => intro e H c h; rw [exSz_eq] at h; omega
  | succ m ih =>
    intro e H c h hb hok hH
    obtain ⟨op, nm, nn, at_, ks⟩ := e
    rw [exSz_eq] at h hb
    rw [exOk] at hok
    unfold clockE
    simp only [Ex.kids, Ex.op, Ex.name, Ex.n, Ex.at_] at *
    show ACalls Try.prog _ [.ptr o 0, .agg n.cells, .agg [.str op, .str nm, avI nn, avI at_, .sls ks.length (exL ks)]] H _
    have hml := exL_len ks
    have hkl : ks.length ≤ exSzL ks := by
      clear hml h hb hok
      induction ks with
      | nil => exact Nat.zero_le _
      | cons x l ih => rw [exSzL, List.length_cons]; have := exSz_eq x; omega
    have cf := fun H => ClockOf_calls H n nm h1 h2 h3 hon
    have hlz := clockL_len n c [] ks (fun y hy => by cases hy)
    have hko := clockOf_len n nm
    generalize hZ : clockL n c [] ks = Z at *
    replace hZ := Hdn.mk hZ
    have hn : n.cells = [.str n.name, .sls n.ins.length (vrL n.ins), .sls n.outs.length (vrL n.outs), .sls n.locs.length (vrL n.locs), .sls n.eqs.length (eqL n.eqs), avI n.at_] := rfl
    rw [hn] at *
    refine acalls_of_aw3 Try.func48 rfl (by decide) ?_
    (first | focus (refine yy3 ?_; refine zb1 rfl rfl rfl (fun oN hoN => ?_); refine zb1 rfl rfl rfl (fun oN hoN => ?_); refine yy23 ?_; refine yy5 ?_; refine yy11 ?_; refine yy11 ?_; refine yy86 ?_; rotate_left) | fail)
    rename_i oP hoP
    obtain ⟨oE, hoEe⟩ : ∃ x, x = oN := ⟨_, rfl⟩
    subst hoEe
    have hP0 : H oP = none := hoP
    have hE0 : H oE = none := by (first | assumption | exact AHeap.none_of_set ((by assumption)) | exact AHeap.none_of_set (AHeap.none_of_set ((by assumption))) | exact AHeap.none_of_set (AHeap.none_of_set (AHeap.none_of_set ((by assumption)))) | exact AHeap.none_of_set (AHeap.none_of_set (AHeap.none_of_set (AHeap.none_of_set ((by assumption))))) | exact AHeap.none_of_set (AHeap.none_of_set (AHeap.none_of_set (AHeap.none_of_set (AHeap.none_of_set ((by assumption)))))) | exact AHeap.none_of_set (AHeap.none_of_set (AHeap.none_of_set (AHeap.none_of_set (AHeap.none_of_set (AHeap.none_of_set ((by assumption))))))) | exact AHeap.none_of_set (AHeap.none_of_set (AHeap.none_of_set (AHeap.none_of_set (AHeap.none_of_set (AHeap.none_of_set (AHeap.none_of_set ((by assumption)))))))) | exact AHeap.none_of_set (AHeap.none_of_set (AHeap.none_of_set (AHeap.none_of_set (AHeap.none_of_set (AHeap.none_of_set (AHeap.none_of_set (AHeap.none_of_set ((by assumption))))))))) | exact AHeap.none_of_set (AHeap.none_of_set (AHeap.none_of_set (AHeap.none_of_set (AHeap.none_of_set (AHeap.none_of_set (AHeap.none_of_set (AHeap.none_of_set (AHeap.none_of_set ((by assumption)))))))))) | exact AHeap.none_of_set (AHeap.none_of_set (AHeap.none_of_set (AHeap.none_of_set (AHeap.none_of_set (AHeap.none_of_set (AHeap.none_of_set (AHeap.none_of_set (AHeap.none_of_set (AHeap.none_of_set ((by assumption))))))))))))
    have hEP : oE ≠ oP := by (first | assumption | exact Ne.symm (by assumption) | exact AHeap.ne_of_fresh (by assumption) | exact Ne.symm (AHeap.ne_of_fresh (by assumption)) | exact AHeap.ne_of_fresh (AHeap.none_of_set (by assumption)) | exact Ne.symm (AHeap.ne_of_fresh (AHeap.none_of_set (by assumption))) | exact AHeap.ne_ns (by assumption) (by assumption) | exact AHeap.ne_sn (by assumption) (by assumption) | exact AHeap.ne_ns (by assumption) auto_heap2 | exact AHeap.ne_sn (by assumption) auto_heap2)
    have hPo : oP ≠ o := fun e => by rw [e, hH] at hP0; cases hP0
    have hEo : oE ≠ o := fun e => by rw [e, hH] at hE0; cases hE0
    refine aw_own_nil 8 1 (.cel []) rfl rfl (fun oA hoA => ?_)
    refine aw_own_nil 9 1 (.cel []) rfl rfl (fun oB hoB => ?_)
    have hA0 : H oA = none := AHeap.none_of_set (AHeap.none_of_set hoA)
    have hAE : oA ≠ oE := AHeap.ne_of_fresh hoA
    have hAP : oA ≠ oP := AHeap.ne_of_fresh (AHeap.none_of_set hoA)
    have hAo : oA ≠ o := fun e => by rw [e, hH] at hA0; cases hA0
    have hBA : oB ≠ oA := AHeap.ne_of_fresh hoB
    have hoB2 := AHeap.none_of_set hoB
    have hB0 : H oB = none := AHeap.none_of_set (AHeap.none_of_set hoB2)
    have hBE : oB ≠ oE := AHeap.ne_of_fresh hoB2
    have hBP : oB ≠ oP := AHeap.ne_of_fresh (AHeap.none_of_set hoB2)
    have hBo : oB ≠ o := fun e => by rw [e, hH] at hB0; cases hB0
    refine aw_loop (fun mm R2 H2 => ∃ (i oA oB : Nat) (acc : List (List Stp1 × Bool)) (c' : Ck), i ≤ ks.length ∧ acc.length = i ∧ Hdn (clockL n c' acc (ks.drop i) = Z) ∧ (H oA = none ∧ oA ≠ o ∧ oA ≠ oE ∧ oA ≠ oP) ∧ (H oB = none ∧ oB ≠ o ∧ oB ≠ oE ∧ oB ≠ oP ∧ oB ≠ oA) ∧ H2 oE = some (.cel [.str op, .str nm, avI nn, avI at_, .sls ks.length (exL ks)]) ∧ H2 oP = some (.cel [.str n.name, .sls n.ins.length (vrL n.ins), .sls n.outs.length (vrL n.outs), .sls n.locs.length (vrL n.locs), .sls n.eqs.length (eqL n.eqs), avI n.at_]) ∧ H2 o = some (.cel (ckA c')) ∧ H2 oA = some (.cel (clA acc)) ∧ H2 oB = some (.cel (cbA acc)) ∧ (∀ p y, p ≠ o → H p = some y → H2 p = some y) ∧ R2 = [(0, .ptr o 0), (4, .ptr oP 0), (5, .ptr oE 0), (8, .vw oA 1 0 i), (9, .vw oB 1 0 i), (10, avI i)] ∧ ks.length - i = mm) ?_ ?_
    · exact ⟨_, _, _, Ent.sub _ (by (repeat' (first | exact RSub.nil _ | apply RSub.cons)); all_goals rfl), 0, oA, oB, [], c, Nat.zero_le _, rfl, hZ, ⟨hA0, hAo, hAE, hAP⟩, ⟨hB0, hBo, hBE, hBP, hBA⟩, by exact auto_heap, by exact auto_heap, by exact auto_heap, by exact auto_heap, by exact AHeap.set_self _ _ _, (fun p y hpo hp => by
          have hp3 : p ≠ oP := fun e => by rw [e, hP0] at hp; cases hp
          have hp4 : p ≠ oE := fun e => by rw [e, hE0] at hp; cases hp
          have hp5 : p ≠ oA := fun e => by rw [e, hA0] at hp; cases hp
          have hp6 : p ≠ oB := fun e => by rw [e, hB0] at hp; cases hp
          exact auto_heap), rfl, rfl⟩
    clear hZ hoA hoB hoB2 hA0 hAo hAE hAP hB0 hBo hBE hBP hBA oA oB hoN
    rintro mm R2 H2 ⟨i, oA, oB, acc, c', hi, hal, hZ, ⟨hA0, hAo, hAE, hAP⟩, ⟨hB0, hBo, hBE, hBP, hBA⟩, q1, q2, q3, q4, q5, hfr, rfl, rfl⟩
    have hAB := hBA.symm
    by_cases hlt : i < ks.length
    · have hg : ks[i]? = some ks[i] := List.getElem?_eq_getElem hlt
      have hseg := exL_get hg
      have hmem := exSz_mem (List.getElem_mem hlt)
      have hokk := exOkL_mem hok.2 (List.getElem_mem hlt)
      rw [clockL_drop n c' acc hg] at hZ
      generalize ks[i] = k at *
      have cb := fun H h => ih k H c' (by omega) (by omega) hokk h
      generalize clockE n c' k = r at *
      obtain ⟨⟨r0, r1⟩, c2⟩ := r
      simp only at hZ cb
      have hka : (clA acc).length = i * 1 := by rw [List.length_map, hal, Nat.mul_one]
      have hkb : (cbA acc).length = i * 1 := by rw [List.length_map, hal, Nat.mul_one]
      clear ih hg hmem hokk hok cf hlz hko
      (first | focus (refine yy21 ?_; refine aw_condp rfl (fun hc => ?_) (fun hc => ?_); refine yy10 ?_; refine aw_seq ?_; (apply aw_split2 true; (· (repeat' (first | exact spl2_call | apply spl2_cons))); (· exact auto_kr); (· exact auto_dk); (· exact auto_dk)); (apply awm_s; · (intro H1; exact s_move (v := .ptr _ _) rfl)); (apply awm_e auto_dk; (· exact s_load_agg rfl auto_heap rfl rfl (by first | decide | exact Nat.le_of_ble_eq_true rfl))); (apply awm_s; · (intro H1; exact s_fieldAddr_ptr rfl)); (apply awm_e auto_dk; (· exact s_load_cel rfl auto_heap rfl)); (apply awm_s; · (intro H1; exact s_move (v := .raw _) rfl)); (apply awm_s; · (intro H1; exact s_indexAddr_sls rfl rfl auto_len)); (apply awm_s; · (intro H1; exact s_load_pce_agg rfl (by assumption) (by rfl) (by decide))); refine awm_b ?_; refine awm_nil ?_; refine awb_cons (fun Rx K1 hK1x => ?_); (refine zc auto_wl (cb _ auto_heap) ?_; rintro r H' ⟨rfl, rfl⟩); refine yy39 ?_; (refine hK1x _ _ ?_; clear hK1x K1 Rx); refine awb_nil ?_; refine k_seq_normal ?_; refine any_draw0 auto_kr ?_; (apply awt_s; · exact s_move (v := .tup _) rfl); (apply awt_s; · exact s_extract rfl rfl); (apply awt_s; · exact s_extract rfl rfl); (apply awt_s; · exact s_assign (v := .sls _ _) rfl); (apply awt_s; · exact s_assign (v := .raw _) rfl); refine awt_nil ?_; refine k_seq_normal ?_; refine yy124 ?_; refine yy46 ?_; refine yy40 ?_; refine za4 rfl rfl rfl auto_heap auto_al auto_src auto_len auto_len (fun oN hoN => ?_); refine yy44 ?_; refine yy4 ?_; refine yy36 ?_; refine yy37 ?_; refine yy9 ?_; refine yy40 ?_; refine za4 rfl rfl rfl auto_heap auto_al auto_src auto_len auto_len (fun oN hoN => ?_); refine yy44 ?_; refine yy49 ?_; refine yy100 ?_; rotate_left; exact absurd hc auto_no) | fail)
      rename_i oA2 hoA2
      have n0 : H2 oA2 = none := by (first | assumption | exact AHeap.none_of_set ((by assumption)) | exact AHeap.none_of_set (AHeap.none_of_set ((by assumption))) | exact AHeap.none_of_set (AHeap.none_of_set (AHeap.none_of_set ((by assumption)))) | exact AHeap.none_of_set (AHeap.none_of_set (AHeap.none_of_set (AHeap.none_of_set ((by assumption))))) | exact AHeap.none_of_set (AHeap.none_of_set (AHeap.none_of_set (AHeap.none_of_set (AHeap.none_of_set ((by assumption)))))) | exact AHeap.none_of_set (AHeap.none_of_set (AHeap.none_of_set (AHeap.none_of_set (AHeap.none_of_set (AHeap.none_of_set ((by assumption))))))) | exact AHeap.none_of_set (AHeap.none_of_set (AHeap.none_of_set (AHeap.none_of_set (AHeap.none_of_set (AHeap.none_of_set (AHeap.none_of_set ((by assumption)))))))) | exact AHeap.none_of_set (AHeap.none_of_set (AHeap.none_of_set (AHeap.none_of_set (AHeap.none_of_set (AHeap.none_of_set (AHeap.none_of_set (AHeap.none_of_set ((by assumption))))))))) | exact AHeap.none_of_set (AHeap.none_of_set (AHeap.none_of_set (AHeap.none_of_set (AHeap.none_of_set (AHeap.none_of_set (AHeap.none_of_set (AHeap.none_of_set (AHeap.none_of_set ((by assumption)))))))))) | exact AHeap.none_of_set (AHeap.none_of_set (AHeap.none_of_set (AHeap.none_of_set (AHeap.none_of_set (AHeap.none_of_set (AHeap.none_of_set (AHeap.none_of_set (AHeap.none_of_set (AHeap.none_of_set ((by assumption))))))))))))
      have a1 : oA2 ≠ o := fun e => by rw [e, q3] at n0; cases n0
      have a2 : oA2 ≠ oE := fun e => by rw [e, q1] at n0; cases n0
      have a3 : oA2 ≠ oP := fun e => by rw [e, q2] at n0; cases n0
      have a5 : oA2 ≠ oB := fun e => by rw [e, q5] at n0; cases n0
      have a4 : H oA2 = none := by
        cases e : H oA2 with
        | none => rfl
        | some y => rw [hfr _ _ a1 e] at n0; cases n0
      have b1 : oN ≠ o := ne_of_none_some hoN auto_heap
      have b2 : oN ≠ oE := ne_of_none_some hoN auto_heap
      have b3 : oN ≠ oP := ne_of_none_some hoN auto_heap
      have b5 : oN ≠ oA2 := AHeap.ne_of_fresh hoN
      have b4 : H oN = none := by
        cases e : H oN with
        | none => rfl
        | some y =>
          have hp2 := hfr _ _ b1 e
          have hp3 : oN ≠ oA := fun e2 => by rw [e2, hA0] at e; cases e
          exact absurd rfl (ne_of_none_some (b := oN) (y := y) hoN auto_heap)
      have e1 : clA (acc ++ [(r0, r1)]) = clA acc ++ [stA r0] := by simp only [clA, List.map_append, List.map_cons, List.map_nil]
      have e2 : cbA (acc ++ [(r0, r1)]) = cbA acc ++ [avB r1] := by simp only [cbA, List.map_append, List.map_cons, List.map_nil]
      exact ⟨ks.length - (i + 1), _, _, by omega, Ent.sub _ (by (repeat' (first | exact RSub.nil _ | apply RSub.cons)); all_goals rfl), i + 1, oA2, oN, acc ++ [(r0, r1)], c2, by omega, by rw [List.length_append, hal]; rfl, hZ, ⟨a4, a1, a2, a3⟩, ⟨b4, b1, b2, b3, b5⟩, by exact auto_heap, by exact auto_heap, by exact auto_heap, by rw [e1]; exact auto_heap, by rw [e2]; exact AHeap.set_self _ _ _, fun p y hpo hp => by
        have hp2 := hfr p y hpo hp
        have hp3 : p ≠ oA := fun e => by rw [e, hA0] at hp; cases hp
        have hp4 : p ≠ oB := fun e => by rw [e, hB0] at hp; cases hp
        have hp5 : p ≠ oA2 := fun e => by rw [e, a4] at hp; cases hp
        have hp6 : p ≠ oN := fun e => by rw [e, b4] at hp; cases hp
        exact auto_heap, rfl, rfl⟩
    · obtain rfl : i = ks.length := by omega
      have hZ2 : Z = (acc, c') := by rw [← hZ.out, List.drop_length, clockL]
      subst hZ2
      simp only at hlz ⊢
      have hent : ∃ H3, Ent [(0, .ptr o 0), (4, .ptr oP 0), (5, .ptr oE 0), (8, .vw oA 1 0 ks.length), (9, .vw oB 1 0 ks.length), (10, avI ks.length)] H2 [(0, .ptr o 0), (4, .ptr oP 0), (5, .ptr oE 0), (8, .sls acc.length (clA acc)), (9, .sls acc.length (cbA acc)), (10, avI acc.length)] H3 ∧ H3 oE = some (.cel [.str op, .str nm, avI nn, avI at_, .sls ks.length (exL ks)]) ∧ H3 oP = some (.cel [.str n.name, .sls n.ins.length (vrL n.ins), .sls n.outs.length (vrL n.outs), .sls n.locs.length (vrL n.locs), .sls n.eqs.length (eqL n.eqs), avI n.at_]) ∧ H3 o = some (.cel (ckA c')) ∧ (∀ p y, p ≠ o → H p = some y → H3 p = some y) := by
        refine ⟨_, ((Ent.seal_cel (i := 8) (o := oA) (xs := clA acc) rfl q4 (by rw [List.length_map, hal, Nat.mul_one])).trans (Ent.seal_cel (i := 9) (o := oB) (xs := cbA acc) (m := ks.length) rfl (AHeap.get_unerase hBA q5) (by rw [List.length_map, hal, Nat.mul_one]))).trans (Ent.sub _ (by rw [← hal]; (repeat' (first | exact RSub.nil _ | apply RSub.cons)); all_goals rfl)), ?_, ?_, ?_, fun p y hpo hp => ?_⟩
        · exact AHeap.get_unerase hBE.symm (AHeap.get_unerase hAE.symm q1)
        · exact AHeap.get_unerase hBP.symm (AHeap.get_unerase hAP.symm q2)
        · exact AHeap.get_unerase hBo.symm (AHeap.get_unerase hAo.symm q3)
        · have hp2 := hfr p y hpo hp
          have hp3 : p ≠ oA := fun e => by rw [e, hA0] at hp; cases hp
          have hp4 : p ≠ oB := fun e => by rw [e, hB0] at hp; cases hp
          exact AHeap.get_unerase hp4 (AHeap.get_unerase hp3 hp2)
      clear q1 q2 q3 q4 q5 hfr hZ
      obtain ⟨H3, he, q1, q2, q3, hfr⟩ := hent
      have ce := fun H (c : Ck) h => fail_calls6 (o := o) H c 10 at_ h
      have hla := clA_len acc
      have hlb := cbA_len acc
      have hbk : ks.length ≤ 2000000 := by omega
      clear ih hml h hb hkl hi hlt hA0 hAo hAE hAP hB0 hBo hBE hBP hBA hAB
      generalize hx : clockOp n op nm nn at_ acc c' = X
      obtain ⟨⟨x1, x2⟩, x3⟩ := X
      simp only
      refine aw_ent he ?_
      clear he
      (first | focus (refine yy21 ?_; refine yy19 ?_; intro hc; rotate_left) | fail)
      unfold clockOp at hx
      simp only at hx
      by_cases g1 : op = ([105, 110, 116] : Bs) ∨ op = ([98, 111, 111, 108] : Bs)
      · rw [if_pos g1] at hx
        simp only [Prod.mk.injEq] at hx
        obtain ⟨⟨rfl, rfl⟩, rfl⟩ := hx
        rcases g1 with rfl | rfl
        all_goals (
          (first | focus (refine yy117 ?_; refine yy65 ?_; refine aw_condp rfl (fun hc => ?_) (fun hc => ?_); refine yy25 ?_; refine aw_condp rfl (fun hc => ?_) (fun hc => ?_); refine yy3 ?_; refine yy23 ?_; refine yy5 ?_; refine yy121 ?_; rotate_left; exact absurd hc auto_no; exact absurd hc auto_no) | focus (refine yy117 ?_; refine yy65 ?_; refine yy29 ?_; intro hc; refine aw_condp rfl (fun hc => ?_) (fun hc => ?_); refine yy3 ?_; refine yy23 ?_; refine yy5 ?_; refine yy121 ?_; rotate_left; exact absurd hc auto_no) | fail)
          exact ⟨.inl rfl, _, _, _, (Ent.gc (Sub.set auto_heap (fun p y hpo hp => by
              have hp2 := hfr p y hpo hp
              exact auto_heap))).trans (Ent.weakReg 6 rfl (W.nils rfl)), ret_2 rfl (rv1_tmp rfl) (rv1_tmp rfl), rfl, rfl⟩)
      rw [if_neg g1] at hx
      rw [not_or] at g1
      obtain ⟨g1, g1b⟩ := g1
      replace g1 := Hdq.mk g1
      replace g1b := Hdq.mk g1b
      by_cases g2 : op = ([118, 97, 114] : Bs)
      · rw [if_pos g2] at hx
        subst g2
        simp only [Prod.mk.injEq] at hx
        obtain ⟨⟨rfl, rfl⟩, rfl⟩ := hx
        (first | focus (refine yy117 ?_; refine yy65 ?_; refine yy20 ?_; intro hc; refine yy106 ?_; refine yy14 ?_; intro hc; refine aw_condp rfl (fun hc => ?_) (fun hc => ?_); refine yy94 ?_; refine yy18 ?_; (refine zc auto_wl (cf _) ?_; rintro r H' ⟨rfl, rfl⟩); refine yy80 ?_; refine yy5 ?_; refine yy121 ?_; rotate_left; exact absurd hc auto_no) | fail)
        exact ⟨.inl rfl, _, _, _, (Ent.gc (Sub.set auto_heap (fun p y hpo hp => by
              have hp2 := hfr p y hpo hp
              exact auto_heap))).trans (Ent.weakReg 6 rfl (W.of rfl)), ret_2 rfl (rv1_tmp rfl) (rv1_tmp rfl), rfl, rfl⟩
      rw [if_neg g2] at hx
      replace g2 := Hdq.mk g2
      by_cases g3 : op = ([119, 104, 101, 110] : Bs)
      · rw [if_pos g3] at hx
        subst g3
        have har := hok.1.1
        rw [ar_when, ← hal] at har
        obtain ⟨a0, ar, rfl⟩ : ∃ a0 ar, acc = a0 :: ar := by
          match acc, har with
          | a0 :: ar, _ => exact ⟨a0, ar, rfl⟩
        obtain ⟨x0, y0⟩ := a0
        have hx0 := hlz (x0, y0) (List.mem_cons_self)
        have cs := fun H => SameClock_calls H x0 (clockOf n nm) (by simp only at hx0; omega) (by omega)
        have co := fun H => on_calls H (clockOf n nm) nm (decide (nn = 0)) (by omega)
        generalize clockOf n nm = own at *
        clear hok har hlz hx0 hal g1 g1b g2
        simp only [List.getD_cons_zero, Prod.mk.injEq] at hx
        obtain ⟨⟨rfl, rfl⟩, rfl⟩ := hx
        by_cases hf : y0 = false ∧ x0 ≠ own
        · rw [if_pos hf]
          obtain ⟨rfl, hf⟩ := hf
          rw [decide_eq_false hf] at cs
          replace hf := Hdn.mk hf
          (first | focus (refine yy117 ?_; refine yy65 ?_; refine yy29 ?_; intro hc; refine yy1 ?_; intro hc; refine yy1 ?_; intro hc; refine aw_condp rfl (fun hc => ?_) (fun hc => ?_); refine yy94 ?_; refine yy18 ?_; (refine zc auto_wl (cf _) ?_; rintro r H' ⟨rfl, rfl⟩); refine yy80 ?_; refine yy42 ?_; refine yy46 ?_; refine yy75 ?_; refine yy47 ?_; refine yy53 ?_; refine yy17 ?_; refine yy116 ?_; refine yy127 ?_; refine yy47 ?_; refine yy6 ?_; refine yy116 ?_; (refine zc auto_wl (cs _) ?_; rintro r H' ⟨rfl, rfl⟩); refine yy6 ?_; refine yy53 ?_; refine yy108 ?_; refine yy101 ?_; (refine zc auto_wl (ce _ _ auto_heap) ?_; rintro r H' ⟨rfl, rfl⟩); refine yy31 ?_; refine yy46 ?_; refine yy18 ?_; refine yy18 ?_; refine awl_s rfl (s_eql rfl rfl) ?_; (refine zc auto_wl (co _) ?_; rintro r H' ⟨rfl, rfl⟩); refine yy80 ?_; refine yy5 ?_; refine yy121 ?_; rotate_left; exact absurd hc auto_no) | fail)
          exact ⟨.inl rfl, _, _, _, (Ent.gc (Sub.set auto_heap (fun p y hpo hp => by
              have hp2 := hfr p y hpo hp
              exact auto_heap))).trans (Ent.weakReg 6 rfl (W.of rfl)), ret_2 rfl (rv1_tmp rfl) (rv1_tmp rfl), rfl, rfl⟩
        · rw [if_neg hf]
          cases y0
          · obtain rfl : x0 = own := Decidable.byContradiction fun h => hf ⟨rfl, h⟩
            rw [decide_eq_true rfl] at cs
            (first | focus (refine yy117 ?_; refine yy65 ?_; refine yy29 ?_; intro hc; refine yy1 ?_; intro hc; refine yy1 ?_; intro hc; refine aw_condp rfl (fun hc => ?_) (fun hc => ?_); refine yy94 ?_; refine yy18 ?_; (refine zc auto_wl (cf _) ?_; rintro r H' ⟨rfl, rfl⟩); refine yy80 ?_; refine yy42 ?_; refine yy46 ?_; refine yy75 ?_; refine yy47 ?_; refine yy53 ?_; refine yy17 ?_; refine yy116 ?_; refine yy127 ?_; refine yy47 ?_; refine yy6 ?_; refine yy116 ?_; (refine zc auto_wl (cs _) ?_; rintro r H' ⟨rfl, rfl⟩); refine yy6 ?_; refine yy53 ?_; refine yy52 ?_; refine yy32 ?_; refine yy76 ?_; refine yy18 ?_; refine yy18 ?_; refine awl_s rfl (s_eql rfl rfl) ?_; (refine zc auto_wl (co _) ?_; rintro r H' ⟨rfl, rfl⟩); refine yy80 ?_; refine yy5 ?_; refine yy121 ?_; rotate_left; exact absurd hc auto_no) | fail)
            exact ⟨.inl rfl, _, _, _, (Ent.gc (Sub.set auto_heap (fun p y hpo hp => by
              have hp2 := hfr p y hpo hp
              exact auto_heap))).trans (Ent.weakReg 6 rfl (W.of rfl)), ret_2 rfl (rv1_tmp rfl) (rv1_tmp rfl), rfl, rfl⟩
          · (first | focus (refine yy117 ?_; refine yy65 ?_; refine yy29 ?_; intro hc; refine yy1 ?_; intro hc; refine yy1 ?_; intro hc; refine aw_condp rfl (fun hc => ?_) (fun hc => ?_); refine yy94 ?_; refine yy18 ?_; (refine zc auto_wl (cf _) ?_; rintro r H' ⟨rfl, rfl⟩); refine yy80 ?_; refine yy42 ?_; refine yy46 ?_; refine yy75 ?_; refine yy47 ?_; refine yy53 ?_; refine yy9 ?_; refine yy54 ?_; refine yy34 ?_; refine yy45 ?_; refine yy32 ?_; refine yy76 ?_; refine yy18 ?_; refine yy18 ?_; refine awl_s rfl (s_eql rfl rfl) ?_; (refine zc auto_wl (co _) ?_; rintro r H' ⟨rfl, rfl⟩); refine yy80 ?_; refine yy5 ?_; refine yy121 ?_; rotate_left; exact absurd hc auto_no) | fail)
            exact ⟨.inl rfl, _, _, _, (Ent.gc (Sub.set auto_heap (fun p y hpo hp => by
              have hp2 := hfr p y hpo hp
              exact auto_heap))).trans (Ent.weakReg 6 rfl (W.of rfl)), ret_2 rfl (rv1_tmp rfl) (rv1_tmp rfl), rfl, rfl⟩
      rw [if_neg g3] at hx
      replace g3 := Hdq.mk g3
      by_cases g4 : op = ([109, 101, 114, 103, 101] : Bs)
      · rw [if_pos g4] at hx
        subst g4
        have har := hok.1.1
        rw [ar_merge, ← hal] at har
        obtain ⟨a0, a1, ar, rfl⟩ : ∃ a0 a1 ar, acc = a0 :: a1 :: ar := by
          match acc, har with
          | a0 :: a1 :: ar, _ => exact ⟨a0, a1, ar, rfl⟩
        obtain ⟨x0, y0⟩ := a0
        obtain ⟨u0, v0⟩ := a1
        have hx0 := hlz (x0, y0) (List.mem_cons_self)
        have hu0 := hlz (u0, v0) (List.mem_cons_of_mem _ List.mem_cons_self)
        simp only [List.length_cons] at *
        have cs0 := fun H => SameClock_calls H x0 (clockOf n nm ++ [⟨nm, false⟩]) (by omega) (by rw [List.length_append, List.length_singleton]; omega)
        have cs1 := fun H => SameClock_calls H u0 (clockOf n nm ++ [⟨nm, true⟩]) (by omega) (by rw [List.length_append, List.length_singleton]; omega)
        have co0 := fun H => on_calls H (clockOf n nm) nm false (by omega)
        have co1 := fun H => on_calls H (clockOf n nm) nm true (by omega)
        generalize clockOf n nm = own at *
        clear hok har hlz hx0 hu0 hal g1 g1b g2 g3
        simp only [List.getD_cons_zero, List.getD_cons_succ, Prod.mk.injEq] at hx
        obtain ⟨⟨rfl, rfl⟩, hx⟩ := hx
        generalize hc1 : (if y0 = false ∧ x0 ≠ own ++ [⟨nm, false⟩] then failC c' 10 at_ else c') = c1 at hx
        (first | focus (refine yy117 ?_; refine yy65 ?_; refine yy29 ?_; intro hc; refine yy1 ?_; intro hc; refine yy1 ?_; intro hc; refine yy1 ?_; intro hc; refine aw_condp rfl (fun hc => ?_) (fun hc => ?_); refine yy94 ?_; refine yy18 ?_; (refine zc auto_wl (cf _) ?_; rintro r H' ⟨rfl, rfl⟩); refine yy80 ?_; refine yy42 ?_; refine yy133 ?_; rotate_left; exact absurd hc auto_no) | fail)
        refine aw_loop (fun mm R4 H4 => ∃ (i : Nat) (cc : Ck), ((i = 0 ∧ cc = c') ∨ (i = 1 ∧ cc = c1) ∨ (i = 2 ∧ cc = x3)) ∧ H4 oE = some (.cel [.str ([109, 101, 114, 103, 101] : Bs), .str nm, avI nn, avI at_, .sls ks.length (exL ks)]) ∧ H4 oP = some (.cel [.str n.name, .sls n.ins.length (vrL n.ins), .sls n.outs.length (vrL n.outs), .sls n.locs.length (vrL n.locs), .sls n.eqs.length (eqL n.eqs), avI n.at_]) ∧ H4 o = some (.cel (ckA cc)) ∧ (∀ p y, p ≠ o → H p = some y → H4 p = some y) ∧ R4 = [(0, .ptr o 0), (4, .ptr oP 0), (5, .ptr oE 0), (8, .sls (ar.length + 1 + 1) (clA ((x0, y0) :: (u0, v0) :: ar))), (9, .sls (ar.length + 1 + 1) (cbA ((x0, y0) :: (u0, v0) :: ar))), (14, stA own), (15, avI i)] ∧ 2 - i = mm) ?_ ?_
        · exact ⟨_, _, _, Ent.sub _ (by (repeat' (first | exact RSub.nil _ | apply RSub.cons)); all_goals rfl), 0, c', .inl ⟨rfl, rfl⟩, by exact auto_heap, by exact auto_heap, by exact auto_heap, (fun p y hpo hp => by
              have hp2 := hfr p y hpo hp
              exact auto_heap), rfl, rfl⟩
        clear q1 q2 q3 hfr
        rintro mm R4 H4 ⟨i, cc, hi, q1, q2, q3, hfr, rfl, rfl⟩
        rcases hi with ⟨rfl, rfl⟩ | ⟨rfl, rfl⟩ | ⟨rfl, rfl⟩
        · by_cases hf : y0 = false ∧ x0 ≠ own ++ [⟨nm, false⟩]
          · rw [if_pos hf] at hc1
            subst hc1
            obtain ⟨rfl, hf⟩ := hf
            rw [decide_eq_false hf] at cs0
            replace hf := Hdn.mk hf
            replace hx := Hdn.mk hx
            (first | focus (refine yy8 ?_; refine yy51 ?_; refine aw_condp rfl (fun hc => ?_) (fun hc => ?_); refine yy10 ?_; refine yy67 ?_; (apply awt_s; · exact s_move (v := .sls _ _) rfl); (apply awt_s; · exact s_move (v := .raw _) rfl); (apply awt_s; · exact s_indexAddr_sls rfl rfl auto_len); (apply awt_s; · exact s_load_pce rfl auto_idx); (apply awt_s; · exact s_notb rfl); (apply awt_s; · exact s_move (v := .raw _) rfl); refine yy2 ?_; (apply awt_s; · exact s_move (v := .sls _ _) rfl); refine yy2 ?_; (apply awt_s; · exact s_move (v := .raw _) rfl); refine yy2 ?_; (apply awt_s; · exact s_indexAddr_sls rfl rfl auto_len); refine yy2 ?_; (apply awt_s; · exact s_load_pce rfl auto_idx); refine yy2 ?_; (apply awt_s; · exact s_move (v := .sls _ _) rfl); refine yy2 ?_; (apply awt_s; · exact s_fieldAddr_ptr rfl); refine yy2 ?_; (apply awt_s; · exact s_load_cel rfl auto_heap rfl); refine yy2 ?_; (apply awt_s; · exact s_move (v := .raw _) rfl); refine yy2 ?_; (apply awt_s; · exact s_eqn rfl rfl); refine yy2 ?_; (apply awt_s; · exact s_callc auto_wl (co0 _)); refine yy2 ?_; (apply awt_s; · exact s_callc auto_wl (cs0 _)); refine yy2 ?_; (apply awt_s; · exact s_notb rfl); (apply awt_s; · exact s_pick_t (v := .raw _) rfl rfl); refine yy69 ?_; refine aw_cond_t rfl ?_; refine yy101 ?_; (refine zc auto_wl (ce _ _ auto_heap) ?_; rintro r H' ⟨rfl, rfl⟩); refine yy49 ?_; refine yy100 ?_; rotate_left; exact absurd hc auto_no) | fail)
            exact ⟨1, _, _, by omega, Ent.sub _ (by (repeat' (first | exact RSub.nil _ | apply RSub.cons)); all_goals rfl), 1, _, .inr (.inl ⟨rfl, rfl⟩), by exact auto_heap, by exact auto_heap, by exact auto_heap, (fun p y hpo hp => by
              have hp2 := hfr p y hpo hp
              exact auto_heap), rfl, rfl⟩
          · rw [if_neg hf] at hc1
            subst hc1
            replace hx := Hdn.mk hx
            cases y0
            · obtain rfl : x0 = own ++ [⟨nm, false⟩] := Decidable.byContradiction fun h => hf ⟨rfl, h⟩
              rw [decide_eq_true rfl] at cs0
              (first | focus (refine yy8 ?_; refine yy51 ?_; refine aw_condp rfl (fun hc => ?_) (fun hc => ?_); refine yy10 ?_; refine yy67 ?_; (apply awt_s; · exact s_move (v := .sls _ _) rfl); (apply awt_s; · exact s_move (v := .raw _) rfl); (apply awt_s; · exact s_indexAddr_sls rfl rfl auto_len); (apply awt_s; · exact s_load_pce rfl auto_idx); (apply awt_s; · exact s_notb rfl); (apply awt_s; · exact s_move (v := .raw _) rfl); refine yy2 ?_; (apply awt_s; · exact s_move (v := .sls _ _) rfl); refine yy2 ?_; (apply awt_s; · exact s_move (v := .raw _) rfl); refine yy2 ?_; (apply awt_s; · exact s_indexAddr_sls rfl rfl auto_len); refine yy2 ?_; (apply awt_s; · exact s_load_pce rfl auto_idx); refine yy2 ?_; (apply awt_s; · exact s_move (v := .sls _ _) rfl); refine yy2 ?_; (apply awt_s; · exact s_fieldAddr_ptr rfl); refine yy2 ?_; (apply awt_s; · exact s_load_cel rfl auto_heap rfl); refine yy2 ?_; (apply awt_s; · exact s_move (v := .raw _) rfl); refine yy2 ?_; (apply awt_s; · exact s_eqn rfl rfl); refine yy2 ?_; (apply awt_s; · exact s_callc auto_wl (co0 _)); refine yy2 ?_; (apply awt_s; · exact s_callc auto_wl (cs0 _)); refine yy2 ?_; (apply awt_s; · exact s_notb rfl); (apply awt_s; · exact s_pick_t (v := .raw _) rfl rfl); refine yy69 ?_; refine aw_cond_f rfl ?_; refine aw_skip ?_; refine yy27 ?_; rotate_left; exact absurd hc auto_no) | fail)
              exact ⟨1, _, _, by omega, Ent.sub _ (by (repeat' (first | exact RSub.nil _ | apply RSub.cons)); all_goals rfl), 1, _, .inr (.inl ⟨rfl, rfl⟩), by exact auto_heap, by exact auto_heap, by exact auto_heap, (fun p y hpo hp => by
              have hp2 := hfr p y hpo hp
              exact auto_heap), rfl, rfl⟩
            · (first | focus (refine yy8 ?_; refine yy51 ?_; refine aw_condp rfl (fun hc => ?_) (fun hc => ?_); refine yy10 ?_; refine yy67 ?_; (apply awt_s; · exact s_move (v := .sls _ _) rfl); (apply awt_s; · exact s_move (v := .raw _) rfl); (apply awt_s; · exact s_indexAddr_sls rfl rfl auto_len); (apply awt_s; · exact s_load_pce rfl auto_idx); (apply awt_s; · exact s_notb rfl); (apply awt_s; · exact s_move (v := .raw _) rfl); refine yy56 ?_; refine yy56 ?_; refine yy56 ?_; (apply awt_s; · exact s_pick_f (v := .raw _) rfl rfl); refine yy69 ?_; refine aw_cond_f rfl ?_; refine aw_skip ?_; refine yy27 ?_; rotate_left; exact absurd hc auto_no) | fail)
              exact ⟨1, _, _, by omega, Ent.sub _ (by (repeat' (first | exact RSub.nil _ | apply RSub.cons)); all_goals rfl), 1, _, .inr (.inl ⟨rfl, rfl⟩), by exact auto_heap, by exact auto_heap, by exact auto_heap, (fun p y hpo hp => by
              have hp2 := hfr p y hpo hp
              exact auto_heap), rfl, rfl⟩
        · by_cases hf : v0 = false ∧ u0 ≠ own ++ [⟨nm, true⟩]
          · rw [if_pos hf] at hx
            subst hx
            obtain ⟨rfl, hf⟩ := hf
            rw [decide_eq_false hf] at cs1
            replace hf := Hdn.mk hf
            replace hc1 := Hdn.mk hc1
            (first | focus (refine yy8 ?_; refine yy51 ?_; refine aw_condp rfl (fun hc => ?_) (fun hc => ?_); refine yy10 ?_; refine yy67 ?_; (apply awt_s; · exact s_move (v := .sls _ _) rfl); (apply awt_s; · exact s_move (v := .raw _) rfl); (apply awt_s; · exact s_indexAddr_sls rfl rfl auto_len); (apply awt_s; · exact s_load_pce rfl auto_idx); (apply awt_s; · exact s_notb rfl); (apply awt_s; · exact s_move (v := .raw _) rfl); refine yy2 ?_; (apply awt_s; · exact s_move (v := .sls _ _) rfl); refine yy2 ?_; (apply awt_s; · exact s_move (v := .raw _) rfl); refine yy2 ?_; (apply awt_s; · exact s_indexAddr_sls rfl rfl auto_len); refine yy2 ?_; (apply awt_s; · exact s_load_pce rfl auto_idx); refine yy2 ?_; (apply awt_s; · exact s_move (v := .sls _ _) rfl); refine yy2 ?_; (apply awt_s; · exact s_fieldAddr_ptr rfl); refine yy2 ?_; (apply awt_s; · exact s_load_cel rfl auto_heap rfl); refine yy2 ?_; (apply awt_s; · exact s_move (v := .raw _) rfl); refine yy2 ?_; (apply awt_s; · exact s_eqn rfl rfl); refine yy2 ?_; (apply awt_s; · exact s_callc auto_wl (co1 _)); refine yy2 ?_; (apply awt_s; · exact s_callc auto_wl (cs1 _)); refine yy2 ?_; (apply awt_s; · exact s_notb rfl); (apply awt_s; · exact s_pick_t (v := .raw _) rfl rfl); refine yy69 ?_; refine aw_cond_t rfl ?_; refine yy101 ?_; (refine zc auto_wl (ce _ _ auto_heap) ?_; rintro r H' ⟨rfl, rfl⟩); refine yy49 ?_; refine yy100 ?_; rotate_left; exact absurd hc auto_no) | fail)
            exact ⟨0, _, _, by omega, Ent.sub _ (by (repeat' (first | exact RSub.nil _ | apply RSub.cons)); all_goals rfl), 2, _, .inr (.inr ⟨rfl, rfl⟩), by exact auto_heap, by exact auto_heap, by exact auto_heap, (fun p y hpo hp => by
              have hp2 := hfr p y hpo hp
              exact auto_heap), rfl, rfl⟩
          · rw [if_neg hf] at hx
            subst hx
            replace hc1 := Hdn.mk hc1
            cases v0
            · obtain rfl : u0 = own ++ [⟨nm, true⟩] := Decidable.byContradiction fun h => hf ⟨rfl, h⟩
              rw [decide_eq_true rfl] at cs1
              (first | focus (refine yy8 ?_; refine yy51 ?_; refine aw_condp rfl (fun hc => ?_) (fun hc => ?_); refine yy10 ?_; refine yy67 ?_; (apply awt_s; · exact s_move (v := .sls _ _) rfl); (apply awt_s; · exact s_move (v := .raw _) rfl); (apply awt_s; · exact s_indexAddr_sls rfl rfl auto_len); (apply awt_s; · exact s_load_pce rfl auto_idx); (apply awt_s; · exact s_notb rfl); (apply awt_s; · exact s_move (v := .raw _) rfl); refine yy2 ?_; (apply awt_s; · exact s_move (v := .sls _ _) rfl); refine yy2 ?_; (apply awt_s; · exact s_move (v := .raw _) rfl); refine yy2 ?_; (apply awt_s; · exact s_indexAddr_sls rfl rfl auto_len); refine yy2 ?_; (apply awt_s; · exact s_load_pce rfl auto_idx); refine yy2 ?_; (apply awt_s; · exact s_move (v := .sls _ _) rfl); refine yy2 ?_; (apply awt_s; · exact s_fieldAddr_ptr rfl); refine yy2 ?_; (apply awt_s; · exact s_load_cel rfl auto_heap rfl); refine yy2 ?_; (apply awt_s; · exact s_move (v := .raw _) rfl); refine yy2 ?_; (apply awt_s; · exact s_eqn rfl rfl); refine yy2 ?_; (apply awt_s; · exact s_callc auto_wl (co1 _)); refine yy2 ?_; (apply awt_s; · exact s_callc auto_wl (cs1 _)); refine yy2 ?_; (apply awt_s; · exact s_notb rfl); (apply awt_s; · exact s_pick_t (v := .raw _) rfl rfl); refine yy69 ?_; refine aw_cond_f rfl ?_; refine aw_skip ?_; refine yy27 ?_; rotate_left; exact absurd hc auto_no) | fail)
              exact ⟨0, _, _, by omega, Ent.sub _ (by (repeat' (first | exact RSub.nil _ | apply RSub.cons)); all_goals rfl), 2, _, .inr (.inr ⟨rfl, rfl⟩), by exact auto_heap, by exact auto_heap, by exact auto_heap, (fun p y hpo hp => by
              have hp2 := hfr p y hpo hp
              exact auto_heap), rfl, rfl⟩
            · (first | focus (refine yy8 ?_; refine yy51 ?_; refine aw_condp rfl (fun hc => ?_) (fun hc => ?_); refine yy10 ?_; refine yy67 ?_; (apply awt_s; · exact s_move (v := .sls _ _) rfl); (apply awt_s; · exact s_move (v := .raw _) rfl); (apply awt_s; · exact s_indexAddr_sls rfl rfl auto_len); (apply awt_s; · exact s_load_pce rfl auto_idx); (apply awt_s; · exact s_notb rfl); (apply awt_s; · exact s_move (v := .raw _) rfl); refine yy56 ?_; refine yy56 ?_; refine yy56 ?_; (apply awt_s; · exact s_pick_f (v := .raw _) rfl rfl); refine yy69 ?_; refine aw_cond_f rfl ?_; refine aw_skip ?_; refine yy27 ?_; rotate_left; exact absurd hc auto_no) | fail)
              exact ⟨0, _, _, by omega, Ent.sub _ (by (repeat' (first | exact RSub.nil _ | apply RSub.cons)); all_goals rfl), 2, _, .inr (.inr ⟨rfl, rfl⟩), by exact auto_heap, by exact auto_heap, by exact auto_heap, (fun p y hpo hp => by
              have hp2 := hfr p y hpo hp
              exact auto_heap), rfl, rfl⟩
        · replace hc1 := Hdn.mk hc1
          replace hx := Hdn.mk hx
          (first | focus (refine yy8 ?_; refine yy51 ?_; refine yy19 ?_; intro hc; refine yy76 ?_; refine yy80 ?_; refine yy5 ?_; refine yy121 ?_; rotate_left) | fail)
          exact ⟨.inl rfl, _, _, _, (Ent.gc (Sub.set auto_heap (fun p y hpo hp => by
              have hp2 := hfr p y hpo hp
              exact auto_heap))).trans (Ent.weakReg 6 rfl (W.of rfl)), ret_2 rfl (rv1_tmp rfl) (rv1_tmp rfl), rfl, rfl⟩
      rw [if_neg g4] at hx
      replace g4 := Hdq.mk g4
      have hx2 := Hdn.mk hx
      clear hx
      (first | focus (refine yy117 ?_; refine yy65 ?_; refine yy20 ?_; intro hc; refine yy106 ?_; refine yy14 ?_; intro hc; refine yy14 ?_; intro hc; refine yy14 ?_; intro hc; refine yy20 ?_; intro hc; refine aw_skip ?_; refine yy66 ?_; refine yy11 ?_; refine yy11 ?_; refine yy86 ?_; rotate_left) | fail)
      refine aw_loop (fun mm R4 H4 => ∃ (i : Nat) (x : List Stp1) (y : Bool) (cc : Ck), i ≤ acc.length ∧ x.length ≤ (varsN n).length + 2 ∧ Hdn (clockR (acc.drop i) (x, y) at_ cc = ((x1, x2), x3)) ∧ H4 oE = some (.cel [.str op, .str nm, avI nn, avI at_, .sls ks.length (exL ks)]) ∧ H4 oP = some (.cel [.str n.name, .sls n.ins.length (vrL n.ins), .sls n.outs.length (vrL n.outs), .sls n.locs.length (vrL n.locs), .sls n.eqs.length (eqL n.eqs), avI n.at_]) ∧ H4 o = some (.cel (ckA cc)) ∧ (∀ p y, p ≠ o → H p = some y → H4 p = some y) ∧ R4 = [(0, .ptr o 0), (4, .ptr oP 0), (5, .ptr oE 0), (8, .sls acc.length (clA acc)), (9, .sls acc.length (cbA acc)), (16, stA x), (17, avB y), (18, avI i)] ∧ acc.length - i = mm) ?_ ?_
      · exact ⟨_, [(0, .ptr o 0), (4, .ptr oP 0), (5, .ptr oE 0), (8, .sls acc.length (clA acc)), (9, .sls acc.length (cbA acc)), (16, stA []), (17, avB true), (18, avI 0)], _, Ent.tow (by (repeat' (first | exact RSubW.nil _ | apply RSubW.cons)); all_goals (first | exact W.of rfl | exact W.nils rfl)) rfl, 0, [], true, c', Nat.zero_le _, Nat.zero_le _, hx2, q1, q2, q3, hfr, rfl, rfl⟩
      clear hx2 q1 q2 q3 hfr
      rintro mm R4 H4 ⟨i, x, y, cc, hi, hxl, hx, q1, q2, q3, hfr, rfl, rfl⟩
      by_cases hlt : i < acc.length
      · have hg : acc[i]? = some acc[i] := List.getElem?_eq_getElem hlt
        have hd : acc.drop i = acc[i] :: acc.drop (i + 1) := List.drop_eq_getElem_cons hlt
        have hm := hlz _ (List.getElem_mem hlt)
        rw [hd, clockR] at hx
        generalize acc[i] = a at *
        obtain ⟨a, b⟩ := a
        have ga : (clA acc)[i * 1]? = some (stA a) := map_get hg
        have gb : (cbA acc)[i * 1]? = some (avB b) := map_get hg
        simp only at hx hm
        have cs := fun H => SameClock_calls H x a (by omega) (by omega)
        clear hg hd hlz hok g1 g1b g2 g3 g4 hko cf hla hlb
        cases b
        · simp only [Bool.false_eq_true, if_false] at hx
          cases y
          · simp only [Bool.false_eq_true, if_false] at hx
            by_cases hxa : x = a
            · rw [if_pos hxa] at hx
              rw [decide_eq_true hxa] at cs
              replace hxa := Hdn.mk hxa
              (first | focus (refine yy43 ?_; refine aw_condp rfl (fun hc => ?_) (fun hc => ?_); refine yy10 ?_; refine yy73 ?_; refine yy46 ?_; refine yy33 ?_; refine yy47 ?_; refine yy32 ?_; refine yy15 ?_; refine yy144 ?_; refine yy76 ?_; refine yy46 ?_; refine yy33 ?_; refine yy47 ?_; (refine zc auto_wl (cs _) ?_; rintro r H' ⟨rfl, rfl⟩); refine yy53 ?_; refine yy82 ?_; refine yy27 ?_; rotate_left; exact absurd hc auto_no) | fail)
              exact ⟨acc.length - (i + 1), _, _, by omega, Ent.sub _ (by (repeat' (first | exact RSub.nil _ | apply RSub.cons)); all_goals rfl), i + 1, x, false, cc, by omega, hxl, hx, q1, q2, q3, hfr, rfl, rfl⟩
            · rw [if_neg hxa] at hx
              rw [decide_eq_false hxa] at cs
              replace hxa := Hdn.mk hxa
              (first | focus (refine yy43 ?_; refine aw_condp rfl (fun hc => ?_) (fun hc => ?_); refine yy10 ?_; refine yy73 ?_; refine yy46 ?_; refine yy33 ?_; refine yy47 ?_; refine yy32 ?_; refine yy15 ?_; refine yy144 ?_; refine yy76 ?_; refine yy46 ?_; refine yy33 ?_; refine yy47 ?_; (refine zc auto_wl (cs _) ?_; rintro r H' ⟨rfl, rfl⟩); refine yy104 ?_; refine yy101 ?_; (refine zc auto_wl (ce _ _ auto_heap) ?_; rintro r H' ⟨rfl, rfl⟩); refine yy49 ?_; refine yy100 ?_; rotate_left; exact absurd hc auto_no) | fail)
              exact ⟨acc.length - (i + 1), _, _, by omega, Ent.sub _ (by (repeat' (first | exact RSub.nil _ | apply RSub.cons)); all_goals rfl), i + 1, x, false, _, by omega, hxl, hx, by exact auto_heap, by exact auto_heap, by exact auto_heap, (fun p y hpo hp => by
              have hp2 := hfr p y hpo hp
              exact auto_heap), rfl, rfl⟩
          · simp only [if_true] at hx
            (first | focus (refine yy43 ?_; refine aw_condp rfl (fun hc => ?_) (fun hc => ?_); refine yy10 ?_; refine yy73 ?_; refine yy46 ?_; refine yy33 ?_; refine yy47 ?_; refine yy32 ?_; refine yy15 ?_; refine yy89 ?_; refine yy111 ?_; refine yy33 ?_; refine yy47 ?_; refine yy80 ?_; refine yy22 ?_; refine yy100 ?_; rotate_left; exact absurd hc auto_no) | fail)
            exact ⟨acc.length - (i + 1), _, _, by omega, Ent.sub _ (by (repeat' (first | exact RSub.nil _ | apply RSub.cons)); all_goals rfl), i + 1, a, false, cc, by omega, hm, hx, q1, q2, q3, hfr, rfl, rfl⟩
        · simp only [if_true] at hx
          (first | focus (refine yy43 ?_; refine aw_condp rfl (fun hc => ?_) (fun hc => ?_); refine yy10 ?_; refine yy73 ?_; refine yy46 ?_; refine yy33 ?_; refine yy47 ?_; refine yy89 ?_; refine aw_exit ?_; refine yy143 ?_; refine yy100 ?_; rotate_left; exact absurd hc auto_no) | fail)
          exact ⟨acc.length - (i + 1), _, _, by omega, Ent.sub _ (by (repeat' (first | exact RSub.nil _ | apply RSub.cons)); all_goals rfl), i + 1, x, y, cc, by omega, hxl, hx, q1, q2, q3, hfr, rfl, rfl⟩
      · obtain rfl : i = acc.length := by omega
        have hx2 := hx.out
        rw [List.drop_length, clockR] at hx2
        simp only [Prod.mk.injEq] at hx2
        obtain ⟨⟨rfl, rfl⟩, rfl⟩ := hx2
        clear hx
        (first | focus (refine yy43 ?_; refine yy19 ?_; intro hc; refine yy76 ?_; refine yy9 ?_; refine yy80 ?_; refine yy97 ?_; rotate_left) | fail)
        exact ⟨.inl rfl, _, _, _, (Ent.gc (Sub.set auto_heap (fun p y hpo hp => by
              have hp2 := hfr p y hpo hp
              exact auto_heap))).trans (Ent.weakReg 6 rfl (W.of rfl)), ret_2 rfl (rv1_tmp rfl) (rv1_tmp rfl), rfl, rfl⟩
end Go.Proofs.Ytmgkhfnhaeplgaa

namespace Go.Proofs.Ytmgkhfnhaeplgaa
open Go Go.Am Go.Proofs
set_option linter.unusedSimpArgs false
set_option linter.unusedVariables false
set_option maxRecDepth 20000
set_option maxHeartbeats 8000000

/-! Clocks. -/
theorem Clocks_calls (H : AHeap) (l : List Nd) (hl : l.length ≤ 2000000) (hok : ∀ n ∈ l, NdOk n) (hex : ∀ n ∈ l, ∀ q ∈ n.eqs, exOk l q.e) (hon : ∀ n ∈ l, OnOk n) : ACalls Try.prog 24 [ndsA l] H fun r H' => r = .agg (ckA (clocks l)) ∧ H' = H := by
  have hvl := nd_len l
  unfold clocks
  generalize hZ : clocksN l (0, 0) = Z
  replace hZ := Hdn.mk hZ
  refine acalls_of_aw1 Try.func24 rfl (by decide) ?_
  (first | focus (refine yy3 ?_; refine awl_alloc rfl rfl rfl (fun oN hoN => ?_); refine yy31 ?_; refine yy26 ?_; refine zb1 rfl rfl rfl (fun oN hoN => ?_); refine awl_s rfl (s_assign (v := .ptr _ _) rfl) ?_; refine yy42 ?_; refine yy133 ?_; rotate_left) | fail)
  rename_i oR hoR
  obtain ⟨oC, hoCe⟩ : ∃ x, x = oN := ⟨_, rfl⟩
  subst hoCe
  have hC0 : H oC = none := by (first | assumption | exact AHeap.none_of_set ((by assumption)) | exact AHeap.none_of_set (AHeap.none_of_set ((by assumption))) | exact AHeap.none_of_set (AHeap.none_of_set (AHeap.none_of_set ((by assumption)))) | exact AHeap.none_of_set (AHeap.none_of_set (AHeap.none_of_set (AHeap.none_of_set ((by assumption))))) | exact AHeap.none_of_set (AHeap.none_of_set (AHeap.none_of_set (AHeap.none_of_set (AHeap.none_of_set ((by assumption)))))) | exact AHeap.none_of_set (AHeap.none_of_set (AHeap.none_of_set (AHeap.none_of_set (AHeap.none_of_set (AHeap.none_of_set ((by assumption))))))) | exact AHeap.none_of_set (AHeap.none_of_set (AHeap.none_of_set (AHeap.none_of_set (AHeap.none_of_set (AHeap.none_of_set (AHeap.none_of_set ((by assumption)))))))) | exact AHeap.none_of_set (AHeap.none_of_set (AHeap.none_of_set (AHeap.none_of_set (AHeap.none_of_set (AHeap.none_of_set (AHeap.none_of_set (AHeap.none_of_set ((by assumption))))))))) | exact AHeap.none_of_set (AHeap.none_of_set (AHeap.none_of_set (AHeap.none_of_set (AHeap.none_of_set (AHeap.none_of_set (AHeap.none_of_set (AHeap.none_of_set (AHeap.none_of_set ((by assumption)))))))))) | exact AHeap.none_of_set (AHeap.none_of_set (AHeap.none_of_set (AHeap.none_of_set (AHeap.none_of_set (AHeap.none_of_set (AHeap.none_of_set (AHeap.none_of_set (AHeap.none_of_set (AHeap.none_of_set ((by assumption))))))))))))
  have hCR : oC ≠ oR := by (first | assumption | exact Ne.symm (by assumption) | exact AHeap.ne_of_fresh (by assumption) | exact Ne.symm (AHeap.ne_of_fresh (by assumption)) | exact AHeap.ne_of_fresh (AHeap.none_of_set (by assumption)) | exact Ne.symm (AHeap.ne_of_fresh (AHeap.none_of_set (by assumption))) | exact AHeap.ne_ns (by assumption) (by assumption) | exact AHeap.ne_sn (by assumption) (by assumption) | exact AHeap.ne_ns (by assumption) auto_heap2 | exact AHeap.ne_sn (by assumption) auto_heap2)
  refine aw_loop (fun mm R1 H1 => ∃ (i : Nat) (c : Ck), i ≤ l.length ∧ Hdn (clocksN (l.drop i) c = Z) ∧ H1 oC = some (.cel (ckA c)) ∧ H1 oR = some (.cel ckZ) ∧ (∀ p y, H p = some y → H1 p = some y) ∧ R1 = [(0, ndsA l), (2, .ptr oR 0), (3, .ptr oC 0), (4, avI i)] ∧ l.length - i = mm) ?_ ?_
  · exact ⟨_, _, _, Ent.sub _ (by (repeat' (first | exact RSub.nil _ | apply RSub.cons)); all_goals rfl), 0, (0, 0), Nat.zero_le _, hZ, by exact auto_heap, by exact auto_heap, fun p y hp => auto_heap, rfl, rfl⟩
  clear hZ hoN
  rintro mm R1 H1 ⟨i, c, hi, hZ, q1, q2, hfr, rfl, rfl⟩
  by_cases hlt : i < l.length
  · have hg : l[i]? = some l[i] := List.getElem?_eq_getElem hlt
    have hd : l.drop i = l[i] :: l.drop (i + 1) := List.drop_eq_getElem_cons hlt
    have hn := hok _ (List.getElem_mem hlt)
    have hx := hex _ (List.getElem_mem hlt)
    have ho := hon _ (List.getElem_mem hlt)
    rw [hd, clocksN] at hZ
    generalize l[i] = n at *
    have hseg : List.take 6 (List.drop (i * 6) (ndL l)) = [.str n.name, .sls n.ins.length (vrL n.ins), .sls n.outs.length (vrL n.outs), .sls n.locs.length (vrL n.locs), .sls n.eqs.length (eqL n.eqs), avI n.at_] := nd_get hg
    clear hg hd
    have heq := eq_len n.eqs
    have hbq := hn.q
    have hlv := varsN_len hn
    generalize hZ4 : clocksQ n n.eqs c = Zq at *
    replace hZ4 := Hdn.mk hZ4
    (first | focus (refine yy43 ?_; refine aw_condp rfl (fun hc => ?_) (fun hc => ?_); refine yy10 ?_; refine yy76 ?_; refine yy33 ?_; refine yy64 ?_; refine awl_alloc rfl rfl rfl (fun oN hoN => ?_); refine yy12 ?_; refine yy4 ?_; refine yy11 ?_; refine aw_block ?_; rotate_left; exact absurd hc auto_no) | fail)
    obtain ⟨oX, hoXe⟩ : ∃ x, x = oN := ⟨_, rfl⟩
    subst hoXe
    have hX0 : H oX = none := by
      cases e : H oX with
      | none => rfl
      | some y => rw [hfr _ _ e] at hoN; cases hoN
    have hXC : oX ≠ oC := fun e => by rw [e, q1] at hoN; cases hoN
    have hXR : oX ≠ oR := fun e => by rw [e, q2] at hoN; cases hoN
    refine aw_loop (fun mm R3 H3 => ∃ (k : Nat) (c : Ck), k ≤ n.eqs.length ∧ Hdn (clocksQ n (n.eqs.drop k) c = Zq) ∧ H3 oC = some (.cel (ckA c)) ∧ H3 oR = some (.cel ckZ) ∧ H3 oX = some (.cel [.str n.name, .sls n.ins.length (vrL n.ins), .sls n.outs.length (vrL n.outs), .sls n.locs.length (vrL n.locs), .sls n.eqs.length (eqL n.eqs), avI n.at_]) ∧ (∀ p y, H p = some y → H3 p = some y) ∧ R3 = [(0, ndsA l), (2, .ptr oR 0), (3, .ptr oC 0), (4, avI i), (5, .ptr oX 0), (6, avI k)] ∧ n.eqs.length - k = mm) ?_ ?_
    · exact ⟨_, _, _, Ent.sub _ (by (repeat' (first | exact RSub.nil _ | apply RSub.cons)); all_goals rfl), 0, c, Nat.zero_le _, hZ4, by exact auto_heap, by exact auto_heap, by exact auto_heap, (fun p y hp => by
          have hp2 := hfr p y hp
          have hp4 : p ≠ oX := fun e => by rw [e, hX0] at hp; cases hp
          exact auto_heap), rfl, rfl⟩
    clear hZ4 q1 q2 hfr c hoN hseg
    rintro mm R3 H3 ⟨k, c, hk, hZ4, q1, q2, q3, hfr, rfl, rfl⟩
    by_cases hkt : k < n.eqs.length
    · have hg : n.eqs[k]? = some n.eqs[k] := List.getElem?_eq_getElem hkt
      have hd : n.eqs.drop k = n.eqs[k] :: n.eqs.drop (k + 1) := List.drop_eq_getElem_cons hkt
      have hbx := hn.e _ (List.getElem_mem hkt)
      have hxo := hx _ (List.getElem_mem hkt)
      rw [hd, clocksQ] at hZ4
      generalize n.eqs[k] = x at *
      have hsq : List.take 7 (List.drop (k * 7) (eqL n.eqs)) = [.str x.name, .str x.e.op, .str x.e.name, avI x.e.n, avI x.e.at_, .sls x.e.kids.length (exL x.e.kids), avI x.at_] := eq_get hg
      have hsE : List.take 5 (List.drop (k * 7 + 1) (eqL n.eqs)) = x.e.cells := seg_sub hsq 1 5 (by decide)
      have y0 := eq_at hg (j := 0) (by decide) rfl
      have y6 := eq_at hg (j := 6) (by decide) rfl
      clear hg hd hsq
      have cco := fun H => ClockOf_calls H n x.name hn.i hn.o hn.l ho
      have hco := clockOf_len n x.name
      have ck := fun H h => clock_calls (o := oC) l n hn.i hn.o hn.l ho _ x.e H c (Nat.le_refl _) hbx hxo h
      have hck := clockE_len n c x.e
      generalize clockOf n x.name = own at *
      generalize clockE n c x.e = kv at *
      obtain ⟨⟨kx, ka⟩, c1⟩ := kv
      simp only at hZ4 ck hck
      have cs := fun H => SameClock_calls H kx own (by omega) (by omega)
      have cf := fun H h => fail_calls6 (o := oC) H c1 10 x.at_ h
      generalize failC c1 10 x.at_ = c2 at *
      cases ka
      · by_cases hk1 : kx = own
        · rw [if_neg (fun h => h.2 hk1)] at hZ4
          rw [decide_eq_true hk1] at cs
          replace hk1 := Hdn.mk hk1
          (first | focus (refine yy21 ?_; refine aw_condp rfl (fun hc => ?_) (fun hc => ?_); refine yy10 ?_; refine aw_seq ?_; (apply aw_split2 true; (· (repeat' (first | exact spl2_call | apply spl2_cons))); (· exact auto_kr); (· exact auto_dk); (· exact auto_dk)); (apply awm_s; · (intro H1; exact s_move (v := .ptr _ _) rfl)); (apply awm_e auto_dk; (· exact s_load_agg rfl auto_heap rfl rfl (by first | decide | exact Nat.le_of_ble_eq_true rfl))); (apply awm_s; · (intro H1; exact s_fieldAddr_ptr rfl)); (apply awm_e auto_dk; (· exact s_load_cel rfl auto_heap rfl)); (apply awm_s; · (intro H1; exact s_move (v := .raw _) rfl)); (apply awm_s; · (intro H1; exact s_indexAddr_sls rfl rfl auto_len)); (apply awm_s; · (intro H1; exact s_fieldAddr_pce rfl)); (apply awm_s; · (intro H1; exact s_load_pce_agg rfl (by assumption) (by rfl) (by decide))); refine awm_b ?_; refine awm_nil ?_; refine awb_cons (fun Rx K1 hK1x => ?_); (refine zc auto_wl (ck _ auto_heap) ?_; rintro r H' ⟨rfl, rfl⟩); refine yy39 ?_; (refine hK1x _ _ ?_; clear hK1x K1 Rx); refine awb_nil ?_; refine k_seq_normal ?_; refine any_draw0 auto_kr ?_; (apply awt_s; · exact s_move (v := .tup _) rfl); (apply awt_s; · exact s_extract rfl rfl); (apply awt_s; · exact s_extract rfl rfl); (apply awt_s; · exact s_assign (v := .sls _ _) rfl); (apply awt_s; · exact s_assign (v := .raw _) rfl); refine awt_nil ?_; refine k_seq_normal ?_; refine yy67 ?_; (apply awt_s; · exact s_move (v := .raw _) rfl); (apply awt_s; · exact s_notb rfl); (apply awt_s; · exact s_move (v := .raw _) rfl); refine yy2 ?_; (apply awt_s; · exact s_move (v := .sls _ _) rfl); refine yy2 ?_; (apply awt_s; · exact s_load_agg rfl auto_heap rfl rfl (by first | decide | exact Nat.le_of_ble_eq_true rfl)); refine yy2 ?_; (apply awt_s; · exact s_fieldAddr_ptr rfl); refine yy2 ?_; (apply awt_s; · exact s_load_cel rfl auto_heap rfl); refine yy2 ?_; (apply awt_s; · exact s_move (v := .raw _) rfl); refine yy2 ?_; (apply awt_s; · exact s_indexAddr_sls rfl rfl auto_len); refine yy2 ?_; (apply awt_s; · exact s_fieldAddr_pce rfl); refine yy2 ?_; (apply awt_s; · exact s_load_pce rfl auto_idx); refine yy2 ?_; rotate_left; exact absurd hc auto_no) | fail)
          (first | focus ((apply awt_s; · exact s_callc auto_wl (cco _)); refine yy2 ?_; (apply awt_s; · exact s_callc auto_wl (cs _)); refine yy2 ?_; (apply awt_s; · exact s_notb rfl); (apply awt_s; · exact s_pick_t (v := .raw _) rfl rfl); refine yy69 ?_; refine aw_cond_f rfl ?_; refine aw_skip ?_; refine yy27 ?_; rotate_left) | fail)
          exact ⟨n.eqs.length - (k + 1), _, _, by omega, Ent.sub _ (by (repeat' (first | exact RSub.nil _ | apply RSub.cons)); all_goals rfl), k + 1, c1, by omega, hZ4, by exact auto_heap, by exact auto_heap, by exact auto_heap, (fun p y hp => by
              have hp2 := hfr p y hp
              have hp3 : p ≠ oC := fun e => by rw [e, hC0] at hp; cases hp
              exact auto_heap), rfl, rfl⟩
        · rw [if_pos ⟨rfl, hk1⟩] at hZ4
          rw [decide_eq_false hk1] at cs
          replace hk1 := Hdn.mk hk1
          (first | focus (refine yy21 ?_; refine aw_condp rfl (fun hc => ?_) (fun hc => ?_); refine yy10 ?_; refine aw_seq ?_; (apply aw_split2 true; (· (repeat' (first | exact spl2_call | apply spl2_cons))); (· exact auto_kr); (· exact auto_dk); (· exact auto_dk)); (apply awm_s; · (intro H1; exact s_move (v := .ptr _ _) rfl)); (apply awm_e auto_dk; (· exact s_load_agg rfl auto_heap rfl rfl (by first | decide | exact Nat.le_of_ble_eq_true rfl))); (apply awm_s; · (intro H1; exact s_fieldAddr_ptr rfl)); (apply awm_e auto_dk; (· exact s_load_cel rfl auto_heap rfl)); (apply awm_s; · (intro H1; exact s_move (v := .raw _) rfl)); (apply awm_s; · (intro H1; exact s_indexAddr_sls rfl rfl auto_len)); (apply awm_s; · (intro H1; exact s_fieldAddr_pce rfl)); (apply awm_s; · (intro H1; exact s_load_pce_agg rfl (by assumption) (by rfl) (by decide))); refine awm_b ?_; refine awm_nil ?_; refine awb_cons (fun Rx K1 hK1x => ?_); (refine zc auto_wl (ck _ auto_heap) ?_; rintro r H' ⟨rfl, rfl⟩); refine yy39 ?_; (refine hK1x _ _ ?_; clear hK1x K1 Rx); refine awb_nil ?_; refine k_seq_normal ?_; refine any_draw0 auto_kr ?_; (apply awt_s; · exact s_move (v := .tup _) rfl); (apply awt_s; · exact s_extract rfl rfl); (apply awt_s; · exact s_extract rfl rfl); (apply awt_s; · exact s_assign (v := .sls _ _) rfl); (apply awt_s; · exact s_assign (v := .raw _) rfl); refine awt_nil ?_; refine k_seq_normal ?_; refine yy67 ?_; (apply awt_s; · exact s_move (v := .raw _) rfl); (apply awt_s; · exact s_notb rfl); (apply awt_s; · exact s_move (v := .raw _) rfl); refine yy2 ?_; (apply awt_s; · exact s_move (v := .sls _ _) rfl); refine yy2 ?_; (apply awt_s; · exact s_load_agg rfl auto_heap rfl rfl (by first | decide | exact Nat.le_of_ble_eq_true rfl)); refine yy2 ?_; (apply awt_s; · exact s_fieldAddr_ptr rfl); refine yy2 ?_; (apply awt_s; · exact s_load_cel rfl auto_heap rfl); refine yy2 ?_; (apply awt_s; · exact s_move (v := .raw _) rfl); refine yy2 ?_; (apply awt_s; · exact s_indexAddr_sls rfl rfl auto_len); refine yy2 ?_; (apply awt_s; · exact s_fieldAddr_pce rfl); refine yy2 ?_; (apply awt_s; · exact s_load_pce rfl auto_idx); refine yy2 ?_; rotate_left; exact absurd hc auto_no) | fail)
          (first | focus ((apply awt_s; · exact s_callc auto_wl (cco _)); refine yy2 ?_; (apply awt_s; · exact s_callc auto_wl (cs _)); refine yy2 ?_; (apply awt_s; · exact s_notb rfl); (apply awt_s; · exact s_pick_t (v := .raw _) rfl rfl); refine yy69 ?_; refine aw_cond_t rfl ?_; refine yy101 ?_; refine yy33 ?_; refine yy91 ?_; (refine zc auto_wl (cf _ auto_heap) ?_; rintro r H' ⟨rfl, rfl⟩); refine yy49 ?_; refine yy100 ?_; rotate_left) | fail)
          exact ⟨n.eqs.length - (k + 1), _, _, by omega, Ent.sub _ (by (repeat' (first | exact RSub.nil _ | apply RSub.cons)); all_goals rfl), k + 1, c2, by omega, hZ4, by exact auto_heap, by exact auto_heap, by exact auto_heap, (fun p y hp => by
              have hp2 := hfr p y hp
              have hp3 : p ≠ oC := fun e => by rw [e, hC0] at hp; cases hp
              exact auto_heap), rfl, rfl⟩
      · rw [if_neg (fun h => by cases h.1)] at hZ4
        (first | focus (refine yy21 ?_; refine aw_condp rfl (fun hc => ?_) (fun hc => ?_); refine yy10 ?_; refine aw_seq ?_; (apply aw_split2 true; (· (repeat' (first | exact spl2_call | apply spl2_cons))); (· exact auto_kr); (· exact auto_dk); (· exact auto_dk)); (apply awm_s; · (intro H1; exact s_move (v := .ptr _ _) rfl)); (apply awm_e auto_dk; (· exact s_load_agg rfl auto_heap rfl rfl (by first | decide | exact Nat.le_of_ble_eq_true rfl))); (apply awm_s; · (intro H1; exact s_fieldAddr_ptr rfl)); (apply awm_e auto_dk; (· exact s_load_cel rfl auto_heap rfl)); (apply awm_s; · (intro H1; exact s_move (v := .raw _) rfl)); (apply awm_s; · (intro H1; exact s_indexAddr_sls rfl rfl auto_len)); (apply awm_s; · (intro H1; exact s_fieldAddr_pce rfl)); (apply awm_s; · (intro H1; exact s_load_pce_agg rfl (by assumption) (by rfl) (by decide))); refine awm_b ?_; refine awm_nil ?_; refine awb_cons (fun Rx K1 hK1x => ?_); (refine zc auto_wl (ck _ auto_heap) ?_; rintro r H' ⟨rfl, rfl⟩); refine yy39 ?_; (refine hK1x _ _ ?_; clear hK1x K1 Rx); refine awb_nil ?_; refine k_seq_normal ?_; refine any_draw0 auto_kr ?_; (apply awt_s; · exact s_move (v := .tup _) rfl); (apply awt_s; · exact s_extract rfl rfl); (apply awt_s; · exact s_extract rfl rfl); (apply awt_s; · exact s_assign (v := .sls _ _) rfl); (apply awt_s; · exact s_assign (v := .raw _) rfl); refine awt_nil ?_; refine k_seq_normal ?_; refine yy67 ?_; (apply awt_s; · exact s_move (v := .raw _) rfl); (apply awt_s; · exact s_notb rfl); (apply awt_s; · exact s_move (v := .raw _) rfl); refine yy56 ?_; refine yy56 ?_; refine yy139 ?_; refine zt4 rfl rfl ?_; (apply awt_s; · exact s_pick_f (v := .raw _) rfl rfl); refine yy69 ?_; refine aw_cond_f rfl ?_; refine aw_skip ?_; refine yy27 ?_; rotate_left; exact absurd hc auto_no) | fail)
        (first | focus (rotate_left) | fail)
        exact ⟨n.eqs.length - (k + 1), _, _, by omega, Ent.sub _ (by (repeat' (first | exact RSub.nil _ | apply RSub.cons)); all_goals rfl), k + 1, c1, by omega, hZ4, by exact auto_heap, by exact auto_heap, by exact auto_heap, (fun p y hp => by
              have hp2 := hfr p y hp
              have hp3 : p ≠ oC := fun e => by rw [e, hC0] at hp; cases hp
              exact auto_heap), rfl, rfl⟩
    · obtain rfl : k = n.eqs.length := by omega
      have hZ3 : c = Zq := by rw [← hZ4.out, List.drop_length, clocksQ]
      subst hZ3
      clear hZ4
      (first | focus (refine yy21 ?_; refine yy77 ?_; intro hc; refine yy146 ?_; refine yy151 ?_; refine yy27 ?_; rotate_left) | fail)
      all_goals exact ⟨l.length - (i + 1), _, _, by omega, Ent.sub _ (by (repeat' (first | exact RSub.nil _ | apply RSub.cons)); all_goals rfl), i + 1, c, by omega, hZ, q1, q2, hfr, rfl, rfl⟩
  · obtain rfl : i = l.length := by omega
    have hZ2 := hZ.out
    rw [List.drop_length, clocksN] at hZ2
    subst hZ2
    clear hZ
    (first | focus (refine yy43 ?_; refine yy19 ?_; intro hc; refine yy7 ?_; refine yy84 ?_; refine yy28 ?_; refine yy38 ?_; rotate_left) | fail)
    exact ⟨.inl rfl, _, _, _, Ent.cellRet 2 (ckA c) rfl auto_heap (by ((repeat' (first | exact WC.nil | apply WC.cons)); all_goals (first | exact W.of rfl | exact W.int rfl | exact W.nilb rfl | exact W.empb rfl | exact W.bysx rfl | exact W.nils rfl | exact W.emps rfl | exact W.slsx rfl))) (fun sp sy shp => by
      have hp2 := hfr sp sy shp
      have hp3 : sp ≠ oR := fun e => by rw [e, hoR] at shp; cases shp
      exact ⟨hp3, auto_heap⟩), ret_1 rfl (rv1_agg (m := 2) rfl rfl rfl (by decide)), rfl, rfl⟩
end Go.Proofs.Ytmgkhfnhaeplgaa

namespace Go.Proofs.Ytmgkhfnhaeplgaa
open Go Go.Am Go.Proofs
set_option linter.unusedSimpArgs false
set_option linter.unusedVariables false
set_option maxRecDepth 20000
set_option maxHeartbeats 8000000

/-! What is late. -/
theorem has_callv {oN0 : Nat} (H : AHeap) (l : List Bs) (s : Bs) (hl : l.length ≤ 8000000) (hH : H oN0 = some (.cel (bsL l))) : ACalls Try.prog 32 [.vw oN0 1 0 l.length, .str s] H fun r H' => r = avB (hasB l s) ∧ H' = H := by
  have hml := bsL_len l
  refine acalls_of_aw2 Try.func32 rfl (by decide) ?_
  generalize hZ : hasB l s = Z
  (first | focus (refine yy11 ?_; refine yy86 ?_; rotate_left) | fail)
  refine aw_loop (fun mm R1 H1 => ∃ (i : Nat), i ≤ l.length ∧ hasB (l.drop i) s = Z ∧ H1 = H ∧ R1 = [(0, .vw oN0 1 0 l.length), (1, .str s), (5, avI i)] ∧ l.length - i = mm) ?_ ?_
  · exact ⟨_, _, _, Ent.sub _ (by (repeat' (first | exact RSub.nil _ | apply RSub.cons)); all_goals rfl), 0, Nat.zero_le _, hZ, rfl, rfl, rfl⟩
  clear hZ
  rintro mm R1 H1 ⟨i, hi, hZ, rfl, rfl, rfl⟩
  by_cases hlt : i < l.length
  · have hg : l[i]? = some l[i] := List.getElem?_eq_getElem hlt
    have hd : l.drop i = l[i] :: l.drop (i + 1) := List.drop_eq_getElem_cons hlt
    rw [hd] at hZ
    generalize l[i] = v at *
    simp only [hasB, List.any_cons] at hZ
    have hy : (bsL l)[0 + i * 1]? = some (.str v) := by rw [Nat.zero_add]; exact map_get hg
    clear hd hg
    by_cases hv : v = s
    · subst hv
      simp only [decide_true, Bool.true_or] at hZ
      subst hZ
      (first | focus (refine yy8 ?_; refine yy37 ?_; refine yy138 ?_; refine yy51 ?_; refine aw_condp rfl (fun hc => ?_) (fun hc => ?_); refine yy10 ?_; refine yy124 ?_; refine yy9 ?_; refine awl_s rfl (s_indexAddr_vw rfl rfl auto_len) ?_; refine awl_s rfl (s_load_cel rfl auto_heap auto_idx) ?_; refine yy107 ?_; refine aw_condp rfl (fun hc => ?_) (fun hc => ?_); refine yy92 ?_; refine yy90 ?_; rotate_left; exact absurd hc auto_no; exact absurd hc auto_no) | fail)
      all_goals exact ⟨.inl rfl, _, _, _, Ent.refl _ _, ret1 rfl rfl, rfl, rfl⟩
    · simp only [hv, decide_false, Bool.false_or] at hZ
      replace hv := Hdq.mk hv
      (first | focus (refine yy8 ?_; refine yy37 ?_; refine yy138 ?_; refine yy51 ?_; refine aw_condp rfl (fun hc => ?_) (fun hc => ?_); refine yy10 ?_; refine yy124 ?_; refine yy9 ?_; refine awl_s rfl (s_indexAddr_vw rfl rfl auto_len) ?_; refine awl_s rfl (s_load_cel rfl auto_heap auto_idx) ?_; refine yy107 ?_; refine yy20 ?_; intro hc; refine aw_skip ?_; refine yy27 ?_; rotate_left; exact absurd hc auto_no) | fail)
      all_goals exact ⟨l.length - (i + 1), _, _, by omega, Ent.sub _ (by (repeat' (first | exact RSub.nil _ | apply RSub.cons)); all_goals rfl), i + 1, by omega, hZ, rfl, rfl, rfl⟩
  · obtain rfl : i = l.length := by omega
    rw [List.drop_length] at hZ
    subst hZ
    (first | focus (refine yy8 ?_; refine yy37 ?_; refine yy138 ?_; refine yy51 ?_; refine yy19 ?_; intro hc; refine yy11 ?_; refine aw_ret ?_; rotate_left) | fail)
    exact ⟨.inl rfl, _, _, _, Ent.refl _ _, ret1 rfl rfl, rfl, rfl⟩
theorem lateL_drop (p : Bs → Bool) {ks : List Ex} {i : Nat} {k : Ex} (h : ks[i]? = some k) : lateL p (ks.drop i) = (lateE p k || lateL p (ks.drop (i + 1))) := by
  have hlt := (List.getElem?_eq_some_iff.1 h).1
  rw [List.drop_eq_getElem_cons hlt, (List.getElem?_eq_some_iff.1 h).2, lateL]
theorem late_calls (l : List Bs) (hl : l.length ≤ 8000000) (m : Nat) : ∀ (e : Ex) (H : AHeap), exSz e ≤ m → exSz e ≤ 2000000 →
    ACalls Try.prog 35 [exA e, .sls l.length (bsL l)] H fun r H' => r = avB (lateE (hasB l) e) ∧ H' = H := by
  induction m with
  | zero => intro e H h; rw [exSz_eq] at h; omega
  | succ m ih =>
    intro e H h hb
    obtain ⟨op, nm, nn, at_, ks⟩ := e
    rw [exSz_eq] at h hb
    unfold lateE
    simp only [Ex.kids, Ex.op, Ex.name, Ex.n, Ex.at_] at *
    show ACalls Try.prog _ [.agg [.str op, .str nm, avI nn, avI at_, .sls ks.length (exL ks)], .sls l.length (bsL l)] H _
    have hml := exL_len ks
    have hbl := bsL_len l
    have hkl : ks.length ≤ exSzL ks := by
      clear hml h hb
      induction ks with
      | nil => exact Nat.zero_le _
      | cons x l ih => rw [exSzL, List.length_cons]; have := exSz_eq x; omega
    have ch := fun H => has_calls H l nm hl
    generalize hx : (if op = ([118, 97, 114] : Bs) then hasB l nm else if op = ([112, 114, 101] : Bs) then true else if op = ([45, 62] : Bs) ∨ op = ([102, 98, 121] : Bs) ∨ op = ([109, 101, 114, 103, 101] : Bs) ∨ op = ([99, 97, 108, 108] : Bs) ∨ op = ([105, 110, 116] : Bs) ∨ op = ([98, 111, 111, 108] : Bs) then false else lateL (hasB l) ks) = X
    refine acalls_of_aw2 Try.func35 rfl (by decide) ?_
    by_cases g1 : op = ([118, 97, 114] : Bs)
    · rw [if_pos g1] at hx
      subst g1
      rw [hx] at ch
      (first | focus (refine yy3 ?_; refine zb1 rfl rfl rfl (fun oN hoN => ?_); refine yy71 ?_; refine yy41 ?_; refine aw_condp rfl (fun hc => ?_) (fun hc => ?_); refine yy76 ?_; refine yy18 ?_; (refine zc auto_wl (ch _) ?_; rintro r H' ⟨rfl, rfl⟩); refine yy5 ?_; refine yy121 ?_; rotate_left; exact absurd hc auto_no) | fail)
      exact ⟨.inl rfl, _, _, _, Ent.gc (fun p y hp => by
            have hp3 : p ≠ oN := fun e => by rw [e, hoN] at hp; cases hp
            exact auto_heap), ret1 rfl rfl, rfl, rfl⟩
    rw [if_neg g1] at hx
    replace g1 := Hdq.mk g1
    by_cases g2 : op = ([112, 114, 101] : Bs)
    · rw [if_pos g2] at hx
      subst g2
      subst hx
      (first | focus (refine yy3 ?_; refine zb1 rfl rfl rfl (fun oN hoN => ?_); refine yy71 ?_; refine yy41 ?_; refine yy14 ?_; intro hc; refine aw_condp rfl (fun hc => ?_) (fun hc => ?_); refine yy92 ?_; rotate_left; exact absurd hc auto_no) | fail)
      exact ⟨.inl rfl, _, _, _, Ent.gc (fun p y hp => by
            have hp3 : p ≠ oN := fun e => by rw [e, hoN] at hp; cases hp
            exact auto_heap), ret1 rfl rfl, rfl, rfl⟩
    rw [if_neg g2] at hx
    replace g2 := Hdq.mk g2
    by_cases g3 : op = ([45, 62] : Bs) ∨ op = ([102, 98, 121] : Bs) ∨ op = ([109, 101, 114, 103, 101] : Bs) ∨ op = ([99, 97, 108, 108] : Bs) ∨ op = ([105, 110, 116] : Bs) ∨ op = ([98, 111, 111, 108] : Bs)
    · rw [if_pos g3] at hx
      subst hx
      rcases g3 with rfl | rfl | rfl | rfl | rfl | rfl
      all_goals (
        (first | focus (refine yy3 ?_; refine zb1 rfl rfl rfl (fun oN hoN => ?_); refine yy71 ?_; refine yy41 ?_; refine yy14 ?_; intro hc; refine yy20 ?_; intro hc; refine yy112 ?_; refine aw_condp rfl (fun hc => ?_) (fun hc => ?_); refine yy25 ?_; refine aw_condp rfl (fun hc => ?_) (fun hc => ?_); refine yy92 ?_; rotate_left; exact absurd hc auto_no; exact absurd hc auto_no) | focus (refine yy3 ?_; refine zb1 rfl rfl rfl (fun oN hoN => ?_); refine yy71 ?_; refine yy41 ?_; refine yy14 ?_; intro hc; refine yy20 ?_; intro hc; refine yy112 ?_; refine yy1 ?_; intro hc; refine aw_condp rfl (fun hc => ?_) (fun hc => ?_); refine yy25 ?_; refine aw_condp rfl (fun hc => ?_) (fun hc => ?_); refine yy92 ?_; rotate_left; exact absurd hc auto_no; exact absurd hc auto_no) | focus (refine yy3 ?_; refine zb1 rfl rfl rfl (fun oN hoN => ?_); refine yy71 ?_; refine yy41 ?_; refine yy14 ?_; intro hc; refine yy20 ?_; intro hc; refine yy112 ?_; refine yy1 ?_; intro hc; refine yy1 ?_; intro hc; refine aw_condp rfl (fun hc => ?_) (fun hc => ?_); refine yy25 ?_; refine aw_condp rfl (fun hc => ?_) (fun hc => ?_); refine yy92 ?_; rotate_left; exact absurd hc auto_no; exact absurd hc auto_no) | focus (refine yy3 ?_; refine zb1 rfl rfl rfl (fun oN hoN => ?_); refine yy71 ?_; refine yy41 ?_; refine yy14 ?_; intro hc; refine yy20 ?_; intro hc; refine yy112 ?_; refine yy1 ?_; intro hc; refine yy1 ?_; intro hc; refine yy1 ?_; intro hc; refine aw_condp rfl (fun hc => ?_) (fun hc => ?_); refine yy25 ?_; refine aw_condp rfl (fun hc => ?_) (fun hc => ?_); refine yy92 ?_; rotate_left; exact absurd hc auto_no; exact absurd hc auto_no) | focus (refine yy3 ?_; refine zb1 rfl rfl rfl (fun oN hoN => ?_); refine yy71 ?_; refine yy41 ?_; refine yy14 ?_; intro hc; refine yy20 ?_; intro hc; refine yy112 ?_; refine yy1 ?_; intro hc; refine yy1 ?_; intro hc; refine yy1 ?_; intro hc; refine yy1 ?_; intro hc; refine aw_condp rfl (fun hc => ?_) (fun hc => ?_); refine yy25 ?_; refine aw_condp rfl (fun hc => ?_) (fun hc => ?_); refine yy92 ?_; rotate_left; exact absurd hc auto_no; exact absurd hc auto_no) | focus (refine yy3 ?_; refine zb1 rfl rfl rfl (fun oN hoN => ?_); refine yy71 ?_; refine yy41 ?_; refine yy14 ?_; intro hc; refine yy20 ?_; intro hc; refine yy112 ?_; refine yy1 ?_; intro hc; refine yy1 ?_; intro hc; refine yy1 ?_; intro hc; refine yy1 ?_; intro hc; refine yy29 ?_; intro hc; refine aw_condp rfl (fun hc => ?_) (fun hc => ?_); refine yy92 ?_; rotate_left; exact absurd hc auto_no) | fail)
        exact ⟨.inl rfl, _, _, _, Ent.gc (fun p y hp => by
            have hp3 : p ≠ oN := fun e => by rw [e, hoN] at hp; cases hp
            exact auto_heap), ret1 rfl rfl, rfl, rfl⟩)
    rw [if_neg g3] at hx
    simp only [not_or] at g3
    obtain ⟨d1, d2, d3, d4, d5, d6⟩ := g3
    replace d1 := Hdq.mk d1
    replace d2 := Hdq.mk d2
    replace d3 := Hdq.mk d3
    replace d4 := Hdq.mk d4
    replace d5 := Hdq.mk d5
    replace d6 := Hdq.mk d6
    replace hx := Hdn.mk hx
    clear ch
    (first | focus (refine yy3 ?_; refine zb1 rfl rfl rfl (fun oN hoN => ?_); refine yy71 ?_; refine yy41 ?_; refine yy14 ?_; intro hc; refine yy20 ?_; intro hc; refine yy112 ?_; refine yy14 ?_; intro hc; refine yy14 ?_; intro hc; refine yy14 ?_; intro hc; refine yy14 ?_; intro hc; refine yy20 ?_; intro hc; refine yy106 ?_; refine yy20 ?_; intro hc; refine aw_skip ?_; refine yy66 ?_; refine yy86 ?_; rotate_left) | fail)
    have hE : ∀ p y, H p = some y → p ≠ oN := fun p y hp e => by rw [e, hoN] at hp; cases hp
    refine aw_loop (fun mm R1 H1 => ∃ (i : Nat), i ≤ ks.length ∧ Hdn (lateL (hasB l) (ks.drop i) = X) ∧ H1 = H.set oN (.cel [.str op, .str nm, avI nn, avI at_, .sls ks.length (exL ks)]) ∧ R1 = [(1, .sls l.length (bsL l)), (2, .ptr oN 0), (5, avI i)] ∧ ks.length - i = mm) ?_ ?_
    · exact ⟨_, _, _, Ent.sub _ (by (repeat' (first | exact RSub.nil _ | apply RSub.cons)); all_goals rfl), 0, Nat.zero_le _, hx, rfl, rfl, rfl⟩
    clear hx
    rintro mm R1 H1 ⟨i, hi, hx, rfl, rfl, rfl⟩
    by_cases hlt : i < ks.length
    · have hg : ks[i]? = some ks[i] := List.getElem?_eq_getElem hlt
      have hseg := exL_get hg
      have hmem := exSz_mem (List.getElem_mem hlt)
      rw [lateL_drop (hasB l) hg] at hx
      generalize ks[i] = k at *
      have cb := fun H => ih k H (by omega) (by omega)
      generalize lateE (hasB l) k = b at *
      clear ih hg hmem d1 d2 d3 d4 d5 d6 g1 g2
      skip
      cases b
      · simp only [Bool.false_or] at hx
        (first | focus (refine yy21 ?_; refine aw_condp rfl (fun hc => ?_) (fun hc => ?_); refine yy10 ?_; refine yy13 ?_; refine yy33 ?_; refine yy64 ?_; refine yy46 ?_; (refine zc auto_wl (cb _) ?_; rintro r H' ⟨rfl, rfl⟩); refine yy82 ?_; refine yy27 ?_; rotate_left; exact absurd hc auto_no) | fail)
        exact ⟨ks.length - (i + 1), _, _, by omega, Ent.sub _ (by (repeat' (first | exact RSub.nil _ | apply RSub.cons)); all_goals rfl), i + 1, by omega, hx, rfl, rfl, rfl⟩
      · simp only [Bool.true_or] at hx
        obtain rfl : X = true := hx.out.symm
        (first | focus (refine yy21 ?_; refine aw_condp rfl (fun hc => ?_) (fun hc => ?_); refine yy10 ?_; refine yy13 ?_; refine yy33 ?_; refine yy64 ?_; refine yy46 ?_; (refine zc auto_wl (cb _) ?_; rintro r H' ⟨rfl, rfl⟩); refine yy89 ?_; refine yy92 ?_; refine yy90 ?_; rotate_left; exact absurd hc auto_no) | fail)
        exact ⟨.inl rfl, _, _, _, Ent.gc (fun p y hp => by
            have hp3 : p ≠ oN := fun e => by rw [e, hoN] at hp; cases hp
            exact auto_heap), ret1 rfl rfl, rfl, rfl⟩
    · obtain rfl : i = ks.length := by omega
      have hx2 := hx.out
      rw [List.drop_length, lateL] at hx2
      subst hx2
      clear hx
      (first | focus (refine yy21 ?_; refine yy19 ?_; intro hc; refine yy11 ?_; refine aw_ret ?_; rotate_left) | fail)
      exact ⟨.inl rfl, _, _, _, Ent.gc (fun p y hp => by
            have hp3 : p ≠ oN := fun e => by rw [e, hoN] at hp; cases hp
            exact auto_heap), ret1 rfl rfl, rfl, rfl⟩
theorem late_callv {oN0 : Nat} (l : List Bs) (hl : l.length ≤ 8000000) (m : Nat) : ∀ (e : Ex) (H : AHeap), exSz e ≤ m → exSz e ≤ 2000000 → (H oN0 = some (.cel (bsL l))) →
    ACalls Try.prog 35 [exA e, .vw oN0 1 0 l.length] H fun r H' => r = avB (lateE (hasB l) e) ∧ H' = H := by
  induction m with
  | zero => intro e H h; rw [exSz_eq] at h; omega
  | succ m ih =>
    intro e H h hb hH
    obtain ⟨op, nm, nn, at_, ks⟩ := e
    rw [exSz_eq] at h hb
    unfold lateE
    simp only [Ex.kids, Ex.op, Ex.name, Ex.n, Ex.at_] at *
    show ACalls Try.prog _ [.agg [.str op, .str nm, avI nn, avI at_, .sls ks.length (exL ks)], .vw oN0 1 0 l.length] H _
    have hml := exL_len ks
    have hbl := bsL_len l
    have hkl : ks.length ≤ exSzL ks := by
      clear hml h hb
      induction ks with
      | nil => exact Nat.zero_le _
      | cons x l ih => rw [exSzL, List.length_cons]; have := exSz_eq x; omega
    have ch := fun H h => has_callv (oN0 := oN0) H l nm hl h
    generalize hx : (if op = ([118, 97, 114] : Bs) then hasB l nm else if op = ([112, 114, 101] : Bs) then true else if op = ([45, 62] : Bs) ∨ op = ([102, 98, 121] : Bs) ∨ op = ([109, 101, 114, 103, 101] : Bs) ∨ op = ([99, 97, 108, 108] : Bs) ∨ op = ([105, 110, 116] : Bs) ∨ op = ([98, 111, 111, 108] : Bs) then false else lateL (hasB l) ks) = X
    refine acalls_of_aw2 Try.func35 rfl (by decide) ?_
    by_cases g1 : op = ([118, 97, 114] : Bs)
    · rw [if_pos g1] at hx
      subst g1
      rw [hx] at ch
      (first | focus (refine yy3 ?_; refine zb1 rfl rfl rfl (fun oN hoN => ?_); refine yy71 ?_; refine yy41 ?_; refine aw_condp rfl (fun hc => ?_) (fun hc => ?_); refine yy124 ?_; refine yy18 ?_; (refine zc auto_wl (ch _ auto_heap) ?_; rintro r H' ⟨rfl, rfl⟩); refine yy5 ?_; refine yy121 ?_; rotate_left; exact absurd hc auto_no) | fail)
      exact ⟨.inl rfl, _, _, _, Ent.gc (fun p y hp => by
            have hp3 : p ≠ oN := fun e => by rw [e, hoN] at hp; cases hp
            exact auto_heap), ret1 rfl rfl, rfl, rfl⟩
    rw [if_neg g1] at hx
    replace g1 := Hdq.mk g1
    by_cases g2 : op = ([112, 114, 101] : Bs)
    · rw [if_pos g2] at hx
      subst g2
      subst hx
      (first | focus (refine yy3 ?_; refine zb1 rfl rfl rfl (fun oN hoN => ?_); refine yy71 ?_; refine yy41 ?_; refine yy14 ?_; intro hc; refine aw_condp rfl (fun hc => ?_) (fun hc => ?_); refine yy92 ?_; rotate_left; exact absurd hc auto_no) | fail)
      exact ⟨.inl rfl, _, _, _, Ent.gc (fun p y hp => by
            have hp3 : p ≠ oN := fun e => by rw [e, hoN] at hp; cases hp
            exact auto_heap), ret1 rfl rfl, rfl, rfl⟩
    rw [if_neg g2] at hx
    replace g2 := Hdq.mk g2
    by_cases g3 : op = ([45, 62] : Bs) ∨ op = ([102, 98, 121] : Bs) ∨ op = ([109, 101, 114, 103, 101] : Bs) ∨ op = ([99, 97, 108, 108] : Bs) ∨ op = ([105, 110, 116] : Bs) ∨ op = ([98, 111, 111, 108] : Bs)
    · rw [if_pos g3] at hx
      subst hx
      rcases g3 with rfl | rfl | rfl | rfl | rfl | rfl
      all_goals (
        (first | focus (refine yy3 ?_; refine zb1 rfl rfl rfl (fun oN hoN => ?_); refine yy71 ?_; refine yy41 ?_; refine yy14 ?_; intro hc; refine yy20 ?_; intro hc; refine yy112 ?_; refine aw_condp rfl (fun hc => ?_) (fun hc => ?_); refine yy25 ?_; refine aw_condp rfl (fun hc => ?_) (fun hc => ?_); refine yy92 ?_; rotate_left; exact absurd hc auto_no; exact absurd hc auto_no) | focus (refine yy3 ?_; refine zb1 rfl rfl rfl (fun oN hoN => ?_); refine yy71 ?_; refine yy41 ?_; refine yy14 ?_; intro hc; refine yy20 ?_; intro hc; refine yy112 ?_; refine yy1 ?_; intro hc; refine aw_condp rfl (fun hc => ?_) (fun hc => ?_); refine yy25 ?_; refine aw_condp rfl (fun hc => ?_) (fun hc => ?_); refine yy92 ?_; rotate_left; exact absurd hc auto_no; exact absurd hc auto_no) | focus (refine yy3 ?_; refine zb1 rfl rfl rfl (fun oN hoN => ?_); refine yy71 ?_; refine yy41 ?_; refine yy14 ?_; intro hc; refine yy20 ?_; intro hc; refine yy112 ?_; refine yy1 ?_; intro hc; refine yy1 ?_; intro hc; refine aw_condp rfl (fun hc => ?_) (fun hc => ?_); refine yy25 ?_; refine aw_condp rfl (fun hc => ?_) (fun hc => ?_); refine yy92 ?_; rotate_left; exact absurd hc auto_no; exact absurd hc auto_no) | focus (refine yy3 ?_; refine zb1 rfl rfl rfl (fun oN hoN => ?_); refine yy71 ?_; refine yy41 ?_; refine yy14 ?_; intro hc; refine yy20 ?_; intro hc; refine yy112 ?_; refine yy1 ?_; intro hc; refine yy1 ?_; intro hc; refine yy1 ?_; intro hc; refine aw_condp rfl (fun hc => ?_) (fun hc => ?_); refine yy25 ?_; refine aw_condp rfl (fun hc => ?_) (fun hc => ?_); refine yy92 ?_; rotate_left; exact absurd hc auto_no; exact absurd hc auto_no) | focus (refine yy3 ?_; refine zb1 rfl rfl rfl (fun oN hoN => ?_); refine yy71 ?_; refine yy41 ?_; refine yy14 ?_; intro hc; refine yy20 ?_; intro hc; refine yy112 ?_; refine yy1 ?_; intro hc; refine yy1 ?_; intro hc; refine yy1 ?_; intro hc; refine yy1 ?_; intro hc; refine aw_condp rfl (fun hc => ?_) (fun hc => ?_); refine yy25 ?_; refine aw_condp rfl (fun hc => ?_) (fun hc => ?_); refine yy92 ?_; rotate_left; exact absurd hc auto_no; exact absurd hc auto_no) | focus (refine yy3 ?_; refine zb1 rfl rfl rfl (fun oN hoN => ?_); refine yy71 ?_; refine yy41 ?_; refine yy14 ?_; intro hc; refine yy20 ?_; intro hc; refine yy112 ?_; refine yy1 ?_; intro hc; refine yy1 ?_; intro hc; refine yy1 ?_; intro hc; refine yy1 ?_; intro hc; refine yy29 ?_; intro hc; refine aw_condp rfl (fun hc => ?_) (fun hc => ?_); refine yy92 ?_; rotate_left; exact absurd hc auto_no) | fail)
        exact ⟨.inl rfl, _, _, _, Ent.gc (fun p y hp => by
            have hp3 : p ≠ oN := fun e => by rw [e, hoN] at hp; cases hp
            exact auto_heap), ret1 rfl rfl, rfl, rfl⟩)
    rw [if_neg g3] at hx
    simp only [not_or] at g3
    obtain ⟨d1, d2, d3, d4, d5, d6⟩ := g3
    replace d1 := Hdq.mk d1
    replace d2 := Hdq.mk d2
    replace d3 := Hdq.mk d3
    replace d4 := Hdq.mk d4
    replace d5 := Hdq.mk d5
    replace d6 := Hdq.mk d6
    replace hx := Hdn.mk hx
    clear ch
    (first | focus (refine yy3 ?_; refine zb1 rfl rfl rfl (fun oN hoN => ?_); refine yy71 ?_; refine yy41 ?_; refine yy14 ?_; intro hc; refine yy20 ?_; intro hc; refine yy112 ?_; refine yy14 ?_; intro hc; refine yy14 ?_; intro hc; refine yy14 ?_; intro hc; refine yy14 ?_; intro hc; refine yy20 ?_; intro hc; refine yy106 ?_; refine yy20 ?_; intro hc; refine aw_skip ?_; refine yy66 ?_; refine yy86 ?_; rotate_left) | fail)
    have hE : ∀ p y, H p = some y → p ≠ oN := fun p y hp e => by rw [e, hoN] at hp; cases hp
    refine aw_loop (fun mm R1 H1 => ∃ (i : Nat), i ≤ ks.length ∧ Hdn (lateL (hasB l) (ks.drop i) = X) ∧ H1 = H.set oN (.cel [.str op, .str nm, avI nn, avI at_, .sls ks.length (exL ks)]) ∧ R1 = [(1, .vw oN0 1 0 l.length), (2, .ptr oN 0), (5, avI i)] ∧ ks.length - i = mm) ?_ ?_
    · exact ⟨_, _, _, Ent.sub _ (by (repeat' (first | exact RSub.nil _ | apply RSub.cons)); all_goals rfl), 0, Nat.zero_le _, hx, rfl, rfl, rfl⟩
    clear hx
    rintro mm R1 H1 ⟨i, hi, hx, rfl, rfl, rfl⟩
    by_cases hlt : i < ks.length
    · have hg : ks[i]? = some ks[i] := List.getElem?_eq_getElem hlt
      have hseg := exL_get hg
      have hmem := exSz_mem (List.getElem_mem hlt)
      rw [lateL_drop (hasB l) hg] at hx
      generalize ks[i] = k at *
      have cb := fun H h => ih k H (by omega) (by omega) h
      generalize lateE (hasB l) k = b at *
      clear ih hg hmem d1 d2 d3 d4 d5 d6 g1 g2
      have hN2 := hE oN0 _ hH
      cases b
      · simp only [Bool.false_or] at hx
        (first | focus (refine yy21 ?_; refine aw_condp rfl (fun hc => ?_) (fun hc => ?_); refine yy10 ?_; refine yy13 ?_; refine yy33 ?_; refine yy64 ?_; refine yy37 ?_; (refine zc auto_wl (cb _ auto_heap) ?_; rintro r H' ⟨rfl, rfl⟩); refine yy82 ?_; refine yy27 ?_; rotate_left; exact absurd hc auto_no) | fail)
        exact ⟨ks.length - (i + 1), _, _, by omega, Ent.sub _ (by (repeat' (first | exact RSub.nil _ | apply RSub.cons)); all_goals rfl), i + 1, by omega, hx, rfl, rfl, rfl⟩
      · simp only [Bool.true_or] at hx
        obtain rfl : X = true := hx.out.symm
        (first | focus (refine yy21 ?_; refine aw_condp rfl (fun hc => ?_) (fun hc => ?_); refine yy10 ?_; refine yy13 ?_; refine yy33 ?_; refine yy64 ?_; refine yy37 ?_; (refine zc auto_wl (cb _ auto_heap) ?_; rintro r H' ⟨rfl, rfl⟩); refine yy89 ?_; refine yy92 ?_; refine yy90 ?_; rotate_left; exact absurd hc auto_no) | fail)
        exact ⟨.inl rfl, _, _, _, Ent.gc (fun p y hp => by
            have hp3 : p ≠ oN := fun e => by rw [e, hoN] at hp; cases hp
            exact auto_heap), ret1 rfl rfl, rfl, rfl⟩
    · obtain rfl : i = ks.length := by omega
      have hx2 := hx.out
      rw [List.drop_length, lateL] at hx2
      subst hx2
      clear hx
      (first | focus (refine yy21 ?_; refine yy19 ?_; intro hc; refine yy11 ?_; refine aw_ret ?_; rotate_left) | fail)
      exact ⟨.inl rfl, _, _, _, Ent.gc (fun p y hp => by
            have hp3 : p ≠ oN := fun e => by rw [e, hoN] at hp; cases hp
            exact auto_heap), ret1 rfl rfl, rfl, rfl⟩
end Go.Proofs.Ytmgkhfnhaeplgaa

namespace Go.Proofs.Ytmgkhfnhaeplgaa
open Go Go.Am Go.Proofs
set_option linter.unusedSimpArgs false
set_option linter.unusedVariables false
set_option maxRecDepth 20000
set_option maxHeartbeats 8000000

/-! The late names. -/
theorem nodup_len : ∀ {l m : List Bs}, l.Nodup → (∀ s ∈ l, s ∈ m) → l.length ≤ m.length
  | [], m, _, _ => Nat.zero_le _
  | x :: r, m, h, hs => by
    rw [List.nodup_cons] at h
    have hx := hs x List.mem_cons_self
    have := nodup_len (m := m.erase x) h.2 (fun s hm => (List.mem_erase_of_ne (fun e => h.1 (by rw [← e]; exact hm))).2 (hs s (List.mem_cons_of_mem _ hm)))
    rw [List.length_erase_of_mem hx] at this
    have hpos : 0 < m.length := List.length_pos_of_mem hx
    rw [List.length_cons]; omega
/-- Names of these equations, each once. -/
structure NmOk (eqs : List Eqn) (l : List Bs) : Prop where
  nd : l.Nodup
  sub : ∀ s ∈ l, s ∈ eqs.map (·.name)
theorem NmOk.len {eqs : List Eqn} {l : List Bs} (h : NmOk eqs l) : l.length ≤ eqs.length := by
  have := nodup_len h.nd h.sub
  rwa [List.length_map] at this
theorem hasB_iff {l : List Bs} {s : Bs} : hasB l s = true ↔ s ∈ l := by unfold hasB; simp
theorem NmOk.nil (eqs : List Eqn) : NmOk eqs [] := ⟨List.nodup_nil, fun s h => by cases h⟩
theorem NmOk.q {eqs : List Eqn} {l : List Bs} (h : NmOk eqs l) {q : Eqn} (hq : q ∈ eqs) : NmOk eqs (lateQ l q) := by
  unfold lateQ
  split
  · rename_i hc
    simp only [Bool.and_eq_true, Bool.not_eq_true'] at hc
    refine ⟨?_, fun s hs => ?_⟩
    · rw [List.nodup_append]
      refine ⟨h.nd, by simp, fun a ha b hb e => ?_⟩
      rw [List.mem_singleton] at hb
      subst hb
      have := hasB_iff.2 (e ▸ ha)
      rw [this] at hc
      exact absurd hc.1 (by decide)
    · rcases List.mem_append.1 hs with hs | hs
      · exact h.sub s hs
      · rw [List.mem_singleton] at hs; subst hs; exact List.mem_map_of_mem hq
  · exact h
theorem Late_calls (H : AHeap) (n : Nd) (hn : NdOk n) : ACalls Try.prog 17 [.agg n.cells] H fun r H' => r = .sls (lateN n).length (bsL (lateN n)) ∧ H' = H := by
  have cv := fun H => Vars_calls H n hn.i hn.o hn.l
  have hlv := varsN_len hn
  unfold lateN lateNames
  have heq := eq_len n.eqs
  have hbq := hn.q
  have hmv := vr_len (varsN n)
  generalize varsN n = v at *
  generalize hZ : lateRounds n.eqs (n.eqs.length + 1) [] = Z
  replace hZ := Hdn.mk hZ
  have hn0 : n.cells = [.str n.name, .sls n.ins.length (vrL n.ins), .sls n.outs.length (vrL n.outs), .sls n.locs.length (vrL n.locs), .sls n.eqs.length (eqL n.eqs), avI n.at_] := rfl
  rw [hn0] at *
  refine acalls_of_aw1 Try.func17 rfl (by decide) ?_
  (first | focus (refine yy3 ?_; refine zb1 rfl rfl rfl (fun oN hoN => ?_); refine yy5 ?_; refine yy11 ?_; refine yy86 ?_; rotate_left) | fail)
  obtain ⟨oX, hoXe⟩ : ∃ x, x = oN := ⟨_, rfl⟩
  subst hoXe
  have hX0 : H oX = none := hoN
  refine aw_own_nil 3 1 (.cel []) rfl rfl (fun oS hoS => ?_)
  have hS0 : H oS = none := AHeap.none_of_set hoS
  have hSX : oS ≠ oX := AHeap.ne_of_fresh hoS
  refine aw_loop (fun mm R1 H1 => ∃ (r oS : Nat) (s : List Bs), r ≤ n.eqs.length + 1 ∧ NmOk n.eqs s ∧ Hdn (lateRounds n.eqs (n.eqs.length + 1 - r) s = Z) ∧ H oS = none ∧ oS ≠ oX ∧ H1 oX = some (.cel [.str n.name, .sls n.ins.length (vrL n.ins), .sls n.outs.length (vrL n.outs), .sls n.locs.length (vrL n.locs), .sls n.eqs.length (eqL n.eqs), avI n.at_]) ∧ H1 oS = some (.cel (bsL s)) ∧ (∀ p y, H p = some y → H1 p = some y) ∧ R1 = [(1, .ptr oX 0), (3, .vw oS 1 0 s.length), (4, avI r)] ∧ n.eqs.length + 1 - r = mm) ?_ ?_
  · exact ⟨_, _, _, Ent.sub _ (by (repeat' (first | exact RSub.nil _ | apply RSub.cons)); all_goals rfl), 0, oS, [], Nat.zero_le _, NmOk.nil _, hZ, hS0, hSX, by exact auto_heap, by exact AHeap.set_self _ _ _, fun p y hp => by
      have hp3 : p ≠ oX := fun e => by rw [e, hX0] at hp; cases hp
      have hp4 : p ≠ oS := fun e => by rw [e, hS0] at hp; cases hp
      exact auto_heap, rfl, rfl⟩
  clear hZ hoN hoS hS0 hSX oS
  rintro mm R1 H1 ⟨r, oS, s, hr, hs, hZ, hS0, hSX, q1, q2, hfr, rfl, rfl⟩
  by_cases hrt : r < n.eqs.length + 1
  · have hZ1 : Hdn (lateRounds n.eqs (n.eqs.length + 1 - (r + 1)) (lateRound n.eqs s) = Z) := ⟨by rw [← hZ.out, show n.eqs.length + 1 - r = (n.eqs.length + 1 - (r + 1)) + 1 by omega, lateRounds]⟩
    generalize hY : lateRound n.eqs s = Y at *
    replace hY := Hdn.mk hY
    clear hZ
    have hsl := hs.len
    (first | focus (refine aw_seq ?_; refine aw_seq ?_; refine aw_region ?_; refine awl_s rfl (s_move (v := .raw _) rfl) ?_; refine awl_s rfl (s_fieldAddr_ptr rfl) ?_; refine awl_s rfl (s_load_cel rfl auto_heap rfl) ?_; refine yy120 ?_; refine yy136 ?_; refine yy4 ?_; refine aw_condp rfl (fun hc => ?_) (fun hc => ?_); refine yy10 ?_; refine yy11 ?_; refine aw_block ?_; rotate_left; exact absurd hc auto_no) | fail)
    refine aw_loop (fun mm R2 H2 => ∃ (i oS : Nat) (s : List Bs), i ≤ n.eqs.length ∧ NmOk n.eqs s ∧ Hdn (lateRound (n.eqs.drop i) s = Y) ∧ H oS = none ∧ oS ≠ oX ∧ H2 oX = some (.cel [.str n.name, .sls n.ins.length (vrL n.ins), .sls n.outs.length (vrL n.outs), .sls n.locs.length (vrL n.locs), .sls n.eqs.length (eqL n.eqs), avI n.at_]) ∧ H2 oS = some (.cel (bsL s)) ∧ (∀ p y, H p = some y → H2 p = some y) ∧ R2 = [(1, .ptr oX 0), (3, .vw oS 1 0 s.length), (4, avI r), (5, avI i)] ∧ n.eqs.length - i = mm) ?_ ?_
    · exact ⟨_, _, _, Ent.sub _ (by (repeat' (first | exact RSub.nil _ | apply RSub.cons)); all_goals rfl), 0, oS, s, Nat.zero_le _, hs, hY, hS0, hSX, q1, q2, hfr, rfl, rfl⟩
    clear hY hS0 hSX q1 q2 hfr hs hsl s oS H1
    rintro mm R2 H2 ⟨i, oS, s, hi, hs, hY, hS0, hSX, q1, q2, hfr, rfl, rfl⟩
    have hsl := hs.len
    by_cases hlt : i < n.eqs.length
    · have hg : n.eqs[i]? = some n.eqs[i] := List.getElem?_eq_getElem hlt
      have hd : n.eqs.drop i = n.eqs[i] :: n.eqs.drop (i + 1) := List.drop_eq_getElem_cons hlt
      have hbx := hn.e _ (List.getElem_mem hlt)
      have hs2 := hs.q (List.getElem_mem hlt)
      rw [hd, lateRound] at hY
      generalize n.eqs[i] = x at *
      have hsq : List.take 7 (List.drop (i * 7) (eqL n.eqs)) = [.str x.name, .str x.e.op, .str x.e.name, avI x.e.n, avI x.e.at_, .sls x.e.kids.length (exL x.e.kids), avI x.at_] := eq_get hg
      have hsE : List.take 5 (List.drop (i * 7 + 1) (eqL n.eqs)) = x.e.cells := seg_sub hsq 1 5 (by decide)
      have y0 := eq_at hg (j := 0) (by decide) rfl
      clear hg hd hsq
      have ch := fun H h => has_callv (oN0 := oS) H s x.name (by omega) h
      have cl := fun H h => late_callv (oN0 := oS) s (by omega) _ x.e H (Nat.le_refl _) hbx h
      have hbl := bsL_len s
      unfold lateQ at hY hs2
      generalize hasB s x.name = b1 at *
      generalize lateE (hasB s) x.e = b2 at *
      cases b1
      · cases b2
        · simp only [Bool.not_false, Bool.true_and, Bool.false_eq_true, if_false] at hY
          (first | focus (refine yy21 ?_; refine aw_condp rfl (fun hc => ?_) (fun hc => ?_); refine yy10 ?_; refine yy124 ?_; refine yy18 ?_; refine yy33 ?_; refine yy91 ?_; (refine zc auto_wl (ch _ auto_heap) ?_; rintro r H' ⟨rfl, rfl⟩); refine yy53 ?_; refine yy17 ?_; refine yy88 ?_; refine yy17 ?_; refine yy127 ?_; refine awl_s rfl (s_fieldAddr_pce rfl) ?_; refine yy6 ?_; refine yy64 ?_; refine yy6 ?_; refine yy37 ?_; refine yy6 ?_; (refine zc auto_wl (cl _ auto_heap) ?_; rintro r H' ⟨rfl, rfl⟩); refine yy52 ?_; refine yy82 ?_; refine yy27 ?_; rotate_left; exact absurd hc auto_no) | fail)
          exact ⟨n.eqs.length - (i + 1), _, _, by omega, Ent.sub _ (by (repeat' (first | exact RSub.nil _ | apply RSub.cons)); all_goals rfl), i + 1, oS, s, by omega, hs, hY, hS0, hSX, q1, q2, hfr, rfl, rfl⟩
        · simp only [Bool.not_false, Bool.true_and, if_true] at hY hs2
          (first | focus (refine yy21 ?_; refine aw_condp rfl (fun hc => ?_) (fun hc => ?_); refine yy10 ?_; refine yy124 ?_; refine yy18 ?_; refine yy33 ?_; refine yy91 ?_; (refine zc auto_wl (ch _ auto_heap) ?_; rintro r H' ⟨rfl, rfl⟩); refine yy53 ?_; refine yy17 ?_; refine yy88 ?_; refine yy17 ?_; refine yy127 ?_; refine awl_s rfl (s_fieldAddr_pce rfl) ?_; refine yy6 ?_; refine yy64 ?_; refine yy6 ?_; refine yy37 ?_; refine yy6 ?_; (refine zc auto_wl (cl _ auto_heap) ?_; rintro r H' ⟨rfl, rfl⟩); refine yy108 ?_; refine yy36 ?_; refine yy37 ?_; refine yy18 ?_; refine yy33 ?_; refine yy91 ?_; refine yy40 ?_; refine za4 rfl rfl rfl auto_heap auto_al auto_src auto_len auto_len (fun oN hoN => ?_); refine yy44 ?_; refine yy49 ?_; refine yy100 ?_; rotate_left; exact absurd hc auto_no) | fail)
          have n0 : H' oN = none := hoN
          have n1 : oN ≠ oX := fun e => by rw [e, q1] at n0; cases n0
          have n4 : H oN = none := by
            cases e : H oN with
            | none => rfl
            | some y => rw [hfr _ _ e] at n0; cases n0
          have e1 : bsL (s ++ [x.name]) = bsL s ++ [.str x.name] := by simp only [bsL, List.map_append, List.map_cons, List.map_nil]
          exact ⟨n.eqs.length - (i + 1), [(1, .ptr oX 0), (3, .vw oN 1 0 (s ++ [x.name]).length), (4, avI r), (5, avI (i + 1 : Nat))], _, by omega, Ent.sub _ (by rw [List.length_append]; (repeat' (first | exact RSub.nil _ | apply RSub.cons)); all_goals rfl), i + 1, oN, s ++ [x.name], by omega, hs2, hY, n4, n1, by exact auto_heap, by rw [e1]; exact AHeap.set_self _ _ _, fun p y hp => by
            have hp2 := hfr p y hp
            have hp3 : p ≠ oN := fun e => by rw [e, n4] at hp; cases hp
            have hp4 : p ≠ oS := fun e => by rw [e, hS0] at hp; cases hp
            exact auto_heap, rfl, rfl⟩
      · simp only [Bool.not_true, Bool.false_and, Bool.false_eq_true, if_false] at hY
        (first | focus (refine yy21 ?_; refine aw_condp rfl (fun hc => ?_) (fun hc => ?_); refine yy10 ?_; refine yy124 ?_; refine yy18 ?_; refine yy33 ?_; refine yy91 ?_; (refine zc auto_wl (ch _ auto_heap) ?_; rintro r H' ⟨rfl, rfl⟩); refine yy53 ?_; refine yy9 ?_; refine yy54 ?_; refine yy54 ?_; refine yy45 ?_; refine yy82 ?_; refine yy27 ?_; rotate_left; exact absurd hc auto_no) | fail)
        exact ⟨n.eqs.length - (i + 1), _, _, by omega, Ent.sub _ (by (repeat' (first | exact RSub.nil _ | apply RSub.cons)); all_goals rfl), i + 1, oS, s, by omega, hs, hY, hS0, hSX, q1, q2, hfr, rfl, rfl⟩
    · obtain rfl : i = n.eqs.length := by omega
      have hY2 : s = Y := by rw [← hY.out, List.drop_length, lateRound]
      subst hY2
      clear hY
      (first | focus (refine yy21 ?_; refine yy77 ?_; intro hc; refine yy146 ?_; refine yy151 ?_; refine yy27 ?_; rotate_left) | fail)
      exact ⟨n.eqs.length + 1 - (r + 1), _, _, by omega, Ent.sub _ (by (repeat' (first | exact RSub.nil _ | apply RSub.cons)); all_goals rfl), r + 1, oS, s, by omega, hs, hZ1, hS0, hSX, q1, q2, hfr, rfl, rfl⟩
  · obtain rfl : r = n.eqs.length + 1 := by omega
    have hZ2 : s = Z := by rw [← hZ.out, Nat.sub_self, lateRounds]
    subst hZ2
    clear hZ
    have hsl := hs.len
    generalize hZ : (v.filter fun v => hasB s v.name).map (·.name) = Z
    replace hZ := Hdn.mk hZ
    (first | focus (refine aw_seq ?_; refine aw_seq ?_; refine aw_region ?_; refine awl_s rfl (s_move (v := .raw _) rfl) ?_; refine awl_s rfl (s_fieldAddr_ptr rfl) ?_; refine awl_s rfl (s_load_cel rfl auto_heap rfl) ?_; refine yy120 ?_; refine yy136 ?_; refine yy4 ?_; refine yy19 ?_; intro hc; refine yy11 ?_; refine yy94 ?_; (refine zc auto_wl (cv _) ?_; rintro r H' ⟨rfl, rfl⟩); refine yy80 ?_; refine yy42 ?_; refine yy133 ?_; rotate_left) | fail)
    refine aw_own_nil 6 1 (.cel []) rfl rfl (fun oL hoL => ?_)
    have hLX : oL ≠ oX := fun e => by rw [e, q1] at hoL; cases hoL
    have hLS : oL ≠ oS := fun e => by rw [e, q2] at hoL; cases hoL
    have hL0 : H oL = none := by
      cases e : H oL with
      | none => rfl
      | some y => rw [hfr _ _ e] at hoL; cases hoL
    refine aw_loop (fun mm R1 H1 => ∃ (i oL : Nat) (a : List Bs), i ≤ v.length ∧ a.length ≤ i ∧ Hdn (a ++ ((v.drop i).filter fun v => hasB s v.name).map (·.name) = Z) ∧ H oL = none ∧ oL ≠ oX ∧ oL ≠ oS ∧ H1 oX = some (.cel [.str n.name, .sls n.ins.length (vrL n.ins), .sls n.outs.length (vrL n.outs), .sls n.locs.length (vrL n.locs), .sls n.eqs.length (eqL n.eqs), avI n.at_]) ∧ H1 oS = some (.cel (bsL s)) ∧ H1 oL = some (.cel (bsL a)) ∧ (∀ p y, H p = some y → H1 p = some y) ∧ R1 = [(3, .vw oS 1 0 s.length), (6, .vw oL 1 0 a.length), (7, .sls v.length (vrL v)), (8, avI i)] ∧ v.length - i = mm) ?_ ?_
    · exact ⟨_, _, _, Ent.sub _ (by (repeat' (first | exact RSub.nil _ | apply RSub.cons)); all_goals rfl), 0, oL, [], Nat.zero_le _, Nat.zero_le _, hZ, hL0, hLX, hLS, by exact auto_heap, by exact auto_heap, by exact AHeap.set_self _ _ _, fun p y hp => by
        have hp2 := hfr p y hp
        have hp3 : p ≠ oL := fun e => by rw [e, hL0] at hp; cases hp
        exact auto_heap, rfl, rfl⟩
    clear hZ hoL hL0 hLX hLS oL q1 q2 hfr
    rintro mm R1 H1 ⟨i, oL, a, hi, hai, hZ, hL0, hLX, hLS, q1, q2, q3, hfr, rfl, rfl⟩
    have hal := bsL_len a
    by_cases hlt : i < v.length
    · have hg : v[i]? = some v[i] := List.getElem?_eq_getElem hlt
      have hd : v.drop i = v[i] :: v.drop (i + 1) := List.drop_eq_getElem_cons hlt
      rw [hd, List.filter_cons] at hZ
      generalize v[i] = x at *
      have y0 := vr_at hg (j := 0) (by decide) rfl
      clear hg hd
      have ch := fun H h => has_callv (oN0 := oS) H s x.name (by omega) h
      generalize hasB s x.name = b at *
      cases b
      · simp only [Bool.false_eq_true, if_false] at hZ
        (first | focus (refine yy43 ?_; refine aw_condp rfl (fun hc => ?_) (fun hc => ?_); refine yy10 ?_; refine yy124 ?_; refine yy46 ?_; refine yy33 ?_; refine yy91 ?_; (refine zc auto_wl (ch _ auto_heap) ?_; rintro r H' ⟨rfl, rfl⟩); refine yy82 ?_; refine yy27 ?_; rotate_left; exact absurd hc auto_no) | fail)
        exact ⟨v.length - (i + 1), _, _, by omega, Ent.sub _ (by (repeat' (first | exact RSub.nil _ | apply RSub.cons)); all_goals rfl), i + 1, oL, a, by omega, by omega, hZ, hL0, hLX, hLS, q1, q2, q3, hfr, rfl, rfl⟩
      · simp only [if_true, List.map_cons] at hZ
        have hZ1 : Hdn ((a ++ [x.name]) ++ ((v.drop (i + 1)).filter fun v => hasB s v.name).map (·.name) = Z) := ⟨by rw [← hZ.out, List.append_assoc]; rfl⟩
        clear hZ
        (first | focus (refine yy43 ?_; refine aw_condp rfl (fun hc => ?_) (fun hc => ?_); refine yy10 ?_; refine yy124 ?_; refine yy46 ?_; refine yy33 ?_; refine yy91 ?_; (refine zc auto_wl (ch _ auto_heap) ?_; rintro r H' ⟨rfl, rfl⟩); refine yy89 ?_; refine yy36 ?_; refine yy37 ?_; refine yy46 ?_; refine yy33 ?_; refine yy91 ?_; refine yy40 ?_; refine za4 rfl rfl rfl auto_heap auto_al auto_src auto_len auto_len (fun oN hoN => ?_); refine yy44 ?_; refine yy49 ?_; refine yy100 ?_; rotate_left; exact absurd hc auto_no) | fail)
        have n0 : H' oN = none := hoN
        have n1 : oN ≠ oX := fun e => by rw [e, q1] at n0; cases n0
        have n2 : oN ≠ oS := fun e => by rw [e, q2] at n0; cases n0
        have n4 : H oN = none := by
          cases e : H oN with
          | none => rfl
          | some y => rw [hfr _ _ e] at n0; cases n0
        have e1 : bsL (a ++ [x.name]) = bsL a ++ [.str x.name] := by simp only [bsL, List.map_append, List.map_cons, List.map_nil]
        have hLX2 := hLX.symm
        have hLS2 := hLS.symm
        exact ⟨v.length - (i + 1), [(3, .vw oS 1 0 s.length), (6, .vw oN 1 0 (a ++ [x.name]).length), (7, .sls v.length (vrL v)), (8, avI (i + 1 : Nat))], _, by omega, Ent.sub _ (by rw [List.length_append]; (repeat' (first | exact RSub.nil _ | apply RSub.cons)); all_goals rfl), i + 1, oN, a ++ [x.name], by omega, by rw [List.length_append, List.length_singleton]; omega, hZ1, n4, n1, n2, by exact auto_heap, by exact auto_heap, by rw [e1]; exact AHeap.set_self _ _ _, fun p y hp => by
          have hp2 := hfr p y hp
          have hp3 : p ≠ oN := fun e => by rw [e, n4] at hp; cases hp
          have hp4 : p ≠ oL := fun e => by rw [e, hL0] at hp; cases hp
          exact auto_heap, rfl, rfl⟩
    · obtain rfl : i = v.length := by omega
      have hZ2 : a = Z := by rw [← hZ.out, List.drop_length]; simp
      subst hZ2
      clear hZ
      (first | focus (refine yy43 ?_; refine yy19 ?_; intro hc; refine yy124 ?_; refine yy44 ?_; refine yy113 ?_; rotate_left) | fail)
      exact ⟨.inl rfl, _, _, _, (Ent.seal_cel (i := 2) (o := oL) (xs := bsL a) rfl auto_heap hal).trans (Ent.gc (fun p y hp => by
        have hp2 := hfr p y hp
        have hp3 : p ≠ oL := fun e => by rw [e, hL0] at hp; cases hp
        exact auto_heap)), ret1 rfl rfl, rfl, rfl⟩
theorem LateExpr_calls (H : AHeap) (n : Nd) (e : Ex) (hn : NdOk n) (hb : exSz e ≤ 2000000) : ACalls Try.prog 19 [.agg n.cells, exA e] H fun r H' => r = avB (lateE (hasB (lateN n)) e) ∧ H' = H := by
  have cl := fun H => Late_calls H n hn
  have hll : (lateN n).length ≤ 6000000 := by
    unfold lateN
    rw [List.length_map]
    exact Nat.le_trans (List.length_filter_le _ _) (varsN_len hn)
  have ce := fun H => late_calls (lateN n) (by omega) _ e H (Nat.le_refl _) hb
  generalize lateN n = l at *
  generalize lateE (hasB l) e = b at *
  have hn0 : n.cells = [.str n.name, .sls n.ins.length (vrL n.ins), .sls n.outs.length (vrL n.outs), .sls n.locs.length (vrL n.locs), .sls n.eqs.length (eqL n.eqs), avI n.at_] := rfl
  rw [hn0] at *
  obtain ⟨op, nm, nn, at_, ks⟩ := e
  simp only [exA, Ex.cells, Ex.op, Ex.name, Ex.n, Ex.at_, Ex.kids] at *
  refine acalls_of_aw2 Try.func19 rfl (by decide) ?_
  (first | focus (refine yy3 ?_; refine zb1 rfl rfl rfl (fun oN hoN => ?_); refine zb1 rfl rfl rfl (fun oN hoN => ?_); refine yy5 ?_; refine yy67 ?_; (apply awt_s; · exact s_load_agg rfl auto_heap rfl rfl (by first | decide | exact Nat.le_of_ble_eq_true rfl)); (apply awt_s; · exact s_load_agg rfl auto_heap rfl rfl (by first | decide | exact Nat.le_of_ble_eq_true rfl)); (apply awt_s; · exact s_callc auto_wl (cl _)); (apply awt_s; · exact s_callc auto_wl (ce _)); (apply awt_s; · exact s_assign (v := .raw _) rfl); refine yy69 ?_; refine aw_ret ?_; rotate_left) | fail)
  exact ⟨.inl rfl, _, _, _, Ent.gc auto_sub, ret1 rfl rfl, rfl, rfl⟩
end Go.Proofs.Ytmgkhfnhaeplgaa

namespace Go.Proofs.Ytmgkhfnhaeplgaa
open Go Go.Am Go.Proofs
set_option linter.unusedSimpArgs false
set_option linter.unusedVariables false
set_option maxRecDepth 20000
set_option maxHeartbeats 8000000

/-! What is used ahead of its being there: of an expression. -/
theorem failC_set (c : Ck) (e a : Nat) (he : e ≠ 0) : (failC c e a).1 ≠ 0 := by
  unfold failC
  split
  · exact he
  · assumption
theorem failC_no {c : Ck} (h : c.1 ≠ 0) (e a : Nat) : failC c e a = c := by unfold failC; rw [if_neg h]
theorem initC_set {c : Ck} (h : c.1 ≠ 0) : ∀ x, initC c x = c
  | none => rfl
  | some a => failC_no h 11 a
theorem initC_cons (p : Bs → Bool) (c : Ck) (k : Ex) (r : List Ex) : initC (initC c (wrongE p k)) (wrongL p r) = initC c (wrongL p (k :: r)) := by
  rw [wrongL]
  cases wrongE p k with
  | none => rfl
  | some a => exact initC_set (failC_set c 11 a (by decide)) _
theorem initC_mk (p : Bs → Bool) (c : Ck) (op nm : Bs) (nn : Int) (a : Nat) (ks : List Ex) : initC c (wrongE p (.mk op nm nn a ks)) = if partB p op nm ks then failC (initC c (wrongL p ks)) 11 a else initC c (wrongL p ks) := by
  unfold wrongE
  cases wrongL p ks with
  | some b =>
    simp only
    split
    · exact (failC_no (failC_set c 11 b (by decide)) 11 a).symm
    · rfl
  | none => simp only; split <;> rfl
theorem wrongL_drop (p : Bs → Bool) (c : Ck) {ks : List Ex} {i : Nat} {k : Ex} (h : ks[i]? = some k) : initC c (wrongL p (ks.drop i)) = initC (initC c (wrongE p k)) (wrongL p (ks.drop (i + 1))) := by
  have hlt := (List.getElem?_eq_some_iff.1 h).1
  rw [List.drop_eq_getElem_cons hlt, (List.getElem?_eq_some_iff.1 h).2, initC_cons]
theorem lateL_snoc (p : Bs → Bool) : ∀ (l : List Ex) (k : Ex), lateL p (l ++ [k]) = (lateL p l || lateE p k)
  | [], k => by simp [lateL]
  | x :: l, k => by simp only [List.cons_append, lateL, lateL_snoc p l k, Bool.or_assoc]
theorem inits_calls {o : Nat} (l : List Bs) (hl : l.length ≤ 8000000) (m : Nat) : ∀ (e : Ex) (H : AHeap) (c : Ck), exSz e ≤ m → exSz e ≤ 2000000 → H o = some (.cel (ckA c)) →
    ACalls Try.prog 31 [.ptr o 0, exA e, .sls l.length (bsL l)] H fun r H' => r = .tup [] ∧ H' = H.set o (.cel (ckA (initC c (wrongE (hasB l) e)))) := by
  induction m with
  | zero => intro e H c h; rw [exSz_eq] at h; omega
  | succ m ih =>
    intro e H c h hb hH
    obtain ⟨op, nm, nn, at_, ks⟩ := e
    rw [exSz_eq] at h hb
    rw [initC_mk]
    simp only [Ex.kids, Ex.op, Ex.name, Ex.n, Ex.at_] at *
    show ACalls Try.prog _ [.ptr o 0, .agg [.str op, .str nm, avI nn, avI at_, .sls ks.length (exL ks)], .sls l.length (bsL l)] H _
    have hml := exL_len ks
    have hbl := bsL_len l
    have hkl : ks.length ≤ exSzL ks := by
      clear hml h hb
      induction ks with
      | nil => exact Nat.zero_le _
      | cons x l ih => rw [exSzL, List.length_cons]; have := exSz_eq x; omega
    have hke : ∀ k ∈ ks, exSz k ≤ 2000000 := fun k hk => by have := exSz_mem hk; omega
    have hks : ks.length ≤ 2000000 := by omega
    have ch := fun H => has_calls H l nm hl
    generalize hZ : initC c (wrongL (hasB l) ks) = Z
    replace hZ := Hdn.mk hZ
    generalize hX : partB (hasB l) op nm ks = X
    replace hX := Hdn.mk hX
    refine acalls_of_aw3 Try.func31 rfl (by decide) ?_
    (first | focus (refine yy3 ?_; refine zb1 rfl rfl rfl (fun oN hoN => ?_); refine yy42 ?_; refine yy133 ?_; rotate_left) | fail)
    obtain ⟨oE, hoEe⟩ : ∃ x, x = oN := ⟨_, rfl⟩
    subst hoEe
    have hE0 : H oE = none := hoN
    have hEo : oE ≠ o := fun e => by rw [e, hH] at hE0; cases hE0
    refine aw_loop (fun mm R1 H1 => ∃ (i : Nat) (c' : Ck), i ≤ ks.length ∧ Hdn (initC c' (wrongL (hasB l) (ks.drop i)) = Z) ∧ H1 oE = some (.cel [.str op, .str nm, avI nn, avI at_, .sls ks.length (exL ks)]) ∧ H1 o = some (.cel (ckA c')) ∧ (∀ p y, p ≠ o → H p = some y → H1 p = some y) ∧ R1 = [(0, .ptr o 0), (2, .sls l.length (bsL l)), (4, .ptr oE 0), (6, avI i)] ∧ ks.length - i = mm) ?_ ?_
    · exact ⟨_, _, _, Ent.sub _ (by (repeat' (first | exact RSub.nil _ | apply RSub.cons)); all_goals rfl), 0, c, Nat.zero_le _, hZ, by exact auto_heap, by exact auto_heap, (fun p y hpo hp => by
        have hp4 : p ≠ oE := fun e => by rw [e, hE0] at hp; cases hp
        exact auto_heap), rfl, rfl⟩
    clear hZ hoN
    rintro mm R1 H1 ⟨i, c', hi, hZ, q1, q3, hfr, rfl, rfl⟩
    by_cases hlt : i < ks.length
    · have hg : ks[i]? = some ks[i] := List.getElem?_eq_getElem hlt
      have hseg := exL_get hg
      have hmem := exSz_mem (List.getElem_mem hlt)
      rw [wrongL_drop (hasB l) c' hg] at hZ
      generalize ks[i] = k at *
      have cb := fun H h => ih k H c' (by omega) (by omega) h
      generalize initC c' (wrongE (hasB l) k) = c2 at *
      clear ih hg hmem hke ch
      (first | focus (refine yy21 ?_; refine aw_condp rfl (fun hc => ?_) (fun hc => ?_); refine yy10 ?_; refine yy101 ?_; refine yy33 ?_; refine yy64 ?_; refine yy46 ?_; (refine zc auto_wl (cb _ auto_heap) ?_; rintro r H' ⟨rfl, rfl⟩); refine yy49 ?_; refine yy100 ?_; rotate_left; exact absurd hc auto_no) | fail)
      exact ⟨ks.length - (i + 1), _, _, by omega, Ent.sub _ (by (repeat' (first | exact RSub.nil _ | apply RSub.cons)); all_goals rfl), i + 1, c2, by omega, hZ, by exact auto_heap, by exact auto_heap, (fun p y hpo hp => by
        have hp2 := hfr p y hpo hp
        exact auto_heap), rfl, rfl⟩
    · obtain rfl : i = ks.length := by omega
      have hZ2 : c' = Z := by rw [← hZ.out, List.drop_length, wrongL]; rfl
      subst hZ2
      clear hZ ih h hb hH
      have ce := fun H h => fail_calls6 (o := o) H c' 11 at_ h
      generalize failC c' 11 at_ = cF at *
      have hcl : ∀ (k : Ex) (H : AHeap), k ∈ ks → ACalls Try.prog 35 [exA k, .sls l.length (bsL l)] H fun r H' => r = avB (lateE (hasB l) k) ∧ H' = H := fun k H hk => late_calls l hl _ k H (Nat.le_refl _) (hke k hk)
      by_cases g : op = ([119, 104, 101, 110] : Bs)
      · subst g
        (first | focus (refine yy21 ?_; refine yy19 ?_; intro hc; refine yy13 ?_; refine yy140 ?_; refine yy9 ?_; refine zg2 rfl rfl rfl (fun hc => ?_) (fun hc => ?_); refine yy34 ?_; refine yy52 ?_; refine yy17 ?_; refine yy116 ?_; refine yy88 ?_; (refine zc auto_wl (ch _) ?_; rintro r H' ⟨rfl, rfl⟩); refine yy52 ?_; refine yy5 ?_; refine yy86 ?_; rotate_left; exact absurd hc auto_no) | fail)
        refine aw_loop (fun mm R1 H1 => ∃ (i : Nat) (b : Bool), i ≤ ks.length ∧ Hdn (b = hasB l nm) ∧ H1 oE = some (.cel [.str ([119, 104, 101, 110] : Bs), .str nm, avI nn, avI at_, .sls ks.length (exL ks)]) ∧ H1 o = some (.cel (ckA c')) ∧ (∀ p y, p ≠ o → H p = some y → H1 p = some y) ∧ R1 = [(0, .ptr o 0), (2, .sls l.length (bsL l)), (4, .ptr oE 0), (7, avB b), (8, avI i)] ∧ ks.length - i = mm) ?_ ?_
        · exact ⟨_, _, _, Ent.sub _ (by (repeat' (first | exact RSub.nil _ | apply RSub.cons)); all_goals rfl), 0, _, Nat.zero_le _, ⟨rfl⟩, q1, q3, hfr, rfl, rfl⟩
        clear q1 q3 hfr
        rintro mm R1 H1 ⟨i, b, hi, hb, q1, q3, hfr, rfl, rfl⟩
        by_cases hlt : i < ks.length
        · have hg : ks[i]? = some ks[i] := List.getElem?_eq_getElem hlt
          have hseg := exL_get hg
          have hsn : ks.take (i + 1) = ks.take i ++ [ks[i]] := by rw [List.take_add_one, hg]; rfl
          have cl := fun H => hcl ks[i] H (List.getElem_mem hlt)
          generalize ks[i] = k at *
          clear hsn hg cl
          (first | focus (refine yy21 ?_; refine aw_condp rfl (fun hc => ?_) (fun hc => ?_); refine yy10 ?_; refine yy13 ?_; refine yy65 ?_; refine yy1 ?_; intro hc; refine yy1 ?_; intro hc; refine yy29 ?_; intro hc; refine yy1 ?_; intro hc; refine yy77 ?_; intro hc; refine aw_skip ?_; refine k_block_normal ?_; refine yy27 ?_; rotate_left; exact absurd hc auto_no) | fail)
          exact ⟨ks.length - (i + 1), _, _, by omega, Ent.sub _ (by (repeat' (first | exact RSub.nil _ | apply RSub.cons)); all_goals rfl), i + 1, b, by omega, ⟨hb.out⟩, by exact auto_heap, by exact auto_heap, hfr, rfl, rfl⟩
        · obtain rfl : i = ks.length := by omega
          have hbX : b = X := by rw [hb.out, ← hX.out]; rfl
          subst hbX
          clear hX hb
          cases b
          · (first | focus (refine yy21 ?_; refine yy19 ?_; intro hc; refine yy15 ?_; refine yy82 ?_; rotate_left) | fail)
            exact ⟨.inr rfl, _, _, _, Ent.gc (Sub.set q3 (fun p y hpo hp => hfr p y hpo hp)), ret0 rfl, rfl, rfl⟩
          · (first | focus (refine yy21 ?_; refine yy19 ?_; intro hc; refine yy15 ?_; refine yy89 ?_; refine yy101 ?_; (refine zc auto_wl (ce _ auto_heap) ?_; rintro r H' ⟨rfl, rfl⟩); refine yy39 ?_; rotate_left) | fail)
            exact ⟨.inr rfl, _, _, _, Ent.gc (Sub.set auto_heap (fun p y hpo hp => by
              have hp2 := hfr p y hpo hp
              exact auto_heap)), ret0 rfl, rfl, rfl⟩
      have ga := Hdq.mk g
      clear g
      by_cases g : op = ([109, 101, 114, 103, 101] : Bs)
      · subst g
        (first | focus (refine yy21 ?_; refine yy19 ?_; intro hc; refine yy13 ?_; refine yy140 ?_; refine yy9 ?_; refine zg2 rfl rfl rfl (fun hc => ?_) (fun hc => ?_); exact absurd hc (Hdq.out (by assumption)); refine yy88 ?_; refine yy140 ?_; refine yy68 ?_; refine zg1 rfl rfl rfl (fun hc => ?_) (fun hc => ?_); refine yy116 ?_; refine yy88 ?_; (refine zc auto_wl (ch _) ?_; rintro r H' ⟨rfl, rfl⟩); refine yy52 ?_; refine yy5 ?_; refine yy86 ?_; rotate_left; exact absurd hc auto_no) | fail)
        refine aw_loop (fun mm R1 H1 => ∃ (i : Nat) (b : Bool), i ≤ ks.length ∧ Hdn (b = (hasB l nm || lateL (hasB l) (ks.take i))) ∧ H1 oE = some (.cel [.str ([109, 101, 114, 103, 101] : Bs), .str nm, avI nn, avI at_, .sls ks.length (exL ks)]) ∧ H1 o = some (.cel (ckA c')) ∧ (∀ p y, p ≠ o → H p = some y → H1 p = some y) ∧ R1 = [(0, .ptr o 0), (2, .sls l.length (bsL l)), (4, .ptr oE 0), (7, avB b), (8, avI i)] ∧ ks.length - i = mm) ?_ ?_
        · exact ⟨_, _, _, Ent.sub _ (by (repeat' (first | exact RSub.nil _ | apply RSub.cons)); all_goals rfl), 0, _, Nat.zero_le _, ⟨(by rw [List.take_zero, lateL, Bool.or_false])⟩, q1, q3, hfr, rfl, rfl⟩
        clear q1 q3 hfr
        rintro mm R1 H1 ⟨i, b, hi, hb, q1, q3, hfr, rfl, rfl⟩
        by_cases hlt : i < ks.length
        · have hg : ks[i]? = some ks[i] := List.getElem?_eq_getElem hlt
          have hseg := exL_get hg
          have hsn : ks.take (i + 1) = ks.take i ++ [ks[i]] := by rw [List.take_add_one, hg]; rfl
          have cl := fun H => hcl ks[i] H (List.getElem_mem hlt)
          generalize ks[i] = k at *
          have hb2 : (b || lateE (hasB l) k) = (hasB l nm || lateL (hasB l) (ks.take (i + 1))) := by rw [hb.out, hsn, lateL_snoc, Bool.or_assoc]
          replace hb2 := Hdn.mk hb2
          clear hsn hg hb
          generalize lateE (hasB l) k = bk at *
          cases b
          · rw [Bool.false_or] at hb2
            (first | focus (refine yy21 ?_; refine aw_condp rfl (fun hc => ?_) (fun hc => ?_); refine yy10 ?_; refine yy13 ?_; refine yy65 ?_; refine yy1 ?_; intro hc; refine yy1 ?_; intro hc; refine aw_condp rfl (fun hc => ?_) (fun hc => ?_); refine yy25 ?_; refine aw_condp rfl (fun hc => ?_) (fun hc => ?_); refine yy57 ?_; refine yy17 ?_; refine yy88 ?_; refine yy17 ?_; refine yy127 ?_; refine yy64 ?_; refine yy6 ?_; refine yy116 ?_; (refine zc auto_wl (cl _) ?_; rintro r H' ⟨rfl, rfl⟩); refine yy45 ?_; refine yy23 ?_; refine yy39 ?_; refine k_block_normal ?_; refine yy27 ?_; rotate_left; exact absurd hc auto_no; exact absurd hc auto_no; exact absurd hc auto_no) | fail)
            exact ⟨ks.length - (i + 1), _, _, by omega, Ent.sub _ (by (repeat' (first | exact RSub.nil _ | apply RSub.cons)); all_goals rfl), i + 1, bk, by omega, ⟨hb2.out⟩, by exact auto_heap, by exact auto_heap, hfr, rfl, rfl⟩
          · rw [Bool.true_or] at hb2
            (first | focus (refine yy21 ?_; refine aw_condp rfl (fun hc => ?_) (fun hc => ?_); refine yy10 ?_; refine yy13 ?_; refine yy65 ?_; refine yy1 ?_; intro hc; refine yy1 ?_; intro hc; refine aw_condp rfl (fun hc => ?_) (fun hc => ?_); refine yy25 ?_; refine aw_condp rfl (fun hc => ?_) (fun hc => ?_); refine yy57 ?_; refine yy9 ?_; refine yy54 ?_; refine yy34 ?_; refine yy102 ?_; refine yy52 ?_; refine yy23 ?_; refine yy39 ?_; refine k_block_normal ?_; refine yy27 ?_; rotate_left; exact absurd hc auto_no; exact absurd hc auto_no; exact absurd hc auto_no) | fail)
            exact ⟨ks.length - (i + 1), _, _, by omega, Ent.sub _ (by (repeat' (first | exact RSub.nil _ | apply RSub.cons)); all_goals rfl), i + 1, true, by omega, ⟨hb2.out⟩, by exact auto_heap, by exact auto_heap, hfr, rfl, rfl⟩
        · obtain rfl : i = ks.length := by omega
          have hbX : b = X := by rw [hb.out, ← hX.out]; rw [List.take_length]; rfl
          subst hbX
          clear hX hb
          cases b
          · (first | focus (refine yy21 ?_; refine yy19 ?_; intro hc; refine yy15 ?_; refine yy82 ?_; rotate_left) | fail)
            exact ⟨.inr rfl, _, _, _, Ent.gc (Sub.set q3 (fun p y hpo hp => hfr p y hpo hp)), ret0 rfl, rfl, rfl⟩
          · (first | focus (refine yy21 ?_; refine yy19 ?_; intro hc; refine yy15 ?_; refine yy89 ?_; refine yy101 ?_; (refine zc auto_wl (ce _ auto_heap) ?_; rintro r H' ⟨rfl, rfl⟩); refine yy39 ?_; rotate_left) | fail)
            exact ⟨.inr rfl, _, _, _, Ent.gc (Sub.set auto_heap (fun p y hpo hp => by
              have hp2 := hfr p y hpo hp
              exact auto_heap)), ret0 rfl, rfl, rfl⟩
      have gb := Hdq.mk g
      clear g
      by_cases g : op = ([112, 114, 101] : Bs)
      · subst g
        (first | focus (refine yy21 ?_; refine yy19 ?_; intro hc; refine yy13 ?_; refine yy140 ?_; refine yy9 ?_; refine zg2 rfl rfl rfl (fun hc => ?_) (fun hc => ?_); exact absurd hc (Hdq.out (by assumption)); refine yy88 ?_; refine yy140 ?_; refine yy68 ?_; refine zg1 rfl rfl rfl (fun hc => ?_) (fun hc => ?_); exact absurd hc (Hdq.out (by assumption)); refine yy34 ?_; refine yy50 ?_; refine yy5 ?_; refine yy86 ?_; rotate_left) | fail)
        refine aw_loop (fun mm R1 H1 => ∃ (i : Nat) (b : Bool), i ≤ ks.length ∧ Hdn (b = (false || lateL (hasB l) (ks.take i))) ∧ H1 oE = some (.cel [.str ([112, 114, 101] : Bs), .str nm, avI nn, avI at_, .sls ks.length (exL ks)]) ∧ H1 o = some (.cel (ckA c')) ∧ (∀ p y, p ≠ o → H p = some y → H1 p = some y) ∧ R1 = [(0, .ptr o 0), (2, .sls l.length (bsL l)), (4, .ptr oE 0), (7, avB b), (8, avI i)] ∧ ks.length - i = mm) ?_ ?_
        · exact ⟨_, _, _, Ent.sub _ (by (repeat' (first | exact RSub.nil _ | apply RSub.cons)); all_goals rfl), 0, _, Nat.zero_le _, ⟨rfl⟩, q1, q3, hfr, rfl, rfl⟩
        clear q1 q3 hfr
        rintro mm R1 H1 ⟨i, b, hi, hb, q1, q3, hfr, rfl, rfl⟩
        by_cases hlt : i < ks.length
        · have hg : ks[i]? = some ks[i] := List.getElem?_eq_getElem hlt
          have hseg := exL_get hg
          have hsn : ks.take (i + 1) = ks.take i ++ [ks[i]] := by rw [List.take_add_one, hg]; rfl
          have cl := fun H => hcl ks[i] H (List.getElem_mem hlt)
          generalize ks[i] = k at *
          have hb2 : (b || lateE (hasB l) k) = (false || lateL (hasB l) (ks.take (i + 1))) := by rw [hb.out, hsn, lateL_snoc, Bool.or_assoc]
          replace hb2 := Hdn.mk hb2
          clear hsn hg hb
          generalize lateE (hasB l) k = bk at *
          cases b
          · rw [Bool.false_or] at hb2
            (first | focus (refine yy21 ?_; refine aw_condp rfl (fun hc => ?_) (fun hc => ?_); refine yy10 ?_; refine yy13 ?_; refine yy65 ?_; refine aw_condp rfl (fun hc => ?_) (fun hc => ?_); refine yy25 ?_; refine aw_condp rfl (fun hc => ?_) (fun hc => ?_); refine yy57 ?_; refine yy17 ?_; refine yy88 ?_; refine yy17 ?_; refine yy127 ?_; refine yy64 ?_; refine yy6 ?_; refine yy116 ?_; (refine zc auto_wl (cl _) ?_; rintro r H' ⟨rfl, rfl⟩); refine yy45 ?_; refine yy23 ?_; refine yy39 ?_; refine k_block_normal ?_; refine yy27 ?_; rotate_left; exact absurd hc auto_no; exact absurd hc auto_no; exact absurd hc auto_no) | fail)
            exact ⟨ks.length - (i + 1), _, _, by omega, Ent.sub _ (by (repeat' (first | exact RSub.nil _ | apply RSub.cons)); all_goals rfl), i + 1, bk, by omega, ⟨hb2.out⟩, by exact auto_heap, by exact auto_heap, hfr, rfl, rfl⟩
          · rw [Bool.true_or] at hb2
            (first | focus (refine yy21 ?_; refine aw_condp rfl (fun hc => ?_) (fun hc => ?_); refine yy10 ?_; refine yy13 ?_; refine yy65 ?_; refine aw_condp rfl (fun hc => ?_) (fun hc => ?_); refine yy25 ?_; refine aw_condp rfl (fun hc => ?_) (fun hc => ?_); refine yy57 ?_; refine yy9 ?_; refine yy54 ?_; refine yy34 ?_; refine yy102 ?_; refine yy52 ?_; refine yy23 ?_; refine yy39 ?_; refine k_block_normal ?_; refine yy27 ?_; rotate_left; exact absurd hc auto_no; exact absurd hc auto_no; exact absurd hc auto_no) | fail)
            exact ⟨ks.length - (i + 1), _, _, by omega, Ent.sub _ (by (repeat' (first | exact RSub.nil _ | apply RSub.cons)); all_goals rfl), i + 1, true, by omega, ⟨hb2.out⟩, by exact auto_heap, by exact auto_heap, hfr, rfl, rfl⟩
        · obtain rfl : i = ks.length := by omega
          have hbX : b = X := by rw [hb.out, ← hX.out]; rw [List.take_length, Bool.false_or]; rfl
          subst hbX
          clear hX hb
          cases b
          · (first | focus (refine yy21 ?_; refine yy19 ?_; intro hc; refine yy15 ?_; refine yy82 ?_; rotate_left) | fail)
            exact ⟨.inr rfl, _, _, _, Ent.gc (Sub.set q3 (fun p y hpo hp => hfr p y hpo hp)), ret0 rfl, rfl, rfl⟩
          · (first | focus (refine yy21 ?_; refine yy19 ?_; intro hc; refine yy15 ?_; refine yy89 ?_; refine yy101 ?_; (refine zc auto_wl (ce _ auto_heap) ?_; rintro r H' ⟨rfl, rfl⟩); refine yy39 ?_; rotate_left) | fail)
            exact ⟨.inr rfl, _, _, _, Ent.gc (Sub.set auto_heap (fun p y hpo hp => by
              have hp2 := hfr p y hpo hp
              exact auto_heap)), ret0 rfl, rfl, rfl⟩
      have gc := Hdq.mk g
      clear g
      by_cases g : op = ([102, 98, 121] : Bs)
      · subst g
        (first | focus (refine yy21 ?_; refine yy19 ?_; intro hc; refine yy13 ?_; refine yy140 ?_; refine yy9 ?_; refine zg2 rfl rfl rfl (fun hc => ?_) (fun hc => ?_); exact absurd hc (Hdq.out (by assumption)); refine yy88 ?_; refine yy140 ?_; refine yy68 ?_; refine zg1 rfl rfl rfl (fun hc => ?_) (fun hc => ?_); exact absurd hc (Hdq.out (by assumption)); refine yy34 ?_; refine yy50 ?_; refine yy5 ?_; refine yy86 ?_; rotate_left) | fail)
        refine aw_loop (fun mm R1 H1 => ∃ (i : Nat) (b : Bool), i ≤ ks.length ∧ Hdn (b = (false || lateL (hasB l) (ks.take i))) ∧ H1 oE = some (.cel [.str ([102, 98, 121] : Bs), .str nm, avI nn, avI at_, .sls ks.length (exL ks)]) ∧ H1 o = some (.cel (ckA c')) ∧ (∀ p y, p ≠ o → H p = some y → H1 p = some y) ∧ R1 = [(0, .ptr o 0), (2, .sls l.length (bsL l)), (4, .ptr oE 0), (7, avB b), (8, avI i)] ∧ ks.length - i = mm) ?_ ?_
        · exact ⟨_, _, _, Ent.sub _ (by (repeat' (first | exact RSub.nil _ | apply RSub.cons)); all_goals rfl), 0, _, Nat.zero_le _, ⟨rfl⟩, q1, q3, hfr, rfl, rfl⟩
        clear q1 q3 hfr
        rintro mm R1 H1 ⟨i, b, hi, hb, q1, q3, hfr, rfl, rfl⟩
        by_cases hlt : i < ks.length
        · have hg : ks[i]? = some ks[i] := List.getElem?_eq_getElem hlt
          have hseg := exL_get hg
          have hsn : ks.take (i + 1) = ks.take i ++ [ks[i]] := by rw [List.take_add_one, hg]; rfl
          have cl := fun H => hcl ks[i] H (List.getElem_mem hlt)
          generalize ks[i] = k at *
          have hb2 : (b || lateE (hasB l) k) = (false || lateL (hasB l) (ks.take (i + 1))) := by rw [hb.out, hsn, lateL_snoc, Bool.or_assoc]
          replace hb2 := Hdn.mk hb2
          clear hsn hg hb
          generalize lateE (hasB l) k = bk at *
          cases b
          · rw [Bool.false_or] at hb2
            (first | focus (refine yy21 ?_; refine aw_condp rfl (fun hc => ?_) (fun hc => ?_); refine yy10 ?_; refine yy13 ?_; refine yy65 ?_; refine yy14 ?_; intro hc; refine aw_condp rfl (fun hc => ?_) (fun hc => ?_); refine yy25 ?_; refine aw_condp rfl (fun hc => ?_) (fun hc => ?_); refine yy57 ?_; refine yy17 ?_; refine yy88 ?_; refine yy17 ?_; refine yy127 ?_; refine yy64 ?_; refine yy6 ?_; refine yy116 ?_; (refine zc auto_wl (cl _) ?_; rintro r H' ⟨rfl, rfl⟩); refine yy45 ?_; refine yy23 ?_; refine yy39 ?_; refine k_block_normal ?_; refine yy27 ?_; rotate_left; exact absurd hc auto_no; exact absurd hc auto_no; exact absurd hc auto_no) | fail)
            exact ⟨ks.length - (i + 1), _, _, by omega, Ent.sub _ (by (repeat' (first | exact RSub.nil _ | apply RSub.cons)); all_goals rfl), i + 1, bk, by omega, ⟨hb2.out⟩, by exact auto_heap, by exact auto_heap, hfr, rfl, rfl⟩
          · rw [Bool.true_or] at hb2
            (first | focus (refine yy21 ?_; refine aw_condp rfl (fun hc => ?_) (fun hc => ?_); refine yy10 ?_; refine yy13 ?_; refine yy65 ?_; refine yy14 ?_; intro hc; refine aw_condp rfl (fun hc => ?_) (fun hc => ?_); refine yy25 ?_; refine aw_condp rfl (fun hc => ?_) (fun hc => ?_); refine yy57 ?_; refine yy9 ?_; refine yy54 ?_; refine yy34 ?_; refine yy102 ?_; refine yy52 ?_; refine yy23 ?_; refine yy39 ?_; refine k_block_normal ?_; refine yy27 ?_; rotate_left; exact absurd hc auto_no; exact absurd hc auto_no; exact absurd hc auto_no) | fail)
            exact ⟨ks.length - (i + 1), _, _, by omega, Ent.sub _ (by (repeat' (first | exact RSub.nil _ | apply RSub.cons)); all_goals rfl), i + 1, true, by omega, ⟨hb2.out⟩, by exact auto_heap, by exact auto_heap, hfr, rfl, rfl⟩
        · obtain rfl : i = ks.length := by omega
          have hbX : b = X := by rw [hb.out, ← hX.out]; rw [List.take_length, Bool.false_or]; rfl
          subst hbX
          clear hX hb
          cases b
          · (first | focus (refine yy21 ?_; refine yy19 ?_; intro hc; refine yy15 ?_; refine yy82 ?_; rotate_left) | fail)
            exact ⟨.inr rfl, _, _, _, Ent.gc (Sub.set q3 (fun p y hpo hp => hfr p y hpo hp)), ret0 rfl, rfl, rfl⟩
          · (first | focus (refine yy21 ?_; refine yy19 ?_; intro hc; refine yy15 ?_; refine yy89 ?_; refine yy101 ?_; (refine zc auto_wl (ce _ auto_heap) ?_; rintro r H' ⟨rfl, rfl⟩); refine yy39 ?_; rotate_left) | fail)
            exact ⟨.inr rfl, _, _, _, Ent.gc (Sub.set auto_heap (fun p y hpo hp => by
              have hp2 := hfr p y hpo hp
              exact auto_heap)), ret0 rfl, rfl, rfl⟩
      have gd := Hdq.mk g
      clear g
      by_cases g : op = ([99, 97, 108, 108] : Bs)
      · subst g
        (first | focus (refine yy21 ?_; refine yy19 ?_; intro hc; refine yy13 ?_; refine yy140 ?_; refine yy9 ?_; refine zg2 rfl rfl rfl (fun hc => ?_) (fun hc => ?_); exact absurd hc (Hdq.out (by assumption)); refine yy88 ?_; refine yy140 ?_; refine yy68 ?_; refine zg1 rfl rfl rfl (fun hc => ?_) (fun hc => ?_); exact absurd hc (Hdq.out (by assumption)); refine yy34 ?_; refine yy50 ?_; refine yy5 ?_; refine yy86 ?_; rotate_left) | fail)
        refine aw_loop (fun mm R1 H1 => ∃ (i : Nat) (b : Bool), i ≤ ks.length ∧ Hdn (b = (false || lateL (hasB l) (ks.take i))) ∧ H1 oE = some (.cel [.str ([99, 97, 108, 108] : Bs), .str nm, avI nn, avI at_, .sls ks.length (exL ks)]) ∧ H1 o = some (.cel (ckA c')) ∧ (∀ p y, p ≠ o → H p = some y → H1 p = some y) ∧ R1 = [(0, .ptr o 0), (2, .sls l.length (bsL l)), (4, .ptr oE 0), (7, avB b), (8, avI i)] ∧ ks.length - i = mm) ?_ ?_
        · exact ⟨_, _, _, Ent.sub _ (by (repeat' (first | exact RSub.nil _ | apply RSub.cons)); all_goals rfl), 0, _, Nat.zero_le _, ⟨rfl⟩, q1, q3, hfr, rfl, rfl⟩
        clear q1 q3 hfr
        rintro mm R1 H1 ⟨i, b, hi, hb, q1, q3, hfr, rfl, rfl⟩
        by_cases hlt : i < ks.length
        · have hg : ks[i]? = some ks[i] := List.getElem?_eq_getElem hlt
          have hseg := exL_get hg
          have hsn : ks.take (i + 1) = ks.take i ++ [ks[i]] := by rw [List.take_add_one, hg]; rfl
          have cl := fun H => hcl ks[i] H (List.getElem_mem hlt)
          generalize ks[i] = k at *
          have hb2 : (b || lateE (hasB l) k) = (false || lateL (hasB l) (ks.take (i + 1))) := by rw [hb.out, hsn, lateL_snoc, Bool.or_assoc]
          replace hb2 := Hdn.mk hb2
          clear hsn hg hb
          generalize lateE (hasB l) k = bk at *
          cases b
          · rw [Bool.false_or] at hb2
            (first | focus (refine yy21 ?_; refine aw_condp rfl (fun hc => ?_) (fun hc => ?_); refine yy10 ?_; refine yy13 ?_; refine yy65 ?_; refine yy14 ?_; intro hc; refine yy14 ?_; intro hc; refine yy20 ?_; intro hc; refine yy106 ?_; refine aw_condp rfl (fun hc => ?_) (fun hc => ?_); refine yy57 ?_; refine yy17 ?_; refine yy88 ?_; refine yy17 ?_; refine yy127 ?_; refine yy64 ?_; refine yy6 ?_; refine yy116 ?_; (refine zc auto_wl (cl _) ?_; rintro r H' ⟨rfl, rfl⟩); refine yy45 ?_; refine yy23 ?_; refine yy39 ?_; refine k_block_normal ?_; refine yy27 ?_; rotate_left; exact absurd hc auto_no; exact absurd hc auto_no) | fail)
            exact ⟨ks.length - (i + 1), _, _, by omega, Ent.sub _ (by (repeat' (first | exact RSub.nil _ | apply RSub.cons)); all_goals rfl), i + 1, bk, by omega, ⟨hb2.out⟩, by exact auto_heap, by exact auto_heap, hfr, rfl, rfl⟩
          · rw [Bool.true_or] at hb2
            (first | focus (refine yy21 ?_; refine aw_condp rfl (fun hc => ?_) (fun hc => ?_); refine yy10 ?_; refine yy13 ?_; refine yy65 ?_; refine yy14 ?_; intro hc; refine yy14 ?_; intro hc; refine yy20 ?_; intro hc; refine yy106 ?_; refine aw_condp rfl (fun hc => ?_) (fun hc => ?_); refine yy57 ?_; refine yy9 ?_; refine yy54 ?_; refine yy34 ?_; refine yy102 ?_; refine yy52 ?_; refine yy23 ?_; refine yy39 ?_; refine k_block_normal ?_; refine yy27 ?_; rotate_left; exact absurd hc auto_no; exact absurd hc auto_no) | fail)
            exact ⟨ks.length - (i + 1), _, _, by omega, Ent.sub _ (by (repeat' (first | exact RSub.nil _ | apply RSub.cons)); all_goals rfl), i + 1, true, by omega, ⟨hb2.out⟩, by exact auto_heap, by exact auto_heap, hfr, rfl, rfl⟩
        · obtain rfl : i = ks.length := by omega
          have hbX : b = X := by rw [hb.out, ← hX.out]; rw [List.take_length, Bool.false_or]; rfl
          subst hbX
          clear hX hb
          cases b
          · (first | focus (refine yy21 ?_; refine yy19 ?_; intro hc; refine yy15 ?_; refine yy82 ?_; rotate_left) | fail)
            exact ⟨.inr rfl, _, _, _, Ent.gc (Sub.set q3 (fun p y hpo hp => hfr p y hpo hp)), ret0 rfl, rfl, rfl⟩
          · (first | focus (refine yy21 ?_; refine yy19 ?_; intro hc; refine yy15 ?_; refine yy89 ?_; refine yy101 ?_; (refine zc auto_wl (ce _ auto_heap) ?_; rintro r H' ⟨rfl, rfl⟩); refine yy39 ?_; rotate_left) | fail)
            exact ⟨.inr rfl, _, _, _, Ent.gc (Sub.set auto_heap (fun p y hpo hp => by
              have hp2 := hfr p y hpo hp
              exact auto_heap)), ret0 rfl, rfl, rfl⟩
      have ge := Hdq.mk g
      clear g
      by_cases g : op = ([45, 62] : Bs)
      · subst g
        (first | focus (refine yy21 ?_; refine yy19 ?_; intro hc; refine yy13 ?_; refine yy140 ?_; refine yy9 ?_; refine zg2 rfl rfl rfl (fun hc => ?_) (fun hc => ?_); exact absurd hc (Hdq.out (by assumption)); refine yy88 ?_; refine yy140 ?_; refine yy68 ?_; refine zg1 rfl rfl rfl (fun hc => ?_) (fun hc => ?_); exact absurd hc (Hdq.out (by assumption)); refine yy34 ?_; refine yy50 ?_; refine yy5 ?_; refine yy86 ?_; rotate_left) | fail)
        refine aw_loop (fun mm R1 H1 => ∃ (i : Nat) (b : Bool), i ≤ ks.length ∧ Hdn (b = lateL (hasB l) (ks.take (min i 1))) ∧ H1 oE = some (.cel [.str ([45, 62] : Bs), .str nm, avI nn, avI at_, .sls ks.length (exL ks)]) ∧ H1 o = some (.cel (ckA c')) ∧ (∀ p y, p ≠ o → H p = some y → H1 p = some y) ∧ R1 = [(0, .ptr o 0), (2, .sls l.length (bsL l)), (4, .ptr oE 0), (7, avB b), (8, avI i)] ∧ ks.length - i = mm) ?_ ?_
        · exact ⟨_, _, _, Ent.sub _ (by (repeat' (first | exact RSub.nil _ | apply RSub.cons)); all_goals rfl), 0, _, Nat.zero_le _, ⟨rfl⟩, q1, q3, hfr, rfl, rfl⟩
        clear q1 q3 hfr
        rintro mm R1 H1 ⟨i, b, hi, hb, q1, q3, hfr, rfl, rfl⟩
        by_cases hlt : i < ks.length
        · have hg : ks[i]? = some ks[i] := List.getElem?_eq_getElem hlt
          have hseg := exL_get hg
          have hsn : ks.take (i + 1) = ks.take i ++ [ks[i]] := by rw [List.take_add_one, hg]; rfl
          have cl := fun H => hcl ks[i] H (List.getElem_mem hlt)
          generalize ks[i] = k at *
          by_cases hi0 : i = 0
          · subst hi0
            obtain rfl : b = false := by rw [hb.out]; rfl
            have hb2 : Hdn (lateE (hasB l) k = lateL (hasB l) (ks.take (min (0 + 1) 1))) := ⟨by rw [show min (0 + 1) 1 = 0 + 1 from rfl, hsn]; simp [lateL]⟩
            clear hsn hg hb
            generalize lateE (hasB l) k = bk at *
            (first | focus (refine yy21 ?_; refine aw_condp rfl (fun hc => ?_) (fun hc => ?_); refine yy10 ?_; refine yy13 ?_; refine yy65 ?_; refine yy14 ?_; intro hc; refine yy14 ?_; intro hc; refine yy20 ?_; intro hc; refine yy106 ?_; refine yy14 ?_; intro hc; refine aw_condp rfl (fun hc => ?_) (fun hc => ?_); refine yy57 ?_; refine yy17 ?_; refine yy70 ?_; refine yy6 ?_; refine yy9 ?_; refine zg1 rfl rfl rfl (fun hc => ?_) (fun hc => ?_); refine yy88 ?_; refine yy17 ?_; refine yy127 ?_; refine yy64 ?_; refine yy6 ?_; refine yy116 ?_; (refine zc auto_wl (cl _) ?_; rintro r H' ⟨rfl, rfl⟩); refine yy6 ?_; refine yy52 ?_; refine yy45 ?_; refine yy23 ?_; refine yy39 ?_; refine k_block_normal ?_; refine yy27 ?_; rotate_left; exact absurd hc auto_no; exact absurd hc auto_no; exact absurd hc auto_no) | fail)
            exact ⟨ks.length - (0 + 1), _, _, by omega, Ent.sub _ (by (repeat' (first | exact RSub.nil _ | apply RSub.cons)); all_goals rfl), 0 + 1, bk, by omega, ⟨hb2.out⟩, by exact auto_heap, by exact auto_heap, hfr, rfl, rfl⟩
          · have hb2 : Hdn (b = lateL (hasB l) (ks.take (min (i + 1) 1))) := ⟨by rw [hb.out, show min (i + 1) 1 = min i 1 by omega]⟩
            clear hsn hg hb cl
            cases b
            · (first | focus (refine yy21 ?_; refine aw_condp rfl (fun hc => ?_) (fun hc => ?_); refine yy10 ?_; refine yy13 ?_; refine yy65 ?_; refine yy14 ?_; intro hc; refine yy14 ?_; intro hc; refine yy20 ?_; intro hc; refine yy106 ?_; refine yy14 ?_; intro hc; refine aw_condp rfl (fun hc => ?_) (fun hc => ?_); refine yy57 ?_; refine yy17 ?_; refine yy70 ?_; refine yy6 ?_; refine yy9 ?_; refine zg1 rfl rfl rfl (fun hc => ?_) (fun hc => ?_); exact absurd hc auto_no; replace hc := hide_nat hc; refine yy54 ?_; refine yy34 ?_; refine yy6 ?_; refine yy45 ?_; refine yy45 ?_; refine yy23 ?_; refine yy39 ?_; refine k_block_normal ?_; refine yy27 ?_; rotate_left; exact absurd hc auto_no; exact absurd hc auto_no) | fail)
              exact ⟨ks.length - (i + 1), _, _, by omega, Ent.sub _ (by (repeat' (first | exact RSub.nil _ | apply RSub.cons)); all_goals rfl), i + 1, false, by omega, ⟨hb2.out⟩, by exact auto_heap, by exact auto_heap, hfr, rfl, rfl⟩
            · (first | focus (refine yy21 ?_; refine aw_condp rfl (fun hc => ?_) (fun hc => ?_); refine yy10 ?_; refine yy13 ?_; refine yy65 ?_; refine yy14 ?_; intro hc; refine yy14 ?_; intro hc; refine yy20 ?_; intro hc; refine yy106 ?_; refine yy14 ?_; intro hc; refine aw_condp rfl (fun hc => ?_) (fun hc => ?_); refine yy57 ?_; refine yy9 ?_; refine yy34 ?_; refine yy102 ?_; refine yy119 ?_; refine yy119 ?_; refine yy119 ?_; refine zg5 rfl rfl rfl ?_; refine yy102 ?_; refine yy52 ?_; refine yy23 ?_; refine yy39 ?_; refine k_block_normal ?_; refine yy27 ?_; rotate_left; exact absurd hc auto_no; exact absurd hc auto_no) | fail)
              exact ⟨ks.length - (i + 1), _, _, by omega, Ent.sub _ (by (repeat' (first | exact RSub.nil _ | apply RSub.cons)); all_goals rfl), i + 1, true, by omega, ⟨hb2.out⟩, by exact auto_heap, by exact auto_heap, hfr, rfl, rfl⟩
        · obtain rfl : i = ks.length := by omega
          have hbX : b = X := by rw [hb.out, ← hX.out]; show _ = (match ks with | [] => false | e :: _ => lateE (hasB l) e); cases ks with | nil => rfl | cons e r => (rw [show min (e :: r).length 1 = 1 by rw [List.length_cons]; omega]; simp [lateL])
          subst hbX
          clear hX hb
          cases b
          · (first | focus (refine yy21 ?_; refine yy19 ?_; intro hc; refine yy15 ?_; refine yy82 ?_; rotate_left) | fail)
            exact ⟨.inr rfl, _, _, _, Ent.gc (Sub.set q3 (fun p y hpo hp => hfr p y hpo hp)), ret0 rfl, rfl, rfl⟩
          · (first | focus (refine yy21 ?_; refine yy19 ?_; intro hc; refine yy15 ?_; refine yy89 ?_; refine yy101 ?_; (refine zc auto_wl (ce _ auto_heap) ?_; rintro r H' ⟨rfl, rfl⟩); refine yy39 ?_; rotate_left) | fail)
            exact ⟨.inr rfl, _, _, _, Ent.gc (Sub.set auto_heap (fun p y hpo hp => by
              have hp2 := hfr p y hpo hp
              exact auto_heap)), ret0 rfl, rfl, rfl⟩
      have gf := Hdq.mk g
      clear g
      (first | focus (refine yy21 ?_; refine yy19 ?_; intro hc; refine yy13 ?_; refine yy140 ?_; refine yy9 ?_; refine zg2 rfl rfl rfl (fun hc => ?_) (fun hc => ?_); exact absurd hc (Hdq.out (by assumption)); refine yy88 ?_; refine yy140 ?_; refine yy68 ?_; refine zg1 rfl rfl rfl (fun hc => ?_) (fun hc => ?_); exact absurd hc (Hdq.out (by assumption)); refine yy34 ?_; refine yy50 ?_; refine yy5 ?_; refine yy86 ?_; rotate_left) | fail)
      refine aw_loop (fun mm R1 H1 => ∃ (i : Nat) (b : Bool), i ≤ ks.length ∧ Hdn (b = false) ∧ H1 oE = some (.cel [.str op, .str nm, avI nn, avI at_, .sls ks.length (exL ks)]) ∧ H1 o = some (.cel (ckA c')) ∧ (∀ p y, p ≠ o → H p = some y → H1 p = some y) ∧ R1 = [(0, .ptr o 0), (2, .sls l.length (bsL l)), (4, .ptr oE 0), (7, avB b), (8, avI i)] ∧ ks.length - i = mm) ?_ ?_
      · exact ⟨_, _, _, Ent.sub _ (by (repeat' (first | exact RSub.nil _ | apply RSub.cons)); all_goals rfl), 0, _, Nat.zero_le _, ⟨rfl⟩, q1, q3, hfr, rfl, rfl⟩
      clear q1 q3 hfr
      rintro mm R1 H1 ⟨i, b, hi, hb, q1, q3, hfr, rfl, rfl⟩
      by_cases hlt : i < ks.length
      · have hg : ks[i]? = some ks[i] := List.getElem?_eq_getElem hlt
        have hseg := exL_get hg
        have hsn : ks.take (i + 1) = ks.take i ++ [ks[i]] := by rw [List.take_add_one, hg]; rfl
        have cl := fun H => hcl ks[i] H (List.getElem_mem hlt)
        generalize ks[i] = k at *
        clear hsn hg cl
        (first | focus (refine yy21 ?_; refine aw_condp rfl (fun hc => ?_) (fun hc => ?_); refine yy10 ?_; refine yy13 ?_; refine yy65 ?_; refine yy14 ?_; intro hc; refine yy14 ?_; intro hc; refine yy20 ?_; intro hc; refine yy106 ?_; refine yy14 ?_; intro hc; refine yy20 ?_; intro hc; refine aw_skip ?_; refine k_block_normal ?_; refine yy27 ?_; rotate_left; exact absurd hc auto_no) | fail)
        exact ⟨ks.length - (i + 1), _, _, by omega, Ent.sub _ (by (repeat' (first | exact RSub.nil _ | apply RSub.cons)); all_goals rfl), i + 1, b, by omega, ⟨hb.out⟩, by exact auto_heap, by exact auto_heap, hfr, rfl, rfl⟩
      · obtain rfl : i = ks.length := by omega
        have hbX : b = X := by rw [hb.out, ← hX.out]; simp only [partB, ga.out, gb.out, gc.out, gd.out, ge.out, gf.out, if_false, or_self]
        subst hbX
        clear hX hb
        cases b
        · (first | focus (refine yy21 ?_; refine yy19 ?_; intro hc; refine yy15 ?_; refine yy82 ?_; rotate_left) | fail)
          exact ⟨.inr rfl, _, _, _, Ent.gc (Sub.set q3 (fun p y hpo hp => hfr p y hpo hp)), ret0 rfl, rfl, rfl⟩
        · (first | focus (refine yy21 ?_; refine yy19 ?_; intro hc; refine yy15 ?_; refine yy89 ?_; refine yy101 ?_; (refine zc auto_wl (ce _ auto_heap) ?_; rintro r H' ⟨rfl, rfl⟩); refine yy39 ?_; rotate_left) | fail)
          exact ⟨.inr rfl, _, _, _, Ent.gc (Sub.set auto_heap (fun p y hpo hp => by
            have hp2 := hfr p y hpo hp
            exact auto_heap)), ret0 rfl, rfl, rfl⟩
end Go.Proofs.Ytmgkhfnhaeplgaa

namespace Go.Proofs.Ytmgkhfnhaeplgaa
open Go Go.Am Go.Proofs
set_option linter.unusedSimpArgs false
set_option linter.unusedVariables false
set_option maxRecDepth 20000
set_option maxHeartbeats 8000000

/-! What is used ahead of its being there: Inits. -/
theorem lateN_len {n : Nd} (hn : NdOk n) : (lateN n).length ≤ 6000000 := by
  unfold lateN
  rw [List.length_map]
  exact Nat.le_trans (List.length_filter_le _ _) (varsN_len hn)
theorem any_snoc {α : Type} (f : α → Bool) {l : List α} {i : Nat} {u : α} (h : l[i]? = some u) (b : Bool) : (b || ((l.take i).any f) || f u) = (b || (l.take (i + 1)).any f) := by
  have : l.take (i + 1) = l.take i ++ [u] := by rw [List.take_add_one, h]; rfl
  rw [this, List.any_append, List.any_cons, List.any_nil, Bool.or_false, Bool.or_assoc]
theorem Inits_calls (H : AHeap) (l : List Nd) (hl : l.length ≤ 2000000) (hok : ∀ n ∈ l, NdOk n) : ACalls Try.prog 14 [ndsA l] H fun r H' => r = .agg (ckA (inits l)) ∧ H' = H := by
  have hvl := nd_len l
  unfold inits
  generalize hZ : initsN l (0, 0) = Z
  replace hZ := Hdn.mk hZ
  refine acalls_of_aw1 Try.func14 rfl (by decide) ?_
  (first | focus (refine yy3 ?_; refine awl_alloc rfl rfl rfl (fun oN hoN => ?_); refine yy31 ?_; refine yy26 ?_; refine zb1 rfl rfl rfl (fun oN hoN => ?_); refine awl_s rfl (s_assign (v := .ptr _ _) rfl) ?_; refine yy42 ?_; refine yy133 ?_; rotate_left) | fail)
  rename_i oR hoR
  obtain ⟨oC, hoCe⟩ : ∃ x, x = oN := ⟨_, rfl⟩
  subst hoCe
  have hC0 : H oC = none := by (first | assumption | exact AHeap.none_of_set ((by assumption)) | exact AHeap.none_of_set (AHeap.none_of_set ((by assumption))) | exact AHeap.none_of_set (AHeap.none_of_set (AHeap.none_of_set ((by assumption)))) | exact AHeap.none_of_set (AHeap.none_of_set (AHeap.none_of_set (AHeap.none_of_set ((by assumption))))) | exact AHeap.none_of_set (AHeap.none_of_set (AHeap.none_of_set (AHeap.none_of_set (AHeap.none_of_set ((by assumption)))))) | exact AHeap.none_of_set (AHeap.none_of_set (AHeap.none_of_set (AHeap.none_of_set (AHeap.none_of_set (AHeap.none_of_set ((by assumption))))))) | exact AHeap.none_of_set (AHeap.none_of_set (AHeap.none_of_set (AHeap.none_of_set (AHeap.none_of_set (AHeap.none_of_set (AHeap.none_of_set ((by assumption)))))))) | exact AHeap.none_of_set (AHeap.none_of_set (AHeap.none_of_set (AHeap.none_of_set (AHeap.none_of_set (AHeap.none_of_set (AHeap.none_of_set (AHeap.none_of_set ((by assumption))))))))) | exact AHeap.none_of_set (AHeap.none_of_set (AHeap.none_of_set (AHeap.none_of_set (AHeap.none_of_set (AHeap.none_of_set (AHeap.none_of_set (AHeap.none_of_set (AHeap.none_of_set ((by assumption)))))))))) | exact AHeap.none_of_set (AHeap.none_of_set (AHeap.none_of_set (AHeap.none_of_set (AHeap.none_of_set (AHeap.none_of_set (AHeap.none_of_set (AHeap.none_of_set (AHeap.none_of_set (AHeap.none_of_set ((by assumption))))))))))))
  have hCR : oC ≠ oR := by (first | assumption | exact Ne.symm (by assumption) | exact AHeap.ne_of_fresh (by assumption) | exact Ne.symm (AHeap.ne_of_fresh (by assumption)) | exact AHeap.ne_of_fresh (AHeap.none_of_set (by assumption)) | exact Ne.symm (AHeap.ne_of_fresh (AHeap.none_of_set (by assumption))) | exact AHeap.ne_ns (by assumption) (by assumption) | exact AHeap.ne_sn (by assumption) (by assumption) | exact AHeap.ne_ns (by assumption) auto_heap2 | exact AHeap.ne_sn (by assumption) auto_heap2)
  refine aw_loop (fun mm R1 H1 => ∃ (i : Nat) (c : Ck), i ≤ l.length ∧ Hdn (initsN (l.drop i) c = Z) ∧ H1 oC = some (.cel (ckA c)) ∧ H1 oR = some (.cel ckZ) ∧ (∀ p y, H p = some y → H1 p = some y) ∧ R1 = [(0, ndsA l), (2, .ptr oR 0), (3, .ptr oC 0), (4, avI i)] ∧ l.length - i = mm) ?_ ?_
  · exact ⟨_, _, _, Ent.sub _ (by (repeat' (first | exact RSub.nil _ | apply RSub.cons)); all_goals rfl), 0, (0, 0), Nat.zero_le _, hZ, by exact auto_heap, by exact auto_heap, fun p y hp => auto_heap, rfl, rfl⟩
  clear hZ hoN
  rintro mm R1 H1 ⟨i, c, hi, hZ, q1, q2, hfr, rfl, rfl⟩
  by_cases hlt : i < l.length
  · have hg : l[i]? = some l[i] := List.getElem?_eq_getElem hlt
    have hd : l.drop i = l[i] :: l.drop (i + 1) := List.drop_eq_getElem_cons hlt
    have hn := hok _ (List.getElem_mem hlt)
    rw [hd, initsN] at hZ
    generalize l[i] = n at *
    have hseg : List.take 6 (List.drop (i * 6) (ndL l)) = [.str n.name, .sls n.ins.length (vrL n.ins), .sls n.outs.length (vrL n.outs), .sls n.locs.length (vrL n.locs), .sls n.eqs.length (eqL n.eqs), avI n.at_] := nd_get hg
    clear hg hd
    have heq := eq_len n.eqs
    have hbq := hn.q
    have hbo := hn.o
    have hblo := hn.l
    have hmo := vr_len n.outs
    have hmlo := vr_len n.locs
    have clt := fun H => Late_calls H n hn
    have hll := lateN_len hn
    generalize lateN n = nm at *
    generalize hZ4 : initsQ (hasB nm) n n.eqs c = Zq at *
    replace hZ4 := Hdn.mk hZ4
    (first | focus (refine yy43 ?_; refine aw_condp rfl (fun hc => ?_) (fun hc => ?_); refine yy10 ?_; refine yy76 ?_; refine yy33 ?_; refine yy64 ?_; refine awl_alloc rfl rfl rfl (fun oN hoN => ?_); refine yy12 ?_; refine yy31 ?_; refine yy28 ?_; (refine zc auto_wl (clt _) ?_; rintro r H' ⟨rfl, rfl⟩); refine yy80 ?_; refine yy4 ?_; refine yy11 ?_; refine aw_block ?_; rotate_left; exact absurd hc auto_no) | fail)
    obtain ⟨oX, hoXe⟩ : ∃ x, x = oN := ⟨_, rfl⟩
    subst hoXe
    have hX0 : H oX = none := by
      cases e : H oX with
      | none => rfl
      | some y => rw [hfr _ _ e] at hoN; cases hoN
    have hXC : oX ≠ oC := fun e => by rw [e, q1] at hoN; cases hoN
    have hXR : oX ≠ oR := fun e => by rw [e, q2] at hoN; cases hoN
    refine aw_loop (fun mm R3 H3 => ∃ (k : Nat) (c : Ck), k ≤ n.eqs.length ∧ Hdn (initsQ (hasB nm) n (n.eqs.drop k) c = Zq) ∧ H3 oC = some (.cel (ckA c)) ∧ H3 oR = some (.cel ckZ) ∧ H3 oX = some (.cel [.str n.name, .sls n.ins.length (vrL n.ins), .sls n.outs.length (vrL n.outs), .sls n.locs.length (vrL n.locs), .sls n.eqs.length (eqL n.eqs), avI n.at_]) ∧ (∀ p y, H p = some y → H3 p = some y) ∧ R3 = [(0, ndsA l), (2, .ptr oR 0), (3, .ptr oC 0), (4, avI i), (5, .ptr oX 0), (6, .sls nm.length (bsL nm)), (7, avI k)] ∧ n.eqs.length - k = mm) ?_ ?_
    · exact ⟨_, _, _, Ent.sub _ (by (repeat' (first | exact RSub.nil _ | apply RSub.cons)); all_goals rfl), 0, c, Nat.zero_le _, hZ4, by exact auto_heap, by exact auto_heap, by exact auto_heap, (fun p y hp => by
          have hp2 := hfr p y hp
          have hp4 : p ≠ oX := fun e => by rw [e, hX0] at hp; cases hp
          exact auto_heap), rfl, rfl⟩
    clear hZ4 q1 q2 hfr c hoN hseg clt
    rintro mm R3 H3 ⟨k, c, hk, hZ4, q1, q2, q3, hfr, rfl, rfl⟩
    by_cases hkt : k < n.eqs.length
    · have hg : n.eqs[k]? = some n.eqs[k] := List.getElem?_eq_getElem hkt
      have hd : n.eqs.drop k = n.eqs[k] :: n.eqs.drop (k + 1) := List.drop_eq_getElem_cons hkt
      have hbx := hn.e _ (List.getElem_mem hkt)
      rw [hd, initsQ] at hZ4
      generalize n.eqs[k] = x at *
      have hsq : List.take 7 (List.drop (k * 7) (eqL n.eqs)) = [.str x.name, .str x.e.op, .str x.e.name, avI x.e.n, avI x.e.at_, .sls x.e.kids.length (exL x.e.kids), avI x.at_] := eq_get hg
      clear hg hd
      unfold initQ at hZ4
      dsimp only at hZ4
      have ci := fun H h => inits_calls (o := oC) nm (by omega) _ x.e H c (Nat.le_refl _) hbx h
      have ch := fun H => has_calls H nm x.name (by omega)
      generalize initC c (wrongE (hasB nm) x.e) = c1 at *
      generalize hasB nm x.name = bh at *
      have cf := fun H h => fail_calls6 (o := oC) H c1 11 x.at_ h
      generalize failC c1 11 x.at_ = c2 at *
      simp only [exA, Ex.cells] at ci
      (first | focus (refine yy21 ?_; refine aw_condp rfl (fun hc => ?_) (fun hc => ?_); refine yy10 ?_; refine yy13 ?_; refine yy33 ?_; refine yy64 ?_; refine awl_alloc rfl rfl rfl (fun oN hoN => ?_); refine yy12 ?_; refine yy16 ?_; refine yy105 ?_; refine yy28 ?_; refine yy46 ?_; (refine zc auto_wl (ci _ auto_heap) ?_; rintro r H' ⟨rfl, rfl⟩); refine yy4 ?_; refine yy11 ?_; refine yy86 ?_; rotate_left; exact absurd hc auto_no) | fail)
      obtain ⟨oQ, hoQe⟩ : ∃ x, x = oN := ⟨_, rfl⟩
      subst hoQe
      have hQ3 : H3 oQ = none := hoN
      have hQ0 : H oQ = none := by
        cases e : H oQ with
        | none => rfl
        | some y => rw [hfr _ _ e] at hQ3; cases hQ3
      have hQC : oQ ≠ oC := fun e => by rw [e, q1] at hQ3; cases hQ3
      have hQR : oQ ≠ oR := fun e => by rw [e, q2] at hQ3; cases hQ3
      have hQX : oQ ≠ oX := fun e => by rw [e, q3] at hQ3; cases hQ3
      refine aw_loop (fun mm R4 H4 => ∃ (j : Nat) (b : Bool), j ≤ n.outs.length ∧ Hdn ((b = (n.outs.take j).any fun v => decide (v.name = x.name))) ∧ H4 oC = some (.cel (ckA c1)) ∧ H4 oR = some (.cel ckZ) ∧ H4 oX = some (.cel [.str n.name, .sls n.ins.length (vrL n.ins), .sls n.outs.length (vrL n.outs), .sls n.locs.length (vrL n.locs), .sls n.eqs.length (eqL n.eqs), avI n.at_]) ∧ H4 oQ = some (.cel [.str x.name, .str x.e.op, .str x.e.name, avI x.e.n, avI x.e.at_, .sls x.e.kids.length (exL x.e.kids), avI x.at_]) ∧ (∀ p y, H p = some y → H4 p = some y) ∧ R4 = [(0, ndsA l), (2, .ptr oR 0), (3, .ptr oC 0), (4, avI i), (5, .ptr oX 0), (6, .sls nm.length (bsL nm)), (7, avI k), (8, .ptr oQ 0), (9, avB b), (10, avI j)] ∧ n.outs.length - j = mm) ?_ ?_
      · exact ⟨_, _, _, Ent.sub _ (by (repeat' (first | exact RSub.nil _ | apply RSub.cons)); all_goals rfl), 0, false, Nat.zero_le _, ⟨rfl⟩, by exact auto_heap, by exact auto_heap, by exact auto_heap, by exact auto_heap, (fun p y hp => by
          have hp2 := hfr p y hp
          have hp3 : p ≠ oC := fun e => by rw [e, hC0] at hp; cases hp
          have hp4 : p ≠ oQ := fun e => by rw [e, hQ0] at hp; cases hp
          exact auto_heap), rfl, rfl⟩
      clear q1 q2 q3 hfr hoN hQ3 hsq ci
      rintro mm R4 H4 ⟨j, b, hj, hb, q1, q2, q3, q4, hfr, rfl, rfl⟩
      by_cases hjt : j < n.outs.length
      · have hg : n.outs[j]? = some n.outs[j] := List.getElem?_eq_getElem hjt
        generalize n.outs[j] = u at *
        have z0 := vr_at hg (j := 0) (by decide) rfl
        have hb2 : Hdn ((b || decide (u.name = x.name)) = (n.outs.take (j + 1)).any fun v => decide (v.name = x.name)) := ⟨by have := any_snoc (fun v : Vr => decide (v.name = x.name)) hg false; simpa [← hb.out] using this⟩
        clear hg hb hZ4 cf ch
        cases b
        · rw [Bool.false_or] at hb2
          (first | focus (refine yy21 ?_; refine aw_condp rfl (fun hc => ?_) (fun hc => ?_); refine yy10 ?_; refine yy122 ?_; (apply awt_s; · exact s_move (v := .raw _) rfl); (apply awt_s; · exact s_move (v := .raw _) rfl); refine yy2 ?_; (apply awt_s; · exact s_fieldAddr_ptr rfl); refine yy2 ?_; (apply awt_s; · exact s_load_cel rfl auto_heap rfl); refine yy2 ?_; (apply awt_s; · exact s_move (v := .raw _) rfl); refine yy2 ?_; (apply awt_s; · exact s_indexAddr_sls rfl rfl auto_len); refine yy2 ?_; (apply awt_s; · exact s_fieldAddr_pce rfl); refine yy2 ?_; (apply awt_s; · exact s_load_pce rfl auto_idx); refine yy2 ?_; (apply awt_s; · exact s_fieldAddr_ptr rfl); refine yy2 ?_; (apply awt_s; · exact s_load_cel rfl auto_heap rfl); refine yy2 ?_; (apply awt_s; · exact s_streq rfl rfl); (apply awt_s; · exact s_pick_f (v := .raw _) rfl rfl); (apply awt_s; · exact s_assign (v := .raw _) rfl); refine yy130 ?_; refine yy27 ?_; rotate_left; exact absurd hc auto_no) | fail)
          exact ⟨n.outs.length - (j + 1), _, _, by omega, Ent.sub _ (by (repeat' (first | exact RSub.nil _ | apply RSub.cons)); all_goals rfl), j + 1, decide (u.name = x.name), by omega, hb2, q1, q2, q3, q4, hfr, rfl, rfl⟩
        · rw [Bool.true_or] at hb2
          (first | focus (refine yy21 ?_; refine aw_condp rfl (fun hc => ?_) (fun hc => ?_); refine yy10 ?_; refine yy122 ?_; (apply awt_s; · exact s_move (v := .raw _) rfl); (apply awt_s; · exact s_move (v := .raw _) rfl); refine yy56 ?_; refine yy56 ?_; refine zt4 rfl rfl ?_; (apply awt_s; · exact s_pick_t (v := .raw _) rfl rfl); (apply awt_s; · exact s_assign (v := .raw _) rfl); refine yy130 ?_; refine yy27 ?_; rotate_left; exact absurd hc auto_no) | fail)
          exact ⟨n.outs.length - (j + 1), _, _, by omega, Ent.sub _ (by (repeat' (first | exact RSub.nil _ | apply RSub.cons)); all_goals rfl), j + 1, true, by omega, hb2, q1, q2, q3, q4, hfr, rfl, rfl⟩
      · obtain rfl : j = n.outs.length := by omega
        rw [List.take_length] at hb
        (first | focus (refine yy21 ?_; refine yy19 ?_; intro hc; refine yy86 ?_; rotate_left) | fail)
        refine aw_loop (fun mm R5 H5 => ∃ (j : Nat) (b' : Bool), j ≤ n.locs.length ∧ Hdn (b' = (b || (n.locs.take j).any fun v => decide (v.on = x.name))) ∧ H5 oC = some (.cel (ckA c1)) ∧ H5 oR = some (.cel ckZ) ∧ H5 oX = some (.cel [.str n.name, .sls n.ins.length (vrL n.ins), .sls n.outs.length (vrL n.outs), .sls n.locs.length (vrL n.locs), .sls n.eqs.length (eqL n.eqs), avI n.at_]) ∧ H5 oQ = some (.cel [.str x.name, .str x.e.op, .str x.e.name, avI x.e.n, avI x.e.at_, .sls x.e.kids.length (exL x.e.kids), avI x.at_]) ∧ (∀ p y, H p = some y → H5 p = some y) ∧ R5 = [(0, ndsA l), (2, .ptr oR 0), (3, .ptr oC 0), (4, avI i), (5, .ptr oX 0), (6, .sls nm.length (bsL nm)), (7, avI k), (8, .ptr oQ 0), (9, avB b'), (11, avI j)] ∧ n.locs.length - j = mm) ?_ ?_
        · exact ⟨_, _, _, Ent.sub _ (by (repeat' (first | exact RSub.nil _ | apply RSub.cons)); all_goals rfl), 0, b, Nat.zero_le _, ⟨by simp⟩, q1, q2, q3, q4, hfr, rfl, rfl⟩
        clear q1 q2 q3 q4 hfr
        rintro mm R5 H5 ⟨j, b', hj, hb', q1, q2, q3, q4, hfr, rfl, rfl⟩
        by_cases hjt : j < n.locs.length
        · have hg : n.locs[j]? = some n.locs[j] := List.getElem?_eq_getElem hjt
          generalize n.locs[j] = u at *
          have z0 := vr_at hg (j := 2) (by decide) rfl
          have hb2 : Hdn ((b' || decide (u.on = x.name)) = (b || (n.locs.take (j + 1)).any fun v => decide (v.on = x.name))) := ⟨by have := any_snoc (fun v : Vr => decide (v.on = x.name)) hg b; rw [← this, hb'.out]⟩
          clear hg hb hb' hZ4 cf ch
          cases b'
          · rw [Bool.false_or] at hb2
            (first | focus (refine yy21 ?_; refine aw_condp rfl (fun hc => ?_) (fun hc => ?_); refine yy10 ?_; refine yy122 ?_; (apply awt_s; · exact s_move (v := .raw _) rfl); (apply awt_s; · exact s_move (v := .raw _) rfl); refine yy2 ?_; (apply awt_s; · exact s_fieldAddr_ptr rfl); refine yy2 ?_; (apply awt_s; · exact s_load_cel rfl auto_heap rfl); refine yy2 ?_; (apply awt_s; · exact s_move (v := .raw _) rfl); refine yy2 ?_; (apply awt_s; · exact s_indexAddr_sls rfl rfl auto_len); refine yy2 ?_; (apply awt_s; · exact s_fieldAddr_pce rfl); refine yy2 ?_; (apply awt_s; · exact s_load_pce rfl auto_idx); refine yy2 ?_; (apply awt_s; · exact s_fieldAddr_ptr rfl); refine yy2 ?_; (apply awt_s; · exact s_load_cel rfl auto_heap rfl); refine yy2 ?_; (apply awt_s; · exact s_streq rfl rfl); (apply awt_s; · exact s_pick_f (v := .raw _) rfl rfl); (apply awt_s; · exact s_assign (v := .raw _) rfl); refine yy130 ?_; refine yy27 ?_; rotate_left; exact absurd hc auto_no) | fail)
            exact ⟨n.locs.length - (j + 1), _, _, by omega, Ent.sub _ (by (repeat' (first | exact RSub.nil _ | apply RSub.cons)); all_goals rfl), j + 1, decide (u.on = x.name), by omega, hb2, q1, q2, q3, q4, hfr, rfl, rfl⟩
          · rw [Bool.true_or] at hb2
            (first | focus (refine yy21 ?_; refine aw_condp rfl (fun hc => ?_) (fun hc => ?_); refine yy10 ?_; refine yy122 ?_; (apply awt_s; · exact s_move (v := .raw _) rfl); (apply awt_s; · exact s_move (v := .raw _) rfl); refine yy56 ?_; refine yy56 ?_; refine zt4 rfl rfl ?_; (apply awt_s; · exact s_pick_t (v := .raw _) rfl rfl); (apply awt_s; · exact s_assign (v := .raw _) rfl); refine yy130 ?_; refine yy27 ?_; rotate_left; exact absurd hc auto_no) | fail)
            exact ⟨n.locs.length - (j + 1), _, _, by omega, Ent.sub _ (by (repeat' (first | exact RSub.nil _ | apply RSub.cons)); all_goals rfl), j + 1, true, by omega, hb2, q1, q2, q3, q4, hfr, rfl, rfl⟩
        · obtain rfl : j = n.locs.length := by omega
          rw [List.take_length] at hb'
          have ht : toldB n x.name = b' := by unfold toldB; rw [hb'.out, hb.out]
          rw [ht] at hZ4
          clear hb hb' ht
          cases b'
          · simp only [Bool.false_and, Bool.false_eq_true, if_false] at hZ4
            (first | focus (refine yy21 ?_; refine yy19 ?_; intro hc; refine yy15 ?_; refine yy9 ?_; refine yy54 ?_; refine yy45 ?_; refine yy82 ?_; refine yy27 ?_; rotate_left) | fail)
            exact ⟨n.eqs.length - (k + 1), _, _, by omega, Ent.sub _ (by (repeat' (first | exact RSub.nil _ | apply RSub.cons)); all_goals rfl), k + 1, c1, by omega, hZ4, by exact auto_heap, by exact auto_heap, by exact auto_heap, hfr, rfl, rfl⟩
          · cases bh
            · simp only [Bool.and_false, Bool.false_eq_true, if_false] at hZ4
              (first | focus (refine yy21 ?_; refine yy19 ?_; intro hc; refine yy15 ?_; refine yy17 ?_; refine yy116 ?_; refine yy88 ?_; (refine zc auto_wl (ch _) ?_; rintro r H' ⟨rfl, rfl⟩); refine yy52 ?_; refine yy82 ?_; refine yy27 ?_; rotate_left) | fail)
              exact ⟨n.eqs.length - (k + 1), _, _, by omega, Ent.sub _ (by (repeat' (first | exact RSub.nil _ | apply RSub.cons)); all_goals rfl), k + 1, c1, by omega, hZ4, by exact auto_heap, by exact auto_heap, by exact auto_heap, hfr, rfl, rfl⟩
            · simp only [Bool.and_self, if_true] at hZ4
              (first | focus (refine yy21 ?_; refine yy19 ?_; intro hc; refine yy15 ?_; refine yy17 ?_; refine yy116 ?_; refine yy88 ?_; (refine zc auto_wl (ch _) ?_; rintro r H' ⟨rfl, rfl⟩); refine yy108 ?_; refine yy101 ?_; (refine zc auto_wl (cf _ auto_heap) ?_; rintro r H' ⟨rfl, rfl⟩); refine yy49 ?_; refine yy100 ?_; rotate_left) | fail)
              exact ⟨n.eqs.length - (k + 1), _, _, by omega, Ent.sub _ (by (repeat' (first | exact RSub.nil _ | apply RSub.cons)); all_goals rfl), k + 1, c2, by omega, hZ4, by exact auto_heap, by exact auto_heap, by exact auto_heap, (fun p y hp => by
              have hp2 := hfr p y hp
              have hp3 : p ≠ oC := fun e => by rw [e, hC0] at hp; cases hp
              exact auto_heap), rfl, rfl⟩
    · obtain rfl : k = n.eqs.length := by omega
      have hZ3 : c = Zq := by rw [← hZ4.out, List.drop_length, initsQ]
      subst hZ3
      clear hZ4
      (first | focus (refine yy21 ?_; refine yy77 ?_; intro hc; refine yy146 ?_; refine yy151 ?_; refine yy27 ?_; rotate_left) | fail)
      all_goals exact ⟨l.length - (i + 1), _, _, by omega, Ent.sub _ (by (repeat' (first | exact RSub.nil _ | apply RSub.cons)); all_goals rfl), i + 1, c, by omega, hZ, q1, q2, hfr, rfl, rfl⟩
  · obtain rfl : i = l.length := by omega
    have hZ2 := hZ.out
    rw [List.drop_length, initsN] at hZ2
    subst hZ2
    clear hZ
    (first | focus (refine yy43 ?_; refine yy19 ?_; intro hc; refine yy7 ?_; refine yy84 ?_; refine yy28 ?_; refine yy38 ?_; rotate_left) | fail)
    exact ⟨.inl rfl, _, _, _, Ent.cellRet 2 (ckA c) rfl auto_heap (by ((repeat' (first | exact WC.nil | apply WC.cons)); all_goals (first | exact W.of rfl | exact W.int rfl | exact W.nilb rfl | exact W.empb rfl | exact W.bysx rfl | exact W.nils rfl | exact W.emps rfl | exact W.slsx rfl))) (fun sp sy shp => by
      have hp2 := hfr sp sy shp
      have hp3 : sp ≠ oR := fun e => by rw [e, hoR] at shp; cases shp
      exact ⟨hp3, auto_heap⟩), ret_1 rfl (rv1_agg (m := 2) rfl rfl rfl (by decide)), rfl, rfl⟩
end Go.Proofs.Ytmgkhfnhaeplgaa

namespace Go.Proofs.Ytmgkhfnhaeplgaa
open Go Go.Am Go.Proofs
set_option linter.unusedSimpArgs false
set_option linter.unusedVariables false
set_option maxRecDepth 20000
set_option maxHeartbeats 8000000

/-! The program: what is late. -/
def setA (l : List Bs) : MS := l.map fun s => (s, avB true)
theorem setA_get (l : List Bs) (s : Bs) : (MS.get (setA l) s).getD (.raw (.bool false)) = avB (hasB l s) := by
  induction l with
  | nil => rfl
  | cons x l ih =>
    show (MS.get ((x, avB true) :: setA l) s).getD _ = _
    rw [MS.get]
    unfold hasB
    rw [List.any_cons]
    by_cases h : x = s
    · rw [if_pos h]; simp [h]
    · rw [if_neg h]; simp only [h, decide_false, Bool.false_or]; exact ih
theorem setA_put {l : List Bs} {s : Bs} (h : hasB l s = false) : MS.put (setA l) s (avB true) = setA (l ++ [s]) := by
  induction l with
  | nil => rfl
  | cons x l ih =>
    unfold hasB at h
    rw [List.any_cons, Bool.or_eq_false_iff] at h
    have hx : ¬ x = s := by simpa using h.1
    show MS.put ((x, avB true) :: setA l) s (avB true) = (x, avB true) :: setA (l ++ [s])
    rw [MS.put, if_neg hx, ih h.2]
def idxF {α : Type} (p : α → Bool) : List α → Nat → Int
  | [], _ => -1
  | x :: l, i => if p x then (i : Int) else idxF p l (i + 1)
theorem idxF_any {α : Type} (p : α → Bool) : ∀ (l : List α) (i : Nat), decide (0 ≤ idxF p l i) = l.any p
  | [], i => rfl
  | x :: l, i => by
    unfold idxF
    rw [List.any_cons]
    cases h : p x
    · rw [if_neg (by decide), Bool.false_or]; exact idxF_any p l (i + 1)
    · rw [if_pos rfl, Bool.true_or, decide_eq_true (by omega)]
theorem lateL_any (p : Bs → Bool) : ∀ ks : List Ex, lateL p ks = ks.any (lateE p)
  | [] => rfl
  | e :: l => by rw [lateL, List.any_cons, lateL_any p l]
theorem IndexFuncE_calls {om : Nat} (H : AHeap) (ks : List Ex) (p : Ex → Bool) (hl : ks.length ≤ 2000000) (hp : ∀ e ∈ ks, ACalls Try.prog 37 [.mp om, exA e] H fun r H' => r = avB (p e) ∧ H' = H) :
    ACalls Try.prog 77 [.sls ks.length (exL ks), .fnc (.func 37) [.mp om] []] H fun r H' => r = avI (idxF p ks 0) ∧ H' = H := by
  have hml := exL_len ks
  generalize hZ : idxF p ks 0 = Z
  replace hZ := Hdn.mk hZ
  refine acalls_of_aw2 Try.func77 rfl (by decide) ?_
  (first | focus (refine yy11 ?_; refine yy73 ?_; refine yy46 ?_; refine yy120 ?_; refine yy9 ?_; refine yy149 ?_; rotate_left) | fail)
  refine aw_loop (fun mm R1 H1 => ∃ (i : Nat), i ≤ ks.length ∧ Hdn (idxF p (ks.drop i) i = Z) ∧ H1 = H ∧ R1 = [(0, .sls ks.length (exL ks)), (1, .fnc (.func 37) [.mp om] []), (7, avI ks.length), (8, avI i)] ∧ ks.length - i = mm) ?_ ?_
  · exact ⟨_, _, _, Ent.sub _ (by (repeat' (first | exact RSub.nil _ | apply RSub.cons)); all_goals rfl), 0, Nat.zero_le _, hZ, rfl, rfl, rfl⟩
  clear hZ
  rintro mm R1 H1 ⟨i, hi, hZ, rfl, rfl, rfl⟩
  by_cases hlt : i < ks.length
  · have hg : ks[i]? = some ks[i] := List.getElem?_eq_getElem hlt
    have hd : ks.drop i = ks[i] :: ks.drop (i + 1) := List.drop_eq_getElem_cons hlt
    have hseg := exL_get hg
    have cp := hp _ (List.getElem_mem hlt)
    rw [hd, idxF] at hZ
    generalize ks[i] = k at *
    generalize p k = b at *
    clear hg hd hp
    cases b
    · rw [if_neg (by decide)] at hZ
      (first | focus (refine yy95 ?_; refine aw_condp rfl (fun hc => ?_) (fun hc => ?_); refine yy10 ?_; refine yy15 ?_; refine yy5 ?_; refine yy3 ?_; refine awl_s rfl (s_move (v := .fnc _ _ _) rfl) ?_; refine yy46 ?_; refine yy33 ?_; refine yy64 ?_; (((refine awl_callcvf rfl rfl auto_wl (cp) (fun r H' hpost => ?_); obtain ⟨rfl, rfl⟩ := hpost))); refine yy82 ?_; refine yy66 ?_; refine yy36 ?_; refine yy114 ?_; refine yy9 ?_; refine yy4 ?_; rotate_left; exact absurd hc auto_no) | fail)
      exact ⟨ks.length - (i + 1), _, _, by omega, Ent.sub _ (by (repeat' (first | exact RSub.nil _ | apply RSub.cons)); all_goals rfl), i + 1, by omega, hZ, rfl, rfl, rfl⟩
    · rw [if_pos rfl] at hZ
      obtain rfl : Z = (i : Int) := hZ.out.symm
      (first | focus (refine yy95 ?_; refine aw_condp rfl (fun hc => ?_) (fun hc => ?_); refine yy10 ?_; refine yy15 ?_; refine yy5 ?_; refine yy3 ?_; refine awl_s rfl (s_move (v := .fnc _ _ _) rfl) ?_; refine yy46 ?_; refine yy33 ?_; refine yy64 ?_; (((refine awl_callcvf rfl rfl auto_wl (cp) (fun r H' hpost => ?_); obtain ⟨rfl, rfl⟩ := hpost))); refine yy89 ?_; refine yy15 ?_; refine yy5 ?_; refine yy121 ?_; refine yy90 ?_; rotate_left; exact absurd hc auto_no) | fail)
      exact ⟨.inl rfl, _, _, _, Ent.refl _ _, ret1 rfl rfl, rfl, rfl⟩
  · obtain rfl : i = ks.length := by omega
    have hZ2 := hZ.out
    rw [List.drop_length, idxF] at hZ2
    subst hZ2
    (first | focus (refine yy95 ?_; refine yy19 ?_; intro hc; refine yy11 ?_; refine aw_ret ?_; rotate_left) | fail)
    exact ⟨.inl rfl, _, _, _, Ent.refl _ _, ret1 rfl rfl, rfl, rfl⟩
theorem ContainsFuncE_calls {om : Nat} (H : AHeap) (ks : List Ex) (p : Ex → Bool) (hl : ks.length ≤ 2000000) (hp : ∀ e ∈ ks, ACalls Try.prog 37 [.mp om, exA e] H fun r H' => r = avB (p e) ∧ H' = H) :
    ACalls Try.prog 72 [.sls ks.length (exL ks), .fnc (.func 37) [.mp om] []] H fun r H' => r = avB (ks.any p) ∧ H' = H := by
  have ci := IndexFuncE_calls H ks p hl hp
  have hz := idxF_any p ks 0
  generalize idxF p ks 0 = z at *
  rw [← hz]
  clear hp hz
  refine acalls_of_aw2 Try.func72 rfl (by decide) ?_
  (first | focus (refine yy11 ?_; refine yy76 ?_; refine awl_s rfl (s_move (v := .fnc _ _ _) rfl) ?_; (refine zc auto_wl (ci) ?_; rintro r H' ⟨rfl, rfl⟩); refine awl_s rfl (s_geq rfl rfl) ?_; refine yy97 ?_; rotate_left) | fail)
  exact ⟨.inl rfl, _, _, _, Ent.refl _ _, ret1 rfl rfl, rfl, rfl⟩
theorem any_calls {om : Nat} (H : AHeap) (ks : List Ex) (p : Ex → Bool) (hl : ks.length ≤ 2000000) (hp : ∀ e ∈ ks, ACalls Try.prog 37 [.mp om, exA e] H fun r H' => r = avB (p e) ∧ H' = H) : ACalls Try.prog 57 [.mp om, .sls ks.length (exL ks)] H fun r H' => r = avB (ks.any p) ∧ H' = H := by
  have cc := ContainsFuncE_calls H ks p hl hp
  generalize ks.any p = b at *
  clear hp
  refine acalls_of_aw2 Try.func57 rfl (by decide) ?_
  (first | focus (refine yy11 ?_; refine yy76 ?_; refine yy96 ?_; refine awl_s rfl (s_makeFuncV rfl rfl) ?_; (refine zc auto_wl (cc) ?_; rintro r H' ⟨rfl, rfl⟩); refine yy97 ?_; rotate_left) | fail)
  exact ⟨.inl rfl, _, _, _, Ent.refl _ _, ret1 rfl rfl, rfl, rfl⟩
theorem plate_calls {om : Nat} (l : List Bs) (m : Nat) : ∀ (e : Ex) (H : AHeap), exSz e ≤ m → exSz e ≤ 2000000 → H om = some (setA l).ao →
    ACalls Try.prog 37 [.mp om, exA e] H fun r H' => r = avB (lateE (hasB l) e) ∧ H' = H := by
  induction m with
  | zero => intro e H h; rw [exSz_eq] at h; omega
  | succ m ih =>
    intro e H h hb hH
    obtain ⟨op, nm, nn, at_, ks⟩ := e
    rw [exSz_eq] at h hb
    unfold lateE
    simp only [Ex.kids, Ex.op, Ex.name, Ex.n, Ex.at_] at *
    show ACalls Try.prog _ [.mp om, .agg [.str op, .str nm, avI nn, avI at_, .sls ks.length (exL ks)]] H _
    have hml := exL_len ks
    have hkl : ks.length ≤ exSzL ks := by
      clear hml h hb
      induction ks with
      | nil => exact Nat.zero_le _
      | cons x l ih => rw [exSzL, List.length_cons]; have := exSz_eq x; omega
    have hsg := setA_get l nm
    rw [lateL_any]
    have hp : ∀ (H2 : AHeap), H2 om = some (setA l).ao → ∀ e ∈ ks, ACalls Try.prog 37 [.mp om, exA e] H2 fun r H' => r = avB (lateE (hasB l) e) ∧ H' = H2 := fun H2 h2 e he => ih e H2 (by have := exSz_mem he; omega) (by have := exSz_mem he; omega) h2
    have ca := fun H2 h2 => any_calls H2 ks (lateE (hasB l)) (by omega) (hp H2 h2)
    clear hp ih
    generalize hx : (if op = ([118, 97, 114] : Bs) then hasB l nm else if op = ([112, 114, 101] : Bs) then true else if op = ([45, 62] : Bs) ∨ op = ([102, 98, 121] : Bs) ∨ op = ([109, 101, 114, 103, 101] : Bs) ∨ op = ([99, 97, 108, 108] : Bs) ∨ op = ([105, 110, 116] : Bs) ∨ op = ([98, 111, 111, 108] : Bs) then false else ks.any (lateE (hasB l))) = X
    refine acalls_of_aw2 Try.func37 rfl (by decide) ?_
    by_cases g1 : op = ([118, 97, 114] : Bs)
    · rw [if_pos g1] at hx
      subst g1
      rw [hx] at hsg
      (first | focus (refine yy3 ?_; refine zb1 rfl rfl rfl (fun oN hoN => ?_); refine yy71 ?_; refine yy41 ?_; refine yy1 ?_; intro hc; refine aw_condp rfl (fun hc => ?_) (fun hc => ?_); refine yy3 ?_; refine yy96 ?_; refine yy18 ?_; refine yy147 ?_; refine yy5 ?_; refine yy121 ?_; rotate_left; exact absurd hc auto_no) | fail)
      exact ⟨.inl rfl, _, _, _, Ent.gc auto_sub, ret1 rfl rfl, rfl, rfl⟩
    rw [if_neg g1] at hx
    replace g1 := Hdq.mk g1
    by_cases g2 : op = ([112, 114, 101] : Bs)
    · rw [if_pos g2] at hx
      subst g2
      subst hx
      (first | focus (refine yy3 ?_; refine zb1 rfl rfl rfl (fun oN hoN => ?_); refine yy71 ?_; refine yy41 ?_; refine aw_condp rfl (fun hc => ?_) (fun hc => ?_); refine yy92 ?_; rotate_left; exact absurd hc auto_no) | fail)
      exact ⟨.inl rfl, _, _, _, Ent.gc auto_sub, ret1 rfl rfl, rfl, rfl⟩
    rw [if_neg g2] at hx
    replace g2 := Hdq.mk g2
    by_cases g3 : op = ([45, 62] : Bs) ∨ op = ([102, 98, 121] : Bs) ∨ op = ([109, 101, 114, 103, 101] : Bs) ∨ op = ([99, 97, 108, 108] : Bs) ∨ op = ([105, 110, 116] : Bs) ∨ op = ([98, 111, 111, 108] : Bs)
    · rw [if_pos g3] at hx
      subst hx
      rcases g3 with rfl | rfl | rfl | rfl | rfl | rfl
      all_goals (
        (first | focus (refine yy3 ?_; refine zb1 rfl rfl rfl (fun oN hoN => ?_); refine yy71 ?_; refine yy41 ?_; refine yy14 ?_; intro hc; refine yy20 ?_; intro hc; refine yy112 ?_; refine yy1 ?_; intro hc; refine yy1 ?_; intro hc; refine aw_condp rfl (fun hc => ?_) (fun hc => ?_); refine yy25 ?_; refine aw_condp rfl (fun hc => ?_) (fun hc => ?_); refine yy92 ?_; rotate_left; exact absurd hc auto_no; exact absurd hc auto_no) | focus (refine yy3 ?_; refine zb1 rfl rfl rfl (fun oN hoN => ?_); refine yy71 ?_; refine yy41 ?_; refine yy14 ?_; intro hc; refine yy20 ?_; intro hc; refine yy112 ?_; refine yy1 ?_; intro hc; refine yy1 ?_; intro hc; refine yy1 ?_; intro hc; refine aw_condp rfl (fun hc => ?_) (fun hc => ?_); refine yy25 ?_; refine aw_condp rfl (fun hc => ?_) (fun hc => ?_); refine yy92 ?_; rotate_left; exact absurd hc auto_no; exact absurd hc auto_no) | focus (refine yy3 ?_; refine zb1 rfl rfl rfl (fun oN hoN => ?_); refine yy71 ?_; refine yy41 ?_; refine yy14 ?_; intro hc; refine yy20 ?_; intro hc; refine yy112 ?_; refine yy1 ?_; intro hc; refine yy1 ?_; intro hc; refine yy1 ?_; intro hc; refine yy1 ?_; intro hc; refine aw_condp rfl (fun hc => ?_) (fun hc => ?_); refine yy25 ?_; refine aw_condp rfl (fun hc => ?_) (fun hc => ?_); refine yy92 ?_; rotate_left; exact absurd hc auto_no; exact absurd hc auto_no) | focus (refine yy3 ?_; refine zb1 rfl rfl rfl (fun oN hoN => ?_); refine yy71 ?_; refine yy41 ?_; refine yy14 ?_; intro hc; refine yy20 ?_; intro hc; refine yy112 ?_; refine yy1 ?_; intro hc; refine yy1 ?_; intro hc; refine yy1 ?_; intro hc; refine yy1 ?_; intro hc; refine yy29 ?_; intro hc; refine aw_condp rfl (fun hc => ?_) (fun hc => ?_); refine yy92 ?_; rotate_left; exact absurd hc auto_no) | focus (refine yy3 ?_; refine zb1 rfl rfl rfl (fun oN hoN => ?_); refine yy71 ?_; refine yy41 ?_; refine yy14 ?_; intro hc; refine yy20 ?_; intro hc; refine yy112 ?_; refine aw_condp rfl (fun hc => ?_) (fun hc => ?_); refine yy25 ?_; refine aw_condp rfl (fun hc => ?_) (fun hc => ?_); refine yy92 ?_; rotate_left; exact absurd hc auto_no; exact absurd hc auto_no) | focus (refine yy3 ?_; refine zb1 rfl rfl rfl (fun oN hoN => ?_); refine yy71 ?_; refine yy41 ?_; refine yy14 ?_; intro hc; refine yy20 ?_; intro hc; refine yy112 ?_; refine yy1 ?_; intro hc; refine aw_condp rfl (fun hc => ?_) (fun hc => ?_); refine yy25 ?_; refine aw_condp rfl (fun hc => ?_) (fun hc => ?_); refine yy92 ?_; rotate_left; exact absurd hc auto_no; exact absurd hc auto_no) | fail)
        exact ⟨.inl rfl, _, _, _, Ent.gc auto_sub, ret1 rfl rfl, rfl, rfl⟩)
    rw [if_neg g3] at hx
    simp only [not_or] at g3
    obtain ⟨d1, d2, d3, d4, d5, d6⟩ := g3
    replace d1 := Hdq.mk d1
    replace d2 := Hdq.mk d2
    replace d3 := Hdq.mk d3
    replace d4 := Hdq.mk d4
    replace d5 := Hdq.mk d5
    replace d6 := Hdq.mk d6
    subst hx
    generalize ks.any (lateE (hasB l)) = X at *
    (first | focus (refine yy3 ?_; refine zb1 rfl rfl rfl (fun oN hoN => ?_); refine yy71 ?_; refine yy41 ?_; refine yy14 ?_; intro hc; refine yy20 ?_; intro hc; refine yy112 ?_; refine yy14 ?_; intro hc; refine yy14 ?_; intro hc; refine yy14 ?_; intro hc; refine yy14 ?_; intro hc; refine yy20 ?_; intro hc; refine yy106 ?_; refine yy20 ?_; intro hc; refine aw_skip ?_; refine yy66 ?_; refine yy3 ?_; refine yy96 ?_; refine yy18 ?_; (refine zc auto_wl (ca _ auto_heap) ?_; rintro r H' ⟨rfl, rfl⟩); refine yy97 ?_; rotate_left) | fail)
    exact ⟨.inl rfl, _, _, _, Ent.gc auto_sub, ret1 rfl rfl, rfl, rfl⟩
end Go.Proofs.Ytmgkhfnhaeplgaa

namespace Go.Proofs.Ytmgkhfnhaeplgaa
open Go Go.Am Go.Proofs
set_option linter.unusedSimpArgs false
set_option linter.unusedVariables false
set_option maxRecDepth 20000
set_option maxHeartbeats 8000000

/-! The program: the late names. -/
theorem lateRounds_add (eqs : List Eqn) : ∀ (a b : Nat) (l : List Bs), lateRounds eqs (a + b) l = lateRounds eqs b (lateRounds eqs a l)
  | 0, b, l => by rw [Nat.zero_add]; rfl
  | a + 1, b, l => by rw [show a + 1 + b = (a + b) + 1 by omega, lateRounds, lateRounds, lateRounds_add eqs a b]
theorem lateRounds_fix {eqs : List Eqn} {l : List Bs} (h : lateRound eqs l = l) : ∀ m, lateRounds eqs m l = l
  | 0 => rfl
  | m + 1 => by rw [lateRounds, h, lateRounds_fix h m]
theorem lates_calls (H : AHeap) (n : Nd) (hn : NdOk n) : ACalls Try.prog 28 [.agg n.cells] H fun r H' => ∃ om, r = .mp om ∧ H om = none ∧ H' = H.set om (setA (lateNames n)).ao := by
  have heq := eq_len n.eqs
  have hbq := hn.q
  unfold lateNames
  generalize hZ : lateRounds n.eqs (n.eqs.length + 1) [] = Z
  replace hZ := Hdn.mk hZ
  have hn0 : n.cells = [.str n.name, .sls n.ins.length (vrL n.ins), .sls n.outs.length (vrL n.outs), .sls n.locs.length (vrL n.locs), .sls n.eqs.length (eqL n.eqs), avI n.at_] := rfl
  rw [hn0] at *
  refine acalls_of_aw1 Try.func28 rfl (by decide) ?_
  (first | focus (refine yy3 ?_; refine zb1 rfl rfl rfl (fun oN hoN => ?_); refine yy5 ?_; refine yy3 ?_; refine awl_makeMap rfl (fun oN hoN => ?_); refine awl_s rfl (s_assign (v := .mp _) rfl) ?_; refine yy42 ?_; refine yy133 ?_; rotate_left) | fail)
  rename_i oX hoX
  obtain ⟨oM, hoMe⟩ : ∃ x, x = oN := ⟨_, rfl⟩
  subst hoMe
  have hM0 : H oM = none := by (first | assumption | exact AHeap.none_of_set ((by assumption)) | exact AHeap.none_of_set (AHeap.none_of_set ((by assumption))) | exact AHeap.none_of_set (AHeap.none_of_set (AHeap.none_of_set ((by assumption)))) | exact AHeap.none_of_set (AHeap.none_of_set (AHeap.none_of_set (AHeap.none_of_set ((by assumption))))) | exact AHeap.none_of_set (AHeap.none_of_set (AHeap.none_of_set (AHeap.none_of_set (AHeap.none_of_set ((by assumption)))))) | exact AHeap.none_of_set (AHeap.none_of_set (AHeap.none_of_set (AHeap.none_of_set (AHeap.none_of_set (AHeap.none_of_set ((by assumption))))))) | exact AHeap.none_of_set (AHeap.none_of_set (AHeap.none_of_set (AHeap.none_of_set (AHeap.none_of_set (AHeap.none_of_set (AHeap.none_of_set ((by assumption)))))))) | exact AHeap.none_of_set (AHeap.none_of_set (AHeap.none_of_set (AHeap.none_of_set (AHeap.none_of_set (AHeap.none_of_set (AHeap.none_of_set (AHeap.none_of_set ((by assumption))))))))) | exact AHeap.none_of_set (AHeap.none_of_set (AHeap.none_of_set (AHeap.none_of_set (AHeap.none_of_set (AHeap.none_of_set (AHeap.none_of_set (AHeap.none_of_set (AHeap.none_of_set ((by assumption)))))))))) | exact AHeap.none_of_set (AHeap.none_of_set (AHeap.none_of_set (AHeap.none_of_set (AHeap.none_of_set (AHeap.none_of_set (AHeap.none_of_set (AHeap.none_of_set (AHeap.none_of_set (AHeap.none_of_set ((by assumption))))))))))))
  have hMX : oM ≠ oX := by (first | assumption | exact Ne.symm (by assumption) | exact AHeap.ne_of_fresh (by assumption) | exact Ne.symm (AHeap.ne_of_fresh (by assumption)) | exact AHeap.ne_of_fresh (AHeap.none_of_set (by assumption)) | exact Ne.symm (AHeap.ne_of_fresh (AHeap.none_of_set (by assumption))) | exact AHeap.ne_ns (by assumption) (by assumption) | exact AHeap.ne_sn (by assumption) (by assumption) | exact AHeap.ne_ns (by assumption) auto_heap2 | exact AHeap.ne_sn (by assumption) auto_heap2)
  refine aw_loop (fun mm R1 H1 => ∃ (r : Nat) (s : List Bs) (more : Bool), NmOk n.eqs s ∧ Hdn (lateRounds n.eqs r [] = s) ∧ r ≤ s.length ∧ Hdn (more = false → lateRound n.eqs s = s) ∧ H1 oX = some (.cel [.str n.name, .sls n.ins.length (vrL n.ins), .sls n.outs.length (vrL n.outs), .sls n.locs.length (vrL n.locs), .sls n.eqs.length (eqL n.eqs), avI n.at_]) ∧ H1 oM = some (setA s).ao ∧ (∀ p y, H p = some y → H1 p = some y) ∧ R1 = [(1, .ptr oX 0), (3, .mp oM), (4, avB more)] ∧ (if more then n.eqs.length + 1 - s.length else 0) = mm) ?_ ?_
  · exact ⟨_, _, _, Ent.sub _ (by (repeat' (first | exact RSub.nil _ | apply RSub.cons)); all_goals rfl), 0, [], true, NmOk.nil _, ⟨rfl⟩, Nat.zero_le _, ⟨fun h => by cases h⟩, by exact auto_heap, AHeap.set_self _ _ _, fun p y hp => auto_heap, rfl, rfl⟩
  clear hoN
  rintro mm R1 H1 ⟨r, s, more, hs, hr, hrs, hm, q1, q2, hfr, rfl, rfl⟩
  have hsl := hs.len
  cases more
  · have hfix := hm.out rfl
    have hsZ : s = Z := by
      rw [← hZ.out, show n.eqs.length + 1 = r + (n.eqs.length + 1 - r) by omega, lateRounds_add, hr.out, lateRounds_fix hfix]
    subst hsZ
    clear hZ hr hm hfix
    (first | focus (refine yy8 ?_; refine yy144 ?_; refine yy118 ?_; refine yy3 ?_; refine yy96 ?_; refine awl_s rfl (s_assign (v := .mp _) rfl) ?_; refine yy113 ?_; rotate_left) | fail)
    exact ⟨.inl rfl, _, _, _, Ent.gc (Sub.set auto_heap (fun p y hpo hp => hfr p y hp)), ret1 rfl rfl, oM, rfl, hM0, rfl⟩
  · generalize hY : lateRound n.eqs s = Y
    replace hY := Hdn.mk hY
    clear hm hZ
    (first | focus (refine yy8 ?_; refine yy89 ?_; refine yy55 ?_; refine yy11 ?_; refine yy13 ?_; refine yy120 ?_; refine yy9 ?_; refine yy149 ?_; rotate_left) | fail)
    refine aw_loop (fun mm R2 H2 => ∃ (i : Nat) (s' : List Bs) (b : Bool), i ≤ n.eqs.length ∧ NmOk n.eqs s' ∧ Hdn (lateRound (n.eqs.drop i) s' = Y) ∧ Hdn (b = false → s' = s) ∧ Hdn (b = true → s.length < s'.length) ∧ H2 oX = some (.cel [.str n.name, .sls n.ins.length (vrL n.ins), .sls n.outs.length (vrL n.outs), .sls n.locs.length (vrL n.locs), .sls n.eqs.length (eqL n.eqs), avI n.at_]) ∧ H2 oM = some (setA s').ao ∧ (∀ p y, H p = some y → H2 p = some y) ∧ R2 = [(1, .ptr oX 0), (3, .mp oM), (4, avB b), (10, .sls n.eqs.length (eqL n.eqs)), (11, avI n.eqs.length), (12, avI i)] ∧ n.eqs.length - i = mm) ?_ ?_
    · exact ⟨_, _, _, Ent.sub _ (by (repeat' (first | exact RSub.nil _ | apply RSub.cons)); all_goals rfl), 0, s, false, Nat.zero_le _, hs, hY, ⟨fun _ => rfl⟩, ⟨fun h => by cases h⟩, q1, q2, hfr, rfl, rfl⟩
    clear q1 q2 hfr H1
    rintro mm R2 H2 ⟨i, s', b, hi, hs', hY2, hb0, hb1, q1, q2, hfr, rfl, rfl⟩
    by_cases hlt : i < n.eqs.length
    · have hg : n.eqs[i]? = some n.eqs[i] := List.getElem?_eq_getElem hlt
      have hd : n.eqs.drop i = n.eqs[i] :: n.eqs.drop (i + 1) := List.drop_eq_getElem_cons hlt
      have hbx := hn.e _ (List.getElem_mem hlt)
      have hs2 := hs'.q (List.getElem_mem hlt)
      rw [hd, lateRound] at hY2
      generalize n.eqs[i] = x at *
      have hsq : List.take 7 (List.drop (i * 7) (eqL n.eqs)) = [.str x.name, .str x.e.op, .str x.e.name, avI x.e.n, avI x.e.at_, .sls x.e.kids.length (exL x.e.kids), avI x.at_] := eq_get hg
      clear hg hd
      have hsg := setA_get s' x.name
      have hsp := setA_put (l := s') (s := x.name)
      have cl := fun H h => plate_calls (om := oM) s' _ x.e H (Nat.le_refl _) hbx h
      simp only [exA, Ex.cells] at cl
      unfold lateQ at hY2 hs2
      generalize hasB s' x.name = b1 at *
      generalize lateE (hasB s') x.e = b2 at *
      cases b1
      · cases b2
        · simp only [Bool.not_false, Bool.true_and, Bool.false_eq_true, if_false] at hY2
          (first | focus (refine yy95 ?_; refine aw_condp rfl (fun hc => ?_) (fun hc => ?_); refine yy10 ?_; refine yy3 ?_; refine yy75 ?_; refine yy64 ?_; refine awl_alloc rfl rfl rfl (fun oN hoN => ?_); refine yy12 ?_; refine yy31 ?_; refine yy96 ?_; refine yy18 ?_; refine yy147 ?_; refine yy53 ?_; refine yy17 ?_; refine yy96 ?_; refine yy6 ?_; refine awl_s rfl (s_fieldAddr_ptr rfl) ?_; refine zg3 rfl rfl rfl ?_; refine yy28 ?_; refine yy6 ?_; (refine zc auto_wl (cl _ auto_heap) ?_; rintro r H' ⟨rfl, rfl⟩); refine yy52 ?_; refine yy82 ?_; refine yy66 ?_; refine yy36 ?_; refine yy114 ?_; refine yy9 ?_; refine yy4 ?_; rotate_left; exact absurd hc auto_no) | fail)
          exact ⟨n.eqs.length - (i + 1), _, _, by omega, Ent.tog (by (repeat' (first | exact RSub.nil _ | apply RSub.cons)); all_goals rfl) auto_sub, i + 1, s', b, by omega, hs', hY2, hb0, hb1, q1, q2, hfr, rfl, rfl⟩
        · simp only [Bool.not_false, Bool.true_and, if_true] at hY2 hs2
          have hsp2 := hsp rfl
          clear hsp
          (first | focus (refine yy95 ?_; refine aw_condp rfl (fun hc => ?_) (fun hc => ?_); refine yy10 ?_; refine yy3 ?_; refine yy75 ?_; refine yy64 ?_; refine awl_alloc rfl rfl rfl (fun oN hoN => ?_); refine yy12 ?_; refine yy31 ?_; refine yy96 ?_; refine yy18 ?_; refine yy147 ?_; refine yy53 ?_; refine yy17 ?_; refine yy96 ?_; refine yy6 ?_; refine awl_s rfl (s_fieldAddr_ptr rfl) ?_; refine zg3 rfl rfl rfl ?_; refine yy28 ?_; refine yy6 ?_; (refine zc auto_wl (cl _ auto_heap) ?_; rintro r H' ⟨rfl, rfl⟩); refine yy108 ?_; refine yy3 ?_; refine yy96 ?_; refine yy18 ?_; refine awl_mapUpdate rfl rfl auto_mv auto_heap ?_; refine yy4 ?_; refine yy36 ?_; refine yy22 ?_; refine yy36 ?_; refine yy114 ?_; refine yy9 ?_; refine yy4 ?_; rotate_left; exact absurd hc auto_no) | fail)
          exact ⟨n.eqs.length - (i + 1), _, H2.set oM (setA (s' ++ [x.name])).ao, by omega, Ent.tog (by (repeat' (first | exact RSub.nil _ | apply RSub.cons)); all_goals rfl) (Sub.set (by rw [← hsp2]; exact AHeap.set_self _ _ _) (fun p y hpo hp => by
            have hp3 : p ≠ oN := fun e => by rw [e, hoN] at hp; cases hp
            exact auto_heap)), i + 1, s' ++ [x.name], true, by omega, hs2, hY2, ⟨fun h => by cases h⟩, ⟨fun _ => by
              rw [List.length_append, List.length_singleton]
              cases b with
              | false => rw [hb0.out rfl]; omega
              | true => have := hb1.out rfl; omega⟩, by exact auto_heap, AHeap.set_self _ _ _, fun p y hp => by
            have hp2 := hfr p y hp
            have hp3 : p ≠ oM := fun e => by rw [e, hM0] at hp; cases hp
            exact auto_heap, rfl, rfl⟩
      · simp only [Bool.not_true, Bool.false_and, Bool.false_eq_true, if_false] at hY2
        (first | focus (refine yy95 ?_; refine aw_condp rfl (fun hc => ?_) (fun hc => ?_); refine yy10 ?_; refine yy3 ?_; refine yy75 ?_; refine yy64 ?_; refine awl_alloc rfl rfl rfl (fun oN hoN => ?_); refine yy12 ?_; refine yy31 ?_; refine yy96 ?_; refine yy18 ?_; refine yy147 ?_; refine yy53 ?_; refine yy9 ?_; refine yy54 ?_; refine yy45 ?_; refine yy82 ?_; refine yy66 ?_; refine yy36 ?_; refine yy114 ?_; refine yy9 ?_; refine yy4 ?_; rotate_left; exact absurd hc auto_no) | fail)
        exact ⟨n.eqs.length - (i + 1), _, _, by omega, Ent.tog (by (repeat' (first | exact RSub.nil _ | apply RSub.cons)); all_goals rfl) auto_sub, i + 1, s', b, by omega, hs', hY2, hb0, hb1, q1, q2, hfr, rfl, rfl⟩
    · obtain rfl : i = n.eqs.length := by omega
      have hY3 : s' = Y := by rw [← hY2.out, List.drop_length, lateRound]
      subst hY3
      have hsl2 := hs'.len
      clear hY2
      (first | focus (refine yy95 ?_; refine yy77 ?_; intro hc; refine yy146 ?_; refine yy151 ?_; refine yy66 ?_; rotate_left) | fail)
      cases b
      · obtain rfl : s' = s := hb0.out rfl
        exact ⟨0, _, _, by rw [if_pos rfl]; omega, Ent.sub _ (by (repeat' (first | exact RSub.nil _ | apply RSub.cons)); all_goals rfl), r, s', false, hs', hr, hrs, ⟨fun _ => hY.out⟩, q1, q2, hfr, rfl, rfl⟩
      · have hlt2 := hb1.out rfl
        exact ⟨_, _, _, by rw [if_pos rfl]; exact (show n.eqs.length + 1 - s'.length < n.eqs.length + 1 - s.length by omega), Ent.sub _ (by (repeat' (first | exact RSub.nil _ | apply RSub.cons)); all_goals rfl), r + 1, s', true, hs', ⟨by rw [lateRounds_add, hr.out]; exact hY.out⟩, by omega, ⟨fun h => by cases h⟩, q1, q2, hfr, rfl, rfl⟩
end Go.Proofs.Ytmgkhfnhaeplgaa

namespace Go.Proofs.Ytmgkhfnhaeplgaa
open Go Go.Am Go.Proofs
set_option linter.unusedSimpArgs false
set_option linter.unusedVariables false
set_option maxRecDepth 20000
set_option maxHeartbeats 8000000

/-! slices.Concat of variables. -/
abbrev vlA (l : List Vr) : AV := .sls l.length (vrL l)
theorem GrowV_nil (H : AHeap) (k : Nat) (hk0 : 0 < k) (hk : k ≤ 4000000000) :
    ACalls Try.prog 56 [.raw (.slice none 0 0), .raw (.int .i64 (k : Int))] H fun r H' => ∃ o, H o = none ∧ r = .vw o 5 0 0 ∧ H' = H.set o (.cel []) := by
  refine acalls_of_aw2 Try.func56 rfl (by decide) ?_
  (first | focus (refine yy11 ?_; refine yy8 ?_; refine yy51 ?_; refine yy60 ?_; intro hc; refine yy8 ?_; refine yy9 ?_; refine awl_s rfl (s_cap_nil rfl) ?_; refine yy9 ?_; refine awl_s rfl (s_len_nil rfl) ?_; refine awl_s rfl (s_subn rfl rfl (by omega) (by omega)) ?_; refine awl_s rfl (s_subn rfl rfl (by omega) (by omega)) ?_; refine yy5 ?_; refine yy15 ?_; refine yy131 ?_; refine yy4 ?_; refine aw_condp rfl (fun hc => ?_) (fun hc => ?_); refine yy57 ?_; refine yy9 ?_; refine awl_s rfl (s_cap_nil rfl) ?_; refine awl_s rfl (s_slice_nil rfl auto_bnd auto_bnd) ?_; refine yy9 ?_; refine awl_app_zeros (sz := 5) (z := .agg #[.string ⟨#[]⟩, .int .i64 0, .string ⟨#[]⟩, .bool false, .int .i64 0]) (xs := .cel []) rfl rfl rfl rfl auto_om auto_om auto_len (fun oN hoN => ?_); refine yy9 ?_; refine awl_s rfl (s_len_nil rfl) ?_; refine awl_s rfl (s_slice_vw rfl auto_bnd auto_bnd auto_len auto_len) ?_; refine yy44 ?_; refine yy31 ?_; refine yy37 ?_; refine yy44 ?_; refine yy113 ?_; rotate_left; exact absurd hc auto_no) | fail)
  exact ⟨.inl rfl, _, _, _, Ent.refl _ _, ret1 rfl rfl, oN, hoN, rfl, rfl⟩
theorem GrowV_zero (H : AHeap) :
    ACalls Try.prog 56 [.raw (.slice none 0 0), .raw (.int .i64 ((0 : Nat) : Int))] H fun r H' => r = .raw (.slice none 0 0) ∧ H' = H := by
  refine acalls_of_aw2 Try.func56 rfl (by decide) ?_
  (first | focus (refine yy11 ?_; refine yy8 ?_; refine yy51 ?_; refine yy60 ?_; intro hc; refine yy8 ?_; refine yy9 ?_; refine awl_s rfl (s_cap_nil rfl) ?_; refine yy9 ?_; refine awl_s rfl (s_len_nil rfl) ?_; refine awl_s rfl (s_subn rfl rfl (by omega) (by omega)) ?_; refine awl_s rfl (s_subn rfl rfl (by omega) (by omega)) ?_; refine yy5 ?_; refine yy15 ?_; refine yy131 ?_; refine yy4 ?_; refine yy60 ?_; intro hc; refine yy15 ?_; refine yy97 ?_; rotate_left) | fail)
  exact ⟨.inl rfl, _, _, _, Ent.refl _ _, ret1 rfl rfl, rfl, rfl⟩
theorem ConcatV_calls (H : AHeap) (ls : List (List Vr)) (hl : ls.length ≤ 1000) (hb : ∀ b ∈ ls, b.length ≤ 2000000) :
    ACalls Try.prog 34 [.sls ls.length (ls.map vlA)] H fun r H' => r = vlA ls.flatten ∧ H' = H := by
  refine acalls_of_aw1 Try.func34 rfl (by decide) ?_
  (first | focus (refine yy11 ?_; refine yy11 ?_; refine yy73 ?_; refine yy46 ?_; refine yy120 ?_; refine yy9 ?_; refine yy149 ?_; rotate_left) | fail)
  refine aw_loop (fun m R' H1 => ∃ i, H1 = H ∧ R' = [(0, .sls ls.length (ls.map vlA)), (3, .raw (.int .i64 (((ls.take i).flatten.length : Nat) : Int))), (9, .sls ls.length (ls.map vlA)), (10, .raw (.int .i64 ((ls.length : Nat) : Int))), (11, .raw (.int .i64 ((i : Nat) : Int)))] ∧ i + m = ls.length ∧ (ls.take i).flatten.length ≤ 2000000 * i) ?_ ?_
  · exact ⟨ls.length, _, _, auto_ent, 0, rfl, rfl, by omega, by simp⟩
  rintro m R0 H1 ⟨i, rfl, rfl, hi, hs⟩
  by_cases hlt : i < ls.length
  · have hg : ls[i]? = some ls[i] := List.getElem?_eq_getElem hlt
    have hbi := hb _ (List.getElem_mem hlt)
    have hsn : (ls.take (i + 1)).flatten.length = (ls.take i).flatten.length + ls[i].length := by rw [List.take_add_one, hg, List.flatten_append, List.length_append]; simp [Option.toList]
    generalize ls[i] = x at *
    (first | focus (refine yy95 ?_; refine aw_condp rfl (fun hc => ?_) (fun hc => ?_); refine yy10 ?_; refine yy3 ?_; refine yy75 ?_; refine yy47 ?_; refine yy80 ?_; refine yy4 ?_; refine yy15 ?_; refine yy46 ?_; refine yy120 ?_; refine yy114 ?_; refine yy5 ?_; refine yy15 ?_; refine yy51 ?_; refine yy77 ?_; intro hc; refine aw_skip ?_; refine yy66 ?_; refine yy36 ?_; refine yy114 ?_; refine yy9 ?_; refine yy4 ?_; rotate_left; exact absurd hc auto_no) | fail)
    simp only [← hsn]
    exact ⟨m - 1, _, _, by omega, auto_ent, i + 1, rfl, rfl, by omega, by omega⟩
  obtain rfl : i = ls.length := by omega
  rw [List.take_length] at hs ⊢
  by_cases hz : ls.flatten.length = 0
  case' pos =>
    rw [hz]
    (first | focus (refine yy95 ?_; refine yy19 ?_; intro hc; refine yy15 ?_; (refine zc auto_wl (GrowV_zero _) ?_; rintro r H' ⟨rfl, rfl⟩); refine yy5 ?_; refine yy73 ?_; refine yy46 ?_; refine yy120 ?_; refine yy9 ?_; refine yy149 ?_; rotate_left) | fail)
    rename AHeap => H1
    refine aw_own_nil 6 5 (.cel []) rfl rfl (fun o ho => ?_)
  case' neg =>
    (first | focus (refine yy95 ?_; refine yy19 ?_; intro hc; refine yy15 ?_; (refine zc auto_wl (GrowV_nil _ _ (by omega) (by omega)) ?_; rintro r H' ⟨o, ho, rfl, rfl⟩); refine yy44 ?_; refine yy42 ?_; refine yy46 ?_; refine yy120 ?_; refine yy9 ?_; refine yy149 ?_; rotate_left) | fail)
  all_goals
    refine aw_loop (fun m R' H2 => ∃ o i, H1 o = none ∧ H2 = H1.set o (.cel (vrL (ls.take i).flatten)) ∧ R' = [(6, .vw o 5 0 (ls.take i).flatten.length), (25, .sls ls.length (ls.map vlA)), (26, .raw (.int .i64 ((ls.length : Nat) : Int))), (27, .raw (.int .i64 ((i : Nat) : Int)))] ∧ i + m = ls.length ∧ (ls.take i).flatten.length ≤ 2000000 * i) ?_ ?_
    · exact ⟨ls.length, _, _, auto_ent, o, 0, ho, by simp, rfl, by omega, by simp⟩
    clear ho hi hlt
    rintro m R0 H2 ⟨o, i, ho, rfl, rfl, hi, hs⟩
    by_cases hlt : i < ls.length
    · have hg : ls[i]? = some ls[i] := List.getElem?_eq_getElem hlt
      have hbi := hb _ (List.getElem_mem hlt)
      have hsn : (ls.take (i + 1)).flatten = (ls.take i).flatten ++ ls[i] := by rw [List.take_add_one, hg, List.flatten_append]; simp [Option.toList]
      have hsl : (ls.take (i + 1)).flatten.length = (ls.take i).flatten.length + ls[i].length := by rw [hsn, List.length_append]
      have hv1 := vr_len (ls.take i).flatten
      have hgm : (ls.map vlA)[i * 1]? = some (vlA ls[i]) := map_get hg
      generalize ls[i] = x at *
      have hv2 := vr_len x
      (first | focus (refine yy95 ?_; refine aw_condp rfl (fun hc => ?_) (fun hc => ?_); refine yy10 ?_; refine yy3 ?_; refine yy75 ?_; refine yy47 ?_; refine yy80 ?_; refine yy4 ?_; refine yy36 ?_; refine yy37 ?_; refine yy46 ?_; refine za2 rfl rfl rfl (by assumption) auto_len auto_src auto_len auto_len (fun oN hoN => ?_); refine yy44 ?_; refine yy49 ?_; refine yy36 ?_; refine yy114 ?_; refine yy9 ?_; refine yy4 ?_; rotate_left; exact absurd hc auto_no) | fail)
      simp only [← vr_app, ← hsn, ← hsl]
      exact ⟨m - 1, _, _, by omega, auto_ent, oN, i + 1, hoN, rfl, rfl, by omega, by omega⟩
    obtain rfl : i = ls.length := by omega
    rw [List.take_length] at hs ⊢
    (first | focus (refine yy95 ?_; refine yy19 ?_; intro hc; refine yy124 ?_; refine yy44 ?_; refine yy113 ?_; rotate_left) | fail)
    exact ⟨.inl rfl, _, _, _, Ent.seal_cel1 2 rfl (vr_len _) ho, ret1 rfl rfl, rfl, rfl⟩
end Go.Proofs.Ytmgkhfnhaeplgaa

namespace Go.Proofs.Ytmgkhfnhaeplgaa
open Go Go.Am Go.Proofs
set_option linter.unusedSimpArgs false
set_option linter.unusedVariables false
set_option maxRecDepth 20000
set_option maxHeartbeats 8000000

/-! The program: Late, Expr, told. -/
theorem lateNames_ok (n : Nd) : NmOk n.eqs (lateNames n) := by
  have hq : ∀ (l : List Eqn), (∀ q ∈ l, q ∈ n.eqs) → ∀ s, NmOk n.eqs s → NmOk n.eqs (lateRound l s) := by
    intro l
    induction l with
    | nil => intro _ s hs; exact hs
    | cons q l ih => intro h s hs; exact ih (fun q hq => h q (List.mem_cons_of_mem _ hq)) _ (hs.q (h q List.mem_cons_self))
  have hr : ∀ m s, NmOk n.eqs s → NmOk n.eqs (lateRounds n.eqs m s) := by
    intro m
    induction m with
    | zero => intro s hs; exact hs
    | succ m ih => intro s hs; exact ih _ (hq _ (fun _ h => h) s hs)
  exact hr _ _ (NmOk.nil _)
theorem pExpr_calls (H : AHeap) (n : Nd) (e : Ex) (hn : NdOk n) (hb : exSz e ≤ 2000000) : ACalls Try.prog 18 [.agg n.cells, exA e] H fun r H' => r = avB (lateE (hasB (lateNames n)) e) ∧ H' = H := by
  have cl := fun H => lates_calls H n hn
  generalize lateNames n = l at *
  have ce := fun om H h => plate_calls (om := om) l _ e H (Nat.le_refl _) hb h
  generalize lateE (hasB l) e = b at *
  have hn0 : n.cells = [.str n.name, .sls n.ins.length (vrL n.ins), .sls n.outs.length (vrL n.outs), .sls n.locs.length (vrL n.locs), .sls n.eqs.length (eqL n.eqs), avI n.at_] := rfl
  rw [hn0] at *
  obtain ⟨op, nm, nn, at_, ks⟩ := e
  simp only [exA, Ex.cells, Ex.op, Ex.name, Ex.n, Ex.at_, Ex.kids] at *
  refine acalls_of_aw2 Try.func18 rfl (by decide) ?_
  (first | focus (refine yy3 ?_; refine zb1 rfl rfl rfl (fun oN hoN => ?_); refine zb1 rfl rfl rfl (fun oN hoN => ?_); refine yy5 ?_; refine aw_seq ?_; refine DC.aw_drawp (fun H' => H' oN = some (.cel [.str op, .str nm, avI nn, avI at_, .sls ks.length (exL ks)])) (by first | exact auto_heap | exact ⟨auto_heap, auto_heap⟩ | exact ⟨auto_heap, auto_heap, auto_heap⟩) auto_kr auto_dk auto_dk ?_; (apply DC.awn_e auto_dk; (· exact s_load_agg rfl auto_heap rfl rfl (by first | decide | exact Nat.le_of_ble_eq_true rfl))); refine DC.awn_b ?_; (apply DC.awn_s; · (intro H1 hPsi; (try dsimp only at hPsi); exact s_load_agg rfl auto_heap rfl rfl (by first | decide | exact Nat.le_of_ble_eq_true rfl))); refine DC.awn_b ?_; refine DC.awn_b ?_; refine DC.awn_nil ?_; refine DC.awc_cons (fun Rx K1 hK1x => ?_); (refine zc auto_wl (cl _) ?_; rintro r H' ⟨om, rfl, hom, rfl⟩); refine yy39 ?_; (refine hK1x _ _ (by first | exact Or.inl (by decide +kernel) | (refine Or.inr ?_; (try dsimp only); first | exact auto_heap | exact ⟨auto_heap, auto_heap⟩ | exact ⟨auto_heap, auto_heap, auto_heap⟩)) ?_; clear hK1x K1 Rx); refine DC.awc_cons (fun Rx K1 hK1x => ?_); (refine zc auto_wl (ce om _ auto_heap) ?_; rintro r H' ⟨rfl, rfl⟩); refine yy39 ?_; (refine hK1x _ _ (by first | exact Or.inl (by decide +kernel) | (refine Or.inr ?_; (try dsimp only); first | exact auto_heap | exact ⟨auto_heap, auto_heap⟩ | exact ⟨auto_heap, auto_heap, auto_heap⟩)) ?_; clear hK1x K1 Rx); refine DC.awc_cons (fun Rx K1 hK1x => ?_); refine yy23 ?_; refine yy39 ?_; (refine hK1x _ _ (by first | exact Or.inl (by decide +kernel) | (refine Or.inr ?_; (try dsimp only); first | exact auto_heap | exact ⟨auto_heap, auto_heap⟩ | exact ⟨auto_heap, auto_heap, auto_heap⟩)) ?_; clear hK1x K1 Rx); refine DC.awc_nil ?_; refine k_seq_normal ?_; refine aw_ret ?_; rotate_left) | fail)
  exact ⟨.inl rfl, _, _, _, Ent.gc auto_sub, ret1 rfl rfl, rfl, rfl⟩
theorem pLate_calls (H : AHeap) (n : Nd) (hn : NdOk n) : ACalls Try.prog 16 [.agg n.cells] H fun r H' => r = .sls (lateN n).length (bsL (lateN n)) ∧ H' = H := by
  have cl := fun H => lates_calls H n hn
  have hns := (lateNames_ok n).len
  have hbq := hn.q
  have hlv := varsN_len hn
  unfold lateN
  generalize lateNames n = s at *
  have cv := fun H => ConcatV_calls H [n.ins, n.outs, n.locs] (show 3 ≤ 1000 by decide) (fun b hb => by
    simp only [List.mem_cons, List.mem_nil_iff, or_false] at hb
    rcases hb with rfl | rfl | rfl
    · exact hn.i
    · exact hn.o
    · exact hn.l)
  have hfl : [n.ins, n.outs, n.locs].flatten = varsN n := by unfold varsN; simp
  rw [hfl] at cv
  generalize varsN n = v at *
  have hmv := vr_len v
  generalize hZ : (v.filter fun v => hasB s v.name).map (·.name) = Z
  replace hZ := Hdn.mk hZ
  simp only [List.map_cons, List.map_nil, List.length_cons, List.length_nil] at cv
  have hn0 : n.cells = [.str n.name, .sls n.ins.length (vrL n.ins), .sls n.outs.length (vrL n.outs), .sls n.locs.length (vrL n.locs), .sls n.eqs.length (eqL n.eqs), avI n.at_] := rfl
  rw [hn0] at *
  refine acalls_of_aw1 Try.func16 rfl (by decide) ?_
  (first | focus (refine yy3 ?_; refine zb1 rfl rfl rfl (fun oN hoN => ?_); refine yy5 ?_; refine yy94 ?_; (refine zc auto_wl (cl _) ?_; rintro r H' ⟨om, rfl, hom, rfl⟩); refine awl_s rfl (s_assign (v := .mp _) rfl) ?_; refine yy4 ?_; refine yy11 ?_; refine yy117 ?_; refine yy18 ?_; refine yy18 ?_; refine yy40 ?_; (refine zc auto_wl (cv _) ?_; rintro r H' ⟨rfl, rfl⟩); refine yy120 ?_; refine yy9 ?_; refine yy149 ?_; rotate_left) | fail)
  obtain ⟨oX, hoXe⟩ : ∃ x, x = oN := ⟨_, rfl⟩
  subst hoXe
  have hoX : H oX = none := hoN
  have hM0 : H om = none := by (first | assumption | exact AHeap.none_of_set ((by assumption)) | exact AHeap.none_of_set (AHeap.none_of_set ((by assumption))) | exact AHeap.none_of_set (AHeap.none_of_set (AHeap.none_of_set ((by assumption)))) | exact AHeap.none_of_set (AHeap.none_of_set (AHeap.none_of_set (AHeap.none_of_set ((by assumption))))) | exact AHeap.none_of_set (AHeap.none_of_set (AHeap.none_of_set (AHeap.none_of_set (AHeap.none_of_set ((by assumption)))))) | exact AHeap.none_of_set (AHeap.none_of_set (AHeap.none_of_set (AHeap.none_of_set (AHeap.none_of_set (AHeap.none_of_set ((by assumption))))))) | exact AHeap.none_of_set (AHeap.none_of_set (AHeap.none_of_set (AHeap.none_of_set (AHeap.none_of_set (AHeap.none_of_set (AHeap.none_of_set ((by assumption)))))))) | exact AHeap.none_of_set (AHeap.none_of_set (AHeap.none_of_set (AHeap.none_of_set (AHeap.none_of_set (AHeap.none_of_set (AHeap.none_of_set (AHeap.none_of_set ((by assumption))))))))) | exact AHeap.none_of_set (AHeap.none_of_set (AHeap.none_of_set (AHeap.none_of_set (AHeap.none_of_set (AHeap.none_of_set (AHeap.none_of_set (AHeap.none_of_set (AHeap.none_of_set ((by assumption)))))))))) | exact AHeap.none_of_set (AHeap.none_of_set (AHeap.none_of_set (AHeap.none_of_set (AHeap.none_of_set (AHeap.none_of_set (AHeap.none_of_set (AHeap.none_of_set (AHeap.none_of_set (AHeap.none_of_set ((by assumption))))))))))))
  have hMX : om ≠ oX := by (first | assumption | exact Ne.symm (by assumption) | exact AHeap.ne_of_fresh (by assumption) | exact Ne.symm (AHeap.ne_of_fresh (by assumption)) | exact AHeap.ne_of_fresh (AHeap.none_of_set (by assumption)) | exact Ne.symm (AHeap.ne_of_fresh (AHeap.none_of_set (by assumption))) | exact AHeap.ne_ns (by assumption) (by assumption) | exact AHeap.ne_sn (by assumption) (by assumption) | exact AHeap.ne_ns (by assumption) auto_heap2 | exact AHeap.ne_sn (by assumption) auto_heap2)
  refine aw_own_nil 4 1 (.cel []) rfl rfl (fun oL hoL => ?_)
  have hL0 : H oL = none := by (first | assumption | exact AHeap.none_of_set ((by assumption)) | exact AHeap.none_of_set (AHeap.none_of_set ((by assumption))) | exact AHeap.none_of_set (AHeap.none_of_set (AHeap.none_of_set ((by assumption)))) | exact AHeap.none_of_set (AHeap.none_of_set (AHeap.none_of_set (AHeap.none_of_set ((by assumption))))) | exact AHeap.none_of_set (AHeap.none_of_set (AHeap.none_of_set (AHeap.none_of_set (AHeap.none_of_set ((by assumption)))))) | exact AHeap.none_of_set (AHeap.none_of_set (AHeap.none_of_set (AHeap.none_of_set (AHeap.none_of_set (AHeap.none_of_set ((by assumption))))))) | exact AHeap.none_of_set (AHeap.none_of_set (AHeap.none_of_set (AHeap.none_of_set (AHeap.none_of_set (AHeap.none_of_set (AHeap.none_of_set ((by assumption)))))))) | exact AHeap.none_of_set (AHeap.none_of_set (AHeap.none_of_set (AHeap.none_of_set (AHeap.none_of_set (AHeap.none_of_set (AHeap.none_of_set (AHeap.none_of_set ((by assumption))))))))) | exact AHeap.none_of_set (AHeap.none_of_set (AHeap.none_of_set (AHeap.none_of_set (AHeap.none_of_set (AHeap.none_of_set (AHeap.none_of_set (AHeap.none_of_set (AHeap.none_of_set ((by assumption)))))))))) | exact AHeap.none_of_set (AHeap.none_of_set (AHeap.none_of_set (AHeap.none_of_set (AHeap.none_of_set (AHeap.none_of_set (AHeap.none_of_set (AHeap.none_of_set (AHeap.none_of_set (AHeap.none_of_set ((by assumption))))))))))))
  have hLM : oL ≠ om := by (first | assumption | exact Ne.symm (by assumption) | exact AHeap.ne_of_fresh (by assumption) | exact Ne.symm (AHeap.ne_of_fresh (by assumption)) | exact AHeap.ne_of_fresh (AHeap.none_of_set (by assumption)) | exact Ne.symm (AHeap.ne_of_fresh (AHeap.none_of_set (by assumption))) | exact AHeap.ne_ns (by assumption) (by assumption) | exact AHeap.ne_sn (by assumption) (by assumption) | exact AHeap.ne_ns (by assumption) auto_heap2 | exact AHeap.ne_sn (by assumption) auto_heap2)
  refine aw_loop (fun mm R1 H1 => ∃ (i oL : Nat) (a : List Bs), i ≤ v.length ∧ a.length ≤ i ∧ Hdn (a ++ ((v.drop i).filter fun v => hasB s v.name).map (·.name) = Z) ∧ H oL = none ∧ oL ≠ om ∧ H1 om = some (setA s).ao ∧ H1 oL = some (.cel (bsL a)) ∧ (∀ p y, H p = some y → H1 p = some y) ∧ R1 = [(3, .mp om), (4, .vw oL 1 0 a.length), (16, vlA v), (17, avI v.length), (18, avI i)] ∧ v.length - i = mm) ?_ ?_
  · exact ⟨_, _, _, Ent.sub _ (by (repeat' (first | exact RSub.nil _ | apply RSub.cons)); all_goals rfl), 0, oL, [], Nat.zero_le _, Nat.zero_le _, hZ, hL0, hLM, by exact auto_heap, by exact AHeap.set_self _ _ _, fun p y hp => by
      have hp3 : p ≠ oL := fun e => by rw [e, hL0] at hp; cases hp
      have hp4 : p ≠ om := fun e => by rw [e, hM0] at hp; cases hp
      have hp5 : p ≠ oX := fun e => by rw [e, hoX] at hp; cases hp
      exact auto_heap, rfl, rfl⟩
  clear hZ hoL hL0 hLM oL hom
  rintro mm R1 H1 ⟨i, oL, a, hi, hai, hZ, hL0, hLM, q1, q3, hfr, rfl, rfl⟩
  have hal := bsL_len a
  by_cases hlt : i < v.length
  · have hg : v[i]? = some v[i] := List.getElem?_eq_getElem hlt
    have hd : v.drop i = v[i] :: v.drop (i + 1) := List.drop_eq_getElem_cons hlt
    rw [hd, List.filter_cons] at hZ
    generalize v[i] = x at *
    have hsx := vr_get5 hg
    have hsg := setA_get s x.name
    clear hg hd
    generalize hasB s x.name = b at *
    cases b
    · simp only [Bool.false_eq_true, if_false] at hZ
      (first | focus (refine yy95 ?_; refine aw_condp rfl (fun hc => ?_) (fun hc => ?_); refine yy10 ?_; refine yy3 ?_; refine yy75 ?_; refine yy64 ?_; refine awl_alloc rfl rfl rfl (fun oN hoN => ?_); refine yy12 ?_; refine yy31 ?_; refine yy96 ?_; refine yy18 ?_; refine yy147 ?_; refine yy82 ?_; refine yy66 ?_; refine yy36 ?_; refine yy114 ?_; refine yy9 ?_; refine yy4 ?_; rotate_left; exact absurd hc auto_no) | fail)
      exact ⟨v.length - (i + 1), _, _, by omega, Ent.tog (by (repeat' (first | exact RSub.nil _ | apply RSub.cons)); all_goals rfl) auto_sub, i + 1, oL, a, by omega, by omega, hZ, hL0, hLM, q1, q3, hfr, rfl, rfl⟩
    · simp only [if_true, List.map_cons] at hZ
      have hZ1 : Hdn ((a ++ [x.name]) ++ ((v.drop (i + 1)).filter fun v => hasB s v.name).map (·.name) = Z) := ⟨by rw [← hZ.out, List.append_assoc]; rfl⟩
      clear hZ
      (first | focus (refine yy95 ?_; refine aw_condp rfl (fun hc => ?_) (fun hc => ?_); refine yy10 ?_; refine yy3 ?_; refine yy75 ?_; refine yy64 ?_; refine awl_alloc rfl rfl rfl (fun oN hoN => ?_); refine yy12 ?_; refine yy31 ?_; refine yy96 ?_; refine yy18 ?_; refine yy147 ?_; refine yy89 ?_; refine yy36 ?_; refine yy37 ?_; refine yy18 ?_; refine yy40 ?_; refine za4 rfl rfl rfl auto_heap auto_al auto_src auto_len auto_len (fun oN hoN => ?_); refine yy44 ?_; refine yy49 ?_; refine yy36 ?_; refine yy114 ?_; refine yy9 ?_; refine yy4 ?_; rotate_left; exact absurd hc auto_no) | fail)
      have n0 : H1 oN = none := by (first | assumption | exact AHeap.none_of_set ((by assumption)) | exact AHeap.none_of_set (AHeap.none_of_set ((by assumption))) | exact AHeap.none_of_set (AHeap.none_of_set (AHeap.none_of_set ((by assumption)))) | exact AHeap.none_of_set (AHeap.none_of_set (AHeap.none_of_set (AHeap.none_of_set ((by assumption))))) | exact AHeap.none_of_set (AHeap.none_of_set (AHeap.none_of_set (AHeap.none_of_set (AHeap.none_of_set ((by assumption)))))) | exact AHeap.none_of_set (AHeap.none_of_set (AHeap.none_of_set (AHeap.none_of_set (AHeap.none_of_set (AHeap.none_of_set ((by assumption))))))) | exact AHeap.none_of_set (AHeap.none_of_set (AHeap.none_of_set (AHeap.none_of_set (AHeap.none_of_set (AHeap.none_of_set (AHeap.none_of_set ((by assumption)))))))) | exact AHeap.none_of_set (AHeap.none_of_set (AHeap.none_of_set (AHeap.none_of_set (AHeap.none_of_set (AHeap.none_of_set (AHeap.none_of_set (AHeap.none_of_set ((by assumption))))))))) | exact AHeap.none_of_set (AHeap.none_of_set (AHeap.none_of_set (AHeap.none_of_set (AHeap.none_of_set (AHeap.none_of_set (AHeap.none_of_set (AHeap.none_of_set (AHeap.none_of_set ((by assumption)))))))))) | exact AHeap.none_of_set (AHeap.none_of_set (AHeap.none_of_set (AHeap.none_of_set (AHeap.none_of_set (AHeap.none_of_set (AHeap.none_of_set (AHeap.none_of_set (AHeap.none_of_set (AHeap.none_of_set ((by assumption))))))))))))
      have n1 : oN ≠ om := fun e => by rw [e, q1] at n0; cases n0
      have n4 : H oN = none := by
        cases e : H oN with
        | none => rfl
        | some y => rw [hfr _ _ e] at n0; cases n0
      have e1 : bsL (a ++ [x.name]) = bsL a ++ [.str x.name] := by simp only [bsL, List.map_append, List.map_cons, List.map_nil]
      have hLM2 := hLM.symm
      rename_i oV hoV
      have v0 : H1 oV = none := by (first | assumption | exact AHeap.none_of_set ((by assumption)) | exact AHeap.none_of_set (AHeap.none_of_set ((by assumption))) | exact AHeap.none_of_set (AHeap.none_of_set (AHeap.none_of_set ((by assumption)))) | exact AHeap.none_of_set (AHeap.none_of_set (AHeap.none_of_set (AHeap.none_of_set ((by assumption))))) | exact AHeap.none_of_set (AHeap.none_of_set (AHeap.none_of_set (AHeap.none_of_set (AHeap.none_of_set ((by assumption)))))) | exact AHeap.none_of_set (AHeap.none_of_set (AHeap.none_of_set (AHeap.none_of_set (AHeap.none_of_set (AHeap.none_of_set ((by assumption))))))) | exact AHeap.none_of_set (AHeap.none_of_set (AHeap.none_of_set (AHeap.none_of_set (AHeap.none_of_set (AHeap.none_of_set (AHeap.none_of_set ((by assumption)))))))) | exact AHeap.none_of_set (AHeap.none_of_set (AHeap.none_of_set (AHeap.none_of_set (AHeap.none_of_set (AHeap.none_of_set (AHeap.none_of_set (AHeap.none_of_set ((by assumption))))))))) | exact AHeap.none_of_set (AHeap.none_of_set (AHeap.none_of_set (AHeap.none_of_set (AHeap.none_of_set (AHeap.none_of_set (AHeap.none_of_set (AHeap.none_of_set (AHeap.none_of_set ((by assumption)))))))))) | exact AHeap.none_of_set (AHeap.none_of_set (AHeap.none_of_set (AHeap.none_of_set (AHeap.none_of_set (AHeap.none_of_set (AHeap.none_of_set (AHeap.none_of_set (AHeap.none_of_set (AHeap.none_of_set ((by assumption))))))))))))
      have v1 : om ≠ oV := fun e => by rw [← e, q1] at v0; cases v0
      have v4 : H oV = none := by
        cases e : H oV with
        | none => rfl
        | some y => rw [hfr _ _ e] at v0; cases v0
      exact ⟨v.length - (i + 1), [(3, .mp om), (4, .vw oN 1 0 (a ++ [x.name]).length), (16, vlA v), (17, avI v.length), (18, avI (i + 1 : Nat))], _, by omega, Ent.sub _ (by rw [List.length_append]; (repeat' (first | exact RSub.nil _ | apply RSub.cons)); all_goals rfl), i + 1, oN, a ++ [x.name], by omega, by rw [List.length_append, List.length_singleton]; omega, hZ1, n4, n1, by exact auto_heap, by rw [e1]; exact AHeap.set_self _ _ _, fun p y hp => by
        have hp2 := hfr p y hp
        have hp3 : p ≠ oN := fun e => by rw [e, n4] at hp; cases hp
        have hp4 : p ≠ oL := fun e => by rw [e, hL0] at hp; cases hp
        have hp5 : p ≠ oV := fun e => by rw [e, v4] at hp; cases hp
        exact auto_heap, rfl, rfl⟩
  · obtain rfl : i = v.length := by omega
    have hZ2 : a = Z := by rw [← hZ.out, List.drop_length]; simp
    subst hZ2
    clear hZ
    (first | focus (refine yy95 ?_; refine yy19 ?_; intro hc; refine yy124 ?_; refine yy44 ?_; refine yy113 ?_; rotate_left) | fail)
    exact ⟨.inl rfl, _, _, _, (Ent.seal_cel (i := 2) (o := oL) (xs := bsL a) rfl auto_heap hal).trans (Ent.gc (fun p y hp => by
      have hp2 := hfr p y hp
      have hp3 : p ≠ oL := fun e => by rw [e, hL0] at hp; cases hp
      exact auto_heap)), ret1 rfl rfl, rfl, rfl⟩
end Go.Proofs.Ytmgkhfnhaeplgaa

namespace Go.Proofs.Ytmgkhfnhaeplgaa
open Go Go.Am Go.Proofs
set_option linter.unusedSimpArgs false
set_option linter.unusedVariables false
set_option maxRecDepth 20000
set_option maxHeartbeats 8000000

/-! The program: told, part, wrong. -/
theorem IndexFuncV_calls (H : AHeap) (f : FuncId) [hF : FuncT Try.prog f] (x : AV) (l : List Vr) (p : Vr → Bool) (hl : l.length ≤ 2000000) (hp : ∀ v ∈ l, ACalls Try.prog f [.agg v.cells, x] H fun r H' => r = avB (p v) ∧ H' = H) :
    ACalls Try.prog 71 [vlA l, .fnc (.func f) [] [x]] H fun r H' => r = avI (idxF p l 0) ∧ H' = H := by
  have hml := vr_len l
  generalize hZ : idxF p l 0 = Z
  replace hZ := Hdn.mk hZ
  refine acalls_of_aw2 Try.func71 rfl (by decide) ?_
  (first | focus (refine yy11 ?_; refine yy73 ?_; refine yy46 ?_; refine yy120 ?_; refine yy9 ?_; refine yy149 ?_; rotate_left) | fail)
  refine aw_loop (fun mm R1 H1 => ∃ (i : Nat), i ≤ l.length ∧ Hdn (idxF p (l.drop i) i = Z) ∧ H1 = H ∧ R1 = [(0, vlA l), (1, .fnc (.func f) [] [x]), (7, avI l.length), (8, avI i)] ∧ l.length - i = mm) ?_ ?_
  · exact ⟨_, _, _, Ent.sub _ (by (repeat' (first | exact RSub.nil _ | apply RSub.cons)); all_goals rfl), 0, Nat.zero_le _, hZ, rfl, rfl, rfl⟩
  clear hZ
  rintro mm R1 H1 ⟨i, hi, hZ, rfl, rfl, rfl⟩
  by_cases hlt : i < l.length
  · have hg : l[i]? = some l[i] := List.getElem?_eq_getElem hlt
    have hd : l.drop i = l[i] :: l.drop (i + 1) := List.drop_eq_getElem_cons hlt
    have cp := hp _ (List.getElem_mem hlt)
    rw [hd, idxF] at hZ
    generalize l[i] = k at *
    have hseg := vr_get hg
    generalize p k = b at *
    clear hg hd hp
    cases b
    · rw [if_neg (by decide)] at hZ
      (first | focus (refine yy95 ?_; refine aw_condp rfl (fun hc => ?_) (fun hc => ?_); refine yy10 ?_; refine yy15 ?_; refine yy5 ?_; refine yy3 ?_; refine awl_s rfl (s_move (v := .fnc _ _ _) rfl) ?_; refine yy46 ?_; refine yy33 ?_; refine yy64 ?_; (((refine awl_callcvf rfl rfl auto_wl (cp) (fun r H' hpost => ?_); obtain ⟨rfl, rfl⟩ := hpost))); refine yy82 ?_; refine yy66 ?_; refine yy36 ?_; refine yy114 ?_; refine yy9 ?_; refine yy4 ?_; rotate_left; exact absurd hc auto_no) | fail)
      exact ⟨l.length - (i + 1), _, _, by omega, Ent.sub _ (by (repeat' (first | exact RSub.nil _ | apply RSub.cons)); all_goals rfl), i + 1, by omega, hZ, rfl, rfl, rfl⟩
    · rw [if_pos rfl] at hZ
      obtain rfl : Z = (i : Int) := hZ.out.symm
      (first | focus (refine yy95 ?_; refine aw_condp rfl (fun hc => ?_) (fun hc => ?_); refine yy10 ?_; refine yy15 ?_; refine yy5 ?_; refine yy3 ?_; refine awl_s rfl (s_move (v := .fnc _ _ _) rfl) ?_; refine yy46 ?_; refine yy33 ?_; refine yy64 ?_; (((refine awl_callcvf rfl rfl auto_wl (cp) (fun r H' hpost => ?_); obtain ⟨rfl, rfl⟩ := hpost))); refine yy89 ?_; refine yy15 ?_; refine yy5 ?_; refine yy121 ?_; refine yy90 ?_; rotate_left; exact absurd hc auto_no) | fail)
      exact ⟨.inl rfl, _, _, _, Ent.refl _ _, ret1 rfl rfl, rfl, rfl⟩
  · obtain rfl : i = l.length := by omega
    have hZ2 := hZ.out
    rw [List.drop_length, idxF] at hZ2
    subst hZ2
    (first | focus (refine yy95 ?_; refine yy19 ?_; intro hc; refine yy11 ?_; refine aw_ret ?_; rotate_left) | fail)
    exact ⟨.inl rfl, _, _, _, Ent.refl _ _, ret1 rfl rfl, rfl, rfl⟩
theorem ContainsFuncV_calls (H : AHeap) (f : FuncId) [hF : FuncT Try.prog f] (x : AV) (l : List Vr) (p : Vr → Bool) (hl : l.length ≤ 2000000) (hp : ∀ v ∈ l, ACalls Try.prog f [.agg v.cells, x] H fun r H' => r = avB (p v) ∧ H' = H) :
    ACalls Try.prog 53 [vlA l, .fnc (.func f) [] [x]] H fun r H' => r = avB (l.any p) ∧ H' = H := by
  have ci := IndexFuncV_calls H f x l p hl hp
  have hz := idxF_any p l 0
  generalize idxF p l 0 = z at *
  rw [← hz]
  clear hp hz
  refine acalls_of_aw2 Try.func53 rfl (by decide) ?_
  (first | focus (refine yy11 ?_; refine yy76 ?_; refine awl_s rfl (s_move (v := .fnc _ _ _) rfl) ?_; (refine zc auto_wl (ci) ?_; rintro r H' ⟨rfl, rfl⟩); refine awl_s rfl (s_geq rfl rfl) ?_; refine yy97 ?_; rotate_left) | fail)
  exact ⟨.inl rfl, _, _, _, Ent.refl _ _, ret1 rfl rfl, rfl, rfl⟩
theorem told1_calls (H : AHeap) (v : Vr) (s : Bs) : ACalls Try.prog 54 [.agg v.cells, .pce [.str s] 0] H fun r H' => r = avB (decide (v.name = s)) ∧ H' = H := by
  refine acalls_of_aw2 Try.func54 rfl (by decide) ?_
  (first | focus (refine yy3 ?_; refine zb1 rfl rfl rfl (fun oN hoN => ?_); refine yy5 ?_; refine yy13 ?_; refine yy47 ?_; refine yy156 ?_; refine aw_ret ?_; rotate_left) | fail)
  exact ⟨.inl rfl, _, _, _, Ent.gc auto_sub, ret1 rfl rfl, rfl, rfl⟩
theorem told2_calls (H : AHeap) (v : Vr) (s : Bs) : ACalls Try.prog 55 [.agg v.cells, .pce [.str s] 0] H fun r H' => r = avB (decide (v.on = s)) ∧ H' = H := by
  refine acalls_of_aw2 Try.func55 rfl (by decide) ?_
  (first | focus (refine yy3 ?_; refine zb1 rfl rfl rfl (fun oN hoN => ?_); refine yy5 ?_; refine yy13 ?_; refine yy47 ?_; refine yy156 ?_; refine aw_ret ?_; rotate_left) | fail)
  exact ⟨.inl rfl, _, _, _, Ent.gc auto_sub, ret1 rfl rfl, rfl, rfl⟩
theorem told_calls (H : AHeap) (n : Nd) (s : Bs) (hn : NdOk n) : ACalls Try.prog 30 [.agg n.cells, .str s] H fun r H' => r = avB (toldB n s) ∧ H' = H := by
  have c1 := fun H => ContainsFuncV_calls H 54 (.pce [.str s] 0) n.outs (fun v => decide (v.name = s)) hn.o (fun v _ => told1_calls H v s)
  have c2 := fun H => ContainsFuncV_calls H 55 (.pce [.str s] 0) n.locs (fun v => decide (v.on = s)) hn.l (fun v _ => told2_calls H v s)
  unfold toldB
  generalize (n.outs.any fun v => decide (v.name = s)) = b1 at *
  generalize (n.locs.any fun v => decide (v.on = s)) = b2 at *
  have hn0 : n.cells = [.str n.name, .sls n.ins.length (vrL n.ins), .sls n.outs.length (vrL n.outs), .sls n.locs.length (vrL n.locs), .sls n.eqs.length (eqL n.eqs), avI n.at_] := rfl
  rw [hn0] at *
  refine acalls_of_aw2 Try.func30 rfl (by decide) ?_
  cases b1
  · (first | focus (refine yy3 ?_; refine awl_box_1 rfl rfl rfl rfl ?_; refine awl_box_1 rfl rfl rfl rfl ?_; refine yy5 ?_; refine yy3 ?_; refine yy91 ?_; refine awl_s rfl (s_makeFunc rfl rfl) ?_; (refine zc auto_wl (c1 _) ?_; rintro r H' ⟨rfl, rfl⟩); refine yy17 ?_; refine awl_s rfl (s_fieldAddr_pce rfl) ?_; refine yy6 ?_; refine yy47 ?_; refine yy6 ?_; refine awl_s rfl (s_makeFunc rfl rfl) ?_; refine yy6 ?_; (refine zc auto_wl (c2 _) ?_; rintro r H' ⟨rfl, rfl⟩); refine yy45 ?_; refine yy97 ?_; rotate_left) | fail)
    exact ⟨.inl rfl, _, _, _, Ent.gc auto_sub, ret1 rfl rfl, rfl, rfl⟩
  · (first | focus (refine yy3 ?_; refine awl_box_1 rfl rfl rfl rfl ?_; refine awl_box_1 rfl rfl rfl rfl ?_; refine yy5 ?_; refine yy3 ?_; refine yy91 ?_; refine awl_s rfl (s_makeFunc rfl rfl) ?_; (refine zc auto_wl (c1 _) ?_; rintro r H' ⟨rfl, rfl⟩); refine yy9 ?_; refine yy54 ?_; refine yy52 ?_; refine yy97 ?_; rotate_left) | fail)
    exact ⟨.inl rfl, _, _, _, Ent.gc auto_sub, ret1 rfl rfl, rfl, rfl⟩
theorem ppart_calls {om : Nat} (l : List Bs) (e : Ex) (H : AHeap) (hb : exSz e ≤ 2000000) (hH : H om = some (setA l).ao) :
    ACalls Try.prog 52 [.mp om, exA e] H fun r H' => r = avB (partB (hasB l) e.op e.name e.kids) ∧ H' = H := by
  obtain ⟨op, nm, nn, at_, ks⟩ := e
  rw [exSz_eq] at hb
  simp only [Ex.kids, Ex.op, Ex.name, Ex.n, Ex.at_] at *
  show ACalls Try.prog _ [.mp om, .agg [.str op, .str nm, avI nn, avI at_, .sls ks.length (exL ks)]] H _
  have hml := exL_len ks
  have hkl : ks.length ≤ exSzL ks := by
    clear hml hb
    induction ks with
    | nil => exact Nat.zero_le _
    | cons x l ih => rw [exSzL, List.length_cons]; have := exSz_eq x; omega
  have hsg := setA_get l nm
  have ca := fun (H2 : AHeap) (h2 : H2 om = some (setA l).ao) => any_calls H2 ks (lateE (hasB l)) (by omega) (fun e he => plate_calls l _ e H2 (Nat.le_refl _) (by have := exSz_mem he; omega) h2)
  have c0 : ∀ k kr, ks = k :: kr → ∀ (H2 : AHeap), H2 om = some (setA l).ao → ACalls Try.prog 37 [.mp om, exA k] H2 fun r H' => r = avB (lateE (hasB l) k) ∧ H' = H2 := fun k kr e H2 h2 => plate_calls l _ k H2 (Nat.le_refl _) (by have := exSz_mem (l := ks) (e := k) (by rw [e]; exact List.mem_cons_self); omega) h2
  rw [← lateL_any] at ca
  generalize hX : partB (hasB l) op nm ks = X
  unfold partB at hX
  refine acalls_of_aw2 Try.func52 rfl (by decide) ?_
  by_cases g1 : op = ([112, 114, 101] : Bs) ∨ op = ([102, 98, 121] : Bs) ∨ op = ([99, 97, 108, 108] : Bs)
  · rw [if_pos g1] at hX
    rw [hX] at ca
    clear hX
    rcases g1 with rfl | rfl | rfl
    all_goals (
      (first | focus (refine yy3 ?_; refine zb1 rfl rfl rfl (fun oN hoN => ?_); refine yy71 ?_; refine yy65 ?_; refine aw_condp rfl (fun hc => ?_) (fun hc => ?_); refine yy25 ?_; refine aw_condp rfl (fun hc => ?_) (fun hc => ?_); refine yy3 ?_; refine yy96 ?_; refine yy18 ?_; (refine zc auto_wl (ca _ auto_heap) ?_; rintro r H' ⟨rfl, rfl⟩); refine yy5 ?_; refine yy121 ?_; rotate_left; exact absurd hc auto_no; exact absurd hc auto_no) | focus (refine yy3 ?_; refine zb1 rfl rfl rfl (fun oN hoN => ?_); refine yy71 ?_; refine yy65 ?_; refine yy1 ?_; intro hc; refine aw_condp rfl (fun hc => ?_) (fun hc => ?_); refine yy25 ?_; refine aw_condp rfl (fun hc => ?_) (fun hc => ?_); refine yy3 ?_; refine yy96 ?_; refine yy18 ?_; (refine zc auto_wl (ca _ auto_heap) ?_; rintro r H' ⟨rfl, rfl⟩); refine yy5 ?_; refine yy121 ?_; rotate_left; exact absurd hc auto_no; exact absurd hc auto_no) | focus (refine yy3 ?_; refine zb1 rfl rfl rfl (fun oN hoN => ?_); refine yy71 ?_; refine yy65 ?_; refine yy1 ?_; intro hc; refine yy29 ?_; intro hc; refine aw_condp rfl (fun hc => ?_) (fun hc => ?_); refine yy3 ?_; refine yy96 ?_; refine yy18 ?_; (refine zc auto_wl (ca _ auto_heap) ?_; rintro r H' ⟨rfl, rfl⟩); refine yy5 ?_; refine yy121 ?_; rotate_left; exact absurd hc auto_no) | fail)
      exact ⟨.inl rfl, _, _, _, Ent.gc auto_sub, ret1 rfl rfl, rfl, rfl⟩)
  rw [if_neg g1] at hX
  simp only [not_or] at g1
  obtain ⟨d1, d2, d3⟩ := g1
  replace d1 := Hdq.mk d1
  replace d2 := Hdq.mk d2
  replace d3 := Hdq.mk d3
  by_cases g2 : op = ([45, 62] : Bs)
  · rw [if_pos g2] at hX
    subst g2
    cases ks with
    | nil =>
      simp only at hX
      subst hX
      (first | focus (refine yy3 ?_; refine zb1 rfl rfl rfl (fun oN hoN => ?_); refine yy71 ?_; refine yy65 ?_; refine yy14 ?_; intro hc; refine yy20 ?_; intro hc; refine yy106 ?_; refine yy14 ?_; intro hc; refine aw_condp rfl (fun hc => ?_) (fun hc => ?_); refine yy13 ?_; refine yy120 ?_; refine yy131 ?_; refine yy9 ?_; refine zg1 rfl rfl rfl (fun hc => ?_) (fun hc => ?_); exact absurd hc auto_no; refine yy54 ?_; refine yy50 ?_; refine yy5 ?_; refine yy121 ?_; rotate_left; exact absurd hc auto_no) | fail)
      exact ⟨.inl rfl, _, _, _, Ent.gc auto_sub, ret1 rfl rfl, rfl, rfl⟩
    | cons k kr =>
      simp only at hX
      have c1 := c0 k kr rfl
      rw [hX] at c1
      have hseg := exL_get (l := k :: kr) (i := 0) (e := k) rfl
      simp only [List.length_cons] at *
      clear hX c0
      (first | focus (refine yy3 ?_; refine zb1 rfl rfl rfl (fun oN hoN => ?_); refine yy71 ?_; refine yy65 ?_; refine yy14 ?_; intro hc; refine yy20 ?_; intro hc; refine yy106 ?_; refine yy14 ?_; intro hc; refine aw_condp rfl (fun hc => ?_) (fun hc => ?_); refine yy13 ?_; refine yy120 ?_; refine yy131 ?_; refine yy9 ?_; refine zg1 rfl rfl rfl (fun hc => ?_) (fun hc => ?_); refine yy96 ?_; refine yy6 ?_; refine yy88 ?_; refine yy127 ?_; refine yy64 ?_; refine yy6 ?_; (refine zc auto_wl (c1 _ auto_heap) ?_; rintro r H' ⟨rfl, rfl⟩); refine yy52 ?_; refine yy5 ?_; refine yy121 ?_; rotate_left; exact absurd hc auto_no; exact absurd hc auto_no) | fail)
      exact ⟨.inl rfl, _, _, _, Ent.gc auto_sub, ret1 rfl rfl, rfl, rfl⟩
  rw [if_neg g2] at hX
  replace g2 := Hdq.mk g2
  by_cases g3 : op = ([119, 104, 101, 110] : Bs)
  · rw [if_pos g3] at hX
    subst g3
    rw [hX] at hsg
    clear hX
    (first | focus (refine yy3 ?_; refine zb1 rfl rfl rfl (fun oN hoN => ?_); refine yy71 ?_; refine yy65 ?_; refine yy14 ?_; intro hc; refine yy20 ?_; intro hc; refine yy106 ?_; refine yy14 ?_; intro hc; refine yy14 ?_; intro hc; refine aw_condp rfl (fun hc => ?_) (fun hc => ?_); refine yy3 ?_; refine yy96 ?_; refine yy18 ?_; refine yy147 ?_; refine yy5 ?_; refine yy121 ?_; rotate_left; exact absurd hc auto_no) | fail)
    exact ⟨.inl rfl, _, _, _, Ent.gc auto_sub, ret1 rfl rfl, rfl, rfl⟩
  rw [if_neg g3] at hX
  replace g3 := Hdq.mk g3
  by_cases g4 : op = ([109, 101, 114, 103, 101] : Bs)
  · rw [if_pos g4] at hX
    subst g4
    generalize hasB l nm = b1 at *
    cases b1
    · rw [Bool.false_or] at hX
      rw [hX] at ca
      clear hX
      (first | focus (refine yy3 ?_; refine zb1 rfl rfl rfl (fun oN hoN => ?_); refine yy71 ?_; refine yy65 ?_; refine yy14 ?_; intro hc; refine yy20 ?_; intro hc; refine yy106 ?_; refine yy14 ?_; intro hc; refine yy14 ?_; intro hc; refine yy14 ?_; intro hc; refine aw_condp rfl (fun hc => ?_) (fun hc => ?_); refine yy3 ?_; refine yy96 ?_; refine yy18 ?_; refine yy147 ?_; refine yy17 ?_; refine yy96 ?_; refine yy6 ?_; refine yy88 ?_; (refine zc auto_wl (ca _ auto_heap) ?_; rintro r H' ⟨rfl, rfl⟩); refine yy45 ?_; refine yy5 ?_; refine yy121 ?_; rotate_left; exact absurd hc auto_no) | fail)
      exact ⟨.inl rfl, _, _, _, Ent.gc auto_sub, ret1 rfl rfl, rfl, rfl⟩
    · rw [Bool.true_or] at hX
      subst hX
      (first | focus (refine yy3 ?_; refine zb1 rfl rfl rfl (fun oN hoN => ?_); refine yy71 ?_; refine yy65 ?_; refine yy14 ?_; intro hc; refine yy20 ?_; intro hc; refine yy106 ?_; refine yy14 ?_; intro hc; refine yy14 ?_; intro hc; refine yy14 ?_; intro hc; refine aw_condp rfl (fun hc => ?_) (fun hc => ?_); refine yy3 ?_; refine yy96 ?_; refine yy18 ?_; refine yy147 ?_; refine yy9 ?_; refine yy54 ?_; refine yy52 ?_; refine yy5 ?_; refine yy121 ?_; rotate_left; exact absurd hc auto_no) | fail)
      exact ⟨.inl rfl, _, _, _, Ent.gc auto_sub, ret1 rfl rfl, rfl, rfl⟩
  rw [if_neg g4] at hX
  replace g4 := Hdq.mk g4
  subst hX
  (first | focus (refine yy3 ?_; refine zb1 rfl rfl rfl (fun oN hoN => ?_); refine yy71 ?_; refine yy65 ?_; refine yy14 ?_; intro hc; refine yy20 ?_; intro hc; refine yy106 ?_; refine yy14 ?_; intro hc; refine yy14 ?_; intro hc; refine yy14 ?_; intro hc; refine yy20 ?_; intro hc; refine aw_skip ?_; refine yy66 ?_; refine yy11 ?_; refine aw_ret ?_; rotate_left) | fail)
  exact ⟨.inl rfl, _, _, _, Ent.gc auto_sub, ret1 rfl rfl, rfl, rfl⟩
theorem wrongL_at (p : Bs → Bool) {ks : List Ex} {i : Nat} {k : Ex} (h : ks[i]? = some k) : wrongL p (ks.drop i) = match wrongE p k with | some a => some a | none => wrongL p (ks.drop (i + 1)) := by
  have hlt := (List.getElem?_eq_some_iff.1 h).1
  rw [List.drop_eq_getElem_cons hlt, (List.getElem?_eq_some_iff.1 h).2, wrongL]
  cases wrongE p k <;> rfl
def wrongA (x : Option Nat) (a : Nat) : AV := .tup [avI (x.getD a), avB x.isSome]
theorem wrong_calls {om : Nat} (l : List Bs) (m : Nat) : ∀ (e : Ex) (H : AHeap), exSz e ≤ m → exSz e ≤ 2000000 → H om = some (setA l).ao →
    ACalls Try.prog 29 [.mp om, exA e] H fun r H' => r = wrongA (wrongE (hasB l) e) e.at_ ∧ H' = H := by
  induction m with
  | zero => intro e H h; rw [exSz_eq] at h; omega
  | succ m ih =>
    intro e H h hb hH
    have cp := fun H2 h2 => ppart_calls (om := om) l e H2 hb h2
    obtain ⟨op, nm, nn, at_, ks⟩ := e
    rw [exSz_eq] at h hb
    unfold wrongE
    simp only [Ex.kids, Ex.op, Ex.name, Ex.n, Ex.at_] at *
    show ACalls Try.prog _ [.mp om, .agg [.str op, .str nm, avI nn, avI at_, .sls ks.length (exL ks)]] H _
    simp only [exA, Ex.cells, Ex.kids, Ex.op, Ex.name, Ex.n, Ex.at_] at cp
    have hml := exL_len ks
    have hkl : ks.length ≤ exSzL ks := by
      clear hml h hb cp
      induction ks with
      | nil => exact Nat.zero_le _
      | cons x l ih => rw [exSzL, List.length_cons]; have := exSz_eq x; omega
    generalize partB (hasB l) op nm ks = pb at *
    generalize hZ : wrongL (hasB l) ks = Z
    replace hZ := Hdn.mk hZ
    refine acalls_of_aw2 Try.func29 rfl (by decide) ?_
    (first | focus (refine yy3 ?_; refine zb1 rfl rfl rfl (fun oN hoN => ?_); refine yy23 ?_; refine yy71 ?_; refine yy120 ?_; refine yy9 ?_; refine yy149 ?_; rotate_left) | fail)
    obtain ⟨oE, hoEe⟩ : ∃ x, x = oN := ⟨_, rfl⟩
    subst hoEe
    have hE0 : H oE = none := hoN
    have hEm : oE ≠ om := fun e => by rw [e, hH] at hE0; cases hE0
    refine aw_loop (fun mm R1 H1 => ∃ (i : Nat), i ≤ ks.length ∧ Hdn (wrongL (hasB l) (ks.drop i) = Z) ∧ H1 = H.set oE (.cel [.str op, .str nm, avI nn, avI at_, .sls ks.length (exL ks)]) ∧ R1 = [(0, .mp om), (3, .ptr oE 0), (11, .sls ks.length (exL ks)), (12, avI ks.length), (13, avI i)] ∧ ks.length - i = mm) ?_ ?_
    · exact ⟨_, _, _, Ent.sub _ (by (repeat' (first | exact RSub.nil _ | apply RSub.cons)); all_goals rfl), 0, Nat.zero_le _, hZ, rfl, rfl, rfl⟩
    clear hZ hoN
    rintro mm R1 H1 ⟨i, hi, hZ, rfl, rfl, rfl⟩
    by_cases hlt : i < ks.length
    · have hg : ks[i]? = some ks[i] := List.getElem?_eq_getElem hlt
      have hseg := exL_get hg
      have hmem := exSz_mem (List.getElem_mem hlt)
      rw [wrongL_at (hasB l) hg] at hZ
      generalize ks[i] = k at *
      have cb : ∀ H2 : AHeap, H2 om = some (setA l).ao → ACalls Try.prog 29 [.mp om, exA k] H2 fun r H' => r = wrongA (wrongE (hasB l) k) k.at_ ∧ H' = H2 := fun H2 h2 => ih k H2 (by omega) (by omega) h2
      generalize wrongE (hasB l) k = wk at *
      clear ih hg hmem cp
      unfold wrongA at cb
      cases wk with
      | none =>
        simp only [Option.getD_none, Option.isSome_none] at hZ cb
        (first | focus (refine yy95 ?_; refine aw_condp rfl (fun hc => ?_) (fun hc => ?_); refine yy10 ?_; refine yy3 ?_; refine yy75 ?_; refine yy64 ?_; refine awl_alloc rfl rfl rfl (fun oN hoN => ?_); refine yy12 ?_; refine yy31 ?_; refine yy96 ?_; refine yy28 ?_; (refine zc auto_wl (cb _ auto_heap) ?_; rintro r H' ⟨rfl, rfl⟩); refine yy79 ?_; refine yy23 ?_; refine yy5 ?_; refine yy15 ?_; refine yy82 ?_; refine yy66 ?_; refine yy36 ?_; refine yy114 ?_; refine yy9 ?_; refine yy4 ?_; rotate_left; exact absurd hc auto_no) | fail)
        exact ⟨ks.length - (i + 1), _, _, by omega, Ent.tog (by (repeat' (first | exact RSub.nil _ | apply RSub.cons)); all_goals rfl) auto_sub, i + 1, by omega, hZ, rfl, rfl, rfl⟩
      | some a =>
        simp only [Option.getD_some, Option.isSome_some] at hZ cb
        obtain rfl : Z = some a := hZ.out.symm
        (first | focus (refine yy95 ?_; refine aw_condp rfl (fun hc => ?_) (fun hc => ?_); refine yy10 ?_; refine yy3 ?_; refine yy75 ?_; refine yy64 ?_; refine awl_alloc rfl rfl rfl (fun oN hoN => ?_); refine yy12 ?_; refine yy31 ?_; refine yy96 ?_; refine yy28 ?_; (refine zc auto_wl (cb _ auto_heap) ?_; rintro r H' ⟨rfl, rfl⟩); refine yy79 ?_; refine yy23 ?_; refine yy5 ?_; refine yy15 ?_; refine yy89 ?_; refine yy15 ?_; refine yy23 ?_; refine yy5 ?_; refine yy121 ?_; refine yy90 ?_; rotate_left; exact absurd hc auto_no) | fail)
        exact ⟨.inl rfl, _, _, _, Ent.gc auto_sub, ret_2 rfl (rv1_tmp rfl) (rv1_tmp rfl), rfl, rfl⟩
    · obtain rfl : i = ks.length := by omega
      obtain rfl : Z = none := by rw [← hZ.out, List.drop_length, wrongL]
      clear hZ ih
      cases pb
      · (first | focus (refine yy95 ?_; refine yy19 ?_; intro hc; refine yy67 ?_; (apply awt_s; · exact s_fieldAddr_ptr rfl); (apply awt_s; · exact s_load_cel rfl auto_heap rfl); (apply awt_s; · exact s_move (v := .mp _) rfl); (apply awt_s; · exact s_load_agg rfl auto_heap rfl rfl (by first | decide | exact Nat.le_of_ble_eq_true rfl)); (apply awt_s; · exact s_callc auto_wl (cp _ auto_heap)); (apply awt_s; · exact s_assign (v := .raw _) rfl); (apply awt_s; · exact s_assign (v := .raw _) rfl); refine yy69 ?_; refine aw_ret ?_; rotate_left) | fail)
        exact ⟨.inl rfl, _, _, _, Ent.gc auto_sub, ret_2 rfl (rv1_tmp rfl) (rv1_tmp rfl), rfl, rfl⟩
      · (first | focus (refine yy95 ?_; refine yy19 ?_; intro hc; refine yy67 ?_; (apply awt_s; · exact s_fieldAddr_ptr rfl); (apply awt_s; · exact s_load_cel rfl auto_heap rfl); (apply awt_s; · exact s_move (v := .mp _) rfl); (apply awt_s; · exact s_load_agg rfl auto_heap rfl rfl (by first | decide | exact Nat.le_of_ble_eq_true rfl)); (apply awt_s; · exact s_callc auto_wl (cp _ auto_heap)); (apply awt_s; · exact s_assign (v := .raw _) rfl); (apply awt_s; · exact s_assign (v := .raw _) rfl); refine yy69 ?_; refine aw_ret ?_; rotate_left) | fail)
        exact ⟨.inl rfl, _, _, _, Ent.gc auto_sub, ret_2 rfl (rv1_tmp rfl) (rv1_tmp rfl), rfl, rfl⟩
end Go.Proofs.Ytmgkhfnhaeplgaa
