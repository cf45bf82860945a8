import Derived.Test.YtmgkhfnhaeplgaaIz
import Derived.Test.YtmgkhfnhaeplgaaIa2
namespace Go.Proofs.Ytmgkhfnhaeplgaa
open Go Go.Am Go.Proofs
set_option linter.unusedSimpArgs false
set_option linter.unusedVariables false
set_option maxRecDepth 20000
set_option maxHeartbeats 8000000
/-! The reference's small functions. -/
abbrev bsL (l : List Bs) : List AV := l.map AV.str
theorem bsL_len (l : List Bs) : (bsL l).length = l.length * 1 := by rw [List.length_map, Nat.mul_one]
theorem Bad_calls (H : AHeap) (e a : Int) : ACalls Try.prog 12 [.agg [avI e, avI a]] H fun r H' => r = .agg [avI e, avI a] ∧ H' = H := by
  refine acalls_of_aw1 Try.func12 rfl (by decide) ?_
  (first | focus (refine yy2 ?_; refine zb1 rfl rfl rfl (fun oN hoN => ?_); refine awl_alloc rfl rfl rfl (fun oN hoN => ?_); refine yy16 ?_; refine yy10 ?_; refine yy10 ?_; refine yy20 ?_; refine yy11 ?_; refine yy108 ?_; rotate_left) | fail)
  exact ⟨.inl rfl, _, _, _, Ent.cellRet 2 [avI e, avI a] rfl auto_heap (by ((repeat' (first | exact WC.nil | apply WC.cons)); all_goals (first | exact W.of rfl | exact W.int rfl | exact W.nilb rfl | exact W.empb rfl | exact W.bysx rfl | exact W.nils rfl | exact W.emps rfl | exact W.slsx rfl))) auto_hs, ret_1 rfl (rv1_agg (m := 2) rfl rfl rfl (by decide)), rfl, rfl⟩
theorem has_calls (H : AHeap) (l : List Bs) (s : Bs) (hl : l.length ≤ 8000000) : ACalls Try.prog 32 [.sls l.length (bsL l), .str s] H fun r H' => r = avB (hasB l s) ∧ H' = H := by
  have hml := bsL_len l
  refine acalls_of_aw2 Try.func32 rfl (by decide) ?_
  generalize hZ : hasB l s = Z
  (first | focus (refine yy15 ?_; refine yy38 ?_; refine yy71 ?_; rotate_left) | fail)
  refine aw_loop (fun mm R1 H1 => ∃ (i : Nat), i ≤ l.length ∧ hasB (l.drop i) s = Z ∧ H1 = H ∧ R1 = [(0, .sls l.length (bsL l)), (1, .str s), (5, avI i)] ∧ l.length - i = mm) ?_ ?_
  · exact ⟨_, _, _, Ent.sub _ (by (repeat' (first | exact RSub.nil _ | apply RSub.cons)); all_goals rfl), 0, Nat.zero_le _, hZ, rfl, rfl, rfl⟩
  clear hZ
  rintro mm R1 H1 ⟨i, hi, hZ, rfl, rfl, rfl⟩
  by_cases hlt : i < l.length
  · have hg : l[i]? = some l[i] := List.getElem?_eq_getElem hlt
    have hd : l.drop i = l[i] :: l.drop (i + 1) := List.drop_eq_getElem_cons hlt
    rw [hd] at hZ
    generalize l[i] = v at *
    simp only [hasB, List.any_cons] at hZ
    clear hd
    by_cases hv : v = s
    · subst hv
      simp only [decide_true, Bool.true_or] at hZ
      subst hZ
      (first | focus (refine yy45 ?_; refine aw_condp rfl (fun hc => ?_) (fun hc => ?_); refine yy13 ?_; refine yy76 ?_; refine yy47 ?_; refine yy43 ?_; refine yy111 ?_; refine yy4 ?_; refine aw_condp rfl (fun hc => ?_) (fun hc => ?_); refine yy92 ?_; refine yy33 ?_; refine yy102 ?_; rotate_left; exact absurd hc auto_no; exact absurd hc auto_no) | fail)
      all_goals exact ⟨.inl rfl, _, _, _, Ent.refl _ _, ret1 rfl rfl, rfl, rfl⟩
    · simp only [hv, decide_false, Bool.false_or] at hZ
      replace hv := Hdq.mk hv
      (first | focus (refine yy45 ?_; refine aw_condp rfl (fun hc => ?_) (fun hc => ?_); refine yy13 ?_; refine yy76 ?_; refine yy47 ?_; refine yy43 ?_; refine yy111 ?_; refine yy4 ?_; refine yy30 ?_; intro hc; refine yy39 ?_; refine yy22 ?_; rotate_left; exact absurd hc auto_no) | fail)
      all_goals exact ⟨l.length - (i + 1), _, _, by omega, Ent.sub _ (by (repeat' (first | exact RSub.nil _ | apply RSub.cons)); all_goals rfl), i + 1, by omega, hZ, rfl, rfl, rfl⟩
  · obtain rfl : i = l.length := by omega
    rw [List.drop_length] at hZ
    subst hZ
    (first | focus (refine yy45 ?_; refine yy34 ?_; intro hc; refine yy92 ?_; rotate_left) | fail)
    exact ⟨.inl rfl, _, _, _, Ent.refl _ _, ret1 rfl rfl, rfl, rfl⟩
theorem Texts_calls (H : AHeap) (a b : List Bs) (ha : a.length ≤ 2000000) (hb : b.length ≤ 2000000) : ACalls Try.prog 15 [.sls a.length (bsL a), .sls b.length (bsL b)] H fun r H' => r = avB (decide (a = b)) ∧ H' = H := by
  have hma := bsL_len a
  have hmb := bsL_len b
  refine acalls_of_aw2 Try.func15 rfl (by decide) ?_
  by_cases hab : a.length = b.length
  · (first | focus (refine yy15 ?_; refine yy38 ?_; refine yy27 ?_; refine yy115 ?_; refine yy27 ?_; refine yy115 ?_; refine yy110 ?_; refine yy60 ?_; intro hc; refine yy38 ?_; refine yy71 ?_; rotate_left) | fail)
    refine aw_loop (fun mm R1 H1 => ∃ (i : Nat), i ≤ a.length ∧ a.take i = b.take i ∧ H1 = H ∧ R1 = [(0, .sls a.length (bsL a)), (1, .sls b.length (bsL b)), (5, avI i)] ∧ a.length - i = mm) ?_ ?_
    · exact ⟨_, _, _, Ent.sub _ (by (repeat' (first | exact RSub.nil _ | apply RSub.cons)); all_goals rfl), 0, Nat.zero_le _, rfl, rfl, rfl, rfl⟩
    rintro mm R1 H1 ⟨i, hi, hZ, rfl, rfl, rfl⟩
    by_cases hlt : i < a.length
    · have hg : a[i]? = some a[i] := List.getElem?_eq_getElem hlt
      have hk : b[i]? = some b[i] := List.getElem?_eq_getElem (by omega)
      have ea : a.take (i + 1) = a.take i ++ [a[i]] := by rw [List.take_add_one, hg]; rfl
      have eb : b.take (i + 1) = b.take i ++ [b[i]] := by rw [List.take_add_one, hk]; rfl
      generalize a[i] = v at *
      generalize b[i] = u at *
      replace ea := Hdn.mk ea
      replace eb := Hdn.mk eb
      replace hZ := Hdn.mk hZ
      (first | focus (refine yy45 ?_; refine aw_condp rfl (fun hc => ?_) (fun hc => ?_); refine yy13 ?_; refine yy73 ?_; (apply awt_s; · exact s_move (v := .sls _ _) rfl); (apply awt_s; · exact s_move (v := .raw _) rfl); (apply awt_s; · exact s_indexAddr_sls rfl rfl auto_len); (apply awt_s; · exact s_load_pce rfl auto_idx); (apply awt_s; · exact s_move (v := .sls _ _) rfl); (apply awt_s; · exact s_move (v := .raw _) rfl); (apply awt_s; · exact s_indexAddr_sls rfl rfl auto_len); (apply awt_s; · exact s_load_pce rfl auto_idx); (apply awt_s; · exact s_strne rfl rfl); refine yy77 ?_; refine aw_condp rfl (fun hc => ?_) (fun hc => ?_); refine yy92 ?_; refine yy33 ?_; refine yy102 ?_; rotate_left; refine yy39 ?_; refine yy22 ?_; rotate_left; exact absurd hc auto_no) | fail)
      · refine ⟨.inl rfl, _, _, _, Ent.refl _ _, ret1 rfl rfl, congrArg avB (show false = decide (a = b) from (decide_eq_false fun e => hc (by rw [e] at hg; rw [hg] at hk; exact Option.some.inj hk)).symm), rfl⟩
      · exact ⟨a.length - (i + 1), _, _, by omega, Ent.sub _ (by (repeat' (first | exact RSub.nil _ | apply RSub.cons)); all_goals rfl), i + 1, by omega, by rw [ea.out, eb.out, hZ.out, Decidable.byContradiction hc], rfl, rfl, rfl⟩
    · obtain rfl : i = a.length := by omega
      rw [List.take_length] at hZ
      rw [hab, List.take_length] at hZ
      subst hZ
      (first | focus (refine yy45 ?_; refine yy34 ?_; intro hc; refine yy92 ?_; rotate_left) | fail)
      exact ⟨.inl rfl, _, _, _, Ent.refl _ _, ret1 rfl rfl, congrArg avB (decide_eq_true rfl).symm, rfl⟩
  · (first | focus (refine yy15 ?_; refine yy38 ?_; refine yy27 ?_; refine yy115 ?_; refine yy27 ?_; refine yy115 ?_; refine yy110 ?_; refine aw_condp rfl (fun hc => ?_) (fun hc => ?_); replace hc := hide_nat hc; refine yy92 ?_; refine k_seq_ret ?_; rotate_left; exact absurd hc auto_no) | fail)
    exact ⟨.inl rfl, _, _, _, Ent.refl _ _, ret1 rfl rfl, congrArg avB (decide_eq_false fun e => hab (by rw [e])).symm, rfl⟩
abbrev ckA (c : Ck) : List AV := [avI c.1, avI c.2]
theorem fail_calls6 {o : Nat} (H : AHeap) (c : Ck) (e a : Nat) (h : H o = some (.cel (ckA c))) :
    ACalls Try.prog 33 [.ptr o 0, avI e, avI a] H fun r H' => r = .tup [] ∧ H' = H.set o (.cel (ckA (failC c e a))) := by
  unfold failC
  obtain ⟨c1, c2⟩ := c
  dsimp only [ckA] at *
  refine acalls_of_aw3 Try.func33 rfl (by decide) ?_
  (first | focus (refine yy8 ?_; refine yy56 ?_; refine yy87 ?_; refine yy4 ?_; refine aw_condp rfl (fun hc => ?_) (fun hc => ?_); refine yy67 ?_; refine yy7 ?_; refine yy7 ?_; refine yy20 ?_; refine yy88 ?_; refine yy139 ?_; refine yy61 ?_; rotate_left; replace hc := hide_nat hc; refine aw_skip ?_; rotate_left) | fail)
  · exact ⟨.inr rfl, _, _, _, Ent.refl _ _, ret0 rfl, rfl, by rw [if_pos (by omega)]; rfl⟩
  · exact ⟨.inr rfl, _, _, _, Ent.refl _ _, ret0 rfl, rfl, by rw [if_neg hc.out]; exact (AHeap.set_id h).symm⟩
theorem NodeOf_calls (H : AHeap) (l : List Nd) (s : Bs) (hl : l.length ≤ 2000000) : ACalls Try.prog 42 [ndsA l, .str s] H fun r H' => r = avI (nodeOf l s) ∧ H' = H := by
  have hml := nd_len l
  refine acalls_of_aw2 Try.func42 rfl (by decide) ?_
  unfold nodeOf
  generalize hZ : nodeL s l 0 = Z
  (first | focus (refine yy15 ?_; refine yy38 ?_; refine yy71 ?_; rotate_left) | fail)
  refine aw_loop (fun mm R1 H1 => ∃ (i : Nat), i ≤ l.length ∧ nodeL s (l.drop i) i = Z ∧ H1 = H ∧ R1 = [(0, ndsA l), (1, .str s), (5, avI i)] ∧ l.length - i = mm) ?_ ?_
  · exact ⟨_, _, _, Ent.sub _ (by (repeat' (first | exact RSub.nil _ | apply RSub.cons)); all_goals rfl), 0, Nat.zero_le _, hZ, rfl, rfl, rfl⟩
  clear hZ
  rintro mm R1 H1 ⟨i, hi, hZ, rfl, rfl, rfl⟩
  by_cases hlt : i < l.length
  · have hg : l[i]? = some l[i] := List.getElem?_eq_getElem hlt
    have hd : l.drop i = l[i] :: l.drop (i + 1) := List.drop_eq_getElem_cons hlt
    rw [hd] at hZ
    generalize l[i] = v at *
    have y0 := nd_at hg (j := 0) (by decide) rfl
    clear hg hd
    unfold nodeL at hZ
    by_cases hv : v.name = s
    · rw [if_pos hv] at hZ
      subst hv
      subst hZ
      (first | focus (refine yy45 ?_; refine aw_condp rfl (fun hc => ?_) (fun hc => ?_); refine yy13 ?_; refine yy76 ?_; refine yy47 ?_; refine yy118 ?_; refine yy111 ?_; refine yy4 ?_; refine aw_condp rfl (fun hc => ?_) (fun hc => ?_); refine yy19 ?_; refine yy41 ?_; refine yy33 ?_; refine yy102 ?_; rotate_left; exact absurd hc auto_no; exact absurd hc auto_no) | fail)
      all_goals exact ⟨.inl rfl, _, _, _, Ent.refl _ _, ret1 rfl rfl, rfl, rfl⟩
    · rw [if_neg hv] at hZ
      replace hv := Hdq.mk hv
      (first | focus (refine yy45 ?_; refine aw_condp rfl (fun hc => ?_) (fun hc => ?_); refine yy13 ?_; refine yy76 ?_; refine yy47 ?_; refine yy118 ?_; refine yy111 ?_; refine yy4 ?_; refine yy30 ?_; intro hc; refine yy39 ?_; refine yy22 ?_; rotate_left; exact absurd hc auto_no) | fail)
      all_goals exact ⟨l.length - (i + 1), _, _, by omega, Ent.sub _ (by (repeat' (first | exact RSub.nil _ | apply RSub.cons)); all_goals rfl), i + 1, by omega, hZ, rfl, rfl, rfl⟩
  · obtain rfl : i = l.length := by omega
    rw [List.drop_length] at hZ
    subst hZ
    (first | focus (refine yy45 ?_; refine yy34 ?_; intro hc; refine yy92 ?_; rotate_left) | fail)
    exact ⟨.inl rfl, _, _, _, Ent.refl _ _, ret1 rfl rfl, rfl, rfl⟩
theorem input_calls (H : AHeap) (n : Nd) (s : Bs) (hl : n.ins.length ≤ 2000000) : ACalls Try.prog 44 [.agg n.cells, .str s] H fun r H' => r = avB (inputL s n.ins) ∧ H' = H := by
  obtain ⟨nm, l, outs, locs, eqs, at_⟩ := n
  simp only [Nd.cells] at *
  have hml := vr_len l
  refine acalls_of_aw2 Try.func44 rfl (by decide) ?_
  generalize hZ : inputL s l = Z
  (first | focus (refine yy2 ?_; refine zb1 rfl rfl rfl (fun oN hoN => ?_); refine yy6 ?_; refine yy38 ?_; refine yy71 ?_; rotate_left) | fail)
  refine aw_loop (fun mm R1 H1 => ∃ (i : Nat), i ≤ l.length ∧ inputL s (l.drop i) = Z ∧ H1 = H.set oN (.cel [.str nm, .sls l.length (vrL l), .sls outs.length (vrL outs), .sls locs.length (vrL locs), .sls eqs.length (eqL eqs), avI at_]) ∧ R1 = [(1, .str s), (2, .ptr oN 0), (5, avI i)] ∧ l.length - i = mm) ?_ ?_
  · exact ⟨_, _, _, Ent.sub _ (by (repeat' (first | exact RSub.nil _ | apply RSub.cons)); all_goals rfl), 0, Nat.zero_le _, hZ, rfl, rfl, rfl⟩
  clear hZ
  rintro mm R1 H1 ⟨i, hi, hZ, rfl, rfl, rfl⟩
  by_cases hlt : i < l.length
  · have hg : l[i]? = some l[i] := List.getElem?_eq_getElem hlt
    have hd : l.drop i = l[i] :: l.drop (i + 1) := List.drop_eq_getElem_cons hlt
    rw [hd] at hZ
    generalize l[i] = v at *
    have y0 := vr_at hg (j := 0) (by decide) rfl
    simp only [inputL, List.any_cons] at hZ
    clear hg hd
    by_cases hv : v.name = s
    · subst hv
      simp only [decide_true, Bool.true_or] at hZ
      subst hZ
      (first | focus (refine yy93 ?_; refine yy89 ?_; refine aw_condp rfl (fun hc => ?_) (fun hc => ?_); refine yy13 ?_; refine yy99 ?_; refine yy47 ?_; refine yy118 ?_; refine yy111 ?_; refine yy4 ?_; refine aw_condp rfl (fun hc => ?_) (fun hc => ?_); refine yy92 ?_; refine yy33 ?_; refine yy102 ?_; rotate_left; exact absurd hc auto_no; exact absurd hc auto_no) | fail)
      all_goals exact ⟨.inl rfl, _, _, _, Ent.drop_set _ hoN _, ret1 rfl rfl, rfl, rfl⟩
    · simp only [hv, decide_false, Bool.false_or] at hZ
      replace hv := Hdq.mk hv
      (first | focus (refine yy93 ?_; refine yy89 ?_; refine aw_condp rfl (fun hc => ?_) (fun hc => ?_); refine yy13 ?_; refine yy99 ?_; refine yy47 ?_; refine yy118 ?_; refine yy111 ?_; refine yy4 ?_; refine yy30 ?_; intro hc; refine yy39 ?_; refine yy22 ?_; rotate_left; exact absurd hc auto_no) | fail)
      all_goals exact ⟨l.length - (i + 1), _, _, by omega, Ent.sub _ (by (repeat' (first | exact RSub.nil _ | apply RSub.cons)); all_goals rfl), i + 1, by omega, hZ, rfl, rfl, rfl⟩
  · obtain rfl : i = l.length := by omega
    rw [List.drop_length] at hZ
    subst hZ
    (first | focus (refine yy93 ?_; refine yy89 ?_; refine yy34 ?_; intro hc; refine yy92 ?_; rotate_left) | fail)
    exact ⟨.inl rfl, _, _, _, Ent.drop_set _ hoN _, ret1 rfl rfl, rfl, rfl⟩
theorem Vars_calls (H : AHeap) (n : Nd) (h1 : n.ins.length ≤ 2000000) (h2 : n.outs.length ≤ 2000000) (h3 : n.locs.length ≤ 2000000) : ACalls Try.prog 36 [.agg n.cells] H fun r H' => r = .sls (varsN n).length (vrL (varsN n)) ∧ H' = H := by
  obtain ⟨nm, l, outs, locs, eqs, at_⟩ := n
  simp only [Nd.cells, varsN] at *
  have m1 := vr_len l
  have m2 := vr_len outs
  have m3 := vr_len locs
  rw [vr_app, vr_app, List.length_append, List.length_append]
  generalize vrL l = L1 at *
  generalize vrL outs = L2 at *
  generalize vrL locs = L3 at *
  generalize eqL eqs = L4 at *
  generalize l.length = z1 at *
  generalize outs.length = z2 at *
  generalize locs.length = z3 at *
  refine acalls_of_aw1 Try.func36 rfl (by decide) ?_
  (first | focus (refine yy2 ?_; refine zb1 rfl rfl rfl (fun oN hoN => ?_); refine yy6 ?_; refine yy2 ?_; refine awl_s rfl (s_buildSlice0) ?_; refine yy10 ?_; refine awl_own_emp_cel rfl rfl rfl auto_src auto_len auto_len (fun oN hoN => ?_); refine yy40 ?_; refine yy16 ?_; refine yy23 ?_; refine yy10 ?_; refine za2 rfl rfl rfl (by assumption) auto_len auto_src auto_len auto_len (fun oN hoN => ?_); refine yy40 ?_; refine yy16 ?_; refine yy23 ?_; refine yy10 ?_; refine za2 rfl rfl rfl (by assumption) auto_len auto_src auto_len auto_len (fun oN hoN => ?_); refine yy40 ?_; refine yy108 ?_; rotate_left) | fail)
  exact ⟨.inl rfl, _, _, _, (Ent.seal_cel1 2 rfl (by rw [List.length_append, List.length_append, m1, m2, m3, ← Nat.add_mul, ← Nat.add_mul]) hoN).trans (Ent.gc auto_sub), ret1 rfl rfl, rfl, rfl⟩
abbrev vrZ : List AV := [.raw (.string ⟨#[]⟩), avI 0, .raw (.string ⟨#[]⟩), avB false, avI 0]
theorem vr_get5 {l : List Vr} {i : Nat} {v : Vr} (h : l[i]? = some v) : ((vrL l).drop (i * 5)).take 5 = [.str v.name, avI v.kind, .str v.on, avB v.not, avI v.at_] := vr_get h
theorem Find_calls (H : AHeap) (n : Nd) (s : Bs) (h1 : n.ins.length ≤ 2000000) (h2 : n.outs.length ≤ 2000000) (h3 : n.locs.length ≤ 2000000) : ACalls Try.prog 43 [.agg n.cells, .str s] H fun r H' => r = .tup [.agg (findV n s).1.cells, avB (findV n s).2] ∧ H' = H := by
  have cv := fun H => Vars_calls H n h1 h2 h3
  unfold findV
  have hl : (varsN n).length ≤ 6000000 := by unfold varsN; rw [List.length_append, List.length_append]; omega
  have hml := vr_len (varsN n)
  generalize varsN n = l at *
  obtain ⟨nm, ins, outs, locs, eqs, at_⟩ := n
  simp only [Nd.cells] at *
  refine acalls_of_aw2 Try.func43 rfl (by decide) ?_
  generalize hZ : findL s l = Z
  (first | focus (refine yy2 ?_; refine zb1 rfl rfl rfl (fun oN hoN => ?_); refine awl_alloc rfl rfl rfl (fun oN hoN => ?_); refine yy6 ?_; refine yy98 ?_; (refine zc auto_wl (cv _) ?_; rintro r H' ⟨rfl, rfl⟩); refine yy83 ?_; refine yy42 ?_; refine yy71 ?_; rotate_left) | fail)
  have hR0 : H oN = none := by (first | assumption | exact AHeap.none_of_set ((by assumption)) | exact AHeap.none_of_set (AHeap.none_of_set ((by assumption))) | exact AHeap.none_of_set (AHeap.none_of_set (AHeap.none_of_set ((by assumption)))) | exact AHeap.none_of_set (AHeap.none_of_set (AHeap.none_of_set (AHeap.none_of_set ((by assumption))))) | exact AHeap.none_of_set (AHeap.none_of_set (AHeap.none_of_set (AHeap.none_of_set (AHeap.none_of_set ((by assumption)))))) | exact AHeap.none_of_set (AHeap.none_of_set (AHeap.none_of_set (AHeap.none_of_set (AHeap.none_of_set (AHeap.none_of_set ((by assumption))))))) | exact AHeap.none_of_set (AHeap.none_of_set (AHeap.none_of_set (AHeap.none_of_set (AHeap.none_of_set (AHeap.none_of_set (AHeap.none_of_set ((by assumption)))))))) | exact AHeap.none_of_set (AHeap.none_of_set (AHeap.none_of_set (AHeap.none_of_set (AHeap.none_of_set (AHeap.none_of_set (AHeap.none_of_set (AHeap.none_of_set ((by assumption))))))))) | exact AHeap.none_of_set (AHeap.none_of_set (AHeap.none_of_set (AHeap.none_of_set (AHeap.none_of_set (AHeap.none_of_set (AHeap.none_of_set (AHeap.none_of_set (AHeap.none_of_set ((by assumption)))))))))) | exact AHeap.none_of_set (AHeap.none_of_set (AHeap.none_of_set (AHeap.none_of_set (AHeap.none_of_set (AHeap.none_of_set (AHeap.none_of_set (AHeap.none_of_set (AHeap.none_of_set (AHeap.none_of_set ((by assumption))))))))))))
  obtain ⟨oR, hoRe⟩ : ∃ x, x = oN := ⟨_, rfl⟩
  subst hoRe
  refine aw_loop (fun mm R1 H1 => ∃ (i : Nat), i ≤ l.length ∧ findL s (l.drop i) = Z ∧ H1 = H.set oR (.cel vrZ) ∧ R1 = [(1, .str s), (4, .ptr oR 0), (6, .sls l.length (vrL l)), (7, avI i)] ∧ l.length - i = mm) ?_ ?_
  · exact ⟨_, _, _, Ent.tog (by (repeat' (first | exact RSub.nil _ | apply RSub.cons)); all_goals rfl) auto_sub, 0, Nat.zero_le _, hZ, rfl, rfl, rfl⟩
  clear hZ hoN
  rintro mm R1 H1 ⟨i, hi, hZ, rfl, rfl, rfl⟩
  by_cases hlt : i < l.length
  · have hg : l[i]? = some l[i] := List.getElem?_eq_getElem hlt
    have hd : l.drop i = l[i] :: l.drop (i + 1) := List.drop_eq_getElem_cons hlt
    rw [hd] at hZ
    generalize l[i] = v at *
    have hseg := vr_get5 hg
    have y0 := vr_at hg (j := 0) (by decide) rfl
    unfold findL at hZ
    clear hg hd
    by_cases hv : v.name = s
    · rw [if_pos hv] at hZ
      subst hv
      subst hZ
      (first | focus (refine yy45 ?_; refine aw_condp rfl (fun hc => ?_) (fun hc => ?_); refine yy13 ?_; refine yy76 ?_; refine yy47 ?_; refine yy118 ?_; refine yy111 ?_; refine yy4 ?_; refine aw_condp rfl (fun hc => ?_) (fun hc => ?_); refine yy76 ?_; refine yy47 ?_; refine yy101 ?_; refine yy11 ?_; refine yy41 ?_; refine yy33 ?_; refine yy102 ?_; rotate_left; exact absurd hc auto_no; exact absurd hc auto_no) | fail)
      all_goals exact ⟨.inl rfl, _, _, _, Ent.cellRet 4 v.cells rfl auto_heap (by ((repeat' (first | exact WC.nil | apply WC.cons)); all_goals (first | exact W.of rfl | exact W.int rfl | exact W.nilb rfl | exact W.empb rfl | exact W.bysx rfl | exact W.nils rfl | exact W.emps rfl | exact W.slsx rfl))) auto_hs, ret_2 rfl (rv1_agg (m := 5) rfl rfl rfl (by decide)) (rv1_tmp rfl), rfl, rfl⟩
    · rw [if_neg hv] at hZ
      replace hv := Hdq.mk hv
      (first | focus (refine yy45 ?_; refine aw_condp rfl (fun hc => ?_) (fun hc => ?_); refine yy13 ?_; refine yy76 ?_; refine yy47 ?_; refine yy118 ?_; refine yy111 ?_; refine yy4 ?_; refine yy30 ?_; intro hc; refine yy39 ?_; refine yy22 ?_; rotate_left; exact absurd hc auto_no) | fail)
      all_goals exact ⟨l.length - (i + 1), _, _, by omega, Ent.sub _ (by (repeat' (first | exact RSub.nil _ | apply RSub.cons)); all_goals rfl), i + 1, by omega, hZ, rfl, rfl, rfl⟩
  · obtain rfl : i = l.length := by omega
    rw [List.drop_length] at hZ
    subst hZ
    (first | focus (refine yy45 ?_; refine yy34 ?_; intro hc; refine yy2 ?_; refine yy20 ?_; refine yy11 ?_; refine yy41 ?_; rotate_left) | fail)
    exact ⟨.inl rfl, _, _, _, Ent.cellRet 4 Vr0.cells rfl auto_heap (WC.cons (w_str0 rfl) (WC.cons (W.of rfl) (WC.cons (w_str0 rfl) (WC.cons (W.of rfl) (WC.cons (W.of rfl) WC.nil))))) auto_hs, ret_2 rfl (rv1_agg (m := 5) rfl rfl rfl (by decide)) (rv1_tmp rfl), rfl, rfl⟩
abbrev eqZ : List AV := [.raw (.string ⟨#[]⟩), .raw (.string ⟨#[]⟩), .raw (.string ⟨#[]⟩), avI 0, avI 0, .raw (.slice none 0 0), avI 0]
theorem EqOf_calls (H : AHeap) (n : Nd) (s : Bs) (hl : n.eqs.length ≤ 2000000) : ACalls Try.prog 46 [.agg n.cells, .str s] H fun r H' => r = .tup [.agg (eqOf n s).1.cells, avB (eqOf n s).2] ∧ H' = H := by
  obtain ⟨nm, ins, outs, locs, l, at_⟩ := n
  unfold eqOf
  simp only [Nd.cells] at *
  have hml := eq_len l
  refine acalls_of_aw2 Try.func46 rfl (by decide) ?_
  generalize hZ : eqOfL s l = Z
  (first | focus (refine yy2 ?_; refine zb1 rfl rfl rfl (fun oN hoN => ?_); refine awl_alloc rfl rfl rfl (fun oN hoN => ?_); refine yy6 ?_; refine yy38 ?_; refine yy71 ?_; rotate_left) | fail)
  rename_i oP hoP
  have hR0 : H oN = none := by (first | assumption | exact AHeap.none_of_set ((by assumption)) | exact AHeap.none_of_set (AHeap.none_of_set ((by assumption))) | exact AHeap.none_of_set (AHeap.none_of_set (AHeap.none_of_set ((by assumption)))) | exact AHeap.none_of_set (AHeap.none_of_set (AHeap.none_of_set (AHeap.none_of_set ((by assumption))))) | exact AHeap.none_of_set (AHeap.none_of_set (AHeap.none_of_set (AHeap.none_of_set (AHeap.none_of_set ((by assumption)))))) | exact AHeap.none_of_set (AHeap.none_of_set (AHeap.none_of_set (AHeap.none_of_set (AHeap.none_of_set (AHeap.none_of_set ((by assumption))))))) | exact AHeap.none_of_set (AHeap.none_of_set (AHeap.none_of_set (AHeap.none_of_set (AHeap.none_of_set (AHeap.none_of_set (AHeap.none_of_set ((by assumption)))))))) | exact AHeap.none_of_set (AHeap.none_of_set (AHeap.none_of_set (AHeap.none_of_set (AHeap.none_of_set (AHeap.none_of_set (AHeap.none_of_set (AHeap.none_of_set ((by assumption))))))))) | exact AHeap.none_of_set (AHeap.none_of_set (AHeap.none_of_set (AHeap.none_of_set (AHeap.none_of_set (AHeap.none_of_set (AHeap.none_of_set (AHeap.none_of_set (AHeap.none_of_set ((by assumption)))))))))) | exact AHeap.none_of_set (AHeap.none_of_set (AHeap.none_of_set (AHeap.none_of_set (AHeap.none_of_set (AHeap.none_of_set (AHeap.none_of_set (AHeap.none_of_set (AHeap.none_of_set (AHeap.none_of_set ((by assumption))))))))))))
  obtain ⟨oR, hoRe⟩ : ∃ x, x = oN := ⟨_, rfl⟩
  subst hoRe
  have hRP : oR ≠ oP := by (first | assumption | exact Ne.symm (by assumption) | exact AHeap.ne_of_fresh (by assumption) | exact Ne.symm (AHeap.ne_of_fresh (by assumption)) | exact AHeap.ne_of_fresh (AHeap.none_of_set (by assumption)) | exact Ne.symm (AHeap.ne_of_fresh (AHeap.none_of_set (by assumption))) | exact AHeap.ne_ns (by assumption) (by assumption) | exact AHeap.ne_sn (by assumption) (by assumption) | exact AHeap.ne_ns (by assumption) auto_heap2 | exact AHeap.ne_sn (by assumption) auto_heap2)
  refine aw_loop (fun mm R1 H1 => ∃ (i : Nat), i ≤ l.length ∧ eqOfL s (l.drop i) = Z ∧ H1 oR = some (.cel eqZ) ∧ H1 oP = some (.cel [.str nm, .sls ins.length (vrL ins), .sls outs.length (vrL outs), .sls locs.length (vrL locs), .sls l.length (eqL l), avI at_]) ∧ (∀ p y, H p = some y → H1 p = some y) ∧ R1 = [(1, .str s), (2, .ptr oP 0), (4, .ptr oR 0), (6, avI i)] ∧ l.length - i = mm) ?_ ?_
  · exact ⟨_, _, _, Ent.sub _ (by (repeat' (first | exact RSub.nil _ | apply RSub.cons)); all_goals rfl), 0, Nat.zero_le _, hZ, by exact auto_heap, by exact auto_heap, fun p y hp => auto_heap, rfl, rfl⟩
  clear hZ hoN
  rintro mm R1 H1 ⟨i, hi, hZ, q1, q2, hfr, rfl, rfl⟩
  by_cases hlt : i < l.length
  · have hg : l[i]? = some l[i] := List.getElem?_eq_getElem hlt
    have hd : l.drop i = l[i] :: l.drop (i + 1) := List.drop_eq_getElem_cons hlt
    rw [hd] at hZ
    generalize l[i] = v at *
    have hseg := eq_get hg
    have y0 := eq_at hg (j := 0) (by decide) rfl
    unfold eqOfL at hZ
    clear hg hd
    by_cases hv : v.name = s
    · rw [if_pos hv] at hZ
      subst hv
      subst hZ
      (first | focus (refine yy93 ?_; refine yy89 ?_; refine aw_condp rfl (fun hc => ?_) (fun hc => ?_); refine yy13 ?_; refine yy99 ?_; refine yy47 ?_; refine yy118 ?_; refine yy111 ?_; refine yy4 ?_; refine aw_condp rfl (fun hc => ?_) (fun hc => ?_); refine yy99 ?_; refine yy47 ?_; refine yy101 ?_; refine yy139 ?_; refine yy41 ?_; refine yy33 ?_; refine yy102 ?_; rotate_left; exact absurd hc auto_no; exact absurd hc auto_no) | fail)
      all_goals exact ⟨.inl rfl, _, _, _, Ent.cellRet 4 v.cells rfl auto_heap (by ((repeat' (first | exact WC.nil | apply WC.cons)); all_goals (first | exact W.of rfl | exact W.int rfl | exact W.nilb rfl | exact W.empb rfl | exact W.bysx rfl | exact W.nils rfl | exact W.emps rfl | exact W.slsx rfl))) (fun sp sy shp => by
        have hp2 := hfr sp sy shp
        have hp3 : sp ≠ oR := fun e => by rw [e, hR0] at shp; cases shp
        exact ⟨hp3, auto_heap⟩), ret_2 rfl (rv1_agg (m := 7) rfl rfl rfl (by decide)) (rv1_tmp rfl), rfl, rfl⟩
    · rw [if_neg hv] at hZ
      replace hv := Hdq.mk hv
      (first | focus (refine yy93 ?_; refine yy89 ?_; refine aw_condp rfl (fun hc => ?_) (fun hc => ?_); refine yy13 ?_; refine yy99 ?_; refine yy47 ?_; refine yy118 ?_; refine yy111 ?_; refine yy4 ?_; refine yy30 ?_; intro hc; refine yy39 ?_; refine yy22 ?_; rotate_left; exact absurd hc auto_no) | fail)
      all_goals exact ⟨l.length - (i + 1), _, _, by omega, Ent.sub _ (by (repeat' (first | exact RSub.nil _ | apply RSub.cons)); all_goals rfl), i + 1, by omega, hZ, by exact auto_heap, by exact auto_heap, hfr, rfl, rfl⟩
  · obtain rfl : i = l.length := by omega
    rw [List.drop_length] at hZ
    subst hZ
    (first | focus (refine yy93 ?_; refine yy89 ?_; refine yy34 ?_; intro hc; refine yy2 ?_; refine yy20 ?_; refine yy139 ?_; refine yy41 ?_; rotate_left) | fail)
    exact ⟨.inl rfl, _, _, _, Ent.cellRet 4 Eqn0.cells rfl auto_heap (WC.cons (w_str0 rfl) (WC.cons (w_str0 rfl) (WC.cons (w_str0 rfl) (WC.cons (W.of rfl) (WC.cons (W.of rfl) (WC.cons (W.nils rfl) (WC.cons (W.of rfl) WC.nil))))))) (fun sp sy shp => by
        have hp2 := hfr sp sy shp
        have hp3 : sp ≠ oR := fun e => by rw [e, hR0] at shp; cases shp
        exact ⟨hp3, auto_heap⟩), ret_2 rfl (rv1_agg (m := 7) rfl rfl rfl (by decide)) (rv1_tmp rfl), rfl, rfl⟩
end Go.Proofs.Ytmgkhfnhaeplgaa

namespace Go.Proofs.Ytmgkhfnhaeplgaa
open Go Go.Am Go.Proofs
set_option linter.unusedSimpArgs false
set_option linter.unusedVariables false
set_option maxRecDepth 20000
set_option maxHeartbeats 8000000

/-! Names: of an expression. -/
theorem nodeL_spec (s : Bs) : ∀ (l : List Nd) (i : Nat), nodeL s l i = -1 ∨ ∃ (j : Nat) (m : Nd), l[j]? = some m ∧ nodeL s l i = ((i + j : Nat) : Int) ∧ m.name = s
  | [], i => .inl rfl
  | n :: l, i => by
    unfold nodeL
    by_cases h : n.name = s
    · rw [if_pos h]; exact .inr ⟨0, n, rfl, rfl, h⟩
    · rw [if_neg h]
      rcases nodeL_spec s l (i + 1) with h1 | ⟨j, m, h1, h2, h3⟩
      · exact .inl h1
      · exact .inr ⟨j + 1, m, by simpa using h1, by rw [h2]; congr 1; omega, h3⟩
theorem nodeOf_spec (l : List Nd) (s : Bs) : nodeOf l s = -1 ∨ ∃ (j : Nat) (m : Nd), l[j]? = some m ∧ nodeOf l s = (j : Int) ∧ m.name = s := by
  rcases nodeL_spec s l 0 with h | ⟨j, m, h1, h2, h3⟩
  · exact .inl h
  · exact .inr ⟨j, m, h1, by unfold nodeOf; rw [h2, Nat.zero_add], h3⟩
theorem namesL_drop (ahead : List Nd) (n : Nd) (c : Ck) {ks : List Ex} {i : Nat} {k : Ex} (h : ks[i]? = some k) : namesL ahead n c (ks.drop i) = namesL ahead n (namesE ahead n c k) (ks.drop (i + 1)) := by
  have hlt := (List.getElem?_eq_some_iff.1 h).1
  rw [List.drop_eq_getElem_cons hlt, (List.getElem?_eq_some_iff.1 h).2, namesL]
theorem names_calls {o : Nat} (ahead : List Nd) (n : Nd) (ha : ahead.length ≤ 2000000) (h1 : n.ins.length ≤ 2000000) (h2 : n.outs.length ≤ 2000000) (h3 : n.locs.length ≤ 2000000) (m : Nat) : ∀ (e : Ex) (H : AHeap) (c : Ck), exSz e ≤ m → exSz e ≤ 2000000 → H o = some (.cel (ckA c)) →
    ACalls Try.prog 45 [.ptr o 0, ndsA ahead, .agg n.cells, exA e] H fun r H' => r = .tup [] ∧ H' = H.set o (.cel (ckA (namesE ahead n c e))) := by
  induction m with
  | zero => intro e H c h; rw [exSz_eq] at h; omega
  | succ m ih =>
    intro e H c h hb hH
    obtain ⟨op, nm, nn, at_, ks⟩ := e
    rw [exSz_eq] at h hb
    unfold namesE
    simp only [Ex.kids, Ex.op, Ex.name, Ex.n, Ex.at_] at *
    show ACalls Try.prog _ [.ptr o 0, ndsA ahead, .agg n.cells, .agg [.str op, .str nm, avI nn, avI at_, .sls ks.length (exL ks)]] H _
    have hml := exL_len ks
    have hma := nd_len ahead
    have hkl : ks.length ≤ exSzL ks := by
      clear hml h hb
      induction ks with
      | nil => exact Nat.zero_le _
      | cons x l ih => rw [exSzL, List.length_cons]; have := exSz_eq x; omega
    have cf := fun H => Find_calls H n nm h1 h2 h3
    have cn := fun H => NodeOf_calls H ahead nm ha
    have ce := fun H h => fail_calls6 (o := o) H c 8 at_ h
    generalize hS : (if nameOk ahead n op nm ks.length = true then c else failC c 8 at_) = S at *
    unfold nameOk at hS
    have hsp := nodeOf_spec ahead nm
    generalize findV n nm = fv at *
    generalize nodeOf ahead nm = zi at *
    generalize hZ : namesL ahead n S ks = Z
    have hn : n.cells = [.str n.name, .sls n.ins.length (vrL n.ins), .sls n.outs.length (vrL n.outs), .sls n.locs.length (vrL n.locs), .sls n.eqs.length (eqL n.eqs), avI n.at_] := rfl
    rw [hn] at *
    refine acalls_of_aw4 Try.func45 rfl (by decide) ?_
    (first | focus (refine yy2 ?_; refine zb1 rfl rfl rfl (fun oN hoN => ?_); refine zb1 rfl rfl rfl (fun oN hoN => ?_); refine yy4 ?_; rotate_left) | fail)
    rename_i oP hoP
    obtain ⟨oE, hoEe⟩ : ∃ x, x = oN := ⟨_, rfl⟩
    subst hoEe
    have hP0 : H oP = none := hoP
    have hE0 : H oE = none := by (first | assumption | exact AHeap.none_of_set ((by assumption)) | exact AHeap.none_of_set (AHeap.none_of_set ((by assumption))) | exact AHeap.none_of_set (AHeap.none_of_set (AHeap.none_of_set ((by assumption)))) | exact AHeap.none_of_set (AHeap.none_of_set (AHeap.none_of_set (AHeap.none_of_set ((by assumption))))) | exact AHeap.none_of_set (AHeap.none_of_set (AHeap.none_of_set (AHeap.none_of_set (AHeap.none_of_set ((by assumption)))))) | exact AHeap.none_of_set (AHeap.none_of_set (AHeap.none_of_set (AHeap.none_of_set (AHeap.none_of_set (AHeap.none_of_set ((by assumption))))))) | exact AHeap.none_of_set (AHeap.none_of_set (AHeap.none_of_set (AHeap.none_of_set (AHeap.none_of_set (AHeap.none_of_set (AHeap.none_of_set ((by assumption)))))))) | exact AHeap.none_of_set (AHeap.none_of_set (AHeap.none_of_set (AHeap.none_of_set (AHeap.none_of_set (AHeap.none_of_set (AHeap.none_of_set (AHeap.none_of_set ((by assumption))))))))) | exact AHeap.none_of_set (AHeap.none_of_set (AHeap.none_of_set (AHeap.none_of_set (AHeap.none_of_set (AHeap.none_of_set (AHeap.none_of_set (AHeap.none_of_set (AHeap.none_of_set ((by assumption)))))))))) | exact AHeap.none_of_set (AHeap.none_of_set (AHeap.none_of_set (AHeap.none_of_set (AHeap.none_of_set (AHeap.none_of_set (AHeap.none_of_set (AHeap.none_of_set (AHeap.none_of_set (AHeap.none_of_set ((by assumption))))))))))))
    have hEP : oE ≠ oP := by (first | assumption | exact Ne.symm (by assumption) | exact AHeap.ne_of_fresh (by assumption) | exact Ne.symm (AHeap.ne_of_fresh (by assumption)) | exact AHeap.ne_of_fresh (AHeap.none_of_set (by assumption)) | exact Ne.symm (AHeap.ne_of_fresh (AHeap.none_of_set (by assumption))) | exact AHeap.ne_ns (by assumption) (by assumption) | exact AHeap.ne_sn (by assumption) (by assumption) | exact AHeap.ne_ns (by assumption) auto_heap2 | exact AHeap.ne_sn (by assumption) auto_heap2)
    have hPo : oP ≠ o := fun e => by rw [e, hH] at hP0; cases hP0
    have hEo : oE ≠ o := fun e => by rw [e, hH] at hE0; cases hE0
    refine aw_seq ?_
    refine aw_kmid (fun R1 H1 => H1 oE = some (.cel [.str op, .str nm, avI nn, avI at_, .sls ks.length (exL ks)]) ∧ H1 oP = some (.cel [.str n.name, .sls n.ins.length (vrL n.ins), .sls n.outs.length (vrL n.outs), .sls n.locs.length (vrL n.locs), .sls n.eqs.length (eqL n.eqs), avI n.at_]) ∧ H1 o = some (.cel (ckA S)) ∧ (∀ p y, p ≠ o → H p = some y → H1 p = some y) ∧ R1 = [(0, .ptr o 0), (1, ndsA ahead), (6, .ptr oP 0), (7, .ptr oE 0)]) ?_ ?_
    · have hgo : ∀ (R' : Regs) (H' : AHeap), RSub [(0, .ptr o 0), (1, ndsA ahead), (6, .ptr oP 0), (7, .ptr oE 0)] R' → H' oE = some (.cel [.str op, .str nm, avI nn, avI at_, .sls ks.length (exL ks)]) → H' oP = some (.cel [.str n.name, .sls n.ins.length (vrL n.ins), .sls n.outs.length (vrL n.outs), .sls n.locs.length (vrL n.locs), .sls n.eqs.length (eqL n.eqs), avI n.at_]) → H' o = some (.cel (ckA S)) → (∀ p y, p ≠ o → H p = some y → H' p = some y) → ∃ R1 H1, Ent R' H' R1 H1 ∧ H1 oE = some (.cel [.str op, .str nm, avI nn, avI at_, .sls ks.length (exL ks)]) ∧ H1 oP = some (.cel [.str n.name, .sls n.ins.length (vrL n.ins), .sls n.outs.length (vrL n.outs), .sls n.locs.length (vrL n.locs), .sls n.eqs.length (eqL n.eqs), avI n.at_]) ∧ H1 o = some (.cel (ckA S)) ∧ (∀ p y, p ≠ o → H p = some y → H1 p = some y) ∧ R1 = [(0, .ptr o 0), (1, ndsA ahead), (6, .ptr oP 0), (7, .ptr oE 0)] :=
        fun R' H' hr a1 a2 a3 a4 => ⟨_, H', Ent.sub _ hr, a1, a2, a3, a4, rfl⟩
      by_cases hA : op = ([118, 97, 114] : Bs) ∨ op = ([119, 104, 101, 110] : Bs) ∨ op = ([109, 101, 114, 103, 101] : Bs)
      · rw [if_pos hA] at hS
        clear ih hZ hb h
        by_cases hf : fv.2 = true
        · rw [if_pos hf] at hS
          subst hS
          rw [hf] at cf
          rcases hA with rfl | rfl | rfl
          all_goals (
            (first | focus (refine yy68 ?_; refine yy65 ?_; refine aw_condp rfl (fun hc => ?_) (fun hc => ?_); refine yy35 ?_; refine aw_condp rfl (fun hc => ?_) (fun hc => ?_); refine yy98 ?_; refine yy10 ?_; (refine zc auto_wl (cf _) ?_; rintro r H' ⟨rfl, rfl⟩); refine yy80 ?_; refine awl_alloc rfl rfl rfl (fun oN hoN => ?_); refine yy11 ?_; refine yy6 ?_; refine yy19 ?_; refine yy52 ?_; refine yy81 ?_; refine yy39 ?_; rotate_left; exact absurd hc auto_no; exact absurd hc auto_no) | focus (refine yy68 ?_; refine yy65 ?_; refine yy1 ?_; intro hc; refine aw_condp rfl (fun hc => ?_) (fun hc => ?_); refine yy35 ?_; refine aw_condp rfl (fun hc => ?_) (fun hc => ?_); refine yy98 ?_; refine yy10 ?_; (refine zc auto_wl (cf _) ?_; rintro r H' ⟨rfl, rfl⟩); refine yy80 ?_; refine awl_alloc rfl rfl rfl (fun oN hoN => ?_); refine yy11 ?_; refine yy6 ?_; refine yy19 ?_; refine yy52 ?_; refine yy81 ?_; refine yy39 ?_; rotate_left; exact absurd hc auto_no; exact absurd hc auto_no) | focus (refine yy68 ?_; refine yy65 ?_; refine yy1 ?_; intro hc; refine yy28 ?_; intro hc; refine aw_condp rfl (fun hc => ?_) (fun hc => ?_); refine yy98 ?_; refine yy10 ?_; (refine zc auto_wl (cf _) ?_; rintro r H' ⟨rfl, rfl⟩); refine yy80 ?_; refine awl_alloc rfl rfl rfl (fun oN hoN => ?_); refine yy11 ?_; refine yy6 ?_; refine yy19 ?_; refine yy52 ?_; refine yy81 ?_; refine yy39 ?_; rotate_left; exact absurd hc auto_no) | fail)
            exact hgo _ _ (by (repeat' (first | exact RSub.nil _ | apply RSub.cons)); all_goals rfl) auto_heap auto_heap auto_heap (fun p y hpo hp => by
              have hp3 : p ≠ oP := fun e => by rw [e, hP0] at hp; cases hp
              have hp4 : p ≠ oE := fun e => by rw [e, hE0] at hp; cases hp
              exact auto_heap))
        · rw [if_neg hf] at hS
          subst hS
          rw [Bool.not_eq_true] at hf
          rw [hf] at cf
          rcases hA with rfl | rfl | rfl
          all_goals (
            (first | focus (refine yy68 ?_; refine yy65 ?_; refine aw_condp rfl (fun hc => ?_) (fun hc => ?_); refine yy35 ?_; refine aw_condp rfl (fun hc => ?_) (fun hc => ?_); refine yy98 ?_; refine yy10 ?_; (refine zc auto_wl (cf _) ?_; rintro r H' ⟨rfl, rfl⟩); refine yy80 ?_; refine awl_alloc rfl rfl rfl (fun oN hoN => ?_); refine yy11 ?_; refine yy6 ?_; refine yy19 ?_; refine yy104 ?_; refine yy67 ?_; refine yy10 ?_; (refine zc auto_wl (ce _ auto_heap) ?_; rintro r H' ⟨rfl, rfl⟩); refine yy48 ?_; rotate_left; exact absurd hc auto_no; exact absurd hc auto_no) | focus (refine yy68 ?_; refine yy65 ?_; refine yy1 ?_; intro hc; refine aw_condp rfl (fun hc => ?_) (fun hc => ?_); refine yy35 ?_; refine aw_condp rfl (fun hc => ?_) (fun hc => ?_); refine yy98 ?_; refine yy10 ?_; (refine zc auto_wl (cf _) ?_; rintro r H' ⟨rfl, rfl⟩); refine yy80 ?_; refine awl_alloc rfl rfl rfl (fun oN hoN => ?_); refine yy11 ?_; refine yy6 ?_; refine yy19 ?_; refine yy104 ?_; refine yy67 ?_; refine yy10 ?_; (refine zc auto_wl (ce _ auto_heap) ?_; rintro r H' ⟨rfl, rfl⟩); refine yy48 ?_; rotate_left; exact absurd hc auto_no; exact absurd hc auto_no) | focus (refine yy68 ?_; refine yy65 ?_; refine yy1 ?_; intro hc; refine yy28 ?_; intro hc; refine aw_condp rfl (fun hc => ?_) (fun hc => ?_); refine yy98 ?_; refine yy10 ?_; (refine zc auto_wl (cf _) ?_; rintro r H' ⟨rfl, rfl⟩); refine yy80 ?_; refine awl_alloc rfl rfl rfl (fun oN hoN => ?_); refine yy11 ?_; refine yy6 ?_; refine yy19 ?_; refine yy104 ?_; refine yy67 ?_; refine yy10 ?_; (refine zc auto_wl (ce _ auto_heap) ?_; rintro r H' ⟨rfl, rfl⟩); refine yy48 ?_; rotate_left; exact absurd hc auto_no) | fail)
            exact hgo _ _ (by (repeat' (first | exact RSub.nil _ | apply RSub.cons)); all_goals rfl) auto_heap auto_heap auto_heap (fun p y hpo hp => by
              have hp3 : p ≠ oP := fun e => by rw [e, hP0] at hp; cases hp
              have hp4 : p ≠ oE := fun e => by rw [e, hE0] at hp; cases hp
              exact auto_heap))
      · rw [if_neg hA] at hS
        rw [not_or, not_or] at hA
        obtain ⟨d1, d2, d3⟩ := hA
        replace d1 := Hdq.mk d1
        replace d2 := Hdq.mk d2
        replace d3 := Hdq.mk d3
        clear ih hZ hb h
        by_cases hC : op = ([99, 97, 108, 108] : Bs)
        · rw [if_pos hC] at hS
          subst hC
          rcases hsp with rfl | ⟨j, m, hg, rfl, hm⟩
          · have hS2 : failC c 8 at_ = S := hS
            subst hS2
            clear hS
            (first | focus (refine yy68 ?_; refine yy65 ?_; refine yy29 ?_; intro hc; refine yy30 ?_; intro hc; refine yy126 ?_; refine yy29 ?_; intro hc; refine aw_condp rfl (fun hc => ?_) (fun hc => ?_); refine yy76 ?_; refine yy10 ?_; (refine zc auto_wl (cn _) ?_; rintro r H' ⟨rfl, rfl⟩); refine yy6 ?_; refine yy73 ?_; (apply awt_s; · exact s_move (v := .raw _) rfl); (apply awt_s; · exact s_lss rfl rfl); (apply awt_s; · exact s_move (v := .raw _) rfl); refine zt2 rfl rfl rfl (fun hc => ?_) (fun hc => ?_); exact absurd hc auto_no; refine yy64 ?_; refine yy131 ?_; (apply awt_s; · exact s_pick_t (v := .raw _) rfl rfl); (apply awt_s; · exact s_move (v := .raw _) rfl); refine yy64 ?_; refine yy64 ?_; refine yy131 ?_; (apply awt_s; · exact s_pick_t (v := .raw _) rfl rfl); refine yy77 ?_; refine aw_cond_t rfl ?_; refine yy67 ?_; refine yy10 ?_; (refine zc auto_wl (ce _ auto_heap) ?_; rintro r H' ⟨rfl, rfl⟩); refine yy48 ?_; rotate_left; exact absurd hc auto_no) | fail)
            exact hgo _ _ (by (repeat' (first | exact RSub.nil _ | apply RSub.cons)); all_goals rfl) auto_heap auto_heap auto_heap (fun p y hpo hp => by
            have hp3 : p ≠ oP := fun e => by rw [e, hP0] at hp; cases hp
            have hp4 : p ≠ oE := fun e => by rw [e, hE0] at hp; cases hp
            exact auto_heap)
          · have y2 := nd_at hg (j := 2) (by decide) rfl
            have y1 := nd_at hg (j := 1) (by decide) rfl
            have hjl : j < ahead.length := (List.getElem?_eq_some_iff.1 hg).1
            have hS2 : (if (decide (m.outs.length = 1) && decide (m.ins.length = ks.length)) = true then c else failC c 8 at_) = S := by
              rw [← hS]
              simp only [Int.toNat_natCast, hg, show (0 : Int) ≤ (j : Int) by omega, decide_true, Bool.true_and]
            clear hS hg
            by_cases h1 : m.outs.length = 1
            · by_cases h2 : m.ins.length = ks.length
              · rw [h1, h2] at hS2
                simp only [decide_true, Bool.true_and, if_pos] at hS2
                subst hS2
                (first | focus (refine yy68 ?_; refine yy65 ?_; refine yy29 ?_; intro hc; refine yy30 ?_; intro hc; refine yy126 ?_; refine yy29 ?_; intro hc; refine aw_condp rfl (fun hc => ?_) (fun hc => ?_); refine yy76 ?_; refine yy10 ?_; (refine zc auto_wl (cn _) ?_; rintro r H' ⟨rfl, rfl⟩); refine yy6 ?_; refine yy73 ?_; (apply awt_s; · exact s_move (v := .raw _) rfl); (apply awt_s; · exact s_ltn rfl rfl); (apply awt_s; · exact s_move (v := .raw _) rfl); refine zt2 rfl rfl rfl (fun hc => ?_) (fun hc => ?_); (apply awt_s; · exact s_move (v := .sls _ _) rfl); refine yy3 ?_; (apply awt_s; · exact s_move (v := .raw _) rfl); refine yy3 ?_; (apply awt_s; · exact s_indexAddr_sls rfl rfl auto_len); refine yy3 ?_; (apply awt_s; · exact s_fieldAddr_pce rfl); refine yy3 ?_; (apply awt_s; · exact s_load_pce rfl auto_idx); refine yy3 ?_; (apply awt_s; · exact s_len_sls rfl); refine yy3 ?_; (apply awt_s; · exact s_nen rfl rfl); (apply awt_s; · exact s_pick_f (v := .raw _) rfl rfl); (apply awt_s; · exact s_move (v := .raw _) rfl); refine zt2 rfl rfl rfl (fun hc => ?_) (fun hc => ?_); (apply awt_s; · exact s_move (v := .sls _ _) rfl); refine yy3 ?_; (apply awt_s; · exact s_move (v := .raw _) rfl); refine yy3 ?_; (apply awt_s; · exact s_indexAddr_sls rfl rfl auto_len); refine yy3 ?_; (apply awt_s; · exact s_fieldAddr_pce rfl); refine yy3 ?_; (apply awt_s; · exact s_load_pce rfl auto_idx); refine yy3 ?_; (apply awt_s; · exact s_len_sls rfl); refine yy3 ?_; (apply awt_s; · exact s_fieldAddr_ptr rfl); refine yy3 ?_; (apply awt_s; · exact s_load_cel rfl auto_heap rfl); refine yy3 ?_; (apply awt_s; · exact s_len_sls rfl); refine yy3 ?_; (apply awt_s; · exact s_nen rfl rfl); (apply awt_s; · exact s_pick_f (v := .raw _) rfl rfl); refine yy77 ?_; refine yy90 ?_; intro hc; refine yy39 ?_; rotate_left; exact absurd hc auto_no; exact absurd hc auto_no; exact absurd hc auto_no) | fail)
                exact hgo _ _ (by (repeat' (first | exact RSub.nil _ | apply RSub.cons)); all_goals rfl) auto_heap auto_heap auto_heap (fun p y hpo hp => by
            have hp3 : p ≠ oP := fun e => by rw [e, hP0] at hp; cases hp
            have hp4 : p ≠ oE := fun e => by rw [e, hE0] at hp; cases hp
            exact auto_heap)
              · rw [if_neg (by simp [h2])] at hS2
                subst hS2
                (first | focus (refine yy68 ?_; refine yy65 ?_; refine yy29 ?_; intro hc; refine yy30 ?_; intro hc; refine yy126 ?_; refine yy29 ?_; intro hc; refine aw_condp rfl (fun hc => ?_) (fun hc => ?_); refine yy76 ?_; refine yy10 ?_; (refine zc auto_wl (cn _) ?_; rintro r H' ⟨rfl, rfl⟩); refine yy6 ?_; refine yy73 ?_; (apply awt_s; · exact s_move (v := .raw _) rfl); (apply awt_s; · exact s_ltn rfl rfl); (apply awt_s; · exact s_move (v := .raw _) rfl); refine zt2 rfl rfl rfl (fun hc => ?_) (fun hc => ?_); (apply awt_s; · exact s_move (v := .sls _ _) rfl); refine yy3 ?_; (apply awt_s; · exact s_move (v := .raw _) rfl); refine yy3 ?_; (apply awt_s; · exact s_indexAddr_sls rfl rfl auto_len); refine yy3 ?_; (apply awt_s; · exact s_fieldAddr_pce rfl); refine yy3 ?_; (apply awt_s; · exact s_load_pce rfl auto_idx); refine yy3 ?_; (apply awt_s; · exact s_len_sls rfl); refine yy3 ?_; (apply awt_s; · exact s_nen rfl rfl); (apply awt_s; · exact s_pick_f (v := .raw _) rfl rfl); (apply awt_s; · exact s_move (v := .raw _) rfl); refine zt2 rfl rfl rfl (fun hc => ?_) (fun hc => ?_); (apply awt_s; · exact s_move (v := .sls _ _) rfl); refine yy3 ?_; (apply awt_s; · exact s_move (v := .raw _) rfl); refine yy3 ?_; (apply awt_s; · exact s_indexAddr_sls rfl rfl auto_len); refine yy3 ?_; (apply awt_s; · exact s_fieldAddr_pce rfl); refine yy3 ?_; (apply awt_s; · exact s_load_pce rfl auto_idx); refine yy3 ?_; (apply awt_s; · exact s_len_sls rfl); refine yy3 ?_; (apply awt_s; · exact s_fieldAddr_ptr rfl); refine yy3 ?_; (apply awt_s; · exact s_load_cel rfl auto_heap rfl); refine yy3 ?_; (apply awt_s; · exact s_len_sls rfl); refine yy3 ?_; (apply awt_s; · exact s_nen rfl rfl); (apply awt_s; · exact s_pick_f (v := .raw _) rfl rfl); refine yy77 ?_; refine aw_condp rfl (fun hc => ?_) (fun hc => ?_); replace hc := hide_nat hc; refine yy67 ?_; refine yy10 ?_; (refine zc auto_wl (ce _ auto_heap) ?_; rintro r H' ⟨rfl, rfl⟩); refine yy48 ?_; rotate_left; exact absurd hc auto_no; exact absurd hc auto_no; exact absurd hc auto_no; exact absurd hc auto_no) | fail)
                exact hgo _ _ (by (repeat' (first | exact RSub.nil _ | apply RSub.cons)); all_goals rfl) auto_heap auto_heap auto_heap (fun p y hpo hp => by
            have hp3 : p ≠ oP := fun e => by rw [e, hP0] at hp; cases hp
            have hp4 : p ≠ oE := fun e => by rw [e, hE0] at hp; cases hp
            exact auto_heap)
            · rw [if_neg (by simp [h1])] at hS2
              subst hS2
              (first | focus (refine yy68 ?_; refine yy65 ?_; refine yy29 ?_; intro hc; refine yy30 ?_; intro hc; refine yy126 ?_; refine yy29 ?_; intro hc; refine aw_condp rfl (fun hc => ?_) (fun hc => ?_); refine yy76 ?_; refine yy10 ?_; (refine zc auto_wl (cn _) ?_; rintro r H' ⟨rfl, rfl⟩); refine yy6 ?_; refine yy73 ?_; (apply awt_s; · exact s_move (v := .raw _) rfl); (apply awt_s; · exact s_ltn rfl rfl); (apply awt_s; · exact s_move (v := .raw _) rfl); refine zt2 rfl rfl rfl (fun hc => ?_) (fun hc => ?_); (apply awt_s; · exact s_move (v := .sls _ _) rfl); refine yy3 ?_; (apply awt_s; · exact s_move (v := .raw _) rfl); refine yy3 ?_; (apply awt_s; · exact s_indexAddr_sls rfl rfl auto_len); refine yy3 ?_; (apply awt_s; · exact s_fieldAddr_pce rfl); refine yy3 ?_; (apply awt_s; · exact s_load_pce rfl auto_idx); refine yy3 ?_; (apply awt_s; · exact s_len_sls rfl); refine yy3 ?_; (apply awt_s; · exact s_nen rfl rfl); (apply awt_s; · exact s_pick_f (v := .raw _) rfl rfl); (apply awt_s; · exact s_move (v := .raw _) rfl); refine zt2 rfl rfl rfl (fun hc => ?_) (fun hc => ?_); exact absurd hc auto_no; replace hc := hide_nat hc; refine yy64 ?_; refine yy64 ?_; refine zt4 rfl rfl ?_; (apply awt_s; · exact s_pick_t (v := .raw _) rfl rfl); refine yy77 ?_; refine aw_cond_t rfl ?_; refine yy67 ?_; refine yy10 ?_; (refine zc auto_wl (ce _ auto_heap) ?_; rintro r H' ⟨rfl, rfl⟩); refine yy48 ?_; rotate_left; exact absurd hc auto_no; exact absurd hc auto_no) | fail)
              exact hgo _ _ (by (repeat' (first | exact RSub.nil _ | apply RSub.cons)); all_goals rfl) auto_heap auto_heap auto_heap (fun p y hpo hp => by
            have hp3 : p ≠ oP := fun e => by rw [e, hP0] at hp; cases hp
            have hp4 : p ≠ oE := fun e => by rw [e, hE0] at hp; cases hp
            exact auto_heap)
        · rw [if_neg hC, if_pos rfl] at hS
          subst hS
          replace hC := Hdq.mk hC
          (first | focus (refine yy68 ?_; refine yy65 ?_; refine yy29 ?_; intro hc; refine yy30 ?_; intro hc; refine yy126 ?_; refine yy29 ?_; intro hc; refine yy30 ?_; intro hc; refine yy39 ?_; rotate_left) | fail)
          exact hgo _ _ (by (repeat' (first | exact RSub.nil _ | apply RSub.cons)); all_goals rfl) auto_heap auto_heap auto_heap (fun p y hpo hp => by
            have hp3 : p ≠ oP := fun e => by rw [e, hP0] at hp; cases hp
            have hp4 : p ≠ oE := fun e => by rw [e, hE0] at hp; cases hp
            exact auto_heap)
    · rintro R1 H1 ⟨q1, q2, q3, hfr, rfl⟩
      clear hS ce cf cn hsp hoN
      (first | focus (refine yy15 ?_; refine aw_block ?_; rotate_left) | fail)
      refine aw_loop (fun mm R2 H2 => ∃ (i : Nat) (c' : Ck), i ≤ ks.length ∧ namesL ahead n c' (ks.drop i) = Z ∧ H2 oE = some (.cel [.str op, .str nm, avI nn, avI at_, .sls ks.length (exL ks)]) ∧ H2 oP = some (.cel [.str n.name, .sls n.ins.length (vrL n.ins), .sls n.outs.length (vrL n.outs), .sls n.locs.length (vrL n.locs), .sls n.eqs.length (eqL n.eqs), avI n.at_]) ∧ H2 o = some (.cel (ckA c')) ∧ (∀ p y, p ≠ o → H p = some y → H2 p = some y) ∧ R2 = [(0, .ptr o 0), (1, ndsA ahead), (6, .ptr oP 0), (7, .ptr oE 0), (11, avI i)] ∧ ks.length - i = mm) ?_ ?_
      · exact ⟨_, _, _, Ent.sub _ (by (repeat' (first | exact RSub.nil _ | apply RSub.cons)); all_goals rfl), 0, S, Nat.zero_le _, hZ, q1, q2, q3, hfr, rfl, rfl⟩
      clear hZ q1 q2 q3 hfr H1
      rintro mm R2 H2 ⟨i, c', hi, hZ, q1, q2, q3, hfr, rfl, rfl⟩
      by_cases hlt : i < ks.length
      · have hg : ks[i]? = some ks[i] := List.getElem?_eq_getElem hlt
        have hseg := exL_get hg
        have hmem := exSz_mem (List.getElem_mem hlt)
        rw [namesL_drop ahead n c' hg] at hZ
        generalize ks[i] = k at *
        have cb := fun H h => ih k H c' (by omega) (by omega) h
        generalize namesE ahead n c' k = c2 at *
        clear ih hg hmem
        (first | focus (refine yy93 ?_; refine yy89 ?_; refine aw_condp rfl (fun hc => ?_) (fun hc => ?_); refine yy13 ?_; refine yy124 ?_; (apply awt_s; · exact s_move (v := .ptr _ _) rfl); (apply awt_s; · exact s_move (v := .sls _ _) rfl); (apply awt_s; · exact s_load_agg rfl auto_heap rfl rfl (by first | decide | exact Nat.le_of_ble_eq_true rfl)); (apply awt_s; · exact s_fieldAddr_ptr rfl); (apply awt_s; · exact s_load_cel rfl auto_heap rfl); (apply awt_s; · exact s_move (v := .raw _) rfl); (apply awt_s; · exact s_indexAddr_sls rfl rfl auto_len); (apply awt_s; · exact s_load_pce_agg rfl (by assumption) (by rfl) (by decide)); refine awt_last ?_; (refine zc auto_wl (cb _ auto_heap) ?_; rintro r H' ⟨rfl, rfl⟩); refine yy48 ?_; refine yy22 ?_; rotate_left; exact absurd hc auto_no) | fail)
        exact ⟨ks.length - (i + 1), _, _, by omega, Ent.sub _ (by (repeat' (first | exact RSub.nil _ | apply RSub.cons)); all_goals rfl), i + 1, c2, by omega, hZ, by exact auto_heap, by exact auto_heap, by exact auto_heap, fun p y hpo hp => by
          have hp2 := hfr p y hpo hp
          exact auto_heap, rfl, rfl⟩
      · obtain rfl : i = ks.length := by omega
        rw [List.drop_length, namesL] at hZ
        subst hZ
        (first | focus (refine yy93 ?_; refine yy89 ?_; refine yy90 ?_; intro hc; refine aw_exit ?_; refine k_seq_exit ?_; refine k_seq_exit ?_; refine k_block_eq ?_; rotate_left) | fail)
        exact ⟨.inr rfl, _, _, _, Ent.gc (Sub.set q3 (fun p y hpo hp => hfr p y hpo hp)), ret0 rfl, rfl, rfl⟩
end Go.Proofs.Ytmgkhfnhaeplgaa

namespace Go.Proofs.Ytmgkhfnhaeplgaa
open Go Go.Am Go.Proofs
set_option linter.unusedSimpArgs false
set_option linter.unusedVariables false
set_option maxRecDepth 20000
set_option maxHeartbeats 8000000

/-! Names. -/
theorem flat_take {α : Type} {f : α → List AV} {sz : Nat} (hf : ∀ x, (f x).length = sz) : ∀ {l : List α} {i : Nat}, (l.flatMap f).take (i * sz) = (l.take i).flatMap f
  | [], i => by simp
  | x :: l, 0 => by simp
  | x :: l, i + 1 => by
    rw [List.flatMap_cons, List.take_append, hf, List.take_of_length_le (by rw [hf, Nat.add_mul]; omega), show (i + 1) * sz - sz = i * sz by rw [Nat.add_mul]; omega, flat_take hf]
    rfl
theorem varsN_len {n : Nd} (h : NdOk n) : (varsN n).length ≤ 6000000 := by
  have := h.i; have := h.o; have := h.l
  unfold varsN; rw [List.length_append, List.length_append]; omega
abbrev ckZ : List AV := [avI 0, avI 0]
theorem nd_take (l : List Nd) (i : Nat) : (ndL l).take (i * 6) = ndL (l.take i) := flat_take (sz := 6) (f := Nd.cells) (fun _ => rfl)
theorem inputL_snoc (s : Bs) (l : List Vr) (v : Vr) : inputL s (l ++ [v]) = (inputL s l || decide (v.name = s)) := by
  unfold inputL; rw [List.any_append, List.any_cons, List.any_nil, Bool.or_false]
theorem fail_or {c : Ck} {a : Nat} {b : Bool} {p : Prop} [Decidable p] : (if p then failC (if b = true then failC c 8 a else c) 8 a else (if b = true then failC c 8 a else c)) = if (b || decide p) = true then failC c 8 a else c := by
  have h : failC (failC c 8 a) 8 a = failC c 8 a := by
    unfold failC
    by_cases h : c.1 = 0
    · rw [if_pos h, if_neg (show ¬ ((8 : Nat), a).1 = 0 by simp)]
    · rw [if_neg h, if_neg h]
  cases b <;> by_cases hp : p <;> simp [hp, h]
theorem Names_calls (H : AHeap) (l : List Nd) (hl : l.length ≤ 2000000) (hok : ∀ n ∈ l, NdOk n) : ACalls Try.prog 22 [ndsA l] H fun r H' => r = .agg (ckA (names l)) ∧ H' = H := by
  have hvl := nd_len l
  unfold names
  generalize hZ : namesN [] l (0, 0) = Z
  refine acalls_of_aw1 Try.func22 rfl (by decide) ?_
  (first | focus (refine yy2 ?_; refine awl_alloc rfl rfl rfl (fun oN hoN => ?_); refine yy16 ?_; refine yy20 ?_; refine zb1 rfl rfl rfl (fun oN hoN => ?_); refine awl_s rfl (s_assign (v := .ptr _ _) rfl) ?_; refine yy42 ?_; refine yy71 ?_; rotate_left) | fail)
  rename_i oR hoR
  obtain ⟨oC, hoCe⟩ : ∃ x, x = oN := ⟨_, rfl⟩
  subst hoCe
  have hC0 : H oC = none := by (first | assumption | exact AHeap.none_of_set ((by assumption)) | exact AHeap.none_of_set (AHeap.none_of_set ((by assumption))) | exact AHeap.none_of_set (AHeap.none_of_set (AHeap.none_of_set ((by assumption)))) | exact AHeap.none_of_set (AHeap.none_of_set (AHeap.none_of_set (AHeap.none_of_set ((by assumption))))) | exact AHeap.none_of_set (AHeap.none_of_set (AHeap.none_of_set (AHeap.none_of_set (AHeap.none_of_set ((by assumption)))))) | exact AHeap.none_of_set (AHeap.none_of_set (AHeap.none_of_set (AHeap.none_of_set (AHeap.none_of_set (AHeap.none_of_set ((by assumption))))))) | exact AHeap.none_of_set (AHeap.none_of_set (AHeap.none_of_set (AHeap.none_of_set (AHeap.none_of_set (AHeap.none_of_set (AHeap.none_of_set ((by assumption)))))))) | exact AHeap.none_of_set (AHeap.none_of_set (AHeap.none_of_set (AHeap.none_of_set (AHeap.none_of_set (AHeap.none_of_set (AHeap.none_of_set (AHeap.none_of_set ((by assumption))))))))) | exact AHeap.none_of_set (AHeap.none_of_set (AHeap.none_of_set (AHeap.none_of_set (AHeap.none_of_set (AHeap.none_of_set (AHeap.none_of_set (AHeap.none_of_set (AHeap.none_of_set ((by assumption)))))))))) | exact AHeap.none_of_set (AHeap.none_of_set (AHeap.none_of_set (AHeap.none_of_set (AHeap.none_of_set (AHeap.none_of_set (AHeap.none_of_set (AHeap.none_of_set (AHeap.none_of_set (AHeap.none_of_set ((by assumption))))))))))))
  have hCR : oC ≠ oR := by (first | assumption | exact Ne.symm (by assumption) | exact AHeap.ne_of_fresh (by assumption) | exact Ne.symm (AHeap.ne_of_fresh (by assumption)) | exact AHeap.ne_of_fresh (AHeap.none_of_set (by assumption)) | exact Ne.symm (AHeap.ne_of_fresh (AHeap.none_of_set (by assumption))) | exact AHeap.ne_ns (by assumption) (by assumption) | exact AHeap.ne_sn (by assumption) (by assumption) | exact AHeap.ne_ns (by assumption) auto_heap2 | exact AHeap.ne_sn (by assumption) auto_heap2)
  refine aw_loop (fun mm R1 H1 => ∃ (i : Nat) (c : Ck), i ≤ l.length ∧ namesN (l.take i) (l.drop i) c = Z ∧ H1 oC = some (.cel (ckA c)) ∧ H1 oR = some (.cel ckZ) ∧ (∀ p y, H p = some y → H1 p = some y) ∧ R1 = [(0, ndsA l), (2, .ptr oR 0), (3, .ptr oC 0), (4, avI i)] ∧ l.length - i = mm) ?_ ?_
  · exact ⟨_, _, _, Ent.sub _ (by (repeat' (first | exact RSub.nil _ | apply RSub.cons)); all_goals rfl), 0, (0, 0), Nat.zero_le _, hZ, by exact auto_heap, by exact auto_heap, fun p y hp => auto_heap, rfl, rfl⟩
  clear hZ hoN
  rintro mm R1 H1 ⟨i, c, hi, hZ, q1, q2, hfr, rfl, rfl⟩
  by_cases hlt : i < l.length
  · have hg : l[i]? = some l[i] := List.getElem?_eq_getElem hlt
    have hd : l.drop i = l[i] :: l.drop (i + 1) := List.drop_eq_getElem_cons hlt
    have hsn : l.take (i + 1) = l.take i ++ [l[i]] := by rw [List.take_add_one, hg]; rfl
    have hsl : (ndL l).take (i * 6) = ndL (l.take i) := nd_take l i
    have htl : (l.take i).length = i := by rw [List.length_take, Nat.min_eq_left hi]
    have hn := hok _ (List.getElem_mem hlt)
    rw [hd, namesN, ← hsn] at hZ
    generalize l[i] = n at *
    have hseg : List.take 6 (List.drop (i * 6) (ndL l)) = [.str n.name, .sls n.ins.length (vrL n.ins), .sls n.outs.length (vrL n.outs), .sls n.locs.length (vrL n.locs), .sls n.eqs.length (eqL n.eqs), avI n.at_] := nd_get hg
    clear hg hd hsn
    replace hZ := Hdn.mk hZ
    generalize hpre : l.take i = pre at *
    have cn := fun H => NodeOf_calls H pre n.name (by omega)
    have cf := fun H h => fail_calls6 (o := oC) H c 8 n.at_ h
    unfold nameN at hZ
    generalize hc1 : (if (decide (0 ≤ nodeOf pre n.name) || decide (n.outs = [])) = true then failC c 8 n.at_ else c) = c1 at *
    generalize nodeOf pre n.name = zi at *
    have hla : ndsA pre = .sls (i - 0) (List.take ((i - 0) * 6) (List.drop (0 * 6) (ndL l))) := by unfold ndsA; rw [htl, Nat.sub_zero, Nat.zero_mul, List.drop_zero, hsl]
    rw [hla] at cn
    replace hla := Hdn.mk hla
    dsimp only at hZ
    (first | focus (refine yy45 ?_; refine aw_condp rfl (fun hc => ?_) (fun hc => ?_); refine yy13 ?_; refine yy76 ?_; refine yy47 ?_; refine yy101 ?_; refine awl_alloc rfl rfl rfl (fun oN hoN => ?_); refine yy11 ?_; refine yy4 ?_; rotate_left; exact absurd hc auto_no) | fail)
    obtain ⟨oX, hoXe⟩ : ∃ x, x = oN := ⟨_, rfl⟩
    subst hoXe
    have hX0 : H oX = none := by
      cases e : H oX with
      | none => rfl
      | some y => rw [hfr _ _ e] at hoN; cases hoN
    have hXC : oX ≠ oC := fun e => by rw [e, q1] at hoN; cases hoN
    have hXR : oX ≠ oR := fun e => by rw [e, q2] at hoN; cases hoN
    refine aw_seq ?_
    refine aw_kmid (fun R2 H2 => H2 oC = some (.cel (ckA c1)) ∧ H2 oR = some (.cel ckZ) ∧ H2 oX = some (.cel [.str n.name, .sls n.ins.length (vrL n.ins), .sls n.outs.length (vrL n.outs), .sls n.locs.length (vrL n.locs), .sls n.eqs.length (eqL n.eqs), avI n.at_]) ∧ (∀ p y, H p = some y → H2 p = some y) ∧ R2 = [(0, ndsA l), (2, .ptr oR 0), (3, .ptr oC 0), (4, avI i), (5, .ptr oX 0)]) ?_ ?_
    · clear hok
      by_cases hA : 0 ≤ zi
      · rw [if_pos (by simp [hA])] at hc1
        subst hc1
        (first | focus (refine yy73 ?_; (apply awt_s; · exact s_move (v := .sls _ _) rfl); (apply awt_s; · exact s_move (v := .raw _) rfl); (apply awt_s; · exact s_slice_sls rfl auto_bnd auto_bnd auto_len auto_len); (apply awt_s; · exact s_fieldAddr_ptr rfl); (apply awt_s; · exact s_load_cel rfl auto_heap rfl); (apply awt_s; · exact s_callc auto_wl (cn _)); (apply awt_s; · exact s_geq rfl rfl); (apply awt_s; · exact s_move (v := .raw _) rfl); refine zt2 rfl rfl rfl (fun hc => ?_) (fun hc => ?_); exact absurd hc auto_no; refine yy131 ?_; refine zt4 rfl rfl ?_; (apply awt_s; · exact s_pick_t (v := .raw _) rfl rfl); refine yy77 ?_; refine aw_cond_t rfl ?_; refine yy67 ?_; refine yy10 ?_; (refine zc auto_wl (cf _ auto_heap) ?_; rintro r H' ⟨rfl, rfl⟩); refine yy4 ?_; rotate_left) | fail)
        all_goals exact ⟨_, _, Ent.sub _ (by (repeat' (first | exact RSub.nil _ | apply RSub.cons)); all_goals rfl), by exact auto_heap, by exact auto_heap, by exact auto_heap, (fun p y hp => by
              have hp2 := hfr p y hp
              have hp3 : p ≠ oC := fun e => by rw [e, hC0] at hp; cases hp
              have hp4 : p ≠ oX := fun e => by rw [e, hX0] at hp; cases hp
              exact auto_heap), rfl⟩
      · by_cases hB : n.outs = []
        · rw [if_pos (by simp [hB])] at hc1
          subst hc1
          have hBl : n.outs.length = 0 := by rw [hB]; rfl
          (first | focus (refine yy73 ?_; (apply awt_s; · exact s_move (v := .sls _ _) rfl); (apply awt_s; · exact s_move (v := .raw _) rfl); (apply awt_s; · exact s_slice_sls rfl auto_bnd auto_bnd auto_len auto_len); (apply awt_s; · exact s_fieldAddr_ptr rfl); (apply awt_s; · exact s_load_cel rfl auto_heap rfl); (apply awt_s; · exact s_callc auto_wl (cn _)); (apply awt_s; · exact s_geq rfl rfl); (apply awt_s; · exact s_move (v := .raw _) rfl); refine zt2 rfl rfl rfl (fun hc => ?_) (fun hc => ?_); (apply awt_s; · exact s_fieldAddr_ptr rfl); refine yy3 ?_; (apply awt_s; · exact s_load_cel rfl auto_heap rfl); refine yy3 ?_; (apply awt_s; · exact s_len_sls rfl); refine yy3 ?_; (apply awt_s; · exact s_eqn rfl rfl); (apply awt_s; · exact s_pick_f (v := .raw _) rfl rfl); refine yy77 ?_; refine aw_condp rfl (fun hc => ?_) (fun hc => ?_); refine yy67 ?_; refine yy10 ?_; (refine zc auto_wl (cf _ auto_heap) ?_; rintro r H' ⟨rfl, rfl⟩); refine yy4 ?_; rotate_left; exact absurd hc auto_no; exact absurd hc auto_no) | fail)
          all_goals exact ⟨_, _, Ent.sub _ (by (repeat' (first | exact RSub.nil _ | apply RSub.cons)); all_goals rfl), by exact auto_heap, by exact auto_heap, by exact auto_heap, (fun p y hp => by
              have hp2 := hfr p y hp
              have hp3 : p ≠ oC := fun e => by rw [e, hC0] at hp; cases hp
              have hp4 : p ≠ oX := fun e => by rw [e, hX0] at hp; cases hp
              exact auto_heap), rfl⟩
        · rw [if_neg (by simp [hA, hB])] at hc1
          subst hc1
          have hBl : n.outs.length ≠ 0 := fun e => hB (List.eq_nil_of_length_eq_zero e)
          (first | focus (refine yy73 ?_; (apply awt_s; · exact s_move (v := .sls _ _) rfl); (apply awt_s; · exact s_move (v := .raw _) rfl); (apply awt_s; · exact s_slice_sls rfl auto_bnd auto_bnd auto_len auto_len); (apply awt_s; · exact s_fieldAddr_ptr rfl); (apply awt_s; · exact s_load_cel rfl auto_heap rfl); (apply awt_s; · exact s_callc auto_wl (cn _)); (apply awt_s; · exact s_geq rfl rfl); (apply awt_s; · exact s_move (v := .raw _) rfl); refine zt2 rfl rfl rfl (fun hc => ?_) (fun hc => ?_); (apply awt_s; · exact s_fieldAddr_ptr rfl); refine yy3 ?_; (apply awt_s; · exact s_load_cel rfl auto_heap rfl); refine yy3 ?_; (apply awt_s; · exact s_len_sls rfl); refine yy3 ?_; (apply awt_s; · exact s_eqn rfl rfl); (apply awt_s; · exact s_pick_f (v := .raw _) rfl rfl); refine yy77 ?_; refine yy90 ?_; intro hc; replace hc := hide_nat hc; refine yy35 ?_; rotate_left; exact absurd hc auto_no) | fail)
          all_goals exact ⟨_, _, Ent.sub _ (by (repeat' (first | exact RSub.nil _ | apply RSub.cons)); all_goals rfl), by exact auto_heap, by exact auto_heap, by exact auto_heap, (fun p y hp => by
              have hp2 := hfr p y hp
              have hp3 : p ≠ oC := fun e => by rw [e, hC0] at hp; cases hp
              have hp4 : p ≠ oX := fun e => by rw [e, hX0] at hp; cases hp
              exact auto_heap), rfl⟩
    clear hc1 cn cf q1 q2 hfr hoN hseg H1 c hpre
    rintro R2 H2 ⟨q1, q2, q3, hfr, rfl⟩
    have cv := fun H => Vars_calls H n hn.i hn.o hn.l
    have hlv := varsN_len hn
    have hmv := vr_len (varsN n)
    have hdv : (varsN n).drop n.ins.length = n.outs ++ n.locs := by unfold varsN; rw [List.append_assoc, List.drop_left]
    have hiv : n.ins.length ≤ (varsN n).length := by unfold varsN; rw [List.length_append, List.length_append]; omega
    generalize varsN n = v at *
    generalize hZ2 : namesV [] v c1 = Zv at *
    replace hZ2 := Hdn.mk hZ2
    replace hdv := Hdn.mk hdv
    (first | focus (refine yy98 ?_; (refine zc auto_wl (cv _) ?_; rintro r H' ⟨rfl, rfl⟩); refine yy83 ?_; refine yy42 ?_; refine yy71 ?_; rotate_left) | fail)
    clear cv
    refine aw_loop (fun mm R3 H3 => ∃ (k : Nat) (c : Ck), k ≤ v.length ∧ Hdn (namesV (v.take k) (v.drop k) c = Zv) ∧ H3 oC = some (.cel (ckA c)) ∧ H3 oR = some (.cel ckZ) ∧ H3 oX = some (.cel [.str n.name, .sls n.ins.length (vrL n.ins), .sls n.outs.length (vrL n.outs), .sls n.locs.length (vrL n.locs), .sls n.eqs.length (eqL n.eqs), avI n.at_]) ∧ (∀ p y, H p = some y → H3 p = some y) ∧ R3 = [(0, ndsA l), (2, .ptr oR 0), (3, .ptr oC 0), (4, avI i), (5, .ptr oX 0), (6, .sls v.length (vrL v)), (7, avI k)] ∧ v.length - k = mm) ?_ ?_
    · exact ⟨_, _, _, Ent.sub _ (by (repeat' (first | exact RSub.nil _ | apply RSub.cons)); all_goals rfl), 0, c1, Nat.zero_le _, hZ2, q1, q2, q3, hfr, rfl, rfl⟩
    clear hZ2 q1 q2 q3 hfr c1
    rintro mm R3 H3 ⟨k, c, hk, hZ2, q1, q2, q3, hfr, rfl, rfl⟩
    by_cases hkt : k < v.length
    · have hg : v[k]? = some v[k] := List.getElem?_eq_getElem hkt
      have hd : v.drop k = v[k] :: v.drop (k + 1) := List.drop_eq_getElem_cons hkt
      have hsk : v.take (k + 1) = v.take k ++ [v[k]] := by rw [List.take_add_one, hg]; rfl
      rw [hd, namesV, ← hsk] at hZ2
      generalize v[k] = x at *
      have y0 := vr_at hg (j := 0) (by decide) rfl
      have y2 := vr_at hg (j := 2) (by decide) rfl
      have y4 := vr_at hg (j := 4) (by decide) rfl
      clear hg hd hsk
      have cf := fun H (c : Ck) h => fail_calls6 (o := oC) H c 8 x.at_ h
      (first | focus (refine yy45 ?_; refine aw_condp rfl (fun hc => ?_) (fun hc => ?_); refine yy13 ?_; refine yy76 ?_; refine yy47 ?_; refine yy118 ?_; refine yy144 ?_; refine yy38 ?_; refine yy71 ?_; rotate_left; exact absurd hc auto_no) | fail)
      refine aw_loop (fun mm R4 H4 => ∃ (j : Nat) (b : Bool) (c' : Ck), j ≤ k ∧ Hdn (b = (decide (x.on = []) || inputL x.on (v.take j))) ∧ Hdn (c' = if inputL x.name (v.take j) then failC c 8 x.at_ else c) ∧ H4 oC = some (.cel (ckA c')) ∧ H4 oR = some (.cel ckZ) ∧ H4 oX = some (.cel [.str n.name, .sls n.ins.length (vrL n.ins), .sls n.outs.length (vrL n.outs), .sls n.locs.length (vrL n.locs), .sls n.eqs.length (eqL n.eqs), avI n.at_]) ∧ (∀ p y, H p = some y → H4 p = some y) ∧ R4 = [(0, ndsA l), (2, .ptr oR 0), (3, .ptr oC 0), (4, avI i), (5, .ptr oX 0), (6, .sls v.length (vrL v)), (7, avI k), (8, avB b), (9, avI j)] ∧ k - j = mm) ?_ ?_
      · exact ⟨_, _, _, Ent.sub _ (by (repeat' (first | exact RSub.nil _ | apply RSub.cons)); all_goals rfl), 0, decide (x.on = []), c, Nat.zero_le _, ⟨by simp [inputL]⟩, ⟨by simp [inputL]⟩, q1, q2, q3, hfr, rfl, rfl⟩
      clear q1 q2 q3 hfr
      rintro mm R4 H4 ⟨j, b, c', hj, hb, hc', q1, q2, q3, hfr, rfl, rfl⟩
      by_cases hjt : j < k
      · have hg : v[j]? = some v[j] := List.getElem?_eq_getElem (by omega)
        have hsj : v.take (j + 1) = v.take j ++ [v[j]] := by rw [List.take_add_one, hg]; rfl
        generalize v[j] = u at *
        have z0 := vr_at hg (j := 0) (by decide) rfl
        have hb2 : Hdn ((b || decide (u.name = x.on)) = (decide (x.on = []) || inputL x.on (v.take (j + 1)))) := ⟨by rw [hb.out, hsj, inputL_snoc, Bool.or_assoc]⟩
        have hc2 : Hdn ((if u.name = x.name then failC c' 8 x.at_ else c') = if inputL x.name (v.take (j + 1)) then failC c 8 x.at_ else c) := ⟨by rw [hc'.out, hsj, inputL_snoc]; exact fail_or⟩
        clear hg hsj hb hc' hZ2
        have cf := fun H h => cf H c' h
        generalize failC c' 8 x.at_ = c2 at *
        by_cases hu : u.name = x.name
        · rw [if_pos hu] at hc2
          rw [hu] at hb2 z0
          clear hu
          cases b
          · rw [Bool.false_or] at hb2
            (first | focus (refine yy9 ?_; refine yy7 ?_; refine yy49 ?_; refine aw_condp rfl (fun hc => ?_) (fun hc => ?_); refine yy13 ?_; refine aw_seq ?_; refine yy73 ?_; (apply awt_s; · exact s_move (v := .sls _ _) rfl); (apply awt_s; · exact s_move (v := .raw _) rfl); (apply awt_s; · exact s_indexAddr_sls rfl rfl auto_len); (apply awt_s; · exact s_fieldAddr_pce rfl); (apply awt_s; · exact s_load_pce rfl auto_idx); (apply awt_s; · exact s_move (v := .sls _ _) rfl); (apply awt_s; · exact s_move (v := .raw _) rfl); (apply awt_s; · exact s_indexAddr_sls rfl rfl auto_len); (apply awt_s; · exact s_fieldAddr_pce rfl); (apply awt_s; · exact s_load_pce rfl auto_idx); (apply awt_s; · exact s_streq rfl rfl); refine yy77 ?_; refine aw_condp rfl (fun hc => ?_) (fun hc => ?_); refine yy67 ?_; refine yy27 ?_; refine yy47 ?_; refine yy118 ?_; (refine zc auto_wl (cf _ auto_heap) ?_; rintro r H' ⟨rfl, rfl⟩); refine yy4 ?_; refine yy124 ?_; (apply awt_s; · exact s_move (v := .raw _) rfl); (apply awt_s; · exact s_move (v := .raw _) rfl); refine yy3 ?_; (apply awt_s; · exact s_move (v := .sls _ _) rfl); refine yy3 ?_; (apply awt_s; · exact s_move (v := .raw _) rfl); refine yy3 ?_; (apply awt_s; · exact s_indexAddr_sls rfl rfl auto_len); refine yy3 ?_; (apply awt_s; · exact s_fieldAddr_pce rfl); refine yy3 ?_; (apply awt_s; · exact s_load_pce rfl auto_idx); refine yy3 ?_; (apply awt_s; · exact s_move (v := .sls _ _) rfl); refine yy3 ?_; (apply awt_s; · exact s_move (v := .raw _) rfl); refine yy3 ?_; (apply awt_s; · exact s_indexAddr_sls rfl rfl auto_len); refine yy3 ?_; (apply awt_s; · exact s_fieldAddr_pce rfl); refine yy3 ?_; (apply awt_s; · exact s_load_pce rfl auto_idx); refine yy3 ?_; (apply awt_s; · exact s_streq rfl rfl); (apply awt_s; · exact s_pick_f (v := .raw _) rfl rfl); (apply awt_s; · exact s_assign (v := .raw _) rfl); refine yy128 ?_; refine yy100 ?_; refine yy22 ?_; rotate_left; exact absurd hc auto_no; exact absurd hc auto_no) | fail)
            all_goals exact ⟨k - (j + 1), _, _, by omega, Ent.sub _ (by (repeat' (first | exact RSub.nil _ | apply RSub.cons)); all_goals rfl), j + 1, decide (x.name = x.on), c2, by omega, hb2, hc2, by exact auto_heap, by exact auto_heap, by exact auto_heap, fun p y hp => by
              have hp2 := hfr p y hp
              have hp3 : p ≠ oC := fun e => by rw [e, hC0] at hp; cases hp
              exact auto_heap, rfl, rfl⟩
          · rw [Bool.true_or] at hb2
            (first | focus (refine yy9 ?_; refine yy7 ?_; refine yy49 ?_; refine aw_condp rfl (fun hc => ?_) (fun hc => ?_); refine yy13 ?_; refine aw_seq ?_; refine yy73 ?_; (apply awt_s; · exact s_move (v := .sls _ _) rfl); (apply awt_s; · exact s_move (v := .raw _) rfl); (apply awt_s; · exact s_indexAddr_sls rfl rfl auto_len); (apply awt_s; · exact s_fieldAddr_pce rfl); (apply awt_s; · exact s_load_pce rfl auto_idx); (apply awt_s; · exact s_move (v := .sls _ _) rfl); (apply awt_s; · exact s_move (v := .raw _) rfl); (apply awt_s; · exact s_indexAddr_sls rfl rfl auto_len); (apply awt_s; · exact s_fieldAddr_pce rfl); (apply awt_s; · exact s_load_pce rfl auto_idx); (apply awt_s; · exact s_streq rfl rfl); refine yy77 ?_; refine aw_condp rfl (fun hc => ?_) (fun hc => ?_); refine yy67 ?_; refine yy27 ?_; refine yy47 ?_; refine yy118 ?_; (refine zc auto_wl (cf _ auto_heap) ?_; rintro r H' ⟨rfl, rfl⟩); refine yy4 ?_; refine yy124 ?_; (apply awt_s; · exact s_move (v := .raw _) rfl); (apply awt_s; · exact s_move (v := .raw _) rfl); refine yy64 ?_; refine yy64 ?_; refine yy131 ?_; refine zt4 rfl rfl ?_; (apply awt_s; · exact s_pick_t (v := .raw _) rfl rfl); (apply awt_s; · exact s_assign (v := .raw _) rfl); refine yy128 ?_; refine yy100 ?_; refine yy22 ?_; rotate_left; exact absurd hc auto_no; exact absurd hc auto_no) | fail)
            all_goals exact ⟨k - (j + 1), _, _, by omega, Ent.sub _ (by (repeat' (first | exact RSub.nil _ | apply RSub.cons)); all_goals rfl), j + 1, true, c2, by omega, hb2, hc2, by exact auto_heap, by exact auto_heap, by exact auto_heap, fun p y hp => by
                have hp2 := hfr p y hp
                have hp3 : p ≠ oC := fun e => by rw [e, hC0] at hp; cases hp
                exact auto_heap, rfl, rfl⟩
        · rw [if_neg hu] at hc2
          replace hu := Hdq.mk hu
          cases b
          · rw [Bool.false_or] at hb2
            (first | focus (refine yy9 ?_; refine yy7 ?_; refine yy49 ?_; refine aw_condp rfl (fun hc => ?_) (fun hc => ?_); refine yy13 ?_; refine aw_seq ?_; refine yy73 ?_; (apply awt_s; · exact s_move (v := .sls _ _) rfl); (apply awt_s; · exact s_move (v := .raw _) rfl); (apply awt_s; · exact s_indexAddr_sls rfl rfl auto_len); (apply awt_s; · exact s_fieldAddr_pce rfl); (apply awt_s; · exact s_load_pce rfl auto_idx); (apply awt_s; · exact s_move (v := .sls _ _) rfl); (apply awt_s; · exact s_move (v := .raw _) rfl); (apply awt_s; · exact s_indexAddr_sls rfl rfl auto_len); (apply awt_s; · exact s_fieldAddr_pce rfl); (apply awt_s; · exact s_load_pce rfl auto_idx); (apply awt_s; · exact s_streq rfl rfl); refine yy77 ?_; refine yy30 ?_; intro hc; refine yy35 ?_; refine yy124 ?_; (apply awt_s; · exact s_move (v := .raw _) rfl); (apply awt_s; · exact s_move (v := .raw _) rfl); refine yy3 ?_; (apply awt_s; · exact s_move (v := .sls _ _) rfl); refine yy3 ?_; (apply awt_s; · exact s_move (v := .raw _) rfl); refine yy3 ?_; (apply awt_s; · exact s_indexAddr_sls rfl rfl auto_len); refine yy3 ?_; (apply awt_s; · exact s_fieldAddr_pce rfl); refine yy3 ?_; (apply awt_s; · exact s_load_pce rfl auto_idx); refine yy3 ?_; (apply awt_s; · exact s_move (v := .sls _ _) rfl); refine yy3 ?_; (apply awt_s; · exact s_move (v := .raw _) rfl); refine yy3 ?_; (apply awt_s; · exact s_indexAddr_sls rfl rfl auto_len); refine yy3 ?_; (apply awt_s; · exact s_fieldAddr_pce rfl); refine yy3 ?_; (apply awt_s; · exact s_load_pce rfl auto_idx); refine yy3 ?_; (apply awt_s; · exact s_streq rfl rfl); (apply awt_s; · exact s_pick_f (v := .raw _) rfl rfl); (apply awt_s; · exact s_assign (v := .raw _) rfl); refine yy128 ?_; refine yy100 ?_; refine yy22 ?_; rotate_left; exact absurd hc auto_no) | fail)
            all_goals exact ⟨k - (j + 1), _, _, by omega, Ent.sub _ (by (repeat' (first | exact RSub.nil _ | apply RSub.cons)); all_goals rfl), j + 1, decide (u.name = x.on), c', by omega, hb2, hc2, q1, q2, q3, hfr, rfl, rfl⟩
          · rw [Bool.true_or] at hb2
            (first | focus (refine yy9 ?_; refine yy7 ?_; refine yy49 ?_; refine aw_condp rfl (fun hc => ?_) (fun hc => ?_); refine yy13 ?_; refine aw_seq ?_; refine yy73 ?_; (apply awt_s; · exact s_move (v := .sls _ _) rfl); (apply awt_s; · exact s_move (v := .raw _) rfl); (apply awt_s; · exact s_indexAddr_sls rfl rfl auto_len); (apply awt_s; · exact s_fieldAddr_pce rfl); (apply awt_s; · exact s_load_pce rfl auto_idx); (apply awt_s; · exact s_move (v := .sls _ _) rfl); (apply awt_s; · exact s_move (v := .raw _) rfl); (apply awt_s; · exact s_indexAddr_sls rfl rfl auto_len); (apply awt_s; · exact s_fieldAddr_pce rfl); (apply awt_s; · exact s_load_pce rfl auto_idx); (apply awt_s; · exact s_streq rfl rfl); refine yy77 ?_; refine yy30 ?_; intro hc; refine yy35 ?_; refine yy124 ?_; (apply awt_s; · exact s_move (v := .raw _) rfl); (apply awt_s; · exact s_move (v := .raw _) rfl); refine yy64 ?_; refine yy64 ?_; refine yy131 ?_; refine zt4 rfl rfl ?_; (apply awt_s; · exact s_pick_t (v := .raw _) rfl rfl); (apply awt_s; · exact s_assign (v := .raw _) rfl); refine yy128 ?_; refine yy100 ?_; refine yy22 ?_; rotate_left; exact absurd hc auto_no) | fail)
            all_goals exact ⟨k - (j + 1), _, _, by omega, Ent.sub _ (by (repeat' (first | exact RSub.nil _ | apply RSub.cons)); all_goals rfl), j + 1, true, c', by omega, hb2, hc2, q1, q2, q3, hfr, rfl, rfl⟩
      · obtain rfl : j = k := by omega
        have hZ3 : Hdn (namesV (v.take (j + 1)) (v.drop (j + 1)) (if b = true then c' else failC c' 8 x.at_) = Zv) := ⟨by rw [← hZ2.out, hb.out, hc'.out]; rfl⟩
        clear hb hc' hZ2
        have cf := fun H h => cf H c' h
        generalize failC c' 8 x.at_ = c2 at *
        cases b
        · rw [if_neg (by decide)] at hZ3
          (first | focus (refine yy9 ?_; refine yy7 ?_; refine yy49 ?_; refine yy34 ?_; intro hc; refine yy19 ?_; refine yy104 ?_; refine yy67 ?_; refine yy27 ?_; refine yy47 ?_; refine yy118 ?_; (refine zc auto_wl (cf _ auto_heap) ?_; rintro r H' ⟨rfl, rfl⟩); refine yy48 ?_; refine yy22 ?_; rotate_left) | fail)
          all_goals exact ⟨v.length - (j + 1), _, _, by omega, Ent.sub _ (by (repeat' (first | exact RSub.nil _ | apply RSub.cons)); all_goals rfl), j + 1, c2, by omega, hZ3, by exact auto_heap, by exact auto_heap, by exact auto_heap, fun p y hp => by
                have hp2 := hfr p y hp
                have hp3 : p ≠ oC := fun e => by rw [e, hC0] at hp; cases hp
                exact auto_heap, rfl, rfl⟩
        · rw [if_pos rfl] at hZ3
          (first | focus (refine yy9 ?_; refine yy7 ?_; refine yy49 ?_; refine yy34 ?_; intro hc; refine yy19 ?_; refine yy52 ?_; refine yy81 ?_; refine yy39 ?_; refine yy22 ?_; rotate_left) | fail)
          all_goals exact ⟨v.length - (j + 1), _, _, by omega, Ent.sub _ (by (repeat' (first | exact RSub.nil _ | apply RSub.cons)); all_goals rfl), j + 1, c', by omega, hZ3, q1, q2, q3, hfr, rfl, rfl⟩
    · obtain rfl : k = v.length := by omega
      have hZ3 : c = Zv := by rw [← hZ2.out, List.drop_length, namesV]
      subst hZ3
      clear hZ2
      have heq := eq_len n.eqs
      have hbq := hn.q
      generalize hZ4 : namesQ pre n [] n.eqs c = Zq at *
      replace hZ4 := Hdn.mk hZ4
      (first | focus (refine yy45 ?_; refine yy34 ?_; intro hc; refine yy38 ?_; refine yy71 ?_; rotate_left) | fail)
      refine aw_loop (fun mm R3 H3 => ∃ (k : Nat) (c : Ck), k ≤ n.eqs.length ∧ Hdn (namesQ pre n (n.eqs.take k) (n.eqs.drop k) c = Zq) ∧ H3 oC = some (.cel (ckA c)) ∧ H3 oR = some (.cel ckZ) ∧ H3 oX = some (.cel [.str n.name, .sls n.ins.length (vrL n.ins), .sls n.outs.length (vrL n.outs), .sls n.locs.length (vrL n.locs), .sls n.eqs.length (eqL n.eqs), avI n.at_]) ∧ (∀ p y, H p = some y → H3 p = some y) ∧ R3 = [(0, ndsA l), (2, .ptr oR 0), (3, .ptr oC 0), (4, avI i), (5, .ptr oX 0), (6, .sls v.length (vrL v)), (10, avI k)] ∧ n.eqs.length - k = mm) ?_ ?_
      · exact ⟨_, _, _, Ent.sub _ (by (repeat' (first | exact RSub.nil _ | apply RSub.cons)); all_goals rfl), 0, c, Nat.zero_le _, hZ4, q1, q2, q3, hfr, rfl, rfl⟩
      clear hZ4 q1 q2 q3 hfr c hkt hk
      rintro mm R3 H3 ⟨k, c, hk, hZ4, q1, q2, q3, hfr, rfl, rfl⟩
      by_cases hkt : k < n.eqs.length
      · have hg : n.eqs[k]? = some n.eqs[k] := List.getElem?_eq_getElem hkt
        have hd : n.eqs.drop k = n.eqs[k] :: n.eqs.drop (k + 1) := List.drop_eq_getElem_cons hkt
        have hsk : n.eqs.take (k + 1) = n.eqs.take k ++ [n.eqs[k]] := by rw [List.take_add_one, hg]; rfl
        have hbx := hn.e _ (List.getElem_mem hkt)
        rw [hd, namesQ, ← hsk] at hZ4
        generalize n.eqs[k] = x at *
        have hsq : List.take 7 (List.drop (k * 7) (eqL n.eqs)) = [.str x.name, .str x.e.op, .str x.e.name, avI x.e.n, avI x.e.at_, .sls x.e.kids.length (exL x.e.kids), avI x.at_] := eq_get hg
        have y0 := eq_at hg (j := 0) (by decide) rfl
        have y6 := eq_at hg (j := 6) (by decide) rfl
        clear hg hd hsk
        have cf := fun H h => fail_calls6 (o := oC) H c 8 x.at_ h
        have cfd := fun H => Find_calls H n x.name hn.i hn.o hn.l
        have cin := fun H => input_calls H n x.name hn.i
        have cnm := fun H (c : Ck) h => names_calls (o := oC) pre n (by omega) hn.i hn.o hn.l _ x.e H c (Nat.le_refl _) hbx h
        rw [hla.out] at cnm
        unfold nameQ at hZ4
        generalize findV n x.name = fv at *
        generalize inputL x.name n.ins = bi at *
        obtain ⟨fv1, kn⟩ := fv
        simp only at hZ4
        (first | focus (refine yy93 ?_; refine yy89 ?_; refine aw_condp rfl (fun hc => ?_) (fun hc => ?_); refine yy13 ?_; refine yy99 ?_; refine yy47 ?_; refine yy101 ?_; refine awl_alloc rfl rfl rfl (fun oN hoN => ?_); refine yy11 ?_; refine yy16 ?_; refine yy26 ?_; refine yy10 ?_; (refine zc auto_wl (cfd _) ?_; rintro r H' ⟨rfl, rfl⟩); refine yy80 ?_; refine awl_alloc rfl rfl rfl (fun oN hoN => ?_); refine yy11 ?_; refine yy6 ?_; refine yy15 ?_; refine yy38 ?_; refine yy71 ?_; rotate_left; exact absurd hc auto_no) | fail)
        rename_i oQ hoQ
        have hQ3 : H3 oQ = none := by (first | assumption | exact AHeap.none_of_set ((by assumption)) | exact AHeap.none_of_set (AHeap.none_of_set ((by assumption))) | exact AHeap.none_of_set (AHeap.none_of_set (AHeap.none_of_set ((by assumption)))) | exact AHeap.none_of_set (AHeap.none_of_set (AHeap.none_of_set (AHeap.none_of_set ((by assumption))))) | exact AHeap.none_of_set (AHeap.none_of_set (AHeap.none_of_set (AHeap.none_of_set (AHeap.none_of_set ((by assumption)))))) | exact AHeap.none_of_set (AHeap.none_of_set (AHeap.none_of_set (AHeap.none_of_set (AHeap.none_of_set (AHeap.none_of_set ((by assumption))))))) | exact AHeap.none_of_set (AHeap.none_of_set (AHeap.none_of_set (AHeap.none_of_set (AHeap.none_of_set (AHeap.none_of_set (AHeap.none_of_set ((by assumption)))))))) | exact AHeap.none_of_set (AHeap.none_of_set (AHeap.none_of_set (AHeap.none_of_set (AHeap.none_of_set (AHeap.none_of_set (AHeap.none_of_set (AHeap.none_of_set ((by assumption))))))))) | exact AHeap.none_of_set (AHeap.none_of_set (AHeap.none_of_set (AHeap.none_of_set (AHeap.none_of_set (AHeap.none_of_set (AHeap.none_of_set (AHeap.none_of_set (AHeap.none_of_set ((by assumption)))))))))) | exact AHeap.none_of_set (AHeap.none_of_set (AHeap.none_of_set (AHeap.none_of_set (AHeap.none_of_set (AHeap.none_of_set (AHeap.none_of_set (AHeap.none_of_set (AHeap.none_of_set (AHeap.none_of_set ((by assumption))))))))))))
        have hN3 : H3 oN = none := by (first | assumption | exact AHeap.none_of_set ((by assumption)) | exact AHeap.none_of_set (AHeap.none_of_set ((by assumption))) | exact AHeap.none_of_set (AHeap.none_of_set (AHeap.none_of_set ((by assumption)))) | exact AHeap.none_of_set (AHeap.none_of_set (AHeap.none_of_set (AHeap.none_of_set ((by assumption))))) | exact AHeap.none_of_set (AHeap.none_of_set (AHeap.none_of_set (AHeap.none_of_set (AHeap.none_of_set ((by assumption)))))) | exact AHeap.none_of_set (AHeap.none_of_set (AHeap.none_of_set (AHeap.none_of_set (AHeap.none_of_set (AHeap.none_of_set ((by assumption))))))) | exact AHeap.none_of_set (AHeap.none_of_set (AHeap.none_of_set (AHeap.none_of_set (AHeap.none_of_set (AHeap.none_of_set (AHeap.none_of_set ((by assumption)))))))) | exact AHeap.none_of_set (AHeap.none_of_set (AHeap.none_of_set (AHeap.none_of_set (AHeap.none_of_set (AHeap.none_of_set (AHeap.none_of_set (AHeap.none_of_set ((by assumption))))))))) | exact AHeap.none_of_set (AHeap.none_of_set (AHeap.none_of_set (AHeap.none_of_set (AHeap.none_of_set (AHeap.none_of_set (AHeap.none_of_set (AHeap.none_of_set (AHeap.none_of_set ((by assumption)))))))))) | exact AHeap.none_of_set (AHeap.none_of_set (AHeap.none_of_set (AHeap.none_of_set (AHeap.none_of_set (AHeap.none_of_set (AHeap.none_of_set (AHeap.none_of_set (AHeap.none_of_set (AHeap.none_of_set ((by assumption))))))))))))
        have hQ0 : H oQ = none := by
          cases e : H oQ with
          | none => rfl
          | some y => rw [hfr _ _ e] at hQ3; cases hQ3
        have hQC : oQ ≠ oC := fun e => by rw [e, q1] at hQ3; cases hQ3
        have hQR : oQ ≠ oR := fun e => by rw [e, q2] at hQ3; cases hQ3
        have hQX : oQ ≠ oX := fun e => by rw [e, q3] at hQ3; cases hQ3
        have hNC : oN ≠ oC := fun e => by rw [e, q1] at hN3; cases hN3
        have hNR : oN ≠ oR := fun e => by rw [e, q2] at hN3; cases hN3
        have hNX : oN ≠ oX := fun e => by rw [e, q3] at hN3; cases hN3
        have hNQ : oN ≠ oQ := AHeap.ne_of_fresh hoN
        refine aw_loop (fun mm R4 H4 => ∃ (j : Nat) (b : Bool), j ≤ k ∧ Hdn (b = (n.eqs.take j).any fun p => decide (p.name = x.name)) ∧ H4 oC = some (.cel (ckA c)) ∧ H4 oR = some (.cel ckZ) ∧ H4 oX = some (.cel [.str n.name, .sls n.ins.length (vrL n.ins), .sls n.outs.length (vrL n.outs), .sls n.locs.length (vrL n.locs), .sls n.eqs.length (eqL n.eqs), avI n.at_]) ∧ H4 oQ = some (.cel [.str x.name, .str x.e.op, .str x.e.name, avI x.e.n, avI x.e.at_, .sls x.e.kids.length (exL x.e.kids), avI x.at_]) ∧ (∀ p y, H p = some y → H4 p = some y) ∧ R4 = [(0, ndsA l), (2, .ptr oR 0), (3, .ptr oC 0), (4, avI i), (5, .ptr oX 0), (6, .sls v.length (vrL v)), (10, avI k), (11, .ptr oQ 0), (13, avB kn), (14, avB b), (15, avI j)] ∧ k - j = mm) ?_ ?_
        · exact ⟨_, _, _, Ent.sub _ (by (repeat' (first | exact RSub.nil _ | apply RSub.cons)); all_goals rfl), 0, false, Nat.zero_le _, ⟨rfl⟩, by exact auto_heap, by exact auto_heap, by exact auto_heap, by exact auto_heap, fun p y hp => by
                have hp2 := hfr p y hp
                have hp5 : H3 p ≠ none := fun e => by rw [hp2] at e; cases e
                have hp6 : p ≠ oQ := fun e => hp5 (by rw [e]; exact hQ3)
                have hp7 : p ≠ oN := fun e => hp5 (by rw [e]; exact hN3)
                exact auto_heap, rfl, rfl⟩
        clear q1 q2 q3 hfr hoN hN3 hQ3 hNC hNR hNX hNQ hsq y0 y6 cfd
        rintro mm R4 H4 ⟨j, b, hj, hb, q1, q2, q3, q4, hfr, rfl, rfl⟩
        by_cases hjt : j < k
        · have hg : n.eqs[j]? = some n.eqs[j] := List.getElem?_eq_getElem (by omega)
          have hsj : n.eqs.take (j + 1) = n.eqs.take j ++ [n.eqs[j]] := by rw [List.take_add_one, hg]; rfl
          generalize n.eqs[j] = u at *
          have z0 := eq_at hg (j := 0) (by decide) rfl
          have hb2 : Hdn ((b || decide (u.name = x.name)) = (n.eqs.take (j + 1)).any fun p => decide (p.name = x.name)) := ⟨by rw [hb.out, hsj, List.any_append, List.any_cons, List.any_nil, Bool.or_false]⟩
          clear hg hsj hb hZ4 cf cin cnm
          cases b
          · rw [Bool.false_or] at hb2
            (first | focus (refine yy9 ?_; refine yy7 ?_; refine yy49 ?_; refine aw_condp rfl (fun hc => ?_) (fun hc => ?_); refine yy13 ?_; refine yy124 ?_; (apply awt_s; · exact s_move (v := .raw _) rfl); (apply awt_s; · exact s_move (v := .raw _) rfl); refine yy3 ?_; (apply awt_s; · exact s_fieldAddr_ptr rfl); refine yy3 ?_; (apply awt_s; · exact s_load_cel rfl auto_heap rfl); refine yy3 ?_; (apply awt_s; · exact s_move (v := .raw _) rfl); refine yy3 ?_; (apply awt_s; · exact s_indexAddr_sls rfl rfl auto_len); refine yy3 ?_; (apply awt_s; · exact s_fieldAddr_pce rfl); refine yy3 ?_; (apply awt_s; · exact s_load_pce rfl auto_idx); refine yy3 ?_; (apply awt_s; · exact s_fieldAddr_ptr rfl); refine yy3 ?_; (apply awt_s; · exact s_load_cel rfl auto_heap rfl); refine yy3 ?_; (apply awt_s; · exact s_streq rfl rfl); (apply awt_s; · exact s_pick_f (v := .raw _) rfl rfl); (apply awt_s; · exact s_assign (v := .raw _) rfl); refine yy128 ?_; refine yy100 ?_; refine yy22 ?_; rotate_left; exact absurd hc auto_no) | fail)
            all_goals exact ⟨k - (j + 1), _, _, by omega, Ent.sub _ (by (repeat' (first | exact RSub.nil _ | apply RSub.cons)); all_goals rfl), j + 1, decide (u.name = x.name), by omega, hb2, q1, q2, q3, q4, hfr, rfl, rfl⟩
          · rw [Bool.true_or] at hb2
            (first | focus (refine yy9 ?_; refine yy7 ?_; refine yy49 ?_; refine aw_condp rfl (fun hc => ?_) (fun hc => ?_); refine yy13 ?_; refine yy124 ?_; (apply awt_s; · exact s_move (v := .raw _) rfl); (apply awt_s; · exact s_move (v := .raw _) rfl); refine yy64 ?_; refine yy64 ?_; refine zt4 rfl rfl ?_; (apply awt_s; · exact s_pick_t (v := .raw _) rfl rfl); (apply awt_s; · exact s_assign (v := .raw _) rfl); refine yy128 ?_; refine yy100 ?_; refine yy22 ?_; rotate_left; exact absurd hc auto_no) | fail)
            all_goals exact ⟨k - (j + 1), _, _, by omega, Ent.sub _ (by (repeat' (first | exact RSub.nil _ | apply RSub.cons)); all_goals rfl), j + 1, true, by omega, hb2, q1, q2, q3, q4, hfr, rfl, rfl⟩
        · obtain rfl : j = k := by omega
          have hZ5 : Hdn (namesQ pre n (n.eqs.take (j + 1)) (n.eqs.drop (j + 1)) (namesE pre n (if (!kn || bi || b) = true then failC c 8 x.at_ else c) x.e) = Zq) := ⟨by rw [hb.out]; exact hZ4.out⟩
          clear hb hZ4
          generalize failC c 8 x.at_ = c2 at *
          simp only [exA, Ex.cells] at cnm
          cases kn
          · simp only [Bool.not_false, Bool.true_or, if_true] at hZ5
            (first | focus (refine yy9 ?_; refine yy7 ?_; refine yy49 ?_; refine yy34 ?_; intro hc; refine yy9 ?_; refine yy52 ?_; refine yy7 ?_; refine yy66 ?_; refine yy117 ?_; refine yy120 ?_; refine yy112 ?_; refine yy67 ?_; refine yy10 ?_; (refine zc auto_wl (cf _ auto_heap) ?_; rintro r H' ⟨rfl, rfl⟩); refine yy4 ?_; refine yy124 ?_; (apply awt_s; · exact s_move (v := .ptr _ _) rfl); (apply awt_s; · exact s_move (v := .sls _ _) rfl); (apply awt_s; · exact s_move (v := .raw _) rfl); (apply awt_s; · exact s_slice_sls rfl auto_bnd auto_bnd auto_len auto_len); (apply awt_s; · exact s_load_agg rfl auto_heap rfl rfl (by first | decide | exact Nat.le_of_ble_eq_true rfl)); (apply awt_s; · exact s_fieldAddr_ptr rfl); (apply awt_s; · exact s_load_agg rfl auto_heap rfl rfl (by first | decide | exact Nat.le_of_ble_eq_true rfl)); refine awt_last ?_; (refine zc auto_wl (cnm _ _ auto_heap) ?_; rintro r H' ⟨rfl, rfl⟩); refine yy48 ?_; refine yy22 ?_; rotate_left) | fail)
            all_goals exact ⟨n.eqs.length - (j + 1), _, _, by omega, Ent.sub _ (by (repeat' (first | exact RSub.nil _ | apply RSub.cons)); all_goals rfl), j + 1, _, by omega, hZ5, by exact auto_heap, by exact auto_heap, by exact auto_heap, fun p y hp => by
                have hp2 := hfr p y hp
                have hp3 : p ≠ oC := fun e => by rw [e, hC0] at hp; cases hp
                exact auto_heap, rfl, rfl⟩
          · cases bi
            · cases b
              · simp only [Bool.not_true, Bool.false_or, Bool.false_eq_true, if_false] at hZ5
                (first | focus (refine yy9 ?_; refine yy7 ?_; refine yy49 ?_; refine yy34 ?_; intro hc; refine yy9 ?_; refine yy52 ?_; refine yy18 ?_; refine yy26 ?_; refine yy5 ?_; refine yy62 ?_; refine yy5 ?_; refine yy135 ?_; refine yy5 ?_; (refine zc auto_wl (cin _) ?_; rintro r H' ⟨rfl, rfl⟩); refine yy63 ?_; refine yy18 ?_; refine yy7 ?_; refine yy63 ?_; refine yy25 ?_; refine yy124 ?_; (apply awt_s; · exact s_move (v := .ptr _ _) rfl); (apply awt_s; · exact s_move (v := .sls _ _) rfl); (apply awt_s; · exact s_move (v := .raw _) rfl); (apply awt_s; · exact s_slice_sls rfl auto_bnd auto_bnd auto_len auto_len); (apply awt_s; · exact s_load_agg rfl auto_heap rfl rfl (by first | decide | exact Nat.le_of_ble_eq_true rfl)); (apply awt_s; · exact s_fieldAddr_ptr rfl); (apply awt_s; · exact s_load_agg rfl auto_heap rfl rfl (by first | decide | exact Nat.le_of_ble_eq_true rfl)); refine awt_last ?_; (refine zc auto_wl (cnm _ _ auto_heap) ?_; rintro r H' ⟨rfl, rfl⟩); refine yy48 ?_; refine yy22 ?_; rotate_left) | fail)
                all_goals exact ⟨n.eqs.length - (j + 1), _, _, by omega, Ent.sub _ (by (repeat' (first | exact RSub.nil _ | apply RSub.cons)); all_goals rfl), j + 1, _, by omega, hZ5, by exact auto_heap, by exact auto_heap, by exact auto_heap, fun p y hp => by
                have hp2 := hfr p y hp
                have hp3 : p ≠ oC := fun e => by rw [e, hC0] at hp; cases hp
                exact auto_heap, rfl, rfl⟩
              · simp only [Bool.not_true, Bool.false_or, if_true] at hZ5
                (first | focus (refine yy9 ?_; refine yy7 ?_; refine yy49 ?_; refine yy34 ?_; intro hc; refine yy9 ?_; refine yy52 ?_; refine yy18 ?_; refine yy26 ?_; refine yy5 ?_; refine yy62 ?_; refine yy5 ?_; refine yy135 ?_; refine yy5 ?_; (refine zc auto_wl (cin _) ?_; rintro r H' ⟨rfl, rfl⟩); refine yy63 ?_; refine yy18 ?_; refine yy7 ?_; refine yy63 ?_; refine yy122 ?_; refine yy67 ?_; refine yy10 ?_; (refine zc auto_wl (cf _ auto_heap) ?_; rintro r H' ⟨rfl, rfl⟩); refine yy4 ?_; refine yy124 ?_; (apply awt_s; · exact s_move (v := .ptr _ _) rfl); (apply awt_s; · exact s_move (v := .sls _ _) rfl); (apply awt_s; · exact s_move (v := .raw _) rfl); (apply awt_s; · exact s_slice_sls rfl auto_bnd auto_bnd auto_len auto_len); (apply awt_s; · exact s_load_agg rfl auto_heap rfl rfl (by first | decide | exact Nat.le_of_ble_eq_true rfl)); (apply awt_s; · exact s_fieldAddr_ptr rfl); (apply awt_s; · exact s_load_agg rfl auto_heap rfl rfl (by first | decide | exact Nat.le_of_ble_eq_true rfl)); refine awt_last ?_; (refine zc auto_wl (cnm _ _ auto_heap) ?_; rintro r H' ⟨rfl, rfl⟩); refine yy48 ?_; refine yy22 ?_; rotate_left) | fail)
                all_goals exact ⟨n.eqs.length - (j + 1), _, _, by omega, Ent.sub _ (by (repeat' (first | exact RSub.nil _ | apply RSub.cons)); all_goals rfl), j + 1, _, by omega, hZ5, by exact auto_heap, by exact auto_heap, by exact auto_heap, fun p y hp => by
                have hp2 := hfr p y hp
                have hp3 : p ≠ oC := fun e => by rw [e, hC0] at hp; cases hp
                exact auto_heap, rfl, rfl⟩
            · simp only [Bool.not_true, Bool.false_or, Bool.true_or, if_true] at hZ5
              (first | focus (refine yy9 ?_; refine yy7 ?_; refine yy49 ?_; refine yy34 ?_; intro hc; refine yy9 ?_; refine yy52 ?_; refine yy18 ?_; refine yy26 ?_; refine yy5 ?_; refine yy62 ?_; refine yy5 ?_; refine yy135 ?_; refine yy5 ?_; (refine zc auto_wl (cin _) ?_; rintro r H' ⟨rfl, rfl⟩); refine yy63 ?_; refine yy7 ?_; refine yy120 ?_; refine yy112 ?_; refine yy67 ?_; refine yy10 ?_; (refine zc auto_wl (cf _ auto_heap) ?_; rintro r H' ⟨rfl, rfl⟩); refine yy4 ?_; refine yy124 ?_; (apply awt_s; · exact s_move (v := .ptr _ _) rfl); (apply awt_s; · exact s_move (v := .sls _ _) rfl); (apply awt_s; · exact s_move (v := .raw _) rfl); (apply awt_s; · exact s_slice_sls rfl auto_bnd auto_bnd auto_len auto_len); (apply awt_s; · exact s_load_agg rfl auto_heap rfl rfl (by first | decide | exact Nat.le_of_ble_eq_true rfl)); (apply awt_s; · exact s_fieldAddr_ptr rfl); (apply awt_s; · exact s_load_agg rfl auto_heap rfl rfl (by first | decide | exact Nat.le_of_ble_eq_true rfl)); refine awt_last ?_; (refine zc auto_wl (cnm _ _ auto_heap) ?_; rintro r H' ⟨rfl, rfl⟩); refine yy48 ?_; refine yy22 ?_; rotate_left) | fail)
              all_goals exact ⟨n.eqs.length - (j + 1), _, _, by omega, Ent.sub _ (by (repeat' (first | exact RSub.nil _ | apply RSub.cons)); all_goals rfl), j + 1, _, by omega, hZ5, by exact auto_heap, by exact auto_heap, by exact auto_heap, fun p y hp => by
                have hp2 := hfr p y hp
                have hp3 : p ≠ oC := fun e => by rw [e, hC0] at hp; cases hp
                exact auto_heap, rfl, rfl⟩
      · obtain rfl : k = n.eqs.length := by omega
        have hZ3 : c = Zq := by rw [← hZ4.out, List.drop_length, namesQ]
        subst hZ3
        clear hZ4
        generalize hZ6 : namesO n (n.outs ++ n.locs) c = Zo at *
        rw [← hdv.out] at hZ6
        replace hZ6 := Hdn.mk hZ6
        (first | focus (refine yy93 ?_; refine yy89 ?_; refine yy34 ?_; intro hc; refine yy99 ?_; refine yy115 ?_; refine yy71 ?_; rotate_left) | fail)
        refine aw_loop (fun mm R3 H3 => ∃ (k : Nat) (c : Ck), k ≤ v.length ∧ Hdn (namesO n (v.drop k) c = Zo) ∧ H3 oC = some (.cel (ckA c)) ∧ H3 oR = some (.cel ckZ) ∧ H3 oX = some (.cel [.str n.name, .sls n.ins.length (vrL n.ins), .sls n.outs.length (vrL n.outs), .sls n.locs.length (vrL n.locs), .sls n.eqs.length (eqL n.eqs), avI n.at_]) ∧ (∀ p y, H p = some y → H3 p = some y) ∧ R3 = [(0, ndsA l), (2, .ptr oR 0), (3, .ptr oC 0), (4, avI i), (5, .ptr oX 0), (6, .sls v.length (vrL v)), (16, avI k)] ∧ v.length - k = mm) ?_ ?_
        · exact ⟨_, _, _, Ent.sub _ (by (repeat' (first | exact RSub.nil _ | apply RSub.cons)); all_goals rfl), n.ins.length, c, hiv, hZ6, q1, q2, q3, hfr, rfl, rfl⟩
        clear hZ6 q1 q2 q3 hfr c hkt hk
        rintro mm R3 H3 ⟨k, c, hk, hZ6, q1, q2, q3, hfr, rfl, rfl⟩
        by_cases hkt : k < v.length
        · have hg : v[k]? = some v[k] := List.getElem?_eq_getElem hkt
          have hd : v.drop k = v[k] :: v.drop (k + 1) := List.drop_eq_getElem_cons hkt
          rw [hd, namesO] at hZ6
          generalize v[k] = x at *
          have y0 := vr_at hg (j := 0) (by decide) rfl
          have y4 := vr_at hg (j := 4) (by decide) rfl
          clear hg hd
          have cf := fun H h => fail_calls6 (o := oC) H c 8 x.at_ h
          have ceq := fun H => EqOf_calls H n x.name hn.q
          generalize eqOf n x.name = qv at *
          generalize failC c 8 x.at_ = c2 at *
          obtain ⟨qv1, kn⟩ := qv
          simp only at hZ6 ceq
          cases kn
          · rw [if_neg (by decide)] at hZ6
            (first | focus (refine yy45 ?_; refine aw_condp rfl (fun hc => ?_) (fun hc => ?_); refine yy13 ?_; refine aw_seq ?_; refine DC.aw_drawpx [46] (fun H' => H' oX = some (.cel [.str n.name, .sls n.ins.length (vrL n.ins), .sls n.outs.length (vrL n.outs), .sls n.locs.length (vrL n.locs), .sls n.eqs.length (eqL n.eqs), avI n.at_])) (by first | exact auto_heap) auto_kr auto_dk auto_dk ?_; (apply DC.awn_s; · (intro H1 hPsi; (try dsimp only at hPsi); exact s_load_agg rfl auto_heap rfl rfl (by first | decide | exact Nat.le_of_ble_eq_true rfl))); (apply DC.awn_s; · (intro H1 hPsi; (try dsimp only at hPsi); exact s_move (v := .sls _ _) rfl)); (apply DC.awn_s; · (intro H1 hPsi; (try dsimp only at hPsi); exact s_move (v := .raw _) rfl)); (apply DC.awn_s; · (intro H1 hPsi; (try dsimp only at hPsi); exact s_indexAddr_sls rfl rfl auto_len)); (apply DC.awn_s; · (intro H1 hPsi; (try dsimp only at hPsi); exact s_fieldAddr_pce rfl)); (apply DC.awn_s; · (intro H1 hPsi; (try dsimp only at hPsi); exact s_load_pce rfl auto_idx)); (apply DC.awn_s; · (intro H1 hPsi; (try dsimp only at hPsi); exact s_callc auto_wl (ceq _))); (apply DC.awn_s; · (intro H1 hPsi; (try dsimp only at hPsi); exact s_move (v := .tup _) rfl)); (apply DC.awn_s; · (intro H1 hPsi; (try dsimp only at hPsi); exact s_extract rfl rfl)); (apply DC.awn_s; · (intro H1 hPsi; (try dsimp only at hPsi); exact s_extract rfl rfl)); refine DC.awn_b ?_; refine DC.awn_b0 ?_; (apply DC.awn_s; · (intro H1 hPsi; (try dsimp only at hPsi); exact s_assign (v := .raw _) rfl)); refine DC.awn_nil ?_; refine DC.awc_cons (fun Rx K1 hK1x => ?_); refine awl_alloc rfl rfl rfl (fun oN hoN => ?_); refine yy61 ?_; (refine hK1x _ _ (by first | exact Or.inl (by decide +kernel) | (refine Or.inr ?_; (try dsimp only); first | exact auto_heap)) ?_; clear hK1x K1 Rx); refine DC.awc_cons0 (fun Rx K1 hK1x => ?_); refine yy11 ?_; refine yy61 ?_; (refine hK1x _ (by first | exact Or.inl (by decide +kernel) | (refine Or.inr ?_; (try dsimp only); first | exact auto_heap)) ?_; clear hK1x K1 Rx); refine DC.awc_nil ?_; refine k_seq_normal ?_; refine yy19 ?_; refine yy104 ?_; refine yy67 ?_; refine yy27 ?_; refine yy47 ?_; refine yy118 ?_; (refine zc auto_wl (cf _ auto_heap) ?_; rintro r H' ⟨rfl, rfl⟩); refine yy48 ?_; refine yy22 ?_; rotate_left; exact absurd hc auto_no) | fail)
            all_goals (
              have hN3 : H3 oN = none := by (first | assumption | exact AHeap.none_of_set ((by assumption)) | exact AHeap.none_of_set (AHeap.none_of_set ((by assumption))) | exact AHeap.none_of_set (AHeap.none_of_set (AHeap.none_of_set ((by assumption)))) | exact AHeap.none_of_set (AHeap.none_of_set (AHeap.none_of_set (AHeap.none_of_set ((by assumption))))) | exact AHeap.none_of_set (AHeap.none_of_set (AHeap.none_of_set (AHeap.none_of_set (AHeap.none_of_set ((by assumption)))))) | exact AHeap.none_of_set (AHeap.none_of_set (AHeap.none_of_set (AHeap.none_of_set (AHeap.none_of_set (AHeap.none_of_set ((by assumption))))))) | exact AHeap.none_of_set (AHeap.none_of_set (AHeap.none_of_set (AHeap.none_of_set (AHeap.none_of_set (AHeap.none_of_set (AHeap.none_of_set ((by assumption)))))))) | exact AHeap.none_of_set (AHeap.none_of_set (AHeap.none_of_set (AHeap.none_of_set (AHeap.none_of_set (AHeap.none_of_set (AHeap.none_of_set (AHeap.none_of_set ((by assumption))))))))) | exact AHeap.none_of_set (AHeap.none_of_set (AHeap.none_of_set (AHeap.none_of_set (AHeap.none_of_set (AHeap.none_of_set (AHeap.none_of_set (AHeap.none_of_set (AHeap.none_of_set ((by assumption)))))))))) | exact AHeap.none_of_set (AHeap.none_of_set (AHeap.none_of_set (AHeap.none_of_set (AHeap.none_of_set (AHeap.none_of_set (AHeap.none_of_set (AHeap.none_of_set (AHeap.none_of_set (AHeap.none_of_set ((by assumption))))))))))))
              have hNC : oN ≠ oC := fun e => by rw [e, q1] at hN3; cases hN3
              have hNR : oN ≠ oR := fun e => by rw [e, q2] at hN3; cases hN3
              have hNX : oN ≠ oX := fun e => by rw [e, q3] at hN3; cases hN3
              exact ⟨v.length - (k + 1), _, _, by omega, Ent.sub _ (by (repeat' (first | exact RSub.nil _ | apply RSub.cons)); all_goals rfl), k + 1, c2, by omega, hZ6, by exact auto_heap, by exact auto_heap, by exact auto_heap, fun p y hp => by
                have hp2 := hfr p y hp
                have hp3 : p ≠ oC := fun e => by rw [e, hC0] at hp; cases hp
                have hp5 : H3 p ≠ none := fun e => by rw [hp2] at e; cases e
                have hp7 : p ≠ oN := fun e => hp5 (by rw [e]; exact hN3)
                exact auto_heap, rfl, rfl⟩)
          · rw [if_pos rfl] at hZ6
            (first | focus (refine yy45 ?_; refine aw_condp rfl (fun hc => ?_) (fun hc => ?_); refine yy13 ?_; refine aw_seq ?_; refine DC.aw_drawpx [46] (fun H' => H' oX = some (.cel [.str n.name, .sls n.ins.length (vrL n.ins), .sls n.outs.length (vrL n.outs), .sls n.locs.length (vrL n.locs), .sls n.eqs.length (eqL n.eqs), avI n.at_])) (by first | exact auto_heap) auto_kr auto_dk auto_dk ?_; (apply DC.awn_s; · (intro H1 hPsi; (try dsimp only at hPsi); exact s_load_agg rfl auto_heap rfl rfl (by first | decide | exact Nat.le_of_ble_eq_true rfl))); (apply DC.awn_s; · (intro H1 hPsi; (try dsimp only at hPsi); exact s_move (v := .sls _ _) rfl)); (apply DC.awn_s; · (intro H1 hPsi; (try dsimp only at hPsi); exact s_move (v := .raw _) rfl)); (apply DC.awn_s; · (intro H1 hPsi; (try dsimp only at hPsi); exact s_indexAddr_sls rfl rfl auto_len)); (apply DC.awn_s; · (intro H1 hPsi; (try dsimp only at hPsi); exact s_fieldAddr_pce rfl)); (apply DC.awn_s; · (intro H1 hPsi; (try dsimp only at hPsi); exact s_load_pce rfl auto_idx)); (apply DC.awn_s; · (intro H1 hPsi; (try dsimp only at hPsi); exact s_callc auto_wl (ceq _))); (apply DC.awn_s; · (intro H1 hPsi; (try dsimp only at hPsi); exact s_move (v := .tup _) rfl)); (apply DC.awn_s; · (intro H1 hPsi; (try dsimp only at hPsi); exact s_extract rfl rfl)); (apply DC.awn_s; · (intro H1 hPsi; (try dsimp only at hPsi); exact s_extract rfl rfl)); refine DC.awn_b ?_; refine DC.awn_b0 ?_; (apply DC.awn_s; · (intro H1 hPsi; (try dsimp only at hPsi); exact s_assign (v := .raw _) rfl)); refine DC.awn_nil ?_; refine DC.awc_cons (fun Rx K1 hK1x => ?_); refine awl_alloc rfl rfl rfl (fun oN hoN => ?_); refine yy61 ?_; (refine hK1x _ _ (by first | exact Or.inl (by decide +kernel) | (refine Or.inr ?_; (try dsimp only); first | exact auto_heap)) ?_; clear hK1x K1 Rx); refine DC.awc_cons0 (fun Rx K1 hK1x => ?_); refine yy11 ?_; refine yy61 ?_; (refine hK1x _ (by first | exact Or.inl (by decide +kernel) | (refine Or.inr ?_; (try dsimp only); first | exact auto_heap)) ?_; clear hK1x K1 Rx); refine DC.awc_nil ?_; refine k_seq_normal ?_; refine yy19 ?_; refine yy52 ?_; refine yy81 ?_; refine yy39 ?_; refine yy22 ?_; rotate_left; exact absurd hc auto_no) | fail)
            all_goals (
              have hN3 : H3 oN = none := by (first | assumption | exact AHeap.none_of_set ((by assumption)) | exact AHeap.none_of_set (AHeap.none_of_set ((by assumption))) | exact AHeap.none_of_set (AHeap.none_of_set (AHeap.none_of_set ((by assumption)))) | exact AHeap.none_of_set (AHeap.none_of_set (AHeap.none_of_set (AHeap.none_of_set ((by assumption))))) | exact AHeap.none_of_set (AHeap.none_of_set (AHeap.none_of_set (AHeap.none_of_set (AHeap.none_of_set ((by assumption)))))) | exact AHeap.none_of_set (AHeap.none_of_set (AHeap.none_of_set (AHeap.none_of_set (AHeap.none_of_set (AHeap.none_of_set ((by assumption))))))) | exact AHeap.none_of_set (AHeap.none_of_set (AHeap.none_of_set (AHeap.none_of_set (AHeap.none_of_set (AHeap.none_of_set (AHeap.none_of_set ((by assumption)))))))) | exact AHeap.none_of_set (AHeap.none_of_set (AHeap.none_of_set (AHeap.none_of_set (AHeap.none_of_set (AHeap.none_of_set (AHeap.none_of_set (AHeap.none_of_set ((by assumption))))))))) | exact AHeap.none_of_set (AHeap.none_of_set (AHeap.none_of_set (AHeap.none_of_set (AHeap.none_of_set (AHeap.none_of_set (AHeap.none_of_set (AHeap.none_of_set (AHeap.none_of_set ((by assumption)))))))))) | exact AHeap.none_of_set (AHeap.none_of_set (AHeap.none_of_set (AHeap.none_of_set (AHeap.none_of_set (AHeap.none_of_set (AHeap.none_of_set (AHeap.none_of_set (AHeap.none_of_set (AHeap.none_of_set ((by assumption))))))))))))
              have hNC : oN ≠ oC := fun e => by rw [e, q1] at hN3; cases hN3
              have hNR : oN ≠ oR := fun e => by rw [e, q2] at hN3; cases hN3
              have hNX : oN ≠ oX := fun e => by rw [e, q3] at hN3; cases hN3
              exact ⟨v.length - (k + 1), _, _, by omega, Ent.sub _ (by (repeat' (first | exact RSub.nil _ | apply RSub.cons)); all_goals rfl), k + 1, c, by omega, hZ6, by exact auto_heap, by exact auto_heap, by exact auto_heap, fun p y hp => by
                have hp2 := hfr p y hp
                have hp5 : H3 p ≠ none := fun e => by rw [hp2] at e; cases e
                have hp7 : p ≠ oN := fun e => hp5 (by rw [e]; exact hN3)
                exact auto_heap, rfl, rfl⟩)
        · obtain rfl : k = v.length := by omega
          have hZ3 : c = Zo := by rw [← hZ6.out, List.drop_length, namesO]
          subst hZ3
          clear hZ6
          (first | focus (refine yy45 ?_; refine yy90 ?_; intro hc; refine aw_exit ?_; refine k_seq_exit ?_; refine k_seq_exit ?_; refine k_block_eq ?_; refine yy100 ?_; refine yy22 ?_; rotate_left) | fail)
          all_goals exact ⟨l.length - (i + 1), _, _, by omega, Ent.sub _ (by (repeat' (first | exact RSub.nil _ | apply RSub.cons)); all_goals rfl), i + 1, c, by omega, hZ.out, q1, q2, hfr, rfl, rfl⟩
  · obtain rfl : i = l.length := by omega
    rw [List.drop_length, namesN] at hZ
    subst hZ
    (first | focus (refine yy45 ?_; refine yy34 ?_; intro hc; refine yy8 ?_; refine yy88 ?_; refine yy26 ?_; refine yy36 ?_; rotate_left) | fail)
    exact ⟨.inl rfl, _, _, _, Ent.cellRet 2 (ckA c) rfl auto_heap (by ((repeat' (first | exact WC.nil | apply WC.cons)); all_goals (first | exact W.of rfl | exact W.int rfl | exact W.nilb rfl | exact W.empb rfl | exact W.bysx rfl | exact W.nils rfl | exact W.emps rfl | exact W.slsx rfl))) (fun sp sy shp => by
      have hp2 := hfr sp sy shp
      have hp3 : sp ≠ oR := fun e => by rw [e, hoR] at shp; cases shp
      exact ⟨hp3, auto_heap⟩), ret_1 rfl (rv1_agg (m := 2) rfl rfl rfl (by decide)), rfl, rfl⟩
end Go.Proofs.Ytmgkhfnhaeplgaa

namespace Go.Proofs.Ytmgkhfnhaeplgaa
open Go
set_option linter.unusedSimpArgs false
set_option linter.unusedVariables false
set_option maxRecDepth 20000

/-! Kinds, one by one; what a tree must be. Plain. -/
def arOf (op : Bs) : Nat :=
  if op = ([110, 111, 116] : Bs) ∨ op = ([110, 101, 103] : Bs) ∨ op = ([112, 114, 101] : Bs) ∨ op = ([119, 104, 101, 110] : Bs) then 1
  else if op = ([43] : Bs) ∨ op = ([45] : Bs) ∨ op = ([42] : Bs) ∨ op = ([47] : Bs) ∨ op = ([109, 111, 100] : Bs) ∨ op = ([61] : Bs) ∨ op = ([60, 62] : Bs) ∨ op = ([60] : Bs) ∨ op = ([60, 61] : Bs) ∨ op = ([62] : Bs) ∨ op = ([62, 61] : Bs) ∨ op = ([97, 110, 100] : Bs) ∨ op = ([111, 114] : Bs) ∨ op = ([120, 111, 114] : Bs) ∨ op = ([45, 62] : Bs) ∨ op = ([102, 98, 121] : Bs) ∨ op = ([109, 101, 114, 103, 101] : Bs) then 2
  else if op = ([105, 102] : Bs) then 3 else 0
def okOp (l : List Nd) (op nm : Bs) (kids : Nat) : Prop :=
  arOf op ≤ kids ∧ (op = ([99, 97, 108, 108] : Bs) → ∃ (j : Nat) (m : Nd), l[j]? = some m ∧ nodeOf l nm = (j : Int) ∧ m.outs.length = 1 ∧ m.ins.length = kids)
mutual
def exOk (l : List Nd) : Ex → Prop
  | .mk op nm _ _ ks => okOp l op nm ks.length ∧ exOkL l ks
def exOkL (l : List Nd) : List Ex → Prop
  | [] => True
  | e :: r => exOk l e ∧ exOkL l r
end
theorem exOkL_mem {l : List Nd} : ∀ {ks : List Ex} {e : Ex}, exOkL l ks → e ∈ ks → exOk l e
  | [], e, _, h => by cases h
  | x :: r, e, h, he => by
    rw [exOkL] at h
    rcases List.mem_cons.1 he with rfl | he
    · exact h.1
    · exact exOkL_mem h.2 he
section
variable (l : List Nd) (n : Nd) (nm : Bs) (k : List Nat)
theorem kind_int : kindOp l n ([105, 110, 116] : Bs) nm k = (true, 2) := rfl
theorem kind_bool : kindOp l n ([98, 111, 111, 108] : Bs) nm k = (true, 1) := rfl
theorem kind_var : kindOp l n ([118, 97, 114] : Bs) nm k = (true, (findV n nm).1.kind) := rfl
theorem kind_not : kindOp l n ([110, 111, 116] : Bs) nm k = (decide (k.getD 0 0 = 1), 1) := rfl
theorem kind_neg : kindOp l n ([110, 101, 103] : Bs) nm k = (decide (k.getD 0 0 = 2), 2) := rfl
theorem kind_pre : kindOp l n ([112, 114, 101] : Bs) nm k = (true, k.getD 0 0) := rfl
theorem kind_add : kindOp l n ([43] : Bs) nm k = (decide (k.getD 0 0 = 2) && decide (k.getD 1 0 = 2), 2) := rfl
theorem kind_sub : kindOp l n ([45] : Bs) nm k = (decide (k.getD 0 0 = 2) && decide (k.getD 1 0 = 2), 2) := rfl
theorem kind_mul : kindOp l n ([42] : Bs) nm k = (decide (k.getD 0 0 = 2) && decide (k.getD 1 0 = 2), 2) := rfl
theorem kind_div : kindOp l n ([47] : Bs) nm k = (decide (k.getD 0 0 = 2) && decide (k.getD 1 0 = 2), 2) := rfl
theorem kind_mod : kindOp l n ([109, 111, 100] : Bs) nm k = (decide (k.getD 0 0 = 2) && decide (k.getD 1 0 = 2), 2) := rfl
theorem kind_eq : kindOp l n ([61] : Bs) nm k = (decide (k.getD 0 0 = k.getD 1 0), 1) := rfl
theorem kind_ne : kindOp l n ([60, 62] : Bs) nm k = (decide (k.getD 0 0 = k.getD 1 0), 1) := rfl
theorem kind_lt : kindOp l n ([60] : Bs) nm k = (decide (k.getD 0 0 = 2) && decide (k.getD 1 0 = 2), 1) := rfl
theorem kind_le : kindOp l n ([60, 61] : Bs) nm k = (decide (k.getD 0 0 = 2) && decide (k.getD 1 0 = 2), 1) := rfl
theorem kind_gt : kindOp l n ([62] : Bs) nm k = (decide (k.getD 0 0 = 2) && decide (k.getD 1 0 = 2), 1) := rfl
theorem kind_ge : kindOp l n ([62, 61] : Bs) nm k = (decide (k.getD 0 0 = 2) && decide (k.getD 1 0 = 2), 1) := rfl
theorem kind_and : kindOp l n ([97, 110, 100] : Bs) nm k = (decide (k.getD 0 0 = 1) && decide (k.getD 1 0 = 1), 1) := rfl
theorem kind_or : kindOp l n ([111, 114] : Bs) nm k = (decide (k.getD 0 0 = 1) && decide (k.getD 1 0 = 1), 1) := rfl
theorem kind_xor : kindOp l n ([120, 111, 114] : Bs) nm k = (decide (k.getD 0 0 = 1) && decide (k.getD 1 0 = 1), 1) := rfl
theorem kind_arrow : kindOp l n ([45, 62] : Bs) nm k = (decide (k.getD 0 0 = k.getD 1 0), k.getD 0 0) := rfl
theorem kind_fby : kindOp l n ([102, 98, 121] : Bs) nm k = (decide (k.getD 0 0 = k.getD 1 0), k.getD 0 0) := rfl
theorem kind_if : kindOp l n ([105, 102] : Bs) nm k = (decide (k.getD 0 0 = 1) && decide (k.getD 1 0 = k.getD 2 0), k.getD 1 0) := rfl
theorem kind_when : kindOp l n ([119, 104, 101, 110] : Bs) nm k = (decide ((findV n nm).1.kind = 1), k.getD 0 0) := rfl
theorem kind_merge : kindOp l n ([109, 101, 114, 103, 101] : Bs) nm k = (decide ((findV n nm).1.kind = 1) && decide (k.getD 0 0 = k.getD 1 0), k.getD 0 0) := rfl
theorem kind_call {l : List Nd} {nm : Bs} {j : Nat} {m : Nd} (h : l[j]? = some m) (hj : nodeOf l nm = (j : Int)) : kindOp l n ([99, 97, 108, 108] : Bs) nm k = (decide ((m.ins.take k.length).map (fun v : Vr => v.kind) = k), (m.outs.getD 0 Vr0).kind) := by
  show (match l[(nodeOf l nm).toNat]? with | some m => (decide ((m.ins.take k.length).map (fun v : Vr => v.kind) = k), (m.outs.getD 0 Vr0).kind) | none => (true, 0)) = _
  rw [hj, Int.toNat_natCast, h]
end
def opsAll : List Bs := [([105, 110, 116] : Bs), ([98, 111, 111, 108] : Bs), ([118, 97, 114] : Bs), ([110, 111, 116] : Bs), ([110, 101, 103] : Bs), ([112, 114, 101] : Bs), ([43] : Bs), ([45] : Bs), ([42] : Bs), ([47] : Bs), ([109, 111, 100] : Bs), ([61] : Bs), ([60, 62] : Bs), ([60] : Bs), ([60, 61] : Bs), ([62] : Bs), ([62, 61] : Bs), ([97, 110, 100] : Bs), ([111, 114] : Bs), ([120, 111, 114] : Bs), ([45, 62] : Bs), ([102, 98, 121] : Bs), ([105, 102] : Bs), ([119, 104, 101, 110] : Bs), ([109, 101, 114, 103, 101] : Bs), ([99, 97, 108, 108] : Bs)]
theorem kind_other (l : List Nd) (n : Nd) (op nm : Bs) (k : List Nat) (h : op ∉ opsAll) : kindOp l n op nm k = (true, 0) := by
  simp only [opsAll, List.mem_cons, List.mem_nil_iff, not_or, or_false] at h
  simp only [kindOp, h, if_false, false_or]
theorem ar_not : arOf ([110, 111, 116] : Bs) = 1 := rfl
theorem ar_neg : arOf ([110, 101, 103] : Bs) = 1 := rfl
theorem ar_pre : arOf ([112, 114, 101] : Bs) = 1 := rfl
theorem ar_when : arOf ([119, 104, 101, 110] : Bs) = 1 := rfl
theorem ar_add : arOf ([43] : Bs) = 2 := rfl
theorem ar_sub : arOf ([45] : Bs) = 2 := rfl
theorem ar_mul : arOf ([42] : Bs) = 2 := rfl
theorem ar_div : arOf ([47] : Bs) = 2 := rfl
theorem ar_mod : arOf ([109, 111, 100] : Bs) = 2 := rfl
theorem ar_eq : arOf ([61] : Bs) = 2 := rfl
theorem ar_ne : arOf ([60, 62] : Bs) = 2 := rfl
theorem ar_lt : arOf ([60] : Bs) = 2 := rfl
theorem ar_le : arOf ([60, 61] : Bs) = 2 := rfl
theorem ar_gt : arOf ([62] : Bs) = 2 := rfl
theorem ar_ge : arOf ([62, 61] : Bs) = 2 := rfl
theorem ar_and : arOf ([97, 110, 100] : Bs) = 2 := rfl
theorem ar_or : arOf ([111, 114] : Bs) = 2 := rfl
theorem ar_xor : arOf ([120, 111, 114] : Bs) = 2 := rfl
theorem ar_arrow : arOf ([45, 62] : Bs) = 2 := rfl
theorem ar_fby : arOf ([102, 98, 121] : Bs) = 2 := rfl
theorem ar_merge : arOf ([109, 101, 114, 103, 101] : Bs) = 2 := rfl
theorem ar_if : arOf ([105, 102] : Bs) = 3 := rfl
end Go.Proofs.Ytmgkhfnhaeplgaa

namespace Go.Proofs.Ytmgkhfnhaeplgaa
open Go Go.Am Go.Proofs
set_option linter.unusedSimpArgs false
set_option linter.unusedVariables false
set_option maxRecDepth 20000
set_option maxHeartbeats 8000000

/-! Kinds: of an expression. -/
abbrev kA (k : List Nat) : List AV := k.map fun x : Nat => avI (x : Int)
theorem kindL_drop (l : List Nd) (n : Nd) (c : Ck) (acc : List Nat) {ks : List Ex} {i : Nat} {k : Ex} (h : ks[i]? = some k) : kindL l n c acc (ks.drop i) = kindL l n (kindE l n c k).2 (acc ++ [(kindE l n c k).1]) (ks.drop (i + 1)) := by
  have hlt := (List.getElem?_eq_some_iff.1 h).1
  rw [List.drop_eq_getElem_cons hlt, (List.getElem?_eq_some_iff.1 h).2, kindL]
theorem kinds_snoc {ins : List Vr} {kl : List Nat} {i : Nat} {u : Vr} {ki : Nat} (h1 : ins[i]? = some u) (h2 : kl[i]? = some ki) : (decide ((ins.take i).map (fun v : Vr => v.kind) = kl.take i) && decide (u.kind = ki)) = decide ((ins.take (i + 1)).map (fun v : Vr => v.kind) = kl.take (i + 1)) := by
  have e1 : ins.take (i + 1) = ins.take i ++ [u] := by rw [List.take_add_one, h1]; rfl
  have e2 : kl.take (i + 1) = kl.take i ++ [ki] := by rw [List.take_add_one, h2]; rfl
  have hl : ((ins.take i).map (fun v : Vr => v.kind)).length = (kl.take i).length := by
    have a1 := (List.getElem?_eq_some_iff.1 h1).1
    have a2 := (List.getElem?_eq_some_iff.1 h2).1
    rw [List.length_map, List.length_take, List.length_take]; omega
  rw [e1, e2, List.map_append, ← Bool.decide_and]
  congr 1
  apply propext
  constructor
  · rintro ⟨a, b⟩; rw [a, ← b]; rfl
  · intro h
    have := List.append_inj h hl
    exact ⟨this.1, by simpa using this.2⟩
theorem kind_calls {o : Nat} (l : List Nd) (n : Nd) (ha : l.length ≤ 2000000) (h1 : n.ins.length ≤ 2000000) (h2 : n.outs.length ≤ 2000000) (h3 : n.locs.length ≤ 2000000) (m : Nat) : ∀ (e : Ex) (H : AHeap) (c : Ck), exSz e ≤ m → exSz e ≤ 2000000 → exOk l e → H o = some (.cel (ckA c)) →
    ACalls Try.prog 47 [.ptr o 0, ndsA l, .agg n.cells, exA e] H fun r H' => r = avI (kindE l n c e).1 ∧ H' = H.set o (.cel (ckA (kindE l n c e).2)) := by
  induction m with
  | zero => intro e H c h; rw [exSz_eq] at h; omega
  | succ m ih =>
    intro e H c h hb hok hH
    obtain ⟨op, nm, nn, at_, ks⟩ := e
    rw [exSz_eq] at h hb
    rw [exOk] at hok
    unfold kindE
    simp only [Ex.kids, Ex.op, Ex.name, Ex.n, Ex.at_] at *
    show ACalls Try.prog _ [.ptr o 0, ndsA l, .agg n.cells, .agg [.str op, .str nm, avI nn, avI at_, .sls ks.length (exL ks)]] H _
    have hml := exL_len ks
    have hma := nd_len l
    have hkl : ks.length ≤ exSzL ks := by
      clear hml h hb hok
      induction ks with
      | nil => exact Nat.zero_le _
      | cons x l ih => rw [exSzL, List.length_cons]; have := exSz_eq x; omega
    have cf := fun H => Find_calls H n nm h1 h2 h3
    have cn := fun H => NodeOf_calls H l nm ha
    generalize hZ : kindL l n c [] ks = Z
    replace hZ := Hdn.mk hZ
    have hn : n.cells = [.str n.name, .sls n.ins.length (vrL n.ins), .sls n.outs.length (vrL n.outs), .sls n.locs.length (vrL n.locs), .sls n.eqs.length (eqL n.eqs), avI n.at_] := rfl
    rw [hn] at *
    refine acalls_of_aw4 Try.func47 rfl (by decide) ?_
    (first | focus (refine yy2 ?_; refine zb1 rfl rfl rfl (fun oN hoN => ?_); refine zb1 rfl rfl rfl (fun oN hoN => ?_); refine yy6 ?_; refine yy15 ?_; rotate_left) | fail)
    rename_i oP hoP
    obtain ⟨oE, hoEe⟩ : ∃ x, x = oN := ⟨_, rfl⟩
    subst hoEe
    have hP0 : H oP = none := hoP
    have hE0 : H oE = none := by (first | assumption | exact AHeap.none_of_set ((by assumption)) | exact AHeap.none_of_set (AHeap.none_of_set ((by assumption))) | exact AHeap.none_of_set (AHeap.none_of_set (AHeap.none_of_set ((by assumption)))) | exact AHeap.none_of_set (AHeap.none_of_set (AHeap.none_of_set (AHeap.none_of_set ((by assumption))))) | exact AHeap.none_of_set (AHeap.none_of_set (AHeap.none_of_set (AHeap.none_of_set (AHeap.none_of_set ((by assumption)))))) | exact AHeap.none_of_set (AHeap.none_of_set (AHeap.none_of_set (AHeap.none_of_set (AHeap.none_of_set (AHeap.none_of_set ((by assumption))))))) | exact AHeap.none_of_set (AHeap.none_of_set (AHeap.none_of_set (AHeap.none_of_set (AHeap.none_of_set (AHeap.none_of_set (AHeap.none_of_set ((by assumption)))))))) | exact AHeap.none_of_set (AHeap.none_of_set (AHeap.none_of_set (AHeap.none_of_set (AHeap.none_of_set (AHeap.none_of_set (AHeap.none_of_set (AHeap.none_of_set ((by assumption))))))))) | exact AHeap.none_of_set (AHeap.none_of_set (AHeap.none_of_set (AHeap.none_of_set (AHeap.none_of_set (AHeap.none_of_set (AHeap.none_of_set (AHeap.none_of_set (AHeap.none_of_set ((by assumption)))))))))) | exact AHeap.none_of_set (AHeap.none_of_set (AHeap.none_of_set (AHeap.none_of_set (AHeap.none_of_set (AHeap.none_of_set (AHeap.none_of_set (AHeap.none_of_set (AHeap.none_of_set (AHeap.none_of_set ((by assumption))))))))))))
    have hEP : oE ≠ oP := by (first | assumption | exact Ne.symm (by assumption) | exact AHeap.ne_of_fresh (by assumption) | exact Ne.symm (AHeap.ne_of_fresh (by assumption)) | exact AHeap.ne_of_fresh (AHeap.none_of_set (by assumption)) | exact Ne.symm (AHeap.ne_of_fresh (AHeap.none_of_set (by assumption))) | exact AHeap.ne_ns (by assumption) (by assumption) | exact AHeap.ne_sn (by assumption) (by assumption) | exact AHeap.ne_ns (by assumption) auto_heap2 | exact AHeap.ne_sn (by assumption) auto_heap2)
    have hPo : oP ≠ o := fun e => by rw [e, hH] at hP0; cases hP0
    have hEo : oE ≠ o := fun e => by rw [e, hH] at hE0; cases hE0
    refine aw_own_nil 9 1 (.cel []) rfl rfl (fun oK hoK => ?_)
    have hK0 : H oK = none := AHeap.none_of_set (AHeap.none_of_set hoK)
    have hKE : oK ≠ oE := AHeap.ne_of_fresh hoK
    have hKP : oK ≠ oP := AHeap.ne_of_fresh (AHeap.none_of_set hoK)
    have hKo : oK ≠ o := fun e => by rw [e, hH] at hK0; cases hK0
    refine aw_seq ?_
    refine aw_kmid (fun R1 H1 => ∃ oK, H1 oE = some (.cel [.str op, .str nm, avI nn, avI at_, .sls ks.length (exL ks)]) ∧ H1 oP = some (.cel [.str n.name, .sls n.ins.length (vrL n.ins), .sls n.outs.length (vrL n.outs), .sls n.locs.length (vrL n.locs), .sls n.eqs.length (eqL n.eqs), avI n.at_]) ∧ H1 o = some (.cel (ckA Z.2)) ∧ H1 oK = some (.cel (kA Z.1)) ∧ Z.1.length = ks.length ∧ H oK = none ∧ oK ≠ o ∧ oK ≠ oE ∧ oK ≠ oP ∧ (∀ p y, p ≠ o → H p = some y → H1 p = some y) ∧ R1 = [(0, .ptr o 0), (1, ndsA l), (6, .ptr oP 0), (7, .ptr oE 0), (9, .vw oK 1 0 Z.1.length)]) ?_ ?_
    · (first | focus (refine yy15 ?_; refine aw_block ?_; rotate_left) | fail)
      refine aw_loop (fun mm R2 H2 => ∃ (i oK : Nat) (acc : List Nat) (c' : Ck), i ≤ ks.length ∧ acc.length = i ∧ Hdn (kindL l n c' acc (ks.drop i) = Z) ∧ H oK = none ∧ oK ≠ o ∧ oK ≠ oE ∧ oK ≠ oP ∧ H2 oE = some (.cel [.str op, .str nm, avI nn, avI at_, .sls ks.length (exL ks)]) ∧ H2 oP = some (.cel [.str n.name, .sls n.ins.length (vrL n.ins), .sls n.outs.length (vrL n.outs), .sls n.locs.length (vrL n.locs), .sls n.eqs.length (eqL n.eqs), avI n.at_]) ∧ H2 o = some (.cel (ckA c')) ∧ H2 oK = some (.cel (kA acc)) ∧ (∀ p y, p ≠ o → H p = some y → H2 p = some y) ∧ R2 = [(0, .ptr o 0), (1, ndsA l), (6, .ptr oP 0), (7, .ptr oE 0), (9, .vw oK 1 0 i), (10, avI i)] ∧ ks.length - i = mm) ?_ ?_
      · exact ⟨_, _, _, Ent.sub _ (by (repeat' (first | exact RSub.nil _ | apply RSub.cons)); all_goals rfl), 0, oK, [], c, Nat.zero_le _, rfl, hZ, hK0, hKo, hKE, hKP, by exact auto_heap, by exact auto_heap, by exact auto_heap, AHeap.set_self _ _ _, (fun p y hpo hp => by
          have hp3 : p ≠ oP := fun e => by rw [e, hP0] at hp; cases hp
          have hp4 : p ≠ oE := fun e => by rw [e, hE0] at hp; cases hp
          have hp5 : p ≠ oK := fun e => by rw [e, hK0] at hp; cases hp
          exact auto_heap), rfl, rfl⟩
      clear hZ hoK hK0 hKE hKP hKo oK hoN
      rintro mm R2 H2 ⟨i, oK, acc, c', hi, hal, hZ, hK0, hKo, hKE, hKP, q1, q2, q3, q4, hfr, rfl, rfl⟩
      by_cases hlt : i < ks.length
      · have hg : ks[i]? = some ks[i] := List.getElem?_eq_getElem hlt
        have hseg := exL_get hg
        have hmem := exSz_mem (List.getElem_mem hlt)
        have hokk := exOkL_mem hok.2 (List.getElem_mem hlt)
        rw [kindL_drop l n c' acc hg] at hZ
        generalize ks[i] = k at *
        have cb := fun H h => ih k H c' (by omega) (by omega) hokk h
        generalize kindE l n c' k = r at *
        obtain ⟨r1, c2⟩ := r
        simp only at hZ cb
        have hka : (kA acc).length = i * 1 := by rw [List.length_map, hal, Nat.mul_one]
        clear ih hg hmem hokk hok
        (first | focus (refine yy93 ?_; refine yy89 ?_; refine aw_condp rfl (fun hc => ?_) (fun hc => ?_); refine yy13 ?_; (apply aw_peel2 true; (· (repeat' (first | exact spl_one | apply spl_cons))); (· exact auto_kr); (· exact auto_dk); (· exact auto_dk)); (apply awm_s; · (intro H1; exact s_move (v := .vw _ _ _ _) rfl)); (apply awm_s; · (intro H1; exact s_move (v := .ptr _ _) rfl)); (apply awm_s; · (intro H1; exact s_move (v := .sls _ _) rfl)); (apply awm_e auto_dk; (· exact s_load_agg rfl auto_heap rfl rfl (by first | decide | exact Nat.le_of_ble_eq_true rfl))); (apply awm_s; · (intro H1; exact s_fieldAddr_ptr rfl)); (apply awm_e auto_dk; (· exact s_load_cel rfl auto_heap rfl)); (apply awm_s; · (intro H1; exact s_move (v := .raw _) rfl)); (apply awm_s; · (intro H1; exact s_indexAddr_sls rfl rfl auto_len)); (apply awm_s; · (intro H1; exact s_load_pce_agg rfl (by assumption) (by rfl) (by decide))); refine awm_b ?_; refine awm_b ?_; refine awm_b ?_; refine awm_nil ?_; refine awb_cons (fun Rx K1 hK1x => ?_); (refine zc auto_wl (cb _ auto_heap) ?_; rintro r H' ⟨rfl, rfl⟩); refine yy61 ?_; (refine hK1x _ _ ?_; clear hK1x K1 Rx); refine awb_cons (fun Rx K1 hK1x => ?_); refine yy37 ?_; refine yy61 ?_; (refine hK1x _ _ ?_; clear hK1x K1 Rx); refine awb_cons (fun Rx K1 hK1x => ?_); refine za4 rfl rfl rfl auto_heap auto_al auto_src auto_len auto_len (fun oN hoN => ?_); refine yy61 ?_; (refine hK1x _ _ ?_; clear hK1x K1 Rx); refine awb_nil ?_; refine k_seq_normal ?_; refine yy40 ?_; refine yy48 ?_; refine yy22 ?_; rotate_left; exact absurd hc auto_no) | fail)
        have n0 : H2 oN = none := by (first | assumption | exact AHeap.none_of_set ((by assumption)) | exact AHeap.none_of_set (AHeap.none_of_set ((by assumption))) | exact AHeap.none_of_set (AHeap.none_of_set (AHeap.none_of_set ((by assumption)))) | exact AHeap.none_of_set (AHeap.none_of_set (AHeap.none_of_set (AHeap.none_of_set ((by assumption))))) | exact AHeap.none_of_set (AHeap.none_of_set (AHeap.none_of_set (AHeap.none_of_set (AHeap.none_of_set ((by assumption)))))) | exact AHeap.none_of_set (AHeap.none_of_set (AHeap.none_of_set (AHeap.none_of_set (AHeap.none_of_set (AHeap.none_of_set ((by assumption))))))) | exact AHeap.none_of_set (AHeap.none_of_set (AHeap.none_of_set (AHeap.none_of_set (AHeap.none_of_set (AHeap.none_of_set (AHeap.none_of_set ((by assumption)))))))) | exact AHeap.none_of_set (AHeap.none_of_set (AHeap.none_of_set (AHeap.none_of_set (AHeap.none_of_set (AHeap.none_of_set (AHeap.none_of_set (AHeap.none_of_set ((by assumption))))))))) | exact AHeap.none_of_set (AHeap.none_of_set (AHeap.none_of_set (AHeap.none_of_set (AHeap.none_of_set (AHeap.none_of_set (AHeap.none_of_set (AHeap.none_of_set (AHeap.none_of_set ((by assumption)))))))))) | exact AHeap.none_of_set (AHeap.none_of_set (AHeap.none_of_set (AHeap.none_of_set (AHeap.none_of_set (AHeap.none_of_set (AHeap.none_of_set (AHeap.none_of_set (AHeap.none_of_set (AHeap.none_of_set ((by assumption))))))))))))
        have n1 : oN ≠ o := fun e => by rw [e, q3] at n0; cases n0
        have n2 : oN ≠ oE := fun e => by rw [e, q1] at n0; cases n0
        have n3 : oN ≠ oP := fun e => by rw [e, q2] at n0; cases n0
        have n4 : H oN = none := by
          cases e : H oN with
          | none => rfl
          | some y => rw [hfr _ _ n1 e] at n0; cases n0
        exact ⟨ks.length - (i + 1), _, _, by omega, Ent.sub _ (by (repeat' (first | exact RSub.nil _ | apply RSub.cons)); all_goals rfl), i + 1, oN, acc ++ [r1], c2, by omega, by rw [List.length_append, hal]; rfl, hZ, n4, n1, n2, n3, by exact auto_heap, by exact auto_heap, by exact auto_heap, by
          have : kA (acc ++ [r1]) = kA acc ++ [avI (r1 : Int)] := by simp only [kA, List.map_append, List.map_cons, List.map_nil]
          rw [this]; exact AHeap.set_self _ _ _, fun p y hpo hp => by
          have hp2 := hfr p y hpo hp
          have hp3 : p ≠ oN := fun e => by rw [e, n4] at hp; cases hp
          exact auto_heap, rfl, rfl⟩
      · obtain rfl : i = ks.length := by omega
        have hZ2 : Z = (acc, c') := by rw [← hZ.out, List.drop_length, kindL]
        subst hZ2
        (first | focus (refine yy93 ?_; refine yy89 ?_; refine yy34 ?_; intro hc; rotate_left) | fail)
        exact ⟨[(0, .ptr o 0), (1, ndsA l), (6, .ptr oP 0), (7, .ptr oE 0), (9, .vw oK 1 0 acc.length)], _, Ent.sub _ (by rw [hal]; (repeat' (first | exact RSub.nil _ | apply RSub.cons)); all_goals rfl), oK, q1, q2, q3, q4, hal, hK0, hKo, hKE, hKP, hfr, rfl⟩
    · clear hoK hK0 hKE hKP hKo oK hoN
      rintro R1 H1 ⟨oK, q1, q2, q3, q4, hkz, hK0, hKo, hKE, hKP, hfr, rfl⟩
      have hEo2 := hEo.symm
      obtain ⟨kl, S⟩ := Z
      simp only at q3 q4 hkz hZ ⊢
      generalize hx : kindOp l n op nm kl = x
      obtain ⟨x1, x2⟩ := x
      have hent : ∃ H3, Ent [(0, .ptr o 0), (1, ndsA l), (6, .ptr oP 0), (7, .ptr oE 0), (9, .vw oK 1 0 kl.length)] H1 [(0, .ptr o 0), (1, ndsA l), (6, .ptr oP 0), (7, .ptr oE 0), (9, .sls kl.length (kA kl))] H3 ∧ H3 oE = some (.cel [.str op, .str nm, avI nn, avI at_, .sls ks.length (exL ks)]) ∧ H3 oP = some (.cel [.str n.name, .sls n.ins.length (vrL n.ins), .sls n.outs.length (vrL n.outs), .sls n.locs.length (vrL n.locs), .sls n.eqs.length (eqL n.eqs), avI n.at_]) ∧ H3 o = some (.cel (ckA S)) ∧ (∀ p y, p ≠ o → H p = some y → H3 p = some y) := by
        refine ⟨_, (Ent.seal_cel (i := 9) (o := oK) (xs := kA kl) rfl q4 (by rw [List.length_map, Nat.mul_one])).trans (Ent.sub _ (by (repeat' (first | exact RSub.nil _ | apply RSub.cons)); all_goals rfl)), ?_, ?_, ?_, fun p y hpo hp => ?_⟩
        · exact AHeap.get_unerase hKE.symm q1
        · exact AHeap.get_unerase hKP.symm q2
        · exact AHeap.get_unerase hKo.symm q3
        · have hp2 := hfr p y hpo hp
          have hp3 : p ≠ oK := fun e => by rw [e, hK0] at hp; cases hp
          exact AHeap.get_unerase hp3 hp2
      obtain ⟨H3, he, q1, q2, q3, hfr⟩ := hent
      refine aw_ent he ?_
      clear he q4 hK0 hKo hKE hKP oK
      (first | focus (refine yy2 ?_; refine yy21 ?_; refine yy6 ?_; rotate_left) | fail)
      refine aw_seq ?_
      refine aw_kmid (fun R1 H1 => ∃ (b : Bool) (r : Nat), Hdn (b = x1 ∧ r = x2) ∧ H1 oE = some (.cel [.str op, .str nm, avI nn, avI at_, .sls ks.length (exL ks)]) ∧ H1 o = some (.cel (ckA S)) ∧ (∀ p y, p ≠ o → H p = some y → H1 p = some y) ∧ R1 = [(0, .ptr o 0), (7, .ptr oE 0), (11, avB b), (12, avI r)]) ?_ ?_
      · have hgo : ∀ (R' : Regs) (H' : AHeap) (b : Bool) (r : Nat), RSub [(0, .ptr o 0), (7, .ptr oE 0), (11, avB b), (12, avI r)] R' → b = x1 → r = x2 → H' oE = some (.cel [.str op, .str nm, avI nn, avI at_, .sls ks.length (exL ks)]) → H' o = some (.cel (ckA S)) → (∀ p y, p ≠ o → H p = some y → H' p = some y) → ∃ R1 H1, Ent R' H' R1 H1 ∧ ∃ (b : Bool) (r : Nat), Hdn (b = x1 ∧ r = x2) ∧ H1 oE = some (.cel [.str op, .str nm, avI nn, avI at_, .sls ks.length (exL ks)]) ∧ H1 o = some (.cel (ckA S)) ∧ (∀ p y, p ≠ o → H p = some y → H1 p = some y) ∧ R1 = [(0, .ptr o 0), (7, .ptr oE 0), (11, avB b), (12, avI r)] :=
          fun R' H' b r hr e1 e2 a1 a3 a4 => ⟨_, H', Ent.sub _ hr, b, r, ⟨e1, e2⟩, a1, a3, a4, rfl⟩
        have hkb0 : ks.length ≤ 2000000 := by omega
        by_cases hA : op ∈ opsAll
        · simp only [opsAll, List.mem_cons, List.mem_nil_iff, or_false] at hA
          clear ih hb h hkl
          rcases hA with rfl | rfl | rfl | rfl | rfl | rfl | rfl | rfl | rfl | rfl | rfl | rfl | rfl | rfl | rfl | rfl | rfl | rfl | rfl | rfl | rfl | rfl | rfl | rfl | rfl | rfl
          · -- int
            rw [kind_int] at hx
            obtain ⟨rfl, rfl⟩ := Prod.mk.inj hx
            clear hx
            (first | focus (refine yy68 ?_; refine yy75 ?_; refine aw_condp rfl (fun hc => ?_) (fun hc => ?_); refine yy32 ?_; refine yy14 ?_; rotate_left; exact absurd hc auto_no) | fail)
            all_goals exact hgo _ _ _ _ (by (repeat' (first | exact RSub.nil _ | apply RSub.cons)); all_goals rfl) (by first | rfl | (simp [hc]; done) | (simp [hc.out]; done)) (by first | rfl | (simp [hc]; done) | (simp [hc.out]; done)) auto_heap auto_heap hfr
          · -- bool
            rw [kind_bool] at hx
            obtain ⟨rfl, rfl⟩ := Prod.mk.inj hx
            clear hx
            (first | focus (refine yy68 ?_; refine yy75 ?_; refine yy1 ?_; intro hc; refine aw_condp rfl (fun hc => ?_) (fun hc => ?_); refine yy32 ?_; refine yy14 ?_; rotate_left; exact absurd hc auto_no) | fail)
            all_goals exact hgo _ _ _ _ (by (repeat' (first | exact RSub.nil _ | apply RSub.cons)); all_goals rfl) (by first | rfl | (simp [hc]; done) | (simp [hc.out]; done)) (by first | rfl | (simp [hc]; done) | (simp [hc.out]; done)) auto_heap auto_heap hfr
          · -- var
            rw [kind_var] at hx
            obtain ⟨rfl, rfl⟩ := Prod.mk.inj hx
            clear hx
            generalize findV n nm = fv at *
            obtain ⟨fv, kn⟩ := fv
            simp only at hgo cf
            (first | focus (refine yy68 ?_; refine yy75 ?_; refine yy1 ?_; intro hc; refine yy1 ?_; intro hc; refine aw_condp rfl (fun hc => ?_) (fun hc => ?_); refine yy98 ?_; refine yy10 ?_; (refine zc auto_wl (cf _) ?_; rintro r H' ⟨rfl, rfl⟩); refine yy80 ?_; refine awl_alloc rfl rfl rfl (fun oN hoN => ?_); refine yy11 ?_; refine yy6 ?_; refine yy32 ?_; refine yy10 ?_; refine yy14 ?_; rotate_left; exact absurd hc auto_no) | fail)
            all_goals (
              have hN3 : H' oN = none := by (first | assumption | exact AHeap.none_of_set ((by assumption)) | exact AHeap.none_of_set (AHeap.none_of_set ((by assumption))) | exact AHeap.none_of_set (AHeap.none_of_set (AHeap.none_of_set ((by assumption)))) | exact AHeap.none_of_set (AHeap.none_of_set (AHeap.none_of_set (AHeap.none_of_set ((by assumption))))) | exact AHeap.none_of_set (AHeap.none_of_set (AHeap.none_of_set (AHeap.none_of_set (AHeap.none_of_set ((by assumption)))))) | exact AHeap.none_of_set (AHeap.none_of_set (AHeap.none_of_set (AHeap.none_of_set (AHeap.none_of_set (AHeap.none_of_set ((by assumption))))))) | exact AHeap.none_of_set (AHeap.none_of_set (AHeap.none_of_set (AHeap.none_of_set (AHeap.none_of_set (AHeap.none_of_set (AHeap.none_of_set ((by assumption)))))))) | exact AHeap.none_of_set (AHeap.none_of_set (AHeap.none_of_set (AHeap.none_of_set (AHeap.none_of_set (AHeap.none_of_set (AHeap.none_of_set (AHeap.none_of_set ((by assumption))))))))) | exact AHeap.none_of_set (AHeap.none_of_set (AHeap.none_of_set (AHeap.none_of_set (AHeap.none_of_set (AHeap.none_of_set (AHeap.none_of_set (AHeap.none_of_set (AHeap.none_of_set ((by assumption)))))))))) | exact AHeap.none_of_set (AHeap.none_of_set (AHeap.none_of_set (AHeap.none_of_set (AHeap.none_of_set (AHeap.none_of_set (AHeap.none_of_set (AHeap.none_of_set (AHeap.none_of_set (AHeap.none_of_set ((by assumption))))))))))))
              have hNE : oN ≠ oE := fun e => by rw [e, q1] at hN3; cases hN3
              have hNo : oN ≠ o := fun e => by rw [e, q3] at hN3; cases hN3
              exact hgo _ _ _ _ (by (repeat' (first | exact RSub.nil _ | apply RSub.cons)); all_goals rfl) (by first | rfl | (simp [hc]; done) | (simp [hc.out]; done)) (by first | rfl | (simp [hc]; done) | (simp [hc.out]; done)) auto_heap auto_heap (fun p y hpo hp => by
                have hp2 := hfr p y hpo hp
                have hp5 : H' p ≠ none := fun e => by rw [hp2] at e; cases e
                have hp7 : p ≠ oN := fun e => hp5 (by rw [e]; exact hN3)
                exact auto_heap))
          · -- not
            rw [kind_not] at hx
            obtain ⟨rfl, rfl⟩ := Prod.mk.inj hx
            clear hx
            have har := hok.1.1
            rw [ar_not] at har
            obtain ⟨k0, kr, rfl⟩ : ∃ k0 kr, kl = k0 :: kr := by
              rw [← hkz] at har
              match kl, har with
              | k0 :: kr, _ => exact ⟨k0, kr, rfl⟩
            clear har hkz hZ
            simp only [List.getD_cons_zero, List.getD_cons_succ] at hgo ⊢
            (first | focus (refine yy68 ?_; refine yy75 ?_; refine yy1 ?_; intro hc; refine yy1 ?_; intro hc; refine yy1 ?_; intro hc; refine aw_condp rfl (fun hc => ?_) (fun hc => ?_); refine yy107 ?_; refine yy44 ?_; refine yy43 ?_; refine yy87 ?_; refine yy21 ?_; refine yy14 ?_; rotate_left; exact absurd hc auto_no) | fail)
            all_goals exact hgo _ _ _ _ (by (repeat' (first | exact RSub.nil _ | apply RSub.cons)); all_goals rfl) (by first | rfl | (simp [hc]; done) | (simp [hc.out]; done)) (by first | rfl | (simp [hc]; done) | (simp [hc.out]; done)) auto_heap auto_heap hfr
          · -- neg
            rw [kind_neg] at hx
            obtain ⟨rfl, rfl⟩ := Prod.mk.inj hx
            clear hx
            have har := hok.1.1
            rw [ar_neg] at har
            obtain ⟨k0, kr, rfl⟩ : ∃ k0 kr, kl = k0 :: kr := by
              rw [← hkz] at har
              match kl, har with
              | k0 :: kr, _ => exact ⟨k0, kr, rfl⟩
            clear har hkz hZ
            simp only [List.getD_cons_zero, List.getD_cons_succ] at hgo ⊢
            (first | focus (refine yy68 ?_; refine yy75 ?_; refine yy1 ?_; intro hc; refine yy1 ?_; intro hc; refine yy1 ?_; intro hc; refine yy1 ?_; intro hc; refine aw_condp rfl (fun hc => ?_) (fun hc => ?_); refine yy107 ?_; refine yy44 ?_; refine yy43 ?_; refine yy87 ?_; refine yy21 ?_; refine yy14 ?_; rotate_left; exact absurd hc auto_no) | fail)
            all_goals exact hgo _ _ _ _ (by (repeat' (first | exact RSub.nil _ | apply RSub.cons)); all_goals rfl) (by first | rfl | (simp [hc]; done) | (simp [hc.out]; done)) (by first | rfl | (simp [hc]; done) | (simp [hc.out]; done)) auto_heap auto_heap hfr
          · -- pre
            rw [kind_pre] at hx
            obtain ⟨rfl, rfl⟩ := Prod.mk.inj hx
            clear hx
            have har := hok.1.1
            rw [ar_pre] at har
            obtain ⟨k0, kr, rfl⟩ : ∃ k0 kr, kl = k0 :: kr := by
              rw [← hkz] at har
              match kl, har with
              | k0 :: kr, _ => exact ⟨k0, kr, rfl⟩
            clear har hkz hZ
            simp only [List.getD_cons_zero, List.getD_cons_succ] at hgo ⊢
            (first | focus (refine yy68 ?_; refine yy75 ?_; refine yy1 ?_; intro hc; refine yy1 ?_; intro hc; refine yy1 ?_; intro hc; refine yy1 ?_; intro hc; refine yy1 ?_; intro hc; refine aw_condp rfl (fun hc => ?_) (fun hc => ?_); refine yy107 ?_; refine yy44 ?_; refine yy43 ?_; refine yy14 ?_; rotate_left; exact absurd hc auto_no) | fail)
            all_goals exact hgo _ _ _ _ (by (repeat' (first | exact RSub.nil _ | apply RSub.cons)); all_goals rfl) (by first | rfl | (simp [hc]; done) | (simp [hc.out]; done)) (by first | rfl | (simp [hc]; done) | (simp [hc.out]; done)) auto_heap auto_heap hfr
          · -- +
            rw [kind_add] at hx
            obtain ⟨rfl, rfl⟩ := Prod.mk.inj hx
            clear hx
            have har := hok.1.1
            rw [ar_add] at har
            obtain ⟨k0, k1, kr, rfl⟩ : ∃ k0 k1 kr, kl = k0 :: k1 :: kr := by
              rw [← hkz] at har
              match kl, har with
              | k0 :: k1 :: kr, _ => exact ⟨k0, k1, kr, rfl⟩
            clear har hkz hZ
            simp only [List.getD_cons_zero, List.getD_cons_succ] at hgo ⊢
            (first | focus (refine yy68 ?_; refine yy75 ?_; refine yy1 ?_; intro hc; refine yy1 ?_; intro hc; refine yy1 ?_; intro hc; refine yy1 ?_; intro hc; refine yy1 ?_; intro hc; refine yy24 ?_; intro hc; refine aw_condp rfl (fun hc => ?_) (fun hc => ?_); refine yy35 ?_; refine aw_condp rfl (fun hc => ?_) (fun hc => ?_); refine yy107 ?_; refine yy44 ?_; refine yy43 ?_; refine yy17 ?_; refine zg1 rfl rfl rfl (fun hc => ?_) (fun hc => ?_); refine yy27 ?_; refine yy5 ?_; refine yy44 ?_; refine yy5 ?_; refine yy43 ?_; refine yy96 ?_; refine yy69 ?_; refine yy21 ?_; refine yy14 ?_; rotate_left; replace hc := hide_nat hc; refine yy50 ?_; refine yy53 ?_; refine yy21 ?_; refine yy14 ?_; rotate_left; exact absurd hc auto_no; exact absurd hc auto_no) | fail)
            all_goals exact hgo _ _ _ _ (by (repeat' (first | exact RSub.nil _ | apply RSub.cons)); all_goals rfl) (by first | rfl | (simp [hc]; done) | (simp [hc.out]; done)) (by first | rfl | (simp [hc]; done) | (simp [hc.out]; done)) auto_heap auto_heap hfr
          · -- -
            rw [kind_sub] at hx
            obtain ⟨rfl, rfl⟩ := Prod.mk.inj hx
            clear hx
            have har := hok.1.1
            rw [ar_sub] at har
            obtain ⟨k0, k1, kr, rfl⟩ : ∃ k0 k1 kr, kl = k0 :: k1 :: kr := by
              rw [← hkz] at har
              match kl, har with
              | k0 :: k1 :: kr, _ => exact ⟨k0, k1, kr, rfl⟩
            clear har hkz hZ
            simp only [List.getD_cons_zero, List.getD_cons_succ] at hgo ⊢
            (first | focus (refine yy68 ?_; refine yy75 ?_; refine yy1 ?_; intro hc; refine yy1 ?_; intro hc; refine yy1 ?_; intro hc; refine yy1 ?_; intro hc; refine yy1 ?_; intro hc; refine yy24 ?_; intro hc; refine yy1 ?_; intro hc; refine aw_condp rfl (fun hc => ?_) (fun hc => ?_); refine yy35 ?_; refine aw_condp rfl (fun hc => ?_) (fun hc => ?_); refine yy107 ?_; refine yy44 ?_; refine yy43 ?_; refine yy17 ?_; refine zg1 rfl rfl rfl (fun hc => ?_) (fun hc => ?_); refine yy27 ?_; refine yy5 ?_; refine yy44 ?_; refine yy5 ?_; refine yy43 ?_; refine yy96 ?_; refine yy69 ?_; refine yy21 ?_; refine yy14 ?_; rotate_left; replace hc := hide_nat hc; refine yy50 ?_; refine yy53 ?_; refine yy21 ?_; refine yy14 ?_; rotate_left; exact absurd hc auto_no; exact absurd hc auto_no) | fail)
            all_goals exact hgo _ _ _ _ (by (repeat' (first | exact RSub.nil _ | apply RSub.cons)); all_goals rfl) (by first | rfl | (simp [hc]; done) | (simp [hc.out]; done)) (by first | rfl | (simp [hc]; done) | (simp [hc.out]; done)) auto_heap auto_heap hfr
          · -- *
            rw [kind_mul] at hx
            obtain ⟨rfl, rfl⟩ := Prod.mk.inj hx
            clear hx
            have har := hok.1.1
            rw [ar_mul] at har
            obtain ⟨k0, k1, kr, rfl⟩ : ∃ k0 k1 kr, kl = k0 :: k1 :: kr := by
              rw [← hkz] at har
              match kl, har with
              | k0 :: k1 :: kr, _ => exact ⟨k0, k1, kr, rfl⟩
            clear har hkz hZ
            simp only [List.getD_cons_zero, List.getD_cons_succ] at hgo ⊢
            (first | focus (refine yy68 ?_; refine yy75 ?_; refine yy1 ?_; intro hc; refine yy1 ?_; intro hc; refine yy1 ?_; intro hc; refine yy1 ?_; intro hc; refine yy1 ?_; intro hc; refine yy24 ?_; intro hc; refine yy1 ?_; intro hc; refine yy1 ?_; intro hc; refine aw_condp rfl (fun hc => ?_) (fun hc => ?_); refine yy35 ?_; refine aw_condp rfl (fun hc => ?_) (fun hc => ?_); refine yy107 ?_; refine yy44 ?_; refine yy43 ?_; refine yy17 ?_; refine zg1 rfl rfl rfl (fun hc => ?_) (fun hc => ?_); refine yy27 ?_; refine yy5 ?_; refine yy44 ?_; refine yy5 ?_; refine yy43 ?_; refine yy96 ?_; refine yy69 ?_; refine yy21 ?_; refine yy14 ?_; rotate_left; replace hc := hide_nat hc; refine yy50 ?_; refine yy53 ?_; refine yy21 ?_; refine yy14 ?_; rotate_left; exact absurd hc auto_no; exact absurd hc auto_no) | fail)
            all_goals exact hgo _ _ _ _ (by (repeat' (first | exact RSub.nil _ | apply RSub.cons)); all_goals rfl) (by first | rfl | (simp [hc]; done) | (simp [hc.out]; done)) (by first | rfl | (simp [hc]; done) | (simp [hc.out]; done)) auto_heap auto_heap hfr
          · -- /
            rw [kind_div] at hx
            obtain ⟨rfl, rfl⟩ := Prod.mk.inj hx
            clear hx
            have har := hok.1.1
            rw [ar_div] at har
            obtain ⟨k0, k1, kr, rfl⟩ : ∃ k0 k1 kr, kl = k0 :: k1 :: kr := by
              rw [← hkz] at har
              match kl, har with
              | k0 :: k1 :: kr, _ => exact ⟨k0, k1, kr, rfl⟩
            clear har hkz hZ
            simp only [List.getD_cons_zero, List.getD_cons_succ] at hgo ⊢
            (first | focus (refine yy68 ?_; refine yy75 ?_; refine yy1 ?_; intro hc; refine yy1 ?_; intro hc; refine yy1 ?_; intro hc; refine yy1 ?_; intro hc; refine yy1 ?_; intro hc; refine yy24 ?_; intro hc; refine yy1 ?_; intro hc; refine yy1 ?_; intro hc; refine yy1 ?_; intro hc; refine aw_condp rfl (fun hc => ?_) (fun hc => ?_); refine yy35 ?_; refine aw_condp rfl (fun hc => ?_) (fun hc => ?_); refine yy107 ?_; refine yy44 ?_; refine yy43 ?_; refine yy17 ?_; refine zg1 rfl rfl rfl (fun hc => ?_) (fun hc => ?_); refine yy27 ?_; refine yy5 ?_; refine yy44 ?_; refine yy5 ?_; refine yy43 ?_; refine yy96 ?_; refine yy69 ?_; refine yy21 ?_; refine yy14 ?_; rotate_left; replace hc := hide_nat hc; refine yy50 ?_; refine yy53 ?_; refine yy21 ?_; refine yy14 ?_; rotate_left; exact absurd hc auto_no; exact absurd hc auto_no) | fail)
            all_goals exact hgo _ _ _ _ (by (repeat' (first | exact RSub.nil _ | apply RSub.cons)); all_goals rfl) (by first | rfl | (simp [hc]; done) | (simp [hc.out]; done)) (by first | rfl | (simp [hc]; done) | (simp [hc.out]; done)) auto_heap auto_heap hfr
          · -- mod
            rw [kind_mod] at hx
            obtain ⟨rfl, rfl⟩ := Prod.mk.inj hx
            clear hx
            have har := hok.1.1
            rw [ar_mod] at har
            obtain ⟨k0, k1, kr, rfl⟩ : ∃ k0 k1 kr, kl = k0 :: k1 :: kr := by
              rw [← hkz] at har
              match kl, har with
              | k0 :: k1 :: kr, _ => exact ⟨k0, k1, kr, rfl⟩
            clear har hkz hZ
            simp only [List.getD_cons_zero, List.getD_cons_succ] at hgo ⊢
            (first | focus (refine yy68 ?_; refine yy75 ?_; refine yy1 ?_; intro hc; refine yy1 ?_; intro hc; refine yy1 ?_; intro hc; refine yy1 ?_; intro hc; refine yy1 ?_; intro hc; refine yy24 ?_; intro hc; refine yy1 ?_; intro hc; refine yy1 ?_; intro hc; refine yy1 ?_; intro hc; refine yy28 ?_; intro hc; refine aw_condp rfl (fun hc => ?_) (fun hc => ?_); refine yy107 ?_; refine yy44 ?_; refine yy43 ?_; refine yy17 ?_; refine zg1 rfl rfl rfl (fun hc => ?_) (fun hc => ?_); refine yy27 ?_; refine yy5 ?_; refine yy44 ?_; refine yy5 ?_; refine yy43 ?_; refine yy96 ?_; refine yy69 ?_; refine yy21 ?_; refine yy14 ?_; rotate_left; replace hc := hide_nat hc; refine yy50 ?_; refine yy53 ?_; refine yy21 ?_; refine yy14 ?_; rotate_left; exact absurd hc auto_no) | fail)
            all_goals exact hgo _ _ _ _ (by (repeat' (first | exact RSub.nil _ | apply RSub.cons)); all_goals rfl) (by first | rfl | (simp [hc]; done) | (simp [hc.out]; done)) (by first | rfl | (simp [hc]; done) | (simp [hc.out]; done)) auto_heap auto_heap hfr
          · -- =
            rw [kind_eq] at hx
            obtain ⟨rfl, rfl⟩ := Prod.mk.inj hx
            clear hx
            have har := hok.1.1
            rw [ar_eq] at har
            obtain ⟨k0, k1, kr, rfl⟩ : ∃ k0 k1 kr, kl = k0 :: k1 :: kr := by
              rw [← hkz] at har
              match kl, har with
              | k0 :: k1 :: kr, _ => exact ⟨k0, k1, kr, rfl⟩
            clear har hkz hZ
            simp only [List.getD_cons_zero, List.getD_cons_succ] at hgo ⊢
            (first | focus (refine yy68 ?_; refine yy75 ?_; refine yy1 ?_; intro hc; refine yy1 ?_; intro hc; refine yy1 ?_; intro hc; refine yy1 ?_; intro hc; refine yy1 ?_; intro hc; refine yy24 ?_; intro hc; refine yy1 ?_; intro hc; refine yy1 ?_; intro hc; refine yy1 ?_; intro hc; refine yy28 ?_; intro hc; refine yy24 ?_; intro hc; refine aw_condp rfl (fun hc => ?_) (fun hc => ?_); refine yy35 ?_; refine aw_condp rfl (fun hc => ?_) (fun hc => ?_); refine yy124 ?_; (apply awt_s; · exact s_move (v := .sls _ _) rfl); (apply awt_s; · exact s_indexAddr_sls rfl rfl auto_len); (apply awt_s; · exact s_load_pce rfl auto_idx); (apply awt_s; · exact s_move (v := .sls _ _) rfl); (apply awt_s; · exact s_indexAddr_sls rfl rfl auto_len); (apply awt_s; · exact s_load_pce rfl auto_idx); (apply awt_s; · exact s_eqn rfl rfl); (apply awt_s; · exact s_assign (v := .raw _) rfl); (apply awt_s; · exact s_assign (v := .raw _) rfl); refine yy128 ?_; refine yy100 ?_; rotate_left; exact absurd hc auto_no; exact absurd hc auto_no) | fail)
            all_goals exact hgo _ _ _ _ (by (repeat' (first | exact RSub.nil _ | apply RSub.cons)); all_goals rfl) (by first | rfl | (simp [hc]; done) | (simp [hc.out]; done)) (by first | rfl | (simp [hc]; done) | (simp [hc.out]; done)) auto_heap auto_heap hfr
          · -- <>
            rw [kind_ne] at hx
            obtain ⟨rfl, rfl⟩ := Prod.mk.inj hx
            clear hx
            have har := hok.1.1
            rw [ar_ne] at har
            obtain ⟨k0, k1, kr, rfl⟩ : ∃ k0 k1 kr, kl = k0 :: k1 :: kr := by
              rw [← hkz] at har
              match kl, har with
              | k0 :: k1 :: kr, _ => exact ⟨k0, k1, kr, rfl⟩
            clear har hkz hZ
            simp only [List.getD_cons_zero, List.getD_cons_succ] at hgo ⊢
            (first | focus (refine yy68 ?_; refine yy75 ?_; refine yy1 ?_; intro hc; refine yy1 ?_; intro hc; refine yy1 ?_; intro hc; refine yy1 ?_; intro hc; refine yy1 ?_; intro hc; refine yy24 ?_; intro hc; refine yy1 ?_; intro hc; refine yy1 ?_; intro hc; refine yy1 ?_; intro hc; refine yy28 ?_; intro hc; refine yy24 ?_; intro hc; refine yy28 ?_; intro hc; refine aw_condp rfl (fun hc => ?_) (fun hc => ?_); refine yy124 ?_; (apply awt_s; · exact s_move (v := .sls _ _) rfl); (apply awt_s; · exact s_indexAddr_sls rfl rfl auto_len); (apply awt_s; · exact s_load_pce rfl auto_idx); (apply awt_s; · exact s_move (v := .sls _ _) rfl); (apply awt_s; · exact s_indexAddr_sls rfl rfl auto_len); (apply awt_s; · exact s_load_pce rfl auto_idx); (apply awt_s; · exact s_eqn rfl rfl); (apply awt_s; · exact s_assign (v := .raw _) rfl); (apply awt_s; · exact s_assign (v := .raw _) rfl); refine yy128 ?_; refine yy100 ?_; rotate_left; exact absurd hc auto_no) | fail)
            all_goals exact hgo _ _ _ _ (by (repeat' (first | exact RSub.nil _ | apply RSub.cons)); all_goals rfl) (by first | rfl | (simp [hc]; done) | (simp [hc.out]; done)) (by first | rfl | (simp [hc]; done) | (simp [hc.out]; done)) auto_heap auto_heap hfr
          · -- <
            rw [kind_lt] at hx
            obtain ⟨rfl, rfl⟩ := Prod.mk.inj hx
            clear hx
            have har := hok.1.1
            rw [ar_lt] at har
            obtain ⟨k0, k1, kr, rfl⟩ : ∃ k0 k1 kr, kl = k0 :: k1 :: kr := by
              rw [← hkz] at har
              match kl, har with
              | k0 :: k1 :: kr, _ => exact ⟨k0, k1, kr, rfl⟩
            clear har hkz hZ
            simp only [List.getD_cons_zero, List.getD_cons_succ] at hgo ⊢
            (first | focus (refine yy68 ?_; refine yy75 ?_; refine yy1 ?_; intro hc; refine yy1 ?_; intro hc; refine yy1 ?_; intro hc; refine yy1 ?_; intro hc; refine yy1 ?_; intro hc; refine yy24 ?_; intro hc; refine yy1 ?_; intro hc; refine yy1 ?_; intro hc; refine yy1 ?_; intro hc; refine yy28 ?_; intro hc; refine yy24 ?_; intro hc; refine yy28 ?_; intro hc; refine yy24 ?_; intro hc; refine aw_condp rfl (fun hc => ?_) (fun hc => ?_); refine yy35 ?_; refine aw_condp rfl (fun hc => ?_) (fun hc => ?_); refine yy107 ?_; refine yy44 ?_; refine yy43 ?_; refine yy17 ?_; refine zg1 rfl rfl rfl (fun hc => ?_) (fun hc => ?_); refine yy27 ?_; refine yy5 ?_; refine yy44 ?_; refine yy5 ?_; refine yy43 ?_; refine yy96 ?_; refine yy69 ?_; refine yy21 ?_; refine yy14 ?_; rotate_left; replace hc := hide_nat hc; refine yy50 ?_; refine yy53 ?_; refine yy21 ?_; refine yy14 ?_; rotate_left; exact absurd hc auto_no; exact absurd hc auto_no) | fail)
            all_goals exact hgo _ _ _ _ (by (repeat' (first | exact RSub.nil _ | apply RSub.cons)); all_goals rfl) (by first | rfl | (simp [hc]; done) | (simp [hc.out]; done)) (by first | rfl | (simp [hc]; done) | (simp [hc.out]; done)) auto_heap auto_heap hfr
          · -- <=
            rw [kind_le] at hx
            obtain ⟨rfl, rfl⟩ := Prod.mk.inj hx
            clear hx
            have har := hok.1.1
            rw [ar_le] at har
            obtain ⟨k0, k1, kr, rfl⟩ : ∃ k0 k1 kr, kl = k0 :: k1 :: kr := by
              rw [← hkz] at har
              match kl, har with
              | k0 :: k1 :: kr, _ => exact ⟨k0, k1, kr, rfl⟩
            clear har hkz hZ
            simp only [List.getD_cons_zero, List.getD_cons_succ] at hgo ⊢
            (first | focus (refine yy68 ?_; refine yy75 ?_; refine yy1 ?_; intro hc; refine yy1 ?_; intro hc; refine yy1 ?_; intro hc; refine yy1 ?_; intro hc; refine yy1 ?_; intro hc; refine yy24 ?_; intro hc; refine yy1 ?_; intro hc; refine yy1 ?_; intro hc; refine yy1 ?_; intro hc; refine yy28 ?_; intro hc; refine yy24 ?_; intro hc; refine yy28 ?_; intro hc; refine yy24 ?_; intro hc; refine yy1 ?_; intro hc; refine aw_condp rfl (fun hc => ?_) (fun hc => ?_); refine yy35 ?_; refine aw_condp rfl (fun hc => ?_) (fun hc => ?_); refine yy107 ?_; refine yy44 ?_; refine yy43 ?_; refine yy17 ?_; refine zg1 rfl rfl rfl (fun hc => ?_) (fun hc => ?_); refine yy27 ?_; refine yy5 ?_; refine yy44 ?_; refine yy5 ?_; refine yy43 ?_; refine yy96 ?_; refine yy69 ?_; refine yy21 ?_; refine yy14 ?_; rotate_left; replace hc := hide_nat hc; refine yy50 ?_; refine yy53 ?_; refine yy21 ?_; refine yy14 ?_; rotate_left; exact absurd hc auto_no; exact absurd hc auto_no) | fail)
            all_goals exact hgo _ _ _ _ (by (repeat' (first | exact RSub.nil _ | apply RSub.cons)); all_goals rfl) (by first | rfl | (simp [hc]; done) | (simp [hc.out]; done)) (by first | rfl | (simp [hc]; done) | (simp [hc.out]; done)) auto_heap auto_heap hfr
          · -- >
            rw [kind_gt] at hx
            obtain ⟨rfl, rfl⟩ := Prod.mk.inj hx
            clear hx
            have har := hok.1.1
            rw [ar_gt] at har
            obtain ⟨k0, k1, kr, rfl⟩ : ∃ k0 k1 kr, kl = k0 :: k1 :: kr := by
              rw [← hkz] at har
              match kl, har with
              | k0 :: k1 :: kr, _ => exact ⟨k0, k1, kr, rfl⟩
            clear har hkz hZ
            simp only [List.getD_cons_zero, List.getD_cons_succ] at hgo ⊢
            (first | focus (refine yy68 ?_; refine yy75 ?_; refine yy1 ?_; intro hc; refine yy1 ?_; intro hc; refine yy1 ?_; intro hc; refine yy1 ?_; intro hc; refine yy1 ?_; intro hc; refine yy24 ?_; intro hc; refine yy1 ?_; intro hc; refine yy1 ?_; intro hc; refine yy1 ?_; intro hc; refine yy28 ?_; intro hc; refine yy24 ?_; intro hc; refine yy28 ?_; intro hc; refine yy24 ?_; intro hc; refine yy1 ?_; intro hc; refine yy1 ?_; intro hc; refine aw_condp rfl (fun hc => ?_) (fun hc => ?_); refine yy35 ?_; refine aw_condp rfl (fun hc => ?_) (fun hc => ?_); refine yy107 ?_; refine yy44 ?_; refine yy43 ?_; refine yy17 ?_; refine zg1 rfl rfl rfl (fun hc => ?_) (fun hc => ?_); refine yy27 ?_; refine yy5 ?_; refine yy44 ?_; refine yy5 ?_; refine yy43 ?_; refine yy96 ?_; refine yy69 ?_; refine yy21 ?_; refine yy14 ?_; rotate_left; replace hc := hide_nat hc; refine yy50 ?_; refine yy53 ?_; refine yy21 ?_; refine yy14 ?_; rotate_left; exact absurd hc auto_no; exact absurd hc auto_no) | fail)
            all_goals exact hgo _ _ _ _ (by (repeat' (first | exact RSub.nil _ | apply RSub.cons)); all_goals rfl) (by first | rfl | (simp [hc]; done) | (simp [hc.out]; done)) (by first | rfl | (simp [hc]; done) | (simp [hc.out]; done)) auto_heap auto_heap hfr
          · -- >=
            rw [kind_ge] at hx
            obtain ⟨rfl, rfl⟩ := Prod.mk.inj hx
            clear hx
            have har := hok.1.1
            rw [ar_ge] at har
            obtain ⟨k0, k1, kr, rfl⟩ : ∃ k0 k1 kr, kl = k0 :: k1 :: kr := by
              rw [← hkz] at har
              match kl, har with
              | k0 :: k1 :: kr, _ => exact ⟨k0, k1, kr, rfl⟩
            clear har hkz hZ
            simp only [List.getD_cons_zero, List.getD_cons_succ] at hgo ⊢
            (first | focus (refine yy68 ?_; refine yy75 ?_; refine yy1 ?_; intro hc; refine yy1 ?_; intro hc; refine yy1 ?_; intro hc; refine yy1 ?_; intro hc; refine yy1 ?_; intro hc; refine yy24 ?_; intro hc; refine yy1 ?_; intro hc; refine yy1 ?_; intro hc; refine yy1 ?_; intro hc; refine yy28 ?_; intro hc; refine yy24 ?_; intro hc; refine yy28 ?_; intro hc; refine yy24 ?_; intro hc; refine yy1 ?_; intro hc; refine yy1 ?_; intro hc; refine yy28 ?_; intro hc; refine aw_condp rfl (fun hc => ?_) (fun hc => ?_); refine yy107 ?_; refine yy44 ?_; refine yy43 ?_; refine yy17 ?_; refine zg1 rfl rfl rfl (fun hc => ?_) (fun hc => ?_); refine yy27 ?_; refine yy5 ?_; refine yy44 ?_; refine yy5 ?_; refine yy43 ?_; refine yy96 ?_; refine yy69 ?_; refine yy21 ?_; refine yy14 ?_; rotate_left; replace hc := hide_nat hc; refine yy50 ?_; refine yy53 ?_; refine yy21 ?_; refine yy14 ?_; rotate_left; exact absurd hc auto_no) | fail)
            all_goals exact hgo _ _ _ _ (by (repeat' (first | exact RSub.nil _ | apply RSub.cons)); all_goals rfl) (by first | rfl | (simp [hc]; done) | (simp [hc.out]; done)) (by first | rfl | (simp [hc]; done) | (simp [hc.out]; done)) auto_heap auto_heap hfr
          · -- and
            rw [kind_and] at hx
            obtain ⟨rfl, rfl⟩ := Prod.mk.inj hx
            clear hx
            have har := hok.1.1
            rw [ar_and] at har
            obtain ⟨k0, k1, kr, rfl⟩ : ∃ k0 k1 kr, kl = k0 :: k1 :: kr := by
              rw [← hkz] at har
              match kl, har with
              | k0 :: k1 :: kr, _ => exact ⟨k0, k1, kr, rfl⟩
            clear har hkz hZ
            simp only [List.getD_cons_zero, List.getD_cons_succ] at hgo ⊢
            (first | focus (refine yy68 ?_; refine yy75 ?_; refine yy1 ?_; intro hc; refine yy1 ?_; intro hc; refine yy1 ?_; intro hc; refine yy1 ?_; intro hc; refine yy1 ?_; intro hc; refine yy24 ?_; intro hc; refine yy1 ?_; intro hc; refine yy1 ?_; intro hc; refine yy1 ?_; intro hc; refine yy28 ?_; intro hc; refine yy24 ?_; intro hc; refine yy28 ?_; intro hc; refine yy24 ?_; intro hc; refine yy1 ?_; intro hc; refine yy1 ?_; intro hc; refine yy28 ?_; intro hc; refine yy24 ?_; intro hc; refine aw_condp rfl (fun hc => ?_) (fun hc => ?_); refine yy35 ?_; refine aw_condp rfl (fun hc => ?_) (fun hc => ?_); refine yy107 ?_; refine yy44 ?_; refine yy43 ?_; refine yy17 ?_; refine zg1 rfl rfl rfl (fun hc => ?_) (fun hc => ?_); refine yy27 ?_; refine yy5 ?_; refine yy44 ?_; refine yy5 ?_; refine yy43 ?_; refine yy96 ?_; refine yy69 ?_; refine yy21 ?_; refine yy14 ?_; rotate_left; replace hc := hide_nat hc; refine yy50 ?_; refine yy53 ?_; refine yy21 ?_; refine yy14 ?_; rotate_left; exact absurd hc auto_no; exact absurd hc auto_no) | fail)
            all_goals exact hgo _ _ _ _ (by (repeat' (first | exact RSub.nil _ | apply RSub.cons)); all_goals rfl) (by first | rfl | (simp [hc]; done) | (simp [hc.out]; done)) (by first | rfl | (simp [hc]; done) | (simp [hc.out]; done)) auto_heap auto_heap hfr
          · -- or
            rw [kind_or] at hx
            obtain ⟨rfl, rfl⟩ := Prod.mk.inj hx
            clear hx
            have har := hok.1.1
            rw [ar_or] at har
            obtain ⟨k0, k1, kr, rfl⟩ : ∃ k0 k1 kr, kl = k0 :: k1 :: kr := by
              rw [← hkz] at har
              match kl, har with
              | k0 :: k1 :: kr, _ => exact ⟨k0, k1, kr, rfl⟩
            clear har hkz hZ
            simp only [List.getD_cons_zero, List.getD_cons_succ] at hgo ⊢
            (first | focus (refine yy68 ?_; refine yy75 ?_; refine yy1 ?_; intro hc; refine yy1 ?_; intro hc; refine yy1 ?_; intro hc; refine yy1 ?_; intro hc; refine yy1 ?_; intro hc; refine yy24 ?_; intro hc; refine yy1 ?_; intro hc; refine yy1 ?_; intro hc; refine yy1 ?_; intro hc; refine yy28 ?_; intro hc; refine yy24 ?_; intro hc; refine yy28 ?_; intro hc; refine yy24 ?_; intro hc; refine yy1 ?_; intro hc; refine yy1 ?_; intro hc; refine yy28 ?_; intro hc; refine yy24 ?_; intro hc; refine yy1 ?_; intro hc; refine aw_condp rfl (fun hc => ?_) (fun hc => ?_); refine yy35 ?_; refine aw_condp rfl (fun hc => ?_) (fun hc => ?_); refine yy107 ?_; refine yy44 ?_; refine yy43 ?_; refine yy17 ?_; refine zg1 rfl rfl rfl (fun hc => ?_) (fun hc => ?_); refine yy27 ?_; refine yy5 ?_; refine yy44 ?_; refine yy5 ?_; refine yy43 ?_; refine yy96 ?_; refine yy69 ?_; refine yy21 ?_; refine yy14 ?_; rotate_left; replace hc := hide_nat hc; refine yy50 ?_; refine yy53 ?_; refine yy21 ?_; refine yy14 ?_; rotate_left; exact absurd hc auto_no; exact absurd hc auto_no) | fail)
            all_goals exact hgo _ _ _ _ (by (repeat' (first | exact RSub.nil _ | apply RSub.cons)); all_goals rfl) (by first | rfl | (simp [hc]; done) | (simp [hc.out]; done)) (by first | rfl | (simp [hc]; done) | (simp [hc.out]; done)) auto_heap auto_heap hfr
          · -- xor
            rw [kind_xor] at hx
            obtain ⟨rfl, rfl⟩ := Prod.mk.inj hx
            clear hx
            have har := hok.1.1
            rw [ar_xor] at har
            obtain ⟨k0, k1, kr, rfl⟩ : ∃ k0 k1 kr, kl = k0 :: k1 :: kr := by
              rw [← hkz] at har
              match kl, har with
              | k0 :: k1 :: kr, _ => exact ⟨k0, k1, kr, rfl⟩
            clear har hkz hZ
            simp only [List.getD_cons_zero, List.getD_cons_succ] at hgo ⊢
            (first | focus (refine yy68 ?_; refine yy75 ?_; refine yy1 ?_; intro hc; refine yy1 ?_; intro hc; refine yy1 ?_; intro hc; refine yy1 ?_; intro hc; refine yy1 ?_; intro hc; refine yy24 ?_; intro hc; refine yy1 ?_; intro hc; refine yy1 ?_; intro hc; refine yy1 ?_; intro hc; refine yy28 ?_; intro hc; refine yy24 ?_; intro hc; refine yy28 ?_; intro hc; refine yy24 ?_; intro hc; refine yy1 ?_; intro hc; refine yy1 ?_; intro hc; refine yy28 ?_; intro hc; refine yy24 ?_; intro hc; refine yy1 ?_; intro hc; refine yy28 ?_; intro hc; refine aw_condp rfl (fun hc => ?_) (fun hc => ?_); refine yy107 ?_; refine yy44 ?_; refine yy43 ?_; refine yy17 ?_; refine zg1 rfl rfl rfl (fun hc => ?_) (fun hc => ?_); refine yy27 ?_; refine yy5 ?_; refine yy44 ?_; refine yy5 ?_; refine yy43 ?_; refine yy96 ?_; refine yy69 ?_; refine yy21 ?_; refine yy14 ?_; rotate_left; replace hc := hide_nat hc; refine yy50 ?_; refine yy53 ?_; refine yy21 ?_; refine yy14 ?_; rotate_left; exact absurd hc auto_no) | fail)
            all_goals exact hgo _ _ _ _ (by (repeat' (first | exact RSub.nil _ | apply RSub.cons)); all_goals rfl) (by first | rfl | (simp [hc]; done) | (simp [hc.out]; done)) (by first | rfl | (simp [hc]; done) | (simp [hc.out]; done)) auto_heap auto_heap hfr
          · -- ->
            rw [kind_arrow] at hx
            obtain ⟨rfl, rfl⟩ := Prod.mk.inj hx
            clear hx
            have har := hok.1.1
            rw [ar_arrow] at har
            obtain ⟨k0, k1, kr, rfl⟩ : ∃ k0 k1 kr, kl = k0 :: k1 :: kr := by
              rw [← hkz] at har
              match kl, har with
              | k0 :: k1 :: kr, _ => exact ⟨k0, k1, kr, rfl⟩
            clear har hkz hZ
            simp only [List.getD_cons_zero, List.getD_cons_succ] at hgo ⊢
            (first | focus (refine yy68 ?_; refine yy75 ?_; refine yy1 ?_; intro hc; refine yy1 ?_; intro hc; refine yy1 ?_; intro hc; refine yy1 ?_; intro hc; refine yy1 ?_; intro hc; refine yy24 ?_; intro hc; refine yy1 ?_; intro hc; refine yy1 ?_; intro hc; refine yy1 ?_; intro hc; refine yy28 ?_; intro hc; refine yy24 ?_; intro hc; refine yy28 ?_; intro hc; refine yy24 ?_; intro hc; refine yy1 ?_; intro hc; refine yy1 ?_; intro hc; refine yy28 ?_; intro hc; refine yy24 ?_; intro hc; refine yy1 ?_; intro hc; refine yy28 ?_; intro hc; refine yy24 ?_; intro hc; refine aw_condp rfl (fun hc => ?_) (fun hc => ?_); refine yy35 ?_; refine aw_condp rfl (fun hc => ?_) (fun hc => ?_); refine yy124 ?_; (apply awt_s; · exact s_move (v := .sls _ _) rfl); (apply awt_s; · exact s_indexAddr_sls rfl rfl auto_len); (apply awt_s; · exact s_load_pce rfl auto_idx); (apply awt_s; · exact s_move (v := .sls _ _) rfl); (apply awt_s; · exact s_indexAddr_sls rfl rfl auto_len); (apply awt_s; · exact s_load_pce rfl auto_idx); (apply awt_s; · exact s_eqn rfl rfl); (apply awt_s; · exact s_move (v := .sls _ _) rfl); (apply awt_s; · exact s_indexAddr_sls rfl rfl auto_len); (apply awt_s; · exact s_load_pce rfl auto_idx); (apply awt_s; · exact s_assign (v := .raw _) rfl); (apply awt_s; · exact s_assign (v := .raw _) rfl); refine yy128 ?_; refine yy100 ?_; rotate_left; exact absurd hc auto_no; exact absurd hc auto_no) | fail)
            all_goals exact hgo _ _ _ _ (by (repeat' (first | exact RSub.nil _ | apply RSub.cons)); all_goals rfl) (by first | rfl | (simp [hc]; done) | (simp [hc.out]; done)) (by first | rfl | (simp [hc]; done) | (simp [hc.out]; done)) auto_heap auto_heap hfr
          · -- fby
            rw [kind_fby] at hx
            obtain ⟨rfl, rfl⟩ := Prod.mk.inj hx
            clear hx
            have har := hok.1.1
            rw [ar_fby] at har
            obtain ⟨k0, k1, kr, rfl⟩ : ∃ k0 k1 kr, kl = k0 :: k1 :: kr := by
              rw [← hkz] at har
              match kl, har with
              | k0 :: k1 :: kr, _ => exact ⟨k0, k1, kr, rfl⟩
            clear har hkz hZ
            simp only [List.getD_cons_zero, List.getD_cons_succ] at hgo ⊢
            (first | focus (refine yy68 ?_; refine yy75 ?_; refine yy1 ?_; intro hc; refine yy1 ?_; intro hc; refine yy1 ?_; intro hc; refine yy1 ?_; intro hc; refine yy1 ?_; intro hc; refine yy24 ?_; intro hc; refine yy1 ?_; intro hc; refine yy1 ?_; intro hc; refine yy1 ?_; intro hc; refine yy28 ?_; intro hc; refine yy24 ?_; intro hc; refine yy28 ?_; intro hc; refine yy24 ?_; intro hc; refine yy1 ?_; intro hc; refine yy1 ?_; intro hc; refine yy28 ?_; intro hc; refine yy24 ?_; intro hc; refine yy1 ?_; intro hc; refine yy28 ?_; intro hc; refine yy24 ?_; intro hc; refine yy28 ?_; intro hc; refine aw_condp rfl (fun hc => ?_) (fun hc => ?_); refine yy124 ?_; (apply awt_s; · exact s_move (v := .sls _ _) rfl); (apply awt_s; · exact s_indexAddr_sls rfl rfl auto_len); (apply awt_s; · exact s_load_pce rfl auto_idx); (apply awt_s; · exact s_move (v := .sls _ _) rfl); (apply awt_s; · exact s_indexAddr_sls rfl rfl auto_len); (apply awt_s; · exact s_load_pce rfl auto_idx); (apply awt_s; · exact s_eqn rfl rfl); (apply awt_s; · exact s_move (v := .sls _ _) rfl); (apply awt_s; · exact s_indexAddr_sls rfl rfl auto_len); (apply awt_s; · exact s_load_pce rfl auto_idx); (apply awt_s; · exact s_assign (v := .raw _) rfl); (apply awt_s; · exact s_assign (v := .raw _) rfl); refine yy128 ?_; refine yy100 ?_; rotate_left; exact absurd hc auto_no) | fail)
            all_goals exact hgo _ _ _ _ (by (repeat' (first | exact RSub.nil _ | apply RSub.cons)); all_goals rfl) (by first | rfl | (simp [hc]; done) | (simp [hc.out]; done)) (by first | rfl | (simp [hc]; done) | (simp [hc.out]; done)) auto_heap auto_heap hfr
          · -- if
            rw [kind_if] at hx
            obtain ⟨rfl, rfl⟩ := Prod.mk.inj hx
            clear hx
            have har := hok.1.1
            rw [ar_if] at har
            obtain ⟨k0, k1, k2, kr, rfl⟩ : ∃ k0 k1 k2 kr, kl = k0 :: k1 :: k2 :: kr := by
              rw [← hkz] at har
              match kl, har with
              | k0 :: k1 :: k2 :: kr, _ => exact ⟨k0, k1, k2, kr, rfl⟩
            clear har hkz hZ
            simp only [List.getD_cons_zero, List.getD_cons_succ] at hgo ⊢
            (first | focus (refine yy68 ?_; refine yy75 ?_; refine yy1 ?_; intro hc; refine yy1 ?_; intro hc; refine yy1 ?_; intro hc; refine yy1 ?_; intro hc; refine yy1 ?_; intro hc; refine yy24 ?_; intro hc; refine yy1 ?_; intro hc; refine yy1 ?_; intro hc; refine yy1 ?_; intro hc; refine yy28 ?_; intro hc; refine yy24 ?_; intro hc; refine yy28 ?_; intro hc; refine yy24 ?_; intro hc; refine yy1 ?_; intro hc; refine yy1 ?_; intro hc; refine yy28 ?_; intro hc; refine yy24 ?_; intro hc; refine yy1 ?_; intro hc; refine yy28 ?_; intro hc; refine yy24 ?_; intro hc; refine yy28 ?_; intro hc; refine yy1 ?_; intro hc; refine aw_condp rfl (fun hc => ?_) (fun hc => ?_); refine yy124 ?_; (apply awt_s; · exact s_move (v := .sls _ _) rfl); (apply awt_s; · exact s_indexAddr_sls rfl rfl auto_len); (apply awt_s; · exact s_load_pce rfl auto_idx); (apply awt_s; · exact s_eqn rfl rfl); (apply awt_s; · exact s_move (v := .raw _) rfl); refine zt1 rfl rfl rfl (fun hc => ?_) (fun hc => ?_); (apply awt_s; · exact s_move (v := .sls _ _) rfl); refine yy3 ?_; (apply awt_s; · exact s_indexAddr_sls rfl rfl auto_len); refine yy3 ?_; (apply awt_s; · exact s_load_pce rfl auto_idx); refine yy3 ?_; (apply awt_s; · exact s_move (v := .sls _ _) rfl); refine yy3 ?_; (apply awt_s; · exact s_indexAddr_sls rfl rfl auto_len); refine yy3 ?_; (apply awt_s; · exact s_load_pce rfl auto_idx); refine yy3 ?_; (apply awt_s; · exact s_eqn rfl rfl); (apply awt_s; · exact s_pick_t (v := .raw _) rfl rfl); (apply awt_s; · exact s_move (v := .sls _ _) rfl); (apply awt_s; · exact s_indexAddr_sls rfl rfl auto_len); (apply awt_s; · exact s_load_pce rfl auto_idx); (apply awt_s; · exact s_assign (v := .raw _) rfl); (apply awt_s; · exact s_assign (v := .raw _) rfl); refine yy128 ?_; refine yy100 ?_; rotate_left; replace hc := hide_nat hc; refine yy64 ?_; refine yy131 ?_; (apply awt_s; · exact s_pick_f (v := .raw _) rfl rfl); (apply awt_s; · exact s_move (v := .sls _ _) rfl); (apply awt_s; · exact s_indexAddr_sls rfl rfl auto_len); (apply awt_s; · exact s_load_pce rfl auto_idx); (apply awt_s; · exact s_assign (v := .raw _) rfl); (apply awt_s; · exact s_assign (v := .raw _) rfl); refine yy128 ?_; refine yy100 ?_; rotate_left; exact absurd hc auto_no) | fail)
            all_goals exact hgo _ _ _ _ (by (repeat' (first | exact RSub.nil _ | apply RSub.cons)); all_goals rfl) (by first | rfl | (simp [hc]; done) | (simp [hc.out]; done)) (by first | rfl | (simp [hc]; done) | (simp [hc.out]; done)) auto_heap auto_heap hfr
          · -- when
            rw [kind_when] at hx
            obtain ⟨rfl, rfl⟩ := Prod.mk.inj hx
            clear hx
            have har := hok.1.1
            rw [ar_when] at har
            obtain ⟨k0, kr, rfl⟩ : ∃ k0 kr, kl = k0 :: kr := by
              rw [← hkz] at har
              match kl, har with
              | k0 :: kr, _ => exact ⟨k0, kr, rfl⟩
            clear har hkz hZ
            simp only [List.getD_cons_zero, List.getD_cons_succ] at hgo ⊢
            generalize findV n nm = fv at *
            obtain ⟨fv, kn⟩ := fv
            simp only at hgo cf
            (first | focus (refine yy68 ?_; refine yy75 ?_; refine yy1 ?_; intro hc; refine yy1 ?_; intro hc; refine yy1 ?_; intro hc; refine yy1 ?_; intro hc; refine yy1 ?_; intro hc; refine yy24 ?_; intro hc; refine yy1 ?_; intro hc; refine yy1 ?_; intro hc; refine yy1 ?_; intro hc; refine yy28 ?_; intro hc; refine yy24 ?_; intro hc; refine yy28 ?_; intro hc; refine yy24 ?_; intro hc; refine yy1 ?_; intro hc; refine yy1 ?_; intro hc; refine yy28 ?_; intro hc; refine yy24 ?_; intro hc; refine yy1 ?_; intro hc; refine yy28 ?_; intro hc; refine yy24 ?_; intro hc; refine yy28 ?_; intro hc; refine yy1 ?_; intro hc; refine yy1 ?_; intro hc; refine aw_condp rfl (fun hc => ?_) (fun hc => ?_); refine yy98 ?_; refine yy10 ?_; (refine zc auto_wl (cf _) ?_; rintro r H' ⟨rfl, rfl⟩); refine yy80 ?_; refine awl_alloc rfl rfl rfl (fun oN hoN => ?_); refine yy11 ?_; refine yy6 ?_; refine yy124 ?_; (apply awt_s; · exact s_fieldAddr_ptr rfl); (apply awt_s; · exact s_load_cel rfl auto_heap rfl); (apply awt_s; · exact s_eqn rfl rfl); (apply awt_s; · exact s_move (v := .sls _ _) rfl); (apply awt_s; · exact s_indexAddr_sls rfl rfl auto_len); (apply awt_s; · exact s_load_pce rfl auto_idx); (apply awt_s; · exact s_assign (v := .raw _) rfl); (apply awt_s; · exact s_assign (v := .raw _) rfl); refine yy128 ?_; refine yy100 ?_; rotate_left; exact absurd hc auto_no) | fail)
            all_goals (
              have hN3 : H' oN = none := by (first | assumption | exact AHeap.none_of_set ((by assumption)) | exact AHeap.none_of_set (AHeap.none_of_set ((by assumption))) | exact AHeap.none_of_set (AHeap.none_of_set (AHeap.none_of_set ((by assumption)))) | exact AHeap.none_of_set (AHeap.none_of_set (AHeap.none_of_set (AHeap.none_of_set ((by assumption))))) | exact AHeap.none_of_set (AHeap.none_of_set (AHeap.none_of_set (AHeap.none_of_set (AHeap.none_of_set ((by assumption)))))) | exact AHeap.none_of_set (AHeap.none_of_set (AHeap.none_of_set (AHeap.none_of_set (AHeap.none_of_set (AHeap.none_of_set ((by assumption))))))) | exact AHeap.none_of_set (AHeap.none_of_set (AHeap.none_of_set (AHeap.none_of_set (AHeap.none_of_set (AHeap.none_of_set (AHeap.none_of_set ((by assumption)))))))) | exact AHeap.none_of_set (AHeap.none_of_set (AHeap.none_of_set (AHeap.none_of_set (AHeap.none_of_set (AHeap.none_of_set (AHeap.none_of_set (AHeap.none_of_set ((by assumption))))))))) | exact AHeap.none_of_set (AHeap.none_of_set (AHeap.none_of_set (AHeap.none_of_set (AHeap.none_of_set (AHeap.none_of_set (AHeap.none_of_set (AHeap.none_of_set (AHeap.none_of_set ((by assumption)))))))))) | exact AHeap.none_of_set (AHeap.none_of_set (AHeap.none_of_set (AHeap.none_of_set (AHeap.none_of_set (AHeap.none_of_set (AHeap.none_of_set (AHeap.none_of_set (AHeap.none_of_set (AHeap.none_of_set ((by assumption))))))))))))
              have hNE : oN ≠ oE := fun e => by rw [e, q1] at hN3; cases hN3
              have hNo : oN ≠ o := fun e => by rw [e, q3] at hN3; cases hN3
              exact hgo _ _ _ _ (by (repeat' (first | exact RSub.nil _ | apply RSub.cons)); all_goals rfl) (by first | rfl | (simp [hc]; done) | (simp [hc.out]; done)) (by first | rfl | (simp [hc]; done) | (simp [hc.out]; done)) auto_heap auto_heap (fun p y hpo hp => by
                have hp2 := hfr p y hpo hp
                have hp5 : H' p ≠ none := fun e => by rw [hp2] at e; cases e
                have hp7 : p ≠ oN := fun e => hp5 (by rw [e]; exact hN3)
                exact auto_heap))
          · -- merge
            rw [kind_merge] at hx
            obtain ⟨rfl, rfl⟩ := Prod.mk.inj hx
            clear hx
            have har := hok.1.1
            rw [ar_merge] at har
            obtain ⟨k0, k1, kr, rfl⟩ : ∃ k0 k1 kr, kl = k0 :: k1 :: kr := by
              rw [← hkz] at har
              match kl, har with
              | k0 :: k1 :: kr, _ => exact ⟨k0, k1, kr, rfl⟩
            clear har hkz hZ
            simp only [List.getD_cons_zero, List.getD_cons_succ] at hgo ⊢
            generalize findV n nm = fv at *
            obtain ⟨fv, kn⟩ := fv
            simp only at hgo cf
            (first | focus (refine yy68 ?_; refine yy75 ?_; refine yy1 ?_; intro hc; refine yy1 ?_; intro hc; refine yy1 ?_; intro hc; refine yy1 ?_; intro hc; refine yy1 ?_; intro hc; refine yy24 ?_; intro hc; refine yy1 ?_; intro hc; refine yy1 ?_; intro hc; refine yy1 ?_; intro hc; refine yy28 ?_; intro hc; refine yy24 ?_; intro hc; refine yy28 ?_; intro hc; refine yy24 ?_; intro hc; refine yy1 ?_; intro hc; refine yy1 ?_; intro hc; refine yy28 ?_; intro hc; refine yy24 ?_; intro hc; refine yy1 ?_; intro hc; refine yy28 ?_; intro hc; refine yy24 ?_; intro hc; refine yy28 ?_; intro hc; refine yy1 ?_; intro hc; refine yy1 ?_; intro hc; refine yy1 ?_; intro hc; refine aw_condp rfl (fun hc => ?_) (fun hc => ?_); refine yy98 ?_; refine yy10 ?_; (refine zc auto_wl (cf _) ?_; rintro r H' ⟨rfl, rfl⟩); refine yy80 ?_; refine awl_alloc rfl rfl rfl (fun oN hoN => ?_); refine yy11 ?_; refine yy6 ?_; refine yy124 ?_; (apply awt_s; · exact s_fieldAddr_ptr rfl); (apply awt_s; · exact s_load_cel rfl auto_heap rfl); (apply awt_s; · exact s_eqn rfl rfl); (apply awt_s; · exact s_move (v := .raw _) rfl); refine zt1 rfl rfl rfl (fun hc => ?_) (fun hc => ?_); (apply awt_s; · exact s_move (v := .sls _ _) rfl); refine yy3 ?_; (apply awt_s; · exact s_indexAddr_sls rfl rfl auto_len); refine yy3 ?_; (apply awt_s; · exact s_load_pce rfl auto_idx); refine yy3 ?_; (apply awt_s; · exact s_move (v := .sls _ _) rfl); refine yy3 ?_; (apply awt_s; · exact s_indexAddr_sls rfl rfl auto_len); refine yy3 ?_; (apply awt_s; · exact s_load_pce rfl auto_idx); refine yy3 ?_; (apply awt_s; · exact s_eqn rfl rfl); (apply awt_s; · exact s_pick_t (v := .raw _) rfl rfl); (apply awt_s; · exact s_move (v := .sls _ _) rfl); (apply awt_s; · exact s_indexAddr_sls rfl rfl auto_len); (apply awt_s; · exact s_load_pce rfl auto_idx); (apply awt_s; · exact s_assign (v := .raw _) rfl); (apply awt_s; · exact s_assign (v := .raw _) rfl); refine yy128 ?_; refine yy100 ?_; rotate_left; replace hc := hide_nat hc; refine yy64 ?_; refine yy131 ?_; (apply awt_s; · exact s_pick_f (v := .raw _) rfl rfl); (apply awt_s; · exact s_move (v := .sls _ _) rfl); (apply awt_s; · exact s_indexAddr_sls rfl rfl auto_len); (apply awt_s; · exact s_load_pce rfl auto_idx); (apply awt_s; · exact s_assign (v := .raw _) rfl); (apply awt_s; · exact s_assign (v := .raw _) rfl); refine yy128 ?_; refine yy100 ?_; rotate_left; exact absurd hc auto_no) | fail)
            all_goals (
              have hN3 : H' oN = none := by (first | assumption | exact AHeap.none_of_set ((by assumption)) | exact AHeap.none_of_set (AHeap.none_of_set ((by assumption))) | exact AHeap.none_of_set (AHeap.none_of_set (AHeap.none_of_set ((by assumption)))) | exact AHeap.none_of_set (AHeap.none_of_set (AHeap.none_of_set (AHeap.none_of_set ((by assumption))))) | exact AHeap.none_of_set (AHeap.none_of_set (AHeap.none_of_set (AHeap.none_of_set (AHeap.none_of_set ((by assumption)))))) | exact AHeap.none_of_set (AHeap.none_of_set (AHeap.none_of_set (AHeap.none_of_set (AHeap.none_of_set (AHeap.none_of_set ((by assumption))))))) | exact AHeap.none_of_set (AHeap.none_of_set (AHeap.none_of_set (AHeap.none_of_set (AHeap.none_of_set (AHeap.none_of_set (AHeap.none_of_set ((by assumption)))))))) | exact AHeap.none_of_set (AHeap.none_of_set (AHeap.none_of_set (AHeap.none_of_set (AHeap.none_of_set (AHeap.none_of_set (AHeap.none_of_set (AHeap.none_of_set ((by assumption))))))))) | exact AHeap.none_of_set (AHeap.none_of_set (AHeap.none_of_set (AHeap.none_of_set (AHeap.none_of_set (AHeap.none_of_set (AHeap.none_of_set (AHeap.none_of_set (AHeap.none_of_set ((by assumption)))))))))) | exact AHeap.none_of_set (AHeap.none_of_set (AHeap.none_of_set (AHeap.none_of_set (AHeap.none_of_set (AHeap.none_of_set (AHeap.none_of_set (AHeap.none_of_set (AHeap.none_of_set (AHeap.none_of_set ((by assumption))))))))))))
              have hNE : oN ≠ oE := fun e => by rw [e, q1] at hN3; cases hN3
              have hNo : oN ≠ o := fun e => by rw [e, q3] at hN3; cases hN3
              exact hgo _ _ _ _ (by (repeat' (first | exact RSub.nil _ | apply RSub.cons)); all_goals rfl) (by first | rfl | (simp [hc]; done) | (simp [hc.out]; done)) (by first | rfl | (simp [hc]; done) | (simp [hc.out]; done)) auto_heap auto_heap (fun p y hpo hp => by
                have hp2 := hfr p y hpo hp
                have hp5 : H' p ≠ none := fun e => by rw [hp2] at e; cases e
                have hp7 : p ≠ oN := fun e => hp5 (by rw [e]; exact hN3)
                exact auto_heap))
          · -- call
            obtain ⟨j, m, hg, hj, ho1, hi1⟩ := hok.1.2 rfl
            rw [kind_call n kl hg hj] at hx
            obtain ⟨rfl, rfl⟩ := Prod.mk.inj hx
            clear hx
            have hseg : List.take 6 (List.drop (j * 6) (ndL l)) = [.str m.name, .sls m.ins.length (vrL m.ins), .sls m.outs.length (vrL m.outs), .sls m.locs.length (vrL m.locs), .sls m.eqs.length (eqL m.eqs), avI m.at_] := nd_get hg
            have hjl : j < l.length := (List.getElem?_eq_some_iff.1 hg).1
            rw [hj] at cn
            have hmi := vr_len m.ins
            have hmo := vr_len m.outs
            obtain ⟨ov, hov⟩ : ∃ ov, m.outs = [ov] := by
              match hm : m.outs, ho1 with
              | [ov], _ => exact ⟨ov, rfl⟩
            have z1 := vr_at (l := m.outs) (i := 0) (by rw [hov]; rfl) (j := 1) (by decide) rfl
            have hov2 : (m.outs.getD 0 Vr0).kind = ov.kind := by rw [hov]; rfl
            have hik : m.ins.length = kl.length := by rw [hi1, hkz]
            rw [hov2] at hgo ⊢
            clear hg hj hok hov hov2 hi1 hZ cf
            simp only [Nat.zero_mul, Nat.zero_add] at z1
            have hkb : kl.length ≤ 2000000 := by omega
            (first | focus (refine yy68 ?_; refine yy75 ?_; refine yy1 ?_; intro hc; refine yy1 ?_; intro hc; refine yy1 ?_; intro hc; refine yy1 ?_; intro hc; refine yy1 ?_; intro hc; refine yy24 ?_; intro hc; refine yy1 ?_; intro hc; refine yy1 ?_; intro hc; refine yy1 ?_; intro hc; refine yy28 ?_; intro hc; refine yy24 ?_; intro hc; refine yy28 ?_; intro hc; refine yy24 ?_; intro hc; refine yy1 ?_; intro hc; refine yy1 ?_; intro hc; refine yy28 ?_; intro hc; refine yy24 ?_; intro hc; refine yy1 ?_; intro hc; refine yy28 ?_; intro hc; refine yy24 ?_; intro hc; refine yy28 ?_; intro hc; refine yy1 ?_; intro hc; refine yy1 ?_; intro hc; refine yy1 ?_; intro hc; refine yy1 ?_; intro hc; refine aw_condp rfl (fun hc => ?_) (fun hc => ?_); refine yy76 ?_; refine yy27 ?_; refine yy10 ?_; (refine zc auto_wl (cn _) ?_; rintro r H' ⟨rfl, rfl⟩); refine yy44 ?_; refine yy101 ?_; refine awl_alloc rfl rfl rfl (fun oN hoN => ?_); refine yy11 ?_; refine yy42 ?_; refine yy71 ?_; rotate_left; exact absurd hc auto_no) | fail)
            have hN3 : H' oN = none := by (first | assumption | exact AHeap.none_of_set ((by assumption)) | exact AHeap.none_of_set (AHeap.none_of_set ((by assumption))) | exact AHeap.none_of_set (AHeap.none_of_set (AHeap.none_of_set ((by assumption)))) | exact AHeap.none_of_set (AHeap.none_of_set (AHeap.none_of_set (AHeap.none_of_set ((by assumption))))) | exact AHeap.none_of_set (AHeap.none_of_set (AHeap.none_of_set (AHeap.none_of_set (AHeap.none_of_set ((by assumption)))))) | exact AHeap.none_of_set (AHeap.none_of_set (AHeap.none_of_set (AHeap.none_of_set (AHeap.none_of_set (AHeap.none_of_set ((by assumption))))))) | exact AHeap.none_of_set (AHeap.none_of_set (AHeap.none_of_set (AHeap.none_of_set (AHeap.none_of_set (AHeap.none_of_set (AHeap.none_of_set ((by assumption)))))))) | exact AHeap.none_of_set (AHeap.none_of_set (AHeap.none_of_set (AHeap.none_of_set (AHeap.none_of_set (AHeap.none_of_set (AHeap.none_of_set (AHeap.none_of_set ((by assumption))))))))) | exact AHeap.none_of_set (AHeap.none_of_set (AHeap.none_of_set (AHeap.none_of_set (AHeap.none_of_set (AHeap.none_of_set (AHeap.none_of_set (AHeap.none_of_set (AHeap.none_of_set ((by assumption)))))))))) | exact AHeap.none_of_set (AHeap.none_of_set (AHeap.none_of_set (AHeap.none_of_set (AHeap.none_of_set (AHeap.none_of_set (AHeap.none_of_set (AHeap.none_of_set (AHeap.none_of_set (AHeap.none_of_set ((by assumption))))))))))))
            have hNE : oN ≠ oE := fun e => by rw [e, q1] at hN3; cases hN3
            have hNo : oN ≠ o := fun e => by rw [e, q3] at hN3; cases hN3
            refine aw_loop (fun mm R4 H4 => ∃ (i : Nat) (b : Bool), i ≤ kl.length ∧ Hdn (b = decide ((m.ins.take i).map (fun v : Vr => v.kind) = kl.take i)) ∧ H4 oE = some (.cel [.str ([99, 97, 108, 108] : Bs), .str nm, avI nn, avI at_, .sls ks.length (exL ks)]) ∧ H4 o = some (.cel (ckA S)) ∧ H4 oN = some (.cel [.str m.name, .sls m.ins.length (vrL m.ins), .sls m.outs.length (vrL m.outs), .sls m.locs.length (vrL m.locs), .sls m.eqs.length (eqL m.eqs), avI m.at_]) ∧ (∀ p y, p ≠ o → H p = some y → H4 p = some y) ∧ R4 = [(0, .ptr o 0), (7, .ptr oE 0), (9, .sls kl.length (kA kl)), (11, avB b), (19, .ptr oN 0), (20, avI i)] ∧ kl.length - i = mm) ?_ ?_
            · exact ⟨_, _, _, Ent.sub _ (by (repeat' (first | exact RSub.nil _ | apply RSub.cons)); all_goals rfl), 0, true, Nat.zero_le _, ⟨rfl⟩, by exact auto_heap, by exact auto_heap, by exact auto_heap, (fun p y hpo hp => by
                have hp2 := hfr p y hpo hp
                have hp5 : H' p ≠ none := fun e => by rw [hp2] at e; cases e
                have hp7 : p ≠ oN := fun e => hp5 (by rw [e]; exact hN3)
                exact auto_heap), rfl, rfl⟩
            clear q1 q2 q3 hfr hoN hN3 hseg cn hNE hNo
            rintro mm R4 H4 ⟨i, b, hi, hb, q1, q3, q5, hfr, rfl, rfl⟩
            by_cases hlt : i < kl.length
            · have hgk : kl[i]? = some kl[i] := List.getElem?_eq_getElem hlt
              have hgi : m.ins[i]? = some m.ins[i] := List.getElem?_eq_getElem (by omega)
              generalize kl[i] = ki at *
              generalize m.ins[i] = u at *
              have z2 := vr_at hgi (j := 1) (by decide) rfl
              have hb2 : Hdn ((b && decide (u.kind = ki)) = decide ((m.ins.take (i + 1)).map (fun v : Vr => v.kind) = kl.take (i + 1))) := ⟨by rw [hb.out]; exact kinds_snoc hgi hgk⟩
              have w2 : (kA kl)[i]? = some (avI (ki : Int)) := map_get0 hgk
              clear hb hgi hgo
              cases b
              · rw [Bool.false_and] at hb2
                (first | focus (refine yy45 ?_; refine aw_condp rfl (fun hc => ?_) (fun hc => ?_); refine yy13 ?_; refine yy124 ?_; (apply awt_s; · exact s_move (v := .raw _) rfl); (apply awt_s; · exact s_move (v := .raw _) rfl); refine yy64 ?_; refine yy64 ?_; refine yy131 ?_; refine zt4 rfl rfl ?_; (apply awt_s; · exact s_pick_f (v := .raw _) rfl rfl); (apply awt_s; · exact s_assign (v := .raw _) rfl); refine yy128 ?_; refine yy100 ?_; refine yy22 ?_; rotate_left; exact absurd hc auto_no) | fail)
                all_goals exact ⟨kl.length - (i + 1), _, _, by omega, Ent.sub _ (by (repeat' (first | exact RSub.nil _ | apply RSub.cons)); all_goals rfl), i + 1, false, by omega, hb2, q1, q3, q5, hfr, rfl, rfl⟩
              · rw [Bool.true_and] at hb2
                (first | focus (refine yy45 ?_; refine aw_condp rfl (fun hc => ?_) (fun hc => ?_); refine yy13 ?_; refine yy124 ?_; (apply awt_s; · exact s_move (v := .raw _) rfl); (apply awt_s; · exact s_move (v := .raw _) rfl); refine yy3 ?_; (apply awt_s; · exact s_fieldAddr_ptr rfl); refine yy3 ?_; (apply awt_s; · exact s_load_cel rfl auto_heap rfl); refine yy3 ?_; (apply awt_s; · exact s_move (v := .raw _) rfl); refine yy3 ?_; (apply awt_s; · exact s_indexAddr_sls rfl rfl auto_len); refine yy3 ?_; (apply awt_s; · exact s_fieldAddr_pce rfl); refine yy3 ?_; (apply awt_s; · exact s_load_pce rfl auto_idx); refine yy3 ?_; (apply awt_s; · exact s_move (v := .sls _ _) rfl); refine yy3 ?_; (apply awt_s; · exact s_move (v := .raw _) rfl); refine yy3 ?_; (apply awt_s; · exact s_indexAddr_sls rfl rfl auto_len); refine yy3 ?_; (apply awt_s; · exact s_load_pce rfl auto_idx); refine yy3 ?_; (apply awt_s; · exact s_eqn rfl rfl); (apply awt_s; · exact s_pick_t (v := .raw _) rfl rfl); (apply awt_s; · exact s_assign (v := .raw _) rfl); refine yy128 ?_; refine yy100 ?_; refine yy22 ?_; rotate_left; exact absurd hc auto_no) | fail)
                all_goals exact ⟨kl.length - (i + 1), _, _, by omega, Ent.sub _ (by (repeat' (first | exact RSub.nil _ | apply RSub.cons)); all_goals rfl), i + 1, decide (u.kind = ki), by omega, hb2, q1, q3, q5, hfr, rfl, rfl⟩
            · obtain rfl : i = kl.length := by omega
              rw [List.take_length] at hb
              (first | focus (refine yy45 ?_; refine yy34 ?_; intro hc; refine yy32 ?_; refine yy10 ?_; refine yy44 ?_; refine yy118 ?_; refine yy14 ?_; rotate_left) | fail)
              exact hgo _ _ b _ (by (repeat' (first | exact RSub.nil _ | apply RSub.cons)); all_goals rfl) hb.out rfl q1 q3 hfr
        · rw [kind_other _ _ _ _ _ hA] at hx
          obtain ⟨rfl, rfl⟩ := Prod.mk.inj hx
          simp only [opsAll, List.mem_cons, List.mem_nil_iff, or_false, not_or] at hA
          obtain ⟨d0, d1, d2, d3, d4, d5, d6, d7, d8, d9, d10, d11, d12, d13, d14, d15, d16, d17, d18, d19, d20, d21, d22, d23, d24, d25⟩ := hA
          replace d0 := Hdq.mk d0
          replace d1 := Hdq.mk d1
          replace d2 := Hdq.mk d2
          replace d3 := Hdq.mk d3
          replace d4 := Hdq.mk d4
          replace d5 := Hdq.mk d5
          replace d6 := Hdq.mk d6
          replace d7 := Hdq.mk d7
          replace d8 := Hdq.mk d8
          replace d9 := Hdq.mk d9
          replace d10 := Hdq.mk d10
          replace d11 := Hdq.mk d11
          replace d12 := Hdq.mk d12
          replace d13 := Hdq.mk d13
          replace d14 := Hdq.mk d14
          replace d15 := Hdq.mk d15
          replace d16 := Hdq.mk d16
          replace d17 := Hdq.mk d17
          replace d18 := Hdq.mk d18
          replace d19 := Hdq.mk d19
          replace d20 := Hdq.mk d20
          replace d21 := Hdq.mk d21
          replace d22 := Hdq.mk d22
          replace d23 := Hdq.mk d23
          replace d24 := Hdq.mk d24
          replace d25 := Hdq.mk d25
          clear ih hb h hkl
          (first | focus (refine yy68 ?_; refine yy75 ?_; refine yy29 ?_; intro hc; refine yy29 ?_; intro hc; refine yy29 ?_; intro hc; refine yy29 ?_; intro hc; refine yy29 ?_; intro hc; refine yy30 ?_; intro hc; refine yy65 ?_; refine yy29 ?_; intro hc; refine yy29 ?_; intro hc; refine yy29 ?_; intro hc; refine yy30 ?_; intro hc; refine yy126 ?_; refine yy30 ?_; intro hc; refine yy65 ?_; refine yy30 ?_; intro hc; refine yy126 ?_; refine yy30 ?_; intro hc; refine yy65 ?_; refine yy29 ?_; intro hc; refine yy29 ?_; intro hc; refine yy30 ?_; intro hc; refine yy126 ?_; refine yy30 ?_; intro hc; refine yy65 ?_; refine yy29 ?_; intro hc; refine yy30 ?_; intro hc; refine yy126 ?_; refine yy30 ?_; intro hc; refine yy65 ?_; refine yy30 ?_; intro hc; refine yy126 ?_; refine yy29 ?_; intro hc; refine yy29 ?_; intro hc; refine yy29 ?_; intro hc; refine yy29 ?_; intro hc; refine yy30 ?_; intro hc; refine yy39 ?_; rotate_left) | fail)
          exact hgo _ _ _ _ (by (repeat' (first | exact RSub.nil _ | apply RSub.cons)); all_goals rfl) rfl rfl auto_heap auto_heap hfr
      · rintro R1 H1 ⟨b, r, hbr, q1, q3, hfr, rfl⟩
        obtain ⟨rfl, rfl⟩ := hbr.out
        have ce := fun H h => fail_calls6 (o := o) H S 9 at_ h
        clear hx hbr cf cn ih hZ hok
        cases b
        · (first | focus (refine yy9 ?_; refine yy104 ?_; refine yy67 ?_; refine yy10 ?_; (refine zc auto_wl (ce _ auto_heap) ?_; rintro r H' ⟨rfl, rfl⟩); refine yy16 ?_; refine yy7 ?_; refine yy41 ?_; rotate_left) | fail)
          exact ⟨.inl rfl, _, _, _, Ent.gc (Sub.set auto_heap (fun p y hpo hp => by
            have hp2 := hfr p y hpo hp
            exact auto_heap)), ret1 rfl rfl, rfl, rfl⟩
        · (first | focus (refine yy9 ?_; refine yy52 ?_; refine yy25 ?_; refine yy19 ?_; refine yy41 ?_; rotate_left) | fail)
          exact ⟨.inl rfl, _, _, _, Ent.gc (Sub.set q3 (fun p y hpo hp => hfr p y hpo hp)), ret1 rfl rfl, rfl, rfl⟩
end Go.Proofs.Ytmgkhfnhaeplgaa

namespace Go.Proofs.Ytmgkhfnhaeplgaa
open Go Go.Am Go.Proofs
set_option linter.unusedSimpArgs false
set_option linter.unusedVariables false
set_option maxRecDepth 20000
set_option maxHeartbeats 8000000

/-! Kinds: Types. -/
theorem Types_calls (H : AHeap) (l : List Nd) (hl : l.length ≤ 2000000) (hok : ∀ n ∈ l, NdOk n) (hex : ∀ n ∈ l, ∀ q ∈ n.eqs, exOk l q.e) : ACalls Try.prog 23 [ndsA l] H fun r H' => r = .agg (ckA (types l)) ∧ H' = H := by
  have hvl := nd_len l
  unfold types
  generalize hZ : typesN l l (0, 0) = Z
  replace hZ := Hdn.mk hZ
  refine acalls_of_aw1 Try.func23 rfl (by decide) ?_
  (first | focus (refine yy2 ?_; refine awl_alloc rfl rfl rfl (fun oN hoN => ?_); refine yy16 ?_; refine yy20 ?_; refine zb1 rfl rfl rfl (fun oN hoN => ?_); refine awl_s rfl (s_assign (v := .ptr _ _) rfl) ?_; refine yy42 ?_; refine yy71 ?_; rotate_left) | fail)
  rename_i oR hoR
  obtain ⟨oC, hoCe⟩ : ∃ x, x = oN := ⟨_, rfl⟩
  subst hoCe
  have hC0 : H oC = none := by (first | assumption | exact AHeap.none_of_set ((by assumption)) | exact AHeap.none_of_set (AHeap.none_of_set ((by assumption))) | exact AHeap.none_of_set (AHeap.none_of_set (AHeap.none_of_set ((by assumption)))) | exact AHeap.none_of_set (AHeap.none_of_set (AHeap.none_of_set (AHeap.none_of_set ((by assumption))))) | exact AHeap.none_of_set (AHeap.none_of_set (AHeap.none_of_set (AHeap.none_of_set (AHeap.none_of_set ((by assumption)))))) | exact AHeap.none_of_set (AHeap.none_of_set (AHeap.none_of_set (AHeap.none_of_set (AHeap.none_of_set (AHeap.none_of_set ((by assumption))))))) | exact AHeap.none_of_set (AHeap.none_of_set (AHeap.none_of_set (AHeap.none_of_set (AHeap.none_of_set (AHeap.none_of_set (AHeap.none_of_set ((by assumption)))))))) | exact AHeap.none_of_set (AHeap.none_of_set (AHeap.none_of_set (AHeap.none_of_set (AHeap.none_of_set (AHeap.none_of_set (AHeap.none_of_set (AHeap.none_of_set ((by assumption))))))))) | exact AHeap.none_of_set (AHeap.none_of_set (AHeap.none_of_set (AHeap.none_of_set (AHeap.none_of_set (AHeap.none_of_set (AHeap.none_of_set (AHeap.none_of_set (AHeap.none_of_set ((by assumption)))))))))) | exact AHeap.none_of_set (AHeap.none_of_set (AHeap.none_of_set (AHeap.none_of_set (AHeap.none_of_set (AHeap.none_of_set (AHeap.none_of_set (AHeap.none_of_set (AHeap.none_of_set (AHeap.none_of_set ((by assumption))))))))))))
  have hCR : oC ≠ oR := by (first | assumption | exact Ne.symm (by assumption) | exact AHeap.ne_of_fresh (by assumption) | exact Ne.symm (AHeap.ne_of_fresh (by assumption)) | exact AHeap.ne_of_fresh (AHeap.none_of_set (by assumption)) | exact Ne.symm (AHeap.ne_of_fresh (AHeap.none_of_set (by assumption))) | exact AHeap.ne_ns (by assumption) (by assumption) | exact AHeap.ne_sn (by assumption) (by assumption) | exact AHeap.ne_ns (by assumption) auto_heap2 | exact AHeap.ne_sn (by assumption) auto_heap2)
  refine aw_loop (fun mm R1 H1 => ∃ (i : Nat) (c : Ck), i ≤ l.length ∧ Hdn (typesN l (l.drop i) c = Z) ∧ H1 oC = some (.cel (ckA c)) ∧ H1 oR = some (.cel ckZ) ∧ (∀ p y, H p = some y → H1 p = some y) ∧ R1 = [(0, ndsA l), (2, .ptr oR 0), (3, .ptr oC 0), (4, avI i)] ∧ l.length - i = mm) ?_ ?_
  · exact ⟨_, _, _, Ent.sub _ (by (repeat' (first | exact RSub.nil _ | apply RSub.cons)); all_goals rfl), 0, (0, 0), Nat.zero_le _, hZ, by exact auto_heap, by exact auto_heap, fun p y hp => auto_heap, rfl, rfl⟩
  clear hZ hoN
  rintro mm R1 H1 ⟨i, c, hi, hZ, q1, q2, hfr, rfl, rfl⟩
  by_cases hlt : i < l.length
  · have hg : l[i]? = some l[i] := List.getElem?_eq_getElem hlt
    have hd : l.drop i = l[i] :: l.drop (i + 1) := List.drop_eq_getElem_cons hlt
    have hn := hok _ (List.getElem_mem hlt)
    have hx := hex _ (List.getElem_mem hlt)
    rw [hd, typesN] at hZ
    generalize l[i] = n at *
    have hseg : List.take 6 (List.drop (i * 6) (ndL l)) = [.str n.name, .sls n.ins.length (vrL n.ins), .sls n.outs.length (vrL n.outs), .sls n.locs.length (vrL n.locs), .sls n.eqs.length (eqL n.eqs), avI n.at_] := nd_get hg
    clear hg hd
    have hml := vr_len n.locs
    have hbl := hn.l
    have heq := eq_len n.eqs
    have hbq := hn.q
    generalize hZ2 : typesV n n.locs c = Zv at *
    replace hZ2 := Hdn.mk hZ2
    (first | focus (refine yy45 ?_; refine aw_condp rfl (fun hc => ?_) (fun hc => ?_); refine yy13 ?_; refine yy76 ?_; refine yy47 ?_; refine yy101 ?_; refine awl_alloc rfl rfl rfl (fun oN hoN => ?_); refine yy11 ?_; refine yy42 ?_; refine yy71 ?_; rotate_left; exact absurd hc auto_no) | fail)
    obtain ⟨oX, hoXe⟩ : ∃ x, x = oN := ⟨_, rfl⟩
    subst hoXe
    have hX0 : H oX = none := by
      cases e : H oX with
      | none => rfl
      | some y => rw [hfr _ _ e] at hoN; cases hoN
    have hXC : oX ≠ oC := fun e => by rw [e, q1] at hoN; cases hoN
    have hXR : oX ≠ oR := fun e => by rw [e, q2] at hoN; cases hoN
    refine aw_loop (fun mm R3 H3 => ∃ (k : Nat) (c : Ck), k ≤ n.locs.length ∧ Hdn (typesV n (n.locs.drop k) c = Zv) ∧ H3 oC = some (.cel (ckA c)) ∧ H3 oR = some (.cel ckZ) ∧ H3 oX = some (.cel [.str n.name, .sls n.ins.length (vrL n.ins), .sls n.outs.length (vrL n.outs), .sls n.locs.length (vrL n.locs), .sls n.eqs.length (eqL n.eqs), avI n.at_]) ∧ (∀ p y, H p = some y → H3 p = some y) ∧ R3 = [(0, ndsA l), (2, .ptr oR 0), (3, .ptr oC 0), (4, avI i), (5, .ptr oX 0), (6, avI k)] ∧ n.locs.length - k = mm) ?_ ?_
    · exact ⟨_, _, _, Ent.sub _ (by (repeat' (first | exact RSub.nil _ | apply RSub.cons)); all_goals rfl), 0, c, Nat.zero_le _, hZ2, by exact auto_heap, by exact auto_heap, by exact auto_heap, (fun p y hp => by
          have hp2 := hfr p y hp
          have hp4 : p ≠ oX := fun e => by rw [e, hX0] at hp; cases hp
          exact auto_heap), rfl, rfl⟩
    clear hZ2 q1 q2 hfr c hoN hseg
    rintro mm R3 H3 ⟨k, c, hk, hZ2, q1, q2, q3, hfr, rfl, rfl⟩
    by_cases hkt : k < n.locs.length
    · have hg : n.locs[k]? = some n.locs[k] := List.getElem?_eq_getElem hkt
      have hd : n.locs.drop k = n.locs[k] :: n.locs.drop (k + 1) := List.drop_eq_getElem_cons hkt
      rw [hd, typesV] at hZ2
      generalize n.locs[k] = x at *
      have hsx := vr_get5 hg
      clear hg hd
      have cf := fun H h => fail_calls6 (o := oC) H c 9 x.at_ h
      have cfd := fun H => Find_calls H n x.on hn.i hn.o hn.l
      generalize findV n x.on = fv at *
      obtain ⟨fv, kn⟩ := fv
      simp only at cfd hZ2
      generalize failC c 9 x.at_ = c2 at *
      by_cases ho : x.on = []
      · rw [if_neg (by simp [ho])] at hZ2
        rw [ho] at hsx cfd
        (first | focus (refine yy93 ?_; refine yy89 ?_; refine aw_condp rfl (fun hc => ?_) (fun hc => ?_); refine yy13 ?_; refine yy99 ?_; refine yy47 ?_; refine yy101 ?_; refine awl_alloc rfl rfl rfl (fun oN hoN => ?_); refine yy11 ?_; refine yy16 ?_; refine yy10 ?_; refine awl_s rfl (s_strne rfl rfl) ?_; refine yy4 ?_; refine yy90 ?_; intro hc; refine yy39 ?_; refine yy22 ?_; rotate_left; exact absurd hc auto_no) | fail)
        all_goals exact ⟨n.locs.length - (k + 1), _, _, by omega, Ent.tog (by (repeat' (first | exact RSub.nil _ | apply RSub.cons)); all_goals rfl) auto_sub, k + 1, c, by omega, hZ2, q1, q2, q3, hfr, rfl, rfl⟩
      · by_cases hk1 : fv.kind = 1
        · rw [if_neg (by simp [hk1])] at hZ2
          replace ho := Hdq.mk ho
          (first | focus (refine yy93 ?_; refine yy89 ?_; refine aw_condp rfl (fun hc => ?_) (fun hc => ?_); refine yy13 ?_; refine yy99 ?_; refine yy47 ?_; refine yy101 ?_; refine awl_alloc rfl rfl rfl (fun oN hoN => ?_); refine yy11 ?_; refine yy16 ?_; refine yy10 ?_; refine awl_s rfl (s_strne rfl rfl) ?_; refine yy4 ?_; refine aw_condp rfl (fun hc => ?_) (fun hc => ?_); refine yy98 ?_; refine yy10 ?_; (refine zc auto_wl (cfd _) ?_; rintro r H' ⟨rfl, rfl⟩); refine yy80 ?_; refine awl_alloc rfl rfl rfl (fun oN hoN => ?_); refine yy11 ?_; refine yy6 ?_; refine yy99 ?_; refine yy110 ?_; refine yy90 ?_; intro hc; refine yy39 ?_; refine yy22 ?_; rotate_left; refine yy39 ?_; refine yy22 ?_; rotate_left; exact absurd hc auto_no) | fail)
          all_goals first
            | exact absurd (Decidable.of_not_not hc) ho.out
            | exact ⟨n.locs.length - (k + 1), _, _, by omega, Ent.tog (by (repeat' (first | exact RSub.nil _ | apply RSub.cons)); all_goals rfl) auto_sub, k + 1, c, by omega, hZ2, q1, q2, q3, hfr, rfl, rfl⟩
        · rw [if_pos ⟨ho, hk1⟩] at hZ2
          replace ho := Hdq.mk ho
          (first | focus (refine yy93 ?_; refine yy89 ?_; refine aw_condp rfl (fun hc => ?_) (fun hc => ?_); refine yy13 ?_; refine yy99 ?_; refine yy47 ?_; refine yy101 ?_; refine awl_alloc rfl rfl rfl (fun oN hoN => ?_); refine yy11 ?_; refine yy16 ?_; refine yy10 ?_; refine awl_s rfl (s_strne rfl rfl) ?_; refine yy4 ?_; refine aw_condp rfl (fun hc => ?_) (fun hc => ?_); refine yy98 ?_; refine yy10 ?_; (refine zc auto_wl (cfd _) ?_; rintro r H' ⟨rfl, rfl⟩); refine yy80 ?_; refine awl_alloc rfl rfl rfl (fun oN hoN => ?_); refine yy11 ?_; refine yy6 ?_; refine yy99 ?_; refine yy110 ?_; refine aw_condp rfl (fun hc => ?_) (fun hc => ?_); replace hc := hide_nat hc; refine yy67 ?_; refine yy10 ?_; (refine zc auto_wl (cf _ auto_heap) ?_; rintro r H' ⟨rfl, rfl⟩); refine yy48 ?_; refine yy22 ?_; rotate_left; exact absurd hc auto_no; refine yy39 ?_; refine yy22 ?_; rotate_left; exact absurd hc auto_no) | fail)
          all_goals first
            | exact absurd (Decidable.of_not_not hc) ho.out
            | exact absurd (Decidable.of_not_not hc) hk1
            | exact ⟨n.locs.length - (k + 1), _, H3.set oC (.cel (ckA c2)), by omega, Ent.tog (by (repeat' (first | exact RSub.nil _ | apply RSub.cons)); all_goals rfl) auto_sub, k + 1, c2, by omega, hZ2, by exact auto_heap, by exact auto_heap, by exact auto_heap, (fun p y hp => by
            have hp2 := hfr p y hp
            have hp3 : p ≠ oC := fun e => by rw [e, hC0] at hp; cases hp
            exact auto_heap), rfl, rfl⟩
    · obtain rfl : k = n.locs.length := by omega
      have hZ3 : c = Zv := by rw [← hZ2.out, List.drop_length, typesV]
      subst hZ3
      clear hZ2
      generalize hZ4 : typesQ l n n.eqs c = Zq at *
      replace hZ4 := Hdn.mk hZ4
      (first | focus (refine yy93 ?_; refine yy89 ?_; refine yy34 ?_; intro hc; refine yy15 ?_; refine aw_block ?_; rotate_left) | fail)
      refine aw_loop (fun mm R3 H3 => ∃ (k : Nat) (c : Ck), k ≤ n.eqs.length ∧ Hdn (typesQ l n (n.eqs.drop k) c = Zq) ∧ H3 oC = some (.cel (ckA c)) ∧ H3 oR = some (.cel ckZ) ∧ H3 oX = some (.cel [.str n.name, .sls n.ins.length (vrL n.ins), .sls n.outs.length (vrL n.outs), .sls n.locs.length (vrL n.locs), .sls n.eqs.length (eqL n.eqs), avI n.at_]) ∧ (∀ p y, H p = some y → H3 p = some y) ∧ R3 = [(0, ndsA l), (2, .ptr oR 0), (3, .ptr oC 0), (4, avI i), (5, .ptr oX 0), (10, avI k)] ∧ n.eqs.length - k = mm) ?_ ?_
      · exact ⟨_, _, _, Ent.sub _ (by (repeat' (first | exact RSub.nil _ | apply RSub.cons)); all_goals rfl), 0, c, Nat.zero_le _, hZ4, q1, q2, q3, hfr, rfl, rfl⟩
      clear hZ4 q1 q2 q3 hfr c hkt hk
      rintro mm R3 H3 ⟨k, c, hk, hZ4, q1, q2, q3, hfr, rfl, rfl⟩
      by_cases hkt : k < n.eqs.length
      · have hg : n.eqs[k]? = some n.eqs[k] := List.getElem?_eq_getElem hkt
        have hd : n.eqs.drop k = n.eqs[k] :: n.eqs.drop (k + 1) := List.drop_eq_getElem_cons hkt
        have hbx := hn.e _ (List.getElem_mem hkt)
        have hxo := hx _ (List.getElem_mem hkt)
        rw [hd, typesQ] at hZ4
        generalize n.eqs[k] = x at *
        have hsq : List.take 7 (List.drop (k * 7) (eqL n.eqs)) = [.str x.name, .str x.e.op, .str x.e.name, avI x.e.n, avI x.e.at_, .sls x.e.kids.length (exL x.e.kids), avI x.at_] := eq_get hg
        have hsE : List.take 5 (List.drop (k * 7 + 1) (eqL n.eqs)) = x.e.cells := seg_sub hsq 1 5 (by decide)
        have y0 := eq_at hg (j := 0) (by decide) rfl
        have y6 := eq_at hg (j := 6) (by decide) rfl
        clear hg hd hsq
        have cfd := fun H => Find_calls H n x.name hn.i hn.o hn.l
        have ck := fun H h => kind_calls (o := oC) l n hl hn.i hn.o hn.l _ x.e H c (Nat.le_refl _) hbx hxo h
        generalize findV n x.name = fv at *
        generalize kindE l n c x.e = kv at *
        obtain ⟨fv, kn⟩ := fv
        obtain ⟨kk, c1⟩ := kv
        simp only at cfd hZ4 ck
        have cf := fun H h => fail_calls6 (o := oC) H c1 9 x.at_ h
        generalize failC c1 9 x.at_ = c2 at *
        by_cases hk1 : kk = fv.kind
        · rw [if_neg (by simp [hk1])] at hZ4
          rw [hk1] at ck
          (first | focus (refine yy93 ?_; refine yy89 ?_; refine aw_condp rfl (fun hc => ?_) (fun hc => ?_); refine yy13 ?_; refine aw_seq ?_; refine DC.aw_drawpx [43] (fun H' => H' oX = some (.cel [.str n.name, .sls n.ins.length (vrL n.ins), .sls n.outs.length (vrL n.outs), .sls n.locs.length (vrL n.locs), .sls n.eqs.length (eqL n.eqs), avI n.at_])) (by first | exact auto_heap) auto_kr auto_dk auto_dk ?_; (apply DC.awn_s; · (intro H1 hPsi; (try dsimp only at hPsi); exact s_load_agg rfl auto_heap rfl rfl (by first | decide | exact Nat.le_of_ble_eq_true rfl))); (apply DC.awn_s; · (intro H1 hPsi; (try dsimp only at hPsi); exact s_fieldAddr_ptr rfl)); (apply DC.awn_s; · (intro H1 hPsi; (try dsimp only at hPsi); exact s_load_cel rfl auto_heap rfl)); (apply DC.awn_s; · (intro H1 hPsi; (try dsimp only at hPsi); exact s_move (v := .raw _) rfl)); (apply DC.awn_s; · (intro H1 hPsi; (try dsimp only at hPsi); exact s_indexAddr_sls rfl rfl auto_len)); (apply DC.awn_s; · (intro H1 hPsi; (try dsimp only at hPsi); exact s_fieldAddr_pce rfl)); (apply DC.awn_s; · (intro H1 hPsi; (try dsimp only at hPsi); exact s_load_pce rfl auto_idx)); (apply DC.awn_s; · (intro H1 hPsi; (try dsimp only at hPsi); exact s_callc auto_wl (cfd _))); (apply DC.awn_s; · (intro H1 hPsi; (try dsimp only at hPsi); exact s_move (v := .tup _) rfl)); (apply DC.awn_s; · (intro H1 hPsi; (try dsimp only at hPsi); exact s_extract rfl rfl)); (apply DC.awn_s; · (intro H1 hPsi; (try dsimp only at hPsi); exact s_extract rfl rfl)); refine DC.awn_b ?_; refine DC.awn_b0 ?_; (apply DC.awn_s; · (intro H1 hPsi; (try dsimp only at hPsi); exact s_assign (v := .raw _) rfl)); refine DC.awn_nil ?_; refine DC.awc_cons (fun Rx K1 hK1x => ?_); refine awl_alloc rfl rfl rfl (fun oN hoN => ?_); refine yy61 ?_; (refine hK1x _ _ (by first | exact Or.inl (by decide +kernel) | (refine Or.inr ?_; (try dsimp only); first | exact auto_heap)) ?_; clear hK1x K1 Rx); refine DC.awc_cons0 (fun Rx K1 hK1x => ?_); refine yy11 ?_; refine yy61 ?_; (refine hK1x _ (by first | exact Or.inl (by decide +kernel) | (refine Or.inr ?_; (try dsimp only); first | exact auto_heap)) ?_; clear hK1x K1 Rx); refine DC.awc_nil ?_; refine k_seq_normal ?_; rotate_left; exact absurd hc auto_no) | fail)
          (first | focus (refine aw_seq ?_; refine DC.aw_drawp (fun H' => H' oN = some (.cel [.str fv.name, avI fv.kind, .str fv.on, avB fv.not, avI fv.at_])) (by first | exact auto_heap | exact ⟨auto_heap, auto_heap⟩ | exact ⟨auto_heap, auto_heap, auto_heap⟩) auto_kr auto_dk auto_dk ?_; (apply DC.awn_s; · (intro H1 hPsi; (try dsimp only at hPsi); exact s_move (v := .ptr _ _) rfl)); (apply DC.awn_s; · (intro H1 hPsi; (try dsimp only at hPsi); exact s_move (v := .sls _ _) rfl)); (apply DC.awn_e auto_dk; (· exact s_load_agg rfl auto_heap rfl rfl (by first | decide | exact Nat.le_of_ble_eq_true rfl))); (apply DC.awn_s; · (intro H1 hPsi; (try dsimp only at hPsi); exact s_fieldAddr_ptr rfl)); (apply DC.awn_e auto_dk; (· exact s_load_cel rfl auto_heap rfl)); (apply DC.awn_s; · (intro H1 hPsi; (try dsimp only at hPsi); exact s_move (v := .raw _) rfl)); (apply DC.awn_s; · (intro H1 hPsi; (try dsimp only at hPsi); exact s_indexAddr_sls rfl rfl auto_len)); (apply DC.awn_s; · (intro H1 hPsi; (try dsimp only at hPsi); exact s_fieldAddr_pce rfl)); (apply DC.awn_s; · (intro H1 hPsi; (try dsimp only at hPsi); exact s_load_pce_agg rfl (by assumption) (by rfl) (by decide))); refine DC.awn_b ?_; (apply DC.awn_s; · (intro H1 hPsi; (try dsimp only at hPsi); exact s_fieldAddr_ptr rfl)); (apply DC.awn_s; · (intro H1 hPsi; (try dsimp only at hPsi); exact s_load_cel rfl auto_heap rfl)); refine DC.awn_b ?_; refine DC.awn_nil ?_; refine DC.awc_cons (fun Rx K1 hK1x => ?_); (refine zc auto_wl (ck _ auto_heap) ?_; rintro r H' ⟨rfl, rfl⟩); refine yy61 ?_; (refine hK1x _ _ (by first | exact Or.inl (by decide +kernel) | (refine Or.inr ?_; (try dsimp only); first | exact auto_heap | exact ⟨auto_heap, auto_heap⟩ | exact ⟨auto_heap, auto_heap, auto_heap⟩)) ?_; clear hK1x K1 Rx); refine DC.awc_cons (fun Rx K1 hK1x => ?_); refine yy130 ?_; refine yy61 ?_; (refine hK1x _ _ (by first | exact Or.inl (by decide +kernel) | (refine Or.inr ?_; (try dsimp only); first | exact auto_heap | exact ⟨auto_heap, auto_heap⟩ | exact ⟨auto_heap, auto_heap, auto_heap⟩)) ?_; clear hK1x K1 Rx); refine DC.awc_nil ?_; refine k_seq_normal ?_; refine yy90 ?_; intro hc; refine yy39 ?_; refine yy22 ?_; rotate_left) | fail)
          all_goals exact ⟨n.eqs.length - (k + 1), _, H3.set oC (.cel (ckA c1)), by omega, Ent.tog (by (repeat' (first | exact RSub.nil _ | apply RSub.cons)); all_goals rfl) auto_sub, k + 1, c1, by omega, hZ4, by exact auto_heap, by exact auto_heap, by exact auto_heap, (fun p y hp => by
            have hp2 := hfr p y hp
            have hp3 : p ≠ oC := fun e => by rw [e, hC0] at hp; cases hp
            exact auto_heap), rfl, rfl⟩
        · rw [if_pos hk1] at hZ4
          (first | focus (refine yy93 ?_; refine yy89 ?_; refine aw_condp rfl (fun hc => ?_) (fun hc => ?_); refine yy13 ?_; refine aw_seq ?_; refine DC.aw_drawpx [43] (fun H' => H' oX = some (.cel [.str n.name, .sls n.ins.length (vrL n.ins), .sls n.outs.length (vrL n.outs), .sls n.locs.length (vrL n.locs), .sls n.eqs.length (eqL n.eqs), avI n.at_])) (by first | exact auto_heap) auto_kr auto_dk auto_dk ?_; (apply DC.awn_s; · (intro H1 hPsi; (try dsimp only at hPsi); exact s_load_agg rfl auto_heap rfl rfl (by first | decide | exact Nat.le_of_ble_eq_true rfl))); (apply DC.awn_s; · (intro H1 hPsi; (try dsimp only at hPsi); exact s_fieldAddr_ptr rfl)); (apply DC.awn_s; · (intro H1 hPsi; (try dsimp only at hPsi); exact s_load_cel rfl auto_heap rfl)); (apply DC.awn_s; · (intro H1 hPsi; (try dsimp only at hPsi); exact s_move (v := .raw _) rfl)); (apply DC.awn_s; · (intro H1 hPsi; (try dsimp only at hPsi); exact s_indexAddr_sls rfl rfl auto_len)); (apply DC.awn_s; · (intro H1 hPsi; (try dsimp only at hPsi); exact s_fieldAddr_pce rfl)); (apply DC.awn_s; · (intro H1 hPsi; (try dsimp only at hPsi); exact s_load_pce rfl auto_idx)); (apply DC.awn_s; · (intro H1 hPsi; (try dsimp only at hPsi); exact s_callc auto_wl (cfd _))); (apply DC.awn_s; · (intro H1 hPsi; (try dsimp only at hPsi); exact s_move (v := .tup _) rfl)); (apply DC.awn_s; · (intro H1 hPsi; (try dsimp only at hPsi); exact s_extract rfl rfl)); (apply DC.awn_s; · (intro H1 hPsi; (try dsimp only at hPsi); exact s_extract rfl rfl)); refine DC.awn_b ?_; refine DC.awn_b0 ?_; (apply DC.awn_s; · (intro H1 hPsi; (try dsimp only at hPsi); exact s_assign (v := .raw _) rfl)); refine DC.awn_nil ?_; refine DC.awc_cons (fun Rx K1 hK1x => ?_); refine awl_alloc rfl rfl rfl (fun oN hoN => ?_); refine yy61 ?_; (refine hK1x _ _ (by first | exact Or.inl (by decide +kernel) | (refine Or.inr ?_; (try dsimp only); first | exact auto_heap)) ?_; clear hK1x K1 Rx); refine DC.awc_cons0 (fun Rx K1 hK1x => ?_); refine yy11 ?_; refine yy61 ?_; (refine hK1x _ (by first | exact Or.inl (by decide +kernel) | (refine Or.inr ?_; (try dsimp only); first | exact auto_heap)) ?_; clear hK1x K1 Rx); refine DC.awc_nil ?_; refine k_seq_normal ?_; rotate_left; exact absurd hc auto_no) | fail)
          (first | focus (refine aw_seq ?_; refine DC.aw_drawp (fun H' => H' oN = some (.cel [.str fv.name, avI fv.kind, .str fv.on, avB fv.not, avI fv.at_])) (by first | exact auto_heap | exact ⟨auto_heap, auto_heap⟩ | exact ⟨auto_heap, auto_heap, auto_heap⟩) auto_kr auto_dk auto_dk ?_; (apply DC.awn_s; · (intro H1 hPsi; (try dsimp only at hPsi); exact s_move (v := .ptr _ _) rfl)); (apply DC.awn_s; · (intro H1 hPsi; (try dsimp only at hPsi); exact s_move (v := .sls _ _) rfl)); (apply DC.awn_e auto_dk; (· exact s_load_agg rfl auto_heap rfl rfl (by first | decide | exact Nat.le_of_ble_eq_true rfl))); (apply DC.awn_s; · (intro H1 hPsi; (try dsimp only at hPsi); exact s_fieldAddr_ptr rfl)); (apply DC.awn_e auto_dk; (· exact s_load_cel rfl auto_heap rfl)); (apply DC.awn_s; · (intro H1 hPsi; (try dsimp only at hPsi); exact s_move (v := .raw _) rfl)); (apply DC.awn_s; · (intro H1 hPsi; (try dsimp only at hPsi); exact s_indexAddr_sls rfl rfl auto_len)); (apply DC.awn_s; · (intro H1 hPsi; (try dsimp only at hPsi); exact s_fieldAddr_pce rfl)); (apply DC.awn_s; · (intro H1 hPsi; (try dsimp only at hPsi); exact s_load_pce_agg rfl (by assumption) (by rfl) (by decide))); refine DC.awn_b ?_; (apply DC.awn_s; · (intro H1 hPsi; (try dsimp only at hPsi); exact s_fieldAddr_ptr rfl)); (apply DC.awn_s; · (intro H1 hPsi; (try dsimp only at hPsi); exact s_load_cel rfl auto_heap rfl)); refine DC.awn_b ?_; refine DC.awn_nil ?_; refine DC.awc_cons (fun Rx K1 hK1x => ?_); (refine zc auto_wl (ck _ auto_heap) ?_; rintro r H' ⟨rfl, rfl⟩); refine yy61 ?_; (refine hK1x _ _ (by first | exact Or.inl (by decide +kernel) | (refine Or.inr ?_; (try dsimp only); first | exact auto_heap | exact ⟨auto_heap, auto_heap⟩ | exact ⟨auto_heap, auto_heap, auto_heap⟩)) ?_; clear hK1x K1 Rx); refine DC.awc_cons (fun Rx K1 hK1x => ?_); refine yy130 ?_; refine yy61 ?_; (refine hK1x _ _ (by first | exact Or.inl (by decide +kernel) | (refine Or.inr ?_; (try dsimp only); first | exact auto_heap | exact ⟨auto_heap, auto_heap⟩ | exact ⟨auto_heap, auto_heap, auto_heap⟩)) ?_; clear hK1x K1 Rx); refine DC.awc_nil ?_; refine k_seq_normal ?_; refine aw_condp rfl (fun hc => ?_) (fun hc => ?_); replace hc := hide_nat hc; refine yy67 ?_; refine yy10 ?_; refine yy47 ?_; refine yy118 ?_; (refine zc auto_wl (cf _ auto_heap) ?_; rintro r H' ⟨rfl, rfl⟩); refine yy48 ?_; refine yy22 ?_; rotate_left; exact absurd hc auto_no) | fail)
          all_goals first
            | exact absurd (Decidable.of_not_not hc) hk1
            | exact ⟨n.eqs.length - (k + 1), _, H3.set oC (.cel (ckA c2)), by omega, Ent.tog (by (repeat' (first | exact RSub.nil _ | apply RSub.cons)); all_goals rfl) auto_sub, k + 1, c2, by omega, hZ4, by exact auto_heap, by exact auto_heap, by exact auto_heap, (fun p y hp => by
            have hp2 := hfr p y hp
            have hp3 : p ≠ oC := fun e => by rw [e, hC0] at hp; cases hp
            exact auto_heap), rfl, rfl⟩
      · obtain rfl : k = n.eqs.length := by omega
        have hZ3 : c = Zq := by rw [← hZ4.out, List.drop_length, typesQ]
        subst hZ3
        clear hZ4
        (first | focus (refine yy93 ?_; refine yy89 ?_; refine yy90 ?_; intro hc; refine aw_exit ?_; refine k_seq_exit ?_; refine k_seq_exit ?_; refine k_block_eq ?_; refine yy100 ?_; refine yy22 ?_; rotate_left) | fail)
        all_goals exact ⟨l.length - (i + 1), _, _, by omega, Ent.sub _ (by (repeat' (first | exact RSub.nil _ | apply RSub.cons)); all_goals rfl), i + 1, c, by omega, hZ, q1, q2, hfr, rfl, rfl⟩
  · obtain rfl : i = l.length := by omega
    have hZ2 := hZ.out
    rw [List.drop_length, typesN] at hZ2
    subst hZ2
    clear hZ
    (first | focus (refine yy45 ?_; refine yy34 ?_; intro hc; refine yy8 ?_; refine yy88 ?_; refine yy26 ?_; refine yy36 ?_; rotate_left) | fail)
    exact ⟨.inl rfl, _, _, _, Ent.cellRet 2 (ckA c) rfl auto_heap (by ((repeat' (first | exact WC.nil | apply WC.cons)); all_goals (first | exact W.of rfl | exact W.int rfl | exact W.nilb rfl | exact W.empb rfl | exact W.bysx rfl | exact W.nils rfl | exact W.emps rfl | exact W.slsx rfl))) (fun sp sy shp => by
      have hp2 := hfr sp sy shp
      have hp3 : sp ≠ oR := fun e => by rw [e, hoR] at shp; cases shp
      exact ⟨hp3, auto_heap⟩), ret_1 rfl (rv1_agg (m := 2) rfl rfl rfl (by decide)), rfl, rfl⟩
end Go.Proofs.Ytmgkhfnhaeplgaa

namespace Go.Proofs.Ytmgkhfnhaeplgaa
open Go Go.Am Go.Proofs
set_option linter.unusedSimpArgs false
set_option linter.unusedVariables false
set_option maxRecDepth 20000
set_option maxHeartbeats 8000000

/-! Clocks: of names. -/
abbrev Stp1.cells (s : Stp1) : List AV := [.str s.name, avB s.not]
abbrev stL (l : List Stp1) : List AV := l.flatMap Stp1.cells
theorem st_len (l : List Stp1) : (stL l).length = l.length * 2 := flat_len (sz := 2) (f := Stp1.cells) (fun _ => rfl) l
theorem st_get {l : List Stp1} {i : Nat} {v : Stp1} (h : l[i]? = some v) : ((stL l).drop (i * 2)).take 2 = [.str v.name, avB v.not] := flat_seg (sz := 2) (f := Stp1.cells) (fun _ => rfl) h
theorem st_app (l m : List Stp1) : stL (l ++ m) = stL l ++ stL m := List.flatMap_append
theorem st_cons (x : Stp1) (l : List Stp1) : stL (x :: l) = x.cells ++ stL l := List.flatMap_cons
abbrev stA (l : List Stp1) : AV := .sls l.length (stL l)
theorem SameClock_calls (H : AHeap) (a b : List Stp1) (ha : a.length ≤ 9000000) (hb : b.length ≤ 9000000) : ACalls Try.prog 49 [stA a, stA b] H fun r H' => r = avB (decide (a = b)) ∧ H' = H := by
  have hma := st_len a
  have hmb := st_len b
  refine acalls_of_aw2 Try.func49 rfl (by decide) ?_
  by_cases hab : a.length = b.length
  · (first | focus (refine yy15 ?_; refine yy38 ?_; refine yy27 ?_; refine yy115 ?_; refine yy27 ?_; refine yy115 ?_; refine yy110 ?_; refine yy60 ?_; intro hc; refine yy38 ?_; refine yy71 ?_; rotate_left) | fail)
    refine aw_loop (fun mm R1 H1 => ∃ (i : Nat), i ≤ a.length ∧ Hdn (a.take i = b.take i) ∧ H1 = H ∧ R1 = [(0, stA a), (1, stA b), (5, avI i)] ∧ a.length - i = mm) ?_ ?_
    · exact ⟨_, _, _, Ent.sub _ (by (repeat' (first | exact RSub.nil _ | apply RSub.cons)); all_goals rfl), 0, Nat.zero_le _, ⟨rfl⟩, rfl, rfl, rfl⟩
    rintro mm R1 H1 ⟨i, hi, hZ, rfl, rfl, rfl⟩
    by_cases hlt : i < a.length
    · have hg : a[i]? = some a[i] := List.getElem?_eq_getElem hlt
      have hk : b[i]? = some b[i] := List.getElem?_eq_getElem (by omega)
      have ea : a.take (i + 1) = a.take i ++ [a[i]] := by rw [List.take_add_one, hg]; rfl
      have eb : b.take (i + 1) = b.take i ++ [b[i]] := by rw [List.take_add_one, hk]; rfl
      generalize a[i] = v at *
      generalize b[i] = u at *
      have s1 := st_get hg
      have s2 := st_get hk
      replace ea := Hdn.mk ea
      replace eb := Hdn.mk eb
      replace hg := Hdn.mk hg
      replace hk := Hdn.mk hk
      (first | focus (refine yy45 ?_; refine aw_condp rfl (fun hc => ?_) (fun hc => ?_); refine yy13 ?_; refine yy73 ?_; (apply awt_s; · exact s_move (v := .sls _ _) rfl); (apply awt_s; · exact s_move (v := .raw _) rfl); (apply awt_s; · exact s_indexAddr_sls rfl rfl auto_len); (apply awt_s; · exact s_load_pce_agg rfl (by assumption) (by rfl) (by decide)); (apply awt_s; · exact s_move (v := .sls _ _) rfl); (apply awt_s; · exact s_move (v := .raw _) rfl); (apply awt_s; · exact s_indexAddr_sls rfl rfl auto_len); (apply awt_s; · exact s_load_pce_agg rfl (by assumption) (by rfl) (by decide)); (apply awt_s; · exact s_neqg rfl rfl rfl); refine yy77 ?_; refine aw_cond rfl (fun hc => ?_) (fun hc => ?_); refine yy92 ?_; refine yy33 ?_; refine yy102 ?_; rotate_left; refine yy39 ?_; refine yy22 ?_; rotate_left; exact absurd hc auto_no) | fail)
      all_goals first
        | (have hvu : v = u := by
            simp at hc
            obtain ⟨v1, v2⟩ := v
            obtain ⟨u1, u2⟩ := u
            simp only at hc
            rw [hc.1, hc.2]
           exact ⟨a.length - (i + 1), _, _, by omega, Ent.sub _ (by (repeat' (first | exact RSub.nil _ | apply RSub.cons)); all_goals rfl), i + 1, by omega, ⟨by rw [ea.out, eb.out, hZ.out, hvu]⟩, rfl, rfl, rfl⟩)
        | exact ⟨.inl rfl, _, _, _, Ent.refl _ _, ret1 rfl rfl, congrArg avB (decide_eq_false fun e => by
            have hk2 := hk.out
            have hg2 := hg.out
            rw [e, hk2] at hg2
            have := Option.some.inj hg2
            subst this
            simp at hc).symm, rfl⟩
    · obtain rfl : i = a.length := by omega
      replace hZ := hZ.out
      rw [List.take_length, hab, List.take_length] at hZ
      subst hZ
      (first | focus (refine yy45 ?_; refine yy34 ?_; intro hc; refine yy92 ?_; rotate_left) | fail)
      exact ⟨.inl rfl, _, _, _, Ent.refl _ _, ret1 rfl rfl, congrArg avB (decide_eq_true rfl).symm, rfl⟩
  · (first | focus (refine yy15 ?_; refine yy38 ?_; refine yy27 ?_; refine yy115 ?_; refine yy27 ?_; refine yy115 ?_; refine yy110 ?_; refine aw_condp rfl (fun hc => ?_) (fun hc => ?_); replace hc := hide_nat hc; refine yy92 ?_; refine k_seq_ret ?_; rotate_left; exact absurd hc auto_no) | fail)
    exact ⟨.inl rfl, _, _, _, Ent.refl _ _, ret1 rfl rfl, congrArg avB (decide_eq_false fun e => hab (by rw [e])).symm, rfl⟩
theorem on_calls (H : AHeap) (c : List Stp1) (nm : Bs) (nt : Bool) (hl : c.length ≤ 8000000) : ACalls Try.prog 69 [stA c, .str nm, avB nt] H fun r H' => r = stA (c ++ [⟨nm, nt⟩]) ∧ H' = H := by
  have hma := st_len c
  unfold stA
  rw [st_app, List.length_append, show stL [(⟨nm, nt⟩ : Stp1)] = [.str nm, avB nt] from rfl, show ([(⟨nm, nt⟩ : Stp1)]).length = 1 from rfl]
  refine acalls_of_aw3 Try.func69 rfl (by decide) ?_
  generalize stL c = L at *
  generalize c.length = z at *
  (first | focus (refine yy15 ?_; refine yy2 ?_; refine awl_s rfl (s_buildSlice0) ?_; refine yy27 ?_; refine awl_own_emp_cel rfl rfl rfl auto_src auto_len auto_len (fun oN hoN => ?_); refine yy97 ?_; refine yy20 ?_; refine yy37 ?_; refine za2 rfl rfl rfl (by assumption) auto_len auto_src auto_len auto_len (fun oN hoN => ?_); refine yy40 ?_; refine yy108 ?_; rotate_left) | fail)
  exact ⟨.inl rfl, _, _, _, Ent.seal_cel1 6 rfl (by rw [List.length_append, hma]; show z * 2 + 2 = (z + 1) * 2; omega) hoN, ret1 rfl rfl, rfl, rfl⟩
theorem findL_spec (s : Bs) : ∀ (l : List Vr) {v : Vr}, findL s l = (v, true) → ∃ k : Nat, l[k]? = some v ∧ ∀ (j : Nat) (u : Vr), l[j]? = some u → u.name = s → k ≤ j
  | [], v, h => by cases h
  | x :: l, v, h => by
    unfold findL at h
    by_cases hx : x.name = s
    · rw [if_pos hx] at h
      cases h
      exact ⟨0, rfl, fun j u _ _ => Nat.zero_le _⟩
    · rw [if_neg hx] at h
      obtain ⟨k, h1, h2⟩ := findL_spec s l h
      refine ⟨k + 1, by simpa using h1, fun j u hj hu => ?_⟩
      cases j with
      | zero => simp at hj; subst hj; exact absurd hu hx
      | succ j => have := h2 j u (by simpa using hj) hu; omega
theorem findL_at (s : Bs) : ∀ (l : List Vr) (j : Nat) (u : Vr), l[j]? = some u → u.name = s → (findL s l).2 = true
  | [], j, u, h, _ => by simp at h
  | x :: l, j, u, h, hu => by
    unfold findL
    by_cases hx : x.name = s
    · rw [if_pos hx]
    · rw [if_neg hx]
      cases j with
      | zero => simp at h; subst h; exact absurd hu hx
      | succ j => exact findL_at s l j u (by simpa using h) hu
/-- Each clock is the truth of a name that stands ahead. -/
def OnOk (n : Nd) : Prop := ∀ (k : Nat) (v : Vr), (varsN n)[k]? = some v → v.on ≠ [] → ∃ (j : Nat) (u : Vr), j < k ∧ (varsN n)[j]? = some u ∧ u.name = v.on
theorem OnOk.next {n : Nd} (h : OnOk n) {k : Nat} {v : Vr} (hv : (varsN n)[k]? = some v) (ho : v.on ≠ []) : ∃ (j : Nat) (u : Vr), j < k ∧ (varsN n)[j]? = some u ∧ findV n v.on = (u, true) := by
  obtain ⟨j, u, h1, h2, h3⟩ := h k v hv ho
  have h4 := findL_at v.on _ j u h2 h3
  generalize hf : findL v.on (varsN n) = f at h4
  obtain ⟨w, b⟩ := f
  simp only at h4
  subst h4
  obtain ⟨i, e1, e2⟩ := findL_spec v.on _ hf
  exact ⟨i, w, Nat.lt_of_le_of_lt (e2 j u h2 h3) h1, e1, hf⟩
theorem st_one (a : Bs) (b : Bool) (acc : List Stp1) : AV.sls (1 + acc.length) ([.str a, avB b] ++ stL acc) = stA (⟨a, b⟩ :: acc) := by unfold stA; rw [List.length_cons, Nat.add_comm, st_cons]
theorem ClockOf_calls (H : AHeap) (n : Nd) (s : Bs) (h1 : n.ins.length ≤ 2000000) (h2 : n.outs.length ≤ 2000000) (h3 : n.locs.length ≤ 2000000) (hon : OnOk n) : ACalls Try.prog 50 [.agg n.cells, .str s] H fun r H' => r = stA (clockOf n s) ∧ H' = H := by
  have cfd := fun (H : AHeap) (s : Bs) => Find_calls H n s h1 h2 h3
  unfold clockOf
  generalize hZ : clockF n ((varsN n).length + 1) (findV n s) [] = Z
  replace hZ := Hdn.mk hZ
  have hlv : (varsN n).length ≤ 6000000 := by unfold varsN; rw [List.length_append, List.length_append]; omega
  have hst : (findV n s).2 = false ∨ ∃ k : Nat, k < (varsN n).length + 1 ∧ (varsN n)[k]? = some (findV n s).1 := by
    cases hb : (findV n s).2 with
    | false => exact .inl rfl
    | true =>
      obtain ⟨k, e1, _⟩ := findL_spec s (varsN n) (v := (findV n s).1) (by show findV n s = _; rw [← hb])
      have := (List.getElem?_eq_some_iff.1 e1).1
      exact .inr ⟨k, by omega, e1⟩
  refine acalls_of_aw2 Try.func50 rfl (by decide) ?_
  have cf0 := fun H => cfd H s
  generalize findV n s = fv at *
  obtain ⟨v, ok⟩ := fv
  simp only at cf0
  have hn : n.cells = [.str n.name, .sls n.ins.length (vrL n.ins), .sls n.outs.length (vrL n.outs), .sls n.locs.length (vrL n.locs), .sls n.eqs.length (eqL n.eqs), avI n.at_] := rfl
  rw [hn] at *
  (first | focus (refine yy2 ?_; refine zb1 rfl rfl rfl (fun oN hoN => ?_); refine yy6 ?_; refine yy15 ?_; refine yy98 ?_; refine yy116 ?_; (refine zc auto_wl (cf0 _) ?_; rintro r H' ⟨rfl, rfl⟩); refine yy80 ?_; refine awl_alloc rfl rfl rfl (fun oN hoN => ?_); refine yy11 ?_; refine yy6 ?_; refine yy105 ?_; rotate_left) | fail)
  rename_i oP hoP
  obtain ⟨oV, hoVe⟩ : ∃ x, x = oN := ⟨_, rfl⟩
  subst hoVe
  have hV0 : H oV = none := by (first | assumption | exact AHeap.none_of_set ((by assumption)) | exact AHeap.none_of_set (AHeap.none_of_set ((by assumption))) | exact AHeap.none_of_set (AHeap.none_of_set (AHeap.none_of_set ((by assumption)))) | exact AHeap.none_of_set (AHeap.none_of_set (AHeap.none_of_set (AHeap.none_of_set ((by assumption))))) | exact AHeap.none_of_set (AHeap.none_of_set (AHeap.none_of_set (AHeap.none_of_set (AHeap.none_of_set ((by assumption)))))) | exact AHeap.none_of_set (AHeap.none_of_set (AHeap.none_of_set (AHeap.none_of_set (AHeap.none_of_set (AHeap.none_of_set ((by assumption))))))) | exact AHeap.none_of_set (AHeap.none_of_set (AHeap.none_of_set (AHeap.none_of_set (AHeap.none_of_set (AHeap.none_of_set (AHeap.none_of_set ((by assumption)))))))) | exact AHeap.none_of_set (AHeap.none_of_set (AHeap.none_of_set (AHeap.none_of_set (AHeap.none_of_set (AHeap.none_of_set (AHeap.none_of_set (AHeap.none_of_set ((by assumption))))))))) | exact AHeap.none_of_set (AHeap.none_of_set (AHeap.none_of_set (AHeap.none_of_set (AHeap.none_of_set (AHeap.none_of_set (AHeap.none_of_set (AHeap.none_of_set (AHeap.none_of_set ((by assumption)))))))))) | exact AHeap.none_of_set (AHeap.none_of_set (AHeap.none_of_set (AHeap.none_of_set (AHeap.none_of_set (AHeap.none_of_set (AHeap.none_of_set (AHeap.none_of_set (AHeap.none_of_set (AHeap.none_of_set ((by assumption))))))))))))
  have hVP : oV ≠ oP := by (first | assumption | exact Ne.symm (by assumption) | exact AHeap.ne_of_fresh (by assumption) | exact Ne.symm (AHeap.ne_of_fresh (by assumption)) | exact AHeap.ne_of_fresh (AHeap.none_of_set (by assumption)) | exact Ne.symm (AHeap.ne_of_fresh (AHeap.none_of_set (by assumption))) | exact AHeap.ne_ns (by assumption) (by assumption) | exact AHeap.ne_sn (by assumption) (by assumption) | exact AHeap.ne_ns (by assumption) auto_heap2 | exact AHeap.ne_sn (by assumption) auto_heap2)
  refine aw_loop (fun mm R1 H1 => ∃ (m : Nat) (v : Vr) (ok : Bool) (acc : List Stp1), Hdn (clockF n m (v, ok) acc = Z) ∧ acc.length + m ≤ 6000001 ∧ Hdn (ok = false ∨ ∃ k : Nat, k < m ∧ (varsN n)[k]? = some v) ∧ H1 oP = some (.cel [.str n.name, .sls n.ins.length (vrL n.ins), .sls n.outs.length (vrL n.outs), .sls n.locs.length (vrL n.locs), .sls n.eqs.length (eqL n.eqs), avI n.at_]) ∧ H1 oV = some (.cel [.str v.name, avI v.kind, .str v.on, avB v.not, avI v.at_]) ∧ (∀ p y, H p = some y → H1 p = some y) ∧ R1 = [(2, .ptr oP 0), (5, stA acc), (6, .ptr oV 0), (7, avB ok)] ∧ m = mm) ?_ ?_
  · exact ⟨_, [(2, .ptr oP 0), (5, stA []), (6, .ptr oV 0), (7, avB ok)], _, Ent.tow (by (repeat' (first | exact RSubW.nil _ | apply RSubW.cons)); all_goals (first | exact W.of rfl | exact W.nils rfl)) rfl, (varsN n).length + 1, v, ok, [], hZ, by rw [List.length_nil]; omega, ⟨hst⟩, by exact auto_heap, by exact auto_heap, fun p y hp => by
      have hp3 : p ≠ oP := fun e => by rw [e, hoP] at hp; cases hp
      have hp4 : p ≠ oV := fun e => by rw [e, hV0] at hp; cases hp
      exact auto_heap, rfl, rfl⟩
  clear hZ hst hoN cf0 v ok
  rintro mm R1 H1 ⟨m, v, ok, acc, hZ, hal, hst, q1, q2, hfr, rfl, rfl⟩
  have hacc := st_len acc
  by_cases hgo : ok = true ∧ v.on ≠ []
  · obtain ⟨rfl, ho⟩ := hgo
    obtain ⟨k, hkm, hkv⟩ : ∃ k : Nat, k < m ∧ (varsN n)[k]? = some v := hst.out.resolve_left (by decide)
    obtain ⟨m, rfl⟩ : ∃ m', m = m' + 1 := ⟨m - 1, by omega⟩
    obtain ⟨j, u, j1, j2, j3⟩ := hon.next hkv ho
    have hZ2 : Hdn (clockF n m (u, true) (⟨v.on, v.not⟩ :: acc) = Z) := ⟨by rw [← hZ.out, clockF, if_pos ⟨rfl, ho⟩, j3]⟩
    have hst2 : Hdn (true = false ∨ ∃ k : Nat, k < m ∧ (varsN n)[k]? = some u) := ⟨.inr ⟨j, by omega, j2⟩⟩
    have cf1 := fun H => cfd H v.on
    rw [j3] at cf1
    clear hZ hst hkv hkm j1 j2 j3 cfd hon
    replace ho := Hdq.mk ho
    (first | focus (refine yy9 ?_; refine yy18 ?_; refine yy62 ?_; refine yy5 ?_; refine yy135 ?_; refine yy5 ?_; refine awl_s rfl (s_strne rfl rfl) ?_; refine yy79 ?_; refine aw_condp rfl (fun hc => ?_) (fun hc => ?_); refine yy51 ?_; refine yy99 ?_; refine yy10 ?_; refine yy20 ?_; refine yy37 ?_; refine yy27 ?_; refine awl_s rfl (s_app_slsx_cel rfl rfl rfl auto_src auto_len auto_len) ?_; refine yy83 ?_; refine yy4 ?_; refine yy32 ?_; refine yy26 ?_; refine yy10 ?_; (refine zc auto_wl (cf1 _) ?_; rintro r H' ⟨rfl, rfl⟩); refine yy80 ?_; refine yy139 ?_; refine yy14 ?_; rotate_left; refine yy113 ?_; refine yy76 ?_; refine yy83 ?_; refine yy108 ?_; rotate_left) | fail)
    all_goals first
      | exact absurd (Decidable.of_not_not hc) ho.out
      | exact ⟨m, [(2, .ptr oP 0), (5, stA (⟨v.on, v.not⟩ :: acc)), (6, .ptr oV 0), (7, avB true)], _, Nat.lt_succ_self _, Ent.tow (by (repeat' (first | exact RSubW.nil _ | apply RSubW.cons)); all_goals (first | exact W.of rfl | exact W.of (st_one v.on v.not acc))) rfl, m, u, true, ⟨v.on, v.not⟩ :: acc, hZ2, by rw [List.length_cons]; omega, hst2, by exact auto_heap, by exact auto_heap, fun p y hp => by
          have hp2 := hfr p y hp
          have hp4 : p ≠ oV := fun e => by rw [e, hV0] at hp; cases hp
          exact auto_heap, rfl, rfl⟩
  · have hZ2 : acc = Z := by
      rw [← hZ.out]
      cases m with
      | zero => rfl
      | succ m => rw [clockF, if_neg hgo]
    subst hZ2
    clear hZ
    have hgo2 : ok = false ∨ (ok = true ∧ v.on = []) := by
      cases ok with
      | false => exact .inl rfl
      | true => exact .inr ⟨rfl, Decidable.byContradiction fun h => hgo ⟨rfl, h⟩⟩
    clear hgo hst
    rcases hgo2 with rfl | ⟨rfl, ho⟩
    · (first | focus (refine yy9 ?_; refine yy7 ?_; refine yy50 ?_; refine yy53 ?_; refine yy81 ?_; refine yy113 ?_; refine yy76 ?_; refine yy83 ?_; refine yy108 ?_; rotate_left) | fail)
      exact ⟨.inl rfl, _, _, _, Ent.gc (fun p y hp => hfr p y hp), ret1 rfl rfl, rfl, rfl⟩
    · rw [ho] at q2
      (first | focus (refine yy9 ?_; refine yy18 ?_; refine yy62 ?_; refine yy5 ?_; refine yy135 ?_; refine yy5 ?_; refine awl_s rfl (s_strne rfl rfl) ?_; refine yy79 ?_; refine yy34 ?_; intro hc; refine yy76 ?_; refine yy83 ?_; refine yy108 ?_; rotate_left) | fail)
      all_goals exact ⟨.inl rfl, _, _, _, Ent.gc (fun p y hp => hfr p y hp), ret1 rfl rfl, rfl, rfl⟩
end Go.Proofs.Ytmgkhfnhaeplgaa
