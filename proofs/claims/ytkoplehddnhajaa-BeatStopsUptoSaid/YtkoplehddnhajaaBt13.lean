import Derived.Test.YtkoplehddnhajaaBt12
import Derived.Test.YtkoplehddnhajaaBr2
namespace Go.Proofs.Ytkoplehddnhajaa
open Go Go.Am Go.Proofs
set_option linter.unusedSimpArgs false
set_option linter.unusedVariables false
set_option maxRecDepth 20000
set_option maxHeartbeats 4000000

/-! Waiting and Due, with what they tell sealed. -/
abbrev slS (ss : List Nm) : AV := .sls ss.length (strs ss)
theorem Wait_calls (H : AHeap) (o om : Nat) (c : Ck) (l : Al) (hl : l.Ok) (h : H o = some (.cel (c.cells om))) (hm : H om = some l.es.ao) :
    ACalls Try.prog 17 [.ptr o 0] H fun r H' => H' = H ∧ ∃ ss : List Nm, r = slS ss ∧ ss.Perm (l.map Prod.fst) ∧ ss.Pairwise (· < ·) :=
  (Waiting_calls o om c l hl H h hm).conv fun r H' ⟨oS, ss, n, hoS, hn, hr, hH, hp, hs⟩ => ⟨slS ss, H, ⟨rfl, ss, rfl, hp, hs⟩, by
    subst hr hH hn
    exact (Ent.seal_cel1 0 rfl (by simp) hoS).trans (Ent.sub H (RSub.cons rfl (RSub.nil _)))⟩

def Al.rest (l : Al) (now : Int) : Al := l.filter fun p => decide (now < p.2)
def Al.due (l : Al) (now : Int) : Al := l.filter fun p => !decide (now < p.2)
theorem tm_of_mem : ∀ {l : Al}, (l.map Prod.fst).Nodup → ∀ p ∈ l, l.tm p.1 = p.2
  | [], _, p, hp => by cases hp
  | (a, t) :: l, hn, p, hp => by
    rw [List.map_cons, List.nodup_cons] at hn
    show (if a = p.1 then t else Al.tm l p.1) = p.2
    rcases List.mem_cons.1 hp with rfl | hp
    · rw [if_pos rfl]
    · rw [if_neg (fun e : a = p.1 => hn.1 (by show a ∈ _; rw [e]; exact List.mem_map_of_mem (f := Prod.fst) hp))]
      exact tm_of_mem hn.2 p hp
theorem filter_names {l : Al} (hn : (l.map Prod.fst).Nodup) (f : Int → Bool) : (l.map Prod.fst).filter (fun s => f (l.tm s)) = (l.filter fun p => f p.2).map Prod.fst := by
  rw [List.filter_map]
  congr 1
  refine List.filter_congr fun p hp => ?_
  show f (l.tm p.1) = f p.2
  rw [tm_of_mem hn p hp]
theorem del_eq {l : Al} (hn : (l.map Prod.fst).Nodup) (s : Nm) : l.del s = l.filter fun p => !decide (p.1 = s) := by
  induction l with
  | nil => rfl
  | cons x l ih =>
    obtain ⟨a, t⟩ := x
    rw [List.map_cons, List.nodup_cons] at hn
    show (if a = s then l else (a, t) :: Al.del l s) = _
    by_cases e : a = s
    · rw [if_pos e, List.filter_cons_of_neg (by simp [e])]
      refine (List.filter_eq_self.2 fun p hp => ?_).symm
      simp only [Bool.not_eq_eq_eq_not, Bool.not_true, decide_eq_false_iff_not]
      intro e2
      exact hn.1 (by show a ∈ _; rw [e, ← e2]; exact List.mem_map_of_mem (f := Prod.fst) hp)
    · rw [if_neg e, List.filter_cons_of_pos (by simp [e]), ih hn.2]
theorem filter_nodup {l : Al} (hn : (l.map Prod.fst).Nodup) (f : Nm × Int → Bool) : ((l.filter f).map Prod.fst).Nodup := hn.sublist (List.Sublist.map _ List.filter_sublist)
theorem dels_eq {l : Al} (hn : (l.map Prod.fst).Nodup) : ∀ S : List Nm, dels l S = l.filter fun p => !decide (p.1 ∈ S) := by
  intro S
  induction S generalizing l with
  | nil => exact (List.filter_eq_self.2 fun p hp => by simp).symm
  | cons x S ih =>
    show dels (l.del x) S = _
    rw [del_eq hn, ih (filter_nodup hn _), List.filter_filter]
    refine List.filter_congr fun p hp => ?_
    by_cases h1 : p.1 = x <;> by_cases h2 : p.1 ∈ S <;> simp [h1, h2, List.mem_cons] <;> simp_all
theorem dels_due {l : Al} (hn : (l.map Prod.fst).Nodup) {now : Int} {S : List Nm} (hS : S.Perm ((l.due now).map Prod.fst)) : dels l S = l.rest now := by
  rw [dels_eq hn, Al.rest]
  refine List.filter_congr fun p hp => ?_
  have : p.1 ∈ S ↔ ¬ now < p.2 := by
    rw [hS.mem_iff, List.mem_map]
    constructor
    · rintro ⟨q, hq, e⟩
      obtain ⟨q1, q2⟩ := List.mem_filter.1 hq
      have h1 := tm_of_mem hn q q1
      have h2 := tm_of_mem hn p hp
      rw [e, h2] at h1
      rw [h1]
      simpa using q2
    · intro h
      exact ⟨p, List.mem_filter.2 ⟨hp, by simpa using h⟩, rfl⟩
  by_cases h : now < p.2 <;> simp [this, h]
theorem Al.Ok.rest {l : Al} (hl : l.Ok) (now : Int) : (l.rest now).Ok :=
  ⟨filter_nodup hl.nd _, Nat.le_trans (List.length_filter_le _ _) hl.len, fun s hs => hl.nm s (List.Sublist.subset (List.Sublist.map _ List.filter_sublist) hs)⟩
theorem DueS_calls (H : AHeap) (o om : Nat) (c : Ck) (l : Al) (hl : l.Ok) (ok : c.Ok) (h : H o = some (.cel (c.cells om))) (hm : H om = some l.es.ao) :
    ACalls Try.prog 12 [.ptr o 0] H fun r H' => H' = H.set om (l.rest c.now).es.ao ∧ ∃ S : List Nm, r = slS S ∧ S.Perm ((l.due c.now).map Prod.fst) ∧ Srt l.tm S :=
  (due_calls H o om c l h hm ok (by have := hl.len; omega) (Waiting_calls o om c l hl)).conv fun r H' ⟨oS, S, k, hoS, hk, hr, hp, hs, hH⟩ => by
    have hp' : S.Perm ((l.due c.now).map Prod.fst) := by
      rw [filter_names hl.nd (fun t => !decide ((c.now : Int) < t))] at hp
      exact hp
    refine ⟨slS S, H.set om (l.rest c.now).es.ao, ⟨rfl, S, rfl, hp', hs⟩, ?_⟩
    subst hr hk
    rw [hH, dels_due hl.nd hp']
    have hne : om ≠ oS := ne_fresh hm hoS
    have e : (H.set oS (AO.cel (strs S))).set om (l.rest c.now).es.ao = (H.set om (l.rest c.now).es.ao).set oS (AO.cel (strs S)) := by
      funext p
      simp only [AHeap.set]
      by_cases p1 : p = om <;> by_cases p2 : p = oS <;> simp [p1, p2] <;> simp_all
    rw [e]
    have hn2 : (H.set om (l.rest c.now).es.ao) oS = none := by simp [AHeap.set, hne.symm, hoS]
    exact (Ent.seal_cel1 0 rfl (by simp) hn2).trans (Ent.sub _ (RSub.cons rfl (RSub.nil _)))
theorem Texts_calls (H : AHeap) (xs ys : List Nm) (hx : xs.length ≤ 1000000) (hy : ys.length ≤ 1000000) :
    ACalls Try.prog 14 [slS xs, slS ys] H fun r H' => r = .raw (.bool (decide (xs = ys))) ∧ H' = H := by
  have l1 := strs_len xs
  have l2 := strs_len ys
  refine acalls_of_aw2 Try.func14 rfl (by decide) ?_
  by_cases hlen : xs.length = ys.length
  · repeat' (first | ((with_reducible apply idAWL); first | (with_reducible refine awl_nil ?_) | (with_reducible refine awl_ch ?_) | (with_reducible refine awl_ch0 ?_) | ((with_reducible apply ik_lit); refine awl_lit_conv rfl rfl rfl auto_bytes rfl auto_d ?_) | ((with_reducible apply ik_guard); first | ((first | refine zg1 rfl rfl rfl (fun hc => ?_) (fun hc => ?_) | refine zg2 rfl rfl rfl (fun hc => ?_) (fun hc => ?_)) <;> first | exact absurd hc auto_no | skip) | refine zg3 rfl rfl rfl ?_ | refine zg4 rfl rfl rfl ?_ | refine zg5 rfl rfl rfl ?_ | refine zg6 rfl rfl rfl (fun hc => ?_) (fun hc => ?_) | refine zg7 rfl rfl rfl (fun hc => ?_) (fun hc => ?_)) | ((with_reducible apply ik_callv); first | fail) | ((with_reducible apply ik_append); first | refine za1 rfl rfl rfl (by assumption) auto_rl auto_src auto_len auto_len (fun oN hoN => ?_) | refine za2 rfl rfl rfl (by assumption) auto_len auto_src auto_len auto_len (fun oN hoN => ?_) | refine za3 rfl rfl rfl auto_heap auto_rl auto_src auto_len auto_len (fun oN hoN => ?_) | refine za4 rfl rfl rfl auto_heap auto_al auto_src auto_len auto_len (fun oN hoN => ?_) | (apply awl_s rfl; · exact auto_app)) | ((with_reducible apply ik_eql); first | refine awl_bys_eqnil rfl rfl rfl (fun b hb => ?_)) | ((with_reducible apply ik_box); first | refine zb1 rfl rfl rfl (fun oN hoN => ?_) | refine zb2 rfl rfl rfl (fun oN hoN => ?_) | refine zb3 rfl rfl (fun oN hoN => ?_)) | ((with_reducible apply ik_alloc); first | refine awl_alloc rfl rfl rfl (fun oN hoN => ?_)) | ((with_reducible apply ik_make); first | refine awl_make_byt rfl rfl rfl auto_om auto_om auto_om (fun oN hoN => ?_) | refine awl_make_cel rfl rfl rfl auto_om rfl rfl auto_om auto_om (fun oN hoN => ?_)) | ((with_reducible apply ik_mapUpdate); first | refine awl_mapUpdate rfl rfl auto_mv auto_heap ?_) | ((with_reducible apply ik_makeMap); first | refine awl_makeMap rfl (fun oN hoN => ?_)) | ((with_reducible apply ik_delete); first | refine awl_delete rfl rfl auto_heap ?_) | ((with_reducible apply ik_clear); first | refine awl_clear rfl auto_heap rfl auto_len ?_) | ((with_reducible apply ik_store); first | refine zs1 rfl rfl rfl rfl auto_d auto_d ?_ | refine zs2 rfl rfl auto_heap auto_d auto_d auto_d ?_ | refine zs3 rfl rfl rfl auto_lt auto_len ?_ | refine zs4 rfl rfl auto_heap auto_lt auto_len ?_ | refine zs5 rfl auto_mv rfl auto_r auto_k ?_ | refine zs6 rfl auto_mv auto_heap auto_r auto_k ?_) | (apply awl_s rfl; · exact auto_stp)) | ((with_reducible apply idAWT); first | (with_reducible refine awt_nil ?_) | ((with_reducible apply it_guard); first | ((first | refine zt1 rfl rfl rfl (fun hc => ?_) (fun hc => ?_) | refine zt2 rfl rfl rfl (fun hc => ?_) (fun hc => ?_)) <;> first | exact absurd hc auto_no | skip) | refine zt3 rfl rfl rfl ?_ | refine zt4 rfl rfl ?_ | refine zt5 rfl rfl ?_ | refine zt6 rfl rfl rfl (fun hc => ?_) (fun hc => ?_) | refine zt7 rfl rfl rfl (fun hc => ?_) (fun hc => ?_)) | ((with_reducible apply it_callv); first | (refine awt_last ?_) | fail) | (apply awt_s; · exact auto_stp) | (refine awt_last ?_)) | ((with_reducible apply idAWM); first | (refine awm_b ?_) | (refine awm_b0 ?_) | (refine awm_nil ?_) | (apply awm_e auto_dk; (· exact auto_stp)) | (apply awm_s; · (intro H1; exact auto_stp))) | ((with_reducible apply idAWB); first | (refine awb_cons (fun Rx K1 hK1x => ?_)) | (refine awb_cons0 (fun Rx K1 hK1x => ?_)) | (refine awb_nil ?_)) | (refine hK1x _ _ ?_; clear hK1x K1 Rx) | (refine hK1x _ ?_; clear hK1x K1 Rx) | ((with_reducible apply idAW); first | refine aw_seq ?_ | refine aw_region ?_ | refine aw_draw2 false auto_kr auto_dk auto_dk ?_ | refine aw_draw1 auto_kr auto_kr auto_kr ?_ | refine aw_draw0 auto_kr auto_kr ?_ | refine aw_skip ?_ | refine aw_ret ?_ | refine aw_exit ?_ | refine aw_block ?_ | ((refine aw_condp rfl (fun hc => ?_) (fun hc => ?_)) <;> first | exact absurd hc auto_no | skip) | refine aw_cond_t rfl ?_ | refine aw_cond_f rfl ?_ | (refine aw_cond rfl (fun hc => ?_) (fun hc => ?_))) | ((with_reducible apply idKS); first | refine k_seq_normal ?_ | refine k_seq_exit ?_ | refine k_seq_ret ?_) | ((with_reducible apply idKB); first | refine k_block_normal ?_ | refine k_block_ret ?_ | refine k_block_eq ?_ | refine k_block_ne rfl ?_))
    all_goals try (exfalso; omega)
    refine aw_loop (fun mm R' H2 => ∃ (i : Nat), i ≤ xs.length ∧ H2 = H ∧ xs.take i = ys.take i ∧ R' = [(0, slS xs), (1, slS ys), (5, .raw (.int .i64 (i : Int)))] ∧ xs.length - i = mm) ?_ ?_
    · exact ⟨xs.length, _, _, Ent.sub _ (by (repeat' (first | exact RSub.nil _ | apply RSub.cons)); all_goals rfl), 0, Nat.zero_le _, rfl, rfl, rfl, rfl⟩
    rintro mm R0 H2 ⟨i, hi, rfl, ht, rfl, rfl⟩
    have ht := Hdn.mk ht
    by_cases hlt : i < xs.length
    · have g1 : xs[i]? = some xs[i] := List.getElem?_eq_getElem (by omega)
      have g2 : ys[i]? = some (ys[i]'(by omega)) := List.getElem?_eq_getElem (by omega)
      have t1 : xs.take (i + 1) = xs.take i ++ [xs[i]] := by rw [List.take_add_one, g1]; rfl
      have t2 : ys.take (i + 1) = ys.take i ++ [ys[i]'(by omega)] := by rw [List.take_add_one, g2]; rfl
      generalize xs[i] = x at *
      generalize ys[i]'(by omega) = y at *
      have t1 := Hdn.mk t1
      have t2 := Hdn.mk t2
      repeat' (first | ((with_reducible apply idAWL); first | (with_reducible refine awl_nil ?_) | (with_reducible refine awl_ch ?_) | (with_reducible refine awl_ch0 ?_) | ((with_reducible apply ik_lit); refine awl_lit_conv rfl rfl rfl auto_bytes rfl auto_d ?_) | ((with_reducible apply ik_guard); first | ((first | refine zg1 rfl rfl rfl (fun hc => ?_) (fun hc => ?_) | refine zg2 rfl rfl rfl (fun hc => ?_) (fun hc => ?_)) <;> first | exact absurd hc auto_no | skip) | refine zg3 rfl rfl rfl ?_ | refine zg4 rfl rfl rfl ?_ | refine zg5 rfl rfl rfl ?_ | refine zg6 rfl rfl rfl (fun hc => ?_) (fun hc => ?_) | refine zg7 rfl rfl rfl (fun hc => ?_) (fun hc => ?_)) | ((with_reducible apply ik_callv); first | fail) | ((with_reducible apply ik_append); first | refine za1 rfl rfl rfl (by assumption) auto_rl auto_src auto_len auto_len (fun oN hoN => ?_) | refine za2 rfl rfl rfl (by assumption) auto_len auto_src auto_len auto_len (fun oN hoN => ?_) | refine za3 rfl rfl rfl auto_heap auto_rl auto_src auto_len auto_len (fun oN hoN => ?_) | refine za4 rfl rfl rfl auto_heap auto_al auto_src auto_len auto_len (fun oN hoN => ?_) | (apply awl_s rfl; · exact auto_app)) | ((with_reducible apply ik_eql); first | refine awl_bys_eqnil rfl rfl rfl (fun b hb => ?_)) | ((with_reducible apply ik_box); first | refine zb1 rfl rfl rfl (fun oN hoN => ?_) | refine zb2 rfl rfl rfl (fun oN hoN => ?_) | refine zb3 rfl rfl (fun oN hoN => ?_)) | ((with_reducible apply ik_alloc); first | refine awl_alloc rfl rfl rfl (fun oN hoN => ?_)) | ((with_reducible apply ik_make); first | refine awl_make_byt rfl rfl rfl auto_om auto_om auto_om (fun oN hoN => ?_) | refine awl_make_cel rfl rfl rfl auto_om rfl rfl auto_om auto_om (fun oN hoN => ?_)) | ((with_reducible apply ik_mapUpdate); first | refine awl_mapUpdate rfl rfl auto_mv auto_heap ?_) | ((with_reducible apply ik_makeMap); first | refine awl_makeMap rfl (fun oN hoN => ?_)) | ((with_reducible apply ik_delete); first | refine awl_delete rfl rfl auto_heap ?_) | ((with_reducible apply ik_clear); first | refine awl_clear rfl auto_heap rfl auto_len ?_) | ((with_reducible apply ik_store); first | refine zs1 rfl rfl rfl rfl auto_d auto_d ?_ | refine zs2 rfl rfl auto_heap auto_d auto_d auto_d ?_ | refine zs3 rfl rfl rfl auto_lt auto_len ?_ | refine zs4 rfl rfl auto_heap auto_lt auto_len ?_ | refine zs5 rfl auto_mv rfl auto_r auto_k ?_ | refine zs6 rfl auto_mv auto_heap auto_r auto_k ?_) | (apply awl_s rfl; · exact auto_stp)) | ((with_reducible apply idAWT); first | (with_reducible refine awt_nil ?_) | ((with_reducible apply it_guard); first | ((first | refine zt1 rfl rfl rfl (fun hc => ?_) (fun hc => ?_) | refine zt2 rfl rfl rfl (fun hc => ?_) (fun hc => ?_)) <;> first | exact absurd hc auto_no | skip) | refine zt3 rfl rfl rfl ?_ | refine zt4 rfl rfl ?_ | refine zt5 rfl rfl ?_ | refine zt6 rfl rfl rfl (fun hc => ?_) (fun hc => ?_) | refine zt7 rfl rfl rfl (fun hc => ?_) (fun hc => ?_)) | ((with_reducible apply it_callv); first | (refine awt_last ?_) | fail) | (apply awt_s; · exact auto_stp) | (refine awt_last ?_)) | ((with_reducible apply idAWM); first | (refine awm_b ?_) | (refine awm_b0 ?_) | (refine awm_nil ?_) | (apply awm_e auto_dk; (· exact auto_stp)) | (apply awm_s; · (intro H1; exact auto_stp))) | ((with_reducible apply idAWB); first | (refine awb_cons (fun Rx K1 hK1x => ?_)) | (refine awb_cons0 (fun Rx K1 hK1x => ?_)) | (refine awb_nil ?_)) | (refine hK1x _ _ ?_; clear hK1x K1 Rx) | (refine hK1x _ ?_; clear hK1x K1 Rx) | ((with_reducible apply idAW); first | refine aw_seq ?_ | refine aw_region ?_ | refine aw_draw2 false auto_kr auto_dk auto_dk ?_ | refine aw_draw1 auto_kr auto_kr auto_kr ?_ | refine aw_draw0 auto_kr auto_kr ?_ | refine aw_skip ?_ | refine aw_ret ?_ | refine aw_exit ?_ | refine aw_block ?_ | ((refine aw_condp rfl (fun hc => ?_) (fun hc => ?_)) <;> first | exact absurd hc auto_no | skip) | refine aw_cond_t rfl ?_ | refine aw_cond_f rfl ?_ | (refine aw_cond rfl (fun hc => ?_) (fun hc => ?_))) | ((with_reducible apply idKS); first | refine k_seq_normal ?_ | refine k_seq_exit ?_ | refine k_seq_ret ?_) | ((with_reducible apply idKB); first | refine k_block_normal ?_ | refine k_block_ret ?_ | refine k_block_eq ?_ | refine k_block_ne rfl ?_))
      · exact ⟨.inl rfl, _, _, _, Ent.refl _ _, ret1 rfl rfl, (congrArg (fun b => AV.raw (.bool b)) (decide_eq_false (p := xs = ys) (fun e => hc (by rw [e, g2] at g1; exact (Option.some.inj g1).symm)))).symm, rfl⟩
      · have hc : x = y := Decidable.not_not.1 hc
        exact ⟨xs.length - (i + 1), _, _, by omega, Ent.sub _ (by (repeat' (first | exact RSub.nil _ | apply RSub.cons)); all_goals rfl), i + 1, by omega, rfl, by rw [t1.out, t2.out, ht.out, hc], rfl, rfl⟩
    · repeat' (first | ((with_reducible apply idAWL); first | (with_reducible refine awl_nil ?_) | (with_reducible refine awl_ch ?_) | (with_reducible refine awl_ch0 ?_) | ((with_reducible apply ik_lit); refine awl_lit_conv rfl rfl rfl auto_bytes rfl auto_d ?_) | ((with_reducible apply ik_guard); first | ((first | refine zg1 rfl rfl rfl (fun hc => ?_) (fun hc => ?_) | refine zg2 rfl rfl rfl (fun hc => ?_) (fun hc => ?_)) <;> first | exact absurd hc auto_no | skip) | refine zg3 rfl rfl rfl ?_ | refine zg4 rfl rfl rfl ?_ | refine zg5 rfl rfl rfl ?_ | refine zg6 rfl rfl rfl (fun hc => ?_) (fun hc => ?_) | refine zg7 rfl rfl rfl (fun hc => ?_) (fun hc => ?_)) | ((with_reducible apply ik_callv); first | fail) | ((with_reducible apply ik_append); first | refine za1 rfl rfl rfl (by assumption) auto_rl auto_src auto_len auto_len (fun oN hoN => ?_) | refine za2 rfl rfl rfl (by assumption) auto_len auto_src auto_len auto_len (fun oN hoN => ?_) | refine za3 rfl rfl rfl auto_heap auto_rl auto_src auto_len auto_len (fun oN hoN => ?_) | refine za4 rfl rfl rfl auto_heap auto_al auto_src auto_len auto_len (fun oN hoN => ?_) | (apply awl_s rfl; · exact auto_app)) | ((with_reducible apply ik_eql); first | refine awl_bys_eqnil rfl rfl rfl (fun b hb => ?_)) | ((with_reducible apply ik_box); first | refine zb1 rfl rfl rfl (fun oN hoN => ?_) | refine zb2 rfl rfl rfl (fun oN hoN => ?_) | refine zb3 rfl rfl (fun oN hoN => ?_)) | ((with_reducible apply ik_alloc); first | refine awl_alloc rfl rfl rfl (fun oN hoN => ?_)) | ((with_reducible apply ik_make); first | refine awl_make_byt rfl rfl rfl auto_om auto_om auto_om (fun oN hoN => ?_) | refine awl_make_cel rfl rfl rfl auto_om rfl rfl auto_om auto_om (fun oN hoN => ?_)) | ((with_reducible apply ik_mapUpdate); first | refine awl_mapUpdate rfl rfl auto_mv auto_heap ?_) | ((with_reducible apply ik_makeMap); first | refine awl_makeMap rfl (fun oN hoN => ?_)) | ((with_reducible apply ik_delete); first | refine awl_delete rfl rfl auto_heap ?_) | ((with_reducible apply ik_clear); first | refine awl_clear rfl auto_heap rfl auto_len ?_) | ((with_reducible apply ik_store); first | refine zs1 rfl rfl rfl rfl auto_d auto_d ?_ | refine zs2 rfl rfl auto_heap auto_d auto_d auto_d ?_ | refine zs3 rfl rfl rfl auto_lt auto_len ?_ | refine zs4 rfl rfl auto_heap auto_lt auto_len ?_ | refine zs5 rfl auto_mv rfl auto_r auto_k ?_ | refine zs6 rfl auto_mv auto_heap auto_r auto_k ?_) | (apply awl_s rfl; · exact auto_stp)) | ((with_reducible apply idAWT); first | (with_reducible refine awt_nil ?_) | ((with_reducible apply it_guard); first | ((first | refine zt1 rfl rfl rfl (fun hc => ?_) (fun hc => ?_) | refine zt2 rfl rfl rfl (fun hc => ?_) (fun hc => ?_)) <;> first | exact absurd hc auto_no | skip) | refine zt3 rfl rfl rfl ?_ | refine zt4 rfl rfl ?_ | refine zt5 rfl rfl ?_ | refine zt6 rfl rfl rfl (fun hc => ?_) (fun hc => ?_) | refine zt7 rfl rfl rfl (fun hc => ?_) (fun hc => ?_)) | ((with_reducible apply it_callv); first | (refine awt_last ?_) | fail) | (apply awt_s; · exact auto_stp) | (refine awt_last ?_)) | ((with_reducible apply idAWM); first | (refine awm_b ?_) | (refine awm_b0 ?_) | (refine awm_nil ?_) | (apply awm_e auto_dk; (· exact auto_stp)) | (apply awm_s; · (intro H1; exact auto_stp))) | ((with_reducible apply idAWB); first | (refine awb_cons (fun Rx K1 hK1x => ?_)) | (refine awb_cons0 (fun Rx K1 hK1x => ?_)) | (refine awb_nil ?_)) | (refine hK1x _ _ ?_; clear hK1x K1 Rx) | (refine hK1x _ ?_; clear hK1x K1 Rx) | ((with_reducible apply idAW); first | refine aw_seq ?_ | refine aw_region ?_ | refine aw_draw2 false auto_kr auto_dk auto_dk ?_ | refine aw_draw1 auto_kr auto_kr auto_kr ?_ | refine aw_draw0 auto_kr auto_kr ?_ | refine aw_skip ?_ | refine aw_ret ?_ | refine aw_exit ?_ | refine aw_block ?_ | ((refine aw_condp rfl (fun hc => ?_) (fun hc => ?_)) <;> first | exact absurd hc auto_no | skip) | refine aw_cond_t rfl ?_ | refine aw_cond_f rfl ?_ | (refine aw_cond rfl (fun hc => ?_) (fun hc => ?_))) | ((with_reducible apply idKS); first | refine k_seq_normal ?_ | refine k_seq_exit ?_ | refine k_seq_ret ?_) | ((with_reducible apply idKB); first | refine k_block_normal ?_ | refine k_block_ret ?_ | refine k_block_eq ?_ | refine k_block_ne rfl ?_))
      exact ⟨.inl rfl, _, _, _, Ent.refl _ _, ret1 rfl rfl, (congrArg (fun b => AV.raw (.bool b)) (decide_eq_true (p := xs = ys) (by have := ht.out; rwa [List.take_of_length_le (by omega), List.take_of_length_le (by omega)] at this))).symm, rfl⟩
  · repeat' (first | ((with_reducible apply idAWL); first | (with_reducible refine awl_nil ?_) | (with_reducible refine awl_ch ?_) | (with_reducible refine awl_ch0 ?_) | ((with_reducible apply ik_lit); refine awl_lit_conv rfl rfl rfl auto_bytes rfl auto_d ?_) | ((with_reducible apply ik_guard); first | ((first | refine zg1 rfl rfl rfl (fun hc => ?_) (fun hc => ?_) | refine zg2 rfl rfl rfl (fun hc => ?_) (fun hc => ?_)) <;> first | exact absurd hc auto_no | skip) | refine zg3 rfl rfl rfl ?_ | refine zg4 rfl rfl rfl ?_ | refine zg5 rfl rfl rfl ?_ | refine zg6 rfl rfl rfl (fun hc => ?_) (fun hc => ?_) | refine zg7 rfl rfl rfl (fun hc => ?_) (fun hc => ?_)) | ((with_reducible apply ik_callv); first | fail) | ((with_reducible apply ik_append); first | refine za1 rfl rfl rfl (by assumption) auto_rl auto_src auto_len auto_len (fun oN hoN => ?_) | refine za2 rfl rfl rfl (by assumption) auto_len auto_src auto_len auto_len (fun oN hoN => ?_) | refine za3 rfl rfl rfl auto_heap auto_rl auto_src auto_len auto_len (fun oN hoN => ?_) | refine za4 rfl rfl rfl auto_heap auto_al auto_src auto_len auto_len (fun oN hoN => ?_) | (apply awl_s rfl; · exact auto_app)) | ((with_reducible apply ik_eql); first | refine awl_bys_eqnil rfl rfl rfl (fun b hb => ?_)) | ((with_reducible apply ik_box); first | refine zb1 rfl rfl rfl (fun oN hoN => ?_) | refine zb2 rfl rfl rfl (fun oN hoN => ?_) | refine zb3 rfl rfl (fun oN hoN => ?_)) | ((with_reducible apply ik_alloc); first | refine awl_alloc rfl rfl rfl (fun oN hoN => ?_)) | ((with_reducible apply ik_make); first | refine awl_make_byt rfl rfl rfl auto_om auto_om auto_om (fun oN hoN => ?_) | refine awl_make_cel rfl rfl rfl auto_om rfl rfl auto_om auto_om (fun oN hoN => ?_)) | ((with_reducible apply ik_mapUpdate); first | refine awl_mapUpdate rfl rfl auto_mv auto_heap ?_) | ((with_reducible apply ik_makeMap); first | refine awl_makeMap rfl (fun oN hoN => ?_)) | ((with_reducible apply ik_delete); first | refine awl_delete rfl rfl auto_heap ?_) | ((with_reducible apply ik_clear); first | refine awl_clear rfl auto_heap rfl auto_len ?_) | ((with_reducible apply ik_store); first | refine zs1 rfl rfl rfl rfl auto_d auto_d ?_ | refine zs2 rfl rfl auto_heap auto_d auto_d auto_d ?_ | refine zs3 rfl rfl rfl auto_lt auto_len ?_ | refine zs4 rfl rfl auto_heap auto_lt auto_len ?_ | refine zs5 rfl auto_mv rfl auto_r auto_k ?_ | refine zs6 rfl auto_mv auto_heap auto_r auto_k ?_) | (apply awl_s rfl; · exact auto_stp)) | ((with_reducible apply idAWT); first | (with_reducible refine awt_nil ?_) | ((with_reducible apply it_guard); first | ((first | refine zt1 rfl rfl rfl (fun hc => ?_) (fun hc => ?_) | refine zt2 rfl rfl rfl (fun hc => ?_) (fun hc => ?_)) <;> first | exact absurd hc auto_no | skip) | refine zt3 rfl rfl rfl ?_ | refine zt4 rfl rfl ?_ | refine zt5 rfl rfl ?_ | refine zt6 rfl rfl rfl (fun hc => ?_) (fun hc => ?_) | refine zt7 rfl rfl rfl (fun hc => ?_) (fun hc => ?_)) | ((with_reducible apply it_callv); first | (refine awt_last ?_) | fail) | (apply awt_s; · exact auto_stp) | (refine awt_last ?_)) | ((with_reducible apply idAWM); first | (refine awm_b ?_) | (refine awm_b0 ?_) | (refine awm_nil ?_) | (apply awm_e auto_dk; (· exact auto_stp)) | (apply awm_s; · (intro H1; exact auto_stp))) | ((with_reducible apply idAWB); first | (refine awb_cons (fun Rx K1 hK1x => ?_)) | (refine awb_cons0 (fun Rx K1 hK1x => ?_)) | (refine awb_nil ?_)) | (refine hK1x _ _ ?_; clear hK1x K1 Rx) | (refine hK1x _ ?_; clear hK1x K1 Rx) | ((with_reducible apply idAW); first | refine aw_seq ?_ | refine aw_region ?_ | refine aw_draw2 false auto_kr auto_dk auto_dk ?_ | refine aw_draw1 auto_kr auto_kr auto_kr ?_ | refine aw_draw0 auto_kr auto_kr ?_ | refine aw_skip ?_ | refine aw_ret ?_ | refine aw_exit ?_ | refine aw_block ?_ | ((refine aw_condp rfl (fun hc => ?_) (fun hc => ?_)) <;> first | exact absurd hc auto_no | skip) | refine aw_cond_t rfl ?_ | refine aw_cond_f rfl ?_ | (refine aw_cond rfl (fun hc => ?_) (fun hc => ?_))) | ((with_reducible apply idKS); first | refine k_seq_normal ?_ | refine k_seq_exit ?_ | refine k_seq_ret ?_) | ((with_reducible apply idKB); first | refine k_block_normal ?_ | refine k_block_ret ?_ | refine k_block_eq ?_ | refine k_block_ne rfl ?_))
    all_goals try (exfalso; omega)
    exact ⟨.inl rfl, _, _, _, Ent.refl _ _, ret1 rfl rfl, (congrArg (fun b => AV.raw (.bool b)) (decide_eq_false (p := xs = ys) (fun e => hlen (by rw [e])))).symm, rfl⟩
end Go.Proofs.Ytkoplehddnhajaa
