import Derived.Test.YtkhjnopmkihmiaaPk2
namespace Go.Proofs.Ytkhjnopmkihmiaa
open Go Go.Am Go.Proofs
set_option linter.unusedSimpArgs false
set_option linter.unusedVariables false
set_option maxRecDepth 20000
set_option maxHeartbeats 4000000

theorem rdU_lt : ∀ f i u b r n, u < 2 ^ 64 → rdU f i u b = some (r, n) → r < 2 ^ 64
  | 0, i, u, b, r, n, hu, h => by simp [rdU] at h
  | f + 1, i, u, b, r, n, hu, h => by
    have hu' := or_lt (b := (((b.getD i 0).toNat &&& 127) % 2 ^ 64 * 2 ^ (7 * i) % 2 ^ 64)) 64 hu (Nat.mod_lt _ (by decide))
    simp only [rdU] at h
    split at h
    · cases h
    · split at h
      · cases h
      · split at h
        · exact rdU_lt f _ _ _ _ _ hu' h
        · split at h
          · cases h
          · simp only [Option.some.injEq, Prod.mk.injEq] at h
            rw [← h.1]; exact hu'
theorem rd_lt (b : List UInt8) : (rd b).1 < 2 ^ 64 := by
  cases h : rdU 10 0 0 b with
  | none => rw [rd_none h]; decide
  | some p => obtain ⟨u, n⟩ := p; rw [rd_some h]; exact rdU_lt _ _ _ _ _ _ (by decide) h
theorem rd_len (b : List UInt8) : (rd b).2.1.length ≤ b.length := by
  cases h : rdU 10 0 0 b with
  | none => rw [rd_none h]; simp
  | some p => obtain ⟨u, n⟩ := p; rw [rd_some h]; simp

def unzig (u : Nat) : Int := bits .xor .i64 ((u / 2 ^ 1 : Nat) : Int) (-((u &&& 1 : Nat) : Int))

theorem RI_calls (H : AHeap) (o : Nat) (b : List UInt8) (bad : Bool) (h : H o = some (.cel [.bys b, .raw (.bool bad)])) (hb : b.length ≤ 4000000000) :
    ACalls Try.prog 24 [.ptr o 0] H fun r H' => r = .raw (.int .i64 (unzig (rd b).1)) ∧ H' = H.set o (.cel [.bys (rd b).2.1, .raw (.bool (bad || (rd b).2.2))]) := by
  have hu := rd_lt b
  have h1 : (rd b).1 &&& 1 ≤ 1 := Nat.and_le_right
  refine acalls_of_aw1 Try.func24 rfl (by decide) ?_
  repeat' (first | ((with_reducible apply idAWL); first | (with_reducible refine awl_nil ?_) | (with_reducible refine awl_ch ?_) | (with_reducible refine awl_ch0 ?_) | ((with_reducible apply ik_lit); refine awl_lit_conv rfl rfl rfl auto_bytes rfl auto_d ?_) | ((with_reducible apply ik_guard); first | ((first | refine zg1 rfl rfl rfl (fun hc => ?_) (fun hc => ?_) | refine zg2 rfl rfl rfl (fun hc => ?_) (fun hc => ?_)) <;> first | exact absurd hc auto_no | skip) | refine zg3 rfl rfl rfl ?_ | refine zg4 rfl rfl rfl ?_ | refine zg5 rfl rfl rfl ?_ | refine zg6 rfl rfl rfl (fun hc => ?_) (fun hc => ?_) | refine zg7 rfl rfl rfl (fun hc => ?_) (fun hc => ?_)) | ((with_reducible apply ik_callv); first | (refine awl_callc rfl auto_wl (RU_calls _ _ _ _ auto_sd auto_sd) (fun r H' hpost => ?_); obtain ⟨rfl, rfl⟩ := hpost) | (refine awl_seal_arg 0 rfl rfl rfl auto_len (by assumption) ?_) | (refine awl_seal_arg 1 rfl rfl rfl auto_len (by assumption) ?_) | (refine awl_seal_arg 2 rfl rfl rfl auto_len (by assumption) ?_) | fail) | ((with_reducible apply ik_append); first | refine za1 rfl rfl rfl (by assumption) auto_rl auto_src auto_len auto_len (fun oN hoN => ?_) | refine za2 rfl rfl rfl (by assumption) auto_len auto_src auto_len auto_len (fun oN hoN => ?_) | refine za3 rfl rfl rfl auto_heap auto_rl auto_src auto_len auto_len (fun oN hoN => ?_) | refine za4 rfl rfl rfl auto_heap auto_al auto_src auto_len auto_len (fun oN hoN => ?_) | (apply awl_s rfl; · exact auto_app)) | ((with_reducible apply ik_eql); first | refine awl_bys_eqnil rfl rfl rfl (fun b hb => ?_)) | ((with_reducible apply ik_box); first | refine zb1 rfl rfl rfl (fun oN hoN => ?_) | refine zb2 rfl rfl rfl (fun oN hoN => ?_) | refine zb3 rfl rfl (fun oN hoN => ?_)) | ((with_reducible apply ik_alloc); first | refine awl_alloc rfl rfl rfl (fun oN hoN => ?_)) | ((with_reducible apply ik_make); first | refine awl_make_byt rfl rfl rfl auto_om auto_om auto_om (fun oN hoN => ?_)) | ((with_reducible apply ik_store); first | refine zs1 rfl rfl rfl rfl auto_d auto_d ?_ | refine zs2 rfl rfl auto_heap auto_d auto_d auto_d ?_ | refine zs3 rfl rfl rfl auto_lt auto_len ?_ | refine zs4 rfl rfl auto_heap auto_lt auto_len ?_ | refine zs5 rfl auto_mv rfl auto_r auto_k ?_ | refine zs6 rfl auto_mv auto_heap auto_r auto_k ?_) | (apply awl_s rfl; · exact auto_stp)) | ((with_reducible apply idAWT); first | (with_reducible refine awt_nil ?_) | ((with_reducible apply it_guard); first | ((first | refine zt1 rfl rfl rfl (fun hc => ?_) (fun hc => ?_) | refine zt2 rfl rfl rfl (fun hc => ?_) (fun hc => ?_)) <;> first | exact absurd hc auto_no | skip) | refine zt3 rfl rfl rfl ?_ | refine zt4 rfl rfl ?_ | refine zt5 rfl rfl ?_ | refine zt6 rfl rfl rfl (fun hc => ?_) (fun hc => ?_) | refine zt7 rfl rfl rfl (fun hc => ?_) (fun hc => ?_)) | ((with_reducible apply it_callv); first | (apply awt_s; · exact s_callc auto_wl (RU_calls _ _ _ _ auto_sd auto_sd)) | (refine awt_last ?_) | fail) | (apply awt_s; · exact auto_stp) | (refine awt_last ?_)) | ((with_reducible apply idAWM); first | (refine awm_b ?_) | (refine awm_b0 ?_) | (refine awm_nil ?_) | (apply awm_e auto_dk; (· exact auto_stp)) | (apply awm_s; · (intro H1; exact auto_stp)) | (apply awm_s; · (intro H1; exact s_callc auto_wl (RU_calls _ _ _ _ auto_sd auto_sd))) | (apply awm_e auto_dk; (· exact s_callc auto_wl (RU_calls _ _ _ _ auto_sd auto_sd)))) | ((with_reducible apply idAWB); first | (refine awb_cons (fun Rx K1 hK1x => ?_)) | (refine awb_cons0 (fun Rx K1 hK1x => ?_)) | (refine awb_nil ?_)) | (refine hK1x _ _ ?_; clear hK1x K1 Rx) | (refine hK1x _ ?_; clear hK1x K1 Rx) | ((with_reducible apply idAW); first | refine aw_seq ?_ | refine aw_region ?_ | refine aw_draw2 false auto_kr auto_dk auto_dk ?_ | refine aw_draw1 auto_kr auto_kr auto_kr ?_ | refine aw_draw0 auto_kr auto_kr ?_ | refine aw_skip ?_ | refine aw_ret ?_ | refine aw_exit ?_ | refine aw_block ?_ | ((refine aw_condp rfl (fun hc => ?_) (fun hc => ?_)) <;> first | exact absurd hc auto_no | skip) | refine aw_cond_t rfl ?_ | refine aw_cond_f rfl ?_ | (refine aw_cond rfl (fun hc => ?_) (fun hc => ?_))) | ((with_reducible apply idKS); first | refine k_seq_normal ?_ | refine k_seq_exit ?_ | refine k_seq_ret ?_) | ((with_reducible apply idKB); first | refine k_block_normal ?_ | refine k_block_ret ?_ | refine k_block_eq ?_ | refine k_block_ne rfl ?_))
  exact ⟨.inl rfl, _, _, _, Ent.refl _ _, ret1 rfl rfl, rfl, rfl⟩

def rs (b : List UInt8) : List UInt8 × List UInt8 × Bool :=
  if (rd b).2.1.length < (rd b).1 then ([], [], true) else (((rd b).2.1.drop 0).take ((rd b).1 - 0), ((rd b).2.1.drop (rd b).1).take ((rd b).2.1.length - (rd b).1), (rd b).2.2)

theorem rs_len (b : List UInt8) : (rs b).2.1.length ≤ b.length := by
  have := rd_len b
  unfold rs
  split <;> simp
  omega

theorem RS_calls (H : AHeap) (o : Nat) (b : List UInt8) (bad : Bool) (h : H o = some (.cel [.bys b, .raw (.bool bad)])) (hb : b.length ≤ 4000000000) :
    ACalls Try.prog 27 [.ptr o 0] H fun r H' => r = .str (rs b).1 ∧ H' = H.set o (.cel [.bys (rs b).2.1, .raw (.bool (bad || (rs b).2.2))]) := by
  have hu := rd_lt b
  have hl := rd_len b
  refine acalls_of_aw1 Try.func27 rfl (by decide) ?_
  repeat' (first | ((with_reducible apply idAWL); first | (with_reducible refine awl_nil ?_) | (with_reducible refine awl_ch ?_) | (with_reducible refine awl_ch0 ?_) | ((with_reducible apply ik_lit); refine awl_lit_conv rfl rfl rfl auto_bytes rfl auto_d ?_) | ((with_reducible apply ik_guard); first | ((first | refine zg1 rfl rfl rfl (fun hc => ?_) (fun hc => ?_) | refine zg2 rfl rfl rfl (fun hc => ?_) (fun hc => ?_)) <;> first | exact absurd hc auto_no | skip) | refine zg3 rfl rfl rfl ?_ | refine zg4 rfl rfl rfl ?_ | refine zg5 rfl rfl rfl ?_ | refine zg6 rfl rfl rfl (fun hc => ?_) (fun hc => ?_) | refine zg7 rfl rfl rfl (fun hc => ?_) (fun hc => ?_)) | ((with_reducible apply ik_callv); first | (refine awl_callc rfl auto_wl (RU_calls _ _ _ _ auto_sd auto_sd) (fun r H' hpost => ?_); obtain ⟨rfl, rfl⟩ := hpost) | (refine awl_callc rfl auto_wl (spoil_calls _ _ _ _ auto_sd) (fun r H' hpost => ?_); obtain ⟨rfl, rfl⟩ := hpost) | (refine awl_callc0 auto_wl (spoil_calls _ _ _ _ auto_sd) (fun r H' hpost => ?_); obtain ⟨rfl, rfl⟩ := hpost) | (refine awl_seal_arg 0 rfl rfl rfl auto_len (by assumption) ?_) | (refine awl_seal_arg 1 rfl rfl rfl auto_len (by assumption) ?_) | (refine awl_seal_arg 2 rfl rfl rfl auto_len (by assumption) ?_) | fail) | ((with_reducible apply ik_append); first | refine za1 rfl rfl rfl (by assumption) auto_rl auto_src auto_len auto_len (fun oN hoN => ?_) | refine za2 rfl rfl rfl (by assumption) auto_len auto_src auto_len auto_len (fun oN hoN => ?_) | refine za3 rfl rfl rfl auto_heap auto_rl auto_src auto_len auto_len (fun oN hoN => ?_) | refine za4 rfl rfl rfl auto_heap auto_al auto_src auto_len auto_len (fun oN hoN => ?_) | (apply awl_s rfl; · exact auto_app)) | ((with_reducible apply ik_eql); first | refine awl_bys_eqnil rfl rfl rfl (fun b hb => ?_)) | ((with_reducible apply ik_box); first | refine zb1 rfl rfl rfl (fun oN hoN => ?_) | refine zb2 rfl rfl rfl (fun oN hoN => ?_) | refine zb3 rfl rfl (fun oN hoN => ?_)) | ((with_reducible apply ik_alloc); first | refine awl_alloc rfl rfl rfl (fun oN hoN => ?_)) | ((with_reducible apply ik_make); first | refine awl_make_byt rfl rfl rfl auto_om auto_om auto_om (fun oN hoN => ?_)) | ((with_reducible apply ik_store); first | refine zs1 rfl rfl rfl rfl auto_d auto_d ?_ | refine zs2 rfl rfl auto_heap auto_d auto_d auto_d ?_ | refine zs3 rfl rfl rfl auto_lt auto_len ?_ | refine zs4 rfl rfl auto_heap auto_lt auto_len ?_ | refine zs5 rfl auto_mv rfl auto_r auto_k ?_ | refine zs6 rfl auto_mv auto_heap auto_r auto_k ?_) | (apply awl_s rfl; · exact auto_stp)) | ((with_reducible apply idAWT); first | (with_reducible refine awt_nil ?_) | ((with_reducible apply it_guard); first | ((first | refine zt1 rfl rfl rfl (fun hc => ?_) (fun hc => ?_) | refine zt2 rfl rfl rfl (fun hc => ?_) (fun hc => ?_)) <;> first | exact absurd hc auto_no | skip) | refine zt3 rfl rfl rfl ?_ | refine zt4 rfl rfl ?_ | refine zt5 rfl rfl ?_ | refine zt6 rfl rfl rfl (fun hc => ?_) (fun hc => ?_) | refine zt7 rfl rfl rfl (fun hc => ?_) (fun hc => ?_)) | ((with_reducible apply it_callv); first | (apply awt_s; · exact s_callc auto_wl (RU_calls _ _ _ _ auto_sd auto_sd)) | (apply awt_s; · exact s_callc auto_wl (spoil_calls _ _ _ _ auto_sd)) | (refine awt_last ?_) | fail) | (apply awt_s; · exact auto_stp) | (refine awt_last ?_)) | ((with_reducible apply idAWM); first | (refine awm_b ?_) | (refine awm_b0 ?_) | (refine awm_nil ?_) | (apply awm_e auto_dk; (· exact auto_stp)) | (apply awm_s; · (intro H1; exact auto_stp)) | (apply awm_s; · (intro H1; exact s_callc auto_wl (RU_calls _ _ _ _ auto_sd auto_sd))) | (apply awm_e auto_dk; (· exact s_callc auto_wl (RU_calls _ _ _ _ auto_sd auto_sd))) | (apply awm_s; · (intro H1; exact s_callc auto_wl (spoil_calls _ _ _ _ auto_sd))) | (apply awm_e auto_dk; (· exact s_callc auto_wl (spoil_calls _ _ _ _ auto_sd)))) | ((with_reducible apply idAWB); first | (refine awb_cons (fun Rx K1 hK1x => ?_)) | (refine awb_cons0 (fun Rx K1 hK1x => ?_)) | (refine awb_nil ?_)) | (refine hK1x _ _ ?_; clear hK1x K1 Rx) | (refine hK1x _ ?_; clear hK1x K1 Rx) | ((with_reducible apply idAW); first | refine aw_seq ?_ | refine aw_region ?_ | refine aw_draw2 false auto_kr auto_dk auto_dk ?_ | refine aw_draw1 auto_kr auto_kr auto_kr ?_ | refine aw_draw0 auto_kr auto_kr ?_ | refine aw_skip ?_ | refine aw_ret ?_ | refine aw_exit ?_ | refine aw_block ?_ | ((refine aw_condp rfl (fun hc => ?_) (fun hc => ?_)) <;> first | exact absurd hc auto_no | skip) | refine aw_cond_t rfl ?_ | refine aw_cond_f rfl ?_ | (refine aw_cond rfl (fun hc => ?_) (fun hc => ?_))) | ((with_reducible apply idKS); first | refine k_seq_normal ?_ | refine k_seq_exit ?_ | refine k_seq_ret ?_) | ((with_reducible apply idKB); first | refine k_block_normal ?_ | refine k_block_ret ?_ | refine k_block_eq ?_ | refine k_block_ne rfl ?_))
  · have e1 : rs b = ([], [], true) := by rw [rs, if_pos hc]
    exact ⟨.inl rfl, _, _, _, Ent.refl _ _, ret1 rfl rfl, by rw [e1]; try rfl, by ((try rw [AHeap.set_set]); rw [e1, Bool.or_true]; try rfl)⟩
  · have e1 : rs b = (((rd b).2.1.drop 0).take ((rd b).1 - 0), ((rd b).2.1.drop (rd b).1).take ((rd b).2.1.length - (rd b).1), (rd b).2.2) := by rw [rs, if_neg hc]
    exact ⟨.inl rfl, _, _, _, Ent.refl _ _, ret1 rfl rfl, by rw [e1]; try rfl, by (try rw [AHeap.set_set]); rw [e1]; try rfl⟩

theorem kret_drop {P : Program} {fn : Func} {Kc : AV → AHeap → Prop} {e : Exit} {R : Regs} {H H0 : AHeap} {o : Nat} {x : AO} {r : AV} (he : e = .ret ∨ e = .normal) (hh : H = H0.set o x) (ho : H0 o = none)
    (hr : Ret P fn R H0 r) (hk : Kc r H0) : kret P fn Kc e R H := by subst hh; exact ⟨he, _, _, _, Ent.drop_set _ ho _, hr, hk⟩

end Go.Proofs.Ytkhjnopmkihmiaa
