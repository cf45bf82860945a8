import Derived.Test.YtipjoghlmgmhaaaDk5
namespace Go.Proofs.Ytipjoghlmgmhaaa
open Go Go.Am Go.Proofs
set_option linter.unusedSimpArgs false
set_option linter.unusedVariables false
set_option maxRecDepth 20000
set_option maxHeartbeats 4000000

def Dk.woken (d : Dk) : Dk := { d with off := false, fuse := 0, lives := d.lives + 1 }
def Dk.on (d : Dk) : Dk := if d.off = true then (if d.crd = true then d.woken else (d.crashAll []).woken) else d
theorem On_calls (H : AHeap) (o : Nat) (d : Dk) (h : H o = some (.cel d.cells)) (ok : d.Ok) (hl : d.lives < 2 ^ 62) :
    ACalls Try.prog 20 [.ptr o 0] H fun r H' => r = .tup [] ∧ H' = H.set o (.cel d.on.cells) := by
  have hC : ACalls Try.prog 14 [.ptr o 0, .sls 0 []] H fun r H' => r = .tup [] ∧ H' = H.set o (.cel (d.crashAll []).cells) := Crash_calls H o d [] h ok (by decide) (by simp)
  have hcl : (d.crashAll []).lives < 2 ^ 62 := hl
  refine acalls_of_aw1 Try.func20 rfl (by decide) ?_
  repeat' (first | ((with_reducible apply idAWL); first | (with_reducible refine awl_nil ?_) | (with_reducible refine awl_ch ?_) | (with_reducible refine awl_ch0 ?_) | ((with_reducible apply ik_lit); refine awl_lit_conv rfl rfl rfl auto_bytes rfl auto_d ?_) | ((with_reducible apply ik_guard); first | ((first | refine zg1 rfl rfl rfl (fun hc => ?_) (fun hc => ?_) | refine zg2 rfl rfl rfl (fun hc => ?_) (fun hc => ?_)) <;> first | exact absurd hc auto_no | skip) | refine zg3 rfl rfl rfl ?_ | refine zg4 rfl rfl rfl ?_ | refine zg5 rfl rfl rfl ?_ | refine zg6 rfl rfl rfl (fun hc => ?_) (fun hc => ?_) | refine zg7 rfl rfl rfl (fun hc => ?_) (fun hc => ?_)) | ((with_reducible apply ik_callv); first | (refine awl_callc rfl auto_wl (hC) (fun r H' hpost => ?_); obtain ⟨rfl, rfl⟩ := hpost) | (refine awl_seal_arg 0 rfl rfl rfl auto_len (by assumption) ?_) | (refine awl_seal_arg 1 rfl rfl rfl auto_len (by assumption) ?_) | (refine awl_seal_arg 2 rfl rfl rfl auto_len (by assumption) ?_) | fail) | ((with_reducible apply ik_append); first | refine za1 rfl rfl rfl (by assumption) auto_rl auto_src auto_len auto_len (fun oN hoN => ?_) | refine za2 rfl rfl rfl (by assumption) auto_len auto_src auto_len auto_len (fun oN hoN => ?_) | refine za3 rfl rfl rfl auto_heap auto_rl auto_src auto_len auto_len (fun oN hoN => ?_) | refine za4 rfl rfl rfl auto_heap auto_al auto_src auto_len auto_len (fun oN hoN => ?_) | (apply awl_s rfl; · exact auto_app)) | ((with_reducible apply ik_eql); first | refine awl_bys_eqnil rfl rfl rfl (fun b hb => ?_)) | ((with_reducible apply ik_box); first | refine zb1 rfl rfl rfl (fun oN hoN => ?_) | refine zb2 rfl rfl rfl (fun oN hoN => ?_) | refine zb3 rfl rfl (fun oN hoN => ?_)) | ((with_reducible apply ik_alloc); first | refine awl_alloc rfl rfl rfl (fun oN hoN => ?_)) | ((with_reducible apply ik_make); first | refine awl_make_byt rfl rfl rfl auto_om auto_om auto_om (fun oN hoN => ?_) | refine awl_make_cel rfl rfl rfl auto_om rfl rfl auto_om auto_om (fun oN hoN => ?_)) | ((with_reducible apply ik_store); first | refine zs1 rfl rfl rfl rfl auto_d auto_d ?_ | refine zs2 rfl rfl auto_heap auto_d auto_d auto_d ?_ | refine zs3 rfl rfl rfl auto_lt auto_len ?_ | refine zs4 rfl rfl auto_heap auto_lt auto_len ?_ | refine zs5 rfl auto_mv rfl auto_r auto_k ?_ | refine zs6 rfl auto_mv auto_heap auto_r auto_k ?_) | (apply awl_s rfl; · exact auto_stp)) | ((with_reducible apply idAWT); first | (with_reducible refine awt_nil ?_) | ((with_reducible apply it_guard); first | ((first | refine zt1 rfl rfl rfl (fun hc => ?_) (fun hc => ?_) | refine zt2 rfl rfl rfl (fun hc => ?_) (fun hc => ?_)) <;> first | exact absurd hc auto_no | skip) | refine zt3 rfl rfl rfl ?_ | refine zt4 rfl rfl ?_ | refine zt5 rfl rfl ?_ | refine zt6 rfl rfl rfl (fun hc => ?_) (fun hc => ?_) | refine zt7 rfl rfl rfl (fun hc => ?_) (fun hc => ?_)) | ((with_reducible apply it_callv); first | (apply awt_s; · exact s_callc auto_wl (hC)) | (refine awt_last ?_) | fail) | (apply awt_s; · exact auto_stp) | (refine awt_last ?_)) | ((with_reducible apply idAWM); first | (refine awm_b ?_) | (refine awm_b0 ?_) | (refine awm_nil ?_) | (apply awm_e auto_dk; (· exact auto_stp)) | (apply awm_s; · (intro H1; exact auto_stp)) | (apply awm_s; · (intro H1; exact s_callc auto_wl (hC))) | (apply awm_e auto_dk; (· exact s_callc auto_wl (hC)))) | ((with_reducible apply idAWB); first | (refine awb_cons (fun Rx K1 hK1x => ?_)) | (refine awb_cons0 (fun Rx K1 hK1x => ?_)) | (refine awb_nil ?_)) | (refine hK1x _ _ ?_; clear hK1x K1 Rx) | (refine hK1x _ ?_; clear hK1x K1 Rx) | ((with_reducible apply idAW); first | refine aw_seq ?_ | refine aw_region ?_ | refine aw_draw2 false auto_kr auto_dk auto_dk ?_ | refine aw_draw1 auto_kr auto_kr auto_kr ?_ | refine aw_draw0 auto_kr auto_kr ?_ | refine aw_skip ?_ | refine aw_ret ?_ | refine aw_exit ?_ | refine aw_block ?_ | ((refine aw_condp rfl (fun hc => ?_) (fun hc => ?_)) <;> first | exact absurd hc auto_no | skip) | refine aw_cond_t rfl ?_ | refine aw_cond_f rfl ?_ | (refine aw_cond rfl (fun hc => ?_) (fun hc => ?_))) | ((with_reducible apply idKS); first | refine k_seq_normal ?_ | refine k_seq_exit ?_ | refine k_seq_ret ?_) | ((with_reducible apply idKB); first | refine k_block_normal ?_ | refine k_block_ret ?_ | refine k_block_eq ?_ | refine k_block_ne rfl ?_))
  · have ho : d.off = false := by simpa using hc
    have e : d.on = d := by rw [Dk.on, if_neg (by rw [ho]; decide)]
    exact ⟨.inl rfl, _, _, _, Ent.refl _ _, ret0 rfl, rfl, by rw [e]; exact (AHeap.set_same h).symm⟩
  · rename_i ho
    have ho : d.off = true := by simpa using ho
    have hd : d.crd = false := by simpa using hc
    have e : d.on = (d.crashAll []).woken := by rw [Dk.on, if_pos ho, if_neg (by rw [hd]; decide)]
    exact ⟨.inr rfl, _, _, _, Ent.refl _ _, ret0 rfl, rfl, by rw [e]; rfl⟩
  · rename_i ho
    have ho : d.off = true := by simpa using ho
    have hd : d.crd = true := by simpa using hc
    have e : d.on = d.woken := by rw [Dk.on, if_pos ho, if_pos hd]
    exact ⟨.inr rfl, _, _, _, Ent.refl _ _, ret0 rfl, rfl, by rw [e]; rfl⟩

end Go.Proofs.Ytipjoghlmgmhaaa
