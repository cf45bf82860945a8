import Derived.Test.YtipjoghlmgmhaaaCk1
namespace Go.Proofs.Ytipjoghlmgmhaaa
open Go Go.Am Go.Proofs
set_option linter.unusedSimpArgs false
set_option linter.unusedVariables false
set_option maxRecDepth 20000
set_option maxHeartbeats 4000000

/-! The plain law of two slots. -/
theorem fnd_frame {n : Nat} {b : List UInt8} (hn : n < 2 ^ 64) (hb : b.length ≤ 60000) : fnd (frame n b) = (n, b) := by
  have h := take_frame n b [] hn hb
  rw [List.append_nil] at h
  unfold fnd
  rw [h, if_neg (by rw [frame_len]; simp)]
theorem fnd_none {b : List UInt8} (h : takeF b = (0, [], 0)) : fnd b = (0, []) := by
  unfold fnd; rw [h]; split <;> rfl
theorem fnd_nil : fnd [] = (0, []) := by
  unfold fnd; decide +kernel
theorem fnd_cut {n k : Nat} {b : List UInt8} (hb : b.length ≤ 60000) (hk : k < (frame n b).length) : fnd ((frame n b).take k) = (0, []) := fnd_none (take_cut n b k hb hk)
theorem blow_zero {d : Dk} (h : d.fuse = 0) : d.blow = (false, d) := by rw [Dk.blow, if_pos h]
theorem may_12 {d : Dk} {n : Nat} (hn : n < 3) (ho : d.off = false) : d.may (n : Int) = 0 := may_ok (by omega) ho
theorem put_put (d : Dk) (n : Nat) (f f' : Fl) : (d.put n f).put n f' = d.put n f' := by
  unfold Dk.put; (repeat' split) <;> first | rfl | contradiction
theorem get_put {d : Dk} {n : Nat} (f : Fl) (hn : n < 3) : (d.put n f).get n = f := by
  obtain rfl | rfl | rfl : n = 0 ∨ n = 1 ∨ n = 2 := by omega
  all_goals rfl
theorem put_off (d : Dk) (n : Nat) (f : Fl) : (d.put n f).off = d.off := by unfold Dk.put; (repeat' split) <;> rfl
theorem put_fuse (d : Dk) (n : Nat) (f : Fl) : (d.put n f).fuse = d.fuse := by unfold Dk.put; (repeat' split) <;> rfl
theorem put_quiet {d : Dk} {n : Nat} {b : List UInt8} (hn : n < 3) (ho : d.off = false) (hf : d.fuse = 0) (hb : b.length ≤ 262144) : d.putf (n : Int) b = (0, d.put n ⟨b, (d.get n).syn, true⟩) := by
  rw [put_done (may_12 hn ho) (by omega) (by rw [blow_zero hf]), blow_zero hf, Int.toNat_natCast]
theorem sync_quiet {d : Dk} {n : Nat} (hn : n < 3) (ho : d.off = false) (hf : d.fuse = 0) : d.sync (n : Int) = (0, d.put n (d.get n).settled) := by
  rw [sync_done (may_12 hn ho) (by rw [blow_zero hf]), blow_zero hf, Int.toNat_natCast]
def Dk.to (d : Dk) : Nat := if d.lastf.1 = 1 then 2 else 1
theorem Dk.to_lt (d : Dk) : d.to < 3 := by unfold Dk.to; split <;> decide
theorem save_done {d : Dk} {b : List UInt8} (ho : d.off = false) (hf : d.fuse = 0) (hb : b.length ≤ 60000) (hn : d.lastf.2.1 < 18446744073709551615) :
    d.save b = (0, d.put d.to ⟨frame (d.lastf.2.1 + 1) b, frame (d.lastf.2.1 + 1) b, false⟩) := by
  have hl := frame_len (d.lastf.2.1 + 1) b
  have h3 := d.to_lt
  have e1 := put_quiet (n := d.to) (b := frame (d.lastf.2.1 + 1) b) h3 ho hf (by omega)
  have e2 := sync_quiet (n := d.to) (d := d.put d.to ⟨frame (d.lastf.2.1 + 1) b, (d.get d.to).syn, true⟩) h3 (by rw [put_off]; exact ho) (by rw [put_fuse]; exact hf)
  unfold Dk.save
  rw [if_neg (by omega), if_neg (by rw [ho]; decide), if_neg (by omega)]
  show (if (d.putf (d.to : Int) (frame (d.lastf.2.1 + 1) b)).1 ≠ 0 then d.putf (d.to : Int) (frame (d.lastf.2.1 + 1) b) else (d.putf (d.to : Int) (frame (d.lastf.2.1 + 1) b)).2.sync (d.to : Int)) = _
  rw [e1]
  show (d.put d.to ⟨frame (d.lastf.2.1 + 1) b, (d.get d.to).syn, true⟩).sync (d.to : Int) = _
  rw [e2, get_put _ h3, put_put]; rfl
theorem save_big {d : Dk} {b : List UInt8} (hb : 60000 < b.length) : d.save b = (2, d) := if_pos hb
theorem save_good {d : Dk} (g : d.Good) (b : List UInt8) : (d.save b).2.Good ∧ (d.save b).2.lives = d.lives := by
  unfold Dk.save
  have h := fun n : Nat => putf_good g n (frame (d.lastf.2.1 + 1) b)
  have h2 := fun n : Nat => sync_good (h n).1 n
  generalize (if d.lastf.1 = 1 then 2 else 1 : Nat) = n
  have h := h n
  have h2 := h2 n
  (repeat' split) <;> first | exact ⟨g, rfl⟩ | exact h | exact ⟨h2.1, h2.2.trans h.2⟩
theorem lastf_of {d : Dk} {a b : Nat} {x y : List UInt8} (h1 : fnd d.f1.now = (a, x)) (h2 : fnd d.f2.now = (b, y)) : d.lastf = if a = 0 ∧ b = 0 then (0, 0, []) else if a < b then (2, b, y) else (1, a, x) := by
  unfold Dk.lastf; rw [h1, h2]
theorem load_on {d : Dk} (ho : d.off = false) : d.load = if d.lastf.1 = 0 then (0, [], 5) else (d.lastf.2.1, d.lastf.2.2, 0) := by
  rw [Dk.load, if_neg (by rw [ho]; decide)]

/-! The calls, told of a state. -/
theorem load_at {d : Dk} {n : Nat} {b : List UInt8} {e : Nat} (he : d.load = (n, b, e)) (ok : d.Ok) (H : AHeap) (o : Nat) (h : H o = some (.cel d.cells)) :
    ACalls Try.prog 11 [.ptr o 0] H fun r H' => r = .tup [.raw (.int .u64 (n : Int)), .bys b, eno e] ∧ H' = H :=
  (Load_calls H o d h ok).mono (by rintro r H' ⟨rfl, rfl⟩; rw [he]; exact ⟨rfl, rfl⟩)
theorem save_at {d d' : Dk} {b : List UInt8} {e : Nat} (he : d.save b = (e, d')) (g : d.Good) (hb : b.length ≤ 2000000) (H0 : AHeap) (o : Nat) :
    ACalls Try.prog 10 [.ptr o 0, .bys b] (H0.set o (.cel d.cells)) fun r H' => r = eno e ∧ H' = H0.set o (.cel d'.cells) :=
  (Save_calls _ o d b (AHeap.set_self _ _ _) g hb).mono (by rintro r H' ⟨rfl, rfl⟩; rw [he, AHeap.set_set]; exact ⟨rfl, rfl⟩)
abbrev slt (n : Nat) (b : List UInt8) : Fl := ⟨frame n b, frame n b, false⟩
theorem slt_good {n : Nat} {b : List UInt8} (hb : b.length ≤ 60000) : (slt n b).Good := by
  have h := frame_len n b
  exact ⟨by show (frame n b).length ≤ _; omega, by show (frame n b).length ≤ _; omega, fun _ => List.prefix_rfl⟩
theorem none_good : Fl.none.Good := new_good.f0
def c1 : Dk := ⟨.none, slt 1 [97], .none, false, false, 0, 1⟩
def c2 : Dk := ⟨.none, slt 1 [97], slt 2 [98], false, false, 0, 1⟩
theorem new_last : Dk.new.lastf = (0, 0, []) := by rw [lastf_of fnd_nil fnd_nil]; rfl
theorem c1_last : c1.lastf = (1, 1, [97]) := by rw [lastf_of (d := c1) (fnd_frame (by decide) (by decide)) fnd_nil]; rfl
theorem c2_last : c2.lastf = (2, 2, [98]) := by rw [lastf_of (d := c2) (fnd_frame (by decide) (by decide)) (fnd_frame (by decide) (by decide))]; rfl
theorem new_load : Dk.new.load = (0, [], 5) := by rw [load_on rfl, new_last]; rfl
theorem new_save {b : List UInt8} (hb : b.length ≤ 60000) : Dk.new.save b = (0, ⟨.none, slt 1 b, .none, false, false, 0, 1⟩) := by
  rw [save_done rfl rfl hb (by rw [new_last]; decide)]
  have e : Dk.new.to = 1 := by rw [Dk.to, new_last]; rfl
  rw [e, new_last]; rfl
theorem c1_save : c1.save [98] = (0, c2) := by
  rw [save_done rfl rfl (by decide) (by rw [c1_last]; decide)]
  have e : c1.to = 2 := by rw [Dk.to, c1_last]; rfl
  rw [e, c1_last]; rfl
theorem c2_load : c2.load = (2, [98], 0) := by rw [load_on rfl, c2_last]; rfl
theorem c1_good : c1.Good := ⟨none_good, slt_good (by decide), none_good, by decide⟩
theorem c2_good : c2.Good := ⟨none_good, slt_good (by decide), slt_good (by decide), by decide⟩

theorem awake_calls (H : AHeap) : ACalls Try.prog 8 [] H fun r H' => r = .raw (.bool true) ∧ H' = H := by
  refine acalls_of_aw0 Try.func8 rfl ?_
  repeat' (first | ((with_reducible apply idAWL); first | (with_reducible refine awl_nil ?_) | (with_reducible refine awl_ch ?_) | (with_reducible refine awl_ch0 ?_) | ((with_reducible apply ik_lit); refine awl_lit_conv rfl rfl rfl auto_bytes rfl auto_d ?_) | ((with_reducible apply ik_guard); first | ((first | refine zg1 rfl rfl rfl (fun hc => ?_) (fun hc => ?_) | refine zg2 rfl rfl rfl (fun hc => ?_) (fun hc => ?_)) <;> first | exact absurd hc auto_no | skip) | refine zg3 rfl rfl rfl ?_ | refine zg4 rfl rfl rfl ?_ | refine zg5 rfl rfl rfl ?_ | refine zg6 rfl rfl rfl (fun hc => ?_) (fun hc => ?_) | refine zg7 rfl rfl rfl (fun hc => ?_) (fun hc => ?_)) | ((with_reducible apply ik_callv); first | (refine awl_callc rfl auto_wl (New_calls _) (fun r H' hpost => ?_); obtain ⟨o, ho, rfl, rfl⟩ := hpost) | (refine awl_callc rfl auto_wl (load_at new_load new_good.ok _ _ auto_heap) (fun r H' hpost => ?_); obtain ⟨rfl, rfl⟩ := hpost) | (refine awl_callc rfl auto_wl (save_at (new_save (b := [97]) (by decide)) new_good (by decide) _ _) (fun r H' hpost => ?_); obtain ⟨rfl, rfl⟩ := hpost) | (refine awl_callc rfl auto_wl (save_at c1_save c1_good (by decide) _ _) (fun r H' hpost => ?_); obtain ⟨rfl, rfl⟩ := hpost) | (refine awl_callc rfl auto_wl (load_at c2_load c2_good.ok _ _ auto_heap) (fun r H' hpost => ?_); obtain ⟨rfl, rfl⟩ := hpost) | (refine awl_seal_arg 0 rfl rfl rfl auto_len (by assumption) ?_) | (refine awl_seal_arg 1 rfl rfl rfl auto_len (by assumption) ?_) | (refine awl_seal_arg 2 rfl rfl rfl auto_len (by assumption) ?_) | fail) | ((with_reducible apply ik_append); first | refine za1 rfl rfl rfl (by assumption) auto_rl auto_src auto_len auto_len (fun oN hoN => ?_) | refine za2 rfl rfl rfl (by assumption) auto_len auto_src auto_len auto_len (fun oN hoN => ?_) | refine za3 rfl rfl rfl auto_heap auto_rl auto_src auto_len auto_len (fun oN hoN => ?_) | refine za4 rfl rfl rfl auto_heap auto_al auto_src auto_len auto_len (fun oN hoN => ?_) | (apply awl_s rfl; · exact auto_app)) | ((with_reducible apply ik_eql); first | refine awl_bys_eqnil rfl rfl rfl (fun b hb => ?_)) | ((with_reducible apply ik_box); first | refine zb1 rfl rfl rfl (fun oN hoN => ?_) | refine zb2 rfl rfl rfl (fun oN hoN => ?_) | refine zb3 rfl rfl (fun oN hoN => ?_)) | ((with_reducible apply ik_alloc); first | refine awl_alloc rfl rfl rfl (fun oN hoN => ?_)) | ((with_reducible apply ik_make); first | refine awl_make_byt rfl rfl rfl auto_om auto_om auto_om (fun oN hoN => ?_) | refine awl_make_cel rfl rfl rfl auto_om rfl rfl auto_om auto_om (fun oN hoN => ?_)) | ((with_reducible apply ik_store); first | refine zs1 rfl rfl rfl rfl auto_d auto_d ?_ | refine zs2 rfl rfl auto_heap auto_d auto_d auto_d ?_ | refine zs3 rfl rfl rfl auto_lt auto_len ?_ | refine zs4 rfl rfl auto_heap auto_lt auto_len ?_ | refine zs5 rfl auto_mv rfl auto_r auto_k ?_ | refine zs6 rfl auto_mv auto_heap auto_r auto_k ?_) | (apply awl_s rfl; · exact auto_stp)) | ((with_reducible apply idAWT); first | (with_reducible refine awt_nil ?_) | ((with_reducible apply it_guard); first | ((first | refine zt1 rfl rfl rfl (fun hc => ?_) (fun hc => ?_) | refine zt2 rfl rfl rfl (fun hc => ?_) (fun hc => ?_)) <;> first | exact absurd hc auto_no | skip) | refine zt3 rfl rfl rfl ?_ | refine zt4 rfl rfl ?_ | refine zt5 rfl rfl ?_ | refine zt6 rfl rfl rfl (fun hc => ?_) (fun hc => ?_) | refine zt7 rfl rfl rfl (fun hc => ?_) (fun hc => ?_)) | ((with_reducible apply it_callv); first | (apply awt_s; · exact s_callc auto_wl (New_calls _)) | (apply awt_s; · exact s_callc auto_wl (load_at new_load new_good.ok _ _ auto_heap)) | (apply awt_s; · exact s_callc auto_wl (save_at (new_save (b := [97]) (by decide)) new_good (by decide) _ _)) | (apply awt_s; · exact s_callc auto_wl (save_at c1_save c1_good (by decide) _ _)) | (apply awt_s; · exact s_callc auto_wl (load_at c2_load c2_good.ok _ _ auto_heap)) | (refine awt_last ?_) | fail) | (apply awt_s; · exact auto_stp) | (refine awt_last ?_)) | ((with_reducible apply idAWM); first | (refine awm_b ?_) | (refine awm_b0 ?_) | (refine awm_nil ?_) | (apply awm_e auto_dk; (· exact auto_stp)) | (apply awm_s; · (intro H1; exact auto_stp)) | (apply awm_s; · (intro H1; exact s_callc auto_wl (New_calls _))) | (apply awm_e auto_dk; (· exact s_callc auto_wl (New_calls _))) | (apply awm_s; · (intro H1; exact s_callc auto_wl (load_at new_load new_good.ok _ _ auto_heap))) | (apply awm_e auto_dk; (· exact s_callc auto_wl (load_at new_load new_good.ok _ _ auto_heap))) | (apply awm_s; · (intro H1; exact s_callc auto_wl (save_at (new_save (b := [97]) (by decide)) new_good (by decide) _ _))) | (apply awm_e auto_dk; (· exact s_callc auto_wl (save_at (new_save (b := [97]) (by decide)) new_good (by decide) _ _))) | (apply awm_s; · (intro H1; exact s_callc auto_wl (save_at c1_save c1_good (by decide) _ _))) | (apply awm_e auto_dk; (· exact s_callc auto_wl (save_at c1_save c1_good (by decide) _ _))) | (apply awm_s; · (intro H1; exact s_callc auto_wl (load_at c2_load c2_good.ok _ _ auto_heap))) | (apply awm_e auto_dk; (· exact s_callc auto_wl (load_at c2_load c2_good.ok _ _ auto_heap)))) | ((with_reducible apply idAWB); first | (refine awb_cons (fun Rx K1 hK1x => ?_)) | (refine awb_cons0 (fun Rx K1 hK1x => ?_)) | (refine awb_nil ?_)) | (refine hK1x _ _ ?_; clear hK1x K1 Rx) | (refine hK1x _ ?_; clear hK1x K1 Rx) | ((with_reducible apply idAW); first | refine aw_seq ?_ | refine aw_region ?_ | refine aw_draw2 false auto_kr auto_dk auto_dk ?_ | refine aw_draw1 auto_kr auto_kr auto_kr ?_ | refine aw_draw0 auto_kr auto_kr ?_ | refine aw_skip ?_ | refine aw_ret ?_ | refine aw_exit ?_ | refine aw_block ?_ | ((refine aw_condp rfl (fun hc => ?_) (fun hc => ?_)) <;> first | exact absurd hc auto_no | skip) | refine aw_cond_t rfl ?_ | refine aw_cond_f rfl ?_ | (refine aw_cond rfl (fun hc => ?_) (fun hc => ?_))) | ((with_reducible apply idKS); first | refine k_seq_normal ?_ | refine k_seq_exit ?_ | refine k_seq_ret ?_) | ((with_reducible apply idKB); first | refine k_block_normal ?_ | refine k_block_ret ?_ | refine k_block_eq ?_ | refine k_block_ne rfl ?_))
  exact ⟨.inl rfl, _, _, _, Ent.gc auto_sub, ret1 rfl rfl, by rfl, rfl⟩
end Go.Proofs.Ytipjoghlmgmhaaa
