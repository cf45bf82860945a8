import Derived.Test.YtfjiblbajgmeiaaSm2
namespace Go.Proofs.Ytfjiblbajgmeiaa
open Go Go.Am Go.Proofs
set_option linter.unusedSimpArgs false
set_option linter.unusedVariables false
set_option maxRecDepth 20000
set_option maxHeartbeats 4000000

/-- Frames one behind the other. -/
def allF : Nat → List UInt8 → Nat → List (List UInt8) × Nat
  | 0, _, _ => ([], 0)
  | f + 1, b, nx =>
    if (takeF b).2.2 = 0 then ([], 0) else if (takeF b).1 ≠ nx then ([], 0)
    else if nx = 18446744073709551615 then ([(takeF b).2.1], (takeF b).2.2)
    else ((takeF b).2.1 :: (allF f (b.drop (takeF b).2.2) (nx + 1)).1, (takeF b).2.2 + (allF f (b.drop (takeF b).2.2) (nx + 1)).2)

theorem takeF_size (b : List UInt8) : (takeF b).2.2 = 0 ∨ (17 ≤ (takeF b).2.2 ∧ (takeF b).2.2 ≤ b.length ∧ (takeF b).2.2 ≤ 60017) := by
  unfold takeF
  repeat' split
  all_goals first | exact .inl rfl | (right; simp only []; omega)
theorem takeF_num (b : List UInt8) : (takeF b).1 < 2 ^ 64 := by
  unfold takeF
  repeat' split
  all_goals first | (show (0 : Nat) < 2 ^ 64; decide) | exact num_lt _
theorem takeF_text (b : List UInt8) : (takeF b).2.1.length ≤ b.length := by
  unfold takeF
  repeat' split
  all_goals simp
  omega

theorem allF_fuel : ∀ (f : Nat) (b : List UInt8) (nx : Nat), b.length < f → allF (f + 1) b nx = allF f b nx
  | 0, b, nx, h => by omega
  | f + 1, b, nx, h => by
    rw [allF]
    conv => rhs; rw [allF]
    split
    · rfl
    · split
      · rfl
      · split
        · rfl
        · have := takeF_size b
          rw [allF_fuel f (b.drop (takeF b).2.2) (nx + 1) (by rw [List.length_drop]; omega)]
def allB (b : List UInt8) (nx : Nat) : List (List UInt8) × Nat := allF (b.length + 1) b nx
theorem allF_eq : ∀ (k : Nat) (b : List UInt8) (nx : Nat), allF (b.length + 1 + k) b nx = allB b nx
  | 0, b, nx => rfl
  | k + 1, b, nx => by rw [← Nat.add_assoc, allF_fuel _ b nx (by omega), allF_eq k b nx]
theorem allB_step {b : List UInt8} {nx : Nat} (h1 : (takeF b).2.2 ≠ 0) (h2 : (takeF b).1 = nx) (h3 : nx ≠ 18446744073709551615) :
    allB b nx = ((takeF b).2.1 :: (allB (b.drop (takeF b).2.2) (nx + 1)).1, (takeF b).2.2 + (allB (b.drop (takeF b).2.2) (nx + 1)).2) := by
  have hs := takeF_size b
  have : allF b.length (b.drop (takeF b).2.2) (nx + 1) = allB (b.drop (takeF b).2.2) (nx + 1) := by
    rw [← allF_eq ((takeF b).2.2 - 1)]
    congr 1
    rw [List.length_drop]; omega
  rw [allB, allF, if_neg h1, if_neg (by simp [h2]), if_neg h3, this]
theorem allB_stop {b : List UInt8} {nx : Nat} (h : (takeF b).2.2 = 0 ∨ (takeF b).1 ≠ nx) : allB b nx = ([], 0) := by
  rw [allB, allF]
  by_cases h0 : (takeF b).2.2 = 0
  · rw [if_pos h0]
  · rw [if_neg h0, if_pos (by rcases h with h | h; · exact absurd h h0
                              · exact h)]
theorem allB_last {b : List UInt8} (h1 : (takeF b).2.2 ≠ 0) (h2 : (takeF b).1 = 18446744073709551615) : allB b 18446744073709551615 = ([(takeF b).2.1], (takeF b).2.2) := by
  rw [allB, allF, if_neg h1, if_neg (by simp [h2]), if_pos rfl]

theorem All_calls (H : AHeap) (b : List UInt8) (first : Nat) (hb : b.length ≤ 2000000000) (hf : first < 2 ^ 64) :
    ACalls Try.prog 20 [.bys b, .raw (.int .u64 (first : Int))] H fun r H' => r = .tup [.sls (allB b first).1.length ((allB b first).1.map .bys), .raw (.int .i64 ((allB b first).2 : Int))] ∧ H' = H := by
  refine acalls_of_aw2 Try.func20 rfl (by decide) ?_
  repeat' (first | ((with_reducible apply idAWL); first | (with_reducible refine awl_nil ?_) | ((with_reducible apply ik_lit); refine awl_lit_conv rfl rfl rfl auto_bytes rfl (by decide) ?_) | ((with_reducible apply ik_guard); first | ((refine awl_guard_pt rfl rfl rfl (fun hc => ?_) (fun hc => ?_)) <;> first | (exfalso; omega) | (with_reducible exact absurd rfl hc) | (exfalso; revert hc; decide +kernel) | skip) | ((refine awl_guard_pf rfl rfl rfl (fun hc => ?_) (fun hc => ?_)) <;> first | (exfalso; omega) | (with_reducible exact absurd rfl hc) | (exfalso; revert hc; decide +kernel) | skip) | refine awl_guard_t rfl rfl rfl ?_ | refine awl_guard_f rfl rfl rfl ?_ | refine awl_guard_undef rfl rfl rfl ?_ | (refine awl_guard_bt rfl rfl rfl (fun hc => ?_) (fun hc => ?_)) | (refine awl_guard_bf rfl rfl rfl (fun hc => ?_) (fun hc => ?_))) | ((with_reducible apply ik_callv); first | fail) | ((with_reducible apply ik_append); first | refine awl_app_zeros (sz := 1) (z := .int .u8 0) (xs := .byt []) rfl rfl rfl rfl (by omega) (by omega) auto_len (fun oN hoN => ?_) | refine awl_app_byt1 rfl rfl rfl (by assumption) (by first | rfl | exact auto_len) auto_src auto_len auto_len (fun oN hoN => ?_) | refine awl_app_cel1 rfl rfl rfl (by assumption) auto_len auto_src auto_len auto_len (fun oN hoN => ?_) | refine awl_app_byt rfl rfl rfl auto_heap (by first | rfl | exact auto_len) auto_src auto_len auto_len (fun oN hoN => ?_) | refine awl_app_cel rfl rfl rfl auto_heap (by first | rfl | (simp; done) | (simp; omega)) auto_src auto_len auto_len (fun oN hoN => ?_) | (apply awl_s rfl; · first | exact s_app_emp_byt rfl rfl auto_src auto_len auto_len | exact s_app_bysx_byt rfl rfl auto_src auto_len auto_len | exact s_app_nil_byt rfl rfl auto_src auto_len auto_len)) | ((with_reducible apply ik_eql); first | refine awl_bys_eqnil rfl rfl rfl (fun b hb => ?_)) | ((with_reducible apply ik_box); first | refine awl_box_agg rfl rfl rfl (fun oN hoN => ?_) | refine awl_box_raw rfl rfl rfl (fun oN hoN => ?_) | refine awl_box_bys rfl rfl (fun oN hoN => ?_)) | ((with_reducible apply ik_alloc); first | refine awl_alloc rfl rfl rfl (fun oN hoN => ?_)) | ((with_reducible apply ik_make); first | refine awl_make_byt rfl rfl rfl (by omega) (by omega) (by omega) (fun oN hoN => ?_)) | ((with_reducible apply ik_store); first | refine awl_storea rfl rfl rfl rfl (by first | decide | rfl) (by first | decide | exact Nat.le_of_ble_eq_true rfl) ?_ | refine awl_storeg rfl rfl auto_heap (by first | decide | rfl) (by first | decide | rfl) (by first | decide | exact Nat.le_of_ble_eq_true rfl) ?_ | refine awl_storeb1 rfl rfl rfl auto_lt auto_len ?_ | refine awl_storeb rfl rfl auto_heap auto_lt auto_len ?_ | refine awl_store1s rfl (by (first | exact (rfl : _ = AV.raw _) | exact (rfl : _ = AV.bys _) | exact (rfl : _ = AV.vw _ _ _ _) | exact (rfl : _ = AV.ptr _ _) | exact (rfl : _ = AV.str _) | exact (rfl : _ = AV.sls _ _) | exact (rfl : _ = AV.tup _) | exact (rfl : _ = AV.agg _) | exact (rfl : _ = AV.pce _ _) | exact (rfl : _ = AV.emp) | exact (rfl : _ = AV.bysx _) | exact (rfl : _ = AV.slsx _ _) | exact (rfl : _ = AV.mp _) | exact (rfl : _ = AV.fnc _ _ _) | exact (rfl : _ = AV.pby _ _) | exact (rfl : _ = AV.ifc _ _))) rfl (by rfl) (by first | decide | exact Nat.le_of_ble_eq_true rfl | (simp; done) | (simp; omega)) ?_ | refine awl_store1 rfl (by (first | exact (rfl : _ = AV.raw _) | exact (rfl : _ = AV.bys _) | exact (rfl : _ = AV.vw _ _ _ _) | exact (rfl : _ = AV.ptr _ _) | exact (rfl : _ = AV.str _) | exact (rfl : _ = AV.sls _ _) | exact (rfl : _ = AV.tup _) | exact (rfl : _ = AV.agg _) | exact (rfl : _ = AV.pce _ _) | exact (rfl : _ = AV.emp) | exact (rfl : _ = AV.bysx _) | exact (rfl : _ = AV.slsx _ _) | exact (rfl : _ = AV.mp _) | exact (rfl : _ = AV.fnc _ _ _) | exact (rfl : _ = AV.pby _ _) | exact (rfl : _ = AV.ifc _ _))) auto_heap (by rfl) (by first | decide | exact Nat.le_of_ble_eq_true rfl | (simp; done) | (simp; omega)) ?_) | (apply awl_s rfl; · exact auto_stp)) | ((with_reducible apply idAWT); first | (with_reducible refine awt_nil ?_) | ((with_reducible apply it_guard); first | ((refine awt_guard_pt rfl rfl rfl (fun hc => ?_) (fun hc => ?_)) <;> first | (exfalso; omega) | (with_reducible exact absurd rfl hc) | (exfalso; revert hc; decide +kernel) | skip) | ((refine awt_guard_pf rfl rfl rfl (fun hc => ?_) (fun hc => ?_)) <;> first | (exfalso; omega) | (with_reducible exact absurd rfl hc) | (exfalso; revert hc; decide +kernel) | skip) | refine awt_guard_t rfl rfl rfl ?_ | refine awt_guard_f rfl rfl ?_ | refine awt_guard_undef rfl rfl ?_ | (refine awt_guard_bt rfl rfl rfl (fun hc => ?_) (fun hc => ?_)) | (refine awt_guard_bf rfl rfl rfl (fun hc => ?_) (fun hc => ?_))) | ((with_reducible apply it_callv); first | (refine awt_last ?_) | fail) | (apply awt_s; · exact auto_stp) | (refine awt_last ?_)) | ((with_reducible apply idAWM); first | (refine awm_b ?_) | (refine awm_b0 ?_) | (refine awm_nil ?_) | (apply awm_e; (· decide +kernel); (· exact auto_stp)) | (apply awm_s; · (intro H1; exact auto_stp))) | ((with_reducible apply idAWB); first | (refine awb_cons (fun Rx K1 hK1x => ?_)) | (refine awb_cons0 (fun Rx K1 hK1x => ?_)) | (refine awb_nil ?_)) | (refine hK1x _ _ ?_; clear hK1x K1 Rx) | (refine hK1x _ ?_; clear hK1x K1 Rx) | ((with_reducible apply idAW); first | refine aw_seq ?_ | refine aw_region ?_ | refine aw_draw2 false (by kernel_rfl) (by decide +kernel) (by decide +kernel) ?_ | refine aw_draw1 (by kernel_rfl) (by kernel_rfl) (by kernel_rfl) ?_ | refine aw_draw0 (by kernel_rfl) (by kernel_rfl) ?_ | refine aw_skip ?_ | refine aw_ret ?_ | refine aw_exit ?_ | refine aw_block ?_ | ((refine aw_condp rfl (fun hc => ?_) (fun hc => ?_)) <;> first | (exfalso; omega) | (with_reducible exact absurd rfl hc) | (exfalso; revert hc; decide +kernel) | skip) | refine aw_cond_t rfl ?_ | refine aw_cond_f rfl ?_ | (refine aw_cond rfl (fun hc => ?_) (fun hc => ?_))) | ((with_reducible apply idKS); first | refine k_seq_normal ?_ | refine k_seq_exit ?_ | refine k_seq_ret ?_) | ((with_reducible apply idKB); first | refine k_block_normal ?_ | refine k_block_ret ?_ | refine k_block_eq ?_ | refine k_block_ne rfl ?_))
  refine aw_own_nil 4 1 (.cel []) rfl rfl (fun o ho => ?_)
  refine aw_loop (fun m R' H1 => ∃ (o : Nat) (L : List (List UInt8)) (s nx : Nat), H o = none ∧ H1 = H.set o (.cel (L.map .bys)) ∧ R' = [(0, .bys b), (4, .vw o 1 0 L.length), (5, .raw (.int .i64 ((s : Nat) : Int))), (6, .raw (.int .u64 ((nx : Nat) : Int)))] ∧ m = b.length - s ∧ s ≤ b.length ∧ nx < 2 ^ 64 ∧ L.length ≤ s ∧
    L ++ (allB (b.drop s) nx).1 = (allB b first).1 ∧ s + (allB (b.drop s) nx).2 = (allB b first).2) ?_ ?_
  · exact ⟨b.length, _, _, auto_ent, o, [], 0, first, ho, rfl, rfl, by omega, by omega, hf, by simp, by simp, by simp⟩
  clear ho
  rintro m R0 H1 ⟨o, L, s, nx, ho, rfl, rfl, rfl, hs, hnx, hL, e1, e2⟩
  have hT : List.take (b.length - s) (List.drop s b) = b.drop s := List.take_of_length_le (by simp)
  have hTake : ACalls Try.prog 31 [.bys (List.take (b.length - s) (List.drop s b))] (H.set o (.cel (L.map .bys))) fun r H' => r = .tup [.raw (.int .u64 ((takeF (b.drop s)).1 : Int)), .bys (takeF (b.drop s)).2.1, .raw (.int .i64 ((takeF (b.drop s)).2.2 : Int))] ∧ H' = H.set o (.cel (L.map .bys)) := by
    rw [hT]; exact Take_calls _ _ (by rw [List.length_drop]; omega)
  have z1 := takeF_size (b.drop s)
  have z2 := takeF_num (b.drop s)
  have z3 := @allB_stop (b.drop s) nx
  have z4 := @allB_step (b.drop s) nx
  have z5 := @allB_last (b.drop s)
  rw [List.length_drop] at z1
  have z6 : b.drop (s + (takeF (b.drop s)).2.2) = (b.drop s).drop (takeF (b.drop s)).2.2 := by rw [List.drop_drop]
  generalize takeF (b.drop s) = t3 at *
  obtain ⟨tn, tt, tk⟩ := t3
  simp only [] at *
  repeat' (first | ((with_reducible apply idAWL); first | (with_reducible refine awl_nil ?_) | ((with_reducible apply ik_lit); refine awl_lit_conv rfl rfl rfl auto_bytes rfl (by decide) ?_) | ((with_reducible apply ik_guard); first | ((refine awl_guard_pt rfl rfl rfl (fun hc => ?_) (fun hc => ?_)) <;> first | (exfalso; omega) | (with_reducible exact absurd rfl hc) | (exfalso; revert hc; decide +kernel) | skip) | ((refine awl_guard_pf rfl rfl rfl (fun hc => ?_) (fun hc => ?_)) <;> first | (exfalso; omega) | (with_reducible exact absurd rfl hc) | (exfalso; revert hc; decide +kernel) | skip) | refine awl_guard_t rfl rfl rfl ?_ | refine awl_guard_f rfl rfl rfl ?_ | refine awl_guard_undef rfl rfl rfl ?_ | (refine awl_guard_bt rfl rfl rfl (fun hc => ?_) (fun hc => ?_)) | (refine awl_guard_bf rfl rfl rfl (fun hc => ?_) (fun hc => ?_))) | ((with_reducible apply ik_callv); first | (refine awl_callc rfl auto_wl (hTake) (fun r H' hpost => ?_); obtain ⟨rfl, rfl⟩ := hpost) | (refine awl_seal_arg 0 rfl rfl rfl auto_len (by assumption) ?_) | (refine awl_seal_arg 1 rfl rfl rfl auto_len (by assumption) ?_) | (refine awl_seal_arg 2 rfl rfl rfl auto_len (by assumption) ?_) | fail) | ((with_reducible apply ik_append); first | refine awl_app_zeros (sz := 1) (z := .int .u8 0) (xs := .byt []) rfl rfl rfl rfl (by omega) (by omega) auto_len (fun oN hoN => ?_) | refine awl_app_byt1 rfl rfl rfl (by assumption) (by first | rfl | exact auto_len) auto_src auto_len auto_len (fun oN hoN => ?_) | refine awl_app_cel1 rfl rfl rfl (by assumption) auto_len auto_src auto_len auto_len (fun oN hoN => ?_) | refine awl_app_byt rfl rfl rfl auto_heap (by first | rfl | exact auto_len) auto_src auto_len auto_len (fun oN hoN => ?_) | refine awl_app_cel rfl rfl rfl auto_heap (by first | rfl | (simp; done) | (simp; omega)) auto_src auto_len auto_len (fun oN hoN => ?_) | (apply awl_s rfl; · first | exact s_app_emp_byt rfl rfl auto_src auto_len auto_len | exact s_app_bysx_byt rfl rfl auto_src auto_len auto_len | exact s_app_nil_byt rfl rfl auto_src auto_len auto_len)) | ((with_reducible apply ik_eql); first | refine awl_bys_eqnil rfl rfl rfl (fun b hb => ?_)) | ((with_reducible apply ik_box); first | refine awl_box_agg rfl rfl rfl (fun oN hoN => ?_) | refine awl_box_raw rfl rfl rfl (fun oN hoN => ?_) | refine awl_box_bys rfl rfl (fun oN hoN => ?_)) | ((with_reducible apply ik_alloc); first | refine awl_alloc rfl rfl rfl (fun oN hoN => ?_)) | ((with_reducible apply ik_make); first | refine awl_make_byt rfl rfl rfl (by omega) (by omega) (by omega) (fun oN hoN => ?_)) | ((with_reducible apply ik_store); first | refine awl_storea rfl rfl rfl rfl (by first | decide | rfl) (by first | decide | exact Nat.le_of_ble_eq_true rfl) ?_ | refine awl_storeg rfl rfl auto_heap (by first | decide | rfl) (by first | decide | rfl) (by first | decide | exact Nat.le_of_ble_eq_true rfl) ?_ | refine awl_storeb1 rfl rfl rfl auto_lt auto_len ?_ | refine awl_storeb rfl rfl auto_heap auto_lt auto_len ?_ | refine awl_store1s rfl (by (first | exact (rfl : _ = AV.raw _) | exact (rfl : _ = AV.bys _) | exact (rfl : _ = AV.vw _ _ _ _) | exact (rfl : _ = AV.ptr _ _) | exact (rfl : _ = AV.str _) | exact (rfl : _ = AV.sls _ _) | exact (rfl : _ = AV.tup _) | exact (rfl : _ = AV.agg _) | exact (rfl : _ = AV.pce _ _) | exact (rfl : _ = AV.emp) | exact (rfl : _ = AV.bysx _) | exact (rfl : _ = AV.slsx _ _) | exact (rfl : _ = AV.mp _) | exact (rfl : _ = AV.fnc _ _ _) | exact (rfl : _ = AV.pby _ _) | exact (rfl : _ = AV.ifc _ _))) rfl (by rfl) (by first | decide | exact Nat.le_of_ble_eq_true rfl | (simp; done) | (simp; omega)) ?_ | refine awl_store1 rfl (by (first | exact (rfl : _ = AV.raw _) | exact (rfl : _ = AV.bys _) | exact (rfl : _ = AV.vw _ _ _ _) | exact (rfl : _ = AV.ptr _ _) | exact (rfl : _ = AV.str _) | exact (rfl : _ = AV.sls _ _) | exact (rfl : _ = AV.tup _) | exact (rfl : _ = AV.agg _) | exact (rfl : _ = AV.pce _ _) | exact (rfl : _ = AV.emp) | exact (rfl : _ = AV.bysx _) | exact (rfl : _ = AV.slsx _ _) | exact (rfl : _ = AV.mp _) | exact (rfl : _ = AV.fnc _ _ _) | exact (rfl : _ = AV.pby _ _) | exact (rfl : _ = AV.ifc _ _))) auto_heap (by rfl) (by first | decide | exact Nat.le_of_ble_eq_true rfl | (simp; done) | (simp; omega)) ?_) | (apply awl_s rfl; · exact auto_stp)) | ((with_reducible apply idAWT); first | (with_reducible refine awt_nil ?_) | ((with_reducible apply it_guard); first | ((refine awt_guard_pt rfl rfl rfl (fun hc => ?_) (fun hc => ?_)) <;> first | (exfalso; omega) | (with_reducible exact absurd rfl hc) | (exfalso; revert hc; decide +kernel) | skip) | ((refine awt_guard_pf rfl rfl rfl (fun hc => ?_) (fun hc => ?_)) <;> first | (exfalso; omega) | (with_reducible exact absurd rfl hc) | (exfalso; revert hc; decide +kernel) | skip) | refine awt_guard_t rfl rfl rfl ?_ | refine awt_guard_f rfl rfl ?_ | refine awt_guard_undef rfl rfl ?_ | (refine awt_guard_bt rfl rfl rfl (fun hc => ?_) (fun hc => ?_)) | (refine awt_guard_bf rfl rfl rfl (fun hc => ?_) (fun hc => ?_))) | ((with_reducible apply it_callv); first | (apply awt_s; · exact s_callc auto_wl (hTake)) | (refine awt_last ?_) | fail) | (apply awt_s; · exact auto_stp) | (refine awt_last ?_)) | ((with_reducible apply idAWM); first | (refine awm_b ?_) | (refine awm_b0 ?_) | (refine awm_nil ?_) | (apply awm_e; (· decide +kernel); (· exact auto_stp)) | (apply awm_s; · (intro H1; exact auto_stp)) | (apply awm_s; · (intro H1; exact s_callc auto_wl (hTake))) | (apply awm_e; (· decide +kernel); (· exact s_callc auto_wl (hTake)))) | ((with_reducible apply idAWB); first | (refine awb_cons (fun Rx K1 hK1x => ?_)) | (refine awb_cons0 (fun Rx K1 hK1x => ?_)) | (refine awb_nil ?_)) | (refine hK1x _ _ ?_; clear hK1x K1 Rx) | (refine hK1x _ ?_; clear hK1x K1 Rx) | ((with_reducible apply idAW); first | refine aw_seq ?_ | refine aw_region ?_ | refine aw_draw2 false (by kernel_rfl) (by decide +kernel) (by decide +kernel) ?_ | refine aw_draw1 (by kernel_rfl) (by kernel_rfl) (by kernel_rfl) ?_ | refine aw_draw0 (by kernel_rfl) (by kernel_rfl) ?_ | refine aw_skip ?_ | refine aw_ret ?_ | refine aw_exit ?_ | refine aw_block ?_ | ((refine aw_condp rfl (fun hc => ?_) (fun hc => ?_)) <;> first | (exfalso; omega) | (with_reducible exact absurd rfl hc) | (exfalso; revert hc; decide +kernel) | skip) | refine aw_cond_t rfl ?_ | refine aw_cond_f rfl ?_ | (refine aw_cond rfl (fun hc => ?_) (fun hc => ?_))) | ((with_reducible apply idKS); first | refine k_seq_normal ?_ | refine k_seq_exit ?_ | refine k_seq_ret ?_) | ((with_reducible apply idKB); first | refine k_block_normal ?_ | refine k_block_ret ?_ | refine k_block_eq ?_ | refine k_block_ne rfl ?_))
  · have e := z3 (.inl hc)
    rw [e] at e1 e2
    simp only [List.append_nil, Nat.add_zero] at e1 e2
    exact ⟨.inl rfl, _, _, _, Ent.seal_cel1 4 rfl (by simp) ho, ret2 rfl rfl rfl, by rw [← e1, ← e2]; rfl, rfl⟩
  · have e := z3 (.inr hc)
    rw [e] at e1 e2
    simp only [List.append_nil, Nat.add_zero] at e1 e2
    exact ⟨.inl rfl, _, _, _, Ent.seal_cel1 4 rfl (by simp) ho, ret2 rfl rfl rfl, by rw [← e1, ← e2]; rfl, rfl⟩
  · subst hc
    have e := z5 (by assumption) (by omega)
    rw [e] at e1 e2
    exact ⟨.inl rfl, _, _, _, Ent.seal_cel1 4 rfl (by simp) hoN, ret2 rfl rfl rfl, by rw [← e1, ← e2]; simp [rget], rfl⟩
  · have e := z4 (by assumption) (by omega) hc
    rw [e] at e1 e2
    exact ⟨b.length - (s + tk), _, _, by omega, auto_ent, oN, L ++ [tt], s + tk, nx + 1, hoN, by rw [List.map_append]; rfl, rfl, rfl, by omega, by omega, by simp; omega, by rw [z6, ← e1]; simp, by rw [z6, ← e2]; omega⟩

end Go.Proofs.Ytfjiblbajgmeiaa
