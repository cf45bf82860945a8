import Derived.Test.YtkhjnopmkihmiaaTab
import Derived.Test.YtkhjnopmkihmiaaAmMore
namespace Go.Proofs.Ytkhjnopmkihmiaa
open Go Go.Am Go.Proofs

def encU : Nat → Nat → List UInt8
  | 0, u => [UInt8.ofNat u]
  | f + 1, u => if u < 128 then [UInt8.ofNat u] else UInt8.ofNat (u % 128 + 128) :: encU f (u / 128)

theorem or128 (u : Nat) : (u % 256 ||| 128) = u % 128 + 128 := by
  have h : ∀ v, v < 256 → (v ||| 128) = v % 128 + 128 := by decide +kernel
  rw [h _ (Nat.mod_lt _ (by decide)), Nat.mod_mod_of_dvd _ (by decide)]

theorem encU_lt {f u : Nat} (h : u < 128) : encU f u = [UInt8.ofNat u] := by cases f <;> simp [encU, h]
theorem encU_ge {f u : Nat} (h : 128 ≤ u) : encU (f + 1) u = UInt8.ofNat (u % 128 + 128) :: encU f (u / 128) := by simp [encU, show ¬ u < 128 by omega]

theorem pow7 {f m : Nat} (h : m < 2 ^ (7 * (f + 1) + 1)) : m / 128 < 2 ^ (7 * f + 1) := by
  have : 2 ^ (7 * (f + 1) + 1) = 2 ^ (7 * f + 1) * 128 := by rw [show 7 * (f + 1) + 1 = (7 * f + 1) + 7 by omega, Nat.pow_add]
  omega
theorem hu9 (u : Nat) (h : u < 18446744073709551616) : u < 2 ^ (7 * 9 + 1) := by simpa using h

set_option linter.unusedSimpArgs false
set_option linter.unusedVariables false
set_option maxRecDepth 20000
set_option maxHeartbeats 4000000

theorem U_own (H : AHeap) (b : List UInt8) (u : Nat) (hb : b.length ≤ 4000000000) (hu : u < 18446744073709551616) :
    ACalls Try.prog 41 [.bys b, .raw (.int .u64 (u : Int))] H fun r H' => ∃ o, H o = none ∧ r = .vw o 1 0 (b ++ encU 10 u).length ∧ H' = H.set o (.byt (b ++ encU 10 u)) := by
  refine acalls_of_aw2 Try.func41 rfl (by decide) ?_
  repeat' (first | ((with_reducible apply idAWL); first | (with_reducible refine awl_nil ?_) | (with_reducible refine awl_ch ?_) | (with_reducible refine awl_ch0 ?_) | ((with_reducible apply ik_lit); refine awl_lit_conv rfl rfl rfl auto_bytes rfl auto_d ?_) | ((with_reducible apply ik_guard); first | ((first | refine zg1 rfl rfl rfl (fun hc => ?_) (fun hc => ?_) | refine zg2 rfl rfl rfl (fun hc => ?_) (fun hc => ?_)) <;> first | exact absurd hc auto_no | skip) | refine zg3 rfl rfl rfl ?_ | refine zg4 rfl rfl rfl ?_ | refine zg5 rfl rfl rfl ?_ | refine zg6 rfl rfl rfl (fun hc => ?_) (fun hc => ?_) | refine zg7 rfl rfl rfl (fun hc => ?_) (fun hc => ?_)) | ((with_reducible apply ik_callv); first | fail) | ((with_reducible apply ik_append); first | refine za1 rfl rfl rfl (by assumption) auto_rl auto_src auto_len auto_len (fun oN hoN => ?_) | refine za2 rfl rfl rfl (by assumption) auto_len auto_src auto_len auto_len (fun oN hoN => ?_) | refine za3 rfl rfl rfl auto_heap auto_rl auto_src auto_len auto_len (fun oN hoN => ?_) | refine za4 rfl rfl rfl auto_heap auto_al auto_src auto_len auto_len (fun oN hoN => ?_) | (apply awl_s rfl; · exact auto_app)) | ((with_reducible apply ik_eql); first | refine awl_bys_eqnil rfl rfl rfl (fun b hb => ?_)) | ((with_reducible apply ik_box); first | refine zb1 rfl rfl rfl (fun oN hoN => ?_) | refine zb2 rfl rfl rfl (fun oN hoN => ?_) | refine zb3 rfl rfl (fun oN hoN => ?_)) | ((with_reducible apply ik_alloc); first | refine awl_alloc rfl rfl rfl (fun oN hoN => ?_)) | ((with_reducible apply ik_make); first | refine awl_make_byt rfl rfl rfl auto_om auto_om auto_om (fun oN hoN => ?_)) | ((with_reducible apply ik_store); first | refine zs1 rfl rfl rfl rfl auto_d auto_d ?_ | refine zs2 rfl rfl auto_heap auto_d auto_d auto_d ?_ | refine zs3 rfl rfl rfl auto_lt auto_len ?_ | refine zs4 rfl rfl auto_heap auto_lt auto_len ?_ | refine zs5 rfl auto_mv rfl auto_r auto_k ?_ | refine zs6 rfl auto_mv auto_heap auto_r auto_k ?_) | (apply awl_s rfl; · exact auto_stp)) | ((with_reducible apply idAWT); first | (with_reducible refine awt_nil ?_) | ((with_reducible apply it_guard); first | ((first | refine zt1 rfl rfl rfl (fun hc => ?_) (fun hc => ?_) | refine zt2 rfl rfl rfl (fun hc => ?_) (fun hc => ?_)) <;> first | exact absurd hc auto_no | skip) | refine zt3 rfl rfl rfl ?_ | refine zt4 rfl rfl ?_ | refine zt5 rfl rfl ?_ | refine zt6 rfl rfl rfl (fun hc => ?_) (fun hc => ?_) | refine zt7 rfl rfl rfl (fun hc => ?_) (fun hc => ?_)) | ((with_reducible apply it_callv); first | (refine awt_last ?_) | fail) | (apply awt_s; · exact auto_stp) | (refine awt_last ?_)) | ((with_reducible apply idAWM); first | (refine awm_b ?_) | (refine awm_b0 ?_) | (refine awm_nil ?_) | (apply awm_e auto_dk; (· exact auto_stp)) | (apply awm_s; · (intro H1; exact auto_stp))) | ((with_reducible apply idAWB); first | (refine awb_cons (fun Rx K1 hK1x => ?_)) | (refine awb_cons0 (fun Rx K1 hK1x => ?_)) | (refine awb_nil ?_)) | (refine hK1x _ _ ?_; clear hK1x K1 Rx) | (refine hK1x _ ?_; clear hK1x K1 Rx) | ((with_reducible apply idAW); first | refine aw_seq ?_ | refine aw_region ?_ | refine aw_draw2 false auto_kr auto_dk auto_dk ?_ | refine aw_draw1 auto_kr auto_kr auto_kr ?_ | refine aw_draw0 auto_kr auto_kr ?_ | refine aw_skip ?_ | refine aw_ret ?_ | refine aw_exit ?_ | refine aw_block ?_ | ((refine aw_condp rfl (fun hc => ?_) (fun hc => ?_)) <;> first | exact absurd hc auto_no | skip) | refine aw_cond_t rfl ?_ | refine aw_cond_f rfl ?_ | (refine aw_cond rfl (fun hc => ?_) (fun hc => ?_))) | ((with_reducible apply idKS); first | refine k_seq_normal ?_ | refine k_seq_exit ?_ | refine k_seq_ret ?_) | ((with_reducible apply idKB); first | refine k_block_normal ?_ | refine k_block_ret ?_ | refine k_block_eq ?_ | refine k_block_ne rfl ?_))
  refine aw_loop (fun m R' H' => ∃ o bs f v, H o = none ∧ H' = H.set o (.byt bs) ∧ R' = [(5, .vw o 1 0 bs.length), (1, .raw (.int .u64 ((v : Nat) : Int)))] ∧ m = v ∧ v < 2 ^ (7 * f + 1) ∧ f ≤ 9 ∧ bs ++ encU (f + 1) v = b ++ encU 10 u ∧ bs.length + f ≤ b.length + 9) ?_ ?_
  · rename_i oN hoN
    exact ⟨u, _, _, auto_ent, oN, b, 9, u, by assumption, rfl, rfl, rfl, hu9 u hu, by decide, rfl, by omega⟩
  · rintro m R0 H0 ⟨o, bs, f, v, ho, rfl, rfl, rfl, hv, hf, he, hl⟩
    repeat' (first | ((with_reducible apply idAWL); first | (with_reducible refine awl_nil ?_) | (with_reducible refine awl_ch ?_) | (with_reducible refine awl_ch0 ?_) | ((with_reducible apply ik_lit); refine awl_lit_conv rfl rfl rfl auto_bytes rfl auto_d ?_) | ((with_reducible apply ik_guard); first | ((first | refine zg1 rfl rfl rfl (fun hc => ?_) (fun hc => ?_) | refine zg2 rfl rfl rfl (fun hc => ?_) (fun hc => ?_)) <;> first | exact absurd hc auto_no | skip) | refine zg3 rfl rfl rfl ?_ | refine zg4 rfl rfl rfl ?_ | refine zg5 rfl rfl rfl ?_ | refine zg6 rfl rfl rfl (fun hc => ?_) (fun hc => ?_) | refine zg7 rfl rfl rfl (fun hc => ?_) (fun hc => ?_)) | ((with_reducible apply ik_callv); first | fail) | ((with_reducible apply ik_append); first | refine za1 rfl rfl rfl (by assumption) auto_rl auto_src auto_len auto_len (fun oN hoN => ?_) | refine za2 rfl rfl rfl (by assumption) auto_len auto_src auto_len auto_len (fun oN hoN => ?_) | refine za3 rfl rfl rfl auto_heap auto_rl auto_src auto_len auto_len (fun oN hoN => ?_) | refine za4 rfl rfl rfl auto_heap auto_al auto_src auto_len auto_len (fun oN hoN => ?_) | (apply awl_s rfl; · exact auto_app)) | ((with_reducible apply ik_eql); first | refine awl_bys_eqnil rfl rfl rfl (fun b hb => ?_)) | ((with_reducible apply ik_box); first | refine zb1 rfl rfl rfl (fun oN hoN => ?_) | refine zb2 rfl rfl rfl (fun oN hoN => ?_) | refine zb3 rfl rfl (fun oN hoN => ?_)) | ((with_reducible apply ik_alloc); first | refine awl_alloc rfl rfl rfl (fun oN hoN => ?_)) | ((with_reducible apply ik_make); first | refine awl_make_byt rfl rfl rfl auto_om auto_om auto_om (fun oN hoN => ?_)) | ((with_reducible apply ik_store); first | refine zs1 rfl rfl rfl rfl auto_d auto_d ?_ | refine zs2 rfl rfl auto_heap auto_d auto_d auto_d ?_ | refine zs3 rfl rfl rfl auto_lt auto_len ?_ | refine zs4 rfl rfl auto_heap auto_lt auto_len ?_ | refine zs5 rfl auto_mv rfl auto_r auto_k ?_ | refine zs6 rfl auto_mv auto_heap auto_r auto_k ?_) | (apply awl_s rfl; · exact auto_stp)) | ((with_reducible apply idAWT); first | (with_reducible refine awt_nil ?_) | ((with_reducible apply it_guard); first | ((first | refine zt1 rfl rfl rfl (fun hc => ?_) (fun hc => ?_) | refine zt2 rfl rfl rfl (fun hc => ?_) (fun hc => ?_)) <;> first | exact absurd hc auto_no | skip) | refine zt3 rfl rfl rfl ?_ | refine zt4 rfl rfl ?_ | refine zt5 rfl rfl ?_ | refine zt6 rfl rfl rfl (fun hc => ?_) (fun hc => ?_) | refine zt7 rfl rfl rfl (fun hc => ?_) (fun hc => ?_)) | ((with_reducible apply it_callv); first | (refine awt_last ?_) | fail) | (apply awt_s; · exact auto_stp) | (refine awt_last ?_)) | ((with_reducible apply idAWM); first | (refine awm_b ?_) | (refine awm_b0 ?_) | (refine awm_nil ?_) | (apply awm_e auto_dk; (· exact auto_stp)) | (apply awm_s; · (intro H1; exact auto_stp))) | ((with_reducible apply idAWB); first | (refine awb_cons (fun Rx K1 hK1x => ?_)) | (refine awb_cons0 (fun Rx K1 hK1x => ?_)) | (refine awb_nil ?_)) | (refine hK1x _ _ ?_; clear hK1x K1 Rx) | (refine hK1x _ ?_; clear hK1x K1 Rx) | ((with_reducible apply idAW); first | refine aw_seq ?_ | refine aw_region ?_ | refine aw_draw2 false auto_kr auto_dk auto_dk ?_ | refine aw_draw1 auto_kr auto_kr auto_kr ?_ | refine aw_draw0 auto_kr auto_kr ?_ | refine aw_skip ?_ | refine aw_ret ?_ | refine aw_exit ?_ | refine aw_block ?_ | ((refine aw_condp rfl (fun hc => ?_) (fun hc => ?_)) <;> first | exact absurd hc auto_no | skip) | refine aw_cond_t rfl ?_ | refine aw_cond_f rfl ?_ | (refine aw_cond rfl (fun hc => ?_) (fun hc => ?_))) | ((with_reducible apply idKS); first | refine k_seq_normal ?_ | refine k_seq_exit ?_ | refine k_seq_ret ?_) | ((with_reducible apply idKB); first | refine k_block_normal ?_ | refine k_block_ret ?_ | refine k_block_eq ?_ | refine k_block_ne rfl ?_))
    · rename_i oN hoN
      cases f with
      | zero => omega
      | succ f =>
        exact ⟨m / 128, _, _, by omega, auto_ent, oN, bs ++ [UInt8.ofNat (m % 256 ||| 128)], f, m / 128, by assumption, rfl, rfl, rfl, pow7 hv, by omega, by
          rw [← he, encU_ge (f := f + 1) (by omega), or128, List.append_assoc]; rfl, by simp only [List.length_append, List.length_cons, List.length_nil]; omega⟩
    · rename_i oN hoN
      have hx : b ++ encU 10 u = bs ++ [UInt8.ofNat m] := by rw [← he, encU_lt (by omega)]
      exact ⟨.inl rfl, _, _, _, Ent.refl _ _, ret1 rfl rfl, oN, by assumption, by rw [hx]; simp [rget], by rw [hx]⟩

theorem U_calls (H : AHeap) (b : List UInt8) (u : Nat) (hb : b.length ≤ 4000000000) (hu : u < 18446744073709551616) :
    ACalls Try.prog 41 [.bys b, .raw (.int .u64 (u : Int))] H fun r H' => r = .bys (b ++ encU 10 u) ∧ H' = H := (U_own H b u hb hu).seal

theorem encU_len : ∀ f u, (encU f u).length ≤ f + 1
  | 0, u => by simp [encU]
  | f + 1, u => by
    have := encU_len f (u / 128)
    simp only [encU]
    split <;> simp <;> omega
end Go.Proofs.Ytkhjnopmkihmiaa
