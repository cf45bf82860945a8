import Derived.Test.YtninbaljejeneaaRows
import Derived.WalkKit
import Derived.ProofKit
import Derived.OpenShut
import Derived.JoinedCond
import Derived.Test.YtninbaljejeneaaAmRow
import Derived.Test.YtninbaljejeneaaSm6
import Derived.Test.YtninbaljejeneaaSm7
namespace Go.Proofs.Ytninbaljejeneaa.sumFrames
open Go Go.Am Go.ChangeShapes Go.WideShapes Go.ChangeAt Go.RowKit
set_option linter.unusedVariables false
set_option linter.unusedSimpArgs false
set_option maxRecDepth 20000
abbrev ty : Ty := (.pair (.int .u64) (.pair .bys (.pair .bys .unit)))

set_option maxHeartbeats 4000000

theorem walk (H : AHeap) (n : Nat) (b t : List UInt8) (hn : n < 2 ^ 64) (hb : b.length ≤ 2000000000) (ht : t.length ≤ 2000000000) :
    ACalls Try.prog 4 [.raw (.int .u64 (n : Int)), .bys b, .bys t] H fun r _ => r = .raw (.bool true) := by
  have l1 := frame_len n b
  refine acalls_of_aw3 Try.func4 rfl (by decide) ?_
  repeat' (first | ((with_reducible apply idAWL); first | (with_reducible refine awl_nil ?_) | ((with_reducible apply ik_lit); refine awl_lit_conv rfl rfl rfl auto_bytes rfl (by decide) ?_) | ((with_reducible apply ik_guard); first | ((refine awl_guard_pt rfl rfl rfl (fun hc => ?_) (fun hc => ?_)) <;> first | (exfalso; omega) | (with_reducible exact absurd rfl hc) | (exfalso; revert hc; decide +kernel) | skip) | ((refine awl_guard_pf rfl rfl rfl (fun hc => ?_) (fun hc => ?_)) <;> first | (exfalso; omega) | (with_reducible exact absurd rfl hc) | (exfalso; revert hc; decide +kernel) | skip) | refine awl_guard_t rfl rfl rfl ?_ | refine awl_guard_f rfl rfl rfl ?_ | refine awl_guard_undef rfl rfl rfl ?_ | (refine awl_guard_bt rfl rfl rfl (fun hc => ?_) (fun hc => ?_)) | (refine awl_guard_bf rfl rfl rfl (fun hc => ?_) (fun hc => ?_))) | ((with_reducible apply ik_callv); first | (refine awl_callc rfl auto_wl (awake_calls _) (fun r H' hpost => ?_); obtain ⟨rfl, rfl⟩ := hpost) | (refine awl_callc rfl auto_wl (Frame_ok _ _ _ auto_sd (by omega)) (fun r H' hpost => ?_); obtain ⟨rfl, rfl⟩ := hpost) | (refine awl_callc rfl auto_wl (RefFrame_ok _ _ _ auto_sd (by omega)) (fun r H' hpost => ?_); obtain ⟨rfl, rfl⟩ := hpost) | (refine awl_callc rfl auto_wl (Crc_calls _ _ auto_sd) (fun r H' hpost => ?_); obtain ⟨rfl, rfl⟩ := hpost) | (refine awl_callc rfl auto_wl (RefCrc_calls _ _ auto_sd) (fun r H' hpost => ?_); obtain ⟨rfl, rfl⟩ := hpost) | (refine awl_callc rfl auto_wl (Take_calls _ _ auto_sd) (fun r H' hpost => ?_); obtain ⟨rfl, rfl⟩ := hpost) | (refine awl_callc rfl auto_wl (RefTake_calls _ _ auto_sd) (fun r H' hpost => ?_); obtain ⟨rfl, rfl⟩ := hpost) | (refine awl_seal_arg 0 rfl rfl rfl auto_len (by assumption) ?_) | (refine awl_seal_arg 1 rfl rfl rfl auto_len (by assumption) ?_) | (refine awl_seal_arg 2 rfl rfl rfl auto_len (by assumption) ?_) | fail) | ((with_reducible apply ik_append); first | refine awl_own_bysx_byt rfl rfl rfl auto_src auto_len auto_len auto_len (fun oN hoN => ?_) | refine awl_own_emp_byt rfl rfl rfl auto_src auto_len auto_len (fun oN hoN => ?_) | refine awl_own_emp_cel rfl rfl rfl auto_src auto_len auto_len (fun oN hoN => ?_) | refine awl_own_nil_byt rfl rfl rfl auto_src auto_len auto_len (fun oN hoN => ?_) | refine awl_own_nil_cel rfl rfl rfl auto_src auto_len auto_len (fun oN hoN => ?_) | refine awl_app_byt1 rfl rfl rfl (by assumption) (by first | rfl | exact auto_len) auto_src auto_len auto_len (fun oN hoN => ?_) | refine awl_app_cel1 rfl rfl rfl (by assumption) auto_len auto_src auto_len auto_len (fun oN hoN => ?_) | refine awl_app_byt rfl rfl rfl auto_heap (by first | rfl | exact auto_len) auto_src auto_len auto_len (fun oN hoN => ?_) | refine awl_app_cel rfl rfl rfl auto_heap (by first | rfl | (simp; done) | (simp; omega)) auto_src auto_len auto_len (fun oN hoN => ?_) | (apply awl_s rfl; · first | exact s_app_emp_byt rfl rfl auto_src auto_len auto_len | exact s_app_bysx_byt rfl rfl auto_src auto_len auto_len | exact s_app_nil_byt rfl rfl auto_src auto_len auto_len)) | ((with_reducible apply ik_box); first | refine awl_box_agg rfl rfl rfl (fun oN hoN => ?_) | refine awl_box_raw rfl rfl rfl (fun oN hoN => ?_) | refine awl_box_bys rfl rfl (fun oN hoN => ?_)) | ((with_reducible apply ik_alloc); first | refine awl_alloc rfl rfl rfl (fun oN hoN => ?_)) | ((with_reducible apply ik_make); first | refine awl_make_byt rfl rfl rfl (by omega) (by omega) (by omega) (fun oN hoN => ?_)) | ((with_reducible apply ik_store); first | refine awl_storeb rfl rfl auto_heap auto_lt auto_len ?_ | refine awl_store1 rfl rfl auto_heap rfl (by first | decide | (simp; done) | (simp; omega)) ?_) | (apply awl_s rfl; · exact auto_stp)) | ((with_reducible apply idAWT); first | (with_reducible refine awt_nil ?_) | ((with_reducible apply it_guard); first | ((refine awt_guard_pt rfl rfl rfl (fun hc => ?_) (fun hc => ?_)) <;> first | (exfalso; omega) | (with_reducible exact absurd rfl hc) | (exfalso; revert hc; decide +kernel) | skip) | ((refine awt_guard_pf rfl rfl rfl (fun hc => ?_) (fun hc => ?_)) <;> first | (exfalso; omega) | (with_reducible exact absurd rfl hc) | (exfalso; revert hc; decide +kernel) | skip) | refine awt_guard_t rfl rfl rfl ?_ | refine awt_guard_f rfl rfl ?_ | refine awt_guard_undef rfl rfl ?_ | (refine awt_guard_bt rfl rfl rfl (fun hc => ?_) (fun hc => ?_)) | (refine awt_guard_bf rfl rfl rfl (fun hc => ?_) (fun hc => ?_))) | ((with_reducible apply it_callv); first | (apply awt_s; · exact s_callc auto_wl (awake_calls _)) | (apply awt_s; · exact s_callc auto_wl (Frame_ok _ _ _ auto_sd (by omega))) | (apply awt_s; · exact s_callc auto_wl (RefFrame_ok _ _ _ auto_sd (by omega))) | (apply awt_s; · exact s_callc auto_wl (Crc_calls _ _ auto_sd)) | (apply awt_s; · exact s_callc auto_wl (RefCrc_calls _ _ auto_sd)) | (apply awt_s; · exact s_callc auto_wl (Take_calls _ _ auto_sd)) | (apply awt_s; · exact s_callc auto_wl (RefTake_calls _ _ auto_sd)) | (refine awt_last ?_) | fail) | (apply awt_s; · exact auto_stp) | (refine awt_last ?_)) | ((with_reducible apply idAWM); first | (refine awm_b ?_) | (refine awm_b0 ?_) | (refine awm_nil ?_) | (apply awm_s; · (intro H1; exact auto_stp)) | (apply awm_s; · (intro H1; exact s_callc auto_wl (awake_calls _))) | (apply awm_s; · (intro H1; exact s_callc auto_wl (Frame_ok _ _ _ auto_sd (by omega)))) | (apply awm_s; · (intro H1; exact s_callc auto_wl (RefFrame_ok _ _ _ auto_sd (by omega)))) | (apply awm_s; · (intro H1; exact s_callc auto_wl (Crc_calls _ _ auto_sd))) | (apply awm_s; · (intro H1; exact s_callc auto_wl (RefCrc_calls _ _ auto_sd))) | (apply awm_s; · (intro H1; exact s_callc auto_wl (Take_calls _ _ auto_sd))) | (apply awm_s; · (intro H1; exact s_callc auto_wl (RefTake_calls _ _ auto_sd)))) | ((with_reducible apply idAWB); first | (refine awb_cons (fun Rx K1 hK1x => ?_)) | (refine awb_cons0 (fun Rx K1 hK1x => ?_)) | (refine awb_nil ?_)) | (refine hK1x _ _ ?_; clear hK1x K1 Rx) | (refine hK1x _ ?_; clear hK1x K1 Rx) | ((with_reducible apply idAW); first | refine aw_seq ?_ | refine aw_region ?_ | refine aw_draw2 (by kernel_rfl) (by decide +kernel) (by decide +kernel) ?_ | refine aw_draw1 (by kernel_rfl) (by kernel_rfl) (by kernel_rfl) ?_ | refine aw_draw0 (by kernel_rfl) (by kernel_rfl) ?_ | refine aw_skip ?_ | refine aw_ret ?_ | refine aw_exit ?_ | refine aw_block ?_ | ((refine aw_condp rfl (fun hc => ?_) (fun hc => ?_)) <;> first | (exfalso; omega) | (with_reducible exact absurd rfl hc) | (exfalso; revert hc; decide +kernel) | skip) | refine aw_cond_t rfl ?_ | refine aw_cond_f rfl ?_ | (refine aw_cond rfl (fun hc => ?_) (fun hc => ?_))) | ((with_reducible apply idKS); first | refine k_seq_normal ?_ | refine k_seq_exit ?_ | refine k_seq_ret ?_) | ((with_reducible apply idKB); first | refine k_block_normal ?_ | refine k_block_ret ?_ | refine k_block_eq ?_ | refine k_block_ne rfl ?_))
  all_goals try exact ⟨.inl rfl, _, _, _, Ent.refl _ _, ret1 rfl rfl, rfl⟩
  all_goals
    have h1 := take_frame n b t hn (by omega)
    first
    | exact kret_true (.inl rfl) rfl rfl (decide_eq_true rfl)
    | exact absurd (by rw [h1, l1]) hc
    | exact absurd (by rw [h1]) hc

theorem hc : ∀ y : ty.V, ty.ok y → ty.bulk y ≤ 1048576 → ACalls Try.prog 4 (ty.args y) AHeap.empty fun r _ => r = .raw (.bool true) := by
  rintro ⟨n, b, t, ⟨⟩⟩ ⟨h1, _, _, _⟩ hb
  have b1 := bounds_u64 (n := n) h1
  obtain ⟨n, rfl⟩ := Int.eq_ofNat_of_zero_le b1.1
  have hl : b.length ≤ 1048576 ∧ t.length ≤ 1048576 := by simp only [Ty.bulk] at hb; omega
  exact walk _ n b t (by omega) (by omega) (by omega)

theorem own : ownKnob Try.prog.godebug = none := by kernel_rfl
def bulks (H : Type) : Bulk H := ⟨Rows.uptoBulk, Rows.uptoBulkAll, fun l => by cases l <;> simp [Rows.uptoBulk], fun bs => by simp [Rows.uptoBulk], by simp [Rows.uptoBulk], fun e s => by simp [Rows.uptoBulk], fun p => by simp [Rows.uptoBulk], by simp [Rows.uptoBulkAll], fun d l => by simp [Rows.uptoBulkAll]⟩

set_option maxRecDepth 100000 in
theorem lifted (os : Os) (started : os.Started) (H : Type) (enc : TypeId × Value → H) (F : Stop.Interp) :
    ReturnsInHanded {} Try.checked os 4 .any ((Rows.OpenSpec.upto Rows.sumFramesSpec).pre6 enc Try.prog Try.f4 Rows.sumFramesUptoRow.domain false) (((Rows.OpenSpec.upto Rows.sumFramesSpec).at F).post enc Try.prog Try.f4 false true false false) := by
  refine returnsInHanded_of_cond (C := Try.checked) (s := Rows.OpenSpec.upto Rows.sumFramesSpec) (k := Rows.uptoSmall) rfl own started (by kernel_rfl) Try.func4
    (OpenSpec.witness (enc := enc) (C := Try.checked) (s := Rows.OpenSpec.upto Rows.sumFramesSpec) (k := Rows.uptoSmall) rfl false ⟨#[], #[.int .u64 0, .slice none 0 0, .slice none 0 0], []⟩ 8 (by kernel_rfl) (by kernel_rfl) (by kernel_rfl)
      (x := ([.lit (.int .u64 0), .nil, .nil], [], [])) (by kernel_rfl) rfl (by kernel_rfl)) ?_
  intro W base args ds gs before hval hW _ hk _
  exact law_contract (bulks H) (ty := ty) (tb := 4) (bound := 1048576) (by kernel_rfl) (by decide +kernel) rfl (fun ds h => by rw [Try.params4] at h; match ds, h with | [d0, d1, d2], _ => rfl) (by kernel_rfl) Try.underlying4 (by kernel_rfl) (slices_full_of Try.prog (by kernel_rfl)) (by kernel_rfl) hc
    W base args ds gs before hval hW (of_decide_eq_true hk)

theorem over : Rows.sumFramesUptoRow.holds Try.pinned (Rows.OpenSpec.upto Rows.sumFramesSpec) :=
  OpenClaim.holds_of_cond 4 Try.f4 rfl rfl rfl rfl rfl rfl rfl ⟨rfl, rfl, rfl, rfl, rfl⟩ rfl rfl rfl rfl rfl (by kernel_rfl) Try.func4 (by kernel_rfl)
    (of_decide_eq_true (by kernel_rfl)) (by unfold Func.isWrapper; first | (rw [if_pos (by decide +kernel)]; kernel_rfl) | (rw [if_neg (by decide +kernel)]; exact ⟨rfl, rfl⟩))
    (fun os started H enc _ F => lifted os started H enc F)

theorem proved : Rows.SumFramesUptoSaid := over
#print axioms proved
end Go.Proofs.Ytninbaljejeneaa.sumFrames

