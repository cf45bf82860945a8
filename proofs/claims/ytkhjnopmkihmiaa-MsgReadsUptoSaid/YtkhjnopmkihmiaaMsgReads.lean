import Derived.Test.YtkhjnopmkihmiaaRows
import Derived.WalkKit
import Derived.ProofKit
import Derived.OpenShut
import Derived.JoinedCond
import Derived.Test.YtkhjnopmkihmiaaAmRow
import Derived.Test.YtkhjnopmkihmiaaMg10
import Derived.Test.YtkhjnopmkihmiaaMg12
namespace Go.Proofs.Ytkhjnopmkihmiaa.msgReads
open Go Go.Am Go.ChangeShapes Go.WideShapes Go.ChangeAt Go.RowKit
set_option linter.unusedVariables false
set_option linter.unusedSimpArgs false
set_option maxRecDepth 20000
abbrev ty : Ty := (.pair .bys (.pair .bool .unit))

set_option maxHeartbeats 4000000

theorem walk (H : AHeap) (b : List UInt8) (fr : Bool) (hb : b.length ≤ 2000000) :
    ACalls Try.prog 5 [.bys b, .raw (.bool fr)] H fun r _ => r = .raw (.bool true) := by
  have hF := fun H h => RefFrame_ok H 0 b (by decide) h
  have hfl := frame_len 0 b
  have hG : ∀ c H (h : c.length ≤ 100000000), ACalls Try.prog 9 [.bys c] H fun r H' => r = outM (getM c) ∧ H' = H := fun c H h => Get_calls H c h
  have hR : ∀ c H (h : c.length ≤ 100000000), ACalls Try.prog 18 [.bys c] H fun r H' => r = outMR (getM c) ∧ H' = H := fun c H h => RGet_calls H c h
  have key : ∀ c : List UInt8, ∃ (m : Mg) (e : Int) (g : Bool), (∀ H (h : c.length ≤ 100000000), ACalls Try.prog 9 [.bys c] H fun r H' => r = .tup [.agg m.cells, .raw (.int .i64 e)] ∧ H' = H) ∧ (∀ H (h : c.length ≤ 100000000), ACalls Try.prog 18 [.bys c] H fun r H' => r = .tup [.agg m.cells, .raw (.bool g)] ∧ H' = H) ∧
      (e = 0 ∧ g = true ∨ e = 3 ∧ g = false) ∧ ∀ H, ACalls Try.prog 16 [.agg m.cells, .agg m.cells] H fun r H' => r = .raw (.bool true) ∧ H' = H := by
    intro c
    have h1 := hG c
    have h2 := hR c
    cases hm : getM c with
    | none =>
      rw [hm] at h1 h2
      exact ⟨Mg0, 3, false, h1, h2, .inr ⟨rfl, rfl⟩, fun H => Same_calls H Mg0 (by decide) (fun e he => by cases he)⟩
    | some m =>
      rw [hm] at h1 h2
      have hgd : m.good := by
        unfold getM getT at hm
        split at hm
        · cases hm
        split at hm
        · cases hm
        split at hm
        · cases hm
        rename_i hx
        cases hm
        exact Decidable.not_not.1 fun hh => hx (.inr (.inr hh))
      exact ⟨m, 0, true, h1, h2, .inl ⟨rfl, rfl⟩, fun H => Same_calls H m (by have := hgd.1.2.2.2.1; omega) (fun e he => by have := plain_rows hgd.1 e he; omega)⟩
  clear hG hR
  refine acalls_of_aw2 Try.func5 rfl (by decide) ?_
  cases fr with
  | false =>
    obtain ⟨m, e, g, h1, h2, h3, h4⟩ := key b
    clear key
    repeat' (first | ((with_reducible apply idAWL); first | (with_reducible refine awl_nil ?_) | (with_reducible refine awl_ch ?_) | (with_reducible refine awl_ch0 ?_) | ((with_reducible apply ik_lit); refine awl_lit_conv rfl rfl rfl auto_bytes rfl auto_d ?_) | ((with_reducible apply ik_guard); first | ((first | refine zg1 rfl rfl rfl (fun hc => ?_) (fun hc => ?_) | refine zg2 rfl rfl rfl (fun hc => ?_) (fun hc => ?_)) <;> first | exact absurd hc auto_no | skip) | refine zg3 rfl rfl rfl ?_ | refine zg4 rfl rfl rfl ?_ | refine zg5 rfl rfl rfl ?_ | refine zg6 rfl rfl rfl (fun hc => ?_) (fun hc => ?_) | refine zg7 rfl rfl rfl (fun hc => ?_) (fun hc => ?_)) | ((with_reducible apply ik_callv); first | (refine awl_callc rfl auto_wl (awake_calls _) (fun r H' hpost => ?_); obtain ⟨rfl, rfl⟩ := hpost) | (refine awl_callc rfl auto_wl (h1 _ (by omega)) (fun r H' hpost => ?_); obtain ⟨rfl, rfl⟩ := hpost) | (refine awl_callc rfl auto_wl (h2 _ (by omega)) (fun r H' hpost => ?_); obtain ⟨rfl, rfl⟩ := hpost) | (refine awl_callc rfl auto_wl (h4 _) (fun r H' hpost => ?_); obtain ⟨rfl, rfl⟩ := hpost) | (refine awl_seal_arg 0 rfl rfl rfl auto_len (by assumption) ?_) | (refine awl_seal_arg 1 rfl rfl rfl auto_len (by assumption) ?_) | (refine awl_seal_arg 2 rfl rfl rfl auto_len (by assumption) ?_) | fail) | ((with_reducible apply ik_append); first | refine za1 rfl rfl rfl (by assumption) auto_rl auto_src auto_len auto_len (fun oN hoN => ?_) | refine za2 rfl rfl rfl (by assumption) auto_len auto_src auto_len auto_len (fun oN hoN => ?_) | refine za3 rfl rfl rfl auto_heap auto_rl auto_src auto_len auto_len (fun oN hoN => ?_) | refine za4 rfl rfl rfl auto_heap auto_al auto_src auto_len auto_len (fun oN hoN => ?_) | (apply awl_s rfl; · exact auto_app)) | ((with_reducible apply ik_eql); first | refine awl_bys_eqnil rfl rfl rfl (fun b hb => ?_)) | ((with_reducible apply ik_box); first | refine zb4 rfl rfl rfl ?_ | refine zb1 rfl rfl rfl (fun oN hoN => ?_) | refine zb2 rfl rfl rfl (fun oN hoN => ?_) | refine zb3 rfl rfl (fun oN hoN => ?_)) | ((with_reducible apply ik_alloc); first | refine awl_alloc rfl rfl rfl (fun oN hoN => ?_)) | ((with_reducible apply ik_make); first | refine awl_make_byt rfl rfl rfl auto_om auto_om auto_om (fun oN hoN => ?_) | refine awl_make_cel rfl rfl rfl auto_om rfl rfl auto_om auto_om (fun oN hoN => ?_)) | ((with_reducible apply ik_store); first | refine zs7 rfl rfl rfl (by assumption) rfl rfl rfl ?_ | refine zs1 rfl rfl rfl rfl auto_d auto_d ?_ | refine zs2 rfl rfl auto_heap auto_d auto_d auto_d ?_ | refine zs3 rfl rfl rfl auto_lt auto_len ?_ | refine zs4 rfl rfl auto_heap auto_lt auto_len ?_ | refine zs5 rfl auto_mv rfl auto_r auto_k ?_ | refine zs6 rfl auto_mv auto_heap auto_r auto_k ?_) | (apply awl_s rfl; · exact auto_stp)) | ((with_reducible apply idAWT); first | (with_reducible refine awt_nil ?_) | ((with_reducible apply it_guard); first | ((first | refine zt1 rfl rfl rfl (fun hc => ?_) (fun hc => ?_) | refine zt2 rfl rfl rfl (fun hc => ?_) (fun hc => ?_)) <;> first | exact absurd hc auto_no | skip) | refine zt3 rfl rfl rfl ?_ | refine zt4 rfl rfl ?_ | refine zt5 rfl rfl ?_ | refine zt6 rfl rfl rfl (fun hc => ?_) (fun hc => ?_) | refine zt7 rfl rfl rfl (fun hc => ?_) (fun hc => ?_)) | ((with_reducible apply it_callv); first | (apply awt_s; · exact s_callc auto_wl (awake_calls _)) | (apply awt_s; · exact s_callc auto_wl (h1 _ (by omega))) | (apply awt_s; · exact s_callc auto_wl (h2 _ (by omega))) | (apply awt_s; · exact s_callc auto_wl (h4 _)) | (refine awt_last ?_) | fail) | (apply awt_s; · exact auto_stp) | (refine awt_last ?_)) | ((with_reducible apply idAWM); first | (refine awm_b ?_) | (refine awm_b0 ?_) | (refine awm_nil ?_) | (apply awm_e auto_dk; (· exact auto_stp)) | (apply awm_s; · (intro H1; exact auto_stp)) | (apply awm_s; · (intro H1; exact s_callc auto_wl (awake_calls _))) | (apply awm_e auto_dk; (· exact s_callc auto_wl (awake_calls _))) | (apply awm_s; · (intro H1; exact s_callc auto_wl (h1 _ (by omega)))) | (apply awm_e auto_dk; (· exact s_callc auto_wl (h1 _ (by omega)))) | (apply awm_s; · (intro H1; exact s_callc auto_wl (h2 _ (by omega)))) | (apply awm_e auto_dk; (· exact s_callc auto_wl (h2 _ (by omega)))) | (apply awm_s; · (intro H1; exact s_callc auto_wl (h4 _))) | (apply awm_e auto_dk; (· exact s_callc auto_wl (h4 _)))) | ((with_reducible apply idAWB); first | (refine awb_cons (fun Rx K1 hK1x => ?_)) | (refine awb_cons0 (fun Rx K1 hK1x => ?_)) | (refine awb_nil ?_)) | (refine hK1x _ _ ?_; clear hK1x K1 Rx) | (refine hK1x _ ?_; clear hK1x K1 Rx) | ((with_reducible apply idAW); first | refine aw_seq ?_ | refine aw_region ?_ | refine aw_draw2 false auto_kr auto_dk auto_dk ?_ | refine aw_draw1 auto_kr auto_kr auto_kr ?_ | refine aw_draw0 auto_kr auto_kr ?_ | refine aw_skip ?_ | refine aw_ret ?_ | refine aw_exit ?_ | refine aw_block ?_ | ((refine aw_condp rfl (fun hc => ?_) (fun hc => ?_)) <;> first | exact absurd hc auto_no | skip) | refine aw_cond_t rfl ?_ | refine aw_cond_f rfl ?_ | (refine aw_cond rfl (fun hc => ?_) (fun hc => ?_))) | ((with_reducible apply idKS); first | refine k_seq_normal ?_ | refine k_seq_exit ?_ | refine k_seq_ret ?_) | ((with_reducible apply idKB); first | refine k_block_normal ?_ | refine k_block_ret ?_ | refine k_block_eq ?_ | refine k_block_ne rfl ?_))
    all_goals first
      | (exfalso; omega)
      | exact kret_true (.inl rfl) rfl rfl rfl
      | (exfalso; clear h1 h2 h4 hF hoN; rcases h3 with ⟨rfl, rfl⟩ | ⟨rfl, rfl⟩ <;> first | (exact absurd rfl hc; done) | (exact absurd (by decide) hc; done) | contradiction | (simp only [*] at *; done))
      | trace_state
  | true =>
    obtain ⟨m, e, g, h1, h2, h3, h4⟩ := key (frame 0 b)
    clear key
    repeat' (first | ((with_reducible apply idAWL); first | (with_reducible refine awl_nil ?_) | (with_reducible refine awl_ch ?_) | (with_reducible refine awl_ch0 ?_) | ((with_reducible apply ik_lit); refine awl_lit_conv rfl rfl rfl auto_bytes rfl auto_d ?_) | ((with_reducible apply ik_guard); first | ((first | refine zg1 rfl rfl rfl (fun hc => ?_) (fun hc => ?_) | refine zg2 rfl rfl rfl (fun hc => ?_) (fun hc => ?_)) <;> first | exact absurd hc auto_no | skip) | refine zg3 rfl rfl rfl ?_ | refine zg4 rfl rfl rfl ?_ | refine zg5 rfl rfl rfl ?_ | refine zg6 rfl rfl rfl (fun hc => ?_) (fun hc => ?_) | refine zg7 rfl rfl rfl (fun hc => ?_) (fun hc => ?_)) | ((with_reducible apply ik_callv); first | (refine awl_callc rfl auto_wl (awake_calls _) (fun r H' hpost => ?_); obtain ⟨rfl, rfl⟩ := hpost) | (refine awl_callc rfl auto_wl (hF _ (by omega)) (fun r H' hpost => ?_); obtain ⟨rfl, rfl⟩ := hpost) | (refine awl_callc rfl auto_wl (h1 _ (by omega)) (fun r H' hpost => ?_); obtain ⟨rfl, rfl⟩ := hpost) | (refine awl_callc rfl auto_wl (h2 _ (by omega)) (fun r H' hpost => ?_); obtain ⟨rfl, rfl⟩ := hpost) | (refine awl_callc rfl auto_wl (h4 _) (fun r H' hpost => ?_); obtain ⟨rfl, rfl⟩ := hpost) | (refine awl_seal_arg 0 rfl rfl rfl auto_len (by assumption) ?_) | (refine awl_seal_arg 1 rfl rfl rfl auto_len (by assumption) ?_) | (refine awl_seal_arg 2 rfl rfl rfl auto_len (by assumption) ?_) | fail) | ((with_reducible apply ik_append); first | refine za1 rfl rfl rfl (by assumption) auto_rl auto_src auto_len auto_len (fun oN hoN => ?_) | refine za2 rfl rfl rfl (by assumption) auto_len auto_src auto_len auto_len (fun oN hoN => ?_) | refine za3 rfl rfl rfl auto_heap auto_rl auto_src auto_len auto_len (fun oN hoN => ?_) | refine za4 rfl rfl rfl auto_heap auto_al auto_src auto_len auto_len (fun oN hoN => ?_) | (apply awl_s rfl; · exact auto_app)) | ((with_reducible apply ik_eql); first | refine awl_bys_eqnil rfl rfl rfl (fun b hb => ?_)) | ((with_reducible apply ik_box); first | refine zb4 rfl rfl rfl ?_ | refine zb1 rfl rfl rfl (fun oN hoN => ?_) | refine zb2 rfl rfl rfl (fun oN hoN => ?_) | refine zb3 rfl rfl (fun oN hoN => ?_)) | ((with_reducible apply ik_alloc); first | refine awl_alloc rfl rfl rfl (fun oN hoN => ?_)) | ((with_reducible apply ik_make); first | refine awl_make_byt rfl rfl rfl auto_om auto_om auto_om (fun oN hoN => ?_) | refine awl_make_cel rfl rfl rfl auto_om rfl rfl auto_om auto_om (fun oN hoN => ?_)) | ((with_reducible apply ik_store); first | refine zs7 rfl rfl rfl (by assumption) rfl rfl rfl ?_ | refine zs1 rfl rfl rfl rfl auto_d auto_d ?_ | refine zs2 rfl rfl auto_heap auto_d auto_d auto_d ?_ | refine zs3 rfl rfl rfl auto_lt auto_len ?_ | refine zs4 rfl rfl auto_heap auto_lt auto_len ?_ | refine zs5 rfl auto_mv rfl auto_r auto_k ?_ | refine zs6 rfl auto_mv auto_heap auto_r auto_k ?_) | (apply awl_s rfl; · exact auto_stp)) | ((with_reducible apply idAWT); first | (with_reducible refine awt_nil ?_) | ((with_reducible apply it_guard); first | ((first | refine zt1 rfl rfl rfl (fun hc => ?_) (fun hc => ?_) | refine zt2 rfl rfl rfl (fun hc => ?_) (fun hc => ?_)) <;> first | exact absurd hc auto_no | skip) | refine zt3 rfl rfl rfl ?_ | refine zt4 rfl rfl ?_ | refine zt5 rfl rfl ?_ | refine zt6 rfl rfl rfl (fun hc => ?_) (fun hc => ?_) | refine zt7 rfl rfl rfl (fun hc => ?_) (fun hc => ?_)) | ((with_reducible apply it_callv); first | (apply awt_s; · exact s_callc auto_wl (awake_calls _)) | (apply awt_s; · exact s_callc auto_wl (hF _ (by omega))) | (apply awt_s; · exact s_callc auto_wl (h1 _ (by omega))) | (apply awt_s; · exact s_callc auto_wl (h2 _ (by omega))) | (apply awt_s; · exact s_callc auto_wl (h4 _)) | (refine awt_last ?_) | fail) | (apply awt_s; · exact auto_stp) | (refine awt_last ?_)) | ((with_reducible apply idAWM); first | (refine awm_b ?_) | (refine awm_b0 ?_) | (refine awm_nil ?_) | (apply awm_e auto_dk; (· exact auto_stp)) | (apply awm_s; · (intro H1; exact auto_stp)) | (apply awm_s; · (intro H1; exact s_callc auto_wl (awake_calls _))) | (apply awm_e auto_dk; (· exact s_callc auto_wl (awake_calls _))) | (apply awm_s; · (intro H1; exact s_callc auto_wl (hF _ (by omega)))) | (apply awm_e auto_dk; (· exact s_callc auto_wl (hF _ (by omega)))) | (apply awm_s; · (intro H1; exact s_callc auto_wl (h1 _ (by omega)))) | (apply awm_e auto_dk; (· exact s_callc auto_wl (h1 _ (by omega)))) | (apply awm_s; · (intro H1; exact s_callc auto_wl (h2 _ (by omega)))) | (apply awm_e auto_dk; (· exact s_callc auto_wl (h2 _ (by omega)))) | (apply awm_s; · (intro H1; exact s_callc auto_wl (h4 _))) | (apply awm_e auto_dk; (· exact s_callc auto_wl (h4 _)))) | ((with_reducible apply idAWB); first | (refine awb_cons (fun Rx K1 hK1x => ?_)) | (refine awb_cons0 (fun Rx K1 hK1x => ?_)) | (refine awb_nil ?_)) | (refine hK1x _ _ ?_; clear hK1x K1 Rx) | (refine hK1x _ ?_; clear hK1x K1 Rx) | ((with_reducible apply idAW); first | refine aw_seq ?_ | refine aw_region ?_ | refine aw_draw2 false auto_kr auto_dk auto_dk ?_ | refine aw_draw1 auto_kr auto_kr auto_kr ?_ | refine aw_draw0 auto_kr auto_kr ?_ | refine aw_skip ?_ | refine aw_ret ?_ | refine aw_exit ?_ | refine aw_block ?_ | ((refine aw_condp rfl (fun hc => ?_) (fun hc => ?_)) <;> first | exact absurd hc auto_no | skip) | refine aw_cond_t rfl ?_ | refine aw_cond_f rfl ?_ | (refine aw_cond rfl (fun hc => ?_) (fun hc => ?_))) | ((with_reducible apply idKS); first | refine k_seq_normal ?_ | refine k_seq_exit ?_ | refine k_seq_ret ?_) | ((with_reducible apply idKB); first | refine k_block_normal ?_ | refine k_block_ret ?_ | refine k_block_eq ?_ | refine k_block_ne rfl ?_))
    all_goals first
      | (exfalso; omega)
      | exact kret_true (.inl rfl) rfl rfl rfl
      | (exfalso; clear h1 h2 h4 hF hoN; rcases h3 with ⟨rfl, rfl⟩ | ⟨rfl, rfl⟩ <;> first | (exact absurd rfl hc; done) | (exact absurd (by decide) hc; done) | contradiction | (simp only [*] at *; done))
      | trace_state
theorem hc : ∀ y : ty.V, ty.ok y → ty.bulk y ≤ 1048576 → ACalls Try.prog 5 (ty.args y) AHeap.empty fun r _ => r = .raw (.bool true) := by
  rintro ⟨(b : List UInt8), fr, ⟨⟩⟩ ⟨h1, _⟩ hb
  have hb : b.length + 1 + (1 + 0) ≤ 1048576 := hb
  exact walk AHeap.empty b fr (by omega)

theorem own : ownKnob Try.prog.godebug = none := by kernel_rfl
def bulks (H : Type) : Bulk H := ⟨Rows.uptoBulk, Rows.uptoBulkAll, fun l => by cases l <;> simp [Rows.uptoBulk], fun bs => by simp [Rows.uptoBulk], by simp [Rows.uptoBulk], fun e s => by simp [Rows.uptoBulk], fun p => by simp [Rows.uptoBulk], by simp [Rows.uptoBulkAll], fun d l => by simp [Rows.uptoBulkAll]⟩

set_option maxRecDepth 100000 in
theorem lifted (os : Os) (started : os.Started) (H : Type) (enc : TypeId × Value → H) (F : Stop.Interp) :
    ReturnsInHanded {} Try.checked os 5 .any ((Rows.OpenSpec.upto Rows.msgReadsSpec).pre6 enc Try.prog Try.f5 Rows.msgReadsUptoRow.domain false) (((Rows.OpenSpec.upto Rows.msgReadsSpec).at F).post enc Try.prog Try.f5 false true false false) := by
  refine returnsInHanded_of_cond (C := Try.checked) (s := Rows.OpenSpec.upto Rows.msgReadsSpec) (k := Rows.uptoSmall) rfl own started (by kernel_rfl) Try.func5
    (OpenSpec.witness (enc := enc) (C := Try.checked) (s := Rows.OpenSpec.upto Rows.msgReadsSpec) (k := Rows.uptoSmall) rfl false ⟨#[], #[.slice none 0 0, .bool false], []⟩ 8 (by kernel_rfl) (by kernel_rfl) (by kernel_rfl)
      (x := ([.nil, .lit (.bool false)], [], [])) (by kernel_rfl) rfl (by kernel_rfl)) ?_
  intro W base args ds gs before hval hW _ hk _
  exact law_contract (bulks H) (ty := ty) (tb := 4) (bound := 1048576) (by kernel_rfl) (by decide +kernel) rfl (fun ds h => by rw [Try.params5] at h; match ds, h with | [d0, d1], _ => rfl) (by kernel_rfl) Try.underlying4 (by kernel_rfl) (slices_full_of Try.prog (by kernel_rfl)) (by kernel_rfl) hc
    W base args ds gs before hval hW (of_decide_eq_true hk)

theorem over : Rows.msgReadsUptoRow.holds Try.pinned (Rows.OpenSpec.upto Rows.msgReadsSpec) :=
  OpenClaim.holds_of_cond 5 Try.f5 rfl rfl rfl rfl rfl rfl rfl ⟨rfl, rfl, rfl, rfl, rfl⟩ rfl rfl rfl rfl rfl (by kernel_rfl) Try.func5 (by kernel_rfl)
    (of_decide_eq_true (by kernel_rfl)) (by unfold Func.isWrapper; first | (rw [if_pos (by decide +kernel)]; kernel_rfl) | (rw [if_neg (by decide +kernel)]; exact ⟨rfl, rfl⟩))
    (fun os started H enc _ F => lifted os started H enc F)

theorem proved : Rows.MsgReadsUptoSaid := over
#print axioms proved
end Go.Proofs.Ytkhjnopmkihmiaa.msgReads

