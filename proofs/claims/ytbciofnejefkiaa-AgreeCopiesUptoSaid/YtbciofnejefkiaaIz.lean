import Derived.Test.YtbciofnejefkiaaTab
import Derived.Test.YtbciofnejefkiaaAmWk
import Derived.Test.YtbciofnejefkiaaAmAuto
set_option linter.unusedSimpArgs false
namespace Go.Proofs.Ytbciofnejefkiaa
open Go Go.Am Go.Proofs
set_option linter.unusedVariables false
set_option maxRecDepth 20000
set_option maxHeartbeats 8000000

/-! Runs of steps that the scripts repeat: each theorem carries its steps as a default argument. -/
structure Zw (p : Prop) : Prop where
  out : p
theorem zc {P : Program} {n : Nat} {K : Exit → Regs → AHeap → Prop} {R : Regs} {H : AHeap} {ops : Array Oper} {rest : List Oper} {ty : TypeId} {d : Tmp} {pos : String} {af : Array Edge} {f : FuncId} [hF : FuncT P f] {args : Array Operand} {ats : Array TypeId} {ys : List AV} {Kc : AV → AHeap → Prop} (hw : WL (args.toList.map (reval R)) ys) (hc : ACalls P f ys H Kc) (hk : ∀ r H', Kc r H' → AWL P n ops rest K ((d, r) :: R) H') (hdn : Nat.blt d n = true := by exact rfl) :
    AWL P n ops (⟨some d, .call { callee := .value (.func f), args := args, argTypes := ats }, ty, pos, af, none⟩ :: rest) K R H := awl_callc hdn hw hc hk
theorem yy1 {G F : Prop} (k : F) (h : Zw F → G := by intro k; refine aw_seq ?_; refine aw_region ?_; exact k.out) : G := h ⟨k⟩
theorem yy2 {G F : Prop} (k : F) (h : Zw F → G := by intro k; refine awl_s rfl (s_move (v := .raw _) rfl) ?_; exact k.out) : G := h ⟨k⟩
theorem yy3 {G F : Prop} (k : F) (h : Zw F → G := by intro k; (with_reducible refine awl_nil ?_); refine k_seq_normal ?_; exact k.out) : G := h ⟨k⟩
theorem yy4 {G F : Prop} (k : F) (h : Zw F → G := by intro k; (with_reducible refine awl_nil ?_); exact k.out) : G := h ⟨k⟩
theorem yy5 {G F : Prop} (k : F) (h : Zw F → G := by intro k; refine awl_s rfl (s_assign (v := .raw _) rfl) ?_; (with_reducible refine awl_nil ?_); refine k_seq_normal ?_; exact k.out) : G := h ⟨k⟩
theorem yy6 {G F : Prop} (k : F) (h : Zw F → G := by intro k; refine zg3 rfl rfl rfl ?_; exact k.out) : G := h ⟨k⟩
theorem yy7 {G F : Prop} (k : F) (h : Zw F → G := by intro k; (apply awt_s; · exact s_move (v := .raw _) rfl); exact k.out) : G := h ⟨k⟩
theorem yy8 {G F : Prop} (k : F) (h : Zw F → G := by intro k; refine awl_s rfl (s_assign (v := .raw _) rfl) ?_; (with_reducible refine awl_nil ?_); refine k_seq_normal ?_; refine aw_ret ?_; exact k.out) : G := h ⟨k⟩
theorem yy9 {G F : Prop} (k : F) (h : Zw F → G := by intro k; refine aw_seq ?_; refine aw_region ?_; refine awl_s rfl (s_ltn rfl rfl) ?_; (with_reducible refine awl_nil ?_); refine k_seq_normal ?_; refine aw_seq ?_; exact k.out) : G := h ⟨k⟩
theorem yy10 {G F : Prop} (k : F) (h : Zw F → G := by intro k; (apply DC.awn_s; · (intros; exact s_move (v := .ptr _ _) rfl)); exact k.out) : G := h ⟨k⟩
theorem yy11 {G F : Prop} (k : F) (h : Zw F → G := by intro k; refine aw_seq ?_; refine aw_seq ?_; refine aw_region ?_; refine awl_s rfl (s_move (v := .raw _) rfl) ?_; exact k.out) : G := h ⟨k⟩
theorem yy12 {G F : Prop} (k : F) (h : Zw F → G := by intro k; (with_reducible refine awt_nil ?_); refine k_seq_normal ?_; exact k.out) : G := h ⟨k⟩
theorem yy13 {G F : Prop} (k : F) (h : Zw F → G := by intro k; refine aw_seq ?_; refine aw_seq ?_; refine aw_region ?_; exact k.out) : G := h ⟨k⟩
theorem yy14 {G F : Prop} (k : F) (h : Zw F → G := by intro k; refine aw_seq ?_; refine aw_region ?_; refine awl_s rfl (s_move (v := .raw _) rfl) ?_; exact k.out) : G := h ⟨k⟩
theorem yy15 {G F : Prop} (k : F) (h : Zw F → G := by intro k; refine aw_condp rfl (fun hc => ?_) (fun hc => ?_); exact absurd hc auto_no; refine aw_seq ?_; refine aw_region ?_; refine awl_s rfl (s_eql rfl rfl) ?_; refine awl_s rfl (s_assign (v := .raw _) rfl) ?_; (with_reducible refine awl_nil ?_); refine k_seq_normal ?_; revert hc; exact k.out) : G := h ⟨k⟩
theorem yy16 {G F : Prop} (k : F) (h : Zw F → G := by intro k; refine aw_seq ?_; refine aw_region ?_; refine awl_s rfl (s_move (v := .ptr _ _) rfl) ?_; exact k.out) : G := h ⟨k⟩
theorem yy17 {G F : Prop} (k : F) (h : Zw F → G := by intro k; refine aw_seq ?_; refine aw_region ?_; refine awl_s rfl (s_assign (v := .raw _) rfl) ?_; (with_reducible refine awl_nil ?_); refine k_seq_normal ?_; exact k.out) : G := h ⟨k⟩
theorem yy18 {G F : Prop} (k : F) (h : Zw F → G := by intro k; refine zt4 rfl rfl ?_; refine zt4 rfl rfl ?_; refine zt4 rfl rfl ?_; refine zt4 rfl rfl ?_; exact k.out) : G := h ⟨k⟩
theorem yy19 {G F : Prop} (k : F) (h : Zw F → G := by intro k; refine aw_seq ?_; refine aw_draw1 auto_kr auto_kr auto_dk ?_; exact k.out) : G := h ⟨k⟩
theorem yy20 {G F : Prop} (k : F) (h : Zw F → G := by intro k; refine aw_skip ?_; refine k_seq_normal ?_; refine aw_seq ?_; refine aw_block ?_; exact k.out) : G := h ⟨k⟩
theorem yy21 {G F : Prop} (k : F) (h : Zw F → G := by intro k; refine awl_s rfl (s_move (v := .ptr _ _) rfl) ?_; refine awl_s rfl (s_nilCheck_ptr rfl) ?_; refine awl_s rfl (s_fieldAddr_ptr rfl) ?_; refine awl_s rfl (s_load_cel rfl auto_heap rfl) ?_; exact k.out) : G := h ⟨k⟩
theorem yy22 {G F : Prop} (k : F) (h : Zw F → G := by intro k; (apply awt_s; · exact s_move (v := .ptr _ _) rfl); (apply awt_s; · exact s_nilCheck_ptr rfl); (apply awt_s; · exact s_fieldAddr_ptr rfl); (apply awt_s; · exact s_load_cel rfl auto_heap rfl); exact k.out) : G := h ⟨k⟩
theorem yy23 {G F : Prop} (k : F) (h : Zw F → G := by intro k; refine aw_cond_t rfl ?_; exact k.out) : G := h ⟨k⟩
theorem yy24 {G F : Prop} (k : F) (h : Zw F → G := by intro k; refine aw_seq ?_; refine aw_region ?_; refine awl_s rfl (s_assign (v := .raw _) rfl) ?_; (with_reducible refine awl_nil ?_); refine k_seq_normal ?_; refine aw_ret ?_; exact k.out) : G := h ⟨k⟩
theorem yy25 {G F : Prop} (k : F) (h : Zw F → G := by intro k; refine zt3 rfl rfl rfl ?_; exact k.out) : G := h ⟨k⟩
theorem yy26 {G F : Prop} (k : F) (h : Zw F → G := by intro k; refine awl_s rfl (s_move (v := .raw _) rfl) ?_; refine zg3 rfl rfl rfl ?_; exact k.out) : G := h ⟨k⟩
theorem yy27 {G F : Prop} (k : F) (h : Zw F → G := by intro k; refine awl_s rfl (s_pick_f (v := .raw _) rfl rfl) ?_; exact k.out) : G := h ⟨k⟩
theorem yy28 {G F : Prop} (k : F) (h : Zw F → G := by intro k; (apply awt_s; · exact s_pick_t (v := .raw _) rfl rfl); exact k.out) : G := h ⟨k⟩
theorem yy29 {G F : Prop} (k : F) (h : Zw F → G := by intro k; (apply awt_s; · exact s_move (v := .ptr _ _) rfl); refine zt3 rfl rfl rfl ?_; (apply awt_s; · exact s_nilCheck_ptr rfl); refine zt3 rfl rfl rfl ?_; (apply awt_s; · exact s_fieldAddr_ptr rfl); refine zt3 rfl rfl rfl ?_; (apply awt_s; · exact s_load_cel rfl auto_heap rfl); refine zt3 rfl rfl rfl ?_; exact k.out) : G := h ⟨k⟩
theorem yy30 {G F : Prop} (k : F) (h : Zw F → G := by intro k; refine awl_s rfl (s_move (v := .ptr _ _) rfl) ?_; exact k.out) : G := h ⟨k⟩
theorem yy31 {G F : Prop} (k : F) (h : Zw F → G := by intro k; refine k_seq_normal ?_; exact k.out) : G := h ⟨k⟩
theorem yy32 {G F : Prop} (k : F) (h : Zw F → G := by intro k; refine k_seq_ret ?_; exact k.out) : G := h ⟨k⟩
theorem yy33 {G F : Prop} (k : F) (h : Zw F → G := by intro k; refine k_block_normal ?_; refine k_seq_normal ?_; refine aw_region ?_; refine awl_s rfl (s_addn rfl rfl auto_len) ?_; refine awl_s rfl (s_move (v := .raw _) rfl) ?_; (with_reducible refine awl_nil ?_); refine k_seq_normal ?_; exact k.out) : G := h ⟨k⟩
theorem yy34 {G F : Prop} (k : F) (h : Zw F → G := by intro k; (apply awt_s; · exact s_fieldAddr_pce rfl); refine zt3 rfl rfl rfl ?_; (apply awt_s; · exact s_load_pce rfl auto_idx); refine zt3 rfl rfl rfl ?_; exact k.out) : G := h ⟨k⟩
theorem yy35 {G F : Prop} (k : F) (h : Zw F → G := by intro k; (with_reducible refine awl_nil ?_); refine k_seq_normal ?_; refine aw_ret ?_; exact k.out) : G := h ⟨k⟩
theorem yy36 {G F : Prop} (k : F) (h : Zw F → G := by intro k; (apply awt_s; · exact s_fieldAddr_pce rfl); (apply awt_s; · exact s_load_pce rfl auto_idx); exact k.out) : G := h ⟨k⟩
theorem yy37 {G F : Prop} (k : F) (h : Zw F → G := by intro k; refine aw_condp rfl (fun hc => ?_) (fun hc => ?_); exact absurd hc auto_no; refine aw_exit ?_; refine k_seq_exit ?_; refine k_seq_exit ?_; refine k_block_eq ?_; refine k_seq_normal ?_; revert hc; exact k.out) : G := h ⟨k⟩
theorem yy38 {G F : Prop} (k : F) (h : Zw F → G := by intro k; (apply DC.awn_s; · (intro H1 hPsi; (try dsimp only at hPsi); (try (obtain ⟨hPsi, hPsi2⟩ := hPsi)); exact s_load_cel rfl auto_heap rfl)); exact k.out) : G := h ⟨k⟩
theorem yy39 {G F : Prop} (k : F) (h : Zw F → G := by intro k; refine awl_s rfl (s_move (v := .bys _) rfl) ?_; exact k.out) : G := h ⟨k⟩
theorem yy40 {G F : Prop} (k : F) (h : Zw F → G := by intro k; refine awl_s rfl (s_assign (v := .raw _) rfl) ?_; exact k.out) : G := h ⟨k⟩
theorem yy41 {G F : Prop} (k : F) (h : Zw F → G := by intro k; refine awl_s rfl (s_fieldAddr_ptr rfl) ?_; refine zg3 rfl rfl rfl ?_; refine awl_s rfl (s_load_cel rfl auto_heap rfl) ?_; refine zg3 rfl rfl rfl ?_; exact k.out) : G := h ⟨k⟩
theorem yy42 {G F : Prop} (k : F) (h : Zw F → G := by intro k; (apply awt_s; · exact s_move (v := .raw _) rfl); refine zt3 rfl rfl rfl ?_; exact k.out) : G := h ⟨k⟩
theorem yy43 {G F : Prop} (k : F) (h : Zw F → G := by intro k; refine awl_s rfl (s_fieldAddr_pce rfl) ?_; refine awl_s rfl (s_load_pce rfl auto_idx) ?_; exact k.out) : G := h ⟨k⟩
theorem yy44 {G F : Prop} (k : F) (h : Zw F → G := by intro k; refine awl_s rfl (s_gtn rfl rfl) ?_; exact k.out) : G := h ⟨k⟩
theorem yy45 {G F : Prop} (k : F) (h : Zw F → G := by intro k; refine zg4 rfl rfl rfl ?_; refine zg4 rfl rfl rfl ?_; refine zg4 rfl rfl rfl ?_; refine zg4 rfl rfl rfl ?_; exact k.out) : G := h ⟨k⟩
theorem yy46 {G F : Prop} (k : F) (h : Zw F → G := by intro k; refine awl_s rfl (s_load_agg rfl auto_heap rfl rfl (by first | decide | exact Nat.le_of_ble_eq_true rfl)) ?_; exact k.out) : G := h ⟨k⟩
theorem yy47 {G F : Prop} (k : F) (h : Zw F → G := by intro k; refine zs2 rfl rfl auto_heap auto_d auto_d auto_d ?_; exact k.out) : G := h ⟨k⟩
theorem yy48 {G F : Prop} (k : F) (h : Zw F → G := by intro k; refine aw_condp rfl (fun hc => ?_) (fun hc => ?_); exact absurd hc auto_no; revert hc; exact k.out) : G := h ⟨k⟩
theorem yy49 {G F : Prop} (k : F) (h : Zw F → G := by intro k; refine awl_s rfl (s_move (v := .ptr _ _) rfl) ?_; refine zg3 rfl rfl rfl ?_; exact k.out) : G := h ⟨k⟩
theorem yy50 {G F : Prop} (k : F) (h : Zw F → G := by intro k; refine k_block_normal ?_; refine k_seq_normal ?_; exact k.out) : G := h ⟨k⟩
theorem yy51 {G F : Prop} (k : F) (h : Zw F → G := by intro k; refine aw_region ?_; refine awl_s rfl (s_move (v := .ptr _ _) rfl) ?_; exact k.out) : G := h ⟨k⟩
theorem yy52 {G F : Prop} (k : F) (h : Zw F → G := by intro k; refine aw_seq ?_; refine aw_region ?_; refine awl_s rfl (s_move (v := .ptr _ _) rfl) ?_; refine awl_s rfl (s_nilCheck_ptr rfl) ?_; refine awl_s rfl (s_fieldAddr_ptr rfl) ?_; refine awl_s rfl (s_load_cel rfl auto_heap rfl) ?_; exact k.out) : G := h ⟨k⟩
theorem yy53 {G F : Prop} (k : F) (h : Zw F → G := by intro k; (apply DC.awn_s; · (intros; exact s_move (v := .raw _) rfl)); exact k.out) : G := h ⟨k⟩
theorem yy54 {G F : Prop} (k : F) (h : Zw F → G := by intro k; refine awl_s rfl (s_len_sls rfl) ?_; exact k.out) : G := h ⟨k⟩
theorem yy55 {G F : Prop} (k : F) (h : Zw F → G := by intro k; refine awl_s rfl (s_pick_t (v := .raw _) rfl rfl) ?_; exact k.out) : G := h ⟨k⟩
theorem yy56 {G F : Prop} (k : F) (h : Zw F → G := by intro k; refine awl_s rfl (s_move (v := .sls _ _) rfl) ?_; exact k.out) : G := h ⟨k⟩
theorem yy57 {G F : Prop} (k : F) (h : Zw F → G := by intro k; refine awl_s rfl (s_eqn rfl rfl) ?_; exact k.out) : G := h ⟨k⟩
theorem yy58 {G F : Prop} (k : F) (h : Zw F → G := by intro k; refine awl_s rfl (s_notb rfl) ?_; exact k.out) : G := h ⟨k⟩
theorem yy59 {G F : Prop} (k : F) (h : Zw F → G := by intro k; refine aw_seq ?_; refine aw_seq ?_; refine aw_region ?_; refine awl_s rfl (s_fieldAddr_pce rfl) ?_; refine awl_s rfl (s_load_pce rfl auto_idx) ?_; (with_reducible refine awl_nil ?_); refine k_seq_normal ?_; refine aw_block ?_; exact k.out) : G := h ⟨k⟩
theorem yy60 {G F : Prop} (k : F) (h : Zw F → G := by intro k; refine awl_s rfl (s_nilCheck_ptr rfl) ?_; refine awl_s rfl (s_fieldAddr_ptr rfl) ?_; exact k.out) : G := h ⟨k⟩
theorem yy61 {G F : Prop} (k : F) (h : Zw F → G := by intro k; refine zg4 rfl rfl rfl ?_; exact k.out) : G := h ⟨k⟩
theorem yy62 {G F : Prop} (k : F) (h : Zw F → G := by intro k; refine awl_s rfl (s_move (v := .sls _ _) rfl) ?_; refine awl_s rfl (s_len_sls rfl) ?_; exact k.out) : G := h ⟨k⟩
theorem yy63 {G F : Prop} (k : F) (h : Zw F → G := by intro k; refine aw_condp rfl (fun hc => ?_) (fun hc => ?_); exact absurd hc auto_no; refine aw_skip ?_; refine k_seq_normal ?_; revert hc; exact k.out) : G := h ⟨k⟩
theorem yy64 {G F : Prop} (k : F) (h : Zw F → G := by intro k; refine awl_s rfl (s_move (v := .vw _ _ _ _) rfl) ?_; exact k.out) : G := h ⟨k⟩
theorem yy65 {G F : Prop} (k : F) (h : Zw F → G := by intro k; refine awl_s rfl (s_pick_f (v := .raw _) rfl rfl) ?_; (with_reducible refine awl_nil ?_); refine k_seq_normal ?_; exact k.out) : G := h ⟨k⟩
theorem yy66 {G F : Prop} (k : F) (h : Zw F → G := by intro k; refine k_seq_ret ?_; refine k_block_ret ?_; refine k_seq_ret ?_; exact k.out) : G := h ⟨k⟩
theorem yy67 {G F : Prop} (k : F) (h : Zw F → G := by intro k; refine awl_s rfl (s_move (v := .raw _) rfl) ?_; (with_reducible refine awl_nil ?_); refine k_seq_normal ?_; refine aw_block ?_; exact k.out) : G := h ⟨k⟩
theorem yy68 {G F : Prop} (k : F) (h : Zw F → G := by intro k; refine awl_s rfl (s_pick_t (v := .raw _) rfl rfl) ?_; (with_reducible refine awl_nil ?_); refine k_seq_normal ?_; exact k.out) : G := h ⟨k⟩
theorem yy69 {G F : Prop} (k : F) (h : Zw F → G := by intro k; (apply DC.awn_s; · (intros; exact s_nilCheck_ptr rfl)); (apply DC.awn_s; · (intros; exact s_fieldAddr_ptr rfl)); exact k.out) : G := h ⟨k⟩
theorem yy70 {G F : Prop} (k : F) (h : Zw F → G := by intro k; (apply awt_s; · exact s_pick_f (v := .raw _) rfl rfl); exact k.out) : G := h ⟨k⟩
theorem yy71 {G F : Prop} (k : F) (h : Zw F → G := by intro k; refine zs2 rfl rfl auto_heap auto_d auto_d auto_d ?_; (with_reducible refine awl_nil ?_); exact k.out) : G := h ⟨k⟩
theorem yy72 {G F : Prop} (k : F) (h : Zw F → G := by intro k; refine awl_s rfl (s_load_pce rfl auto_idx) ?_; exact k.out) : G := h ⟨k⟩
theorem yy73 {G F : Prop} (k : F) (h : Zw F → G := by intro k; (apply awm_s; · (intro H1; exact s_move (v := .ptr _ _) rfl)); exact k.out) : G := h ⟨k⟩
theorem yy74 {G F : Prop} (k : F) (h : Zw F → G := by intro k; refine awl_s rfl (s_ltn rfl rfl) ?_; (with_reducible refine awl_nil ?_); refine k_seq_normal ?_; exact k.out) : G := h ⟨k⟩
theorem yy75 {G F : Prop} (k : F) (h : Zw F → G := by intro k; refine zs6 rfl auto_mv auto_heap auto_r auto_k ?_; exact k.out) : G := h ⟨k⟩
theorem yy76 {G F : Prop} (k : F) (h : Zw F → G := by intro k; refine zg4 rfl rfl rfl ?_; refine zg4 rfl rfl rfl ?_; exact k.out) : G := h ⟨k⟩
theorem yy77 {G F : Prop} (k : F) (h : Zw F → G := by intro k; refine awl_s rfl (s_fieldAddr_ptr rfl) ?_; exact k.out) : G := h ⟨k⟩
theorem yy78 {G F : Prop} (k : F) (h : Zw F → G := by intro k; refine awl_s rfl (s_load_pce_agg rfl rfl rfl (by decide)) ?_; exact k.out) : G := h ⟨k⟩
theorem yy79 {G F : Prop} (k : F) (h : Zw F → G := by intro k; (apply awt_s; · exact s_pick_f (v := .raw _) rfl rfl); (apply awt_s; · exact s_move (v := .raw _) rfl); exact k.out) : G := h ⟨k⟩
theorem yy80 {G F : Prop} (k : F) (h : Zw F → G := by intro k; (apply awt_s; · exact s_move (v := .ptr _ _) rfl); exact k.out) : G := h ⟨k⟩
theorem yy81 {G F : Prop} (k : F) (h : Zw F → G := by intro k; refine awl_s rfl (s_assign (v := .vw _ _ _ _) rfl) ?_; exact k.out) : G := h ⟨k⟩
theorem yy82 {G F : Prop} (k : F) (h : Zw F → G := by intro k; refine aw_skip ?_; refine k_seq_normal ?_; exact k.out) : G := h ⟨k⟩
theorem yy83 {G F : Prop} (k : F) (h : Zw F → G := by intro k; refine zs5 rfl auto_mv rfl auto_r auto_k ?_; exact k.out) : G := h ⟨k⟩
theorem yy84 {G F : Prop} (k : F) (h : Zw F → G := by intro k; (apply awm_s; · (intro H1; exact s_nilCheck_ptr rfl)); (apply awm_s; · (intro H1; exact s_fieldAddr_ptr rfl)); exact k.out) : G := h ⟨k⟩
theorem yy85 {G F : Prop} (k : F) (h : Zw F → G := by intro k; refine awl_s rfl (s_nen rfl rfl) ?_; exact k.out) : G := h ⟨k⟩
theorem yy86 {G F : Prop} (k : F) (h : Zw F → G := by intro k; refine zs6 rfl auto_mv auto_heap auto_r auto_k ?_; (with_reducible refine awl_nil ?_); exact k.out) : G := h ⟨k⟩
theorem yy87 {G F : Prop} (k : F) (h : Zw F → G := by intro k; refine zs1 rfl rfl rfl rfl auto_d auto_d ?_; exact k.out) : G := h ⟨k⟩
theorem yy88 {G F : Prop} (k : F) (h : Zw F → G := by intro k; refine awl_s rfl (s_move (v := .tup _) rfl) ?_; refine awl_s rfl (s_extract rfl rfl) ?_; refine awl_s rfl (s_extract rfl rfl) ?_; exact k.out) : G := h ⟨k⟩
theorem yy89 {G F : Prop} (k : F) (h : Zw F → G := by intro k; refine aw_seq ?_; refine aw_region ?_; refine awl_s rfl (s_eql rfl rfl) ?_; refine awl_s rfl (s_assign (v := .raw _) rfl) ?_; (with_reducible refine awl_nil ?_); refine k_seq_normal ?_; exact k.out) : G := h ⟨k⟩
theorem yy90 {G F : Prop} (k : F) (h : Zw F → G := by intro k; (apply DC.awn_s; · (intros; exact s_move (v := .sls _ _) rfl)); (apply DC.awn_s; · (intros; exact s_move (v := .raw _) rfl)); exact k.out) : G := h ⟨k⟩
theorem yy91 {G F : Prop} (k : F) (h : Zw F → G := by intro k; (apply DC.awn_s; · (intros; exact s_indexAddr_sls rfl rfl auto_len)); exact k.out) : G := h ⟨k⟩
theorem yy92 {G F : Prop} (k : F) (h : Zw F → G := by intro k; (apply DC.awn_s; · (intros; exact s_load_pce_agg rfl (by assumption) (by rfl) (by decide))); exact k.out) : G := h ⟨k⟩
theorem yy93 {G F : Prop} (k : F) (h : Zw F → G := by intro k; refine awl_s rfl (s_indexAddr_sls rfl rfl auto_len) ?_; exact k.out) : G := h ⟨k⟩
theorem yy94 {G F : Prop} (k : F) (h : Zw F → G := by intro k; refine aw_seq ?_; refine aw_region ?_; refine awl_s rfl (s_eqn rfl rfl) ?_; exact k.out) : G := h ⟨k⟩
theorem yy95 {G F : Prop} (k : F) (h : Zw F → G := by intro k; refine awl_s rfl (s_buildv (by ((repeat' (first | exact eqL_nil | apply eqL_cons)); all_goals (first | exact (rfl : _ = AV.raw _) | exact (rfl : _ = AV.bys _) | exact (rfl : _ = AV.vw _ _ _ _) | exact (rfl : _ = AV.ptr _ _) | exact (rfl : _ = AV.str _) | exact (rfl : _ = AV.sls _ _) | exact (rfl : _ = AV.tup _) | exact (rfl : _ = AV.agg _) | exact (rfl : _ = AV.pce _ _) | exact (rfl : _ = AV.emp) | exact (rfl : _ = AV.bysx _) | exact (rfl : _ = AV.slsx _ _) | exact (rfl : _ = AV.mp _) | exact (rfl : _ = AV.fnc _ _ _) | exact (rfl : _ = AV.pby _ _) | exact (rfl : _ = AV.ifc _ _)))) (by rfl)) ?_; exact k.out) : G := h ⟨k⟩
theorem yy96 {G F : Prop} (k : F) (h : Zw F → G := by intro k; refine aw_cond_f rfl ?_; refine aw_skip ?_; refine k_seq_normal ?_; exact k.out) : G := h ⟨k⟩
theorem yy97 {G F : Prop} (k : F) (h : Zw F → G := by intro k; (apply awt_s; · exact s_notb rfl); exact k.out) : G := h ⟨k⟩
theorem yy98 {G F : Prop} (k : F) (h : Zw F → G := by intro k; refine zt4 rfl rfl ?_; refine zt4 rfl rfl ?_; exact k.out) : G := h ⟨k⟩
theorem yy99 {G F : Prop} (k : F) (h : Zw F → G := by intro k; refine awl_s rfl (s_addn rfl rfl auto_len) ?_; exact k.out) : G := h ⟨k⟩
theorem yy100 {G F : Prop} (k : F) (h : Zw F → G := by intro k; (apply DC.awn_s; · (intros; exact s_fieldAddr_ptr rfl)); exact k.out) : G := h ⟨k⟩
theorem yy101 {G F : Prop} (k : F) (h : Zw F → G := by intro k; refine aw_cond_f rfl ?_; refine aw_skip ?_; exact k.out) : G := h ⟨k⟩
theorem yy102 {G F : Prop} (k : F) (h : Zw F → G := by intro k; refine zs7 rfl rfl rfl (by assumption) rfl rfl rfl ?_; exact k.out) : G := h ⟨k⟩
theorem yy103 {G F : Prop} (k : F) (h : Zw F → G := by intro k; refine awl_s rfl (s_nilCheck_ptr rfl) ?_; refine zg3 rfl rfl rfl ?_; exact k.out) : G := h ⟨k⟩
theorem yy104 {G F : Prop} (k : F) (h : Zw F → G := by intro k; refine aw_draw1 auto_kr auto_kr auto_dk ?_; exact k.out) : G := h ⟨k⟩
theorem yy105 {G F : Prop} (k : F) (h : Zw F → G := by intro k; refine awl_s rfl (s_assign (v := .ptr _ _) rfl) ?_; exact k.out) : G := h ⟨k⟩
theorem yy106 {G F : Prop} (k : F) (h : Zw F → G := by intro k; refine k_block_normal ?_; refine k_seq_normal ?_; refine aw_region ?_; exact k.out) : G := h ⟨k⟩
theorem yy107 {G F : Prop} (k : F) (h : Zw F → G := by intro k; refine awl_s rfl (s_len_vw rfl) ?_; exact k.out) : G := h ⟨k⟩
theorem yy108 {G F : Prop} (k : F) (h : Zw F → G := by intro k; refine awl_s rfl (s_fieldAddr_pce rfl) ?_; exact k.out) : G := h ⟨k⟩
theorem yy109 {G F : Prop} (k : F) (h : Zw F → G := by intro k; refine k_block_ret ?_; refine k_seq_ret ?_; exact k.out) : G := h ⟨k⟩
theorem yy110 {G F : Prop} (k : F) (h : Zw F → G := by intro k; refine awl_s rfl (s_assign (v := .bys _) rfl) ?_; exact k.out) : G := h ⟨k⟩
theorem yy111 {G F : Prop} (k : F) (h : Zw F → G := by intro k; refine awl_s rfl (s_buildSlicev (by ((repeat' (first | exact eqL_nil | apply eqL_cons)); all_goals (first | exact (rfl : _ = AV.raw _) | exact (rfl : _ = AV.bys _) | exact (rfl : _ = AV.vw _ _ _ _) | exact (rfl : _ = AV.ptr _ _) | exact (rfl : _ = AV.str _) | exact (rfl : _ = AV.sls _ _) | exact (rfl : _ = AV.tup _) | exact (rfl : _ = AV.agg _) | exact (rfl : _ = AV.pce _ _) | exact (rfl : _ = AV.emp) | exact (rfl : _ = AV.bysx _) | exact (rfl : _ = AV.slsx _ _) | exact (rfl : _ = AV.mp _) | exact (rfl : _ = AV.fnc _ _ _) | exact (rfl : _ = AV.pby _ _) | exact (rfl : _ = AV.ifc _ _)))) (by rfl) (by rfl) (by rfl) (by ((repeat' (first | exact eqL_nil | apply eqL_cons)); all_goals (first | exact (rfl : _ = AV.raw _) | exact (rfl : _ = AV.bys _) | exact (rfl : _ = AV.vw _ _ _ _) | exact (rfl : _ = AV.ptr _ _) | exact (rfl : _ = AV.str _) | exact (rfl : _ = AV.sls _ _) | exact (rfl : _ = AV.tup _) | exact (rfl : _ = AV.agg _) | exact (rfl : _ = AV.pce _ _) | exact (rfl : _ = AV.emp) | exact (rfl : _ = AV.bysx _) | exact (rfl : _ = AV.slsx _ _) | exact (rfl : _ = AV.mp _) | exact (rfl : _ = AV.fnc _ _ _) | exact (rfl : _ = AV.pby _ _) | exact (rfl : _ = AV.ifc _ _)))) (by decide)) ?_; exact k.out) : G := h ⟨k⟩
theorem yy112 {G F : Prop} (k : F) (h : Zw F → G := by intro k; (apply awm_s; · (intro H1; exact s_fieldAddr_pce rfl)); exact k.out) : G := h ⟨k⟩
theorem yy113 {G F : Prop} (k : F) (h : Zw F → G := by intro k; (apply awm_s; · (intro H1; exact s_load_pce rfl auto_idx)); exact k.out) : G := h ⟨k⟩
theorem yy114 {G F : Prop} (k : F) (h : Zw F → G := by intro k; refine awl_s rfl (s_load_cel rfl auto_heap rfl) ?_; exact k.out) : G := h ⟨k⟩
theorem yy115 {G F : Prop} (k : F) (h : Zw F → G := by intro k; refine awl_s rfl (s_indexAddr_vw rfl rfl auto_len) ?_; exact k.out) : G := h ⟨k⟩
theorem yy116 {G F : Prop} (k : F) (h : Zw F → G := by intro k; (apply DC.awn_s; · (intros; exact s_pick_t (v := .raw _) rfl rfl)); exact k.out) : G := h ⟨k⟩
theorem yy117 {G F : Prop} (k : F) (h : Zw F → G := by intro k; refine awl_s rfl (s_len_bys rfl) ?_; exact k.out) : G := h ⟨k⟩
theorem yy118 {G F : Prop} (k : F) (h : Zw F → G := by intro k; refine awl_s rfl (s_gen rfl rfl) ?_; exact k.out) : G := h ⟨k⟩
theorem yy119 {G F : Prop} (k : F) (h : Zw F → G := by intro k; (apply awt_s; · exact s_move (v := .sls _ _) rfl); exact k.out) : G := h ⟨k⟩
theorem yy120 {G F : Prop} (k : F) (h : Zw F → G := by intro k; (apply awt_s; · exact s_len_sls rfl); exact k.out) : G := h ⟨k⟩
theorem yy121 {G F : Prop} (k : F) (h : Zw F → G := by intro k; (apply awt_s; · exact s_ltn rfl rfl); exact k.out) : G := h ⟨k⟩
theorem yy122 {G F : Prop} (k : F) (h : Zw F → G := by intro k; (apply awt_s; · exact s_indexAddr_sls rfl rfl auto_len); exact k.out) : G := h ⟨k⟩
theorem yy123 {G F : Prop} (k : F) (h : Zw F → G := by intro k; (apply awt_s; · exact s_gtn rfl rfl); exact k.out) : G := h ⟨k⟩
theorem yy124 {G F : Prop} (k : F) (h : Zw F → G := by intro k; refine awl_s rfl (s_load_pce_agg rfl (by assumption) (by rfl) (by decide)) ?_; exact k.out) : G := h ⟨k⟩
theorem yy125 {G F : Prop} (k : F) (h : Zw F → G := by intro k; (apply awt_s; · exact s_slice_sls rfl auto_bnd auto_bnd auto_len auto_len); exact k.out) : G := h ⟨k⟩
theorem yy126 {G F : Prop} (k : F) (h : Zw F → G := by intro k; (apply DC.awn_s; · (intros; exact s_pick_f (v := .raw _) rfl rfl)); exact k.out) : G := h ⟨k⟩
theorem yy127 {G F : Prop} (k : F) (h : Zw F → G := by intro k; refine awl_s rfl (s_andn rfl rfl auto_lt auto_lt) ?_; exact k.out) : G := h ⟨k⟩
theorem yy128 {G F : Prop} (k : F) (h : Zw F → G := by intro k; (apply awt_s; · exact s_indexAddr_vw rfl rfl auto_len); exact k.out) : G := h ⟨k⟩
theorem yy129 {G F : Prop} (k : F) (h : Zw F → G := by intro k; (apply awt_s; · exact s_fieldAddr_ptr rfl); refine zt3 rfl rfl rfl ?_; (apply awt_s; · exact s_load_cel rfl auto_heap rfl); refine zt3 rfl rfl rfl ?_; exact k.out) : G := h ⟨k⟩
theorem yy130 {G F : Prop} (k : F) (h : Zw F → G := by intro k; (apply DC.awn_s; · (intros; exact s_assign (v := .raw _) rfl)); exact k.out) : G := h ⟨k⟩
theorem yy131 {G F : Prop} (k : F) (h : Zw F → G := by intro k; (apply awt_s; · exact s_load_pce_agg rfl rfl rfl (by decide)); exact k.out) : G := h ⟨k⟩
theorem yy132 {G F : Prop} (k : F) (h : Zw F → G := by intro k; (apply awt_s; · exact s_assign (v := .raw _) rfl); exact k.out) : G := h ⟨k⟩
theorem yy133 {G F : Prop} (k : F) (h : Zw F → G := by intro k; refine awl_s rfl (s_slice_bys rfl auto_bnd auto_bnd auto_len auto_len rfl) ?_; exact k.out) : G := h ⟨k⟩
theorem yy134 {G F : Prop} (k : F) (h : Zw F → G := by intro k; refine aw_seq ?_; refine aw_seq ?_; refine aw_region ?_; refine awl_s rfl (s_fieldAddr_pce rfl) ?_; refine awl_s rfl (s_load_pce rfl auto_idx) ?_; exact k.out) : G := h ⟨k⟩
theorem yy135 {G F : Prop} (k : F) (h : Zw F → G := by intro k; (apply awt_s; · exact s_load_cel rfl auto_heap auto_idx); exact k.out) : G := h ⟨k⟩
theorem yy136 {G F : Prop} (k : F) (h : Zw F → G := by intro k; refine awl_s rfl (s_move (v := .raw _) rfl) ?_; (with_reducible refine awl_nil ?_); refine k_seq_normal ?_; exact k.out) : G := h ⟨k⟩
theorem yy137 {G F : Prop} (k : F) (h : Zw F → G := by intro k; refine aw_exit ?_; refine k_seq_exit ?_; refine k_seq_exit ?_; refine k_block_eq ?_; exact k.out) : G := h ⟨k⟩
theorem yy138 {G F : Prop} (k : F) (h : Zw F → G := by intro k; refine awl_s rfl (s_move (v := .fnc _ _ _) rfl) ?_; exact k.out) : G := h ⟨k⟩
theorem yy139 {G F : Prop} (k : F) (h : Zw F → G := by intro k; (apply awm_s; · (intro H1; exact s_move (v := .raw _) rfl)); exact k.out) : G := h ⟨k⟩
theorem yy140 {G F : Prop} (k : F) (h : Zw F → G := by intro k; (apply awm_s; · (intro H1; exact s_buildSlicev (by ((repeat' (first | exact eqL_nil | apply eqL_cons)); all_goals (first | exact (rfl : _ = AV.raw _) | exact (rfl : _ = AV.bys _) | exact (rfl : _ = AV.vw _ _ _ _) | exact (rfl : _ = AV.ptr _ _) | exact (rfl : _ = AV.str _) | exact (rfl : _ = AV.sls _ _) | exact (rfl : _ = AV.tup _) | exact (rfl : _ = AV.agg _) | exact (rfl : _ = AV.pce _ _) | exact (rfl : _ = AV.emp) | exact (rfl : _ = AV.bysx _) | exact (rfl : _ = AV.slsx _ _) | exact (rfl : _ = AV.mp _) | exact (rfl : _ = AV.fnc _ _ _) | exact (rfl : _ = AV.pby _ _) | exact (rfl : _ = AV.ifc _ _)))) (by rfl) (by rfl) (by rfl) (by ((repeat' (first | exact eqL_nil | apply eqL_cons)); all_goals (first | exact (rfl : _ = AV.raw _) | exact (rfl : _ = AV.bys _) | exact (rfl : _ = AV.vw _ _ _ _) | exact (rfl : _ = AV.ptr _ _) | exact (rfl : _ = AV.str _) | exact (rfl : _ = AV.sls _ _) | exact (rfl : _ = AV.tup _) | exact (rfl : _ = AV.agg _) | exact (rfl : _ = AV.pce _ _) | exact (rfl : _ = AV.emp) | exact (rfl : _ = AV.bysx _) | exact (rfl : _ = AV.slsx _ _) | exact (rfl : _ = AV.mp _) | exact (rfl : _ = AV.fnc _ _ _) | exact (rfl : _ = AV.pby _ _) | exact (rfl : _ = AV.ifc _ _)))) (by decide))); exact k.out) : G := h ⟨k⟩
theorem yy141 {G F : Prop} (k : F) (h : Zw F → G := by intro k; refine awl_s rfl (s_lookupI2 rfl rfl auto_heap (by first | assumption | rfl) (by first | assumption | rfl)) ?_; exact k.out) : G := h ⟨k⟩
theorem yy142 {G F : Prop} (k : F) (h : Zw F → G := by intro k; (apply awm_s; · (intro H1; exact s_indexAddr_vw rfl rfl auto_len)); exact k.out) : G := h ⟨k⟩
theorem yy143 {G F : Prop} (k : F) (h : Zw F → G := by intro k; (apply awt_s; · exact s_buildv (by ((repeat' (first | exact eqL_nil | apply eqL_cons)); all_goals (first | exact (rfl : _ = AV.raw _) | exact (rfl : _ = AV.bys _) | exact (rfl : _ = AV.vw _ _ _ _) | exact (rfl : _ = AV.ptr _ _) | exact (rfl : _ = AV.str _) | exact (rfl : _ = AV.sls _ _) | exact (rfl : _ = AV.tup _) | exact (rfl : _ = AV.agg _) | exact (rfl : _ = AV.pce _ _) | exact (rfl : _ = AV.emp) | exact (rfl : _ = AV.bysx _) | exact (rfl : _ = AV.slsx _ _) | exact (rfl : _ = AV.mp _) | exact (rfl : _ = AV.fnc _ _ _) | exact (rfl : _ = AV.pby _ _) | exact (rfl : _ = AV.ifc _ _)))) (by rfl)); exact k.out) : G := h ⟨k⟩
theorem yy144 {G F : Prop} (k : F) (h : Zw F → G := by intro k; (apply DC.awn_s; · (intros; exact s_len_ rfl rfl)); exact k.out) : G := h ⟨k⟩
theorem yy145 {G F : Prop} (k : F) (h : Zw F → G := by intro k; refine awl_s rfl (s_load_cel rfl auto_heap auto_idx) ?_; exact k.out) : G := h ⟨k⟩
theorem yy146 {G F : Prop} (k : F) (h : Zw F → G := by intro k; (apply DC.awn_s; · (intros; exact s_indexAddr_vw rfl rfl auto_len)); exact k.out) : G := h ⟨k⟩
theorem yy147 {G F : Prop} (k : F) (h : Zw F → G := by intro k; refine aw_exit ?_; refine k_seq_exit ?_; refine k_seq_exit ?_; refine k_block_eq ?_; refine k_seq_normal ?_; exact k.out) : G := h ⟨k⟩
theorem yy148 {G F : Prop} (k : F) (h : Zw F → G := by intro k; (apply awt_s; · exact s_load_agg rfl auto_heap rfl rfl (by first | decide | exact Nat.le_of_ble_eq_true rfl)); exact k.out) : G := h ⟨k⟩
theorem yy149 {G F : Prop} (k : F) (h : Zw F → G := by intro k; refine awl_s rfl (s_eql rfl rfl) ?_; refine awl_s rfl (s_assign (v := .raw _) rfl) ?_; (with_reducible refine awl_nil ?_); refine k_seq_normal ?_; exact k.out) : G := h ⟨k⟩
theorem yy150 {G F : Prop} (k : F) (h : Zw F → G := by intro k; (apply DC.awn_s; · (intro H1 hPsi; (try dsimp only at hPsi); (try (obtain ⟨hPsi, hPsi2⟩ := hPsi)); exact s_load_agg rfl auto_heap rfl rfl (by first | decide | exact Nat.le_of_ble_eq_true rfl))); exact k.out) : G := h ⟨k⟩
theorem yy151 {G F : Prop} (k : F) (h : Zw F → G := by intro k; (apply awt_s; · exact s_fieldAddr_ptr rfl); (apply awt_s; · exact s_load_cel rfl auto_heap rfl); exact k.out) : G := h ⟨k⟩
theorem yy152 {G F : Prop} (k : F) (h : Zw F → G := by intro k; (apply DC.awn_s; · (intros; exact s_buildv (by ((repeat' (first | exact eqL_nil | apply eqL_cons)); all_goals (first | exact (rfl : _ = AV.raw _) | exact (rfl : _ = AV.bys _) | exact (rfl : _ = AV.vw _ _ _ _) | exact (rfl : _ = AV.ptr _ _) | exact (rfl : _ = AV.str _) | exact (rfl : _ = AV.sls _ _) | exact (rfl : _ = AV.tup _) | exact (rfl : _ = AV.agg _) | exact (rfl : _ = AV.pce _ _) | exact (rfl : _ = AV.emp) | exact (rfl : _ = AV.bysx _) | exact (rfl : _ = AV.slsx _ _) | exact (rfl : _ = AV.mp _) | exact (rfl : _ = AV.fnc _ _ _) | exact (rfl : _ = AV.pby _ _) | exact (rfl : _ = AV.ifc _ _)))) (by rfl))); exact k.out) : G := h ⟨k⟩
theorem yy153 {G F : Prop} (k : F) (h : Zw F → G := by intro k; (apply awt_s; · exact s_buildSlicev (by ((repeat' (first | exact eqL_nil | apply eqL_cons)); all_goals (first | exact (rfl : _ = AV.raw _) | exact (rfl : _ = AV.bys _) | exact (rfl : _ = AV.vw _ _ _ _) | exact (rfl : _ = AV.ptr _ _) | exact (rfl : _ = AV.str _) | exact (rfl : _ = AV.sls _ _) | exact (rfl : _ = AV.tup _) | exact (rfl : _ = AV.agg _) | exact (rfl : _ = AV.pce _ _) | exact (rfl : _ = AV.emp) | exact (rfl : _ = AV.bysx _) | exact (rfl : _ = AV.slsx _ _) | exact (rfl : _ = AV.mp _) | exact (rfl : _ = AV.fnc _ _ _) | exact (rfl : _ = AV.pby _ _) | exact (rfl : _ = AV.ifc _ _)))) (by rfl) (by rfl) (by rfl) (by ((repeat' (first | exact eqL_nil | apply eqL_cons)); all_goals (first | exact (rfl : _ = AV.raw _) | exact (rfl : _ = AV.bys _) | exact (rfl : _ = AV.vw _ _ _ _) | exact (rfl : _ = AV.ptr _ _) | exact (rfl : _ = AV.str _) | exact (rfl : _ = AV.sls _ _) | exact (rfl : _ = AV.tup _) | exact (rfl : _ = AV.agg _) | exact (rfl : _ = AV.pce _ _) | exact (rfl : _ = AV.emp) | exact (rfl : _ = AV.bysx _) | exact (rfl : _ = AV.slsx _ _) | exact (rfl : _ = AV.mp _) | exact (rfl : _ = AV.fnc _ _ _) | exact (rfl : _ = AV.pby _ _) | exact (rfl : _ = AV.ifc _ _)))) (by decide)); exact k.out) : G := h ⟨k⟩
end Go.Proofs.Ytbciofnejefkiaa
