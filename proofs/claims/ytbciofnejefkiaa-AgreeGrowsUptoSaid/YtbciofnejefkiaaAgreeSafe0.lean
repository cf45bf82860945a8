import Derived.Test.YtbciofnejefkiaaIa9
set_option linter.unusedVariables false
namespace Go.Proofs.Ytbciofnejefkiaa
open Go Go.Am Go.Proofs
set_option linter.unusedSimpArgs false
set_option linter.unusedVariables false
set_option maxRecDepth 20000
set_option maxHeartbeats 4000000

/-! Whatever happens: the walk of the law. -/
structure ActOK (a : Ag.Act) : Prop where
  ok : a.Ok
  op : b64 a.op
  r : b64 a.r
  k : b64 a.k
  row : a.row.length ≤ 100000000
theorem act_get {l : List Ag.Act} {i : Nat} {a : Ag.Act} (h : l[i]? = some a) : ((l.flatMap actC).drop (i * 5)).take 5 = actC a := flat_seg (sz := 5) (f := actC) (fun _ => rfl) h
theorem act_at {l : List Ag.Act} {i j : Nat} {a : Ag.Act} {y : AV} (h : l[i]? = some a) (hj : j < 5) (hy : (actC a)[j]? = some y) : (l.flatMap actC)[i * 5 + j]? = some y := flat_get (sz := 5) (f := actC) (fun _ => rfl) h hj hy
theorem do_at (H : AHeap) (O : Wo) (F : Nat → Ob) (g : Ag.Gh) (w : Ag.W) (q B I : Nat) (a : Ag.Act) (hA : WAt H O F w) (hX : WX g w q B I) (hq : q ≤ 100000) (hI : I ≤ 100000) (hB : B ≤ 10000000000) (h : ActOK a) (hrl : a.row.length ≤ 1000000) :
    ACalls Try.prog 21 [.ptr O.w 0, .agg (actC a)] H fun r' H' => r' = bB true ∧ ∃ w' g' O' F', w.act a = some w' ∧ WX g' w' (q + 1) (B + 200) (I + 1) ∧ w'.n = w.n ∧ WAt H' O' F' w' ∧ TurnW w.n H O F O' F' H' := by
  obtain ⟨w', g', e1, e2, e3⟩ := hX.act (by omega) h.ok h.k
  exact (do_calls H O F g w w' q B I a hA hX hq hI hB h.ok h.op h.r h.k hrl e1).mono fun r' H' ⟨x, O', F', y1, y2⟩ => ⟨x, w', g', O', F', e1, e2, e3, y1, y2⟩
theorem AgreeSafe_calls (H : AHeap) (f : Int) (l : List Ag.Act) (hf : b64 f) (hl : l.length ≤ 2000000) (hok : ∀ a ∈ l, ActOK a) :
    ACalls Try.prog 5 [mI f, .sls l.length (l.flatMap actC)] H fun r _ => r = .raw (.bool true) := by
  refine acalls_of_aw2 Try.func5 rfl (by decide) ?_
  by_cases h1 : f < 0 ∨ 3 < f ∨ 300 < l.length
  · (first | focus (refine aw_seq ?_; refine aw_region ?_; refine awl_s rfl (s_assign (v := .raw _) rfl) ?_; (with_reducible refine awl_nil ?_); refine k_seq_normal ?_; refine aw_seq ?_; refine aw_seq ?_; refine aw_region ?_; (((refine awl_callc rfl auto_wl (awake_calls _) (fun r H' hpost => ?_); obtain ⟨rfl, hfr⟩ := hpost))); refine awl_s rfl (s_notb rfl) ?_; (with_reducible refine awl_nil ?_); refine k_seq_normal ?_; refine aw_cond_f rfl ?_; refine aw_skip ?_; refine k_seq_normal ?_; refine aw_seq ?_; refine aw_seq ?_; refine aw_region ?_; refine awl_s rfl (s_move (v := .raw _) rfl) ?_; refine awl_s rfl (s_lss rfl rfl) ?_; refine awl_s rfl (s_move (v := .raw _) rfl) ?_; refine zg2 rfl rfl rfl (fun hc => ?_) (fun hc => ?_); refine zg4 rfl rfl rfl ?_; refine awl_s rfl (s_pick_t (v := .raw _) rfl rfl) ?_; refine awl_s rfl (s_move (v := .raw _) rfl) ?_; refine zg4 rfl rfl rfl ?_; refine zg4 rfl rfl rfl ?_; refine zg4 rfl rfl rfl ?_; refine awl_s rfl (s_pick_t (v := .raw _) rfl rfl) ?_; (with_reducible refine awl_nil ?_); refine k_seq_normal ?_; refine aw_cond_t rfl ?_; refine aw_seq ?_; refine aw_region ?_; refine awl_s rfl (s_assign (v := .raw _) rfl) ?_; (with_reducible refine awl_nil ?_); refine k_seq_normal ?_; refine aw_ret ?_; refine k_seq_ret ?_; rotate_left; refine awl_s rfl (s_move (v := .raw _) rfl) ?_; refine zg3 rfl rfl rfl ?_; refine awl_s rfl (s_gtr rfl rfl) ?_; refine awl_s rfl (s_pick_f (v := .raw _) rfl rfl) ?_; refine awl_s rfl (s_move (v := .raw _) rfl) ?_; refine zg2 rfl rfl rfl (fun hc => ?_) (fun hc => ?_); refine zg4 rfl rfl rfl ?_; refine zg4 rfl rfl rfl ?_; refine awl_s rfl (s_pick_t (v := .raw _) rfl rfl) ?_; (with_reducible refine awl_nil ?_); refine k_seq_normal ?_; refine aw_cond_t rfl ?_; refine aw_seq ?_; refine aw_region ?_; refine awl_s rfl (s_assign (v := .raw _) rfl) ?_; (with_reducible refine awl_nil ?_); refine k_seq_normal ?_; refine aw_ret ?_; refine k_seq_ret ?_; rotate_left; refine awl_s rfl (s_move (v := .sls _ _) rfl) ?_; refine zg3 rfl rfl rfl ?_; refine awl_s rfl (s_len_sls rfl) ?_; refine zg3 rfl rfl rfl ?_; refine awl_s rfl (s_gtn rfl rfl) ?_; refine awl_s rfl (s_pick_f (v := .raw _) rfl rfl) ?_; (with_reducible refine awl_nil ?_); refine k_seq_normal ?_; refine aw_condp rfl (fun hc => ?_) (fun hc => ?_); refine aw_seq ?_; refine aw_region ?_; refine awl_s rfl (s_assign (v := .raw _) rfl) ?_; (with_reducible refine awl_nil ?_); refine k_seq_normal ?_; refine aw_ret ?_; refine k_seq_ret ?_; rotate_left; exact absurd hc auto_no) | fail)
    all_goals try (exfalso; omega)
    all_goals exact ⟨.inl rfl, _, _, _, Ent.refl _ _, ret1 rfl rfl, rfl⟩
  obtain ⟨k, rfl⟩ : ∃ k : Nat, f = (k : Int) := ⟨f.toNat, by omega⟩
  have hk3 : k ≤ 3 := by omega
  have hl3 : l.length ≤ 300 := by omega
  clear h1 hl
  have hBg := fun H => begun_calls H (2 * k + 1) (by omega) (by omega) (by omega)
  (first | focus (refine aw_seq ?_; refine aw_region ?_; refine awl_s rfl (s_assign (v := .raw _) rfl) ?_; (with_reducible refine awl_nil ?_); refine k_seq_normal ?_; refine aw_seq ?_; refine aw_seq ?_; refine aw_region ?_; (((refine awl_callc rfl auto_wl (awake_calls _) (fun r H' hpost => ?_); obtain ⟨rfl, hfr⟩ := hpost))); refine awl_s rfl (s_notb rfl) ?_; (with_reducible refine awl_nil ?_); refine k_seq_normal ?_; refine aw_cond_f rfl ?_; refine aw_skip ?_; refine k_seq_normal ?_; refine aw_seq ?_; refine aw_seq ?_; refine aw_region ?_; refine awl_s rfl (s_move (v := .raw _) rfl) ?_; refine awl_s rfl (s_ltn rfl rfl) ?_; refine awl_s rfl (s_move (v := .raw _) rfl) ?_; refine zg2 rfl rfl rfl (fun hc => ?_) (fun hc => ?_); exact absurd hc auto_no; refine awl_s rfl (s_move (v := .raw _) rfl) ?_; refine zg3 rfl rfl rfl ?_; refine awl_s rfl (s_gtn rfl rfl) ?_; refine awl_s rfl (s_pick_f (v := .raw _) rfl rfl) ?_; refine awl_s rfl (s_move (v := .raw _) rfl) ?_; refine zg2 rfl rfl rfl (fun hc => ?_) (fun hc => ?_); exact absurd hc auto_no; refine awl_s rfl (s_move (v := .sls _ _) rfl) ?_; refine zg3 rfl rfl rfl ?_; refine awl_s rfl (s_len_sls rfl) ?_; refine zg3 rfl rfl rfl ?_; refine awl_s rfl (s_gtn rfl rfl) ?_; refine awl_s rfl (s_pick_f (v := .raw _) rfl rfl) ?_; (with_reducible refine awl_nil ?_); refine k_seq_normal ?_; refine aw_condp rfl (fun hc => ?_) (fun hc => ?_); exact absurd hc auto_no; refine aw_skip ?_; refine k_seq_normal ?_; refine aw_seq ?_; refine aw_region ?_; refine awl_s rfl (s_move (v := .raw _) rfl) ?_; refine awl_s rfl (s_muln rfl rfl auto_len) ?_; refine awl_s rfl (s_addn rfl rfl auto_len) ?_; (((refine awl_callc rfl auto_wl (hBg _) (fun r H' hpost => ?_); obtain ⟨O, F, rfl, a1, a2, a3⟩ := hpost))); refine awl_s rfl (s_assign (v := .ptr _ _) rfl) ?_; (with_reducible refine awl_nil ?_); refine k_seq_normal ?_; refine aw_seq ?_; refine aw_seq ?_; refine aw_region ?_; refine awl_s rfl (s_move (v := .ptr _ _) rfl) ?_; refine awl_s rfl (s_ptr_eqnil rfl rfl) ?_; (with_reducible refine awl_nil ?_); refine k_seq_normal ?_; refine aw_cond_f rfl ?_; refine aw_skip ?_; refine k_seq_normal ?_; refine aw_seq ?_; refine aw_seq ?_; refine aw_region ?_; refine awl_s rfl (s_assign (v := .raw _) rfl) ?_; (with_reducible refine awl_nil ?_); refine k_seq_normal ?_; refine aw_block ?_; rotate_left) | fail)
  all_goals try (exfalso; omega)
  clear hc
  have hX := WX.begun (n := 2 * k + 1) (by omega) (by omega) (by omega)
  refine aw_loop (fun mm R' H2 => ∃ (i : Nat) (O2 : Wo) (F2 : Nat → Ob) (g : Ag.Gh) (w : Ag.W), O2.w = O.w ∧ R' = [(1, .sls l.length (l.flatMap actC)), (5, .ptr O.w 0), (6, .raw (.int .i64 (i : Int)))] ∧ WAt H2 O2 F2 w ∧ WX g w i (200 * i) i ∧ i + mm = l.length) ?_ ?_
  · exact ⟨l.length, _, _, auto_ent, 0, O, F, _, _, rfl, rfl, a1, hX, by omega⟩
  clear a1 a2 a3 hX hBg hfr
  rintro mm R0 H2 ⟨i, O2, F2, g, w, ew, rfl, hA, hX, hi⟩
  by_cases hlt : i < l.length
  rotate_left
  · obtain rfl : i = l.length := by omega
    (first | focus (refine aw_seq ?_; refine aw_seq ?_; refine aw_region ?_; refine awl_s rfl (s_move (v := .raw _) rfl) ?_; refine awl_s rfl (s_move (v := .sls _ _) rfl) ?_; refine awl_s rfl (s_len_sls rfl) ?_; refine awl_s rfl (s_ltn rfl rfl) ?_; (with_reducible refine awl_nil ?_); refine k_seq_normal ?_; refine aw_condp rfl (fun hc => ?_) (fun hc => ?_); exact absurd hc auto_no; refine aw_exit ?_; refine k_seq_exit ?_; refine k_seq_exit ?_; refine k_block_eq ?_; refine k_seq_normal ?_; refine aw_seq ?_; refine aw_region ?_; refine awl_s rfl (s_assign (v := .raw _) rfl) ?_; (with_reducible refine awl_nil ?_); refine k_seq_normal ?_; refine aw_ret ?_; rotate_left) | fail)
    all_goals try (exfalso; omega)
    all_goals exact ⟨.inl rfl, _, _, _, Ent.refl _ _, ret1 rfl rfl, rfl⟩
  have hg : l[i]? = some l[i] := List.getElem?_eq_getElem hlt
  have ha := hok _ (List.getElem_mem hlt)
  have hg4 := act_at (j := 4) hg (by omega) rfl
  have hga := act_get hg
  generalize l[i] = a at *
  have hrw := ha.row
  unfold rowA at hg4
  by_cases hr20 : 20 < a.row.length
  · (first | focus (refine aw_seq ?_; refine aw_seq ?_; refine aw_region ?_; refine awl_s rfl (s_move (v := .raw _) rfl) ?_; refine awl_s rfl (s_move (v := .sls _ _) rfl) ?_; refine awl_s rfl (s_len_sls rfl) ?_; refine awl_s rfl (s_ltn rfl rfl) ?_; (with_reducible refine awl_nil ?_); refine k_seq_normal ?_; refine aw_condp rfl (fun hc => ?_) (fun hc => ?_); refine aw_skip ?_; refine k_seq_normal ?_; refine aw_seq ?_; refine aw_block ?_; refine aw_seq ?_; refine aw_region ?_; refine awl_s rfl (s_move (v := .sls _ _) rfl) ?_; refine awl_s rfl (s_move (v := .raw _) rfl) ?_; refine awl_s rfl (s_indexAddr_sls rfl rfl auto_len) ?_; refine awl_s rfl (s_fieldAddr_pce rfl) ?_; refine awl_s rfl (s_load_pce rfl auto_idx) ?_; refine awl_s rfl (s_len_sls rfl) ?_; refine awl_s rfl (s_gtn rfl rfl) ?_; refine awl_s rfl (s_move (v := .raw _) rfl) ?_; refine zg2 rfl rfl rfl (fun hc => ?_) (fun hc => ?_); refine zg4 rfl rfl rfl ?_; refine zg4 rfl rfl rfl ?_; refine zg4 rfl rfl rfl ?_; refine zg4 rfl rfl rfl ?_; refine zg4 rfl rfl rfl ?_; refine zg4 rfl rfl rfl ?_; refine awl_s rfl (s_pick_t (v := .raw _) rfl rfl) ?_; (with_reducible refine awl_nil ?_); refine k_seq_normal ?_; refine aw_cond_t rfl ?_; refine aw_seq ?_; refine aw_region ?_; refine awl_s rfl (s_move (v := .sls _ _) rfl) ?_; refine awl_s rfl (s_move (v := .raw _) rfl) ?_; refine awl_s rfl (s_indexAddr_sls rfl rfl auto_len) ?_; refine awl_s rfl (s_fieldAddr_pce rfl) ?_; refine awl_s rfl (s_load_pce rfl auto_idx) ?_; refine awl_s rfl (s_len_sls rfl) ?_; refine awl_s rfl (s_gtn rfl rfl) ?_; refine awl_s rfl (s_assign (v := .raw _) rfl) ?_; (with_reducible refine awl_nil ?_); refine k_seq_normal ?_; refine aw_ret ?_; refine k_block_ret ?_; refine k_seq_ret ?_; refine k_seq_ret ?_; refine k_block_ret ?_; refine k_seq_ret ?_; rotate_left; exact absurd hc auto_no; exact absurd hc auto_no) | fail)
    all_goals try (exfalso; omega)
    all_goals exact ⟨.inl rfl, _, _, _, Ent.refl _ _, ret1 rfl rfl, congrArg (fun b => AV.raw (Value.bool b)) (decide_eq_true hr20)⟩
  have hDo := do_at H2 O2 F2 g w i (200 * i) i a hA hX (by omega) (by omega) (by omega) ha (by omega)
  rw [ew] at hDo
  clear hX
  (first | focus (refine aw_seq ?_; refine aw_seq ?_; refine aw_region ?_; refine awl_s rfl (s_move (v := .raw _) rfl) ?_; refine awl_s rfl (s_move (v := .sls _ _) rfl) ?_; refine awl_s rfl (s_len_sls rfl) ?_; refine awl_s rfl (s_ltn rfl rfl) ?_; (with_reducible refine awl_nil ?_); refine k_seq_normal ?_; refine aw_condp rfl (fun hc => ?_) (fun hc => ?_); refine aw_skip ?_; refine k_seq_normal ?_; refine aw_seq ?_; refine aw_block ?_; refine aw_seq ?_; refine aw_region ?_; refine awl_s rfl (s_move (v := .sls _ _) rfl) ?_; refine awl_s rfl (s_move (v := .raw _) rfl) ?_; refine awl_s rfl (s_indexAddr_sls rfl rfl auto_len) ?_; refine awl_s rfl (s_fieldAddr_pce rfl) ?_; refine awl_s rfl (s_load_pce rfl auto_idx) ?_; refine awl_s rfl (s_len_sls rfl) ?_; refine awl_s rfl (s_gtn rfl rfl) ?_; refine awl_s rfl (s_move (v := .raw _) rfl) ?_; refine zg2 rfl rfl rfl (fun hc => ?_) (fun hc => ?_); exact absurd hc auto_no; refine awl_s rfl (s_move (v := .ptr _ _) rfl) ?_; refine zg3 rfl rfl rfl ?_; refine awl_s rfl (s_move (v := .sls _ _) rfl) ?_; refine zg3 rfl rfl rfl ?_; refine awl_s rfl (s_move (v := .raw _) rfl) ?_; refine zg3 rfl rfl rfl ?_; refine awl_s rfl (s_indexAddr_sls rfl rfl auto_len) ?_; refine zg3 rfl rfl rfl ?_; refine awl_s rfl (s_load_pce_agg rfl (by assumption) (by rfl) (by decide)) ?_; refine zg3 rfl rfl rfl ?_; (((refine awl_callc rfl auto_wl (hDo) (fun r H' hpost => ?_); obtain ⟨rfl, w', g', O', F', z1, z2, z3, z4, z5⟩ := hpost))); refine zg3 rfl rfl rfl ?_; refine awl_s rfl (s_notb rfl) ?_; refine awl_s rfl (s_pick_f (v := .raw _) rfl rfl) ?_; (with_reducible refine awl_nil ?_); refine k_seq_normal ?_; refine aw_cond_f rfl ?_; refine aw_skip ?_; refine k_block_normal ?_; refine k_seq_normal ?_; refine aw_region ?_; refine awl_s rfl (s_move (v := .raw _) rfl) ?_; refine awl_s rfl (s_addn rfl rfl auto_len) ?_; refine awl_s rfl (s_assign (v := .raw _) rfl) ?_; (with_reducible refine awl_nil ?_); refine k_seq_normal ?_; rotate_left; exact absurd hc auto_no) | fail)
  all_goals try (exfalso; omega)
  all_goals exact ⟨mm - 1, _, _, by omega, auto_ent, i + 1, O', F', g', w', z5.w.trans ew, rfl, z4, z2.more (by omega) (by omega) (by omega), by omega⟩
end Go.Proofs.Ytbciofnejefkiaa
