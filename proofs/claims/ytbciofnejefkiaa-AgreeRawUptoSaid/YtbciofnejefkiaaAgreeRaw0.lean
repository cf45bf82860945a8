import Derived.Test.YtbciofnejefkiaaIa7
set_option linter.unusedVariables false
namespace Go.Proofs.Ytbciofnejefkiaa
open Go Go.Am Go.Proofs
set_option linter.unusedSimpArgs false
set_option linter.unusedVariables false
set_option maxRecDepth 20000
set_option maxHeartbeats 4000000

/-! Records that no replica saved. -/
theorem openB_fine {me n : Nat} : ∀ (l : List (List UInt8)) {c d : Ag.Co}, CFine c → openB me n c l = some d → CFine d ∧ d.me = c.me ∧ d.n = c.n ∧ d.quiet = c.quiet
  | [], c, d, hf, h => by rw [openB] at h; cases h; exact ⟨hf, rfl, rfl, rfl⟩
  | b :: l, c, d, hf, h => by
    rw [openB] at h
    split at h
    · next hp =>
      obtain ⟨k1, k2, k3, k4, k5⟩ := rdX_fine hp
      generalize rdX b = x at *
      cases ha : c.apply x with
      | none => rw [ha] at h; cases h
      | some e =>
        rw [ha, Option.bind_some] at h
        obtain ⟨c1, c2, c3⟩ := CFine.apply hf k1 k3 k4 ha
        obtain ⟨d1, d2, d3, d4⟩ := openB_fine l c1 h
        refine ⟨d1, d2.trans c2, d3.trans c3, d4.trans ?_⟩
        unfold Ag.Co.apply at ha
        repeat' split at ha
        all_goals first | (cases ha; rfl) | cases ha
    · cases h
theorem e1ok : (⟨1, 0, [1]⟩ : En).Ok := ⟨by decide, by decide, fun v hv => by rw [show v = 1 from List.mem_singleton.1 hv]; decide⟩
theorem bys_at {l : List (List UInt8)} {i : Nat} {b : List UInt8} (h : l[i]? = some b) : (l.map AV.bys)[i]? = some (.bys b) := by simp [h]
theorem AgreeRaw_calls (H : AHeap) (me f : Int) (raw : List (List UInt8)) (hm : b64 me) (hf : b64 f) (hl : raw.length ≤ 2000000) (hb : ∀ b ∈ raw, b.length ≤ 2000000) : ACalls Try.prog 4 [mI me, mI f, .sls raw.length (raw.map .bys)] H fun r H' => r = .raw (.bool true) := by
  refine acalls_of_aw3 Try.func4 rfl (by decide) ?_
  by_cases h1 : f < 0 ∨ 3 < f ∨ 10 < raw.length
  · (first | focus (refine aw_seq ?_; refine aw_region ?_; refine awl_s rfl (s_assign (v := .raw _) rfl) ?_; (with_reducible refine awl_nil ?_); refine k_seq_normal ?_; refine aw_seq ?_; refine aw_seq ?_; refine aw_region ?_; (((refine awl_callc rfl auto_wl (awake_calls _) (fun r H' hpost => ?_); obtain ⟨rfl, hfr⟩ := hpost))); refine awl_s rfl (s_notb rfl) ?_; (with_reducible refine awl_nil ?_); refine k_seq_normal ?_; refine aw_cond_f rfl ?_; refine aw_skip ?_; refine k_seq_normal ?_; refine aw_seq ?_; refine aw_seq ?_; refine aw_region ?_; refine awl_s rfl (s_move (v := .raw _) rfl) ?_; refine awl_s rfl (s_lss rfl rfl) ?_; refine awl_s rfl (s_move (v := .raw _) rfl) ?_; refine zg2 rfl rfl rfl (fun hc => ?_) (fun hc => ?_); refine zg4 rfl rfl rfl ?_; refine awl_s rfl (s_pick_t (v := .raw _) rfl rfl) ?_; refine awl_s rfl (s_move (v := .raw _) rfl) ?_; refine zg4 rfl rfl rfl ?_; refine zg4 rfl rfl rfl ?_; refine zg4 rfl rfl rfl ?_; refine awl_s rfl (s_pick_t (v := .raw _) rfl rfl) ?_; (with_reducible refine awl_nil ?_); refine k_seq_normal ?_; refine aw_cond_t rfl ?_; refine aw_seq ?_; refine aw_region ?_; refine awl_s rfl (s_assign (v := .raw _) rfl) ?_; (with_reducible refine awl_nil ?_); refine k_seq_normal ?_; refine aw_ret ?_; refine k_seq_ret ?_; rotate_left; refine awl_s rfl (s_move (v := .raw _) rfl) ?_; refine zg3 rfl rfl rfl ?_; refine awl_s rfl (s_gtr rfl rfl) ?_; refine awl_s rfl (s_pick_f (v := .raw _) rfl rfl) ?_; refine awl_s rfl (s_move (v := .raw _) rfl) ?_; refine zg2 rfl rfl rfl (fun hc => ?_) (fun hc => ?_); refine zg4 rfl rfl rfl ?_; refine zg4 rfl rfl rfl ?_; refine awl_s rfl (s_pick_t (v := .raw _) rfl rfl) ?_; (with_reducible refine awl_nil ?_); refine k_seq_normal ?_; refine aw_cond_t rfl ?_; refine aw_seq ?_; refine aw_region ?_; refine awl_s rfl (s_assign (v := .raw _) rfl) ?_; (with_reducible refine awl_nil ?_); refine k_seq_normal ?_; refine aw_ret ?_; refine k_seq_ret ?_; rotate_left; refine awl_s rfl (s_move (v := .sls _ _) rfl) ?_; refine zg3 rfl rfl rfl ?_; refine awl_s rfl (s_len_sls rfl) ?_; refine zg3 rfl rfl rfl ?_; refine awl_s rfl (s_gtn rfl rfl) ?_; refine awl_s rfl (s_pick_f (v := .raw _) rfl rfl) ?_; (with_reducible refine awl_nil ?_); refine k_seq_normal ?_; refine aw_condp rfl (fun hc => ?_) (fun hc => ?_); refine aw_seq ?_; refine aw_region ?_; refine awl_s rfl (s_assign (v := .raw _) rfl) ?_; (with_reducible refine awl_nil ?_); refine k_seq_normal ?_; refine aw_ret ?_; refine k_seq_ret ?_; rotate_left; exact absurd hc auto_no) | fail)
    all_goals try (exfalso; omega)
    all_goals exact ⟨.inl rfl, _, _, _, Ent.refl _ _, ret1 rfl rfl, rfl⟩
  obtain ⟨k, rfl⟩ : ∃ k : Nat, f = (k : Int) := ⟨f.toNat, by omega⟩
  have hk3 : k ≤ 3 := by omega
  have hl10 : raw.length ≤ 10 := by omega
  clear h1 hl
  (first | focus (refine aw_seq ?_; refine aw_region ?_; refine awl_s rfl (s_assign (v := .raw _) rfl) ?_; (with_reducible refine awl_nil ?_); refine k_seq_normal ?_; refine aw_seq ?_; refine aw_seq ?_; refine aw_region ?_; (((refine awl_callc rfl auto_wl (awake_calls _) (fun r H' hpost => ?_); obtain ⟨rfl, hfr⟩ := hpost))); refine awl_s rfl (s_notb rfl) ?_; (with_reducible refine awl_nil ?_); refine k_seq_normal ?_; refine aw_cond_f rfl ?_; refine aw_skip ?_; refine k_seq_normal ?_; refine aw_seq ?_; refine aw_seq ?_; refine aw_region ?_; refine awl_s rfl (s_move (v := .raw _) rfl) ?_; refine awl_s rfl (s_ltn rfl rfl) ?_; refine awl_s rfl (s_move (v := .raw _) rfl) ?_; refine zg2 rfl rfl rfl (fun hc => ?_) (fun hc => ?_); exact absurd hc auto_no; refine awl_s rfl (s_move (v := .raw _) rfl) ?_; refine zg3 rfl rfl rfl ?_; refine awl_s rfl (s_gtn rfl rfl) ?_; refine awl_s rfl (s_pick_f (v := .raw _) rfl rfl) ?_; refine awl_s rfl (s_move (v := .raw _) rfl) ?_; refine zg2 rfl rfl rfl (fun hc => ?_) (fun hc => ?_); exact absurd hc auto_no; refine awl_s rfl (s_move (v := .sls _ _) rfl) ?_; refine zg3 rfl rfl rfl ?_; refine awl_s rfl (s_len_sls rfl) ?_; refine zg3 rfl rfl rfl ?_; refine awl_s rfl (s_gtn rfl rfl) ?_; refine awl_s rfl (s_pick_f (v := .raw _) rfl rfl) ?_; (with_reducible refine awl_nil ?_); refine k_seq_normal ?_; refine aw_condp rfl (fun hc => ?_) (fun hc => ?_); exact absurd hc auto_no; refine aw_skip ?_; refine k_seq_normal ?_; refine aw_seq ?_; refine aw_seq ?_; refine aw_region ?_; refine awl_s rfl (s_assign (v := .raw _) rfl) ?_; (with_reducible refine awl_nil ?_); refine k_seq_normal ?_; refine aw_block ?_; rotate_left) | fail)
  all_goals try (exfalso; omega)
  clear hc hfr
  refine aw_loop (fun mm R' H2 => ∃ (i : Nat), H2 = H' ∧ R' = [(0, mI me), (1, mI (k : Int)), (2, .sls raw.length (raw.map .bys)), (7, .raw (.int .i64 (i : Int)))] ∧ (∀ j b, j < i → raw[j]? = some b → b.length ≤ 200) ∧ i + mm = raw.length) ?_ ?_
  · exact ⟨raw.length, _, _, auto_ent, 0, rfl, rfl, fun j b hj => absurd hj (Nat.not_lt_zero _), by omega⟩
  rintro mm R0 H2 ⟨i, rfl, rfl, hsm, hi⟩
  by_cases hlt : i < raw.length
  · have hg : raw[i]? = some raw[i] := List.getElem?_eq_getElem hlt
    have hbb := hb _ (List.getElem_mem hlt)
    have g1 := bys_at hg
    have hst : raw[i].length ≤ 200 → ∀ (j : Nat) (b : List UInt8), j < i + 1 → raw[j]? = some b → b.length ≤ 200 := fun h j b hj hb => by
      rcases Nat.lt_succ_iff_lt_or_eq.1 hj with h2 | rfl
      · exact hsm j b h2 hb
      · rw [hg] at hb; cases hb; exact h
    generalize raw[i] = b at *
    (first | focus (refine aw_seq ?_; refine aw_seq ?_; refine aw_region ?_; refine awl_s rfl (s_move (v := .raw _) rfl) ?_; refine awl_s rfl (s_move (v := .sls _ _) rfl) ?_; refine awl_s rfl (s_len_sls rfl) ?_; refine awl_s rfl (s_ltn rfl rfl) ?_; (with_reducible refine awl_nil ?_); refine k_seq_normal ?_; refine aw_condp rfl (fun hc => ?_) (fun hc => ?_); refine aw_skip ?_; refine k_seq_normal ?_; refine aw_seq ?_; refine aw_block ?_; refine aw_seq ?_; refine aw_region ?_; refine awl_s rfl (s_move (v := .sls _ _) rfl) ?_; refine awl_s rfl (s_move (v := .raw _) rfl) ?_; refine awl_s rfl (s_indexAddr_sls rfl rfl auto_len) ?_; refine awl_s rfl (s_load_pce rfl auto_idx) ?_; refine awl_s rfl (s_len_bys rfl) ?_; refine awl_s rfl (s_gtn rfl rfl) ?_; (with_reducible refine awl_nil ?_); refine k_seq_normal ?_; refine aw_condp rfl (fun hc => ?_) (fun hc => ?_); refine aw_seq ?_; refine aw_region ?_; refine awl_s rfl (s_assign (v := .raw _) rfl) ?_; (with_reducible refine awl_nil ?_); refine k_seq_normal ?_; refine aw_ret ?_; refine k_block_ret ?_; refine k_seq_ret ?_; refine k_seq_ret ?_; refine k_block_ret ?_; refine k_seq_ret ?_; rotate_left; refine aw_skip ?_; refine k_block_normal ?_; refine k_seq_normal ?_; refine aw_region ?_; refine awl_s rfl (s_move (v := .raw _) rfl) ?_; refine awl_s rfl (s_addn rfl rfl auto_len) ?_; refine awl_s rfl (s_assign (v := .raw _) rfl) ?_; (with_reducible refine awl_nil ?_); refine k_seq_normal ?_; rotate_left; exact absurd hc auto_no) | fail)
    all_goals first
      | (exfalso; omega)
      | exact ⟨.inl rfl, _, _, _, Ent.refl _ _, ret1 rfl rfl, rfl⟩
      | exact ⟨mm - 1, _, _, by omega, auto_ent, i + 1, rfl, rfl, hst (by omega), by omega⟩
  obtain rfl : i = raw.length := by omega
  have hall : ∀ b ∈ raw, b.length ≤ 1000000 := fun b hb => by
    obtain ⟨j, hj⟩ := List.getElem?_of_mem hb
    have := hsm j b (List.getElem?_eq_some_iff.1 hj).1 hj
    omega
  clear hsm hb
  by_cases hmb : me < 0 ∨ (2 * k + 1 : Int) ≤ me
  · (first | focus (refine aw_seq ?_; refine aw_seq ?_; refine aw_region ?_; refine awl_s rfl (s_move (v := .raw _) rfl) ?_; refine awl_s rfl (s_move (v := .sls _ _) rfl) ?_; refine awl_s rfl (s_len_sls rfl) ?_; refine awl_s rfl (s_ltn rfl rfl) ?_; (with_reducible refine awl_nil ?_); refine k_seq_normal ?_; refine aw_condp rfl (fun hc => ?_) (fun hc => ?_); exact absurd hc auto_no; refine aw_exit ?_; refine k_seq_exit ?_; refine k_seq_exit ?_; refine k_block_eq ?_; refine k_seq_normal ?_; refine aw_seq ?_; refine aw_region ?_; refine awl_s rfl (s_move (v := .raw _) rfl) ?_; refine awl_s rfl (s_move (v := .raw _) rfl) ?_; refine awl_s rfl (s_muln rfl rfl auto_len) ?_; refine awl_s rfl (s_addn rfl rfl auto_len) ?_; refine awl_s rfl (s_move (v := .sls _ _) rfl) ?_; (((refine awl_callc rfl auto_wl (Open_bad _ me ((2 * k + 1 : Nat) : Int) _ (by omega)) (fun r H' hpost => ?_); obtain ⟨rfl, rfl⟩ := hpost))); refine awl_s rfl (s_move (v := .tup _) rfl) ?_; refine awl_s rfl (s_extract rfl rfl) ?_; refine awl_s rfl (s_extract rfl rfl) ?_; refine awl_s rfl (s_assign (v := .raw _) rfl) ?_; refine awl_s rfl (s_assign (v := .raw _) rfl) ?_; (with_reducible refine awl_nil ?_); refine k_seq_normal ?_; refine aw_seq ?_; refine aw_seq ?_; refine aw_region ?_; refine awl_s rfl (s_move (v := .raw _) rfl) ?_; refine awl_s rfl (s_lss rfl rfl) ?_; refine awl_s rfl (s_move (v := .raw _) rfl) ?_; refine zg2 rfl rfl rfl (fun hc => ?_) (fun hc => ?_); refine zg4 rfl rfl rfl ?_; refine zg4 rfl rfl rfl ?_; refine zg4 rfl rfl rfl ?_; refine awl_s rfl (s_pick_t (v := .raw _) rfl rfl) ?_; (with_reducible refine awl_nil ?_); refine k_seq_normal ?_; refine aw_cond_t rfl ?_; refine aw_seq ?_; refine aw_region ?_; refine awl_s rfl (s_move (v := .raw _) rfl) ?_; refine awl_s rfl (s_eqn rfl rfl) ?_; refine awl_s rfl (s_move (v := .raw _) rfl) ?_; refine zg1 rfl rfl rfl (fun hc => ?_) (fun hc => ?_); refine awl_s rfl (s_move (v := .raw _) rfl) ?_; refine zg3 rfl rfl rfl ?_; refine awl_s rfl (s_nil_eqnil rfl rfl) ?_; refine awl_s rfl (s_pick_t (v := .raw _) rfl rfl) ?_; refine awl_s rfl (s_assign (v := .raw _) rfl) ?_; (with_reducible refine awl_nil ?_); refine k_seq_normal ?_; refine aw_ret ?_; refine k_seq_ret ?_; rotate_left; exact absurd hc auto_no; refine awl_s rfl (s_move (v := .raw _) rfl) ?_; refine zg3 rfl rfl rfl ?_; refine awl_s rfl (s_move (v := .raw _) rfl) ?_; refine zg3 rfl rfl rfl ?_; refine awl_s rfl (s_muln rfl rfl auto_len) ?_; refine zg3 rfl rfl rfl ?_; refine awl_s rfl (s_gtr rfl rfl) ?_; refine awl_s rfl (s_pick_f (v := .raw _) rfl rfl) ?_; (with_reducible refine awl_nil ?_); refine k_seq_normal ?_; refine aw_condp rfl (fun hc => ?_) (fun hc => ?_); refine aw_seq ?_; refine aw_region ?_; refine awl_s rfl (s_move (v := .raw _) rfl) ?_; refine awl_s rfl (s_eqn rfl rfl) ?_; refine awl_s rfl (s_move (v := .raw _) rfl) ?_; refine zg1 rfl rfl rfl (fun hc => ?_) (fun hc => ?_); refine awl_s rfl (s_move (v := .raw _) rfl) ?_; refine zg3 rfl rfl rfl ?_; refine awl_s rfl (s_nil_eqnil rfl rfl) ?_; refine awl_s rfl (s_pick_t (v := .raw _) rfl rfl) ?_; refine awl_s rfl (s_assign (v := .raw _) rfl) ?_; (with_reducible refine awl_nil ?_); refine k_seq_normal ?_; refine aw_ret ?_; refine k_seq_ret ?_; rotate_left; exact absurd hc auto_no; exact absurd hc auto_no) | fail)
    all_goals try (exfalso; omega)
    all_goals exact ⟨.inl rfl, _, _, _, Ent.refl _ _, ret1 rfl rfl, rfl⟩
  obtain ⟨m, rfl⟩ : ∃ m : Nat, me = (m : Int) := ⟨me.toNat, by omega⟩
  have hmn : m < 2 * k + 1 := by omega
  clear hmb hm hf
  have hO := Open_calls H2 m (2 * k + 1) raw hmn (by omega) (by omega) (by omega) hall
  have hOf := fun d => openB_fine (me := m) (n := 2 * k + 1) raw (d := d) (CFine.new hmn (by omega))
  cases ho : openB m (2 * k + 1) (Ag.Co.new m (2 * k + 1)) raw with
  | none =>
    rw [ho] at hO
    clear ho hOf
    (first | focus (refine aw_seq ?_; refine aw_seq ?_; refine aw_region ?_; refine awl_s rfl (s_move (v := .raw _) rfl) ?_; refine awl_s rfl (s_move (v := .sls _ _) rfl) ?_; refine awl_s rfl (s_len_sls rfl) ?_; refine awl_s rfl (s_ltn rfl rfl) ?_; (with_reducible refine awl_nil ?_); refine k_seq_normal ?_; refine aw_condp rfl (fun hc => ?_) (fun hc => ?_); exact absurd hc auto_no; refine aw_exit ?_; refine k_seq_exit ?_; refine k_seq_exit ?_; refine k_block_eq ?_; refine k_seq_normal ?_; refine aw_seq ?_; refine aw_region ?_; refine awl_s rfl (s_move (v := .raw _) rfl) ?_; refine awl_s rfl (s_move (v := .raw _) rfl) ?_; refine awl_s rfl (s_muln rfl rfl auto_len) ?_; refine awl_s rfl (s_addn rfl rfl auto_len) ?_; refine awl_s rfl (s_move (v := .sls _ _) rfl) ?_; (((refine awl_callc rfl auto_wl (hO) (fun r H' hpost => ?_); obtain ⟨rfl, hfr⟩ := hpost))); refine awl_s rfl (s_move (v := .tup _) rfl) ?_; refine awl_s rfl (s_extract rfl rfl) ?_; refine awl_s rfl (s_extract rfl rfl) ?_; refine awl_s rfl (s_assign (v := .raw _) rfl) ?_; refine awl_s rfl (s_assign (v := .raw _) rfl) ?_; (with_reducible refine awl_nil ?_); refine k_seq_normal ?_; refine aw_seq ?_; refine aw_seq ?_; refine aw_region ?_; refine awl_s rfl (s_move (v := .raw _) rfl) ?_; refine awl_s rfl (s_ltn rfl rfl) ?_; refine awl_s rfl (s_move (v := .raw _) rfl) ?_; refine zg2 rfl rfl rfl (fun hc => ?_) (fun hc => ?_); exact absurd hc auto_no; refine awl_s rfl (s_move (v := .raw _) rfl) ?_; refine zg3 rfl rfl rfl ?_; refine awl_s rfl (s_move (v := .raw _) rfl) ?_; refine zg3 rfl rfl rfl ?_; refine awl_s rfl (s_muln rfl rfl auto_len) ?_; refine zg3 rfl rfl rfl ?_; refine awl_s rfl (s_gtn rfl rfl) ?_; refine awl_s rfl (s_pick_f (v := .raw _) rfl rfl) ?_; (with_reducible refine awl_nil ?_); refine k_seq_normal ?_; refine aw_condp rfl (fun hc => ?_) (fun hc => ?_); exact absurd hc auto_no; refine aw_skip ?_; refine k_seq_normal ?_; refine aw_seq ?_; refine aw_seq ?_; refine aw_region ?_; refine awl_s rfl (s_move (v := .raw _) rfl) ?_; refine awl_s rfl (s_nen rfl rfl) ?_; (with_reducible refine awl_nil ?_); refine k_seq_normal ?_; refine aw_condp rfl (fun hc => ?_) (fun hc => ?_); refine aw_seq ?_; refine aw_region ?_; refine awl_s rfl (s_move (v := .raw _) rfl) ?_; refine awl_s rfl (s_eqn rfl rfl) ?_; refine awl_s rfl (s_move (v := .raw _) rfl) ?_; refine zg1 rfl rfl rfl (fun hc => ?_) (fun hc => ?_); refine awl_s rfl (s_move (v := .raw _) rfl) ?_; refine zg3 rfl rfl rfl ?_; refine awl_s rfl (s_nil_eqnil rfl rfl) ?_; refine awl_s rfl (s_pick_t (v := .raw _) rfl rfl) ?_; refine awl_s rfl (s_assign (v := .raw _) rfl) ?_; (with_reducible refine awl_nil ?_); refine k_seq_normal ?_; refine aw_ret ?_; refine k_seq_ret ?_; rotate_left; exact absurd hc auto_no; exact absurd hc auto_no) | fail)
    all_goals try (exfalso; omega)
    all_goals exact ⟨.inl rfl, _, _, _, Ent.refl _ _, ret1 rfl rfl, rfl⟩
  | some c0 =>
    obtain ⟨f1, f2, f3, f4⟩ := hOf c0 ho
    rw [ho] at hO
    clear ho hOf
    replace hO : ACalls Try.prog 16 [mI (m : Int), mI ((2 * k + 1 : Nat) : Int), .sls raw.length (raw.map .bys)] H2 fun r H' => ∃ (F : Ob) (c : Ag.Co), CFine c ∧ c.quiet = 0 ∧ r = .tup [.ptr F.o 0, mI 0] ∧ CAt H' F c ∧ NdC F := hO.mono fun r H' ⟨⟨F, q1, q2, q3, q4⟩, _⟩ => ⟨F, _, by split; exact f1.full; exact f1, by split; exact f4; exact f4, q1, q2, q3⟩
    clear f1 f2 f3 f4 c0
    (first | focus (refine aw_seq ?_; refine aw_seq ?_; refine aw_region ?_; refine awl_s rfl (s_move (v := .raw _) rfl) ?_; refine awl_s rfl (s_move (v := .sls _ _) rfl) ?_; refine awl_s rfl (s_len_sls rfl) ?_; refine awl_s rfl (s_ltn rfl rfl) ?_; (with_reducible refine awl_nil ?_); refine k_seq_normal ?_; refine aw_condp rfl (fun hc => ?_) (fun hc => ?_); exact absurd hc auto_no; refine aw_exit ?_; refine k_seq_exit ?_; refine k_seq_exit ?_; refine k_block_eq ?_; refine k_seq_normal ?_; refine aw_seq ?_; refine aw_region ?_; refine awl_s rfl (s_move (v := .raw _) rfl) ?_; refine awl_s rfl (s_move (v := .raw _) rfl) ?_; refine awl_s rfl (s_muln rfl rfl auto_len) ?_; refine awl_s rfl (s_addn rfl rfl auto_len) ?_; refine awl_s rfl (s_move (v := .sls _ _) rfl) ?_; (((refine awl_callc rfl auto_wl (hO) (fun r H' hpost => ?_); obtain ⟨F, c, f1, f2, rfl, a1, a2⟩ := hpost))); refine awl_s rfl (s_move (v := .tup _) rfl) ?_; refine awl_s rfl (s_extract rfl rfl) ?_; refine awl_s rfl (s_extract rfl rfl) ?_; refine awl_s rfl (s_assign (v := .ptr _ _) rfl) ?_; refine awl_s rfl (s_assign (v := .raw _) rfl) ?_; (with_reducible refine awl_nil ?_); refine k_seq_normal ?_; refine aw_seq ?_; refine aw_seq ?_; refine aw_region ?_; refine awl_s rfl (s_move (v := .raw _) rfl) ?_; refine awl_s rfl (s_ltn rfl rfl) ?_; refine awl_s rfl (s_move (v := .raw _) rfl) ?_; refine zg2 rfl rfl rfl (fun hc => ?_) (fun hc => ?_); exact absurd hc auto_no; refine awl_s rfl (s_move (v := .raw _) rfl) ?_; refine zg3 rfl rfl rfl ?_; refine awl_s rfl (s_move (v := .raw _) rfl) ?_; refine zg3 rfl rfl rfl ?_; refine awl_s rfl (s_muln rfl rfl auto_len) ?_; refine zg3 rfl rfl rfl ?_; refine awl_s rfl (s_gtn rfl rfl) ?_; refine awl_s rfl (s_pick_f (v := .raw _) rfl rfl) ?_; (with_reducible refine awl_nil ?_); refine k_seq_normal ?_; refine aw_condp rfl (fun hc => ?_) (fun hc => ?_); exact absurd hc auto_no; refine aw_skip ?_; refine k_seq_normal ?_; refine aw_seq ?_; refine aw_seq ?_; refine aw_region ?_; refine awl_s rfl (s_move (v := .raw _) rfl) ?_; refine awl_s rfl (s_nen rfl rfl) ?_; (with_reducible refine awl_nil ?_); refine k_seq_normal ?_; refine aw_condp rfl (fun hc => ?_) (fun hc => ?_); exact absurd hc auto_no; refine aw_skip ?_; refine k_seq_normal ?_; rotate_left) | fail)
    have hT := Tick_calls _ F c a1 a2 f1 (by omega)
    obtain ⟨t1, t2⟩ := tick_fine f1 (by omega)
    have t3 := (gr_tick c).2
    have t4 := t1.c
    generalize c.tick = s1 at *
    (first | focus (refine aw_seq ?_; refine aw_region ?_; refine awl_s rfl (s_move (v := .ptr _ _) rfl) ?_; (((refine awl_callc rfl auto_wl (hT) (fun r H' hpost => ?_); obtain ⟨rfl, F2, b1, b2⟩ := hpost))); (with_reducible refine awl_nil ?_); refine k_seq_normal ?_; rotate_left) | fail)
    have hS := Submit_calls _ F2 s1.c 1 [1] b1 b2.nd t4 e1ok (by simp)
    have g1 := (submit_fine t4 e1ok).1.c
    have g2 := (gr_submit s1.c 1 [1]).quiet
    rw [b2.o] at hS
    generalize s1.c.submit 1 [1] = s2 at *
    (first | focus (refine aw_seq ?_; refine aw_region ?_; refine awl_s rfl (s_move (v := .ptr _ _) rfl) ?_; refine awl_s rfl (s_buildSlicev (by ((repeat' (first | exact eqL_nil | apply eqL_cons)); all_goals (first | exact (rfl : _ = AV.raw _) | exact (rfl : _ = AV.bys _) | exact (rfl : _ = AV.vw _ _ _ _) | exact (rfl : _ = AV.ptr _ _) | exact (rfl : _ = AV.str _) | exact (rfl : _ = AV.sls _ _) | exact (rfl : _ = AV.tup _) | exact (rfl : _ = AV.agg _) | exact (rfl : _ = AV.pce _ _) | exact (rfl : _ = AV.emp) | exact (rfl : _ = AV.bysx _) | exact (rfl : _ = AV.slsx _ _) | exact (rfl : _ = AV.mp _) | exact (rfl : _ = AV.fnc _ _ _) | exact (rfl : _ = AV.pby _ _) | exact (rfl : _ = AV.ifc _ _)))) (by rfl) (by rfl) (by rfl) (by ((repeat' (first | exact eqL_nil | apply eqL_cons)); all_goals (first | exact (rfl : _ = AV.raw _) | exact (rfl : _ = AV.bys _) | exact (rfl : _ = AV.vw _ _ _ _) | exact (rfl : _ = AV.ptr _ _) | exact (rfl : _ = AV.str _) | exact (rfl : _ = AV.sls _ _) | exact (rfl : _ = AV.tup _) | exact (rfl : _ = AV.agg _) | exact (rfl : _ = AV.pce _ _) | exact (rfl : _ = AV.emp) | exact (rfl : _ = AV.bysx _) | exact (rfl : _ = AV.slsx _ _) | exact (rfl : _ = AV.mp _) | exact (rfl : _ = AV.fnc _ _ _) | exact (rfl : _ = AV.pby _ _) | exact (rfl : _ = AV.ifc _ _)))) (by decide)) ?_; (((refine awl_callc rfl auto_wl (hS) (fun r H' hpost => ?_); obtain ⟨rfl, F3, c1, c2⟩ := hpost))); (with_reducible refine awl_nil ?_); refine k_seq_normal ?_; rotate_left) | fail)
    have hT2 := Tick_calls _ F3 s2.c c1 c2.nd g1 (by omega)
    have g3 := (tick_fine g1 (by omega)).1.c
    rw [c2.o, b2.o] at hT2
    generalize s2.c.tick = s3 at *
    (first | focus (refine aw_seq ?_; refine aw_region ?_; refine awl_s rfl (s_move (v := .ptr _ _) rfl) ?_; (((refine awl_callc rfl auto_wl (hT2) (fun r H' hpost => ?_); obtain ⟨rfl, F4, d1, d2⟩ := hpost))); (with_reducible refine awl_nil ?_); refine k_seq_normal ?_; rotate_left) | fail)
    have hL := Committed_calls _ F4 s3.c d1 g3
    have hl1 : (s3.c.list.take s3.c.agreed).length ≤ 200 := by have := g3.list.len; rw [List.length_take]; omega
    rw [d2.o, c2.o, b2.o] at hL
    generalize s3.c.list.take s3.c.agreed = L at *
    (first | focus (refine aw_seq ?_; refine aw_region ?_; refine awl_s rfl (s_move (v := .ptr _ _) rfl) ?_; (((refine awl_callc rfl auto_wl (hL) (fun r H' hpost => ?_); obtain ⟨rfl, rfl⟩ := hpost))); refine awl_s rfl (s_len_sls rfl) ?_; refine awl_s rfl (s_len_ rfl rfl) ?_; refine awl_s rfl (s_assign (v := .raw _) rfl) ?_; (with_reducible refine awl_nil ?_); refine k_seq_normal ?_; refine aw_ret ?_; rotate_left) | fail)
    all_goals try (exfalso; omega)
    exact ⟨.inl rfl, _, _, _, Ent.refl _ _, ret1 rfl rfl, congrArg (fun b => AV.raw (Value.bool b)) (decide_eq_true hl1)⟩
end Go.Proofs.Ytbciofnejefkiaa
