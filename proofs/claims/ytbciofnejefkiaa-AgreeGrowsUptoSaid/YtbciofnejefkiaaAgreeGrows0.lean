import Derived.Test.YtbciofnejefkiaaAgreeSafe0
set_option linter.unusedVariables false
namespace Go.Proofs.Ytbciofnejefkiaa
open Go Go.Am Go.Proofs
set_option linter.unusedSimpArgs false
set_option linter.unusedVariables false
set_option maxRecDepth 20000
set_option maxHeartbeats 4000000

/-! What a replica tells only grows: the walk of the law. -/
theorem step_grows {w w' : Ag.W} {r : Nat} {s : Ag.St} (h : w.step r s = some w') (hk : ∀ p, w.cut p = none) (hg : (w.c r).agreed ≤ s.c.agreed) : (∀ p, (w.c p).agreed ≤ (w'.c p).agreed) ∧ ∀ p, w'.cut p = none := by
  rcases step_shape h with ⟨_, b, e⟩ | ⟨k, d, b, hk2, _⟩
  · rw [e]
    refine ⟨fun p => ?_, hk⟩
    show (w.c p).agreed ≤ (Ag.upd w.c r s.c p).agreed
    unfold Ag.upd
    split
    · next e2 => rw [e2]; exact hg
    · exact Nat.le_refl _
  · rw [hk r] at hk2; cases hk2
theorem act_grows {w w' : Ag.W} {a : Ag.Act} (ho : a.op < 5) (hk : ∀ p, w.cut p = none) (h : w.act a = some w') : (∀ p, (w.c p).agreed ≤ (w'.c p).agreed) ∧ ∀ p, w'.cut p = none := by
  unfold Ag.W.act at h
  have h0 : (∀ p, (w.c p).agreed ≤ (w.c p).agreed) ∧ ∀ p, w.cut p = none := ⟨fun p => Nat.le_refl _, hk⟩
  split at h
  · split at h
    · have hvc : (wIn w a).c = w.c := by unfold wIn; split <;> rfl
      have hvk : (wIn w a).cut = w.cut := by unfold wIn; split <;> rfl
      have h2 : Ag.W.step (wIn w a) a.r.toNat ((w.c a.r.toNat).submit a.id a.row) = some w' := h
      have := step_grows h2 (by rw [hvk]; exact hk) (by rw [hvc]; exact (gr_submit _ _ _).agr)
      rw [hvc] at this
      exact this
    · cases h; exact h0
  split at h
  · split at h
    · exact step_grows h hk (gr_tick _).1
    · cases h; exact h0
  split at h
  · cases hm : (if w.packet a then w.l[a.k.toNat]? else none) with
    | none => rw [hm] at h; cases h; exact h0
    | some m =>
      rw [hm] at h
      exact step_grows (w := w.out a.k.toNat) h hk (gr_get _ _).agr
  split at h
  · split at h
    · cases h; exact h0
    · cases h; exact h0
  split at h
  · cases hm : (if w.packet a then w.l[a.k.toNat]? else none) with
    | none => rw [hm] at h; cases h; exact h0
    | some m =>
      rw [hm] at h
      dsimp only at h
      split at h
      · cases h; exact h0
      · cases h; exact h0
  split at h
  · omega
  split at h
  · omega
  · cases h; exact h0
theorem WAt.ext {H H' : AHeap} {O : Wo} {F : Nat → Ob} {w : Ag.W} (h : WAt H O F w) (fr : ∀ p y, H p = some y → H' p = some y) : WAt H' O F w :=
  ⟨fr _ _ h.aw, fr _ _ h.ac, fr _ _ h.asv, fr _ _ h.ak, fr _ _ h.al, fr _ _ h.ai, fr _ _ h.ar, fr _ _ h.ab, h.nd, fun r hr => (h.co r hr).ext fr, h.ndC, h.ap, h.rr⟩
theorem WAt.other {H : AHeap} {O : Wo} {F : Nat → Ob} {w : Ag.W} (h : WAt H O F w) {p : Nat} (hd : ¬ Dom O F w.n p) (y : AO) : WAt (H.set p y) O F w := by
  have hs : ∀ q z, Dom O F w.n q → H q = some z → (H.set p y) q = some z := fun q z hq hz => AHeap.get_skip (fun e => hd (e ▸ hq)) hz
  exact ⟨hs _ _ (.inl (by simp [Wo.l'])) h.aw, hs _ _ (.inl (by simp [Wo.l'])) h.ac, hs _ _ (.inl (by simp [Wo.l'])) h.asv, hs _ _ (.inl (by simp [Wo.l'])) h.ak, hs _ _ (.inl (by simp [Wo.l'])) h.al, hs _ _ (.inl (by simp [Wo.l'])) h.ai, hs _ _ (.inl (by simp [Wo.l'])) h.ar, hs _ _ (.inl (by simp [Wo.l'])) h.ab, h.nd, fun r hr => (h.co r hr).mono fun q hq z hz => hs q z (.inr ⟨r, hr, hq⟩) hz, h.ndC, h.ap, h.rr⟩
theorem rng_nat {n r : Nat} (f : Nat → Nat) (k : Nat) : ((List.range n).map fun q => mI ((f q : Nat) : Int)).set r (mI (k : Int)) = (List.range n).map fun q => mI ((Ag.upd f r k q : Nat) : Int) := by
  rw [rng_upd]
  refine List.map_congr_left fun q _ => ?_
  unfold Ag.upd
  split <;> rfl
theorem AgreeGrows_calls (H : AHeap) (f : Int) (l : List Ag.Act) (hf : b64 f) (hl : l.length ≤ 2000000) (hok : ∀ a ∈ l, ActOK a) :
    ACalls Try.prog 9 [mI f, .sls l.length (l.flatMap actC)] H fun r _ => r = .raw (.bool true) := by
  refine acalls_of_aw2 Try.func9 rfl (by decide) ?_
  by_cases h1 : f < 0 ∨ 3 < f ∨ 150 < l.length
  · (first | focus (refine aw_seq ?_; refine aw_region ?_; refine awl_s rfl (s_assign (v := .raw _) rfl) ?_; (with_reducible refine awl_nil ?_); refine k_seq_normal ?_; refine aw_seq ?_; refine aw_seq ?_; refine aw_region ?_; (((refine awl_callc rfl auto_wl (awake_calls _) (fun r H' hpost => ?_); obtain ⟨rfl, hfr⟩ := hpost))); refine awl_s rfl (s_notb rfl) ?_; (with_reducible refine awl_nil ?_); refine k_seq_normal ?_; refine aw_cond_f rfl ?_; refine aw_skip ?_; refine k_seq_normal ?_; refine aw_seq ?_; refine aw_seq ?_; refine aw_region ?_; refine awl_s rfl (s_move (v := .raw _) rfl) ?_; refine awl_s rfl (s_lss rfl rfl) ?_; refine awl_s rfl (s_move (v := .raw _) rfl) ?_; refine zg2 rfl rfl rfl (fun hc => ?_) (fun hc => ?_); refine zg4 rfl rfl rfl ?_; refine awl_s rfl (s_pick_t (v := .raw _) rfl rfl) ?_; refine awl_s rfl (s_move (v := .raw _) rfl) ?_; refine zg4 rfl rfl rfl ?_; refine zg4 rfl rfl rfl ?_; refine zg4 rfl rfl rfl ?_; refine awl_s rfl (s_pick_t (v := .raw _) rfl rfl) ?_; (with_reducible refine awl_nil ?_); refine k_seq_normal ?_; refine aw_cond_t rfl ?_; refine aw_seq ?_; refine aw_region ?_; refine awl_s rfl (s_assign (v := .raw _) rfl) ?_; (with_reducible refine awl_nil ?_); refine k_seq_normal ?_; refine aw_ret ?_; refine k_seq_ret ?_; rotate_left; refine awl_s rfl (s_move (v := .raw _) rfl) ?_; refine zg3 rfl rfl rfl ?_; refine awl_s rfl (s_gtr rfl rfl) ?_; refine awl_s rfl (s_pick_f (v := .raw _) rfl rfl) ?_; refine awl_s rfl (s_move (v := .raw _) rfl) ?_; refine zg2 rfl rfl rfl (fun hc => ?_) (fun hc => ?_); refine zg4 rfl rfl rfl ?_; refine zg4 rfl rfl rfl ?_; refine awl_s rfl (s_pick_t (v := .raw _) rfl rfl) ?_; (with_reducible refine awl_nil ?_); refine k_seq_normal ?_; refine aw_cond_t rfl ?_; refine aw_seq ?_; refine aw_region ?_; refine awl_s rfl (s_assign (v := .raw _) rfl) ?_; (with_reducible refine awl_nil ?_); refine k_seq_normal ?_; refine aw_ret ?_; refine k_seq_ret ?_; rotate_left; refine awl_s rfl (s_move (v := .sls _ _) rfl) ?_; refine zg3 rfl rfl rfl ?_; refine awl_s rfl (s_len_sls rfl) ?_; refine zg3 rfl rfl rfl ?_; refine awl_s rfl (s_gtn rfl rfl) ?_; refine awl_s rfl (s_pick_f (v := .raw _) rfl rfl) ?_; (with_reducible refine awl_nil ?_); refine k_seq_normal ?_; refine aw_condp rfl (fun hc => ?_) (fun hc => ?_); refine aw_seq ?_; refine aw_region ?_; refine awl_s rfl (s_assign (v := .raw _) rfl) ?_; (with_reducible refine awl_nil ?_); refine k_seq_normal ?_; refine aw_ret ?_; refine k_seq_ret ?_; rotate_left; exact absurd hc auto_no) | fail)
    all_goals try (exfalso; omega)
    all_goals exact ⟨.inl rfl, _, _, _, Ent.refl _ _, ret1 rfl rfl, rfl⟩
  obtain ⟨k, rfl⟩ : ∃ k : Nat, f = (k : Int) := ⟨f.toNat, by omega⟩
  have hk3 : k ≤ 3 := by omega
  have hl3 : l.length ≤ 150 := by omega
  clear h1 hl
  have hBg := fun H => begun_calls H (2 * k + 1) (by omega) (by omega) (by omega)
  (first | focus (refine aw_seq ?_; refine aw_region ?_; refine awl_s rfl (s_assign (v := .raw _) rfl) ?_; (with_reducible refine awl_nil ?_); refine k_seq_normal ?_; refine aw_seq ?_; refine aw_seq ?_; refine aw_region ?_; (((refine awl_callc rfl auto_wl (awake_calls _) (fun r H' hpost => ?_); obtain ⟨rfl, hfr⟩ := hpost))); refine awl_s rfl (s_notb rfl) ?_; (with_reducible refine awl_nil ?_); refine k_seq_normal ?_; refine aw_cond_f rfl ?_; refine aw_skip ?_; refine k_seq_normal ?_; refine aw_seq ?_; refine aw_seq ?_; refine aw_region ?_; refine awl_s rfl (s_move (v := .raw _) rfl) ?_; refine awl_s rfl (s_ltn rfl rfl) ?_; refine awl_s rfl (s_move (v := .raw _) rfl) ?_; refine zg2 rfl rfl rfl (fun hc => ?_) (fun hc => ?_); exact absurd hc auto_no; refine awl_s rfl (s_move (v := .raw _) rfl) ?_; refine zg3 rfl rfl rfl ?_; refine awl_s rfl (s_gtn rfl rfl) ?_; refine awl_s rfl (s_pick_f (v := .raw _) rfl rfl) ?_; refine awl_s rfl (s_move (v := .raw _) rfl) ?_; refine zg2 rfl rfl rfl (fun hc => ?_) (fun hc => ?_); exact absurd hc auto_no; refine awl_s rfl (s_move (v := .sls _ _) rfl) ?_; refine zg3 rfl rfl rfl ?_; refine awl_s rfl (s_len_sls rfl) ?_; refine zg3 rfl rfl rfl ?_; refine awl_s rfl (s_gtn rfl rfl) ?_; refine awl_s rfl (s_pick_f (v := .raw _) rfl rfl) ?_; (with_reducible refine awl_nil ?_); refine k_seq_normal ?_; refine aw_condp rfl (fun hc => ?_) (fun hc => ?_); exact absurd hc auto_no; refine aw_skip ?_; refine k_seq_normal ?_; refine aw_seq ?_; refine aw_region ?_; refine awl_s rfl (s_move (v := .raw _) rfl) ?_; refine awl_s rfl (s_muln rfl rfl auto_len) ?_; refine awl_s rfl (s_addn rfl rfl auto_len) ?_; (((refine awl_callc rfl auto_wl (hBg _) (fun r H' hpost => ?_); obtain ⟨O, F, rfl, a1, a2, a3⟩ := hpost))); refine awl_s rfl (s_assign (v := .ptr _ _) rfl) ?_; (with_reducible refine awl_nil ?_); refine k_seq_normal ?_; refine aw_seq ?_; refine aw_seq ?_; refine aw_region ?_; refine awl_s rfl (s_move (v := .ptr _ _) rfl) ?_; refine awl_s rfl (s_ptr_eqnil rfl rfl) ?_; (with_reducible refine awl_nil ?_); refine k_seq_normal ?_; refine aw_cond_f rfl ?_; refine aw_skip ?_; refine k_seq_normal ?_; refine aw_seq ?_; refine aw_region ?_; refine awl_s rfl (s_move (v := .ptr _ _) rfl) ?_; refine awl_s rfl (s_nilCheck_ptr rfl) ?_; refine awl_s rfl (s_fieldAddr_ptr rfl) ?_; rotate_left) | fail)
  all_goals try (exfalso; omega)
  clear hc
  have hX := WX.begun (n := 2 * k + 1) (by omega) (by omega) (by omega)
  have hk0 : ∀ p, (Ag.W.begun (2 * k + 1)).cut p = none := fun p => rfl
  have hn0 : (Ag.W.begun (2 * k + 1)).n = 2 * k + 1 := rfl
  have hag0 : ∀ p, (0 : Int) ≤ ((Ag.W.begun (2 * k + 1)).c p).agreed := fun p => by omega
  generalize Ag.W.begun (2 * k + 1) = w0 at *
  rw [← hn0] at a2
  have aw := a1.aw
  unfold worldC at aw
  have h7 : w0.n ≤ 7 := by omega
  clear hBg hfr a3
  (first | focus (refine awl_s rfl (s_load_cel rfl auto_heap rfl) ?_; refine awl_make_cel rfl rfl rfl auto_om rfl rfl auto_om auto_om (fun oN hoN => ?_); refine awl_s rfl (s_assign (v := .vw _ _ _ _) rfl) ?_; (with_reducible refine awl_nil ?_); refine k_seq_normal ?_; refine aw_seq ?_; refine aw_seq ?_; refine aw_region ?_; refine awl_s rfl (s_assign (v := .raw _) rfl) ?_; (with_reducible refine awl_nil ?_); refine k_seq_normal ?_; refine aw_block ?_; rotate_left) | fail)
  have hA0 := a1.ext (H' := H'.set oN (.cel (List.replicate w0.n (AV.raw (.int .i64 0))))) fun p y hp => AHeap.get_skip (fun e => by rw [e, hoN] at hp; cases hp) hp
  have hd0 := a1.fresh hoN
  have hrep : List.replicate w0.n (AV.raw (.int .i64 0)) = (List.range w0.n).map fun _ => mI ((0 : Nat) : Int) := by
    rw [List.map_const', List.length_range]; rfl
  rw [hrep] at hA0 ⊢
  have hoA := hoN
  generalize hqq : oN = oA at *
  clear hqq hoN oN
  refine aw_loop (fun mm R' H2 => ∃ (i : Nat) (O2 : Wo) (F2 : Nat → Ob) (g : Ag.Gh) (w : Ag.W) (v : Nat → Nat), O2.w = O.w ∧ R' = [(1, .sls l.length (l.flatMap actC)), (5, .ptr O.w 0), (6, .vw oA 1 0 w0.n), (7, .raw (.int .i64 (i : Int)))] ∧ WAt H2 O2 F2 w ∧ WX g w i (200 * i) i ∧ w.n = w0.n ∧ (∀ p, w.cut p = none) ∧ (∀ p, v p ≤ (w.c p).agreed) ∧ H2 oA = some (.cel ((List.range w0.n).map fun r => mI ((v r : Nat) : Int))) ∧ ¬ Dom O2 F2 w0.n oA ∧ i + mm = l.length) ?_ ?_
  · exact ⟨l.length, _, _, auto_ent, 0, O, F, _, w0, fun _ => 0, rfl, rfl, hA0, hX, rfl, hk0, fun p => Nat.zero_le _, AHeap.set_self _ _ _, hd0, by omega⟩
  clear a1 a2 aw hX hA0 hd0 hoA hk0 hag0
  rintro mm R0 H2 ⟨i, O2, F2, g, w, v, ew, rfl, hA, hX, hn, hk, hv, hoA, hd, hi⟩
  by_cases hlt : i < l.length
  rotate_left
  · obtain rfl : i = l.length := by omega
    (first | focus (refine aw_seq ?_; refine aw_seq ?_; refine aw_region ?_; refine awl_s rfl (s_move (v := .raw _) rfl) ?_; refine awl_s rfl (s_move (v := .sls _ _) rfl) ?_; refine awl_s rfl (s_len_sls rfl) ?_; refine awl_s rfl (s_ltn rfl rfl) ?_; (with_reducible refine awl_nil ?_); refine k_seq_normal ?_; refine aw_condp rfl (fun hc => ?_) (fun hc => ?_); exact absurd hc auto_no; refine aw_exit ?_; refine k_seq_exit ?_; refine k_seq_exit ?_; refine k_block_eq ?_; refine k_seq_normal ?_; refine aw_seq ?_; refine aw_region ?_; refine awl_s rfl (s_assign (v := .raw _) rfl) ?_; (with_reducible refine awl_nil ?_); refine k_seq_normal ?_; refine aw_ret ?_; rotate_left) | fail)
    all_goals try (exfalso; omega)
    all_goals exact ⟨.inl rfl, _, _, _, Ent.refl _ _, ret1 rfl rfl, rfl⟩
  have hg : l[i]? = some l[i] := List.getElem?_eq_getElem hlt
  have ha := hok _ (List.getElem_mem hlt)
  have hg4 := act_at (j := 4) hg (by omega) rfl
  have hga := act_get hg
  generalize l[i] = a at *
  have hrw := ha.row
  unfold rowA at hg4
  by_cases hr20 : 20 < a.row.length
  · unfold actC rowA at hga
    (first | focus (refine aw_seq ?_; refine aw_seq ?_; refine aw_region ?_; refine awl_s rfl (s_move (v := .raw _) rfl) ?_; refine awl_s rfl (s_move (v := .sls _ _) rfl) ?_; refine awl_s rfl (s_len_sls rfl) ?_; refine awl_s rfl (s_ltn rfl rfl) ?_; (with_reducible refine awl_nil ?_); refine k_seq_normal ?_; refine aw_condp rfl (fun hc => ?_) (fun hc => ?_); refine aw_skip ?_; refine k_seq_normal ?_; refine aw_seq ?_; refine aw_block ?_; refine aw_seq ?_; refine aw_region ?_; refine awl_s rfl (s_move (v := .sls _ _) rfl) ?_; refine awl_s rfl (s_move (v := .raw _) rfl) ?_; refine awl_s rfl (s_indexAddr_sls rfl rfl auto_len) ?_; refine awl_s rfl (s_load_pce_agg rfl (by assumption) (by rfl) (by decide)) ?_; refine awl_alloc rfl rfl rfl (fun oN hoN => ?_); refine zs1 rfl rfl rfl rfl auto_d auto_d ?_; (with_reducible refine awl_nil ?_); refine k_seq_normal ?_; refine aw_seq ?_; refine aw_seq ?_; refine aw_region ?_; refine awl_s rfl (s_fieldAddr_ptr rfl) ?_; refine awl_s rfl (s_load_cel rfl auto_heap rfl) ?_; refine awl_s rfl (s_len_sls rfl) ?_; refine awl_s rfl (s_gtn rfl rfl) ?_; (with_reducible refine awl_nil ?_); refine k_seq_normal ?_; refine aw_condp rfl (fun hc => ?_) (fun hc => ?_); refine aw_seq ?_; refine aw_region ?_; refine awl_s rfl (s_assign (v := .raw _) rfl) ?_; (with_reducible refine awl_nil ?_); refine k_seq_normal ?_; refine aw_ret ?_; refine k_seq_ret ?_; refine k_block_ret ?_; refine k_seq_ret ?_; refine k_seq_ret ?_; refine k_block_ret ?_; refine k_seq_ret ?_; rotate_left; exact absurd hc auto_no; exact absurd hc auto_no) | fail)
    all_goals try (exfalso; omega)
    all_goals exact ⟨.inl rfl, _, _, _, Ent.refl _ _, ret1 rfl rfl, rfl⟩
  obtain ⟨b, hb⟩ : ∃ b : Ag.Act, b = { a with op := if 5 ≤ a.op then 1 else a.op } := ⟨_, rfl⟩
  have hbo : b.op < 5 := by rw [hb]; show (if 5 ≤ a.op then 1 else a.op) < 5; split <;> omega
  have hbK : ActOK b := by
    rw [hb]
    refine ⟨⟨ha.ok.id, ha.ok.row⟩, ?_, ha.r, ha.k, ha.row⟩
    show b64 (if 5 ≤ a.op then 1 else a.op)
    split
    · exact ⟨by decide, by decide⟩
    · exact ha.op
  have hbr : b.row.length ≤ 1000000 := by rw [hb]; show a.row.length ≤ _; omega
  have hbc : actC b = [mI (if 5 ≤ a.op then 1 else a.op), mI a.r, mI a.k, uI a.id, rowA a.row] := by rw [hb]; rfl
  have hX0 := Hdq.mk hX
  clear hX hok
  (first | focus (refine aw_seq ?_; refine aw_seq ?_; refine aw_region ?_; refine awl_s rfl (s_move (v := .raw _) rfl) ?_; refine awl_s rfl (s_move (v := .sls _ _) rfl) ?_; refine awl_s rfl (s_len_sls rfl) ?_; refine awl_s rfl (s_ltn rfl rfl) ?_; (with_reducible refine awl_nil ?_); refine k_seq_normal ?_; refine aw_condp rfl (fun hc => ?_) (fun hc => ?_); refine aw_skip ?_; refine k_seq_normal ?_; refine aw_seq ?_; refine aw_block ?_; refine aw_seq ?_; refine aw_region ?_; refine awl_s rfl (s_move (v := .sls _ _) rfl) ?_; refine awl_s rfl (s_move (v := .raw _) rfl) ?_; refine awl_s rfl (s_indexAddr_sls rfl rfl auto_len) ?_; refine awl_s rfl (s_load_pce_agg rfl (by assumption) (by rfl) (by decide)) ?_; refine awl_alloc rfl rfl rfl (fun oN hoN => ?_); refine zs1 rfl rfl rfl rfl auto_d auto_d ?_; (with_reducible refine awl_nil ?_); refine k_seq_normal ?_; refine aw_seq ?_; refine aw_seq ?_; refine aw_region ?_; refine awl_s rfl (s_fieldAddr_ptr rfl) ?_; refine awl_s rfl (s_load_cel rfl auto_heap rfl) ?_; refine awl_s rfl (s_len_sls rfl) ?_; refine awl_s rfl (s_gtn rfl rfl) ?_; (with_reducible refine awl_nil ?_); refine k_seq_normal ?_; refine aw_condp rfl (fun hc => ?_) (fun hc => ?_); exact absurd hc auto_no; refine aw_skip ?_; refine k_seq_normal ?_; rotate_left; exact absurd hc auto_no) | fail)
  all_goals try (exfalso; omega)
  refine aw_seq ?_
  refine aw_kmid (fun R1 H3 => H3 = H2 ∧ R1 = [(1, .sls l.length (l.flatMap actC)), (5, .ptr O.w 0), (6, .vw oA 1 0 w0.n), (7, .raw (.int .i64 (i : Int))), (8, .pce (actC b) 0)]) ?_ ?_
  · by_cases h5 : 5 ≤ a.op
    · rw [if_pos h5] at hbc
      rw [hbc]
      (first | focus (refine aw_seq ?_; refine aw_region ?_; refine awl_s rfl (s_fieldAddr_ptr rfl) ?_; refine awl_s rfl (s_load_cel rfl auto_heap rfl) ?_; refine awl_s rfl (s_geq rfl rfl) ?_; (with_reducible refine awl_nil ?_); refine k_seq_normal ?_; refine aw_condp rfl (fun hc => ?_) (fun hc => ?_); refine aw_region ?_; refine awl_s rfl (s_fieldAddr_ptr rfl) ?_; refine zs5 rfl auto_mv rfl auto_r auto_k ?_; (with_reducible refine awl_nil ?_); refine k_seq_normal ?_; rotate_left; exact absurd hc auto_no) | fail)
      all_goals try (exfalso; omega)
      exact ⟨_, H2, (Ent.cellRet (H0 := H2) 8 [mI 1, mI a.r, mI a.k, uI a.id, rowA a.row] rfl auto_heap auto_wcc (fresh_sub hoN)).trans (Ent.sub _ (by (repeat' (first | exact RSub.nil _ | apply RSub.cons)); all_goals rfl)), rfl, rfl⟩
    · rw [if_neg h5] at hbc
      rw [hbc]
      (first | focus (refine aw_seq ?_; refine aw_region ?_; refine awl_s rfl (s_fieldAddr_ptr rfl) ?_; refine awl_s rfl (s_load_cel rfl auto_heap rfl) ?_; refine awl_s rfl (s_geq rfl rfl) ?_; (with_reducible refine awl_nil ?_); refine k_seq_normal ?_; refine aw_condp rfl (fun hc => ?_) (fun hc => ?_); exact absurd hc auto_no; refine aw_skip ?_; refine k_seq_normal ?_; rotate_left) | fail)
      all_goals try (exfalso; omega)
      exact ⟨_, H2, (Ent.cellRet (H0 := H2) 8 [mI a.op, mI a.r, mI a.k, uI a.id, rowA a.row] rfl auto_heap auto_wcc (fresh_sub hoN)).trans (Ent.sub _ (by (repeat' (first | exact RSub.nil _ | apply RSub.cons)); all_goals rfl)), rfl, rfl⟩
  rintro R1 H3 ⟨rfl, rfl⟩
  clear hbc hga hg4 hoN hc hg
  have hDo : ACalls Try.prog 21 [.ptr O2.w 0, .agg (actC b)] H3 fun r' H' => r' = bB true ∧ ∃ w' g' O' F', ((∀ p, (w.c p).agreed ≤ (w'.c p).agreed) ∧ ∀ p, w'.cut p = none) ∧ WX g' w' (i + 1) (200 * i + 200) (i + 1) ∧ w'.n = w.n ∧ WAt H' O' F' w' ∧ TurnW w.n H3 O2 F2 O' F' H' :=
    (do_at H3 O2 F2 g w i (200 * i) i b hA hX0.out (by omega) (by omega) (by omega) hbK hbr).mono fun r' H' ⟨x, w', g', O', F', y1, y2, y3, y4, y5⟩ => ⟨x, w', g', O', F', act_grows hbo hk y1, y2, y3, y4, y5⟩
  rw [ew] at hDo
  (first | focus (refine aw_seq ?_; refine aw_seq ?_; refine aw_region ?_; refine awl_s rfl (s_move (v := .ptr _ _) rfl) ?_; refine awl_s rfl (s_load_pce_agg rfl rfl rfl (by decide)) ?_; (((refine awl_callc rfl auto_wl (hDo) (fun r H' hpost => ?_); obtain ⟨rfl, w', g', O', F', ⟨z0, z1⟩, z2, z3, z4, z5⟩ := hpost))); refine awl_s rfl (s_notb rfl) ?_; (with_reducible refine awl_nil ?_); refine k_seq_normal ?_; refine aw_cond_f rfl ?_; refine aw_skip ?_; refine k_seq_normal ?_; refine aw_seq ?_; refine aw_region ?_; refine awl_s rfl (s_assign (v := .raw _) rfl) ?_; (with_reducible refine awl_nil ?_); refine k_seq_normal ?_; refine aw_block ?_; rotate_left) | fail)
  all_goals try (exfalso; omega)
  rw [← hn] at hd
  obtain ⟨o1, o2⟩ := z5.keep hoA hd
  have ew' : O'.w = O.w := z5.w.trans ew
  have hn' : w'.n = w0.n := z3.trans hn
  have aw := z4.aw
  have ac := z4.ac
  unfold worldC at aw
  rw [ew', hn'] at aw
  rw [hn'] at ac
  have hvv : ∀ p, v p ≤ (w'.c p).agreed := fun p => Nat.le_trans (hv p) (z0 p)
  have hne : oA ≠ O.w := fun e => o2 (.inl (by rw [e, ← ew']; simp [Wo.l']))
  clear hDo hoA
  have hcf := fun r hr => z2.cf (r := r) (by omega) hr
  have z2' := Hdq.mk z2
  clear z2 hX0
  refine aw_loop (fun mm2 R' H4 => ∃ (x : Nat) (u : Nat → Nat), R' = [(1, .sls l.length (l.flatMap actC)), (5, .ptr O.w 0), (6, .vw oA 1 0 w0.n), (7, .raw (.int .i64 (i : Int))), (9, .raw (.int .i64 (x : Int)))] ∧ H4 = H'.set oA (.cel ((List.range w0.n).map fun r => mI ((u r : Nat) : Int))) ∧ (∀ p, u p ≤ (w'.c p).agreed) ∧ x + mm2 = w0.n) ?_ ?_
  · exact ⟨w0.n, _, _, auto_ent, 0, v, rfl, (heap_id o1).symm, hvv, by omega⟩
  rintro mm2 R1 H4 ⟨x, u, rfl, rfl, hu, hx⟩
  have z6 := z4.other (p := oA) (by rw [hn', ← hn]; exact o2) (.cel ((List.range w0.n).map fun r => mI ((u r : Nat) : Int)))
  have aw' := AHeap.get_skip (x := .cel ((List.range w0.n).map fun r => mI ((u r : Nat) : Int))) hne.symm aw
  have hnc : oA ≠ O'.c := fun e => o2 (.inl (by rw [e]; simp [Wo.l']))
  have ac' := AHeap.get_skip (x := .cel ((List.range w0.n).map fun r => mI ((u r : Nat) : Int))) hnc.symm ac
  have ao := AHeap.set_self H' oA (.cel ((List.range w0.n).map fun r => mI ((u r : Nat) : Int)))
  by_cases hxn : x < w0.n
  rotate_left
  · obtain rfl : x = w0.n := by omega
    (first | focus (refine aw_seq ?_; refine aw_seq ?_; refine aw_region ?_; refine awl_s rfl (s_move (v := .raw _) rfl) ?_; refine awl_s rfl (s_move (v := .ptr _ _) rfl) ?_; refine awl_s rfl (s_nilCheck_ptr rfl) ?_; refine awl_s rfl (s_fieldAddr_ptr rfl) ?_; refine awl_s rfl (s_load_cel rfl auto_heap rfl) ?_; refine awl_s rfl (s_ltn rfl rfl) ?_; (with_reducible refine awl_nil ?_); refine k_seq_normal ?_; refine aw_condp rfl (fun hc => ?_) (fun hc => ?_); exact absurd hc auto_no; refine aw_exit ?_; refine k_seq_exit ?_; refine k_seq_exit ?_; refine k_block_eq ?_; refine k_block_normal ?_; refine k_seq_normal ?_; refine aw_region ?_; refine awl_s rfl (s_move (v := .raw _) rfl) ?_; refine awl_s rfl (s_addn rfl rfl auto_len) ?_; refine awl_s rfl (s_assign (v := .raw _) rfl) ?_; (with_reducible refine awl_nil ?_); refine k_seq_normal ?_; rotate_left) | fail)
    all_goals try (exfalso; omega)
    all_goals exact ⟨mm - 1, _, _, by omega, auto_ent, i + 1, O', F', g', w', u, ew', rfl, z6, z2'.out.more (by omega) (by omega) (by omega), hn', z1, hu, ao, by rw [← hn]; exact o2, by omega⟩
  have hrx : (List.range w0.n)[x]? = some x := List.getElem?_range hxn
  have hC := Committed_calls _ (F' x) (w'.c x) (z6.co x (by omega)) (hcf x (by omega))
  have hln : ((w'.c x).list.take (w'.c x).agreed).length = (w'.c x).agreed := by have := (hcf x (by omega)).agr; rw [List.length_take]; omega
  have hux := hu x
  have hl2 := (hcf x (by omega)).list.len
  have hag := (hcf x (by omega)).agr
  have hset := rng_nat (n := w0.n) (r := x) u (w'.c x).agreed
  generalize hLq : (w'.c x).list.take (w'.c x).agreed = L at *
  (first | focus (refine aw_seq ?_; refine aw_seq ?_; refine aw_region ?_; refine awl_s rfl (s_move (v := .raw _) rfl) ?_; refine awl_s rfl (s_move (v := .ptr _ _) rfl) ?_; refine awl_s rfl (s_nilCheck_ptr rfl) ?_; refine awl_s rfl (s_fieldAddr_ptr rfl) ?_; refine awl_s rfl (s_load_cel rfl auto_heap rfl) ?_; refine awl_s rfl (s_ltn rfl rfl) ?_; (with_reducible refine awl_nil ?_); refine k_seq_normal ?_; refine aw_condp rfl (fun hc => ?_) (fun hc => ?_); refine aw_skip ?_; refine k_seq_normal ?_; refine aw_seq ?_; refine aw_block ?_; refine aw_seq ?_; refine aw_region ?_; refine awl_s rfl (s_move (v := .ptr _ _) rfl) ?_; refine awl_s rfl (s_nilCheck_ptr rfl) ?_; refine awl_s rfl (s_fieldAddr_ptr rfl) ?_; refine awl_s rfl (s_load_cel rfl auto_heap rfl) ?_; refine awl_s rfl (s_move (v := .raw _) rfl) ?_; refine awl_s rfl (s_indexAddr_vw rfl rfl auto_len) ?_; refine awl_s rfl (s_load_cel rfl auto_heap auto_idx) ?_; (((refine awl_callc rfl auto_wl (hC) (fun r H' hpost => ?_); obtain ⟨rfl, rfl⟩ := hpost))); refine awl_s rfl (s_len_sls rfl) ?_; refine awl_s rfl (s_assign (v := .raw _) rfl) ?_; (with_reducible refine awl_nil ?_); refine k_seq_normal ?_; refine aw_seq ?_; refine aw_seq ?_; refine aw_region ?_; refine awl_s rfl (s_move (v := .raw _) rfl) ?_; refine awl_s rfl (s_move (v := .vw _ _ _ _) rfl) ?_; refine awl_s rfl (s_move (v := .raw _) rfl) ?_; refine awl_s rfl (s_indexAddr_vw rfl rfl auto_len) ?_; refine awl_s rfl (s_load_cel rfl auto_heap auto_idx) ?_; refine awl_s rfl (s_ltn rfl rfl) ?_; (with_reducible refine awl_nil ?_); refine k_seq_normal ?_; refine aw_condp rfl (fun hc => ?_) (fun hc => ?_); exact absurd hc auto_no; refine aw_skip ?_; refine k_seq_normal ?_; refine aw_region ?_; refine awl_s rfl (s_move (v := .vw _ _ _ _) rfl) ?_; refine awl_s rfl (s_move (v := .raw _) rfl) ?_; refine awl_s rfl (s_move (v := .raw _) rfl) ?_; refine awl_s rfl (s_indexAddr_vw rfl rfl auto_len) ?_; refine zs5 rfl auto_mv rfl auto_r auto_k ?_; (with_reducible refine awl_nil ?_); refine k_block_normal ?_; refine k_seq_normal ?_; refine aw_region ?_; refine awl_s rfl (s_move (v := .raw _) rfl) ?_; refine awl_s rfl (s_addn rfl rfl auto_len) ?_; refine awl_s rfl (s_assign (v := .raw _) rfl) ?_; (with_reducible refine awl_nil ?_); refine k_seq_normal ?_; rotate_left; exact absurd hc auto_no) | fail)
  all_goals try (exfalso; omega)
  have hset2 : ((List.range w0.n).map fun r => mI ((u r : Nat) : Int)).set (0 + x * 1) (AV.raw (.int .i64 (L.length : Int))) = (List.range w0.n).map fun q => mI ((Ag.upd u x (w'.c x).agreed q : Nat) : Int) := by
    rw [show 0 + x * 1 = x by omega, hln]; exact hset
  exact ⟨mm2 - 1, _, _, by omega, auto_ent, x + 1, Ag.upd u x (w'.c x).agreed, rfl, by rw [hset2], fun p => by
    unfold Ag.upd
    split
    · next e => rw [e]; exact Nat.le_refl _
    · exact hu p, by omega⟩
end Go.Proofs.Ytbciofnejefkiaa
