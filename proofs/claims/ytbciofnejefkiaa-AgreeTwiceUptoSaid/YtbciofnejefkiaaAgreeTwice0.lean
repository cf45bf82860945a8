import Derived.Test.YtbciofnejefkiaaIa9
set_option linter.unusedVariables false
namespace Go.Proofs.Ytbciofnejefkiaa
open Go Go.Am Go.Proofs
set_option linter.unusedSimpArgs false
set_option linter.unusedVariables false
set_option maxRecDepth 20000
set_option maxHeartbeats 4000000

/-! What is submitted again and again is in the list once: the walk of the law. -/
structure TwI (K n ow q B I : Nat) (H : AHeap) (O : Wo) (F : Nat → Ob) (g : Ag.Gh) (w : Ag.W) : Prop where
  ew : O.w = ow
  at_ : WAt H O F w
  wx : WX g w q B I
  cut : ∀ p, w.cut p = none
  nn : w.n = n
  ids : ∀ x ∈ w.ids, x.1 ≤ K
theorem wIn_ids {w : Ag.W} {a : Ag.Act} {x : Nat × List Int} (h : x ∈ (wIn w a).ids) : x ∈ w.ids ∨ x = (a.id, a.row) := by
  unfold wIn at h
  split at h
  · rcases List.mem_append.1 h with h | h
    · exact .inl h
    · exact .inr (List.mem_singleton.1 h)
  · exact .inl h
theorem TwI.more {K n ow q B I q' B' I' : Nat} {H : AHeap} {O : Wo} {F : Nat → Ob} {g : Ag.Gh} {w : Ag.W} (h : TwI K n ow q B I H O F g w) (h1 : q ≤ q') (h2 : B ≤ B') (h3 : I ≤ I') : TwI K n ow q' B' I' H O F g w :=
  ⟨h.ew, h.at_, h.wx.more h1 h2 h3, h.cut, h.nn, h.ids⟩
theorem tw_sub {K n ow q B I r i : Nat} {H : AHeap} {O : Wo} {F : Nat → Ob} {g : Ag.Gh} {w : Ag.W} (h : TwI K n ow q B I H O F g w) (hr : r < n) (hi : i ≤ K) (hi2 : i ≤ 1000) (hq : q ≤ 100000) (hI : I ≤ 100000) (hB : B ≤ 10000000000) :
    ACalls Try.prog 21 [.ptr ow 0, .agg [mI 0, mI (r : Int), mI 0, .raw (.int .u64 (i : Int)), .slsx 1 [.raw (.int .i64 (i : Int))]]] H fun r' H' => r' = bB true ∧ ∃ w' g' O' F', TwI K n ow q (B + 200) (I + 1) H' O' F' g' w' := by
  have := do_sub (up := fun _ => true) H O F g w q B I r i [(i : Int)] h.at_ h.wx h.cut (by rw [h.nn]; exact hr) rfl ⟨by show i < 2 ^ 64; omega, fun v hv => by
    rw [List.mem_singleton.1 hv]; exact ⟨by show (-9223372036854775808 : Int) ≤ (i : Int); omega, by show (i : Int) ≤ 9223372036854775807; omega⟩⟩ hq hI hB (by simp)
  rw [h.ew] at this
  refine (this.weak (xs := [.ptr ow 0, .agg [mI 0, mI (r : Int), mI 0, .raw (.int .u64 (i : Int)), .slsx 1 [.raw (.int .i64 (i : Int))]]]) (WL.cons (W.of rfl) (WL.cons (w_agg (WL.cons (W.of rfl) (WL.cons (W.of rfl) (WL.cons (W.of rfl) (WL.cons (W.of rfl) (WL.cons (W.slsx rfl) WL.nil)))))) WL.nil))).mono fun r' H' ⟨e, w', g', O', F', e1, e2, e3, e4, e5, e6⟩ => ⟨e, w', g', O', F', e6.w.trans h.ew, e5, e2, e3.cut, e3.n.trans h.nn, fun x hx => by
    rw [e4] at hx
    rcases wIn_ids hx with hx | hx
    · exact h.ids x hx
    · rw [hx]; exact hi⟩
theorem tw_round {K n ow q B I oU : Nat} {H : AHeap} {O : Wo} {F : Nat → Ob} {g : Ag.Gh} {w : Ag.W} (h : TwI K n ow q B I H O F g w) (hU : H oU = some (upA n fun _ => true)) (hd : ¬ Dom O F n oU) (hq : q ≤ 99000) (hI : I ≤ 100000) (hB : B ≤ 9000000000) :
    ACalls Try.prog 22 [.ptr ow 0, .vw oU 1 0 n] H fun r' H' => r' = bB true ∧ ∃ w' g' O' F', TwI K n ow (q + 7) (B + 801400) I H' O' F' g' w' := by
  have := round_calls H O F g w q B I oU (fun _ => true) h.at_ h.wx h.cut hq hI hB (by rw [h.nn]; exact hU) (by rw [h.nn]; exact hd)
  rw [h.ew, h.nn] at this
  exact this.mono fun r' H' ⟨e, w', g', O', F', e1, e2, e3, e4, e5, e6⟩ => ⟨e, w', g', O', F', e6.w.trans h.ew, e5, e2, e3.cut, e3.n.trans h.nn, fun x hx => h.ids x (by rw [← e4]; exact hx)⟩
theorem TwI.ext {K n ow q B I : Nat} {H H' : AHeap} {O : Wo} {F : Nat → Ob} {g : Ag.Gh} {w : Ag.W} (h : TwI K n ow q B I H O F g w) (fr : ∀ p y, H p = some y → H' p = some y) : TwI K n ow q B I H' O F g w :=
  ⟨h.ew, ⟨fr _ _ h.at_.aw, fr _ _ h.at_.ac, fr _ _ h.at_.asv, fr _ _ h.at_.ak, fr _ _ h.at_.al, fr _ _ h.at_.ai, fr _ _ h.at_.ar, fr _ _ h.at_.ab, h.at_.nd, fun r hr => (h.at_.co r hr).ext fr, h.at_.ndC, h.at_.ap, h.at_.rr⟩, h.wx, h.cut, h.nn, h.ids⟩
theorem TwI.aw {K n ow q B I : Nat} {H : AHeap} {O : Wo} {F : Nat → Ob} {g : Ag.Gh} {w : Ag.W} (h : TwI K n ow q B I H O F g w) : H ow = some (.cel [mI n, .vw O.c 1 0 n, .vw O.s 1 0 n, .vw O.k 1 0 n, .vw O.l 9 0 w.l.length, .vw O.i 1 0 w.ids.length, .vw O.r 1 0 w.ids.length, .vw O.b 3 0 w.best.length]) := by
  have := h.at_.aw
  unfold worldC at this
  rw [h.ew, h.nn] at this; exact this
theorem AgreeTwice_calls (H : AHeap) (f times ids : Int) (hf : b64 f) (ht : b64 times) (hi : b64 ids) :
    ACalls Try.prog 7 [mI f, mI times, mI ids] H fun r _ => r = .raw (.bool true) := by
  refine acalls_of_aw3 Try.func7 rfl (by decide) ?_
  by_cases h1 : f < 0 ∨ 3 < f ∨ times < 1 ∨ 5 < times ∨ ids < 1 ∨ 8 < ids
  · (first | focus (refine aw_seq ?_; refine aw_region ?_; refine awl_s rfl (s_assign (v := .raw _) rfl) ?_; (with_reducible refine awl_nil ?_); refine k_seq_normal ?_; refine aw_seq ?_; refine aw_seq ?_; refine aw_region ?_; (((refine awl_callc rfl auto_wl (awake_calls _) (fun r H' hpost => ?_); obtain ⟨rfl, hfr⟩ := hpost))); refine awl_s rfl (s_notb rfl) ?_; (with_reducible refine awl_nil ?_); refine k_seq_normal ?_; refine aw_cond_f rfl ?_; refine aw_skip ?_; refine k_seq_normal ?_; refine aw_seq ?_; refine aw_seq ?_; refine aw_region ?_; refine awl_s rfl (s_move (v := .raw _) rfl) ?_; refine awl_s rfl (s_lss rfl rfl) ?_; refine awl_s rfl (s_move (v := .raw _) rfl) ?_; refine zg2 rfl rfl rfl (fun hc => ?_) (fun hc => ?_); refine zg4 rfl rfl rfl ?_; refine awl_s rfl (s_pick_t (v := .raw _) rfl rfl) ?_; refine awl_s rfl (s_move (v := .raw _) rfl) ?_; refine zg4 rfl rfl rfl ?_; refine zg4 rfl rfl rfl ?_; refine awl_s rfl (s_pick_t (v := .raw _) rfl rfl) ?_; refine awl_s rfl (s_move (v := .raw _) rfl) ?_; refine zg4 rfl rfl rfl ?_; refine zg4 rfl rfl rfl ?_; refine awl_s rfl (s_pick_t (v := .raw _) rfl rfl) ?_; refine awl_s rfl (s_move (v := .raw _) rfl) ?_; refine zg4 rfl rfl rfl ?_; refine zg4 rfl rfl rfl ?_; refine awl_s rfl (s_pick_t (v := .raw _) rfl rfl) ?_; refine awl_s rfl (s_move (v := .raw _) rfl) ?_; refine zg4 rfl rfl rfl ?_; refine zg4 rfl rfl rfl ?_; refine awl_s rfl (s_pick_t (v := .raw _) rfl rfl) ?_; (with_reducible refine awl_nil ?_); refine k_seq_normal ?_; refine aw_cond_t rfl ?_; refine aw_seq ?_; refine aw_region ?_; refine awl_s rfl (s_assign (v := .raw _) rfl) ?_; (with_reducible refine awl_nil ?_); refine k_seq_normal ?_; refine aw_ret ?_; refine k_seq_ret ?_; rotate_left; refine awl_s rfl (s_move (v := .raw _) rfl) ?_; refine zg3 rfl rfl rfl ?_; refine awl_s rfl (s_gtr rfl rfl) ?_; refine awl_s rfl (s_pick_f (v := .raw _) rfl rfl) ?_; refine awl_s rfl (s_move (v := .raw _) rfl) ?_; refine zg2 rfl rfl rfl (fun hc => ?_) (fun hc => ?_); refine zg4 rfl rfl rfl ?_; refine awl_s rfl (s_pick_t (v := .raw _) rfl rfl) ?_; refine awl_s rfl (s_move (v := .raw _) rfl) ?_; refine zg4 rfl rfl rfl ?_; refine zg4 rfl rfl rfl ?_; refine awl_s rfl (s_pick_t (v := .raw _) rfl rfl) ?_; refine awl_s rfl (s_move (v := .raw _) rfl) ?_; refine zg4 rfl rfl rfl ?_; refine zg4 rfl rfl rfl ?_; refine awl_s rfl (s_pick_t (v := .raw _) rfl rfl) ?_; refine awl_s rfl (s_move (v := .raw _) rfl) ?_; refine zg4 rfl rfl rfl ?_; refine zg4 rfl rfl rfl ?_; refine awl_s rfl (s_pick_t (v := .raw _) rfl rfl) ?_; (with_reducible refine awl_nil ?_); refine k_seq_normal ?_; refine aw_cond_t rfl ?_; refine aw_seq ?_; refine aw_region ?_; refine awl_s rfl (s_assign (v := .raw _) rfl) ?_; (with_reducible refine awl_nil ?_); refine k_seq_normal ?_; refine aw_ret ?_; refine k_seq_ret ?_; rotate_left; refine awl_s rfl (s_move (v := .raw _) rfl) ?_; refine zg3 rfl rfl rfl ?_; refine awl_s rfl (s_lss rfl rfl) ?_; refine awl_s rfl (s_pick_f (v := .raw _) rfl rfl) ?_; refine awl_s rfl (s_move (v := .raw _) rfl) ?_; refine zg2 rfl rfl rfl (fun hc => ?_) (fun hc => ?_); refine zg4 rfl rfl rfl ?_; refine awl_s rfl (s_pick_t (v := .raw _) rfl rfl) ?_; refine awl_s rfl (s_move (v := .raw _) rfl) ?_; refine zg4 rfl rfl rfl ?_; refine zg4 rfl rfl rfl ?_; refine awl_s rfl (s_pick_t (v := .raw _) rfl rfl) ?_; refine awl_s rfl (s_move (v := .raw _) rfl) ?_; refine zg4 rfl rfl rfl ?_; refine zg4 rfl rfl rfl ?_; refine awl_s rfl (s_pick_t (v := .raw _) rfl rfl) ?_; (with_reducible refine awl_nil ?_); refine k_seq_normal ?_; refine aw_cond_t rfl ?_; refine aw_seq ?_; refine aw_region ?_; refine awl_s rfl (s_assign (v := .raw _) rfl) ?_; (with_reducible refine awl_nil ?_); refine k_seq_normal ?_; refine aw_ret ?_; refine k_seq_ret ?_; rotate_left; refine awl_s rfl (s_move (v := .raw _) rfl) ?_; refine zg3 rfl rfl rfl ?_; refine awl_s rfl (s_gtr rfl rfl) ?_; refine awl_s rfl (s_pick_f (v := .raw _) rfl rfl) ?_; refine awl_s rfl (s_move (v := .raw _) rfl) ?_; refine zg2 rfl rfl rfl (fun hc => ?_) (fun hc => ?_); refine zg4 rfl rfl rfl ?_; refine awl_s rfl (s_pick_t (v := .raw _) rfl rfl) ?_; refine awl_s rfl (s_move (v := .raw _) rfl) ?_; refine zg4 rfl rfl rfl ?_; refine zg4 rfl rfl rfl ?_; refine awl_s rfl (s_pick_t (v := .raw _) rfl rfl) ?_; (with_reducible refine awl_nil ?_); refine k_seq_normal ?_; refine aw_cond_t rfl ?_; refine aw_seq ?_; refine aw_region ?_; refine awl_s rfl (s_assign (v := .raw _) rfl) ?_; (with_reducible refine awl_nil ?_); refine k_seq_normal ?_; refine aw_ret ?_; refine k_seq_ret ?_; rotate_left; refine awl_s rfl (s_move (v := .raw _) rfl) ?_; refine zg3 rfl rfl rfl ?_; refine awl_s rfl (s_lss rfl rfl) ?_; refine awl_s rfl (s_pick_f (v := .raw _) rfl rfl) ?_; refine awl_s rfl (s_move (v := .raw _) rfl) ?_; refine zg2 rfl rfl rfl (fun hc => ?_) (fun hc => ?_); refine zg4 rfl rfl rfl ?_; refine awl_s rfl (s_pick_t (v := .raw _) rfl rfl) ?_; (with_reducible refine awl_nil ?_); refine k_seq_normal ?_; refine aw_cond_t rfl ?_; refine aw_seq ?_; refine aw_region ?_; refine awl_s rfl (s_assign (v := .raw _) rfl) ?_; (with_reducible refine awl_nil ?_); refine k_seq_normal ?_; refine aw_ret ?_; refine k_seq_ret ?_; rotate_left; refine awl_s rfl (s_move (v := .raw _) rfl) ?_; refine zg3 rfl rfl rfl ?_; refine awl_s rfl (s_gtr rfl rfl) ?_; refine awl_s rfl (s_pick_f (v := .raw _) rfl rfl) ?_; (with_reducible refine awl_nil ?_); refine k_seq_normal ?_; refine aw_condp rfl (fun hc => ?_) (fun hc => ?_); refine aw_seq ?_; refine aw_region ?_; refine awl_s rfl (s_assign (v := .raw _) rfl) ?_; (with_reducible refine awl_nil ?_); refine k_seq_normal ?_; refine aw_ret ?_; refine k_seq_ret ?_; rotate_left; exact absurd hc auto_no) | fail)
    all_goals try (exfalso; omega)
    all_goals exact ⟨.inl rfl, _, _, _, Ent.refl _ _, ret1 rfl rfl, rfl⟩
  obtain ⟨k, rfl⟩ : ∃ k : Nat, f = (k : Int) := ⟨f.toNat, by omega⟩
  obtain ⟨T, rfl⟩ : ∃ T : Nat, times = (T : Int) := ⟨times.toNat, by omega⟩
  obtain ⟨K, rfl⟩ : ∃ K : Nat, ids = (K : Int) := ⟨ids.toNat, by omega⟩
  have hk3 : k ≤ 3 := by omega
  have hT5 : T ≤ 5 := by omega
  have hK8 : K ≤ 8 := by omega
  have hK1 : 1 ≤ K := by omega
  have hT1 : 1 ≤ T := by omega
  clear h1
  have hBg := fun H => begun_calls H (2 * k + 1) (by omega) (by omega) (by omega)
  (first | focus (refine aw_seq ?_; refine aw_region ?_; refine awl_s rfl (s_assign (v := .raw _) rfl) ?_; (with_reducible refine awl_nil ?_); refine k_seq_normal ?_; refine aw_seq ?_; refine aw_seq ?_; refine aw_region ?_; (((refine awl_callc rfl auto_wl (awake_calls _) (fun r H' hpost => ?_); obtain ⟨rfl, hfr⟩ := hpost))); refine awl_s rfl (s_notb rfl) ?_; (with_reducible refine awl_nil ?_); refine k_seq_normal ?_; refine aw_cond_f rfl ?_; refine aw_skip ?_; refine k_seq_normal ?_; refine aw_seq ?_; refine aw_seq ?_; refine aw_region ?_; refine awl_s rfl (s_move (v := .raw _) rfl) ?_; refine awl_s rfl (s_ltn rfl rfl) ?_; refine awl_s rfl (s_move (v := .raw _) rfl) ?_; refine zg2 rfl rfl rfl (fun hc => ?_) (fun hc => ?_); exact absurd hc auto_no; refine awl_s rfl (s_move (v := .raw _) rfl) ?_; refine zg3 rfl rfl rfl ?_; refine awl_s rfl (s_gtn rfl rfl) ?_; refine awl_s rfl (s_pick_f (v := .raw _) rfl rfl) ?_; refine awl_s rfl (s_move (v := .raw _) rfl) ?_; refine zg2 rfl rfl rfl (fun hc => ?_) (fun hc => ?_); exact absurd hc auto_no; refine awl_s rfl (s_move (v := .raw _) rfl) ?_; refine zg3 rfl rfl rfl ?_; refine awl_s rfl (s_ltn rfl rfl) ?_; refine awl_s rfl (s_pick_f (v := .raw _) rfl rfl) ?_; refine awl_s rfl (s_move (v := .raw _) rfl) ?_; refine zg2 rfl rfl rfl (fun hc => ?_) (fun hc => ?_); exact absurd hc auto_no; refine awl_s rfl (s_move (v := .raw _) rfl) ?_; refine zg3 rfl rfl rfl ?_; refine awl_s rfl (s_gtn rfl rfl) ?_; refine awl_s rfl (s_pick_f (v := .raw _) rfl rfl) ?_; refine awl_s rfl (s_move (v := .raw _) rfl) ?_; refine zg2 rfl rfl rfl (fun hc => ?_) (fun hc => ?_); exact absurd hc auto_no; refine awl_s rfl (s_move (v := .raw _) rfl) ?_; refine zg3 rfl rfl rfl ?_; refine awl_s rfl (s_ltn rfl rfl) ?_; refine awl_s rfl (s_pick_f (v := .raw _) rfl rfl) ?_; refine awl_s rfl (s_move (v := .raw _) rfl) ?_; refine zg2 rfl rfl rfl (fun hc => ?_) (fun hc => ?_); exact absurd hc auto_no; refine awl_s rfl (s_move (v := .raw _) rfl) ?_; refine zg3 rfl rfl rfl ?_; refine awl_s rfl (s_gtn rfl rfl) ?_; refine awl_s rfl (s_pick_f (v := .raw _) rfl rfl) ?_; (with_reducible refine awl_nil ?_); refine k_seq_normal ?_; refine aw_condp rfl (fun hc => ?_) (fun hc => ?_); exact absurd hc auto_no; refine aw_skip ?_; refine k_seq_normal ?_; refine aw_seq ?_; refine aw_region ?_; refine awl_s rfl (s_move (v := .raw _) rfl) ?_; refine awl_s rfl (s_muln rfl rfl auto_len) ?_; refine awl_s rfl (s_addn rfl rfl auto_len) ?_; (((refine awl_callc rfl auto_wl (hBg _) (fun r H' hpost => ?_); obtain ⟨O, F, rfl, a1, a2, a3⟩ := hpost))); refine awl_s rfl (s_assign (v := .ptr _ _) rfl) ?_; (with_reducible refine awl_nil ?_); refine k_seq_normal ?_; refine aw_seq ?_; refine aw_seq ?_; refine aw_region ?_; refine awl_s rfl (s_move (v := .ptr _ _) rfl) ?_; refine awl_s rfl (s_ptr_eqnil rfl rfl) ?_; (with_reducible refine awl_nil ?_); refine k_seq_normal ?_; refine aw_cond_f rfl ?_; refine aw_skip ?_; refine k_seq_normal ?_; rotate_left) | fail)
  all_goals try (exfalso; omega)
  clear hc
  have hX := WX.begun (n := 2 * k + 1) (by omega) (by omega) (by omega)
  have h0 : TwI K (2 * k + 1) O.w 0 0 0 H' O F _ _ := ⟨rfl, a1, hX, fun _ => rfl, rfl, fun x hx => by cases hx⟩
  generalize hOw : O.w = ow at *
  generalize hnn : 2 * k + 1 = n at *
  have hn7 : n ≤ 7 := by omega
  have hn1 : 1 ≤ n := by omega
  clear a1 a2 a3 hX hBg hfr
  refine aw_seq ?_
  refine aw_kmid (fun R' H2 => ∃ (O2 : Wo) (F2 : Nat → Ob) (g2 : Ag.Gh) (w2 : Ag.W), R' = [(2, mI (K : Int)), (7, .ptr ow 0)] ∧ TwI K n ow 3000 400000000 400 H2 O2 F2 g2 w2) ?_ ?_
  · (first | focus (refine aw_seq ?_; refine aw_region ?_; refine awl_s rfl (s_assign (v := .raw _) rfl) ?_; (with_reducible refine awl_nil ?_); refine k_seq_normal ?_; refine aw_block ?_; rotate_left) | fail)
    refine aw_loop (fun mm R' H2 => ∃ (t : Nat) (O2 : Wo) (F2 : Nat → Ob) (g2 : Ag.Gh) (w2 : Ag.W), R' = [(1, mI (T : Int)), (2, mI (K : Int)), (7, .ptr ow 0), (8, .raw (.int .i64 (t : Int)))] ∧ TwI K n ow (420 * t) (48100000 * t) (56 * t) H2 O2 F2 g2 w2 ∧ t + mm = T) ?_ ?_
    · exact ⟨T, _, _, auto_ent, 0, O, F, _, _, rfl, h0, by omega⟩
    clear h0
    rintro mm R0 H2 ⟨t, O2, F2, g2, w2, rfl, hL, hi⟩
    have b1 := hL.aw
    by_cases hlt : t < T
    rotate_left
    · obtain rfl : t = T := by omega
      have hL2 := hL.more (q' := 3000) (B' := 400000000) (I' := 400) (by omega) (by omega) (by omega)
      (first | focus (refine aw_seq ?_; refine aw_seq ?_; refine aw_region ?_; refine awl_s rfl (s_move (v := .raw _) rfl) ?_; refine awl_s rfl (s_move (v := .raw _) rfl) ?_; refine awl_s rfl (s_ltn rfl rfl) ?_; (with_reducible refine awl_nil ?_); refine k_seq_normal ?_; refine aw_condp rfl (fun hc => ?_) (fun hc => ?_); exact absurd hc auto_no; refine aw_exit ?_; refine k_seq_exit ?_; refine k_seq_exit ?_; refine k_block_eq ?_; refine k_seq_normal ?_; rotate_left) | fail)
      all_goals try (exfalso; omega)
      all_goals exact ⟨_, _, auto_ent, O2, F2, g2, w2, rfl, hL2⟩
    (first | focus (refine aw_seq ?_; refine aw_seq ?_; refine aw_region ?_; refine awl_s rfl (s_move (v := .raw _) rfl) ?_; refine awl_s rfl (s_move (v := .raw _) rfl) ?_; refine awl_s rfl (s_ltn rfl rfl) ?_; (with_reducible refine awl_nil ?_); refine k_seq_normal ?_; refine aw_condp rfl (fun hc => ?_) (fun hc => ?_); refine aw_skip ?_; refine k_seq_normal ?_; rotate_left; exact absurd hc auto_no) | fail)
    all_goals try (exfalso; omega)
    refine aw_seq ?_
    refine aw_block ?_
    refine aw_seq ?_
    refine aw_kmid (fun R' H2 => ∃ (O2 : Wo) (F2 : Nat → Ob) (g2 : Ag.Gh) (w2 : Ag.W), R' = [(1, mI (T : Int)), (2, mI (K : Int)), (7, .ptr ow 0), (8, .raw (.int .i64 (t : Int)))] ∧ TwI K n ow (420 * t) (48100000 * t + 11200) (56 * t + 56) H2 O2 F2 g2 w2) ?_ ?_
    · (first | focus (refine aw_seq ?_; refine aw_region ?_; refine awl_s rfl (s_assign (v := .raw _) rfl) ?_; (with_reducible refine awl_nil ?_); refine k_seq_normal ?_; refine aw_block ?_; rotate_left) | fail)
      refine aw_loop (fun mm R' H3 => ∃ (i : Nat) (O3 : Wo) (F3 : Nat → Ob) (g3 : Ag.Gh) (w3 : Ag.W), R' = [(1, mI (T : Int)), (2, mI (K : Int)), (7, .ptr ow 0), (8, .raw (.int .i64 (t : Int))), (9, .raw (.int .i64 (i : Int)))] ∧ TwI K n ow (420 * t) (48100000 * t + 1400 * (i - 1)) (56 * t + 7 * (i - 1)) H3 O3 F3 g3 w3 ∧ 1 ≤ i ∧ i + mm = K + 1) ?_ ?_
      · exact ⟨K, _, _, auto_ent, 1, O2, F2, g2, w2, rfl, hL.more (by omega) (by omega) (by omega), by omega, by omega⟩
      clear hL b1
      rintro m2 R1 H3 ⟨i, O3, F3, g3, w3, rfl, hL, hi1, hi2⟩
      have b1 := hL.aw
      by_cases hlt2 : i ≤ K
      rotate_left
      · have hL2 := hL.more (q' := 420 * t) (B' := 48100000 * t + 11200) (I' := 56 * t + 56) (by omega) (by omega) (by omega)
        (first | focus (refine aw_seq ?_; refine aw_seq ?_; refine aw_region ?_; refine awl_s rfl (s_move (v := .raw _) rfl) ?_; refine awl_s rfl (s_move (v := .raw _) rfl) ?_; refine awl_s rfl (s_len_ rfl rfl) ?_; (with_reducible refine awl_nil ?_); refine k_seq_normal ?_; refine aw_condp rfl (fun hc => ?_) (fun hc => ?_); exact absurd hc auto_no; refine aw_exit ?_; refine k_seq_exit ?_; refine k_seq_exit ?_; refine k_block_eq ?_; refine k_seq_normal ?_; rotate_left) | fail)
        all_goals try (exfalso; omega)
        all_goals exact ⟨_, _, auto_ent, O3, F3, g3, w3, rfl, hL2⟩
      (first | focus (refine aw_seq ?_; refine aw_seq ?_; refine aw_region ?_; refine awl_s rfl (s_move (v := .raw _) rfl) ?_; refine awl_s rfl (s_move (v := .raw _) rfl) ?_; refine awl_s rfl (s_len_ rfl rfl) ?_; (with_reducible refine awl_nil ?_); refine k_seq_normal ?_; refine aw_condp rfl (fun hc => ?_) (fun hc => ?_); refine aw_skip ?_; refine k_seq_normal ?_; rotate_left; exact absurd hc auto_no) | fail)
      all_goals try (exfalso; omega)
      refine aw_seq ?_
      refine aw_kmid (fun R' H2 => ∃ (O2 : Wo) (F2 : Nat → Ob) (g2 : Ag.Gh) (w2 : Ag.W), R' = [(1, mI (T : Int)), (2, mI (K : Int)), (7, .ptr ow 0), (8, .raw (.int .i64 (t : Int))), (9, .raw (.int .i64 (i : Int)))] ∧ TwI K n ow (420 * t) (48100000 * t + 1400 * i) (56 * t + 7 * i) H2 O2 F2 g2 w2) ?_ ?_
      · (first | focus (refine aw_block ?_; refine aw_seq ?_; refine aw_region ?_; refine awl_s rfl (s_assign (v := .raw _) rfl) ?_; (with_reducible refine awl_nil ?_); refine k_seq_normal ?_; refine aw_block ?_; rotate_left) | fail)
        refine aw_loop (fun mm R' H4 => ∃ (r : Nat) (O4 : Wo) (F4 : Nat → Ob) (g4 : Ag.Gh) (w4 : Ag.W), R' = [(1, mI (T : Int)), (2, mI (K : Int)), (7, .ptr ow 0), (8, .raw (.int .i64 (t : Int))), (9, .raw (.int .i64 (i : Int))), (10, .raw (.int .i64 (r : Int)))] ∧ TwI K n ow (420 * t) (48100000 * t + 1400 * (i - 1) + 200 * r) (56 * t + 7 * (i - 1) + r) H4 O4 F4 g4 w4 ∧ r + mm = n) ?_ ?_
        · exact ⟨n, _, _, auto_ent, 0, O3, F3, g3, w3, rfl, hL.more (by omega) (by omega) (by omega), by omega⟩
        clear hL b1
        rintro m3 R2 H4 ⟨r, O4, F4, g4, w4, rfl, hL, hr⟩
        have b1 := hL.aw
        by_cases hlt3 : r < n
        rotate_left
        · have hL2 := hL.more (q' := 420 * t) (B' := 48100000 * t + 1400 * i) (I' := 56 * t + 7 * i) (by omega) (by omega) (by omega)
          (first | focus (refine aw_seq ?_; refine aw_seq ?_; refine aw_region ?_; refine awl_s rfl (s_move (v := .raw _) rfl) ?_; refine awl_s rfl (s_move (v := .ptr _ _) rfl) ?_; refine awl_s rfl (s_nilCheck_ptr rfl) ?_; refine awl_s rfl (s_fieldAddr_ptr rfl) ?_; refine awl_s rfl (s_load_cel rfl auto_heap rfl) ?_; refine awl_s rfl (s_ltn rfl rfl) ?_; (with_reducible refine awl_nil ?_); refine k_seq_normal ?_; refine aw_condp rfl (fun hc => ?_) (fun hc => ?_); exact absurd hc auto_no; refine aw_exit ?_; refine k_seq_exit ?_; refine k_seq_exit ?_; refine k_block_eq ?_; refine k_block_normal ?_; refine k_seq_normal ?_; rotate_left) | fail)
          all_goals try (exfalso; omega)
          all_goals exact ⟨_, _, auto_ent, O4, F4, g4, w4, rfl, hL2⟩
        have hS := tw_sub hL hlt3 (i := i) hlt2 (by omega) (by omega) (by omega) (by omega)
        clear hL
        (first | focus (refine aw_seq ?_; refine aw_seq ?_; refine aw_region ?_; refine awl_s rfl (s_move (v := .raw _) rfl) ?_; refine awl_s rfl (s_move (v := .ptr _ _) rfl) ?_; refine awl_s rfl (s_nilCheck_ptr rfl) ?_; refine awl_s rfl (s_fieldAddr_ptr rfl) ?_; refine awl_s rfl (s_load_cel rfl auto_heap rfl) ?_; refine awl_s rfl (s_ltn rfl rfl) ?_; (with_reducible refine awl_nil ?_); refine k_seq_normal ?_; refine aw_condp rfl (fun hc => ?_) (fun hc => ?_); refine aw_skip ?_; refine k_seq_normal ?_; refine aw_seq ?_; refine aw_block ?_; refine aw_seq ?_; refine aw_region ?_; refine awl_s rfl (s_move (v := .ptr _ _) rfl) ?_; refine awl_s rfl (s_move (v := .raw _) rfl) ?_; refine awl_s rfl (s_move (v := .raw _) rfl) ?_; refine awl_s rfl (s_convn rfl (by omega)) ?_; refine awl_s rfl (s_move (v := .raw _) rfl) ?_; refine awl_s rfl (s_buildSlicev (by ((repeat' (first | exact eqL_nil | apply eqL_cons)); all_goals (first | exact (rfl : _ = AV.raw _) | exact (rfl : _ = AV.bys _) | exact (rfl : _ = AV.vw _ _ _ _) | exact (rfl : _ = AV.ptr _ _) | exact (rfl : _ = AV.str _) | exact (rfl : _ = AV.sls _ _) | exact (rfl : _ = AV.tup _) | exact (rfl : _ = AV.agg _) | exact (rfl : _ = AV.pce _ _) | exact (rfl : _ = AV.emp) | exact (rfl : _ = AV.bysx _) | exact (rfl : _ = AV.slsx _ _) | exact (rfl : _ = AV.mp _) | exact (rfl : _ = AV.fnc _ _ _) | exact (rfl : _ = AV.pby _ _) | exact (rfl : _ = AV.ifc _ _)))) (by rfl) (by rfl) (by rfl) (by ((repeat' (first | exact eqL_nil | apply eqL_cons)); all_goals (first | exact (rfl : _ = AV.raw _) | exact (rfl : _ = AV.bys _) | exact (rfl : _ = AV.vw _ _ _ _) | exact (rfl : _ = AV.ptr _ _) | exact (rfl : _ = AV.str _) | exact (rfl : _ = AV.sls _ _) | exact (rfl : _ = AV.tup _) | exact (rfl : _ = AV.agg _) | exact (rfl : _ = AV.pce _ _) | exact (rfl : _ = AV.emp) | exact (rfl : _ = AV.bysx _) | exact (rfl : _ = AV.slsx _ _) | exact (rfl : _ = AV.mp _) | exact (rfl : _ = AV.fnc _ _ _) | exact (rfl : _ = AV.pby _ _) | exact (rfl : _ = AV.ifc _ _)))) (by decide)) ?_; refine awl_s rfl (s_buildv (by ((repeat' (first | exact eqL_nil | apply eqL_cons)); all_goals (first | exact (rfl : _ = AV.raw _) | exact (rfl : _ = AV.bys _) | exact (rfl : _ = AV.vw _ _ _ _) | exact (rfl : _ = AV.ptr _ _) | exact (rfl : _ = AV.str _) | exact (rfl : _ = AV.sls _ _) | exact (rfl : _ = AV.tup _) | exact (rfl : _ = AV.agg _) | exact (rfl : _ = AV.pce _ _) | exact (rfl : _ = AV.emp) | exact (rfl : _ = AV.bysx _) | exact (rfl : _ = AV.slsx _ _) | exact (rfl : _ = AV.mp _) | exact (rfl : _ = AV.fnc _ _ _) | exact (rfl : _ = AV.pby _ _) | exact (rfl : _ = AV.ifc _ _)))) (by rfl)) ?_; (((refine awl_callc rfl auto_wl (hS) (fun r H' hpost => ?_); obtain ⟨rfl, w5, g5, O5, F5, hL5⟩ := hpost))); refine awl_s rfl (s_notb rfl) ?_; (with_reducible refine awl_nil ?_); refine k_seq_normal ?_; refine aw_cond_f rfl ?_; refine aw_skip ?_; refine k_block_normal ?_; refine k_seq_normal ?_; refine aw_region ?_; refine awl_s rfl (s_move (v := .raw _) rfl) ?_; refine awl_s rfl (s_addn rfl rfl auto_len) ?_; refine awl_s rfl (s_assign (v := .raw _) rfl) ?_; (with_reducible refine awl_nil ?_); refine k_seq_normal ?_; rotate_left; exact absurd hc auto_no) | fail)
        all_goals try (exfalso; omega)
        all_goals exact ⟨m3 - 1, _, _, by omega, auto_ent, r + 1, O5, F5, g5, w5, rfl, hL5.more (by omega) (by omega) (by omega), by omega⟩
      clear hL b1
      rintro R2 H4 ⟨O4, F4, g4, w4, rfl, hL⟩
      (first | focus (refine aw_region ?_; refine awl_s rfl (s_move (v := .raw _) rfl) ?_; refine awl_s rfl (s_addn rfl rfl auto_len) ?_; refine awl_s rfl (s_assign (v := .raw _) rfl) ?_; (with_reducible refine awl_nil ?_); refine k_seq_normal ?_; rotate_left) | fail)
      all_goals exact ⟨m2 - 1, _, _, by omega, auto_ent, i + 1, O4, F4, g4, w4, rfl, hL.more (by omega) (by omega) (by omega), by omega, by omega⟩
    clear hL b1
    rintro R1 H3 ⟨O3, F3, g3, w3, rfl, hL⟩
    (first | focus (refine aw_seq ?_; refine aw_region ?_; refine awl_s rfl (s_assign (v := .raw _) rfl) ?_; (with_reducible refine awl_nil ?_); refine k_seq_normal ?_; refine aw_block ?_; rotate_left) | fail)
    refine aw_loop (fun mm R' H4 => ∃ (k : Nat) (O4 : Wo) (F4 : Nat → Ob) (g4 : Ag.Gh) (w4 : Ag.W), R' = [(1, mI (T : Int)), (2, mI (K : Int)), (7, .ptr ow 0), (8, .raw (.int .i64 (t : Int))), (11, .raw (.int .i64 (k : Int)))] ∧ TwI K n ow (420 * t + 7 * k) (48100000 * t + 11200 + 801400 * k) (56 * t + 56) H4 O4 F4 g4 w4 ∧ k + mm = 60) ?_ ?_
    · exact ⟨60, _, _, auto_ent, 0, O3, F3, g3, w3, rfl, hL.more (by omega) (by omega) (by omega), by omega⟩
    clear hL
    rintro m3 R2 H4 ⟨k, O4, F4, g4, w4, rfl, hL, hr⟩
    have b1 := hL.aw
    by_cases hlt3 : k < 60
    rotate_left
    · have hL2 := hL.more (q' := 420 * (t + 1)) (B' := 48100000 * (t + 1)) (I' := 56 * (t + 1)) (by omega) (by omega) (by omega)
      (first | focus (refine aw_seq ?_; refine aw_seq ?_; refine aw_region ?_; refine awl_s rfl (s_move (v := .raw _) rfl) ?_; refine awl_s rfl (s_ltn rfl rfl) ?_; (with_reducible refine awl_nil ?_); refine k_seq_normal ?_; refine aw_condp rfl (fun hc => ?_) (fun hc => ?_); exact absurd hc auto_no; refine aw_exit ?_; refine k_seq_exit ?_; refine k_seq_exit ?_; refine k_block_eq ?_; refine k_block_normal ?_; refine k_seq_normal ?_; refine aw_region ?_; refine awl_s rfl (s_move (v := .raw _) rfl) ?_; refine awl_s rfl (s_addn rfl rfl auto_len) ?_; refine awl_s rfl (s_assign (v := .raw _) rfl) ?_; (with_reducible refine awl_nil ?_); refine k_seq_normal ?_; rotate_left) | fail)
      all_goals try (exfalso; omega)
      all_goals exact ⟨mm - 1, _, _, by omega, auto_ent, t + 1, O4, F4, g4, w4, rfl, hL2, by omega⟩
    have hAll := fun H => all_calls H n hn7
    have hRd : ∀ (H5 : AHeap) (oU : Nat), H4 oU = none → H5 oU = some (upA n fun _ => true) → (∀ p y, H4 p = some y → H5 p = some y) → _ := fun H5 oU h1 h2 h3 => tw_round (hL.ext h3) h2 (by have := hL.at_.fresh h1; rw [hL.nn] at this; exact this) (by omega) (by omega) (by omega)
    clear hL
    (first | focus (refine aw_seq ?_; refine aw_seq ?_; refine aw_region ?_; refine awl_s rfl (s_move (v := .raw _) rfl) ?_; refine awl_s rfl (s_ltn rfl rfl) ?_; (with_reducible refine awl_nil ?_); refine k_seq_normal ?_; refine aw_condp rfl (fun hc => ?_) (fun hc => ?_); refine aw_skip ?_; refine k_seq_normal ?_; refine aw_seq ?_; refine aw_block ?_; refine aw_seq ?_; refine aw_region ?_; refine awl_s rfl (s_move (v := .ptr _ _) rfl) ?_; refine awl_s rfl (s_move (v := .ptr _ _) rfl) ?_; refine awl_s rfl (s_nilCheck_ptr rfl) ?_; refine awl_s rfl (s_fieldAddr_ptr rfl) ?_; refine awl_s rfl (s_load_cel rfl auto_heap rfl) ?_; (((refine awl_callc rfl auto_wl (hAll _) (fun r H' hpost => ?_); obtain ⟨oU, rfl, f1, f2, f3⟩ := hpost))); (((refine awl_callc rfl auto_wl (hRd _ _ f1 f2 f3) (fun r H' hpost => ?_); obtain ⟨rfl, w5, g5, O5, F5, hL5⟩ := hpost))); refine awl_s rfl (s_notb rfl) ?_; (with_reducible refine awl_nil ?_); refine k_seq_normal ?_; refine aw_cond_f rfl ?_; refine aw_skip ?_; refine k_block_normal ?_; refine k_seq_normal ?_; refine aw_region ?_; refine awl_s rfl (s_move (v := .raw _) rfl) ?_; refine awl_s rfl (s_addn rfl rfl auto_len) ?_; refine awl_s rfl (s_assign (v := .raw _) rfl) ?_; (with_reducible refine awl_nil ?_); refine k_seq_normal ?_; rotate_left; exact absurd hc auto_no) | fail)
    all_goals try (exfalso; omega)
    all_goals exact ⟨m3 - 1, _, _, by omega, auto_ent, k + 1, O5, F5, g5, w5, rfl, hL5.more (by omega) (by omega) (by omega), by omega⟩
  clear h0
  rintro R1 H2 ⟨O2, F2, g2, w2, rfl, hL⟩
  have b1 := hL.aw
  have b2 := hL.at_.ac
  rw [hL.nn] at b2
  have hcf := fun r (hr : r < n) => hL.wx.cf (by omega) (by rw [hL.nn]; exact hr)
  have hco := fun r (hr : r < n) => hL.at_.co r (by rw [hL.nn]; exact hr)
  have hle := fun r (hr : r < n) => twice_le hL.wx (by rw [hL.nn]; exact hr) hL.ids
  clear hL
  (first | focus (refine aw_seq ?_; refine aw_seq ?_; refine aw_region ?_; refine awl_s rfl (s_assign (v := .raw _) rfl) ?_; (with_reducible refine awl_nil ?_); refine k_seq_normal ?_; refine aw_block ?_; rotate_left) | fail)
  refine aw_loop (fun mm R' H3 => ∃ (r : Nat), R' = [(2, mI (K : Int)), (7, .ptr ow 0), (12, .raw (.int .i64 (r : Int)))] ∧ H3 = H2 ∧ r + mm = n) ?_ ?_
  · exact ⟨n, _, _, auto_ent, 0, rfl, rfl, by omega⟩
  rintro m3 R2 H4 ⟨r, rfl, rfl, hr⟩
  by_cases hlt : r < n
  rotate_left
  · (first | focus (refine aw_seq ?_; refine aw_seq ?_; refine aw_region ?_; refine awl_s rfl (s_move (v := .raw _) rfl) ?_; refine awl_s rfl (s_move (v := .ptr _ _) rfl) ?_; refine awl_s rfl (s_nilCheck_ptr rfl) ?_; refine awl_s rfl (s_fieldAddr_ptr rfl) ?_; refine awl_s rfl (s_load_cel rfl auto_heap rfl) ?_; refine awl_s rfl (s_ltn rfl rfl) ?_; (with_reducible refine awl_nil ?_); refine k_seq_normal ?_; refine aw_condp rfl (fun hc => ?_) (fun hc => ?_); exact absurd hc auto_no; refine aw_exit ?_; refine k_seq_exit ?_; refine k_seq_exit ?_; refine k_block_eq ?_; refine k_seq_normal ?_; refine aw_seq ?_; refine aw_region ?_; refine awl_s rfl (s_assign (v := .raw _) rfl) ?_; (with_reducible refine awl_nil ?_); refine k_seq_normal ?_; refine aw_ret ?_; rotate_left) | fail)
    all_goals try (exfalso; omega)
    all_goals exact ⟨.inl rfl, _, _, _, Ent.refl _ _, ret1 rfl rfl, rfl⟩
  have hrx : (List.range n)[r]? = some r := List.getElem?_range hlt
  have hC := Committed_calls _ (F2 r) (w2.c r) (hco r hlt) (hcf r hlt)
  have hle2 := hle r hlt
  clear hle hcf hco
  generalize hLq : (w2.c r).list.take (w2.c r).agreed = L at *
  clear hLq
  (first | focus (refine aw_seq ?_; refine aw_seq ?_; refine aw_region ?_; refine awl_s rfl (s_move (v := .raw _) rfl) ?_; refine awl_s rfl (s_move (v := .ptr _ _) rfl) ?_; refine awl_s rfl (s_nilCheck_ptr rfl) ?_; refine awl_s rfl (s_fieldAddr_ptr rfl) ?_; refine awl_s rfl (s_load_cel rfl auto_heap rfl) ?_; refine awl_s rfl (s_ltn rfl rfl) ?_; (with_reducible refine awl_nil ?_); refine k_seq_normal ?_; refine aw_condp rfl (fun hc => ?_) (fun hc => ?_); refine aw_skip ?_; refine k_seq_normal ?_; refine aw_seq ?_; refine aw_block ?_; refine aw_seq ?_; refine aw_region ?_; refine awl_s rfl (s_move (v := .ptr _ _) rfl) ?_; refine awl_s rfl (s_nilCheck_ptr rfl) ?_; refine awl_s rfl (s_fieldAddr_ptr rfl) ?_; refine awl_s rfl (s_load_cel rfl auto_heap rfl) ?_; refine awl_s rfl (s_move (v := .raw _) rfl) ?_; refine awl_s rfl (s_indexAddr_vw rfl rfl auto_len) ?_; refine awl_s rfl (s_load_cel rfl auto_heap auto_idx) ?_; (((refine awl_callc rfl auto_wl (hC) (fun r H' hpost => ?_); obtain ⟨rfl, rfl⟩ := hpost))); refine awl_s rfl (s_len_sls rfl) ?_; refine awl_s rfl (s_move (v := .raw _) rfl) ?_; refine awl_s rfl (s_gtn rfl rfl) ?_; (with_reducible refine awl_nil ?_); refine k_seq_normal ?_; refine aw_condp rfl (fun hc => ?_) (fun hc => ?_); exact absurd hc auto_no; refine aw_skip ?_; refine k_block_normal ?_; refine k_seq_normal ?_; refine aw_region ?_; refine awl_s rfl (s_move (v := .raw _) rfl) ?_; refine awl_s rfl (s_addn rfl rfl auto_len) ?_; refine awl_s rfl (s_assign (v := .raw _) rfl) ?_; (with_reducible refine awl_nil ?_); refine k_seq_normal ?_; rotate_left; exact absurd hc auto_no) | fail)
  all_goals try (exfalso; omega)
  all_goals exact ⟨m3 - 1, _, _, by omega, auto_ent, r + 1, rfl, rfl, by omega⟩
end Go.Proofs.Ytbciofnejefkiaa
