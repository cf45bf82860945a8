import Derived.Test.YtbciofnejefkiaaIa9
set_option linter.unusedVariables false
namespace Go.Proofs.Ytbciofnejefkiaa
open Go Go.Am Go.Proofs
set_option linter.unusedSimpArgs false
set_option linter.unusedVariables false
set_option maxRecDepth 20000
set_option maxHeartbeats 4000000

/-! Few agree on nothing: the walk of the law. -/
structure FwI (up : Nat → Bool) (n ow q B I : Nat) (H : AHeap) (O : Wo) (F : Nat → Ob) (g : Ag.Gh) (w : Ag.W) : Prop where
  ew : O.w = ow
  at_ : WAt H O F w
  wx : WX g w q B I
  cut : ∀ p, w.cut p = none
  nn : w.n = n
  acc : ∀ p, up p = false → ∀ u l, g.acc p u = some l → l = []
theorem FwI.more {up : Nat → Bool} {n ow q B I q' B' I' : Nat} {H : AHeap} {O : Wo} {F : Nat → Ob} {g : Ag.Gh} {w : Ag.W} (h : FwI up n ow q B I H O F g w) (h1 : q ≤ q') (h2 : B ≤ B') (h3 : I ≤ I') : FwI up n ow q' B' I' H O F g w :=
  ⟨h.ew, h.at_, h.wx.more h1 h2 h3, h.cut, h.nn, h.acc⟩
theorem fw_sub {up : Nat → Bool} {n ow q B I r i : Nat} {H : AHeap} {O : Wo} {F : Nat → Ob} {g : Ag.Gh} {w : Ag.W} (h : FwI up n ow q B I H O F g w) (hr : r < n) (hu : up r = true) (hi2 : i ≤ 1000) (hq : q ≤ 100000) (hI : I ≤ 100000) (hB : B ≤ 10000000000) :
    ACalls Try.prog 21 [.ptr ow 0, .agg [mI 0, mI (r : Int), mI 0, .raw (.int .u64 (i : Int)), .slsx 1 [.raw (.int .i64 1)]]] H fun r' H' => r' = bB true ∧ ∃ w' g' O' F', FwI up n ow q (B + 200) (I + 1) H' O' F' g' w' ∧ TurnW n H O F O' F' H' := by
  have := do_sub (up := up) H O F g w q B I r i [(1 : Int)] h.at_ h.wx h.cut (by rw [h.nn]; exact hr) hu ⟨by show i < 2 ^ 64; omega, fun v hv => by
    rw [List.mem_singleton.1 hv]; exact (show b64 1 from ⟨by decide, by decide⟩)⟩ hq hI hB (by simp)
  rw [h.ew, h.nn] at this
  exact (this.weak (xs := [.ptr ow 0, .agg [mI 0, mI (r : Int), mI 0, .raw (.int .u64 (i : Int)), .slsx 1 [.raw (.int .i64 1)]]]) (WL.cons (W.of rfl) (WL.cons (w_agg (WL.cons (W.of rfl) (WL.cons (W.of rfl) (WL.cons (W.of rfl) (WL.cons (W.of rfl) (WL.cons (W.slsx rfl) WL.nil)))))) WL.nil))).mono fun r' H' ⟨e, w', g', O', F', e1, e2, e3, e4, e5, e6⟩ => ⟨e, w', g', O', F', ⟨e6.w.trans h.ew, e5, e2, e3.cut, e3.n.trans h.nn, fun p hp u l hl => h.acc p hp u l (by rw [← (e3.dn p hp).1 u]; exact hl)⟩, e6⟩
theorem fw_round {up : Nat → Bool} {n ow q B I oU : Nat} {H : AHeap} {O : Wo} {F : Nat → Ob} {g : Ag.Gh} {w : Ag.W} (h : FwI up n ow q B I H O F g w) (hU : H oU = some (upA n up)) (hd : ¬ Dom O F n oU) (hq : q ≤ 99000) (hI : I ≤ 100000) (hB : B ≤ 9000000000) :
    ACalls Try.prog 22 [.ptr ow 0, .vw oU 1 0 n] H fun r' H' => r' = bB true ∧ ∃ w' g' O' F', FwI up n ow (q + 7) (B + 801400) I H' O' F' g' w' ∧ TurnW n H O F O' F' H' := by
  have := round_calls H O F g w q B I oU up h.at_ h.wx h.cut hq hI hB (by rw [h.nn]; exact hU) (by rw [h.nn]; exact hd)
  rw [h.ew, h.nn] at this
  exact this.mono fun r' H' ⟨e, w', g', O', F', e1, e2, e3, e4, e5, e6⟩ => ⟨e, w', g', O', F', ⟨e6.w.trans h.ew, e5, e2, e3.cut, e3.n.trans h.nn, fun p hp u l hl => h.acc p hp u l (by rw [← (e3.dn p hp).1 u]; exact hl)⟩, e6⟩
theorem FwI.ext {up : Nat → Bool} {n ow q B I : Nat} {H H' : AHeap} {O : Wo} {F : Nat → Ob} {g : Ag.Gh} {w : Ag.W} (h : FwI up n ow q B I H O F g w) (fr : ∀ p y, H p = some y → H' p = some y) : FwI up n ow q B I H' O F g w :=
  ⟨h.ew, ⟨fr _ _ h.at_.aw, fr _ _ h.at_.ac, fr _ _ h.at_.asv, fr _ _ h.at_.ak, fr _ _ h.at_.al, fr _ _ h.at_.ai, fr _ _ h.at_.ar, fr _ _ h.at_.ab, h.at_.nd, fun r hr => (h.at_.co r hr).ext fr, h.at_.ndC, h.at_.ap, h.at_.rr⟩, h.wx, h.cut, h.nn, h.acc⟩
theorem FwI.aw {up : Nat → Bool} {n ow q B I : Nat} {H : AHeap} {O : Wo} {F : Nat → Ob} {g : Ag.Gh} {w : Ag.W} (h : FwI up n ow q B I H O F g w) : H ow = some (.cel [mI n, .vw O.c 1 0 n, .vw O.s 1 0 n, .vw O.k 1 0 n, .vw O.l 9 0 w.l.length, .vw O.i 1 0 w.ids.length, .vw O.r 1 0 w.ids.length, .vw O.b 3 0 w.best.length]) := by
  have := h.at_.aw
  unfold worldC at this
  rw [h.ew, h.nn] at this; exact this
/-- The few that are up. -/
def fewUp (i p : Nat) : Bool := decide (p % 2 = 0 ∧ p < 2 * i)
theorem few_count {k : Nat} (h1 : 1 ≤ k) (h3 : k ≤ 3) : (List.range (2 * k + 1)).countP (fewUp k) ≤ (2 * k + 1) / 2 := by
  obtain rfl | rfl | rfl : k = 1 ∨ k = 2 ∨ k = 3 := by omega
  all_goals decide
theorem few_upd (i q : Nat) : Ag.upd (fewUp i) (2 * i) true q = fewUp (i + 1) q := by
  unfold Ag.upd fewUp
  split
  · next e => rw [decide_eq_true (by omega)]
  · next e => exact decide_eq_decide.2 (by omega)
theorem AgreeFew_calls (H : AHeap) (f m rounds : Int) (hf : b64 f) (ht : b64 m) (hi : b64 rounds) :
    ACalls Try.prog 8 [mI f, mI m, mI rounds] H fun r _ => r = .raw (.bool true) := by
  refine acalls_of_aw3 Try.func8 rfl (by decide) ?_
  by_cases h1 : f < 1 ∨ 3 < f ∨ m < 1 ∨ 10 < m ∨ rounds < 0 ∨ 150 < rounds
  · (first | focus (refine aw_seq ?_; refine aw_region ?_; refine awl_s rfl (s_assign (v := .raw _) rfl) ?_; (with_reducible refine awl_nil ?_); refine k_seq_normal ?_; refine aw_seq ?_; refine aw_seq ?_; refine aw_region ?_; (((refine awl_callc rfl auto_wl (awake_calls _) (fun r H' hpost => ?_); obtain ⟨rfl, hfr⟩ := hpost))); refine awl_s rfl (s_notb rfl) ?_; (with_reducible refine awl_nil ?_); refine k_seq_normal ?_; refine aw_cond_f rfl ?_; refine aw_skip ?_; refine k_seq_normal ?_; refine aw_seq ?_; refine aw_seq ?_; refine aw_region ?_; refine awl_s rfl (s_move (v := .raw _) rfl) ?_; refine awl_s rfl (s_lss rfl rfl) ?_; refine awl_s rfl (s_move (v := .raw _) rfl) ?_; refine zg2 rfl rfl rfl (fun hc => ?_) (fun hc => ?_); refine zg4 rfl rfl rfl ?_; refine awl_s rfl (s_pick_t (v := .raw _) rfl rfl) ?_; refine awl_s rfl (s_move (v := .raw _) rfl) ?_; refine zg4 rfl rfl rfl ?_; refine zg4 rfl rfl rfl ?_; refine awl_s rfl (s_pick_t (v := .raw _) rfl rfl) ?_; refine awl_s rfl (s_move (v := .raw _) rfl) ?_; refine zg4 rfl rfl rfl ?_; refine zg4 rfl rfl rfl ?_; refine awl_s rfl (s_pick_t (v := .raw _) rfl rfl) ?_; refine awl_s rfl (s_move (v := .raw _) rfl) ?_; refine zg4 rfl rfl rfl ?_; refine zg4 rfl rfl rfl ?_; refine awl_s rfl (s_pick_t (v := .raw _) rfl rfl) ?_; refine awl_s rfl (s_move (v := .raw _) rfl) ?_; refine zg4 rfl rfl rfl ?_; refine zg4 rfl rfl rfl ?_; refine awl_s rfl (s_pick_t (v := .raw _) rfl rfl) ?_; (with_reducible refine awl_nil ?_); refine k_seq_normal ?_; refine aw_cond_t rfl ?_; refine aw_seq ?_; refine aw_region ?_; refine awl_s rfl (s_assign (v := .raw _) rfl) ?_; (with_reducible refine awl_nil ?_); refine k_seq_normal ?_; refine aw_ret ?_; refine k_seq_ret ?_; rotate_left; refine awl_s rfl (s_move (v := .raw _) rfl) ?_; refine zg3 rfl rfl rfl ?_; refine awl_s rfl (s_gtr rfl rfl) ?_; refine awl_s rfl (s_pick_f (v := .raw _) rfl rfl) ?_; refine awl_s rfl (s_move (v := .raw _) rfl) ?_; refine zg2 rfl rfl rfl (fun hc => ?_) (fun hc => ?_); refine zg4 rfl rfl rfl ?_; refine awl_s rfl (s_pick_t (v := .raw _) rfl rfl) ?_; refine awl_s rfl (s_move (v := .raw _) rfl) ?_; refine zg4 rfl rfl rfl ?_; refine zg4 rfl rfl rfl ?_; refine awl_s rfl (s_pick_t (v := .raw _) rfl rfl) ?_; refine awl_s rfl (s_move (v := .raw _) rfl) ?_; refine zg4 rfl rfl rfl ?_; refine zg4 rfl rfl rfl ?_; refine awl_s rfl (s_pick_t (v := .raw _) rfl rfl) ?_; refine awl_s rfl (s_move (v := .raw _) rfl) ?_; refine zg4 rfl rfl rfl ?_; refine zg4 rfl rfl rfl ?_; refine awl_s rfl (s_pick_t (v := .raw _) rfl rfl) ?_; (with_reducible refine awl_nil ?_); refine k_seq_normal ?_; refine aw_cond_t rfl ?_; refine aw_seq ?_; refine aw_region ?_; refine awl_s rfl (s_assign (v := .raw _) rfl) ?_; (with_reducible refine awl_nil ?_); refine k_seq_normal ?_; refine aw_ret ?_; refine k_seq_ret ?_; rotate_left; refine awl_s rfl (s_move (v := .raw _) rfl) ?_; refine zg3 rfl rfl rfl ?_; refine awl_s rfl (s_lss rfl rfl) ?_; refine awl_s rfl (s_pick_f (v := .raw _) rfl rfl) ?_; refine awl_s rfl (s_move (v := .raw _) rfl) ?_; refine zg2 rfl rfl rfl (fun hc => ?_) (fun hc => ?_); refine zg4 rfl rfl rfl ?_; refine awl_s rfl (s_pick_t (v := .raw _) rfl rfl) ?_; refine awl_s rfl (s_move (v := .raw _) rfl) ?_; refine zg4 rfl rfl rfl ?_; refine zg4 rfl rfl rfl ?_; refine awl_s rfl (s_pick_t (v := .raw _) rfl rfl) ?_; refine awl_s rfl (s_move (v := .raw _) rfl) ?_; refine zg4 rfl rfl rfl ?_; refine zg4 rfl rfl rfl ?_; refine awl_s rfl (s_pick_t (v := .raw _) rfl rfl) ?_; (with_reducible refine awl_nil ?_); refine k_seq_normal ?_; refine aw_cond_t rfl ?_; refine aw_seq ?_; refine aw_region ?_; refine awl_s rfl (s_assign (v := .raw _) rfl) ?_; (with_reducible refine awl_nil ?_); refine k_seq_normal ?_; refine aw_ret ?_; refine k_seq_ret ?_; rotate_left; refine awl_s rfl (s_move (v := .raw _) rfl) ?_; refine zg3 rfl rfl rfl ?_; refine awl_s rfl (s_gtr rfl rfl) ?_; refine awl_s rfl (s_pick_f (v := .raw _) rfl rfl) ?_; refine awl_s rfl (s_move (v := .raw _) rfl) ?_; refine zg2 rfl rfl rfl (fun hc => ?_) (fun hc => ?_); refine zg4 rfl rfl rfl ?_; refine awl_s rfl (s_pick_t (v := .raw _) rfl rfl) ?_; refine awl_s rfl (s_move (v := .raw _) rfl) ?_; refine zg4 rfl rfl rfl ?_; refine zg4 rfl rfl rfl ?_; refine awl_s rfl (s_pick_t (v := .raw _) rfl rfl) ?_; (with_reducible refine awl_nil ?_); refine k_seq_normal ?_; refine aw_cond_t rfl ?_; refine aw_seq ?_; refine aw_region ?_; refine awl_s rfl (s_assign (v := .raw _) rfl) ?_; (with_reducible refine awl_nil ?_); refine k_seq_normal ?_; refine aw_ret ?_; refine k_seq_ret ?_; rotate_left; refine awl_s rfl (s_move (v := .raw _) rfl) ?_; refine zg3 rfl rfl rfl ?_; refine awl_s rfl (s_lss rfl rfl) ?_; refine awl_s rfl (s_pick_f (v := .raw _) rfl rfl) ?_; refine awl_s rfl (s_move (v := .raw _) rfl) ?_; refine zg2 rfl rfl rfl (fun hc => ?_) (fun hc => ?_); refine zg4 rfl rfl rfl ?_; refine awl_s rfl (s_pick_t (v := .raw _) rfl rfl) ?_; (with_reducible refine awl_nil ?_); refine k_seq_normal ?_; refine aw_cond_t rfl ?_; refine aw_seq ?_; refine aw_region ?_; refine awl_s rfl (s_assign (v := .raw _) rfl) ?_; (with_reducible refine awl_nil ?_); refine k_seq_normal ?_; refine aw_ret ?_; refine k_seq_ret ?_; rotate_left; refine awl_s rfl (s_move (v := .raw _) rfl) ?_; refine zg3 rfl rfl rfl ?_; refine awl_s rfl (s_gtr rfl rfl) ?_; refine awl_s rfl (s_pick_f (v := .raw _) rfl rfl) ?_; (with_reducible refine awl_nil ?_); refine k_seq_normal ?_; refine aw_condp rfl (fun hc => ?_) (fun hc => ?_); refine aw_seq ?_; refine aw_region ?_; refine awl_s rfl (s_assign (v := .raw _) rfl) ?_; (with_reducible refine awl_nil ?_); refine k_seq_normal ?_; refine aw_ret ?_; refine k_seq_ret ?_; rotate_left; exact absurd hc auto_no) | fail)
    all_goals try (exfalso; omega)
    all_goals exact ⟨.inl rfl, _, _, _, Ent.refl _ _, ret1 rfl rfl, rfl⟩
  obtain ⟨k, rfl⟩ : ∃ k : Nat, f = (k : Int) := ⟨f.toNat, by omega⟩
  obtain ⟨M, rfl⟩ : ∃ M : Nat, m = (M : Int) := ⟨m.toNat, by omega⟩
  obtain ⟨T, rfl⟩ : ∃ T : Nat, rounds = (T : Int) := ⟨rounds.toNat, by omega⟩
  have hk1 : 1 ≤ k := by omega
  have hk3 : k ≤ 3 := by omega
  have hM1 : 1 ≤ M := by omega
  have hM10 : M ≤ 10 := by omega
  have hT : T ≤ 150 := by omega
  clear h1
  have hBg := fun H => begun_calls H (2 * k + 1) (by omega) (by omega) (by omega)
  (first | focus (refine aw_seq ?_; refine aw_region ?_; refine awl_s rfl (s_assign (v := .raw _) rfl) ?_; (with_reducible refine awl_nil ?_); refine k_seq_normal ?_; refine aw_seq ?_; refine aw_seq ?_; refine aw_region ?_; (((refine awl_callc rfl auto_wl (awake_calls _) (fun r H' hpost => ?_); obtain ⟨rfl, hfr⟩ := hpost))); refine awl_s rfl (s_notb rfl) ?_; (with_reducible refine awl_nil ?_); refine k_seq_normal ?_; refine aw_cond_f rfl ?_; refine aw_skip ?_; refine k_seq_normal ?_; refine aw_seq ?_; refine aw_seq ?_; refine aw_region ?_; refine awl_s rfl (s_move (v := .raw _) rfl) ?_; refine awl_s rfl (s_ltn rfl rfl) ?_; refine awl_s rfl (s_move (v := .raw _) rfl) ?_; refine zg2 rfl rfl rfl (fun hc => ?_) (fun hc => ?_); exact absurd hc auto_no; refine awl_s rfl (s_move (v := .raw _) rfl) ?_; refine zg3 rfl rfl rfl ?_; refine awl_s rfl (s_gtn rfl rfl) ?_; refine awl_s rfl (s_pick_f (v := .raw _) rfl rfl) ?_; refine awl_s rfl (s_move (v := .raw _) rfl) ?_; refine zg2 rfl rfl rfl (fun hc => ?_) (fun hc => ?_); exact absurd hc auto_no; refine awl_s rfl (s_move (v := .raw _) rfl) ?_; refine zg3 rfl rfl rfl ?_; refine awl_s rfl (s_ltn rfl rfl) ?_; refine awl_s rfl (s_pick_f (v := .raw _) rfl rfl) ?_; refine awl_s rfl (s_move (v := .raw _) rfl) ?_; refine zg2 rfl rfl rfl (fun hc => ?_) (fun hc => ?_); exact absurd hc auto_no; refine awl_s rfl (s_move (v := .raw _) rfl) ?_; refine zg3 rfl rfl rfl ?_; refine awl_s rfl (s_gtn rfl rfl) ?_; refine awl_s rfl (s_pick_f (v := .raw _) rfl rfl) ?_; refine awl_s rfl (s_move (v := .raw _) rfl) ?_; refine zg2 rfl rfl rfl (fun hc => ?_) (fun hc => ?_); exact absurd hc auto_no; refine awl_s rfl (s_move (v := .raw _) rfl) ?_; refine zg3 rfl rfl rfl ?_; refine awl_s rfl (s_ltn rfl rfl) ?_; refine awl_s rfl (s_pick_f (v := .raw _) rfl rfl) ?_; refine awl_s rfl (s_move (v := .raw _) rfl) ?_; refine zg2 rfl rfl rfl (fun hc => ?_) (fun hc => ?_); exact absurd hc auto_no; refine awl_s rfl (s_move (v := .raw _) rfl) ?_; refine zg3 rfl rfl rfl ?_; refine awl_s rfl (s_gtn rfl rfl) ?_; refine awl_s rfl (s_pick_f (v := .raw _) rfl rfl) ?_; (with_reducible refine awl_nil ?_); refine k_seq_normal ?_; refine aw_condp rfl (fun hc => ?_) (fun hc => ?_); exact absurd hc auto_no; refine aw_skip ?_; refine k_seq_normal ?_; refine aw_seq ?_; refine aw_region ?_; refine awl_s rfl (s_move (v := .raw _) rfl) ?_; refine awl_s rfl (s_muln rfl rfl auto_len) ?_; refine awl_s rfl (s_addn rfl rfl auto_len) ?_; (((refine awl_callc rfl auto_wl (hBg _) (fun r H' hpost => ?_); obtain ⟨O, F, rfl, a1, a2, a3⟩ := hpost))); refine awl_s rfl (s_assign (v := .ptr _ _) rfl) ?_; (with_reducible refine awl_nil ?_); refine k_seq_normal ?_; refine aw_seq ?_; refine aw_seq ?_; refine aw_region ?_; refine awl_s rfl (s_move (v := .ptr _ _) rfl) ?_; refine awl_s rfl (s_ptr_eqnil rfl rfl) ?_; (with_reducible refine awl_nil ?_); refine k_seq_normal ?_; refine aw_cond_f rfl ?_; refine aw_skip ?_; refine k_seq_normal ?_; rotate_left) | fail)
  all_goals try (exfalso; omega)
  clear hc
  have hX := WX.begun (n := 2 * k + 1) (by omega) (by omega) (by omega)
  have h0 : FwI (fewUp k) (2 * k + 1) O.w 0 0 0 H' O F _ _ := ⟨rfl, a1, hX, fun _ => rfl, rfl, fun p hp u l hl => by
    replace hl : (if u = 0 then some ([] : List En) else none) = some l := hl
    split at hl
    · exact (Option.some.inj hl).symm
    · cases hl⟩
  have hcnt := few_count hk1 hk3
  generalize hOw : O.w = ow at *
  obtain ⟨n, hnn⟩ : ∃ n, n = 2 * k + 1 := ⟨_, rfl⟩
  rw [← hnn] at h0 hcnt
  have hn7 : n ≤ 7 := by omega
  have hn1 : 1 ≤ n := by omega
  clear a1 a2 a3 hX hBg hfr
  have b1 := h0.aw
  (first | focus (refine aw_seq ?_; refine aw_region ?_; refine awl_s rfl (s_move (v := .ptr _ _) rfl) ?_; refine awl_s rfl (s_nilCheck_ptr rfl) ?_; refine awl_s rfl (s_fieldAddr_ptr rfl) ?_; refine awl_s rfl (s_load_cel rfl auto_heap rfl) ?_; refine awl_make_cel rfl rfl rfl auto_om rfl rfl auto_om auto_om (fun oN hoN => ?_); refine awl_s rfl (s_assign (v := .vw _ _ _ _) rfl) ?_; (with_reducible refine awl_nil ?_); refine k_seq_normal ?_; refine aw_seq ?_; refine aw_seq ?_; refine aw_region ?_; refine awl_s rfl (s_assign (v := .raw _) rfl) ?_; (with_reducible refine awl_nil ?_); refine k_seq_normal ?_; refine aw_block ?_; rotate_left) | fail)
  have hrep : List.replicate n (AV.raw (.bool false)) = (List.range n).map fun q => AV.raw (.bool (fewUp 0 q)) := by
    rw [show (fun q : Nat => AV.raw (.bool (fewUp 0 q))) = fun _ => AV.raw (.bool false) from funext fun q => by unfold fewUp; rw [decide_eq_false (by omega)], List.map_const', List.length_range]
  rw [hrep]
  have hfo := h0.at_.fresh hoN
  rw [h0.nn] at hfo
  have hne : ow ≠ oN := fun e => by rw [← e, b1] at hoN; cases hoN
  generalize hqq : oN = oU at *
  refine aw_loop (fun mm R' H2 => ∃ i : Nat, R' = [(0, mI k), (1, mI M), (2, mI T), (7, .ptr ow 0), (8, .vw oU 1 0 n), (9, .raw (.int .i64 (i : Int)))] ∧ H2 = H'.set oU (upA n (fewUp i)) ∧ i + mm = k) ?_ ?_
  · exact ⟨k, _, _, auto_ent, 0, rfl, rfl, by omega⟩
  rintro mm R0 H2 ⟨i, rfl, rfl, hi2⟩
  have b2 : (H'.set oU (upA n (fewUp i))) ow = _ := AHeap.get_skip hne b1
  by_cases hlt : i < k
  · have hm : i * 2 % n = 2 * i := by rw [Nat.mod_eq_of_lt (by omega)]; omega
    have hset : ((List.range n).map fun q => AV.raw (.bool (fewUp i q))).set (0 + i * 2 % n * 1) (.raw (.bool true)) = (List.range n).map fun q => AV.raw (.bool (fewUp (i + 1) q)) := by
      rw [show 0 + i * 2 % n * 1 = 2 * i by omega, rng_bool]
      exact List.map_congr_left fun q _ => by rw [few_upd]
    unfold upA at b2 ⊢
    (first | focus (refine aw_seq ?_; refine aw_seq ?_; refine aw_region ?_; refine awl_s rfl (s_move (v := .raw _) rfl) ?_; refine awl_s rfl (s_move (v := .raw _) rfl) ?_; refine awl_s rfl (s_ltn rfl rfl) ?_; (with_reducible refine awl_nil ?_); refine k_seq_normal ?_; refine aw_condp rfl (fun hc => ?_) (fun hc => ?_); refine aw_skip ?_; refine k_seq_normal ?_; refine aw_seq ?_; refine aw_block ?_; refine aw_region ?_; refine awl_s rfl (s_move (v := .vw _ _ _ _) rfl) ?_; refine awl_s rfl (s_move (v := .raw _) rfl) ?_; refine awl_s rfl (s_muln rfl rfl auto_len) ?_; refine awl_s rfl (s_move (v := .ptr _ _) rfl) ?_; refine awl_s rfl (s_nilCheck_ptr rfl) ?_; refine awl_s rfl (s_fieldAddr_ptr rfl) ?_; refine awl_s rfl (s_load_cel rfl auto_heap rfl) ?_; refine awl_s rfl (s_remn rfl rfl auto_len) ?_; refine awl_s rfl (s_indexAddr_vw rfl rfl auto_len) ?_; refine zs5 rfl auto_mv rfl auto_r auto_k ?_; (with_reducible refine awl_nil ?_); refine k_block_normal ?_; refine k_seq_normal ?_; refine aw_region ?_; refine awl_s rfl (s_move (v := .raw _) rfl) ?_; refine awl_s rfl (s_addn rfl rfl auto_len) ?_; refine awl_s rfl (s_assign (v := .raw _) rfl) ?_; (with_reducible refine awl_nil ?_); refine k_seq_normal ?_; rotate_left; exact absurd hc auto_no) | fail)
    all_goals try (exfalso; omega)
    exact ⟨mm - 1, _, _, by omega, auto_ent, i + 1, rfl, by rw [hset], by omega⟩
  obtain rfl : i = k := by omega
  have hI : FwI (fewUp i) n ow 0 0 0 (H'.set oU (upA n (fewUp i))) O F _ _ := h0.ext fun p y hp => AHeap.get_skip (fun e => by rw [e, hoN] at hp; cases hp) hp
  have hU := AHeap.set_self H' oU (upA n (fewUp i))
  generalize H'.set oU (upA n (fewUp i)) = H2 at *
  clear hrep hoN h0 b1 b2 hqq
  (first | focus (refine aw_seq ?_; refine aw_seq ?_; refine aw_region ?_; refine awl_s rfl (s_move (v := .raw _) rfl) ?_; refine awl_s rfl (s_move (v := .raw _) rfl) ?_; refine awl_s rfl (s_ltn rfl rfl) ?_; (with_reducible refine awl_nil ?_); refine k_seq_normal ?_; refine aw_condp rfl (fun hc => ?_) (fun hc => ?_); exact absurd hc auto_no; refine aw_exit ?_; refine k_seq_exit ?_; refine k_seq_exit ?_; refine k_block_eq ?_; refine k_seq_normal ?_; refine aw_seq ?_; refine aw_seq ?_; refine aw_region ?_; refine awl_s rfl (s_assign (v := .raw _) rfl) ?_; (with_reducible refine awl_nil ?_); refine k_seq_normal ?_; refine aw_block ?_; rotate_left) | fail)
  all_goals try (exfalso; omega)
  generalize hup : fewUp i = up at *
  refine aw_loop (fun mm R' H4 => ∃ (t : Nat) (O4 : Wo) (F4 : Nat → Ob) (g4 : Ag.Gh) (w4 : Ag.W), R' = [(1, mI M), (2, mI T), (7, .ptr ow 0), (8, .vw oU 1 0 n), (10, .raw (.int .i64 (t : Int)))] ∧ FwI up n ow (7 * t) (802800 * t) (7 * t) H4 O4 F4 g4 w4 ∧ H4 oU = some (upA n up) ∧ ¬ Dom O4 F4 n oU ∧ t + mm = T) ?_ ?_
  · exact ⟨T, _, _, auto_ent, 0, O, F, _, _, rfl, hI, hU, hfo, by omega⟩
  clear hI hU hfo
  rintro mm R0 H3 ⟨t, O3, F3, g3, w3, rfl, hL, hU, hd, ht2⟩
  have b1 := hL.aw
  by_cases hlt : t < T
  rotate_left
  · have hb := few_nil hL.wx hL.acc (by rw [hL.nn]; exact hcnt)
    rw [hb] at b1
    clear hL
    (first | focus (refine aw_seq ?_; refine aw_seq ?_; refine aw_region ?_; refine awl_s rfl (s_move (v := .raw _) rfl) ?_; refine awl_s rfl (s_move (v := .raw _) rfl) ?_; refine awl_s rfl (s_ltn rfl rfl) ?_; (with_reducible refine awl_nil ?_); refine k_seq_normal ?_; refine aw_condp rfl (fun hc => ?_) (fun hc => ?_); exact absurd hc auto_no; refine aw_exit ?_; refine k_seq_exit ?_; refine k_seq_exit ?_; refine k_block_eq ?_; refine k_seq_normal ?_; refine aw_seq ?_; refine aw_region ?_; refine awl_s rfl (s_move (v := .ptr _ _) rfl) ?_; refine awl_s rfl (s_nilCheck_ptr rfl) ?_; refine awl_s rfl (s_fieldAddr_ptr rfl) ?_; refine awl_s rfl (s_load_cel rfl auto_heap rfl) ?_; refine awl_s rfl (s_len_vw rfl) ?_; refine awl_s rfl (s_eqn rfl rfl) ?_; refine awl_s rfl (s_assign (v := .raw _) rfl) ?_; (with_reducible refine awl_nil ?_); refine k_seq_normal ?_; refine aw_ret ?_; rotate_left) | fail)
    all_goals try (exfalso; omega)
    all_goals exact ⟨.inl rfl, _, _, _, Ent.refl _ _, ret1 rfl rfl, rfl⟩
  (first | focus (refine aw_seq ?_; refine aw_seq ?_; refine aw_region ?_; refine awl_s rfl (s_move (v := .raw _) rfl) ?_; refine awl_s rfl (s_move (v := .raw _) rfl) ?_; refine awl_s rfl (s_ltn rfl rfl) ?_; (with_reducible refine awl_nil ?_); refine k_seq_normal ?_; refine aw_condp rfl (fun hc => ?_) (fun hc => ?_); refine aw_skip ?_; refine k_seq_normal ?_; rotate_left; exact absurd hc auto_no) | fail)
  all_goals try (exfalso; omega)
  refine aw_seq ?_
  refine aw_block ?_
  refine aw_seq ?_
  refine aw_kmid (fun R' H4 => ∃ (O4 : Wo) (F4 : Nat → Ob) (g4 : Ag.Gh) (w4 : Ag.W), R' = [(1, mI M), (2, mI T), (7, .ptr ow 0), (8, .vw oU 1 0 n), (10, .raw (.int .i64 (t : Int)))] ∧ FwI up n ow (7 * t) (802800 * t + 1400) (7 * t + 7) H4 O4 F4 g4 w4 ∧ H4 oU = some (upA n up) ∧ ¬ Dom O4 F4 n oU) ?_ ?_
  · (first | focus (refine aw_seq ?_; refine aw_region ?_; refine awl_s rfl (s_assign (v := .raw _) rfl) ?_; (with_reducible refine awl_nil ?_); refine k_seq_normal ?_; refine aw_block ?_; rotate_left) | fail)
    refine aw_loop (fun mm R' H4 => ∃ (r : Nat) (O4 : Wo) (F4 : Nat → Ob) (g4 : Ag.Gh) (w4 : Ag.W), R' = [(1, mI M), (2, mI T), (7, .ptr ow 0), (8, .vw oU 1 0 n), (10, .raw (.int .i64 (t : Int))), (11, .raw (.int .i64 (r : Int)))] ∧ FwI up n ow (7 * t) (802800 * t + 200 * r) (7 * t + r) H4 O4 F4 g4 w4 ∧ H4 oU = some (upA n up) ∧ ¬ Dom O4 F4 n oU ∧ r + mm = n) ?_ ?_
    · exact ⟨n, _, _, auto_ent, 0, O3, F3, g3, w3, rfl, hL.more (by omega) (by omega) (by omega), hU, hd, by omega⟩
    clear hL b1 hU hd
    rintro m3 R2 H4 ⟨r, O4, F4, g4, w4, rfl, hL, hU, hd, hr⟩
    have b1 := hL.aw
    by_cases hlt3 : r < n
    rotate_left
    · have hL2 := hL.more (q' := 7 * t) (B' := 802800 * t + 1400) (I' := 7 * t + 7) (by omega) (by omega) (by omega)
      clear hL
      (first | focus (refine aw_seq ?_; refine aw_seq ?_; refine aw_region ?_; refine awl_s rfl (s_move (v := .raw _) rfl) ?_; refine awl_s rfl (s_move (v := .ptr _ _) rfl) ?_; refine awl_s rfl (s_nilCheck_ptr rfl) ?_; refine awl_s rfl (s_fieldAddr_ptr rfl) ?_; refine awl_s rfl (s_load_cel rfl auto_heap rfl) ?_; refine awl_s rfl (s_ltn rfl rfl) ?_; (with_reducible refine awl_nil ?_); refine k_seq_normal ?_; refine aw_condp rfl (fun hc => ?_) (fun hc => ?_); exact absurd hc auto_no; refine aw_exit ?_; refine k_seq_exit ?_; refine k_seq_exit ?_; refine k_block_eq ?_; refine k_seq_normal ?_; rotate_left) | fail)
      all_goals try (exfalso; omega)
      all_goals exact ⟨_, _, auto_ent, O4, F4, g4, w4, rfl, hL2, hU, hd⟩
    have hL2 := hL.more (q' := 7 * t) (B' := 802800 * t + 200 * (r + 1)) (I' := 7 * t + (r + 1)) (by omega) (by omega) (by omega)
    have ur : ((List.range n).map fun r => AV.raw (.bool (up r)))[0 + r * 1]? = some (.raw (.bool (up r))) := by rw [show 0 + r * 1 = r by omega]; exact up_get hlt3
    have hUU := Hdn.mk hU
    unfold upA at hU
    obtain ⟨us, hus⟩ : ∃ us, us = (List.range n).map fun r => AV.raw (.bool (up r)) := ⟨_, rfl⟩
    have hul : us.length = n := by rw [hus, List.length_map, List.length_range]
    rw [← hus] at hU ur
    replace hus := Hdn.mk hus
    cases hur : up r with
    | false =>
      rw [hur] at ur
      clear hL
      (first | focus (refine aw_seq ?_; refine aw_seq ?_; refine aw_region ?_; refine awl_s rfl (s_move (v := .raw _) rfl) ?_; refine awl_s rfl (s_move (v := .ptr _ _) rfl) ?_; refine awl_s rfl (s_nilCheck_ptr rfl) ?_; refine awl_s rfl (s_fieldAddr_ptr rfl) ?_; refine awl_s rfl (s_load_cel rfl auto_heap rfl) ?_; refine awl_s rfl (s_ltn rfl rfl) ?_; (with_reducible refine awl_nil ?_); refine k_seq_normal ?_; refine aw_condp rfl (fun hc => ?_) (fun hc => ?_); refine aw_skip ?_; refine k_seq_normal ?_; refine aw_seq ?_; refine aw_block ?_; refine aw_seq ?_; refine aw_region ?_; refine awl_s rfl (s_move (v := .vw _ _ _ _) rfl) ?_; refine awl_s rfl (s_move (v := .raw _) rfl) ?_; refine awl_s rfl (s_indexAddr_vw rfl rfl auto_len) ?_; refine awl_s rfl (s_load_cel rfl auto_heap auto_idx) ?_; refine awl_s rfl (s_move (v := .raw _) rfl) ?_; refine zg4 rfl rfl rfl ?_; refine zg4 rfl rfl rfl ?_; refine zg4 rfl rfl rfl ?_; refine awl_s rfl (s_pick_f (v := .raw _) rfl rfl) ?_; refine awl_s rfl (s_move (v := .raw _) rfl) ?_; refine zg4 rfl rfl rfl ?_; refine zg4 rfl rfl rfl ?_; refine zg4 rfl rfl rfl ?_; refine zg4 rfl rfl rfl ?_; refine zg4 rfl rfl rfl ?_; refine zg4 rfl rfl rfl ?_; refine zg4 rfl rfl rfl ?_; refine zg4 rfl rfl rfl ?_; refine zg4 rfl rfl rfl ?_; refine awl_s rfl (s_pick_f (v := .raw _) rfl rfl) ?_; (with_reducible refine awl_nil ?_); refine k_seq_normal ?_; refine aw_cond_f rfl ?_; refine aw_skip ?_; refine k_block_normal ?_; refine k_seq_normal ?_; refine aw_region ?_; refine awl_s rfl (s_move (v := .raw _) rfl) ?_; refine awl_s rfl (s_addn rfl rfl auto_len) ?_; refine awl_s rfl (s_assign (v := .raw _) rfl) ?_; (with_reducible refine awl_nil ?_); refine k_seq_normal ?_; rotate_left; exact absurd hc auto_no) | fail)
      all_goals try (exfalso; omega)
      all_goals exact ⟨m3 - 1, _, _, by omega, auto_ent, r + 1, O4, F4, g4, w4, rfl, hL2, hUU.out, hd, by omega⟩
    | true =>
      rw [hur] at ur
      by_cases htM : t < M
      · have hS := fw_sub hL hlt3 hur (i := t + 1) (by omega) (by omega) (by omega) (by omega)
        clear hL hL2
        (first | focus (refine aw_seq ?_; refine aw_seq ?_; refine aw_region ?_; refine awl_s rfl (s_move (v := .raw _) rfl) ?_; refine awl_s rfl (s_move (v := .ptr _ _) rfl) ?_; refine awl_s rfl (s_nilCheck_ptr rfl) ?_; refine awl_s rfl (s_fieldAddr_ptr rfl) ?_; refine awl_s rfl (s_load_cel rfl auto_heap rfl) ?_; refine awl_s rfl (s_ltn rfl rfl) ?_; (with_reducible refine awl_nil ?_); refine k_seq_normal ?_; refine aw_condp rfl (fun hc => ?_) (fun hc => ?_); refine aw_skip ?_; refine k_seq_normal ?_; refine aw_seq ?_; refine aw_block ?_; refine aw_seq ?_; refine aw_region ?_; refine awl_s rfl (s_move (v := .vw _ _ _ _) rfl) ?_; refine awl_s rfl (s_move (v := .raw _) rfl) ?_; refine awl_s rfl (s_indexAddr_vw rfl rfl auto_len) ?_; refine awl_s rfl (s_load_cel rfl auto_heap auto_idx) ?_; refine awl_s rfl (s_move (v := .raw _) rfl) ?_; refine zg3 rfl rfl rfl ?_; refine awl_s rfl (s_move (v := .raw _) rfl) ?_; refine zg3 rfl rfl rfl ?_; refine awl_s rfl (s_move (v := .raw _) rfl) ?_; refine zg3 rfl rfl rfl ?_; refine awl_s rfl (s_ltn rfl rfl) ?_; refine awl_s rfl (s_pick_t (v := .raw _) rfl rfl) ?_; refine awl_s rfl (s_move (v := .raw _) rfl) ?_; refine zg1 rfl rfl rfl (fun hc => ?_) (fun hc => ?_); refine awl_s rfl (s_move (v := .ptr _ _) rfl) ?_; refine zg3 rfl rfl rfl ?_; refine awl_s rfl (s_move (v := .raw _) rfl) ?_; refine zg3 rfl rfl rfl ?_; refine awl_s rfl (s_move (v := .raw _) rfl) ?_; refine zg3 rfl rfl rfl ?_; refine awl_s rfl (s_addn rfl rfl auto_len) ?_; refine zg3 rfl rfl rfl ?_; refine awl_s rfl (s_convn rfl (by omega)) ?_; refine zg3 rfl rfl rfl ?_; refine awl_s rfl (s_buildSlicev (by ((repeat' (first | exact eqL_nil | apply eqL_cons)); all_goals (first | exact (rfl : _ = AV.raw _) | exact (rfl : _ = AV.bys _) | exact (rfl : _ = AV.vw _ _ _ _) | exact (rfl : _ = AV.ptr _ _) | exact (rfl : _ = AV.str _) | exact (rfl : _ = AV.sls _ _) | exact (rfl : _ = AV.tup _) | exact (rfl : _ = AV.agg _) | exact (rfl : _ = AV.pce _ _) | exact (rfl : _ = AV.emp) | exact (rfl : _ = AV.bysx _) | exact (rfl : _ = AV.slsx _ _) | exact (rfl : _ = AV.mp _) | exact (rfl : _ = AV.fnc _ _ _) | exact (rfl : _ = AV.pby _ _) | exact (rfl : _ = AV.ifc _ _)))) (by rfl) (by rfl) (by rfl) (by ((repeat' (first | exact eqL_nil | apply eqL_cons)); all_goals (first | exact (rfl : _ = AV.raw _) | exact (rfl : _ = AV.bys _) | exact (rfl : _ = AV.vw _ _ _ _) | exact (rfl : _ = AV.ptr _ _) | exact (rfl : _ = AV.str _) | exact (rfl : _ = AV.sls _ _) | exact (rfl : _ = AV.tup _) | exact (rfl : _ = AV.agg _) | exact (rfl : _ = AV.pce _ _) | exact (rfl : _ = AV.emp) | exact (rfl : _ = AV.bysx _) | exact (rfl : _ = AV.slsx _ _) | exact (rfl : _ = AV.mp _) | exact (rfl : _ = AV.fnc _ _ _) | exact (rfl : _ = AV.pby _ _) | exact (rfl : _ = AV.ifc _ _)))) (by decide)) ?_; refine zg3 rfl rfl rfl ?_; refine awl_s rfl (s_buildv (by ((repeat' (first | exact eqL_nil | apply eqL_cons)); all_goals (first | exact (rfl : _ = AV.raw _) | exact (rfl : _ = AV.bys _) | exact (rfl : _ = AV.vw _ _ _ _) | exact (rfl : _ = AV.ptr _ _) | exact (rfl : _ = AV.str _) | exact (rfl : _ = AV.sls _ _) | exact (rfl : _ = AV.tup _) | exact (rfl : _ = AV.agg _) | exact (rfl : _ = AV.pce _ _) | exact (rfl : _ = AV.emp) | exact (rfl : _ = AV.bysx _) | exact (rfl : _ = AV.slsx _ _) | exact (rfl : _ = AV.mp _) | exact (rfl : _ = AV.fnc _ _ _) | exact (rfl : _ = AV.pby _ _) | exact (rfl : _ = AV.ifc _ _)))) (by rfl)) ?_; refine zg3 rfl rfl rfl ?_; (((refine awl_callc rfl auto_wl (hS) (fun r H' hpost => ?_); obtain ⟨rfl, w5, g5, O5, F5, hL5, t5⟩ := hpost))); refine zg3 rfl rfl rfl ?_; refine awl_s rfl (s_notb rfl) ?_; refine awl_s rfl (s_pick_t (v := .raw _) rfl rfl) ?_; (with_reducible refine awl_nil ?_); refine k_seq_normal ?_; refine aw_cond_f rfl ?_; refine aw_skip ?_; refine k_block_normal ?_; refine k_seq_normal ?_; refine aw_region ?_; refine awl_s rfl (s_move (v := .raw _) rfl) ?_; refine awl_s rfl (s_addn rfl rfl auto_len) ?_; refine awl_s rfl (s_assign (v := .raw _) rfl) ?_; (with_reducible refine awl_nil ?_); refine k_seq_normal ?_; rotate_left; exact absurd hc auto_no; exact absurd hc auto_no) | fail)
        all_goals try (exfalso; omega)
        all_goals exact ⟨m3 - 1, _, _, by omega, auto_ent, r + 1, O5, F5, g5, w5, rfl, hL5.more (by omega) (by omega) (by omega), (t5.keep hUU.out hd).1, (t5.keep hUU.out hd).2, by omega⟩
      · clear hL
        (first | focus (refine aw_seq ?_; refine aw_seq ?_; refine aw_region ?_; refine awl_s rfl (s_move (v := .raw _) rfl) ?_; refine awl_s rfl (s_move (v := .ptr _ _) rfl) ?_; refine awl_s rfl (s_nilCheck_ptr rfl) ?_; refine awl_s rfl (s_fieldAddr_ptr rfl) ?_; refine awl_s rfl (s_load_cel rfl auto_heap rfl) ?_; refine awl_s rfl (s_ltn rfl rfl) ?_; (with_reducible refine awl_nil ?_); refine k_seq_normal ?_; refine aw_condp rfl (fun hc => ?_) (fun hc => ?_); refine aw_skip ?_; refine k_seq_normal ?_; refine aw_seq ?_; refine aw_block ?_; refine aw_seq ?_; refine aw_region ?_; refine awl_s rfl (s_move (v := .vw _ _ _ _) rfl) ?_; refine awl_s rfl (s_move (v := .raw _) rfl) ?_; refine awl_s rfl (s_indexAddr_vw rfl rfl auto_len) ?_; refine awl_s rfl (s_load_cel rfl auto_heap auto_idx) ?_; refine awl_s rfl (s_move (v := .raw _) rfl) ?_; refine zg3 rfl rfl rfl ?_; refine awl_s rfl (s_move (v := .raw _) rfl) ?_; refine zg3 rfl rfl rfl ?_; refine awl_s rfl (s_move (v := .raw _) rfl) ?_; refine zg3 rfl rfl rfl ?_; refine awl_s rfl (s_ltn rfl rfl) ?_; refine awl_s rfl (s_pick_t (v := .raw _) rfl rfl) ?_; refine awl_s rfl (s_move (v := .raw _) rfl) ?_; refine zg1 rfl rfl rfl (fun hc => ?_) (fun hc => ?_); exact absurd hc auto_no; refine zg4 rfl rfl rfl ?_; refine zg4 rfl rfl rfl ?_; refine zg4 rfl rfl rfl ?_; refine zg4 rfl rfl rfl ?_; refine zg4 rfl rfl rfl ?_; refine zg4 rfl rfl rfl ?_; refine zg4 rfl rfl rfl ?_; refine zg4 rfl rfl rfl ?_; refine awl_s rfl (s_pick_f (v := .raw _) rfl rfl) ?_; (with_reducible refine awl_nil ?_); refine k_seq_normal ?_; refine aw_cond_f rfl ?_; refine aw_skip ?_; refine k_block_normal ?_; refine k_seq_normal ?_; refine aw_region ?_; refine awl_s rfl (s_move (v := .raw _) rfl) ?_; refine awl_s rfl (s_addn rfl rfl auto_len) ?_; refine awl_s rfl (s_assign (v := .raw _) rfl) ?_; (with_reducible refine awl_nil ?_); refine k_seq_normal ?_; rotate_left; exact absurd hc auto_no) | fail)
        all_goals try (exfalso; omega)
        all_goals exact ⟨m3 - 1, _, _, by omega, auto_ent, r + 1, O4, F4, g4, w4, rfl, hL2, hUU.out, hd, by omega⟩
  clear hL b1 hU hd
  rintro R1 H4 ⟨O4, F4, g4, w4, rfl, hL, hU, hd⟩
  have hRd := fw_round hL hU hd (by omega) (by omega) (by omega)
  clear hL
  (first | focus (refine aw_seq ?_; refine aw_region ?_; refine awl_s rfl (s_move (v := .ptr _ _) rfl) ?_; refine awl_s rfl (s_move (v := .vw _ _ _ _) rfl) ?_; (((refine awl_callc rfl auto_wl (hRd) (fun r H' hpost => ?_); obtain ⟨rfl, w5, g5, O5, F5, hL5, t5⟩ := hpost))); refine awl_s rfl (s_notb rfl) ?_; (with_reducible refine awl_nil ?_); refine k_seq_normal ?_; refine aw_cond_f rfl ?_; refine aw_skip ?_; refine k_block_normal ?_; refine k_seq_normal ?_; refine aw_region ?_; refine awl_s rfl (s_move (v := .raw _) rfl) ?_; refine awl_s rfl (s_addn rfl rfl auto_len) ?_; refine awl_s rfl (s_assign (v := .raw _) rfl) ?_; (with_reducible refine awl_nil ?_); refine k_seq_normal ?_; rotate_left) | fail)
  all_goals try (exfalso; omega)
  all_goals exact ⟨mm - 1, _, _, by omega, auto_ent, t + 1, O5, F5, g5, w5, rfl, hL5.more (by omega) (by omega) (by omega), (t5.keep hU hd).1, (t5.keep hU hd).2, by omega⟩
end Go.Proofs.Ytbciofnejefkiaa
