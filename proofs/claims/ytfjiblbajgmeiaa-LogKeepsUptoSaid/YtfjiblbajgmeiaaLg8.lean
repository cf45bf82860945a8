import Derived.Test.YtfjiblbajgmeiaaLg7
namespace Go.Proofs.Ytfjiblbajgmeiaa
open Go Go.Am Go.Proofs
set_option linter.unusedSimpArgs false
set_option linter.unusedVariables false
set_option maxRecDepth 20000
set_option maxHeartbeats 4000000

theorem Add_full (H : AHeap) (od ol ot : Nat) (d : Dk) (L : Lg) (b : List UInt8) (hd : H od = some (.cel d.cells)) (hl : H ol = some (.cel (L.cells od ot))) (h1 : L.done = false) (h2 : d.off = false) (h3 : d.lives = L.lives)
    (hb : b.length ≤ 60000) (hL : L.tx.length ≤ 100000) (he : d.append 0 (frame L.tx.length b) = (6, d)) (ok : d.Ok) :
    ACalls Try.prog 12 [.ptr ol 0, .bys b] H fun r H' => r = eno 6 ∧ H' = H := by
  have hfl := frame_len L.tx.length b
  have hS : ∀ H, H od = some (.cel d.cells) → ACalls Try.prog 26 [.ptr od 0, .raw (.int .i64 0), .bys (frame L.tx.length b)] H fun r H' => r = eno 6 ∧ H' = H := fun H h =>
    (Append_calls H od d 0 _ h ok (by decide) (by omega)).mono (by rintro r H' ⟨rfl, rfl⟩; rw [he]; exact ⟨rfl, AHeap.set_same h⟩)
  refine acalls_of_aw2 Try.func12 rfl (by decide) ?_
  repeat' (first | ((with_reducible apply idAWL); first | (with_reducible refine awl_nil ?_) | ((with_reducible apply ik_lit); refine awl_lit_conv rfl rfl rfl auto_bytes rfl (by decide) ?_) | ((with_reducible apply ik_guard); first | ((refine awl_guard_pt rfl rfl rfl (fun hc => ?_) (fun hc => ?_)) <;> first | (exfalso; omega) | (with_reducible exact absurd rfl hc) | (exfalso; revert hc; decide +kernel) | skip) | ((refine awl_guard_pf rfl rfl rfl (fun hc => ?_) (fun hc => ?_)) <;> first | (exfalso; omega) | (with_reducible exact absurd rfl hc) | (exfalso; revert hc; decide +kernel) | skip) | refine awl_guard_t rfl rfl rfl ?_ | refine awl_guard_f rfl rfl rfl ?_ | refine awl_guard_undef rfl rfl rfl ?_ | (refine awl_guard_bt rfl rfl rfl (fun hc => ?_) (fun hc => ?_)) | (refine awl_guard_bf rfl rfl rfl (fun hc => ?_) (fun hc => ?_))) | ((with_reducible apply ik_callv); first | (refine awl_callc rfl auto_wl (off_no _ od ol ot d L auto_heap auto_heap h1 h2 h3) (fun r H' hpost => ?_); obtain ⟨rfl, rfl⟩ := hpost) | (refine awl_callc rfl auto_wl (Frame_ok _ _ _ auto_sd auto_sd) (fun r H' hpost => ?_); obtain ⟨rfl, rfl⟩ := hpost) | (refine awl_callc rfl auto_wl (hS _ auto_heap) (fun r H' hpost => ?_); obtain ⟨rfl, rfl⟩ := hpost) | (refine awl_callc rfl auto_wl (tell_ok _ od ol ot L 6 auto_heap h1 (by decide) (by decide)) (fun r H' hpost => ?_); obtain ⟨rfl, rfl⟩ := hpost) | (refine awl_seal_arg 0 rfl rfl rfl auto_len (by assumption) ?_) | (refine awl_seal_arg 1 rfl rfl rfl auto_len (by assumption) ?_) | (refine awl_seal_arg 2 rfl rfl rfl auto_len (by assumption) ?_) | fail) | ((with_reducible apply ik_append); first | refine awl_app_zeros (sz := 1) (z := .int .u8 0) (xs := .byt []) rfl rfl rfl rfl (by omega) (by omega) auto_len (fun oN hoN => ?_) | refine awl_app_byt1 rfl rfl rfl (by assumption) (by first | rfl | exact auto_len) auto_src auto_len auto_len (fun oN hoN => ?_) | refine awl_app_cel1 rfl rfl rfl (by assumption) auto_len auto_src auto_len auto_len (fun oN hoN => ?_) | refine awl_app_byt rfl rfl rfl auto_heap (by first | rfl | exact auto_len) auto_src auto_len auto_len (fun oN hoN => ?_) | refine awl_app_cel rfl rfl rfl auto_heap (by first | rfl | (simp; done) | (simp; omega)) auto_src auto_len auto_len (fun oN hoN => ?_) | (apply awl_s rfl; · first | exact s_app_emp_byt rfl rfl auto_src auto_len auto_len | exact s_app_bysx_byt rfl rfl auto_src auto_len auto_len | exact s_app_nil_byt rfl rfl auto_src auto_len auto_len)) | ((with_reducible apply ik_eql); first | refine awl_bys_eqnil rfl rfl rfl (fun b hb => ?_)) | ((with_reducible apply ik_box); first | refine awl_box_agg rfl rfl rfl (fun oN hoN => ?_) | refine awl_box_raw rfl rfl rfl (fun oN hoN => ?_) | refine awl_box_bys rfl rfl (fun oN hoN => ?_)) | ((with_reducible apply ik_alloc); first | refine awl_alloc rfl rfl rfl (fun oN hoN => ?_)) | ((with_reducible apply ik_make); first | refine awl_make_byt rfl rfl rfl (by omega) (by omega) (by omega) (fun oN hoN => ?_)) | ((with_reducible apply ik_store); first | refine awl_storea rfl rfl rfl rfl (by first | decide | rfl) (by first | decide | exact Nat.le_of_ble_eq_true rfl) ?_ | refine awl_storeg rfl rfl auto_heap (by first | decide | rfl) (by first | decide | rfl) (by first | decide | exact Nat.le_of_ble_eq_true rfl) ?_ | refine awl_storeb1 rfl rfl rfl auto_lt auto_len ?_ | refine awl_storeb rfl rfl auto_heap auto_lt auto_len ?_ | refine awl_store1s rfl (by (first | exact (rfl : _ = AV.raw _) | exact (rfl : _ = AV.bys _) | exact (rfl : _ = AV.vw _ _ _ _) | exact (rfl : _ = AV.ptr _ _) | exact (rfl : _ = AV.str _) | exact (rfl : _ = AV.sls _ _) | exact (rfl : _ = AV.tup _) | exact (rfl : _ = AV.agg _) | exact (rfl : _ = AV.pce _ _) | exact (rfl : _ = AV.emp) | exact (rfl : _ = AV.bysx _) | exact (rfl : _ = AV.slsx _ _) | exact (rfl : _ = AV.mp _) | exact (rfl : _ = AV.fnc _ _ _) | exact (rfl : _ = AV.pby _ _) | exact (rfl : _ = AV.ifc _ _))) rfl (by rfl) (by first | decide | exact Nat.le_of_ble_eq_true rfl | (simp; done) | (simp; omega)) ?_ | refine awl_store1 rfl (by (first | exact (rfl : _ = AV.raw _) | exact (rfl : _ = AV.bys _) | exact (rfl : _ = AV.vw _ _ _ _) | exact (rfl : _ = AV.ptr _ _) | exact (rfl : _ = AV.str _) | exact (rfl : _ = AV.sls _ _) | exact (rfl : _ = AV.tup _) | exact (rfl : _ = AV.agg _) | exact (rfl : _ = AV.pce _ _) | exact (rfl : _ = AV.emp) | exact (rfl : _ = AV.bysx _) | exact (rfl : _ = AV.slsx _ _) | exact (rfl : _ = AV.mp _) | exact (rfl : _ = AV.fnc _ _ _) | exact (rfl : _ = AV.pby _ _) | exact (rfl : _ = AV.ifc _ _))) auto_heap (by rfl) (by first | decide | exact Nat.le_of_ble_eq_true rfl | (simp; done) | (simp; omega)) ?_) | (apply awl_s rfl; · exact auto_stp)) | ((with_reducible apply idAWT); first | (with_reducible refine awt_nil ?_) | ((with_reducible apply it_guard); first | ((refine awt_guard_pt rfl rfl rfl (fun hc => ?_) (fun hc => ?_)) <;> first | (exfalso; omega) | (with_reducible exact absurd rfl hc) | (exfalso; revert hc; decide +kernel) | skip) | ((refine awt_guard_pf rfl rfl rfl (fun hc => ?_) (fun hc => ?_)) <;> first | (exfalso; omega) | (with_reducible exact absurd rfl hc) | (exfalso; revert hc; decide +kernel) | skip) | refine awt_guard_t rfl rfl rfl ?_ | refine awt_guard_f rfl rfl ?_ | refine awt_guard_undef rfl rfl ?_ | (refine awt_guard_bt rfl rfl rfl (fun hc => ?_) (fun hc => ?_)) | (refine awt_guard_bf rfl rfl rfl (fun hc => ?_) (fun hc => ?_))) | ((with_reducible apply it_callv); first | (apply awt_s; · exact s_callc auto_wl (off_no _ od ol ot d L auto_heap auto_heap h1 h2 h3)) | (apply awt_s; · exact s_callc auto_wl (Frame_ok _ _ _ auto_sd auto_sd)) | (apply awt_s; · exact s_callc auto_wl (hS _ auto_heap)) | (apply awt_s; · exact s_callc auto_wl (tell_ok _ od ol ot L 6 auto_heap h1 (by decide) (by decide))) | (refine awt_last ?_) | fail) | (apply awt_s; · exact auto_stp) | (refine awt_last ?_)) | ((with_reducible apply idAWM); first | (refine awm_b ?_) | (refine awm_b0 ?_) | (refine awm_nil ?_) | (apply awm_e; (· decide +kernel); (· exact auto_stp)) | (apply awm_s; · (intro H1; exact auto_stp)) | (apply awm_s; · (intro H1; exact s_callc auto_wl (off_no _ od ol ot d L auto_heap auto_heap h1 h2 h3))) | (apply awm_e; (· decide +kernel); (· exact s_callc auto_wl (off_no _ od ol ot d L auto_heap auto_heap h1 h2 h3))) | (apply awm_s; · (intro H1; exact s_callc auto_wl (Frame_ok _ _ _ auto_sd auto_sd))) | (apply awm_e; (· decide +kernel); (· exact s_callc auto_wl (Frame_ok _ _ _ auto_sd auto_sd))) | (apply awm_s; · (intro H1; exact s_callc auto_wl (hS _ auto_heap))) | (apply awm_e; (· decide +kernel); (· exact s_callc auto_wl (hS _ auto_heap))) | (apply awm_s; · (intro H1; exact s_callc auto_wl (tell_ok _ od ol ot L 6 auto_heap h1 (by decide) (by decide)))) | (apply awm_e; (· decide +kernel); (· exact s_callc auto_wl (tell_ok _ od ol ot L 6 auto_heap h1 (by decide) (by decide))))) | ((with_reducible apply idAWB); first | (refine awb_cons (fun Rx K1 hK1x => ?_)) | (refine awb_cons0 (fun Rx K1 hK1x => ?_)) | (refine awb_nil ?_)) | (refine hK1x _ _ ?_; clear hK1x K1 Rx) | (refine hK1x _ ?_; clear hK1x K1 Rx) | ((with_reducible apply idAW); first | refine aw_seq ?_ | refine aw_region ?_ | refine aw_drawx [27] (by kernel_rfl) (by decide +kernel) (by decide +kernel) ?_ | refine aw_draw1 (by kernel_rfl) (by kernel_rfl) (by kernel_rfl) ?_ | refine aw_draw0 (by kernel_rfl) (by kernel_rfl) ?_ | refine aw_skip ?_ | refine aw_ret ?_ | refine aw_exit ?_ | refine aw_block ?_ | ((refine aw_condp rfl (fun hc => ?_) (fun hc => ?_)) <;> first | (exfalso; omega) | (with_reducible exact absurd rfl hc) | (exfalso; revert hc; decide +kernel) | skip) | refine aw_cond_t rfl ?_ | refine aw_cond_f rfl ?_ | (refine aw_cond rfl (fun hc => ?_) (fun hc => ?_))) | ((with_reducible apply idKS); first | refine k_seq_normal ?_ | refine k_seq_exit ?_ | refine k_seq_ret ?_) | ((with_reducible apply idKB); first | refine k_block_normal ?_ | refine k_block_ret ?_ | refine k_block_eq ?_ | refine k_block_ne rfl ?_))
  all_goals first
    | (exfalso; omega)
    | exact ⟨.inl rfl, _, _, _, Ent.refl _ _, ret1 rfl rfl, rfl, rfl⟩
    | trace_state

theorem crash_to {d d' : Dk} {ks : List Int} (he : d.crashAll ks = d') (ok : d.Ok) (hks : ks.length ≤ 2000000) (hk : ∀ k ∈ ks, -9223372036854775808 ≤ k ∧ k ≤ 9223372036854775807) (H : AHeap) (o : Nat) (h : H o = some (.cel d.cells)) :
    ACalls Try.prog 13 [.ptr o 0, .sls ks.length (ks.map avI)] H fun r H' => r = .tup [] ∧ H' = H.set o (.cel d'.cells) :=
  (Crash_calls _ o d ks h ok hks hk).mono (by rintro r H' ⟨rfl, rfl⟩; rw [he]; exact ⟨rfl, rfl⟩)
theorem on_to {d d' : Dk} (he : d.on = d') (ok : d.Ok) (hl : d.lives < 2 ^ 62) (H : AHeap) (o : Nat) (h : H o = some (.cel d.cells)) :
    ACalls Try.prog 14 [.ptr o 0] H fun r H' => r = .tup [] ∧ H' = H.set o (.cel d'.cells) :=
  (On_calls _ o d h ok hl).mono (by rintro r H' ⟨rfl, rfl⟩; rw [he]; exact ⟨rfl, rfl⟩)

/-! The plain law of a log's disk. -/
theorem Ls_full {ts : List (List UInt8)} {k l : Nat} {c : Bool} {b : List UInt8} (h : 262144 < (fcat (ts ++ [b]) 0).length) : (Ls ts k false c l).append 0 (frame ts.length b) = (6, Ls ts k false c l) := by
  have e := fcat_snoc ts 0 b
  rw [Nat.zero_add] at e
  rw [e, List.length_append] at h
  rw [Dk.append, show (Ls ts k false c l).may 0 = 0 from rfl, if_neg (by decide)]
  by_cases h2 : 262144 < (frame ts.length b).length
  · rw [if_pos h2]
  · rw [if_neg h2, Dk.change, if_pos (by show 262144 < (fcat ts 0 ++ _).length; rw [List.length_append]; exact h)]
theorem Ls_crash {ts : List (List UInt8)} {l : Nat} {c : Bool} : (Ls ts ts.length false c l).crashAll [] = Ls ts ts.length true true l := by
  unfold Ls; rw [List.take_length]; rfl
theorem Ls_on {ts : List (List UInt8)} {k l : Nat} : (Ls ts k true true l).on = Ls ts k false true (l + 1) := rfl
theorem Ls_all {ts : List (List UInt8)} (h : ∀ b ∈ ts, b.length ≤ 60000) (hn : ts.length < 1000000) {k l : Nat} {o c : Bool} : allB (Ls ts k o c l).f0.now 0 = (ts, (fcat ts 0).length) := all_fcat0 h hn
theorem Ls_withAll {ts : List (List UInt8)} {k l : Nat} {o c : Bool} : (Ls ts k o c l).with0 ((Ls ts k o c l).f0.now.take (fcat ts 0).length) = Ls ts ts.length o c l := by
  rw [show (Ls ts k o c l).f0.now = fcat ts 0 from rfl, List.take_length, Ls_with]
theorem fcat_rep (k n : Nat) (z : List UInt8) : (fcat (List.replicate k z) n).length = k * (z.length + 17) := by
  induction k generalizing n with
  | zero => simp [fcat]
  | succ k ih => rw [List.replicate_succ, fcat, List.length_append, frame_len, ih, Nat.succ_mul]; omega
/-- Cut to the first ones: what lies there then. -/
def Lc (ts : List (List UInt8)) (k c l : Nat) (b : Bool) : Dk := ⟨⟨fcat (ts.take c) 0, fcat (ts.take k) 0, true⟩, .none, .none, false, b, 0, l⟩
theorem fcat_take (ts : List (List UInt8)) (c n : Nat) : (fcat ts n).take (fcat (ts.take c) n).length = fcat (ts.take c) n := by
  obtain ⟨t, ht⟩ := fcat_pre ts c n
  rw [← ht, List.take_left]
theorem Ls_cut {ts : List (List UInt8)} {k c l : Nat} {b : Bool} (h : (fcat ts 0).length ≤ 262144) : (Ls ts k false b l).cutf 0 (fsz (ts.take c) : Int) = (0, Lc ts k c l b) := by
  rw [fsz, cut0 (k := (fcat (ts.take c) 0).length) rfl rfl (Ls_good h) (fcat_pre ts c 0).length_le]
  unfold Ls Lc
  rw [fcat_take]
theorem Lc_good {ts : List (List UInt8)} {k c l : Nat} {b : Bool} (h : (fcat ts 0).length ≤ 262144) : (Lc ts k c l b).Good :=
  ⟨⟨Nat.le_trans (fcat_pre ts c 0).length_le h, Nat.le_trans (fcat_pre ts k 0).length_le h, fun h => by cases h⟩, new_good.f1, new_good.f2, show 0 < 2 ^ 63 by decide⟩
theorem Lc_sync {ts : List (List UInt8)} {k c l : Nat} {b : Bool} (hc : c ≤ ts.length) : (Lc ts k c l b).sync 0 = (0, Ls (ts.take c) c false b l) := by
  rw [sync0 rfl rfl]; unfold Ls Lc Dk.with0
  have : (ts.take c).take c = ts.take c := List.take_of_length_le (by simp; omega)
  rw [this]

/-- A beginning of texts' frames holds the first texts. -/
theorem all_pre : ∀ (l : List (List UInt8)) (n p : Nat), (∀ b ∈ l, b.length ≤ 60000) → n + l.length < 1000000 → p ≤ (fcat l n).length →
    ∃ m, m ≤ l.length ∧ allB ((fcat l n).take p) n = (l.take m, (fcat (l.take m) n).length) ∧ (fcat (l.take m) n).length ≤ p ∧ ∀ s, s ≤ l.length → (fcat (l.take s) n).length ≤ p → s ≤ m
  | [], n, p, _, _, hp => ⟨0, by simp, by
      have e : (fcat [] n).take p = [] := by simp [fcat]
      rw [e, show allB [] n = ([], 0) from allB_stop (.inl (by decide +kernel))]; simp [fcat], by simp [fcat], fun s hs _ => by simpa using hs⟩
  | b :: l, n, p, h, hn, hp => by
    have hb := h b (by simp)
    have hl := frame_len n b
    by_cases hlt : p < 17 + b.length
    · refine ⟨0, by simp, ?_, by simp [fcat], fun s hs hsp => ?_⟩
      · rw [fcat, List.take_append_of_le_length (by omega), all_cut n b p n hb (by omega)]; simp [fcat]
      · cases s with
        | zero => omega
        | succ s => rw [List.take_succ_cons, fcat, List.length_append, hl] at hsp; omega
    · rw [fcat, List.length_append, hl] at hp
      obtain ⟨m, h1, h2, h3, h4⟩ := all_pre l (n + 1) (p - (17 + b.length)) (fun x hx => h x (by simp [hx])) (by simp at hn; omega) (by omega)
      have e : (fcat (b :: l) n).take p = frame n b ++ (fcat l (n + 1)).take (p - (17 + b.length)) := by
        rw [fcat, List.take_append, hl, List.take_of_length_le (by omega)]
      have ht := take_frame n b ((fcat l (n + 1)).take (p - (17 + b.length))) (by omega) hb
      have hd : (frame n b ++ (fcat l (n + 1)).take (p - (17 + b.length))).drop (17 + b.length) = (fcat l (n + 1)).take (p - (17 + b.length)) := List.drop_left' hl
      refine ⟨m + 1, by simp; omega, ?_, ?_, fun s hs hsp => ?_⟩
      · rw [e, allB_step (by rw [ht]; show 17 + b.length ≠ 0; omega) (by rw [ht]) (by omega), ht]
        simp only [hd, h2]
        rw [List.take_succ_cons, fcat, List.length_append, hl]
      · rw [List.take_succ_cons, fcat, List.length_append, hl]; omega
      · cases s with
        | zero => omega
        | succ s =>
          rw [List.take_succ_cons, fcat, List.length_append, hl] at hsp
          have := h4 s (by simpa using hs) (by omega)
          omega
/-- What a crash leaves of so many texts, so many of them synced. -/
theorem crash_pre (l : List (List UInt8)) (k : Nat) (hk : k ≤ l.length) (keep : Int) : ∃ p, (fcat (l.take k) 0).length ≤ p ∧ p ≤ (fcat l 0).length ∧ (Ls l k false false 1).crashAll [keep] = ⟨⟨(fcat l 0).take p, (fcat l 0).take p, false⟩, .none, .none, true, true, 0, 1⟩ := by
  have hp := (fcat_pre l k 0).length_le
  have e : (Ls l k false false 1).crashAll [keep] = ⟨⟨(Ls l k false false 1).f0.cut keep, (Ls l k false false 1).f0.cut keep, false⟩, .none, .none, true, true, 0, 1⟩ := rfl
  rw [e]
  show ∃ p, _ ∧ _ ∧ (⟨⟨(⟨fcat l 0, fcat (l.take k) 0, false⟩ : Fl).cut keep, (⟨fcat l 0, fcat (l.take k) 0, false⟩ : Fl).cut keep, false⟩, .none, .none, true, true, 0, 1⟩ : Dk) = _
  unfold Fl.cut
  split
  · exact ⟨(fcat (l.take k) 0).length, Nat.le_refl _, hp, by rw [fcat_take]⟩
  · rw [if_neg Bool.false_ne_true]
    exact ⟨(fcat (l.take k) 0).length + min keep.toNat ((fcat l 0).length - (fcat (l.take k) 0).length), by omega, by omega, rfl⟩
/-! So many texts of a row. -/
def Tx (X : Nat → List UInt8) (k : Nat) : List (List UInt8) := (List.range k).map X
theorem Tx_len (X : Nat → List UInt8) (k : Nat) : (Tx X k).length = k := by simp [Tx]
theorem Tx_succ (X : Nat → List UInt8) (k : Nat) : Tx X k ++ [X k] = Tx X (k + 1) := by simp [Tx, List.range_succ]
theorem Tx_take (X : Nat → List UInt8) {c k : Nat} (h : c ≤ k) : (Tx X k).take c = Tx X c := by
  rw [Tx, ← List.map_take, List.take_range, Nat.min_eq_left h]; rfl
theorem Tx_get (X : Nat → List UInt8) {i k : Nat} (h : i < k) : (Tx X k)[i]? = some (X i) := by
  rw [Tx, List.getElem?_map, List.getElem?_range h]; rfl
theorem Tx_congr {X Y : Nat → List UInt8} {k : Nat} (h : ∀ i, i < k → X i = Y i) : Tx X k = Tx Y k := by
  unfold Tx; exact List.map_congr_left fun i hi => h i (List.mem_range.1 hi)
theorem Tx_all {X : Nat → List UInt8} {k n : Nat} (h : ∀ i, (X i).length ≤ n) : ∀ b ∈ Tx X k, b.length ≤ n := by
  intro b hb
  obtain ⟨i, _, rfl⟩ := List.mem_map.1 hb
  exact h i
end Go.Proofs.Ytfjiblbajgmeiaa
