import Derived.Test.YtbciofnejefkiaaIz
import Derived.Test.YtbciofnejefkiaaIa2
set_option linter.unusedVariables false
set_option linter.unusedSimpArgs false
set_option maxRecDepth 20000
set_option maxHeartbeats 4000000
namespace Go.Proofs.Ytbciofnejefkiaa
open Go Go.Am Go.Proofs

theorem isNaN_calls (H : AHeap) (a : Nat) : ACalls Try.prog 113 [uI a] H fun r H' => r = bB false ∧ H' = H := by
  refine acalls_of_aw1 Try.func113 rfl (by decide) ?_
  (first | focus (refine yy17 ?_; refine yy14 ?_; refine yy2 ?_; refine yy85 ?_; refine yy8 ?_; rotate_left) | fail)
  exact ⟨.inl rfl, _, _, _, Ent.refl _ _, ret1 rfl rfl, by rw [show (false : Bool) = decide (a ≠ a) from by simp]; rfl, rfl⟩
theorem Less_calls (H : AHeap) (a b : Nat) : ACalls Try.prog 102 [uI a, uI b] H fun r H' => r = bB (decide (a < b)) ∧ H' = H := by
  refine acalls_of_aw2 Try.func102 rfl (by decide) ?_
  (first | focus (refine yy17 ?_; refine yy14 ?_; (refine zc auto_wl (isNaN_calls _ _) ?_; rintro r H' ⟨rfl, rfl⟩); refine yy2 ?_; refine yy76 ?_; refine yy61 ?_; refine yy27 ?_; refine yy26 ?_; refine yy26 ?_; refine yy26 ?_; refine awl_s rfl (s_ltn rfl rfl) ?_; refine yy27 ?_; refine yy8 ?_; rotate_left) | fail)
  exact ⟨.inl rfl, _, _, _, Ent.refl _ _, ret1 rfl rfl, rfl, rfl⟩
theorem Len64_calls (H : AHeap) (v : Nat) (hv : v ≤ 7) : ACalls Try.prog 106 [uI v] H fun r H' => (∃ z : Int, r = mI z) ∧ H' = H := by
  refine acalls_of_aw1 Try.func106 rfl (by decide) ?_
  (first | focus (refine yy17 ?_; refine yy11 ?_; refine yy118 ?_; refine yy3 ?_; refine yy63 ?_; intro hc; refine yy11 ?_; refine yy118 ?_; refine yy3 ?_; refine yy63 ?_; intro hc; refine yy11 ?_; refine yy118 ?_; refine yy3 ?_; refine yy63 ?_; intro hc; refine yy14 ?_; refine yy2 ?_; refine awl_s rfl (s_convn rfl (by omega)) ?_; refine awl_s rfl (s_index_str rfl rfl auto_len) ?_; refine awl_s rfl (s_convi rfl (Int.le_trans (by decide) (Int.natCast_nonneg _)) (Int.ofNat_le.2 (Nat.le_of_lt (Nat.lt_trans (UInt8.toNat_lt _) (by decide))))) ?_; refine awl_s rfl (s_add (k := .i64) rfl rfl) ?_; refine yy8 ?_; rotate_left) | fail)
  exact ⟨.inl rfl, _, _, _, Ent.refl _ _, ret1 rfl rfl, ⟨_, rfl⟩, rfl⟩
theorem Len_calls (H : AHeap) (v : Nat) (hv : v ≤ 7) : ACalls Try.prog 92 [uI v] H fun r H' => (∃ z : Int, r = mI z) ∧ H' = H := by
  refine acalls_of_aw1 Try.func92 rfl (by decide) ?_
  (first | focus (refine yy17 ?_; refine aw_seq ?_; refine yy96 ?_; refine yy14 ?_; (refine zc auto_wl (Len64_calls _ v hv) ?_; rintro r H' ⟨⟨z, rfl⟩, rfl⟩); refine yy8 ?_; rotate_left) | fail)
  exact ⟨.inl rfl, _, _, _, Ent.refl _ _, ret1 rfl rfl, ⟨_, rfl⟩, rfl⟩
theorem swap2 (U R : List Nat) (y x : Nat) : (((U ++ y :: x :: R).map uI).set (U.length + 1) (uI y)).set U.length (uI x) = (U ++ x :: y :: R).map uI := by
  simp [List.map_append, List.set_append]
theorem le_insert {S1 S2 : List Nat} {x : Nat} (h : (S1 ++ S2).Pairwise (· ≤ ·)) (h1 : ∀ z ∈ S1.getLast?, z ≤ x) (h2 : ∀ z ∈ S2.head?, x ≤ z) : (S1 ++ x :: S2).Pairwise (· ≤ ·) := by
  obtain ⟨a1, a2, a3⟩ := List.pairwise_append.1 h
  have b1 : ∀ z ∈ S1, z ≤ x := by
    rcases List.eq_nil_or_concat S1 with rfl | ⟨U, y, e⟩
    · simp
    · rw [List.concat_eq_append] at e
      subst e
      have hy := h1 y (by simp)
      intro z hz
      rcases List.mem_append.1 hz with hz | hz
      · exact Nat.le_trans ((List.pairwise_append.1 a1).2.2 z hz y (by simp)) hy
      · rw [List.mem_singleton.1 hz]; exact hy
  have b2 : ∀ z ∈ S2, x ≤ z := by
    cases S2 with
    | nil => simp
    | cons y U =>
      have hy := h2 y (by simp)
      intro z hz
      rcases List.mem_cons.1 hz with rfl | hz
      · exact hy
      · exact Nat.le_trans hy ((List.pairwise_cons.1 a2).1 z hz)
  refine List.pairwise_append.2 ⟨a1, List.pairwise_cons.2 ⟨b2, a2⟩, fun z hz w hw => ?_⟩
  rcases List.mem_cons.1 hw with rfl | hw
  · exact b1 z hz
  · exact a3 z hz w hw
theorem last_of {S1 : List Nat} {j : Nat} (h : S1.length = j) (hj : 0 < j) : ∃ U y, S1 = U ++ [y] ∧ U.length = j - 1 := by
  rcases List.eq_nil_or_concat S1 with rfl | ⟨U, y, e⟩
  · simp at h; omega
  · rw [List.concat_eq_append] at e; subst e; exact ⟨U, y, rfl, by simp at h; omega⟩
theorem heap_id {H : AHeap} {o : Nat} {x : AO} (h : H o = some x) : H.set o x = H := funext fun p => by
  simp only [AHeap.set]; split
  · next e => rw [e]; exact h.symm
  · rfl
theorem insN_calls (H : AHeap) (oS n : Nat) (l : List Nat) (hS : H oS = some (.cel (l.map uI))) (hn : n = l.length) (h7 : n ≤ 1000) :
    ACalls Try.prog 96 [.vw oS 1 0 n, mI 0, mI (n : Int)] H fun r H' => r = .tup [] ∧ ∃ S : List Nat, S.Perm l ∧ S.Pairwise (· ≤ ·) ∧ H' = H.set oS (.cel (S.map uI)) := by
  have hid := heap_id hS
  have hn2 : ((n : Nat) : Int) = ((n : Nat) : Int) := rfl
  refine acalls_of_aw3 Try.func96 rfl (by decide) ?_
  (first | focus (refine yy14 ?_; refine yy99 ?_; refine yy5 ?_; refine aw_block ?_; rotate_left) | fail)
  refine aw_loop (fun mm R' H2 => ∃ (i : Nat) (P Q S : List Nat), l = P ++ Q ∧ (P.length = i ∨ i = 1 ∧ l = []) ∧ 0 < i ∧ S.Perm P ∧ S.Pairwise (· ≤ ·) ∧ H2 = H.set oS (.cel ((S ++ Q).map uI)) ∧ R' = [(0, .vw oS 1 0 n), (1, mI 0), (2, mI (n : Int)), (6, .raw (.int .i64 (i : Int)))] ∧ Q.length = mm) ?_ ?_
  · cases l with
    | nil => exact ⟨0, _, _, auto_ent, 1, [], [], [], rfl, .inr ⟨rfl, rfl⟩, by decide, List.Perm.refl _, List.Pairwise.nil, by simpa using hid.symm, rfl, rfl⟩
    | cons x l => exact ⟨l.length, _, _, auto_ent, 1, [x], l, [x], rfl, .inl rfl, by decide, List.Perm.refl _, List.pairwise_singleton _ _, by simpa using hid.symm, rfl, rfl⟩
  rintro mm R0 H2 ⟨i, P, Q, S, hl, hi, hi0, hSP, hSs, rfl, rfl, rfl⟩
  have hSl := hSP.length_eq
  have hnl : n = P.length + Q.length := by rw [hn, hl, List.length_append]
  by_cases hlt : i < n
  · have hPi : P.length = i := by rcases hi with h | ⟨_, h⟩; exact h; rw [h] at hn; simp at hn; omega
    obtain ⟨x, Q, rfl⟩ : ∃ y W, Q = y :: W := by cases Q with | nil => simp at hnl; omega | cons c d => exact ⟨c, d, rfl⟩
    simp only [List.length_cons] at hnl
    have hSPh := Hdq.mk hSP
    have hSh := Hdq.mk hS
    clear hSP hS hi hid
    (first | focus (refine yy11 ?_; refine yy2 ?_; refine yy74 ?_; refine aw_condp rfl (fun hc => ?_) (fun hc => ?_); refine yy20 ?_; refine yy14 ?_; refine yy5 ?_; refine aw_block ?_; rotate_left; exact absurd hc auto_no) | fail)
    all_goals try (exfalso; omega)
    refine aw_loop (fun mm2 R' H3 => ∃ (j : Nat) (S1 S2 : List Nat), S = S1 ++ S2 ∧ S1.length = j ∧ (∀ z ∈ S2.head?, x ≤ z) ∧ H3 = H.set oS (.cel ((S1 ++ x :: (S2 ++ Q)).map uI)) ∧ R' = [(0, .vw oS 1 0 n), (1, mI 0), (2, mI (n : Int)), (6, .raw (.int .i64 (i : Int))), (7, .raw (.int .i64 (j : Int)))] ∧ S1.length = mm2) ?_ ?_
    · exact ⟨S.length, _, _, auto_ent, i, S, [], by simp, by omega, fun z hz => (by cases hz), by simp, rfl, rfl⟩
    rintro mm2 R1 H3 ⟨j, S1, S2, rfl, hj, hh2, rfl, rfl, rfl⟩
    simp only [List.length_append] at hSl
    by_cases hja : 0 < j
    · obtain ⟨U, y, rfl, hU⟩ := last_of hj hja
      have hsw := swap2 U (S2 ++ Q) y x
      rw [hU, show j - 1 + 1 = j by omega] at hsw
      have hws : (U ++ [y]) ++ x :: (S2 ++ Q) = U ++ y :: x :: (S2 ++ Q) := by simp
      rw [hws]
      have g1 : (U ++ y :: x :: (S2 ++ Q))[j - 1]? = some y := by rw [← hU]; simp
      have g2 : (U ++ y :: x :: (S2 ++ Q))[j]? = some x := by rw [show j = U.length + 1 by omega]; simp
      have g3 : (U ++ y :: x :: (S2 ++ Q)).length = n := by simp at hSl ⊢; omega
      have g4 : ((U ++ y :: x :: (S2 ++ Q)).map uI).length = n := by rw [List.length_map]; exact g3
      generalize hW : U ++ y :: x :: (S2 ++ Q) = ws at *
      have hSs2 := Hdq.mk hSs
      have hWh := Hdq.mk hW
      clear hSs hW hws
      (first | focus (refine aw_seq ?_; refine yy19 ?_; refine yy7 ?_; refine yy7 ?_; refine yy123 ?_; refine yy7 ?_; refine zt1 rfl rfl rfl (fun hc => ?_) (fun hc => ?_); (apply awt_s; · exact s_move (v := .vw _ _ _ _) rfl); refine yy25 ?_; refine yy42 ?_; refine yy128 ?_; refine yy25 ?_; refine yy135 ?_; refine yy25 ?_; (apply awt_s; · exact s_move (v := .vw _ _ _ _) rfl); refine yy25 ?_; refine yy42 ?_; (apply awt_s; · exact s_subn rfl rfl (by omega) (by omega)); refine yy25 ?_; refine yy128 ?_; refine yy25 ?_; refine yy135 ?_; refine yy25 ?_; (apply awt_s; · exact s_callc auto_wl (Less_calls _ x y)); refine yy28 ?_; refine yy12 ?_; refine aw_condp rfl (fun hc => ?_) (fun hc => ?_); refine yy20 ?_; refine aw_draw2 false auto_kr auto_dk auto_dk ?_; (apply awm_s; · (intro H1; exact s_move (v := .vw _ _ _ _) rfl)); refine yy139 ?_; (apply awm_s; · (intro H1; exact s_move (v := .vw _ _ _ _) rfl)); refine yy139 ?_; (apply awm_s; · (intro H1; exact s_subn rfl rfl (by omega) (by omega))); (apply awm_s; · (intro H1; exact s_move (v := .vw _ _ _ _) rfl)); refine yy139 ?_; (apply awm_s; · (intro H1; exact s_subn rfl rfl (by omega) (by omega))); refine yy142 ?_; (apply awm_e auto_dk; (· exact s_load_cel rfl auto_heap auto_idx)); (apply awm_s; · (intro H1; exact s_move (v := .vw _ _ _ _) rfl)); refine yy139 ?_; refine yy142 ?_; (apply awm_e auto_dk; (· exact s_load_cel rfl auto_heap auto_idx)); refine yy142 ?_; refine awm_b0 ?_; refine yy142 ?_; refine awm_b0 ?_; refine awm_nil ?_; refine awb_cons0 (fun Rx K1 hK1x => ?_); refine yy83 ?_; refine yy4 ?_; (refine hK1x _ ?_; clear hK1x K1 Rx); refine awb_cons0 (fun Rx K1 hK1x => ?_); refine yy83 ?_; refine yy4 ?_; (refine hK1x _ ?_; clear hK1x K1 Rx); refine awb_nil ?_; refine yy106 ?_; refine yy2 ?_; refine awl_s rfl (s_subn rfl rfl (by omega) (by omega)) ?_; refine yy5 ?_; rotate_left; refine yy137 ?_; refine yy106 ?_; refine yy2 ?_; refine yy99 ?_; refine yy5 ?_; rotate_left; exact absurd hc auto_no) | fail)
      all_goals try (exfalso; omega)
      · exact ⟨U.length, _, _, by simp, Ent.sub _ (by (repeat' (first | exact RSub.nil _ | apply RSub.cons)); all_goals rfl), j - 1, U, y :: S2, by simp, hU, fun z hz => (by simp at hz; omega), (by simp only [Nat.zero_add, Nat.mul_one]; rw [hsw]; simp), rfl, rfl⟩
      · exact ⟨Q.length, _, _, by simp, Ent.sub _ (by (repeat' (first | exact RSub.nil _ | apply RSub.cons)); all_goals rfl), i + 1, P ++ [x], Q, (U ++ [y]) ++ x :: S2, by rw [hl]; simp, .inl (by simp; omega), by omega, (List.perm_middle.trans (List.Perm.cons x hSPh.out)).trans (List.perm_append_singleton x P).symm, le_insert hSs2.out (fun z hz => (by simp at hz; omega)) hh2, by rw [← hWh.out]; simp, rfl, rfl⟩
    have hS1 : S1 = [] := List.length_eq_zero_iff.1 (by omega)
    subst hS1
    (first | focus (refine aw_seq ?_; refine yy19 ?_; refine yy7 ?_; refine yy7 ?_; refine yy123 ?_; refine yy7 ?_; refine zt1 rfl rfl rfl (fun hc => ?_) (fun hc => ?_); exact absurd hc auto_no; refine yy18 ?_; refine yy18 ?_; refine zt4 rfl rfl ?_; refine yy70 ?_; refine yy12 ?_; refine aw_cond_f rfl ?_; refine yy137 ?_; refine yy106 ?_; refine yy2 ?_; refine yy99 ?_; refine yy5 ?_; rotate_left) | fail)
    all_goals try (exfalso; omega)
    exact ⟨Q.length, _, _, by simp, Ent.sub _ (by (repeat' (first | exact RSub.nil _ | apply RSub.cons)); all_goals rfl), i + 1, P ++ [x], Q, x :: S2, by rw [hl]; simp, .inl (by simp; omega), by omega, (List.Perm.cons x hSPh.out).trans (List.perm_append_singleton x P).symm, le_insert (S1 := []) hSs (fun z hz => by cases hz) hh2, by simp, rfl, rfl⟩
  (first | focus (refine yy11 ?_; refine yy2 ?_; refine yy74 ?_; refine yy48 ?_; intro hc; refine yy137 ?_; rotate_left) | fail)
  all_goals try (exfalso; omega)
  have hQ : Q = [] := List.length_eq_zero_iff.1 (by rcases hi with h | ⟨_, h⟩; omega; rw [h] at hn; simp at hn; omega)
  subst hQ
  exact ⟨.inr rfl, _, _, _, Ent.refl _ _, ret0 rfl, rfl, S, by rw [hl, List.append_nil]; exact hSP, hSs, by simp⟩
theorem Sort_calls (H : AHeap) (oS n : Nat) (l : List Nat) (hS : H oS = some (.cel (l.map uI))) (hn : n = l.length) (h7 : n ≤ 7) :
    ACalls Try.prog 80 [.vw oS 1 0 n] H fun r H' => r = .tup [] ∧ H' = H.set oS (.cel ((Ag.sort l).map uI)) := by
  have huq : ∀ S : List Nat, S.Perm l → S.Pairwise (· ≤ ·) → S = Ag.sort l := fun S h1 h2 => List.Perm.eq_of_pairwise (fun a b _ _ h k => Nat.le_antisymm h k) h2 (Ag.sort_sorted l) (h1.trans (Ag.sort_perm l).symm)
  have hpdq : ∀ (H : AHeap) (z : Int), H oS = some (.cel (l.map uI)) → ACalls Try.prog 91 [.vw oS 1 0 n, mI 0, mI (n : Int), mI z] H fun r H' => r = .tup [] ∧ H' = H.set oS (.cel ((Ag.sort l).map uI)) := by
    intro H z hS
    refine acalls_of_aw4 Try.func91 rfl (by decide) ?_
    have hI := fun H h => insN_calls H oS n l h hn (by omega)
    (first | focus (refine yy17 ?_; refine yy17 ?_; refine aw_block ?_; rotate_left) | fail)
    refine aw_loop (fun mm R' H2 => H2 = H ∧ mm = 0 ∧ R' = [(9, .raw (.bool true)), (8, .raw (.bool true)), (0, .vw oS 1 0 n), (1, mI 0), (2, mI (n : Int)), (3, mI z)]) ⟨0, _, _, auto_ent, rfl, rfl, rfl⟩ ?_
    rintro mm R0 H2 ⟨rfl, rfl, rfl⟩
    (first | focus (refine aw_block ?_; refine yy14 ?_; refine yy2 ?_; refine awl_s rfl (s_subn rfl rfl (by omega) (by omega)) ?_; refine yy5 ?_; refine yy11 ?_; refine awl_s rfl (s_len_ rfl rfl) ?_; refine yy3 ?_; refine aw_condp rfl (fun hc => ?_) (fun hc => ?_); refine yy1 ?_; refine yy64 ?_; refine yy2 ?_; refine yy2 ?_; (refine zc auto_wl (hI _ auto_heap) ?_; rintro r H' ⟨rfl, S, s1, s2, rfl⟩); refine yy35 ?_; refine yy66 ?_; refine k_block_ret ?_; rotate_left; exact absurd hc auto_no) | fail)
    all_goals try (exfalso; omega)
    exact ⟨.inl rfl, _, _, _, Ent.refl _ _, ret0 rfl, rfl, by rw [huq S s1 s2]⟩
  refine acalls_of_aw1 Try.func80 rfl (by decide) ?_
  (first | focus (refine yy1 ?_; refine yy64 ?_; refine yy107 ?_; refine yy5 ?_; refine aw_region ?_; refine yy64 ?_; refine yy2 ?_; refine yy2 ?_; refine awl_s rfl (s_convn rfl (by omega)) ?_; (refine zc auto_wl (Len_calls _ n h7) ?_; rintro r H' ⟨⟨z, rfl⟩, rfl⟩); (refine zc auto_wl (hpdq _ _ auto_heap) ?_; rintro r H' ⟨rfl, rfl⟩); refine yy4 ?_; rotate_left) | fail)
  exact ⟨.inr rfl, _, _, _, Ent.refl _ _, ret0 rfl, rfl, rfl⟩
end Go.Proofs.Ytbciofnejefkiaa

namespace Go.Proofs.Ytbciofnejefkiaa
open Go Go.Am Go.Proofs

theorem put_keys (k : Int) (v : AV) : ∀ (es : MI), ∀ x ∈ (es.put k v).map (·.1), x = k ∨ x ∈ es.map (·.1)
  | [], x, h => .inl (by simpa [MI.put] using h)
  | (a, u) :: es, x, h => by
    unfold MI.put at h
    split at h
    · rw [List.map_cons, List.mem_cons] at h
      rcases h with h | h
      · exact .inl h
      · exact .inr (List.mem_cons_of_mem _ h)
    · rw [List.map_cons, List.mem_cons] at h
      rcases h with h | h
      · exact .inr (by rw [h]; exact List.mem_cons_self)
      · rcases put_keys k v es x h with h | h
        · exact .inl h
        · exact .inr (List.mem_cons_of_mem _ h)
theorem put_nd {k : Int} {v : AV} : ∀ {es : MI}, (es.map (·.1)).Nodup → ((es.put k v).map (·.1)).Nodup
  | [], _ => by simp [MI.put]
  | (a, u) :: es, h => by
    rw [List.map_cons, List.nodup_cons] at h
    unfold MI.put
    split
    · next e => rw [List.map_cons, List.nodup_cons]; exact ⟨by rw [← e]; exact h.1, h.2⟩
    · next e =>
      rw [List.map_cons, List.nodup_cons]
      refine ⟨fun hx => ?_, put_nd h.2⟩
      rcases put_keys k v es a hx with hx | hx
      · exact e hx
      · exact h.1 hx
theorem HeldM.upd {es : MI} {c d : Ag.Co} (h : HeldM es c) (q v : Nat) (hd : d.held = Ag.upd c.held q (some v)) : HeldM (es.put (q : Int) (uI v)) d := ⟨fun k => by
  rw [get_put, h.get k, hd]
  unfold Ag.upd
  by_cases e : (q : Int) = k
  · subst e; simp
  · rw [if_neg e]
    by_cases k0 : 0 ≤ k
    · have : ¬ k.toNat = q := fun x => e (by omega)
      simp only [if_pos k0, if_neg this]
    · simp only [if_neg k0], put_nd h.nd⟩
def heldK (c : Ag.Co) (k : Nat) : List Nat := (List.range k).filterMap c.held
theorem heldK_succ (c : Ag.Co) (k : Nat) : heldK c (k + 1) = heldK c k ++ (c.held k).toList := by
  unfold heldK; rw [List.range_succ, List.filterMap_append]
  cases h : c.held k <;> simp [h]
theorem heldK_len (c : Ag.Co) (k : Nat) : (heldK c k).length ≤ k := by
  unfold heldK; exact Nat.le_trans (List.length_filterMap_le _ _) (by simp)
theorem settle_calls (H : AHeap) (F : Ob) (c : Ag.Co) (h : CAt H F c) (nd : NdC F) (hf : CFine c) :
    ACalls Try.prog 54 [.ptr F.o 0] H fun r H' => r = .tup [] ∧ CAt H' F c.settle ∧ ∀ p y, H p = some y → p ≠ F.o → p ≠ F.oh → H' p = some y := by
  obtain ⟨⟨off, xs, hco, hw, hx1, hx2⟩, ⟨eg, hg, hg2⟩, ⟨eh, hh, hh2⟩⟩ := h
  obtain ⟨n1, n2, n3, n4, n5, n6⟩ := nd
  have f1 := hf.me
  have f2 := hf.n
  have f3 := hf.list.len
  have f4 := hf.agr
  have hheld := hf.held
  have hQ := fun H h => quorum_calls H F.o c F.og F.oh (.vw F.ow 3 off c.wait.length) h f2
  unfold coreC at hco hQ
  -- what is held now
  obtain ⟨d, hd⟩ : ∃ d : Ag.Co, d = { c with held := Ag.upd c.held c.me (some c.list.length) } := ⟨_, rfl⟩
  have hes := hh2.upd (d := d) c.me c.list.length (by rw [hd])
  have hset : c.settle = if (heldK d c.n).length < c.quorum then d else { d with agreed := max c.agreed (min ((Ag.sort (heldK d c.n)).getD ((heldK d c.n).length - c.quorum) 0) c.list.length) } := by rw [hd]; rfl
  have hdh : ∀ q v, d.held q = some v → v < 2 ^ 64 := by
    intro q v hq
    rw [hd] at hq
    simp only [Ag.upd] at hq
    split at hq
    · cases hq; omega
    · exact (hheld q v hq).2
  have hdc : ∀ (og oh : Nat) (wv : AV), coreC d og oh wv = coreC c og oh wv := by intro og oh wv; rw [hd]; rfl
  have hdg : GotM eg d := by rw [hd]; exact ⟨hg2.get, hg2.len⟩
  have hdw : d.wait = c.wait := by rw [hd]
  have hdH := Hdq.mk hd
  clear hd hheld hh2
  refine acalls_of_aw1 Try.func54 rfl (by decide) ?_
  (first | focus (refine yy19 ?_; refine yy22 ?_; refine yy22 ?_; refine yy22 ?_; refine yy120 ?_; (apply awt_s; · exact s_convn rfl (by omega)); refine awt_last ?_; refine awl_mapUpdateI rfl rfl auto_mv auto_heap ?_; refine yy3 ?_; refine yy17 ?_; refine yy13 ?_; refine yy21 ?_; refine yy67 ?_; rotate_left) | fail)
  generalize eh.put (c.me : Int) (uI c.list.length) = es at *
  refine aw_own_nil 2 1 (.cel []) rfl rfl (fun oL hoL => ?_)
  refine aw_loop (fun mm R' H2 => ∃ (i oL kk : Nat), kk = (heldK d i).length ∧ (H.set F.oh (es.ao .i64)) oL = none ∧ H2 = (H.set F.oh (es.ao .i64)).set oL (.cel ((heldK d i).map uI)) ∧ R' = [(0, .ptr F.o 0), (2, .vw oL 1 0 kk), (23, mI (c.n : Int)), (24, .raw (.int .i64 (i : Int)))] ∧ i + mm = c.n) ?_ ?_
  · exact ⟨c.n, _, _, auto_ent, 0, oL, 0, rfl, hoL, rfl, rfl, by omega⟩
  clear hoL oL
  rintro mm R0 H2 ⟨i, oL, kk, rfl, hoL, rfl, rfl, hi⟩
  have hk := heldK_len d i
  have hkl : ((heldK d i).map uI).length = (heldK d i).length * 1 := by rw [List.length_map, Nat.mul_one]
  by_cases hlt : i < c.n
  · have hget := hes.get (i : Int)
    rw [if_pos (by omega), Int.toNat_natCast] at hget
    have hsn := heldK_succ d i
    cases hq : d.held i with
    | none =>
      rw [hq, Option.map_none] at hget
      rw [hq, Option.toList_none, List.append_nil] at hsn
      have v1 : (es.get (i : Int)).getD (.raw (.int .u64 0)) = .raw (.int .u64 0) := by rw [hget]; rfl
      have v2 : (es.get (i : Int)).isSome = false := by rw [hget]; rfl
      (first | focus (refine yy9 ?_; refine aw_condp rfl (fun hc => ?_) (fun hc => ?_); refine yy20 ?_; refine yy14 ?_; refine yy5 ?_; refine yy52 ?_; refine yy2 ?_; refine yy141 ?_; refine yy88 ?_; refine yy40 ?_; refine yy5 ?_; refine yy1 ?_; refine yy136 ?_; refine yy101 ?_; refine yy33 ?_; rotate_left; exact absurd hc auto_no) | fail)
      all_goals try (exfalso; omega)
      exact ⟨mm - 1, _, _, by omega, auto_ent, i + 1, oL, _, by rw [hsn], hoL, by rw [hsn], rfl, by omega⟩
    | some v =>
      have hv := hdh i v hq
      rw [hq, Option.map_some] at hget
      rw [hq, Option.toList_some] at hsn
      have v1 : (es.get (i : Int)).getD (.raw (.int .u64 0)) = .raw (.int .u64 (v : Int)) := by rw [hget]; rfl
      have v2 : (es.get (i : Int)).isSome = true := by rw [hget]; rfl
      (first | focus (refine yy9 ?_; refine aw_condp rfl (fun hc => ?_) (fun hc => ?_); refine yy20 ?_; refine yy14 ?_; refine yy5 ?_; refine yy52 ?_; refine yy2 ?_; refine yy141 ?_; refine yy88 ?_; refine yy40 ?_; refine yy5 ?_; refine yy1 ?_; refine yy136 ?_; refine yy23 ?_; refine aw_region ?_; refine yy64 ?_; refine yy2 ?_; refine yy111 ?_; refine za2 rfl rfl rfl (by assumption) auto_len auto_src auto_len auto_len (fun oN hoN => ?_); refine yy81 ?_; refine yy4 ?_; refine yy33 ?_; rotate_left; exact absurd hc auto_no) | fail)
      all_goals try (exfalso; omega)
      exact ⟨mm - 1, _, _, by omega, auto_entg, i + 1, oN, _, by rw [hsn, List.length_append]; rfl, hoN, by rw [hsn, List.map_append]; rfl, rfl, by omega⟩
  obtain rfl : i = c.n := by omega
  have hqd : c.quorum = c.n / 2 + 1 := rfl
  have hsl : (Ag.sort (heldK d c.n)).length = (heldK d c.n).length := (Ag.sort_perm _).length_eq
  have hsl2 : ((Ag.sort (heldK d c.n)).map uI).length = (heldK d c.n).length := by rw [List.length_map, hsl]
  have hgk : ¬ (heldK d c.n).length < c.quorum → (Ag.sort (heldK d c.n))[(heldK d c.n).length - c.quorum]? = some ((Ag.sort (heldK d c.n)).getD ((heldK d c.n).length - c.quorum) 0) := fun hn => by
    have hlt2 : (heldK d c.n).length - c.quorum < (Ag.sort (heldK d c.n)).length := by omega
    rw [List.getElem?_eq_getElem hlt2, List.getD_eq_getElem?_getD, List.getElem?_eq_getElem hlt2]; rfl
  have hbk : ∀ k, ¬ (heldK d c.n).length < c.quorum → (Ag.sort (heldK d c.n)).getD ((heldK d c.n).length - c.quorum) 0 = k → (Ag.sort (heldK d c.n))[(heldK d c.n).length - c.quorum]? = some k := fun k hn e => by rw [hgk hn, e]
  have hST := fun H h => Sort_calls H oL (heldK d c.n).length (heldK d c.n) h rfl (by omega)
  generalize (Ag.sort (heldK d c.n)).getD ((heldK d c.n).length - c.quorum) 0 = k at *
  have hbk2 := fun hn => hbk k hn rfl
  clear hgk hbk
  generalize Ag.sort (heldK d c.n) = sl at *
  by_cases hlq : (heldK d c.n).length < c.quorum
  · rw [hset, if_pos hlq]
    (first | focus (refine yy9 ?_; refine yy37 ?_; intro hc; refine yy13 ?_; refine yy64 ?_; refine yy107 ?_; refine yy30 ?_; (refine zc auto_wl (hQ _ auto_heap) ?_; rintro r H' ⟨rfl, rfl⟩); refine yy74 ?_; refine aw_condp rfl (fun hc => ?_) (fun hc => ?_); refine aw_ret ?_; refine yy32 ?_; rotate_left; exact absurd hc auto_no) | fail)
    all_goals try (exfalso; omega)
    exact ⟨.inl rfl, _, _, _, Ent.refl _ _, ret0 rfl, rfl, ⟨⟨off, xs, by rw [hdc, hdw]; exact auto_heap, auto_heap, by rw [hdw]; exact hx1, by rw [hdw]; exact hx2⟩, ⟨eg, auto_heap, hdg⟩, ⟨es, auto_heap, ⟨hes.get, hes.nd⟩⟩⟩, fun p y hp h1 h2 => auto_heap⟩
  have g := hbk2 hlq
  rw [hset, if_neg hlq]
  (first | focus (refine yy9 ?_; refine yy37 ?_; intro hc; refine yy13 ?_; refine yy64 ?_; refine yy107 ?_; refine yy30 ?_; (refine zc auto_wl (hQ _ auto_heap) ?_; rintro r H' ⟨rfl, rfl⟩); refine yy74 ?_; refine yy63 ?_; intro hc; refine yy1 ?_; refine yy64 ?_; (refine zc auto_wl (hST _ auto_heap) ?_; rintro r H' ⟨rfl, rfl⟩); refine yy3 ?_; refine yy104 ?_; refine yy80 ?_; refine yy22 ?_; (apply awt_s; · exact s_move (v := .vw _ _ _ _) rfl); (apply awt_s; · exact s_move (v := .vw _ _ _ _) rfl); (apply awt_s; · exact s_len_vw rfl); refine yy80 ?_; (apply awt_s; · exact s_callc auto_wl (hQ _ auto_heap)); (apply awt_s; · exact s_subn rfl rfl (by omega) (by omega)); refine yy128 ?_; refine yy135 ?_; refine yy22 ?_; refine yy120 ?_; (apply awt_s; · exact s_convn rfl (by omega)); (apply awt_s; · exact s_minn rfl rfl); (apply awt_s; · exact s_convi rfl (by omega) (by omega)); (apply awt_s; · exact s_maxi rfl rfl); (apply awt_s; · exact s_nilCheck_ptr rfl); (apply awt_s; · exact s_fieldAddr_ptr rfl); refine awt_last ?_; refine yy86 ?_; rotate_left) | fail)
  have em : max (c.agreed : Int) ((min k c.list.length : Nat) : Int) = ((max c.agreed (min k c.list.length) : Nat) : Int) := by omega
  rw [em]
  have hc5 : ∀ (og oh : Nat) (wv : AV), coreC ({ d with agreed := max c.agreed (min k c.list.length) } : Ag.Co) og oh wv = (coreC c og oh wv).set 5 (mI ((max c.agreed (min k c.list.length) : Nat) : Int)) := fun og oh wv => by
    rw [hdH.out]; rfl
  exact ⟨.inr rfl, _, _, _, Ent.refl _ _, ret0 rfl, rfl, ⟨⟨off, xs, by rw [hc5]; show _ = some (AO.cel (List.set (coreC c F.og F.oh (.vw F.ow 3 off d.wait.length)) _ _)); rw [hdw]; exact auto_heap, auto_heap, by show off + d.wait.length * 3 = _; rw [hdw]; exact hx1, by show _ = d.wait.flatMap En.cells; rw [hdw]; exact hx2⟩, ⟨eg, auto_heap, ⟨hdg.get, hdg.len⟩⟩, ⟨es, auto_heap, ⟨hes.get, hes.nd⟩⟩⟩, fun p y hp h1 h2 => auto_heap⟩
end Go.Proofs.Ytbciofnejefkiaa

namespace Go.Proofs.Ytbciofnejefkiaa
open Go Go.Am Go.Proofs

theorem SAt.core {H : AHeap} {F : Ob} {s : Ag.St} (h : SAt H F s) : ∃ off, H F.o = some (.cel (coreC s.c F.og F.oh (.vw F.ow 3 off s.c.wait.length))) ∧
    ∀ c' : Ag.Co, c'.got = s.c.got → c'.n = s.c.n → c'.me = s.c.me → c'.held = s.c.held → c'.wait = s.c.wait →
      SAt (H.set F.o (.cel (coreC c' F.og F.oh (.vw F.ow 3 off s.c.wait.length)))) F { s with c := c' } ∧ Turn F.l H F F (H.set F.o (.cel (coreC c' F.og F.oh (.vw F.ow 3 off s.c.wait.length)))) := by
  obtain ⟨⟨⟨off, xs, hco, hw, hx1, hx2⟩, ⟨eg, hg, hg2⟩, ⟨eh, hh, hh2⟩⟩, hst, hsv, hsn, nd⟩ := h
  refine ⟨off, hco, fun c' e1 e2 e3 e4 e5 => ⟨⟨⟨⟨off, xs, ?_, ?_, ?_, ?_⟩, ⟨eg, ?_, ?_⟩, ⟨eh, ?_, ?_⟩⟩, ?_, ?_, ?_, nd⟩, ⟨rfl, rfl, fun p hp => .inl hp, fun p y hp hF => AHeap.get_skip (fun e => hF (by simp [Ob.l, e])) hp⟩⟩⟩
  · show _ = some (AO.cel (coreC c' F.og F.oh (.vw F.ow 3 off c'.wait.length))); rw [e5]; exact AHeap.set_self _ _ _
  · exact AHeap.get_skip nd.o_ow.symm hw
  · show off + c'.wait.length * 3 = _; rw [e5]; exact hx1
  · show _ = c'.wait.flatMap En.cells; rw [e5]; exact hx2
  · exact AHeap.get_skip nd.o_og.symm hg
  · refine ⟨fun k => by rw [hg2.get k, e1], ?_⟩
    rw [hg2.len]; unfold Ag.Co.size; rw [e1, e2]
  · exact AHeap.get_skip nd.o_oh.symm hh
  · exact ⟨fun k => by rw [hh2.get k]; show _ = if 0 ≤ k then (c'.held k.toNat).map uI else none; rw [e4], hh2.nd⟩
  · exact AHeap.get_skip nd.o_os.symm hst
  · show _ = some (AO.cel (s.save.map fun x => .bys (recB c'.me c'.n x)))
    rw [e2, e3]; exact AHeap.get_skip nd.o_ov.symm hsv
  · exact AHeap.get_skip nd.o_on.symm hsn
theorem flat_drop3 (l : List En) (k : Nat) : (l.flatMap En.cells).drop (k * 3) = (l.drop k).flatMap En.cells := flat_drop (sz := 3) (fun _ => rfl)
theorem LF.drop {l : List En} (h : LF l) (k : Nat) : LF (l.drop k) := ⟨fun e he => h.ok e (List.mem_of_mem_drop he), by have := h.len; rw [List.length_drop]; omega⟩
theorem take_calls (H : AHeap) (F : Ob) (s : Ag.St) (v : Nat) (l : List En) (h : SAt H F s) (hf : CFine s.c) (hl : s.save.length ≤ 10000) (hv : v ≤ Ag.mostView) (hL : LF l) :
    ACalls Try.prog 65 [.ptr F.o 0, .ptr F.os 0, uI v, lsE l] H fun r H' => r = .tup [] ∧ ∃ F', SAt H' F' (s.take v l) ∧ Turn F.l H F F' H' := by
  obtain ⟨off, hco, _⟩ := h.core
  have f3 := hf.list
  have f4 := hL.len
  have f5 := f3.len
  have hv2 : v < 2 ^ 64 := by unfold Ag.mostView at hv; omega
  have hB := fun H => begins_calls H l s.c.list (by omega) (by omega) (fun e he => by have := (hL.ok e he).2; omega) (fun e he => by have := (f3.ok e he).2; omega)
  have hS1 := save_calls H F s 2 v l h hf (by omega) (by decide) hv2 hL
  have hS2 : s.c.list.length < l.length → ACalls Try.prog 78 [.ptr F.o 0, .ptr F.os 0, uI 3, uI 0, .sls (l.length - s.c.list.length) (List.take ((l.length - s.c.list.length) * 3) (List.drop (s.c.list.length * 3) (l.flatMap En.cells)))] H fun r H' => r = .tup [] ∧ ∃ F', SAt H' F' (s.put 3 0 (l.drop s.c.list.length)) ∧ Turn F.l H F F' H' := fun hlt => by
    have h1 := save_calls H F s 3 0 (l.drop s.c.list.length) h hf (by omega) (by decide) (by decide) (hL.drop _)
    have e1 : (l.drop s.c.list.length).length = l.length - s.c.list.length := List.length_drop ..
    unfold lsE at h1
    rw [e1] at h1
    rw [flat_drop3, List.take_of_length_le (by rw [flat_len (sz := 3) (fun _ => rfl), e1]; exact Nat.le_refl _)]
    exact h1
  unfold coreC at hco
  have hbl : Ag.begins l s.c.list = true → s.c.list.length ≤ l.length := fun h => by simp only [Ag.begins, Bool.and_eq_true, decide_eq_true_eq] at h; exact h.1
  refine acalls_of_aw4 Try.func65 rfl (by decide) ?_
  have hid := Turn.refl F.l H F
  by_cases hlv : s.c.last = v
  · cases hbb : Ag.begins l s.c.list with
    | true =>
      have hle := hbl hbb
      rw [hbb] at hB
      by_cases hlt : s.c.list.length < l.length
      · have hS3 := hS2 hlt
        (first | focus (refine yy13 ?_; refine yy21 ?_; refine yy2 ?_; refine yy57 ?_; refine yy2 ?_; refine zg1 rfl rfl rfl (fun hc => ?_) (fun hc => ?_); refine yy56 ?_; refine yy6 ?_; refine yy49 ?_; refine yy103 ?_; refine yy41 ?_; (refine zc auto_wl (hB _) ?_; rintro r H' ⟨rfl, rfl⟩); refine yy68 ?_; refine yy23 ?_; refine yy1 ?_; refine yy56 ?_; refine yy21 ?_; refine yy54 ?_; refine awl_s rfl (s_slice_sls rfl auto_bnd auto_bnd auto_len auto_len) ?_; refine awl_s rfl (s_assign (v := .sls _ _) rfl) ?_; refine yy3 ?_; refine yy1 ?_; refine yy62 ?_; refine yy44 ?_; refine yy3 ?_; refine aw_condp rfl (fun hc => ?_) (fun hc => ?_); refine yy51 ?_; refine yy30 ?_; refine yy56 ?_; (refine zc auto_wl (hS3) ?_; rintro r H' ⟨rfl, F2, b1, b2⟩); refine yy3 ?_; rotate_left; exact absurd hc auto_no; exact absurd hc auto_no) | fail)
        have ht : s.take v l = { s.put 3 0 (l.drop s.c.list.length) with c := { s.c with last := v, list := l } } := by unfold Ag.St.take; dsimp only; rw [if_pos ⟨hlv, hbb⟩, if_pos hlt]; rfl
        rw [ht]
        obtain ⟨off2, q1, q2⟩ := b1.core
        obtain ⟨a1, a2⟩ := q2 { s.c with last := v, list := l } rfl rfl rfl rfl rfl
        rw [b2.o] at q1 a1 a2
        unfold coreC at q1
        (first | focus (refine yy51 ?_; refine yy30 ?_; refine yy2 ?_; refine yy56 ?_; refine yy60 ?_; refine yy75 ?_; refine yy60 ?_; refine yy83 ?_; refine yy4 ?_; rotate_left) | fail)
        exact ⟨.inr rfl, _, _, _, Ent.refl _ _, ret0 rfl, rfl, F2, a1, b2.trans a2⟩
      · (first | focus (refine yy13 ?_; refine yy21 ?_; refine yy2 ?_; refine yy57 ?_; refine yy2 ?_; refine zg1 rfl rfl rfl (fun hc => ?_) (fun hc => ?_); refine yy56 ?_; refine yy6 ?_; refine yy49 ?_; refine yy103 ?_; refine yy41 ?_; (refine zc auto_wl (hB _) ?_; rintro r H' ⟨rfl, rfl⟩); refine yy68 ?_; refine yy23 ?_; refine yy1 ?_; refine yy56 ?_; refine yy21 ?_; refine yy54 ?_; refine awl_s rfl (s_slice_sls rfl auto_bnd auto_bnd auto_len auto_len) ?_; refine awl_s rfl (s_assign (v := .sls _ _) rfl) ?_; refine yy3 ?_; refine yy1 ?_; refine yy62 ?_; refine yy44 ?_; refine yy3 ?_; refine yy63 ?_; intro hc; rotate_left; exact absurd hc auto_no) | fail)
        have ht : s.take v l = { s with c := { s.c with last := v, list := l } } := by unfold Ag.St.take; dsimp only; rw [if_pos ⟨hlv, hbb⟩, if_neg hlt]
        rw [ht]
        obtain ⟨off2, q1, q2⟩ := h.core
        obtain ⟨a1, a2⟩ := q2 { s.c with last := v, list := l } rfl rfl rfl rfl rfl
        rw [hid.o] at q1 a1 a2
        unfold coreC at q1
        (first | focus (refine yy51 ?_; refine yy30 ?_; refine yy2 ?_; refine yy56 ?_; refine yy60 ?_; refine yy75 ?_; refine yy60 ?_; refine yy83 ?_; refine yy4 ?_; rotate_left) | fail)
        exact ⟨.inr rfl, _, _, _, Ent.refl _ _, ret0 rfl, rfl, F, a1, hid.trans a2⟩
    | false =>
      rw [hbb] at hB
      (first | focus (refine yy13 ?_; refine yy21 ?_; refine yy2 ?_; refine yy57 ?_; refine yy2 ?_; refine zg1 rfl rfl rfl (fun hc => ?_) (fun hc => ?_); refine yy56 ?_; refine yy6 ?_; refine yy49 ?_; refine yy103 ?_; refine yy41 ?_; (refine zc auto_wl (hB _) ?_; rintro r H' ⟨rfl, rfl⟩); refine yy68 ?_; refine aw_cond_f rfl ?_; refine yy51 ?_; refine yy30 ?_; refine yy2 ?_; refine yy56 ?_; (refine zc auto_wl (hS1) ?_; rintro r H' ⟨rfl, F2, b1, b2⟩); refine yy3 ?_; rotate_left; exact absurd hc auto_no) | fail)
      have ht : s.take v l = { s.put 2 v l with c := { s.c with last := v, list := l } } := by unfold Ag.St.take; dsimp only; rw [if_neg (fun x => by rw [hbb] at x; cases x.2)]; rfl
      rw [ht]
      obtain ⟨off2, q1, q2⟩ := b1.core
      obtain ⟨a1, a2⟩ := q2 { s.c with last := v, list := l } rfl rfl rfl rfl rfl
      rw [b2.o] at q1 a1 a2
      unfold coreC at q1
      (first | focus (refine yy51 ?_; refine yy30 ?_; refine yy2 ?_; refine yy56 ?_; refine yy60 ?_; refine yy75 ?_; refine yy60 ?_; refine yy83 ?_; refine yy4 ?_; rotate_left) | fail)
      exact ⟨.inr rfl, _, _, _, Ent.refl _ _, ret0 rfl, rfl, F2, a1, b2.trans a2⟩
  · (first | focus (refine yy13 ?_; refine yy21 ?_; refine yy2 ?_; refine yy57 ?_; refine yy2 ?_; refine zg1 rfl rfl rfl (fun hc => ?_) (fun hc => ?_); exact absurd hc auto_no; refine yy45 ?_; refine yy61 ?_; refine yy65 ?_; refine aw_cond_f rfl ?_; refine yy51 ?_; refine yy30 ?_; refine yy2 ?_; refine yy56 ?_; (refine zc auto_wl (hS1) ?_; rintro r H' ⟨rfl, F2, b1, b2⟩); refine yy3 ?_; rotate_left) | fail)
    have ht : s.take v l = { s.put 2 v l with c := { s.c with last := v, list := l } } := by unfold Ag.St.take; dsimp only; rw [if_neg (fun x => hlv x.1)]; rfl
    rw [ht]
    obtain ⟨off2, q1, q2⟩ := b1.core
    obtain ⟨a1, a2⟩ := q2 { s.c with last := v, list := l } rfl rfl rfl rfl rfl
    rw [b2.o] at q1 a1 a2
    unfold coreC at q1
    (first | focus (refine yy51 ?_; refine yy30 ?_; refine yy2 ?_; refine yy56 ?_; refine yy60 ?_; refine yy75 ?_; refine yy60 ?_; refine yy83 ?_; refine yy4 ?_; rotate_left) | fail)
    exact ⟨.inr rfl, _, _, _, Ent.refl _ _, ret0 rfl, rfl, F2, a1, b2.trans a2⟩
end Go.Proofs.Ytbciofnejefkiaa

namespace Go.Proofs.Ytbciofnejefkiaa
open Go Go.Am Go.Proofs

theorem TurnC.refl (H : AHeap) (F : Ob) (nd : NdC F) : TurnC H F F H := ⟨rfl, rfl, rfl, rfl, fun p hp => .inl hp, fun p y hp _ => hp, nd⟩
theorem wanted_calls (H : AHeap) (F : Ob) (c : Ag.Co) (e : En) (h : CAt H F c) (nd : NdC F) (hf : CFine c) (hr : e.row.length ≤ 1000000) :
    ACalls Try.prog 36 [.ptr F.o 0, .agg e.cells] H fun r H' => r = bB (c.wanted e).2 ∧ ∃ F', CAt H' F' (c.wanted e).1 ∧ TurnC H F F' H' := by
  have h0 := h
  have nd0 := nd
  obtain ⟨⟨off, xs, hco, hw, hx1, hx2⟩, ⟨eg, hg, hg2⟩, ⟨eh, hh, hh2⟩⟩ := h
  obtain ⟨n1, n2, n3, n4, n5, n6⟩ := nd
  have f1 := hf.list.len
  have f2 := hf.wait.len
  have hM := fun H => may_calls H e (by omega)
  have hHL := fun H => has_calls H c.list e.id (by omega)
  have hHW := fun H h => has_vw H F.ow off xs c.wait e.id (by omega) h hx1 hx2
  have hC := fun H => Copy_calls H e hr
  unfold coreC at hco
  refine acalls_of_aw2 Try.func36 rfl (by decide) ?_
  cases hm : Ag.may e with
  | false =>
    have hwant : c.wanted e = (c, false) := by unfold Ag.Co.wanted; rw [if_pos (.inl hm)]
    rw [hm] at hM
    (first | focus (refine yy1 ?_; refine zb1 rfl rfl rfl (fun oN hoN => ?_); refine yy5 ?_; refine aw_seq ?_; refine yy19 ?_; refine yy148 ?_; (apply awt_s; · exact s_callc auto_wl (hM _)); refine yy97 ?_; refine yy7 ?_; refine yy18 ?_; refine yy98 ?_; refine zt4 rfl rfl ?_; refine yy28 ?_; refine yy7 ?_; refine yy18 ?_; refine yy98 ?_; refine zt4 rfl rfl ?_; refine yy28 ?_; refine yy12 ?_; refine yy23 ?_; refine yy24 ?_; refine yy32 ?_; rotate_left) | fail)
    exact ⟨.inl rfl, _, _, _, Ent.gc (H0 := H) auto_sub, ret1 rfl rfl, by rw [hwant]; rfl, F, by rw [hwant]; exact h0, TurnC.refl H F nd0⟩
  | true =>
    rw [hm] at hM
    cases hli : Ag.hasId c.list e.id with
    | true =>
      have hwant : c.wanted e = (c, false) := by unfold Ag.Co.wanted; rw [if_pos (.inr (.inl hli))]
      rw [hli] at hHL
      (first | focus (refine yy1 ?_; refine zb1 rfl rfl rfl (fun oN hoN => ?_); refine yy5 ?_; refine aw_seq ?_; refine yy19 ?_; refine yy148 ?_; (apply awt_s; · exact s_callc auto_wl (hM _)); refine yy97 ?_; refine yy42 ?_; refine yy29 ?_; refine yy129 ?_; (apply awt_s; · exact s_callc auto_wl (hHL _)); refine yy79 ?_; refine yy18 ?_; refine yy98 ?_; refine zt4 rfl rfl ?_; refine yy28 ?_; refine yy12 ?_; refine yy23 ?_; refine yy24 ?_; refine yy32 ?_; rotate_left) | fail)
      exact ⟨.inl rfl, _, _, _, Ent.gc (H0 := H) auto_sub, ret1 rfl rfl, by rw [hwant]; rfl, F, by rw [hwant]; exact h0, TurnC.refl H F nd0⟩
    | false =>
      rw [hli] at hHL
      cases hwi : Ag.hasId c.wait e.id with
      | true =>
        have hwant : c.wanted e = (c, false) := by unfold Ag.Co.wanted; rw [if_pos (.inr (.inr hwi))]
        rw [hwi] at hHW
        (first | focus (refine yy1 ?_; refine zb1 rfl rfl rfl (fun oN hoN => ?_); refine yy5 ?_; refine aw_seq ?_; refine yy19 ?_; refine yy148 ?_; (apply awt_s; · exact s_callc auto_wl (hM _)); refine yy97 ?_; refine yy42 ?_; refine yy29 ?_; refine yy129 ?_; (apply awt_s; · exact s_callc auto_wl (hHL _)); refine yy70 ?_; refine yy42 ?_; refine yy29 ?_; refine yy129 ?_; (apply awt_s; · exact s_callc auto_wl (hHW _ auto_heap)); refine yy70 ?_; refine yy12 ?_; refine yy23 ?_; refine yy24 ?_; refine yy32 ?_; rotate_left) | fail)
        exact ⟨.inl rfl, _, _, _, Ent.gc (H0 := H) auto_sub, ret1 rfl rfl, by rw [hwant]; rfl, F, by rw [hwant]; exact h0, TurnC.refl H F nd0⟩
      | false =>
        rw [hwi] at hHW
        by_cases h200 : c.wait.length = 200
        · have hdr : xs.drop (off + 1 * 3) = (c.wait.drop 1).flatMap En.cells := by
            rw [← List.drop_drop, hx2, flat_drop3]
          have hwant : c.wanted e = ({ c with wait := c.wait.drop 1 ++ [e] }, c.lead) := by unfold Ag.Co.wanted; rw [if_neg (by rw [hm, hli, hwi]; simp)]; simp [h200]
          have hlen : (c.wait.drop 1 ++ [e]).length = c.wait.length - 1 + 1 := by rw [List.length_append]; rw [List.length_drop]; rfl
          have hcw : (c.wait.drop 1 ++ [e]).flatMap En.cells = xs.drop (off + 1 * 3) ++ e.cells := by rw [List.flatMap_append, ← hdr]; simp
          rw [hwant]
          (first | focus (refine yy1 ?_; refine zb1 rfl rfl rfl (fun oN hoN => ?_); refine yy5 ?_; refine aw_seq ?_; refine yy19 ?_; refine yy148 ?_; (apply awt_s; · exact s_callc auto_wl (hM _)); refine yy97 ?_; refine yy42 ?_; refine yy29 ?_; refine yy129 ?_; (apply awt_s; · exact s_callc auto_wl (hHL _)); refine yy70 ?_; refine yy42 ?_; refine yy29 ?_; refine yy129 ?_; (apply awt_s; · exact s_callc auto_wl (hHW _ auto_heap)); refine yy70 ?_; refine yy12 ?_; refine yy96 ?_; refine yy13 ?_; refine yy21 ?_; refine yy107 ?_; refine yy57 ?_; refine yy3 ?_; refine aw_condp rfl (fun hc => ?_) (fun hc => ?_); refine yy51 ?_; refine yy21 ?_; refine awl_s rfl (s_slice_vw rfl auto_bnd auto_bnd auto_len auto_len) ?_; refine yy60 ?_; refine yy75 ?_; refine yy3 ?_; refine aw_seq ?_; refine aw_draw2 false auto_kr auto_dk auto_dk ?_; refine yy73 ?_; refine yy73 ?_; refine yy84 ?_; (apply awm_e auto_dk; (· exact s_load_cel rfl auto_heap rfl)); (apply awm_e auto_dk; (· exact s_load_agg rfl auto_heap rfl rfl (by first | decide | exact Nat.le_of_ble_eq_true rfl))); (apply awm_s; · (intro H1; exact s_callc auto_wl (hC _))); refine yy140 ?_; refine awm_b ?_; refine yy84 ?_; refine awm_b0 ?_; refine awm_nil ?_; refine awb_cons (fun Rx K1 hK1x => ?_); refine awl_app_celo rfl rfl rfl auto_heap auto_len auto_src auto_len auto_len (fun oN hoN => ?_); refine yy4 ?_; (refine hK1x _ _ ?_; clear hK1x K1 Rx); refine awb_cons0 (fun Rx K1 hK1x => ?_); refine yy86 ?_; (refine hK1x _ ?_; clear hK1x K1 Rx); refine awb_nil ?_; refine yy31 ?_; refine yy52 ?_; refine yy8 ?_; rotate_left; exact absurd hc auto_no) | fail)
          all_goals try (exfalso; omega)
          refine ⟨.inl rfl, _, _, _, Ent.refl _ _, ret1 rfl rfl, rfl, { F with ow := oN }, ⟨⟨0, _, ?_, AHeap.get_skip auto_nq (AHeap.set_self _ _ _), ?_, ?_⟩, ⟨eg, auto_heap, ⟨hg2.get, hg2.len⟩⟩, ⟨eh, auto_heap, ⟨hh2.get, hh2.nd⟩⟩⟩, ⟨rfl, rfl, rfl, rfl, fun p hp => ?_, fun p y hp hF => ?_, ?_⟩⟩
          · show _ = some (AO.cel (coreC c F.og F.oh (.vw oN 3 0 (c.wait.drop 1 ++ [e]).length)))
            rw [hlen]; exact auto_heap
          · show 0 + (c.wait.drop 1 ++ [e]).length * 3 = _
            rw [hlen, List.length_append, List.length_drop]; simp only [List.length_cons, List.length_nil]; omega
          · rw [List.drop_zero]; exact hcw.symm
          · simp only [Ob.c, List.mem_cons, List.not_mem_nil, or_false] at hp ⊢
            rcases hp with h | h | h | h
            · exact .inl (.inl h)
            · exact .inl (.inr (.inl h))
            · exact .inl (.inr (.inr (.inl h)))
            · exact .inr (by rw [h]; exact auto_nn)
          · simp only [Ob.c, List.mem_cons, List.not_mem_nil, or_false, not_or] at hF
            obtain ⟨k1, k2, k3, k4⟩ := hF
            exact auto_heap
          · constructor <;> exact auto_nq
        · have hwant : c.wanted e = ({ c with wait := c.wait ++ [e] }, c.lead) := by unfold Ag.Co.wanted; rw [if_neg (by rw [hm, hli, hwi]; simp)]; simp [h200]
          have hlen : (c.wait ++ [e]).length = c.wait.length + 1 := by rw [List.length_append]; rfl
          have hcw : (c.wait ++ [e]).flatMap En.cells = xs.drop (off) ++ e.cells := by rw [List.flatMap_append, ← hx2]; simp
          rw [hwant]
          (first | focus (refine yy1 ?_; refine zb1 rfl rfl rfl (fun oN hoN => ?_); refine yy5 ?_; refine aw_seq ?_; refine yy19 ?_; refine yy148 ?_; (apply awt_s; · exact s_callc auto_wl (hM _)); refine yy97 ?_; refine yy42 ?_; refine yy29 ?_; refine yy129 ?_; (apply awt_s; · exact s_callc auto_wl (hHL _)); refine yy70 ?_; refine yy42 ?_; refine yy29 ?_; refine yy129 ?_; (apply awt_s; · exact s_callc auto_wl (hHW _ auto_heap)); refine yy70 ?_; refine yy12 ?_; refine yy96 ?_; refine yy13 ?_; refine yy21 ?_; refine yy107 ?_; refine yy57 ?_; refine yy3 ?_; refine yy48 ?_; intro hc; refine aw_skip ?_; refine k_seq_normal ?_; refine aw_seq ?_; refine aw_draw2 false auto_kr auto_dk auto_dk ?_; refine yy73 ?_; refine yy73 ?_; refine yy84 ?_; (apply awm_e auto_dk; (· exact s_load_cel rfl auto_heap rfl)); (apply awm_e auto_dk; (· exact s_load_agg rfl auto_heap rfl rfl (by first | decide | exact Nat.le_of_ble_eq_true rfl))); (apply awm_s; · (intro H1; exact s_callc auto_wl (hC _))); refine yy140 ?_; refine awm_b ?_; refine yy84 ?_; refine awm_b0 ?_; refine awm_nil ?_; refine awb_cons (fun Rx K1 hK1x => ?_); refine awl_app_celo rfl rfl rfl auto_heap auto_len auto_src auto_len auto_len (fun oN hoN => ?_); refine yy4 ?_; (refine hK1x _ _ ?_; clear hK1x K1 Rx); refine awb_cons0 (fun Rx K1 hK1x => ?_); refine yy86 ?_; (refine hK1x _ ?_; clear hK1x K1 Rx); refine awb_nil ?_; refine yy31 ?_; refine yy52 ?_; refine yy8 ?_; rotate_left) | fail)
          all_goals try (exfalso; omega)
          refine ⟨.inl rfl, _, _, _, Ent.refl _ _, ret1 rfl rfl, rfl, { F with ow := oN }, ⟨⟨0, _, ?_, AHeap.get_skip auto_nq (AHeap.set_self _ _ _), ?_, ?_⟩, ⟨eg, auto_heap, ⟨hg2.get, hg2.len⟩⟩, ⟨eh, auto_heap, ⟨hh2.get, hh2.nd⟩⟩⟩, ⟨rfl, rfl, rfl, rfl, fun p hp => ?_, fun p y hp hF => ?_, ?_⟩⟩
          · show _ = some (AO.cel (coreC c F.og F.oh (.vw oN 3 0 (c.wait ++ [e]).length)))
            rw [hlen]; exact auto_heap
          · show 0 + (c.wait ++ [e]).length * 3 = _
            rw [hlen, List.length_append, List.length_drop]; simp only [List.length_cons, List.length_nil]; omega
          · rw [List.drop_zero]; exact hcw.symm
          · simp only [Ob.c, List.mem_cons, List.not_mem_nil, or_false] at hp ⊢
            rcases hp with h | h | h | h
            · exact .inl (.inl h)
            · exact .inl (.inr (.inl h))
            · exact .inl (.inr (.inr (.inl h)))
            · exact .inr (by rw [h]; exact auto_nn)
          · simp only [Ob.c, List.mem_cons, List.not_mem_nil, or_false, not_or] at hF
            obtain ⟨k1, k2, k3, k4⟩ := hF
            exact auto_heap
          · constructor <;> exact auto_nq
end Go.Proofs.Ytbciofnejefkiaa

namespace Go.Proofs.Ytbciofnejefkiaa
open Go Go.Am Go.Proofs

theorem Clip_calls (H : AHeap) (l : List En) (hl : l.length ≤ 1000000) : ACalls Try.prog 64 [lsE l] H fun r H' => r = .slsx l.length (l.flatMap En.cells) ∧ H' = H := by
  refine acalls_of_aw1 Try.func64 rfl (by decide) ?_
  (first | focus (refine yy17 ?_; refine yy1 ?_; refine yy56 ?_; refine yy62 ?_; refine yy62 ?_; refine awl_s rfl (s_clip_sls rfl rfl rfl) ?_; refine awl_s rfl (s_assign (v := .slsx _ _) rfl) ?_; refine yy35 ?_; rotate_left) | fail)
  exact ⟨.inl rfl, _, _, _, Ent.refl _ _, ret1 rfl rfl, rfl, rfl⟩
theorem grown_succ {l w : List En} {i : Nat} {e : En} (h : w[i]? = some e) : Ag.grown l (w.take (i + 1)) = if (Ag.grown l (w.take i)).length < 200 ∧ Ag.hasId (Ag.grown l (w.take i)) e.id = false then Ag.grown l (w.take i) ++ [e] else Ag.grown l (w.take i) := by
  rw [List.take_add_one, h]
  unfold Ag.grown
  rw [List.foldl_append]; rfl
theorem grown_LF {l : List En} (hl : LF l) : ∀ {w : List En}, (∀ e ∈ w, e.Ok ∧ e.row.length ≤ 16) → LF (Ag.grown l w) ∧ l.length ≤ (Ag.grown l w).length := by
  intro w
  induction w generalizing l with
  | nil => intro _; exact ⟨hl, Nat.le_refl _⟩
  | cons e w ih =>
    intro hw
    have hw' : ∀ x ∈ w, x.Ok ∧ x.row.length ≤ 16 := fun x hx => hw x (List.mem_cons_of_mem _ hx)
    unfold Ag.grown
    simp only [List.foldl_cons]
    split
    · next hc =>
      have h1 : LF (l ++ [e]) := ⟨fun x hx => by
        rcases List.mem_append.1 hx with hx | hx
        · exact hl.ok x hx
        · rw [List.mem_singleton.1 hx]; exact hw e (List.mem_cons_self), by rw [List.length_append, List.length_singleton]; omega⟩
      obtain ⟨h2, h3⟩ := ih h1 hw'
      exact ⟨h2, by rw [List.length_append] at h3; exact Nat.le_trans (Nat.le_add_right _ _) h3⟩
    · exact ih hl hw'
theorem Nd.c {F : Ob} (n : Nd F) : NdC F := ⟨n.o_og, n.o_oh, n.o_ow, n.og_oh, n.og_ow, n.oh_ow⟩
theorem settle_same2 (c : Ag.Co) : c.settle.me = c.me ∧ c.settle.n = c.n := by
  unfold Ag.Co.settle; dsimp only
  split <;> exact ⟨rfl, rfl⟩
theorem settle_S (H : AHeap) (F : Ob) (s : Ag.St) (h : SAt H F s) (hf : CFine s.c) :
    ACalls Try.prog 54 [.ptr F.o 0] H fun r H' => r = .tup [] ∧ SAt H' F { s with c := s.c.settle } ∧ Turn F.l H F F H' :=
  (settle_calls H F s.c h.c h.nd.c hf).mono fun r H' ⟨h1, h2, h3⟩ => by
    have t : TurnC H F F H' := ⟨rfl, rfl, rfl, rfl, fun p hp => .inl hp, fun p y hp hF => h3 p y hp (fun e => hF (by simp [Ob.c, e])) (fun e => hF (by simp [Ob.c, e])), h.nd.c⟩
    obtain ⟨a, b⟩ := h.turn h2 t (settle_same2 s.c).1 (settle_same2 s.c).2
    exact ⟨h1, a, b⟩
theorem CFine.settle {c : Ag.Co} (h : CFine c) : CFine c.settle := by
  have h200 := h.list.len
  have hh : ∀ q v, Ag.upd c.held c.me (some c.list.length) q = some v → q < c.n ∧ v < 2 ^ 64 := by
    intro q v hq
    unfold Ag.upd at hq
    split at hq
    · next e => cases hq; exact ⟨by rw [e]; exact h.me, by omega⟩
    · exact h.held q v hq
  unfold Ag.Co.settle; dsimp only
  split
  · exact ⟨h.me, h.n, h.view, h.last, h.list, h.agr, h.wait, h.quiet, h.got, hh⟩
  · refine ⟨h.me, h.n, h.view, h.last, h.list, ?_, h.wait, h.quiet, h.got, hh⟩
    have := h.agr
    show max c.agreed (min _ c.list.length) ≤ c.list.length
    omega
theorem CFine.take {c : Ag.Co} (h : CFine c) {v : Nat} (hv : v ≤ Ag.mostView) {l : List En} (hl : LF l) (ha : c.agreed ≤ l.length) : CFine { c with last := v, list := l } :=
  ⟨h.me, h.n, h.view, hv, hl, ha, h.wait, h.quiet, h.got, h.held⟩
theorem SAt.unwait {H : AHeap} {F : Ob} {s : Ag.St} (h : SAt H F s) {ow : Nat} (how : H ow = none) : SAt ((H.set F.o (.cel (coreC s.c F.og F.oh (.vw ow 3 0 0)))).set ow (.cel [])) { F with ow := ow } { s with c := { s.c with wait := [] } } ∧
    Turn F.l H F { F with ow := ow } ((H.set F.o (.cel (coreC s.c F.og F.oh (.vw ow 3 0 0)))).set ow (.cel [])) := by
  have h0 := h
  obtain ⟨⟨⟨off, xs, hco, hw, hx1, hx2⟩, ⟨eg, hg, hg2⟩, ⟨eh, hh, hh2⟩⟩, hst, hsv, hsn, nd⟩ := h
  have n0 := nd
  obtain ⟨n1, n2, n3, n4, n5, n6, n7, n8, n9, n10, n11, n12, n13, n14, n15, n16, n17, n18, n19, n20, n21⟩ := nd
  have m1 : ow ≠ F.o := by exact auto_nq
  refine ⟨⟨⟨⟨0, [], ?_, ?_, rfl, rfl⟩, ⟨eg, ?_, ⟨hg2.get, hg2.len⟩⟩, ⟨eh, ?_, ⟨hh2.get, hh2.nd⟩⟩⟩, ?_, ?_, ?_, ?_⟩, ⟨rfl, rfl, fun p hp => ?_, fun p y hp hF => ?_⟩⟩
  · exact auto_heap
  · exact auto_heap
  · exact auto_heap
  · exact auto_heap
  · exact auto_heap
  · exact auto_heap
  · exact auto_heap
  · constructor <;> exact auto_nq
  · simp only [Ob.l, List.mem_cons, List.not_mem_nil, or_false] at hp ⊢
    rcases hp with e | e | e | e | e | e | e
    · exact .inl (.inl e)
    · exact .inl (.inr (.inl e))
    · exact .inl (.inr (.inr (.inl e)))
    · exact .inr (by rw [e]; exact how)
    · exact .inl (.inr (.inr (.inr (.inr (.inl e)))))
    · exact .inl (.inr (.inr (.inr (.inr (.inr (.inl e))))))
    · exact .inl (.inr (.inr (.inr (.inr (.inr (.inr e))))))
  · (obtain ⟨f1, f2, f3, f4, f5, f6, f7⟩ := Ob.nel hF; exact auto_heap)
theorem grow_calls (H : AHeap) (F : Ob) (s : Ag.St) (h : SAt H F s) (hf : CFine s.c) (hl : s.save.length ≤ 9000) (hl2 : s.send.length ≤ 9000) :
    ACalls Try.prog 37 [.ptr F.o 0, .ptr F.os 0] H fun r H' => r = .tup [] ∧ ∃ F', SAt H' F' s.grow ∧ Turn F.l H F F' H' := by
  have h0 := h
  obtain ⟨⟨⟨off, xs, hco, hw, hx1, hx2⟩, ⟨eg, hg, hg2⟩, ⟨eh, hh, hh2⟩⟩, hst, hsv, hsn, nd⟩ := h
  have f1 := hf.list.len
  have f2 := hf.wait.len
  have f3 := hf.wait.ok
  have f4 := hf.list
  have hCl := fun H => Clip_calls H s.c.list (by omega)
  unfold coreC at hco
  refine acalls_of_aw2 Try.func37 rfl (by decide) ?_
  (first | focus (refine yy52 ?_; (refine zc auto_wl (hCl _) ?_; rintro r H' ⟨rfl, rfl⟩); refine awl_s rfl (s_assign (v := .slsx _ _) rfl) ?_; refine yy3 ?_; refine yy13 ?_; refine yy21 ?_; refine yy107 ?_; refine yy67 ?_; rotate_left) | fail)
  clear hCl
  generalize hHH : H' = H at *
  clear hHH H'
  refine aw_loop (fun mm R' H2 => ∃ (i : Nat) (lv : AV), ((lv = .slsx s.c.list.length (s.c.list.flatMap En.cells) ∧ Ag.grown s.c.list (s.c.wait.take i) = s.c.list ∧ H2 = H) ∨ (∃ oL, lv = .vw oL 3 0 (Ag.grown s.c.list (s.c.wait.take i)).length ∧ H oL = none ∧ H2 = H.set oL (.cel ((Ag.grown s.c.list (s.c.wait.take i)).flatMap En.cells)))) ∧ R' = [(0, .ptr F.o 0), (1, .ptr F.os 0), (4, lv), (15, .vw F.ow 3 off s.c.wait.length), (16, .raw (.int .i64 (s.c.wait.length : Int))), (17, .raw (.int .i64 (i : Int)))] ∧ i + mm = s.c.wait.length) ?_ ?_
  · exact ⟨s.c.wait.length, _, _, auto_ent, 0, _, .inl ⟨rfl, rfl, rfl⟩, rfl, by omega⟩
  rintro mm R0 H2 ⟨i, lv, hD, rfl, hi⟩
  obtain ⟨g1, g2⟩ := grown_LF f4 (w := s.c.wait.take i) fun e he => f3 e (List.mem_of_mem_take he)
  by_cases hlt : i < s.c.wait.length
  · have hg0 : s.c.wait[i]? = some s.c.wait[i] := List.getElem?_eq_getElem hlt
    have hge : List.take 3 (List.drop (off + i * 3) xs) = (s.c.wait[i]).cells := by rw [← List.drop_drop, hx2]; exact ent_get hg0
    have hgs := grown_succ (l := s.c.list) hg0
    generalize s.c.wait[i] = e at *
    generalize hgr : Ag.grown s.c.list (s.c.wait.take i) = acc at *
    have hal := g1.len
    have hac : (acc.flatMap En.cells).length = acc.length * 3 := flat_len (sz := 3) (fun _ => rfl) _
    rcases hD with ⟨rfl, rfl, rfl⟩ | ⟨oL, rfl, hoL, rfl⟩
    · have hHs := fun H => has_calls H s.c.list e.id (by omega)
      (first | focus (refine yy9 ?_; refine aw_condp rfl (fun hc => ?_) (fun hc => ?_); refine yy20 ?_; refine yy1 ?_; refine yy115 ?_; refine awl_s rfl (s_load_agg rfl auto_heap (by assumption) (by rfl) auto_len) ?_; refine awl_alloc rfl rfl rfl (fun oN hoN => ?_); refine yy87 ?_; refine yy3 ?_; refine yy1 ?_; refine awl_s rfl (s_move (v := .slsx _ _) rfl) ?_; refine awl_s rfl (s_len_slsx rfl) ?_; refine awl_s rfl (s_ltn rfl rfl) ?_; refine yy2 ?_; refine zg1 rfl rfl rfl (fun hc => ?_) (fun hc => ?_); refine awl_s rfl (s_move (v := .slsx _ _) rfl) ?_; refine yy6 ?_; refine yy41 ?_; (refine zc auto_wl (hHs _) ?_; rintro r H' ⟨rfl, rfl⟩); refine yy6 ?_; refine yy58 ?_; refine yy68 ?_; refine aw_cond rfl (fun hc => ?_) (fun hc => ?_); refine aw_region ?_; refine awl_s rfl (s_move (v := .slsx _ _) rfl) ?_; refine yy46 ?_; refine yy111 ?_; refine awl_own_slsx_cel rfl rfl auto_len rfl auto_src auto_len auto_len auto_len (fun oN hoN => ?_); refine yy81 ?_; refine yy4 ?_; refine yy33 ?_; rotate_left; refine aw_skip ?_; refine yy33 ?_; rotate_left; refine yy45 ?_; refine yy65 ?_; refine yy101 ?_; refine yy33 ?_; rotate_left; exact absurd hc auto_no) | fail)
      all_goals try (exfalso; omega)
      · rw [if_pos ⟨by omega, by simpa using hc⟩] at hgs
        exact ⟨mm - 1, [(0, .ptr F.o 0), (1, .ptr F.os 0), (4, .vw oN 3 0 (s.c.list.length + 1)), (15, .vw F.ow 3 off s.c.wait.length), (16, .raw (.int .i64 (s.c.wait.length : Int))), (17, .raw (.int .i64 ((i + 1 : Nat) : Int)))], H2.set oN (.cel (s.c.list.flatMap En.cells ++ e.cells)), by omega, auto_entg, i + 1, _, .inr ⟨oN, by rw [hgs, List.length_append]; rfl, by exact auto_nn, by rw [hgs, List.flatMap_append]; simp⟩, rfl, by omega⟩
      · rw [if_neg (fun x => by rw [x.2] at hc; cases hc)] at hgs
        exact ⟨mm - 1, [(0, .ptr F.o 0), (1, .ptr F.os 0), (4, .slsx s.c.list.length (s.c.list.flatMap En.cells)), (15, .vw F.ow 3 off s.c.wait.length), (16, .raw (.int .i64 (s.c.wait.length : Int))), (17, .raw (.int .i64 ((i + 1 : Nat) : Int)))], H2, by omega, auto_entg, i + 1, _, .inl ⟨rfl, hgs, rfl⟩, rfl, by omega⟩
      · rw [if_neg (fun x => hc x.1)] at hgs
        exact ⟨mm - 1, [(0, .ptr F.o 0), (1, .ptr F.os 0), (4, .slsx s.c.list.length (s.c.list.flatMap En.cells)), (15, .vw F.ow 3 off s.c.wait.length), (16, .raw (.int .i64 (s.c.wait.length : Int))), (17, .raw (.int .i64 ((i + 1 : Nat) : Int)))], H2, by omega, auto_entg, i + 1, _, .inl ⟨rfl, hgs, rfl⟩, rfl, by omega⟩
    · have hHs := fun H h => has_vw H oL 0 (acc.flatMap En.cells) acc e.id (by omega) h (by omega) rfl
      (first | focus (refine yy9 ?_; refine aw_condp rfl (fun hc => ?_) (fun hc => ?_); refine yy20 ?_; refine yy1 ?_; refine yy115 ?_; refine awl_s rfl (s_load_agg rfl auto_heap (by assumption) (by rfl) auto_len) ?_; refine awl_alloc rfl rfl rfl (fun oN hoN => ?_); refine yy87 ?_; refine yy3 ?_; refine yy1 ?_; refine yy64 ?_; refine yy107 ?_; refine awl_s rfl (s_ltn rfl rfl) ?_; refine yy2 ?_; refine zg1 rfl rfl rfl (fun hc => ?_) (fun hc => ?_); refine yy64 ?_; refine yy6 ?_; refine yy41 ?_; (refine zc auto_wl (hHs _ auto_heap) ?_; rintro r H' ⟨rfl, rfl⟩); refine yy6 ?_; refine yy58 ?_; refine yy68 ?_; refine aw_cond rfl (fun hc => ?_) (fun hc => ?_); refine aw_region ?_; refine yy64 ?_; refine yy46 ?_; refine yy111 ?_; refine za4 rfl rfl rfl auto_heap auto_al auto_src auto_len auto_len (fun oN hoN => ?_); refine yy81 ?_; refine yy4 ?_; refine yy33 ?_; rotate_left; refine aw_skip ?_; refine yy33 ?_; rotate_left; refine yy45 ?_; refine yy65 ?_; refine yy101 ?_; refine yy33 ?_; rotate_left; exact absurd hc auto_no) | fail)
      all_goals try (exfalso; omega)
      · rw [if_pos ⟨by omega, by simpa using hc⟩] at hgs
        exact ⟨mm - 1, [(0, .ptr F.o 0), (1, .ptr F.os 0), (4, .vw oN 3 0 (acc.length + 1)), (15, .vw F.ow 3 off s.c.wait.length), (16, .raw (.int .i64 (s.c.wait.length : Int))), (17, .raw (.int .i64 ((i + 1 : Nat) : Int)))], H.set oN (.cel (acc.flatMap En.cells ++ e.cells)), by omega, auto_entg, i + 1, _, .inr ⟨oN, by rw [hgs, List.length_append]; rfl, by exact auto_nn, by rw [hgs, List.flatMap_append]; simp⟩, rfl, by omega⟩
      · rw [if_neg (fun x => by rw [x.2] at hc; cases hc)] at hgs
        exact ⟨mm - 1, [(0, .ptr F.o 0), (1, .ptr F.os 0), (4, .vw oL 3 0 acc.length), (15, .vw F.ow 3 off s.c.wait.length), (16, .raw (.int .i64 (s.c.wait.length : Int))), (17, .raw (.int .i64 ((i + 1 : Nat) : Int)))], H.set oL (.cel (acc.flatMap En.cells)), by omega, auto_entg, i + 1, _, .inr ⟨oL, by rw [hgs], hoL, by rw [hgs]⟩, rfl, by omega⟩
      · rw [if_neg (fun x => hc x.1)] at hgs
        exact ⟨mm - 1, [(0, .ptr F.o 0), (1, .ptr F.os 0), (4, .vw oL 3 0 acc.length), (15, .vw F.ow 3 off s.c.wait.length), (16, .raw (.int .i64 (s.c.wait.length : Int))), (17, .raw (.int .i64 ((i + 1 : Nat) : Int)))], H.set oL (.cel (acc.flatMap En.cells)), by omega, auto_entg, i + 1, _, .inr ⟨oL, by rw [hgs], hoL, by rw [hgs]⟩, rfl, by omega⟩
  obtain rfl : i = s.c.wait.length := by omega
  rw [List.take_length] at *
  (first | focus (refine yy9 ?_; refine yy37 ?_; intro hc; rotate_left) | fail)
  all_goals try (exfalso; omega)
  generalize hL : Ag.grown s.c.list s.c.wait = L at *
  refine aw_ent (R' := [(0, .ptr F.o 0), (1, .ptr F.os 0), (4, lsE L)]) (H' := H) ?_ ?_
  · rcases hD with ⟨rfl, rfl, rfl⟩ | ⟨oL, rfl, hoL, rfl⟩
    · exact (Ent.weakReg 4 (y := lsE s.c.list) rfl (W.slsx rfl)).trans (Ent.sub _ (by (repeat' (first | exact RSub.nil _ | apply RSub.cons)); all_goals rfl))
    · exact (Ent.seal_cel1 4 rfl (flat_len (sz := 3) (fun _ => rfl) L) hoL).trans (Ent.sub _ (by (repeat' (first | exact RSub.nil _ | apply RSub.cons)); all_goals rfl))
  clear hD
  (first | focus (refine yy16 ?_; refine yy60 ?_; refine yy75 ?_; refine yy3 ?_; rotate_left) | fail)
  refine aw_own_cell (o := F.o) 10 3 (AHeap.set_self _ _ _) rfl (fun ow how => ?_)
  have how2 : H ow = none := AHeap.none_of_set how
  obtain ⟨a1, a2⟩ := h0.unwait how2
  rw [AHeap.set_set]
  have hf1 : CFine ({ s.c with wait := [] } : Ag.Co) := ⟨hf.me, hf.n, hf.view, hf.last, hf.list, hf.agr, ⟨by simp, by simp⟩, hf.quiet, hf.got, hf.held⟩
  refine aw_ent (R' := [(0, .ptr F.o 0), (1, .ptr F.os 0), (4, lsE L)]) (H' := (H.set F.o (.cel (coreC s.c F.og F.oh (.vw ow 3 0 0)))).set ow (.cel [])) (Ent.sub _ (by (repeat' (first | exact RSub.nil _ | apply RSub.cons)); all_goals rfl)) ?_
  generalize ((H.set F.o (.cel (coreC s.c F.og F.oh (.vw ow 3 0 0)))).set ow (.cel [])) = H1 at *
  have a3 := a2.o
  have a4 := a2.os
  generalize ({ F with ow := ow } : Ob) = F1 at *
  obtain ⟨off1, k1, _⟩ := a1.core
  rw [a3] at k1
  replace k1 : H1 F.o = some (.cel [mI s.c.me, mI s.c.n, uI s.c.view, uI s.c.last, lsE s.c.list, mI s.c.agreed, bB s.c.lead, mI s.c.quiet, .mp F1.og, .mp F1.oh, .vw F1.ow 3 off1 0]) := k1
  clear hco hw hg hh hst hsv hsn hx1 hx2 hg2 hh2 h0 how how2 nd
  by_cases hlt2 : s.c.list.length < L.length
  · have hgrow : s.grow = Ag.St.lay { (Ag.St.take { s with c := { s.c with wait := [] } } s.c.view L) with c := (Ag.St.take { s with c := { s.c with wait := [] } } s.c.view L).c.settle } := by unfold Ag.St.grow; dsimp only; rw [hL, if_pos hlt2]
    have hT := take_calls H1 F1 { s with c := { s.c with wait := [] } } s.c.view L a1 hf1 (by show s.save.length ≤ _; omega) hf.view g1
    rw [a3, a4] at hT
    (first | focus (refine yy13 ?_; refine yy62 ?_; refine yy21 ?_; refine yy54 ?_; refine yy44 ?_; refine yy3 ?_; refine aw_condp rfl (fun hc => ?_) (fun hc => ?_); refine yy51 ?_; refine yy30 ?_; refine yy21 ?_; refine yy56 ?_; (refine zc auto_wl (hT) ?_; rintro r H' ⟨rfl, F2, b1, b2⟩); refine yy3 ?_; rotate_left; exact absurd hc auto_no) | fail)
    have hc2 : (Ag.St.take { s with c := { s.c with wait := [] } } s.c.view L).c = { s.c with wait := [], last := s.c.view, list := L } := Ag.take_c _ _ _
    have hf2 : CFine (Ag.St.take { s with c := { s.c with wait := [] } } s.c.view L).c := by rw [hc2]; exact CFine.take hf1 hf.view g1 (by have := hf.agr; show s.c.agreed ≤ _; omega)
    have hsd : (Ag.St.take { s with c := { s.c with wait := [] } } s.c.view L).send.length ≤ 9000 := by rw [Ag.take_send]; exact hl2
    have b4 := a2.trans b2
    generalize Ag.St.take { s with c := { s.c with wait := [] } } s.c.view L = t at *
    clear hT
    have hS := settle_S _ F2 (t) b1 hf2
    rw [b4.o] at hS
    (first | focus (refine yy16 ?_; (refine zc auto_wl (hS) ?_; rintro r H' ⟨rfl, c1, c2⟩); refine yy3 ?_; rotate_left) | fail)
    have hLy := lay_calls _ F2 _ c1 (CFine.settle hf2) (by show t.send.length ≤ _; omega)
    rw [b4.o, b4.os] at hLy
    have b3 := b4.trans c2
    clear c1 c2 hS
    (first | focus (refine yy51 ?_; refine yy30 ?_; (refine zc auto_wl (hLy) ?_; rintro r H' ⟨rfl, F4, d1, d2⟩); refine yy4 ?_; rotate_left) | fail)
    exact ⟨.inr rfl, _, _, _, Ent.refl _ _, ret0 rfl, rfl, F4, by rw [hgrow]; exact d1, b3.trans d2⟩
  · have hgrow : s.grow = Ag.St.lay { s with c := ({ s.c with wait := [] } : Ag.Co).settle } := by unfold Ag.St.grow; dsimp only; rw [hL, if_neg hlt2]
    (first | focus (refine yy13 ?_; refine yy62 ?_; refine yy21 ?_; refine yy54 ?_; refine yy44 ?_; refine yy3 ?_; refine yy63 ?_; intro hc; rotate_left) | fail)
    have hS := settle_S _ F1 ({ s with c := { s.c with wait := [] } }) a1 hf1
    rw [a2.o] at hS
    (first | focus (refine yy16 ?_; (refine zc auto_wl (hS) ?_; rintro r H' ⟨rfl, c1, c2⟩); refine yy3 ?_; rotate_left) | fail)
    have hLy := lay_calls _ F1 _ c1 (CFine.settle hf1) (by show s.send.length ≤ _; omega)
    rw [a2.o, a2.os] at hLy
    have b3 := a2.trans c2
    clear c1 c2 hS
    (first | focus (refine yy51 ?_; refine yy30 ?_; (refine zc auto_wl (hLy) ?_; rintro r H' ⟨rfl, F4, d1, d2⟩); refine yy4 ?_; rotate_left) | fail)
    exact ⟨.inr rfl, _, _, _, Ent.refl _ _, ret0 rfl, rfl, F4, by rw [hgrow]; exact d1, b3.trans d2⟩
end Go.Proofs.Ytbciofnejefkiaa

namespace Go.Proofs.Ytbciofnejefkiaa
open Go Go.Am Go.Proofs

theorem put_len {k : Int} {v : AV} : ∀ (es : MI), (es.put k v).length = if (es.get k).isSome then es.length else es.length + 1
  | [] => by simp [MI.put, MI.get]
  | (a, u) :: es => by
    have ih := put_len (k := k) (v := v) es
    unfold MI.put MI.get
    by_cases h : a = k
    · rw [if_pos h, if_pos h]; simp
    · rw [if_neg h, if_neg h, List.length_cons, ih, List.length_cons]
      split <;> rfl
theorem count_upd (f : Nat → Option Ag.Vt) (q : Nat) (v : Ag.Vt) : ∀ n, (List.range n).countP (fun r => (Ag.upd f q (some v) r).isSome) = (List.range n).countP (fun r => (f r).isSome) + if q < n ∧ (f q).isNone then 1 else 0
  | 0 => by simp
  | n + 1 => by
    have ih := count_upd f q v n
    rw [List.range_succ, List.countP_append, List.countP_append, ih]
    simp only [List.countP_singleton]
    by_cases e : n = q
    · subst e
      rw [if_neg (by omega)]
      cases h : f n <;> simp [Ag.upd, h]
    · have e2 : Ag.upd f q (some v) n = f n := by unfold Ag.upd; rw [if_neg e]
      rw [e2]
      by_cases hq : q < n
      · cases h : f q <;> simp [h, hq, show q < n + 1 by omega] <;> omega
      · simp [hq, show ¬ q < n + 1 by omega]
theorem GotM.upd {es : MI} {c d : Ag.Co} (h : GotM es c) (q : Nat) (v : Ag.Vt) (hq : q < c.n) (hn : d.n = c.n) (hd : d.got = Ag.upd c.got q (some v)) : GotM (es.put (q : Int) (voteA v)) d := by
  have hget : es.get (q : Int) = (c.got q).map voteA := by rw [h.get, if_pos (by omega), Int.toNat_natCast]
  refine ⟨fun k => ?_, ?_⟩
  · rw [get_put, h.get k, hd]
    unfold Ag.upd
    by_cases e : (q : Int) = k
    · subst e; simp
    · rw [if_neg e]
      by_cases k0 : 0 ≤ k
      · have : ¬ k.toNat = q := fun x => e (by omega)
        simp only [if_pos k0, if_neg this]
      · simp only [if_neg k0]
  · rw [put_len, h.len, hget]
    unfold Ag.Co.size
    rw [hd, hn, count_upd]
    cases hx : c.got q <;> simp [hx, hq]
theorem SAt.regot {H : AHeap} {F : Ob} {s : Ag.St} (h : SAt H F s) {c' : Ag.Co} (es : MI) (hes : GotM es c') (e1 : c' = { s.c with got := c'.got }) : SAt (H.set F.og (es.ao .i64)) F { s with c := c' } ∧ Turn F.l H F F (H.set F.og (es.ao .i64)) := by
  obtain ⟨⟨⟨off, xs, hco, hw, hx1, hx2⟩, ⟨eg, hg, hg2⟩, ⟨eh, hh, hh2⟩⟩, hst, hsv, hsn, nd⟩ := h
  have n0 := nd
  obtain ⟨n1, n2, n3, n4, n5, n6, n7, n8, n9, n10, n11, n12, n13, n14, n15, n16, n17, n18, n19, n20, n21⟩ := nd
  rw [e1] at hes ⊢
  exact ⟨⟨⟨⟨off, xs, auto_heap, auto_heap, hx1, hx2⟩, ⟨es, auto_heap, hes⟩, ⟨eh, auto_heap, ⟨hh2.get, hh2.nd⟩⟩⟩, auto_heap, auto_heap, auto_heap, n0⟩, ⟨rfl, rfl, fun p hp => .inl hp, fun p y hp hF => AHeap.get_skip (fun e => hF (by simp [Ob.l, e])) hp⟩⟩
def bestK (c : Ag.Co) (k : Nat) : Ag.Vt := (List.range k).foldl (Ag.better c) ⟨c.last, c.list⟩
theorem bestK_succ (c : Ag.Co) (k : Nat) : bestK c (k + 1) = Ag.better c (bestK c k) k := by
  unfold bestK; rw [List.range_succ, List.foldl_append]; rfl
theorem bestK_LF {c : Ag.Co} (h : CFine c) : ∀ k, LF (bestK c k).list ∧ (bestK c k).last ≤ Ag.mostView ∧ c.agreed ≤ (bestK c k).list.length
  | 0 => ⟨h.list, h.last, h.agr⟩
  | k + 1 => by
    obtain ⟨h1, h2, h3⟩ := bestK_LF h k
    rw [bestK_succ]
    unfold Ag.better
    cases hg : c.got k with
    | none => exact ⟨h1, h2, h3⟩
    | some x =>
      dsimp only
      split
      · next hx =>
        refine ⟨(h.got k x hg).2.2, (h.got k x hg).2.1, ?_⟩
        have := hx.2
        simp only [Ag.begins, Bool.and_eq_true, decide_eq_true_eq, List.length_take] at this
        have := h.agr
        omega
      · exact ⟨h1, h2, h3⟩
theorem take_save_len (s : Ag.St) (v : Nat) (l : List En) : (s.take v l).save.length ≤ s.save.length + 1 := by
  unfold Ag.St.take Ag.St.put; dsimp only; split
  · split
    · simp
    · simp
  · simp
theorem SAt.leads {H : AHeap} {F : Ob} {s : Ag.St} (h : SAt H F s) : ∃ wv, H F.o = some (.cel (coreC s.c F.og F.oh wv)) ∧ ∀ om, H om = none →
    SAt ((H.set om (MI.ao .i64 [])).set F.o (.cel (coreC { s.c with lead := true } om F.oh wv))) { F with og := om } { s with c := { s.c with lead := true, got := fun _ => none } } ∧
    Turn F.l H F { F with og := om } ((H.set om (MI.ao .i64 [])).set F.o (.cel (coreC { s.c with lead := true } om F.oh wv))) := by
  obtain ⟨⟨⟨off, xs, hco, hw, hx1, hx2⟩, ⟨eg, hg, hg2⟩, ⟨eh, hh, hh2⟩⟩, hst, hsv, hsn, nd⟩ := h
  refine ⟨_, hco, fun om hom => ?_⟩
  obtain ⟨n1, n2, n3, n4, n5, n6, n7, n8, n9, n10, n11, n12, n13, n14, n15, n16, n17, n18, n19, n20, n21⟩ := nd
  have m1 : om ≠ F.o := by exact auto_nq
  refine ⟨⟨⟨⟨off, xs, ?_, ?_, hx1, hx2⟩, ⟨[], ?_, GotM.nil fun _ => rfl⟩, ⟨eh, ?_, ⟨hh2.get, hh2.nd⟩⟩⟩, ?_, ?_, ?_, ?_⟩, ⟨rfl, rfl, fun p hp => ?_, fun p y hp hF => ?_⟩⟩
  · exact auto_heap
  · exact auto_heap
  · exact auto_heap
  · exact auto_heap
  · exact auto_heap
  · exact auto_heap
  · exact auto_heap
  · constructor <;> exact auto_nq
  · simp only [Ob.l, List.mem_cons, List.not_mem_nil, or_false] at hp ⊢
    rcases hp with e | e | e | e | e | e | e
    · exact .inl (.inl e)
    · exact .inr (by rw [e]; exact hom)
    · exact .inl (.inr (.inr (.inl e)))
    · exact .inl (.inr (.inr (.inr (.inl e))))
    · exact .inl (.inr (.inr (.inr (.inr (.inl e)))))
    · exact .inl (.inr (.inr (.inr (.inr (.inr (.inl e))))))
    · exact .inl (.inr (.inr (.inr (.inr (.inr (.inr e))))))
  · (obtain ⟨f1, f2, f3, f4, f5, f6, f7⟩ := Ob.nel hF; exact auto_heap)
theorem count_calls (H : AHeap) (F : Ob) (s : Ag.St) (q : Nat) (v : Ag.Vt) (h : SAt H F s) (hf : CFine s.c) (hl : s.save.length ≤ 8000) (hl2 : s.send.length ≤ 8000) (hq : q < s.c.n) (hv : LF v.list) (hv2 : v.last ≤ Ag.mostView) :
    ACalls Try.prog 53 [.ptr F.o 0, .ptr F.os 0, mI (q : Int), voteA v] H fun r H' => r = .tup [] ∧ ∃ F', SAt H' F' (s.count q v) ∧ Turn F.l H F F' H' := by
  have h0 := h
  obtain ⟨⟨⟨off, xs, hco, hw, hx1, hx2⟩, ⟨eg, hg, hg2⟩, ⟨eh, hh, hh2⟩⟩, hst, hsv, hsn, nd⟩ := h
  have d1 := nd.o_og
  have f1 := hf.n
  have f2 := hf.list.len
  have f3 := hf.agr
  unfold coreC at hco
  refine acalls_of_aw4 Try.func53 rfl (by decide) ?_
  cases hlead : s.c.lead with
  | true =>
    have hcount : s.count q v = s := by unfold Ag.St.count; rw [if_pos hlead]
    rw [hlead] at hco
    rw [hcount]
    (first | focus (refine yy1 ?_; refine zb1 rfl rfl rfl (fun oN hoN => ?_); refine yy3 ?_; refine yy13 ?_; refine yy21 ?_; refine yy3 ?_; refine yy23 ?_; refine aw_ret ?_; refine yy32 ?_; rotate_left) | fail)
    exact ⟨.inl rfl, _, _, _, Ent.gc (H0 := H) auto_sub, ret0 rfl, rfl, F, h0, Turn.refl _ _ _⟩
  | false =>
    rw [hlead] at hco
    have hes := hg2.upd (d := { s.c with got := Ag.upd s.c.got q (some v) }) q v hq rfl rfl
    have hcount : s.count q v = Ag.St.won { s with c := { s.c with got := Ag.upd s.c.got q (some v) } } := by unfold Ag.St.count; rw [if_neg (by rw [hlead]; simp)]
    rw [hcount]
    (first | focus (refine yy1 ?_; refine zb1 rfl rfl rfl (fun oN hoN => ?_); refine yy3 ?_; refine yy13 ?_; refine yy21 ?_; refine yy3 ?_; refine aw_cond_f rfl ?_; refine aw_skip ?_; refine k_seq_normal ?_; refine aw_seq ?_; refine yy104 ?_; refine yy22 ?_; refine yy7 ?_; refine yy148 ?_; refine awt_last ?_; refine awl_mapUpdateI rfl rfl auto_mv auto_heap ?_; refine yy3 ?_; rotate_left) | fail)
    refine aw_ent (R' := [(0, .ptr F.o 0), (1, .ptr F.os 0)]) (H' := H.set F.og ((eg.put (q : Int) (voteA v)).ao .i64)) (Ent.tog (by (repeat' (first | exact RSub.nil _ | apply RSub.cons)); all_goals rfl) auto_sub) ?_
    obtain ⟨a1, a2⟩ := h0.regot (c' := { s.c with got := Ag.upd s.c.got q (some v) }) _ hes rfl
    have hf1 : CFine ({ s.c with got := Ag.upd s.c.got q (some v) } : Ag.Co) := ⟨hf.me, hf.n, hf.view, hf.last, hf.list, hf.agr, hf.wait, hf.quiet, fun p x hx => by
      have hx' : Ag.upd s.c.got q (some v) p = some x := hx
      unfold Ag.upd at hx'
      split at hx'
      · next e => cases hx'; exact ⟨by rw [e]; exact hq, hv2, hv⟩
      · exact hf.got p x hx', hf.held⟩
    have hlead1 : ({ s.c with got := Ag.upd s.c.got q (some v) } : Ag.Co).lead = false := hlead
    have hse : ({ s with c := { s.c with got := Ag.upd s.c.got q (some v) } } : Ag.St).send = s.send := rfl
    have hsv1 : ({ s with c := { s.c with got := Ag.upd s.c.got q (some v) } } : Ag.St).save = s.save := rfl
    clear hco hw hx1 hx2 hg hg2 hh hh2 hst hsv hsn hcount h0 hes hf f1 f2 f3 hlead d1 nd
    generalize H.set F.og ((eg.put (q : Int) (voteA v)).ao .i64) = H1 at *
    generalize hs1 : ({ s with c := { s.c with got := Ag.upd s.c.got q (some v) } } : Ag.St) = s1 at *
    have hc1 : s1.c = { s.c with got := Ag.upd s.c.got q (some v) } := by rw [← hs1]
    rw [← hc1] at hf1 hlead1
    clear hs1 hc1
    have h1 := a1
    obtain ⟨⟨⟨off, xs, hco, hw, hx1, hx2⟩, ⟨es, hg, hg2⟩, ⟨eh, hh, hh2⟩⟩, hst, hsv, hsn, nd⟩ := a1
    have d1 := nd.o_og
    have f1 := hf1.n
    have f2 := hf1.list.len
    have f3 := hf1.agr
    have f4 := hf1.list.ok
    have hme := hg2.get (s1.c.me : Int)
    rw [if_pos (by omega), Int.toNat_natCast] at hme
    have hlen := hg2.len
    have hQ := fun H h => quorum_calls H F.o s1.c F.og F.oh (.vw F.ow 3 off s1.c.wait.length) h f1
    unfold coreC at hco hQ
    rw [hlead1] at hco hQ
    clear hw hx1 hx2 hh hh2 hst hsv hsn nd
    cases hgm : s1.c.got s1.c.me with
    | none =>
      rw [hgm, Option.map_none] at hme
      have hwon : s1.won = s1 := by unfold Ag.St.won; rw [if_pos (.inl (by rw [hgm]; rfl))]
      have v1 : (es.get (s1.c.me : Int)).getD (.raw (.agg #[.int .u64 0, .slice none 0 0])) = .raw (.agg #[.int .u64 0, .slice none 0 0]) := by rw [hme]; rfl
      have v2 : (es.get (s1.c.me : Int)).isSome = false := by rw [hme]; rfl
      rw [hwon]
      (first | focus (refine aw_seq ?_; refine aw_seq ?_; refine DC.aw_drawp (fun H' => H' F.o = some (.cel [mI s1.c.me, mI s1.c.n, uI s1.c.view, uI s1.c.last, lsE s1.c.list, mI s1.c.agreed, bB false, mI s1.c.quiet, .mp F.og, .mp F.oh, .vw F.ow 3 off s1.c.wait.length]) ∧ H' F.og = some (es.ao .i64)) (by first | exact ⟨auto_heap, auto_heap⟩) auto_kr auto_dk auto_dk ?_; refine yy10 ?_; refine yy69 ?_; refine yy38 ?_; refine yy10 ?_; refine yy69 ?_; refine yy38 ?_; (apply DC.awn_s; · (intro H1 hPsi; (try dsimp only at hPsi); (try (obtain ⟨hPsi, hPsi2⟩ := hPsi)); exact s_lookupI2n rfl rfl auto_heap (by assumption))); (apply DC.awn_s; · (intros; exact s_move (v := .tup _) rfl)); (apply DC.awn_s; · (intros; exact s_extract rfl rfl)); (apply DC.awn_s; · (intros; exact s_extract rfl rfl)); refine DC.awn_b ?_; refine DC.awn_b0 ?_; refine yy130 ?_; refine DC.awn_nil ?_; refine DC.awc_cons (fun Rx K1 hK1x => ?_); refine awl_alloc rfl rfl rfl (fun oN hoN => ?_); refine yy4 ?_; (refine hK1x _ _ (by first | exact Or.inl (by decide +kernel) | (refine Or.inr ?_; (try dsimp only); first | exact ⟨auto_heap, auto_heap⟩)) ?_; clear hK1x K1 Rx); refine DC.awc_cons0 (fun Rx K1 hK1x => ?_); refine yy87 ?_; refine yy4 ?_; (refine hK1x _ (by first | exact Or.inl (by decide +kernel) | (refine Or.inr ?_; (try dsimp only); first | exact ⟨auto_heap, auto_heap⟩)) ?_; clear hK1x K1 Rx); refine DC.awc_nil ?_; refine yy31 ?_; refine yy14 ?_; refine yy58 ?_; refine yy2 ?_; refine yy45 ?_; refine yy45 ?_; refine yy68 ?_; refine yy23 ?_; refine aw_ret ?_; refine yy32 ?_; rotate_left) | fail)
      exact ⟨.inl rfl, _, _, _, Ent.gc (H0 := H1) auto_sub, ret0 rfl, rfl, F, h1, a2⟩
    | some vm =>
      rw [hgm, Option.map_some] at hme
      have v1 : (es.get (s1.c.me : Int)).getD (.raw (.agg #[.int .u64 0, .slice none 0 0])) = .agg [uI vm.last, lsE vm.list] := by rw [hme]; rfl
      have v2 : (es.get (s1.c.me : Int)).isSome = true := by rw [hme]; rfl
      by_cases hsz : s1.c.size < s1.c.quorum
      · have hwon : s1.won = s1 := by unfold Ag.St.won; rw [if_pos (.inr hsz)]
        rw [hwon]
        (first | focus (refine aw_seq ?_; refine aw_seq ?_; refine DC.aw_drawp (fun H' => H' F.o = some (.cel [mI s1.c.me, mI s1.c.n, uI s1.c.view, uI s1.c.last, lsE s1.c.list, mI s1.c.agreed, bB false, mI s1.c.quiet, .mp F.og, .mp F.oh, .vw F.ow 3 off s1.c.wait.length]) ∧ H' F.og = some (es.ao .i64)) (by first | exact ⟨auto_heap, auto_heap⟩) auto_kr auto_dk auto_dk ?_; refine yy10 ?_; refine yy69 ?_; refine yy38 ?_; refine yy10 ?_; refine yy69 ?_; refine yy38 ?_; (apply DC.awn_s; · (intro H1 hPsi; (try dsimp only at hPsi); (try (obtain ⟨hPsi, hPsi2⟩ := hPsi)); exact s_lookupI2 rfl rfl auto_heap (by first | assumption | rfl) (by first | assumption | rfl))); (apply DC.awn_s; · (intros; exact s_move (v := .tup _) rfl)); (apply DC.awn_s; · (intros; exact s_extract rfl rfl)); (apply DC.awn_s; · (intros; exact s_extract rfl rfl)); refine DC.awn_b ?_; refine DC.awn_b0 ?_; refine yy130 ?_; refine DC.awn_nil ?_; refine DC.awc_cons (fun Rx K1 hK1x => ?_); refine awl_alloc rfl rfl rfl (fun oN hoN => ?_); refine yy4 ?_; (refine hK1x _ _ (by first | exact Or.inl (by decide +kernel) | (refine Or.inr ?_; (try dsimp only); first | exact ⟨auto_heap, auto_heap⟩)) ?_; clear hK1x K1 Rx); refine DC.awc_cons0 (fun Rx K1 hK1x => ?_); refine yy87 ?_; refine yy4 ?_; (refine hK1x _ (by first | exact Or.inl (by decide +kernel) | (refine Or.inr ?_; (try dsimp only); first | exact ⟨auto_heap, auto_heap⟩)) ?_; clear hK1x K1 Rx); refine DC.awc_nil ?_; refine yy31 ?_; refine yy14 ?_; refine yy58 ?_; refine yy26 ?_; refine yy49 ?_; refine yy103 ?_; refine yy41 ?_; refine awl_s rfl (s_len_mpI rfl auto_heap) ?_; refine yy6 ?_; refine yy49 ?_; (refine zc auto_wl (hQ _ auto_heap) ?_; rintro r H' ⟨rfl, rfl⟩); refine yy6 ?_; refine awl_s rfl (s_ltn rfl rfl) ?_; refine yy65 ?_; refine aw_condp rfl (fun hc => ?_) (fun hc => ?_); refine aw_ret ?_; refine yy32 ?_; rotate_left; exact absurd hc auto_no) | fail)
        all_goals try (exfalso; omega)
        exact ⟨.inl rfl, _, _, _, Ent.gc (H0 := H1) auto_sub, ret0 rfl, rfl, F, h1, a2⟩
      · (first | focus (refine aw_seq ?_; refine aw_seq ?_; refine DC.aw_drawp (fun H' => H' F.o = some (.cel [mI s1.c.me, mI s1.c.n, uI s1.c.view, uI s1.c.last, lsE s1.c.list, mI s1.c.agreed, bB false, mI s1.c.quiet, .mp F.og, .mp F.oh, .vw F.ow 3 off s1.c.wait.length]) ∧ H' F.og = some (es.ao .i64)) (by first | exact ⟨auto_heap, auto_heap⟩) auto_kr auto_dk auto_dk ?_; refine yy10 ?_; refine yy69 ?_; refine yy38 ?_; refine yy10 ?_; refine yy69 ?_; refine yy38 ?_; (apply DC.awn_s; · (intro H1 hPsi; (try dsimp only at hPsi); (try (obtain ⟨hPsi, hPsi2⟩ := hPsi)); exact s_lookupI2 rfl rfl auto_heap (by first | assumption | rfl) (by first | assumption | rfl))); (apply DC.awn_s; · (intros; exact s_move (v := .tup _) rfl)); (apply DC.awn_s; · (intros; exact s_extract rfl rfl)); (apply DC.awn_s; · (intros; exact s_extract rfl rfl)); refine DC.awn_b ?_; refine DC.awn_b0 ?_; refine yy130 ?_; refine DC.awn_nil ?_; refine DC.awc_cons (fun Rx K1 hK1x => ?_); refine awl_alloc rfl rfl rfl (fun oN hoN => ?_); refine yy4 ?_; (refine hK1x _ _ (by first | exact Or.inl (by decide +kernel) | (refine Or.inr ?_; (try dsimp only); first | exact ⟨auto_heap, auto_heap⟩)) ?_; clear hK1x K1 Rx); refine DC.awc_cons0 (fun Rx K1 hK1x => ?_); refine yy87 ?_; refine yy4 ?_; (refine hK1x _ (by first | exact Or.inl (by decide +kernel) | (refine Or.inr ?_; (try dsimp only); first | exact ⟨auto_heap, auto_heap⟩)) ?_; clear hK1x K1 Rx); refine DC.awc_nil ?_; refine yy31 ?_; refine yy14 ?_; refine yy58 ?_; refine yy26 ?_; refine yy49 ?_; refine yy103 ?_; refine yy41 ?_; refine awl_s rfl (s_len_mpI rfl auto_heap) ?_; refine yy6 ?_; refine yy49 ?_; (refine zc auto_wl (hQ _ auto_heap) ?_; rintro r H' ⟨rfl, rfl⟩); refine yy6 ?_; refine awl_s rfl (s_ltn rfl rfl) ?_; refine yy65 ?_; refine yy48 ?_; intro hc; refine aw_skip ?_; refine k_seq_normal ?_; refine aw_seq ?_; refine DC.aw_drawp (fun H' => H' F.o = some (.cel [mI s1.c.me, mI s1.c.n, uI s1.c.view, uI s1.c.last, lsE s1.c.list, mI s1.c.agreed, bB false, mI s1.c.quiet, .mp F.og, .mp F.oh, .vw F.ow 3 off s1.c.wait.length]) ∧ H' F.og = some (es.ao .i64)) (by first | exact ⟨auto_heap, auto_heap⟩) auto_kr auto_dk auto_dk ?_; refine yy10 ?_; refine yy69 ?_; refine yy38 ?_; refine yy10 ?_; refine yy69 ?_; refine yy38 ?_; refine yy152 ?_; refine DC.awn_b ?_; refine DC.awn_b0 ?_; refine DC.awn_nil ?_; refine DC.awc_cons (fun Rx K1 hK1x => ?_); refine awl_alloc rfl rfl rfl (fun oN hoN => ?_); refine yy4 ?_; (refine hK1x _ _ (by first | exact Or.inl (by decide +kernel) | (refine Or.inr ?_; (try dsimp only); first | exact ⟨auto_heap, auto_heap⟩)) ?_; clear hK1x K1 Rx); refine DC.awc_cons0 (fun Rx K1 hK1x => ?_); refine yy87 ?_; refine yy4 ?_; (refine hK1x _ (by first | exact Or.inl (by decide +kernel) | (refine Or.inr ?_; (try dsimp only); first | exact ⟨auto_heap, auto_heap⟩)) ?_; clear hK1x K1 Rx); refine DC.awc_nil ?_; refine yy31 ?_; rotate_left) | fail)
        all_goals try (exfalso; omega)
        have hoB : H1 oN = none := by exact auto_nn
        have hb0 : [uI (bestK s1.c 0).last, lsE (bestK s1.c 0).list] = [uI s1.c.last, lsE s1.c.list] := rfl
        refine aw_ent (R' := [(0, .ptr F.o 0), (1, .ptr F.os 0), (10, .ptr oN 0)]) (H' := H1.set oN (.cel [uI s1.c.last, lsE s1.c.list])) (Ent.tog (by (repeat' (first | exact RSub.nil _ | apply RSub.cons)); all_goals rfl) auto_sub) ?_
        rw [← hb0]
        clear hoN hb0
        generalize oN = oB at *
        (first | focus (refine yy13 ?_; refine yy21 ?_; refine yy67 ?_; rotate_left) | fail)
        refine aw_loop (fun mm R' H2 => ∃ (i : Nat), H2 = H1.set oB (.cel [uI (bestK s1.c i).last, lsE (bestK s1.c i).list]) ∧ R' = [(0, .ptr F.o 0), (1, .ptr F.os 0), (10, .ptr oB 0), (61, mI (s1.c.n : Int)), (62, .raw (.int .i64 (i : Int)))] ∧ i + mm = s1.c.n) ?_ ?_
        · exact ⟨s1.c.n, _, _, auto_ent, 0, rfl, rfl, by omega⟩
        rintro mm R0 H2 ⟨i, rfl, rfl, hi⟩
        obtain ⟨b1, b2, b5⟩ := bestK_LF hf1 i
        have b3 := b1.len
        have b4 := b1.ok
        have hsuc := bestK_succ s1.c i
        generalize hbe : bestK s1.c i = b at *
        have hbH := Hdq.mk hbe
        clear hbe
        clear v1 v2 hQ
        by_cases hlt : i < s1.c.n
        · have hgi := hg2.get (i : Int)
          rw [if_pos (by omega), Int.toNat_natCast] at hgi
          cases hgq : s1.c.got i with
          | none =>
            rw [hgq, Option.map_none] at hgi
            have hb : Ag.better s1.c b i = b := by unfold Ag.better; rw [hgq]
            rw [hb] at hsuc
            (first | focus (refine yy9 ?_; refine aw_condp rfl (fun hc => ?_) (fun hc => ?_); refine yy20 ?_; refine yy14 ?_; refine yy5 ?_; refine yy52 ?_; refine yy2 ?_; refine awl_s rfl (s_lookupI2n rfl rfl auto_heap (by assumption)) ?_; refine yy88 ?_; refine awl_alloc rfl rfl rfl (fun oN hoN => ?_); refine yy87 ?_; refine yy5 ?_; refine yy1 ?_; refine yy77 ?_; refine yy114 ?_; refine yy77 ?_; refine yy114 ?_; refine yy44 ?_; refine yy2 ?_; refine zg2 rfl rfl rfl (fun hc => ?_) (fun hc => ?_); exact absurd hc auto_no; refine yy41 ?_; refine yy41 ?_; refine yy57 ?_; refine yy6 ?_; refine yy2 ?_; refine zg1 rfl rfl rfl (fun hc => ?_) (fun hc => ?_); refine yy41 ?_; refine awl_s rfl (s_len_nil rfl) ?_; refine yy6 ?_; refine yy41 ?_; refine yy54 ?_; refine yy6 ?_; refine yy44 ?_; refine yy6 ?_; refine yy55 ?_; refine yy27 ?_; refine yy5 ?_; refine yy19 ?_; refine yy7 ?_; refine yy7 ?_; refine zt4 rfl rfl ?_; refine yy79 ?_; refine yy18 ?_; refine yy18 ?_; refine yy18 ?_; refine yy70 ?_; refine yy12 ?_; refine yy101 ?_; refine yy33 ?_; rotate_left; refine yy45 ?_; refine yy76 ?_; refine yy6 ?_; refine yy27 ?_; refine yy27 ?_; refine yy5 ?_; refine yy19 ?_; refine yy7 ?_; refine yy7 ?_; refine zt4 rfl rfl ?_; refine yy79 ?_; refine yy18 ?_; refine yy18 ?_; refine yy18 ?_; refine yy70 ?_; refine yy12 ?_; refine yy101 ?_; refine yy33 ?_; rotate_left; exact absurd hc auto_no) | fail)
            all_goals try (exfalso; omega)
            all_goals exact ⟨mm - 1, [(0, .ptr F.o 0), (1, .ptr F.os 0), (10, .ptr oB 0), (61, mI (s1.c.n : Int)), (62, .raw (.int .i64 ((i + 1 : Nat) : Int)))], H1.set oB (.cel [uI b.last, lsE b.list]), by omega, auto_entg, i + 1, by rw [hsuc], rfl, by omega⟩
          | some x =>
            rw [hgq, Option.map_some] at hgi
            obtain ⟨x1, x2, x3⟩ := hf1.got i x hgq
            have x4 := x3.len
            have x5 := x3.ok
            have v1 : (es.get (i : Int)).getD (.raw (.agg #[.int .u64 0, .slice none 0 0])) = .agg [uI x.last, lsE x.list] := by rw [hgi]; rfl
            have v2 : (es.get (i : Int)).isSome = true := by rw [hgi]; rfl
            have hB : ∀ H, ACalls Try.prog 62 [lsE x.list, .sls (s1.c.agreed - 0) (List.take ((s1.c.agreed - 0) * 3) (List.drop (0 * 3) (s1.c.list.flatMap En.cells)))] H fun r H' => r = bB (Ag.begins x.list (s1.c.list.take s1.c.agreed)) ∧ H' = H := fun H => by
              have h1 := begins_calls H x.list (s1.c.list.take s1.c.agreed) (by omega) (by rw [List.length_take]; omega) (fun e he => by have := (x5 e he).2; omega) (fun e he => by have := (f4 e (List.mem_of_mem_take he)).2; omega)
              have e2 : (s1.c.list.take s1.c.agreed).length = s1.c.agreed := by rw [List.length_take]; omega
              unfold lsE at h1
              rw [e2, ← flat_take _ _ f3] at h1
              rw [Nat.sub_zero, Nat.zero_mul, List.drop_zero]; exact h1
            have hbet : Ag.better s1.c b i = if (b.last < x.last ∨ x.last = b.last ∧ b.list.length < x.list.length) ∧ Ag.begins x.list (s1.c.list.take s1.c.agreed) = true then x else b := by unfold Ag.better; rw [hgq]
            cases hbg : Ag.begins x.list (s1.c.list.take s1.c.agreed) with
            | false =>
              rw [hbg] at hB hbet
              rw [if_neg (fun h => by cases h.2)] at hbet
              rw [hbet] at hsuc
              (first | focus (refine yy9 ?_; refine aw_condp rfl (fun hc => ?_) (fun hc => ?_); refine yy20 ?_; refine yy14 ?_; refine yy5 ?_; refine yy52 ?_; refine yy2 ?_; refine yy141 ?_; refine yy88 ?_; refine awl_alloc rfl rfl rfl (fun oN hoN => ?_); refine yy87 ?_; refine yy5 ?_; refine yy1 ?_; refine yy77 ?_; refine yy114 ?_; refine yy77 ?_; refine yy114 ?_; refine yy44 ?_; refine yy2 ?_; refine zg2 rfl rfl rfl (fun hc => ?_) (fun hc => ?_); refine yy45 ?_; refine yy61 ?_; refine zg5 rfl rfl rfl ?_; refine zg5 rfl rfl rfl ?_; refine zg5 rfl rfl rfl ?_; refine zg5 rfl rfl rfl ?_; refine zg5 rfl rfl rfl ?_; refine zg5 rfl rfl rfl ?_; refine zg5 rfl rfl rfl ?_; refine yy61 ?_; refine yy55 ?_; refine yy5 ?_; refine yy19 ?_; refine yy7 ?_; refine yy42 ?_; refine yy7 ?_; refine yy28 ?_; refine yy7 ?_; refine zt3 rfl rfl rfl ?_; (apply awt_s; · exact s_fieldAddr_ptr rfl); refine zt3 rfl rfl rfl ?_; (apply awt_s; · exact s_load_cel rfl auto_heap rfl); refine zt3 rfl rfl rfl ?_; refine yy29 ?_; refine yy29 ?_; refine yy125 ?_; refine yy25 ?_; (apply awt_s; · exact s_callc auto_wl (hB _)); refine yy28 ?_; refine yy12 ?_; refine yy101 ?_; refine yy33 ?_; rotate_left; refine yy41 ?_; refine yy41 ?_; refine yy57 ?_; refine yy6 ?_; refine yy2 ?_; refine zg1 rfl rfl rfl (fun hc => ?_) (fun hc => ?_); refine yy41 ?_; refine yy54 ?_; refine yy6 ?_; refine yy41 ?_; refine yy54 ?_; refine yy6 ?_; refine yy44 ?_; refine yy6 ?_; refine yy55 ?_; refine yy27 ?_; refine yy5 ?_; refine yy19 ?_; refine yy7 ?_; refine yy42 ?_; refine yy7 ?_; refine yy28 ?_; refine yy7 ?_; refine zt1 rfl rfl rfl (fun hc => ?_) (fun hc => ?_); refine yy129 ?_; refine yy29 ?_; refine yy29 ?_; refine yy125 ?_; refine yy25 ?_; (apply awt_s; · exact s_callc auto_wl (hB _)); refine yy28 ?_; refine yy12 ?_; refine yy101 ?_; refine yy33 ?_; rotate_left; refine yy18 ?_; refine yy18 ?_; refine yy98 ?_; refine zt4 rfl rfl ?_; refine yy70 ?_; refine yy12 ?_; refine yy101 ?_; refine yy33 ?_; rotate_left; refine yy45 ?_; refine yy76 ?_; refine yy6 ?_; refine yy27 ?_; refine yy27 ?_; refine yy5 ?_; refine yy19 ?_; refine yy7 ?_; refine yy42 ?_; refine yy7 ?_; refine yy28 ?_; refine yy7 ?_; refine yy18 ?_; refine yy18 ?_; refine yy18 ?_; refine yy70 ?_; refine yy12 ?_; refine yy101 ?_; refine yy33 ?_; rotate_left; exact absurd hc auto_no) | fail)
              all_goals try (exfalso; omega)
              all_goals exact ⟨mm - 1, [(0, .ptr F.o 0), (1, .ptr F.os 0), (10, .ptr oB 0), (61, mI (s1.c.n : Int)), (62, .raw (.int .i64 ((i + 1 : Nat) : Int)))], H1.set oB (.cel [uI b.last, lsE b.list]), by omega, auto_entg, i + 1, by rw [hsuc], rfl, by omega⟩
            | true =>
              rw [hbg] at hB hbet
              by_cases hlat : b.last < x.last ∨ x.last = b.last ∧ b.list.length < x.list.length
              · rw [if_pos ⟨hlat, rfl⟩] at hbet
                rw [hbet] at hsuc
                (first | focus (refine yy9 ?_; refine aw_condp rfl (fun hc => ?_) (fun hc => ?_); refine yy20 ?_; refine yy14 ?_; refine yy5 ?_; refine yy52 ?_; refine yy2 ?_; refine yy141 ?_; refine yy88 ?_; refine awl_alloc rfl rfl rfl (fun oN hoN => ?_); refine yy87 ?_; refine yy5 ?_; refine yy1 ?_; refine yy77 ?_; refine yy114 ?_; refine yy77 ?_; refine yy114 ?_; refine yy44 ?_; refine yy2 ?_; refine zg2 rfl rfl rfl (fun hc => ?_) (fun hc => ?_); refine yy45 ?_; refine yy61 ?_; refine zg5 rfl rfl rfl ?_; refine zg5 rfl rfl rfl ?_; refine zg5 rfl rfl rfl ?_; refine zg5 rfl rfl rfl ?_; refine zg5 rfl rfl rfl ?_; refine zg5 rfl rfl rfl ?_; refine zg5 rfl rfl rfl ?_; refine yy61 ?_; refine yy55 ?_; refine yy5 ?_; refine yy19 ?_; refine yy7 ?_; refine yy42 ?_; refine yy7 ?_; refine yy28 ?_; refine yy7 ?_; refine zt3 rfl rfl rfl ?_; (apply awt_s; · exact s_fieldAddr_ptr rfl); refine zt3 rfl rfl rfl ?_; (apply awt_s; · exact s_load_cel rfl auto_heap rfl); refine zt3 rfl rfl rfl ?_; refine yy29 ?_; refine yy29 ?_; refine yy125 ?_; refine yy25 ?_; (apply awt_s; · exact s_callc auto_wl (hB _)); refine yy28 ?_; refine yy12 ?_; refine yy23 ?_; refine aw_region ?_; refine yy46 ?_; refine yy71 ?_; refine yy33 ?_; rotate_left; refine yy41 ?_; refine yy41 ?_; refine yy57 ?_; refine yy6 ?_; refine yy2 ?_; refine zg1 rfl rfl rfl (fun hc => ?_) (fun hc => ?_); refine yy41 ?_; refine yy54 ?_; refine yy6 ?_; refine yy41 ?_; refine yy54 ?_; refine yy6 ?_; refine yy44 ?_; refine yy6 ?_; refine yy55 ?_; refine yy27 ?_; refine yy5 ?_; refine yy19 ?_; refine yy7 ?_; refine yy42 ?_; refine yy7 ?_; refine yy28 ?_; refine yy7 ?_; refine zt1 rfl rfl rfl (fun hc => ?_) (fun hc => ?_); refine yy129 ?_; refine yy29 ?_; refine yy29 ?_; refine yy125 ?_; refine yy25 ?_; (apply awt_s; · exact s_callc auto_wl (hB _)); refine yy28 ?_; refine yy12 ?_; refine yy23 ?_; refine aw_region ?_; refine yy46 ?_; refine yy71 ?_; refine yy33 ?_; rotate_left; exact absurd hc auto_no; exact absurd hc auto_no; exact absurd hc auto_no) | fail)
                all_goals try (exfalso; omega)
                all_goals exact ⟨mm - 1, [(0, .ptr F.o 0), (1, .ptr F.os 0), (10, .ptr oB 0), (61, mI (s1.c.n : Int)), (62, .raw (.int .i64 ((i + 1 : Nat) : Int)))], H1.set oB (.cel [uI x.last, lsE x.list]), by omega, auto_entg, i + 1, by rw [hsuc], rfl, by omega⟩
              · rw [if_neg (fun h => hlat h.1)] at hbet
                rw [hbet] at hsuc
                (first | focus (refine yy9 ?_; refine aw_condp rfl (fun hc => ?_) (fun hc => ?_); refine yy20 ?_; refine yy14 ?_; refine yy5 ?_; refine yy52 ?_; refine yy2 ?_; refine yy141 ?_; refine yy88 ?_; refine awl_alloc rfl rfl rfl (fun oN hoN => ?_); refine yy87 ?_; refine yy5 ?_; refine yy1 ?_; refine yy77 ?_; refine yy114 ?_; refine yy77 ?_; refine yy114 ?_; refine yy44 ?_; refine yy2 ?_; refine zg2 rfl rfl rfl (fun hc => ?_) (fun hc => ?_); exact absurd hc auto_no; refine yy41 ?_; refine yy41 ?_; refine yy57 ?_; refine yy6 ?_; refine yy2 ?_; refine zg1 rfl rfl rfl (fun hc => ?_) (fun hc => ?_); refine yy41 ?_; refine yy54 ?_; refine yy6 ?_; refine yy41 ?_; refine yy54 ?_; refine yy6 ?_; refine yy44 ?_; refine yy6 ?_; refine yy55 ?_; refine yy27 ?_; refine yy5 ?_; refine yy19 ?_; refine yy7 ?_; refine yy42 ?_; refine yy7 ?_; refine yy28 ?_; refine yy7 ?_; refine zt1 rfl rfl rfl (fun hc => ?_) (fun hc => ?_); exact absurd hc auto_no; refine yy18 ?_; refine yy18 ?_; refine yy98 ?_; refine zt4 rfl rfl ?_; refine yy70 ?_; refine yy12 ?_; refine yy101 ?_; refine yy33 ?_; rotate_left; refine yy45 ?_; refine yy76 ?_; refine yy6 ?_; refine yy27 ?_; refine yy27 ?_; refine yy5 ?_; refine yy19 ?_; refine yy7 ?_; refine yy42 ?_; refine yy7 ?_; refine yy28 ?_; refine yy7 ?_; refine yy18 ?_; refine yy18 ?_; refine yy18 ?_; refine yy70 ?_; refine yy12 ?_; refine yy101 ?_; refine yy33 ?_; rotate_left; exact absurd hc auto_no) | fail)
                all_goals try (exfalso; omega)
                all_goals exact ⟨mm - 1, [(0, .ptr F.o 0), (1, .ptr F.os 0), (10, .ptr oB 0), (61, mI (s1.c.n : Int)), (62, .raw (.int .i64 ((i + 1 : Nat) : Int)))], H1.set oB (.cel [uI b.last, lsE b.list]), by omega, auto_entg, i + 1, by rw [hsuc], rfl, by omega⟩
        obtain rfl : i = s1.c.n := by omega
        have hcp := fun H => (copies_own H b.list (by omega) fun e he => by have := (b4 e he).2; omega).seal_cel (flat_len (sz := 3) (fun _ => rfl) b.list)
        have hwon : s1.won = Ag.St.grow { (s1.take s1.c.view b.list) with c := { (s1.take s1.c.view b.list).c with lead := true, got := fun _ => none } } := by
          have : s1.c.best = b := hbH.out
          unfold Ag.St.won
          rw [if_neg (by rw [hgm, not_or]; exact ⟨by simp, hsz⟩), this]
        have hT := take_calls _ F s1 s1.c.view b.list (h1.set (x := .cel [uI b.last, lsE b.list]) (h1.notin hoB)) hf1 (by rw [hsv1]; omega) hf1.view b1
        have t1 := a2.set1 (x := .cel [uI b.last, lsE b.list]) hoB
        (first | focus (refine yy9 ?_; refine yy37 ?_; intro hc; refine yy19 ?_; refine yy80 ?_; refine yy80 ?_; refine yy22 ?_; refine yy151 ?_; (apply awt_s; · exact s_callc auto_wl (hcp _)); refine awt_last ?_; (refine zc auto_wl (hT) ?_; rintro r H' ⟨rfl, F2, u1, u2⟩); refine yy3 ?_; rotate_left) | fail)
        all_goals try (exfalso; omega)
        have hct : (s1.take s1.c.view b.list).c = { s1.c with last := s1.c.view, list := b.list } := Ag.take_c _ _ _
        have hsd : (s1.take s1.c.view b.list).send.length ≤ 8000 := by rw [Ag.take_send, hse]; exact hl2
        have hsv2 : (s1.take s1.c.view b.list).save.length ≤ 8001 := Nat.le_trans (take_save_len s1 _ _) (by rw [hsv1]; omega)
        have hf2 : CFine (s1.take s1.c.view b.list).c := by rw [hct]; exact CFine.take hf1 hf1.view b1 b5
        have t2 := t1.trans u2
        rw [hwon]
        generalize s1.take s1.c.view b.list = t at *
        obtain ⟨wv, k1, k2⟩ := u1.leads
        rw [t2.o] at k1 k2
        rw [t2.os] at k2
        unfold coreC at k1
        clear hT
        (first | focus (refine yy16 ?_; refine yy30 ?_; refine awl_makeMapI rfl (fun oN hoN => ?_); refine yy60 ?_; refine yy75 ?_; refine yy60 ?_; refine yy83 ?_; refine yy3 ?_; rotate_left) | fail)
        obtain ⟨w1, w2⟩ := k2 oN hoN
        refine aw_ent (R' := [(0, .ptr F.o 0), (1, .ptr F.os 0)]) (H' := (H'.set oN (MI.ao .i64 [])).set F.o (.cel (coreC { t.c with lead := true } oN F2.oh wv))) (Ent.sub _ (by (repeat' (first | exact RSub.nil _ | apply RSub.cons)); all_goals rfl)) ?_
        have hG := grow_calls _ _ _ w1 (⟨hf2.me, hf2.n, hf2.view, hf2.last, hf2.list, hf2.agr, hf2.wait, hf2.quiet, fun q x hx => (by cases hx), hf2.held⟩ : CFine ({ t.c with lead := true, got := fun _ => none } : Ag.Co)) (by show t.save.length ≤ _; omega) (by show t.send.length ≤ _; omega)
        clear w1 k2
        (first | focus (refine yy51 ?_; refine yy30 ?_; (refine zc auto_wl (hG) ?_; rintro r H' ⟨rfl, F4, z1, z2⟩); refine yy4 ?_; rotate_left) | fail)
        exact ⟨.inr rfl, _, _, _, Ent.refl _ _, ret0 rfl, rfl, F4, z1, (t2.trans w2).trans z2⟩
end Go.Proofs.Ytbciofnejefkiaa

namespace Go.Proofs.Ytbciofnejefkiaa
open Go Go.Am Go.Proofs

theorem vote_calls (H : AHeap) (F : Ob) (s : Ag.St) (h : SAt H F s) (hf : CFine s.c) (hl : s.save.length ≤ 8000) (hl2 : s.send.length ≤ 8000) :
    ACalls Try.prog 44 [.ptr F.o 0, .ptr F.os 0] H fun r H' => r = .tup [] ∧ ∃ F', SAt H' F' s.vote ∧ Turn F.l H F F' H' := by
  have h0 := h
  obtain ⟨⟨⟨off, xs, hco, hw, hx1, hx2⟩, ⟨eg, hg, hg2⟩, ⟨eh, hh, hh2⟩⟩, hst, hsv, hsn, nd⟩ := h
  have f1 := hf.n
  have f2 := hf.list.len
  have f3 := hf.me
  have f4 := hf.view
  have hm := Nat.mod_lt s.c.view (show 0 < s.c.n by omega)
  unfold Ag.mostView at f4
  have hld := fun H h => leader_calls H F.o s.c F.og F.oh (.vw F.ow 3 off s.c.wait.length) s.c.view h (by omega) f1 (by omega)
  have hcp := fun H => (copies_own H s.c.list (by omega) fun e he => by have := (hf.list.ok e he).2; omega).seal_cel (flat_len (sz := 3) (fun _ => rfl) s.c.list)
  unfold coreC at hco hld
  clear hw hg hh hst hsv hsn hx1 hx2 hg2 hh2 nd
  refine acalls_of_aw2 Try.func44 rfl (by decide) ?_
  by_cases e : s.c.view % s.c.n = s.c.me
  · have hv : s.vote = s.count s.c.me ⟨s.c.last, s.c.list⟩ := by unfold Ag.St.vote; dsimp only; rw [if_pos e]
    have hC := count_calls H F s s.c.me ⟨s.c.last, s.c.list⟩ h0 hf hl hl2 f3 hf.list hf.last
    unfold voteA at hC
    rw [hv]
    generalize s.c.view % s.c.n = to at *
    (first | focus (refine yy16 ?_; refine yy21 ?_; (refine zc auto_wl (hld _ auto_heap) ?_; rintro r H' ⟨rfl, rfl⟩); refine yy5 ?_; refine yy11 ?_; refine yy21 ?_; refine yy57 ?_; refine yy3 ?_; refine aw_condp rfl (fun hc => ?_) (fun hc => ?_); refine yy19 ?_; refine yy80 ?_; refine yy80 ?_; refine yy22 ?_; refine yy22 ?_; refine yy22 ?_; refine yy143 ?_; refine awt_last ?_; (refine zc auto_wl (hC) ?_; rintro r H' ⟨rfl, F2, b1, b2⟩); refine yy35 ?_; refine yy32 ?_; rotate_left; exact absurd hc auto_no) | fail)
    all_goals try (exfalso; omega)
    exact ⟨.inl rfl, _, _, _, Ent.refl _ _, ret0 rfl, rfl, F2, b1, b2⟩
  · have hv : s.vote = s.out { Ag.msg0 3 ((s.c.view % s.c.n : Nat) : Int) with last := s.c.last, ents := s.c.list } := by unfold Ag.St.vote; dsimp only; rw [if_neg e]
    rw [hv]
    generalize s.c.view % s.c.n = to at *
    have hS : ACalls Try.prog 40 [.ptr F.o 0, .ptr F.os 0, .agg [mI 3, mI 0, mI (to : Int), uI 0, uI s.c.last, uI 0, uI 0, lsE s.c.list, .raw (.slice none 0 0)]] H fun r H' => r = .tup [] ∧ ∃ F2, SAt H' F2 (s.out { Ag.msg0 3 (to : Int) with last := s.c.last, ents := s.c.list }) ∧ Turn F.l H F F2 H' := by
      refine (send_calls H F s { Ag.msg0 3 (to : Int) with last := s.c.last, ents := s.c.list } h0 hf (by omega)).weak (WL.cons (W.of rfl) (WL.cons (W.of rfl) (WL.cons ?_ WL.nil)))
      exact w_agg (WL.cons (W.of rfl) (WL.cons (W.of rfl) (WL.cons (W.of rfl) (WL.cons (W.of rfl) (WL.cons (W.of rfl) (WL.cons (W.of rfl) (WL.cons (W.of rfl) (WL.cons (W.of rfl) (WL.cons (W.nilb rfl) WL.nil)))))))))
    (first | focus (refine yy16 ?_; refine yy21 ?_; (refine zc auto_wl (hld _ auto_heap) ?_; rintro r H' ⟨rfl, rfl⟩); refine yy5 ?_; refine yy11 ?_; refine yy21 ?_; refine yy57 ?_; refine yy3 ?_; refine yy63 ?_; intro hc; refine yy104 ?_; refine yy80 ?_; refine yy80 ?_; refine yy7 ?_; refine yy22 ?_; refine yy22 ?_; (apply awt_s; · exact s_callc auto_wl (hcp _)); refine yy143 ?_; refine awt_last ?_; (refine zc auto_wl (hS) ?_; rintro r H' ⟨rfl, F2, b1, b2⟩); refine yy4 ?_; rotate_left) | fail)
    all_goals try (exfalso; omega)
    exact ⟨.inr rfl, _, _, _, Ent.refl _ _, ret0 rfl, rfl, F2, b1, b2⟩
theorem promise_small (s : Ag.St) (v : Nat) : (s.promise v).c = ({ s.c with view := v } : Ag.Co).follow ∧ (s.promise v).send = s.send ∧ (s.promise v).save.length = s.save.length + 1 := by
  unfold Ag.St.promise Ag.St.put
  exact ⟨rfl, rfl, by simp⟩
theorem begin_calls (H : AHeap) (F : Ob) (s : Ag.St) (h : SAt H F s) (hf : CFine s.c) (hl : s.save.length ≤ 7000) (hl2 : s.send.length ≤ 7000) :
    ACalls Try.prog 35 [.ptr F.o 0, .ptr F.os 0] H fun r H' => r = .tup [] ∧ ∃ F', SAt H' F' s.begin ∧ Turn F.l H F F' H' := by
  have h0 := h
  obtain ⟨⟨⟨off, xs, hco, hw, hx1, hx2⟩, ⟨eg, hg, hg2⟩, ⟨eh, hh, hh2⟩⟩, hst, hsv, hsn, nd⟩ := h
  have f1 := hf.n
  have f4 := hf.view
  unfold coreC at hco
  clear hw hg hh hst hsv hsn hx1 hx2 hg2 hh2 nd
  refine acalls_of_aw2 Try.func35 rfl (by decide) ?_
  by_cases e : s.c.view < Ag.mostView
  · have hv : s.begin = ((s.promise (s.c.view + 1)).tell (Ag.msg0 2 0)).vote := by unfold Ag.St.begin; rw [if_pos e]
    rw [hv]
    obtain ⟨p1, p2, p3⟩ := promise_small s (s.c.view + 1)
    have hP := promise_calls H F s (s.c.view + 1) h0 hf (by omega) (by omega)
    have hf1 : CFine (s.promise (s.c.view + 1)).c := by rw [p1]; exact hf.promise (by unfold Ag.mostView at e; omega)
    unfold Ag.mostView at e
    generalize s.promise (s.c.view + 1) = t at *
    have hn1 : t.c.n ≤ 7 := hf1.n
    (first | focus (refine yy52 ?_; refine yy74 ?_; refine aw_condp rfl (fun hc => ?_) (fun hc => ?_); refine yy16 ?_; refine yy30 ?_; refine yy21 ?_; refine awl_s rfl (s_addu rfl rfl auto_len) ?_; (refine zc auto_wl (hP) ?_; rintro r H' ⟨rfl, F2, b1, b2⟩); refine yy3 ?_; rotate_left; exact absurd hc auto_no) | fail)
    have hT : ACalls Try.prog 63 [.ptr F.o 0, .ptr F.os 0, .agg [mI 2, mI 0, mI 0, uI 0, uI 0, uI 0, uI 0, .raw (.slice none 0 0), .raw (.slice none 0 0)]] H' fun r H'' => r = .tup [] ∧ ∃ F3, SAt H'' F3 (t.tell (Ag.msg0 2 0)) ∧ Turn F2.l H' F2 F3 H'' := by
      have h1 := tell_calls H' F2 t (Ag.msg0 2 0) b1 hf1 (by rw [p2]; omega) ⟨by simp [Ag.msg0], by simp [Ag.msg0]⟩
      rw [b2.o, b2.os] at h1
      refine h1.weak (WL.cons (W.of rfl) (WL.cons (W.of rfl) (WL.cons ?_ WL.nil)))
      exact w_agg (WL.cons (W.of rfl) (WL.cons (W.of rfl) (WL.cons (W.of rfl) (WL.cons (W.of rfl) (WL.cons (W.of rfl) (WL.cons (W.of rfl) (WL.cons (W.of rfl) (WL.cons (W.nils rfl) (WL.cons (W.nilb rfl) WL.nil)))))))))
    clear hP
    (first | focus (refine yy16 ?_; refine yy30 ?_; refine yy95 ?_; (refine zc auto_wl (hT) ?_; rintro r H' ⟨rfl, F3, c1, c2⟩); refine yy3 ?_; rotate_left) | fail)
    obtain ⟨k1, k2, k3⟩ := tellK_small t (Ag.msg0 2 0) t.c.n
    have k4 : tellK t (Ag.msg0 2 0) t.c.n = t.tell (Ag.msg0 2 0) := rfl
    rw [k4] at k1 k2 k3
    have b3 := b2.trans c2
    have hV := vote_calls _ F3 _ c1 (by rw [k1]; exact hf1) (by rw [k3]; omega) (by rw [p2] at k2; omega)
    rw [b3.o, b3.os] at hV
    clear hT
    (first | focus (refine yy51 ?_; refine yy30 ?_; (refine zc auto_wl (hV) ?_; rintro r H' ⟨rfl, F4, d1, d2⟩); refine yy4 ?_; rotate_left) | fail)
    exact ⟨.inr rfl, _, _, _, Ent.refl _ _, ret0 rfl, rfl, F4, d1, b3.trans d2⟩
  · have hv : s.begin = s := by unfold Ag.St.begin; rw [if_neg e]
    rw [hv]
    unfold Ag.mostView at e
    (first | focus (refine yy52 ?_; refine yy74 ?_; refine yy48 ?_; intro hc; refine aw_skip ?_; rotate_left) | fail)
    all_goals try (exfalso; omega)
    exact ⟨.inr rfl, _, _, _, Ent.gc (H0 := H) auto_sub, ret0 rfl, rfl, F, h0, Turn.refl _ _ _⟩
end Go.Proofs.Ytbciofnejefkiaa

namespace Go.Proofs.Ytbciofnejefkiaa
open Go Go.Am Go.Proofs

structure Sm (a b : Nat) (s t : Ag.St) : Prop where
  c : CFine t.c
  me : t.c.me = s.c.me
  n : t.c.n = s.c.n
  sv : t.save.length ≤ s.save.length + a
  sn : t.send.length ≤ s.send.length + b
theorem Sm.trans {a b a' b' : Nat} {s t u : Ag.St} (h : Sm a b s t) (k : Sm a' b' t u) : Sm (a + a') (b + b') s u :=
  ⟨k.c, k.me.trans h.me, k.n.trans h.n, by have := h.sv; have := k.sv; omega, by have := h.sn; have := k.sn; omega⟩
theorem Sm.more {a b a' b' : Nat} {s t : Ag.St} (h : Sm a b s t) (h1 : a ≤ a') (h2 : b ≤ b') : Sm a' b' s t :=
  ⟨h.c, h.me, h.n, by have := h.sv; omega, by have := h.sn; omega⟩
theorem out_sm {s : Ag.St} (h : CFine s.c) (m : Mg) : Sm 0 1 s (s.out m) := by
  obtain ⟨h1, h2, h3⟩ := out_small s m
  exact ⟨by rw [h1]; exact h, by rw [h1], by rw [h1], by rw [h3]; omega, h2⟩
theorem lay_sm {s : Ag.St} (h : CFine s.c) : Sm 0 7 s s.lay := by
  obtain ⟨h1, h2, h3, _⟩ := layK_small s s.c.n
  have e : layK s s.c.n = s.lay := rfl
  rw [e] at h1 h2 h3
  have := h.n
  exact ⟨by rw [h1]; exact h, by rw [h1], by rw [h1], by rw [h3]; omega, by omega⟩
theorem tell_sm {s : Ag.St} (h : CFine s.c) (m : Mg) : Sm 0 7 s (s.tell m) := by
  obtain ⟨h1, h2, h3⟩ := tellK_small s m s.c.n
  have e : tellK s m s.c.n = s.tell m := rfl
  rw [e] at h1 h2 h3
  have := h.n
  exact ⟨by rw [h1]; exact h, by rw [h1], by rw [h1], by rw [h3]; omega, by omega⟩
theorem take_sm {s : Ag.St} (h : CFine s.c) {v : Nat} (hv : v ≤ Ag.mostView) {l : List En} (hl : LF l) (ha : s.c.agreed ≤ l.length) : Sm 1 0 s (s.take v l) := by
  have hc : (s.take v l).c = { s.c with last := v, list := l } := Ag.take_c _ _ _
  exact ⟨by rw [hc]; exact h.take hv hl ha, by rw [hc], by rw [hc], take_save_len _ _ _, by rw [Ag.take_send]; omega⟩
theorem mem_sm {s : Ag.St} {c : Ag.Co} (h : CFine c) (h1 : c.me = s.c.me) (h2 : c.n = s.c.n) : Sm 0 0 s { s with c := c } := ⟨h, h1, h2, Nat.le_refl _, Nat.le_refl _⟩
theorem CFine.unwait {c : Ag.Co} (hf : CFine c) : CFine { c with wait := [] } := ⟨hf.me, hf.n, hf.view, hf.last, hf.list, hf.agr, ⟨by simp, by simp⟩, hf.quiet, hf.got, hf.held⟩
theorem CFine.leads {c : Ag.Co} (hf : CFine c) : CFine { c with lead := true, got := fun _ => none } := ⟨hf.me, hf.n, hf.view, hf.last, hf.list, hf.agr, hf.wait, hf.quiet, fun q x hx => (by cases hx), hf.held⟩
theorem grow_sm {s : Ag.St} (h : CFine s.c) : Sm 1 7 s s.grow := by
  obtain ⟨g1, g2⟩ := grown_LF h.list h.wait.ok
  have h0 : Sm 0 0 s { s with c := { s.c with wait := [] } } := mem_sm h.unwait rfl rfl
  unfold Ag.St.grow; dsimp only
  have ht : ∀ t : Ag.St, Sm 1 0 s t → Sm 1 7 s (Ag.St.lay { t with c := t.c.settle }) := fun t k =>
    (k.trans (mem_sm (s := t) k.c.settle (settle_same2 _).1 (settle_same2 _).2)).trans (lay_sm (s := { t with c := t.c.settle }) k.c.settle)
  split
  · exact ht _ ((h0.trans (take_sm (s := { s with c := { s.c with wait := [] } }) h.unwait h.view g1 (by have := h.agr; show s.c.agreed ≤ _; omega))))
  · exact ht _ (h0.more (Nat.zero_le _) (Nat.le_refl _))
theorem won_sm {s : Ag.St} (h : CFine s.c) : Sm 2 7 s s.won := by
  unfold Ag.St.won; dsimp only
  split
  · exact ⟨h, rfl, rfl, by omega, by omega⟩
  · obtain ⟨b1, b2, b3⟩ := bestK_LF h s.c.n
    have hk : Sm 1 0 s (s.take s.c.view s.c.best.list) := take_sm h h.view b1 b3
    exact (hk.trans (mem_sm (s := s.take s.c.view s.c.best.list) hk.c.leads rfl rfl)).trans (grow_sm (s := { s.take s.c.view s.c.best.list with c := { (s.take s.c.view s.c.best.list).c with lead := true, got := fun _ => none } }) hk.c.leads)
theorem CFine.got1 {c : Ag.Co} (hf : CFine c) {q : Nat} {v : Ag.Vt} (hq : q < c.n) (hv : LF v.list) (hv2 : v.last ≤ Ag.mostView) : CFine { c with got := Ag.upd c.got q (some v) } := ⟨hf.me, hf.n, hf.view, hf.last, hf.list, hf.agr, hf.wait, hf.quiet, fun p x hx => by
      have hx' : Ag.upd c.got q (some v) p = some x := hx
      unfold Ag.upd at hx'
      split at hx'
      · next e => cases hx'; exact ⟨by rw [e]; exact hq, hv2, hv⟩
      · exact hf.got p x hx', hf.held⟩
theorem count_sm {s : Ag.St} (h : CFine s.c) {q : Nat} {v : Ag.Vt} (hq : q < s.c.n) (hv : LF v.list) (hv2 : v.last ≤ Ag.mostView) : Sm 2 7 s (s.count q v) := by
  unfold Ag.St.count
  split
  · exact ⟨h, rfl, rfl, by omega, by omega⟩
  · exact (mem_sm (s := s) (h.got1 hq hv hv2) rfl rfl).trans (won_sm (s := { s with c := { s.c with got := Ag.upd s.c.got q (some v) } }) (h.got1 hq hv hv2)) |>.more (by omega) (by omega)
theorem vote_sm {s : Ag.St} (h : CFine s.c) : Sm 2 7 s s.vote := by
  unfold Ag.St.vote; dsimp only
  split
  · exact count_sm h h.me h.list h.last
  · exact (out_sm h _).more (by omega) (by omega)
theorem promise_sm {s : Ag.St} (h : CFine s.c) {v : Nat} (hv : v ≤ Ag.mostView) : Sm 1 0 s (s.promise v) := by
  obtain ⟨p1, p2, p3⟩ := promise_small s v
  exact ⟨by rw [p1]; exact h.promise hv, by rw [p1]; rfl, by rw [p1]; rfl, by omega, by rw [p2]; omega⟩
theorem begin_sm {s : Ag.St} (h : CFine s.c) : Sm 3 14 s s.begin := by
  unfold Ag.St.begin
  split
  · next hv =>
    have k1 := promise_sm h (v := s.c.view + 1) (by omega)
    have k2 := k1.trans (tell_sm k1.c (Ag.msg0 2 0))
    exact (k2.trans (vote_sm k2.c)).more (by omega) (by omega)
  · exact ⟨h, rfl, rfl, by omega, by omega⟩
theorem CFine.wanted {c : Ag.Co} (h : CFine c) {e : En} (he : e.Ok) : CFine (c.wanted e).1 ∧ (c.wanted e).1.me = c.me ∧ (c.wanted e).1.n = c.n := by
  unfold Ag.Co.wanted
  split
  · exact ⟨h, rfl, rfl⟩
  · next hc =>
    rw [not_or, not_or] at hc
    have hm : e.row.length ≤ 16 := by
      have := hc.1; simp only [Ag.may, Bool.and_eq_false_iff, decide_eq_false_iff_not, not_or] at this; omega
    have hL : LF ((if c.wait.length = 200 then c.wait.drop 1 else c.wait) ++ [e]) := by
      have hw := h.wait.len
      refine ⟨fun x hx => ?_, ?_⟩
      · rcases List.mem_append.1 hx with hx | hx
        · split at hx
          · exact h.wait.ok x (List.mem_of_mem_drop hx)
          · exact h.wait.ok x hx
        · rw [List.mem_singleton.1 hx]; exact ⟨he, hm⟩
      · rw [List.length_append, List.length_singleton]
        split
        · rw [List.length_drop]; omega
        · omega
    exact ⟨⟨h.me, h.n, h.view, h.last, h.list, h.agr, hL, h.quiet, h.got, h.held⟩, rfl, rfl⟩
theorem want_sm {s : Ag.St} (h : CFine s.c) {e : En} (he : e.Ok) : Sm 1 7 s (s.want e) := by
  obtain ⟨h1, h2, h3⟩ := h.wanted he
  unfold Ag.St.want; dsimp only
  split
  · exact (mem_sm (s := s) h1 h2 h3).trans (grow_sm (s := { s with c := (s.c.wanted e).1 }) h1) |>.more (by omega) (by omega)
  · exact (mem_sm (s := s) h1 h2 h3).more (by omega) (by omega)
theorem wanted_S (H : AHeap) (F : Ob) (s : Ag.St) (e : En) (h : SAt H F s) (hf : CFine s.c) (hr : e.row.length ≤ 1000000) (he : e.Ok) :
    ACalls Try.prog 36 [.ptr F.o 0, .agg e.cells] H fun r H' => r = bB (s.c.wanted e).2 ∧ ∃ F', SAt H' F' { s with c := (s.c.wanted e).1 } ∧ Turn F.l H F F' H' :=
  (wanted_calls H F s.c e h.c h.nd.c hf hr).mono fun r H' ⟨h1, F', h2, t⟩ => by
    obtain ⟨_, k1, k2⟩ := hf.wanted he
    obtain ⟨a, b⟩ := h.turn h2 t k1 k2
    exact ⟨h1, F', a, b⟩
end Go.Proofs.Ytbciofnejefkiaa

namespace Go.Proofs.Ytbciofnejefkiaa
open Go Go.Am Go.Proofs

def saveA (s : Ag.St) : AV := .sls s.save.length (s.save.map fun x => .bys (recB s.c.me s.c.n x))
def sendA (s : Ag.St) : AV := .sls s.send.length (s.send.flatMap Mg.cells)
def stepA (s : Ag.St) : AV := .agg [saveA s, sendA s]
structure TurnK (H : AHeap) (F F' : Ob) (H' : AHeap) : Prop where
  o : F'.o = F.o
  new : ∀ p ∈ F'.c, p ∈ F.c ∨ H p = none
  fr : ∀ p y, H p = some y → p ∉ F.c → H' p = some y
  nd : NdC F'
structure Bgn (H : AHeap) (F : Ob) (oR : Nat) (H1 : AHeap) (F1 : Ob) : Prop where
  o : F1.o = F.o
  c : F1.c = F.c
  os : H F1.os = none
  ov : H F1.ov = none
  on : H F1.on = none
  R : H oR = none
  nR : oR ∉ F1.l
  fr : ∀ p y, H p = some y → H1 p = some y
theorem SAt.start {H : AHeap} {F : Ob} {c : Ag.Co} (h : CAt H F c) (nd : NdC F) {H1 : AHeap} {os ov on oR : Nat} (hs : H os = none) (hv : H ov = none) (hn : H on = none) (hR : H oR = none) (n1 : os ≠ ov) (n2 : os ≠ on) (n3 : ov ≠ on) (m1 : oR ≠ os) (m2 : oR ≠ ov) (m3 : oR ≠ on)
    (e1 : H1 os = some (.cel [.vw ov 1 0 0, .vw on 9 0 0])) (e2 : H1 ov = some (.cel [])) (e3 : H1 on = some (.cel [])) (fr : ∀ p y, H p = some y → H1 p = some y) :
    SAt H1 { F with os := os, ov := ov, on := on } ⟨c, [], []⟩ ∧ Bgn H F oR H1 { F with os := os, ov := ov, on := on } := by
  have hne : ∀ {p q : Nat} {y : AO}, H p = some y → H q = none → p ≠ q := fun a b e => by rw [e, b] at a; cases a
  obtain ⟨⟨off, xs, hco, hw, hx1, hx2⟩, ⟨eg, hg, hg2⟩, ⟨eh, hh, hh2⟩⟩ := h
  obtain ⟨k1, k2, k3, k4, k5, k6⟩ := nd
  refine ⟨⟨⟨⟨off, xs, fr _ _ hco, fr _ _ hw, hx1, hx2⟩, ⟨eg, fr _ _ hg, hg2⟩, ⟨eh, fr _ _ hh, hh2⟩⟩, e1, e2, e3, ⟨k1, k2, k3, hne hco hs, hne hco hv, hne hco hn, k4, k5, hne hg hs, hne hg hv, hne hg hn, k6, hne hh hs, hne hh hv, hne hh hn, hne hw hs, hne hw hv, hne hw hn, n1, n2, n3⟩⟩, ⟨rfl, rfl, hs, hv, hn, hR, ?_, fr⟩⟩
  simp only [Ob.l, List.mem_cons, List.not_mem_nil, or_false, not_or]
  exact ⟨(hne hco hR).symm, (hne hg hR).symm, (hne hh hR).symm, (hne hw hR).symm, m1, m2, m3⟩
theorem flat_len9 (l : List Mg) : (l.flatMap Mg.cells).length = l.length * 9 := flat_len (sz := 9) (fun _ => rfl) l
theorem Bgn.keep {H H1 H2 : AHeap} {F F1 F2 : Ob} {oR : Nat} (b : Bgn H F oR H1 F1) (t : Turn F1.l H1 F1 F2 H2) {z : AO} (hz : H1 oR = some z) : H2 oR = some z ∧ oR ∉ F2.l := t.keep hz b.nR
theorem Bgn.done {H H1 H2 : AHeap} {F F1 F2 : Ob} {oR : Nat} {s : Ag.St} (b : Bgn H F oR H1 F1) (t : Turn F1.l H1 F1 F2 H2) (h : SAt H2 F2 s) {z : AO} (hz : H1 oR = some z) :
    ∃ H3, (∀ R, Ent R H2 R H3) ∧ H3 F1.os = some (.cel [saveA s, sendA s]) ∧ H3 oR = some z ∧ oR ≠ F1.os ∧ CAt (H3.erase oR) F2 s.c ∧ TurnK H F F2 (H3.erase oR) := by
  obtain ⟨hz2, hR2⟩ := b.keep t hz
  obtain ⟨⟨⟨off, xs, hco, hw, hx1, hx2⟩, ⟨eg, hg, hg2⟩, ⟨eh, hh, hh2⟩⟩, hst, hsv, hsn, nd⟩ := h
  obtain ⟨n1, n2, n3, n4, n5, n6, n7, n8, n9, n10, n11, n12, n13, n14, n15, n16, n17, n18, n19, n20, n21⟩ := nd
  obtain ⟨r1, r2, r3, r4, r5, r6, r7⟩ := Ob.nel hR2
  have hE : ∀ R, Ent R H2 R ((((H2.erase F2.ov).set F2.os (.cel [saveA s, .vw F2.on 9 0 s.send.length])).erase F2.on).set F2.os (.cel [saveA s, sendA s])) := fun R =>
    (Ent.seal_cellC (p := F2.os) (o := F2.ov) (k := 0) (sz := 1) n19 hst hsv rfl (by simp)).trans (Ent.seal_cellC (p := F2.os) (o := F2.on) (k := 1) (sz := 9) n20 (AHeap.set_self _ _ _) (AHeap.get_skip n20.symm (AHeap.get_unerase n21.symm hsn)) rfl (flat_len9 s.send))
  have hK : ∀ p y, H2 p = some y → p ≠ F2.os → p ≠ F2.ov → p ≠ F2.on → ((((H2.erase F2.ov).set F2.os (.cel [saveA s, .vw F2.on 9 0 s.send.length])).erase F2.on).set F2.os (.cel [saveA s, sendA s])) p = some y := fun p y hp a1 a2 a3 =>
    AHeap.get_skip a1 (AHeap.get_unerase a3 (AHeap.get_skip a1 (AHeap.get_unerase a2 hp)))
  have hU : ((((H2.erase F2.ov).set F2.os (.cel [saveA s, .vw F2.on 9 0 s.send.length])).erase F2.on).set F2.os (.cel [saveA s, sendA s])) F2.os = some (.cel [saveA s, sendA s]) := AHeap.set_self _ _ _
  generalize ((((H2.erase F2.ov).set F2.os (.cel [saveA s, .vw F2.on 9 0 s.send.length])).erase F2.on).set F2.os (.cel [saveA s, sendA s])) = H3 at *
  refine ⟨H3, hE, t.os ▸ hU, hK _ _ hz2 r5 r6 r7, t.os ▸ r5, ⟨⟨off, xs, AHeap.get_unerase r1.symm (hK _ _ hco n4 n5 n6), AHeap.get_unerase r4.symm (hK _ _ hw n16 n17 n18), hx1, hx2⟩, ⟨eg, AHeap.get_unerase r2.symm (hK _ _ hg n9 n10 n11), hg2⟩, ⟨eh, AHeap.get_unerase r3.symm (hK _ _ hh n13 n14 n15), hh2⟩⟩, ⟨t.o.trans b.o, fun p hp => ?_, fun p y hp hF => ?_, ⟨n1, n2, n3, n7, n8, n12⟩⟩⟩
  · have hl : p ∈ F1.l ∨ H1 p = none := t.new p (Ob.cl hp)
    rcases hl with hl | hl
    · have : p ∈ F1.c ∨ p = F1.os ∨ p = F1.ov ∨ p = F1.on := by
        simp only [Ob.l, Ob.c, List.mem_cons, List.not_mem_nil, or_false] at hl ⊢
        rcases hl with e | e | e | e | e | e | e <;> simp [e]
      rcases this with e | e | e | e
      · exact .inl (b.c ▸ e)
      · exact .inr (e ▸ b.os)
      · exact .inr (e ▸ b.ov)
      · exact .inr (e ▸ b.on)
    · right
      cases e : H p with
      | none => rfl
      | some y => rw [b.fr _ _ e] at hl; cases hl
  · have hne : ∀ {q : Nat}, H q = none → p ≠ q := fun b e => by rw [e, b] at hp; cases hp
    have hF1 : p ∉ F1.l := by
      intro hl
      have : p ∈ F1.c ∨ p = F1.os ∨ p = F1.ov ∨ p = F1.on := by
        simp only [Ob.l, Ob.c, List.mem_cons, List.not_mem_nil, or_false] at hl ⊢
        rcases hl with e | e | e | e | e | e | e <;> simp [e]
      rcases this with e | e | e | e
      · exact hF (b.c ▸ e)
      · exact hne b.os e
      · exact hne b.ov e
      · exact hne b.on e
    have hp1 := b.fr _ _ hp
    obtain ⟨hp2, hF2⟩ := t.keep hp1 hF1
    obtain ⟨_, _, _, _, a1, a2, a3⟩ := Ob.nel hF2
    exact AHeap.get_unerase (hne b.R) (hK _ _ hp2 a1 a2 a3)
theorem aw_begin {P : Program} {n : Nat} {K : Exit → Regs → AHeap → Prop} {R : Regs} {H : AHeap} {code : Code} {F : Ob} {c : Ag.Co} (h : CAt H F c) (nd : NdC F) {oR oS : Nat} {z : AO} (hR : H oR = none) (hS : (H.set oR z) oS = none)
    (hk : ∀ H1 F1, SAt H1 F1 ⟨c, [], []⟩ → Bgn H F oR H1 F1 → F1.os = oS → H1 oR = some z → AW P n code K R H1) : AW P n code K R ((H.set oR z).set oS (.cel (AV.raw (.agg #[.slice none 0 0, .slice none 0 0])).parts)) := by
  refine aw_own_cell (o := oS) 0 1 (AHeap.set_self _ _ _) rfl (fun oV hoV => ?_)
  have v1 : oV ≠ oS := AHeap.ne_of_fresh hoV
  have v2 : (H.set oR z) oV = none := AHeap.none_of_set hoV
  have v3 : oV ≠ oR := AHeap.ne_of_fresh v2
  have v4 : H oV = none := AHeap.none_of_set v2
  have s1 : oS ≠ oR := AHeap.ne_of_fresh hS
  have s2 : H oS = none := AHeap.none_of_set hS
  refine aw_own_cell (o := oS) (xs := [.vw oV 1 0 0, .raw (.slice none 0 0)]) 1 9 (AHeap.get_skip v1.symm (AHeap.set_self _ _ _)) rfl (fun oW hoW => ?_)
  have w1 : oW ≠ oV := AHeap.ne_of_fresh hoW
  have w2 := AHeap.none_of_set hoW
  have w3 : oW ≠ oS := AHeap.ne_of_fresh w2
  have w4 : (H.set oR z) oW = none := AHeap.none_of_set (AHeap.none_of_set w2)
  have w5 : oW ≠ oR := AHeap.ne_of_fresh w4
  have w6 : H oW = none := AHeap.none_of_set w4
  have e1 : ∀ H0 : AHeap, ((((H0.set oV (.cel [])).set oS (.cel [AV.vw oV 1 0 0, AV.vw oW 9 0 0])).set oW (.cel [])) : AHeap) oS = some (.cel [.vw oV 1 0 0, .vw oW 9 0 0]) := fun _ => AHeap.get_skip w3.symm (AHeap.set_self _ _ _)
  obtain ⟨a, b⟩ := SAt.start h nd (oR := oR) s2 v4 w6 hR v1.symm w3.symm w1.symm s1.symm v3.symm w5.symm (e1 _) (AHeap.get_skip w1.symm (AHeap.get_skip v1 (AHeap.set_self _ _ _))) (AHeap.set_self _ _ _) (H1 := (((((H.set oR z).set oS (.cel (AV.raw (.agg #[.slice none 0 0, .slice none 0 0])).parts)).set oS (.cel ((AV.raw (.agg #[.slice none 0 0, .slice none 0 0])).parts.set 0 (.vw oV 1 0 0)))).set oV (.cel [])).set oS (.cel [AV.vw oV 1 0 0, AV.vw oW 9 0 0])).set oW (.cel [])) (fun p y hp => by
    have hne : ∀ {q : Nat}, H q = none → p ≠ q := fun b e => by rw [e, b] at hp; cases hp
    exact AHeap.get_skip (hne w6) (AHeap.get_skip (hne s2) (AHeap.get_skip (hne v4) (AHeap.get_skip (hne s2) (AHeap.get_skip (hne s2) (AHeap.get_skip (hne hR) hp))))))
  exact hk _ _ a b rfl (AHeap.get_skip w5.symm (AHeap.get_skip s1.symm (AHeap.get_skip v3.symm (AHeap.get_skip s1.symm (AHeap.get_skip s1.symm (AHeap.set_self _ _ _))))))
theorem erase_sub {H : AHeap} {o : Nat} {x : AO} : ∀ p y, (H.erase o) p = some y → p ≠ o ∧ (H.set o x) p = some y := fun p y hp => by
  by_cases e : p = o
  · rw [e] at hp; simp [AHeap.erase] at hp
  · simp only [AHeap.erase, if_neg e] at hp; exact ⟨e, AHeap.get_skip e hp⟩
theorem fresh_sub {H : AHeap} {o : Nat} {x : AO} (h : H o = none) : ∀ p y, H p = some y → p ≠ o ∧ (H.set o x) p = some y := fun p y hp => by
  have e : p ≠ o := fun e => by rw [e, h] at hp; cases hp
  exact ⟨e, AHeap.get_skip e hp⟩
end Go.Proofs.Ytbciofnejefkiaa
