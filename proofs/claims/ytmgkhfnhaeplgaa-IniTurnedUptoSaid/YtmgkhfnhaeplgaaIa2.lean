import Derived.Test.YtmgkhfnhaeplgaaIz
import Derived.Test.YtmgkhfnhaeplgaaIa1
import Derived.Test.YtmgkhfnhaeplgaaAmPeel
namespace Go.Proofs.Ytmgkhfnhaeplgaa
open Go Go.Am Go.Proofs
set_option linter.unusedSimpArgs false
set_option linter.unusedVariables false
set_option maxRecDepth 20000
set_option maxHeartbeats 8000000

/-! The reference's parser: prim. -/
section
variable {ws : List Wd} {o : Nat}
/-- A call's arguments so far, as a cell shows them. -/
def KidsOk (H H3 : AHeap) (o oR oE : Nat) (kc : AV) (acc : List Ex) : Prop := (acc = [] ∧ kc = .raw (.slice none 0 0)) ∨ ∃ oK, kc = .vw oK 5 0 acc.length ∧ H3 oK = some (.cel (exL acc)) ∧ H oK = none ∧ oK ≠ o ∧ oK ≠ oR ∧ oK ≠ oE
theorem freshH {H H3 : AHeap} {o oN : Nat} {X : AO} (hfr : ∀ p y, p ≠ o → H p = some y → H3 p = some y) (ho : H3 o = some X) (h : H3 oN = none) : H oN = none ∧ oN ≠ o := by
  have h1 : oN ≠ o := fun e => by rw [e, ho] at h; cases h
  refine ⟨?_, h1⟩
  cases e : H oN with
  | none => rfl
  | some y => rw [hfr _ _ h1 e] at h; cases h
theorem bool_tf {b : Bool} (h : b = true) (h' : b = false) : False := by rw [h] at h'; cases h'
theorem take_t (H : AHeap) (S : Ps) (s : Bs) (h : H o = some (.cel (S.cells ws))) (hk : S.k < ws.length) (hl : ws.length ≤ 20000) (hb : S.is ws s = true) :
    ACalls Try.prog 66 [.ptr o 0, .str s] H fun r H' => r = avB true ∧ H' = H.set o (.cel (S.step.cells ws)) := by
  have := take_calls (o := o) H S s h hk hl
  unfold Ps.take at this
  rwa [if_pos hb] at this
theorem take_f (H : AHeap) (S : Ps) (s : Bs) (h : H o = some (.cel (S.cells ws))) (hk : S.k < ws.length) (hl : ws.length ≤ 20000) (hb : S.is ws s = false) :
    ACalls Try.prog 66 [.ptr o 0, .str s] H fun r H' => r = avB false ∧ H' = H := by
  have := take_calls (o := o) H S s h hk hl
  unfold Ps.take at this
  rw [if_neg (by rw [hb]; decide)] at this
  rwa [AHeap.set_id h] at this
theorem prim_calls (hw : WsOk ws) {d : Nat} {nx : Lv} (hd : d ≤ 30) (gE : Good ws d (deep ws nx.arrow)) (gI : Good ws d (deep ws nx.prim))
    (cE : RdC ws o 68 d (deep ws nx.arrow)) (cI : RdC ws o 84 d (deep ws nx.prim)) :
    RdC ws o 83 d (primF ws nx) := fun H S h hk hSd => by
  have hl := hw.len
  have cw := fun H h => w_calls (o := o) H S h hk hl
  unfold primF
  cases hb : S.is ws ([40] : Bs) with
  | true =>
    rw [if_pos rfl]
    have h1 := Tr.step hw hk (is_kind hb).2.1
    have ct := fun H h => take_t (o := o) H S ([40] : Bs) h hk hl hb
    generalize S.step = T at *
    have h1k := h1.kl
    have h1d := h1.d
    have ce := fun H h => cE H T h h1k (by omega)
    have h2 := gE T h1k (by omega)
    generalize deep ws nx.arrow T = A at *
    obtain ⟨e, U⟩ := A
    have h2k := h2.kl
    simp only at *
    have cn := fun H h => want_calls (o := o) H U ([41] : Bs) h h2k hl
    generalize U.want ws ([41] : Bs) = V at *
    generalize S.w ws = w at *
    refine acalls_of_aw1 Try.func83 rfl (by decide) ?_
    (first | focus (refine yy2 ?_; refine awl_alloc rfl rfl rfl (fun oN hoN => ?_); refine yy12 ?_; (refine zc auto_wl (cw _ auto_heap) ?_; rintro r H' ⟨rfl, rfl⟩); refine awl_alloc rfl rfl rfl (fun oN hoN => ?_); refine yy11 ?_; refine yy91 ?_; (refine zc auto_wl (ct _ auto_heap) ?_; rintro r H' ⟨rfl, rfl⟩); refine yy122 ?_; refine yy8 ?_; (refine zc auto_wl (ce _ auto_heap) ?_; rintro r H' ⟨rfl, rfl⟩); refine awl_alloc rfl rfl rfl (fun oN hoN => ?_); refine yy11 ?_; refine yy12 ?_; (refine zc auto_wl (cn _ auto_heap) ?_; rintro r H' ⟨rfl, rfl⟩); refine yy16 ?_; refine yy26 ?_; refine yy36 ?_; refine k_seq_ret ?_; rotate_left) | fail)
    exact ⟨.inl rfl, _, _, _, Ent.cellRetS 2 (o := o) e.cells rfl auto_heap (wc_refl _) auto_heap (by (first | assumption | exact Ne.symm (by assumption) | exact AHeap.ne_of_fresh (by assumption) | exact Ne.symm (AHeap.ne_of_fresh (by assumption)) | exact AHeap.ne_of_fresh (AHeap.none_of_set (by assumption)) | exact Ne.symm (AHeap.ne_of_fresh (AHeap.none_of_set (by assumption))) | exact AHeap.ne_ns (by assumption) (by assumption) | exact AHeap.ne_sn (by assumption) (by assumption) | exact AHeap.ne_ns (by assumption) auto_heap2 | exact AHeap.ne_sn (by assumption) auto_heap2)) (fun sp sy sne shp => ⟨by (first | assumption | exact Ne.symm (by assumption) | exact AHeap.ne_of_fresh (by assumption) | exact Ne.symm (AHeap.ne_of_fresh (by assumption)) | exact AHeap.ne_of_fresh (AHeap.none_of_set (by assumption)) | exact Ne.symm (AHeap.ne_of_fresh (AHeap.none_of_set (by assumption))) | exact AHeap.ne_ns (by assumption) (by assumption) | exact AHeap.ne_sn (by assumption) (by assumption) | exact AHeap.ne_ns (by assumption) auto_heap2 | exact AHeap.ne_sn (by assumption) auto_heap2), auto_heap⟩), ret_1 rfl (rv1_agg (m := 5) rfl rfl rfl (by decide)), rfl, rfl⟩
  | false =>
    rw [if_neg (by decide)]
    obtain ⟨h1, h2⟩ := Tr.primP (S := S) hk
    have ct := fun H h => take_f (o := o) H S ([40] : Bs) h hk hl hb
    have cs := fun s H h => is_calls (o := o) H S s h hk hl
    have cp := fun H h => part_calls (o := o) H S h hk hl
    have hPd : primP ws S = if (S.w ws).kind = 1 ∨ (S.w ws).kind = 3 ∨ S.is ws ([116, 114, 117, 101] : Bs) ∨ S.is ws ([102, 97, 108, 115, 101] : Bs) ∨ S.is ws ([105, 102] : Bs) ∨ S.is ws ([109, 101, 114, 103, 101] : Bs) then S.part ws else S := rfl
    have hwT : (primP ws S).w ws = S.w ws := by unfold Ps.w; rw [h2]
    generalize hP : primP ws S = T at *
    generalize S.w ws = w at *
    refine acalls_of_aw1 Try.func83 rfl (by decide) ?_
    (first | focus (refine yy2 ?_; refine awl_alloc rfl rfl rfl (fun oN hoN => ?_); refine yy12 ?_; (refine zc auto_wl (cw _ auto_heap) ?_; rintro r H' ⟨rfl, rfl⟩); refine awl_alloc rfl rfl rfl (fun oN hoN => ?_); refine yy11 ?_; refine yy91 ?_; (refine zc auto_wl (ct _ auto_heap) ?_; rintro r H' ⟨rfl, rfl⟩); refine yy25 ?_; rotate_left) | fail)
    rename_i oR hoR
    have hoW : H oN = none := AHeap.none_of_set hoN
    have hWR : oN ≠ oR := by (first | assumption | exact Ne.symm (by assumption) | exact AHeap.ne_of_fresh (by assumption) | exact Ne.symm (AHeap.ne_of_fresh (by assumption)) | exact AHeap.ne_of_fresh (AHeap.none_of_set (by assumption)) | exact Ne.symm (AHeap.ne_of_fresh (AHeap.none_of_set (by assumption))) | exact AHeap.ne_ns (by assumption) (by assumption) | exact AHeap.ne_sn (by assumption) (by assumption) | exact AHeap.ne_ns (by assumption) auto_heap2 | exact AHeap.ne_sn (by assumption) auto_heap2)
    have hWo : oN ≠ o := by (first | assumption | exact Ne.symm (by assumption) | exact AHeap.ne_of_fresh (by assumption) | exact Ne.symm (AHeap.ne_of_fresh (by assumption)) | exact AHeap.ne_of_fresh (AHeap.none_of_set (by assumption)) | exact Ne.symm (AHeap.ne_of_fresh (AHeap.none_of_set (by assumption))) | exact AHeap.ne_ns (by assumption) (by assumption) | exact AHeap.ne_sn (by assumption) (by assumption) | exact AHeap.ne_ns (by assumption) auto_heap2 | exact AHeap.ne_sn (by assumption) auto_heap2)
    have hRo : oR ≠ o := by (first | assumption | exact Ne.symm (by assumption) | exact AHeap.ne_of_fresh (by assumption) | exact Ne.symm (AHeap.ne_of_fresh (by assumption)) | exact AHeap.ne_of_fresh (AHeap.none_of_set (by assumption)) | exact Ne.symm (AHeap.ne_of_fresh (AHeap.none_of_set (by assumption))) | exact AHeap.ne_ns (by assumption) (by assumption) | exact AHeap.ne_sn (by assumption) (by assumption) | exact AHeap.ne_ns (by assumption) auto_heap2 | exact AHeap.ne_sn (by assumption) auto_heap2)
    obtain ⟨oW, hoWe⟩ : ∃ x, x = oN := ⟨_, rfl⟩
    subst hoWe
    refine aw_seq ?_
    refine aw_kmid (fun R1 H1 => R1 = [(0, .ptr o 0), (2, .ptr oR 0), (3, .ptr oW 0)] ∧ H1 o = some (.cel (T.cells ws)) ∧ H1 oR = some (.cel exZ) ∧ H1 oW = some (.cel w.cells) ∧ (∀ p y, p ≠ o → H p = some y → H1 p = some y)) ?_ ?_
    · clear hwT hP
      (first | focus (refine yy99 ?_; refine yy17 ?_; refine zg2 rfl rfl rfl (fun hc => ?_) (fun hc => ?_); refine yy50 ?_; refine yy117 ?_; refine yy50 ?_; refine yy117 ?_; refine yy50 ?_; refine yy117 ?_; refine yy50 ?_; refine yy117 ?_; refine yy50 ?_; refine yy112 ?_; refine yy67 ?_; (refine zc auto_wl (cp _ auto_heap) ?_; rintro r H' ⟨rfl, rfl⟩); refine yy4 ?_; rotate_left; replace hc := hide_nat hc; refine yy62 ?_; refine yy5 ?_; refine yy135 ?_; refine yy5 ?_; refine awl_s rfl (s_eqn rfl rfl) ?_; refine awl_s rfl (s_pick_f (v := .raw _) rfl rfl) ?_; refine yy7 ?_; refine zg2 rfl rfl rfl (fun hc => ?_) (fun hc => ?_); refine yy120 ?_; refine yy117 ?_; refine yy50 ?_; refine yy117 ?_; refine yy50 ?_; refine yy117 ?_; refine yy50 ?_; refine yy112 ?_; refine yy67 ?_; (refine zc auto_wl (cp _ auto_heap) ?_; rintro r H' ⟨rfl, rfl⟩); refine yy4 ?_; rotate_left; replace hc := hide_nat hc; refine yy125 ?_; refine yy5 ?_; (refine zc auto_wl (cs _ _ auto_heap) ?_; rintro r H' ⟨rfl, rfl⟩); refine yy63 ?_; refine yy7 ?_; refine zg7 rfl rfl rfl (fun hc => ?_) (fun hc => ?_); refine yy120 ?_; refine yy117 ?_; refine yy50 ?_; refine yy117 ?_; refine yy50 ?_; refine yy112 ?_; refine yy67 ?_; (refine zc auto_wl (cp _ auto_heap) ?_; rintro r H' ⟨rfl, rfl⟩); refine yy4 ?_; rotate_left; refine yy125 ?_; refine yy5 ?_; (refine zc auto_wl (cs _ _ auto_heap) ?_; rintro r H' ⟨rfl, rfl⟩); refine yy63 ?_; refine yy7 ?_; refine zg7 rfl rfl rfl (fun hc => ?_) (fun hc => ?_); refine yy120 ?_; refine yy117 ?_; refine yy50 ?_; refine yy112 ?_; refine yy67 ?_; (refine zc auto_wl (cp _ auto_heap) ?_; rintro r H' ⟨rfl, rfl⟩); refine yy4 ?_; rotate_left; refine yy125 ?_; refine yy5 ?_; (refine zc auto_wl (cs _ _ auto_heap) ?_; rintro r H' ⟨rfl, rfl⟩); refine yy63 ?_; refine yy7 ?_; refine zg7 rfl rfl rfl (fun hc => ?_) (fun hc => ?_); refine yy120 ?_; refine yy112 ?_; refine yy67 ?_; (refine zc auto_wl (cp _ auto_heap) ?_; rintro r H' ⟨rfl, rfl⟩); refine yy4 ?_; rotate_left; refine yy125 ?_; refine yy5 ?_; (refine zc auto_wl (cs _ _ auto_heap) ?_; rintro r H' ⟨rfl, rfl⟩); refine yy63 ?_; refine yy4 ?_; refine aw_cond rfl (fun hc => ?_) (fun hc => ?_); refine yy67 ?_; (refine zc auto_wl (cp _ auto_heap) ?_; rintro r H' ⟨rfl, rfl⟩); refine yy4 ?_; rotate_left; refine yy35 ?_; rotate_left) | fail)
      all_goals first
        | (have e : T = S.part ws := by
             rw [hPd]; exact if_pos (by first | exact .inl hc | exact .inr (.inl hc) | exact .inr (.inr (.inl hc)) | exact .inr (.inr (.inr (.inl hc))) | exact .inr (.inr (.inr (.inr (.inl hc)))) | exact .inr (.inr (.inr (.inr (.inr hc)))))
           subst e
           exact ⟨_, _, Ent.sub _ (by (repeat' (first | exact RSub.nil _ | apply RSub.cons)); all_goals rfl), rfl, by exact auto_heap, by exact auto_heap, by exact auto_heap, fun p y hne hp => auto_heap⟩)
        | (have e : T = S := by
             rw [hPd]
             refine if_neg ?_
             rintro (h | h | h | h | h | h)
             all_goals first | exact absurd h (Hdq.out (by assumption)) | exact bool_tf h (by assumption)
           subst e
           exact ⟨_, _, Ent.sub _ (by (repeat' (first | exact RSub.nil _ | apply RSub.cons)); all_goals rfl), rfl, by exact auto_heap, by exact auto_heap, by exact auto_heap, fun p y hne hp => auto_heap⟩)
        | trace_state
    clear cw ct cs cp hPd hb hoN hP h
    rintro R1 H1 ⟨rfl, k1, k2, k3, hfr⟩
    have hTk := h1.kl
    have hTd := h1.d.trans hSd
    have hkw : ∀ {k : Nat}, w.kind = k → k ≠ 0 → T.k + 1 < ws.length := fun e h0 => hw.kind hTk (by show (T.w ws).kind ≠ 0; rw [hwT, e]; exact h0)
    clear h1 h2 hk hSd hwT
    generalize hGz : primG ws nx w T = Gz
    have cs := fun s H h => is_calls (o := o) H T s h hTk hl
    refine aw_seq ?_
    refine aw_kmid (fun R1 H2 => primV ws nx w.at_ T = Gz ∧ R1 = [(0, .ptr o 0), (2, .ptr oR 0), (3, .ptr oW 0)] ∧ H2 o = some (.cel (T.cells ws)) ∧ H2 oR = some (.cel exZ) ∧ H2 oW = some (.cel w.cells) ∧ (∀ p y, p ≠ o → H p = some y → H2 p = some y)) ?_ ?_
    · unfold primG at hGz
      by_cases g0 : T.err = 0
      · by_cases g3 : w.kind = 3
        · rw [if_pos ⟨g0, g3⟩] at hGz
          subst hGz
          have := hkw g3 (by decide)
          (first | focus (refine aw_block ?_; refine yy8 ?_; refine yy56 ?_; refine yy130 ?_; refine yy6 ?_; refine yy90 ?_; intro hc; refine yy99 ?_; refine yy87 ?_; refine yy6 ?_; refine aw_condp rfl (fun hc => ?_) (fun hc => ?_); refine yy8 ?_; refine yy106 ?_; refine yy109 ?_; refine yy88 ?_; refine yy58 ?_; refine yy16 ?_; refine yy10 ?_; refine yy10 ?_; refine yy20 ?_; refine yy36 ?_; refine yy33 ?_; rotate_left; exact absurd hc auto_no) | fail)
          exact ⟨.inl rfl, _, _, _, Ent.cellRetS 2 (o := o) _ rfl auto_heap (wc_exn (W.of rfl) (w_str0 rfl)) auto_heap (by (first | assumption | exact Ne.symm (by assumption) | exact AHeap.ne_of_fresh (by assumption) | exact Ne.symm (AHeap.ne_of_fresh (by assumption)) | exact AHeap.ne_of_fresh (AHeap.none_of_set (by assumption)) | exact Ne.symm (AHeap.ne_of_fresh (AHeap.none_of_set (by assumption))) | exact AHeap.ne_ns (by assumption) (by assumption) | exact AHeap.ne_sn (by assumption) (by assumption) | exact AHeap.ne_ns (by assumption) auto_heap2 | exact AHeap.ne_sn (by assumption) auto_heap2)) (fun sp sy sne shp => by have hp2 := hfr sp sy sne shp; exact ⟨by (first | assumption | exact Ne.symm (by assumption) | exact AHeap.ne_of_fresh (by assumption) | exact Ne.symm (AHeap.ne_of_fresh (by assumption)) | exact AHeap.ne_of_fresh (AHeap.none_of_set (by assumption)) | exact Ne.symm (AHeap.ne_of_fresh (AHeap.none_of_set (by assumption))) | exact AHeap.ne_ns (by assumption) (by assumption) | exact AHeap.ne_sn (by assumption) (by assumption) | exact AHeap.ne_ns (by assumption) auto_heap2 | exact AHeap.ne_sn (by assumption) auto_heap2), auto_heap⟩), ret_1 rfl (rv1_agg (m := 5) rfl rfl rfl (by decide)), rfl, rfl⟩
        · rw [if_neg (fun h => g3 h.2)] at hGz
          replace g3 := Hdq.mk g3
          have ft := fun s hb H h => take_f (o := o) H T s h hTk hl hb
          have tt := fun s hb H h => take_t (o := o) H T s h hTk hl hb
          cases b1 : T.is ws ([116, 114, 117, 101] : Bs) with
          | true =>
            rw [if_pos b1] at hGz
            subst hGz
            have c1 := tt ([116, 114, 117, 101] : Bs) b1
            (first | focus (refine aw_block ?_; refine yy8 ?_; refine yy56 ?_; refine yy130 ?_; refine yy6 ?_; refine yy90 ?_; intro hc; refine yy99 ?_; refine yy87 ?_; refine yy6 ?_; refine yy30 ?_; intro hc; replace hc := hide_nat hc; refine yy8 ?_; (refine zc auto_wl (c1 _ auto_heap) ?_; rintro r H' ⟨rfl, rfl⟩); refine yy6 ?_; refine aw_cond_t rfl ?_; refine yy99 ?_; refine yy20 ?_; refine yy36 ?_; refine yy33 ?_; rotate_left) | fail)
            exact ⟨.inl rfl, _, _, _, Ent.cellRetS 2 (o := o) _ rfl auto_heap (wc_exn (W.of rfl) (w_str0 rfl)) auto_heap (by (first | assumption | exact Ne.symm (by assumption) | exact AHeap.ne_of_fresh (by assumption) | exact Ne.symm (AHeap.ne_of_fresh (by assumption)) | exact AHeap.ne_of_fresh (AHeap.none_of_set (by assumption)) | exact Ne.symm (AHeap.ne_of_fresh (AHeap.none_of_set (by assumption))) | exact AHeap.ne_ns (by assumption) (by assumption) | exact AHeap.ne_sn (by assumption) (by assumption) | exact AHeap.ne_ns (by assumption) auto_heap2 | exact AHeap.ne_sn (by assumption) auto_heap2)) (fun sp sy sne shp => by have hp2 := hfr sp sy sne shp; exact ⟨by (first | assumption | exact Ne.symm (by assumption) | exact AHeap.ne_of_fresh (by assumption) | exact Ne.symm (AHeap.ne_of_fresh (by assumption)) | exact AHeap.ne_of_fresh (AHeap.none_of_set (by assumption)) | exact Ne.symm (AHeap.ne_of_fresh (AHeap.none_of_set (by assumption))) | exact AHeap.ne_ns (by assumption) (by assumption) | exact AHeap.ne_sn (by assumption) (by assumption) | exact AHeap.ne_ns (by assumption) auto_heap2 | exact AHeap.ne_sn (by assumption) auto_heap2), auto_heap⟩), ret_1 rfl (rv1_agg (m := 5) rfl rfl rfl (by decide)), rfl, rfl⟩
          | false =>
          rw [if_neg (by rw [b1]; decide)] at hGz
          have c1 := ft ([116, 114, 117, 101] : Bs) b1
          cases b2 : T.is ws ([102, 97, 108, 115, 101] : Bs) with
          | true =>
            rw [if_pos b2] at hGz
            subst hGz
            have c2 := tt ([102, 97, 108, 115, 101] : Bs) b2
            (first | focus (refine aw_block ?_; refine yy8 ?_; refine yy56 ?_; refine yy130 ?_; refine yy6 ?_; refine yy90 ?_; intro hc; refine yy99 ?_; refine yy87 ?_; refine yy6 ?_; refine yy30 ?_; intro hc; replace hc := hide_nat hc; refine yy8 ?_; (refine zc auto_wl (c1 _ auto_heap) ?_; rintro r H' ⟨rfl, rfl⟩); refine yy82 ?_; refine yy8 ?_; (refine zc auto_wl (c2 _ auto_heap) ?_; rintro r H' ⟨rfl, rfl⟩); refine yy6 ?_; refine aw_cond_t rfl ?_; refine yy99 ?_; refine yy20 ?_; refine yy36 ?_; refine yy33 ?_; rotate_left) | fail)
            exact ⟨.inl rfl, _, _, _, Ent.cellRetS 2 (o := o) _ rfl auto_heap (wc_exn (W.of rfl) (w_str0 rfl)) auto_heap (by (first | assumption | exact Ne.symm (by assumption) | exact AHeap.ne_of_fresh (by assumption) | exact Ne.symm (AHeap.ne_of_fresh (by assumption)) | exact AHeap.ne_of_fresh (AHeap.none_of_set (by assumption)) | exact Ne.symm (AHeap.ne_of_fresh (AHeap.none_of_set (by assumption))) | exact AHeap.ne_ns (by assumption) (by assumption) | exact AHeap.ne_sn (by assumption) (by assumption) | exact AHeap.ne_ns (by assumption) auto_heap2 | exact AHeap.ne_sn (by assumption) auto_heap2)) (fun sp sy sne shp => by have hp2 := hfr sp sy sne shp; exact ⟨by (first | assumption | exact Ne.symm (by assumption) | exact AHeap.ne_of_fresh (by assumption) | exact Ne.symm (AHeap.ne_of_fresh (by assumption)) | exact AHeap.ne_of_fresh (AHeap.none_of_set (by assumption)) | exact Ne.symm (AHeap.ne_of_fresh (AHeap.none_of_set (by assumption))) | exact AHeap.ne_ns (by assumption) (by assumption) | exact AHeap.ne_sn (by assumption) (by assumption) | exact AHeap.ne_ns (by assumption) auto_heap2 | exact AHeap.ne_sn (by assumption) auto_heap2), auto_heap⟩), ret_1 rfl (rv1_agg (m := 5) rfl rfl rfl (by decide)), rfl, rfl⟩
          | false =>
          rw [if_neg (by rw [b2]; decide)] at hGz
          have c2 := ft ([102, 97, 108, 115, 101] : Bs) b2
          cases b3 : T.is ws ([105, 102] : Bs) with
          | true =>
            rw [if_pos b3] at hGz
            have c3 := tt ([105, 102] : Bs) b3
            have h1 := Tr.step hw hTk (is_kind b3).2.1
            generalize T.step = S1 at *
            have h1k := h1.kl
            have h1d := h1.d
            have ca := fun H h => cE H S1 h h1k (by omega)
            have h2 := gE S1 h1k (by omega)
            generalize deep ws nx.arrow S1 = A at *
            obtain ⟨a, S2⟩ := A
            have h2k := h2.kl
            have h2d := h2.d
            simp only at *
            have cn := fun H h => want_calls (o := o) H S2 ([116, 104, 101, 110] : Bs) h h2k hl
            have h3 := Tr.want (S := S2) (s := ([116, 104, 101, 110] : Bs)) hw h2k
            generalize S2.want ws ([116, 104, 101, 110] : Bs) = S3 at *
            have h3k := h3.kl
            have h3d := h3.d
            have cb := fun H h => cE H S3 h h3k (by omega)
            have h4 := gE S3 h3k (by omega)
            generalize deep ws nx.arrow S3 = B at *
            obtain ⟨b, S4⟩ := B
            have h4k := h4.kl
            have h4d := h4.d
            simp only at *
            have cm := fun H h => want_calls (o := o) H S4 ([101, 108, 115, 101] : Bs) h h4k hl
            have h5 := Tr.want (S := S4) (s := ([101, 108, 115, 101] : Bs)) hw h4k
            generalize S4.want ws ([101, 108, 115, 101] : Bs) = S5 at *
            have h5k := h5.kl
            have h5d := h5.d
            have cc := fun H h => cE H S5 h h5k (by omega)
            have h6 := gE S5 h5k (by omega)
            generalize deep ws nx.arrow S5 = C at *
            obtain ⟨c, S6⟩ := C
            simp only at *
            subst hGz
            clear h1 h2 h3 h4 h5 h6
            (first | focus (refine aw_block ?_; refine yy8 ?_; refine yy56 ?_; refine yy130 ?_; refine yy6 ?_; refine yy90 ?_; intro hc; refine yy99 ?_; refine yy87 ?_; refine yy6 ?_; refine yy30 ?_; intro hc; replace hc := hide_nat hc; refine yy8 ?_; (refine zc auto_wl (c1 _ auto_heap) ?_; rintro r H' ⟨rfl, rfl⟩); refine yy82 ?_; refine yy8 ?_; (refine zc auto_wl (c2 _ auto_heap) ?_; rintro r H' ⟨rfl, rfl⟩); refine yy82 ?_; refine yy8 ?_; (refine zc auto_wl (c3 _ auto_heap) ?_; rintro r H' ⟨rfl, rfl⟩); refine yy6 ?_; refine aw_cond_t rfl ?_; refine yy8 ?_; (refine zc auto_wl (ca _ auto_heap) ?_; rintro r H' ⟨rfl, rfl⟩); refine awl_alloc rfl rfl rfl (fun oN hoN => ?_); refine yy142 ?_; refine yy12 ?_; (refine zc auto_wl (cn _ auto_heap) ?_; rintro r H' ⟨rfl, rfl⟩); refine yy12 ?_; (refine zc auto_wl (cb _ auto_heap) ?_; rintro r H' ⟨rfl, rfl⟩); refine awl_alloc rfl rfl rfl (fun oN hoN => ?_); refine yy142 ?_; refine yy12 ?_; (refine zc auto_wl (cm _ auto_heap) ?_; rintro r H' ⟨rfl, rfl⟩); refine yy12 ?_; (refine zc auto_wl (cc _ auto_heap) ?_; rintro r H' ⟨rfl, rfl⟩); refine awl_alloc rfl rfl rfl (fun oN hoN => ?_); refine yy142 ?_; refine yy16 ?_; refine yy10 ?_; refine yy141 ?_; refine yy141 ?_; refine yy141 ?_; refine yy37 ?_; refine yy20 ?_; refine yy36 ?_; refine yy33 ?_; rotate_left) | fail)
            exact ⟨.inl rfl, _, _, _, Ent.cellRetS 2 (o := o) _ rfl auto_heap (wc_exk (W.of rfl) (w_str0 rfl) rfl (exL_three _ _ _).symm) auto_heap (by (first | assumption | exact Ne.symm (by assumption) | exact AHeap.ne_of_fresh (by assumption) | exact Ne.symm (AHeap.ne_of_fresh (by assumption)) | exact AHeap.ne_of_fresh (AHeap.none_of_set (by assumption)) | exact Ne.symm (AHeap.ne_of_fresh (AHeap.none_of_set (by assumption))) | exact AHeap.ne_ns (by assumption) (by assumption) | exact AHeap.ne_sn (by assumption) (by assumption) | exact AHeap.ne_ns (by assumption) auto_heap2 | exact AHeap.ne_sn (by assumption) auto_heap2)) (fun sp sy sne shp => by have hp2 := hfr sp sy sne shp; exact ⟨by (first | assumption | exact Ne.symm (by assumption) | exact AHeap.ne_of_fresh (by assumption) | exact Ne.symm (AHeap.ne_of_fresh (by assumption)) | exact AHeap.ne_of_fresh (AHeap.none_of_set (by assumption)) | exact Ne.symm (AHeap.ne_of_fresh (AHeap.none_of_set (by assumption))) | exact AHeap.ne_ns (by assumption) (by assumption) | exact AHeap.ne_sn (by assumption) (by assumption) | exact AHeap.ne_ns (by assumption) auto_heap2 | exact AHeap.ne_sn (by assumption) auto_heap2), auto_heap⟩), ret_1 rfl (rv1_agg (m := 5) rfl rfl rfl (by decide)), rfl, rfl⟩
          | false =>
          rw [if_neg (by rw [b3]; decide)] at hGz
          have c3 := ft ([105, 102] : Bs) b3
          cases b4 : T.is ws ([109, 101, 114, 103, 101] : Bs) with
          | true =>
            rw [if_pos b4] at hGz
            have c4 := tt ([109, 101, 114, 103, 101] : Bs) b4
            have h1 := Tr.step hw hTk (is_kind b4).2.1
            generalize T.step = S1 at *
            have h1k := h1.kl
            have h1d := h1.d
            have cn := fun H h => name_calls (o := o) H S1 h h1k hl
            have h2 := Tr.name (S := S1) hw h1k
            generalize S1.name ws = A at *
            obtain ⟨nm, S2⟩ := A
            have h2k := h2.kl
            have h2d := h2.d
            simp only at *
            have ca := fun H h => cI H S2 h h2k (by omega)
            have h3 := gI S2 h2k (by omega)
            generalize deep ws nx.prim S2 = A at *
            obtain ⟨a, S3⟩ := A
            have h3k := h3.kl
            have h3d := h3.d
            simp only at *
            have cb := fun H h => cI H S3 h h3k (by omega)
            have h4 := gI S3 h3k (by omega)
            generalize deep ws nx.prim S3 = B at *
            obtain ⟨b, S4⟩ := B
            simp only at *
            subst hGz
            clear h1 h2 h3 h4
            (first | focus (refine aw_block ?_; refine yy8 ?_; refine yy56 ?_; refine yy130 ?_; refine yy6 ?_; refine yy90 ?_; intro hc; refine yy99 ?_; refine yy87 ?_; refine yy6 ?_; refine yy30 ?_; intro hc; replace hc := hide_nat hc; refine yy8 ?_; (refine zc auto_wl (c1 _ auto_heap) ?_; rintro r H' ⟨rfl, rfl⟩); refine yy82 ?_; refine yy8 ?_; (refine zc auto_wl (c2 _ auto_heap) ?_; rintro r H' ⟨rfl, rfl⟩); refine yy82 ?_; refine yy8 ?_; (refine zc auto_wl (c3 _ auto_heap) ?_; rintro r H' ⟨rfl, rfl⟩); refine yy82 ?_; refine yy8 ?_; (refine zc auto_wl (c4 _ auto_heap) ?_; rintro r H' ⟨rfl, rfl⟩); refine yy6 ?_; refine aw_cond_t rfl ?_; refine yy8 ?_; (refine zc auto_wl (cn _ auto_heap) ?_; rintro r H' ⟨rfl, rfl⟩); refine yy72 ?_; refine yy12 ?_; (refine zc auto_wl (ca _ auto_heap) ?_; rintro r H' ⟨rfl, rfl⟩); refine awl_alloc rfl rfl rfl (fun oN hoN => ?_); refine yy11 ?_; refine yy12 ?_; (refine zc auto_wl (cb _ auto_heap) ?_; rintro r H' ⟨rfl, rfl⟩); refine awl_alloc rfl rfl rfl (fun oN hoN => ?_); refine yy11 ?_; refine yy16 ?_; refine yy116 ?_; refine yy10 ?_; refine yy26 ?_; refine yy26 ?_; refine yy37 ?_; refine yy20 ?_; refine yy36 ?_; refine yy33 ?_; rotate_left) | fail)
            exact ⟨.inl rfl, _, _, _, Ent.cellRetS 2 (o := o) _ rfl auto_heap (wc_exk (W.of rfl) (W.of rfl) rfl (exL_two _ _).symm) auto_heap (by (first | assumption | exact Ne.symm (by assumption) | exact AHeap.ne_of_fresh (by assumption) | exact Ne.symm (AHeap.ne_of_fresh (by assumption)) | exact AHeap.ne_of_fresh (AHeap.none_of_set (by assumption)) | exact Ne.symm (AHeap.ne_of_fresh (AHeap.none_of_set (by assumption))) | exact AHeap.ne_ns (by assumption) (by assumption) | exact AHeap.ne_sn (by assumption) (by assumption) | exact AHeap.ne_ns (by assumption) auto_heap2 | exact AHeap.ne_sn (by assumption) auto_heap2)) (fun sp sy sne shp => by have hp2 := hfr sp sy sne shp; exact ⟨by (first | assumption | exact Ne.symm (by assumption) | exact AHeap.ne_of_fresh (by assumption) | exact Ne.symm (AHeap.ne_of_fresh (by assumption)) | exact AHeap.ne_of_fresh (AHeap.none_of_set (by assumption)) | exact Ne.symm (AHeap.ne_of_fresh (AHeap.none_of_set (by assumption))) | exact AHeap.ne_ns (by assumption) (by assumption) | exact AHeap.ne_sn (by assumption) (by assumption) | exact AHeap.ne_ns (by assumption) auto_heap2 | exact AHeap.ne_sn (by assumption) auto_heap2), auto_heap⟩), ret_1 rfl (rv1_agg (m := 5) rfl rfl rfl (by decide)), rfl, rfl⟩
          | false =>
          rw [if_neg (by rw [b4]; decide)] at hGz
          have c4 := ft ([109, 101, 114, 103, 101] : Bs) b4
          replace hGz := Hdn.mk hGz
          (first | focus (refine aw_block ?_; refine yy8 ?_; refine yy56 ?_; refine yy130 ?_; refine yy6 ?_; refine yy90 ?_; intro hc; refine yy99 ?_; refine yy87 ?_; refine yy6 ?_; refine yy30 ?_; intro hc; replace hc := hide_nat hc; refine yy8 ?_; (refine zc auto_wl (c1 _ auto_heap) ?_; rintro r H' ⟨rfl, rfl⟩); refine yy82 ?_; refine yy8 ?_; (refine zc auto_wl (c2 _ auto_heap) ?_; rintro r H' ⟨rfl, rfl⟩); refine yy82 ?_; refine yy8 ?_; (refine zc auto_wl (c3 _ auto_heap) ?_; rintro r H' ⟨rfl, rfl⟩); refine yy82 ?_; refine yy8 ?_; (refine zc auto_wl (c4 _ auto_heap) ?_; rintro r H' ⟨rfl, rfl⟩); refine yy82 ?_; refine yy39 ?_; rotate_left) | fail)
          exact ⟨_, _, Ent.sub _ (by (repeat' (first | exact RSub.nil _ | apply RSub.cons)); all_goals rfl), hGz.out, rfl, by exact auto_heap, by exact auto_heap, by exact auto_heap, fun p y hne hp => by have hp2 := hfr p y hne hp; exact auto_heap⟩
      · have nis : ∀ s, T.is ws s = false := fun s => by unfold Ps.is; rw [decide_eq_false g0]; rfl
        rw [if_neg (fun h => g0 h.1), if_neg (by rw [nis]; decide), if_neg (by rw [nis]; decide), if_neg (by rw [nis]; decide), if_neg (by rw [nis]; decide)] at hGz
        replace hGz := Hdn.mk hGz
        (first | focus (refine aw_block ?_; refine yy8 ?_; refine yy56 ?_; refine yy130 ?_; refine yy6 ?_; refine aw_condp rfl (fun hc => ?_) (fun hc => ?_); replace hc := hide_nat hc; refine yy39 ?_; rotate_left; exact absurd hc auto_no) | fail)
        exact ⟨_, _, Ent.sub _ (by (repeat' (first | exact RSub.nil _ | apply RSub.cons)); all_goals rfl), hGz.out, rfl, by exact auto_heap, by exact auto_heap, by exact auto_heap, hfr⟩
    clear hGz
    rintro R1 H2 ⟨hV, rfl, k1, k2, k3, hfr⟩
    unfold primV at hV
    have cn := fun H h => name_calls (o := o) H T h hTk hl
    have h1 := Tr.name (S := T) hw hTk
    generalize T.name ws = A at *
    obtain ⟨nm, U⟩ := A
    have hUk := h1.kl
    have hUd := h1.d.trans hTd
    simp only at *
    clear cs h1 hkw
    cases b1 : U.is ws ([40] : Bs) with
    | false =>
      rw [if_neg (by rw [b1]; decide)] at hV
      have ct := fun H h => take_f (o := o) H U ([40] : Bs) h hUk hl b1
      subst hV
      (first | focus (refine yy8 ?_; (refine zc auto_wl (cn _ auto_heap) ?_; rintro r H' ⟨rfl, rfl⟩); refine yy72 ?_; refine yy91 ?_; (refine zc auto_wl (ct _ auto_heap) ?_; rintro r H' ⟨rfl, rfl⟩); refine yy104 ?_; refine yy2 ?_; refine yy116 ?_; refine yy10 ?_; refine yy20 ?_; refine yy36 ?_; refine k_seq_ret ?_; rotate_left) | fail)
      exact ⟨.inl rfl, _, _, _, Ent.cellRetS 2 (o := o) _ rfl auto_heap (wc_exn (W.of rfl) (W.of rfl)) auto_heap (by (first | assumption | exact Ne.symm (by assumption) | exact AHeap.ne_of_fresh (by assumption) | exact Ne.symm (AHeap.ne_of_fresh (by assumption)) | exact AHeap.ne_of_fresh (AHeap.none_of_set (by assumption)) | exact Ne.symm (AHeap.ne_of_fresh (AHeap.none_of_set (by assumption))) | exact AHeap.ne_ns (by assumption) (by assumption) | exact AHeap.ne_sn (by assumption) (by assumption) | exact AHeap.ne_ns (by assumption) auto_heap2 | exact AHeap.ne_sn (by assumption) auto_heap2)) (fun sp sy sne shp => by have hp2 := hfr sp sy sne shp; exact ⟨by (first | assumption | exact Ne.symm (by assumption) | exact AHeap.ne_of_fresh (by assumption) | exact Ne.symm (AHeap.ne_of_fresh (by assumption)) | exact AHeap.ne_of_fresh (AHeap.none_of_set (by assumption)) | exact Ne.symm (AHeap.ne_of_fresh (AHeap.none_of_set (by assumption))) | exact AHeap.ne_ns (by assumption) (by assumption) | exact AHeap.ne_sn (by assumption) (by assumption) | exact AHeap.ne_ns (by assumption) auto_heap2 | exact AHeap.ne_sn (by assumption) auto_heap2), auto_heap⟩), ret_1 rfl (rv1_agg (m := 5) rfl rfl rfl (by decide)), rfl, rfl⟩
    | true =>
      rw [if_pos b1] at hV
      have ct := fun H h => take_t (o := o) H U ([40] : Bs) h hUk hl b1
      have h2 := Tr.step hw hUk (is_kind b1).2.1
      generalize U.step = V at *
      have hVk := h2.kl
      have hVd := h2.d.trans hUd
      cases b2 : V.is ws ([41] : Bs) with
      | true =>
        rw [if_pos b2] at hV
        have cr := fun H h => take_t (o := o) H V ([41] : Bs) h hVk hl b2
        subst hV
        (first | focus (refine yy8 ?_; (refine zc auto_wl (cn _ auto_heap) ?_; rintro r H' ⟨rfl, rfl⟩); refine yy72 ?_; refine yy91 ?_; (refine zc auto_wl (ct _ auto_heap) ?_; rintro r H' ⟨rfl, rfl⟩); refine yy52 ?_; refine yy25 ?_; refine yy2 ?_; refine yy116 ?_; refine yy10 ?_; refine yy20 ?_; refine awl_alloc rfl rfl rfl (fun oN hoN => ?_); refine yy11 ?_; refine yy91 ?_; (refine zc auto_wl (cr _ auto_heap) ?_; rintro r H' ⟨rfl, rfl⟩); refine yy122 ?_; refine yy98 ?_; refine yy36 ?_; refine k_seq_ret ?_; rotate_left) | fail)
        exact ⟨.inl rfl, _, _, _, Ent.cellRetS 2 (o := o) _ rfl auto_heap (wc_exn (W.of rfl) (W.of rfl)) auto_heap (by (first | assumption | exact Ne.symm (by assumption) | exact AHeap.ne_of_fresh (by assumption) | exact Ne.symm (AHeap.ne_of_fresh (by assumption)) | exact AHeap.ne_of_fresh (AHeap.none_of_set (by assumption)) | exact Ne.symm (AHeap.ne_of_fresh (AHeap.none_of_set (by assumption))) | exact AHeap.ne_ns (by assumption) (by assumption) | exact AHeap.ne_sn (by assumption) (by assumption) | exact AHeap.ne_ns (by assumption) auto_heap2 | exact AHeap.ne_sn (by assumption) auto_heap2)) (fun sp sy sne shp => by have hp2 := hfr sp sy sne shp; exact ⟨by (first | assumption | exact Ne.symm (by assumption) | exact AHeap.ne_of_fresh (by assumption) | exact Ne.symm (AHeap.ne_of_fresh (by assumption)) | exact AHeap.ne_of_fresh (AHeap.none_of_set (by assumption)) | exact Ne.symm (AHeap.ne_of_fresh (AHeap.none_of_set (by assumption))) | exact AHeap.ne_ns (by assumption) (by assumption) | exact AHeap.ne_sn (by assumption) (by assumption) | exact AHeap.ne_ns (by assumption) auto_heap2 | exact AHeap.ne_sn (by assumption) auto_heap2), auto_heap⟩), ret_1 rfl (rv1_agg (m := 5) rfl rfl rfl (by decide)), rfl, rfl⟩
      | false =>
        rw [if_neg (by rw [b2]; decide)] at hV
        have cr := fun H h => take_f (o := o) H V ([41] : Bs) h hVk hl b2
        have hmu : mu ws V < ws.length + 3 := by unfold mu; split <;> omega
        have hT2 := tr_args hw gE (ws.length + 3) [] V hVk hVd
        generalize hB : argsF ws (deep ws nx.arrow) (ws.length + 3) [] V = B at *
        obtain ⟨ks, Z⟩ := B
        have hZk := hT2.kl
        simp only at *
        clear h2
        (first | focus (refine yy8 ?_; (refine zc auto_wl (cn _ auto_heap) ?_; rintro r H' ⟨rfl, rfl⟩); refine yy72 ?_; refine yy91 ?_; (refine zc auto_wl (ct _ auto_heap) ?_; rintro r H' ⟨rfl, rfl⟩); refine yy52 ?_; refine yy25 ?_; refine yy2 ?_; refine yy116 ?_; refine yy10 ?_; refine yy20 ?_; refine awl_alloc rfl rfl rfl (fun oN hoN => ?_); refine yy11 ?_; refine yy91 ?_; (refine zc auto_wl (cr _ auto_heap) ?_; rintro r H' ⟨rfl, rfl⟩); refine yy25 ?_; rotate_left) | fail)
        have hoE : H oN = none := by
          cases e : H oN with
          | none => rfl
          | some y => exact absurd (hfr oN y (fun e2 => by have := AHeap.none_of_set (AHeap.none_of_set hoN); rw [e2, k1] at this; cases this) e) (by rw [AHeap.none_of_set (AHeap.none_of_set hoN)]; exact fun h => by cases h)
        have hEo : oN ≠ o := fun e => by have h9 := AHeap.none_of_set (AHeap.none_of_set hoN); rw [e, k1] at h9; cases h9
        have hER : oN ≠ oR := fun e => by have h9 := AHeap.none_of_set (AHeap.none_of_set hoN); rw [e, k2] at h9; cases h9
        have hEW : oN ≠ oW := fun e => by have h9 := AHeap.none_of_set (AHeap.none_of_set hoN); rw [e, k3] at h9; cases h9
        obtain ⟨oE, hoEe⟩ : ∃ x, x = oN := ⟨_, rfl⟩
        subst hoEe
        replace hV := Hdn.mk hV
        replace hB := Hdn.mk hB
        refine aw_seq ?_
        refine aw_kmid (fun R1 H3 => R1 = [(0, .ptr o 0), (2, .ptr oR 0), (12, .ptr oE 0)] ∧ H3 o = some (.cel (Z.cells ws)) ∧ H3 oR = some (.cel exZ) ∧ H3 oE = some (.cel (Ex.mk ([99, 97, 108, 108] : Bs) nm 0 w.at_ ks).cells) ∧ (∀ p y, p ≠ o → H p = some y → H3 p = some y)) ?_ ?_
        · refine aw_block ?_
          refine aw_loop (fun mm R1 H3 => ∃ (acc : List Ex) (S : Ps) (m : Nat) (kc : AV), S.k < ws.length ∧ S.d = d ∧ mu ws S < m ∧ argsF ws (deep ws nx.arrow) m acc S = (ks, Z) ∧ acc.length + mu ws S ≤ 20010 ∧ H3 o = some (.cel (S.cells ws)) ∧ H3 oR = some (.cel exZ) ∧ H3 oE = some (.cel [.str ([99, 97, 108, 108] : Bs), .str nm, avI 0, avI w.at_, kc]) ∧ KidsOk H H3 o oR oE kc acc ∧ (∀ p y, p ≠ o → H p = some y → H3 p = some y) ∧ R1 = [(0, .ptr o 0), (2, .ptr oR 0), (12, .ptr oE 0)] ∧ m = mm) ?_ ?_
          · exact ⟨_, _, _, Ent.sub _ (by (repeat' (first | exact RSub.nil _ | apply RSub.cons)); all_goals rfl), [], V, _, .raw (.slice none 0 0), hVk, hVd, hmu, hB.out, by show 0 + _ ≤ _; omega, by exact auto_heap, by exact auto_heap, by exact auto_heap, .inl ⟨rfl, rfl⟩, fun p y hne hp => by have hp2 := hfr p y hne hp; exact auto_heap, rfl, rfl⟩
          clear hmu hB hVk hVd b2 cr hoN hT2 hEW ct cn k1 k2 k3 b1
          rintro mm R1 H3 ⟨acc, S, m, kc, hk, hSd, hm, hB, hal, q1, q2, q3, hK, hfr3, rfl, rfl⟩
          obtain ⟨m, rfl⟩ : ∃ m', m = m' + 1 := ⟨m - 1, by omega⟩
          unfold argsF at hB
          by_cases g0 : S.err = 0
          · rw [if_pos g0] at hB
            have ca := fun H h => cE H S h hk hSd
            have h2 := gE S hk hSd
            generalize deep ws nx.arrow S = A at *
            obtain ⟨e, S2⟩ := A
            have h2k := h2.kl
            have h2d := h2.d.trans hSd
            have h2m := h2.mu
            simp only at *
            cases b3 : S2.is ws ([44] : Bs) with
            | true =>
              have cc := fun H h => take_t (o := o) H S2 ([44] : Bs) h h2k hl b3
              have h3 := Tr.step hw h2k (is_kind b3).2.1
              have h3m := mu_step h2k (is_kind b3).1
              unfold Ps.take at hB
              rw [if_pos b3, if_pos rfl] at hB
              replace hB := Hdn.mk hB
              generalize S2.step = S3 at *
              have h3k := h3.kl
              have h3d := h3.d.trans h2d
              rcases hK with ⟨rfl, rfl⟩ | ⟨oK, rfl, j1, j2, j3, j4, j5⟩
              · (first | focus (refine yy46 ?_; refine yy56 ?_; refine yy87 ?_; refine yy4 ?_; refine aw_condp rfl (fun hc => ?_) (fun hc => ?_); refine yy51 ?_; refine yy8 ?_; (refine zc auto_wl (ca _ auto_heap) ?_; rintro r H' ⟨rfl, rfl⟩); refine awl_alloc rfl rfl rfl (fun oN hoN => ?_); refine yy142 ?_; refine yy16 ?_; refine yy10 ?_; refine yy141 ?_; refine yy37 ?_; refine awl_own_nil_cel rfl rfl rfl auto_src auto_len auto_len (fun oN hoN => ?_); refine yy62 ?_; refine yy58 ?_; refine yy12 ?_; (refine zc auto_wl (cc _ auto_heap) ?_; rintro r H' ⟨rfl, rfl⟩); refine yy52 ?_; refine yy81 ?_; refine yy39 ?_; rotate_left; exact absurd hc auto_no) | fail)
                obtain ⟨n1, n2⟩ := freshH hfr3 q1 (AHeap.none_of_set hoN)
                have n3 : oN ≠ oR := fun e => by have h9 := AHeap.none_of_set hoN; rw [e, q2] at h9; cases h9
                have n4 : oN ≠ oE := fun e => by have h9 := AHeap.none_of_set hoN; rw [e, q3] at h9; cases h9
                exact ⟨m, _, _, Nat.lt_succ_self _, Ent.sub _ (by (repeat' (first | exact RSub.nil _ | apply RSub.cons)); all_goals rfl), [e], S3, m, .vw oN 5 0 1, h3k, h3d, by omega, hB.out, by show 1 + _ ≤ _; simp at hal; omega, by exact auto_heap, by exact auto_heap, by exact auto_heap, .inr ⟨oN, rfl, by rw [exL_one]; exact auto_heap, n1, n2, n3, n4⟩, fun p y hne hp => by have hp2 := hfr3 p y hne hp; exact auto_heap, rfl, rfl⟩
              · have hle := exL_len acc
                (first | focus (refine yy46 ?_; refine yy56 ?_; refine yy87 ?_; refine yy4 ?_; refine aw_condp rfl (fun hc => ?_) (fun hc => ?_); refine yy51 ?_; refine yy8 ?_; (refine zc auto_wl (ca _ auto_heap) ?_; rintro r H' ⟨rfl, rfl⟩); refine awl_alloc rfl rfl rfl (fun oN hoN => ?_); refine yy142 ?_; refine yy16 ?_; refine yy10 ?_; refine yy141 ?_; refine yy37 ?_; refine za4 rfl rfl rfl auto_heap auto_al auto_src auto_len auto_len (fun oN hoN => ?_); refine yy62 ?_; refine yy58 ?_; refine yy12 ?_; (refine zc auto_wl (cc _ auto_heap) ?_; rintro r H' ⟨rfl, rfl⟩); refine yy52 ?_; refine yy81 ?_; refine yy39 ?_; rotate_left; exact absurd hc auto_no) | fail)
                obtain ⟨n1, n2⟩ := freshH hfr3 q1 (AHeap.none_of_set hoN)
                have n3 : oN ≠ oR := fun e => by have h9 := AHeap.none_of_set hoN; rw [e, q2] at h9; cases h9
                have n4 : oN ≠ oE := fun e => by have h9 := AHeap.none_of_set hoN; rw [e, q3] at h9; cases h9
                exact ⟨m, _, _, Nat.lt_succ_self _, Ent.sub _ (by (repeat' (first | exact RSub.nil _ | apply RSub.cons)); all_goals rfl), acc ++ [e], S3, m, .vw oN 5 0 (acc.length + 1), h3k, h3d, by omega, hB.out, by rw [List.length_append, List.length_singleton]; omega, by exact auto_heap, by exact auto_heap, by exact auto_heap, .inr ⟨oN, by rw [List.length_append]; rfl, by rw [exL_app, exL_one]; exact auto_heap, n1, n2, n3, n4⟩, fun p y hne hp => by
                  have hp2 := hfr3 p y hne hp
                  have hp3 : p ≠ oK := fun e => by rw [e, j2] at hp; cases hp
                  exact auto_heap, rfl, rfl⟩
            | false =>
              have cc := fun H h => take_f (o := o) H S2 ([44] : Bs) h h2k hl b3
              unfold Ps.take at hB
              rw [b3] at hB
              simp only [Bool.false_eq_true, if_false] at hB
              simp only [Prod.mk.injEq] at hB
              obtain ⟨rfl, rfl⟩ := hB
              rcases hK with ⟨rfl, rfl⟩ | ⟨oK, rfl, j1, j2, j3, j4, j5⟩
              · (first | focus (refine yy46 ?_; refine yy56 ?_; refine yy87 ?_; refine yy4 ?_; refine aw_condp rfl (fun hc => ?_) (fun hc => ?_); refine yy51 ?_; refine yy8 ?_; (refine zc auto_wl (ca _ auto_heap) ?_; rintro r H' ⟨rfl, rfl⟩); refine awl_alloc rfl rfl rfl (fun oN hoN => ?_); refine yy142 ?_; refine yy16 ?_; refine yy10 ?_; refine yy141 ?_; refine yy37 ?_; refine awl_own_nil_cel rfl rfl rfl auto_src auto_len auto_len (fun oN hoN => ?_); refine yy62 ?_; refine yy58 ?_; refine yy12 ?_; (refine zc auto_wl (cc _ auto_heap) ?_; rintro r H' ⟨rfl, rfl⟩); refine yy104 ?_; refine aw_exit ?_; refine k_block_ne rfl ?_; refine yy134 ?_; rotate_left; exact absurd hc auto_no) | fail)
                obtain ⟨n1, n2⟩ := freshH hfr3 q1 (AHeap.none_of_set hoN)
                have n3 : oN ≠ oR := fun e => by have h9 := AHeap.none_of_set hoN; rw [e, q2] at h9; cases h9
                have n4 : oN ≠ oE := fun e => by have h9 := AHeap.none_of_set hoN; rw [e, q3] at h9; cases h9
                have n5 := n4.symm
                refine ⟨_, _, (Ent.sub _ (by (repeat' (first | exact RSub.nil _ | apply RSub.cons)); all_goals rfl)).trans (Ent.seal_cellC (p := oE) (o := oN) (k := 4) (sz := 5) (ys := exL [e]) n5 auto_heap (by rw [exL_one]; exact auto_heap) rfl (exL_len _)), rfl, by exact auto_heap, by exact auto_heap, AHeap.set_self _ _ _, fun p y hne hp => by
                  have hp2 := hfr3 p y hne hp
                  have hp3 : p ≠ oN := fun e => by rw [e, n1] at hp; cases hp
                  have hp4 : p ≠ oE := fun e => by rw [e, hoE] at hp; cases hp
                  exact auto_heap⟩
              · have hle := exL_len acc
                (first | focus (refine yy46 ?_; refine yy56 ?_; refine yy87 ?_; refine yy4 ?_; refine aw_condp rfl (fun hc => ?_) (fun hc => ?_); refine yy51 ?_; refine yy8 ?_; (refine zc auto_wl (ca _ auto_heap) ?_; rintro r H' ⟨rfl, rfl⟩); refine awl_alloc rfl rfl rfl (fun oN hoN => ?_); refine yy142 ?_; refine yy16 ?_; refine yy10 ?_; refine yy141 ?_; refine yy37 ?_; refine za4 rfl rfl rfl auto_heap auto_al auto_src auto_len auto_len (fun oN hoN => ?_); refine yy62 ?_; refine yy58 ?_; refine yy12 ?_; (refine zc auto_wl (cc _ auto_heap) ?_; rintro r H' ⟨rfl, rfl⟩); refine yy104 ?_; refine aw_exit ?_; refine k_block_ne rfl ?_; refine yy134 ?_; rotate_left; exact absurd hc auto_no) | fail)
                obtain ⟨n1, n2⟩ := freshH hfr3 q1 (AHeap.none_of_set hoN)
                have n3 : oN ≠ oR := fun e => by have h9 := AHeap.none_of_set hoN; rw [e, q2] at h9; cases h9
                have n4 : oN ≠ oE := fun e => by have h9 := AHeap.none_of_set hoN; rw [e, q3] at h9; cases h9
                have n5 := n4.symm
                refine ⟨_, _, (Ent.sub _ (by (repeat' (first | exact RSub.nil _ | apply RSub.cons)); all_goals rfl)).trans (Ent.seal_cellC (p := oE) (o := oN) (k := 4) (sz := 5) (ys := exL (acc ++ [e])) n5 auto_heap (by rw [exL_app, exL_one]; exact auto_heap) rfl (by rw [exL_len, List.length_append]; rfl)), rfl, by exact auto_heap, by exact auto_heap, ?_, fun p y hne hp => by
                  have hp2 := hfr3 p y hne hp
                  have hp3 : p ≠ oN := fun e => by rw [e, n1] at hp; cases hp
                  have hp4 : p ≠ oE := fun e => by rw [e, hoE] at hp; cases hp
                  have hp5 : p ≠ oK := fun e => by rw [e, j2] at hp; cases hp
                  exact auto_heap⟩
                refine (AHeap.set_self _ _ _).trans (congrArg (fun n => some (AO.cel [.str ([99, 97, 108, 108] : Bs), .str nm, avI 0, avI w.at_, .sls n (exL (acc ++ [e]))])) ?_)
                show acc.length + 1 = (acc ++ [e]).length
                rw [List.length_append]; rfl
          · rw [if_neg g0] at hB
            simp only [Prod.mk.injEq] at hB
            obtain ⟨rfl, rfl⟩ := hB
            (first | focus (refine yy46 ?_; refine yy56 ?_; refine yy87 ?_; refine yy4 ?_; refine yy90 ?_; intro hc; replace hc := hide_nat hc; refine yy113 ?_; rotate_left) | fail)
            rcases hK with ⟨rfl, rfl⟩ | ⟨oK, rfl, j1, j2, j3, j4, j5⟩
            · exact ⟨_, _, (Ent.sub _ (by (repeat' (first | exact RSub.nil _ | apply RSub.cons)); all_goals rfl)).trans (Ent.wcelH (AHeap.set_id q3).symm (wc_exn (W.of rfl) (W.of rfl))), rfl, by exact auto_heap, by exact auto_heap, AHeap.set_self _ _ _, fun p y hne hp => by
                have hp2 := hfr3 p y hne hp
                have hp4 : p ≠ oE := fun e => by rw [e, hoE] at hp; cases hp
                exact auto_heap⟩
            · have j6 := j5.symm
              exact ⟨_, _, (Ent.sub _ (by (repeat' (first | exact RSub.nil _ | apply RSub.cons)); all_goals rfl)).trans (Ent.seal_cellC (p := oE) (o := oK) (k := 4) (sz := 5) (ys := exL acc) j6 q3 j1 rfl (exL_len _)), rfl, by exact auto_heap, by exact auto_heap, AHeap.set_self _ _ _, fun p y hne hp => by
                have hp2 := hfr3 p y hne hp
                have hp4 : p ≠ oE := fun e => by rw [e, hoE] at hp; cases hp
                have hp5 : p ≠ oK := fun e => by rw [e, j2] at hp; cases hp
                exact auto_heap⟩
        · clear hmu hB hVk hVd b2 cr hoN hT2 hEW ct cn k1 k2 k3 b1
          rintro R1 H3 ⟨rfl, q1, q2, q3, hfr3⟩
          have cw := fun H h => want_calls (o := o) H Z ([41] : Bs) h hZk hl
          replace hV := hV.out
          subst hV
          generalize Z.want ws ([41] : Bs) = Y at *
          (first | focus (refine yy8 ?_; (refine zc auto_wl (cw _ auto_heap) ?_; rintro r H' ⟨rfl, rfl⟩); refine yy16 ?_; refine yy26 ?_; refine yy36 ?_; rotate_left) | fail)
          exact ⟨.inl rfl, _, _, _, Ent.cellRetS 2 (o := o) _ rfl auto_heap (wc_refl _) auto_heap (by (first | assumption | exact Ne.symm (by assumption) | exact AHeap.ne_of_fresh (by assumption) | exact Ne.symm (AHeap.ne_of_fresh (by assumption)) | exact AHeap.ne_of_fresh (AHeap.none_of_set (by assumption)) | exact Ne.symm (AHeap.ne_of_fresh (AHeap.none_of_set (by assumption))) | exact AHeap.ne_ns (by assumption) (by assumption) | exact AHeap.ne_sn (by assumption) (by assumption) | exact AHeap.ne_ns (by assumption) auto_heap2 | exact AHeap.ne_sn (by assumption) auto_heap2)) (fun sp sy sne shp => by have hp2 := hfr3 sp sy sne shp; exact ⟨by (first | assumption | exact Ne.symm (by assumption) | exact AHeap.ne_of_fresh (by assumption) | exact Ne.symm (AHeap.ne_of_fresh (by assumption)) | exact AHeap.ne_of_fresh (AHeap.none_of_set (by assumption)) | exact Ne.symm (AHeap.ne_of_fresh (AHeap.none_of_set (by assumption))) | exact AHeap.ne_ns (by assumption) (by assumption) | exact AHeap.ne_sn (by assumption) (by assumption) | exact AHeap.ne_ns (by assumption) auto_heap2 | exact AHeap.ne_sn (by assumption) auto_heap2), auto_heap⟩), ret_1 rfl (rv1_agg (m := 5) rfl rfl rfl (by decide)), rfl, rfl⟩
end
end Go.Proofs.Ytmgkhfnhaeplgaa

namespace Go.Proofs.Ytmgkhfnhaeplgaa
open Go Go.Am Go.Proofs
set_option linter.unusedSimpArgs false
set_option linter.unusedVariables false

/-! The reference's parser: expressions, all levels. -/
section
variable {ws : List Wd} {o : Nat}
theorem mk_calls (hw : WsOk ws) {d : Nat} {nx : Lv} (hd : d ≤ 30) (hg : d < 30 → GoodLv ws (d + 1) nx) (hx : d < 30 → LvC ws o (d + 1) nx) : LvC ws o d (mkLv ws nx) := by
  have cE := expr_calls hw hd hg hx
  have cI := inner_calls hw hd hg hx
  have gE : Good ws d (deep ws nx.arrow) := fun S hk hS => tr_deep (fun z => (hg z).arrow) hk hS
  have gI : Good ws d (deep ws nx.prim) := fun S hk hS => tr_deep (fun z => (hg z).prim) hk hS
  have cP := prim_calls hw hd gE gI cE cI
  have cU := un_calls hw hd hg hx cP
  have cW := when_calls hw hd (tr_un hw hg) cU
  have cF := fby_calls hw hd hg hx (tr_when hw hg) cW
  have c0 := row0_calls cF
  have c1 := row_calls hw (m := 0) (by decide) (tr_row hw hg 0) c0
  have c2 := row_calls hw (m := 1) (by decide) (tr_row hw hg 1) c1
  have c3 := row_calls hw (m := 2) (by decide) (tr_row hw hg 2) c2
  have c4 := row_calls hw (m := 3) (by decide) (tr_row hw hg 3) c3
  have c5 := row_calls hw (m := 4) (by decide) (tr_row hw hg 4) c4
  have cA := arrow_calls hw hd hg hx (tr_row hw hg 5) c5
  clear c0 c1 c2 c3 c4 c5 cE cI gE gI cW hg hx
  unfold mkLv
  generalize arrowF ws nx = f1 at *
  generalize fbyF ws nx = f2 at *
  generalize unF ws nx = f3 at *
  generalize primF ws nx = f4 at *
  exact ⟨cA, cF, cU, cP⟩
theorem lv_calls (hw : WsOk ws) (n : Nat) : ∀ d, d + n = 30 → LvC ws o d (lv ws n) := by
  induction n with
  | zero =>
    intro d hd
    rw [lv]
    exact mk_calls hw (nx := Lv0) (by omega) (fun z => absurd z (by omega)) (fun z => absurd z (by omega))
  | succ n ih =>
    intro d hd
    rw [lv]
    exact mk_calls hw (nx := lv ws n) (by omega) (fun z => good_lv hw n (d + 1) (by omega)) (fun z => ih (d + 1) (by omega))
theorem exprF_calls (hw : WsOk ws) (H : AHeap) (S : Ps) (h : H o = some (.cel (S.cells ws))) (hk : S.k < ws.length) (hd : S.d ≤ 29) :
    ACalls Try.prog 68 [.ptr o 0] H fun r H' => r = exA (exprF ws S).1 ∧ H' = H.set o (.cel ((exprF ws S).2.cells ws)) := by
  unfold exprF
  exact expr_calls hw (d := S.d) (by omega) (fun z => good_lv hw (29 - S.d) (S.d + 1) (by omega)) (fun z => lv_calls hw (29 - S.d) (S.d + 1) (by omega)) H S h hk rfl
end
end Go.Proofs.Ytmgkhfnhaeplgaa

namespace Go.Proofs.Ytmgkhfnhaeplgaa
open Go Go.Am Go.Proofs
set_option linter.unusedSimpArgs false
set_option linter.unusedVariables false
set_option maxRecDepth 20000
set_option maxHeartbeats 8000000

/-! The reference's parser: declarations. -/
abbrev Vr.cells (v : Vr) : List AV := [.str v.name, avI v.kind, .str v.on, avB v.not, avI v.at_]
abbrev vrL (l : List Vr) : List AV := l.flatMap Vr.cells
theorem vr_len (l : List Vr) : (vrL l).length = l.length * 5 := by
  induction l with
  | nil => rfl
  | cons x l ih => unfold vrL at *; rw [List.flatMap_cons, List.length_append, ih]; show 5 + l.length * 5 = (l.length + 1) * 5; omega
theorem vr_snoc (l : List Vr) (v : Vr) : vrL (l ++ [v]) = vrL l ++ v.cells := by unfold vrL; rw [List.flatMap_append, List.flatMap_singleton]
theorem vr_app (l m : List Vr) : vrL (l ++ m) = vrL l ++ vrL m := List.flatMap_append
theorem sub2 {H K : AHeap} {o oN : Nat} {X Y : AO} (hX : K o = some X) (hN : K oN = some Y) (hf : ∀ p y, p ≠ o → p ≠ oN → H p = some y → K p = some y) : Sub ((H.set o X).set oN Y) K := fun p y hp => by
  by_cases h1 : p = oN
  · subst h1; rw [AHeap.set_self] at hp; cases hp; exact hN
  · rw [AHeap.get_set_ne _ h1] at hp
    by_cases h2 : p = o
    · subst h2; rw [AHeap.set_self] at hp; cases hp; exact hX
    · rw [AHeap.get_set_ne _ h2] at hp; exact hf p y h2 h1 hp
/-- A list whose first so many are turned. -/
def upTo {α : Type} (f : α → α) : Nat → List α → List α
  | 0, l => l
  | _ + 1, [] => []
  | i + 1, x :: l => f x :: upTo f i l
theorem upTo_len {α : Type} (f : α → α) : ∀ (i : Nat) (l : List α), (upTo f i l).length = l.length
  | 0, l => rfl
  | _ + 1, [] => rfl
  | i + 1, x :: l => by rw [upTo, List.length_cons, upTo_len f i l, List.length_cons]
theorem upTo_get {α : Type} (f : α → α) : ∀ (i : Nat) (l : List α), (upTo f i l)[i]? = l[i]?
  | 0, l => rfl
  | _ + 1, [] => rfl
  | i + 1, x :: l => by rw [upTo, List.getElem?_cons_succ, upTo_get f i l, List.getElem?_cons_succ]
theorem upTo_set {α : Type} (f : α → α) : ∀ (i : Nat) (l : List α) (x : α), l[i]? = some x → upTo f (i + 1) l = (upTo f i l).set i (f x)
  | 0, [], x, h => by cases h
  | 0, y :: l, x, h => by simp at h; subst h; rfl
  | i + 1, [], x, h => by cases h
  | i + 1, y :: l, x, h => by
    rw [List.getElem?_cons_succ] at h
    rw [upTo, upTo_set f i l x h, upTo, List.set_cons_succ]
theorem upTo_all {α : Type} (f : α → α) : ∀ (l : List α), upTo f l.length l = l.map f
  | [] => rfl
  | x :: l => by rw [List.length_cons, upTo, upTo_all f l, List.map_cons]
theorem flat_set {α : Type} {f : α → List AV} {sz : Nat} (hf : ∀ x, (f x).length = sz) : ∀ (l : List α) (i j : Nat) (x y : α) (v : AV), l[i]? = some x → j < sz → f y = (f x).set j v → (l.flatMap f).set (i * sz + j) v = (l.set i y).flatMap f
  | [], i, j, x, y, v, h, _, _ => by cases h
  | z :: l, 0, j, x, y, v, h, hj, hy => by
    simp at h; subst h
    rw [List.flatMap_cons, List.set_cons_zero, List.flatMap_cons, hy, Nat.zero_mul, Nat.zero_add, List.set_append_left _ _ (by rw [hf]; exact hj)]
  | z :: l, i + 1, j, x, y, v, h, hj, hy => by
    rw [List.getElem?_cons_succ] at h
    rw [List.flatMap_cons, List.set_cons_succ, List.flatMap_cons, ← flat_set hf l i j x y v h hj hy, List.set_append_right _ _ (by rw [hf, Nat.succ_mul]; omega), hf]
    congr 2
    rw [Nat.succ_mul]; omega
section
variable {ws : List Wd} {o : Nat}
theorem decl_own (hw : WsOk ws) (H : AHeap) (S : Ps) (h : H o = some (.cel (S.cells ws))) (hk : S.k < ws.length) :
    ACalls Try.prog 74 [.ptr o 0] H fun r H' => ∃ oL, r = .vw oL 5 0 (declF ws S).1.length ∧ H oL = none ∧ oL ≠ o ∧ H' = (H.set o (.cel ((declF ws S).2.cells ws))).set oL (.cel (vrL (declF ws S).1)) := by
  have hl := hw.len
  have hmu : mu ws S < ws.length + 3 := by unfold mu; split <;> omega
  unfold declF
  generalize hR : declL ws (ws.length + 3) [] S = Rz
  refine acalls_of_aw1 Try.func74 rfl (by decide) ?_
  (first | focus (refine yy15 ?_; refine yy15 ?_; rotate_left) | fail)
  refine aw_own_nil 3 5 (.cel []) rfl rfl (fun oL hoL => ?_)
  have hLo : oL ≠ o := by (first | assumption | exact Ne.symm (by assumption) | exact AHeap.ne_of_fresh (by assumption) | exact Ne.symm (AHeap.ne_of_fresh (by assumption)) | exact AHeap.ne_of_fresh (AHeap.none_of_set (by assumption)) | exact Ne.symm (AHeap.ne_of_fresh (AHeap.none_of_set (by assumption))) | exact AHeap.ne_ns (by assumption) (by assumption) | exact AHeap.ne_sn (by assumption) (by assumption) | exact AHeap.ne_ns (by assumption) auto_heap2 | exact AHeap.ne_sn (by assumption) auto_heap2)
  refine aw_seq ?_
  refine aw_kmid (fun R1 H1 => ∃ (oL : Nat) (acc : List Vr) (T : Ps), Rz = (some acc, T) ∧ T.k < ws.length ∧ H1 o = some (.cel (T.cells ws)) ∧ H1 oL = some (.cel (vrL acc)) ∧ H oL = none ∧ oL ≠ o ∧ acc.length ≤ 20010 ∧ (∀ p y, p ≠ o → H p = some y → H1 p = some y) ∧ R1 = [(0, .ptr o 0), (3, .vw oL 5 0 acc.length)]) ?_ ?_
  · refine aw_block ?_
    refine aw_loop (fun mm R1 H1 => ∃ (oL : Nat) (acc : List Vr) (S : Ps) (m : Nat), S.k < ws.length ∧ mu ws S < m ∧ declL ws m acc S = Rz ∧ acc.length + mu ws S ≤ 20010 ∧ H1 o = some (.cel (S.cells ws)) ∧ H1 oL = some (.cel (vrL acc)) ∧ H oL = none ∧ oL ≠ o ∧ (∀ p y, p ≠ o → H p = some y → H1 p = some y) ∧ R1 = [(0, .ptr o 0), (3, .vw oL 5 0 acc.length)] ∧ m = mm) ?_ ?_
    · exact ⟨_, _, _, Ent.sub _ (by (repeat' (first | exact RSub.nil _ | apply RSub.cons)); all_goals rfl), oL, [], S, _, hk, hmu, hR, by show 0 + _ ≤ _; omega, by exact auto_heap, AHeap.set_self _ _ _, hoL, hLo, fun p y hne hp => auto_heap, rfl, rfl⟩
    clear hmu hR hk h hLo hoL oL
    rintro mm R1 H1 ⟨oL, acc, S, m, hk, hm, hR, hal, q1, q2, hoL, hLo, hfr, rfl, rfl⟩
    obtain ⟨m, rfl⟩ : ∃ m', m = m' + 1 := ⟨m - 1, by omega⟩
    unfold declL at hR
    have hle := vr_len acc
    have cw := fun H h => w_calls (o := o) H S h hk hl
    by_cases g0 : S.err = 0
    · rw [if_pos g0] at hR
      have hmS : 1 ≤ mu ws S := by unfold mu; rw [if_pos g0]; omega
      by_cases gk : (S.w ws).kind = 1 ∧ S.names = 64
      · rw [if_pos gk] at hR
        have cf := fun H h => fail_calls (o := o) H S 2 h hk hl
        obtain ⟨gk1, gk2⟩ := gk
        generalize S.fail ws 2 = T at *
        generalize S.w ws = w at *
        subst hR
        (first | focus (refine yy46 ?_; refine yy56 ?_; refine yy87 ?_; refine yy4 ?_; refine aw_condp rfl (fun hc => ?_) (fun hc => ?_); refine yy51 ?_; refine yy46 ?_; (refine zc auto_wl (cw _ auto_heap) ?_; rintro r H' ⟨rfl, rfl⟩); refine yy57 ?_; refine yy17 ?_; refine zg1 rfl rfl rfl (fun hc => ?_) (fun hc => ?_); refine yy125 ?_; refine yy5 ?_; refine awl_s rfl (s_nilCheck_ptr rfl) ?_; refine yy5 ?_; refine yy62 ?_; refine yy5 ?_; refine yy135 ?_; refine yy5 ?_; refine awl_s rfl (s_eql rfl rfl) ?_; refine yy79 ?_; refine aw_condp rfl (fun hc => ?_) (fun hc => ?_); refine yy8 ?_; (refine zc auto_wl (cf _ auto_heap) ?_; rintro r H' ⟨rfl, rfl⟩); refine yy4 ?_; refine yy15 ?_; rotate_left; exact absurd hc auto_no; exact absurd hc auto_no; exact absurd hc auto_no) | fail)
        refine aw_own_nil 2 5 (.cel []) rfl rfl (fun oN hoN => ?_)
        obtain ⟨n1, n2⟩ := freshH hfr q1 (AHeap.none_of_set hoN)
        (first | focus (refine aw_ret ?_; refine yy102 ?_; refine yy33 ?_; rotate_left) | fail)
        exact ⟨.inl rfl, _, _, _, Ent.gc (sub2 (o := o) (oN := oN) auto_heap auto_heap (fun p y h1 h2 hp => by have hp2 := hfr p y h1 hp; exact auto_heap)), ret1 rfl rfl, oN, rfl, n1, n2, rfl⟩
      · rw [if_neg gk] at hR
        replace gk := Hdn.mk gk
        have cn := fun H h => name_calls (o := o) H S h hk hl
        have h1 := Tr.name (S := S) hw hk
        generalize hN : S.name ws = A at *
        obtain ⟨nm, U⟩ := A
        have hUk := h1.kl
        simp only at *
        have ct := fun H h => take_calls (o := o) H { U with names := inc U.names } ([44] : Bs) h hUk hl
        have h2 : Tr ws S { U with names := inc U.names } := ⟨h1.d, h1.k, h1.kl, h1.e⟩
        have h3 := Tr.take (S := { U with names := inc U.names }) (s := ([44] : Bs)) hw hUk
        have hmt : (({ U with names := inc U.names } : Ps).take ws ([44] : Bs)).1 = true → mu ws (({ U with names := inc U.names } : Ps).take ws ([44] : Bs)).2 < mu ws S := fun ht => by
          unfold Ps.take at *
          split at ht
          · rename_i hb
            rw [if_pos hb]
            exact Nat.lt_of_lt_of_le (mu_step hUk (is_kind hb).1) h2.mu
          · cases ht
        generalize ({ U with names := inc U.names } : Ps).take ws ([44] : Bs) = B at *
        obtain ⟨tb, V⟩ := B
        have hVk := h3.kl
        simp only at *
        generalize S.w ws = w at *
        cases tb with
        | true =>
          rw [if_pos rfl] at hR
          have hmV := hmt rfl
          clear hmt
          replace hR := Hdn.mk hR
          (first | focus (refine yy46 ?_; refine yy56 ?_; refine yy87 ?_; refine yy4 ?_; refine aw_condp rfl (fun hc => ?_) (fun hc => ?_); refine yy51 ?_; refine yy46 ?_; (refine zc auto_wl (cw _ auto_heap) ?_; rintro r H' ⟨rfl, rfl⟩); refine yy57 ?_; refine yy17 ?_; refine zg1 rfl rfl rfl (fun hc => ?_) (fun hc => ?_); refine yy125 ?_; refine yy5 ?_; refine awl_s rfl (s_nilCheck_ptr rfl) ?_; refine yy5 ?_; refine yy62 ?_; refine yy5 ?_; refine yy135 ?_; refine yy5 ?_; refine awl_s rfl (s_eql rfl rfl) ?_; refine yy79 ?_; refine aw_condp rfl (fun hc => ?_) (fun hc => ?_); refine yy8 ?_; rotate_left; replace hc := hide_int hc; refine yy35 ?_; refine yy8 ?_; (refine zc auto_wl (cw _ auto_heap) ?_; rintro r H' ⟨rfl, rfl⟩); refine yy57 ?_; refine yy20 ?_; refine awl_alloc rfl rfl rfl (fun oN hoN => ?_); refine yy11 ?_; refine yy12 ?_; (refine zc auto_wl (cn _ auto_heap) ?_; rintro r H' ⟨rfl, rfl⟩); refine yy62 ?_; refine yy58 ?_; refine yy12 ?_; refine yy106 ?_; refine awl_s rfl (s_add (k := .i64) rfl rfl) ?_; refine yy88 ?_; refine yy58 ?_; refine yy16 ?_; refine yy23 ?_; refine yy26 ?_; refine yy37 ?_; refine za4 rfl rfl rfl auto_heap auto_al auto_src auto_len auto_len (fun oN hoN => ?_); refine yy40 ?_; refine yy12 ?_; (refine zc auto_wl (ct _ auto_heap) ?_; rintro r H' ⟨rfl, rfl⟩); refine yy52 ?_; refine yy81 ?_; refine yy39 ?_; rotate_left; replace hc := hide_nat hc; refine yy66 ?_; refine yy63 ?_; refine yy25 ?_; refine yy8 ?_; (refine zc auto_wl (cw _ auto_heap) ?_; rintro r H' ⟨rfl, rfl⟩); refine yy57 ?_; refine yy20 ?_; refine awl_alloc rfl rfl rfl (fun oN hoN => ?_); refine yy11 ?_; refine yy12 ?_; (refine zc auto_wl (cn _ auto_heap) ?_; rintro r H' ⟨rfl, rfl⟩); refine yy62 ?_; refine yy58 ?_; refine yy12 ?_; refine yy106 ?_; refine awl_s rfl (s_add (k := .i64) rfl rfl) ?_; refine yy88 ?_; refine yy58 ?_; refine yy16 ?_; refine yy23 ?_; refine yy26 ?_; refine yy37 ?_; refine za4 rfl rfl rfl auto_heap auto_al auto_src auto_len auto_len (fun oN hoN => ?_); refine yy40 ?_; refine yy12 ?_; (refine zc auto_wl (ct _ auto_heap) ?_; rintro r H' ⟨rfl, rfl⟩); refine yy52 ?_; refine yy81 ?_; refine yy39 ?_; rotate_left; exact absurd hc auto_no) | fail)
          · exact absurd ⟨‹w.kind = 1›, hc⟩ gk.out
          all_goals (
            obtain ⟨n1, n2⟩ := freshH hfr q1 (show H' oN = none by (first | assumption | exact AHeap.none_of_set ((by assumption)) | exact AHeap.none_of_set (AHeap.none_of_set ((by assumption))) | exact AHeap.none_of_set (AHeap.none_of_set (AHeap.none_of_set ((by assumption)))) | exact AHeap.none_of_set (AHeap.none_of_set (AHeap.none_of_set (AHeap.none_of_set ((by assumption))))) | exact AHeap.none_of_set (AHeap.none_of_set (AHeap.none_of_set (AHeap.none_of_set (AHeap.none_of_set ((by assumption)))))) | exact AHeap.none_of_set (AHeap.none_of_set (AHeap.none_of_set (AHeap.none_of_set (AHeap.none_of_set (AHeap.none_of_set ((by assumption))))))) | exact AHeap.none_of_set (AHeap.none_of_set (AHeap.none_of_set (AHeap.none_of_set (AHeap.none_of_set (AHeap.none_of_set (AHeap.none_of_set ((by assumption)))))))) | exact AHeap.none_of_set (AHeap.none_of_set (AHeap.none_of_set (AHeap.none_of_set (AHeap.none_of_set (AHeap.none_of_set (AHeap.none_of_set (AHeap.none_of_set ((by assumption))))))))) | exact AHeap.none_of_set (AHeap.none_of_set (AHeap.none_of_set (AHeap.none_of_set (AHeap.none_of_set (AHeap.none_of_set (AHeap.none_of_set (AHeap.none_of_set (AHeap.none_of_set ((by assumption)))))))))) | exact AHeap.none_of_set (AHeap.none_of_set (AHeap.none_of_set (AHeap.none_of_set (AHeap.none_of_set (AHeap.none_of_set (AHeap.none_of_set (AHeap.none_of_set (AHeap.none_of_set (AHeap.none_of_set ((by assumption)))))))))))))
            exact ⟨m, [(0, .ptr o 0), (3, .vw oN 5 0 (acc.length + 1))], _, Nat.lt_succ_self _, (Ent.sub _ (by (repeat' (first | exact RSub.nil _ | apply RSub.cons)); all_goals rfl)).trans (Ent.wcelH (AHeap.set_id (o := oN) (x := .cel (vrL acc ++ [.str nm, avI 0, .raw (.string ⟨#[]⟩), avB false, avI w.at_])) auto_heap).symm (wc_app (wc_refl _) (WC.cons (W.of rfl) (WC.cons (W.of rfl) (WC.cons (w_str0 rfl) (WC.cons (W.of rfl) (WC.cons (W.of rfl) WC.nil))))))), oN, acc ++ [⟨nm, 0, [], false, w.at_⟩], V, m, hVk, by omega, hR.out, by rw [List.length_append, List.length_singleton]; omega, by exact auto_heap, by rw [vr_snoc]; exact AHeap.set_self _ _ _, n1, n2, fun p y hne hp => by
              have hp2 := hfr p y hne hp
              have hp3 : p ≠ oL := fun e => by rw [e, hoL] at hp; cases hp
              have hp4 : p ≠ oN := fun e => by rw [e, n1] at hp; cases hp
              exact auto_heap, by rw [List.length_append]; rfl, rfl⟩)
        | false =>
          rw [if_neg (by decide)] at hR
          clear hmt
          subst hR
          (first | focus (refine yy46 ?_; refine yy56 ?_; refine yy87 ?_; refine yy4 ?_; refine aw_condp rfl (fun hc => ?_) (fun hc => ?_); refine yy51 ?_; refine yy46 ?_; (refine zc auto_wl (cw _ auto_heap) ?_; rintro r H' ⟨rfl, rfl⟩); refine yy57 ?_; refine yy17 ?_; refine zg1 rfl rfl rfl (fun hc => ?_) (fun hc => ?_); refine yy125 ?_; refine yy5 ?_; refine awl_s rfl (s_nilCheck_ptr rfl) ?_; refine yy5 ?_; refine yy62 ?_; refine yy5 ?_; refine yy135 ?_; refine yy5 ?_; refine awl_s rfl (s_eql rfl rfl) ?_; refine yy79 ?_; refine aw_condp rfl (fun hc => ?_) (fun hc => ?_); refine yy8 ?_; rotate_left; replace hc := hide_int hc; refine yy35 ?_; refine yy8 ?_; (refine zc auto_wl (cw _ auto_heap) ?_; rintro r H' ⟨rfl, rfl⟩); refine yy57 ?_; refine yy20 ?_; refine awl_alloc rfl rfl rfl (fun oN hoN => ?_); refine yy11 ?_; refine yy12 ?_; (refine zc auto_wl (cn _ auto_heap) ?_; rintro r H' ⟨rfl, rfl⟩); refine yy62 ?_; refine yy58 ?_; refine yy12 ?_; refine yy106 ?_; refine awl_s rfl (s_add (k := .i64) rfl rfl) ?_; refine yy88 ?_; refine yy58 ?_; refine yy16 ?_; refine yy23 ?_; refine yy26 ?_; refine yy37 ?_; refine za4 rfl rfl rfl auto_heap auto_al auto_src auto_len auto_len (fun oN hoN => ?_); refine yy40 ?_; refine yy12 ?_; (refine zc auto_wl (ct _ auto_heap) ?_; rintro r H' ⟨rfl, rfl⟩); refine yy104 ?_; refine aw_exit ?_; refine k_block_ne rfl ?_; refine yy134 ?_; rotate_left; replace hc := hide_nat hc; refine yy66 ?_; refine yy63 ?_; refine yy25 ?_; refine yy8 ?_; (refine zc auto_wl (cw _ auto_heap) ?_; rintro r H' ⟨rfl, rfl⟩); refine yy57 ?_; refine yy20 ?_; refine awl_alloc rfl rfl rfl (fun oN hoN => ?_); refine yy11 ?_; refine yy12 ?_; (refine zc auto_wl (cn _ auto_heap) ?_; rintro r H' ⟨rfl, rfl⟩); refine yy62 ?_; refine yy58 ?_; refine yy12 ?_; refine yy106 ?_; refine awl_s rfl (s_add (k := .i64) rfl rfl) ?_; refine yy88 ?_; refine yy58 ?_; refine yy16 ?_; refine yy23 ?_; refine yy26 ?_; refine yy37 ?_; refine za4 rfl rfl rfl auto_heap auto_al auto_src auto_len auto_len (fun oN hoN => ?_); refine yy40 ?_; refine yy12 ?_; (refine zc auto_wl (ct _ auto_heap) ?_; rintro r H' ⟨rfl, rfl⟩); refine yy104 ?_; refine aw_exit ?_; refine k_block_ne rfl ?_; refine yy134 ?_; rotate_left; exact absurd hc auto_no) | fail)
          · exact absurd ⟨‹w.kind = 1›, hc⟩ gk.out
          all_goals (
            obtain ⟨n1, n2⟩ := freshH hfr q1 (show H' oN = none by (first | assumption | exact AHeap.none_of_set ((by assumption)) | exact AHeap.none_of_set (AHeap.none_of_set ((by assumption))) | exact AHeap.none_of_set (AHeap.none_of_set (AHeap.none_of_set ((by assumption)))) | exact AHeap.none_of_set (AHeap.none_of_set (AHeap.none_of_set (AHeap.none_of_set ((by assumption))))) | exact AHeap.none_of_set (AHeap.none_of_set (AHeap.none_of_set (AHeap.none_of_set (AHeap.none_of_set ((by assumption)))))) | exact AHeap.none_of_set (AHeap.none_of_set (AHeap.none_of_set (AHeap.none_of_set (AHeap.none_of_set (AHeap.none_of_set ((by assumption))))))) | exact AHeap.none_of_set (AHeap.none_of_set (AHeap.none_of_set (AHeap.none_of_set (AHeap.none_of_set (AHeap.none_of_set (AHeap.none_of_set ((by assumption)))))))) | exact AHeap.none_of_set (AHeap.none_of_set (AHeap.none_of_set (AHeap.none_of_set (AHeap.none_of_set (AHeap.none_of_set (AHeap.none_of_set (AHeap.none_of_set ((by assumption))))))))) | exact AHeap.none_of_set (AHeap.none_of_set (AHeap.none_of_set (AHeap.none_of_set (AHeap.none_of_set (AHeap.none_of_set (AHeap.none_of_set (AHeap.none_of_set (AHeap.none_of_set ((by assumption)))))))))) | exact AHeap.none_of_set (AHeap.none_of_set (AHeap.none_of_set (AHeap.none_of_set (AHeap.none_of_set (AHeap.none_of_set (AHeap.none_of_set (AHeap.none_of_set (AHeap.none_of_set (AHeap.none_of_set ((by assumption)))))))))))))
            exact ⟨[(0, .ptr o 0), (3, .vw oN 5 0 (acc.length + 1))], _, (Ent.sub _ (by (repeat' (first | exact RSub.nil _ | apply RSub.cons)); all_goals rfl)).trans (Ent.wcelH (AHeap.set_id (o := oN) (x := .cel (vrL acc ++ [.str nm, avI 0, .raw (.string ⟨#[]⟩), avB false, avI w.at_])) auto_heap).symm (wc_app (wc_refl _) (WC.cons (W.of rfl) (WC.cons (W.of rfl) (WC.cons (w_str0 rfl) (WC.cons (W.of rfl) (WC.cons (W.of rfl) WC.nil))))))), oN, acc ++ [⟨nm, 0, [], false, w.at_⟩], V, rfl, hVk, by exact auto_heap, by rw [vr_snoc]; exact AHeap.set_self _ _ _, n1, n2, by rw [List.length_append, List.length_singleton]; omega, fun p y hne hp => by
              have hp2 := hfr p y hne hp
              have hp3 : p ≠ oL := fun e => by rw [e, hoL] at hp; cases hp
              have hp4 : p ≠ oN := fun e => by rw [e, n1] at hp; cases hp
              exact auto_heap, by rw [List.length_append]; rfl⟩)
    · rw [if_neg g0] at hR
      subst hR
      (first | focus (refine yy46 ?_; refine yy56 ?_; refine yy87 ?_; refine yy4 ?_; refine yy90 ?_; intro hc; replace hc := hide_nat hc; refine yy113 ?_; rotate_left) | fail)
      exact ⟨_, _, Ent.sub _ (by (repeat' (first | exact RSub.nil _ | apply RSub.cons)); all_goals rfl), oL, acc, S, rfl, hk, q1, q2, hoL, hLo, by omega, hfr, rfl⟩
  · clear hmu hR hk h hLo hoL oL
    rintro R1 H1 ⟨oL, acc, T, rfl, hk, q1, q2, hoL, hLo, hal, hfr, rfl⟩
    simp only
    have hle := vr_len acc
    have cw := fun H h => want_calls (o := o) H T ([58] : Bs) h hk hl
    have h1 := Tr.want (S := T) (s := ([58] : Bs)) hw hk
    generalize T.want ws ([58] : Bs) = U at *
    have hUk := h1.kl
    have ci := fun H h => is_calls (o := o) H U ([98, 111, 111, 108] : Bs) h hUk hl
    cases hb : U.is ws ([98, 111, 111, 108] : Bs) with
    | true =>
      rw [hb] at ci
      have ct := fun H h => take_t (o := o) H U ([98, 111, 111, 108] : Bs) h hUk hl hb
      simp only [if_true]
      generalize U.step = V at *
      (first | focus (refine yy8 ?_; (refine zc auto_wl (cw _ auto_heap) ?_; rintro r H' ⟨rfl, rfl⟩); refine yy4 ?_; refine yy15 ?_; refine yy46 ?_; (refine zc auto_wl (ci _ auto_heap) ?_; rintro r H' ⟨rfl, rfl⟩); refine yy122 ?_; refine yy32 ?_; refine yy6 ?_; refine yy46 ?_; (refine zc auto_wl (ct _ auto_heap) ?_; rintro r H' ⟨rfl, rfl⟩); refine yy52 ?_; refine yy25 ?_; refine yy38 ?_; refine yy71 ?_; rotate_left) | fail)
      have hinv : oL ≠ o := hLo
      refine aw_loop (fun mm R2 H3 => ∃ (i : Nat), i ≤ acc.length ∧ H3 o = some (.cel (V.cells ws)) ∧ H3 oL = some (.cel (vrL (upTo (fun v => { v with kind := 1 }) i acc))) ∧ (∀ p y, p ≠ o → H p = some y → H3 p = some y) ∧ R2 = [(0, .ptr o 0), (3, .vw oL 5 0 acc.length), (5, avI 1), (6, avI i)] ∧ acc.length - i = mm) ?_ ?_
      · exact ⟨_, _, _, Ent.sub _ (by (repeat' (first | exact RSub.nil _ | apply RSub.cons)); all_goals rfl), 0, Nat.zero_le _, by exact auto_heap, by exact auto_heap, fun p y hne hp => by have hp2 := hfr p y hne hp; exact auto_heap, rfl, rfl⟩
      clear q1 q2 hfr
      rintro mm R2 H3 ⟨i, hi, q1, q2, hfr, rfl, rfl⟩
      have hul := upTo_len (fun v : Vr => { v with kind := 1 }) i acc
      have hvl := vr_len (upTo (fun v : Vr => { v with kind := 1 }) i acc)
      by_cases hlt : i < acc.length
      · have hg : acc[i]? = some acc[i] := List.getElem?_eq_getElem hlt
        have hs := upTo_set (fun v : Vr => { v with kind := 1 }) i acc _ hg
        have hg2 := (upTo_get (fun v : Vr => { v with kind := 1 }) i acc).trans hg
        have hfs := flat_set (f := Vr.cells) (sz := 5) (fun _ => rfl) _ i 1 _ ({ acc[i] with kind := 1 }) (avI 1) hg2 (by decide) rfl
        rw [← hs] at hfs
        clear hs hg2 hg
        generalize upTo (fun v : Vr => { v with kind := 1 }) i acc = l1 at *
        replace hfs := Hdn.mk hfs
        (first | focus (refine yy9 ?_; refine yy23 ?_; refine yy137 ?_; refine yy49 ?_; refine aw_condp rfl (fun hc => ?_) (fun hc => ?_); refine yy13 ?_; refine yy32 ?_; refine yy23 ?_; refine yy7 ?_; refine yy7 ?_; refine awl_s rfl (s_indexAddr_vw rfl rfl auto_len) ?_; refine yy62 ?_; refine yy58 ?_; refine yy48 ?_; refine yy22 ?_; rotate_left; exact absurd hc auto_no) | fail)
        exact ⟨acc.length - (i + 1), _, _, by omega, Ent.sub _ (by (repeat' (first | exact RSub.nil _ | apply RSub.cons)); all_goals rfl), i + 1, by omega, by exact auto_heap, by rw [AHeap.set_self, Nat.zero_add]; exact congrArg (fun x => some (AO.cel x)) hfs.out, fun p y hne hp => by
          have hp2 := hfr p y hne hp
          have hp3 : p ≠ oL := fun e => by rw [e, hoL] at hp; cases hp
          exact auto_heap, rfl, rfl⟩
      · obtain rfl : i = acc.length := by omega
        rw [upTo_all] at q2
        clear hul hvl
        (first | focus (refine yy9 ?_; refine yy23 ?_; refine yy137 ?_; refine yy49 ?_; refine yy34 ?_; intro hc; refine yy2 ?_; refine yy23 ?_; refine yy40 ?_; refine yy108 ?_; rotate_left) | fail)
        exact ⟨.inl rfl, _, _, _, Ent.gc (sub2 (o := o) (oN := oL) q1 q2 (fun p y h1 h2 hp => hfr p y h1 hp)), ret1 rfl rfl, oL, by rw [List.length_map]; rfl, hoL, hLo, rfl⟩
    | false =>
      rw [hb] at ci
      have ct := fun H h => take_f (o := o) H U ([98, 111, 111, 108] : Bs) h hUk hl hb
      have cv := fun H h => want_calls (o := o) H U ([105, 110, 116] : Bs) h hUk hl
      simp only [Bool.false_eq_true, if_false]
      generalize U.want ws ([105, 110, 116] : Bs) = V at *
      (first | focus (refine yy8 ?_; (refine zc auto_wl (cw _ auto_heap) ?_; rintro r H' ⟨rfl, rfl⟩); refine yy4 ?_; refine yy15 ?_; refine yy46 ?_; (refine zc auto_wl (ci _ auto_heap) ?_; rintro r H' ⟨rfl, rfl⟩); refine yy25 ?_; refine yy46 ?_; (refine zc auto_wl (ct _ auto_heap) ?_; rintro r H' ⟨rfl, rfl⟩); refine yy104 ?_; refine yy67 ?_; (refine zc auto_wl (cv _ auto_heap) ?_; rintro r H' ⟨rfl, rfl⟩); refine yy42 ?_; refine yy71 ?_; rotate_left) | fail)
      have hinv : oL ≠ o := hLo
      refine aw_loop (fun mm R2 H3 => ∃ (i : Nat), i ≤ acc.length ∧ H3 o = some (.cel (V.cells ws)) ∧ H3 oL = some (.cel (vrL (upTo (fun v => { v with kind := 2 }) i acc))) ∧ (∀ p y, p ≠ o → H p = some y → H3 p = some y) ∧ R2 = [(0, .ptr o 0), (3, .vw oL 5 0 acc.length), (5, avI 2), (6, avI i)] ∧ acc.length - i = mm) ?_ ?_
      · exact ⟨_, _, _, Ent.sub _ (by (repeat' (first | exact RSub.nil _ | apply RSub.cons)); all_goals rfl), 0, Nat.zero_le _, by exact auto_heap, by exact auto_heap, fun p y hne hp => by have hp2 := hfr p y hne hp; exact auto_heap, rfl, rfl⟩
      clear q1 q2 hfr
      rintro mm R2 H3 ⟨i, hi, q1, q2, hfr, rfl, rfl⟩
      have hul := upTo_len (fun v : Vr => { v with kind := 2 }) i acc
      have hvl := vr_len (upTo (fun v : Vr => { v with kind := 2 }) i acc)
      by_cases hlt : i < acc.length
      · have hg : acc[i]? = some acc[i] := List.getElem?_eq_getElem hlt
        have hs := upTo_set (fun v : Vr => { v with kind := 2 }) i acc _ hg
        have hg2 := (upTo_get (fun v : Vr => { v with kind := 2 }) i acc).trans hg
        have hfs := flat_set (f := Vr.cells) (sz := 5) (fun _ => rfl) _ i 1 _ ({ acc[i] with kind := 2 }) (avI 2) hg2 (by decide) rfl
        rw [← hs] at hfs
        clear hs hg2 hg
        generalize upTo (fun v : Vr => { v with kind := 2 }) i acc = l1 at *
        replace hfs := Hdn.mk hfs
        (first | focus (refine yy9 ?_; refine yy23 ?_; refine yy137 ?_; refine yy49 ?_; refine aw_condp rfl (fun hc => ?_) (fun hc => ?_); refine yy13 ?_; refine yy32 ?_; refine yy23 ?_; refine yy7 ?_; refine yy7 ?_; refine awl_s rfl (s_indexAddr_vw rfl rfl auto_len) ?_; refine yy62 ?_; refine yy58 ?_; refine yy48 ?_; refine yy22 ?_; rotate_left; exact absurd hc auto_no) | fail)
        exact ⟨acc.length - (i + 1), _, _, by omega, Ent.sub _ (by (repeat' (first | exact RSub.nil _ | apply RSub.cons)); all_goals rfl), i + 1, by omega, by exact auto_heap, by rw [AHeap.set_self, Nat.zero_add]; exact congrArg (fun x => some (AO.cel x)) hfs.out, fun p y hne hp => by
          have hp2 := hfr p y hne hp
          have hp3 : p ≠ oL := fun e => by rw [e, hoL] at hp; cases hp
          exact auto_heap, rfl, rfl⟩
      · obtain rfl : i = acc.length := by omega
        rw [upTo_all] at q2
        clear hul hvl
        (first | focus (refine yy9 ?_; refine yy23 ?_; refine yy137 ?_; refine yy49 ?_; refine yy34 ?_; intro hc; refine yy2 ?_; refine yy23 ?_; refine yy40 ?_; refine yy108 ?_; rotate_left) | fail)
        exact ⟨.inl rfl, _, _, _, Ent.gc (sub2 (o := o) (oN := oL) q1 q2 (fun p y h1 h2 hp => hfr p y h1 hp)), ret1 rfl rfl, oL, by rw [List.length_map]; rfl, hoL, hLo, rfl⟩
end
end Go.Proofs.Ytmgkhfnhaeplgaa

namespace Go.Proofs.Ytmgkhfnhaeplgaa
open Go Go.Am Go.Proofs
set_option linter.unusedSimpArgs false
set_option linter.unusedVariables false
set_option maxRecDepth 20000
set_option maxHeartbeats 8000000

/-! The reference's parser: rows of declarations. -/
section
variable {ws : List Wd} {o : Nat}
theorem tr_declL (hw : WsOk ws) : ∀ (m : Nat) (acc : List Vr) (S : Ps), S.k < ws.length → Tr ws S (declL ws m acc S).2
  | 0, acc, S, h => .refl h
  | m + 1, acc, S, h => by
    unfold declL
    split
    · split
      · exact .fail (by decide) h
      · have h1 := Tr.name (S := S) hw h
        have h2 : Tr ws S { (S.name ws).2 with names := inc (S.name ws).2.names } := ⟨h1.d, h1.k, h1.kl, h1.e⟩
        have h3 := h2.trans (.take (s := ([44] : Bs)) hw h2.kl)
        simp only
        split
        · exact h3.trans (tr_declL hw m _ _ h3.kl)
        · exact h3
    · exact .refl h
theorem tr_decl (hw : WsOk ws) (S : Ps) (h : S.k < ws.length) : Tr ws S (declF ws S).2 := by
  have h1 := tr_declL hw (ws.length + 3) [] S h
  unfold declF
  generalize declL ws (ws.length + 3) [] S = A at *
  obtain ⟨r, T⟩ := A
  cases r with
  | none => exact h1
  | some l =>
    have h2 := h1.trans (.want (s := ([58] : Bs)) hw h1.kl)
    simp only
    split
    · rename_i hb; exact h2.trans (.step hw h2.kl (is_kind hb).2.1)
    · exact h2.trans (.want hw h2.kl)
theorem mu_name (hw : WsOk ws) {S : Ps} (h : S.k < ws.length) (h0 : S.err = 0) : mu ws (S.name ws).2 < mu ws S := by
  have h1 := Tr.name (S := S) hw h
  unfold Ps.name at *
  split
  · rename_i hc
    rw [if_pos hc] at h1
    exact mu_fail h1 h0 (fail_err (by decide))
  · exact mu_step h h0
theorem declL_mu (hw : WsOk ws) : ∀ (m : Nat) (acc : List Vr) (S : Ps) (l : List Vr), S.k < ws.length → (declL ws m acc S).1 = some l → l.length + mu ws (declL ws m acc S).2 ≤ acc.length + mu ws S
  | 0, acc, S, l, hk, h => by unfold declL at h ⊢; cases h; exact Nat.le_refl _
  | m + 1, acc, S, l, hk, h => by
    unfold declL at h ⊢
    by_cases h0 : S.err = 0
    · rw [if_pos h0] at h ⊢
      by_cases hc : (S.w ws).kind = 1 ∧ S.names = 64
      · rw [if_pos hc] at h; cases h
      · rw [if_neg hc] at h ⊢
        have h1 := Tr.name (S := S) hw hk
        have hm := mu_name hw hk h0
        have h2 : Tr ws S { (S.name ws).2 with names := inc (S.name ws).2.names } := ⟨h1.d, h1.k, h1.kl, h1.e⟩
        have hm2 : mu ws { (S.name ws).2 with names := inc (S.name ws).2.names } = mu ws (S.name ws).2 := rfl
        have h3 := Tr.take (S := { (S.name ws).2 with names := inc (S.name ws).2.names }) (s := ([44] : Bs)) hw h2.kl
        have hm3 : mu ws (({ (S.name ws).2 with names := inc (S.name ws).2.names } : Ps).take ws ([44] : Bs)).2 ≤ mu ws (S.name ws).2 := h3.mu
        have h3k := h3.kl
        simp only at h ⊢
        clear h1 h2 h3 hm2
        generalize ({ (S.name ws).2 with names := inc (S.name ws).2.names } : Ps).take ws ([44] : Bs) = B at *
        split at h
        · rename_i ht
          rw [if_pos ht]
          have := declL_mu hw m _ _ l h3k h
          rw [List.length_append, List.length_singleton] at this
          omega
        · rename_i ht
          rw [if_neg ht]
          cases h
          rw [List.length_append, List.length_singleton]
          simp only
          omega
    · rw [if_neg h0] at h ⊢; cases h; exact Nat.le_refl _
theorem decl_mu (hw : WsOk ws) (S : Ps) (hk : S.k < ws.length) : (declF ws S).1.length + mu ws (declF ws S).2 ≤ mu ws S := by
  have h0 := tr_declL hw (ws.length + 3) [] S hk
  have h1 := declL_mu hw (ws.length + 3) [] S
  unfold declF
  generalize declL ws (ws.length + 3) [] S = A at *
  obtain ⟨r, T⟩ := A
  cases r with
  | none => have := h0.mu; simp only at *; simp; exact this
  | some l =>
    have h2 := h1 l hk rfl
    simp only at h0 h2 ⊢
    have h3 := Tr.want (S := T) (s := ([58] : Bs)) hw h0.kl
    have h4 := h3.mu
    rw [List.length_map]
    simp only [List.length_nil] at h2
    split
    · rename_i hb
      have := (Tr.step hw h3.kl (is_kind hb).2.1).mu
      omega
    · have := (Tr.want (S := T.want ws ([58] : Bs)) (s := ([105, 110, 116] : Bs)) hw h3.kl).mu
      omega
theorem decls_own (hw : WsOk ws) (H : AHeap) (S : Ps) (h : H o = some (.cel (S.cells ws))) (hk : S.k < ws.length) :
    ACalls Try.prog 65 [.ptr o 0] H fun r H' => ∃ oL, r = .vw oL 5 0 (declsF ws S).1.length ∧ H oL = none ∧ oL ≠ o ∧ H' = (H.set o (.cel ((declsF ws S).2.cells ws))).set oL (.cel (vrL (declsF ws S).1)) := by
  have hl := hw.len
  have ci := fun H h => is_calls (o := o) H S ([41] : Bs) h hk hl
  unfold declsF
  cases hb : S.is ws ([41] : Bs) with
  | true =>
    rw [hb] at ci
    rw [if_pos rfl]
    refine acalls_of_aw1 Try.func65 rfl (by decide) ?_
    (first | focus (refine yy15 ?_; refine yy46 ?_; (refine zc auto_wl (ci _ auto_heap) ?_; rintro r H' ⟨rfl, rfl⟩); refine yy122 ?_; refine yy15 ?_; rotate_left) | fail)
    refine aw_own_nil 2 5 (.cel []) rfl rfl (fun oN hoN => ?_)
    have hNo : oN ≠ o := by (first | assumption | exact Ne.symm (by assumption) | exact AHeap.ne_of_fresh (by assumption) | exact Ne.symm (AHeap.ne_of_fresh (by assumption)) | exact AHeap.ne_of_fresh (AHeap.none_of_set (by assumption)) | exact Ne.symm (AHeap.ne_of_fresh (AHeap.none_of_set (by assumption))) | exact AHeap.ne_ns (by assumption) (by assumption) | exact AHeap.ne_sn (by assumption) (by assumption) | exact AHeap.ne_ns (by assumption) auto_heap2 | exact AHeap.ne_sn (by assumption) auto_heap2)
    (first | focus (refine aw_ret ?_; refine k_seq_ret ?_; rotate_left) | fail)
    exact ⟨.inl rfl, _, _, _, Ent.gc (sub2 (o := o) (oN := oN) auto_heap auto_heap (fun p y h1 h2 hp => auto_heap)), ret1 rfl rfl, oN, rfl, hoN, hNo, rfl⟩
  | false =>
    rw [hb] at ci
    rw [if_neg (by decide)]
    have cd := fun H h => decl_own (o := o) hw H S h hk
    have h1 := tr_decl hw S hk
    generalize hD : declF ws S = D at *
    obtain ⟨l0, T⟩ := D
    have hTk := h1.kl
    simp only at *
    have hmu : mu ws T < ws.length + 3 := by unfold mu; split <;> omega
    generalize hR : declsL ws (ws.length + 3) l0 T = Rz
    refine acalls_of_aw1 Try.func65 rfl (by decide) ?_
    (first | focus (refine yy15 ?_; refine yy46 ?_; (refine zc auto_wl (ci _ auto_heap) ?_; rintro r H' ⟨rfl, rfl⟩); refine yy25 ?_; refine yy8 ?_; (refine zc auto_wl (cd _ auto_heap) ?_; rintro r H' ⟨oL, rfl, hoL, hLo, rfl⟩); refine yy40 ?_; refine yy4 ?_; refine yy105 ?_; rotate_left) | fail)
    have hml := decl_mu hw S hk
    rw [hD] at hml
    simp only at hml
    have hmS : mu ws S ≤ 20001 := by unfold mu; split <;> omega
    refine aw_loop (fun mm R1 H1 => ∃ (oL : Nat) (acc : List Vr) (S : Ps) (m : Nat), S.k < ws.length ∧ mu ws S < m ∧ declsL ws m acc S = Rz ∧ acc.length + mu ws S ≤ 20010 ∧ H1 o = some (.cel (S.cells ws)) ∧ H1 oL = some (.cel (vrL acc)) ∧ H' oL = none ∧ oL ≠ o ∧ (∀ p y, p ≠ o → H' p = some y → H1 p = some y) ∧ R1 = [(0, .ptr o 0), (3, .vw oL 5 0 acc.length)] ∧ m = mm) ?_ ?_
    · exact ⟨_, _, _, Ent.sub _ (by (repeat' (first | exact RSub.nil _ | apply RSub.cons)); all_goals rfl), oL, l0, T, _, hTk, hmu, hR, by omega, by exact auto_heap, AHeap.set_self _ _ _, hoL, hLo, fun p y hne hp => auto_heap, rfl, rfl⟩
    clear hml hmS hD hmu hR h hLo hoL oL hTk cd ci h1 hb hk
    rintro mm R1 H1 ⟨oL, acc, S, m, hk, hm, hR, hal, q1, q2, hoL, hLo, hfr, rfl, rfl⟩
    obtain ⟨m, rfl⟩ : ∃ m', m = m' + 1 := ⟨m - 1, by omega⟩
    unfold declsL at hR
    have hle := vr_len acc
    cases hb : S.is ws ([59] : Bs) with
    | true =>
      rw [hb, if_pos rfl] at hR
      have ct := fun H h => take_t (o := o) H S ([59] : Bs) h hk hl hb
      have h1 := Tr.step hw hk (is_kind hb).2.1
      have hm1 := mu_step hk (is_kind hb).1
      generalize S.step = T at *
      have hTk := h1.kl
      have cd := fun H h => decl_own (o := o) hw H T h hTk
      have h2 := tr_decl hw T hTk
      have hm2 := decl_mu hw T hTk
      generalize declF ws T = D at *
      obtain ⟨l1, U⟩ := D
      have hUk := h2.kl
      simp only at *
      have hle1 := vr_len l1
      replace hR := Hdn.mk hR
      (first | focus (refine yy46 ?_; (refine zc auto_wl (ct _ auto_heap) ?_; rintro r H' ⟨rfl, rfl⟩); refine yy122 ?_; refine yy51 ?_; refine yy32 ?_; refine yy23 ?_; refine yy125 ?_; (refine zc auto_wl (cd _ auto_heap) ?_; rintro r H' ⟨oD, rfl, hoD, hDo, rfl⟩); refine za4 rfl rfl rfl auto_heap auto_al auto_src auto_len auto_len (fun oN hoN => ?_); refine yy40 ?_; refine yy48 ?_; rotate_left) | fail)
      obtain ⟨n1, n2⟩ := freshH hfr q1 (show H1 oN = none by (first | assumption | exact AHeap.none_of_set ((by assumption)) | exact AHeap.none_of_set (AHeap.none_of_set ((by assumption))) | exact AHeap.none_of_set (AHeap.none_of_set (AHeap.none_of_set ((by assumption)))) | exact AHeap.none_of_set (AHeap.none_of_set (AHeap.none_of_set (AHeap.none_of_set ((by assumption))))) | exact AHeap.none_of_set (AHeap.none_of_set (AHeap.none_of_set (AHeap.none_of_set (AHeap.none_of_set ((by assumption)))))) | exact AHeap.none_of_set (AHeap.none_of_set (AHeap.none_of_set (AHeap.none_of_set (AHeap.none_of_set (AHeap.none_of_set ((by assumption))))))) | exact AHeap.none_of_set (AHeap.none_of_set (AHeap.none_of_set (AHeap.none_of_set (AHeap.none_of_set (AHeap.none_of_set (AHeap.none_of_set ((by assumption)))))))) | exact AHeap.none_of_set (AHeap.none_of_set (AHeap.none_of_set (AHeap.none_of_set (AHeap.none_of_set (AHeap.none_of_set (AHeap.none_of_set (AHeap.none_of_set ((by assumption))))))))) | exact AHeap.none_of_set (AHeap.none_of_set (AHeap.none_of_set (AHeap.none_of_set (AHeap.none_of_set (AHeap.none_of_set (AHeap.none_of_set (AHeap.none_of_set (AHeap.none_of_set ((by assumption)))))))))) | exact AHeap.none_of_set (AHeap.none_of_set (AHeap.none_of_set (AHeap.none_of_set (AHeap.none_of_set (AHeap.none_of_set (AHeap.none_of_set (AHeap.none_of_set (AHeap.none_of_set (AHeap.none_of_set ((by assumption)))))))))))))
      have hoD1 : H1 oD = none := AHeap.none_of_set hoD
      exact ⟨m, [(0, .ptr o 0), (3, .vw oN 5 0 (acc.length + l1.length))], _, Nat.lt_succ_self _, Ent.sub _ (by (repeat' (first | exact RSub.nil _ | apply RSub.cons)); all_goals rfl), oN, acc ++ l1, U, m, hUk, by omega, hR.out, by rw [List.length_append]; omega, by exact auto_heap, by rw [AHeap.set_self, vr_app, List.drop_zero, List.take_of_length_le (by omega)], n1, n2, fun p y hne hp => by
        have hp2 := hfr p y hne hp
        have hp3 : p ≠ oL := fun e => by rw [e, hoL] at hp; cases hp
        have hp4 : p ≠ oN := fun e => by rw [e, n1] at hp; cases hp
        have hp5 : p ≠ oD := fun e => by rw [e, hoD1] at hp2; cases hp2
        exact auto_heap, by rw [List.length_append], rfl⟩
    | false =>
      rw [hb, if_neg (by decide)] at hR
      have ct := fun H h => take_f (o := o) H S ([59] : Bs) h hk hl hb
      subst hR
      (first | focus (refine yy46 ?_; (refine zc auto_wl (ct _ auto_heap) ?_; rintro r H' ⟨rfl, rfl⟩); refine yy81 ?_; refine yy113 ?_; refine yy2 ?_; refine yy23 ?_; refine yy40 ?_; refine yy108 ?_; rotate_left) | fail)
      exact ⟨.inl rfl, _, _, _, Ent.gc (sub2 (o := o) (oN := oL) auto_heap auto_heap (fun p y h1 h2 hp => by have hp2 := hfr p y h1 hp; exact auto_heap)), ret1 rfl rfl, oL, rfl, hoL, hLo, rfl⟩
end
end Go.Proofs.Ytmgkhfnhaeplgaa

namespace Go.Proofs.Ytmgkhfnhaeplgaa
open Go Go.Am Go.Proofs
set_option linter.unusedSimpArgs false
set_option linter.unusedVariables false
set_option maxRecDepth 20000
set_option maxHeartbeats 8000000

/-! The reference's parser: local names. -/
section
variable {ws : List Wd} {o : Nat}
/-- A clock's two cells, turned. -/
theorem vr_on (L : List Vr) (i : Nat) (v : Vr) (on : Bs) (nt : Bool) (h : L[i]? = some v) : ((vrL L).set (i * 5 + 2) (.str on)).set (i * 5 + 3) (avB nt) = vrL (L.set i { v with on := on, not := nt }) := by
  have h1 := flat_set (f := Vr.cells) (sz := 5) (fun _ => rfl) L i 2 v { v with on := on } (.str on) h (by decide) rfl
  have hlt := (List.getElem?_eq_some_iff.1 h).1
  have h2 := flat_set (f := Vr.cells) (sz := 5) (fun _ => rfl) (L.set i { v with on := on }) i 3 { v with on := on } { v with on := on, not := nt } (avB nt) (by rw [List.getElem?_set_self hlt]) (by decide) rfl
  rw [List.set_set] at h2
  exact (congrArg (fun x => List.set x (i * 5 + 3) (avB nt)) h1).trans h2
/-- What locals does with one row of names. -/
def onF (ws : List Wd) (r : List Vr × Ps) : List Vr × Ps :=
  if r.2.is ws ([119, 104, 101, 110] : Bs) then
    let t := r.2.step.take ws ([110, 111, 116] : Bs)
    let s := t.2.name ws
    (r.1.map fun v => { v with on := s.1, not := t.1 }, s.2)
  else r
theorem onF_len (r : List Vr × Ps) : (onF ws r).1.length = r.1.length := by
  unfold onF; split
  · exact List.length_map ..
  · rfl
theorem tr_onF (hw : WsOk ws) (r : List Vr × Ps) (h : r.2.k < ws.length) : Tr ws r.2 (onF ws r).2 := by
  unfold onF
  split
  · rename_i hb
    have h1 := Tr.step hw h (is_kind hb).2.1
    have h2 := h1.trans (.take (s := ([110, 111, 116] : Bs)) hw h1.kl)
    exact h2.trans (.name hw h2.kl)
  · exact .refl h
theorem localsL_eq (m : Nat) (acc : List Vr) (S : Ps) : localsL ws (m + 1) acc S = if S.err = 0 then
    (if (onF ws (declF ws S)).2.is ws ([59] : Bs) ∧ ((onF ws (declF ws S)).2.step.w ws).kind = 1 then localsL ws m (acc ++ (onF ws (declF ws S)).1) (onF ws (declF ws S)).2.step else (acc ++ (onF ws (declF ws S)).1, (onF ws (declF ws S)).2))
    else (acc, S) := by
  rw [localsL]; rfl
theorem locals_own (hw : WsOk ws) (H : AHeap) (S : Ps) (h : H o = some (.cel (S.cells ws))) (hk : S.k < ws.length) :
    ACalls Try.prog 67 [.ptr o 0] H fun r H' => ∃ oL, r = .vw oL 5 0 (localsF ws S).1.length ∧ H oL = none ∧ oL ≠ o ∧ H' = (H.set o (.cel ((localsF ws S).2.cells ws))).set oL (.cel (vrL (localsF ws S).1)) := by
  have hl := hw.len
  have ci := fun H h => is_calls (o := o) H S ([59] : Bs) h hk hl
  unfold localsF
  cases hb : S.is ws ([59] : Bs) with
  | true =>
    rw [hb] at ci
    rw [if_pos rfl]
    refine acalls_of_aw1 Try.func67 rfl (by decide) ?_
    (first | focus (refine yy15 ?_; refine yy15 ?_; refine yy46 ?_; (refine zc auto_wl (ci _ auto_heap) ?_; rintro r H' ⟨rfl, rfl⟩); refine yy122 ?_; refine yy15 ?_; rotate_left) | fail)
    refine aw_own_nil 2 5 (.cel []) rfl rfl (fun oN hoN => ?_)
    have hNo : oN ≠ o := by (first | assumption | exact Ne.symm (by assumption) | exact AHeap.ne_of_fresh (by assumption) | exact Ne.symm (AHeap.ne_of_fresh (by assumption)) | exact AHeap.ne_of_fresh (AHeap.none_of_set (by assumption)) | exact Ne.symm (AHeap.ne_of_fresh (AHeap.none_of_set (by assumption))) | exact AHeap.ne_ns (by assumption) (by assumption) | exact AHeap.ne_sn (by assumption) (by assumption) | exact AHeap.ne_ns (by assumption) auto_heap2 | exact AHeap.ne_sn (by assumption) auto_heap2)
    (first | focus (refine aw_ret ?_; refine k_seq_ret ?_; rotate_left) | fail)
    exact ⟨.inl rfl, _, _, _, Ent.gc (sub2 (o := o) (oN := oN) auto_heap auto_heap (fun p y h1 h2 hp => auto_heap)), ret1 rfl rfl, oN, rfl, hoN, hNo, rfl⟩
  | false =>
    rw [hb] at ci
    rw [if_neg (by decide)]
    have hmu : mu ws S < ws.length + 3 := by unfold mu; split <;> omega
    generalize hR : localsL ws (ws.length + 3) [] S = Rz
    refine acalls_of_aw1 Try.func67 rfl (by decide) ?_
    (first | focus (refine yy15 ?_; refine yy15 ?_; refine yy46 ?_; (refine zc auto_wl (ci _ auto_heap) ?_; rintro r H' ⟨rfl, rfl⟩); refine yy25 ?_; rotate_left) | fail)
    refine aw_own_nil 3 5 (.cel []) rfl rfl (fun oL hoL => ?_)
    have hLo : oL ≠ o := by (first | assumption | exact Ne.symm (by assumption) | exact AHeap.ne_of_fresh (by assumption) | exact Ne.symm (AHeap.ne_of_fresh (by assumption)) | exact AHeap.ne_of_fresh (AHeap.none_of_set (by assumption)) | exact Ne.symm (AHeap.ne_of_fresh (AHeap.none_of_set (by assumption))) | exact AHeap.ne_ns (by assumption) (by assumption) | exact AHeap.ne_sn (by assumption) (by assumption) | exact AHeap.ne_ns (by assumption) auto_heap2 | exact AHeap.ne_sn (by assumption) auto_heap2)
    have hmS : mu ws S ≤ 20001 := by unfold mu; split <;> omega
    refine aw_seq ?_
    refine aw_kmid (fun R1 H1 => ∃ (oL : Nat), H1 o = some (.cel (Rz.2.cells ws)) ∧ H1 oL = some (.cel (vrL Rz.1)) ∧ H' oL = none ∧ oL ≠ o ∧ (∀ p y, p ≠ o → H' p = some y → H1 p = some y) ∧ R1 = [(0, .ptr o 0), (3, .vw oL 5 0 Rz.1.length)]) ?_ ?_
    · refine aw_block ?_
      refine aw_loop (fun mm R1 H1 => ∃ (oL : Nat) (acc : List Vr) (S : Ps) (m : Nat), S.k < ws.length ∧ mu ws S < m ∧ localsL ws m acc S = Rz ∧ acc.length + mu ws S ≤ 20010 ∧ H1 o = some (.cel (S.cells ws)) ∧ H1 oL = some (.cel (vrL acc)) ∧ H' oL = none ∧ oL ≠ o ∧ (∀ p y, p ≠ o → H' p = some y → H1 p = some y) ∧ R1 = [(0, .ptr o 0), (3, .vw oL 5 0 acc.length)] ∧ m = mm) ?_ ?_
      · exact ⟨_, _, _, Ent.sub _ (by (repeat' (first | exact RSub.nil _ | apply RSub.cons)); all_goals rfl), oL, [], S, _, hk, hmu, hR, by show 0 + _ ≤ _; omega, by exact auto_heap, AHeap.set_self _ _ _, hoL, hLo, fun p y hne hp => auto_heap, rfl, rfl⟩
      clear hmu hmS hR h hLo hoL oL ci hb hk
      rintro mm R1 H1 ⟨oL, acc, S, m, hk, hm, hR, hal, q1, q2, hoL, hLo, hfr, rfl, rfl⟩
      obtain ⟨m, rfl⟩ : ∃ m', m = m' + 1 := ⟨m - 1, by omega⟩
      rw [localsL_eq] at hR
      have hle := vr_len acc
      by_cases g0 : S.err = 0
      · rw [if_pos g0] at hR
        have cd := fun H h => decl_own (o := o) hw H S h hk
        have h1 := tr_decl hw S hk
        have hm1 := decl_mu hw S hk
        generalize declF ws S = D at *
        obtain ⟨l1, T⟩ := D
        have hTk := h1.kl
        simp only at *
        have hle1 := vr_len l1
        replace hR := Hdn.mk hR
        (first | focus (refine yy46 ?_; refine yy56 ?_; refine yy87 ?_; refine yy4 ?_; refine aw_condp rfl (fun hc => ?_) (fun hc => ?_); refine yy51 ?_; refine yy8 ?_; (refine zc auto_wl (cd _ auto_heap) ?_; rintro r H' ⟨oD, rfl, hoD, hDo, rfl⟩); refine yy40 ?_; refine yy4 ?_; rotate_left; exact absurd hc auto_no) | fail)
        have hDL : oD ≠ oL := fun e => by rw [e, q2] at hoD; cases hoD
        obtain ⟨n1, n2⟩ := freshH hfr q1 hoD
        have h2 := tr_onF hw (l1, T) hTk
        have hl2 := onF_len (ws := ws) (l1, T)
        generalize hC : onF ws (l1, T) = C at *
        simp only at h2 hl2
        have hUk := h2.kl
        have hUm := h2.mu
        refine aw_seq ?_
        refine aw_kmid (fun R1 H2 => ∃ (oD : Nat), H2 o = some (.cel (C.2.cells ws)) ∧ H2 oL = some (.cel (vrL acc)) ∧ H2 oD = some (.cel (vrL C.1)) ∧ H' oD = none ∧ oD ≠ o ∧ oD ≠ oL ∧ (∀ p y, p ≠ o → H' p = some y → H2 p = some y) ∧ R1 = [(0, .ptr o 0), (3, .vw oL 5 0 acc.length), (4, .vw oD 5 0 C.1.length)]) ?_ ?_
        · clear hR cd
          cases b1 : T.is ws ([119, 104, 101, 110] : Bs) with
          | false =>
            have ct := fun H h => take_f (o := o) H T ([119, 104, 101, 110] : Bs) h hTk hl b1
            have hC2 : onF ws (l1, T) = (l1, T) := by unfold onF; rw [if_neg (by show ¬ T.is ws _ = true; rw [b1]; decide)]
            rw [hC2] at hC
            subst hC
            (first | focus (refine yy8 ?_; (refine zc auto_wl (ct _ auto_heap) ?_; rintro r H' ⟨rfl, rfl⟩); refine yy25 ?_; rotate_left) | fail)
            exact ⟨_, _, Ent.sub _ (by (repeat' (first | exact RSub.nil _ | apply RSub.cons)); all_goals rfl), oD, by exact auto_heap, by exact auto_heap, by exact auto_heap, n1, n2, hDL, fun p y hne hp => by
              have hp2 := hfr p y hne hp
              have hp3 : p ≠ oD := fun e => by rw [e, n1] at hp; cases hp
              exact auto_heap, rfl⟩
          | true =>
            have ct := fun H h => take_t (o := o) H T ([119, 104, 101, 110] : Bs) h hTk hl b1
            have hC2 : onF ws (l1, T) = (l1.map fun v => { v with on := ((T.step.take ws ([110, 111, 116] : Bs)).2.name ws).1, not := (T.step.take ws ([110, 111, 116] : Bs)).1 }, ((T.step.take ws ([110, 111, 116] : Bs)).2.name ws).2) := by unfold onF; rw [if_pos (by exact b1)]
            rw [hC2] at hC
            have h3 := Tr.step hw hTk (is_kind b1).2.1
            generalize T.step = T1 at *
            have cn := fun H h => take_calls (o := o) H T1 ([110, 111, 116] : Bs) h h3.kl hl
            have h4 := Tr.take (S := T1) (s := ([110, 111, 116] : Bs)) hw h3.kl
            generalize T1.take ws ([110, 111, 116] : Bs) = A at *
            obtain ⟨nt, T2⟩ := A
            simp only at *
            have cm := fun H h => name_calls (o := o) H T2 h h4.kl hl
            generalize T2.name ws = A at *
            obtain ⟨on, T3⟩ := A
            simp only at *
            subst hC
            clear h2 hUk hUm hC2 hl2
            (first | focus (refine yy8 ?_; (refine zc auto_wl (ct _ auto_heap) ?_; rintro r H' ⟨rfl, rfl⟩); refine yy122 ?_; refine yy8 ?_; (refine zc auto_wl (cn _ auto_heap) ?_; rintro r H' ⟨rfl, rfl⟩); refine yy6 ?_; refine yy8 ?_; (refine zc auto_wl (cm _ auto_heap) ?_; rintro r H' ⟨rfl, rfl⟩); refine yy72 ?_; refine yy4 ?_; refine yy15 ?_; refine aw_block ?_; rotate_left) | fail)
            refine aw_loop (fun mm R1 H3 => ∃ (i : Nat), i ≤ l1.length ∧ H3 o = some (.cel (T3.cells ws)) ∧ H3 oL = some (.cel (vrL acc)) ∧ H3 oD = some (.cel (vrL (upTo (fun v => { v with on := on, not := nt }) i l1))) ∧ (∀ p y, p ≠ o → H' p = some y → H3 p = some y) ∧ R1 = [(0, .ptr o 0), (3, .vw oL 5 0 acc.length), (4, .vw oD 5 0 l1.length), (5, avB nt), (6, .str on), (7, avI i)] ∧ l1.length - i = mm) ?_ ?_
            · exact ⟨_, _, _, Ent.sub _ (by (repeat' (first | exact RSub.nil _ | apply RSub.cons)); all_goals rfl), 0, Nat.zero_le _, by exact auto_heap, by exact auto_heap, by exact auto_heap, fun p y hne hp => by
                have hp2 := hfr p y hne hp
                have hp3 : p ≠ oD := fun e => by rw [e, n1] at hp; cases hp
                exact auto_heap, rfl, rfl⟩
            clear q1 q2 hfr hoD
            rintro mm R1 H3 ⟨i, hi, q1, q2, q3, hfr, rfl, rfl⟩
            have hul := upTo_len (fun v : Vr => { v with on := on, not := nt }) i l1
            have hvl := vr_len (upTo (fun v : Vr => { v with on := on, not := nt }) i l1)
            by_cases hlt : i < l1.length
            · have hg : l1[i]? = some l1[i] := List.getElem?_eq_getElem hlt
              have hs := upTo_set (fun v : Vr => { v with on := on, not := nt }) i l1 _ hg
              have hg2 := (upTo_get (fun v : Vr => { v with on := on, not := nt }) i l1).trans hg
              have hfs := vr_on _ i _ on nt hg2
              rw [← hs] at hfs
              clear hs hg2 hg
              generalize upTo (fun v : Vr => { v with on := on, not := nt }) i l1 = la at *
              replace hfs := Hdn.mk hfs
              (first | focus (refine yy9 ?_; refine yy23 ?_; refine yy137 ?_; refine yy49 ?_; refine aw_condp rfl (fun hc => ?_) (fun hc => ?_); refine yy13 ?_; refine yy32 ?_; refine yy23 ?_; refine yy7 ?_; refine yy23 ?_; refine yy7 ?_; refine yy97 ?_; refine awl_s rfl (s_indexAddr_vw rfl rfl auto_len) ?_; refine yy62 ?_; refine yy58 ?_; refine awl_s rfl (s_indexAddr_vw rfl rfl auto_len) ?_; refine yy62 ?_; rotate_left; exact absurd hc auto_no) | fail)
              refine zs5 rfl auto_mv rfl auto_r (by rw [List.length_set]; omega) ?_
              (first | focus (refine yy48 ?_; refine yy22 ?_; rotate_left) | fail)
              exact ⟨l1.length - (i + 1), _, _, by omega, Ent.sub _ (by (repeat' (first | exact RSub.nil _ | apply RSub.cons)); all_goals rfl), i + 1, by omega, by exact auto_heap, by exact auto_heap, by rw [AHeap.set_self, Nat.zero_add]; exact congrArg (fun x => some (AO.cel x)) hfs.out, fun p y hne hp => by
                have hp2 := hfr p y hne hp
                have hp3 : p ≠ oD := fun e => by rw [e, n1] at hp; cases hp
                exact auto_heap, rfl, rfl⟩
            · obtain rfl : i = l1.length := by omega
              rw [upTo_all] at q3
              clear hul hvl
              (first | focus (refine yy9 ?_; refine yy23 ?_; refine yy137 ?_; refine yy49 ?_; refine yy34 ?_; intro hc; rotate_left) | fail)
              exact ⟨[(0, .ptr o 0), (3, .vw oL 5 0 acc.length), (4, .vw oD 5 0 l1.length)], _, Ent.sub _ (by (repeat' (first | exact RSub.nil _ | apply RSub.cons)); all_goals rfl), oD, q1, q2, q3, n1, n2, hDL, hfr, by rw [List.length_map]⟩
        clear cd hoD hDo hDL n1 n2 q1 q2 hfr h1 hC hle hle1
        rintro R1 H2 ⟨oD, q1, q2, q3, n1, n2, hDL, hfr, rfl⟩
        have hle := vr_len acc
        have hle1 := vr_len C.1
        obtain ⟨l2, U⟩ := C
        simp only at *
        have ci := fun H h => is_calls (o := o) H U ([59] : Bs) h hUk hl
        cases b2 : U.is ws ([59] : Bs) with
        | false =>
          rw [b2] at ci
          replace hR := hR.out
          rw [if_neg (fun h => by have := h.1; rw [b2] at this; cases this)] at hR
          subst hR
          (first | focus (refine yy2 ?_; refine yy23 ?_; refine yy23 ?_; refine za4 rfl rfl rfl auto_heap auto_al auto_src auto_len auto_len (fun oN hoN => ?_); refine yy40 ?_; refine yy4 ?_; refine aw_seq ?_; refine yy73 ?_; (apply awt_s; · exact s_move (v := .ptr _ _) rfl); (apply awt_s; · exact s_callc auto_wl (ci _ auto_heap)); (apply awt_s; · exact s_notb rfl); (apply awt_s; · exact s_move (v := .raw _) rfl); refine yy64 ?_; refine yy64 ?_; refine yy64 ?_; refine zt4 rfl rfl ?_; (apply awt_s; · exact s_pick_t (v := .raw _) rfl rfl); refine yy77 ?_; refine aw_cond_t rfl ?_; refine aw_exit ?_; refine k_seq_exit ?_; refine k_block_ne rfl ?_; refine yy134 ?_; rotate_left) | fail)
          obtain ⟨m1, m2⟩ := freshH hfr q1 (show H2 oN = none by (first | assumption | exact AHeap.none_of_set ((by assumption)) | exact AHeap.none_of_set (AHeap.none_of_set ((by assumption))) | exact AHeap.none_of_set (AHeap.none_of_set (AHeap.none_of_set ((by assumption)))) | exact AHeap.none_of_set (AHeap.none_of_set (AHeap.none_of_set (AHeap.none_of_set ((by assumption))))) | exact AHeap.none_of_set (AHeap.none_of_set (AHeap.none_of_set (AHeap.none_of_set (AHeap.none_of_set ((by assumption)))))) | exact AHeap.none_of_set (AHeap.none_of_set (AHeap.none_of_set (AHeap.none_of_set (AHeap.none_of_set (AHeap.none_of_set ((by assumption))))))) | exact AHeap.none_of_set (AHeap.none_of_set (AHeap.none_of_set (AHeap.none_of_set (AHeap.none_of_set (AHeap.none_of_set (AHeap.none_of_set ((by assumption)))))))) | exact AHeap.none_of_set (AHeap.none_of_set (AHeap.none_of_set (AHeap.none_of_set (AHeap.none_of_set (AHeap.none_of_set (AHeap.none_of_set (AHeap.none_of_set ((by assumption))))))))) | exact AHeap.none_of_set (AHeap.none_of_set (AHeap.none_of_set (AHeap.none_of_set (AHeap.none_of_set (AHeap.none_of_set (AHeap.none_of_set (AHeap.none_of_set (AHeap.none_of_set ((by assumption)))))))))) | exact AHeap.none_of_set (AHeap.none_of_set (AHeap.none_of_set (AHeap.none_of_set (AHeap.none_of_set (AHeap.none_of_set (AHeap.none_of_set (AHeap.none_of_set (AHeap.none_of_set (AHeap.none_of_set ((by assumption)))))))))))))
          exact ⟨[(0, .ptr o 0), (3, .vw oN 5 0 (acc.length + l2.length))], _, Ent.sub _ (by (repeat' (first | exact RSub.nil _ | apply RSub.cons)); all_goals rfl), oN, by exact auto_heap, by rw [AHeap.set_self, vr_app, List.drop_zero, List.take_of_length_le (by omega)], m1, m2, fun p y hne hp => by
            have hp2 := hfr p y hne hp
            have hp3 : p ≠ oL := fun e => by rw [e, hoL] at hp; cases hp
            have hp4 : p ≠ oN := fun e => by rw [e, m1] at hp; cases hp
            exact auto_heap, by rw [List.length_append]⟩
        | true =>
          rw [b2] at ci
          have hk2 := hw.kind hUk (is_kind b2).2.1
          have hg := wd_get hk2 (j := 0) (by decide) (y := avI (ws.getD (U.k + 1) Wd0).kind) rfl
          have hfl := wds_len ws
          have h3 := Tr.step hw hUk (is_kind b2).2.1
          have hm3 := mu_step hUk (is_kind b2).1
          have hst : (U.step.w ws).kind = (ws.getD (U.k + 1) Wd0).kind := rfl
          rw [hst] at hR
          generalize (ws.getD (U.k + 1) Wd0).kind = kd at *
          by_cases hkd : kd = 1
          · replace hR := hR.out
            rw [if_pos ⟨b2, hkd⟩] at hR
            replace hR := Hdn.mk hR
            (first | focus (refine yy2 ?_; refine yy23 ?_; refine yy23 ?_; refine za4 rfl rfl rfl auto_heap auto_al auto_src auto_len auto_len (fun oN hoN => ?_); refine yy40 ?_; refine yy4 ?_; refine aw_seq ?_; refine yy73 ?_; (apply awt_s; · exact s_move (v := .ptr _ _) rfl); (apply awt_s; · exact s_callc auto_wl (ci _ auto_heap)); (apply awt_s; · exact s_notb rfl); (apply awt_s; · exact s_move (v := .raw _) rfl); refine yy3 ?_; (apply awt_s; · exact s_move (v := .ptr _ _) rfl); refine yy3 ?_; (apply awt_s; · exact s_nilCheck_ptr rfl); refine yy3 ?_; (apply awt_s; · exact s_fieldAddr_ptr rfl); refine yy3 ?_; (apply awt_s; · exact s_load_cel rfl auto_heap rfl); refine yy3 ?_; (apply awt_s; · exact s_move (v := .ptr _ _) rfl); refine yy3 ?_; (apply awt_s; · exact s_nilCheck_ptr rfl); refine yy3 ?_; (apply awt_s; · exact s_fieldAddr_ptr rfl); refine yy3 ?_; (apply awt_s; · exact s_load_cel rfl auto_heap rfl); refine yy3 ?_; (apply awt_s; · exact s_addn rfl rfl auto_len); refine yy3 ?_; (apply awt_s; · exact s_indexAddr_sls rfl rfl auto_len); refine yy3 ?_; (apply awt_s; · exact s_fieldAddr_pce rfl); refine yy3 ?_; (apply awt_s; · exact s_load_pce rfl auto_idx); refine yy3 ?_; (apply awt_s; · exact s_nen rfl rfl); (apply awt_s; · exact s_pick_f (v := .raw _) rfl rfl); refine yy77 ?_; refine yy60 ?_; intro hc; refine yy67 ?_; refine yy106 ?_; refine yy109 ?_; refine yy88 ?_; refine yy58 ?_; refine yy48 ?_; rotate_left) | fail)
            obtain ⟨m1, m2⟩ := freshH hfr q1 (show H2 oN = none by (first | assumption | exact AHeap.none_of_set ((by assumption)) | exact AHeap.none_of_set (AHeap.none_of_set ((by assumption))) | exact AHeap.none_of_set (AHeap.none_of_set (AHeap.none_of_set ((by assumption)))) | exact AHeap.none_of_set (AHeap.none_of_set (AHeap.none_of_set (AHeap.none_of_set ((by assumption))))) | exact AHeap.none_of_set (AHeap.none_of_set (AHeap.none_of_set (AHeap.none_of_set (AHeap.none_of_set ((by assumption)))))) | exact AHeap.none_of_set (AHeap.none_of_set (AHeap.none_of_set (AHeap.none_of_set (AHeap.none_of_set (AHeap.none_of_set ((by assumption))))))) | exact AHeap.none_of_set (AHeap.none_of_set (AHeap.none_of_set (AHeap.none_of_set (AHeap.none_of_set (AHeap.none_of_set (AHeap.none_of_set ((by assumption)))))))) | exact AHeap.none_of_set (AHeap.none_of_set (AHeap.none_of_set (AHeap.none_of_set (AHeap.none_of_set (AHeap.none_of_set (AHeap.none_of_set (AHeap.none_of_set ((by assumption))))))))) | exact AHeap.none_of_set (AHeap.none_of_set (AHeap.none_of_set (AHeap.none_of_set (AHeap.none_of_set (AHeap.none_of_set (AHeap.none_of_set (AHeap.none_of_set (AHeap.none_of_set ((by assumption)))))))))) | exact AHeap.none_of_set (AHeap.none_of_set (AHeap.none_of_set (AHeap.none_of_set (AHeap.none_of_set (AHeap.none_of_set (AHeap.none_of_set (AHeap.none_of_set (AHeap.none_of_set (AHeap.none_of_set ((by assumption)))))))))))))
            exact ⟨m, [(0, .ptr o 0), (3, .vw oN 5 0 (acc.length + l2.length))], _, Nat.lt_succ_self _, Ent.sub _ (by (repeat' (first | exact RSub.nil _ | apply RSub.cons)); all_goals rfl), oN, acc ++ l2, U.step, m, h3.kl, by omega, hR.out, by rw [List.length_append]; omega, by exact auto_heap, by
              refine (AHeap.get_set_ne _ m2).trans ?_
              rw [AHeap.set_self, vr_app, List.drop_zero, List.take_of_length_le (by omega)], m1, m2, fun p y hne hp => by
              have hp2 := hfr p y hne hp
              have hp3 : p ≠ oL := fun e => by rw [e, hoL] at hp; cases hp
              have hp4 : p ≠ oN := fun e => by rw [e, m1] at hp; cases hp
              exact auto_heap, by rw [List.length_append], rfl⟩
          · replace hR := hR.out
            rw [if_neg (fun h => hkd h.2)] at hR
            subst hR
            (first | focus (refine yy2 ?_; refine yy23 ?_; refine yy23 ?_; refine za4 rfl rfl rfl auto_heap auto_al auto_src auto_len auto_len (fun oN hoN => ?_); refine yy40 ?_; refine yy4 ?_; refine aw_seq ?_; refine yy73 ?_; (apply awt_s; · exact s_move (v := .ptr _ _) rfl); (apply awt_s; · exact s_callc auto_wl (ci _ auto_heap)); (apply awt_s; · exact s_notb rfl); (apply awt_s; · exact s_move (v := .raw _) rfl); refine yy3 ?_; (apply awt_s; · exact s_move (v := .ptr _ _) rfl); refine yy3 ?_; (apply awt_s; · exact s_nilCheck_ptr rfl); refine yy3 ?_; (apply awt_s; · exact s_fieldAddr_ptr rfl); refine yy3 ?_; (apply awt_s; · exact s_load_cel rfl auto_heap rfl); refine yy3 ?_; (apply awt_s; · exact s_move (v := .ptr _ _) rfl); refine yy3 ?_; (apply awt_s; · exact s_nilCheck_ptr rfl); refine yy3 ?_; (apply awt_s; · exact s_fieldAddr_ptr rfl); refine yy3 ?_; (apply awt_s; · exact s_load_cel rfl auto_heap rfl); refine yy3 ?_; (apply awt_s; · exact s_addn rfl rfl auto_len); refine yy3 ?_; (apply awt_s; · exact s_indexAddr_sls rfl rfl auto_len); refine yy3 ?_; (apply awt_s; · exact s_fieldAddr_pce rfl); refine yy3 ?_; (apply awt_s; · exact s_load_pce rfl auto_idx); refine yy3 ?_; (apply awt_s; · exact s_nen rfl rfl); (apply awt_s; · exact s_pick_f (v := .raw _) rfl rfl); refine yy77 ?_; refine aw_condp rfl (fun hc => ?_) (fun hc => ?_); replace hc := hide_nat hc; refine aw_exit ?_; refine k_seq_exit ?_; refine k_block_ne rfl ?_; refine yy134 ?_; rotate_left; exact absurd hc auto_no) | fail)
            obtain ⟨m1, m2⟩ := freshH hfr q1 (show H2 oN = none by (first | assumption | exact AHeap.none_of_set ((by assumption)) | exact AHeap.none_of_set (AHeap.none_of_set ((by assumption))) | exact AHeap.none_of_set (AHeap.none_of_set (AHeap.none_of_set ((by assumption)))) | exact AHeap.none_of_set (AHeap.none_of_set (AHeap.none_of_set (AHeap.none_of_set ((by assumption))))) | exact AHeap.none_of_set (AHeap.none_of_set (AHeap.none_of_set (AHeap.none_of_set (AHeap.none_of_set ((by assumption)))))) | exact AHeap.none_of_set (AHeap.none_of_set (AHeap.none_of_set (AHeap.none_of_set (AHeap.none_of_set (AHeap.none_of_set ((by assumption))))))) | exact AHeap.none_of_set (AHeap.none_of_set (AHeap.none_of_set (AHeap.none_of_set (AHeap.none_of_set (AHeap.none_of_set (AHeap.none_of_set ((by assumption)))))))) | exact AHeap.none_of_set (AHeap.none_of_set (AHeap.none_of_set (AHeap.none_of_set (AHeap.none_of_set (AHeap.none_of_set (AHeap.none_of_set (AHeap.none_of_set ((by assumption))))))))) | exact AHeap.none_of_set (AHeap.none_of_set (AHeap.none_of_set (AHeap.none_of_set (AHeap.none_of_set (AHeap.none_of_set (AHeap.none_of_set (AHeap.none_of_set (AHeap.none_of_set ((by assumption)))))))))) | exact AHeap.none_of_set (AHeap.none_of_set (AHeap.none_of_set (AHeap.none_of_set (AHeap.none_of_set (AHeap.none_of_set (AHeap.none_of_set (AHeap.none_of_set (AHeap.none_of_set (AHeap.none_of_set ((by assumption)))))))))))))
            exact ⟨[(0, .ptr o 0), (3, .vw oN 5 0 (acc.length + l2.length))], _, Ent.sub _ (by (repeat' (first | exact RSub.nil _ | apply RSub.cons)); all_goals rfl), oN, by exact auto_heap, by rw [AHeap.set_self, vr_app, List.drop_zero, List.take_of_length_le (by omega)], m1, m2, fun p y hne hp => by
              have hp2 := hfr p y hne hp
              have hp3 : p ≠ oL := fun e => by rw [e, hoL] at hp; cases hp
              have hp4 : p ≠ oN := fun e => by rw [e, m1] at hp; cases hp
              exact auto_heap, by rw [List.length_append]⟩
      · rw [if_neg g0] at hR
        subst hR
        (first | focus (refine yy46 ?_; refine yy56 ?_; refine yy87 ?_; refine yy4 ?_; refine yy90 ?_; intro hc; replace hc := hide_nat hc; refine yy113 ?_; rotate_left) | fail)
        exact ⟨_, _, Ent.sub _ (by (repeat' (first | exact RSub.nil _ | apply RSub.cons)); all_goals rfl), oL, q1, q2, hoL, hLo, hfr, rfl⟩
    · clear hmu hmS hR h hLo hoL oL ci hb hk
      rintro R1 H1 ⟨oL, q1, q2, hoL, hLo, hfr, rfl⟩
      (first | focus (refine yy2 ?_; refine yy23 ?_; refine yy40 ?_; refine yy108 ?_; rotate_left) | fail)
      exact ⟨.inl rfl, _, _, _, Ent.gc (sub2 (o := o) (oN := oL) q1 q2 (fun p y h1 h2 hp => hfr p y h1 hp)), ret1 rfl rfl, oL, rfl, hoL, hLo, rfl⟩
end
end Go.Proofs.Ytmgkhfnhaeplgaa

namespace Go.Proofs.Ytmgkhfnhaeplgaa
open Go Go.Am Go.Proofs
set_option linter.unusedSimpArgs false
set_option linter.unusedVariables false
set_option maxRecDepth 20000
set_option maxHeartbeats 8000000

/-! The reference's parser: a node. -/
abbrev Eqn.cells (q : Eqn) : List AV := [.str q.name, .str q.e.op, .str q.e.name, avI q.e.n, avI q.e.at_, .sls q.e.kids.length (exL q.e.kids), avI q.at_]
abbrev eqL (l : List Eqn) : List AV := l.flatMap Eqn.cells
theorem eq_len (l : List Eqn) : (eqL l).length = l.length * 7 := by
  induction l with
  | nil => rfl
  | cons x l ih => unfold eqL at *; rw [List.flatMap_cons, List.length_append, ih]; show 7 + l.length * 7 = (l.length + 1) * 7; omega
theorem eq_snoc (l : List Eqn) (v : Eqn) : eqL (l ++ [v]) = eqL l ++ v.cells := by unfold eqL; rw [List.flatMap_append, List.flatMap_singleton]
abbrev Nd.cells (n : Nd) : List AV := [.str n.name, .sls n.ins.length (vrL n.ins), .sls n.outs.length (vrL n.outs), .sls n.locs.length (vrL n.locs), .sls n.eqs.length (eqL n.eqs), avI n.at_]
abbrev ndZ : List AV := [.raw (.string ⟨#[]⟩), .raw (.slice none 0 0), .raw (.slice none 0 0), .raw (.slice none 0 0), .raw (.slice none 0 0), avI 0]
/-- A cell that shows a row which still grows. -/
def CelOk (sz : Nat) (H H3 : AHeap) (o oR oE : Nat) (kc : AV) (n : Nat) (xs : List AV) : Prop := (n = 0 ∧ kc = .raw (.slice none 0 0)) ∨ ∃ oK, kc = .vw oK sz 0 n ∧ H3 oK = some (.cel xs) ∧ H oK = none ∧ oK ≠ o ∧ oK ≠ oR ∧ oK ≠ oE
section
variable {ws : List Wd} {o : Nat}
theorem tr_declsL (hw : WsOk ws) : ∀ (m : Nat) (acc : List Vr) (S : Ps), S.k < ws.length → Tr ws S (declsL ws m acc S).2
  | 0, acc, S, h => .refl h
  | m + 1, acc, S, h => by
    unfold declsL
    split
    · rename_i hb
      have h1 := Tr.step hw h (is_kind hb).2.1
      have h2 := h1.trans (tr_decl hw _ h1.kl)
      exact h2.trans (tr_declsL hw m _ _ h2.kl)
    · exact .refl h
theorem tr_decls (hw : WsOk ws) (S : Ps) (h : S.k < ws.length) : Tr ws S (declsF ws S).2 := by
  unfold declsF
  split
  · exact .refl h
  · have h1 := tr_decl hw S h
    exact h1.trans (tr_declsL hw _ _ _ h1.kl)
theorem tr_localsL (hw : WsOk ws) : ∀ (m : Nat) (acc : List Vr) (S : Ps), S.k < ws.length → Tr ws S (localsL ws m acc S).2
  | 0, acc, S, h => .refl h
  | m + 1, acc, S, h => by
    rw [localsL_eq]
    split
    · have h1 := tr_decl hw S h
      have h2 := h1.trans (tr_onF hw _ h1.kl)
      split
      · rename_i hb
        have h3 := h2.trans (.step hw h2.kl (is_kind hb.1).2.1)
        exact h3.trans (tr_localsL hw m _ _ h3.kl)
      · exact h2
    · exact .refl h
theorem tr_locals (hw : WsOk ws) (S : Ps) (h : S.k < ws.length) : Tr ws S (localsF ws S).2 := by
  unfold localsF
  split
  · exact .refl h
  · exact tr_localsL hw _ _ _ h
theorem seal_vr {f : Nat} {H : AHeap} {l : List Vr} {T : Ps} (h : ACalls Try.prog f [.ptr o 0] H fun r H' => ∃ oL, r = .vw oL 5 0 l.length ∧ H oL = none ∧ oL ≠ o ∧ H' = (H.set o (.cel (T.cells ws))).set oL (.cel (vrL l))) :
    ACalls Try.prog f [.ptr o 0] H fun r H' => r = .sls l.length (vrL l) ∧ H' = H.set o (.cel (T.cells ws)) :=
  h.conv fun r H' ⟨oL, hr, hL, hLo, hH⟩ => ⟨.sls l.length (vrL l), H.set o (.cel (T.cells ws)), ⟨rfl, rfl⟩, by
    subst hr hH
    exact (Ent.seal_cel1 0 rfl (vr_len l) ((AHeap.get_set_ne _ hLo).trans hL)).trans (Ent.sub _ (RSub.cons rfl (RSub.nil _)))⟩
theorem decls_calls (hw : WsOk ws) (H : AHeap) (S : Ps) (h : H o = some (.cel (S.cells ws))) (hk : S.k < ws.length) :
    ACalls Try.prog 65 [.ptr o 0] H fun r H' => r = .sls (declsF ws S).1.length (vrL (declsF ws S).1) ∧ H' = H.set o (.cel ((declsF ws S).2.cells ws)) := seal_vr (decls_own hw H S h hk)
theorem locals_calls (hw : WsOk ws) (H : AHeap) (S : Ps) (h : H o = some (.cel (S.cells ws))) (hk : S.k < ws.length) :
    ACalls Try.prog 67 [.ptr o 0] H fun r H' => r = .sls (localsF ws S).1.length (vrL (localsF ws S).1) ∧ H' = H.set o (.cel ((localsF ws S).2.cells ws)) := seal_vr (locals_own hw H S h hk)
theorem tr_eqsL (hw : WsOk ws) : ∀ (m : Nat) (acc : List Eqn) (S : Ps), S.k < ws.length → S.d ≤ 29 → Tr ws S (eqsL ws m acc S).2
  | 0, acc, S, h, hd => .refl h
  | m + 1, acc, S, h, hd => by
    unfold eqsL
    split
    · have h1 := Tr.name (S := S) hw h
      have h2 := h1.trans (.want (s := ([61] : Bs)) hw h1.kl)
      have h3 : Tr ws S { ((S.name ws).2.want ws ([61] : Bs)) with parts := 0 } := ⟨h2.d, h2.k, h2.kl, h2.e⟩
      have h4 := h3.trans (good_expr hw _ h3.kl (by rw [h3.d]; exact hd))
      have h5 := h4.trans (.want (s := ([59] : Bs)) hw h4.kl)
      exact h5.trans (tr_eqsL hw m _ _ h5.kl (by rw [h5.d]; exact hd))
    · exact .refl h
theorem node_calls (hw : WsOk ws) (H : AHeap) (S : Ps) (h : H o = some (.cel (S.cells ws))) (hk : S.k < ws.length) (hd : S.d ≤ 29) :
    ACalls Try.prog 41 [.ptr o 0] H fun r H' => r = .agg (nodeF ws S).1.cells ∧ H' = H.set o (.cel ((nodeF ws S).2.cells ws)) := by
  have hl := hw.len
  have cw := fun H h => w_calls (o := o) H S h hk hl
  unfold nodeF
  have t0 : Tr ws S { S with names := 0 } := ⟨rfl, Nat.le_refl _, hk, id⟩
  have c1 := fun H h => want_calls (o := o) H { S with names := 0 } ([110, 111, 100, 101] : Bs) h hk hl
  have t1 := t0.trans (.want (s := ([110, 111, 100, 101] : Bs)) hw hk)
  generalize ({ S with names := 0 } : Ps).want ws ([110, 111, 100, 101] : Bs) = S1 at *
  have c2 := fun H h => name_calls (o := o) H S1 h t1.kl hl
  have t2 := t1.trans (.name hw t1.kl)
  generalize S1.name ws = A at *
  obtain ⟨nm, S2⟩ := A
  simp only at *
  have c3 := fun H h => want_calls (o := o) H S2 ([40] : Bs) h t2.kl hl
  have t3 := t2.trans (.want (s := ([40] : Bs)) hw t2.kl)
  generalize S2.want ws ([40] : Bs) = S3 at *
  have c4 := fun H h => decls_calls (o := o) hw H S3 h t3.kl
  have t4 := t3.trans (tr_decls hw _ t3.kl)
  generalize declsF ws S3 = A at *
  obtain ⟨ins, S4⟩ := A
  simp only at *
  have c5 := fun H h => want_calls (o := o) H S4 ([41] : Bs) h t4.kl hl
  have t5 := t4.trans (.want (s := ([41] : Bs)) hw t4.kl)
  generalize S4.want ws ([41] : Bs) = S5 at *
  have c6 := fun H h => want_calls (o := o) H S5 ([114, 101, 116, 117, 114, 110, 115] : Bs) h t5.kl hl
  have t6 := t5.trans (.want (s := ([114, 101, 116, 117, 114, 110, 115] : Bs)) hw t5.kl)
  generalize S5.want ws ([114, 101, 116, 117, 114, 110, 115] : Bs) = S6 at *
  have c7 := fun H h => want_calls (o := o) H S6 ([40] : Bs) h t6.kl hl
  have t7 := t6.trans (.want (s := ([40] : Bs)) hw t6.kl)
  generalize S6.want ws ([40] : Bs) = S7 at *
  have c8 := fun H h => decls_calls (o := o) hw H S7 h t7.kl
  have t8 := t7.trans (tr_decls hw _ t7.kl)
  generalize declsF ws S7 = A at *
  obtain ⟨outs, S8⟩ := A
  simp only at *
  have c9 := fun H h => want_calls (o := o) H S8 ([41] : Bs) h t8.kl hl
  have t9 := t8.trans (.want (s := ([41] : Bs)) hw t8.kl)
  generalize S8.want ws ([41] : Bs) = S9 at *
  have c10 := fun H h => want_calls (o := o) H S9 ([59] : Bs) h t9.kl hl
  have t10 := t9.trans (.want (s := ([59] : Bs)) hw t9.kl)
  generalize S9.want ws ([59] : Bs) = S10 at *
  clear t0 t1 t2 t3 t4 t5 t6 t7 t8 t9
  generalize hC : (if S10.is ws ([118, 97, 114] : Bs) = true then ((localsF ws S10.step).1, (localsF ws S10.step).2.want ws ([59] : Bs)) else ([], S10)) = Cc at *
  generalize hN : S.w ws = w at *
  refine acalls_of_aw1 Try.func41 rfl (by decide) ?_
  have t11 : Tr ws S Cc.2 := by
    rw [← hC]
    split
    · rename_i hb
      have h1 := t10.trans (.step hw t10.kl (is_kind hb).2.1)
      have h2 := h1.trans (tr_locals hw _ h1.kl)
      exact h2.trans (.want hw h2.kl)
    · exact t10
  (first | focus (refine yy2 ?_; refine awl_alloc rfl rfl rfl (fun oN hoN => ?_); refine yy12 ?_; (refine zc auto_wl (cw _ auto_heap) ?_; rintro r H' ⟨rfl, rfl⟩); refine yy57 ?_; refine yy20 ?_; refine awl_alloc rfl rfl rfl (fun oN hoN => ?_); refine yy11 ?_; refine yy12 ?_; refine yy88 ?_; refine yy58 ?_; refine yy12 ?_; (refine zc auto_wl (c1 _ auto_heap) ?_; rintro r H' ⟨rfl, rfl⟩); refine yy12 ?_; (refine zc auto_wl (c2 _ auto_heap) ?_; rintro r H' ⟨rfl, rfl⟩); refine yy62 ?_; refine yy58 ?_; refine yy12 ?_; (refine zc auto_wl (c3 _ auto_heap) ?_; rintro r H' ⟨rfl, rfl⟩); refine yy12 ?_; (refine zc auto_wl (c4 _ auto_heap) ?_; rintro r H' ⟨rfl, rfl⟩); refine yy62 ?_; refine yy58 ?_; refine yy12 ?_; (refine zc auto_wl (c5 _ auto_heap) ?_; rintro r H' ⟨rfl, rfl⟩); refine yy12 ?_; (refine zc auto_wl (c6 _ auto_heap) ?_; rintro r H' ⟨rfl, rfl⟩); refine yy12 ?_; (refine zc auto_wl (c7 _ auto_heap) ?_; rintro r H' ⟨rfl, rfl⟩); refine yy12 ?_; (refine zc auto_wl (c8 _ auto_heap) ?_; rintro r H' ⟨rfl, rfl⟩); refine yy62 ?_; refine yy58 ?_; refine yy12 ?_; (refine zc auto_wl (c9 _ auto_heap) ?_; rintro r H' ⟨rfl, rfl⟩); refine yy12 ?_; (refine zc auto_wl (c10 _ auto_heap) ?_; rintro r H' ⟨rfl, rfl⟩); refine yy4 ?_; rotate_left) | fail)
  rename_i oR hoR
  have hoE : H oN = none := AHeap.none_of_set hoN
  have hER : oN ≠ oR := by (first | assumption | exact Ne.symm (by assumption) | exact AHeap.ne_of_fresh (by assumption) | exact Ne.symm (AHeap.ne_of_fresh (by assumption)) | exact AHeap.ne_of_fresh (AHeap.none_of_set (by assumption)) | exact Ne.symm (AHeap.ne_of_fresh (AHeap.none_of_set (by assumption))) | exact AHeap.ne_ns (by assumption) (by assumption) | exact AHeap.ne_sn (by assumption) (by assumption) | exact AHeap.ne_ns (by assumption) auto_heap2 | exact AHeap.ne_sn (by assumption) auto_heap2)
  have hEo : oN ≠ o := by (first | assumption | exact Ne.symm (by assumption) | exact AHeap.ne_of_fresh (by assumption) | exact Ne.symm (AHeap.ne_of_fresh (by assumption)) | exact AHeap.ne_of_fresh (AHeap.none_of_set (by assumption)) | exact Ne.symm (AHeap.ne_of_fresh (AHeap.none_of_set (by assumption))) | exact AHeap.ne_ns (by assumption) (by assumption) | exact AHeap.ne_sn (by assumption) (by assumption) | exact AHeap.ne_ns (by assumption) auto_heap2 | exact AHeap.ne_sn (by assumption) auto_heap2)
  have hRo : oR ≠ o := by (first | assumption | exact Ne.symm (by assumption) | exact AHeap.ne_of_fresh (by assumption) | exact Ne.symm (AHeap.ne_of_fresh (by assumption)) | exact AHeap.ne_of_fresh (AHeap.none_of_set (by assumption)) | exact Ne.symm (AHeap.ne_of_fresh (AHeap.none_of_set (by assumption))) | exact AHeap.ne_ns (by assumption) (by assumption) | exact AHeap.ne_sn (by assumption) (by assumption) | exact AHeap.ne_ns (by assumption) auto_heap2 | exact AHeap.ne_sn (by assumption) auto_heap2)
  obtain ⟨oE, hoEe⟩ : ∃ x, x = oN := ⟨_, rfl⟩
  subst hoEe
  refine aw_seq ?_
  refine aw_kmid (fun R1 H1 => R1 = [(0, .ptr o 0), (2, .ptr oR 0), (3, .ptr oE 0)] ∧ H1 o = some (.cel (Cc.2.cells ws)) ∧ H1 oR = some (.cel ndZ) ∧ H1 oE = some (.cel [.str nm, .sls ins.length (vrL ins), .sls outs.length (vrL outs), .sls Cc.1.length (vrL Cc.1), .raw (.slice none 0 0), avI w.at_]) ∧ (∀ p y, p ≠ o → H p = some y → H1 p = some y)) ?_ ?_
  · clear cw c1 c2 c3 c4 c5 c6 c7 c8 c9 c10 t11
    cases hb : S10.is ws ([118, 97, 114] : Bs) with
    | true =>
      have ct := fun H h => take_t (o := o) H S10 ([118, 97, 114] : Bs) h t10.kl hl hb
      rw [hb, if_pos rfl] at hC
      have u1 := t10.trans (.step hw t10.kl (is_kind hb).2.1)
      generalize S10.step = U1 at *
      have d1 := fun H h => locals_calls (o := o) hw H U1 h u1.kl
      have u2 := u1.trans (tr_locals hw _ u1.kl)
      generalize localsF ws U1 = A at *
      obtain ⟨locs, U2⟩ := A
      simp only at *
      have d2 := fun H h => want_calls (o := o) H U2 ([59] : Bs) h u2.kl hl
      generalize U2.want ws ([59] : Bs) = U3 at *
      subst hC
      (first | focus (refine yy8 ?_; (refine zc auto_wl (ct _ auto_heap) ?_; rintro r H' ⟨rfl, rfl⟩); refine yy122 ?_; refine yy8 ?_; (refine zc auto_wl (d1 _ auto_heap) ?_; rintro r H' ⟨rfl, rfl⟩); refine yy62 ?_; refine yy58 ?_; refine yy4 ?_; refine yy67 ?_; (refine zc auto_wl (d2 _ auto_heap) ?_; rintro r H' ⟨rfl, rfl⟩); refine yy4 ?_; rotate_left) | fail)
      exact ⟨_, _, Ent.sub _ (by (repeat' (first | exact RSub.nil _ | apply RSub.cons)); all_goals rfl), rfl, by exact auto_heap, by exact auto_heap, by exact auto_heap, fun p y hne hp => auto_heap⟩
    | false =>
      have ct := fun H h => take_f (o := o) H S10 ([118, 97, 114] : Bs) h t10.kl hl hb
      rw [hb, if_neg (by decide)] at hC
      subst hC
      (first | focus (refine yy8 ?_; (refine zc auto_wl (ct _ auto_heap) ?_; rintro r H' ⟨rfl, rfl⟩); refine yy25 ?_; rotate_left) | fail)
      exact ⟨_, _, (Ent.sub _ (by (repeat' (first | exact RSub.nil _ | apply RSub.cons)); all_goals rfl)).trans (Ent.wcelH (AHeap.set_id (o := oE) (x := .cel [.str nm, .sls ins.length (vrL ins), .sls outs.length (vrL outs), .raw (.slice none 0 0), .raw (.slice none 0 0), avI w.at_]) auto_heap).symm (WC.cons (W.of rfl) (WC.cons (W.of rfl) (WC.cons (W.of rfl) (WC.cons (W.nils rfl) (WC.cons (W.of rfl) (WC.cons (W.of rfl) WC.nil))))))), rfl, by exact auto_heap, by exact auto_heap, AHeap.set_self _ _ _, fun p y hne hp => auto_heap⟩
  clear cw c1 c2 c3 c4 c5 c6 c7 c8 c9 c10 hoN hC t10
  rintro R1 H1 ⟨rfl, k1, k2, k3, hfr⟩
  obtain ⟨locs, U⟩ := Cc
  simp only at *
  have hkd : U.d ≤ 29 := by rw [t11.d]; exact hd
  have hUk := t11.kl
  have cl := fun H h => want_calls (o := o) H U ([108, 101, 116] : Bs) h hUk hl
  have u1 := Tr.want (S := U) (s := ([108, 101, 116] : Bs)) hw hUk
  generalize U.want ws ([108, 101, 116] : Bs) = V at *
  have hVk := u1.kl
  have hVd : V.d ≤ 29 := by rw [u1.d]; exact hkd
  have u2 := tr_eqsL hw (ws.length + 3) [] V hVk hVd
  have hmu : mu ws V < ws.length + 3 := by unfold mu; split <;> omega
  generalize hQ : eqsL ws (ws.length + 3) [] V = Q at *
  obtain ⟨qs, X⟩ := Q
  have hXk := u2.kl
  simp only at *
  clear t11 hkd u1 u2
  (first | focus (refine yy8 ?_; (refine zc auto_wl (cl _ auto_heap) ?_; rintro r H' ⟨rfl, rfl⟩); refine yy4 ?_; rotate_left) | fail)
  refine aw_seq ?_
  refine aw_kmid (fun R1 H3 => R1 = [(0, .ptr o 0), (2, .ptr oR 0), (3, .ptr oE 0)] ∧ H3 o = some (.cel (X.cells ws)) ∧ H3 oR = some (.cel ndZ) ∧ H3 oE = some (.cel (Nd.mk nm ins outs locs qs w.at_).cells) ∧ (∀ p y, p ≠ o → H p = some y → H3 p = some y)) ?_ ?_
  · refine aw_block ?_
    refine aw_loop (fun mm R1 H3 => ∃ (acc : List Eqn) (S : Ps) (m : Nat) (kc : AV), S.k < ws.length ∧ S.d ≤ 29 ∧ mu ws S < m ∧ eqsL ws m acc S = (qs, X) ∧ acc.length + mu ws S ≤ 20010 ∧ H3 o = some (.cel (S.cells ws)) ∧ H3 oR = some (.cel ndZ) ∧ H3 oE = some (.cel [.str nm, .sls ins.length (vrL ins), .sls outs.length (vrL outs), .sls locs.length (vrL locs), kc, avI w.at_]) ∧ CelOk 7 H H3 o oR oE kc acc.length (eqL acc) ∧ (∀ p y, p ≠ o → H p = some y → H3 p = some y) ∧ R1 = [(0, .ptr o 0), (2, .ptr oR 0), (3, .ptr oE 0)] ∧ m = mm) ?_ ?_
    · exact ⟨_, _, _, Ent.sub _ (by (repeat' (first | exact RSub.nil _ | apply RSub.cons)); all_goals rfl), [], V, _, .raw (.slice none 0 0), hVk, hVd, hmu, hQ, by show 0 + _ ≤ _; omega, by exact auto_heap, by exact auto_heap, by exact auto_heap, .inl ⟨rfl, rfl⟩, fun p y hne hp => by have hp2 := hfr p y hne hp; exact auto_heap, rfl, rfl⟩
    clear hmu hQ hVk hVd cl k1 k2 k3 hfr h
    rintro mm R1 H3 ⟨acc, S, m, kc, hk, hSd, hm, hQ, hal, q1, q2, q3, hK, hfr3, rfl, rfl⟩
    obtain ⟨m, rfl⟩ : ∃ m', m = m' + 1 := ⟨m - 1, by omega⟩
    unfold eqsL at hQ
    have cw := fun H h => w_calls (o := o) H S h hk hl
    by_cases g0 : S.err = 0 ∧ (S.w ws).kind = 1
    · rw [if_pos g0] at hQ
      obtain ⟨g1, g2⟩ := g0
      have cn := fun H h => name_calls (o := o) H S h hk hl
      have t1 := Tr.name (S := S) hw hk
      have m1 := mu_name hw hk g1
      generalize S.name ws = A at *
      obtain ⟨nm2, S1⟩ := A
      simp only at *
      have ce := fun H h => want_calls (o := o) H S1 ([61] : Bs) h t1.kl hl
      have t2 := t1.trans (.want (s := ([61] : Bs)) hw t1.kl)
      have m2 := (Tr.want (S := S1) (s := ([61] : Bs)) hw t1.kl).mu
      generalize S1.want ws ([61] : Bs) = S2 at *
      have t3 : Tr ws S { S2 with parts := 0 } := ⟨t2.d, t2.k, t2.kl, t2.e⟩
      have m3 : mu ws { S2 with parts := 0 } = mu ws S2 := rfl
      have hd3 : ({ S2 with parts := 0 } : Ps).d ≤ 29 := by rw [t3.d]; exact hSd
      have cx := fun H h => exprF_calls (o := o) hw H { S2 with parts := 0 } h t3.kl hd3
      have t4 := good_expr hw { S2 with parts := 0 } t3.kl hd3
      have m4 := t4.mu
      rw [m3] at m4
      generalize exprF ws { S2 with parts := 0 } = A at *
      obtain ⟨e, S3⟩ := A
      simp only at *
      have cs := fun H h => want_calls (o := o) H S3 ([59] : Bs) h t4.kl hl
      have t5 := t4.trans (.want (s := ([59] : Bs)) hw t4.kl)
      have m5 := (Tr.want (S := S3) (s := ([59] : Bs)) hw t4.kl).mu
      generalize S3.want ws ([59] : Bs) = S4 at *
      have hk4 := t5.kl
      have hd4 : S4.d ≤ 29 := by rw [t5.d]; exact hd3
      clear t1 t2 t3 t4 t5 m3 hd3
      replace hQ := Hdn.mk hQ
      generalize S.w ws = w2 at *
      have hle := eq_len acc
      rcases hK with ⟨hac, rfl⟩ | ⟨oK, rfl, j1, j2, j3, j4, j5⟩
      · obtain rfl : acc = [] := List.eq_nil_of_length_eq_zero hac
        (first | focus (refine yy46 ?_; refine yy56 ?_; refine yy17 ?_; refine zg1 rfl rfl rfl (fun hc => ?_) (fun hc => ?_); refine yy125 ?_; refine yy5 ?_; (refine zc auto_wl (cw _ auto_heap) ?_; rintro r H' ⟨rfl, rfl⟩); refine yy5 ?_; refine yy57 ?_; refine yy96 ?_; refine yy79 ?_; refine aw_condp rfl (fun hc => ?_) (fun hc => ?_); refine yy51 ?_; refine yy8 ?_; (refine zc auto_wl (cw _ auto_heap) ?_; rintro r H' ⟨rfl, rfl⟩); refine yy57 ?_; refine yy20 ?_; refine awl_alloc rfl rfl rfl (fun oN hoN => ?_); refine yy11 ?_; refine yy12 ?_; (refine zc auto_wl (cn _ auto_heap) ?_; rintro r H' ⟨rfl, rfl⟩); refine yy62 ?_; refine yy58 ?_; refine yy12 ?_; (refine zc auto_wl (ce _ auto_heap) ?_; rintro r H' ⟨rfl, rfl⟩); refine yy12 ?_; refine yy88 ?_; refine yy140 ?_; refine yy12 ?_; (refine zc auto_wl (cx _ auto_heap) ?_; rintro r H' ⟨rfl, rfl⟩); refine yy62 ?_; refine yy139 ?_; refine yy12 ?_; (refine zc auto_wl (cs _ auto_heap) ?_; rintro r H' ⟨rfl, rfl⟩); refine yy4 ?_; refine yy32 ?_; refine yy10 ?_; refine yy26 ?_; refine yy37 ?_; refine awl_own_nil_cel rfl rfl rfl auto_src auto_len auto_len (fun oN hoN => ?_); refine yy62 ?_; refine yy58 ?_; refine yy48 ?_; rotate_left; exact absurd hc auto_no; exact absurd hc auto_no) | fail)
        obtain ⟨n1, n2⟩ := freshH hfr3 q1 (show H' oN = none by (first | assumption | exact AHeap.none_of_set ((by assumption)) | exact AHeap.none_of_set (AHeap.none_of_set ((by assumption))) | exact AHeap.none_of_set (AHeap.none_of_set (AHeap.none_of_set ((by assumption)))) | exact AHeap.none_of_set (AHeap.none_of_set (AHeap.none_of_set (AHeap.none_of_set ((by assumption))))) | exact AHeap.none_of_set (AHeap.none_of_set (AHeap.none_of_set (AHeap.none_of_set (AHeap.none_of_set ((by assumption)))))) | exact AHeap.none_of_set (AHeap.none_of_set (AHeap.none_of_set (AHeap.none_of_set (AHeap.none_of_set (AHeap.none_of_set ((by assumption))))))) | exact AHeap.none_of_set (AHeap.none_of_set (AHeap.none_of_set (AHeap.none_of_set (AHeap.none_of_set (AHeap.none_of_set (AHeap.none_of_set ((by assumption)))))))) | exact AHeap.none_of_set (AHeap.none_of_set (AHeap.none_of_set (AHeap.none_of_set (AHeap.none_of_set (AHeap.none_of_set (AHeap.none_of_set (AHeap.none_of_set ((by assumption))))))))) | exact AHeap.none_of_set (AHeap.none_of_set (AHeap.none_of_set (AHeap.none_of_set (AHeap.none_of_set (AHeap.none_of_set (AHeap.none_of_set (AHeap.none_of_set (AHeap.none_of_set ((by assumption)))))))))) | exact AHeap.none_of_set (AHeap.none_of_set (AHeap.none_of_set (AHeap.none_of_set (AHeap.none_of_set (AHeap.none_of_set (AHeap.none_of_set (AHeap.none_of_set (AHeap.none_of_set (AHeap.none_of_set ((by assumption)))))))))))))
        have n3 : oN ≠ oR := fun e => by have h9 : H' oN = none := by (first | assumption | exact AHeap.none_of_set ((by assumption)) | exact AHeap.none_of_set (AHeap.none_of_set ((by assumption))) | exact AHeap.none_of_set (AHeap.none_of_set (AHeap.none_of_set ((by assumption)))) | exact AHeap.none_of_set (AHeap.none_of_set (AHeap.none_of_set (AHeap.none_of_set ((by assumption))))) | exact AHeap.none_of_set (AHeap.none_of_set (AHeap.none_of_set (AHeap.none_of_set (AHeap.none_of_set ((by assumption)))))) | exact AHeap.none_of_set (AHeap.none_of_set (AHeap.none_of_set (AHeap.none_of_set (AHeap.none_of_set (AHeap.none_of_set ((by assumption))))))) | exact AHeap.none_of_set (AHeap.none_of_set (AHeap.none_of_set (AHeap.none_of_set (AHeap.none_of_set (AHeap.none_of_set (AHeap.none_of_set ((by assumption)))))))) | exact AHeap.none_of_set (AHeap.none_of_set (AHeap.none_of_set (AHeap.none_of_set (AHeap.none_of_set (AHeap.none_of_set (AHeap.none_of_set (AHeap.none_of_set ((by assumption))))))))) | exact AHeap.none_of_set (AHeap.none_of_set (AHeap.none_of_set (AHeap.none_of_set (AHeap.none_of_set (AHeap.none_of_set (AHeap.none_of_set (AHeap.none_of_set (AHeap.none_of_set ((by assumption)))))))))) | exact AHeap.none_of_set (AHeap.none_of_set (AHeap.none_of_set (AHeap.none_of_set (AHeap.none_of_set (AHeap.none_of_set (AHeap.none_of_set (AHeap.none_of_set (AHeap.none_of_set (AHeap.none_of_set ((by assumption))))))))))))
                                         rw [e, q2] at h9; cases h9
        have n4 : oN ≠ oE := fun e => by have h9 : H' oN = none := by (first | assumption | exact AHeap.none_of_set ((by assumption)) | exact AHeap.none_of_set (AHeap.none_of_set ((by assumption))) | exact AHeap.none_of_set (AHeap.none_of_set (AHeap.none_of_set ((by assumption)))) | exact AHeap.none_of_set (AHeap.none_of_set (AHeap.none_of_set (AHeap.none_of_set ((by assumption))))) | exact AHeap.none_of_set (AHeap.none_of_set (AHeap.none_of_set (AHeap.none_of_set (AHeap.none_of_set ((by assumption)))))) | exact AHeap.none_of_set (AHeap.none_of_set (AHeap.none_of_set (AHeap.none_of_set (AHeap.none_of_set (AHeap.none_of_set ((by assumption))))))) | exact AHeap.none_of_set (AHeap.none_of_set (AHeap.none_of_set (AHeap.none_of_set (AHeap.none_of_set (AHeap.none_of_set (AHeap.none_of_set ((by assumption)))))))) | exact AHeap.none_of_set (AHeap.none_of_set (AHeap.none_of_set (AHeap.none_of_set (AHeap.none_of_set (AHeap.none_of_set (AHeap.none_of_set (AHeap.none_of_set ((by assumption))))))))) | exact AHeap.none_of_set (AHeap.none_of_set (AHeap.none_of_set (AHeap.none_of_set (AHeap.none_of_set (AHeap.none_of_set (AHeap.none_of_set (AHeap.none_of_set (AHeap.none_of_set ((by assumption)))))))))) | exact AHeap.none_of_set (AHeap.none_of_set (AHeap.none_of_set (AHeap.none_of_set (AHeap.none_of_set (AHeap.none_of_set (AHeap.none_of_set (AHeap.none_of_set (AHeap.none_of_set (AHeap.none_of_set ((by assumption))))))))))))
                                         rw [e, q3] at h9; cases h9
        exact ⟨m, _, _, Nat.lt_succ_self _, Ent.sub _ (by (repeat' (first | exact RSub.nil _ | apply RSub.cons)); all_goals rfl), [⟨nm2, e, w2.at_⟩], S4, m, .vw oN 7 0 1, hk4, hd4, by omega, hQ.out, by show 1 + _ ≤ _; simp at hal; omega, by exact auto_heap, by exact auto_heap, by exact auto_heap, .inr ⟨oN, rfl, by rw [show eqL [(⟨nm2, e, w2.at_⟩ : Eqn)] = (⟨nm2, e, w2.at_⟩ : Eqn).cells from by simp [eqL]]; exact auto_heap, n1, n2, n3, n4⟩, fun p y hne hp => by
          have hp2 := hfr3 p y hne hp
          have hp3 : p ≠ oE := fun e => by rw [e, hoE] at hp; cases hp
          have hp4 : p ≠ oN := fun e => by rw [e, n1] at hp; cases hp
          exact auto_heap, rfl, rfl⟩
      · (first | focus (refine yy46 ?_; refine yy56 ?_; refine yy17 ?_; refine zg1 rfl rfl rfl (fun hc => ?_) (fun hc => ?_); refine yy125 ?_; refine yy5 ?_; (refine zc auto_wl (cw _ auto_heap) ?_; rintro r H' ⟨rfl, rfl⟩); refine yy5 ?_; refine yy57 ?_; refine yy96 ?_; refine yy79 ?_; refine aw_condp rfl (fun hc => ?_) (fun hc => ?_); refine yy51 ?_; refine yy8 ?_; (refine zc auto_wl (cw _ auto_heap) ?_; rintro r H' ⟨rfl, rfl⟩); refine yy57 ?_; refine yy20 ?_; refine awl_alloc rfl rfl rfl (fun oN hoN => ?_); refine yy11 ?_; refine yy12 ?_; (refine zc auto_wl (cn _ auto_heap) ?_; rintro r H' ⟨rfl, rfl⟩); refine yy62 ?_; refine yy58 ?_; refine yy12 ?_; (refine zc auto_wl (ce _ auto_heap) ?_; rintro r H' ⟨rfl, rfl⟩); refine yy12 ?_; refine yy88 ?_; refine yy140 ?_; refine yy12 ?_; (refine zc auto_wl (cx _ auto_heap) ?_; rintro r H' ⟨rfl, rfl⟩); refine yy62 ?_; refine yy139 ?_; refine yy12 ?_; (refine zc auto_wl (cs _ auto_heap) ?_; rintro r H' ⟨rfl, rfl⟩); refine yy4 ?_; refine yy32 ?_; refine yy10 ?_; refine yy26 ?_; refine yy37 ?_; refine za4 rfl rfl rfl auto_heap auto_al auto_src auto_len auto_len (fun oN hoN => ?_); refine yy62 ?_; refine yy58 ?_; refine yy48 ?_; rotate_left; exact absurd hc auto_no; exact absurd hc auto_no) | fail)
        obtain ⟨n1, n2⟩ := freshH hfr3 q1 (show H' oN = none by (first | assumption | exact AHeap.none_of_set ((by assumption)) | exact AHeap.none_of_set (AHeap.none_of_set ((by assumption))) | exact AHeap.none_of_set (AHeap.none_of_set (AHeap.none_of_set ((by assumption)))) | exact AHeap.none_of_set (AHeap.none_of_set (AHeap.none_of_set (AHeap.none_of_set ((by assumption))))) | exact AHeap.none_of_set (AHeap.none_of_set (AHeap.none_of_set (AHeap.none_of_set (AHeap.none_of_set ((by assumption)))))) | exact AHeap.none_of_set (AHeap.none_of_set (AHeap.none_of_set (AHeap.none_of_set (AHeap.none_of_set (AHeap.none_of_set ((by assumption))))))) | exact AHeap.none_of_set (AHeap.none_of_set (AHeap.none_of_set (AHeap.none_of_set (AHeap.none_of_set (AHeap.none_of_set (AHeap.none_of_set ((by assumption)))))))) | exact AHeap.none_of_set (AHeap.none_of_set (AHeap.none_of_set (AHeap.none_of_set (AHeap.none_of_set (AHeap.none_of_set (AHeap.none_of_set (AHeap.none_of_set ((by assumption))))))))) | exact AHeap.none_of_set (AHeap.none_of_set (AHeap.none_of_set (AHeap.none_of_set (AHeap.none_of_set (AHeap.none_of_set (AHeap.none_of_set (AHeap.none_of_set (AHeap.none_of_set ((by assumption)))))))))) | exact AHeap.none_of_set (AHeap.none_of_set (AHeap.none_of_set (AHeap.none_of_set (AHeap.none_of_set (AHeap.none_of_set (AHeap.none_of_set (AHeap.none_of_set (AHeap.none_of_set (AHeap.none_of_set ((by assumption)))))))))))))
        have n3 : oN ≠ oR := fun e => by have h9 : H' oN = none := by (first | assumption | exact AHeap.none_of_set ((by assumption)) | exact AHeap.none_of_set (AHeap.none_of_set ((by assumption))) | exact AHeap.none_of_set (AHeap.none_of_set (AHeap.none_of_set ((by assumption)))) | exact AHeap.none_of_set (AHeap.none_of_set (AHeap.none_of_set (AHeap.none_of_set ((by assumption))))) | exact AHeap.none_of_set (AHeap.none_of_set (AHeap.none_of_set (AHeap.none_of_set (AHeap.none_of_set ((by assumption)))))) | exact AHeap.none_of_set (AHeap.none_of_set (AHeap.none_of_set (AHeap.none_of_set (AHeap.none_of_set (AHeap.none_of_set ((by assumption))))))) | exact AHeap.none_of_set (AHeap.none_of_set (AHeap.none_of_set (AHeap.none_of_set (AHeap.none_of_set (AHeap.none_of_set (AHeap.none_of_set ((by assumption)))))))) | exact AHeap.none_of_set (AHeap.none_of_set (AHeap.none_of_set (AHeap.none_of_set (AHeap.none_of_set (AHeap.none_of_set (AHeap.none_of_set (AHeap.none_of_set ((by assumption))))))))) | exact AHeap.none_of_set (AHeap.none_of_set (AHeap.none_of_set (AHeap.none_of_set (AHeap.none_of_set (AHeap.none_of_set (AHeap.none_of_set (AHeap.none_of_set (AHeap.none_of_set ((by assumption)))))))))) | exact AHeap.none_of_set (AHeap.none_of_set (AHeap.none_of_set (AHeap.none_of_set (AHeap.none_of_set (AHeap.none_of_set (AHeap.none_of_set (AHeap.none_of_set (AHeap.none_of_set (AHeap.none_of_set ((by assumption))))))))))))
                                         rw [e, q2] at h9; cases h9
        have n4 : oN ≠ oE := fun e => by have h9 : H' oN = none := by (first | assumption | exact AHeap.none_of_set ((by assumption)) | exact AHeap.none_of_set (AHeap.none_of_set ((by assumption))) | exact AHeap.none_of_set (AHeap.none_of_set (AHeap.none_of_set ((by assumption)))) | exact AHeap.none_of_set (AHeap.none_of_set (AHeap.none_of_set (AHeap.none_of_set ((by assumption))))) | exact AHeap.none_of_set (AHeap.none_of_set (AHeap.none_of_set (AHeap.none_of_set (AHeap.none_of_set ((by assumption)))))) | exact AHeap.none_of_set (AHeap.none_of_set (AHeap.none_of_set (AHeap.none_of_set (AHeap.none_of_set (AHeap.none_of_set ((by assumption))))))) | exact AHeap.none_of_set (AHeap.none_of_set (AHeap.none_of_set (AHeap.none_of_set (AHeap.none_of_set (AHeap.none_of_set (AHeap.none_of_set ((by assumption)))))))) | exact AHeap.none_of_set (AHeap.none_of_set (AHeap.none_of_set (AHeap.none_of_set (AHeap.none_of_set (AHeap.none_of_set (AHeap.none_of_set (AHeap.none_of_set ((by assumption))))))))) | exact AHeap.none_of_set (AHeap.none_of_set (AHeap.none_of_set (AHeap.none_of_set (AHeap.none_of_set (AHeap.none_of_set (AHeap.none_of_set (AHeap.none_of_set (AHeap.none_of_set ((by assumption)))))))))) | exact AHeap.none_of_set (AHeap.none_of_set (AHeap.none_of_set (AHeap.none_of_set (AHeap.none_of_set (AHeap.none_of_set (AHeap.none_of_set (AHeap.none_of_set (AHeap.none_of_set (AHeap.none_of_set ((by assumption))))))))))))
                                         rw [e, q3] at h9; cases h9
        exact ⟨m, _, _, Nat.lt_succ_self _, Ent.sub _ (by (repeat' (first | exact RSub.nil _ | apply RSub.cons)); all_goals rfl), acc ++ [⟨nm2, e, w2.at_⟩], S4, m, .vw oN 7 0 (acc.length + 1), hk4, hd4, by omega, hQ.out, by rw [List.length_append, List.length_singleton]; omega, by exact auto_heap, by exact auto_heap, by exact auto_heap, .inr ⟨oN, by rw [List.length_append]; rfl, by rw [eq_snoc]; exact auto_heap, n1, n2, n3, n4⟩, fun p y hne hp => by
          have hp2 := hfr3 p y hne hp
          have hp3 : p ≠ oE := fun e => by rw [e, hoE] at hp; cases hp
          have hp4 : p ≠ oN := fun e => by rw [e, n1] at hp; cases hp
          have hp5 : p ≠ oK := fun e => by rw [e, j2] at hp; cases hp
          exact auto_heap, rfl, rfl⟩
    · rw [if_neg g0] at hQ
      simp only [Prod.mk.injEq] at hQ
      obtain ⟨rfl, rfl⟩ := hQ
      replace g0 := Hdn.mk g0
      (first | focus (refine yy46 ?_; refine yy56 ?_; refine yy17 ?_; refine zg1 rfl rfl rfl (fun hc => ?_) (fun hc => ?_); refine yy125 ?_; refine yy5 ?_; (refine zc auto_wl (cw _ auto_heap) ?_; rintro r H' ⟨rfl, rfl⟩); refine yy5 ?_; refine yy57 ?_; refine yy96 ?_; refine yy79 ?_; refine aw_condp rfl (fun hc => ?_) (fun hc => ?_); refine yy51 ?_; refine yy8 ?_; (refine zc auto_wl (cw _ auto_heap) ?_; rintro r H' ⟨rfl, rfl⟩); refine yy57 ?_; refine yy20 ?_; refine awl_alloc rfl rfl rfl (fun oN hoN => ?_); refine yy11 ?_; refine yy12 ?_; rotate_left; replace hc := hide_nat hc; refine yy113 ?_; rotate_left; replace hc := hide_nat hc; refine yy50 ?_; refine yy53 ?_; refine yy81 ?_; refine yy113 ?_; rotate_left) | fail)
      all_goals first | exact absurd ⟨‹S.err = 0›, ‹(S.w ws).kind = 1›⟩ g0.out | skip
      all_goals (
        rcases hK with ⟨hac, rfl⟩ | ⟨oK, rfl, j1, j2, j3, j4, j5⟩
        · obtain rfl : acc = [] := List.eq_nil_of_length_eq_zero hac
          exact ⟨_, _, (Ent.sub _ (by (repeat' (first | exact RSub.nil _ | apply RSub.cons)); all_goals rfl)).trans (Ent.wcelH (AHeap.set_id q3).symm (WC.cons (W.of rfl) (WC.cons (W.of rfl) (WC.cons (W.of rfl) (WC.cons (W.of rfl) (WC.cons (W.nils rfl) (WC.cons (W.of rfl) WC.nil))))))), rfl, by exact auto_heap, by exact auto_heap, AHeap.set_self _ _ _, fun p y hne hp => by
            have hp2 := hfr3 p y hne hp
            have hp4 : p ≠ oE := fun e => by rw [e, hoE] at hp; cases hp
            exact auto_heap⟩
        · have j6 := j5.symm
          exact ⟨_, _, (Ent.sub _ (by (repeat' (first | exact RSub.nil _ | apply RSub.cons)); all_goals rfl)).trans (Ent.seal_cellC (p := oE) (o := oK) (k := 4) (sz := 7) (ys := eqL acc) j6 q3 j1 rfl (eq_len _)), rfl, by exact auto_heap, by exact auto_heap, AHeap.set_self _ _ _, fun p y hne hp => by
            have hp2 := hfr3 p y hne hp
            have hp4 : p ≠ oE := fun e => by rw [e, hoE] at hp; cases hp
            have hp5 : p ≠ oK := fun e => by rw [e, j2] at hp; cases hp
            exact auto_heap⟩)
  · clear hmu hQ hVk hVd cl k1 k2 k3 hfr h
    rintro R1 H3 ⟨rfl, q1, q2, q3, hfr⟩
    have ce := fun H h => want_calls (o := o) H X ([116, 101, 108] : Bs) h hXk hl
    have t1 := Tr.want (S := X) (s := ([116, 101, 108] : Bs)) hw hXk
    generalize X.want ws ([116, 101, 108] : Bs) = Y at *
    have ct := fun H h => take_calls (o := o) H Y ([59] : Bs) h t1.kl hl
    generalize Y.take ws ([59] : Bs) = Z at *
    obtain ⟨zb, Z⟩ := Z
    simp only at *
    (first | focus (refine yy8 ?_; (refine zc auto_wl (ce _ auto_heap) ?_; rintro r H' ⟨rfl, rfl⟩); refine yy12 ?_; (refine zc auto_wl (ct _ auto_heap) ?_; rintro r H' ⟨rfl, rfl⟩); refine yy16 ?_; refine yy26 ?_; refine yy36 ?_; rotate_left) | fail)
    exact ⟨.inl rfl, _, _, _, Ent.cellRetS 2 (o := o) (Nd.mk nm ins outs locs qs w.at_).cells rfl auto_heap (wc_refl _) auto_heap (by (first | assumption | exact Ne.symm (by assumption) | exact AHeap.ne_of_fresh (by assumption) | exact Ne.symm (AHeap.ne_of_fresh (by assumption)) | exact AHeap.ne_of_fresh (AHeap.none_of_set (by assumption)) | exact Ne.symm (AHeap.ne_of_fresh (AHeap.none_of_set (by assumption))) | exact AHeap.ne_ns (by assumption) (by assumption) | exact AHeap.ne_sn (by assumption) (by assumption) | exact AHeap.ne_ns (by assumption) auto_heap2 | exact AHeap.ne_sn (by assumption) auto_heap2)) (fun sp sy sne shp => by have hp2 := hfr sp sy sne shp; exact ⟨by (first | assumption | exact Ne.symm (by assumption) | exact AHeap.ne_of_fresh (by assumption) | exact Ne.symm (AHeap.ne_of_fresh (by assumption)) | exact AHeap.ne_of_fresh (AHeap.none_of_set (by assumption)) | exact Ne.symm (AHeap.ne_of_fresh (AHeap.none_of_set (by assumption))) | exact AHeap.ne_ns (by assumption) (by assumption) | exact AHeap.ne_sn (by assumption) (by assumption) | exact AHeap.ne_ns (by assumption) auto_heap2 | exact AHeap.ne_sn (by assumption) auto_heap2), auto_heap⟩), ret_1 rfl (rv1_agg (m := 6) rfl rfl rfl (by decide)), rfl, rfl⟩
end
end Go.Proofs.Ytmgkhfnhaeplgaa

namespace Go.Proofs.Ytmgkhfnhaeplgaa
open Go Go.Am Go.Proofs
set_option linter.unusedSimpArgs false
set_option linter.unusedVariables false
set_option maxRecDepth 20000
set_option maxHeartbeats 8000000

/-! The reference's parser: a text's nodes. -/
theorem cutF_ok : ∀ (n : Nat) (s : Bs) (at_ : Nat) (acc : List Wd), (cutF n s at_ acc).2.1 = 0 → ∃ l w, (cutF n s at_ acc).1 = l ++ [w] ∧ w.kind = 0 ∧ w.text = [] ∧ l.length ≤ acc.length + n
  | 0, s, at_, acc, h => by unfold cutF at h; cases h
  | n + 1, [], at_, acc, h => ⟨acc, ⟨0, [], 0, at_⟩, by unfold cutF; rfl, rfl, rfl, by omega⟩
  | n + 1, b :: r, at_, acc, h => by
    unfold cutF at h ⊢
    simp only at h ⊢
    split at h
    · cases h
    · obtain ⟨l, w, e1, e2, e3, e4⟩ := cutF_ok n _ _ _ h
      exact ⟨l, w, e1, e2, e3, by omega⟩
    · obtain ⟨l, w, e1, e2, e3, e4⟩ := cutF_ok n _ _ _ h
      exact ⟨l, w, e1, e2, e3, by rw [List.length_append, List.length_singleton] at e4; omega⟩
theorem cut_ok (t : Bs) (h : (cut t).2.1 = 0) : WsOk (cut t).1 := by
  unfold cut at h ⊢
  by_cases hb : 16384 < t.length
  · rw [if_pos hb] at h; cases h
  · rw [if_neg hb] at h ⊢
    obtain ⟨l, w, e1, e2, e3, e4⟩ := cutF_ok _ _ _ _ h
    refine ⟨?_, l, w, e1, e2, e3⟩
    rw [e1, List.length_append, List.length_singleton]
    simp only [List.length_nil] at e4
    omega
abbrev ndL (l : List Nd) : List AV := l.flatMap Nd.cells
theorem nd_len (l : List Nd) : (ndL l).length = l.length * 6 := by
  induction l with
  | nil => rfl
  | cons x l ih => unfold ndL at *; rw [List.flatMap_cons, List.length_append, ih]; show 6 + l.length * 6 = (l.length + 1) * 6; omega
theorem nd_snoc (l : List Nd) (v : Nd) : ndL (l ++ [v]) = ndL l ++ v.cells := by unfold ndL; rw [List.flatMap_append, List.flatMap_singleton]
abbrev ndsA (l : List Nd) : AV := .sls l.length (ndL l)
def parseA (x : List Nd × Nat × Nat) : AV := .tup [ndsA x.1, .agg [avI x.2.1, avI x.2.2]]
theorem tr_node {ws : List Wd} (hw : WsOk ws) (S : Ps) (h : S.k < ws.length) (hd : S.d ≤ 29) : Tr ws S (nodeF ws S).2 := by
  unfold nodeF
  have t0 : Tr ws S { S with names := 0 } := ⟨rfl, Nat.le_refl _, h, id⟩
  have t1 := t0.trans (.want (s := ([110, 111, 100, 101] : Bs)) hw h)
  generalize ({ S with names := 0 } : Ps).want ws ([110, 111, 100, 101] : Bs) = S1 at *
  have t2 := t1.trans (.name hw t1.kl)
  generalize S1.name ws = A at *
  obtain ⟨nm, S2⟩ := A
  simp only at *
  have t3 := t2.trans (.want (s := ([40] : Bs)) hw t2.kl)
  generalize S2.want ws ([40] : Bs) = S3 at *
  have t4 := t3.trans (tr_decls hw _ t3.kl)
  generalize declsF ws S3 = A at *
  obtain ⟨ins, S4⟩ := A
  simp only at *
  have t5 := t4.trans (.want (s := ([41] : Bs)) hw t4.kl)
  generalize S4.want ws ([41] : Bs) = S5 at *
  have t6 := t5.trans (.want (s := ([114, 101, 116, 117, 114, 110, 115] : Bs)) hw t5.kl)
  generalize S5.want ws ([114, 101, 116, 117, 114, 110, 115] : Bs) = S6 at *
  have t7 := t6.trans (.want (s := ([40] : Bs)) hw t6.kl)
  generalize S6.want ws ([40] : Bs) = S7 at *
  have t8 := t7.trans (tr_decls hw _ t7.kl)
  generalize declsF ws S7 = A at *
  obtain ⟨outs, S8⟩ := A
  simp only at *
  have t9 := t8.trans (.want (s := ([41] : Bs)) hw t8.kl)
  generalize S8.want ws ([41] : Bs) = S9 at *
  have t10 := t9.trans (.want (s := ([59] : Bs)) hw t9.kl)
  generalize S9.want ws ([59] : Bs) = S10 at *
  have t11 : Tr ws S (if S10.is ws ([118, 97, 114] : Bs) = true then ((localsF ws S10.step).1, (localsF ws S10.step).2.want ws ([59] : Bs)) else ([], S10)).2 := by
    split
    · rename_i hb
      have h1 := t10.trans (.step hw t10.kl (is_kind hb).2.1)
      have h2 := h1.trans (tr_locals hw _ h1.kl)
      exact h2.trans (.want hw h2.kl)
    · exact t10
  generalize (if S10.is ws ([118, 97, 114] : Bs) = true then ((localsF ws S10.step).1, (localsF ws S10.step).2.want ws ([59] : Bs)) else ([], S10)) = Cc at *
  have t12 := t11.trans (.want (s := ([108, 101, 116] : Bs)) hw t11.kl)
  generalize Cc.2.want ws ([108, 101, 116] : Bs) = S12 at *
  have t13 := t12.trans (tr_eqsL hw (ws.length + 3) [] _ t12.kl (by rw [t12.d]; exact hd))
  generalize eqsL ws (ws.length + 3) [] S12 = Q at *
  have t14 := t13.trans (.want (s := ([116, 101, 108] : Bs)) hw t13.kl)
  exact t14.trans (.take (s := ([59] : Bs)) hw t14.kl)
theorem Parse_calls (H : AHeap) (t : Bs) (hl : t.length ≤ 2000000) : ACalls Try.prog 20 [.str t] H fun r H' => r = parseA (parse t) ∧ H' = H := by
  have cc := fun H => Cut_calls H t hl
  have hok := cut_ok t
  unfold parse
  unfold cutA at cc
  generalize cut t = c at *
  obtain ⟨ws, err, at_⟩ := c
  simp only at *
  refine acalls_of_aw1 Try.func20 rfl (by decide) ?_
  by_cases he : err ≠ 0
  · rw [if_pos he]
    (first | focus (refine yy2 ?_; refine yy21 ?_; refine awl_alloc rfl rfl rfl (fun oN hoN => ?_); refine yy16 ?_; refine yy116 ?_; (refine zc auto_wl (cc _) ?_; rintro r H' ⟨rfl, rfl⟩); refine yy80 ?_; refine awl_alloc rfl rfl rfl (fun oN hoN => ?_); refine yy83 ?_; refine yy11 ?_; refine yy42 ?_; refine yy10 ?_; refine yy110 ?_; refine aw_condp rfl (fun hc => ?_) (fun hc => ?_); replace hc := hide_nat hc; refine yy73 ?_; (apply awt_s; · exact s_load_agg rfl auto_heap rfl rfl (by first | decide | exact Nat.le_of_ble_eq_true rfl)); (apply awt_s; · exact s_assign (v := .raw _) rfl); refine awt_last ?_; refine yy36 ?_; refine k_seq_ret ?_; rotate_left; exact absurd hc auto_no) | fail)
    exact ⟨.inl rfl, _, _, _, (Ent.cellRet 3 [avI err, avI at_] rfl auto_heap (by ((repeat' (first | exact WC.nil | apply WC.cons)); all_goals (first | exact W.of rfl | exact W.int rfl | exact W.nilb rfl | exact W.empb rfl | exact W.bysx rfl | exact W.nils rfl | exact W.emps rfl | exact W.slsx rfl))) auto_hs).trans (Ent.weakReg 2 rfl (W.nils rfl)), ret_2 rfl (rv1_tmp rfl) (rv1_agg (m := 2) rfl rfl rfl (by decide)), rfl, rfl⟩
  · rw [if_neg he]
    obtain rfl : err = 0 := by omega
    have hw := hok rfl
    clear hok he
    have hl2 := hw.len
    have h0 : 0 < ws.length := by obtain ⟨l, w, e, _⟩ := hw.last; rw [e]; simp
    generalize hR : nodesL ws 40 [] ⟨0, 0, 0, 0, 0, 0⟩ = Rz
    replace hR := Hdn.mk hR
    (first | focus (refine yy2 ?_; refine yy21 ?_; refine awl_alloc rfl rfl rfl (fun oN hoN => ?_); refine yy16 ?_; refine yy116 ?_; (refine zc auto_wl (cc _) ?_; rintro r H' ⟨rfl, rfl⟩); refine yy80 ?_; refine awl_alloc rfl rfl rfl (fun oN hoN => ?_); refine yy83 ?_; refine yy11 ?_; refine yy42 ?_; refine yy10 ?_; refine yy110 ?_; refine yy60 ?_; intro hc; refine yy76 ?_; refine yy20 ?_; refine zb1 rfl rfl rfl (fun oN hoN => ?_); refine awl_s rfl (s_assign (v := .ptr _ _) rfl) ?_; refine yy4 ?_; refine yy15 ?_; rotate_left) | fail)
    rename_i oR hoR oB hoB
    have hoP : H oN = none := AHeap.none_of_set (AHeap.none_of_set hoN)
    have hPR : oN ≠ oR := by (first | assumption | exact Ne.symm (by assumption) | exact AHeap.ne_of_fresh (by assumption) | exact Ne.symm (AHeap.ne_of_fresh (by assumption)) | exact AHeap.ne_of_fresh (AHeap.none_of_set (by assumption)) | exact Ne.symm (AHeap.ne_of_fresh (AHeap.none_of_set (by assumption))) | exact AHeap.ne_ns (by assumption) (by assumption) | exact AHeap.ne_sn (by assumption) (by assumption) | exact AHeap.ne_ns (by assumption) auto_heap2 | exact AHeap.ne_sn (by assumption) auto_heap2)
    obtain ⟨oP, hoPe⟩ : ∃ x, x = oN := ⟨_, rfl⟩
    subst hoPe
    refine aw_own_nil 7 6 (.cel []) rfl rfl (fun oL hoL => ?_)
    have hL0 : H oL = none := AHeap.none_of_set (AHeap.none_of_set (AHeap.none_of_set hoL))
    have hLP : oL ≠ oP := by (first | assumption | exact Ne.symm (by assumption) | exact AHeap.ne_of_fresh (by assumption) | exact Ne.symm (AHeap.ne_of_fresh (by assumption)) | exact AHeap.ne_of_fresh (AHeap.none_of_set (by assumption)) | exact Ne.symm (AHeap.ne_of_fresh (AHeap.none_of_set (by assumption))) | exact AHeap.ne_ns (by assumption) (by assumption) | exact AHeap.ne_sn (by assumption) (by assumption) | exact AHeap.ne_ns (by assumption) auto_heap2 | exact AHeap.ne_sn (by assumption) auto_heap2)
    have hLR : oL ≠ oR := AHeap.ne_of_fresh (AHeap.none_of_set (AHeap.none_of_set hoL))
    refine aw_seq ?_
    refine aw_kmid (fun R1 H1 => ∃ oL, H1 oP = some (.cel (Rz.2.cells ws)) ∧ H1 oR = some (.cel [avI 0, avI 0]) ∧ H1 oL = some (.cel (ndL Rz.1)) ∧ H oL = none ∧ oL ≠ oP ∧ oL ≠ oR ∧ (∀ p y, H p = some y → H1 p = some y) ∧ R1 = [(3, .ptr oR 0), (6, .ptr oP 0), (7, .vw oL 6 0 Rz.1.length)]) ?_ ?_
    · refine aw_block ?_
      refine aw_loop (fun mm R1 H1 => ∃ (oL : Nat) (acc : List Nd) (S : Ps) (m : Nat), S.k < ws.length ∧ S.d ≤ 29 ∧ acc.length + m = 40 ∧ acc.length ≤ 32 ∧ nodesL ws m acc S = Rz ∧ H1 oP = some (.cel (S.cells ws)) ∧ H1 oR = some (.cel [avI 0, avI 0]) ∧ H1 oL = some (.cel (ndL acc)) ∧ H oL = none ∧ oL ≠ oP ∧ oL ≠ oR ∧ (∀ p y, H p = some y → H1 p = some y) ∧ R1 = [(3, .ptr oR 0), (6, .ptr oP 0), (7, .vw oL 6 0 acc.length)] ∧ m = mm) ?_ ?_
      · exact ⟨_, _, _, Ent.sub _ (by (repeat' (first | exact RSub.nil _ | apply RSub.cons)); all_goals rfl), oL, [], ⟨0, 0, 0, 0, 0, 0⟩, 40, h0, by decide, rfl, by decide, hR.out, by exact auto_heap, by exact auto_heap, AHeap.set_self _ _ _, hL0, hLP, hLR, fun p y hp => auto_heap, rfl, rfl⟩
      clear hR hoL hL0 hLP hLR oL hoN h0 cc hoB oB
      rintro mm R1 H1 ⟨oL, acc, S, m, hk, hd, hm, hal, hR, q1, q2, q3, hL0, hLP, hLR, hfr, rfl, rfl⟩
      obtain ⟨m, rfl⟩ : ∃ m', m = m' + 1 := ⟨m - 1, by omega⟩
      rw [nodesL] at hR
      have hle := nd_len acc
      have cw := fun H h => w_calls (o := oP) H S h hk hl2
      by_cases g0 : S.err = 0 ∧ (acc.isEmpty = true ∨ (S.w ws).kind ≠ 0)
      · rw [if_pos g0] at hR
        obtain ⟨g1, g2⟩ := g0
        by_cases h32 : acc.length = 32
        · rw [if_pos h32] at hR
          have hne : acc ≠ [] := fun e => by rw [e] at h32; cases h32
          have g3 : (S.w ws).kind ≠ 0 := g2.resolve_left (fun e => hne (List.isEmpty_iff.1 e))
          have cf := fun H h => fail_calls (o := oP) H S 2 h hk hl2
          generalize S.fail ws 2 = T at *
          generalize S.w ws = w at *
          subst hR
          have hl0 : acc.length ≠ 0 := by omega
          clear hne g2
          (first | focus (refine yy46 ?_; refine yy56 ?_; refine yy17 ?_; refine zg1 rfl rfl rfl (fun hc => ?_) (fun hc => ?_); refine yy23 ?_; refine yy5 ?_; refine yy137 ?_; refine yy96 ?_; refine yy5 ?_; refine yy7 ?_; refine zg2 rfl rfl rfl (fun hc => ?_) (fun hc => ?_); exact absurd hc auto_no; replace hc := hide_nat hc; refine yy125 ?_; refine yy5 ?_; (refine zc auto_wl (cw _ auto_heap) ?_; rintro r H' ⟨rfl, rfl⟩); refine yy5 ?_; refine yy57 ?_; refine yy5 ?_; refine yy130 ?_; refine yy5 ?_; refine yy63 ?_; refine yy79 ?_; refine aw_condp rfl (fun hc => ?_) (fun hc => ?_); replace hc := hide_nat hc; refine yy51 ?_; refine yy38 ?_; refine yy23 ?_; refine yy137 ?_; refine yy87 ?_; refine yy4 ?_; refine aw_condp rfl (fun hc => ?_) (fun hc => ?_); refine yy8 ?_; (refine zc auto_wl (cf _ auto_heap) ?_; rintro r H' ⟨rfl, rfl⟩); refine yy4 ?_; refine aw_exit ?_; refine k_seq_exit ?_; refine k_block_ne rfl ?_; refine yy134 ?_; rotate_left; exact absurd hc auto_no; exact absurd hc auto_no; exact absurd hc auto_no) | fail)
          all_goals exact ⟨_, _, Ent.sub _ (by (repeat' (first | exact RSub.nil _ | apply RSub.cons)); all_goals rfl), oL, by exact auto_heap, by exact auto_heap, by exact auto_heap, hL0, hLP, hLR, fun p y hp => by
            have hp2 := hfr p y hp
            have hp3 : p ≠ oP := fun e => by rw [e, hoP] at hp; cases hp
            exact auto_heap, rfl⟩
        · rw [if_neg h32] at hR
          have cn := fun H h => node_calls (o := oP) hw H S h hk hd
          have t1 := tr_node hw S hk hd
          generalize nodeF ws S = A at *
          obtain ⟨x, T⟩ := A
          have hTk := t1.kl
          have hTd : T.d ≤ 29 := by rw [t1.d]; exact hd
          simp only at *
          replace hR := Hdn.mk hR
          clear t1
          generalize S.w ws = w at *
          have g2' : acc.length = 0 ∨ (acc.length ≠ 0 ∧ w.kind ≠ 0) := by
            rcases g2 with g | g
            · exact .inl (by rw [List.isEmpty_iff.1 g]; rfl)
            · by_cases e : acc.length = 0
              · exact .inl e
              · exact .inr ⟨e, g⟩
          clear g2
          rcases g2' with g2 | ⟨g2, g3⟩
          · (first | focus (refine yy46 ?_; refine yy56 ?_; refine yy17 ?_; refine zg1 rfl rfl rfl (fun hc => ?_) (fun hc => ?_); refine yy23 ?_; refine yy5 ?_; refine yy137 ?_; refine yy96 ?_; refine yy5 ?_; refine yy7 ?_; refine zg2 rfl rfl rfl (fun hc => ?_) (fun hc => ?_); refine yy50 ?_; refine yy120 ?_; refine yy5 ?_; refine yy69 ?_; refine yy112 ?_; refine yy51 ?_; refine yy38 ?_; refine yy23 ?_; refine yy137 ?_; refine yy87 ?_; refine yy4 ?_; refine yy90 ?_; intro hc; replace hc := hide_nat hc; refine yy35 ?_; refine yy8 ?_; (refine zc auto_wl (cn _ auto_heap) ?_; rintro r H' ⟨rfl, rfl⟩); refine awl_alloc rfl rfl rfl (fun oN hoN => ?_); refine yy11 ?_; refine yy4 ?_; refine yy32 ?_; refine yy23 ?_; refine yy26 ?_; refine yy37 ?_; refine za4 rfl rfl rfl auto_heap auto_al auto_src auto_len auto_len (fun oN hoN => ?_); refine yy40 ?_; refine yy48 ?_; rotate_left; exact absurd hc auto_no; exact absurd hc auto_no) | fail)
            all_goals (
              have n0 : H1 oN = none := by (first | assumption | exact AHeap.none_of_set ((by assumption)) | exact AHeap.none_of_set (AHeap.none_of_set ((by assumption))) | exact AHeap.none_of_set (AHeap.none_of_set (AHeap.none_of_set ((by assumption)))) | exact AHeap.none_of_set (AHeap.none_of_set (AHeap.none_of_set (AHeap.none_of_set ((by assumption))))) | exact AHeap.none_of_set (AHeap.none_of_set (AHeap.none_of_set (AHeap.none_of_set (AHeap.none_of_set ((by assumption)))))) | exact AHeap.none_of_set (AHeap.none_of_set (AHeap.none_of_set (AHeap.none_of_set (AHeap.none_of_set (AHeap.none_of_set ((by assumption))))))) | exact AHeap.none_of_set (AHeap.none_of_set (AHeap.none_of_set (AHeap.none_of_set (AHeap.none_of_set (AHeap.none_of_set (AHeap.none_of_set ((by assumption)))))))) | exact AHeap.none_of_set (AHeap.none_of_set (AHeap.none_of_set (AHeap.none_of_set (AHeap.none_of_set (AHeap.none_of_set (AHeap.none_of_set (AHeap.none_of_set ((by assumption))))))))) | exact AHeap.none_of_set (AHeap.none_of_set (AHeap.none_of_set (AHeap.none_of_set (AHeap.none_of_set (AHeap.none_of_set (AHeap.none_of_set (AHeap.none_of_set (AHeap.none_of_set ((by assumption)))))))))) | exact AHeap.none_of_set (AHeap.none_of_set (AHeap.none_of_set (AHeap.none_of_set (AHeap.none_of_set (AHeap.none_of_set (AHeap.none_of_set (AHeap.none_of_set (AHeap.none_of_set (AHeap.none_of_set ((by assumption))))))))))))
              have n1 : H oN = none := by
                cases e : H oN with
                | none => rfl
                | some y => rw [hfr _ _ e] at n0; cases n0
              have n2 : oN ≠ oP := fun e => by rw [e, q1] at n0; cases n0
              have n3 : oN ≠ oR := fun e => by rw [e, q2] at n0; cases n0
              exact ⟨m, [(3, .ptr oR 0), (6, .ptr oP 0), (7, .vw oN 6 0 (acc.length + 1))], _, Nat.lt_succ_self _, Ent.sub _ (by (repeat' (first | exact RSub.nil _ | apply RSub.cons)); all_goals rfl), oN, acc ++ [x], T, m, hTk, hTd, by rw [List.length_append, List.length_singleton]; omega, by rw [List.length_append, List.length_singleton]; omega, hR.out, by exact auto_heap, by exact auto_heap, by rw [nd_snoc]; exact AHeap.set_self _ _ _, n1, n2, n3, fun p y hp => by
              have hp2 := hfr p y hp
              have hp3 : p ≠ oP := fun e => by rw [e, hoP] at hp; cases hp
              have hp4 : p ≠ oL := fun e => by rw [e, hL0] at hp; cases hp
              have hp5 : p ≠ oN := fun e => by rw [e, n1] at hp; cases hp
              exact auto_heap, by rw [List.length_append]; rfl, rfl⟩)
          · (first | focus (refine yy46 ?_; refine yy56 ?_; refine yy17 ?_; refine zg1 rfl rfl rfl (fun hc => ?_) (fun hc => ?_); refine yy23 ?_; refine yy5 ?_; refine yy137 ?_; refine yy96 ?_; refine yy5 ?_; refine yy7 ?_; refine zg2 rfl rfl rfl (fun hc => ?_) (fun hc => ?_); exact absurd hc auto_no; replace hc := hide_nat hc; refine yy125 ?_; refine yy5 ?_; (refine zc auto_wl (cw _ auto_heap) ?_; rintro r H' ⟨rfl, rfl⟩); refine yy5 ?_; refine yy57 ?_; refine yy5 ?_; refine yy130 ?_; refine yy5 ?_; refine yy63 ?_; refine yy79 ?_; refine aw_condp rfl (fun hc => ?_) (fun hc => ?_); replace hc := hide_nat hc; refine yy51 ?_; refine yy38 ?_; refine yy23 ?_; refine yy137 ?_; refine yy87 ?_; refine yy4 ?_; refine yy90 ?_; intro hc; replace hc := hide_nat hc; refine yy35 ?_; refine yy8 ?_; (refine zc auto_wl (cn _ auto_heap) ?_; rintro r H' ⟨rfl, rfl⟩); refine awl_alloc rfl rfl rfl (fun oN hoN => ?_); refine yy11 ?_; refine yy4 ?_; refine yy32 ?_; refine yy23 ?_; refine yy26 ?_; refine yy37 ?_; refine za4 rfl rfl rfl auto_heap auto_al auto_src auto_len auto_len (fun oN hoN => ?_); refine yy40 ?_; refine yy48 ?_; rotate_left; exact absurd hc auto_no; exact absurd hc auto_no) | fail)
            all_goals (
              have n0 : H' oN = none := by (first | assumption | exact AHeap.none_of_set ((by assumption)) | exact AHeap.none_of_set (AHeap.none_of_set ((by assumption))) | exact AHeap.none_of_set (AHeap.none_of_set (AHeap.none_of_set ((by assumption)))) | exact AHeap.none_of_set (AHeap.none_of_set (AHeap.none_of_set (AHeap.none_of_set ((by assumption))))) | exact AHeap.none_of_set (AHeap.none_of_set (AHeap.none_of_set (AHeap.none_of_set (AHeap.none_of_set ((by assumption)))))) | exact AHeap.none_of_set (AHeap.none_of_set (AHeap.none_of_set (AHeap.none_of_set (AHeap.none_of_set (AHeap.none_of_set ((by assumption))))))) | exact AHeap.none_of_set (AHeap.none_of_set (AHeap.none_of_set (AHeap.none_of_set (AHeap.none_of_set (AHeap.none_of_set (AHeap.none_of_set ((by assumption)))))))) | exact AHeap.none_of_set (AHeap.none_of_set (AHeap.none_of_set (AHeap.none_of_set (AHeap.none_of_set (AHeap.none_of_set (AHeap.none_of_set (AHeap.none_of_set ((by assumption))))))))) | exact AHeap.none_of_set (AHeap.none_of_set (AHeap.none_of_set (AHeap.none_of_set (AHeap.none_of_set (AHeap.none_of_set (AHeap.none_of_set (AHeap.none_of_set (AHeap.none_of_set ((by assumption)))))))))) | exact AHeap.none_of_set (AHeap.none_of_set (AHeap.none_of_set (AHeap.none_of_set (AHeap.none_of_set (AHeap.none_of_set (AHeap.none_of_set (AHeap.none_of_set (AHeap.none_of_set (AHeap.none_of_set ((by assumption))))))))))))
              have n1 : H oN = none := by
                cases e : H oN with
                | none => rfl
                | some y => rw [hfr _ _ e] at n0; cases n0
              have n2 : oN ≠ oP := fun e => by rw [e, q1] at n0; cases n0
              have n3 : oN ≠ oR := fun e => by rw [e, q2] at n0; cases n0
              exact ⟨m, [(3, .ptr oR 0), (6, .ptr oP 0), (7, .vw oN 6 0 (acc.length + 1))], _, Nat.lt_succ_self _, Ent.sub _ (by (repeat' (first | exact RSub.nil _ | apply RSub.cons)); all_goals rfl), oN, acc ++ [x], T, m, hTk, hTd, by rw [List.length_append, List.length_singleton]; omega, by rw [List.length_append, List.length_singleton]; omega, hR.out, by exact auto_heap, by exact auto_heap, by rw [nd_snoc]; exact AHeap.set_self _ _ _, n1, n2, n3, fun p y hp => by
              have hp2 := hfr p y hp
              have hp3 : p ≠ oP := fun e => by rw [e, hoP] at hp; cases hp
              have hp4 : p ≠ oL := fun e => by rw [e, hL0] at hp; cases hp
              have hp5 : p ≠ oN := fun e => by rw [e, n1] at hp; cases hp
              exact auto_heap, by rw [List.length_append]; rfl, rfl⟩)
      · rw [if_neg g0] at hR
        subst hR
        have g1 : S.err ≠ 0 ∨ (S.err = 0 ∧ acc.length ≠ 0 ∧ (S.w ws).kind = 0) := by
          by_cases e : S.err = 0
          · refine .inr ⟨e, fun h => g0 ⟨e, .inl (List.isEmpty_iff_length_eq_zero.2 h)⟩, ?_⟩
            by_cases e2 : (S.w ws).kind = 0
            · exact e2
            · exact absurd ⟨e, .inr e2⟩ g0
          · exact .inl e
        clear g0
        rcases g1 with g1 | ⟨g1, g2, g3⟩
        · (first | focus (refine yy46 ?_; refine yy56 ?_; refine yy17 ?_; refine zg1 rfl rfl rfl (fun hc => ?_) (fun hc => ?_); exact absurd hc auto_no; replace hc := hide_nat hc; refine yy50 ?_; refine yy120 ?_; refine yy121 ?_; refine yy121 ?_; refine yy53 ?_; refine yy81 ?_; refine yy113 ?_; rotate_left) | fail)
          exact ⟨_, _, Ent.sub _ (by (repeat' (first | exact RSub.nil _ | apply RSub.cons)); all_goals rfl), oL, q1, q2, q3, hL0, hLP, hLR, hfr, rfl⟩
        · (first | focus (refine yy46 ?_; refine yy56 ?_; refine yy17 ?_; refine zg1 rfl rfl rfl (fun hc => ?_) (fun hc => ?_); refine yy23 ?_; refine yy5 ?_; refine yy137 ?_; refine yy96 ?_; refine yy5 ?_; refine yy7 ?_; refine zg2 rfl rfl rfl (fun hc => ?_) (fun hc => ?_); exact absurd hc auto_no; replace hc := hide_nat hc; refine yy125 ?_; refine yy5 ?_; (refine zc auto_wl (cw _ auto_heap) ?_; rintro r H' ⟨rfl, rfl⟩); refine yy5 ?_; refine yy57 ?_; refine yy5 ?_; refine yy130 ?_; refine yy5 ?_; refine yy63 ?_; refine yy79 ?_; refine yy34 ?_; intro hc; rotate_left; exact absurd hc auto_no) | fail)
          exact ⟨_, _, Ent.sub _ (by (repeat' (first | exact RSub.nil _ | apply RSub.cons)); all_goals rfl), oL, q1, q2, q3, hL0, hLP, hLR, hfr, rfl⟩
    · clear hR hoL hL0 hLP hLR oL hoN h0 cc hoB oB
      rintro R1 H1 ⟨oL, q1, q2, q3, hL0, hLP, hLR, hfr, rfl⟩
      by_cases he : Rz.2.err ≠ 0
      · rw [if_pos he]
        (first | focus (refine yy46 ?_; refine yy56 ?_; refine yy110 ?_; refine aw_condp rfl (fun hc => ?_) (fun hc => ?_); replace hc := hide_nat hc; refine yy73 ?_; (apply awt_s; · exact s_move (v := .ptr _ _) rfl); (apply awt_s; · exact s_nilCheck_ptr rfl); (apply awt_s; · exact s_fieldAddr_ptr rfl); (apply awt_s; · exact s_load_agg rfl auto_heap rfl rfl (by first | decide | exact Nat.le_of_ble_eq_true rfl)); (apply awt_s; · exact s_assign (v := .raw _) rfl); refine awt_last ?_; refine yy36 ?_; refine k_seq_ret ?_; rotate_left; exact absurd hc auto_no) | fail)
        exact ⟨.inl rfl, _, _, _, (Ent.cellRet 3 [avI Rz.2.err, avI Rz.2.at_] rfl auto_heap (by ((repeat' (first | exact WC.nil | apply WC.cons)); all_goals (first | exact W.of rfl | exact W.int rfl | exact W.nilb rfl | exact W.empb rfl | exact W.bysx rfl | exact W.nils rfl | exact W.emps rfl | exact W.slsx rfl))) (fun sp sy shp => by have hp2 := hfr sp sy shp; exact ⟨by (first | assumption | exact Ne.symm (by assumption) | exact AHeap.ne_of_fresh (by assumption) | exact Ne.symm (AHeap.ne_of_fresh (by assumption)) | exact AHeap.ne_of_fresh (AHeap.none_of_set (by assumption)) | exact Ne.symm (AHeap.ne_of_fresh (AHeap.none_of_set (by assumption))) | exact AHeap.ne_ns (by assumption) (by assumption) | exact AHeap.ne_sn (by assumption) (by assumption) | exact AHeap.ne_ns (by assumption) auto_heap2 | exact AHeap.ne_sn (by assumption) auto_heap2), auto_heap⟩)).trans (Ent.weakReg 2 rfl (W.nils rfl)), ret_2 rfl (rv1_tmp rfl) (rv1_agg (m := 2) rfl rfl rfl (by decide)), rfl, rfl⟩
      · rw [if_neg he]
        (first | focus (refine yy46 ?_; refine yy56 ?_; refine yy110 ?_; refine yy60 ?_; intro hc; refine yy2 ?_; refine yy23 ?_; refine yy20 ?_; refine yy40 ?_; refine yy36 ?_; rotate_left) | fail)
        have hRL := hLR.symm
        exact ⟨.inl rfl, _, _, _, (Ent.seal_cel (i := 2) (o := oL) (xs := ndL Rz.1) rfl auto_heap (nd_len _)).trans (Ent.cellRet 3 [avI 0, avI 0] rfl auto_heap (by ((repeat' (first | exact WC.nil | apply WC.cons)); all_goals (first | exact W.of rfl | exact W.int rfl | exact W.nilb rfl | exact W.empb rfl | exact W.bysx rfl | exact W.nils rfl | exact W.emps rfl | exact W.slsx rfl))) (fun sp sy shp => by
          have hp2 := hfr sp sy shp
          have hp3 : sp ≠ oL := fun e => by rw [e, hL0] at shp; cases shp
          exact ⟨by (first | assumption | exact Ne.symm (by assumption) | exact AHeap.ne_of_fresh (by assumption) | exact Ne.symm (AHeap.ne_of_fresh (by assumption)) | exact AHeap.ne_of_fresh (AHeap.none_of_set (by assumption)) | exact Ne.symm (AHeap.ne_of_fresh (AHeap.none_of_set (by assumption))) | exact AHeap.ne_ns (by assumption) (by assumption) | exact AHeap.ne_sn (by assumption) (by assumption) | exact AHeap.ne_ns (by assumption) auto_heap2 | exact AHeap.ne_sn (by assumption) auto_heap2), auto_heap⟩)), ret_2 rfl (rv1_tmp rfl) (rv1_agg (m := 2) rfl rfl rfl (by decide)), rfl, rfl⟩
end Go.Proofs.Ytmgkhfnhaeplgaa

namespace Go.Proofs.Ytmgkhfnhaeplgaa
open Go Go.Am Go.Proofs
set_option linter.unusedSimpArgs false
set_option linter.unusedVariables false
set_option maxRecDepth 20000
set_option maxHeartbeats 8000000

/-! The reference's trees as the program's own: expressions. -/
mutual
def exSz : Ex → Nat
  | .mk _ _ _ _ ks => exSzL ks + 1
def exSzL : List Ex → Nat
  | [] => 0
  | e :: l => exSz e + exSzL l
end
theorem exSz_eq (e : Ex) : exSz e = exSzL e.kids + 1 := by cases e; rw [exSz]; rfl
theorem exSz_mem : ∀ {l : List Ex} {e : Ex}, e ∈ l → exSz e ≤ exSzL l
  | [], e, h => by cases h
  | x :: l, e, h => by
    rw [exSzL]
    rcases List.mem_cons.1 h with rfl | h
    · omega
    · have := exSz_mem h; omega
theorem exL_get {l : List Ex} {i : Nat} {e : Ex} (h : l[i]? = some e) : ((exL l).drop (i * 5)).take 5 = e.cells := by
  have : ∀ l : List Ex, exL l = l.flatMap Ex.cells := fun l => by
    induction l with
    | nil => exact exL_nil
    | cons x l ih => rw [exL_cons, ih, List.flatMap_cons]
  rw [this]
  exact flat_seg (sz := 5) (f := Ex.cells) (fun _ => rfl) h
/-- A cell that shows a row which still grows. -/
def VwF (sz : Nat) (H H1 : AHeap) (a b c : Nat) (kc : AV) (n : Nat) (xs : List AV) : Prop := (n = 0 ∧ kc = .raw (.slice none 0 0)) ∨ ∃ oK, kc = .vw oK sz 0 n ∧ H1 oK = some (.cel xs) ∧ H oK = none ∧ oK ≠ a ∧ oK ≠ b ∧ oK ≠ c
theorem BackExpr_calls (n : Nat) : ∀ (e : Ex) (H : AHeap), exSz e ≤ n → exSz e ≤ 2000000 → ACalls Try.prog 27 [exA e] H fun r H' => r = exA e ∧ H' = H := by
  induction n with
  | zero => intro e H h; rw [exSz_eq] at h; omega
  | succ n ih =>
    intro e H h hb
    obtain ⟨op, nm, nn, at_, ks⟩ := e
    rw [exSz_eq] at h hb
    simp only [Ex.kids, Ex.op, Ex.name, Ex.n, Ex.at_] at *
    show ACalls Try.prog _ [.agg [.str op, .str nm, avI nn, avI at_, .sls ks.length (exL ks)]] H fun r H' => r = .agg [.str op, .str nm, avI nn, avI at_, .sls ks.length (exL ks)] ∧ H' = H
    have hml := exL_len ks
    have hkl : ks.length ≤ exSzL ks := by
      clear hml h hb
      induction ks with
      | nil => exact Nat.zero_le _
      | cons x l ih => rw [exSzL, List.length_cons]; have := exSz_eq x; omega
    refine acalls_of_aw1 Try.func27 rfl (by decide) ?_
    (first | focus (refine yy2 ?_; refine zb1 rfl rfl rfl (fun oN hoN => ?_); refine awl_alloc rfl rfl rfl (fun oN hoN => ?_); refine yy16 ?_; refine yy10 ?_; refine yy10 ?_; refine yy10 ?_; refine yy10 ?_; refine yy20 ?_; refine awl_alloc rfl rfl rfl (fun oN hoN => ?_); refine yy11 ?_; refine yy42 ?_; refine yy71 ?_; rotate_left) | fail)
    rename_i oE hoE oR hoR
    obtain ⟨oX, hoXe⟩ : ∃ x, x = oN := ⟨_, rfl⟩
    subst hoXe
    have hX0 : H oX = none := by (first | assumption | exact AHeap.none_of_set ((by assumption)) | exact AHeap.none_of_set (AHeap.none_of_set ((by assumption))) | exact AHeap.none_of_set (AHeap.none_of_set (AHeap.none_of_set ((by assumption)))) | exact AHeap.none_of_set (AHeap.none_of_set (AHeap.none_of_set (AHeap.none_of_set ((by assumption))))) | exact AHeap.none_of_set (AHeap.none_of_set (AHeap.none_of_set (AHeap.none_of_set (AHeap.none_of_set ((by assumption)))))) | exact AHeap.none_of_set (AHeap.none_of_set (AHeap.none_of_set (AHeap.none_of_set (AHeap.none_of_set (AHeap.none_of_set ((by assumption))))))) | exact AHeap.none_of_set (AHeap.none_of_set (AHeap.none_of_set (AHeap.none_of_set (AHeap.none_of_set (AHeap.none_of_set (AHeap.none_of_set ((by assumption)))))))) | exact AHeap.none_of_set (AHeap.none_of_set (AHeap.none_of_set (AHeap.none_of_set (AHeap.none_of_set (AHeap.none_of_set (AHeap.none_of_set (AHeap.none_of_set ((by assumption))))))))) | exact AHeap.none_of_set (AHeap.none_of_set (AHeap.none_of_set (AHeap.none_of_set (AHeap.none_of_set (AHeap.none_of_set (AHeap.none_of_set (AHeap.none_of_set (AHeap.none_of_set ((by assumption)))))))))) | exact AHeap.none_of_set (AHeap.none_of_set (AHeap.none_of_set (AHeap.none_of_set (AHeap.none_of_set (AHeap.none_of_set (AHeap.none_of_set (AHeap.none_of_set (AHeap.none_of_set (AHeap.none_of_set ((by assumption))))))))))))
    have hR0 : H oR = none := by (first | assumption | exact AHeap.none_of_set ((by assumption)) | exact AHeap.none_of_set (AHeap.none_of_set ((by assumption))) | exact AHeap.none_of_set (AHeap.none_of_set (AHeap.none_of_set ((by assumption)))) | exact AHeap.none_of_set (AHeap.none_of_set (AHeap.none_of_set (AHeap.none_of_set ((by assumption))))) | exact AHeap.none_of_set (AHeap.none_of_set (AHeap.none_of_set (AHeap.none_of_set (AHeap.none_of_set ((by assumption)))))) | exact AHeap.none_of_set (AHeap.none_of_set (AHeap.none_of_set (AHeap.none_of_set (AHeap.none_of_set (AHeap.none_of_set ((by assumption))))))) | exact AHeap.none_of_set (AHeap.none_of_set (AHeap.none_of_set (AHeap.none_of_set (AHeap.none_of_set (AHeap.none_of_set (AHeap.none_of_set ((by assumption)))))))) | exact AHeap.none_of_set (AHeap.none_of_set (AHeap.none_of_set (AHeap.none_of_set (AHeap.none_of_set (AHeap.none_of_set (AHeap.none_of_set (AHeap.none_of_set ((by assumption))))))))) | exact AHeap.none_of_set (AHeap.none_of_set (AHeap.none_of_set (AHeap.none_of_set (AHeap.none_of_set (AHeap.none_of_set (AHeap.none_of_set (AHeap.none_of_set (AHeap.none_of_set ((by assumption)))))))))) | exact AHeap.none_of_set (AHeap.none_of_set (AHeap.none_of_set (AHeap.none_of_set (AHeap.none_of_set (AHeap.none_of_set (AHeap.none_of_set (AHeap.none_of_set (AHeap.none_of_set (AHeap.none_of_set ((by assumption))))))))))))
    have hRE : oR ≠ oE := AHeap.ne_of_fresh hoR
    have hXR : oX ≠ oR := AHeap.ne_of_fresh hoN
    have hXE : oX ≠ oE := AHeap.ne_of_fresh (AHeap.none_of_set hoN)
    refine aw_loop (fun mm R1 H1 => ∃ (i : Nat) (kc : AV), i ≤ ks.length ∧ H1 oE = some (.cel [.str op, .str nm, avI nn, avI at_, .sls ks.length (exL ks)]) ∧ H1 oR = some (.cel exZ) ∧ H1 oX = some (.cel [.str op, .str nm, avI nn, avI at_, kc]) ∧ VwF 5 H H1 oE oR oX kc i (exL (ks.take i)) ∧ (∀ p y, H p = some y → H1 p = some y) ∧ R1 = [(1, .ptr oE 0), (2, .ptr oR 0), (3, .ptr oX 0), (4, avI i)] ∧ ks.length - i = mm) ?_ ?_
    · exact ⟨_, _, _, Ent.sub _ (by (repeat' (first | exact RSub.nil _ | apply RSub.cons)); all_goals rfl), 0, .raw (.slice none 0 0), Nat.zero_le _, by exact auto_heap, by exact auto_heap, by exact auto_heap, .inl ⟨rfl, rfl⟩, fun p y hp => auto_heap, rfl, rfl⟩
    clear hoN
    rintro mm R1 H1 ⟨i, kc, hi, q1, q2, q3, hK, hfr, rfl, rfl⟩
    by_cases hlt : i < ks.length
    · have hg : ks[i]? = some ks[i] := List.getElem?_eq_getElem hlt
      have hseg := exL_get hg
      have hmem := exSz_mem (List.getElem_mem hlt)
      have hsn : ks.take (i + 1) = ks.take i ++ [ks[i]] := by rw [List.take_add_one, hg]; rfl
      generalize ks[i] = k at *
      have cb := fun H => ih k H (by omega) (by omega)
      have hlen : (exL (ks.take i)).length = i * 5 := by rw [exL_len, List.length_take, Nat.min_eq_left hi]
      clear ih hg hmem
      replace hsn := Hdn.mk hsn
      rcases hK with ⟨hac, rfl⟩ | ⟨oK, rfl, j1, j2, j3, j4, j5⟩
      · obtain rfl : i = 0 := hac
        (first | focus (refine yy93 ?_; refine yy89 ?_; refine aw_condp rfl (fun hc => ?_) (fun hc => ?_); refine yy13 ?_; refine aw_drawx [27] auto_kr auto_dk auto_dk ?_; (apply awm_s; · (intro H1; exact s_fieldAddr_ptr rfl)); (apply awm_e auto_dk; (· exact s_load_cel rfl auto_heap rfl)); (apply awm_s; · (intro H1; exact s_fieldAddr_ptr rfl)); (apply awm_e auto_dk; (· exact s_load_cel rfl auto_heap rfl)); (apply awm_s; · (intro H1; exact s_move (v := .raw _) rfl)); (apply awm_s; · (intro H1; exact s_indexAddr_sls rfl rfl auto_len)); (apply awm_s; · (intro H1; exact s_load_pce_agg rfl (by assumption) (by rfl) (by decide))); (apply awm_s; · (intro H1; exact s_callc auto_wl (cb _))); (apply awm_s; · (intro H1; exact s_buildSlicev (by ((repeat' (first | exact eqL_nil | apply eqL_cons)); all_goals (first | exact (rfl : _ = AV.raw _) | exact (rfl : _ = AV.bys _) | exact (rfl : _ = AV.vw _ _ _ _) | exact (rfl : _ = AV.ptr _ _) | exact (rfl : _ = AV.str _) | exact (rfl : _ = AV.sls _ _) | exact (rfl : _ = AV.tup _) | exact (rfl : _ = AV.agg _) | exact (rfl : _ = AV.pce _ _) | exact (rfl : _ = AV.emp) | exact (rfl : _ = AV.bysx _) | exact (rfl : _ = AV.slsx _ _) | exact (rfl : _ = AV.mp _) | exact (rfl : _ = AV.fnc _ _ _) | exact (rfl : _ = AV.pby _ _) | exact (rfl : _ = AV.ifc _ _)))) (by rfl) (by rfl) (by rfl) (by ((repeat' (first | exact eqL_nil | apply eqL_cons)); all_goals (first | exact (rfl : _ = AV.raw _) | exact (rfl : _ = AV.bys _) | exact (rfl : _ = AV.vw _ _ _ _) | exact (rfl : _ = AV.ptr _ _) | exact (rfl : _ = AV.str _) | exact (rfl : _ = AV.sls _ _) | exact (rfl : _ = AV.tup _) | exact (rfl : _ = AV.agg _) | exact (rfl : _ = AV.pce _ _) | exact (rfl : _ = AV.emp) | exact (rfl : _ = AV.bysx _) | exact (rfl : _ = AV.slsx _ _) | exact (rfl : _ = AV.mp _) | exact (rfl : _ = AV.fnc _ _ _) | exact (rfl : _ = AV.pby _ _) | exact (rfl : _ = AV.ifc _ _)))) (by decide))); refine awm_b ?_; (apply awm_s; · (intro H1; exact s_fieldAddr_ptr rfl)); refine awm_b0 ?_; refine awm_nil ?_; refine awb_cons (fun Rx K1 hK1x => ?_); refine awl_own_nil_cel rfl rfl rfl auto_src auto_len auto_len (fun oN hoN => ?_); refine yy61 ?_; (refine hK1x _ _ ?_; clear hK1x K1 Rx); refine awb_cons0 (fun Rx K1 hK1x => ?_); refine yy58 ?_; refine yy61 ?_; (refine hK1x _ ?_; clear hK1x K1 Rx); refine awb_nil ?_; refine yy100 ?_; refine yy22 ?_; rotate_left; exact absurd hc auto_no) | fail)
        have n1 : H oN = none := by
          cases e : H oN with
          | none => rfl
          | some y => rw [hfr _ _ e] at hoN; cases hoN
        have n2 : oN ≠ oE := fun e => by rw [e, q1] at hoN; cases hoN
        have n3 : oN ≠ oR := fun e => by rw [e, q2] at hoN; cases hoN
        have n4 : oN ≠ oX := fun e => by rw [e, q3] at hoN; cases hoN
        exact ⟨ks.length - (0 + 1), _, _, by omega, Ent.sub _ (by (repeat' (first | exact RSub.nil _ | apply RSub.cons)); all_goals rfl), 0 + 1, .vw oN 5 0 1, by omega, by exact auto_heap, by exact auto_heap, by exact auto_heap, .inr ⟨oN, rfl, by rw [hsn.out, List.take_zero, List.nil_append, exL_one]; exact auto_heap, n1, n2, n3, n4⟩, fun p y hp => by
          have hp2 := hfr p y hp
          have hp3 : p ≠ oX := fun e => by rw [e, hX0] at hp; cases hp
          have hp4 : p ≠ oN := fun e => by rw [e, n1] at hp; cases hp
          exact auto_heap, rfl, rfl⟩
      · (first | focus (refine yy93 ?_; refine yy89 ?_; refine aw_condp rfl (fun hc => ?_) (fun hc => ?_); refine yy13 ?_; refine aw_drawx [27] auto_kr auto_dk auto_dk ?_; (apply awm_s; · (intro H1; exact s_fieldAddr_ptr rfl)); (apply awm_e auto_dk; (· exact s_load_cel rfl auto_heap rfl)); (apply awm_s; · (intro H1; exact s_fieldAddr_ptr rfl)); (apply awm_e auto_dk; (· exact s_load_cel rfl auto_heap rfl)); (apply awm_s; · (intro H1; exact s_move (v := .raw _) rfl)); (apply awm_s; · (intro H1; exact s_indexAddr_sls rfl rfl auto_len)); (apply awm_s; · (intro H1; exact s_load_pce_agg rfl (by assumption) (by rfl) (by decide))); (apply awm_s; · (intro H1; exact s_callc auto_wl (cb _))); (apply awm_s; · (intro H1; exact s_buildSlicev (by ((repeat' (first | exact eqL_nil | apply eqL_cons)); all_goals (first | exact (rfl : _ = AV.raw _) | exact (rfl : _ = AV.bys _) | exact (rfl : _ = AV.vw _ _ _ _) | exact (rfl : _ = AV.ptr _ _) | exact (rfl : _ = AV.str _) | exact (rfl : _ = AV.sls _ _) | exact (rfl : _ = AV.tup _) | exact (rfl : _ = AV.agg _) | exact (rfl : _ = AV.pce _ _) | exact (rfl : _ = AV.emp) | exact (rfl : _ = AV.bysx _) | exact (rfl : _ = AV.slsx _ _) | exact (rfl : _ = AV.mp _) | exact (rfl : _ = AV.fnc _ _ _) | exact (rfl : _ = AV.pby _ _) | exact (rfl : _ = AV.ifc _ _)))) (by rfl) (by rfl) (by rfl) (by ((repeat' (first | exact eqL_nil | apply eqL_cons)); all_goals (first | exact (rfl : _ = AV.raw _) | exact (rfl : _ = AV.bys _) | exact (rfl : _ = AV.vw _ _ _ _) | exact (rfl : _ = AV.ptr _ _) | exact (rfl : _ = AV.str _) | exact (rfl : _ = AV.sls _ _) | exact (rfl : _ = AV.tup _) | exact (rfl : _ = AV.agg _) | exact (rfl : _ = AV.pce _ _) | exact (rfl : _ = AV.emp) | exact (rfl : _ = AV.bysx _) | exact (rfl : _ = AV.slsx _ _) | exact (rfl : _ = AV.mp _) | exact (rfl : _ = AV.fnc _ _ _) | exact (rfl : _ = AV.pby _ _) | exact (rfl : _ = AV.ifc _ _)))) (by decide))); refine awm_b ?_; (apply awm_s; · (intro H1; exact s_fieldAddr_ptr rfl)); refine awm_b0 ?_; refine awm_nil ?_; refine awb_cons (fun Rx K1 hK1x => ?_); refine za4 rfl rfl rfl auto_heap auto_al auto_src auto_len auto_len (fun oN hoN => ?_); refine yy61 ?_; (refine hK1x _ _ ?_; clear hK1x K1 Rx); refine awb_cons0 (fun Rx K1 hK1x => ?_); refine yy58 ?_; refine yy61 ?_; (refine hK1x _ ?_; clear hK1x K1 Rx); refine awb_nil ?_; refine yy100 ?_; refine yy22 ?_; rotate_left; exact absurd hc auto_no) | fail)
        have n1 : H oN = none := by
          cases e : H oN with
          | none => rfl
          | some y => rw [hfr _ _ e] at hoN; cases hoN
        have n2 : oN ≠ oE := fun e => by rw [e, q1] at hoN; cases hoN
        have n3 : oN ≠ oR := fun e => by rw [e, q2] at hoN; cases hoN
        have n4 : oN ≠ oX := fun e => by rw [e, q3] at hoN; cases hoN
        exact ⟨ks.length - (i + 1), _, _, by omega, Ent.sub _ (by (repeat' (first | exact RSub.nil _ | apply RSub.cons)); all_goals rfl), i + 1, .vw oN 5 0 (i + 1), by omega, by exact auto_heap, by exact auto_heap, by exact auto_heap, .inr ⟨oN, rfl, by rw [hsn.out, exL_app, exL_one]; exact auto_heap, n1, n2, n3, n4⟩, fun p y hp => by
          have hp2 := hfr p y hp
          have hp3 : p ≠ oX := fun e => by rw [e, hX0] at hp; cases hp
          have hp4 : p ≠ oN := fun e => by rw [e, n1] at hp; cases hp
          have hp5 : p ≠ oK := fun e => by rw [e, j2] at hp; cases hp
          exact auto_heap, rfl, rfl⟩
    · obtain rfl : i = ks.length := by omega
      rw [List.take_length] at hK
      rcases hK with ⟨hac, rfl⟩ | ⟨oK, rfl, j1, j2, j3, j4, j5⟩
      · obtain rfl : ks = [] := List.eq_nil_of_length_eq_zero hac
        refine aw_ent (Ent.wcelH (AHeap.set_id q3).symm (WC.cons (W.of rfl) (WC.cons (W.of rfl) (WC.cons (W.of rfl) (WC.cons (W.of rfl) (WC.cons (W.nils rfl) WC.nil)))))) ?_
        rw [exL_nil] at *
        (first | focus (refine yy93 ?_; refine yy89 ?_; refine yy34 ?_; intro hc; refine yy98 ?_; refine yy36 ?_; rotate_left) | fail)
        exact ⟨.inl rfl, _, _, _, Ent.cellRet 2 [.str op, .str nm, avI nn, avI at_, .sls 0 []] rfl auto_heap (wc_refl _) (fun sp sy shp => by
          have hp2 := hfr sp sy shp
          have hp3 : sp ≠ oX := fun e => by rw [e, hX0] at shp; cases shp
          exact ⟨by (first | assumption | exact Ne.symm (by assumption) | exact AHeap.ne_of_fresh (by assumption) | exact Ne.symm (AHeap.ne_of_fresh (by assumption)) | exact AHeap.ne_of_fresh (AHeap.none_of_set (by assumption)) | exact Ne.symm (AHeap.ne_of_fresh (AHeap.none_of_set (by assumption))) | exact AHeap.ne_ns (by assumption) (by assumption) | exact AHeap.ne_sn (by assumption) (by assumption) | exact AHeap.ne_ns (by assumption) auto_heap2 | exact AHeap.ne_sn (by assumption) auto_heap2), auto_heap⟩), ret_1 rfl (rv1_agg (m := 5) rfl rfl rfl (by decide)), rfl, rfl⟩
      · have j6 := j5.symm
        have j7 := j4.symm
        have j8 := j3.symm
        refine aw_ent (Ent.seal_cellC (p := oX) (o := oK) (k := 4) (sz := 5) (ys := exL ks) j6 q3 j1 rfl (exL_len _)) ?_
        (first | focus (refine yy93 ?_; refine yy89 ?_; refine yy34 ?_; intro hc; refine yy98 ?_; refine yy36 ?_; rotate_left) | fail)
        exact ⟨.inl rfl, _, _, _, Ent.cellRet 2 [.str op, .str nm, avI nn, avI at_, .sls ks.length (exL ks)] rfl auto_heap (wc_refl _) (fun sp sy shp => by
          have hp2 := hfr sp sy shp
          have hp3 : sp ≠ oX := fun e => by rw [e, hX0] at shp; cases shp
          have hp4 : sp ≠ oK := fun e => by rw [e, j2] at shp; cases shp
          exact ⟨by (first | assumption | exact Ne.symm (by assumption) | exact AHeap.ne_of_fresh (by assumption) | exact Ne.symm (AHeap.ne_of_fresh (by assumption)) | exact AHeap.ne_of_fresh (AHeap.none_of_set (by assumption)) | exact Ne.symm (AHeap.ne_of_fresh (AHeap.none_of_set (by assumption))) | exact AHeap.ne_ns (by assumption) (by assumption) | exact AHeap.ne_sn (by assumption) (by assumption) | exact AHeap.ne_ns (by assumption) auto_heap2 | exact AHeap.ne_sn (by assumption) auto_heap2), auto_heap⟩), ret_1 rfl (rv1_agg (m := 5) rfl rfl rfl (by decide)), rfl, rfl⟩
end Go.Proofs.Ytmgkhfnhaeplgaa

namespace Go.Proofs.Ytmgkhfnhaeplgaa
open Go Go.Am Go.Proofs
set_option linter.unusedSimpArgs false
set_option linter.unusedVariables false
set_option maxRecDepth 20000
set_option maxHeartbeats 8000000

/-! The reference's trees as the program's own: names, nodes. -/
theorem vr_get {l : List Vr} {i : Nat} {v : Vr} (h : l[i]? = some v) : ((vrL l).drop (i * 5)).take 5 = v.cells := flat_seg (sz := 5) (f := Vr.cells) (fun _ => rfl) h
theorem vr_at {l : List Vr} {i j : Nat} {v : Vr} {y : AV} (h : l[i]? = some v) (hj : j < 5) (hy : v.cells[j]? = some y) : (vrL l)[i * 5 + j]? = some y := flat_get (sz := 5) (f := Vr.cells) (fun _ => rfl) h hj hy
theorem backVars_calls (H : AHeap) (l : List Vr) (hl : l.length ≤ 2000000) : ACalls Try.prog 26 [.sls l.length (vrL l)] H fun r H' => r = .sls l.length (vrL l) ∧ H' = H := by
  have hvl := vr_len l
  refine acalls_of_aw1 Try.func26 rfl (by decide) ?_
  (first | focus (refine yy15 ?_; refine yy15 ?_; refine yy38 ?_; refine yy71 ?_; rotate_left) | fail)
  refine aw_own_nil 3 5 (.cel []) rfl rfl (fun oL hoL => ?_)
  refine aw_loop (fun mm R1 H1 => ∃ (i oL : Nat), i ≤ l.length ∧ H oL = none ∧ H1 = H.set oL (.cel (vrL (l.take i))) ∧ R1 = [(0, .sls l.length (vrL l)), (3, .vw oL 5 0 i), (4, avI i)] ∧ l.length - i = mm) ?_ ?_
  · exact ⟨_, _, _, Ent.sub _ (by (repeat' (first | exact RSub.nil _ | apply RSub.cons)); all_goals rfl), 0, oL, Nat.zero_le _, hoL, rfl, rfl, rfl⟩
  clear hoL oL
  rintro mm R1 H1 ⟨i, oL, hi, hoL, rfl, rfl, rfl⟩
  by_cases hlt : i < l.length
  · have hg : l[i]? = some l[i] := List.getElem?_eq_getElem hlt
    have hsn : l.take (i + 1) = l.take i ++ [l[i]] := by rw [List.take_add_one, hg]; rfl
    have hlen : (vrL (l.take i)).length = i * 5 := by rw [vr_len, List.length_take, Nat.min_eq_left hi]
    generalize l[i] = v at *
    have y0 := vr_at hg (j := 0) (by decide) rfl
    have y1 := vr_at hg (j := 1) (by decide) rfl
    have y2 := vr_at hg (j := 2) (by decide) rfl
    have y3 := vr_at hg (j := 3) (by decide) rfl
    have y4 := vr_at hg (j := 4) (by decide) rfl
    replace hsn := Hdn.mk hsn
    clear hg
    (first | focus (refine yy45 ?_; refine aw_condp rfl (fun hc => ?_) (fun hc => ?_); refine yy13 ?_; (apply aw_peel2 true; (· (repeat' (first | exact spl_one | apply spl_cons))); (· exact auto_kr); (· exact auto_dk); (· exact auto_dk)); (apply awm_s; · (intro H1; exact s_move (v := .vw _ _ _ _) rfl)); (apply awm_s; · (intro H1; exact s_move (v := .sls _ _) rfl)); (apply awm_s; · (intro H1; exact s_move (v := .raw _) rfl)); (apply awm_s; · (intro H1; exact s_indexAddr_sls rfl rfl auto_len)); (apply awm_s; · (intro H1; exact s_fieldAddr_pce rfl)); (apply awm_s; · (intro H1; exact s_load_pce rfl auto_idx)); (apply awm_s; · (intro H1; exact s_move (v := .sls _ _) rfl)); (apply awm_s; · (intro H1; exact s_move (v := .raw _) rfl)); (apply awm_s; · (intro H1; exact s_indexAddr_sls rfl rfl auto_len)); (apply awm_s; · (intro H1; exact s_fieldAddr_pce rfl)); (apply awm_s; · (intro H1; exact s_load_pce rfl auto_idx)); (apply awm_s; · (intro H1; exact s_move (v := .sls _ _) rfl)); (apply awm_s; · (intro H1; exact s_move (v := .raw _) rfl)); (apply awm_s; · (intro H1; exact s_indexAddr_sls rfl rfl auto_len)); (apply awm_s; · (intro H1; exact s_fieldAddr_pce rfl)); (apply awm_s; · (intro H1; exact s_load_pce rfl auto_idx)); (apply awm_s; · (intro H1; exact s_move (v := .sls _ _) rfl)); (apply awm_s; · (intro H1; exact s_move (v := .raw _) rfl)); (apply awm_s; · (intro H1; exact s_indexAddr_sls rfl rfl auto_len)); (apply awm_s; · (intro H1; exact s_fieldAddr_pce rfl)); (apply awm_s; · (intro H1; exact s_load_pce rfl auto_idx)); (apply awm_s; · (intro H1; exact s_move (v := .sls _ _) rfl)); (apply awm_s; · (intro H1; exact s_move (v := .raw _) rfl)); (apply awm_s; · (intro H1; exact s_indexAddr_sls rfl rfl auto_len)); (apply awm_s; · (intro H1; exact s_fieldAddr_pce rfl)); (apply awm_s; · (intro H1; exact s_load_pce rfl auto_idx)); (apply awm_s; · (intro H1; exact s_buildv (by ((repeat' (first | exact eqL_nil | apply eqL_cons)); all_goals (first | exact (rfl : _ = AV.raw _) | exact (rfl : _ = AV.bys _) | exact (rfl : _ = AV.vw _ _ _ _) | exact (rfl : _ = AV.ptr _ _) | exact (rfl : _ = AV.str _) | exact (rfl : _ = AV.sls _ _) | exact (rfl : _ = AV.tup _) | exact (rfl : _ = AV.agg _) | exact (rfl : _ = AV.pce _ _) | exact (rfl : _ = AV.emp) | exact (rfl : _ = AV.bysx _) | exact (rfl : _ = AV.slsx _ _) | exact (rfl : _ = AV.mp _) | exact (rfl : _ = AV.fnc _ _ _) | exact (rfl : _ = AV.pby _ _) | exact (rfl : _ = AV.ifc _ _)))) (by rfl))); (apply awm_s; · (intro H1; exact s_buildSlicev (by ((repeat' (first | exact eqL_nil | apply eqL_cons)); all_goals (first | exact (rfl : _ = AV.raw _) | exact (rfl : _ = AV.bys _) | exact (rfl : _ = AV.vw _ _ _ _) | exact (rfl : _ = AV.ptr _ _) | exact (rfl : _ = AV.str _) | exact (rfl : _ = AV.sls _ _) | exact (rfl : _ = AV.tup _) | exact (rfl : _ = AV.agg _) | exact (rfl : _ = AV.pce _ _) | exact (rfl : _ = AV.emp) | exact (rfl : _ = AV.bysx _) | exact (rfl : _ = AV.slsx _ _) | exact (rfl : _ = AV.mp _) | exact (rfl : _ = AV.fnc _ _ _) | exact (rfl : _ = AV.pby _ _) | exact (rfl : _ = AV.ifc _ _)))) (by rfl) (by rfl) (by rfl) (by ((repeat' (first | exact eqL_nil | apply eqL_cons)); all_goals (first | exact (rfl : _ = AV.raw _) | exact (rfl : _ = AV.bys _) | exact (rfl : _ = AV.vw _ _ _ _) | exact (rfl : _ = AV.ptr _ _) | exact (rfl : _ = AV.str _) | exact (rfl : _ = AV.sls _ _) | exact (rfl : _ = AV.tup _) | exact (rfl : _ = AV.agg _) | exact (rfl : _ = AV.pce _ _) | exact (rfl : _ = AV.emp) | exact (rfl : _ = AV.bysx _) | exact (rfl : _ = AV.slsx _ _) | exact (rfl : _ = AV.mp _) | exact (rfl : _ = AV.fnc _ _ _) | exact (rfl : _ = AV.pby _ _) | exact (rfl : _ = AV.ifc _ _)))) (by decide))); refine awm_b ?_; refine awm_nil ?_; refine awb_cons (fun Rx K1 hK1x => ?_); refine za2 rfl rfl rfl (by assumption) auto_len auto_src auto_len auto_len (fun oN hoN => ?_); refine yy61 ?_; (refine hK1x _ _ ?_; clear hK1x K1 Rx); refine awb_nil ?_; refine k_seq_normal ?_; refine yy40 ?_; refine yy48 ?_; refine yy22 ?_; rotate_left; exact absurd hc auto_no) | fail)
    exact ⟨l.length - (i + 1), _, _, by omega, Ent.sub _ (by (repeat' (first | exact RSub.nil _ | apply RSub.cons)); all_goals rfl), i + 1, oN, by omega, hoN, by rw [hsn.out, vr_snoc], rfl, rfl⟩
  · obtain rfl : i = l.length := by omega
    rw [List.take_length]
    (first | focus (refine yy45 ?_; refine yy34 ?_; intro hc; refine yy2 ?_; refine yy23 ?_; refine yy40 ?_; refine yy108 ?_; rotate_left) | fail)
    exact ⟨.inl rfl, _, _, _, Ent.seal_cel1 2 rfl hvl hoL, ret1 rfl rfl, rfl, rfl⟩
end Go.Proofs.Ytmgkhfnhaeplgaa

namespace Go.Proofs.Ytmgkhfnhaeplgaa
open Go Go.Am Go.Proofs
set_option linter.unusedSimpArgs false
set_option linter.unusedVariables false
set_option maxRecDepth 20000
set_option maxHeartbeats 8000000

/-! The reference's trees as the program's own: nodes. -/
structure NdOk (n : Nd) : Prop where
  i : n.ins.length ≤ 2000000
  o : n.outs.length ≤ 2000000
  l : n.locs.length ≤ 2000000
  q : n.eqs.length ≤ 2000000
  e : ∀ q ∈ n.eqs, exSz q.e ≤ 2000000
theorem nd_get {l : List Nd} {i : Nat} {v : Nd} (h : l[i]? = some v) : ((ndL l).drop (i * 6)).take 6 = v.cells := flat_seg (sz := 6) (f := Nd.cells) (fun _ => rfl) h
theorem nd_at {l : List Nd} {i j : Nat} {v : Nd} {y : AV} (h : l[i]? = some v) (hj : j < 6) (hy : v.cells[j]? = some y) : (ndL l)[i * 6 + j]? = some y := flat_get (sz := 6) (f := Nd.cells) (fun _ => rfl) h hj hy
theorem eq_get {l : List Eqn} {i : Nat} {v : Eqn} (h : l[i]? = some v) : ((eqL l).drop (i * 7)).take 7 = v.cells := flat_seg (sz := 7) (f := Eqn.cells) (fun _ => rfl) h
theorem eq_at {l : List Eqn} {i j : Nat} {v : Eqn} {y : AV} (h : l[i]? = some v) (hj : j < 7) (hy : v.cells[j]? = some y) : (eqL l)[i * 7 + j]? = some y := flat_get (sz := 7) (f := Eqn.cells) (fun _ => rfl) h hj hy
theorem seg_sub {L c : List AV} {a n : Nat} (h : (L.drop a).take n = c) (j m : Nat) (hj : j + m ≤ n) : (L.drop (a + j)).take m = (c.drop j).take m := by
  rw [← h, List.drop_take, List.take_take, List.drop_drop, Nat.min_eq_left (by omega)]
theorem eq_one (v : Eqn) : eqL [v] = v.cells := by unfold eqL; rw [List.flatMap_singleton]
theorem Back_calls (H : AHeap) (l : List Nd) (hl : l.length ≤ 2000000) (hok : ∀ n ∈ l, NdOk n) : ACalls Try.prog 11 [ndsA l] H fun r H' => r = ndsA l ∧ H' = H := by
  have hvl := nd_len l
  refine acalls_of_aw1 Try.func11 rfl (by decide) ?_
  (first | focus (refine yy15 ?_; refine yy15 ?_; refine yy38 ?_; refine yy71 ?_; rotate_left) | fail)
  refine aw_own_nil 3 6 (.cel []) rfl rfl (fun oL hoL => ?_)
  refine aw_loop (fun mm R1 H1 => ∃ (i oL : Nat), i ≤ l.length ∧ H1 oL = some (.cel (ndL (l.take i))) ∧ H oL = none ∧ (∀ p y, H p = some y → H1 p = some y) ∧ R1 = [(0, ndsA l), (3, .vw oL 6 0 i), (4, avI i)] ∧ l.length - i = mm) ?_ ?_
  · exact ⟨_, _, _, Ent.sub _ (by (repeat' (first | exact RSub.nil _ | apply RSub.cons)); all_goals rfl), 0, oL, Nat.zero_le _, by exact auto_heap, hoL, fun p y hp => auto_heap, rfl, rfl⟩
  clear hoL oL
  rintro mm R1 H1 ⟨i, oL, hi, q1, hoL, hfr, rfl, rfl⟩
  by_cases hlt : i < l.length
  · have hg : l[i]? = some l[i] := List.getElem?_eq_getElem hlt
    have hno := hok _ (List.getElem_mem hlt)
    have hsn : l.take (i + 1) = l.take i ++ [l[i]] := by rw [List.take_add_one, hg]; rfl
    have hlen : (ndL (l.take i)).length = i * 6 := by rw [nd_len, List.length_take, Nat.min_eq_left hi]
    generalize l[i] = v at *
    have hseg := nd_get hg
    have y0 := nd_at hg (j := 0) (by decide) rfl
    have y1 := nd_at hg (j := 1) (by decide) rfl
    have y2 := nd_at hg (j := 2) (by decide) rfl
    have y3 := nd_at hg (j := 3) (by decide) rfl
    have y4 := nd_at hg (j := 4) (by decide) rfl
    have y5 := nd_at hg (j := 5) (by decide) rfl
    replace hsn := Hdn.mk hsn
    clear hg
    obtain ⟨nm, ins, outs, locs, eqs, at_⟩ := v
    obtain ⟨b1, b2, b3, b4, b5⟩ := hno
    simp only at *
    have c1 := fun H => backVars_calls H ins b1
    have c2 := fun H => backVars_calls H outs b2
    have c3 := fun H => backVars_calls H locs b3
    (first | focus (refine yy45 ?_; refine aw_condp rfl (fun hc => ?_) (fun hc => ?_); refine yy13 ?_; refine aw_seq ?_; refine aw_drawx [26] auto_kr auto_dk auto_dk ?_; (apply awm_s; · (intro H1; exact s_move (v := .sls _ _) rfl)); (apply awm_s; · (intro H1; exact s_move (v := .raw _) rfl)); (apply awm_s; · (intro H1; exact s_indexAddr_sls rfl rfl auto_len)); (apply awm_s; · (intro H1; exact s_fieldAddr_pce rfl)); (apply awm_s; · (intro H1; exact s_load_pce rfl auto_idx)); (apply awm_s; · (intro H1; exact s_move (v := .sls _ _) rfl)); (apply awm_s; · (intro H1; exact s_move (v := .raw _) rfl)); (apply awm_s; · (intro H1; exact s_indexAddr_sls rfl rfl auto_len)); (apply awm_s; · (intro H1; exact s_fieldAddr_pce rfl)); (apply awm_s; · (intro H1; exact s_load_pce rfl auto_idx)); (apply awm_s; · (intro H1; exact s_callc auto_wl (c1 _))); (apply awm_s; · (intro H1; exact s_move (v := .sls _ _) rfl)); (apply awm_s; · (intro H1; exact s_move (v := .raw _) rfl)); (apply awm_s; · (intro H1; exact s_indexAddr_sls rfl rfl auto_len)); (apply awm_s; · (intro H1; exact s_fieldAddr_pce rfl)); (apply awm_s; · (intro H1; exact s_load_pce rfl auto_idx)); (apply awm_s; · (intro H1; exact s_callc auto_wl (c2 _))); (apply awm_s; · (intro H1; exact s_move (v := .sls _ _) rfl)); (apply awm_s; · (intro H1; exact s_move (v := .raw _) rfl)); (apply awm_s; · (intro H1; exact s_indexAddr_sls rfl rfl auto_len)); (apply awm_s; · (intro H1; exact s_fieldAddr_pce rfl)); (apply awm_s; · (intro H1; exact s_load_pce rfl auto_idx)); (apply awm_s; · (intro H1; exact s_callc auto_wl (c3 _))); (apply awm_s; · (intro H1; exact s_move (v := .sls _ _) rfl)); (apply awm_s; · (intro H1; exact s_move (v := .raw _) rfl)); (apply awm_s; · (intro H1; exact s_indexAddr_sls rfl rfl auto_len)); (apply awm_s; · (intro H1; exact s_fieldAddr_pce rfl)); (apply awm_s; · (intro H1; exact s_load_pce rfl auto_idx)); (apply awm_s; · (intro H1; exact s_buildv (by ((repeat' (first | exact eqL_nil | apply eqL_cons)); all_goals (first | exact (rfl : _ = AV.raw _) | exact (rfl : _ = AV.bys _) | exact (rfl : _ = AV.vw _ _ _ _) | exact (rfl : _ = AV.ptr _ _) | exact (rfl : _ = AV.str _) | exact (rfl : _ = AV.sls _ _) | exact (rfl : _ = AV.tup _) | exact (rfl : _ = AV.agg _) | exact (rfl : _ = AV.pce _ _) | exact (rfl : _ = AV.emp) | exact (rfl : _ = AV.bysx _) | exact (rfl : _ = AV.slsx _ _) | exact (rfl : _ = AV.mp _) | exact (rfl : _ = AV.fnc _ _ _) | exact (rfl : _ = AV.pby _ _) | exact (rfl : _ = AV.ifc _ _)))) (by rfl))); refine awm_b ?_; refine awm_b0 ?_; refine awm_nil ?_; refine awb_cons (fun Rx K1 hK1x => ?_); refine awl_alloc rfl rfl rfl (fun oN hoN => ?_); refine yy61 ?_; (refine hK1x _ _ ?_; clear hK1x K1 Rx); refine awb_cons0 (fun Rx K1 hK1x => ?_); refine yy11 ?_; refine yy61 ?_; (refine hK1x _ ?_; clear hK1x K1 Rx); refine awb_nil ?_; refine k_seq_normal ?_; refine yy38 ?_; refine yy71 ?_; rotate_left; exact absurd hc auto_no) | fail)
    have hX0 : H oN = none := by
      cases e : H oN with
      | none => rfl
      | some y => rw [hfr _ _ e] at hoN; cases hoN
    have hXL : oN ≠ oL := fun e => by rw [e, q1] at hoN; cases hoN
    obtain ⟨oX, hoXe⟩ : ∃ x, x = oN := ⟨_, rfl⟩
    subst hoXe
    refine aw_loop (fun mm R2 H2 => ∃ (k : Nat) (kc : AV), k ≤ eqs.length ∧ H2 oX = some (.cel [.str nm, .sls ins.length (vrL ins), .sls outs.length (vrL outs), .sls locs.length (vrL locs), kc, avI at_]) ∧ H2 oL = some (.cel (ndL (l.take i))) ∧ VwF 7 H H2 oX oL oX kc k (eqL (eqs.take k)) ∧ (∀ p y, H p = some y → H2 p = some y) ∧ R2 = [(0, ndsA l), (3, .vw oL 6 0 i), (4, avI i), (5, .ptr oX 0), (6, avI k)] ∧ eqs.length - k = mm) ?_ ?_
    · exact ⟨_, _, _, Ent.sub _ (by (repeat' (first | exact RSub.nil _ | apply RSub.cons)); all_goals rfl), 0, .raw (.slice none 0 0), Nat.zero_le _, by exact auto_heap, by exact auto_heap, .inl ⟨rfl, rfl⟩, fun p y hp => by
          have hp2 := hfr p y hp
          have hp3 : p ≠ oX := fun e => by rw [e, hX0] at hp; cases hp
          exact auto_heap, rfl, rfl⟩
    clear hfr q1 hoN c1 c2 c3 H1 y0 y1 y2 y3 y5
    rintro mm R2 H2 ⟨k, kc, hk, q3, q1, hK, hfr, rfl, rfl⟩
    by_cases hkt : k < eqs.length
    · have hg : eqs[k]? = some eqs[k] := List.getElem?_eq_getElem hkt
      have hb := b5 _ (List.getElem_mem hkt)
      have hsk : eqs.take (k + 1) = eqs.take k ++ [eqs[k]] := by rw [List.take_add_one, hg]; rfl
      have hlek : (eqL (eqs.take k)).length = k * 7 := by rw [eq_len, List.length_take, Nat.min_eq_left hk]
      generalize eqs[k] = q at *
      have hsq := eq_get hg
      have z0 := eq_at hg (j := 0) (by decide) rfl
      have z1 := eq_at hg (j := 1) (by decide) rfl
      have z2 := eq_at hg (j := 2) (by decide) rfl
      have z3 := eq_at hg (j := 3) (by decide) rfl
      have z4 := eq_at hg (j := 4) (by decide) rfl
      have z5 := eq_at hg (j := 5) (by decide) rfl
      have z6 := eq_at hg (j := 6) (by decide) rfl
      replace hsk := Hdn.mk hsk
      clear hg
      obtain ⟨qn, qe, qa⟩ := q
      obtain ⟨op, en, nn, ea, ks⟩ := qe
      simp only at *
      have cb := fun H => BackExpr_calls _ (.mk op en nn ea ks) H (Nat.le_refl _) hb
      have hsE := seg_sub hsq 1 5 (by decide)
      simp only [exA, Ex.op, Ex.name, Ex.n, Ex.at_, Ex.kids, Ex.cells] at *
      replace hsE : List.take 5 (List.drop (k * 7 + 1) (eqL eqs)) = [.str op, .str en, avI nn, avI ea, .sls ks.length (exL ks)] := hsE
      rcases hK with ⟨hac, rfl⟩ | ⟨oK, rfl, j1, j2, j3, j4, j5⟩
      · obtain rfl : k = 0 := hac
        (first | focus (refine yy143 ?_; refine yy47 ?_; refine yy118 ?_; refine yy89 ?_; refine aw_condp rfl (fun hc => ?_) (fun hc => ?_); refine yy13 ?_; refine aw_drawx [27] auto_kr auto_dk auto_dk ?_; (apply awm_s; · (intro H1; exact s_fieldAddr_ptr rfl)); (apply awm_e auto_dk; (· exact s_load_cel rfl auto_heap rfl)); (apply awm_s; · (intro H1; exact s_move (v := .sls _ _) rfl)); (apply awm_s; · (intro H1; exact s_move (v := .raw _) rfl)); (apply awm_s; · (intro H1; exact s_indexAddr_sls rfl rfl auto_len)); (apply awm_s; · (intro H1; exact s_fieldAddr_pce rfl)); (apply awm_s; · (intro H1; exact s_load_pce rfl auto_idx)); (apply awm_s; · (intro H1; exact s_move (v := .raw _) rfl)); (apply awm_s; · (intro H1; exact s_indexAddr_sls rfl rfl auto_len)); (apply awm_s; · (intro H1; exact s_fieldAddr_pce rfl)); (apply awm_s; · (intro H1; exact s_load_pce rfl auto_idx)); (apply awm_s; · (intro H1; exact s_move (v := .sls _ _) rfl)); (apply awm_s; · (intro H1; exact s_move (v := .raw _) rfl)); (apply awm_s; · (intro H1; exact s_indexAddr_sls rfl rfl auto_len)); (apply awm_s; · (intro H1; exact s_fieldAddr_pce rfl)); (apply awm_s; · (intro H1; exact s_load_pce rfl auto_idx)); (apply awm_s; · (intro H1; exact s_move (v := .raw _) rfl)); (apply awm_s; · (intro H1; exact s_indexAddr_sls rfl rfl auto_len)); (apply awm_s; · (intro H1; exact s_fieldAddr_pce rfl)); (apply awm_s; · (intro H1; exact s_load_pce_agg rfl (by assumption) (by rfl) (by decide))); (apply awm_s; · (intro H1; exact s_callc auto_wl (cb _))); (apply awm_s; · (intro H1; exact s_move (v := .sls _ _) rfl)); (apply awm_s; · (intro H1; exact s_move (v := .raw _) rfl)); (apply awm_s; · (intro H1; exact s_indexAddr_sls rfl rfl auto_len)); (apply awm_s; · (intro H1; exact s_fieldAddr_pce rfl)); (apply awm_s; · (intro H1; exact s_load_pce rfl auto_idx)); (apply awm_s; · (intro H1; exact s_move (v := .raw _) rfl)); (apply awm_s; · (intro H1; exact s_indexAddr_sls rfl rfl auto_len)); (apply awm_s; · (intro H1; exact s_fieldAddr_pce rfl)); (apply awm_s; · (intro H1; exact s_load_pce rfl auto_idx)); (apply awm_s; · (intro H1; exact s_buildv (by ((repeat' (first | exact eqL_nil | apply eqL_cons)); all_goals (first | exact (rfl : _ = AV.raw _) | exact (rfl : _ = AV.bys _) | exact (rfl : _ = AV.vw _ _ _ _) | exact (rfl : _ = AV.ptr _ _) | exact (rfl : _ = AV.str _) | exact (rfl : _ = AV.sls _ _) | exact (rfl : _ = AV.tup _) | exact (rfl : _ = AV.agg _) | exact (rfl : _ = AV.pce _ _) | exact (rfl : _ = AV.emp) | exact (rfl : _ = AV.bysx _) | exact (rfl : _ = AV.slsx _ _) | exact (rfl : _ = AV.mp _) | exact (rfl : _ = AV.fnc _ _ _) | exact (rfl : _ = AV.pby _ _) | exact (rfl : _ = AV.ifc _ _)))) (by rfl))); (apply awm_s; · (intro H1; exact s_buildSlicev (by ((repeat' (first | exact eqL_nil | apply eqL_cons)); all_goals (first | exact (rfl : _ = AV.raw _) | exact (rfl : _ = AV.bys _) | exact (rfl : _ = AV.vw _ _ _ _) | exact (rfl : _ = AV.ptr _ _) | exact (rfl : _ = AV.str _) | exact (rfl : _ = AV.sls _ _) | exact (rfl : _ = AV.tup _) | exact (rfl : _ = AV.agg _) | exact (rfl : _ = AV.pce _ _) | exact (rfl : _ = AV.emp) | exact (rfl : _ = AV.bysx _) | exact (rfl : _ = AV.slsx _ _) | exact (rfl : _ = AV.mp _) | exact (rfl : _ = AV.fnc _ _ _) | exact (rfl : _ = AV.pby _ _) | exact (rfl : _ = AV.ifc _ _)))) (by rfl) (by rfl) (by rfl) (by ((repeat' (first | exact eqL_nil | apply eqL_cons)); all_goals (first | exact (rfl : _ = AV.raw _) | exact (rfl : _ = AV.bys _) | exact (rfl : _ = AV.vw _ _ _ _) | exact (rfl : _ = AV.ptr _ _) | exact (rfl : _ = AV.str _) | exact (rfl : _ = AV.sls _ _) | exact (rfl : _ = AV.tup _) | exact (rfl : _ = AV.agg _) | exact (rfl : _ = AV.pce _ _) | exact (rfl : _ = AV.emp) | exact (rfl : _ = AV.bysx _) | exact (rfl : _ = AV.slsx _ _) | exact (rfl : _ = AV.mp _) | exact (rfl : _ = AV.fnc _ _ _) | exact (rfl : _ = AV.pby _ _) | exact (rfl : _ = AV.ifc _ _)))) (by decide))); refine awm_b ?_; (apply awm_s; · (intro H1; exact s_fieldAddr_ptr rfl)); refine awm_b0 ?_; refine awm_nil ?_; refine awb_cons (fun Rx K1 hK1x => ?_); refine awl_own_nil_cel rfl rfl rfl auto_src auto_len auto_len (fun oN hoN => ?_); refine yy61 ?_; (refine hK1x _ _ ?_; clear hK1x K1 Rx); refine awb_cons0 (fun Rx K1 hK1x => ?_); refine yy58 ?_; refine yy61 ?_; (refine hK1x _ ?_; clear hK1x K1 Rx); refine awb_nil ?_; refine yy100 ?_; refine yy22 ?_; rotate_left; exact absurd hc auto_no) | fail)
        have n1 : H oN = none := by
          cases e : H oN with
          | none => rfl
          | some y => rw [hfr _ _ e] at hoN; cases hoN
        have n2 : oN ≠ oX := fun e => by rw [e, q3] at hoN; cases hoN
        have n3 : oN ≠ oL := fun e => by rw [e, q1] at hoN; cases hoN
        exact ⟨eqs.length - (0 + 1), _, _, by omega, Ent.sub _ (by (repeat' (first | exact RSub.nil _ | apply RSub.cons)); all_goals rfl), 0 + 1, .vw oN 7 0 (0 + 1), by omega, by exact auto_heap, by exact auto_heap, .inr ⟨oN, rfl, by rw [hsk.out, List.take_zero, List.nil_append, eq_one]; exact auto_heap, n1, n2, n3, n2⟩, fun p y hp => by
          have hp2 := hfr p y hp
          have hp3 : p ≠ oX := fun e => by rw [e, hX0] at hp; cases hp
          have hp4 : p ≠ oN := fun e => by rw [e, n1] at hp; cases hp
          exact auto_heap, rfl, rfl⟩
      · (first | focus (refine yy143 ?_; refine yy47 ?_; refine yy118 ?_; refine yy89 ?_; refine aw_condp rfl (fun hc => ?_) (fun hc => ?_); refine yy13 ?_; refine aw_drawx [27] auto_kr auto_dk auto_dk ?_; (apply awm_s; · (intro H1; exact s_fieldAddr_ptr rfl)); (apply awm_e auto_dk; (· exact s_load_cel rfl auto_heap rfl)); (apply awm_s; · (intro H1; exact s_move (v := .sls _ _) rfl)); (apply awm_s; · (intro H1; exact s_move (v := .raw _) rfl)); (apply awm_s; · (intro H1; exact s_indexAddr_sls rfl rfl auto_len)); (apply awm_s; · (intro H1; exact s_fieldAddr_pce rfl)); (apply awm_s; · (intro H1; exact s_load_pce rfl auto_idx)); (apply awm_s; · (intro H1; exact s_move (v := .raw _) rfl)); (apply awm_s; · (intro H1; exact s_indexAddr_sls rfl rfl auto_len)); (apply awm_s; · (intro H1; exact s_fieldAddr_pce rfl)); (apply awm_s; · (intro H1; exact s_load_pce rfl auto_idx)); (apply awm_s; · (intro H1; exact s_move (v := .sls _ _) rfl)); (apply awm_s; · (intro H1; exact s_move (v := .raw _) rfl)); (apply awm_s; · (intro H1; exact s_indexAddr_sls rfl rfl auto_len)); (apply awm_s; · (intro H1; exact s_fieldAddr_pce rfl)); (apply awm_s; · (intro H1; exact s_load_pce rfl auto_idx)); (apply awm_s; · (intro H1; exact s_move (v := .raw _) rfl)); (apply awm_s; · (intro H1; exact s_indexAddr_sls rfl rfl auto_len)); (apply awm_s; · (intro H1; exact s_fieldAddr_pce rfl)); (apply awm_s; · (intro H1; exact s_load_pce_agg rfl (by assumption) (by rfl) (by decide))); (apply awm_s; · (intro H1; exact s_callc auto_wl (cb _))); (apply awm_s; · (intro H1; exact s_move (v := .sls _ _) rfl)); (apply awm_s; · (intro H1; exact s_move (v := .raw _) rfl)); (apply awm_s; · (intro H1; exact s_indexAddr_sls rfl rfl auto_len)); (apply awm_s; · (intro H1; exact s_fieldAddr_pce rfl)); (apply awm_s; · (intro H1; exact s_load_pce rfl auto_idx)); (apply awm_s; · (intro H1; exact s_move (v := .raw _) rfl)); (apply awm_s; · (intro H1; exact s_indexAddr_sls rfl rfl auto_len)); (apply awm_s; · (intro H1; exact s_fieldAddr_pce rfl)); (apply awm_s; · (intro H1; exact s_load_pce rfl auto_idx)); (apply awm_s; · (intro H1; exact s_buildv (by ((repeat' (first | exact eqL_nil | apply eqL_cons)); all_goals (first | exact (rfl : _ = AV.raw _) | exact (rfl : _ = AV.bys _) | exact (rfl : _ = AV.vw _ _ _ _) | exact (rfl : _ = AV.ptr _ _) | exact (rfl : _ = AV.str _) | exact (rfl : _ = AV.sls _ _) | exact (rfl : _ = AV.tup _) | exact (rfl : _ = AV.agg _) | exact (rfl : _ = AV.pce _ _) | exact (rfl : _ = AV.emp) | exact (rfl : _ = AV.bysx _) | exact (rfl : _ = AV.slsx _ _) | exact (rfl : _ = AV.mp _) | exact (rfl : _ = AV.fnc _ _ _) | exact (rfl : _ = AV.pby _ _) | exact (rfl : _ = AV.ifc _ _)))) (by rfl))); (apply awm_s; · (intro H1; exact s_buildSlicev (by ((repeat' (first | exact eqL_nil | apply eqL_cons)); all_goals (first | exact (rfl : _ = AV.raw _) | exact (rfl : _ = AV.bys _) | exact (rfl : _ = AV.vw _ _ _ _) | exact (rfl : _ = AV.ptr _ _) | exact (rfl : _ = AV.str _) | exact (rfl : _ = AV.sls _ _) | exact (rfl : _ = AV.tup _) | exact (rfl : _ = AV.agg _) | exact (rfl : _ = AV.pce _ _) | exact (rfl : _ = AV.emp) | exact (rfl : _ = AV.bysx _) | exact (rfl : _ = AV.slsx _ _) | exact (rfl : _ = AV.mp _) | exact (rfl : _ = AV.fnc _ _ _) | exact (rfl : _ = AV.pby _ _) | exact (rfl : _ = AV.ifc _ _)))) (by rfl) (by rfl) (by rfl) (by ((repeat' (first | exact eqL_nil | apply eqL_cons)); all_goals (first | exact (rfl : _ = AV.raw _) | exact (rfl : _ = AV.bys _) | exact (rfl : _ = AV.vw _ _ _ _) | exact (rfl : _ = AV.ptr _ _) | exact (rfl : _ = AV.str _) | exact (rfl : _ = AV.sls _ _) | exact (rfl : _ = AV.tup _) | exact (rfl : _ = AV.agg _) | exact (rfl : _ = AV.pce _ _) | exact (rfl : _ = AV.emp) | exact (rfl : _ = AV.bysx _) | exact (rfl : _ = AV.slsx _ _) | exact (rfl : _ = AV.mp _) | exact (rfl : _ = AV.fnc _ _ _) | exact (rfl : _ = AV.pby _ _) | exact (rfl : _ = AV.ifc _ _)))) (by decide))); refine awm_b ?_; (apply awm_s; · (intro H1; exact s_fieldAddr_ptr rfl)); refine awm_b0 ?_; refine awm_nil ?_; refine awb_cons (fun Rx K1 hK1x => ?_); refine za4 rfl rfl rfl auto_heap auto_al auto_src auto_len auto_len (fun oN hoN => ?_); refine yy61 ?_; (refine hK1x _ _ ?_; clear hK1x K1 Rx); refine awb_cons0 (fun Rx K1 hK1x => ?_); refine yy58 ?_; refine yy61 ?_; (refine hK1x _ ?_; clear hK1x K1 Rx); refine awb_nil ?_; refine yy100 ?_; refine yy22 ?_; rotate_left; exact absurd hc auto_no) | fail)
        have n1 : H oN = none := by
          cases e : H oN with
          | none => rfl
          | some y => rw [hfr _ _ e] at hoN; cases hoN
        have n2 : oN ≠ oX := fun e => by rw [e, q3] at hoN; cases hoN
        have n3 : oN ≠ oL := fun e => by rw [e, q1] at hoN; cases hoN
        exact ⟨eqs.length - (k + 1), _, _, by omega, Ent.sub _ (by (repeat' (first | exact RSub.nil _ | apply RSub.cons)); all_goals rfl), k + 1, .vw oN 7 0 (k + 1), by omega, by exact auto_heap, by exact auto_heap, .inr ⟨oN, rfl, by rw [hsk.out, eq_snoc]; exact auto_heap, n1, n2, n3, n2⟩, fun p y hp => by
          have hp2 := hfr p y hp
          have hp3 : p ≠ oX := fun e => by rw [e, hX0] at hp; cases hp
          have hp4 : p ≠ oN := fun e => by rw [e, n1] at hp; cases hp
          exact auto_heap, rfl, rfl⟩
    · obtain rfl : k = eqs.length := by omega
      rw [List.take_length] at hK
      have hent : ∃ H3, Ent [(0, ndsA l), (3, .vw oL 6 0 i), (4, avI i), (5, .ptr oX 0), (6, avI eqs.length)] H2 [(0, ndsA l), (3, .vw oL 6 0 i), (4, avI i), (5, .ptr oX 0), (6, avI eqs.length)] H3 ∧ H3 oX = some (.cel [.str nm, .sls ins.length (vrL ins), .sls outs.length (vrL outs), .sls locs.length (vrL locs), .sls eqs.length (eqL eqs), avI at_]) ∧ H3 oL = some (.cel (ndL (l.take i))) ∧ (∀ p y, H p = some y → H3 p = some y) := by
        rcases hK with ⟨hac, rfl⟩ | ⟨oK, rfl, j1, j2, j3, j4, j5⟩
        · obtain rfl : eqs = [] := List.eq_nil_of_length_eq_zero hac
          exact ⟨_, Ent.wcelH (AHeap.set_id q3).symm (WC.cons (W.of rfl) (WC.cons (W.of rfl) (WC.cons (W.of rfl) (WC.cons (W.of rfl) (WC.cons (W.nils rfl) (WC.cons (W.of rfl) WC.nil)))))), AHeap.set_self _ _ _, by exact auto_heap, fun p y hp => by
            have hp2 := hfr p y hp
            have hp3 : p ≠ oX := fun e => by rw [e, hX0] at hp; cases hp
            exact auto_heap⟩
        · have j6 := j5.symm
          have j7 := j4.symm
          refine ⟨_, Ent.seal_cellC (p := oX) (o := oK) (k := 4) (sz := 7) (ys := eqL eqs) j6 q3 j1 rfl (eq_len _), AHeap.set_self _ _ _, by exact auto_heap, fun p y hp => ?_⟩
          have hp2 := hfr p y hp
          have hp3 : p ≠ oX := fun e => by rw [e, hX0] at hp; cases hp
          have hp4 : p ≠ oK := fun e => by rw [e, j2] at hp; cases hp
          exact auto_heap
      clear hK hfr q3 q1
      obtain ⟨H3, he, q3, q1, hfr⟩ := hent
      refine aw_ent he ?_
      clear he
      (first | focus (refine yy143 ?_; refine yy47 ?_; refine yy118 ?_; refine yy89 ?_; refine yy34 ?_; intro hc; refine yy32 ?_; refine yy23 ?_; refine yy26 ?_; refine yy37 ?_; refine za4 rfl rfl rfl auto_heap auto_al auto_src auto_len auto_len (fun oN hoN => ?_); refine yy40 ?_; refine yy48 ?_; refine yy22 ?_; rotate_left) | fail)
      have n1 : H oN = none := by
        cases e : H oN with
        | none => rfl
        | some y => rw [hfr _ _ e] at hoN; cases hoN
      exact ⟨l.length - (i + 1), _, _, by omega, Ent.sub _ (by (repeat' (first | exact RSub.nil _ | apply RSub.cons)); all_goals rfl), i + 1, oN, by omega, by rw [hsn.out, nd_snoc]; exact auto_heap, n1, fun p y hp => by
        have hp2 := hfr p y hp
        have hp4 : p ≠ oN := fun e => by rw [e, n1] at hp; cases hp
        exact auto_heap, rfl, rfl⟩
  · obtain rfl : i = l.length := by omega
    rw [List.take_length] at q1
    (first | focus (refine yy45 ?_; refine yy34 ?_; intro hc; refine yy2 ?_; refine yy23 ?_; refine yy40 ?_; refine yy108 ?_; rotate_left) | fail)
    exact ⟨.inl rfl, _, _, _, (Ent.seal_cel (i := 2) (o := oL) (xs := ndL l) rfl auto_heap hvl).trans (Ent.gc (fun p y hp => by
      have hp2 := hfr p y hp
      have hp3 : p ≠ oL := fun e => by rw [e, hoL] at hp; cases hp
      exact auto_heap)), ret1 rfl rfl, rfl, rfl⟩
end Go.Proofs.Ytmgkhfnhaeplgaa

namespace Go.Proofs.Ytmgkhfnhaeplgaa
open Go
set_option linter.unusedSimpArgs false
set_option linter.unusedVariables false

/-! Names, kinds, clocks, what is late: as the reference tells them. Plain. -/
def hasB (l : List Bs) (s : Bs) : Bool := l.any fun x => decide (x = s)
def varsN (n : Nd) : List Vr := n.ins ++ n.outs ++ n.locs
def Vr0 : Vr := ⟨[], 0, [], false, 0⟩
def Eqn0 : Eqn := ⟨[], Ex0, 0⟩
def findL (s : Bs) : List Vr → Vr × Bool
  | [] => (Vr0, false)
  | v :: l => if v.name = s then (v, true) else findL s l
def findV (n : Nd) (s : Bs) : Vr × Bool := findL s (varsN n)
def nodeL (s : Bs) : List Nd → Nat → Int
  | [], _ => -1
  | n :: l, i => if n.name = s then (i : Int) else nodeL s l (i + 1)
def nodeOf (l : List Nd) (s : Bs) : Int := nodeL s l 0
def eqOfL (s : Bs) : List Eqn → Eqn × Bool
  | [] => (Eqn0, false)
  | q :: l => if q.name = s then (q, true) else eqOfL s l
def eqOf (n : Nd) (s : Bs) : Eqn × Bool := eqOfL s n.eqs
def inputL (s : Bs) (l : List Vr) : Bool := l.any fun v => decide (v.name = s)
abbrev Ck := Nat × Nat
def failC (c : Ck) (e a : Nat) : Ck := if c.1 = 0 then (e, a) else c
def nameOk (ahead : List Nd) (n : Nd) (op nm : Bs) (kids : Nat) : Bool :=
  if op = ([118, 97, 114] : Bs) ∨ op = ([119, 104, 101, 110] : Bs) ∨ op = ([109, 101, 114, 103, 101] : Bs) then (findV n nm).2
  else if op = ([99, 97, 108, 108] : Bs) then
    let k := nodeOf ahead nm
    decide (0 ≤ k) && (match ahead[k.toNat]? with | some m => decide (m.outs.length = 1) && decide (m.ins.length = kids) | none => false)
  else true
mutual
def namesE (ahead : List Nd) (n : Nd) (c : Ck) : Ex → Ck
  | .mk op nm _ at_ ks => namesL ahead n (if nameOk ahead n op nm ks.length then c else failC c 8 at_) ks
def namesL (ahead : List Nd) (n : Nd) (c : Ck) : List Ex → Ck
  | [] => c
  | e :: l => namesL ahead n (namesE ahead n c e) l
end
def nameV (pre : List Vr) (v : Vr) (c : Ck) : Ck :=
  let c := if inputL v.name pre then failC c 8 v.at_ else c
  if decide (v.on = []) || inputL v.on pre then c else failC c 8 v.at_
def namesV : List Vr → List Vr → Ck → Ck
  | _, [], c => c
  | pre, v :: r, c => namesV (pre ++ [v]) r (nameV pre v c)
def nameQ (ahead : List Nd) (n : Nd) (pre : List Eqn) (q : Eqn) (c : Ck) : Ck :=
  namesE ahead n (if !(findV n q.name).2 || inputL q.name n.ins || pre.any (fun p => decide (p.name = q.name)) then failC c 8 q.at_ else c) q.e
def namesQ (ahead : List Nd) (n : Nd) : List Eqn → List Eqn → Ck → Ck
  | _, [], c => c
  | pre, q :: r, c => namesQ ahead n (pre ++ [q]) r (nameQ ahead n pre q c)
def namesO (n : Nd) : List Vr → Ck → Ck
  | [], c => c
  | v :: r, c => namesO n r (if (eqOf n v.name).2 then c else failC c 8 v.at_)
def nameN (pre : List Nd) (n : Nd) (c : Ck) : Ck :=
  let c := if decide (0 ≤ nodeOf pre n.name) || decide (n.outs = []) then failC c 8 n.at_ else c
  namesO n (n.outs ++ n.locs) (namesQ pre n [] n.eqs (namesV [] (varsN n) c))
def namesN : List Nd → List Nd → Ck → Ck
  | _, [], c => c
  | pre, n :: r, c => namesN (pre ++ [n]) r (nameN pre n c)
def names (l : List Nd) : Ck := namesN [] l (0, 0)

/-! Kinds. -/
def kindOp (l : List Nd) (n : Nd) (op nm : Bs) (k : List Nat) : Bool × Nat :=
  let k0 := k.getD 0 0
  let k1 := k.getD 1 0
  let k2 := k.getD 2 0
  if op = ([105, 110, 116] : Bs) then (true, 2)
  else if op = ([98, 111, 111, 108] : Bs) then (true, 1)
  else if op = ([118, 97, 114] : Bs) then (true, (findV n nm).1.kind)
  else if op = ([110, 111, 116] : Bs) then (decide (k0 = 1), 1)
  else if op = ([110, 101, 103] : Bs) then (decide (k0 = 2), 2)
  else if op = ([112, 114, 101] : Bs) then (true, k0)
  else if op = ([43] : Bs) ∨ op = ([45] : Bs) ∨ op = ([42] : Bs) ∨ op = ([47] : Bs) ∨ op = ([109, 111, 100] : Bs) then (decide (k0 = 2) && decide (k1 = 2), 2)
  else if op = ([61] : Bs) ∨ op = ([60, 62] : Bs) then (decide (k0 = k1), 1)
  else if op = ([60] : Bs) ∨ op = ([60, 61] : Bs) ∨ op = ([62] : Bs) ∨ op = ([62, 61] : Bs) then (decide (k0 = 2) && decide (k1 = 2), 1)
  else if op = ([97, 110, 100] : Bs) ∨ op = ([111, 114] : Bs) ∨ op = ([120, 111, 114] : Bs) then (decide (k0 = 1) && decide (k1 = 1), 1)
  else if op = ([45, 62] : Bs) ∨ op = ([102, 98, 121] : Bs) then (decide (k0 = k1), k0)
  else if op = ([105, 102] : Bs) then (decide (k0 = 1) && decide (k1 = k2), k1)
  else if op = ([119, 104, 101, 110] : Bs) then (decide ((findV n nm).1.kind = 1), k0)
  else if op = ([109, 101, 114, 103, 101] : Bs) then (decide ((findV n nm).1.kind = 1) && decide (k0 = k1), k0)
  else if op = ([99, 97, 108, 108] : Bs) then
    match l[(nodeOf l nm).toNat]? with
    | some m => (decide ((m.ins.take k.length).map (·.kind) = k), (m.outs.getD 0 Vr0).kind)
    | none => (true, 0)
  else (true, 0)
mutual
def kindE (l : List Nd) (n : Nd) (c : Ck) : Ex → Nat × Ck
  | .mk op nm _ at_ ks =>
    let r := kindL l n c [] ks
    let x := kindOp l n op nm r.1
    (x.2, if x.1 then r.2 else failC r.2 9 at_)
def kindL (l : List Nd) (n : Nd) (c : Ck) (acc : List Nat) : List Ex → List Nat × Ck
  | [] => (acc, c)
  | e :: r => kindL l n (kindE l n c e).2 (acc ++ [(kindE l n c e).1]) r
end
def typesV (n : Nd) : List Vr → Ck → Ck
  | [], c => c
  | v :: r, c => typesV n r (if v.on ≠ [] ∧ (findV n v.on).1.kind ≠ 1 then failC c 9 v.at_ else c)
def typesQ (l : List Nd) (n : Nd) : List Eqn → Ck → Ck
  | [], c => c
  | q :: r, c => typesQ l n r (if (kindE l n c q.e).1 ≠ (findV n q.name).1.kind then failC (kindE l n c q.e).2 9 q.at_ else (kindE l n c q.e).2)
def typesN (l : List Nd) : List Nd → Ck → Ck
  | [], c => c
  | n :: r, c => typesN l r (typesQ l n n.eqs (typesV n n.locs c))
def types (l : List Nd) : Ck := typesN l l (0, 0)

/-! Clocks. -/
structure Stp1 where
  name : Bs
  not : Bool
deriving DecidableEq
def clockF (n : Nd) : Nat → Vr × Bool → List Stp1 → List Stp1
  | 0, _, l => l
  | m + 1, v, l => if v.2 = true ∧ v.1.on ≠ [] then clockF n m (findV n v.1.on) (⟨v.1.on, v.1.not⟩ :: l) else l
def clockOf (n : Nd) (s : Bs) : List Stp1 := clockF n ((varsN n).length + 1) (findV n s) []
def clockR : List (List Stp1 × Bool) → List Stp1 × Bool → Nat → Ck → (List Stp1 × Bool) × Ck
  | [], x, _, c => (x, c)
  | y :: r, x, at_, c => if y.2 then clockR r x at_ c else if x.2 then clockR r (y.1, false) at_ c else clockR r x at_ (if x.1 = y.1 then c else failC c 10 at_)
def clockOp (n : Nd) (op nm : Bs) (nn : Int) (at_ : Nat) (all : List (List Stp1 × Bool)) (c : Ck) : (List Stp1 × Bool) × Ck :=
  let a0 := all.getD 0 ([], true)
  let a1 := all.getD 1 ([], true)
  if op = ([105, 110, 116] : Bs) ∨ op = ([98, 111, 111, 108] : Bs) then (([], true), c)
  else if op = ([118, 97, 114] : Bs) then ((clockOf n nm, false), c)
  else if op = ([119, 104, 101, 110] : Bs) then ((clockOf n nm ++ [⟨nm, decide (nn = 0)⟩], false), if a0.2 = false ∧ a0.1 ≠ clockOf n nm then failC c 10 at_ else c)
  else if op = ([109, 101, 114, 103, 101] : Bs) then
    let c1 := if a0.2 = false ∧ a0.1 ≠ clockOf n nm ++ [⟨nm, false⟩] then failC c 10 at_ else c
    ((clockOf n nm, false), if a1.2 = false ∧ a1.1 ≠ clockOf n nm ++ [⟨nm, true⟩] then failC c1 10 at_ else c1)
  else clockR all ([], true) at_ c
mutual
def clockE (n : Nd) (c : Ck) : Ex → (List Stp1 × Bool) × Ck
  | .mk op nm nn at_ ks =>
    let r := clockL n c [] ks
    clockOp n op nm nn at_ r.1 r.2
def clockL (n : Nd) (c : Ck) (acc : List (List Stp1 × Bool)) : List Ex → List (List Stp1 × Bool) × Ck
  | [] => (acc, c)
  | e :: r => clockL n (clockE n c e).2 (acc ++ [(clockE n c e).1]) r
end
def clocksQ (n : Nd) : List Eqn → Ck → Ck
  | [], c => c
  | q :: r, c => clocksQ n r (if (clockE n c q.e).1.2 = false ∧ (clockE n c q.e).1.1 ≠ clockOf n q.name then failC (clockE n c q.e).2 10 q.at_ else (clockE n c q.e).2)
def clocksN : List Nd → Ck → Ck
  | [], c => c
  | n :: r, c => clocksN r (clocksQ n n.eqs c)
def clocks (l : List Nd) : Ck := clocksN l (0, 0)

/-! What is late. -/
mutual
def lateE (p : Bs → Bool) : Ex → Bool
  | .mk op nm _ _ ks => if op = ([118, 97, 114] : Bs) then p nm else if op = ([112, 114, 101] : Bs) then true else if op = ([45, 62] : Bs) ∨ op = ([102, 98, 121] : Bs) ∨ op = ([109, 101, 114, 103, 101] : Bs) ∨ op = ([99, 97, 108, 108] : Bs) ∨ op = ([105, 110, 116] : Bs) ∨ op = ([98, 111, 111, 108] : Bs) then false else lateL p ks
def lateL (p : Bs → Bool) : List Ex → Bool
  | [] => false
  | e :: l => lateE p e || lateL p l
end
def lateQ (names : List Bs) (q : Eqn) : List Bs := if !hasB names q.name && lateE (hasB names) q.e then names ++ [q.name] else names
def lateRound : List Eqn → List Bs → List Bs
  | [], names => names
  | q :: r, names => lateRound r (lateQ names q)
def lateRounds (l : List Eqn) : Nat → List Bs → List Bs
  | 0, names => names
  | m + 1, names => lateRounds l m (lateRound l names)
def lateNames (n : Nd) : List Bs := lateRounds n.eqs (n.eqs.length + 1) []
def lateN (n : Nd) : List Bs := ((varsN n).filter fun v => hasB (lateNames n) v.name).map (·.name)
def partB (p : Bs → Bool) (op nm : Bs) (ks : List Ex) : Bool :=
  if op = ([112, 114, 101] : Bs) ∨ op = ([102, 98, 121] : Bs) ∨ op = ([99, 97, 108, 108] : Bs) then lateL p ks
  else if op = ([45, 62] : Bs) then (match ks with | [] => false | e :: _ => lateE p e)
  else if op = ([119, 104, 101, 110] : Bs) then p nm
  else if op = ([109, 101, 114, 103, 101] : Bs) then p nm || lateL p ks
  else false
mutual
def wrongE (p : Bs → Bool) : Ex → Option Nat
  | .mk op nm _ at_ ks => match wrongL p ks with
    | some a => some a
    | none => if partB p op nm ks then some at_ else none
def wrongL (p : Bs → Bool) : List Ex → Option Nat
  | [] => none
  | e :: l => match wrongE p e with
    | some a => some a
    | none => wrongL p l
end
def toldB (n : Nd) (s : Bs) : Bool := (n.outs.any fun v => decide (v.name = s)) || n.locs.any fun v => decide (v.on = s)
end Go.Proofs.Ytmgkhfnhaeplgaa
