import Derived.Test.YtbciofnejefkiaaIz
import Derived.Test.YtbciofnejefkiaaIa8
set_option linter.unusedVariables false
set_option linter.unusedSimpArgs false
set_option maxRecDepth 20000
set_option maxHeartbeats 4000000
namespace Go.Proofs.Ytbciofnejefkiaa
open Go Go.Am Go.Proofs

open Ag (GOK COK WG MOK SOK LOK)
theorem do_calls (H : AHeap) (O : Wo) (F : Nat → Ob) (g : Ag.Gh) (w w' : Ag.W) (q B I : Nat) (a : Ag.Act) (hA : WAt H O F w) (hX : WX g w q B I) (hq : q ≤ 100000) (hI : I ≤ 100000) (hB : B ≤ 10000000000) (ok : a.Ok) (hop : b64 a.op) (hr : b64 a.r) (hk : b64 a.k) (hrl : a.row.length ≤ 1000000) (hst : w.act a = some w') :
    ACalls Try.prog 21 [.ptr O.w 0, .agg (actC a)] H fun r' H' => r' = bB true ∧ ∃ O' F', WAt H' O' F' w' ∧ TurnW w.n H O F O' F' H' := by
  have h0 := hA
  obtain ⟨aw, ac, asv, ak, al, ai, ar, ab, nd, co, _, _, _⟩ := hA
  obtain ⟨d1, d2, d3, d4, d5, d6, d7, d8, d9, d10, d11, d12, d13, d14, d15, d16, d17, d18, d19, d20, d21, d22, d23, d24, d25, d26, d27, d28⟩ := Wo.ne nd
  have hn7 := hX.wg.n7
  have hl4 := hX.l
  have hidl : w.ids.length ≤ 100000 := Nat.le_trans hX.idl hI
  unfold worldC at aw
  unfold actC rowA
  unfold Ag.W.act at hst
  refine acalls_of_aw2 Try.func21 rfl (by decide) ?_
  (first | focus (refine yy4 ?_; refine zb4 rfl rfl rfl ?_; refine yy6 ?_; rotate_left) | fail)
  refine aw_seq ?_
  refine aw_kmid (fun R1 H2 => H2 = H ∧ R1 = [(0, .ptr O.w 0), (3, .pce [mI a.op, mI a.r, mI a.k, uI a.id, AV.sls a.row.length (List.map mI a.row)] 0), (4, .raw (.bool false)), (5, .raw (.bool (decide (w.there a))))]) ?_ ?_
  · by_cases h1 : 0 ≤ a.r
    · have e : decide (w.there a) = decide (a.r < (w.n : Int)) := decide_eq_decide.2 ⟨fun h => h.2, fun h => ⟨h1, h⟩⟩
      rw [e]
      (first | focus (refine yy85 ?_; (apply awt_s; · exact s_fieldAddr_pce rfl); (apply awt_s; · exact s_load_pce rfl auto_idx); (apply awt_s; · exact s_geq rfl rfl); (apply awt_s; · exact s_move (v := .raw _) rfl); refine zt1 rfl rfl rfl (fun hc => ?_) (fun hc => ?_); (apply awt_s; · exact s_fieldAddr_pce rfl); refine yy1 ?_; (apply awt_s; · exact s_load_pce rfl auto_idx); refine yy1 ?_; (apply awt_s; · exact s_move (v := .ptr _ _) rfl); refine yy1 ?_; (apply awt_s; · exact s_nilCheck_ptr rfl); refine yy1 ?_; (apply awt_s; · exact s_fieldAddr_ptr rfl); refine yy1 ?_; (apply awt_s; · exact s_load_cel rfl auto_heap rfl); refine yy1 ?_; (apply awt_s; · exact s_lss rfl rfl); (apply awt_s; · exact s_pick_t (v := .raw _) rfl rfl); (apply awt_s; · exact s_assign (v := .raw _) rfl); refine yy12 ?_; rotate_left; exact absurd hc auto_no) | fail)
      all_goals try (exfalso; omega)
      exact ⟨_, _, auto_ent, rfl, rfl⟩
    · rw [decide_eq_false (fun h : w.there a => h1 h.1)]
      (first | focus (refine yy85 ?_; (apply awt_s; · exact s_fieldAddr_pce rfl); (apply awt_s; · exact s_load_pce rfl auto_idx); (apply awt_s; · exact s_geq rfl rfl); (apply awt_s; · exact s_move (v := .raw _) rfl); refine zt1 rfl rfl rfl (fun hc => ?_) (fun hc => ?_); exact absurd hc auto_no; refine yy14 ?_; refine yy74 ?_; (apply awt_s; · exact s_pick_f (v := .raw _) rfl rfl); (apply awt_s; · exact s_assign (v := .raw _) rfl); refine yy12 ?_; rotate_left) | fail)
      all_goals try (exfalso; omega)
      exact ⟨_, _, auto_ent, rfl, rfl⟩
  rintro R1 H2 ⟨rfl, rfl⟩
  refine aw_seq ?_
  refine aw_kmid (fun R1 H3 => H3 = H2 ∧ R1 = [(0, .ptr O.w 0), (3, .pce [mI a.op, mI a.r, mI a.k, uI a.id, AV.sls a.row.length (List.map mI a.row)] 0), (4, .raw (.bool false)), (5, .raw (.bool (decide (w.there a)))), (6, .raw (.bool (decide (w.packet a))))]) ?_ ?_
  · by_cases h1 : 0 ≤ a.k
    · have e : decide (w.packet a) = decide (a.k < (w.l.length : Int)) := decide_eq_decide.2 ⟨fun h => h.2, fun h => ⟨h1, h⟩⟩
      rw [e]
      generalize decide (w.there a) = bt at *
      (first | focus (refine yy85 ?_; (apply awt_s; · exact s_fieldAddr_pce rfl); (apply awt_s; · exact s_load_pce rfl auto_idx); (apply awt_s; · exact s_geq rfl rfl); (apply awt_s; · exact s_move (v := .raw _) rfl); refine zt1 rfl rfl rfl (fun hc => ?_) (fun hc => ?_); (apply awt_s; · exact s_fieldAddr_pce rfl); refine yy1 ?_; (apply awt_s; · exact s_load_pce rfl auto_idx); refine yy1 ?_; (apply awt_s; · exact s_move (v := .ptr _ _) rfl); refine yy1 ?_; (apply awt_s; · exact s_nilCheck_ptr rfl); refine yy1 ?_; (apply awt_s; · exact s_fieldAddr_ptr rfl); refine yy1 ?_; (apply awt_s; · exact s_load_cel rfl auto_heap rfl); refine yy1 ?_; (apply awt_s; · exact s_len_vw rfl); refine yy1 ?_; (apply awt_s; · exact s_lss rfl rfl); (apply awt_s; · exact s_pick_t (v := .raw _) rfl rfl); (apply awt_s; · exact s_assign (v := .raw _) rfl); refine yy12 ?_; rotate_left; exact absurd hc auto_no) | fail)
      all_goals try (exfalso; omega)
      exact ⟨_, _, auto_ent, rfl, rfl⟩
    · rw [decide_eq_false (fun h : w.packet a => h1 h.1)]
      generalize decide (w.there a) = bt at *
      (first | focus (refine yy85 ?_; (apply awt_s; · exact s_fieldAddr_pce rfl); (apply awt_s; · exact s_load_pce rfl auto_idx); (apply awt_s; · exact s_geq rfl rfl); (apply awt_s; · exact s_move (v := .raw _) rfl); refine zt1 rfl rfl rfl (fun hc => ?_) (fun hc => ?_); exact absurd hc auto_no; refine yy14 ?_; refine yy74 ?_; refine zt4 rfl rfl ?_; (apply awt_s; · exact s_pick_f (v := .raw _) rfl rfl); (apply awt_s; · exact s_assign (v := .raw _) rfl); refine yy12 ?_; rotate_left) | fail)
      all_goals try (exfalso; omega)
      exact ⟨_, _, auto_ent, rfl, rfl⟩
  rintro R1 H3 ⟨rfl, rfl⟩
  by_cases o0 : a.op = 0
  · rw [if_pos o0] at hst
    by_cases ht : w.there a
    rotate_left
    · rw [if_neg ht] at hst
      cases hst
      rw [decide_eq_false ht]
      generalize decide (w.packet a) = bp at *
      (first | focus (refine yy46 ?_; refine yy54 ?_; refine aw_condp rfl (fun hc => ?_) (fun hc => ?_); refine yy11 ?_; refine yy39 ?_; refine yy3 ?_; refine yy18 ?_; refine yy20 ?_; refine yy52 ?_; rotate_left; exact absurd hc auto_no) | fail)
      all_goals try (exfalso; omega)
      all_goals exact ⟨.inl rfl, _, _, _, Ent.refl _ _, ret1 rfl rfl, rfl, O, F, h0, TurnW.refl _ _ _ _⟩
    rw [if_pos ht] at hst
    rw [decide_eq_true ht]
    generalize decide (w.packet a) = bp at *
    obtain ⟨r, hre⟩ : ∃ r : Nat, a.r = (r : Int) := ⟨a.r.toNat, by have := ht.1; omega⟩
    have hrn : r < w.n := by have := ht.2; omega
    rw [hre, Int.toNat_natCast] at hst
    rw [hre]
    have hst2 : Ag.W.step (wIn w a) r ((w.c r).submit a.id a.row) = some w' := hst
    (first | focus (refine yy46 ?_; refine yy54 ?_; refine aw_condp rfl (fun hc => ?_) (fun hc => ?_); refine yy11 ?_; refine yy39 ?_; refine yy3 ?_; refine yy77 ?_; rotate_left; exact absurd hc auto_no) | fail)
    refine aw_seq ?_
    refine aw_kmid (fun R1 H4 => ∃ O2, WAt H4 O2 F (wIn w a) ∧ TurnW w.n H3 O F O2 F H4 ∧ R1 = [(0, .ptr O.w 0), (3, .pce [mI a.op, mI (r : Int), mI a.k, uI a.id, AV.sls a.row.length (List.map mI a.row)] 0)]) ?_ ?_
    · by_cases hin : 0 < a.id ∧ a.row.length ≤ 16
      · have hw : wIn w a = { w with ids := w.ids ++ [(a.id, a.row)] } := if_pos hin
        rw [hw]
        (first | focus (refine yy4 ?_; refine yy41 ?_; refine yy37 ?_; refine yy2 ?_; refine zg1 rfl rfl rfl (fun hc => ?_) (fun hc => ?_); refine yy87 ?_; refine yy5 ?_; refine yy59 ?_; refine yy5 ?_; refine yy44 ?_; refine yy5 ?_; refine awl_s rfl (s_len_ rfl rfl) ?_; refine yy50 ?_; refine aw_condp rfl (fun hc => ?_) (fun hc => ?_); refine aw_seq ?_; refine aw_draw2 false auto_kr auto_dk auto_dk ?_; (apply awm_s; · (intro H1; exact s_move (v := .ptr _ _) rfl)); (apply awm_s; · (intro H1; exact s_move (v := .ptr _ _) rfl)); (apply awm_s; · (intro H1; exact s_nilCheck_ptr rfl)); (apply awm_s; · (intro H1; exact s_fieldAddr_ptr rfl)); (apply awm_e auto_dk; (· exact s_load_cel rfl auto_heap rfl)); (apply awm_s; · (intro H1; exact s_fieldAddr_pce rfl)); (apply awm_s; · (intro H1; exact s_load_pce rfl auto_idx)); (apply awm_s; · (intro H1; exact s_buildSlicev (by ((repeat' (first | exact eqL_nil | apply eqL_cons)); all_goals (first | exact (rfl : _ = AV.raw _) | exact (rfl : _ = AV.bys _) | exact (rfl : _ = AV.vw _ _ _ _) | exact (rfl : _ = AV.ptr _ _) | exact (rfl : _ = AV.str _) | exact (rfl : _ = AV.sls _ _) | exact (rfl : _ = AV.tup _) | exact (rfl : _ = AV.agg _) | exact (rfl : _ = AV.pce _ _) | exact (rfl : _ = AV.emp) | exact (rfl : _ = AV.bysx _) | exact (rfl : _ = AV.slsx _ _) | exact (rfl : _ = AV.mp _) | exact (rfl : _ = AV.fnc _ _ _) | exact (rfl : _ = AV.pby _ _) | exact (rfl : _ = AV.ifc _ _)))) (by rfl) (by rfl) (by rfl) (by ((repeat' (first | exact eqL_nil | apply eqL_cons)); all_goals (first | exact (rfl : _ = AV.raw _) | exact (rfl : _ = AV.bys _) | exact (rfl : _ = AV.vw _ _ _ _) | exact (rfl : _ = AV.ptr _ _) | exact (rfl : _ = AV.str _) | exact (rfl : _ = AV.sls _ _) | exact (rfl : _ = AV.tup _) | exact (rfl : _ = AV.agg _) | exact (rfl : _ = AV.pce _ _) | exact (rfl : _ = AV.emp) | exact (rfl : _ = AV.bysx _) | exact (rfl : _ = AV.slsx _ _) | exact (rfl : _ = AV.mp _) | exact (rfl : _ = AV.fnc _ _ _) | exact (rfl : _ = AV.pby _ _) | exact (rfl : _ = AV.ifc _ _)))) (by decide))); refine awm_b ?_; (apply awm_s; · (intro H1; exact s_nilCheck_ptr rfl)); (apply awm_s; · (intro H1; exact s_fieldAddr_ptr rfl)); refine awm_b0 ?_; refine awm_nil ?_; refine awb_cons (fun Rx K1 hK1x => ?_); refine za4 rfl rfl rfl auto_heap auto_al auto_src auto_len auto_len (fun oN hoN => ?_); refine yy7 ?_; (refine hK1x _ _ ?_; clear hK1x K1 Rx); refine awb_cons0 (fun Rx K1 hK1x => ?_); refine yy72 ?_; (refine hK1x _ ?_; clear hK1x K1 Rx); refine awb_nil ?_; refine yy43 ?_; rotate_left; exact absurd hc auto_no; exact absurd hc auto_no) | fail)
        all_goals try (exfalso; omega)
        have hoI := hoN
        generalize hqq : oN = oI at *
        clear hqq hoN oN
        have m1 : O.w ≠ oI := fun e => by rw [← e, aw] at hoI; cases hoI
        refine aw_gen (fun H5 => H5 O.w = some (.cel [mI w.n, .vw O.c 1 0 w.n, .vw O.s 1 0 w.n, .vw O.k 1 0 w.n, .vw O.l 9 0 w.l.length, .vw oI 1 0 (w.ids.length + 1), .vw O.r 1 0 w.ids.length, .vw O.b 3 0 w.best.length]) ∧ H5 oI = some (.cel ((w.ids.map fun x => uI x.1) ++ [uI a.id])) ∧ ∀ p y, H3 p = some y → p ≠ O.w → p ≠ O.i → H5 p = some y) ⟨by exact auto_heap, by exact auto_heap, fun p y hp h1 h2 => by
          have h3 : p ≠ oI := fun e => by rw [e, hoI] at hp; cases hp
          exact auto_heap⟩ ?_
        rintro H5 ⟨q1, q2, q3⟩
        have e1 := q3 _ _ ar d6.symm d26.symm
        (first | focus (refine DC.aw_drawp (fun H' => H' O.w = some (.cel [mI w.n, .vw O.c 1 0 w.n, .vw O.s 1 0 w.n, .vw O.k 1 0 w.n, .vw O.l 9 0 w.l.length, .vw oI 1 0 (w.ids.length + 1), .vw O.r 1 0 w.ids.length, .vw O.b 3 0 w.best.length])) (by first | exact auto_heap) auto_kr auto_dk auto_dk ?_; (apply DC.awn_s; · (intro H1 hPsi; (try dsimp only at hPsi); (try (obtain ⟨hPsi, hPsi2⟩ := hPsi)); exact s_move (v := .ptr _ _) rfl)); (apply DC.awn_s; · (intro H1 hPsi; (try dsimp only at hPsi); (try (obtain ⟨hPsi, hPsi2⟩ := hPsi)); exact s_move (v := .ptr _ _) rfl)); (apply DC.awn_s; · (intro H1 hPsi; (try dsimp only at hPsi); (try (obtain ⟨hPsi, hPsi2⟩ := hPsi)); exact s_nilCheck_ptr rfl)); (apply DC.awn_s; · (intro H1 hPsi; (try dsimp only at hPsi); (try (obtain ⟨hPsi, hPsi2⟩ := hPsi)); exact s_fieldAddr_ptr rfl)); (apply DC.awn_s; · (intro H1 hPsi; (try dsimp only at hPsi); (try (obtain ⟨hPsi, hPsi2⟩ := hPsi)); exact s_load_cel rfl auto_heap rfl)); (apply DC.awn_s; · (intro H1 hPsi; (try dsimp only at hPsi); (try (obtain ⟨hPsi, hPsi2⟩ := hPsi)); exact s_buildSlice0)); (apply DC.awn_s; · (intro H1 hPsi; (try dsimp only at hPsi); (try (obtain ⟨hPsi, hPsi2⟩ := hPsi)); exact s_fieldAddr_pce rfl)); (apply DC.awn_s; · (intro H1 hPsi; (try dsimp only at hPsi); (try (obtain ⟨hPsi, hPsi2⟩ := hPsi)); exact s_load_pce rfl auto_idx)); refine DC.awn_b ?_; refine DC.awn_b ?_; refine DC.awn_b ?_; (apply DC.awn_s; · (intro H1 hPsi; (try dsimp only at hPsi); (try (obtain ⟨hPsi, hPsi2⟩ := hPsi)); exact s_nilCheck_ptr rfl)); (apply DC.awn_s; · (intro H1 hPsi; (try dsimp only at hPsi); (try (obtain ⟨hPsi, hPsi2⟩ := hPsi)); exact s_fieldAddr_ptr rfl)); refine DC.awn_b0 ?_; refine DC.awn_nil ?_; refine DC.awc_cons (fun Rx K1 hK1x => ?_); refine awl_s rfl (s_app_emp_cel rfl rfl auto_src auto_len auto_len) ?_; refine yy7 ?_; (refine hK1x _ _ (by first | exact Or.inl (by decide +kernel) | (refine Or.inr ?_; (try dsimp only); first | exact auto_heap)) ?_; clear hK1x K1 Rx); refine DC.awc_cons (fun Rx K1 hK1x => ?_); refine yy91 ?_; refine yy7 ?_; (refine hK1x _ _ (by first | exact Or.inl (by decide +kernel) | (refine Or.inr ?_; (try dsimp only); first | exact auto_heap)) ?_; clear hK1x K1 Rx); refine DC.awc_cons (fun Rx K1 hK1x => ?_); refine za4 rfl rfl rfl auto_heap auto_al auto_src auto_len auto_len (fun oN hoN => ?_); refine yy7 ?_; (refine hK1x _ _ (by first | exact Or.inl (by decide +kernel) | (refine Or.inr ?_; (try dsimp only); first | exact auto_heap)) ?_; clear hK1x K1 Rx); refine DC.awc_cons0 (fun Rx K1 hK1x => ?_); refine yy72 ?_; (refine hK1x _ (by first | exact Or.inl (by decide +kernel) | (refine Or.inr ?_; (try dsimp only); first | exact auto_heap)) ?_; clear hK1x K1 Rx); refine DC.awc_nil ?_; refine yy43 ?_; rotate_left) | fail)
        have f1 := hX.idl
        have m2 : O.w ≠ oN := fun e => by rw [← e, q1] at hoN; cases hoN
        have m3 : oI ≠ oN := fun e => by rw [← e, q2] at hoN; cases hoN
        have m5 : O.r ≠ oI := fun e => by rw [← e, ar] at hoI; cases hoI
        have hln : (w.ids ++ [(a.id, a.row)]).length = w.ids.length + 1 := by simp
        have hq : ∀ x y, H3 x = some y → x ≠ O.w → x ≠ O.i → oN ≠ x ∧ oI ≠ x := fun x y hx n1 n2 => ⟨fun e => (by rw [e, q3 x y hx n1 n2] at hoN; cases hoN), fun e => (by rw [e, hx] at hoI; cases hoI)⟩
        have hsk : ∀ p y, H3 p = some y → p ≠ O.w → p ≠ O.i → p ≠ O.r → (((H5.erase O.r).set oN (.cel ((w.ids.map fun x => rowA x.2) ++ [.sls a.row.length (a.row.map mI)]))).set O.w (.cel [mI w.n, .vw O.c 1 0 w.n, .vw O.s 1 0 w.n, .vw O.k 1 0 w.n, .vw O.l 9 0 w.l.length, .vw oI 1 0 (w.ids.length + 1), .vw oN 1 0 (w.ids.length + 1), .vw O.b 3 0 w.best.length])) p = some y := fun p y hp n1 n2 n3 => by
          have := q3 p y hp n1 n2
          have m4 := (hq p y hp n1 n2).1.symm
          exact auto_heap
        have hres : WAt (((H5.erase O.r).set oN (.cel ((w.ids.map fun x => rowA x.2) ++ [.sls a.row.length (a.row.map mI)]))).set O.w (.cel [mI w.n, .vw O.c 1 0 w.n, .vw O.s 1 0 w.n, .vw O.k 1 0 w.n, .vw O.l 9 0 w.l.length, .vw oI 1 0 (w.ids.length + 1), .vw oN 1 0 (w.ids.length + 1), .vw O.b 3 0 w.best.length])) { O with i := oI, r := oN } F { w with ids := w.ids ++ [(a.id, a.row)] } ∧ TurnW w.n H3 O F { O with i := oI, r := oN } F (((H5.erase O.r).set oN (.cel ((w.ids.map fun x => rowA x.2) ++ [.sls a.row.length (a.row.map mI)]))).set O.w (.cel [mI w.n, .vw O.c 1 0 w.n, .vw O.s 1 0 w.n, .vw O.k 1 0 w.n, .vw O.l 9 0 w.l.length, .vw oI 1 0 (w.ids.length + 1), .vw oN 1 0 (w.ids.length + 1), .vw O.b 3 0 w.best.length])) := by
          obtain ⟨c1, c2⟩ := hq _ _ ac d1.symm d11
          obtain ⟨s1, s2⟩ := hq _ _ asv d2.symm d16
          obtain ⟨k1, k2⟩ := hq _ _ ak d3.symm d20
          obtain ⟨l1, l2⟩ := hq _ _ al d4.symm d23
          obtain ⟨b1, b2⟩ := hq _ _ ab d7.symm d27.symm
          refine h0.objs rfl rfl rfl (by unfold worldC; rw [hln]; exact AHeap.set_self _ _ _) (hsk _ _ ac d1.symm d11 d12) (hsk _ _ asv d2.symm d16 d17) (hsk _ _ ak d3.symm d20 d21) (hsk _ _ al d4.symm d23 d24) (by rw [List.map_append]; have e9 : oI ≠ O.r := m5.symm; exact AHeap.get_skip m1.symm (AHeap.get_skip m3 (AHeap.get_unerase e9 q2))) (by rw [List.map_append]; exact AHeap.get_skip m2.symm (AHeap.set_self _ _ _)) (hsk _ _ ab d7.symm d27.symm d28.symm) (Wo.nd ⟨d1, d2, d3, d4, m1, m2, d7, d8, d9, d10, c2.symm, c1.symm, d13, d14, d15, s2.symm, s1.symm, d18, d19, k2.symm, k1.symm, d22, l2.symm, l1.symm, d25, m3, b2, b1⟩) (fun p hp => ?_) (fun p y hp hF => hsk p y hp (fun e => hF (by rw [e]; simp [Wo.l'])) (fun e => hF (by rw [e]; simp [Wo.l'])) (fun e => hF (by rw [e]; simp [Wo.l'])))
          simp only [Wo.l', List.mem_cons, List.not_mem_nil, or_false] at hp ⊢
          rcases hp with e | e | e | e | e | e | e | e
          · exact .inl (.inl e)
          · exact .inl (.inr (.inl e))
          · exact .inl (.inr (.inr (.inl e)))
          · exact .inl (.inr (.inr (.inr (.inl e))))
          · exact .inl (.inr (.inr (.inr (.inr (.inl e)))))
          · exact .inr (e ▸ hoI)
          · by_cases hx : oN = O.i
            · exact .inl (.inr (.inr (.inr (.inr (.inr (.inl (e.trans hx)))))))
            · right
              rw [e]
              cases hy : H3 oN with
              | none => rfl
              | some y => rw [q3 _ _ hy m2.symm hx] at hoN; cases hoN
          · exact .inl (.inr (.inr (.inr (.inr (.inr (.inr (.inr e)))))))
        exact ⟨_, _, auto_entg, _, hres.1, hres.2, rfl⟩
      · have hw : wIn w a = w := if_neg hin
        rw [hw]
        (first | focus (refine yy4 ?_; refine yy41 ?_; refine yy37 ?_; refine yy2 ?_; refine zg1 rfl rfl rfl (fun hc => ?_) (fun hc => ?_); refine yy87 ?_; refine yy5 ?_; refine yy59 ?_; refine yy5 ?_; refine yy44 ?_; refine yy5 ?_; refine awl_s rfl (s_len_ rfl rfl) ?_; refine yy50 ?_; refine yy56 ?_; intro hc; rotate_left; refine yy61 ?_; refine yy47 ?_; refine yy49 ?_; refine yy77 ?_; rotate_left) | fail)
        all_goals try (exfalso; omega)
        all_goals exact ⟨_, _, auto_ent, O, h0, TurnW.refl _ _ _ _, rfl⟩
    rintro R1 H4 ⟨O2, w1, t1, rfl⟩
    obtain ⟨g1, g', x1, x2⟩ := hX.submit ok hrn
    have hcf := hX.cf (by omega) hrn
    have hen : (⟨a.id, 0, a.row⟩ : En).Ok := ⟨ok.id, by simp, ok.row⟩
    obtain ⟨y1, y2⟩ := submit_fine hcf hen
    have hvn : (wIn w a).n = w.n := by unfold wIn; split <;> rfl
    have hvc : (wIn w a).c = w.c := by unfold wIn; split <;> rfl
    generalize wIn w a = v at *
    have hSub := Submit_calls H4 (F r) (w.c r) a.id a.row (by rw [← hvc]; exact w1.co r (by rw [hvn]; exact hrn)) (w1.ndC r (by rw [hvn]; exact hrn)) hcf hen hrl
    have hStp := fun H2 G (hc : CAt H2 G ((w.c r).submit a.id a.row).c) t => act_step x1 (by rw [hvn]; exact hrn) (by omega) (by omega) (by omega) x2 (by rw [hvc]; exact y1) y2 hst2 w1 (H2 := H2) (G := G) hc t
    rw [hvn] at hStp
    generalize (w.c r).submit a.id a.row = s at *
    have hw := t1.w
    have b1 := w1.aw
    have b2 := w1.ac
    unfold worldC at b1
    rw [hvn] at b1 b2
    rw [hw] at b1 hStp
    have hrg : (List.range w.n)[r]? = some r := List.getElem?_range hrn
    clear hst hst2 hX x1 x2 y1 y2
    (first | focus (refine aw_seq ?_; refine aw_draw2 true auto_kr auto_dk auto_dk ?_; (apply awm_s; · (intro H1; exact s_move (v := .ptr _ _) rfl)); (apply awm_s; · (intro H1; exact s_fieldAddr_pce rfl)); (apply awm_s; · (intro H1; exact s_load_pce rfl auto_idx)); (apply awm_s; · (intro H1; exact s_move (v := .ptr _ _) rfl)); (apply awm_s; · (intro H1; exact s_nilCheck_ptr rfl)); (apply awm_s; · (intro H1; exact s_fieldAddr_ptr rfl)); (apply awm_e auto_dk; (· exact s_load_cel rfl auto_heap rfl)); (apply awm_s; · (intro H1; exact s_fieldAddr_pce rfl)); (apply awm_s; · (intro H1; exact s_load_pce rfl auto_idx)); (apply awm_s; · (intro H1; exact s_indexAddr_vw rfl rfl auto_len)); (apply awm_e auto_dk; (· exact s_load_cel rfl auto_heap auto_idx)); (apply awm_s; · (intro H1; exact s_fieldAddr_pce rfl)); (apply awm_s; · (intro H1; exact s_load_pce rfl auto_idx)); (apply awm_s; · (intro H1; exact s_fieldAddr_pce rfl)); (apply awm_s; · (intro H1; exact s_load_pce rfl auto_idx)); refine awm_b ?_; refine awm_b ?_; refine awm_b ?_; refine awm_nil ?_; refine awb_cons (fun Rx K1 hK1x => ?_); (refine zc auto_wl (hSub) ?_; rintro r H' ⟨rfl, G, c1, c2⟩); refine yy7 ?_; (refine hK1x _ _ ?_; clear hK1x K1 Rx); refine awb_cons (fun Rx K1 hK1x => ?_); (refine zc auto_wl (hStp _ _ c1 c2) ?_; rintro r H' ⟨rfl, O3, F3, z1, z2⟩); refine yy7 ?_; (refine hK1x _ _ ?_; clear hK1x K1 Rx); refine awb_cons (fun Rx K1 hK1x => ?_); refine yy31 ?_; refine yy7 ?_; (refine hK1x _ _ ?_; clear hK1x K1 Rx); refine awb_nil ?_; refine yy43 ?_; refine aw_ret ?_; refine yy89 ?_; rotate_left) | fail)
    exact ⟨.inl rfl, _, _, _, Ent.refl _ _, ret1 rfl rfl, rfl, O3, F3, z1, t1.trans z2⟩
  rw [if_neg o0] at hst
  by_cases o1 : a.op = 1
  · rw [if_pos o1] at hst
    by_cases ht : w.there a
    rotate_left
    · rw [if_neg ht] at hst
      cases hst
      rw [decide_eq_false ht]
      generalize decide (w.packet a) = bp at *
      (first | focus (refine yy46 ?_; refine yy54 ?_; refine yy15 ?_; intro hc; refine aw_condp rfl (fun hc => ?_) (fun hc => ?_); refine yy16 ?_; (apply awt_s; · exact s_move (v := .raw _) rfl); (apply awt_s; · exact s_notb rfl); (apply awt_s; · exact s_move (v := .raw _) rfl); refine yy14 ?_; refine yy14 ?_; refine yy14 ?_; refine zt4 rfl rfl ?_; (apply awt_s; · exact s_pick_t (v := .raw _) rfl rfl); (apply awt_s; · exact s_assign (v := .raw _) rfl); refine yy12 ?_; refine aw_ret ?_; refine yy89 ?_; rotate_left; exact absurd hc auto_no) | fail)
      all_goals try (exfalso; omega)
      all_goals exact ⟨.inl rfl, _, _, _, Ent.refl _ _, ret1 rfl rfl, rfl, O, F, h0, TurnW.refl _ _ _ _⟩
    rw [if_pos ht] at hst
    rw [decide_eq_true ht]
    generalize decide (w.packet a) = bp at *
    obtain ⟨r, hre⟩ : ∃ r : Nat, a.r = (r : Int) := ⟨a.r.toNat, by have := ht.1; omega⟩
    have hrn : r < w.n := by have := ht.2; omega
    rw [hre, Int.toNat_natCast] at hst
    rw [hre]
    have hcf := hX.cf (by omega) hrn
    have hqr := hX.quiet r hrn
    obtain ⟨y1, y2⟩ := tick_fine hcf (by omega)
    obtain ⟨hc0, hm0⟩ := hX.wg.c r hrn
    obtain ⟨g', _, x2⟩ := Ag.tick_ok hX.wg.gok hc0
    rw [hm0] at x2
    have hTk := Tick_calls H3 (F r) (w.c r) (co r hrn) (h0.ndC r hrn) hcf (by omega)
    have hStp := fun H2 G (hc : CAt H2 G (w.c r).tick.c) t => act_step hX hrn (by omega) (by omega) (by omega) x2 y1 y2 hst h0 (H2 := H2) (G := G) hc t
    generalize (w.c r).tick = s at *
    have hrg : (List.range w.n)[r]? = some r := List.getElem?_range hrn
    clear hst hX x2 y1 y2 hc0
    (first | focus (refine yy46 ?_; refine yy54 ?_; refine yy15 ?_; intro hc; rotate_left) | fail)
    refine aw_condp rfl (fun hc => ?_) (fun hc => absurd o1 hc)
    refine aw_seq ?_
    refine DC.aw_drawp (fun _ => True) trivial auto_kr auto_dk auto_dk ?_
    (first | focus ((apply DC.awn_s; · (intro H1 hPsi; (try dsimp only at hPsi); (try (obtain ⟨hPsi, hPsi2⟩ := hPsi)); exact s_move (v := .raw _) rfl)); (apply DC.awn_s; · (intro H1 hPsi; (try dsimp only at hPsi); (try (obtain ⟨hPsi, hPsi2⟩ := hPsi)); exact s_notb rfl)); (apply DC.awn_s; · (intro H1 hPsi; (try dsimp only at hPsi); (try (obtain ⟨hPsi, hPsi2⟩ := hPsi)); exact s_move (v := .raw _) rfl)); rotate_left) | fail)
    iterate 11
      refine DC.awn_guard_t rfl rfl ?_
      (first | focus ((apply DC.awn_s; · (intro H1 hPsi; (try dsimp only at hPsi); (try (obtain ⟨hPsi, hPsi2⟩ := hPsi)); exact s_move (v := .ptr _ _) rfl)); rotate_left) | focus ((apply DC.awn_s; · (intro H1 hPsi; (try dsimp only at hPsi); (try (obtain ⟨hPsi, hPsi2⟩ := hPsi)); exact s_fieldAddr_pce rfl)); rotate_left) | focus ((apply DC.awn_s; · (intro H1 hPsi; (try dsimp only at hPsi); (try (obtain ⟨hPsi, hPsi2⟩ := hPsi)); exact s_load_pce rfl auto_idx)); rotate_left) | focus ((apply DC.awn_s; · (intro H1 hPsi; (try dsimp only at hPsi); (try (obtain ⟨hPsi, hPsi2⟩ := hPsi)); exact s_nilCheck_ptr rfl)); rotate_left) | focus ((apply DC.awn_s; · (intro H1 hPsi; (try dsimp only at hPsi); (try (obtain ⟨hPsi, hPsi2⟩ := hPsi)); exact s_fieldAddr_ptr rfl)); rotate_left) | focus ((apply DC.awn_e auto_dk; (· exact s_load_cel rfl auto_heap rfl)); rotate_left) | focus ((apply DC.awn_s; · (intro H1 hPsi; (try dsimp only at hPsi); (try (obtain ⟨hPsi, hPsi2⟩ := hPsi)); exact s_indexAddr_vw rfl rfl auto_len)); rotate_left) | focus ((apply DC.awn_e auto_dk; (· exact s_load_cel rfl auto_heap auto_idx)); refine DC.awn_b ?_; refine DC.awn_b ?_; refine DC.awn_b ?_; refine DC.awn_b ?_; refine DC.awn_nil ?_; refine DC.awc_cons (fun Rx K1 hK1x => ?_); refine yy5 ?_; (refine zc auto_wl (hTk) ?_; rintro r H' ⟨rfl, G, c1, c2⟩); refine yy7 ?_; (refine hK1x _ _ (by first | exact Or.inl (by decide +kernel) | (refine Or.inr ?_; (try dsimp only); first | done | trivial)) ?_; clear hK1x K1 Rx); refine DC.awc_cons (fun Rx K1 hK1x => ?_); refine yy5 ?_; (refine zc auto_wl (hStp _ _ c1 c2) ?_; rintro r H' ⟨rfl, O3, F3, z1, z2⟩); refine yy7 ?_; (refine hK1x _ _ (by first | exact Or.inl (by decide +kernel) | (refine Or.inr ?_; (try dsimp only); first | done | trivial)) ?_; clear hK1x K1 Rx); refine DC.awc_cons (fun Rx K1 hK1x => ?_); refine yy21 ?_; refine yy7 ?_; (refine hK1x _ _ (by first | exact Or.inl (by decide +kernel) | (refine Or.inr ?_; (try dsimp only); first | done | trivial)) ?_; clear hK1x K1 Rx); refine DC.awc_cons (fun Rx K1 hK1x => ?_); refine yy31 ?_; refine yy7 ?_; (refine hK1x _ _ (by first | exact Or.inl (by decide +kernel) | (refine Or.inr ?_; (try dsimp only); first | done | trivial)) ?_; clear hK1x K1 Rx); refine DC.awc_nil ?_; refine yy43 ?_; refine aw_ret ?_; refine yy89 ?_; rotate_left) | fail)
    all_goals try (exfalso; omega)
    exact ⟨.inl rfl, _, _, _, Ent.refl _ _, ret1 rfl rfl, rfl, O3, F3, z1, z2⟩
  rw [if_neg o1] at hst
  by_cases o2 : a.op = 2
  · rw [if_pos o2] at hst
    by_cases hp : w.packet a
    rotate_left
    · rw [if_neg hp] at hst
      cases hst
      rw [decide_eq_false hp]
      generalize decide (w.there a) = bt at *
      (first | focus (refine yy46 ?_; refine yy54 ?_; refine yy15 ?_; intro hc; refine yy15 ?_; intro hc; refine aw_condp rfl (fun hc => ?_) (fun hc => ?_); refine yy11 ?_; refine yy39 ?_; refine yy3 ?_; refine yy18 ?_; refine yy20 ?_; refine yy52 ?_; rotate_left; exact absurd hc auto_no) | fail)
      all_goals try (exfalso; omega)
      all_goals exact ⟨.inl rfl, _, _, _, Ent.refl _ _, ret1 rfl rfl, rfl, O, F, h0, TurnW.refl _ _ _ _⟩
    rw [if_pos hp] at hst
    rw [decide_eq_true hp]
    generalize decide (w.there a) = bt at *
    obtain ⟨k, hke⟩ : ∃ k : Nat, a.k = (k : Int) := ⟨a.k.toNat, by have := hp.1; omega⟩
    have hkl : k < w.l.length := by have := hp.2; omega
    rw [hke, Int.toNat_natCast] at hst
    rw [hke]
    have hgk : w.l[k]? = some w.l[k] := List.getElem?_eq_getElem hkl
    have hM := hX.wg.l _ (List.getElem_mem hkl)
    rw [hgk] at hst
    generalize w.l[k] = m at *
    dsimp only at hst
    obtain ⟨r, hre⟩ : ∃ r : Nat, m.to = (r : Int) := ⟨m.to.toNat, by have := hM.to; omega⟩
    have hrn : r < w.n := by have := hM.to; have := hX.wg.n; omega
    have hmo : m.Ok := hM.okm (by rw [hX.wg.n]; exact hn7)
    rw [hre, Int.toNat_natCast] at hst
    have hOut := out_calls H3 O F w k m h0 hl4 hgk
    (first | focus (refine yy46 ?_; refine yy54 ?_; refine yy15 ?_; intro hc; refine yy15 ?_; intro hc; refine aw_condp rfl (fun hc => ?_) (fun hc => ?_); refine yy11 ?_; refine yy39 ?_; refine yy3 ?_; refine yy77 ?_; refine yy23 ?_; refine yy41 ?_; (refine zc auto_wl (hOut) ?_; rintro r H' ⟨rfl, O2, w1, t1⟩); refine awl_alloc rfl rfl rfl (fun oN hoN => ?_); refine yy75 ?_; refine yy3 ?_; rotate_left; exact absurd hc auto_no) | fail)
    all_goals try (exfalso; omega)
    have hcf := hX.cf (by omega) hrn
    have hen := LOK.lf hM.ents
    obtain ⟨y1, y2⟩ := get_fine hcf hmo
    obtain ⟨hc0, hm0⟩ := hX.wg.c r hrn
    obtain ⟨g', _, x2⟩ := Ag.get_ok hX.wg.gok hc0 hM
    rw [hm0] at x2
    have hGt := Get_calls' H' (F r) (w.c r) m (w1.co r hrn) (w1.ndC r hrn) hcf hmo (by have := hen.len; omega) (by rw [hM.body]; simp) (fun e he => by have := (hen.ok e he).2; omega)
    have hStp := fun H2 G (hc : CAt H2 G ((w.c r).get m).c) t => act_step (hX.out k) hrn (by omega) (by omega) (by omega) x2 y1 y2 hst w1 (H2 := H2) (G := G) hc t
    generalize (w.c r).get m = s at *
    have hw := t1.w
    have b1 := w1.aw
    have b2 := w1.ac
    unfold worldC at b1
    rw [hw] at b1 hStp
    replace b1 : H' O.w = some (.cel [mI w.n, .vw O2.c 1 0 w.n, .vw O2.s 1 0 w.n, .vw O2.k 1 0 w.n, .vw O2.l 9 0 (w.out k).l.length, .vw O2.i 1 0 w.ids.length, .vw O2.r 1 0 w.ids.length, .vw O2.b 3 0 w.best.length]) := b1
    replace b2 : H' O2.c = some (.cel ((List.range w.n).map fun r => .ptr (F r).o 0)) := b2
    replace hStp : ∀ (H2 : AHeap) (G : Ob), CAt H2 G s.c → TurnK H' (F r) G H2 → ACalls Try.prog 45 [.ptr O.w 0, mI (r : Int), stepA s] H2 fun r' H'' => r' = bB true ∧ ∃ O' F', WAt H'' O' F' w' ∧ TurnW w.n H' O2 F O' F' H'' := hStp
    have hrg : (List.range w.n)[r]? = some r := List.getElem?_range hrn
    have hmc : m.cells = [mI m.kind, mI m.from_, mI (r : Int), .raw (.int .u64 (m.view : Int)), .raw (.int .u64 (m.last : Int)), .raw (.int .u64 (m.op : Int)), .raw (.int .u64 (m.commit : Int)), .sls m.ents.length (m.ents.flatMap En.cells), .bys m.body] := by rw [← hre]; rfl
    rw [hmc] at hGt ⊢
    clear hst hX x2 y1 y2 hc0 hmc hOut hM hmo hre
    (first | focus (refine aw_seq ?_; refine aw_draw2 true auto_kr auto_dk auto_dk ?_; (apply awm_s; · (intro H1; exact s_move (v := .ptr _ _) rfl)); (apply awm_s; · (intro H1; exact s_fieldAddr_pce rfl)); (apply awm_s; · (intro H1; exact s_load_pce rfl auto_idx)); (apply awm_s; · (intro H1; exact s_move (v := .ptr _ _) rfl)); (apply awm_s; · (intro H1; exact s_nilCheck_ptr rfl)); (apply awm_s; · (intro H1; exact s_fieldAddr_ptr rfl)); (apply awm_e auto_dk; (· exact s_load_cel rfl auto_heap rfl)); (apply awm_s; · (intro H1; exact s_fieldAddr_pce rfl)); (apply awm_s; · (intro H1; exact s_load_pce rfl auto_idx)); (apply awm_s; · (intro H1; exact s_indexAddr_vw rfl rfl auto_len)); (apply awm_e auto_dk; (· exact s_load_cel rfl auto_heap auto_idx)); (apply awm_s; · (intro H1; exact s_load_pce_agg rfl rfl rfl (by decide))); refine awm_b ?_; refine awm_b ?_; refine awm_b ?_; refine awm_nil ?_; refine awb_cons (fun Rx K1 hK1x => ?_); (refine zc auto_wl (hGt) ?_; rintro r H' ⟨rfl, G, c1, c2⟩); refine yy7 ?_; (refine hK1x _ _ ?_; clear hK1x K1 Rx); refine awb_cons (fun Rx K1 hK1x => ?_); (refine zc auto_wl (hStp _ _ c1 c2) ?_; rintro r H' ⟨rfl, O3, F3, z1, z2⟩); refine yy7 ?_; (refine hK1x _ _ ?_; clear hK1x K1 Rx); refine awb_cons (fun Rx K1 hK1x => ?_); refine yy31 ?_; refine yy7 ?_; (refine hK1x _ _ ?_; clear hK1x K1 Rx); refine awb_nil ?_; refine yy43 ?_; refine aw_ret ?_; refine yy89 ?_; rotate_left) | fail)
    exact ⟨.inl rfl, _, _, _, Ent.refl _ _, ret1 rfl rfl, rfl, O3, F3, z1, t1.trans z2⟩
  rw [if_neg o2] at hst
  by_cases o3 : a.op = 3
  · rw [if_pos o3] at hst
    by_cases hp : w.packet a
    rotate_left
    · rw [if_neg hp] at hst
      cases hst
      rw [decide_eq_false hp]
      generalize decide (w.there a) = bt at *
      (first | focus (refine yy46 ?_; refine yy54 ?_; refine yy15 ?_; intro hc; refine yy15 ?_; intro hc; refine yy15 ?_; intro hc; refine aw_condp rfl (fun hc => ?_) (fun hc => ?_); refine yy4 ?_; refine yy103 ?_; refine yy66 ?_; refine yy35 ?_; refine yy20 ?_; rotate_left; exact absurd hc auto_no) | fail)
      all_goals try (exfalso; omega)
      all_goals exact ⟨.inl rfl, _, _, _, Ent.refl _ _, ret1 rfl rfl, rfl, O, F, h0, TurnW.refl _ _ _ _⟩
    rw [if_pos hp] at hst
    rw [decide_eq_true hp]
    generalize decide (w.there a) = bt at *
    obtain ⟨k, hke⟩ : ∃ k : Nat, a.k = (k : Int) := ⟨a.k.toNat, by have := hp.1; omega⟩
    have hkl : k < w.l.length := by have := hp.2; omega
    rw [hke, Int.toNat_natCast] at hst
    rw [hke]
    have hgk : w.l[k]? = some w.l[k] := List.getElem?_eq_getElem hkl
    have hOut := out_calls H3 O F w k _ h0 hl4 hgk
    cases hst
    clear hX
    (first | focus (refine yy46 ?_; refine yy54 ?_; refine yy15 ?_; intro hc; refine yy15 ?_; intro hc; refine yy15 ?_; intro hc; refine aw_condp rfl (fun hc => ?_) (fun hc => ?_); refine yy4 ?_; refine yy103 ?_; refine yy18 ?_; refine yy36 ?_; refine yy41 ?_; (refine zc auto_wl (hOut) ?_; rintro r H' ⟨rfl, O2, w1, t1⟩); refine yy7 ?_; refine yy35 ?_; refine yy20 ?_; rotate_left; exact absurd hc auto_no) | fail)
    all_goals try (exfalso; omega)
    all_goals exact ⟨.inl rfl, _, _, _, Ent.refl _ _, ret1 rfl rfl, rfl, O2, F, w1, t1⟩
  rw [if_neg o3] at hst
  by_cases o4 : a.op = 4
  · rw [if_pos o4] at hst
    by_cases hp : w.packet a
    rotate_left
    · rw [if_neg hp] at hst
      cases hst
      rw [decide_eq_false hp]
      generalize decide (w.there a) = bt at *
      (first | focus (refine yy46 ?_; refine yy54 ?_; refine yy15 ?_; intro hc; refine yy15 ?_; intro hc; refine yy15 ?_; intro hc; refine yy15 ?_; intro hc; refine aw_condp rfl (fun hc => ?_) (fun hc => ?_); refine yy51 ?_; refine yy2 ?_; refine yy32 ?_; refine yy61 ?_; refine yy49 ?_; refine yy66 ?_; refine yy35 ?_; refine yy20 ?_; rotate_left; exact absurd hc auto_no) | fail)
      all_goals try (exfalso; omega)
      all_goals exact ⟨.inl rfl, _, _, _, Ent.refl _ _, ret1 rfl rfl, rfl, O, F, h0, TurnW.refl _ _ _ _⟩
    rw [if_pos hp] at hst
    rw [decide_eq_true hp]
    generalize decide (w.there a) = bt at *
    obtain ⟨k, hke⟩ : ∃ k : Nat, a.k = (k : Int) := ⟨a.k.toNat, by have := hp.1; omega⟩
    have hkl : k < w.l.length := by have := hp.2; omega
    rw [hke, Int.toNat_natCast] at hst
    rw [hke]
    have hgk : w.l[k]? = some w.l[k] := List.getElem?_eq_getElem hkl
    have hgm := mg_get hgk
    have hgm0 : ((w.l.flatMap Mg.cells).drop (0 + k * 9)).take 9 = (w.l[k]).cells := by rw [Nat.zero_add]; exact hgm
    have hfl : (w.l.flatMap Mg.cells).length = w.l.length * 9 := flat_len9 w.l
    rw [hgk] at hst
    generalize w.l[k] = m at *
    dsimp only at hst
    by_cases hl : w.l.length < 4000
    rotate_left
    · rw [if_neg hl] at hst
      cases hst
      clear hX
      (first | focus (refine yy46 ?_; refine yy54 ?_; refine yy15 ?_; intro hc; refine yy15 ?_; intro hc; refine yy15 ?_; intro hc; refine yy15 ?_; intro hc; refine aw_condp rfl (fun hc => ?_) (fun hc => ?_); refine yy51 ?_; refine yy19 ?_; refine yy34 ?_; refine yy83 ?_; refine yy33 ?_; refine yy79 ?_; refine yy5 ?_; refine awl_s rfl (s_ltn rfl rfl) ?_; refine yy50 ?_; refine yy86 ?_; intro hc; refine aw_skip ?_; refine yy35 ?_; refine yy20 ?_; rotate_left; exact absurd hc auto_no) | fail)
      all_goals try (exfalso; omega)
      all_goals exact ⟨.inl rfl, _, _, _, Ent.refl _ _, ret1 rfl rfl, rfl, O, F, h0, TurnW.refl _ _ _ _⟩
    rw [if_pos hl] at hst
    cases hst
    clear hX
    have hmc : m.cells = [mI m.kind, mI m.from_, mI m.to, .raw (.int .u64 (m.view : Int)), .raw (.int .u64 (m.last : Int)), .raw (.int .u64 (m.op : Int)), .raw (.int .u64 (m.commit : Int)), .sls m.ents.length (m.ents.flatMap En.cells), .bys m.body] := rfl
    (first | focus (refine yy46 ?_; refine yy54 ?_; refine yy15 ?_; intro hc; refine yy15 ?_; intro hc; refine yy15 ?_; intro hc; refine yy15 ?_; intro hc; refine aw_condp rfl (fun hc => ?_) (fun hc => ?_); refine yy51 ?_; refine yy19 ?_; refine yy34 ?_; refine yy83 ?_; refine yy33 ?_; refine yy79 ?_; refine yy5 ?_; refine awl_s rfl (s_ltn rfl rfl) ?_; refine yy50 ?_; refine aw_condp rfl (fun hc => ?_) (fun hc => ?_); refine aw_draw2 false auto_kr auto_dk auto_dk ?_; (apply awm_s; · (intro H1; exact s_move (v := .ptr _ _) rfl)); (apply awm_s; · (intro H1; exact s_move (v := .ptr _ _) rfl)); (apply awm_s; · (intro H1; exact s_nilCheck_ptr rfl)); (apply awm_s; · (intro H1; exact s_fieldAddr_ptr rfl)); (apply awm_e auto_dk; (· exact s_load_cel rfl auto_heap rfl)); (apply awm_s; · (intro H1; exact s_move (v := .ptr _ _) rfl)); (apply awm_s; · (intro H1; exact s_nilCheck_ptr rfl)); (apply awm_s; · (intro H1; exact s_fieldAddr_ptr rfl)); (apply awm_e auto_dk; (· exact s_load_cel rfl auto_heap rfl)); (apply awm_s; · (intro H1; exact s_fieldAddr_pce rfl)); (apply awm_s; · (intro H1; exact s_load_pce rfl auto_idx)); (apply awm_s; · (intro H1; exact s_indexAddr_vw rfl rfl auto_len)); (apply awm_e auto_dk; (· exact s_load_agg rfl auto_heap (by assumption) (by rfl) auto_len)); (apply awm_s; · (intro H1; exact s_buildSlicev (by ((repeat' (first | exact eqL_nil | apply eqL_cons)); all_goals (first | exact (rfl : _ = AV.raw _) | exact (rfl : _ = AV.bys _) | exact (rfl : _ = AV.vw _ _ _ _) | exact (rfl : _ = AV.ptr _ _) | exact (rfl : _ = AV.str _) | exact (rfl : _ = AV.sls _ _) | exact (rfl : _ = AV.tup _) | exact (rfl : _ = AV.agg _) | exact (rfl : _ = AV.pce _ _) | exact (rfl : _ = AV.emp) | exact (rfl : _ = AV.bysx _) | exact (rfl : _ = AV.slsx _ _) | exact (rfl : _ = AV.mp _) | exact (rfl : _ = AV.fnc _ _ _) | exact (rfl : _ = AV.pby _ _) | exact (rfl : _ = AV.ifc _ _)))) (by rfl) (by rfl) (by rfl) (by ((repeat' (first | exact eqL_nil | apply eqL_cons)); all_goals (first | exact (rfl : _ = AV.raw _) | exact (rfl : _ = AV.bys _) | exact (rfl : _ = AV.vw _ _ _ _) | exact (rfl : _ = AV.ptr _ _) | exact (rfl : _ = AV.str _) | exact (rfl : _ = AV.sls _ _) | exact (rfl : _ = AV.tup _) | exact (rfl : _ = AV.agg _) | exact (rfl : _ = AV.pce _ _) | exact (rfl : _ = AV.emp) | exact (rfl : _ = AV.bysx _) | exact (rfl : _ = AV.slsx _ _) | exact (rfl : _ = AV.mp _) | exact (rfl : _ = AV.fnc _ _ _) | exact (rfl : _ = AV.pby _ _) | exact (rfl : _ = AV.ifc _ _)))) (by decide))); refine awm_b ?_; (apply awm_s; · (intro H1; exact s_nilCheck_ptr rfl)); (apply awm_s; · (intro H1; exact s_fieldAddr_ptr rfl)); refine awm_b0 ?_; refine awm_nil ?_; refine awb_cons (fun Rx K1 hK1x => ?_); refine za4 rfl rfl rfl auto_heap auto_al auto_src auto_len auto_len (fun oN hoN => ?_); refine yy7 ?_; (refine hK1x _ _ ?_; clear hK1x K1 Rx); refine awb_cons0 (fun Rx K1 hK1x => ?_); refine yy72 ?_; (refine hK1x _ ?_; clear hK1x K1 Rx); refine awb_nil ?_; refine yy35 ?_; refine yy20 ?_; rotate_left; exact absurd hc auto_no; exact absurd hc auto_no) | fail)
    all_goals try (exfalso; omega)
    all_goals (
      have hln : (w.l ++ [m]).length = w.l.length + 1 := by simp
      have hcs : (w.l ++ [m]).flatMap Mg.cells = w.l.flatMap Mg.cells ++ m.cells := by simp
      have m1 : oN ≠ O.w := fun x => by rw [x, aw] at hoN; cases hoN
      have m2 : oN ≠ O.l := fun x => by rw [x, al] at hoN; cases hoN
      obtain ⟨z1, z2⟩ := h0.newL (l := w.l ++ [m]) hoN (by rw [hln]; exact AHeap.set_self _ _ _) (by rw [hcs]; exact AHeap.get_skip m1 (AHeap.set_self _ _ _)) (fun p y hp h1 h2 => AHeap.get_skip h1 (AHeap.get_skip (fun e => by rw [e, hoN] at hp; cases hp) (AHeap.get_unerase h2 hp)))
      exact ⟨.inl rfl, _, _, _, Ent.refl _ _, ret1 rfl rfl, rfl, _, _, z1, z2⟩)
  rw [if_neg o4] at hst
  by_cases o5 : a.op = 5
  · rw [if_pos o5] at hst
    by_cases ht : w.there a
    rotate_left
    · rw [if_neg ht] at hst
      cases hst
      rw [decide_eq_false ht]
      generalize decide (w.packet a) = bp at *
      clear hX
      (first | focus (refine yy46 ?_; refine yy54 ?_; refine yy15 ?_; intro hc; refine yy15 ?_; intro hc; refine yy15 ?_; intro hc; refine yy15 ?_; intro hc; refine yy15 ?_; intro hc; refine aw_condp rfl (fun hc => ?_) (fun hc => ?_); refine yy51 ?_; refine yy39 ?_; refine yy2 ?_; refine yy32 ?_; refine yy47 ?_; refine zg5 rfl rfl rfl ?_; refine zg5 rfl rfl rfl ?_; refine zg5 rfl rfl rfl ?_; refine zg5 rfl rfl rfl ?_; refine yy47 ?_; refine yy38 ?_; refine yy9 ?_; refine yy89 ?_; rotate_left; exact absurd hc auto_no) | fail)
      all_goals try (exfalso; omega)
      all_goals exact ⟨.inl rfl, _, _, _, Ent.refl _ _, ret1 rfl rfl, rfl, O, F, h0, TurnW.refl _ _ _ _⟩
    rw [if_pos ht] at hst
    rw [decide_eq_true ht]
    generalize decide (w.packet a) = bp at *
    obtain ⟨r, hre⟩ : ∃ r : Nat, a.r = (r : Int) := ⟨a.r.toNat, by have := ht.1; omega⟩
    have hrn : r < w.n := by have := ht.2; omega
    rw [hre, Int.toNat_natCast] at hst
    rw [hre]
    cases hop : w.opened r with
    | none => rw [hop] at hst; cases hst
    | some w2 =>
    rw [hop, Option.bind_some] at hst
    obtain ⟨d, ho, hw2⟩ := opened_some hop
    obtain ⟨b, htl, hw3⟩ := told_some hst
    have hf := hX.fin (by omega) (by omega)
    have hOp := opened_calls H3 O F w r h0 hrn hn7 hX.odd (hX.sv r hrn) (by have := hX.svl r hrn; omega) ho
    have hdf := (open_fine hrn hn7 (hX.sv r hrn) ho).1
    have hw2c : w2.c r = d := by rw [hw2]; exact Ag.upd_same _ _ _
    have hTo := fun H G h => told_calls H O (Ag.upd F r G) w2 r h (by rw [hw2]; exact hrn) (by rw [hw2]; exact hn7) (by rw [hw2c]; exact hdf) (by rw [hw2]; exact hf.best) (by rw [hw2]; exact hf.ids) (by rw [hw2]; exact hf.row) htl
    rw [← hw2] at hOp
    rw [← hw3] at hTo
    have hn2 : w2.n = w.n := by rw [hw2]
    rw [hn2] at hTo
    clear hst hop ho htl hw2 hw3 hX hf hdf hw2c
    (first | focus (refine yy46 ?_; refine yy54 ?_; refine yy15 ?_; intro hc; refine yy15 ?_; intro hc; refine yy15 ?_; intro hc; refine yy15 ?_; intro hc; refine yy15 ?_; intro hc; refine aw_condp rfl (fun hc => ?_) (fun hc => ?_); refine yy51 ?_; refine yy39 ?_; refine yy19 ?_; refine yy34 ?_; refine yy87 ?_; refine yy5 ?_; refine yy59 ?_; refine yy5 ?_; (refine zc auto_wl (hOp) ?_; rintro r H' ⟨rfl, G, u1, u2⟩); refine yy5 ?_; refine yy19 ?_; refine yy34 ?_; refine yy87 ?_; refine yy5 ?_; refine yy59 ?_; refine yy5 ?_; (refine zc auto_wl (hTo _ _ u1) ?_; rintro r H' ⟨rfl, O3, z1, z2⟩); refine yy5 ?_; refine yy38 ?_; refine yy21 ?_; refine yy9 ?_; refine yy89 ?_; rotate_left; exact absurd hc auto_no) | fail)
    all_goals try (exfalso; omega)
    all_goals exact ⟨.inl rfl, _, _, _, Ent.refl _ _, ret1 rfl rfl, rfl, O3, _, z1, u2.trans z2⟩
  rw [if_neg o5] at hst
  by_cases o6 : a.op = 6
  · rw [if_pos o6] at hst
    by_cases ht : w.there a ∧ 0 ≤ a.k
    rotate_left
    · rw [if_neg ht] at hst
      cases hst
      generalize decide (w.packet a) = bp at *
      clear hX
      by_cases ht1 : w.there a
      · rw [decide_eq_true ht1]
        have ht2 : ¬ 0 ≤ a.k := fun h => ht ⟨ht1, h⟩
        (first | focus (refine yy46 ?_; refine yy54 ?_; refine yy15 ?_; intro hc; refine yy15 ?_; intro hc; refine yy15 ?_; intro hc; refine yy15 ?_; intro hc; refine yy15 ?_; intro hc; refine yy15 ?_; intro hc; refine aw_condp rfl (fun hc => ?_) (fun hc => ?_); refine yy51 ?_; refine yy19 ?_; refine yy87 ?_; refine yy5 ?_; refine yy59 ?_; refine yy5 ?_; refine awl_s rfl (s_geq rfl rfl) ?_; refine yy50 ?_; refine yy86 ?_; intro hc; refine aw_skip ?_; refine yy35 ?_; refine yy20 ?_; rotate_left; exact absurd hc auto_no) | fail)
        all_goals try (exfalso; omega)
        all_goals exact ⟨.inl rfl, _, _, _, Ent.refl _ _, ret1 rfl rfl, rfl, O, F, h0, TurnW.refl _ _ _ _⟩
      · rw [decide_eq_false ht1]
        (first | focus (refine yy46 ?_; refine yy54 ?_; refine yy15 ?_; intro hc; refine yy15 ?_; intro hc; refine yy15 ?_; intro hc; refine yy15 ?_; intro hc; refine yy15 ?_; intro hc; refine yy15 ?_; intro hc; refine aw_condp rfl (fun hc => ?_) (fun hc => ?_); refine yy51 ?_; refine yy2 ?_; refine yy61 ?_; refine yy47 ?_; refine yy49 ?_; refine yy66 ?_; refine yy35 ?_; refine yy20 ?_; rotate_left; exact absurd hc auto_no) | fail)
        all_goals try (exfalso; omega)
        all_goals exact ⟨.inl rfl, _, _, _, Ent.refl _ _, ret1 rfl rfl, rfl, O, F, h0, TurnW.refl _ _ _ _⟩
    rw [if_pos ht] at hst
    cases hst
    obtain ⟨ht1, ht2⟩ := ht
    rw [decide_eq_true ht1]
    generalize decide (w.packet a) = bp at *
    obtain ⟨r, hre⟩ : ∃ r : Nat, a.r = (r : Int) := ⟨a.r.toNat, by have := ht1.1; omega⟩
    have hrn : r < w.n := by have := ht1.2; omega
    obtain ⟨k, hke⟩ : ∃ k : Nat, a.k = (k : Int) := ⟨a.k.toNat, by omega⟩
    rw [hre, hke, Int.toNat_natCast, Int.toNat_natCast]
    clear hX
    (first | focus (refine yy46 ?_; refine yy54 ?_; refine yy15 ?_; intro hc; refine yy15 ?_; intro hc; refine yy15 ?_; intro hc; refine yy15 ?_; intro hc; refine yy15 ?_; intro hc; refine yy15 ?_; intro hc; refine aw_condp rfl (fun hc => ?_) (fun hc => ?_); refine yy51 ?_; refine yy19 ?_; refine yy87 ?_; refine yy5 ?_; refine yy59 ?_; refine yy5 ?_; refine yy96 ?_; refine yy50 ?_; refine aw_condp rfl (fun hc => ?_) (fun hc => ?_); refine yy85 ?_; (apply awt_s; · exact s_move (v := .ptr _ _) rfl); (apply awt_s; · exact s_nilCheck_ptr rfl); (apply awt_s; · exact s_fieldAddr_ptr rfl); (apply awt_s; · exact s_load_cel rfl auto_heap rfl); (apply awt_s; · exact s_fieldAddr_pce rfl); (apply awt_s; · exact s_load_pce rfl auto_idx); (apply awt_s; · exact s_fieldAddr_pce rfl); (apply awt_s; · exact s_load_pce rfl auto_idx); (apply awt_s; · exact s_indexAddr_vw rfl rfl auto_len); refine awt_last ?_; refine yy72 ?_; refine yy35 ?_; refine yy20 ?_; rotate_left; exact absurd hc auto_no; exact absurd hc auto_no) | fail)
    all_goals try (exfalso; omega)
    obtain ⟨z1, z2⟩ := h0.newK r (some k)
    rw [show 0 + r * 1 = r by omega]
    exact ⟨.inl rfl, _, _, _, Ent.refl _ _, ret1 rfl rfl, rfl, O, F, z1, z2⟩
  rw [if_neg o6] at hst
  cases hst
  clear hX
  generalize decide (w.packet a) = bp at *
  generalize decide (w.there a) = bt at *
  (first | focus (refine yy46 ?_; refine yy54 ?_; refine yy15 ?_; intro hc; refine yy15 ?_; intro hc; refine yy15 ?_; intro hc; refine yy15 ?_; intro hc; refine yy15 ?_; intro hc; refine yy15 ?_; intro hc; refine yy86 ?_; intro hc; refine aw_skip ?_; refine yy35 ?_; refine yy20 ?_; rotate_left) | fail)
  all_goals try (exfalso; omega)
  all_goals exact ⟨.inl rfl, _, _, _, Ent.refl _ _, ret1 rfl rfl, rfl, O, F, h0, TurnW.refl _ _ _ _⟩
end Go.Proofs.Ytbciofnejefkiaa

namespace Go.Proofs.Ytbciofnejefkiaa
open Go Go.Am Go.Proofs

open Ag (GOK COK WG MOK SOK LOK)
theorem WX.more {g : Ag.Gh} {w : Ag.W} {q B I q' B' I' : Nat} (h : WX g w q B I) (h1 : q ≤ q') (h2 : B ≤ B') (h3 : I ≤ I') : WX g w q' B' I' :=
  ⟨h.wg, h.odd, fun r hr => Nat.le_trans (h.quiet r hr) h1, h.sv, fun r hr => Nat.le_trans (h.svl r hr) h2, Nat.le_trans h.idl h3, h.row, h.l, h.cut⟩
theorem sm_save {c : Ag.Co} {s : Ag.St} (h : Sm 200 1400 ⟨c, [], []⟩ s) : s.save.length ≤ 200 := by have := h.sv; simp only [List.length_nil] at this; omega
theorem WX.begun {n : Nat} (h1 : 0 < n) (h7 : n ≤ 7) (h2 : n % 2 = 1) : WX ⟨n, fun _ => 0, fun _ v => if v = 0 then some [] else none, fun _ => 0, []⟩ (Ag.W.begun n) 0 0 0 :=
  ⟨Ag.begun_ok h1 h7, h2, fun r hr => Nat.le_refl _, fun r hr x hx => (by cases hx), fun r hr => Nat.le_refl _, Nat.le_refl _, fun x hx => (by cases hx), Nat.zero_le _, fun r k hk => (by cases hk)⟩
end Go.Proofs.Ytbciofnejefkiaa

namespace Go.Proofs.Ytbciofnejefkiaa
open Go Go.Am Go.Proofs

structure BAt (H0 H : AHeap) (O : Wo) (F : Nat → Ob) (n i : Nat) : Prop where
  aw : H O.w = some (.cel [mI n, .vw O.c 1 0 i, .vw O.s 1 0 i, .vw O.k 1 0 i, .vw O.l 9 0 0, .vw O.i 1 0 0, .vw O.r 1 0 0, .vw O.b 3 0 0])
  ac : H O.c = some (.cel ((List.range i).map fun r => .ptr (F r).o 0))
  asv : H O.s = some (.cel ((List.range i).map fun r => svA r n []))
  ak : H O.k = some (.cel ((List.range i).map fun r => cutA none))
  al : H O.l = some (.cel [])
  ai : H O.i = some (.cel [])
  ar : H O.r = some (.cel [])
  ab : H O.b = some (.cel [])
  nd : O.l'.Nodup
  co : ∀ r, r < i → CAt H (F r) (Ag.Co.new r n)
  ndC : ∀ r, r < i → NdC (F r)
  ap : ∀ r, r < i → ∀ p ∈ (F r).c, p ∉ O.l'
  rr : ∀ r s, r < i → s < i → r ≠ s → ∀ p ∈ (F r).c, p ∉ (F s).c
  f1 : ∀ p ∈ O.l', H0 p = none
  f2 : ∀ r, r < i → ∀ p ∈ (F r).c, H0 p = none
  fr : ∀ p y, H0 p = some y → H p = some y
theorem BAt.live {H0 H : AHeap} {O : Wo} {F : Nat → Ob} {n i : Nat} (h : BAt H0 H O F n i) : ∀ p ∈ O.l', ∃ y, H p = some y := fun p hd => by
  simp only [Wo.l', List.mem_cons, List.not_mem_nil, or_false] at hd
  rcases hd with e | e | e | e | e | e | e | e <;> rw [e]
  · exact ⟨_, h.aw⟩
  · exact ⟨_, h.ac⟩
  · exact ⟨_, h.asv⟩
  · exact ⟨_, h.ak⟩
  · exact ⟨_, h.al⟩
  · exact ⟨_, h.ai⟩
  · exact ⟨_, h.ar⟩
  · exact ⟨_, h.ab⟩
theorem BAt.done {H0 H : AHeap} {O : Wo} {F : Nat → Ob} {n : Nat} (h : BAt H0 H O F n n) : WAt H O F (Ag.W.begun n) ∧ (∀ p, Dom O F n p → H0 p = none) :=
  ⟨⟨h.aw, h.ac, h.asv, h.ak, h.al, h.ai, h.ar, h.ab, h.nd, h.co, h.ndC, h.ap, h.rr⟩, fun p hp => by
    rcases hp with hp | ⟨r, hr, hp⟩
    · exact h.f1 p hp
    · exact h.f2 r hr p hp⟩
theorem aw_own_gen {P : Program} {n : Nat} {K : Exit → Regs → AHeap → Prop} {R : Regs} {H : AHeap} {c : Code} {o : Nat} {xs : List AV} (k sz : Nat) (hH : H o = some (.cel xs)) (hk : xs[k]? = some (.raw (.slice none 0 0)))
    (h : ∀ H2 ow, H ow = none → H2 o = some (.cel (xs.set k (.vw ow sz 0 0))) → H2 ow = some (.cel []) → (∀ p y, H p = some y → p ≠ o → H2 p = some y) → AW P n c K R H2) : AW P n c K R H := by
  refine aw_own_cell k sz hH hk fun ow how => ?_
  have hne : o ≠ ow := fun e => by rw [← e, hH] at how; cases how
  exact h _ ow how (AHeap.get_skip hne (AHeap.set_self _ _ _)) (AHeap.set_self _ _ _) fun p y hp hn => AHeap.get_skip (fun e => by rw [e, how] at hp; cases hp) (AHeap.get_skip hn hp)
theorem aw_world {P : Program} {m : Nat} {K : Exit → Regs → AHeap → Prop} {R : Regs} {H H0 : AHeap} {c : Code} {oN n : Nat} (F : Nat → Ob) (hN : H0 oN = none) (hH : H oN = some (.cel [mI n, .raw (.slice none 0 0), .raw (.slice none 0 0), .raw (.slice none 0 0), .raw (.slice none 0 0), .raw (.slice none 0 0), .raw (.slice none 0 0), .raw (.slice none 0 0)])) (hfr : ∀ p y, H0 p = some y → H p = some y)
    (h : ∀ H1 O, O.w = oN → BAt H0 H1 O F n 0 → AW P m c K R H1) : AW P m c K R H := by
  have hup : ∀ {H H' : AHeap} {p : Nat}, (∀ p y, H p = some y → p ≠ oN → H' p = some y) → p ≠ oN → H' p = none → H p = none := fun hf hn hp => by
    rename_i H H' p
    cases hx : H p with
    | none => rfl
    | some y => rw [hf _ _ hx hn] at hp; cases hp
  have hne : ∀ {H : AHeap} {p q : Nat} {y : AO}, H p = some y → H q = none → p ≠ q := fun a b e => by rw [e, b] at a; cases a
  have h0 : ∀ {H : AHeap} {p : Nat}, (∀ p y, H0 p = some y → H p = some y) → H p = none → H0 p = none := fun hf hp => by
    rename_i H p
    cases hx : H0 p with
    | none => rfl
    | some y => rw [hf _ _ hx] at hp; cases hp
  have hfn : ∀ {p : Nat} {y : AO}, H0 p = some y → p ≠ oN := fun a e => by rw [e, hN] at a; cases a
  refine aw_own_gen 1 1 hH rfl fun H1 o1 a1 b1 c1 d1 => ?_
  have e1 : ∀ p y, H0 p = some y → H1 p = some y := fun p y hp => d1 p y (hfr p y hp) (hfn hp)
  refine aw_own_gen 2 1 b1 rfl fun H2 o2 a2 b2 c2 d2 => ?_
  have e2 : ∀ p y, H0 p = some y → H2 p = some y := fun p y hp => d2 p y (e1 p y hp) (hfn hp)
  have n1 := hne hH a1
  have g1 := d2 _ _ c1 n1.symm
  refine aw_own_gen 3 1 b2 rfl fun H3 o3 a3 b3 c3 d3 => ?_
  have e3 : ∀ p y, H0 p = some y → H3 p = some y := fun p y hp => d3 p y (e2 p y hp) (hfn hp)
  have n2 := hne b1 a2
  have g2 := d3 _ _ c2 n2.symm
  have h1 := d3 _ _ g1 n1.symm
  refine aw_own_gen 4 9 b3 rfl fun H4 o4 a4 b4 c4 d4 => ?_
  have e4 : ∀ p y, H0 p = some y → H4 p = some y := fun p y hp => d4 p y (e3 p y hp) (hfn hp)
  have n3 := hne b2 a3
  have g3 := d4 _ _ c3 n3.symm
  have h2 := d4 _ _ g2 n2.symm
  have i1 := d4 _ _ h1 n1.symm
  refine aw_own_gen 5 1 b4 rfl fun H5 o5 a5 b5 c5 d5 => ?_
  have e5 : ∀ p y, H0 p = some y → H5 p = some y := fun p y hp => d5 p y (e4 p y hp) (hfn hp)
  have n4 := hne b3 a4
  have g4 := d5 _ _ c4 n4.symm
  have h3 := d5 _ _ g3 n3.symm
  have i2 := d5 _ _ h2 n2.symm
  have j1 := d5 _ _ i1 n1.symm
  refine aw_own_gen 6 1 b5 rfl fun H6 o6 a6 b6 c6 d6 => ?_
  have e6 : ∀ p y, H0 p = some y → H6 p = some y := fun p y hp => d6 p y (e5 p y hp) (hfn hp)
  have n5 := hne b4 a5
  have g5 := d6 _ _ c5 n5.symm
  have h4 := d6 _ _ g4 n4.symm
  have i3 := d6 _ _ h3 n3.symm
  have j2 := d6 _ _ i2 n2.symm
  have k1 := d6 _ _ j1 n1.symm
  refine aw_own_gen 7 3 b6 rfl fun H7 o7 a7 b7 c7 d7 => ?_
  have e7 : ∀ p y, H0 p = some y → H7 p = some y := fun p y hp => d7 p y (e6 p y hp) (hfn hp)
  have n6 := hne b5 a6
  have n7 := hne b6 a7
  have g6 := d7 _ _ c6 n6.symm
  have h5 := d7 _ _ g5 n5.symm
  have i4 := d7 _ _ h4 n4.symm
  have j3 := d7 _ _ i3 n3.symm
  have k2 := d7 _ _ j2 n2.symm
  have l1 := d7 _ _ k1 n1.symm
  refine h H7 ⟨oN, o1, o2, o3, o4, o5, o6, o7⟩ rfl ⟨b7, l1, k2, j3, i4, h5, g6, c7, Wo.nd ⟨n1, n2, n3, n4, n5, n6, n7, hne c1 a2, hne g1 a3, hne h1 a4, hne i1 a5, hne j1 a6, hne k1 a7, hne c2 a3, hne g2 a4, hne h2 a5, hne i2 a6, hne j2 a7, hne c3 a4, hne g3 a5, hne h3 a6, hne i3 a7, hne c4 a5, hne g4 a6, hne h4 a7, hne c5 a6, hne g5 a7, hne c6 a7⟩, fun r hr => absurd hr (Nat.not_lt_zero _), fun r hr => absurd hr (Nat.not_lt_zero _), fun r hr => absurd hr (Nat.not_lt_zero _), fun r s hr => absurd hr (Nat.not_lt_zero _), fun p hp => ?_, fun r hr => absurd hr (Nat.not_lt_zero _), e7⟩
  simp only [Wo.l', List.mem_cons, List.not_mem_nil, or_false] at hp
  rcases hp with e | e | e | e | e | e | e | e <;> rw [e]
  · exact hN
  · exact h0 hfr a1
  · exact h0 e1 a2
  · exact h0 e2 a3
  · exact h0 e3 a4
  · exact h0 e4 a5
  · exact h0 e5 a6
  · exact h0 e6 a7
theorem CAt.mono {H H' : AHeap} {F : Ob} {c : Ag.Co} (h : CAt H F c) (fr : ∀ p ∈ F.c, ∀ y, H p = some y → H' p = some y) : CAt H' F c := by
  obtain ⟨⟨off, xs, hco, hw, hx1, hx2⟩, ⟨eg, hg, hg2⟩, ⟨eh, hh, hh2⟩⟩ := h
  exact ⟨⟨off, xs, fr _ (by simp [Ob.c]) _ hco, fr _ (by simp [Ob.c]) _ hw, hx1, hx2⟩, ⟨eg, fr _ (by simp [Ob.c]) _ hg, hg2⟩, ⟨eh, fr _ (by simp [Ob.c]) _ hh, hh2⟩⟩
theorem rng_snoc {α : Type} (f : Nat → α) (i : Nat) : (List.range (i + 1)).map f = (List.range i).map f ++ [f i] := by
  rw [List.range_succ, List.map_append]; rfl
theorem begun_calls (H : AHeap) (n : Nat) (h1 : 0 < n) (h7 : n ≤ 7) (h2 : n % 2 = 1) :
    ACalls Try.prog 20 [mI (n : Int)] H fun r H' => ∃ O F, r = .ptr O.w 0 ∧ WAt H' O F (Ag.W.begun n) ∧ (∀ p, Dom O F n p → H p = none) ∧ ∀ p y, H p = some y → H' p = some y := by
  refine acalls_of_aw1 Try.func20 rfl (by decide) ?_
  (first | focus (refine yy42 ?_; refine yy2 ?_; refine yy76 ?_; refine zb1 rfl rfl rfl (fun oN hoN => ?_); refine yy93 ?_; refine yy3 ?_; refine yy13 ?_; refine yy6 ?_; refine aw_block ?_; rotate_left) | fail)
  refine aw_world (oN := oN) (n := n) (fun _ => ⟨0, 0, 0, 0, 0, 0, 0⟩) hoN (AHeap.set_self _ _ _) (fun p y hp => AHeap.get_skip (fun e => by rw [e, hoN] at hp; cases hp) hp) fun H1 O e0 b0 => ?_
  subst e0
  refine aw_loop (fun mm R' H2 => ∃ (i : Nat) (O2 : Wo) (F : Nat → Ob), O2.w = O.w ∧ R' = [(0, mI n), (3, .ptr O.w 0), (4, .raw (.int .i64 (i : Int)))] ∧ BAt H H2 O2 F n i ∧ i + mm = n) ?_ ?_
  · exact ⟨n, _, _, auto_ent, 0, O, _, rfl, rfl, b0, by omega⟩
  clear b0 hoN H1
  rintro mm R0 H2 ⟨i, O2, F, ew, rfl, hB, hi⟩
  by_cases hlt : i < n
  rotate_left
  · obtain rfl : i = n := by omega
    (first | focus (refine yy11 ?_; refine yy2 ?_; refine yy40 ?_; refine yy28 ?_; intro hc; refine yy23 ?_; refine yy93 ?_; refine yy26 ?_; rotate_left) | fail)
    all_goals try (exfalso; omega)
    obtain ⟨z1, z2⟩ := hB.done
    exact ⟨.inl rfl, _, _, _, Ent.refl _ _, ret1 rfl rfl, O2, F, by rw [ew]; rfl, z1, z2, hB.fr⟩
  have hN := New_calls H2 i n hlt h7 h2
  (first | focus (refine yy11 ?_; refine yy2 ?_; refine yy40 ?_; refine aw_condp rfl (fun hc => ?_) (fun hc => ?_); refine yy22 ?_; refine yy2 ?_; refine yy2 ?_; (refine zc auto_wl (hN) ?_; rintro r H' ⟨G, rfl, a1, a2, a3, a4⟩); refine yy73 ?_; refine yy93 ?_; refine yy6 ?_; refine yy11 ?_; refine yy70 ?_; refine yy2 ?_; refine zg2 rfl rfl rfl (fun hc => ?_) (fun hc => ?_); exact absurd hc auto_no; refine yy34 ?_; refine awl_s rfl (s_ptr_eqnil rfl rfl) ?_; refine yy49 ?_; refine yy77 ?_; rotate_left; exact absurd hc auto_no) | fail)
  all_goals try (exfalso; omega)
  have hB' := hB
  obtain ⟨aw, ac, asv, ak, al, ai, ar, ab, nd, co, ndC, ap, rr, f1, f2, fr⟩ := hB
  rw [ew] at aw
  obtain ⟨d1, d2, d3, d4, d5, d6, d7, d8, d9, d10, d11, d12, d13, d14, d15, d16, d17, d18, d19, d20, d21, d22, d23, d24, d25, d26, d27, d28⟩ := Wo.ne nd
  rw [ew] at d1 d2 d3 d4 d5 d6 d7
  have e1 := a4 _ _ aw
  have e2 := a4 _ _ ac
  have e3 := a4 _ _ asv
  have e4 := a4 _ _ ak
  have l1 : ((List.range i).map fun r => AV.ptr (F r).o 0).length = i := by simp
  have l2 : ((List.range i).map fun r => svA r n []).length = i := by simp
  have l3 : ((List.range i).map fun r => cutA none).length = i := by simp
  (first | focus (refine yy23 ?_; refine yy8 ?_; refine yy17 ?_; refine yy91 ?_; refine za4 rfl rfl rfl auto_heap auto_al auto_src auto_len auto_len (fun oN hoN => ?_); refine yy60 ?_; refine yy58 ?_; refine yy3 ?_; rotate_left) | fail)
  have hoC := hoN
  generalize hqq : oN = oC at *
  clear hqq hoN oN
  have m1 : O.w ≠ oC := fun e => by rw [← e, e1] at hoC; cases hoC
  have m2 : O2.c ≠ oC := fun e => by rw [← e, e2] at hoC; cases hoC
  refine aw_gen (fun H3 => H3 O.w = some (.cel [mI n, .vw oC 1 0 (i + 1), .vw O2.s 1 0 i, .vw O2.k 1 0 i, .vw O2.l 9 0 0, .vw O2.i 1 0 0, .vw O2.r 1 0 0, .vw O2.b 3 0 0]) ∧ H3 oC = some (.cel (((List.range i).map fun r => AV.ptr (F r).o 0) ++ [.ptr G.o 0])) ∧ ∀ p y, H' p = some y → p ≠ O.w → p ≠ O2.c → H3 p = some y) ⟨by exact auto_heap, by exact auto_heap, fun p y hp h1 h2 => by
    have h3 : p ≠ oC := fun e => by rw [e, hoC] at hp; cases hp
    exact auto_heap⟩ ?_
  rintro H3 ⟨p1, p2, p3⟩
  have e5 := p3 _ _ e3 d2.symm d8.symm
  have e6 := p3 _ _ e4 d3.symm d9.symm
  (first | focus (refine yy23 ?_; refine yy8 ?_; refine yy91 ?_; refine za4 rfl rfl rfl auto_heap auto_al auto_src auto_len auto_len (fun oN hoN => ?_); refine yy60 ?_; refine yy58 ?_; refine yy3 ?_; rotate_left) | fail)
  have hoS := hoN
  generalize hqq : oN = oS at *
  clear hqq hoN oN
  have m3 : O.w ≠ oS := fun e => by rw [← e, p1] at hoS; cases hoS
  have m4 : O2.s ≠ oS := fun e => by rw [← e, e5] at hoS; cases hoS
  have m5 : oC ≠ oS := fun e => by rw [← e, p2] at hoS; cases hoS
  refine aw_gen (fun H4 => H4 O.w = some (.cel [mI n, .vw oC 1 0 (i + 1), .vw oS 1 0 (i + 1), .vw O2.k 1 0 i, .vw O2.l 9 0 0, .vw O2.i 1 0 0, .vw O2.r 1 0 0, .vw O2.b 3 0 0]) ∧ H4 oS = some (.cel (((List.range i).map fun r => svA r n []) ++ [.raw (.slice none 0 0)])) ∧ ∀ p y, H3 p = some y → p ≠ O.w → p ≠ O2.s → H4 p = some y) ⟨by exact auto_heap, by exact auto_heap, fun p y hp h1 h2 => by
    have h3 : p ≠ oS := fun e => by rw [e, hoS] at hp; cases hp
    exact auto_heap⟩ ?_
  rintro H4 ⟨q1, q2, q3⟩
  have e7 := q3 _ _ e6 d3.symm d14.symm
  refine aw_ent (R' := [(0, mI n), (3, .ptr O.w 0), (4, .raw (.int .i64 (i : Int)))]) (H' := H4.set oS (.cel (((List.range i).map fun r => svA r n []) ++ [.sls 0 []]))) ((Ent.wcelH (heap_id q2).symm (wc_app (wc_refl _) (WC.cons (W.nils rfl) WC.nil))).trans (Ent.sub _ (by (repeat' (first | exact RSub.nil _ | apply RSub.cons)); all_goals rfl))) ?_
  refine aw_gen (fun H5 => H5 O.w = some (.cel [mI n, .vw oC 1 0 (i + 1), .vw oS 1 0 (i + 1), .vw O2.k 1 0 i, .vw O2.l 9 0 0, .vw O2.i 1 0 0, .vw O2.r 1 0 0, .vw O2.b 3 0 0]) ∧ H5 oS = some (.cel (((List.range i).map fun r => svA r n []) ++ [svA i n []])) ∧ H5 O2.k = some (.cel ((List.range i).map fun r => cutA none)) ∧ ∀ p y, H3 p = some y → p ≠ O.w → p ≠ O2.s → H5 p = some y) ⟨AHeap.get_skip m3 q1, AHeap.set_self _ _ _, AHeap.get_skip (fun e => by rw [e] at e6; rw [e6] at hoS; cases hoS) e7, fun p y hp h1 h2 => AHeap.get_skip (fun e => by rw [e, hoS] at hp; cases hp) (q3 p y hp h1 h2)⟩ ?_
  clear q1 q2 q3 e7 H4
  rintro H5 ⟨q1, q2, q4, q3⟩
  (first | focus (refine yy36 ?_; refine yy8 ?_; refine yy91 ?_; refine za4 rfl rfl rfl auto_heap auto_al auto_src auto_len auto_len (fun oN hoN => ?_); refine yy60 ?_; refine yy72 ?_; refine yy71 ?_; refine yy78 ?_; refine yy6 ?_; rotate_left) | fail)
  all_goals try (exfalso; omega)
  have m6 : O.w ≠ oN := fun e => by rw [← e, q1] at hoN; cases hoN
  have m7 : O2.k ≠ oN := fun e => by rw [← e, q4] at hoN; cases hoN
  have m8 : oS ≠ oN := fun e => by rw [← e, q2] at hoN; cases hoN
  have hkeep : ∀ p y, H' p = some y → p ≠ O.w → p ≠ O2.c → p ≠ O2.s → p ≠ O2.k → (((H5.erase O2.k).set oN (.cel (((List.range i).map fun r => cutA none) ++ [.raw (.int .i64 (-1))]))).set O.w (.cel [mI n, .vw oC 1 0 (i + 1), .vw oS 1 0 (i + 1), .vw oN 1 0 (i + 1), .vw O2.l 9 0 0, .vw O2.i 1 0 0, .vw O2.r 1 0 0, .vw O2.b 3 0 0])) p = some y ∧ p ≠ oC ∧ p ≠ oS ∧ p ≠ oN := fun p y hp h1 h2 h3 h4 => by
    have x1 := p3 p y hp h1 h2
    have x2 := q3 p y x1 h1 h3
    have y1 : p ≠ oC := fun e => by rw [e, hoC] at hp; cases hp
    have y2 : p ≠ oS := fun e => by rw [e, hoS] at x1; cases x1
    have y3 : p ≠ oN := fun e => by rw [e, hoN] at x2; cases x2
    exact ⟨AHeap.get_skip h1 (AHeap.get_skip y3 (AHeap.get_unerase h4 x2)), y1, y2, y3⟩
  have hoCk : oC ≠ O2.k := fun e => by rw [e, e4] at hoC; cases hoC
  have hoCs : oC ≠ O2.s := fun e => by rw [e, e3] at hoC; cases hoC
  have p4 := q3 _ _ p2 m1.symm hoCs
  have m9 : oC ≠ oN := fun e => by rw [← e, p4] at hoN; cases hoN
  have hoSk : oS ≠ O2.k := fun e => by rw [e, e6] at hoS; cases hoS
  -- what is new was not there
  have hn2 : ∀ p, H' p = none → H p = none := fun p hp => by
    cases hx : H p with
    | none => rfl
    | some y => rw [a4 _ _ (fr _ _ hx)] at hp; cases hp
  have hn3 : ∀ p, H3 p = none → H p = none := fun p hp => by
    cases hx : H p with
    | none => rfl
    | some y =>
      have x0 : p ∉ O2.l' := fun hx2 => by rw [f1 p hx2] at hx; cases hx
      rw [p3 _ _ (a4 _ _ (fr _ _ hx)) (fun e => x0 (by rw [e, ← ew]; simp [Wo.l'])) (fun e => x0 (by rw [e]; simp [Wo.l']))] at hp; cases hp
  have hn5 : ∀ p, H5 p = none → H p = none := fun p hp => by
    cases hx : H p with
    | none => rfl
    | some y =>
      have x0 : p ∉ O2.l' := fun hx2 => by rw [f1 p hx2] at hx; cases hx
      rw [q3 _ _ (p3 _ _ (a4 _ _ (fr _ _ hx)) (fun e => x0 (by rw [e, ← ew]; simp [Wo.l'])) (fun e => x0 (by rw [e]; simp [Wo.l']))) (fun e => x0 (by rw [e, ← ew]; simp [Wo.l'])) (fun e => x0 (by rw [e]; simp [Wo.l']))] at hp; cases hp
  have hGl : ∀ p ∈ G.c, p ∉ O2.l' := fun p hp hx => by
    obtain ⟨y, hy⟩ := hB'.live p hx
    rw [a3 p hp] at hy; cases hy
  have hGn : ∀ p ∈ G.c, H p = none := fun p hp => by
    cases hx : H p with
    | none => rfl
    | some y => have := fr _ _ hx; rw [a3 p hp] at this; cases this
  have hout : ∀ p, p ∉ O2.l' → p ≠ O.w ∧ p ≠ O2.c ∧ p ≠ O2.s ∧ p ≠ O2.k := fun p hp => ⟨fun e => hp (by rw [e, ← ew]; simp [Wo.l']), fun e => hp (by rw [e]; simp [Wo.l']), fun e => hp (by rw [e]; simp [Wo.l']), fun e => hp (by rw [e]; simp [Wo.l'])⟩
  have hcx : ∀ {K : Ob} {d : Ag.Co}, CAt H' K d → (∀ p ∈ K.c, p ∉ O2.l') → CAt (((H5.erase O2.k).set oN (.cel (((List.range i).map fun r => cutA none) ++ [.raw (.int .i64 (-1))]))).set O.w (.cel [mI n, .vw oC 1 0 (i + 1), .vw oS 1 0 (i + 1), .vw oN 1 0 (i + 1), .vw O2.l 9 0 0, .vw O2.i 1 0 0, .vw O2.r 1 0 0, .vw O2.b 3 0 0])) K d ∧ ∀ p ∈ K.c, p ∉ [O.w, oC, oS, oN, O2.l, O2.i, O2.r, O2.b] := fun h1 h2 => by
    refine ⟨h1.mono fun p hp y hy => ?_, fun p hp hx => ?_⟩
    · obtain ⟨z1, z2, z3, z4⟩ := hout p (h2 p hp)
      exact (hkeep p y hy z1 z2 z3 z4).1
    · obtain ⟨y, hy⟩ := h1.live p hp
      obtain ⟨z1, z2, z3, z4⟩ := hout p (h2 p hp)
      obtain ⟨_, w1, w2, w3⟩ := hkeep p y hy z1 z2 z3 z4
      simp only [List.mem_cons, List.not_mem_nil, or_false] at hx
      rcases hx with e | e | e | e | e | e | e | e
      · exact z1 e
      · exact w1 e
      · exact w2 e
      · exact w3 e
      · exact h2 p hp (by rw [e]; simp [Wo.l'])
      · exact h2 p hp (by rw [e]; simp [Wo.l'])
      · exact h2 p hp (by rw [e]; simp [Wo.l'])
      · exact h2 p hp (by rw [e]; simp [Wo.l'])
  obtain ⟨kl1, kl2, kl3, kl4⟩ := hkeep _ _ (a4 _ _ al) d4.symm d10.symm d15.symm d19.symm
  obtain ⟨ki1, ki2, ki3, ki4⟩ := hkeep _ _ (a4 _ _ ai) d5.symm d11.symm d16.symm d20.symm
  obtain ⟨kr1, kr2, kr3, kr4⟩ := hkeep _ _ (a4 _ _ ar) d6.symm d12.symm d17.symm d21.symm
  obtain ⟨kb1, kb2, kb3, kb4⟩ := hkeep _ _ (a4 _ _ ab) d7.symm d13.symm d18.symm d22.symm
  have hold : ∀ r, r < i → Ag.upd F i G r = F r := fun r hr => Ag.upd_other _ _ (by omega)
  have hmapF : ((List.range i).map fun r => AV.ptr (F r).o 0) = (List.range i).map fun r => AV.ptr (Ag.upd F i G r).o 0 := List.map_congr_left fun r hr => by rw [hold r (List.mem_range.1 hr)]
  refine ⟨mm - 1, _, _, by omega, auto_entg, i + 1, ⟨O.w, oC, oS, oN, O2.l, O2.i, O2.r, O2.b⟩, Ag.upd F i G, rfl, rfl, ⟨AHeap.set_self _ _ _, ?_, ?_, ?_, kl1, ki1, kr1, kb1, Wo.nd ⟨m1, m3, m6, d4, d5, d6, d7, m5, m9, kl2.symm, ki2.symm, kr2.symm, kb2.symm, m8, kl3.symm, ki3.symm, kr3.symm, kb3.symm, kl4.symm, ki4.symm, kr4.symm, kb4.symm, d23, d24, d25, d26, d27, d28⟩, fun r hr => ?_, fun r hr => ?_, fun r hr => ?_, fun r s hr hs hne p hp hps => ?_, fun p hp => ?_, fun r hr p hp => ?_, fun p y hp => ?_⟩, by omega⟩
  · rw [rng_snoc, Ag.upd_same, ← hmapF]
    exact AHeap.get_skip m1.symm (AHeap.get_skip m9 (AHeap.get_unerase hoCk p4))
  · rw [rng_snoc]
    exact AHeap.get_skip m3.symm (AHeap.get_skip m8 (AHeap.get_unerase hoSk q2))
  · rw [rng_snoc]
    exact AHeap.get_skip m6.symm (AHeap.set_self _ _ _)
  · rcases Nat.lt_succ_iff_lt_or_eq.1 hr with h | rfl
    · rw [hold r h]; exact (hcx ((co r h).ext a4) (ap r h)).1
    · rw [Ag.upd_same]; exact (hcx a1 hGl).1
  · rcases Nat.lt_succ_iff_lt_or_eq.1 hr with h | rfl
    · rw [hold r h]; exact ndC r h
    · rw [Ag.upd_same]; exact a2
  · rcases Nat.lt_succ_iff_lt_or_eq.1 hr with h | rfl
    · rw [hold r h]; exact (hcx ((co r h).ext a4) (ap r h)).2
    · rw [Ag.upd_same]; exact (hcx a1 hGl).2
  · rcases Nat.lt_succ_iff_lt_or_eq.1 hr with h | rfl
    · rw [hold r h] at hp
      rcases Nat.lt_succ_iff_lt_or_eq.1 hs with h' | rfl
      · rw [hold s h'] at hps; exact rr r s h h' hne p hp hps
      · rw [Ag.upd_same] at hps
        obtain ⟨y, hy⟩ := (co r h).live p hp
        rw [a3 p hps] at hy; cases hy
    · rw [Ag.upd_same] at hp
      rcases Nat.lt_succ_iff_lt_or_eq.1 hs with h' | rfl
      · rw [hold s h'] at hps
        obtain ⟨y, hy⟩ := (co s h').live p hps
        rw [a3 p hp] at hy; cases hy
      · exact hne rfl
  · simp only [Wo.l', List.mem_cons, List.not_mem_nil, or_false] at hp
    rcases hp with e | e | e | e | e | e | e | e <;> rw [e]
    · rw [← ew]; exact f1 _ (by simp [Wo.l'])
    · exact hn2 _ hoC
    · exact hn3 _ hoS
    · exact hn5 _ hoN
    · exact f1 _ (by simp [Wo.l'])
    · exact f1 _ (by simp [Wo.l'])
    · exact f1 _ (by simp [Wo.l'])
    · exact f1 _ (by simp [Wo.l'])
  · rcases Nat.lt_succ_iff_lt_or_eq.1 hr with h | rfl
    · rw [hold r h] at hp; exact f2 r h p hp
    · rw [Ag.upd_same] at hp; exact hGn p hp
  · have x0 : p ∉ O2.l' := fun hx2 => by rw [f1 p hx2] at hp; cases hp
    obtain ⟨z1, z2, z3, z4⟩ := hout p x0
    exact (hkeep p y (a4 _ _ (fr _ _ hp)) z1 z2 z3 z4).1
end Go.Proofs.Ytbciofnejefkiaa

namespace Go.Proofs.Ytbciofnejefkiaa
open Go Go.Am Go.Proofs

structure ActOK (a : Ag.Act) : Prop where
  ok : a.Ok
  op : b64 a.op
  r : b64 a.r
  k : b64 a.k
  row : a.row.length ≤ 100000000
end Go.Proofs.Ytbciofnejefkiaa

namespace Go.Proofs.Ytbciofnejefkiaa
open Go Go.Am Go.Proofs

namespace Ag
def foldO {β α : Type} (f : β → α → Option β) : β → List α → Option β
  | b, [] => some b
  | b, a :: l => (f b a).bind fun b => foldO f b l
noncomputable def W.tickR (up : Nat → Bool) (w : W) (r : Nat) : Option W := if up r = true then w.step r (w.c r).tick else some w
noncomputable def W.hearM (up : Nat → Bool) (w : W) (m : Mg) : Option W := if up m.from_.toNat = true ∧ up m.to.toNat = true then w.step m.to.toNat ((w.c m.to.toNat).get m) else some w
noncomputable def W.round (up : Nat → Bool) (w : W) : Option W := (foldO (W.tickR up) w (List.range w.n)).bind fun w1 => foldO (W.hearM up) { w1 with l := [] } w1.l
theorem step_ok' {g g' : Gh} {w : W} (h : WG g w) {r : Nat} (hr : r < w.n) (hk : w.cut r = none) {s : St} (hs : SOK g r (base (w.c r)) g' s) :
    ∃ w', w.step r s = some w' ∧ WG g' w' := by
  unfold W.step
  dsimp only
  rw [hk]
  dsimp only
  have hw := h.turn hr hs.le hs.only hs.gok hs.cok hs.me hs.disk
  have hn : g'.n = w.n := hs.le.n.trans h.n
  rw [if_pos (fun m hm => by
    obtain ⟨h1, h2⟩ := hs.send m hm
    exact ⟨h1.good (by rw [hn]; exact h.n7), h2, by rw [← h2]; exact h1.ne, h1.to.1, by have := h1.to.2; rw [hn] at this; exact this⟩)]
  have hw3 : WG g' { w with c := upd w.c r s.c, saved := upd w.saved r (w.saved r ++ s.save), l := s.send.foldl addL w.l } := ⟨hw.gok, hw.n, hw.n7, hw.S, hw.c, hw.disk, fun m hm => by
    rcases addL_mem hm with h | h
    · exact hw.l m h
    · exact (hs.send m h).1, hw.best⟩
  obtain ⟨b, t1, t2⟩ := told_ok hw3 hr
  exact ⟨_, t1, t2⟩
end Ag
open Ag (GOK COK WG MOK SOK LOK)
theorem WX.step1 {g g' : Ag.Gh} {w : Ag.W} {q q' B I r : Nat} {s : Ag.St} (h : WX g w q B I) (hr : r < w.n) (hk : w.cut r = none) (hs : SOK g r (Ag.base (w.c r)) g' s) (hsv : RS' s) (hsl : s.save.length ≤ 200) (hq : s.c.quiet ≤ q') (hqq : q ≤ q') :
    ∃ w', w.step r s = some w' ∧ WX g' w' q' (B + 200) I ∧ w'.n = w.n ∧ w'.ids = w.ids := by
  obtain ⟨w', g'', e, hw, hn, hi⟩ := h.step hr hs hsv hsl hq hqq
  obtain ⟨w2, e2, h2⟩ := Ag.step_ok' h.wg hr hk hs
  rw [e] at e2
  obtain rfl := Option.some.inj e2
  exact ⟨w', e, ⟨h2, hw.odd, hw.quiet, hw.sv, hw.svl, hw.idl, hw.row, hw.l, hw.cut⟩, hn, hi⟩
structure Tn (up : Nat → Bool) (g g' : Ag.Gh) (w w' : Ag.W) : Prop where
  le : Ag.Le g g'
  n : w'.n = w.n
  cut : ∀ p, w'.cut p = none
  dn : ∀ p, up p = false → (∀ u, g'.acc p u = g.acc p u) ∧ w'.c p = w.c p
theorem Tn.refl {up : Nat → Bool} {g : Ag.Gh} {w : Ag.W} (h : ∀ p, w.cut p = none) : Tn up g g w w := ⟨Ag.Le.refl g, rfl, h, fun _ _ => ⟨fun _ => rfl, rfl⟩⟩
theorem Tn.trans {up : Nat → Bool} {g g' g2 : Ag.Gh} {w w' w2 : Ag.W} (h : Tn up g g' w w') (k : Tn up g' g2 w' w2) : Tn up g g2 w w2 :=
  ⟨h.le.trans k.le, k.n.trans h.n, k.cut, fun p hp => ⟨fun u => ((k.dn p hp).1 u).trans ((h.dn p hp).1 u), (k.dn p hp).2.trans (h.dn p hp).2⟩⟩
theorem Tn.step {up : Nat → Bool} {g g' : Ag.Gh} {w w' : Ag.W} {r : Nat} {s : Ag.St} (hk : ∀ p, w.cut p = none) (hu : up r = true) (hs : SOK g r (Ag.base (w.c r)) g' s) (e : w.step r s = some w') : Tn up g g' w w' := by
  rcases step_shape e with ⟨_, b, e2⟩ | ⟨k, d, b, hk2, _⟩
  · subst e2
    refine ⟨hs.le, rfl, hk, fun p hp => ?_⟩
    have hpr : p ≠ r := fun x => by rw [x, hu] at hp; cases hp
    exact ⟨(hs.only.at_ p hpr).2, Ag.upd_other _ _ hpr⟩
  · rw [hk r] at hk2; cases hk2
theorem WX.tick1 {up : Nat → Bool} {g : Ag.Gh} {w : Ag.W} {q B I : Nat} (h : WX g w q B I) (hk : ∀ p, w.cut p = none) (hq : q < 1000000) {r : Nat} (hr : r < w.n) :
    ∃ w' g', Ag.W.tickR up w r = some w' ∧ WX g' w' (q + 1) (B + 200) I ∧ Tn up g g' w w' ∧ w'.ids = w.ids := by
  unfold Ag.W.tickR
  by_cases hu : up r = true
  · rw [if_pos hu]
    have hcf := h.cf (by omega) hr
    have hqr := h.quiet r hr
    obtain ⟨y1, y2⟩ := tick_fine hcf (by omega)
    obtain ⟨hc0, hm0⟩ := h.wg.c r hr
    obtain ⟨g', _, x2⟩ := Ag.tick_ok h.wg.gok hc0
    rw [hm0] at x2
    obtain ⟨w', e, e2, e3, e4⟩ := h.step1 hr (hk r) x2 y2 (sm_save y1) (q' := q + 1) (by have := (gr_tick (w.c r)).2; omega) (by omega)
    exact ⟨w', g', e, e2, Tn.step hk hu x2 e, e4⟩
  · rw [if_neg hu]
    exact ⟨w, g, rfl, h.more (by omega) (by omega) (by omega), Tn.refl hk, rfl⟩
theorem WX.hear1 {up : Nat → Bool} {g : Ag.Gh} {w : Ag.W} {q B I : Nat} (h : WX g w q B I) (hk : ∀ p, w.cut p = none) (hq : q < 1000000) {m : Mg} (hm : MOK g m) :
    ∃ w' g', Ag.W.hearM up w m = some w' ∧ WX g' w' q (B + 200) I ∧ Tn up g g' w w' ∧ w'.ids = w.ids := by
  unfold Ag.W.hearM
  by_cases hu : up m.from_.toNat = true ∧ up m.to.toNat = true
  · rw [if_pos hu]
    have hr : m.to.toNat < w.n := by have := hm.to; have := h.wg.n; omega
    have hcf := h.cf (by omega) hr
    have hqr := h.quiet _ hr
    obtain ⟨y1, y2⟩ := get_fine hcf (hm.okm (by rw [h.wg.n]; exact h.wg.n7))
    obtain ⟨hc0, hm0⟩ := h.wg.c _ hr
    obtain ⟨g', _, x2⟩ := Ag.get_ok h.wg.gok hc0 hm
    rw [hm0] at x2
    obtain ⟨w', e, e2, e3, e4⟩ := h.step1 hr (hk _) x2 y2 (sm_save y1) (q' := q) (by have := (gr_get (w.c m.to.toNat) m).quiet; omega) (by omega)
    exact ⟨w', g', e, e2, Tn.step hk hu.2 x2 e, e4⟩
  · rw [if_neg hu]
    exact ⟨w, g, rfl, h.more (by omega) (by omega) (by omega), Tn.refl hk, rfl⟩
theorem WX.ticks {up : Nat → Bool} : ∀ (l : List Nat) {g : Ag.Gh} {w : Ag.W} {q B I : Nat}, WX g w q B I → (∀ p, w.cut p = none) → q + l.length < 1000000 → (∀ r ∈ l, r < w.n) →
    ∃ w' g', Ag.foldO (Ag.W.tickR up) w l = some w' ∧ WX g' w' (q + l.length) (B + 200 * l.length) I ∧ Tn up g g' w w' ∧ w'.ids = w.ids
  | [], g, w, q, B, I, h, hk, hq, hl => ⟨w, g, rfl, h, Tn.refl hk, rfl⟩
  | r :: l, g, w, q, B, I, h, hk, hq, hl => by
    rw [List.length_cons] at hq
    obtain ⟨w1, g1, e1, x1, t1, i1⟩ := h.tick1 (up := up) hk (by omega) (hl r List.mem_cons_self)
    obtain ⟨w2, g2, e2, x2, t2, i2⟩ := WX.ticks l x1 t1.cut (by omega) (fun p hp => by rw [t1.n]; exact hl p (List.mem_cons_of_mem _ hp))
    refine ⟨w2, g2, ?_, x2.more ?_ ?_ (Nat.le_refl _), t1.trans t2, i2.trans i1⟩
    · unfold Ag.foldO; rw [e1, Option.bind_some]; exact e2
    · rw [List.length_cons]; omega
    · rw [List.length_cons]; omega
theorem WX.hears {up : Nat → Bool} : ∀ (l : List Mg) {g : Ag.Gh} {w : Ag.W} {q B I : Nat}, WX g w q B I → (∀ p, w.cut p = none) → q < 1000000 → (∀ m ∈ l, MOK g m) →
    ∃ w' g', Ag.foldO (Ag.W.hearM up) w l = some w' ∧ WX g' w' q (B + 200 * l.length) I ∧ Tn up g g' w w' ∧ w'.ids = w.ids
  | [], g, w, q, B, I, h, hk, hq, hl => ⟨w, g, rfl, h, Tn.refl hk, rfl⟩
  | m :: l, g, w, q, B, I, h, hk, hq, hl => by
    obtain ⟨w1, g1, e1, x1, t1, i1⟩ := h.hear1 (up := up) hk (by omega) (hl m List.mem_cons_self)
    obtain ⟨w2, g2, e2, x2, t2, i2⟩ := WX.hears l x1 t1.cut (by omega) (fun p hp => (hl p (List.mem_cons_of_mem _ hp)).le t1.le)
    refine ⟨w2, g2, ?_, x2.more (Nat.le_refl _) ?_ (Nat.le_refl _), t1.trans t2, i2.trans i1⟩
    · unfold Ag.foldO; rw [e1, Option.bind_some]; exact e2
    · rw [List.length_cons]; omega
theorem WX.noL {g : Ag.Gh} {w : Ag.W} {q B I : Nat} (h : WX g w q B I) : WX g { w with l := [] } q B I :=
  ⟨⟨h.wg.gok, h.wg.n, h.wg.n7, h.wg.S, h.wg.c, h.wg.disk, fun m hm => (by cases hm), h.wg.best⟩, h.odd, h.quiet, h.sv, h.svl, h.idl, h.row, Nat.zero_le _, h.cut⟩
theorem WX.round {up : Nat → Bool} {g : Ag.Gh} {w : Ag.W} {q B I : Nat} (h : WX g w q B I) (hk : ∀ p, w.cut p = none) (hq : q < 100000) :
    ∃ w1 g1 w' g', Ag.foldO (Ag.W.tickR up) w (List.range w.n) = some w1 ∧ WX g1 w1 (q + 7) (B + 1400) I ∧ Tn up g g1 w w1 ∧ Ag.foldO (Ag.W.hearM up) { w1 with l := [] } w1.l = some w' ∧
      WX g' w' (q + 7) (B + 801400) I ∧ Tn up g g' w w' ∧ w'.ids = w.ids ∧ w.round up = some w' := by
  have h7 := h.wg.n7
  obtain ⟨w1, g1, e1, x1, t1, i1⟩ := WX.ticks (up := up) (List.range w.n) h hk (by rw [List.length_range]; omega) (fun r hr => List.mem_range.1 hr)
  rw [List.length_range] at x1
  have x1' : WX g1 w1 (q + 7) (B + 1400) I := x1.more (by omega) (by omega) (Nat.le_refl _)
  obtain ⟨w2, g2, e2, x2, t2, i2⟩ := WX.hears (up := up) w1.l (w := { w1 with l := [] }) x1'.noL t1.cut (by omega) (fun m hm => x1.wg.l m hm)
  have hl := x1.l
  have t12 : Tn up g1 g2 w1 w2 := ⟨t2.le, t2.n, t2.cut, t2.dn⟩
  refine ⟨w1, g1, w2, g2, e1, x1', t1, e2, x2.more (Nat.le_refl _) (by omega) (Nat.le_refl _), t1.trans t12, i2.trans i1, ?_⟩
  unfold Ag.W.round
  rw [e1, Option.bind_some]
  exact e2
theorem WX.sub1 {up : Nat → Bool} {g : Ag.Gh} {w : Ag.W} {q B I : Nat} (h : WX g w q B I) (hk : ∀ p, w.cut p = none) (hq : q < 1000000) {r id : Nat} {row : List Int} (hr : r < w.n) (hu : up r = true) (ok : Ag.Act.Ok ⟨0, (r : Int), 0, id, row⟩) :
    ∃ w' g', w.act ⟨0, (r : Int), 0, id, row⟩ = some w' ∧ (wIn w ⟨0, (r : Int), 0, id, row⟩).step r ((w.c r).submit id row) = some w' ∧ WX g' w' q (B + 200) (I + 1) ∧ Tn up g g' w w' ∧ w'.ids = (wIn w ⟨0, (r : Int), 0, id, row⟩).ids := by
  have hvn : (wIn w ⟨0, (r : Int), 0, id, row⟩).n = w.n := by unfold wIn; split <;> rfl
  have hvc : (wIn w ⟨0, (r : Int), 0, id, row⟩).c = w.c := by unfold wIn; split <;> rfl
  have hvk : (wIn w ⟨0, (r : Int), 0, id, row⟩).cut = w.cut := by unfold wIn; split <;> rfl
  have key : ∀ (w1 : Ag.W) (g1 : Ag.Gh), WX g1 w1 q B (I + 1) → w1.n = w.n → w1.c = w.c → w1.cut = w.cut → Ag.Le g g1 → (∀ p u, g1.acc p u = g.acc p u) → (Ag.may ⟨id, 0, row⟩ = true → Ag.EOK g1.S ⟨id, 0, row⟩) →
      ∃ w' g', w1.step r ((w.c r).submit id row) = some w' ∧ WX g' w' q (B + 200) (I + 1) ∧ Tn up g g' w w' ∧ w'.ids = w1.ids := by
    intro w1 g1 h1 hn hcc hkk hle hac he
    obtain ⟨hc, hm⟩ := h1.wg.c r (by rw [hn]; exact hr)
    rw [hcc] at hc hm
    obtain ⟨g2, _, hs⟩ := Ag.submit_ok h1.wg.gok hc id row he
    rw [hm, ← hcc] at hs
    have hcf := h.cf (by omega) hr
    have hqr := h.quiet _ hr
    have hen : (⟨id, 0, row⟩ : En).Ok := ⟨ok.id, by simp, ok.row⟩
    obtain ⟨y1, y2⟩ := submit_fine hcf hen
    rw [hcc] at hs
    obtain ⟨w', e1, e2, e3, e4⟩ := h1.step1 (by rw [hn]; exact hr) (by rw [hkk]; exact hk r) (by rw [hcc]; exact hs) y2 (sm_save y1) (by have := (gr_submit (w.c r) id row).quiet; omega) (Nat.le_refl q)
    have t := Tn.step (up := up) (by rw [hkk]; exact hk) hu (by rw [hcc]; exact hs) e1
    exact ⟨w', g2, e1, e2, ⟨hle.trans t.le, t.n.trans hn, t.cut, fun p hp => ⟨fun u => ((t.dn p hp).1 u).trans (hac p u), by rw [(t.dn p hp).2, hcc]⟩⟩, e4⟩
  have hact : w.act ⟨0, (r : Int), 0, id, row⟩ = (wIn w ⟨0, (r : Int), 0, id, row⟩).step r ((w.c r).submit id row) := by
    unfold Ag.W.act
    rw [if_pos rfl, if_pos ⟨by show (0 : Int) ≤ (r : Int); omega, by show (r : Int) < (w.n : Int); omega⟩]
    show Ag.W.step (wIn w ⟨0, (r : Int), 0, id, row⟩) (r : Int).toNat ((w.c (r : Int).toNat).submit id row) = _
    rw [Int.toNat_natCast]
  rw [hact]
  clear hact
  by_cases hi : 0 < id ∧ row.length ≤ 16
  · have hw : wIn w ⟨0, (r : Int), 0, id, row⟩ = { w with ids := w.ids ++ [(id, row)] } := if_pos hi
    rw [hw]
    have hx : WX { g with S := w.ids ++ [(id, row)] } { w with ids := w.ids ++ [(id, row)] } q B (I + 1) :=
      ⟨h.wg.more (id, row), h.odd, h.quiet, h.sv, h.svl, by show (w.ids ++ [_]).length ≤ _; have := h.idl; rw [List.length_append]; simp only [List.length_cons, List.length_nil]; omega, fun x hx => by
        rcases List.mem_append.1 hx with hx | hx
        · exact h.row x hx
        · rw [List.mem_singleton.1 hx]; show row.length ≤ _; omega, h.l, h.cut⟩
    obtain ⟨w', g', a, b, c, d⟩ := key _ _ hx rfl rfl rfl ⟨rfl, fun _ => Nat.le_refl _, fun _ _ _ => rfl, fun _ _ l hl => ⟨l, hl, List.prefix_refl _⟩, fun _ _ _ => rfl, fun y hy => by show y ∈ w.ids ++ [(id, row)]; rw [← h.wg.S]; exact List.mem_append_left _ hy⟩ (fun p u => rfl) fun _ => ⟨rfl, hi.1, hi.2, List.mem_append_right _ (List.mem_singleton.2 rfl), ⟨ok.id, by simp, ok.row⟩⟩
    exact ⟨w', g', a, a, b, c, d⟩
  · have hw : wIn w ⟨0, (r : Int), 0, id, row⟩ = w := if_neg hi
    rw [hw]
    obtain ⟨w', g', a, b, c, d⟩ := key w g (h.more (Nat.le_refl _) (Nat.le_refl _) (by omega)) rfl rfl rfl (Ag.Le.refl g) (fun p u => rfl) fun hm => by
      simp only [Ag.may, Bool.and_eq_true, decide_eq_true_eq] at hm
      exact absurd hm hi
    exact ⟨w', g', a, a, b, c, d⟩
end Go.Proofs.Ytbciofnejefkiaa

namespace Go.Proofs.Ytbciofnejefkiaa
open Go Go.Am Go.Proofs

open Ag (GOK COK WG MOK SOK LOK)
theorem nodup_le : ∀ (k : Nat) (l : List Nat), l.Nodup → (∀ x ∈ l, 1 ≤ x ∧ x ≤ k) → l.length ≤ k
  | 0, [], _, _ => Nat.le_refl _
  | 0, x :: l, _, h => by have := h x List.mem_cons_self; omega
  | k + 1, l, hn, h => by
    by_cases hm : (k + 1) ∈ l
    · have h1 := nodup_le k (l.erase (k + 1)) (hn.erase _) fun x hx => by
        have h2 := (hn.mem_erase_iff).1 hx
        have h3 := h x h2.2
        have := h2.1
        omega
      rw [List.length_erase_of_mem hm] at h1
      omega
    · have h1 := nodup_le k l hn fun x hx => by
        have h3 := h x hx
        have : x ≠ k + 1 := fun e => hm (e ▸ hx)
        omega
      omega
theorem uniq_nodup : ∀ {l : List En}, Ag.uniq l = true → (l.map En.id).Nodup
  | [], _ => List.nodup_nil
  | e :: l, h => by
    simp only [Ag.uniq, Bool.and_eq_true, Bool.not_eq_true'] at h
    rw [List.map_cons, List.nodup_cons]
    refine ⟨fun hx => ?_, uniq_nodup h.2⟩
    obtain ⟨a, ha, hb⟩ := List.mem_map.1 hx
    have := Ag.hasId_get.2 ⟨a, ha, hb⟩
    rw [h.1] at this; cases this
theorem lok_le {S : List (Nat × List Int)} {l : List En} {k : Nat} (h : LOK S l) (hk : ∀ x ∈ S, x.1 ≤ k) : l.length ≤ k := by
  have := nodup_le k (l.map En.id) (uniq_nodup h.uniq) fun x hx => by
    obtain ⟨a, ha, rfl⟩ := List.mem_map.1 hx
    have h1 := h.all a ha
    exact ⟨h1.id, hk _ h1.mem⟩
  rw [List.length_map] at this; exact this
theorem twice_le {g : Ag.Gh} {w : Ag.W} {q B I k r : Nat} (h : WX g w q B I) (hr : r < w.n) (hk : ∀ x ∈ w.ids, x.1 ≤ k) : ((w.c r).list.take (w.c r).agreed).length ≤ k := by
  obtain ⟨hc, _⟩ := h.wg.c r hr
  exact lok_le (hc.comm.lok h.wg.gok) (by rw [h.wg.S]; exact hk)
theorem few_nil {up : Nat → Bool} {g : Ag.Gh} {w : Ag.W} {q B I : Nat} (h : WX g w q B I) (hd : ∀ p, up p = false → ∀ u l, g.acc p u = some l → l = []) (hu : (List.range w.n).countP up ≤ w.n / 2) : w.best = [] := by
  obtain ⟨v, u, _, Q, hQ, hx⟩ := h.wg.best
  have hn := h.wg.n
  have : ∃ p, p < w.n ∧ Q p = true ∧ up p = false := Classical.byContradiction fun hno => by
    have h1 : (List.range w.n).countP Q ≤ (List.range w.n).countP up := List.countP_mono_left fun p hp hq => by
      cases hup : up p with
      | true => rfl
      | false => exact absurd ⟨p, List.mem_range.1 hp, hq, hup⟩ hno
    unfold Ag.quo at hQ
    rw [hn] at hQ
    omega
  obtain ⟨p, hp, hq, hf⟩ := this
  obtain ⟨l, hl, hp2⟩ := hx p (by rw [hn]; exact hp) hq
  rw [hd p hf u l hl] at hp2
  exact List.prefix_nil.1 hp2
end Go.Proofs.Ytbciofnejefkiaa

namespace Go.Proofs.Ytbciofnejefkiaa
open Go Go.Am Go.Proofs

open Ag (GOK COK WG MOK SOK LOK)
def upA (n : Nat) (up : Nat → Bool) : AO := .cel ((List.range n).map fun r => .raw (.bool (up r)))
theorem up_get {n r : Nat} {up : Nat → Bool} (h : r < n) : ((List.range n).map fun r => AV.raw (.bool (up r)))[r]? = some (.raw (.bool (up r))) := by
  rw [List.getElem?_map, List.getElem?_range h]; rfl
theorem drop_cons {α : Type} {l : List α} {i : Nat} {a : α} (h : l[i]? = some a) : l.drop i = a :: l.drop (i + 1) := by
  obtain ⟨h1, h2⟩ := List.getElem?_eq_some_iff.1 h
  rw [← h2]; exact List.drop_eq_getElem_cons h1
theorem tick_at {g : Ag.Gh} {w w' : Ag.W} {q B I r : Nat} {H : AHeap} {O : Wo} {F : Nat → Ob} (hX : WX g w q B I) (hA : WAt H O F w) (hr : r < w.n) (hq : q ≤ 200000) (hI : I ≤ 1000000) (hB : B ≤ 100000000000) (hst : w.step r (w.c r).tick = some w') :
    ACalls Try.prog 19 [.ptr (F r).o 0] H fun r' H2 => r' = stepA (w.c r).tick ∧ ∃ G, CAt H2 G (w.c r).tick.c ∧ TurnK H (F r) G H2 ∧ ACalls Try.prog 45 [.ptr O.w 0, mI (r : Int), stepA (w.c r).tick] H2 fun r' H' => r' = bB true ∧ ∃ O' F', WAt H' O' F' w' ∧ TurnW w.n H O F O' F' H' := by
  have hcf := hX.cf (by omega) hr
  have hqr := hX.quiet r hr
  obtain ⟨y1, y2⟩ := tick_fine hcf (by omega)
  obtain ⟨hc0, hm0⟩ := hX.wg.c r hr
  obtain ⟨g', _, x2⟩ := Ag.tick_ok hX.wg.gok hc0
  rw [hm0] at x2
  refine (Tick_calls H (F r) (w.c r) (hA.co r hr) (hA.ndC r hr) hcf (by omega)).mono fun r' H2 ⟨e, G, c1, c2⟩ => ⟨e, G, c1, c2, ?_⟩
  exact act_step hX hr (by omega) (by omega) (by omega) x2 y1 y2 hst hA (H2 := H2) (G := G) c1 c2
theorem get_at {g : Ag.Gh} {w w' : Ag.W} {q B I r : Nat} {H : AHeap} {O : Wo} {F : Nat → Ob} {m : Mg} (hX : WX g w q B I) (hA : WAt H O F w) (hM : MOK g m) (hre : m.to = (r : Int)) (hq : q ≤ 200000) (hI : I ≤ 1000000) (hB : B ≤ 100000000000) (hst : w.step r ((w.c r).get m) = some w') :
    ACalls Try.prog 27 [.ptr (F r).o 0, .agg m.cells] H fun r' H2 => r' = stepA ((w.c r).get m) ∧ ∃ G, CAt H2 G ((w.c r).get m).c ∧ TurnK H (F r) G H2 ∧ ACalls Try.prog 45 [.ptr O.w 0, mI (r : Int), stepA ((w.c r).get m)] H2 fun r' H' => r' = bB true ∧ ∃ O' F', WAt H' O' F' w' ∧ TurnW w.n H O F O' F' H' := by
  have hr : r < w.n := by have := hM.to; have := hX.wg.n; omega
  have hmo : m.Ok := hM.okm (by rw [hX.wg.n]; exact hX.wg.n7)
  have hcf := hX.cf (by omega) hr
  have hen := LOK.lf hM.ents
  obtain ⟨y1, y2⟩ := get_fine hcf hmo
  obtain ⟨hc0, hm0⟩ := hX.wg.c r hr
  obtain ⟨g', _, x2⟩ := Ag.get_ok hX.wg.gok hc0 hM
  rw [hm0] at x2
  refine (Get_calls' H (F r) (w.c r) m (hA.co r hr) (hA.ndC r hr) hcf hmo (by have := hen.len; omega) (by rw [hM.body]; simp) (fun e he => by have := (hen.ok e he).2; omega)).mono fun r' H2 ⟨e, G, c1, c2⟩ => ⟨e, G, c1, c2, ?_⟩
  exact act_step hX hr (by omega) (by omega) (by omega) x2 y1 y2 hst hA (H2 := H2) (G := G) c1 c2
structure RLp {α : Type} (f : Ag.W → α → Option Ag.W) (n q B I : Nat) (H0 : AHeap) (O0 : Wo) (F0 : Nat → Ob) (ww : Ag.W) (l : List α) (H : AHeap) (O : Wo) (F : Nat → Ob) (g : Ag.Gh) (w : Ag.W) : Prop where
  at_ : WAt H O F w
  wx : WX g w q B I
  cut : ∀ p, w.cut p = none
  nn : w.n = n
  go : Ag.foldO f w l = some ww
  turn : TurnW n H0 O0 F0 O F H
theorem round_calls (H : AHeap) (O : Wo) (F : Nat → Ob) (g : Ag.Gh) (w : Ag.W) (q B I oU : Nat) (up : Nat → Bool) (hA : WAt H O F w) (hX : WX g w q B I) (hk : ∀ p, w.cut p = none) (hq : q ≤ 99000) (hI : I ≤ 100000) (hB : B ≤ 9000000000) (hU : H oU = some (upA w.n up)) (hd : ¬ Dom O F w.n oU) :
    ACalls Try.prog 22 [.ptr O.w 0, .vw oU 1 0 w.n] H fun r' H' => r' = bB true ∧ ∃ w' g' O' F', w.round up = some w' ∧ WX g' w' (q + 7) (B + 801400) I ∧ Tn up g g' w w' ∧ w'.ids = w.ids ∧ WAt H' O' F' w' ∧ TurnW w.n H O F O' F' H' := by
  obtain ⟨w1, g1, w', g', e1, x1, t1, e2, x2, t2, i2, e3⟩ := hX.round (up := up) hk (by omega)
  have h7 := hX.wg.n7
  generalize hnn : w.n = n at *
  obtain ⟨us, hU, hul, hug⟩ : ∃ us, H oU = some (.cel us) ∧ us.length = n ∧ ∀ r, r < n → us[r]? = some (.raw (.bool (up r))) := ⟨_, hU, by simp, fun r hr => up_get hr⟩
  refine acalls_of_aw2 Try.func22 rfl (by decide) ?_
  (first | focus (refine yy4 ?_; refine yy6 ?_; rotate_left) | fail)
  refine aw_seq ?_
  refine aw_kmid (fun R' H2 => ∃ (O2 : Wo) (F2 : Nat → Ob) (g2 : Ag.Gh), R' = [(0, .ptr O.w 0), (1, .vw oU 1 0 n)] ∧ RLp (Ag.W.tickR up) n (q + 7) (B + 1400) I H O F w1 [] H2 O2 F2 g2 w1) ?_ ?_
  · (first | focus (refine yy4 ?_; refine yy6 ?_; refine aw_block ?_; rotate_left) | fail)
    refine aw_loop (fun mm R' H2 => ∃ (i : Nat) (O2 : Wo) (F2 : Nat → Ob) (g2 : Ag.Gh) (w2 : Ag.W), R' = [(0, .ptr O.w 0), (1, .vw oU 1 0 n), (5, .raw (.int .i64 (i : Int)))] ∧ RLp (Ag.W.tickR up) n (q + i) (B + 200 * i) I H O F w1 ((List.range n).drop i) H2 O2 F2 g2 w2 ∧ i + mm = n) ?_ ?_
    · exact ⟨n, _, _, auto_ent, 0, O, F, g, w, rfl, ⟨hA, hX, hk, hnn, e1, TurnW.refl _ _ _ _⟩, by omega⟩
    clear e1 e2 e3 x1 x2 t1 t2 i2
    rintro mm R0 H2 ⟨i, O2, F2, g2, w2, rfl, hL, hi⟩
    have hw := hL.turn.w
    have b1 := hL.at_.aw
    have b2 := hL.at_.ac
    unfold worldC at b1
    rw [hL.nn] at b1 b2
    rw [hw] at b1
    by_cases hlt : i < n
    rotate_left
    · obtain rfl : i = n := by omega
      have hgo := hL.go
      rw [List.drop_eq_nil_of_le (by rw [List.length_range]; omega)] at hgo
      obtain rfl := Option.some.inj hgo
      have hX2 := hL.wx.more (q' := q + 7) (B' := B + 1400) (by omega) (by omega) (Nat.le_refl _)
      have hL2 : RLp (Ag.W.tickR up) i (q + 7) (B + 1400) I H O F w2 [] H2 O2 F2 g2 w2 := ⟨hL.at_, hX2, hL.cut, hL.nn, rfl, hL.turn⟩
      (first | focus (refine yy11 ?_; refine yy8 ?_; refine yy40 ?_; refine yy28 ?_; intro hc; rotate_left) | fail)
      all_goals try (exfalso; omega)
      all_goals exact ⟨_, _, auto_ent, O2, F2, g2, rfl, hL2⟩
    obtain ⟨u1, u2⟩ := hL.turn.keep hU hd
    have ug : us[0 + i * 1]? = some (.raw (.bool (up i))) := by rw [show 0 + i * 1 = i by omega]; exact hug i hlt
    have hrg : (List.range n)[i]? = some i := List.getElem?_range hlt
    have hgo := hL.go
    rw [drop_cons hrg] at hgo
    unfold Ag.foldO at hgo
    obtain ⟨w3, g3, y1, y2, y3, y4⟩ := hL.wx.tick1 (up := up) hL.cut (by omega) (r := i) (by rw [hL.nn]; exact hlt)
    rw [y1, Option.bind_some] at hgo
    have hn3 : w3.n = n := y3.n.trans hL.nn
    have hX3 : WX g3 w3 (q + (i + 1)) (B + 200 * (i + 1)) I := y2.more (by omega) (by omega) (Nat.le_refl _)
    unfold Ag.W.tickR at y1
    cases hup : up i with
    | false =>
      rw [hup] at ug y1
      obtain rfl := Option.some.inj y1
      have hL3 : RLp (Ag.W.tickR up) n (q + (i + 1)) (B + 200 * (i + 1)) I H O F w1 ((List.range n).drop (i + 1)) H2 O2 F2 g3 w2 := ⟨hL.at_, hX3, y3.cut, hn3, hgo, hL.turn⟩
      clear hL hX3 hgo y1 y2 y3 y4 hX hA
      (first | focus (refine yy11 ?_; refine yy8 ?_; refine yy40 ?_; refine aw_condp rfl (fun hc => ?_) (fun hc => ?_); refine yy22 ?_; refine yy29 ?_; refine yy2 ?_; refine yy81 ?_; refine yy99 ?_; refine yy2 ?_; refine yy32 ?_; refine yy32 ?_; refine yy32 ?_; refine yy49 ?_; refine yy66 ?_; refine yy71 ?_; refine yy78 ?_; refine yy6 ?_; rotate_left; exact absurd hc auto_no) | fail)
      all_goals try (exfalso; omega)
      all_goals exact ⟨mm - 1, _, _, by omega, auto_ent, i + 1, O2, F2, g3, w2, rfl, hL3, by omega⟩
    | true =>
      rw [hup] at ug
      rw [if_pos hup] at y1
      have hT := tick_at hL.wx hL.at_ (by rw [hL.nn]; exact hlt) (by omega) (by omega) (by omega) y1
      rw [hL.nn, hw] at hT
      have hL3 : ∀ {H4 : AHeap} {O4 : Wo} {F4 : Nat → Ob}, WAt H4 O4 F4 w3 → TurnW n H2 O2 F2 O4 F4 H4 → RLp (Ag.W.tickR up) n (q + (i + 1)) (B + 200 * (i + 1)) I H O F w1 ((List.range n).drop (i + 1)) H4 O4 F4 g3 w3 := fun a b => ⟨a, hX3, y3.cut, hn3, hgo, hL.turn.trans b⟩
      generalize (w2.c i).tick = s at *
      clear hL hX3 hgo y1 y2 y3 y4 hX hA
      (first | focus (refine yy11 ?_; refine yy8 ?_; refine yy40 ?_; refine aw_condp rfl (fun hc => ?_) (fun hc => ?_); refine yy22 ?_; refine yy29 ?_; refine yy2 ?_; refine yy81 ?_; refine yy99 ?_; refine yy19 ?_; refine yy34 ?_; refine yy19 ?_; refine yy34 ?_; refine yy83 ?_; refine yy33 ?_; refine yy19 ?_; refine yy81 ?_; refine yy5 ?_; refine yy99 ?_; refine yy5 ?_; (refine zc auto_wl (hT) ?_; rintro r H' ⟨rfl, G, c1, c2, hS⟩); refine yy5 ?_; (refine zc auto_wl (hS) ?_; rintro r H' ⟨rfl, O3, F3, z1, z2⟩); refine yy5 ?_; refine yy39 ?_; refine yy50 ?_; refine yy66 ?_; refine yy71 ?_; refine yy78 ?_; refine yy6 ?_; rotate_left; exact absurd hc auto_no) | fail)
      all_goals try (exfalso; omega)
      all_goals exact ⟨mm - 1, _, _, by omega, auto_ent, i + 1, O3, F3, g3, w3, rfl, hL3 z1 z2, by omega⟩
  rintro R1 H2 ⟨O1, F1, gg, rfl, hL⟩
  have hA1 := hL.at_
  have hk1 := hL.cut
  have hn1 := hL.nn
  have tt1 := hL.turn
  have aw1 := hA1.aw
  unfold worldC at aw1
  rw [hn1, tt1.w] at aw1
  have hw1 := tt1.w
  clear hL hA e1
  (first | focus (refine yy4 ?_; refine yy8 ?_; refine yy57 ?_; refine yy68 ?_; refine yy109 ?_; refine yy58 ?_; refine yy3 ?_; rotate_left) | fail)
  refine aw_own_gen (H := H2.set O.w (.cel [mI n, .vw O1.c 1 0 n, .vw O1.s 1 0 n, .vw O1.k 1 0 n, .raw (.slice none 0 0), .vw O1.i 1 0 w1.ids.length, .vw O1.r 1 0 w1.ids.length, .vw O1.b 3 0 w1.best.length])) 4 9 (AHeap.set_self _ _ _) rfl fun H3 oN hN b1 b2 b3 => ?_
  have hN2 : H2 oN = none := AHeap.none_of_set hN
  have hs : ∀ p y, H2 p = some y → p ≠ O.w → H3 p = some y := fun p y hp hne => b3 p y (AHeap.get_skip hne hp) hne
  obtain ⟨c1, c2⟩ := hA1.newL (l := []) hN2 (by rw [hw1, hn1]; exact b1) b2 (fun p y hp h1 _ => hs p y hp (by rw [← hw1]; exact h1))
  have hlw : O1.l ≠ O.w := fun e => by have := (Wo.ne hA1.nd).wl; rw [hw1] at this; exact this e.symm
  have hal := hs _ _ hA1.al hlw
  have hlN : O1.l ≠ oN := fun e => by rw [← e, hA1.al] at hN2; cases hN2
  have hdl : ¬ Dom { O1 with l := oN } F1 n O1.l := by
    rintro (h | ⟨r, hr, h⟩)
    · obtain ⟨d1, d2, d3, d4, d5, d6, d7, d8, d9, d10, d11, d12, d13, d14, d15, d16, d17, d18, d19, d20, d21, d22, d23, d24, d25, d26, d27, d28⟩ := Wo.ne hA1.nd
      simp only [Wo.l', List.mem_cons, List.not_mem_nil, or_false] at h
      rcases h with e | e | e | e | e | e | e | e
      · exact d4 e.symm
      · exact d10 e.symm
      · exact d15 e.symm
      · exact d19 e.symm
      · exact hlN e
      · exact d23 e
      · exact d24 e
      · exact d25 e
    · exact hA1.ap r (by rw [hn1]; exact hr) _ h (by simp [Wo.l'])
  rw [hn1] at c2
  obtain ⟨u1, u2⟩ := (tt1.trans c2).keep hU hd
  have t3 := tt1.trans c2
  have hM0 := x1.wg.l
  have hX0 := x1.noL
  have hPl := x1.l
  have hb1 : b1 = b1 := rfl
  generalize hO2 : ({ O1 with l := oN } : Wo) = O2 at *
  have hO2w : O2.w = O.w := t3.w
  clear hb1
  generalize hPP : w1.l = P at *
  (first | focus (refine yy13 ?_; refine yy6 ?_; refine aw_block ?_; rotate_left) | fail)
  refine aw_loop (fun mm R' H4 => ∃ (i : Nat) (O4 : Wo) (F4 : Nat → Ob) (g4 : Ag.Gh) (w4 : Ag.W), R' = [(0, .ptr O.w 0), (1, .vw oU 1 0 n), (6, .vw O1.l 9 0 P.length), (7, .raw (.int .i64 (i : Int)))] ∧ RLp (Ag.W.hearM up) n (q + 7) (B + 1400 + 200 * i) I H3 O2 F1 w' (P.drop i) H4 O4 F4 g4 w4 ∧ (∀ m ∈ P, MOK g4 m) ∧ i + mm = P.length) ?_ ?_
  · exact ⟨P.length, _, _, auto_ent, 0, O2, F1, g1, _, rfl, ⟨c1, hX0, hk1, hn1, e2, TurnW.refl _ _ _ _⟩, hM0, by omega⟩
  clear e2 x1 t1 hX0 hM0 c1 hA1 aw1 b1 b2 b3
  rintro mm R0 H4 ⟨i, O4, F4, g4, w4, rfl, hL, hM, hi⟩
  have hw4 : O4.w = O.w := hL.turn.w.trans hO2w
  by_cases hlt : i < P.length
  rotate_left
  · obtain rfl : i = P.length := by omega
    have hgo := hL.go
    rw [List.drop_eq_nil_of_le (Nat.le_refl _)] at hgo
    obtain rfl := Option.some.inj hgo
    have hfin : WAt H4 O4 F4 w4 ∧ TurnW n H O F O4 F4 H4 := ⟨hL.at_, t3.trans hL.turn⟩
    clear hL hX
    (first | focus (refine yy11 ?_; refine yy29 ?_; refine yy79 ?_; refine yy40 ?_; refine yy28 ?_; intro hc; refine yy20 ?_; rotate_left) | fail)
    all_goals try (exfalso; omega)
    all_goals exact ⟨.inl rfl, _, _, _, Ent.refl _ _, ret1 rfl rfl, rfl, w4, g', O4, F4, e3, x2, t2, i2, hfin.1, hfin.2⟩
  have hg : P[i]? = some P[i] := List.getElem?_eq_getElem hlt
  have hMm := hM _ (List.getElem_mem hlt)
  have hgo := hL.go
  rw [drop_cons hg] at hgo
  unfold Ag.foldO at hgo
  have hga : ((P.flatMap Mg.cells).drop (0 + i * 9)).take 9 = (P[i]).cells := by rw [Nat.zero_add]; exact flat_seg (sz := 9) (f := Mg.cells) (fun _ => rfl) hg
  have hfl : (P.flatMap Mg.cells).length = P.length * 9 := flat_len (f := Mg.cells) (sz := 9) (fun _ => rfl) P
  generalize P[i] = m at *
  obtain ⟨w5, g5, y1, y2, y3, y4⟩ := hL.wx.hear1 (up := up) hL.cut (by omega) hMm
  rw [y1, Option.bind_some] at hgo
  have b1 := hL.at_.aw
  have b2 := hL.at_.ac
  unfold worldC at b1
  rw [hL.nn] at b1 b2
  rw [hw4] at b1
  obtain ⟨v1, v2⟩ := hL.turn.keep u1 u2
  obtain ⟨l1, l2⟩ := hL.turn.keep hal hdl
  have hn5 : w5.n = n := y3.n.trans hL.nn
  have hX5 : WX g5 w5 (q + 7) (B + 1400 + 200 * (i + 1)) I := y2.more (Nat.le_refl _) (by omega) (Nat.le_refl _)
  have hM5 : ∀ x ∈ P, MOK g5 x := fun x hx => (hM x hx).le y3.le
  have hng : g4.n = n := hL.wx.wg.n.trans hL.nn
  obtain ⟨a, hfa⟩ : ∃ a : Nat, m.from_ = (a : Int) := ⟨m.from_.toNat, by have := hMm.from_; omega⟩
  obtain ⟨r, hre⟩ : ∃ r : Nat, m.to = (r : Int) := ⟨m.to.toNat, by have := hMm.to; omega⟩
  have han : a < n := by have := hMm.from_; omega
  have hrn : r < n := by have := hMm.to; omega
  have ua : us[0 + a * 1]? = some (.raw (.bool (up a))) := by rw [show 0 + a * 1 = a by omega]; exact hug a han
  have ur : us[0 + r * 1]? = some (.raw (.bool (up r))) := by rw [show 0 + r * 1 = r by omega]; exact hug r hrn
  have hrg : (List.range n)[r]? = some r := List.getElem?_range hrn
  have hmc : m.cells = [mI m.kind, mI (a : Int), mI (r : Int), .raw (.int .u64 (m.view : Int)), .raw (.int .u64 (m.last : Int)), .raw (.int .u64 (m.op : Int)), .raw (.int .u64 (m.commit : Int)), .sls m.ents.length (m.ents.flatMap En.cells), .bys m.body] := by rw [← hre, ← hfa]; rfl
  unfold Ag.W.hearM at y1
  rw [hfa, hre, Int.toNat_natCast, Int.toNat_natCast] at y1
  by_cases hup : up a = true ∧ up r = true
  rotate_left
  · rw [if_neg hup] at y1
    obtain rfl := Option.some.inj y1
    have hL5 : RLp (Ag.W.hearM up) n (q + 7) (B + 1400 + 200 * (i + 1)) I H3 O2 F1 w' (P.drop (i + 1)) H4 O4 F4 g5 w4 := ⟨hL.at_, hX5, y3.cut, hn5, hgo, hL.turn⟩
    rw [hmc] at hga
    clear hL hX5 hgo y1 y2 y3 y4 hX hM hMm
    cases hua : up a with
    | false =>
      rw [hua] at ua
      (first | focus (refine yy11 ?_; refine yy29 ?_; refine yy79 ?_; refine yy40 ?_; refine aw_condp rfl (fun hc => ?_) (fun hc => ?_); refine yy22 ?_; refine yy29 ?_; refine yy2 ?_; refine yy81 ?_; refine yy107 ?_; refine awl_alloc rfl rfl rfl (fun oN hoN => ?_); refine yy75 ?_; refine yy3 ?_; refine yy16 ?_; (apply awt_s; · exact s_move (v := .vw _ _ _ _) rfl); (apply awt_s; · exact s_fieldAddr_pce rfl); (apply awt_s; · exact s_load_pce rfl auto_idx); (apply awt_s; · exact s_indexAddr_vw rfl rfl auto_len); (apply awt_s; · exact s_load_cel rfl auto_heap auto_idx); (apply awt_s; · exact s_move (v := .raw _) rfl); refine yy14 ?_; refine zt4 rfl rfl ?_; (apply awt_s; · exact s_pick_f (v := .raw _) rfl rfl); (apply awt_s; · exact s_move (v := .raw _) rfl); refine yy14 ?_; refine yy14 ?_; refine yy14 ?_; refine yy74 ?_; refine zt4 rfl rfl ?_; (apply awt_s; · exact s_pick_f (v := .raw _) rfl rfl); refine yy12 ?_; refine yy66 ?_; refine yy71 ?_; refine yy78 ?_; refine yy6 ?_; rotate_left; exact absurd hc auto_no) | fail)
      all_goals try (exfalso; omega)
      all_goals exact ⟨mm - 1, _, _, by omega, auto_ent, i + 1, O4, F4, g5, w4, rfl, hL5, hM5, by omega⟩
    | true =>
      have hur : up r = false := by cases hx : up r with | false => rfl | true => exact absurd ⟨hua, hx⟩ hup
      rw [hua] at ua
      rw [hur] at ur
      (first | focus (refine yy11 ?_; refine yy29 ?_; refine yy79 ?_; refine yy40 ?_; refine aw_condp rfl (fun hc => ?_) (fun hc => ?_); refine yy22 ?_; refine yy29 ?_; refine yy2 ?_; refine yy81 ?_; refine yy107 ?_; refine awl_alloc rfl rfl rfl (fun oN hoN => ?_); refine yy75 ?_; refine yy3 ?_; refine yy16 ?_; (apply awt_s; · exact s_move (v := .vw _ _ _ _) rfl); (apply awt_s; · exact s_fieldAddr_pce rfl); (apply awt_s; · exact s_load_pce rfl auto_idx); (apply awt_s; · exact s_indexAddr_vw rfl rfl auto_len); (apply awt_s; · exact s_load_cel rfl auto_heap auto_idx); (apply awt_s; · exact s_move (v := .raw _) rfl); refine yy1 ?_; (apply awt_s; · exact s_move (v := .vw _ _ _ _) rfl); refine yy1 ?_; (apply awt_s; · exact s_fieldAddr_pce rfl); refine yy1 ?_; (apply awt_s; · exact s_load_pce rfl auto_idx); refine yy1 ?_; (apply awt_s; · exact s_indexAddr_vw rfl rfl auto_len); refine yy1 ?_; (apply awt_s; · exact s_load_cel rfl auto_heap auto_idx); (apply awt_s; · exact s_pick_t (v := .raw _) rfl rfl); (apply awt_s; · exact s_move (v := .raw _) rfl); refine yy14 ?_; refine yy14 ?_; refine yy14 ?_; refine yy74 ?_; refine zt4 rfl rfl ?_; (apply awt_s; · exact s_pick_f (v := .raw _) rfl rfl); refine yy12 ?_; refine yy66 ?_; refine yy71 ?_; refine yy78 ?_; refine yy6 ?_; rotate_left; exact absurd hc auto_no) | fail)
      all_goals try (exfalso; omega)
      all_goals exact ⟨mm - 1, _, _, by omega, auto_ent, i + 1, O4, F4, g5, w4, rfl, hL5, hM5, by omega⟩
  rw [if_pos hup] at y1
  have hT := get_at hL.wx hL.at_ hMm hre (by omega) (by omega) (by omega) y1
  rw [hL.nn, hw4, hmc] at hT
  have hL5 : ∀ {H6 : AHeap} {O6 : Wo} {F6 : Nat → Ob}, WAt H6 O6 F6 w5 → TurnW n H4 O4 F4 O6 F6 H6 → RLp (Ag.W.hearM up) n (q + 7) (B + 1400 + 200 * (i + 1)) I H3 O2 F1 w' (P.drop (i + 1)) H6 O6 F6 g5 w5 := fun a b => ⟨a, hX5, y3.cut, hn5, hgo, hL.turn.trans b⟩
  generalize (w4.c r).get m = s at *
  rw [hup.1] at ua
  rw [hup.2] at ur
  rw [hmc] at hga
  clear hL hX5 hgo y1 y2 y3 y4 hX hM hMm
  clear hmc hfa hre hg hup hng
  (first | focus (refine yy11 ?_; refine yy29 ?_; refine yy79 ?_; refine yy40 ?_; refine aw_condp rfl (fun hc => ?_) (fun hc => ?_); refine yy22 ?_; refine yy29 ?_; refine yy2 ?_; refine yy81 ?_; refine yy107 ?_; refine awl_alloc rfl rfl rfl (fun oN hoN => ?_); refine yy75 ?_; refine yy3 ?_; rotate_left; exact absurd hc auto_no) | fail)
  clear hga
  refine aw_seq ?_
  refine DC.aw_drawp (fun _ => True) trivial auto_kr auto_dk auto_dk ?_
  (first | focus ((apply DC.awn_s; · (intro H1 hPsi; (try dsimp only at hPsi); (try (obtain ⟨hPsi, hPsi2⟩ := hPsi)); exact s_move (v := .vw _ _ _ _) rfl)); (apply DC.awn_s; · (intro H1 hPsi; (try dsimp only at hPsi); (try (obtain ⟨hPsi, hPsi2⟩ := hPsi)); exact s_fieldAddr_pce rfl)); (apply DC.awn_s; · (intro H1 hPsi; (try dsimp only at hPsi); (try (obtain ⟨hPsi, hPsi2⟩ := hPsi)); exact s_load_pce rfl auto_idx)); (apply DC.awn_s; · (intro H1 hPsi; (try dsimp only at hPsi); (try (obtain ⟨hPsi, hPsi2⟩ := hPsi)); exact s_indexAddr_vw rfl rfl auto_len)); (apply DC.awn_e auto_dk; (· exact s_load_cel rfl auto_heap auto_idx)); (apply DC.awn_s; · (intro H1 hPsi; (try dsimp only at hPsi); (try (obtain ⟨hPsi, hPsi2⟩ := hPsi)); exact s_move (v := .raw _) rfl)); rotate_left) | fail)
  iterate 17
    refine DC.awn_guard_t rfl rfl ?_
    (first | focus ((apply DC.awn_s; · (intro H1 hPsi; (try dsimp only at hPsi); (try (obtain ⟨hPsi, hPsi2⟩ := hPsi)); exact s_move (v := .vw _ _ _ _) rfl)); rotate_left) | focus ((apply DC.awn_s; · (intro H1 hPsi; (try dsimp only at hPsi); (try (obtain ⟨hPsi, hPsi2⟩ := hPsi)); exact s_fieldAddr_pce rfl)); rotate_left) | focus ((apply DC.awn_s; · (intro H1 hPsi; (try dsimp only at hPsi); (try (obtain ⟨hPsi, hPsi2⟩ := hPsi)); exact s_load_pce rfl auto_idx)); rotate_left) | focus ((apply DC.awn_s; · (intro H1 hPsi; (try dsimp only at hPsi); (try (obtain ⟨hPsi, hPsi2⟩ := hPsi)); exact s_indexAddr_vw rfl rfl auto_len)); rotate_left) | focus ((apply DC.awn_e auto_dk; (· exact s_load_cel rfl auto_heap auto_idx)); (apply DC.awn_s; · (intro H1 hPsi; (try dsimp only at hPsi); (try (obtain ⟨hPsi, hPsi2⟩ := hPsi)); exact s_pick_t (v := .raw _) rfl rfl)); (apply DC.awn_s; · (intro H1 hPsi; (try dsimp only at hPsi); (try (obtain ⟨hPsi, hPsi2⟩ := hPsi)); exact s_move (v := .raw _) rfl)); rotate_left) | focus ((apply DC.awn_s; · (intro H1 hPsi; (try dsimp only at hPsi); (try (obtain ⟨hPsi, hPsi2⟩ := hPsi)); exact s_move (v := .ptr _ _) rfl)); rotate_left) | focus ((apply DC.awn_s; · (intro H1 hPsi; (try dsimp only at hPsi); (try (obtain ⟨hPsi, hPsi2⟩ := hPsi)); exact s_nilCheck_ptr rfl)); rotate_left) | focus ((apply DC.awn_s; · (intro H1 hPsi; (try dsimp only at hPsi); (try (obtain ⟨hPsi, hPsi2⟩ := hPsi)); exact s_fieldAddr_ptr rfl)); rotate_left) | focus ((apply DC.awn_e auto_dk; (· exact s_load_cel rfl auto_heap rfl)); rotate_left) | focus ((apply DC.awn_e auto_dk; (· exact s_load_cel rfl auto_heap auto_idx)); rotate_left) | focus ((apply DC.awn_s; · (intro H1 hPsi; (try dsimp only at hPsi); (try (obtain ⟨hPsi, hPsi2⟩ := hPsi)); exact s_load_pce_agg rfl rfl rfl (by decide))); refine DC.awn_b ?_; refine DC.awn_b ?_; refine DC.awn_b ?_; refine DC.awn_b ?_; refine DC.awn_nil ?_; refine DC.awc_cons (fun Rx K1 hK1x => ?_); refine yy5 ?_; (refine zc auto_wl (hT) ?_; rintro r H' ⟨rfl, G, c1, c2, hS⟩); refine yy7 ?_; (refine hK1x _ _ (by first | exact Or.inl (by decide +kernel) | (refine Or.inr ?_; (try dsimp only); first | done | trivial)) ?_; clear hK1x K1 Rx); refine DC.awc_cons (fun Rx K1 hK1x => ?_); refine yy5 ?_; (refine zc auto_wl (hS) ?_; rintro r H' ⟨rfl, O6, F6, z1, z2⟩); refine yy7 ?_; (refine hK1x _ _ (by first | exact Or.inl (by decide +kernel) | (refine Or.inr ?_; (try dsimp only); first | done | trivial)) ?_; clear hK1x K1 Rx); refine DC.awc_cons (fun Rx K1 hK1x => ?_); refine yy5 ?_; refine yy39 ?_; refine yy7 ?_; (refine hK1x _ _ (by first | exact Or.inl (by decide +kernel) | (refine Or.inr ?_; (try dsimp only); first | done | trivial)) ?_; clear hK1x K1 Rx); refine DC.awc_cons (fun Rx K1 hK1x => ?_); refine yy38 ?_; refine yy7 ?_; (refine hK1x _ _ (by first | exact Or.inl (by decide +kernel) | (refine Or.inr ?_; (try dsimp only); first | done | trivial)) ?_; clear hK1x K1 Rx); refine DC.awc_nil ?_; refine yy43 ?_; refine yy66 ?_; refine yy71 ?_; refine yy78 ?_; refine yy6 ?_; rotate_left) | fail)
  all_goals try (exfalso; omega)
  all_goals exact ⟨mm - 1, _, _, by omega, auto_ent, i + 1, O6, F6, g5, w5, rfl, hL5 z1 z2, hM5, by omega⟩
end Go.Proofs.Ytbciofnejefkiaa

namespace Go.Proofs.Ytbciofnejefkiaa
open Go Go.Am Go.Proofs

open Ag (GOK COK WG MOK SOK LOK)
def subA (r id : Nat) (row : List Int) : List AV := [mI 0, mI (r : Int), mI 0, uI id, rowA row]
theorem do_sub {up : Nat → Bool} (H : AHeap) (O : Wo) (F : Nat → Ob) (g : Ag.Gh) (w : Ag.W) (q B I r id : Nat) (row : List Int) (hA : WAt H O F w) (hX : WX g w q B I) (hk : ∀ p, w.cut p = none) (hr : r < w.n) (hu : up r = true) (ok : Ag.Act.Ok ⟨0, (r : Int), 0, id, row⟩) (hq : q ≤ 100000) (hI : I ≤ 100000) (hB : B ≤ 10000000000) (hrl : row.length ≤ 1000000) :
    ACalls Try.prog 21 [.ptr O.w 0, .agg (subA r id row)] H fun r' H' => r' = bB true ∧ ∃ w' g' O' F', (wIn w ⟨0, (r : Int), 0, id, row⟩).step r ((w.c r).submit id row) = some w' ∧ WX g' w' q (B + 200) (I + 1) ∧ Tn up g g' w w' ∧ w'.ids = (wIn w ⟨0, (r : Int), 0, id, row⟩).ids ∧ WAt H' O' F' w' ∧ TurnW w.n H O F O' F' H' := by
  obtain ⟨w', g', e0, e1, e2, e3, e4⟩ := hX.sub1 hk (by omega) hr hu ok
  have hn := hX.wg.n7
  refine (do_calls H O F g w w' q B I _ hA hX hq hI hB ok (show b64 0 from ⟨by decide, by decide⟩) ⟨by show (-9223372036854775808 : Int) ≤ (r : Int); omega, by show (r : Int) ≤ 9223372036854775807; omega⟩ (show b64 0 from ⟨by decide, by decide⟩) hrl e0).mono fun r' H' ⟨x, O', F', y1, y2⟩ => ⟨x, w', g', O', F', e1, e2, e3, e4, y1, y2⟩
theorem rng_bool {n r : Nat} (f : Nat → Bool) (b : Bool) : ((List.range n).map fun q => AV.raw (.bool (f q))).set r (.raw (.bool b)) = (List.range n).map fun q => AV.raw (.bool (Ag.upd f r b q)) := by
  rw [rng_upd]
  refine List.map_congr_left fun q _ => ?_
  unfold Ag.upd
  split <;> rfl
theorem all_calls (H : AHeap) (n : Nat) (h7 : n ≤ 7) :
    ACalls Try.prog 24 [mI (n : Int)] H fun r H' => ∃ oU, r = .vw oU 1 0 n ∧ H oU = none ∧ H' oU = some (upA n fun _ => true) ∧ ∀ p y, H p = some y → H' p = some y := by
  refine acalls_of_aw1 Try.func24 rfl (by decide) ?_
  (first | focus (refine yy42 ?_; refine yy2 ?_; refine awl_make_cel rfl rfl rfl auto_om rfl rfl auto_om auto_om (fun oN hoN => ?_); refine yy57 ?_; refine yy3 ?_; refine yy13 ?_; refine yy6 ?_; refine aw_block ?_; rotate_left) | fail)
  have hrep : List.replicate n (AV.raw (.bool false)) = (List.range n).map fun q => AV.raw (.bool (decide (q < 0))) := by
    rw [show (fun q : Nat => AV.raw (.bool (decide (q < 0)))) = fun _ => AV.raw (.bool false) from funext fun q => by rw [decide_eq_false (Nat.not_lt_zero q)], List.map_const', List.length_range]
  rw [hrep]
  refine aw_loop (fun mm R' H2 => ∃ i : Nat, R' = [(0, mI n), (3, .vw oN 1 0 n), (4, .raw (.int .i64 (i : Int)))] ∧ H2 = H.set oN (.cel ((List.range n).map fun q => AV.raw (.bool (decide (q < i))))) ∧ i + mm = n) ?_ ?_
  · exact ⟨n, _, _, auto_ent, 0, rfl, rfl, by omega⟩
  rintro mm R0 H2 ⟨i, rfl, rfl, hi⟩
  have hskip : ∀ p y, H p = some y → (H.set oN (.cel ((List.range n).map fun q => AV.raw (.bool (decide (q < i)))))) p = some y := fun p y hp => AHeap.get_skip (fun e => by rw [e, hoN] at hp; cases hp) hp
  by_cases hlt : i < n
  rotate_left
  · obtain rfl : i = n := by omega
    have hall : ((List.range i).map fun q => AV.raw (.bool (decide (q < i)))) = (List.range i).map fun _ => AV.raw (.bool true) := List.map_congr_left fun q hq => by rw [decide_eq_true (List.mem_range.1 hq)]
    (first | focus (refine yy11 ?_; refine yy2 ?_; refine yy40 ?_; refine yy28 ?_; intro hc; refine yy4 ?_; refine yy29 ?_; refine yy57 ?_; refine yy26 ?_; rotate_left) | fail)
    all_goals try (exfalso; omega)
    exact ⟨.inl rfl, _, _, _, Ent.refl _ _, ret1 rfl rfl, oN, rfl, hoN, by rw [hall]; exact AHeap.set_self _ _ _, hskip⟩
  have hset : ((List.range n).map fun q => AV.raw (.bool (decide (q < i)))).set (0 + i * 1) (.raw (.bool true)) = (List.range n).map fun q => AV.raw (.bool (decide (q < i + 1))) := by
    rw [show 0 + i * 1 = i by omega, rng_bool]
    refine List.map_congr_left fun q _ => ?_
    unfold Ag.upd
    split
    · next e => rw [decide_eq_true (by omega)]
    · next e => show AV.raw (.bool (decide (q < i))) = _; rw [decide_eq_decide.2 (show q < i ↔ q < i + 1 by omega)]
  (first | focus (refine yy11 ?_; refine yy2 ?_; refine yy40 ?_; refine aw_condp rfl (fun hc => ?_) (fun hc => ?_); refine yy84 ?_; refine aw_block ?_; refine aw_region ?_; refine yy29 ?_; refine yy2 ?_; refine yy81 ?_; refine yy64 ?_; refine yy7 ?_; refine yy71 ?_; refine yy78 ?_; refine yy6 ?_; rotate_left; exact absurd hc auto_no) | fail)
  all_goals try (exfalso; omega)
  exact ⟨mm - 1, _, _, by omega, auto_ent, i + 1, rfl, by rw [hset], by omega⟩
end Go.Proofs.Ytbciofnejefkiaa
