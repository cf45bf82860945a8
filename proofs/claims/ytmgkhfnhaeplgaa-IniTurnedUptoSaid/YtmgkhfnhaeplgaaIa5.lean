import Derived.Test.YtmgkhfnhaeplgaaIz
import Derived.Test.YtmgkhfnhaeplgaaIa4
namespace Go.Proofs.Ytmgkhfnhaeplgaa
open Go Go.Am Go.Proofs
set_option linter.unusedSimpArgs false
set_option linter.unusedVariables false
set_option maxRecDepth 20000
set_option maxHeartbeats 8000000

/-! The reference's Turned. -/
def turnN (n : Nd) : Nd := ⟨n.name, n.ins, n.outs, n.locs, n.eqs.reverse, n.at_⟩
theorem Turned_calls (H : AHeap) (l : List Nd) (hl : l.length ≤ 2000000) (hok : ∀ n ∈ l, NdOk n) : ACalls Try.prog 21 [ndsA l] H fun r H' => r = ndsA (l.map turnN) ∧ H' = H := by
  have hvl := nd_len l
  refine acalls_of_aw1 Try.func21 rfl (by decide) ?_
  (first | focus (refine yy15 ?_; refine yy15 ?_; refine yy38 ?_; refine yy71 ?_; rotate_left) | fail)
  refine aw_own_nil 3 6 (.cel []) rfl rfl (fun oL hoL => ?_)
  refine aw_loop (fun mm R1 H1 => ∃ (i oL : Nat), i ≤ l.length ∧ H1 oL = some (.cel (ndL ((l.take i).map turnN))) ∧ H oL = none ∧ (∀ p y, H p = some y → H1 p = some y) ∧ R1 = [(0, ndsA l), (3, .vw oL 6 0 i), (4, avI i)] ∧ l.length - i = mm) ?_ ?_
  · exact ⟨_, _, _, Ent.sub _ (by (repeat' (first | exact RSub.nil _ | apply RSub.cons)); all_goals rfl), 0, oL, Nat.zero_le _, by exact auto_heap, hoL, fun p y hp => auto_heap, rfl, rfl⟩
  clear hoL oL
  rintro mm R1 H1 ⟨i, oL, hi, q1, hoL, hfr, rfl, rfl⟩
  by_cases hlt : i < l.length
  · have hg : l[i]? = some l[i] := List.getElem?_eq_getElem hlt
    have hno := hok _ (List.getElem_mem hlt)
    have hsn : (l.take (i + 1)).map turnN = (l.take i).map turnN ++ [turnN l[i]] := by rw [List.take_add_one, hg, List.map_append]; rfl
    have hlen : (ndL ((l.take i).map turnN)).length = i * 6 := by rw [nd_len, List.length_map, List.length_take, Nat.min_eq_left hi]
    generalize l[i] = v at *
    have hseg := nd_get hg
    have y4 := nd_at hg (j := 4) (by decide) rfl
    replace hsn := Hdn.mk hsn
    clear hg
    obtain ⟨nm, ins, outs, locs, eqs, at_⟩ := v
    obtain ⟨b1, b2, b3, b4, b5⟩ := hno
    simp only [turnN] at *
    have hel := eq_len eqs
    (first | focus (refine yy45 ?_; refine aw_condp rfl (fun hc => ?_) (fun hc => ?_); refine yy13 ?_; refine yy76 ?_; refine yy47 ?_; refine yy101 ?_; refine awl_alloc rfl rfl rfl (fun oN hoN => ?_); refine yy11 ?_; refine yy16 ?_; refine yy55 ?_; refine yy42 ?_; refine yy27 ?_; refine yy47 ?_; refine yy118 ?_; refine yy115 ?_; refine awl_s rfl (s_sub64 rfl rfl (by omega) (by omega)) ?_; refine yy71 ?_; rotate_left; exact absurd hc auto_no) | fail)
    have hX0 : H oN = none := by
      cases e : H oN with
      | none => rfl
      | some y => rw [hfr _ _ e] at hoN; cases hoN
    have hXL : oN ≠ oL := fun e => by rw [e, q1] at hoN; cases hoN
    obtain ⟨oX, hoXe⟩ : ∃ x, x = oN := ⟨_, rfl⟩
    subst hoXe
    refine aw_loop (fun mm R2 H2 => ∃ (c : Nat) (kv : Int) (kc : AV), c ≤ eqs.length ∧ kv = (c : Int) - 1 ∧ H2 oX = some (.cel [.str nm, .sls ins.length (vrL ins), .sls outs.length (vrL outs), .sls locs.length (vrL locs), kc, avI at_]) ∧ H2 oL = some (.cel (ndL ((l.take i).map turnN))) ∧ VwF 7 H H2 oX oL oX kc (eqs.length - c) (eqL (eqs.drop c).reverse) ∧ (∀ p y, H p = some y → H2 p = some y) ∧ R2 = [(0, ndsA l), (3, .vw oL 6 0 i), (4, avI i), (5, .ptr oX 0), (6, avI kv)] ∧ c = mm) ?_ ?_
    · exact ⟨_, _, _, Ent.sub _ (by (repeat' (first | exact RSub.nil _ | apply RSub.cons)); all_goals rfl), eqs.length, _, .raw (.slice none 0 0), Nat.le_refl _, rfl, by exact auto_heap, by exact auto_heap, .inl ⟨Nat.sub_self _, rfl⟩, fun p y hp => by
          have hp2 := hfr p y hp
          have hp3 : p ≠ oX := fun e => by rw [e, hX0] at hp; cases hp
          exact auto_heap, rfl, rfl⟩
    clear hfr q1 hoN H1
    rintro mm R2 H2 ⟨c, kv, kc, hk, hkv, q3, q1, hK, hfr, rfl, rfl⟩
    cases c with
    | succ c =>
      obtain rfl : kv = (c : Int) := by omega
      clear hkv
      have hkt : c < eqs.length := by omega
      have hg : eqs[c]? = some eqs[c] := List.getElem?_eq_getElem hkt
      have hsk : (eqs.drop c).reverse = (eqs.drop (c + 1)).reverse ++ [eqs[c]] := by rw [List.drop_eq_getElem_cons hkt, List.reverse_cons]
      have hlek : (eqL (eqs.drop (c + 1)).reverse).length = (eqs.length - (c + 1)) * 7 := by rw [eq_len, List.length_reverse, List.length_drop]
      generalize eqs[c] = q at *
      have hsq := eq_get hg
      obtain ⟨w, hw⟩ : ∃ w, eqs.length = c + 1 + w := ⟨eqs.length - (c + 1), by omega⟩
      have hwe : eqs.length - (c + 1) = w := by omega
      have hwc : eqs.length - c = w + 1 := by omega
      rw [hwe] at hK hlek
      replace hsk := Hdn.mk hsk
      replace hwc := Hdn.mk hwc
      clear hg
      generalize (eqs.drop (c + 1)).reverse = D at *
      rcases hK with ⟨hac, rfl⟩ | ⟨oK, rfl, j1, j2, j3, j4, j5⟩
      · subst hac
        (first | focus (refine yy9 ?_; refine yy129 ?_; refine yy4 ?_; refine aw_condp rfl (fun hc => ?_) (fun hc => ?_); refine yy13 ?_; refine aw_draw2 true auto_kr auto_dk auto_dk ?_; (apply awm_s; · (intro H1; exact s_fieldAddr_ptr rfl)); (apply awm_e auto_dk; (· exact s_load_cel rfl auto_heap rfl)); (apply awm_s; · (intro H1; exact s_move (v := .sls _ _) rfl)); (apply awm_s; · (intro H1; exact s_move (v := .raw _) rfl)); (apply awm_s; · (intro H1; exact s_indexAddr_sls rfl rfl auto_len)); (apply awm_s; · (intro H1; exact s_fieldAddr_pce rfl)); (apply awm_s; · (intro H1; exact s_load_pce rfl auto_idx)); (apply awm_s; · (intro H1; exact s_move (v := .raw _) rfl)); (apply awm_s; · (intro H1; exact s_indexAddr_sls rfl rfl auto_len)); (apply awm_s; · (intro H1; exact s_load_pce_agg rfl (by assumption) (by rfl) (by decide))); (apply awm_s; · (intro H1; exact s_buildSlicev (by ((repeat' (first | exact eqL_nil | apply eqL_cons)); all_goals (first | exact (rfl : _ = AV.raw _) | exact (rfl : _ = AV.bys _) | exact (rfl : _ = AV.vw _ _ _ _) | exact (rfl : _ = AV.ptr _ _) | exact (rfl : _ = AV.str _) | exact (rfl : _ = AV.sls _ _) | exact (rfl : _ = AV.tup _) | exact (rfl : _ = AV.agg _) | exact (rfl : _ = AV.pce _ _) | exact (rfl : _ = AV.emp) | exact (rfl : _ = AV.bysx _) | exact (rfl : _ = AV.slsx _ _) | exact (rfl : _ = AV.mp _) | exact (rfl : _ = AV.fnc _ _ _) | exact (rfl : _ = AV.pby _ _) | exact (rfl : _ = AV.ifc _ _)))) (by rfl) (by rfl) (by rfl) (by ((repeat' (first | exact eqL_nil | apply eqL_cons)); all_goals (first | exact (rfl : _ = AV.raw _) | exact (rfl : _ = AV.bys _) | exact (rfl : _ = AV.vw _ _ _ _) | exact (rfl : _ = AV.ptr _ _) | exact (rfl : _ = AV.str _) | exact (rfl : _ = AV.sls _ _) | exact (rfl : _ = AV.tup _) | exact (rfl : _ = AV.agg _) | exact (rfl : _ = AV.pce _ _) | exact (rfl : _ = AV.emp) | exact (rfl : _ = AV.bysx _) | exact (rfl : _ = AV.slsx _ _) | exact (rfl : _ = AV.mp _) | exact (rfl : _ = AV.fnc _ _ _) | exact (rfl : _ = AV.pby _ _) | exact (rfl : _ = AV.ifc _ _)))) (by decide))); refine awm_b ?_; (apply awm_s; · (intro H1; exact s_fieldAddr_ptr rfl)); refine awm_b0 ?_; refine awm_nil ?_; refine awb_cons (fun Rx K1 hK1x => ?_); refine awl_own_nil_cel rfl rfl rfl auto_src auto_len auto_len (fun oN hoN => ?_); refine yy61 ?_; (refine hK1x _ _ ?_; clear hK1x K1 Rx); refine awb_cons0 (fun Rx K1 hK1x => ?_); refine yy58 ?_; refine yy61 ?_; (refine hK1x _ ?_; clear hK1x K1 Rx); refine awb_nil ?_; refine yy100 ?_; refine yy78 ?_; refine awl_s rfl (s_sub64 rfl rfl (by omega) (by omega)) ?_; refine yy6 ?_; rotate_left; exact absurd hc auto_no) | fail)
        have n1 : H oN = none := by
          cases e : H oN with
          | none => rfl
          | some y => rw [hfr _ _ e] at hoN; cases hoN
        have n2 : oN ≠ oX := fun e => by rw [e, q3] at hoN; cases hoN
        have n3 : oN ≠ oL := fun e => by rw [e, q1] at hoN; cases hoN
        have hD : D = [] := List.eq_nil_of_length_eq_zero (by have := eq_len D; omega)
        exact ⟨c, _, _, Nat.lt_succ_self _, Ent.sub _ (by (repeat' (first | exact RSub.nil _ | apply RSub.cons)); all_goals rfl), c, (c : Int) - 1, .vw oN 7 0 1, by omega, rfl, by exact auto_heap, by exact auto_heap, .inr ⟨oN, by rw [hwc.out], by rw [hsk.out, hD, List.nil_append, eq_one]; exact auto_heap, n1, n2, n3, n2⟩, fun p y hp => by
          have hp2 := hfr p y hp
          have hp3 : p ≠ oX := fun e => by rw [e, hX0] at hp; cases hp
          have hp4 : p ≠ oN := fun e => by rw [e, n1] at hp; cases hp
          exact auto_heap, rfl, rfl⟩
      · (first | focus (refine yy9 ?_; refine yy129 ?_; refine yy4 ?_; refine aw_condp rfl (fun hc => ?_) (fun hc => ?_); refine yy13 ?_; refine aw_draw2 true auto_kr auto_dk auto_dk ?_; (apply awm_s; · (intro H1; exact s_fieldAddr_ptr rfl)); (apply awm_e auto_dk; (· exact s_load_cel rfl auto_heap rfl)); (apply awm_s; · (intro H1; exact s_move (v := .sls _ _) rfl)); (apply awm_s; · (intro H1; exact s_move (v := .raw _) rfl)); (apply awm_s; · (intro H1; exact s_indexAddr_sls rfl rfl auto_len)); (apply awm_s; · (intro H1; exact s_fieldAddr_pce rfl)); (apply awm_s; · (intro H1; exact s_load_pce rfl auto_idx)); (apply awm_s; · (intro H1; exact s_move (v := .raw _) rfl)); (apply awm_s; · (intro H1; exact s_indexAddr_sls rfl rfl auto_len)); (apply awm_s; · (intro H1; exact s_load_pce_agg rfl (by assumption) (by rfl) (by decide))); (apply awm_s; · (intro H1; exact s_buildSlicev (by ((repeat' (first | exact eqL_nil | apply eqL_cons)); all_goals (first | exact (rfl : _ = AV.raw _) | exact (rfl : _ = AV.bys _) | exact (rfl : _ = AV.vw _ _ _ _) | exact (rfl : _ = AV.ptr _ _) | exact (rfl : _ = AV.str _) | exact (rfl : _ = AV.sls _ _) | exact (rfl : _ = AV.tup _) | exact (rfl : _ = AV.agg _) | exact (rfl : _ = AV.pce _ _) | exact (rfl : _ = AV.emp) | exact (rfl : _ = AV.bysx _) | exact (rfl : _ = AV.slsx _ _) | exact (rfl : _ = AV.mp _) | exact (rfl : _ = AV.fnc _ _ _) | exact (rfl : _ = AV.pby _ _) | exact (rfl : _ = AV.ifc _ _)))) (by rfl) (by rfl) (by rfl) (by ((repeat' (first | exact eqL_nil | apply eqL_cons)); all_goals (first | exact (rfl : _ = AV.raw _) | exact (rfl : _ = AV.bys _) | exact (rfl : _ = AV.vw _ _ _ _) | exact (rfl : _ = AV.ptr _ _) | exact (rfl : _ = AV.str _) | exact (rfl : _ = AV.sls _ _) | exact (rfl : _ = AV.tup _) | exact (rfl : _ = AV.agg _) | exact (rfl : _ = AV.pce _ _) | exact (rfl : _ = AV.emp) | exact (rfl : _ = AV.bysx _) | exact (rfl : _ = AV.slsx _ _) | exact (rfl : _ = AV.mp _) | exact (rfl : _ = AV.fnc _ _ _) | exact (rfl : _ = AV.pby _ _) | exact (rfl : _ = AV.ifc _ _)))) (by decide))); refine awm_b ?_; (apply awm_s; · (intro H1; exact s_fieldAddr_ptr rfl)); refine awm_b0 ?_; refine awm_nil ?_; refine awb_cons (fun Rx K1 hK1x => ?_); refine za4 rfl rfl rfl auto_heap auto_al auto_src auto_len auto_len (fun oN hoN => ?_); refine yy61 ?_; (refine hK1x _ _ ?_; clear hK1x K1 Rx); refine awb_cons0 (fun Rx K1 hK1x => ?_); refine yy58 ?_; refine yy61 ?_; (refine hK1x _ ?_; clear hK1x K1 Rx); refine awb_nil ?_; refine yy100 ?_; refine yy78 ?_; refine awl_s rfl (s_sub64 rfl rfl (by omega) (by omega)) ?_; refine yy6 ?_; rotate_left; exact absurd hc auto_no) | fail)
        have n1 : H oN = none := by
          cases e : H oN with
          | none => rfl
          | some y => rw [hfr _ _ e] at hoN; cases hoN
        have n2 : oN ≠ oX := fun e => by rw [e, q3] at hoN; cases hoN
        have n3 : oN ≠ oL := fun e => by rw [e, q1] at hoN; cases hoN
        exact ⟨c, _, _, Nat.lt_succ_self _, Ent.sub _ (by (repeat' (first | exact RSub.nil _ | apply RSub.cons)); all_goals rfl), c, (c : Int) - 1, .vw oN 7 0 (w + 1), by omega, rfl, by exact auto_heap, by exact auto_heap, .inr ⟨oN, by rw [hwc.out], by rw [hsk.out, eq_snoc]; exact auto_heap, n1, n2, n3, n2⟩, fun p y hp => by
          have hp2 := hfr p y hp
          have hp3 : p ≠ oX := fun e => by rw [e, hX0] at hp; cases hp
          have hp4 : p ≠ oN := fun e => by rw [e, n1] at hp; cases hp
          exact auto_heap, rfl, rfl⟩
    | zero =>
      obtain rfl : kv = (-1 : Int) := by omega
      rw [List.drop_zero, Nat.sub_zero] at hK
      have hrl : eqs.reverse.length = eqs.length := List.length_reverse ..
      have hel2 : (eqL eqs.reverse).length = eqs.length * 7 := by rw [eq_len, hrl]
      have hent : ∃ H3, Ent [(0, ndsA l), (3, .vw oL 6 0 i), (4, avI i), (5, .ptr oX 0), (6, avI (-1))] H2 [(0, ndsA l), (3, .vw oL 6 0 i), (4, avI i), (5, .ptr oX 0), (6, avI (-1))] H3 ∧ H3 oX = some (.cel [.str nm, .sls ins.length (vrL ins), .sls outs.length (vrL outs), .sls locs.length (vrL locs), .sls eqs.reverse.length (eqL eqs.reverse), avI at_]) ∧ H3 oL = some (.cel (ndL ((l.take i).map turnN))) ∧ (∀ p y, H p = some y → H3 p = some y) := by
        rw [hrl]
        rcases hK with ⟨hac, rfl⟩ | ⟨oK, rfl, j1, j2, j3, j4, j5⟩
        · obtain rfl : eqs = [] := List.eq_nil_of_length_eq_zero hac
          exact ⟨_, Ent.wcelH (AHeap.set_id q3).symm (WC.cons (W.of rfl) (WC.cons (W.of rfl) (WC.cons (W.of rfl) (WC.cons (W.of rfl) (WC.cons (W.nils rfl) (WC.cons (W.of rfl) WC.nil)))))), AHeap.set_self _ _ _, by exact auto_heap, fun p y hp => by
            have hp2 := hfr p y hp
            have hp3 : p ≠ oX := fun e => by rw [e, hX0] at hp; cases hp
            exact auto_heap⟩
        · have j6 := j5.symm
          have j7 := j4.symm
          refine ⟨_, Ent.seal_cellC (p := oX) (o := oK) (k := 4) (sz := 7) (ys := eqL eqs.reverse) j6 q3 j1 rfl hel2, AHeap.set_self _ _ _, by exact auto_heap, fun p y hp => ?_⟩
          have hp2 := hfr p y hp
          have hp3 : p ≠ oX := fun e => by rw [e, hX0] at hp; cases hp
          have hp4 : p ≠ oK := fun e => by rw [e, j2] at hp; cases hp
          exact auto_heap
      clear hK hfr q3 q1 hkv
      obtain ⟨H3, he, q3, q1, hfr⟩ := hent
      refine aw_ent he ?_
      clear he
      (first | focus (refine yy9 ?_; refine awl_s rfl (s_geq rfl rfl) ?_; refine yy4 ?_; refine yy34 ?_; intro hc; refine yy32 ?_; refine yy23 ?_; refine yy26 ?_; refine yy37 ?_; refine za4 rfl rfl rfl auto_heap auto_al auto_src auto_len auto_len (fun oN hoN => ?_); refine yy40 ?_; refine yy48 ?_; refine yy22 ?_; rotate_left) | fail)
      all_goals try (exfalso; omega)
      have n1 : H oN = none := by
        cases e : H oN with
        | none => rfl
        | some y => rw [hfr _ _ e] at hoN; cases hoN
      exact ⟨l.length - (i + 1), _, _, by omega, Ent.sub _ (by (repeat' (first | exact RSub.nil _ | apply RSub.cons)); all_goals rfl), i + 1, oN, by omega, by rw [hsn.out, nd_snoc]; exact auto_heap, n1, fun p y hp => by
        have hp2 := hfr p y hp
        have hp4 : p ≠ oN := fun e => by rw [e, n1] at hp; cases hp
        exact auto_heap, rfl, rfl⟩
  · obtain rfl : i = l.length := by omega
    rw [List.take_length] at q1
    (first | focus (refine yy45 ?_; refine yy34 ?_; intro hc; refine yy2 ?_; refine yy23 ?_; refine yy40 ?_; refine yy108 ?_; rotate_left) | fail)
    have hml : (l.map turnN).length = l.length := List.length_map ..
    have hvl2 : (ndL (l.map turnN)).length = l.length * 6 := by rw [nd_len, hml]
    rw [ndsA, hml]
    exact ⟨.inl rfl, _, _, _, (Ent.seal_cel (i := 2) (o := oL) (xs := ndL (l.map turnN)) rfl auto_heap hvl2).trans (Ent.gc (fun p y hp => by
      have hp2 := hfr p y hp
      have hp3 : p ≠ oL := fun e => by rw [e, hoL] at hp; cases hp
      exact auto_heap)), ret1 rfl rfl, rfl, rfl⟩
end Go.Proofs.Ytmgkhfnhaeplgaa

namespace Go.Proofs.Ytmgkhfnhaeplgaa
open Go Go.Am Go.Proofs
set_option linter.unusedSimpArgs false
set_option linter.unusedVariables false
set_option maxRecDepth 20000
set_option maxHeartbeats 8000000

/-! The law IniSays, walked. -/
theorem lateN_top {n : Nd} (hn : NdG n) : (lateN n).length ≤ 2000000 := by
  unfold lateN
  rw [List.length_map]
  refine Nat.le_trans (List.length_filter_le _ _) ?_
  unfold varsN
  rw [List.length_append, List.length_append]
  have := hn.sm
  omega
end Go.Proofs.Ytmgkhfnhaeplgaa

namespace Go.Proofs.Ytmgkhfnhaeplgaa
open Go Go.Am Go.Proofs
set_option linter.unusedSimpArgs false
set_option linter.unusedVariables false
set_option maxRecDepth 20000
set_option maxHeartbeats 8000000

/-! The law IniTurned, walked. -/
theorem turn_ok {n : Nd} (h : NdOk n) : NdOk (turnN n) := ⟨h.i, h.o, h.l, by show n.eqs.reverse.length ≤ _; rw [List.length_reverse]; exact h.q, fun q hq => h.e q (List.mem_reverse.1 hq)⟩
theorem turn_late (n : Nd) : lateN (turnN n) = lateN n := by
  unfold lateN
  rw [late_turned (n := turnN n) (m := n) (fun q => List.mem_reverse)]
  rfl
theorem turn_check : ∀ l : List Nd, checkN (l.map turnN) = none ↔ checkN l = none
  | [] => Iff.rfl
  | n :: r => by
    have ih := turn_check r
    have h : checkQ (hasB (lateNames (turnN n))) (turnN n) (turnN n).eqs = none ↔ checkQ (hasB (lateNames n)) n n.eqs = none := by
      rw [late_turned (n := turnN n) (m := n) (fun q => List.mem_reverse), checkQ_none, checkQ_none]
      exact ⟨fun h q hq => h q (List.mem_reverse.2 hq), fun h q hq => h q (List.mem_reverse.1 hq)⟩
    rw [List.map_cons, checkN, checkN]
    cases h1 : checkQ (hasB (lateNames n)) n n.eqs with
    | none => rw [h.2 h1]; exact ih
    | some a =>
      cases h2 : checkQ (hasB (lateNames (turnN n))) (turnN n) (turnN n).eqs with
      | none => rw [h.1 h2] at h1; cases h1
      | some b => exact ⟨fun k => (by cases k), fun k => (by cases k)⟩
theorem Turned_law (H : AHeap) (t : Bs) (hl : t.length ≤ 2000000) : ACalls Try.prog 7 [.str t] H fun r _ => r = .raw (.bool true) := by
  by_cases hlt : 1500 < t.length
  · refine acalls_of_aw1 Try.func7 rfl (by decide) ?_
    (first | focus (refine yy15 ?_; refine yy38 ?_; (refine zc auto_wl (awake_calls _) ?_; rintro r H' ⟨rfl, rfl⟩); refine yy52 ?_; refine yy25 ?_; refine yy38 ?_; refine yy59 ?_; refine yy123 ?_; refine yy4 ?_; refine aw_condp rfl (fun hc => ?_) (fun hc => ?_); refine yy92 ?_; refine k_seq_ret ?_; rotate_left; exact absurd hc auto_no) | fail)
    all_goals first | exact ⟨.inl rfl, _, _, _, Ent.gc auto_sub, ret1 rfl rfl, rfl⟩ | (exfalso; omega) | trace_state
  have cu := fun H => Upto_calls H t hl
  have hnd := parse_nd t
  have hlen := parse_len t
  generalize parse t = x at *
  unfold uptoA at cu
  cases hu : okU x with
  | false =>
    rw [hu, if_neg (by decide)] at cu
    clear hu hnd
    refine acalls_of_aw1 Try.func7 rfl (by decide) ?_
    (first | focus (refine yy15 ?_; refine yy38 ?_; (refine zc auto_wl (awake_calls _) ?_; rintro r H' ⟨rfl, rfl⟩); refine yy52 ?_; refine yy25 ?_; refine yy38 ?_; refine yy59 ?_; refine yy123 ?_; refine yy4 ?_; refine yy60 ?_; intro hc; refine yy2 ?_; refine yy116 ?_; (refine zc auto_wl (cu _) ?_; rintro r H' ⟨rfl, rfl⟩); refine yy80 ?_; refine yy21 ?_; refine yy6 ?_; refine yy9 ?_; refine yy104 ?_; refine yy92 ?_; refine k_seq_ret ?_; rotate_left) | fail)
    all_goals first | exact ⟨.inl rfl, _, _, _, Ent.gc auto_sub, ret1 rfl rfl, rfl⟩ | (exfalso; omega) | trace_state
  | true =>
    rw [hu, if_pos rfl] at cu
    clear hu
    obtain ⟨l, a, b⟩ := x
    simp only at *
    have hok : ∀ n ∈ l, NdOk n := fun n hn => (hnd n hn).ok
    have hok2 : ∀ n ∈ l.map turnN, NdOk n := fun n hn => by
      obtain ⟨m, hm, rfl⟩ := List.mem_map.1 hn
      exact turn_ok (hok m hm)
    have hml : (l.map turnN).length = l.length := List.length_map ..
    have hvl := nd_len l
    have hvl2 := nd_len (l.map turnN)
    have htp : ∀ n ∈ l, (lateN n).length ≤ 2000000 := fun n hn => lateN_top (hnd n hn)
    have cb := fun H => Back_calls H l (by omega) hok
    have ct := fun H => Turned_calls H l (by omega) hok
    have cb2 := fun H => Back_calls H (l.map turnN) (by omega) hok2
    have ck := fun H => Check_calls H l (by omega) hok
    have ck2 := fun H => Check_calls H (l.map turnN) (by omega) hok2
    have hck := turn_check l
    have hget : ∀ i n, l[i]? = some n → (l.map turnN)[i]? = some (turnN n) := fun i n h => by rw [List.getElem?_map, h]; rfl
    simp only [faultA_eq] at ck ck2
    have hff : (fltN (l.map turnN)).1 = (fltN l).1 := by
      unfold fltN
      cases h1 : checkN l with
      | none => rw [hck.2 h1]
      | some a =>
        cases h2 : checkN (l.map turnN) with
        | none => rw [hck.1 h2] at h1; cases h1
        | some b => rfl
    rw [hff] at ck2
    clear hnd hck hff hok2
    generalize fltN l = z at *
    generalize fltN (l.map turnN) = z' at *
    obtain ⟨z1, z2⟩ := z
    simp only at *
    refine acalls_of_aw1 Try.func7 rfl (by decide) ?_
    (first | focus (refine yy15 ?_; refine yy38 ?_; (refine zc auto_wl (awake_calls _) ?_; rintro r H' ⟨rfl, rfl⟩); refine yy52 ?_; refine yy25 ?_; refine yy38 ?_; refine yy59 ?_; refine yy123 ?_; refine yy4 ?_; refine yy60 ?_; intro hc; refine yy2 ?_; refine yy116 ?_; (refine zc auto_wl (cu _) ?_; rintro r H' ⟨rfl, rfl⟩); refine yy80 ?_; refine yy83 ?_; refine yy6 ?_; refine yy9 ?_; refine yy52 ?_; refine yy25 ?_; refine yy76 ?_; (refine zc auto_wl (cb _) ?_; rintro r H' ⟨rfl, rfl⟩); refine yy27 ?_; (refine zc auto_wl (ct _) ?_; rintro r H' ⟨rfl, rfl⟩); (refine zc auto_wl (cb2 _) ?_; rintro r H' ⟨rfl, rfl⟩); refine yy83 ?_; refine yy83 ?_; refine yy42 ?_; refine yy71 ?_; rotate_left) | fail)
    clear cb ct cb2 cu hc
    refine aw_loop (fun mm R1 H1 => ∃ (i : Nat), i ≤ l.length ∧ R1 = [(5, ndsA l), (6, ndsA (l.map turnN)), (7, avI i)] ∧ l.length - i = mm) ?_ ?_
    · exact ⟨_, _, _, Ent.sub _ (by (repeat' (first | exact RSub.nil _ | apply RSub.cons)); all_goals rfl), 0, Nat.zero_le _, rfl, rfl⟩
    rintro mm R1 H1 ⟨i, hi, rfl, rfl⟩
    by_cases hil : i < l.length
    · have hg : l[i]? = some l[i] := List.getElem?_eq_getElem hil
      have hno := hok _ (List.getElem_mem hil)
      have hll := htp _ (List.getElem_mem hil)
      have hg2 := hget _ _ hg
      generalize l[i] = n at *
      have hseg := nd_get hg
      have hseg2 := nd_get hg2
      clear hg hg2 hget hok htp ck ck2
      have c1 := fun H => pLate_calls H n hno
      have c2 := fun H => pLate_calls H (turnN n) (turn_ok hno)
      simp only [turn_late] at c2
      have c3 : ∀ H, ACalls Try.prog 15 [.sls (lateN n).length (bsL (lateN n)), .sls (lateN n).length (bsL (lateN n))] H fun r H' => r = avB true ∧ H' = H := fun H =>
        (Texts_calls H (lateN n) (lateN n) hll hll).mono fun r H' ⟨h1, h2⟩ => ⟨by rw [h1, decide_eq_true rfl], h2⟩
      have hbn : (bsL (lateN n)).length = (lateN n).length := List.length_map ..
      generalize bsL (lateN n) = LB at *
      generalize (lateN n).length = LN at *
      generalize l.map turnN = l2 at *
      (first | focus (refine yy45 ?_; refine aw_condp rfl (fun hc => ?_) (fun hc => ?_); refine yy13 ?_; refine yy73 ?_; (apply awt_s; · exact s_move (v := .sls _ _) rfl); (apply awt_s; · exact s_move (v := .raw _) rfl); (apply awt_s; · exact s_indexAddr_sls rfl rfl auto_len); (apply awt_s; · exact s_load_pce_agg rfl (by assumption) (by rfl) (by decide)); (apply awt_s; · exact s_callc auto_wl (c1 _)); (apply awt_s; · exact s_move (v := .sls _ _) rfl); (apply awt_s; · exact s_move (v := .raw _) rfl); (apply awt_s; · exact s_indexAddr_sls rfl rfl auto_len); (apply awt_s; · exact s_load_pce_agg rfl (by assumption) (by rfl) (by decide)); (apply awt_s; · exact s_callc auto_wl (c2 _)); (apply awt_s; · exact s_callc auto_wl (c3 _)); (apply awt_s; · exact s_notb rfl); refine yy77 ?_; refine aw_cond_f rfl ?_; refine yy39 ?_; refine yy22 ?_; rotate_left; exact absurd hc auto_no) | fail)
      all_goals first | exact ⟨l.length - (i + 1), _, _, by omega, Ent.sub _ (by (repeat' (first | exact RSub.nil _ | apply RSub.cons)); all_goals rfl), i + 1, by omega, rfl, rfl⟩ | (exfalso; omega) | trace_state
    · obtain rfl : i = l.length := by omega
      (first | focus (refine yy45 ?_; refine yy34 ?_; intro hc; refine yy76 ?_; (refine zc auto_wl (ck _) ?_; rintro r H' ⟨rfl, rfl⟩); refine yy57 ?_; refine yy87 ?_; refine yy27 ?_; (refine zc auto_wl (ck2 _) ?_; rintro r H' ⟨rfl, rfl⟩); refine yy57 ?_; refine yy87 ?_; refine awl_s rfl (s_beq rfl rfl) ?_; refine yy41 ?_; rotate_left) | fail)
      all_goals first | exact ⟨.inl rfl, _, _, _, Ent.gc auto_sub, ret1 rfl rfl, congrArg (fun b => AV.raw (.bool b)) (by simp)⟩ | (exfalso; omega) | trace_state
end Go.Proofs.Ytmgkhfnhaeplgaa
