import Derived.Test.YtbciofnejefkiaaIz
import Derived.Test.YtbciofnejefkiaaIa4
import Derived.Test.YtbciofnejefkiaaIa1
set_option linter.unusedVariables false
set_option linter.unusedSimpArgs false
set_option maxRecDepth 20000
set_option maxHeartbeats 4000000
namespace Go.Proofs.Ytbciofnejefkiaa
open Go Go.Am Go.Proofs

open Classical in
theorem get_odd (c : Ag.Co) (m : Mg) (h : c.odd m) : c.get m = ⟨c, [], []⟩ := by unfold Ag.Co.get; dsimp only; rw [if_pos h]
noncomputable def get1 (c : Ag.Co) (m : Mg) : Ag.St := if c.view < m.view then (Ag.St.promise ⟨c, [], []⟩ m.view).vote else ⟨c, [], []⟩
def get2 (s : Ag.St) (m : Mg) : Ag.St :=
  if m.kind = 3 then (if s.c.view % s.c.n = s.c.me ∧ m.last ≤ m.view then s.count m.from_.toNat ⟨m.last, m.ents⟩ else s)
    else if m.kind = 5 then
      (if s.c.lead then { s with c := Ag.Co.settle { s.c with held := Ag.upd s.c.held m.from_.toNat (some (max ((s.c.held m.from_.toNat).getD 0) m.op)) } } else s)
    else if m.kind = 4 ∨ m.kind = 6 then (if m.from_ = ((s.c.view % s.c.n : Nat) : Int) then s.hear m else s)
    else s
theorem get_want (c : Ag.Co) (m : Mg) (h : ¬ c.odd m) (hk : m.kind = 1) : c.get m = wantK ⟨c, [], []⟩ m.ents m.ents.length := by
  unfold Ag.Co.get wantK; dsimp only; rw [if_neg h, if_pos hk, List.take_length]
theorem get_past (c : Ag.Co) (m : Mg) (h : ¬ c.odd m) (hk : ¬ m.kind = 1) (hv : m.view < (get1 c m).c.view) : c.get m = get1 c m := by
  unfold Ag.Co.get; dsimp only; rw [if_neg h, if_neg hk]; show (if m.view < (get1 c m).c.view then get1 c m else get2 (get1 c m) m) = _; rw [if_pos hv]
theorem get_now (c : Ag.Co) (m : Mg) (h : ¬ c.odd m) (hk : ¬ m.kind = 1) (hv : ¬ m.view < (get1 c m).c.view) : c.get m = get2 (get1 c m) m := by
  unfold Ag.Co.get; dsimp only; rw [if_neg h, if_neg hk]; show (if m.view < (get1 c m).c.view then get1 c m else get2 (get1 c m) m) = _; rw [if_neg hv]
theorem get1_sm {c : Ag.Co} (h : CFine c) {m : Mg} (hv : m.view ≤ Ag.mostView) : Sm 3 7 ⟨c, [], []⟩ (get1 c m) := by
  unfold get1
  split
  · have k := promise_sm (s := ⟨c, [], []⟩) h hv
    exact (k.trans (vote_sm k.c)).more (by omega) (by omega)
  · exact ⟨h, rfl, rfl, Nat.zero_le _, Nat.zero_le _⟩
theorem Get_calls' (H : AHeap) (F : Ob) (c : Ag.Co) (m : Mg) (h : CAt H F c) (nd : NdC F) (hf : CFine c) (hm : m.Ok) (hl : m.ents.length ≤ 1000000) (hb : m.body.length ≤ 1000000) (hr : ∀ e ∈ m.ents, e.row.length ≤ 1000000000) :
    ACalls Try.prog 27 [.ptr F.o 0, .agg m.cells] H fun r H' => r = stepA (c.get m) ∧ ∃ F', CAt H' F' (c.get m).c ∧ TurnK H F F' H' := by
  obtain ⟨off0, _, hco0, _⟩ := h.core
  unfold coreC at hco0
  refine acalls_of_aw2 Try.func27 rfl (by decide) ?_
  (first | focus (refine yy4 ?_; refine zb1 rfl rfl rfl (fun oN hoN => ?_); refine awl_alloc rfl rfl rfl (fun oN hoN => ?_); refine yy68 ?_; refine awl_alloc rfl rfl rfl (fun oN hoN => ?_); refine yy3 ?_; rotate_left) | fail)
  rename_i oM hoM oR hoR
  have hoR2 := AHeap.none_of_set hoR
  have hRM : oR ≠ oM := AHeap.ne_of_fresh hoR
  have hSM : oN ≠ oM := AHeap.ne_of_fresh (AHeap.none_of_set hoN)
  have hoS2 := none_sub3 hoN
  refine aw_ent (R' := [(0, .ptr F.o 0), (3, .pce m.cells 0), (4, .ptr oR 0), (5, .ptr oN 0)]) ((Ent.cellRet 3 m.cells rfl auto_heap auto_wcc (fresh_sub3 hoM hRM hSM)).trans (Ent.sub _ (by (repeat' (first | exact RSub.nil _ | apply RSub.cons)); all_goals rfl))) ?_
  refine aw_begin h nd hoR2 hoS2 (fun H1 F1 a1 b1 e1 z1 => ?_)
  subst e1
  have hco := b1.fr _ _ hco0
  clear h hco0 hoN hoM hoR hRM hSM hoS2
  have hodd : c.odd m → c.get m = ⟨c, [], []⟩ := get_odd c m
  have f1 := hf.n
  have f2 := hf.me
  have f3 := hf.view
  unfold Ag.mostView at f3
  have g1 := hm.kind
  have g2 := hm.from_
  have g3 := hm.to
  have g8 := hm.view
  have g9 := hm.last
  have g6 := hm.op
  have hGd := fun H => Good_calls H m hm (by omega) (by omega)
  have hLi := fun H => listed_calls H m.ents (by omega) (fun e he => by have := hr e he; omega)
  refine aw_seq ?_
  refine aw_kmid (fun R1 H2 => ¬ c.odd m ∧ H1 = H2 ∧ R1 = [(0, .ptr F.o 0), (3, .pce m.cells 0), (4, .ptr oR 0), (5, .ptr F1.os 0)]) ?_ ?_
  · by_cases p1 : m.good
    rotate_left
    · rw [decide_eq_false p1] at hGd
      rw [hodd (.inl p1)]
      (first | focus (refine yy16 ?_; (apply awt_s; · exact s_load_pce_agg rfl rfl rfl (by decide)); (apply awt_s; · exact s_callc auto_wl (hGd _)); (apply awt_s; · exact s_notb rfl); (apply awt_s; · exact s_move (v := .raw _) rfl); refine yy14 ?_; refine yy74 ?_; refine zt4 rfl rfl ?_; (apply awt_s; · exact s_pick_t (v := .raw _) rfl rfl); (apply awt_s; · exact s_move (v := .raw _) rfl); refine yy14 ?_; refine yy74 ?_; refine zt4 rfl rfl ?_; (apply awt_s; · exact s_pick_t (v := .raw _) rfl rfl); (apply awt_s; · exact s_move (v := .raw _) rfl); refine yy14 ?_; refine yy74 ?_; refine zt4 rfl rfl ?_; (apply awt_s; · exact s_pick_t (v := .raw _) rfl rfl); (apply awt_s; · exact s_move (v := .raw _) rfl); refine yy74 ?_; refine zt4 rfl rfl ?_; (apply awt_s; · exact s_pick_t (v := .raw _) rfl rfl); (apply awt_s; · exact s_move (v := .raw _) rfl); refine yy14 ?_; (apply awt_s; · exact s_pick_t (v := .raw _) rfl rfl); refine yy12 ?_; rotate_left) | fail)
      all_goals try (exfalso; omega)
      obtain ⟨H3, hE, q1, q2, q3, q4, q5⟩ := b1.done (Turn.refl _ _ _) a1 z1
      refine aw_ent (H' := H3) (hE _) ?_
      clear hE
      (first | focus (refine yy18 ?_; refine yy4 ?_; refine yy65 ?_; refine yy26 ?_; refine yy24 ?_; rotate_left) | fail)
      all_goals try (exfalso; omega)
      exact ⟨.inl rfl, _, _, _, Ent.cellRet (H0 := H3.erase oR) 4 [saveA _, sendA _] rfl auto_heap auto_wcc erase_sub, ret_1 rfl (rv1_agg (m := 2) rfl rfl rfl (by decide)), rfl, F1, q4, q5⟩
    rw [decide_eq_true p1] at hGd
    by_cases p2 : m.to = (c.me : Int)
    rotate_left
    · rw [hodd (.inr (.inl p2))]
      (first | focus (refine yy16 ?_; (apply awt_s; · exact s_load_pce_agg rfl rfl rfl (by decide)); (apply awt_s; · exact s_callc auto_wl (hGd _)); (apply awt_s; · exact s_notb rfl); (apply awt_s; · exact s_move (v := .raw _) rfl); refine yy1 ?_; (apply awt_s; · exact s_fieldAddr_pce rfl); refine yy1 ?_; (apply awt_s; · exact s_load_pce rfl auto_idx); refine yy1 ?_; (apply awt_s; · exact s_move (v := .ptr _ _) rfl); refine yy1 ?_; (apply awt_s; · exact s_nilCheck_ptr rfl); refine yy1 ?_; (apply awt_s; · exact s_fieldAddr_ptr rfl); refine yy1 ?_; (apply awt_s; · exact s_load_cel rfl auto_heap rfl); refine yy1 ?_; (apply awt_s; · exact s_neq rfl rfl); (apply awt_s; · exact s_pick_f (v := .raw _) rfl rfl); (apply awt_s; · exact s_move (v := .raw _) rfl); refine zt2 rfl rfl rfl (fun hc => ?_) (fun hc => ?_); exact absurd hc auto_no; refine yy14 ?_; refine yy74 ?_; (apply awt_s; · exact s_pick_t (v := .raw _) rfl rfl); (apply awt_s; · exact s_move (v := .raw _) rfl); refine yy14 ?_; refine yy74 ?_; refine zt4 rfl rfl ?_; (apply awt_s; · exact s_pick_t (v := .raw _) rfl rfl); (apply awt_s; · exact s_move (v := .raw _) rfl); refine yy74 ?_; refine zt4 rfl rfl ?_; (apply awt_s; · exact s_pick_t (v := .raw _) rfl rfl); (apply awt_s; · exact s_move (v := .raw _) rfl); refine yy14 ?_; (apply awt_s; · exact s_pick_t (v := .raw _) rfl rfl); refine yy12 ?_; rotate_left) | fail)
      all_goals try (exfalso; omega)
      obtain ⟨H3, hE, q1, q2, q3, q4, q5⟩ := b1.done (Turn.refl _ _ _) a1 z1
      refine aw_ent (H' := H3) (hE _) ?_
      clear hE
      (first | focus (refine yy18 ?_; refine yy4 ?_; refine yy65 ?_; refine yy26 ?_; refine yy24 ?_; rotate_left) | fail)
      all_goals try (exfalso; omega)
      exact ⟨.inl rfl, _, _, _, Ent.cellRet (H0 := H3.erase oR) 4 [saveA _, sendA _] rfl auto_heap auto_wcc erase_sub, ret_1 rfl (rv1_agg (m := 2) rfl rfl rfl (by decide)), rfl, F1, q4, q5⟩
    by_cases p3 : m.from_ = (c.me : Int)
    · rw [hodd (.inr (.inr (.inl p3)))]
      (first | focus (refine yy16 ?_; (apply awt_s; · exact s_load_pce_agg rfl rfl rfl (by decide)); (apply awt_s; · exact s_callc auto_wl (hGd _)); (apply awt_s; · exact s_notb rfl); (apply awt_s; · exact s_move (v := .raw _) rfl); refine yy1 ?_; (apply awt_s; · exact s_fieldAddr_pce rfl); refine yy1 ?_; (apply awt_s; · exact s_load_pce rfl auto_idx); refine yy1 ?_; (apply awt_s; · exact s_move (v := .ptr _ _) rfl); refine yy1 ?_; (apply awt_s; · exact s_nilCheck_ptr rfl); refine yy1 ?_; (apply awt_s; · exact s_fieldAddr_ptr rfl); refine yy1 ?_; (apply awt_s; · exact s_load_cel rfl auto_heap rfl); refine yy1 ?_; (apply awt_s; · exact s_neq rfl rfl); (apply awt_s; · exact s_pick_f (v := .raw _) rfl rfl); (apply awt_s; · exact s_move (v := .raw _) rfl); refine zt2 rfl rfl rfl (fun hc => ?_) (fun hc => ?_); (apply awt_s; · exact s_fieldAddr_pce rfl); refine yy1 ?_; (apply awt_s; · exact s_load_pce rfl auto_idx); refine yy1 ?_; (apply awt_s; · exact s_move (v := .ptr _ _) rfl); refine yy1 ?_; (apply awt_s; · exact s_nilCheck_ptr rfl); refine yy1 ?_; (apply awt_s; · exact s_fieldAddr_ptr rfl); refine yy1 ?_; (apply awt_s; · exact s_load_cel rfl auto_heap rfl); refine yy1 ?_; (apply awt_s; · exact s_eql rfl rfl); (apply awt_s; · exact s_pick_f (v := .raw _) rfl rfl); (apply awt_s; · exact s_move (v := .raw _) rfl); refine zt2 rfl rfl rfl (fun hc => ?_) (fun hc => ?_); exact absurd hc auto_no; refine yy14 ?_; refine yy74 ?_; (apply awt_s; · exact s_pick_t (v := .raw _) rfl rfl); (apply awt_s; · exact s_move (v := .raw _) rfl); refine yy74 ?_; refine zt4 rfl rfl ?_; (apply awt_s; · exact s_pick_t (v := .raw _) rfl rfl); (apply awt_s; · exact s_move (v := .raw _) rfl); refine yy14 ?_; (apply awt_s; · exact s_pick_t (v := .raw _) rfl rfl); refine yy12 ?_; rotate_left; exact absurd hc auto_no) | fail)
      all_goals try (exfalso; omega)
      obtain ⟨H3, hE, q1, q2, q3, q4, q5⟩ := b1.done (Turn.refl _ _ _) a1 z1
      refine aw_ent (H' := H3) (hE _) ?_
      clear hE
      (first | focus (refine yy18 ?_; refine yy4 ?_; refine yy65 ?_; refine yy26 ?_; refine yy24 ?_; rotate_left) | fail)
      all_goals try (exfalso; omega)
      exact ⟨.inl rfl, _, _, _, Ent.cellRet (H0 := H3.erase oR) 4 [saveA _, sendA _] rfl auto_heap auto_wcc erase_sub, ret_1 rfl (rv1_agg (m := 2) rfl rfl rfl (by decide)), rfl, F1, q4, q5⟩
    by_cases p4 : (c.n : Int) ≤ m.from_
    · rw [hodd (.inr (.inr (.inr (.inl p4))))]
      (first | focus (refine yy16 ?_; (apply awt_s; · exact s_load_pce_agg rfl rfl rfl (by decide)); (apply awt_s; · exact s_callc auto_wl (hGd _)); (apply awt_s; · exact s_notb rfl); (apply awt_s; · exact s_move (v := .raw _) rfl); refine yy1 ?_; (apply awt_s; · exact s_fieldAddr_pce rfl); refine yy1 ?_; (apply awt_s; · exact s_load_pce rfl auto_idx); refine yy1 ?_; (apply awt_s; · exact s_move (v := .ptr _ _) rfl); refine yy1 ?_; (apply awt_s; · exact s_nilCheck_ptr rfl); refine yy1 ?_; (apply awt_s; · exact s_fieldAddr_ptr rfl); refine yy1 ?_; (apply awt_s; · exact s_load_cel rfl auto_heap rfl); refine yy1 ?_; (apply awt_s; · exact s_neq rfl rfl); (apply awt_s; · exact s_pick_f (v := .raw _) rfl rfl); (apply awt_s; · exact s_move (v := .raw _) rfl); refine zt2 rfl rfl rfl (fun hc => ?_) (fun hc => ?_); (apply awt_s; · exact s_fieldAddr_pce rfl); refine yy1 ?_; (apply awt_s; · exact s_load_pce rfl auto_idx); refine yy1 ?_; (apply awt_s; · exact s_move (v := .ptr _ _) rfl); refine yy1 ?_; (apply awt_s; · exact s_nilCheck_ptr rfl); refine yy1 ?_; (apply awt_s; · exact s_fieldAddr_ptr rfl); refine yy1 ?_; (apply awt_s; · exact s_load_cel rfl auto_heap rfl); refine yy1 ?_; (apply awt_s; · exact s_eql rfl rfl); (apply awt_s; · exact s_pick_f (v := .raw _) rfl rfl); (apply awt_s; · exact s_move (v := .raw _) rfl); refine zt2 rfl rfl rfl (fun hc => ?_) (fun hc => ?_); (apply awt_s; · exact s_fieldAddr_pce rfl); refine yy1 ?_; (apply awt_s; · exact s_load_pce rfl auto_idx); refine yy1 ?_; (apply awt_s; · exact s_move (v := .ptr _ _) rfl); refine yy1 ?_; (apply awt_s; · exact s_nilCheck_ptr rfl); refine yy1 ?_; (apply awt_s; · exact s_fieldAddr_ptr rfl); refine yy1 ?_; (apply awt_s; · exact s_load_cel rfl auto_heap rfl); refine yy1 ?_; (apply awt_s; · exact s_geq rfl rfl); (apply awt_s; · exact s_pick_f (v := .raw _) rfl rfl); (apply awt_s; · exact s_move (v := .raw _) rfl); refine zt2 rfl rfl rfl (fun hc => ?_) (fun hc => ?_); exact absurd hc auto_no; refine yy74 ?_; (apply awt_s; · exact s_pick_t (v := .raw _) rfl rfl); (apply awt_s; · exact s_move (v := .raw _) rfl); refine yy14 ?_; (apply awt_s; · exact s_pick_t (v := .raw _) rfl rfl); refine yy12 ?_; rotate_left; exact absurd hc auto_no; exact absurd hc auto_no) | fail)
      all_goals try (exfalso; omega)
      obtain ⟨H3, hE, q1, q2, q3, q4, q5⟩ := b1.done (Turn.refl _ _ _) a1 z1
      refine aw_ent (H' := H3) (hE _) ?_
      clear hE
      (first | focus (refine yy18 ?_; refine yy4 ?_; refine yy65 ?_; refine yy26 ?_; refine yy24 ?_; rotate_left) | fail)
      all_goals try (exfalso; omega)
      exact ⟨.inl rfl, _, _, _, Ent.cellRet (H0 := H3.erase oR) 4 [saveA _, sendA _] rfl auto_heap auto_wcc erase_sub, ret_1 rfl (rv1_agg (m := 2) rfl rfl rfl (by decide)), rfl, F1, q4, q5⟩
    by_cases p5 : 1099511627776 < m.view
    · rw [hodd (.inr (.inr (.inr (.inr (.inl p5)))))]
      (first | focus (refine yy16 ?_; (apply awt_s; · exact s_load_pce_agg rfl rfl rfl (by decide)); (apply awt_s; · exact s_callc auto_wl (hGd _)); (apply awt_s; · exact s_notb rfl); (apply awt_s; · exact s_move (v := .raw _) rfl); refine yy1 ?_; (apply awt_s; · exact s_fieldAddr_pce rfl); refine yy1 ?_; (apply awt_s; · exact s_load_pce rfl auto_idx); refine yy1 ?_; (apply awt_s; · exact s_move (v := .ptr _ _) rfl); refine yy1 ?_; (apply awt_s; · exact s_nilCheck_ptr rfl); refine yy1 ?_; (apply awt_s; · exact s_fieldAddr_ptr rfl); refine yy1 ?_; (apply awt_s; · exact s_load_cel rfl auto_heap rfl); refine yy1 ?_; (apply awt_s; · exact s_neq rfl rfl); (apply awt_s; · exact s_pick_f (v := .raw _) rfl rfl); (apply awt_s; · exact s_move (v := .raw _) rfl); refine zt2 rfl rfl rfl (fun hc => ?_) (fun hc => ?_); (apply awt_s; · exact s_fieldAddr_pce rfl); refine yy1 ?_; (apply awt_s; · exact s_load_pce rfl auto_idx); refine yy1 ?_; (apply awt_s; · exact s_move (v := .ptr _ _) rfl); refine yy1 ?_; (apply awt_s; · exact s_nilCheck_ptr rfl); refine yy1 ?_; (apply awt_s; · exact s_fieldAddr_ptr rfl); refine yy1 ?_; (apply awt_s; · exact s_load_cel rfl auto_heap rfl); refine yy1 ?_; (apply awt_s; · exact s_eql rfl rfl); (apply awt_s; · exact s_pick_f (v := .raw _) rfl rfl); (apply awt_s; · exact s_move (v := .raw _) rfl); refine zt2 rfl rfl rfl (fun hc => ?_) (fun hc => ?_); (apply awt_s; · exact s_fieldAddr_pce rfl); refine yy1 ?_; (apply awt_s; · exact s_load_pce rfl auto_idx); refine yy1 ?_; (apply awt_s; · exact s_move (v := .ptr _ _) rfl); refine yy1 ?_; (apply awt_s; · exact s_nilCheck_ptr rfl); refine yy1 ?_; (apply awt_s; · exact s_fieldAddr_ptr rfl); refine yy1 ?_; (apply awt_s; · exact s_load_cel rfl auto_heap rfl); refine yy1 ?_; (apply awt_s; · exact s_geq rfl rfl); (apply awt_s; · exact s_pick_f (v := .raw _) rfl rfl); (apply awt_s; · exact s_move (v := .raw _) rfl); refine zt2 rfl rfl rfl (fun hc => ?_) (fun hc => ?_); (apply awt_s; · exact s_fieldAddr_pce rfl); refine yy1 ?_; (apply awt_s; · exact s_load_pce rfl auto_idx); refine yy1 ?_; (apply awt_s; · exact s_gtn rfl rfl); (apply awt_s; · exact s_pick_f (v := .raw _) rfl rfl); (apply awt_s; · exact s_move (v := .raw _) rfl); refine zt2 rfl rfl rfl (fun hc => ?_) (fun hc => ?_); exact absurd hc auto_no; refine yy74 ?_; refine zt4 rfl rfl ?_; (apply awt_s; · exact s_pick_t (v := .raw _) rfl rfl); refine yy12 ?_; rotate_left; exact absurd hc auto_no; exact absurd hc auto_no; exact absurd hc auto_no) | fail)
      all_goals try (exfalso; omega)
      obtain ⟨H3, hE, q1, q2, q3, q4, q5⟩ := b1.done (Turn.refl _ _ _) a1 z1
      refine aw_ent (H' := H3) (hE _) ?_
      clear hE
      (first | focus (refine yy18 ?_; refine yy4 ?_; refine yy65 ?_; refine yy26 ?_; refine yy24 ?_; rotate_left) | fail)
      all_goals try (exfalso; omega)
      exact ⟨.inl rfl, _, _, _, Ent.cellRet (H0 := H3.erase oR) 4 [saveA _, sendA _] rfl auto_heap auto_wcc erase_sub, ret_1 rfl (rv1_agg (m := 2) rfl rfl rfl (by decide)), rfl, F1, q4, q5⟩
    cases p6 : Ag.listed m.ents with
    | false =>
      rw [p6] at hLi
      rw [hodd (.inr (.inr (.inr (.inr (.inr p6)))))]
      (first | focus (refine yy16 ?_; (apply awt_s; · exact s_load_pce_agg rfl rfl rfl (by decide)); (apply awt_s; · exact s_callc auto_wl (hGd _)); (apply awt_s; · exact s_notb rfl); (apply awt_s; · exact s_move (v := .raw _) rfl); refine yy1 ?_; (apply awt_s; · exact s_fieldAddr_pce rfl); refine yy1 ?_; (apply awt_s; · exact s_load_pce rfl auto_idx); refine yy1 ?_; (apply awt_s; · exact s_move (v := .ptr _ _) rfl); refine yy1 ?_; (apply awt_s; · exact s_nilCheck_ptr rfl); refine yy1 ?_; (apply awt_s; · exact s_fieldAddr_ptr rfl); refine yy1 ?_; (apply awt_s; · exact s_load_cel rfl auto_heap rfl); refine yy1 ?_; (apply awt_s; · exact s_neq rfl rfl); (apply awt_s; · exact s_pick_f (v := .raw _) rfl rfl); (apply awt_s; · exact s_move (v := .raw _) rfl); refine zt2 rfl rfl rfl (fun hc => ?_) (fun hc => ?_); (apply awt_s; · exact s_fieldAddr_pce rfl); refine yy1 ?_; (apply awt_s; · exact s_load_pce rfl auto_idx); refine yy1 ?_; (apply awt_s; · exact s_move (v := .ptr _ _) rfl); refine yy1 ?_; (apply awt_s; · exact s_nilCheck_ptr rfl); refine yy1 ?_; (apply awt_s; · exact s_fieldAddr_ptr rfl); refine yy1 ?_; (apply awt_s; · exact s_load_cel rfl auto_heap rfl); refine yy1 ?_; (apply awt_s; · exact s_eql rfl rfl); (apply awt_s; · exact s_pick_f (v := .raw _) rfl rfl); (apply awt_s; · exact s_move (v := .raw _) rfl); refine zt2 rfl rfl rfl (fun hc => ?_) (fun hc => ?_); (apply awt_s; · exact s_fieldAddr_pce rfl); refine yy1 ?_; (apply awt_s; · exact s_load_pce rfl auto_idx); refine yy1 ?_; (apply awt_s; · exact s_move (v := .ptr _ _) rfl); refine yy1 ?_; (apply awt_s; · exact s_nilCheck_ptr rfl); refine yy1 ?_; (apply awt_s; · exact s_fieldAddr_ptr rfl); refine yy1 ?_; (apply awt_s; · exact s_load_cel rfl auto_heap rfl); refine yy1 ?_; (apply awt_s; · exact s_geq rfl rfl); (apply awt_s; · exact s_pick_f (v := .raw _) rfl rfl); (apply awt_s; · exact s_move (v := .raw _) rfl); refine zt2 rfl rfl rfl (fun hc => ?_) (fun hc => ?_); (apply awt_s; · exact s_fieldAddr_pce rfl); refine yy1 ?_; (apply awt_s; · exact s_load_pce rfl auto_idx); refine yy1 ?_; (apply awt_s; · exact s_gtn rfl rfl); (apply awt_s; · exact s_pick_f (v := .raw _) rfl rfl); (apply awt_s; · exact s_move (v := .raw _) rfl); refine zt2 rfl rfl rfl (fun hc => ?_) (fun hc => ?_); (apply awt_s; · exact s_fieldAddr_pce rfl); refine yy1 ?_; (apply awt_s; · exact s_load_pce rfl auto_idx); refine yy1 ?_; (apply awt_s; · exact s_callc auto_wl (hLi _)); refine yy1 ?_; (apply awt_s; · exact s_notb rfl); (apply awt_s; · exact s_pick_f (v := .raw _) rfl rfl); refine yy12 ?_; rotate_left; exact absurd hc auto_no; exact absurd hc auto_no; exact absurd hc auto_no; exact absurd hc auto_no) | fail)
      all_goals try (exfalso; omega)
      obtain ⟨H3, hE, q1, q2, q3, q4, q5⟩ := b1.done (Turn.refl _ _ _) a1 z1
      refine aw_ent (H' := H3) (hE _) ?_
      clear hE
      (first | focus (refine yy18 ?_; refine yy4 ?_; refine yy65 ?_; refine yy26 ?_; refine yy24 ?_; rotate_left) | fail)
      all_goals try (exfalso; omega)
      exact ⟨.inl rfl, _, _, _, Ent.cellRet (H0 := H3.erase oR) 4 [saveA _, sendA _] rfl auto_heap auto_wcc erase_sub, ret_1 rfl (rv1_agg (m := 2) rfl rfl rfl (by decide)), rfl, F1, q4, q5⟩
    | true =>
      rw [p6] at hLi
      (first | focus (refine yy16 ?_; (apply awt_s; · exact s_load_pce_agg rfl rfl rfl (by decide)); (apply awt_s; · exact s_callc auto_wl (hGd _)); (apply awt_s; · exact s_notb rfl); (apply awt_s; · exact s_move (v := .raw _) rfl); refine yy1 ?_; (apply awt_s; · exact s_fieldAddr_pce rfl); refine yy1 ?_; (apply awt_s; · exact s_load_pce rfl auto_idx); refine yy1 ?_; (apply awt_s; · exact s_move (v := .ptr _ _) rfl); refine yy1 ?_; (apply awt_s; · exact s_nilCheck_ptr rfl); refine yy1 ?_; (apply awt_s; · exact s_fieldAddr_ptr rfl); refine yy1 ?_; (apply awt_s; · exact s_load_cel rfl auto_heap rfl); refine yy1 ?_; (apply awt_s; · exact s_neq rfl rfl); (apply awt_s; · exact s_pick_f (v := .raw _) rfl rfl); (apply awt_s; · exact s_move (v := .raw _) rfl); refine zt2 rfl rfl rfl (fun hc => ?_) (fun hc => ?_); (apply awt_s; · exact s_fieldAddr_pce rfl); refine yy1 ?_; (apply awt_s; · exact s_load_pce rfl auto_idx); refine yy1 ?_; (apply awt_s; · exact s_move (v := .ptr _ _) rfl); refine yy1 ?_; (apply awt_s; · exact s_nilCheck_ptr rfl); refine yy1 ?_; (apply awt_s; · exact s_fieldAddr_ptr rfl); refine yy1 ?_; (apply awt_s; · exact s_load_cel rfl auto_heap rfl); refine yy1 ?_; (apply awt_s; · exact s_eql rfl rfl); (apply awt_s; · exact s_pick_f (v := .raw _) rfl rfl); (apply awt_s; · exact s_move (v := .raw _) rfl); refine zt2 rfl rfl rfl (fun hc => ?_) (fun hc => ?_); (apply awt_s; · exact s_fieldAddr_pce rfl); refine yy1 ?_; (apply awt_s; · exact s_load_pce rfl auto_idx); refine yy1 ?_; (apply awt_s; · exact s_move (v := .ptr _ _) rfl); refine yy1 ?_; (apply awt_s; · exact s_nilCheck_ptr rfl); refine yy1 ?_; (apply awt_s; · exact s_fieldAddr_ptr rfl); refine yy1 ?_; (apply awt_s; · exact s_load_cel rfl auto_heap rfl); refine yy1 ?_; (apply awt_s; · exact s_geq rfl rfl); (apply awt_s; · exact s_pick_f (v := .raw _) rfl rfl); (apply awt_s; · exact s_move (v := .raw _) rfl); refine zt2 rfl rfl rfl (fun hc => ?_) (fun hc => ?_); (apply awt_s; · exact s_fieldAddr_pce rfl); refine yy1 ?_; (apply awt_s; · exact s_load_pce rfl auto_idx); refine yy1 ?_; (apply awt_s; · exact s_gtn rfl rfl); (apply awt_s; · exact s_pick_f (v := .raw _) rfl rfl); (apply awt_s; · exact s_move (v := .raw _) rfl); refine zt2 rfl rfl rfl (fun hc => ?_) (fun hc => ?_); (apply awt_s; · exact s_fieldAddr_pce rfl); refine yy1 ?_; (apply awt_s; · exact s_load_pce rfl auto_idx); refine yy1 ?_; (apply awt_s; · exact s_callc auto_wl (hLi _)); refine yy1 ?_; (apply awt_s; · exact s_notb rfl); (apply awt_s; · exact s_pick_f (v := .raw _) rfl rfl); refine yy12 ?_; refine yy77 ?_; rotate_left; exact absurd hc auto_no; exact absurd hc auto_no; exact absurd hc auto_no; exact absurd hc auto_no) | fail)
      all_goals try (exfalso; omega)
      refine ⟨_, _, auto_ent, ?_, rfl, rfl⟩
      unfold Ag.Co.odd
      rw [p6]
      rintro (e | e | e | e | e | e)
      · exact e p1
      · exact e p2
      · exact p3 e
      · exact p4 e
      · exact p5 e
      · cases e
  rintro R1 H2 ⟨hno, rfl, rfl⟩
  have hp : m.good ∧ m.to = (c.me : Int) ∧ ¬ m.from_ = (c.me : Int) ∧ ¬ (c.n : Int) ≤ m.from_ ∧ ¬ 1099511627776 < m.view ∧ Ag.listed m.ents = true := by
    unfold Ag.Co.odd at hno
    simp only [not_or, Decidable.not_not, Bool.not_eq_false] at hno
    obtain ⟨e1, e2, e3, e4, e5, e6⟩ := hno
    exact ⟨e1, e2, e3, e4, e5, e6⟩
  obtain ⟨p1, p2, p3, p4, p5, p6⟩ := hp
  have hL := listed_LF hm p6
  have h200 := hL.len
  have h16 := hL.ok
  have p0 : 0 ≤ m.from_ := p1.1.2.1.1
  clear hGd hLi hodd p1 p6
  refine aw_seq ?_
  refine aw_kmid (fun R1 H2 => ¬ m.kind = 1 ∧ H1 = H2 ∧ R1 = [(0, .ptr F.o 0), (3, .pce m.cells 0), (4, .ptr oR 0), (5, .ptr F1.os 0)]) ?_ ?_
  · by_cases k1 : m.kind = 1
    · rw [get_want c m hno k1]
      (first | focus (refine yy4 ?_; refine yy41 ?_; refine awl_s rfl (s_eql rfl rfl) ?_; refine yy3 ?_; refine aw_condp rfl (fun hc => ?_) (fun hc => ?_); refine yy110 ?_; refine yy44 ?_; refine yy55 ?_; rotate_left; exact absurd hc auto_no) | fail)
      all_goals try (exfalso; omega)
      refine aw_loop (fun mm R' H2 => ∃ (i : Nat) (F2 : Ob), SAt H2 F2 (wantK ⟨c, [], []⟩ m.ents i) ∧ Turn F1.l H1 F1 F2 H2 ∧ R' = [(0, .ptr F.o 0), (4, .ptr oR 0), (5, .ptr F1.os 0), (54, lsE m.ents), (55, .raw (.int .i64 (m.ents.length : Int))), (56, .raw (.int .i64 (i : Int)))] ∧ i + mm = m.ents.length) ?_ ?_
      · exact ⟨m.ents.length, _, _, auto_ent, 0, F1, a1, Turn.refl _ _ _, rfl, by omega⟩
      clear hco
      rintro mm R0 H2 ⟨i, F2, c1, c2, rfl, hi⟩
      have hsm := wantK_sm (s := ⟨c, [], []⟩) hf hm.ents i (by omega)
      have l1 : (wantK ⟨c, [], []⟩ m.ents i).save.length ≤ i := by have := hsm.sv; simp only [List.length_nil] at this; omega
      have l2 : (wantK ⟨c, [], []⟩ m.ents i).send.length ≤ 7 * i := by have := hsm.sn; simp only [List.length_nil] at this; omega
      have hf1 := hsm.c
      clear hsm
      by_cases hlt : i < m.ents.length
      · have hg : m.ents[i]? = some m.ents[i] := List.getElem?_eq_getElem hlt
        obtain ⟨e1, e2⟩ := h16 _ (List.getElem_mem hlt)
        have hsuc := wantK_succ (s := ⟨c, [], []⟩) hg
        have hge := ent_get hg
        generalize m.ents[i] = e at *
        generalize wantK ⟨c, [], []⟩ m.ents i = u at *
        have o2 := c2.o.trans b1.o
        have s2 := c2.os
        (first | focus (refine yy10 ?_; refine aw_condp rfl (fun hc => ?_) (fun hc => ?_); refine yy22 ?_; refine yy80 ?_; refine yy97 ?_; refine awl_alloc rfl rfl rfl (fun oN hoN => ?_); refine yy82 ?_; refine yy3 ?_; rotate_left; exact absurd hc auto_no) | fail)
        have hW := wanted_S _ F2 u e (c1.set (x := .cel e.cells) (c1.notin hoN)) hf1 (by omega) e1
        have t2 := c2.set1 (x := .cel e.cells) hoN
        obtain ⟨w1, w2, w3⟩ := hf1.wanted e1
        have hwant : u.want e = if (u.c.wanted e).2 = true then Ag.St.grow { u with c := (u.c.wanted e).1 } else { u with c := (u.c.wanted e).1 } := rfl
        rw [o2] at hW
        generalize u.c.wanted e = x at *
        cases hx : x.2 with
        | true =>
          rw [hx] at hW hwant
          rw [if_pos rfl] at hwant
          (first | focus (refine yy23 ?_; refine yy98 ?_; (refine zc auto_wl (hW) ?_; rintro r H' ⟨rfl, F3, c3, c4⟩); refine yy3 ?_; rotate_left) | fail)
          have hG := grow_calls _ F3 _ c3 w1 (by show u.save.length ≤ _; omega) (by show u.send.length ≤ _; omega)
          rw [c4.o, c4.os, o2, s2] at hG
          clear hW
          (first | focus (refine yy18 ?_; refine yy36 ?_; (refine zc auto_wl (hG) ?_; rintro r H' ⟨rfl, F4, c5, c6⟩); refine yy7 ?_; refine yy25 ?_; rotate_left) | fail)
          all_goals try (exfalso; omega)
          exact ⟨mm - 1, _, _, by omega, auto_ent, i + 1, F4, by rw [hsuc, hwant]; exact c5, (t2.trans c4).trans c6, rfl, by omega⟩
        | false =>
          rw [hx] at hW hwant
          rw [if_neg (by simp)] at hwant
          (first | focus (refine yy23 ?_; refine yy98 ?_; (refine zc auto_wl (hW) ?_; rintro r H' ⟨rfl, F3, c3, c4⟩); refine yy3 ?_; refine yy66 ?_; refine yy25 ?_; rotate_left) | fail)
          all_goals try (exfalso; omega)
          exact ⟨mm - 1, _, _, by omega, auto_ent, i + 1, F3, by rw [hsuc, hwant]; exact c3, t2.trans c4, rfl, by omega⟩
      obtain rfl : i = m.ents.length := by omega
      obtain ⟨H3, hE, q1, q2, q3, q4, q5⟩ := b1.done c2 c1 z1
      refine aw_ent (H' := H3) (hE _) ?_
      clear hE
      (first | focus (refine yy10 ?_; refine yy28 ?_; intro hc; refine yy4 ?_; refine yy65 ?_; refine yy26 ?_; refine yy24 ?_; rotate_left) | fail)
      all_goals try (exfalso; omega)
      exact ⟨.inl rfl, _, _, _, Ent.cellRet (H0 := H3.erase oR) 4 [saveA _, sendA _] rfl auto_heap auto_wcc erase_sub, ret_1 rfl (rv1_agg (m := 2) rfl rfl rfl (by decide)), rfl, F2, q4, q5⟩
    · (first | focus (refine yy4 ?_; refine yy41 ?_; refine awl_s rfl (s_eql rfl rfl) ?_; refine yy3 ?_; refine yy56 ?_; intro hc; rotate_left) | fail)
      all_goals try (exfalso; omega)
      exact ⟨_, _, auto_ent, k1, rfl, rfl⟩
  rintro R1 H2 ⟨k1, rfl, rfl⟩
  have hsm := get1_sm hf (m := m) (by unfold Ag.mostView; omega)
  refine aw_seq ?_
  refine aw_kmid (fun R1 H2 => ∃ F2, SAt H2 F2 (get1 c m) ∧ Turn F1.l H1 F1 F2 H2 ∧ R1 = [(0, .ptr F.o 0), (3, .pce m.cells 0), (4, .ptr oR 0), (5, .ptr F1.os 0)]) ?_ ?_
  · by_cases v1 : c.view < m.view
    · have hg1 : get1 c m = (Ag.St.promise ⟨c, [], []⟩ m.view).vote := by unfold get1; rw [if_pos v1]
      rw [hg1]
      clear hg1 hsm
      have hP := promise_calls H1 F1 ⟨c, [], []⟩ m.view a1 hf (Nat.zero_le _) (by unfold Ag.mostView; omega)
      have hps := promise_sm (s := ⟨c, [], []⟩) hf (v := m.view) (by unfold Ag.mostView; omega)
      rw [b1.o] at hP
      generalize Ag.St.promise ⟨c, [], []⟩ m.view = u at *
      (first | focus (refine yy16 ?_; (apply awt_s; · exact s_fieldAddr_pce rfl); (apply awt_s; · exact s_load_pce rfl auto_idx); (apply awt_s; · exact s_move (v := .ptr _ _) rfl); (apply awt_s; · exact s_nilCheck_ptr rfl); (apply awt_s; · exact s_fieldAddr_ptr rfl); (apply awt_s; · exact s_load_cel rfl auto_heap rfl); (apply awt_s; · exact s_gtn rfl rfl); refine yy12 ?_; refine aw_condp rfl (fun hc => ?_) (fun hc => ?_); refine yy23 ?_; refine yy41 ?_; (refine zc auto_wl (hP) ?_; rintro r H' ⟨rfl, F2, c1, c2⟩); refine yy3 ?_; rotate_left; exact absurd hc auto_no) | fail)
      all_goals try (exfalso; omega)
      have hV := vote_calls _ F2 u c1 hps.c (by have := hps.sv; simp only [List.length_nil] at this; omega) (by have := hps.sn; simp only [List.length_nil] at this; omega)
      rw [c2.o, c2.os, b1.o] at hV
      clear hP
      (first | focus (refine yy36 ?_; (refine zc auto_wl (hV) ?_; rintro r H' ⟨rfl, F3, c3, c4⟩); refine yy3 ?_; rotate_left) | fail)
      all_goals try (exfalso; omega)
      exact ⟨_, _, auto_ent, F3, c3, c2.trans c4, rfl⟩
    · have hg1 : get1 c m = ⟨c, [], []⟩ := by unfold get1; rw [if_neg v1]
      rw [hg1]
      (first | focus (refine yy16 ?_; (apply awt_s; · exact s_fieldAddr_pce rfl); (apply awt_s; · exact s_load_pce rfl auto_idx); (apply awt_s; · exact s_move (v := .ptr _ _) rfl); (apply awt_s; · exact s_nilCheck_ptr rfl); (apply awt_s; · exact s_fieldAddr_ptr rfl); (apply awt_s; · exact s_load_cel rfl auto_heap rfl); (apply awt_s; · exact s_gtn rfl rfl); refine yy12 ?_; refine yy56 ?_; intro hc; rotate_left) | fail)
      all_goals try (exfalso; omega)
      exact ⟨_, _, auto_ent, F1, a1, Turn.refl _ _ _, rfl⟩
  rintro R1 H2 ⟨F2, c1, c2, rfl⟩
  have hpast := get_past c m hno k1
  have hnow := get_now c m hno k1
  have hf1 := hsm.c
  have hn1 : (get1 c m).c.n = c.n := hsm.n
  have l1 : (get1 c m).save.length ≤ 3 := hsm.sv
  have l2 : (get1 c m).send.length ≤ 7 := hsm.sn
  have o2 := c2.o.trans b1.o
  have s2 := c2.os
  clear hsm hco a1
  generalize get1 c m = u at *
  obtain ⟨off, hco, _⟩ := c1.core
  rw [o2] at hco
  unfold coreC at hco
  have f4 := hf1.view
  have f5 := hf1.n
  have f6 := hf1.me
  unfold Ag.mostView at f4
  refine aw_seq ?_
  refine aw_kmid (fun R1 H4 => ¬ m.view < u.c.view ∧ H2 = H4 ∧ R1 = [(0, .ptr F.o 0), (3, .pce m.cells 0), (4, .ptr oR 0), (5, .ptr F1.os 0)]) ?_ ?_
  · by_cases v2 : m.view < u.c.view
    · rw [hpast v2]
      (first | focus (refine yy16 ?_; (apply awt_s; · exact s_fieldAddr_pce rfl); (apply awt_s; · exact s_load_pce rfl auto_idx); (apply awt_s; · exact s_move (v := .ptr _ _) rfl); (apply awt_s; · exact s_nilCheck_ptr rfl); (apply awt_s; · exact s_fieldAddr_ptr rfl); (apply awt_s; · exact s_load_cel rfl auto_heap rfl); (apply awt_s; · exact s_ltn rfl rfl); refine yy12 ?_; rotate_left) | fail)
      all_goals try (exfalso; omega)
      obtain ⟨H3, hE, q1, q2, q3, q4, q5⟩ := b1.done c2 c1 z1
      refine aw_ent (H' := H3) (hE _) ?_
      clear hE
      (first | focus (refine aw_condp rfl (fun hc => ?_) (fun hc => ?_); refine yy4 ?_; refine yy65 ?_; refine yy26 ?_; refine yy24 ?_; rotate_left; exact absurd hc auto_no) | fail)
      all_goals try (exfalso; omega)
      exact ⟨.inl rfl, _, _, _, Ent.cellRet (H0 := H3.erase oR) 4 [saveA _, sendA _] rfl auto_heap auto_wcc erase_sub, ret_1 rfl (rv1_agg (m := 2) rfl rfl rfl (by decide)), rfl, F2, q4, q5⟩
    · (first | focus (refine yy16 ?_; (apply awt_s; · exact s_fieldAddr_pce rfl); (apply awt_s; · exact s_load_pce rfl auto_idx); (apply awt_s; · exact s_move (v := .ptr _ _) rfl); (apply awt_s; · exact s_nilCheck_ptr rfl); (apply awt_s; · exact s_fieldAddr_ptr rfl); (apply awt_s; · exact s_load_cel rfl auto_heap rfl); (apply awt_s; · exact s_ltn rfl rfl); refine yy12 ?_; refine yy56 ?_; intro hc; rotate_left) | fail)
      all_goals try (exfalso; omega)
      exact ⟨_, _, auto_ent, v2, rfl, rfl⟩
  rintro R1 H4 ⟨v2, rfl, rfl⟩
  rw [hnow v2]
  clear hpast hnow hno nd
  obtain ⟨q, hq⟩ : ∃ q : Nat, m.from_ = (q : Int) := ⟨m.from_.toNat, by omega⟩
  have hq2 : m.from_.toNat = q := by omega
  have hqn : q < u.c.n := by omega
  have hmd := Nat.mod_lt u.c.view (show 0 < u.c.n by omega)
  have hld := fun H h => leader_calls H F.o u.c F2.og F2.oh (.vw F2.ow 3 off u.c.wait.length) u.c.view h (by omega) f5 (by omega)
  have hcp := fun H => (copies_own H m.ents (by omega) fun e he => by have := (h16 e he).2; omega).seal_cel (flat_len (sz := 3) (fun _ => rfl) m.ents)
  unfold coreC at hld
  by_cases k3 : m.kind = 3
  · skip
    have hC := fun (h : m.last ≤ m.view) => count_calls H2 F2 u q ⟨m.last, m.ents⟩ c1 hf1 (by omega) (by omega) hqn hL (by unfold Ag.mostView; show m.last ≤ _; omega)
    have hg2 : get2 u m = if u.c.view % u.c.n = u.c.me ∧ m.last ≤ m.view then u.count q ⟨m.last, m.ents⟩ else u := by unfold get2; rw [if_pos k3, hq2]
    rw [hg2]
    rw [o2, s2] at hC
    unfold voteA at hC
    generalize u.c.view % u.c.n = to at *
    by_cases t1 : to = u.c.me ∧ m.last ≤ m.view
    · rw [if_pos t1]
      have hC := hC t1.2
      rw [← hq] at hC
      (first | focus (refine yy46 ?_; refine yy54 ?_; refine aw_condp rfl (fun hc => ?_) (fun hc => ?_); refine yy16 ?_; (apply awt_s; · exact s_move (v := .ptr _ _) rfl); (apply awt_s; · exact s_move (v := .ptr _ _) rfl); (apply awt_s; · exact s_nilCheck_ptr rfl); (apply awt_s; · exact s_fieldAddr_ptr rfl); (apply awt_s; · exact s_load_cel rfl auto_heap rfl); (apply awt_s; · exact s_callc auto_wl (hld _ auto_heap)); (apply awt_s; · exact s_move (v := .ptr _ _) rfl); (apply awt_s; · exact s_nilCheck_ptr rfl); (apply awt_s; · exact s_fieldAddr_ptr rfl); (apply awt_s; · exact s_load_cel rfl auto_heap rfl); (apply awt_s; · exact s_eqn rfl rfl); (apply awt_s; · exact s_move (v := .raw _) rfl); refine zt1 rfl rfl rfl (fun hc => ?_) (fun hc => ?_); (apply awt_s; · exact s_fieldAddr_pce rfl); refine yy1 ?_; (apply awt_s; · exact s_load_pce rfl auto_idx); refine yy1 ?_; (apply awt_s; · exact s_fieldAddr_pce rfl); refine yy1 ?_; (apply awt_s; · exact s_load_pce rfl auto_idx); refine yy1 ?_; (apply awt_s; · exact s_len_ rfl rfl); (apply awt_s; · exact s_pick_t (v := .raw _) rfl rfl); refine yy12 ?_; refine aw_condp rfl (fun hc => ?_) (fun hc => ?_); refine yy85 ?_; (apply awt_s; · exact s_move (v := .ptr _ _) rfl); (apply awt_s; · exact s_fieldAddr_pce rfl); (apply awt_s; · exact s_load_pce rfl auto_idx); (apply awt_s; · exact s_fieldAddr_pce rfl); (apply awt_s; · exact s_load_pce rfl auto_idx); (apply awt_s; · exact s_fieldAddr_pce rfl); (apply awt_s; · exact s_load_pce rfl auto_idx); (apply awt_s; · exact s_callc auto_wl (hcp _)); (apply awt_s; · exact s_buildv (by ((repeat' (first | exact eqL_nil | apply eqL_cons)); all_goals (first | exact (rfl : _ = AV.raw _) | exact (rfl : _ = AV.bys _) | exact (rfl : _ = AV.vw _ _ _ _) | exact (rfl : _ = AV.ptr _ _) | exact (rfl : _ = AV.str _) | exact (rfl : _ = AV.sls _ _) | exact (rfl : _ = AV.tup _) | exact (rfl : _ = AV.agg _) | exact (rfl : _ = AV.pce _ _) | exact (rfl : _ = AV.emp) | exact (rfl : _ = AV.bysx _) | exact (rfl : _ = AV.slsx _ _) | exact (rfl : _ = AV.mp _) | exact (rfl : _ = AV.fnc _ _ _) | exact (rfl : _ = AV.pby _ _) | exact (rfl : _ = AV.ifc _ _)))) (by rfl)); refine awt_last ?_; (refine zc auto_wl (hC) ?_; rintro r H' ⟨rfl, F3, c3, c4⟩); refine yy7 ?_; refine yy35 ?_; rotate_left; exact absurd hc auto_no; exact absurd hc auto_no; exact absurd hc auto_no) | fail)
      all_goals try (exfalso; omega)
      all_goals (
        obtain ⟨H3, hE, q1, q2, q3, q4, q5⟩ := b1.done (c2.trans c4) c3 z1
        refine aw_ent (H' := H3) (hE _) ?_
        clear hE
        (first | focus (refine yy4 ?_; refine yy65 ?_; refine yy26 ?_; rotate_left) | fail)
        all_goals try (exfalso; omega)
        exact ⟨.inl rfl, _, _, _, Ent.cellRet (H0 := H3.erase oR) 4 [saveA _, sendA _] rfl auto_heap auto_wcc erase_sub, ret_1 rfl (rv1_agg (m := 2) rfl rfl rfl (by decide)), rfl, F3, q4, q5⟩)
    · rw [if_neg t1]
      clear hC
      (first | focus (refine yy46 ?_; refine yy54 ?_; refine aw_condp rfl (fun hc => ?_) (fun hc => ?_); refine yy16 ?_; (apply awt_s; · exact s_move (v := .ptr _ _) rfl); (apply awt_s; · exact s_move (v := .ptr _ _) rfl); (apply awt_s; · exact s_nilCheck_ptr rfl); (apply awt_s; · exact s_fieldAddr_ptr rfl); (apply awt_s; · exact s_load_cel rfl auto_heap rfl); (apply awt_s; · exact s_callc auto_wl (hld _ auto_heap)); (apply awt_s; · exact s_move (v := .ptr _ _) rfl); (apply awt_s; · exact s_nilCheck_ptr rfl); (apply awt_s; · exact s_fieldAddr_ptr rfl); (apply awt_s; · exact s_load_cel rfl auto_heap rfl); (apply awt_s; · exact s_eqn rfl rfl); (apply awt_s; · exact s_move (v := .raw _) rfl); refine zt1 rfl rfl rfl (fun hc => ?_) (fun hc => ?_); (apply awt_s; · exact s_fieldAddr_pce rfl); refine yy1 ?_; (apply awt_s; · exact s_load_pce rfl auto_idx); refine yy1 ?_; (apply awt_s; · exact s_fieldAddr_pce rfl); refine yy1 ?_; (apply awt_s; · exact s_load_pce rfl auto_idx); refine yy1 ?_; (apply awt_s; · exact s_len_ rfl rfl); (apply awt_s; · exact s_pick_t (v := .raw _) rfl rfl); refine yy12 ?_; refine yy86 ?_; intro hc; refine aw_skip ?_; refine yy35 ?_; rotate_left; refine yy14 ?_; (apply awt_s; · exact s_pick_f (v := .raw _) rfl rfl); refine yy12 ?_; refine yy66 ?_; refine yy35 ?_; rotate_left; exact absurd hc auto_no) | fail)
      all_goals try (exfalso; omega)
      all_goals (
        obtain ⟨H3, hE, q1, q2, q3, q4, q5⟩ := b1.done c2 c1 z1
        refine aw_ent (H' := H3) (hE _) ?_
        clear hE
        (first | focus (refine yy4 ?_; refine yy65 ?_; refine yy26 ?_; rotate_left) | fail)
        all_goals try (exfalso; omega)
        exact ⟨.inl rfl, _, _, _, Ent.cellRet (H0 := H3.erase oR) 4 [saveA _, sendA _] rfl auto_heap auto_wcc erase_sub, ret_1 rfl (rv1_agg (m := 2) rfl rfl rfl (by decide)), rfl, F2, q4, q5⟩)
  by_cases k5 : m.kind = 5
  · skip
    cases hl : u.c.lead with
    | false =>
      have hg2 : get2 u m = u := by unfold get2; rw [if_neg k3, if_pos k5, if_neg (by rw [hl]; simp)]
      rw [hg2]
      rw [hl] at hco
      (first | focus (refine yy46 ?_; refine yy54 ?_; refine yy15 ?_; intro hc; refine aw_condp rfl (fun hc => ?_) (fun hc => ?_); refine yy4 ?_; refine yy8 ?_; refine yy3 ?_; refine yy66 ?_; refine yy35 ?_; rotate_left; exact absurd hc auto_no) | fail)
      all_goals try (exfalso; omega)
      obtain ⟨H3, hE, q1, q2, q3, q4, q5⟩ := b1.done c2 c1 z1
      refine aw_ent (H' := H3) (hE _) ?_
      clear hE
      (first | focus (refine yy4 ?_; refine yy65 ?_; refine yy26 ?_; rotate_left) | fail)
      all_goals try (exfalso; omega)
      exact ⟨.inl rfl, _, _, _, Ent.cellRet (H0 := H3.erase oR) 4 [saveA _, sendA _] rfl auto_heap auto_wcc erase_sub, ret_1 rfl (rv1_agg (m := 2) rfl rfl rfl (by decide)), rfl, F2, q4, q5⟩
    | true =>
      have hg2 : get2 u m = { u with c := Ag.Co.settle { u.c with held := Ag.upd u.c.held q (some (max ((u.c.held q).getD 0) m.op)) } } := by unfold get2; rw [if_neg k3, if_pos k5, if_pos hl, hq2]
      rw [hg2]
      rw [hl] at hco
      have c0 := c1
      obtain ⟨⟨_, _, ⟨eh, hh, hh2⟩⟩, _, _, _, nd2⟩ := c1
      have d1 := nd2.o_oh
      rw [o2] at d1
      have hget := hh2.get (q : Int)
      rw [if_pos (by omega), Int.toNat_natCast] at hget
      have hhe := hf1.held q
      obtain ⟨r1, r2⟩ := c0.rehold (c' := { u.c with held := Ag.upd u.c.held q (some (max ((u.c.held q).getD 0) m.op)) }) _ (hh2.upd q (max ((u.c.held q).getD 0) m.op) (d := { u.c with held := Ag.upd u.c.held q (some (max ((u.c.held q).getD 0) m.op)) }) rfl) rfl
      have hb2 : (u.c.held q).getD 0 < 2 ^ 64 := by
        cases hx : u.c.held q with
        | none => simp
        | some v => exact (hhe v hx).2
      have hf2 : CFine ({ u.c with held := Ag.upd u.c.held q (some (max ((u.c.held q).getD 0) m.op)) } : Ag.Co) := hf1.hold hqn (by omega)
      have v1 : (eh.get (q : Int)).getD (.raw (.int .u64 0)) = .raw (.int .u64 (((u.c.held q).getD 0 : Nat) : Int)) := by rw [hget]; cases u.c.held q <;> rfl
      have em : (max (((u.c.held q).getD 0 : Nat) : Int) (m.op : Int)) = ((max ((u.c.held q).getD 0) m.op : Nat) : Int) := by omega
      generalize (u.c.held q).getD 0 = hd at *
      rw [← hq] at v1 r1 r2
      (first | focus (refine yy46 ?_; refine yy54 ?_; refine yy15 ?_; intro hc; refine aw_condp rfl (fun hc => ?_) (fun hc => ?_); refine yy4 ?_; refine yy8 ?_; refine yy3 ?_; refine yy18 ?_; refine yy16 ?_; (apply awt_s; · exact s_move (v := .ptr _ _) rfl); (apply awt_s; · exact s_nilCheck_ptr rfl); (apply awt_s; · exact s_fieldAddr_ptr rfl); (apply awt_s; · exact s_load_cel rfl auto_heap rfl); (apply awt_s; · exact s_fieldAddr_pce rfl); (apply awt_s; · exact s_load_pce rfl auto_idx); (apply awt_s; · exact s_move (v := .ptr _ _) rfl); (apply awt_s; · exact s_nilCheck_ptr rfl); (apply awt_s; · exact s_fieldAddr_ptr rfl); (apply awt_s; · exact s_load_cel rfl auto_heap rfl); (apply awt_s; · exact s_fieldAddr_pce rfl); (apply awt_s; · exact s_load_pce rfl auto_idx); (apply awt_s; · exact s_lookupI rfl rfl auto_heap (by first | assumption | rfl)); (apply awt_s; · exact s_fieldAddr_pce rfl); (apply awt_s; · exact s_load_pce rfl auto_idx); (apply awt_s; · exact s_maxi rfl rfl); refine awt_last ?_; refine awl_mapUpdateI rfl rfl auto_mv auto_heap ?_; refine yy3 ?_; rotate_left; exact absurd hc auto_no) | fail)
      all_goals try (exfalso; omega)
      rw [em]
      refine aw_ent (R' := [(0, .ptr F.o 0), (4, .ptr oR 0), (5, .ptr F1.os 0)]) (H' := H2.set F2.oh ((eh.put m.from_ (uI (max hd m.op))).ao .i64)) (Ent.sub _ (by (repeat' (first | exact RSub.nil _ | apply RSub.cons)); all_goals rfl)) ?_
      clear hh hh2 hget v1 hco
      generalize H2.set F2.oh ((eh.put m.from_ (uI (max hd m.op))).ao .i64) = H5 at *
      have hS := settle_S H5 F2 _ r1 hf2
      rw [o2] at hS
      (first | focus (refine yy36 ?_; (refine zc auto_wl (hS) ?_; rintro r H' ⟨rfl, c5, c6⟩); refine yy7 ?_; refine yy35 ?_; rotate_left) | fail)
      obtain ⟨H3, hE, q1, q2, q3, q4, q5⟩ := b1.done ((c2.trans r2).trans c6) c5 z1
      refine aw_ent (H' := H3) (hE _) ?_
      clear hE
      (first | focus (refine yy4 ?_; refine yy65 ?_; refine yy26 ?_; rotate_left) | fail)
      all_goals try (exfalso; omega)
      exact ⟨.inl rfl, _, _, _, Ent.cellRet (H0 := H3.erase oR) 4 [saveA _, sendA _] rfl auto_heap auto_wcc erase_sub, ret_1 rfl (rv1_agg (m := 2) rfl rfl rfl (by decide)), rfl, F2, q4, q5⟩
  by_cases k4 : m.kind = 4 ∨ m.kind = 6
  · skip
    have hg2 : get2 u m = if m.from_ = ((u.c.view % u.c.n : Nat) : Int) then u.hear m else u := by unfold get2; rw [if_neg k3, if_neg k5, if_pos k4]
    rw [hg2]
    have hH := hear_calls H2 F2 u m c1 hf1 (by omega) (by omega) hm hL (by unfold Ag.mostView; omega)
    rw [o2, s2] at hH
    generalize u.c.view % u.c.n = to at *
    by_cases t1 : m.from_ = (to : Int)
    · rw [if_pos t1]
      (first | focus (refine yy46 ?_; refine yy54 ?_; refine yy15 ?_; intro hc; refine yy86 ?_; intro hc; refine yy13 ?_; refine yy54 ?_; refine aw_condp rfl (fun hc => ?_) (fun hc => ?_); refine yy67 ?_; refine aw_condp rfl (fun hc => ?_) (fun hc => ?_); refine yy16 ?_; (apply awt_s; · exact s_fieldAddr_pce rfl); (apply awt_s; · exact s_load_pce rfl auto_idx); (apply awt_s; · exact s_move (v := .ptr _ _) rfl); (apply awt_s; · exact s_move (v := .ptr _ _) rfl); (apply awt_s; · exact s_nilCheck_ptr rfl); (apply awt_s; · exact s_fieldAddr_ptr rfl); (apply awt_s; · exact s_load_cel rfl auto_heap rfl); (apply awt_s; · exact s_callc auto_wl (hld _ auto_heap)); (apply awt_s; · exact s_eql rfl rfl); refine yy12 ?_; refine aw_condp rfl (fun hc => ?_) (fun hc => ?_); refine yy36 ?_; refine yy63 ?_; (refine zc auto_wl (hH) ?_; rintro r H' ⟨rfl, F3, c3, c4⟩); refine yy7 ?_; refine yy35 ?_; rotate_left; exact absurd hc auto_no; exact absurd hc auto_no; refine aw_region ?_; refine yy54 ?_; refine aw_condp rfl (fun hc => ?_) (fun hc => ?_); refine yy16 ?_; (apply awt_s; · exact s_fieldAddr_pce rfl); (apply awt_s; · exact s_load_pce rfl auto_idx); (apply awt_s; · exact s_move (v := .ptr _ _) rfl); (apply awt_s; · exact s_move (v := .ptr _ _) rfl); (apply awt_s; · exact s_nilCheck_ptr rfl); (apply awt_s; · exact s_fieldAddr_ptr rfl); (apply awt_s; · exact s_load_cel rfl auto_heap rfl); (apply awt_s; · exact s_callc auto_wl (hld _ auto_heap)); (apply awt_s; · exact s_eql rfl rfl); refine yy12 ?_; refine aw_condp rfl (fun hc => ?_) (fun hc => ?_); refine yy36 ?_; refine yy63 ?_; (refine zc auto_wl (hH) ?_; rintro r H' ⟨rfl, F3, c3, c4⟩); refine yy7 ?_; refine yy35 ?_; rotate_left; exact absurd hc auto_no; exact absurd hc auto_no) | fail)
      all_goals try (exfalso; omega)
      all_goals (
        obtain ⟨H3, hE, q1, q2, q3, q4, q5⟩ := b1.done (c2.trans c4) c3 z1
        refine aw_ent (H' := H3) (hE _) ?_
        clear hE
        (first | focus (refine yy4 ?_; refine yy65 ?_; refine yy26 ?_; rotate_left) | fail)
        all_goals try (exfalso; omega)
        exact ⟨.inl rfl, _, _, _, Ent.cellRet (H0 := H3.erase oR) 4 [saveA _, sendA _] rfl auto_heap auto_wcc erase_sub, ret_1 rfl (rv1_agg (m := 2) rfl rfl rfl (by decide)), rfl, F3, q4, q5⟩)
    · rw [if_neg t1]
      (first | focus (refine yy46 ?_; refine yy54 ?_; refine yy15 ?_; intro hc; refine yy86 ?_; intro hc; refine yy13 ?_; refine yy54 ?_; refine aw_condp rfl (fun hc => ?_) (fun hc => ?_); refine yy67 ?_; refine aw_condp rfl (fun hc => ?_) (fun hc => ?_); refine yy16 ?_; (apply awt_s; · exact s_fieldAddr_pce rfl); (apply awt_s; · exact s_load_pce rfl auto_idx); (apply awt_s; · exact s_move (v := .ptr _ _) rfl); (apply awt_s; · exact s_move (v := .ptr _ _) rfl); (apply awt_s; · exact s_nilCheck_ptr rfl); (apply awt_s; · exact s_fieldAddr_ptr rfl); (apply awt_s; · exact s_load_cel rfl auto_heap rfl); (apply awt_s; · exact s_callc auto_wl (hld _ auto_heap)); (apply awt_s; · exact s_eql rfl rfl); refine yy12 ?_; refine yy86 ?_; intro hc; refine aw_skip ?_; refine yy35 ?_; rotate_left; exact absurd hc auto_no; refine aw_region ?_; refine yy54 ?_; refine aw_condp rfl (fun hc => ?_) (fun hc => ?_); refine yy16 ?_; (apply awt_s; · exact s_fieldAddr_pce rfl); (apply awt_s; · exact s_load_pce rfl auto_idx); (apply awt_s; · exact s_move (v := .ptr _ _) rfl); (apply awt_s; · exact s_move (v := .ptr _ _) rfl); (apply awt_s; · exact s_nilCheck_ptr rfl); (apply awt_s; · exact s_fieldAddr_ptr rfl); (apply awt_s; · exact s_load_cel rfl auto_heap rfl); (apply awt_s; · exact s_callc auto_wl (hld _ auto_heap)); (apply awt_s; · exact s_eql rfl rfl); refine yy12 ?_; refine yy86 ?_; intro hc; refine aw_skip ?_; refine yy35 ?_; rotate_left; exact absurd hc auto_no) | fail)
      all_goals try (exfalso; omega)
      all_goals (
        obtain ⟨H3, hE, q1, q2, q3, q4, q5⟩ := b1.done c2 c1 z1
        refine aw_ent (H' := H3) (hE _) ?_
        clear hE
        (first | focus (refine yy4 ?_; refine yy65 ?_; refine yy26 ?_; rotate_left) | fail)
        all_goals try (exfalso; omega)
        exact ⟨.inl rfl, _, _, _, Ent.cellRet (H0 := H3.erase oR) 4 [saveA _, sendA _] rfl auto_heap auto_wcc erase_sub, ret_1 rfl (rv1_agg (m := 2) rfl rfl rfl (by decide)), rfl, F2, q4, q5⟩)
  have hg2 : get2 u m = u := by unfold get2; rw [if_neg k3, if_neg k5, if_neg k4]
  rw [hg2]
  (first | focus (refine yy46 ?_; refine yy54 ?_; refine yy15 ?_; intro hc; refine yy86 ?_; intro hc; refine yy13 ?_; refine yy54 ?_; refine yy86 ?_; intro hc; refine aw_region ?_; refine yy54 ?_; refine yy86 ?_; intro hc; refine aw_skip ?_; refine yy35 ?_; rotate_left) | fail)
  all_goals try (exfalso; omega)
  obtain ⟨H3, hE, q1, q2, q3, q4, q5⟩ := b1.done c2 c1 z1
  refine aw_ent (H' := H3) (hE _) ?_
  clear hE
  (first | focus (refine yy4 ?_; refine yy65 ?_; refine yy26 ?_; rotate_left) | fail)
  all_goals try (exfalso; omega)
  exact ⟨.inl rfl, _, _, _, Ent.cellRet (H0 := H3.erase oR) 4 [saveA _, sendA _] rfl auto_heap auto_wcc erase_sub, ret_1 rfl (rv1_agg (m := 2) rfl rfl rfl (by decide)), rfl, F2, q4, q5⟩
end Go.Proofs.Ytbciofnejefkiaa

namespace Go.Proofs.Ytbciofnejefkiaa
open Go Go.Am Go.Proofs

theorem Committed_calls (H : AHeap) (F : Ob) (c : Ag.Co) (h : CAt H F c) (hf : CFine c) :
    ACalls Try.prog 18 [.ptr F.o 0] H fun r H' => r = lsE (c.list.take c.agreed) ∧ H' = H := by
  obtain ⟨off, _, hco, _⟩ := h.core
  have f1 := hf.list.len
  have f2 := hf.agr
  have f3 := hf.list.ok
  have hl : (c.list.take c.agreed).length = c.agreed := by rw [List.length_take]; omega
  have hcp : ∀ H, ACalls Try.prog 43 [.sls (c.agreed - 0) (List.take ((c.agreed - 0) * 3) (List.drop (0 * 3) (c.list.flatMap En.cells)))] H fun r H' => r = lsE (c.list.take c.agreed) ∧ H' = H := fun H => by
    have h1 := (copies_own H (c.list.take c.agreed) (by omega) fun e he => by have := (f3 e (List.mem_of_mem_take he)).2; omega).seal_cel (flat_len (sz := 3) (fun _ => rfl) _)
    unfold lsE at h1 ⊢
    rw [hl] at h1 ⊢
    rw [Nat.sub_zero, Nat.zero_mul, List.drop_zero, flat_take _ _ f2]; exact h1
  unfold coreC at hco
  refine acalls_of_aw1 Try.func18 rfl (by decide) ?_
  (first | focus (refine yy4 ?_; refine yy6 ?_; refine yy16 ?_; (apply awt_s; · exact s_move (v := .ptr _ _) rfl); (apply awt_s; · exact s_nilCheck_ptr rfl); (apply awt_s; · exact s_fieldAddr_ptr rfl); (apply awt_s; · exact s_load_cel rfl auto_heap rfl); (apply awt_s; · exact s_move (v := .ptr _ _) rfl); (apply awt_s; · exact s_nilCheck_ptr rfl); (apply awt_s; · exact s_fieldAddr_ptr rfl); (apply awt_s; · exact s_load_cel rfl auto_heap rfl); (apply awt_s; · exact s_slice_sls rfl auto_bnd auto_bnd auto_len auto_len); (apply awt_s; · exact s_callc auto_wl (hcp _)); (apply awt_s; · exact s_assign (v := .sls _ _) rfl); refine yy12 ?_; refine aw_ret ?_; rotate_left) | fail)
  exact ⟨.inl rfl, _, _, _, Ent.refl _ _, ret1 rfl rfl, rfl, rfl⟩
theorem New_calls (H : AHeap) (me n : Nat) (hm : me < n) (h7 : n ≤ 7) (h2 : n % 2 = 1) :
    ACalls Try.prog 15 [mI (me : Int), mI (n : Int)] H fun r H' => ∃ F : Ob, r = .tup [.ptr F.o 0, mI 0] ∧ CAt H' F (Ag.Co.new me n) ∧ NdC F ∧ (∀ p ∈ F.c, H p = none) ∧ ∀ p y, H p = some y → H' p = some y := by
  refine acalls_of_aw2 Try.func15 rfl (by decide) ?_
  (first | focus (refine yy4 ?_; refine yy31 ?_; refine yy6 ?_; refine yy11 ?_; refine awl_s rfl (s_ltn rfl rfl) ?_; refine yy2 ?_; refine zg2 rfl rfl rfl (fun hc => ?_) (fun hc => ?_); exact absurd hc auto_no; refine yy19 ?_; refine yy37 ?_; refine yy21 ?_; refine yy2 ?_; refine zg2 rfl rfl rfl (fun hc => ?_) (fun hc => ?_); exact absurd hc auto_no; refine yy19 ?_; refine awl_s rfl (s_remn rfl rfl auto_len) ?_; refine yy5 ?_; refine yy48 ?_; refine yy21 ?_; refine yy2 ?_; refine zg2 rfl rfl rfl (fun hc => ?_) (fun hc => ?_); exact absurd hc auto_no; refine yy19 ?_; refine awl_s rfl (s_ltn rfl rfl) ?_; refine yy21 ?_; refine yy2 ?_; refine zg2 rfl rfl rfl (fun hc => ?_) (fun hc => ?_); exact absurd hc auto_no; refine yy19 ?_; refine yy19 ?_; refine yy96 ?_; refine yy49 ?_; refine yy56 ?_; intro hc; refine yy51 ?_; refine yy2 ?_; refine yy76 ?_; refine zb1 rfl rfl rfl (fun oN hoN => ?_); refine yy93 ?_; refine yy3 ?_; refine yy23 ?_; (refine zc auto_wl (follow_calls _ oN _ _ _ _ _ _ _ _ _ _ _ auto_heap) ?_; rintro r H' ⟨rfl, og, oh, e1, e2, e3, e4, e5, e6, e7⟩); refine yy3 ?_; rotate_left) | fail)
  all_goals try (exfalso; omega)
  have n1 : og ≠ oN := AHeap.ne_of_fresh e1
  have n2 : oh ≠ oN := AHeap.ne_of_fresh e2
  have k1 : H og = none := AHeap.none_of_set e1
  have k2 : H oh = none := AHeap.none_of_set e2
  refine aw_ent (R' := [(6, .ptr oN 0)]) (H' := H'.set oN (.cel [mI (me : Int), mI (n : Int), uI 0, uI 0, lsE [], mI 0, bB false, mI 0, .mp og, .mp oh, .raw (.slice none 0 0)])) ((Ent.wcelH (heap_id e6).symm (WC.cons (W.of rfl) (WC.cons (W.of rfl) (WC.cons (W.of rfl) (WC.cons (W.of rfl) (WC.cons (W.nils rfl) (WC.cons (W.of rfl) (WC.cons (W.of rfl) (WC.cons (W.of rfl) (WC.cons (W.of rfl) (WC.cons (W.of rfl) (WC.cons (W.of rfl) WC.nil)))))))))))).trans (Ent.sub _ (by (repeat' (first | exact RSub.nil _ | apply RSub.cons)); all_goals rfl))) ?_
  refine aw_own_cell (o := oN) 10 3 (AHeap.set_self _ _ _) rfl (fun ow how => ?_)
  have m1 : ow ≠ oN := AHeap.ne_of_fresh how
  have m2 : H' ow = none := AHeap.none_of_set how
  have m3 : og ≠ ow := fun e => by rw [e, m2] at e4; cases e4
  have m4 : oh ≠ ow := fun e => by rw [e, m2] at e5; cases e5
  have m5 : H ow = none := by
    cases hx : H ow with
    | none => rfl
    | some y => rw [e7 ow y m1 (AHeap.get_skip m1 hx)] at m2; cases m2
  (first | focus (refine yy23 ?_; refine yy93 ?_; refine yy9 ?_; rotate_left) | fail)
  refine ⟨.inl rfl, _, _, _, Ent.refl _ _, ret_2 rfl (rv1_tmp rfl) (rv1_tmp rfl), ⟨oN, og, oh, ow, 0, 0, 0⟩, rfl, ⟨⟨0, [], AHeap.get_skip m1.symm (AHeap.set_self _ _ _), AHeap.set_self _ _ _, rfl, rfl⟩, ⟨[], AHeap.get_skip m3 (AHeap.get_skip n1 (AHeap.get_skip n1 e4)), GotM.nil fun _ => rfl⟩, ⟨[], AHeap.get_skip m4 (AHeap.get_skip n2 (AHeap.get_skip n2 e5)), HeldM.nil fun _ => rfl⟩⟩, ⟨n1.symm, n2.symm, m1.symm, e3, m3, m4⟩, ?_, fun p y hp => ?_⟩
  · intro p hp
    simp only [Ob.c, List.mem_cons, List.not_mem_nil, or_false] at hp
    rcases hp with e | e | e | e <;> rw [e]
    · exact hoN
    · exact k1
    · exact k2
    · exact m5
  · have hne : ∀ {q : Nat}, H q = none → p ≠ q := fun b e => by rw [e, b] at hp; cases hp
    exact AHeap.get_skip (hne m5) (AHeap.get_skip (hne hoN) (AHeap.get_skip (hne hoN) (e7 p y (hne hoN) (AHeap.get_skip (hne hoN) hp))))
end Go.Proofs.Ytbciofnejefkiaa


namespace Go.Proofs.Ytbciofnejefkiaa
open Go Go.Am Go.Proofs

def rdIs : Nat → List UInt8 → Bool → List Int × List UInt8 × Bool
  | 0, b, f => ([], b, f)
  | n + 1, b, f => (unzig (rd b).1 :: (rdIs n (rd b).2.1 (f || (rd b).2.2)).1, (rdIs n (rd b).2.1 (f || (rd b).2.2)).2)
theorem rdIs_snoc : ∀ (n : Nat) (b : List UInt8) (f : Bool), rdIs (n + 1) b f = ((rdIs n b f).1 ++ [unzig (rd (rdIs n b f).2.1).1], (rd (rdIs n b f).2.1).2.1, ((rdIs n b f).2.2 || (rd (rdIs n b f).2.1).2.2))
  | 0, b, f => by simp [rdIs]
  | n + 1, b, f => by
    have ih := rdIs_snoc n (rd b).2.1 (f || (rd b).2.2)
    rw [rdIs, ih]
    simp [rdIs]
theorem rdIs_len : ∀ (n : Nat) (b : List UInt8) (f : Bool), (rdIs n b f).1.length = n
  | 0, _, _ => rfl
  | n + 1, b, f => by simp [rdIs, rdIs_len n]
theorem rdIs_left : ∀ (n : Nat) (b : List UInt8) (f : Bool), (rdIs n b f).2.1.length ≤ b.length
  | 0, _, _ => Nat.le_refl _
  | n + 1, b, f => Nat.le_trans (rdIs_left n _ _) (rd_len b)
def En0 : En := ⟨0, 0, []⟩
def hdE (b : List UInt8) : Nat × List UInt8 × Bool := ((rd (rd (rd b).2.1).2.1).1, (rd (rd (rd b).2.1).2.1).2.1, ((rd b).2.2 || (rd (rd b).2.1).2.2) || (rd (rd (rd b).2.1).2.1).2.2)
def getE (b : List UInt8) : Option En :=
  if (hdE b).2.1.length < (hdE b).1 then none
  else if (rdIs (hdE b).1 (hdE b).2.1 (hdE b).2.2).2.2 = true ∨ (rdIs (hdE b).1 (hdE b).2.1 (hdE b).2.2).2.1 ≠ [] then none
  else some ⟨(rd b).1, (rd (rd b).2.1).1, (rdIs (hdE b).1 (hdE b).2.1 (hdE b).2.2).1⟩
def outE : Option En → AV
  | none => .tup [.agg En0.cells, .raw (.int .i64 (3 : Int))]
  | some e => .tup [.agg e.cells, .raw (.int .i64 (0 : Int))]

theorem none_frame {H H2 : AHeap} (hfr : ∀ p y, H p = some y → H2 p = some y) {o : Nat} (h : H2 o = none) : H o = none := by
  cases e : H o with
  | none => rfl
  | some y => have := hfr _ _ e; rw [h] at this; cases this
theorem GetEntry_calls (H : AHeap) (b : List UInt8) (hb : b.length ≤ 100000000) :
    ACalls Try.prog 58 [.bys b] H fun r H' => r = outE (getE b) ∧ H' = H := by
  have l1 := rd_len b
  have l2 := rd_len (rd b).2.1
  have l3 := rd_len (rd (rd b).2.1).2.1
  refine acalls_of_aw1 Try.func58 rfl (by decide) ?_
  (first | focus (refine yy4 ?_; refine awl_alloc rfl rfl rfl (fun oN hoN => ?_); refine yy27 ?_; refine yy30 ?_; (refine zc auto_wl (read_calls _ _ auto_sd) ?_; rintro r H' ⟨oR, hoR, rfl, rfl⟩); refine yy93 ?_; refine yy3 ?_; refine yy23 ?_; (refine zc auto_wl (RU_calls _ _ _ _ auto_heap auto_sd) ?_; rintro r H' ⟨rfl, rfl⟩); refine yy17 ?_; (refine zc auto_wl (RU_calls _ _ _ _ auto_heap auto_sd) ?_; rintro r H' ⟨rfl, rfl⟩); refine yy76 ?_; refine awl_alloc rfl rfl rfl (fun oN hoN => ?_); refine yy82 ?_; refine yy3 ?_; refine yy23 ?_; (refine zc auto_wl (RU_calls _ _ _ _ auto_heap auto_sd) ?_; rintro r H' ⟨rfl, rfl⟩); refine yy6 ?_; refine yy11 ?_; refine yy17 ?_; (refine zc auto_wl (left_calls _ _ _ _ auto_heap) ?_; rintro r H' ⟨rfl, rfl⟩); refine awl_s rfl (s_convn rfl (by omega)) ?_; refine yy37 ?_; refine yy3 ?_; refine aw_condp rfl (fun hc => ?_) (fun hc => ?_); refine yy4 ?_; refine yy76 ?_; refine yy88 ?_; refine yy9 ?_; refine yy24 ?_; rotate_left; refine yy67 ?_; refine yy11 ?_; refine yy55 ?_; rotate_left) | fail)
  · have e : getE b = none := if_pos (show (hdE b).2.1.length < (hdE b).1 from hc)
    exact ⟨.inl rfl, _, _, _, Ent.cellRet 2 En0.cells rfl auto_heap auto_wcc auto_hs, ret_2 rfl (rv1_agg (m := 3) rfl rfl rfl (by decide)) (rv1_tmp rfl), by rw [e]; rfl, rfl⟩
  obtain ⟨n, hn⟩ : ∃ n, (rd (rd (rd b).2.1).2.1).1 = n := ⟨_, rfl⟩
  obtain ⟨b3, hb3⟩ : ∃ b3, (rd (rd (rd b).2.1).2.1).2.1 = b3 := ⟨_, rfl⟩
  obtain ⟨f3, hf3⟩ : ∃ f3, ((rd b).2.2 || (rd (rd b).2.1).2.2 || (rd (rd (rd b).2.1).2.1).2.2) = f3 := ⟨_, rfl⟩
  have hE : getE b = if (rdIs n b3 f3).2.2 = true ∨ (rdIs n b3 f3).2.1 ≠ [] then none else some ⟨(rd b).1, (rd (rd b).2.1).1, (rdIs n b3 f3).1⟩ := by
    rw [getE, if_neg (show ¬ (hdE b).2.1.length < (hdE b).1 from hc), ← hn, ← hb3, ← hf3]; rfl
  have hl3 : b3.length ≤ 100000000 := by rw [← hb3]; omega
  have hnb : n ≤ b3.length := by rw [← hb3, ← hn]; omega
  simp only [Bool.false_or]
  rw [hn, hb3, hf3]
  clear hc l1 l2 l3
  refine aw_loop (fun mm R' H2 => ∃ (i oZ oE oR : Nat) (row : List Int) (b' : List UInt8) (f' : Bool) (rc : AV), (oZ ≠ oE ∧ oZ ≠ oR ∧ oE ≠ oR ∧ H oZ = none ∧ H oE = none ∧ H oR = none) ∧ H2 oZ = some (.cel [.raw (.int .u64 0), .raw (.int .u64 0), .raw (.slice none 0 0)]) ∧
    H2 oE = some (.cel [.raw (.int .u64 ((rd b).1 : Int)), .raw (.int .u64 ((rd (rd b).2.1).1 : Int)), rc]) ∧ H2 oR = some (.cel [.bys b', .raw (.bool f')]) ∧ (∀ p y, H p = some y → H2 p = some y) ∧
    ((i = 0 ∧ rc = .raw (.slice none 0 0)) ∨ (0 < i ∧ ∃ oW, rc = .vw oW 1 0 i ∧ H2 oW = some (.cel (row.map mI)) ∧ H oW = none ∧ oW ≠ oE ∧ oW ≠ oR ∧ oW ≠ oZ)) ∧
    rdIs i b3 f3 = (row, b', f') ∧ R' = [(2, .ptr oZ 0), (4, .ptr oR 0), (5, .ptr oE 0), (22, .raw (.int .u64 (n : Int))), (23, .raw (.int .u64 (i : Int)))] ∧ i + mm = n) ?_ ?_
  · exact ⟨n, _, _, Ent.sub _ (by (repeat' (first | exact RSub.nil _ | apply RSub.cons)); all_goals rfl), 0, _, _, _, [], b3, f3, _, ⟨by exact auto_nq, by exact auto_nq, by exact auto_nq, by exact auto_nn, by exact auto_nn, by exact auto_nn⟩, auto_heap, auto_heap, auto_heap, fun p y hp => auto_heap, .inl ⟨rfl, rfl⟩, rfl, rfl, by omega⟩
  rintro mm R0 H2 ⟨i, oZ, oE, oR, row, b', f', rc, ⟨m1, m2, m3, z1, z2, z3⟩, q1, q2, q3, hfr, hrc, hrd, rfl, hi⟩
  have hrl := rdIs_len i b3 f3
  have hbl := rdIs_left i b3 f3
  have hsn := rdIs_snoc i b3 f3
  rw [hrd] at hrl hbl hsn
  simp only at hrl hbl hsn
  by_cases hlt : i < n
  · rcases hrc with ⟨hi0, rfl⟩ | ⟨hi0, oW, rfl, q4, z4, m4, m5, m6⟩
    · obtain rfl : row = [] := List.length_eq_zero_iff.1 (by omega)
      (first | focus (refine yy10 ?_; refine aw_condp rfl (fun hc => ?_) (fun hc => ?_); refine yy84 ?_; refine aw_block ?_; refine DC.aw_drawp (fun H' => H' oE = some (.cel [.raw (.int .u64 ((rd b).1 : Int)), .raw (.int .u64 ((rd (rd b).2.1).1 : Int)), .raw (.slice none 0 0)])) (by first | exact auto_heap | exact ⟨auto_heap, auto_heap⟩ | exact ⟨auto_heap, auto_heap, auto_heap⟩) auto_kr auto_dk auto_dk ?_; (apply DC.awn_s; · (intro H1 hPsi; (try dsimp only at hPsi); (try (obtain ⟨hPsi, hPsi2⟩ := hPsi)); exact s_fieldAddr_ptr rfl)); (apply DC.awn_s; · (intro H1 hPsi; (try dsimp only at hPsi); (try (obtain ⟨hPsi, hPsi2⟩ := hPsi)); exact s_load_cel rfl auto_heap rfl)); (apply DC.awn_s; · (intro H1 hPsi; (try dsimp only at hPsi); (try (obtain ⟨hPsi, hPsi2⟩ := hPsi)); exact s_move (v := .ptr _ _) rfl)); refine DC.awn_b ?_; refine DC.awn_b ?_; refine DC.awn_b ?_; (apply DC.awn_s; · (intro H1 hPsi; (try dsimp only at hPsi); (try (obtain ⟨hPsi, hPsi2⟩ := hPsi)); exact s_fieldAddr_ptr rfl)); refine DC.awn_b0 ?_; refine DC.awn_nil ?_; refine DC.awc_cons (fun Rx K1 hK1x => ?_); (refine zc auto_wl (RI_calls _ _ _ _ auto_heap auto_sd) ?_; rintro r H' ⟨rfl, rfl⟩); refine yy7 ?_; (refine hK1x _ _ (by first | exact Or.inl (by decide +kernel) | (refine Or.inr ?_; (try dsimp only); first | exact auto_heap | exact ⟨auto_heap, auto_heap⟩ | exact ⟨auto_heap, auto_heap, auto_heap⟩)) ?_; clear hK1x K1 Rx); refine DC.awc_cons (fun Rx K1 hK1x => ?_); refine yy91 ?_; refine yy7 ?_; (refine hK1x _ _ (by first | exact Or.inl (by decide +kernel) | (refine Or.inr ?_; (try dsimp only); first | exact auto_heap | exact ⟨auto_heap, auto_heap⟩ | exact ⟨auto_heap, auto_heap, auto_heap⟩)) ?_; clear hK1x K1 Rx); refine DC.awc_cons (fun Rx K1 hK1x => ?_); refine awl_own_nil_cel rfl rfl rfl auto_src auto_len auto_len (fun oN hoN => ?_); refine yy7 ?_; (refine hK1x _ _ (by first | exact Or.inl (by decide +kernel) | (refine Or.inr ?_; (try dsimp only); first | exact auto_heap | exact ⟨auto_heap, auto_heap⟩ | exact ⟨auto_heap, auto_heap, auto_heap⟩)) ?_; clear hK1x K1 Rx); refine DC.awc_cons0 (fun Rx K1 hK1x => ?_); refine yy72 ?_; (refine hK1x _ (by first | exact Or.inl (by decide +kernel) | (refine Or.inr ?_; (try dsimp only); first | exact auto_heap | exact ⟨auto_heap, auto_heap⟩ | exact ⟨auto_heap, auto_heap, auto_heap⟩)) ?_; clear hK1x K1 Rx); refine DC.awc_nil ?_; refine yy71 ?_; refine awl_s rfl (s_addu rfl rfl auto_len) ?_; refine yy103 ?_; rotate_left; exact absurd hc auto_no) | fail)
      all_goals try (exfalso; omega)
      subst hi0
      exact ⟨mm - 1, _, _, by omega, auto_ent, 0 + 1, oZ, oE, oR, _, _, _, .vw oN 1 0 1, ⟨m1, m2, m3, z1, z2, z3⟩, auto_heap, auto_heap, auto_heap, fun p y hp => by have h2 := hfr p y hp; exact auto_heap,
        .inr ⟨by omega, oN, rfl, auto_heap, none_frame hfr auto_nn, by exact auto_nq, by exact auto_nq, by exact auto_nq⟩, hsn, rfl, by omega⟩
    · (first | focus (refine yy10 ?_; refine aw_condp rfl (fun hc => ?_) (fun hc => ?_); refine yy84 ?_; refine aw_block ?_; refine DC.aw_drawp (fun H' => H' oE = some (.cel [.raw (.int .u64 ((rd b).1 : Int)), .raw (.int .u64 ((rd (rd b).2.1).1 : Int)), .vw oW 1 0 i])) (by first | exact auto_heap | exact ⟨auto_heap, auto_heap⟩ | exact ⟨auto_heap, auto_heap, auto_heap⟩) auto_kr auto_dk auto_dk ?_; (apply DC.awn_s; · (intro H1 hPsi; (try dsimp only at hPsi); (try (obtain ⟨hPsi, hPsi2⟩ := hPsi)); exact s_fieldAddr_ptr rfl)); (apply DC.awn_s; · (intro H1 hPsi; (try dsimp only at hPsi); (try (obtain ⟨hPsi, hPsi2⟩ := hPsi)); exact s_load_cel rfl auto_heap rfl)); (apply DC.awn_s; · (intro H1 hPsi; (try dsimp only at hPsi); (try (obtain ⟨hPsi, hPsi2⟩ := hPsi)); exact s_move (v := .ptr _ _) rfl)); refine DC.awn_b ?_; refine DC.awn_b ?_; refine DC.awn_b ?_; (apply DC.awn_s; · (intro H1 hPsi; (try dsimp only at hPsi); (try (obtain ⟨hPsi, hPsi2⟩ := hPsi)); exact s_fieldAddr_ptr rfl)); refine DC.awn_b0 ?_; refine DC.awn_nil ?_; refine DC.awc_cons (fun Rx K1 hK1x => ?_); (refine zc auto_wl (RI_calls _ _ _ _ auto_heap auto_sd) ?_; rintro r H' ⟨rfl, rfl⟩); refine yy7 ?_; (refine hK1x _ _ (by first | exact Or.inl (by decide +kernel) | (refine Or.inr ?_; (try dsimp only); first | exact auto_heap | exact ⟨auto_heap, auto_heap⟩ | exact ⟨auto_heap, auto_heap, auto_heap⟩)) ?_; clear hK1x K1 Rx); refine DC.awc_cons (fun Rx K1 hK1x => ?_); refine yy91 ?_; refine yy7 ?_; (refine hK1x _ _ (by first | exact Or.inl (by decide +kernel) | (refine Or.inr ?_; (try dsimp only); first | exact auto_heap | exact ⟨auto_heap, auto_heap⟩ | exact ⟨auto_heap, auto_heap, auto_heap⟩)) ?_; clear hK1x K1 Rx); refine DC.awc_cons (fun Rx K1 hK1x => ?_); refine za4 rfl rfl rfl auto_heap auto_al auto_src auto_len auto_len (fun oN hoN => ?_); refine yy7 ?_; (refine hK1x _ _ (by first | exact Or.inl (by decide +kernel) | (refine Or.inr ?_; (try dsimp only); first | exact auto_heap | exact ⟨auto_heap, auto_heap⟩ | exact ⟨auto_heap, auto_heap, auto_heap⟩)) ?_; clear hK1x K1 Rx); refine DC.awc_cons0 (fun Rx K1 hK1x => ?_); refine yy72 ?_; (refine hK1x _ (by first | exact Or.inl (by decide +kernel) | (refine Or.inr ?_; (try dsimp only); first | exact auto_heap | exact ⟨auto_heap, auto_heap⟩ | exact ⟨auto_heap, auto_heap, auto_heap⟩)) ?_; clear hK1x K1 Rx); refine DC.awc_nil ?_; refine yy71 ?_; refine awl_s rfl (s_addu rfl rfl auto_len) ?_; refine yy103 ?_; rotate_left; exact absurd hc auto_no) | fail)
      all_goals try (exfalso; omega)
      exact ⟨mm - 1, _, _, by omega, auto_ent, i + 1, oZ, oE, oR, _, _, _, .vw oN 1 0 (i + 1), ⟨m1, m2, m3, z1, z2, z3⟩, auto_heap, auto_heap, auto_heap, fun p y hp => by have h2 := hfr p y hp; exact auto_heap,
        .inr ⟨by omega, oN, rfl, by rw [List.map_append]; exact auto_heap, none_frame hfr auto_nn, by exact auto_nq, by exact auto_nq, by exact auto_nq⟩, hsn, rfl, by omega⟩
  obtain rfl : i = n := by omega
  rw [hrd] at hE
  simp only at hE
  by_cases hbad : f' = true ∨ b' ≠ []
  · rw [if_pos hbad] at hE
    have hbd : f' = true ∨ 0 < b'.length := hbad.imp id List.length_pos_iff.2
    cases f' with
    | true =>
      (first | focus (refine yy10 ?_; refine yy28 ?_; intro hc; refine yy13 ?_; refine yy17 ?_; (refine zc auto_wl (bad_calls _ _ _ _ auto_heap) ?_; rintro r H' ⟨rfl, rfl⟩); refine yy2 ?_; refine yy61 ?_; refine yy47 ?_; refine yy50 ?_; refine yy18 ?_; refine yy4 ?_; refine yy76 ?_; refine yy88 ?_; refine yy9 ?_; refine yy24 ?_; rotate_left) | fail)
      all_goals first
        | (exfalso; omega)
        | exact ⟨.inl rfl, _, _, _, Ent.cellRet 2 En0.cells rfl auto_heap auto_wcc (fun p y hp => by have h2 := hfr p y hp; exact ⟨by exact auto_nq, auto_heap⟩), ret_2 rfl (rv1_agg (m := 3) rfl rfl rfl (by decide)) (rv1_tmp rfl), by rw [hE]; rfl, rfl⟩
    | false =>
      have hbd : 0 < b'.length := by simpa using hbd
      (first | focus (refine yy10 ?_; refine yy28 ?_; intro hc; refine yy13 ?_; refine yy17 ?_; (refine zc auto_wl (bad_calls _ _ _ _ auto_heap) ?_; rintro r H' ⟨rfl, rfl⟩); refine yy19 ?_; refine yy34 ?_; (refine zc auto_wl (left_calls _ _ _ _ auto_heap) ?_; rintro r H' ⟨rfl, rfl⟩); refine yy5 ?_; refine yy37 ?_; refine yy49 ?_; refine aw_condp rfl (fun hc => ?_) (fun hc => ?_); refine yy4 ?_; refine yy76 ?_; refine yy88 ?_; refine yy9 ?_; refine yy24 ?_; rotate_left; exact absurd hc auto_no) | fail)
      all_goals first
        | (exfalso; omega)
        | exact ⟨.inl rfl, _, _, _, Ent.cellRet 2 En0.cells rfl auto_heap auto_wcc (fun p y hp => by have h2 := hfr p y hp; exact ⟨by exact auto_nq, auto_heap⟩), ret_2 rfl (rv1_agg (m := 3) rfl rfl rfl (by decide)) (rv1_tmp rfl), by rw [hE]; rfl, rfl⟩
  rw [if_neg hbad] at hE
  obtain ⟨hf, hb0⟩ := not_or.1 hbad
  have hf : f' = false := by simpa using hf
  have hb0 : b' = [] := by simpa using hb0
  subst hf
  subst hb0
  rcases hrc with ⟨hi0, rfl⟩ | ⟨hi0, oW, rfl, q4, z4, m4, m5, m6⟩
  · (first | focus (refine yy10 ?_; refine yy28 ?_; intro hc; refine yy13 ?_; refine yy17 ?_; (refine zc auto_wl (bad_calls _ _ _ _ auto_heap) ?_; rintro r H' ⟨rfl, rfl⟩); refine yy19 ?_; refine yy34 ?_; (refine zc auto_wl (left_calls _ _ _ _ auto_heap) ?_; rintro r H' ⟨rfl, rfl⟩); refine yy5 ?_; refine yy37 ?_; refine yy49 ?_; refine yy56 ?_; intro hc; refine yy4 ?_; refine yy65 ?_; refine yy9 ?_; rotate_left) | fail)
    all_goals try (exfalso; omega)
    obtain rfl : row = [] := List.length_eq_zero_iff.1 (by omega)
    exact ⟨.inl rfl, _, _, _, Ent.cellRet 2 (En.cells ⟨(rd b).1, (rd (rd b).2.1).1, []⟩) rfl auto_heap auto_wcc (fun p y hp => by have h2 := hfr p y hp; exact ⟨by exact auto_nq, auto_heap⟩), ret_2 rfl (rv1_agg (m := 3) rfl rfl rfl (by decide)) (rv1_tmp rfl), by rw [hE]; rfl, rfl⟩
  · (first | focus (refine yy10 ?_; refine yy28 ?_; intro hc; refine yy13 ?_; refine yy17 ?_; (refine zc auto_wl (bad_calls _ _ _ _ auto_heap) ?_; rintro r H' ⟨rfl, rfl⟩); refine yy19 ?_; refine yy34 ?_; (refine zc auto_wl (left_calls _ _ _ _ auto_heap) ?_; rintro r H' ⟨rfl, rfl⟩); refine yy5 ?_; refine yy37 ?_; refine yy49 ?_; refine yy56 ?_; intro hc; refine yy4 ?_; refine yy65 ?_; refine yy9 ?_; rotate_left) | fail)
    all_goals try (exfalso; omega)
    refine ⟨.inl rfl, _, _, _, Ent.trans (Ent.seal_cellC (p := oZ) (o := oW) (k := 2) (len := i) (sz := 1) (ys := row.map mI) m6.symm auto_heap auto_heap rfl (by simp [hrl])) (Ent.cellRet 2 (En.cells ⟨(rd b).1, (rd (rd b).2.1).1, row⟩) rfl (AHeap.set_self _ _ _) ?_ (fun p y hp => ?_)), ret_2 rfl (rv1_agg (m := 3) rfl rfl rfl (by decide)) (rv1_tmp rfl), by rw [hE]; rfl, rfl⟩
    · rw [← hrl]
      exact auto_wcc
    · have h2 := hfr p y hp
      refine ⟨by exact auto_nq, ?_⟩
      refine AHeap.get_skip auto_nq (AHeap.get_unerase auto_nq ?_)
      exact auto_heap
end Go.Proofs.Ytbciofnejefkiaa

namespace Go.Proofs.Ytbciofnejefkiaa
open Go Go.Am Go.Proofs

def rdEs : Nat → List UInt8 → Bool → List En × List UInt8 × Bool × Bool
  | 0, b, f => ([], b, f, true)
  | n + 1, b, f =>
    match getE (rs b).1 with
    | none => ([], (rs b).2.1, (f || (rs b).2.2), false)
    | some e => (e :: (rdEs n (rs b).2.1 (f || (rs b).2.2)).1, (rdEs n (rs b).2.1 (f || (rs b).2.2)).2)
def entsB (b : List UInt8) (f : Bool) : List En × List UInt8 × Bool × Bool :=
  if 200 < (rd b).1 then ([], (rd b).2.1, (f || (rd b).2.2), false) else rdEs (rd b).1 (rd b).2.1 (f || (rd b).2.2)
def outEs (x : List En × List UInt8 × Bool × Bool) : AV := if x.2.2.2 = true then .tup [.sls x.1.length (x.1.flatMap En.cells), .raw (.int .i64 (0 : Int))] else .tup [.sls 0 [], .raw (.int .i64 (3 : Int))]
theorem rdEs_none {n : Nat} {b : List UInt8} {f : Bool} (h : getE (rs b).1 = none) : rdEs (n + 1) b f = ([], (rs b).2.1, (f || (rs b).2.2), false) := by rw [rdEs, h]
theorem rdEs_some {n : Nat} {b : List UInt8} {f : Bool} {e : En} (h : getE (rs b).1 = some e) : rdEs (n + 1) b f = (e :: (rdEs n (rs b).2.1 (f || (rs b).2.2)).1, (rdEs n (rs b).2.1 (f || (rs b).2.2)).2) := by rw [rdEs, h]
theorem rs_text (b : List UInt8) : (rs b).1.length ≤ b.length := by
  have := rd_len b
  unfold rs
  split <;> simp
  omega

theorem entries_calls (H : AHeap) (o : Nat) (b : List UInt8) (f : Bool) (h : H o = some (.cel [.bys b, .raw (.bool f)])) (hb : b.length ≤ 100000000) :
    ACalls Try.prog 88 [.ptr o 0] H fun r H' => r = outEs (entsB b f) ∧ (H' o = some (.cel [.bys (entsB b f).2.1, .raw (.bool (entsB b f).2.2.1)]) ∧ ∀ p y, p ≠ o → H p = some y → H' p = some y) := by
  have l1 := rd_len b
  refine acalls_of_aw1 Try.func88 rfl (by decide) ?_
  (first | focus (refine yy4 ?_; refine yy31 ?_; refine yy27 ?_; refine yy17 ?_; (refine zc auto_wl (RU_calls _ _ _ _ auto_heap auto_sd) ?_; rintro r H' ⟨rfl, rfl⟩); refine yy6 ?_; refine yy11 ?_; refine yy37 ?_; refine yy3 ?_; refine aw_condp rfl (fun hc => ?_) (fun hc => ?_); refine yy4 ?_; refine yy31 ?_; refine yy9 ?_; refine yy24 ?_; rotate_left; refine yy67 ?_; refine yy4 ?_; refine yy6 ?_; refine yy11 ?_; refine yy55 ?_; rotate_left) | fail)
  · have e : entsB b f = ([], (rd b).2.1, (f || (rd b).2.2), false) := by rw [entsB, if_pos hc]
    exact ⟨.inl rfl, _, _, _, Ent.weakReg 2 rfl (W.nils rfl), ret2 rfl rfl rfl, by rw [e]; rfl, by rw [e]; exact auto_heap, fun p y hp hy => auto_heap⟩
  have e : entsB b f = rdEs (rd b).1 (rd b).2.1 (f || (rd b).2.2) := if_neg hc
  rw [e]
  have hn : (rd b).1 ≤ 200 := by omega
  generalize (rd b).1 = n at *
  generalize (rd b).2.1 = b1 at *
  generalize (f || (rd b).2.2) = f1 at *
  clear e hc
  refine aw_own_nil 5 3 (.cel []) rfl rfl (fun oL hoL => ?_)
  refine aw_loop (fun mm R' H2 => ∃ (i oL : Nat) (l : List En) (b' : List UInt8) (f' : Bool), (H oL = none ∧ oL ≠ o ∧ H2 oL = some (.cel (l.flatMap En.cells)) ∧ H2 o = some (.cel [.bys b', .raw (.bool f')]) ∧ ∀ p y, p ≠ o → H p = some y → H2 p = some y) ∧ l.length = i ∧ b'.length ≤ b1.length ∧
    rdEs n b1 f1 = (l ++ (rdEs (n - i) b' f').1, (rdEs (n - i) b' f').2) ∧
    R' = [(0, .ptr o 0), (5, .vw oL 3 0 i), (12, .raw (.int .u64 (n : Int))), (13, .raw (.int .u64 (i : Int)))] ∧ i + mm = n) ?_ ?_
  · exact ⟨n, _, _, auto_ent, 0, oL, [], b1, f1, ⟨by exact auto_nn, by exact auto_nq, AHeap.set_self _ _ _, auto_heap, fun p y hp hy => auto_heap⟩, rfl, Nat.le_refl _, by simp, rfl, by omega⟩
  clear hoL oL
  rintro mm R0 H2 ⟨i, oL, l, b', f', ⟨hoL, hne, q1, q2, hfr⟩, hl, hbl, hrd, rfl, hi⟩
  have hfl : (l.flatMap En.cells).length = i * 3 := by rw [flat_len (sz := 3) (fun _ => rfl), hl]
  by_cases hlt : i < n
  · have hsn : n - i = (n - (i + 1)) + 1 := by omega
    have l2 := rs_text b'
    have l3 := rs_len b'
    cases hg : getE (rs b').1 with
    | none =>
      have hG : ∀ H, ACalls Try.prog 58 [.bys (rs b').1] H fun r H' => r = .tup [.agg En0.cells, .raw (.int .i64 (3 : Int))] ∧ H' = H := fun H => (GetEntry_calls H _ (by omega)).mono (by rw [hg]; exact fun _ _ h => h)
      rw [hsn, rdEs_none hg] at hrd
      (first | focus (refine yy10 ?_; refine aw_condp rfl (fun hc => ?_) (fun hc => ?_); refine yy22 ?_; refine yy17 ?_; (refine zc auto_wl (RS_calls _ _ _ _ q2 (by omega)) ?_; rintro r H' ⟨rfl, rfl⟩); refine awl_s rfl (s_str_bytes rfl) ?_; (refine zc auto_wl (hG _) ?_; rintro r H' ⟨rfl, rfl⟩); refine yy73 ?_; refine awl_alloc rfl rfl rfl (fun oN hoN => ?_); refine yy75 ?_; refine yy6 ?_; refine yy11 ?_; refine yy70 ?_; refine yy3 ?_; refine aw_condp rfl (fun hc => ?_) (fun hc => ?_); refine yy51 ?_; refine yy31 ?_; refine yy9 ?_; refine yy52 ?_; refine yy52 ?_; rotate_left; exact absurd hc auto_no; exact absurd hc auto_no) | fail)
      all_goals first
        | (exfalso; omega)
        | exact ⟨.inl rfl, _, _, _, Ent.weakReg 2 rfl (W.nils rfl), ret2 rfl rfl rfl, by rw [hrd]; rfl, by rw [hrd]; exact AHeap.set_self _ _ _, fun p y hp hy => AHeap.get_skip hp (hfr p y hp hy)⟩
        | trace_state
    | some e =>
      have hG : ∀ H, ACalls Try.prog 58 [.bys (rs b').1] H fun r H' => r = .tup [.agg e.cells, .raw (.int .i64 (0 : Int))] ∧ H' = H := fun H => (GetEntry_calls H _ (by omega)).mono (by rw [hg]; exact fun _ _ h => h)
      rw [hsn, rdEs_some hg] at hrd
      (first | focus (refine yy10 ?_; refine aw_condp rfl (fun hc => ?_) (fun hc => ?_); refine yy22 ?_; refine yy17 ?_; (refine zc auto_wl (RS_calls _ _ _ _ q2 (by omega)) ?_; rintro r H' ⟨rfl, rfl⟩); refine awl_s rfl (s_str_bytes rfl) ?_; (refine zc auto_wl (hG _) ?_; rintro r H' ⟨rfl, rfl⟩); refine yy73 ?_; refine awl_alloc rfl rfl rfl (fun oN hoN => ?_); refine yy75 ?_; refine yy6 ?_; refine yy11 ?_; refine yy70 ?_; refine yy3 ?_; refine yy56 ?_; intro hc; refine aw_region ?_; refine yy29 ?_; refine yy63 ?_; refine yy91 ?_; refine za4 rfl rfl rfl auto_heap auto_al auto_src auto_len auto_len (fun oN hoN => ?_); refine yy57 ?_; refine yy7 ?_; refine yy71 ?_; refine awl_s rfl (s_addu rfl rfl auto_len) ?_; refine yy103 ?_; rotate_left; exact absurd hc auto_no) | fail)
      all_goals try (exfalso; omega)
      have hN2 : H2 oN = none := AHeap.none_of_set hoN
      have n1 : oN ≠ o := by exact auto_nq
      have n2 : ∀ p y, H2 p = some y → p ≠ oN := fun p y hp e => by subst e; rw [hN2] at hp; cases hp
      refine ⟨mm - 1, _, _, by omega, Ent.sub _ (by (repeat' (first | exact RSub.nil _ | apply RSub.cons)); all_goals rfl), i + 1, oN, l ++ [e], _, _, ⟨?_, n1, ?_, ?_, fun p y hp hy => ?_⟩, by simp [hl], ?_, by rw [hrd]; simp; exact ⟨rfl, rfl⟩, rfl, by omega⟩
      · cases e' : H oN with
        | none => rfl
        | some y => have := hfr _ _ n1 e'; rw [hN2] at this; cases this
      · rw [List.flatMap_append]; exact AHeap.set_self _ _ _
      · exact AHeap.get_skip n1.symm (AHeap.get_unerase hne.symm (AHeap.set_self _ _ _))
      · have h2 := hfr p y hp hy
        refine AHeap.get_skip (n2 p y h2) (AHeap.get_unerase ?_ (AHeap.get_skip hp h2))
        rintro rfl
        rw [hoL] at hy; cases hy
      · omega
  obtain rfl : i = n := by omega
  rw [Nat.sub_self] at hrd
  simp only [rdEs, List.append_nil] at hrd
  (first | focus (refine yy10 ?_; refine yy28 ?_; intro hc; refine yy4 ?_; refine yy29 ?_; refine yy57 ?_; refine yy9 ?_; rotate_left) | fail)
  all_goals try (exfalso; omega)
  refine ⟨.inl rfl, _, _, _, Ent.seal_cel (i := 2) rfl q1 hfl, ret2 rfl rfl rfl, by rw [hrd, ← hl]; rfl, by rw [hrd]; exact AHeap.get_unerase hne.symm q2, fun p y hp hy => AHeap.get_unerase ?_ (hfr p y hp hy)⟩
  rintro rfl
  rw [hoL] at hy; cases hy
end Go.Proofs.Ytbciofnejefkiaa

namespace Go.Proofs.Ytbciofnejefkiaa
open Go Go.Am Go.Proofs

theorem unzig_rng (u : Nat) : b64 (unzig u) := by
  unfold unzig
  show -9223372036854775808 ≤ IntKind.i64.wrap _ ∧ IntKind.i64.wrap _ ≤ 9223372036854775807
  rw [IntKind.wrap_i64]; omega
theorem RU_at {b b' : List UInt8} {u : Nat} {g : Bool} (e : rd b = (u, b', g)) (H : AHeap) (o : Nat) (f : Bool) (h : H o = some (.cel [.bys b, .raw (.bool f)])) (hb : b.length ≤ 4000000000) :
    ACalls Try.prog 57 [.ptr o 0] H fun r H' => r = .raw (.int .u64 (u : Int)) ∧ H' = H.set o (.cel [.bys b', .raw (.bool (f || g))]) := by
  have := RU_calls H o b f h hb
  rw [e] at this
  exact this
theorem RI_at {b b' : List UInt8} {u : Nat} {g : Bool} {v : Int} (e : rd b = (u, b', g)) (hv : unzig u = v) (H : AHeap) (o : Nat) (f : Bool) (h : H o = some (.cel [.bys b, .raw (.bool f)])) (hb : b.length ≤ 4000000000) :
    ACalls Try.prog 82 [.ptr o 0] H fun r H' => r = mI v ∧ H' = H.set o (.cel [.bys b', .raw (.bool (f || g))]) := by
  have := RI_calls H o b f h hb
  rw [e] at this
  subst hv
  exact this
abbrev RS := List UInt8 × Bool
def stN (s : RS) : RS := ((rd s.1).2.1, s.2 || (rd s.1).2.2)
def vlN (s : RS) : Nat := (rd s.1).1
theorem stN_at {b b' : List UInt8} {u : Nat} {g f : Bool} (e : rd b = (u, b', g)) : stN (b, f) = (b', f || g) := by rw [stN, e]
theorem vlN_at {b b' : List UInt8} {u : Nat} {g f : Bool} (e : rd b = (u, b', g)) : vlN (b, f) = u := by rw [vlN, e]
def Mg0 : Mg := ⟨0, 0, 0, 0, 0, 0, 0, [], []⟩
def s7 (t : List UInt8) : RS := stN (stN (stN (stN (stN (stN (stN (t, false)))))))
def mgT (t : List UInt8) (l : List En) (b : List UInt8) : Mg :=
  ⟨unzig (vlN (t, false)), unzig (vlN (stN (t, false))), unzig (vlN (stN (stN (t, false)))), vlN (stN (stN (stN (t, false)))), vlN (stN (stN (stN (stN (t, false))))), vlN (stN (stN (stN (stN (stN (t, false)))))), vlN (stN (stN (stN (stN (stN (stN (t, false))))))), l, b⟩
def getT (t : List UInt8) : Option Mg :=
  if (entsB (s7 t).1 (s7 t).2).2.2.2 = false then none
  else if ((entsB (s7 t).1 (s7 t).2).2.2.1 || (rs (entsB (s7 t).1 (s7 t).2).2.1).2.2) = true ∨ (rs (entsB (s7 t).1 (s7 t).2).2.1).2.1 ≠ [] ∨ ¬ (mgT t (entsB (s7 t).1 (s7 t).2).1 (rs (entsB (s7 t).1 (s7 t).2).2.1).1).good then none
  else some (mgT t (entsB (s7 t).1 (s7 t).2).1 (rs (entsB (s7 t).1 (s7 t).2).2.1).1)
def getM (b : List UInt8) : Option Mg := if (takeF b).2.2 = 0 ∨ (takeF b).2.2 ≠ b.length ∨ (takeF b).1 ≠ 0 then none else getT (takeF b).2.1
def outM : Option Mg → AV
  | none => .tup [.agg Mg0.cells, .raw (.int .i64 (3 : Int))]
  | some m => .tup [.agg m.cells, .raw (.int .i64 (0 : Int))]
theorem awl_gen {P : Program} {n : Nat} {ops : Array Oper} {rest : List Oper} {K : Exit → Regs → AHeap → Prop} {R : Regs} {H : AHeap} (Φ : AHeap → Prop) (h : Φ H) (hk : ∀ H3, Φ H3 → AWL P n ops rest K R H3) : AWL P n ops rest K R H := hk H h
theorem getE_ok {b : List UInt8} {e : En} (h : getE b = some e) : e.Ok := by
  unfold getE at h
  split at h
  · cases h
  split at h
  · cases h
  cases h
  refine ⟨rd_lt _, rd_lt _, ?_⟩
  have : ∀ (n : Nat) (b : List UInt8) (f : Bool), ∀ v ∈ (rdIs n b f).1, b64 v := by
    intro n
    induction n with
    | zero => intro b f v hv; cases hv
    | succ n ih =>
      intro b f v hv
      rw [rdIs] at hv
      rcases List.mem_cons.1 hv with rfl | hv
      · exact unzig_rng _
      · exact ih _ _ _ hv
  exact this _ _ _
theorem rdEs_ok : ∀ (n : Nat) (b : List UInt8) (f : Bool), ∀ e ∈ (rdEs n b f).1, e.Ok
  | 0, _, _ => fun e h => by cases h
  | n + 1, b, f => fun e h => by
    cases hg : getE (rs b).1 with
    | none => rw [rdEs_none hg] at h; cases h
    | some x =>
      rw [rdEs_some hg] at h
      rcases List.mem_cons.1 h with rfl | h
      · exact getE_ok hg
      · exact rdEs_ok n _ _ e h
theorem rdEs_num : ∀ (n : Nat) (b : List UInt8) (f : Bool), (rdEs n b f).1.length ≤ n
  | 0, _, _ => Nat.le_refl _
  | n + 1, b, f => by
    cases hg : getE (rs b).1 with
    | none => rw [rdEs_none hg]; simp
    | some x => rw [rdEs_some hg]; have := rdEs_num n (rs b).2.1 (f || (rs b).2.2); simp; omega
theorem rdEs_left : ∀ (n : Nat) (b : List UInt8) (f : Bool), (rdEs n b f).2.1.length ≤ b.length
  | 0, _, _ => Nat.le_refl _
  | n + 1, b, f => by
    have hr := rs_len b
    cases hg : getE (rs b).1 with
    | none => rw [rdEs_none hg]; exact hr
    | some x => rw [rdEs_some hg]; exact Nat.le_trans (rdEs_left n _ _) hr
theorem entsB_ok (b : List UInt8) (f : Bool) : (∀ e ∈ (entsB b f).1, e.Ok) ∧ (entsB b f).1.length ≤ 200 ∧ (entsB b f).2.1.length ≤ b.length := by
  have hl := rd_len b
  unfold entsB
  split
  · exact ⟨fun e h => (by cases h), Nat.zero_le _, hl⟩
  · exact ⟨rdEs_ok _ _ _, Nat.le_trans (rdEs_num _ _ _) (by omega), Nat.le_trans (rdEs_left _ _ _) hl⟩
theorem entries_at {b : List UInt8} {f : Bool} {x : List En × List UInt8 × Bool × Bool} (hx : entsB b f = x) (oR oM oZ : Nat) (xs zs : List AV) (hM : oM ≠ oR) (hZ : oZ ≠ oR) (H : AHeap) (h : H oR = some (.cel [.bys b, .raw (.bool f)])) (hb : b.length ≤ 100000000) (h2 : H oM = some (.cel xs)) (h3 : H oZ = some (.cel zs)) :
    ACalls Try.prog 88 [.ptr oR 0] H fun r H' => r = outEs x ∧ H' oR = some (.cel [.bys x.2.1, .raw (.bool x.2.2.1)]) ∧ H' oM = some (.cel xs) ∧ H' oZ = some (.cel zs) ∧ ∀ p y, p ≠ oR → H p = some y → H' p = some y :=
  (entries_calls H oR b f h hb).mono fun r H' hh => by
    obtain ⟨e1, e2, e3⟩ := hh
    subst hx
    exact ⟨e1, e2, e3 _ _ hM h2, e3 _ _ hZ h3, e3⟩
set_option maxHeartbeats 40000000 in
theorem Get_calls (H : AHeap) (b : List UInt8) (hb : b.length ≤ 100000000) :
    ACalls Try.prog 69 [.bys b] H fun r H' => r = outM (getM b) ∧ H' = H := by
  have z1 := takeF_size b
  have z3 := takeF_text b
  have hT := fun H => Take_calls H b (by omega)
  unfold getM
  generalize takeF b = x at *
  obtain ⟨num, t, sz⟩ := x
  simp only at z1 z3 hT ⊢
  obtain ⟨u1, b1, g1, e1⟩ : ∃ u c g, rd t = (u, c, g) := ⟨_, _, _, rfl⟩
  have l1 := rd_len t
  rw [e1] at l1
  simp only at l1
  obtain ⟨v1, hv1⟩ : ∃ v, unzig u1 = v := ⟨_, rfl⟩
  have r1 := unzig_rng u1
  rw [hv1] at r1
  obtain ⟨u2, b2, g2, e2⟩ : ∃ u c g, rd b1 = (u, c, g) := ⟨_, _, _, rfl⟩
  have l2 := rd_len b1
  rw [e2] at l2
  simp only at l2
  obtain ⟨v2, hv2⟩ : ∃ v, unzig u2 = v := ⟨_, rfl⟩
  have r2 := unzig_rng u2
  rw [hv2] at r2
  obtain ⟨u3, b3, g3, e3⟩ : ∃ u c g, rd b2 = (u, c, g) := ⟨_, _, _, rfl⟩
  have l3 := rd_len b2
  rw [e3] at l3
  simp only at l3
  obtain ⟨v3, hv3⟩ : ∃ v, unzig u3 = v := ⟨_, rfl⟩
  have r3 := unzig_rng u3
  rw [hv3] at r3
  obtain ⟨u4, b4, g4, e4⟩ : ∃ u c g, rd b3 = (u, c, g) := ⟨_, _, _, rfl⟩
  have l4 := rd_len b3
  rw [e4] at l4
  simp only at l4
  obtain ⟨u5, b5, g5, e5⟩ : ∃ u c g, rd b4 = (u, c, g) := ⟨_, _, _, rfl⟩
  have l5 := rd_len b4
  rw [e5] at l5
  simp only at l5
  obtain ⟨u6, b6, g6, e6⟩ : ∃ u c g, rd b5 = (u, c, g) := ⟨_, _, _, rfl⟩
  have l6 := rd_len b5
  rw [e6] at l6
  simp only at l6
  obtain ⟨u7, b7, g7, e7⟩ : ∃ u c g, rd b6 = (u, c, g) := ⟨_, _, _, rfl⟩
  have l7 := rd_len b6
  rw [e7] at l7
  simp only at l7
  refine acalls_of_aw1 Try.func69 rfl (by decide) ?_
  (first | focus (refine yy4 ?_; refine awl_alloc rfl rfl rfl (fun oN hoN => ?_); refine yy27 ?_; refine yy30 ?_; (refine zc auto_wl (hT _) ?_; rintro r H' ⟨rfl, rfl⟩); refine yy73 ?_; refine awl_s rfl (s_extract rfl rfl) ?_; refine yy31 ?_; refine yy90 ?_; refine yy6 ?_; refine yy11 ?_; refine yy48 ?_; refine yy2 ?_; refine zg2 rfl rfl rfl (fun hc => ?_) (fun hc => ?_); refine yy61 ?_; refine yy47 ?_; refine yy38 ?_; refine yy2 ?_; refine yy61 ?_; refine yy50 ?_; refine yy18 ?_; refine yy4 ?_; refine yy76 ?_; refine yy82 ?_; refine yy9 ?_; refine yy24 ?_; rotate_left; refine yy19 ?_; refine yy30 ?_; refine yy5 ?_; refine yy95 ?_; refine yy5 ?_; refine yy70 ?_; refine yy21 ?_; refine yy2 ?_; refine zg2 rfl rfl rfl (fun hc => ?_) (fun hc => ?_); refine yy47 ?_; refine yy50 ?_; refine yy18 ?_; refine yy4 ?_; refine yy76 ?_; refine yy82 ?_; refine yy9 ?_; refine yy24 ?_; rotate_left; refine yy19 ?_; refine yy70 ?_; refine yy49 ?_; refine aw_condp rfl (fun hc => ?_) (fun hc => ?_); refine yy4 ?_; refine yy76 ?_; refine yy82 ?_; refine yy9 ?_; refine yy24 ?_; rotate_left; refine yy67 ?_; refine yy4 ?_; refine yy30 ?_; (refine zc auto_wl (read_calls _ _ auto_sd) ?_; rintro r H' ⟨oR, hoR, rfl, rfl⟩); refine yy93 ?_; refine yy3 ?_; refine yy23 ?_; rotate_left) | fail)
  · exact ⟨.inl rfl, _, _, _, Ent.cellRet 2 Mg0.cells rfl auto_heap auto_wcc auto_hs, ret_2 rfl (rv1_agg (m := 9) rfl rfl rfl (by decide)) (rv1_tmp rfl), by rw [if_pos (.inl hc)]; rfl, rfl⟩
  · exact ⟨.inl rfl, _, _, _, Ent.cellRet 2 Mg0.cells rfl auto_heap auto_wcc auto_hs, ret_2 rfl (rv1_agg (m := 9) rfl rfl rfl (by decide)) (rv1_tmp rfl), by rw [if_pos (.inr (.inl hc))]; rfl, rfl⟩
  · exact ⟨.inl rfl, _, _, _, Ent.cellRet 2 Mg0.cells rfl auto_heap auto_wcc auto_hs, ret_2 rfl (rv1_agg (m := 9) rfl rfl rfl (by decide)) (rv1_tmp rfl), by rw [if_pos (.inr (.inr hc))]; rfl, rfl⟩
  rename_i hc1 hc2
  have hoZ := hoN
  clear hoN
  generalize oN = oZ at *
  rw [if_neg (fun h => h.elim hc1 (fun h => h.elim hc2 hc))]
  refine awl_ent (Ent.sub (R0 := [(31, .ptr oR 0), (7, .ptr oR 0), (2, .ptr oZ 0)]) _ (by (repeat' (first | exact RSub.nil _ | apply RSub.cons)); all_goals rfl)) ?_
  (first | focus ((refine zc auto_wl (RI_at (by assumption) (by assumption) _ _ _ (AHeap.set_self _ _ _) (by omega)) ?_; rintro r H' ⟨rfl, rfl⟩); refine yy17 ?_; (refine zc auto_wl (RI_at (by assumption) (by assumption) _ _ _ (AHeap.set_self _ _ _) (by omega)) ?_; rintro r H' ⟨rfl, rfl⟩); refine yy17 ?_; (refine zc auto_wl (RI_at (by assumption) (by assumption) _ _ _ (AHeap.set_self _ _ _) (by omega)) ?_; rintro r H' ⟨rfl, rfl⟩); refine yy17 ?_; (refine zc auto_wl (RU_at (by assumption) _ _ _ (AHeap.set_self _ _ _) (by omega)) ?_; rintro r H' ⟨rfl, rfl⟩); refine yy17 ?_; (refine zc auto_wl (RU_at (by assumption) _ _ _ (AHeap.set_self _ _ _) (by omega)) ?_; rintro r H' ⟨rfl, rfl⟩); refine yy17 ?_; (refine zc auto_wl (RU_at (by assumption) _ _ _ (AHeap.set_self _ _ _) (by omega)) ?_; rintro r H' ⟨rfl, rfl⟩); refine yy17 ?_; (refine zc auto_wl (RU_at (by assumption) _ _ _ (AHeap.set_self _ _ _) (by omega)) ?_; rintro r H' ⟨rfl, rfl⟩); refine yy76 ?_; refine awl_alloc rfl rfl rfl (fun oN hoN => ?_); refine yy82 ?_; refine yy68 ?_; refine yy6 ?_; refine yy13 ?_; refine yy17 ?_; rotate_left) | fail)
  obtain ⟨f7, hf7⟩ : ∃ f, (false || g1 || g2 || g3 || g4 || g5 || g6 || g7) = f := ⟨_, rfl⟩
  rw [hf7]
  refine awl_ent (Ent.sub (R0 := [(47, .ptr oR 0), (9, .raw (.int .i64 (0 : Int))), (8, .ptr oN 0), (7, .ptr oR 0), (2, .ptr oZ 0)]) _ (by (repeat' (first | exact RSub.nil _ | apply RSub.cons)); all_goals rfl)) ?_
  refine awl_gen (fun H3 => (oZ ≠ oR ∧ oN ≠ oR ∧ oZ ≠ oN ∧ H oZ = none ∧ H oR = none ∧ H oN = none) ∧ H3 oZ = some (.cel [.raw (.int .i64 (0 : Int)), .raw (.int .i64 (0 : Int)), .raw (.int .i64 (0 : Int)), .raw (.int .u64 (0 : Int)), .raw (.int .u64 (0 : Int)), .raw (.int .u64 (0 : Int)), .raw (.int .u64 (0 : Int)), .raw (.slice none 0 0), .raw (.slice none 0 0)]) ∧
    H3 oN = some (.cel [mI v1, mI v2, mI v3, .raw (.int .u64 (u4 : Int)), .raw (.int .u64 (u5 : Int)), .raw (.int .u64 (u6 : Int)), .raw (.int .u64 (u7 : Int)), .raw (.slice none 0 0), .raw (.slice none 0 0)]) ∧ H3 oR = some (.cel [.bys b7, .raw (.bool f7)]) ∧ (∀ p y, H p = some y → H3 p = some y))
    ⟨⟨by exact auto_nq, by exact auto_nq, by exact auto_nq, by exact auto_nn, by exact auto_nn, by exact auto_nn⟩, auto_heap, auto_heap, auto_heap, fun p y hp => auto_heap⟩ ?_
  rintro H3 ⟨⟨m1, m2, m3, n1, n2, n3⟩, q1, q2, q3, hfr⟩
  have hgt : getT t = if (entsB b7 f7).2.2.2 = false then none
    else if ((entsB b7 f7).2.2.1 || (rs (entsB b7 f7).2.1).2.2) = true ∨ (rs (entsB b7 f7).2.1).2.1 ≠ [] ∨ ¬ (⟨v1, v2, v3, u4, u5, u6, u7, (entsB b7 f7).1, (rs (entsB b7 f7).2.1).1⟩ : Mg).good then none
    else some ⟨v1, v2, v3, u4, u5, u6, u7, (entsB b7 f7).1, (rs (entsB b7 f7).2.1).1⟩ := by
    unfold getT s7 mgT
    simp only [stN_at e1, vlN_at e1, stN_at e2, vlN_at e2, stN_at e3, vlN_at e3, stN_at e4, vlN_at e4, stN_at e5, vlN_at e5, stN_at e6, vlN_at e6, stN_at e7, vlN_at e7, hv1, hv2, hv3, hf7]
  rw [hgt]
  have hu4 := rd_lt b3
  have hu5 := rd_lt b4
  have hu6 := rd_lt b5
  have hu7 := rd_lt b6
  rw [e4] at hu4
  rw [e5] at hu5
  rw [e6] at hu6
  rw [e7] at hu7
  simp only at hu4 hu5 hu6 hu7
  clear hgt e1 e2 e3 e4 e5 e6 e7 hv1 hv2 hv3 hf7 hoN hoR hoZ hc1 hc2 hc
  obtain ⟨es, be, fe, ke, hes⟩ : ∃ es be fe ke, entsB b7 f7 = (es, be, fe, ke) := ⟨_, _, _, _, rfl⟩
  have hok := entsB_ok b7 f7
  rw [hes] at hok ⊢
  simp only at hok ⊢
  obtain ⟨k1, k2, k3⟩ := hok
  cases ke with
  | false =>
    have hE := fun H => entries_at hes oR oN oZ (zs := [.raw (.int .i64 (0 : Int)), .raw (.int .i64 (0 : Int)), .raw (.int .i64 (0 : Int)), .raw (.int .u64 (0 : Int)), .raw (.int .u64 (0 : Int)), .raw (.int .u64 (0 : Int)), .raw (.int .u64 (0 : Int)), .raw (.slice none 0 0), .raw (.slice none 0 0)]) m2 m1 H (xs := [mI v1, mI v2, mI v3, .raw (.int .u64 (u4 : Int)), .raw (.int .u64 (u5 : Int)), .raw (.int .u64 (u6 : Int)), .raw (.int .u64 (u7 : Int)), .raw (.slice none 0 0), .raw (.slice none 0 0)])
    simp only [outEs, Bool.false_eq_true, if_false] at hE
    (first | focus ((refine zc auto_wl (hE _ q3 (by omega) q2 q1) ?_; rintro r H' ⟨rfl, j1, j2, j3, hf2⟩); refine yy73 ?_; refine yy62 ?_; refine yy58 ?_; refine yy27 ?_; refine yy2 ?_; refine yy70 ?_; refine yy3 ?_; refine aw_condp rfl (fun hc => ?_) (fun hc => ?_); refine yy4 ?_; refine yy76 ?_; refine yy2 ?_; refine yy88 ?_; refine yy9 ?_; refine yy24 ?_; rotate_left; exact absurd hc auto_no) | fail)
    exact ⟨.inl rfl, _, _, _, Ent.cellRet 2 Mg0.cells rfl auto_heap auto_wcc (fun p y hp => by have hp2 := hf2 _ _ (AHeap.ne_ns n2 hp) (hfr _ _ hp); exact ⟨by exact auto_nq, auto_heap⟩), ret_2 rfl (rv1_agg (m := 9) rfl rfl rfl (by decide)) (rv1_tmp rfl), by rw [if_pos rfl]; rfl, rfl⟩
  | true =>
    have hE := fun H => entries_at hes oR oN oZ (zs := [.raw (.int .i64 (0 : Int)), .raw (.int .i64 (0 : Int)), .raw (.int .i64 (0 : Int)), .raw (.int .u64 (0 : Int)), .raw (.int .u64 (0 : Int)), .raw (.int .u64 (0 : Int)), .raw (.int .u64 (0 : Int)), .raw (.slice none 0 0), .raw (.slice none 0 0)]) m2 m1 H (xs := [mI v1, mI v2, mI v3, .raw (.int .u64 (u4 : Int)), .raw (.int .u64 (u5 : Int)), .raw (.int .u64 (u6 : Int)), .raw (.int .u64 (u7 : Int)), .raw (.slice none 0 0), .raw (.slice none 0 0)])
    simp only [outEs, if_true] at hE
    rw [if_neg (by decide)]
    have s1 := rs_text be
    have s2 := rs_len be
    have hS := fun H f h => RS_calls H oR be f h (by omega)
    generalize rs be = x at *
    obtain ⟨sb, b9, f9⟩ := x
    simp only at s1 s2 hS ⊢
    have hG := fun H => Good_calls H ⟨v1, v2, v3, u4, u5, u6, u7, es, sb⟩ ⟨r1, r2, r3, hu4, hu5, hu6, hu7, k1⟩ (show es.length ≤ _ by omega) (show sb.length ≤ _ by omega)
    generalize hm : (⟨v1, v2, v3, u4, u5, u6, u7, es, sb⟩ : Mg) = m at *
    have hmc : m.cells = [mI v1, mI v2, mI v3, .raw (.int .u64 (u4 : Int)), .raw (.int .u64 (u5 : Int)), .raw (.int .u64 (u6 : Int)), .raw (.int .u64 (u7 : Int)), .sls es.length (es.flatMap En.cells), .bys sb] := by rw [← hm]; rfl
    rw [hmc] at hG
    (first | focus ((refine zc auto_wl (hE _ q3 (by omega) q2 q1) ?_; rintro r H' ⟨rfl, j1, j2, j3, hf2⟩); refine yy73 ?_; refine yy62 ?_; refine yy58 ?_; refine yy27 ?_; refine yy2 ?_; refine yy70 ?_; refine yy3 ?_; refine yy56 ?_; intro hc; refine yy23 ?_; (refine zc auto_wl (hS _ _ auto_heap) ?_; rintro r H' ⟨rfl, rfl⟩); refine awl_s rfl (s_str_bytes rfl) ?_; refine yy62 ?_; refine yy58 ?_; refine yy3 ?_; refine yy13 ?_; refine yy17 ?_; (refine zc auto_wl (bad_calls _ _ _ _ auto_heap) ?_; rintro r H' ⟨rfl, rfl⟩); refine yy2 ?_; refine zg7 rfl rfl rfl (fun hc => ?_) (fun hc => ?_); refine yy61 ?_; refine yy38 ?_; refine yy2 ?_; refine yy61 ?_; refine yy47 ?_; refine yy50 ?_; refine yy18 ?_; refine yy4 ?_; refine yy76 ?_; refine yy88 ?_; refine yy9 ?_; refine yy24 ?_; rotate_left; refine yy34 ?_; (refine zc auto_wl (left_calls _ _ _ _ auto_heap) ?_; rintro r H' ⟨rfl, rfl⟩); refine yy5 ?_; refine yy37 ?_; refine yy21 ?_; refine yy2 ?_; refine zg2 rfl rfl rfl (fun hc => ?_) (fun hc => ?_); refine yy61 ?_; refine yy50 ?_; refine yy18 ?_; refine yy4 ?_; refine yy76 ?_; refine yy88 ?_; refine yy9 ?_; refine yy24 ?_; rotate_left; refine yy98 ?_; refine yy5 ?_; (refine zc auto_wl (hG _) ?_; rintro r H' ⟨rfl, rfl⟩); refine yy5 ?_; refine awl_s rfl (s_not rfl) ?_; refine yy49 ?_; refine aw_condp rfl (fun hc => ?_) (fun hc => ?_); refine yy4 ?_; refine yy76 ?_; refine yy88 ?_; refine yy9 ?_; refine yy24 ?_; rotate_left; refine yy67 ?_; refine yy4 ?_; refine yy65 ?_; refine yy9 ?_; rotate_left) | fail)
    · exact ⟨.inl rfl, _, _, _, Ent.cellRet 2 Mg0.cells rfl auto_heap auto_wcc (fun p y hp => by have hp2 := hf2 _ _ (AHeap.ne_ns n2 hp) (hfr _ _ hp); exact ⟨by exact auto_nq, auto_heap⟩), ret_2 rfl (rv1_agg (m := 9) rfl rfl rfl (by decide)) (rv1_tmp rfl), by rw [if_pos (.inl hc)]; rfl, rfl⟩
    · exact ⟨.inl rfl, _, _, _, Ent.cellRet 2 Mg0.cells rfl auto_heap auto_wcc (fun p y hp => by have hp2 := hf2 _ _ (AHeap.ne_ns n2 hp) (hfr _ _ hp); exact ⟨by exact auto_nq, auto_heap⟩), ret_2 rfl (rv1_agg (m := 9) rfl rfl rfl (by decide)) (rv1_tmp rfl), by rw [if_pos (.inr (.inl (List.length_pos_iff.1 hc)))]; rfl, rfl⟩
    · exact ⟨.inl rfl, _, _, _, Ent.cellRet 2 Mg0.cells rfl auto_heap auto_wcc (fun p y hp => by have hp2 := hf2 _ _ (AHeap.ne_ns n2 hp) (hfr _ _ hp); exact ⟨by exact auto_nq, auto_heap⟩), ret_2 rfl (rv1_agg (m := 9) rfl rfl rfl (by decide)) (rv1_tmp rfl), by rw [if_pos (.inr (.inr hc))]; rfl, rfl⟩
    · rename_i c1 c2
      rw [if_neg (fun h => h.elim (fun h => by rw [c1] at h; cases h) (fun h => h.elim (fun h => c2 (List.length_pos_iff.2 h)) hc))]
      exact ⟨.inl rfl, _, _, _, Ent.cellRet 2 [mI v1, mI v2, mI v3, .raw (.int .u64 (u4 : Int)), .raw (.int .u64 (u5 : Int)), .raw (.int .u64 (u6 : Int)), .raw (.int .u64 (u7 : Int)), .sls es.length (es.flatMap En.cells), .bys sb] rfl auto_heap auto_wcc (fun p y hp => by have hp2 := hf2 _ _ (AHeap.ne_ns n2 hp) (hfr _ _ hp); exact ⟨by exact auto_nq, auto_heap⟩), ret_2 rfl (rv1_agg (m := 9) rfl rfl rfl (by decide)) (rv1_tmp rfl), by rw [outM, hmc]; rfl, rfl⟩
end Go.Proofs.Ytbciofnejefkiaa

namespace Go.Proofs.Ytbciofnejefkiaa
open Go Go.Am Go.Proofs

theorem rdIs_enc : ∀ (l : List Int) (r : List UInt8) (f : Bool), (∀ v ∈ l, b64 v) → rdIs l.length (encR l ++ r) f = (l, r, f)
  | [], r, f, _ => rfl
  | v :: l, r, f, h => by
    have hv := h v (List.mem_cons_self)
    have e : encR (v :: l) ++ r = encU 10 (zig v) ++ (encR l ++ r) := by simp [encR]
    rw [List.length_cons, rdIs, e, rd_zig]
    simp only [Bool.or_false]
    rw [rdIs_enc l r f fun x hx => h x (List.mem_cons_of_mem _ hx), unzig_zig hv.1 hv.2]
theorem encR_ge : ∀ l : List Int, l.length ≤ (encR l).length
  | [] => Nat.zero_le _
  | v :: l => by
    have := encU_pos 10 (zig v)
    have := encR_ge l
    have e : encR (v :: l) = encU 10 (zig v) ++ encR l := by simp [encR]
    rw [e, List.length_append, List.length_cons]; omega
theorem getE_enc (e : En) (ok : e.Ok) (hl : e.row.length < 2 ^ 64) : getE (encE e) = some e := by
  have e1 : rd (encE e) = (e.id, encU 10 e.view ++ encU 10 e.row.length ++ encR e.row, false) := by
    rw [show encE e = encU 10 e.id ++ (encU 10 e.view ++ encU 10 e.row.length ++ encR e.row) by simp [encE]]
    exact rd_enc ok.id _
  have e2 : rd (encU 10 e.view ++ encU 10 e.row.length ++ encR e.row) = (e.view, encU 10 e.row.length ++ encR e.row, false) := by
    rw [List.append_assoc]; exact rd_enc ok.view _
  have e3 : rd (encU 10 e.row.length ++ encR e.row) = (e.row.length, encR e.row, false) := rd_enc hl _
  have hh : hdE (encE e) = (e.row.length, encR e.row, false) := by
    unfold hdE
    simp only [e1, e2, e3, Bool.or_false]
  have hr := rdIs_enc e.row [] false ok.row
  rw [List.append_nil] at hr
  have := encR_ge e.row
  unfold getE
  rw [hh]
  simp only [hr, e1, e2]
  rw [if_neg (by omega), if_neg (by simp)]
theorem rdEs_enc : ∀ (l : List En) (r : List UInt8), (∀ e ∈ l, e.Ok ∧ e.row.length < 2 ^ 60) → rdEs l.length (encEs l ++ r) false = (l, r, false, true)
  | [], r, _ => rfl
  | e :: l, r, h => by
    obtain ⟨h1, h2⟩ := h e (List.mem_cons_self)
    have hl := encE_len e
    have e0 : encEs (e :: l) ++ r = encU 10 (encE e).length ++ encE e ++ (encEs l ++ r) := by simp [encEs, enc1]
    have e1 := rs_enc (s := encE e) (by omega) (encEs l ++ r)
    have hg : getE (rs (encEs (e :: l) ++ r)).1 = some e := by rw [e0, e1]; exact getE_enc e h1 (by omega)
    rw [List.length_cons, rdEs_some hg, e0, e1]
    simp only [Bool.or_false]
    rw [rdEs_enc l r fun x hx => h x (List.mem_cons_of_mem _ hx)]
theorem plain_rows {m : Mg} (h : m.plain) : ∀ e ∈ m.ents, e.row.length ≤ 64 := fun e he => wide_get h.2.2.2.2.2 he
theorem getT_enc (m : Mg) (ok : m.Ok) (hp : m.good) : getT (textB m) = some m := by
  have hr := plain_rows hp.1
  have hn := hp.1.2.2.2.1
  have hb := hp.1.2.2.2.2.1
  obtain ⟨k, f, t, vw, la, op, co, es, body⟩ := m
  obtain ⟨o1, o2, o3, o4, o5, o6, o7, o8⟩ := ok
  simp only at hr hn hb o1 o2 o3 o4 o5 o6 o7 o8
  have t0 : textB ⟨k, f, t, vw, la, op, co, es, body⟩ = encU 10 (zig k) ++ (encU 10 (zig f) ++ (encU 10 (zig t) ++ (encU 10 vw ++ (encU 10 la ++ (encU 10 op ++ (encU 10 co ++ (encU 10 es.length ++ (encEs es ++ (encU 10 body.length ++ body))))))))) := by
    simp [textB, encR, encUs]
  have q1 := rd_zig k (encU 10 (zig f) ++ (encU 10 (zig t) ++ (encU 10 vw ++ (encU 10 la ++ (encU 10 op ++ (encU 10 co ++ (encU 10 es.length ++ (encEs es ++ (encU 10 body.length ++ body)))))))))
  have q2 := rd_zig f (encU 10 (zig t) ++ (encU 10 vw ++ (encU 10 la ++ (encU 10 op ++ (encU 10 co ++ (encU 10 es.length ++ (encEs es ++ (encU 10 body.length ++ body))))))))
  have q3 := rd_zig t (encU 10 vw ++ (encU 10 la ++ (encU 10 op ++ (encU 10 co ++ (encU 10 es.length ++ (encEs es ++ (encU 10 body.length ++ body)))))))
  have q4 := rd_enc o4 (encU 10 la ++ (encU 10 op ++ (encU 10 co ++ (encU 10 es.length ++ (encEs es ++ (encU 10 body.length ++ body))))))
  have q5 := rd_enc o5 (encU 10 op ++ (encU 10 co ++ (encU 10 es.length ++ (encEs es ++ (encU 10 body.length ++ body)))))
  have q6 := rd_enc o6 (encU 10 co ++ (encU 10 es.length ++ (encEs es ++ (encU 10 body.length ++ body))))
  have q7 := rd_enc o7 (encU 10 es.length ++ (encEs es ++ (encU 10 body.length ++ body)))
  have q8 := rd_enc (show es.length < 2 ^ 64 by omega) (encEs es ++ (encU 10 body.length ++ body))
  have q9 := rdEs_enc es (encU 10 body.length ++ body) fun e he => ⟨o8 e he, by have := hr e he; omega⟩
  have q10 := rs_enc (s := body) (by omega) []
  rw [List.append_nil] at q10
  have hen : entsB (encU 10 es.length ++ (encEs es ++ (encU 10 body.length ++ body))) false = (es, encU 10 body.length ++ body, false, true) := by
    rw [entsB, q8]
    simp only [Bool.or_false]
    rw [if_neg (by omega), q9]
  unfold getT s7 mgT
  rw [t0]
  simp only [stN_at q1, vlN_at q1, stN_at q2, vlN_at q2, stN_at q3, vlN_at q3, stN_at q4, vlN_at q4, stN_at q5, vlN_at q5, stN_at q6, vlN_at q6, stN_at q7, vlN_at q7, Bool.or_false, hen, q10, unzig_zig o1.1 o1.2, unzig_zig o2.1 o2.2, unzig_zig o3.1 o3.2]
  rw [if_neg (by decide), if_neg (by simp [hp])]
theorem getM_frame (m : Mg) (ok : m.Ok) (hp : m.good) : getM (frame 0 (textB m)) = some m := by
  have ht := take_frame 0 (textB m) [] (by decide) hp.2
  rw [List.append_nil] at ht
  have hl := frame_len 0 (textB m)
  unfold getM
  rw [ht]
  simp only
  rw [if_neg (by rw [hl]; omega), getT_enc m ok hp]

theorem put_good {m : Mg} (h : m.good) : putB m = frame 0 (textB m) := if_pos h
theorem Get_put (H : AHeap) (m : Mg) (ok : m.Ok) (hg : m.good) : ACalls Try.prog 69 [.bys (putB m)] H fun r H' => r = .tup [.agg m.cells, .raw (.int .i64 (0 : Int))] ∧ H' = H := by
  have hl := frame_len 0 (textB m)
  have := Get_calls H (putB m) (by rw [put_good hg, hl]; have := hg.2; omega)
  rw [put_good hg, getM_frame m ok hg] at this
  rw [put_good hg]
  exact this
end Go.Proofs.Ytbciofnejefkiaa
