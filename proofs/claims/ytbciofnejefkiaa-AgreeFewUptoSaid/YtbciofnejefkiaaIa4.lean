import Derived.Test.YtbciofnejefkiaaIz
import Derived.Test.YtbciofnejefkiaaIa3
set_option linter.unusedVariables false
set_option linter.unusedSimpArgs false
set_option maxRecDepth 20000
set_option maxHeartbeats 4000000
namespace Go.Proofs.Ytbciofnejefkiaa
open Go Go.Am Go.Proofs

theorem vote_calls (H : AHeap) (F : Ob) (s : Ag.St) (h : SAt H F s) (hf : CFine s.c) (hl : s.save.length ≤ 8000) (hl2 : s.send.length ≤ 8000) :
    ACalls Try.prog 44 [.ptr F.o 0, .ptr F.os 0] H fun r H' => r = .tup [] ∧ ∃ F', SAt H' F' s.vote ∧ Turn F.l H F F' H' := by
  have h0 := h
  obtain ⟨⟨⟨off, xs, hco, hw, hx1, hx2⟩, ⟨eg, hg, hg2⟩, ⟨eh, hh, hh2⟩⟩, hst, hsv, hsn, nd⟩ := h
  have f1 := hf.n
  have f2 := hf.list.len
  have f3 := hf.me
  have f4 := hf.view
  have hm := Nat.mod_lt s.c.view (show 0 < s.c.n by omega)
  unfold Ag.mostView at f4
  have hld := fun H h => leader_calls H F.o s.c F.og F.oh (.vw F.ow 3 off s.c.wait.length) s.c.view h (by omega) f1 (by omega)
  have hcp := fun H => (copies_own H s.c.list (by omega) fun e he => by have := (hf.list.ok e he).2; omega).seal_cel (flat_len (sz := 3) (fun _ => rfl) s.c.list)
  unfold coreC at hco hld
  clear hw hg hh hst hsv hsn hx1 hx2 hg2 hh2 nd
  refine acalls_of_aw2 Try.func44 rfl (by decide) ?_
  by_cases e : s.c.view % s.c.n = s.c.me
  · have hv : s.vote = s.count s.c.me ⟨s.c.last, s.c.list⟩ := by unfold Ag.St.vote; dsimp only; rw [if_pos e]
    have hC := count_calls H F s s.c.me ⟨s.c.last, s.c.list⟩ h0 hf hl hl2 f3 hf.list hf.last
    unfold voteA at hC
    rw [hv]
    generalize s.c.view % s.c.n = to at *
    (first | focus (refine yy23 ?_; refine yy8 ?_; (refine zc auto_wl (hld _ auto_heap) ?_; rintro r H' ⟨rfl, rfl⟩); refine yy6 ?_; refine yy11 ?_; refine yy8 ?_; refine yy48 ?_; refine yy3 ?_; refine aw_condp rfl (fun hc => ?_) (fun hc => ?_); refine yy16 ?_; (apply awt_s; · exact s_move (v := .ptr _ _) rfl); (apply awt_s; · exact s_move (v := .ptr _ _) rfl); (apply awt_s; · exact s_move (v := .ptr _ _) rfl); (apply awt_s; · exact s_nilCheck_ptr rfl); (apply awt_s; · exact s_fieldAddr_ptr rfl); (apply awt_s; · exact s_load_cel rfl auto_heap rfl); (apply awt_s; · exact s_move (v := .ptr _ _) rfl); (apply awt_s; · exact s_nilCheck_ptr rfl); (apply awt_s; · exact s_fieldAddr_ptr rfl); (apply awt_s; · exact s_load_cel rfl auto_heap rfl); (apply awt_s; · exact s_move (v := .ptr _ _) rfl); (apply awt_s; · exact s_nilCheck_ptr rfl); (apply awt_s; · exact s_fieldAddr_ptr rfl); (apply awt_s; · exact s_load_cel rfl auto_heap rfl); (apply awt_s; · exact s_buildv (by ((repeat' (first | exact eqL_nil | apply eqL_cons)); all_goals (first | exact (rfl : _ = AV.raw _) | exact (rfl : _ = AV.bys _) | exact (rfl : _ = AV.vw _ _ _ _) | exact (rfl : _ = AV.ptr _ _) | exact (rfl : _ = AV.str _) | exact (rfl : _ = AV.sls _ _) | exact (rfl : _ = AV.tup _) | exact (rfl : _ = AV.agg _) | exact (rfl : _ = AV.pce _ _) | exact (rfl : _ = AV.emp) | exact (rfl : _ = AV.bysx _) | exact (rfl : _ = AV.slsx _ _) | exact (rfl : _ = AV.mp _) | exact (rfl : _ = AV.fnc _ _ _) | exact (rfl : _ = AV.pby _ _) | exact (rfl : _ = AV.ifc _ _)))) (by rfl)); refine awt_last ?_; (refine zc auto_wl (hC) ?_; rintro r H' ⟨rfl, F2, b1, b2⟩); refine yy26 ?_; refine yy24 ?_; rotate_left; exact absurd hc auto_no) | fail)
    all_goals try (exfalso; omega)
    exact ⟨.inl rfl, _, _, _, Ent.refl _ _, ret0 rfl, rfl, F2, b1, b2⟩
  · have hv : s.vote = s.out { Ag.msg0 3 ((s.c.view % s.c.n : Nat) : Int) with last := s.c.last, ents := s.c.list } := by unfold Ag.St.vote; dsimp only; rw [if_neg e]
    rw [hv]
    generalize s.c.view % s.c.n = to at *
    have hS : ACalls Try.prog 40 [.ptr F.o 0, .ptr F.os 0, .agg [mI 3, mI 0, mI (to : Int), uI 0, uI s.c.last, uI 0, uI 0, lsE s.c.list, .raw (.slice none 0 0)]] H fun r H' => r = .tup [] ∧ ∃ F2, SAt H' F2 (s.out { Ag.msg0 3 (to : Int) with last := s.c.last, ents := s.c.list }) ∧ Turn F.l H F F2 H' := by
      refine (send_calls H F s { Ag.msg0 3 (to : Int) with last := s.c.last, ents := s.c.list } h0 hf (by omega)).weak (WL.cons (W.of rfl) (WL.cons (W.of rfl) (WL.cons ?_ WL.nil)))
      exact w_agg (WL.cons (W.of rfl) (WL.cons (W.of rfl) (WL.cons (W.of rfl) (WL.cons (W.of rfl) (WL.cons (W.of rfl) (WL.cons (W.of rfl) (WL.cons (W.of rfl) (WL.cons (W.of rfl) (WL.cons (W.nilb rfl) WL.nil)))))))))
    (first | focus (refine yy23 ?_; refine yy8 ?_; (refine zc auto_wl (hld _ auto_heap) ?_; rintro r H' ⟨rfl, rfl⟩); refine yy6 ?_; refine yy11 ?_; refine yy8 ?_; refine yy48 ?_; refine yy3 ?_; refine yy56 ?_; intro hc; refine yy85 ?_; (apply awt_s; · exact s_move (v := .ptr _ _) rfl); (apply awt_s; · exact s_move (v := .ptr _ _) rfl); (apply awt_s; · exact s_move (v := .raw _) rfl); (apply awt_s; · exact s_move (v := .ptr _ _) rfl); (apply awt_s; · exact s_nilCheck_ptr rfl); (apply awt_s; · exact s_fieldAddr_ptr rfl); (apply awt_s; · exact s_load_cel rfl auto_heap rfl); (apply awt_s; · exact s_move (v := .ptr _ _) rfl); (apply awt_s; · exact s_nilCheck_ptr rfl); (apply awt_s; · exact s_fieldAddr_ptr rfl); (apply awt_s; · exact s_load_cel rfl auto_heap rfl); (apply awt_s; · exact s_callc auto_wl (hcp _)); (apply awt_s; · exact s_buildv (by ((repeat' (first | exact eqL_nil | apply eqL_cons)); all_goals (first | exact (rfl : _ = AV.raw _) | exact (rfl : _ = AV.bys _) | exact (rfl : _ = AV.vw _ _ _ _) | exact (rfl : _ = AV.ptr _ _) | exact (rfl : _ = AV.str _) | exact (rfl : _ = AV.sls _ _) | exact (rfl : _ = AV.tup _) | exact (rfl : _ = AV.agg _) | exact (rfl : _ = AV.pce _ _) | exact (rfl : _ = AV.emp) | exact (rfl : _ = AV.bysx _) | exact (rfl : _ = AV.slsx _ _) | exact (rfl : _ = AV.mp _) | exact (rfl : _ = AV.fnc _ _ _) | exact (rfl : _ = AV.pby _ _) | exact (rfl : _ = AV.ifc _ _)))) (by rfl)); refine awt_last ?_; (refine zc auto_wl (hS) ?_; rintro r H' ⟨rfl, F2, b1, b2⟩); refine yy7 ?_; rotate_left) | fail)
    all_goals try (exfalso; omega)
    exact ⟨.inr rfl, _, _, _, Ent.refl _ _, ret0 rfl, rfl, F2, b1, b2⟩
theorem promise_small (s : Ag.St) (v : Nat) : (s.promise v).c = ({ s.c with view := v } : Ag.Co).follow ∧ (s.promise v).send = s.send ∧ (s.promise v).save.length = s.save.length + 1 := by
  unfold Ag.St.promise Ag.St.put
  exact ⟨rfl, rfl, by simp⟩
theorem begin_calls (H : AHeap) (F : Ob) (s : Ag.St) (h : SAt H F s) (hf : CFine s.c) (hl : s.save.length ≤ 7000) (hl2 : s.send.length ≤ 7000) :
    ACalls Try.prog 35 [.ptr F.o 0, .ptr F.os 0] H fun r H' => r = .tup [] ∧ ∃ F', SAt H' F' s.begin ∧ Turn F.l H F F' H' := by
  have h0 := h
  obtain ⟨⟨⟨off, xs, hco, hw, hx1, hx2⟩, ⟨eg, hg, hg2⟩, ⟨eh, hh, hh2⟩⟩, hst, hsv, hsn, nd⟩ := h
  have f1 := hf.n
  have f4 := hf.view
  unfold coreC at hco
  clear hw hg hh hst hsv hsn hx1 hx2 hg2 hh2 nd
  refine acalls_of_aw2 Try.func35 rfl (by decide) ?_
  by_cases e : s.c.view < Ag.mostView
  · have hv : s.begin = ((s.promise (s.c.view + 1)).tell (Ag.msg0 2 0)).vote := by unfold Ag.St.begin; rw [if_pos e]
    rw [hv]
    obtain ⟨p1, p2, p3⟩ := promise_small s (s.c.view + 1)
    have hP := promise_calls H F s (s.c.view + 1) h0 hf (by omega) (by omega)
    have hf1 : CFine (s.promise (s.c.view + 1)).c := by rw [p1]; exact hf.promise (by unfold Ag.mostView at e; omega)
    unfold Ag.mostView at e
    generalize s.promise (s.c.view + 1) = t at *
    have hn1 : t.c.n ≤ 7 := hf1.n
    (first | focus (refine yy4 ?_; refine yy8 ?_; refine yy40 ?_; refine aw_condp rfl (fun hc => ?_) (fun hc => ?_); refine yy23 ?_; refine yy17 ?_; refine yy8 ?_; refine awl_s rfl (s_addu rfl rfl auto_len) ?_; (refine zc auto_wl (hP) ?_; rintro r H' ⟨rfl, F2, b1, b2⟩); refine yy3 ?_; rotate_left; exact absurd hc auto_no) | fail)
    have hT : ACalls Try.prog 63 [.ptr F.o 0, .ptr F.os 0, .agg [mI 2, mI 0, mI 0, uI 0, uI 0, uI 0, uI 0, .raw (.slice none 0 0), .raw (.slice none 0 0)]] H' fun r H'' => r = .tup [] ∧ ∃ F3, SAt H'' F3 (t.tell (Ag.msg0 2 0)) ∧ Turn F2.l H' F2 F3 H'' := by
      have h1 := tell_calls H' F2 t (Ag.msg0 2 0) b1 hf1 (by rw [p2]; omega) ⟨by simp [Ag.msg0], by simp [Ag.msg0]⟩
      rw [b2.o, b2.os] at h1
      refine h1.weak (WL.cons (W.of rfl) (WL.cons (W.of rfl) (WL.cons ?_ WL.nil)))
      exact w_agg (WL.cons (W.of rfl) (WL.cons (W.of rfl) (WL.cons (W.of rfl) (WL.cons (W.of rfl) (WL.cons (W.of rfl) (WL.cons (W.of rfl) (WL.cons (W.of rfl) (WL.cons (W.nils rfl) (WL.cons (W.nilb rfl) WL.nil)))))))))
    clear hP
    (first | focus (refine yy23 ?_; refine yy17 ?_; refine yy76 ?_; (refine zc auto_wl (hT) ?_; rintro r H' ⟨rfl, F3, c1, c2⟩); refine yy3 ?_; rotate_left) | fail)
    obtain ⟨k1, k2, k3⟩ := tellK_small t (Ag.msg0 2 0) t.c.n
    have k4 : tellK t (Ag.msg0 2 0) t.c.n = t.tell (Ag.msg0 2 0) := rfl
    rw [k4] at k1 k2 k3
    have b3 := b2.trans c2
    have hV := vote_calls _ F3 _ c1 (by rw [k1]; exact hf1) (by rw [k3]; omega) (by rw [p2] at k2; omega)
    rw [b3.o, b3.os] at hV
    clear hT
    (first | focus (refine yy36 ?_; refine yy17 ?_; (refine zc auto_wl (hV) ?_; rintro r H' ⟨rfl, F4, d1, d2⟩); refine yy7 ?_; rotate_left) | fail)
    exact ⟨.inr rfl, _, _, _, Ent.refl _ _, ret0 rfl, rfl, F4, d1, b3.trans d2⟩
  · have hv : s.begin = s := by unfold Ag.St.begin; rw [if_neg e]
    rw [hv]
    unfold Ag.mostView at e
    (first | focus (refine yy4 ?_; refine yy8 ?_; refine yy40 ?_; refine yy86 ?_; intro hc; refine aw_skip ?_; rotate_left) | fail)
    all_goals try (exfalso; omega)
    exact ⟨.inr rfl, _, _, _, Ent.gc (H0 := H) auto_sub, ret0 rfl, rfl, F, h0, Turn.refl _ _ _⟩
end Go.Proofs.Ytbciofnejefkiaa

namespace Go.Proofs.Ytbciofnejefkiaa
open Go Go.Am Go.Proofs

structure Sm (a b : Nat) (s t : Ag.St) : Prop where
  c : CFine t.c
  me : t.c.me = s.c.me
  n : t.c.n = s.c.n
  sv : t.save.length ≤ s.save.length + a
  sn : t.send.length ≤ s.send.length + b
theorem Sm.trans {a b a' b' : Nat} {s t u : Ag.St} (h : Sm a b s t) (k : Sm a' b' t u) : Sm (a + a') (b + b') s u :=
  ⟨k.c, k.me.trans h.me, k.n.trans h.n, by have := h.sv; have := k.sv; omega, by have := h.sn; have := k.sn; omega⟩
theorem Sm.more {a b a' b' : Nat} {s t : Ag.St} (h : Sm a b s t) (h1 : a ≤ a') (h2 : b ≤ b') : Sm a' b' s t :=
  ⟨h.c, h.me, h.n, by have := h.sv; omega, by have := h.sn; omega⟩
theorem out_sm {s : Ag.St} (h : CFine s.c) (m : Mg) : Sm 0 1 s (s.out m) := by
  obtain ⟨h1, h2, h3⟩ := out_small s m
  exact ⟨by rw [h1]; exact h, by rw [h1], by rw [h1], by rw [h3]; omega, h2⟩
theorem lay_sm {s : Ag.St} (h : CFine s.c) : Sm 0 7 s s.lay := by
  obtain ⟨h1, h2, h3, _⟩ := layK_small s s.c.n
  have e : layK s s.c.n = s.lay := rfl
  rw [e] at h1 h2 h3
  have := h.n
  exact ⟨by rw [h1]; exact h, by rw [h1], by rw [h1], by rw [h3]; omega, by omega⟩
theorem tell_sm {s : Ag.St} (h : CFine s.c) (m : Mg) : Sm 0 7 s (s.tell m) := by
  obtain ⟨h1, h2, h3⟩ := tellK_small s m s.c.n
  have e : tellK s m s.c.n = s.tell m := rfl
  rw [e] at h1 h2 h3
  have := h.n
  exact ⟨by rw [h1]; exact h, by rw [h1], by rw [h1], by rw [h3]; omega, by omega⟩
theorem take_sm {s : Ag.St} (h : CFine s.c) {v : Nat} (hv : v ≤ Ag.mostView) {l : List En} (hl : LF l) (ha : s.c.agreed ≤ l.length) : Sm 1 0 s (s.take v l) := by
  have hc : (s.take v l).c = { s.c with last := v, list := l } := Ag.take_c _ _ _
  exact ⟨by rw [hc]; exact h.take hv hl ha, by rw [hc], by rw [hc], take_save_len _ _ _, by rw [Ag.take_send]; omega⟩
theorem mem_sm {s : Ag.St} {c : Ag.Co} (h : CFine c) (h1 : c.me = s.c.me) (h2 : c.n = s.c.n) : Sm 0 0 s { s with c := c } := ⟨h, h1, h2, Nat.le_refl _, Nat.le_refl _⟩
theorem CFine.unwait {c : Ag.Co} (hf : CFine c) : CFine { c with wait := [] } := ⟨hf.me, hf.n, hf.view, hf.last, hf.list, hf.agr, ⟨by simp, by simp⟩, hf.quiet, hf.got, hf.held⟩
theorem CFine.leads {c : Ag.Co} (hf : CFine c) : CFine { c with lead := true, got := fun _ => none } := ⟨hf.me, hf.n, hf.view, hf.last, hf.list, hf.agr, hf.wait, hf.quiet, fun q x hx => (by cases hx), hf.held⟩
theorem grow_sm {s : Ag.St} (h : CFine s.c) : Sm 1 7 s s.grow := by
  obtain ⟨g1, g2⟩ := grown_LF h.list h.wait.ok
  have h0 : Sm 0 0 s { s with c := { s.c with wait := [] } } := mem_sm h.unwait rfl rfl
  unfold Ag.St.grow; dsimp only
  have ht : ∀ t : Ag.St, Sm 1 0 s t → Sm 1 7 s (Ag.St.lay { t with c := t.c.settle }) := fun t k =>
    (k.trans (mem_sm (s := t) k.c.settle (settle_same2 _).1 (settle_same2 _).2)).trans (lay_sm (s := { t with c := t.c.settle }) k.c.settle)
  split
  · exact ht _ ((h0.trans (take_sm (s := { s with c := { s.c with wait := [] } }) h.unwait h.view g1 (by have := h.agr; show s.c.agreed ≤ _; omega))))
  · exact ht _ (h0.more (Nat.zero_le _) (Nat.le_refl _))
theorem won_sm {s : Ag.St} (h : CFine s.c) : Sm 2 7 s s.won := by
  unfold Ag.St.won; dsimp only
  split
  · exact ⟨h, rfl, rfl, by omega, by omega⟩
  · obtain ⟨b1, b2, b3⟩ := bestK_LF h s.c.n
    have hk : Sm 1 0 s (s.take s.c.view s.c.best.list) := take_sm h h.view b1 b3
    exact (hk.trans (mem_sm (s := s.take s.c.view s.c.best.list) hk.c.leads rfl rfl)).trans (grow_sm (s := { s.take s.c.view s.c.best.list with c := { (s.take s.c.view s.c.best.list).c with lead := true, got := fun _ => none } }) hk.c.leads)
theorem CFine.got1 {c : Ag.Co} (hf : CFine c) {q : Nat} {v : Ag.Vt} (hq : q < c.n) (hv : LF v.list) (hv2 : v.last ≤ Ag.mostView) : CFine { c with got := Ag.upd c.got q (some v) } := ⟨hf.me, hf.n, hf.view, hf.last, hf.list, hf.agr, hf.wait, hf.quiet, fun p x hx => by
      have hx' : Ag.upd c.got q (some v) p = some x := hx
      unfold Ag.upd at hx'
      split at hx'
      · next e => cases hx'; exact ⟨by rw [e]; exact hq, hv2, hv⟩
      · exact hf.got p x hx', hf.held⟩
theorem count_sm {s : Ag.St} (h : CFine s.c) {q : Nat} {v : Ag.Vt} (hq : q < s.c.n) (hv : LF v.list) (hv2 : v.last ≤ Ag.mostView) : Sm 2 7 s (s.count q v) := by
  unfold Ag.St.count
  split
  · exact ⟨h, rfl, rfl, by omega, by omega⟩
  · exact (mem_sm (s := s) (h.got1 hq hv hv2) rfl rfl).trans (won_sm (s := { s with c := { s.c with got := Ag.upd s.c.got q (some v) } }) (h.got1 hq hv hv2)) |>.more (by omega) (by omega)
theorem vote_sm {s : Ag.St} (h : CFine s.c) : Sm 2 7 s s.vote := by
  unfold Ag.St.vote; dsimp only
  split
  · exact count_sm h h.me h.list h.last
  · exact (out_sm h _).more (by omega) (by omega)
theorem promise_sm {s : Ag.St} (h : CFine s.c) {v : Nat} (hv : v ≤ Ag.mostView) : Sm 1 0 s (s.promise v) := by
  obtain ⟨p1, p2, p3⟩ := promise_small s v
  exact ⟨by rw [p1]; exact h.promise hv, by rw [p1]; rfl, by rw [p1]; rfl, by omega, by rw [p2]; omega⟩
theorem begin_sm {s : Ag.St} (h : CFine s.c) : Sm 3 14 s s.begin := by
  unfold Ag.St.begin
  split
  · next hv =>
    have k1 := promise_sm h (v := s.c.view + 1) (by omega)
    have k2 := k1.trans (tell_sm k1.c (Ag.msg0 2 0))
    exact (k2.trans (vote_sm k2.c)).more (by omega) (by omega)
  · exact ⟨h, rfl, rfl, by omega, by omega⟩
theorem CFine.wanted {c : Ag.Co} (h : CFine c) {e : En} (he : e.Ok) : CFine (c.wanted e).1 ∧ (c.wanted e).1.me = c.me ∧ (c.wanted e).1.n = c.n := by
  unfold Ag.Co.wanted
  split
  · exact ⟨h, rfl, rfl⟩
  · next hc =>
    rw [not_or, not_or] at hc
    have hm : e.row.length ≤ 16 := by
      have := hc.1; simp only [Ag.may, Bool.and_eq_false_iff, decide_eq_false_iff_not, not_or] at this; omega
    have hL : LF ((if c.wait.length = 200 then c.wait.drop 1 else c.wait) ++ [e]) := by
      have hw := h.wait.len
      refine ⟨fun x hx => ?_, ?_⟩
      · rcases List.mem_append.1 hx with hx | hx
        · split at hx
          · exact h.wait.ok x (List.mem_of_mem_drop hx)
          · exact h.wait.ok x hx
        · rw [List.mem_singleton.1 hx]; exact ⟨he, hm⟩
      · rw [List.length_append, List.length_singleton]
        split
        · rw [List.length_drop]; omega
        · omega
    exact ⟨⟨h.me, h.n, h.view, h.last, h.list, h.agr, hL, h.quiet, h.got, h.held⟩, rfl, rfl⟩
theorem want_sm {s : Ag.St} (h : CFine s.c) {e : En} (he : e.Ok) : Sm 1 7 s (s.want e) := by
  obtain ⟨h1, h2, h3⟩ := h.wanted he
  unfold Ag.St.want; dsimp only
  split
  · exact (mem_sm (s := s) h1 h2 h3).trans (grow_sm (s := { s with c := (s.c.wanted e).1 }) h1) |>.more (by omega) (by omega)
  · exact (mem_sm (s := s) h1 h2 h3).more (by omega) (by omega)
theorem wanted_S (H : AHeap) (F : Ob) (s : Ag.St) (e : En) (h : SAt H F s) (hf : CFine s.c) (hr : e.row.length ≤ 1000000) (he : e.Ok) :
    ACalls Try.prog 36 [.ptr F.o 0, .agg e.cells] H fun r H' => r = bB (s.c.wanted e).2 ∧ ∃ F', SAt H' F' { s with c := (s.c.wanted e).1 } ∧ Turn F.l H F F' H' :=
  (wanted_calls H F s.c e h.c h.nd.c hf hr).mono fun r H' ⟨h1, F', h2, t⟩ => by
    obtain ⟨_, k1, k2⟩ := hf.wanted he
    obtain ⟨a, b⟩ := h.turn h2 t k1 k2
    exact ⟨h1, F', a, b⟩
end Go.Proofs.Ytbciofnejefkiaa

namespace Go.Proofs.Ytbciofnejefkiaa
open Go Go.Am Go.Proofs

def saveA (s : Ag.St) : AV := .sls s.save.length (s.save.map fun x => .bys (recB s.c.me s.c.n x))
def sendA (s : Ag.St) : AV := .sls s.send.length (s.send.flatMap Mg.cells)
def stepA (s : Ag.St) : AV := .agg [saveA s, sendA s]
structure TurnK (H : AHeap) (F F' : Ob) (H' : AHeap) : Prop where
  o : F'.o = F.o
  new : ∀ p ∈ F'.c, p ∈ F.c ∨ H p = none
  fr : ∀ p y, H p = some y → p ∉ F.c → H' p = some y
  nd : NdC F'
structure Bgn (H : AHeap) (F : Ob) (oR : Nat) (H1 : AHeap) (F1 : Ob) : Prop where
  o : F1.o = F.o
  c : F1.c = F.c
  os : H F1.os = none
  ov : H F1.ov = none
  on : H F1.on = none
  R : H oR = none
  nR : oR ∉ F1.l
  fr : ∀ p y, H p = some y → H1 p = some y
theorem SAt.start {H : AHeap} {F : Ob} {c : Ag.Co} (h : CAt H F c) (nd : NdC F) {H1 : AHeap} {os ov on oR : Nat} (hs : H os = none) (hv : H ov = none) (hn : H on = none) (hR : H oR = none) (n1 : os ≠ ov) (n2 : os ≠ on) (n3 : ov ≠ on) (m1 : oR ≠ os) (m2 : oR ≠ ov) (m3 : oR ≠ on)
    (e1 : H1 os = some (.cel [.vw ov 1 0 0, .vw on 9 0 0])) (e2 : H1 ov = some (.cel [])) (e3 : H1 on = some (.cel [])) (fr : ∀ p y, H p = some y → H1 p = some y) :
    SAt H1 { F with os := os, ov := ov, on := on } ⟨c, [], []⟩ ∧ Bgn H F oR H1 { F with os := os, ov := ov, on := on } := by
  have hne : ∀ {p q : Nat} {y : AO}, H p = some y → H q = none → p ≠ q := fun a b e => by rw [e, b] at a; cases a
  obtain ⟨⟨off, xs, hco, hw, hx1, hx2⟩, ⟨eg, hg, hg2⟩, ⟨eh, hh, hh2⟩⟩ := h
  obtain ⟨k1, k2, k3, k4, k5, k6⟩ := nd
  refine ⟨⟨⟨⟨off, xs, fr _ _ hco, fr _ _ hw, hx1, hx2⟩, ⟨eg, fr _ _ hg, hg2⟩, ⟨eh, fr _ _ hh, hh2⟩⟩, e1, e2, e3, ⟨k1, k2, k3, hne hco hs, hne hco hv, hne hco hn, k4, k5, hne hg hs, hne hg hv, hne hg hn, k6, hne hh hs, hne hh hv, hne hh hn, hne hw hs, hne hw hv, hne hw hn, n1, n2, n3⟩⟩, ⟨rfl, rfl, hs, hv, hn, hR, ?_, fr⟩⟩
  simp only [Ob.l, List.mem_cons, List.not_mem_nil, or_false, not_or]
  exact ⟨(hne hco hR).symm, (hne hg hR).symm, (hne hh hR).symm, (hne hw hR).symm, m1, m2, m3⟩
theorem flat_len9 (l : List Mg) : (l.flatMap Mg.cells).length = l.length * 9 := flat_len (sz := 9) (fun _ => rfl) l
theorem Bgn.keep {H H1 H2 : AHeap} {F F1 F2 : Ob} {oR : Nat} (b : Bgn H F oR H1 F1) (t : Turn F1.l H1 F1 F2 H2) {z : AO} (hz : H1 oR = some z) : H2 oR = some z ∧ oR ∉ F2.l := t.keep hz b.nR
theorem Bgn.done {H H1 H2 : AHeap} {F F1 F2 : Ob} {oR : Nat} {s : Ag.St} (b : Bgn H F oR H1 F1) (t : Turn F1.l H1 F1 F2 H2) (h : SAt H2 F2 s) {z : AO} (hz : H1 oR = some z) :
    ∃ H3, (∀ R, Ent R H2 R H3) ∧ H3 F1.os = some (.cel [saveA s, sendA s]) ∧ H3 oR = some z ∧ oR ≠ F1.os ∧ CAt (H3.erase oR) F2 s.c ∧ TurnK H F F2 (H3.erase oR) := by
  obtain ⟨hz2, hR2⟩ := b.keep t hz
  obtain ⟨⟨⟨off, xs, hco, hw, hx1, hx2⟩, ⟨eg, hg, hg2⟩, ⟨eh, hh, hh2⟩⟩, hst, hsv, hsn, nd⟩ := h
  obtain ⟨n1, n2, n3, n4, n5, n6, n7, n8, n9, n10, n11, n12, n13, n14, n15, n16, n17, n18, n19, n20, n21⟩ := nd
  obtain ⟨r1, r2, r3, r4, r5, r6, r7⟩ := Ob.nel hR2
  have hE : ∀ R, Ent R H2 R ((((H2.erase F2.ov).set F2.os (.cel [saveA s, .vw F2.on 9 0 s.send.length])).erase F2.on).set F2.os (.cel [saveA s, sendA s])) := fun R =>
    (Ent.seal_cellC (p := F2.os) (o := F2.ov) (k := 0) (sz := 1) n19 hst hsv rfl (by simp)).trans (Ent.seal_cellC (p := F2.os) (o := F2.on) (k := 1) (sz := 9) n20 (AHeap.set_self _ _ _) (AHeap.get_skip n20.symm (AHeap.get_unerase n21.symm hsn)) rfl (flat_len9 s.send))
  have hK : ∀ p y, H2 p = some y → p ≠ F2.os → p ≠ F2.ov → p ≠ F2.on → ((((H2.erase F2.ov).set F2.os (.cel [saveA s, .vw F2.on 9 0 s.send.length])).erase F2.on).set F2.os (.cel [saveA s, sendA s])) p = some y := fun p y hp a1 a2 a3 =>
    AHeap.get_skip a1 (AHeap.get_unerase a3 (AHeap.get_skip a1 (AHeap.get_unerase a2 hp)))
  have hU : ((((H2.erase F2.ov).set F2.os (.cel [saveA s, .vw F2.on 9 0 s.send.length])).erase F2.on).set F2.os (.cel [saveA s, sendA s])) F2.os = some (.cel [saveA s, sendA s]) := AHeap.set_self _ _ _
  generalize ((((H2.erase F2.ov).set F2.os (.cel [saveA s, .vw F2.on 9 0 s.send.length])).erase F2.on).set F2.os (.cel [saveA s, sendA s])) = H3 at *
  refine ⟨H3, hE, t.os ▸ hU, hK _ _ hz2 r5 r6 r7, t.os ▸ r5, ⟨⟨off, xs, AHeap.get_unerase r1.symm (hK _ _ hco n4 n5 n6), AHeap.get_unerase r4.symm (hK _ _ hw n16 n17 n18), hx1, hx2⟩, ⟨eg, AHeap.get_unerase r2.symm (hK _ _ hg n9 n10 n11), hg2⟩, ⟨eh, AHeap.get_unerase r3.symm (hK _ _ hh n13 n14 n15), hh2⟩⟩, ⟨t.o.trans b.o, fun p hp => ?_, fun p y hp hF => ?_, ⟨n1, n2, n3, n7, n8, n12⟩⟩⟩
  · have hl : p ∈ F1.l ∨ H1 p = none := t.new p (Ob.cl hp)
    rcases hl with hl | hl
    · have : p ∈ F1.c ∨ p = F1.os ∨ p = F1.ov ∨ p = F1.on := by
        simp only [Ob.l, Ob.c, List.mem_cons, List.not_mem_nil, or_false] at hl ⊢
        rcases hl with e | e | e | e | e | e | e <;> simp [e]
      rcases this with e | e | e | e
      · exact .inl (b.c ▸ e)
      · exact .inr (e ▸ b.os)
      · exact .inr (e ▸ b.ov)
      · exact .inr (e ▸ b.on)
    · right
      cases e : H p with
      | none => rfl
      | some y => rw [b.fr _ _ e] at hl; cases hl
  · have hne : ∀ {q : Nat}, H q = none → p ≠ q := fun b e => by rw [e, b] at hp; cases hp
    have hF1 : p ∉ F1.l := by
      intro hl
      have : p ∈ F1.c ∨ p = F1.os ∨ p = F1.ov ∨ p = F1.on := by
        simp only [Ob.l, Ob.c, List.mem_cons, List.not_mem_nil, or_false] at hl ⊢
        rcases hl with e | e | e | e | e | e | e <;> simp [e]
      rcases this with e | e | e | e
      · exact hF (b.c ▸ e)
      · exact hne b.os e
      · exact hne b.ov e
      · exact hne b.on e
    have hp1 := b.fr _ _ hp
    obtain ⟨hp2, hF2⟩ := t.keep hp1 hF1
    obtain ⟨_, _, _, _, a1, a2, a3⟩ := Ob.nel hF2
    exact AHeap.get_unerase (hne b.R) (hK _ _ hp2 a1 a2 a3)
theorem aw_begin {P : Program} {n : Nat} {K : Exit → Regs → AHeap → Prop} {R : Regs} {H : AHeap} {code : Code} {F : Ob} {c : Ag.Co} (h : CAt H F c) (nd : NdC F) {oR oS : Nat} {z : AO} (hR : H oR = none) (hS : (H.set oR z) oS = none)
    (hk : ∀ H1 F1, SAt H1 F1 ⟨c, [], []⟩ → Bgn H F oR H1 F1 → F1.os = oS → H1 oR = some z → AW P n code K R H1) : AW P n code K R ((H.set oR z).set oS (.cel (AV.raw (.agg #[.slice none 0 0, .slice none 0 0])).parts)) := by
  refine aw_own_cell (o := oS) 0 1 (AHeap.set_self _ _ _) rfl (fun oV hoV => ?_)
  have v1 : oV ≠ oS := AHeap.ne_of_fresh hoV
  have v2 : (H.set oR z) oV = none := AHeap.none_of_set hoV
  have v3 : oV ≠ oR := AHeap.ne_of_fresh v2
  have v4 : H oV = none := AHeap.none_of_set v2
  have s1 : oS ≠ oR := AHeap.ne_of_fresh hS
  have s2 : H oS = none := AHeap.none_of_set hS
  refine aw_own_cell (o := oS) (xs := [.vw oV 1 0 0, .raw (.slice none 0 0)]) 1 9 (AHeap.get_skip v1.symm (AHeap.set_self _ _ _)) rfl (fun oW hoW => ?_)
  have w1 : oW ≠ oV := AHeap.ne_of_fresh hoW
  have w2 := AHeap.none_of_set hoW
  have w3 : oW ≠ oS := AHeap.ne_of_fresh w2
  have w4 : (H.set oR z) oW = none := AHeap.none_of_set (AHeap.none_of_set w2)
  have w5 : oW ≠ oR := AHeap.ne_of_fresh w4
  have w6 : H oW = none := AHeap.none_of_set w4
  have e1 : ∀ H0 : AHeap, ((((H0.set oV (.cel [])).set oS (.cel [AV.vw oV 1 0 0, AV.vw oW 9 0 0])).set oW (.cel [])) : AHeap) oS = some (.cel [.vw oV 1 0 0, .vw oW 9 0 0]) := fun _ => AHeap.get_skip w3.symm (AHeap.set_self _ _ _)
  obtain ⟨a, b⟩ := SAt.start h nd (oR := oR) s2 v4 w6 hR v1.symm w3.symm w1.symm s1.symm v3.symm w5.symm (e1 _) (AHeap.get_skip w1.symm (AHeap.get_skip v1 (AHeap.set_self _ _ _))) (AHeap.set_self _ _ _) (H1 := (((((H.set oR z).set oS (.cel (AV.raw (.agg #[.slice none 0 0, .slice none 0 0])).parts)).set oS (.cel ((AV.raw (.agg #[.slice none 0 0, .slice none 0 0])).parts.set 0 (.vw oV 1 0 0)))).set oV (.cel [])).set oS (.cel [AV.vw oV 1 0 0, AV.vw oW 9 0 0])).set oW (.cel [])) (fun p y hp => by
    have hne : ∀ {q : Nat}, H q = none → p ≠ q := fun b e => by rw [e, b] at hp; cases hp
    exact AHeap.get_skip (hne w6) (AHeap.get_skip (hne s2) (AHeap.get_skip (hne v4) (AHeap.get_skip (hne s2) (AHeap.get_skip (hne s2) (AHeap.get_skip (hne hR) hp))))))
  exact hk _ _ a b rfl (AHeap.get_skip w5.symm (AHeap.get_skip s1.symm (AHeap.get_skip v3.symm (AHeap.get_skip s1.symm (AHeap.get_skip s1.symm (AHeap.set_self _ _ _))))))
theorem erase_sub {H : AHeap} {o : Nat} {x : AO} : ∀ p y, (H.erase o) p = some y → p ≠ o ∧ (H.set o x) p = some y := fun p y hp => by
  by_cases e : p = o
  · rw [e] at hp; simp [AHeap.erase] at hp
  · simp only [AHeap.erase, if_neg e] at hp; exact ⟨e, AHeap.get_skip e hp⟩
theorem fresh_sub {H : AHeap} {o : Nat} {x : AO} (h : H o = none) : ∀ p y, H p = some y → p ≠ o ∧ (H.set o x) p = some y := fun p y hp => by
  have e : p ≠ o := fun e => by rw [e, h] at hp; cases hp
  exact ⟨e, AHeap.get_skip e hp⟩
end Go.Proofs.Ytbciofnejefkiaa

namespace Go.Proofs.Ytbciofnejefkiaa
open Go Go.Am Go.Proofs

theorem CFine.calm {c : Ag.Co} (h : CFine c) {q : Nat} (hq : q ≤ 1000000000) : CFine { c with quiet := q } := ⟨h.me, h.n, h.view, h.last, h.list, h.agr, h.wait, hq, h.got, h.held⟩
theorem SAt.quiet {H : AHeap} {F : Ob} {s : Ag.St} (h : SAt H F s) (q : Nat) : ∃ off, SAt (H.set F.o (.cel (coreC { s.c with quiet := q } F.og F.oh (.vw F.ow 3 off s.c.wait.length)))) F { s with c := { s.c with quiet := q } } ∧
    Turn F.l H F F (H.set F.o (.cel (coreC { s.c with quiet := q } F.og F.oh (.vw F.ow 3 off s.c.wait.length)))) ∧ H F.o = some (.cel (coreC s.c F.og F.oh (.vw F.ow 3 off s.c.wait.length))) := by
  obtain ⟨⟨⟨off, xs, hco, hw, hx1, hx2⟩, ⟨eg, hg, hg2⟩, ⟨eh, hh, hh2⟩⟩, hst, hsv, hsn, nd⟩ := h
  obtain ⟨n1, n2, n3, n4, n5, n6, n7, n8, n9, n10, n11, n12, n13, n14, n15, n16, n17, n18, n19, n20, n21⟩ := nd
  refine ⟨off, ⟨⟨⟨off, xs, auto_heap, auto_heap, hx1, hx2⟩, ⟨eg, auto_heap, ⟨hg2.get, hg2.len⟩⟩, ⟨eh, auto_heap, ⟨hh2.get, hh2.nd⟩⟩⟩, auto_heap, auto_heap, auto_heap, ⟨n1, n2, n3, n4, n5, n6, n7, n8, n9, n10, n11, n12, n13, n14, n15, n16, n17, n18, n19, n20, n21⟩⟩, ⟨rfl, rfl, fun p hp => .inl hp, fun p y hp hF => AHeap.get_skip (fun e => hF (by simp [Ob.l, e])) hp⟩, hco⟩
theorem Tick_calls (H : AHeap) (F : Ob) (c : Ag.Co) (h : CAt H F c) (nd : NdC F) (hf : CFine c) (hq : c.quiet ≤ 1000000) :
    ACalls Try.prog 19 [.ptr F.o 0] H fun r H' => r = stepA c.tick ∧ ∃ F', CAt H' F' c.tick.c ∧ TurnK H F F' H' := by
  obtain ⟨off0, _, hco0, _⟩ := h.core
  unfold coreC at hco0
  refine acalls_of_aw1 Try.func19 rfl (by decide) ?_
  (first | focus (refine yy4 ?_; refine awl_alloc rfl rfl rfl (fun oN hoN => ?_); refine yy68 ?_; refine awl_alloc rfl rfl rfl (fun oN hoN => ?_); refine yy3 ?_; rotate_left) | fail)
  rename_i oR hoR
  refine aw_begin h nd hoR hoN (fun H1 F1 a1 b1 e1 z1 => ?_)
  subst e1
  have hco := b1.fr _ _ hco0
  have hsv0 : (⟨c, [], []⟩ : Ag.St).save.length = 0 := rfl
  have hsn0 : (⟨c, [], []⟩ : Ag.St).send.length = 0 := rfl
  have hc0 : (⟨c, [], []⟩ : Ag.St).c = c := rfl
  clear h hco0 hoN
  cases hl : c.lead with
  | true =>
    have ht : c.tick = Ag.St.grow ⟨c, [], []⟩ := by unfold Ag.Co.tick; dsimp only; rw [if_pos hl]
    rw [ht]
    rw [hl] at hco
    have hG := grow_calls H1 F1 ⟨c, [], []⟩ a1 hf (by omega) (by omega)
    rw [b1.o] at hG
    generalize (⟨c, [], []⟩ : Ag.St) = s at *
    (first | focus (refine yy13 ?_; refine yy8 ?_; refine yy3 ?_; refine yy18 ?_; refine yy23 ?_; (refine zc auto_wl (hG) ?_; rintro r H' ⟨rfl, F2, c1, c2⟩); refine yy3 ?_; rotate_left) | fail)
    obtain ⟨H3, hE, q1, q2, q3, q4, q5⟩ := b1.done c2 c1 z1
    refine aw_ent (R' := [(2, .ptr oR 0), (3, .ptr F1.os 0)]) (H' := H3) ((hE _).trans (Ent.sub _ (by (repeat' (first | exact RSub.nil _ | apply RSub.cons)); all_goals rfl))) ?_
    clear hG hE
    (first | focus (refine yy4 ?_; refine yy65 ?_; refine yy26 ?_; refine yy24 ?_; rotate_left) | fail)
    exact ⟨.inl rfl, _, _, _, Ent.cellRet (H0 := H3.erase oR) 2 [saveA _, sendA _] rfl auto_heap auto_wcc erase_sub, ret_1 rfl (rv1_agg (m := 2) rfl rfl rfl (by decide)), rfl, F2, q4, q5⟩
  | false =>
    rw [hl] at hco
    obtain ⟨off, a2, t2, k2⟩ := a1.quiet (c.quiet + 1)
    have hfq : CFine { c with quiet := c.quiet + 1 } := hf.calm (by omega)
    rw [b1.o] at a2 t2 k2
    replace k2 : H1 F.o = some (.cel [mI c.me, mI c.n, uI c.view, uI c.last, lsE c.list, mI c.agreed, bB false, mI c.quiet, .mp F1.og, .mp F1.oh, .vw F1.ow 3 off c.wait.length]) := by rw [← hl]; exact k2
    clear hco
    (first | focus (refine yy13 ?_; refine yy8 ?_; refine yy3 ?_; refine yy77 ?_; refine yy4 ?_; refine yy8 ?_; refine awl_s rfl (s_addn rfl rfl auto_len) ?_; refine yy60 ?_; refine yy58 ?_; refine yy3 ?_; rotate_left) | fail)
    have hcq : ∀ wv, coreC { c with quiet := c.quiet + 1 } F1.og F1.oh wv = [mI c.me, mI c.n, uI c.view, uI c.last, lsE c.list, mI c.agreed, bB false, mI ((c.quiet + 1 : Nat) : Int), .mp F1.og, .mp F1.oh, wv] := fun wv => by rw [← hl]; rfl
    refine aw_ent (R' := [(0, .ptr F.o 0), (2, .ptr oR 0), (3, .ptr F1.os 0)]) (H' := H1.set F.o (.cel (coreC { c with quiet := c.quiet + 1 } F1.og F1.oh (.vw F1.ow 3 off c.wait.length)))) ?_ ?_
    · rw [hcq]
      exact Ent.sub _ (by (repeat' (first | exact RSub.nil _ | apply RSub.cons)); all_goals rfl)
    have k3 : (H1.set F.o (.cel (coreC { c with quiet := c.quiet + 1 } F1.og F1.oh (.vw F1.ow 3 off c.wait.length)))) F.o = some (.cel [mI c.me, mI c.n, uI c.view, uI c.last, lsE c.list, mI c.agreed, bB false, mI ((c.quiet + 1 : Nat) : Int), .mp F1.og, .mp F1.oh, .vw F1.ow 3 off c.wait.length]) := by rw [hcq]; exact AHeap.set_self _ _ _
    have ht : c.tick = if 12 ≤ c.quiet + 1 ∨ c.n = 1 then Ag.St.begin ⟨{ c with quiet := c.quiet + 1 }, [], []⟩ else if (c.quiet + 1) % 4 = 0 then Ag.St.vote ⟨{ c with quiet := c.quiet + 1 }, [], []⟩ else ⟨{ c with quiet := c.quiet + 1 }, [], []⟩ := by unfold Ag.Co.tick; dsimp only; rw [if_neg (by rw [hl]; simp)]
    rw [ht]
    replace a2 : SAt (H1.set F.o (.cel (coreC { c with quiet := c.quiet + 1 } F1.og F1.oh (.vw F1.ow 3 off c.wait.length)))) F1 ⟨{ c with quiet := c.quiet + 1 }, [], []⟩ := a2
    replace t2 : Turn F1.l H1 F1 F1 (H1.set F.o (.cel (coreC { c with quiet := c.quiet + 1 } F1.og F1.oh (.vw F1.ow 3 off c.wait.length)))) := t2
    generalize (H1.set F.o (.cel (coreC { c with quiet := c.quiet + 1 } F1.og F1.oh (.vw F1.ow 3 off c.wait.length)))) = H2 at *
    have hB := begin_calls H2 F1 ⟨{ c with quiet := c.quiet + 1 }, [], []⟩ a2 hfq (Nat.zero_le _) (Nat.zero_le _)
    have hV := vote_calls H2 F1 ⟨{ c with quiet := c.quiet + 1 }, [], []⟩ a2 hfq (Nat.zero_le _) (Nat.zero_le _)
    rw [b1.o] at hB hV
    generalize (⟨{ c with quiet := c.quiet + 1 }, [], []⟩ : Ag.St) = s at *
    have hfn := hf.n
    clear hcq ht hsv0 hsn0 hc0 k2 a1 hl hfq
    by_cases e1 : 12 ≤ c.quiet + 1 ∨ c.n = 1
    · rw [if_pos e1]
      (first | focus (refine aw_seq ?_; refine yy100 ?_; refine yy8 ?_; refine yy96 ?_; refine yy2 ?_; refine zg2 rfl rfl rfl (fun hc => ?_) (fun hc => ?_); refine yy32 ?_; refine yy38 ?_; refine yy6 ?_; refine yy18 ?_; refine yy36 ?_; (refine zc auto_wl (hB) ?_; rintro r H' ⟨rfl, F2, c1, c2⟩); refine yy7 ?_; refine yy35 ?_; rotate_left; refine yy34 ?_; refine yy83 ?_; refine yy33 ?_; refine yy48 ?_; refine yy21 ?_; refine yy6 ?_; refine aw_condp rfl (fun hc => ?_) (fun hc => ?_); refine yy36 ?_; (refine zc auto_wl (hB) ?_; rintro r H' ⟨rfl, F2, c1, c2⟩); refine yy7 ?_; refine yy35 ?_; rotate_left; exact absurd hc auto_no) | fail)
      all_goals try (exfalso; omega)
      all_goals (
        obtain ⟨H3, hE, q1, q2, q3, q4, q5⟩ := b1.done (t2.trans c2) c1 z1
        refine aw_ent (R' := [(2, .ptr oR 0), (3, .ptr F1.os 0)]) (H' := H3) ((hE _).trans (Ent.sub _ (by (repeat' (first | exact RSub.nil _ | apply RSub.cons)); all_goals rfl))) ?_
        clear hE k3
        (first | focus (refine yy4 ?_; refine yy65 ?_; refine yy26 ?_; rotate_left) | fail)
        exact ⟨.inl rfl, _, _, _, Ent.cellRet (H0 := H3.erase oR) 2 [saveA _, sendA _] rfl auto_heap auto_wcc erase_sub, ret_1 rfl (rv1_agg (m := 2) rfl rfl rfl (by decide)), rfl, F2, q4, q5⟩)
    · rw [if_neg e1]
      by_cases e2 : (c.quiet + 1) % 4 = 0
      · rw [if_pos e2]
        (first | focus (refine aw_seq ?_; refine yy100 ?_; refine yy8 ?_; refine yy96 ?_; refine yy2 ?_; refine zg2 rfl rfl rfl (fun hc => ?_) (fun hc => ?_); exact absurd hc auto_no; refine yy34 ?_; refine yy83 ?_; refine yy33 ?_; refine yy48 ?_; refine yy21 ?_; refine yy6 ?_; refine yy92 ?_; intro hc; refine yy8 ?_; refine awl_s rfl (s_remn rfl rfl auto_len) ?_; refine yy69 ?_; refine aw_condp rfl (fun hc => ?_) (fun hc => ?_); refine yy36 ?_; (refine zc auto_wl (hV) ?_; rintro r H' ⟨rfl, F2, c1, c2⟩); refine yy7 ?_; refine yy35 ?_; rotate_left; exact absurd hc auto_no) | fail)
        all_goals try (exfalso; omega)
        all_goals (
          obtain ⟨H3, hE, q1, q2, q3, q4, q5⟩ := b1.done (t2.trans c2) c1 z1
          refine aw_ent (R' := [(2, .ptr oR 0), (3, .ptr F1.os 0)]) (H' := H3) ((hE _).trans (Ent.sub _ (by (repeat' (first | exact RSub.nil _ | apply RSub.cons)); all_goals rfl))) ?_
          clear hE k3
          (first | focus (refine yy4 ?_; refine yy65 ?_; refine yy26 ?_; rotate_left) | fail)
          exact ⟨.inl rfl, _, _, _, Ent.cellRet (H0 := H3.erase oR) 2 [saveA _, sendA _] rfl auto_heap auto_wcc erase_sub, ret_1 rfl (rv1_agg (m := 2) rfl rfl rfl (by decide)), rfl, F2, q4, q5⟩)
      · rw [if_neg e2]
        (first | focus (refine aw_seq ?_; refine yy100 ?_; refine yy8 ?_; refine yy96 ?_; refine yy2 ?_; refine zg2 rfl rfl rfl (fun hc => ?_) (fun hc => ?_); exact absurd hc auto_no; refine yy34 ?_; refine yy83 ?_; refine yy33 ?_; refine yy48 ?_; refine yy21 ?_; refine yy6 ?_; refine yy92 ?_; intro hc; refine yy8 ?_; refine awl_s rfl (s_remn rfl rfl auto_len) ?_; refine yy69 ?_; refine yy86 ?_; intro hc; refine aw_skip ?_; refine yy35 ?_; rotate_left) | fail)
        all_goals try (exfalso; omega)
        all_goals (
          obtain ⟨H3, hE, q1, q2, q3, q4, q5⟩ := b1.done t2 a2 z1
          refine aw_ent (R' := [(2, .ptr oR 0), (3, .ptr F1.os 0)]) (H' := H3) ((hE _).trans (Ent.sub _ (by (repeat' (first | exact RSub.nil _ | apply RSub.cons)); all_goals rfl))) ?_
          clear hE k3
          (first | focus (refine yy4 ?_; refine yy65 ?_; refine yy26 ?_; rotate_left) | fail)
          exact ⟨.inl rfl, _, _, _, Ent.cellRet (H0 := H3.erase oR) 2 [saveA _, sendA _] rfl auto_heap auto_wcc erase_sub, ret_1 rfl (rv1_agg (m := 2) rfl rfl rfl (by decide)), rfl, F1, q4, q5⟩)
end Go.Proofs.Ytbciofnejefkiaa

namespace Go.Proofs.Ytbciofnejefkiaa
open Go Go.Am Go.Proofs

theorem Submit_calls (H : AHeap) (F : Ob) (c : Ag.Co) (id : Nat) (row : List Int) (h : CAt H F c) (nd : NdC F) (hf : CFine c) (he : (⟨id, 0, row⟩ : En).Ok) (hr : row.length ≤ 1000000) :
    ACalls Try.prog 17 [.ptr F.o 0, uI id, .sls row.length (row.map mI)] H fun r H' => r = stepA (c.submit id row) ∧ ∃ F', CAt H' F' (c.submit id row).c ∧ TurnK H F F' H' := by
  obtain ⟨off0, _, hco0, _⟩ := h.core
  unfold coreC at hco0
  have hCl := fun H => CloneR_calls H row (by omega)
  refine acalls_of_aw3 Try.func17 rfl (by decide) ?_
  (first | focus (refine yy4 ?_; refine awl_alloc rfl rfl rfl (fun oN hoN => ?_); refine yy68 ?_; refine awl_alloc rfl rfl rfl (fun oN hoN => ?_); refine yy3 ?_; rotate_left) | fail)
  rename_i oR hoR
  refine aw_begin h nd hoR hoN (fun H1 F1 a1 b1 e1 z1 => ?_)
  subst e1
  have hco := b1.fr _ _ hco0
  clear h hco0 hoN
  (first | focus (refine yy51 ?_; refine yy45 ?_; (refine zc auto_wl (hCl _) ?_; rintro r H' ⟨rfl, rfl⟩); refine yy76 ?_; refine awl_alloc rfl rfl rfl (fun oN hoN => ?_); refine yy82 ?_; refine yy3 ?_; rotate_left) | fail)
  refine aw_ent (R' := [(0, .ptr F.o 0), (1, uI id), (6, .ptr oR 0), (7, .ptr F1.os 0), (8, .pce (⟨id, 0, row⟩ : En).cells 0)]) (H' := H') ((Ent.cellRet (H0 := H') 8 (⟨id, 0, row⟩ : En).cells rfl auto_heap auto_wcc (fresh_sub hoN)).trans (Ent.sub _ (by (repeat' (first | exact RSub.nil _ | apply RSub.cons)); all_goals rfl))) ?_
  clear hoN hCl
  have hsub : c.submit id row = (let s1 : Ag.St := if c.n = 1 ∧ c.lead = false then Ag.St.begin ⟨c, [], []⟩ else ⟨c, [], []⟩; let s2 : Ag.St := { s1 with c := (s1.c.wanted ⟨id, 0, row⟩).1 }; if (s1.c.wanted ⟨id, 0, row⟩).2 then s2.grow else if Ag.may ⟨id, 0, row⟩ = true ∧ s2.c.lead = false ∧ Ag.hasId s2.c.list id = false then s2.out { Ag.msg0 1 ((s2.c.view % s2.c.n : Nat) : Int) with ents := [⟨id, 0, row⟩] } else s2) := rfl
  rw [hsub]
  clear hsub
  dsimp only
  have hs1 : Sm 3 14 ⟨c, [], []⟩ (if c.n = 1 ∧ c.lead = false then Ag.St.begin ⟨c, [], []⟩ else ⟨c, [], []⟩) := by
    split
    · exact begin_sm (s := ⟨c, [], []⟩) hf
    · exact ⟨hf, rfl, rfl, Nat.zero_le _, Nat.zero_le _⟩
  have hfn := hf.n
  have hB := begin_calls H' F1 ⟨c, [], []⟩ a1 hf (Nat.zero_le _) (Nat.zero_le _)
  rw [b1.o] at hB
  generalize hq1 : (if c.n = 1 ∧ c.lead = false then Ag.St.begin ⟨c, [], []⟩ else ⟨c, [], []⟩) = s1 at *
  have her : (⟨id, 0, row⟩ : En).row.length ≤ 1000000 := hr
  have hid : (⟨id, 0, row⟩ : En).id = id := rfl
  generalize hE : (⟨id, 0, row⟩ : En) = e at *
  refine aw_seq ?_
  refine aw_kmid (fun R1 H2 => ∃ F2, SAt H2 F2 s1 ∧ Turn F1.l H' F1 F2 H2 ∧ R1 = [(0, .ptr F.o 0), (1, uI id), (6, .ptr oR 0), (7, .ptr F1.os 0), (8, .pce e.cells 0)]) ?_ ?_
  · by_cases h1 : c.n = 1 ∧ c.lead = false
    · obtain ⟨h1, h2⟩ := h1
      rw [h2] at hco
      rw [if_pos ⟨h1, h2⟩] at hq1
      rw [hq1] at hB
      (first | focus (refine yy4 ?_; refine yy8 ?_; refine yy48 ?_; refine yy2 ?_; refine zg1 rfl rfl rfl (fun hc => ?_) (fun hc => ?_); refine yy34 ?_; refine yy83 ?_; refine yy33 ?_; refine yy39 ?_; refine yy50 ?_; refine yy18 ?_; refine yy36 ?_; (refine zc auto_wl (hB) ?_; rintro r H' ⟨rfl, F2, c1, c2⟩); refine yy3 ?_; rotate_left; exact absurd hc auto_no) | fail)
      all_goals try (exfalso; omega)
      exact ⟨_, _, auto_ent, F2, c1, c2, rfl⟩
    · rw [if_neg h1] at hq1
      rw [hq1] at a1
      clear hB
      cases h2 : c.lead with
      | true =>
        rw [h2] at hco
        (first | focus (refine yy4 ?_; refine yy8 ?_; refine yy48 ?_; refine yy2 ?_; refine zg1 rfl rfl rfl (fun hc => ?_) (fun hc => ?_); refine yy34 ?_; refine yy83 ?_; refine yy33 ?_; refine yy39 ?_; refine yy50 ?_; refine yy77 ?_; rotate_left; refine yy32 ?_; refine yy49 ?_; refine yy77 ?_; rotate_left) | fail)
        all_goals try (exfalso; omega)
        all_goals exact ⟨_, _, auto_ent, F1, a1, Turn.refl _ _ _, rfl⟩
      | false =>
        have h3 : ¬ c.n = 1 := fun e => h1 ⟨e, h2⟩
        rw [h2] at hco
        (first | focus (refine yy4 ?_; refine yy8 ?_; refine yy48 ?_; refine yy2 ?_; refine zg1 rfl rfl rfl (fun hc => ?_) (fun hc => ?_); exact absurd hc auto_no; refine yy32 ?_; refine yy49 ?_; refine yy77 ?_; rotate_left) | fail)
        all_goals try (exfalso; omega)
        all_goals exact ⟨_, _, auto_ent, F1, a1, Turn.refl _ _ _, rfl⟩
  rintro R1 H2 ⟨F2, c1, c2, rfl⟩
  have hf1 := hs1.c
  have l1 : s1.save.length ≤ 3 := hs1.sv
  have l2 : s1.send.length ≤ 14 := hs1.sn
  clear hs1 hq1 hB hco a1 hfn
  have o2 := c2.o.trans b1.o
  have hW := wanted_S H2 F2 s1 e c1 hf1 her he
  rw [o2] at hW
  obtain ⟨w1, w2, w3⟩ := hf1.wanted he
  generalize s1.c.wanted e = x at *
  refine aw_seq ?_
  refine aw_kmid (fun R1 H4 => ∃ F4, SAt H4 F4 (if x.2 = true then Ag.St.grow { s1 with c := x.1 } else if Ag.may e = true ∧ ({ s1 with c := x.1 } : Ag.St).c.lead = false ∧ Ag.hasId ({ s1 with c := x.1 } : Ag.St).c.list id = false then ({ s1 with c := x.1 } : Ag.St).out { Ag.msg0 1 ((({ s1 with c := x.1 } : Ag.St).c.view % ({ s1 with c := x.1 } : Ag.St).c.n : Nat) : Int) with ents := [e] } else { s1 with c := x.1 }) ∧ Turn F1.l H' F1 F4 H4 ∧ R1 = [(6, .ptr oR 0), (7, .ptr F1.os 0)]) ?_ ?_
  · cases hx : x.2 with
    | true =>
      rw [if_pos rfl]
      rw [hx] at hW
      (first | focus (refine yy100 ?_; refine yy17 ?_; refine yy63 ?_; (refine zc auto_wl (hW) ?_; rintro r H' ⟨rfl, F3, c3, c4⟩); refine yy6 ?_; rotate_left) | fail)
      have hG := grow_calls _ F3 _ c3 w1 (by show s1.save.length ≤ _; omega) (by show s1.send.length ≤ _; omega)
      rw [c4.o, c4.os, o2, c2.os] at hG
      clear hW
      (first | focus (refine yy18 ?_; refine yy36 ?_; (refine zc auto_wl (hG) ?_; rintro r H' ⟨rfl, F4, c5, c6⟩); refine yy7 ?_; refine yy35 ?_; rotate_left) | fail)
      exact ⟨_, _, auto_ent, F4, c5, (c2.trans c4).trans c6, rfl⟩
    | false =>
      rw [if_neg (by simp)]
      rw [hx] at hW
      (first | focus (refine yy100 ?_; refine yy17 ?_; refine yy63 ?_; (refine zc auto_wl (hW) ?_; rintro r H' ⟨rfl, F3, c3, c4⟩); refine yy6 ?_; refine aw_cond_f rfl ?_; rotate_left) | fail)
      clear hW
      have c0 := c3
      obtain ⟨off, _, hco, _⟩ := c3.c.core
      have o3 : F3.o = F.o := c4.o.trans o2
      have s3 : F3.os = F1.os := c4.os.trans c2.os
      rw [o3] at hco
      have f1 := w1.n
      have f2 := w1.list.len
      have f3 := w1.me
      have f4 := w1.view
      unfold Ag.mostView at f4
      have hmd := Nat.mod_lt x.1.view (show 0 < x.1.n by omega)
      have hM := fun H => may_calls H e (by omega)
      have hHL := fun H => has_calls H x.1.list id (by omega)
      have hC := fun H => Copy_calls H e her
      have hld := fun H h => leader_calls H F.o x.1 F3.og F3.oh (.vw F3.ow 3 off x.1.wait.length) x.1.view h (by omega) f1 (by omega)
      generalize x.1 = d at *
      replace hco : H' F.o = some (.cel (coreC d F3.og F3.oh (.vw F3.ow 3 off d.wait.length))) := hco
      unfold coreC at hco hld
      dsimp only
      clear hx w2 w3
      cases hm : Ag.may e with
      | false =>
        rw [hm] at hM
        rw [if_neg (by simp)]
        (first | focus (refine yy4 ?_; refine yy63 ?_; (refine zc auto_wl (hM _) ?_; rintro r H' ⟨rfl, rfl⟩); refine yy2 ?_; refine yy32 ?_; refine yy47 ?_; refine yy21 ?_; refine yy2 ?_; refine yy32 ?_; refine yy61 ?_; refine yy47 ?_; refine yy21 ?_; refine yy6 ?_; refine yy66 ?_; refine yy35 ?_; rotate_left) | fail)
        exact ⟨_, _, auto_ent, F3, c0, c2.trans c4, rfl⟩
      | true =>
        rw [hm] at hM
        cases hl : d.lead with
        | true =>
          rw [hl] at hco
          rw [if_neg (by simp)]
          (first | focus (refine yy4 ?_; refine yy63 ?_; (refine zc auto_wl (hM _) ?_; rintro r H' ⟨rfl, rfl⟩); refine yy19 ?_; refine yy34 ?_; refine yy83 ?_; refine yy33 ?_; refine yy39 ?_; refine yy38 ?_; refine yy2 ?_; refine yy32 ?_; refine yy61 ?_; refine yy47 ?_; refine yy21 ?_; refine yy6 ?_; refine yy66 ?_; refine yy35 ?_; rotate_left) | fail)
          exact ⟨_, _, auto_ent, F3, c0, c2.trans c4, rfl⟩
        | false =>
          rw [hl] at hco hld
          cases hh : Ag.hasId d.list id with
          | true =>
            rw [hh] at hHL
            rw [if_neg (by simp)]
            (first | focus (refine yy4 ?_; refine yy63 ?_; (refine zc auto_wl (hM _) ?_; rintro r H' ⟨rfl, rfl⟩); refine yy19 ?_; refine yy34 ?_; refine yy83 ?_; refine yy33 ?_; refine yy39 ?_; refine yy38 ?_; refine yy19 ?_; refine yy34 ?_; refine yy83 ?_; refine yy33 ?_; refine yy19 ?_; (refine zc auto_wl (hHL _) ?_; rintro r H' ⟨rfl, rfl⟩); refine yy5 ?_; refine yy39 ?_; refine yy38 ?_; refine yy6 ?_; refine yy66 ?_; refine yy35 ?_; rotate_left) | fail)
            exact ⟨_, _, auto_ent, F3, c0, c2.trans c4, rfl⟩
          | false =>
            rw [hh] at hHL
            rw [if_pos ⟨rfl, rfl, rfl⟩]
            have hS := send_calls H' F3 ⟨d, s1.save, s1.send⟩ { Ag.msg0 1 ((d.view % d.n : Nat) : Int) with ents := [e] } c0 w1 (by show s1.send.length ≤ _; omega)
            rw [o3, s3] at hS
            replace hS := hS.weak (WL.cons (W.of rfl) (WL.cons (W.of rfl) (WL.cons (x := .agg [mI 1, mI 0, mI ((d.view % d.n : Nat) : Int), uI 0, uI 0, uI 0, uI 0, .slsx 1 ([e].flatMap En.cells), .raw (.slice none 0 0)]) (w_agg (WL.cons (W.of rfl) (WL.cons (W.of rfl) (WL.cons (W.of rfl) (WL.cons (W.of rfl) (WL.cons (W.of rfl) (WL.cons (W.of rfl) (WL.cons (W.of rfl) (WL.cons (W.slsx rfl) (WL.cons (W.nilb rfl) WL.nil)))))))))) WL.nil)))
            rw [show [e].flatMap En.cells = e.cells from List.append_nil _] at hS
            generalize d.view % d.n = to at *
            (first | focus (refine yy4 ?_; refine yy63 ?_; (refine zc auto_wl (hM _) ?_; rintro r H' ⟨rfl, rfl⟩); refine yy19 ?_; refine yy34 ?_; refine yy83 ?_; refine yy33 ?_; refine yy39 ?_; refine yy38 ?_; refine yy19 ?_; refine yy34 ?_; refine yy83 ?_; refine yy33 ?_; refine yy19 ?_; (refine zc auto_wl (hHL _) ?_; rintro r H' ⟨rfl, rfl⟩); refine yy5 ?_; refine yy39 ?_; refine yy38 ?_; refine yy6 ?_; refine yy18 ?_; refine yy85 ?_; (apply awt_s; · exact s_move (v := .ptr _ _) rfl); (apply awt_s; · exact s_move (v := .ptr _ _) rfl); (apply awt_s; · exact s_move (v := .ptr _ _) rfl); (apply awt_s; · exact s_nilCheck_ptr rfl); (apply awt_s; · exact s_fieldAddr_ptr rfl); (apply awt_s; · exact s_load_cel rfl auto_heap rfl); (apply awt_s; · exact s_callc auto_wl (hld _ auto_heap)); (apply awt_s; · exact s_load_pce_agg rfl rfl rfl (by decide)); (apply awt_s; · exact s_callc auto_wl (hC _)); (apply awt_s; · exact s_buildSlicev (by ((repeat' (first | exact eqL_nil | apply eqL_cons)); all_goals (first | exact (rfl : _ = AV.raw _) | exact (rfl : _ = AV.bys _) | exact (rfl : _ = AV.vw _ _ _ _) | exact (rfl : _ = AV.ptr _ _) | exact (rfl : _ = AV.str _) | exact (rfl : _ = AV.sls _ _) | exact (rfl : _ = AV.tup _) | exact (rfl : _ = AV.agg _) | exact (rfl : _ = AV.pce _ _) | exact (rfl : _ = AV.emp) | exact (rfl : _ = AV.bysx _) | exact (rfl : _ = AV.slsx _ _) | exact (rfl : _ = AV.mp _) | exact (rfl : _ = AV.fnc _ _ _) | exact (rfl : _ = AV.pby _ _) | exact (rfl : _ = AV.ifc _ _)))) (by rfl) (by rfl) (by rfl) (by ((repeat' (first | exact eqL_nil | apply eqL_cons)); all_goals (first | exact (rfl : _ = AV.raw _) | exact (rfl : _ = AV.bys _) | exact (rfl : _ = AV.vw _ _ _ _) | exact (rfl : _ = AV.ptr _ _) | exact (rfl : _ = AV.str _) | exact (rfl : _ = AV.sls _ _) | exact (rfl : _ = AV.tup _) | exact (rfl : _ = AV.agg _) | exact (rfl : _ = AV.pce _ _) | exact (rfl : _ = AV.emp) | exact (rfl : _ = AV.bysx _) | exact (rfl : _ = AV.slsx _ _) | exact (rfl : _ = AV.mp _) | exact (rfl : _ = AV.fnc _ _ _) | exact (rfl : _ = AV.pby _ _) | exact (rfl : _ = AV.ifc _ _)))) (by decide)); (apply awt_s; · exact s_buildv (by ((repeat' (first | exact eqL_nil | apply eqL_cons)); all_goals (first | exact (rfl : _ = AV.raw _) | exact (rfl : _ = AV.bys _) | exact (rfl : _ = AV.vw _ _ _ _) | exact (rfl : _ = AV.ptr _ _) | exact (rfl : _ = AV.str _) | exact (rfl : _ = AV.sls _ _) | exact (rfl : _ = AV.tup _) | exact (rfl : _ = AV.agg _) | exact (rfl : _ = AV.pce _ _) | exact (rfl : _ = AV.emp) | exact (rfl : _ = AV.bysx _) | exact (rfl : _ = AV.slsx _ _) | exact (rfl : _ = AV.mp _) | exact (rfl : _ = AV.fnc _ _ _) | exact (rfl : _ = AV.pby _ _) | exact (rfl : _ = AV.ifc _ _)))) (by rfl)); refine awt_last ?_; (refine zc auto_wl (hS) ?_; rintro r H' ⟨rfl, F4, c5, c6⟩); refine yy7 ?_; refine yy35 ?_; rotate_left) | fail)
            exact ⟨_, _, auto_ent, F4, c5, (c2.trans c4).trans c6, rfl⟩
  rintro R1 H4 ⟨F4, d1, d2, rfl⟩
  obtain ⟨H3, hE, q1, q2, q3, q4, q5⟩ := b1.done d2 d1 z1
  refine aw_ent (R' := [(6, .ptr oR 0), (7, .ptr F1.os 0)]) (H' := H3) (hE _) ?_
  clear hE
  (first | focus (refine yy4 ?_; refine yy65 ?_; refine yy26 ?_; rotate_left) | fail)
  exact ⟨.inl rfl, _, _, _, Ent.cellRet (H0 := H3.erase oR) 6 [saveA _, sendA _] rfl auto_heap auto_wcc erase_sub, ret_1 rfl (rv1_agg (m := 2) rfl rfl rfl (by decide)), rfl, F4, q4, q5⟩
end Go.Proofs.Ytbciofnejefkiaa

namespace Go.Proofs.Ytbciofnejefkiaa
open Go Go.Am Go.Proofs

theorem fresh_sub2 {H : AHeap} {o p : Nat} {x y : AO} {z : AO} (h : H o = none) (hp : H p = some z) : ∀ q w, (H.set p y) q = some w → q ≠ o ∧ ((H.set o x).set p y) q = some w := fun q w hq => by
  have e : q ≠ o := fun e => by
    have ne : o ≠ p := fun e2 => by rw [e2, hp] at h; cases h
    rw [e, AHeap.get_set_ne _ ne, h] at hq; cases hq
  refine ⟨e, ?_⟩
  by_cases e2 : q = p
  · subst e2
    rw [AHeap.set_self] at hq ⊢; exact hq
  · rw [AHeap.get_set_ne _ e2] at hq ⊢
    exact AHeap.get_skip e hq
theorem begins_at {l : List En} (hl : LF l) {c : Ag.Co} (hf : CFine c) (H : AHeap) : ACalls Try.prog 62 [lsE l, .sls (c.agreed - 0) (List.take ((c.agreed - 0) * 3) (List.drop (0 * 3) (c.list.flatMap En.cells)))] H fun r H' => r = bB (Ag.begins l (c.list.take c.agreed)) ∧ H' = H := by
  have x4 := hl.len
  have x5 := hl.ok
  have f2 := hf.list.len
  have f3 := hf.agr
  have f4 := hf.list.ok
  have h1 := begins_calls H l (c.list.take c.agreed) (by omega) (by rw [List.length_take]; omega) (fun e he => by have := (x5 e he).2; omega) (fun e he => by have := (f4 e (List.mem_of_mem_take he)).2; omega)
  have e2 : (c.list.take c.agreed).length = c.agreed := by rw [List.length_take]; omega
  unfold lsE at h1
  rw [e2, ← flat_take _ _ f3] at h1
  rw [Nat.sub_zero, Nat.zero_mul, List.drop_zero]; exact h1
def preFin (s : Ag.St) (m : Mg) : Ag.St := if m.kind = 4 then (if s.c.last < m.view ∨ s.c.list.length < m.ents.length then s.take m.view m.ents else s).out { Ag.msg0 5 m.from_ with op := (if s.c.last < m.view ∨ s.c.list.length < m.ents.length then s.take m.view m.ents else s).c.list.length } else s
theorem hear_calls (H : AHeap) (F : Ob) (s : Ag.St) (m : Mg) (h : SAt H F s) (hf : CFine s.c) (hl : s.save.length ≤ 7000) (hl2 : s.send.length ≤ 7000) (hm : m.Ok) (hL : LF m.ents) (hv : m.view ≤ Ag.mostView) :
    ACalls Try.prog 55 [.ptr F.o 0, .ptr F.os 0, .agg m.cells] H fun r H' => r = .tup [] ∧ ∃ F', SAt H' F' (s.hear m) ∧ Turn F.l H F F' H' := by
  obtain ⟨off, hco, hk⟩ := h.core
  obtain ⟨a1, t1⟩ := hk { s.c with quiet := 0 } rfl rfl rfl rfl rfl
  have hco1 := hco
  have hf1 : CFine ({ s.c with quiet := 0 } : Ag.Co) := hf.calm (Nat.zero_le _)
  unfold coreC at hco
  have hhe : s.hear m = Ag.St.heard { s with c := { s.c with quiet := 0 } } m := rfl
  rw [hhe]
  clear hhe hk
  refine acalls_of_aw3 Try.func55 rfl (by decide) ?_
  (first | focus (refine yy4 ?_; refine zb1 rfl rfl rfl (fun oN hoN => ?_); refine yy68 ?_; refine yy109 ?_; refine yy58 ?_; refine yy3 ?_; rotate_left) | fail)
  refine aw_ent (R' := [(0, .ptr F.o 0), (1, .ptr F.os 0), (5, .pce m.cells 0)]) (H' := H.set F.o (.cel (coreC { s.c with quiet := 0 } F.og F.oh (.vw F.ow 3 off s.c.wait.length)))) ((Ent.cellRet 5 m.cells rfl auto_heap auto_wcc (fresh_sub2 hoN hco1)).trans (Ent.sub _ (by (repeat' (first | exact RSub.nil _ | apply RSub.cons)); all_goals rfl))) ?_
  clear hoN hco hco1 h hf
  obtain ⟨off2, k1, k2⟩ := a1.core
  have hsz : ({ s with c := { s.c with quiet := 0 } } : Ag.St).save.length ≤ 7000 := hl
  have hsz2 : ({ s with c := { s.c with quiet := 0 } } : Ag.St).send.length ≤ 7000 := hl2
  generalize H.set F.o (.cel (coreC { s.c with quiet := 0 } F.og F.oh (.vw F.ow 3 off s.c.wait.length))) = H1 at *
  generalize hs1 : ({ s with c := { s.c with quiet := 0 } } : Ag.St) = s1 at *
  replace hf1 : CFine s1.c := by rw [← hs1]; exact hf1
  clear hs1 hl hl2 k2
  unfold coreC at k1
  have f1 := hf1.n
  have f2 := hf1.list.len
  have f3 := hf1.agr
  have f4 := hf1.last
  have f5 := hf1.view
  have f6 := hf1.me
  unfold Ag.mostView at f4 f5
  have f7 := hL.len
  have g1 := hm.kind
  have g2 := hm.from_
  have g6 := hm.op
  have g7 := hm.commit
  have g8 := hm.view
  refine aw_seq ?_
  refine aw_kmid (fun R1 H2 => s1.heard m = (preFin s1 m).fin m ∧ ∃ F2, SAt H2 F2 (preFin s1 m) ∧ Turn F.l H F F2 H2 ∧ CFine (preFin s1 m).c ∧ R1 = [(0, .ptr F.o 0), (1, .ptr F.os 0), (5, .pce m.cells 0)]) ?_ ?_
  · by_cases hk4 : m.kind = 4
    · cases hbg : Ag.begins m.ents (s1.c.list.take s1.c.agreed) with
      | false =>
        have hB := fun H => begins_at hL hf1 H
        rw [hbg] at hB
        have hh : s1.heard m = s1 := by unfold Ag.St.heard; rw [if_pos hk4, if_pos hbg]
        rw [hh]
        (first | focus (refine yy4 ?_; refine yy41 ?_; refine awl_s rfl (s_eql rfl rfl) ?_; refine yy3 ?_; refine aw_condp rfl (fun hc => ?_) (fun hc => ?_); refine aw_seq ?_; refine yy16 ?_; (apply awt_s; · exact s_fieldAddr_pce rfl); (apply awt_s; · exact s_load_pce rfl auto_idx); (apply awt_s; · exact s_move (v := .ptr _ _) rfl); (apply awt_s; · exact s_nilCheck_ptr rfl); (apply awt_s; · exact s_fieldAddr_ptr rfl); (apply awt_s; · exact s_load_cel rfl auto_heap rfl); (apply awt_s; · exact s_move (v := .ptr _ _) rfl); (apply awt_s; · exact s_nilCheck_ptr rfl); (apply awt_s; · exact s_fieldAddr_ptr rfl); (apply awt_s; · exact s_load_cel rfl auto_heap rfl); (apply awt_s; · exact s_slice_sls rfl auto_bnd auto_bnd auto_len auto_len); (apply awt_s; · exact s_callc auto_wl (hB _)); (apply awt_s; · exact s_notb rfl); refine yy12 ?_; refine yy18 ?_; refine aw_ret ?_; refine yy24 ?_; refine yy24 ?_; rotate_left; exact absurd hc auto_no) | fail)
        all_goals try (exfalso; omega)
        exact ⟨.inl rfl, _, _, _, Ent.refl _ _, ret0 rfl, rfl, F, a1, t1⟩
      | true =>
        have hB := fun H => begins_at hL hf1 H
        rw [hbg] at hB
        have hag : s1.c.agreed ≤ m.ents.length := by
          have := hbg
          simp only [Ag.begins, Bool.and_eq_true, decide_eq_true_eq, List.length_take] at this
          omega
        have hh : s1.heard m = (preFin s1 m).fin m := by unfold Ag.St.heard preFin Ag.St.hold; rw [if_pos hk4, if_neg (by rw [hbg]; simp), if_pos hk4]
        rw [hh]
        clear hh
        unfold preFin
        rw [if_pos hk4]
        by_cases hq : s1.c.last < m.view ∨ s1.c.list.length < m.ents.length
        · rw [if_pos hq]
          have hcp := fun H => (copies_own H m.ents (by omega) fun e he => by have := (hL.ok e he).2; omega).seal_cel (flat_len (sz := 3) (fun _ => rfl) m.ents)
          have hT := take_calls H1 F s1 m.view m.ents a1 hf1 (by omega) hv hL
          have ho := t1.o
          have hT2 := take_sm hf1 hv hL hag
          generalize s1.take m.view m.ents = t at *
          (first | focus (refine yy4 ?_; refine yy41 ?_; refine awl_s rfl (s_eql rfl rfl) ?_; refine yy3 ?_; refine aw_condp rfl (fun hc => ?_) (fun hc => ?_); refine aw_seq ?_; refine yy16 ?_; (apply awt_s; · exact s_fieldAddr_pce rfl); (apply awt_s; · exact s_load_pce rfl auto_idx); (apply awt_s; · exact s_move (v := .ptr _ _) rfl); (apply awt_s; · exact s_nilCheck_ptr rfl); (apply awt_s; · exact s_fieldAddr_ptr rfl); (apply awt_s; · exact s_load_cel rfl auto_heap rfl); (apply awt_s; · exact s_move (v := .ptr _ _) rfl); (apply awt_s; · exact s_nilCheck_ptr rfl); (apply awt_s; · exact s_fieldAddr_ptr rfl); (apply awt_s; · exact s_load_cel rfl auto_heap rfl); (apply awt_s; · exact s_slice_sls rfl auto_bnd auto_bnd auto_len auto_len); (apply awt_s; · exact s_callc auto_wl (hB _)); (apply awt_s; · exact s_notb rfl); refine yy12 ?_; refine aw_cond_f rfl ?_; refine yy84 ?_; refine yy16 ?_; (apply awt_s; · exact s_move (v := .ptr _ _) rfl); (apply awt_s; · exact s_nilCheck_ptr rfl); (apply awt_s; · exact s_fieldAddr_ptr rfl); (apply awt_s; · exact s_load_cel rfl auto_heap rfl); (apply awt_s; · exact s_fieldAddr_pce rfl); (apply awt_s; · exact s_load_pce rfl auto_idx); (apply awt_s; · exact s_ltn rfl rfl); (apply awt_s; · exact s_move (v := .raw _) rfl); refine zt2 rfl rfl rfl (fun hc => ?_) (fun hc => ?_); (apply awt_s; · exact s_fieldAddr_pce rfl); refine yy1 ?_; (apply awt_s; · exact s_load_pce rfl auto_idx); refine yy1 ?_; (apply awt_s; · exact s_len_sls rfl); refine yy1 ?_; (apply awt_s; · exact s_move (v := .ptr _ _) rfl); refine yy1 ?_; (apply awt_s; · exact s_nilCheck_ptr rfl); refine yy1 ?_; (apply awt_s; · exact s_fieldAddr_ptr rfl); refine yy1 ?_; (apply awt_s; · exact s_load_cel rfl auto_heap rfl); refine yy1 ?_; (apply awt_s; · exact s_len_sls rfl); refine yy1 ?_; (apply awt_s; · exact s_gtn rfl rfl); (apply awt_s; · exact s_pick_f (v := .raw _) rfl rfl); refine yy12 ?_; refine aw_condp rfl (fun hc => ?_) (fun hc => ?_); refine yy85 ?_; (apply awt_s; · exact s_move (v := .ptr _ _) rfl); (apply awt_s; · exact s_move (v := .ptr _ _) rfl); (apply awt_s; · exact s_fieldAddr_pce rfl); (apply awt_s; · exact s_load_pce rfl auto_idx); (apply awt_s; · exact s_fieldAddr_pce rfl); (apply awt_s; · exact s_load_pce rfl auto_idx); (apply awt_s; · exact s_callc auto_wl (hcp _)); refine awt_last ?_; (refine zc auto_wl (hT) ?_; rintro r H' ⟨rfl, F2, b1, b2⟩); refine yy3 ?_; rotate_left; exact absurd hc auto_no; refine yy14 ?_; refine yy14 ?_; (apply awt_s; · exact s_pick_t (v := .raw _) rfl rfl); refine yy12 ?_; refine yy18 ?_; refine yy85 ?_; (apply awt_s; · exact s_move (v := .ptr _ _) rfl); (apply awt_s; · exact s_move (v := .ptr _ _) rfl); (apply awt_s; · exact s_fieldAddr_pce rfl); (apply awt_s; · exact s_load_pce rfl auto_idx); (apply awt_s; · exact s_fieldAddr_pce rfl); (apply awt_s; · exact s_load_pce rfl auto_idx); (apply awt_s; · exact s_callc auto_wl (hcp _)); refine awt_last ?_; (refine zc auto_wl (hT) ?_; rintro r H' ⟨rfl, F2, b1, b2⟩); refine yy3 ?_; rotate_left; exact absurd hc auto_no) | fail)
          all_goals try (exfalso; omega)
          all_goals (
            have hf2 := hT2.c
            have f8 := hf2.list.len
            obtain ⟨off3, k3, _⟩ := b1.core
            have o3 := b2.o
            have s3 := b2.os
            rw [o3] at k3
            unfold coreC at k3
            have hS : ACalls Try.prog 40 [.ptr F.o 0, .ptr F.os 0, .agg [mI 5, mI 0, mI m.from_, uI 0, uI 0, uI t.c.list.length, uI 0, .raw (.slice none 0 0), .raw (.slice none 0 0)]] H' fun r Hx => r = .tup [] ∧ ∃ F3, SAt Hx F3 (t.out { Ag.msg0 5 m.from_ with op := t.c.list.length }) ∧ Turn F2.l H' F2 F3 Hx := by
              have h1 := send_calls _ F2 t { Ag.msg0 5 m.from_ with op := t.c.list.length } b1 hf2 (by have := hT2.sn; omega)
              rw [o3, s3] at h1
              refine h1.weak (WL.cons (W.of rfl) (WL.cons (W.of rfl) (WL.cons ?_ WL.nil)))
              exact w_agg (WL.cons (W.of rfl) (WL.cons (W.of rfl) (WL.cons (W.of rfl) (WL.cons (W.of rfl) (WL.cons (W.of rfl) (WL.cons (W.of rfl) (WL.cons (W.of rfl) (WL.cons (W.nils rfl) (WL.cons (W.nilb rfl) WL.nil)))))))))
            have hf3 := (out_sm hf2 { Ag.msg0 5 m.from_ with op := t.c.list.length }).c
            (first | focus (refine yy85 ?_; (apply awt_s; · exact s_move (v := .ptr _ _) rfl); (apply awt_s; · exact s_move (v := .ptr _ _) rfl); (apply awt_s; · exact s_fieldAddr_pce rfl); (apply awt_s; · exact s_load_pce rfl auto_idx); (apply awt_s; · exact s_move (v := .ptr _ _) rfl); (apply awt_s; · exact s_nilCheck_ptr rfl); (apply awt_s; · exact s_fieldAddr_ptr rfl); (apply awt_s; · exact s_load_cel rfl auto_heap rfl); (apply awt_s; · exact s_len_sls rfl); (apply awt_s; · exact s_convn rfl (by omega)); (apply awt_s; · exact s_buildv (by ((repeat' (first | exact eqL_nil | apply eqL_cons)); all_goals (first | exact (rfl : _ = AV.raw _) | exact (rfl : _ = AV.bys _) | exact (rfl : _ = AV.vw _ _ _ _) | exact (rfl : _ = AV.ptr _ _) | exact (rfl : _ = AV.str _) | exact (rfl : _ = AV.sls _ _) | exact (rfl : _ = AV.tup _) | exact (rfl : _ = AV.agg _) | exact (rfl : _ = AV.pce _ _) | exact (rfl : _ = AV.emp) | exact (rfl : _ = AV.bysx _) | exact (rfl : _ = AV.slsx _ _) | exact (rfl : _ = AV.mp _) | exact (rfl : _ = AV.fnc _ _ _) | exact (rfl : _ = AV.pby _ _) | exact (rfl : _ = AV.ifc _ _)))) (by rfl)); refine awt_last ?_; (refine zc auto_wl (hS) ?_; rintro r H' ⟨rfl, F3, d1, d2⟩); refine yy3 ?_; rotate_left) | fail)
            all_goals try (exfalso; omega)
            exact ⟨_, _, auto_ent, rfl, F3, d1, (t1.trans b2).trans d2, hf3, rfl⟩)
        · rw [if_neg hq]
          (first | focus (refine yy4 ?_; refine yy41 ?_; refine awl_s rfl (s_eql rfl rfl) ?_; refine yy3 ?_; refine aw_condp rfl (fun hc => ?_) (fun hc => ?_); refine aw_seq ?_; refine yy16 ?_; (apply awt_s; · exact s_fieldAddr_pce rfl); (apply awt_s; · exact s_load_pce rfl auto_idx); (apply awt_s; · exact s_move (v := .ptr _ _) rfl); (apply awt_s; · exact s_nilCheck_ptr rfl); (apply awt_s; · exact s_fieldAddr_ptr rfl); (apply awt_s; · exact s_load_cel rfl auto_heap rfl); (apply awt_s; · exact s_move (v := .ptr _ _) rfl); (apply awt_s; · exact s_nilCheck_ptr rfl); (apply awt_s; · exact s_fieldAddr_ptr rfl); (apply awt_s; · exact s_load_cel rfl auto_heap rfl); (apply awt_s; · exact s_slice_sls rfl auto_bnd auto_bnd auto_len auto_len); (apply awt_s; · exact s_callc auto_wl (hB _)); (apply awt_s; · exact s_notb rfl); refine yy12 ?_; refine aw_cond_f rfl ?_; refine yy84 ?_; refine yy16 ?_; (apply awt_s; · exact s_move (v := .ptr _ _) rfl); (apply awt_s; · exact s_nilCheck_ptr rfl); (apply awt_s; · exact s_fieldAddr_ptr rfl); (apply awt_s; · exact s_load_cel rfl auto_heap rfl); (apply awt_s; · exact s_fieldAddr_pce rfl); (apply awt_s; · exact s_load_pce rfl auto_idx); (apply awt_s; · exact s_ltn rfl rfl); (apply awt_s; · exact s_move (v := .raw _) rfl); refine zt2 rfl rfl rfl (fun hc => ?_) (fun hc => ?_); (apply awt_s; · exact s_fieldAddr_pce rfl); refine yy1 ?_; (apply awt_s; · exact s_load_pce rfl auto_idx); refine yy1 ?_; (apply awt_s; · exact s_len_sls rfl); refine yy1 ?_; (apply awt_s; · exact s_move (v := .ptr _ _) rfl); refine yy1 ?_; (apply awt_s; · exact s_nilCheck_ptr rfl); refine yy1 ?_; (apply awt_s; · exact s_fieldAddr_ptr rfl); refine yy1 ?_; (apply awt_s; · exact s_load_cel rfl auto_heap rfl); refine yy1 ?_; (apply awt_s; · exact s_len_sls rfl); refine yy1 ?_; (apply awt_s; · exact s_gtn rfl rfl); (apply awt_s; · exact s_pick_f (v := .raw _) rfl rfl); refine yy12 ?_; refine yy56 ?_; intro hc; rotate_left; exact absurd hc auto_no; exact absurd hc auto_no) | fail)
          all_goals try (exfalso; omega)
          obtain ⟨F2, b1, b2⟩ : ∃ F2, SAt H1 F2 s1 ∧ Turn F.l H F F2 H1 := ⟨F, a1, t1⟩
          have hT2 : Sm 0 0 s1 s1 := ⟨hf1, rfl, rfl, Nat.le_refl _, Nat.le_refl _⟩
          generalize hts : s1 = t at *
          have hf2 := hT2.c
          have f8 := hf2.list.len
          obtain ⟨off3, k3, _⟩ := b1.core
          have o3 := b2.o
          have s3 := b2.os
          rw [o3] at k3
          unfold coreC at k3
          have hS : ACalls Try.prog 40 [.ptr F.o 0, .ptr F.os 0, .agg [mI 5, mI 0, mI m.from_, uI 0, uI 0, uI t.c.list.length, uI 0, .raw (.slice none 0 0), .raw (.slice none 0 0)]] H1 fun r Hx => r = .tup [] ∧ ∃ F3, SAt Hx F3 (t.out { Ag.msg0 5 m.from_ with op := t.c.list.length }) ∧ Turn F2.l H1 F2 F3 Hx := by
            have h1 := send_calls _ F2 t { Ag.msg0 5 m.from_ with op := t.c.list.length } b1 hf2 (by have := hT2.sn; omega)
            rw [o3, s3] at h1
            refine h1.weak (WL.cons (W.of rfl) (WL.cons (W.of rfl) (WL.cons ?_ WL.nil)))
            exact w_agg (WL.cons (W.of rfl) (WL.cons (W.of rfl) (WL.cons (W.of rfl) (WL.cons (W.of rfl) (WL.cons (W.of rfl) (WL.cons (W.of rfl) (WL.cons (W.of rfl) (WL.cons (W.nils rfl) (WL.cons (W.nilb rfl) WL.nil)))))))))
          have hf3 := (out_sm hf2 { Ag.msg0 5 m.from_ with op := t.c.list.length }).c
          (first | focus (refine yy85 ?_; (apply awt_s; · exact s_move (v := .ptr _ _) rfl); (apply awt_s; · exact s_move (v := .ptr _ _) rfl); (apply awt_s; · exact s_fieldAddr_pce rfl); (apply awt_s; · exact s_load_pce rfl auto_idx); (apply awt_s; · exact s_move (v := .ptr _ _) rfl); (apply awt_s; · exact s_nilCheck_ptr rfl); (apply awt_s; · exact s_fieldAddr_ptr rfl); (apply awt_s; · exact s_load_cel rfl auto_heap rfl); (apply awt_s; · exact s_len_sls rfl); (apply awt_s; · exact s_convn rfl (by omega)); (apply awt_s; · exact s_buildv (by ((repeat' (first | exact eqL_nil | apply eqL_cons)); all_goals (first | exact (rfl : _ = AV.raw _) | exact (rfl : _ = AV.bys _) | exact (rfl : _ = AV.vw _ _ _ _) | exact (rfl : _ = AV.ptr _ _) | exact (rfl : _ = AV.str _) | exact (rfl : _ = AV.sls _ _) | exact (rfl : _ = AV.tup _) | exact (rfl : _ = AV.agg _) | exact (rfl : _ = AV.pce _ _) | exact (rfl : _ = AV.emp) | exact (rfl : _ = AV.bysx _) | exact (rfl : _ = AV.slsx _ _) | exact (rfl : _ = AV.mp _) | exact (rfl : _ = AV.fnc _ _ _) | exact (rfl : _ = AV.pby _ _) | exact (rfl : _ = AV.ifc _ _)))) (by rfl)); refine awt_last ?_; (refine zc auto_wl (hS) ?_; rintro r H' ⟨rfl, F3, d1, d2⟩); refine yy3 ?_; rotate_left) | fail)
          all_goals try (exfalso; omega)
          exact ⟨_, _, auto_ent, rfl, F3, d1, b2.trans d2, hf3, rfl⟩
    · have hp : preFin s1 m = s1 := by unfold preFin; rw [if_neg hk4]
      have hh : s1.heard m = s1.fin m := by unfold Ag.St.heard; rw [if_neg hk4]
      rw [hp, hh]
      (first | focus (refine yy4 ?_; refine yy41 ?_; refine awl_s rfl (s_eql rfl rfl) ?_; refine yy3 ?_; refine yy56 ?_; intro hc; rotate_left) | fail)
      all_goals try (exfalso; omega)
      exact ⟨_, _, auto_ent, rfl, F, a1, t1, hf1, rfl⟩
  rintro R1 H2 ⟨hh, F2, c1, c2, hf2, rfl⟩
  rw [hh]
  clear hh a1 k1 t1 hf1 hsz hsz2 f1 f2 f3 f4 f5 f6
  generalize preFin s1 m = u at *
  obtain ⟨off, k1, k2⟩ := c1.core
  have f2 := hf2.list.len
  have f3 := hf2.agr
  have f4 := hf2.last
  unfold Ag.mostView at f4
  rw [c2.o] at k1 k2
  unfold coreC at k1
  by_cases e : u.c.last = m.view
  · have hfin : u.fin m = { u with c := { u.c with agreed := max u.c.agreed (min m.commit u.c.list.length) } } := by unfold Ag.St.fin; rw [if_pos e]
    rw [hfin]
    obtain ⟨d1, d2⟩ := k2 { u.c with agreed := max u.c.agreed (min m.commit u.c.list.length) } rfl rfl rfl rfl rfl
    unfold coreC at d1 d2
    clear k2 hfin
    (first | focus (refine yy16 ?_; (apply awt_s; · exact s_move (v := .ptr _ _) rfl); (apply awt_s; · exact s_nilCheck_ptr rfl); (apply awt_s; · exact s_fieldAddr_ptr rfl); (apply awt_s; · exact s_load_cel rfl auto_heap rfl); (apply awt_s; · exact s_fieldAddr_pce rfl); (apply awt_s; · exact s_load_pce rfl auto_idx); (apply awt_s; · exact s_eqn rfl rfl); refine yy12 ?_; refine aw_condp rfl (fun hc => ?_) (fun hc => ?_); refine yy85 ?_; (apply awt_s; · exact s_move (v := .ptr _ _) rfl); (apply awt_s; · exact s_move (v := .ptr _ _) rfl); (apply awt_s; · exact s_nilCheck_ptr rfl); (apply awt_s; · exact s_fieldAddr_ptr rfl); (apply awt_s; · exact s_load_cel rfl auto_heap rfl); (apply awt_s; · exact s_fieldAddr_pce rfl); (apply awt_s; · exact s_load_pce rfl auto_idx); (apply awt_s; · exact s_move (v := .ptr _ _) rfl); (apply awt_s; · exact s_nilCheck_ptr rfl); (apply awt_s; · exact s_fieldAddr_ptr rfl); (apply awt_s; · exact s_load_cel rfl auto_heap rfl); (apply awt_s; · exact s_len_sls rfl); (apply awt_s; · exact s_convn rfl (by omega)); (apply awt_s; · exact s_minn rfl rfl); (apply awt_s; · exact s_convi rfl (by omega) (by omega)); (apply awt_s; · exact s_maxi rfl rfl); (apply awt_s; · exact s_nilCheck_ptr rfl); (apply awt_s; · exact s_fieldAddr_ptr rfl); refine awt_last ?_; refine yy72 ?_; rotate_left; exact absurd hc auto_no) | fail)
    all_goals try (exfalso; omega)
    have em : max (u.c.agreed : Int) ((min m.commit u.c.list.length : Nat) : Int) = ((max u.c.agreed (min m.commit u.c.list.length) : Nat) : Int) := by omega
    rw [em]
    exact ⟨.inr rfl, _, _, _, Ent.refl _ _, ret0 rfl, rfl, F2, d1, c2.trans (d2 : Turn F2.l H2 F2 F2 _)⟩
  · have hfin : u.fin m = u := by unfold Ag.St.fin; rw [if_neg e]
    rw [hfin]
    (first | focus (refine yy16 ?_; (apply awt_s; · exact s_move (v := .ptr _ _) rfl); (apply awt_s; · exact s_nilCheck_ptr rfl); (apply awt_s; · exact s_fieldAddr_ptr rfl); (apply awt_s; · exact s_load_cel rfl auto_heap rfl); (apply awt_s; · exact s_fieldAddr_pce rfl); (apply awt_s; · exact s_load_pce rfl auto_idx); (apply awt_s; · exact s_eqn rfl rfl); refine yy12 ?_; refine yy86 ?_; intro hc; refine aw_skip ?_; rotate_left) | fail)
    all_goals try (exfalso; omega)
    exact ⟨.inr rfl, _, _, _, Ent.refl _ _, ret0 rfl, rfl, F2, c1, c2⟩
end Go.Proofs.Ytbciofnejefkiaa

namespace Go.Proofs.Ytbciofnejefkiaa
open Go Go.Am Go.Proofs

theorem SAt.rehold {H : AHeap} {F : Ob} {s : Ag.St} (h : SAt H F s) {c' : Ag.Co} (es : MI) (hes : HeldM es c') (e1 : c' = { s.c with held := c'.held }) : SAt (H.set F.oh (es.ao .i64)) F { s with c := c' } ∧ Turn F.l H F F (H.set F.oh (es.ao .i64)) := by
  obtain ⟨⟨⟨off, xs, hco, hw, hx1, hx2⟩, ⟨eg, hg, hg2⟩, ⟨eh, hh, hh2⟩⟩, hst, hsv, hsn, nd⟩ := h
  have n0 := nd
  obtain ⟨n1, n2, n3, n4, n5, n6, n7, n8, n9, n10, n11, n12, n13, n14, n15, n16, n17, n18, n19, n20, n21⟩ := nd
  rw [e1] at hes ⊢
  exact ⟨⟨⟨⟨off, xs, auto_heap, auto_heap, hx1, hx2⟩, ⟨eg, auto_heap, ⟨hg2.get, hg2.len⟩⟩, ⟨es, auto_heap, hes⟩⟩, auto_heap, auto_heap, auto_heap, n0⟩, ⟨rfl, rfl, fun p hp => .inl hp, fun p y hp hF => AHeap.get_skip (fun e => hF (by simp [Ob.l, e])) hp⟩⟩
theorem CFine.hold {c : Ag.Co} (h : CFine c) {q v : Nat} (hq : q < c.n) (hv : v < 2 ^ 64) : CFine { c with held := Ag.upd c.held q (some v) } := ⟨h.me, h.n, h.view, h.last, h.list, h.agr, h.wait, h.quiet, h.got, fun p x hx => by
  have hx' : Ag.upd c.held q (some v) p = some x := hx
  unfold Ag.upd at hx'
  split at hx'
  · next e => cases hx'; exact ⟨by rw [e]; exact hq, hv⟩
  · exact h.held p x hx'⟩
theorem fresh_sub3 {H : AHeap} {o p q : Nat} {x y z : AO} (h : H o = none) (hp : p ≠ o) (hq : q ≠ o) : ∀ r w, ((H.set p y).set q z) r = some w → r ≠ o ∧ (((H.set o x).set p y).set q z) r = some w := fun r w hr => by
  have e : r ≠ o := fun e => by
    rw [e, AHeap.get_set_ne _ hq.symm, AHeap.get_set_ne _ hp.symm, h] at hr; cases hr
  refine ⟨e, ?_⟩
  by_cases e2 : r = q
  · subst e2; rw [AHeap.set_self] at hr ⊢; exact hr
  · rw [AHeap.get_set_ne _ e2] at hr ⊢
    by_cases e3 : r = p
    · subst e3; rw [AHeap.set_self] at hr ⊢; exact hr
    · rw [AHeap.get_set_ne _ e3] at hr ⊢
      exact AHeap.get_skip e hr
theorem none_sub3 {H : AHeap} {o p q : Nat} {x y : AO} (h : ((H.set o x).set p y) q = none) : (H.set p y) q = none := by
  have h1 := AHeap.none_of_set (AHeap.none_of_set h)
  have h2 : q ≠ p := AHeap.ne_of_fresh h
  rw [AHeap.get_set_ne _ h2]; exact h1
theorem listed_LF {m : Mg} (hm : m.Ok) (h : Ag.listed m.ents = true) : LF m.ents := by
  unfold Ag.listed at h
  simp only [Bool.and_eq_true, decide_eq_true_eq, List.all_eq_true] at h
  refine ⟨fun e he => ⟨hm.ents e he, ?_⟩, h.2⟩
  have := h.1.1 e he
  simp only [Ag.may, Bool.and_eq_true, decide_eq_true_eq] at this
  exact this.2
def wantK (s : Ag.St) (l : List En) (k : Nat) : Ag.St := (l.take k).foldl Ag.St.want s
theorem wantK_succ {s : Ag.St} {l : List En} {k : Nat} {e : En} (h : l[k]? = some e) : wantK s l (k + 1) = (wantK s l k).want e := by
  unfold wantK
  rw [List.take_add_one, h, List.foldl_append]; rfl
theorem wantK_sm {s : Ag.St} (h : CFine s.c) {l : List En} (hl : ∀ e ∈ l, e.Ok) : ∀ k, k ≤ l.length → Sm k (7 * k) s (wantK s l k)
  | 0, _ => ⟨h, rfl, rfl, Nat.le_refl _, Nat.le_refl _⟩
  | k + 1, hk => by
    have ih := wantK_sm h hl k (by omega)
    have hg : l[k]? = some l[k] := List.getElem?_eq_getElem (by omega)
    rw [wantK_succ hg]
    exact (ih.trans (want_sm ih.c (hl _ (List.getElem_mem _)))).more (by omega) (by omega)
end Go.Proofs.Ytbciofnejefkiaa
