import Derived.Test.YtbciofnejefkiaaIz
import Derived.Test.YtbciofnejefkiaaIa3
import Derived.Test.YtbciofnejefkiaaIa1
set_option linter.unusedVariables false
set_option linter.unusedSimpArgs false
set_option maxRecDepth 20000
set_option maxHeartbeats 4000000
namespace Go.Proofs.Ytbciofnejefkiaa
open Go Go.Am Go.Proofs
theorem CFine.calm {c : Ag.Co} (h : CFine c) {q : Nat} (hq : q <= 1000000000) : CFine { c with quiet := q } := ⟨h.me, h.n, h.view, h.last, h.list, h.agr, h.wait, hq, h.got, h.held⟩
theorem SAt.quiet {H : AHeap} {F : Ob} {s : Ag.St} (h : SAt H F s) (q : Nat) : ∃ off, SAt (H.set F.o (.cel (bo { s.c with quiet := q } F.og F.oh (.vw F.ow 3 off s.c.wait.length)))) F { s with c := { s.c with quiet := q } } /\
    Turn F.l H F F (H.set F.o (.cel (bo { s.c with quiet := q } F.og F.oh (.vw F.ow 3 off s.c.wait.length)))) /\ H F.o = some (.cel (bo s.c F.og F.oh (.vw F.ow 3 off s.c.wait.length))) := by
  obtain ⟨⟨⟨off, xs, hco, hw, hx1, hx2⟩, ⟨eg, hg, hg2⟩, ⟨eh, hh, hh2⟩⟩, hst, hsv, hsn, nd⟩ := h; obtain ⟨n1, n2, n3, n4, n5, n6, n7, n8, n9, n10, n11, n12, n13, n14, n15, n16, n17, n18, n19, n20, n21⟩ := nd; refine ⟨off, ⟨⟨⟨off, xs, aa, aa, hx1, hx2⟩, ⟨eg, aa, ⟨hg2.get, hg2.len⟩⟩, ⟨eh, aa, ⟨hh2.get, hh2.nd⟩⟩⟩, aa, aa, aa, ⟨n1, n2, n3, n4, n5, n6, n7, n8, n9, n10, n11, n12, n13, n14, n15, n16, n17, n18, n19, n20, n21⟩⟩, ⟨rfl, rfl, fun p hp => .inl hp, fun p y hp hF => arl (fun e => hF (by simp [Ob.l, e])) hp⟩, hco⟩
theorem Tick_calls (H : AHeap) (F : Ob) (c : Ag.Co) (h : CAt H F c) (nd : NdC F) (hf : CFine c) (hq : c.quiet <= 1000000) :
    ACalls Try.prog 19 [.ptr F.o 0] H fun r H' => r = stepA c.tick /\ ∃ F', CAt H' F' c.tick.c /\ TurnK H F F' H' := by
  obtain ⟨off0, _, hco0, _⟩ := h.core; unfold bo at hco0; refine ej Try.func19 rfl (by decide) ?_
  focus (refine az ?_; refine cz rfl rfl rfl (fun oN hoN => ?_); refine il ?_; refine cz rfl rfl rfl (fun oN hoN => ?_); refine aq ?_)
  rename_i oR hoR
  refine acf h nd hoR hoN (fun H1 F1 a1 b1 e1 z1 => ?_)
  subst e1; have hco := b1.fr _ _ hco0; have hsv0 : (⟨c, [], []⟩ : Ag.St).save.length = 0 := rfl; have hsn0 : (⟨c, [], []⟩ : Ag.St).send.length = 0 := rfl; have hc0 : (⟨c, [], []⟩ : Ag.St).c = c := rfl; clear h hco0 hoN
  cases hl : c.lead with
  | true =>
    have ht : c.tick = Ag.St.grow ⟨c, [], []⟩ := by unfold Ag.Co.tick; dsimp only; rw [if_pos hl]
    rw [ht]; rw [hl] at hco; have hG := xy H1 F1 ⟨c, [], []⟩ a1 hf (by omega) (by omega)
    rw [b1.o] at hG; generalize (⟨c, [], []⟩ : Ag.St) = s at *
    focus (refine bq ?_; refine bl ?_; refine gy ?_; refine dg ?_; (refine zc ah (hG) ?_; rintro r H' ⟨rfl, F2, c1, c2⟩); refine aq ?_)
    obtain ⟨H3, hE, q1, q2, q3, q4, q5⟩ := b1.done c2 c1 z1; refine dy (R' := [(2, .ptr oR 0), (3, .ptr F1.os 0)]) (H' := H3) ((hE _).trans (Ent.sub _ (by (repeat' (first | exact RSub.nil _ | apply RSub.cons)); all_goals rfl))) ?_
    clear hG hE
    focus (refine az ?_; refine i5 ?_; refine dv ?_; refine db ?_)
    exact ⟨.inl rfl, _, _, _, aro (H0 := H3.erase oR) 2 [saveA _, sendA _] rfl aa df j0, jp rfl (dr (m := 2) rfl rfl rfl (by decide)), rfl, F2, q4, q5⟩
  | false =>
    rw [hl] at hco; obtain ⟨off, a2, t2, k2⟩ := a1.quiet (c.quiet + 1); have hfq : CFine { c with quiet := c.quiet + 1 } := hf.calm (by omega)
    rw [b1.o] at a2 t2 k2; replace k2 : H1 F.o = some (.cel [mI c.me, mI c.n, uI c.view, uI c.last, lsE c.list, mI c.agreed, bB false, mI c.quiet, .mp F1.og, .mp F1.oh, .vw F1.ow 3 off c.wait.length]) := by rw [<- hl]; exact k2
    clear hco
    focus (refine bq ?_; refine bl ?_; refine fm ?_; refine cy ?_; refine az ?_; refine bl ?_; refine ae rfl (my rfl rfl au) ?_; refine iw ?_; refine gv ?_; refine aq ?_)
    have hcq : ∀ wv, bo { c with quiet := c.quiet + 1 } F1.og F1.oh wv = [mI c.me, mI c.n, uI c.view, uI c.last, lsE c.list, mI c.agreed, bB false, mI ((c.quiet + 1 : Nat) : Int), .mp F1.og, .mp F1.oh, wv] := fun wv => by rw [<- hl]; rfl
    refine dy (R' := [(0, .ptr F.o 0), (2, .ptr oR 0), (3, .ptr F1.os 0)]) (H' := H1.set F.o (.cel (bo { c with quiet := c.quiet + 1 } F1.og F1.oh (.vw F1.ow 3 off c.wait.length)))) ?_ ?_
    · rw [hcq]
      exact Ent.sub _ (by (repeat' (first | exact RSub.nil _ | apply RSub.cons)); all_goals rfl)
    have k3 : (H1.set F.o (.cel (bo { c with quiet := c.quiet + 1 } F1.og F1.oh (.vw F1.ow 3 off c.wait.length)))) F.o = some (.cel [mI c.me, mI c.n, uI c.view, uI c.last, lsE c.list, mI c.agreed, bB false, mI ((c.quiet + 1 : Nat) : Int), .mp F1.og, .mp F1.oh, .vw F1.ow 3 off c.wait.length]) := by rw [hcq]; exact arn _ _ _
    have ht : c.tick = if 12 <= c.quiet + 1 \/ c.n = 1 then Ag.St.begin ⟨{ c with quiet := c.quiet + 1 }, [], []⟩ else if (c.quiet + 1) % 4 = 0 then Ag.St.vote ⟨{ c with quiet := c.quiet + 1 }, [], []⟩ else ⟨{ c with quiet := c.quiet + 1 }, [], []⟩ := by unfold Ag.Co.tick; dsimp only; rw [if_neg (by rw [hl]; simp)]
    rw [ht]; replace a2 : SAt (H1.set F.o (.cel (bo { c with quiet := c.quiet + 1 } F1.og F1.oh (.vw F1.ow 3 off c.wait.length)))) F1 ⟨{ c with quiet := c.quiet + 1 }, [], []⟩ := a2
    replace t2 : Turn F1.l H1 F1 F1 (H1.set F.o (.cel (bo { c with quiet := c.quiet + 1 } F1.og F1.oh (.vw F1.ow 3 off c.wait.length)))) := t2
    generalize (H1.set F.o (.cel (bo { c with quiet := c.quiet + 1 } F1.og F1.oh (.vw F1.ow 3 off c.wait.length)))) = H2 at *
    have hB := afl H2 F1 ⟨{ c with quiet := c.quiet + 1 }, [], []⟩ a2 hfq (Nat.zero_le _) (Nat.zero_le _)
    have hV := ab8 H2 F1 ⟨{ c with quiet := c.quiet + 1 }, [], []⟩ a2 hfq (Nat.zero_le _) (Nat.zero_le _)
    rw [b1.o] at hB hV; generalize (⟨{ c with quiet := c.quiet + 1 }, [], []⟩ : Ag.St) = s at *
    have hfn := hf.n; clear hcq ht hsv0 hsn0 hc0 k2 a1 hl hfq; by_cases e1 : 12 <= c.quiet + 1 \/ c.n = 1
    · rw [if_pos e1]
      focus (refine bf ?_; refine pt ?_; refine bl ?_; refine ln ?_; refine an ?_; refine zg2 rfl rfl rfl (fun hc => ?_) (fun hc => ?_); refine dp ?_; refine bu ?_; refine bc ?_; refine ia ?_; refine fv ?_; (refine zc ah (hB) ?_; rintro r H' ⟨rfl, F2, c1, c2⟩); refine bb ?_; refine ft ?_; rotate_left; refine lx ?_; refine j4 ?_; refine eo ?_; refine fh ?_; refine cd ?_; refine bc ?_; refine ax rfl (fun hc => ?_) (fun hc => ?_); refine fv ?_; (refine zc ah (hB) ?_; rintro r H' ⟨rfl, F2, c1, c2⟩); refine bb ?_; refine ft ?_; rotate_left; exact absurd hc aj)
      all_goals try (exfalso; omega)
      all_goals (
        obtain ⟨H3, hE, q1, q2, q3, q4, q5⟩ := b1.done (t2.trans c2) c1 z1; refine dy (R' := [(2, .ptr oR 0), (3, .ptr F1.os 0)]) (H' := H3) ((hE _).trans (Ent.sub _ (by (repeat' (first | exact RSub.nil _ | apply RSub.cons)); all_goals rfl))) ?_
        clear hE k3
        focus (refine az ?_; refine i5 ?_; refine dv ?_)
        exact ⟨.inl rfl, _, _, _, aro (H0 := H3.erase oR) 2 [saveA _, sendA _] rfl aa df j0, jp rfl (dr (m := 2) rfl rfl rfl (by decide)), rfl, F2, q4, q5⟩)
    · rw [if_neg e1]
      by_cases e2 : (c.quiet + 1) % 4 = 0
      · rw [if_pos e2]
        focus (refine bf ?_; refine pt ?_; refine bl ?_; refine ln ?_; refine an ?_; refine zg2 rfl rfl rfl (fun hc => ?_) (fun hc => ?_); exact absurd hc aj; refine lx ?_; refine j4 ?_; refine eo ?_; refine fh ?_; refine cd ?_; refine bc ?_; refine kx ?_; intro hc; refine bl ?_; refine ae rfl (uq rfl rfl au) ?_; refine ja ?_; refine ax rfl (fun hc => ?_) (fun hc => ?_); refine fv ?_; (refine zc ah (hV) ?_; rintro r H' ⟨rfl, F2, c1, c2⟩); refine bb ?_; refine ft ?_; rotate_left; exact absurd hc aj)
        all_goals try (exfalso; omega)
        all_goals (
          obtain ⟨H3, hE, q1, q2, q3, q4, q5⟩ := b1.done (t2.trans c2) c1 z1; refine dy (R' := [(2, .ptr oR 0), (3, .ptr F1.os 0)]) (H' := H3) ((hE _).trans (Ent.sub _ (by (repeat' (first | exact RSub.nil _ | apply RSub.cons)); all_goals rfl))) ?_
          clear hE k3
          focus (refine az ?_; refine i5 ?_; refine dv ?_)
          exact ⟨.inl rfl, _, _, _, aro (H0 := H3.erase oR) 2 [saveA _, sendA _] rfl aa df j0, jp rfl (dr (m := 2) rfl rfl rfl (by decide)), rfl, F2, q4, q5⟩)
      · rw [if_neg e2]
        focus (refine bf ?_; refine pt ?_; refine bl ?_; refine ln ?_; refine an ?_; refine zg2 rfl rfl rfl (fun hc => ?_) (fun hc => ?_); exact absurd hc aj; refine lx ?_; refine j4 ?_; refine eo ?_; refine fh ?_; refine cd ?_; refine bc ?_; refine kx ?_; intro hc; refine bl ?_; refine ae rfl (uq rfl rfl au) ?_; refine ja ?_; refine jm ?_; intro hc; refine di ?_; refine ft ?_)
        all_goals try (exfalso; omega)
        all_goals (
          obtain ⟨H3, hE, q1, q2, q3, q4, q5⟩ := b1.done t2 a2 z1; refine dy (R' := [(2, .ptr oR 0), (3, .ptr F1.os 0)]) (H' := H3) ((hE _).trans (Ent.sub _ (by (repeat' (first | exact RSub.nil _ | apply RSub.cons)); all_goals rfl))) ?_
          clear hE k3
          focus (refine az ?_; refine i5 ?_; refine dv ?_)
          exact ⟨.inl rfl, _, _, _, aro (H0 := H3.erase oR) 2 [saveA _, sendA _] rfl aa df j0, jp rfl (dr (m := 2) rfl rfl rfl (by decide)), rfl, F1, q4, q5⟩)
end Go.Proofs.Ytbciofnejefkiaa
namespace Go.Proofs.Ytbciofnejefkiaa
open Go Go.Am Go.Proofs
theorem Submit_calls (H : AHeap) (F : Ob) (c : Ag.Co) (id : Nat) (row : List Int) (h : CAt H F c) (nd : NdC F) (hf : CFine c) (he : (⟨id, 0, row⟩ : En).Ok) (hr : row.length <= 1000000) :
    ACalls Try.prog 17 [.ptr F.o 0, uI id, .sls row.length (row.map mI)] H fun r H' => r = stepA (c.submit id row) /\ ∃ F', CAt H' F' (c.submit id row).c /\ TurnK H F F' H' := by
  obtain ⟨off0, _, hco0, _⟩ := h.core; unfold bo at hco0; have hCl := fun H => CloneR_calls H row (by omega)
  refine lz Try.func17 rfl (by decide) ?_
  focus (refine az ?_; refine cz rfl rfl rfl (fun oN hoN => ?_); refine il ?_; refine cz rfl rfl rfl (fun oN hoN => ?_); refine aq ?_)
  rename_i oR hoR
  refine acf h nd hoR hoN (fun H1 F1 a1 b1 e1 z1 => ?_)
  subst e1; have hco := b1.fr _ _ hco0; clear h hco0 hoN
  focus (refine gn ?_; refine dt ?_; (refine zc ah (hCl _) ?_; rintro r H' ⟨rfl, rfl⟩); refine jn ?_; refine cz rfl rfl rfl (fun oN hoN => ?_); refine jx ?_; refine aq ?_)
  refine dy (R' := [(0, .ptr F.o 0), (1, uI id), (6, .ptr oR 0), (7, .ptr F1.os 0), (8, .pce (⟨id, 0, row⟩ : En).cells 0)]) (H' := H') ((aro (H0 := H') 8 (⟨id, 0, row⟩ : En).cells rfl aa df (aih hoN)).trans (Ent.sub _ (by (repeat' (first | exact RSub.nil _ | apply RSub.cons)); all_goals rfl))) ?_
  clear hoN hCl; have hsub : c.submit id row = (let s1 : Ag.St := if c.n = 1 /\ c.lead = false then Ag.St.begin ⟨c, [], []⟩ else ⟨c, [], []⟩; let s2 : Ag.St := { s1 with c := (s1.c.wanted ⟨id, 0, row⟩).1 }; if (s1.c.wanted ⟨id, 0, row⟩).2 then s2.grow else if Ag.may ⟨id, 0, row⟩ = true /\ s2.c.lead = false /\ Ag.hasId s2.c.list id = false then s2.out { Ag.msg0 1 ((s2.c.view % s2.c.n : Nat) : Int) with ents := [⟨id, 0, row⟩] } else s2) := rfl
  rw [hsub]; clear hsub; dsimp only
  have hs1 : Sm 3 14 ⟨c, [], []⟩ (if c.n = 1 /\ c.lead = false then Ag.St.begin ⟨c, [], []⟩ else ⟨c, [], []⟩) := by
    split
    · exact wm (s := ⟨c, [], []⟩) hf
    · exact ⟨hf, rfl, rfl, Nat.zero_le _, Nat.zero_le _⟩
  have hfn := hf.n; have hB := afl H' F1 ⟨c, [], []⟩ a1 hf (Nat.zero_le _) (Nat.zero_le _); rw [b1.o] at hB; generalize hq1 : (if c.n = 1 /\ c.lead = false then Ag.St.begin ⟨c, [], []⟩ else ⟨c, [], []⟩) = s1 at *
  have her : (⟨id, 0, row⟩ : En).row.length <= 1000000 := hr; have hid : (⟨id, 0, row⟩ : En).id = id := rfl; generalize hE : (⟨id, 0, row⟩ : En) = e at *; refine bf ?_; refine mg (fun R1 H2 => ∃ F2, SAt H2 F2 s1 /\ Turn F1.l H' F1 F2 H2 /\ R1 = [(0, .ptr F.o 0), (1, uI id), (6, .ptr oR 0), (7, .ptr F1.os 0), (8, .pce e.cells 0)]) ?_ ?_
  · by_cases h1 : c.n = 1 /\ c.lead = false
    · obtain ⟨h1, h2⟩ := h1
      rw [h2] at hco; rw [if_pos ⟨h1, h2⟩] at hq1; rw [hq1] at hB
      focus (refine az ?_; refine bl ?_; refine fh ?_; refine an ?_; refine zg1 rfl rfl rfl (fun hc => ?_) (fun hc => ?_); refine lx ?_; refine j4 ?_; refine eo ?_; refine ea ?_; refine bu ?_; refine gy ?_; refine fv ?_; (refine zc ah (hB) ?_; rintro r H' ⟨rfl, F2, c1, c2⟩); refine aq ?_; rotate_left; exact absurd hc aj)
      all_goals try (exfalso; omega)
      exact ⟨_, _, ba, F2, c1, c2, rfl⟩
    · rw [if_neg h1] at hq1
      rw [hq1] at a1; clear hB
      cases h2 : c.lead with
      | true =>
        rw [h2] at hco
        focus (refine az ?_; refine bl ?_; refine fh ?_; refine an ?_; refine zg1 rfl rfl rfl (fun hc => ?_) (fun hc => ?_); refine lx ?_; refine j4 ?_; refine eo ?_; refine ea ?_; refine bu ?_; refine fm ?_; refine cy ?_; rotate_left; refine dp ?_; refine cd ?_; refine fm ?_; refine cy ?_; rotate_left)
        all_goals try (exfalso; omega)
        all_goals exact ⟨_, _, ba, F1, a1, Turn.refl _ _ _, rfl⟩
      | false =>
        have h3 : ¬ c.n = 1 := fun e => h1 ⟨e, h2⟩
        rw [h2] at hco
        focus (refine az ?_; refine bl ?_; refine fh ?_; refine an ?_; refine zg1 rfl rfl rfl (fun hc => ?_) (fun hc => ?_); exact absurd hc aj; refine dp ?_; refine cd ?_; refine fm ?_; refine cy ?_)
        all_goals try (exfalso; omega)
        all_goals exact ⟨_, _, ba, F1, a1, Turn.refl _ _ _, rfl⟩
  rintro R1 H2 ⟨F2, c1, c2, rfl⟩; have hf1 := hs1.c; have l1 : s1.save.length <= 3 := hs1.sv; have l2 : s1.send.length <= 14 := hs1.sn; clear hs1 hq1 hB hco a1 hfn; have o2 := c2.o.trans b1.o; have hW := agm H2 F2 s1 e c1 hf1 her he; rw [o2] at hW; obtain ⟨w1, w2, w3⟩ := hf1.wanted he; generalize s1.c.wanted e = x at *; refine bf ?_; refine mg (fun R1 H4 => ∃ F4, SAt H4 F4 (if x.2 = true then Ag.St.grow { s1 with c := x.1 } else if Ag.may e = true /\ ({ s1 with c := x.1 } : Ag.St).c.lead = false /\ Ag.hasId ({ s1 with c := x.1 } : Ag.St).c.list id = false then ({ s1 with c := x.1 } : Ag.St).out { Ag.msg0 1 ((({ s1 with c := x.1 } : Ag.St).c.view % ({ s1 with c := x.1 } : Ag.St).c.n : Nat) : Int) with ents := [e] } else { s1 with c := x.1 }) /\ Turn F1.l H' F1 F4 H4 /\ R1 = [(6, .ptr oR 0), (7, .ptr F1.os 0)]) ?_ ?_
  · cases hx : x.2 with
    | true =>
      rw [if_pos rfl]; rw [hx] at hW
      focus (refine pt ?_; refine cu ?_; refine ip ?_; (refine zc ah (hW) ?_; rintro r H' ⟨rfl, F3, c3, c4⟩); refine bc ?_)
      have hG := xy _ F3 _ c3 w1 (by show s1.save.length <= _; omega) (by show s1.send.length <= _; omega)
      rw [c4.o, c4.os, o2, c2.os] at hG; clear hW
      focus (refine ia ?_; refine fv ?_; (refine zc ah (hG) ?_; rintro r H' ⟨rfl, F4, c5, c6⟩); refine bb ?_; refine ft ?_)
      exact ⟨_, _, ba, F4, c5, (c2.trans c4).trans c6, rfl⟩
    | false =>
      rw [if_neg (by simp)]
      rw [hx] at hW
      focus (refine pt ?_; refine cu ?_; refine ip ?_; (refine zc ah (hW) ?_; rintro r H' ⟨rfl, F3, c3, c4⟩); refine bc ?_; refine mf rfl ?_)
      clear hW; have c0 := c3; obtain ⟨off, _, hco, _⟩ := c3.c.core; have o3 : F3.o = F.o := c4.o.trans o2; have s3 : F3.os = F1.os := c4.os.trans c2.os; rw [o3] at hco; have f1 := w1.n; have f2 := w1.list.len; have f3 := w1.me; have f4 := w1.view; unfold Ag.mostView at f4; have hmd := Nat.mod_lt x.1.view (show 0 < x.1.n by omega)
      have hM := fun H => acu H e (by omega)
      have hHL := fun H => yq H x.1.list id (by omega)
      have hC := fun H => Copy_calls H e her
      have hld := fun H h => ace H F.o x.1 F3.og F3.oh (.vw F3.ow 3 off x.1.wait.length) x.1.view h (by omega) f1 (by omega)
      generalize x.1 = d at *; replace hco : H' F.o = some (.cel (bo d F3.og F3.oh (.vw F3.ow 3 off d.wait.length))) := hco; unfold bo at hco hld; dsimp only; clear hx w2 w3
      cases hm : Ag.may e with
      | false =>
        rw [hm] at hM; rw [if_neg (by simp)]
        focus (refine az ?_; refine ip ?_; (refine zc ah (hM _) ?_; rintro r H' ⟨rfl, rfl⟩); refine an ?_; refine dp ?_; refine fb ?_; refine jv ?_; refine dp ?_; refine gp ?_; refine fb ?_; refine cd ?_; refine bc ?_; refine j6 ?_; refine ft ?_)
        exact ⟨_, _, ba, F3, c0, c2.trans c4, rfl⟩
      | true =>
        rw [hm] at hM
        cases hl : d.lead with
        | true =>
          rw [hl] at hco; rw [if_neg (by simp)]
          focus (refine az ?_; refine ip ?_; (refine zc ah (hM _) ?_; rintro r H' ⟨rfl, rfl⟩); refine i9 ?_; refine j4 ?_; refine eo ?_; refine ea ?_; refine bu ?_; refine an ?_; refine dp ?_; refine gp ?_; refine fb ?_; refine cd ?_; refine bc ?_; refine j6 ?_; refine ft ?_)
          exact ⟨_, _, ba, F3, c0, c2.trans c4, rfl⟩
        | false =>
          rw [hl] at hco hld
          cases hh : Ag.hasId d.list id with
          | true =>
            rw [hh] at hHL; rw [if_neg (by simp)]
            focus (refine az ?_; refine ip ?_; (refine zc ah (hM _) ?_; rintro r H' ⟨rfl, rfl⟩); refine i9 ?_; refine j4 ?_; refine eo ?_; refine ea ?_; refine bu ?_; refine i9 ?_; refine j4 ?_; refine eo ?_; refine ep ?_; (refine zc ah (hHL _) ?_; rintro r H' ⟨rfl, rfl⟩); refine a0 ?_; refine ea ?_; refine bu ?_; refine bc ?_; refine j6 ?_; refine ft ?_)
            exact ⟨_, _, ba, F3, c0, c2.trans c4, rfl⟩
          | false =>
            rw [hh] at hHL; rw [if_pos ⟨rfl, rfl, rfl⟩]; have hS := qo H' F3 ⟨d, s1.save, s1.send⟩ { Ag.msg0 1 ((d.view % d.n : Nat) : Int) with ents := [e] } c0 w1 (by show s1.send.length <= _; omega)
            rw [o3, s3] at hS; replace hS := hS.weak (WL.cons (W.of rfl) (WL.cons (W.of rfl) (WL.cons (x := .agg [mI 1, mI 0, mI ((d.view % d.n : Nat) : Int), uI 0, uI 0, uI 0, uI 0, .slsx 1 ([e].flatMap En.cells), .raw (.slice none 0 0)]) (qb (WL.cons (W.of rfl) (WL.cons (W.of rfl) (WL.cons (W.of rfl) (WL.cons (W.of rfl) (WL.cons (W.of rfl) (WL.cons (W.of rfl) (WL.cons (W.of rfl) (WL.cons (W.slsx rfl) (WL.cons (W.nilb rfl) WL.nil)))))))))) WL.nil))); rw [show [e].flatMap En.cells = e.cells from List.append_nil _] at hS
            generalize d.view % d.n = to at *
            focus (refine az ?_; refine ip ?_; (refine zc ah (hM _) ?_; rintro r H' ⟨rfl, rfl⟩); refine i9 ?_; refine j4 ?_; refine eo ?_; refine ea ?_; refine bu ?_; refine i9 ?_; refine j4 ?_; refine eo ?_; refine ep ?_; (refine zc ah (hHL _) ?_; rintro r H' ⟨rfl, rfl⟩); refine a0 ?_; refine ea ?_; refine bu ?_; refine bc ?_; refine ia ?_; refine j5 ?_; refine i0 ?_; refine i0 ?_; refine cw ?_; (apply ay; · exact bw ah (hld _ aa)); refine pj ?_; (apply ay; · exact bw ah (hC _)); refine ago ?_; refine se ?_; refine lg ?_; (refine zc ah (hS) ?_; rintro r H' ⟨rfl, F4, c5, c6⟩); refine bb ?_; refine ft ?_)
            exact ⟨_, _, ba, F4, c5, (c2.trans c4).trans c6, rfl⟩
  rintro R1 H4 ⟨F4, d1, d2, rfl⟩; obtain ⟨H3, hE, q1, q2, q3, q4, q5⟩ := b1.done d2 d1 z1; refine dy (R' := [(6, .ptr oR 0), (7, .ptr F1.os 0)]) (H' := H3) (hE _) ?_; clear hE
  focus (refine az ?_; refine i5 ?_; refine dv ?_)
  exact ⟨.inl rfl, _, _, _, aro (H0 := H3.erase oR) 6 [saveA _, sendA _] rfl aa df j0, jp rfl (dr (m := 2) rfl rfl rfl (by decide)), rfl, F4, q4, q5⟩
end Go.Proofs.Ytbciofnejefkiaa
namespace Go.Proofs.Ytbciofnejefkiaa
open Go Go.Am Go.Proofs
theorem aq9 {H : AHeap} {o p : Nat} {x y : AO} {z : AO} (h : H o = none) (hp : H p = some z) : ∀ q w, (H.set p y) q = some w -> q ≠ o /\ ((H.set o x).set p y) q = some w := fun q w hq => by
  have e : q ≠ o := fun e => by
    have ne : o ≠ p := fun e2 => by rw [e2, hp] at h; cases h
    rw [e, aru _ ne, h] at hq; cases hq
  refine ⟨e, ?_⟩; by_cases e2 : q = p
  · subst e2
    rw [arn] at hq ⊢; exact hq
  · rw [aru _ e2] at hq ⊢
    exact arl e hq
theorem ach {l : List En} (hl : LF l) {c : Ag.Co} (hf : CFine c) (H : AHeap) : ACalls Try.prog 62 [lsE l, .sls (c.agreed - 0) (List.take ((c.agreed - 0) * 3) (List.drop (0 * 3) (c.list.flatMap En.cells)))] H fun r H' => r = bB (Ag.begins l (c.list.take c.agreed)) /\ H' = H := by
  have x4 := hl.len; have x5 := hl.ok; have f2 := hf.list.len; have f3 := hf.agr; have f4 := hf.list.ok; have h1 := aa4 H l (c.list.take c.agreed) (by omega) (by rw [List.length_take]; omega) (fun e he => by have := (x5 e he).2; omega) (fun e he => by have := (f4 e (List.mem_of_mem_take he)).2; omega)
  have e2 : (c.list.take c.agreed).length = c.agreed := by rw [List.length_take]; omega
  unfold lsE at h1; rw [e2, <- v8 _ _ f3] at h1; rw [Nat.sub_zero, Nat.zero_mul, List.drop_zero]; exact h1
def preFin (s : Ag.St) (m : Mg) : Ag.St := if m.kind = 4 then (if s.c.last < m.view \/ s.c.list.length < m.ents.length then s.take m.view m.ents else s).out { Ag.msg0 5 m.from_ with op := (if s.c.last < m.view \/ s.c.list.length < m.ents.length then s.take m.view m.ents else s).c.list.length } else s
theorem anv (H : AHeap) (F : Ob) (s : Ag.St) (m : Mg) (h : SAt H F s) (hf : CFine s.c) (hl : s.save.length <= 7000) (hl2 : s.send.length <= 7000) (hm : m.Ok) (hL : LF m.ents) (hv : m.view <= Ag.mostView) :
    ACalls Try.prog 55 [.ptr F.o 0, .ptr F.os 0, .agg m.cells] H fun r H' => r = .tup [] /\ ∃ F', SAt H' F' (s.hear m) /\ Turn F.l H F F' H' := by
  obtain ⟨off, hco, hk⟩ := h.core; obtain ⟨a1, t1⟩ := hk { s.c with quiet := 0 } rfl rfl rfl rfl rfl
  have hco1 := hco; have hf1 : CFine ({ s.c with quiet := 0 } : Ag.Co) := hf.calm (Nat.zero_le _)
  unfold bo at hco; have hhe : s.hear m = Ag.St.heard { s with c := { s.c with quiet := 0 } } m := rfl
  rw [hhe]; clear hhe hk; refine lz Try.func55 rfl (by decide) ?_
  focus (refine az ?_; refine zb1 rfl rfl rfl (fun oN hoN => ?_); refine il ?_; refine ue ?_; refine gv ?_; refine aq ?_)
  refine dy (R' := [(0, .ptr F.o 0), (1, .ptr F.os 0), (5, .pce m.cells 0)]) (H' := H.set F.o (.cel (bo { s.c with quiet := 0 } F.og F.oh (.vw F.ow 3 off s.c.wait.length)))) ((aro 5 m.cells rfl aa df (aq9 hoN hco1)).trans (Ent.sub _ (by (repeat' (first | exact RSub.nil _ | apply RSub.cons)); all_goals rfl))) ?_
  clear hoN hco hco1 h hf; obtain ⟨off2, k1, k2⟩ := a1.core; have hsz : ({ s with c := { s.c with quiet := 0 } } : Ag.St).save.length <= 7000 := hl
  have hsz2 : ({ s with c := { s.c with quiet := 0 } } : Ag.St).send.length <= 7000 := hl2
  generalize H.set F.o (.cel (bo { s.c with quiet := 0 } F.og F.oh (.vw F.ow 3 off s.c.wait.length))) = H1 at *
  generalize hs1 : ({ s with c := { s.c with quiet := 0 } } : Ag.St) = s1 at *
  replace hf1 : CFine s1.c := by rw [<- hs1]; exact hf1
  clear hs1 hl hl2 k2; unfold bo at k1; have f1 := hf1.n; have f2 := hf1.list.len; have f3 := hf1.agr; have f4 := hf1.last; have f5 := hf1.view; have f6 := hf1.me; unfold Ag.mostView at f4 f5; have f7 := hL.len; have g1 := hm.kind; have g2 := hm.from_; have g6 := hm.op; have g7 := hm.commit; have g8 := hm.view; refine bf ?_; refine mg (fun R1 H2 => s1.heard m = (preFin s1 m).fin m /\ ∃ F2, SAt H2 F2 (preFin s1 m) /\ Turn F.l H F F2 H2 /\ CFine (preFin s1 m).c /\ R1 = [(0, .ptr F.o 0), (1, .ptr F.os 0), (5, .pce m.cells 0)]) ?_ ?_
  · by_cases hk4 : m.kind = 4
    · cases hbg : Ag.begins m.ents (s1.c.list.take s1.c.agreed) with
      | false =>
        have hB := fun H => ach hL hf1 H
        rw [hbg] at hB; have hh : s1.heard m = s1 := by unfold Ag.St.heard; rw [if_pos hk4, if_pos hbg]
        rw [hh]
        focus (refine az ?_; refine ez ?_; refine ae rfl (kj rfl rfl) ?_; refine aq ?_; refine ax rfl (fun hc => ?_) (fun hc => ?_); refine bf ?_; refine cj ?_; refine dm ?_; refine cw ?_; refine cw ?_; refine oq ?_; (apply ay; · exact bw ah (hB _)); refine ju ?_; refine de ?_; refine ia ?_; refine j7 ?_; refine db ?_; refine db ?_; rotate_left; exact absurd hc aj)
        all_goals try (exfalso; omega)
        exact ⟨.inl rfl, _, _, _, Ent.refl _ _, ret0 rfl, rfl, F, a1, t1⟩
      | true =>
        have hB := fun H => ach hL hf1 H
        rw [hbg] at hB
        have hag : s1.c.agreed <= m.ents.length := by
          have := hbg; simp only [Ag.begins, Bool.and_eq_true, decide_eq_true_eq, List.length_take] at this; omega
        have hh : s1.heard m = (preFin s1 m).fin m := by unfold Ag.St.heard preFin Ag.St.hold; rw [if_pos hk4, if_neg (by rw [hbg]; simp), if_pos hk4]
        rw [hh]; clear hh; unfold preFin; rw [if_pos hk4]; by_cases hq : s1.c.last < m.view \/ s1.c.list.length < m.ents.length
        · rw [if_pos hq]
          have hcp := fun H => (pg H m.ents (by omega) fun e he => by have := (hL.ok e he).2; omega).seal_cel (i8 (sz := 3) (fun _ => rfl) m.ents)
          have hT := acs H1 F s1 m.view m.ents a1 hf1 (by omega) hv hL
          have ho := t1.o; have hT2 := v6 hf1 hv hL hag; generalize s1.take m.view m.ents = t at *
          focus (refine az ?_; refine ez ?_; refine ae rfl (kj rfl rfl) ?_; refine aq ?_; refine ax rfl (fun hc => ?_) (fun hc => ?_); refine bf ?_; refine cj ?_; refine dm ?_; refine cw ?_; refine cw ?_; refine oq ?_; (apply ay; · exact bw ah (hB _)); refine ju ?_; refine de ?_; refine mf rfl ?_; refine di ?_; refine ee ?_; refine bf ?_; refine cj ?_; refine cw ?_; refine dm ?_; refine mo ?_; refine bj ?_; refine zt2 rfl rfl rfl (fun hc => ?_) (fun hc => ?_); refine dh ?_; refine nh ?_; refine cx ?_; refine dd ?_; refine nh ?_; refine cx ?_; refine nv ?_; refine jh ?_; refine ax rfl (fun hc => ?_) (fun hc => ?_); refine j5 ?_; refine i0 ?_; refine i0 ?_; refine dm ?_; refine dm ?_; (apply ay; · exact bw ah (hcp _)); refine lg ?_; (refine zc ah (hT) ?_; rintro r H' ⟨rfl, F2, b1, b2⟩); refine aq ?_; rotate_left; exact absurd hc aj; refine bx ?_; refine bx ?_; refine da ?_; refine de ?_; refine ia ?_; refine j5 ?_; refine i0 ?_; refine i0 ?_; refine dm ?_; refine dm ?_; (apply ay; · exact bw ah (hcp _)); refine lg ?_; (refine zc ah (hT) ?_; rintro r H' ⟨rfl, F2, b1, b2⟩); refine aq ?_; rotate_left; exact absurd hc aj)
          all_goals try (exfalso; omega)
          all_goals (
            have hf2 := hT2.c; have f8 := hf2.list.len; obtain ⟨off3, k3, _⟩ := b1.core; have o3 := b2.o; have s3 := b2.os; rw [o3] at k3; unfold bo at k3
            have hS : ACalls Try.prog 40 [.ptr F.o 0, .ptr F.os 0, .agg [mI 5, mI 0, mI m.from_, uI 0, uI 0, uI t.c.list.length, uI 0, .raw (.slice none 0 0), .raw (.slice none 0 0)]] H' fun r Hx => r = .tup [] /\ ∃ F3, SAt Hx F3 (t.out { Ag.msg0 5 m.from_ with op := t.c.list.length }) /\ Turn F2.l H' F2 F3 Hx := by
              have h1 := qo _ F2 t { Ag.msg0 5 m.from_ with op := t.c.list.length } b1 hf2 (by have := hT2.sn; omega)
              rw [o3, s3] at h1; refine h1.weak (WL.cons (W.of rfl) (WL.cons (W.of rfl) (WL.cons ?_ WL.nil))); exact qb (WL.cons (W.of rfl) (WL.cons (W.of rfl) (WL.cons (W.of rfl) (WL.cons (W.of rfl) (WL.cons (W.of rfl) (WL.cons (W.of rfl) (WL.cons (W.of rfl) (WL.cons (W.nils rfl) (WL.cons (W.nilb rfl) WL.nil)))))))))
            have hf3 := (t8 hf2 { Ag.msg0 5 m.from_ with op := t.c.list.length }).c
            focus (refine j5 ?_; refine i0 ?_; refine i0 ?_; refine dm ?_; refine cw ?_; refine nh ?_; (apply ay; · exact fu rfl (by omega)); refine se ?_; refine lg ?_; (refine zc ah (hS) ?_; rintro r H' ⟨rfl, F3, d1, d2⟩); refine aq ?_)
            all_goals try (exfalso; omega)
            exact ⟨_, _, ba, rfl, F3, d1, (t1.trans b2).trans d2, hf3, rfl⟩)
        · rw [if_neg hq]
          focus (refine az ?_; refine ez ?_; refine ae rfl (kj rfl rfl) ?_; refine aq ?_; refine ax rfl (fun hc => ?_) (fun hc => ?_); refine bf ?_; refine cj ?_; refine dm ?_; refine cw ?_; refine cw ?_; refine oq ?_; (apply ay; · exact bw ah (hB _)); refine ju ?_; refine de ?_; refine mf rfl ?_; refine di ?_; refine ee ?_; refine bf ?_; refine cj ?_; refine cw ?_; refine dm ?_; refine mo ?_; refine bj ?_; refine zt2 rfl rfl rfl (fun hc => ?_) (fun hc => ?_); refine dh ?_; refine nh ?_; refine cx ?_; refine dd ?_; refine nh ?_; refine cx ?_; refine nv ?_; refine jh ?_; refine gh ?_; intro hc; rotate_left; exact absurd hc aj; exact absurd hc aj)
          all_goals try (exfalso; omega)
          obtain ⟨F2, b1, b2⟩ : ∃ F2, SAt H1 F2 s1 /\ Turn F.l H F F2 H1 := ⟨F, a1, t1⟩; have hT2 : Sm 0 0 s1 s1 := ⟨hf1, rfl, rfl, Nat.le_refl _, Nat.le_refl _⟩; generalize hts : s1 = t at *; have hf2 := hT2.c; have f8 := hf2.list.len; obtain ⟨off3, k3, _⟩ := b1.core; have o3 := b2.o; have s3 := b2.os; rw [o3] at k3; unfold bo at k3
          have hS : ACalls Try.prog 40 [.ptr F.o 0, .ptr F.os 0, .agg [mI 5, mI 0, mI m.from_, uI 0, uI 0, uI t.c.list.length, uI 0, .raw (.slice none 0 0), .raw (.slice none 0 0)]] H1 fun r Hx => r = .tup [] /\ ∃ F3, SAt Hx F3 (t.out { Ag.msg0 5 m.from_ with op := t.c.list.length }) /\ Turn F2.l H1 F2 F3 Hx := by
            have h1 := qo _ F2 t { Ag.msg0 5 m.from_ with op := t.c.list.length } b1 hf2 (by have := hT2.sn; omega)
            rw [o3, s3] at h1; refine h1.weak (WL.cons (W.of rfl) (WL.cons (W.of rfl) (WL.cons ?_ WL.nil))); exact qb (WL.cons (W.of rfl) (WL.cons (W.of rfl) (WL.cons (W.of rfl) (WL.cons (W.of rfl) (WL.cons (W.of rfl) (WL.cons (W.of rfl) (WL.cons (W.of rfl) (WL.cons (W.nils rfl) (WL.cons (W.nilb rfl) WL.nil)))))))))
          have hf3 := (t8 hf2 { Ag.msg0 5 m.from_ with op := t.c.list.length }).c
          focus (refine j5 ?_; refine i0 ?_; refine i0 ?_; refine dm ?_; refine cw ?_; refine nh ?_; (apply ay; · exact fu rfl (by omega)); refine se ?_; refine lg ?_; (refine zc ah (hS) ?_; rintro r H' ⟨rfl, F3, d1, d2⟩); refine aq ?_)
          all_goals try (exfalso; omega)
          exact ⟨_, _, ba, rfl, F3, d1, b2.trans d2, hf3, rfl⟩
    · have hp : preFin s1 m = s1 := by unfold preFin; rw [if_neg hk4]
      have hh : s1.heard m = s1.fin m := by unfold Ag.St.heard; rw [if_neg hk4]
      rw [hp, hh]
      focus (refine az ?_; refine ez ?_; refine ae rfl (kj rfl rfl) ?_; refine aq ?_; refine gh ?_; intro hc)
      all_goals try (exfalso; omega)
      exact ⟨_, _, ba, rfl, F, a1, t1, hf1, rfl⟩
  rintro R1 H2 ⟨hh, F2, c1, c2, hf2, rfl⟩; rw [hh]; clear hh a1 k1 t1 hf1 hsz hsz2 f1 f2 f3 f4 f5 f6; generalize preFin s1 m = u at *; obtain ⟨off, k1, k2⟩ := c1.core; have f2 := hf2.list.len; have f3 := hf2.agr; have f4 := hf2.last; unfold Ag.mostView at f4; rw [c2.o] at k1 k2; unfold bo at k1; by_cases e : u.c.last = m.view
  · have hfin : u.fin m = { u with c := { u.c with agreed := max u.c.agreed (min m.commit u.c.list.length) } } := by unfold Ag.St.fin; rw [if_pos e]
    rw [hfin]; obtain ⟨d1, d2⟩ := k2 { u.c with agreed := max u.c.agreed (min m.commit u.c.list.length) } rfl rfl rfl rfl rfl
    unfold bo at d1 d2; clear k2 hfin
    focus (refine cj ?_; refine cw ?_; refine dm ?_; (apply ay; · exact ml rfl rfl); refine de ?_; refine ax rfl (fun hc => ?_) (fun hc => ?_); refine j5 ?_; refine i0 ?_; refine cw ?_; refine dm ?_; refine cw ?_; refine nh ?_; (apply ay; · exact fu rfl (by omega)); (apply ay; · exact ahb rfl rfl); (apply ay; · exact qs rfl (by omega) (by omega)); (apply ay; · exact aa7 rfl rfl); (apply ay; · exact md rfl); (apply ay; · exact kg rfl); refine lg ?_; refine jc ?_; rotate_left; exact absurd hc aj)
    all_goals try (exfalso; omega)
    have em : max (u.c.agreed : Int) ((min m.commit u.c.list.length : Nat) : Int) = ((max u.c.agreed (min m.commit u.c.list.length) : Nat) : Int) := by omega
    rw [em]; exact ⟨.inr rfl, _, _, _, Ent.refl _ _, ret0 rfl, rfl, F2, d1, c2.trans (d2 : Turn F2.l H2 F2 F2 _)⟩
  · have hfin : u.fin m = u := by unfold Ag.St.fin; rw [if_neg e]
    rw [hfin]
    focus (refine cj ?_; refine cw ?_; refine dm ?_; (apply ay; · exact ml rfl rfl); refine de ?_; refine jm ?_; intro hc; refine di ?_)
    all_goals try (exfalso; omega)
    exact ⟨.inr rfl, _, _, _, Ent.refl _ _, ret0 rfl, rfl, F2, c1, c2⟩
end Go.Proofs.Ytbciofnejefkiaa
namespace Go.Proofs.Ytbciofnejefkiaa
open Go Go.Am Go.Proofs
theorem SAt.rehold {H : AHeap} {F : Ob} {s : Ag.St} (h : SAt H F s) {c' : Ag.Co} (es : MI) (hes : HeldM es c') (e1 : c' = { s.c with held := c'.held }) : SAt (H.set F.oh (es.ao .i64)) F { s with c := c' } /\ Turn F.l H F F (H.set F.oh (es.ao .i64)) := by
  obtain ⟨⟨⟨off, xs, hco, hw, hx1, hx2⟩, ⟨eg, hg, hg2⟩, ⟨eh, hh, hh2⟩⟩, hst, hsv, hsn, nd⟩ := h; have n0 := nd; obtain ⟨n1, n2, n3, n4, n5, n6, n7, n8, n9, n10, n11, n12, n13, n14, n15, n16, n17, n18, n19, n20, n21⟩ := nd; rw [e1] at hes ⊢; exact ⟨⟨⟨⟨off, xs, aa, aa, hx1, hx2⟩, ⟨eg, aa, ⟨hg2.get, hg2.len⟩⟩, ⟨es, aa, hes⟩⟩, aa, aa, aa, n0⟩, ⟨rfl, rfl, fun p hp => .inl hp, fun p y hp hF => arl (fun e => hF (by simp [Ob.l, e])) hp⟩⟩
theorem CFine.hold {c : Ag.Co} (h : CFine c) {q v : Nat} (hq : q < c.n) (hv : v < 2 ^ 64) : CFine { c with held := Ag.upd c.held q (some v) } := ⟨h.me, h.n, h.view, h.last, h.list, h.agr, h.wait, h.quiet, h.got, fun p x hx => by
  have hx' : Ag.upd c.held q (some v) p = some x := hx; unfold Ag.upd at hx'; split at hx'
  · next e => cases hx'; exact ⟨by rw [e]; exact hq, hv⟩
  · exact h.held p x hx'⟩
theorem alg {H : AHeap} {o p q : Nat} {x y z : AO} (h : H o = none) (hp : p ≠ o) (hq : q ≠ o) : ∀ r w, ((H.set p y).set q z) r = some w -> r ≠ o /\ (((H.set o x).set p y).set q z) r = some w := fun r w hr => by
  have e : r ≠ o := fun e => by
    rw [e, aru _ hq.symm, aru _ hp.symm, h] at hr; cases hr
  refine ⟨e, ?_⟩; by_cases e2 : r = q
  · subst e2; rw [arn] at hr ⊢; exact hr
  · rw [aru _ e2] at hr ⊢
    by_cases e3 : r = p
    · subst e3; rw [arn] at hr ⊢; exact hr
    · rw [aru _ e3] at hr ⊢
      exact arl e hr
theorem aom {H : AHeap} {o p q : Nat} {x y : AO} (h : ((H.set o x).set p y) q = none) : (H.set p y) q = none := by
  have h1 := arm (arm h); have h2 : q ≠ p := arp h; rw [aru _ h2]; exact h1
theorem aho {m : Mg} (hm : m.Ok) (h : Ag.listed m.ents = true) : LF m.ents := by
  unfold Ag.listed at h; simp only [Bool.and_eq_true, decide_eq_true_eq, List.all_eq_true] at h; refine ⟨fun e he => ⟨hm.ents e he, ?_⟩, h.2⟩
  have := h.1.1 e he; simp only [Ag.may, Bool.and_eq_true, decide_eq_true_eq] at this; exact this.2
def wantK (s : Ag.St) (l : List En) (k : Nat) : Ag.St := (l.take k).foldl Ag.St.want s
theorem ajd {s : Ag.St} {l : List En} {k : Nat} {e : En} (h : l[k]? = some e) : wantK s l (k + 1) = (wantK s l k).want e := by
  unfold wantK; rw [List.take_add_one, h, List.foldl_append]; rfl
theorem ac5 {s : Ag.St} (h : CFine s.c) {l : List En} (hl : ∀ e ∈ l, e.Ok) : ∀ k, k <= l.length -> Sm k (7 * k) s (wantK s l k)
  | 0, _ => ⟨h, rfl, rfl, Nat.le_refl _, Nat.le_refl _⟩
  | k + 1, hk => by
    have ih := ac5 h hl k (by omega)
    have hg : l[k]? = some l[k] := List.getElem?_eq_getElem (by omega)
    rw [ajd hg]; exact (ih.trans (aiq ih.c (hl _ (List.getElem_mem _)))).more (by omega) (by omega)
end Go.Proofs.Ytbciofnejefkiaa
namespace Go.Proofs.Ytbciofnejefkiaa
open Go Go.Am Go.Proofs
open Classical in
theorem acq (c : Ag.Co) (m : Mg) (h : c.odd m) : c.get m = ⟨c, [], []⟩ := by unfold Ag.Co.get; dsimp only; rw [if_pos h]
noncomputable def get1 (c : Ag.Co) (m : Mg) : Ag.St := if c.view < m.view then (Ag.St.promise ⟨c, [], []⟩ m.view).vote else ⟨c, [], []⟩
def get2 (s : Ag.St) (m : Mg) : Ag.St :=
  if m.kind = 3 then (if s.c.view % s.c.n = s.c.me /\ m.last <= m.view then s.count m.from_.toNat ⟨m.last, m.ents⟩ else s)
    else if m.kind = 5 then
      (if s.c.lead then { s with c := Ag.Co.settle { s.c with held := Ag.upd s.c.held m.from_.toNat (some (max ((s.c.held m.from_.toNat).getD 0) m.op)) } } else s)
    else if m.kind = 4 \/ m.kind = 6 then (if m.from_ = ((s.c.view % s.c.n : Nat) : Int) then s.hear m else s)
    else s
theorem tu (c : Ag.Co) (m : Mg) (h : ¬ c.odd m) (hk : m.kind = 1) : c.get m = wantK ⟨c, [], []⟩ m.ents m.ents.length := by
  unfold Ag.Co.get wantK; dsimp only; rw [if_neg h, if_pos hk, List.take_length]
theorem tv (c : Ag.Co) (m : Mg) (h : ¬ c.odd m) (hk : ¬ m.kind = 1) (hv : m.view < (get1 c m).c.view) : c.get m = get1 c m := by
  unfold Ag.Co.get; dsimp only; rw [if_neg h, if_neg hk]; show (if m.view < (get1 c m).c.view then get1 c m else get2 (get1 c m) m) = _; rw [if_pos hv]
theorem pz (c : Ag.Co) (m : Mg) (h : ¬ c.odd m) (hk : ¬ m.kind = 1) (hv : ¬ m.view < (get1 c m).c.view) : c.get m = get2 (get1 c m) m := by
  unfold Ag.Co.get; dsimp only; rw [if_neg h, if_neg hk]; show (if m.view < (get1 c m).c.view then get1 c m else get2 (get1 c m) m) = _; rw [if_neg hv]
theorem ads {c : Ag.Co} (h : CFine c) {m : Mg} (hv : m.view <= Ag.mostView) : Sm 3 7 ⟨c, [], []⟩ (get1 c m) := by
  unfold get1; split
  · have k := ve (s := ⟨c, [], []⟩) h hv
    exact (k.trans (ab1 k.c)).more (by omega) (by omega)
  · exact ⟨h, rfl, rfl, Nat.zero_le _, Nat.zero_le _⟩
theorem Get_calls' (H : AHeap) (F : Ob) (c : Ag.Co) (m : Mg) (h : CAt H F c) (nd : NdC F) (hf : CFine c) (hm : m.Ok) (hl : m.ents.length <= 1000000) (hb : m.body.length <= 1000000) (hr : ∀ e ∈ m.ents, e.row.length <= 1000000000) :
    ACalls Try.prog 27 [.ptr F.o 0, .agg m.cells] H fun r H' => r = stepA (c.get m) /\ ∃ F', CAt H' F' (c.get m).c /\ TurnK H F F' H' := by
  obtain ⟨off0, _, hco0, _⟩ := h.core; unfold bo at hco0; refine gm Try.func27 rfl (by decide) ?_
  focus (refine az ?_; refine zb1 rfl rfl rfl (fun oN hoN => ?_); refine cz rfl rfl rfl (fun oN hoN => ?_); refine il ?_; refine cz rfl rfl rfl (fun oN hoN => ?_); refine aq ?_)
  rename_i oM hoM oR hoR
  have hoR2 := arm hoR; have hRM : oR ≠ oM := arp hoR; have hSM : oN ≠ oM := arp (arm hoN); have hoS2 := aom hoN; refine dy (R' := [(0, .ptr F.o 0), (3, .pce m.cells 0), (4, .ptr oR 0), (5, .ptr oN 0)]) ((aro 3 m.cells rfl aa df (alg hoM hRM hSM)).trans (Ent.sub _ (by (repeat' (first | exact RSub.nil _ | apply RSub.cons)); all_goals rfl))) ?_
  refine acf h nd hoR2 hoS2 (fun H1 F1 a1 b1 e1 z1 => ?_)
  subst e1; have hco := b1.fr _ _ hco0; clear h hco0 hoN hoM hoR hRM hSM hoS2; have hodd : c.odd m -> c.get m = ⟨c, [], []⟩ := acq c m; have f1 := hf.n; have f2 := hf.me; have f3 := hf.view; unfold Ag.mostView at f3; have g1 := hm.kind; have g2 := hm.from_; have g3 := hm.to; have g8 := hm.view; have g9 := hm.last; have g6 := hm.op; have hGd := fun H => Good_calls H m hm (by omega) (by omega)
  have hLi := fun H => acp H m.ents (by omega) (fun e he => by have := hr e he; omega)
  refine bf ?_; refine mg (fun R1 H2 => ¬ c.odd m /\ H1 = H2 /\ R1 = [(0, .ptr F.o 0), (3, .pce m.cells 0), (4, .ptr oR 0), (5, .ptr F1.os 0)]) ?_ ?_
  · by_cases p1 : m.good
    rotate_left
    · rw [decide_eq_false p1] at hGd
      rw [hodd (.inl p1)]
      focus (refine cj ?_; refine pj ?_; (apply ay; · exact bw ah (hGd _)); refine ju ?_; refine bj ?_; refine bx ?_; refine je ?_; refine zt4 rfl rfl ?_; refine da ?_; refine bj ?_; refine bx ?_; refine je ?_; refine zt4 rfl rfl ?_; refine da ?_; refine bj ?_; refine bx ?_; refine je ?_; refine zt4 rfl rfl ?_; refine da ?_; refine bj ?_; refine je ?_; refine zt4 rfl rfl ?_; refine da ?_; refine bj ?_; refine bx ?_; refine da ?_; refine de ?_)
      all_goals try (exfalso; omega)
      obtain ⟨H3, hE, q1, q2, q3, q4, q5⟩ := b1.done (Turn.refl _ _ _) a1 z1; refine dy (H' := H3) (hE _) ?_; clear hE
      focus (refine ia ?_; refine az ?_; refine i5 ?_; refine dv ?_; refine db ?_)
      all_goals try (exfalso; omega)
      exact ⟨.inl rfl, _, _, _, aro (H0 := H3.erase oR) 4 [saveA _, sendA _] rfl aa df j0, jp rfl (dr (m := 2) rfl rfl rfl (by decide)), rfl, F1, q4, q5⟩
    rw [decide_eq_true p1] at hGd; by_cases p2 : m.to = (c.me : Int)
    rotate_left
    · rw [hodd (.inr (.inl p2))]
      focus (refine cj ?_; refine pj ?_; (apply ay; · exact bw ah (hGd _)); refine ju ?_; refine eb ?_; refine dh ?_; refine dd ?_; (apply ay; · exact nu rfl rfl); refine ie ?_; refine zt2 rfl rfl rfl (fun hc => ?_) (fun hc => ?_); exact absurd hc aj; refine bx ?_; refine je ?_; refine da ?_; refine bj ?_; refine bx ?_; refine je ?_; refine zt4 rfl rfl ?_; refine da ?_; refine bj ?_; refine je ?_; refine zt4 rfl rfl ?_; refine da ?_; refine bj ?_; refine bx ?_; refine da ?_; refine de ?_)
      all_goals try (exfalso; omega)
      obtain ⟨H3, hE, q1, q2, q3, q4, q5⟩ := b1.done (Turn.refl _ _ _) a1 z1; refine dy (H' := H3) (hE _) ?_; clear hE
      focus (refine ia ?_; refine az ?_; refine i5 ?_; refine dv ?_; refine db ?_)
      all_goals try (exfalso; omega)
      exact ⟨.inl rfl, _, _, _, aro (H0 := H3.erase oR) 4 [saveA _, sendA _] rfl aa df j0, jp rfl (dr (m := 2) rfl rfl rfl (by decide)), rfl, F1, q4, q5⟩
    by_cases p3 : m.from_ = (c.me : Int)
    · rw [hodd (.inr (.inr (.inl p3)))]
      focus (refine cj ?_; refine pj ?_; (apply ay; · exact bw ah (hGd _)); refine ju ?_; refine eb ?_; refine dh ?_; refine dd ?_; (apply ay; · exact nu rfl rfl); refine ie ?_; refine zt2 rfl rfl rfl (fun hc => ?_) (fun hc => ?_); refine dh ?_; refine dd ?_; (apply ay; · exact kj rfl rfl); refine ie ?_; refine zt2 rfl rfl rfl (fun hc => ?_) (fun hc => ?_); exact absurd hc aj; refine bx ?_; refine je ?_; refine da ?_; refine bj ?_; refine je ?_; refine zt4 rfl rfl ?_; refine da ?_; refine bj ?_; refine bx ?_; refine da ?_; refine de ?_; rotate_left; exact absurd hc aj)
      all_goals try (exfalso; omega)
      obtain ⟨H3, hE, q1, q2, q3, q4, q5⟩ := b1.done (Turn.refl _ _ _) a1 z1; refine dy (H' := H3) (hE _) ?_; clear hE
      focus (refine ia ?_; refine az ?_; refine i5 ?_; refine dv ?_; refine db ?_)
      all_goals try (exfalso; omega)
      exact ⟨.inl rfl, _, _, _, aro (H0 := H3.erase oR) 4 [saveA _, sendA _] rfl aa df j0, jp rfl (dr (m := 2) rfl rfl rfl (by decide)), rfl, F1, q4, q5⟩
    by_cases p4 : (c.n : Int) <= m.from_
    · rw [hodd (.inr (.inr (.inr (.inl p4))))]
      focus (refine cj ?_; refine pj ?_; (apply ay; · exact bw ah (hGd _)); refine ju ?_; refine eb ?_; refine dh ?_; refine dd ?_; (apply ay; · exact nu rfl rfl); refine ie ?_; refine zt2 rfl rfl rfl (fun hc => ?_) (fun hc => ?_); refine dh ?_; refine dd ?_; (apply ay; · exact kj rfl rfl); refine ie ?_; refine zt2 rfl rfl rfl (fun hc => ?_) (fun hc => ?_); refine dh ?_; refine dd ?_; (apply ay; · exact ky rfl rfl); refine ie ?_; refine zt2 rfl rfl rfl (fun hc => ?_) (fun hc => ?_); exact absurd hc aj; refine je ?_; refine da ?_; refine bj ?_; refine bx ?_; refine da ?_; refine de ?_; rotate_left; exact absurd hc aj; exact absurd hc aj)
      all_goals try (exfalso; omega)
      obtain ⟨H3, hE, q1, q2, q3, q4, q5⟩ := b1.done (Turn.refl _ _ _) a1 z1; refine dy (H' := H3) (hE _) ?_; clear hE
      focus (refine ia ?_; refine az ?_; refine i5 ?_; refine dv ?_; refine db ?_)
      all_goals try (exfalso; omega)
      exact ⟨.inl rfl, _, _, _, aro (H0 := H3.erase oR) 4 [saveA _, sendA _] rfl aa df j0, jp rfl (dr (m := 2) rfl rfl rfl (by decide)), rfl, F1, q4, q5⟩
    by_cases p5 : 1099511627776 < m.view
    · rw [hodd (.inr (.inr (.inr (.inr (.inl p5)))))]
      focus (refine cj ?_; refine pj ?_; (apply ay; · exact bw ah (hGd _)); refine ju ?_; refine eb ?_; refine dh ?_; refine dd ?_; (apply ay; · exact nu rfl rfl); refine ie ?_; refine zt2 rfl rfl rfl (fun hc => ?_) (fun hc => ?_); refine dh ?_; refine dd ?_; (apply ay; · exact kj rfl rfl); refine ie ?_; refine zt2 rfl rfl rfl (fun hc => ?_) (fun hc => ?_); refine dh ?_; refine dd ?_; (apply ay; · exact ky rfl rfl); refine ie ?_; refine zt2 rfl rfl rfl (fun hc => ?_) (fun hc => ?_); refine dh ?_; refine nv ?_; refine ie ?_; refine zt2 rfl rfl rfl (fun hc => ?_) (fun hc => ?_); exact absurd hc aj; refine je ?_; refine zt4 rfl rfl ?_; refine da ?_; refine de ?_; rotate_left; exact absurd hc aj; exact absurd hc aj; exact absurd hc aj)
      all_goals try (exfalso; omega)
      obtain ⟨H3, hE, q1, q2, q3, q4, q5⟩ := b1.done (Turn.refl _ _ _) a1 z1; refine dy (H' := H3) (hE _) ?_; clear hE
      focus (refine ia ?_; refine az ?_; refine i5 ?_; refine dv ?_; refine db ?_)
      all_goals try (exfalso; omega)
      exact ⟨.inl rfl, _, _, _, aro (H0 := H3.erase oR) 4 [saveA _, sendA _] rfl aa df j0, jp rfl (dr (m := 2) rfl rfl rfl (by decide)), rfl, F1, q4, q5⟩
    cases p6 : Ag.listed m.ents with
    | false =>
      rw [p6] at hLi; rw [hodd (.inr (.inr (.inr (.inr (.inr p6)))))]
      focus (refine cj ?_; refine pj ?_; (apply ay; · exact bw ah (hGd _)); refine ju ?_; refine eb ?_; refine dh ?_; refine dd ?_; (apply ay; · exact nu rfl rfl); refine ie ?_; refine zt2 rfl rfl rfl (fun hc => ?_) (fun hc => ?_); refine dh ?_; refine dd ?_; (apply ay; · exact kj rfl rfl); refine ie ?_; refine zt2 rfl rfl rfl (fun hc => ?_) (fun hc => ?_); refine dh ?_; refine dd ?_; (apply ay; · exact ky rfl rfl); refine ie ?_; refine zt2 rfl rfl rfl (fun hc => ?_) (fun hc => ?_); refine dh ?_; refine nv ?_; refine ie ?_; refine zt2 rfl rfl rfl (fun hc => ?_) (fun hc => ?_); refine dh ?_; (apply ay; · exact bw ah (hLi _)); refine cx ?_; refine ju ?_; refine jh ?_; rotate_left; exact absurd hc aj; exact absurd hc aj; exact absurd hc aj; exact absurd hc aj)
      all_goals try (exfalso; omega)
      obtain ⟨H3, hE, q1, q2, q3, q4, q5⟩ := b1.done (Turn.refl _ _ _) a1 z1; refine dy (H' := H3) (hE _) ?_; clear hE
      focus (refine ia ?_; refine az ?_; refine i5 ?_; refine dv ?_; refine db ?_)
      all_goals try (exfalso; omega)
      exact ⟨.inl rfl, _, _, _, aro (H0 := H3.erase oR) 4 [saveA _, sendA _] rfl aa df j0, jp rfl (dr (m := 2) rfl rfl rfl (by decide)), rfl, F1, q4, q5⟩
    | true =>
      rw [p6] at hLi
      focus (refine cj ?_; refine pj ?_; (apply ay; · exact bw ah (hGd _)); refine ju ?_; refine eb ?_; refine dh ?_; refine dd ?_; (apply ay; · exact nu rfl rfl); refine ie ?_; refine zt2 rfl rfl rfl (fun hc => ?_) (fun hc => ?_); refine dh ?_; refine dd ?_; (apply ay; · exact kj rfl rfl); refine ie ?_; refine zt2 rfl rfl rfl (fun hc => ?_) (fun hc => ?_); refine dh ?_; refine dd ?_; (apply ay; · exact ky rfl rfl); refine ie ?_; refine zt2 rfl rfl rfl (fun hc => ?_) (fun hc => ?_); refine dh ?_; refine nv ?_; refine ie ?_; refine zt2 rfl rfl rfl (fun hc => ?_) (fun hc => ?_); refine dh ?_; (apply ay; · exact bw ah (hLi _)); refine cx ?_; refine ju ?_; refine jh ?_; refine mf rfl ?_; refine cy ?_; rotate_left; exact absurd hc aj; exact absurd hc aj; exact absurd hc aj; exact absurd hc aj)
      all_goals try (exfalso; omega)
      refine ⟨_, _, ba, ?_, rfl, rfl⟩; unfold Ag.Co.odd; rw [p6]; rintro (e | e | e | e | e | e)
      · exact e p1
      · exact e p2
      · exact p3 e
      · exact p4 e
      · exact p5 e
      · cases e
  rintro R1 H2 ⟨hno, rfl, rfl⟩
  have hp : m.good /\ m.to = (c.me : Int) /\ ¬ m.from_ = (c.me : Int) /\ ¬ (c.n : Int) <= m.from_ /\ ¬ 1099511627776 < m.view /\ Ag.listed m.ents = true := by
    unfold Ag.Co.odd at hno; simp only [not_or, Decidable.not_not, Bool.not_eq_false] at hno; obtain ⟨e1, e2, e3, e4, e5, e6⟩ := hno; exact ⟨e1, e2, e3, e4, e5, e6⟩
  obtain ⟨p1, p2, p3, p4, p5, p6⟩ := hp; have hL := aho hm p6; have h200 := hL.len; have h16 := hL.ok; have p0 : 0 <= m.from_ := p1.1.2.1.1; clear hGd hLi hodd p1 p6; refine bf ?_; refine mg (fun R1 H2 => ¬ m.kind = 1 /\ H1 = H2 /\ R1 = [(0, .ptr F.o 0), (3, .pce m.cells 0), (4, .ptr oR 0), (5, .ptr F1.os 0)]) ?_ ?_
  · by_cases k1 : m.kind = 1
    · rw [tu c m hno k1]
      focus (refine az ?_; refine ez ?_; refine ae rfl (kj rfl rfl) ?_; refine aq ?_; refine ax rfl (fun hc => ?_) (fun hc => ?_); refine sw ?_; refine eu ?_; refine ig ?_; rotate_left; exact absurd hc aj)
      all_goals try (exfalso; omega)
      refine cv (fun mm R' H2 => ∃ (i : Nat) (F2 : Ob), SAt H2 F2 (wantK ⟨c, [], []⟩ m.ents i) /\ Turn F1.l H1 F1 F2 H2 /\ R' = [(0, .ptr F.o 0), (4, .ptr oR 0), (5, .ptr F1.os 0), (54, lsE m.ents), (55, .raw (.int .i64 (m.ents.length : Int))), (56, .raw (.int .i64 (i : Int)))] /\ i + mm = m.ents.length) ?_ ?_
      · exact ⟨m.ents.length, _, _, ba, 0, F1, a1, Turn.refl _ _ _, rfl, by omega⟩
      clear hco; rintro mm R0 H2 ⟨i, F2, c1, c2, rfl, hi⟩; have hsm := ac5 (s := ⟨c, [], []⟩) hf hm.ents i (by omega)
      have l1 : (wantK ⟨c, [], []⟩ m.ents i).save.length <= i := by have := hsm.sv; simp only [List.length_nil] at this; omega
      have l2 : (wantK ⟨c, [], []⟩ m.ents i).send.length <= 7 * i := by have := hsm.sn; simp only [List.length_nil] at this; omega
      have hf1 := hsm.c; clear hsm; by_cases hlt : i < m.ents.length
      · have hg : m.ents[i]? = some m.ents[i] := List.getElem?_eq_getElem hlt
        obtain ⟨e1, e2⟩ := h16 _ (List.getElem_mem hlt); have hsuc := ajd (s := ⟨c, [], []⟩) hg; have hge := oc hg; generalize m.ents[i] = e at *; generalize wantK ⟨c, [], []⟩ m.ents i = u at *; have o2 := c2.o.trans b1.o; have s2 := c2.os
        focus (refine br ?_; refine ax rfl (fun hc => ?_) (fun hc => ?_); refine ct ?_; refine ic ?_; refine nk ?_; refine cz rfl rfl rfl (fun oN hoN => ?_); refine jx ?_; refine aq ?_; rotate_left; exact absurd hc aj)
        have hW := agm _ F2 u e (c1.set (x := .cel e.cells) (c1.notin hoN)) hf1 (by omega) e1
        have t2 := c2.set1 (x := .cel e.cells) hoN; obtain ⟨w1, w2, w3⟩ := hf1.wanted e1; have hwant : u.want e = if (u.c.wanted e).2 = true then Ag.St.grow { u with c := (u.c.wanted e).1 } else { u with c := (u.c.wanted e).1 } := rfl
        rw [o2] at hW; generalize u.c.wanted e = x at *
        cases hx : x.2 with
        | true =>
          rw [hx] at hW hwant; rw [if_pos rfl] at hwant
          focus (refine dg ?_; refine pi ?_; (refine zc ah (hW) ?_; rintro r H' ⟨rfl, F3, c3, c4⟩); refine aq ?_)
          have hG := xy _ F3 _ c3 w1 (by show u.save.length <= _; omega) (by show u.send.length <= _; omega)
          rw [c4.o, c4.os, o2, s2] at hG; clear hW
          focus (refine ia ?_; refine fv ?_; (refine zc ah (hG) ?_; rintro r H' ⟨rfl, F4, c5, c6⟩); refine bb ?_; refine dl ?_)
          all_goals try (exfalso; omega)
          exact ⟨mm - 1, _, _, by omega, ba, i + 1, F4, by rw [hsuc, hwant]; exact c5, (t2.trans c4).trans c6, rfl, by omega⟩
        | false =>
          rw [hx] at hW hwant; rw [if_neg (by simp)] at hwant
          focus (refine dg ?_; refine pi ?_; (refine zc ah (hW) ?_; rintro r H' ⟨rfl, F3, c3, c4⟩); refine fm ?_; refine di ?_; refine dl ?_)
          all_goals try (exfalso; omega)
          exact ⟨mm - 1, _, _, by omega, ba, i + 1, F3, by rw [hsuc, hwant]; exact c3, t2.trans c4, rfl, by omega⟩
      obtain rfl : i = m.ents.length := by omega
      obtain ⟨H3, hE, q1, q2, q3, q4, q5⟩ := b1.done c2 c1 z1; refine dy (H' := H3) (hE _) ?_; clear hE
      focus (refine br ?_; refine c8 ?_; intro hc; refine az ?_; refine i5 ?_; refine dv ?_; refine db ?_)
      all_goals try (exfalso; omega)
      exact ⟨.inl rfl, _, _, _, aro (H0 := H3.erase oR) 4 [saveA _, sendA _] rfl aa df j0, jp rfl (dr (m := 2) rfl rfl rfl (by decide)), rfl, F2, q4, q5⟩
    · focus (refine az ?_; refine ez ?_; refine ae rfl (kj rfl rfl) ?_; refine aq ?_; refine gh ?_; intro hc)
      all_goals try (exfalso; omega)
      exact ⟨_, _, ba, k1, rfl, rfl⟩
  rintro R1 H2 ⟨k1, rfl, rfl⟩; have hsm := ads hf (m := m) (by unfold Ag.mostView; omega)
  refine bf ?_; refine mg (fun R1 H2 => ∃ F2, SAt H2 F2 (get1 c m) /\ Turn F1.l H1 F1 F2 H2 /\ R1 = [(0, .ptr F.o 0), (3, .pce m.cells 0), (4, .ptr oR 0), (5, .ptr F1.os 0)]) ?_ ?_
  · by_cases v1 : c.view < m.view
    · have hg1 : get1 c m = (Ag.St.promise ⟨c, [], []⟩ m.view).vote := by unfold get1; rw [if_pos v1]
      rw [hg1]; clear hg1 hsm; have hP := ag8 H1 F1 ⟨c, [], []⟩ m.view a1 hf (Nat.zero_le _) (by unfold Ag.mostView; omega)
      have hps := ve (s := ⟨c, [], []⟩) hf (v := m.view) (by unfold Ag.mostView; omega)
      rw [b1.o] at hP; generalize Ag.St.promise ⟨c, [], []⟩ m.view = u at *
      focus (refine cj ?_; refine dm ?_; refine cw ?_; refine nv ?_; refine de ?_; refine ax rfl (fun hc => ?_) (fun hc => ?_); refine dg ?_; refine ez ?_; (refine zc ah (hP) ?_; rintro r H' ⟨rfl, F2, c1, c2⟩); refine aq ?_; rotate_left; exact absurd hc aj)
      all_goals try (exfalso; omega)
      have hV := ab8 _ F2 u c1 hps.c (by have := hps.sv; simp only [List.length_nil] at this; omega) (by have := hps.sn; simp only [List.length_nil] at this; omega)
      rw [c2.o, c2.os, b1.o] at hV; clear hP
      focus (refine fv ?_; (refine zc ah (hV) ?_; rintro r H' ⟨rfl, F3, c3, c4⟩); refine aq ?_)
      all_goals try (exfalso; omega)
      exact ⟨_, _, ba, F3, c3, c2.trans c4, rfl⟩
    · have hg1 : get1 c m = ⟨c, [], []⟩ := by unfold get1; rw [if_neg v1]
      rw [hg1]
      focus (refine cj ?_; refine dm ?_; refine cw ?_; refine nv ?_; refine de ?_; refine gh ?_; intro hc)
      all_goals try (exfalso; omega)
      exact ⟨_, _, ba, F1, a1, Turn.refl _ _ _, rfl⟩
  rintro R1 H2 ⟨F2, c1, c2, rfl⟩; have hpast := tv c m hno k1; have hnow := pz c m hno k1; have hf1 := hsm.c; have hn1 : (get1 c m).c.n = c.n := hsm.n; have l1 : (get1 c m).save.length <= 3 := hsm.sv; have l2 : (get1 c m).send.length <= 7 := hsm.sn; have o2 := c2.o.trans b1.o; have s2 := c2.os; clear hsm hco a1; generalize get1 c m = u at *; obtain ⟨off, hco, _⟩ := c1.core; rw [o2] at hco; unfold bo at hco; have f4 := hf1.view; have f5 := hf1.n; have f6 := hf1.me; unfold Ag.mostView at f4; refine bf ?_; refine mg (fun R1 H4 => ¬ m.view < u.c.view /\ H2 = H4 /\ R1 = [(0, .ptr F.o 0), (3, .pce m.cells 0), (4, .ptr oR 0), (5, .ptr F1.os 0)]) ?_ ?_
  · by_cases v2 : m.view < u.c.view
    · rw [hpast v2]
      focus (refine cj ?_; refine dm ?_; refine cw ?_; refine mo ?_; refine de ?_)
      all_goals try (exfalso; omega)
      obtain ⟨H3, hE, q1, q2, q3, q4, q5⟩ := b1.done c2 c1 z1; refine dy (H' := H3) (hE _) ?_; clear hE
      focus (refine ax rfl (fun hc => ?_) (fun hc => ?_); refine az ?_; refine i5 ?_; refine dv ?_; refine db ?_; rotate_left; exact absurd hc aj)
      all_goals try (exfalso; omega)
      exact ⟨.inl rfl, _, _, _, aro (H0 := H3.erase oR) 4 [saveA _, sendA _] rfl aa df j0, jp rfl (dr (m := 2) rfl rfl rfl (by decide)), rfl, F2, q4, q5⟩
    · focus (refine cj ?_; refine dm ?_; refine cw ?_; refine mo ?_; refine de ?_; refine gh ?_; intro hc)
      all_goals try (exfalso; omega)
      exact ⟨_, _, ba, v2, rfl, rfl⟩
  rintro R1 H4 ⟨v2, rfl, rfl⟩; rw [hnow v2]; clear hpast hnow hno nd; obtain ⟨q, hq⟩ : ∃ q : Nat, m.from_ = (q : Int) := ⟨m.from_.toNat, by omega⟩
  have hq2 : m.from_.toNat = q := by omega
  have hqn : q < u.c.n := by omega
  have hmd := Nat.mod_lt u.c.view (show 0 < u.c.n by omega)
  have hld := fun H h => ace H F.o u.c F2.og F2.oh (.vw F2.ow 3 off u.c.wait.length) u.c.view h (by omega) f5 (by omega)
  have hcp := fun H => (pg H m.ents (by omega) fun e he => by have := (h16 e he).2; omega).seal_cel (i8 (sz := 3) (fun _ => rfl) m.ents)
  unfold bo at hld; by_cases k3 : m.kind = 3
  · skip
    have hC := fun (h : m.last <= m.view) => ae3 H2 F2 u q ⟨m.last, m.ents⟩ c1 hf1 (by omega) (by omega) hqn hL (by unfold Ag.mostView; show m.last <= _; omega)
    have hg2 : get2 u m = if u.c.view % u.c.n = u.c.me /\ m.last <= m.view then u.count q ⟨m.last, m.ents⟩ else u := by unfold get2; rw [if_pos k3, hq2]
    rw [hg2]; rw [o2, s2] at hC; unfold voteA at hC; generalize u.c.view % u.c.n = to at *; by_cases t1 : to = u.c.me /\ m.last <= m.view
    · rw [if_pos t1]
      have hC := hC t1.2; rw [<- hq] at hC
      focus (refine fy ?_; refine gw ?_; refine ax rfl (fun hc => ?_) (fun hc => ?_); refine cj ?_; refine i0 ?_; refine cw ?_; (apply ay; · exact bw ah (hld _ aa)); refine cw ?_; (apply ay; · exact ml rfl rfl); refine bj ?_; refine zt1 rfl rfl rfl (fun hc => ?_) (fun hc => ?_); refine dh ?_; refine dh ?_; (apply ay; · exact mt rfl rfl); refine da ?_; refine de ?_; refine ax rfl (fun hc => ?_) (fun hc => ?_); refine j5 ?_; refine i0 ?_; refine dm ?_; refine dm ?_; refine dm ?_; (apply ay; · exact bw ah (hcp _)); refine se ?_; refine lg ?_; (refine zc ah (hC) ?_; rintro r H' ⟨rfl, F3, c3, c4⟩); refine bb ?_; refine ft ?_; rotate_left; exact absurd hc aj; exact absurd hc aj; exact absurd hc aj)
      all_goals try (exfalso; omega)
      all_goals (
        obtain ⟨H3, hE, q1, q2, q3, q4, q5⟩ := b1.done (c2.trans c4) c3 z1; refine dy (H' := H3) (hE _) ?_; clear hE
        focus (refine az ?_; refine i5 ?_; refine dv ?_)
        all_goals try (exfalso; omega)
        exact ⟨.inl rfl, _, _, _, aro (H0 := H3.erase oR) 4 [saveA _, sendA _] rfl aa df j0, jp rfl (dr (m := 2) rfl rfl rfl (by decide)), rfl, F3, q4, q5⟩)
    · rw [if_neg t1]
      clear hC
      focus (refine fy ?_; refine gw ?_; refine ax rfl (fun hc => ?_) (fun hc => ?_); refine cj ?_; refine i0 ?_; refine cw ?_; (apply ay; · exact bw ah (hld _ aa)); refine cw ?_; (apply ay; · exact ml rfl rfl); refine bj ?_; refine zt1 rfl rfl rfl (fun hc => ?_) (fun hc => ?_); refine dh ?_; refine dh ?_; (apply ay; · exact mt rfl rfl); refine da ?_; refine de ?_; refine jm ?_; intro hc; refine di ?_; refine ft ?_; rotate_left; refine bx ?_; refine jh ?_; refine j6 ?_; refine ft ?_; rotate_left; exact absurd hc aj)
      all_goals try (exfalso; omega)
      all_goals (
        obtain ⟨H3, hE, q1, q2, q3, q4, q5⟩ := b1.done c2 c1 z1; refine dy (H' := H3) (hE _) ?_; clear hE
        focus (refine az ?_; refine i5 ?_; refine dv ?_)
        all_goals try (exfalso; omega)
        exact ⟨.inl rfl, _, _, _, aro (H0 := H3.erase oR) 4 [saveA _, sendA _] rfl aa df j0, jp rfl (dr (m := 2) rfl rfl rfl (by decide)), rfl, F2, q4, q5⟩)
  by_cases k5 : m.kind = 5
  · skip
    cases hl : u.c.lead with
    | false =>
      have hg2 : get2 u m = u := by unfold get2; rw [if_neg k3, if_pos k5, if_neg (by rw [hl]; simp)]
      rw [hg2]; rw [hl] at hco
      focus (refine fy ?_; refine gw ?_; refine cg ?_; intro hc; refine ax rfl (fun hc => ?_) (fun hc => ?_); refine az ?_; refine bl ?_; refine fm ?_; refine di ?_; refine ft ?_; rotate_left; exact absurd hc aj)
      all_goals try (exfalso; omega)
      obtain ⟨H3, hE, q1, q2, q3, q4, q5⟩ := b1.done c2 c1 z1; refine dy (H' := H3) (hE _) ?_; clear hE
      focus (refine az ?_; refine i5 ?_; refine dv ?_)
      all_goals try (exfalso; omega)
      exact ⟨.inl rfl, _, _, _, aro (H0 := H3.erase oR) 4 [saveA _, sendA _] rfl aa df j0, jp rfl (dr (m := 2) rfl rfl rfl (by decide)), rfl, F2, q4, q5⟩
    | true =>
      have hg2 : get2 u m = { u with c := Ag.Co.settle { u.c with held := Ag.upd u.c.held q (some (max ((u.c.held q).getD 0) m.op)) } } := by unfold get2; rw [if_neg k3, if_pos k5, if_pos hl, hq2]
      rw [hg2]; rw [hl] at hco; have c0 := c1; obtain ⟨⟨_, _, ⟨eh, hh, hh2⟩⟩, _, _, _, nd2⟩ := c1; have d1 := nd2.o_oh; rw [o2] at d1; have hget := hh2.get (q : Int); rw [if_pos (by omega), Int.toNat_natCast] at hget
      have hhe := hf1.held q; obtain ⟨r1, r2⟩ := c0.rehold (c' := { u.c with held := Ag.upd u.c.held q (some (max ((u.c.held q).getD 0) m.op)) }) _ (hh2.upd q (max ((u.c.held q).getD 0) m.op) (d := { u.c with held := Ag.upd u.c.held q (some (max ((u.c.held q).getD 0) m.op)) }) rfl) rfl
      have hb2 : (u.c.held q).getD 0 < 2 ^ 64 := by
        cases hx : u.c.held q with
        | none => simp
        | some v => exact (hhe v hx).2
      have hf2 : CFine ({ u.c with held := Ag.upd u.c.held q (some (max ((u.c.held q).getD 0) m.op)) } : Ag.Co) := hf1.hold hqn (by omega)
      have v1 : (eh.get (q : Int)).getD (.raw (.int .u64 0)) = .raw (.int .u64 (((u.c.held q).getD 0 : Nat) : Int)) := by rw [hget]; cases u.c.held q <;> rfl
      have em : (max (((u.c.held q).getD 0 : Nat) : Int) (m.op : Int)) = ((max ((u.c.held q).getD 0) m.op : Nat) : Int) := by omega
      generalize (u.c.held q).getD 0 = hd at *; rw [<- hq] at v1 r1 r2
      focus (refine fy ?_; refine gw ?_; refine cg ?_; intro hc; refine ax rfl (fun hc => ?_) (fun hc => ?_); refine az ?_; refine bl ?_; refine gy ?_; refine cj ?_; refine cw ?_; refine dm ?_; refine cw ?_; refine dm ?_; (apply ay; · exact ady rfl rfl aa (by first | assumption | rfl)); refine dm ?_; (apply ay; · exact aa7 rfl rfl); refine lg ?_; refine uk rfl rfl qe aa ?_; refine aq ?_; rotate_left; exact absurd hc aj)
      all_goals try (exfalso; omega)
      rw [em]; refine dy (R' := [(0, .ptr F.o 0), (4, .ptr oR 0), (5, .ptr F1.os 0)]) (H' := H2.set F2.oh ((eh.put m.from_ (uI (max hd m.op))).ao .i64)) (Ent.sub _ (by (repeat' (first | exact RSub.nil _ | apply RSub.cons)); all_goals rfl)) ?_
      clear hh hh2 hget v1 hco; generalize H2.set F2.oh ((eh.put m.from_ (uI (max hd m.op))).ao .i64) = H5 at *; have hS := zp H5 F2 _ r1 hf2; rw [o2] at hS
      focus (refine fv ?_; (refine zc ah (hS) ?_; rintro r H' ⟨rfl, c5, c6⟩); refine bb ?_; refine ft ?_)
      obtain ⟨H3, hE, q1, q2, q3, q4, q5⟩ := b1.done ((c2.trans r2).trans c6) c5 z1; refine dy (H' := H3) (hE _) ?_; clear hE
      focus (refine az ?_; refine i5 ?_; refine dv ?_)
      all_goals try (exfalso; omega)
      exact ⟨.inl rfl, _, _, _, aro (H0 := H3.erase oR) 4 [saveA _, sendA _] rfl aa df j0, jp rfl (dr (m := 2) rfl rfl rfl (by decide)), rfl, F2, q4, q5⟩
  by_cases k4 : m.kind = 4 \/ m.kind = 6
  · skip
    have hg2 : get2 u m = if m.from_ = ((u.c.view % u.c.n : Nat) : Int) then u.hear m else u := by unfold get2; rw [if_neg k3, if_neg k5, if_pos k4]
    rw [hg2]; have hH := anv H2 F2 u m c1 hf1 (by omega) (by omega) hm hL (by unfold Ag.mostView; omega)
    rw [o2, s2] at hH; generalize u.c.view % u.c.n = to at *; by_cases t1 : m.from_ = (to : Int)
    · rw [if_pos t1]
      focus (refine fy ?_; refine gw ?_; refine cg ?_; intro hc; refine jm ?_; intro hc; refine bq ?_; refine gw ?_; refine ax rfl (fun hc => ?_) (fun hc => ?_); refine cy ?_; refine ax rfl (fun hc => ?_) (fun hc => ?_); refine cj ?_; refine dm ?_; refine i0 ?_; refine cw ?_; (apply ay; · exact bw ah (hld _ aa)); (apply ay; · exact kj rfl rfl); refine de ?_; refine ax rfl (fun hc => ?_) (fun hc => ?_); refine fv ?_; refine ip ?_; (refine zc ah (hH) ?_; rintro r H' ⟨rfl, F3, c3, c4⟩); refine bb ?_; refine ft ?_; rotate_left; exact absurd hc aj; exact absurd hc aj; refine ca ?_; refine gw ?_; refine ax rfl (fun hc => ?_) (fun hc => ?_); refine cj ?_; refine dm ?_; refine i0 ?_; refine cw ?_; (apply ay; · exact bw ah (hld _ aa)); (apply ay; · exact kj rfl rfl); refine de ?_; refine ax rfl (fun hc => ?_) (fun hc => ?_); refine fv ?_; refine ip ?_; (refine zc ah (hH) ?_; rintro r H' ⟨rfl, F3, c3, c4⟩); refine bb ?_; refine ft ?_; rotate_left; exact absurd hc aj; exact absurd hc aj)
      all_goals try (exfalso; omega)
      all_goals (
        obtain ⟨H3, hE, q1, q2, q3, q4, q5⟩ := b1.done (c2.trans c4) c3 z1; refine dy (H' := H3) (hE _) ?_; clear hE
        focus (refine az ?_; refine i5 ?_; refine dv ?_)
        all_goals try (exfalso; omega)
        exact ⟨.inl rfl, _, _, _, aro (H0 := H3.erase oR) 4 [saveA _, sendA _] rfl aa df j0, jp rfl (dr (m := 2) rfl rfl rfl (by decide)), rfl, F3, q4, q5⟩)
    · rw [if_neg t1]
      focus (refine fy ?_; refine gw ?_; refine cg ?_; intro hc; refine jm ?_; intro hc; refine bq ?_; refine gw ?_; refine ax rfl (fun hc => ?_) (fun hc => ?_); refine cy ?_; refine ax rfl (fun hc => ?_) (fun hc => ?_); refine cj ?_; refine dm ?_; refine i0 ?_; refine cw ?_; (apply ay; · exact bw ah (hld _ aa)); (apply ay; · exact kj rfl rfl); refine de ?_; refine jm ?_; intro hc; refine di ?_; refine ft ?_; rotate_left; exact absurd hc aj; refine ca ?_; refine gw ?_; refine ax rfl (fun hc => ?_) (fun hc => ?_); refine cj ?_; refine dm ?_; refine i0 ?_; refine cw ?_; (apply ay; · exact bw ah (hld _ aa)); (apply ay; · exact kj rfl rfl); refine de ?_; refine jm ?_; intro hc; refine di ?_; refine ft ?_; rotate_left; exact absurd hc aj)
      all_goals try (exfalso; omega)
      all_goals (
        obtain ⟨H3, hE, q1, q2, q3, q4, q5⟩ := b1.done c2 c1 z1; refine dy (H' := H3) (hE _) ?_; clear hE
        focus (refine az ?_; refine i5 ?_; refine dv ?_)
        all_goals try (exfalso; omega)
        exact ⟨.inl rfl, _, _, _, aro (H0 := H3.erase oR) 4 [saveA _, sendA _] rfl aa df j0, jp rfl (dr (m := 2) rfl rfl rfl (by decide)), rfl, F2, q4, q5⟩)
  have hg2 : get2 u m = u := by unfold get2; rw [if_neg k3, if_neg k5, if_neg k4]
  rw [hg2]
  focus (refine fy ?_; refine gw ?_; refine cg ?_; intro hc; refine jm ?_; intro hc; refine bq ?_; refine gw ?_; refine jm ?_; intro hc; refine ca ?_; refine gw ?_; refine jm ?_; intro hc; refine di ?_; refine ft ?_)
  all_goals try (exfalso; omega)
  obtain ⟨H3, hE, q1, q2, q3, q4, q5⟩ := b1.done c2 c1 z1; refine dy (H' := H3) (hE _) ?_; clear hE
  focus (refine az ?_; refine i5 ?_; refine dv ?_)
  all_goals try (exfalso; omega)
  exact ⟨.inl rfl, _, _, _, aro (H0 := H3.erase oR) 4 [saveA _, sendA _] rfl aa df j0, jp rfl (dr (m := 2) rfl rfl rfl (by decide)), rfl, F2, q4, q5⟩
end Go.Proofs.Ytbciofnejefkiaa
namespace Go.Proofs.Ytbciofnejefkiaa
open Go Go.Am Go.Proofs
theorem Committed_calls (H : AHeap) (F : Ob) (c : Ag.Co) (h : CAt H F c) (hf : CFine c) :
    ACalls Try.prog 18 [.ptr F.o 0] H fun r H' => r = lsE (c.list.take c.agreed) /\ H' = H := by
  obtain ⟨off, _, hco, _⟩ := h.core; have f1 := hf.list.len; have f2 := hf.agr; have f3 := hf.list.ok; have hl : (c.list.take c.agreed).length = c.agreed := by rw [List.length_take]; omega
  have hcp : ∀ H, ACalls Try.prog 43 [.sls (c.agreed - 0) (List.take ((c.agreed - 0) * 3) (List.drop (0 * 3) (c.list.flatMap En.cells)))] H fun r H' => r = lsE (c.list.take c.agreed) /\ H' = H := fun H => by
    have h1 := (pg H (c.list.take c.agreed) (by omega) fun e he => by have := (f3 e (List.mem_of_mem_take he)).2; omega).seal_cel (i8 (sz := 3) (fun _ => rfl) _)
    unfold lsE at h1 ⊢; rw [hl] at h1 ⊢; rw [Nat.sub_zero, Nat.zero_mul, List.drop_zero, v8 _ _ f2]; exact h1
  unfold bo at hco; refine ej Try.func18 rfl (by decide) ?_
  focus (refine az ?_; refine bc ?_; refine cj ?_; refine cw ?_; refine cw ?_; refine oq ?_; (apply ay; · exact bw ah (hcp _)); (apply ay; · exact gq (v := .sls _ _) rfl); refine de ?_; refine j7 ?_)
  exact ⟨.inl rfl, _, _, _, Ent.refl _ _, ret1 rfl rfl, rfl, rfl⟩
theorem New_calls (H : AHeap) (me n : Nat) (hm : me < n) (h7 : n <= 7) (h2 : n % 2 = 1) :
    ACalls Try.prog 15 [mI (me : Int), mI (n : Int)] H fun r H' => ∃ F : Ob, r = .tup [.ptr F.o 0, mI 0] /\ CAt H' F (Ag.Co.new me n) /\ NdC F /\ (∀ p ∈ F.c, H p = none) /\ ∀ p y, H p = some y -> H' p = some y := by
  refine gm Try.func15 rfl (by decide) ?_
  focus (refine az ?_; refine dq ?_; refine bc ?_; refine bz ?_; refine mz ?_; refine an ?_; refine zg2 rfl rfl rfl (fun hc => ?_) (fun hc => ?_); exact absurd hc aj; refine ep ?_; refine dw ?_; refine jv ?_; refine zg2 rfl rfl rfl (fun hc => ?_) (fun hc => ?_); exact absurd hc aj; refine ep ?_; refine ae rfl (uq rfl rfl au) ?_; refine a0 ?_; refine fh ?_; refine jv ?_; refine zg2 rfl rfl rfl (fun hc => ?_) (fun hc => ?_); exact absurd hc aj; refine ep ?_; refine mz ?_; refine jv ?_; refine zg2 rfl rfl rfl (fun hc => ?_) (fun hc => ?_); exact absurd hc aj; refine ep ?_; refine ep ?_; refine ln ?_; refine cd ?_; refine aq ?_; refine gh ?_; intro hc; refine gn ?_; refine an ?_; refine jn ?_; refine zb1 rfl rfl rfl (fun oN hoN => ?_); refine ku ?_; refine aq ?_; refine dg ?_; (refine zc ah (aec _ oN _ _ _ _ _ _ _ _ _ _ _ aa) ?_; rintro r H' ⟨rfl, og, oh, e1, e2, e3, e4, e5, e6, e7⟩); refine aq ?_)
  all_goals try (exfalso; omega)
  have n1 : og ≠ oN := arp e1; have n2 : oh ≠ oN := arp e2; have k1 : H og = none := arm e1; have k2 : H oh = none := arm e2; refine dy (R' := [(6, .ptr oN 0)]) (H' := H'.set oN (.cel [mI (me : Int), mI (n : Int), uI 0, uI 0, lsE [], mI 0, bB false, mI 0, .mp og, .mp oh, .raw (.slice none 0 0)])) ((Ent.wcelH (zh e6).symm (WC.cons (W.of rfl) (WC.cons (W.of rfl) (WC.cons (W.of rfl) (WC.cons (W.of rfl) (WC.cons (W.nils rfl) (WC.cons (W.of rfl) (WC.cons (W.of rfl) (WC.cons (W.of rfl) (WC.cons (W.of rfl) (WC.cons (W.of rfl) (WC.cons (W.of rfl) WC.nil)))))))))))).trans (Ent.sub _ (by (repeat' (first | exact RSub.nil _ | apply RSub.cons)); all_goals rfl))) ?_
  refine s8 (o := oN) 10 3 (arn _ _ _) rfl (fun ow how => ?_)
  have m1 : ow ≠ oN := arp how; have m2 : H' ow = none := arm how; have m3 : og ≠ ow := fun e => by rw [e, m2] at e4; cases e4
  have m4 : oh ≠ ow := fun e => by rw [e, m2] at e5; cases e5
  have m5 : H ow = none := by
    cases hx : H ow with
    | none => rfl
    | some y => rw [e7 ow y m1 (arl m1 hx)] at m2; cases m2
  focus (refine dg ?_; refine ku ?_; refine bn ?_)
  refine ⟨.inl rfl, _, _, _, Ent.refl _ _, i7 rfl (gu rfl) (gu rfl), ⟨oN, og, oh, ow, 0, 0, 0⟩, rfl, ⟨⟨0, [], arl m1.symm (arn _ _ _), arn _ _ _, rfl, rfl⟩, ⟨[], arl m3 (arl n1 (arl n1 e4)), GotM.nil fun _ => rfl⟩, ⟨[], arl m4 (arl n2 (arl n2 e5)), HeldM.nil fun _ => rfl⟩⟩, ⟨n1.symm, n2.symm, m1.symm, e3, m3, m4⟩, ?_, fun p y hp => ?_⟩
  · intro p hp
    simp only [Ob.c, List.mem_cons, List.not_mem_nil, or_false] at hp; rcases hp with e | e | e | e <;> rw [e]
    · exact hoN
    · exact k1
    · exact k2
    · exact m5
  · have hne : ∀ {q : Nat}, H q = none -> p ≠ q := fun b e => by rw [e, b] at hp; cases hp
    exact arl (hne m5) (arl (hne hoN) (arl (hne hoN) (e7 p y (hne hoN) (arl (hne hoN) hp))))
end Go.Proofs.Ytbciofnejefkiaa
namespace Go.Proofs.Ytbciofnejefkiaa
open Go Go.Am Go.Proofs
def rdIs : Nat -> List UInt8 -> Bool -> List Int × List UInt8 × Bool
  | 0, b, f => ([], b, f)
  | n + 1, b, f => (unzig (rd b).1 :: (rdIs n (rd b).2.1 (f || (rd b).2.2)).1, (rdIs n (rd b).2.1 (f || (rd b).2.2)).2)
theorem agp : ∀ (n : Nat) (b : List UInt8) (f : Bool), rdIs (n + 1) b f = ((rdIs n b f).1 ++ [unzig (rd (rdIs n b f).2.1).1], (rd (rdIs n b f).2.1).2.1, ((rdIs n b f).2.2 || (rd (rdIs n b f).2.1).2.2))
  | 0, b, f => by simp [rdIs]
  | n + 1, b, f => by
    have ih := agp n (rd b).2.1 (f || (rd b).2.2)
    rw [rdIs, ih]; simp [rdIs]
theorem abo : ∀ (n : Nat) (b : List UInt8) (f : Bool), (rdIs n b f).1.length = n
  | 0, _, _ => rfl
  | n + 1, b, f => by simp [rdIs, abo n]
theorem afp : ∀ (n : Nat) (b : List UInt8) (f : Bool), (rdIs n b f).2.1.length <= b.length
  | 0, _, _ => Nat.le_refl _
  | n + 1, b, f => Nat.le_trans (afp n _ _) (iy b)
def En0 : En := ⟨0, 0, []⟩
def hdE (b : List UInt8) : Nat × List UInt8 × Bool := ((rd (rd (rd b).2.1).2.1).1, (rd (rd (rd b).2.1).2.1).2.1, ((rd b).2.2 || (rd (rd b).2.1).2.2) || (rd (rd (rd b).2.1).2.1).2.2)
def getE (b : List UInt8) : Option En :=
  if (hdE b).2.1.length < (hdE b).1 then none
  else if (rdIs (hdE b).1 (hdE b).2.1 (hdE b).2.2).2.2 = true \/ (rdIs (hdE b).1 (hdE b).2.1 (hdE b).2.2).2.1 ≠ [] then none
  else some ⟨(rd b).1, (rd (rd b).2.1).1, (rdIs (hdE b).1 (hdE b).2.1 (hdE b).2.2).1⟩
def outE : Option En -> AV
  | none => .tup [.agg En0.cells, .raw (.int .i64 (3 : Int))]
  | some e => .tup [.agg e.cells, .raw (.int .i64 (0 : Int))]
theorem ahq {H H2 : AHeap} (hfr : ∀ p y, H p = some y -> H2 p = some y) {o : Nat} (h : H2 o = none) : H o = none := by
  cases e : H o with
  | none => rfl
  | some y => have := hfr _ _ e; rw [h] at this; cases this
theorem GetEntry_calls (H : AHeap) (b : List UInt8) (hb : b.length <= 100000000) :
    ACalls Try.prog 58 [.bys b] H fun r H' => r = outE (getE b) /\ H' = H := by
  have l1 := iy b; have l2 := iy (rd b).2.1; have l3 := iy (rd (rd b).2.1).2.1; refine ej Try.func58 rfl (by decide) ?_
  focus (refine az ?_; refine cz rfl rfl rfl (fun oN hoN => ?_); refine dk ?_; refine ei ?_; (refine zc ah (adp _ _ cq) ?_; rintro r H' ⟨oR, hoR, rfl, rfl⟩); refine ku ?_; refine aq ?_; refine dg ?_; (refine zc ah (RU_calls _ _ _ _ aa cq) ?_; rintro r H' ⟨rfl, rfl⟩); refine cu ?_; (refine zc ah (RU_calls _ _ _ _ aa cq) ?_; rintro r H' ⟨rfl, rfl⟩); refine jn ?_; refine cz rfl rfl rfl (fun oN hoN => ?_); refine jx ?_; refine aq ?_; refine dg ?_; (refine zc ah (RU_calls _ _ _ _ aa cq) ?_; rintro r H' ⟨rfl, rfl⟩); refine bc ?_; refine bz ?_; refine cu ?_; (refine zc ah (ox _ _ _ _ aa) ?_; rintro r H' ⟨rfl, rfl⟩); refine ae rfl (fu rfl (by omega)) ?_; refine dw ?_; refine aq ?_; refine ax rfl (fun hc => ?_) (fun hc => ?_); refine az ?_; refine jn ?_; refine kn ?_; refine bn ?_; refine db ?_; rotate_left; refine cy ?_; refine bz ?_; refine ig ?_; rotate_left)
  · have e : getE b = none := if_pos (show (hdE b).2.1.length < (hdE b).1 from hc)
    exact ⟨.inl rfl, _, _, _, aro 2 En0.cells rfl aa df vr, i7 rfl (dr (m := 3) rfl rfl rfl (by decide)) (gu rfl), by rw [e]; rfl, rfl⟩
  obtain ⟨n, hn⟩ : ∃ n, (rd (rd (rd b).2.1).2.1).1 = n := ⟨_, rfl⟩; obtain ⟨b3, hb3⟩ : ∃ b3, (rd (rd (rd b).2.1).2.1).2.1 = b3 := ⟨_, rfl⟩; obtain ⟨f3, hf3⟩ : ∃ f3, ((rd b).2.2 || (rd (rd b).2.1).2.2 || (rd (rd (rd b).2.1).2.1).2.2) = f3 := ⟨_, rfl⟩
  have hE : getE b = if (rdIs n b3 f3).2.2 = true \/ (rdIs n b3 f3).2.1 ≠ [] then none else some ⟨(rd b).1, (rd (rd b).2.1).1, (rdIs n b3 f3).1⟩ := by
    rw [getE, if_neg (show ¬ (hdE b).2.1.length < (hdE b).1 from hc), <- hn, <- hb3, <- hf3]; rfl
  have hl3 : b3.length <= 100000000 := by rw [<- hb3]; omega
  have hnb : n <= b3.length := by rw [<- hb3, <- hn]; omega
  simp only [Bool.false_or]; rw [hn, hb3, hf3]; clear hc l1 l2 l3
  refine cv (fun mm R' H2 => ∃ (i oZ oE oR : Nat) (row : List Int) (b' : List UInt8) (f' : Bool) (rc : AV), (oZ ≠ oE /\ oZ ≠ oR /\ oE ≠ oR /\ H oZ = none /\ H oE = none /\ H oR = none) /\ H2 oZ = some (.cel [.raw (.int .u64 0), .raw (.int .u64 0), .raw (.slice none 0 0)]) /\
    H2 oE = some (.cel [.raw (.int .u64 ((rd b).1 : Int)), .raw (.int .u64 ((rd (rd b).2.1).1 : Int)), rc]) /\ H2 oR = some (.cel [.bys b', .raw (.bool f')]) /\ (∀ p y, H p = some y -> H2 p = some y) /\
    ((i = 0 /\ rc = .raw (.slice none 0 0)) \/ (0 < i /\ ∃ oW, rc = .vw oW 1 0 i /\ H2 oW = some (.cel (row.map mI)) /\ H oW = none /\ oW ≠ oE /\ oW ≠ oR /\ oW ≠ oZ)) /\
    rdIs i b3 f3 = (row, b', f') /\ R' = [(2, .ptr oZ 0), (4, .ptr oR 0), (5, .ptr oE 0), (22, .raw (.int .u64 (n : Int))), (23, .raw (.int .u64 (i : Int)))] /\ i + mm = n) ?_ ?_
  · exact ⟨n, _, _, Ent.sub _ (by (repeat' (first | exact RSub.nil _ | apply RSub.cons)); all_goals rfl), 0, _, _, _, [], b3, f3, _, ⟨by exact ed, by exact ed, by exact ed, by exact ka, by exact ka, by exact ka⟩, aa, aa, aa, fun p y hp => aa, .inl ⟨rfl, rfl⟩, rfl, rfl, by omega⟩
  rintro mm R0 H2 ⟨i, oZ, oE, oR, row, b', f', rc, ⟨m1, m2, m3, z1, z2, z3⟩, q1, q2, q3, hfr, hrc, hrd, rfl, hi⟩; have hrl := abo i b3 f3; have hbl := afp i b3 f3; have hsn := agp i b3 f3; rw [hrd] at hrl hbl hsn; simp only at hrl hbl hsn; by_cases hlt : i < n
  · rcases hrc with ⟨hi0, rfl⟩ | ⟨hi0, oW, rfl, q4, z4, m4, m5, m6⟩
    · obtain rfl : row = [] := List.length_eq_zero_iff.1 (by omega)
      focus (refine br ?_; refine ax rfl (fun hc => ?_) (fun hc => ?_); refine js ?_; refine DC.aw_drawp (fun H' => H' oE = some (.cel [.raw (.int .u64 ((rd b).1 : Int)), .raw (.int .u64 ((rd (rd b).2.1).1 : Int)), .raw (.slice none 0 0)])) (by first | exact aa | exact ⟨aa, aa⟩ | exact ⟨aa, aa, aa⟩) dz bg bg ?_; refine jr ?_; refine e8 ?_; refine dx ?_; refine DC.awn_b ?_; refine DC.awn_b ?_; refine DC.awn_b ?_; refine jr ?_; refine DC.awn_b0 ?_; refine DC.awn_nil ?_; refine DC.awc_cons (fun Rx K1 hK1x => ?_); (refine zc ah (RI_calls _ _ _ _ aa cq) ?_; rintro r H' ⟨rfl, rfl⟩); refine bb ?_; (refine hK1x _ _ (by first | exact Or.inl (by decide +kernel) | (refine Or.inr ?_; (try dsimp only); first | exact aa | exact ⟨aa, aa⟩ | exact ⟨aa, aa, aa⟩)) ?_; clear hK1x K1 Rx); refine DC.awc_cons (fun Rx K1 hK1x => ?_); refine kq ?_; refine bb ?_; (refine hK1x _ _ (by first | exact Or.inl (by decide +kernel) | (refine Or.inr ?_; (try dsimp only); first | exact aa | exact ⟨aa, aa⟩ | exact ⟨aa, aa, aa⟩)) ?_; clear hK1x K1 Rx); refine DC.awc_cons (fun Rx K1 hK1x => ?_); refine ao1 rfl rfl rfl dc au au (fun oN hoN => ?_); refine bb ?_; (refine hK1x _ _ (by first | exact Or.inl (by decide +kernel) | (refine Or.inr ?_; (try dsimp only); first | exact aa | exact ⟨aa, aa⟩ | exact ⟨aa, aa, aa⟩)) ?_; clear hK1x K1 Rx); refine DC.awc_cons0 (fun Rx K1 hK1x => ?_); refine jc ?_; (refine hK1x _ (by first | exact Or.inl (by decide +kernel) | (refine Or.inr ?_; (try dsimp only); first | exact aa | exact ⟨aa, aa⟩ | exact ⟨aa, aa, aa⟩)) ?_; clear hK1x K1 Rx); refine DC.awc_nil ?_; refine ul ?_; refine ae rfl (un rfl rfl au) ?_; refine oz ?_; rotate_left; exact absurd hc aj)
      all_goals try (exfalso; omega)
      subst hi0
      exact ⟨mm - 1, _, _, by omega, ba, 0 + 1, oZ, oE, oR, _, _, _, .vw oN 1 0 1, ⟨m1, m2, m3, z1, z2, z3⟩, aa, aa, aa, fun p y hp => by have h2 := hfr p y hp; exact aa,
        .inr ⟨by omega, oN, rfl, aa, ahq hfr ka, by exact ed, by exact ed, by exact ed⟩, hsn, rfl, by omega⟩
    · focus (refine br ?_; refine ax rfl (fun hc => ?_) (fun hc => ?_); refine js ?_; refine DC.aw_drawp (fun H' => H' oE = some (.cel [.raw (.int .u64 ((rd b).1 : Int)), .raw (.int .u64 ((rd (rd b).2.1).1 : Int)), .vw oW 1 0 i])) (by first | exact aa | exact ⟨aa, aa⟩ | exact ⟨aa, aa, aa⟩) dz bg bg ?_; refine jr ?_; refine e8 ?_; refine dx ?_; refine DC.awn_b ?_; refine DC.awn_b ?_; refine DC.awn_b ?_; refine jr ?_; refine DC.awn_b0 ?_; refine DC.awn_nil ?_; refine DC.awc_cons (fun Rx K1 hK1x => ?_); (refine zc ah (RI_calls _ _ _ _ aa cq) ?_; rintro r H' ⟨rfl, rfl⟩); refine bb ?_; (refine hK1x _ _ (by first | exact Or.inl (by decide +kernel) | (refine Or.inr ?_; (try dsimp only); first | exact aa | exact ⟨aa, aa⟩ | exact ⟨aa, aa, aa⟩)) ?_; clear hK1x K1 Rx); refine DC.awc_cons (fun Rx K1 hK1x => ?_); refine kq ?_; refine bb ?_; (refine hK1x _ _ (by first | exact Or.inl (by decide +kernel) | (refine Or.inr ?_; (try dsimp only); first | exact aa | exact ⟨aa, aa⟩ | exact ⟨aa, aa, aa⟩)) ?_; clear hK1x K1 Rx); refine DC.awc_cons (fun Rx K1 hK1x => ?_); refine za4 rfl rfl rfl aa mc dc au au (fun oN hoN => ?_); refine bb ?_; (refine hK1x _ _ (by first | exact Or.inl (by decide +kernel) | (refine Or.inr ?_; (try dsimp only); first | exact aa | exact ⟨aa, aa⟩ | exact ⟨aa, aa, aa⟩)) ?_; clear hK1x K1 Rx); refine DC.awc_cons0 (fun Rx K1 hK1x => ?_); refine jc ?_; (refine hK1x _ (by first | exact Or.inl (by decide +kernel) | (refine Or.inr ?_; (try dsimp only); first | exact aa | exact ⟨aa, aa⟩ | exact ⟨aa, aa, aa⟩)) ?_; clear hK1x K1 Rx); refine DC.awc_nil ?_; refine ul ?_; refine ae rfl (un rfl rfl au) ?_; refine oz ?_; rotate_left; exact absurd hc aj)
      all_goals try (exfalso; omega)
      exact ⟨mm - 1, _, _, by omega, ba, i + 1, oZ, oE, oR, _, _, _, .vw oN 1 0 (i + 1), ⟨m1, m2, m3, z1, z2, z3⟩, aa, aa, aa, fun p y hp => by have h2 := hfr p y hp; exact aa,
        .inr ⟨by omega, oN, rfl, by rw [List.map_append]; exact aa, ahq hfr ka, by exact ed, by exact ed, by exact ed⟩, hsn, rfl, by omega⟩
  obtain rfl : i = n := by omega
  rw [hrd] at hE; simp only at hE; by_cases hbad : f' = true \/ b' ≠ []
  · rw [if_pos hbad] at hE
    have hbd : f' = true \/ 0 < b'.length := hbad.imp id List.length_pos_iff.2
    cases f' with
    | true =>
      focus (refine br ?_; refine c8 ?_; intro hc; refine bq ?_; refine cu ?_; (refine zc ah (nm _ _ _ _ aa) ?_; rintro r H' ⟨rfl, rfl⟩); refine an ?_; refine gp ?_; refine fb ?_; refine bu ?_; refine gy ?_; refine az ?_; refine jn ?_; refine kn ?_; refine bn ?_; refine db ?_)
      all_goals first
        | (exfalso; omega)
        | exact ⟨.inl rfl, _, _, _, aro 2 En0.cells rfl aa df (fun p y hp => by have h2 := hfr p y hp; exact ⟨by exact ed, aa⟩), i7 rfl (dr (m := 3) rfl rfl rfl (by decide)) (gu rfl), by rw [hE]; rfl, rfl⟩
    | false =>
      have hbd : 0 < b'.length := by simpa using hbd
      focus (refine br ?_; refine c8 ?_; intro hc; refine bq ?_; refine cu ?_; (refine zc ah (nm _ _ _ _ aa) ?_; rintro r H' ⟨rfl, rfl⟩); refine i9 ?_; (refine zc ah (ox _ _ _ _ aa) ?_; rintro r H' ⟨rfl, rfl⟩); refine a0 ?_; refine dw ?_; refine cd ?_; refine aq ?_; refine ax rfl (fun hc => ?_) (fun hc => ?_); refine az ?_; refine jn ?_; refine kn ?_; refine bn ?_; refine db ?_; rotate_left; exact absurd hc aj)
      all_goals first
        | (exfalso; omega)
        | exact ⟨.inl rfl, _, _, _, aro 2 En0.cells rfl aa df (fun p y hp => by have h2 := hfr p y hp; exact ⟨by exact ed, aa⟩), i7 rfl (dr (m := 3) rfl rfl rfl (by decide)) (gu rfl), by rw [hE]; rfl, rfl⟩
  rw [if_neg hbad] at hE; obtain ⟨hf, hb0⟩ := not_or.1 hbad; have hf : f' = false := by simpa using hf
  have hb0 : b' = [] := by simpa using hb0
  subst hf; subst hb0; rcases hrc with ⟨hi0, rfl⟩ | ⟨hi0, oW, rfl, q4, z4, m4, m5, m6⟩
  · focus (refine br ?_; refine c8 ?_; intro hc; refine bq ?_; refine cu ?_; (refine zc ah (nm _ _ _ _ aa) ?_; rintro r H' ⟨rfl, rfl⟩); refine i9 ?_; (refine zc ah (ox _ _ _ _ aa) ?_; rintro r H' ⟨rfl, rfl⟩); refine a0 ?_; refine dw ?_; refine cd ?_; refine aq ?_; refine gh ?_; intro hc; refine az ?_; refine i5 ?_; refine bn ?_)
    all_goals try (exfalso; omega)
    obtain rfl : row = [] := List.length_eq_zero_iff.1 (by omega)
    exact ⟨.inl rfl, _, _, _, aro 2 (En.cells ⟨(rd b).1, (rd (rd b).2.1).1, []⟩) rfl aa df (fun p y hp => by have h2 := hfr p y hp; exact ⟨by exact ed, aa⟩), i7 rfl (dr (m := 3) rfl rfl rfl (by decide)) (gu rfl), by rw [hE]; rfl, rfl⟩
  · focus (refine br ?_; refine c8 ?_; intro hc; refine bq ?_; refine cu ?_; (refine zc ah (nm _ _ _ _ aa) ?_; rintro r H' ⟨rfl, rfl⟩); refine i9 ?_; (refine zc ah (ox _ _ _ _ aa) ?_; rintro r H' ⟨rfl, rfl⟩); refine a0 ?_; refine dw ?_; refine cd ?_; refine aq ?_; refine gh ?_; intro hc; refine az ?_; refine i5 ?_; refine bn ?_)
    all_goals try (exfalso; omega)
    refine ⟨.inl rfl, _, _, _, Ent.trans (Ent.seal_cellC (p := oZ) (o := oW) (k := 2) (len := i) (sz := 1) (ys := row.map mI) m6.symm aa aa rfl (by simp [hrl])) (aro 2 (En.cells ⟨(rd b).1, (rd (rd b).2.1).1, row⟩) rfl (arn _ _ _) ?_ (fun p y hp => ?_)), i7 rfl (dr (m := 3) rfl rfl rfl (by decide)) (gu rfl), by rw [hE]; rfl, rfl⟩
    · rw [<- hrl]
      exact df
    · have h2 := hfr p y hp
      refine ⟨by exact ed, ?_⟩
      refine arl ed (arq ed ?_); exact aa
end Go.Proofs.Ytbciofnejefkiaa
namespace Go.Proofs.Ytbciofnejefkiaa
open Go Go.Am Go.Proofs
def rdEs : Nat -> List UInt8 -> Bool -> List En × List UInt8 × Bool × Bool
  | 0, b, f => ([], b, f, true)
  | n + 1, b, f =>
    match getE (rs b).1 with
    | none => ([], (rs b).2.1, (f || (rs b).2.2), false)
    | some e => (e :: (rdEs n (rs b).2.1 (f || (rs b).2.2)).1, (rdEs n (rs b).2.1 (f || (rs b).2.2)).2)
def entsB (b : List UInt8) (f : Bool) : List En × List UInt8 × Bool × Bool :=
  if 200 < (rd b).1 then ([], (rd b).2.1, (f || (rd b).2.2), false) else rdEs (rd b).1 (rd b).2.1 (f || (rd b).2.2)
def outEs (x : List En × List UInt8 × Bool × Bool) : AV := if x.2.2.2 = true then .tup [.sls x.1.length (x.1.flatMap En.cells), .raw (.int .i64 (0 : Int))] else .tup [.sls 0 [], .raw (.int .i64 (3 : Int))]
theorem sm {n : Nat} {b : List UInt8} {f : Bool} (h : getE (rs b).1 = none) : rdEs (n + 1) b f = ([], (rs b).2.1, (f || (rs b).2.2), false) := by rw [rdEs, h]
theorem ru {n : Nat} {b : List UInt8} {f : Bool} {e : En} (h : getE (rs b).1 = some e) : rdEs (n + 1) b f = (e :: (rdEs n (rs b).2.1 (f || (rs b).2.2)).1, (rdEs n (rs b).2.1 (f || (rs b).2.2)).2) := by rw [rdEs, h]
theorem xt (b : List UInt8) : (rs b).1.length <= b.length := by
  have := iy b; unfold rs; split <;> simp
  omega
theorem ank (H : AHeap) (o : Nat) (b : List UInt8) (f : Bool) (h : H o = some (.cel [.bys b, .raw (.bool f)])) (hb : b.length <= 100000000) :
    ACalls Try.prog 88 [.ptr o 0] H fun r H' => r = outEs (entsB b f) /\ (H' o = some (.cel [.bys (entsB b f).2.1, .raw (.bool (entsB b f).2.2.1)]) /\ ∀ p y, p ≠ o -> H p = some y -> H' p = some y) := by
  have l1 := iy b; refine ej Try.func88 rfl (by decide) ?_
  focus (refine az ?_; refine dq ?_; refine dk ?_; refine cu ?_; (refine zc ah (RU_calls _ _ _ _ aa cq) ?_; rintro r H' ⟨rfl, rfl⟩); refine bc ?_; refine bz ?_; refine dw ?_; refine aq ?_; refine ax rfl (fun hc => ?_) (fun hc => ?_); refine az ?_; refine dq ?_; refine bn ?_; refine db ?_; rotate_left; refine cy ?_; refine az ?_; refine bc ?_; refine bz ?_; refine ig ?_; rotate_left)
  · have e : entsB b f = ([], (rd b).2.1, (f || (rd b).2.2), false) := by rw [entsB, if_pos hc]
    exact ⟨.inl rfl, _, _, _, Ent.weakReg 2 rfl (W.nils rfl), ret2 rfl rfl rfl, by rw [e]; rfl, by rw [e]; exact aa, fun p y hp hy => aa⟩
  have e : entsB b f = rdEs (rd b).1 (rd b).2.1 (f || (rd b).2.2) := if_neg hc
  rw [e]; have hn : (rd b).1 <= 200 := by omega
  generalize (rd b).1 = n at *; generalize (rd b).2.1 = b1 at *; generalize (f || (rd b).2.2) = f1 at *
  clear e hc; refine vx 5 3 (.cel []) rfl rfl (fun oL hoL => ?_)
  refine cv (fun mm R' H2 => ∃ (i oL : Nat) (l : List En) (b' : List UInt8) (f' : Bool), (H oL = none /\ oL ≠ o /\ H2 oL = some (.cel (l.flatMap En.cells)) /\ H2 o = some (.cel [.bys b', .raw (.bool f')]) /\ ∀ p y, p ≠ o -> H p = some y -> H2 p = some y) /\ l.length = i /\ b'.length <= b1.length /\
    rdEs n b1 f1 = (l ++ (rdEs (n - i) b' f').1, (rdEs (n - i) b' f').2) /\
    R' = [(0, .ptr o 0), (5, .vw oL 3 0 i), (12, .raw (.int .u64 (n : Int))), (13, .raw (.int .u64 (i : Int)))] /\ i + mm = n) ?_ ?_
  · exact ⟨n, _, _, ba, 0, oL, [], b1, f1, ⟨by exact ka, by exact ed, arn _ _ _, aa, fun p y hp hy => aa⟩, rfl, Nat.le_refl _, by simp, rfl, by omega⟩
  clear hoL oL; rintro mm R0 H2 ⟨i, oL, l, b', f', ⟨hoL, hne, q1, q2, hfr⟩, hl, hbl, hrd, rfl, hi⟩; have hfl : (l.flatMap En.cells).length = i * 3 := by rw [i8 (sz := 3) (fun _ => rfl), hl]
  by_cases hlt : i < n
  · have hsn : n - i = (n - (i + 1)) + 1 := by omega
    have l2 := xt b'; have l3 := um b'
    cases hg : getE (rs b').1 with
    | none =>
      have hG : ∀ H, ACalls Try.prog 58 [.bys (rs b').1] H fun r H' => r = .tup [.agg En0.cells, .raw (.int .i64 (3 : Int))] /\ H' = H := fun H => (GetEntry_calls H _ (by omega)).mono (by rw [hg]; exact fun _ _ h => h)
      rw [hsn, sm hg] at hrd
      focus (refine br ?_; refine ax rfl (fun hc => ?_) (fun hc => ?_); refine ct ?_; refine cu ?_; (refine zc ah (RS_calls _ _ _ _ q2 (by omega)) ?_; rintro r H' ⟨rfl, rfl⟩); refine ae rfl (uy rfl) ?_; (refine zc ah (hG _) ?_; rintro r H' ⟨rfl, rfl⟩); refine jj ?_; refine cz rfl rfl rfl (fun oN hoN => ?_); refine jo ?_; refine bc ?_; refine bz ?_; refine jk ?_; refine aq ?_; refine ax rfl (fun hc => ?_) (fun hc => ?_); refine gn ?_; refine dq ?_; refine bn ?_; refine fi ?_; refine fi ?_; rotate_left; exact absurd hc aj; exact absurd hc aj)
      all_goals first
        | (exfalso; omega)
        | exact ⟨.inl rfl, _, _, _, Ent.weakReg 2 rfl (W.nils rfl), ret2 rfl rfl rfl, by rw [hrd]; rfl, by rw [hrd]; exact arn _ _ _, fun p y hp hy => arl hp (hfr p y hp hy)⟩
        | trace_state
    | some e =>
      have hG : ∀ H, ACalls Try.prog 58 [.bys (rs b').1] H fun r H' => r = .tup [.agg e.cells, .raw (.int .i64 (0 : Int))] /\ H' = H := fun H => (GetEntry_calls H _ (by omega)).mono (by rw [hg]; exact fun _ _ h => h)
      rw [hsn, ru hg] at hrd
      focus (refine br ?_; refine ax rfl (fun hc => ?_) (fun hc => ?_); refine ct ?_; refine cu ?_; (refine zc ah (RS_calls _ _ _ _ q2 (by omega)) ?_; rintro r H' ⟨rfl, rfl⟩); refine ae rfl (uy rfl) ?_; (refine zc ah (hG _) ?_; rintro r H' ⟨rfl, rfl⟩); refine jj ?_; refine cz rfl rfl rfl (fun oN hoN => ?_); refine jo ?_; refine bc ?_; refine bz ?_; refine jk ?_; refine aq ?_; refine gh ?_; intro hc; refine ca ?_; refine c9 ?_; refine ip ?_; refine kq ?_; refine za4 rfl rfl rfl aa mc dc au au (fun oN hoN => ?_); refine ix ?_; refine bb ?_; refine ul ?_; refine ae rfl (un rfl rfl au) ?_; refine oz ?_; rotate_left; exact absurd hc aj)
      all_goals try (exfalso; omega)
      have hN2 : H2 oN = none := arm hoN; have n1 : oN ≠ o := by exact ed
      have n2 : ∀ p y, H2 p = some y -> p ≠ oN := fun p y hp e => by subst e; rw [hN2] at hp; cases hp
      refine ⟨mm - 1, _, _, by omega, Ent.sub _ (by (repeat' (first | exact RSub.nil _ | apply RSub.cons)); all_goals rfl), i + 1, oN, l ++ [e], _, _, ⟨?_, n1, ?_, ?_, fun p y hp hy => ?_⟩, by simp [hl], ?_, by rw [hrd]; simp; exact ⟨rfl, rfl⟩, rfl, by omega⟩
      · cases e' : H oN with
        | none => rfl
        | some y => have := hfr _ _ n1 e'; rw [hN2] at this; cases this
      · rw [List.flatMap_append]; exact arn _ _ _
      · exact arl n1.symm (arq hne.symm (arn _ _ _))
      · have h2 := hfr p y hp hy
        refine arl (n2 p y h2) (arq ?_ (arl hp h2)); rintro rfl; rw [hoL] at hy; cases hy
      · omega
  obtain rfl : i = n := by omega
  rw [Nat.sub_self] at hrd; simp only [rdEs, List.append_nil] at hrd
  focus (refine br ?_; refine c8 ?_; intro hc; refine az ?_; refine c9 ?_; refine ix ?_; refine bn ?_)
  all_goals try (exfalso; omega)
  refine ⟨.inl rfl, _, _, _, Ent.seal_cel (i := 2) rfl q1 hfl, ret2 rfl rfl rfl, by rw [hrd, <- hl]; rfl, by rw [hrd]; exact arq hne.symm q2, fun p y hp hy => arq ?_ (hfr p y hp hy)⟩
  rintro rfl; rw [hoL] at hy; cases hy
end Go.Proofs.Ytbciofnejefkiaa
