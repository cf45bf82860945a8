import Derived.Test.YtbciofnejefkiaaIz
import Derived.Test.YtbciofnejefkiaaIa5
import Derived.Test.YtbciofnejefkiaaIa2
set_option linter.unusedVariables false
set_option linter.unusedSimpArgs false
set_option maxRecDepth 20000
set_option maxHeartbeats 4000000
namespace Go.Proofs.Ytbciofnejefkiaa
open Go Go.Am Go.Proofs
theorem CopyP_calls (H : AHeap) (F : Ob) (c : Ag.Co) (h : CAt H F c) (nd : NdC F) (hf : CFine c) :
    ACalls Try.prog 28 [.ptr F.o 0] H fun r H' => ∃ F2 : Ob, r = .ptr F2.o 0 /\ CAt H' F2 c /\ NdC F2 /\ (∀ p ∈ F2.c, H p = none) /\ ∀ p y, H p = some y -> H' p = some y := by
  obtain ⟨⟨off, xs, hco, hw, hx1, hx2⟩, ⟨eg, hg, hg2⟩, ⟨eh, hh, hh2⟩⟩ := h; obtain ⟨n1, n2, n3, n4, n5, n6⟩ := nd; have f1 := hf.list.len; have f2 := hf.list.ok; have f3 := hf.wait.len; have f4 := hf.wait.ok; have hc1 := fun H => (pg H c.list (by omega) fun e he => by have := (f2 e he).2; omega).seal_cel (i8 (sz := 3) (fun _ => rfl) _)
  have hc2 := fun H h => ak4 H F.ow off xs c.wait (by omega) (fun e he => by have := (f4 e he).2; omega) h hx1 hx2
  unfold bo at hco; refine ej Try.func28 rfl (by decide) ?_
  focus (refine f0 ?_; refine cu ?_; refine ae rfl (md rfl) ?_; refine pi ?_; refine cz rfl rfl rfl (fun oN hoN => ?_); refine jx ?_; refine aq ?_; refine bf ?_; refine DC.aw_drawp (fun H' => H' F.o = some (.cel [mI c.me, mI c.n, uI c.view, uI c.last, lsE c.list, mI c.agreed, bB c.lead, mI c.quiet, .mp F.og, .mp F.oh, .vw F.ow 3 off c.wait.length]) /\ H' F.ow = some (.cel xs)) (by first | exact ⟨aa, aa⟩) dz bg bg ?_; refine dx ?_; refine im ?_; refine e8 ?_; refine DC.awn_b ?_; refine dx ?_; refine im ?_; refine e8 ?_; refine DC.awn_b ?_; refine jr ?_; refine DC.awn_b0 ?_; refine jr ?_; refine DC.awn_b0 ?_; refine DC.awn_nil ?_; refine DC.awc_cons (fun Rx K1 hK1x => ?_); (refine zc ah (hc1 _) ?_; rintro r H' ⟨rfl, rfl⟩); refine bb ?_; (refine hK1x _ _ (by first | exact Or.inl (by decide +kernel) | (refine Or.inr ?_; (try dsimp only); first | exact ⟨aa, aa⟩)) ?_; clear hK1x K1 Rx); refine DC.awc_cons (fun Rx K1 hK1x => ?_); (refine zc ah (hc2 _ aa) ?_; rintro r H' ⟨ow2, how2, rfl, rfl⟩); refine bb ?_; (refine hK1x _ _ (by first | exact Or.inl (by decide +kernel) | (refine Or.inr ?_; (try dsimp only); first | exact ⟨aa, aa⟩)) ?_; clear hK1x K1 Rx); refine DC.awc_cons0 (fun Rx K1 hK1x => ?_); refine jc ?_; (refine hK1x _ (by first | exact Or.inl (by decide +kernel) | (refine Or.inr ?_; (try dsimp only); first | exact ⟨aa, aa⟩)) ?_; clear hK1x K1 Rx); refine DC.awc_cons0 (fun Rx K1 hK1x => ?_); refine iq ?_; refine bb ?_; (refine hK1x _ (by first | exact Or.inl (by decide +kernel) | (refine Or.inr ?_; (try dsimp only); first | exact ⟨aa, aa⟩)) ?_; clear hK1x K1 Rx); refine DC.awc_nil ?_; refine gj ?_; refine az ?_; refine uc rfl (fun oN hoN => ?_); refine uc rfl (fun oN hoN => ?_); refine iu ?_; refine gv ?_; refine iu ?_; refine iq ?_; refine aq ?_)
  rename_i oO hoO oG hoG
  have hoH := hoN; generalize hqq : oN = oH at *; clear hqq hoN oN; refine dy (R' := [(0, .ptr F.o 0), (3, .ptr oO 0)]) (Ent.sub _ (by (repeat' (first | exact RSub.nil _ | apply RSub.cons)); all_goals rfl)) ?_
  refine nr (fun H2 => H2 oO = some (.cel (bo c oG oH (.vw ow2 3 0 c.wait.length))) /\ H2 ow2 = some (.cel (c.wait.flatMap En.cells)) /\ H2 oG = some (MI.ao .i64 []) /\ H2 oH = some (MI.ao .i64 []) /\ oG ≠ oO /\ oH ≠ oO /\ ow2 ≠ oO /\ oG ≠ oH /\ oG ≠ ow2 /\ oH ≠ ow2 /\ H ow2 = none /\ H oG = none /\ H oH = none /\ ∀ p y, H p = some y -> H2 p = some y) ?_ ?_
  · have a1 : ow2 ≠ oO := arp how2
    have a2 : H ow2 = none := arm how2; have g0 := arm hoG; have g1 := arm g0; have a3 : oG ≠ oO := arp hoG; have a4 : oG ≠ ow2 := arp g0; have a5 : H oG = none := arm g1; have h0 := arm hoH; have h1 := arm h0; have h2 := arm h1; have a6 : oH ≠ oG := arp hoH; have a7 : oH ≠ oO := arp h0; have a8 : oH ≠ ow2 := arp h1; have a9 : H oH = none := arm h2; clear hoG hoH how2 g0 g1 h0 h1 h2; refine ⟨by exact aa, by exact aa, by exact aa, by exact aa, a3, a7, a1, a6.symm, a4, a8, a2, a5, a9, fun p y hp => ?_⟩
    have hne : ∀ {q : Nat}, H q = none -> p ≠ q := fun b e => by rw [e, b] at hp; cases hp
    have b1 := hne hoO; have b2 := hne a2; have b3 := hne a5; have b4 := hne a9; exact aa
  clear hoG hoH how2; rintro H2 ⟨q1, q2, q3, q4, d1, d2, d3, d4, d5, d6, r1, r2, r3, fr⟩; have hne : ∀ {H : AHeap} {p q : Nat} {y : AO}, H p = some y -> H q = none -> p ≠ q := fun a b e => by rw [e, b] at a; cases a
  have e1 := fr _ _ hco; have e2 := fr _ _ hw; have e3 := fr _ _ hg; have e4 := fr _ _ hh; have u1 := hne hco hoO; have u2 := hne hg hoO; have u3 := hne hg r2; have u4 := hne hg r1; have u5 := hne hg r3; have u6 := hne hh hoO; have u7 := hne hh r2; have u8 := hne hh r1; have u9 := hne hh r3; unfold bo at q1
  focus (refine bq ?_; refine bl ?_; refine aes rfl rfl aa (fun oN mbN clN brN hoN hbl hbn hbc => ?_); refine aq ?_; refine gi ?_)
  have v1 : ∀ p, H2 p = none -> H p = none := fun p hp => by
    cases hx : H p with
    | none => rfl
    | some y => rw [fr _ _ hx] at hp; cases hp
  have hoi0 := v1 _ hoN; have w1 := hne q1 hoN; have w2 := hne q2 hoN; have w3 := hne q3 hoN; have w4 := hne q4 hoN; have w5 := hne hco hoi0; have w6 := hne hg hoi0; have w7 := hne hh hoi0; have w8 := hne hw hoi0; have hoi := hoN; generalize hqq : oN = oi at *; clear hqq hoN oN; have hgd := hg2.nd; refine cv (fun mm R' H3 => ∃ (seen : List Nat) (es2 : MI), R' = [(0, .ptr F.o 0), (3, .ptr oO 0), (31, .ptr oi 0)] /\ H3 oi = some (itrO mbN clN clN seen) /\ H3 F.og = some (mpxO mbN clN (eg.map fun p => (AV.raw (.int .i64 p.1), p.2)) brN) /\ H3 oO = some (.cel [mI c.me, mI c.n, uI c.view, uI c.last, lsE c.list, mI c.agreed, bB c.lead, mI c.quiet, .mp oG, .mp oH, .vw ow2 3 0 c.wait.length]) /\ H3 ow2 = some (.cel (c.wait.flatMap En.cells)) /\ H3 oG = some (MI.ao .i64 es2) /\ H3 oH = some (MI.ao .i64 []) /\ (∀ p y, H p = some y -> p ≠ F.og -> H3 p = some y) /\ Cpd eg es2 brN seen /\ seen.length + mm = brN.length) ?_ ?_
  · exact ⟨brN.length, _, _, ba, [], [], rfl, by exact aa, by exact aa, by exact aa, by exact aa, by exact aa, by exact aa, fun p y hp hF => arl (hne hp hoi0) (arl hF (fr _ _ hp)), Cpd.nil _ _, by simp⟩
  clear e1 e2 e3 e4 q1 q2 q3 q4 fr hoi v1 H2; rintro mm R0 H3 ⟨seen, es2, rfl, p1, p2, p3, p4, p5, p6, p7, p8, p9⟩; have e1 := p7 _ _ hco n1
  focus (refine az ?_; refine ait rfl rfl aa aa (fun iN kN vN bN heN hbN hsN => ?_) (fun hsN => ?_); refine ae rfl (kw rfl rfl) ?_; refine aq ?_; refine bf ?_; refine ia ?_; refine cy ?_; refine pt ?_; rotate_left; refine ae rfl (kw rfl rfl) ?_; refine aq ?_; refine bf ?_; refine mf rfl ?_; refine s5 ?_; refine bq ?_; refine bl ?_; rotate_left)
  · obtain ⟨kk, rfl, he⟩ := aey heN
    have hgk := MI.at_get hgd he; rw [hg2.get kk] at hgk; by_cases hk0 : 0 <= kk
    rotate_left
    · rw [if_neg hk0] at hgk; cases hgk
    rw [if_pos hk0] at hgk
    cases hq : c.got kk.toNat with
    | none => rw [hq] at hgk; cases hgk
    | some x =>
    rw [hq] at hgk
    cases hgk
    have hxl := (hf.got _ _ hq).2.2.len; have hxr := (hf.got _ _ hq).2.2.ok; have hc3 := fun H => (pg H x.list (by omega) fun e he => by have := (hxr e he).2; omega).seal_cel (i8 (sz := 3) (fun _ => rfl) _)
    have hst := p8.step hgd hbn hbN hsN he; have hlt := p8.lt (List.mem_of_getElem? hbN) hsN; clear hq hxl hxr hc1 hc2; unfold voteA at *; have pM : (H3.set oi (itrO mbN clN clN (seen ++ [bN]))) F.og = some (mpxO mbN clN (eg.map fun p => (AV.raw (.int .i64 p.1), p.2)) brN) := by exact aa
    focus (refine ae rfl (agc rfl aa aa (by assumption) (by assumption)) ?_; refine ae rfl (kw rfl rfl) ?_; refine ae rfl (kw rfl rfl) ?_; refine cz rfl rfl rfl (fun oN hoN => ?_); refine dq ?_; refine jo ?_; refine aq ?_; refine j5 ?_; refine vq ?_; refine bj ?_; refine dm ?_; refine dm ?_; (apply ay; · exact bw ah (hc3 _)); refine se ?_; refine lg ?_; refine uk rfl rfl qe aa ?_; refine bb ?_; refine ft ?_)
    exact ⟨mm - 1, _, _, by omega, ba, seen ++ [bN], es2.put kk (.agg [uI x.last, lsE x.list]), rfl, by exact aa, by exact aa, by exact aa, by exact aa, by exact aa, by exact aa, fun p y hp hF => arl (hne hp r2) (arl (hne hp hoi0) (p7 p y hp hF)), hst, by rw [List.length_append]; simp only [List.length_cons, List.length_nil]; omega⟩
  · obtain ⟨z1, z2⟩ := p8.done hbn hbl hsN
    have hG2 : GotM es2 c := ⟨fun k => (z1 k).trans (hg2.get k), z2.trans hg2.len⟩
    have x1 := p7 _ _ hh n4.symm; refine qr (R' := [(0, .ptr F.o 0), (3, .ptr oO 0), (49, .mp F.oh)]) ((Ent.unpin p2).trans (Ent.sub _ (by (repeat' (first | exact RSub.nil _ | apply RSub.cons)); all_goals rfl))) ?_
    refine ajc (fun H4 => H4 oO = some (.cel [mI c.me, mI c.n, uI c.view, uI c.last, lsE c.list, mI c.agreed, bB c.lead, mI c.quiet, .mp oG, .mp oH, .vw ow2 3 0 c.wait.length]) /\ H4 ow2 = some (.cel (c.wait.flatMap En.cells)) /\ H4 oG = some (MI.ao .i64 es2) /\ H4 oH = some (MI.ao .i64 []) /\ ∀ p y, H p = some y -> H4 p = some y) ?_ ?_
    · refine ⟨by exact aa, by exact aa, by exact aa, by exact aa, fun p y hp => ?_⟩
      by_cases hF : p = F.og
      · rw [hF, hg] at hp; cases hp; rw [hF]; exact arn _ _ _
      · exact arl hF (p7 p y hp hF)
    clear p1 p2 p3 p4 p5 p6 p7 p8 p9 hbn hbl hsN z1 z2 hbc hoi0 w1 w2 w3 w4 w5 w6 w7 w8 e1 x1 H3; rintro H4 ⟨p3, p4, p5, p6, p7⟩; have e1 := p7 _ _ hh
    focus (refine aes rfl rfl aa (fun oN mbN clN brN hoN hbl hbn hbc => ?_); refine aq ?_; refine gi ?_)
    have v1 : ∀ p, H4 p = none -> H p = none := fun p hp => by
      cases hx : H p with
      | none => rfl
      | some y => rw [p7 _ _ hx] at hp; cases hp
    have hoi0 := v1 _ hoN; have w1 := hne p3 hoN; have w2 := hne p4 hoN; have w3 := hne p5 hoN; have w4 := hne p6 hoN; have w5 := hne hco hoi0; have w6 := hne hg hoi0; have w7 := hne hh hoi0; have w8 := hne hw hoi0; have hoj := hoN; generalize hqq : oN = oj at *; clear hqq hoN oN; have hgd := hh2.nd; refine cv (fun mm R' H3 => ∃ (seen : List Nat) (es3 : MI), R' = [(0, .ptr F.o 0), (3, .ptr oO 0), (50, .ptr oj 0)] /\ H3 oj = some (itrO mbN clN clN seen) /\ H3 F.oh = some (mpxO mbN clN (eh.map fun p => (AV.raw (.int .i64 p.1), p.2)) brN) /\ H3 oO = some (.cel [mI c.me, mI c.n, uI c.view, uI c.last, lsE c.list, mI c.agreed, bB c.lead, mI c.quiet, .mp oG, .mp oH, .vw ow2 3 0 c.wait.length]) /\ H3 ow2 = some (.cel (c.wait.flatMap En.cells)) /\ H3 oG = some (MI.ao .i64 es2) /\ H3 oH = some (MI.ao .i64 es3) /\ (∀ p y, H p = some y -> p ≠ F.oh -> H3 p = some y) /\ Cpd eh es3 brN seen /\ seen.length + mm = brN.length) ?_ ?_
    · exact ⟨brN.length, _, _, ba, [], [], rfl, by exact aa, by exact aa, by exact aa, by exact aa, by exact aa, by exact aa, fun p y hp hF => arl (hne hp hoi0) (arl hF (p7 _ _ hp)), Cpd.nil _ _, by simp⟩
    clear e1 p3 p4 p5 p6 p7 hoj v1 H4; rintro mm R0 H3 ⟨seen, es3, rfl, p1, p2, p3, p4, p5, p6, p7, p8, p9⟩; have e1 := p7 _ _ hco n2
    focus (refine az ?_; refine ait rfl rfl aa aa (fun iN kN vN bN heN hbN hsN => ?_) (fun hsN => ?_); refine ae rfl (kw rfl rfl) ?_; refine aq ?_; refine bf ?_; refine ia ?_; refine cy ?_; refine pt ?_; rotate_left; refine ae rfl (kw rfl rfl) ?_; refine aq ?_; refine bf ?_; refine mf rfl ?_; refine s5 ?_; refine az ?_; refine ku ?_; refine dv ?_; rotate_left)
    · obtain ⟨kk, rfl, he⟩ := aey heN
      have hgk := MI.at_get hgd he; rw [hh2.get kk] at hgk; by_cases hk0 : 0 <= kk
      rotate_left
      · rw [if_neg hk0] at hgk; cases hgk
      rw [if_pos hk0] at hgk
      cases hq : c.held kk.toNat with
      | none => rw [hq] at hgk; cases hgk
      | some x =>
      rw [hq] at hgk
      cases hgk
      have hst := p8.step hgd hbn hbN hsN he; have hlt := p8.lt (List.mem_of_getElem? hbN) hsN; clear hq hc1 hc2; have pM : (H3.set oj (itrO mbN clN clN (seen ++ [bN]))) F.oh = some (mpxO mbN clN (eh.map fun p => (AV.raw (.int .i64 p.1), p.2)) brN) := by exact aa
      focus (refine ae rfl (agc rfl aa aa (by assumption) (by assumption)) ?_; refine ae rfl (kw rfl rfl) ?_; refine ae rfl (kw rfl rfl) ?_; refine dq ?_; refine bc ?_; refine ca ?_; refine iu ?_; refine ma ?_; refine an ?_; refine an ?_; refine uk rfl rfl qe aa ?_; refine bb ?_; refine ft ?_)
      exact ⟨mm - 1, _, _, by omega, ba, seen ++ [bN], es3.put kk (uI x), rfl, by exact aa, by exact aa, by exact aa, by exact aa, by exact aa, by exact aa, fun p y hp hF => arl (hne hp r3) (arl (hne hp hoi0) (p7 p y hp hF)), hst, by rw [List.length_append]; simp only [List.length_cons, List.length_nil]; omega⟩
    · obtain ⟨z1, z2⟩ := p8.done hbn hbl hsN
      have hH3 : HeldM es3 c := ⟨fun k => (z1 k).trans (hh2.get k), p8.nd⟩
      refine ⟨.inl rfl, _, _, _, Ent.unpin p2, ret1 rfl rfl, ⟨oO, oG, oH, ow2, 0, 0, 0⟩, rfl, ⟨⟨0, c.wait.flatMap En.cells, arl u6.symm p3, arl u8.symm p4, by rw [i8 (sz := 3) (fun _ => rfl)]; omega, rfl⟩, ⟨es2, arl u7.symm p5, hG2⟩, ⟨es3, arl u9.symm p6, hH3⟩⟩, ⟨d1.symm, d2.symm, d3.symm, d4, d5, d6⟩, fun p hp => ?_, fun p y hp => ?_⟩
      · simp only [Ob.c, List.mem_cons, List.not_mem_nil, or_false] at hp
        rcases hp with e | e | e | e <;> rw [e]
        · exact hoO
        · exact r2
        · exact r3
        · exact r1
      · by_cases hF : p = F.oh
        · rw [hF, hh] at hp; cases hp; rw [hF]; exact arn _ _ _
        · exact arl hF (p7 p y hp hF)
end Go.Proofs.Ytbciofnejefkiaa
namespace Go.Proofs.Ytbciofnejefkiaa
namespace Ag
variable {g0 g : Gh} {r : Nat} {d0 : Co} {s : St}
theorem lay_c (s : St) : s.lay.c = s.c /\ s.lay.save = s.save := by
  have : ∀ (l : List Nat) (s : St), (l.foldl (fun (s : St) (to : Nat) => s.out (layM s.c to)) s).c = s.c /\ (l.foldl (fun (s : St) (to : Nat) => s.out (layM s.c to)) s).save = s.save := by
    intro l
    induction l with
    | nil => intro s; exact ⟨rfl, rfl⟩
    | cons a l ih => intro s; simp only [List.foldl_cons]; rw [(ih _).1, (ih _).2, out_c, out_save]; exact ⟨rfl, rfl⟩
  exact this _ s
theorem tell_c (s : St) (m : Mg) : (s.tell m).c = s.c /\ (s.tell m).save = s.save := by
  have : ∀ (l : List Nat) (s : St), (l.foldl (fun (s : St) (to : Nat) => s.out { m with to := (to : Int) }) s).c = s.c /\ (l.foldl (fun (s : St) (to : Nat) => s.out { m with to := (to : Int) }) s).save = s.save := by
    intro l
    induction l with
    | nil => intro s; exact ⟨rfl, rfl⟩
    | cons a l ih => intro s; simp only [List.foldl_cons]; rw [(ih _).1, (ih _).2, out_c, out_save]; exact ⟨rfl, rfl⟩
  exact this _ s
theorem rk (c : Co) : c.settle.view = c.view /\ c.settle.me = c.me /\ c.settle.n = c.n /\ c.settle.list = c.list /\ c.settle.last = c.last /\ c.settle.lead = c.lead /\ c.settle.wait = c.wait /\ base c.settle = base c := by
  unfold Co.settle; dsimp only; split <;> exact ⟨rfl, rfl, rfl, rfl, rfl, rfl, rfl, rfl⟩
theorem an8 (s : St) : s.grow.c.view = s.c.view := by
  unfold St.grow; dsimp only; rw [(lay_c _).1]; show (Co.settle _).view = _
  rw [(rk _).1]; split
  · rw [take_c]
  · rfl
theorem am2 (s : St) : s.won.c.view = s.c.view := by
  unfold St.won; dsimp only; split
  · rfl
  · rw [an8, take_c]
theorem aoh (s : St) (q : Nat) (v : Vt) : (s.count q v).c.view = s.c.view := by
  unfold St.count; split
  · rfl
  · rw [am2]
theorem apu (s : St) : s.vote.c.view = s.c.view := by
  unfold St.vote; dsimp only; split
  · exact aoh _ _ _
  · rw [out_c]
theorem apc {c : Co} (G : GOK g) (hc : COK g c) (hl : c.view % g.n = c.me) (he : c.last = c.view) (to : Nat) (ht : to < g.n) (hne : to ≠ c.me) :
    MOK g { layM c to with from_ := (c.me : Int), view := c.view } := by
  have hlok := hc.lok G; have hcur := hc.cur; rw [he] at hcur; have hme := hc.me; have hcomm := hc.comm; rw [he] at hcomm
  have hini : g.ini c.view <= c.list.length := by
    obtain ⟨_, _, _, _, _, x⟩ := G.acc _ hme _ _ hcur; exact x
  have h200 := hlok.len; have hagr := hc.agr
  have hA : ∀ es : List En, es = [] \/ es = c.list -> ∀ k : Int, (k = 6 /\ es = []) \/ (k = 4 /\ es = c.list) -> MOK g ⟨k, (c.me : Int), (to : Int), c.view, 0, c.list.length, c.agreed, es, []⟩ := by
    intro es hes k hk; refine ⟨⟨by show (0 : Int) <= (c.me : Int); omega, by show (c.me : Int) < _; omega⟩, ⟨by show (0 : Int) <= (to : Int); omega, by show (to : Int) < _; omega⟩, ?_, ?_, hc.most, Nat.zero_le _, h200, Nat.le_trans hagr h200, ?_, rfl, fun h => ?_, fun _ => ?_, fun h => ?_, fun h => ?_⟩
    · show (to : Int) ≠ (c.me : Int); omega
    · show 1 <= k /\ k <= 6; omega
    · show LOK g.S es
      rcases hes with rfl | rfl
      · exact LOK.nil
      · exact hlok
    · have h' : k = 3 := h; omega
    · refine ⟨?_, c.list, ?_, hagr, hcomm⟩
      · show (c.me : Int) = ((c.view % g.n : Nat) : Int); rw [hl]
      · show g.acc (c.view % g.n) c.view = _; rw [hl]; exact hcur
    · have h' : k = 4 := h
      have : es = c.list := by rcases hk with ⟨x, _⟩ | ⟨_, x⟩; omega; exact x
      subst this; exact ⟨c.list, by show g.acc (c.view % g.n) c.view = _; rw [hl]; exact hcur, List.prefix_refl _, hini⟩
    · have h' : k = 5 := h; omega
  unfold layM msg0; dsimp only; split
  · split
    · exact hA _ (.inr rfl) 4 (.inr ⟨rfl, rfl⟩)
    · exact hA _ (.inl rfl) 6 (.inl ⟨rfl, rfl⟩)
  · exact hA _ (.inr rfl) 4 (.inr ⟨rfl, rfl⟩)
theorem vu (c : Co) (to : Nat) : (layM c to).to = (to : Int) := by
  unfold layM msg0; dsimp only; split
  · split <;> rfl
  · rfl
theorem SOK.lay (h : SOK g0 r d0 g s) (hl : s.c.view % g.n = r) (he : s.c.last = s.c.view) : SOK g0 r d0 g s.lay := by
  have hn := h.cok.n; unfold St.lay; rw [hn, acl (layM s.c) (fun s => layM s.c) s.c (fun t ht => by simp only [ht]) _ s rfl]
  refine (SOK.outs (layM s.c) (fun to ht hne => ?_) g.n (Nat.le_refl _) s.c rfl h).1
  have hme := h.me; rw [vu] at hne; have := apc h.gok h.cok (by rw [hl, hme]) he to ht (by rw [hme]; omega)
  rw [hme] at this; exact this
theorem SOK.tell2 (h : SOK g0 r d0 g s) : SOK g0 r d0 g (s.tell (msg0 2 0)) := by
  have hn := h.cok.n; unfold St.tell; rw [hn]; refine (SOK.outs (fun to => { msg0 2 0 with to := (to : Int) }) (fun to ht hne => ?_) g.n (Nat.le_refl _) s.c rfl h).1
  have hrn : r < g.n := by rw [<- h.me]; exact h.cok.me
  refine ⟨⟨by show (0 : Int) <= (r : Int); omega, by show (r : Int) < _; omega⟩, ⟨by show (0 : Int) <= (to : Int); omega, by show (to : Int) < _; omega⟩, hne, by show (1 : Int) <= 2 /\ (2 : Int) <= 6; decide, h.cok.most, Nat.zero_le _, Nat.zero_le _, Nat.zero_le _, LOK.nil, rfl, fun h => by exact absurd h (by show ¬ (2 : Int) = _; decide), fun h => by rcases h with h | h <;> exact absurd h (by show ¬ (2 : Int) = _; decide), fun h => by exact absurd h (by show ¬ (2 : Int) = _; decide), fun h => by exact absurd h (by show ¬ (2 : Int) = _; decide)⟩
theorem ab5 {S : List (Nat × List Int)} : ∀ (w l : List En), LOK S l -> (∀ e ∈ w, EOK S e) -> LOK S (grown l w) /\ l <+: grown l w
  | [], l, h, _ => ⟨h, List.prefix_refl _⟩
  | e :: w, l, h, hw => by
    unfold grown; simp only [List.foldl_cons]; have hw' : ∀ x ∈ w, EOK S x := fun x hx => hw x (List.mem_cons_of_mem _ hx)
    split
    · next hc =>
      have h1 : LOK S (l ++ [e]) := ⟨fun x hx => by
          rcases List.mem_append.1 hx with hx | hx
          · exact h.all x hx
          · rw [List.mem_singleton.1 hx]; exact hw e (List.mem_cons_self), ad4 h.uniq hc.2, by rw [List.length_append, List.length_singleton]; omega⟩
      obtain ⟨h2, h3⟩ := ab5 w (l ++ [e]) h1 hw'; exact ⟨h2, (List.prefix_append _ _).trans h3⟩
    · exact ab5 w l h hw'
theorem SOK.grow (h : SOK g0 r d0 g s) (hl : s.c.lead = true) : ∃ g', Le g g' /\ SOK g0 r d0 g' s.grow := by
  have hc := h.cok; have hme := h.me; obtain ⟨hv, he⟩ := hc.lead hl; obtain ⟨h1, h2⟩ := ab5 s.c.wait s.c.list (hc.lok h.gok) hc.wait; unfold St.grow; dsimp only; generalize grown s.c.list s.c.wait = l at *
  have hs : SOK g0 r d0 g { s with c := { s.c with wait := [] } } := by
    refine h.mem ?_ rfl; exact ⟨hc.me, hc.n, hc.view, hc.most, hc.last, hc.cur, hc.later, hc.agr, hc.comm, hc.got, hc.held, hc.lead, fun e he => (by cases he), Nat.zero_le _⟩
  have key : ∀ (t : St) (g' : Gh), Le g g' -> SOK g0 r d0 g' t -> t.c.view = s.c.view -> t.c.last = s.c.view -> ∃ g', Le g g' /\ SOK g0 r d0 g' (St.lay { t with c := t.c.settle }) := by
    intro t g' a ht e1 e2; have hm := ht.me; have e3 : t.c.view % g'.n = t.c.me := by rw [hm, e1, a.n, hv, hme]
    refine ⟨g', a, ?_⟩; obtain ⟨z1, z2, z3, z4, z5, z6, z7, z8⟩ := rk t.c; have h3 := ht.mem (aiy ht.gok ht.cok e3 (by rw [e1, e2])) z8
    refine h3.lay ?_ ?_
    · show (t.c.settle).view % _ = r; rw [z1, e3, hm]
    · show (t.c.settle).last = (t.c.settle).view; rw [z5, z1, e1, e2]
  split
  · obtain ⟨g', a, h3⟩ := hs.take (l := l) h1 (fun _ => h2) ((List.take_prefix _ _).trans h2) (.inl ⟨by show s.c.view % _ = r; rw [hv, hme], fun hlt => by have : s.c.last < s.c.view := hlt; omega⟩)
    have hv2 : ({ s with c := { s.c with wait := [] } } : St).c.view = s.c.view := rfl
    rw [hv2] at h3; exact key _ g' a h3 (by rw [take_c]) (by rw [take_c])
  · exact key _ g (Le.refl _) hs rfl he
theorem SOK.won {t : St} (h1 : SOK g0 r d0 g t) (hl : t.c.view % g.n = r) : ∃ g', Le g g' /\ SOK g0 r d0 g' t.won := by
  have hC' : COK g t.c := h1.cok; unfold St.won; dsimp only; split
  · exact ⟨g, Le.refl _, h1⟩
  next hn =>
  rw [not_or] at hn; have htm := h1.me; obtain ⟨b1, b2, b3, b4⟩ := ao2 h1.gok hC' (by rw [hl, htm]) (by omega)
  obtain ⟨g', a, h2⟩ := h1.take b1 b2 b3 (.inl ⟨hl, b4⟩); have h3 := h2.cok; rw [take_c] at h3
  have h4 : COK g' { (t.take t.c.view t.c.best.list).c with lead := true, got := fun _ => none } := by
    rw [take_c]; exact ⟨h3.me, h3.n, h3.view, h3.most, h3.last, h3.cur, h3.later, h3.agr, h3.comm, fun p x hx => (by cases hx), h3.held, fun _ => ⟨by show t.c.view % g'.n = t.c.me; rw [a.n, hl, htm], rfl⟩, h3.wait, h3.waitn⟩
  obtain ⟨g'', a', h5⟩ := (h2.mem h4 (by simp only [take_c, base])).grow rfl
  exact ⟨g'', a.trans a', h5⟩
theorem SOK.count (h : SOK g0 r d0 g s) {q : Nat} {v : Vt} (hq : q < g.n) (hv : VoteOK g q s.c.view v.last v.list) (hl : s.c.view % g.n = r) : ∃ g', Le g g' /\ SOK g0 r d0 g' (s.count q v) := by
  have hc := h.cok; have hme := h.me; unfold St.count; split
  · exact ⟨g, Le.refl _, h⟩
  have hC : COK g { s.c with got := upd s.c.got q (some v) } := by
    refine ⟨hc.me, hc.n, hc.view, hc.most, hc.last, hc.cur, hc.later, hc.agr, hc.comm, fun p x hx => ?_, hc.held, hc.lead, hc.wait, hc.waitn⟩
    have hx' : upd s.c.got q (some v) p = some x := hx; unfold upd at hx'; split at hx'
    · next e => subst e; cases hx'; exact ⟨hq, hv, by show s.c.view % g.n = s.c.me; rw [hl, hme]⟩
    · exact hc.got p x hx'
  exact (h.mem hC rfl : SOK g0 r d0 g { s with c := { s.c with got := upd s.c.got q (some v) } }).won hl
theorem SOK.vote (h : SOK g0 r d0 g s) : ∃ g', Le g g' /\ SOK g0 r d0 g' s.vote := by
  have hc := h.cok; have hme := h.me; have hn := hc.n; unfold St.vote; dsimp only; have hV : VoteOK g s.c.me s.c.view s.c.last s.c.list := ⟨by rw [hc.view]; exact Nat.le_refl _, hc.last, s.c.list, hc.cur, List.prefix_refl _, fun _ => ⟨rfl, fun u hu _ => hc.later u hu⟩⟩
  split
  · next e => exact h.count hc.me hV (by rw [<- hn, e, hme])
  · next e =>
    refine ⟨g, Le.refl _, h.out _ fun hne => ?_⟩
    have hmn := hc.me; have hm : s.c.view % s.c.n < g.n := by rw [hn]; exact Nat.mod_lt _ h.gok.pos
    refine ⟨⟨by show (0 : Int) <= (s.c.me : Int); omega, by show (s.c.me : Int) < _; omega⟩, ⟨by show (0 : Int) <= ((s.c.view % s.c.n : Nat) : Int); omega, by show ((s.c.view % s.c.n : Nat) : Int) < _; omega⟩, hne, by show (1 : Int) <= 3 /\ (3 : Int) <= 6; decide, hc.most, hc.last, Nat.zero_le _, Nat.zero_le _, hc.lok h.gok, rfl, fun _ => hV, fun h => by rcases h with h | h <;> exact absurd h (by show ¬ (3 : Int) = _; decide), fun h => by exact absurd h (by show ¬ (3 : Int) = _; decide), fun h => by exact absurd h (by show ¬ (3 : Int) = _; decide)⟩
theorem SOK.begin (h : SOK g0 r d0 g s) : ∃ g', Le g g' /\ SOK g0 r d0 g' s.begin := by
  unfold St.begin; split
  · next hm =>
    obtain ⟨g1, a1, h1⟩ := h.promise (v := s.c.view + 1) (by omega) (by omega)
    obtain ⟨g2, a2, h2⟩ := h1.tell2.vote; exact ⟨g2, a1.trans a2, h2⟩
  · exact ⟨g, Le.refl _, h⟩
theorem agj (c : Co) (e : En) : (c.wanted e).2 = true -> (c.wanted e).1.lead = true := by
  unfold Co.wanted; split
  · intro h; cases h
  · exact id
theorem SOK.wanted (h : SOK g0 r d0 g s) {e : En} (he : may e = true -> EOK g.S e) : SOK g0 r d0 g { s with c := (s.c.wanted e).1 } := by
  have hc := h.cok; unfold Co.wanted; split
  · exact h
  · next hm =>
    rw [not_or] at hm; have hE := he (by cases hx : may e; exact absurd hx hm.1; rfl)
    refine h.mem ⟨hc.me, hc.n, hc.view, hc.most, hc.last, hc.cur, hc.later, hc.agr, hc.comm, hc.got, hc.held, hc.lead, fun x hx => ?_, ?_⟩ rfl
    · rcases List.mem_append.1 hx with hx | hx
      · split at hx
        · exact hc.wait x (List.mem_of_mem_drop hx)
        · exact hc.wait x hx
      · rw [List.mem_singleton.1 hx]; exact hE
    · have := hc.waitn
      show (_ ++ [e]).length <= 200
      rw [List.length_append, List.length_singleton]; split
      · rw [List.length_drop]; omega
      · next hx => omega
theorem SOK.want (h : SOK g0 r d0 g s) {e : En} (he : may e = true -> EOK g.S e) : ∃ g', Le g g' /\ SOK g0 r d0 g' (s.want e) := by
  unfold St.want; dsimp only; have h1 := h.wanted he; split
  · next hl => exact h1.grow (agj _ _ hl)
  · exact ⟨g, Le.refl _, h1⟩
theorem SOK.wants : ∀ (l : List En) {g : Gh} {s : St}, SOK g0 r d0 g s -> (∀ e ∈ l, EOK g.S e) -> ∃ g', Le g g' /\ SOK g0 r d0 g' (l.foldl St.want s)
  | [], g, s, h, _ => ⟨g, Le.refl _, h⟩
  | e :: l, g, s, h, he => by
    obtain ⟨g1, a1, h1⟩ := h.want (e := e) fun _ => he e (List.mem_cons_self)
    obtain ⟨g2, a2, h2⟩ := SOK.wants l h1 fun x hx => (he x (List.mem_cons_of_mem _ hx)).mono a1.S
    exact ⟨g2, a1.trans a2, h2⟩
theorem SOK.init (G : GOK g) {c : Co} (hc : COK g c) : SOK g c.me (base c) g ⟨c, [], []⟩ where
  le := Le.refl _
  only := Only.refl _ _
  gok := G
  cok := hc
  me := rfl
  send m hm := by cases hm
  disk := rfl
  part k := ⟨g, c, Le.refl _, Only.refl _ _, G, hc, rfl, by rw [List.take_nil]; rfl⟩
theorem submit_ok (G : GOK g) {c : Co} (hc : COK g c) (id : Nat) (row : List Int) (he : may ⟨id, 0, row⟩ = true -> EOK g.S ⟨id, 0, row⟩) : ∃ g', Le g g' /\ SOK g c.me (base c) g' (c.submit id row) := by
  have h0 := SOK.init G hc
  have h1 : ∃ g', Le g g' /\ SOK g c.me (base c) g' (if c.n = 1 /\ c.lead = false then St.begin ⟨c, [], []⟩ else ⟨c, [], []⟩) := by
    split
    · exact h0.begin
    · exact ⟨g, Le.refl _, h0⟩
  obtain ⟨g1, a1, h1⟩ := h1; unfold Co.submit; dsimp only; generalize (if c.n = 1 /\ c.lead = false then St.begin ⟨c, [], []⟩ else ⟨c, [], []⟩) = s at *
  have he1 : may ⟨id, 0, row⟩ = true -> EOK g1.S ⟨id, 0, row⟩ := fun h => (he h).mono a1.S
  have h2 := h1.wanted he1; split
  · next hl =>
    obtain ⟨g2, a2, h3⟩ := h2.grow (agj _ _ hl); exact ⟨g2, a1.trans a2, h3⟩
  · split
    · next hm =>
      have hE := he1 hm.1; refine ⟨g1, a1, h2.out _ fun hne => ?_⟩
      have hc2 := h2.cok; have hmn := hc2.me; generalize hw : (s.c.wanted ⟨id, 0, row⟩).1 = w at *; have hm : w.view % w.n < g1.n := by have := hc2.n; simp only at this; rw [this]; exact Nat.mod_lt _ h1.gok.pos
      simp only at hmn; refine ⟨⟨by show (0 : Int) <= (w.me : Int); omega, by show (w.me : Int) < _; omega⟩, ⟨by show (0 : Int) <= ((w.view % w.n : Nat) : Int); omega, by show ((w.view % w.n : Nat) : Int) < _; omega⟩, hne, by show (1 : Int) <= 1 /\ (1 : Int) <= 6; decide, hc2.most, Nat.zero_le _, Nat.zero_le _, Nat.zero_le _, LOK.sing hE, rfl, fun h => by exact absurd h (by show ¬ (1 : Int) = _; decide), fun h => by rcases h with h | h <;> exact absurd h (by show ¬ (1 : Int) = _; decide), fun h => by exact absurd h (by show ¬ (1 : Int) = _; decide), fun h => by exact absurd h (by show ¬ (1 : Int) = _; decide)⟩
    · exact ⟨g1, a1, h2⟩
theorem SOK.quiet (h : SOK g0 r d0 g s) (k : Nat) : SOK g0 r d0 g { s with c := { s.c with quiet := k } } := by
  have hc := h.cok; exact h.mem ⟨hc.me, hc.n, hc.view, hc.most, hc.last, hc.cur, hc.later, hc.agr, hc.comm, hc.got, hc.held, hc.lead, hc.wait, hc.waitn⟩ rfl
theorem tick_ok (G : GOK g) {c : Co} (hc : COK g c) : ∃ g', Le g g' /\ SOK g c.me (base c) g' c.tick := by
  have h0 := SOK.init G hc; unfold Co.tick; dsimp only; split
  · next hl => exact h0.grow hl
  · have h1 := h0.quiet (c.quiet + 1)
    split
    · exact h1.begin
    · split
      · exact h1.vote
      · exact ⟨g, Le.refl _, h1⟩
theorem SOK.fin (h : SOK g0 r d0 g s) {m : Mg} (hm : MOK g m) (hk : m.kind = 4 \/ m.kind = 6) (hv : m.view = s.c.view) : SOK g0 r d0 g (s.fin m) := by
  have hc := h.cok; unfold St.fin; split
  · next he =>
    obtain ⟨_, L, h1, h2, h3⟩ := hm.lead hk; have hcur := hc.cur; rw [he] at hcur; obtain ⟨_, _, L', h4, h5, _⟩ := h.gok.acc _ hc.me _ _ hcur; rw [h1] at h4; cases h4
    have hC : Comm g s.c.last (s.c.list.take (min m.commit s.c.list.length)) := by
      rw [he]; refine h3.mono (Nat.le_refl _) ?_; exact List.prefix_of_prefix_length_le ((List.take_prefix _ _).trans h5) (List.take_prefix _ _) (by rw [List.length_take, List.length_take]; omega)
    refine h.mem ⟨hc.me, hc.n, hc.view, hc.most, hc.last, hc.cur, hc.later, ?_, ?_, hc.got, hc.held, hc.lead, hc.wait, hc.waitn⟩ rfl
    · have := hc.agr
      show max s.c.agreed (min m.commit s.c.list.length) <= s.c.list.length
      omega
    · show Comm g s.c.last (s.c.list.take (max s.c.agreed (min m.commit s.c.list.length)))
      rcases Nat.le_total s.c.agreed (min m.commit s.c.list.length) with h | h
      · rw [Nat.max_eq_right h]; exact hC
      · rw [Nat.max_eq_left h]; exact hc.comm
  · exact h
theorem SOK.hold (hu : SOK g0 r d0 g s) {m : Mg} (hM : MOK g m) (hk : m.kind = 4 \/ m.kind = 6) (hv : m.view = s.c.view) (hl : s.c.last = s.c.view) (hmr : m.from_ ≠ (r : Int)) : SOK g0 r d0 g (s.hold m) := by
  have hcu := hu.cok; have hmu := hu.me; have hrn := hcu.me; have hcur := hcu.cur; rw [hl] at hcur; unfold St.hold; refine SOK.fin (hu.out _ fun hne' => ?_) hM hk (by rw [out_c]; exact hv)
  refine ⟨⟨by show (0 : Int) <= (s.c.me : Int); omega, by show (s.c.me : Int) < _; omega⟩, hM.from_, ?_, by show (1 : Int) <= 5 /\ (5 : Int) <= 6; decide, hcu.most, Nat.zero_le _, (hcu.lok hu.gok).len, Nat.zero_le _, LOK.nil, rfl, fun h => by exact absurd h (by show ¬ (5 : Int) = _; decide), fun h => by rcases h with h | h <;> exact absurd h (by show ¬ (5 : Int) = _; decide), fun h => by exact absurd h (by show ¬ (5 : Int) = _; decide), fun _ => ⟨s.c.list, ?_, Nat.le_refl _⟩⟩
  · show m.from_ ≠ (s.c.me : Int); rw [hmu]; exact hmr
  · show g.acc ((s.c.me : Int)).toNat s.c.view = _
    rw [Int.toNat_natCast]; exact hcur
theorem SOK.heard (h : SOK g0 r d0 g s) {m : Mg} (hm : MOK g m) (hk : m.kind = 4 \/ m.kind = 6) (hv : m.view = s.c.view) (ht : m.to = (r : Int)) (hf : m.from_ = ((s.c.view % s.c.n : Nat) : Int)) : ∃ g', Le g g' /\ SOK g0 r d0 g' (s.heard m) := by
  have hc := h.cok; have hn := hc.n; rw [hn] at hf; unfold St.heard; split
  · next h4 =>
    split
    · exact ⟨g, Le.refl _, h⟩
    · next hb =>
      obtain ⟨L, x1, x2, x3⟩ := hm.lays h4; have hlok := hc.lok h.gok; have hbp := (tr hm.ents.z (hlok.z.take _)).1 (by cases hx : begins m.ents (s.c.list.take s.c.agreed); exact absurd hx hb; rfl)
      have hne : s.c.view % g.n ≠ r := fun e => hm.ne (by rw [ht, hf, e])
      have hmr : m.from_ ≠ (r : Int) := fun e => hm.ne (by rw [ht, e])
      split
      · next hlt =>
        rw [hv] at hlt x1 x3
        obtain ⟨g', a, h5⟩ := h.take hm.ents (fun he => by
          have hcur := hc.cur; rw [he] at hcur; obtain ⟨_, _, L', y1, y2, _⟩ := h.gok.acc _ hc.me _ _ hcur; rw [x1] at y1; cases y1; exact List.prefix_of_prefix_length_le y2 x2 (by omega)) hbp (.inr ⟨hne, L, x1, x2, x3⟩)
        rw [<- hv] at h5; exact ⟨g', a, h5.hold (hm.le a) hk (by rw [take_c]; exact hv) (by rw [take_c]; exact hv) hmr⟩
      · next hlt =>
        have := hc.last; exact ⟨g, Le.refl _, h.hold hm hk hv (by omega) hmr⟩
  · exact ⟨g, Le.refl _, h.fin hm hk hv⟩
theorem SOK.hear (h : SOK g0 r d0 g s) {m : Mg} (hm : MOK g m) (hk : m.kind = 4 \/ m.kind = 6) (hv : m.view = s.c.view) (ht : m.to = (r : Int)) (hf : m.from_ = ((s.c.view % s.c.n : Nat) : Int)) : ∃ g', Le g g' /\ SOK g0 r d0 g' (s.hear m) :=
  (h.quiet 0).heard hm hk hv ht hf
theorem get_ok (G : GOK g) {c : Co} (hc : COK g c) {m : Mg} (hm : MOK g m) : ∃ g', Le g g' /\ SOK g c.me (base c) g' (c.get m) := by
  have h0 := SOK.init G hc; unfold Co.get; dsimp only; split
  · exact ⟨g, Le.refl _, h0⟩
  next hodd =>
  unfold Co.odd at hodd; simp only [not_or, Classical.not_not] at hodd; obtain ⟨_, ht, _, _, hmv, _⟩ := hodd; split
  · exact SOK.wants m.ents h0 fun e he => hm.ents.all e he
  next hk1 =>
  have h1 : ∃ g', Le g g' /\ SOK g c.me (base c) g' (if c.view < m.view then (St.promise ⟨c, [], []⟩ m.view).vote else ⟨c, [], []⟩) /\ m.view <= (if c.view < m.view then (St.promise ⟨c, [], []⟩ m.view).vote else (⟨c, [], []⟩ : St)).c.view := by
    split
    · next hlt =>
      obtain ⟨g1, a1, h1⟩ := h0.promise (v := m.view) (by show c.view <= _; omega) (by omega)
      obtain ⟨g2, a2, h2⟩ := h1.vote; refine ⟨g2, a1.trans a2, h2, ?_⟩; rw [apu]; exact Nat.le_refl _
    · next hlt => exact ⟨g, Le.refl _, h0, by show _ <= c.view; omega⟩
  obtain ⟨g1, a1, h1, h2⟩ := h1; generalize (if c.view < m.view then (St.promise ⟨c, [], []⟩ m.view).vote else (⟨c, [], []⟩ : St)) = s at *
  split
  · exact ⟨g1, a1, h1⟩
  next hlt =>
  have hv : m.view = s.c.view := by omega
  have hM := hm.le a1; have hc1 := h1.cok; have hn1 := hc1.n; have hme1 := h1.me; have hfl : m.from_.toNat < g1.n := by have := hM.from_; omega
  split
  · next hk =>
    split
    · next hl =>
      obtain ⟨g2, a2, h3⟩ := h1.count (q := m.from_.toNat) (v := ⟨m.last, m.ents⟩) hfl (by rw [<- hv]; exact hM.vote hk) (by rw [<- hn1, hl.1, hme1])
      exact ⟨g2, a1.trans a2, h3⟩
    · exact ⟨g1, a1, h1⟩
  split
  · next hk =>
    split
    · next hl =>
      obtain ⟨y1, y2⟩ := hc1.lead hl; obtain ⟨l, z1, z2⟩ := hM.hold hk
      have hC : COK g1 { s.c with held := upd s.c.held m.from_.toNat (some (max ((s.c.held m.from_.toNat).getD 0) m.op)) } := by
        refine ⟨hc1.me, hc1.n, hc1.view, hc1.most, hc1.last, hc1.cur, hc1.later, hc1.agr, hc1.comm, hc1.got, fun q x hx => ?_, hc1.lead, hc1.wait, hc1.waitn⟩
        have hx' : upd s.c.held m.from_.toNat (some (max ((s.c.held m.from_.toNat).getD 0) m.op)) q = some x := hx; unfold upd at hx'; split at hx'
        · next e =>
          subst e; have hx := (Option.some.inj hx').symm; refine ⟨hfl, l, by rw [<- hv]; exact z1, ?_⟩
          cases hh : s.c.held m.from_.toNat with
          | none => rw [hh] at hx; simp only [Option.getD_none] at hx; omega
          | some h =>
            rw [hh] at hx; simp only [Option.getD_some] at hx; obtain ⟨_, l', w1, w2⟩ := hc1.held _ _ hh; rw [<- hv, z1] at w1; cases w1; omega
        · exact hc1.held q x hx'
      refine ⟨g1, a1, h1.mem (aiy h1.gok hC y1 y2) ?_⟩; rw [(rk _).2.2.2.2.2.2.2]; rfl
    · exact ⟨g1, a1, h1⟩
  split
  · next hk =>
    split
    · next hf =>
      obtain ⟨g2, a2, h3⟩ := h1.hear hM hk hv ht hf; exact ⟨g2, a1.trans a2, h3⟩
    · exact ⟨g1, a1, h1⟩
  · exact ⟨g1, a1, h1⟩
end Ag
end Go.Proofs.Ytbciofnejefkiaa
namespace Go.Proofs.Ytbciofnejefkiaa
namespace Ag
structure WG (g : Gh) (w : W) : Prop where
  gok : GOK g
  n : g.n = w.n
  n7 : w.n <= 7
  S : g.S = w.ids
  c : ∀ r, r < w.n -> COK g (w.c r) /\ (w.c r).me = r
  disk : ∀ r, r < w.n -> (Co.new r w.n).replay (w.saved r) = some (base (w.c r))
  l : ∀ m ∈ w.l, MOK g m
  best : ∃ v, Comm g v w.best
variable {g g' : Gh} {w : W}
theorem aj9 (l : List Int) : (encR l).length <= 11 * l.length := by
  induction l with
  | nil => simp [encR]
  | cons v l ih => have := kf 10 (zig v); simp only [encR, List.flatMap_cons, List.length_append, List.length_cons] at ih ⊢; omega
theorem alx (e : En) : (encE e).length <= 33 + 11 * e.row.length := by
  have h1 := kf 10 e.id; have h2 := kf 10 e.view; have h3 := kf 10 e.row.length; have h4 := aj9 e.row; simp only [encE, List.length_append]; omega
theorem ahv : ∀ (l : List En), (∀ e ∈ l, e.row.length <= 16) -> (cn l).length <= 220 * l.length
  | [], _ => by simp [cn]
  | e :: l, h => by
    have h1 := h e (List.mem_cons_self); have h2 := ahv l fun x hx => h x (List.mem_cons_of_mem _ hx)
    have h3 := alx e; have h4 := kf 10 (encE e).length; have h5 : cn (e :: l) = (encU 10 (encE e).length ++ encE e) ++ cn l := by simp [cn, enc1]
    rw [h5, List.length_append, List.length_append, List.length_cons]; omega
theorem amc (l : List Nat) : (jy l).length <= 11 * l.length := by
  induction l with
  | nil => simp [jy]
  | cons v l ih => have := kf 10 v; simp only [jy, List.flatMap_cons, List.length_append, List.length_cons] at ih ⊢; omega
theorem MOK.good {m : Mg} (h : MOK g m) (h7 : g.n <= 7) : m.good := by
  have hr : ∀ e ∈ m.ents, e.row.length <= 16 := fun e he => (h.ents.all e he).row
  refine ⟨⟨by have := h.kind; omega, by have := h.from_; omega, by have := h.to; omega, h.ents.len, by rw [h.body]; simp, ?_⟩, ?_⟩
  · unfold wide
    rw [List.any_eq_false]; intro e he; rw [decide_eq_true_eq]; have := hr e he; omega
  · have h1 := aj9 [m.kind, m.from_, m.to]
    have h2 := amc [m.view, m.last, m.op, m.commit, m.ents.length]; have h3 := ahv m.ents hr; have h4 := kf 10 m.body.length; have h5 := h.ents.len; have h6 : m.body.length = 0 := by rw [h.body]; rfl
    simp only [List.length_cons, List.length_nil] at h1 h2; simp only [textB, List.length_append]; omega
theorem MOK.okm {m : Mg} (h : MOK g m) (h7 : g.n <= 7) : m.Ok := by
  have h1 := h.kind; have h2 := h.from_; have h3 := h.to; have h4 := h.view; have h5 := h.last; have h6 := h.op; have h8 := h.commit; unfold mostView at h4; exact ⟨by unfold b64; omega, by unfold b64; omega, by unfold b64; omega, by omega, by omega, by omega, by omega, fun e he => (h.ents.all e he).ok⟩
theorem abm {ids : List (Nat × List Int)} : ∀ (l pre b : List En), uniq (pre ++ l) = true -> (∀ e ∈ l, (e.id, e.row) ∈ ids) -> ((pre ++ l <+: b) \/ (b <+: pre ++ l /\ pre.length <= b.length)) ->
    ∃ b', toldL ids pre l b = some b' /\ (b' = b \/ b' = pre ++ l)
  | [], pre, b, _, _, _ => ⟨b, rfl, .inl rfl⟩
  | e :: l, pre, b, hu, hm, hp => by
    have e0 : pre ++ e :: l = (pre ++ [e]) ++ l := by simp
    have hm' : ∀ x ∈ l, (x.id, x.row) ∈ ids := fun x hx => hm x (List.mem_cons_of_mem _ hx)
    unfold toldL
    cases hb : b[pre.length]? with
    | some y =>
      have hy : y = e := by
        rcases hp with ⟨t, rfl⟩ | ⟨⟨t, ht⟩, _⟩
        · have : ((pre ++ e :: l) ++ t)[pre.length]? = some e := by simp
          rw [this] at hb; exact (Option.some.inj hb).symm
        · have hlt := (List.getElem?_eq_some_iff.1 hb).1
          have : (b ++ t)[pre.length]? = some y := by rw [List.getElem?_append_left hlt]; exact hb
          rw [ht] at this; have h2 : (pre ++ e :: l)[pre.length]? = some e := by simp
          rw [h2] at this; exact (Option.some.inj this).symm
      subst hy; dsimp only; rw [if_neg (by simp)]
      have hlt := (List.getElem?_eq_some_iff.1 hb).1
      obtain ⟨b', h1, h2⟩ := abm l (pre ++ [y]) b (by rw [<- e0]; exact hu) hm' (by
        rw [<- e0]; rcases hp with h | ⟨h, _⟩
        · exact .inl h
        · exact .inr ⟨h, by rw [List.length_append, List.length_singleton]; omega⟩)
      exact ⟨b', h1, by rw [e0]; exact h2⟩
    | none =>
      have hle : b.length <= pre.length := List.getElem?_eq_none_iff.1 hb
      have hbp : b = pre := by
        rcases hp with h | ⟨h, h2⟩
        · have := h.length_le; rw [List.length_append, List.length_cons] at this; omega
        · have h3 : pre <+: pre ++ e :: l := List.prefix_append _ _
          exact (List.prefix_of_prefix_length_le h h3 hle).eq_of_length (by omega)
      subst hbp; dsimp only
      have hid : hasId b e.id = false := by
        rw [e0] at hu; have h1 := (uniq_app hu).1
        cases hx : hasId b e.id with
        | false => rfl
        | true =>
          exfalso
          obtain ⟨x, hx1, hx2⟩ := hasId_get.1 hx; clear hb hle hp hu e0
          induction b with
          | nil => cases hx1
          | cons a b ih =>
            simp only [List.cons_append, uniq, hasId_app, Bool.and_eq_true, Bool.not_eq_true', Bool.or_eq_false_iff] at h1; rcases List.mem_cons.1 hx1 with rfl | hx1
            · have := h1.1.2; simp [hasId, hx2] at this
            · exact ih h1.2 (hasId_get.2 ⟨x, hx1, hx2⟩) hx1
      rw [if_pos ⟨by
        rw [List.any_eq_true]; exact ⟨_, hm e (List.mem_cons_self), by simp⟩, hid⟩]
      obtain ⟨b', h1, h2⟩ := abm l (b ++ [e]) (b ++ [e]) (by rw [<- e0]; exact hu) hm' (.inr ⟨by rw [<- e0, e0]; exact List.prefix_append _ _, Nat.le_refl _⟩)
      refine ⟨b', h1, .inr ?_⟩; rcases h2 with rfl | rfl
      · cases l with
        | nil => rfl
        | cons a l =>
          exfalso
          have : ∀ (l pre b b' : List En), toldL ids pre l b = some b' -> b <+: b' /\ pre.length + l.length <= max b'.length (pre.length + 0) \/ b.length < pre.length := by
            intro l
            induction l with
            | nil =>
              intro pre b b' h
              cases h
              rcases Nat.lt_or_ge b.length pre.length with h | h
              · exact .inr h
              · exact .inl ⟨List.prefix_refl _, by simp; omega⟩
            | cons a l ih =>
              intro pre b b' h; rcases Nat.lt_or_ge b.length pre.length with h' | h'
              · exact .inr h'
              left
              unfold toldL at h
              cases hb : b[pre.length]? with
              | some y =>
                rw [hb] at h; dsimp only at h; split at h
                · cases h
                · have hlt := (List.getElem?_eq_some_iff.1 hb).1
                  rcases ih _ _ _ h with ⟨h1, h2⟩ | h1
                  · refine ⟨h1, ?_⟩
                    have := h1.length_le; simp only [List.length_append, List.length_cons, List.length_nil] at h2 ⊢; omega
                  · simp only [List.length_append, List.length_cons, List.length_nil] at h1; omega
              | none =>
                have hle : b.length <= pre.length := List.getElem?_eq_none_iff.1 hb; rw [hb] at h; dsimp only at h; split at h
                · rcases ih _ _ _ h with ⟨h1, h2⟩ | h1
                  · refine ⟨(List.prefix_append _ _).trans h1, ?_⟩
                    have := h1.length_le; simp only [List.length_append, List.length_cons, List.length_nil] at h2 this ⊢; omega
                  · simp only [List.length_append, List.length_cons, List.length_nil] at h1; omega
                · cases h
          rcases this _ _ _ _ h1 with ⟨_, h3⟩ | h3
          · simp only [List.length_append, List.length_cons, List.length_nil] at h3; omega
          · omega
      · rw [e0]
theorem told_ok (h : WG g w) {r : Nat} (hr : r < w.n) : ∃ b, w.told r = some { w with best := b } /\ WG g { w with best := b } := by
  obtain ⟨hc, hm⟩ := h.c r hr; obtain ⟨v, hb⟩ := h.best; have hl := hc.comm; have hlo := hl.lok h.gok
  have key : ∃ b, toldL w.ids [] ((w.c r).list.take (w.c r).agreed) w.best = some b /\ (b = w.best \/ b = (w.c r).list.take (w.c r).agreed) :=
    abm _ [] w.best hlo.uniq (fun e he => by rw [<- h.S]; exact (hlo.all e he).mem) (by
      rw [List.nil_append]; rcases hl.chain h.gok hb with h1 | h1
      · exact .inl h1
      · exact .inr ⟨h1, Nat.zero_le _⟩)
  obtain ⟨b, h1, h2⟩ := key; refine ⟨b, ?_, ⟨h.gok, h.n, h.n7, h.S, h.c, h.disk, h.l, ?_⟩⟩
  · unfold W.told
    dsimp only; rw [h1, Option.bind_some, if_pos hlo.len]
  · rcases h2 with rfl | rfl
    · exact ⟨v, hb⟩
    · exact ⟨_, hl⟩
theorem aiz (G : GOK g) {c : Co} (hc : COK g c) {l : List Rd} (hl : (Co.new c.me c.n).replay l = some (base c)) : ∃ d, open_ c.me c.n l = some d /\ COK g d /\ base d = base c := by
  unfold open_; rw [hl, Option.map_some]; by_cases h1 : c.n = 1
  · rw [if_pos h1]
    refine ⟨_, rfl, ?_, rfl⟩; have hb := hc.base G; refine ⟨hb.me, hb.n, hb.view, hb.most, hb.last, hb.cur, hb.later, Nat.le_refl _, ?_, hb.got, hb.held, hb.lead, hb.wait, hb.waitn⟩; show Comm g c.last (c.list.take c.list.length)
    rw [List.take_length]; refine ⟨c.last, Nat.le_refl _, fun _ => true, afr G.pos, fun p hp _ => ⟨c.list, ?_, List.prefix_refl _⟩⟩
    have := hc.me; have hn := hc.n; have : p = c.me := by omega
    rw [this]; exact hc.cur
  · rw [if_neg h1]
    exact ⟨_, rfl, hc.base G, rfl⟩
theorem tw {l : List Mg} : ∀ {s : List Mg} {m : Mg}, m ∈ s.foldl addL l -> m ∈ l \/ m ∈ s := by
  intro s
  induction s generalizing l with
  | nil => intro m h; exact .inl h
  | cons a s ih =>
    intro m h; simp only [List.foldl_cons] at h; rcases ih h with h | h
    · unfold addL at h
      split at h
      · rcases List.mem_append.1 h with h | h
        · exact .inl h
        · rw [List.mem_singleton.1 h]; exact .inr (List.mem_cons_self)
      · exact .inl h
    · exact .inr (List.mem_cons_of_mem _ h)
theorem upd_same {α : Type} (f : Nat -> α) (i : Nat) (a : α) : upd f i a i = a := if_pos rfl
theorem upd_other {α : Type} (f : Nat -> α) {i j : Nat} (a : α) (h : j ≠ i) : upd f i a j = f j := if_neg h
theorem WG.turn (h : WG g w) {r : Nat} (hr : r < w.n) (a : Le g g') (o : Only r g g') (G : GOK g') {c : Co} (hc : COK g' c) (hm : c.me = r) {sv : List Rd} (hd : (base (w.c r)).replay sv = some (base c)) :
    WG g' { w with c := upd w.c r c, saved := upd w.saved r (w.saved r ++ sv) } where
  gok := G
  n := a.n.trans h.n
  n7 := h.n7
  S := o.S.trans h.S
  c p hp := by
    show COK g' (upd w.c r c p) /\ (upd w.c r c p).me = p
    by_cases e : p = r
    · rw [e, upd_same]; exact ⟨hc, hm⟩
    · obtain ⟨h1, h2⟩ := h.c p hp
      rw [upd_other _ _ e]; exact ⟨h1.le a o (by rw [h2]; exact e), h2⟩
  disk p hp := by
    show (Co.new p w.n).replay (upd w.saved r (w.saved r ++ sv) p) = some (base (upd w.c r c p))
    by_cases e : p = r
    · rw [e, upd_same, upd_same, s0, h.disk r hr, Option.bind_some, hd]
    · rw [upd_other _ _ e, upd_other _ _ e]; exact h.disk p hp
  l m hm := (h.l m hm).le a
  best := let ⟨v, hb⟩ := h.best; ⟨v, hb.le a⟩
theorem step_ok (h : WG g w) {r : Nat} (hr : r < w.n) {s : St} (hs : SOK g r (base (w.c r)) g' s) : ∃ w' g'', w.step r s = some w' /\ WG g'' w' /\ w'.n = w.n /\ w'.ids = w.ids := by
  unfold W.step; dsimp only
  cases hcut : w.cut r with
  | some k =>
    obtain ⟨h', c, a, o, G, hc, hm, hd⟩ := hs.part k; have hw := h.turn hr a o G hc hm hd; have hn : c.n = w.n := hc.n.trans (a.n.trans h.n); obtain ⟨d, d1, d2, d3⟩ := aiz G hc (l := w.saved r ++ s.save.take k) (by rw [hm, hn, s0, h.disk r hr, Option.bind_some, hd])
    rw [hm, hn] at d1; have hdm : d.me = r := (congrArg Co.me d3).trans hm; have hw2 := h.turn hr a o G d2 hdm (sv := s.save.take k) (by rw [hd, d3])
    have ho : W.opened { w with c := upd w.c r s.c, cut := upd w.cut r none, saved := upd w.saved r (w.saved r ++ s.save.take k) } r = some { w with c := upd (upd w.c r s.c) r d, cut := upd w.cut r none, saved := upd w.saved r (w.saved r ++ s.save.take k) } := by
      unfold W.opened; dsimp only; rw [upd_same, d1]; rfl
    have he : upd (upd w.c r s.c) r d = upd w.c r d := by
      funext p; unfold upd; split <;> rfl
    rw [he] at ho; have hw3 : WG h' { w with c := upd w.c r d, cut := upd w.cut r none, saved := upd w.saved r (w.saved r ++ s.save.take k) } := ⟨hw2.gok, hw2.n, hw2.n7, hw2.S, hw2.c, hw2.disk, hw2.l, hw2.best⟩
    obtain ⟨b, t1, t2⟩ := told_ok hw3 hr; refine ⟨_, h', ?_, t2, rfl, rfl⟩; dsimp only; rw [ho, Option.bind_some, t1]
  | none =>
    dsimp only; have hw := h.turn hr hs.le hs.only hs.gok hs.cok hs.me hs.disk; have hn : g'.n = w.n := hs.le.n.trans h.n
    rw [if_pos (fun m hm => by
      obtain ⟨h1, h2⟩ := hs.send m hm; exact ⟨h1.good (by rw [hn]; exact h.n7), h2, by rw [<- h2]; exact h1.ne, h1.to.1, by have := h1.to.2; rw [hn] at this; exact this⟩)]
    have hw3 : WG g' { w with c := upd w.c r s.c, saved := upd w.saved r (w.saved r ++ s.save), l := s.send.foldl addL w.l } := ⟨hw.gok, hw.n, hw.n7, hw.S, hw.c, hw.disk, fun m hm => by
      rcases tw hm with h | h
      · exact hw.l m h
      · exact (hs.send m h).1, hw.best⟩
    obtain ⟨b, t1, t2⟩ := told_ok hw3 hr; exact ⟨_, g', t1, t2, rfl, rfl⟩
theorem WG.out (h : WG g w) (k : Nat) : WG g (w.out k) := ⟨h.gok, h.n, h.n7, h.S, h.c, h.disk, fun m hm => by
  rcases List.mem_append.1 hm with hm | hm
  · exact h.l m (List.mem_of_mem_take hm)
  · exact h.l m (List.mem_of_mem_drop hm), h.best⟩
theorem WG.more (h : WG g w) (x : Nat × List Int) : WG { g with S := w.ids ++ [x] } { w with ids := w.ids ++ [x] } := by
  have a : Le g { g with S := w.ids ++ [x] } := ⟨rfl, fun _ => Nat.le_refl _, fun _ _ _ => rfl, fun _ _ l hl => ⟨l, hl, List.prefix_refl _⟩, fun _ _ _ => rfl, fun y hy => by show y ∈ w.ids ++ [x]; rw [<- h.S]; exact List.mem_append_left _ hy⟩
  have G : GOK { g with S := w.ids ++ [x] } := by
    refine ⟨h.gok.pos, h.gok.zero, h.gok.ini0, fun p hp v l hl => ?_, fun v L hv hL => (h.gok.elec v L hv hL).le a rfl⟩
    obtain ⟨h1, h2, h3⟩ := h.gok.acc p hp v l hl; exact ⟨h1, h2.mono a.S, h3⟩
  refine ⟨G, h.n, h.n7, rfl, fun r hr => ?_, h.disk, fun m hm => (h.l m hm).le a, let ⟨v, hb⟩ := h.best; ⟨v, hb.le a⟩⟩
  obtain ⟨hc, hm⟩ := h.c r hr; refine ⟨⟨hc.me, hc.n, hc.view, hc.most, hc.last, hc.cur, hc.later, hc.agr, hc.comm.le a, fun q y hy => ?_, hc.held, hc.lead, fun e he => (hc.wait e he).mono a.S, hc.waitn⟩, hm⟩
  obtain ⟨x1, x2, x3⟩ := hc.got q y hy; exact ⟨x1, x2.le a, x3⟩
structure Act.Ok (a : Act) : Prop where
  id : a.id < 2 ^ 64
  row : ∀ v ∈ a.row, b64 v
theorem opened_act (h : WG g w) {r : Nat} (hr : r < w.n) : ∃ d, w.opened r = some { w with c := upd w.c r d } /\ WG g { w with c := upd w.c r d } := by
  obtain ⟨hc, hm⟩ := h.c r hr; have hcn : (w.c r).n = w.n := hc.n.trans h.n; have hd := h.disk r hr; obtain ⟨d, d1, d2, d3⟩ := aiz h.gok hc (l := w.saved r) (by rw [hm, hcn]; exact hd)
  rw [hm, hcn] at d1; refine ⟨d, by unfold W.opened; rw [d1]; rfl, ⟨h.gok, h.n, h.n7, h.S, fun p hp => ?_, fun p hp => ?_, h.l, h.best⟩⟩
  · show COK g (upd w.c r d p) /\ (upd w.c r d p).me = p
    by_cases e : p = r
    · rw [e, upd_same]; exact ⟨d2, (congrArg Co.me d3).trans hm⟩
    · rw [upd_other _ _ e]; exact h.c p hp
  · show (Co.new p w.n).replay (w.saved p) = some (base (upd w.c r d p))
    by_cases e : p = r
    · rw [e, upd_same, d3]; exact hd
    · rw [upd_other _ _ e]; exact h.disk p hp
theorem begun_ok {n : Nat} (h1 : 0 < n) (h7 : n <= 7) : WG ⟨n, fun _ => 0, fun _ v => if v = 0 then some [] else none, fun _ => 0, []⟩ (W.begun n) := by
  have hz : ∀ v l, (if v = 0 then some ([] : List En) else none) = some l -> v = 0 /\ l = [] := fun v l h => by
    split at h
    · next e => exact ⟨e, (Option.some.inj h).symm⟩
    · cases h
  have G : GOK ⟨n, fun _ => 0, fun _ v => if v = 0 then some [] else none, fun _ => 0, []⟩ := by
    refine ⟨h1, fun p _ => ⟨[], rfl⟩, rfl, fun p hp v l hl => ?_, fun v L hv hL => ?_⟩
    · obtain ⟨rfl, rfl⟩ := hz v l hl
      exact ⟨Nat.le_refl _, LOK.nil, [], rfl, List.prefix_refl _, Nat.le_refl _⟩
    · obtain ⟨rfl, _⟩ := hz v L hL
      exact absurd hv (Nat.lt_irrefl _)
  refine ⟨G, rfl, h7, rfl, fun r hr => ⟨?_, rfl⟩, fun r hr => rfl, fun m hm => (by cases hm), ⟨0, Comm.nil G 0⟩⟩
  exact ⟨hr, rfl, rfl, Nat.zero_le _, Nat.le_refl _, rfl, fun v hv => if_neg (by have : 0 < v := hv; omega), Nat.le_refl _, Comm.nil G 0, fun q x hx => (by cases hx), fun q x hx => (by cases hx), fun hl => (by cases hl), fun e he => (by cases he), Nat.zero_le _⟩
end Ag
end Go.Proofs.Ytbciofnejefkiaa
namespace Go.Proofs.Ytbciofnejefkiaa
open Go Go.Am Go.Proofs
structure RFine (x : Ag.Rd) : Prop where
  kind : x.kind < 100
  view : x.view <= Ag.mostView
  last : x.last <= Ag.mostView
  agr : x.agreed <= 200
  list : LF x.list
theorem adm {me n : Nat} (hm : me < 100) (hn : n < 100) : ∀ (l : List Ag.Rd) (c : Ag.Co), (∀ x ∈ l, RFine x) -> openB me n c (l.map (recB me n)) = c.replay l
  | [], c, _ => rfl
  | x :: l, c, h => by
    have hx := h x List.mem_cons_self; have hv := hx.view; have hl := hx.last; have hk := hx.kind; have ha := hx.agr; unfold Ag.mostView at hv hl; obtain ⟨h1, h2⟩ := ala (me := me) (n := n) (x := x) (by omega) (by omega) (by omega) (by omega) (by omega) (by omega) hx.list
    rw [List.map_cons, openB, Ag.Co.replay]; by_cases hok : x.ok
    · rw [if_pos (h2.2 hok), if_pos hok, h1]
      cases hc : c.apply x with
      | none => rfl
      | some d =>
        rw [Option.bind_some, Option.bind_some]; exact adm hm hn l d fun y hy => h y (List.mem_cons_of_mem _ hy)
    · rw [if_neg (fun e => hok (h2.1 e)), if_neg hok]
def RS' (s : Ag.St) : Prop := ∀ x ∈ s.save, RFine x
theorem RS'.nil (c : Ag.Co) : RS' ⟨c, [], []⟩ := fun x h => by cases h
theorem abc {s : Ag.St} (h : RS' s) {k v : Nat} {l : List En} (hk : k < 100) (hv : v <= Ag.mostView) (hl : LF l) : RS' (s.put k v l) := fun x hx => by
  rcases List.mem_append.1 hx with hx | hx
  · exact h x hx
  · rw [List.mem_singleton.1 hx]; exact ⟨hk, hv, Nat.zero_le _, Nat.zero_le _, hl⟩
theorem adn {s : Ag.St} (h : RS' s) (m : Mg) : RS' (s.out m) := fun x hx => h x (by rw [Ag.out_save] at hx; exact hx)
theorem aot {s : Ag.St} (h : RS' s) : RS' s.lay := fun x hx => h x (by rw [(Ag.lay_c s).2] at hx; exact hx)
theorem amk {s : Ag.St} (h : RS' s) (m : Mg) : RS' (s.tell m) := fun x hx => h x (by rw [(Ag.tell_c s m).2] at hx; exact hx)
theorem ac6 {s : Ag.St} (h : RS' s) {v : Nat} (hv : v <= Ag.mostView) {l : List En} (hl : LF l) : RS' (s.take v l) := by
  unfold Ag.St.take; dsimp only; intro x hx; replace hx : x ∈ (if s.c.last = v /\ Ag.begins l s.c.list = true then (if s.c.list.length < l.length then s.put 3 0 (l.drop s.c.list.length) else s) else s.put 2 v l).save := hx
  split at hx
  · split at hx
    · exact abc h (by omega) (Nat.zero_le _) (hl.drop _) x hx
    · exact h x hx
  · exact abc h (by omega) hv hl x hx
theorem xc {s : Ag.St} (h : RS' s) (hf : CFine s.c) : RS' s.grow := by
  obtain ⟨g1, g2⟩ := aaw hf.list hf.wait.ok; unfold Ag.St.grow; dsimp only; refine aot (s := ⟨_, _, _⟩) ?_; split
  · exact ac6 (s := { s with c := { s.c with wait := [] } }) h hf.view g1
  · exact h
theorem apr {s : Ag.St} (h : RS' s) (hf : CFine s.c) : RS' s.won := by
  unfold Ag.St.won; dsimp only; split
  · exact h
  · obtain ⟨b1, b2, b3⟩ := yc hf s.c.n
    have hk : Sm 1 0 s (s.take s.c.view s.c.best.list) := v6 hf hf.view b1 b3; exact xc (s := { s.take s.c.view s.c.best.list with c := { (s.take s.c.view s.c.best.list).c with lead := true, got := fun _ => none } }) (ac6 h hf.view b1) hk.c.leads
theorem afs {s : Ag.St} (h : RS' s) (hf : CFine s.c) {q : Nat} {v : Ag.Vt} (hq : q < s.c.n) (hv : LF v.list) (hv2 : v.last <= Ag.mostView) : RS' (s.count q v) := by
  unfold Ag.St.count; split
  · exact h
  · exact apr (s := { s with c := { s.c with got := Ag.upd s.c.got q (some v) } }) h (hf.got1 hq hv hv2)
theorem aaj {s : Ag.St} (h : RS' s) (hf : CFine s.c) : RS' s.vote := by
  unfold Ag.St.vote; dsimp only; split
  · exact afs h hf hf.me hf.list hf.last
  · exact adn h _
theorem LF.nil : LF [] := ⟨by simp, by simp⟩
theorem ajw {s : Ag.St} (h : RS' s) {v : Nat} (hv : v <= Ag.mostView) : RS' (s.promise v) := by
  unfold Ag.St.promise; exact abc (s := ⟨_, _, _⟩) h (by omega) hv LF.nil
theorem afj {s : Ag.St} (h : RS' s) (hf : CFine s.c) : RS' s.begin := by
  unfold Ag.St.begin; split
  · next hv =>
    have k1 := ve hf (v := s.c.view + 1) (by omega)
    have k2 := k1.trans (aij k1.c (Ag.msg0 2 0)); exact aaj (amk (ajw h (by omega)) _) k2.c
  · exact h
theorem amn {s : Ag.St} (h : RS' s) (hf : CFine s.c) {e : En} (he : e.Ok) : RS' (s.want e) := by
  obtain ⟨h1, h2, h3⟩ := hf.wanted he; unfold Ag.St.want; dsimp only; split
  · exact xc (s := { s with c := (s.c.wanted e).1 }) h h1
  · exact h
theorem ao6 {c : Ag.Co} (hf : CFine c) {id : Nat} {row : List Int} (he : (⟨id, 0, row⟩ : En).Ok) : RS' (c.submit id row) := by
  have key : ∀ s : Ag.St, RS' s -> CFine s.c -> RS' (let s2 : Ag.St := { s with c := (s.c.wanted ⟨id, 0, row⟩).1 }; if (s.c.wanted ⟨id, 0, row⟩).2 then s2.grow else if Ag.may ⟨id, 0, row⟩ = true /\ s2.c.lead = false /\ Ag.hasId s2.c.list id = false then s2.out { Ag.msg0 1 ((s2.c.view % s2.c.n : Nat) : Int) with ents := [⟨id, 0, row⟩] } else s2) := by
    intro s h k; obtain ⟨h1, h2, h3⟩ := k.wanted he; dsimp only; split
    · exact xc (s := { s with c := (s.c.wanted ⟨id, 0, row⟩).1 }) h h1
    · split
      · exact adn (s := { s with c := (s.c.wanted ⟨id, 0, row⟩).1 }) h _
      · exact h
  have hs1 : Sm 3 14 ⟨c, [], []⟩ (if c.n = 1 /\ c.lead = false then Ag.St.begin ⟨c, [], []⟩ else ⟨c, [], []⟩) := by
    split
    · exact wm (s := ⟨c, [], []⟩) hf
    · exact ⟨hf, rfl, rfl, Nat.zero_le _, Nat.zero_le _⟩
  refine key _ ?_ hs1.c; split
  · exact afj (RS'.nil c) hf
  · exact RS'.nil c
theorem aly {c : Ag.Co} (hf : CFine c) (hq : c.quiet < 1000000000) : RS' c.tick := by
  unfold Ag.Co.tick; dsimp only; have hfq : CFine { c with quiet := c.quiet + 1 } := hf.calm hq
  split
  · exact xc (s := ⟨c, [], []⟩) (RS'.nil c) hf
  · split
    · exact afj (s := ⟨{ c with quiet := c.quiet + 1 }, [], []⟩) (RS'.nil _) hfq
    · split
      · exact aaj (s := ⟨{ c with quiet := c.quiet + 1 }, [], []⟩) (RS'.nil _) hfq
      · exact RS'.nil _
end Go.Proofs.Ytbciofnejefkiaa
namespace Go.Proofs.Ytbciofnejefkiaa
open Go Go.Am Go.Proofs
structure Gr (c d : Ag.Co) : Prop where
  agr : c.agreed <= d.agreed
  quiet : d.quiet <= c.quiet
theorem Gr.refl (c : Ag.Co) : Gr c c := ⟨Nat.le_refl _, Nat.le_refl _⟩
theorem Gr.trans {a b c : Ag.Co} (h : Gr a b) (k : Gr b c) : Gr a c := ⟨Nat.le_trans h.agr k.agr, Nat.le_trans k.quiet h.quiet⟩
theorem aak (c : Ag.Co) : Gr c c.settle := by
  unfold Ag.Co.settle; dsimp only; split
  · exact ⟨Nat.le_refl _, Nat.le_refl _⟩
  · exact ⟨Nat.le_max_left _ _, Nat.le_refl _⟩
theorem an2 (s : Ag.St) : Gr s.c s.lay.c := by rw [(Ag.lay_c s).1]; exact Gr.refl _
theorem anw (s : Ag.St) (m : Mg) : Gr s.c (s.tell m).c := by rw [(Ag.tell_c s m).1]; exact Gr.refl _
theorem aam (s : Ag.St) (m : Mg) : Gr s.c (s.out m).c := by rw [Ag.out_c]; exact Gr.refl _
theorem abx (s : Ag.St) (v : Nat) (l : List En) : Gr s.c (s.take v l).c := by rw [Ag.take_c]; exact ⟨Nat.le_refl _, Nat.le_refl _⟩
theorem we (s : Ag.St) : Gr s.c s.grow.c := by
  unfold Ag.St.grow; dsimp only; have key : ∀ t : Ag.St, Gr s.c t.c -> Gr s.c (Ag.St.lay { t with c := t.c.settle }).c := fun t h => (h.trans (aak t.c)).trans (an2 { t with c := t.c.settle })
  refine key _ ?_; split
  · have := abx { s with c := { s.c with wait := [] } } s.c.view (Ag.grown s.c.list s.c.wait)
    exact ⟨this.agr, this.quiet⟩
  · exact ⟨Nat.le_refl _, Nat.le_refl _⟩
theorem an7 (s : Ag.St) : Gr s.c s.won.c := by
  unfold Ag.St.won; dsimp only; split
  · exact Gr.refl _
  · refine Gr.trans (b := { (s.take s.c.view s.c.best.list).c with lead := true, got := fun _ => none }) ?_ (we { s.take s.c.view s.c.best.list with c := { (s.take s.c.view s.c.best.list).c with lead := true, got := fun _ => none } })
    have := abx s s.c.view s.c.best.list; exact ⟨this.agr, this.quiet⟩
theorem aga (s : Ag.St) (q : Nat) (v : Ag.Vt) : Gr s.c (s.count q v).c := by
  unfold Ag.St.count; split
  · exact Gr.refl _
  · have := an7 { s with c := { s.c with got := Ag.upd s.c.got q (some v) } }
    exact ⟨this.agr, this.quiet⟩
theorem acx (s : Ag.St) : Gr s.c s.vote.c := by
  unfold Ag.St.vote; dsimp only; split
  · exact aga _ _ _
  · exact aam _ _
theorem ah2 (s : Ag.St) (v : Nat) : Gr s.c (s.promise v).c := ⟨Nat.le_refl _, Nat.zero_le _⟩
theorem af3 (s : Ag.St) : Gr s.c s.begin.c := by
  unfold Ag.St.begin; split
  · exact ((ah2 s _).trans (anw _ _)).trans (acx _)
  · exact Gr.refl _
theorem zt (c : Ag.Co) (e : En) : Gr c (c.wanted e).1 := by
  unfold Ag.Co.wanted; split
  · exact Gr.refl _
  · exact ⟨Nat.le_refl _, Nat.le_refl _⟩
theorem an9 (s : Ag.St) (e : En) : Gr s.c (s.want e).c := by
  unfold Ag.St.want; dsimp only; split
  · exact (zt _ _).trans (we { s with c := (s.c.wanted e).1 })
  · exact zt _ _
theorem ajx : ∀ (l : List En) (s : Ag.St), Gr s.c (l.foldl Ag.St.want s).c
  | [], s => Gr.refl _
  | e :: l, s => (an9 s e).trans (ajx l _)
theorem ahw (c : Ag.Co) (id : Nat) (row : List Int) : Gr c (c.submit id row).c := by
  have key : ∀ s : Ag.St, Gr c s.c -> Gr c (let s2 : Ag.St := { s with c := (s.c.wanted ⟨id, 0, row⟩).1 }; if (s.c.wanted ⟨id, 0, row⟩).2 then s2.grow else if Ag.may ⟨id, 0, row⟩ = true /\ s2.c.lead = false /\ Ag.hasId s2.c.list id = false then s2.out { Ag.msg0 1 ((s2.c.view % s2.c.n : Nat) : Int) with ents := [⟨id, 0, row⟩] } else s2).c := by
    intro s h; have h2 : Gr c (s.c.wanted ⟨id, 0, row⟩).1 := h.trans (zt _ _); dsimp only; split
    · exact h2.trans (we { s with c := (s.c.wanted ⟨id, 0, row⟩).1 })
    · split
      · exact h2.trans (aam { s with c := (s.c.wanted ⟨id, 0, row⟩).1 } _)
      · exact h2
  refine key _ ?_; split
  · exact af3 ⟨c, [], []⟩
  · exact Gr.refl _
theorem afx (c : Ag.Co) : c.agreed <= c.tick.c.agreed /\ c.tick.c.quiet <= c.quiet + 1 := by
  unfold Ag.Co.tick; dsimp only; split
  · have := we ⟨c, [], []⟩; exact ⟨this.agr, Nat.le_succ_of_le this.quiet⟩
  · split
    · have := af3 ⟨{ c with quiet := c.quiet + 1 }, [], []⟩; exact ⟨this.agr, this.quiet⟩
    · split
      · have := acx ⟨{ c with quiet := c.quiet + 1 }, [], []⟩; exact ⟨this.agr, this.quiet⟩
      · exact ⟨Nat.le_refl _, Nat.le_refl _⟩
theorem aen (s : Ag.St) (m : Mg) : Gr s.c (s.fin m).c := by
  unfold Ag.St.fin; split
  · exact ⟨Nat.le_max_left _ _, Nat.le_refl _⟩
  · exact Gr.refl _
theorem amp (s : Ag.St) (m : Mg) : Gr s.c (s.hear m).c := by
  unfold Ag.St.hear; have h0 : Gr s.c { s.c with quiet := 0 } := ⟨Nat.le_refl _, Nat.zero_le _⟩
  refine h0.trans ?_; show Gr ({ s with c := { s.c with quiet := 0 } } : Ag.St).c _
  generalize ({ s with c := { s.c with quiet := 0 } } : Ag.St) = t
  unfold Ag.St.heard; split
  · split
    · exact Gr.refl _
    · unfold Ag.St.hold
      refine Gr.trans ?_ (aen _ _); refine Gr.trans ?_ (aam _ _); split
      · exact abx _ _ _
      · exact Gr.refl _
  · exact aen _ _
theorem aqu (s : Ag.St) (m : Mg) : Gr s.c (get2 s m).c := by
  unfold get2; split
  · split
    · exact aga _ _ _
    · exact Gr.refl _
  split
  · split
    · have := aak { s.c with held := Ag.upd s.c.held m.from_.toNat (some (max ((s.c.held m.from_.toNat).getD 0) m.op)) }
      exact ⟨this.agr, this.quiet⟩
    · exact Gr.refl _
  split
  · split
    · exact amp _ _
    · exact Gr.refl _
  · exact Gr.refl _
theorem ahf (c : Ag.Co) (m : Mg) : Gr c (get1 c m).c := by
  unfold get1; split
  · exact (ah2 ⟨c, [], []⟩ m.view).trans (acx _)
  · exact Gr.refl _
theorem acn (c : Ag.Co) (m : Mg) : Gr c (c.get m).c := by
  by_cases ho : c.odd m
  · rw [acq c m ho]; exact Gr.refl _
  by_cases hk : m.kind = 1
  · rw [tu c m ho hk]
    exact ajx _ ⟨c, [], []⟩
  by_cases hv : m.view < (get1 c m).c.view
  · rw [tv c m ho hk hv]; exact ahf c m
  · rw [pz c m ho hk hv]; exact (ahf c m).trans (aqu _ _)
theorem agw {s : Ag.St} (h : CFine s.c) (m : Mg) : Sm 0 0 s (s.fin m) := by
  unfold Ag.St.fin; split
  · exact ⟨⟨h.me, h.n, h.view, h.last, h.list, (by have := h.agr; show max s.c.agreed (min m.commit s.c.list.length) <= s.c.list.length; omega), h.wait, h.quiet, h.got, h.held⟩, rfl, rfl, Nat.le_refl _, Nat.le_refl _⟩
  · exact ⟨h, rfl, rfl, Nat.le_refl _, Nat.le_refl _⟩
theorem an3 {l w : List En} (h : Ag.begins l w = true) : w.length <= l.length := by
  unfold Ag.begins at h; rw [Bool.and_eq_true, decide_eq_true_eq] at h; exact h.1
theorem aoo {t : Ag.St} (hc : CFine t.c) {m : Mg} (hL : LF m.ents) (hv : m.view <= Ag.mostView) : Sm 1 1 t (t.heard m) := by
  unfold Ag.St.heard; split
  · split
    · exact ⟨hc, rfl, rfl, by omega, by omega⟩
    · next hb =>
      have hb2 := an3 (by simpa using hb)
      rw [List.length_take] at hb2; have ha := hc.agr; unfold Ag.St.hold
      have k1 : Sm 1 0 t (if t.c.last < m.view \/ t.c.list.length < m.ents.length then t.take m.view m.ents else t) := by
        split
        · exact v6 hc hv hL (by omega)
        · exact ⟨hc, rfl, rfl, by omega, by omega⟩
      exact ((k1.trans (t8 k1.c _)).trans (agw (t8 k1.c _).c m)).more (by omega) (by omega)
  · exact (agw hc m).more (by omega) (by omega)
theorem an5 {s : Ag.St} (h : CFine s.c) {m : Mg} (hL : LF m.ents) (hv : m.view <= Ag.mostView) : Sm 1 1 s (s.hear m) := by
  have h0 : CFine { s.c with quiet := 0 } := h.calm (Nat.zero_le _)
  have k0 : Sm 0 0 s { s with c := { s.c with quiet := 0 } } := o9 (s := s) h0 rfl rfl
  exact (k0.trans (aoo (t := { s with c := { s.c with quiet := 0 } }) h0 hL hv)).more (by omega) (by omega)
theorem ag3 {s : Ag.St} (h : RS' s) (m : Mg) : RS' (s.fin m) := by
  unfold Ag.St.fin; split
  · exact h
  · exact h
theorem am0 {s : Ag.St} (h : RS' s) (hf : CFine s.c) {m : Mg} (hL : LF m.ents) (hv : m.view <= Ag.mostView) : RS' (s.hear m) := by
  unfold Ag.St.hear; have hr : RS' { s with c := { s.c with quiet := 0 } } := h
  generalize ({ s with c := { s.c with quiet := 0 } } : Ag.St) = t at *
  unfold Ag.St.heard; split
  · split
    · exact hr
    · unfold Ag.St.hold
      refine ag3 (adn ?_ _) m; split
      · exact ac6 hr hv hL
      · exact hr
  · exact ag3 hr m
theorem ak9 {s : Ag.St} (h : CFine s.c) {m : Mg} (hm : m.Ok) (hL : LF m.ents) (hv : m.view <= Ag.mostView) (hf : m.from_.toNat < s.c.n) : Sm 2 7 s (get2 s m) := by
  have h0 : Sm 2 7 s s := ⟨h, rfl, rfl, by omega, by omega⟩
  unfold get2; split
  · split
    · next hk => exact agl h hf hL (by show m.last <= _; have := hk.2; omega)
    · exact h0
  split
  · split
    · have h1 : CFine { s.c with held := Ag.upd s.c.held m.from_.toNat (some (max ((s.c.held m.from_.toNat).getD 0) m.op)) } := h.hold hf (by
        have := hm.op
        cases hh : s.c.held m.from_.toNat with
        | none => simp only [Option.getD_none]; omega
        | some x => have := (h.held _ _ hh).2; simp only [Option.getD_some]; omega)
      exact (o9 (s := s) h1.settle (sj _).1 (sj _).2).more (by omega) (by omega)
    · exact h0
  split
  · split
    · exact (an5 h hL hv).more (by omega) (by omega)
    · exact h0
  · exact h0
theorem aqh {s : Ag.St} (hr : RS' s) (h : CFine s.c) {m : Mg} (hL : LF m.ents) (hv : m.view <= Ag.mostView) (hf : m.from_.toNat < s.c.n) : RS' (get2 s m) := by
  unfold get2; split
  · split
    · next hk => exact afs hr h hf hL (by show m.last <= _; have := hk.2; omega)
    · exact hr
  split
  · split
    · exact hr
    · exact hr
  split
  · split
    · exact am0 hr h hL hv
    · exact hr
  · exact hr
theorem aeq : ∀ (l : List En) {s : Ag.St}, RS' s -> CFine s.c -> (∀ e ∈ l, e.Ok) -> RS' (l.foldl Ag.St.want s)
  | [], s, h, _, _ => h
  | e :: l, s, h, hf, he => aeq l (amn h hf (he e List.mem_cons_self)) (aiq hf (he e List.mem_cons_self)).c fun x hx => he x (List.mem_cons_of_mem _ hx)
theorem vl {c : Ag.Co} (hf : CFine c) {m : Mg} (hm : m.Ok) : Sm 200 1400 ⟨c, [], []⟩ (c.get m) /\ RS' (c.get m) := by
  by_cases ho : c.odd m
  · rw [acq c m ho]; exact ⟨⟨hf, rfl, rfl, by omega, by omega⟩, RS'.nil c⟩
  have ho2 := ho; unfold Ag.Co.odd at ho2; simp only [not_or, Classical.not_not] at ho2; obtain ⟨o1, o2, o3, o4, o5, o6⟩ := ho2; have hL := aho hm (by simpa using o6)
  have hfr : m.from_.toNat < c.n := by have := o1.1.2.1; omega
  by_cases hk : m.kind = 1
  · rw [tu c m ho hk]
    have h200 := hL.len; refine ⟨(ac5 (s := ⟨c, [], []⟩) hf (fun e he => (hL.ok e he).1) m.ents.length (Nat.le_refl _)).more h200 (by omega), ?_⟩
    unfold wantK; rw [List.take_length]; exact aeq _ (RS'.nil c) hf fun e he => (hL.ok e he).1
  have h1 := ads hf (m := m) (by omega)
  have r1 : RS' (get1 c m) := by
    unfold get1; split
    · exact aaj (ajw (RS'.nil c) (by omega)) (ve (s := ⟨c, [], []⟩) hf (by omega)).c
    · exact RS'.nil c
  by_cases hv : m.view < (get1 c m).c.view
  · rw [tv c m ho hk hv]; exact ⟨h1.more (by omega) (by omega), r1⟩
  · rw [pz c m ho hk hv]
    have hn : (get1 c m).c.n = c.n := h1.n; exact ⟨(h1.trans (ak9 h1.c hm hL (by omega) (by rw [hn]; exact hfr))).more (by omega) (by omega), aqh r1 h1.c hL (by omega) (by rw [hn]; exact hfr)⟩
theorem vg {c : Ag.Co} (hf : CFine c) (hq : c.quiet < 1000000000) : Sm 200 1400 ⟨c, [], []⟩ c.tick /\ RS' c.tick := by
  refine ⟨?_, aly hf hq⟩; unfold Ag.Co.tick; dsimp only; have hfq : CFine { c with quiet := c.quiet + 1 } := hf.calm hq
  have h0 : Sm 0 0 ⟨c, [], []⟩ ⟨{ c with quiet := c.quiet + 1 }, [], []⟩ := o9 (s := ⟨c, [], []⟩) hfq rfl rfl
  split
  · exact (v7 (s := ⟨c, [], []⟩) hf).more (by omega) (by omega)
  · split
    · exact (h0.trans (wm (s := ⟨{ c with quiet := c.quiet + 1 }, [], []⟩) hfq)).more (by omega) (by omega)
    · split
      · exact (h0.trans (ab1 (s := ⟨{ c with quiet := c.quiet + 1 }, [], []⟩) hfq)).more (by omega) (by omega)
      · exact h0.more (by omega) (by omega)
theorem vk {c : Ag.Co} (hf : CFine c) {id : Nat} {row : List Int} (he : (⟨id, 0, row⟩ : En).Ok) : Sm 200 1400 ⟨c, [], []⟩ (c.submit id row) /\ RS' (c.submit id row) := by
  refine ⟨?_, ao6 hf he⟩
  have key : ∀ s : Ag.St, Sm 3 14 ⟨c, [], []⟩ s -> Sm 200 1400 ⟨c, [], []⟩ (let s2 : Ag.St := { s with c := (s.c.wanted ⟨id, 0, row⟩).1 }; if (s.c.wanted ⟨id, 0, row⟩).2 then s2.grow else if Ag.may ⟨id, 0, row⟩ = true /\ s2.c.lead = false /\ Ag.hasId s2.c.list id = false then s2.out { Ag.msg0 1 ((s2.c.view % s2.c.n : Nat) : Int) with ents := [⟨id, 0, row⟩] } else s2) := by
    intro s k; obtain ⟨h1, h2, h3⟩ := k.c.wanted he; have k2 := k.trans (o9 (s := s) h1 h2 h3); dsimp only; split
    · exact (k2.trans (v7 (s := { s with c := (s.c.wanted ⟨id, 0, row⟩).1 }) h1)).more (by omega) (by omega)
    · split
      · exact (k2.trans (t8 (s := { s with c := (s.c.wanted ⟨id, 0, row⟩).1 }) h1 _)).more (by omega) (by omega)
      · exact k2.more (by omega) (by omega)
  refine key _ ?_; split
  · exact wm (s := ⟨c, [], []⟩) hf
  · exact ⟨hf, rfl, rfl, Nat.zero_le _, Nat.zero_le _⟩
end Go.Proofs.Ytbciofnejefkiaa
namespace Go.Proofs.Ytbciofnejefkiaa
open Go Go.Am Go.Proofs
def s7a : Ag.St := (Ag.Co.new 0 1).submit 7 [1]
theorem e7ok : (⟨7, 0, [1]⟩ : En).Ok := ⟨by decide, by decide, fun v hv => by rw [show v = 1 from List.mem_singleton.1 hv]; decide⟩
theorem ans : CFine s7a.c /\ RS' s7a /\ s7a.c.me = 0 /\ s7a.c.n = 1 /\ s7a.save.length <= 200 := by
  obtain ⟨h1, h2⟩ := vk (CFine.new (me := 0) (n := 1) (by omega) (by omega)) e7ok
  exact ⟨h1.c, h2, h1.me, h1.n, by have := h1.sv; simp only [List.length_nil] at this; exact Nat.le_trans this (by omega)⟩
theorem an0 : s7a.c.list.take s7a.c.agreed = [⟨7, 0, [1]⟩] := by rfl
theorem akd : ((Ag.Co.new 0 1).replay s7a.save).isSome = true := by decide +kernel
theorem aah {me n : Nat} {x : Ag.Rd} (h : RFine x) : (recB me n x).length <= 1000000 := by
  have h1 := adj h.list; have h2 := ux [me, n, x.kind, x.view, x.last, x.agreed, x.list.length]; unfold recB; rw [List.length_append]; simp only [List.length_cons, List.length_nil] at h2; omega
theorem CAt.ext {H H' : AHeap} {F : Ob} {c : Ag.Co} (h : CAt H F c) (fr : ∀ p y, H p = some y -> H' p = some y) : CAt H' F c := by
  obtain ⟨⟨off, xs, hco, hw, hx1, hx2⟩, ⟨eg, hg, hg2⟩, ⟨eh, hh, hh2⟩⟩ := h; exact ⟨⟨off, xs, fr _ _ hco, fr _ _ hw, hx1, hx2⟩, ⟨eg, fr _ _ hg, hg2⟩, ⟨eh, fr _ _ hh, hh2⟩⟩
theorem ai6 (H : AHeap) : ACalls Try.prog 14 [] H fun r H' => r = .raw (.bool true) /\ ∀ p y, H p = some y -> H' p = some y := by
  obtain ⟨k1, k2, k3, k4, k5⟩ := ans; have k6 := an0; obtain ⟨d, hd⟩ := Option.isSome_iff_exists.1 akd; have ho : openB 0 1 (Ag.Co.new 0 1) (s7a.save.map (recB 0 1)) = some d := by rw [adm (by omega) (by omega) _ _ k2]; exact hd
  have hO := fun H => Open_calls H 0 1 (s7a.save.map (recB 0 1)) (by omega) (by omega) (by omega) (by rw [List.length_map]; omega) (fun b hb => by
    obtain ⟨x, hx, rfl⟩ := List.mem_map.1 hb; exact aah (k2 x hx))
  rw [ho] at hO; have hS := fun H F h nd => Submit_calls H F (Ag.Co.new 0 1) 7 [1] h nd (CFine.new (by omega) (by omega)) e7ok (by simp)
  have hs7 : (Ag.Co.new 0 1).submit 7 [1] = s7a := rfl; rw [hs7] at hS; clear hs7 hd ho
  have hsa : stepA s7a = .agg [.sls (s7a.save.map (recB 0 1)).length ((s7a.save.map (recB 0 1)).map .bys), sendA s7a] := by
    unfold stepA saveA; rw [k3, k4, List.length_map, List.map_map]; rfl
  rw [hsa] at hS; have hC := fun H F h nd => CopyP_calls H F s7a.c h nd k1
  have hL := fun H F h => Committed_calls H F s7a.c h k1
  rw [k6] at hL; clear hsa k6; generalize s7a.save.map (recB 0 1) = sv at *; unfold sendA at *; generalize s7a.send.length = sk at *; generalize s7a.send.flatMap Mg.cells = sn at *; generalize s7a.c = c7 at *; refine rf Try.func14 rfl (by decide) ?_
  focus (refine f0 ?_; (refine zc ah (New_calls _ 0 1 (by omega) (by omega) (by omega)) ?_; rintro r H' ⟨F, rfl, a1, a2, a3, a4⟩); refine jj ?_; refine ku ?_; refine bc ?_; refine bz ?_; refine jk ?_; refine an ?_; refine zg2 rfl rfl rfl (fun hc => ?_) (fun hc => ?_); exact absurd hc aj; refine lx ?_; refine ae rfl (xq rfl rfl) ?_; refine cd ?_; refine fm ?_; refine cy ?_)
  have hS1 := hS _ F a1 a2
  focus (refine dg ?_; refine kq ?_; (refine zc ah (hS1) ?_; rintro r H' ⟨rfl, F2, b1, b2⟩); refine cz rfl rfl rfl (fun oN hoN => ?_); refine jo ?_; refine aq ?_)
  have o2 := b2.o; have hL1 := hL _ F2 b1; rw [o2] at hL1
  focus (refine dg ?_; (refine zc ah (hL1) ?_; rintro r H' ⟨rfl, rfl⟩); refine ae rfl (gq (v := .sls _ _) rfl) ?_; refine aq ?_)
  have hO1 := hO H'
  focus (refine az ?_; refine ez ?_; (refine zc ah (hO1) ?_; rintro r H' ⟨⟨F3, rfl, c1, c2, c3⟩, c4⟩); refine jj ?_; refine ku ?_; refine bc ?_)
  have b3 := b1.ext c4; have hC1 := hC _ F2 b3 b2.nd; rw [o2] at hC1
  focus (refine az ?_; refine ey ?_; refine fh ?_; refine an ?_; refine zg1 rfl rfl rfl (fun hc => ?_) (fun hc => ?_); refine dt ?_; refine a0 ?_; refine ic ?_; refine a0 ?_; refine ko ?_; refine a0 ?_; refine gx ?_; refine a0 ?_; refine fh ?_; refine bu ?_; refine an ?_; refine zg1 rfl rfl rfl (fun hc => ?_) (fun hc => ?_); refine dt ?_; refine a0 ?_; refine ic ?_; refine a0 ?_; refine ko ?_; refine a0 ?_; refine gx ?_; refine a0 ?_; refine eu ?_; refine a0 ?_; refine fh ?_; refine bu ?_; refine an ?_; refine zg1 rfl rfl rfl (fun hc => ?_) (fun hc => ?_); refine dt ?_; refine a0 ?_; refine ic ?_; refine a0 ?_; refine ko ?_; refine a0 ?_; refine gx ?_; refine a0 ?_; refine ic ?_; refine a0 ?_; refine gx ?_; refine a0 ?_; refine fh ?_; refine bu ?_; refine an ?_; refine zg1 rfl rfl rfl (fun hc => ?_) (fun hc => ?_); refine ep ?_; refine fh ?_; refine bu ?_; refine an ?_; refine zg1 rfl rfl rfl (fun hc => ?_) (fun hc => ?_); refine lx ?_; refine ae rfl (ahr rfl rfl) ?_; refine bu ?_; refine i9 ?_; (refine zc ah (hC1) ?_; rintro r H' ⟨F4, rfl, d1, d2, d3, d4⟩); refine a0 ?_; refine ae rfl (ahr rfl rfl) ?_; refine bu ?_; refine bn ?_; rotate_left; exact absurd hc aj; exact absurd hc aj; exact absurd hc aj; exact absurd hc aj; exact absurd hc aj)
  exact ⟨.inl rfl, _, _, _, Ent.refl _ _, ret1 rfl rfl, rfl, fun p y hp => d4 p y (c4 p y (b2.fr p y (a4 p y hp) (fun e => by rw [a3 p e] at hp; cases hp)))⟩
end Go.Proofs.Ytbciofnejefkiaa
namespace Go.Proofs.Ytbciofnejefkiaa
open Go Go.Am Go.Proofs
theorem CFine.full {c : Ag.Co} (h : CFine c) : CFine { c with agreed := c.list.length } := ⟨h.me, h.n, h.view, h.last, h.list, Nat.le_refl _, h.wait, h.quiet, h.got, h.held⟩
end Go.Proofs.Ytbciofnejefkiaa
namespace Go.Proofs.Ytbciofnejefkiaa
open Go Go.Am Go.Proofs
theorem CAt.live {H : AHeap} {F : Ob} {c : Ag.Co} (h : CAt H F c) : ∀ p ∈ F.c, ∃ y, H p = some y := by
  obtain ⟨⟨off, xs, hco, hw, hx1, hx2⟩, ⟨eg, hg, hg2⟩, ⟨eh, hh, hh2⟩⟩ := h; intro p hp; simp only [Ob.c, List.mem_cons, List.not_mem_nil, or_false] at hp; rcases hp with e | e | e | e <;> rw [e] <;> exact ⟨_, by assumption⟩
theorem CAt.keep {H H' : AHeap} {F G G' : Ob} {c : Ag.Co} (h : CAt H F c) (t : TurnK H G G' H') (hd : ∀ p ∈ F.c, p ∉ G.c) : CAt H' F c := by
  obtain ⟨⟨off, xs, hco, hw, hx1, hx2⟩, ⟨eg, hg, hg2⟩, ⟨eh, hh, hh2⟩⟩ := h; exact ⟨⟨off, xs, t.fr _ _ hco (hd _ (by simp [Ob.c])), t.fr _ _ hw (hd _ (by simp [Ob.c])), hx1, hx2⟩, ⟨eg, t.fr _ _ hg (hd _ (by simp [Ob.c])), hg2⟩, ⟨eh, t.fr _ _ hh (hd _ (by simp [Ob.c])), hh2⟩⟩
end Go.Proofs.Ytbciofnejefkiaa
namespace Go.Proofs.Ytbciofnejefkiaa
open Go Go.Am Go.Proofs
structure Wo where
  w : Nat
  c : Nat
  s : Nat
  k : Nat
  l : Nat
  i : Nat
  r : Nat
  b : Nat
def Wo.l' (O : Wo) : List Nat := [O.w, O.c, O.s, O.k, O.l, O.i, O.r, O.b]
def cutA (x : Option Nat) : AV := mI (match x with | some k => (k : Int) | none => -1)
def svA (r n : Nat) (l : List Ag.Rd) : AV := .sls l.length (l.map fun x => .bys (recB r n x))
def rowA (x : List Int) : AV := .sls x.length (x.map mI)
def worldC (O : Wo) (w : Ag.W) : List AV := [mI w.n, .vw O.c 1 0 w.n, .vw O.s 1 0 w.n, .vw O.k 1 0 w.n, .vw O.l 9 0 w.l.length, .vw O.i 1 0 w.ids.length, .vw O.r 1 0 w.ids.length, .vw O.b 3 0 w.best.length]
structure WAt (H : AHeap) (O : Wo) (F : Nat -> Ob) (w : Ag.W) : Prop where
  aw : H O.w = some (.cel (worldC O w))
  ac : H O.c = some (.cel ((List.range w.n).map fun r => .ptr (F r).o 0))
  asv : H O.s = some (.cel ((List.range w.n).map fun r => svA r w.n (w.saved r)))
  ak : H O.k = some (.cel ((List.range w.n).map fun r => cutA (w.cut r)))
  al : H O.l = some (.cel (w.l.flatMap Mg.cells))
  ai : H O.i = some (.cel (w.ids.map fun x => uI x.1))
  ar : H O.r = some (.cel (w.ids.map fun x => rowA x.2))
  ab : H O.b = some (.cel (w.best.flatMap En.cells))
  nd : O.l'.Nodup
  co : ∀ r, r < w.n -> CAt H (F r) (w.c r)
  ndC : ∀ r, r < w.n -> NdC (F r)
  ap : ∀ r, r < w.n -> ∀ p ∈ (F r).c, p ∉ O.l'
  rr : ∀ r s, r < w.n -> s < w.n -> r ≠ s -> ∀ p ∈ (F r).c, p ∉ (F s).c
def Dom (O : Wo) (F : Nat -> Ob) (n : Nat) (p : Nat) : Prop := p ∈ O.l' \/ ∃ r, r < n /\ p ∈ (F r).c
structure TurnW (n : Nat) (H : AHeap) (O : Wo) (F : Nat -> Ob) (O' : Wo) (F' : Nat -> Ob) (H' : AHeap) : Prop where
  w : O'.w = O.w
  new : ∀ p, Dom O' F' n p -> Dom O F n p \/ H p = none
  fr : ∀ p y, H p = some y -> ¬ Dom O F n p -> H' p = some y
theorem TurnW.refl (n : Nat) (H : AHeap) (O : Wo) (F : Nat -> Ob) : TurnW n H O F O F H := ⟨rfl, fun p hp => .inl hp, fun p y hp _ => hp⟩
theorem TurnW.trans {n : Nat} {H H1 H2 : AHeap} {O O1 O2 : Wo} {F F1 F2 : Nat -> Ob} (a : TurnW n H O F O1 F1 H1) (b : TurnW n H1 O1 F1 O2 F2 H2) : TurnW n H O F O2 F2 H2 := by
  refine ⟨b.w.trans a.w, fun p hp => ?_, fun p y hp hd => ?_⟩
  · rcases b.new p hp with h | h
    · exact a.new p h
    · by_cases hd : Dom O F n p
      · exact .inl hd
      · right
        cases hx : H p with
        | none => rfl
        | some y => rw [a.fr p y hx hd] at h; cases h
  · have h1 := a.fr p y hp hd
    refine b.fr p y h1 fun h => ?_
    rcases a.new p h with h | h
    · exact hd h
    · rw [h] at hp; cases hp
theorem TurnW.keep {n : Nat} {H H1 : AHeap} {O O1 : Wo} {F F1 : Nat -> Ob} (a : TurnW n H O F O1 F1 H1) {p : Nat} {y : AO} (hp : H p = some y) (hd : ¬ Dom O F n p) : H1 p = some y /\ ¬ Dom O1 F1 n p :=
  ⟨a.fr p y hp hd, fun h => by
    rcases a.new p h with h | h
    · exact hd h
    · rw [h] at hp; cases hp⟩
theorem WAt.live {H : AHeap} {O : Wo} {F : Nat -> Ob} {w : Ag.W} (h : WAt H O F w) {p : Nat} (hd : Dom O F w.n p) : ∃ y, H p = some y := by
  rcases hd with hd | ⟨r, hr, hd⟩
  · simp only [Wo.l', List.mem_cons, List.not_mem_nil, or_false] at hd
    rcases hd with e | e | e | e | e | e | e | e <;> rw [e]
    · exact ⟨_, h.aw⟩
    · exact ⟨_, h.ac⟩
    · exact ⟨_, h.asv⟩
    · exact ⟨_, h.ak⟩
    · exact ⟨_, h.al⟩
    · exact ⟨_, h.ai⟩
    · exact ⟨_, h.ar⟩
    · exact ⟨_, h.ab⟩
  · exact (h.co r hr).live p hd
theorem WAt.fresh {H : AHeap} {O : Wo} {F : Nat -> Ob} {w : Ag.W} (h : WAt H O F w) {p : Nat} (hp : H p = none) : ¬ Dom O F w.n p := fun hd => by
  obtain ⟨y, hy⟩ := h.live hd; rw [hp] at hy; cases hy
structure WNe (O : Wo) : Prop where
  wc : O.w ≠ O.c
  ws : O.w ≠ O.s
  wk : O.w ≠ O.k
  wl : O.w ≠ O.l
  wi : O.w ≠ O.i
  wr : O.w ≠ O.r
  wb : O.w ≠ O.b
  cs : O.c ≠ O.s
  ck : O.c ≠ O.k
  cl : O.c ≠ O.l
  ci : O.c ≠ O.i
  cr : O.c ≠ O.r
  cb : O.c ≠ O.b
  sk : O.s ≠ O.k
  sl : O.s ≠ O.l
  si : O.s ≠ O.i
  sr : O.s ≠ O.r
  sb : O.s ≠ O.b
  kl : O.k ≠ O.l
  ki : O.k ≠ O.i
  kr : O.k ≠ O.r
  kb : O.k ≠ O.b
  li : O.l ≠ O.i
  lr : O.l ≠ O.r
  lb : O.l ≠ O.b
  ir : O.i ≠ O.r
  ib : O.i ≠ O.b
  rb : O.r ≠ O.b
theorem Wo.ne {O : Wo} (h : O.l'.Nodup) : WNe O := by
  simp only [Wo.l', List.nodup_cons, List.mem_cons, List.not_mem_nil, or_false, not_or, not_false_eq_true, List.nodup_nil, and_true] at h; obtain ⟨⟨a1, a2, a3, a4, a5, a6, a7⟩, ⟨b1, b2, b3, b4, b5, b6⟩, ⟨c1, c2, c3, c4, c5⟩, ⟨d1, d2, d3, d4⟩, ⟨e1, e2, e3⟩, ⟨f1, f2⟩, g1⟩ := h; exact ⟨a1, a2, a3, a4, a5, a6, a7, b1, b2, b3, b4, b5, b6, c1, c2, c3, c4, c5, d1, d2, d3, d4, e1, e2, e3, f1, f2, g1⟩
theorem Wo.nd {O : Wo} (h : WNe O) : O.l'.Nodup := by
  obtain ⟨a1, a2, a3, a4, a5, a6, a7, b1, b2, b3, b4, b5, b6, c1, c2, c3, c4, c5, d1, d2, d3, d4, e1, e2, e3, f1, f2, g1⟩ := h; simp only [Wo.l', List.nodup_cons, List.mem_cons, List.not_mem_nil, or_false, not_or, not_false_eq_true, List.nodup_nil, and_true]; exact ⟨⟨a1, a2, a3, a4, a5, a6, a7⟩, ⟨b1, b2, b3, b4, b5, b6⟩, ⟨c1, c2, c3, c4, c5⟩, ⟨d1, d2, d3, d4⟩, ⟨e1, e2, e3⟩, ⟨f1, f2⟩, g1⟩
theorem WAt.turn {H H' : AHeap} {O : Wo} {F : Nat -> Ob} {w : Ag.W} {r : Nat} {G : Ob} {c : Ag.Co} (h : WAt H O F w) (hr : r < w.n) (hc : CAt H' G c) (t : TurnK H (F r) G H') :
    WAt H' O (Ag.upd F r G) { w with c := Ag.upd w.c r c } /\ TurnW w.n H O F O (Ag.upd F r G) H' := by
  have hO : ∀ p y, p ∈ O.l' -> H p = some y -> H' p = some y := fun p y hp hy => t.fr p y hy fun hF => h.ap r hr p hF hp
  have hF : ∀ q, Ag.upd F r G q = if q = r then G else F q := fun q => rfl
  refine ⟨⟨hO _ _ (by simp [Wo.l']) h.aw, ?_, hO _ _ (by simp [Wo.l']) h.asv, hO _ _ (by simp [Wo.l']) h.ak, hO _ _ (by simp [Wo.l']) h.al, hO _ _ (by simp [Wo.l']) h.ai, hO _ _ (by simp [Wo.l']) h.ar, hO _ _ (by simp [Wo.l']) h.ab, h.nd, fun q hq => ?_, fun q hq => ?_, fun q hq p hp => ?_, fun q s hq hs hne p hp hps => ?_⟩, ⟨rfl, fun p hp => ?_, fun p y hp hd => t.fr p y hp fun hF => hd (.inr ⟨r, hr, hF⟩)⟩⟩
  · have : ((List.range w.n).map fun q => AV.ptr (Ag.upd F r G q).o 0) = (List.range w.n).map fun q => AV.ptr (F q).o 0 := by
      refine List.map_congr_left fun q _ => ?_
      rw [hF]; split
      · next e => rw [e, t.o]
      · rfl
    show H' O.c = some (.cel ((List.range w.n).map fun q => AV.ptr (Ag.upd F r G q).o 0))
    rw [this]; exact hO _ _ (by simp [Wo.l']) h.ac
  · show CAt H' (Ag.upd F r G q) (Ag.upd w.c r c q)
    by_cases e : q = r
    · rw [e, Ag.upd_same, Ag.upd_same]; exact hc
    · rw [Ag.upd_other _ _ e, Ag.upd_other _ _ e]; exact (h.co q hq).keep t (h.rr q r hq hr e)
  · by_cases e : q = r
    · rw [e, Ag.upd_same]; exact t.nd
    · rw [Ag.upd_other _ _ e]; exact h.ndC q hq
  · by_cases e : q = r
    · rw [e, Ag.upd_same] at hp
      rcases t.new p hp with hp | hp
      · exact h.ap r hr p hp
      · exact fun hx => h.fresh hp (.inl hx)
    · rw [Ag.upd_other _ _ e] at hp; exact h.ap q hq p hp
  · by_cases e : q = r
    · rw [e, Ag.upd_same] at hp
      rw [Ag.upd_other _ _ (fun x => hne (e.trans x.symm))] at hps
      rcases t.new p hp with hp | hp
      · exact h.rr r s hr hs (fun x => hne (e.trans x)) p hp hps
      · exact h.fresh hp (.inr ⟨s, hs, hps⟩)
    · rw [Ag.upd_other _ _ e] at hp
      by_cases e2 : s = r
      · rw [e2, Ag.upd_same] at hps
        rcases t.new p hps with hps | hps
        · exact h.rr q r hq hr e p hp hps
        · exact h.fresh hps (.inr ⟨q, hq, hp⟩)
      · rw [Ag.upd_other _ _ e2] at hps; exact h.rr q s hq hs hne p hp hps
  · rcases hp with hp | ⟨q, hq, hp⟩
    · exact .inl (.inl hp)
    · by_cases e : q = r
      · rw [e, Ag.upd_same] at hp
        rcases t.new p hp with hp | hp
        · exact .inl (.inr ⟨r, hr, hp⟩)
        · exact .inr hp
      · rw [Ag.upd_other _ _ e] at hp
        exact .inl (.inr ⟨q, hq, hp⟩)
end Go.Proofs.Ytbciofnejefkiaa
namespace Go.Proofs.Ytbciofnejefkiaa
open Go Go.Am Go.Proofs
theorem WAt.objs {H H' : AHeap} {O O' : Wo} {F : Nat -> Ob} {w w' : Ag.W} (h : WAt H O F w) (hn : w'.n = w.n) (hcc : w'.c = w.c) (e : O'.w = O.w)
    (h1 : H' O'.w = some (.cel (worldC O' w'))) (h2 : H' O'.c = some (.cel ((List.range w.n).map fun r => .ptr (F r).o 0))) (h3 : H' O'.s = some (.cel ((List.range w.n).map fun r => svA r w.n (w'.saved r))))
    (h4 : H' O'.k = some (.cel ((List.range w.n).map fun r => cutA (w'.cut r)))) (h5 : H' O'.l = some (.cel (w'.l.flatMap Mg.cells))) (h6 : H' O'.i = some (.cel (w'.ids.map fun x => uI x.1)))
    (h7 : H' O'.r = some (.cel (w'.ids.map fun x => rowA x.2))) (h8 : H' O'.b = some (.cel (w'.best.flatMap En.cells))) (nd : O'.l'.Nodup)
    (new : ∀ p ∈ O'.l', p ∈ O.l' \/ H p = none) (fr : ∀ p y, H p = some y -> p ∉ O.l' -> H' p = some y) : WAt H' O' F w' /\ TurnW w.n H O F O' F H' := by
  refine ⟨⟨h1, by rw [hn]; exact h2, by rw [hn]; exact h3, by rw [hn]; exact h4, h5, h6, h7, h8, nd, fun r hr => ?_, fun r hr => h.ndC r (hn ▸ hr), fun r hr p hp hx => ?_, fun r s hr hs hne p hp => h.rr r s (hn ▸ hr) (hn ▸ hs) hne p hp⟩, ⟨e, fun p hp => ?_, fun p y hp hd => fr p y hp fun hx => hd (.inl hx)⟩⟩
  · rw [hcc]
    rw [hn] at hr; obtain ⟨⟨off, xs, a1, a2, a3, a4⟩, ⟨eg, b1, b2⟩, ⟨eh, c1, c2⟩⟩ := h.co r hr; have hap := h.ap r hr; exact ⟨⟨off, xs, fr _ _ a1 (hap _ (by simp [Ob.c])), fr _ _ a2 (hap _ (by simp [Ob.c])), a3, a4⟩, ⟨eg, fr _ _ b1 (hap _ (by simp [Ob.c])), b2⟩, ⟨eh, fr _ _ c1 (hap _ (by simp [Ob.c])), c2⟩⟩
  · rw [hn] at hr
    rcases new p hx with hx | hx
    · exact h.ap r hr p hp hx
    · exact h.fresh hx (.inr ⟨r, hr, hp⟩)
  · rcases hp with hp | ⟨q, hq, hp⟩
    · rcases new p hp with hp | hp
      · exact .inl (.inl hp)
      · exact .inr hp
    · exact .inl (.inr ⟨q, hq, hp⟩)
theorem afy (H : AHeap) (a b : List Int) (ha : a.length <= 1000000000) (hb : b.length <= 1000000000) : ACalls Try.prog 71 [rowA a, rowA b] H fun r H' => r = bB (decide (a = b)) /\ H' = H := by
  unfold rowA; refine gm Try.func71 rfl (by decide) ?_
  focus (refine az ?_; refine bc ?_; refine bq ?_; refine ey ?_; refine ey ?_; refine jk ?_; refine aq ?_; refine ax rfl (fun hc => ?_) (fun hc => ?_); refine cp ?_; refine db ?_; rotate_left; refine cy ?_; refine bq ?_; refine bc ?_; refine gi ?_; rotate_left)
  · exact ⟨.inl rfl, _, _, _, Ent.refl _ _, ret1 rfl rfl, by rw [decide_eq_false (fun (e : a = b) => hc (congrArg List.length e))]; rfl, rfl⟩
  have hlen : a.length = b.length := by omega
  refine cv (fun mm R' H2 => ∃ (i : Nat), H2 = H /\ R' = [(0, .sls a.length (a.map mI)), (1, .sls b.length (b.map mI)), (5, .raw (.int .i64 (i : Int)))] /\ a.take i = b.take i /\ i + mm = a.length) ?_ ?_
  · exact ⟨a.length, _, _, ba, 0, rfl, rfl, rfl, by omega⟩
  rintro mm R0 H2 ⟨i, rfl, rfl, ht, hi⟩; by_cases hlt : i < a.length
  · have hga : a[i]? = some a[i] := List.getElem?_eq_getElem hlt
    have hgb : b[i]? = some (b[i]'(by omega)) := List.getElem?_eq_getElem (by omega)
    have g1 := yf hga; have g2 := yf hgb; have hsn := fun e => aeo hga hgb ht e
    have hne := fun e => aj3 hga hgb e
    generalize a[i] = x at *; generalize b[i]'(by omega) = y at *
    focus (refine bz ?_; refine ey ?_; refine cm ?_; refine ax rfl (fun hc => ?_) (fun hc => ?_); refine js ?_; refine cj ?_; refine k7 ?_; refine bj ?_; refine l0 ?_; (apply ay; · exact ls rfl ij); refine k7 ?_; refine bj ?_; refine l0 ?_; (apply ay; · exact ls rfl ij); (apply ay; · exact nu rfl rfl); refine de ?_; refine ax rfl (fun hc => ?_) (fun hc => ?_); refine cp ?_; refine j9 ?_; refine fi ?_; rotate_left; refine di ?_; refine fx ?_; rotate_left; exact absurd hc aj)
    all_goals first
      | exact ⟨.inl rfl, _, _, _, Ent.refl _ _, ret1 rfl rfl, by rw [decide_eq_false (hne hc)]; rfl, rfl⟩
      | exact ⟨mm - 1, _, _, by omega, ba, i + 1, rfl, rfl, hsn (Decidable.of_not_not hc), by omega⟩
      | (exfalso; omega)
  obtain rfl : i = a.length := by omega
  rw [List.take_length, hlen, List.take_length] at ht
  focus (refine bz ?_; refine ey ?_; refine cm ?_; refine c8 ?_; intro hc; refine cp ?_)
  all_goals first
    | (exfalso; omega)
    | exact ⟨.inl rfl, _, _, _, Ent.refl _ _, ret1 rfl rfl, by rw [decide_eq_true ht]; rfl, rfl⟩
end Go.Proofs.Ytbciofnejefkiaa
namespace Go.Proofs.Ytbciofnejefkiaa
open Go Go.Am Go.Proofs
theorem vo {α : Type} {n r : Nat} (f : Nat -> α) (h : r < n) : ((List.range n).map f)[r]? = some (f r) := by
  rw [List.getElem?_map, List.getElem?_range h]; rfl
theorem vn {l : List En} {i j : Nat} {e : En} {y : AV} (h : l[i]? = some e) (hj : j < 3) (hy : e.cells[j]? = some y) : (l.flatMap En.cells)[i * 3 + j]? = some y := aix (sz := 3) (f := En.cells) (fun _ => rfl) h hj hy
theorem aff {l : List En} {i j : Nat} {e : En} {y : AV} (h : l[i]? = some e) (hj : j < 3) (hy : e.cells[j]? = some y) : (l.flatMap En.cells)[0 + i * 3 + j]? = some y := by rw [Nat.zero_add]; exact vn h hj hy
theorem abr (H : AHeap) (O : Wo) (F : Nat -> Ob) (w : Ag.W) (r : Nat) (h : WAt H O F w) (hr : r < w.n) (h7 : w.n <= 7) (hf : CFine (w.c r)) (hb : LF w.best) (hi : w.ids.length <= 1000000) (hrow : ∀ x ∈ w.ids, x.2.length <= 1000000) {b' : List En}
    (ht : Ag.toldL w.ids [] ((w.c r).list.take (w.c r).agreed) w.best = some b') :
    ACalls Try.prog 48 [.ptr O.w 0, mI (r : Int)] H fun r H' => r = bB true /\ ∃ O', WAt H' O' F { w with best := b' } /\ TurnW w.n H O F O' F H' := by
  have h0 := h; obtain ⟨aw, ac, asv, ak, al, ai, ar, ab, nd, co, _, _, _⟩ := h; obtain ⟨d1, d2, d3, d4, d5, d6, d7, d8, d9, d10, d11, d12, d13, d14, d15, d16, d17, d18, d19, d20, d21, d22, d23, d24, d25, d26, d27, d28⟩ := Wo.ne nd; have hcr : ((List.range w.n).map fun r => AV.ptr (F r).o 0)[0 + r * 1]? = some (.ptr (F r).o 0) := by rw [show 0 + r * 1 = r by omega]; exact vo _ hr
  have hL := fun H h => Committed_calls H (F r) (w.c r) h hf
  have hl200 : ((w.c r).list.take (w.c r).agreed).length <= 200 := by have := hf.list.len; rw [List.length_take]; omega
  have hlr : ∀ e ∈ (w.c r).list.take (w.c r).agreed, e.Ok /\ e.row.length <= 16 := fun e he => hf.list.ok e (List.mem_of_mem_take he)
  have hco := co r hr; generalize (w.c r).list.take (w.c r).agreed = L at *; unfold worldC at aw; have hL1 := hL H hco; refine gm Try.func48 rfl (by decide) ?_
  focus (refine f0 ?_; refine bl ?_; refine gr ?_; refine jg ?_; (refine zc ah (hL1) ?_; rintro r H' ⟨rfl, rfl⟩); refine ae rfl (gq (v := .sls _ _) rfl) ?_; refine aq ?_; refine bq ?_; refine bc ?_; refine gi ?_)
  refine cv (fun mm R' H2 => ∃ (i ob : Nat) (b : List En), R' = [(0, .ptr O.w 0), (5, lsE L), (6, .raw (.int .i64 (i : Int)))] /\ H2 O.w = some (.cel [mI w.n, .vw O.c 1 0 w.n, .vw O.s 1 0 w.n, .vw O.k 1 0 w.n, .vw O.l 9 0 w.l.length, .vw O.i 1 0 w.ids.length, .vw O.r 1 0 w.ids.length, .vw ob 3 0 b.length]) /\ H2 ob = some (.cel (b.flatMap En.cells)) /\ (ob = O.b \/ H' ob = none) /\ (∀ p y, H' p = some y -> p ≠ O.w -> p ≠ O.b -> H2 p = some y) /\ LF b /\ Ag.toldL w.ids (L.take i) (L.drop i) b = some b' /\ i + mm = L.length) ?_ ?_
  · exact ⟨L.length, _, _, ba, 0, O.b, w.best, rfl, aw, ab, .inl rfl, fun p y hp _ _ => hp, hb, by rw [List.take_zero, List.drop_zero]; exact ht, by omega⟩
  clear ht hb hL1 hco co asv ak al ab hcr aw; rintro mm R0 H2 ⟨i, ob, b, rfl, q1, q2, q3, q4, q5, q6, hi⟩
  have hob : ∀ p y, H' p = some y -> p ≠ O.b -> p ≠ ob := fun p y hp hne e => by
    rcases q3 with h | h
    · exact hne (e.trans h)
    · rw [e, h] at hp; cases hp
  have b5 := q5.len; by_cases hlt : i < L.length
  rotate_left
  · obtain rfl : i = L.length := by omega
    rw [List.drop_length, Ag.toldL] at q6
    cases q6
    focus (refine bz ?_; refine ey ?_; refine cm ?_; refine c8 ?_; intro hc; refine az ?_; refine ey ?_; refine ae rfl (mt rfl rfl) ?_; refine bn ?_)
    all_goals try (exfalso; omega)
    have hres : WAt H2 { O with b := ob } F { w with best := b' } /\ TurnW w.n H' O F { O with b := ob } F H2 := by
      have hne : ∀ x, (∃ y, H' x = some y) -> x ≠ O.b -> ob ≠ x := fun x ⟨y, hx⟩ hn e => hob x y hx hn e.symm
      refine h0.objs rfl rfl rfl q1 (q4 _ _ h0.ac d1.symm d13) (q4 _ _ h0.asv d2.symm d18) (q4 _ _ h0.ak d3.symm d22) (q4 _ _ h0.al d4.symm d25) (q4 _ _ h0.ai d5.symm d27) (q4 _ _ h0.ar d6.symm d28) q2 (Wo.nd ⟨d1, d2, d3, d4, d5, d6, (hne _ ⟨_, h0.aw⟩ d7).symm, d8, d9, d10, d11, d12, (hne _ ⟨_, h0.ac⟩ d13).symm, d14, d15, d16, d17, (hne _ ⟨_, h0.asv⟩ d18).symm, d19, d20, d21, (hne _ ⟨_, h0.ak⟩ d22).symm, d23, d24, (hne _ ⟨_, h0.al⟩ d25).symm, d26, (hne _ ⟨_, h0.ai⟩ d27).symm, (hne _ ⟨_, h0.ar⟩ d28).symm⟩) (fun p hp => ?_) (fun p y hp hF => q4 p y hp (fun e => hF (by rw [e]; simp [Wo.l'])) (fun e => hF (by rw [e]; simp [Wo.l'])))
      simp only [Wo.l', List.mem_cons, List.not_mem_nil, or_false] at hp ⊢; rcases hp with e | e | e | e | e | e | e | e
      · exact .inl (.inl e)
      · exact .inl (.inr (.inl e))
      · exact .inl (.inr (.inr (.inl e)))
      · exact .inl (.inr (.inr (.inr (.inl e))))
      · exact .inl (.inr (.inr (.inr (.inr (.inl e)))))
      · exact .inl (.inr (.inr (.inr (.inr (.inr (.inl e))))))
      · exact .inl (.inr (.inr (.inr (.inr (.inr (.inr (.inl e)))))))
      · rcases q3 with h | h
        · exact .inl (.inr (.inr (.inr (.inr (.inr (.inr (.inr (e.trans h))))))))
        · exact .inr (e ▸ h)
    exact ⟨.inl rfl, _, _, _, Ent.refl _ _, ret1 rfl rfl, congrArg (fun b => AV.raw (Value.bool b)) (decide_eq_true hl200), _, hres.1, hres.2⟩
  have hg : L[i]? = some L[i] := List.getElem?_eq_getElem hlt; obtain ⟨oke, hr16⟩ := hlr _ (List.getElem_mem hlt); have hg0 := vn (j := 0) hg (by omega) rfl
  have hg2 := vn (j := 2) hg (by omega) rfl
  have hge := oc hg; have hdr : L.drop i = L[i] :: L.drop (i + 1) := List.drop_eq_getElem_cons hlt; have htk : L.take (i + 1) = L.take i ++ [L[i]] := by rw [List.take_add_one, hg]; rfl
  have hlen : (L.take i).length = i := by rw [List.length_take]; omega
  rw [hdr, Ag.toldL, hlen, <- htk] at q6; generalize L[i] = e at *; by_cases hlb : i < b.length
  · have hgb : b[i]? = some b[i] := List.getElem?_eq_getElem hlb
    have hrb := (q5.ok _ (List.getElem_mem hlb)).2; have hb0 := aff (j := 0) hgb (by omega) rfl
    have hb2 := aff (j := 2) hgb (by omega) rfl
    rw [hgb] at q6; generalize b[i] = x at *; dsimp only at q6; split at q6
    · cases q6
    · next hno =>
      rw [not_or, Decidable.not_not, Decidable.not_not] at hno; obtain ⟨hno1, hno2⟩ := hno; have hS := fun H => afy H e.row x.row (by omega) (by omega)
      rw [decide_eq_true hno2] at hS; clear hdr htk; replace q6 := Hdn.mk q6
      focus (refine bz ?_; refine ey ?_; refine cm ?_; refine ax rfl (fun hc => ?_) (fun hc => ?_); refine js ?_; refine fq ?_; refine iz ?_; refine cm ?_; refine ax rfl (fun hc => ?_) (fun hc => ?_); refine bf ?_; refine cj ?_; refine k7 ?_; refine bj ?_; refine l0 ?_; refine dm ?_; refine cw ?_; refine bj ?_; refine mu ?_; (apply ay; · exact kg rfl); refine oa ?_; (apply ay; · exact wq rfl rfl); refine bj ?_; refine zt2 rfl rfl rfl (fun hc => ?_) (fun hc => ?_); refine k7 ?_; refine cx ?_; refine eb ?_; refine l0 ?_; refine cx ?_; refine dh ?_; refine dd ?_; refine eb ?_; refine mu ?_; refine cx ?_; (apply ay; · exact kg rfl); refine zt3 rfl rfl rfl ?_; refine oa ?_; refine cx ?_; (apply ay; · exact bw ah (hS _)); refine cx ?_; refine ju ?_; refine jh ?_; refine mf rfl ?_; refine cy ?_; refine oo ?_; refine jz ?_; refine ou ?_; refine gj ?_; refine ca ?_; refine px ?_; refine bc ?_; rotate_left; exact absurd hc aj; exact absurd hc aj; exact absurd hc aj)
      all_goals try (exfalso; omega)
      all_goals exact ⟨mm - 1, _, _, by omega, ba, i + 1, ob, b, rfl, q1, q2, q3, q4, q5, q6.out, by omega⟩
  have hgb : b[i]? = none := List.getElem?_eq_none (by omega)
  rw [hgb] at q6; dsimp only at q6; split at q6
  rotate_left
  · cases q6
  next hyes =>
  obtain ⟨hy1, hy2⟩ := hyes; have hbi : b.length = i \/ b.length < i := by omega
  clear hgb; replace q6 := Hdn.mk q6
  focus (refine bz ?_; refine ey ?_; refine cm ?_; refine ax rfl (fun hc => ?_) (fun hc => ?_); refine js ?_; refine fq ?_; refine iz ?_; refine cm ?_; refine gh ?_; intro hc; refine az ?_; refine bc ?_; refine bq ?_; refine bc ?_; refine gi ?_; rotate_left; exact absurd hc aj)
  all_goals try (exfalso; omega)
  have xi := q4 _ _ ai d5.symm d27; have xr := q4 _ _ ar d6.symm d28; refine cv (fun mm2 R' H3 => ∃ (k : Nat) (fk : Bool), H3 = H2 /\ R' = [(0, .ptr O.w 0), (5, lsE L), (6, .raw (.int .i64 (i : Int))), (7, .raw (.bool fk)), (8, .raw (.int .i64 (k : Int)))] /\ fk = ((w.ids.take k).any fun x => decide (x.1 = e.id /\ x.2 = e.row)) /\ k + mm2 = w.ids.length) ?_ ?_
  · exact ⟨w.ids.length, _, _, ba, 0, false, rfl, rfl, rfl, by omega⟩
  rintro mm2 R1 H3 ⟨k, fk, rfl, rfl, hfk, hk⟩; by_cases hkl : k < w.ids.length
  · have hgk : w.ids[k]? = some w.ids[k] := List.getElem?_eq_getElem hkl
    have hrk := hrow _ (List.getElem_mem hkl)
    have hany : (w.ids.take (k + 1)).any (fun x => decide (x.1 = e.id /\ x.2 = e.row)) = ((w.ids.take k).any (fun x => decide (x.1 = e.id /\ x.2 = e.row)) || decide (w.ids[k].1 = e.id /\ w.ids[k].2 = e.row)) := by
      rw [List.take_add_one, hgk, List.any_append, Option.toList_some, List.any_cons, List.any_nil, Bool.or_false]
    generalize w.ids[k] = x at *; rw [<- hfk] at hany; clear hfk; obtain ⟨xid, xrow⟩ := x; dsimp only at hrk hany; have hS := fun H => afy H xrow e.row (by omega) (by omega)
    cases fk with
    | true =>
      rw [Bool.true_or] at hany
      focus (refine fq ?_; refine iz ?_; refine cm ?_; refine ax rfl (fun hc => ?_) (fun hc => ?_); refine js ?_; refine j5 ?_; refine bj ?_; refine bj ?_; refine bx ?_; refine bx ?_; refine bx ?_; refine je ?_; refine zt5 rfl rfl ?_; refine zt5 rfl rfl ?_; refine zt5 rfl rfl ?_; refine zt5 rfl rfl ?_; refine zt5 rfl rfl ?_; refine zt5 rfl rfl ?_; refine zt5 rfl rfl ?_; refine zt5 rfl rfl ?_; refine zt5 rfl rfl ?_; refine zt5 rfl rfl ?_; refine zt5 rfl rfl ?_; refine zt5 rfl rfl ?_; refine zt5 rfl rfl ?_; refine zt4 rfl rfl ?_; refine da ?_; refine pr ?_; (with_reducible refine uj ?_); refine fx ?_; rotate_left; exact absurd hc aj)
      all_goals try (exfalso; omega)
      all_goals exact ⟨mm2 - 1, _, _, by omega, ba, k + 1, _, rfl, rfl, hany.symm, by omega⟩
    | false =>
      rw [Bool.false_or] at hany; by_cases hx1 : xid = e.id
      · have hx2 : decide (xid = e.id /\ xrow = e.row) = decide (xrow = e.row) := decide_eq_decide.2 ⟨fun h => h.2, fun h => ⟨hx1, h⟩⟩
        rw [hx2] at hany
        focus (refine fq ?_; refine iz ?_; refine cm ?_; refine ax rfl (fun hc => ?_) (fun hc => ?_); refine js ?_; refine j5 ?_; refine bj ?_; refine eb ?_; refine dd ?_; refine eb ?_; refine mu ?_; refine cx ?_; refine oa ?_; refine cx ?_; refine k7 ?_; refine cx ?_; refine eb ?_; refine l0 ?_; refine cx ?_; refine dh ?_; (apply ay; · exact ml rfl rfl); refine cx ?_; refine bj ?_; refine zt1 rfl rfl rfl (fun hc => ?_) (fun hc => ?_); refine dd ?_; refine eb ?_; refine mu ?_; refine cx ?_; refine oa ?_; refine cx ?_; refine k7 ?_; refine cx ?_; refine eb ?_; refine l0 ?_; refine cx ?_; refine dh ?_; (apply ay; · exact bw ah (hS _)); refine cx ?_; refine da ?_; refine qq ?_; refine pr ?_; (with_reducible refine uj ?_); refine fx ?_; rotate_left; exact absurd hc aj; exact absurd hc aj)
        all_goals try (exfalso; omega)
        all_goals exact ⟨mm2 - 1, _, _, by omega, ba, k + 1, _, rfl, rfl, hany.symm, by omega⟩
      · have hx2 : decide (xid = e.id /\ xrow = e.row) = false := decide_eq_false fun h => hx1 h.1
        rw [hx2] at hany
        focus (refine fq ?_; refine iz ?_; refine cm ?_; refine ax rfl (fun hc => ?_) (fun hc => ?_); refine js ?_; refine j5 ?_; refine bj ?_; refine eb ?_; refine dd ?_; refine eb ?_; refine mu ?_; refine cx ?_; refine oa ?_; refine cx ?_; refine k7 ?_; refine cx ?_; refine eb ?_; refine l0 ?_; refine cx ?_; refine dh ?_; (apply ay; · exact ml rfl rfl); refine cx ?_; refine bj ?_; refine zt1 rfl rfl rfl (fun hc => ?_) (fun hc => ?_); exact absurd hc aj; refine bx ?_; refine bx ?_; refine bx ?_; refine cx ?_; refine qq ?_; refine qq ?_; refine pr ?_; (with_reducible refine uj ?_); refine fx ?_; rotate_left; exact absurd hc aj)
        all_goals try (exfalso; omega)
        all_goals exact ⟨mm2 - 1, _, _, by omega, ba, k + 1, _, rfl, rfl, hany.symm, by omega⟩
  obtain rfl : k = w.ids.length := by omega
  rw [List.take_length, hy1] at hfk; subst hfk
  focus (refine fq ?_; refine iz ?_; refine cm ?_; refine c8 ?_; intro hc; refine bq ?_; refine bc ?_; refine gi ?_)
  all_goals try (exfalso; omega)
  clear hk hkl hc; refine cv (fun mm2 R' H2 => ∃ (k : Nat) (f2 : Bool), H2 = H3 /\ R' = [(0, .ptr O.w 0), (5, lsE L), (6, .raw (.int .i64 (i : Int))), (7, .raw (.bool f2)), (9, .raw (.int .i64 (k : Int)))] /\ f2 = true /\ k + mm2 = i) ?_ ?_
  · exact ⟨i, _, _, ba, 0, true, rfl, rfl, rfl, by omega⟩
  rintro mm2 R1 H2 ⟨k, f2, rfl, rfl, rfl, hk⟩; by_cases hki : k < i
  · have hgk : L[k]? = some (L[k]'(by omega)) := List.getElem?_eq_getElem (by omega)
    have hk0 := vn (j := 0) hgk (by omega) rfl
    have hne : (L[k]'(by omega)).id ≠ e.id := fun hx => by
      have : Ag.hasId (L.take i) e.id = true := ag9 (List.mem_of_getElem? (i := k) (by rw [List.getElem?_take, if_pos hki]; exact hgk)) hx
      rw [this] at hy2; cases hy2
    generalize (L[k]'(by omega)) = x at *
    focus (refine bz ?_; refine an ?_; refine cm ?_; refine ax rfl (fun hc => ?_) (fun hc => ?_); refine js ?_; refine j5 ?_; refine bj ?_; refine eb ?_; refine k7 ?_; refine cx ?_; refine eb ?_; refine l0 ?_; refine cx ?_; refine dh ?_; refine k7 ?_; refine cx ?_; refine eb ?_; refine l0 ?_; refine cx ?_; refine dh ?_; (apply ay; · exact wq rfl rfl); refine da ?_; refine pr ?_; (with_reducible refine uj ?_); refine fx ?_; rotate_left; exact absurd hc aj)
    all_goals try (exfalso; omega)
    all_goals exact ⟨mm2 - 1, _, _, by omega, ba, k + 1, _, rfl, rfl, decide_eq_true hne, by omega⟩
  obtain rfl : k = i := by omega
  have hbf : (b.flatMap En.cells).length = b.length * 3 := i8 (sz := 3) (fun _ => rfl) _
  have hob2 : O.w ≠ ob := hob _ _ h0.aw d7
  focus (refine bz ?_; refine an ?_; refine cm ?_; refine c8 ?_; intro hc; refine bz ?_; refine ea ?_; refine fm ?_; refine cy ?_; refine mw false dz bg bg ?_; refine gz ?_; refine gz ?_; refine jd ?_; (apply j8 bg; (· exact fc rfl aa rfl)); (apply jl; · (intro H1; exact ce (v := .sls _ _) rfl)); refine r9 ?_; (apply jl; · (intro H1; exact ack rfl rfl au)); (apply jl; · (intro H1; exact rh rfl (by assumption) (by rfl) (by decide))); refine re ?_; refine lu ?_; refine jd ?_; refine lq ?_; refine mr ?_; refine kz (fun Rx K1 hK1x => ?_); refine za4 rfl rfl rfl aa mc dc au au (fun oN hoN => ?_); refine bb ?_; (refine hK1x _ _ ?_; clear hK1x K1 Rx); refine lw (fun Rx K1 hK1x => ?_); refine jc ?_; (refine hK1x _ ?_; clear hK1x K1 Rx); refine mi ?_; refine fx ?_)
  all_goals try (exfalso; omega)
  have hln : (b ++ [e]).length = b.length + 1 := by simp
  have hcs : (b ++ [e]).flatMap En.cells = b.flatMap En.cells ++ e.cells := by simp
  have m1 : oN ≠ O.w := fun x => by rw [x, q1] at hoN; cases hoN
  have m2 : oN ≠ ob := fun x => by rw [x, q2] at hoN; cases hoN
  refine ⟨mm - 1, _, _, by omega, jt, k + 1, oN, b ++ [e], rfl, by rw [hln]; exact aa, by rw [hcs]; exact aa, ?_, fun p y hp h1 h2 => ?_, ⟨fun x hx => ?_, by omega⟩, q6.out, by omega⟩
  · by_cases hx : oN = O.b
    · exact .inl hx
    · right
      cases hy : H' oN with
      | none => rfl
      | some y => rw [q4 _ _ hy m1 hx] at hoN; cases hoN
  · have m3 := q4 p y hp h1 h2
    have m4 : p ≠ oN := fun x => by rw [x, hoN] at m3; cases m3
    have m5 := hob p y hp h2; exact aa
  · rcases List.mem_append.1 hx with hx | hx
    · exact q5.ok x hx
    · rw [List.mem_singleton.1 hx]; exact ⟨oke, hr16⟩
end Go.Proofs.Ytbciofnejefkiaa
