import Derived.Test.YtbciofnejefkiaaIz
import Derived.Test.YtbciofnejefkiaaIa6
set_option linter.unusedVariables false
set_option linter.unusedSimpArgs false
set_option maxRecDepth 20000
set_option maxHeartbeats 4000000
namespace Go.Proofs.Ytbciofnejefkiaa
open Go Go.Am Go.Proofs
theorem an6 {n r : Nat} (F : Nat -> Ob) (G : Ob) : ((List.range n).map fun q => AV.ptr (F q).o 0).set r (.ptr G.o 0) = (List.range n).map fun q => AV.ptr (Ag.upd F r G q).o 0 := by
  apply List.ext_getElem?; intro i; rw [List.getElem?_set, List.getElem?_map, List.getElem?_map, List.length_map, List.length_range]; by_cases hi : i < n
  · rw [List.getElem?_range hi]
    by_cases e : r = i
    · subst e; rw [if_pos rfl, if_pos hi]; simp [Ag.upd]
    · have e2 : ¬ i = r := fun x => e x.symm
      rw [if_neg e]; simp [Ag.upd, e2]
  · rw [List.getElem?_eq_none (by rw [List.length_range]; omega)]
    by_cases e : r = i
    · rw [if_pos e, if_neg (by omega)]; rfl
    · rw [if_neg e]; rfl
theorem amq {H : AHeap} {o : Nat} {x : AO} (h : H o = some x) : H = (H.erase o).set o x := by
  funext p
  by_cases e : p = o
  · rw [e, h]; exact (arn _ _ _).symm
  · simp [AHeap.set, AHeap.erase, e]
theorem WAt.reopen {H H2 : AHeap} {O : Wo} {F : Nat -> Ob} {w : Ag.W} {r : Nat} {G : Ob} {c : Ag.Co} (h : WAt H O F w) (hr : r < w.n) (fr : ∀ p y, H p = some y -> H2 p = some y) (hc : CAt H2 G c) (nd : NdC G) (hG : ∀ p ∈ G.c, H p = none) :
    WAt (H2.set O.c (.cel (((List.range w.n).map fun q => AV.ptr (F q).o 0).set r (.ptr G.o 0)))) O (Ag.upd F r G) { w with c := Ag.upd w.c r c } /\ TurnW w.n H O F O (Ag.upd F r G) (H2.set O.c (.cel (((List.range w.n).map fun q => AV.ptr (F q).o 0).set r (.ptr G.o 0)))) := by
  rw [an6 F G]; have ne := Wo.ne h.nd; have hs : ∀ p y, p ≠ O.c -> H2 p = some y -> (H2.set O.c (.cel ((List.range w.n).map fun q => AV.ptr (Ag.upd F r G q).o 0))) p = some y := fun p y hp hy => arl hp hy
  have hext : ∀ {K : Ob} {d : Ag.Co}, CAt H2 K d -> (∀ p ∈ K.c, p ≠ O.c) -> CAt (H2.set O.c (.cel ((List.range w.n).map fun q => AV.ptr (Ag.upd F r G q).o 0))) K d := by
    intro K d hk hn; obtain ⟨⟨off, xs, a1, a2, a3, a4⟩, ⟨eg, b1, b2⟩, ⟨eh, c1, c2⟩⟩ := hk; exact ⟨⟨off, xs, hs _ _ (hn _ (by simp [Ob.c])) a1, hs _ _ (hn _ (by simp [Ob.c])) a2, a3, a4⟩, ⟨eg, hs _ _ (hn _ (by simp [Ob.c])) b1, b2⟩, ⟨eh, hs _ _ (hn _ (by simp [Ob.c])) c1, c2⟩⟩
  have hGO : ∀ p ∈ G.c, p ∉ O.l' := fun p hp hx => h.fresh (hG p hp) (.inl hx)
  refine ⟨⟨hs _ _ ne.wc (fr _ _ h.aw), arn _ _ _, hs _ _ ne.cs.symm (fr _ _ h.asv), hs _ _ ne.ck.symm (fr _ _ h.ak), hs _ _ ne.cl.symm (fr _ _ h.al), hs _ _ ne.ci.symm (fr _ _ h.ai), hs _ _ ne.cr.symm (fr _ _ h.ar), hs _ _ ne.cb.symm (fr _ _ h.ab), h.nd, fun q hq => ?_, fun q hq => ?_, fun q hq p hp => ?_, fun q s hq hs' hne p hp hps => ?_⟩, ⟨rfl, fun p hp => ?_, fun p y hp hd => hs _ _ (fun e => hd (.inl (by rw [e]; simp [Wo.l']))) (fr _ _ hp)⟩⟩
  · show CAt _ (Ag.upd F r G q) (Ag.upd w.c r c q)
    by_cases e : q = r
    · rw [e, Ag.upd_same, Ag.upd_same]; exact hext hc fun p hp x => hGO p hp (by rw [x]; simp [Wo.l'])
    · rw [Ag.upd_other _ _ e, Ag.upd_other _ _ e]; exact hext ((h.co q hq).ext fr) fun p hp x => h.ap q hq p hp (by rw [x]; simp [Wo.l'])
  · by_cases e : q = r
    · rw [e, Ag.upd_same]; exact nd
    · rw [Ag.upd_other _ _ e]; exact h.ndC q hq
  · by_cases e : q = r
    · rw [e, Ag.upd_same] at hp; exact hGO p hp
    · rw [Ag.upd_other _ _ e] at hp; exact h.ap q hq p hp
  · by_cases e : q = r
    · rw [e, Ag.upd_same] at hp
      rw [Ag.upd_other _ _ (fun x => hne (e.trans x.symm))] at hps
      exact h.fresh (hG p hp) (.inr ⟨s, hs', hps⟩)
    · rw [Ag.upd_other _ _ e] at hp
      by_cases e2 : s = r
      · rw [e2, Ag.upd_same] at hps
        exact h.fresh (hG p hps) (.inr ⟨q, hq, hp⟩)
      · rw [Ag.upd_other _ _ e2] at hps; exact h.rr q s hq hs' hne p hp hps
  · rcases hp with hp | ⟨q, hq, hp⟩
    · exact .inl (.inl hp)
    · by_cases e : q = r
      · rw [e, Ag.upd_same] at hp; exact .inr (hG p hp)
      · rw [Ag.upd_other _ _ e] at hp; exact .inl (.inr ⟨q, hq, hp⟩)
theorem afu (H : AHeap) (O : Wo) (F : Nat -> Ob) (w : Ag.W) (r : Nat) (h : WAt H O F w) (hr : r < w.n) (h7 : w.n <= 7) (h2 : w.n % 2 = 1) (hs : ∀ x ∈ w.saved r, RFine x) (hl : (w.saved r).length <= 1000000000000) {d : Ag.Co}
    (ho : Ag.open_ r w.n (w.saved r) = some d) :
    ACalls Try.prog 47 [.ptr O.w 0, mI (r : Int)] H fun r' H' => r' = bB true /\ ∃ G, WAt H' O (Ag.upd F r G) { w with c := Ag.upd w.c r d } /\ TurnW w.n H O F O (Ag.upd F r G) H' := by
  have h0 := h; obtain ⟨aw, ac, asv, ak, al, ai, ar, ab, nd, co, _, _, _⟩ := h; obtain ⟨d1, d2, d3, d4, d5, d6, d7, d8, d9, d10, d11, d12, d13, d14, d15, d16, d17, d18, d19, d20, d21, d22, d23, d24, d25, d26, d27, d28⟩ := Wo.ne nd; have hrg : (List.range w.n)[r]? = some r := List.getElem?_range hr; unfold worldC at aw; unfold svA at asv
  have hO := fun H => Open_calls H r w.n ((w.saved r).map (recB r w.n)) hr h7 h2 (by rw [List.length_map]; exact hl) (fun b hb => by
    obtain ⟨x, hx, rfl⟩ := List.mem_map.1 hb; exact aah (hs x hx))
  rw [adm (by omega) (by omega) _ _ hs] at hO
  unfold Ag.open_ at ho
  cases hrp : (Ag.Co.new r w.n).replay (w.saved r) with
  | none => rw [hrp] at ho; cases ho
  | some c0 =>
  rw [hrp, Option.map_some] at ho; rw [hrp] at hO; have hd : (if w.n = 1 then { c0 with agreed := c0.list.length } else c0) = d := Option.some.inj ho
  replace hO : ∀ H, ACalls Try.prog 16 [mI (r : Int), mI (w.n : Int), .sls ((w.saved r).map (recB r w.n)).length (((w.saved r).map (recB r w.n)).map .bys)] H fun r' H' => ∃ G : Ob, r' = .tup [.ptr G.o 0, mI 0] /\ CAt H' G d /\ NdC G /\ (∀ p ∈ G.c, H p = none) /\ ∀ p y, H p = some y -> H' p = some y := fun H => (hO H).mono fun r' H' ⟨⟨G, k1, k2, k3, k4⟩, k5⟩ => ⟨G, k1, by rw [<- hd]; exact k2, k3, k4, k5⟩
  clear hd ho hrp c0; have hre := fun H2 G a b c e => h0.reopen (H2 := H2) (G := G) (c := d) hr a b c e
  rw [List.length_map] at hO; have hmm : ((w.saved r).map (recB r w.n)).map AV.bys = (w.saved r).map fun x => .bys (recB r w.n x) := by rw [List.map_map]; rfl
  rw [hmm] at hO; clear hmm; refine gm Try.func47 rfl (by decide) ?_
  focus (refine f0 ?_; refine bc ?_; refine bq ?_; refine bc ?_; refine gi ?_)
  refine vx 5 1 (.cel []) rfl rfl (fun oX hoX => ?_)
  refine cv (fun mm R' H3 => ∃ (i oX : Nat), R' = [(0, .ptr O.w 0), (1, mI (r : Int)), (5, .vw oX 1 0 i), (6, .raw (.int .i64 (i : Int)))] /\ H3 oX = some (.cel (((w.saved r).take i).map fun x => .bys (recB r w.n x))) /\ H oX = none /\ (∀ p y, H p = some y -> H3 p = some y) /\ i + mm = (w.saved r).length) ?_ ?_
  · exact ⟨(w.saved r).length, _, _, ba, 0, oX, rfl, by rw [List.take_zero]; exact arn _ _ _, hoX, fun p y hp => arl (fun e => by rw [e, hoX] at hp; cases hp) hp, by omega⟩
  clear hoX oX; rintro mm R0 H3 ⟨i, oX, rfl, q1, q2, q3, hi⟩; have hne : ∀ {p : Nat} {y : AO}, H p = some y -> p ≠ oX := fun hp e => by rw [e, q2] at hp; cases hp
  have e1 := q3 _ _ aw; have e2 := q3 _ _ asv; have e3 := q3 _ _ ac; have n1 := hne aw; have n2 := hne asv; have n3 := hne ac; have hlt2 : ((w.saved r).take i).length = i := by rw [List.length_take]; omega
  by_cases hlt : i < (w.saved r).length
  · have hg : (w.saved r)[i]? = some (w.saved r)[i] := List.getElem?_eq_getElem hlt
    have hsm := aah (me := r) (n := w.n) (hs _ (List.getElem_mem hlt)); have hsn : ((w.saved r).take (i + 1)).map (fun x => AV.bys (recB r w.n x)) = ((w.saved r).take i).map (fun x => AV.bys (recB r w.n x)) ++ [.bys (recB r w.n (w.saved r)[i])] := by rw [List.take_add_one, hg, List.map_append]; rfl
    generalize (w.saved r)[i] = x at *; have g1 : ((w.saved r).map fun x => AV.bys (recB r w.n x))[i]? = some (.bys (recB r w.n x)) := by rw [List.getElem?_map, hg]; rfl
    focus (refine fq ?_; refine gr ?_; refine jg ?_; refine eu ?_; refine cm ?_; refine ax rfl (fun hc => ?_) (fun hc => ?_); refine js ?_; refine ca ?_; refine c9 ?_; refine ae rfl (ot) ?_; refine bl ?_; refine gr ?_; refine jg ?_; refine an ?_; refine ic ?_; refine gx ?_; refine ae rfl (aan rfl rfl dc au au) ?_; refine kq ?_; refine za4 rfl rfl rfl aa mc dc au au (fun oN hoN => ?_); refine ix ?_; refine bb ?_; refine fx ?_; rotate_left; exact absurd hc aj)
    all_goals try (exfalso; omega)
    refine ⟨mm - 1, _, _, by omega, jt, i + 1, oN, rfl, by rw [hsn]; exact aa, ?_, fun p y hp => ?_, by omega⟩
    · cases hx : H oN with
      | none => rfl
      | some y => rw [q3 _ _ hx] at hoN; cases hoN
    · have m1 := q3 p y hp
      have m2 : p ≠ oN := fun e => by rw [e, hoN] at m1; cases m1
      have m3 := hne hp; exact aa
  obtain rfl : i = (w.saved r).length := by omega
  rw [List.take_length] at q1; rw [amq q1]; have hE : (H3.erase oX) oX = none := by simp [AHeap.erase]
  have q4 : ∀ p y, H p = some y -> (H3.erase oX) p = some y := fun p y hp => arq (hne hp) (q3 p y hp)
  generalize H3.erase oX = H4 at *; clear q1 q3 e1 e2 e3 n1 n2 n3 H3 q2 hne; have e1 := q4 _ _ aw; have e2 := q4 _ _ asv; have e3 := q4 _ _ ac; refine dy (R' := [(0, .ptr O.w 0), (1, mI (r : Int)), (5, .sls (w.saved r).length ((w.saved r).map fun x => .bys (recB r w.n x))), (6, .raw (.int .i64 ((w.saved r).length : Int)))]) (H' := H4) ((Ent.seal_cel1 5 rfl (by rw [List.length_map, Nat.mul_one]) hE).trans (Ent.sub _ (by (repeat' (first | exact RSub.nil _ | apply RSub.cons)); all_goals rfl))) ?_
  clear hE; have hO1 := hO H4
  focus (refine fq ?_; refine gr ?_; refine jg ?_; refine eu ?_; refine cm ?_; refine c8 ?_; intro hc; refine gn ?_; refine bl ?_; refine dt ?_; (refine zc ah (hO1) ?_; rintro r H' ⟨G, rfl, a1, a2, a3, a4⟩); refine jj ?_; refine ku ?_; refine bc ?_; refine bz ?_; refine jk ?_; refine an ?_; refine zg2 rfl rfl rfl (fun hc => ?_) (fun hc => ?_); exact absurd hc aj; refine lx ?_; refine ae rfl (xq rfl rfl) ?_; refine cd ?_; refine fm ?_; refine cy ?_; refine az ?_; refine ue ?_)
  all_goals try (exfalso; omega)
  have f1 := a4 _ _ e1; have f3 := a4 _ _ e3
  have hfin := hre H' G (fun p y hp => a4 p y (q4 p y hp)) a1 a2 (fun p hp => by
    cases hx : H p with
    | none => rfl
    | some y => have := q4 p y hx; rw [a3 p hp] at this; cases this)
  have hidx : 0 + r * 1 = r := by omega
  focus (refine ma ?_; refine an ?_; refine cu ?_; refine pk ?_; refine gv ?_; refine aq ?_; refine cp ?_)
  rw [hidx]; exact ⟨.inl rfl, _, _, _, Ent.refl _ _, ret1 rfl rfl, rfl, G, hfin⟩
end Go.Proofs.Ytbciofnejefkiaa
namespace Go.Proofs.Ytbciofnejefkiaa
open Go Go.Am Go.Proofs
noncomputable def stepW (w : Ag.W) (r : Nat) (sv : List Ag.Rd) (sn : List Mg) : Option Ag.W :=
  match w.cut r with
  | some k => (Ag.W.opened { w with cut := Ag.upd w.cut r none, saved := Ag.upd w.saved r (w.saved r ++ sv.take k) } r).bind fun w => w.told r
  | none =>
    open Classical in
    if (∀ m ∈ sn, Ag.fits r w.n m) then Ag.W.told { w with saved := Ag.upd w.saved r (w.saved r ++ sv), l := sn.foldl Ag.addL w.l } r else none
theorem aif (w : Ag.W) (r : Nat) (s : Ag.St) : w.step r s = stepW { w with c := Ag.upd w.c r s.c } r s.save s.send := by
  unfold Ag.W.step stepW; rfl
theorem aja : ∀ (l : List Ag.Rd) {c d : Ag.Co}, CFine c -> (∀ x ∈ l, RFine x) -> c.replay l = some d -> CFine d /\ d.me = c.me /\ d.n = c.n /\ d.quiet = c.quiet
  | [], c, d, hf, _, h => by cases h; exact ⟨hf, rfl, rfl, rfl⟩
  | x :: l, c, d, hf, hx, h => by
    rw [Ag.Co.replay] at h; split at h
    · next hok =>
      obtain ⟨k1, k2, k3⟩ := hok; have hxx := hx x List.mem_cons_self
      cases ha : c.apply x with
      | none => rw [ha] at h; cases h
      | some e =>
        rw [ha, Option.bind_some] at h; obtain ⟨c1, c2, c3⟩ := CFine.apply hf hxx.list k1 k2 ha; obtain ⟨d1, d2, d3, d4⟩ := aja l c1 (fun y hy => hx y (List.mem_cons_of_mem _ hy)) h
        refine ⟨d1, d2.trans c2, d3.trans c3, d4.trans ?_⟩; unfold Ag.Co.apply at ha
        repeat' split at ha
        all_goals first | (cases ha; rfl) | cases ha
    · cases h
theorem tj {me n : Nat} (hm : me < n) (h7 : n <= 7) {l : List Ag.Rd} (hx : ∀ x ∈ l, RFine x) {d : Ag.Co} (h : Ag.open_ me n l = some d) : CFine d /\ d.me = me /\ d.n = n /\ d.quiet = 0 := by
  unfold Ag.open_ at h
  cases hr : (Ag.Co.new me n).replay l with
  | none => rw [hr] at h; cases h
  | some e =>
    rw [hr, Option.map_some] at h; have h := Option.some.inj h; obtain ⟨a, b, c, q⟩ := aja l (CFine.new hm h7) hx hr; subst h; split
    · exact ⟨a.full, b, c, q⟩
    · exact ⟨a, b, c, q⟩
structure WFin (w : Ag.W) : Prop where
  n7 : w.n <= 7
  odd : w.n % 2 = 1
  co : ∀ r, r < w.n -> CFine (w.c r)
  sv : ∀ r, r < w.n -> ∀ x ∈ w.saved r, RFine x
  best : LF w.best
  ids : w.ids.length <= 1000000
  row : ∀ x ∈ w.ids, x.2.length <= 1000000
  l : w.l.length <= 4000
theorem aai {n r : Nat} {α : Type} (f : Nat -> α) (v : α) : ((List.range n).map f).set r v = (List.range n).map fun q => if q = r then v else f q := by
  apply List.ext_getElem?; intro i; rw [List.getElem?_set, List.getElem?_map, List.getElem?_map, List.length_map, List.length_range]; by_cases hi : i < n
  · rw [List.getElem?_range hi]
    by_cases e : r = i
    · subst e; rw [if_pos rfl, if_pos hi]; simp
    · have e2 : ¬ i = r := fun x => e x.symm
      rw [if_neg e]; simp [e2]
  · rw [List.getElem?_eq_none (by rw [List.length_range]; omega)]
    by_cases e : r = i
    · rw [if_pos e, if_neg (by omega)]; rfl
    · rw [if_neg e]; rfl
theorem ae2 {n r : Nat} (f : Nat -> Option Nat) (k : Option Nat) : ((List.range n).map fun q => cutA (f q)).set r (cutA k) = (List.range n).map fun q => cutA (Ag.upd f r k q) := by
  rw [aai]; refine List.map_congr_left fun q _ => ?_
  unfold Ag.upd; split <;> rfl
theorem afh {n r : Nat} (f : Nat -> List Ag.Rd) (l : List Ag.Rd) : ((List.range n).map fun q => svA q n (f q)).set r (svA r n l) = (List.range n).map fun q => svA q n (Ag.upd f r l q) := by
  rw [aai]; refine List.map_congr_left fun q _ => ?_
  unfold Ag.upd; split
  · next e => rw [e]
  · rfl
theorem ra {w w' : Ag.W} {r : Nat} (h : w.told r = some w') : ∃ b, Ag.toldL w.ids [] ((w.c r).list.take (w.c r).agreed) w.best = some b /\ w' = { w with best := b } := by
  unfold Ag.W.told at h; dsimp only at h
  cases ht : Ag.toldL w.ids [] ((w.c r).list.take (w.c r).agreed) w.best with
  | none => rw [ht] at h; cases h
  | some b =>
    rw [ht, Option.bind_some] at h; split at h
    · exact ⟨b, rfl, (Option.some.inj h).symm⟩
    · cases h
theorem te {w w' : Ag.W} {r : Nat} (h : w.opened r = some w') : ∃ d, Ag.open_ r w.n (w.saved r) = some d /\ w' = { w with c := Ag.upd w.c r d } := by
  unfold Ag.W.opened at h
  cases ho : Ag.open_ r w.n (w.saved r) with
  | none => rw [ho] at h; cases h
  | some d => rw [ho, Option.map_some] at h; exact ⟨d, rfl, (Option.some.inj h).symm⟩
theorem alc (H : AHeap) (O : Wo) (F : Nat -> Ob) (w w' : Ag.W) (r k : Nat) (sv : List Ag.Rd) (sn : List Mg) (h : WAt H O F w) (hr : r < w.n) (hf : WFin w) (hl : (w.saved r).length <= 100000000000) (hsv : ∀ x ∈ sv, RFine x) (hsl : sv.length <= 1000000) (hsn : sn.length <= 1000000) (hk : w.cut r = some k) (hk63 : k < 2 ^ 63)
    (hst : stepW w r sv sn = some w') :
    ACalls Try.prog 45 [.ptr O.w 0, mI (r : Int), .agg [.sls sv.length (sv.map fun x => .bys (recB r w.n x)), .sls sn.length (sn.flatMap Mg.cells)]] H fun r' H' => r' = bB true /\ ∃ O' F', WAt H' O' F' w' /\ TurnW w.n H O F O' F' H' := by
  have h0 := h; obtain ⟨aw, ac, asv, ak, al, ai, ar, ab, nd, co, _, _, _⟩ := h; obtain ⟨d1, d2, d3, d4, d5, d6, d7, d8, d9, d10, d11, d12, d13, d14, d15, d16, d17, d18, d19, d20, d21, d22, d23, d24, d25, d26, d27, d28⟩ := Wo.ne nd; have hrg : (List.range w.n)[r]? = some r := List.getElem?_range hr
  have hck : ((List.range w.n).map fun r => cutA (w.cut r))[0 + r * 1]? = some (mI (k : Int)) := by
    rw [show 0 + r * 1 = r by omega, vo _ hr, hk]; rfl
  have hcs : ((List.range w.n).map fun r => svA r w.n (w.saved r))[0 + r * 1]? = some (.sls (w.saved r).length ((w.saved r).map fun x => .bys (recB r w.n x))) := by
    rw [show 0 + r * 1 = r by omega, vo _ hr]; rfl
  unfold worldC at aw; refine lz Try.func45 rfl (by decide) ?_
  focus (refine az ?_; refine zb4 rfl rfl rfl ?_; refine bc ?_; refine bq ?_; refine bl ?_; refine gr ?_; refine jg ?_; refine ln ?_; refine aq ?_; refine ax rfl (fun hc => ?_) (fun hc => ?_); refine az ?_; refine bl ?_; refine gr ?_; refine jg ?_; refine dk ?_; refine bl ?_; refine gr ?_; refine gv ?_; refine aq ?_; refine bz ?_; refine ez ?_; refine eu ?_; refine dw ?_; refine aq ?_; rotate_left; exact absurd hc aj)
  refine mg (fun R1 H2 => H2 = H.set O.k (.cel (((List.range w.n).map fun r => cutA (w.cut r)).set (0 + r * 1) (mI (-1)))) /\ R1 = [(0, .ptr O.w 0), (1, mI (r : Int)), (5, .pce [.sls sv.length (sv.map fun x => .bys (recB r w.n x)), .sls sn.length (sn.flatMap Mg.cells)] 0), (7, mI ((min k sv.length : Nat) : Int))]) ?_ ?_
  · by_cases hks : sv.length < k
    · rw [Nat.min_eq_right (by omega)]
      focus (refine ax rfl (fun hc => ?_) (fun hc => ?_); refine ca ?_; refine ez ?_; refine eu ?_; refine bc ?_; rotate_left; exact absurd hc aj)
      all_goals try (exfalso; omega)
      exact ⟨_, _, ba, rfl, rfl⟩
    · rw [Nat.min_eq_left (by omega)]
      focus (refine gh ?_; intro hc)
      all_goals try (exfalso; omega)
      exact ⟨_, _, ba, rfl, rfl⟩
  rintro R1 H2 ⟨rfl, rfl⟩; clear hc hck; have hmin : min k sv.length <= sv.length := Nat.min_le_right _ _
  have htk : sv.take k = sv.take (min k sv.length) := by
    by_cases hks : sv.length < k
    · rw [Nat.min_eq_right (by omega), List.take_of_length_le (by omega), List.take_of_length_le (by omega)]
    · rw [Nat.min_eq_left (by omega)]
  generalize min k sv.length = k2 at *; refine nr (fun H2 => H2 O.k = some (.cel ((List.range w.n).map fun q => cutA (Ag.upd w.cut r none q))) /\ ∀ p y, H p = some y -> p ≠ O.k -> H2 p = some y) ⟨?_, fun p y hp hn => arl hn hp⟩ ?_
  · rw [show 0 + r * 1 = r by omega, arn]
    exact congrArg (fun x => some (AO.cel x)) (ae2 w.cut none)
  rintro H2 ⟨q1, q2⟩; have e1 := q2 _ _ aw d3; have e2 := q2 _ _ asv d14; have hlt : (List.take ((k2 - 0) * 1) (List.drop (0 * 1) (List.map (fun x => AV.bys (recB r w.n x)) sv))).length = (k2 - 0) * 1 := by rw [List.length_take, List.length_drop, List.length_map]; omega
  focus (refine bf ?_; refine DC.aw_drawp (fun H' => H' O.w = some (.cel [mI w.n, .vw O.c 1 0 w.n, .vw O.s 1 0 w.n, .vw O.k 1 0 w.n, .vw O.l 9 0 w.l.length, .vw O.i 1 0 w.ids.length, .vw O.r 1 0 w.ids.length, .vw O.b 3 0 w.best.length]) /\ H' O.s = some (.cel ((List.range w.n).map fun r => svA r w.n (w.saved r)))) (by first | exact ⟨aa, aa⟩) dz bg bg ?_; refine dx ?_; refine im ?_; refine e8 ?_; refine fa ?_; (apply DC.awn_s; · (intros; exact ot)); refine dx ?_; refine im ?_; refine e8 ?_; refine fa ?_; refine qy ?_; (apply DC.awn_s; · (intro H1 hPsi; (try dsimp only at hPsi); (try (obtain ⟨hPsi, hPsi2⟩ := hPsi)); exact fc rfl aa ij)); refine DC.awn_b ?_; (apply DC.awn_s; · (intros; exact mj rfl)); refine uh ?_; refine fa ?_; (apply DC.awn_s; · (intros; exact vz rfl ji ji au au)); refine DC.awn_b ?_; refine qy ?_; refine DC.awn_b0 ?_; refine DC.awn_nil ?_; refine DC.awc_cons (fun Rx K1 hK1x => ?_); refine ada rfl rfl rfl dc au au (fun oN hoN => ?_); refine bb ?_; (refine hK1x _ _ (by first | exact Or.inl (by decide +kernel) | (refine Or.inr ?_; (try dsimp only); first | exact ⟨aa, aa⟩)) ?_; clear hK1x K1 Rx); refine DC.awc_cons (fun Rx K1 hK1x => ?_); refine za2 rfl rfl rfl (by assumption) au dc au au (fun oN hoN => ?_); refine bb ?_; (refine hK1x _ _ (by first | exact Or.inl (by decide +kernel) | (refine Or.inr ?_; (try dsimp only); first | exact ⟨aa, aa⟩)) ?_; clear hK1x K1 Rx); refine DC.awc_cons0 (fun Rx K1 hK1x => ?_); refine jc ?_; (refine hK1x _ (by first | exact Or.inl (by decide +kernel) | (refine Or.inr ?_; (try dsimp only); first | exact ⟨aa, aa⟩)) ?_; clear hK1x K1 Rx); refine DC.awc_nil ?_; refine gj ?_)
  have hoS : O.s ≠ oN := fun e => by rw [<- e, e2] at hoN; cases hoN
  have hflat : List.map (fun x => AV.bys (recB r w.n x)) (w.saved r) ++ List.take ((k2 - 0) * 1) (List.drop (0 * 1) (List.map (fun x => AV.bys (recB r w.n x)) sv)) = (w.saved r ++ sv.take k).map fun x => AV.bys (recB r w.n x) := by
    rw [htk, List.map_append, List.map_take, Nat.sub_zero, Nat.mul_one, Nat.zero_mul, List.drop_zero]
  have hln : (w.saved r).length + (k2 - 0) = (w.saved r ++ sv.take k).length := by rw [htk, List.length_append, List.length_take]; omega
  rw [hflat, hln, show 0 + r * 1 = r by omega]
  refine dy (R' := [(0, .ptr O.w 0), (1, mI (r : Int))]) ((Ent.seal_cellC (p := O.s) (o := oN) (k := r) (sz := 1) (ys := (w.saved r ++ sv.take k).map fun x => AV.bys (recB r w.n x)) hoS (arn _ _ _) (arl hoS.symm (arn _ _ _)) (by rw [List.getElem?_set, if_pos rfl, if_pos (by rw [List.length_map, List.length_range]; exact hr)]) (by rw [List.length_map, Nat.mul_one])).trans (Ent.sub _ (by (repeat' (first | exact RSub.nil _ | apply RSub.cons)); all_goals rfl))) ?_
  rw [List.set_set]; have hnew : (((List.range w.n).map fun r => svA r w.n (w.saved r)).set r (.sls (w.saved r ++ sv.take k).length ((w.saved r ++ sv.take k).map fun x => .bys (recB r w.n x)))) = (List.range w.n).map fun q => svA q w.n (Ag.upd w.saved r (w.saved r ++ sv.take k) q) := afh w.saved _
  rw [hnew]; clear hnew hflat hln hlt
  refine nr (fun H3 => H3 O.s = some (.cel ((List.range w.n).map fun q => svA q w.n (Ag.upd w.saved r (w.saved r ++ sv.take k) q))) /\ ∀ p y, p ≠ O.s -> H2 p = some y -> H3 p = some y) ⟨arn _ _ _, fun p y h1 h2 => by
      have h3 : p ≠ oN := fun e => by rw [e, hoN] at h2; cases h2
      exact arl h1 (arq h3 (arl h1 (arl h3 h2)))⟩ ?_
  rintro H3 ⟨q3, hsk⟩; obtain ⟨w1, hw1⟩ : ∃ w1 : Ag.W, w1 = { w with cut := Ag.upd w.cut r none, saved := Ag.upd w.saved r (w.saved r ++ sv.take k) } := ⟨_, rfl⟩
  have hst1 : (w1.opened r).bind (fun w => w.told r) = some w' := by unfold stepW at hst; rw [hk] at hst; rw [hw1]; exact hst
  cases hop : w1.opened r with
  | none => rw [hop] at hst1; cases hst1
  | some w2 =>
  rw [hop, Option.bind_some] at hst1; obtain ⟨d, ho, hw2⟩ := te hop; obtain ⟨b, htl, hw3⟩ := ra hst1
  have hAt : WAt H3 O F w1 /\ TurnW w.n H O F O F H3 := by
    rw [hw1]; exact h0.objs rfl rfl rfl (hsk _ _ d2 e1) (hsk _ _ d8 (q2 _ _ ac d9)) q3 (hsk _ _ d14.symm q1) (hsk _ _ d15.symm (q2 _ _ al d19.symm)) (hsk _ _ d16.symm (q2 _ _ ai d20.symm)) (hsk _ _ d17.symm (q2 _ _ ar d21.symm)) (hsk _ _ d18.symm (q2 _ _ ab d22.symm)) nd (fun p hp => .inl hp) (fun p y hp hF => hsk _ _ (fun e => hF (by rw [e]; simp [Wo.l'])) (q2 _ _ hp (fun e => hF (by rw [e]; simp [Wo.l']))))
  clear q1 q2 e1 e2 hoS hsk q3 hoN; obtain ⟨t1, t2⟩ := hAt; have hn1 : w1.n = w.n := by rw [hw1]
  have hs1 : w1.saved r = w.saved r ++ sv.take k := by rw [hw1]; exact Ag.upd_same _ _ _
  have hrf : ∀ x ∈ w1.saved r, RFine x := fun x hx => by
    rw [hs1] at hx; rcases List.mem_append.1 hx with hx | hx
    · exact hf.sv r hr x hx
    · exact hsv x (List.mem_of_mem_take hx)
  have hOp := afu H3 O F w1 r t1 (by rw [hn1]; exact hr) (by rw [hn1]; exact hf.n7) (by rw [hn1]; exact hf.odd) hrf (by rw [hs1, List.length_append, List.length_take]; omega) ho
  have hdf := (tj (by rw [hn1]; exact hr) (by rw [hn1]; exact hf.n7) hrf ho).1
  have hw2c : w2.c r = d := by rw [hw2]; exact Ag.upd_same _ _ _
  have hTo := fun H G h => abr H O (Ag.upd F r G) w2 r h (by rw [hw2, hn1]; exact hr) (by rw [hw2, hn1]; exact hf.n7) (by rw [hw2c]; exact hdf) (by rw [hw2, hw1]; exact hf.best) (by rw [hw2, hw1]; exact hf.ids) (by rw [hw2, hw1]; exact hf.row) htl
  rw [<- hw2] at hOp; rw [<- hw3] at hTo; have hn2 : w2.n = w.n := by rw [hw2, hn1]
  rw [hn1] at hOp; rw [hn2] at hTo; clear hst hst1 hop ho htl hw1 hw2 hw3 hs1 hrf
  focus (refine dg ?_; refine an ?_; (refine zc ah (hOp) ?_; rintro r H' ⟨rfl, G, u1, u2⟩); refine i9 ?_; refine ep ?_)
  have hT1 := hTo H' G u1
  focus ((refine zc ah (hT1) ?_; rintro r H' ⟨rfl, O2, v1, v2⟩); refine bu ?_; refine bn ?_; refine db ?_)
  exact ⟨.inl rfl, _, _, _, Ent.refl _ _, ret1 rfl rfl, rfl, O2, _, v1, (t2.trans u2).trans v2⟩
end Go.Proofs.Ytbciofnejefkiaa
namespace Go.Proofs.Ytbciofnejefkiaa
open Go Go.Am Go.Proofs
theorem adk {l : List Mg} {i : Nat} {m : Mg} (h : l[i]? = some m) : ((l.flatMap Mg.cells).drop (i * 9)).take 9 = m.cells := wh (sz := 9) (f := Mg.cells) (fun _ => rfl) h
theorem alj (l : List Mg) (m : Mg) : (Ag.addL l m).length <= 4000 \/ (Ag.addL l m).length = l.length := by
  unfold Ag.addL; split
  · left; rw [List.length_append]; simp only [List.length_cons, List.length_nil]; omega
  · right; rfl
theorem ang (H : AHeap) (O : Wo) (F : Nat -> Ob) (w w' : Ag.W) (r : Nat) (sv : List Ag.Rd) (sn : List Mg) (h : WAt H O F w) (hr : r < w.n) (hf : WFin w) (hl : (w.saved r).length <= 1000000000000) (hsl : sv.length <= 1000000) (hsn : sn.length <= 1000000) (hok : ∀ m ∈ sn, m.Ok) (hk : w.cut r = none)
    (hst : stepW w r sv sn = some w') :
    ACalls Try.prog 45 [.ptr O.w 0, mI (r : Int), .agg [.sls sv.length (sv.map fun x => .bys (recB r w.n x)), .sls sn.length (sn.flatMap Mg.cells)]] H fun r' H' => r' = bB true /\ ∃ O' F', WAt H' O' F' w' /\ TurnW w.n H O F O' F' H' := by
  have h0 := h; obtain ⟨aw, ac, asv, ak, al, ai, ar, ab, nd, co, _, _, _⟩ := h; obtain ⟨d1, d2, d3, d4, d5, d6, d7, d8, d9, d10, d11, d12, d13, d14, d15, d16, d17, d18, d19, d20, d21, d22, d23, d24, d25, d26, d27, d28⟩ := Wo.ne nd; have hrg : (List.range w.n)[r]? = some r := List.getElem?_range hr
  have hck : ((List.range w.n).map fun r => cutA (w.cut r))[0 + r * 1]? = some (mI (-1)) := by
    rw [show 0 + r * 1 = r by omega, vo _ hr, hk]; rfl
  have hcs : ((List.range w.n).map fun r => svA r w.n (w.saved r))[0 + r * 1]? = some (.sls (w.saved r).length ((w.saved r).map fun x => .bys (recB r w.n x))) := by
    rw [show 0 + r * 1 = r by omega, vo _ hr]; rfl
  unfold worldC at aw; refine lz Try.func45 rfl (by decide) ?_
  focus (refine az ?_; refine zb4 rfl rfl rfl ?_; refine bc ?_; refine bq ?_; refine bl ?_; refine gr ?_; refine jg ?_; refine ae rfl (ky rfl rfl) ?_; refine aq ?_; refine gh ?_; intro hc)
  all_goals try (exfalso; omega)
  focus (refine bf ?_; refine DC.aw_drawp (fun H' => H' O.w = some (.cel [mI w.n, .vw O.c 1 0 w.n, .vw O.s 1 0 w.n, .vw O.k 1 0 w.n, .vw O.l 9 0 w.l.length, .vw O.i 1 0 w.ids.length, .vw O.r 1 0 w.ids.length, .vw O.b 3 0 w.best.length]) /\ H' O.s = some (.cel ((List.range w.n).map fun r => svA r w.n (w.saved r)))) (by first | exact ⟨aa, aa⟩) dz bg bg ?_; refine dx ?_; refine im ?_; refine e8 ?_; refine fa ?_; (apply DC.awn_s; · (intros; exact ot)); refine dx ?_; refine im ?_; refine e8 ?_; refine fa ?_; refine qy ?_; (apply DC.awn_s; · (intro H1 hPsi; (try dsimp only at hPsi); (try (obtain ⟨hPsi, hPsi2⟩ := hPsi)); exact fc rfl aa ij)); refine DC.awn_b ?_; (apply DC.awn_s; · (intros; exact mj rfl)); refine uh ?_; refine DC.awn_b ?_; refine qy ?_; refine DC.awn_b0 ?_; refine DC.awn_nil ?_; refine DC.awc_cons (fun Rx K1 hK1x => ?_); refine ada rfl rfl rfl dc au au (fun oN hoN => ?_); refine bb ?_; (refine hK1x _ _ (by first | exact Or.inl (by decide +kernel) | (refine Or.inr ?_; (try dsimp only); first | exact ⟨aa, aa⟩)) ?_; clear hK1x K1 Rx); refine DC.awc_cons (fun Rx K1 hK1x => ?_); refine za2 rfl rfl rfl (by assumption) au dc au au (fun oN hoN => ?_); refine bb ?_; (refine hK1x _ _ (by first | exact Or.inl (by decide +kernel) | (refine Or.inr ?_; (try dsimp only); first | exact ⟨aa, aa⟩)) ?_; clear hK1x K1 Rx); refine DC.awc_cons0 (fun Rx K1 hK1x => ?_); refine jc ?_; (refine hK1x _ (by first | exact Or.inl (by decide +kernel) | (refine Or.inr ?_; (try dsimp only); first | exact ⟨aa, aa⟩)) ?_; clear hK1x K1 Rx); refine DC.awc_nil ?_; refine gj ?_)
  have hoS : O.s ≠ oN := fun e => by rw [<- e, asv] at hoN; cases hoN
  have hflat : List.map (fun x => AV.bys (recB r w.n x)) (w.saved r) ++ List.map (fun x => AV.bys (recB r w.n x)) sv = (w.saved r ++ sv).map fun x => AV.bys (recB r w.n x) := by rw [List.map_append]
  have hln : (w.saved r).length + sv.length = (w.saved r ++ sv).length := by rw [List.length_append]
  rw [hflat, hln, show 0 + r * 1 = r by omega]
  refine dy (R' := [(0, .ptr O.w 0), (1, mI (r : Int)), (5, .pce [.sls sv.length (sv.map fun x => .bys (recB r w.n x)), .sls sn.length (sn.flatMap Mg.cells)] 0)]) ((Ent.seal_cellC (p := O.s) (o := oN) (k := r) (sz := 1) (ys := (w.saved r ++ sv).map fun x => AV.bys (recB r w.n x)) hoS (arn _ _ _) (arl hoS.symm (arn _ _ _)) (by rw [List.getElem?_set, if_pos rfl, if_pos (by rw [List.length_map, List.length_range]; exact hr)]) (by rw [List.length_map, Nat.mul_one])).trans (Ent.sub _ (by (repeat' (first | exact RSub.nil _ | apply RSub.cons)); all_goals rfl))) ?_
  rw [List.set_set]; have hnew : (((List.range w.n).map fun r => svA r w.n (w.saved r)).set r (.sls (w.saved r ++ sv).length ((w.saved r ++ sv).map fun x => .bys (recB r w.n x)))) = (List.range w.n).map fun q => svA q w.n (Ag.upd w.saved r (w.saved r ++ sv) q) := afh w.saved _
  rw [hnew]; clear hnew hflat hln hc
  refine nr (fun H3 => H3 O.s = some (.cel ((List.range w.n).map fun q => svA q w.n (Ag.upd w.saved r (w.saved r ++ sv) q))) /\ ∀ p y, p ≠ O.s -> H p = some y -> H3 p = some y) ⟨arn _ _ _, fun p y h1 h2 => by
      have h3 : p ≠ oN := fun e => by rw [e, hoN] at h2; cases h2
      exact arl h1 (arq h3 (arl h1 (arl h3 h2)))⟩ ?_
  rintro H3 ⟨q3, hsk⟩; obtain ⟨w1, hw1⟩ : ∃ w1 : Ag.W, w1 = { w with saved := Ag.upd w.saved r (w.saved r ++ sv) } := ⟨_, rfl⟩
  have hAt : WAt H3 O F w1 /\ TurnW w.n H O F O F H3 := by
    rw [hw1]; exact h0.objs rfl rfl rfl (hsk _ _ d2 aw) (hsk _ _ d8 ac) q3 (hsk _ _ d14.symm ak) (hsk _ _ d15.symm al) (hsk _ _ d16.symm ai) (hsk _ _ d17.symm ar) (hsk _ _ d18.symm ab) nd (fun p hp => .inl hp) (fun p y hp hF => hsk _ _ (fun e => hF (by rw [e]; simp [Wo.l'])) hp)
  obtain ⟨t1, t2⟩ := hAt; unfold stepW at hst; rw [hk] at hst; dsimp only at hst; split at hst
  rotate_left
  · cases hst
  next hfit =>
  have hn1 : w1.n = w.n := by rw [hw1]
  have hl1 : w1.l = w.l := by rw [hw1]
  obtain ⟨w2, hw2⟩ : ∃ w2 : Ag.W, w2 = { w1 with l := sn.foldl Ag.addL w.l } := ⟨_, rfl⟩
  have hst1 : w2.told r = some w' := by rw [hw2, hw1]; exact hst
  have hwl := hf.l; obtain ⟨b, htl, hw3⟩ := ra hst1; have hn2 : w2.n = w.n := by rw [hw2, hw1]
  have hTo := fun H O h => abr H O F w2 r h (by rw [hn2]; exact hr) (by rw [hn2]; exact hf.n7) (by rw [hw2, hw1]; exact hf.co r hr) (by rw [hw2, hw1]; exact hf.best) (by rw [hw2, hw1]; exact hf.ids) (by rw [hw2, hw1]; exact hf.row) htl
  rw [<- hw3, hn2] at hTo; clear hst hst1 htl hw3 hw1 q3 hsk hcs hck asv ac ak al ai ar ab hrg co hoN hoS; have h1 := t1; have aw1 := t1.aw; have al1 := t1.al; unfold worldC at aw1; rw [hn1, hl1] at aw1; rw [hl1] at al1
  focus (refine bq ?_; refine bc ?_; refine gi ?_)
  refine cv (fun mm R' H2 => ∃ (i ol : Nat) (l : List Mg), R' = [(0, .ptr O.w 0), (1, mI (r : Int)), (5, .pce [.sls sv.length (sv.map fun x => .bys (recB r w.n x)), .sls sn.length (sn.flatMap Mg.cells)] 0), (8, .raw (.int .i64 (i : Int)))] /\ H2 O.w = some (.cel [mI w.n, .vw O.c 1 0 w.n, .vw O.s 1 0 w.n, .vw O.k 1 0 w.n, .vw ol 9 0 l.length, .vw O.i 1 0 w1.ids.length, .vw O.r 1 0 w1.ids.length, .vw O.b 3 0 w1.best.length]) /\ H2 ol = some (.cel (l.flatMap Mg.cells)) /\ (ol = O.l \/ H3 ol = none) /\ (∀ p y, H3 p = some y -> p ≠ O.w -> p ≠ O.l -> H2 p = some y) /\ l = (sn.take i).foldl Ag.addL w.l /\ l.length <= 4000 /\ i + mm = sn.length) ?_ ?_
  · exact ⟨sn.length, _, _, ba, 0, O.l, w.l, rfl, aw1, al1, .inl rfl, fun p y hp _ _ => hp, by rw [List.take_zero]; rfl, hwl, by omega⟩
  clear aw1 al1 hwl; rintro mm R0 H2 ⟨i, ol, l, rfl, q1, q2, q3, q4, q5, q6, hi⟩
  have hol : ∀ p y, H3 p = some y -> p ≠ O.l -> p ≠ ol := fun p y hp hne e => by
    rcases q3 with h | h
    · exact hne (e.trans h)
    · rw [e, h] at hp; cases hp
  by_cases hlt : i < sn.length
  rotate_left
  · obtain rfl : i = sn.length := by omega
    rw [List.take_length] at q5
    have hres : WAt H2 { O with l := ol } F w2 /\ TurnW w.n H3 O F { O with l := ol } F H2 := by
      have hne : ∀ x, (∃ y, H3 x = some y) -> x ≠ O.l -> ol ≠ x := fun x ⟨y, hx⟩ hn e => hol x y hx hn e.symm
      rw [hw2, <- q5]; rw [<- hn1]; refine h1.objs rfl rfl rfl (by rw [<- hn1] at q1; exact q1) (q4 _ _ h1.ac d1.symm d10) (q4 _ _ h1.asv d2.symm d15) (q4 _ _ h1.ak d3.symm d19) q2 (q4 _ _ h1.ai d5.symm d23.symm) (q4 _ _ h1.ar d6.symm d24.symm) (q4 _ _ h1.ab d7.symm d25.symm) (Wo.nd ⟨d1, d2, d3, (hne _ ⟨_, h1.aw⟩ d4).symm, d5, d6, d7, d8, d9, (hne _ ⟨_, h1.ac⟩ d10).symm, d11, d12, d13, d14, (hne _ ⟨_, h1.asv⟩ d15).symm, d16, d17, d18, (hne _ ⟨_, h1.ak⟩ d19).symm, d20, d21, d22, hne _ ⟨_, h1.ai⟩ d23.symm, hne _ ⟨_, h1.ar⟩ d24.symm, hne _ ⟨_, h1.ab⟩ d25.symm, d26, d27, d28⟩) (fun p hp => ?_) (fun p y hp hF => q4 p y hp (fun e => hF (by rw [e]; simp [Wo.l'])) (fun e => hF (by rw [e]; simp [Wo.l'])))
      simp only [Wo.l', List.mem_cons, List.not_mem_nil, or_false] at hp ⊢; rcases hp with e | e | e | e | e | e | e | e
      · exact .inl (.inl e)
      · exact .inl (.inr (.inl e))
      · exact .inl (.inr (.inr (.inl e)))
      · exact .inl (.inr (.inr (.inr (.inl e))))
      · rcases q3 with h | h
        · exact .inl (.inr (.inr (.inr (.inr (.inl (e.trans h))))))
        · exact .inr (e ▸ h)
      · exact .inl (.inr (.inr (.inr (.inr (.inr (.inl e))))))
      · exact .inl (.inr (.inr (.inr (.inr (.inr (.inr (.inl e)))))))
      · exact .inl (.inr (.inr (.inr (.inr (.inr (.inr (.inr e)))))))
    have hT1 := hTo H2 { O with l := ol } hres.1
    clear hTo q5
    focus (refine bz ?_; refine ez ?_; refine eu ?_; refine cm ?_; refine c8 ?_; intro hc; refine dg ?_; refine an ?_; (refine zc ah (hT1) ?_; rintro r H' ⟨rfl, O2, v1, v2⟩); refine bn ?_)
    all_goals try (exfalso; omega)
    exact ⟨.inl rfl, _, _, _, Ent.refl _ _, ret1 rfl rfl, rfl, O2, _, v1, (t2.trans hres.2).trans v2⟩
  have hg : sn[i]? = some sn[i] := List.getElem?_eq_getElem hlt; have hom := hok _ (List.getElem_mem hlt); obtain ⟨fg, ff, fn, ft0, ftn⟩ := hfit _ (List.getElem_mem hlt); have hgm := adk hg; have hfo : (sn.take (i + 1)).foldl Ag.addL w.l = Ag.addL l sn[i] := by rw [List.take_add_one, hg, List.foldl_append, <- q5]; rfl
  generalize sn[i] = m at *; have hel := fg.1.2.2.2.1; have hbl := fg.1.2.2.2.2.1; have hGd := fun H => Good_calls H m hom (by omega) (by omega)
  rw [decide_eq_true fg] at hGd; have hPt := fun H => Put_calls H m hom (by omega) (by omega)
  have hGt := fun H => Get_put H m hom fg
  have hfl : (l.flatMap Mg.cells).length = l.length * 9 := sc l; have how : O.w ≠ ol := hol _ _ h1.aw d4; replace q5 := Hdn.mk q5; replace hfo := Hdn.mk hfo; clear hTo hfit; have hmc : m.cells = [mI m.kind, mI m.from_, mI m.to, .raw (.int .u64 (m.view : Int)), .raw (.int .u64 (m.last : Int)), .raw (.int .u64 (m.op : Int)), .raw (.int .u64 (m.commit : Int)), .sls m.ents.length (m.ents.flatMap En.cells), .bys m.body] := rfl
  focus (refine bz ?_; refine ez ?_; refine eu ?_; refine cm ?_; refine ax rfl (fun hc => ?_) (fun hc => ?_); refine ct ?_; refine ez ?_; refine an ?_; refine ic ?_; refine nk ?_; refine cz rfl rfl rfl (fun oN hoN => ?_); refine jo ?_; refine aq ?_; refine bf ?_; refine cj ?_; refine pj ?_; (apply ay; · exact bw ah (hGd _)); refine ju ?_; refine eb ?_; refine dh ?_; refine eb ?_; (apply ay; · exact nu rfl rfl); refine ie ?_; refine zt2 rfl rfl rfl (fun hc => ?_) (fun hc => ?_); refine dh ?_; refine eb ?_; (apply ay; · exact kj rfl rfl); refine ie ?_; refine zt2 rfl rfl rfl (fun hc => ?_) (fun hc => ?_); refine dh ?_; (apply ay; · exact sq rfl rfl); refine ie ?_; refine zt2 rfl rfl rfl (fun hc => ?_) (fun hc => ?_); refine dh ?_; refine dd ?_; (apply ay; · exact ky rfl rfl); refine jh ?_; refine gh ?_; intro hc; refine az ?_; refine ip ?_; (refine zc ah (hPt _) ?_; rintro r H' ⟨rfl, rfl⟩); (refine zc ah (hGt _) ?_; rintro r H' ⟨rfl, rfl⟩); refine jj ?_; refine cz rfl rfl rfl (fun oN hoN => ?_); refine jo ?_; refine bc ?_; refine bz ?_; refine jk ?_; refine aq ?_; refine gh ?_; intro hc; refine az ?_; refine bl ?_; refine iz ?_; refine cm ?_; refine ax rfl (fun hc => ?_) (fun hc => ?_); refine mw false dz bg bg ?_; refine gz ?_; refine gz ?_; refine jd ?_; (apply j8 bg; (· exact fc rfl aa rfl)); (apply jl; · (intro H1; exact rh rfl rfl rfl (by decide))); refine re ?_; refine lu ?_; refine jd ?_; refine lq ?_; refine mr ?_; refine kz (fun Rx K1 hK1x => ?_); refine za4 rfl rfl rfl aa mc dc au au (fun oN hoN => ?_); refine bb ?_; (refine hK1x _ _ ?_; clear hK1x K1 Rx); refine lw (fun Rx K1 hK1x => ?_); refine jc ?_; (refine hK1x _ ?_; clear hK1x K1 Rx); refine mi ?_; refine fx ?_; rotate_left; refine di ?_; refine fx ?_; rotate_left; exact absurd hc aj; exact absurd hc aj; exact absurd hc aj; exact absurd hc aj)
  all_goals try (exfalso; omega)
  · have hln : (l ++ [m]).length = l.length + 1 := by simp
    have hcs : (l ++ [m]).flatMap Mg.cells = l.flatMap Mg.cells ++ m.cells := by simp
    have hadd : Ag.addL l m = l ++ [m] := if_pos hc; have m1 : oN ≠ O.w := fun x => by rw [x, q1] at hoN; cases hoN
    have m2 : oN ≠ ol := fun x => by rw [x, q2] at hoN; cases hoN
    refine ⟨mm - 1, _, _, by omega, jt, i + 1, oN, l ++ [m], rfl, by rw [hln]; exact aa, by rw [hcs]; exact aa, ?_, fun p y hp h1 h2 => ?_, by rw [hfo.out, hadd], by omega, by omega⟩
    · by_cases hx : oN = O.l
      · exact .inl hx
      · right
        cases hy : H3 oN with
        | none => rfl
        | some y => rw [q4 _ _ hy m1 hx] at hoN; cases hoN
    · have m3 := q4 p y hp h1 h2
      have m4 : p ≠ oN := fun x => by rw [x, hoN] at m3; cases m3
      have m5 := hol p y hp h2; exact aa
  · have hadd : Ag.addL l m = l := if_neg hc
    exact ⟨mm - 1, _, _, by omega, jt, i + 1, ol, l, rfl, q1, q2, q3, q4, by rw [hfo.out, hadd], q6, by omega⟩
end Go.Proofs.Ytbciofnejefkiaa
namespace Go.Proofs.Ytbciofnejefkiaa
open Go Go.Am Go.Proofs
theorem ami (H : AHeap) (O : Wo) (F : Nat -> Ob) (w w' : Ag.W) (r : Nat) (sv : List Ag.Rd) (sn : List Mg) (h : WAt H O F w) (hr : r < w.n) (hf : WFin w) (hl : (w.saved r).length <= 100000000000) (hsv : ∀ x ∈ sv, RFine x) (hsl : sv.length <= 1000000) (hsn : sn.length <= 1000000) (hok : ∀ m ∈ sn, m.Ok) (hk63 : ∀ k, w.cut r = some k -> k < 2 ^ 63)
    (hst : stepW w r sv sn = some w') :
    ACalls Try.prog 45 [.ptr O.w 0, mI (r : Int), .agg [.sls sv.length (sv.map fun x => .bys (recB r w.n x)), .sls sn.length (sn.flatMap Mg.cells)]] H fun r' H' => r' = bB true /\ ∃ O' F', WAt H' O' F' w' /\ TurnW w.n H O F O' F' H' := by
  cases hk : w.cut r with
  | none => exact ang H O F w w' r sv sn h hr hf (by omega) hsl hsn hok hk hst
  | some k => exact alc H O F w w' r k sv sn h hr hf hl hsv hsl hsn hk (hk63 k hk) hst
theorem ad6 (H : AHeap) (O : Wo) (F : Nat -> Ob) (w : Ag.W) (k : Nat) (m : Mg) (h : WAt H O F w) (hl : w.l.length <= 4000) (hm : w.l[k]? = some m) :
    ACalls Try.prog 46 [.ptr O.w 0, mI (k : Int)] H fun r' H' => r' = .agg m.cells /\ ∃ O', WAt H' O' F (w.out k) /\ TurnW w.n H O F O' F H' := by
  have h0 := h; obtain ⟨aw, ac, asv, ak, al, ai, ar, ab, nd, co, _, _, _⟩ := h; obtain ⟨d1, d2, d3, d4, d5, d6, d7, d8, d9, d10, d11, d12, d13, d14, d15, d16, d17, d18, d19, d20, d21, d22, d23, d24, d25, d26, d27, d28⟩ := Wo.ne nd; have hlt := (List.getElem?_eq_some_iff.1 hm).1; have hgm := adk hm; have hgm0 : ((w.l.flatMap Mg.cells).drop (0 + k * 9)).take 9 = m.cells := by rw [Nat.zero_add]; exact hgm
  have hfl : (w.l.flatMap Mg.cells).length = w.l.length * 9 := sc w.l; have hmc : m.cells = [mI m.kind, mI m.from_, mI m.to, .raw (.int .u64 (m.view : Int)), .raw (.int .u64 (m.last : Int)), .raw (.int .u64 (m.op : Int)), .raw (.int .u64 (m.commit : Int)), .sls m.ents.length (m.ents.flatMap En.cells), .bys m.body] := rfl; unfold worldC at aw; refine gm Try.func46 rfl (by decide) ?_
  focus (refine az ?_; refine cz rfl rfl rfl (fun oN hoN => ?_); refine il ?_; refine bl ?_; refine gr ?_; refine sg ?_; refine cz rfl rfl rfl (fun oN hoN => ?_); refine jo ?_; refine aq ?_)
  focus (refine bf ?_; refine DC.aw_drawp (fun H' => H' O.w = some (.cel [mI w.n, .vw O.c 1 0 w.n, .vw O.s 1 0 w.n, .vw O.k 1 0 w.n, .vw O.l 9 0 w.l.length, .vw O.i 1 0 w.ids.length, .vw O.r 1 0 w.ids.length, .vw O.b 3 0 w.best.length]) /\ H' O.l = some (.cel (w.l.flatMap Mg.cells))) (by first | exact ⟨aa, aa⟩) dz bg bg ?_; refine dx ?_; (apply DC.awn_s; · (intros; exact ot)); refine dx ?_; refine im ?_; refine e8 ?_; refine fa ?_; (apply DC.awn_s; · (intros; exact xz rfl ji ji au au)); refine DC.awn_b ?_; refine dx ?_; refine im ?_; refine e8 ?_; refine fa ?_; (apply DC.awn_s; · (intros; exact my rfl rfl au)); (apply DC.awn_s; · (intros; exact xz rfl ji ji au au)); refine DC.awn_b ?_; refine im ?_; refine DC.awn_b0 ?_; refine DC.awn_nil ?_; refine DC.awc_cons (fun Rx K1 hK1x => ?_); refine ada rfl rfl rfl (ac1 aa au) au au (fun oN hoN => ?_); refine bb ?_; (refine hK1x _ _ (by first | exact Or.inl (by decide +kernel) | (refine Or.inr ?_; (try dsimp only); first | exact ⟨aa, aa⟩)) ?_; clear hK1x K1 Rx); refine DC.awc_cons (fun Rx K1 hK1x => ?_); refine za2 rfl rfl rfl (by assumption) au (ac1 aa au) au au (fun oN hoN => ?_); refine bb ?_; (refine hK1x _ _ (by first | exact Or.inl (by decide +kernel) | (refine Or.inr ?_; (try dsimp only); first | exact ⟨aa, aa⟩)) ?_; clear hK1x K1 Rx); refine DC.awc_cons0 (fun Rx K1 hK1x => ?_); refine jc ?_; (refine hK1x _ (by first | exact Or.inl (by decide +kernel) | (refine Or.inr ?_; (try dsimp only); first | exact ⟨aa, aa⟩)) ?_; clear hK1x K1 Rx); refine DC.awc_nil ?_; refine gj ?_)
  rename_i oR hoR oM hoM oA hoA
  have k1 : H oN = none := arm hoN; have m1 : oN ≠ oR := arp hoN; have m2 : O.w ≠ oR := fun e => by rw [<- e, aw] at hoR; cases hoR
  have m3 : O.w ≠ oN := fun e => by rw [<- e, aw] at k1; cases k1
  have hcut : List.take ((k - 0) * 9) (List.drop (0 + 0 * 9) (w.l.flatMap Mg.cells)) ++ List.take ((w.l.length - (k + 1)) * 9) (List.drop (0 + (k + 1) * 9) (w.l.flatMap Mg.cells)) = (w.out k).l.flatMap Mg.cells := by
    have e1 : w.l.flatMap Mg.cells = (w.l.take k).flatMap Mg.cells ++ (w.l.drop k).flatMap Mg.cells := by rw [<- List.flatMap_append, List.take_append_drop]
    have e2 : w.l.flatMap Mg.cells = (w.l.take (k + 1)).flatMap Mg.cells ++ (w.l.drop (k + 1)).flatMap Mg.cells := by rw [<- List.flatMap_append, List.take_append_drop]
    have l1 : ((w.l.take k).flatMap Mg.cells).length = k * 9 := by rw [sc, List.length_take, Nat.min_eq_left (by omega)]
    have l2 : ((w.l.take (k + 1)).flatMap Mg.cells).length = (k + 1) * 9 := by rw [sc, List.length_take, Nat.min_eq_left (by omega)]
    have l3 : ((w.l.drop (k + 1)).flatMap Mg.cells).length = (w.l.length - (k + 1)) * 9 := by rw [sc, List.length_drop]
    show _ = (w.l.take k ++ w.l.drop (k + 1)).flatMap Mg.cells
    rw [List.flatMap_append]
    congr 1
    · rw [Nat.sub_zero, Nat.zero_mul, Nat.add_zero, List.drop_zero, <- l1, e1, List.take_left]
    · rw [Nat.zero_add, <- l2]
      conv => lhs; rw [e2]
      rw [List.drop_left, <- l3, List.take_length]
  have hlo : (k - 0 + (w.l.length - (k + 1))) = (w.out k).l.length := by
    show _ = (w.l.take k ++ w.l.drop (k + 1)).length
    rw [List.length_append, List.length_take, List.length_drop, Nat.min_eq_left (by omega)]; omega
  rw [hlo, hcut]; refine dy (R' := [(4, .ptr oR 0), (5, .pce m.cells 0)]) (Ent.sub _ (by (repeat' (first | exact RSub.nil _ | apply RSub.cons)); all_goals rfl)) ?_
  refine nr (fun H4 => H4 oR = some (.cel (AV.raw (.agg #[.int .i64 0, .int .i64 0, .int .i64 0, .int .u64 0, .int .u64 0, .int .u64 0, .int .u64 0, .slice none 0 0, .slice none 0 0])).parts) /\ H4 oN = some (.cel ((w.out k).l.flatMap Mg.cells)) /\ H4 O.w = some (.cel [mI w.n, .vw O.c 1 0 w.n, .vw O.s 1 0 w.n, .vw O.k 1 0 w.n, .vw oN 9 0 (w.out k).l.length, .vw O.i 1 0 w.ids.length, .vw O.r 1 0 w.ids.length, .vw O.b 3 0 w.best.length]) /\ ∀ p y, H p = some y -> p ≠ O.w -> H4 p = some y) ⟨by exact aa, by exact aa, by exact aa, fun p y hp hn => by
    have hne : ∀ {q : Nat}, H q = none -> p ≠ q := fun b e => by rw [e, b] at hp; cases hp
    exact arl hn (arl (hne k1) (arl (hne hoR) hp))⟩ ?_
  clear hoM hoA hoN hcut hlo hgm hgm0 hfl; rintro H4 ⟨q1, q2, q3, q4⟩; have hsk : ∀ p y, H p = some y -> p ≠ O.w -> (H4.erase oR) p = some y := fun p y hp hn => arq (fun e => by rw [e, hoR] at hp; cases hp) (q4 p y hp hn)
  have hne : ∀ x, (∃ y, H x = some y) -> oN ≠ x := fun x ⟨y, hx⟩ e => by rw [<- e, k1] at hx; cases hx
  have hres : WAt (H4.erase oR) { O with l := oN } F (w.out k) /\ TurnW w.n H O F { O with l := oN } F (H4.erase oR) := by
    refine h0.objs rfl rfl rfl (arq m2 q3) (hsk _ _ ac d1.symm) (hsk _ _ asv d2.symm) (hsk _ _ ak d3.symm) (arq m1 q2) (hsk _ _ ai d5.symm) (hsk _ _ ar d6.symm) (hsk _ _ ab d7.symm) (Wo.nd ⟨d1, d2, d3, (hne _ ⟨_, aw⟩).symm, d5, d6, d7, d8, d9, (hne _ ⟨_, ac⟩).symm, d11, d12, d13, d14, (hne _ ⟨_, asv⟩).symm, d16, d17, d18, (hne _ ⟨_, ak⟩).symm, d20, d21, d22, hne _ ⟨_, ai⟩, hne _ ⟨_, ar⟩, hne _ ⟨_, ab⟩, d26, d27, d28⟩) (fun p hp => ?_) (fun p y hp hF => hsk p y hp (fun e => hF (by rw [e]; simp [Wo.l'])))
    simp only [Wo.l', List.mem_cons, List.not_mem_nil, or_false] at hp ⊢; rcases hp with e | e | e | e | e | e | e | e
    · exact .inl (.inl e)
    · exact .inl (.inr (.inl e))
    · exact .inl (.inr (.inr (.inl e)))
    · exact .inl (.inr (.inr (.inr (.inl e))))
    · exact .inr (e ▸ k1)
    · exact .inl (.inr (.inr (.inr (.inr (.inr (.inl e))))))
    · exact .inl (.inr (.inr (.inr (.inr (.inr (.inr (.inl e)))))))
    · exact .inl (.inr (.inr (.inr (.inr (.inr (.inr (.inr e)))))))
  clear q2 q3 q4 hsk
  focus (refine az ?_; refine ip ?_; refine kn ?_; refine dv ?_)
  exact ⟨.inl rfl, _, _, _, aro (H0 := H4.erase oR) 4 m.cells rfl aa df j0, jp rfl (dr (m := 9) rfl rfl rfl (by decide)), rfl, _, hres.1, hres.2⟩
end Go.Proofs.Ytbciofnejefkiaa
namespace Go.Proofs.Ytbciofnejefkiaa
open Go Go.Am Go.Proofs
open Ag (GOK COK WG MOK SOK LOK)
theorem LOK.lf {S : List (Nat × List Int)} {l : List En} (h : LOK S l) : LF l := ⟨fun e he => ⟨(h.all e he).ok, (h.all e he).row⟩, h.len⟩
theorem COK.fine {g : Ag.Gh} {c : Ag.Co} (G : GOK g) (h : COK g c) (h7 : g.n <= 7) (hq : c.quiet <= 1000000000) : CFine c := by
  have hl := h.lok G; refine ⟨by rw [h.n]; exact h.me, by rw [h.n]; exact h7, h.most, Nat.le_trans h.last h.most, LOK.lf hl, h.agr, ⟨fun e he => ⟨(h.wait e he).ok, (h.wait e he).row⟩, h.waitn⟩, hq, fun q x hx => ?_, fun q v hv => ?_⟩
  · obtain ⟨h1, ⟨_, h2, k, h3, h4, _⟩, _⟩ := h.got q x hx
    have := (G.acc q h1 _ _ h3).2.1.pre h4; have := h.most; exact ⟨by rw [h.n]; exact h1, by omega, LOK.lf (by assumption)⟩
  · obtain ⟨h1, l, h2, h3⟩ := h.held q v hv
    have := (G.acc q h1 _ _ h2).2.1.len; exact ⟨by rw [h.n]; exact h1, by omega⟩
structure WX (g : Ag.Gh) (w : Ag.W) (q B I : Nat) : Prop where
  wg : WG g w
  odd : w.n % 2 = 1
  quiet : ∀ r, r < w.n -> (w.c r).quiet <= q
  sv : ∀ r, r < w.n -> ∀ x ∈ w.saved r, RFine x
  svl : ∀ r, r < w.n -> (w.saved r).length <= B
  idl : w.ids.length <= I
  row : ∀ x ∈ w.ids, x.2.length <= 1000000
  l : w.l.length <= 4000
  cut : ∀ r k, w.cut r = some k -> k < 2 ^ 63
theorem WX.cf {g : Ag.Gh} {w : Ag.W} {q B I : Nat} (h : WX g w q B I) (hq : q <= 1000000000) {r : Nat} (hr : r < w.n) : CFine (w.c r) :=
  COK.fine h.wg.gok (h.wg.c r hr).1 (by rw [h.wg.n]; exact h.wg.n7) (Nat.le_trans (h.quiet r hr) hq)
theorem WX.fin {g : Ag.Gh} {w : Ag.W} {q B I : Nat} (h : WX g w q B I) (hq : q <= 1000000000) (hI : I <= 1000000) : WFin w where
  n7 := h.wg.n7
  odd := h.odd
  co r hr := h.cf hq hr
  sv := h.sv
  best := by obtain ⟨v, hv⟩ := h.wg.best; exact LOK.lf (hv.lok h.wg.gok)
  ids := Nat.le_trans h.idl hI
  row := h.row
  l := h.l
theorem ahk : ∀ (l : List Mg) (a : List Mg), a.length <= 4000 -> (l.foldl Ag.addL a).length <= 4000
  | [], a, h => h
  | m :: l, a, h => ahk l _ (by rcases alj a m with h1 | h1 <;> omega)
theorem ql {w w' : Ag.W} {r : Nat} {s : Ag.St} (h : w.step r s = some w') :
    (w.cut r = none /\ ∃ b, w' = { w with c := Ag.upd w.c r s.c, saved := Ag.upd w.saved r (w.saved r ++ s.save), l := s.send.foldl Ag.addL w.l, best := b }) \/
    (∃ k d b, w.cut r = some k /\ Ag.open_ r w.n (w.saved r ++ s.save.take k) = some d /\ w' = { w with c := Ag.upd w.c r d, cut := Ag.upd w.cut r none, saved := Ag.upd w.saved r (w.saved r ++ s.save.take k), best := b }) := by
  rw [aif] at h; unfold stepW at h; dsimp only at h
  cases hk : w.cut r with
  | none =>
    rw [hk] at h; dsimp only at h; left
    split at h
    · obtain ⟨b, _, h2⟩ := ra h
      exact ⟨rfl, b, h2⟩
    · cases h
  | some k =>
    rw [hk] at h; dsimp only at h; right
    cases ho : Ag.W.opened { w with c := Ag.upd w.c r s.c, cut := Ag.upd w.cut r none, saved := Ag.upd w.saved r (w.saved r ++ s.save.take k) } r with
    | none => rw [ho] at h; cases h
    | some w2 =>
      rw [ho, Option.bind_some] at h; obtain ⟨d, h1, h2⟩ := te ho; obtain ⟨b, _, h4⟩ := ra h; refine ⟨k, d, b, rfl, ?_, ?_⟩
      · have : Ag.upd w.saved r (w.saved r ++ s.save.take k) r = w.saved r ++ s.save.take k := Ag.upd_same _ _ _
        rw [<- this]; exact h1
      · rw [h4, h2]
        have he : Ag.upd (Ag.upd w.c r s.c) r d = Ag.upd w.c r d := by funext p; unfold Ag.upd; split <;> rfl
        dsimp only; rw [he]
theorem WX.step {g g' : Ag.Gh} {w : Ag.W} {q q' B I r : Nat} {s : Ag.St} (h : WX g w q B I) (hr : r < w.n) (hs : SOK g r (Ag.base (w.c r)) g' s) (hsv : RS' s) (hsl : s.save.length <= 200) (hq : s.c.quiet <= q') (hqq : q <= q') :
    ∃ w' g'', w.step r s = some w' /\ WX g'' w' q' (B + 200) I /\ w'.n = w.n /\ w'.ids = w.ids := by
  obtain ⟨w', g'', e, hw, hn, hi⟩ := Ag.step_ok h.wg hr hs; refine ⟨w', g'', e, ?_, hn, hi⟩; have hupd : ∀ {α : Type} (f : Nat -> α) (a : α) (p : Nat), Ag.upd f r a p = if p = r then a else f p := fun f a p => rfl
  rcases ql e with ⟨hk, b, e2⟩ | ⟨k, d, b, hk, ho, e2⟩
  · refine ⟨hw, by rw [hn]; exact h.odd, fun p hp => ?_, fun p hp x hx => ?_, fun p hp => ?_, by rw [hi]; exact h.idl, by rw [hi]; exact h.row, ?_, fun p k hp => ?_⟩
    · rw [hn] at hp
      rw [e2]; show (Ag.upd w.c r s.c p).quiet <= q'
      rw [hupd]; split
      · exact hq
      · exact Nat.le_trans (h.quiet p hp) hqq
    · rw [hn] at hp
      rw [e2] at hx; replace hx : x ∈ Ag.upd w.saved r (w.saved r ++ s.save) p := hx; rw [hupd] at hx; split at hx
      · rcases List.mem_append.1 hx with hx | hx
        · exact h.sv r hr x hx
        · exact hsv x hx
      · exact h.sv p hp x hx
    · rw [hn] at hp
      rw [e2]; show (Ag.upd w.saved r (w.saved r ++ s.save) p).length <= _
      rw [hupd]; split
      · have := h.svl r hr; rw [List.length_append]; omega
      · have := h.svl p hp; omega
    · rw [e2]; exact ahk _ _ h.l
    · rw [e2] at hp; exact h.cut p k hp
  · have hrf : ∀ x ∈ w.saved r ++ s.save.take k, RFine x := fun x hx => by
      rcases List.mem_append.1 hx with hx | hx
      · exact h.sv r hr x hx
      · exact hsv x (List.mem_of_mem_take hx)
    refine ⟨hw, by rw [hn]; exact h.odd, fun p hp => ?_, fun p hp x hx => ?_, fun p hp => ?_, by rw [hi]; exact h.idl, by rw [hi]; exact h.row, ?_, fun p k' hp => ?_⟩
    · rw [hn] at hp
      rw [e2]; show (Ag.upd w.c r d p).quiet <= q'
      rw [hupd]; split
      · rw [(tj hr h.wg.n7 hrf ho).2.2.2]; exact Nat.zero_le _
      · exact Nat.le_trans (h.quiet p hp) hqq
    · rw [hn] at hp
      rw [e2] at hx; replace hx : x ∈ Ag.upd w.saved r (w.saved r ++ s.save.take k) p := hx; rw [hupd] at hx; split at hx
      · exact hrf x hx
      · exact h.sv p hp x hx
    · rw [hn] at hp
      rw [e2]; show (Ag.upd w.saved r (w.saved r ++ s.save.take k) p).length <= _
      rw [hupd]; split
      · have := h.svl r hr; rw [List.length_append, List.length_take]; omega
      · have := h.svl p hp; omega
    · rw [e2]; exact h.l
    · rw [e2] at hp
      replace hp : Ag.upd w.cut r none p = some k' := hp; rw [hupd] at hp; split at hp
      · cases hp
      · exact h.cut p k' hp
end Go.Proofs.Ytbciofnejefkiaa
namespace Go.Proofs.Ytbciofnejefkiaa
open Go Go.Am Go.Proofs
open Ag (GOK COK WG MOK SOK LOK)
def actC (a : Ag.Act) : List AV := [mI a.op, mI a.r, mI a.k, uI a.id, rowA a.row]
theorem stepArg {s : Ag.St} {r n : Nat} (h1 : s.c.me = r) (h2 : s.c.n = n) : stepA s = .agg [.sls s.save.length (s.save.map fun x => .bys (recB r n x)), .sls s.send.length (s.send.flatMap Mg.cells)] := by subst h1 h2; rfl
theorem WFin.upd {w : Ag.W} (h : WFin w) {r : Nat} {c : Ag.Co} (hc : CFine c) : WFin { w with c := Ag.upd w.c r c } where
  n7 := h.n7
  odd := h.odd
  co p hp := by
    show CFine (Ag.upd w.c r c p)
    unfold Ag.upd; split
    · exact hc
    · exact h.co p hp
  sv := h.sv
  best := h.best
  ids := h.ids
  row := h.row
  l := h.l
def wIn (w : Ag.W) (a : Ag.Act) : Ag.W := if 0 < a.id /\ a.row.length <= 16 then { w with ids := w.ids ++ [(a.id, a.row)] } else w
theorem WX.submit {g : Ag.Gh} {w : Ag.W} {q B I : Nat} (h : WX g w q B I) {a : Ag.Act} (ok : a.Ok) {r : Nat} (hr : r < w.n) :
    ∃ g1 g', WX g1 (wIn w a) q B (I + 1) /\ SOK g1 r (Ag.base ((wIn w a).c r)) g' ((w.c r).submit a.id a.row) := by
  have key : ∀ (w1 : Ag.W) (g1 : Ag.Gh), WX g1 w1 q B (I + 1) -> w1.n = w.n -> w1.c = w.c -> (Ag.may ⟨a.id, 0, a.row⟩ = true -> Ag.EOK g1.S ⟨a.id, 0, a.row⟩) -> ∃ g', SOK g1 r (Ag.base (w1.c r)) g' ((w.c r).submit a.id a.row) := by
    intro w1 g1 h1 hn hcc he; obtain ⟨hc, hm⟩ := h1.wg.c r (by rw [hn]; exact hr)
    rw [hcc] at hc hm; obtain ⟨g2, _, hs⟩ := Ag.submit_ok h1.wg.gok hc a.id a.row he; rw [hm, <- hcc] at hs; rw [hcc] at hs ⊢; exact ⟨g2, hs⟩
  unfold wIn; split
  · next hi =>
    have hx : WX { g with S := w.ids ++ [(a.id, a.row)] } { w with ids := w.ids ++ [(a.id, a.row)] } q B (I + 1) :=
      ⟨h.wg.more (a.id, a.row), h.odd, h.quiet, h.sv, h.svl, by show (w.ids ++ [_]).length <= _; have := h.idl; rw [List.length_append]; simp only [List.length_cons, List.length_nil]; omega, fun x hx => by
        rcases List.mem_append.1 hx with hx | hx
        · exact h.row x hx
        · rw [List.mem_singleton.1 hx]; show a.row.length <= _; omega, h.l, h.cut⟩
    obtain ⟨g', hs⟩ := key _ _ hx rfl rfl fun _ => ⟨rfl, hi.1, hi.2, List.mem_append_right _ (List.mem_singleton.2 rfl), ⟨ok.id, by simp, ok.row⟩⟩
    exact ⟨_, g', hx, hs⟩
  · next hi =>
    have hx : WX g w q B (I + 1) := ⟨h.wg, h.odd, h.quiet, h.sv, h.svl, by have := h.idl; omega, h.row, h.l, h.cut⟩
    obtain ⟨g', hs⟩ := key _ _ hx rfl rfl fun hm => by
      simp only [Ag.may, Bool.and_eq_true, decide_eq_true_eq] at hm; exact absurd hm hi
    exact ⟨_, g', hx, hs⟩
theorem WAt.newL {H H' : AHeap} {O : Wo} {F : Nat -> Ob} {w : Ag.W} {oN : Nat} {l : List Mg} (h : WAt H O F w) (hN : H oN = none) (h1 : H' O.w = some (.cel [mI w.n, .vw O.c 1 0 w.n, .vw O.s 1 0 w.n, .vw O.k 1 0 w.n, .vw oN 9 0 l.length, .vw O.i 1 0 w.ids.length, .vw O.r 1 0 w.ids.length, .vw O.b 3 0 w.best.length])) (h2 : H' oN = some (.cel (l.flatMap Mg.cells)))
    (fr : ∀ p y, H p = some y -> p ≠ O.w -> p ≠ O.l -> H' p = some y) : WAt H' { O with l := oN } F { w with l := l } /\ TurnW w.n H O F { O with l := oN } F H' := by
  obtain ⟨d1, d2, d3, d4, d5, d6, d7, d8, d9, d10, d11, d12, d13, d14, d15, d16, d17, d18, d19, d20, d21, d22, d23, d24, d25, d26, d27, d28⟩ := Wo.ne h.nd; have hne : ∀ x, (∃ y, H x = some y) -> oN ≠ x := fun x ⟨y, hx⟩ e => by rw [<- e, hN] at hx; cases hx
  refine h.objs rfl rfl rfl h1 (fr _ _ h.ac d1.symm d10) (fr _ _ h.asv d2.symm d15) (fr _ _ h.ak d3.symm d19) h2 (fr _ _ h.ai d5.symm d23.symm) (fr _ _ h.ar d6.symm d24.symm) (fr _ _ h.ab d7.symm d25.symm) (Wo.nd ⟨d1, d2, d3, (hne _ ⟨_, h.aw⟩).symm, d5, d6, d7, d8, d9, (hne _ ⟨_, h.ac⟩).symm, d11, d12, d13, d14, (hne _ ⟨_, h.asv⟩).symm, d16, d17, d18, (hne _ ⟨_, h.ak⟩).symm, d20, d21, d22, hne _ ⟨_, h.ai⟩, hne _ ⟨_, h.ar⟩, hne _ ⟨_, h.ab⟩, d26, d27, d28⟩) (fun p hp => ?_) (fun p y hp hF => fr p y hp (fun e => hF (by rw [e]; simp [Wo.l'])) (fun e => hF (by rw [e]; simp [Wo.l'])))
  simp only [Wo.l', List.mem_cons, List.not_mem_nil, or_false] at hp ⊢; rcases hp with e | e | e | e | e | e | e | e
  · exact .inl (.inl e)
  · exact .inl (.inr (.inl e))
  · exact .inl (.inr (.inr (.inl e)))
  · exact .inl (.inr (.inr (.inr (.inl e))))
  · exact .inr (e ▸ hN)
  · exact .inl (.inr (.inr (.inr (.inr (.inr (.inl e))))))
  · exact .inl (.inr (.inr (.inr (.inr (.inr (.inr (.inl e)))))))
  · exact .inl (.inr (.inr (.inr (.inr (.inr (.inr (.inr e)))))))
theorem WAt.newK {H : AHeap} {O : Wo} {F : Nat -> Ob} {w : Ag.W} (h : WAt H O F w) (r : Nat) (x : Option Nat) : WAt (H.set O.k (.cel (((List.range w.n).map fun r => cutA (w.cut r)).set r (cutA x)))) O F { w with cut := Ag.upd w.cut r x } /\ TurnW w.n H O F O F (H.set O.k (.cel (((List.range w.n).map fun r => cutA (w.cut r)).set r (cutA x)))) := by
  obtain ⟨d1, d2, d3, d4, d5, d6, d7, d8, d9, d10, d11, d12, d13, d14, d15, d16, d17, d18, d19, d20, d21, d22, d23, d24, d25, d26, d27, d28⟩ := Wo.ne h.nd; rw [ae2 w.cut x]; have hs : ∀ p y, H p = some y -> p ≠ O.k -> (H.set O.k (.cel ((List.range w.n).map fun q => cutA (Ag.upd w.cut r x q)))) p = some y := fun p y hp hn => arl hn hp
  exact h.objs rfl rfl rfl (hs _ _ h.aw d3) (hs _ _ h.ac d9) (hs _ _ h.asv d14) (arn _ _ _) (hs _ _ h.al d19.symm) (hs _ _ h.ai d20.symm) (hs _ _ h.ar d21.symm) (hs _ _ h.ab d22.symm) h.nd (fun p hp => .inl hp) (fun p y hp hF => hs p y hp fun e => hF (by rw [e]; simp [Wo.l']))
theorem WX.out {g : Ag.Gh} {w : Ag.W} {q B I : Nat} (h : WX g w q B I) (k : Nat) : WX g (w.out k) q B I :=
  ⟨h.wg.out k, h.odd, h.quiet, h.sv, h.svl, h.idl, h.row, by
    have := h.l; show (w.l.take k ++ w.l.drop (k + 1)).length <= 4000
    rw [List.length_append, List.length_take, List.length_drop]; omega, h.cut⟩
theorem ut {g g' : Ag.Gh} {w w' : Ag.W} {q B I r : Nat} {s : Ag.St} (h : WX g w q B I) (hr : r < w.n) (hq : q <= 1000000) (hI : I <= 1000000) (hB : B <= 100000000000) (hs : SOK g r (Ag.base (w.c r)) g' s) (hm : Sm 200 1400 ⟨w.c r, [], []⟩ s) (hsv : RS' s) (hst : w.step r s = some w')
    {H H2 : AHeap} {O : Wo} {F : Nat -> Ob} {G : Ob} (hA : WAt H O F w) (hc : CAt H2 G s.c) (t : TurnK H (F r) G H2) :
    ACalls Try.prog 45 [.ptr O.w 0, mI (r : Int), stepA s] H2 fun r' H' => r' = bB true /\ ∃ O' F', WAt H' O' F' w' /\ TurnW w.n H O F O' F' H' := by
  obtain ⟨a1, a2⟩ := hA.turn hr hc t; have hme : s.c.me = r := hm.me.trans (h.wg.c r hr).2; have hcn : (w.c r).n = w.n := (h.wg.c r hr).1.n.trans h.wg.n; have hn : s.c.n = w.n := hm.n.trans hcn; have hsl : s.save.length <= 200 := by have := hm.sv; simp only [List.length_nil] at this; omega
  have hsn : s.send.length <= 1400 := by have := hm.sn; simp only [List.length_nil] at this; omega
  have hgn : g'.n = w.n := hs.le.n.trans h.wg.n; rw [stepArg hme hn]; rw [aif] at hst; refine (ami H2 O (Ag.upd F r G) { w with c := Ag.upd w.c r s.c } w' r s.save s.send a1 hr ((h.fin (by omega) hI).upd hm.c) (Nat.le_trans (h.svl r hr) hB) hsv (by omega) (by omega) (fun m hmm => (hs.send m hmm).1.okm (by rw [hgn]; exact h.wg.n7)) (h.cut r) hst).mono fun r' H' ⟨e, O', F', x1, x2⟩ => ⟨e, O', F', x1, a2.trans x2⟩
end Go.Proofs.Ytbciofnejefkiaa
namespace Go.Proofs.Ytbciofnejefkiaa
open Go Go.Am Go.Proofs
open Ag (GOK COK WG MOK SOK LOK)
theorem ag7 (H : AHeap) (O : Wo) (F : Nat -> Ob) (g : Ag.Gh) (w w' : Ag.W) (q B I : Nat) (a : Ag.Act) (hA : WAt H O F w) (hX : WX g w q B I) (hq : q <= 100000) (hI : I <= 100000) (hB : B <= 10000000000) (ok : a.Ok) (hop : b64 a.op) (hr : b64 a.r) (hk : b64 a.k) (hrl : a.row.length <= 1000000) (hst : w.act a = some w') :
    ACalls Try.prog 21 [.ptr O.w 0, .agg (actC a)] H fun r' H' => r' = bB true /\ ∃ O' F', WAt H' O' F' w' /\ TurnW w.n H O F O' F' H' := by
  have h0 := hA; obtain ⟨aw, ac, asv, ak, al, ai, ar, ab, nd, co, _, _, _⟩ := hA; obtain ⟨d1, d2, d3, d4, d5, d6, d7, d8, d9, d10, d11, d12, d13, d14, d15, d16, d17, d18, d19, d20, d21, d22, d23, d24, d25, d26, d27, d28⟩ := Wo.ne nd; have hn7 := hX.wg.n7; have hl4 := hX.l; have hidl : w.ids.length <= 100000 := Nat.le_trans hX.idl hI; unfold worldC at aw; unfold actC rowA; unfold Ag.W.act at hst; refine gm Try.func21 rfl (by decide) ?_
  focus (refine az ?_; refine zb4 rfl rfl rfl ?_; refine bc ?_)
  refine bf ?_; refine mg (fun R1 H2 => H2 = H /\ R1 = [(0, .ptr O.w 0), (3, .pce [mI a.op, mI a.r, mI a.k, uI a.id, AV.sls a.row.length (List.map mI a.row)] 0), (4, .raw (.bool false)), (5, .raw (.bool (decide (w.there a))))]) ?_ ?_
  · by_cases h1 : 0 <= a.r
    · have e : decide (w.there a) = decide (a.r < (w.n : Int)) := decide_eq_decide.2 ⟨fun h => h.2, fun h => ⟨h1, h⟩⟩
      rw [e]
      focus (refine j5 ?_; refine dm ?_; (apply ay; · exact ky rfl rfl); refine bj ?_; refine zt1 rfl rfl rfl (fun hc => ?_) (fun hc => ?_); refine dh ?_; refine dd ?_; (apply ay; · exact sq rfl rfl); refine da ?_; refine pr ?_; refine de ?_; rotate_left; exact absurd hc aj)
      all_goals try (exfalso; omega)
      exact ⟨_, _, ba, rfl, rfl⟩
    · rw [decide_eq_false (fun h : w.there a => h1 h.1)]
      focus (refine j5 ?_; refine dm ?_; (apply ay; · exact ky rfl rfl); refine bj ?_; refine zt1 rfl rfl rfl (fun hc => ?_) (fun hc => ?_); exact absurd hc aj; refine bx ?_; refine je ?_; refine qq ?_; refine pr ?_; refine de ?_)
      all_goals try (exfalso; omega)
      exact ⟨_, _, ba, rfl, rfl⟩
  rintro R1 H2 ⟨rfl, rfl⟩; refine bf ?_; refine mg (fun R1 H3 => H3 = H2 /\ R1 = [(0, .ptr O.w 0), (3, .pce [mI a.op, mI a.r, mI a.k, uI a.id, AV.sls a.row.length (List.map mI a.row)] 0), (4, .raw (.bool false)), (5, .raw (.bool (decide (w.there a)))), (6, .raw (.bool (decide (w.packet a))))]) ?_ ?_
  · by_cases h1 : 0 <= a.k
    · have e : decide (w.packet a) = decide (a.k < (w.l.length : Int)) := decide_eq_decide.2 ⟨fun h => h.2, fun h => ⟨h1, h⟩⟩
      rw [e]; generalize decide (w.there a) = bt at *
      focus (refine j5 ?_; refine dm ?_; (apply ay; · exact ky rfl rfl); refine bj ?_; refine zt1 rfl rfl rfl (fun hc => ?_) (fun hc => ?_); refine dh ?_; refine dd ?_; (apply ay; · exact acm rfl); refine cx ?_; (apply ay; · exact sq rfl rfl); refine da ?_; refine pr ?_; refine de ?_; rotate_left; exact absurd hc aj)
      all_goals try (exfalso; omega)
      exact ⟨_, _, ba, rfl, rfl⟩
    · rw [decide_eq_false (fun h : w.packet a => h1 h.1)]
      generalize decide (w.there a) = bt at *
      focus (refine j5 ?_; refine dm ?_; (apply ay; · exact ky rfl rfl); refine bj ?_; refine zt1 rfl rfl rfl (fun hc => ?_) (fun hc => ?_); exact absurd hc aj; refine bx ?_; refine je ?_; refine zt4 rfl rfl ?_; refine qq ?_; refine pr ?_; refine de ?_)
      all_goals try (exfalso; omega)
      exact ⟨_, _, ba, rfl, rfl⟩
  rintro R1 H3 ⟨rfl, rfl⟩; by_cases o0 : a.op = 0
  · rw [if_pos o0] at hst
    by_cases ht : w.there a
    rotate_left
    · rw [if_neg ht] at hst
      cases hst
      rw [decide_eq_false ht]; generalize decide (w.packet a) = bp at *
      focus (refine fy ?_; refine gw ?_; refine ax rfl (fun hc => ?_) (fun hc => ?_); refine bz ?_; refine ea ?_; refine gy ?_; refine cp ?_; refine fi ?_; rotate_left; exact absurd hc aj)
      all_goals try (exfalso; omega)
      all_goals exact ⟨.inl rfl, _, _, _, Ent.refl _ _, ret1 rfl rfl, rfl, O, F, h0, TurnW.refl _ _ _ _⟩
    rw [if_pos ht] at hst; rw [decide_eq_true ht]; generalize decide (w.packet a) = bp at *; obtain ⟨r, hre⟩ : ∃ r : Nat, a.r = (r : Int) := ⟨a.r.toNat, by have := ht.1; omega⟩
    have hrn : r < w.n := by have := ht.2; omega
    rw [hre, Int.toNat_natCast] at hst; rw [hre]; have hst2 : Ag.W.step (wIn w a) r ((w.c r).submit a.id a.row) = some w' := hst
    focus (refine fy ?_; refine gw ?_; refine ax rfl (fun hc => ?_) (fun hc => ?_); refine bz ?_; refine ea ?_; refine fm ?_; refine cy ?_; rotate_left; exact absurd hc aj)
    refine bf ?_; refine mg (fun R1 H4 => ∃ O2, WAt H4 O2 F (wIn w a) /\ TurnW w.n H3 O F O2 F H4 /\ R1 = [(0, .ptr O.w 0), (3, .pce [mI a.op, mI (r : Int), mI a.k, uI a.id, AV.sls a.row.length (List.map mI a.row)] 0)]) ?_ ?_
    · by_cases hin : 0 < a.id /\ a.row.length <= 16
      · have hw : wIn w a = { w with ids := w.ids ++ [(a.id, a.row)] } := if_pos hin
        rw [hw]
        focus (refine az ?_; refine ez ?_; refine dw ?_; refine an ?_; refine zg1 rfl rfl rfl (fun hc => ?_) (fun hc => ?_); refine ko ?_; refine a0 ?_; refine gx ?_; refine a0 ?_; refine eu ?_; refine a0 ?_; refine ae rfl (mt rfl rfl) ?_; refine bu ?_; refine aq ?_; refine ax rfl (fun hc => ?_) (fun hc => ?_); refine bf ?_; refine mw false dz bg bg ?_; refine gz ?_; refine gz ?_; refine jd ?_; (apply j8 bg; (· exact fc rfl aa rfl)); refine lk ?_; refine lh ?_; refine re ?_; refine lu ?_; refine jd ?_; refine lq ?_; refine mr ?_; refine kz (fun Rx K1 hK1x => ?_); refine za4 rfl rfl rfl aa mc dc au au (fun oN hoN => ?_); refine bb ?_; (refine hK1x _ _ ?_; clear hK1x K1 Rx); refine lw (fun Rx K1 hK1x => ?_); refine jc ?_; (refine hK1x _ ?_; clear hK1x K1 Rx); refine mi ?_; refine gj ?_; rotate_left; exact absurd hc aj; exact absurd hc aj)
        all_goals try (exfalso; omega)
        have hoI := hoN; generalize hqq : oN = oI at *; clear hqq hoN oN; have m1 : O.w ≠ oI := fun e => by rw [<- e, aw] at hoI; cases hoI
        refine nr (fun H5 => H5 O.w = some (.cel [mI w.n, .vw O.c 1 0 w.n, .vw O.s 1 0 w.n, .vw O.k 1 0 w.n, .vw O.l 9 0 w.l.length, .vw oI 1 0 (w.ids.length + 1), .vw O.r 1 0 w.ids.length, .vw O.b 3 0 w.best.length]) /\ H5 oI = some (.cel ((w.ids.map fun x => uI x.1) ++ [uI a.id])) /\ ∀ p y, H3 p = some y -> p ≠ O.w -> p ≠ O.i -> H5 p = some y) ⟨by exact aa, by exact aa, fun p y hp h1 h2 => by
          have h3 : p ≠ oI := fun e => by rw [e, hoI] at hp; cases hp
          exact aa⟩ ?_
        rintro H5 ⟨q1, q2, q3⟩; have e1 := q3 _ _ ar d6.symm d26.symm
        focus (refine DC.aw_drawp (fun H' => H' O.w = some (.cel [mI w.n, .vw O.c 1 0 w.n, .vw O.s 1 0 w.n, .vw O.k 1 0 w.n, .vw O.l 9 0 w.l.length, .vw oI 1 0 (w.ids.length + 1), .vw O.r 1 0 w.ids.length, .vw O.b 3 0 w.best.length])) (by first | exact aa) dz bg bg ?_; refine dx ?_; refine dx ?_; refine im ?_; refine e8 ?_; (apply DC.awn_s; · (intros; exact ot)); (apply DC.awn_s; · (intros; exact mj rfl)); refine uh ?_; refine DC.awn_b ?_; refine DC.awn_b ?_; refine DC.awn_b ?_; refine im ?_; refine DC.awn_b0 ?_; refine DC.awn_nil ?_; refine DC.awc_cons (fun Rx K1 hK1x => ?_); refine ae rfl (ag2 rfl rfl dc au au) ?_; refine bb ?_; (refine hK1x _ _ (by first | exact Or.inl (by decide +kernel) | (refine Or.inr ?_; (try dsimp only); first | exact aa)) ?_; clear hK1x K1 Rx); refine DC.awc_cons (fun Rx K1 hK1x => ?_); refine kq ?_; refine bb ?_; (refine hK1x _ _ (by first | exact Or.inl (by decide +kernel) | (refine Or.inr ?_; (try dsimp only); first | exact aa)) ?_; clear hK1x K1 Rx); refine DC.awc_cons (fun Rx K1 hK1x => ?_); refine za4 rfl rfl rfl aa mc dc au au (fun oN hoN => ?_); refine bb ?_; (refine hK1x _ _ (by first | exact Or.inl (by decide +kernel) | (refine Or.inr ?_; (try dsimp only); first | exact aa)) ?_; clear hK1x K1 Rx); refine DC.awc_cons0 (fun Rx K1 hK1x => ?_); refine jc ?_; (refine hK1x _ (by first | exact Or.inl (by decide +kernel) | (refine Or.inr ?_; (try dsimp only); first | exact aa)) ?_; clear hK1x K1 Rx); refine DC.awc_nil ?_; refine gj ?_)
        have f1 := hX.idl; have m2 : O.w ≠ oN := fun e => by rw [<- e, q1] at hoN; cases hoN
        have m3 : oI ≠ oN := fun e => by rw [<- e, q2] at hoN; cases hoN
        have m5 : O.r ≠ oI := fun e => by rw [<- e, ar] at hoI; cases hoI
        have hln : (w.ids ++ [(a.id, a.row)]).length = w.ids.length + 1 := by simp
        have hq : ∀ x y, H3 x = some y -> x ≠ O.w -> x ≠ O.i -> oN ≠ x /\ oI ≠ x := fun x y hx n1 n2 => ⟨fun e => (by rw [e, q3 x y hx n1 n2] at hoN; cases hoN), fun e => (by rw [e, hx] at hoI; cases hoI)⟩
        have hsk : ∀ p y, H3 p = some y -> p ≠ O.w -> p ≠ O.i -> p ≠ O.r -> (((H5.erase O.r).set oN (.cel ((w.ids.map fun x => rowA x.2) ++ [.sls a.row.length (a.row.map mI)]))).set O.w (.cel [mI w.n, .vw O.c 1 0 w.n, .vw O.s 1 0 w.n, .vw O.k 1 0 w.n, .vw O.l 9 0 w.l.length, .vw oI 1 0 (w.ids.length + 1), .vw oN 1 0 (w.ids.length + 1), .vw O.b 3 0 w.best.length])) p = some y := fun p y hp n1 n2 n3 => by
          have := q3 p y hp n1 n2; have m4 := (hq p y hp n1 n2).1.symm; exact aa
        have hres : WAt (((H5.erase O.r).set oN (.cel ((w.ids.map fun x => rowA x.2) ++ [.sls a.row.length (a.row.map mI)]))).set O.w (.cel [mI w.n, .vw O.c 1 0 w.n, .vw O.s 1 0 w.n, .vw O.k 1 0 w.n, .vw O.l 9 0 w.l.length, .vw oI 1 0 (w.ids.length + 1), .vw oN 1 0 (w.ids.length + 1), .vw O.b 3 0 w.best.length])) { O with i := oI, r := oN } F { w with ids := w.ids ++ [(a.id, a.row)] } /\ TurnW w.n H3 O F { O with i := oI, r := oN } F (((H5.erase O.r).set oN (.cel ((w.ids.map fun x => rowA x.2) ++ [.sls a.row.length (a.row.map mI)]))).set O.w (.cel [mI w.n, .vw O.c 1 0 w.n, .vw O.s 1 0 w.n, .vw O.k 1 0 w.n, .vw O.l 9 0 w.l.length, .vw oI 1 0 (w.ids.length + 1), .vw oN 1 0 (w.ids.length + 1), .vw O.b 3 0 w.best.length])) := by
          obtain ⟨c1, c2⟩ := hq _ _ ac d1.symm d11; obtain ⟨s1, s2⟩ := hq _ _ asv d2.symm d16; obtain ⟨k1, k2⟩ := hq _ _ ak d3.symm d20; obtain ⟨l1, l2⟩ := hq _ _ al d4.symm d23; obtain ⟨b1, b2⟩ := hq _ _ ab d7.symm d27.symm; refine h0.objs rfl rfl rfl (by unfold worldC; rw [hln]; exact arn _ _ _) (hsk _ _ ac d1.symm d11 d12) (hsk _ _ asv d2.symm d16 d17) (hsk _ _ ak d3.symm d20 d21) (hsk _ _ al d4.symm d23 d24) (by rw [List.map_append]; have e9 : oI ≠ O.r := m5.symm; exact arl m1.symm (arl m3 (arq e9 q2))) (by rw [List.map_append]; exact arl m2.symm (arn _ _ _)) (hsk _ _ ab d7.symm d27.symm d28.symm) (Wo.nd ⟨d1, d2, d3, d4, m1, m2, d7, d8, d9, d10, c2.symm, c1.symm, d13, d14, d15, s2.symm, s1.symm, d18, d19, k2.symm, k1.symm, d22, l2.symm, l1.symm, d25, m3, b2, b1⟩) (fun p hp => ?_) (fun p y hp hF => hsk p y hp (fun e => hF (by rw [e]; simp [Wo.l'])) (fun e => hF (by rw [e]; simp [Wo.l'])) (fun e => hF (by rw [e]; simp [Wo.l'])))
          simp only [Wo.l', List.mem_cons, List.not_mem_nil, or_false] at hp ⊢; rcases hp with e | e | e | e | e | e | e | e
          · exact .inl (.inl e)
          · exact .inl (.inr (.inl e))
          · exact .inl (.inr (.inr (.inl e)))
          · exact .inl (.inr (.inr (.inr (.inl e))))
          · exact .inl (.inr (.inr (.inr (.inr (.inl e)))))
          · exact .inr (e ▸ hoI)
          · by_cases hx : oN = O.i
            · exact .inl (.inr (.inr (.inr (.inr (.inr (.inl (e.trans hx)))))))
            · right
              rw [e]
              cases hy : H3 oN with
              | none => rfl
              | some y => rw [q3 _ _ hy m2.symm hx] at hoN; cases hoN
          · exact .inl (.inr (.inr (.inr (.inr (.inr (.inr (.inr e)))))))
        exact ⟨_, _, jt, _, hres.1, hres.2, rfl⟩
      · have hw : wIn w a = w := if_neg hin
        rw [hw]
        focus (refine az ?_; refine ez ?_; refine dw ?_; refine an ?_; refine zg1 rfl rfl rfl (fun hc => ?_) (fun hc => ?_); refine ko ?_; refine a0 ?_; refine gx ?_; refine a0 ?_; refine eu ?_; refine a0 ?_; refine ae rfl (mt rfl rfl) ?_; refine bu ?_; refine aq ?_; refine gh ?_; intro hc; rotate_left; refine gp ?_; refine fb ?_; refine cd ?_; refine fm ?_; refine cy ?_; rotate_left)
        all_goals try (exfalso; omega)
        all_goals exact ⟨_, _, ba, O, h0, TurnW.refl _ _ _ _, rfl⟩
    rintro R1 H4 ⟨O2, w1, t1, rfl⟩; obtain ⟨g1, g', x1, x2⟩ := hX.submit ok hrn; have hcf := hX.cf (by omega) hrn
    have hen : (⟨a.id, 0, a.row⟩ : En).Ok := ⟨ok.id, by simp, ok.row⟩
    obtain ⟨y1, y2⟩ := vk hcf hen; have hvn : (wIn w a).n = w.n := by unfold wIn; split <;> rfl
    have hvc : (wIn w a).c = w.c := by unfold wIn; split <;> rfl
    generalize wIn w a = v at *; have hSub := Submit_calls H4 (F r) (w.c r) a.id a.row (by rw [<- hvc]; exact w1.co r (by rw [hvn]; exact hrn)) (w1.ndC r (by rw [hvn]; exact hrn)) hcf hen hrl
    have hStp := fun H2 G (hc : CAt H2 G ((w.c r).submit a.id a.row).c) t => ut x1 (by rw [hvn]; exact hrn) (by omega) (by omega) (by omega) x2 (by rw [hvc]; exact y1) y2 hst2 w1 (H2 := H2) (G := G) hc t
    rw [hvn] at hStp; generalize (w.c r).submit a.id a.row = s at *; have hw := t1.w; have b1 := w1.aw; have b2 := w1.ac; unfold worldC at b1; rw [hvn] at b1 b2; rw [hw] at b1 hStp; have hrg : (List.range w.n)[r]? = some r := List.getElem?_range hrn; clear hst hst2 hX x1 x2 y1 y2
    focus (refine bf ?_; refine mw true dz bg bg ?_; refine gz ?_; refine lk ?_; refine lh ?_; refine gz ?_; refine jd ?_; (apply j8 bg; (· exact fc rfl aa rfl)); refine lk ?_; refine lh ?_; refine q0 ?_; (apply j8 bg; (· exact fc rfl aa ij)); refine lk ?_; refine lh ?_; refine lk ?_; refine lh ?_; refine lu ?_; refine lu ?_; refine lu ?_; refine mr ?_; refine kz (fun Rx K1 hK1x => ?_); (refine zc ah (hSub) ?_; rintro r H' ⟨rfl, G, c1, c2⟩); refine bb ?_; (refine hK1x _ _ ?_; clear hK1x K1 Rx); refine kz (fun Rx K1 hK1x => ?_); (refine zc ah (hStp _ _ c1 c2) ?_; rintro r H' ⟨rfl, O3, F3, z1, z2⟩); refine bb ?_; (refine hK1x _ _ ?_; clear hK1x K1 Rx); refine kz (fun Rx K1 hK1x => ?_); refine dq ?_; refine bb ?_; (refine hK1x _ _ ?_; clear hK1x K1 Rx); refine mi ?_; refine gj ?_; refine j7 ?_; refine j9 ?_)
    exact ⟨.inl rfl, _, _, _, Ent.refl _ _, ret1 rfl rfl, rfl, O3, F3, z1, t1.trans z2⟩
  rw [if_neg o0] at hst; by_cases o1 : a.op = 1
  · rw [if_pos o1] at hst
    by_cases ht : w.there a
    rotate_left
    · rw [if_neg ht] at hst
      cases hst
      rw [decide_eq_false ht]; generalize decide (w.packet a) = bp at *
      focus (refine fy ?_; refine gw ?_; refine cg ?_; intro hc; refine ax rfl (fun hc => ?_) (fun hc => ?_); refine cj ?_; refine bj ?_; refine ju ?_; refine bj ?_; refine bx ?_; refine bx ?_; refine bx ?_; refine zt4 rfl rfl ?_; refine da ?_; refine pr ?_; refine de ?_; refine j7 ?_; refine j9 ?_; rotate_left; exact absurd hc aj)
      all_goals try (exfalso; omega)
      all_goals exact ⟨.inl rfl, _, _, _, Ent.refl _ _, ret1 rfl rfl, rfl, O, F, h0, TurnW.refl _ _ _ _⟩
    rw [if_pos ht] at hst; rw [decide_eq_true ht]; generalize decide (w.packet a) = bp at *; obtain ⟨r, hre⟩ : ∃ r : Nat, a.r = (r : Int) := ⟨a.r.toNat, by have := ht.1; omega⟩
    have hrn : r < w.n := by have := ht.2; omega
    rw [hre, Int.toNat_natCast] at hst; rw [hre]; have hcf := hX.cf (by omega) hrn
    have hqr := hX.quiet r hrn; obtain ⟨y1, y2⟩ := vg hcf (by omega)
    obtain ⟨hc0, hm0⟩ := hX.wg.c r hrn; obtain ⟨g', _, x2⟩ := Ag.tick_ok hX.wg.gok hc0; rw [hm0] at x2; have hTk := Tick_calls H3 (F r) (w.c r) (co r hrn) (h0.ndC r hrn) hcf (by omega)
    have hStp := fun H2 G (hc : CAt H2 G (w.c r).tick.c) t => ut hX hrn (by omega) (by omega) (by omega) x2 y1 y2 hst h0 (H2 := H2) (G := G) hc t
    generalize (w.c r).tick = s at *; have hrg : (List.range w.n)[r]? = some r := List.getElem?_range hrn; clear hst hX x2 y1 y2 hc0
    focus (refine fy ?_; refine gw ?_; refine cg ?_; intro hc)
    refine ax rfl (fun hc => ?_) (fun hc => absurd o1 hc)
    refine bf ?_; refine DC.aw_drawp (fun _ => True) trivial dz bg bg ?_
    focus (refine fa ?_; (apply DC.awn_s; · (intros; exact pn rfl)); refine fa ?_)
    iterate 11
      refine DC.awn_guard_t rfl rfl ?_
      (first | focus (refine dx ?_; rotate_left) | focus ((apply DC.awn_s; · (intros; exact mj rfl)); rotate_left) | focus (refine uh ?_; rotate_left) | focus ((apply DC.awn_s; · (intros; exact md rfl)); rotate_left) | focus (refine jr ?_; rotate_left) | focus ((apply DC.awn_e bg; (· exact fc rfl aa rfl)); rotate_left) | focus (refine qy ?_; rotate_left) | focus ((apply DC.awn_e bg; (· exact fc rfl aa ij)); refine DC.awn_b ?_; refine DC.awn_b ?_; refine DC.awn_b ?_; refine DC.awn_b ?_; refine DC.awn_nil ?_; refine DC.awc_cons (fun Rx K1 hK1x => ?_); refine a0 ?_; (refine zc ah (hTk) ?_; rintro r H' ⟨rfl, G, c1, c2⟩); refine bb ?_; (refine hK1x _ _ qh ?_; clear hK1x K1 Rx); refine DC.awc_cons (fun Rx K1 hK1x => ?_); refine a0 ?_; (refine zc ah (hStp _ _ c1 c2) ?_; rintro r H' ⟨rfl, O3, F3, z1, z2⟩); refine bb ?_; (refine hK1x _ _ qh ?_; clear hK1x K1 Rx); refine DC.awc_cons (fun Rx K1 hK1x => ?_); refine cd ?_; refine bb ?_; (refine hK1x _ _ qh ?_; clear hK1x K1 Rx); refine DC.awc_cons (fun Rx K1 hK1x => ?_); refine dq ?_; refine bb ?_; (refine hK1x _ _ qh ?_; clear hK1x K1 Rx); refine DC.awc_nil ?_; refine gj ?_; refine j7 ?_; refine j9 ?_; rotate_left) | fail)
    all_goals try (exfalso; omega)
    exact ⟨.inl rfl, _, _, _, Ent.refl _ _, ret1 rfl rfl, rfl, O3, F3, z1, z2⟩
  rw [if_neg o1] at hst; by_cases o2 : a.op = 2
  · rw [if_pos o2] at hst
    by_cases hp : w.packet a
    rotate_left
    · rw [if_neg hp] at hst
      cases hst
      rw [decide_eq_false hp]; generalize decide (w.there a) = bt at *
      focus (refine fy ?_; refine gw ?_; refine cg ?_; intro hc; refine cg ?_; intro hc; refine ax rfl (fun hc => ?_) (fun hc => ?_); refine bz ?_; refine ea ?_; refine gy ?_; refine cp ?_; refine fi ?_; rotate_left; exact absurd hc aj)
      all_goals try (exfalso; omega)
      all_goals exact ⟨.inl rfl, _, _, _, Ent.refl _ _, ret1 rfl rfl, rfl, O, F, h0, TurnW.refl _ _ _ _⟩
    rw [if_pos hp] at hst; rw [decide_eq_true hp]; generalize decide (w.there a) = bt at *; obtain ⟨k, hke⟩ : ∃ k : Nat, a.k = (k : Int) := ⟨a.k.toNat, by have := hp.1; omega⟩
    have hkl : k < w.l.length := by have := hp.2; omega
    rw [hke, Int.toNat_natCast] at hst; rw [hke]; have hgk : w.l[k]? = some w.l[k] := List.getElem?_eq_getElem hkl; have hM := hX.wg.l _ (List.getElem_mem hkl); rw [hgk] at hst; generalize w.l[k] = m at *; dsimp only at hst; obtain ⟨r, hre⟩ : ∃ r : Nat, m.to = (r : Int) := ⟨m.to.toNat, by have := hM.to; omega⟩
    have hrn : r < w.n := by have := hM.to; have := hX.wg.n; omega
    have hmo : m.Ok := hM.okm (by rw [hX.wg.n]; exact hn7)
    rw [hre, Int.toNat_natCast] at hst; have hOut := ad6 H3 O F w k m h0 hl4 hgk
    focus (refine fy ?_; refine gw ?_; refine cg ?_; intro hc; refine cg ?_; intro hc; refine ax rfl (fun hc => ?_) (fun hc => ?_); refine bz ?_; refine ea ?_; refine fm ?_; refine cy ?_; refine dg ?_; refine ez ?_; (refine zc ah (hOut) ?_; rintro r H' ⟨rfl, O2, w1, t1⟩); refine cz rfl rfl rfl (fun oN hoN => ?_); refine jo ?_; refine aq ?_; rotate_left; exact absurd hc aj)
    all_goals try (exfalso; omega)
    have hcf := hX.cf (by omega) hrn
    have hen := LOK.lf hM.ents; obtain ⟨y1, y2⟩ := vl hcf hmo; obtain ⟨hc0, hm0⟩ := hX.wg.c r hrn; obtain ⟨g', _, x2⟩ := Ag.get_ok hX.wg.gok hc0 hM; rw [hm0] at x2; have hGt := Get_calls' H' (F r) (w.c r) m (w1.co r hrn) (w1.ndC r hrn) hcf hmo (by have := hen.len; omega) (by rw [hM.body]; simp) (fun e he => by have := (hen.ok e he).2; omega)
    have hStp := fun H2 G (hc : CAt H2 G ((w.c r).get m).c) t => ut (hX.out k) hrn (by omega) (by omega) (by omega) x2 y1 y2 hst w1 (H2 := H2) (G := G) hc t
    generalize (w.c r).get m = s at *; have hw := t1.w; have b1 := w1.aw; have b2 := w1.ac; unfold worldC at b1; rw [hw] at b1 hStp; replace b1 : H' O.w = some (.cel [mI w.n, .vw O2.c 1 0 w.n, .vw O2.s 1 0 w.n, .vw O2.k 1 0 w.n, .vw O2.l 9 0 (w.out k).l.length, .vw O2.i 1 0 w.ids.length, .vw O2.r 1 0 w.ids.length, .vw O2.b 3 0 w.best.length]) := b1; replace b2 : H' O2.c = some (.cel ((List.range w.n).map fun r => .ptr (F r).o 0)) := b2
    replace hStp : ∀ (H2 : AHeap) (G : Ob), CAt H2 G s.c -> TurnK H' (F r) G H2 -> ACalls Try.prog 45 [.ptr O.w 0, mI (r : Int), stepA s] H2 fun r' H'' => r' = bB true /\ ∃ O' F', WAt H'' O' F' w' /\ TurnW w.n H' O2 F O' F' H'' := hStp
    have hrg : (List.range w.n)[r]? = some r := List.getElem?_range hrn; have hmc : m.cells = [mI m.kind, mI m.from_, mI (r : Int), .raw (.int .u64 (m.view : Int)), .raw (.int .u64 (m.last : Int)), .raw (.int .u64 (m.op : Int)), .raw (.int .u64 (m.commit : Int)), .sls m.ents.length (m.ents.flatMap En.cells), .bys m.body] := by rw [<- hre]; rfl
    rw [hmc] at hGt ⊢; clear hst hX x2 y1 y2 hc0 hmc hOut hM hmo hre
    focus (refine bf ?_; refine mw true dz bg bg ?_; refine gz ?_; refine lk ?_; refine lh ?_; refine gz ?_; refine jd ?_; (apply j8 bg; (· exact fc rfl aa rfl)); refine lk ?_; refine lh ?_; refine q0 ?_; (apply j8 bg; (· exact fc rfl aa ij)); (apply jl; · (intro H1; exact rh rfl rfl rfl (by decide))); refine lu ?_; refine lu ?_; refine lu ?_; refine mr ?_; refine kz (fun Rx K1 hK1x => ?_); (refine zc ah (hGt) ?_; rintro r H' ⟨rfl, G, c1, c2⟩); refine bb ?_; (refine hK1x _ _ ?_; clear hK1x K1 Rx); refine kz (fun Rx K1 hK1x => ?_); (refine zc ah (hStp _ _ c1 c2) ?_; rintro r H' ⟨rfl, O3, F3, z1, z2⟩); refine bb ?_; (refine hK1x _ _ ?_; clear hK1x K1 Rx); refine kz (fun Rx K1 hK1x => ?_); refine dq ?_; refine bb ?_; (refine hK1x _ _ ?_; clear hK1x K1 Rx); refine mi ?_; refine gj ?_; refine j7 ?_; refine j9 ?_)
    exact ⟨.inl rfl, _, _, _, Ent.refl _ _, ret1 rfl rfl, rfl, O3, F3, z1, t1.trans z2⟩
  rw [if_neg o2] at hst; by_cases o3 : a.op = 3
  · rw [if_pos o3] at hst
    by_cases hp : w.packet a
    rotate_left
    · rw [if_neg hp] at hst
      cases hst
      rw [decide_eq_false hp]; generalize decide (w.there a) = bt at *
      focus (refine fy ?_; refine gw ?_; refine cg ?_; intro hc; refine cg ?_; intro hc; refine cg ?_; intro hc; refine ax rfl (fun hc => ?_) (fun hc => ?_); refine az ?_; refine oz ?_; refine j6 ?_; refine ft ?_; refine cp ?_; rotate_left; exact absurd hc aj)
      all_goals try (exfalso; omega)
      all_goals exact ⟨.inl rfl, _, _, _, Ent.refl _ _, ret1 rfl rfl, rfl, O, F, h0, TurnW.refl _ _ _ _⟩
    rw [if_pos hp] at hst; rw [decide_eq_true hp]; generalize decide (w.there a) = bt at *; obtain ⟨k, hke⟩ : ∃ k : Nat, a.k = (k : Int) := ⟨a.k.toNat, by have := hp.1; omega⟩
    have hkl : k < w.l.length := by have := hp.2; omega
    rw [hke, Int.toNat_natCast] at hst; rw [hke]; have hgk : w.l[k]? = some w.l[k] := List.getElem?_eq_getElem hkl; have hOut := ad6 H3 O F w k _ h0 hl4 hgk
    cases hst
    clear hX
    focus (refine fy ?_; refine gw ?_; refine cg ?_; intro hc; refine cg ?_; intro hc; refine cg ?_; intro hc; refine ax rfl (fun hc => ?_) (fun hc => ?_); refine az ?_; refine oz ?_; refine ia ?_; refine fv ?_; refine ez ?_; (refine zc ah (hOut) ?_; rintro r H' ⟨rfl, O2, w1, t1⟩); refine bb ?_; refine ft ?_; refine cp ?_; rotate_left; exact absurd hc aj)
    all_goals try (exfalso; omega)
    all_goals exact ⟨.inl rfl, _, _, _, Ent.refl _ _, ret1 rfl rfl, rfl, O2, F, w1, t1⟩
  rw [if_neg o3] at hst; by_cases o4 : a.op = 4
  · rw [if_pos o4] at hst
    by_cases hp : w.packet a
    rotate_left
    · rw [if_neg hp] at hst
      cases hst
      rw [decide_eq_false hp]; generalize decide (w.there a) = bt at *
      focus (refine fy ?_; refine gw ?_; refine cg ?_; intro hc; refine cg ?_; intro hc; refine cg ?_; intro hc; refine cg ?_; intro hc; refine ax rfl (fun hc => ?_) (fun hc => ?_); refine gn ?_; refine an ?_; refine dp ?_; refine gp ?_; refine cd ?_; refine fm ?_; refine di ?_; refine ft ?_; refine cp ?_; rotate_left; exact absurd hc aj)
      all_goals try (exfalso; omega)
      all_goals exact ⟨.inl rfl, _, _, _, Ent.refl _ _, ret1 rfl rfl, rfl, O, F, h0, TurnW.refl _ _ _ _⟩
    rw [if_pos hp] at hst; rw [decide_eq_true hp]; generalize decide (w.there a) = bt at *; obtain ⟨k, hke⟩ : ∃ k : Nat, a.k = (k : Int) := ⟨a.k.toNat, by have := hp.1; omega⟩
    have hkl : k < w.l.length := by have := hp.2; omega
    rw [hke, Int.toNat_natCast] at hst; rw [hke]; have hgk : w.l[k]? = some w.l[k] := List.getElem?_eq_getElem hkl; have hgm := adk hgk; have hgm0 : ((w.l.flatMap Mg.cells).drop (0 + k * 9)).take 9 = (w.l[k]).cells := by rw [Nat.zero_add]; exact hgm
    have hfl : (w.l.flatMap Mg.cells).length = w.l.length * 9 := sc w.l; rw [hgk] at hst; generalize w.l[k] = m at *; dsimp only at hst; by_cases hl : w.l.length < 4000
    rotate_left
    · rw [if_neg hl] at hst
      cases hst
      clear hX
      focus (refine fy ?_; refine gw ?_; refine cg ?_; intro hc; refine cg ?_; intro hc; refine cg ?_; intro hc; refine cg ?_; intro hc; refine ax rfl (fun hc => ?_) (fun hc => ?_); refine gn ?_; refine i9 ?_; refine j4 ?_; refine eo ?_; refine iz ?_; refine a0 ?_; refine mz ?_; refine bu ?_; refine aq ?_; refine jm ?_; intro hc; refine di ?_; refine ft ?_; refine cp ?_; rotate_left; exact absurd hc aj)
      all_goals try (exfalso; omega)
      all_goals exact ⟨.inl rfl, _, _, _, Ent.refl _ _, ret1 rfl rfl, rfl, O, F, h0, TurnW.refl _ _ _ _⟩
    rw [if_pos hl] at hst
    cases hst
    clear hX; have hmc : m.cells = [mI m.kind, mI m.from_, mI m.to, .raw (.int .u64 (m.view : Int)), .raw (.int .u64 (m.last : Int)), .raw (.int .u64 (m.op : Int)), .raw (.int .u64 (m.commit : Int)), .sls m.ents.length (m.ents.flatMap En.cells), .bys m.body] := rfl
    focus (refine fy ?_; refine gw ?_; refine cg ?_; intro hc; refine cg ?_; intro hc; refine cg ?_; intro hc; refine cg ?_; intro hc; refine ax rfl (fun hc => ?_) (fun hc => ?_); refine gn ?_; refine i9 ?_; refine j4 ?_; refine eo ?_; refine iz ?_; refine a0 ?_; refine mz ?_; refine bu ?_; refine aq ?_; refine ax rfl (fun hc => ?_) (fun hc => ?_); refine mw false dz bg bg ?_; refine gz ?_; refine gz ?_; refine jd ?_; (apply j8 bg; (· exact fc rfl aa rfl)); refine gz ?_; refine jd ?_; (apply j8 bg; (· exact fc rfl aa rfl)); refine lk ?_; refine lh ?_; refine q0 ?_; (apply j8 bg; (· exact pw rfl aa (by assumption) (by rfl) au)); refine re ?_; refine lu ?_; refine jd ?_; refine lq ?_; refine mr ?_; refine kz (fun Rx K1 hK1x => ?_); refine za4 rfl rfl rfl aa mc dc au au (fun oN hoN => ?_); refine bb ?_; (refine hK1x _ _ ?_; clear hK1x K1 Rx); refine lw (fun Rx K1 hK1x => ?_); refine jc ?_; (refine hK1x _ ?_; clear hK1x K1 Rx); refine mi ?_; refine ft ?_; refine cp ?_; rotate_left; exact absurd hc aj; exact absurd hc aj)
    all_goals try (exfalso; omega)
    all_goals (
      have hln : (w.l ++ [m]).length = w.l.length + 1 := by simp
      have hcs : (w.l ++ [m]).flatMap Mg.cells = w.l.flatMap Mg.cells ++ m.cells := by simp
      have m1 : oN ≠ O.w := fun x => by rw [x, aw] at hoN; cases hoN
      have m2 : oN ≠ O.l := fun x => by rw [x, al] at hoN; cases hoN
      obtain ⟨z1, z2⟩ := h0.newL (l := w.l ++ [m]) hoN (by rw [hln]; exact arn _ _ _) (by rw [hcs]; exact arl m1 (arn _ _ _)) (fun p y hp h1 h2 => arl h1 (arl (fun e => by rw [e, hoN] at hp; cases hp) (arq h2 hp)))
      exact ⟨.inl rfl, _, _, _, Ent.refl _ _, ret1 rfl rfl, rfl, _, _, z1, z2⟩)
  rw [if_neg o4] at hst; by_cases o5 : a.op = 5
  · rw [if_pos o5] at hst
    by_cases ht : w.there a
    rotate_left
    · rw [if_neg ht] at hst
      cases hst
      rw [decide_eq_false ht]; generalize decide (w.packet a) = bp at *; clear hX
      focus (refine fy ?_; refine gw ?_; refine cg ?_; intro hc; refine cg ?_; intro hc; refine cg ?_; intro hc; refine cg ?_; intro hc; refine cg ?_; intro hc; refine ax rfl (fun hc => ?_) (fun hc => ?_); refine gn ?_; refine ea ?_; refine an ?_; refine dp ?_; refine fb ?_; refine jw ?_; refine jw ?_; refine jw ?_; refine jw ?_; refine fb ?_; refine bu ?_; refine bn ?_; refine j9 ?_; rotate_left; exact absurd hc aj)
      all_goals try (exfalso; omega)
      all_goals exact ⟨.inl rfl, _, _, _, Ent.refl _ _, ret1 rfl rfl, rfl, O, F, h0, TurnW.refl _ _ _ _⟩
    rw [if_pos ht] at hst; rw [decide_eq_true ht]; generalize decide (w.packet a) = bp at *; obtain ⟨r, hre⟩ : ∃ r : Nat, a.r = (r : Int) := ⟨a.r.toNat, by have := ht.1; omega⟩
    have hrn : r < w.n := by have := ht.2; omega
    rw [hre, Int.toNat_natCast] at hst; rw [hre]
    cases hop : w.opened r with
    | none => rw [hop] at hst; cases hst
    | some w2 =>
    rw [hop, Option.bind_some] at hst; obtain ⟨d, ho, hw2⟩ := te hop; obtain ⟨b, htl, hw3⟩ := ra hst; have hf := hX.fin (by omega) (by omega)
    have hOp := afu H3 O F w r h0 hrn hn7 hX.odd (hX.sv r hrn) (by have := hX.svl r hrn; omega) ho
    have hdf := (tj hrn hn7 (hX.sv r hrn) ho).1; have hw2c : w2.c r = d := by rw [hw2]; exact Ag.upd_same _ _ _
    have hTo := fun H G h => abr H O (Ag.upd F r G) w2 r h (by rw [hw2]; exact hrn) (by rw [hw2]; exact hn7) (by rw [hw2c]; exact hdf) (by rw [hw2]; exact hf.best) (by rw [hw2]; exact hf.ids) (by rw [hw2]; exact hf.row) htl
    rw [<- hw2] at hOp; rw [<- hw3] at hTo; have hn2 : w2.n = w.n := by rw [hw2]
    rw [hn2] at hTo; clear hst hop ho htl hw2 hw3 hX hf hdf hw2c
    focus (refine fy ?_; refine gw ?_; refine cg ?_; intro hc; refine cg ?_; intro hc; refine cg ?_; intro hc; refine cg ?_; intro hc; refine cg ?_; intro hc; refine ax rfl (fun hc => ?_) (fun hc => ?_); refine gn ?_; refine ea ?_; refine i9 ?_; refine ko ?_; refine a0 ?_; refine gx ?_; refine a0 ?_; (refine zc ah (hOp) ?_; rintro r H' ⟨rfl, G, u1, u2⟩); refine a0 ?_; refine i9 ?_; refine ko ?_; refine a0 ?_; refine gx ?_; refine a0 ?_; (refine zc ah (hTo _ _ u1) ?_; rintro r H' ⟨rfl, O3, z1, z2⟩); refine a0 ?_; refine bu ?_; refine cd ?_; refine bn ?_; refine j9 ?_; rotate_left; exact absurd hc aj)
    all_goals try (exfalso; omega)
    all_goals exact ⟨.inl rfl, _, _, _, Ent.refl _ _, ret1 rfl rfl, rfl, O3, _, z1, u2.trans z2⟩
  rw [if_neg o5] at hst; by_cases o6 : a.op = 6
  · rw [if_pos o6] at hst
    by_cases ht : w.there a /\ 0 <= a.k
    rotate_left
    · rw [if_neg ht] at hst
      cases hst
      generalize decide (w.packet a) = bp at *; clear hX; by_cases ht1 : w.there a
      · rw [decide_eq_true ht1]
        have ht2 : ¬ 0 <= a.k := fun h => ht ⟨ht1, h⟩
        focus (refine fy ?_; refine gw ?_; refine cg ?_; intro hc; refine cg ?_; intro hc; refine cg ?_; intro hc; refine cg ?_; intro hc; refine cg ?_; intro hc; refine cg ?_; intro hc; refine ax rfl (fun hc => ?_) (fun hc => ?_); refine gn ?_; refine ep ?_; refine ko ?_; refine a0 ?_; refine gx ?_; refine a0 ?_; refine ae rfl (ky rfl rfl) ?_; refine bu ?_; refine aq ?_; refine jm ?_; intro hc; refine di ?_; refine ft ?_; refine cp ?_; rotate_left; exact absurd hc aj)
        all_goals try (exfalso; omega)
        all_goals exact ⟨.inl rfl, _, _, _, Ent.refl _ _, ret1 rfl rfl, rfl, O, F, h0, TurnW.refl _ _ _ _⟩
      · rw [decide_eq_false ht1]
        focus (refine fy ?_; refine gw ?_; refine cg ?_; intro hc; refine cg ?_; intro hc; refine cg ?_; intro hc; refine cg ?_; intro hc; refine cg ?_; intro hc; refine cg ?_; intro hc; refine ax rfl (fun hc => ?_) (fun hc => ?_); refine gn ?_; refine an ?_; refine gp ?_; refine fb ?_; refine cd ?_; refine fm ?_; refine di ?_; refine ft ?_; refine cp ?_; rotate_left; exact absurd hc aj)
        all_goals try (exfalso; omega)
        all_goals exact ⟨.inl rfl, _, _, _, Ent.refl _ _, ret1 rfl rfl, rfl, O, F, h0, TurnW.refl _ _ _ _⟩
    rw [if_pos ht] at hst
    cases hst
    obtain ⟨ht1, ht2⟩ := ht; rw [decide_eq_true ht1]; generalize decide (w.packet a) = bp at *; obtain ⟨r, hre⟩ : ∃ r : Nat, a.r = (r : Int) := ⟨a.r.toNat, by have := ht1.1; omega⟩
    have hrn : r < w.n := by have := ht1.2; omega
    obtain ⟨k, hke⟩ : ∃ k : Nat, a.k = (k : Int) := ⟨a.k.toNat, by omega⟩
    rw [hre, hke, Int.toNat_natCast, Int.toNat_natCast]; clear hX
    focus (refine fy ?_; refine gw ?_; refine cg ?_; intro hc; refine cg ?_; intro hc; refine cg ?_; intro hc; refine cg ?_; intro hc; refine cg ?_; intro hc; refine cg ?_; intro hc; refine ax rfl (fun hc => ?_) (fun hc => ?_); refine gn ?_; refine ep ?_; refine ko ?_; refine a0 ?_; refine gx ?_; refine a0 ?_; refine ln ?_; refine bu ?_; refine aq ?_; refine ax rfl (fun hc => ?_) (fun hc => ?_); refine j5 ?_; refine cw ?_; refine dm ?_; refine dm ?_; refine mu ?_; refine lg ?_; refine jc ?_; refine ft ?_; refine cp ?_; rotate_left; exact absurd hc aj; exact absurd hc aj)
    all_goals try (exfalso; omega)
    obtain ⟨z1, z2⟩ := h0.newK r (some k); rw [show 0 + r * 1 = r by omega]
    exact ⟨.inl rfl, _, _, _, Ent.refl _ _, ret1 rfl rfl, rfl, O, F, z1, z2⟩
  rw [if_neg o6] at hst
  cases hst
  clear hX; generalize decide (w.packet a) = bp at *; generalize decide (w.there a) = bt at *
  focus (refine fy ?_; refine gw ?_; refine cg ?_; intro hc; refine cg ?_; intro hc; refine cg ?_; intro hc; refine cg ?_; intro hc; refine cg ?_; intro hc; refine cg ?_; intro hc; refine jm ?_; intro hc; refine di ?_; refine ft ?_; refine cp ?_)
  all_goals try (exfalso; omega)
  all_goals exact ⟨.inl rfl, _, _, _, Ent.refl _ _, ret1 rfl rfl, rfl, O, F, h0, TurnW.refl _ _ _ _⟩
end Go.Proofs.Ytbciofnejefkiaa
namespace Go.Proofs.Ytbciofnejefkiaa
open Go Go.Am Go.Proofs
open Ag (GOK COK WG MOK SOK LOK)
theorem WX.more {g : Ag.Gh} {w : Ag.W} {q B I q' B' I' : Nat} (h : WX g w q B I) (h1 : q <= q') (h2 : B <= B') (h3 : I <= I') : WX g w q' B' I' :=
  ⟨h.wg, h.odd, fun r hr => Nat.le_trans (h.quiet r hr) h1, h.sv, fun r hr => Nat.le_trans (h.svl r hr) h2, Nat.le_trans h.idl h3, h.row, h.l, h.cut⟩
theorem tp {c : Ag.Co} {s : Ag.St} (h : Sm 200 1400 ⟨c, [], []⟩ s) : s.save.length <= 200 := by have := h.sv; simp only [List.length_nil] at this; omega
theorem WX.tick {g : Ag.Gh} {w : Ag.W} {q B I : Nat} (h : WX g w q B I) (hq : q < 1000000) {r : Nat} (hr : r < w.n) :
    ∃ w' g', w.step r (w.c r).tick = some w' /\ WX g' w' (q + 1) (B + 200) I /\ w'.n = w.n /\ w'.ids = w.ids := by
  have hcf := h.cf (by omega) hr
  have hqr := h.quiet r hr; obtain ⟨y1, y2⟩ := vg hcf (by omega)
  obtain ⟨hc0, hm0⟩ := h.wg.c r hr; obtain ⟨g', _, x2⟩ := Ag.tick_ok h.wg.gok hc0; rw [hm0] at x2; exact h.step hr x2 y2 (tp y1) (by have := (afx (w.c r)).2; omega) (by omega)
theorem WX.get {g : Ag.Gh} {w : Ag.W} {q B I : Nat} (h : WX g w q B I) (hq : q < 1000000) {m : Mg} (hm : MOK g m) :
    ∃ w' g', w.step m.to.toNat ((w.c m.to.toNat).get m) = some w' /\ WX g' w' q (B + 200) I /\ w'.n = w.n /\ w'.ids = w.ids := by
  have hr : m.to.toNat < w.n := by have := hm.to; have := h.wg.n; omega
  have hcf := h.cf (by omega) hr
  have hqr := h.quiet _ hr; obtain ⟨y1, y2⟩ := vl hcf (hm.okm (by rw [h.wg.n]; exact h.wg.n7))
  obtain ⟨hc0, hm0⟩ := h.wg.c _ hr; obtain ⟨g', _, x2⟩ := Ag.get_ok h.wg.gok hc0 hm; rw [hm0] at x2; exact h.step hr x2 y2 (tp y1) (by have := (acn (w.c m.to.toNat) m).quiet; omega) (by omega)
theorem WX.subm {g : Ag.Gh} {w : Ag.W} {q B I : Nat} (h : WX g w q B I) (hq : q < 1000000) {a : Ag.Act} (ok : a.Ok) {r : Nat} (hr : r < w.n) :
    ∃ w' g', (wIn w a).step r ((w.c r).submit a.id a.row) = some w' /\ WX g' w' q (B + 200) (I + 1) /\ w'.n = w.n /\ w'.ids = (wIn w a).ids := by
  obtain ⟨g1, g', x1, x2⟩ := h.submit ok hr; have hcf := h.cf (by omega) hr
  have hqr := h.quiet _ hr; have hen : (⟨a.id, 0, a.row⟩ : En).Ok := ⟨ok.id, by simp, ok.row⟩
  obtain ⟨y1, y2⟩ := vk hcf hen; have hvn : (wIn w a).n = w.n := by unfold wIn; split <;> rfl
  obtain ⟨w', g2, e1, e2, e3, e4⟩ := x1.step (by rw [hvn]; exact hr) x2 y2 (tp y1) (by have := (ahw (w.c r) a.id a.row).quiet; omega) (Nat.le_refl q)
  exact ⟨w', g2, e1, e2, e3.trans hvn, e4⟩
theorem WX.act {g : Ag.Gh} {w : Ag.W} {q B I : Nat} (h : WX g w q B I) (hq : q < 1000000) {a : Ag.Act} (ok : a.Ok) (hk : b64 a.k) :
    ∃ w' g', w.act a = some w' /\ WX g' w' (q + 1) (B + 200) (I + 1) /\ w'.n = w.n := by
  have h1 : WX g w (q + 1) (B + 200) (I + 1) := h.more (by omega) (by omega) (by omega)
  unfold Ag.W.act; split
  · split
    · next ht =>
      have hr : a.r.toNat < w.n := by have h1 := ht.1; have h2 := ht.2; omega
      obtain ⟨w', g', e1, e2, e3, _⟩ := h.subm hq ok hr; exact ⟨w', g', e1, e2.more (by omega) (by omega) (by omega), e3⟩
    · exact ⟨w, g, rfl, h1, rfl⟩
  split
  · split
    · next ht =>
      have hr : a.r.toNat < w.n := by have h1 := ht.1; have h2 := ht.2; omega
      obtain ⟨w', g', e1, e2, e3, _⟩ := h.tick hq hr; exact ⟨w', g', e1, e2.more (by omega) (by omega) (by omega), e3⟩
    · exact ⟨w, g, rfl, h1, rfl⟩
  split
  · cases hm : (if w.packet a then w.l[a.k.toNat]? else none) with
    | none => exact ⟨w, g, rfl, h1, rfl⟩
    | some m =>
      have hmem : m ∈ w.l := by
        split at hm
        · exact List.mem_of_getElem? hm
        · cases hm
      obtain ⟨w', g', e1, e2, e3, _⟩ := (h.out a.k.toNat).get hq (h.wg.l m hmem); exact ⟨w', g', e1, e2.more (by omega) (by omega) (by omega), e3⟩
  split
  · split
    · exact ⟨_, g, rfl, h1.out _, rfl⟩
    · exact ⟨w, g, rfl, h1, rfl⟩
  split
  · cases hm : (if w.packet a then w.l[a.k.toNat]? else none) with
    | none => exact ⟨w, g, rfl, h1, rfl⟩
    | some m =>
      have hmem : m ∈ w.l := by
        split at hm
        · exact List.mem_of_getElem? hm
        · cases hm
      dsimp only; split
      · next hl =>
        obtain ⟨⟨a1, a2, a3, a4, a5, a6, a7, a8⟩, b1, b2, b3, b4, b5, b6, b7, b8⟩ := h1; refine ⟨_, g, rfl, ⟨⟨a1, a2, a3, a4, a5, a6, fun x hx => ?_, a8⟩, b1, b2, b3, b4, b5, b6, by show (w.l ++ [m]).length <= 4000; rw [List.length_append]; simp only [List.length_cons, List.length_nil]; omega, b8⟩, rfl⟩
        rcases List.mem_append.1 hx with hx | hx
        · exact a7 x hx
        · rw [List.mem_singleton.1 hx]; exact a7 m hmem
      · exact ⟨_, g, rfl, h1, rfl⟩
  split
  · split
    · next ht =>
      have hr : a.r.toNat < w.n := by have h1 := ht.1; have h2 := ht.2; omega
      obtain ⟨d, x1, x2⟩ := Ag.opened_act h.wg hr; obtain ⟨b, y1, y2⟩ := Ag.told_ok x2 hr; obtain ⟨d', ho, hd⟩ := te x1
      have hdd : d = d' := by
        have := congrArg (fun w : Ag.W => w.c a.r.toNat) hd
        simpa [Ag.upd] using this
      refine ⟨_, g, by rw [x1, Option.bind_some, y1], ⟨y2, h.odd, fun p hp => ?_, h1.sv, h1.svl, h1.idl, h.row, h.l, h.cut⟩, rfl⟩
      show (Ag.upd w.c a.r.toNat d p).quiet <= q + 1
      unfold Ag.upd; split
      · rw [hdd, (tj hr h.wg.n7 (h.sv _ hr) ho).2.2.2]; omega
      · exact h1.quiet p hp
    · exact ⟨w, g, rfl, h1, rfl⟩
  split
  · refine ⟨_, g, rfl, ?_, ?_⟩
    · split
      · next ht =>
        obtain ⟨⟨a1, a2, a3, a4, a5, a6, a7, a8⟩, b1, b2, b3, b4, b5, b6, b7, b8⟩ := h1; refine ⟨⟨a1, a2, a3, a4, a5, a6, a7, a8⟩, b1, b2, b3, b4, b5, b6, b7, fun p k hp => ?_⟩
        have hp' : Ag.upd w.cut a.r.toNat (some a.k.toNat) p = some k := hp; unfold Ag.upd at hp'; split at hp'
        · cases hp'
          have := hk.2; omega
        · exact b8 p k hp'
      · exact h1
    · split <;> rfl
  · exact ⟨w, g, rfl, h1, rfl⟩
theorem WX.begun {n : Nat} (h1 : 0 < n) (h7 : n <= 7) (h2 : n % 2 = 1) : WX ⟨n, fun _ => 0, fun _ v => if v = 0 then some [] else none, fun _ => 0, []⟩ (Ag.W.begun n) 0 0 0 :=
  ⟨Ag.begun_ok h1 h7, h2, fun r hr => Nat.le_refl _, fun r hr x hx => (by cases hx), fun r hr => Nat.le_refl _, Nat.le_refl _, fun x hx => (by cases hx), Nat.zero_le _, fun r k hk => (by cases hk)⟩
end Go.Proofs.Ytbciofnejefkiaa
