import Derived.Test.YtbciofnejefkiaaIa8
set_option linter.unusedVariables false
set_option linter.unusedSimpArgs false
set_option maxRecDepth 20000
set_option maxHeartbeats 4000000
namespace Go.Proofs.Ytbciofnejefkiaa
namespace Ag
def is1 (m : Mg) : Bool := decide (m.kind = 1)
noncomputable def W.subR (up : Nat -> Bool) (id : Nat) (row : List Int) (w : W) (r : Nat) : Option W := if up r = true then w.act ⟨0, (r : Int), 0, id, row⟩ else some w
noncomputable def W.live (up : Nat -> Bool) (id : Nat) (row : List Int) (k : Nat) (w : W) : Option W := (if k % 50 = 0 then foldO (W.subR up id row) w (List.range w.n) else some w).bind fun w => w.round up
noncomputable def W.lives (up : Nat -> Bool) (id : Nat) (row : List Int) (w : W) : Nat -> Option W
  | 0 => some w
  | k + 1 => (W.lives up id row w k).bind (W.live up id row k)
structure RI (up : Nat -> Bool) (e0 : En) (p a b c : Nat) (w : W) : Prop where
  pot : ∀ r, up r = true -> 12 * (w.c r).view + (w.c r).quiet <= p
  pl : Pl up e0 w.c w.l
  len : w.l.length <= a
  n46 : w.l.countP is46 <= b
  n1 : w.l.countP is1 <= c
theorem RI.bd {up : Nat -> Bool} {e0 : En} {p a b c : Nat} {w : W} (h : RI up e0 p a b c w) (hp : p <= 383) : Bd up w := ⟨fun r hu => by have := h.pot r hu; unfold mostView; omega⟩
theorem aoz (l : List Mg) : l.countP is4 <= l.countP is46 := List.countP_mono_left fun x _ h => by simp [is4, is46] at h ⊢; exact .inl h
theorem aet {up : Nat -> Bool} {e0 : En} {C : Nat -> Co} : ∀ {l : List Mg}, Pl up e0 C l -> wantE l = l.countP is1
  | [], _ => rfl
  | m :: l, h => by
    have ih := aet (l := l) fun x hx => h x (List.mem_cons_of_mem _ hx)
    have hm := (h m List.mem_cons_self).w; have e : wantE (m :: l) = (if m.kind = 1 then m.ents.length else 0) + wantE l := by simp [wantE]
    rw [e, ih, List.countP_cons]; by_cases hk : m.kind = 1
    · rw [if_pos hk, hm hk, if_pos (by simp [is1, hk])]; simp; omega
    · rw [if_neg hk, if_neg (by simp [is1, hk])]; omega
section
variable {up : Nat -> Bool} {e0 : En} {g g1 g' : Gh} {w w1 w' : W} {l P : List Mg}
theorem Hr.nw {m : Mg} (h : Hr up g w m g1 w1) (hp : w.l.countP is1 = 0) : w1.l.countP is1 = 0 := by
  rw [List.countP_eq_zero] at hp ⊢; rcases h.eq with ⟨_, e, _⟩ | ⟨_, e1, e2, ge, _⟩
  · rw [e]; exact hp
  · intro x hx
    rw [e2] at hx; rcases tw hx with hx | hx
    · exact hp x hx
    · have := (ge.send x hx).2.2.1
      simp [is1, this]
theorem Hrs.pot {p : Nat} (h : Hrs up g w l g' w') (hm : ∀ m ∈ l, up m.from_.toNat = true -> 12 * m.view <= p) (hp : ∀ r, up r = true -> 12 * (w.c r).view + (w.c r).quiet <= p) : ∀ r, up r = true -> 12 * (w'.c r).view + (w'.c r).quiet <= p :=
  h.inv (P := l) (fun _ w => ∀ r, up r = true -> 12 * (w.c r).view + (w.c r).quiet <= p) (fun ga v m gb v1 hml hh a r hu => by
    have := a r hu; rcases qc hh r with e | ⟨_, _, hf, e, ge, _⟩
    · rw [e]; exact this
    · rw [e]
      have h1 := ge.view; have h2 := hm m hml hf; rcases ge.quiet with h3 | ⟨h3, _⟩
      · by_cases h4 : (v.c r).view < ((v.c r).get m).c.view
        · have := ge.jq h4; split at h1 <;> omega
        · split at h1 <;> omega
      · split at h1 <;> omega) (fun m h => h) hp
theorem Run.ri {p a b c : Nat} (R : Run up g g1 g' w w1 w') (X : Cx up w.n) (h : RI up e0 p a b c w) (hp : p + 1 <= 383) :
    RI up e0 (p + 1) (min 4000 (1764 + (b + 56) + 7 * c)) (1764 + 7 * c) 0 w' /\ w1.l.length <= a + 64 := by
  have bd := h.bd (by omega)
  have hq4 : (List.range w.n).countP up <= 4 := by rw [X.q]; have := X.n7; omega
  have hpl := R.pl1 X bd h.pl
  have hpot1 : ∀ r, up r = true -> 12 * (w1.c r).view + (w1.c r).quiet <= p + 1 := fun r hu => by
    obtain ⟨e, t⟩ := R.tk X bd hu; have := t.pot; have := h.pot r hu; rw [e]; omega
  have hpot' := R.hr.pot (p := p + 1) (fun m hm _ => by have h1 := (hpl m hm).v; have h2 := hpot1 _ (hpl m hm).u; omega) hpot1
  obtain ⟨n1, n2, n3⟩ := R.hr.num; have hphi : phi up w.n w'.c <= 63 * (List.range w.n).countP up := agd (b := 31) fun r _ hu => by have := hpot' r hu; omega
  have e1 : ({ w1 with l := [] } : W).n = w.n := R.n1
  rw [e1] at n2 n3; simp only [List.length_nil, List.countP_nil] at n2 n3; have l1 := R.ph.num 16 fun r hr hu => (R.tk X bd hu).2.len
  have l2 := R.ph.cnt is46 14 fun r hr hu => (R.tk X bd hu).2.n46
  have l3 := R.ph.cnt is1 0 fun r hr hu => Nat.le_of_eq (List.countP_eq_zero.2 fun x hx => by have := ((R.tk X bd hu).2.send x hx).2.2.1; simp [is1, this])
  have l4 := aoz w1.l; rw [aet hpl] at n2 n3; have hnw : w'.l.countP is1 = 0 := R.hr.inv (P := w1.l) (fun _ v => v.l.countP is1 = 0) (fun _ _ _ _ _ _ hh a => hh.nw a) (fun m h => h) rfl
  obtain ⟨_, _, _, hx⟩ := R.wx'; have hcap := hx.l; have := h.len; have := h.n46; have := h.n1; exact ⟨⟨hpot', R.pl', by omega, by omega, by omega⟩, by omega⟩
theorem Run.ri0 {p : Nat} (R : Run up g g1 g' w w1 w') (X : Cx up w.n) (hpot : ∀ r, up r = true -> 12 * (w.c r).view + (w.c r).quiet <= p) (hm : ∀ m ∈ w.l, 12 * m.view <= p) (hp : p + 1 <= 383) : RI up e0 (p + 1) 4000 4000 0 w' := by
  have bd : Bd up w := ⟨fun r hu => by have := hpot r hu; unfold mostView; omega⟩
  have hpot1 : ∀ r, up r = true -> 12 * (w1.c r).view + (w1.c r).quiet <= p + 1 := fun r hu => by
    obtain ⟨e, t⟩ := R.tk X bd hu; have := t.pot; have := hpot r hu; rw [e]; omega
  have hpot' := R.hr.pot (p := p + 1) (fun m hmm _ => by
    rcases R.ph.mem m hmm with h | ⟨r, hr, hu, h⟩
    · have := hm m h; omega
    · obtain ⟨e, t⟩ := R.tk X bd hu
      have h1 := (t.send m h).2.1; have h2 := hpot1 r hu; rw [e] at h2; omega) hpot1
  have hnw : w'.l.countP is1 = 0 := R.hr.inv (P := w1.l) (fun _ v => v.l.countP is1 = 0) (fun _ _ _ _ _ _ hh a => hh.nw a) (fun m h => h) rfl
  obtain ⟨_, _, _, hx⟩ := R.wx'; have := hx.l; exact ⟨hpot', R.pl', this, Nat.le_trans List.countP_le_length this, by omega⟩
end
structure Sub (up : Nat -> Bool) (id : Nat) (row : List Int) (w ws : W) : Prop where
  ph : Ph up (fun c => c.submit id row) w.n w.c ws.c w.l ws.l
  n : ws.n = w.n
  sb : ∀ r, up r = true -> Sb ⟨id, 0, row⟩ (w.c r) ((w.c r).submit id row) /\ (w.c r).me = r
section
variable {up : Nat -> Bool} {id : Nat} {row : List Int} {w ws : W}
theorem Sub.at (S : Sub up id row w ws) (hup : ∀ r, up r = true -> r < w.n) {r : Nat} (hu : up r = true) : ws.c r = ((w.c r).submit id row).c := S.ph.yes r (hup r hu) hu
theorem Sub.mn (S : Sub up id row w ws) (hup : ∀ r, up r = true -> r < w.n) : Mn w.c ws.c := fun r => by
  cases hu : up r with
  | false => rw [S.ph.no r hu]; exact ⟨Nat.le_refl _, fun _ h => h⟩
  | true =>
    rw [S.at hup hu]; obtain ⟨t, _⟩ := S.sb r hu; exact ⟨Nat.le_of_eq t.view.symm, fun _ h => t.lead h⟩
theorem Sub.ri {p a b c : Nat} (S : Sub up id row w ws) (X : Cx up w.n) (h : RI up ⟨id, 0, row⟩ p a b c w) : RI up ⟨id, 0, row⟩ p (a + 60) (b + 56) (c + 4) ws := by
  have hq4 : (List.range w.n).countP up <= 4 := by rw [X.q]; have := X.n7; omega
  have l1 := S.ph.num 15 fun r hr hu => (S.sb r hu).1.len
  have l2 := S.ph.cnt is46 14 fun r hr hu => (S.sb r hu).1.n46
  have l3 := S.ph.cnt is1 1 fun r hr hu => (S.sb r hu).1.n1
  have := h.len; have := h.n46; have := h.n1; refine ⟨fun r hu => ?_, fun x hx => ?_, by omega, by omega, by omega⟩
  · rw [S.at X.hup hu, (S.sb r hu).1.view, (S.sb r hu).1.quiet]; exact h.pot r hu
  · rcases S.ph.mem x hx with hx | ⟨r, hr, hu, hx⟩
    · exact (h.pl x hx).mn (S.mn X.hup)
    · obtain ⟨t, hm⟩ := S.sb r hu
      obtain ⟨x1, x2, x3, x4, x5⟩ := t.send x hx; have ef : x.from_.toNat = r := by rw [x1, hm]; omega
      refine ⟨by rw [ef]; exact hu, ?_, fun h4 => .inr ?_, x4⟩
      · rw [ef, S.at X.hup hu, x2, t.view]; exact Nat.le_refl _
      · rw [ef, S.at X.hup hu]; exact x5 h4
theorem Sub.vot {V : Nat} (S : Sub up id row w ws) (hup : ∀ r, up r = true -> r < w.n) (h : Vot up V w) : Vot up V ws := by
  refine ⟨fun r hu => ?_, fun hL => ?_⟩
  · rw [S.at hup hu, (S.sb r hu).1.view, (S.sb r hu).1.quiet]; exact h.1 r hu
  · rw [S.n] at hL ⊢
    obtain ⟨h1, h2⟩ := h.2 hL; obtain ⟨t, _⟩ := S.sb _ hL; rw [S.at hup hL]; refine ⟨t.nf h1, fun r hu => ?_⟩
    rcases h2 r hu with h3 | h3 | ⟨x, hx, h3⟩
    · exact .inl (t.lead h3)
    · rcases t.got with h4 | h4
      · exact .inl h4
      · exact .inr (.inl (h4 r h3))
    · exact .inr (.inr ⟨x, S.ph.keep x hx, h3⟩)
theorem Sub.led {V : Nat} (S : Sub up id row w ws) (hup : ∀ r, up r = true -> r < w.n) (h : Led up V w) : Led up V ws := by
  obtain ⟨h1, h2, h3⟩ := h; unfold Led; rw [S.n]; refine ⟨h1, ?_, fun r hu => ?_⟩
  · rw [S.at hup h1]; exact (S.sb _ h1).1.lead h2
  · rw [S.at hup hu, (S.sb r hu).1.view, (S.sb r hu).1.quiet]; exact h3 r hu
end
theorem aco (w : W) (a : Act) : (wIn w a).c = w.c /\ (wIn w a).l = w.l /\ (wIn w a).cut = w.cut /\ (wIn w a).n = w.n := by unfold wIn; split <;> exact ⟨rfl, rfl, rfl, rfl⟩
theorem subR_act {up : Nat -> Bool} {id r : Nat} {row : List Int} {w : W} (hr : r < w.n) (hu : up r = true) : W.subR up id row w r = (wIn w ⟨0, (r : Int), 0, id, row⟩).step r ((w.c r).submit id row) := by
  unfold W.subR; rw [if_pos hu]; unfold W.act; rw [if_pos rfl, if_pos ⟨by show (0 : Int) <= (r : Int); omega, by show (r : Int) < (w.n : Int); omega⟩]
  show W.step (wIn w ⟨0, (r : Int), 0, id, row⟩) (r : Int).toNat ((w.c (r : Int).toNat).submit id row) = _
  rw [Int.toNat_natCast]
theorem subs_of {up : Nat -> Bool} {id : Nat} {row : List Int} (hok : ∀ r : Nat, r < 100 -> Act.Ok ⟨0, (r : Int), 0, id, row⟩) : ∀ (l : List Nat) {g : Gh} {w : W} {q B I : Nat}, WX g w q B I -> (∀ p, w.cut p = none) -> q < 1000000 -> (∀ r ∈ l, r < w.n) ->
    ∃ ws g', foldO (W.subR up id row) w l = some ws /\ WX g' ws q (B + 200 * l.length) (I + l.length) /\ (∀ p, ws.cut p = none) /\ ws.n = w.n /\ ∀ x ∈ ws.ids, x ∈ w.ids \/ x = (id, row)
  | [], g, w, q, B, I, h, hk, hq, hl => ⟨w, g, rfl, h, hk, rfl, fun x hx => .inl hx⟩
  | r :: l, g, w, q, B, I, h, hk, hq, hl => by
    have hr := hl r List.mem_cons_self; have h7 := h.wg.n7
    cases hu : up r with
    | false =>
      obtain ⟨ws, g', e, x, c, n, i⟩ := subs_of hok l h hk hq fun p hp => hl p (List.mem_cons_of_mem _ hp)
      refine ⟨ws, g', ?_, x.more (Nat.le_refl _) (by rw [List.length_cons]; omega) (by rw [List.length_cons]; omega), c, n, i⟩
      unfold foldO W.subR; rw [hu, if_neg (by simp)]; exact e
    | true =>
      obtain ⟨w1, g1, e0, e1, x1, t1, i1⟩ := h.sub1 (up := up) hk hq hr hu (hok r (by omega))
      obtain ⟨ws, g', e, x, c, n, i⟩ := subs_of hok l x1 t1.cut hq fun p hp => by rw [t1.n]; exact hl p (List.mem_cons_of_mem _ hp)
      refine ⟨ws, g', ?_, x.more (Nat.le_refl _) (by rw [List.length_cons]; omega) (by rw [List.length_cons]; omega), c, n.trans t1.n, fun y hy => ?_⟩
      · unfold foldO
        have : W.subR up id row w r = some w1 := by unfold W.subR; rw [if_pos hu]; exact e0
        rw [this]; exact e
      · rcases i y hy with h1 | h1
        · rw [i1] at h1
          unfold wIn at h1; split at h1
          · rcases List.mem_append.1 h1 with h1 | h1
            · exact .inl h1
            · exact .inr (List.mem_singleton.1 h1)
          · exact .inl h1
        · exact .inr h1
theorem ae4 {up : Nat -> Bool} {id : Nat} {row : List Int} {w ws : W} (hk : ∀ p, w.cut p = none) (h : foldO (W.subR up id row) w (List.range w.n) = some ws) : Ph up (fun c => c.submit id row) w.n w.c ws.c w.l ws.l := by
  have key := ajj (up := up) (f := fun c => c.submit id row) (F := fun v r => if r < v.n then W.subR up id row v r else none) (fun v r w1 hk e => by
    split at e
    · next hr =>
      cases hu : up r with
      | false =>
        unfold W.subR at e; rw [hu, if_neg (by simp)] at e
        obtain rfl := Option.some.inj e; exact ⟨hk, fun _ => ⟨rfl, rfl⟩, fun h => (by cases h)⟩
      | true =>
        rw [subR_act hr hu] at e; obtain ⟨s1, s2, s3, s4⟩ := aco v ⟨0, (r : Int), 0, id, row⟩; rcases ql e with ⟨_, b, e2⟩ | ⟨k, d, b, hk2, _⟩
        · subst e2
          dsimp only; rw [s1, s2, s3]; exact ⟨hk, fun h => (by cases h), fun _ => ⟨rfl, rfl⟩⟩
        · rw [s3, hk] at hk2; cases hk2
    · cases e) w.n w ws hk (by
    have : ∀ (l : List Nat) (v : W), v.n = w.n -> (∀ p, v.cut p = none) -> (∀ r ∈ l, r < w.n) -> foldO (W.subR up id row) v l = some ws -> foldO (fun v r => if r < v.n then W.subR up id row v r else none) v l = some ws := by
      intro l
      induction l with
      | nil => intro v _ _ _ h; exact h
      | cons r l ih =>
        intro v hn hk hl h; unfold foldO at h ⊢; have hr : r < v.n := by rw [hn]; exact hl r List.mem_cons_self
        rw [if_pos hr]
        cases hs : W.subR up id row v r with
        | none => rw [hs] at h; cases h
        | some v1 =>
          rw [hs] at h
          have hv : v1.n = v.n /\ ∀ p, v1.cut p = none := by
            cases hu : up r with
            | false =>
              unfold W.subR at hs; rw [hu, if_neg (by simp)] at hs
              obtain rfl := Option.some.inj hs; exact ⟨rfl, hk⟩
            | true =>
              rw [subR_act hr hu] at hs; obtain ⟨s1, s2, s3, s4⟩ := aco v ⟨0, (r : Int), 0, id, row⟩; rcases ql hs with ⟨_, b, e2⟩ | ⟨k, d, b, hk2, _⟩
              · subst e2; exact ⟨s4, by dsimp only; rw [s3]; exact hk⟩
              · rw [s3, hk] at hk2; cases hk2
          exact ih v1 (hv.1.trans hn) hv.2 (fun p hp => hl p (List.mem_cons_of_mem _ hp)) h
    exact this _ w rfl hk (fun r hr => List.mem_range.1 hr) h)
  exact key.2.2
theorem aqx {up : Nat -> Bool} {id : Nat} {row : List Int} {g : Gh} {w ws : W} {q B I : Nat} (hX : WX g w q B I) (X : Cx up w.n) (hk : ∀ p, w.cut p = none) (h : foldO (W.subR up id row) w (List.range w.n) = some ws) (hn : ws.n = w.n) : Sub up id row w ws := by
  refine ⟨ae4 hk h, hn, fun r hu => ?_⟩
  · obtain ⟨hc, hm⟩ := hX.wg.c r (X.hup r hu)
    have hcn := hc.n.trans hX.wg.n; exact ⟨ain _ _ _ (by rw [hcn]; exact X.n7) (by rw [hcn]; exact X.n2), hm⟩
end Ag
end Go.Proofs.Ytbciofnejefkiaa
namespace Go.Proofs.Ytbciofnejefkiaa
namespace Ag
structure AtK (up : Nat -> Bool) (id : Nat) (row : List Int) (w0 : W) (k : Nat) (w : W) : Prop where
  go : W.lives up id row w0 k = some w
  wx : ∃ g, WX g w (120 + 7 * k) (24000 + 802800 * k) (120 + 7 * k)
  cut : ∀ p, w.cut p = none
  n : w.n = w0.n
  ids : ∀ x ∈ w.ids, x ∈ w0.ids \/ x = (id, row)
structure Nx (up : Nat -> Bool) (id : Nat) (row : List Int) (w0 : W) (k : Nat) (w ws : W) (g g1 g' : Gh) (w1 w' : W) : Prop where
  sub : k % 50 ≠ 0 /\ ws = w \/ k % 50 = 0 /\ Sub up id row w ws
  run : Run up g g1 g' ws w1 w'
  n : ws.n = w0.n
  ids : ∀ x ∈ ws.ids, x ∈ w0.ids \/ x = (id, row)
  wx : ∃ q B I, WX g ws q B I
section
variable {up : Nat -> Bool} {id : Nat} {row : List Int} {w0 w : W} {k : Nat}
theorem xw (X : Cx up w0.n) (hok : ∀ r : Nat, r < 100 -> Act.Ok ⟨0, (r : Int), 0, id, row⟩) (h : AtK up id row w0 k w) (hk : k <= 5000) : ∃ ws g g1 g' w1 w', Nx up id row w0 k w ws g g1 g' w1 w' /\ AtK up id row w0 (k + 1) w' := by
  obtain ⟨go, ⟨g, wx⟩, cut, hn, ids⟩ := h; have h7 := wx.wg.n7; have hX : Cx up w.n := by rw [hn]; exact X
  by_cases h50 : k % 50 = 0
  · obtain ⟨ws, gs, e, x, c, n, i⟩ := subs_of (up := up) hok (List.range w.n) wx cut (by omega) (fun r hr => List.mem_range.1 hr)
    rw [List.length_range] at x; have x2 : WX gs ws (120 + 7 * k) (24000 + 802800 * k + 1400) (120 + 7 * k + 7) := x.more (Nat.le_refl _) (by omega) (by omega)
    have hids : ∀ x ∈ ws.ids, x ∈ w0.ids \/ x = (id, row) := fun y hy => by
      rcases i y hy with h | h
      · exact ids y h
      · exact .inr h
    obtain ⟨w1, g1, w', g', R, e2, x3, c3, i3⟩ := uw (up := up) x2 c (by omega)
    refine ⟨ws, gs, g1, g', w1, w', ⟨.inr ⟨h50, aqx wx hX cut e n⟩, R, n.trans hn, hids, ⟨_, _, _, x2⟩⟩, ⟨?_, ⟨g', x3.more (by omega) (by omega) (by omega)⟩, c3, R.n'.trans (n.trans hn), fun y hy => hids y (by rw [<- i3]; exact hy)⟩⟩
    show (W.lives up id row w0 k).bind (W.live up id row k) = some w'
    rw [go, Option.bind_some]; unfold W.live; rw [if_pos h50, e, Option.bind_some]; exact e2
  · obtain ⟨w1, g1, w', g', R, e2, x3, c3, i3⟩ := uw (up := up) wx cut (by omega)
    refine ⟨w, g, g1, g', w1, w', ⟨.inl ⟨h50, rfl⟩, R, hn, ids, ⟨_, _, _, wx⟩⟩, ⟨?_, ⟨g', x3.more (by omega) (by omega) (by omega)⟩, c3, R.n'.trans hn, fun y hy => ids y (by rw [<- i3]; exact hy)⟩⟩
    show (W.lives up id row w0 k).bind (W.live up id row k) = some w'
    rw [go, Option.bind_some]; unfold W.live; rw [if_neg h50, Option.bind_some]; exact e2
structure S (up : Nat -> Bool) (id : Nat) (row : List Int) (w0 : W) (k : Nat) (w : W) : Prop where
  at_ : AtK up id row w0 k w
  ri : RI up ⟨id, 0, row⟩ (120 + k) 3696 1792 0 w
structure NS (up : Nat -> Bool) (id : Nat) (row : List Int) (w0 : W) (k : Nat) (w ws : W) (g g1 g' : Gh) (w1 w' : W) : Prop where
  nx : Nx up id row w0 k w ws g g1 g' w1 w'
  s : S up id row w0 (k + 1) w'
  ri : RI up ⟨id, 0, row⟩ (120 + k) 3756 1848 4 ws
  lp : w1.l.length < 4000
  lr : w'.l.length < 4000
  x : Cx up ws.n
  bd : Bd up ws
theorem pq (X : Cx up w0.n) (hok : ∀ r : Nat, r < 100 -> Act.Ok ⟨0, (r : Int), 0, id, row⟩) (h : S up id row w0 k w) (hk : k <= 260) : ∃ ws g g1 g' w1 w', NS up id row w0 k w ws g g1 g' w1 w' := by
  obtain ⟨ws, g, g1, g', w1, w', N, A⟩ := xw X hok h.at_ (by omega)
  have hX : Cx up ws.n := by rw [N.n]; exact X
  have hXw : Cx up w.n := by rw [h.at_.n]; exact X
  have hri : RI up ⟨id, 0, row⟩ (120 + k) 3756 1848 4 ws := by
    rcases N.sub with ⟨_, e⟩ | ⟨_, s⟩
    · rw [e]; exact ⟨h.ri.pot, h.ri.pl, Nat.le_trans h.ri.len (by omega), Nat.le_trans h.ri.n46 (by omega), Nat.le_trans h.ri.n1 (by omega)⟩
    · exact s.ri hXw h.ri
  obtain ⟨r1, r2⟩ := N.run.ri hX hri (by omega)
  have := r1.len; exact ⟨ws, g, g1, g', w1, w', N, ⟨A, ⟨r1.pot, r1.pl, by omega, Nat.le_trans r1.n46 (by omega), r1.n1⟩⟩, hri, by omega, by omega, hX, hri.bd (by omega)⟩
theorem Nx.vot {V : Nat} {ws : W} {g g1 g' : Gh} {w1 w' : W} (X : Cx up w.n) (N : Nx up id row w0 k w ws g g1 g' w1 w') (h : Vot up V w) : Vot up V ws := by
  rcases N.sub with ⟨_, e⟩ | ⟨_, s⟩
  · rw [e]; exact h
  · exact s.vot X.hup h
theorem Nx.led {V : Nat} {ws : W} {g g1 g' : Gh} {w1 w' : W} (X : Cx up w.n) (N : Nx up id row w0 k w ws g g1 g' w1 w') (h : Led up V w) : Led up V ws := by
  rcases N.sub with ⟨_, e⟩ | ⟨_, s⟩
  · rw [e]; exact h
  · exact s.led X.hup h
theorem Nx.same {ws : W} {g g1 g' : Gh} {w1 w' : W} (X : Cx up w.n) (N : Nx up id row w0 k w ws g g1 g' w1 w') {r : Nat} (hu : up r = true) : (ws.c r).view = (w.c r).view /\ (ws.c r).quiet = (w.c r).quiet /\ ((w.c r).lead = true -> (ws.c r).lead = true) := by
  rcases N.sub with ⟨_, e⟩ | ⟨_, s⟩
  · rw [e]; exact ⟨rfl, rfl, id_⟩
  · rw [s.at X.hup hu]; have t := (s.sb r hu).1; exact ⟨t.view, t.quiet, t.lead⟩
where id_ {p : Prop} (h : p) : p := h
theorem abb {V : Nat} {ws : W} {g g1 g' : Gh} {w1 w' : W} (N : NS up id row w0 k w ws g g1 g' w1 w') (h : Led up V ws) : Led up V w' := by
  obtain ⟨h1, h2, h3⟩ := h
  exact (N.nx.run.lead N.x N.bd N.ri.pl (M := V) (fun r hu => Nat.le_of_eq (h3 r hu).1) (fun r hu _ hl => by
    have : r ≠ V % ws.n := fun e => by rw [e, h2] at hl; cases hl
    have := (h3 r hu).2 this; omega) h1 (h3 _ h1).1 h2 N.lp).2
theorem ard (X : Cx up w0.n) (hok : ∀ r : Nat, r < 100 -> Act.Ok ⟨0, (r : Int), 0, id, row⟩) {V : Nat} (h : S up id row w0 k w) (hk : k <= 260) (hL : Led up V w) : ∃ w', S up id row w0 (k + 1) w' /\ Led up V w' := by
  obtain ⟨ws, g, g1, g', w1, w', N⟩ := pq X hok h hk; exact ⟨w', N.s, abb N (N.nx.led (by rw [h.at_.n]; exact X) hL)⟩
theorem agt (X : Cx up w0.n) (hok : ∀ r : Nat, r < 100 -> Act.Ok ⟨0, (r : Int), 0, id, row⟩) {V : Nat} : ∀ (j : Nat) {k : Nat} {w : W}, S up id row w0 k w -> k + j <= 260 -> Led up V w -> ∃ w', S up id row w0 (k + j) w' /\ Led up V w'
  | 0, k, w, h, hk, hL => ⟨w, h, hL⟩
  | j + 1, k, w, h, hk, hL => by
    obtain ⟨w', h', hL'⟩ := ard X hok h (by omega) hL
    have := agt X hok j h' (by omega) hL'
    rw [show k + (j + 1) = k + 1 + j by omega]; exact this
theorem adu (X : Cx up w0.n) (hok : ∀ r : Nat, r < 100 -> Act.Ok ⟨0, (r : Int), 0, id, row⟩) {V : Nat} (h : S up id row w0 k w) (hk : k <= 260) (hV : Vot up V w) (hL : up (V % w0.n) = true) : ∃ w', S up id row w0 (k + 1) w' /\ Led up V w' := by
  obtain ⟨ws, g, g1, g', w1, w', N⟩ := pq X hok h hk; exact ⟨w', N.s, N.nx.run.vote N.x N.bd N.ri.pl (N.nx.vot (by rw [h.at_.n]; exact X) hV) (by rw [N.nx.n]; exact hL) N.lp⟩
theorem afa (X : Cx up w0.n) (hok : ∀ r : Nat, r < 100 -> Act.Ok ⟨0, (r : Int), 0, id, row⟩) {V : Nat} (hL : up (V % w0.n) = false) : ∀ (q : Nat) {k : Nat} {w : W}, q <= 11 -> S up id row w0 k w -> k + q <= 260 -> (∀ r, up r = true -> (w.c r).view = V /\ (w.c r).quiet = 11 - q) -> ∃ w', S up id row w0 (k + q) w' /\ ∀ r, up r = true -> (w'.c r).view = V /\ (w'.c r).quiet = 11
  | 0, k, w, hq, h, hk, hV => ⟨w, h, hV⟩
  | q + 1, k, w, hq, h, hk, hV => by
    obtain ⟨ws, g, g1, g', w1, w', N⟩ := pq X hok h (by omega)
    have hXw : Cx up w.n := by rw [h.at_.n]; exact X
    have := N.nx.run.wait N.x N.bd N.ri.pl (V := V) (q := 11 - (q + 1)) (fun r hu => by
      obtain ⟨a, b, _⟩ := N.nx.same hXw hu; rw [a, b]; exact hV r hu) (by rw [N.nx.n]; exact hL) (by omega)
    obtain ⟨w2, h2, h3⟩ := afa X hok hL q (by omega) N.s (by omega) (fun r hu => ⟨(this r hu).1, by rw [(this r hu).2]; omega⟩)
    exact ⟨w2, by rw [show k + (q + 1) = k + 1 + q by omega]; exact h2, h3⟩
theorem ah5 (X : Cx up w0.n) : ∃ r, up r = true := by
  have h : 0 < (List.range w0.n).countP up := by rw [X.q]; omega
  obtain ⟨r, _, h2⟩ := List.countP_pos_iff.1 h; exact ⟨r, h2⟩
theorem aba (X : Cx up w0.n) (hok : ∀ r : Nat, r < 100 -> Act.Ok ⟨0, (r : Int), 0, id, row⟩) {M r0 : Nat} (h : S up id row w0 k w) (hk : k <= 260) {ws : W} {g g1 g' : Gh} {w1 w' : W} (N : NS up id row w0 k w ws g g1 g' w1 w') (hM : ∀ r, up r = true -> (ws.c r).view <= M) (h0 : up r0 = true) (h1 : (ws.c r0).view = M) (h2 : (ws.c r0).lead = false) (h3 : 12 <= (ws.c r0).quiet + 1) : Vot up (M + 1) w' :=
  N.nx.run.begin N.x N.bd N.ri.pl hM h0 h1 h2 h3 N.lp N.lr
theorem adw (X : Cx up w0.n) (hok : ∀ r : Nat, r < 100 -> Act.Ok ⟨0, (r : Int), 0, id, row⟩) : ∀ (t : Nat) {k V : Nat} {w : W}, S up id row w0 k w -> Vot up V w -> up ((V + t) % w0.n) = true -> k + 12 * t + 1 <= 260 -> ∃ j w' V', j <= 12 * t + 1 /\ S up id row w0 (k + j) w' /\ Led up V' w'
  | 0, k, V, w, h, hV, hL, hk => by
    obtain ⟨w', a, b⟩ := adu X hok h (by omega) hV hL
    exact ⟨1, w', V, by omega, a, b⟩
  | t + 1, k, V, w, h, hV, hL, hk => by
    cases hu : up (V % w0.n) with
    | true =>
      obtain ⟨w', a, b⟩ := adu X hok h (by omega) hV hu
      exact ⟨1, w', V, by omega, a, b⟩
    | false =>
      obtain ⟨w2, h2, h3⟩ := afa X hok hu 11 (Nat.le_refl _) h (by omega) (fun r hu => hV.1 r hu)
      obtain ⟨r0, h0⟩ := ah5 X; obtain ⟨ws, g, g1, g', w1, w', N⟩ := pq X hok h2 (by omega)
      have hXw : Cx up w2.n := by rw [h2.at_.n]; exact X
      have hnl : (ws.c r0).lead = false := by
        cases hl : (ws.c r0).lead with
        | false => rfl
        | true =>
          obtain ⟨hc, hme, hcn⟩ := N.nx.run.cok N.x h0; have h5 := (hc.lead hl).1; rw [<- hc.n, hcn, N.nx.n, hme, (N.nx.same hXw h0).1, (h3 r0 h0).1] at h5; rw [h5, h0] at hu; cases hu
      have hvot := aba X hok h2 (by omega) N (M := V) (r0 := r0) (fun r hr => by rw [(N.nx.same hXw hr).1]; exact Nat.le_of_eq (h3 r hr).1) h0 (by rw [(N.nx.same hXw h0).1]; exact (h3 r0 h0).1) hnl (by rw [(N.nx.same hXw h0).2.1, (h3 r0 h0).2]; omega)
      obtain ⟨j, w3, V', j1, j2, j3⟩ := adw X hok t N.s hvot (by rw [show V + 1 + t = V + (t + 1) by omega]; exact hL) (by omega)
      exact ⟨11 + 1 + j, w3, V', by omega, by rw [show k + (11 + 1 + j) = k + 11 + 1 + j by omega]; exact j2, j3⟩
theorem aou (X : Cx up w0.n) (hok : ∀ r : Nat, r < 100 -> Act.Ok ⟨0, (r : Int), 0, id, row⟩) {M r0 : Nat} (h0 : up r0 = true) : ∀ (d : Nat) {k : Nat} {w : W}, S up id row w0 k w -> k + d + 2 <= 260 -> (∀ r, up r = true -> (w.c r).view <= M) -> (w.c r0).view = M -> (12 <= (w.c r0).quiet + d \/ ∃ r, up r = true /\ (w.c r).view = M /\ (w.c r).lead = true) ->
    ∃ j w' V, j <= d + 2 /\ S up id row w0 (k + j) w' /\ (Vot up V w' \/ Led up V w') := by
  intro d
  induction d with
  | zero =>
    intro k w h hk hM hv hq; obtain ⟨ws, g, g1, g', w1, w', N⟩ := pq X hok h (by omega)
    have hXw : Cx up w.n := by rw [h.at_.n]; exact X
    have hM' : ∀ r, up r = true -> (ws.c r).view <= M := fun r hu => by rw [(N.nx.same hXw hu).1]; exact hM r hu
    by_cases hA : ∃ r, up r = true /\ (ws.c r).view = M /\ (ws.c r).lead = false /\ 12 <= (ws.c r).quiet + 1
    · obtain ⟨r, a1, a2, a3, a4⟩ := hA
      exact ⟨1, w', _, by omega, N.s, .inl (aba X hok h (by omega) N hM' a1 a2 a3 a4)⟩
    · have hN : ∀ r, up r = true -> (ws.c r).view = M -> (ws.c r).lead = false -> (ws.c r).quiet + 1 < 12 := fun r b1 b2 b3 => Nat.lt_of_not_le fun b4 => hA ⟨r, b1, b2, b3, b4⟩
      have hB : ∃ r, up r = true /\ (ws.c r).view = M /\ (ws.c r).lead = true := by
        rcases hq with hq | ⟨r, a1, a2, a3⟩
        · refine ⟨r0, h0, by rw [(N.nx.same hXw h0).1]; exact hv, ?_⟩
          cases hl : (ws.c r0).lead with
          | true => rfl
          | false => have := hN r0 h0 (by rw [(N.nx.same hXw h0).1]; exact hv) hl; rw [(N.nx.same hXw h0).2.1] at this; omega
        · obtain ⟨b1, b2, b3⟩ := N.nx.same hXw a1
          exact ⟨r, a1, b1.trans a2, b3 a3⟩
      obtain ⟨L, a1, a2, a3⟩ := hB; exact ⟨1, w', M, by omega, N.s, .inr (N.nx.run.lead N.x N.bd N.ri.pl hM' hN a1 a2 a3 N.lp).2⟩
  | succ d ih =>
    intro k w h hk hM hv hq; obtain ⟨ws, g, g1, g', w1, w', N⟩ := pq X hok h (by omega)
    have hXw : Cx up w.n := by rw [h.at_.n]; exact X
    have hM' : ∀ r, up r = true -> (ws.c r).view <= M := fun r hu => by rw [(N.nx.same hXw hu).1]; exact hM r hu
    by_cases hA : ∃ r, up r = true /\ (ws.c r).view = M /\ (ws.c r).lead = false /\ 12 <= (ws.c r).quiet + 1
    · obtain ⟨r, a1, a2, a3, a4⟩ := hA
      exact ⟨1, w', _, by omega, N.s, .inl (aba X hok h (by omega) N hM' a1 a2 a3 a4)⟩
    have hN : ∀ r, up r = true -> (ws.c r).view = M -> (ws.c r).lead = false -> (ws.c r).quiet + 1 < 12 := fun r b1 b2 b3 => Nat.lt_of_not_le fun b4 => hA ⟨r, b1, b2, b3, b4⟩
    by_cases hB : ∃ r, up r = true /\ (ws.c r).view = M /\ (ws.c r).lead = true
    · obtain ⟨L, a1, a2, a3⟩ := hB
      exact ⟨1, w', M, by omega, N.s, .inr (N.nx.run.lead N.x N.bd N.ri.pl hM' hN a1 a2 a3 N.lp).2⟩
    · have hnl : (ws.c r0).lead = false := by
        cases hl : (ws.c r0).lead with
        | false => rfl
        | true => exact absurd ⟨r0, h0, by rw [(N.nx.same hXw h0).1]; exact hv, hl⟩ hB
      obtain ⟨c1, c2, c3⟩ := N.nx.run.calm N.x N.bd N.ri.pl hM' hN h0 (by rw [(N.nx.same hXw h0).1]; exact hv) hnl
      have hq' : 12 <= (w.c r0).quiet + (d + 1) := by
        rcases hq with hq | ⟨r, a1, a2, a3⟩
        · exact hq
        · obtain ⟨b1, b2, b3⟩ := N.nx.same hXw a1
          exact absurd ⟨r, a1, b1.trans a2, b3 a3⟩ hB
      obtain ⟨j, w2, V, j1, j2, j3⟩ := ih N.s (by omega) c1 c2 (by
        rcases c3 with c3 | c3
        · exact .inr c3
        · left; rw [c3, (N.nx.same hXw h0).2.1]; omega)
      exact ⟨1 + j, w2, V, by omega, by rw [show k + (1 + j) = k + 1 + j by omega]; exact j2, j3⟩
theorem aeu (up : Nat -> Bool) (C : Nat -> Co) : ∀ (n : Nat), (∃ r, r < n /\ up r = true) -> ∃ r0, r0 < n /\ up r0 = true /\ ∀ r, r < n -> up r = true -> (C r).view <= (C r0).view
  | 0, ⟨r, h, _⟩ => by omega
  | n + 1, ⟨r, h, hu⟩ => by
    by_cases he : ∃ r, r < n /\ up r = true
    · obtain ⟨r0, h1, h2, h3⟩ := aeu up C n he
      by_cases hn : up n = true /\ (C r0).view < (C n).view
      · refine ⟨n, by omega, hn.1, fun r hr hur => ?_⟩
        by_cases e : r = n
        · rw [e]; exact Nat.le_refl _
        · have := h3 r (by omega) hur; omega
      · refine ⟨r0, by omega, h2, fun r hr hur => ?_⟩
        by_cases e : r = n
        · rw [e] at hur ⊢
          exact Nat.le_of_not_lt fun h => hn ⟨hur, h⟩
        · exact h3 r (by omega) hur
    · refine ⟨r, h, hu, fun r' hr' hu' => ?_⟩
      have e1 : r = n := by
        have : ¬ r < n := fun h => he ⟨r, h, hu⟩
        omega
      have e2 : r' = n := by
        have : ¬ r' < n := fun h => he ⟨r', h, hu'⟩
        omega
      rw [e1, e2]; exact Nat.le_refl _
theorem apv (X : Cx up w0.n) (hok : ∀ r : Nat, r < 100 -> Act.Ok ⟨0, (r : Int), 0, id, row⟩) (h : S up id row w0 3 w) : ∃ k w' V, k <= 200 /\ k % 50 = 0 /\ S up id row w0 k w' /\ Led up V w' := by
  obtain ⟨r, hr⟩ := ah5 X; obtain ⟨r0, a1, a2, a3⟩ := aeu up w.c w0.n ⟨r, X.hup r hr, hr⟩; obtain ⟨j, w1, V, j1, j2, j3⟩ := aou X hok a2 12 h (by omega) (fun r hu => a3 r (X.hup r hu) hu) rfl (.inl (by omega))
  have key : ∃ k w' V, k <= 110 /\ S up id row w0 k w' /\ Led up V w' := by
    rcases j3 with j3 | j3
    · have hn := X.n7
      have hrn := X.hup r hr
      obtain ⟨t, t1, t2⟩ : ∃ t, t < w0.n /\ (V + t) % w0.n = r := by
        refine ⟨(r + (w0.n - V % w0.n)) % w0.n, Nat.mod_lt _ (by omega), ?_⟩
        have hv : V % w0.n < w0.n := Nat.mod_lt _ (by omega)
        rw [Nat.add_mod, Nat.mod_mod, <- Nat.add_mod]
        have e : V + (r + (w0.n - V % w0.n)) = r + w0.n * (V / w0.n) + w0.n := by
          have := Nat.div_add_mod V w0.n; generalize w0.n * (V / w0.n) = y at *; omega
        rw [e, Nat.add_mod_right, Nat.add_mul_mod_self_left, Nat.mod_eq_of_lt hrn]
      obtain ⟨i, w2, V', i1, i2, i3⟩ := adw X hok t j2 j3 (by rw [t2]; exact hr) (by omega)
      exact ⟨_, w2, V', by omega, i2, i3⟩
    · exact ⟨_, w1, V, by omega, j2, j3⟩
  obtain ⟨k, w2, V', k1, k2, k3⟩ := key; obtain ⟨w3, l1, l2⟩ := agt X hok ((50 - k % 50) % 50) k2 (by omega) k3
  exact ⟨_, w3, V', by omega, by omega, l1, l2⟩
end
end Ag
end Go.Proofs.Ytbciofnejefkiaa
namespace Go.Proofs.Ytbciofnejefkiaa
namespace Ag
theorem apd (l : List Nat) (q x : Nat) (h0 : 0 < q) (h : q <= l.countP fun y => decide (x <= y)) : x <= (sort l).getD (l.length - q) 0 := by
  have hp := sort_perm l; have hs := sort_sorted l; have hlen : (sort l).length = l.length := hp.length_eq; have hc : (sort l).countP (fun y => decide (x <= y)) = l.countP fun y => decide (x <= y) := hp.countP_eq _
  have hle : q <= l.length := Nat.le_trans h List.countP_le_length; generalize sort l = s at *; have hi : l.length - q < s.length := by omega
  have hg : s.getD (l.length - q) 0 = s[l.length - q] := by rw [List.getD_eq_getElem?_getD, List.getElem?_eq_getElem hi]; rfl
  rw [hg]; refine Nat.le_of_not_lt fun hlt => ?_
  have e : s = s.take (l.length - q + 1) ++ s.drop (l.length - q + 1) := (List.take_append_drop _ _).symm
  have h1 : (s.take (l.length - q + 1)).countP (fun y => decide (x <= y)) = 0 := List.countP_eq_zero.2 fun y hy => by
    obtain ⟨i, hi1, hi2⟩ := List.getElem_of_mem hy; rw [List.length_take] at hi1; rw [List.getElem_take] at hi2
    have : s[i] <= s[l.length - q] := by
      rcases Nat.lt_or_ge i (l.length - q) with h2 | h2
      · exact List.pairwise_iff_getElem.1 hs i _ (by omega) hi h2
      · have e3 : i = l.length - q := by omega
        subst e3; exact Nat.le_refl _
    rw [hi2] at this; simp; omega
  have h2 : (s.drop (l.length - q + 1)).countP (fun y => decide (x <= y)) <= q - 1 := by
    refine Nat.le_trans List.countP_le_length ?_; rw [List.length_drop]; omega
  rw [e, List.countP_append] at hc; omega
theorem aki (c : Co) (up : Nat -> Bool) (x : Nat) (h : ∀ r, r < c.n -> up r = true -> ∃ v, c.held r = some v /\ x <= v) : (List.range c.n).countP up <= c.helds.countP fun y => decide (x <= y) := by
  unfold Co.helds; rw [List.countP_filterMap]; refine List.countP_mono_left fun r hr hu => ?_
  obtain ⟨v, h1, h2⟩ := h r (List.mem_range.1 hr) hu; rw [h1]; simpa using h2
theorem afv (c : Co) (up : Nat -> Bool) (hq : c.n / 2 + 1 <= (List.range c.n).countP up) (h : ∀ r, r < c.n -> up r = true -> r ≠ c.me -> ∃ v, c.held r = some v /\ c.list.length <= v) : c.list.length <= c.settle.agreed := by
  unfold Co.settle; dsimp only
  have h1 := aki { c with held := upd c.held c.me (some c.list.length) } up c.list.length (fun r hr hu => by
    by_cases e : r = c.me
    · exact ⟨_, by rw [e]; exact upd_same _ _ _, Nat.le_refl _⟩
    · obtain ⟨v, a, b⟩ := h r hr hu e
      exact ⟨v, by show upd c.held c.me (some c.list.length) r = some v; rw [upd_other _ _ e]; exact a, b⟩)
  generalize ({ c with held := upd c.held c.me (some c.list.length) } : Co).helds = hs at *
  have h1 : (List.range c.n).countP up <= hs.countP fun y => decide (c.list.length <= y) := h1
  have h2 : hs.countP (fun y => decide (c.list.length <= y)) <= hs.length := List.countP_le_length
  rw [if_neg (by show ¬ hs.length < c.n / 2 + 1; omega)]
  have h3 := apd hs (c.n / 2 + 1) c.list.length (by omega) (by omega)
  show c.list.length <= max c.agreed (min ((sort hs).getD (hs.length - (c.n / 2 + 1)) 0) c.list.length)
  omega
theorem acg (c : Co) (q : Nat) (hq : q ≠ c.me) : c.settle.held q = c.held q := by
  unfold Co.settle; dsimp only; split <;> exact upd_other _ _ hq
theorem yu : ∀ (w l : List En), l.length <= (grown l w).length
  | [], l => Nat.le_refl _
  | e :: w, l => by
    unfold grown; rw [List.foldl_cons]; have := yu w (if l.length < 200 /\ hasId l e.id = false then l ++ [e] else l)
    unfold grown at this; refine Nat.le_trans ?_ this; split
    · rw [List.length_append]; omega
    · exact Nat.le_refl _
theorem xk {i : Nat} : ∀ (w l : List En), hasId l i = true -> hasId (grown l w) i = true
  | [], l, h => h
  | e :: w, l, h => by
    unfold grown; rw [List.foldl_cons]; have := xk w (if l.length < 200 /\ hasId l e.id = false then l ++ [e] else l) (by split; rw [hasId_app, h]; rfl; exact h)
    unfold grown at this; exact this
theorem uv {i : Nat} : ∀ (w l : List En), (grown l w).length < 200 -> hasId w i = true -> hasId (grown l w) i = true
  | [], l, _, h => by simp [hasId] at h
  | e :: w, l, hl, h => by
    have hl2 : l.length < 200 := Nat.lt_of_le_of_lt (yu (e :: w) l) hl; unfold grown at hl ⊢; rw [List.foldl_cons] at hl ⊢; have hlen := yu w (if l.length < 200 /\ hasId l e.id = false then l ++ [e] else l)
    unfold grown at hlen; by_cases he : e.id = i
    · have := xk (i := i) w (if l.length < 200 /\ hasId l e.id = false then l ++ [e] else l) (by
        split
        · rw [hasId_app]; simp [hasId, he]
        · next hn =>
          cases hx : hasId l e.id with
          | true => rw [<- he]; exact hx
          | false => exact absurd ⟨hl2, hx⟩ hn)
      unfold grown at this; exact this
    · have hw : hasId w i = true := by
        simp only [hasId, List.any_cons, Bool.or_eq_true, decide_eq_true_eq] at h; rcases h with h | h
        · exact absurd h he
        · exact h
      have := uv w (if l.length < 200 /\ hasId l e.id = false then l ++ [e] else l) (by unfold grown; exact hl) hw
      unfold grown at this; exact this
theorem am8 {w l : List En} (h : ¬ l.length < (grown l w).length) : grown l w = l := by
  have key : ∀ (w l : List En), l <+: grown l w := by
    intro w
    induction w with
    | nil => exact fun l => List.prefix_refl _
    | cons e w ih =>
      intro l; unfold grown; rw [List.foldl_cons]; have := ih (if l.length < 200 /\ hasId l e.id = false then l ++ [e] else l)
      unfold grown at this; refine List.IsPrefix.trans ?_ this; split
      · exact List.prefix_append _ _
      · exact List.prefix_refl _
  exact ((key w l).eq_of_length (by have := (key w l).length_le; omega)).symm
theorem yz (s : St) : ∃ d : Co, s.grow.c = d.settle /\ d.list = grown s.c.list s.c.wait /\ d.wait = [] /\ d.held = s.c.held /\ d.me = s.c.me /\ d.n = s.c.n /\ d.agreed = s.c.agreed := by
  unfold St.grow; dsimp only; rw [(lay_c _).1]; refine ⟨_, rfl, ?_⟩; split
  · rw [take_c]; exact ⟨rfl, rfl, rfl, rfl, rfl, rfl⟩
  · next h => exact ⟨(am8 h).symm, rfl, rfl, rfl, rfl, rfl⟩
theorem rq (c : Co) : c.settle.list = c.list /\ c.settle.wait = c.wait /\ c.agreed <= c.settle.agreed := by
  obtain ⟨h1, h2, h3, h4, h5, h6, h7, h8⟩ := rk c; exact ⟨h4, h7, (aak c).agr⟩
theorem Comm.leader {g : Gh} (G : GOK g) {v V : Nat} {x L : List En} (k : Comm g v x) (hv : v <= V) (hL : g.acc (V % g.n) V = some L) : x <+: L := by
  obtain ⟨u, hu, Q, hQ, hx⟩ := k; rcases Nat.eq_or_lt_of_le (Nat.le_trans hu hv) with rfl | hlt
  · obtain ⟨p, hp, hq⟩ := zn hQ
    obtain ⟨l, hl, h1⟩ := hx p hp hq; obtain ⟨_, _, L', hL', h2, _⟩ := G.acc p hp u l hl; rw [hL] at hL'; cases hL'; exact h1.trans h2
  · exact (safe G hQ hx V L hlt hL).trans (List.take_prefix _ _)
structure GL (c : Co) (m : Mg) (s : St) : Prop where
  list : s.c.list = c.list
  wait : s.c.wait = c.wait
  last : s.c.last = c.last
  agr : c.agreed <= s.c.agreed
  held : ∀ q h, q ≠ c.me -> c.held q = some h -> ∃ h', s.c.held q = some h' /\ h <= h'
  hold : m.kind = 5 -> m.view = c.view -> m.from_.toNat ≠ c.me -> ∃ h', s.c.held m.from_.toNat = some h' /\ m.op <= h'
theorem GL.refl (c : Co) (m : Mg) (h : ¬ (m.kind = 5 /\ m.view = c.view)) : GL c m ⟨c, [], []⟩ := ⟨rfl, rfl, rfl, Nat.le_refl _, fun q h _ e => ⟨h, e, Nat.le_refl _⟩, fun a b => absurd ⟨a, b⟩ h⟩
theorem adz {c : Co} {m : Mg} {e0 : En} (ho : ¬ c.odd m) (hl : c.lead = true) (hv : c.view % c.n = c.me) (hf : m.from_ ≠ (c.me : Int)) (hm : m.kind ≠ 1 -> m.view <= c.view) (h1 : m.kind = 1 -> m.ents = [e0]) (hid : hasId c.list e0.id = true) : GL c m (c.get m) := by
  by_cases hk : m.kind = 1
  · rw [tu c m ho hk]
    unfold wantK; rw [List.take_length, h1 hk]
    have : (St.want ⟨c, [], []⟩ e0) = ⟨c, [], []⟩ := by
      have e2 : c.wanted e0 = (c, false) := by unfold Co.wanted; rw [if_pos (.inr (.inl hid))]
      unfold St.want; dsimp only; rw [e2]; rfl
    show GL c m (St.want ⟨c, [], []⟩ e0)
    rw [this]; exact GL.refl c m (by omega)
  have e1 : get1 c m = ⟨c, [], []⟩ := by unfold get1; rw [if_neg (by have := hm hk; omega)]
  by_cases hp : m.view < c.view
  · rw [tv c m ho hk (by rw [e1]; exact hp), e1]
    exact GL.refl c m (by omega)
  · have hvv : m.view = c.view := by have := hm hk; omega
    rw [pz c m ho hk (by rw [e1]; exact hp), e1]
    unfold get2; split
    · split
      · unfold St.count; rw [if_pos hl]; exact GL.refl c m (by omega)
      · exact GL.refl c m (by omega)
    split
    · next h5 =>
      first | rw [if_pos hl] | skip
      dsimp only; generalize hd : ({ c with held := upd c.held m.from_.toNat (some (max ((c.held m.from_.toNat).getD 0) m.op)) } : Co) = d
      have hdh : d.held = upd c.held m.from_.toNat (some (max ((c.held m.from_.toNat).getD 0) m.op)) := by rw [<- hd]
      have hdm : d.me = c.me := by rw [<- hd]
      obtain ⟨k1, k2, k3⟩ := rq d; obtain ⟨_, _, _, _, k5, _⟩ := rk d; refine ⟨k1.trans (by rw [<- hd]), k2.trans (by rw [<- hd]), k5.trans (by rw [<- hd]), Nat.le_trans (Nat.le_of_eq (by rw [<- hd])) k3, fun q h hq e => ?_, fun _ _ hne => ?_⟩
      · show ∃ h', d.settle.held q = some h' /\ _
        rw [acg d q (by rw [hdm]; exact hq), hdh]
        unfold upd; split
        · next e2 => rw [<- e2, e]; exact ⟨_, rfl, by simp; omega⟩
        · exact ⟨h, e, Nat.le_refl _⟩
      · show ∃ h', d.settle.held _ = some h' /\ _
        rw [acg d _ (by rw [hdm]; exact hne), hdh, upd_same]
        exact ⟨_, rfl, Nat.le_max_right _ _⟩
    split
    · rw [if_neg (by show ¬ m.from_ = ((c.view % c.n : Nat) : Int); rw [hv]; exact hf)]; exact GL.refl c m (by omega)
    · exact GL.refl c m (by omega)
theorem zj (s : St) (m : Mg) : (s.fin m).c.list = s.c.list /\ (s.fin m).c.last = s.c.last /\ (s.fin m).send = s.send /\ s.c.agreed <= (s.fin m).c.agreed := by
  unfold St.fin; split
  · exact ⟨rfl, rfl, rfl, Nat.le_max_left _ _⟩
  · exact ⟨rfl, rfl, rfl, Nat.le_refl _⟩
theorem arc {c : Co} {m : Mg} (ho : ¬ c.odd m) (hl : c.lead = false) (hv : c.view % c.n ≠ c.me) (hm : m.kind ≠ 1 -> m.view <= c.view) (hla : c.last = c.view) (he : m.kind = 4 -> m.view = c.view -> m.ents.length <= c.list.length) : (c.get m).c.list = c.list /\ (c.get m).c.last = c.last := by
  by_cases hk : m.kind = 1
  · rw [tu c m ho hk]
    unfold wantK
    have key : ∀ (l : List En) (s : St), s.c.lead = false -> (l.foldl St.want s).c.list = s.c.list /\ (l.foldl St.want s).c.last = s.c.last := by
      intro l
      induction l with
      | nil => exact fun s _ => ⟨rfl, rfl⟩
      | cons e l ih =>
        intro s hs; rw [List.foldl_cons]
        have hw : (s.want e).c.list = s.c.list /\ (s.want e).c.last = s.c.last /\ (s.want e).c.lead = false := by
          unfold St.want Co.wanted; dsimp only; split
          · exact ⟨rfl, rfl, hs⟩
          · rw [if_neg (by simp [hs])]; exact ⟨rfl, rfl, hs⟩
        obtain ⟨a, b⟩ := ih _ hw.2.2; exact ⟨a.trans hw.1, b.trans hw.2.1⟩
    exact key _ ⟨c, [], []⟩ hl
  have e1 : get1 c m = ⟨c, [], []⟩ := by unfold get1; rw [if_neg (by have := hm hk; omega)]
  by_cases hp : m.view < c.view
  · rw [tv c m ho hk (by rw [e1]; exact hp), e1]; exact ⟨rfl, rfl⟩
  · have hvv : m.view = c.view := by have := hm hk; omega
    rw [pz c m ho hk (by rw [e1]; exact hp), e1]
    unfold get2; split
    · rw [if_neg (fun h => hv h.1)]; exact ⟨rfl, rfl⟩
    split
    · rw [if_neg (by simp [hl])]; exact ⟨rfl, rfl⟩
    split
    · split
      · unfold St.hear St.heard
        split
        · next h4 =>
          split
          · exact ⟨rfl, rfl⟩
          · rw [if_neg (by show ¬ (c.last < m.view \/ c.list.length < m.ents.length); have := he h4 hvv; omega)]
            unfold St.hold; obtain ⟨f1, f2, _⟩ := zj (St.out ⟨{ c with quiet := 0 }, [], []⟩ { msg0 5 m.from_ with op := c.list.length }) m
            rw [out_c] at f1 f2; exact ⟨f1, f2⟩
        · exact ⟨(zj _ _).1, (zj _ _).2.1⟩
      · exact ⟨rfl, rfl⟩
    · exact ⟨rfl, rfl⟩
theorem amd {c : Co} {m : Mg} (ho : ¬ c.odd m) (h4 : m.kind = 4) (hv : c.view <= m.view) (hf : m.from_ = ((m.view % c.n : Nat) : Int)) (hne : m.view % c.n ≠ c.me) (hb : begins m.ents (c.list.take c.agreed) = true) (hn7 : c.n <= 7) (ht : ¬ (c.last < m.view \/ c.list.length < m.ents.length) -> c.last = m.view /\ c.list = m.ents) :
    (c.get m).c.list = m.ents /\ (c.get m).c.last = m.view /\ ∃ x ∈ (c.get m).send, x.kind = 5 /\ x.to = m.from_ /\ x.from_ = (c.me : Int) /\ x.view = m.view /\ x.op = m.ents.length := by
  have hk : ¬ m.kind = 1 := by omega
  have key : ∃ d : Co, (get1 c m).c = d /\ d.view = m.view /\ d.n = c.n /\ d.me = c.me /\ d.last = c.last /\ d.list = c.list /\ d.agreed = c.agreed := by
    refine ⟨_, rfl, ?_⟩; unfold get1; split
    · next h =>
      have hvt := (u0 (St.promise ⟨c, [], []⟩ m.view) hn7).2.2 hne; rw [hvt.1]; exact ⟨rfl, rfl, rfl, rfl, rfl, rfl⟩
    · next h => exact ⟨by show c.view = _; omega, rfl, rfl, rfl, rfl, rfl⟩
  obtain ⟨d, hd, k1, k2, k3, k4, k5, k6⟩ := key; rw [pz c m ho hk (by rw [hd, k1]; exact Nat.lt_irrefl _)]
  generalize get1 c m = V at *; obtain ⟨Vc, Vs, Vn⟩ := V; obtain rfl : Vc = d := hd; unfold get2; rw [if_neg (by omega), if_neg (by omega), if_pos (.inl h4), if_pos (by show m.from_ = ((Vc.view % Vc.n : Nat) : Int); rw [k1, k2]; exact hf)]
  unfold St.hear St.heard; rw [if_pos h4, if_neg (by show ¬ begins m.ents (Vc.list.take Vc.agreed) = false; rw [k5, k6, hb]; simp)]
  unfold St.hold; have hto : m.from_ ≠ (c.me : Int) := by rw [hf]; omega
  have hfin : ∀ t : St, t.c.list = m.ents -> t.c.last = m.view -> t.c.me = c.me -> t.c.view = m.view -> ((t.out { msg0 5 m.from_ with op := t.c.list.length }).fin m).c.list = m.ents /\ ((t.out { msg0 5 m.from_ with op := t.c.list.length }).fin m).c.last = m.view /\ ∃ x ∈ ((t.out { msg0 5 m.from_ with op := t.c.list.length }).fin m).send, x.kind = 5 /\ x.to = m.from_ /\ x.from_ = (c.me : Int) /\ x.view = m.view /\ x.op = m.ents.length := fun t t1 t2 t3 t4 => by
    obtain ⟨f1, f2, f3, _⟩ := zj (t.out { msg0 5 m.from_ with op := t.c.list.length }) m
    rw [out_c] at f1 f2; refine ⟨f1.trans t1, f2.trans t2, ?_⟩; rw [f3]; unfold St.out; rw [if_neg (by show ¬ m.from_ = (t.c.me : Int); rw [t3]; exact hto)]
    exact ⟨_, List.mem_append_right _ (List.mem_singleton.2 rfl), rfl, rfl, by rw [t3], t4, by rw [t1]⟩
  by_cases hc : c.last < m.view \/ c.list.length < m.ents.length
  · rw [if_pos (by show Vc.last < m.view \/ Vc.list.length < m.ents.length; rw [k4, k5]; exact hc)]
    exact hfin _ (by rw [take_c]) (by rw [take_c]) (by rw [take_c]; exact k3) (by rw [take_c]; exact k1)
  · rw [if_neg (by show ¬ (Vc.last < m.view \/ Vc.list.length < m.ents.length); rw [k4, k5]; exact hc)]
    obtain ⟨t1, t2⟩ := ht hc; exact hfin _ (k5.trans t2) (k4.trans t1) k3 k1
theorem aps {c : Co} {m : Mg} (ho : ¬ c.odd m) (h6 : m.kind = 6) (hv : c.view = m.view) (hf : m.from_ = ((m.view % c.n : Nat) : Int)) (hla : c.last = m.view) (hc : c.list.length <= m.commit) : c.list.length <= (c.get m).c.agreed := by
  have hk : ¬ m.kind = 1 := by omega
  have e1 : get1 c m = ⟨c, [], []⟩ := by unfold get1; rw [if_neg (by omega)]
  rw [pz c m ho hk (by rw [e1]; show ¬ m.view < c.view; omega), e1]
  unfold get2; rw [if_neg (by omega), if_neg (by omega), if_pos (.inr h6), if_pos (by show m.from_ = ((c.view % c.n : Nat) : Int); rw [hv]; exact hf)]
  unfold St.hear St.heard; rw [if_neg (by omega)]
  unfold St.fin; rw [if_pos hla]; show c.list.length <= max c.agreed (min m.commit c.list.length)
  omega
theorem aq2 {c : Co} (hl : c.lead = false) (hq : c.quiet + 1 < 12) (hn : c.n ≠ 1) (hv : c.view % c.n ≠ c.me) : c.tick.c = { c with quiet := c.quiet + 1 } := by
  unfold Co.tick; dsimp only; rw [if_neg (by rw [hl]; simp), if_neg (by show ¬ (12 <= c.quiet + 1 \/ c.n = 1); omega)]
  split
  · unfold St.vote
    dsimp only; rw [if_neg hv, out_c]
  · rfl
theorem am4 {c : Co} {id : Nat} {row : List Int} (hn : c.n ≠ 1) (hl : c.lead = true) (hm : may ⟨id, 0, row⟩ = true) : hasId (c.submit id row).c.list id = true \/ hasId (c.submit id row).c.wait id = true \/ 200 <= (c.submit id row).c.list.length := by
  unfold Co.submit; dsimp only; have e : (if c.n = 1 /\ c.lead = false then St.begin ⟨c, [], []⟩ else ⟨c, [], []⟩) = (⟨c, [], []⟩ : St) := if_neg (fun h => hn h.1)
  rw [e]; by_cases hw : may ⟨id, 0, row⟩ = false \/ hasId c.list id = true \/ hasId c.wait id = true
  · have e2 : c.wanted ⟨id, 0, row⟩ = (c, false) := by unfold Co.wanted; rw [if_pos hw]
    rw [e2, if_neg (by simp)]
    have : hasId c.list id = true \/ hasId c.wait id = true := by
      rcases hw with h | h
      · rw [hm] at h; cases h
      · exact h
    split
    · next h3 => exact absurd hl (by have := h3.2.1; rw [this]; simp)
    · rcases this with h | h
      · exact .inl h
      · exact .inr (.inl h)
  · have e2 : c.wanted ⟨id, 0, row⟩ = ({ c with wait := (if c.wait.length = 200 then c.wait.drop 1 else c.wait) ++ [⟨id, 0, row⟩] }, c.lead) := by unfold Co.wanted; rw [if_neg hw]
    rw [e2, if_pos hl]; obtain ⟨d, d1, d2, _⟩ := yz ⟨{ c with wait := (if c.wait.length = 200 then c.wait.drop 1 else c.wait) ++ [⟨id, 0, row⟩] }, [], []⟩
    rw [d1, (rq d).1, d2]; by_cases h2 : (grown c.list ((if c.wait.length = 200 then c.wait.drop 1 else c.wait) ++ [⟨id, 0, row⟩])).length < 200
    · left
      refine uv _ _ h2 ?_; rw [hasId_app]; simp [hasId]
    · exact .inr (.inr (Nat.le_of_not_lt h2))
end Ag
end Go.Proofs.Ytbciofnejefkiaa
namespace Go.Proofs.Ytbciofnejefkiaa
namespace Ag
theorem aft : ∀ (l B : List Nat), l.Nodup -> (∀ x ∈ l, x ∈ B) -> l.length <= B.length
  | [], B, _, _ => Nat.zero_le _
  | a :: l, B, hn, h => by
    rw [List.nodup_cons] at hn; have ha := h a List.mem_cons_self; have := aft l (B.erase a) hn.2 fun x hx => (List.mem_erase_of_ne (fun e => hn.1 (by rw [<- e]; exact hx))).2 (h x (List.mem_cons_of_mem _ hx))
    rw [List.length_erase_of_mem ha] at this; have : 0 < B.length := List.length_pos_of_mem ha; rw [List.length_cons]; omega
theorem aa8 {T : List (Nat × List Int)} {l : List En} {A : List (Nat × List Int)} {p : Nat × List Int} (h : LOK T l) (hs : ∀ x ∈ T, x ∈ A \/ x = p) : l.length <= A.length + 1 := by
  have := aft (l.map En.id) ((A.map (·.1)) ++ [p.1]) (ad0 h.uniq) fun x hx => by
    obtain ⟨e, he, rfl⟩ := List.mem_map.1 hx; rcases hs _ (h.all e he).mem with h1 | h1
    · exact List.mem_append_left _ (List.mem_map.2 ⟨_, h1, rfl⟩)
    · exact List.mem_append_right _ (List.mem_singleton.2 (congrArg Prod.fst h1))
  rw [List.length_map, List.length_append, List.length_map, List.length_singleton] at this; exact this
theorem Hrs.le {up : Nat -> Bool} {g g' : Gh} {w w' : W} {l : List Mg} (h : Hrs up g w l g' w') : Le g g' := by
  induction h with
  | nil => exact Le.refl _
  | cons h1 h2 ih => exact h1.tn.le.trans ih
theorem aod {up : Nat -> Bool} {g g1 : Gh} {w w1 : W} {m : Mg} {r : Nat} (h : Hr up g w m g1 w1) (ht : m.to = (r : Int)) (hu : up r = true) (hf : up m.from_.toNat = true) : w1.l = ((w.c r).get m).send.foldl addL w.l := by
  rcases h.eq with ⟨hn, _⟩ | ⟨_, e1, e2, _⟩
  · exact absurd ⟨hf, by rw [ht, Int.toNat_natCast]; exact hu⟩ hn
  · rw [ht, Int.toNat_natCast] at e2; exact e2
structure LJ (V : Nat) (Y : List En) (c : Co) : Prop where
  view : c.view = V
  lead : c.lead = true
  list : c.list = Y
  wait : c.wait = []
  last : c.last = V
structure FJ (V : Nat) (Y : List En) (c : Co) : Prop where
  view : c.view = V
  last : c.last = V
  list : c.list = Y
structure HL (up : Nat -> Bool) (e0 : En) (V L : Nat) (Y : List En) (P : List Mg) (v : W) : Prop where
  hj : HJ up e0 V P v
  lj : LJ V Y (v.c L)
  n : V % v.n = L
section
variable {up : Nat -> Bool} {e0 : En} {V L : Nat} {Y : List En} {P : List Mg} {g g1 : Gh} {v v1 : W} {m : Mg}
theorem Hr.cok (hh : Hr up g v m g1 v1) {r : Nat} (hr : r < v.n) : GOK g /\ COK g (v.c r) /\ (v.c r).me = r /\ (v.c r).n = v.n /\ g.n = v.n /\ g.n <= 7 := by
  obtain ⟨_, _, _, h⟩ := hh.wx; obtain ⟨a, b⟩ := h.wg.c r hr; exact ⟨h.wg.gok, a, b, a.n.trans h.wg.n, h.wg.n, by rw [h.wg.n]; exact h.wg.n7⟩
theorem ng (hid : hasId Y e0.id = true) (hm : m ∈ P) (hh : Hr up g v m g1 v1) (a : HL up e0 V L Y P v) :
    HL up e0 V L Y P v1 /\ (v.c L).agreed <= (v1.c L).agreed /\ (∀ q h, q ≠ L -> (v.c L).held q = some h -> ∃ h', (v1.c L).held q = some h' /\ h <= h') /\
      (m.kind = 5 -> m.view = V -> m.to = (L : Int) -> up L = true -> ∀ r : Nat, m.from_ = (r : Int) -> up r = true -> ∃ h', (v1.c L).held r = some h' /\ m.op <= h') := by
  have hj1 := a.hj.step hm hh; have hn1 : V % v1.n = L := by rw [hh.tn.n]; exact a.n
  rcases qc hh L with e | ⟨ht, hLu, hf, e, ge, hme, hcn, hLn, _⟩
  · rw [e]
    refine ⟨⟨hj1, by rw [e]; exact a.lj, hn1⟩, Nat.le_refl _, fun q h _ hq => ⟨h, hq, Nat.le_refl _⟩, fun h5 hv ht hLu r hfr hr => ?_⟩
    obtain ⟨e2, ge, hme, hcn⟩ := td hh ht hLu (by rw [hfr, Int.toNat_natCast]; exact hr)
    obtain ⟨G, hc, hme', hcn', hgn, hg7⟩ := hh.cok (r := L) (by have := hh.mok.to; have h2 : m.to = (L : Int) := ht; have := (by obtain ⟨_, _, _, h⟩ := hh.wx; exact h.wg.n : g.n = v.n); omega)
    have hodd := sf hc hh.mok hg7 (by rw [hme]; exact ht)
    have gl := adz (e0 := e0) hodd a.lj.lead (by rw [a.lj.view, hcn, hme]; exact a.n) (by rw [hme, <- ht]; exact fun h => hh.mok.ne h.symm) (fun _ => by rw [a.lj.view]; exact a.hj.mv hm) (fun h1 => (a.hj.pl m hm).w h1) (by rw [a.lj.list]; exact hid)
    have hfn : m.from_.toNat = r := by rw [hfr]; rfl
    have := gl.hold h5 (by rw [hv, a.lj.view]) (by rw [hfn, hme]; intro h; exact hh.mok.ne (by rw [ht, hfr, h]))
    rw [<- e2, e, hfn] at this; exact this
  · obtain ⟨G, hc, hme', hcn', hgn, hg7⟩ := hh.cok hLn
    have hodd := sf hc hh.mok hg7 (by rw [hme]; exact ht)
    have gl := adz (e0 := e0) hodd a.lj.lead (by rw [a.lj.view, hcn, hme]; exact a.n) (by rw [hme, <- ht]; exact fun h => hh.mok.ne h.symm) (fun _ => by rw [a.lj.view]; exact a.hj.mv hm) (fun h1 => (a.hj.pl m hm).w h1) (by rw [a.lj.list]; exact hid)
    have t := a.hj.at hm hh a.lj.view; rw [e] at t ⊢; refine ⟨⟨hj1, by rw [e]; exact ⟨t.view, t.lead a.lj.lead, gl.list.trans a.lj.list, gl.wait.trans a.lj.wait, gl.last.trans a.lj.last⟩, hn1⟩, gl.agr, fun q h hq hh2 => gl.held q h (by rw [hme]; exact hq) hh2, fun h5 hv _ _ r hfr hr => ?_⟩
    have hfn : m.from_.toNat = r := by rw [hfr]; rfl
    have := gl.hold h5 (by rw [hv, a.lj.view]) (by rw [hfn, hme]; intro h; exact hh.mok.ne (by rw [ht, hfr, h]))
    rw [hfn] at this; exact this
theorem HL.acc (hh : Hr up g v m g1 v1) (a : HL up e0 V L Y P v) (hLn : L < v.n) : g.acc (V % g.n) V = some Y := by
  obtain ⟨G, hc, hme, hcn, hgn, _⟩ := hh.cok hLn; have := hc.cur; rw [hme, a.lj.last, a.lj.list] at this; rw [hgn, a.n]; exact this
theorem tt (hm : m ∈ P) (hh : Hr up g v m g1 v1) (a : HL up e0 V L Y P v) (hLn : L < v.n) {r : Nat} (hne : r ≠ L) (hr : r < v.n) (f : FJ V Y (v.c r)) : FJ V Y (v1.c r) /\ (v.c r).agreed <= (v1.c r).agreed := by
  rcases qc hh r with e | ⟨ht, hu, hf, e, ge, hme, hcn, _, _⟩
  · rw [e]; exact ⟨f, Nat.le_refl _⟩
  · obtain ⟨G, hc, _, _, hgn, hg7⟩ := hh.cok hr
    have hvn : (v.c r).view % (v.c r).n ≠ (v.c r).me := by rw [f.view, hcn, hme, a.n]; exact fun h => hne h.symm
    have hnl : (v.c r).lead = false := by
      cases hl : (v.c r).lead with
      | false => rfl
      | true => exact absurd (by have := (hc.lead hl).1; rw [<- hc.n] at this; exact this) hvn
    have hodd := sf hc hh.mok hg7 (by rw [hme]; exact ht)
    have t := a.hj.at hm hh f.view
    obtain ⟨g1, g2⟩ := arc hodd hnl hvn (fun _ => by rw [f.view]; exact a.hj.mv hm) (f.last.trans f.view.symm) (fun h4 h5 => by
      obtain ⟨L', l1, l2, _⟩ := hh.mok.lays h4; rw [h5, f.view, a.acc hh hLn] at l1
      cases l1
      rw [f.list]; exact l2.length_le)
    rw [e] at t ⊢; exact ⟨⟨t.view, g2.trans f.last, g1.trans f.list⟩, (acn _ _).agr⟩
end
def F1 (up : Nat -> Bool) (V : Nat) (Y : List En) (w : W) : Prop := Led up V w /\ LJ V Y (w.c (V % w.n)) /\ ∀ r, up r = true -> r ≠ V % w.n -> FJ V Y (w.c r) /\ ((∃ h, (w.c (V % w.n)).held r = some h /\ Y.length <= h) \/ ∃ x ∈ w.l, x.kind = 5 /\ x.to = ((V % w.n : Nat) : Int) /\ x.from_ = (r : Int) /\ x.view = V /\ Y.length <= x.op)
def F2 (up : Nat -> Bool) (V : Nat) (Y : List En) (w : W) : Prop := Led up V w /\ LJ V Y (w.c (V % w.n)) /\ ∀ r, up r = true -> r ≠ V % w.n -> FJ V Y (w.c r) /\ ∃ h, (w.c (V % w.n)).held r = some h /\ Y.length <= h
section
variable {up : Nat -> Bool} {id : Nat} {row : List Int} {w0 w ws w1 w' : W} {k V : Nat} {g g1 g' : Gh}
theorem xh (N : NS up id row w0 k w ws g g1 g' w1 w') (hL : Led up V ws) : let L := V % ws.n
    HJ up ⟨id, 0, row⟩ V w1.l { w1 with l := [] } /\ (w1.c L).view = V /\ (w1.c L).lead = true /\ (w1.c L).last = V /\
    (∃ d : Co, w1.c L = d.settle /\ d.list = grown (ws.c L).list (ws.c L).wait /\ d.wait = [] /\ d.held = (ws.c L).held /\ d.me = L /\ d.n = ws.n) /\
    (∀ r, up r = true -> r ≠ L -> { layM (w1.c L) r with from_ := (L : Int), view := V } ∈ w1.l) /\ (∀ r, up r = true -> r ≠ L -> (w1.c r) = { ws.c r with quiet := (ws.c r).quiet + 1 }) := by
  intro L; obtain ⟨h1, h2, h3⟩ := hL
  obtain ⟨hj, ht⟩ := N.nx.run.nobody N.x N.bd N.ri.pl (M := V) (fun r hu => Nat.le_of_eq (h3 r hu).1) (fun r hu _ hl => by
    have : r ≠ V % ws.n := fun e => by rw [e, h2] at hl; cases hl
    have := (h3 r hu).2 this; omega)
  obtain ⟨e, t⟩ := N.nx.run.tk N.x N.bd h1; obtain ⟨hc, hme, hcn⟩ := N.nx.run.cok N.x h1; obtain ⟨t1, t2, t3, t4, t5⟩ := t.lead h2; have hv : (w1.c L).view = V := by rw [e, t2]; exact (h3 _ h1).1
  have hl : (w1.c L).lead = true := by rw [e]; exact t1
  refine ⟨hj, hv, hl, ?_, ?_, fun r hu hne => ?_, fun r hu hne => ?_⟩
  · obtain ⟨_, _, _, hx⟩ := N.nx.run.wx1
    have := ((hx.wg.c L (by rw [N.nx.run.n1]; exact N.x.hup _ h1)).1.lead hl).2
    rw [this]; exact hv
  · obtain ⟨d, d1, d2, d3, d4, d5, d6, _⟩ := yz ⟨ws.c L, [], []⟩
    exact ⟨d, by rw [e, t4]; exact d1, d2, d3, d4, d5.trans hme, d6.trans hcn⟩
  · have := t5 r (by rw [hcn]; exact N.x.hup r hu) (by rw [hme]; exact hne)
    rw [<- e, hme, (h3 _ h1).1] at this; refine N.nx.run.ph.new N.lp L (N.x.hup _ h1) h1 _ ?_; exact this
  · obtain ⟨er, _⟩ := N.nx.run.tk N.x N.bd hu
    obtain ⟨hcr, hmr, hcnr⟩ := N.nx.run.cok N.x hu; have hvn : (ws.c r).view % (ws.c r).n ≠ (ws.c r).me := by rw [(h3 r hu).1, hcnr, hmr]; exact fun h => hne h.symm
    have hnl : (ws.c r).lead = false := by
      cases hl : (ws.c r).lead with
      | false => rfl
      | true => exact absurd (by have := (hcr.lead hl).1; rw [<- hcr.n] at this; exact this) hvn
    rw [er]; exact aq2 hnl (by have := (h3 r hu).2 hne; omega) (by rw [hcnr]; exact N.x.n2) hvn
theorem ari (N : NS up id row w0 k w ws g g1 g' w1 w') (hL : Led up V ws) (hin : hasId (ws.c (V % ws.n)).list id = true \/ hasId (ws.c (V % ws.n)).wait id = true) (hA : w0.ids.length <= 150) : ∃ Y, hasId Y id = true /\ F1 up V Y w' := by
  have hled := abb N hL; obtain ⟨hj, lv, ll, lla, ⟨d, d1, d2, d3, d4, d5, d6⟩, hmsg, hfol⟩ := xh N hL; obtain ⟨h1, h2, h3⟩ := hL; have hn' := N.nx.run.n'; have hn1 := N.nx.run.n1; unfold F1; rw [hn']; generalize hLL : V % ws.n = L at *; obtain ⟨k1, k2, _⟩ := rq d; have hLn : L < ws.n := N.x.hup _ h1; obtain ⟨q1, B1, I1, hx1⟩ := N.nx.run.wx1; obtain ⟨hc1, hm1⟩ := hx1.wg.c L (by rw [hn1]; exact hLn)
  have hlen : (w1.c L).list.length < 200 := by
    obtain ⟨g2, hx'⟩ := N.s.at_.wx; have := ((hc1.lok hx1.wg.gok).mono (N.nx.run.hr.le.S)); obtain ⟨_, _, _, hx2⟩ := N.nx.run.wx'; rw [hx2.wg.S] at this; have := aa8 this N.s.at_.ids; omega
  have hYe : (w1.c L).list = grown (ws.c L).list (ws.c L).wait := by rw [d1, k1, d2]
  have hid : hasId (w1.c L).list id = true := by
    rw [hYe] at hlen ⊢; rcases hin with h | h
    · exact xk _ _ h
    · exact uv _ _ hlen h
  refine ⟨(w1.c L).list, hid, hled, ?_⟩; generalize hYY : (w1.c L).list = Y at *; have hlj : LJ V Y (w1.c L) := ⟨lv, ll, hYY, by rw [d1, k2, d3], lla⟩
  have hl0 : HL up ⟨id, 0, row⟩ V L Y w1.l { w1 with l := [] } := ⟨hj, hlj, by show V % w1.n = L; rw [hn1]; exact hLL⟩
  have hend := N.nx.run.hr.inv (P := w1.l) (fun _ v => HL up ⟨id, 0, row⟩ V L Y w1.l v) (fun ga v m gb v1 hm hh a => (ng hid hm hh a).1) (fun m hm => hm) hl0
  refine ⟨hend.lj, fun r hu hne => ?_⟩
  have hrn := N.x.hup r hu; have hmr := hmsg r hu hne
  have hlay : (∃ h, (w1.c L).held r = some h /\ Y.length <= h) \/ (layM (w1.c L) r).kind = 4 /\ (layM (w1.c L) r).ents = Y := by
    unfold layM; dsimp only
    cases hh : (w1.c L).held r with
    | none => exact .inr ⟨rfl, hYY⟩
    | some h =>
      dsimp only; by_cases hl : h < (w1.c L).list.length
      · rw [if_pos hl]; exact .inr ⟨rfl, hYY⟩
      · exact .inl ⟨h, rfl, by rw [<- hYY]; omega⟩
  rcases hlay with ⟨h, hh1, hh2⟩ | ⟨hk4, hents⟩
  ·
    have hfj : FJ V Y (w1.c r) := by
      obtain ⟨_, l, l1, l2⟩ := hc1.held r h hh1; obtain ⟨hcr, hmer⟩ := hx1.wg.c r (by rw [hn1]; exact hrn)
      rw [lv] at l1; have hvr : (w1.c r).view = V := by rw [hfol r hu hne]; exact (h3 r hu).1
      have hla : (w1.c r).last = V := by
        have ha := hcr.last; rcases Nat.lt_or_ge (w1.c r).last V with hlt | hge
        · have := hcr.later V hlt
          rw [hmer, l1] at this; cases this
        · omega
      have hcur := hcr.cur; rw [hmer, hla, l1] at hcur; have hll := Option.some.inj hcur; obtain ⟨_, _, L', hL', hp, _⟩ := hx1.wg.gok.acc r (by rw [hx1.wg.n, hn1]; exact hrn) V l l1
      have hcurL := hc1.cur; rw [hm1, lla, hYY] at hcurL; rw [hx1.wg.n, hn1, hLL, hcurL] at hL'
      cases hL'
      have : l = Y := hp.eq_of_length (by have := hp.length_le; omega)
      exact ⟨hvr, hla, by rw [<- hll]; exact this⟩
    have key := N.nx.run.hr.inv (P := w1.l) (fun _ v => HL up ⟨id, 0, row⟩ V L Y w1.l v /\ v.n = ws.n /\ FJ V Y (v.c r) /\ ∃ h, (v.c L).held r = some h /\ Y.length <= h) (fun ga v m gb v1 hm hh ⟨a1, a2, a3, h, a4, a5⟩ => by
      obtain ⟨b1, b2, b3, _⟩ := ng hid hm hh a1; obtain ⟨h', c1, c2⟩ := b3 r h hne a4; exact ⟨b1, hh.tn.n.trans a2, (tt hm hh a1 (by rw [a2]; exact hLn) hne (by rw [a2]; exact hrn) a3).1, h', c1, by omega⟩) (fun m hm => hm) ⟨hl0, hn1, hfj, h, hh1, hh2⟩
    exact ⟨key.2.2.1, .inl key.2.2.2⟩
  ·
    have key := N.nx.run.hr.hit (P := w1.l) (m0 := { layM (w1.c L) r with from_ := (L : Int), view := V }) (fun _ v => HL up ⟨id, 0, row⟩ V L Y w1.l v /\ v.n = ws.n) (fun _ v => FJ V Y (v.c r) /\ (v.l.length < 4000 -> ∃ x ∈ v.l, x.kind = 5 /\ x.to = (L : Int) /\ x.from_ = (r : Int) /\ x.view = V /\ Y.length <= x.op))
      (fun ga v m gb v1 hm hh ⟨a1, a2⟩ => ⟨(ng hid hm hh a1).1, hh.tn.n.trans a2⟩)
      (fun ga v m gb v1 hm hh ⟨a1, a2⟩ ⟨b1, b2⟩ => ⟨(tt hm hh a1 (by rw [a2]; exact hLn) hne (by rw [a2]; exact hrn) b1).1, fun hl => by
        obtain ⟨x, x1, x2⟩ := b2 (Nat.lt_of_le_of_lt hh.sub.2 hl); exact ⟨x, hh.sub.1 x x1, x2⟩⟩)
      (fun ga v gb v1 hh ⟨a1, a2⟩ => by
        have hto : (layM (w1.c L) r).to = (r : Int) := vu _ _; have hfu : up (({ layM (w1.c L) r with from_ := (L : Int), view := V } : Mg).from_).toNat = true := h1
        obtain ⟨e2, ge, hmer, hcnr⟩ := td hh hto hu hfu; have el := aod hh hto hu hfu; obtain ⟨G, hcr, _, _, hgn, hg7⟩ := hh.cok (r := r) (by rw [a2]; exact hrn)
        have hodd := sf hcr hh.mok hg7 (by rw [hmer]; exact hto)
        have hacc := a1.acc hh (by rw [a2]; exact hLn)
        have hmx := a1.hj.mx r hu; have hlast := hcr.last; have hpre := hcr.comm.leader G (V := V) (by omega) hacc
        have hYlok := (G.acc (V % ga.n) (Nat.mod_lt _ G.pos) V Y hacc).2.1; have hrlok := hcr.lok G; have hvv := ge.view; rw [if_neg (by show ¬ (layM (w1.c L) r).kind = 1; omega)] at hvv
        replace hvv : ((v.c r).get _).c.view = max (v.c r).view V := hvv; have hn3 : V % (v.c r).n = L := by rw [hcnr]; exact a1.n
        obtain ⟨x1, x2, x, x3, x4, x5, x6, x7, x8⟩ := amd (m := { layM (w1.c L) r with from_ := (L : Int), view := V }) hodd hk4 hmx (by show (L : Int) = ((V % (v.c r).n : Nat) : Int); rw [hn3]) (by show V % (v.c r).n ≠ (v.c r).me; rw [hn3, hmer]; exact fun h => hne h.symm) (by
          show begins (layM (w1.c L) r).ents _ = true
          rw [hents]
          exact (tr hYlok.z (hrlok.z.take _)).2 hpre) (by rw [hcnr, <- hgn]; exact hg7) (fun hn => by
            show (v.c r).last = V /\ (v.c r).list = (layM (w1.c L) r).ents
            replace hn : ¬ ((v.c r).last < V \/ (v.c r).list.length < (layM (w1.c L) r).ents.length) := hn; rw [hents] at hn ⊢; have hla : (v.c r).last = V := by omega
            refine ⟨hla, ?_⟩; have hcur := hcr.cur; rw [hmer, hla] at hcur; obtain ⟨_, _, L', hL', hp, _⟩ := G.acc r (by rw [hgn, a2]; exact hrn) V _ hcur
            rw [hacc] at hL'; cases hL'; exact hp.eq_of_length (by have := hp.length_le; omega))
        rw [e2]; refine ⟨⟨by omega, x2, x1.trans hents⟩, fun hl => ⟨x, ?_, x4, x5, by rw [x6, hmer], x7, by rw [x8]; exact Nat.le_of_eq (congrArg List.length hents.symm)⟩⟩
        rw [el] at hl ⊢; exact (vc _ _).2.2 hl x x3) (fun m hm => hm) hmr ⟨hl0, hn1⟩
    exact ⟨key.1, .inr (key.2 N.lr)⟩
theorem agh (N : NS up id row w0 k w ws g g1 g' w1 w') {Y : List En} (hL : Led up V ws) (hlj : LJ V Y (ws.c (V % ws.n))) : LJ V Y (w1.c (V % ws.n)) /\ (∀ r, r ≠ V % ws.n -> (w1.c (V % ws.n)).held r = (ws.c (V % ws.n)).held r) := by
  obtain ⟨hj, lv, ll, lla, ⟨d, d1, d2, d3, d4, d5, d6⟩, hmsg, hfol⟩ := xh N hL; obtain ⟨k1, k2, _⟩ := rq d; have hg : grown (ws.c (V % ws.n)).list (ws.c (V % ws.n)).wait = Y := by rw [hlj.list, hlj.wait]; rfl
  exact ⟨⟨lv, ll, by rw [d1, k1, d2, hg], by rw [d1, k2, d3], lla⟩, fun r hne => by rw [d1, acg d r (by rw [d5]; exact hne), d4]⟩
theorem aph (N : NS up id row w0 k w ws g g1 g' w1 w') {Y : List En} (hid : hasId Y id = true) (h : F1 up V Y ws) : F2 up V Y w' := by
  obtain ⟨hL, hlj, hf⟩ := h; have hled := abb N hL; obtain ⟨hlj1, hheld⟩ := agh N hL hlj; obtain ⟨hj, lv, ll, lla, _, hmsg, hfol⟩ := xh N hL; obtain ⟨h1, h2, h3⟩ := hL; have hn1 := N.nx.run.n1; unfold F2; rw [N.nx.run.n']; generalize hLL : V % ws.n = L at *; have hLn : L < ws.n := N.x.hup _ h1; have hl0 : HL up ⟨id, 0, row⟩ V L Y w1.l { w1 with l := [] } := ⟨hj, hlj1, by show V % w1.n = L; rw [hn1]; exact hLL⟩
  have hend := N.nx.run.hr.inv (P := w1.l) (fun _ v => HL up ⟨id, 0, row⟩ V L Y w1.l v) (fun ga v m gb v1 hm hh a => (ng hid hm hh a).1) (fun m hm => hm) hl0
  refine ⟨hled, hend.lj, fun r hu hne => ?_⟩
  have hrn := N.x.hup r hu; obtain ⟨f1, f2⟩ := hf r hu hne; have hfj : FJ V Y (w1.c r) := by rw [hfol r hu hne]; exact ⟨f1.view, f1.last, f1.list⟩
  have keyf := N.nx.run.hr.inv (P := w1.l) (fun _ v => HL up ⟨id, 0, row⟩ V L Y w1.l v /\ v.n = ws.n /\ FJ V Y (v.c r)) (fun ga v m gb v1 hm hh ⟨a1, a2, a3⟩ => ⟨(ng hid hm hh a1).1, hh.tn.n.trans a2, (tt hm hh a1 (by rw [a2]; exact hLn) hne (by rw [a2]; exact hrn) a3).1⟩) (fun m hm => hm) ⟨hl0, hn1, hfj⟩
  refine ⟨keyf.2.2, ?_⟩; rcases f2 with ⟨h, a, b⟩ | ⟨x, hx, x1, x2, x3, x4, x5⟩
  · exact (N.nx.run.hr.inv (P := w1.l) (fun _ v => HL up ⟨id, 0, row⟩ V L Y w1.l v /\ ∃ h, (v.c L).held r = some h /\ Y.length <= h) (fun ga v m gb v1 hm hh ⟨a1, h, a4, a5⟩ => by
      obtain ⟨b1, b2, b3, _⟩ := ng hid hm hh a1; obtain ⟨h', c1, c2⟩ := b3 r h hne a4; exact ⟨b1, h', c1, by omega⟩) (fun m hm => hm) ⟨hl0, h, by show (w1.c L).held r = _; rw [hheld r hne]; exact a, b⟩).2
  · exact N.nx.run.hr.hit (P := w1.l) (m0 := x) (fun _ v => HL up ⟨id, 0, row⟩ V L Y w1.l v) (fun _ v => ∃ h, (v.c L).held r = some h /\ Y.length <= h) (fun ga v m gb v1 hm hh a => (ng hid hm hh a).1) (fun ga v m gb v1 hm hh a1 ⟨h, a4, a5⟩ => by
      obtain ⟨b1, b2, b3, _⟩ := ng hid hm hh a1; obtain ⟨h', c1, c2⟩ := b3 r h hne a4; exact ⟨h', c1, by omega⟩) (fun ga v gb v1 hh a => by
      have hxP := N.nx.run.ph.keep x hx; obtain ⟨h', c1, c2⟩ := (ng hid hxP hh a).2.2.2 x1 x4 x2 h1 r x3 hu; exact ⟨h', c1, by omega⟩) (fun m hm => hm) (N.nx.run.ph.keep x hx) hl0
theorem akk (N : NS up id row w0 k w ws g g1 g' w1 w') {Y : List En} (hid : hasId Y id = true) (h : F2 up V Y ws) : ∀ r, up r = true -> hasId ((w'.c r).list.take (w'.c r).agreed) id = true := by
  obtain ⟨hL, hlj, hf⟩ := h; obtain ⟨hlj1, hheld⟩ := agh N hL hlj; obtain ⟨hj, lv, ll, lla, ⟨d, d1, d2, d3, d4, d5, d6⟩, hmsg, hfol⟩ := xh N hL; obtain ⟨h1, h2, h3⟩ := hL; have hn1 := N.nx.run.n1; generalize hLL : V % ws.n = L at *; have hLn : L < ws.n := N.x.hup _ h1; have hl0 : HL up ⟨id, 0, row⟩ V L Y w1.l { w1 with l := [] } := ⟨hj, hlj1, by show V % w1.n = L; rw [hn1]; exact hLL⟩
  have hdl : d.list = Y := by have := hlj1.list; rw [d1, (rq d).1] at this; exact this
  have hag : Y.length <= (w1.c L).agreed := by
    have := afv d up (by rw [d6]; exact Nat.le_of_eq N.x.q.symm) (fun r hr hu hne => by
      obtain ⟨_, h, a, b⟩ := hf r hu (by rw [d5] at hne; exact hne)
      exact ⟨h, by rw [d4]; exact a, by rw [hdl]; exact b⟩)
    rw [d1, <- hdl]; exact this
  have htake : ∀ c : Co, c.list = Y -> Y.length <= c.agreed -> hasId (c.list.take c.agreed) id = true := fun c e1 e2 => by rw [e1, List.take_of_length_le e2]; exact hid
  have hLend := N.nx.run.hr.inv (P := w1.l) (fun _ v => HL up ⟨id, 0, row⟩ V L Y w1.l v /\ Y.length <= (v.c L).agreed) (fun ga v m gb v1 hm hh ⟨a, b⟩ => by
    obtain ⟨b1, b2, _⟩ := ng hid hm hh a; exact ⟨b1, by omega⟩) (fun m hm => hm) ⟨hl0, hag⟩
  intro r hu; by_cases hne : r = L
  · subst hne; exact htake _ hLend.1.lj.list hLend.2
  · have hrn := N.x.hup r hu
    obtain ⟨f1, h, f2, f3⟩ := hf r hu hne; have hfj : FJ V Y (w1.c r) := by rw [hfol r hu hne]; exact ⟨f1.view, f1.last, f1.list⟩
    have hlm : (layM (w1.c L) r).kind = 6 /\ (layM (w1.c L) r).commit = (w1.c L).agreed := by
      unfold layM; dsimp only; rw [hheld r hne, f2]; dsimp only; rw [if_neg (by rw [hlj1.list]; omega)]
      exact ⟨rfl, rfl⟩
    have key := N.nx.run.hr.hit (P := w1.l) (m0 := { layM (w1.c L) r with from_ := (L : Int), view := V }) (fun _ v => HL up ⟨id, 0, row⟩ V L Y w1.l v /\ v.n = ws.n /\ FJ V Y (v.c r)) (fun _ v => Y.length <= (v.c r).agreed)
      (fun ga v m gb v1 hm hh ⟨a1, a2, a3⟩ => ⟨(ng hid hm hh a1).1, hh.tn.n.trans a2, (tt hm hh a1 (by rw [a2]; exact hLn) hne (by rw [a2]; exact hrn) a3).1⟩)
      (fun ga v m gb v1 hm hh ⟨a1, a2, a3⟩ b => Nat.le_trans b (tt hm hh a1 (by rw [a2]; exact hLn) hne (by rw [a2]; exact hrn) a3).2)
      (fun ga v gb v1 hh ⟨a1, a2, a3⟩ => by
        have hto : (layM (w1.c L) r).to = (r : Int) := vu _ _; have hfu : up (({ layM (w1.c L) r with from_ := (L : Int), view := V } : Mg).from_).toNat = true := h1
        obtain ⟨e2, ge, hmer, hcnr⟩ := td hh hto hu hfu; obtain ⟨G, hcr, _, _, hgn, hg7⟩ := hh.cok (r := r) (by rw [a2]; exact hrn)
        have hodd := sf hcr hh.mok hg7 (by rw [hmer]; exact hto)
        have hn3 : V % (v.c r).n = L := by rw [hcnr]; exact a1.n
        have := aps (m := { layM (w1.c L) r with from_ := (L : Int), view := V }) hodd hlm.1 a3.view (by show (L : Int) = ((V % (v.c r).n : Nat) : Int); rw [hn3]) a3.last (by show _ <= (layM (w1.c L) r).commit; rw [hlm.2, a3.list]; exact hag)
        rw [a3.list] at this; rw [e2]; exact this) (fun m hm => hm) (hmsg r hu hne) ⟨hl0, hn1, hfj⟩
    have keyf := N.nx.run.hr.inv (P := w1.l) (fun _ v => HL up ⟨id, 0, row⟩ V L Y w1.l v /\ v.n = ws.n /\ FJ V Y (v.c r)) (fun ga v m gb v1 hm hh ⟨a1, a2, a3⟩ => ⟨(ng hid hm hh a1).1, hh.tn.n.trans a2, (tt hm hh a1 (by rw [a2]; exact hLn) hne (by rw [a2]; exact hrn) a3).1⟩) (fun m hm => hm) ⟨hl0, hn1, hfj⟩
    exact htake _ keyf.2.2.list key
theorem aq5 (X : Cx up w0.n) (hok : ∀ r : Nat, r < 100 -> Act.Ok ⟨0, (r : Int), 0, id, row⟩) (hm : may ⟨id, 0, row⟩ = true) (hA : w0.ids.length <= 150) (h : S up id row w0 3 w) : ∃ k w', k <= 250 /\ 1 <= k /\ AtK up id row w0 k w' /\ ∀ r, up r = true -> hasId ((w'.c r).list.take (w'.c r).agreed) id = true := by
  obtain ⟨k, w2, V, k1, k2, s2, l2⟩ := apv X hok h; obtain ⟨ws, g, g1, g', w1, w3, N⟩ := pq X hok s2 (by omega)
  have hXw : Cx up w2.n := by rw [s2.at_.n]; exact X
  have hls := N.nx.led hXw l2
  have hin : hasId (ws.c (V % ws.n)).list id = true \/ hasId (ws.c (V % ws.n)).wait id = true := by
    rcases N.nx.sub with ⟨e, _⟩ | ⟨_, sb⟩
    · exact absurd k2 e
    · obtain ⟨a, b, c⟩ := l2
      rw [N.nx.n, <- s2.at_.n]; obtain ⟨gg, hx⟩ := s2.at_.wx; obtain ⟨hc, hme⟩ := hx.wg.c _ (hXw.hup _ a); have hcn := hc.n.trans hx.wg.n; have := am4 (row := row) (c := w2.c (V % w2.n)) (id := id) (by rw [hcn]; exact hXw.n2) b hm
      rw [<- sb.at hXw.hup a] at this; rcases this with h | h | h
      · exact .inl h
      · exact .inr h
      · exfalso
        obtain ⟨_, _, _, hxs⟩ := N.nx.wx; obtain ⟨hcs, _⟩ := hxs.wg.c (V % w2.n) (by rw [N.nx.n, <- s2.at_.n]; exact hXw.hup _ a)
        have h5 := hcs.lok hxs.wg.gok; rw [hxs.wg.S] at h5; have := aa8 h5 N.nx.ids; omega
  obtain ⟨Y, hid, f1⟩ := ari N hls hin hA; obtain ⟨ws2, ga, gb, gc, w4, w5, N2⟩ := pq X hok N.s (by omega)
  have e2 : ws2 = w3 := by
    rcases N2.nx.sub with ⟨_, e⟩ | ⟨e, _⟩
    · exact e
    · omega
  have f2 := aph N2 hid (by rw [e2]; exact f1)
  obtain ⟨ws3, gd, ge, gf, w6, w7, N3⟩ := pq X hok N2.s (by omega)
  have e3 : ws3 = w5 := by
    rcases N3.nx.sub with ⟨_, e⟩ | ⟨e, _⟩
    · exact e
    · omega
  exact ⟨k + 1 + 1 + 1, w7, by omega, by omega, N3.s.at_, akk N3 hid (by rw [e3]; exact f2)⟩
end
end Ag
end Go.Proofs.Ytbciofnejefkiaa
namespace Go.Proofs.Ytbciofnejefkiaa
namespace Ag
theorem ahl : ∀ (l : List Rd) (c d : Co), (∀ x ∈ l, x.kind ≠ 4) -> c.replay l = some d -> c.view <= d.view
  | [], c, d, _, h => by obtain rfl := Option.some.inj h; exact Nat.le_refl _
  | x :: l, c, d, hx, h => by
    have hk := hx x List.mem_cons_self; unfold Co.replay at h; split at h
    · cases ha : c.apply x with
      | none => rw [ha] at h; cases h
      | some e =>
        rw [ha, Option.bind_some] at h; have ih := ahl l e d (fun y hy => hx y (List.mem_cons_of_mem _ hy)) h
        have : c.view <= e.view := by
          unfold Co.apply at ha; split at ha
          · split at ha
            · cases ha
            · next h2 => obtain rfl := Option.some.inj ha; show c.view <= x.view; omega
          split at ha
          · split at ha
            · cases ha
            · next h2 => obtain rfl := Option.some.inj ha; show c.view <= x.view; omega
          split at ha
          · split at ha
            · obtain rfl := Option.some.inj ha; exact Nat.le_refl _
            · cases ha
          first
            | cases ha
            | (rw [if_neg hk] at ha; cases ha)
        omega
    · cases h
theorem afg {me n : Nat} {l : List Rd} {d : Co} (h : open_ me n l = some d) : ∃ c, (Co.new me n).replay l = some c /\ d.view = c.view := by
  unfold open_ at h
  cases hr : (Co.new me n).replay l with
  | none => rw [hr] at h; cases h
  | some c =>
    rw [hr, Option.map_some] at h; obtain rfl := Option.some.inj h; refine ⟨c, rfl, ?_⟩; split <;> rfl
structure PA (k : Nat) (p : Nat) (w : W) : Prop where
  c : ∀ r, r < w.n -> k * (w.c r).view + (if k = 1 then 0 else (w.c r).quiet) <= p
  l : ∀ m ∈ w.l, k * m.view <= p
theorem aaa {k p p' q B I r : Nat} {g g' : Gh} {w w' : W} {s : St} (h : WX g w q B I) (hr : r < w.n) (hp : PA k p w) (hpp : p <= p') (hs : SOK g r (base (w.c r)) g' s) (hsv : RS' s) (hk4 : ∀ x ∈ s.save, x.kind ≠ 4) (hc : k * s.c.view + (if k = 1 then 0 else s.c.quiet) <= p') (hx : ∀ x ∈ s.send, k * x.view <= p') (e : w.step r s = some w') : PA k p' w' := by
  rcases ql e with ⟨_, b, e2⟩ | ⟨j, d, b, hk2, ho, e2⟩
  · subst e2
    refine ⟨fun x hx2 => ?_, fun m hm => ?_⟩
    · show k * (upd w.c r s.c x).view + (if k = 1 then 0 else (upd w.c r s.c x).quiet) <= p'
      by_cases ex : x = r
      · rw [ex, upd_same]; exact hc
      · rw [upd_other _ _ ex]; exact Nat.le_trans (hp.c x hx2) hpp
    · rcases tw hm with hm | hm
      · exact Nat.le_trans (hp.l m hm) hpp
      · exact hx m hm
  · have hq : d.quiet = 0 := (tj hr h.wg.n7 (l := w.saved r ++ s.save.take j) (fun x hx => by
      rcases List.mem_append.1 hx with hx | hx
      · exact h.sv r hr x hx
      · exact hsv x (List.mem_of_mem_take hx)) ho).2.2.2
    have hv : d.view <= s.c.view := by
      obtain ⟨c, h1, h2⟩ := afg ho; rw [s0, h.wg.disk r hr, Option.bind_some] at h1; have h3 := hs.disk; rw [<- List.take_append_drop j s.save, s0, h1, Option.bind_some] at h3; have := ahl _ _ _ (fun x hx => hk4 x (List.mem_of_mem_drop hx)) h3
      rw [h2]; exact this
    subst e2; refine ⟨fun x hx2 => ?_, fun m hm => Nat.le_trans (hp.l m hm) hpp⟩
    show k * (upd w.c r d x).view + (if k = 1 then 0 else (upd w.c r d x).quiet) <= p'
    by_cases ex : x = r
    · rw [ex, upd_same, hq]
      have := Nat.mul_le_mul_left k hv; split at hc <;> split <;> omega
    · rw [upd_other _ _ ex]; exact Nat.le_trans (hp.c x hx2) hpp
theorem PA.more {k p p' : Nat} {w : W} (h : PA k p w) (hp : p <= p') : PA k p' w := ⟨fun r hr => Nat.le_trans (h.c r hr) hp, fun m hm => Nat.le_trans (h.l m hm) hp⟩
structure Bg (c : Co) (s : St) : Prop where
  view : s.c.view = c.view + 1
  me : s.c.me = c.me
  n : s.c.n = c.n
  quiet : s.c.quiet = 0
  save : ∀ x ∈ s.save, x.kind ≠ 4
  send : ∀ x ∈ s.send, x.view = c.view + 1
  one : c.n = 1 -> c.me = 0 -> s.c.lead = true
theorem ab3 (c : Co) (h7 : c.n <= 7) (hv : c.view < mostView) : Bg c (St.begin ⟨c, [], []⟩) := by
  unfold St.begin; rw [if_pos hv]; obtain ⟨o1, o2, _, _, _, o6⟩ := ze (fun to => ({ msg0 2 0 with to := (to : Int) } : Mg)) (({ c with view := c.view + 1 } : Co).follow) (List.range c.n) ⟨({ c with view := c.view + 1 } : Co).follow, [⟨1, c.view + 1, 0, 0, []⟩], []⟩ rfl
  have eT : St.tell (St.promise ⟨c, [], []⟩ (c.view + 1)) (msg0 2 0) = (List.range c.n).foldl (fun (s : St) (to : Nat) => s.out ({ msg0 2 0 with to := (to : Int) } : Mg)) ⟨({ c with view := c.view + 1 } : Co).follow, [⟨1, c.view + 1, 0, 0, []⟩], []⟩ := rfl
  show Bg c (St.vote (St.tell (St.promise ⟨c, [], []⟩ (c.view + 1)) (msg0 2 0)))
  rw [<- eT] at o1 o2 o6; generalize St.tell (St.promise ⟨c, [], []⟩ (c.view + 1)) (msg0 2 0) = T at *; obtain ⟨a, b, _⟩ := u0 T (by rw [o1]; exact h7)
  obtain ⟨l, l1, _, _, l4⟩ := a.send; obtain ⟨sv, sv1, sv2⟩ := a.save; have hTv : T.c.view = c.view + 1 := by rw [o1]; rfl
  have hTm : T.c.me = c.me := by rw [o1]; rfl
  have hTn : T.c.n = c.n := by rw [o1]; rfl
  refine ⟨by rw [a.view, hTv], by rw [a.me, hTm], by rw [a.n, hTn], by rw [a.quiet, o1]; rfl, fun x hx => ?_, fun x hx => ?_, fun hn hm => ?_⟩
  · rw [sv1, o2] at hx
    rcases List.mem_append.1 hx with hx | hx
    · rw [List.mem_singleton.1 hx]; exact (by decide : (1 : Nat) ≠ 4)
    · exact sv2 x hx
  · rw [l1] at hx
    rcases List.mem_append.1 hx with hx | hx
    · rcases o6 x hx with h | ⟨to, _, e⟩
      · cases h
      · rw [e]; rfl
    · rw [(l4 x hx).2.1, hTv]
  · obtain ⟨nf, hg⟩ := b (by rw [hTn, hn, hTm, hm]; omega)
    have hme : T.vote.c.me = 0 := by rw [a.me, hTm, hm]
    have hnn : T.vote.c.n = 1 := by rw [a.n, hTn, hn]
    rcases hg with hg | hg
    · exact hg
    rw [hTm, hm] at hg; rcases nf with h | h | h
    · exact h
    · rw [hme] at h; rw [h] at hg; cases hg
    · exfalso
      unfold Co.size Co.quorum at h; rw [hnn] at h; simp [List.range_succ, hg] at h
structure Vw (k p : Nat) (s : St) : Prop where
  c : k * s.c.view + (if k = 1 then 0 else s.c.quiet) <= p
  save : ∀ x ∈ s.save, x.kind ≠ 4
  send : ∀ x ∈ s.send, k * x.view <= p
theorem Vw.kp {a b p : Nat} {s t : St} (h : Kp a b s t) (v : Vw 1 p s) : Vw 1 p t := by
  obtain ⟨l, l1, _, _, l4⟩ := h.send; obtain ⟨sv, sv1, sv2⟩ := h.save; have hv := v.c; simp only [if_true, Nat.add_zero] at hv; refine ⟨by simp only [if_true, Nat.add_zero]; rw [h.view]; exact hv, fun x hx => ?_, fun x hx => ?_⟩
  · rw [sv1] at hx
    rcases List.mem_append.1 hx with hx | hx
    · exact v.save x hx
    · exact sv2 x hx
  · rw [l1] at hx
    rcases List.mem_append.1 hx with hx | hx
    · exact v.send x hx
    · rw [(l4 x hx).2.1]; exact hv
theorem Bg.vw {c : Co} {s : St} {p : Nat} (h : Bg c s) (hc : c.view <= p) : Vw 1 (p + 1) s :=
  ⟨by simp only [if_true, Nat.add_zero]; rw [h.view]; omega, h.save, fun x hx => by rw [h.send x hx]; omega⟩
theorem akq {c : Co} {id : Nat} {row : List Int} (h7 : c.n <= 7) {k p : Nat} (hk : k = if c.n = 1 then 1 else 12) (hc : k * c.view + (if k = 1 then 0 else c.quiet) <= p) (hv : c.view < mostView) : Vw k (p + 1) (c.submit id row) := by
  by_cases hn : c.n = 1
  · rw [if_pos hn] at hk
    subst hk; simp only [if_true, Nat.one_mul, Nat.add_zero] at hc; unfold Co.submit; dsimp only
    have hb : ∃ s : St, (if c.n = 1 /\ c.lead = false then St.begin ⟨c, [], []⟩ else ⟨c, [], []⟩) = s /\ Vw 1 (p + 1) s /\ s.c.n = c.n := by
      refine ⟨_, rfl, ?_⟩; split
      · have := ab3 c h7 hv; exact ⟨this.vw hc, this.n⟩
      · exact ⟨⟨by simp only [if_true, Nat.add_zero]; show 1 * c.view <= _; omega, fun x hx => (by cases hx), fun x hx => (by cases hx)⟩, rfl⟩
    obtain ⟨s, hs, s1, s2⟩ := hb; rw [hs]
    have hw : ∃ d : Co, (s.c.wanted ⟨id, 0, row⟩).1 = d /\ Kp 0 0 s { s with c := d } /\ ((s.c.wanted ⟨id, 0, row⟩).2 = true -> d.lead = true) := by
      refine ⟨_, rfl, ?_⟩; unfold Co.wanted; split
      · exact ⟨Kp.mem rfl rfl rfl rfl rfl rfl, fun h => (by cases h)⟩
      · exact ⟨Kp.mem rfl rfl rfl rfl rfl rfl, fun h => h⟩
    obtain ⟨d, d1, d2, d3⟩ := hw; have vd := Vw.kp d2 s1; rw [d1]; split
    · next hx => exact Vw.kp (qx { s with c := d } (d3 hx) (by rw [d2.n, s2]; exact h7)) vd
    · split
      · unfold St.out
        split
        · exact vd
        · refine ⟨vd.c, vd.save, fun x hx => ?_⟩
          rcases List.mem_append.1 hx with hx | hx
          · exact vd.send x hx
          · rw [List.mem_singleton.1 hx]
            have := vd.c; simp only [if_true, Nat.add_zero] at this; exact this
      · exact vd
  · rw [if_neg hn] at hk
    subst hk; have t := ain c id row h7 hn; refine ⟨by rw [t.view, t.quiet]; omega, t.save, fun x hx => ?_⟩
    rw [(t.send x hx).2.1]; split at hc <;> omega
theorem als {c : Co} (h7 : c.n <= 7) (hme : c.me < c.n) {k p : Nat} (hk : k = if c.n = 1 then 1 else 12) (hc : k * c.view + (if k = 1 then 0 else c.quiet) <= p) (hv : c.view < mostView) : Vw k (p + 1) c.tick := by
  by_cases hn : c.n = 1
  · rw [if_pos hn] at hk
    subst hk; simp only [if_true, Nat.one_mul, Nat.add_zero] at hc; have h0 : ∀ q, Vw 1 (p + 1) ⟨{ c with quiet := q }, [], []⟩ := fun q => ⟨by simp only [if_true, Nat.add_zero]; show 1 * c.view <= _; omega, fun x hx => (by cases hx), fun x hx => (by cases hx)⟩
    unfold Co.tick; dsimp only; split
    · next hl => exact Vw.kp (qx ⟨c, [], []⟩ hl h7) (h0 c.quiet)
    · rw [if_pos (.inr hn)]
      exact (ab3 { c with quiet := c.quiet + 1 } h7 hv).vw hc
  · rw [if_neg hn] at hk
    subst hk; have t := ae9 c h7 hn hme hv; have hp := t.pot; have e12 : ¬ (12 : Nat) = 1 := by omega
    rw [if_neg e12] at hc; refine ⟨by rw [if_neg e12]; omega, t.save, fun x hx => ?_⟩
    rw [(t.send x hx).2.1]; omega
theorem akv {c : Co} {m : Mg} (h7 : c.n <= 7) (ho : ¬ c.odd m) {k p : Nat} (hk : k = if c.n = 1 then 1 else 12) (hc : k * c.view + (if k = 1 then 0 else c.quiet) <= p) (hm : k * m.view <= p) : Vw k (p + 1) (c.get m) := by
  have ge := ah7 c m h7 ho; have hv := ge.view
  have hkk : k * (c.get m).c.view + (if k = 1 then 0 else (c.get m).c.quiet) <= p := by
    have e : (c.get m).c.view = c.view \/ (c.get m).c.view = m.view /\ c.view < m.view := by split at hv <;> omega
    rcases e with e | ⟨e, h⟩
    · rw [e]
      rcases ge.quiet with h3 | ⟨h3, _⟩
      · rw [h3]; exact hc
      · rw [h3]; split at hc <;> split <;> omega
    · rw [e, ge.jq (by omega)]; split <;> omega
  refine ⟨Nat.le_trans hkk (by omega), ge.save, fun x hx => ?_⟩
  rw [(ge.send x hx).2.1]; split at hkk <;> omega
theorem act_pa {k p q B I : Nat} {g : Gh} {w w' : W} {a : Act} (hk : k = if w.n = 1 then 1 else 12) (h : WX g w q B I) (hq : q < 1000000) (hp : PA k p w) (hpp : p <= 1000) (ok : a.Ok) (e : w.act a = some w') : PA k (p + 1) w' := by
  have h0 : PA k (p + 1) w := hp.more (by omega)
  have hv : ∀ r, r < w.n -> (w.c r).view < mostView := fun r hr => by
    have := hp.c r hr; unfold mostView; split at hk <;> (subst hk; split at this <;> omega)
  have hcn : ∀ r, r < w.n -> COK g (w.c r) /\ (w.c r).me = r /\ (w.c r).n = w.n := fun r hr => let ⟨x, y⟩ := h.wg.c r hr; ⟨x, y, x.n.trans h.wg.n⟩
  have h7 := h.wg.n7; unfold W.act at e; split at e
  · split at e
    · next ht =>
      have hr : a.r.toNat < w.n := by have h1 := ht.1; have h2 := ht.2; omega
      obtain ⟨hc, hm, hn⟩ := hcn _ hr; obtain ⟨g1, g', x1, x2⟩ := h.submit ok hr; obtain ⟨s1, s2, s3, s4⟩ := aco w a; have vw := akq (c := w.c a.r.toNat) (id := a.id) (row := a.row) (by rw [hn]; exact h7) (by rw [hn]; exact hk) (hp.c _ hr) (hv _ hr)
      have hen : (⟨a.id, 0, a.row⟩ : En).Ok := ⟨ok.id, by simp, ok.row⟩
      have y2 := (vk (h.cf (by have := h.quiet _ hr; omega) hr) hen).2
      exact aaa (w := wIn w a) x1 (by rw [s4]; exact hr) ⟨by rw [s4, s1]; exact hp.c, by rw [s2]; exact hp.l⟩ (by omega) x2 y2 vw.save vw.c vw.send e
    · obtain rfl := Option.some.inj e; exact h0
  split at e
  · split at e
    · next ht =>
      have hr : a.r.toNat < w.n := by have h1 := ht.1; have h2 := ht.2; omega
      obtain ⟨hc, hm, hn⟩ := hcn _ hr; obtain ⟨g', _, x2⟩ := tick_ok h.wg.gok hc; rw [hm] at x2; have hqr := h.quiet _ hr; have vw := als (c := w.c a.r.toNat) (by rw [hn]; exact h7) (by rw [hn, hm]; exact hr) (by rw [hn]; exact hk) (hp.c _ hr) (hv _ hr)
      have y2 := (vg (h.cf (by omega) hr) (by omega)).2
      exact aaa h hr hp (by omega) x2 y2 vw.save vw.c vw.send e
    · obtain rfl := Option.some.inj e; exact h0
  split at e
  · cases hm : (if w.packet a then w.l[a.k.toNat]? else none) with
    | none => rw [hm] at e; obtain rfl := Option.some.inj e; exact h0
    | some m =>
      rw [hm] at e
      have hmem : m ∈ w.l := by
        split at hm
        · exact List.mem_of_getElem? hm
        · cases hm
      have hM := h.wg.l m hmem; have hr : m.to.toNat < w.n := by have := hM.to; have := h.wg.n; omega
      obtain ⟨hc, hme, hn⟩ := hcn _ hr; obtain ⟨g', _, x2⟩ := get_ok h.wg.gok hc hM; rw [hme] at x2; have hodd := sf hc hM (by rw [h.wg.n]; exact h7) (by rw [hme]; have := hM.to; omega)
      have vw := akv (c := w.c m.to.toNat) (by rw [hn]; exact h7) hodd (by rw [hn]; exact hk) (hp.c _ hr) (hp.l m hmem)
      have y2 := (vl (h.cf (by omega) hr) (hM.okm (by rw [h.wg.n]; exact h7))).2
      exact aaa (w := w.out a.k.toNat) (h.out _) hr ⟨hp.c, fun x hx => by
        rcases List.mem_append.1 hx with hx | hx
        · exact hp.l x (List.mem_of_mem_take hx)
        · exact hp.l x (List.mem_of_mem_drop hx)⟩ (by omega) x2 y2 vw.save vw.c vw.send e
  split at e
  · split at e
    · obtain rfl := Option.some.inj e
      exact ⟨h0.c, fun x hx => by
        rcases List.mem_append.1 hx with hx | hx
        · exact h0.l x (List.mem_of_mem_take hx)
        · exact h0.l x (List.mem_of_mem_drop hx)⟩
    · obtain rfl := Option.some.inj e; exact h0
  split at e
  · cases hm : (if w.packet a then w.l[a.k.toNat]? else none) with
    | none => rw [hm] at e; obtain rfl := Option.some.inj e; exact h0
    | some m =>
      rw [hm] at e
      have hmem : m ∈ w.l := by
        split at hm
        · exact List.mem_of_getElem? hm
        · cases hm
      obtain rfl := Option.some.inj e; split
      · refine ⟨h0.c, fun x hx => ?_⟩
        rcases List.mem_append.1 hx with hx | hx
        · exact h0.l x hx
        · rw [List.mem_singleton.1 hx]; exact h0.l m hmem
      · exact h0
  split at e
  · split at e
    · next ht =>
      have hr : a.r.toNat < w.n := by have h1 := ht.1; have h2 := ht.2; omega
      cases ho : w.opened a.r.toNat with
      | none => rw [ho] at e; cases e
      | some w2 =>
        rw [ho, Option.bind_some] at e; obtain ⟨d, h1, h2⟩ := te ho; obtain ⟨b, _, h4⟩ := ra e; obtain ⟨c, h5, h6⟩ := afg h1; rw [h.wg.disk _ hr] at h5; have hvd : d.view = (w.c a.r.toNat).view := by rw [h6, <- Option.some.inj h5]; rfl
        have hqd := (tj hr h7 (h.sv _ hr) h1).2.2.2; rw [h4, h2]; refine ⟨fun x hx => ?_, h0.l⟩
        show k * (upd w.c a.r.toNat d x).view + (if k = 1 then 0 else (upd w.c a.r.toNat d x).quiet) <= p + 1
        by_cases ex : x = a.r.toNat
        · rw [ex, upd_same, hvd, hqd]
          have := h0.c _ hr; split at this <;> split <;> omega
        · rw [upd_other _ _ ex]; exact h0.c x hx
    · obtain rfl := Option.some.inj e; exact h0
  split at e
  · obtain rfl := Option.some.inj e
    split
    · exact ⟨h0.c, h0.l⟩
    · exact h0
  · obtain rfl := Option.some.inj e; exact h0
theorem begun_pa {n : Nat} (k : Nat) : PA k 0 (W.begun n) := ⟨fun r hr => by show k * 0 + (if k = 1 then 0 else 0) <= 0; split <;> omega, fun m hm => by cases hm⟩
end Ag
end Go.Proofs.Ytbciofnejefkiaa
namespace Go.Proofs.Ytbciofnejefkiaa
namespace Ag
section
variable {up : Nat -> Bool} {id : Nat} {row : List Int} {w0 w : W} {k : Nat}
theorem step_any (hok : ∀ r : Nat, r < 100 -> Act.Ok ⟨0, (r : Int), 0, id, row⟩) (h : AtK up id row w0 k w) (hk : k <= 5000) : ∃ w', AtK up id row w0 (k + 1) w' := by
  obtain ⟨go, ⟨g, wx⟩, cut, hn, ids⟩ := h; have h7 := wx.wg.n7; by_cases h50 : k % 50 = 0
  · obtain ⟨ws, gs, e, x, c, n, i⟩ := subs_of (up := up) hok (List.range w.n) wx cut (by omega) (fun r hr => List.mem_range.1 hr)
    rw [List.length_range] at x; have x2 : WX gs ws (120 + 7 * k) (24000 + 802800 * k + 1400) (120 + 7 * k + 7) := x.more (Nat.le_refl _) (by omega) (by omega)
    obtain ⟨w1, g1, w', g', R, e2, x3, c3, i3⟩ := uw (up := up) x2 c (by omega)
    refine ⟨w', ⟨?_, ⟨g', x3.more (by omega) (by omega) (by omega)⟩, c3, R.n'.trans (n.trans hn), fun y hy => ?_⟩⟩
    · show (W.lives up id row w0 k).bind (W.live up id row k) = some w'
      rw [go, Option.bind_some]; unfold W.live; rw [if_pos h50, e, Option.bind_some]; exact e2
    · rw [i3] at hy
      rcases i y hy with h | h
      · exact ids y h
      · exact .inr h
  · obtain ⟨w1, g1, w', g', R, e2, x3, c3, i3⟩ := uw (up := up) wx cut (by omega)
    refine ⟨w', ⟨?_, ⟨g', x3.more (by omega) (by omega) (by omega)⟩, c3, R.n'.trans hn, fun y hy => ids y (by rw [<- i3]; exact hy)⟩⟩
    show (W.lives up id row w0 k).bind (W.live up id row k) = some w'
    rw [go, Option.bind_some]; unfold W.live; rw [if_neg h50, Option.bind_some]; exact e2
theorem at_0 {g : Gh} (h : WX g w0 120 24000 120) (hk : ∀ p, w0.cut p = none) : AtK up id row w0 0 w0 := ⟨rfl, ⟨g, h.more (by omega) (by omega) (by omega)⟩, hk, rfl, fun x hx => .inl hx⟩
theorem aok {g : Gh} (X : Cx up w0.n) (hok : ∀ r : Nat, r < 100 -> Act.Ok ⟨0, (r : Int), 0, id, row⟩) (h : WX g w0 120 24000 120) (hk : ∀ p, w0.cut p = none) (hp : PA 12 120 w0) : ∃ w, S up id row w0 3 w := by
  obtain ⟨ws, ga, gb, gc, w1, w2, N, A⟩ := xw X hok (at_0 h hk) (by omega)
  have hXs : Cx up ws.n := by rw [N.n]; exact X
  have hs : (∀ r, up r = true -> 12 * (ws.c r).view + (ws.c r).quiet <= 120) /\ ∀ m ∈ ws.l, 12 * m.view <= 120 := by
    have h12 : ¬ (12 : Nat) = 1 := by omega
    rcases N.sub with ⟨e, _⟩ | ⟨_, sb⟩
    · omega
    · refine ⟨fun r hu => ?_, fun m hm => ?_⟩
      · have := hp.c r (X.hup r hu)
        rw [if_neg h12] at this; rw [sb.at X.hup hu, (sb.sb r hu).1.view, (sb.sb r hu).1.quiet]; exact this
      · rcases sb.ph.mem m hm with hm | ⟨r, hr, hu, hm⟩
        · exact hp.l m hm
        · have := hp.c r (X.hup r hu)
          rw [if_neg h12] at this; rw [((sb.sb r hu).1.send m hm).2.1]; omega
  have r1 := N.run.ri0 (e0 := ⟨id, 0, row⟩) hXs hs.1 hs.2 (by omega)
  obtain ⟨ws2, ga2, gb2, gc2, w3, w4, N2, A2⟩ := xw X hok A (by omega)
  have e2 : ws2 = w2 := by
    rcases N2.sub with ⟨_, e⟩ | ⟨e, _⟩
    · exact e
    · omega
  subst e2; obtain ⟨r2, _⟩ := N2.run.ri (by rw [N2.n]; exact X) r1 (by omega)
  obtain ⟨ws3, ga3, gb3, gc3, w5, w6, N3, A3⟩ := xw X hok A2 (by omega)
  have e3 : ws3 = w4 := by
    rcases N3.sub with ⟨_, e⟩ | ⟨e, _⟩
    · exact e
    · omega
  subst e3; obtain ⟨r3, _⟩ := N3.run.ri (by rw [N3.n]; exact X) r2 (by omega)
  exact ⟨w6, A3, ⟨r3.pot, r3.pl, Nat.le_trans r3.len (by omega), Nat.le_trans r3.n46 (by omega), r3.n1⟩⟩
theorem anz {g : Gh} (hn : w0.n = 1) (hu0 : up 0 = true) (hok : ∀ r : Nat, r < 100 -> Act.Ok ⟨0, (r : Int), 0, id, row⟩) (hm : may ⟨id, 0, row⟩ = true) (hA : w0.ids.length <= 150) (h : WX g w0 120 24000 120) (hk : ∀ p, w0.cut p = none) (hp : PA 1 120 w0) :
    ∃ w', AtK up id row w0 1 w' /\ hasId ((w'.c 0).list.take (w'.c 0).agreed) id = true := by
  obtain ⟨ws, gs, e, x, c, n, i⟩ := subs_of (up := up) hok (List.range w0.n) h hk (by omega) (fun r hr => List.mem_range.1 hr)
  have hph := ae4 hk e; rw [List.length_range] at x; have x2 : WX gs ws 120 25400 127 := x.more (by omega) (by omega) (by omega)
  obtain ⟨w1, g1, w', g', R, e2, x3, c3, i3⟩ := uw (up := up) x2 c (by omega)
  have hat : AtK up id row w0 1 w' := by
    refine ⟨?_, ⟨g', x3.more (by omega) (by omega) (by omega)⟩, c3, R.n'.trans n, fun y hy => ?_⟩
    · show (W.lives up id row w0 0).bind (W.live up id row 0) = some w'
      show (some w0).bind (W.live up id row 0) = some w'
      rw [Option.bind_some]; unfold W.live; rw [if_pos (by decide), e, Option.bind_some]; exact e2
    · rw [i3] at hy; exact i y hy
  refine ⟨w', hat, ?_⟩; have hns : ws.n = 1 := n.trans hn; obtain ⟨hc0, hm0⟩ := h.wg.c 0 (by omega)
  have hcn0 : (w0.c 0).n = 1 := (hc0.n.trans h.wg.n).trans hn; have hvw := hp.c 0 (by omega)
  simp only [if_true, Nat.one_mul, Nat.add_zero] at hvw; have ec : ws.c 0 = ((w0.c 0).submit id row).c := hph.yes 0 (by omega) hu0
  have hlead : (ws.c 0).lead = true /\ (hasId (ws.c 0).list id = true \/ hasId (ws.c 0).wait id = true \/ 200 <= (ws.c 0).list.length) := by
    rw [ec]
    have hb : ∃ s : St, (if (w0.c 0).n = 1 /\ (w0.c 0).lead = false then St.begin ⟨w0.c 0, [], []⟩ else ⟨w0.c 0, [], []⟩) = s /\ s.c.lead = true /\ s.c.n = 1 := by
      refine ⟨_, rfl, ?_⟩; split
      · have := ab3 (w0.c 0) (by omega) (by unfold mostView; omega)
        exact ⟨this.one hcn0 hm0, this.n.trans hcn0⟩
      · next hh =>
        refine ⟨?_, hcn0⟩; show (w0.c 0).lead = true
        cases hl : (w0.c 0).lead with
        | true => rfl
        | false => exact absurd ⟨hcn0, hl⟩ hh
    obtain ⟨s, hs, s1, s2⟩ := hb; unfold Co.submit; dsimp only; rw [hs]; by_cases hw : may ⟨id, 0, row⟩ = false \/ hasId s.c.list id = true \/ hasId s.c.wait id = true
    · have e2 : s.c.wanted ⟨id, 0, row⟩ = (s.c, false) := by unfold Co.wanted; rw [if_pos hw]
      rw [e2, if_neg (by simp)]
      have hx : hasId s.c.list id = true \/ hasId s.c.wait id = true := by
        rcases hw with h | h
        · rw [hm] at h; cases h
        · exact h
      split
      · next h3 => exact absurd s1 (by have := h3.2.1; rw [this]; simp)
      · exact ⟨s1, by rcases hx with h | h; exact .inl h; exact .inr (.inl h)⟩
    · have e2 : s.c.wanted ⟨id, 0, row⟩ = ({ s.c with wait := (if s.c.wait.length = 200 then s.c.wait.drop 1 else s.c.wait) ++ [⟨id, 0, row⟩] }, s.c.lead) := by unfold Co.wanted; rw [if_neg hw]
      rw [e2, if_pos s1]; have k := qx { s with c := { s.c with wait := (if s.c.wait.length = 200 then s.c.wait.drop 1 else s.c.wait) ++ [⟨id, 0, row⟩] } } s1 (by show s.c.n <= 7; omega)
      refine ⟨k.lead s1, ?_⟩; obtain ⟨d, d1, d2, _⟩ := yz { s with c := { s.c with wait := (if s.c.wait.length = 200 then s.c.wait.drop 1 else s.c.wait) ++ [⟨id, 0, row⟩] } }
      rw [d1, (rq d).1, d2]; by_cases h2 : (grown s.c.list ((if s.c.wait.length = 200 then s.c.wait.drop 1 else s.c.wait) ++ [⟨id, 0, row⟩])).length < 200
      · left
        refine uv _ _ h2 ?_; rw [hasId_app]; simp [hasId]
      · exact .inr (.inr (Nat.le_of_not_lt h2))
  have ht : w1.c 0 = (ws.c 0).tick.c := R.ph.yes 0 (by omega) hu0
  have htick : (ws.c 0).tick = St.grow ⟨ws.c 0, [], []⟩ := by
    unfold Co.tick; dsimp only; rw [if_pos hlead.1]
  obtain ⟨d, d1, d2, d3, d4, d5, d6, _⟩ := yz ⟨ws.c 0, [], []⟩; obtain ⟨hcs, hms⟩ := x2.wg.c 0 (by omega)
  have hcns : (ws.c 0).n = 1 := (hcs.n.trans x2.wg.n).trans hns; obtain ⟨_, _, _, hx1⟩ := R.wx1
  have hP : w1.l = [] := by
    cases hl : w1.l with
    | nil => rfl
    | cons m l =>
      have hM := hx1.wg.l m (by rw [hl]; exact List.mem_cons_self)
      have h1 := hM.from_; have h2 := hM.to; have h3 := hM.ne; rw [hx1.wg.n, R.n1, hns] at h1 h2; omega
  have hend : w'.c 0 = w1.c 0 := by
    have := R.hr; rw [hP] at this
    cases this
    rfl
  rw [hend, ht, htick, d1]; obtain ⟨k1, k2, k3⟩ := rq d
  have hlen : (w'.c 0).list.length < 200 := by
    obtain ⟨_, _, _, hx'⟩ := R.wx'; obtain ⟨hc', _⟩ := hx'.wg.c 0 (by rw [R.n', hns]; omega)
    have h5 := hc'.lok hx'.wg.gok; rw [hx'.wg.S] at h5; have := aa8 h5 hat.ids; omega
  rw [hend, ht, htick, d1, k1, d2] at hlen
  have hid : hasId d.list id = true := by
    rw [d2]; rcases hlead.2 with h | h | h
    · exact xk _ _ h
    · exact uv _ _ hlen h
    · have := yu (ws.c 0).wait (ws.c 0).list
      replace hlen : (grown (ws.c 0).list (ws.c 0).wait).length < 200 := hlen; omega
  have hag := afv d (fun _ => true) (by rw [List.countP_true, List.length_range, d6]; show (ws.c 0).n / 2 + 1 <= (ws.c 0).n; rw [hcns]; omega) (fun r hr _ hne => by
    have h6 : d.n = 1 := d6.trans hcns; have h5 : d.me = 0 := d5.trans hms; omega)
  rw [k1, List.take_of_length_le hag]; exact hid
theorem lives_all {g : Gh} (hup : ∀ r, up r = true -> r < w0.n) (hq : (List.range w0.n).countP up = w0.n / 2 + 1) (hid : 0 < id) (hok : ∀ r : Nat, r < 100 -> Act.Ok ⟨0, (r : Int), 0, id, row⟩) (hrow : row.length <= 16) (h : WX g w0 120 24000 120) (hk : ∀ p, w0.cut p = none) (hp : PA (if w0.n = 1 then 1 else 12) 120 w0) :
    ∃ k w', k <= 250 /\ 1 <= k /\ AtK up id row w0 k w' /\ ∀ r, up r = true -> hasId ((w'.c r).list.take (w'.c r).agreed) id = true := by
  have hm : may ⟨id, 0, row⟩ = true := by simp [may, hid, hrow]
  have hA : w0.ids.length <= 150 := Nat.le_trans h.idl (by omega)
  by_cases hn : w0.n = 1
  · rw [if_pos hn] at hp
    have hu0 : up 0 = true := by
      rw [hn] at hq
      cases hu : up 0 with
      | true => rfl
      | false => simp [List.range_succ, hu] at hq
    obtain ⟨w', a, b⟩ := anz hn hu0 hok hm hA h hk hp; refine ⟨1, w', by omega, by omega, a, fun r hu => ?_⟩
    have : r = 0 := by have := hup r hu; omega
    subst this; exact b
  · rw [if_neg hn] at hp
    have X : Cx up w0.n := ⟨hup, hq, hn, h.wg.n7⟩; obtain ⟨w3, hs⟩ := aok (id := id) (row := row) X hok h hk hp; exact aq5 X hok hm hA hs
end
end Ag
end Go.Proofs.Ytbciofnejefkiaa
