import Derived.Test.YtbciofnejefkiaaIz
import Derived.Test.YtbciofnejefkiaaIa8
import Derived.Test.YtbciofnejefkiaaIa9
set_option linter.unusedVariables false
set_option linter.unusedSimpArgs false
set_option maxRecDepth 20000
set_option maxHeartbeats 4000000
namespace Go.Proofs.Ytbciofnejefkiaa
open Go Go.Am Go.Proofs
open Ag (GOK COK WG MOK SOK LOK)
def upA (n : Nat) (up : Nat -> Bool) : AO := .cel ((List.range n).map fun r => .raw (.bool (up r)))
theorem yo {n r : Nat} {up : Nat -> Bool} (h : r < n) : ((List.range n).map fun r => AV.raw (.bool (up r)))[r]? = some (.raw (.bool (up r))) := by
  rw [List.getElem?_map, List.getElem?_range h]; rfl
theorem aap {α : Type} {l : List α} {i : Nat} {a : α} (h : l[i]? = some a) : l.drop i = a :: l.drop (i + 1) := by
  obtain ⟨h1, h2⟩ := List.getElem?_eq_some_iff.1 h; rw [<- h2]; exact List.drop_eq_getElem_cons h1
theorem am6 {g : Ag.Gh} {w w' : Ag.W} {q B I r : Nat} {H : AHeap} {O : Wo} {F : Nat -> Ob} (hX : WX g w q B I) (hA : WAt H O F w) (hr : r < w.n) (hq : q <= 200000) (hI : I <= 1000000) (hB : B <= 100000000000) (hst : w.step r (w.c r).tick = some w') :
    ACalls Try.prog 19 [.ptr (F r).o 0] H fun r' H2 => r' = stepA (w.c r).tick /\ ∃ G, CAt H2 G (w.c r).tick.c /\ TurnK H (F r) G H2 /\ ACalls Try.prog 45 [.ptr O.w 0, mI (r : Int), stepA (w.c r).tick] H2 fun r' H' => r' = bB true /\ ∃ O' F', WAt H' O' F' w' /\ TurnW w.n H O F O' F' H' := by
  have hcf := hX.cf (by omega) hr
  have hqr := hX.quiet r hr; obtain ⟨y1, y2⟩ := vg hcf (by omega)
  obtain ⟨hc0, hm0⟩ := hX.wg.c r hr; obtain ⟨g', _, x2⟩ := Ag.tick_ok hX.wg.gok hc0; rw [hm0] at x2; refine (Tick_calls H (F r) (w.c r) (hA.co r hr) (hA.ndC r hr) hcf (by omega)).mono fun r' H2 ⟨e, G, c1, c2⟩ => ⟨e, G, c1, c2, ?_⟩
  exact ut hX hr (by omega) (by omega) (by omega) x2 y1 y2 hst hA (H2 := H2) (G := G) c1 c2
theorem get_at {g : Ag.Gh} {w w' : Ag.W} {q B I r : Nat} {H : AHeap} {O : Wo} {F : Nat -> Ob} {m : Mg} (hX : WX g w q B I) (hA : WAt H O F w) (hM : MOK g m) (hre : m.to = (r : Int)) (hq : q <= 200000) (hI : I <= 1000000) (hB : B <= 100000000000) (hst : w.step r ((w.c r).get m) = some w') :
    ACalls Try.prog 27 [.ptr (F r).o 0, .agg m.cells] H fun r' H2 => r' = stepA ((w.c r).get m) /\ ∃ G, CAt H2 G ((w.c r).get m).c /\ TurnK H (F r) G H2 /\ ACalls Try.prog 45 [.ptr O.w 0, mI (r : Int), stepA ((w.c r).get m)] H2 fun r' H' => r' = bB true /\ ∃ O' F', WAt H' O' F' w' /\ TurnW w.n H O F O' F' H' := by
  have hr : r < w.n := by have := hM.to; have := hX.wg.n; omega
  have hmo : m.Ok := hM.okm (by rw [hX.wg.n]; exact hX.wg.n7)
  have hcf := hX.cf (by omega) hr
  have hen := LOK.lf hM.ents; obtain ⟨y1, y2⟩ := vl hcf hmo; obtain ⟨hc0, hm0⟩ := hX.wg.c r hr; obtain ⟨g', _, x2⟩ := Ag.get_ok hX.wg.gok hc0 hM; rw [hm0] at x2; refine (Get_calls' H (F r) (w.c r) m (hA.co r hr) (hA.ndC r hr) hcf hmo (by have := hen.len; omega) (by rw [hM.body]; simp) (fun e he => by have := (hen.ok e he).2; omega)).mono fun r' H2 ⟨e, G, c1, c2⟩ => ⟨e, G, c1, c2, ?_⟩
  exact ut hX hr (by omega) (by omega) (by omega) x2 y1 y2 hst hA (H2 := H2) (G := G) c1 c2
structure RLp {α : Type} (f : Ag.W -> α -> Option Ag.W) (n q B I : Nat) (H0 : AHeap) (O0 : Wo) (F0 : Nat -> Ob) (ww : Ag.W) (l : List α) (H : AHeap) (O : Wo) (F : Nat -> Ob) (g : Ag.Gh) (w : Ag.W) : Prop where
  at_ : WAt H O F w
  wx : WX g w q B I
  cut : ∀ p, w.cut p = none
  nn : w.n = n
  go : Ag.foldO f w l = some ww
  turn : TurnW n H0 O0 F0 O F H
theorem ark (H : AHeap) (O : Wo) (F : Nat -> Ob) (g : Ag.Gh) (w : Ag.W) (q B I oU : Nat) (up : Nat -> Bool) (hA : WAt H O F w) (hX : WX g w q B I) (hk : ∀ p, w.cut p = none) (hq : q <= 99000) (hI : I <= 100000) (hB : B <= 9000000000) (hU : H oU = some (upA w.n up)) (hd : ¬ Dom O F w.n oU) :
    ACalls Try.prog 22 [.ptr O.w 0, .vw oU 1 0 w.n] H fun r' H' => r' = bB true /\ ∃ w' g' O' F', w.round up = some w' /\ WX g' w' (q + 7) (B + 801400) I /\ Tn up g g' w w' /\ w'.ids = w.ids /\ WAt H' O' F' w' /\ TurnW w.n H O F O' F' H' := by
  obtain ⟨w1, g1, w', g', e1, x1, t1, e2, x2, t2, i2, e3⟩ := hX.round (up := up) hk (by omega)
  have h7 := hX.wg.n7; generalize hnn : w.n = n at *; obtain ⟨us, hU, hul, hug⟩ : ∃ us, H oU = some (.cel us) /\ us.length = n /\ ∀ r, r < n -> us[r]? = some (.raw (.bool (up r))) := ⟨_, hU, by simp, fun r hr => yo hr⟩
  refine gm Try.func22 rfl (by decide) ?_
  focus (refine az ?_; refine bc ?_)
  refine bf ?_; refine mg (fun R' H2 => ∃ (O2 : Wo) (F2 : Nat -> Ob) (g2 : Ag.Gh), R' = [(0, .ptr O.w 0), (1, .vw oU 1 0 n)] /\ RLp (Ag.W.tickR up) n (q + 7) (B + 1400) I H O F w1 [] H2 O2 F2 g2 w1) ?_ ?_
  · focus (refine az ?_; refine bc ?_; refine gi ?_)
    refine cv (fun mm R' H2 => ∃ (i : Nat) (O2 : Wo) (F2 : Nat -> Ob) (g2 : Ag.Gh) (w2 : Ag.W), R' = [(0, .ptr O.w 0), (1, .vw oU 1 0 n), (5, .raw (.int .i64 (i : Int)))] /\ RLp (Ag.W.tickR up) n (q + i) (B + 200 * i) I H O F w1 ((List.range n).drop i) H2 O2 F2 g2 w2 /\ i + mm = n) ?_ ?_
    · exact ⟨n, _, _, ba, 0, O, F, g, w, rfl, ⟨hA, hX, hk, hnn, e1, TurnW.refl _ _ _ _⟩, by omega⟩
    clear e1 e2 e3 x1 x2 t1 t2 i2; rintro mm R0 H2 ⟨i, O2, F2, g2, w2, rfl, hL, hi⟩; have hw := hL.turn.w; have b1 := hL.at_.aw; have b2 := hL.at_.ac; unfold worldC at b1; rw [hL.nn] at b1 b2; rw [hw] at b1; by_cases hlt : i < n
    rotate_left
    · obtain rfl : i = n := by omega
      have hgo := hL.go; rw [List.drop_eq_nil_of_le (by rw [List.length_range]; omega)] at hgo
      obtain rfl := Option.some.inj hgo; have hX2 := hL.wx.more (q' := q + 7) (B' := B + 1400) (by omega) (by omega) (Nat.le_refl _)
      have hL2 : RLp (Ag.W.tickR up) i (q + 7) (B + 1400) I H O F w2 [] H2 O2 F2 g2 w2 := ⟨hL.at_, hX2, hL.cut, hL.nn, rfl, hL.turn⟩
      focus (refine fq ?_; refine cm ?_; refine c8 ?_; intro hc)
      all_goals try (exfalso; omega)
      all_goals exact ⟨_, _, ba, O2, F2, g2, rfl, hL2⟩
    obtain ⟨u1, u2⟩ := hL.turn.keep hU hd; have ug : us[0 + i * 1]? = some (.raw (.bool (up i))) := by rw [show 0 + i * 1 = i by omega]; exact hug i hlt
    have hrg : (List.range n)[i]? = some i := List.getElem?_range hlt; have hgo := hL.go; rw [aap hrg] at hgo; unfold Ag.foldO at hgo; obtain ⟨w3, g3, y1, y2, y3, y4⟩ := hL.wx.tick1 (up := up) hL.cut (by omega) (r := i) (by rw [hL.nn]; exact hlt)
    rw [y1, Option.bind_some] at hgo; have hn3 : w3.n = n := y3.n.trans hL.nn; have hX3 : WX g3 w3 (q + (i + 1)) (B + 200 * (i + 1)) I := y2.more (by omega) (by omega) (Nat.le_refl _)
    unfold Ag.W.tickR at y1
    cases hup : up i with
    | false =>
      rw [hup] at ug y1; obtain rfl := Option.some.inj y1; have hL3 : RLp (Ag.W.tickR up) n (q + (i + 1)) (B + 200 * (i + 1)) I H O F w1 ((List.range n).drop (i + 1)) H2 O2 F2 g3 w2 := ⟨hL.at_, hX3, y3.cut, hn3, hgo, hL.turn⟩; clear hL hX3 hgo y1 y2 y3 y4 hX hA
      focus (refine fq ?_; refine cm ?_; refine ax rfl (fun hc => ?_) (fun hc => ?_); refine ct ?_; refine c9 ?_; refine gr ?_; refine jg ?_; refine an ?_; refine dp ?_; refine dp ?_; refine dp ?_; refine cd ?_; refine fm ?_; refine di ?_; refine fx ?_; rotate_left; exact absurd hc aj)
      all_goals try (exfalso; omega)
      all_goals exact ⟨mm - 1, _, _, by omega, ba, i + 1, O2, F2, g3, w2, rfl, hL3, by omega⟩
    | true =>
      rw [hup] at ug; rw [if_pos hup] at y1; have hT := am6 hL.wx hL.at_ (by rw [hL.nn]; exact hlt) (by omega) (by omega) (by omega) y1
      rw [hL.nn, hw] at hT; have hL3 : ∀ {H4 : AHeap} {O4 : Wo} {F4 : Nat -> Ob}, WAt H4 O4 F4 w3 -> TurnW n H2 O2 F2 O4 F4 H4 -> RLp (Ag.W.tickR up) n (q + (i + 1)) (B + 200 * (i + 1)) I H O F w1 ((List.range n).drop (i + 1)) H4 O4 F4 g3 w3 := fun a b => ⟨a, hX3, y3.cut, hn3, hgo, hL.turn.trans b⟩
      generalize (w2.c i).tick = s at *; clear hL hX3 hgo y1 y2 y3 y4 hX hA
      focus (refine fq ?_; refine cm ?_; refine ax rfl (fun hc => ?_) (fun hc => ?_); refine ct ?_; refine c9 ?_; refine gr ?_; refine jg ?_; refine i9 ?_; refine i9 ?_; refine j4 ?_; refine eo ?_; refine ep ?_; refine pk ?_; refine a0 ?_; refine jg ?_; refine a0 ?_; (refine zc ah (hT) ?_; rintro r H' ⟨rfl, G, c1, c2, hS⟩); refine a0 ?_; (refine zc ah (hS) ?_; rintro r H' ⟨rfl, O3, F3, z1, z2⟩); refine a0 ?_; refine ea ?_; refine bu ?_; refine fm ?_; refine di ?_; refine fx ?_; rotate_left; exact absurd hc aj)
      all_goals try (exfalso; omega)
      all_goals exact ⟨mm - 1, _, _, by omega, ba, i + 1, O3, F3, g3, w3, rfl, hL3 z1 z2, by omega⟩
  rintro R1 H2 ⟨O1, F1, gg, rfl, hL⟩; have hA1 := hL.at_; have hk1 := hL.cut; have hn1 := hL.nn; have tt1 := hL.turn; have aw1 := hA1.aw; unfold worldC at aw1; rw [hn1, tt1.w] at aw1; have hw1 := tt1.w; clear hL hA e1
  focus (refine az ?_; refine bl ?_; refine ix ?_; refine il ?_; refine ue ?_; refine gv ?_; refine aq ?_)
  refine qj (H := H2.set O.w (.cel [mI n, .vw O1.c 1 0 n, .vw O1.s 1 0 n, .vw O1.k 1 0 n, .raw (.slice none 0 0), .vw O1.i 1 0 w1.ids.length, .vw O1.r 1 0 w1.ids.length, .vw O1.b 3 0 w1.best.length])) 4 9 (arn _ _ _) rfl fun H3 oN hN b1 b2 b3 => ?_
  have hN2 : H2 oN = none := arm hN; have hs : ∀ p y, H2 p = some y -> p ≠ O.w -> H3 p = some y := fun p y hp hne => b3 p y (arl hne hp) hne
  obtain ⟨c1, c2⟩ := hA1.newL (l := []) hN2 (by rw [hw1, hn1]; exact b1) b2 (fun p y hp h1 _ => hs p y hp (by rw [<- hw1]; exact h1))
  have hlw : O1.l ≠ O.w := fun e => by have := (Wo.ne hA1.nd).wl; rw [hw1] at this; exact this e.symm
  have hal := hs _ _ hA1.al hlw; have hlN : O1.l ≠ oN := fun e => by rw [<- e, hA1.al] at hN2; cases hN2
  have hdl : ¬ Dom { O1 with l := oN } F1 n O1.l := by
    rintro (h | ⟨r, hr, h⟩)
    · obtain ⟨d1, d2, d3, d4, d5, d6, d7, d8, d9, d10, d11, d12, d13, d14, d15, d16, d17, d18, d19, d20, d21, d22, d23, d24, d25, d26, d27, d28⟩ := Wo.ne hA1.nd
      simp only [Wo.l', List.mem_cons, List.not_mem_nil, or_false] at h; rcases h with e | e | e | e | e | e | e | e
      · exact d4 e.symm
      · exact d10 e.symm
      · exact d15 e.symm
      · exact d19 e.symm
      · exact hlN e
      · exact d23 e
      · exact d24 e
      · exact d25 e
    · exact hA1.ap r (by rw [hn1]; exact hr) _ h (by simp [Wo.l'])
  rw [hn1] at c2; obtain ⟨u1, u2⟩ := (tt1.trans c2).keep hU hd; have t3 := tt1.trans c2; have hM0 := x1.wg.l; have hX0 := x1.noL; have hPl := x1.l; have hb1 : b1 = b1 := rfl; generalize hO2 : ({ O1 with l := oN } : Wo) = O2 at *
  have hO2w : O2.w = O.w := t3.w; clear hb1; generalize hPP : w1.l = P at *
  focus (refine bq ?_; refine bc ?_; refine gi ?_)
  refine cv (fun mm R' H4 => ∃ (i : Nat) (O4 : Wo) (F4 : Nat -> Ob) (g4 : Ag.Gh) (w4 : Ag.W), R' = [(0, .ptr O.w 0), (1, .vw oU 1 0 n), (6, .vw O1.l 9 0 P.length), (7, .raw (.int .i64 (i : Int)))] /\ RLp (Ag.W.hearM up) n (q + 7) (B + 1400 + 200 * i) I H3 O2 F1 w' (P.drop i) H4 O4 F4 g4 w4 /\ (∀ m ∈ P, MOK g4 m) /\ i + mm = P.length) ?_ ?_
  · exact ⟨P.length, _, _, ba, 0, O2, F1, g1, _, rfl, ⟨c1, hX0, hk1, hn1, e2, TurnW.refl _ _ _ _⟩, hM0, by omega⟩
  clear e2 x1 t1 hX0 hM0 c1 hA1 aw1 b1 b2 b3; rintro mm R0 H4 ⟨i, O4, F4, g4, w4, rfl, hL, hM, hi⟩; have hw4 : O4.w = O.w := hL.turn.w.trans hO2w; by_cases hlt : i < P.length
  rotate_left
  · obtain rfl : i = P.length := by omega
    have hgo := hL.go; rw [List.drop_eq_nil_of_le (Nat.le_refl _)] at hgo; obtain rfl := Option.some.inj hgo; have hfin : WAt H4 O4 F4 w4 /\ TurnW n H O F O4 F4 H4 := ⟨hL.at_, t3.trans hL.turn⟩; clear hL hX
    focus (refine bz ?_; refine c9 ?_; refine iz ?_; refine cm ?_; refine c8 ?_; intro hc; refine cp ?_)
    all_goals try (exfalso; omega)
    all_goals exact ⟨.inl rfl, _, _, _, Ent.refl _ _, ret1 rfl rfl, rfl, w4, g', O4, F4, e3, x2, t2, i2, hfin.1, hfin.2⟩
  have hg : P[i]? = some P[i] := List.getElem?_eq_getElem hlt; have hMm := hM _ (List.getElem_mem hlt); have hgo := hL.go; rw [aap hg] at hgo; unfold Ag.foldO at hgo; have hga : ((P.flatMap Mg.cells).drop (0 + i * 9)).take 9 = (P[i]).cells := by rw [Nat.zero_add]; exact wh (sz := 9) (f := Mg.cells) (fun _ => rfl) hg
  have hfl : (P.flatMap Mg.cells).length = P.length * 9 := i8 (f := Mg.cells) (sz := 9) (fun _ => rfl) P
  generalize P[i] = m at *; obtain ⟨w5, g5, y1, y2, y3, y4⟩ := hL.wx.hear1 (up := up) hL.cut (by omega) hMm
  rw [y1, Option.bind_some] at hgo; have b1 := hL.at_.aw; have b2 := hL.at_.ac; unfold worldC at b1; rw [hL.nn] at b1 b2; rw [hw4] at b1; obtain ⟨v1, v2⟩ := hL.turn.keep u1 u2; obtain ⟨l1, l2⟩ := hL.turn.keep hal hdl; have hn5 : w5.n = n := y3.n.trans hL.nn; have hX5 : WX g5 w5 (q + 7) (B + 1400 + 200 * (i + 1)) I := y2.more (Nat.le_refl _) (by omega) (Nat.le_refl _)
  have hM5 : ∀ x ∈ P, MOK g5 x := fun x hx => (hM x hx).le y3.le
  have hng : g4.n = n := hL.wx.wg.n.trans hL.nn; obtain ⟨a, hfa⟩ : ∃ a : Nat, m.from_ = (a : Int) := ⟨m.from_.toNat, by have := hMm.from_; omega⟩
  obtain ⟨r, hre⟩ : ∃ r : Nat, m.to = (r : Int) := ⟨m.to.toNat, by have := hMm.to; omega⟩
  have han : a < n := by have := hMm.from_; omega
  have hrn : r < n := by have := hMm.to; omega
  have ua : us[0 + a * 1]? = some (.raw (.bool (up a))) := by rw [show 0 + a * 1 = a by omega]; exact hug a han
  have ur : us[0 + r * 1]? = some (.raw (.bool (up r))) := by rw [show 0 + r * 1 = r by omega]; exact hug r hrn
  have hrg : (List.range n)[r]? = some r := List.getElem?_range hrn; have hmc : m.cells = [mI m.kind, mI (a : Int), mI (r : Int), .raw (.int .u64 (m.view : Int)), .raw (.int .u64 (m.last : Int)), .raw (.int .u64 (m.op : Int)), .raw (.int .u64 (m.commit : Int)), .sls m.ents.length (m.ents.flatMap En.cells), .bys m.body] := by rw [<- hre, <- hfa]; rfl
  unfold Ag.W.hearM at y1; rw [hfa, hre, Int.toNat_natCast, Int.toNat_natCast] at y1; by_cases hup : up a = true /\ up r = true
  rotate_left
  · rw [if_neg hup] at y1
    obtain rfl := Option.some.inj y1; have hL5 : RLp (Ag.W.hearM up) n (q + 7) (B + 1400 + 200 * (i + 1)) I H3 O2 F1 w' (P.drop (i + 1)) H4 O4 F4 g5 w4 := ⟨hL.at_, hX5, y3.cut, hn5, hgo, hL.turn⟩; rw [hmc] at hga; clear hL hX5 hgo y1 y2 y3 y4 hX hM hMm
    cases hua : up a with
    | false =>
      rw [hua] at ua
      focus (refine bz ?_; refine c9 ?_; refine iz ?_; refine cm ?_; refine ax rfl (fun hc => ?_) (fun hc => ?_); refine ct ?_; refine c9 ?_; refine gr ?_; refine sg ?_; refine cz rfl rfl rfl (fun oN hoN => ?_); refine jo ?_; refine aq ?_; refine cj ?_; refine sa ?_; refine dm ?_; refine mu ?_; refine oa ?_; refine bj ?_; refine bx ?_; refine zt4 rfl rfl ?_; refine ie ?_; refine bx ?_; refine bx ?_; refine bx ?_; refine je ?_; refine zt4 rfl rfl ?_; refine jh ?_; refine j6 ?_; refine fx ?_; rotate_left; exact absurd hc aj)
      all_goals try (exfalso; omega)
      all_goals exact ⟨mm - 1, _, _, by omega, ba, i + 1, O4, F4, g5, w4, rfl, hL5, hM5, by omega⟩
    | true =>
      have hur : up r = false := by cases hx : up r with | false => rfl | true => exact absurd ⟨hua, hx⟩ hup
      rw [hua] at ua; rw [hur] at ur
      focus (refine bz ?_; refine c9 ?_; refine iz ?_; refine cm ?_; refine ax rfl (fun hc => ?_) (fun hc => ?_); refine ct ?_; refine c9 ?_; refine gr ?_; refine sg ?_; refine cz rfl rfl rfl (fun oN hoN => ?_); refine jo ?_; refine aq ?_; refine cj ?_; refine sa ?_; refine dm ?_; refine mu ?_; refine oa ?_; refine eb ?_; refine sa ?_; refine cx ?_; refine dh ?_; refine mu ?_; refine cx ?_; refine oa ?_; refine da ?_; refine bj ?_; refine bx ?_; refine bx ?_; refine bx ?_; refine je ?_; refine zt4 rfl rfl ?_; refine jh ?_; refine j6 ?_; refine fx ?_; rotate_left; exact absurd hc aj)
      all_goals try (exfalso; omega)
      all_goals exact ⟨mm - 1, _, _, by omega, ba, i + 1, O4, F4, g5, w4, rfl, hL5, hM5, by omega⟩
  rw [if_pos hup] at y1; have hT := get_at hL.wx hL.at_ hMm hre (by omega) (by omega) (by omega) y1
  rw [hL.nn, hw4, hmc] at hT; have hL5 : ∀ {H6 : AHeap} {O6 : Wo} {F6 : Nat -> Ob}, WAt H6 O6 F6 w5 -> TurnW n H4 O4 F4 O6 F6 H6 -> RLp (Ag.W.hearM up) n (q + 7) (B + 1400 + 200 * (i + 1)) I H3 O2 F1 w' (P.drop (i + 1)) H6 O6 F6 g5 w5 := fun a b => ⟨a, hX5, y3.cut, hn5, hgo, hL.turn.trans b⟩
  generalize (w4.c r).get m = s at *; rw [hup.1] at ua; rw [hup.2] at ur; rw [hmc] at hga; clear hL hX5 hgo y1 y2 y3 y4 hX hM hMm; clear hmc hfa hre hg hup hng
  focus (refine bz ?_; refine c9 ?_; refine iz ?_; refine cm ?_; refine ax rfl (fun hc => ?_) (fun hc => ?_); refine ct ?_; refine c9 ?_; refine gr ?_; refine sg ?_; refine cz rfl rfl rfl (fun oN hoN => ?_); refine jo ?_; refine aq ?_; rotate_left; exact absurd hc aj)
  clear hga; refine bf ?_; refine DC.aw_drawp (fun _ => True) trivial dz bg bg ?_
  focus ((apply DC.awn_s; · (intros; exact ce (v := .vw _ _ _ _) rfl)); (apply DC.awn_s; · (intros; exact mj rfl)); refine uh ?_; refine qy ?_; (apply DC.awn_e bg; (· exact fc rfl aa ij)); refine fa ?_)
  iterate 17
    refine DC.awn_guard_t rfl rfl ?_
    (first | focus ((apply DC.awn_s; · (intros; exact ce (v := .vw _ _ _ _) rfl)); rotate_left) | focus ((apply DC.awn_s; · (intros; exact mj rfl)); rotate_left) | focus (refine uh ?_; rotate_left) | focus (refine qy ?_; rotate_left) | focus ((apply DC.awn_e bg; (· exact fc rfl aa ij)); refine l9 ?_; refine fa ?_; rotate_left) | focus (refine dx ?_; rotate_left) | focus ((apply DC.awn_s; · (intros; exact md rfl)); rotate_left) | focus (refine jr ?_; rotate_left) | focus ((apply DC.awn_e bg; (· exact fc rfl aa rfl)); rotate_left) | focus ((apply DC.awn_e bg; (· exact fc rfl aa ij)); rotate_left) | focus ((apply DC.awn_s; · (intros; exact rh rfl rfl rfl (by decide))); refine DC.awn_b ?_; refine DC.awn_b ?_; refine DC.awn_b ?_; refine DC.awn_b ?_; refine DC.awn_nil ?_; refine DC.awc_cons (fun Rx K1 hK1x => ?_); refine a0 ?_; (refine zc ah (hT) ?_; rintro r H' ⟨rfl, G, c1, c2, hS⟩); refine bb ?_; (refine hK1x _ _ qh ?_; clear hK1x K1 Rx); refine DC.awc_cons (fun Rx K1 hK1x => ?_); refine a0 ?_; (refine zc ah (hS) ?_; rintro r H' ⟨rfl, O6, F6, z1, z2⟩); refine bb ?_; (refine hK1x _ _ qh ?_; clear hK1x K1 Rx); refine DC.awc_cons (fun Rx K1 hK1x => ?_); refine a0 ?_; refine ea ?_; refine bb ?_; (refine hK1x _ _ qh ?_; clear hK1x K1 Rx); refine DC.awc_cons (fun Rx K1 hK1x => ?_); refine bu ?_; refine bb ?_; (refine hK1x _ _ qh ?_; clear hK1x K1 Rx); refine DC.awc_nil ?_; refine gj ?_; refine j6 ?_; refine fx ?_; rotate_left) | fail)
  all_goals try (exfalso; omega)
  all_goals exact ⟨mm - 1, _, _, by omega, ba, i + 1, O6, F6, g5, w5, rfl, hL5 z1 z2, hM5, by omega⟩
end Go.Proofs.Ytbciofnejefkiaa
namespace Go.Proofs.Ytbciofnejefkiaa
open Go Go.Am Go.Proofs
open Ag (GOK COK WG MOK SOK LOK)
def subA (r id : Nat) (row : List Int) : List AV := [mI 0, mI (r : Int), mI 0, uI id, rowA row]
theorem aow {up : Nat -> Bool} (H : AHeap) (O : Wo) (F : Nat -> Ob) (g : Ag.Gh) (w : Ag.W) (q B I r id : Nat) (row : List Int) (hA : WAt H O F w) (hX : WX g w q B I) (hk : ∀ p, w.cut p = none) (hr : r < w.n) (hu : up r = true) (ok : Ag.Act.Ok ⟨0, (r : Int), 0, id, row⟩) (hq : q <= 100000) (hI : I <= 100000) (hB : B <= 10000000000) (hrl : row.length <= 1000000) :
    ACalls Try.prog 21 [.ptr O.w 0, .agg (subA r id row)] H fun r' H' => r' = bB true /\ ∃ w' g' O' F', (wIn w ⟨0, (r : Int), 0, id, row⟩).step r ((w.c r).submit id row) = some w' /\ WX g' w' q (B + 200) (I + 1) /\ Tn up g g' w w' /\ w'.ids = (wIn w ⟨0, (r : Int), 0, id, row⟩).ids /\ WAt H' O' F' w' /\ TurnW w.n H O F O' F' H' := by
  obtain ⟨w', g', e0, e1, e2, e3, e4⟩ := hX.sub1 hk (by omega) hr hu ok
  have hn := hX.wg.n7; refine (ag7 H O F g w w' q B I _ hA hX hq hI hB ok (show b64 0 from ⟨by decide, by decide⟩) ⟨by show (-9223372036854775808 : Int) <= (r : Int); omega, by show (r : Int) <= 9223372036854775807; omega⟩ (show b64 0 from ⟨by decide, by decide⟩) hrl e0).mono fun r' H' ⟨x, O', F', y1, y2⟩ => ⟨x, w', g', O', F', e1, e2, e3, e4, y1, y2⟩
theorem aca {n r : Nat} (f : Nat -> Bool) (b : Bool) : ((List.range n).map fun q => AV.raw (.bool (f q))).set r (.raw (.bool b)) = (List.range n).map fun q => AV.raw (.bool (Ag.upd f r b q)) := by
  rw [aai]; refine List.map_congr_left fun q _ => ?_
  unfold Ag.upd; split <;> rfl
end Go.Proofs.Ytbciofnejefkiaa
namespace Go.Proofs.Ytbciofnejefkiaa
open Go Go.Am Go.Proofs
theorem ani {l : List En} {i : Nat} {e : En} {k : Nat} (h : l[i]? = some e) : Ag.hasId (l.take (i + 1)) k = (Ag.hasId (l.take i) k || decide (e.id = k)) := by
  rw [List.take_add_one, h, Ag.hasId_app]; simp [Ag.hasId]
theorem ao9 (H : AHeap) (O : Wo) (F : Nat -> Ob) (w : Ag.W) (r id : Nat) (hA : WAt H O F w) (hr : r < w.n) (h7 : w.n <= 7) (hcf : CFine (w.c r)) :
    ACalls Try.prog 23 [.ptr O.w 0, mI (r : Int), .raw (.int .u64 (id : Int))] H fun r' H' => r' = bB (Ag.hasId ((w.c r).list.take (w.c r).agreed) id) /\ H' = H := by
  have hC := Committed_calls H (F r) (w.c r) (hA.co r hr) hcf; have aw := hA.aw; have ac := hA.ac; unfold worldC at aw; have hrx : (List.range w.n)[r]? = some r := List.getElem?_range hr; have hll : ((w.c r).list.take (w.c r).agreed).length <= 200 := by have := hcf.list.len; rw [List.length_take]; omega
  clear hA; generalize hLq : (w.c r).list.take (w.c r).agreed = L at *; clear hLq; refine lz Try.func23 rfl (by decide) ?_
  focus (refine f0 ?_; refine bl ?_; refine gr ?_; refine jg ?_; (refine zc ah (hC) ?_; rintro r H' ⟨rfl, rfl⟩); refine ae rfl (gq (v := .sls _ _) rfl) ?_; refine aq ?_; refine bq ?_; refine bc ?_; refine gi ?_)
  all_goals try (exfalso; omega)
  refine cv (fun mm R' H2 => ∃ i : Nat, R' = [(2, .raw (.int .u64 (id : Int))), (7, .sls L.length (L.flatMap En.cells)), (8, .raw (.int .i64 (i : Int)))] /\ H2 = H' /\ Hdn (Ag.hasId (L.take i) id = false) /\ i + mm = L.length) ?_ ?_
  · exact ⟨L.length, _, _, ba, 0, rfl, rfl, Hdn.mk rfl, by omega⟩
  rintro mm R0 H2 ⟨i, rfl, rfl, hn, hi⟩; by_cases hlt : i < L.length
  rotate_left
  · obtain rfl : i = L.length := by omega
    have he := hn.out; rw [List.take_length] at he; replace he := Hdn.mk he
    focus (refine bz ?_; refine ey ?_; refine cm ?_; refine c8 ?_; intro hc; refine cp ?_)
    all_goals try (exfalso; omega)
    all_goals exact ⟨.inl rfl, _, _, _, Ent.refl _ _, ret1 rfl rfl, by rw [he.out]; rfl, rfl⟩
  have hg : L[i]? = some L[i] := List.getElem?_eq_getElem hlt; have hg0 := vn (j := 0) hg (by omega) rfl
  have hs := Hdn.mk (ani (k := id) hg); have hmem := List.getElem_mem hlt; have hh := Hdn.mk (show L[i].id = id -> Ag.hasId L id = true from fun e => Ag.hasId_get.2 ⟨_, hmem, e⟩)
  generalize L[i] = e at *; clear hmem; replace hg := Hdn.mk hg; by_cases he : e.id = id
  · have ht := Hdn.mk (hh.out he)
    focus (refine bz ?_; refine ey ?_; refine cm ?_; refine ax rfl (fun hc => ?_) (fun hc => ?_); refine ct ?_; refine dt ?_; refine an ?_; refine ic ?_; refine ez ?_; refine an ?_; refine fh ?_; refine aq ?_; refine ax rfl (fun hc => ?_) (fun hc => ?_); refine cp ?_; refine j9 ?_; refine fi ?_; rotate_left; exact absurd hc aj; exact absurd hc aj)
    all_goals try (exfalso; omega)
    all_goals exact ⟨.inl rfl, _, _, _, Ent.refl _ _, ret1 rfl rfl, by rw [ht.out]; rfl, rfl⟩
  · have hn2 : Hdn (Ag.hasId (L.take (i + 1)) id = false) := Hdn.mk (by rw [hs.out, hn.out, decide_eq_false he]; rfl)
    focus (refine bz ?_; refine ey ?_; refine cm ?_; refine ax rfl (fun hc => ?_) (fun hc => ?_); refine ct ?_; refine dt ?_; refine an ?_; refine ic ?_; refine ez ?_; refine an ?_; refine fh ?_; refine aq ?_; refine jm ?_; intro hc; refine di ?_; refine fx ?_; rotate_left; exact absurd hc aj)
    all_goals try (exfalso; omega)
    all_goals exact ⟨mm - 1, _, _, by omega, ba, i + 1, rfl, rfl, hn2, by omega⟩
end Go.Proofs.Ytbciofnejefkiaa
namespace Go.Proofs.Ytbciofnejefkiaa
open Go Go.Am Go.Proofs
open Ag (GOK COK WG MOK SOK LOK)
def capU (u : Nat -> Bool) (K q : Nat) : Bool := u q && decide ((List.range (q + 1)).countP u <= K)
theorem uo (u : Nat -> Bool) (n : Nat) : (List.range (n + 1)).countP u = (List.range n).countP u + if u n = true then 1 else 0 := by
  rw [List.range_succ, List.countP_append, List.countP_singleton]
theorem ad3 (u : Nat -> Bool) (K : Nat) : ∀ n, (List.range n).countP (capU u K) = min ((List.range n).countP u) K
  | 0 => by simp
  | n + 1 => by
    rw [uo, uo, ad3 u K n]; unfold capU; rw [uo]
    cases u n with
    | false => simp
    | true =>
      simp only [Bool.true_and, if_true, decide_eq_true_eq]; split <;> omega
theorem agk (u : Nat -> Bool) (d : Nat) : ∀ n, (List.range n).countP u <= (List.range n).countP (Ag.upd u d false) + (if d < n then 1 else 0)
  | 0 => by simp
  | n + 1 => by
    have ih := agk u d n; rw [uo, uo]; by_cases e : d = n
    · subst e
      rw [Ag.upd_same]; simp only [Nat.lt_irrefl, if_false, Nat.lt_succ_self, if_true, Bool.false_eq_true] at ih ⊢; split <;> omega
    · rw [Ag.upd_other _ _ (fun h => e h.symm)]
      split at ih <;> split <;> split <;> omega
theorem zw {w w' : Ag.W} {r : Nat} {s : Ag.St} (h : w.step r s = some w') : w'.ids = w.ids := by
  rcases ql h with ⟨_, b, e⟩ | ⟨_, _, b, _, _, e⟩ <;> rw [e]
theorem aol {w w' : Ag.W} {a : Ag.Act} (h : w.act a = some w') : ∀ x ∈ w'.ids, x ∈ w.ids \/ x = (a.id, a.row) := by
  intro x hx; unfold Ag.W.act at h; split at h
  · split at h
    · rw [zw (w := wIn w a) h] at hx
      unfold wIn at hx; split at hx
      · rcases List.mem_append.1 hx with hx | hx
        · exact .inl hx
        · exact .inr (List.mem_singleton.1 hx)
      · exact .inl hx
    · cases h; exact .inl hx
  split at h
  · split at h
    · rw [zw h] at hx; exact .inl hx
    · cases h; exact .inl hx
  split at h
  · cases hm : (if w.packet a then w.l[a.k.toNat]? else none) with
    | none => rw [hm] at h; cases h; exact .inl hx
    | some m =>
      rw [hm] at h; rw [zw (w := w.out a.k.toNat) h] at hx; exact .inl hx
  split at h
  · split at h
    · cases h; exact .inl hx
    · cases h; exact .inl hx
  split at h
  · cases hm : (if w.packet a then w.l[a.k.toNat]? else none) with
    | none => rw [hm] at h; cases h; exact .inl hx
    | some m =>
      rw [hm] at h; dsimp only at h; split at h
      · cases h; exact .inl hx
      · cases h; exact .inl hx
  split at h
  · split at h
    · cases ho : w.opened a.r.toNat with
      | none => rw [ho] at h; cases h
      | some w2 =>
        rw [ho, Option.bind_some] at h; obtain ⟨d, _, e1⟩ := te ho; obtain ⟨b, _, e2⟩ := ra h; rw [e2, e1] at hx; exact .inl hx
    · cases h; exact .inl hx
  split at h
  · cases h
    split at hx
    · exact .inl hx
    · exact .inl hx
  · cases h; exact .inl hx
theorem WX.cutn {g : Ag.Gh} {w : Ag.W} {q B I : Nat} (h : WX g w q B I) (r : Nat) : WX g { w with cut := Ag.upd w.cut r none } q B I :=
  ⟨⟨h.wg.gok, h.wg.n, h.wg.n7, h.wg.S, h.wg.c, h.wg.disk, h.wg.l, h.wg.best⟩, h.odd, h.quiet, h.sv, h.svl, h.idl, h.row, h.l, fun p k hp => by
    have hp' : Ag.upd w.cut r none p = some k := hp; unfold Ag.upd at hp'; split at hp'
    · cases hp'
    · exact h.cut p k hp'⟩
theorem WX.nocut {g : Ag.Gh} {w : Ag.W} {q B I : Nat} (h : WX g w q B I) : WX g { w with cut := fun _ => none } q B I :=
  ⟨⟨h.wg.gok, h.wg.n, h.wg.n7, h.wg.S, h.wg.c, h.wg.disk, h.wg.l, h.wg.best⟩, h.odd, h.quiet, h.sv, h.svl, h.idl, h.row, h.l, fun p k hp => by cases hp⟩
theorem WAt.nocut {H : AHeap} {O : Wo} {F : Nat -> Ob} {w : Ag.W} (h : WAt H O F w) (hk : ∀ q, q < w.n -> w.cut q = none) : WAt H O F { w with cut := fun _ => none } := by
  refine ⟨h.aw, h.ac, h.asv, ?_, h.al, h.ai, h.ar, h.ab, h.nd, h.co, h.ndC, h.ap, h.rr⟩; have := h.ak; rw [List.map_congr_left (g := fun _ => cutA none) fun q hq => by rw [hk q (List.mem_range.1 hq)]] at this
  exact this
def allH (up : Nat -> Bool) (id : Nat) (w : Ag.W) (i : Nat) : Bool := (List.range i).all fun q => !up q || Ag.hasId ((w.c q).list.take (w.c q).agreed) id
theorem akh (up : Nat -> Bool) (id : Nat) (w : Ag.W) (i : Nat) : allH up id w (i + 1) = (allH up id w i && (!up i || Ag.hasId ((w.c i).list.take (w.c i).agreed) id)) := by
  unfold allH; rw [List.range_succ, List.all_append]; simp
theorem amh {up : Nat -> Bool} {id n : Nat} {w : Ag.W} (h : ∀ r, up r = true -> Ag.hasId ((w.c r).list.take (w.c r).agreed) id = true) : allH up id w n = true := by
  unfold allH; rw [List.all_eq_true]; intro q _
  cases hu : up q with
  | false => rfl
  | true => rw [h q hu]; rfl
end Go.Proofs.Ytbciofnejefkiaa
namespace Go.Proofs.Ytbciofnejefkiaa
open Go Go.Am Go.Proofs
theorem WAt.ext {H H' : AHeap} {O : Wo} {F : Nat -> Ob} {w : Ag.W} (h : WAt H O F w) (fr : ∀ p y, H p = some y -> H' p = some y) : WAt H' O F w :=
  ⟨fr _ _ h.aw, fr _ _ h.ac, fr _ _ h.asv, fr _ _ h.ak, fr _ _ h.al, fr _ _ h.ai, fr _ _ h.ar, fr _ _ h.ab, h.nd, fun r hr => (h.co r hr).ext fr, h.ndC, h.ap, h.rr⟩
theorem WAt.other {H : AHeap} {O : Wo} {F : Nat -> Ob} {w : Ag.W} (h : WAt H O F w) {p : Nat} (hd : ¬ Dom O F w.n p) (y : AO) : WAt (H.set p y) O F w := by
  have hs : ∀ q z, Dom O F w.n q -> H q = some z -> (H.set p y) q = some z := fun q z hq hz => arl (fun e => hd (e ▸ hq)) hz
  exact ⟨hs _ _ (.inl (by simp [Wo.l'])) h.aw, hs _ _ (.inl (by simp [Wo.l'])) h.ac, hs _ _ (.inl (by simp [Wo.l'])) h.asv, hs _ _ (.inl (by simp [Wo.l'])) h.ak, hs _ _ (.inl (by simp [Wo.l'])) h.al, hs _ _ (.inl (by simp [Wo.l'])) h.ai, hs _ _ (.inl (by simp [Wo.l'])) h.ar, hs _ _ (.inl (by simp [Wo.l'])) h.ab, h.nd, fun r hr => (h.co r hr).mono fun q hq z hz => hs q z (.inr ⟨r, hr, hq⟩) hz, h.ndC, h.ap, h.rr⟩
end Go.Proofs.Ytbciofnejefkiaa
namespace Go.Proofs.Ytbciofnejefkiaa
open Go Go.Am Go.Proofs
structure LvI (n ow q B I : Nat) (H : AHeap) (O : Wo) (F : Nat -> Ob) (g : Ag.Gh) (w : Ag.W) : Prop where
  ew : O.w = ow
  at_ : WAt H O F w
  wx : WX g w q B I
  nn : w.n = n
  ids : ∀ x ∈ w.ids, x.1 < 2 ^ 64
  pa : Ag.PA (if n = 1 then 1 else 12) q w
theorem LvI.aw {n ow q B I : Nat} {H : AHeap} {O : Wo} {F : Nat -> Ob} {g : Ag.Gh} {w : Ag.W} (h : LvI n ow q B I H O F g w) : H ow = some (.cel [mI n, .vw O.c 1 0 n, .vw O.s 1 0 n, .vw O.k 1 0 n, .vw O.l 9 0 w.l.length, .vw O.i 1 0 w.ids.length, .vw O.r 1 0 w.ids.length, .vw O.b 3 0 w.best.length]) := by
  have := h.at_.aw; unfold worldC at this; rw [h.ew, h.nn] at this; exact this
theorem LvI.ext {n ow q B I : Nat} {H H' : AHeap} {O : Wo} {F : Nat -> Ob} {g : Ag.Gh} {w : Ag.W} (h : LvI n ow q B I H O F g w) (fr : ∀ p y, H p = some y -> H' p = some y) : LvI n ow q B I H' O F g w := ⟨h.ew, h.at_.ext fr, h.wx, h.nn, h.ids, h.pa⟩
theorem LvI.other {n ow q B I : Nat} {H : AHeap} {O : Wo} {F : Nat -> Ob} {g : Ag.Gh} {w : Ag.W} (h : LvI n ow q B I H O F g w) {p : Nat} (hd : ¬ Dom O F n p) (y : AO) : LvI n ow q B I (H.set p y) O F g w := ⟨h.ew, h.at_.other (by rw [h.nn]; exact hd) y, h.wx, h.nn, h.ids, h.pa⟩
theorem alm {n ow i : Nat} {H : AHeap} {O : Wo} {F : Nat -> Ob} {g : Ag.Gh} {w : Ag.W} {a : Ag.Act} (h : LvI n ow i (200 * i) i H O F g w) (hi : i <= 150) (ha : ActOK a) (hr : a.row.length <= 1000000) :
    ACalls Try.prog 21 [.ptr ow 0, .agg (actC a)] H fun r' H' => r' = bB true /\ ∃ w' g' O' F', LvI n ow (i + 1) (200 * (i + 1)) (i + 1) H' O' F' g' w' /\ TurnW n H O F O' F' H' := by
  have := anm H O F g w i (200 * i) i a h.at_ h.wx (by omega) (by omega) (by omega) ha hr
  rw [h.ew, h.nn] at this
  exact this.mono fun r' H' ⟨e, w', g', O', F', e1, e2, e3, e4, e5⟩ => ⟨e, w', g', O', F', ⟨e5.w.trans h.ew, e4, e2.more (Nat.le_refl _) (by omega) (Nat.le_refl _), e3, fun x hx => by
    rcases aol e1 x hx with hx | hx
    · exact h.ids x hx
    · rw [hx]; exact ha.ok.id, Ag.act_pa (by rw [h.nn]) h.wx (by omega) h.pa (by omega) ha.ok e1⟩, e5⟩
theorem ape {n : Nat} : ((List.range n).map fun q => AV.raw (.bool (decide (q < n)))) = (List.range n).map fun _ => AV.raw (.bool true) := List.map_congr_left fun q hq => by rw [decide_eq_true (List.mem_range.1 hq)]
theorem AgreeLives_calls (H : AHeap) (f : Int) (l : List Ag.Act) (down : List Int) (hf : b64 f) (hl : l.length <= 2000000) (hok : ∀ a ∈ l, ActOK a) (hdl : down.length <= 2000000) (hdb : ∀ d ∈ down, b64 d) :
    ACalls Try.prog 6 [mI f, .sls l.length (l.flatMap actC), .sls down.length (down.map mI)] H fun r _ => r = .raw (.bool true) := by
  refine lz Try.func6 rfl (by decide) ?_
  by_cases h1 : f < 0 \/ 3 < f \/ 120 < l.length \/ f < (down.length : Int)
  · focus (refine az ?_; refine bc ?_; refine bq ?_; (refine zc ah (ai6 _) ?_; rintro r H' ⟨rfl, hfr⟩); refine ea ?_; refine fm ?_; refine cy ?_; refine bz ?_; refine ae rfl (sq rfl rfl) ?_; refine an ?_; refine zg2 rfl rfl rfl (fun hc => ?_) (fun hc => ?_); refine fb ?_; refine bu ?_; refine an ?_; refine gp ?_; refine fb ?_; refine bu ?_; refine an ?_; refine dp ?_; refine bu ?_; refine gy ?_; refine cp ?_; refine db ?_; rotate_left; refine ep ?_; refine ae rfl (zq rfl rfl) ?_; refine jv ?_; refine zg2 rfl rfl rfl (fun hc => ?_) (fun hc => ?_); refine gp ?_; refine bu ?_; refine an ?_; refine dp ?_; refine bu ?_; refine gy ?_; refine cp ?_; refine db ?_; rotate_left; refine dt ?_; refine a0 ?_; refine eu ?_; refine a0 ?_; refine dw ?_; refine jv ?_; refine zg2 rfl rfl rfl (fun hc => ?_) (fun hc => ?_); refine gp ?_; refine fb ?_; refine bu ?_; refine gy ?_; refine cp ?_; refine db ?_; rotate_left; refine dt ?_; refine a0 ?_; refine eu ?_; refine a0 ?_; refine ep ?_; refine ae rfl (zq rfl rfl) ?_; refine cd ?_; refine aq ?_; refine ax rfl (fun hc => ?_) (fun hc => ?_); refine cp ?_; refine db ?_; rotate_left; exact absurd hc aj)
    all_goals try (exfalso; omega)
    all_goals exact ⟨.inl rfl, _, _, _, Ent.refl _ _, ret1 rfl rfl, rfl⟩
  obtain ⟨k, rfl⟩ : ∃ k : Nat, f = (k : Int) := ⟨f.toNat, by omega⟩
  have hk3 : k <= 3 := by omega
  have hl3 : l.length <= 120 := by omega
  have hd3 : down.length <= k := by omega
  clear h1 hl hdl; have hBg := fun H => aq3 H (2 * k + 1) (by omega) (by omega) (by omega)
  focus (refine az ?_; refine bc ?_; refine bq ?_; (refine zc ah (ai6 _) ?_; rintro r H' ⟨rfl, hfr⟩); refine ea ?_; refine fm ?_; refine cy ?_; refine bz ?_; refine mz ?_; refine an ?_; refine zg2 rfl rfl rfl (fun hc => ?_) (fun hc => ?_); exact absurd hc aj; refine ep ?_; refine dw ?_; refine jv ?_; refine zg2 rfl rfl rfl (fun hc => ?_) (fun hc => ?_); exact absurd hc aj; refine dt ?_; refine a0 ?_; refine eu ?_; refine a0 ?_; refine dw ?_; refine jv ?_; refine zg2 rfl rfl rfl (fun hc => ?_) (fun hc => ?_); exact absurd hc aj; refine dt ?_; refine a0 ?_; refine eu ?_; refine a0 ?_; refine ep ?_; refine dw ?_; refine cd ?_; refine aq ?_; refine gh ?_; intro hc; refine gn ?_; refine ae rfl (zd rfl rfl au) ?_; refine ae rfl (my rfl rfl au) ?_; (refine zc ah (hBg _) ?_; rintro r H' ⟨O, F, rfl, a1, a2, a3⟩); refine ku ?_; refine aq ?_; refine bq ?_; refine cu ?_; refine ae rfl (xq rfl rfl) ?_; refine fm ?_; refine cy ?_)
  all_goals try (exfalso; omega)
  clear hc; have hX := WX.begun (n := 2 * k + 1) (by omega) (by omega) (by omega)
  have h0 : LvI (2 * k + 1) O.w 0 0 0 H' O F _ _ := ⟨rfl, a1, hX, rfl, fun x hx => (by cases hx), Ag.begun_pa _⟩
  generalize hOw : O.w = ow at *; obtain ⟨n, hnn⟩ : ∃ n, n = 2 * k + 1 := ⟨_, rfl⟩; rw [<- hnn] at h0; have hn7 : n <= 7 := by omega
  have hn1 : 1 <= n := by omega
  have hna : n <= 2 * k + 1 := by omega
  have hnb : 2 * k + 1 <= n := by omega
  replace hnn := Hdn.mk hnn; clear a1 a2 a3 hX hBg hfr; have b1 := h0.aw
  focus (refine az ?_; refine bl ?_; refine aon rfl rfl rfl ti rfl rfl ti ti (fun oN hoN => ?_); refine ix ?_; refine aq ?_; refine bq ?_; refine bc ?_; refine gi ?_)
  have hrep : List.replicate n (AV.raw (.bool false)) = (List.range n).map fun q => AV.raw (.bool (decide (q < 0))) := by
    rw [show (fun q : Nat => AV.raw (.bool (decide (q < 0)))) = fun _ => AV.raw (.bool false) from funext fun q => by rw [decide_eq_false (Nat.not_lt_zero q)], List.map_const', List.length_range]
  rw [hrep]; have hfo := h0.at_.fresh hoN; rw [h0.nn] at hfo; have hne : ow ≠ oN := fun e => by rw [<- e, b1] at hoN; cases hoN
  generalize hqq : oN = oU at *; clear hqq; refine cv (fun mm R' H2 => ∃ i : Nat, R' = [(0, mI k), (1, .sls l.length (l.flatMap actC)), (2, .sls down.length (down.map mI)), (7, .ptr ow 0), (8, .vw oU 1 0 n), (9, .raw (.int .i64 (i : Int)))] /\ H2 = H'.set oU (.cel ((List.range n).map fun q => AV.raw (.bool (decide (q < i))))) /\ i + mm = n) ?_ ?_
  · exact ⟨n, _, _, ba, 0, rfl, rfl, by omega⟩
  rintro mm R0 H2 ⟨i, rfl, rfl, hi⟩; have b2 : (H'.set oU (.cel ((List.range n).map fun q => AV.raw (.bool (decide (q < i)))))) ow = _ := arl hne b1
  by_cases hlt : i < n
  · have hset : ((List.range n).map fun q => AV.raw (.bool (decide (q < i)))).set (0 + i * 1) (.raw (.bool true)) = (List.range n).map fun q => AV.raw (.bool (decide (q < i + 1))) := by
      rw [show 0 + i * 1 = i by omega, aca]
      refine List.map_congr_left fun q _ => ?_
      unfold Ag.upd; split
      · next e => rw [decide_eq_true (by omega)]
      · next e => show AV.raw (.bool (decide (q < i))) = _; rw [decide_eq_decide.2 (show q < i ↔ q < i + 1 by omega)]
    focus (refine fq ?_; refine cm ?_; refine ax rfl (fun hc => ?_) (fun hc => ?_); refine js ?_; refine ca ?_; refine c9 ?_; refine gr ?_; refine iq ?_; refine bb ?_; refine fx ?_; rotate_left; exact absurd hc aj)
    all_goals try (exfalso; omega)
    exact ⟨mm - 1, _, _, by omega, ba, i + 1, rfl, by rw [hset], by omega⟩
  obtain rfl : i = n := by omega
  have hU := arn H' oU (.cel ((List.range i).map fun q => AV.raw (.bool (decide (q < i)))))
  have h1 : LvI i ow 0 0 0 (H'.set oU (.cel ((List.range i).map fun q => AV.raw (.bool (decide (q < i)))))) O F _ _ := h0.ext fun p y hp => arl (fun e => by rw [e, hoN] at hp; cases hp) hp
  generalize H'.set oU (.cel ((List.range i).map fun q => AV.raw (.bool (decide (q < i))))) = H2 at *
  rw [ape] at hU; generalize hni : i = n at *; clear hrep hoN h0 b1 b2 hi hni hlt; have b1 := h1.aw
  focus (refine fq ?_; refine cm ?_; refine c8 ?_; intro hc; refine bq ?_; refine bc ?_; refine gi ?_)
  all_goals try (exfalso; omega)
  refine cv (fun mm R' H3 => ∃ (i : Nat) (u : Nat -> Bool), R' = [(0, mI k), (1, .sls l.length (l.flatMap actC)), (2, .sls down.length (down.map mI)), (7, .ptr ow 0), (8, .vw oU 1 0 n), (10, .raw (.int .i64 (i : Int)))] /\ H3 = H2.set oU (upA n u) /\ n <= (List.range n).countP u + i /\ i + mm = down.length) ?_ ?_
  · exact ⟨down.length, _, _, ba, 0, fun _ => true, rfl, (zh hU).symm, by rw [List.countP_true, List.length_range]; omega, by omega⟩
  rintro mm R0 H3 ⟨i, u, rfl, rfl, hcu, hi⟩; have hX3 := h1.other (p := oU) hfo (upA n u); have b1 := hX3.aw; by_cases hlt : i < down.length
  · have hg : down[i]? = some down[i] := List.getElem?_eq_getElem hlt
    have hdm := hdb _ (List.getElem_mem hlt); have hg2 : (down.map mI)[i * 1]? = some (mI down[i]) := by rw [Nat.mul_one, List.getElem?_map, hg]; rfl
    have hg3 : (down.map mI)[i]? = some (mI down[i]) := by rw [List.getElem?_map, hg]; rfl
    have hgl : (down.map mI).length = down.length := List.length_map _; generalize down[i] = d at *; clear hg hdb hok; unfold upA at *; by_cases hd : 0 <= d /\ d < (n : Int)
    · obtain ⟨D, rfl⟩ : ∃ D : Nat, d = (D : Int) := ⟨d.toNat, by omega⟩
      have hDn : D < n := by omega
      have hset : ((List.range n).map fun q => AV.raw (.bool (u q))).set (0 + D * 1) (.raw (.bool false)) = (List.range n).map fun q => AV.raw (.bool (Ag.upd u D false q)) := by
        rw [show 0 + D * 1 = D by omega, aca]
      have hcu2 : n <= (List.range n).countP (Ag.upd u D false) + (i + 1) := by
        have := agk u D n; rw [if_pos hDn] at this; omega
      clear hX3 h1
      focus (refine bz ?_; refine ey ?_; refine cm ?_; refine ax rfl (fun hc => ?_) (fun hc => ?_); refine js ?_; refine cj ?_; refine k7 ?_; refine bj ?_; refine l0 ?_; (apply ay; · exact ls rfl ij); (apply ay; · exact aji rfl rfl); refine bj ?_; refine zt1 rfl rfl rfl (fun hc => ?_) (fun hc => ?_); refine k7 ?_; refine cx ?_; refine eb ?_; refine l0 ?_; refine zt3 rfl rfl rfl ?_; (apply ay; · exact ls rfl ij); refine zt3 rfl rfl rfl ?_; refine dd ?_; refine mo ?_; refine da ?_; refine de ?_; refine ax rfl (fun hc => ?_) (fun hc => ?_); refine ca ?_; refine c9 ?_; refine dt ?_; refine an ?_; refine ic ?_; refine gx ?_; refine pk ?_; refine iq ?_; refine bb ?_; refine fx ?_; rotate_left; exact absurd hc aj; exact absurd hc aj; exact absurd hc aj)
      all_goals try (exfalso; omega)
      all_goals exact ⟨mm - 1, _, _, by omega, ba, i + 1, Ag.upd u D false, rfl, by rw [hset], hcu2, by omega⟩
    · clear hX3 h1
      focus (refine bz ?_; refine ey ?_; refine cm ?_; refine ax rfl (fun hc => ?_) (fun hc => ?_); refine js ?_; refine cj ?_; refine k7 ?_; refine bj ?_; refine l0 ?_; (apply ay; · exact ls rfl ij); (apply ay; · exact ky rfl rfl); refine bj ?_; refine zt1 rfl rfl rfl (fun hc => ?_) (fun hc => ?_); refine k7 ?_; refine cx ?_; refine eb ?_; refine l0 ?_; refine zt3 rfl rfl rfl ?_; (apply ay; · exact ls rfl ij); refine zt3 rfl rfl rfl ?_; refine dd ?_; (apply ay; · exact sq rfl rfl); refine da ?_; refine de ?_; refine jm ?_; intro hc; refine di ?_; refine fx ?_; rotate_left; refine bx ?_; refine bx ?_; refine jh ?_; refine j6 ?_; refine fx ?_; rotate_left; exact absurd hc aj)
      all_goals try (exfalso; omega)
      all_goals exact ⟨mm - 1, _, _, by omega, ba, i + 1, u, rfl, rfl, by omega, by omega⟩
  obtain rfl : i = down.length := by omega
  have hU := arn H2 oU (upA n u); have hcf : k + 1 <= (List.range n).countP u := by omega
  generalize hH3 : H2.set oU (upA n u) = H3 at *; clear h1 hi hcu hlt hH3
  focus (refine bz ?_; refine ey ?_; refine cm ?_; refine c8 ?_; intro hc; refine bq ?_; refine bc ?_; refine gi ?_)
  all_goals try (exfalso; omega)
  refine cv (fun mm R' H4 => ∃ (i : Nat) (O4 : Wo) (F4 : Nat -> Ob) (g4 : Ag.Gh) (w4 : Ag.W), R' = [(0, mI k), (1, .sls l.length (l.flatMap actC)), (7, .ptr ow 0), (8, .vw oU 1 0 n), (11, .raw (.int .i64 (i : Int)))] /\ LvI n ow i (200 * i) i H4 O4 F4 g4 w4 /\ H4 oU = some (upA n u) /\ ¬ Dom O4 F4 n oU /\ i + mm = l.length) ?_ ?_
  · exact ⟨l.length, _, _, ba, 0, O, F, _, _, rfl, hX3, hU, hfo, by omega⟩
  clear hX3 b1 hU hfo; rintro mm R0 H4 ⟨i, O4, F4, g4, w4, rfl, hL, hU, hdU, hi⟩; have b1 := hL.aw; by_cases hlt : i < l.length
  · have hg : l[i]? = some l[i] := List.getElem?_eq_getElem hlt
    have ha := hok _ (List.getElem_mem hlt); have hg4 := amt (j := 4) hg (by omega) rfl
    have hga := akr hg; generalize l[i] = a at *; have hrw := ha.row; unfold rowA at hg4; by_cases hr20 : 20 < a.row.length
    · clear hL
      focus (refine bz ?_; refine ey ?_; refine cm ?_; refine ax rfl (fun hc => ?_) (fun hc => ?_); refine js ?_; refine bq ?_; refine dt ?_; refine an ?_; refine ic ?_; refine ez ?_; refine eu ?_; refine dw ?_; refine aq ?_; refine ax rfl (fun hc => ?_) (fun hc => ?_); refine cp ?_; refine fi ?_; refine fi ?_; rotate_left; exact absurd hc aj; exact absurd hc aj)
      all_goals try (exfalso; omega)
      all_goals exact ⟨.inl rfl, _, _, _, Ent.refl _ _, ret1 rfl rfl, rfl⟩
    have hDo := alm hL (by omega) ha (by omega)
    clear hL
    focus (refine bz ?_; refine ey ?_; refine cm ?_; refine ax rfl (fun hc => ?_) (fun hc => ?_); refine js ?_; refine bq ?_; refine dt ?_; refine an ?_; refine ic ?_; refine ez ?_; refine eu ?_; refine dw ?_; refine aq ?_; refine gh ?_; intro hc; refine dg ?_; refine dt ?_; refine an ?_; refine ic ?_; refine nk ?_; (refine zc ah (hDo) ?_; rintro r H' ⟨rfl, w', g', O', F', z1, z2⟩); refine ea ?_; refine fm ?_; refine di ?_; refine fx ?_; rotate_left; exact absurd hc aj)
    all_goals try (exfalso; omega)
    all_goals exact ⟨mm - 1, _, _, by omega, ba, i + 1, O', F', g', w', rfl, z1, (z2.keep hU hdU).1, (z2.keep hU hdU).2, by omega⟩
  obtain rfl : i = l.length := by omega
  have hLL : LvI n ow 120 24000 120 H4 O4 F4 g4 w4 := ⟨hL.ew, hL.at_, hL.wx.more (by omega) (by omega) (by omega), hL.nn, hL.ids, hL.pa.more (by omega)⟩
  clear hL hok hi
  focus (refine bz ?_; refine ey ?_; refine cm ?_; refine c8 ?_; intro hc; refine az ?_; refine bc ?_; refine bq ?_; refine bc ?_; refine gi ?_)
  all_goals try (exfalso; omega)
  refine cv (fun mm R' H5 => ∃ (i : Nat) (w5 : Ag.W), R' = [(0, mI k), (7, .ptr ow 0), (8, .vw oU 1 0 n), (12, .raw (.int .i64 ((List.range i).countP u : Nat))), (13, .raw (.int .i64 (i : Int)))] /\ LvI n ow 120 24000 120 H5 O4 F4 g4 w5 /\ H5 oU = some (upA n fun q => if q < i then capU u (k + 1) q else u q) /\ (∀ q, q < i -> w5.cut q = none) /\ i + mm = n) ?_ ?_
  · exact ⟨n, _, _, ba, 0, w4, rfl, hLL, by rw [show (fun q => if q < 0 then capU u (k + 1) q else u q) = u from funext fun q => if_neg (Nat.not_lt_zero q)]; exact hU, fun q hq => absurd hq (Nat.not_lt_zero _), by omega⟩
  clear hLL b1 hU hlt; rintro mm R0 H5 ⟨i, w5, rfl, hL, hU, hcut, hi⟩; have b1 := hL.aw; by_cases hlt : i < n
  · have bk := hL.at_.ak
    rw [hL.nn] at bk; have hku : oU ≠ O4.k := fun e => hdU (.inl (by rw [e]; simp [Wo.l']))
    have hkw : ow ≠ O4.k := by rw [<- hL.ew]; exact (Wo.ne hL.at_.nd).wk
    obtain ⟨n1, n2⟩ := hL.at_.newK i none; have ek : ((List.range w5.n).map fun r => cutA (w5.cut r)) = (List.range n).map fun r => cutA (w5.cut r) := by rw [hL.nn]
    rw [ek] at n1; have ek2 : ((List.range n).map fun r => cutA (w5.cut r)).set i (cutA none) = ((List.range n).map fun r => cutA (w5.cut r)).set (0 + i * 1) (.raw (.int .i64 (-1))) := by rw [show 0 + i * 1 = i by omega]; rfl
    rw [ek2] at n1; have hcl : ((List.range n).map fun r => cutA (w5.cut r)).length = n := by simp
    have hL2 : LvI n ow 120 24000 120 (H5.set O4.k (.cel (((List.range n).map fun r => cutA (w5.cut r)).set (0 + i * 1) (.raw (.int .i64 (-1)))))) O4 F4 g4 { w5 with cut := Ag.upd w5.cut i none } := ⟨hL.ew, n1, hL.wx.cutn i, hL.nn, hL.ids, ⟨hL.pa.c, hL.pa.l⟩⟩
    have hU2 := arl (x := .cel (((List.range n).map fun r => cutA (w5.cut r)).set (0 + i * 1) (.raw (.int .i64 (-1))))) hku hU
    have hcut2 : ∀ q, q < i + 1 -> (Ag.upd w5.cut i none) q = none := fun q hq => by
      unfold Ag.upd; split
      · rfl
      · exact hcut q (by omega)
    have hcs := uo u i; have hcle : (List.range i).countP u <= i := by have := List.countP_le_length (p := u) (l := List.range i); rw [List.length_range] at this; exact this
    have ug : ((List.range n).map fun q => AV.raw (.bool (if q < i then capU u (k + 1) q else u q)))[0 + i * 1]? = some (.raw (.bool (u i))) := by
      rw [show 0 + i * 1 = i by omega, yo hlt, if_neg (Nat.lt_irrefl i)]
    have hb2 := arl (x := .cel (((List.range n).map fun r => cutA (w5.cut r)).set (0 + i * 1) (.raw (.int .i64 (-1))))) hkw b1
    clear hL n1 n2 hcut; unfold upA at *
    have hstep : ∀ b : Bool, b = capU u (k + 1) i -> ((List.range n).map fun q => AV.raw (.bool (if q < i then capU u (k + 1) q else u q))).set i (.raw (.bool b)) = (List.range n).map fun q => AV.raw (.bool (if q < i + 1 then capU u (k + 1) q else u q)) := fun b hb => by
      rw [aca]; refine List.map_congr_left fun q _ => ?_
      unfold Ag.upd; split
      · next e => rw [e, if_pos (by omega), hb]
      · next e =>
        show AV.raw (.bool (if q < i then capU u (k + 1) q else u q)) = _
        by_cases h : q < i
        · rw [if_pos h, if_pos (by omega)]
        · rw [if_neg h, if_neg (by omega)]
    have hsame : capU u (k + 1) i = u i -> ((List.range n).map fun q => AV.raw (.bool (if q < i then capU u (k + 1) q else u q))) = (List.range n).map fun q => AV.raw (.bool (if q < i + 1 then capU u (k + 1) q else u q)) := fun hb => by
      refine List.map_congr_left fun q _ => ?_
      by_cases h : q < i
      · rw [if_pos h, if_pos (by omega)]
      · by_cases h2 : q = i
        · rw [h2, if_neg (Nat.lt_irrefl i), if_pos (by omega), hb]
        · rw [if_neg h, if_neg (by omega)]
    cases hui : u i with
    | false =>
      rw [hui] at ug hsame hcs; have hs2 := hsame (by unfold capU; rw [hui]; rfl)
      rw [if_neg (by simp)] at hcs
      rw [hs2] at hU2; have hU3 := Hdn.mk hU2; rw [<- hs2] at hU2; clear hstep hsame hs2; replace hL2 := Hdn.mk hL2
      focus (refine fq ?_; refine cm ?_; refine ax rfl (fun hc => ?_) (fun hc => ?_); refine ct ?_; refine bl ?_; refine gr ?_; refine gv ?_; refine il ?_; refine c9 ?_; refine gr ?_; refine jg ?_; refine fm ?_; refine di ?_; refine fx ?_; rotate_left; exact absurd hc aj)
      all_goals try (exfalso; omega)
      all_goals exact ⟨mm - 1, _, _, by omega, ba, i + 1, _, rfl, hL2.out, hU3.out, hcut2, by omega⟩
    | true =>
      rw [hui] at ug hsame hcs; rw [if_pos rfl] at hcs; by_cases hk2 : (List.range i).countP u + 1 <= k + 1
      · have hs2 := hsame (by unfold capU; rw [hui, decide_eq_true (by omega)]; rfl)
        rw [hs2] at hU2; have hU3 := Hdn.mk hU2; rw [<- hs2] at hU2; clear hstep hsame hs2; replace hL2 := Hdn.mk hL2
        focus (refine fq ?_; refine cm ?_; refine ax rfl (fun hc => ?_) (fun hc => ?_); refine ct ?_; refine bl ?_; refine gr ?_; refine gv ?_; refine il ?_; refine c9 ?_; refine gr ?_; refine jg ?_; refine gy ?_; refine az ?_; refine px ?_; refine dk ?_; refine an ?_; refine px ?_; refine dw ?_; refine aq ?_; refine jm ?_; intro hc; refine di ?_; refine fx ?_; rotate_left; exact absurd hc aj)
        all_goals try (exfalso; omega)
        all_goals exact ⟨mm - 1, _, _, by omega, ba, i + 1, _, rfl, hL2.out, hU3.out, hcut2, by omega⟩
      · have hs2 := hstep false (by unfold capU; rw [hui, decide_eq_false (by omega)]; rfl)
        have hs3 : ((List.range n).map fun q => AV.raw (.bool (if q < i then capU u (k + 1) q else u q))).set (0 + i * 1) (.raw (.bool false)) = (List.range n).map fun q => AV.raw (.bool (if q < i + 1 then capU u (k + 1) q else u q)) := by rw [show 0 + i * 1 = i by omega]; exact hs2
        have hL3 := hL2.other (p := oU) hdU (.cel ((List.range n).map fun q => AV.raw (.bool (if q < i + 1 then capU u (k + 1) q else u q))))
        have hU4 := arn (H5.set O4.k (.cel (((List.range n).map fun r => cutA (w5.cut r)).set (0 + i * 1) (.raw (.int .i64 (-1)))))) oU (.cel ((List.range n).map fun q => AV.raw (.bool (if q < i + 1 then capU u (k + 1) q else u q))))
        clear hstep hsame hs2; replace hL3 := Hdn.mk hL3; replace hU4 := Hdn.mk hU4; clear hL2
        focus (refine fq ?_; refine cm ?_; refine ax rfl (fun hc => ?_) (fun hc => ?_); refine ct ?_; refine bl ?_; refine gr ?_; refine gv ?_; refine il ?_; refine c9 ?_; refine gr ?_; refine jg ?_; refine gy ?_; refine az ?_; refine px ?_; refine dk ?_; refine an ?_; refine px ?_; refine dw ?_; refine aq ?_; refine ax rfl (fun hc => ?_) (fun hc => ?_); refine ca ?_; refine c9 ?_; refine gr ?_; refine jc ?_; refine fx ?_; rotate_left; exact absurd hc aj; exact absurd hc aj)
        all_goals try (exfalso; omega)
        all_goals exact ⟨mm - 1, _, _, by omega, ba, i + 1, _, rfl, hL3.out, hU4.out, hcut2, by omega⟩
  obtain ⟨up, hup⟩ : ∃ up : Nat -> Bool, up = fun q => decide (q < n) && capU u (k + 1) q := ⟨_, rfl⟩
  have hU0 : H5 oU = some (upA n up) := by
    rw [hU]; unfold upA; rw [List.map_congr_left fun q hq => ?_]
    have := List.mem_range.1 hq; rw [hup]; show AV.raw (.bool (if q < i then capU u (k + 1) q else u q)) = AV.raw (.bool (decide (q < n) && capU u (k + 1) q))
    rw [decide_eq_true this, if_pos (by omega)]; rfl
  have hupn : ∀ r, up r = true -> r < n := fun r h => by
    rw [hup] at h; simp only [Bool.and_eq_true, decide_eq_true_eq] at h; exact h.1
  have hupc : (List.range n).countP up = n / 2 + 1 := by
    have e1 : (List.range n).countP up = (List.range n).countP (capU u (k + 1)) := List.countP_congr fun q hq => by
      rw [hup]; show (decide (q < n) && capU u (k + 1) q) = true ↔ _
      rw [decide_eq_true (List.mem_range.1 hq)]; simp
    rw [e1, ad3]; omega
  have hn5 := hL.nn; have hL0 : LvI n ow 120 24000 120 H5 O4 F4 g4 { w5 with cut := fun _ => none } := ⟨hL.ew, hL.at_.nocut (fun q hq => hcut q (by rw [hn5] at hq; omega)), hL.wx.nocut, hL.nn, hL.ids, ⟨hL.pa.c, hL.pa.l⟩⟩
  have hk0 : ∀ p, ({ w5 with cut := fun _ => none } : Ag.W).cut p = none := fun _ => rfl
  generalize ({ w5 with cut := fun _ => none } : Ag.W) = w0 at *
  clear hL hcut hU hup hn5 b1 hcf; have b1 := hL0.aw; have bi := hL0.at_.ai; have hids := hL0.ids
  focus (refine fq ?_; refine cm ?_; refine c8 ?_; intro hc; refine az ?_; refine bc ?_; refine bq ?_; refine bc ?_; refine gi ?_)
  all_goals try (exfalso; omega)
  refine cv (fun mm R' H6 => ∃ (i id : Nat), R' = [(7, .ptr ow 0), (8, .vw oU 1 0 n), (14, .raw (.int .u64 (id : Int))), (15, .raw (.int .i64 (i : Int)))] /\ H6 = H5 /\ 1 <= id /\ id < 2 ^ 64 /\ i + mm = w0.ids.length) ?_ ?_
  · exact ⟨w0.ids.length, _, _, ba, 0, 1, rfl, rfl, by omega, by omega, by omega⟩
  clear hlt hi; rintro mm R0 H6 ⟨i, id, rfl, rfl, hid1, hid2, hi⟩; have hidl : w0.ids.length <= 120 := hL0.wx.idl; by_cases hlt : i < w0.ids.length
  · have hg : w0.ids[i]? = some w0.ids[i] := List.getElem?_eq_getElem hlt
    have hv := hids _ (List.getElem_mem hlt); have hg2 : (w0.ids.map fun x => uI x.1)[0 + i * 1]? = some (uI w0.ids[i].1) := by rw [show 0 + i * 1 = i by omega, List.getElem?_map, hg]; rfl
    have hgl : (w0.ids.map fun x => uI x.1).length = w0.ids.length := List.length_map _
    generalize w0.ids[i].1 = v at *; clear hg; replace hL0 := Hdn.mk hL0; by_cases hvi : id <= v
    · by_cases hvm : v = 18446744073709551615
      · subst hvm
        focus (refine fq ?_; refine iz ?_; refine cm ?_; refine ax rfl (fun hc => ?_) (fun hc => ?_); refine ct ?_; refine bl ?_; refine gr ?_; refine jg ?_; refine an ?_; refine ln ?_; refine aq ?_; refine ax rfl (fun hc => ?_) (fun hc => ?_); refine bq ?_; refine bl ?_; refine gr ?_; refine jg ?_; refine fh ?_; refine aq ?_; refine ax rfl (fun hc => ?_) (fun hc => ?_); refine cp ?_; refine fi ?_; refine fi ?_; rotate_left; exact absurd hc aj; exact absurd hc aj; exact absurd hc aj)
        all_goals try (exfalso; omega)
        all_goals exact ⟨.inl rfl, _, _, _, Ent.refl _ _, ret1 rfl rfl, rfl⟩
      · have hv3 : v + 1 < 2 ^ 64 := by omega
        focus (refine fq ?_; refine iz ?_; refine cm ?_; refine ax rfl (fun hc => ?_) (fun hc => ?_); refine ct ?_; refine bl ?_; refine gr ?_; refine jg ?_; refine an ?_; refine ln ?_; refine aq ?_; refine ax rfl (fun hc => ?_) (fun hc => ?_); refine bq ?_; refine bl ?_; refine gr ?_; refine jg ?_; refine fh ?_; refine aq ?_; refine gh ?_; intro hc; refine ca ?_; refine bl ?_; refine gr ?_; refine jg ?_; refine ae rfl (un rfl rfl au) ?_; refine dq ?_; refine bb ?_; refine fx ?_; rotate_left; exact absurd hc aj; exact absurd hc aj)
        all_goals try (exfalso; omega)
        all_goals exact ⟨mm - 1, _, _, by omega, ba, i + 1, v + 1, rfl, rfl, by omega, hv3, by omega⟩
    · focus (refine fq ?_; refine iz ?_; refine cm ?_; refine ax rfl (fun hc => ?_) (fun hc => ?_); refine ct ?_; refine bl ?_; refine gr ?_; refine jg ?_; refine an ?_; refine ln ?_; refine aq ?_; refine jm ?_; intro hc; refine di ?_; refine fx ?_; rotate_left; exact absurd hc aj)
      all_goals try (exfalso; omega)
      all_goals exact ⟨mm - 1, _, _, by omega, ba, i + 1, id, rfl, rfl, hid1, hid2, by omega⟩
  clear hids bi; have hok2 : ∀ r : Nat, r < 100 -> Ag.Act.Ok ⟨0, (r : Int), 0, id, [42]⟩ := fun r _ => ⟨hid2, fun v hv => by rw [List.mem_singleton.1 hv]; exact (show b64 42 from ⟨by decide, by decide⟩)⟩
  obtain ⟨K, wK, hK1, hK2, hKA, hKh⟩ := Ag.lives_all (up := up) (id := id) (row := [42]) (by rw [hL0.nn]; exact hupn) (by rw [hL0.nn]; exact hupc) (by omega) hok2 (by decide) hL0.wx hk0 (by rw [hL0.nn]; exact hL0.pa)
  have hA0 : Ag.AtK up id [42] w0 0 w0 := Ag.at_0 hL0.wx hk0; have hat0 := hL0.at_; have hew0 := hL0.ew; have hnn0 := hL0.nn; clear hL0
  focus (refine fq ?_; refine iz ?_; refine cm ?_; refine c8 ?_; intro hc; refine bq ?_; refine bc ?_; refine gi ?_)
  all_goals try (exfalso; omega)
  refine cv (fun mm R' H6 => ∃ (j : Nat) (O6 : Wo) (F6 : Nat -> Ob) (w6 : Ag.W), R' = [(7, .ptr ow 0), (8, .vw oU 1 0 n), (14, .raw (.int .u64 (id : Int))), (16, .raw (.int .i64 (j : Int)))] /\ O6.w = ow /\ WAt H6 O6 F6 w6 /\ Ag.AtK up id [42] w0 j w6 /\ H6 oU = some (upA n up) /\ ¬ Dom O6 F6 n oU /\ j < K /\ j + mm = K) ?_ ?_
  · exact ⟨K, _, _, ba, 0, O4, F4, w0, rfl, hew0, hat0, hA0, hU0, hdU, by omega, by omega⟩
  clear hA0 hat0 hew0 hU0 hdU b1 hlt hi; rintro mm R0 H6 ⟨j, O6, F6, w6, rfl, ew6, hA6, hT6, hU, hdU, hjK, hj⟩; obtain ⟨w7, hT7⟩ := Ag.step_any hok2 hT6 (by omega)
  obtain ⟨g6, hX6⟩ := hT6.wx; have hn6 : w6.n = n := hT6.n.trans hnn0; have b1 := hA6.aw; unfold worldC at b1; rw [ew6, hn6] at b1; obtain ⟨ws, gs, hse, hsx, hsc, hsn, hsi⟩ := Ag.subs_of (up := up) hok2 (List.range w6.n) hX6 hT6.cut (by omega) (fun r hr => List.mem_range.1 hr)
  rw [List.length_range, hn6] at hsx; rw [hn6] at hse hsn; have hgo7 := hT7.go; have hgo6 := hT6.go; have hcut6 := hT6.cut; replace hKA := Hdn.mk hKA; replace hKh := Hdn.mk hKh; replace hT7 := Hdn.mk hT7; replace hsi := Hdn.mk hsi; clear hT6
  focus (refine fq ?_; refine ae rfl (my rfl rfl au) ?_; refine ae rfl (zd rfl rfl au) ?_; refine cm ?_; refine ax rfl (fun hc => ?_) (fun hc => ?_); refine cy ?_; rotate_left; exact absurd hc aj)
  all_goals try (exfalso; omega)
  refine bf ?_; refine gi ?_; refine bf ?_; refine mg (fun R' H7 => ∃ (O7 : Wo) (F7 : Nat -> Ob) (g7 : Ag.Gh) (v : Ag.W), R' = [(7, .ptr ow 0), (8, .vw oU 1 0 n), (14, .raw (.int .u64 (id : Int))), (16, .raw (.int .i64 (j : Int)))] /\ O7.w = ow /\ WAt H7 O7 F7 v /\ WX g7 v (120 + 7 * j) (24000 + 802800 * j + 1400) (120 + 7 * j + 7) /\ (∀ p, v.cut p = none) /\ v.n = n /\ (if j % 50 = 0 then Ag.foldO (Ag.W.subR up id [42]) w6 (List.range w6.n) else some w6) = some v /\ H7 oU = some (upA n up) /\ ¬ Dom O7 F7 n oU) ?_ ?_
  · by_cases h50 : j % 50 = 0
    rotate_left
    · have hXm : WX g6 w6 (120 + 7 * j) (24000 + 802800 * j + 1400) (120 + 7 * j + 7) := hX6.more (Nat.le_refl _) (by omega) (by omega)
      clear hX6 hsx hgo7 hgo6
      focus (refine gn ?_; refine ae rfl (uq rfl rfl au) ?_; refine fh ?_; refine aq ?_; refine gh ?_; intro hc)
      all_goals try (exfalso; omega)
      all_goals exact ⟨_, _, ba, O6, F6, g6, w6, rfl, ew6, hA6, hXm, hcut6, hn6, if_neg h50, hU, hdU⟩
    rw [if_pos h50, hn6, hse]; have h0 : RLp (Ag.W.subR up id [42]) n (120 + 7 * j) (24000 + 802800 * j) (120 + 7 * j) H6 O6 F6 ws (List.range n) H6 O6 F6 g6 w6 := ⟨hA6, hX6, hcut6, hn6, hse, TurnW.refl _ _ _ _⟩; clear hse hX6 hA6 hcut6 hsx hsc hsn hgo7 hgo6
    focus (refine gn ?_; refine ae rfl (uq rfl rfl au) ?_; refine fh ?_; refine aq ?_)
    all_goals try (exfalso; omega)
    focus (refine ax rfl (fun hc => ?_) (fun hc => ?_); refine az ?_; refine bc ?_; refine gi ?_; rotate_left; exact absurd hc aj)
    refine cv (fun m2 R' H7 => ∃ (r : Nat) (O7 : Wo) (F7 : Nat -> Ob) (g7 : Ag.Gh) (v : Ag.W), R' = [(7, .ptr ow 0), (8, .vw oU 1 0 n), (14, .raw (.int .u64 (id : Int))), (16, .raw (.int .i64 (j : Int))), (17, .raw (.int .i64 (r : Int)))] /\ RLp (Ag.W.subR up id [42]) n (120 + 7 * j) (24000 + 802800 * j + 200 * r) (120 + 7 * j + r) H6 O6 F6 ws ((List.range n).drop r) H7 O7 F7 g7 v /\ r + m2 = n) ?_ ?_
    · exact ⟨n, _, _, ba, 0, O6, F6, g6, w6, rfl, h0, by omega⟩
    clear h0 b1 hn6; rintro m2 R1 H7 ⟨r, O7, F7, g7, v, rfl, hL, hr⟩; have hw : O7.w = ow := hL.turn.w.trans ew6; have b1 := hL.at_.aw; unfold worldC at b1; rw [hw, hL.nn] at b1; obtain ⟨u1, u2⟩ := hL.turn.keep hU hdU; by_cases hlt : r < n
    rotate_left
    · have hgo := hL.go
      rw [List.drop_eq_nil_of_le (by rw [List.length_range]; omega)] at hgo
      obtain rfl := Option.some.inj hgo; have hX2 := hL.wx.more (q' := 120 + 7 * j) (B' := 24000 + 802800 * j + 1400) (I' := 120 + 7 * j + 7) (Nat.le_refl _) (by omega) (by omega)
      have hfin : WAt H7 O7 F7 v /\ (∀ p, v.cut p = none) /\ v.n = n := ⟨hL.at_, hL.cut, hL.nn⟩; clear hL
      focus (refine fq ?_; refine cm ?_; refine c8 ?_; intro hc)
      all_goals try (exfalso; omega)
      all_goals exact ⟨_, _, ba, O7, F7, g7, v, rfl, hw, hfin.1, hX2, hfin.2.1, hfin.2.2, rfl, u1, u2⟩
    have hrg : (List.range n)[r]? = some r := List.getElem?_range hlt; have hgo := hL.go; rw [aap hrg] at hgo; unfold Ag.foldO at hgo; have ur : ((List.range n).map fun r => AV.raw (.bool (up r)))[0 + r * 1]? = some (.raw (.bool (up r))) := by rw [show 0 + r * 1 = r by omega]; exact yo hlt
    have uu := Hdn.mk u1; unfold upA at u1; obtain ⟨us, hus⟩ : ∃ us, us = (List.range n).map fun r => AV.raw (.bool (up r)) := ⟨_, rfl⟩
    have hul : us.length = n := by rw [hus, List.length_map, List.length_range]
    rw [<- hus] at u1 ur; replace hus := Hdn.mk hus
    cases hur : up r with
    | false =>
      rw [hur] at ur; have e1 : Ag.W.subR up id [42] v r = some v := by unfold Ag.W.subR; rw [hur]; rfl
      rw [e1, Option.bind_some] at hgo; have hL2 : RLp (Ag.W.subR up id [42]) n (120 + 7 * j) (24000 + 802800 * j + 200 * (r + 1)) (120 + 7 * j + (r + 1)) H6 O6 F6 ws ((List.range n).drop (r + 1)) H7 O7 F7 g7 v := ⟨hL.at_, hL.wx.more (Nat.le_refl _) (by omega) (by omega), hL.cut, hL.nn, hgo, hL.turn⟩
      clear hL hgo e1
      focus (refine fq ?_; refine cm ?_; refine ax rfl (fun hc => ?_) (fun hc => ?_); refine ct ?_; refine c9 ?_; refine gr ?_; refine jg ?_; refine an ?_; refine dp ?_; refine gp ?_; refine fb ?_; refine cd ?_; refine fm ?_; refine di ?_; refine fx ?_; rotate_left; exact absurd hc aj)
      all_goals try (exfalso; omega)
      all_goals exact ⟨m2 - 1, _, _, by omega, ba, r + 1, O7, F7, g7, v, rfl, hL2, by omega⟩
    | true =>
      rw [hur] at ur; have hDo := aow (up := up) H7 O7 F7 g7 v _ _ _ r id [42] hL.at_ hL.wx hL.cut (by rw [hL.nn]; exact hlt) hur (hok2 r (by omega)) (by omega) (by omega) (by omega) (by simp)
      rw [hw, hL.nn] at hDo
      replace hDo := (hDo.weak (xs := [.ptr ow 0, .agg [mI 0, mI (r : Int), mI 0, .raw (.int .u64 (id : Int)), .slsx 1 [.raw (.int .i64 42)]]]) (WL.cons (W.of rfl) (WL.cons (qb (WL.cons (W.of rfl) (WL.cons (W.of rfl) (WL.cons (W.of rfl) (WL.cons (W.of rfl) (WL.cons (W.slsx rfl) WL.nil)))))) WL.nil))).mono (Kc' := fun r' H' => r' = bB true /\ ∃ v' g' O' F', RLp (Ag.W.subR up id [42]) n (120 + 7 * j) (24000 + 802800 * j + 200 * (r + 1)) (120 + 7 * j + (r + 1)) H6 O6 F6 ws ((List.range n).drop (r + 1)) H' O' F' g' v') fun r' H' ⟨e, v', g', O', F', e1, e2, e3, e4, e5, e6⟩ => ⟨e, v', g', O', F', e5, e2, e3.cut, e3.n.trans hL.nn, by
        rw [Ag.subR_act (by rw [hL.nn]; exact hlt) hur, e1, Option.bind_some] at hgo; exact hgo, hL.turn.trans e6⟩
      clear hL hgo
      focus (refine fq ?_; refine cm ?_; refine ax rfl (fun hc => ?_) (fun hc => ?_); refine ct ?_; refine c9 ?_; refine gr ?_; refine jg ?_; refine i9 ?_; refine ep ?_; refine ep ?_; refine kq ?_; refine a0 ?_; refine jn ?_; refine a0 ?_; (refine zc ah (hDo) ?_; rintro r H' ⟨rfl, v', g', O', F', hL2⟩); refine a0 ?_; refine ea ?_; refine bu ?_; refine fm ?_; refine di ?_; refine fx ?_; rotate_left; exact absurd hc aj)
      all_goals try (exfalso; omega)
      all_goals exact ⟨m2 - 1, _, _, by omega, ba, r + 1, O', F', g', v', rfl, hL2, by omega⟩
  clear hse hX6 hA6 hcut6 hsx hsc hsn hU hdU b1 hsi ws gs; rintro R1 H7 ⟨O7, F7, g7, v, rfl, ew7, hA7, hX7, hcut7, hn7', hgo, hU, hdU⟩; have hRd := ark H7 O7 F7 g7 v _ _ _ oU up hA7 hX7 hcut7 (by omega) (by omega) (by omega) (by rw [hn7']; exact hU) (by rw [hn7']; exact hdU)
  rw [ew7, hn7'] at hRd
  replace hRd := hRd.mono (Kc' := fun r' H' => r' = bB true /\ ∃ g' O' F', O'.w = ow /\ WAt H' O' F' w7 /\ H' oU = some (upA n up) /\ ¬ Dom O' F' n oU) fun r' H' ⟨e, w', g', O', F', e1, e2, e3, e4, e5, e6⟩ => by
    have hww : w' = w7 := by
      have h1 : Ag.W.lives up id [42] w0 (j + 1) = some w' := by
        show (Ag.W.lives up id [42] w0 j).bind (Ag.W.live up id [42] j) = some w'
        rw [hgo6, Option.bind_some]; unfold Ag.W.live; rw [hgo, Option.bind_some]; exact e1
      rw [hgo7] at h1; exact (Option.some.inj h1).symm
    subst hww; obtain ⟨k1, k2⟩ := e6.keep hU hdU; exact ⟨e, g', O', F', e6.w.trans ew7, e5, k1, k2⟩
  clear hA7 hX7 hcut7 hgo hgo6 hgo7 hU hdU
  focus (refine bq ?_; refine cu ?_; refine c9 ?_; (refine zc ah (hRd) ?_; rintro r H' ⟨rfl, g8, O8, F8, ew8, hA8, hU, hdU⟩); refine ea ?_; refine fm ?_; refine cy ?_)
  all_goals try (exfalso; omega)
  replace hT7 := hT7.out; obtain ⟨g9, hX9⟩ := hT7.wx; have hn9 : w7.n = n := hT7.n.trans hnn0; have hcf := fun r (hr : r < n) => hX9.cf (r := r) (by omega) (by rw [hn9]; exact hr)
  have hHas := fun r (hr : r < n) => ao9 _ O8 F8 w7 r id hA8 (by rw [hn9]; exact hr) (by omega) (hcf r hr)
  rw [ew8] at hHas
  have hlast : allH up id w7 n = false -> j + 1 < K := fun hf => by
    refine Nat.lt_of_le_of_ne (by omega) fun e => ?_
    have h1 := hT7.go; rw [e, hKA.out.go] at h1; have h2 := Option.some.inj h1; have h3 := amh (n := n) hKh.out; rw [h2, hf] at h3; cases h3
  replace hT7 := Hdn.mk hT7; replace hA8 := Hdn.mk hA8; clear hX9 hcf; refine bf ?_; refine mg (fun R' H9 => H9 = H' /\ R' = [(7, .ptr ow 0), (8, .vw oU 1 0 n), (14, .raw (.int .u64 (id : Int))), (16, .raw (.int .i64 (j : Int))), (18, .raw (.bool true))]) ?_ ?_
  · focus (refine ca ?_; refine bc ?_)
    exact ⟨_, _, ba, rfl, rfl⟩
  rintro R1 H9 ⟨rfl, rfl⟩
  focus (refine bq ?_; refine bc ?_; refine gi ?_)
  refine cv (fun m2 R' H8 => ∃ (r : Nat), R' = [(7, .ptr ow 0), (8, .vw oU 1 0 n), (14, .raw (.int .u64 (id : Int))), (16, .raw (.int .i64 (j : Int))), (18, .raw (.bool (allH up id w7 r))), (19, .raw (.int .i64 (r : Int)))] /\ H8 = H9 /\ r + m2 = n) ?_ ?_
  · exact ⟨n, _, _, ba, 0, rfl, rfl, by omega⟩
  rintro m2 R2 H8 ⟨r, rfl, rfl, hr⟩; have b1 := hA8.out.aw; unfold worldC at b1; rw [ew8, hn9] at b1; by_cases hlt : r < n
  rotate_left
  · obtain hrn : r = n := by omega
    rw [hrn]
    cases hal : allH up id w7 n with
    | true =>
      focus (refine fq ?_; refine cm ?_; refine c8 ?_; intro hc; refine az ?_; refine oz ?_; refine ia ?_; refine cp ?_; refine j9 ?_; refine fi ?_)
      all_goals try (exfalso; omega)
      all_goals exact ⟨.inl rfl, _, _, _, Ent.refl _ _, ret1 rfl rfl, rfl⟩
    | false =>
      have hjk := hlast hal
      focus (refine fq ?_; refine cm ?_; refine c8 ?_; intro hc; refine az ?_; refine oz ?_; refine j6 ?_; refine fx ?_)
      all_goals try (exfalso; omega)
      all_goals exact ⟨mm - 1, _, _, by omega, ba, j + 1, O8, F8, w7, rfl, ew8, hA8.out, hT7.out, hU, hdU, hjk, by omega⟩
  have hs := akh up id w7 r; have hH := hHas r hlt; clear hHas hlast; have ur : ((List.range n).map fun r => AV.raw (.bool (up r)))[0 + r * 1]? = some (.raw (.bool (up r))) := by rw [show 0 + r * 1 = r by omega]; exact yo hlt
  unfold upA at hU; obtain ⟨us, hus⟩ : ∃ us, us = (List.range n).map fun r => AV.raw (.bool (up r)) := ⟨_, rfl⟩
  have hul : us.length = n := by rw [hus, List.length_map, List.length_range]
  rw [<- hus] at hU ur; replace hus := Hdn.mk hus; generalize Ag.hasId ((w7.c r).list.take (w7.c r).agreed) id = bh at *
  cases hal : allH up id w7 r with
  | false =>
    rw [hal] at hs; replace hs := Hdn.mk (show allH up id w7 (r + 1) = false from hs)
    focus (refine fq ?_; refine cm ?_; refine ax rfl (fun hc => ?_) (fun hc => ?_); refine js ?_; refine ca ?_; refine an ?_; refine an ?_; refine dp ?_; refine gp ?_; refine jw ?_; refine jw ?_; refine jw ?_; refine jw ?_; refine fb ?_; refine cd ?_; refine dq ?_; refine bb ?_; refine fx ?_; rotate_left; exact absurd hc aj)
    all_goals try (exfalso; omega)
    all_goals exact ⟨m2 - 1, [(7, .ptr ow 0), (8, .vw oU 1 0 n), (14, .raw (.int .u64 (id : Int))), (16, .raw (.int .i64 (j : Int))), (18, .raw (.bool false)), (19, .raw (.int .i64 ((r + 1 : Nat) : Int)))], _, by omega, ba, r + 1, by rw [hs.out], rfl, by omega⟩
  | true =>
    cases hur : up r with
    | false =>
      rw [hal, hur] at hs; rw [hur] at ur; replace hs := Hdn.mk (show allH up id w7 (r + 1) = true from hs)
      focus (refine fq ?_; refine cm ?_; refine ax rfl (fun hc => ?_) (fun hc => ?_); refine js ?_; refine ca ?_; refine an ?_; refine ep ?_; refine c9 ?_; refine a0 ?_; refine ep ?_; refine pk ?_; refine a0 ?_; refine jg ?_; refine a0 ?_; refine ea ?_; refine a0 ?_; refine an ?_; refine dp ?_; refine a0 ?_; refine bu ?_; refine bu ?_; refine dq ?_; refine bb ?_; refine fx ?_; rotate_left; exact absurd hc aj)
      all_goals try (exfalso; omega)
      all_goals exact ⟨m2 - 1, [(7, .ptr ow 0), (8, .vw oU 1 0 n), (14, .raw (.int .u64 (id : Int))), (16, .raw (.int .i64 (j : Int))), (18, .raw (.bool true)), (19, .raw (.int .i64 ((r + 1 : Nat) : Int)))], _, by omega, ba, r + 1, by rw [hs.out], rfl, by omega⟩
    | true =>
      rw [hal, hur] at hs; rw [hur] at ur; replace hs := Hdn.mk (show allH up id w7 (r + 1) = bh from hs)
      focus (refine fq ?_; refine cm ?_; refine ax rfl (fun hc => ?_) (fun hc => ?_); refine js ?_; refine ca ?_; refine an ?_; refine ep ?_; refine c9 ?_; refine a0 ?_; refine ep ?_; refine pk ?_; refine a0 ?_; refine jg ?_; refine a0 ?_; refine ea ?_; refine a0 ?_; refine i9 ?_; refine ep ?_; refine ep ?_; (refine zc ah (hH) ?_; rintro r H' ⟨rfl, rfl⟩); refine a0 ?_; refine cd ?_; refine bu ?_; refine dq ?_; refine bb ?_; refine fx ?_; rotate_left; exact absurd hc aj)
      all_goals try (exfalso; omega)
      all_goals exact ⟨m2 - 1, [(7, .ptr ow 0), (8, .vw oU 1 0 n), (14, .raw (.int .u64 (id : Int))), (16, .raw (.int .i64 (j : Int))), (18, .raw (.bool bh)), (19, .raw (.int .i64 ((r + 1 : Nat) : Int)))], _, by omega, ba, r + 1, by rw [hs.out], rfl, by omega⟩
end Go.Proofs.Ytbciofnejefkiaa
