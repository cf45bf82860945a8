import Derived.Test.YtbciofnejefkiaaIa7
import Derived.Test.YtbciofnejefkiaaIz
import Derived.Test.YtbciofnejefkiaaAmSwap
set_option linter.unusedVariables false
set_option linter.unusedSimpArgs false
set_option maxRecDepth 20000
set_option maxHeartbeats 4000000
namespace Go.Proofs.Ytbciofnejefkiaa
open Go Go.Am Go.Proofs

open Ag (GOK COK WG MOK SOK LOK)
theorem WX.more {g : Ag.Gh} {w : Ag.W} {q B I q' B' I' : Nat} (h : WX g w q B I) (h1 : q ≤ q') (h2 : B ≤ B') (h3 : I ≤ I') : WX g w q' B' I' :=
  ⟨h.wg, h.odd, fun r hr => Nat.le_trans (h.quiet r hr) h1, h.sv, fun r hr => Nat.le_trans (h.svl r hr) h2, Nat.le_trans h.idl h3, h.row, h.l, h.cut⟩
theorem sm_save {c : Ag.Co} {s : Ag.St} (h : Sm 200 1400 ⟨c, [], []⟩ s) : s.save.length ≤ 200 := by have := h.sv; simp only [List.length_nil] at this; omega
theorem WX.tick {g : Ag.Gh} {w : Ag.W} {q B I : Nat} (h : WX g w q B I) (hq : q < 1000000) {r : Nat} (hr : r < w.n) :
    ∃ w' g', w.step r (w.c r).tick = some w' ∧ WX g' w' (q + 1) (B + 200) I ∧ w'.n = w.n ∧ w'.ids = w.ids := by
  have hcf := h.cf (by omega) hr
  have hqr := h.quiet r hr
  obtain ⟨y1, y2⟩ := tick_fine hcf (by omega)
  obtain ⟨hc0, hm0⟩ := h.wg.c r hr
  obtain ⟨g', _, x2⟩ := Ag.tick_ok h.wg.gok hc0
  rw [hm0] at x2
  exact h.step hr x2 y2 (sm_save y1) (by have := (gr_tick (w.c r)).2; omega) (by omega)
theorem WX.get {g : Ag.Gh} {w : Ag.W} {q B I : Nat} (h : WX g w q B I) (hq : q < 1000000) {m : Mg} (hm : MOK g m) :
    ∃ w' g', w.step m.to.toNat ((w.c m.to.toNat).get m) = some w' ∧ WX g' w' q (B + 200) I ∧ w'.n = w.n ∧ w'.ids = w.ids := by
  have hr : m.to.toNat < w.n := by have := hm.to; have := h.wg.n; omega
  have hcf := h.cf (by omega) hr
  have hqr := h.quiet _ hr
  obtain ⟨y1, y2⟩ := get_fine hcf (hm.okm (by rw [h.wg.n]; exact h.wg.n7))
  obtain ⟨hc0, hm0⟩ := h.wg.c _ hr
  obtain ⟨g', _, x2⟩ := Ag.get_ok h.wg.gok hc0 hm
  rw [hm0] at x2
  exact h.step hr x2 y2 (sm_save y1) (by have := (gr_get (w.c m.to.toNat) m).quiet; omega) (by omega)
theorem WX.subm {g : Ag.Gh} {w : Ag.W} {q B I : Nat} (h : WX g w q B I) (hq : q < 1000000) {a : Ag.Act} (ok : a.Ok) {r : Nat} (hr : r < w.n) :
    ∃ w' g', (wIn w a).step r ((w.c r).submit a.id a.row) = some w' ∧ WX g' w' q (B + 200) (I + 1) ∧ w'.n = w.n ∧ w'.ids = (wIn w a).ids := by
  obtain ⟨g1, g', x1, x2⟩ := h.submit ok hr
  have hcf := h.cf (by omega) hr
  have hqr := h.quiet _ hr
  have hen : (⟨a.id, 0, a.row⟩ : En).Ok := ⟨ok.id, by simp, ok.row⟩
  obtain ⟨y1, y2⟩ := submit_fine hcf hen
  have hvn : (wIn w a).n = w.n := by unfold wIn; split <;> rfl
  obtain ⟨w', g2, e1, e2, e3, e4⟩ := x1.step (by rw [hvn]; exact hr) x2 y2 (sm_save y1) (by have := (gr_submit (w.c r) a.id a.row).quiet; omega) (Nat.le_refl q)
  exact ⟨w', g2, e1, e2, e3.trans hvn, e4⟩
theorem WX.act {g : Ag.Gh} {w : Ag.W} {q B I : Nat} (h : WX g w q B I) (hq : q < 1000000) {a : Ag.Act} (ok : a.Ok) (hk : b64 a.k) :
    ∃ w' g', w.act a = some w' ∧ WX g' w' (q + 1) (B + 200) (I + 1) ∧ w'.n = w.n := by
  have h1 : WX g w (q + 1) (B + 200) (I + 1) := h.more (by omega) (by omega) (by omega)
  unfold Ag.W.act
  split
  · split
    · next ht =>
      have hr : a.r.toNat < w.n := by have h1 := ht.1; have h2 := ht.2; omega
      obtain ⟨w', g', e1, e2, e3, _⟩ := h.subm hq ok hr
      exact ⟨w', g', e1, e2.more (by omega) (by omega) (by omega), e3⟩
    · exact ⟨w, g, rfl, h1, rfl⟩
  split
  · split
    · next ht =>
      have hr : a.r.toNat < w.n := by have h1 := ht.1; have h2 := ht.2; omega
      obtain ⟨w', g', e1, e2, e3, _⟩ := h.tick hq hr
      exact ⟨w', g', e1, e2.more (by omega) (by omega) (by omega), e3⟩
    · exact ⟨w, g, rfl, h1, rfl⟩
  split
  · cases hm : (if w.packet a then w.l[a.k.toNat]? else none) with
    | none => exact ⟨w, g, rfl, h1, rfl⟩
    | some m =>
      have hmem : m ∈ w.l := by
        split at hm
        · exact List.mem_of_getElem? hm
        · cases hm
      obtain ⟨w', g', e1, e2, e3, _⟩ := (h.out a.k.toNat).get hq (h.wg.l m hmem)
      exact ⟨w', g', e1, e2.more (by omega) (by omega) (by omega), e3⟩
  split
  · split
    · exact ⟨_, g, rfl, h1.out _, rfl⟩
    · exact ⟨w, g, rfl, h1, rfl⟩
  split
  · cases hm : (if w.packet a then w.l[a.k.toNat]? else none) with
    | none => exact ⟨w, g, rfl, h1, rfl⟩
    | some m =>
      have hmem : m ∈ w.l := by
        split at hm
        · exact List.mem_of_getElem? hm
        · cases hm
      dsimp only
      split
      · next hl =>
        obtain ⟨⟨a1, a2, a3, a4, a5, a6, a7, a8⟩, b1, b2, b3, b4, b5, b6, b7, b8⟩ := h1
        refine ⟨_, g, rfl, ⟨⟨a1, a2, a3, a4, a5, a6, fun x hx => ?_, a8⟩, b1, b2, b3, b4, b5, b6, by show (w.l ++ [m]).length ≤ 4000; rw [List.length_append]; simp only [List.length_cons, List.length_nil]; omega, b8⟩, rfl⟩
        rcases List.mem_append.1 hx with hx | hx
        · exact a7 x hx
        · rw [List.mem_singleton.1 hx]; exact a7 m hmem
      · exact ⟨_, g, rfl, h1, rfl⟩
  split
  · split
    · next ht =>
      have hr : a.r.toNat < w.n := by have h1 := ht.1; have h2 := ht.2; omega
      obtain ⟨d, x1, x2⟩ := Ag.opened_act h.wg hr
      obtain ⟨b, y1, y2⟩ := Ag.told_ok x2 hr
      obtain ⟨d', ho, hd⟩ := opened_some x1
      have hdd : d = d' := by
        have := congrArg (fun w : Ag.W => w.c a.r.toNat) hd
        simpa [Ag.upd] using this
      refine ⟨_, g, by rw [x1, Option.bind_some, y1], ⟨y2, h.odd, fun p hp => ?_, h1.sv, h1.svl, h1.idl, h.row, h.l, h.cut⟩, rfl⟩
      show (Ag.upd w.c a.r.toNat d p).quiet ≤ q + 1
      unfold Ag.upd
      split
      · rw [hdd, (open_fine hr h.wg.n7 (h.sv _ hr) ho).2.2.2]; omega
      · exact h1.quiet p hp
    · exact ⟨w, g, rfl, h1, rfl⟩
  split
  · refine ⟨_, g, rfl, ?_, ?_⟩
    · split
      · next ht =>
        obtain ⟨⟨a1, a2, a3, a4, a5, a6, a7, a8⟩, b1, b2, b3, b4, b5, b6, b7, b8⟩ := h1
        refine ⟨⟨a1, a2, a3, a4, a5, a6, a7, a8⟩, b1, b2, b3, b4, b5, b6, b7, fun p k hp => ?_⟩
        have hp' : Ag.upd w.cut a.r.toNat (some a.k.toNat) p = some k := hp
        unfold Ag.upd at hp'
        split at hp'
        · cases hp'
          have := hk.2
          omega
        · exact b8 p k hp'
      · exact h1
    · split <;> rfl
  · exact ⟨w, g, rfl, h1, rfl⟩
theorem WX.begun {n : Nat} (h1 : 0 < n) (h7 : n ≤ 7) (h2 : n % 2 = 1) : WX ⟨n, fun _ => 0, fun _ v => if v = 0 then some [] else none, fun _ => 0, []⟩ (Ag.W.begun n) 0 0 0 :=
  ⟨Ag.begun_ok h1 h7, h2, fun r hr => Nat.le_refl _, fun r hr x hx => (by cases hx), fun r hr => Nat.le_refl _, Nat.le_refl _, fun x hx => (by cases hx), Nat.zero_le _, fun r k hk => (by cases hk)⟩
end Go.Proofs.Ytbciofnejefkiaa

namespace Go.Proofs.Ytbciofnejefkiaa
open Go Go.Am Go.Proofs

structure BAt (H0 H : AHeap) (O : Wo) (F : Nat → Ob) (n i : Nat) : Prop where
  aw : H O.w = some (.cel [mI n, .vw O.c 1 0 i, .vw O.s 1 0 i, .vw O.k 1 0 i, .vw O.l 9 0 0, .vw O.i 1 0 0, .vw O.r 1 0 0, .vw O.b 3 0 0])
  ac : H O.c = some (.cel ((List.range i).map fun r => .ptr (F r).o 0))
  asv : H O.s = some (.cel ((List.range i).map fun r => svA r n []))
  ak : H O.k = some (.cel ((List.range i).map fun r => cutA none))
  al : H O.l = some (.cel [])
  ai : H O.i = some (.cel [])
  ar : H O.r = some (.cel [])
  ab : H O.b = some (.cel [])
  nd : O.l'.Nodup
  co : ∀ r, r < i → CAt H (F r) (Ag.Co.new r n)
  ndC : ∀ r, r < i → NdC (F r)
  ap : ∀ r, r < i → ∀ p ∈ (F r).c, p ∉ O.l'
  rr : ∀ r s, r < i → s < i → r ≠ s → ∀ p ∈ (F r).c, p ∉ (F s).c
  f1 : ∀ p ∈ O.l', H0 p = none
  f2 : ∀ r, r < i → ∀ p ∈ (F r).c, H0 p = none
  fr : ∀ p y, H0 p = some y → H p = some y
theorem BAt.live {H0 H : AHeap} {O : Wo} {F : Nat → Ob} {n i : Nat} (h : BAt H0 H O F n i) : ∀ p ∈ O.l', ∃ y, H p = some y := fun p hd => by
  simp only [Wo.l', List.mem_cons, List.not_mem_nil, or_false] at hd
  rcases hd with e | e | e | e | e | e | e | e <;> rw [e]
  · exact ⟨_, h.aw⟩
  · exact ⟨_, h.ac⟩
  · exact ⟨_, h.asv⟩
  · exact ⟨_, h.ak⟩
  · exact ⟨_, h.al⟩
  · exact ⟨_, h.ai⟩
  · exact ⟨_, h.ar⟩
  · exact ⟨_, h.ab⟩
theorem BAt.done {H0 H : AHeap} {O : Wo} {F : Nat → Ob} {n : Nat} (h : BAt H0 H O F n n) : WAt H O F (Ag.W.begun n) ∧ (∀ p, Dom O F n p → H0 p = none) :=
  ⟨⟨h.aw, h.ac, h.asv, h.ak, h.al, h.ai, h.ar, h.ab, h.nd, h.co, h.ndC, h.ap, h.rr⟩, fun p hp => by
    rcases hp with hp | ⟨r, hr, hp⟩
    · exact h.f1 p hp
    · exact h.f2 r hr p hp⟩
theorem aw_own_gen {P : Program} {n : Nat} {K : Exit → Regs → AHeap → Prop} {R : Regs} {H : AHeap} {c : Code} {o : Nat} {xs : List AV} (k sz : Nat) (hH : H o = some (.cel xs)) (hk : xs[k]? = some (.raw (.slice none 0 0)))
    (h : ∀ H2 ow, H ow = none → H2 o = some (.cel (xs.set k (.vw ow sz 0 0))) → H2 ow = some (.cel []) → (∀ p y, H p = some y → p ≠ o → H2 p = some y) → AW P n c K R H2) : AW P n c K R H := by
  refine aw_own_cell k sz hH hk fun ow how => ?_
  have hne : o ≠ ow := fun e => by rw [← e, hH] at how; cases how
  exact h _ ow how (AHeap.get_skip hne (AHeap.set_self _ _ _)) (AHeap.set_self _ _ _) fun p y hp hn => AHeap.get_skip (fun e => by rw [e, how] at hp; cases hp) (AHeap.get_skip hn hp)
theorem aw_world {P : Program} {m : Nat} {K : Exit → Regs → AHeap → Prop} {R : Regs} {H H0 : AHeap} {c : Code} {oN n : Nat} (F : Nat → Ob) (hN : H0 oN = none) (hH : H oN = some (.cel [mI n, .raw (.slice none 0 0), .raw (.slice none 0 0), .raw (.slice none 0 0), .raw (.slice none 0 0), .raw (.slice none 0 0), .raw (.slice none 0 0), .raw (.slice none 0 0)])) (hfr : ∀ p y, H0 p = some y → H p = some y)
    (h : ∀ H1 O, O.w = oN → BAt H0 H1 O F n 0 → AW P m c K R H1) : AW P m c K R H := by
  have hup : ∀ {H H' : AHeap} {p : Nat}, (∀ p y, H p = some y → p ≠ oN → H' p = some y) → p ≠ oN → H' p = none → H p = none := fun hf hn hp => by
    rename_i H H' p
    cases hx : H p with
    | none => rfl
    | some y => rw [hf _ _ hx hn] at hp; cases hp
  have hne : ∀ {H : AHeap} {p q : Nat} {y : AO}, H p = some y → H q = none → p ≠ q := fun a b e => by rw [e, b] at a; cases a
  have h0 : ∀ {H : AHeap} {p : Nat}, (∀ p y, H0 p = some y → H p = some y) → H p = none → H0 p = none := fun hf hp => by
    rename_i H p
    cases hx : H0 p with
    | none => rfl
    | some y => rw [hf _ _ hx] at hp; cases hp
  have hfn : ∀ {p : Nat} {y : AO}, H0 p = some y → p ≠ oN := fun a e => by rw [e, hN] at a; cases a
  refine aw_own_gen 1 1 hH rfl fun H1 o1 a1 b1 c1 d1 => ?_
  have e1 : ∀ p y, H0 p = some y → H1 p = some y := fun p y hp => d1 p y (hfr p y hp) (hfn hp)
  refine aw_own_gen 2 1 b1 rfl fun H2 o2 a2 b2 c2 d2 => ?_
  have e2 : ∀ p y, H0 p = some y → H2 p = some y := fun p y hp => d2 p y (e1 p y hp) (hfn hp)
  have n1 := hne hH a1
  have g1 := d2 _ _ c1 n1.symm
  refine aw_own_gen 3 1 b2 rfl fun H3 o3 a3 b3 c3 d3 => ?_
  have e3 : ∀ p y, H0 p = some y → H3 p = some y := fun p y hp => d3 p y (e2 p y hp) (hfn hp)
  have n2 := hne b1 a2
  have g2 := d3 _ _ c2 n2.symm
  have h1 := d3 _ _ g1 n1.symm
  refine aw_own_gen 4 9 b3 rfl fun H4 o4 a4 b4 c4 d4 => ?_
  have e4 : ∀ p y, H0 p = some y → H4 p = some y := fun p y hp => d4 p y (e3 p y hp) (hfn hp)
  have n3 := hne b2 a3
  have g3 := d4 _ _ c3 n3.symm
  have h2 := d4 _ _ g2 n2.symm
  have i1 := d4 _ _ h1 n1.symm
  refine aw_own_gen 5 1 b4 rfl fun H5 o5 a5 b5 c5 d5 => ?_
  have e5 : ∀ p y, H0 p = some y → H5 p = some y := fun p y hp => d5 p y (e4 p y hp) (hfn hp)
  have n4 := hne b3 a4
  have g4 := d5 _ _ c4 n4.symm
  have h3 := d5 _ _ g3 n3.symm
  have i2 := d5 _ _ h2 n2.symm
  have j1 := d5 _ _ i1 n1.symm
  refine aw_own_gen 6 1 b5 rfl fun H6 o6 a6 b6 c6 d6 => ?_
  have e6 : ∀ p y, H0 p = some y → H6 p = some y := fun p y hp => d6 p y (e5 p y hp) (hfn hp)
  have n5 := hne b4 a5
  have g5 := d6 _ _ c5 n5.symm
  have h4 := d6 _ _ g4 n4.symm
  have i3 := d6 _ _ h3 n3.symm
  have j2 := d6 _ _ i2 n2.symm
  have k1 := d6 _ _ j1 n1.symm
  refine aw_own_gen 7 3 b6 rfl fun H7 o7 a7 b7 c7 d7 => ?_
  have e7 : ∀ p y, H0 p = some y → H7 p = some y := fun p y hp => d7 p y (e6 p y hp) (hfn hp)
  have n6 := hne b5 a6
  have n7 := hne b6 a7
  have g6 := d7 _ _ c6 n6.symm
  have h5 := d7 _ _ g5 n5.symm
  have i4 := d7 _ _ h4 n4.symm
  have j3 := d7 _ _ i3 n3.symm
  have k2 := d7 _ _ j2 n2.symm
  have l1 := d7 _ _ k1 n1.symm
  refine h H7 ⟨oN, o1, o2, o3, o4, o5, o6, o7⟩ rfl ⟨b7, l1, k2, j3, i4, h5, g6, c7, Wo.nd ⟨n1, n2, n3, n4, n5, n6, n7, hne c1 a2, hne g1 a3, hne h1 a4, hne i1 a5, hne j1 a6, hne k1 a7, hne c2 a3, hne g2 a4, hne h2 a5, hne i2 a6, hne j2 a7, hne c3 a4, hne g3 a5, hne h3 a6, hne i3 a7, hne c4 a5, hne g4 a6, hne h4 a7, hne c5 a6, hne g5 a7, hne c6 a7⟩, fun r hr => absurd hr (Nat.not_lt_zero _), fun r hr => absurd hr (Nat.not_lt_zero _), fun r hr => absurd hr (Nat.not_lt_zero _), fun r s hr => absurd hr (Nat.not_lt_zero _), fun p hp => ?_, fun r hr => absurd hr (Nat.not_lt_zero _), e7⟩
  simp only [Wo.l', List.mem_cons, List.not_mem_nil, or_false] at hp
  rcases hp with e | e | e | e | e | e | e | e <;> rw [e]
  · exact hN
  · exact h0 hfr a1
  · exact h0 e1 a2
  · exact h0 e2 a3
  · exact h0 e3 a4
  · exact h0 e4 a5
  · exact h0 e5 a6
  · exact h0 e6 a7
theorem CAt.mono {H H' : AHeap} {F : Ob} {c : Ag.Co} (h : CAt H F c) (fr : ∀ p ∈ F.c, ∀ y, H p = some y → H' p = some y) : CAt H' F c := by
  obtain ⟨⟨off, xs, hco, hw, hx1, hx2⟩, ⟨eg, hg, hg2⟩, ⟨eh, hh, hh2⟩⟩ := h
  exact ⟨⟨off, xs, fr _ (by simp [Ob.c]) _ hco, fr _ (by simp [Ob.c]) _ hw, hx1, hx2⟩, ⟨eg, fr _ (by simp [Ob.c]) _ hg, hg2⟩, ⟨eh, fr _ (by simp [Ob.c]) _ hh, hh2⟩⟩
theorem rng_snoc {α : Type} (f : Nat → α) (i : Nat) : (List.range (i + 1)).map f = (List.range i).map f ++ [f i] := by
  rw [List.range_succ, List.map_append]; rfl
theorem begun_calls (H : AHeap) (n : Nat) (h1 : 0 < n) (h7 : n ≤ 7) (h2 : n % 2 = 1) :
    ACalls Try.prog 20 [mI (n : Int)] H fun r H' => ∃ O F, r = .ptr O.w 0 ∧ WAt H' O F (Ag.W.begun n) ∧ (∀ p, Dom O F n p → H p = none) ∧ ∀ p y, H p = some y → H' p = some y := by
  refine acalls_of_aw1 Try.func20 rfl (by decide) ?_
  (first | focus (refine yy17 ?_; refine yy14 ?_; refine yy95 ?_; refine zb1 rfl rfl rfl (fun oN hoN => ?_); refine yy105 ?_; refine yy3 ?_; refine yy13 ?_; refine yy5 ?_; refine aw_block ?_; rotate_left) | fail)
  refine aw_world (oN := oN) (n := n) (fun _ => ⟨0, 0, 0, 0, 0, 0, 0⟩) hoN (AHeap.set_self _ _ _) (fun p y hp => AHeap.get_skip (fun e => by rw [e, hoN] at hp; cases hp) hp) fun H1 O e0 b0 => ?_
  subst e0
  refine aw_loop (fun mm R' H2 => ∃ (i : Nat) (O2 : Wo) (F : Nat → Ob), O2.w = O.w ∧ R' = [(0, mI n), (3, .ptr O.w 0), (4, .raw (.int .i64 (i : Int)))] ∧ BAt H H2 O2 F n i ∧ i + mm = n) ?_ ?_
  · exact ⟨n, _, _, auto_ent, 0, O, _, rfl, rfl, b0, by omega⟩
  clear b0 hoN H1
  rintro mm R0 H2 ⟨i, O2, F, ew, rfl, hB, hi⟩
  by_cases hlt : i < n
  rotate_left
  · obtain rfl : i = n := by omega
    (first | focus (refine yy11 ?_; refine yy2 ?_; refine yy74 ?_; refine yy37 ?_; intro hc; refine yy16 ?_; refine yy105 ?_; refine yy35 ?_; rotate_left) | fail)
    all_goals try (exfalso; omega)
    obtain ⟨z1, z2⟩ := hB.done
    exact ⟨.inl rfl, _, _, _, Ent.refl _ _, ret1 rfl rfl, O2, F, by rw [ew]; rfl, z1, z2, hB.fr⟩
  have hN := New_calls H2 i n hlt h7 h2
  (first | focus (refine yy11 ?_; refine yy2 ?_; refine yy74 ?_; refine aw_condp rfl (fun hc => ?_) (fun hc => ?_); refine yy20 ?_; refine yy14 ?_; refine yy2 ?_; (refine zc auto_wl (hN) ?_; rintro r H' ⟨G, rfl, a1, a2, a3, a4⟩); refine yy88 ?_; refine yy105 ?_; refine yy5 ?_; refine yy11 ?_; refine yy85 ?_; refine yy2 ?_; refine zg2 rfl rfl rfl (fun hc => ?_) (fun hc => ?_); exact absurd hc auto_no; refine yy49 ?_; refine awl_s rfl (s_ptr_eqnil rfl rfl) ?_; refine yy65 ?_; refine yy96 ?_; rotate_left; exact absurd hc auto_no) | fail)
  all_goals try (exfalso; omega)
  have hB' := hB
  obtain ⟨aw, ac, asv, ak, al, ai, ar, ab, nd, co, ndC, ap, rr, f1, f2, fr⟩ := hB
  rw [ew] at aw
  obtain ⟨d1, d2, d3, d4, d5, d6, d7, d8, d9, d10, d11, d12, d13, d14, d15, d16, d17, d18, d19, d20, d21, d22, d23, d24, d25, d26, d27, d28⟩ := Wo.ne nd
  rw [ew] at d1 d2 d3 d4 d5 d6 d7
  have e1 := a4 _ _ aw
  have e2 := a4 _ _ ac
  have e3 := a4 _ _ asv
  have e4 := a4 _ _ ak
  have l1 : ((List.range i).map fun r => AV.ptr (F r).o 0).length = i := by simp
  have l2 : ((List.range i).map fun r => svA r n []).length = i := by simp
  have l3 : ((List.range i).map fun r => cutA none).length = i := by simp
  (first | focus (refine yy16 ?_; refine yy21 ?_; refine yy30 ?_; refine yy111 ?_; refine za4 rfl rfl rfl auto_heap auto_al auto_src auto_len auto_len (fun oN hoN => ?_); refine yy60 ?_; refine yy75 ?_; refine yy3 ?_; rotate_left) | fail)
  have hoC := hoN
  generalize hqq : oN = oC at *
  clear hqq hoN oN
  have m1 : O.w ≠ oC := fun e => by rw [← e, e1] at hoC; cases hoC
  have m2 : O2.c ≠ oC := fun e => by rw [← e, e2] at hoC; cases hoC
  refine aw_gen (fun H3 => H3 O.w = some (.cel [mI n, .vw oC 1 0 (i + 1), .vw O2.s 1 0 i, .vw O2.k 1 0 i, .vw O2.l 9 0 0, .vw O2.i 1 0 0, .vw O2.r 1 0 0, .vw O2.b 3 0 0]) ∧ H3 oC = some (.cel (((List.range i).map fun r => AV.ptr (F r).o 0) ++ [.ptr G.o 0])) ∧ ∀ p y, H' p = some y → p ≠ O.w → p ≠ O2.c → H3 p = some y) ⟨by exact auto_heap, by exact auto_heap, fun p y hp h1 h2 => by
    have h3 : p ≠ oC := fun e => by rw [e, hoC] at hp; cases hp
    exact auto_heap⟩ ?_
  rintro H3 ⟨p1, p2, p3⟩
  have e5 := p3 _ _ e3 d2.symm d8.symm
  have e6 := p3 _ _ e4 d3.symm d9.symm
  (first | focus (refine yy16 ?_; refine yy21 ?_; refine yy111 ?_; refine za4 rfl rfl rfl auto_heap auto_al auto_src auto_len auto_len (fun oN hoN => ?_); refine yy60 ?_; refine yy75 ?_; refine yy3 ?_; rotate_left) | fail)
  have hoS := hoN
  generalize hqq : oN = oS at *
  clear hqq hoN oN
  have m3 : O.w ≠ oS := fun e => by rw [← e, p1] at hoS; cases hoS
  have m4 : O2.s ≠ oS := fun e => by rw [← e, e5] at hoS; cases hoS
  have m5 : oC ≠ oS := fun e => by rw [← e, p2] at hoS; cases hoS
  refine aw_gen (fun H4 => H4 O.w = some (.cel [mI n, .vw oC 1 0 (i + 1), .vw oS 1 0 (i + 1), .vw O2.k 1 0 i, .vw O2.l 9 0 0, .vw O2.i 1 0 0, .vw O2.r 1 0 0, .vw O2.b 3 0 0]) ∧ H4 oS = some (.cel (((List.range i).map fun r => svA r n []) ++ [.raw (.slice none 0 0)])) ∧ ∀ p y, H3 p = some y → p ≠ O.w → p ≠ O2.s → H4 p = some y) ⟨by exact auto_heap, by exact auto_heap, fun p y hp h1 h2 => by
    have h3 : p ≠ oS := fun e => by rw [e, hoS] at hp; cases hp
    exact auto_heap⟩ ?_
  rintro H4 ⟨q1, q2, q3⟩
  have e7 := q3 _ _ e6 d3.symm d14.symm
  refine aw_ent (R' := [(0, mI n), (3, .ptr O.w 0), (4, .raw (.int .i64 (i : Int)))]) (H' := H4.set oS (.cel (((List.range i).map fun r => svA r n []) ++ [.sls 0 []]))) ((Ent.wcelH (heap_id q2).symm (wc_app (wc_refl _) (WC.cons (W.nils rfl) WC.nil))).trans (Ent.sub _ (by (repeat' (first | exact RSub.nil _ | apply RSub.cons)); all_goals rfl))) ?_
  refine aw_gen (fun H5 => H5 O.w = some (.cel [mI n, .vw oC 1 0 (i + 1), .vw oS 1 0 (i + 1), .vw O2.k 1 0 i, .vw O2.l 9 0 0, .vw O2.i 1 0 0, .vw O2.r 1 0 0, .vw O2.b 3 0 0]) ∧ H5 oS = some (.cel (((List.range i).map fun r => svA r n []) ++ [svA i n []])) ∧ H5 O2.k = some (.cel ((List.range i).map fun r => cutA none)) ∧ ∀ p y, H3 p = some y → p ≠ O.w → p ≠ O2.s → H5 p = some y) ⟨AHeap.get_skip m3 q1, AHeap.set_self _ _ _, AHeap.get_skip (fun e => by rw [e] at e6; rw [e6] at hoS; cases hoS) e7, fun p y hp h1 h2 => AHeap.get_skip (fun e => by rw [e, hoS] at hp; cases hp) (q3 p y hp h1 h2)⟩ ?_
  clear q1 q2 q3 e7 H4
  rintro H5 ⟨q1, q2, q4, q3⟩
  (first | focus (refine yy51 ?_; refine yy21 ?_; refine yy111 ?_; refine za4 rfl rfl rfl auto_heap auto_al auto_src auto_len auto_len (fun oN hoN => ?_); refine yy60 ?_; refine yy86 ?_; refine yy106 ?_; refine yy2 ?_; refine yy99 ?_; refine yy5 ?_; rotate_left) | fail)
  all_goals try (exfalso; omega)
  have m6 : O.w ≠ oN := fun e => by rw [← e, q1] at hoN; cases hoN
  have m7 : O2.k ≠ oN := fun e => by rw [← e, q4] at hoN; cases hoN
  have m8 : oS ≠ oN := fun e => by rw [← e, q2] at hoN; cases hoN
  have hkeep : ∀ p y, H' p = some y → p ≠ O.w → p ≠ O2.c → p ≠ O2.s → p ≠ O2.k → (((H5.erase O2.k).set oN (.cel (((List.range i).map fun r => cutA none) ++ [.raw (.int .i64 (-1))]))).set O.w (.cel [mI n, .vw oC 1 0 (i + 1), .vw oS 1 0 (i + 1), .vw oN 1 0 (i + 1), .vw O2.l 9 0 0, .vw O2.i 1 0 0, .vw O2.r 1 0 0, .vw O2.b 3 0 0])) p = some y ∧ p ≠ oC ∧ p ≠ oS ∧ p ≠ oN := fun p y hp h1 h2 h3 h4 => by
    have x1 := p3 p y hp h1 h2
    have x2 := q3 p y x1 h1 h3
    have y1 : p ≠ oC := fun e => by rw [e, hoC] at hp; cases hp
    have y2 : p ≠ oS := fun e => by rw [e, hoS] at x1; cases x1
    have y3 : p ≠ oN := fun e => by rw [e, hoN] at x2; cases x2
    exact ⟨AHeap.get_skip h1 (AHeap.get_skip y3 (AHeap.get_unerase h4 x2)), y1, y2, y3⟩
  have hoCk : oC ≠ O2.k := fun e => by rw [e, e4] at hoC; cases hoC
  have hoCs : oC ≠ O2.s := fun e => by rw [e, e3] at hoC; cases hoC
  have p4 := q3 _ _ p2 m1.symm hoCs
  have m9 : oC ≠ oN := fun e => by rw [← e, p4] at hoN; cases hoN
  have hoSk : oS ≠ O2.k := fun e => by rw [e, e6] at hoS; cases hoS
  -- what is new was not there
  have hn2 : ∀ p, H' p = none → H p = none := fun p hp => by
    cases hx : H p with
    | none => rfl
    | some y => rw [a4 _ _ (fr _ _ hx)] at hp; cases hp
  have hn3 : ∀ p, H3 p = none → H p = none := fun p hp => by
    cases hx : H p with
    | none => rfl
    | some y =>
      have x0 : p ∉ O2.l' := fun hx2 => by rw [f1 p hx2] at hx; cases hx
      rw [p3 _ _ (a4 _ _ (fr _ _ hx)) (fun e => x0 (by rw [e, ← ew]; simp [Wo.l'])) (fun e => x0 (by rw [e]; simp [Wo.l']))] at hp; cases hp
  have hn5 : ∀ p, H5 p = none → H p = none := fun p hp => by
    cases hx : H p with
    | none => rfl
    | some y =>
      have x0 : p ∉ O2.l' := fun hx2 => by rw [f1 p hx2] at hx; cases hx
      rw [q3 _ _ (p3 _ _ (a4 _ _ (fr _ _ hx)) (fun e => x0 (by rw [e, ← ew]; simp [Wo.l'])) (fun e => x0 (by rw [e]; simp [Wo.l']))) (fun e => x0 (by rw [e, ← ew]; simp [Wo.l'])) (fun e => x0 (by rw [e]; simp [Wo.l']))] at hp; cases hp
  have hGl : ∀ p ∈ G.c, p ∉ O2.l' := fun p hp hx => by
    obtain ⟨y, hy⟩ := hB'.live p hx
    rw [a3 p hp] at hy; cases hy
  have hGn : ∀ p ∈ G.c, H p = none := fun p hp => by
    cases hx : H p with
    | none => rfl
    | some y => have := fr _ _ hx; rw [a3 p hp] at this; cases this
  have hout : ∀ p, p ∉ O2.l' → p ≠ O.w ∧ p ≠ O2.c ∧ p ≠ O2.s ∧ p ≠ O2.k := fun p hp => ⟨fun e => hp (by rw [e, ← ew]; simp [Wo.l']), fun e => hp (by rw [e]; simp [Wo.l']), fun e => hp (by rw [e]; simp [Wo.l']), fun e => hp (by rw [e]; simp [Wo.l'])⟩
  have hcx : ∀ {K : Ob} {d : Ag.Co}, CAt H' K d → (∀ p ∈ K.c, p ∉ O2.l') → CAt (((H5.erase O2.k).set oN (.cel (((List.range i).map fun r => cutA none) ++ [.raw (.int .i64 (-1))]))).set O.w (.cel [mI n, .vw oC 1 0 (i + 1), .vw oS 1 0 (i + 1), .vw oN 1 0 (i + 1), .vw O2.l 9 0 0, .vw O2.i 1 0 0, .vw O2.r 1 0 0, .vw O2.b 3 0 0])) K d ∧ ∀ p ∈ K.c, p ∉ [O.w, oC, oS, oN, O2.l, O2.i, O2.r, O2.b] := fun h1 h2 => by
    refine ⟨h1.mono fun p hp y hy => ?_, fun p hp hx => ?_⟩
    · obtain ⟨z1, z2, z3, z4⟩ := hout p (h2 p hp)
      exact (hkeep p y hy z1 z2 z3 z4).1
    · obtain ⟨y, hy⟩ := h1.live p hp
      obtain ⟨z1, z2, z3, z4⟩ := hout p (h2 p hp)
      obtain ⟨_, w1, w2, w3⟩ := hkeep p y hy z1 z2 z3 z4
      simp only [List.mem_cons, List.not_mem_nil, or_false] at hx
      rcases hx with e | e | e | e | e | e | e | e
      · exact z1 e
      · exact w1 e
      · exact w2 e
      · exact w3 e
      · exact h2 p hp (by rw [e]; simp [Wo.l'])
      · exact h2 p hp (by rw [e]; simp [Wo.l'])
      · exact h2 p hp (by rw [e]; simp [Wo.l'])
      · exact h2 p hp (by rw [e]; simp [Wo.l'])
  obtain ⟨kl1, kl2, kl3, kl4⟩ := hkeep _ _ (a4 _ _ al) d4.symm d10.symm d15.symm d19.symm
  obtain ⟨ki1, ki2, ki3, ki4⟩ := hkeep _ _ (a4 _ _ ai) d5.symm d11.symm d16.symm d20.symm
  obtain ⟨kr1, kr2, kr3, kr4⟩ := hkeep _ _ (a4 _ _ ar) d6.symm d12.symm d17.symm d21.symm
  obtain ⟨kb1, kb2, kb3, kb4⟩ := hkeep _ _ (a4 _ _ ab) d7.symm d13.symm d18.symm d22.symm
  have hold : ∀ r, r < i → Ag.upd F i G r = F r := fun r hr => Ag.upd_other _ _ (by omega)
  have hmapF : ((List.range i).map fun r => AV.ptr (F r).o 0) = (List.range i).map fun r => AV.ptr (Ag.upd F i G r).o 0 := List.map_congr_left fun r hr => by rw [hold r (List.mem_range.1 hr)]
  refine ⟨mm - 1, _, _, by omega, auto_entg, i + 1, ⟨O.w, oC, oS, oN, O2.l, O2.i, O2.r, O2.b⟩, Ag.upd F i G, rfl, rfl, ⟨AHeap.set_self _ _ _, ?_, ?_, ?_, kl1, ki1, kr1, kb1, Wo.nd ⟨m1, m3, m6, d4, d5, d6, d7, m5, m9, kl2.symm, ki2.symm, kr2.symm, kb2.symm, m8, kl3.symm, ki3.symm, kr3.symm, kb3.symm, kl4.symm, ki4.symm, kr4.symm, kb4.symm, d23, d24, d25, d26, d27, d28⟩, fun r hr => ?_, fun r hr => ?_, fun r hr => ?_, fun r s hr hs hne p hp hps => ?_, fun p hp => ?_, fun r hr p hp => ?_, fun p y hp => ?_⟩, by omega⟩
  · rw [rng_snoc, Ag.upd_same, ← hmapF]
    exact AHeap.get_skip m1.symm (AHeap.get_skip m9 (AHeap.get_unerase hoCk p4))
  · rw [rng_snoc]
    exact AHeap.get_skip m3.symm (AHeap.get_skip m8 (AHeap.get_unerase hoSk q2))
  · rw [rng_snoc]
    exact AHeap.get_skip m6.symm (AHeap.set_self _ _ _)
  · rcases Nat.lt_succ_iff_lt_or_eq.1 hr with h | rfl
    · rw [hold r h]; exact (hcx ((co r h).ext a4) (ap r h)).1
    · rw [Ag.upd_same]; exact (hcx a1 hGl).1
  · rcases Nat.lt_succ_iff_lt_or_eq.1 hr with h | rfl
    · rw [hold r h]; exact ndC r h
    · rw [Ag.upd_same]; exact a2
  · rcases Nat.lt_succ_iff_lt_or_eq.1 hr with h | rfl
    · rw [hold r h]; exact (hcx ((co r h).ext a4) (ap r h)).2
    · rw [Ag.upd_same]; exact (hcx a1 hGl).2
  · rcases Nat.lt_succ_iff_lt_or_eq.1 hr with h | rfl
    · rw [hold r h] at hp
      rcases Nat.lt_succ_iff_lt_or_eq.1 hs with h' | rfl
      · rw [hold s h'] at hps; exact rr r s h h' hne p hp hps
      · rw [Ag.upd_same] at hps
        obtain ⟨y, hy⟩ := (co r h).live p hp
        rw [a3 p hps] at hy; cases hy
    · rw [Ag.upd_same] at hp
      rcases Nat.lt_succ_iff_lt_or_eq.1 hs with h' | rfl
      · rw [hold s h'] at hps
        obtain ⟨y, hy⟩ := (co s h').live p hps
        rw [a3 p hp] at hy; cases hy
      · exact hne rfl
  · simp only [Wo.l', List.mem_cons, List.not_mem_nil, or_false] at hp
    rcases hp with e | e | e | e | e | e | e | e <;> rw [e]
    · rw [← ew]; exact f1 _ (by simp [Wo.l'])
    · exact hn2 _ hoC
    · exact hn3 _ hoS
    · exact hn5 _ hoN
    · exact f1 _ (by simp [Wo.l'])
    · exact f1 _ (by simp [Wo.l'])
    · exact f1 _ (by simp [Wo.l'])
    · exact f1 _ (by simp [Wo.l'])
  · rcases Nat.lt_succ_iff_lt_or_eq.1 hr with h | rfl
    · rw [hold r h] at hp; exact f2 r h p hp
    · rw [Ag.upd_same] at hp; exact hGn p hp
  · have x0 : p ∉ O2.l' := fun hx2 => by rw [f1 p hx2] at hp; cases hp
    obtain ⟨z1, z2, z3, z4⟩ := hout p x0
    exact (hkeep p y (a4 _ _ (fr _ _ hp)) z1 z2 z3 z4).1
end Go.Proofs.Ytbciofnejefkiaa

namespace Go.Proofs.Ytbciofnejefkiaa
open Go Go.Am Go.Proofs

structure ActOK (a : Ag.Act) : Prop where
  ok : a.Ok
  op : b64 a.op
  r : b64 a.r
  k : b64 a.k
  row : a.row.length ≤ 100000000
theorem act_get {l : List Ag.Act} {i : Nat} {a : Ag.Act} (h : l[i]? = some a) : ((l.flatMap actC).drop (i * 5)).take 5 = actC a := flat_seg (sz := 5) (f := actC) (fun _ => rfl) h
theorem act_at {l : List Ag.Act} {i j : Nat} {a : Ag.Act} {y : AV} (h : l[i]? = some a) (hj : j < 5) (hy : (actC a)[j]? = some y) : (l.flatMap actC)[i * 5 + j]? = some y := flat_get (sz := 5) (f := actC) (fun _ => rfl) h hj hy
theorem do_at (H : AHeap) (O : Wo) (F : Nat → Ob) (g : Ag.Gh) (w : Ag.W) (q B I : Nat) (a : Ag.Act) (hA : WAt H O F w) (hX : WX g w q B I) (hq : q ≤ 100000) (hI : I ≤ 100000) (hB : B ≤ 10000000000) (h : ActOK a) (hrl : a.row.length ≤ 1000000) :
    ACalls Try.prog 21 [.ptr O.w 0, .agg (actC a)] H fun r' H' => r' = bB true ∧ ∃ w' g' O' F', w.act a = some w' ∧ WX g' w' (q + 1) (B + 200) (I + 1) ∧ w'.n = w.n ∧ WAt H' O' F' w' ∧ TurnW w.n H O F O' F' H' := by
  obtain ⟨w', g', e1, e2, e3⟩ := hX.act (by omega) h.ok h.k
  exact (do_calls H O F g w w' q B I a hA hX hq hI hB h.ok h.op h.r h.k hrl e1).mono fun r' H' ⟨x, O', F', y1, y2⟩ => ⟨x, w', g', O', F', e1, e2, e3, y1, y2⟩
end Go.Proofs.Ytbciofnejefkiaa

namespace Go.Proofs.Ytbciofnejefkiaa
open Go Go.Am Go.Proofs

end Go.Proofs.Ytbciofnejefkiaa

namespace Go.Proofs.Ytbciofnejefkiaa
open Go Go.Am Go.Proofs

open Ag (GOK COK WG MOK SOK LOK)
def oneS (c : Ag.Co) (a : Ag.Act) : Ag.St := if a.op = 0 then c.submit a.id a.row else c.tick
theorem beside_turn {H H' : AHeap} {F F' : Ob} {c d : Ag.Co} {o : Nat} {z : AO} (h : CAt H F c) (ho : H o = none) (hc : CAt H' F' d) (t : TurnK (H.set o z) F F' H') : H' o = some z ∧ CAt (H'.erase o) F' d ∧ TurnK H F F' (H'.erase o) := by
  have hn : o ∉ F.c := fun hp => by
    obtain ⟨y, hy⟩ := h.live o hp
    rw [ho] at hy; cases hy
  have hz : (H.set o z) o = some z := AHeap.set_self _ _ _
  have hn2 : o ∉ F'.c := fun hp => by
    rcases t.new o hp with h1 | h1
    · exact hn h1
    · rw [hz] at h1; cases h1
  refine ⟨t.fr o z hz hn, hc.mono fun p hp y hy => AHeap.get_unerase (fun e => hn2 (e ▸ hp)) hy, ⟨t.o, fun p hp => ?_, fun p y hp hF => ?_, t.nd⟩⟩
  · rcases t.new p hp with h1 | h1
    · exact .inl h1
    · exact .inr (AHeap.none_of_set h1)
  · have e : p ≠ o := fun e => by rw [e, ho] at hp; cases hp
    exact AHeap.get_unerase e (t.fr p y (AHeap.get_skip e hp) hF)
theorem one_calls (H : AHeap) (F : Ob) (c : Ag.Co) (a : Ag.Act) (h : CAt H F c) (nd : NdC F) (hf : CFine c) (hq : c.quiet ≤ 1000000) (ok : ActOK a) (hr : a.row.length ≤ 1000000) :
    ACalls Try.prog 29 [.ptr F.o 0, .agg (actC a)] H fun r H' => r = stepA (oneS c a) ∧ ∃ F', CAt H' F' (oneS c a).c ∧ TurnK H F F' H' := by
  have hen : (⟨a.id, 0, a.row⟩ : En).Ok := ⟨ok.ok.id, by simp, ok.ok.row⟩
  have hs : ∀ {o : Nat} (z : AO), H o = none → CAt (H.set o z) F c := fun z ho => h.ext fun p y hp => AHeap.get_skip (fun e => by rw [e, ho] at hp; cases hp) hp
  have hS : ∀ o z, H o = none → _ := fun o z ho => Submit_calls (H.set o z) F c a.id a.row (hs z ho) nd hf hen hr
  have hT : ∀ o z, H o = none → _ := fun o z ho => Tick_calls (H.set o z) F c (hs z ho) nd hf hq
  clear hs
  unfold oneS
  unfold actC rowA
  refine acalls_of_aw2 Try.func29 rfl (by decide) ?_
  by_cases h0 : a.op = 0
  · rw [if_pos h0]
    generalize c.submit a.id a.row = s at *
    clear hT
    (first | focus (refine yy1 ?_; refine zb4 rfl rfl rfl ?_; refine awl_alloc rfl rfl rfl (fun oN hoN => ?_); refine yy3 ?_; refine yy134 ?_; refine awl_s rfl (s_eql rfl rfl) ?_; refine yy3 ?_; rotate_left) | fail)
    all_goals try (exfalso; omega)
    have hS2 := hS _ (.cel (AV.raw (Value.agg #[Value.slice none 0 0, Value.slice none 0 0])).parts) hoN
    have hb := fun {H' : AHeap} {F' : Ob} {d : Ag.Co} (hc : CAt H' F' d) (t : TurnK _ F F' H') => beside_turn (z := .cel (AV.raw (Value.agg #[Value.slice none 0 0, Value.slice none 0 0])).parts) h hoN hc t
    clear hS
    (first | focus (refine aw_condp rfl (fun hc => ?_) (fun hc => ?_); refine yy16 ?_; refine yy43 ?_; refine yy43 ?_; (refine zc auto_wl (hS2) ?_; rintro r H' ⟨rfl, F', c1, c2⟩); rotate_left; exact absurd hc auto_no) | fail)
    all_goals try (exfalso; omega)
    obtain ⟨e1, e2, e3⟩ := hb c1 c2
    clear hb
    unfold stepA
    repeat' (first | ((with_reducible apply idAWL); first | (with_reducible refine awl_nil ?_) | (with_reducible refine awl_ch ?_) | (with_reducible refine awl_ch0 ?_) | ((with_reducible apply ik_lit); refine awl_lit_conv rfl rfl rfl auto_bytes rfl auto_d ?_) | ((with_reducible apply ik_guard); first | ((first | refine zg1 rfl rfl rfl (fun hc => ?_) (fun hc => ?_) | refine zg2 rfl rfl rfl (fun hc => ?_) (fun hc => ?_)) <;> first | exact absurd hc auto_no | skip) | refine zg3 rfl rfl rfl ?_ | refine zg4 rfl rfl rfl ?_ | refine zg5 rfl rfl rfl ?_ | refine zg6 rfl rfl rfl (fun hc => ?_) (fun hc => ?_) | refine zg7 rfl rfl rfl (fun hc => ?_) (fun hc => ?_)) | ((with_reducible apply ik_callv); first | fail) | ((with_reducible apply ik_append); first | refine za1 rfl rfl rfl (by assumption) auto_rl auto_src auto_len auto_len (fun oN hoN => ?_) | refine za2 rfl rfl rfl (by assumption) auto_len auto_src auto_len auto_len (fun oN hoN => ?_) | refine za3 rfl rfl rfl auto_heap auto_rl auto_src auto_len auto_len (fun oN hoN => ?_) | refine za4 rfl rfl rfl auto_heap auto_al auto_src auto_len auto_len (fun oN hoN => ?_) | (apply awl_s rfl; · exact auto_app)) | ((with_reducible apply ik_eql); first | refine awl_bys_eqnil rfl rfl rfl (fun b hb => ?_) | refine awl_sls_eqnil rfl rfl rfl (fun b hb => ?_)) | ((with_reducible apply ik_box); first | refine zb1 rfl rfl rfl (fun oN hoN => ?_) | refine zb2 rfl rfl rfl (fun oN hoN => ?_) | refine zb3 rfl rfl (fun oN hoN => ?_) | refine awl_box_str rfl rfl (fun oN hoN => ?_)) | ((with_reducible apply ik_alloc); first | refine awl_alloc rfl rfl rfl (fun oN hoN => ?_)) | ((with_reducible apply ik_make); first | refine awl_make_byt rfl rfl rfl auto_om auto_om auto_om (fun oN hoN => ?_) | refine awl_make_cel rfl rfl rfl auto_om rfl rfl auto_om auto_om (fun oN hoN => ?_)) | ((with_reducible apply ik_mapUpdate); first | refine awl_mapUpdate rfl rfl auto_mv auto_heap ?_ | refine awl_mapUpdateI rfl rfl auto_mv auto_heap ?_) | ((with_reducible apply ik_makeMap); first | refine awl_makeMapI rfl (fun oN hoN => ?_) | refine awl_makeMap rfl (fun oN hoN => ?_)) | ((with_reducible apply ik_range); first | refine awl_rangeI rfl rfl auto_heap (fun oN mbN clN brN hoN hbl hbn hbc => ?_)) | ((with_reducible apply ik_next); first | refine awl_nextI rfl rfl auto_heap auto_heap (fun iN kN vN bN heN hbN hsN => ?_) (fun hsN => ?_)) | ((with_reducible apply ik_delete); first | refine awl_delete rfl rfl auto_heap ?_) | ((with_reducible apply ik_clear); first | refine awl_clear rfl auto_heap rfl auto_len ?_) | ((with_reducible apply ik_store); first | refine zs1 rfl rfl rfl rfl auto_d auto_d ?_ | refine zs2 rfl rfl auto_heap auto_d auto_d auto_d ?_ | refine zs5 rfl auto_mv rfl auto_r auto_k ?_ | refine zs3 rfl rfl rfl auto_lt auto_len ?_ | refine zs6 rfl auto_mv auto_heap auto_r auto_k ?_ | refine zs4 rfl rfl auto_heap auto_lt auto_len ?_) | (apply awl_s rfl; · exact auto_stp)) | ((with_reducible apply idAWT); first | (with_reducible refine awt_nil ?_) | ((with_reducible apply it_guard); first | ((first | refine zt1 rfl rfl rfl (fun hc => ?_) (fun hc => ?_) | refine zt2 rfl rfl rfl (fun hc => ?_) (fun hc => ?_)) <;> first | exact absurd hc auto_no | skip) | refine zt3 rfl rfl rfl ?_ | refine zt4 rfl rfl ?_ | refine zt5 rfl rfl ?_ | refine zt6 rfl rfl rfl (fun hc => ?_) (fun hc => ?_) | refine zt7 rfl rfl rfl (fun hc => ?_) (fun hc => ?_)) | ((with_reducible apply it_callv); first | (refine awt_last ?_) | fail) | (apply awt_s; · exact auto_stp) | (refine awt_last ?_)) | ((with_reducible apply idAWM); first | (refine awm_b ?_) | (refine awm_b0 ?_) | (refine awm_nil ?_) | (apply awm_e auto_dk; (· exact auto_stp)) | (apply awm_s; · (intro H1; exact auto_stp))) | ((with_reducible apply idAWB); first | (refine awb_cons (fun Rx K1 hK1x => ?_)) | (refine awb_cons0 (fun Rx K1 hK1x => ?_)) | (refine awb_nil ?_)) | (refine hK1x _ _ ?_; clear hK1x K1 Rx) | (refine hK1x _ ?_; clear hK1x K1 Rx) | ((with_reducible apply idAW); first | refine aw_seq ?_ | refine aw_region ?_ | refine aw_draw2 false auto_kr auto_dk auto_dk ?_ | refine aw_draw1 auto_kr auto_kr auto_dk ?_ | refine aw_draw0 auto_kr auto_kr ?_ | refine aw_skip ?_ | refine aw_ret ?_ | refine aw_exit ?_ | refine aw_block ?_ | ((refine aw_condp rfl (fun hc => ?_) (fun hc => ?_)) <;> first | exact absurd hc auto_no | skip) | refine aw_cond_t rfl ?_ | refine aw_cond_f rfl ?_ | (refine aw_cond rfl (fun hc => ?_) (fun hc => ?_))) | ((with_reducible apply idKS); first | refine k_seq_normal ?_ | refine k_seq_exit ?_ | refine k_seq_ret ?_) | ((with_reducible apply idKB); first | refine k_block_normal ?_ | refine k_block_ret ?_ | refine k_block_eq ?_ | refine k_block_ne rfl ?_))
    exact ⟨.inl rfl, _, _, _, Ent.cellRet (H0 := H'.erase oN) 4 [saveA s, sendA s] rfl auto_heap auto_wcc erase_sub, ret_1 rfl (rv1_agg (m := 2) rfl rfl rfl (by decide)), rfl, F', e2, e3⟩
  · rw [if_neg h0]
    generalize c.tick = s at *
    clear hS
    (first | focus (refine yy1 ?_; refine zb4 rfl rfl rfl ?_; refine awl_alloc rfl rfl rfl (fun oN hoN => ?_); refine yy3 ?_; refine yy134 ?_; refine awl_s rfl (s_eql rfl rfl) ?_; refine yy3 ?_; refine yy63 ?_; intro hc; rotate_left) | fail)
    all_goals try (exfalso; omega)
    have hS2 := hT _ (.cel (AV.raw (Value.agg #[Value.slice none 0 0, Value.slice none 0 0])).parts) hoN
    have hb := fun {H' : AHeap} {F' : Ob} {d : Ag.Co} (hc : CAt H' F' d) (t : TurnK _ F F' H') => beside_turn (z := .cel (AV.raw (Value.agg #[Value.slice none 0 0, Value.slice none 0 0])).parts) h hoN hc t
    clear hT
    (first | focus (refine yy16 ?_; (refine zc auto_wl (hS2) ?_; rintro r H' ⟨rfl, F', c1, c2⟩); rotate_left) | fail)
    all_goals try (exfalso; omega)
    obtain ⟨e1, e2, e3⟩ := hb c1 c2
    clear hb
    unfold stepA
    repeat' (first | ((with_reducible apply idAWL); first | (with_reducible refine awl_nil ?_) | (with_reducible refine awl_ch ?_) | (with_reducible refine awl_ch0 ?_) | ((with_reducible apply ik_lit); refine awl_lit_conv rfl rfl rfl auto_bytes rfl auto_d ?_) | ((with_reducible apply ik_guard); first | ((first | refine zg1 rfl rfl rfl (fun hc => ?_) (fun hc => ?_) | refine zg2 rfl rfl rfl (fun hc => ?_) (fun hc => ?_)) <;> first | exact absurd hc auto_no | skip) | refine zg3 rfl rfl rfl ?_ | refine zg4 rfl rfl rfl ?_ | refine zg5 rfl rfl rfl ?_ | refine zg6 rfl rfl rfl (fun hc => ?_) (fun hc => ?_) | refine zg7 rfl rfl rfl (fun hc => ?_) (fun hc => ?_)) | ((with_reducible apply ik_callv); first | fail) | ((with_reducible apply ik_append); first | refine za1 rfl rfl rfl (by assumption) auto_rl auto_src auto_len auto_len (fun oN hoN => ?_) | refine za2 rfl rfl rfl (by assumption) auto_len auto_src auto_len auto_len (fun oN hoN => ?_) | refine za3 rfl rfl rfl auto_heap auto_rl auto_src auto_len auto_len (fun oN hoN => ?_) | refine za4 rfl rfl rfl auto_heap auto_al auto_src auto_len auto_len (fun oN hoN => ?_) | (apply awl_s rfl; · exact auto_app)) | ((with_reducible apply ik_eql); first | refine awl_bys_eqnil rfl rfl rfl (fun b hb => ?_) | refine awl_sls_eqnil rfl rfl rfl (fun b hb => ?_)) | ((with_reducible apply ik_box); first | refine zb1 rfl rfl rfl (fun oN hoN => ?_) | refine zb2 rfl rfl rfl (fun oN hoN => ?_) | refine zb3 rfl rfl (fun oN hoN => ?_) | refine awl_box_str rfl rfl (fun oN hoN => ?_)) | ((with_reducible apply ik_alloc); first | refine awl_alloc rfl rfl rfl (fun oN hoN => ?_)) | ((with_reducible apply ik_make); first | refine awl_make_byt rfl rfl rfl auto_om auto_om auto_om (fun oN hoN => ?_) | refine awl_make_cel rfl rfl rfl auto_om rfl rfl auto_om auto_om (fun oN hoN => ?_)) | ((with_reducible apply ik_mapUpdate); first | refine awl_mapUpdate rfl rfl auto_mv auto_heap ?_ | refine awl_mapUpdateI rfl rfl auto_mv auto_heap ?_) | ((with_reducible apply ik_makeMap); first | refine awl_makeMapI rfl (fun oN hoN => ?_) | refine awl_makeMap rfl (fun oN hoN => ?_)) | ((with_reducible apply ik_range); first | refine awl_rangeI rfl rfl auto_heap (fun oN mbN clN brN hoN hbl hbn hbc => ?_)) | ((with_reducible apply ik_next); first | refine awl_nextI rfl rfl auto_heap auto_heap (fun iN kN vN bN heN hbN hsN => ?_) (fun hsN => ?_)) | ((with_reducible apply ik_delete); first | refine awl_delete rfl rfl auto_heap ?_) | ((with_reducible apply ik_clear); first | refine awl_clear rfl auto_heap rfl auto_len ?_) | ((with_reducible apply ik_store); first | refine zs1 rfl rfl rfl rfl auto_d auto_d ?_ | refine zs2 rfl rfl auto_heap auto_d auto_d auto_d ?_ | refine zs5 rfl auto_mv rfl auto_r auto_k ?_ | refine zs3 rfl rfl rfl auto_lt auto_len ?_ | refine zs6 rfl auto_mv auto_heap auto_r auto_k ?_ | refine zs4 rfl rfl auto_heap auto_lt auto_len ?_) | (apply awl_s rfl; · exact auto_stp)) | ((with_reducible apply idAWT); first | (with_reducible refine awt_nil ?_) | ((with_reducible apply it_guard); first | ((first | refine zt1 rfl rfl rfl (fun hc => ?_) (fun hc => ?_) | refine zt2 rfl rfl rfl (fun hc => ?_) (fun hc => ?_)) <;> first | exact absurd hc auto_no | skip) | refine zt3 rfl rfl rfl ?_ | refine zt4 rfl rfl ?_ | refine zt5 rfl rfl ?_ | refine zt6 rfl rfl rfl (fun hc => ?_) (fun hc => ?_) | refine zt7 rfl rfl rfl (fun hc => ?_) (fun hc => ?_)) | ((with_reducible apply it_callv); first | (refine awt_last ?_) | fail) | (apply awt_s; · exact auto_stp) | (refine awt_last ?_)) | ((with_reducible apply idAWM); first | (refine awm_b ?_) | (refine awm_b0 ?_) | (refine awm_nil ?_) | (apply awm_e auto_dk; (· exact auto_stp)) | (apply awm_s; · (intro H1; exact auto_stp))) | ((with_reducible apply idAWB); first | (refine awb_cons (fun Rx K1 hK1x => ?_)) | (refine awb_cons0 (fun Rx K1 hK1x => ?_)) | (refine awb_nil ?_)) | (refine hK1x _ _ ?_; clear hK1x K1 Rx) | (refine hK1x _ ?_; clear hK1x K1 Rx) | ((with_reducible apply idAW); first | refine aw_seq ?_ | refine aw_region ?_ | refine aw_draw2 false auto_kr auto_dk auto_dk ?_ | refine aw_draw1 auto_kr auto_kr auto_dk ?_ | refine aw_draw0 auto_kr auto_kr ?_ | refine aw_skip ?_ | refine aw_ret ?_ | refine aw_exit ?_ | refine aw_block ?_ | ((refine aw_condp rfl (fun hc => ?_) (fun hc => ?_)) <;> first | exact absurd hc auto_no | skip) | refine aw_cond_t rfl ?_ | refine aw_cond_f rfl ?_ | (refine aw_cond rfl (fun hc => ?_) (fun hc => ?_))) | ((with_reducible apply idKS); first | refine k_seq_normal ?_ | refine k_seq_exit ?_ | refine k_seq_ret ?_) | ((with_reducible apply idKB); first | refine k_block_normal ?_ | refine k_block_ret ?_ | refine k_block_eq ?_ | refine k_block_ne rfl ?_))
    exact ⟨.inl rfl, _, _, _, Ent.cellRet (H0 := H'.erase oN) 4 [saveA s, sendA s] rfl auto_heap auto_wcc erase_sub, ret_1 rfl (rv1_agg (m := 2) rfl rfl rfl (by decide)), rfl, F', e2, e3⟩
structure Two (H0 : AHeap) (Fa Fb : Ob) (X : List (Nat × AO)) (ca cb : Ag.Co) (H : AHeap) (Ga Gb : Ob) : Prop where
  a : CAt H Ga ca
  b : CAt H Gb cb
  na : NdC Ga
  nb : NdC Gb
  ab : ∀ p ∈ Ga.c, p ∉ Gb.c
  x : ∀ q ∈ X, (∀ y, H0 q.1 = some y → q.1 ∈ Fa.c ∨ q.1 ∈ Fb.c) ∧ q.1 ∉ Ga.c ∧ q.1 ∉ Gb.c ∧ H q.1 = some q.2
  fr : ∀ p y, H0 p = some y → p ∉ Fa.c → p ∉ Fb.c → H p = some y ∧ p ∉ Ga.c ∧ p ∉ Gb.c
  oa : Ga.o = Fa.o
  ob : Gb.o = Fb.o
variable {H0 H H' : AHeap} {Fa Fb Ga Gb Ga' Gb' : Ob} {X : List (Nat × AO)} {ca cb ca' cb' : Ag.Co}
theorem Two.alloc (h : Two H0 Fa Fb X ca cb H Ga Gb) {o : Nat} (ho : H o = none) (y : AO) : Two H0 Fa Fb ((o, y) :: X) ca cb (H.set o y) Ga Gb := by
  have hs : ∀ p z, H p = some z → (H.set o y) p = some z := fun p z hp => AHeap.get_skip (fun e => by rw [e, ho] at hp; cases hp) hp
  refine ⟨h.a.ext hs, h.b.ext hs, h.na, h.nb, h.ab, fun q hp => ?_, fun p z hp h1 h2 => ⟨hs _ _ (h.fr p z hp h1 h2).1, (h.fr p z hp h1 h2).2⟩, h.oa, h.ob⟩
  rcases List.mem_cons.1 hp with rfl | hp
  · refine ⟨fun z hz => ?_, fun e => ?_, fun e => ?_, AHeap.set_self _ _ _⟩
    · by_cases h1 : o ∈ Fa.c
      · exact .inl h1
      by_cases h2 : o ∈ Fb.c
      · exact .inr h2
      have := (h.fr o z hz h1 h2).1
      rw [ho] at this; cases this
    · obtain ⟨z, hz⟩ := h.a.live o e; rw [ho] at hz; cases hz
    · obtain ⟨z, hz⟩ := h.b.live o e; rw [ho] at hz; cases hz
  · obtain ⟨x1, x2, x3, x4⟩ := h.x q hp
    exact ⟨x1, x2, x3, hs _ _ x4⟩
theorem Two.turnA (h : Two H0 Fa Fb X ca cb H Ga Gb) (hc : CAt H' Ga' ca') (t : TurnK H Ga Ga' H') : Two H0 Fa Fb X ca' cb H' Ga' Gb := by
  have hx : ∀ p y, H p = some y → p ∉ Ga.c → H' p = some y ∧ p ∉ Ga'.c := fun p y hp hn => ⟨t.fr p y hp hn, fun e => by
    rcases t.new p e with h1 | h1
    · exact hn h1
    · rw [hp] at h1; cases h1⟩
  have hbn : ∀ p ∈ Gb.c, p ∉ Ga.c := fun p hp hq => h.ab p hq hp
  refine ⟨hc, h.b.mono fun p hp y hy => (hx p y hy (hbn p hp)).1, t.nd, h.nb, fun p hp hq => ?_, fun q hp => ?_, fun p y hp h1 h2 => ?_, t.o.trans h.oa, h.ob⟩
  · obtain ⟨y, hy⟩ := h.b.live p hq
    exact (hx p y hy (hbn p hq)).2 hp
  · obtain ⟨x1, x2, x3, x4⟩ := h.x q hp
    exact ⟨x1, (hx _ _ x4 x2).2, x3, (hx _ _ x4 x2).1⟩
  · obtain ⟨z1, z2, z3⟩ := h.fr p y hp h1 h2
    exact ⟨(hx p y z1 z2).1, (hx p y z1 z2).2, z3⟩
theorem Two.swap (h : Two H0 Fa Fb X ca cb H Ga Gb) : Two H0 Fb Fa X cb ca H Gb Ga :=
  ⟨h.b, h.a, h.nb, h.na, fun p hp hq => h.ab p hq hp, fun p hp => let ⟨a, b, c, d⟩ := h.x p hp; ⟨fun y hy => (a y hy).symm, c, b, d⟩, fun p y hp h1 h2 => let ⟨a, b, c⟩ := h.fr p y hp h2 h1; ⟨a, c, b⟩, h.ob, h.oa⟩
theorem Two.store (h : Two H0 Fa Fb X ca cb H Ga Gb) {o : Nat} {z : AO} (ho : (o, z) ∈ X) (y : AO) : Two H0 Fa Fb (X.filter fun q => !decide (q.1 = o)) ca cb (H.set o y) Ga Gb := by
  obtain ⟨x1, x2, x3, x4⟩ := h.x _ ho
  refine ⟨h.a.mono fun p hp z hz => AHeap.get_skip (fun e => x2 (e ▸ hp)) hz, h.b.mono fun p hp z hz => AHeap.get_skip (fun e => x3 (e ▸ hp)) hz, h.na, h.nb, h.ab, fun q hp => ?_, fun p z hp h1 h2 => ⟨AHeap.get_skip (fun e : p = o => by subst e; exact (x1 z hp).elim h1 h2) (h.fr p z hp h1 h2).1, (h.fr p z hp h1 h2).2⟩, h.oa, h.ob⟩
  obtain ⟨hq, hne⟩ := List.mem_filter.1 hp
  have hne : q.1 ≠ o := by simpa using hne
  obtain ⟨y1, y2, y3, y4⟩ := h.x q hq
  exact ⟨y1, y2, y3, AHeap.get_skip hne y4⟩
theorem Two.none (h : Two H0 Fa Fb X ca cb H Ga Gb) : Two H0 Fa Fb [] ca cb H Ga Gb := ⟨h.a, h.b, h.na, h.nb, h.ab, fun q hq => (by cases hq), h.fr, h.oa, h.ob⟩
theorem Two.store2 (h : Two H0 Fa Fb X ca cb H Ga Gb) {o q : Nat} {z v : AO} (ho : (o, z) ∈ X) (hq : (q, v) ∈ X) (hne : q ≠ o) (y u : AO) : Two H0 Fa Fb [] ca cb ((H.set o y).set q u) Ga Gb :=
  ((h.store ho y).store (z := v) (List.mem_filter.2 ⟨hq, by simpa using hne⟩) u).none
theorem Two.store1 (h : Two H0 Fa Fb X ca cb H Ga Gb) {o : Nat} {z : AO} (ho : (o, z) ∈ X) (y : AO) : Two H0 Fa Fb [] ca cb (H.set o y) Ga Gb := (h.store ho y).none
def AllAt (H : AHeap) : List (Nat × AO) → Prop
  | [] => True
  | q :: X => H q.1 = some q.2 ∧ AllAt H X
theorem allAt_of : ∀ {X : List (Nat × AO)}, (∀ q ∈ X, H q.1 = some q.2) → AllAt H X
  | [], _ => trivial
  | q :: X, h => ⟨h q List.mem_cons_self, allAt_of fun p hp => h p (List.mem_cons_of_mem _ hp)⟩
theorem two_A (a : Ag.Act) (hf : CFine ca) (hq : ca.quiet ≤ 1000000) (ok : ActOK a) (hr : a.row.length ≤ 1000000) (h : Two H0 Fa Fb X ca cb H Ga Gb) :
    ACalls Try.prog 29 [.ptr Fa.o 0, .agg (actC a)] H fun r H' => r = .agg [saveA (oneS ca a), sendA (oneS ca a)] ∧ ∃ G, Two H0 Fa Fb X (oneS ca a).c cb H' G Gb ∧ AllAt H' X := by
  have := one_calls H Ga ca a h.a h.na hf hq ok hr
  rw [h.oa] at this
  exact this.mono fun r H' ⟨e, G, c1, c2⟩ => ⟨e, G, h.turnA c1 c2, allAt_of fun q hq => ((h.turnA c1 c2).x q hq).2.2.2⟩
theorem two_B (a : Ag.Act) (hf : CFine cb) (hq : cb.quiet ≤ 1000000) (ok : ActOK a) (hr : a.row.length ≤ 1000000) (h : Two H0 Fa Fb X ca cb H Ga Gb) :
    ACalls Try.prog 29 [.ptr Fb.o 0, .agg (actC a)] H fun r H' => r = .agg [saveA (oneS cb a), sendA (oneS cb a)] ∧ ∃ G, Two H0 Fa Fb X ca (oneS cb a).c H' Ga G ∧ AllAt H' X := by
  exact (two_A a hf hq ok hr h.swap).mono fun r H' ⟨e, G, c1, c2⟩ => ⟨e, G, c1.swap, c2⟩
end Go.Proofs.Ytbciofnejefkiaa
