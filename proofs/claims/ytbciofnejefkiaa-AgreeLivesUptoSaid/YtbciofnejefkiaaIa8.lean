import Derived.Test.YtbciofnejefkiaaIz
import Derived.Test.YtbciofnejefkiaaIa7
set_option linter.unusedVariables false
set_option linter.unusedSimpArgs false
set_option maxRecDepth 20000
set_option maxHeartbeats 4000000
namespace Go.Proofs.Ytbciofnejefkiaa
open Go Go.Am Go.Proofs
structure BAt (H0 H : AHeap) (O : Wo) (F : Nat -> Ob) (n i : Nat) : Prop where
  aw : H O.w = some (.cel [mI n, .vw O.c 1 0 i, .vw O.s 1 0 i, .vw O.k 1 0 i, .vw O.l 9 0 0, .vw O.i 1 0 0, .vw O.r 1 0 0, .vw O.b 3 0 0])
  ac : H O.c = some (.cel ((List.range i).map fun r => .ptr (F r).o 0))
  asv : H O.s = some (.cel ((List.range i).map fun r => svA r n []))
  ak : H O.k = some (.cel ((List.range i).map fun r => cutA none))
  al : H O.l = some (.cel [])
  ai : H O.i = some (.cel [])
  ar : H O.r = some (.cel [])
  ab : H O.b = some (.cel [])
  nd : O.l'.Nodup
  co : ∀ r, r < i -> CAt H (F r) (Ag.Co.new r n)
  ndC : ∀ r, r < i -> NdC (F r)
  ap : ∀ r, r < i -> ∀ p ∈ (F r).c, p ∉ O.l'
  rr : ∀ r s, r < i -> s < i -> r ≠ s -> ∀ p ∈ (F r).c, p ∉ (F s).c
  f1 : ∀ p ∈ O.l', H0 p = none
  f2 : ∀ r, r < i -> ∀ p ∈ (F r).c, H0 p = none
  fr : ∀ p y, H0 p = some y -> H p = some y
theorem BAt.live {H0 H : AHeap} {O : Wo} {F : Nat -> Ob} {n i : Nat} (h : BAt H0 H O F n i) : ∀ p ∈ O.l', ∃ y, H p = some y := fun p hd => by
  simp only [Wo.l', List.mem_cons, List.not_mem_nil, or_false] at hd; rcases hd with e | e | e | e | e | e | e | e <;> rw [e]
  · exact ⟨_, h.aw⟩
  · exact ⟨_, h.ac⟩
  · exact ⟨_, h.asv⟩
  · exact ⟨_, h.ak⟩
  · exact ⟨_, h.al⟩
  · exact ⟨_, h.ai⟩
  · exact ⟨_, h.ar⟩
  · exact ⟨_, h.ab⟩
theorem BAt.done {H0 H : AHeap} {O : Wo} {F : Nat -> Ob} {n : Nat} (h : BAt H0 H O F n n) : WAt H O F (Ag.W.begun n) /\ (∀ p, Dom O F n p -> H0 p = none) :=
  ⟨⟨h.aw, h.ac, h.asv, h.ak, h.al, h.ai, h.ar, h.ab, h.nd, h.co, h.ndC, h.ap, h.rr⟩, fun p hp => by
    rcases hp with hp | ⟨r, hr, hp⟩
    · exact h.f1 p hp
    · exact h.f2 r hr p hp⟩
theorem qj {P : Program} {n : Nat} {K : Exit -> Regs -> AHeap -> Prop} {R : Regs} {H : AHeap} {c : Code} {o : Nat} {xs : List AV} (k sz : Nat) (hH : H o = some (.cel xs)) (hk : xs[k]? = some (.raw (.slice none 0 0)))
    (h : ∀ H2 ow, H ow = none -> H2 o = some (.cel (xs.set k (.vw ow sz 0 0))) -> H2 ow = some (.cel []) -> (∀ p y, H p = some y -> p ≠ o -> H2 p = some y) -> AW P n c K R H2) : AW P n c K R H := by
  refine s8 k sz hH hk fun ow how => ?_
  have hne : o ≠ ow := fun e => by rw [<- e, hH] at how; cases how
  exact h _ ow how (arl hne (arn _ _ _)) (arn _ _ _) fun p y hp hn => arl (fun e => by rw [e, how] at hp; cases hp) (arl hn hp)
theorem ap2 {P : Program} {m : Nat} {K : Exit -> Regs -> AHeap -> Prop} {R : Regs} {H H0 : AHeap} {c : Code} {oN n : Nat} (F : Nat -> Ob) (hN : H0 oN = none) (hH : H oN = some (.cel [mI n, .raw (.slice none 0 0), .raw (.slice none 0 0), .raw (.slice none 0 0), .raw (.slice none 0 0), .raw (.slice none 0 0), .raw (.slice none 0 0), .raw (.slice none 0 0)])) (hfr : ∀ p y, H0 p = some y -> H p = some y)
    (h : ∀ H1 O, O.w = oN -> BAt H0 H1 O F n 0 -> AW P m c K R H1) : AW P m c K R H := by
  have hup : ∀ {H H' : AHeap} {p : Nat}, (∀ p y, H p = some y -> p ≠ oN -> H' p = some y) -> p ≠ oN -> H' p = none -> H p = none := fun hf hn hp => by
    rename_i H H' p
    cases hx : H p with
    | none => rfl
    | some y => rw [hf _ _ hx hn] at hp; cases hp
  have hne : ∀ {H : AHeap} {p q : Nat} {y : AO}, H p = some y -> H q = none -> p ≠ q := fun a b e => by rw [e, b] at a; cases a
  have h0 : ∀ {H : AHeap} {p : Nat}, (∀ p y, H0 p = some y -> H p = some y) -> H p = none -> H0 p = none := fun hf hp => by
    rename_i H p
    cases hx : H0 p with
    | none => rfl
    | some y => rw [hf _ _ hx] at hp; cases hp
  have hfn : ∀ {p : Nat} {y : AO}, H0 p = some y -> p ≠ oN := fun a e => by rw [e, hN] at a; cases a
  refine qj 1 1 hH rfl fun H1 o1 a1 b1 c1 d1 => ?_
  have e1 : ∀ p y, H0 p = some y -> H1 p = some y := fun p y hp => d1 p y (hfr p y hp) (hfn hp)
  refine qj 2 1 b1 rfl fun H2 o2 a2 b2 c2 d2 => ?_
  have e2 : ∀ p y, H0 p = some y -> H2 p = some y := fun p y hp => d2 p y (e1 p y hp) (hfn hp)
  have n1 := hne hH a1; have g1 := d2 _ _ c1 n1.symm; refine qj 3 1 b2 rfl fun H3 o3 a3 b3 c3 d3 => ?_
  have e3 : ∀ p y, H0 p = some y -> H3 p = some y := fun p y hp => d3 p y (e2 p y hp) (hfn hp)
  have n2 := hne b1 a2; have g2 := d3 _ _ c2 n2.symm; have h1 := d3 _ _ g1 n1.symm; refine qj 4 9 b3 rfl fun H4 o4 a4 b4 c4 d4 => ?_
  have e4 : ∀ p y, H0 p = some y -> H4 p = some y := fun p y hp => d4 p y (e3 p y hp) (hfn hp)
  have n3 := hne b2 a3; have g3 := d4 _ _ c3 n3.symm; have h2 := d4 _ _ g2 n2.symm; have i1 := d4 _ _ h1 n1.symm; refine qj 5 1 b4 rfl fun H5 o5 a5 b5 c5 d5 => ?_
  have e5 : ∀ p y, H0 p = some y -> H5 p = some y := fun p y hp => d5 p y (e4 p y hp) (hfn hp)
  have n4 := hne b3 a4; have g4 := d5 _ _ c4 n4.symm; have h3 := d5 _ _ g3 n3.symm; have i2 := d5 _ _ h2 n2.symm; have j1 := d5 _ _ i1 n1.symm; refine qj 6 1 b5 rfl fun H6 o6 a6 b6 c6 d6 => ?_
  have e6 : ∀ p y, H0 p = some y -> H6 p = some y := fun p y hp => d6 p y (e5 p y hp) (hfn hp)
  have n5 := hne b4 a5; have g5 := d6 _ _ c5 n5.symm; have h4 := d6 _ _ g4 n4.symm; have i3 := d6 _ _ h3 n3.symm; have j2 := d6 _ _ i2 n2.symm; have k1 := d6 _ _ j1 n1.symm; refine qj 7 3 b6 rfl fun H7 o7 a7 b7 c7 d7 => ?_
  have e7 : ∀ p y, H0 p = some y -> H7 p = some y := fun p y hp => d7 p y (e6 p y hp) (hfn hp)
  have n6 := hne b5 a6; have n7 := hne b6 a7; have g6 := d7 _ _ c6 n6.symm; have h5 := d7 _ _ g5 n5.symm; have i4 := d7 _ _ h4 n4.symm; have j3 := d7 _ _ i3 n3.symm; have k2 := d7 _ _ j2 n2.symm; have l1 := d7 _ _ k1 n1.symm; refine h H7 ⟨oN, o1, o2, o3, o4, o5, o6, o7⟩ rfl ⟨b7, l1, k2, j3, i4, h5, g6, c7, Wo.nd ⟨n1, n2, n3, n4, n5, n6, n7, hne c1 a2, hne g1 a3, hne h1 a4, hne i1 a5, hne j1 a6, hne k1 a7, hne c2 a3, hne g2 a4, hne h2 a5, hne i2 a6, hne j2 a7, hne c3 a4, hne g3 a5, hne h3 a6, hne i3 a7, hne c4 a5, hne g4 a6, hne h4 a7, hne c5 a6, hne g5 a7, hne c6 a7⟩, fun r hr => absurd hr (Nat.not_lt_zero _), fun r hr => absurd hr (Nat.not_lt_zero _), fun r hr => absurd hr (Nat.not_lt_zero _), fun r s hr => absurd hr (Nat.not_lt_zero _), fun p hp => ?_, fun r hr => absurd hr (Nat.not_lt_zero _), e7⟩
  simp only [Wo.l', List.mem_cons, List.not_mem_nil, or_false] at hp; rcases hp with e | e | e | e | e | e | e | e <;> rw [e]
  · exact hN
  · exact h0 hfr a1
  · exact h0 e1 a2
  · exact h0 e2 a3
  · exact h0 e3 a4
  · exact h0 e4 a5
  · exact h0 e5 a6
  · exact h0 e6 a7
theorem CAt.mono {H H' : AHeap} {F : Ob} {c : Ag.Co} (h : CAt H F c) (fr : ∀ p ∈ F.c, ∀ y, H p = some y -> H' p = some y) : CAt H' F c := by
  obtain ⟨⟨off, xs, hco, hw, hx1, hx2⟩, ⟨eg, hg, hg2⟩, ⟨eh, hh, hh2⟩⟩ := h; exact ⟨⟨off, xs, fr _ (by simp [Ob.c]) _ hco, fr _ (by simp [Ob.c]) _ hw, hx1, hx2⟩, ⟨eg, fr _ (by simp [Ob.c]) _ hg, hg2⟩, ⟨eh, fr _ (by simp [Ob.c]) _ hh, hh2⟩⟩
theorem acr {α : Type} (f : Nat -> α) (i : Nat) : (List.range (i + 1)).map f = (List.range i).map f ++ [f i] := by
  rw [List.range_succ, List.map_append]; rfl
theorem aq3 (H : AHeap) (n : Nat) (h1 : 0 < n) (h7 : n <= 7) (h2 : n % 2 = 1) :
    ACalls Try.prog 20 [mI (n : Int)] H fun r H' => ∃ O F, r = .ptr O.w 0 /\ WAt H' O F (Ag.W.begun n) /\ (∀ p, Dom O F n p -> H p = none) /\ ∀ p y, H p = some y -> H' p = some y := by
  refine ej Try.func20 rfl (by decide) ?_
  focus (refine f0 ?_; refine an ?_; refine jn ?_; refine zb1 rfl rfl rfl (fun oN hoN => ?_); refine ku ?_; refine aq ?_; refine bq ?_; refine bc ?_; refine gi ?_)
  refine ap2 (oN := oN) (n := n) (fun _ => ⟨0, 0, 0, 0, 0, 0, 0⟩) hoN (arn _ _ _) (fun p y hp => arl (fun e => by rw [e, hoN] at hp; cases hp) hp) fun H1 O e0 b0 => ?_
  subst e0; refine cv (fun mm R' H2 => ∃ (i : Nat) (O2 : Wo) (F : Nat -> Ob), O2.w = O.w /\ R' = [(0, mI n), (3, .ptr O.w 0), (4, .raw (.int .i64 (i : Int)))] /\ BAt H H2 O2 F n i /\ i + mm = n) ?_ ?_
  · exact ⟨n, _, _, ba, 0, O, _, rfl, rfl, b0, by omega⟩
  clear b0 hoN H1; rintro mm R0 H2 ⟨i, O2, F, ew, rfl, hB, hi⟩; by_cases hlt : i < n
  rotate_left
  · obtain rfl : i = n := by omega
    focus (refine bz ?_; refine an ?_; refine cm ?_; refine c8 ?_; intro hc; refine dg ?_; refine ku ?_; refine dv ?_)
    all_goals try (exfalso; omega)
    obtain ⟨z1, z2⟩ := hB.done; exact ⟨.inl rfl, _, _, _, Ent.refl _ _, ret1 rfl rfl, O2, F, by rw [ew]; rfl, z1, z2, hB.fr⟩
  have hN := New_calls H2 i n hlt h7 h2
  focus (refine bz ?_; refine an ?_; refine cm ?_; refine ax rfl (fun hc => ?_) (fun hc => ?_); refine ct ?_; refine an ?_; refine an ?_; (refine zc ah (hN) ?_; rintro r H' ⟨G, rfl, a1, a2, a3, a4⟩); refine jj ?_; refine ku ?_; refine bc ?_; refine bz ?_; refine jk ?_; refine an ?_; refine zg2 rfl rfl rfl (fun hc => ?_) (fun hc => ?_); exact absurd hc aj; refine lx ?_; refine ae rfl (xq rfl rfl) ?_; refine cd ?_; refine fm ?_; refine cy ?_; rotate_left; exact absurd hc aj)
  all_goals try (exfalso; omega)
  have hB' := hB; obtain ⟨aw, ac, asv, ak, al, ai, ar, ab, nd, co, ndC, ap, rr, f1, f2, fr⟩ := hB; rw [ew] at aw; obtain ⟨d1, d2, d3, d4, d5, d6, d7, d8, d9, d10, d11, d12, d13, d14, d15, d16, d17, d18, d19, d20, d21, d22, d23, d24, d25, d26, d27, d28⟩ := Wo.ne nd; rw [ew] at d1 d2 d3 d4 d5 d6 d7; have e1 := a4 _ _ aw; have e2 := a4 _ _ ac; have e3 := a4 _ _ asv; have e4 := a4 _ _ ak; have l1 : ((List.range i).map fun r => AV.ptr (F r).o 0).length = i := by simp
  have l2 : ((List.range i).map fun r => svA r n []).length = i := by simp
  have l3 : ((List.range i).map fun r => cutA none).length = i := by simp
  focus (refine dg ?_; refine bl ?_; refine cu ?_; refine kq ?_; refine za4 rfl rfl rfl aa mc dc au au (fun oN hoN => ?_); refine iw ?_; refine gv ?_; refine aq ?_)
  have hoC := hoN; generalize hqq : oN = oC at *; clear hqq hoN oN; have m1 : O.w ≠ oC := fun e => by rw [<- e, e1] at hoC; cases hoC
  have m2 : O2.c ≠ oC := fun e => by rw [<- e, e2] at hoC; cases hoC
  refine nr (fun H3 => H3 O.w = some (.cel [mI n, .vw oC 1 0 (i + 1), .vw O2.s 1 0 i, .vw O2.k 1 0 i, .vw O2.l 9 0 0, .vw O2.i 1 0 0, .vw O2.r 1 0 0, .vw O2.b 3 0 0]) /\ H3 oC = some (.cel (((List.range i).map fun r => AV.ptr (F r).o 0) ++ [.ptr G.o 0])) /\ ∀ p y, H' p = some y -> p ≠ O.w -> p ≠ O2.c -> H3 p = some y) ⟨by exact aa, by exact aa, fun p y hp h1 h2 => by
    have h3 : p ≠ oC := fun e => by rw [e, hoC] at hp; cases hp
    exact aa⟩ ?_
  rintro H3 ⟨p1, p2, p3⟩; have e5 := p3 _ _ e3 d2.symm d8.symm; have e6 := p3 _ _ e4 d3.symm d9.symm
  focus (refine dg ?_; refine bl ?_; refine kq ?_; refine za4 rfl rfl rfl aa mc dc au au (fun oN hoN => ?_); refine iw ?_; refine gv ?_; refine aq ?_)
  have hoS := hoN; generalize hqq : oN = oS at *; clear hqq hoN oN; have m3 : O.w ≠ oS := fun e => by rw [<- e, p1] at hoS; cases hoS
  have m4 : O2.s ≠ oS := fun e => by rw [<- e, e5] at hoS; cases hoS
  have m5 : oC ≠ oS := fun e => by rw [<- e, p2] at hoS; cases hoS
  refine nr (fun H4 => H4 O.w = some (.cel [mI n, .vw oC 1 0 (i + 1), .vw oS 1 0 (i + 1), .vw O2.k 1 0 i, .vw O2.l 9 0 0, .vw O2.i 1 0 0, .vw O2.r 1 0 0, .vw O2.b 3 0 0]) /\ H4 oS = some (.cel (((List.range i).map fun r => svA r n []) ++ [.raw (.slice none 0 0)])) /\ ∀ p y, H3 p = some y -> p ≠ O.w -> p ≠ O2.s -> H4 p = some y) ⟨by exact aa, by exact aa, fun p y hp h1 h2 => by
    have h3 : p ≠ oS := fun e => by rw [e, hoS] at hp; cases hp
    exact aa⟩ ?_
  rintro H4 ⟨q1, q2, q3⟩; have e7 := q3 _ _ e6 d3.symm d14.symm; refine dy (R' := [(0, mI n), (3, .ptr O.w 0), (4, .raw (.int .i64 (i : Int)))]) (H' := H4.set oS (.cel (((List.range i).map fun r => svA r n []) ++ [.sls 0 []]))) ((Ent.wcelH (zh q2).symm (am7 (aab _) (WC.cons (W.nils rfl) WC.nil))).trans (Ent.sub _ (by (repeat' (first | exact RSub.nil _ | apply RSub.cons)); all_goals rfl))) ?_
  refine nr (fun H5 => H5 O.w = some (.cel [mI n, .vw oC 1 0 (i + 1), .vw oS 1 0 (i + 1), .vw O2.k 1 0 i, .vw O2.l 9 0 0, .vw O2.i 1 0 0, .vw O2.r 1 0 0, .vw O2.b 3 0 0]) /\ H5 oS = some (.cel (((List.range i).map fun r => svA r n []) ++ [svA i n []])) /\ H5 O2.k = some (.cel ((List.range i).map fun r => cutA none)) /\ ∀ p y, H3 p = some y -> p ≠ O.w -> p ≠ O2.s -> H5 p = some y) ⟨arl m3 q1, arn _ _ _, arl (fun e => by rw [e] at e6; rw [e6] at hoS; cases hoS) e7, fun p y hp h1 h2 => arl (fun e => by rw [e, hoS] at hp; cases hp) (q3 p y hp h1 h2)⟩ ?_
  clear q1 q2 q3 e7 H4; rintro H5 ⟨q1, q2, q4, q3⟩
  focus (refine fv ?_; refine bl ?_; refine kq ?_; refine za4 rfl rfl rfl aa mc dc au au (fun oN hoN => ?_); refine iw ?_; refine jc ?_; refine fx ?_)
  all_goals try (exfalso; omega)
  have m6 : O.w ≠ oN := fun e => by rw [<- e, q1] at hoN; cases hoN
  have m7 : O2.k ≠ oN := fun e => by rw [<- e, q4] at hoN; cases hoN
  have m8 : oS ≠ oN := fun e => by rw [<- e, q2] at hoN; cases hoN
  have hkeep : ∀ p y, H' p = some y -> p ≠ O.w -> p ≠ O2.c -> p ≠ O2.s -> p ≠ O2.k -> (((H5.erase O2.k).set oN (.cel (((List.range i).map fun r => cutA none) ++ [.raw (.int .i64 (-1))]))).set O.w (.cel [mI n, .vw oC 1 0 (i + 1), .vw oS 1 0 (i + 1), .vw oN 1 0 (i + 1), .vw O2.l 9 0 0, .vw O2.i 1 0 0, .vw O2.r 1 0 0, .vw O2.b 3 0 0])) p = some y /\ p ≠ oC /\ p ≠ oS /\ p ≠ oN := fun p y hp h1 h2 h3 h4 => by
    have x1 := p3 p y hp h1 h2; have x2 := q3 p y x1 h1 h3; have y1 : p ≠ oC := fun e => by rw [e, hoC] at hp; cases hp
    have y2 : p ≠ oS := fun e => by rw [e, hoS] at x1; cases x1
    have y3 : p ≠ oN := fun e => by rw [e, hoN] at x2; cases x2
    exact ⟨arl h1 (arl y3 (arq h4 x2)), y1, y2, y3⟩
  have hoCk : oC ≠ O2.k := fun e => by rw [e, e4] at hoC; cases hoC
  have hoCs : oC ≠ O2.s := fun e => by rw [e, e3] at hoC; cases hoC
  have p4 := q3 _ _ p2 m1.symm hoCs; have m9 : oC ≠ oN := fun e => by rw [<- e, p4] at hoN; cases hoN
  have hoSk : oS ≠ O2.k := fun e => by rw [e, e6] at hoS; cases hoS
  have hn2 : ∀ p, H' p = none -> H p = none := fun p hp => by
    cases hx : H p with
    | none => rfl
    | some y => rw [a4 _ _ (fr _ _ hx)] at hp; cases hp
  have hn3 : ∀ p, H3 p = none -> H p = none := fun p hp => by
    cases hx : H p with
    | none => rfl
    | some y =>
      have x0 : p ∉ O2.l' := fun hx2 => by rw [f1 p hx2] at hx; cases hx
      rw [p3 _ _ (a4 _ _ (fr _ _ hx)) (fun e => x0 (by rw [e, <- ew]; simp [Wo.l'])) (fun e => x0 (by rw [e]; simp [Wo.l']))] at hp; cases hp
  have hn5 : ∀ p, H5 p = none -> H p = none := fun p hp => by
    cases hx : H p with
    | none => rfl
    | some y =>
      have x0 : p ∉ O2.l' := fun hx2 => by rw [f1 p hx2] at hx; cases hx
      rw [q3 _ _ (p3 _ _ (a4 _ _ (fr _ _ hx)) (fun e => x0 (by rw [e, <- ew]; simp [Wo.l'])) (fun e => x0 (by rw [e]; simp [Wo.l']))) (fun e => x0 (by rw [e, <- ew]; simp [Wo.l'])) (fun e => x0 (by rw [e]; simp [Wo.l']))] at hp; cases hp
  have hGl : ∀ p ∈ G.c, p ∉ O2.l' := fun p hp hx => by
    obtain ⟨y, hy⟩ := hB'.live p hx; rw [a3 p hp] at hy; cases hy
  have hGn : ∀ p ∈ G.c, H p = none := fun p hp => by
    cases hx : H p with
    | none => rfl
    | some y => have := fr _ _ hx; rw [a3 p hp] at this; cases this
  have hout : ∀ p, p ∉ O2.l' -> p ≠ O.w /\ p ≠ O2.c /\ p ≠ O2.s /\ p ≠ O2.k := fun p hp => ⟨fun e => hp (by rw [e, <- ew]; simp [Wo.l']), fun e => hp (by rw [e]; simp [Wo.l']), fun e => hp (by rw [e]; simp [Wo.l']), fun e => hp (by rw [e]; simp [Wo.l'])⟩
  have hcx : ∀ {K : Ob} {d : Ag.Co}, CAt H' K d -> (∀ p ∈ K.c, p ∉ O2.l') -> CAt (((H5.erase O2.k).set oN (.cel (((List.range i).map fun r => cutA none) ++ [.raw (.int .i64 (-1))]))).set O.w (.cel [mI n, .vw oC 1 0 (i + 1), .vw oS 1 0 (i + 1), .vw oN 1 0 (i + 1), .vw O2.l 9 0 0, .vw O2.i 1 0 0, .vw O2.r 1 0 0, .vw O2.b 3 0 0])) K d /\ ∀ p ∈ K.c, p ∉ [O.w, oC, oS, oN, O2.l, O2.i, O2.r, O2.b] := fun h1 h2 => by
    refine ⟨h1.mono fun p hp y hy => ?_, fun p hp hx => ?_⟩
    · obtain ⟨z1, z2, z3, z4⟩ := hout p (h2 p hp)
      exact (hkeep p y hy z1 z2 z3 z4).1
    · obtain ⟨y, hy⟩ := h1.live p hp
      obtain ⟨z1, z2, z3, z4⟩ := hout p (h2 p hp); obtain ⟨_, w1, w2, w3⟩ := hkeep p y hy z1 z2 z3 z4; simp only [List.mem_cons, List.not_mem_nil, or_false] at hx; rcases hx with e | e | e | e | e | e | e | e
      · exact z1 e
      · exact w1 e
      · exact w2 e
      · exact w3 e
      · exact h2 p hp (by rw [e]; simp [Wo.l'])
      · exact h2 p hp (by rw [e]; simp [Wo.l'])
      · exact h2 p hp (by rw [e]; simp [Wo.l'])
      · exact h2 p hp (by rw [e]; simp [Wo.l'])
  obtain ⟨kl1, kl2, kl3, kl4⟩ := hkeep _ _ (a4 _ _ al) d4.symm d10.symm d15.symm d19.symm; obtain ⟨ki1, ki2, ki3, ki4⟩ := hkeep _ _ (a4 _ _ ai) d5.symm d11.symm d16.symm d20.symm; obtain ⟨kr1, kr2, kr3, kr4⟩ := hkeep _ _ (a4 _ _ ar) d6.symm d12.symm d17.symm d21.symm; obtain ⟨kb1, kb2, kb3, kb4⟩ := hkeep _ _ (a4 _ _ ab) d7.symm d13.symm d18.symm d22.symm; have hold : ∀ r, r < i -> Ag.upd F i G r = F r := fun r hr => Ag.upd_other _ _ (by omega)
  have hmapF : ((List.range i).map fun r => AV.ptr (F r).o 0) = (List.range i).map fun r => AV.ptr (Ag.upd F i G r).o 0 := List.map_congr_left fun r hr => by rw [hold r (List.mem_range.1 hr)]
  refine ⟨mm - 1, _, _, by omega, jt, i + 1, ⟨O.w, oC, oS, oN, O2.l, O2.i, O2.r, O2.b⟩, Ag.upd F i G, rfl, rfl, ⟨arn _ _ _, ?_, ?_, ?_, kl1, ki1, kr1, kb1, Wo.nd ⟨m1, m3, m6, d4, d5, d6, d7, m5, m9, kl2.symm, ki2.symm, kr2.symm, kb2.symm, m8, kl3.symm, ki3.symm, kr3.symm, kb3.symm, kl4.symm, ki4.symm, kr4.symm, kb4.symm, d23, d24, d25, d26, d27, d28⟩, fun r hr => ?_, fun r hr => ?_, fun r hr => ?_, fun r s hr hs hne p hp hps => ?_, fun p hp => ?_, fun r hr p hp => ?_, fun p y hp => ?_⟩, by omega⟩
  · rw [acr, Ag.upd_same, <- hmapF]
    exact arl m1.symm (arl m9 (arq hoCk p4))
  · rw [acr]
    exact arl m3.symm (arl m8 (arq hoSk q2))
  · rw [acr]
    exact arl m6.symm (arn _ _ _)
  · rcases Nat.lt_succ_iff_lt_or_eq.1 hr with h | rfl
    · rw [hold r h]; exact (hcx ((co r h).ext a4) (ap r h)).1
    · rw [Ag.upd_same]; exact (hcx a1 hGl).1
  · rcases Nat.lt_succ_iff_lt_or_eq.1 hr with h | rfl
    · rw [hold r h]; exact ndC r h
    · rw [Ag.upd_same]; exact a2
  · rcases Nat.lt_succ_iff_lt_or_eq.1 hr with h | rfl
    · rw [hold r h]; exact (hcx ((co r h).ext a4) (ap r h)).2
    · rw [Ag.upd_same]; exact (hcx a1 hGl).2
  · rcases Nat.lt_succ_iff_lt_or_eq.1 hr with h | rfl
    · rw [hold r h] at hp
      rcases Nat.lt_succ_iff_lt_or_eq.1 hs with h' | rfl
      · rw [hold s h'] at hps; exact rr r s h h' hne p hp hps
      · rw [Ag.upd_same] at hps
        obtain ⟨y, hy⟩ := (co r h).live p hp; rw [a3 p hps] at hy; cases hy
    · rw [Ag.upd_same] at hp
      rcases Nat.lt_succ_iff_lt_or_eq.1 hs with h' | rfl
      · rw [hold s h'] at hps
        obtain ⟨y, hy⟩ := (co s h').live p hps; rw [a3 p hp] at hy; cases hy
      · exact hne rfl
  · simp only [Wo.l', List.mem_cons, List.not_mem_nil, or_false] at hp
    rcases hp with e | e | e | e | e | e | e | e <;> rw [e]
    · rw [<- ew]; exact f1 _ (by simp [Wo.l'])
    · exact hn2 _ hoC
    · exact hn3 _ hoS
    · exact hn5 _ hoN
    · exact f1 _ (by simp [Wo.l'])
    · exact f1 _ (by simp [Wo.l'])
    · exact f1 _ (by simp [Wo.l'])
    · exact f1 _ (by simp [Wo.l'])
  · rcases Nat.lt_succ_iff_lt_or_eq.1 hr with h | rfl
    · rw [hold r h] at hp; exact f2 r h p hp
    · rw [Ag.upd_same] at hp; exact hGn p hp
  · have x0 : p ∉ O2.l' := fun hx2 => by rw [f1 p hx2] at hp; cases hp
    obtain ⟨z1, z2, z3, z4⟩ := hout p x0; exact (hkeep p y (a4 _ _ (fr _ _ hp)) z1 z2 z3 z4).1
end Go.Proofs.Ytbciofnejefkiaa
namespace Go.Proofs.Ytbciofnejefkiaa
open Go Go.Am Go.Proofs
structure ActOK (a : Ag.Act) : Prop where
  ok : a.Ok
  op : b64 a.op
  r : b64 a.r
  k : b64 a.k
  row : a.row.length <= 100000000
theorem akr {l : List Ag.Act} {i : Nat} {a : Ag.Act} (h : l[i]? = some a) : ((l.flatMap actC).drop (i * 5)).take 5 = actC a := wh (sz := 5) (f := actC) (fun _ => rfl) h
theorem amt {l : List Ag.Act} {i j : Nat} {a : Ag.Act} {y : AV} (h : l[i]? = some a) (hj : j < 5) (hy : (actC a)[j]? = some y) : (l.flatMap actC)[i * 5 + j]? = some y := aix (sz := 5) (f := actC) (fun _ => rfl) h hj hy
theorem anm (H : AHeap) (O : Wo) (F : Nat -> Ob) (g : Ag.Gh) (w : Ag.W) (q B I : Nat) (a : Ag.Act) (hA : WAt H O F w) (hX : WX g w q B I) (hq : q <= 100000) (hI : I <= 100000) (hB : B <= 10000000000) (h : ActOK a) (hrl : a.row.length <= 1000000) :
    ACalls Try.prog 21 [.ptr O.w 0, .agg (actC a)] H fun r' H' => r' = bB true /\ ∃ w' g' O' F', w.act a = some w' /\ WX g' w' (q + 1) (B + 200) (I + 1) /\ w'.n = w.n /\ WAt H' O' F' w' /\ TurnW w.n H O F O' F' H' := by
  obtain ⟨w', g', e1, e2, e3⟩ := hX.act (by omega) h.ok h.k
  exact (ag7 H O F g w w' q B I a hA hX hq hI hB h.ok h.op h.r h.k hrl e1).mono fun r' H' ⟨x, O', F', y1, y2⟩ => ⟨x, w', g', O', F', e1, e2, e3, y1, y2⟩
end Go.Proofs.Ytbciofnejefkiaa
namespace Go.Proofs.Ytbciofnejefkiaa
open Go Go.Am Go.Proofs
namespace Ag
def foldO {β α : Type} (f : β -> α -> Option β) : β -> List α -> Option β
  | b, [] => some b
  | b, a :: l => (f b a).bind fun b => foldO f b l
noncomputable def W.tickR (up : Nat -> Bool) (w : W) (r : Nat) : Option W := if up r = true then w.step r (w.c r).tick else some w
noncomputable def W.hearM (up : Nat -> Bool) (w : W) (m : Mg) : Option W := if up m.from_.toNat = true /\ up m.to.toNat = true then w.step m.to.toNat ((w.c m.to.toNat).get m) else some w
noncomputable def W.round (up : Nat -> Bool) (w : W) : Option W := (foldO (W.tickR up) w (List.range w.n)).bind fun w1 => foldO (W.hearM up) { w1 with l := [] } w1.l
theorem step_ok' {g g' : Gh} {w : W} (h : WG g w) {r : Nat} (hr : r < w.n) (hk : w.cut r = none) {s : St} (hs : SOK g r (base (w.c r)) g' s) :
    ∃ w', w.step r s = some w' /\ WG g' w' := by
  unfold W.step; dsimp only; rw [hk]; dsimp only; have hw := h.turn hr hs.le hs.only hs.gok hs.cok hs.me hs.disk; have hn : g'.n = w.n := hs.le.n.trans h.n
  rw [if_pos (fun m hm => by
    obtain ⟨h1, h2⟩ := hs.send m hm; exact ⟨h1.good (by rw [hn]; exact h.n7), h2, by rw [<- h2]; exact h1.ne, h1.to.1, by have := h1.to.2; rw [hn] at this; exact this⟩)]
  have hw3 : WG g' { w with c := upd w.c r s.c, saved := upd w.saved r (w.saved r ++ s.save), l := s.send.foldl addL w.l } := ⟨hw.gok, hw.n, hw.n7, hw.S, hw.c, hw.disk, fun m hm => by
    rcases tw hm with h | h
    · exact hw.l m h
    · exact (hs.send m h).1, hw.best⟩
  obtain ⟨b, t1, t2⟩ := told_ok hw3 hr; exact ⟨_, t1, t2⟩
end Ag
open Ag (GOK COK WG MOK SOK LOK)
theorem WX.step1 {g g' : Ag.Gh} {w : Ag.W} {q q' B I r : Nat} {s : Ag.St} (h : WX g w q B I) (hr : r < w.n) (hk : w.cut r = none) (hs : SOK g r (Ag.base (w.c r)) g' s) (hsv : RS' s) (hsl : s.save.length <= 200) (hq : s.c.quiet <= q') (hqq : q <= q') :
    ∃ w', w.step r s = some w' /\ WX g' w' q' (B + 200) I /\ w'.n = w.n /\ w'.ids = w.ids := by
  obtain ⟨w', g'', e, hw, hn, hi⟩ := h.step hr hs hsv hsl hq hqq; obtain ⟨w2, e2, h2⟩ := Ag.step_ok' h.wg hr hk hs; rw [e] at e2; obtain rfl := Option.some.inj e2; exact ⟨w', e, ⟨h2, hw.odd, hw.quiet, hw.sv, hw.svl, hw.idl, hw.row, hw.l, hw.cut⟩, hn, hi⟩
structure Tn (up : Nat -> Bool) (g g' : Ag.Gh) (w w' : Ag.W) : Prop where
  le : Ag.Le g g'
  n : w'.n = w.n
  cut : ∀ p, w'.cut p = none
  dn : ∀ p, up p = false -> (∀ u, g'.acc p u = g.acc p u) /\ w'.c p = w.c p
theorem Tn.refl {up : Nat -> Bool} {g : Ag.Gh} {w : Ag.W} (h : ∀ p, w.cut p = none) : Tn up g g w w := ⟨Ag.Le.refl g, rfl, h, fun _ _ => ⟨fun _ => rfl, rfl⟩⟩
theorem Tn.trans {up : Nat -> Bool} {g g' g2 : Ag.Gh} {w w' w2 : Ag.W} (h : Tn up g g' w w') (k : Tn up g' g2 w' w2) : Tn up g g2 w w2 :=
  ⟨h.le.trans k.le, k.n.trans h.n, k.cut, fun p hp => ⟨fun u => ((k.dn p hp).1 u).trans ((h.dn p hp).1 u), (k.dn p hp).2.trans (h.dn p hp).2⟩⟩
theorem Tn.step {up : Nat -> Bool} {g g' : Ag.Gh} {w w' : Ag.W} {r : Nat} {s : Ag.St} (hk : ∀ p, w.cut p = none) (hu : up r = true) (hs : SOK g r (Ag.base (w.c r)) g' s) (e : w.step r s = some w') : Tn up g g' w w' := by
  rcases ql e with ⟨_, b, e2⟩ | ⟨k, d, b, hk2, _⟩
  · subst e2
    refine ⟨hs.le, rfl, hk, fun p hp => ?_⟩
    have hpr : p ≠ r := fun x => by rw [x, hu] at hp; cases hp
    exact ⟨(hs.only.at_ p hpr).2, Ag.upd_other _ _ hpr⟩
  · rw [hk r] at hk2; cases hk2
theorem WX.tick1 {up : Nat -> Bool} {g : Ag.Gh} {w : Ag.W} {q B I : Nat} (h : WX g w q B I) (hk : ∀ p, w.cut p = none) (hq : q < 1000000) {r : Nat} (hr : r < w.n) :
    ∃ w' g', Ag.W.tickR up w r = some w' /\ WX g' w' (q + 1) (B + 200) I /\ Tn up g g' w w' /\ w'.ids = w.ids := by
  unfold Ag.W.tickR; by_cases hu : up r = true
  · rw [if_pos hu]
    have hcf := h.cf (by omega) hr
    have hqr := h.quiet r hr; obtain ⟨y1, y2⟩ := vg hcf (by omega)
    obtain ⟨hc0, hm0⟩ := h.wg.c r hr; obtain ⟨g', _, x2⟩ := Ag.tick_ok h.wg.gok hc0; rw [hm0] at x2; obtain ⟨w', e, e2, e3, e4⟩ := h.step1 hr (hk r) x2 y2 (tp y1) (q' := q + 1) (by have := (afx (w.c r)).2; omega) (by omega)
    exact ⟨w', g', e, e2, Tn.step hk hu x2 e, e4⟩
  · rw [if_neg hu]
    exact ⟨w, g, rfl, h.more (by omega) (by omega) (by omega), Tn.refl hk, rfl⟩
theorem WX.hear1 {up : Nat -> Bool} {g : Ag.Gh} {w : Ag.W} {q B I : Nat} (h : WX g w q B I) (hk : ∀ p, w.cut p = none) (hq : q < 1000000) {m : Mg} (hm : MOK g m) :
    ∃ w' g', Ag.W.hearM up w m = some w' /\ WX g' w' q (B + 200) I /\ Tn up g g' w w' /\ w'.ids = w.ids := by
  unfold Ag.W.hearM; by_cases hu : up m.from_.toNat = true /\ up m.to.toNat = true
  · rw [if_pos hu]
    have hr : m.to.toNat < w.n := by have := hm.to; have := h.wg.n; omega
    have hcf := h.cf (by omega) hr
    have hqr := h.quiet _ hr; obtain ⟨y1, y2⟩ := vl hcf (hm.okm (by rw [h.wg.n]; exact h.wg.n7))
    obtain ⟨hc0, hm0⟩ := h.wg.c _ hr; obtain ⟨g', _, x2⟩ := Ag.get_ok h.wg.gok hc0 hm; rw [hm0] at x2; obtain ⟨w', e, e2, e3, e4⟩ := h.step1 hr (hk _) x2 y2 (tp y1) (q' := q) (by have := (acn (w.c m.to.toNat) m).quiet; omega) (by omega)
    exact ⟨w', g', e, e2, Tn.step hk hu.2 x2 e, e4⟩
  · rw [if_neg hu]
    exact ⟨w, g, rfl, h.more (by omega) (by omega) (by omega), Tn.refl hk, rfl⟩
theorem WX.ticks {up : Nat -> Bool} : ∀ (l : List Nat) {g : Ag.Gh} {w : Ag.W} {q B I : Nat}, WX g w q B I -> (∀ p, w.cut p = none) -> q + l.length < 1000000 -> (∀ r ∈ l, r < w.n) ->
    ∃ w' g', Ag.foldO (Ag.W.tickR up) w l = some w' /\ WX g' w' (q + l.length) (B + 200 * l.length) I /\ Tn up g g' w w' /\ w'.ids = w.ids
  | [], g, w, q, B, I, h, hk, hq, hl => ⟨w, g, rfl, h, Tn.refl hk, rfl⟩
  | r :: l, g, w, q, B, I, h, hk, hq, hl => by
    rw [List.length_cons] at hq; obtain ⟨w1, g1, e1, x1, t1, i1⟩ := h.tick1 (up := up) hk (by omega) (hl r List.mem_cons_self)
    obtain ⟨w2, g2, e2, x2, t2, i2⟩ := WX.ticks l x1 t1.cut (by omega) (fun p hp => by rw [t1.n]; exact hl p (List.mem_cons_of_mem _ hp))
    refine ⟨w2, g2, ?_, x2.more ?_ ?_ (Nat.le_refl _), t1.trans t2, i2.trans i1⟩
    · unfold Ag.foldO; rw [e1, Option.bind_some]; exact e2
    · rw [List.length_cons]; omega
    · rw [List.length_cons]; omega
theorem WX.hears {up : Nat -> Bool} : ∀ (l : List Mg) {g : Ag.Gh} {w : Ag.W} {q B I : Nat}, WX g w q B I -> (∀ p, w.cut p = none) -> q < 1000000 -> (∀ m ∈ l, MOK g m) ->
    ∃ w' g', Ag.foldO (Ag.W.hearM up) w l = some w' /\ WX g' w' q (B + 200 * l.length) I /\ Tn up g g' w w' /\ w'.ids = w.ids
  | [], g, w, q, B, I, h, hk, hq, hl => ⟨w, g, rfl, h, Tn.refl hk, rfl⟩
  | m :: l, g, w, q, B, I, h, hk, hq, hl => by
    obtain ⟨w1, g1, e1, x1, t1, i1⟩ := h.hear1 (up := up) hk (by omega) (hl m List.mem_cons_self)
    obtain ⟨w2, g2, e2, x2, t2, i2⟩ := WX.hears l x1 t1.cut (by omega) (fun p hp => (hl p (List.mem_cons_of_mem _ hp)).le t1.le)
    refine ⟨w2, g2, ?_, x2.more (Nat.le_refl _) ?_ (Nat.le_refl _), t1.trans t2, i2.trans i1⟩
    · unfold Ag.foldO; rw [e1, Option.bind_some]; exact e2
    · rw [List.length_cons]; omega
theorem WX.noL {g : Ag.Gh} {w : Ag.W} {q B I : Nat} (h : WX g w q B I) : WX g { w with l := [] } q B I :=
  ⟨⟨h.wg.gok, h.wg.n, h.wg.n7, h.wg.S, h.wg.c, h.wg.disk, fun m hm => (by cases hm), h.wg.best⟩, h.odd, h.quiet, h.sv, h.svl, h.idl, h.row, Nat.zero_le _, h.cut⟩
theorem WX.round {up : Nat -> Bool} {g : Ag.Gh} {w : Ag.W} {q B I : Nat} (h : WX g w q B I) (hk : ∀ p, w.cut p = none) (hq : q < 100000) :
    ∃ w1 g1 w' g', Ag.foldO (Ag.W.tickR up) w (List.range w.n) = some w1 /\ WX g1 w1 (q + 7) (B + 1400) I /\ Tn up g g1 w w1 /\ Ag.foldO (Ag.W.hearM up) { w1 with l := [] } w1.l = some w' /\
      WX g' w' (q + 7) (B + 801400) I /\ Tn up g g' w w' /\ w'.ids = w.ids /\ w.round up = some w' := by
  have h7 := h.wg.n7; obtain ⟨w1, g1, e1, x1, t1, i1⟩ := WX.ticks (up := up) (List.range w.n) h hk (by rw [List.length_range]; omega) (fun r hr => List.mem_range.1 hr)
  rw [List.length_range] at x1; have x1' : WX g1 w1 (q + 7) (B + 1400) I := x1.more (by omega) (by omega) (Nat.le_refl _)
  obtain ⟨w2, g2, e2, x2, t2, i2⟩ := WX.hears (up := up) w1.l (w := { w1 with l := [] }) x1'.noL t1.cut (by omega) (fun m hm => x1.wg.l m hm)
  have hl := x1.l; have t12 : Tn up g1 g2 w1 w2 := ⟨t2.le, t2.n, t2.cut, t2.dn⟩; refine ⟨w1, g1, w2, g2, e1, x1', t1, e2, x2.more (Nat.le_refl _) (by omega) (Nat.le_refl _), t1.trans t12, i2.trans i1, ?_⟩
  unfold Ag.W.round; rw [e1, Option.bind_some]; exact e2
theorem WX.sub1 {up : Nat -> Bool} {g : Ag.Gh} {w : Ag.W} {q B I : Nat} (h : WX g w q B I) (hk : ∀ p, w.cut p = none) (hq : q < 1000000) {r id : Nat} {row : List Int} (hr : r < w.n) (hu : up r = true) (ok : Ag.Act.Ok ⟨0, (r : Int), 0, id, row⟩) :
    ∃ w' g', w.act ⟨0, (r : Int), 0, id, row⟩ = some w' /\ (wIn w ⟨0, (r : Int), 0, id, row⟩).step r ((w.c r).submit id row) = some w' /\ WX g' w' q (B + 200) (I + 1) /\ Tn up g g' w w' /\ w'.ids = (wIn w ⟨0, (r : Int), 0, id, row⟩).ids := by
  have hvn : (wIn w ⟨0, (r : Int), 0, id, row⟩).n = w.n := by unfold wIn; split <;> rfl
  have hvc : (wIn w ⟨0, (r : Int), 0, id, row⟩).c = w.c := by unfold wIn; split <;> rfl
  have hvk : (wIn w ⟨0, (r : Int), 0, id, row⟩).cut = w.cut := by unfold wIn; split <;> rfl
  have key : ∀ (w1 : Ag.W) (g1 : Ag.Gh), WX g1 w1 q B (I + 1) -> w1.n = w.n -> w1.c = w.c -> w1.cut = w.cut -> Ag.Le g g1 -> (∀ p u, g1.acc p u = g.acc p u) -> (Ag.may ⟨id, 0, row⟩ = true -> Ag.EOK g1.S ⟨id, 0, row⟩) ->
      ∃ w' g', w1.step r ((w.c r).submit id row) = some w' /\ WX g' w' q (B + 200) (I + 1) /\ Tn up g g' w w' /\ w'.ids = w1.ids := by
    intro w1 g1 h1 hn hcc hkk hle hac he; obtain ⟨hc, hm⟩ := h1.wg.c r (by rw [hn]; exact hr)
    rw [hcc] at hc hm; obtain ⟨g2, _, hs⟩ := Ag.submit_ok h1.wg.gok hc id row he; rw [hm, <- hcc] at hs; have hcf := h.cf (by omega) hr
    have hqr := h.quiet _ hr; have hen : (⟨id, 0, row⟩ : En).Ok := ⟨ok.id, by simp, ok.row⟩
    obtain ⟨y1, y2⟩ := vk hcf hen; rw [hcc] at hs; obtain ⟨w', e1, e2, e3, e4⟩ := h1.step1 (by rw [hn]; exact hr) (by rw [hkk]; exact hk r) (by rw [hcc]; exact hs) y2 (tp y1) (by have := (ahw (w.c r) id row).quiet; omega) (Nat.le_refl q)
    have t := Tn.step (up := up) (by rw [hkk]; exact hk) hu (by rw [hcc]; exact hs) e1
    exact ⟨w', g2, e1, e2, ⟨hle.trans t.le, t.n.trans hn, t.cut, fun p hp => ⟨fun u => ((t.dn p hp).1 u).trans (hac p u), by rw [(t.dn p hp).2, hcc]⟩⟩, e4⟩
  have hact : w.act ⟨0, (r : Int), 0, id, row⟩ = (wIn w ⟨0, (r : Int), 0, id, row⟩).step r ((w.c r).submit id row) := by
    unfold Ag.W.act; rw [if_pos rfl, if_pos ⟨by show (0 : Int) <= (r : Int); omega, by show (r : Int) < (w.n : Int); omega⟩]
    show Ag.W.step (wIn w ⟨0, (r : Int), 0, id, row⟩) (r : Int).toNat ((w.c (r : Int).toNat).submit id row) = _
    rw [Int.toNat_natCast]
  rw [hact]; clear hact; by_cases hi : 0 < id /\ row.length <= 16
  · have hw : wIn w ⟨0, (r : Int), 0, id, row⟩ = { w with ids := w.ids ++ [(id, row)] } := if_pos hi
    rw [hw]
    have hx : WX { g with S := w.ids ++ [(id, row)] } { w with ids := w.ids ++ [(id, row)] } q B (I + 1) :=
      ⟨h.wg.more (id, row), h.odd, h.quiet, h.sv, h.svl, by show (w.ids ++ [_]).length <= _; have := h.idl; rw [List.length_append]; simp only [List.length_cons, List.length_nil]; omega, fun x hx => by
        rcases List.mem_append.1 hx with hx | hx
        · exact h.row x hx
        · rw [List.mem_singleton.1 hx]; show row.length <= _; omega, h.l, h.cut⟩
    obtain ⟨w', g', a, b, c, d⟩ := key _ _ hx rfl rfl rfl ⟨rfl, fun _ => Nat.le_refl _, fun _ _ _ => rfl, fun _ _ l hl => ⟨l, hl, List.prefix_refl _⟩, fun _ _ _ => rfl, fun y hy => by show y ∈ w.ids ++ [(id, row)]; rw [<- h.wg.S]; exact List.mem_append_left _ hy⟩ (fun p u => rfl) fun _ => ⟨rfl, hi.1, hi.2, List.mem_append_right _ (List.mem_singleton.2 rfl), ⟨ok.id, by simp, ok.row⟩⟩
    exact ⟨w', g', a, a, b, c, d⟩
  · have hw : wIn w ⟨0, (r : Int), 0, id, row⟩ = w := if_neg hi
    rw [hw]
    obtain ⟨w', g', a, b, c, d⟩ := key w g (h.more (Nat.le_refl _) (Nat.le_refl _) (by omega)) rfl rfl rfl (Ag.Le.refl g) (fun p u => rfl) fun hm => by
      simp only [Ag.may, Bool.and_eq_true, decide_eq_true_eq] at hm; exact absurd hm hi
    exact ⟨w', g', a, a, b, c, d⟩
end Go.Proofs.Ytbciofnejefkiaa
namespace Go.Proofs.Ytbciofnejefkiaa
open Go Go.Am Go.Proofs
open Ag (GOK COK WG MOK SOK LOK)
theorem ad0 : ∀ {l : List En}, Ag.uniq l = true -> (l.map En.id).Nodup
  | [], _ => List.nodup_nil
  | e :: l, h => by
    simp only [Ag.uniq, Bool.and_eq_true, Bool.not_eq_true'] at h; rw [List.map_cons, List.nodup_cons]; refine ⟨fun hx => ?_, ad0 h.2⟩
    obtain ⟨a, ha, hb⟩ := List.mem_map.1 hx; have := Ag.hasId_get.2 ⟨a, ha, hb⟩; rw [h.1] at this; cases this
end Go.Proofs.Ytbciofnejefkiaa
namespace Go.Proofs.Ytbciofnejefkiaa
namespace Ag
def ld (c : Co) : Nat := if c.lead = true then 1 else 0
def is46 (m : Mg) : Bool := decide (m.kind = 4) || decide (m.kind = 6)
def NF (c : Co) : Prop := c.lead = true \/ c.got c.me = none \/ c.size < c.quorum
theorem ah9 {c : Co} (h : c.lead = true) : ld c = 1 := if_pos h
theorem ya {c : Co} (h : c.lead = false) : ld c = 0 := if_neg (by rw [h]; simp)
theorem xp (c : Co) : ld c <= 1 := by unfold ld; split <;> omega
structure Kp (a b : Nat) (s t : St) : Prop where
  me : t.c.me = s.c.me
  n : t.c.n = s.c.n
  view : t.c.view = s.c.view
  quiet : t.c.quiet = s.c.quiet
  lead : s.c.lead = true -> t.c.lead = true
  got : t.c.lead = true \/ ∀ q, (s.c.got q).isSome = true -> (t.c.got q).isSome = true
  nf : NF s.c -> NF t.c
  send : ∃ l, t.send = s.send ++ l /\ l.length + 7 * ld s.c <= 7 * ld t.c + a /\ l.countP is46 + 7 * ld s.c <= 7 * ld t.c + b /\ ∀ m ∈ l, m.from_ = (s.c.me : Int) /\ m.view = s.c.view /\ m.kind ≠ 1 /\ m.kind ≠ 2 /\ (is46 m = true -> t.c.lead = true)
  save : ∃ l, t.save = s.save ++ l /\ ∀ x ∈ l, x.kind ≠ 4
theorem Kp.refl (s : St) : Kp 0 0 s s := ⟨rfl, rfl, rfl, rfl, id, .inr fun _ => id, id, ⟨[], by simp, by simp, by simp, by simp⟩, ⟨[], by simp, by simp⟩⟩
theorem Kp.trans {a b a' b' : Nat} {s t u : St} (h : Kp a b s t) (k : Kp a' b' t u) : Kp (a + a') (b + b') s u where
  me := k.me.trans h.me
  n := k.n.trans h.n
  view := k.view.trans h.view
  quiet := k.quiet.trans h.quiet
  lead x := k.lead (h.lead x)
  got := by
    rcases k.got with h1 | h1
    · exact .inl h1
    rcases h.got with h2 | h2
    · exact .inl (k.lead h2)
    · exact .inr fun q x => h1 q (h2 q x)
  nf x := k.nf (h.nf x)
  send := by
    obtain ⟨l, l1, l2, l3, l4⟩ := h.send; obtain ⟨r, r1, r2, r3, r4⟩ := k.send; refine ⟨l ++ r, by rw [r1, l1, List.append_assoc], by rw [List.length_append]; omega, by rw [List.countP_append]; omega, fun m hm => ?_⟩
    rcases List.mem_append.1 hm with hm | hm
    · obtain ⟨x1, x2, x3, x4, x5⟩ := l4 m hm
      exact ⟨x1, x2, x3, x4, fun x => k.lead (x5 x)⟩
    · obtain ⟨x1, x2, x3, x4, x5⟩ := r4 m hm
      exact ⟨by rw [x1, h.me], by rw [x2, h.view], x3, x4, x5⟩
  save := by
    obtain ⟨l, l1, l2⟩ := h.save; obtain ⟨r, r1, r2⟩ := k.save; refine ⟨l ++ r, by rw [r1, l1, List.append_assoc], fun m hm => ?_⟩
    rcases List.mem_append.1 hm with hm | hm
    · exact l2 m hm
    · exact r2 m hm
theorem Kp.more {a b a' b' : Nat} {s t : St} (h : Kp a b s t) (h1 : a <= a') (h2 : b <= b') : Kp a' b' s t :=
  ⟨h.me, h.n, h.view, h.quiet, h.lead, h.got, h.nf, let ⟨l, l1, l2, l3, l4⟩ := h.send; ⟨l, l1, by omega, by omega, l4⟩, h.save⟩
theorem Kp.mem {s : St} {c : Co} (h1 : c.me = s.c.me) (h2 : c.n = s.c.n) (h3 : c.view = s.c.view) (h4 : c.quiet = s.c.quiet) (h5 : c.lead = s.c.lead) (h6 : c.got = s.c.got) : Kp 0 0 s { s with c := c } := by
  have hl : ld c = ld s.c := by unfold ld; rw [h5]
  refine ⟨h1, h2, h3, h4, fun h => by rw [<- h5] at h; exact h, .inr fun q h => by rw [<- h6] at h; exact h, fun h => ?_, ⟨[], by simp, by show 0 + _ <= _; rw [hl]; omega, by show 0 + _ <= _; rw [hl]; omega, by simp⟩, ⟨[], by simp, by simp⟩⟩
  unfold NF Co.size Co.quorum at h ⊢; show c.lead = true \/ c.got c.me = none \/ _
  rw [h5, h6, h1, h2]; exact h
theorem ag5 (s : St) (k v : Nat) (l : List En) (hk : k ≠ 4) : Kp 0 0 s (s.put k v l) :=
  ⟨rfl, rfl, rfl, rfl, id, .inr fun _ => id, id, ⟨[], by simp [St.put], by simp [St.put], by simp [St.put], by simp⟩, ⟨[⟨k, v, 0, 0, l⟩], rfl, fun x hx => by rw [List.mem_singleton.1 hx]; exact hk⟩⟩
theorem aa1 (s : St) (v : Nat) (l : List En) : Kp 0 0 s (s.take v l) := by
  unfold St.take; dsimp only; have key : ∀ t : St, Kp 0 0 s t -> Kp 0 0 s { t with c := { t.c with last := v, list := l } } := fun t h => h.trans (Kp.mem (s := t) (c := { t.c with last := v, list := l }) rfl rfl rfl rfl rfl rfl)
  refine key _ ?_; split
  · split
    · exact ag5 _ _ _ _ (by decide)
    · exact Kp.refl s
  · exact ag5 _ _ _ _ (by decide)
theorem ai1 (s : St) : Kp 0 0 s { s with c := s.c.settle } := by
  unfold Co.settle; dsimp only; split
  · exact Kp.mem rfl rfl rfl rfl rfl rfl
  · exact Kp.mem rfl rfl rfl rfl rfl rfl
theorem abp (s : St) (m : Mg) (h1 : m.kind ≠ 1) (h2 : m.kind ≠ 2) (h3 : is46 m = true -> s.c.lead = true) : Kp 1 (if is46 m then 1 else 0) s (s.out m) := by
  unfold St.out; by_cases ht : m.to = (s.c.me : Int)
  · rw [if_pos ht]; exact (Kp.refl s).more (by omega) (by omega)
  · rw [if_neg ht]
    refine ⟨rfl, rfl, rfl, rfl, id, .inr fun _ => id, id, ⟨_, rfl, by simp; omega, ?_, fun x hx => ?_⟩, ⟨[], by simp, by simp⟩⟩
    · have e : is46 { m with from_ := (s.c.me : Int), view := s.c.view } = is46 m := rfl
      rw [List.countP_singleton, e]; show (if is46 m = true then 1 else 0) + 7 * ld s.c <= 7 * ld s.c + if is46 m = true then 1 else 0
      split <;> omega
    · rw [List.mem_singleton.1 hx]; exact ⟨rfl, rfl, h1, h2, h3⟩
theorem adv (f : Nat -> Mg) (hf : ∀ to, (f to).kind ≠ 1 /\ (f to).kind ≠ 2) (c : Co) (hl : c.lead = true) : ∀ (l : List Nat) (s : St), s.c = c -> Kp l.length l.length s (l.foldl (fun (s : St) (to : Nat) => s.out (f to)) s)
  | [], s, _ => Kp.refl s
  | to :: l, s, h => by
    rw [List.foldl_cons, List.length_cons]; have h1 := (abp s (f to) (hf to).1 (hf to).2 (fun _ => by rw [h]; exact hl)).more (Nat.le_refl 1) (b' := 1) (by split <;> omega)
    exact (h1.trans (adv f hf c hl l _ (by rw [out_c, h]))).more (by omega) (by omega)
theorem ajp (c : Co) (to : Nat) : (layM c to).kind = 4 \/ (layM c to).kind = 6 := by
  unfold layM; dsimp only; split
  · split
    · exact .inl rfl
    · exact .inr rfl
  · exact .inl rfl
theorem aia (s : St) : s.lay = (List.range s.c.n).foldl (fun (s' : St) (to : Nat) => s'.out (layM s.c to)) s :=
  acl (fun to => layM s.c to) (fun s to => layM s.c to) s.c (fun t ht => by rw [ht]) _ s rfl
theorem apa (s : St) (h : s.c.lead = true) (h7 : s.c.n <= 7) : Kp 7 7 s s.lay := by
  rw [aia]; have := adv (fun to => layM s.c to) (fun to => by have := ajp s.c to; constructor <;> omega) s.c h (List.range s.c.n) s rfl
  rw [List.length_range] at this; exact this.more h7 h7
theorem qx (s : St) (h : s.c.lead = true) (h7 : s.c.n <= 7) : Kp 7 7 s s.grow := by
  unfold St.grow; dsimp only; have h1 : Kp 0 0 s { s with c := { s.c with wait := [] } } := Kp.mem rfl rfl rfl rfl rfl rfl
  have h2 : ∀ t : St, Kp 0 0 s t -> Kp 7 7 s (St.lay { t with c := t.c.settle }) := fun t ht => by
    have h3 := ht.trans (ai1 t); refine (h3.trans (apa _ (h3.lead h) (by rw [h3.n]; exact h7))).more (by omega) (by omega)
  refine h2 _ ?_; split
  · exact h1.trans (aa1 _ _ _)
  · exact h1
theorem anf (s : St) (hl : s.c.lead = false) (h7 : s.c.n <= 7) : Kp 0 0 s s.won /\ NF s.won.c := by
  unfold St.won; split
  · next h => exact ⟨Kp.refl s, .inr (h.elim (fun h => .inl (Option.isNone_iff_eq_none.1 h)) .inr)⟩
  · dsimp only
    have h1 := aa1 s s.c.view s.c.best.list; have htl : (s.take s.c.view s.c.best.list).c.lead = false := by rw [take_c]; exact hl
    generalize s.take s.c.view s.c.best.list = t at *; have h2 := qx { t with c := { t.c with lead := true, got := fun _ => none } } rfl (by show t.c.n <= 7; rw [h1.n]; exact h7)
    generalize St.grow { t with c := { t.c with lead := true, got := fun _ => none } } = u at *
    have hu : u.c.lead = true := h2.lead rfl; have e0 : ld s.c = 0 := ya hl; have e1 : ld u.c = 1 := ah9 hu; obtain ⟨x1, x2, x3, x4, x5, x6, x7, ⟨l, l1, l2, l3, l4⟩, ⟨r, r1, r2⟩⟩ := h1; obtain ⟨y1, y2, y3, y4, y5, y6, y7, ⟨k, k1, k2, k3, k4⟩, ⟨p, p1, p2⟩⟩ := h2; have e2 : ld ({ t with c := { t.c with lead := true, got := fun _ => none } } : St).c = 1 := ah9 rfl
    have el : ld t.c = 0 := ya htl; refine ⟨⟨y1.trans x1, y2.trans x2, y3.trans x3, y4.trans x4, fun h => (by rw [hl] at h; cases h), .inl hu, fun _ => .inl hu, ⟨l ++ k, by rw [k1, l1, List.append_assoc], by rw [List.length_append]; omega, by rw [List.countP_append]; omega, fun m hm => ?_⟩, ⟨r ++ p, by rw [p1, r1, List.append_assoc], fun m hm => ?_⟩⟩, .inl hu⟩
    · rcases List.mem_append.1 hm with hm | hm
      · obtain ⟨z1, z2, z3, z4, z5⟩ := l4 m hm
        exact ⟨z1, z2, z3, z4, fun _ => hu⟩
      · obtain ⟨z1, z2, z3, z4, z5⟩ := k4 m hm
        exact ⟨by rw [z1]; show (t.c.me : Int) = _; rw [x1], by rw [z2]; exact x3, z3, z4, fun _ => hu⟩
    · rcases List.mem_append.1 hm with hm | hm
      · exact r2 m hm
      · exact p2 m hm
theorem aer (s : St) (q : Nat) (v : Vt) (h7 : s.c.n <= 7) : Kp 0 0 s (s.count q v) /\ NF (s.count q v).c /\ ((s.count q v).c.lead = true \/ ((s.count q v).c.got q).isSome = true) := by
  unfold St.count; split
  · next h => exact ⟨Kp.refl s, .inl h, .inl h⟩
  · next h =>
    have hf : s.c.lead = false := by simpa using h
    obtain ⟨k, nf⟩ := anf { s with c := { s.c with got := upd s.c.got q (some v) } } hf h7
    generalize St.won { s with c := { s.c with got := upd s.c.got q (some v) } } = t at *
    have hg : ∀ p, (s.c.got p).isSome = true -> (upd s.c.got q (some v) p).isSome = true := fun p hp => by
      unfold upd; split
      · rfl
      · exact hp
    obtain ⟨y1, y2, y3, y4, y5, y6, y7, y8, y9⟩ := k; refine ⟨⟨y1, y2, y3, y4, y5, ?_, fun _ => nf, y8, y9⟩, nf, ?_⟩
    · rcases y6 with h | h
      · exact .inl h
      · exact .inr fun p hp => h p (hg p hp)
    · rcases y6 with h | h
      · exact .inl h
      · exact .inr (h q (by show (upd s.c.got q (some v) q).isSome = true; rw [upd_same]; rfl))
theorem u0 (s : St) (h7 : s.c.n <= 7) : Kp 1 0 s s.vote /\ (s.c.view % s.c.n = s.c.me -> NF s.vote.c /\ (s.vote.c.lead = true \/ (s.vote.c.got s.c.me).isSome = true)) /\
    (s.c.view % s.c.n ≠ s.c.me -> s.vote.c = s.c /\ ∃ x ∈ s.vote.send, x.kind = 3 /\ x.to = ((s.c.view % s.c.n : Nat) : Int) /\ x.from_ = (s.c.me : Int) /\ x.view = s.c.view) := by
  unfold St.vote; dsimp only; split
  · next h =>
    obtain ⟨a, b, c⟩ := aer s s.c.me ⟨s.c.last, s.c.list⟩ h7; exact ⟨a.more (by omega) (by omega), fun _ => ⟨b, c⟩, fun hn => absurd h hn⟩
  · next h =>
    refine ⟨(abp s _ (by simp [msg0]) (by simp [msg0]) (by simp [msg0, is46])).more (Nat.le_refl _) (by simp [msg0, is46]), fun hn => absurd hn h, fun _ => ⟨out_c _ _, ?_⟩⟩
    unfold St.out; rw [if_neg (by show ¬ ((s.c.view % s.c.n : Nat) : Int) = (s.c.me : Int); omega)]
    exact ⟨_, List.mem_append_right _ (List.mem_singleton.2 rfl), rfl, rfl, rfl, rfl⟩
theorem adx (s : St) (m : Mg) : Kp 0 0 s (s.fin m) := by
  unfold St.fin; split
  · exact Kp.mem rfl rfl rfl rfl rfl rfl
  · exact Kp.refl s
theorem alz (s : St) (m : Mg) : Kp (if m.kind = 4 then 1 else 0) 0 s (s.heard m) := by
  unfold St.heard; split
  · split
    · exact (Kp.refl s).more (by omega) (by omega)
    · unfold St.hold
      have h1 : ∀ t : St, Kp 0 0 s t -> Kp 1 0 s ((t.out { msg0 5 m.from_ with op := t.c.list.length }).fin m) := fun t ht =>
        ((ht.trans (abp t _ (by simp [msg0]) (by simp [msg0]) (by simp [msg0, is46]))).trans (adx _ _)).more (by omega) (by simp [msg0, is46])
      refine h1 _ ?_; split
      · exact aa1 _ _ _
      · exact Kp.refl s
  · exact (adx s m).more (by omega) (by omega)
theorem aos (s : St) (m : Mg) : Kp (if m.kind = 4 then 1 else 0) 0 { s with c := { s.c with quiet := 0 } } (s.hear m) := alz _ _
theorem aqa (s : St) (e : En) (h7 : s.c.n <= 7) : Kp 7 7 s (s.want e) := by
  unfold St.want; dsimp only
  have h1 : Kp 0 0 s { s with c := (s.c.wanted e).1 } /\ ((s.c.wanted e).2 = true -> (s.c.wanted e).1.lead = true) := by
    unfold Co.wanted; split
    · exact ⟨Kp.mem rfl rfl rfl rfl rfl rfl, fun h => by cases h⟩
    · exact ⟨Kp.mem rfl rfl rfl rfl rfl rfl, fun h => h⟩
  split
  · next h => exact (h1.1.trans (qx _ (h1.2 h) (by rw [h1.1.n]; exact h7))).more (by omega) (by omega)
  · exact h1.1.more (by omega) (by omega)
theorem ae6 : ∀ (l : List En) (s : St), s.c.n <= 7 -> Kp (7 * l.length) (7 * l.length) s (l.foldl St.want s)
  | [], s, _ => Kp.refl s
  | e :: l, s, h7 => by
    have h1 := aqa s e h7; rw [List.foldl_cons, List.length_cons]; exact (h1.trans (ae6 l _ (by rw [h1.n]; exact h7))).more (by omega) (by omega)
structure G2 (s : St) (m : Mg) (t : St) : Prop where
  kp : Kp (if m.kind = 4 then 1 else 0) 0 { s with c := { s.c with quiet := t.c.quiet } } t
  q : t.c.quiet = s.c.quiet \/ t.c.quiet = 0 /\ is46 m = true
  vote : m.kind = 3 -> s.c.view % s.c.n = s.c.me -> m.last <= m.view -> t.c.lead = true \/ (t.c.got m.from_.toNat).isSome = true
  hear : is46 m = true -> m.from_ = ((s.c.view % s.c.n : Nat) : Int) -> t.c.quiet = 0
theorem vh (m : Mg) : is46 m = true ↔ m.kind = 4 \/ m.kind = 6 := by simp [is46]
theorem xx {a b : Nat} {s t : St} (h : Kp a b s t) : Kp a b { s with c := { s.c with quiet := t.c.quiet } } t :=
  ⟨h.me, h.n, h.view, rfl, h.lead, h.got, h.nf, h.send, h.save⟩
theorem aez (s : St) (m : Mg) (h7 : s.c.n <= 7) : G2 s m (get2 s m) := by
  have h0 : m.kind ≠ 3 -> (is46 m = true -> ¬ m.from_ = ((s.c.view % s.c.n : Nat) : Int)) -> G2 s m s := fun h1 h2 =>
    ⟨xx ((Kp.refl s).more (by omega) (by omega)), .inl rfl, fun h => absurd h h1, fun h k => absurd k (h2 h)⟩
  have i46 := vh m; unfold get2; split
  · next hk =>
    have hne : ¬ is46 m = true := fun h => by rcases i46.1 h with h | h <;> omega
    split
    · next hh =>
      obtain ⟨a, b, c⟩ := aer s m.from_.toNat ⟨m.last, m.ents⟩ h7; exact ⟨xx (a.more (by omega) (by omega)), .inl a.quiet, fun _ _ _ => c, fun h => absurd h hne⟩
    · next hh => exact ⟨xx ((Kp.refl s).more (by omega) (by omega)), .inl rfl, fun _ h1 h2 => absurd ⟨h1, h2⟩ hh, fun h => absurd h hne⟩
  split
  · next hk =>
    have hne : ¬ is46 m = true := fun h => by rcases i46.1 h with h | h <;> omega
    split
    · next hh =>
      have a : Kp 0 0 s { s with c := { s.c with held := upd s.c.held m.from_.toNat (some (max ((s.c.held m.from_.toNat).getD 0) m.op)) } } := Kp.mem rfl rfl rfl rfl rfl rfl
      have b := a.trans (ai1 _); exact ⟨xx (b.more (by omega) (by omega)), .inl b.quiet, fun h => by omega, fun h => absurd h hne⟩
    · exact h0 (by omega) (fun h => absurd h hne)
  split
  · next hk =>
    split
    · next hf =>
      have a := aos s m; have hq : (s.hear m).c.quiet = 0 := a.quiet; exact ⟨by rw [hq]; exact a, .inr ⟨hq, i46.2 hk⟩, fun h => by omega, fun _ _ => hq⟩
    · next hf => exact h0 (by omega) (fun _ => hf)
  · next h3 h5 h46 => exact h0 h3 (fun h => absurd (i46.1 h) h46)
structure Gt (c : Co) (m : Mg) (s : St) : Prop where
  me : s.c.me = c.me
  n : s.c.n = c.n
  view : s.c.view = max c.view m.view
  num : s.send.length + 7 * (2 * c.view + ld c) <= 7 * (2 * s.c.view + ld s.c) + (if m.kind = 4 then 1 else 0)
  num46 : s.send.countP is46 + 7 * (2 * c.view + ld c) <= 7 * (2 * s.c.view + ld s.c)
  send : ∀ x ∈ s.send, x.from_ = (c.me : Int) /\ x.view = s.c.view /\ x.kind ≠ 1 /\ x.kind ≠ 2 /\ (is46 x = true -> s.c.lead = true)
  save : ∀ x ∈ s.save, x.kind ≠ 4
  lead : m.view <= c.view -> c.lead = true -> s.c.lead = true
  got : m.view <= c.view -> s.c.lead = true \/ ∀ q, (c.got q).isSome = true -> (s.c.got q).isSome = true
  nf : NF c \/ c.view < m.view -> NF s.c
  quiet : s.c.quiet = c.quiet \/ s.c.quiet = 0 /\ (c.view < m.view \/ is46 m = true /\ m.view = c.view)
  jq : c.view < m.view -> s.c.quiet = 0
  mine : c.view < m.view -> m.view % c.n = c.me -> s.c.lead = true \/ (s.c.got c.me).isSome = true
  jump : c.view < m.view -> m.view % c.n ≠ c.me -> ∃ x ∈ s.send, x.kind = 3 /\ x.to = ((m.view % c.n : Nat) : Int) /\ x.from_ = (c.me : Int) /\ x.view = m.view
  vote : m.kind = 3 -> c.view <= m.view -> m.view % c.n = c.me -> m.last <= m.view -> s.c.lead = true \/ (s.c.got m.from_.toNat).isSome = true
  hear : is46 m = true -> c.view <= m.view -> m.from_ = ((m.view % c.n : Nat) : Int) -> s.c.quiet = 0
theorem rl {a b : Nat} {c : Co} {sv : List Rd} {t : St} (h : Kp a b ⟨c, sv, []⟩ t) : t.send.length + 7 * ld c <= 7 * ld t.c + a /\ t.send.countP is46 + 7 * ld c <= 7 * ld t.c + b /\ ∀ m ∈ t.send, m.from_ = (c.me : Int) /\ m.view = c.view /\ m.kind ≠ 1 /\ m.kind ≠ 2 /\ (is46 m = true -> t.c.lead = true) := by
  obtain ⟨l, l1, l2, l3, l4⟩ := h.send; have e : t.send = l := by rw [l1]; rfl
  rw [e]; exact ⟨l2, l3, l4⟩
theorem tf {a b : Nat} {c : Co} {sv : List Rd} {sn : List Mg} {t : St} (h : Kp a b ⟨c, sv, sn⟩ t) (hs : ∀ x ∈ sv, x.kind ≠ 4) : ∀ x ∈ t.save, x.kind ≠ 4 := by
  obtain ⟨l, l1, l2⟩ := h.save; intro x hx; rw [l1] at hx; rcases List.mem_append.1 hx with hx | hx
  · exact hs x hx
  · exact l2 x hx
theorem akm (c : Co) (m : Mg) (h7 : c.n <= 7) (ho : ¬ c.odd m) (hk : m.kind ≠ 1) : Gt c m (c.get m) := by
  by_cases hp : m.view < c.view
  ·
    have e1 : get1 c m = ⟨c, [], []⟩ := by unfold get1; rw [if_neg (by omega)]
    rw [tv c m ho hk (by rw [e1]; exact hp), e1]
    exact ⟨rfl, rfl, by show c.view = _; omega, by simp, by simp, by simp, by simp, fun _ h => h, fun _ => .inr fun _ h => h, fun h => h.elim id (fun h => absurd h (by omega)), .inl rfl, fun h => by omega, fun h => by omega, fun h => by omega, fun _ h => by omega, fun _ h => by omega⟩
  by_cases hv : c.view < m.view
  ·
    have e1 : get1 c m = (St.promise ⟨c, [], []⟩ m.view).vote := by unfold get1; rw [if_pos hv]
    have eP : St.promise ⟨c, [], []⟩ m.view = ⟨({ c with view := m.view } : Co).follow, [⟨1, m.view, 0, 0, []⟩], []⟩ := rfl
    obtain ⟨a, b, d⟩ := u0 (St.promise ⟨c, [], []⟩ m.view) h7; have ev : (get1 c m).c.view = m.view := by rw [e1, a.view]; rfl
    have en : (get1 c m).c.n = c.n := by rw [e1, a.n]; rfl
    have em : (get1 c m).c.me = c.me := by rw [e1, a.me]; rfl
    have eq0 : (get1 c m).c.quiet = 0 := by rw [e1, a.quiet]; rfl
    rw [pz c m ho hk (by omega)]
    rw [<- e1] at a b d; have g := aez (get1 c m) m (by rw [en]; exact h7)
    generalize get1 c m = V at *; generalize get2 V m = T at *; have hq : T.c.quiet = 0 := g.q.elim (fun h => h.trans eq0) (fun h => h.1)
    have gk : Kp (if m.kind = 4 then 1 else 0) 0 V T := by
      have e : T.c.quiet = V.c.quiet := hq.trans eq0.symm; have := g.kp; rw [e] at this; exact this
    have k := a.trans gk; rw [eP] at k; obtain ⟨s1, s2, s3⟩ := rl k; have hl0 : ld (({ c with view := m.view } : Co).follow) = 0 := ya rfl
    have := xp c; have hTv : T.c.view = m.view := gk.view.trans ev
    have hnv : NF V.c := by
      by_cases hm : m.view % c.n = c.me
      · exact (b hm).1
      · rw [(d hm).1]; exact .inr (.inl rfl)
    refine ⟨gk.me.trans em, gk.n.trans en, by rw [hTv]; omega, by rw [hTv]; omega, by rw [hTv]; omega, fun x hx => ?_, ?_, fun h => by omega, fun h => by omega, fun _ => gk.nf hnv, .inr ⟨hq, .inl hv⟩, fun _ => hq, fun _ hm => ?_, fun _ hm => ?_, fun h3 _ hm hl => ?_, fun _ _ _ => hq⟩
    · obtain ⟨x1, x2, x3, x4, x5⟩ := s3 x hx
      exact ⟨x1, by rw [hTv]; exact x2, x3, x4, x5⟩
    · exact tf k fun x hx => by rw [List.mem_singleton.1 hx]; exact (by decide : (1 : Nat) ≠ 4)
    · rcases (b hm).2 with h | h
      · exact .inl (gk.lead h)
      · rcases gk.got with h2 | h2
        · exact .inl h2
        · exact .inr (h2 _ h)
    · obtain ⟨_, x, hx, y1, y2, y3, y4⟩ := d hm
      obtain ⟨l, l1, _⟩ := gk.send; exact ⟨x, by rw [l1]; exact List.mem_append_left _ hx, y1, y2, y3, y4⟩
    · exact g.vote h3 (by rw [ev, en, em]; exact hm) hl
  ·
    have e1 : get1 c m = ⟨c, [], []⟩ := by unfold get1; rw [if_neg hv]
    have hvv : m.view = c.view := by omega
    rw [pz c m ho hk (by rw [e1]; exact hp), e1]
    have g := aez ⟨c, [], []⟩ m h7; generalize get2 ⟨c, [], []⟩ m = T at *; have k := g.kp; obtain ⟨s1, s2, s3⟩ := rl k; have hl0 : ld { c with quiet := T.c.quiet } = ld c := rfl
    have hTv : T.c.view = c.view := k.view; rw [hl0] at s1 s2; refine ⟨k.me, k.n, by rw [hTv]; omega, by rw [hTv]; omega, by rw [hTv]; omega, fun x hx => ?_, ?_, fun _ h => k.lead h, fun _ => k.got, fun h => ?_, ?_, fun h => absurd h hv, fun h => absurd h hv, fun h => absurd h hv, fun h3 _ hm hl => ?_, fun h4 _ hf => ?_⟩
    · obtain ⟨x1, x2, x3, x4, x5⟩ := s3 x hx
      exact ⟨x1, by rw [hTv]; exact x2, x3, x4, x5⟩
    · exact tf k fun x hx => by cases hx
    · rcases h with h | h
      · exact k.nf h
      · omega
    · rcases g.q with h | h
      · exact .inl h
      · exact .inr ⟨h.1, .inr ⟨h.2, hvv⟩⟩
    · exact g.vote h3 (by show c.view % c.n = c.me; rw [<- hvv]; exact hm) hl
    · exact g.hear h4 (by show _ = ((c.view % c.n : Nat) : Int); rw [<- hvv]; exact hf)
end Ag
end Go.Proofs.Ytbciofnejefkiaa
namespace Go.Proofs.Ytbciofnejefkiaa
namespace Ag
structure Ge (c : Co) (m : Mg) (s : St) : Prop where
  me : s.c.me = c.me
  n : s.c.n = c.n
  view : s.c.view = if m.kind = 1 then c.view else max c.view m.view
  num : s.send.length + 7 * (2 * c.view + ld c) <= 7 * (2 * s.c.view + ld s.c) + (if m.kind = 4 then 1 else 0) + (if m.kind = 1 then 7 * m.ents.length else 0)
  num46 : s.send.countP is46 + 7 * (2 * c.view + ld c) <= 7 * (2 * s.c.view + ld s.c) + (if m.kind = 1 then 7 * m.ents.length else 0)
  send : ∀ x ∈ s.send, x.from_ = (c.me : Int) /\ x.view = s.c.view /\ x.kind ≠ 1 /\ x.kind ≠ 2 /\ (is46 x = true -> s.c.lead = true)
  save : ∀ x ∈ s.save, x.kind ≠ 4
  lead : s.c.view = c.view -> c.lead = true -> s.c.lead = true
  got : s.c.view = c.view -> s.c.lead = true \/ ∀ q, (c.got q).isSome = true -> (s.c.got q).isSome = true
  nf : NF c \/ c.view < s.c.view -> NF s.c
  quiet : s.c.quiet = c.quiet \/ s.c.quiet = 0 /\ (c.view < s.c.view \/ is46 m = true /\ m.view = c.view)
  jq : c.view < s.c.view -> s.c.quiet = 0
  mine : c.view < s.c.view -> s.c.view % c.n = c.me -> s.c.lead = true \/ (s.c.got c.me).isSome = true
  jump : c.view < s.c.view -> s.c.view % c.n ≠ c.me -> ∃ x ∈ s.send, x.kind = 3 /\ x.to = ((s.c.view % c.n : Nat) : Int) /\ x.from_ = (c.me : Int) /\ x.view = s.c.view
  vote : m.kind = 3 -> c.view <= m.view -> m.view % c.n = c.me -> m.last <= m.view -> s.c.lead = true \/ (s.c.got m.from_.toNat).isSome = true
  hear : is46 m = true -> c.view <= m.view -> m.from_ = ((m.view % c.n : Nat) : Int) -> s.c.quiet = 0
theorem ah7 (c : Co) (m : Mg) (h7 : c.n <= 7) (ho : ¬ c.odd m) : Ge c m (c.get m) := by
  by_cases hk : m.kind = 1
  · rw [tu c m ho hk]
    unfold wantK; rw [List.take_length]; have k := ae6 m.ents ⟨c, [], []⟩ h7; generalize m.ents.foldl St.want ⟨c, [], []⟩ = s at *; obtain ⟨s1, s2, s3⟩ := rl k; have hv : s.c.view = c.view := k.view; have h46 : ¬ is46 m = true := fun h => by rcases (vh m).1 h with h | h <;> omega
    refine ⟨k.me, k.n, by rw [if_pos hk]; exact hv, ?_, ?_, fun x hx => ?_, tf k (fun x hx => by cases hx), fun _ h => k.lead h, fun _ => k.got, fun h => ?_, .inl k.quiet, fun h => by omega, fun h => by omega, fun h => by omega, fun h => by omega, fun h => absurd h h46⟩
    · rw [if_pos hk, if_neg (by omega), hv]; omega
    · rw [if_pos hk, hv]; omega
    · obtain ⟨x1, x2, x3, x4, x5⟩ := s3 x hx
      exact ⟨x1, by rw [hv]; exact x2, x3, x4, x5⟩
    · rcases h with h | h
      · exact k.nf h
      · omega
  · have g := akm c m h7 ho hk
    generalize c.get m = s at *; have hv := g.view; refine ⟨g.me, g.n, by rw [if_neg hk]; exact hv, ?_, ?_, g.send, g.save, fun h => g.lead (by omega), fun h => g.got (by omega), fun h => g.nf (by rcases h with h | h; exact .inl h; exact .inr (by omega)), ?_, fun h => g.jq (by omega), fun h h2 => g.mine (by omega) (by rw [show m.view = s.c.view by omega]; exact h2), fun h h2 => ?_, g.vote, g.hear⟩
    · rw [if_neg hk]; exact g.num
    · rw [if_neg hk]; exact g.num46
    · rcases g.quiet with h | h
      · exact .inl h
      · exact .inr ⟨h.1, h.2.elim (fun h => .inl (by omega)) .inr⟩
    · have e : m.view = s.c.view := by omega
      have := g.jump (by omega) (by rw [e]; exact h2)
      rw [e] at this; exact this
structure Hr (up : Nat -> Bool) (g : Gh) (w : W) (m : Mg) (g1 : Gh) (w1 : W) : Prop where
  wx : ∃ q B I, WX g w q B I
  wx1 : ∃ q B I, WX g1 w1 q B I
  mok : MOK g m
  tn : Tn up g g1 w w1
  eq : (¬ (up m.from_.toNat = true /\ up m.to.toNat = true) /\ w1 = w /\ g1 = g) \/ ((up m.from_.toNat = true /\ up m.to.toNat = true) /\ w1.c = upd w.c m.to.toNat ((w.c m.to.toNat).get m).c /\ w1.l = ((w.c m.to.toNat).get m).send.foldl addL w.l /\ Ge (w.c m.to.toNat) m ((w.c m.to.toNat).get m) /\ (w.c m.to.toNat).me = m.to.toNat /\ (w.c m.to.toNat).n = w.n /\ m.to.toNat < w.n)
inductive Hrs (up : Nat -> Bool) : Gh -> W -> List Mg -> Gh -> W -> Prop
  | nil {g : Gh} {w : W} : Hrs up g w [] g w
  | cons {g g1 g2 : Gh} {w w1 w2 : W} {m : Mg} {l : List Mg} : Hr up g w m g1 w1 -> Hrs up g1 w1 l g2 w2 -> Hrs up g w (m :: l) g2 w2
theorem sf {g : Gh} {c : Co} {m : Mg} (hc : COK g c) (hm : MOK g m) (h7 : g.n <= 7) (ht : m.to = (c.me : Int)) : ¬ c.odd m := by
  unfold Co.odd; have h1 := hm.good h7; have h2 := hm.ne; have h3 := hm.from_; have h4 := hm.view; have h5 := hm.ents.listed; have h6 := hc.n; rintro (h | h | h | h | h | h)
  · exact h h1
  · exact h ht
  · exact h2 (by rw [ht, h])
  · omega
  · omega
  · rw [h5] at h; cases h
theorem amy {up : Nat -> Bool} {g : Gh} {w : W} {q B I : Nat} (h : WX g w q B I) (hk : ∀ p, w.cut p = none) (hq : q < 1000000) {m : Mg} (hm : MOK g m) :
    ∃ w1 g1, W.hearM up w m = some w1 /\ WX g1 w1 q (B + 200) I /\ Tn up g g1 w w1 /\ w1.ids = w.ids /\ Hr up g w m g1 w1 := by
  by_cases hu : up m.from_.toNat = true /\ up m.to.toNat = true
  · obtain ⟨w1, g1, e, x, t, i⟩ := h.hear1 (up := up) hk hq hm
    refine ⟨w1, g1, e, x, t, i, ⟨_, _, _, h⟩, ⟨_, _, _, x⟩, hm, t, .inr ⟨hu, ?_⟩⟩; unfold W.hearM at e; rw [if_pos hu] at e; have hr : m.to.toNat < w.n := by have := hm.to; have := h.wg.n; omega
    obtain ⟨hc, hme⟩ := h.wg.c _ hr; have hcn : (w.c m.to.toNat).n = w.n := hc.n.trans h.wg.n; have hge := ah7 (w.c m.to.toNat) m (by rw [hcn]; exact h.wg.n7) (sf hc hm (by rw [h.wg.n]; exact h.wg.n7) (by rw [hme]; have := hm.to; omega))
    rcases ql e with ⟨_, b, e2⟩ | ⟨k, d, b, hk2, _⟩
    · subst e2; exact ⟨rfl, rfl, hge, hme, hcn, hr⟩
    · rw [hk] at hk2; cases hk2
  · refine ⟨w, g, by unfold W.hearM; rw [if_neg hu], h.more (Nat.le_refl _) (by omega) (Nat.le_refl _), Tn.refl hk, rfl, ⟨_, _, _, h⟩, ⟨_, _, _, h⟩, hm, Tn.refl hk, .inl ⟨hu, rfl, rfl⟩⟩
theorem af8 {up : Nat -> Bool} : ∀ (l : List Mg) {g : Gh} {w : W} {q B I : Nat}, WX g w q B I -> (∀ p, w.cut p = none) -> q < 1000000 -> (∀ m ∈ l, MOK g m) ->
    ∃ w' g', foldO (W.hearM up) w l = some w' /\ WX g' w' q (B + 200 * l.length) I /\ Tn up g g' w w' /\ w'.ids = w.ids /\ Hrs up g w l g' w'
  | [], g, w, q, B, I, h, hk, hq, hl => ⟨w, g, rfl, h, Tn.refl hk, rfl, .nil⟩
  | m :: l, g, w, q, B, I, h, hk, hq, hl => by
    obtain ⟨w1, g1, e1, x1, t1, i1, r1⟩ := amy (up := up) h hk (by omega) (hl m List.mem_cons_self)
    obtain ⟨w2, g2, e2, x2, t2, i2, r2⟩ := af8 l x1 t1.cut (by omega) (fun p hp => (hl p (List.mem_cons_of_mem _ hp)).le t1.le)
    refine ⟨w2, g2, ?_, x2.more (Nat.le_refl _) ?_ (Nat.le_refl _), t1.trans t2, i2.trans i1, .cons r1 r2⟩
    · unfold foldO; rw [e1, Option.bind_some]; exact e2
    · rw [List.length_cons]; omega
section
variable {up : Nat -> Bool} {g g' : Gh} {w w' : W} {l P : List Mg}
theorem Hrs.inv (J : Gh -> W -> Prop) (hJ : ∀ g w m g1 w1, m ∈ P -> Hr up g w m g1 w1 -> J g w -> J g1 w1) (h : Hrs up g w l g' w') : (∀ m ∈ l, m ∈ P) -> J g w -> J g' w' := by
  induction h with
  | nil => exact fun _ h => h
  | cons h1 h2 ih => exact fun hs hj => ih (fun m hm => hs m (List.mem_cons_of_mem _ hm)) (hJ _ _ _ _ _ (hs _ List.mem_cons_self) h1 hj)
theorem Hrs.hit {m0 : Mg} (J K : Gh -> W -> Prop) (hJ : ∀ g w m g1 w1, m ∈ P -> Hr up g w m g1 w1 -> J g w -> J g1 w1) (hK : ∀ g w m g1 w1, m ∈ P -> Hr up g w m g1 w1 -> J g w -> K g w -> K g1 w1) (h0 : ∀ g w g1 w1, Hr up g w m0 g1 w1 -> J g w -> K g1 w1)
    (h : Hrs up g w l g' w') : (∀ m ∈ l, m ∈ P) -> m0 ∈ l -> J g w -> K g' w' := by
  induction h with
  | nil => exact fun _ h => by cases h
  | cons h1 h2 ih =>
    intro hs hm hj; have hj1 := hJ _ _ _ _ _ (hs _ List.mem_cons_self) h1 hj; have hs' := fun m hm => hs m (List.mem_cons_of_mem _ hm)
    rcases List.mem_cons.1 hm with rfl | hm
    · exact (Hrs.inv (fun g w => J g w /\ K g w) (fun g w m g1 w1 hmp hr ⟨a, b⟩ => ⟨hJ g w m g1 w1 hmp hr a, hK g w m g1 w1 hmp hr a b⟩) h2 hs' ⟨hj1, h0 _ _ _ _ h1 hj⟩).2
    · exact ih hs' hm hj1
theorem vc (s : List Mg) : ∀ (l : List Mg), (∀ m ∈ l, m ∈ s.foldl addL l) /\ l.length <= (s.foldl addL l).length /\ ((s.foldl addL l).length < 4000 -> ∀ m ∈ s, m ∈ s.foldl addL l) := by
  induction s with
  | nil => exact fun l => ⟨fun m h => h, Nat.le_refl _, fun _ m h => by cases h⟩
  | cons a s ih =>
    intro l; obtain ⟨h1, h2, h3⟩ := ih (addL l a); have e : ∀ m ∈ l, m ∈ addL l a := fun m hm => by unfold addL; split; exact List.mem_append_left _ hm; exact hm
    have el : l.length <= (addL l a).length := by unfold addL; split; (rw [List.length_append]; omega); exact Nat.le_refl _
    rw [List.foldl_cons]; refine ⟨fun m hm => h1 m (e m hm), by omega, fun hl m hm => ?_⟩
    rcases List.mem_cons.1 hm with rfl | hm
    · refine h1 m ?_
      unfold addL; rw [if_pos (by omega)]
      exact List.mem_append_right _ (List.mem_singleton.2 rfl)
    · exact h3 hl m hm
theorem acv (f : Mg -> Bool) (s : List Mg) : ∀ (l : List Mg), (s.foldl addL l).length <= l.length + s.length /\ (s.foldl addL l).countP f <= l.countP f + s.countP f := by
  induction s with
  | nil => exact fun l => ⟨by simp, by simp⟩
  | cons a s ih =>
    intro l; obtain ⟨h1, h2⟩ := ih (addL l a); rw [List.foldl_cons, List.length_cons, List.countP_cons]; have e1 : (addL l a).length <= l.length + 1 := by unfold addL; split; (rw [List.length_append]; simp); omega
    have e2 : (addL l a).countP f <= l.countP f + (if f a = true then 1 else 0) := by
      unfold addL; split
      · rw [List.countP_append, List.countP_singleton]; exact Nat.le_refl _
      · omega
    omega
theorem Hr.sub {m : Mg} (h : Hr up g w m g' w') : (∀ m ∈ w.l, m ∈ w'.l) /\ w.l.length <= w'.l.length := by
  rcases h.eq with ⟨_, e, _⟩ | ⟨_, _, e, _⟩
  · rw [e]; exact ⟨fun m h => h, Nat.le_refl _⟩
  · rw [e]; exact ⟨(vc _ _).1, (vc _ _).2.1⟩
def phi (up : Nat -> Bool) (n : Nat) (C : Nat -> Co) : Nat := ((List.range n).map fun r => if up r = true then 2 * (C r).view + ld (C r) else 0).sum
theorem ajy {up : Nat -> Bool} {C : Nat -> Co} {r : Nat} {c : Co} (hu : up r = true) : ∀ {n : Nat}, r < n -> phi up n (upd C r c) + (2 * (C r).view + ld (C r)) = phi up n C + (2 * c.view + ld c)
  | 0, h => by omega
  | n + 1, h => by
    unfold phi; rw [List.range_succ, List.map_append, List.map_append, List.sum_append, List.sum_append]; simp only [List.map_cons, List.map_nil, List.sum_cons, List.sum_nil, Nat.add_zero]; by_cases e : r = n
    · subst e
      have hs : ((List.range r).map fun q => if up q = true then 2 * (upd C r c q).view + ld (upd C r c q) else 0) = (List.range r).map fun q => if up q = true then 2 * (C q).view + ld (C q) else 0 :=
        List.map_congr_left fun q hq => by rw [upd_other _ _ (by have := List.mem_range.1 hq; omega)]
      rw [hs, upd_same, if_pos hu, if_pos hu]; omega
    · have := ajy (up := up) (C := C) (c := c) hu (n := n) (by omega)
      unfold phi at this; rw [upd_other _ _ (Ne.symm e)]; omega
theorem agd {up : Nat -> Bool} {C : Nat -> Co} {b : Nat} : ∀ {n : Nat}, (∀ r, r < n -> up r = true -> (C r).view <= b) -> phi up n C <= (2 * b + 1) * (List.range n).countP up
  | 0, _ => Nat.zero_le _
  | n + 1, h => by
    have ih := agd (up := up) (C := C) (b := b) (n := n) fun r hr => h r (by omega)
    unfold phi at ih ⊢; rw [List.range_succ, List.map_append, List.sum_append, List.countP_append]; simp only [List.map_cons, List.map_nil, List.sum_cons, List.sum_nil, Nat.add_zero, List.countP_singleton]; rw [Nat.mul_add]
    cases hu : up n with
    | true =>
      have h1 := h n (by omega) hu
      have h2 := xp (C n); simp only [if_true]; omega
    | false => simp only [if_false, Bool.false_eq_true]; omega
def wantE (l : List Mg) : Nat := (l.map fun m => if m.kind = 1 then m.ents.length else 0).sum
def is4 (m : Mg) : Bool := decide (m.kind = 4)
theorem Hrs.num (h : Hrs up g w l g' w') : w'.n = w.n /\ w'.l.length + 7 * phi up w.n w.c <= w.l.length + 7 * phi up w.n w'.c + l.countP is4 + 7 * wantE l /\ w'.l.countP is46 + 7 * phi up w.n w.c <= w.l.countP is46 + 7 * phi up w.n w'.c + 7 * wantE l := by
  induction h with
  | nil => exact ⟨rfl, by omega, by omega⟩
  | @cons g g1 g2 w w1 w2 m l h1 h2 ih =>
    obtain ⟨a, b, c⟩ := ih; have hn := h1.tn.n; rw [hn] at a b c; have hw : wantE (m :: l) = (if m.kind = 1 then m.ents.length else 0) + wantE l := by simp [wantE]
    rw [List.countP_cons, hw]; rcases h1.eq with ⟨_, e, _⟩ | ⟨⟨hf, hu⟩, e1, e2, ge, hme, hcn, hr⟩
    · rw [e] at b c
      exact ⟨a, by omega, by omega⟩
    · have hp := ajy (up := up) (C := w.c) (r := m.to.toNat) (c := ((w.c m.to.toNat).get m).c) hu hr
      rw [<- e1] at hp; obtain ⟨n1, n2⟩ := acv is46 ((w.c m.to.toNat).get m).send w.l; rw [<- e2] at n1 n2; have g1 := ge.num; have g2 := ge.num46; have h4 : (if is4 m = true then 1 else 0) = if m.kind = 4 then 1 else 0 := by unfold is4; split <;> simp_all
      rw [h4]; refine ⟨a, ?_, ?_⟩
      · by_cases hk : m.kind = 1
        · rw [if_pos hk] at g1 ⊢; omega
        · rw [if_neg hk] at g1 ⊢; omega
      · by_cases hk : m.kind = 1
        · rw [if_pos hk] at g2 ⊢; omega
        · rw [if_neg hk] at g2 ⊢; omega
end
end Ag
end Go.Proofs.Ytbciofnejefkiaa
namespace Go.Proofs.Ytbciofnejefkiaa
namespace Ag
theorem ze (f : Nat -> Mg) (c : Co) : ∀ (l : List Nat) (s : St), s.c = c -> (l.foldl (fun (s : St) (to : Nat) => s.out (f to)) s).c = c /\ (l.foldl (fun (s : St) (to : Nat) => s.out (f to)) s).save = s.save /\ (∀ x ∈ s.send, x ∈ (l.foldl (fun (s : St) (to : Nat) => s.out (f to)) s).send) /\
    (∀ to ∈ l, (f to).to ≠ (c.me : Int) -> { f to with from_ := (c.me : Int), view := c.view } ∈ (l.foldl (fun (s : St) (to : Nat) => s.out (f to)) s).send) /\ (l.foldl (fun (s : St) (to : Nat) => s.out (f to)) s).send.length <= s.send.length + l.length /\
    (∀ x ∈ (l.foldl (fun (s : St) (to : Nat) => s.out (f to)) s).send, x ∈ s.send \/ ∃ to ∈ l, x = { f to with from_ := (c.me : Int), view := c.view })
  | [], s, h => ⟨h, rfl, fun x hx => hx, fun x hx => (by cases hx), Nat.le_refl _, fun x hx => .inl hx⟩
  | to :: l, s, h => by
    obtain ⟨h1, h2, h3, h4, h5, h6⟩ := ze f c l (s.out (f to)) (by rw [out_c, h])
    rw [List.foldl_cons, List.length_cons]
    have hs : ∀ x ∈ s.send, x ∈ (s.out (f to)).send := fun x hx => by
      unfold St.out; split
      · exact hx
      · exact List.mem_append_left _ hx
    have hl : (s.out (f to)).send.length <= s.send.length + 1 := by
      unfold St.out; split
      · omega
      · simp
    refine ⟨h1, h2.trans (out_save _ _), fun x hx => h3 x (hs x hx), fun t ht hne => ?_, by omega, fun x hx => ?_⟩
    · rcases List.mem_cons.1 ht with rfl | ht
      · refine h3 _ ?_
        unfold St.out; rw [h, if_neg hne]; exact List.mem_append_right _ (List.mem_singleton.2 rfl)
      · exact h4 t ht hne
    · rcases h6 x hx with hx | ⟨t, ht, e⟩
      · unfold St.out at hx
        split at hx
        · exact .inl hx
        · rcases List.mem_append.1 hx with hx | hx
          · exact .inl hx
          · rw [h] at hx
            exact .inr ⟨to, List.mem_cons_self, List.mem_singleton.1 hx⟩
      · exact .inr ⟨t, List.mem_cons_of_mem _ ht, e⟩
theorem apn (s : St) : ∃ t : St, s.grow = t.lay /\ t.c.me = s.c.me /\ t.c.view = s.c.view /\ t.c.n = s.c.n /\ t.c.last = (if s.c.list.length < (grown s.c.list s.c.wait).length then s.c.view else s.c.last) /\ t.c.wait = [] := by
  unfold St.grow; dsimp only; refine ⟨_, rfl, ?_⟩; split
  · obtain ⟨h1, h2, h3, h4, h5, h6, h7, h8⟩ := rk (St.take { s with c := { s.c with wait := [] } } s.c.view (grown s.c.list s.c.wait)).c
    dsimp only; rw [h1, h2, h3, h5, h7, take_c]; exact ⟨rfl, rfl, rfl, rfl, rfl⟩
  · obtain ⟨h1, h2, h3, h4, h5, h6, h7, h8⟩ := rk { s.c with wait := [] }
    dsimp only; rw [h1, h2, h3, h5, h7]; exact ⟨rfl, rfl, rfl, rfl, rfl⟩
theorem apz (s : St) {to : Nat} (ht : to < s.c.n) (hne : to ≠ s.c.me) : { layM s.grow.c to with from_ := (s.c.me : Int), view := s.c.view } ∈ s.grow.send := by
  obtain ⟨t, e, h1, h2, h3, _⟩ := apn s; rw [e, (lay_c t).1, aia]; have := (ze (fun to => layM t.c to) t.c (List.range t.c.n) t rfl).2.2.2.1 to (List.mem_range.2 (by omega)) (by rw [vu]; omega)
  rw [h1, h2] at this; exact this
structure Tk (c : Co) (s : St) : Prop where
  me : s.c.me = c.me
  n : s.c.n = c.n
  up : c.view <= s.c.view
  pot : 12 * s.c.view + s.c.quiet <= 12 * c.view + c.quiet + 1
  send : ∀ x ∈ s.send, x.from_ = (c.me : Int) /\ x.view = s.c.view /\ x.kind ≠ 1 /\ (is46 x = true -> s.c.lead = true)
  len : s.send.length <= 16
  n46 : s.send.countP is46 <= 14
  save : ∀ x ∈ s.save, x.kind ≠ 4
  lead : c.lead = true -> s.c.lead = true /\ s.c.view = c.view /\ s.c.quiet = c.quiet /\ s.c = (St.grow ⟨c, [], []⟩).c /\ ∀ to, to < c.n -> to ≠ c.me -> { layM s.c to with from_ := (c.me : Int), view := c.view } ∈ s.send
  beg : c.lead = false -> 12 <= c.quiet + 1 -> s.c.view = c.view + 1 /\ s.c.quiet = 0 /\ NF s.c /\ (∀ to, to < c.n -> to ≠ c.me -> ∃ x ∈ s.send, x.kind = 2 /\ x.to = (to : Int) /\ x.from_ = (c.me : Int) /\ x.view = c.view + 1) /\
    (s.c.view % c.n = c.me -> s.c.lead = true \/ (s.c.got c.me).isSome = true) /\ (s.c.view % c.n ≠ c.me -> ∃ x ∈ s.send, x.kind = 3 /\ x.to = ((s.c.view % c.n : Nat) : Int) /\ x.from_ = (c.me : Int) /\ x.view = s.c.view)
  calm : c.lead = false -> c.quiet + 1 < 12 -> s.c.view = c.view /\ s.c.quiet = c.quiet + 1 /\ (NF c -> NF s.c) /\ (s.c.lead = true \/ ∀ q, (c.got q).isSome = true -> (s.c.got q).isSome = true)
theorem ac4 {a b : Nat} {c : Co} {t : St} (h : Kp a b ⟨c, [], []⟩ t) : t.send.length <= 7 + a /\ t.send.countP is46 <= 7 + b := by
  obtain ⟨s1, s2, s3⟩ := rl h; have := xp t.c; omega
theorem ae9 (c : Co) (h7 : c.n <= 7) (hn : c.n ≠ 1) (hme : c.me < c.n) (hv : c.view < mostView) : Tk c c.tick := by
  unfold Co.tick; dsimp only; by_cases hl : c.lead = true
  · rw [if_pos hl]
    have k := qx ⟨c, [], []⟩ hl h7; have hm := fun to h1 h2 => apz (s := ⟨c, [], []⟩) (to := to) h1 h2
    obtain ⟨s1, s2, s3⟩ := rl k; obtain ⟨l1, l2⟩ := ac4 k; have hvv : (St.grow ⟨c, [], []⟩).c.view = c.view := k.view; have hq : (St.grow ⟨c, [], []⟩).c.quiet = c.quiet := k.quiet; refine ⟨k.me, k.n, by rw [hvv]; exact Nat.le_refl _, by rw [hvv, hq]; omega, fun x hx => ?_, by omega, by omega, tf k (fun x hx => by cases hx), fun _ => ⟨k.lead hl, hvv, hq, rfl, hm⟩, fun h => (by rw [hl] at h; cases h), fun h => (by rw [hl] at h; cases h)⟩
    obtain ⟨x1, x2, x3, x4, x5⟩ := s3 x hx; exact ⟨x1, by rw [hvv]; exact x2, x3, x5⟩
  · rw [if_neg hl]
    replace hl : c.lead = false := by simpa using hl
    split
    · next hb =>
      have hb : 12 <= c.quiet + 1 := by rcases hb with h | h; exact h; exact absurd h hn
      unfold St.begin; rw [if_pos hv]; have eP : St.promise ⟨{ c with quiet := c.quiet + 1 }, [], []⟩ (c.view + 1) = ⟨({ c with view := c.view + 1 } : Co).follow, [⟨1, c.view + 1, 0, 0, []⟩], []⟩ := rfl
      show Tk c (St.vote (St.tell (St.promise ⟨{ c with quiet := c.quiet + 1 }, [], []⟩ (c.view + 1)) (msg0 2 0)))
      rw [eP]; obtain ⟨o1, o2, o3, o4, o5, o6⟩ := ze (fun to => ({ msg0 2 0 with to := (to : Int) } : Mg)) (({ c with view := c.view + 1 } : Co).follow) (List.range c.n) ⟨({ c with view := c.view + 1 } : Co).follow, [⟨1, c.view + 1, 0, 0, []⟩], []⟩ rfl
      have eT : St.tell ⟨({ c with view := c.view + 1 } : Co).follow, [⟨1, c.view + 1, 0, 0, []⟩], []⟩ (msg0 2 0) = (List.range c.n).foldl (fun (s : St) (to : Nat) => s.out ({ msg0 2 0 with to := (to : Int) } : Mg)) ⟨({ c with view := c.view + 1 } : Co).follow, [⟨1, c.view + 1, 0, 0, []⟩], []⟩ := rfl
      rw [<- eT] at o1 o2 o3 o4 o5 o6; generalize St.tell ⟨({ c with view := c.view + 1 } : Co).follow, [⟨1, c.view + 1, 0, 0, []⟩], []⟩ (msg0 2 0) = T at *
      obtain ⟨Tc, Ts, Tn⟩ := T; dsimp only at o1 o2 o3 o4 o5 o6; subst o1; rw [List.length_range] at o5; simp only [List.length_nil] at o5; obtain ⟨a, b, d⟩ := u0 ⟨({ c with view := c.view + 1 } : Co).follow, Ts, Tn⟩ h7
      have hl0 : ld (({ c with view := c.view + 1 } : Co).follow) = 0 := ya rfl
      have hle := xp (St.vote ⟨({ c with view := c.view + 1 } : Co).follow, Ts, Tn⟩).c
      have hvv : (St.vote ⟨({ c with view := c.view + 1 } : Co).follow, Ts, Tn⟩).c.view = c.view + 1 := a.view
      have hq : (St.vote ⟨({ c with view := c.view + 1 } : Co).follow, Ts, Tn⟩).c.quiet = 0 := a.quiet
      have hm : (St.vote ⟨({ c with view := c.view + 1 } : Co).follow, Ts, Tn⟩).c.me = c.me := a.me
      have hN : (St.vote ⟨({ c with view := c.view + 1 } : Co).follow, Ts, Tn⟩).c.n = c.n := a.n
      have hT46 : Tn.countP is46 = 0 := List.countP_eq_zero.2 fun x hx => by
        rcases o6 x hx with h | ⟨to, _, e⟩
        · cases h
        · rw [e]; simp [is46, msg0]
      have hnf : NF (St.vote ⟨({ c with view := c.view + 1 } : Co).follow, Ts, Tn⟩).c := by
        by_cases h : (c.view + 1) % c.n = c.me
        · exact (b h).1
        · rw [(d h).1]; exact .inr (.inl rfl)
      obtain ⟨l, l1, l2, l3, l4⟩ := a.send; obtain ⟨sv, sv1, sv2⟩ := a.save; have hlm : ∀ x ∈ Tn, x ∈ (St.vote ⟨({ c with view := c.view + 1 } : Co).follow, Ts, Tn⟩).send := fun x hx => by rw [l1]; exact List.mem_append_left _ hx
      refine ⟨hm, hN, by rw [hvv]; omega, by rw [hvv, hq]; omega, fun x hx => ?_, by rw [l1, List.length_append]; dsimp only at l2 ⊢; omega, by rw [l1, List.countP_append]; dsimp only at l3 ⊢; omega, fun x hx => ?_, fun h => (by rw [hl] at h; cases h), fun _ _ => ⟨hvv, hq, hnf, fun to h1 h2 => ⟨_, hlm _ (o4 to (List.mem_range.2 h1) (by show (to : Int) ≠ (c.me : Int); omega)), rfl, rfl, rfl, rfl⟩, fun h => ?_, fun h => ?_⟩, fun _ h => (by omega)⟩
      · rw [l1] at hx
        rcases List.mem_append.1 hx with hx | hx
        · rcases o6 x hx with h | ⟨to, _, e⟩
          · cases h
          · rw [e]; exact ⟨rfl, hvv.symm, by simp [msg0], fun h => (by simp [is46, msg0] at h)⟩
        · obtain ⟨x1, x2, x3, x4, x5⟩ := l4 x hx
          exact ⟨x1, by rw [hvv]; exact x2, x3, x5⟩
      · rw [sv1, o2] at hx
        rcases List.mem_append.1 hx with hx | hx
        · rw [List.mem_singleton.1 hx]; exact (by decide : (1 : Nat) ≠ 4)
        · exact sv2 x hx
      · rw [hvv] at h; exact (b h).2
      · rw [hvv] at h ⊢; exact (d h).2
    · next hb =>
      have hb : c.quiet + 1 < 12 := by
        have : ¬ 12 <= c.quiet + 1 := fun h => hb (.inl h)
        omega
      have key : ∀ s : St, Kp 1 0 ⟨{ c with quiet := c.quiet + 1 }, [], []⟩ s -> Tk c s := fun s k => by
        obtain ⟨s1, s2, s3⟩ := rl k; obtain ⟨l1, l2⟩ := ac4 k; have hvv : s.c.view = c.view := k.view; have hq : s.c.quiet = c.quiet + 1 := k.quiet; refine ⟨k.me, k.n, by rw [hvv]; exact Nat.le_refl _, by rw [hvv, hq]; omega, fun x hx => ?_, by omega, by omega, tf k (fun x hx => by cases hx), fun h => (by rw [hl] at h; cases h), fun _ h => (by omega), fun _ _ => ⟨hvv, hq, k.nf, k.got⟩⟩
        obtain ⟨x1, x2, x3, x4, x5⟩ := s3 x hx; exact ⟨x1, by rw [hvv]; exact x2, x3, x5⟩
      split
      · exact key _ (u0 _ h7).1
      · exact key _ ((Kp.refl _).more (by omega) (by omega))
structure Sb (e0 : En) (c : Co) (s : St) : Prop where
  me : s.c.me = c.me
  n : s.c.n = c.n
  view : s.c.view = c.view
  quiet : s.c.quiet = c.quiet
  lead : c.lead = true -> s.c.lead = true
  got : s.c.lead = true \/ ∀ q, (c.got q).isSome = true -> (s.c.got q).isSome = true
  nf : NF c -> NF s.c
  send : ∀ x ∈ s.send, x.from_ = (c.me : Int) /\ x.view = c.view /\ x.kind ≠ 2 /\ (x.kind = 1 -> x.ents = [e0]) /\ (is46 x = true -> s.c.lead = true)
  len : s.send.length <= 15
  n46 : s.send.countP is46 <= 14
  save : ∀ x ∈ s.save, x.kind ≠ 4
  n1 : s.send.countP (fun x => decide (x.kind = 1)) <= 1
theorem ain (c : Co) (id : Nat) (row : List Int) (h7 : c.n <= 7) (hn : c.n ≠ 1) : Sb ⟨id, 0, row⟩ c (c.submit id row) := by
  unfold Co.submit; dsimp only; have e : (if c.n = 1 /\ c.lead = false then St.begin ⟨c, [], []⟩ else ⟨c, [], []⟩) = (⟨c, [], []⟩ : St) := if_neg (fun h => hn h.1)
  rw [e]
  have h1 : Kp 0 0 ⟨c, [], []⟩ ⟨(c.wanted ⟨id, 0, row⟩).1, [], []⟩ /\ ((c.wanted ⟨id, 0, row⟩).2 = true -> (c.wanted ⟨id, 0, row⟩).1.lead = true) := by
    unfold Co.wanted; split
    · exact ⟨Kp.refl _, fun h => (by cases h)⟩
    · exact ⟨Kp.mem (s := ⟨c, [], []⟩) rfl rfl rfl rfl rfl rfl, fun h => h⟩
  have key : ∀ s : St, Kp 7 7 ⟨c, [], []⟩ s -> Sb ⟨id, 0, row⟩ c s := fun s k => by
    obtain ⟨s1, s2, s3⟩ := rl k; obtain ⟨l1, l2⟩ := ac4 k; refine ⟨k.me, k.n, k.view, k.quiet, k.lead, k.got, k.nf, fun x hx => ?_, by omega, by omega, tf k (fun x hx => by cases hx), ?_⟩
    · obtain ⟨x1, x2, x3, x4, x5⟩ := s3 x hx
      exact ⟨x1, x2, x4, fun h => absurd h x3, x5⟩
    · rw [List.countP_eq_zero.2 fun x hx => by have := (s3 x hx).2.2.1; simpa using this]; exact Nat.zero_le _
  split
  · next hx => exact key _ ((h1.1.trans (qx _ (h1.2 hx) (by rw [h1.1.n]; exact h7))).more (by omega) (by omega))
  · split
    · have k := h1.1
      generalize hd : (c.wanted ⟨id, 0, row⟩).1 = d at *; unfold St.out; split
      · exact key _ (k.more (by omega) (by omega))
      · refine ⟨k.me, k.n, k.view, k.quiet, k.lead, k.got, k.nf, fun x hx => ?_, by simp, ?_, fun x hx => (by cases hx), ?_⟩
        · rw [List.nil_append] at hx
          rw [List.mem_singleton.1 hx]; refine ⟨?_, ?_, by simp [msg0], fun _ => rfl, fun h => (by simp [is46, msg0] at h)⟩
          · show ((d.me : Nat) : Int) = _; rw [k.me]
          · exact k.view
        · simp [is46, msg0]
        · rw [List.nil_append, List.countP_singleton]; split <;> omega
    · exact key _ (h1.1.more (by omega) (by omega))
structure Ph (up : Nat -> Bool) (f : Co -> St) (n : Nat) (C C' : Nat -> Co) (l l' : List Mg) : Prop where
  yes : ∀ r, r < n -> up r = true -> C' r = (f (C r)).c
  no : ∀ r, up r = false -> C' r = C r
  keep : ∀ m ∈ l, m ∈ l'
  new : l'.length < 4000 -> ∀ r, r < n -> up r = true -> ∀ x ∈ (f (C r)).send, x ∈ l'
  mem : ∀ x ∈ l', x ∈ l \/ ∃ r, r < n /\ up r = true /\ x ∈ (f (C r)).send
  num : ∀ k, (∀ r, r < n -> up r = true -> (f (C r)).send.length <= k) -> l'.length <= l.length + k * (List.range n).countP up
  cnt : ∀ (q : Mg -> Bool) k, (∀ r, r < n -> up r = true -> (f (C r)).send.countP q <= k) -> l'.countP q <= l.countP q + k * (List.range n).countP up
theorem ajj {up : Nat -> Bool} {f : Co -> St} {F : W -> Nat -> Option W} (hF : ∀ (w : W) (r : Nat) (w1 : W), (∀ p, w.cut p = none) -> F w r = some w1 -> (∀ p, w1.cut p = none) /\ (up r = false -> w1.c = w.c /\ w1.l = w.l) /\ (up r = true -> w1.c = upd w.c r (f (w.c r)).c /\ w1.l = (f (w.c r)).send.foldl addL w.l)) :
    ∀ (n : Nat) (w w' : W), (∀ p, w.cut p = none) -> foldO F w (List.range n) = some w' -> (∀ p, w'.cut p = none) /\ (∀ r, n <= r -> w'.c r = w.c r) /\ Ph up f n w.c w'.c w.l w'.l := by
  have happ : ∀ (l k : List Nat) (w : W), foldO F w (l ++ k) = (foldO F w l).bind fun w => foldO F w k := by
    intro l
    induction l with
    | nil => intro k w; rfl
    | cons a l ih =>
      intro k w; rw [List.cons_append, foldO, foldO]
      cases F w a with
      | none => rfl
      | some w1 => exact ih k w1
  intro n
  induction n with
  | zero =>
    intro w w' hk h; obtain rfl := Option.some.inj h; exact ⟨hk, fun r _ => rfl, ⟨fun r hr => (by omega), fun r _ => rfl, fun m h => h, fun _ r hr => (by omega), fun x hx => .inl hx, fun k _ => (by omega), fun q k _ => (by omega)⟩⟩
  | succ n ih =>
    intro w w' hk h; rw [List.range_succ, happ] at h
    cases h1 : foldO F w (List.range n) with
    | none => rw [h1] at h; cases h
    | some w1 =>
      rw [h1, Option.bind_some] at h; obtain ⟨a1, a2, a3⟩ := ih w w1 hk h1; unfold foldO at h
      cases h2 : F w1 n with
      | none => rw [h2] at h; cases h
      | some w2 =>
        rw [h2, Option.bind_some] at h; obtain rfl := Option.some.inj h; obtain ⟨b1, b2, b3⟩ := hF w1 n w2 a1 h2; have hcn : (List.range (n + 1)).countP up = (List.range n).countP up + if up n = true then 1 else 0 := by rw [List.range_succ, List.countP_append, List.countP_singleton]
        cases hu : up n with
        | false =>
          obtain ⟨e1, e2⟩ := b2 hu; rw [hu] at hcn; simp only [Bool.false_eq_true, if_false, Nat.add_zero] at hcn; refine ⟨b1, fun r hr => by rw [e1]; exact a2 r (by omega), ⟨fun r hr hur => ?_, fun r hur => by rw [e1]; exact a3.no r hur, by rw [e2]; exact a3.keep, fun hl r hr hur x hx => ?_, fun x hx => ?_, fun k hk2 => ?_, fun q k hk2 => ?_⟩⟩
          · have : r ≠ n := fun e => by rw [e, hu] at hur; cases hur
            rw [e1]; exact a3.yes r (by omega) hur
          · have : r ≠ n := fun e => by rw [e, hu] at hur; cases hur
            rw [e2] at hl ⊢; exact a3.new hl r (by omega) hur x hx
          · rw [e2] at hx
            rcases a3.mem x hx with h | ⟨r, hr, h⟩
            · exact .inl h
            · exact .inr ⟨r, by omega, h⟩
          · rw [e2, hcn]; exact a3.num k fun r hr => hk2 r (by omega)
          · rw [e2, hcn]; exact a3.cnt q k fun r hr => hk2 r (by omega)
        | true =>
          obtain ⟨e1, e2⟩ := b3 hu; have hwn : w1.c n = w.c n := a2 n (Nat.le_refl _); rw [hwn] at e1 e2; rw [hu] at hcn; simp only [if_true] at hcn; obtain ⟨s1, s2, s3⟩ := vc (f (w.c n)).send w1.l; rw [<- e2] at s1 s2 s3; refine ⟨b1, fun r hr => by rw [e1, upd_other _ _ (by omega)]; exact a2 r (by omega), ⟨fun r hr hur => ?_, fun r hur => ?_, fun m hm => s1 m (a3.keep m hm), fun hl r hr hur x hx => ?_, fun x hx => ?_, fun k hk2 => ?_, fun q k hk2 => ?_⟩⟩
          · by_cases e : r = n
            · subst e; rw [e1, upd_same]
            · rw [e1, upd_other _ _ e]; exact a3.yes r (by omega) hur
          · have : r ≠ n := fun e => by rw [e, hu] at hur; cases hur
            rw [e1, upd_other _ _ this]; exact a3.no r hur
          · by_cases e : r = n
            · subst e; exact s3 hl x hx
            · exact s1 x (a3.new (by omega) r (by omega) hur x hx)
          · rw [e2] at hx
            rcases tw hx with hx | hx
            · rcases a3.mem x hx with h | ⟨r, hr, h⟩
              · exact .inl h
              · exact .inr ⟨r, by omega, h⟩
            · exact .inr ⟨n, by omega, hu, hx⟩
          · have h1 := a3.num k fun r hr => hk2 r (by omega)
            have h2 := hk2 n (by omega) hu
            have h3 := (acv is46 (f (w.c n)).send w1.l).1; rw [<- e2] at h3; rw [hcn, Nat.mul_add]; omega
          · have h1 := a3.cnt q k fun r hr => hk2 r (by omega)
            have h2 := hk2 n (by omega) hu
            have h3 := (acv q (f (w.c n)).send w1.l).2; rw [<- e2] at h3; rw [hcn, Nat.mul_add]; omega
theorem alp {up : Nat -> Bool} {n : Nat} {w w' : W} (hk : ∀ p, w.cut p = none) (h : foldO (W.tickR up) w (List.range n) = some w') : Ph up Co.tick n w.c w'.c w.l w'.l :=
  (ajj (up := up) (f := Co.tick) (fun w r w1 hk e => by
    unfold W.tickR at e
    cases hu : up r with
    | false =>
      rw [hu, if_neg (by simp)] at e
      obtain rfl := Option.some.inj e; exact ⟨hk, fun _ => ⟨rfl, rfl⟩, fun h => (by cases h)⟩
    | true =>
      rw [if_pos hu] at e; rcases ql e with ⟨_, b, e2⟩ | ⟨k, d, b, hk2, _⟩
      · subst e2; exact ⟨hk, fun h => (by cases h), fun _ => ⟨rfl, rfl⟩⟩
      · rw [hk] at hk2; cases hk2) n w w' hk h).2.2
end Ag
end Go.Proofs.Ytbciofnejefkiaa
namespace Go.Proofs.Ytbciofnejefkiaa
namespace Ag
structure PlM (up : Nat -> Bool) (e0 : En) (C : Nat -> Co) (m : Mg) : Prop where
  u : up m.from_.toNat = true
  v : m.view <= (C m.from_.toNat).view
  f : is46 m = true -> m.view < (C m.from_.toNat).view \/ (C m.from_.toNat).lead = true
  w : m.kind = 1 -> m.ents = [e0]
def Pl (up : Nat -> Bool) (e0 : En) (C : Nat -> Co) (l : List Mg) : Prop := ∀ m ∈ l, PlM up e0 C m
def Mn (C C' : Nat -> Co) : Prop := ∀ r, (C r).view <= (C' r).view /\ ((C' r).view = (C r).view -> (C r).lead = true -> (C' r).lead = true)
theorem Mn.refl (C : Nat -> Co) : Mn C C := fun r => ⟨Nat.le_refl _, fun _ h => h⟩
theorem PlM.mn {up : Nat -> Bool} {e0 : En} {C C' : Nat -> Co} {m : Mg} (h : Mn C C') (k : PlM up e0 C m) : PlM up e0 C' m := by
  obtain ⟨h1, h2⟩ := h m.from_.toNat; refine ⟨k.u, Nat.le_trans k.v h1, fun h4 => ?_, k.w⟩
  rcases k.f h4 with h5 | h5
  · exact .inl (by omega)
  · by_cases e : (C' m.from_.toNat).view = (C m.from_.toNat).view
    · exact .inr (h2 e h5)
    · exact .inl (by have := k.v; omega)
section
variable {up : Nat -> Bool} {e0 : En} {g g1 g' : Gh} {w w1 w' : W} {m : Mg} {l P : List Mg}
theorem qc (h : Hr up g w m g1 w1) (r : Nat) : w1.c r = w.c r \/ (m.to = (r : Int) /\ up r = true /\ up m.from_.toNat = true /\ w1.c r = ((w.c r).get m).c /\ Ge (w.c r) m ((w.c r).get m) /\ (w.c r).me = r /\ (w.c r).n = w.n /\ r < w.n /\ w1.l = ((w.c r).get m).send.foldl addL w.l) := by
  rcases h.eq with ⟨_, e, _⟩ | ⟨⟨hf, hu⟩, e1, e2, ge, hme, hcn, hr⟩
  · rw [e]; exact .inl rfl
  · by_cases e : r = m.to.toNat
    · right
      have ht := h.mok.to; rw [e1]; subst e; rw [upd_same]; exact ⟨by omega, hu, hf, rfl, ge, hme, hcn, hr, e2⟩
    · left; rw [e1, upd_other _ _ e]
theorem Hr.mn (h : Hr up g w m g1 w1) : Mn w.c w1.c := fun r => by
  rcases qc h r with e | ⟨_, _, _, e, ge, _⟩
  · rw [e]; exact ⟨Nat.le_refl _, fun _ h => h⟩
  · rw [e]
    have hv := ge.view; refine ⟨?_, fun h => ge.lead h⟩
    split at hv <;> omega
theorem Hr.pl (h : Hr up g w m g1 w1) (hp : Pl up e0 w.c w.l) : Pl up e0 w1.c w1.l := fun x hx => by
  rcases h.eq with ⟨_, e, _⟩ | ⟨⟨hf, hu⟩, e1, e2, ge, hme, hcn, hr⟩
  · rw [e] at hx ⊢; exact hp x hx
  · rw [e2] at hx
    rcases tw hx with hx | hx
    · exact (hp x hx).mn h.mn
    · obtain ⟨x1, x2, x3, x4, x5⟩ := ge.send x hx
      have ef : x.from_.toNat = m.to.toNat := by rw [x1, hme]; omega
      refine ⟨by rw [ef]; exact hu, ?_, fun h4 => ?_, fun h1 => absurd h1 x3⟩
      · rw [ef, e1, upd_same, x2]; exact Nat.le_refl _
      · rw [ef, e1, upd_same]; exact .inr (x5 h4)
theorem Hrs.pl (h : Hrs up g w l g' w') (hp : Pl up e0 w.c w.l) : Pl up e0 w'.c w'.l :=
  h.inv (P := l) (fun _ w => Pl up e0 w.c w.l) (fun _ _ _ _ _ _ hr hj => hr.pl hj) (fun m hm => hm) hp
structure HJ (up : Nat -> Bool) (e0 : En) (M : Nat) (P : List Mg) (w : W) : Prop where
  pl : Pl up e0 w.c P
  mx : ∀ r, up r = true -> (w.c r).view <= M
theorem HJ.mv {M : Nat} (h : HJ up e0 M P w) (hm : m ∈ P) : m.view <= M := Nat.le_trans (h.pl m hm).v (h.mx _ (h.pl m hm).u)
theorem HJ.step {M : Nat} (hm : m ∈ P) (h : Hr up g w m g1 w1) (j : HJ up e0 M P w) : HJ up e0 M P w1 := by
  refine ⟨fun x hx => (j.pl x hx).mn h.mn, fun r hu => ?_⟩
  have hmv := j.mv hm; have := j.mx r hu; rcases qc h r with e | ⟨_, _, _, e, ge, _⟩
  · rw [e]; exact this
  · rw [e]; have hv := ge.view; split at hv <;> omega
structure At (M : Nat) (c c' : Co) : Prop where
  view : c'.view = M
  lead : c.lead = true -> c'.lead = true
  got : c'.lead = true \/ ∀ q, (c.got q).isSome = true -> (c'.got q).isSome = true
  nf : NF c -> NF c'
  quiet : c'.quiet = c.quiet \/ c'.quiet = 0
theorem HJ.at {M r : Nat} (hm : m ∈ P) (h : Hr up g w m g1 w1) (j : HJ up e0 M P w) (hv : (w.c r).view = M) : At M (w.c r) (w1.c r) := by
  rcases qc h r with e | ⟨_, _, _, e, ge, _⟩
  · rw [e]; exact ⟨hv, id, .inr fun _ => id, id, .inl rfl⟩
  · rw [e]
    have hmv := j.mv hm; have hv1 := ge.view; have hv2 : ((w.c r).get m).c.view = (w.c r).view := by split at hv1 <;> omega
    exact ⟨hv2.trans hv, ge.lead hv2, ge.got hv2, fun h => ge.nf (.inl h), ge.quiet.elim .inl fun h => .inr h.1⟩
theorem Hrs.keep {M r : Nat} (Q : Co -> Prop) (hQ : ∀ c c', At M c c' -> Q c -> Q c') (h : Hrs up g w l g' w') (hs : ∀ m ∈ l, m ∈ P) (j : HJ up e0 M P w) (hv : (w.c r).view = M) (hq : Q (w.c r)) : (w'.c r).view = M /\ Q (w'.c r) :=
  (h.inv (P := P) (fun _ w => HJ up e0 M P w /\ (w.c r).view = M /\ Q (w.c r)) (fun g w m g1 w1 hm hr ⟨a, b, c⟩ => by
    have := a.at hm hr b; exact ⟨a.step hm hr, this.view, hQ _ _ this c⟩) hs ⟨j, hv, hq⟩).2
theorem Hrs.hit2 {M r : Nat} {m0 : Mg} (Q : Co -> Prop) (hQ : ∀ c c', At M c c' -> Q c -> Q c') (h0 : ∀ g w g1 w1, Hr up g w m0 g1 w1 -> HJ up e0 M P w -> (w1.c r).view = M /\ Q (w1.c r)) (h : Hrs up g w l g' w') (hs : ∀ m ∈ l, m ∈ P) (hm0 : m0 ∈ l) (j : HJ up e0 M P w) : (w'.c r).view = M /\ Q (w'.c r) :=
  h.hit (P := P) (m0 := m0) (fun _ w => HJ up e0 M P w) (fun _ w => (w.c r).view = M /\ Q (w.c r)) (fun g w m g1 w1 hm hr a => a.step hm hr) (fun g w m g1 w1 hm hr a ⟨b, c⟩ => by
    have := a.at hm hr b; exact ⟨this.view, hQ _ _ this c⟩) h0 hs hm0 j
theorem Hrs.hj {M : Nat} (h : Hrs up g w l g' w') (hs : ∀ m ∈ l, m ∈ P) (j : HJ up e0 M P w) : HJ up e0 M P w' := h.inv (P := P) (fun _ w => HJ up e0 M P w) (fun _ _ _ _ _ hm hr a => a.step hm hr) hs j
theorem td {r : Nat} (h : Hr up g w m g1 w1) (ht : m.to = (r : Int)) (hu : up r = true) (hf : up m.from_.toNat = true) : w1.c r = ((w.c r).get m).c /\ Ge (w.c r) m ((w.c r).get m) /\ (w.c r).me = r /\ (w.c r).n = w.n := by
  rcases h.eq with ⟨hn, _⟩ | ⟨_, e1, _, ge, hme, hcn, _⟩
  · exact absurd ⟨hf, by rw [ht, Int.toNat_natCast]; exact hu⟩ hn
  · rw [ht, Int.toNat_natCast] at e1 ge hme hcn
    exact ⟨by rw [e1, upd_same], ge, hme, hcn⟩
end
structure Run (up : Nat -> Bool) (g g1 g' : Gh) (w w1 w' : W) : Prop where
  wx : ∃ q B I, WX g w q B I
  wx1 : ∃ q B I, WX g1 w1 q B I
  wx' : ∃ q B I, WX g' w' q B I
  ph : Ph up Co.tick w.n w.c w1.c w.l w1.l
  hr : Hrs up g1 { w1 with l := [] } w1.l g' w'
  n1 : w1.n = w.n
  n' : w'.n = w.n
theorem uw {up : Nat -> Bool} {g : Gh} {w : W} {q B I : Nat} (h : WX g w q B I) (hk : ∀ p, w.cut p = none) (hq : q < 100000) :
    ∃ w1 g1 w' g', Run up g g1 g' w w1 w' /\ w.round up = some w' /\ WX g' w' (q + 7) (B + 801400) I /\ (∀ p, w'.cut p = none) /\ w'.ids = w.ids := by
  have h7 := h.wg.n7; obtain ⟨w1, g1, e1, x1, t1, i1⟩ := WX.ticks (up := up) (List.range w.n) h hk (by rw [List.length_range]; omega) (fun r hr => List.mem_range.1 hr)
  rw [List.length_range] at x1; have x1' : WX g1 w1 (q + 7) (B + 1400) I := x1.more (by omega) (by omega) (Nat.le_refl _)
  obtain ⟨w2, g2, e2, x2, t2, i2, r2⟩ := af8 (up := up) w1.l (w := { w1 with l := [] }) x1'.noL t1.cut (by omega) (fun m hm => x1.wg.l m hm)
  have hl := x1.l; refine ⟨w1, g1, w2, g2, ⟨⟨_, _, _, h⟩, ⟨_, _, _, x1⟩, ⟨_, _, _, x2⟩, alp hk e1, r2, t1.n, t2.n.trans t1.n⟩, ?_, x2.more (Nat.le_refl _) (by omega) (Nat.le_refl _), t2.cut, i2.trans i1⟩
  unfold W.round; rw [e1, Option.bind_some]; exact e2
structure Cx (up : Nat -> Bool) (n : Nat) : Prop where
  hup : ∀ r, up r = true -> r < n
  q : (List.range n).countP up = n / 2 + 1
  n2 : n ≠ 1
  n7 : n <= 7
section
variable {up : Nat -> Bool} {e0 : En} {g g1 g' : Gh} {w w1 w' : W}
structure Bd (up : Nat -> Bool) (w : W) : Prop where
  v : ∀ r, up r = true -> (w.c r).view < mostView
theorem Run.cok (R : Run up g g1 g' w w1 w') (X : Cx up w.n) {r : Nat} (hu : up r = true) : COK g (w.c r) /\ (w.c r).me = r /\ (w.c r).n = w.n := by
  obtain ⟨q, B, I, h⟩ := R.wx; obtain ⟨a, b⟩ := h.wg.c r (X.hup r hu); exact ⟨a, b, a.n.trans h.wg.n⟩
theorem Run.tk (R : Run up g g1 g' w w1 w') (X : Cx up w.n) (b : Bd up w) {r : Nat} (hu : up r = true) : w1.c r = (w.c r).tick.c /\ Tk (w.c r) (w.c r).tick := by
  obtain ⟨hc, hm, hn⟩ := R.cok X hu; exact ⟨R.ph.yes r (X.hup r hu) hu, ae9 _ (by rw [hn]; exact X.n7) (by rw [hn]; exact X.n2) (by rw [hm, hn]; exact X.hup r hu) (b.v r hu)⟩
theorem Run.mn1 (R : Run up g g1 g' w w1 w') (X : Cx up w.n) (b : Bd up w) : Mn w.c w1.c := fun r => by
  cases hu : up r with
  | false => rw [R.ph.no r hu]; exact ⟨Nat.le_refl _, fun _ h => h⟩
  | true =>
    obtain ⟨e, t⟩ := R.tk X b hu; rw [e]; refine ⟨t.up, fun h hl => (t.lead hl).1⟩
theorem Run.pl1 (R : Run up g g1 g' w w1 w') (X : Cx up w.n) (b : Bd up w) (hp : Pl up e0 w.c w.l) : Pl up e0 w1.c w1.l := fun x hx => by
  rcases R.ph.mem x hx with h | ⟨r, hr, hu, h⟩
  · exact (hp x h).mn (R.mn1 X b)
  · obtain ⟨e, t⟩ := R.tk X b hu
    obtain ⟨_, hm, _⟩ := R.cok X hu; obtain ⟨x1, x2, x3, x4⟩ := t.send x h; have ef : x.from_.toNat = r := by rw [x1, hm]; omega
    exact ⟨by rw [ef]; exact hu, by rw [ef, e, x2]; exact Nat.le_refl _, fun h4 => .inr (by rw [ef, e]; exact x4 h4), fun h1 => absurd h1 x3⟩
theorem Run.pl' (R : Run up g g1 g' w w1 w') : Pl up e0 w'.c w'.l := R.hr.pl (fun x hx => by cases hx)
def Vot (up : Nat -> Bool) (V : Nat) (w : W) : Prop := (∀ r, up r = true -> (w.c r).view = V /\ (w.c r).quiet = 0) /\ (up (V % w.n) = true -> NF (w.c (V % w.n)) /\ ∀ r, up r = true -> (w.c (V % w.n)).lead = true \/ ((w.c (V % w.n)).got r).isSome = true \/ ∃ x ∈ w.l, x.kind = 3 /\ x.to = ((V % w.n : Nat) : Int) /\ x.from_ = (r : Int) /\ x.view = V)
def Led (up : Nat -> Bool) (V : Nat) (w : W) : Prop := up (V % w.n) = true /\ (w.c (V % w.n)).lead = true /\ ∀ r, up r = true -> (w.c r).view = V /\ (r ≠ V % w.n -> (w.c r).quiet <= 1)
theorem afo {P l : List Mg} {M L r : Nat} {x : Mg} {gg gg' : Gh} {v v' : W} (h : Hrs up gg v l gg' v') (hs : ∀ m ∈ l, m ∈ P) (hx : x ∈ l) (j : HJ up e0 M P v) (hL : up L = true) (hML : M % v.n = L) (hr : up r = true) (x1 : x.kind = 3) (x2 : x.to = (L : Int)) (x3 : x.from_ = (r : Int)) (x4 : x.view = M) :
    (v'.c L).view = M /\ ((v'.c L).lead = true \/ ((v'.c L).got r).isSome = true) := by
  have hn : ∀ {ga gb : Gh} {a b : W} {k : List Mg}, Hrs up ga a k gb b -> b.n = a.n := fun h => h.num.1
  have key := h.hit (P := P) (m0 := x) (fun _ w => HJ up e0 M P w /\ w.n = v.n) (fun _ w => (w.c L).view = M /\ ((w.c L).lead = true \/ ((w.c L).got r).isSome = true)) (fun g w m g1 w1 hm hh a => ⟨a.1.step hm hh, hh.tn.n.trans a.2⟩) (fun g w m g1 w1 hm hh a ⟨b, c⟩ => by
    have := a.1.at hm hh b; refine ⟨this.view, ?_⟩; rcases c with c | c
    · exact .inl (this.lead c)
    · rcases this.got with d | d
      · exact .inl d
      · exact .inr (d r c)) (fun g w g1 w1 hh a => by
    obtain ⟨e, ge, hme, hcn⟩ := td hh x2 hL (by rw [x3, Int.toNat_natCast]; exact hr)
    have hv := a.1.mx L hL; have h1 := ge.view; rw [if_neg (by omega)] at h1
    rw [e]; refine ⟨by omega, ?_⟩
    have := ge.vote x1 (by omega) (by rw [hcn, hme, x4, a.2]; exact hML) hh.mok.last
    rw [x3, Int.toNat_natCast] at this; exact this) hs hx ⟨j, rfl⟩
  exact key
theorem Run.begin (R : Run up g g1 g' w w1 w') (X : Cx up w.n) (b : Bd up w) (hp : Pl up e0 w.c w.l) {M r0 : Nat} (hM : ∀ r, up r = true -> (w.c r).view <= M) (h0 : up r0 = true) (h1 : (w.c r0).view = M) (h2 : (w.c r0).lead = false) (h3 : 12 <= (w.c r0).quiet + 1)
    (hP : w1.l.length < 4000) (hR : w'.l.length < 4000) : Vot up (M + 1) w' := by
  have hpl := R.pl1 X b hp; have htk := fun r (hu : up r = true) => R.tk X b hu
  have hcok := fun r (hu : up r = true) => R.cok X hu
  have hb : ∀ r, up r = true -> (w1.c r).view <= M + 1 /\ ((w1.c r).view = M + 1 -> (w.c r).lead = false /\ 12 <= (w.c r).quiet + 1) := fun r hu => by
    obtain ⟨e, t⟩ := htk r hu; have hm := hM r hu; rw [e]
    cases hl : (w.c r).lead with
    | true => have := (t.lead hl).2.1; exact ⟨by omega, fun h => by omega⟩
    | false =>
      by_cases hq : 12 <= (w.c r).quiet + 1
      · have := (t.beg hl hq).1; exact ⟨by omega, fun _ => ⟨rfl, hq⟩⟩
      · have := (t.calm hl (by omega)).1; exact ⟨by omega, fun h => by omega⟩
  have hj : HJ up e0 (M + 1) w1.l { w1 with l := [] } := ⟨hpl, fun r hu => (hb r hu).1⟩
  have hL : (M + 1) % w'.n = (M + 1) % w.n := by rw [R.n']
  unfold Vot; rw [hL]; generalize hLL : (M + 1) % w.n = L
  have hview : ∀ r, up r = true -> (w'.c r).view = M + 1 := fun r hu => by
    obtain ⟨e, t⟩ := htk r0 h0; obtain ⟨t1, t2, t3, t4, t5, t6⟩ := t.beg h2 h3; by_cases er : r = r0
    · subst er
      exact (R.hr.keep (P := w1.l) (fun _ => True) (fun _ _ _ _ => trivial) (fun m hm => hm) hj (by show (w1.c r).view = _; rw [e, t1, h1]) trivial).1
    · obtain ⟨_, hme, hcn⟩ := hcok r0 h0
      obtain ⟨x, hx, x1, x2, x3, x4⟩ := t4 r (by rw [hcn]; exact X.hup r hu) (by rw [hme]; exact er)
      have hxP := R.ph.new hP r0 (X.hup r0 h0) h0 x hx; refine (R.hr.hit2 (P := w1.l) (m0 := x) (fun _ => True) (fun _ _ _ _ => trivial) (fun g w g1 w1 hh a => ⟨?_, trivial⟩) (fun m hm => hm) hxP hj).1
      obtain ⟨e2, ge, _, _⟩ := td hh x2 hu (by rw [x3, hme, Int.toNat_natCast]; exact h0)
      have hv := ge.view; rw [if_neg (by omega), x4, h1] at hv
      have := a.mx r hu; rw [e2]; omega
  have hq : ∀ r, up r = true -> (w'.c r).quiet = 0 /\ NF (w'.c r) /\ (r = L -> (w'.c r).lead = true \/ ((w'.c r).got r).isSome = true) /\ (r ≠ L -> ∃ x, (x ∈ w1.l \/ x ∈ w'.l) /\ x.kind = 3 /\ x.to = (L : Int) /\ x.from_ = (r : Int) /\ x.view = M + 1) := fun r hu => by
    obtain ⟨_, hme0, hcn0⟩ := hcok r hu
    have key := R.hr.inv (P := w1.l) (fun _ v => HJ up e0 (M + 1) w1.l v /\ v.n = w.n /\ ((v.c r).view = M + 1 -> (v.c r).quiet = 0 /\ NF (v.c r) /\ (r = L -> (v.c r).lead = true \/ ((v.c r).got r).isSome = true) /\ (r ≠ L -> v.l.length < 4000 -> ∃ x, (x ∈ w1.l \/ x ∈ v.l) /\ x.kind = 3 /\ x.to = (L : Int) /\ x.from_ = (r : Int) /\ x.view = M + 1)))
      (fun g v m g1 v1 hm hh ⟨a1, a2, a3⟩ => by
        refine ⟨a1.step hm hh, hh.tn.n.trans a2, fun hv => ?_⟩
        by_cases e : (v.c r).view = M + 1
        · obtain ⟨b1, b2, b3, b4⟩ := a3 e
          have t := a1.at hm hh e; refine ⟨by rcases t.quiet with h | h; exact h.trans b1; exact h, t.nf b2, fun h => ?_, fun h hl => ?_⟩
          · rcases b3 h with h | h
            · exact .inl (t.lead h)
            · rcases t.got with h2 | h2
              · exact .inl h2
              · exact .inr (h2 r h)
          · obtain ⟨x, x1, x2⟩ := b4 h (Nat.lt_of_le_of_lt hh.sub.2 hl)
            exact ⟨x, x1.elim .inl fun h => .inr (hh.sub.1 x h), x2⟩
        · rcases qc hh r with h | ⟨ht, _, hf, h, ge, hme, hcn, hr, hl2⟩
          · rw [h] at hv; exact absurd hv e
          · rw [h] at hv ⊢
            have hlt : (v.c r).view < ((v.c r).get m).c.view := by have := a1.mx r hu; omega
            refine ⟨ge.jq hlt, ge.nf (.inr hlt), fun hr => ?_, fun hr hl => ?_⟩
            · have := ge.mine hlt (by rw [hv, hcn, a2, hme, hLL]; exact hr.symm)
              rw [hme] at this; exact this
            · obtain ⟨x, y1, y2, y3, y4, y5⟩ := ge.jump hlt (by rw [hv, hcn, a2, hme, hLL]; exact fun h => hr h.symm)
              rw [hv, hcn, a2, hLL] at y3; rw [hme] at y4; rw [hv] at y5; refine ⟨x, .inr ?_, y2, y3, y4, y5⟩; rw [hl2] at hl ⊢; exact (vc _ _).2.2 hl x y1)
      (fun m hm => hm) ⟨hj, R.n1, fun hv => by
        obtain ⟨e, t⟩ := htk r hu; obtain ⟨l1, l2⟩ := (hb r hu).2 hv; obtain ⟨t1, t2, t3, t4, t5, t6⟩ := t.beg l1 l2; have hv' : (w.c r).tick.c.view = M + 1 := by rw [<- e]; exact hv
        rw [hv', hcn0, hLL, hme0] at t5 t6; show (w1.c r).quiet = 0 /\ NF (w1.c r) /\ (r = L -> (w1.c r).lead = true \/ ((w1.c r).got r).isSome = true) /\ _
        rw [e]; refine ⟨t2, t3, fun h => t5 h.symm, fun h _ => ?_⟩
        obtain ⟨x, hx, x1, x2, x3, x4⟩ := t6 (fun e => h e.symm)
        exact ⟨x, .inl (R.ph.new hP r (X.hup r hu) hu x hx), x1, x2, x3, x4⟩⟩
    obtain ⟨b1, b2, b3, b4⟩ := key.2.2 (hview r hu); exact ⟨b1, b2, b3, fun h => b4 h hR⟩
  refine ⟨fun r hu => ⟨hview r hu, (hq r hu).1⟩, fun hLu => ⟨(hq L hLu).2.1, fun r hu => ?_⟩⟩
  by_cases e : r = L
  · subst e
    rcases (hq r hu).2.2.1 rfl with h | h
    · exact .inl h
    · exact .inr (.inl h)
  · obtain ⟨x, x1, x2, x3, x4, x5⟩ := (hq r hu).2.2.2 e
    rcases x1 with x1 | x1
    · have := afo R.hr (P := w1.l) (fun m hm => hm) x1 hj hLu (by show (M + 1) % w1.n = L; rw [R.n1]; exact hLL) hu x2 x3 x4 x5
      rcases this.2 with h | h
      · exact .inl h
      · exact .inr (.inl h)
    · exact .inr (.inr ⟨x, x1, x2, x3, x4, x5⟩)
theorem Run.nobody (R : Run up g g1 g' w w1 w') (X : Cx up w.n) (b : Bd up w) (hp : Pl up e0 w.c w.l) {M : Nat} (hM : ∀ r, up r = true -> (w.c r).view <= M) (hN : ∀ r, up r = true -> (w.c r).view = M -> (w.c r).lead = false -> (w.c r).quiet + 1 < 12) :
    HJ up e0 M w1.l { w1 with l := [] } /\ ∀ r, up r = true -> (w.c r).view = M -> (w1.c r).view = M /\ ((w.c r).lead = true -> (w1.c r).lead = true /\ (w1.c r).quiet = (w.c r).quiet) /\ ((w.c r).lead = false -> (w1.c r).quiet = (w.c r).quiet + 1) /\ (NF (w.c r) -> NF (w1.c r)) /\ ((w1.c r).lead = true \/ ∀ q, ((w.c r).got q).isSome = true -> ((w1.c r).got q).isSome = true) := by
  refine ⟨⟨R.pl1 X b hp, fun r hu => ?_⟩, fun r hu hv => ?_⟩
  · obtain ⟨e, t⟩ := R.tk X b hu
    have hm := hM r hu; show (w1.c r).view <= M
    rw [e]
    cases hl : (w.c r).lead with
    | true => have := (t.lead hl).2.1; omega
    | false =>
      by_cases hq : 12 <= (w.c r).quiet + 1
      · have h1 := (t.beg hl hq).1
        by_cases e2 : (w.c r).view = M
        · have := hN r hu e2 hl; omega
        · omega
      · have := (t.calm hl (by omega)).1; omega
  · obtain ⟨e, t⟩ := R.tk X b hu
    rw [e]
    cases hl : (w.c r).lead with
    | true =>
      obtain ⟨t1, t2, t3, t4, _⟩ := t.lead hl; exact ⟨t2.trans hv, fun _ => ⟨t1, t3⟩, fun h => (by cases h), fun _ => .inl t1, .inl t1⟩
    | false =>
      obtain ⟨t1, t2, t3, t4⟩ := t.calm hl (hN r hu hv hl); exact ⟨t1.trans hv, fun h => (by cases h), fun _ => t2, t3, t4⟩
theorem Run.vote (R : Run up g g1 g' w w1 w') (X : Cx up w.n) (b : Bd up w) (hp : Pl up e0 w.c w.l) {V : Nat} (hV : Vot up V w) (hL : up (V % w.n) = true) (hP : w1.l.length < 4000) : Led up V w' := by
  obtain ⟨v1, v2⟩ := hV; obtain ⟨nf, vs⟩ := v2 hL; obtain ⟨hj, ht⟩ := R.nobody X b hp (M := V) (fun r hu => Nat.le_of_eq (v1 r hu).1) (fun r hu _ _ => by have := (v1 r hu).2; omega)
  unfold Led; rw [R.n']; generalize hLL : V % w.n = L at *
  have hview : ∀ r, up r = true -> (w'.c r).view = V /\ (w'.c r).quiet <= 1 := fun r hu => by
    obtain ⟨t1, t2, t3, t4, t5⟩ := ht r hu (v1 r hu).1; have hq := (v1 r hu).2; refine R.hr.keep (P := w1.l) (fun c => c.quiet <= 1) (fun c c' t h => by rcases t.quiet with e | e <;> omega) (fun m hm => hm) hj t1 ?_
    show (w1.c r).quiet <= 1
    cases hl : (w.c r).lead with
    | true => have := (t2 hl).2; omega
    | false => have := t3 hl; omega
  obtain ⟨t1, t2, t3, t4, t5⟩ := ht L hL (v1 L hL).1; have hnf : NF (w'.c L) := (R.hr.keep (P := w1.l) NF (fun c c' t h => t.nf h) (fun m hm => hm) hj t1 (t4 nf)).2
  have hgot : ∀ r, up r = true -> (w'.c L).lead = true \/ ((w'.c L).got r).isSome = true := fun r hu => by
    have hst : ∀ c c' : Co, At V c c' -> (c.lead = true \/ (c.got r).isSome = true) -> (c'.lead = true \/ (c'.got r).isSome = true) := fun c c' t h => by
      rcases h with h | h
      · exact .inl (t.lead h)
      · rcases t.got with d | d
        · exact .inl d
        · exact .inr (d r h)
    have hk := fun (h : (w1.c L).lead = true \/ ((w1.c L).got r).isSome = true) => (R.hr.keep (P := w1.l) (r := L) (fun c => c.lead = true \/ (c.got r).isSome = true) hst (fun m hm => hm) hj t1 h).2
    rcases vs r hu with h | h | ⟨x, hx, x1, x2, x3, x4⟩
    · exact hk (.inl (t2 h).1)
    · rcases t5 with d | d
      · exact hk (.inl d)
      · exact hk (.inr (d r h))
    · exact (afo R.hr (P := w1.l) (fun m hm => hm) (R.ph.keep x hx) hj hL (by show V % w1.n = L; rw [R.n1]; exact hLL) hu x1 x2 x3 x4).2
  refine ⟨hL, ?_, fun r hu => ⟨(hview r hu).1, fun _ => (hview r hu).2⟩⟩
  cases hl : (w'.c L).lead with
  | true => rfl
  | false =>
    exfalso
    obtain ⟨q, B, I, hx⟩ := R.wx'; obtain ⟨hc, hme⟩ := hx.wg.c L (by rw [R.n']; exact X.hup L hL)
    have hcn : (w'.c L).n = w.n := hc.n.trans (hx.wg.n.trans R.n'); have hg : ∀ r, up r = true -> ((w'.c L).got r).isSome = true := fun r hu => (hgot r hu).resolve_left (by rw [hl]; simp)
    rcases hnf with h | h | h
    · rw [hl] at h; cases h
    · rw [hme] at h; have := hg L hL; rw [h] at this; cases this
    · unfold Co.size Co.quorum at h
      rw [hcn] at h; have : (List.range w.n).countP up <= (List.range w.n).countP fun r => ((w'.c L).got r).isSome := List.countP_mono_left fun r _ hu => hg r hu
      rw [X.q] at this; omega
theorem Run.wait (R : Run up g g1 g' w w1 w') (X : Cx up w.n) (b : Bd up w) (hp : Pl up e0 w.c w.l) {V q : Nat} (hV : ∀ r, up r = true -> (w.c r).view = V /\ (w.c r).quiet = q) (hL : up (V % w.n) = false) (hq : q + 1 < 12) : ∀ r, up r = true -> (w'.c r).view = V /\ (w'.c r).quiet = q + 1 := by
  obtain ⟨hj, ht⟩ := R.nobody X b hp (M := V) (fun r hu => Nat.le_of_eq (hV r hu).1) (fun r hu _ _ => by have := (hV r hu).2; omega)
  intro r hu
  have hnl : (w.c r).lead = false := by
    cases hl : (w.c r).lead with
    | false => rfl
    | true =>
      obtain ⟨hc, hme, hcn⟩ := R.cok X hu; have h1 := (hc.lead hl).1; rw [<- hc.n, hcn, hme, (hV r hu).1] at h1; rw [h1, hu] at hL; cases hL
  obtain ⟨t1, t2, t3, t4, t5⟩ := ht r hu (hV r hu).1; have hq1 : (w1.c r).quiet = q + 1 := by rw [t3 hnl, (hV r hu).2]
  have key := R.hr.inv (P := w1.l) (fun ga v => HJ up e0 V w1.l v /\ ga.n = w.n /\ (v.c r).view = V /\ (v.c r).quiet = q + 1) (fun ga v m gb v1 hm hh ⟨a1, a2, a3, a4⟩ => by
    have t := a1.at hm hh a3; refine ⟨a1.step hm hh, hh.tn.le.n.trans a2, t.view, ?_⟩; rcases qc hh r with h | ⟨_, _, hf, h, ge, _⟩
    · rw [h]; exact a4
    · rw [h]
      rcases ge.quiet with h1 | ⟨_, h1 | ⟨h1, h2⟩⟩
      · rw [h1]; exact a4
      · have := t.view; rw [h] at this; omega
      · exfalso
        have h3 := (hh.mok.lead ((vh m).1 h1)).1; rw [a2, h2, a3] at h3; rw [h3, Int.toNat_natCast, hL] at hf; cases hf) (fun m hm => hm) ⟨hj, by obtain ⟨_, _, _, h⟩ := R.wx1; exact h.wg.n.trans R.n1, t1, hq1⟩
  exact ⟨key.2.2.1, key.2.2.2⟩
theorem Run.calm (R : Run up g g1 g' w w1 w') (X : Cx up w.n) (b : Bd up w) (hp : Pl up e0 w.c w.l) {M r0 : Nat} (hM : ∀ r, up r = true -> (w.c r).view <= M) (hN : ∀ r, up r = true -> (w.c r).view = M -> (w.c r).lead = false -> (w.c r).quiet + 1 < 12) (h0 : up r0 = true) (h1 : (w.c r0).view = M) (h2 : (w.c r0).lead = false) :
    (∀ r, up r = true -> (w'.c r).view <= M) /\ (w'.c r0).view = M /\ ((∃ r, up r = true /\ (w'.c r).view = M /\ (w'.c r).lead = true) \/ (w'.c r0).quiet = (w.c r0).quiet + 1) := by
  obtain ⟨hj, ht⟩ := R.nobody X b hp hM hN; obtain ⟨t1, t2, t3, t4, t5⟩ := ht r0 h0 h1
  have key := R.hr.inv (P := w1.l) (fun _ v => HJ up e0 M w1.l v /\ (v.c r0).view = M /\ ((∃ r, up r = true /\ (v.c r).view = M /\ (v.c r).lead = true) \/ (v.c r0).quiet = (w.c r0).quiet + 1)) (fun ga v m gb v1 hm hh ⟨a1, a2, a3⟩ => by
    have t := a1.at hm hh a2; refine ⟨a1.step hm hh, t.view, ?_⟩
    have hk : (∃ r, up r = true /\ (v.c r).view = M /\ (v.c r).lead = true) -> ∃ r, up r = true /\ (v1.c r).view = M /\ (v1.c r).lead = true := fun ⟨r, x1, x2, x3⟩ => by
      have t := a1.at hm hh x2; exact ⟨r, x1, t.view, t.lead x3⟩
    rcases a3 with a3 | a3
    · exact .inl (hk a3)
    · rcases qc hh r0 with h | ⟨_, _, hf, h, ge, _⟩
      · rw [h]; exact .inr a3
      · rcases ge.quiet with h1 | ⟨_, h1 | ⟨h1, h2⟩⟩
        · rw [h, h1]; exact .inr a3
        · have := t.view; rw [h] at this; omega
        · left
          refine hk ⟨_, hf, ?_, ?_⟩
          · have := (a1.pl m hm).v; have := a1.mx _ hf; omega
          · rcases (a1.pl m hm).f h1 with h3 | h3
            · have := a1.mx _ hf; omega
            · exact h3) (fun m hm => hm) ⟨hj, t1, .inr (t3 h2)⟩
  exact ⟨key.1.mx, key.2.1, key.2.2⟩
theorem Run.lead (R : Run up g g1 g' w w1 w') (X : Cx up w.n) (b : Bd up w) (hp : Pl up e0 w.c w.l) {M L : Nat} (hM : ∀ r, up r = true -> (w.c r).view <= M) (hN : ∀ r, up r = true -> (w.c r).view = M -> (w.c r).lead = false -> (w.c r).quiet + 1 < 12) (h0 : up L = true) (h1 : (w.c L).view = M) (h2 : (w.c L).lead = true) (hP : w1.l.length < 4000) :
    L = M % w.n /\ Led up M w' := by
  obtain ⟨hj, ht⟩ := R.nobody X b hp hM hN; obtain ⟨hc, hme, hcn⟩ := R.cok X h0
  have hLL : L = M % w.n := by
    have := (hc.lead h2).1; rw [<- hc.n, hcn, hme, h1] at this; exact this.symm
  refine ⟨hLL, ?_⟩; unfold Led; rw [R.n', <- hLL]; obtain ⟨t1, t2, t3, t4, t5⟩ := ht L h0 h1; refine ⟨h0, (R.hr.keep (P := w1.l) (fun c => c.lead = true) (fun c c' t h => t.lead h) (fun m hm => hm) hj t1 (t2 h2).1).2, fun r hu => ?_⟩
  by_cases er : r = L
  · subst er
    exact ⟨(R.hr.keep (P := w1.l) (fun _ => True) (fun _ _ _ _ => trivial) (fun m hm => hm) hj t1 trivial).1, fun h => absurd rfl h⟩
  · obtain ⟨e, t⟩ := R.tk X b h0
    have hx := (t.lead h2).2.2.2.2 r (by rw [hcn]; exact X.hup r hu) (by rw [hme]; exact er)
    have hxP := R.ph.new hP L (X.hup L h0) h0 _ hx
    have := R.hr.hit2 (P := w1.l) (r := r) (fun c => c.quiet <= 1) (fun c c' t h => by rcases t.quiet with e | e <;> omega) (fun ga v gb v1 hh a => by
      have hto : (layM (w.c L).tick.c r).to = (r : Int) := vu _ _; have hki := ajp (w.c L).tick.c r; obtain ⟨e2, ge, _, hn2⟩ := td hh hto hu (by show up ((w.c L).me : Int).toNat = true; rw [hme, Int.toNat_natCast]; exact h0)
      have hv := ge.view; have hi : is46 { layM (w.c L).tick.c r with from_ := ((w.c L).me : Int), view := (w.c L).view } = true := (vh _).2 hki
      have hmx := a.mx r hu; rw [if_neg (by show ¬ (layM (w.c L).tick.c r).kind = 1; omega)] at hv
      replace hv : ((v.c r).get _).c.view = max (v.c r).view (w.c L).view := hv; rw [e2]; refine ⟨by omega, ?_⟩
      have h3 := (hh.mok.lead ((vh _).1 hi)).1; have hgn : ga.n = v.n := by obtain ⟨_, _, _, h⟩ := hh.wx; exact h.wg.n
      have := ge.hear hi (by show (v.c r).view <= (w.c L).view; omega) (by rw [hn2, <- hgn]; exact h3)
      omega) (fun m hm => hm) hxP hj
    exact ⟨this.1, fun _ => this.2⟩
end
end Ag
end Go.Proofs.Ytbciofnejefkiaa
