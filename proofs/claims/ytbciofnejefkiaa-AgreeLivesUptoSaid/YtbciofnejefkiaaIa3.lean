import Derived.Test.YtbciofnejefkiaaIz
import Derived.Test.YtbciofnejefkiaaIa2
set_option linter.unusedVariables false
set_option linter.unusedSimpArgs false
set_option maxRecDepth 20000
set_option maxHeartbeats 4000000
namespace Go.Proofs.Ytbciofnejefkiaa
open Go Go.Am Go.Proofs
theorem ao4 (H : AHeap) (a : Nat) : ACalls Try.prog 113 [uI a] H fun r H' => r = bB false /\ H' = H := by
  refine ej Try.func113 rfl (by decide) ?_
  focus (refine f0 ?_; refine an ?_; refine an ?_; refine jk ?_; refine bn ?_)
  exact ⟨.inl rfl, _, _, _, Ent.refl _ _, ret1 rfl rfl, by rw [show (false : Bool) = decide (a ≠ a) from by simp]; rfl, rfl⟩
theorem Less_calls (H : AHeap) (a b : Nat) : ACalls Try.prog 102 [uI a, uI b] H fun r H' => r = bB (decide (a < b)) /\ H' = H := by
  refine gm Try.func102 rfl (by decide) ?_
  focus (refine f0 ?_; refine an ?_; (refine zc ah (ao4 _ _) ?_; rintro r H' ⟨rfl, rfl⟩); refine an ?_; refine gp ?_; refine fb ?_; refine cd ?_; refine ep ?_; refine ep ?_; refine ep ?_; refine mz ?_; refine cd ?_; refine bn ?_)
  exact ⟨.inl rfl, _, _, _, Ent.refl _ _, ret1 rfl rfl, rfl, rfl⟩
theorem Len64_calls (H : AHeap) (v : Nat) (hv : v <= 7) : ACalls Try.prog 106 [uI v] H fun r H' => (∃ z : Int, r = mI z) /\ H' = H := by
  refine ej Try.func106 rfl (by decide) ?_
  focus (refine az ?_; refine bc ?_; refine bz ?_; refine ln ?_; refine aq ?_; refine gh ?_; intro hc; refine bz ?_; refine ln ?_; refine aq ?_; refine gh ?_; intro hc; refine bz ?_; refine ln ?_; refine aq ?_; refine gh ?_; intro hc; refine gn ?_; refine an ?_; refine ae rfl (fu rfl (by omega)) ?_; refine ae rfl (amx rfl rfl au) ?_; refine ae rfl (qs rfl (Int.le_trans (by decide) (Int.natCast_nonneg _)) (Int.ofNat_le.2 (Nat.le_of_lt (Nat.lt_trans (UInt8.toNat_lt _) (by decide))))) ?_; refine ae rfl (abz (k := .i64) rfl rfl) ?_; refine bn ?_)
  exact ⟨.inl rfl, _, _, _, Ent.refl _ _, ret1 rfl rfl, ⟨_, rfl⟩, rfl⟩
theorem Len_calls (H : AHeap) (v : Nat) (hv : v <= 7) : ACalls Try.prog 92 [uI v] H fun r H' => (∃ z : Int, r = mI z) /\ H' = H := by
  refine ej Try.func92 rfl (by decide) ?_
  focus (refine az ?_; refine bc ?_; refine bf ?_; refine mf rfl ?_; refine cy ?_; refine gn ?_; (refine zc ah (Len64_calls _ v hv) ?_; rintro r H' ⟨⟨z, rfl⟩, rfl⟩); refine bn ?_)
  exact ⟨.inl rfl, _, _, _, Ent.refl _ _, ret1 rfl rfl, ⟨_, rfl⟩, rfl⟩
theorem swap2 (U R : List Nat) (y x : Nat) : (((U ++ y :: x :: R).map uI).set (U.length + 1) (uI y)).set U.length (uI x) = (U ++ x :: y :: R).map uI := by
  simp [List.map_append, List.set_append]
theorem afz {S1 S2 : List Nat} {x : Nat} (h : (S1 ++ S2).Pairwise (· <= ·)) (h1 : ∀ z ∈ S1.getLast?, z <= x) (h2 : ∀ z ∈ S2.head?, x <= z) : (S1 ++ x :: S2).Pairwise (· <= ·) := by
  obtain ⟨a1, a2, a3⟩ := List.pairwise_append.1 h
  have b1 : ∀ z ∈ S1, z <= x := by
    rcases List.eq_nil_or_concat S1 with rfl | ⟨U, y, e⟩
    · simp
    · rw [List.concat_eq_append] at e
      subst e; have hy := h1 y (by simp)
      intro z hz; rcases List.mem_append.1 hz with hz | hz
      · exact Nat.le_trans ((List.pairwise_append.1 a1).2.2 z hz y (by simp)) hy
      · rw [List.mem_singleton.1 hz]; exact hy
  have b2 : ∀ z ∈ S2, x <= z := by
    cases S2 with
    | nil => simp
    | cons y U =>
      have hy := h2 y (by simp)
      intro z hz; rcases List.mem_cons.1 hz with rfl | hz
      · exact hy
      · exact Nat.le_trans hy ((List.pairwise_cons.1 a2).1 z hz)
  refine List.pairwise_append.2 ⟨a1, List.pairwise_cons.2 ⟨b2, a2⟩, fun z hz w hw => ?_⟩
  rcases List.mem_cons.1 hw with rfl | hw
  · exact b1 z hz
  · exact a3 z hz w hw
theorem al8 {S1 : List Nat} {j : Nat} (h : S1.length = j) (hj : 0 < j) : ∃ U y, S1 = U ++ [y] /\ U.length = j - 1 := by
  rcases List.eq_nil_or_concat S1 with rfl | ⟨U, y, e⟩
  · simp at h; omega
  · rw [List.concat_eq_append] at e; subst e; exact ⟨U, y, rfl, by simp at h; omega⟩
theorem zh {H : AHeap} {o : Nat} {x : AO} (h : H o = some x) : H.set o x = H := funext fun p => by
  simp only [AHeap.set]; split
  · next e => rw [e]; exact h.symm
  · rfl
theorem ak3 (H : AHeap) (oS n : Nat) (l : List Nat) (hS : H oS = some (.cel (l.map uI))) (hn : n = l.length) (h7 : n <= 1000) :
    ACalls Try.prog 96 [.vw oS 1 0 n, mI 0, mI (n : Int)] H fun r H' => r = .tup [] /\ ∃ S : List Nat, S.Perm l /\ S.Pairwise (· <= ·) /\ H' = H.set oS (.cel (S.map uI)) := by
  have hid := zh hS; have hn2 : ((n : Nat) : Int) = ((n : Nat) : Int) := rfl; refine lz Try.func96 rfl (by decide) ?_
  focus (refine az ?_; refine px ?_; refine bc ?_; refine gi ?_)
  refine cv (fun mm R' H2 => ∃ (i : Nat) (P Q S : List Nat), l = P ++ Q /\ (P.length = i \/ i = 1 /\ l = []) /\ 0 < i /\ S.Perm P /\ S.Pairwise (· <= ·) /\ H2 = H.set oS (.cel ((S ++ Q).map uI)) /\ R' = [(0, .vw oS 1 0 n), (1, mI 0), (2, mI (n : Int)), (6, .raw (.int .i64 (i : Int)))] /\ Q.length = mm) ?_ ?_
  · cases l with
    | nil => exact ⟨0, _, _, ba, 1, [], [], [], rfl, .inr ⟨rfl, rfl⟩, by decide, List.Perm.refl _, List.Pairwise.nil, by simpa using hid.symm, rfl, rfl⟩
    | cons x l => exact ⟨l.length, _, _, ba, 1, [x], l, [x], rfl, .inl rfl, by decide, List.Perm.refl _, List.pairwise_singleton _ _, by simpa using hid.symm, rfl, rfl⟩
  rintro mm R0 H2 ⟨i, P, Q, S, hl, hi, hi0, hSP, hSs, rfl, rfl, rfl⟩; have hSl := hSP.length_eq; have hnl : n = P.length + Q.length := by rw [hn, hl, List.length_append]
  by_cases hlt : i < n
  · have hPi : P.length = i := by rcases hi with h | ⟨_, h⟩; exact h; rw [h] at hn; simp at hn; omega
    obtain ⟨x, Q, rfl⟩ : ∃ y W, Q = y :: W := by cases Q with | nil => simp at hnl; omega | cons c d => exact ⟨c, d, rfl⟩
    simp only [List.length_cons] at hnl; have hSPh := Hdq.mk hSP; have hSh := Hdq.mk hS; clear hSP hS hi hid
    focus (refine bz ?_; refine an ?_; refine cm ?_; refine ax rfl (fun hc => ?_) (fun hc => ?_); refine ct ?_; refine an ?_; refine bc ?_; refine gi ?_; rotate_left; exact absurd hc aj)
    all_goals try (exfalso; omega)
    refine cv (fun mm2 R' H3 => ∃ (j : Nat) (S1 S2 : List Nat), S = S1 ++ S2 /\ S1.length = j /\ (∀ z ∈ S2.head?, x <= z) /\ H3 = H.set oS (.cel ((S1 ++ x :: (S2 ++ Q)).map uI)) /\ R' = [(0, .vw oS 1 0 n), (1, mI 0), (2, mI (n : Int)), (6, .raw (.int .i64 (i : Int))), (7, .raw (.int .i64 (j : Int)))] /\ S1.length = mm2) ?_ ?_
    · exact ⟨S.length, _, _, ba, i, S, [], by simp, by omega, fun z hz => (by cases hz), by simp, rfl, rfl⟩
    rintro mm2 R1 H3 ⟨j, S1, S2, rfl, hj, hh2, rfl, rfl, rfl⟩; simp only [List.length_append] at hSl; by_cases hja : 0 < j
    · obtain ⟨U, y, rfl, hU⟩ := al8 hj hja
      have hsw := swap2 U (S2 ++ Q) y x; rw [hU, show j - 1 + 1 = j by omega] at hsw
      have hws : (U ++ [y]) ++ x :: (S2 ++ Q) = U ++ y :: x :: (S2 ++ Q) := by simp
      rw [hws]; have g1 : (U ++ y :: x :: (S2 ++ Q))[j - 1]? = some y := by rw [<- hU]; simp
      have g2 : (U ++ y :: x :: (S2 ++ Q))[j]? = some x := by rw [show j = U.length + 1 by omega]; simp
      have g3 : (U ++ y :: x :: (S2 ++ Q)).length = n := by simp at hSl ⊢; omega
      have g4 : ((U ++ y :: x :: (S2 ++ Q)).map uI).length = n := by rw [List.length_map]; exact g3
      generalize hW : U ++ y :: x :: (S2 ++ Q) = ws at *; have hSs2 := Hdq.mk hSs; have hWh := Hdq.mk hW; clear hSs hW hws
      focus (refine bf ?_; refine cj ?_; refine bj ?_; refine bj ?_; refine nv ?_; refine bj ?_; refine zt1 rfl rfl rfl (fun hc => ?_) (fun hc => ?_); refine sa ?_; refine cx ?_; refine eb ?_; refine mu ?_; refine cx ?_; refine oa ?_; refine cx ?_; refine sa ?_; refine cx ?_; refine eb ?_; (apply ay; · exact ry rfl rfl (by omega) (by omega)); refine cx ?_; refine mu ?_; refine cx ?_; refine oa ?_; refine cx ?_; (apply ay; · exact bw ah (Less_calls _ x y)); refine da ?_; refine de ?_; refine ax rfl (fun hc => ?_) (fun hc => ?_); refine js ?_; refine mw false dz bg bg ?_; (apply jl; · (intro H1; exact ce (v := .vw _ _ _ _) rfl)); refine r9 ?_; (apply jl; · (intro H1; exact ce (v := .vw _ _ _ _) rfl)); refine r9 ?_; (apply jl; · (intro H1; exact ry rfl rfl (by omega) (by omega))); (apply jl; · (intro H1; exact ce (v := .vw _ _ _ _) rfl)); refine r9 ?_; (apply jl; · (intro H1; exact ry rfl rfl (by omega) (by omega))); refine q0 ?_; (apply j8 bg; (· exact fc rfl aa ij)); (apply jl; · (intro H1; exact ce (v := .vw _ _ _ _) rfl)); refine r9 ?_; refine q0 ?_; (apply j8 bg; (· exact fc rfl aa ij)); refine q0 ?_; refine lq ?_; refine q0 ?_; refine lq ?_; refine mr ?_; refine lw (fun Rx K1 hK1x => ?_); refine iq ?_; refine bb ?_; (refine hK1x _ ?_; clear hK1x K1 Rx); refine lw (fun Rx K1 hK1x => ?_); refine iq ?_; refine bb ?_; (refine hK1x _ ?_; clear hK1x K1 Rx); refine mi ?_; refine ul ?_; refine an ?_; refine ae rfl (ry rfl rfl (by omega) (by omega)) ?_; refine bc ?_; rotate_left; refine qw ?_; refine fx ?_; rotate_left; exact absurd hc aj)
      all_goals try (exfalso; omega)
      · exact ⟨U.length, _, _, by simp, Ent.sub _ (by (repeat' (first | exact RSub.nil _ | apply RSub.cons)); all_goals rfl), j - 1, U, y :: S2, by simp, hU, fun z hz => (by simp at hz; omega), (by simp only [Nat.zero_add, Nat.mul_one]; rw [hsw]; simp), rfl, rfl⟩
      · exact ⟨Q.length, _, _, by simp, Ent.sub _ (by (repeat' (first | exact RSub.nil _ | apply RSub.cons)); all_goals rfl), i + 1, P ++ [x], Q, (U ++ [y]) ++ x :: S2, by rw [hl]; simp, .inl (by simp; omega), by omega, (List.perm_middle.trans (List.Perm.cons x hSPh.out)).trans (List.perm_append_singleton x P).symm, afz hSs2.out (fun z hz => (by simp at hz; omega)) hh2, by rw [<- hWh.out]; simp, rfl, rfl⟩
    have hS1 : S1 = [] := List.length_eq_zero_iff.1 (by omega)
    subst hS1
    focus (refine bf ?_; refine cj ?_; refine bj ?_; refine bj ?_; refine nv ?_; refine bj ?_; refine zt1 rfl rfl rfl (fun hc => ?_) (fun hc => ?_); exact absurd hc aj; refine bx ?_; refine bx ?_; refine zt4 rfl rfl ?_; refine jh ?_; refine mf rfl ?_; refine qw ?_; refine fx ?_)
    all_goals try (exfalso; omega)
    exact ⟨Q.length, _, _, by simp, Ent.sub _ (by (repeat' (first | exact RSub.nil _ | apply RSub.cons)); all_goals rfl), i + 1, P ++ [x], Q, x :: S2, by rw [hl]; simp, .inl (by simp; omega), by omega, (List.Perm.cons x hSPh.out).trans (List.perm_append_singleton x P).symm, afz (S1 := []) hSs (fun z hz => by cases hz) hh2, by simp, rfl, rfl⟩
  focus (refine bz ?_; refine an ?_; refine cm ?_; refine jm ?_; intro hc; refine qw ?_)
  all_goals try (exfalso; omega)
  have hQ : Q = [] := List.length_eq_zero_iff.1 (by rcases hi with h | ⟨_, h⟩; omega; rw [h] at hn; simp at hn; omega)
  subst hQ; exact ⟨.inr rfl, _, _, _, Ent.refl _ _, ret0 rfl, rfl, S, by rw [hl, List.append_nil]; exact hSP, hSs, by simp⟩
theorem Sort_calls (H : AHeap) (oS n : Nat) (l : List Nat) (hS : H oS = some (.cel (l.map uI))) (hn : n = l.length) (h7 : n <= 7) :
    ACalls Try.prog 80 [.vw oS 1 0 n] H fun r H' => r = .tup [] /\ H' = H.set oS (.cel ((Ag.sort l).map uI)) := by
  have huq : ∀ S : List Nat, S.Perm l -> S.Pairwise (· <= ·) -> S = Ag.sort l := fun S h1 h2 => List.Perm.eq_of_pairwise (fun a b _ _ h k => Nat.le_antisymm h k) h2 (Ag.sort_sorted l) (h1.trans (Ag.sort_perm l).symm)
  have hpdq : ∀ (H : AHeap) (z : Int), H oS = some (.cel (l.map uI)) -> ACalls Try.prog 91 [.vw oS 1 0 n, mI 0, mI (n : Int), mI z] H fun r H' => r = .tup [] /\ H' = H.set oS (.cel ((Ag.sort l).map uI)) := by
    intro H z hS; refine ab6 Try.func91 rfl (by decide) ?_
    have hI := fun H h => ak3 H oS n l h hn (by omega)
    focus (refine f0 ?_; refine bc ?_; refine gi ?_)
    refine cv (fun mm R' H2 => H2 = H /\ mm = 0 /\ R' = [(9, .raw (.bool true)), (8, .raw (.bool true)), (0, .vw oS 1 0 n), (1, mI 0), (2, mI (n : Int)), (3, mI z)]) ⟨0, _, _, ba, rfl, rfl, rfl⟩ ?_
    rintro mm R0 H2 ⟨rfl, rfl, rfl⟩
    focus (refine pt ?_; refine an ?_; refine an ?_; refine ae rfl (ry rfl rfl (by omega) (by omega)) ?_; refine bc ?_; refine bz ?_; refine ae rfl (mt rfl rfl) ?_; refine aq ?_; refine ax rfl (fun hc => ?_) (fun hc => ?_); refine az ?_; refine c9 ?_; refine an ?_; refine an ?_; (refine zc ah (hI _ aa) ?_; rintro r H' ⟨rfl, S, s1, s2, rfl⟩); refine dv ?_; refine fi ?_; refine aae ?_; rotate_left; exact absurd hc aj)
    all_goals try (exfalso; omega)
    exact ⟨.inl rfl, _, _, _, Ent.refl _ _, ret0 rfl, rfl, by rw [huq S s1 s2]⟩
  refine ej Try.func80 rfl (by decide) ?_
  focus (refine az ?_; refine c9 ?_; refine iz ?_; refine bc ?_; refine ca ?_; refine c9 ?_; refine an ?_; refine an ?_; refine ae rfl (fu rfl (by omega)) ?_; (refine zc ah (Len_calls _ n h7) ?_; rintro r H' ⟨⟨z, rfl⟩, rfl⟩); (refine zc ah (hpdq _ _ aa) ?_; rintro r H' ⟨rfl, rfl⟩); refine bb ?_)
  exact ⟨.inr rfl, _, _, _, Ent.refl _ _, ret0 rfl, rfl, rfl⟩
end Go.Proofs.Ytbciofnejefkiaa
namespace Go.Proofs.Ytbciofnejefkiaa
open Go Go.Am Go.Proofs
theorem aeg (k : Int) (v : AV) : ∀ (es : MI), ∀ x ∈ (es.put k v).map (·.1), x = k \/ x ∈ es.map (·.1)
  | [], x, h => .inl (by simpa [MI.put] using h)
  | (a, u) :: es, x, h => by
    unfold MI.put at h; split at h
    · rw [List.map_cons, List.mem_cons] at h
      rcases h with h | h
      · exact .inl h
      · exact .inr (List.mem_cons_of_mem _ h)
    · rw [List.map_cons, List.mem_cons] at h
      rcases h with h | h
      · exact .inr (by rw [h]; exact List.mem_cons_self)
      · rcases aeg k v es x h with h | h
        · exact .inl h
        · exact .inr (List.mem_cons_of_mem _ h)
theorem abi {k : Int} {v : AV} : ∀ {es : MI}, (es.map (·.1)).Nodup -> ((es.put k v).map (·.1)).Nodup
  | [], _ => by simp [MI.put]
  | (a, u) :: es, h => by
    rw [List.map_cons, List.nodup_cons] at h; unfold MI.put; split
    · next e => rw [List.map_cons, List.nodup_cons]; exact ⟨by rw [<- e]; exact h.1, h.2⟩
    · next e =>
      rw [List.map_cons, List.nodup_cons]; refine ⟨fun hx => ?_, abi h.2⟩
      rcases aeg k v es a hx with hx | hx
      · exact e hx
      · exact h.1 hx
theorem HeldM.upd {es : MI} {c d : Ag.Co} (h : HeldM es c) (q v : Nat) (hd : d.held = Ag.upd c.held q (some v)) : HeldM (es.put (q : Int) (uI v)) d := ⟨fun k => by
  rw [rz, h.get k, hd]; unfold Ag.upd; by_cases e : (q : Int) = k
  · subst e; simp
  · rw [if_neg e]
    by_cases k0 : 0 <= k
    · have : ¬ k.toNat = q := fun x => e (by omega)
      simp only [if_pos k0, if_neg this]
    · simp only [if_neg k0], abi h.nd⟩
def fw (c : Ag.Co) (k : Nat) : List Nat := (List.range k).filterMap c.held
theorem ane (c : Ag.Co) (k : Nat) : fw c (k + 1) = fw c k ++ (c.held k).toList := by
  unfold fw; rw [List.range_succ, List.filterMap_append]
  cases h : c.held k <;> simp [h]
theorem aoe (c : Ag.Co) (k : Nat) : (fw c k).length <= k := by
  unfold fw; exact Nat.le_trans (List.length_filterMap_le _ _) (by simp)
theorem akf (H : AHeap) (F : Ob) (c : Ag.Co) (h : CAt H F c) (nd : NdC F) (hf : CFine c) :
    ACalls Try.prog 54 [.ptr F.o 0] H fun r H' => r = .tup [] /\ CAt H' F c.settle /\ ∀ p y, H p = some y -> p ≠ F.o -> p ≠ F.oh -> H' p = some y := by
  obtain ⟨⟨off, xs, hco, hw, hx1, hx2⟩, ⟨eg, hg, hg2⟩, ⟨eh, hh, hh2⟩⟩ := h; obtain ⟨n1, n2, n3, n4, n5, n6⟩ := nd; have f1 := hf.me; have f2 := hf.n; have f3 := hf.list.len; have f4 := hf.agr; have hheld := hf.held; have hQ := fun H h => aht H F.o c F.og F.oh (.vw F.ow 3 off c.wait.length) h f2
  unfold bo at hco hQ; obtain ⟨d, hd⟩ : ∃ d : Ag.Co, d = { c with held := Ag.upd c.held c.me (some c.list.length) } := ⟨_, rfl⟩
  have hes := hh2.upd (d := d) c.me c.list.length (by rw [hd])
  have hset : c.settle = if (fw d c.n).length < c.quorum then d else { d with agreed := max c.agreed (min ((Ag.sort (fw d c.n)).getD ((fw d c.n).length - c.quorum) 0) c.list.length) } := by rw [hd]; rfl
  have hdh : ∀ q v, d.held q = some v -> v < 2 ^ 64 := by
    intro q v hq; rw [hd] at hq; simp only [Ag.upd] at hq; split at hq
    · cases hq; omega
    · exact (hheld q v hq).2
  have hdc : ∀ (og oh : Nat) (wv : AV), bo d og oh wv = bo c og oh wv := by intro og oh wv; rw [hd]; rfl
  have hdg : GotM eg d := by rw [hd]; exact ⟨hg2.get, hg2.len⟩
  have hdw : d.wait = c.wait := by rw [hd]
  have hdH := Hdq.mk hd; clear hd hheld hh2; refine ej Try.func54 rfl (by decide) ?_
  focus (refine cj ?_; refine cw ?_; refine cw ?_; refine cw ?_; refine nh ?_; (apply ay; · exact fu rfl (by omega)); refine lg ?_; refine uk rfl rfl qe aa ?_; refine il ?_; refine bc ?_; refine bq ?_; refine bl ?_; refine ig ?_)
  generalize eh.put (c.me : Int) (uI c.list.length) = es at *; refine vx 2 1 (.cel []) rfl rfl (fun oL hoL => ?_)
  refine cv (fun mm R' H2 => ∃ (i oL kk : Nat), kk = (fw d i).length /\ (H.set F.oh (es.ao .i64)) oL = none /\ H2 = (H.set F.oh (es.ao .i64)).set oL (.cel ((fw d i).map uI)) /\ R' = [(0, .ptr F.o 0), (2, .vw oL 1 0 kk), (23, mI (c.n : Int)), (24, .raw (.int .i64 (i : Int)))] /\ i + mm = c.n) ?_ ?_
  · exact ⟨c.n, _, _, ba, 0, oL, 0, rfl, hoL, rfl, rfl, by omega⟩
  clear hoL oL; rintro mm R0 H2 ⟨i, oL, kk, rfl, hoL, rfl, rfl, hi⟩; have hk := aoe d i; have hkl : ((fw d i).map uI).length = (fw d i).length * 1 := by rw [List.length_map, Nat.mul_one]
  by_cases hlt : i < c.n
  · have hget := hes.get (i : Int)
    rw [if_pos (by omega), Int.toNat_natCast] at hget
    have hsn := ane d i
    cases hq : d.held i with
    | none =>
      rw [hq, Option.map_none] at hget; rw [hq, Option.toList_none, List.append_nil] at hsn; have v1 : (es.get (i : Int)).getD (.raw (.int .u64 0)) = .raw (.int .u64 0) := by rw [hget]; rfl
      have v2 : (es.get (i : Int)).isSome = false := by rw [hget]; rfl
      focus (refine br ?_; refine ax rfl (fun hc => ?_) (fun hc => ?_); refine ct ?_; refine an ?_; refine dk ?_; refine bl ?_; refine an ?_; refine ro ?_; refine jj ?_; refine dq ?_; refine dk ?_; refine oz ?_; refine j6 ?_; refine dl ?_; rotate_left; exact absurd hc aj)
      all_goals try (exfalso; omega)
      exact ⟨mm - 1, _, _, by omega, ba, i + 1, oL, _, by rw [hsn], hoL, by rw [hsn], rfl, by omega⟩
    | some v =>
      have hv := hdh i v hq; rw [hq, Option.map_some] at hget; rw [hq, Option.toList_some] at hsn; have v1 : (es.get (i : Int)).getD (.raw (.int .u64 0)) = .raw (.int .u64 (v : Int)) := by rw [hget]; rfl
      have v2 : (es.get (i : Int)).isSome = true := by rw [hget]; rfl
      focus (refine br ?_; refine ax rfl (fun hc => ?_) (fun hc => ?_); refine ct ?_; refine an ?_; refine dk ?_; refine bl ?_; refine an ?_; refine ro ?_; refine jj ?_; refine dq ?_; refine dk ?_; refine oz ?_; refine ia ?_; refine ca ?_; refine c9 ?_; refine an ?_; refine kq ?_; refine za2 rfl rfl rfl (by assumption) au dc au au (fun oN hoN => ?_); refine ix ?_; refine bb ?_; refine dl ?_; rotate_left; exact absurd hc aj)
      all_goals try (exfalso; omega)
      exact ⟨mm - 1, _, _, by omega, jt, i + 1, oN, _, by rw [hsn, List.length_append]; rfl, hoN, by rw [hsn, List.map_append]; rfl, rfl, by omega⟩
  obtain rfl : i = c.n := by omega
  have hqd : c.quorum = c.n / 2 + 1 := rfl; have hsl : (Ag.sort (fw d c.n)).length = (fw d c.n).length := (Ag.sort_perm _).length_eq; have hsl2 : ((Ag.sort (fw d c.n)).map uI).length = (fw d c.n).length := by rw [List.length_map, hsl]
  have hgk : ¬ (fw d c.n).length < c.quorum -> (Ag.sort (fw d c.n))[(fw d c.n).length - c.quorum]? = some ((Ag.sort (fw d c.n)).getD ((fw d c.n).length - c.quorum) 0) := fun hn => by
    have hlt2 : (fw d c.n).length - c.quorum < (Ag.sort (fw d c.n)).length := by omega
    rw [List.getElem?_eq_getElem hlt2, List.getD_eq_getElem?_getD, List.getElem?_eq_getElem hlt2]; rfl
  have hbk : ∀ k, ¬ (fw d c.n).length < c.quorum -> (Ag.sort (fw d c.n)).getD ((fw d c.n).length - c.quorum) 0 = k -> (Ag.sort (fw d c.n))[(fw d c.n).length - c.quorum]? = some k := fun k hn e => by rw [hgk hn, e]
  have hST := fun H h => Sort_calls H oL (fw d c.n).length (fw d c.n) h rfl (by omega)
  generalize (Ag.sort (fw d c.n)).getD ((fw d c.n).length - c.quorum) 0 = k at *; have hbk2 := fun hn => hbk k hn rfl
  clear hgk hbk; generalize Ag.sort (fw d c.n) = sl at *; by_cases hlq : (fw d c.n).length < c.quorum
  · rw [hset, if_pos hlq]
    focus (refine br ?_; refine c8 ?_; intro hc; refine bq ?_; refine c9 ?_; refine iz ?_; refine cu ?_; (refine zc ah (hQ _ aa) ?_; rintro r H' ⟨rfl, rfl⟩); refine cm ?_; refine ax rfl (fun hc => ?_) (fun hc => ?_); refine j7 ?_; refine db ?_; rotate_left; exact absurd hc aj)
    all_goals try (exfalso; omega)
    exact ⟨.inl rfl, _, _, _, Ent.refl _ _, ret0 rfl, rfl, ⟨⟨off, xs, by rw [hdc, hdw]; exact aa, aa, by rw [hdw]; exact hx1, by rw [hdw]; exact hx2⟩, ⟨eg, aa, hdg⟩, ⟨es, aa, ⟨hes.get, hes.nd⟩⟩⟩, fun p y hp h1 h2 => aa⟩
  have g := hbk2 hlq; rw [hset, if_neg hlq]
  focus (refine br ?_; refine c8 ?_; intro hc; refine bq ?_; refine c9 ?_; refine iz ?_; refine cu ?_; (refine zc ah (hQ _ aa) ?_; rintro r H' ⟨rfl, rfl⟩); refine cm ?_; refine gh ?_; intro hc; refine az ?_; refine c9 ?_; (refine zc ah (hST _ aa) ?_; rintro r H' ⟨rfl, rfl⟩); refine aq ?_; refine j5 ?_; refine i0 ?_; refine cw ?_; refine sa ?_; refine sa ?_; (apply ay; · exact acm rfl); refine i0 ?_; (apply ay; · exact bw ah (hQ _ aa)); (apply ay; · exact ry rfl rfl (by omega) (by omega)); refine mu ?_; refine oa ?_; refine cw ?_; refine nh ?_; (apply ay; · exact fu rfl (by omega)); (apply ay; · exact ahb rfl rfl); (apply ay; · exact qs rfl (by omega) (by omega)); (apply ay; · exact aa7 rfl rfl); (apply ay; · exact md rfl); (apply ay; · exact kg rfl); refine lg ?_; refine jc ?_)
  have em : max (c.agreed : Int) ((min k c.list.length : Nat) : Int) = ((max c.agreed (min k c.list.length) : Nat) : Int) := by omega
  rw [em]
  have hc5 : ∀ (og oh : Nat) (wv : AV), bo ({ d with agreed := max c.agreed (min k c.list.length) } : Ag.Co) og oh wv = (bo c og oh wv).set 5 (mI ((max c.agreed (min k c.list.length) : Nat) : Int)) := fun og oh wv => by
    rw [hdH.out]; rfl
  exact ⟨.inr rfl, _, _, _, Ent.refl _ _, ret0 rfl, rfl, ⟨⟨off, xs, by rw [hc5]; show _ = some (AO.cel (List.set (bo c F.og F.oh (.vw F.ow 3 off d.wait.length)) _ _)); rw [hdw]; exact aa, aa, by show off + d.wait.length * 3 = _; rw [hdw]; exact hx1, by show _ = d.wait.flatMap En.cells; rw [hdw]; exact hx2⟩, ⟨eg, aa, ⟨hdg.get, hdg.len⟩⟩, ⟨es, aa, ⟨hes.get, hes.nd⟩⟩⟩, fun p y hp h1 h2 => aa⟩
end Go.Proofs.Ytbciofnejefkiaa
namespace Go.Proofs.Ytbciofnejefkiaa
open Go Go.Am Go.Proofs
theorem SAt.core {H : AHeap} {F : Ob} {s : Ag.St} (h : SAt H F s) : ∃ off, H F.o = some (.cel (bo s.c F.og F.oh (.vw F.ow 3 off s.c.wait.length))) /\
    ∀ c' : Ag.Co, c'.got = s.c.got -> c'.n = s.c.n -> c'.me = s.c.me -> c'.held = s.c.held -> c'.wait = s.c.wait ->
      SAt (H.set F.o (.cel (bo c' F.og F.oh (.vw F.ow 3 off s.c.wait.length)))) F { s with c := c' } /\ Turn F.l H F F (H.set F.o (.cel (bo c' F.og F.oh (.vw F.ow 3 off s.c.wait.length)))) := by
  obtain ⟨⟨⟨off, xs, hco, hw, hx1, hx2⟩, ⟨eg, hg, hg2⟩, ⟨eh, hh, hh2⟩⟩, hst, hsv, hsn, nd⟩ := h; refine ⟨off, hco, fun c' e1 e2 e3 e4 e5 => ⟨⟨⟨⟨off, xs, ?_, ?_, ?_, ?_⟩, ⟨eg, ?_, ?_⟩, ⟨eh, ?_, ?_⟩⟩, ?_, ?_, ?_, nd⟩, ⟨rfl, rfl, fun p hp => .inl hp, fun p y hp hF => arl (fun e => hF (by simp [Ob.l, e])) hp⟩⟩⟩
  · show _ = some (AO.cel (bo c' F.og F.oh (.vw F.ow 3 off c'.wait.length))); rw [e5]; exact arn _ _ _
  · exact arl nd.o_ow.symm hw
  · show off + c'.wait.length * 3 = _; rw [e5]; exact hx1
  · show _ = c'.wait.flatMap En.cells; rw [e5]; exact hx2
  · exact arl nd.o_og.symm hg
  · refine ⟨fun k => by rw [hg2.get k, e1], ?_⟩
    rw [hg2.len]; unfold Ag.Co.size; rw [e1, e2]
  · exact arl nd.o_oh.symm hh
  · exact ⟨fun k => by rw [hh2.get k]; show _ = if 0 <= k then (c'.held k.toNat).map uI else none; rw [e4], hh2.nd⟩
  · exact arl nd.o_os.symm hst
  · show _ = some (AO.cel (s.save.map fun x => .bys (recB c'.me c'.n x)))
    rw [e2, e3]; exact arl nd.o_ov.symm hsv
  · exact arl nd.o_on.symm hsn
theorem aje (l : List En) (k : Nat) : (l.flatMap En.cells).drop (k * 3) = (l.drop k).flatMap En.cells := yb (sz := 3) (fun _ => rfl)
theorem LF.drop {l : List En} (h : LF l) (k : Nat) : LF (l.drop k) := ⟨fun e he => h.ok e (List.mem_of_mem_drop he), by have := h.len; rw [List.length_drop]; omega⟩
theorem acs (H : AHeap) (F : Ob) (s : Ag.St) (v : Nat) (l : List En) (h : SAt H F s) (hf : CFine s.c) (hl : s.save.length <= 10000) (hv : v <= Ag.mostView) (hL : LF l) :
    ACalls Try.prog 65 [.ptr F.o 0, .ptr F.os 0, uI v, lsE l] H fun r H' => r = .tup [] /\ ∃ F', SAt H' F' (s.take v l) /\ Turn F.l H F F' H' := by
  obtain ⟨off, hco, _⟩ := h.core; have f3 := hf.list; have f4 := hL.len; have f5 := f3.len; have hv2 : v < 2 ^ 64 := by unfold Ag.mostView at hv; omega
  have hB := fun H => aa4 H l s.c.list (by omega) (by omega) (fun e he => by have := (hL.ok e he).2; omega) (fun e he => by have := (f3.ok e he).2; omega)
  have hS1 := aci H F s 2 v l h hf (by omega) (by decide) hv2 hL
  have hS2 : s.c.list.length < l.length -> ACalls Try.prog 78 [.ptr F.o 0, .ptr F.os 0, uI 3, uI 0, .sls (l.length - s.c.list.length) (List.take ((l.length - s.c.list.length) * 3) (List.drop (s.c.list.length * 3) (l.flatMap En.cells)))] H fun r H' => r = .tup [] /\ ∃ F', SAt H' F' (s.put 3 0 (l.drop s.c.list.length)) /\ Turn F.l H F F' H' := fun hlt => by
    have h1 := aci H F s 3 0 (l.drop s.c.list.length) h hf (by omega) (by decide) (by decide) (hL.drop _)
    have e1 : (l.drop s.c.list.length).length = l.length - s.c.list.length := List.length_drop ..; unfold lsE at h1; rw [e1] at h1; rw [aje, List.take_of_length_le (by rw [i8 (sz := 3) (fun _ => rfl), e1]; exact Nat.le_refl _)]
    exact h1
  unfold bo at hco; have hbl : Ag.begins l s.c.list = true -> s.c.list.length <= l.length := fun h => by simp only [Ag.begins, Bool.and_eq_true, decide_eq_true_eq] at h; exact h.1
  refine ab6 Try.func65 rfl (by decide) ?_
  have hid := Turn.refl F.l H F; by_cases hlv : s.c.last = v
  · cases hbb : Ag.begins l s.c.list with
    | true =>
      have hle := hbl hbb; rw [hbb] at hB; by_cases hlt : s.c.list.length < l.length
      · have hS3 := hS2 hlt
        focus (refine bq ?_; refine bl ?_; refine an ?_; refine fh ?_; refine an ?_; refine zg1 rfl rfl rfl (fun hc => ?_) (fun hc => ?_); refine dt ?_; refine a0 ?_; refine lx ?_; refine j4 ?_; refine eo ?_; (refine zc ah (hB _) ?_; rintro r H' ⟨rfl, rfl⟩); refine bu ?_; refine gy ?_; refine az ?_; refine dt ?_; refine bl ?_; refine eu ?_; refine ae rfl (vz rfl ji ji au au) ?_; refine ae rfl (gq (v := .sls _ _) rfl) ?_; refine il ?_; refine ey ?_; refine dw ?_; refine aq ?_; refine ax rfl (fun hc => ?_) (fun hc => ?_); refine fv ?_; refine cu ?_; refine dt ?_; (refine zc ah (hS3) ?_; rintro r H' ⟨rfl, F2, b1, b2⟩); refine aq ?_; rotate_left; exact absurd hc aj; exact absurd hc aj)
        have ht : s.take v l = { s.put 3 0 (l.drop s.c.list.length) with c := { s.c with last := v, list := l } } := by unfold Ag.St.take; dsimp only; rw [if_pos ⟨hlv, hbb⟩, if_pos hlt]; rfl
        rw [ht]; obtain ⟨off2, q1, q2⟩ := b1.core; obtain ⟨a1, a2⟩ := q2 { s.c with last := v, list := l } rfl rfl rfl rfl rfl
        rw [b2.o] at q1 a1 a2; unfold bo at q1
        focus (refine fv ?_; refine cu ?_; refine an ?_; refine dt ?_; refine iw ?_; refine gv ?_; refine iw ?_; refine iq ?_; refine bb ?_)
        exact ⟨.inr rfl, _, _, _, Ent.refl _ _, ret0 rfl, rfl, F2, a1, b2.trans a2⟩
      · focus (refine bq ?_; refine bl ?_; refine an ?_; refine fh ?_; refine an ?_; refine zg1 rfl rfl rfl (fun hc => ?_) (fun hc => ?_); refine dt ?_; refine a0 ?_; refine lx ?_; refine j4 ?_; refine eo ?_; (refine zc ah (hB _) ?_; rintro r H' ⟨rfl, rfl⟩); refine bu ?_; refine gy ?_; refine az ?_; refine dt ?_; refine bl ?_; refine eu ?_; refine ae rfl (vz rfl ji ji au au) ?_; refine ae rfl (gq (v := .sls _ _) rfl) ?_; refine il ?_; refine ey ?_; refine dw ?_; refine aq ?_; refine gh ?_; intro hc; rotate_left; exact absurd hc aj)
        have ht : s.take v l = { s with c := { s.c with last := v, list := l } } := by unfold Ag.St.take; dsimp only; rw [if_pos ⟨hlv, hbb⟩, if_neg hlt]
        rw [ht]; obtain ⟨off2, q1, q2⟩ := h.core; obtain ⟨a1, a2⟩ := q2 { s.c with last := v, list := l } rfl rfl rfl rfl rfl
        rw [hid.o] at q1 a1 a2; unfold bo at q1
        focus (refine fv ?_; refine cu ?_; refine an ?_; refine dt ?_; refine iw ?_; refine gv ?_; refine iw ?_; refine iq ?_; refine bb ?_)
        exact ⟨.inr rfl, _, _, _, Ent.refl _ _, ret0 rfl, rfl, F, a1, hid.trans a2⟩
    | false =>
      rw [hbb] at hB
      focus (refine bq ?_; refine bl ?_; refine an ?_; refine fh ?_; refine an ?_; refine zg1 rfl rfl rfl (fun hc => ?_) (fun hc => ?_); refine dt ?_; refine a0 ?_; refine lx ?_; refine j4 ?_; refine eo ?_; (refine zc ah (hB _) ?_; rintro r H' ⟨rfl, rfl⟩); refine bu ?_; refine fm ?_; refine fv ?_; refine cu ?_; refine an ?_; refine dt ?_; (refine zc ah (hS1) ?_; rintro r H' ⟨rfl, F2, b1, b2⟩); refine aq ?_; rotate_left; exact absurd hc aj)
      have ht : s.take v l = { s.put 2 v l with c := { s.c with last := v, list := l } } := by unfold Ag.St.take; dsimp only; rw [if_neg (fun x => by rw [hbb] at x; cases x.2)]; rfl
      rw [ht]; obtain ⟨off2, q1, q2⟩ := b1.core; obtain ⟨a1, a2⟩ := q2 { s.c with last := v, list := l } rfl rfl rfl rfl rfl
      rw [b2.o] at q1 a1 a2; unfold bo at q1
      focus (refine fv ?_; refine cu ?_; refine an ?_; refine dt ?_; refine iw ?_; refine gv ?_; refine iw ?_; refine iq ?_; refine bb ?_)
      exact ⟨.inr rfl, _, _, _, Ent.refl _ _, ret0 rfl, rfl, F2, a1, b2.trans a2⟩
  · focus (refine bq ?_; refine bl ?_; refine an ?_; refine fh ?_; refine an ?_; refine zg1 rfl rfl rfl (fun hc => ?_) (fun hc => ?_); exact absurd hc aj; refine dp ?_; refine fb ?_; refine cd ?_; refine fm ?_; refine fv ?_; refine cu ?_; refine an ?_; refine dt ?_; (refine zc ah (hS1) ?_; rintro r H' ⟨rfl, F2, b1, b2⟩); refine aq ?_)
    have ht : s.take v l = { s.put 2 v l with c := { s.c with last := v, list := l } } := by unfold Ag.St.take; dsimp only; rw [if_neg (fun x => hlv x.1)]; rfl
    rw [ht]; obtain ⟨off2, q1, q2⟩ := b1.core; obtain ⟨a1, a2⟩ := q2 { s.c with last := v, list := l } rfl rfl rfl rfl rfl
    rw [b2.o] at q1 a1 a2; unfold bo at q1
    focus (refine fv ?_; refine cu ?_; refine an ?_; refine dt ?_; refine iw ?_; refine gv ?_; refine iw ?_; refine iq ?_; refine bb ?_)
    exact ⟨.inr rfl, _, _, _, Ent.refl _ _, ret0 rfl, rfl, F2, a1, b2.trans a2⟩
end Go.Proofs.Ytbciofnejefkiaa
namespace Go.Proofs.Ytbciofnejefkiaa
open Go Go.Am Go.Proofs
theorem TurnC.refl (H : AHeap) (F : Ob) (nd : NdC F) : TurnC H F F H := ⟨rfl, rfl, rfl, rfl, fun p hp => .inl hp, fun p y hp _ => hp, nd⟩
theorem ams (H : AHeap) (F : Ob) (c : Ag.Co) (e : En) (h : CAt H F c) (nd : NdC F) (hf : CFine c) (hr : e.row.length <= 1000000) :
    ACalls Try.prog 36 [.ptr F.o 0, .agg e.cells] H fun r H' => r = bB (c.wanted e).2 /\ ∃ F', CAt H' F' (c.wanted e).1 /\ TurnC H F F' H' := by
  have h0 := h; have nd0 := nd; obtain ⟨⟨off, xs, hco, hw, hx1, hx2⟩, ⟨eg, hg, hg2⟩, ⟨eh, hh, hh2⟩⟩ := h; obtain ⟨n1, n2, n3, n4, n5, n6⟩ := nd; have f1 := hf.list.len; have f2 := hf.wait.len; have hM := fun H => acu H e (by omega)
  have hHL := fun H => yq H c.list e.id (by omega)
  have hHW := fun H h => aef H F.ow off xs c.wait e.id (by omega) h hx1 hx2
  have hC := fun H => Copy_calls H e hr
  unfold bo at hco; refine gm Try.func36 rfl (by decide) ?_
  cases hm : Ag.may e with
  | false =>
    have hwant : c.wanted e = (c, false) := by unfold Ag.Co.wanted; rw [if_pos (.inl hm)]
    rw [hm] at hM
    focus (refine az ?_; refine zb1 rfl rfl rfl (fun oN hoN => ?_); refine bc ?_; refine bf ?_; refine cj ?_; refine sx ?_; (apply ay; · exact bw ah (hM _)); refine ju ?_; refine bj ?_; refine bx ?_; refine je ?_; refine zt4 rfl rfl ?_; refine da ?_; refine bj ?_; refine bx ?_; refine je ?_; refine zt4 rfl rfl ?_; refine da ?_; refine de ?_; refine ia ?_; refine cp ?_; refine db ?_)
    exact ⟨.inl rfl, _, _, _, Ent.gc (H0 := H) mq, ret1 rfl rfl, by rw [hwant]; rfl, F, by rw [hwant]; exact h0, TurnC.refl H F nd0⟩
  | true =>
    rw [hm] at hM
    cases hli : Ag.hasId c.list e.id with
    | true =>
      have hwant : c.wanted e = (c, false) := by unfold Ag.Co.wanted; rw [if_pos (.inr (.inl hli))]
      rw [hli] at hHL
      focus (refine az ?_; refine zb1 rfl rfl rfl (fun oN hoN => ?_); refine bc ?_; refine bf ?_; refine cj ?_; refine sx ?_; (apply ay; · exact bw ah (hM _)); refine ju ?_; refine eb ?_; refine dd ?_; refine po ?_; (apply ay; · exact bw ah (hHL _)); refine ie ?_; refine bx ?_; refine je ?_; refine zt4 rfl rfl ?_; refine da ?_; refine de ?_; refine ia ?_; refine cp ?_; refine db ?_)
      exact ⟨.inl rfl, _, _, _, Ent.gc (H0 := H) mq, ret1 rfl rfl, by rw [hwant]; rfl, F, by rw [hwant]; exact h0, TurnC.refl H F nd0⟩
    | false =>
      rw [hli] at hHL
      cases hwi : Ag.hasId c.wait e.id with
      | true =>
        have hwant : c.wanted e = (c, false) := by unfold Ag.Co.wanted; rw [if_pos (.inr (.inr hwi))]
        rw [hwi] at hHW
        focus (refine az ?_; refine zb1 rfl rfl rfl (fun oN hoN => ?_); refine bc ?_; refine bf ?_; refine cj ?_; refine sx ?_; (apply ay; · exact bw ah (hM _)); refine ju ?_; refine eb ?_; refine dd ?_; refine po ?_; (apply ay; · exact bw ah (hHL _)); refine qq ?_; refine eb ?_; refine dd ?_; refine po ?_; (apply ay; · exact bw ah (hHW _ aa)); refine jh ?_; refine ia ?_; refine cp ?_; refine db ?_)
        exact ⟨.inl rfl, _, _, _, Ent.gc (H0 := H) mq, ret1 rfl rfl, by rw [hwant]; rfl, F, by rw [hwant]; exact h0, TurnC.refl H F nd0⟩
      | false =>
        rw [hwi] at hHW; by_cases h200 : c.wait.length = 200
        · have hdr : xs.drop (off + 1 * 3) = (c.wait.drop 1).flatMap En.cells := by
            rw [<- List.drop_drop, hx2, aje]
          have hwant : c.wanted e = ({ c with wait := c.wait.drop 1 ++ [e] }, c.lead) := by unfold Ag.Co.wanted; rw [if_neg (by rw [hm, hli, hwi]; simp)]; simp [h200]
          have hlen : (c.wait.drop 1 ++ [e]).length = c.wait.length - 1 + 1 := by rw [List.length_append]; rw [List.length_drop]; rfl
          have hcw : (c.wait.drop 1 ++ [e]).flatMap En.cells = xs.drop (off + 1 * 3) ++ e.cells := by rw [List.flatMap_append, <- hdr]; simp
          rw [hwant]
          focus (refine az ?_; refine zb1 rfl rfl rfl (fun oN hoN => ?_); refine bc ?_; refine bf ?_; refine cj ?_; refine sx ?_; (apply ay; · exact bw ah (hM _)); refine ju ?_; refine eb ?_; refine dd ?_; refine po ?_; (apply ay; · exact bw ah (hHL _)); refine qq ?_; refine eb ?_; refine dd ?_; refine po ?_; (apply ay; · exact bw ah (hHW _ aa)); refine jh ?_; refine mf rfl ?_; refine cy ?_; refine bq ?_; refine bl ?_; refine iz ?_; refine fh ?_; refine aq ?_; refine ax rfl (fun hc => ?_) (fun hc => ?_); refine fv ?_; refine bl ?_; refine ae rfl (xz rfl ji ji au au) ?_; refine iw ?_; refine gv ?_; refine aq ?_; refine bf ?_; refine mw false dz bg bg ?_; refine gz ?_; refine gz ?_; refine jd ?_; (apply j8 bg; (· exact fc rfl aa rfl)); (apply j8 bg; (· exact pw rfl aa rfl rfl (by first | decide | exact Nat.le_of_ble_eq_true rfl))); (apply jl; · (intro H1; exact bw ah (hC _))); refine re ?_; refine lu ?_; refine jd ?_; refine lq ?_; refine mr ?_; refine kz (fun Rx K1 hK1x => ?_); refine zz rfl rfl rfl aa au dc au au (fun oN hoN => ?_); refine bb ?_; (refine hK1x _ _ ?_; clear hK1x K1 Rx); refine lw (fun Rx K1 hK1x => ?_); refine jc ?_; (refine hK1x _ ?_; clear hK1x K1 Rx); refine mi ?_; refine gj ?_; refine az ?_; refine bl ?_; refine bn ?_; rotate_left; exact absurd hc aj)
          all_goals try (exfalso; omega)
          refine ⟨.inl rfl, _, _, _, Ent.refl _ _, ret1 rfl rfl, rfl, { F with ow := oN }, ⟨⟨0, _, ?_, arl ed (arn _ _ _), ?_, ?_⟩, ⟨eg, aa, ⟨hg2.get, hg2.len⟩⟩, ⟨eh, aa, ⟨hh2.get, hh2.nd⟩⟩⟩, ⟨rfl, rfl, rfl, rfl, fun p hp => ?_, fun p y hp hF => ?_, ?_⟩⟩
          · show _ = some (AO.cel (bo c F.og F.oh (.vw oN 3 0 (c.wait.drop 1 ++ [e]).length)))
            rw [hlen]; exact aa
          · show 0 + (c.wait.drop 1 ++ [e]).length * 3 = _
            rw [hlen, List.length_append, List.length_drop]; simp only [List.length_cons, List.length_nil]; omega
          · rw [List.drop_zero]; exact hcw.symm
          · simp only [Ob.c, List.mem_cons, List.not_mem_nil, or_false] at hp ⊢
            rcases hp with h | h | h | h
            · exact .inl (.inl h)
            · exact .inl (.inr (.inl h))
            · exact .inl (.inr (.inr (.inl h)))
            · exact .inr (by rw [h]; exact ka)
          · simp only [Ob.c, List.mem_cons, List.not_mem_nil, or_false, not_or] at hF
            obtain ⟨k1, k2, k3, k4⟩ := hF; exact aa
          · constructor <;> exact ed
        · have hwant : c.wanted e = ({ c with wait := c.wait ++ [e] }, c.lead) := by unfold Ag.Co.wanted; rw [if_neg (by rw [hm, hli, hwi]; simp)]; simp [h200]
          have hlen : (c.wait ++ [e]).length = c.wait.length + 1 := by rw [List.length_append]; rfl
          have hcw : (c.wait ++ [e]).flatMap En.cells = xs.drop (off) ++ e.cells := by rw [List.flatMap_append, <- hx2]; simp
          rw [hwant]
          focus (refine az ?_; refine zb1 rfl rfl rfl (fun oN hoN => ?_); refine bc ?_; refine bf ?_; refine cj ?_; refine sx ?_; (apply ay; · exact bw ah (hM _)); refine ju ?_; refine eb ?_; refine dd ?_; refine po ?_; (apply ay; · exact bw ah (hHL _)); refine qq ?_; refine eb ?_; refine dd ?_; refine po ?_; (apply ay; · exact bw ah (hHW _ aa)); refine jh ?_; refine mf rfl ?_; refine cy ?_; refine bq ?_; refine bl ?_; refine iz ?_; refine fh ?_; refine aq ?_; refine jm ?_; intro hc; refine di ?_; refine ee ?_; refine bf ?_; refine mw false dz bg bg ?_; refine gz ?_; refine gz ?_; refine jd ?_; (apply j8 bg; (· exact fc rfl aa rfl)); (apply j8 bg; (· exact pw rfl aa rfl rfl (by first | decide | exact Nat.le_of_ble_eq_true rfl))); (apply jl; · (intro H1; exact bw ah (hC _))); refine re ?_; refine lu ?_; refine jd ?_; refine lq ?_; refine mr ?_; refine kz (fun Rx K1 hK1x => ?_); refine zz rfl rfl rfl aa au dc au au (fun oN hoN => ?_); refine bb ?_; (refine hK1x _ _ ?_; clear hK1x K1 Rx); refine lw (fun Rx K1 hK1x => ?_); refine jc ?_; (refine hK1x _ ?_; clear hK1x K1 Rx); refine mi ?_; refine gj ?_; refine az ?_; refine bl ?_; refine bn ?_)
          all_goals try (exfalso; omega)
          refine ⟨.inl rfl, _, _, _, Ent.refl _ _, ret1 rfl rfl, rfl, { F with ow := oN }, ⟨⟨0, _, ?_, arl ed (arn _ _ _), ?_, ?_⟩, ⟨eg, aa, ⟨hg2.get, hg2.len⟩⟩, ⟨eh, aa, ⟨hh2.get, hh2.nd⟩⟩⟩, ⟨rfl, rfl, rfl, rfl, fun p hp => ?_, fun p y hp hF => ?_, ?_⟩⟩
          · show _ = some (AO.cel (bo c F.og F.oh (.vw oN 3 0 (c.wait ++ [e]).length)))
            rw [hlen]; exact aa
          · show 0 + (c.wait ++ [e]).length * 3 = _
            rw [hlen, List.length_append, List.length_drop]; simp only [List.length_cons, List.length_nil]; omega
          · rw [List.drop_zero]; exact hcw.symm
          · simp only [Ob.c, List.mem_cons, List.not_mem_nil, or_false] at hp ⊢
            rcases hp with h | h | h | h
            · exact .inl (.inl h)
            · exact .inl (.inr (.inl h))
            · exact .inl (.inr (.inr (.inl h)))
            · exact .inr (by rw [h]; exact ka)
          · simp only [Ob.c, List.mem_cons, List.not_mem_nil, or_false, not_or] at hF
            obtain ⟨k1, k2, k3, k4⟩ := hF; exact aa
          · constructor <;> exact ed
end Go.Proofs.Ytbciofnejefkiaa
namespace Go.Proofs.Ytbciofnejefkiaa
open Go Go.Am Go.Proofs
theorem Clip_calls (H : AHeap) (l : List En) (hl : l.length <= 1000000) : ACalls Try.prog 64 [lsE l] H fun r H' => r = .slsx l.length (l.flatMap En.cells) /\ H' = H := by
  refine ej Try.func64 rfl (by decide) ?_
  focus (refine f0 ?_; refine dt ?_; refine ey ?_; refine ey ?_; refine ae rfl (apk rfl rfl rfl) ?_; refine ae rfl (gq (v := .slsx _ _) rfl) ?_; refine dv ?_)
  exact ⟨.inl rfl, _, _, _, Ent.refl _ _, ret1 rfl rfl, rfl, rfl⟩
theorem aqv {l w : List En} {i : Nat} {e : En} (h : w[i]? = some e) : Ag.grown l (w.take (i + 1)) = if (Ag.grown l (w.take i)).length < 200 /\ Ag.hasId (Ag.grown l (w.take i)) e.id = false then Ag.grown l (w.take i) ++ [e] else Ag.grown l (w.take i) := by
  rw [List.take_add_one, h]; unfold Ag.grown; rw [List.foldl_append]; rfl
theorem aaw {l : List En} (hl : LF l) : ∀ {w : List En}, (∀ e ∈ w, e.Ok /\ e.row.length <= 16) -> LF (Ag.grown l w) /\ l.length <= (Ag.grown l w).length := by
  intro w
  induction w generalizing l with
  | nil => intro _; exact ⟨hl, Nat.le_refl _⟩
  | cons e w ih =>
    intro hw; have hw' : ∀ x ∈ w, x.Ok /\ x.row.length <= 16 := fun x hx => hw x (List.mem_cons_of_mem _ hx)
    unfold Ag.grown; simp only [List.foldl_cons]; split
    · next hc =>
      have h1 : LF (l ++ [e]) := ⟨fun x hx => by
        rcases List.mem_append.1 hx with hx | hx
        · exact hl.ok x hx
        · rw [List.mem_singleton.1 hx]; exact hw e (List.mem_cons_self), by rw [List.length_append, List.length_singleton]; omega⟩
      obtain ⟨h2, h3⟩ := ih h1 hw'; exact ⟨h2, by rw [List.length_append] at h3; exact Nat.le_trans (Nat.le_add_right _ _) h3⟩
    · exact ih hl hw'
theorem Nd.c {F : Ob} (n : Nd F) : NdC F := ⟨n.o_og, n.o_oh, n.o_ow, n.og_oh, n.og_ow, n.oh_ow⟩
theorem sj (c : Ag.Co) : c.settle.me = c.me /\ c.settle.n = c.n := by
  unfold Ag.Co.settle; dsimp only; split <;> exact ⟨rfl, rfl⟩
theorem zp (H : AHeap) (F : Ob) (s : Ag.St) (h : SAt H F s) (hf : CFine s.c) :
    ACalls Try.prog 54 [.ptr F.o 0] H fun r H' => r = .tup [] /\ SAt H' F { s with c := s.c.settle } /\ Turn F.l H F F H' :=
  (akf H F s.c h.c h.nd.c hf).mono fun r H' ⟨h1, h2, h3⟩ => by
    have t : TurnC H F F H' := ⟨rfl, rfl, rfl, rfl, fun p hp => .inl hp, fun p y hp hF => h3 p y hp (fun e => hF (by simp [Ob.c, e])) (fun e => hF (by simp [Ob.c, e])), h.nd.c⟩
    obtain ⟨a, b⟩ := h.turn h2 t (sj s.c).1 (sj s.c).2; exact ⟨h1, a, b⟩
theorem CFine.settle {c : Ag.Co} (h : CFine c) : CFine c.settle := by
  have h200 := h.list.len
  have hh : ∀ q v, Ag.upd c.held c.me (some c.list.length) q = some v -> q < c.n /\ v < 2 ^ 64 := by
    intro q v hq; unfold Ag.upd at hq; split at hq
    · next e => cases hq; exact ⟨by rw [e]; exact h.me, by omega⟩
    · exact h.held q v hq
  unfold Ag.Co.settle; dsimp only; split
  · exact ⟨h.me, h.n, h.view, h.last, h.list, h.agr, h.wait, h.quiet, h.got, hh⟩
  · refine ⟨h.me, h.n, h.view, h.last, h.list, ?_, h.wait, h.quiet, h.got, hh⟩
    have := h.agr; show max c.agreed (min _ c.list.length) <= c.list.length
    omega
theorem CFine.take {c : Ag.Co} (h : CFine c) {v : Nat} (hv : v <= Ag.mostView) {l : List En} (hl : LF l) (ha : c.agreed <= l.length) : CFine { c with last := v, list := l } :=
  ⟨h.me, h.n, h.view, hv, hl, ha, h.wait, h.quiet, h.got, h.held⟩
theorem SAt.unwait {H : AHeap} {F : Ob} {s : Ag.St} (h : SAt H F s) {ow : Nat} (how : H ow = none) : SAt ((H.set F.o (.cel (bo s.c F.og F.oh (.vw ow 3 0 0)))).set ow (.cel [])) { F with ow := ow } { s with c := { s.c with wait := [] } } /\
    Turn F.l H F { F with ow := ow } ((H.set F.o (.cel (bo s.c F.og F.oh (.vw ow 3 0 0)))).set ow (.cel [])) := by
  have h0 := h; obtain ⟨⟨⟨off, xs, hco, hw, hx1, hx2⟩, ⟨eg, hg, hg2⟩, ⟨eh, hh, hh2⟩⟩, hst, hsv, hsn, nd⟩ := h; have n0 := nd; obtain ⟨n1, n2, n3, n4, n5, n6, n7, n8, n9, n10, n11, n12, n13, n14, n15, n16, n17, n18, n19, n20, n21⟩ := nd; have m1 : ow ≠ F.o := by exact ed
  refine ⟨⟨⟨⟨0, [], ?_, ?_, rfl, rfl⟩, ⟨eg, ?_, ⟨hg2.get, hg2.len⟩⟩, ⟨eh, ?_, ⟨hh2.get, hh2.nd⟩⟩⟩, ?_, ?_, ?_, ?_⟩, ⟨rfl, rfl, fun p hp => ?_, fun p y hp hF => ?_⟩⟩
  · exact aa
  · exact aa
  · exact aa
  · exact aa
  · exact aa
  · exact aa
  · exact aa
  · constructor <;> exact ed
  · simp only [Ob.l, List.mem_cons, List.not_mem_nil, or_false] at hp ⊢
    rcases hp with e | e | e | e | e | e | e
    · exact .inl (.inl e)
    · exact .inl (.inr (.inl e))
    · exact .inl (.inr (.inr (.inl e)))
    · exact .inr (by rw [e]; exact how)
    · exact .inl (.inr (.inr (.inr (.inr (.inl e)))))
    · exact .inl (.inr (.inr (.inr (.inr (.inr (.inl e))))))
    · exact .inl (.inr (.inr (.inr (.inr (.inr (.inr e))))))
  · (obtain ⟨f1, f2, f3, f4, f5, f6, f7⟩ := Ob.nel hF; exact aa)
theorem xy (H : AHeap) (F : Ob) (s : Ag.St) (h : SAt H F s) (hf : CFine s.c) (hl : s.save.length <= 9000) (hl2 : s.send.length <= 9000) :
    ACalls Try.prog 37 [.ptr F.o 0, .ptr F.os 0] H fun r H' => r = .tup [] /\ ∃ F', SAt H' F' s.grow /\ Turn F.l H F F' H' := by
  have h0 := h; obtain ⟨⟨⟨off, xs, hco, hw, hx1, hx2⟩, ⟨eg, hg, hg2⟩, ⟨eh, hh, hh2⟩⟩, hst, hsv, hsn, nd⟩ := h; have f1 := hf.list.len; have f2 := hf.wait.len; have f3 := hf.wait.ok; have f4 := hf.list; have hCl := fun H => Clip_calls H s.c.list (by omega)
  unfold bo at hco; refine gm Try.func37 rfl (by decide) ?_
  focus (refine az ?_; refine bl ?_; (refine zc ah (hCl _) ?_; rintro r H' ⟨rfl, rfl⟩); refine ae rfl (gq (v := .slsx _ _) rfl) ?_; refine aq ?_; refine bq ?_; refine bl ?_; refine iz ?_; refine ig ?_)
  clear hCl; generalize hHH : H' = H at *; clear hHH H'; refine cv (fun mm R' H2 => ∃ (i : Nat) (lv : AV), ((lv = .slsx s.c.list.length (s.c.list.flatMap En.cells) /\ Ag.grown s.c.list (s.c.wait.take i) = s.c.list /\ H2 = H) \/ (∃ oL, lv = .vw oL 3 0 (Ag.grown s.c.list (s.c.wait.take i)).length /\ H oL = none /\ H2 = H.set oL (.cel ((Ag.grown s.c.list (s.c.wait.take i)).flatMap En.cells)))) /\ R' = [(0, .ptr F.o 0), (1, .ptr F.os 0), (4, lv), (15, .vw F.ow 3 off s.c.wait.length), (16, .raw (.int .i64 (s.c.wait.length : Int))), (17, .raw (.int .i64 (i : Int)))] /\ i + mm = s.c.wait.length) ?_ ?_
  · exact ⟨s.c.wait.length, _, _, ba, 0, _, .inl ⟨rfl, rfl, rfl⟩, rfl, by omega⟩
  rintro mm R0 H2 ⟨i, lv, hD, rfl, hi⟩; obtain ⟨g1, g2⟩ := aaw f4 (w := s.c.wait.take i) fun e he => f3 e (List.mem_of_mem_take he)
  by_cases hlt : i < s.c.wait.length
  · have hg0 : s.c.wait[i]? = some s.c.wait[i] := List.getElem?_eq_getElem hlt
    have hge : List.take 3 (List.drop (off + i * 3) xs) = (s.c.wait[i]).cells := by rw [<- List.drop_drop, hx2]; exact oc hg0
    have hgs := aqv (l := s.c.list) hg0; generalize s.c.wait[i] = e at *; generalize hgr : Ag.grown s.c.list (s.c.wait.take i) = acc at *; have hal := g1.len; have hac : (acc.flatMap En.cells).length = acc.length * 3 := i8 (sz := 3) (fun _ => rfl) _
    rcases hD with ⟨rfl, rfl, rfl⟩ | ⟨oL, rfl, hoL, rfl⟩
    · have hHs := fun H => yq H s.c.list e.id (by omega)
      focus (refine br ?_; refine ax rfl (fun hc => ?_) (fun hc => ?_); refine ct ?_; refine pk ?_; refine sg ?_; refine cz rfl rfl rfl (fun oN hoN => ?_); refine jx ?_; refine il ?_; refine ae rfl (ce (v := .slsx _ _) rfl) ?_; refine ae rfl (xo rfl) ?_; refine mz ?_; refine an ?_; refine zg1 rfl rfl rfl (fun hc => ?_) (fun hc => ?_); refine ae rfl (ce (v := .slsx _ _) rfl) ?_; refine a0 ?_; refine eo ?_; (refine zc ah (hHs _) ?_; rintro r H' ⟨rfl, rfl⟩); refine a0 ?_; refine ea ?_; refine bu ?_; refine aq ?_; refine qp rfl (fun hc => ?_) (fun hc => ?_); refine ca ?_; refine ae rfl (ce (v := .slsx _ _) rfl) ?_; refine pi ?_; refine kq ?_; refine aoq rfl rfl au rfl dc au au au (fun oN hoN => ?_); refine ix ?_; refine bb ?_; refine dl ?_; rotate_left; refine di ?_; refine dl ?_; rotate_left; refine dp ?_; refine cd ?_; refine fm ?_; refine di ?_; refine dl ?_; rotate_left; exact absurd hc aj)
      all_goals try (exfalso; omega)
      · rw [if_pos ⟨by omega, by simpa using hc⟩] at hgs
        exact ⟨mm - 1, [(0, .ptr F.o 0), (1, .ptr F.os 0), (4, .vw oN 3 0 (s.c.list.length + 1)), (15, .vw F.ow 3 off s.c.wait.length), (16, .raw (.int .i64 (s.c.wait.length : Int))), (17, .raw (.int .i64 ((i + 1 : Nat) : Int)))], H2.set oN (.cel (s.c.list.flatMap En.cells ++ e.cells)), by omega, jt, i + 1, _, .inr ⟨oN, by rw [hgs, List.length_append]; rfl, by exact ka, by rw [hgs, List.flatMap_append]; simp⟩, rfl, by omega⟩
      · rw [if_neg (fun x => by rw [x.2] at hc; cases hc)] at hgs
        exact ⟨mm - 1, [(0, .ptr F.o 0), (1, .ptr F.os 0), (4, .slsx s.c.list.length (s.c.list.flatMap En.cells)), (15, .vw F.ow 3 off s.c.wait.length), (16, .raw (.int .i64 (s.c.wait.length : Int))), (17, .raw (.int .i64 ((i + 1 : Nat) : Int)))], H2, by omega, jt, i + 1, _, .inl ⟨rfl, hgs, rfl⟩, rfl, by omega⟩
      · rw [if_neg (fun x => hc x.1)] at hgs
        exact ⟨mm - 1, [(0, .ptr F.o 0), (1, .ptr F.os 0), (4, .slsx s.c.list.length (s.c.list.flatMap En.cells)), (15, .vw F.ow 3 off s.c.wait.length), (16, .raw (.int .i64 (s.c.wait.length : Int))), (17, .raw (.int .i64 ((i + 1 : Nat) : Int)))], H2, by omega, jt, i + 1, _, .inl ⟨rfl, hgs, rfl⟩, rfl, by omega⟩
    · have hHs := fun H h => aef H oL 0 (acc.flatMap En.cells) acc e.id (by omega) h (by omega) rfl
      focus (refine br ?_; refine ax rfl (fun hc => ?_) (fun hc => ?_); refine ct ?_; refine pk ?_; refine sg ?_; refine cz rfl rfl rfl (fun oN hoN => ?_); refine jx ?_; refine il ?_; refine c9 ?_; refine iz ?_; refine mz ?_; refine an ?_; refine zg1 rfl rfl rfl (fun hc => ?_) (fun hc => ?_); refine c9 ?_; refine a0 ?_; refine eo ?_; (refine zc ah (hHs _ aa) ?_; rintro r H' ⟨rfl, rfl⟩); refine a0 ?_; refine ea ?_; refine bu ?_; refine aq ?_; refine qp rfl (fun hc => ?_) (fun hc => ?_); refine ca ?_; refine c9 ?_; refine pi ?_; refine kq ?_; refine za4 rfl rfl rfl aa mc dc au au (fun oN hoN => ?_); refine ix ?_; refine bb ?_; refine dl ?_; rotate_left; refine di ?_; refine dl ?_; rotate_left; refine dp ?_; refine cd ?_; refine fm ?_; refine di ?_; refine dl ?_; rotate_left; exact absurd hc aj)
      all_goals try (exfalso; omega)
      · rw [if_pos ⟨by omega, by simpa using hc⟩] at hgs
        exact ⟨mm - 1, [(0, .ptr F.o 0), (1, .ptr F.os 0), (4, .vw oN 3 0 (acc.length + 1)), (15, .vw F.ow 3 off s.c.wait.length), (16, .raw (.int .i64 (s.c.wait.length : Int))), (17, .raw (.int .i64 ((i + 1 : Nat) : Int)))], H.set oN (.cel (acc.flatMap En.cells ++ e.cells)), by omega, jt, i + 1, _, .inr ⟨oN, by rw [hgs, List.length_append]; rfl, by exact ka, by rw [hgs, List.flatMap_append]; simp⟩, rfl, by omega⟩
      · rw [if_neg (fun x => by rw [x.2] at hc; cases hc)] at hgs
        exact ⟨mm - 1, [(0, .ptr F.o 0), (1, .ptr F.os 0), (4, .vw oL 3 0 acc.length), (15, .vw F.ow 3 off s.c.wait.length), (16, .raw (.int .i64 (s.c.wait.length : Int))), (17, .raw (.int .i64 ((i + 1 : Nat) : Int)))], H.set oL (.cel (acc.flatMap En.cells)), by omega, jt, i + 1, _, .inr ⟨oL, by rw [hgs], hoL, by rw [hgs]⟩, rfl, by omega⟩
      · rw [if_neg (fun x => hc x.1)] at hgs
        exact ⟨mm - 1, [(0, .ptr F.o 0), (1, .ptr F.os 0), (4, .vw oL 3 0 acc.length), (15, .vw F.ow 3 off s.c.wait.length), (16, .raw (.int .i64 (s.c.wait.length : Int))), (17, .raw (.int .i64 ((i + 1 : Nat) : Int)))], H.set oL (.cel (acc.flatMap En.cells)), by omega, jt, i + 1, _, .inr ⟨oL, by rw [hgs], hoL, by rw [hgs]⟩, rfl, by omega⟩
  obtain rfl : i = s.c.wait.length := by omega
  rw [List.take_length] at *
  focus (refine br ?_; refine c8 ?_; intro hc)
  all_goals try (exfalso; omega)
  generalize hL : Ag.grown s.c.list s.c.wait = L at *; refine dy (R' := [(0, .ptr F.o 0), (1, .ptr F.os 0), (4, lsE L)]) (H' := H) ?_ ?_
  · rcases hD with ⟨rfl, rfl, rfl⟩ | ⟨oL, rfl, hoL, rfl⟩
    · exact (Ent.weakReg 4 (y := lsE s.c.list) rfl (W.slsx rfl)).trans (Ent.sub _ (by (repeat' (first | exact RSub.nil _ | apply RSub.cons)); all_goals rfl))
    · exact (Ent.seal_cel1 4 rfl (i8 (sz := 3) (fun _ => rfl) L) hoL).trans (Ent.sub _ (by (repeat' (first | exact RSub.nil _ | apply RSub.cons)); all_goals rfl))
  clear hD
  focus (refine az ?_; refine ue ?_; refine gv ?_; refine aq ?_)
  refine s8 (o := F.o) 10 3 (arn _ _ _) rfl (fun ow how => ?_)
  have how2 : H ow = none := arm how; obtain ⟨a1, a2⟩ := h0.unwait how2; rw [AHeap.set_set]; have hf1 : CFine ({ s.c with wait := [] } : Ag.Co) := ⟨hf.me, hf.n, hf.view, hf.last, hf.list, hf.agr, ⟨by simp, by simp⟩, hf.quiet, hf.got, hf.held⟩
  refine dy (R' := [(0, .ptr F.o 0), (1, .ptr F.os 0), (4, lsE L)]) (H' := (H.set F.o (.cel (bo s.c F.og F.oh (.vw ow 3 0 0)))).set ow (.cel [])) (Ent.sub _ (by (repeat' (first | exact RSub.nil _ | apply RSub.cons)); all_goals rfl)) ?_
  generalize ((H.set F.o (.cel (bo s.c F.og F.oh (.vw ow 3 0 0)))).set ow (.cel [])) = H1 at *; have a3 := a2.o; have a4 := a2.os; generalize ({ F with ow := ow } : Ob) = F1 at *
  obtain ⟨off1, k1, _⟩ := a1.core; rw [a3] at k1; replace k1 : H1 F.o = some (.cel [mI s.c.me, mI s.c.n, uI s.c.view, uI s.c.last, lsE s.c.list, mI s.c.agreed, bB s.c.lead, mI s.c.quiet, .mp F1.og, .mp F1.oh, .vw F1.ow 3 off1 0]) := k1; clear hco hw hg hh hst hsv hsn hx1 hx2 hg2 hh2 h0 how how2 nd; by_cases hlt2 : s.c.list.length < L.length
  · have hgrow : s.grow = Ag.St.lay { (Ag.St.take { s with c := { s.c with wait := [] } } s.c.view L) with c := (Ag.St.take { s with c := { s.c with wait := [] } } s.c.view L).c.settle } := by unfold Ag.St.grow; dsimp only; rw [hL, if_pos hlt2]
    have hT := acs H1 F1 { s with c := { s.c with wait := [] } } s.c.view L a1 hf1 (by show s.save.length <= _; omega) hf.view g1
    rw [a3, a4] at hT
    focus (refine bq ?_; refine ey ?_; refine bl ?_; refine eu ?_; refine dw ?_; refine aq ?_; refine ax rfl (fun hc => ?_) (fun hc => ?_); refine fv ?_; refine cu ?_; refine bl ?_; refine dt ?_; (refine zc ah (hT) ?_; rintro r H' ⟨rfl, F2, b1, b2⟩); refine aq ?_; rotate_left; exact absurd hc aj)
    have hc2 : (Ag.St.take { s with c := { s.c with wait := [] } } s.c.view L).c = { s.c with wait := [], last := s.c.view, list := L } := Ag.take_c _ _ _
    have hf2 : CFine (Ag.St.take { s with c := { s.c with wait := [] } } s.c.view L).c := by rw [hc2]; exact CFine.take hf1 hf.view g1 (by have := hf.agr; show s.c.agreed <= _; omega)
    have hsd : (Ag.St.take { s with c := { s.c with wait := [] } } s.c.view L).send.length <= 9000 := by rw [Ag.take_send]; exact hl2
    have b4 := a2.trans b2; generalize Ag.St.take { s with c := { s.c with wait := [] } } s.c.view L = t at *
    clear hT; have hS := zp _ F2 (t) b1 hf2; rw [b4.o] at hS
    focus (refine dg ?_; (refine zc ah (hS) ?_; rintro r H' ⟨rfl, c1, c2⟩); refine aq ?_)
    have hLy := adt _ F2 _ c1 (CFine.settle hf2) (by show t.send.length <= _; omega)
    rw [b4.o, b4.os] at hLy; have b3 := b4.trans c2; clear c1 c2 hS
    focus (refine fv ?_; refine cu ?_; (refine zc ah (hLy) ?_; rintro r H' ⟨rfl, F4, d1, d2⟩); refine bb ?_)
    exact ⟨.inr rfl, _, _, _, Ent.refl _ _, ret0 rfl, rfl, F4, by rw [hgrow]; exact d1, b3.trans d2⟩
  · have hgrow : s.grow = Ag.St.lay { s with c := ({ s.c with wait := [] } : Ag.Co).settle } := by unfold Ag.St.grow; dsimp only; rw [hL, if_neg hlt2]
    focus (refine bq ?_; refine ey ?_; refine bl ?_; refine eu ?_; refine dw ?_; refine aq ?_; refine gh ?_; intro hc)
    have hS := zp _ F1 ({ s with c := { s.c with wait := [] } }) a1 hf1
    rw [a2.o] at hS
    focus (refine dg ?_; (refine zc ah (hS) ?_; rintro r H' ⟨rfl, c1, c2⟩); refine aq ?_)
    have hLy := adt _ F1 _ c1 (CFine.settle hf1) (by show s.send.length <= _; omega)
    rw [a2.o, a2.os] at hLy; have b3 := a2.trans c2; clear c1 c2 hS
    focus (refine fv ?_; refine cu ?_; (refine zc ah (hLy) ?_; rintro r H' ⟨rfl, F4, d1, d2⟩); refine bb ?_)
    exact ⟨.inr rfl, _, _, _, Ent.refl _ _, ret0 rfl, rfl, F4, by rw [hgrow]; exact d1, b3.trans d2⟩
end Go.Proofs.Ytbciofnejefkiaa
namespace Go.Proofs.Ytbciofnejefkiaa
open Go Go.Am Go.Proofs
theorem put_len {k : Int} {v : AV} : ∀ (es : MI), (es.put k v).length = if (es.get k).isSome then es.length else es.length + 1
  | [] => by simp [MI.put, MI.get]
  | (a, u) :: es => by
    have ih := put_len (k := k) (v := v) es; unfold MI.put MI.get; by_cases h : a = k
    · rw [if_pos h, if_pos h]; simp
    · rw [if_neg h, if_neg h, List.length_cons, ih, List.length_cons]
      split <;> rfl
theorem aep (f : Nat -> Option Ag.Vt) (q : Nat) (v : Ag.Vt) : ∀ n, (List.range n).countP (fun r => (Ag.upd f q (some v) r).isSome) = (List.range n).countP (fun r => (f r).isSome) + if q < n /\ (f q).isNone then 1 else 0
  | 0 => by simp
  | n + 1 => by
    have ih := aep f q v n; rw [List.range_succ, List.countP_append, List.countP_append, ih]; simp only [List.countP_singleton]; by_cases e : n = q
    · subst e
      rw [if_neg (by omega)]
      cases h : f n <;> simp [Ag.upd, h]
    · have e2 : Ag.upd f q (some v) n = f n := by unfold Ag.upd; rw [if_neg e]
      rw [e2]; by_cases hq : q < n
      · cases h : f q <;> simp [h, hq, show q < n + 1 by omega] <;> omega
      · simp [hq, show ¬ q < n + 1 by omega]
theorem GotM.upd {es : MI} {c d : Ag.Co} (h : GotM es c) (q : Nat) (v : Ag.Vt) (hq : q < c.n) (hn : d.n = c.n) (hd : d.got = Ag.upd c.got q (some v)) : GotM (es.put (q : Int) (voteA v)) d := by
  have hget : es.get (q : Int) = (c.got q).map voteA := by rw [h.get, if_pos (by omega), Int.toNat_natCast]
  refine ⟨fun k => ?_, ?_⟩
  · rw [rz, h.get k, hd]
    unfold Ag.upd; by_cases e : (q : Int) = k
    · subst e; simp
    · rw [if_neg e]
      by_cases k0 : 0 <= k
      · have : ¬ k.toNat = q := fun x => e (by omega)
        simp only [if_pos k0, if_neg this]
      · simp only [if_neg k0]
  · rw [put_len, h.len, hget]
    unfold Ag.Co.size; rw [hd, hn, aep]
    cases hx : c.got q <;> simp [hx, hq]
theorem SAt.regot {H : AHeap} {F : Ob} {s : Ag.St} (h : SAt H F s) {c' : Ag.Co} (es : MI) (hes : GotM es c') (e1 : c' = { s.c with got := c'.got }) : SAt (H.set F.og (es.ao .i64)) F { s with c := c' } /\ Turn F.l H F F (H.set F.og (es.ao .i64)) := by
  obtain ⟨⟨⟨off, xs, hco, hw, hx1, hx2⟩, ⟨eg, hg, hg2⟩, ⟨eh, hh, hh2⟩⟩, hst, hsv, hsn, nd⟩ := h; have n0 := nd; obtain ⟨n1, n2, n3, n4, n5, n6, n7, n8, n9, n10, n11, n12, n13, n14, n15, n16, n17, n18, n19, n20, n21⟩ := nd; rw [e1] at hes ⊢; exact ⟨⟨⟨⟨off, xs, aa, aa, hx1, hx2⟩, ⟨es, aa, hes⟩, ⟨eh, aa, ⟨hh2.get, hh2.nd⟩⟩⟩, aa, aa, aa, n0⟩, ⟨rfl, rfl, fun p hp => .inl hp, fun p y hp hF => arl (fun e => hF (by simp [Ob.l, e])) hp⟩⟩
def bestK (c : Ag.Co) (k : Nat) : Ag.Vt := (List.range k).foldl (Ag.better c) ⟨c.last, c.list⟩
theorem afd (c : Ag.Co) (k : Nat) : bestK c (k + 1) = Ag.better c (bestK c k) k := by
  unfold bestK; rw [List.range_succ, List.foldl_append]; rfl
theorem yc {c : Ag.Co} (h : CFine c) : ∀ k, LF (bestK c k).list /\ (bestK c k).last <= Ag.mostView /\ c.agreed <= (bestK c k).list.length
  | 0 => ⟨h.list, h.last, h.agr⟩
  | k + 1 => by
    obtain ⟨h1, h2, h3⟩ := yc h k; rw [afd]; unfold Ag.better
    cases hg : c.got k with
    | none => exact ⟨h1, h2, h3⟩
    | some x =>
      dsimp only; split
      · next hx =>
        refine ⟨(h.got k x hg).2.2, (h.got k x hg).2.1, ?_⟩; have := hx.2; simp only [Ag.begins, Bool.and_eq_true, decide_eq_true_eq, List.length_take] at this; have := h.agr; omega
      · exact ⟨h1, h2, h3⟩
theorem af4 (s : Ag.St) (v : Nat) (l : List En) : (s.take v l).save.length <= s.save.length + 1 := by
  unfold Ag.St.take Ag.St.put; dsimp only; split
  · split
    · simp
    · simp
  · simp
theorem SAt.leads {H : AHeap} {F : Ob} {s : Ag.St} (h : SAt H F s) : ∃ wv, H F.o = some (.cel (bo s.c F.og F.oh wv)) /\ ∀ om, H om = none ->
    SAt ((H.set om (MI.ao .i64 [])).set F.o (.cel (bo { s.c with lead := true } om F.oh wv))) { F with og := om } { s with c := { s.c with lead := true, got := fun _ => none } } /\
    Turn F.l H F { F with og := om } ((H.set om (MI.ao .i64 [])).set F.o (.cel (bo { s.c with lead := true } om F.oh wv))) := by
  obtain ⟨⟨⟨off, xs, hco, hw, hx1, hx2⟩, ⟨eg, hg, hg2⟩, ⟨eh, hh, hh2⟩⟩, hst, hsv, hsn, nd⟩ := h; refine ⟨_, hco, fun om hom => ?_⟩
  obtain ⟨n1, n2, n3, n4, n5, n6, n7, n8, n9, n10, n11, n12, n13, n14, n15, n16, n17, n18, n19, n20, n21⟩ := nd; have m1 : om ≠ F.o := by exact ed
  refine ⟨⟨⟨⟨off, xs, ?_, ?_, hx1, hx2⟩, ⟨[], ?_, GotM.nil fun _ => rfl⟩, ⟨eh, ?_, ⟨hh2.get, hh2.nd⟩⟩⟩, ?_, ?_, ?_, ?_⟩, ⟨rfl, rfl, fun p hp => ?_, fun p y hp hF => ?_⟩⟩
  · exact aa
  · exact aa
  · exact aa
  · exact aa
  · exact aa
  · exact aa
  · exact aa
  · constructor <;> exact ed
  · simp only [Ob.l, List.mem_cons, List.not_mem_nil, or_false] at hp ⊢
    rcases hp with e | e | e | e | e | e | e
    · exact .inl (.inl e)
    · exact .inr (by rw [e]; exact hom)
    · exact .inl (.inr (.inr (.inl e)))
    · exact .inl (.inr (.inr (.inr (.inl e))))
    · exact .inl (.inr (.inr (.inr (.inr (.inl e)))))
    · exact .inl (.inr (.inr (.inr (.inr (.inr (.inl e))))))
    · exact .inl (.inr (.inr (.inr (.inr (.inr (.inr e))))))
  · (obtain ⟨f1, f2, f3, f4, f5, f6, f7⟩ := Ob.nel hF; exact aa)
theorem ae3 (H : AHeap) (F : Ob) (s : Ag.St) (q : Nat) (v : Ag.Vt) (h : SAt H F s) (hf : CFine s.c) (hl : s.save.length <= 8000) (hl2 : s.send.length <= 8000) (hq : q < s.c.n) (hv : LF v.list) (hv2 : v.last <= Ag.mostView) :
    ACalls Try.prog 53 [.ptr F.o 0, .ptr F.os 0, mI (q : Int), voteA v] H fun r H' => r = .tup [] /\ ∃ F', SAt H' F' (s.count q v) /\ Turn F.l H F F' H' := by
  have h0 := h; obtain ⟨⟨⟨off, xs, hco, hw, hx1, hx2⟩, ⟨eg, hg, hg2⟩, ⟨eh, hh, hh2⟩⟩, hst, hsv, hsn, nd⟩ := h; have d1 := nd.o_og; have f1 := hf.n; have f2 := hf.list.len; have f3 := hf.agr; unfold bo at hco; refine ab6 Try.func53 rfl (by decide) ?_
  cases hlead : s.c.lead with
  | true =>
    have hcount : s.count q v = s := by unfold Ag.St.count; rw [if_pos hlead]
    rw [hlead] at hco; rw [hcount]
    focus (refine az ?_; refine zb1 rfl rfl rfl (fun oN hoN => ?_); refine aq ?_; refine bq ?_; refine bl ?_; refine gy ?_; refine j7 ?_; refine db ?_)
    exact ⟨.inl rfl, _, _, _, Ent.gc (H0 := H) mq, ret0 rfl, rfl, F, h0, Turn.refl _ _ _⟩
  | false =>
    rw [hlead] at hco; have hes := hg2.upd (d := { s.c with got := Ag.upd s.c.got q (some v) }) q v hq rfl rfl
    have hcount : s.count q v = Ag.St.won { s with c := { s.c with got := Ag.upd s.c.got q (some v) } } := by unfold Ag.St.count; rw [if_neg (by rw [hlead]; simp)]
    rw [hcount]
    focus (refine az ?_; refine zb1 rfl rfl rfl (fun oN hoN => ?_); refine aq ?_; refine bq ?_; refine bl ?_; refine fm ?_; refine di ?_; refine ee ?_; refine bf ?_; refine j5 ?_; refine cw ?_; refine bj ?_; refine sx ?_; refine lg ?_; refine uk rfl rfl qe aa ?_; refine aq ?_)
    refine dy (R' := [(0, .ptr F.o 0), (1, .ptr F.os 0)]) (H' := H.set F.og ((eg.put (q : Int) (voteA v)).ao .i64)) (Ent.tog (by (repeat' (first | exact RSub.nil _ | apply RSub.cons)); all_goals rfl) mq) ?_
    obtain ⟨a1, a2⟩ := h0.regot (c' := { s.c with got := Ag.upd s.c.got q (some v) }) _ hes rfl
    have hf1 : CFine ({ s.c with got := Ag.upd s.c.got q (some v) } : Ag.Co) := ⟨hf.me, hf.n, hf.view, hf.last, hf.list, hf.agr, hf.wait, hf.quiet, fun p x hx => by
      have hx' : Ag.upd s.c.got q (some v) p = some x := hx; unfold Ag.upd at hx'; split at hx'
      · next e => cases hx'; exact ⟨by rw [e]; exact hq, hv2, hv⟩
      · exact hf.got p x hx', hf.held⟩
    have hlead1 : ({ s.c with got := Ag.upd s.c.got q (some v) } : Ag.Co).lead = false := hlead
    have hse : ({ s with c := { s.c with got := Ag.upd s.c.got q (some v) } } : Ag.St).send = s.send := rfl
    have hsv1 : ({ s with c := { s.c with got := Ag.upd s.c.got q (some v) } } : Ag.St).save = s.save := rfl
    clear hco hw hx1 hx2 hg hg2 hh hh2 hst hsv hsn hcount h0 hes hf f1 f2 f3 hlead d1 nd; generalize H.set F.og ((eg.put (q : Int) (voteA v)).ao .i64) = H1 at *; generalize hs1 : ({ s with c := { s.c with got := Ag.upd s.c.got q (some v) } } : Ag.St) = s1 at *
    have hc1 : s1.c = { s.c with got := Ag.upd s.c.got q (some v) } := by rw [<- hs1]
    rw [<- hc1] at hf1 hlead1; clear hs1 hc1; have h1 := a1; obtain ⟨⟨⟨off, xs, hco, hw, hx1, hx2⟩, ⟨es, hg, hg2⟩, ⟨eh, hh, hh2⟩⟩, hst, hsv, hsn, nd⟩ := a1; have d1 := nd.o_og; have f1 := hf1.n; have f2 := hf1.list.len; have f3 := hf1.agr; have f4 := hf1.list.ok; have hme := hg2.get (s1.c.me : Int); rw [if_pos (by omega), Int.toNat_natCast] at hme
    have hlen := hg2.len; have hQ := fun H h => aht H F.o s1.c F.og F.oh (.vw F.ow 3 off s1.c.wait.length) h f1
    unfold bo at hco hQ; rw [hlead1] at hco hQ; clear hw hx1 hx2 hh hh2 hst hsv hsn nd
    cases hgm : s1.c.got s1.c.me with
    | none =>
      rw [hgm, Option.map_none] at hme; have hwon : s1.won = s1 := by unfold Ag.St.won; rw [if_pos (.inl (by rw [hgm]; rfl))]
      have v1 : (es.get (s1.c.me : Int)).getD (.raw (.agg #[.int .u64 0, .slice none 0 0])) = .raw (.agg #[.int .u64 0, .slice none 0 0]) := by rw [hme]; rfl
      have v2 : (es.get (s1.c.me : Int)).isSome = false := by rw [hme]; rfl
      rw [hwon]
      focus (refine bf ?_; refine bf ?_; refine DC.aw_drawp (fun H' => H' F.o = some (.cel [mI s1.c.me, mI s1.c.n, uI s1.c.view, uI s1.c.last, lsE s1.c.list, mI s1.c.agreed, bB false, mI s1.c.quiet, .mp F.og, .mp F.oh, .vw F.ow 3 off s1.c.wait.length]) /\ H' F.og = some (es.ao .i64)) (by first | exact ⟨aa, aa⟩) dz bg bg ?_; refine dx ?_; refine im ?_; refine e8 ?_; refine dx ?_; refine im ?_; refine e8 ?_; (apply DC.awn_s; · (intro H1 hPsi; (try dsimp only at hPsi); (try (obtain ⟨hPsi, hPsi2⟩ := hPsi)); exact aew rfl rfl aa (by assumption))); (apply DC.awn_s; · (intros; exact ce (v := .tup _) rfl)); (apply DC.awn_s; · (intros; exact kw rfl rfl)); (apply DC.awn_s; · (intros; exact kw rfl rfl)); refine DC.awn_b ?_; refine DC.awn_b0 ?_; refine qa ?_; refine DC.awn_nil ?_; refine DC.awc_cons (fun Rx K1 hK1x => ?_); refine cz rfl rfl rfl (fun oN hoN => ?_); refine bb ?_; (refine hK1x _ _ (by first | exact Or.inl (by decide +kernel) | (refine Or.inr ?_; (try dsimp only); first | exact ⟨aa, aa⟩)) ?_; clear hK1x K1 Rx); refine DC.awc_cons0 (fun Rx K1 hK1x => ?_); refine jx ?_; refine bb ?_; (refine hK1x _ (by first | exact Or.inl (by decide +kernel) | (refine Or.inr ?_; (try dsimp only); first | exact ⟨aa, aa⟩)) ?_; clear hK1x K1 Rx); refine DC.awc_nil ?_; refine gj ?_; refine gn ?_; refine ea ?_; refine an ?_; refine dp ?_; refine dp ?_; refine bu ?_; refine gy ?_; refine j7 ?_; refine db ?_)
      exact ⟨.inl rfl, _, _, _, Ent.gc (H0 := H1) mq, ret0 rfl, rfl, F, h1, a2⟩
    | some vm =>
      rw [hgm, Option.map_some] at hme; have v1 : (es.get (s1.c.me : Int)).getD (.raw (.agg #[.int .u64 0, .slice none 0 0])) = .agg [uI vm.last, lsE vm.list] := by rw [hme]; rfl
      have v2 : (es.get (s1.c.me : Int)).isSome = true := by rw [hme]; rfl
      by_cases hsz : s1.c.size < s1.c.quorum
      · have hwon : s1.won = s1 := by unfold Ag.St.won; rw [if_pos (.inr hsz)]
        rw [hwon]
        focus (refine bf ?_; refine bf ?_; refine DC.aw_drawp (fun H' => H' F.o = some (.cel [mI s1.c.me, mI s1.c.n, uI s1.c.view, uI s1.c.last, lsE s1.c.list, mI s1.c.agreed, bB false, mI s1.c.quiet, .mp F.og, .mp F.oh, .vw F.ow 3 off s1.c.wait.length]) /\ H' F.og = some (es.ao .i64)) (by first | exact ⟨aa, aa⟩) dz bg bg ?_; refine dx ?_; refine im ?_; refine e8 ?_; refine dx ?_; refine im ?_; refine e8 ?_; (apply DC.awn_s; · (intro H1 hPsi; (try dsimp only at hPsi); (try (obtain ⟨hPsi, hPsi2⟩ := hPsi)); exact xg rfl rfl aa (by first | assumption | rfl) (by first | assumption | rfl))); (apply DC.awn_s; · (intros; exact ce (v := .tup _) rfl)); (apply DC.awn_s; · (intros; exact kw rfl rfl)); (apply DC.awn_s; · (intros; exact kw rfl rfl)); refine DC.awn_b ?_; refine DC.awn_b0 ?_; refine qa ?_; refine DC.awn_nil ?_; refine DC.awc_cons (fun Rx K1 hK1x => ?_); refine cz rfl rfl rfl (fun oN hoN => ?_); refine bb ?_; (refine hK1x _ _ (by first | exact Or.inl (by decide +kernel) | (refine Or.inr ?_; (try dsimp only); first | exact ⟨aa, aa⟩)) ?_; clear hK1x K1 Rx); refine DC.awc_cons0 (fun Rx K1 hK1x => ?_); refine jx ?_; refine bb ?_; (refine hK1x _ (by first | exact Or.inl (by decide +kernel) | (refine Or.inr ?_; (try dsimp only); first | exact ⟨aa, aa⟩)) ?_; clear hK1x K1 Rx); refine DC.awc_nil ?_; refine gj ?_; refine gn ?_; refine ea ?_; refine i9 ?_; refine j4 ?_; refine eo ?_; refine ae rfl (ajs rfl aa) ?_; refine a0 ?_; refine lx ?_; (refine zc ah (hQ _ aa) ?_; rintro r H' ⟨rfl, rfl⟩); refine a0 ?_; refine mz ?_; refine cd ?_; refine aq ?_; refine ax rfl (fun hc => ?_) (fun hc => ?_); refine j7 ?_; refine db ?_; rotate_left; exact absurd hc aj)
        all_goals try (exfalso; omega)
        exact ⟨.inl rfl, _, _, _, Ent.gc (H0 := H1) mq, ret0 rfl, rfl, F, h1, a2⟩
      · focus (refine bf ?_; refine bf ?_; refine DC.aw_drawp (fun H' => H' F.o = some (.cel [mI s1.c.me, mI s1.c.n, uI s1.c.view, uI s1.c.last, lsE s1.c.list, mI s1.c.agreed, bB false, mI s1.c.quiet, .mp F.og, .mp F.oh, .vw F.ow 3 off s1.c.wait.length]) /\ H' F.og = some (es.ao .i64)) (by first | exact ⟨aa, aa⟩) dz bg bg ?_; refine dx ?_; refine im ?_; refine e8 ?_; refine dx ?_; refine im ?_; refine e8 ?_; (apply DC.awn_s; · (intro H1 hPsi; (try dsimp only at hPsi); (try (obtain ⟨hPsi, hPsi2⟩ := hPsi)); exact xg rfl rfl aa (by first | assumption | rfl) (by first | assumption | rfl))); (apply DC.awn_s; · (intros; exact ce (v := .tup _) rfl)); (apply DC.awn_s; · (intros; exact kw rfl rfl)); (apply DC.awn_s; · (intros; exact kw rfl rfl)); refine DC.awn_b ?_; refine DC.awn_b0 ?_; refine qa ?_; refine DC.awn_nil ?_; refine DC.awc_cons (fun Rx K1 hK1x => ?_); refine cz rfl rfl rfl (fun oN hoN => ?_); refine bb ?_; (refine hK1x _ _ (by first | exact Or.inl (by decide +kernel) | (refine Or.inr ?_; (try dsimp only); first | exact ⟨aa, aa⟩)) ?_; clear hK1x K1 Rx); refine DC.awc_cons0 (fun Rx K1 hK1x => ?_); refine jx ?_; refine bb ?_; (refine hK1x _ (by first | exact Or.inl (by decide +kernel) | (refine Or.inr ?_; (try dsimp only); first | exact ⟨aa, aa⟩)) ?_; clear hK1x K1 Rx); refine DC.awc_nil ?_; refine gj ?_; refine gn ?_; refine ea ?_; refine i9 ?_; refine j4 ?_; refine eo ?_; refine ae rfl (ajs rfl aa) ?_; refine a0 ?_; refine lx ?_; (refine zc ah (hQ _ aa) ?_; rintro r H' ⟨rfl, rfl⟩); refine a0 ?_; refine mz ?_; refine cd ?_; refine aq ?_; refine jm ?_; intro hc; refine di ?_; refine ee ?_; refine bf ?_; refine DC.aw_drawp (fun H' => H' F.o = some (.cel [mI s1.c.me, mI s1.c.n, uI s1.c.view, uI s1.c.last, lsE s1.c.list, mI s1.c.agreed, bB false, mI s1.c.quiet, .mp F.og, .mp F.oh, .vw F.ow 3 off s1.c.wait.length]) /\ H' F.og = some (es.ao .i64)) (by first | exact ⟨aa, aa⟩) dz bg bg ?_; refine dx ?_; refine im ?_; refine e8 ?_; refine dx ?_; refine im ?_; refine e8 ?_; refine ac8 ?_; refine DC.awn_b ?_; refine DC.awn_b0 ?_; refine DC.awn_nil ?_; refine DC.awc_cons (fun Rx K1 hK1x => ?_); refine cz rfl rfl rfl (fun oN hoN => ?_); refine bb ?_; (refine hK1x _ _ (by first | exact Or.inl (by decide +kernel) | (refine Or.inr ?_; (try dsimp only); first | exact ⟨aa, aa⟩)) ?_; clear hK1x K1 Rx); refine DC.awc_cons0 (fun Rx K1 hK1x => ?_); refine jx ?_; refine bb ?_; (refine hK1x _ (by first | exact Or.inl (by decide +kernel) | (refine Or.inr ?_; (try dsimp only); first | exact ⟨aa, aa⟩)) ?_; clear hK1x K1 Rx); refine DC.awc_nil ?_; refine gj ?_)
        all_goals try (exfalso; omega)
        have hoB : H1 oN = none := by exact ka
        have hb0 : [uI (bestK s1.c 0).last, lsE (bestK s1.c 0).list] = [uI s1.c.last, lsE s1.c.list] := rfl; refine dy (R' := [(0, .ptr F.o 0), (1, .ptr F.os 0), (10, .ptr oN 0)]) (H' := H1.set oN (.cel [uI s1.c.last, lsE s1.c.list])) (Ent.tog (by (repeat' (first | exact RSub.nil _ | apply RSub.cons)); all_goals rfl) mq) ?_
        rw [<- hb0]; clear hoN hb0; generalize oN = oB at *
        focus (refine bq ?_; refine bl ?_; refine ig ?_)
        refine cv (fun mm R' H2 => ∃ (i : Nat), H2 = H1.set oB (.cel [uI (bestK s1.c i).last, lsE (bestK s1.c i).list]) /\ R' = [(0, .ptr F.o 0), (1, .ptr F.os 0), (10, .ptr oB 0), (61, mI (s1.c.n : Int)), (62, .raw (.int .i64 (i : Int)))] /\ i + mm = s1.c.n) ?_ ?_
        · exact ⟨s1.c.n, _, _, ba, 0, rfl, rfl, by omega⟩
        rintro mm R0 H2 ⟨i, rfl, rfl, hi⟩; obtain ⟨b1, b2, b5⟩ := yc hf1 i; have b3 := b1.len; have b4 := b1.ok; have hsuc := afd s1.c i; generalize hbe : bestK s1.c i = b at *; have hbH := Hdq.mk hbe; clear hbe; clear v1 v2 hQ; by_cases hlt : i < s1.c.n
        · have hgi := hg2.get (i : Int)
          rw [if_pos (by omega), Int.toNat_natCast] at hgi
          cases hgq : s1.c.got i with
          | none =>
            rw [hgq, Option.map_none] at hgi; have hb : Ag.better s1.c b i = b := by unfold Ag.better; rw [hgq]
            rw [hb] at hsuc
            focus (refine br ?_; refine ax rfl (fun hc => ?_) (fun hc => ?_); refine ct ?_; refine an ?_; refine dk ?_; refine bl ?_; refine an ?_; refine ae rfl (aew rfl rfl aa (by assumption)) ?_; refine jj ?_; refine cz rfl rfl rfl (fun oN hoN => ?_); refine jx ?_; refine dk ?_; refine iu ?_; refine ma ?_; refine iu ?_; refine ma ?_; refine dw ?_; refine an ?_; refine zg2 rfl rfl rfl (fun hc => ?_) (fun hc => ?_); exact absurd hc aj; refine eo ?_; refine eo ?_; refine fh ?_; refine a0 ?_; refine an ?_; refine zg1 rfl rfl rfl (fun hc => ?_) (fun hc => ?_); refine eo ?_; refine ae rfl (aq0 rfl) ?_; refine a0 ?_; refine eo ?_; refine eu ?_; refine a0 ?_; refine dw ?_; refine a0 ?_; refine bu ?_; refine cd ?_; refine bc ?_; refine cj ?_; refine bj ?_; refine bj ?_; refine zt4 rfl rfl ?_; refine ie ?_; refine bx ?_; refine bx ?_; refine bx ?_; refine jh ?_; refine j6 ?_; refine dl ?_; rotate_left; refine dp ?_; refine gp ?_; refine a0 ?_; refine cd ?_; refine cd ?_; refine bc ?_; refine cj ?_; refine bj ?_; refine bj ?_; refine zt4 rfl rfl ?_; refine ie ?_; refine bx ?_; refine bx ?_; refine bx ?_; refine jh ?_; refine j6 ?_; refine dl ?_; rotate_left; exact absurd hc aj)
            all_goals try (exfalso; omega)
            all_goals exact ⟨mm - 1, [(0, .ptr F.o 0), (1, .ptr F.os 0), (10, .ptr oB 0), (61, mI (s1.c.n : Int)), (62, .raw (.int .i64 ((i + 1 : Nat) : Int)))], H1.set oB (.cel [uI b.last, lsE b.list]), by omega, jt, i + 1, by rw [hsuc], rfl, by omega⟩
          | some x =>
            rw [hgq, Option.map_some] at hgi; obtain ⟨x1, x2, x3⟩ := hf1.got i x hgq; have x4 := x3.len; have x5 := x3.ok; have v1 : (es.get (i : Int)).getD (.raw (.agg #[.int .u64 0, .slice none 0 0])) = .agg [uI x.last, lsE x.list] := by rw [hgi]; rfl
            have v2 : (es.get (i : Int)).isSome = true := by rw [hgi]; rfl
            have hB : ∀ H, ACalls Try.prog 62 [lsE x.list, .sls (s1.c.agreed - 0) (List.take ((s1.c.agreed - 0) * 3) (List.drop (0 * 3) (s1.c.list.flatMap En.cells)))] H fun r H' => r = bB (Ag.begins x.list (s1.c.list.take s1.c.agreed)) /\ H' = H := fun H => by
              have h1 := aa4 H x.list (s1.c.list.take s1.c.agreed) (by omega) (by rw [List.length_take]; omega) (fun e he => by have := (x5 e he).2; omega) (fun e he => by have := (f4 e (List.mem_of_mem_take he)).2; omega)
              have e2 : (s1.c.list.take s1.c.agreed).length = s1.c.agreed := by rw [List.length_take]; omega
              unfold lsE at h1; rw [e2, <- v8 _ _ f3] at h1; rw [Nat.sub_zero, Nat.zero_mul, List.drop_zero]; exact h1
            have hbet : Ag.better s1.c b i = if (b.last < x.last \/ x.last = b.last /\ b.list.length < x.list.length) /\ Ag.begins x.list (s1.c.list.take s1.c.agreed) = true then x else b := by unfold Ag.better; rw [hgq]
            cases hbg : Ag.begins x.list (s1.c.list.take s1.c.agreed) with
            | false =>
              rw [hbg] at hB hbet; rw [if_neg (fun h => by cases h.2)] at hbet
              rw [hbet] at hsuc
              focus (refine br ?_; refine ax rfl (fun hc => ?_) (fun hc => ?_); refine ct ?_; refine an ?_; refine dk ?_; refine bl ?_; refine an ?_; refine ro ?_; refine jj ?_; refine cz rfl rfl rfl (fun oN hoN => ?_); refine jx ?_; refine dk ?_; refine iu ?_; refine ma ?_; refine iu ?_; refine ma ?_; refine dw ?_; refine an ?_; refine zg2 rfl rfl rfl (fun hc => ?_) (fun hc => ?_); refine dp ?_; refine fb ?_; refine jw ?_; refine jw ?_; refine jw ?_; refine jw ?_; refine jw ?_; refine jw ?_; refine jw ?_; refine fb ?_; refine bu ?_; refine bc ?_; refine cj ?_; refine bj ?_; refine eb ?_; refine bj ?_; refine da ?_; refine bj ?_; refine zt3 rfl rfl rfl ?_; (apply ay; · exact kg rfl); refine zt3 rfl rfl rfl ?_; (apply ay; · exact fc rfl aa rfl); refine zt3 rfl rfl rfl ?_; refine dd ?_; refine dd ?_; refine oq ?_; refine cx ?_; (apply ay; · exact bw ah (hB _)); refine da ?_; refine de ?_; refine j6 ?_; refine dl ?_; rotate_left; refine eo ?_; refine eo ?_; refine fh ?_; refine a0 ?_; refine an ?_; refine zg1 rfl rfl rfl (fun hc => ?_) (fun hc => ?_); refine eo ?_; refine eu ?_; refine a0 ?_; refine eo ?_; refine eu ?_; refine a0 ?_; refine dw ?_; refine a0 ?_; refine bu ?_; refine cd ?_; refine bc ?_; refine cj ?_; refine bj ?_; refine eb ?_; refine bj ?_; refine da ?_; refine bj ?_; refine zt1 rfl rfl rfl (fun hc => ?_) (fun hc => ?_); refine po ?_; refine dd ?_; refine dd ?_; refine oq ?_; refine cx ?_; (apply ay; · exact bw ah (hB _)); refine da ?_; refine de ?_; refine j6 ?_; refine dl ?_; rotate_left; refine bx ?_; refine bx ?_; refine je ?_; refine zt4 rfl rfl ?_; refine jh ?_; refine j6 ?_; refine dl ?_; rotate_left; refine dp ?_; refine gp ?_; refine a0 ?_; refine cd ?_; refine cd ?_; refine bc ?_; refine cj ?_; refine bj ?_; refine eb ?_; refine bj ?_; refine da ?_; refine bj ?_; refine bx ?_; refine bx ?_; refine bx ?_; refine jh ?_; refine j6 ?_; refine dl ?_; rotate_left; exact absurd hc aj)
              all_goals try (exfalso; omega)
              all_goals exact ⟨mm - 1, [(0, .ptr F.o 0), (1, .ptr F.os 0), (10, .ptr oB 0), (61, mI (s1.c.n : Int)), (62, .raw (.int .i64 ((i + 1 : Nat) : Int)))], H1.set oB (.cel [uI b.last, lsE b.list]), by omega, jt, i + 1, by rw [hsuc], rfl, by omega⟩
            | true =>
              rw [hbg] at hB hbet; by_cases hlat : b.last < x.last \/ x.last = b.last /\ b.list.length < x.list.length
              · rw [if_pos ⟨hlat, rfl⟩] at hbet
                rw [hbet] at hsuc
                focus (refine br ?_; refine ax rfl (fun hc => ?_) (fun hc => ?_); refine ct ?_; refine an ?_; refine dk ?_; refine bl ?_; refine an ?_; refine ro ?_; refine jj ?_; refine cz rfl rfl rfl (fun oN hoN => ?_); refine jx ?_; refine dk ?_; refine iu ?_; refine ma ?_; refine iu ?_; refine ma ?_; refine dw ?_; refine an ?_; refine zg2 rfl rfl rfl (fun hc => ?_) (fun hc => ?_); refine dp ?_; refine fb ?_; refine jw ?_; refine jw ?_; refine jw ?_; refine jw ?_; refine jw ?_; refine jw ?_; refine jw ?_; refine fb ?_; refine bu ?_; refine bc ?_; refine cj ?_; refine bj ?_; refine eb ?_; refine bj ?_; refine da ?_; refine bj ?_; refine zt3 rfl rfl rfl ?_; (apply ay; · exact kg rfl); refine zt3 rfl rfl rfl ?_; (apply ay; · exact fc rfl aa rfl); refine zt3 rfl rfl rfl ?_; refine dd ?_; refine dd ?_; refine oq ?_; refine cx ?_; (apply ay; · exact bw ah (hB _)); refine da ?_; refine de ?_; refine ia ?_; refine ca ?_; refine i5 ?_; refine bb ?_; refine dl ?_; rotate_left; refine eo ?_; refine eo ?_; refine fh ?_; refine a0 ?_; refine an ?_; refine zg1 rfl rfl rfl (fun hc => ?_) (fun hc => ?_); refine eo ?_; refine eu ?_; refine a0 ?_; refine eo ?_; refine eu ?_; refine a0 ?_; refine dw ?_; refine a0 ?_; refine bu ?_; refine cd ?_; refine bc ?_; refine cj ?_; refine bj ?_; refine eb ?_; refine bj ?_; refine da ?_; refine bj ?_; refine zt1 rfl rfl rfl (fun hc => ?_) (fun hc => ?_); refine po ?_; refine dd ?_; refine dd ?_; refine oq ?_; refine cx ?_; (apply ay; · exact bw ah (hB _)); refine da ?_; refine de ?_; refine ia ?_; refine ca ?_; refine i5 ?_; refine bb ?_; refine dl ?_; rotate_left; exact absurd hc aj; exact absurd hc aj; exact absurd hc aj)
                all_goals try (exfalso; omega)
                all_goals exact ⟨mm - 1, [(0, .ptr F.o 0), (1, .ptr F.os 0), (10, .ptr oB 0), (61, mI (s1.c.n : Int)), (62, .raw (.int .i64 ((i + 1 : Nat) : Int)))], H1.set oB (.cel [uI x.last, lsE x.list]), by omega, jt, i + 1, by rw [hsuc], rfl, by omega⟩
              · rw [if_neg (fun h => hlat h.1)] at hbet
                rw [hbet] at hsuc
                focus (refine br ?_; refine ax rfl (fun hc => ?_) (fun hc => ?_); refine ct ?_; refine an ?_; refine dk ?_; refine bl ?_; refine an ?_; refine ro ?_; refine jj ?_; refine cz rfl rfl rfl (fun oN hoN => ?_); refine jx ?_; refine dk ?_; refine iu ?_; refine ma ?_; refine iu ?_; refine ma ?_; refine dw ?_; refine an ?_; refine zg2 rfl rfl rfl (fun hc => ?_) (fun hc => ?_); exact absurd hc aj; refine eo ?_; refine eo ?_; refine fh ?_; refine a0 ?_; refine an ?_; refine zg1 rfl rfl rfl (fun hc => ?_) (fun hc => ?_); refine eo ?_; refine eu ?_; refine a0 ?_; refine eo ?_; refine eu ?_; refine a0 ?_; refine dw ?_; refine a0 ?_; refine bu ?_; refine cd ?_; refine bc ?_; refine cj ?_; refine bj ?_; refine eb ?_; refine bj ?_; refine da ?_; refine bj ?_; refine zt1 rfl rfl rfl (fun hc => ?_) (fun hc => ?_); exact absurd hc aj; refine bx ?_; refine bx ?_; refine je ?_; refine zt4 rfl rfl ?_; refine jh ?_; refine j6 ?_; refine dl ?_; rotate_left; refine dp ?_; refine gp ?_; refine a0 ?_; refine cd ?_; refine cd ?_; refine bc ?_; refine cj ?_; refine bj ?_; refine eb ?_; refine bj ?_; refine da ?_; refine bj ?_; refine bx ?_; refine bx ?_; refine bx ?_; refine jh ?_; refine j6 ?_; refine dl ?_; rotate_left; exact absurd hc aj)
                all_goals try (exfalso; omega)
                all_goals exact ⟨mm - 1, [(0, .ptr F.o 0), (1, .ptr F.os 0), (10, .ptr oB 0), (61, mI (s1.c.n : Int)), (62, .raw (.int .i64 ((i + 1 : Nat) : Int)))], H1.set oB (.cel [uI b.last, lsE b.list]), by omega, jt, i + 1, by rw [hsuc], rfl, by omega⟩
        obtain rfl : i = s1.c.n := by omega
        have hcp := fun H => (pg H b.list (by omega) fun e he => by have := (b4 e he).2; omega).seal_cel (i8 (sz := 3) (fun _ => rfl) b.list)
        have hwon : s1.won = Ag.St.grow { (s1.take s1.c.view b.list) with c := { (s1.take s1.c.view b.list).c with lead := true, got := fun _ => none } } := by
          have : s1.c.best = b := hbH.out; unfold Ag.St.won; rw [if_neg (by rw [hgm, not_or]; exact ⟨by simp, hsz⟩), this]
        have hT := acs _ F s1 s1.c.view b.list (h1.set (x := .cel [uI b.last, lsE b.list]) (h1.notin hoB)) hf1 (by rw [hsv1]; omega) hf1.view b1
        have t1 := a2.set1 (x := .cel [uI b.last, lsE b.list]) hoB
        focus (refine br ?_; refine c8 ?_; intro hc; refine cj ?_; refine i0 ?_; refine i0 ?_; refine cw ?_; refine vq ?_; (apply ay; · exact bw ah (hcp _)); refine lg ?_; (refine zc ah (hT) ?_; rintro r H' ⟨rfl, F2, u1, u2⟩); refine aq ?_)
        all_goals try (exfalso; omega)
        have hct : (s1.take s1.c.view b.list).c = { s1.c with last := s1.c.view, list := b.list } := Ag.take_c _ _ _
        have hsd : (s1.take s1.c.view b.list).send.length <= 8000 := by rw [Ag.take_send, hse]; exact hl2
        have hsv2 : (s1.take s1.c.view b.list).save.length <= 8001 := Nat.le_trans (af4 s1 _ _) (by rw [hsv1]; omega)
        have hf2 : CFine (s1.take s1.c.view b.list).c := by rw [hct]; exact CFine.take hf1 hf1.view b1 b5
        have t2 := t1.trans u2; rw [hwon]; generalize s1.take s1.c.view b.list = t at *; obtain ⟨wv, k1, k2⟩ := u1.leads; rw [t2.o] at k1 k2; rw [t2.os] at k2; unfold bo at k1; clear hT
        focus (refine dg ?_; refine cu ?_; refine uc rfl (fun oN hoN => ?_); refine iw ?_; refine gv ?_; refine iw ?_; refine iq ?_; refine aq ?_)
        obtain ⟨w1, w2⟩ := k2 oN hoN; refine dy (R' := [(0, .ptr F.o 0), (1, .ptr F.os 0)]) (H' := (H'.set oN (MI.ao .i64 [])).set F.o (.cel (bo { t.c with lead := true } oN F2.oh wv))) (Ent.sub _ (by (repeat' (first | exact RSub.nil _ | apply RSub.cons)); all_goals rfl)) ?_
        have hG := xy _ _ _ w1 (⟨hf2.me, hf2.n, hf2.view, hf2.last, hf2.list, hf2.agr, hf2.wait, hf2.quiet, fun q x hx => (by cases hx), hf2.held⟩ : CFine ({ t.c with lead := true, got := fun _ => none } : Ag.Co)) (by show t.save.length <= _; omega) (by show t.send.length <= _; omega)
        clear w1 k2
        focus (refine fv ?_; refine cu ?_; (refine zc ah (hG) ?_; rintro r H' ⟨rfl, F4, z1, z2⟩); refine bb ?_)
        exact ⟨.inr rfl, _, _, _, Ent.refl _ _, ret0 rfl, rfl, F4, z1, (t2.trans w2).trans z2⟩
end Go.Proofs.Ytbciofnejefkiaa
namespace Go.Proofs.Ytbciofnejefkiaa
open Go Go.Am Go.Proofs
theorem ab8 (H : AHeap) (F : Ob) (s : Ag.St) (h : SAt H F s) (hf : CFine s.c) (hl : s.save.length <= 8000) (hl2 : s.send.length <= 8000) :
    ACalls Try.prog 44 [.ptr F.o 0, .ptr F.os 0] H fun r H' => r = .tup [] /\ ∃ F', SAt H' F' s.vote /\ Turn F.l H F F' H' := by
  have h0 := h; obtain ⟨⟨⟨off, xs, hco, hw, hx1, hx2⟩, ⟨eg, hg, hg2⟩, ⟨eh, hh, hh2⟩⟩, hst, hsv, hsn, nd⟩ := h; have f1 := hf.n; have f2 := hf.list.len; have f3 := hf.me; have f4 := hf.view; have hm := Nat.mod_lt s.c.view (show 0 < s.c.n by omega)
  unfold Ag.mostView at f4; have hld := fun H h => ace H F.o s.c F.og F.oh (.vw F.ow 3 off s.c.wait.length) s.c.view h (by omega) f1 (by omega)
  have hcp := fun H => (pg H s.c.list (by omega) fun e he => by have := (hf.list.ok e he).2; omega).seal_cel (i8 (sz := 3) (fun _ => rfl) s.c.list)
  unfold bo at hco hld; clear hw hg hh hst hsv hsn hx1 hx2 hg2 hh2 nd; refine gm Try.func44 rfl (by decide) ?_
  by_cases e : s.c.view % s.c.n = s.c.me
  · have hv : s.vote = s.count s.c.me ⟨s.c.last, s.c.list⟩ := by unfold Ag.St.vote; dsimp only; rw [if_pos e]
    have hC := ae3 H F s s.c.me ⟨s.c.last, s.c.list⟩ h0 hf hl hl2 f3 hf.list hf.last; unfold voteA at hC; rw [hv]; generalize s.c.view % s.c.n = to at *
    focus (refine dg ?_; refine bl ?_; (refine zc ah (hld _ aa) ?_; rintro r H' ⟨rfl, rfl⟩); refine bc ?_; refine fq ?_; refine fh ?_; refine aq ?_; refine ax rfl (fun hc => ?_) (fun hc => ?_); refine cj ?_; refine i0 ?_; refine i0 ?_; refine cw ?_; refine cw ?_; refine cw ?_; refine se ?_; refine lg ?_; (refine zc ah (hC) ?_; rintro r H' ⟨rfl, F2, b1, b2⟩); refine dv ?_; refine db ?_; rotate_left; exact absurd hc aj)
    all_goals try (exfalso; omega)
    exact ⟨.inl rfl, _, _, _, Ent.refl _ _, ret0 rfl, rfl, F2, b1, b2⟩
  · have hv : s.vote = s.out { Ag.msg0 3 ((s.c.view % s.c.n : Nat) : Int) with last := s.c.last, ents := s.c.list } := by unfold Ag.St.vote; dsimp only; rw [if_neg e]
    rw [hv]; generalize s.c.view % s.c.n = to at *
    have hS : ACalls Try.prog 40 [.ptr F.o 0, .ptr F.os 0, .agg [mI 3, mI 0, mI (to : Int), uI 0, uI s.c.last, uI 0, uI 0, lsE s.c.list, .raw (.slice none 0 0)]] H fun r H' => r = .tup [] /\ ∃ F2, SAt H' F2 (s.out { Ag.msg0 3 (to : Int) with last := s.c.last, ents := s.c.list }) /\ Turn F.l H F F2 H' := by
      refine (qo H F s { Ag.msg0 3 (to : Int) with last := s.c.last, ents := s.c.list } h0 hf (by omega)).weak (WL.cons (W.of rfl) (WL.cons (W.of rfl) (WL.cons ?_ WL.nil)))
      exact qb (WL.cons (W.of rfl) (WL.cons (W.of rfl) (WL.cons (W.of rfl) (WL.cons (W.of rfl) (WL.cons (W.of rfl) (WL.cons (W.of rfl) (WL.cons (W.of rfl) (WL.cons (W.of rfl) (WL.cons (W.nilb rfl) WL.nil)))))))))
    focus (refine dg ?_; refine bl ?_; (refine zc ah (hld _ aa) ?_; rintro r H' ⟨rfl, rfl⟩); refine bc ?_; refine fq ?_; refine fh ?_; refine aq ?_; refine gh ?_; intro hc; refine j5 ?_; refine i0 ?_; refine i0 ?_; refine bj ?_; refine cw ?_; refine cw ?_; (apply ay; · exact bw ah (hcp _)); refine se ?_; refine lg ?_; (refine zc ah (hS) ?_; rintro r H' ⟨rfl, F2, b1, b2⟩); refine bb ?_)
    all_goals try (exfalso; omega)
    exact ⟨.inr rfl, _, _, _, Ent.refl _ _, ret0 rfl, rfl, F2, b1, b2⟩
theorem ae5 (s : Ag.St) (v : Nat) : (s.promise v).c = ({ s.c with view := v } : Ag.Co).follow /\ (s.promise v).send = s.send /\ (s.promise v).save.length = s.save.length + 1 := by
  unfold Ag.St.promise Ag.St.put; exact ⟨rfl, rfl, by simp⟩
theorem afl (H : AHeap) (F : Ob) (s : Ag.St) (h : SAt H F s) (hf : CFine s.c) (hl : s.save.length <= 7000) (hl2 : s.send.length <= 7000) :
    ACalls Try.prog 35 [.ptr F.o 0, .ptr F.os 0] H fun r H' => r = .tup [] /\ ∃ F', SAt H' F' s.begin /\ Turn F.l H F F' H' := by
  have h0 := h; obtain ⟨⟨⟨off, xs, hco, hw, hx1, hx2⟩, ⟨eg, hg, hg2⟩, ⟨eh, hh, hh2⟩⟩, hst, hsv, hsn, nd⟩ := h; have f1 := hf.n; have f4 := hf.view; unfold bo at hco; clear hw hg hh hst hsv hsn hx1 hx2 hg2 hh2 nd; refine gm Try.func35 rfl (by decide) ?_
  by_cases e : s.c.view < Ag.mostView
  · have hv : s.begin = ((s.promise (s.c.view + 1)).tell (Ag.msg0 2 0)).vote := by unfold Ag.St.begin; rw [if_pos e]
    rw [hv]; obtain ⟨p1, p2, p3⟩ := ae5 s (s.c.view + 1); have hP := ag8 H F s (s.c.view + 1) h0 hf (by omega) (by omega)
    have hf1 : CFine (s.promise (s.c.view + 1)).c := by rw [p1]; exact hf.promise (by unfold Ag.mostView at e; omega)
    unfold Ag.mostView at e; generalize s.promise (s.c.view + 1) = t at *; have hn1 : t.c.n <= 7 := hf1.n
    focus (refine az ?_; refine bl ?_; refine cm ?_; refine ax rfl (fun hc => ?_) (fun hc => ?_); refine dg ?_; refine cu ?_; refine bl ?_; refine ae rfl (un rfl rfl au) ?_; (refine zc ah (hP) ?_; rintro r H' ⟨rfl, F2, b1, b2⟩); refine aq ?_; rotate_left; exact absurd hc aj)
    have hT : ACalls Try.prog 63 [.ptr F.o 0, .ptr F.os 0, .agg [mI 2, mI 0, mI 0, uI 0, uI 0, uI 0, uI 0, .raw (.slice none 0 0), .raw (.slice none 0 0)]] H' fun r H'' => r = .tup [] /\ ∃ F3, SAt H'' F3 (t.tell (Ag.msg0 2 0)) /\ Turn F2.l H' F2 F3 H'' := by
      have h1 := amz H' F2 t (Ag.msg0 2 0) b1 hf1 (by rw [p2]; omega) ⟨by simp [Ag.msg0], by simp [Ag.msg0]⟩
      rw [b2.o, b2.os] at h1; refine h1.weak (WL.cons (W.of rfl) (WL.cons (W.of rfl) (WL.cons ?_ WL.nil))); exact qb (WL.cons (W.of rfl) (WL.cons (W.of rfl) (WL.cons (W.of rfl) (WL.cons (W.of rfl) (WL.cons (W.of rfl) (WL.cons (W.of rfl) (WL.cons (W.of rfl) (WL.cons (W.nils rfl) (WL.cons (W.nilb rfl) WL.nil)))))))))
    clear hP
    focus (refine dg ?_; refine cu ?_; refine jn ?_; (refine zc ah (hT) ?_; rintro r H' ⟨rfl, F3, c1, c2⟩); refine aq ?_)
    obtain ⟨k1, k2, k3⟩ := yw t (Ag.msg0 2 0) t.c.n; have k4 : tellK t (Ag.msg0 2 0) t.c.n = t.tell (Ag.msg0 2 0) := rfl; rw [k4] at k1 k2 k3; have b3 := b2.trans c2; have hV := ab8 _ F3 _ c1 (by rw [k1]; exact hf1) (by rw [k3]; omega) (by rw [p2] at k2; omega)
    rw [b3.o, b3.os] at hV; clear hT
    focus (refine fv ?_; refine cu ?_; (refine zc ah (hV) ?_; rintro r H' ⟨rfl, F4, d1, d2⟩); refine bb ?_)
    exact ⟨.inr rfl, _, _, _, Ent.refl _ _, ret0 rfl, rfl, F4, d1, b3.trans d2⟩
  · have hv : s.begin = s := by unfold Ag.St.begin; rw [if_neg e]
    rw [hv]; unfold Ag.mostView at e
    focus (refine az ?_; refine bl ?_; refine cm ?_; refine jm ?_; intro hc; refine di ?_)
    all_goals try (exfalso; omega)
    exact ⟨.inr rfl, _, _, _, Ent.gc (H0 := H) mq, ret0 rfl, rfl, F, h0, Turn.refl _ _ _⟩
end Go.Proofs.Ytbciofnejefkiaa
namespace Go.Proofs.Ytbciofnejefkiaa
open Go Go.Am Go.Proofs
structure Sm (a b : Nat) (s t : Ag.St) : Prop where
  c : CFine t.c
  me : t.c.me = s.c.me
  n : t.c.n = s.c.n
  sv : t.save.length <= s.save.length + a
  sn : t.send.length <= s.send.length + b
theorem Sm.trans {a b a' b' : Nat} {s t u : Ag.St} (h : Sm a b s t) (k : Sm a' b' t u) : Sm (a + a') (b + b') s u :=
  ⟨k.c, k.me.trans h.me, k.n.trans h.n, by have := h.sv; have := k.sv; omega, by have := h.sn; have := k.sn; omega⟩
theorem Sm.more {a b a' b' : Nat} {s t : Ag.St} (h : Sm a b s t) (h1 : a <= a') (h2 : b <= b') : Sm a' b' s t :=
  ⟨h.c, h.me, h.n, by have := h.sv; omega, by have := h.sn; omega⟩
theorem t8 {s : Ag.St} (h : CFine s.c) (m : Mg) : Sm 0 1 s (s.out m) := by
  obtain ⟨h1, h2, h3⟩ := aa2 s m; exact ⟨by rw [h1]; exact h, by rw [h1], by rw [h1], by rw [h3]; omega, h2⟩
theorem alv {s : Ag.St} (h : CFine s.c) : Sm 0 7 s s.lay := by
  obtain ⟨h1, h2, h3, _⟩ := acz s s.c.n; have e : layK s s.c.n = s.lay := rfl; rw [e] at h1 h2 h3; have := h.n; exact ⟨by rw [h1]; exact h, by rw [h1], by rw [h1], by rw [h3]; omega, by omega⟩
theorem aij {s : Ag.St} (h : CFine s.c) (m : Mg) : Sm 0 7 s (s.tell m) := by
  obtain ⟨h1, h2, h3⟩ := yw s m s.c.n; have e : tellK s m s.c.n = s.tell m := rfl; rw [e] at h1 h2 h3; have := h.n; exact ⟨by rw [h1]; exact h, by rw [h1], by rw [h1], by rw [h3]; omega, by omega⟩
theorem v6 {s : Ag.St} (h : CFine s.c) {v : Nat} (hv : v <= Ag.mostView) {l : List En} (hl : LF l) (ha : s.c.agreed <= l.length) : Sm 1 0 s (s.take v l) := by
  have hc : (s.take v l).c = { s.c with last := v, list := l } := Ag.take_c _ _ _
  exact ⟨by rw [hc]; exact h.take hv hl ha, by rw [hc], by rw [hc], af4 _ _ _, by rw [Ag.take_send]; omega⟩
theorem o9 {s : Ag.St} {c : Ag.Co} (h : CFine c) (h1 : c.me = s.c.me) (h2 : c.n = s.c.n) : Sm 0 0 s { s with c := c } := ⟨h, h1, h2, Nat.le_refl _, Nat.le_refl _⟩
theorem CFine.unwait {c : Ag.Co} (hf : CFine c) : CFine { c with wait := [] } := ⟨hf.me, hf.n, hf.view, hf.last, hf.list, hf.agr, ⟨by simp, by simp⟩, hf.quiet, hf.got, hf.held⟩
theorem CFine.leads {c : Ag.Co} (hf : CFine c) : CFine { c with lead := true, got := fun _ => none } := ⟨hf.me, hf.n, hf.view, hf.last, hf.list, hf.agr, hf.wait, hf.quiet, fun q x hx => (by cases hx), hf.held⟩
theorem v7 {s : Ag.St} (h : CFine s.c) : Sm 1 7 s s.grow := by
  obtain ⟨g1, g2⟩ := aaw h.list h.wait.ok; have h0 : Sm 0 0 s { s with c := { s.c with wait := [] } } := o9 h.unwait rfl rfl
  unfold Ag.St.grow; dsimp only
  have ht : ∀ t : Ag.St, Sm 1 0 s t -> Sm 1 7 s (Ag.St.lay { t with c := t.c.settle }) := fun t k =>
    (k.trans (o9 (s := t) k.c.settle (sj _).1 (sj _).2)).trans (alv (s := { t with c := t.c.settle }) k.c.settle)
  split
  · exact ht _ ((h0.trans (v6 (s := { s with c := { s.c with wait := [] } }) h.unwait h.view g1 (by have := h.agr; show s.c.agreed <= _; omega))))
  · exact ht _ (h0.more (Nat.zero_le _) (Nat.le_refl _))
theorem ap7 {s : Ag.St} (h : CFine s.c) : Sm 2 7 s s.won := by
  unfold Ag.St.won; dsimp only; split
  · exact ⟨h, rfl, rfl, by omega, by omega⟩
  · obtain ⟨b1, b2, b3⟩ := yc h s.c.n
    have hk : Sm 1 0 s (s.take s.c.view s.c.best.list) := v6 h h.view b1 b3; exact (hk.trans (o9 (s := s.take s.c.view s.c.best.list) hk.c.leads rfl rfl)).trans (v7 (s := { s.take s.c.view s.c.best.list with c := { (s.take s.c.view s.c.best.list).c with lead := true, got := fun _ => none } }) hk.c.leads)
theorem CFine.got1 {c : Ag.Co} (hf : CFine c) {q : Nat} {v : Ag.Vt} (hq : q < c.n) (hv : LF v.list) (hv2 : v.last <= Ag.mostView) : CFine { c with got := Ag.upd c.got q (some v) } := ⟨hf.me, hf.n, hf.view, hf.last, hf.list, hf.agr, hf.wait, hf.quiet, fun p x hx => by
      have hx' : Ag.upd c.got q (some v) p = some x := hx; unfold Ag.upd at hx'; split at hx'
      · next e => cases hx'; exact ⟨by rw [e]; exact hq, hv2, hv⟩
      · exact hf.got p x hx', hf.held⟩
theorem agl {s : Ag.St} (h : CFine s.c) {q : Nat} {v : Ag.Vt} (hq : q < s.c.n) (hv : LF v.list) (hv2 : v.last <= Ag.mostView) : Sm 2 7 s (s.count q v) := by
  unfold Ag.St.count; split
  · exact ⟨h, rfl, rfl, by omega, by omega⟩
  · exact (o9 (s := s) (h.got1 hq hv hv2) rfl rfl).trans (ap7 (s := { s with c := { s.c with got := Ag.upd s.c.got q (some v) } }) (h.got1 hq hv hv2)) |>.more (by omega) (by omega)
theorem ab1 {s : Ag.St} (h : CFine s.c) : Sm 2 7 s s.vote := by
  unfold Ag.St.vote; dsimp only; split
  · exact agl h h.me h.list h.last
  · exact (t8 h _).more (by omega) (by omega)
theorem ve {s : Ag.St} (h : CFine s.c) {v : Nat} (hv : v <= Ag.mostView) : Sm 1 0 s (s.promise v) := by
  obtain ⟨p1, p2, p3⟩ := ae5 s v; exact ⟨by rw [p1]; exact h.promise hv, by rw [p1]; rfl, by rw [p1]; rfl, by omega, by rw [p2]; omega⟩
theorem wm {s : Ag.St} (h : CFine s.c) : Sm 3 14 s s.begin := by
  unfold Ag.St.begin; split
  · next hv =>
    have k1 := ve h (v := s.c.view + 1) (by omega)
    have k2 := k1.trans (aij k1.c (Ag.msg0 2 0)); exact (k2.trans (ab1 k2.c)).more (by omega) (by omega)
  · exact ⟨h, rfl, rfl, by omega, by omega⟩
theorem CFine.wanted {c : Ag.Co} (h : CFine c) {e : En} (he : e.Ok) : CFine (c.wanted e).1 /\ (c.wanted e).1.me = c.me /\ (c.wanted e).1.n = c.n := by
  unfold Ag.Co.wanted; split
  · exact ⟨h, rfl, rfl⟩
  · next hc =>
    rw [not_or, not_or] at hc
    have hm : e.row.length <= 16 := by
      have := hc.1; simp only [Ag.may, Bool.and_eq_false_iff, decide_eq_false_iff_not, not_or] at this; omega
    have hL : LF ((if c.wait.length = 200 then c.wait.drop 1 else c.wait) ++ [e]) := by
      have hw := h.wait.len; refine ⟨fun x hx => ?_, ?_⟩
      · rcases List.mem_append.1 hx with hx | hx
        · split at hx
          · exact h.wait.ok x (List.mem_of_mem_drop hx)
          · exact h.wait.ok x hx
        · rw [List.mem_singleton.1 hx]; exact ⟨he, hm⟩
      · rw [List.length_append, List.length_singleton]
        split
        · rw [List.length_drop]; omega
        · omega
    exact ⟨⟨h.me, h.n, h.view, h.last, h.list, h.agr, hL, h.quiet, h.got, h.held⟩, rfl, rfl⟩
theorem aiq {s : Ag.St} (h : CFine s.c) {e : En} (he : e.Ok) : Sm 1 7 s (s.want e) := by
  obtain ⟨h1, h2, h3⟩ := h.wanted he; unfold Ag.St.want; dsimp only; split
  · exact (o9 (s := s) h1 h2 h3).trans (v7 (s := { s with c := (s.c.wanted e).1 }) h1) |>.more (by omega) (by omega)
  · exact (o9 (s := s) h1 h2 h3).more (by omega) (by omega)
theorem agm (H : AHeap) (F : Ob) (s : Ag.St) (e : En) (h : SAt H F s) (hf : CFine s.c) (hr : e.row.length <= 1000000) (he : e.Ok) :
    ACalls Try.prog 36 [.ptr F.o 0, .agg e.cells] H fun r H' => r = bB (s.c.wanted e).2 /\ ∃ F', SAt H' F' { s with c := (s.c.wanted e).1 } /\ Turn F.l H F F' H' :=
  (ams H F s.c e h.c h.nd.c hf hr).mono fun r H' ⟨h1, F', h2, t⟩ => by
    obtain ⟨_, k1, k2⟩ := hf.wanted he; obtain ⟨a, b⟩ := h.turn h2 t k1 k2; exact ⟨h1, F', a, b⟩
end Go.Proofs.Ytbciofnejefkiaa
namespace Go.Proofs.Ytbciofnejefkiaa
open Go Go.Am Go.Proofs
def saveA (s : Ag.St) : AV := .sls s.save.length (s.save.map fun x => .bys (recB s.c.me s.c.n x))
def sendA (s : Ag.St) : AV := .sls s.send.length (s.send.flatMap Mg.cells)
def stepA (s : Ag.St) : AV := .agg [saveA s, sendA s]
structure TurnK (H : AHeap) (F F' : Ob) (H' : AHeap) : Prop where
  o : F'.o = F.o
  new : ∀ p ∈ F'.c, p ∈ F.c \/ H p = none
  fr : ∀ p y, H p = some y -> p ∉ F.c -> H' p = some y
  nd : NdC F'
structure Bgn (H : AHeap) (F : Ob) (oR : Nat) (H1 : AHeap) (F1 : Ob) : Prop where
  o : F1.o = F.o
  c : F1.c = F.c
  os : H F1.os = none
  ov : H F1.ov = none
  on : H F1.on = none
  R : H oR = none
  nR : oR ∉ F1.l
  fr : ∀ p y, H p = some y -> H1 p = some y
theorem SAt.start {H : AHeap} {F : Ob} {c : Ag.Co} (h : CAt H F c) (nd : NdC F) {H1 : AHeap} {os ov on oR : Nat} (hs : H os = none) (hv : H ov = none) (hn : H on = none) (hR : H oR = none) (n1 : os ≠ ov) (n2 : os ≠ on) (n3 : ov ≠ on) (m1 : oR ≠ os) (m2 : oR ≠ ov) (m3 : oR ≠ on)
    (e1 : H1 os = some (.cel [.vw ov 1 0 0, .vw on 9 0 0])) (e2 : H1 ov = some (.cel [])) (e3 : H1 on = some (.cel [])) (fr : ∀ p y, H p = some y -> H1 p = some y) :
    SAt H1 { F with os := os, ov := ov, on := on } ⟨c, [], []⟩ /\ Bgn H F oR H1 { F with os := os, ov := ov, on := on } := by
  have hne : ∀ {p q : Nat} {y : AO}, H p = some y -> H q = none -> p ≠ q := fun a b e => by rw [e, b] at a; cases a
  obtain ⟨⟨off, xs, hco, hw, hx1, hx2⟩, ⟨eg, hg, hg2⟩, ⟨eh, hh, hh2⟩⟩ := h; obtain ⟨k1, k2, k3, k4, k5, k6⟩ := nd; refine ⟨⟨⟨⟨off, xs, fr _ _ hco, fr _ _ hw, hx1, hx2⟩, ⟨eg, fr _ _ hg, hg2⟩, ⟨eh, fr _ _ hh, hh2⟩⟩, e1, e2, e3, ⟨k1, k2, k3, hne hco hs, hne hco hv, hne hco hn, k4, k5, hne hg hs, hne hg hv, hne hg hn, k6, hne hh hs, hne hh hv, hne hh hn, hne hw hs, hne hw hv, hne hw hn, n1, n2, n3⟩⟩, ⟨rfl, rfl, hs, hv, hn, hR, ?_, fr⟩⟩; simp only [Ob.l, List.mem_cons, List.not_mem_nil, or_false, not_or]; exact ⟨(hne hco hR).symm, (hne hg hR).symm, (hne hh hR).symm, (hne hw hR).symm, m1, m2, m3⟩
theorem sc (l : List Mg) : (l.flatMap Mg.cells).length = l.length * 9 := i8 (sz := 9) (fun _ => rfl) l
theorem Bgn.keep {H H1 H2 : AHeap} {F F1 F2 : Ob} {oR : Nat} (b : Bgn H F oR H1 F1) (t : Turn F1.l H1 F1 F2 H2) {z : AO} (hz : H1 oR = some z) : H2 oR = some z /\ oR ∉ F2.l := t.keep hz b.nR
theorem Bgn.done {H H1 H2 : AHeap} {F F1 F2 : Ob} {oR : Nat} {s : Ag.St} (b : Bgn H F oR H1 F1) (t : Turn F1.l H1 F1 F2 H2) (h : SAt H2 F2 s) {z : AO} (hz : H1 oR = some z) :
    ∃ H3, (∀ R, Ent R H2 R H3) /\ H3 F1.os = some (.cel [saveA s, sendA s]) /\ H3 oR = some z /\ oR ≠ F1.os /\ CAt (H3.erase oR) F2 s.c /\ TurnK H F F2 (H3.erase oR) := by
  obtain ⟨hz2, hR2⟩ := b.keep t hz; obtain ⟨⟨⟨off, xs, hco, hw, hx1, hx2⟩, ⟨eg, hg, hg2⟩, ⟨eh, hh, hh2⟩⟩, hst, hsv, hsn, nd⟩ := h; obtain ⟨n1, n2, n3, n4, n5, n6, n7, n8, n9, n10, n11, n12, n13, n14, n15, n16, n17, n18, n19, n20, n21⟩ := nd; obtain ⟨r1, r2, r3, r4, r5, r6, r7⟩ := Ob.nel hR2
  have hE : ∀ R, Ent R H2 R ((((H2.erase F2.ov).set F2.os (.cel [saveA s, .vw F2.on 9 0 s.send.length])).erase F2.on).set F2.os (.cel [saveA s, sendA s])) := fun R =>
    (Ent.seal_cellC (p := F2.os) (o := F2.ov) (k := 0) (sz := 1) n19 hst hsv rfl (by simp)).trans (Ent.seal_cellC (p := F2.os) (o := F2.on) (k := 1) (sz := 9) n20 (arn _ _ _) (arl n20.symm (arq n21.symm hsn)) rfl (sc s.send))
  have hK : ∀ p y, H2 p = some y -> p ≠ F2.os -> p ≠ F2.ov -> p ≠ F2.on -> ((((H2.erase F2.ov).set F2.os (.cel [saveA s, .vw F2.on 9 0 s.send.length])).erase F2.on).set F2.os (.cel [saveA s, sendA s])) p = some y := fun p y hp a1 a2 a3 =>
    arl a1 (arq a3 (arl a1 (arq a2 hp)))
  have hU : ((((H2.erase F2.ov).set F2.os (.cel [saveA s, .vw F2.on 9 0 s.send.length])).erase F2.on).set F2.os (.cel [saveA s, sendA s])) F2.os = some (.cel [saveA s, sendA s]) := arn _ _ _; generalize ((((H2.erase F2.ov).set F2.os (.cel [saveA s, .vw F2.on 9 0 s.send.length])).erase F2.on).set F2.os (.cel [saveA s, sendA s])) = H3 at *; refine ⟨H3, hE, t.os ▸ hU, hK _ _ hz2 r5 r6 r7, t.os ▸ r5, ⟨⟨off, xs, arq r1.symm (hK _ _ hco n4 n5 n6), arq r4.symm (hK _ _ hw n16 n17 n18), hx1, hx2⟩, ⟨eg, arq r2.symm (hK _ _ hg n9 n10 n11), hg2⟩, ⟨eh, arq r3.symm (hK _ _ hh n13 n14 n15), hh2⟩⟩, ⟨t.o.trans b.o, fun p hp => ?_, fun p y hp hF => ?_, ⟨n1, n2, n3, n7, n8, n12⟩⟩⟩
  · have hl : p ∈ F1.l \/ H1 p = none := t.new p (Ob.cl hp)
    rcases hl with hl | hl
    · have : p ∈ F1.c \/ p = F1.os \/ p = F1.ov \/ p = F1.on := by
        simp only [Ob.l, Ob.c, List.mem_cons, List.not_mem_nil, or_false] at hl ⊢; rcases hl with e | e | e | e | e | e | e <;> simp [e]
      rcases this with e | e | e | e
      · exact .inl (b.c ▸ e)
      · exact .inr (e ▸ b.os)
      · exact .inr (e ▸ b.ov)
      · exact .inr (e ▸ b.on)
    · right
      cases e : H p with
      | none => rfl
      | some y => rw [b.fr _ _ e] at hl; cases hl
  · have hne : ∀ {q : Nat}, H q = none -> p ≠ q := fun b e => by rw [e, b] at hp; cases hp
    have hF1 : p ∉ F1.l := by
      intro hl
      have : p ∈ F1.c \/ p = F1.os \/ p = F1.ov \/ p = F1.on := by
        simp only [Ob.l, Ob.c, List.mem_cons, List.not_mem_nil, or_false] at hl ⊢; rcases hl with e | e | e | e | e | e | e <;> simp [e]
      rcases this with e | e | e | e
      · exact hF (b.c ▸ e)
      · exact hne b.os e
      · exact hne b.ov e
      · exact hne b.on e
    have hp1 := b.fr _ _ hp; obtain ⟨hp2, hF2⟩ := t.keep hp1 hF1; obtain ⟨_, _, _, _, a1, a2, a3⟩ := Ob.nel hF2; exact arq (hne b.R) (hK _ _ hp2 a1 a2 a3)
theorem acf {P : Program} {n : Nat} {K : Exit -> Regs -> AHeap -> Prop} {R : Regs} {H : AHeap} {code : Code} {F : Ob} {c : Ag.Co} (h : CAt H F c) (nd : NdC F) {oR oS : Nat} {z : AO} (hR : H oR = none) (hS : (H.set oR z) oS = none)
    (hk : ∀ H1 F1, SAt H1 F1 ⟨c, [], []⟩ -> Bgn H F oR H1 F1 -> F1.os = oS -> H1 oR = some z -> AW P n code K R H1) : AW P n code K R ((H.set oR z).set oS (.cel (AV.raw (.agg #[.slice none 0 0, .slice none 0 0])).parts)) := by
  refine s8 (o := oS) 0 1 (arn _ _ _) rfl (fun oV hoV => ?_)
  have v1 : oV ≠ oS := arp hoV; have v2 : (H.set oR z) oV = none := arm hoV; have v3 : oV ≠ oR := arp v2; have v4 : H oV = none := arm v2; have s1 : oS ≠ oR := arp hS; have s2 : H oS = none := arm hS; refine s8 (o := oS) (xs := [.vw oV 1 0 0, .raw (.slice none 0 0)]) 1 9 (arl v1.symm (arn _ _ _)) rfl (fun oW hoW => ?_)
  have w1 : oW ≠ oV := arp hoW; have w2 := arm hoW; have w3 : oW ≠ oS := arp w2; have w4 : (H.set oR z) oW = none := arm (arm w2); have w5 : oW ≠ oR := arp w4; have w6 : H oW = none := arm w4; have e1 : ∀ H0 : AHeap, ((((H0.set oV (.cel [])).set oS (.cel [AV.vw oV 1 0 0, AV.vw oW 9 0 0])).set oW (.cel [])) : AHeap) oS = some (.cel [.vw oV 1 0 0, .vw oW 9 0 0]) := fun _ => arl w3.symm (arn _ _ _)
  obtain ⟨a, b⟩ := SAt.start h nd (oR := oR) s2 v4 w6 hR v1.symm w3.symm w1.symm s1.symm v3.symm w5.symm (e1 _) (arl w1.symm (arl v1 (arn _ _ _))) (arn _ _ _) (H1 := (((((H.set oR z).set oS (.cel (AV.raw (.agg #[.slice none 0 0, .slice none 0 0])).parts)).set oS (.cel ((AV.raw (.agg #[.slice none 0 0, .slice none 0 0])).parts.set 0 (.vw oV 1 0 0)))).set oV (.cel [])).set oS (.cel [AV.vw oV 1 0 0, AV.vw oW 9 0 0])).set oW (.cel [])) (fun p y hp => by
    have hne : ∀ {q : Nat}, H q = none -> p ≠ q := fun b e => by rw [e, b] at hp; cases hp
    exact arl (hne w6) (arl (hne s2) (arl (hne v4) (arl (hne s2) (arl (hne s2) (arl (hne hR) hp))))))
  exact hk _ _ a b rfl (arl w5.symm (arl s1.symm (arl v3.symm (arl s1.symm (arl s1.symm (arn _ _ _))))))
theorem j0 {H : AHeap} {o : Nat} {x : AO} : ∀ p y, (H.erase o) p = some y -> p ≠ o /\ (H.set o x) p = some y := fun p y hp => by
  by_cases e : p = o
  · rw [e] at hp; simp [AHeap.erase] at hp
  · simp only [AHeap.erase, if_neg e] at hp; exact ⟨e, arl e hp⟩
theorem aih {H : AHeap} {o : Nat} {x : AO} (h : H o = none) : ∀ p y, H p = some y -> p ≠ o /\ (H.set o x) p = some y := fun p y hp => by
  have e : p ≠ o := fun e => by rw [e, h] at hp; cases hp
  exact ⟨e, arl e hp⟩
end Go.Proofs.Ytbciofnejefkiaa
