import Derived.Test.YtmgkhfnhaeplgaaIz
import Derived.Test.YtmgkhfnhaeplgaaIa4
namespace Go.Proofs.Ytmgkhfnhaeplgaa
open Go Go.Am Go.Proofs
set_option linter.unusedSimpArgs false
set_option linter.unusedVariables false
set_option maxRecDepth 20000
set_option maxHeartbeats 8000000

/-! The program: Check. -/
def checkQ (p : Bs → Bool) (n : Nd) : List Eqn → Option Nat
  | [] => none
  | q :: r => match wrongE p q.e with
    | some a => some a
    | none => if p q.name && toldB n q.name then some q.at_ else checkQ p n r
def checkN : List Nd → Option Nat
  | [] => none
  | n :: r => match checkQ (hasB (lateNames n)) n n.eqs with
    | some a => some a
    | none => checkN r
theorem checkQ_at (p : Bs → Bool) (n : Nd) {l : List Eqn} {i : Nat} {x : Eqn} (h : l[i]? = some x) : checkQ p n (l.drop i) = match wrongE p x.e with | some a => some a | none => if p x.name && toldB n x.name then some x.at_ else checkQ p n (l.drop (i + 1)) := by
  have hlt := (List.getElem?_eq_some_iff.1 h).1
  rw [List.drop_eq_getElem_cons hlt, (List.getElem?_eq_some_iff.1 h).2, checkQ]
theorem checkN_at {l : List Nd} {i : Nat} {x : Nd} (h : l[i]? = some x) : checkN (l.drop i) = match checkQ (hasB (lateNames x)) x x.eqs with | some a => some a | none => checkN (l.drop (i + 1)) := by
  have hlt := (List.getElem?_eq_some_iff.1 h).1
  rw [List.drop_eq_getElem_cons hlt, (List.getElem?_eq_some_iff.1 h).2, checkN]
def faultA (x : Option Nat) : AV := match x with | some a => .agg [avI 11, avI a] | none => .agg [avI 0, avI 0]
theorem Check_calls (H : AHeap) (l : List Nd) (hl : l.length ≤ 2000000) (hok : ∀ n ∈ l, NdOk n) : ACalls Try.prog 13 [ndsA l] H fun r H' => r = faultA (checkN l) ∧ H' = H := by
  have hvl := nd_len l
  generalize hZ : checkN l = Z
  replace hZ := Hdn.mk hZ
  refine acalls_of_aw1 Try.func13 rfl (by decide) ?_
  (first | focus (refine yy3 ?_; refine awl_alloc rfl rfl rfl (fun oN hoN => ?_); refine yy42 ?_; refine yy46 ?_; refine yy120 ?_; refine yy9 ?_; refine yy149 ?_; rotate_left) | fail)
  obtain ⟨oR, hoRe⟩ : ∃ x, x = oN := ⟨_, rfl⟩
  subst hoRe
  have hR0 : H oR = none := hoN
  refine aw_loop (fun mm R1 H1 => ∃ (i : Nat), i ≤ l.length ∧ Hdn (checkN (l.drop i) = Z) ∧ H1 = H.set oR (.cel [avI 0, avI 0]) ∧ R1 = [(2, .ptr oR 0), (10, ndsA l), (11, avI l.length), (12, avI i)] ∧ l.length - i = mm) ?_ ?_
  · exact ⟨_, _, _, Ent.sub _ (by (repeat' (first | exact RSub.nil _ | apply RSub.cons)); all_goals rfl), 0, Nat.zero_le _, hZ, rfl, rfl, rfl⟩
  clear hZ hoN
  rintro mm R1 H1 ⟨i, hi, hZ, rfl, rfl, rfl⟩
  by_cases hlt : i < l.length
  · have hg : l[i]? = some l[i] := List.getElem?_eq_getElem hlt
    have hn := hok _ (List.getElem_mem hlt)
    rw [checkN_at hg] at hZ
    generalize l[i] = n at *
    have hseg : List.take 6 (List.drop (i * 6) (ndL l)) = [.str n.name, .sls n.ins.length (vrL n.ins), .sls n.outs.length (vrL n.outs), .sls n.locs.length (vrL n.locs), .sls n.eqs.length (eqL n.eqs), avI n.at_] := nd_get hg
    clear hg
    have heq := eq_len n.eqs
    have hbq := hn.q
    have cl := fun H => lates_calls H n hn
    have ct := fun H s => told_calls H n s hn
    generalize lateNames n = nm at *
    generalize hZ4 : checkQ (hasB nm) n n.eqs = Zq at *
    replace hZ4 := Hdn.mk hZ4
    (first | focus (refine yy95 ?_; refine aw_condp rfl (fun hc => ?_) (fun hc => ?_); refine yy10 ?_; refine yy3 ?_; refine yy75 ?_; refine yy64 ?_; refine awl_alloc rfl rfl rfl (fun oN hoN => ?_); refine yy12 ?_; refine yy31 ?_; refine yy28 ?_; (refine zc auto_wl (cl _) ?_; rintro r H' ⟨om, rfl, hom, rfl⟩); refine awl_s rfl (s_assign (v := .mp _) rfl) ?_; refine yy4 ?_; refine yy13 ?_; refine yy120 ?_; refine yy9 ?_; refine yy149 ?_; rotate_left; exact absurd hc auto_no) | fail)
    obtain ⟨oX, hoXe⟩ : ∃ x, x = oN := ⟨_, rfl⟩
    subst hoXe
    have hX0 : H oX = none := by (first | assumption | exact AHeap.none_of_set ((by assumption)) | exact AHeap.none_of_set (AHeap.none_of_set ((by assumption))) | exact AHeap.none_of_set (AHeap.none_of_set (AHeap.none_of_set ((by assumption)))) | exact AHeap.none_of_set (AHeap.none_of_set (AHeap.none_of_set (AHeap.none_of_set ((by assumption))))) | exact AHeap.none_of_set (AHeap.none_of_set (AHeap.none_of_set (AHeap.none_of_set (AHeap.none_of_set ((by assumption)))))) | exact AHeap.none_of_set (AHeap.none_of_set (AHeap.none_of_set (AHeap.none_of_set (AHeap.none_of_set (AHeap.none_of_set ((by assumption))))))) | exact AHeap.none_of_set (AHeap.none_of_set (AHeap.none_of_set (AHeap.none_of_set (AHeap.none_of_set (AHeap.none_of_set (AHeap.none_of_set ((by assumption)))))))) | exact AHeap.none_of_set (AHeap.none_of_set (AHeap.none_of_set (AHeap.none_of_set (AHeap.none_of_set (AHeap.none_of_set (AHeap.none_of_set (AHeap.none_of_set ((by assumption))))))))) | exact AHeap.none_of_set (AHeap.none_of_set (AHeap.none_of_set (AHeap.none_of_set (AHeap.none_of_set (AHeap.none_of_set (AHeap.none_of_set (AHeap.none_of_set (AHeap.none_of_set ((by assumption)))))))))) | exact AHeap.none_of_set (AHeap.none_of_set (AHeap.none_of_set (AHeap.none_of_set (AHeap.none_of_set (AHeap.none_of_set (AHeap.none_of_set (AHeap.none_of_set (AHeap.none_of_set (AHeap.none_of_set ((by assumption))))))))))))
    have hXR : oX ≠ oR := by (first | assumption | exact Ne.symm (by assumption) | exact AHeap.ne_of_fresh (by assumption) | exact Ne.symm (AHeap.ne_of_fresh (by assumption)) | exact AHeap.ne_of_fresh (AHeap.none_of_set (by assumption)) | exact Ne.symm (AHeap.ne_of_fresh (AHeap.none_of_set (by assumption))) | exact AHeap.ne_ns (by assumption) (by assumption) | exact AHeap.ne_sn (by assumption) (by assumption) | exact AHeap.ne_ns (by assumption) auto_heap2 | exact AHeap.ne_sn (by assumption) auto_heap2)
    have hM0 : H om = none := by (first | assumption | exact AHeap.none_of_set ((by assumption)) | exact AHeap.none_of_set (AHeap.none_of_set ((by assumption))) | exact AHeap.none_of_set (AHeap.none_of_set (AHeap.none_of_set ((by assumption)))) | exact AHeap.none_of_set (AHeap.none_of_set (AHeap.none_of_set (AHeap.none_of_set ((by assumption))))) | exact AHeap.none_of_set (AHeap.none_of_set (AHeap.none_of_set (AHeap.none_of_set (AHeap.none_of_set ((by assumption)))))) | exact AHeap.none_of_set (AHeap.none_of_set (AHeap.none_of_set (AHeap.none_of_set (AHeap.none_of_set (AHeap.none_of_set ((by assumption))))))) | exact AHeap.none_of_set (AHeap.none_of_set (AHeap.none_of_set (AHeap.none_of_set (AHeap.none_of_set (AHeap.none_of_set (AHeap.none_of_set ((by assumption)))))))) | exact AHeap.none_of_set (AHeap.none_of_set (AHeap.none_of_set (AHeap.none_of_set (AHeap.none_of_set (AHeap.none_of_set (AHeap.none_of_set (AHeap.none_of_set ((by assumption))))))))) | exact AHeap.none_of_set (AHeap.none_of_set (AHeap.none_of_set (AHeap.none_of_set (AHeap.none_of_set (AHeap.none_of_set (AHeap.none_of_set (AHeap.none_of_set (AHeap.none_of_set ((by assumption)))))))))) | exact AHeap.none_of_set (AHeap.none_of_set (AHeap.none_of_set (AHeap.none_of_set (AHeap.none_of_set (AHeap.none_of_set (AHeap.none_of_set (AHeap.none_of_set (AHeap.none_of_set (AHeap.none_of_set ((by assumption))))))))))))
    have hMR : om ≠ oR := by (first | assumption | exact Ne.symm (by assumption) | exact AHeap.ne_of_fresh (by assumption) | exact Ne.symm (AHeap.ne_of_fresh (by assumption)) | exact AHeap.ne_of_fresh (AHeap.none_of_set (by assumption)) | exact Ne.symm (AHeap.ne_of_fresh (AHeap.none_of_set (by assumption))) | exact AHeap.ne_ns (by assumption) (by assumption) | exact AHeap.ne_sn (by assumption) (by assumption) | exact AHeap.ne_ns (by assumption) auto_heap2 | exact AHeap.ne_sn (by assumption) auto_heap2)
    have hMX : om ≠ oX := by (first | assumption | exact Ne.symm (by assumption) | exact AHeap.ne_of_fresh (by assumption) | exact Ne.symm (AHeap.ne_of_fresh (by assumption)) | exact AHeap.ne_of_fresh (AHeap.none_of_set (by assumption)) | exact Ne.symm (AHeap.ne_of_fresh (AHeap.none_of_set (by assumption))) | exact AHeap.ne_ns (by assumption) (by assumption) | exact AHeap.ne_sn (by assumption) (by assumption) | exact AHeap.ne_ns (by assumption) auto_heap2 | exact AHeap.ne_sn (by assumption) auto_heap2)
    refine aw_loop (fun mm R2 H2 => ∃ (k : Nat), k ≤ n.eqs.length ∧ Hdn (checkQ (hasB nm) n (n.eqs.drop k) = Zq) ∧ H2 oR = some (.cel [avI 0, avI 0]) ∧ H2 oX = some (.cel [.str n.name, .sls n.ins.length (vrL n.ins), .sls n.outs.length (vrL n.outs), .sls n.locs.length (vrL n.locs), .sls n.eqs.length (eqL n.eqs), avI n.at_]) ∧ H2 om = some (setA nm).ao ∧ (∀ p y, H p = some y → H2 p = some y) ∧ R2 = [(2, .ptr oR 0), (4, .ptr oX 0), (5, .mp om), (10, ndsA l), (11, avI l.length), (12, avI i), (19, .sls n.eqs.length (eqL n.eqs)), (20, avI n.eqs.length), (21, avI k)] ∧ n.eqs.length - k = mm) ?_ ?_
    · exact ⟨_, _, _, Ent.sub _ (by (repeat' (first | exact RSub.nil _ | apply RSub.cons)); all_goals rfl), 0, Nat.zero_le _, hZ4, by exact auto_heap, by exact auto_heap, by exact auto_heap, fun p y hp => by
        have hp3 : p ≠ oR := fun e => by rw [e, hR0] at hp; cases hp
        have hp4 : p ≠ oX := fun e => by rw [e, hX0] at hp; cases hp
        have hp5 : p ≠ om := fun e => by rw [e, hM0] at hp; cases hp
        exact auto_heap, rfl, rfl⟩
    clear hZ4 hoN hom hseg cl
    rintro mm R2 H2 ⟨k, hk, hZ4, q1, q2, q3, hfr, rfl, rfl⟩
    by_cases hkt : k < n.eqs.length
    · have hg : n.eqs[k]? = some n.eqs[k] := List.getElem?_eq_getElem hkt
      have hbx := hn.e _ (List.getElem_mem hkt)
      rw [checkQ_at (hasB nm) n hg] at hZ4
      generalize n.eqs[k] = x at *
      have hsq : List.take 7 (List.drop (k * 7) (eqL n.eqs)) = [.str x.name, .str x.e.op, .str x.e.name, avI x.e.n, avI x.e.at_, .sls x.e.kids.length (exL x.e.kids), avI x.at_] := eq_get hg
      clear hg
      have hsg := setA_get nm x.name
      have cw := fun H h => wrong_calls (om := om) nm _ x.e H (Nat.le_refl _) hbx h
      have ct := fun H => ct H x.name
      unfold wrongA at cw
      simp only [exA, Ex.cells] at cw
      generalize hasB nm x.name = b1 at *
      generalize toldB n x.name = b2 at *
      generalize wrongE (hasB nm) x.e = wk at *
      cases wk with
      | some a =>
        simp only [Option.getD_some, Option.isSome_some] at hZ4 cw
        obtain rfl : Zq = some a := hZ4.out.symm
        obtain rfl : Z = some a := hZ.out.symm
        (first | focus (refine yy95 ?_; refine aw_condp rfl (fun hc => ?_) (fun hc => ?_); refine yy10 ?_; refine yy3 ?_; refine yy75 ?_; refine yy64 ?_; refine awl_alloc rfl rfl rfl (fun oN hoN => ?_); refine yy12 ?_; refine yy42 ?_; refine yy96 ?_; refine yy105 ?_; refine yy28 ?_; (refine zc auto_wl (cw _ auto_heap) ?_; rintro r H' ⟨rfl, rfl⟩); refine yy79 ?_; refine yy23 ?_; refine yy5 ?_; refine yy15 ?_; refine yy89 ?_; refine yy15 ?_; refine yy26 ?_; refine yy38 ?_; refine yy90 ?_; refine k_seq_ret ?_; refine k_block_ret ?_; refine yy128 ?_; refine yy90 ?_; rotate_left; exact absurd hc auto_no) | fail)
        exact ⟨.inl rfl, _, _, _, Ent.cellRet 2 [avI 11, avI a] rfl auto_heap (by ((repeat' (first | exact WC.nil | apply WC.cons)); all_goals (first | exact W.of rfl | exact W.int rfl | exact W.nilb rfl | exact W.empb rfl | exact W.bysx rfl | exact W.nils rfl | exact W.emps rfl | exact W.slsx rfl))) (fun sp sy shp => by
            have hp2 := hfr sp sy shp
            have hp3 : sp ≠ oR := fun e => by rw [e, hR0] at shp; cases shp
            have hp5 : H2 sp ≠ none := fun e => by rw [hp2] at e; cases e
            have hp7 : sp ≠ oN := fun e => hp5 (by rw [e]; exact hoN)
            exact ⟨hp3, auto_heap⟩), ret_1 rfl (rv1_agg (m := 2) rfl rfl rfl (by decide)), rfl, rfl⟩
      | none =>
        simp only [Option.getD_none, Option.isSome_none] at hZ4 cw
        cases b1
        · simp only [Bool.false_and, Bool.false_eq_true, if_false] at hZ4
          (first | focus (refine yy95 ?_; refine aw_condp rfl (fun hc => ?_) (fun hc => ?_); refine yy10 ?_; refine yy3 ?_; refine yy75 ?_; refine yy64 ?_; refine awl_alloc rfl rfl rfl (fun oN hoN => ?_); refine yy12 ?_; refine yy42 ?_; refine yy96 ?_; refine yy105 ?_; refine yy28 ?_; (refine zc auto_wl (cw _ auto_heap) ?_; rintro r H' ⟨rfl, rfl⟩); refine yy79 ?_; refine yy23 ?_; refine yy5 ?_; refine yy15 ?_; refine yy32 ?_; refine yy3 ?_; refine yy96 ?_; refine yy18 ?_; refine yy147 ?_; refine yy9 ?_; refine yy54 ?_; refine yy45 ?_; refine yy82 ?_; refine yy66 ?_; refine yy36 ?_; refine yy114 ?_; refine yy9 ?_; refine yy4 ?_; rotate_left; exact absurd hc auto_no) | fail)
          exact ⟨n.eqs.length - (k + 1), _, _, by omega, Ent.tog (by (repeat' (first | exact RSub.nil _ | apply RSub.cons)); all_goals rfl) auto_sub, k + 1, by omega, hZ4, q1, q2, q3, hfr, rfl, rfl⟩
        · cases b2
          · simp only [Bool.and_false, Bool.false_eq_true, if_false] at hZ4
            (first | focus (refine yy95 ?_; refine aw_condp rfl (fun hc => ?_) (fun hc => ?_); refine yy10 ?_; refine yy3 ?_; refine yy75 ?_; refine yy64 ?_; refine awl_alloc rfl rfl rfl (fun oN hoN => ?_); refine yy12 ?_; refine yy42 ?_; refine yy96 ?_; refine yy105 ?_; refine yy28 ?_; (refine zc auto_wl (cw _ auto_heap) ?_; rintro r H' ⟨rfl, rfl⟩); refine yy79 ?_; refine yy23 ?_; refine yy5 ?_; refine yy15 ?_; refine yy32 ?_; refine yy3 ?_; refine yy96 ?_; refine yy18 ?_; refine yy147 ?_; refine yy17 ?_; refine yy28 ?_; refine yy6 ?_; refine yy88 ?_; (refine zc auto_wl (ct _) ?_; rintro r H' ⟨rfl, rfl⟩); refine yy52 ?_; refine yy82 ?_; refine yy66 ?_; refine yy36 ?_; refine yy114 ?_; refine yy9 ?_; refine yy4 ?_; rotate_left; exact absurd hc auto_no) | fail)
            exact ⟨n.eqs.length - (k + 1), _, _, by omega, Ent.tog (by (repeat' (first | exact RSub.nil _ | apply RSub.cons)); all_goals rfl) auto_sub, k + 1, by omega, hZ4, q1, q2, q3, hfr, rfl, rfl⟩
          · simp only [Bool.and_self, if_true] at hZ4
            obtain rfl : Zq = some x.at_ := hZ4.out.symm
            obtain rfl : Z = some x.at_ := hZ.out.symm
            (first | focus (refine yy95 ?_; refine aw_condp rfl (fun hc => ?_) (fun hc => ?_); refine yy10 ?_; refine yy3 ?_; refine yy75 ?_; refine yy64 ?_; refine awl_alloc rfl rfl rfl (fun oN hoN => ?_); refine yy12 ?_; refine yy42 ?_; refine yy96 ?_; refine yy105 ?_; refine yy28 ?_; (refine zc auto_wl (cw _ auto_heap) ?_; rintro r H' ⟨rfl, rfl⟩); refine yy79 ?_; refine yy23 ?_; refine yy5 ?_; refine yy15 ?_; refine yy32 ?_; refine yy3 ?_; refine yy96 ?_; refine yy18 ?_; refine yy147 ?_; refine yy17 ?_; refine yy28 ?_; refine yy6 ?_; refine yy88 ?_; (refine zc auto_wl (ct _) ?_; rintro r H' ⟨rfl, rfl⟩); refine yy108 ?_; refine yy13 ?_; refine yy26 ?_; refine yy38 ?_; refine yy128 ?_; refine k_seq_ret ?_; refine k_block_ret ?_; refine yy128 ?_; refine yy90 ?_; rotate_left; exact absurd hc auto_no) | fail)
            exact ⟨.inl rfl, _, _, _, Ent.cellRet 2 [avI 11, avI x.at_] rfl auto_heap (by ((repeat' (first | exact WC.nil | apply WC.cons)); all_goals (first | exact W.of rfl | exact W.int rfl | exact W.nilb rfl | exact W.empb rfl | exact W.bysx rfl | exact W.nils rfl | exact W.emps rfl | exact W.slsx rfl))) (fun sp sy shp => by
            have hp2 := hfr sp sy shp
            have hp3 : sp ≠ oR := fun e => by rw [e, hR0] at shp; cases shp
            have hp5 : H2 sp ≠ none := fun e => by rw [hp2] at e; cases e
            have hp7 : sp ≠ oN := fun e => hp5 (by rw [e]; exact hoN)
            exact ⟨hp3, auto_heap⟩), ret_1 rfl (rv1_agg (m := 2) rfl rfl rfl (by decide)), rfl, rfl⟩
    · obtain rfl : k = n.eqs.length := by omega
      obtain rfl : Zq = none := by rw [← hZ4.out, List.drop_length, checkQ]
      clear hZ4
      (first | focus (refine yy95 ?_; refine yy77 ?_; intro hc; refine yy146 ?_; refine yy151 ?_; refine yy66 ?_; refine yy36 ?_; refine yy114 ?_; refine yy9 ?_; refine yy4 ?_; rotate_left) | fail)
      exact ⟨l.length - (i + 1), _, H.set oR (.cel [avI 0, avI 0]), by omega, Ent.tog (by (repeat' (first | exact RSub.nil _ | apply RSub.cons)); all_goals rfl) (Sub.set q1 (fun p y hpo hp => hfr p y hp)), i + 1, by omega, hZ, rfl, rfl, rfl⟩
  · obtain rfl : i = l.length := by omega
    obtain rfl : Z = none := by rw [← hZ.out, List.drop_length, checkN]
    clear hZ
    (first | focus (refine yy95 ?_; refine yy19 ?_; intro hc; refine yy3 ?_; refine yy26 ?_; refine yy12 ?_; refine yy113 ?_; rotate_left) | fail)
    exact ⟨.inl rfl, _, _, _, Ent.cellRet 2 [avI 0, avI 0] rfl auto_heap (by ((repeat' (first | exact WC.nil | apply WC.cons)); all_goals (first | exact W.of rfl | exact W.int rfl | exact W.nilb rfl | exact W.empb rfl | exact W.bysx rfl | exact W.nils rfl | exact W.emps rfl | exact W.slsx rfl))) auto_hs, ret_1 rfl (rv1_agg (m := 2) rfl rfl rfl (by decide)), rfl, rfl⟩
end Go.Proofs.Ytmgkhfnhaeplgaa

namespace Go.Proofs.Ytmgkhfnhaeplgaa
open Go
set_option linter.unusedSimpArgs false
set_option linter.unusedVariables false
set_option maxRecDepth 20000

/-! The parser's trees are small, and each operation has its kids. Plain. -/
mutual
def arE : Ex → Prop
  | .mk op _ _ _ ks => arOf op ≤ ks.length ∧ arL ks
def arL : List Ex → Prop
  | [] => True
  | e :: r => arE e ∧ arL r
end
theorem arL_app : ∀ {l m : List Ex}, arL l → arL m → arL (l ++ m)
  | [], m, _, h => h
  | e :: l, m, h, k => by
    rw [arL] at h
    rw [List.cons_append, arL]
    exact ⟨h.1, arL_app h.2 k⟩
theorem exSzL_app : ∀ l m : List Ex, exSzL (l ++ m) = exSzL l + exSzL m
  | [], m => by rw [exSzL, List.nil_append, Nat.zero_add]
  | e :: l, m => by rw [List.cons_append, exSzL, exSzL, exSzL_app l m, Nat.add_assoc]
theorem arE_leaf {op nm : Bs} {n : Int} {a : Nat} (h : arOf op = 0) : arE (.mk op nm n a []) := by
  rw [arE]; exact ⟨by rw [h]; exact Nat.zero_le _, by rw [arL]; trivial⟩
theorem arE_0 : arE Ex0 := arE_leaf rfl
theorem exSz_leaf (op nm : Bs) (n : Int) (a : Nat) : exSz (.mk op nm n a []) = 1 := by rw [exSz, exSzL]
section
variable {ws : List Wd}
theorem Tr.ok {S T : Ps} (h : Tr ws S T) (e : T.err = 0) : S.err = 0 := Decidable.byContradiction fun c => h.e c e
theorem want_ok {S : Ps} {s : Bs} (h : (S.want ws s).err = 0) : (S.want ws s).k = S.k + 1 ∧ S.err = 0 := by
  unfold Ps.want at *
  split at h
  · rename_i hs; rw [if_pos hs]; exact ⟨rfl, (is_kind hs).1⟩
  · exact absurd h (fail_err (by decide))
theorem name_ok {S : Ps} (h : (S.name ws).2.err = 0) : (S.name ws).2.k = S.k + 1 := by
  unfold Ps.name at *
  split at h
  · exact absurd h (fail_err (by decide))
  · rename_i hs; rw [if_neg hs]; rfl
theorem zpart_k (S : Ps) : (S.part ws).k = S.k := by
  unfold Ps.part Ps.fail; split <;> simp
  split <;> rfl
theorem part_is {S : Ps} {s : Bs} (hs : S.is ws s = true) (h : (S.part ws).err = 0) : (S.part ws).is ws s = true := by
  have hk := is_kind hs
  unfold Ps.is at *
  unfold Ps.w at *
  rw [zpart_k, h]
  rw [hk.1] at hs
  exact hs
theorem ztake_k {S : Ps} {s : Bs} (hs : S.is ws s = true) : (S.take ws s).2.k = S.k + 1 ∧ (S.take ws s).2.err = S.err := by
  unfold Ps.take; rw [if_pos hs]; exact ⟨rfl, rfl⟩
theorem ztake_t {S : Ps} {s : Bs} (h : (S.take ws s).1 = true) : (S.take ws s).2.k = S.k + 1 := by
  unfold Ps.take at *
  split at h
  · rename_i hs; rw [if_pos hs]; rfl
  · cases h
/-- What a reader's tree is. -/
def Sz (S : Ps) (r : Ex × Ps) : Prop := arE r.1 ∧ (r.2.err = 0 → exSz r.1 + 4 * S.k ≤ 4 * r.2.k + 1)
def GoodS (ws : List Wd) (d : Nat) (f : Ps → Ex × Ps) : Prop := ∀ S, S.k < ws.length → S.d = d → Sz S (f S)
theorem sz_deep {S : Ps} {f : Ps → Ex × Ps} {d : Nat} (hf : d < 30 → GoodS ws (d + 1) f) (h : S.k < ws.length) (hd : S.d = d) : Sz S (deep ws f S) := by
  unfold deep Ps.inn
  by_cases he : S.err ≠ 0
  · simp only [if_pos he]; exact ⟨arE_0, fun h => absurd h he⟩
  · simp only [if_neg he]
    by_cases h30 : 30 ≤ S.d
    · simp only [if_pos h30]; exact ⟨arE_0, fun h => absurd h (fail_err (by decide))⟩
    · simp only [if_neg h30, if_true]
      have := hf (by omega) { S with d := S.d + 1 } h (by rw [← hd])
      exact ⟨this.1, fun e => this.2 e⟩
structure SzLv (ws : List Wd) (d : Nat) (nx : Lv) : Prop where
  arrow : GoodS ws d nx.arrow
  fby : GoodS ws d nx.fby
  un : GoodS ws d nx.un
  prim : GoodS ws d nx.prim
theorem sz_args {expr : Ps → Ex × Ps} {d : Nat} (hw : WsOk ws) (he : Good ws d expr) (hs : GoodS ws d expr) : ∀ (m : Nat) (acc : List Ex) (S : Ps), S.k < ws.length → S.d = d → arL acc →
    arL (argsF ws expr m acc S).1 ∧ ((argsF ws expr m acc S).2.err = 0 → exSzL (argsF ws expr m acc S).1 + 4 * S.k ≤ 4 * (argsF ws expr m acc S).2.k + 1 + exSzL acc)
  | 0, acc, S, h, hd, ha => ⟨ha, fun _ => by show exSzL acc + 4 * S.k ≤ 4 * S.k + 1 + exSzL acc; omega⟩
  | m + 1, acc, S, h, hd, ha => by
    unfold argsF
    by_cases h0 : S.err = 0
    · simp only [if_pos h0]
      have h1 := he S h hd
      have s1 := hs S h hd
      generalize expr S = r at *
      have h2 := Tr.take (s := ([44] : Bs)) hw h1.kl
      have ha2 : arL (acc ++ [r.1]) := arL_app ha (by rw [arL]; exact ⟨s1.1, by rw [arL]; trivial⟩)
      have hsz : exSzL (acc ++ [r.1]) = exSzL acc + exSz r.1 := by rw [exSzL_app, exSzL, exSzL, Nat.add_zero]
      by_cases ht : (r.2.take ws ([44] : Bs)).1 = true
      · rw [if_pos ht]
        have hk := ztake_t ht
        have ih := sz_args hw he hs m (acc ++ [r.1]) _ h2.kl (h2.d.trans (h1.d.trans hd)) ha2
        refine ⟨ih.1, fun e => ?_⟩
        have e1 := ih.2 e
        have t3 := tr_args hw he m (acc ++ [r.1]) _ h2.kl (h2.d.trans (h1.d.trans hd))
        have e2 := s1.2 (h2.ok (t3.ok e))
        rw [hsz, hk] at e1
        omega
      · rw [if_neg ht]
        refine ⟨ha2, fun e => ?_⟩
        have e2 := s1.2 (h2.ok e)
        have := h2.k
        simp only [hsz]
        omega
    · simp only [if_neg h0]; exact ⟨ha, fun e => absurd e h0⟩
theorem sz_primV {nx : Lv} {d at_ : Nat} (hw : WsOk ws) (hx : d < 30 → GoodLv ws (d + 1) nx) (hz : d < 30 → SzLv ws (d + 1) nx) : GoodS ws d (primV ws nx at_) := fun T h hd => by
  unfold primV
  simp only
  have h1 := Tr.name hw h
  by_cases hc : (T.name ws).2.is ws ([40] : Bs) = true
  · rw [if_pos hc]
    have h2 := Tr.step hw h1.kl (is_kind hc).2.1
    have hk := name_ok (ws := ws) (S := T) (is_kind hc).1
    by_cases hc2 : (T.name ws).2.step.is ws ([41] : Bs) = true
    · rw [if_pos hc2]
      refine ⟨arE_leaf rfl, fun _ => ?_⟩
      rw [exSz_leaf]
      show 1 + 4 * T.k ≤ 4 * ((T.name ws).2.k + 1 + 1) + 1
      omega
    · rw [if_neg hc2]
      have ha := sz_args hw (d := d) (fun T hk hd => tr_deep (fun z => (hx z).arrow) hk hd) (fun T hk hd => sz_deep (fun z => (hz z).arrow) hk hd) (ws.length + 3) [] _ h2.kl (h2.d.trans (h1.d.trans hd)) (by rw [arL]; trivial)
      have t3 := tr_args hw (d := d) (fun T hk hd => tr_deep (fun z => (hx z).arrow) hk hd) (ws.length + 3) [] _ h2.kl (h2.d.trans (h1.d.trans hd))
      generalize argsF ws (deep ws nx.arrow) (ws.length + 3) [] (T.name ws).2.step = r at *
      refine ⟨by rw [arE]; exact ⟨Nat.zero_le _, ha.1⟩, fun e => ?_⟩
      have e1 := want_ok e
      have e2 := ha.2 e1.2
      rw [exSz]
      rw [exSzL] at e2
      have hst : (T.name ws).2.step.k = (T.name ws).2.k + 1 := rfl
      simp only at e1 ⊢
      rw [hst] at e2
      omega
  · rw [if_neg hc]
    refine ⟨arE_leaf rfl, fun e => ?_⟩
    have := h1.k
    rw [exSz_leaf]
    simp only
    omega
theorem sz_two {op nm : Bs} {n : Int} {a : Nat} {x y : Ex} (h : arOf op ≤ 2) (hx : arE x) (hy : arE y) : arE (.mk op nm n a [x, y]) := by
  rw [arE]; exact ⟨h, by rw [arL]; exact ⟨hx, by rw [arL]; exact ⟨hy, by rw [arL]; trivial⟩⟩⟩
theorem sz_one {op nm : Bs} {n : Int} {a : Nat} {x : Ex} (h : arOf op ≤ 1) (hx : arE x) : arE (.mk op nm n a [x]) := by
  rw [arE]; exact ⟨h, by rw [arL]; exact ⟨hx, by rw [arL]; trivial⟩⟩
theorem exSz_two (op nm : Bs) (n : Int) (a : Nat) (x y : Ex) : exSz (.mk op nm n a [x, y]) = exSz x + exSz y + 1 := by rw [exSz, exSzL, exSzL, exSzL]; omega
theorem exSz_one (op nm : Bs) (n : Int) (a : Nat) (x : Ex) : exSz (.mk op nm n a [x]) = exSz x + 1 := by rw [exSz, exSzL, exSzL, Nat.add_zero]
theorem sz_primG {nx : Lv} {d : Nat} {w : Wd} (hw : WsOk ws) (hx : d < 30 → GoodLv ws (d + 1) nx) (hz : d < 30 → SzLv ws (d + 1) nx) (T : Ps) (h : T.k < ws.length) (hd : T.d = d) (hk : T.w ws = w) : Sz T (primG ws nx w T) := by
  unfold primG
  simp only
  by_cases c1 : T.err = 0 ∧ w.kind = 3
  · rw [if_pos c1]
    exact ⟨arE_leaf rfl, fun _ => by rw [exSz_leaf]; show 1 + 4 * T.k ≤ 4 * (T.k + 1) + 1; omega⟩
  rw [if_neg c1]
  by_cases c2 : T.is ws ([116, 114, 117, 101] : Bs) = true
  · rw [if_pos c2]
    exact ⟨arE_leaf rfl, fun _ => by rw [exSz_leaf]; show 1 + 4 * T.k ≤ 4 * (T.k + 1) + 1; omega⟩
  rw [if_neg c2]
  by_cases c3 : T.is ws ([102, 97, 108, 115, 101] : Bs) = true
  · rw [if_pos c3]
    exact ⟨arE_leaf rfl, fun _ => by rw [exSz_leaf]; show 1 + 4 * T.k ≤ 4 * (T.k + 1) + 1; omega⟩
  rw [if_neg c3]
  by_cases c4 : T.is ws ([105, 102] : Bs) = true
  · rw [if_pos c4]
    have h1 := Tr.step hw h (is_kind c4).2.1
    have hk1 : T.step.k = T.k + 1 := rfl
    generalize T.step = U1 at *
    have a := tr_deep (fun z => (hx z).arrow) h1.kl (h1.d.trans hd)
    have sa := sz_deep (fun z => (hz z).arrow) h1.kl (h1.d.trans hd)
    generalize deep ws nx.arrow U1 = A at *
    have h2 := Tr.want (s := ([116, 104, 101, 110] : Bs)) hw a.kl
    have hw2 := want_ok (ws := ws) (S := A.2) (s := ([116, 104, 101, 110] : Bs))
    generalize A.2.want ws ([116, 104, 101, 110] : Bs) = U2 at *
    have hd2 := h2.d.trans (a.d.trans (h1.d.trans hd))
    have b := tr_deep (fun z => (hx z).arrow) h2.kl hd2
    have sb := sz_deep (fun z => (hz z).arrow) h2.kl hd2
    generalize deep ws nx.arrow U2 = B at *
    have h3 := Tr.want (s := ([101, 108, 115, 101] : Bs)) hw b.kl
    have hw3 := want_ok (ws := ws) (S := B.2) (s := ([101, 108, 115, 101] : Bs))
    generalize B.2.want ws ([101, 108, 115, 101] : Bs) = U3 at *
    have hd3 := h3.d.trans (b.d.trans hd2)
    have c := tr_deep (fun z => (hx z).arrow) h3.kl hd3
    have sc := sz_deep (fun z => (hz z).arrow) h3.kl hd3
    generalize deep ws nx.arrow U3 = C at *
    refine ⟨by rw [arE]; exact ⟨(show (3 : Nat) ≤ 3 by decide), by rw [arL, arL, arL, arL]; exact ⟨sa.1, sb.1, sc.1, trivial⟩⟩, fun e => ?_⟩
    have e3 := c.ok e
    have e2 := (hw3 e3).2
    have e1 := (hw2 (b.ok e2)).2
    have q1 := sa.2 e1
    have q2 := sb.2 e2
    have q3 := sc.2 e
    have k2 := (hw2 (b.ok e2)).1
    have k3 := (hw3 e3).1
    rw [exSz, exSzL, exSzL, exSzL, exSzL]
    simp only
    omega
  rw [if_neg c4]
  by_cases c5 : T.is ws ([109, 101, 114, 103, 101] : Bs) = true
  · rw [if_pos c5]
    have h1 := Tr.step hw h (is_kind c5).2.1
    have hk1 : T.step.k = T.k + 1 := rfl
    generalize T.step = U1 at *
    have h2 := Tr.name hw h1.kl
    generalize U1.name ws = N1 at *
    have hd2 := h2.d.trans (h1.d.trans hd)
    have a := tr_deep (fun z => (hx z).prim) h2.kl hd2
    have sa := sz_deep (fun z => (hz z).prim) h2.kl hd2
    generalize deep ws nx.prim N1.2 = A at *
    have b := tr_deep (fun z => (hx z).prim) a.kl (a.d.trans hd2)
    have sb := sz_deep (fun z => (hz z).prim) a.kl (a.d.trans hd2)
    generalize deep ws nx.prim A.2 = B at *
    refine ⟨sz_two (by decide) sa.1 sb.1, fun e => ?_⟩
    have q2 := sb.2 e
    have q1 := sa.2 (b.ok e)
    have := h2.k
    rw [exSz_two]
    simp only
    omega
  rw [if_neg c5]
  exact sz_primV hw hx hz T h hd
theorem sz_prim {nx : Lv} {d : Nat} (hw : WsOk ws) (hx : d < 30 → GoodLv ws (d + 1) nx) (hz : d < 30 → SzLv ws (d + 1) nx) : GoodS ws d (primF ws nx) := fun S h hd => by
  unfold primF
  simp only
  by_cases hp : S.is ws ([40] : Bs) = true
  · rw [if_pos hp]
    have h1 := Tr.step hw h (is_kind hp).2.1
    have hk1 : S.step.k = S.k + 1 := rfl
    generalize S.step = U1 at *
    have sa := sz_deep (fun z => (hz z).arrow) h1.kl (h1.d.trans hd)
    generalize deep ws nx.arrow U1 = A at *
    refine ⟨sa.1, fun e => ?_⟩
    have e1 := want_ok e
    have e2 := sa.2 e1.2
    simp only at e1 ⊢
    omega
  · rw [if_neg hp]
    obtain ⟨h1, h2⟩ := Tr.primP (S := S) h
    have := sz_primG hw hx hz _ h1.kl (h1.d.trans hd) (w := S.w ws) (by unfold Ps.w; rw [h2])
    refine ⟨this.1, fun e => ?_⟩
    have := this.2 e
    omega
theorem unOp_ar (S : Ps) : arOf (unOp ws S) ≤ 1 := by
  unfold unOp
  split
  · decide
  split
  · decide
  split
  · decide
  · decide
theorem unOp_is {S : Ps} (h : unOp ws S ≠ []) : (S.w ws).kind ≠ 0 := by
  unfold unOp at h
  split at h
  · rename_i hc; exact (is_kind hc).2.1
  split at h
  · rename_i hc; exact (is_kind hc).2.1
  split at h
  · rename_i hc; exact (is_kind hc).2.1
  · exact absurd rfl h
theorem sz_un {nx : Lv} {d : Nat} (hw : WsOk ws) (hx : d < 30 → GoodLv ws (d + 1) nx) (hz : d < 30 → SzLv ws (d + 1) nx) : GoodS ws d (unF ws nx) := fun S h hd => by
  unfold unF
  by_cases hu : unOp ws S = []
  · rw [if_pos hu]; exact sz_prim hw hx hz S h hd
  · rw [if_neg hu]
    have h1 := Tr.part (ws := ws) h
    by_cases he : (S.part ws).err ≠ 0
    · rw [if_pos he]; exact ⟨arE_0, fun e => absurd e he⟩
    · rw [if_neg he]
      have hk : ((S.part ws).w ws).kind ≠ 0 := by unfold Ps.w; rw [zpart_k]; exact unOp_is hu
      have h2 := h1.trans (.step hw h1.kl hk)
      have hk2 : (S.part ws).step.k = S.k + 1 := by show (S.part ws).k + 1 = _; rw [zpart_k]
      have s3 := sz_deep (fun z => (hz z).un) h2.kl (h2.d.trans hd)
      unfold deep at s3
      split
      · rename_i hi
        simp only [if_pos hi] at s3
        refine ⟨sz_one (unOp_ar S) s3.1, fun e => ?_⟩
        have := s3.2 e
        rw [exSz_one]
        simp only at this ⊢
        omega
      · rename_i hi
        simp only [if_neg hi] at s3
        exact ⟨arE_0, fun e => by have := s3.2 e; simp only at this ⊢; omega⟩
theorem sz_whenL (hw : WsOk ws) : ∀ (m : Nat) (a : Ex) (S : Ps), S.k < ws.length → arE a → arE (whenL ws m a S).1 ∧ ((whenL ws m a S).2.err = 0 → exSz (whenL ws m a S).1 + 4 * S.k ≤ 4 * (whenL ws m a S).2.k + exSz a)
  | 0, a, S, h, ha => ⟨ha, fun _ => by show exSz a + 4 * S.k ≤ 4 * S.k + exSz a; omega⟩
  | m + 1, a, S, h, ha => by
    unfold whenL
    by_cases hc : S.is ws ([119, 104, 101, 110] : Bs) = true
    · rw [if_pos hc]
      have h1 := Tr.part (ws := ws) h
      have h2 := Tr.take (s := ([119, 104, 101, 110] : Bs)) hw h1.kl
      have h3 := Tr.take (s := ([110, 111, 116] : Bs)) hw h2.kl
      have h4 := Tr.name hw h3.kl
      have t5 := tr_whenL hw m (.mk ([119, 104, 101, 110] : Bs) ((((S.part ws).take ws ([119, 104, 101, 110] : Bs)).2.take ws ([110, 111, 116] : Bs)).2.name ws).1 (if (((S.part ws).take ws ([119, 104, 101, 110] : Bs)).2.take ws ([110, 111, 116] : Bs)).1 then 0 else 1) (S.w ws).at_ [a]) _ h4.kl
      have ih := sz_whenL hw m (.mk ([119, 104, 101, 110] : Bs) ((((S.part ws).take ws ([119, 104, 101, 110] : Bs)).2.take ws ([110, 111, 116] : Bs)).2.name ws).1 (if (((S.part ws).take ws ([119, 104, 101, 110] : Bs)).2.take ws ([110, 111, 116] : Bs)).1 then 0 else 1) (S.w ws).at_ [a]) _ h4.kl (sz_one (by decide) ha)
      refine ⟨ih.1, fun e => ?_⟩
      have e1 := ih.2 e
      rw [exSz_one] at e1
      have hp := h2.ok (h3.ok (h4.ok (t5.ok e)))
      have hk := (ztake_k (part_is hc hp)).1
      rw [zpart_k] at hk
      have := h3.k
      have := h4.k
      simp only at e1 ⊢
      omega
    · rw [if_neg hc]; exact ⟨ha, fun _ => by show exSz a + 4 * S.k ≤ 4 * S.k + exSz a; omega⟩
theorem sz_when {nx : Lv} {d : Nat} (hw : WsOk ws) (hx : d < 30 → GoodLv ws (d + 1) nx) (hz : d < 30 → SzLv ws (d + 1) nx) : GoodS ws d (whenF ws nx) := fun S h hd => by
  have h1 := tr_un hw hx S h hd
  have s1 := sz_un hw hx hz S h hd
  have s2 := sz_whenL hw (ws.length + 3) (unF ws nx S).1 _ h1.kl s1.1
  have t2 := tr_whenL hw (ws.length + 3) (unF ws nx S).1 _ h1.kl
  refine ⟨s2.1, fun e => ?_⟩
  have e2 := s2.2 e
  have e1 := s1.2 (t2.ok e)
  show exSz (whenL ws (ws.length + 3) (unF ws nx S).1 (unF ws nx S).2).1 + 4 * S.k ≤ 4 * (whenL ws (ws.length + 3) (unF ws nx S).1 (unF ws nx S).2).2.k + 1
  omega
theorem sz_inn {f : Ps → Ex × Ps} {d : Nat} {T : Ps} (hf : d < 30 → GoodS ws (d + 1) f) (h : T.k < ws.length) (hd : T.d = d) : ((T.inn ws).1 = true → Sz T ((f (T.inn ws).2).1, (f (T.inn ws).2).2.out)) ∧ ((T.inn ws).1 ≠ true → (T.inn ws).2.err ≠ 0) := by
  have h3 := sz_deep hf h hd
  unfold deep at h3
  refine ⟨fun hi => ?_, fun hi => ?_⟩
  · simp only [if_pos hi] at h3; exact h3
  · unfold Ps.inn at hi ⊢
    split
    · assumption
    · split
      · exact fail_err (by decide)
      · rename_i a b; rw [if_neg a, if_neg b] at hi; exact absurd rfl hi
theorem sz_fby {nx : Lv} {d : Nat} (hw : WsOk ws) (hx : d < 30 → GoodLv ws (d + 1) nx) (hz : d < 30 → SzLv ws (d + 1) nx) : GoodS ws d (fbyF ws nx) := fun S h hd => by
  have h1 := tr_when hw hx S h hd
  have s1 := sz_when hw hx hz S h hd
  unfold fbyF
  generalize whenF ws nx S = a at *
  simp only
  by_cases hc : a.2.is ws ([102, 98, 121] : Bs) = true
  · rw [if_pos hc]
    have h2 := Tr.part (ws := ws) h1.kl
    have h3 := Tr.take (s := ([102, 98, 121] : Bs)) hw h2.kl
    have hd3 := h3.d.trans (h2.d.trans (h1.d.trans hd))
    have s4 := sz_inn (fun z => (hz z).fby) h3.kl hd3
    have t4 := (tr_inn (fun z => (hx z).fby) (.refl h3.kl) hd3).1
    by_cases hi : (((a.2.part ws).take ws ([102, 98, 121] : Bs)).2.inn ws).1 = true
    · rw [if_pos hi]
      have q := s4.1 hi
      refine ⟨sz_two (by decide) s1.1 q.1, fun e => ?_⟩
      have e3 := (t4 hi).ok e
      have e2 := h3.ok e3
      have hk := (ztake_k (part_is hc e2)).1
      rw [zpart_k] at hk
      have e1 := s1.2 (h2.ok e2)
      have e4 := q.2 e
      rw [exSz_two]
      simp only at e4 ⊢
      omega
    · rw [if_neg hi]; exact ⟨arE_0, fun e => absurd e (s4.2 hi)⟩
  · rw [if_neg hc]; exact s1
theorem opAt_is (level : Nat) (S : Ps) (h : opAt ws level S ≠ []) : S.is ws (opAt ws level S) = true ∧ opAt ws level S ∈ opsOf level := by
  have key : ∀ (l : List Bs) (op : Bs), (op = [] ∨ S.is ws op = true) → (l.foldl (fun op s => if S.is ws s then s else op) op ≠ [] → S.is ws (l.foldl (fun op s => if S.is ws s then s else op) op) = true) ∧ (l.foldl (fun op s => if S.is ws s then s else op) op = op ∨ l.foldl (fun op s => if S.is ws s then s else op) op ∈ l) := by
    intro l
    induction l with
    | nil => intro op ho; exact ⟨fun h => ho.resolve_left h, .inl rfl⟩
    | cons s l ih =>
      intro op ho
      rw [List.foldl_cons]
      by_cases hs : S.is ws s = true
      · rw [if_pos hs]
        have := ih s (.inr hs)
        exact ⟨this.1, .inr (this.2.elim (fun e => by rw [e]; exact List.mem_cons_self) (fun e => List.mem_cons_of_mem _ e))⟩
      · rw [if_neg hs]
        have := ih op ho
        exact ⟨this.1, this.2.elim .inl (fun e => .inr (List.mem_cons_of_mem _ e))⟩
  have := key (opsOf level) [] (.inl rfl)
  exact ⟨this.1 h, this.2.resolve_left h⟩
theorem ops_ar (level : Nat) : ∀ s ∈ opsOf level, arOf s ≤ 2 := by
  match level with
  | 0 => decide
  | 1 => decide
  | 2 => decide
  | 3 => decide
  | n + 4 => exact (by decide : ∀ s ∈ opsOf 4, arOf s ≤ 2)
theorem sz_rowL {nr : Ps → Ex × Ps} {d level : Nat} (hw : WsOk ws) (hn : Good ws d nr) (hs : GoodS ws d nr) : ∀ (m : Nat) (a : Ex) (S : Ps), S.k < ws.length → S.d = d → arE a →
    arE (rowL ws level nr m a S).1 ∧ ((rowL ws level nr m a S).2.err = 0 → exSz (rowL ws level nr m a S).1 + 4 * S.k ≤ 4 * (rowL ws level nr m a S).2.k + exSz a)
  | 0, a, S, h, hd, ha => ⟨ha, fun _ => by show exSz a + 4 * S.k ≤ 4 * S.k + exSz a; omega⟩
  | m + 1, a, S, h, hd, ha => by
    unfold rowL
    by_cases ho : opAt ws level S = []
    · rw [if_pos ho]; exact ⟨ha, fun _ => by show exSz a + 4 * S.k ≤ 4 * S.k + exSz a; omega⟩
    · rw [if_neg ho]
      obtain ⟨oi, om⟩ := opAt_is level S ho
      have har := ops_ar level _ om
      generalize opAt ws level S = op at *
      have h1 := Tr.part (ws := ws) h
      have h2 := Tr.take (s := op) hw h1.kl
      have hd2 := h2.d.trans (h1.d.trans hd)
      have h3 := hn _ h2.kl hd2
      have s3 := hs _ h2.kl hd2
      have hk : (S.part ws).err = 0 → ((S.part ws).take ws op).2.k = S.k + 1 := fun e => by have := (ztake_k (part_is oi e)).1; rwa [zpart_k] at this
      generalize ((S.part ws).take ws op).2 = U at *
      generalize nr U = b at *
      have hae : arE (.mk op [] 0 (S.w ws).at_ [a, b.1]) := sz_two har ha s3.1
      simp only
      by_cases hl : level = 2
      · rw [if_pos hl]
        refine ⟨hae, fun e => ?_⟩
        have e2 := h3.ok e
        have e1 := h2.ok e2
        have := hk e1
        have := s3.2 e
        rw [exSz_two]
        simp only
        omega
      · rw [if_neg hl]
        have ih := sz_rowL (level := level) hw hn hs m (.mk op [] 0 (S.w ws).at_ [a, b.1]) b.2 h3.kl (h3.d.trans hd2) hae
        have t := tr_rowL (level := level) hw hn m (.mk op [] 0 (S.w ws).at_ [a, b.1]) b.2 h3.kl (h3.d.trans hd2)
        refine ⟨ih.1, fun e => ?_⟩
        have e0 := ih.2 e
        have e3 := t.ok e
        have e1 := h2.ok (h3.ok e3)
        have := hk e1
        have := s3.2 e3
        rw [exSz_two] at e0
        omega
theorem sz_row {nx : Lv} {d : Nat} (hw : WsOk ws) (hx : d < 30 → GoodLv ws (d + 1) nx) (hz : d < 30 → SzLv ws (d + 1) nx) : ∀ m, GoodS ws d (rowF ws nx m)
  | 0 => sz_fby hw hx hz
  | m + 1 => fun S h hd => by
    have h1 := tr_row hw hx m S h hd
    have s1 := sz_row hw hx hz m S h hd
    have s2 := sz_rowL (level := 4 - m) hw (tr_row hw hx m) (sz_row hw hx hz m) (ws.length + 3) (rowF ws nx m S).1 (rowF ws nx m S).2 h1.kl (h1.d.trans hd) s1.1
    have t2 := tr_rowL (level := 4 - m) hw (tr_row hw hx m) (ws.length + 3) (rowF ws nx m S).1 (rowF ws nx m S).2 h1.kl (h1.d.trans hd)
    refine ⟨s2.1, fun e => ?_⟩
    have e2 := s2.2 e
    have e1 := s1.2 (t2.ok e)
    show exSz (rowL ws (4 - m) (rowF ws nx m) (ws.length + 3) (rowF ws nx m S).1 (rowF ws nx m S).2).1 + 4 * S.k ≤ 4 * (rowL ws (4 - m) (rowF ws nx m) (ws.length + 3) (rowF ws nx m S).1 (rowF ws nx m S).2).2.k + 1
    omega
theorem sz_arrow {nx : Lv} {d : Nat} (hw : WsOk ws) (hx : d < 30 → GoodLv ws (d + 1) nx) (hz : d < 30 → SzLv ws (d + 1) nx) : GoodS ws d (arrowF ws nx) := fun S h hd => by
  have h1 := tr_row hw hx 5 S h hd
  have s1 := sz_row hw hx hz 5 S h hd
  unfold arrowF
  generalize rowF ws nx 5 S = a at *
  simp only
  by_cases hc : a.2.is ws ([45, 62] : Bs) = true
  · rw [if_pos hc]
    have h2 := Tr.part (ws := ws) h1.kl
    have h3 := Tr.take (s := ([45, 62] : Bs)) hw h2.kl
    have hd3 := h3.d.trans (h2.d.trans (h1.d.trans hd))
    have s4 := sz_inn (fun z => (hz z).arrow) h3.kl hd3
    have t4 := (tr_inn (fun z => (hx z).arrow) (.refl h3.kl) hd3).1
    by_cases hi : (((a.2.part ws).take ws ([45, 62] : Bs)).2.inn ws).1 = true
    · rw [if_pos hi]
      have q := s4.1 hi
      refine ⟨sz_two (by decide) s1.1 q.1, fun e => ?_⟩
      have e3 := (t4 hi).ok e
      have e2 := h3.ok e3
      have hk := (ztake_k (part_is hc e2)).1
      rw [zpart_k] at hk
      have e1 := s1.2 (h2.ok e2)
      have e4 := q.2 e
      rw [exSz_two]
      simp only at e4 ⊢
      omega
    · rw [if_neg hi]; exact ⟨arE_0, fun e => absurd e (s4.2 hi)⟩
  · rw [if_neg hc]; exact s1
theorem szlv_mk (hw : WsOk ws) {nx : Lv} {d : Nat} (hx : d < 30 → GoodLv ws (d + 1) nx) (hz : d < 30 → SzLv ws (d + 1) nx) : SzLv ws d (mkLv ws nx) := by
  have h1 := sz_arrow hw hx hz
  have h2 := sz_fby hw hx hz
  have h3 := sz_un hw hx hz
  have h4 := sz_prim hw hx hz
  unfold mkLv
  generalize arrowF ws nx = f1 at *
  generalize fbyF ws nx = f2 at *
  generalize unF ws nx = f3 at *
  generalize primF ws nx = f4 at *
  exact ⟨h1, h2, h3, h4⟩
theorem szlv (hw : WsOk ws) (n : Nat) : ∀ d, d + n = 30 → SzLv ws d (lv ws n) := by
  induction n with
  | zero =>
    intro d hd
    rw [lv]; exact szlv_mk hw (nx := Lv0) (fun z => absurd z (by omega)) (fun z => absurd z (by omega))
  | succ n ih =>
    intro d hd
    rw [lv]; exact szlv_mk hw (nx := lv ws n) (fun z => good_lv hw n (d + 1) (by omega)) (fun z => ih (d + 1) (by omega))
theorem sz_expr (hw : WsOk ws) (S : Ps) (h : S.k < ws.length) (hd : S.d ≤ 29) : Sz S (exprF ws S) :=
  sz_deep (d := S.d) (fun z => (szlv hw (29 - S.d) (S.d + 1) (by omega)).arrow) h rfl
end
end Go.Proofs.Ytmgkhfnhaeplgaa

namespace Go.Proofs.Ytmgkhfnhaeplgaa
open Go
set_option linter.unusedSimpArgs false
set_option linter.unusedVariables false
set_option maxRecDepth 20000

/-! What a text that is read gives: small nodes, equations of the right arity. Plain. -/
section
variable {ws : List Wd}
theorem mu_top (hw : WsOk ws) (S : Ps) : mu ws S ≤ 20001 := by
  have := hw.len
  unfold mu; split <;> omega
theorem mu_step2 {S : Ps} (h : S.k < ws.length) : mu ws S.step ≤ mu ws S := by
  unfold mu Ps.step; simp only; omega
theorem declsL_mu (hw : WsOk ws) : ∀ (m : Nat) (acc : List Vr) (S : Ps), S.k < ws.length → (declsL ws m acc S).1.length + mu ws (declsL ws m acc S).2 ≤ acc.length + mu ws S
  | 0, acc, S, h => Nat.le_refl _
  | m + 1, acc, S, h => by
    unfold declsL
    by_cases hb : S.is ws ([59] : Bs) = true
    · rw [if_pos hb]
      have h1 := Tr.step hw h (is_kind hb).2.1
      have h2 := tr_decl hw _ h1.kl
      have m1 := mu_step2 h
      have m2 := decl_mu hw _ h1.kl
      have := declsL_mu hw m (acc ++ (declF ws S.step).1) (declF ws S.step).2 h2.kl
      rw [List.length_append] at this
      simp only
      omega
    · rw [if_neg hb]; exact Nat.le_refl _
theorem decls_len (hw : WsOk ws) (S : Ps) (h : S.k < ws.length) : (declsF ws S).1.length ≤ 20001 := by
  unfold declsF
  have := mu_top hw S
  by_cases hb : S.is ws ([41] : Bs) = true
  · rw [if_pos hb]; exact Nat.zero_le _
  · rw [if_neg hb]
    have h1 := tr_decl hw S h
    have m1 := decl_mu hw S h
    have m2 := declsL_mu hw (ws.length + 3) (declF ws S).1 (declF ws S).2 h1.kl
    simp only
    omega
theorem localsL_mu (hw : WsOk ws) : ∀ (m : Nat) (acc : List Vr) (S : Ps), S.k < ws.length → (localsL ws m acc S).1.length + mu ws (localsL ws m acc S).2 ≤ acc.length + mu ws S
  | 0, acc, S, h => Nat.le_refl _
  | m + 1, acc, S, h => by
    rw [localsL_eq]
    by_cases h0 : S.err = 0
    · rw [if_pos h0]
      have h1 := tr_decl hw S h
      have m1 := decl_mu hw S h
      have h2 := tr_onF hw (declF ws S) h1.kl
      have m2 := h2.mu
      have hl := onF_len (ws := ws) (declF ws S)
      by_cases hb : (onF ws (declF ws S)).2.is ws ([59] : Bs) = true ∧ ((onF ws (declF ws S)).2.step.w ws).kind = 1
      · rw [if_pos hb]
        have h3 := Tr.step hw h2.kl (is_kind hb.1).2.1
        have m3 := mu_step2 h2.kl
        have := localsL_mu hw m (acc ++ (onF ws (declF ws S)).1) (onF ws (declF ws S)).2.step h3.kl
        rw [List.length_append] at this
        omega
      · rw [if_neg hb, List.length_append]
        simp only
        omega
    · rw [if_neg h0]; exact Nat.le_refl _
theorem locals_len (hw : WsOk ws) (S : Ps) (h : S.k < ws.length) : (localsF ws S).1.length ≤ 20001 := by
  unfold localsF
  have := mu_top hw S
  by_cases hb : S.is ws ([59] : Bs) = true
  · rw [if_pos hb]; exact Nat.zero_le _
  · rw [if_neg hb]
    have m2 := localsL_mu hw (ws.length + 3) [] S h
    simp only [List.length_nil] at m2
    omega
theorem eqsL_len : ∀ (m : Nat) (acc : List Eqn) (S : Ps), (eqsL ws m acc S).1.length ≤ acc.length + m := by
  intro m
  induction m with
  | zero => intro acc S; exact Nat.le_refl _
  | succ m ih =>
    intro acc S
    unfold eqsL
    split
    · refine Nat.le_trans (ih _ _) ?_
      rw [List.length_append, List.length_singleton]
      omega
    · exact Nat.le_add_right _ _
theorem eqsL_ok (hw : WsOk ws) : ∀ (m : Nat) (acc : List Eqn) (S : Ps), S.k < ws.length → S.d ≤ 29 → (∀ q ∈ acc, arE q.e ∧ exSz q.e ≤ 2000000) →
    (eqsL ws m acc S).1.length ≤ acc.length + m ∧ ((eqsL ws m acc S).2.err = 0 → ∀ q ∈ (eqsL ws m acc S).1, arE q.e ∧ exSz q.e ≤ 2000000)
  | 0, acc, S, h, hd, ha => ⟨Nat.le_refl _, fun _ => ha⟩
  | m + 1, acc, S, h, hd, ha => by
    unfold eqsL
    by_cases hc : S.err = 0 ∧ (S.w ws).kind = 1
    · rw [if_pos hc]
      have h1 := Tr.name (S := S) hw h
      have h2 := h1.trans (.want (s := ([61] : Bs)) hw h1.kl)
      have h3 : Tr ws S { ((S.name ws).2.want ws ([61] : Bs)) with parts := 0 } := ⟨h2.d, h2.k, h2.kl, h2.e⟩
      have hz := sz_expr hw { ((S.name ws).2.want ws ([61] : Bs)) with parts := 0 } h3.kl (by rw [h3.d]; exact hd)
      have h4 := h3.trans (good_expr hw _ h3.kl (by rw [h3.d]; exact hd))
      simp only
      generalize exprF ws { ((S.name ws).2.want ws ([61] : Bs)) with parts := 0 } = r at *
      have h5 := h4.trans (.want (s := ([59] : Bs)) hw h4.kl)
      have t6 := tr_eqsL hw m (acc ++ [⟨(S.name ws).1, r.1, (S.w ws).at_⟩]) (r.2.want ws ([59] : Bs)) h5.kl (by rw [h5.d]; exact hd)
      have hlen := hw.len
      by_cases he : r.2.err = 0
      · have z1 := hz.2 he
        have k1 := h4.kl
        have ih := eqsL_ok hw m (acc ++ [⟨(S.name ws).1, r.1, (S.w ws).at_⟩]) (r.2.want ws ([59] : Bs)) h5.kl (by rw [h5.d]; exact hd) (fun q hq => by
          rcases List.mem_append.1 hq with hq | hq
          · exact ha q hq
          · rw [List.mem_singleton] at hq; subst hq; exact ⟨hz.1, by show exSz r.1 ≤ 2000000; omega⟩)
        refine ⟨?_, ih.2⟩
        have := ih.1
        rw [List.length_append, List.length_singleton] at this
        omega
      · have hT := Tr.want (s := ([59] : Bs)) hw h4.kl
        refine ⟨?_, fun e => absurd (hT.ok (t6.ok e)) he⟩
        have := eqsL_len (ws := ws) m (acc ++ [⟨(S.name ws).1, r.1, (S.w ws).at_⟩]) (r.2.want ws ([59] : Bs))
        rw [List.length_append, List.length_singleton] at this
        omega
    · rw [if_neg hc]; exact ⟨Nat.le_add_right _ _, fun _ => ha⟩
/-- A node as the parser gives it. -/
structure NdG (n : Nd) : Prop where
  ok : NdOk n
  ar : ∀ q ∈ n.eqs, arE q.e
  sm : n.ins.length + n.outs.length + n.locs.length ≤ 100000
theorem node_ok (hw : WsOk ws) (S : Ps) (h : S.k < ws.length) (hd : S.d ≤ 29) : (nodeF ws S).2.err = 0 → NdG (nodeF ws S).1 := by
  have hlen := hw.len
  unfold nodeF
  have t0 : Tr ws S { S with names := 0 } := ⟨rfl, Nat.le_refl _, h, id⟩
  have t1 := t0.trans (.want (s := ([110, 111, 100, 101] : Bs)) hw h)
  generalize ({ S with names := 0 } : Ps).want ws ([110, 111, 100, 101] : Bs) = S1 at *
  have t2 := t1.trans (.name hw t1.kl)
  generalize S1.name ws = A at *
  obtain ⟨nm, S2⟩ := A
  simp only at *
  have t3 := t2.trans (.want (s := ([40] : Bs)) hw t2.kl)
  generalize S2.want ws ([40] : Bs) = S3 at *
  have t4 := t3.trans (tr_decls hw _ t3.kl)
  have l4 := decls_len hw _ t3.kl
  generalize declsF ws S3 = A at *
  obtain ⟨ins, S4⟩ := A
  simp only at *
  have t5 := t4.trans (.want (s := ([41] : Bs)) hw t4.kl)
  generalize S4.want ws ([41] : Bs) = S5 at *
  have t6 := t5.trans (.want (s := ([114, 101, 116, 117, 114, 110, 115] : Bs)) hw t5.kl)
  generalize S5.want ws ([114, 101, 116, 117, 114, 110, 115] : Bs) = S6 at *
  have t7 := t6.trans (.want (s := ([40] : Bs)) hw t6.kl)
  generalize S6.want ws ([40] : Bs) = S7 at *
  have t8 := t7.trans (tr_decls hw _ t7.kl)
  have l8 := decls_len hw _ t7.kl
  generalize declsF ws S7 = A at *
  obtain ⟨outs, S8⟩ := A
  simp only at *
  have t9 := t8.trans (.want (s := ([41] : Bs)) hw t8.kl)
  generalize S8.want ws ([41] : Bs) = S9 at *
  have t10 := t9.trans (.want (s := ([59] : Bs)) hw t9.kl)
  generalize S9.want ws ([59] : Bs) = S10 at *
  have t11 : Tr ws S (if S10.is ws ([118, 97, 114] : Bs) = true then ((localsF ws S10.step).1, (localsF ws S10.step).2.want ws ([59] : Bs)) else ([], S10)).2 ∧ (if S10.is ws ([118, 97, 114] : Bs) = true then ((localsF ws S10.step).1, (localsF ws S10.step).2.want ws ([59] : Bs)) else ([], S10)).1.length ≤ 20001 := by
    split
    · rename_i hb
      have h1 := t10.trans (.step hw t10.kl (is_kind hb).2.1)
      have h2 := h1.trans (tr_locals hw _ h1.kl)
      exact ⟨h2.trans (.want hw h2.kl), locals_len hw _ h1.kl⟩
    · exact ⟨t10, Nat.zero_le _⟩
  generalize (if S10.is ws ([118, 97, 114] : Bs) = true then ((localsF ws S10.step).1, (localsF ws S10.step).2.want ws ([59] : Bs)) else ([], S10)) = Cc at *
  obtain ⟨t11, l11⟩ := t11
  have t12 := t11.trans (.want (s := ([108, 101, 116] : Bs)) hw t11.kl)
  generalize Cc.2.want ws ([108, 101, 116] : Bs) = S12 at *
  have t13 := t12.trans (tr_eqsL hw (ws.length + 3) [] _ t12.kl (by rw [t12.d]; exact hd))
  have q13 := eqsL_ok hw (ws.length + 3) [] _ t12.kl (by rw [t12.d]; exact hd) (fun q hq => absurd hq (List.not_mem_nil))
  generalize eqsL ws (ws.length + 3) [] S12 = Q at *
  have t14 := Tr.want (s := ([116, 101, 108] : Bs)) hw t13.kl
  have t15 := Tr.take (s := ([59] : Bs)) hw t14.kl
  intro e
  have q14 := q13.2 (t14.ok (t15.ok e))
  have q15 := q13.1
  simp only [List.length_nil] at q15
  exact ⟨⟨by show ins.length ≤ _; omega, by show outs.length ≤ _; omega, by show Cc.1.length ≤ _; omega, by show Q.1.length ≤ _; omega, fun q hq => (q14 q hq).2⟩, fun q hq => (q14 q hq).1, by show ins.length + outs.length + Cc.1.length ≤ _; omega⟩
theorem nodesL_ok (hw : WsOk ws) : ∀ (m : Nat) (acc : List Nd) (S : Ps), S.k < ws.length → S.d ≤ 29 → acc.length ≤ 32 → (S.err = 0 → ∀ n ∈ acc, NdG n) →
    (nodesL ws m acc S).1.length ≤ 32 ∧ ((nodesL ws m acc S).2.err = 0 → ∀ n ∈ (nodesL ws m acc S).1, NdG n)
  | 0, acc, S, h, hd, hl, ha => ⟨hl, ha⟩
  | m + 1, acc, S, h, hd, hl, ha => by
    rw [nodesL]
    by_cases hc : S.err = 0 ∧ (acc.isEmpty = true ∨ (S.w ws).kind ≠ 0)
    · rw [if_pos hc]
      by_cases h32 : acc.length = 32
      · rw [if_pos h32]; exact ⟨hl, fun e => absurd e (fail_err (by decide))⟩
      · rw [if_neg h32]
        have t1 := tr_node hw S h hd
        have n1 := node_ok hw S h hd
        refine nodesL_ok hw m _ _ t1.kl (by rw [t1.d]; exact hd) (by rw [List.length_append, List.length_singleton]; omega) (fun e n hn => ?_)
        rcases List.mem_append.1 hn with hn | hn
        · exact ha (t1.ok e) n hn
        · rw [List.mem_singleton] at hn; subst hn; exact n1 e
    · rw [if_neg hc]; exact ⟨hl, ha⟩
end
theorem parse_ok (t : Bs) (h : (parse t).2.1 = 0) : (parse t).1.length ≤ 32 ∧ ∀ n ∈ (parse t).1, NdG n := by
  have hok := cut_ok t
  unfold parse at *
  generalize cut t = c at *
  obtain ⟨ws, err, at_⟩ := c
  simp only at *
  by_cases he : err ≠ 0
  · rw [if_pos he] at h; exact absurd h he
  · rw [if_neg he] at h ⊢
    have hw := hok (by omega)
    have h0 : 0 < ws.length := by obtain ⟨l, w, e, _⟩ := hw.last; rw [e]; simp
    have hn := nodesL_ok hw 40 [] ⟨0, 0, 0, 0, 0, 0⟩ h0 (by decide) (by decide) (fun _ n hn => absurd hn (List.not_mem_nil))
    generalize nodesL ws 40 [] ⟨0, 0, 0, 0, 0, 0⟩ = R at *
    by_cases h2 : R.2.err ≠ 0
    · rw [if_pos h2] at h; exact absurd h h2
    · rw [if_neg h2]
      exact ⟨hn.1, hn.2 (by omega)⟩
theorem parse_len (t : Bs) : (parse t).1.length ≤ 32 := by
  by_cases h : (parse t).2.1 = 0
  · exact (parse_ok t h).1
  · unfold parse at *
    generalize cut t = c at *
    obtain ⟨ws, err, at_⟩ := c
    simp only at *
    by_cases he : err ≠ 0
    · rw [if_pos he]; exact Nat.zero_le _
    · rw [if_neg he] at h ⊢
      generalize nodesL ws 40 [] ⟨0, 0, 0, 0, 0, 0⟩ = R at *
      by_cases h2 : R.2.err ≠ 0
      · rw [if_pos h2]; exact Nat.zero_le _
      · rw [if_neg h2] at h; exact absurd rfl h
end Go.Proofs.Ytmgkhfnhaeplgaa

namespace Go.Proofs.Ytmgkhfnhaeplgaa
open Go Go.Am Go.Proofs
set_option linter.unusedSimpArgs false
set_option linter.unusedVariables false
set_option maxRecDepth 20000
set_option maxHeartbeats 8000000

/-! The laws' own parts: a text's fault. -/
theorem parse_nd (t : Bs) : ∀ n ∈ (parse t).1, NdG n := by
  by_cases h : (parse t).2.1 = 0
  · exact (parse_ok t h).2
  · intro n hn
    exfalso
    unfold parse at *
    generalize cut t = c at *
    obtain ⟨ws, err, at_⟩ := c
    simp only at *
    by_cases he : err ≠ 0
    · rw [if_pos he] at hn; cases hn
    · rw [if_neg he] at h hn
      generalize nodesL ws 40 [] ⟨0, 0, 0, 0, 0, 0⟩ = R at *
      by_cases h2 : R.2.err ≠ 0
      · rw [if_pos h2] at hn; cases hn
      · rw [if_neg h2] at h; exact h rfl
/-- A text's fault, plain. -/
def fltN (l : List Nd) : Nat × Nat := match checkN l with | some a => (11, a) | none => (0, 0)
def flt (t : Bs) : Nat × Nat := fltN (parse t).1
theorem faultA_eq (l : List Nd) : faultA (checkN l) = .agg [avI (fltN l).1, avI (fltN l).2] := by
  unfold fltN faultA; cases checkN l <;> rfl
theorem fault_calls (H : AHeap) (t : Bs) (hl : t.length ≤ 2000000) : ACalls Try.prog 9 [.str t] H fun r H' => r = .agg [avI (flt t).1, avI (flt t).2] ∧ H' = H := by
  have cp := fun H => Parse_calls H t hl
  have hlen := parse_len t
  have hnd := parse_nd t
  unfold flt
  generalize parse t = x at *
  obtain ⟨l, a, b⟩ := x
  simp only at *
  unfold parseA at cp
  simp only at cp
  have cb := fun H => Back_calls H l (by omega) (fun n hn => (hnd n hn).ok)
  have ck := fun H => Check_calls H l (by omega) (fun n hn => (hnd n hn).ok)
  have hvl := nd_len l
  simp only [faultA_eq] at ck
  generalize fltN l = z at *
  have cd := fun H => Bad_calls H (z.1 : Int) (z.2 : Int)
  clear hnd
  refine acalls_of_aw1 Try.func9 rfl (by decide) ?_
  (first | focus (refine yy3 ?_; refine awl_alloc rfl rfl rfl (fun oN hoN => ?_); refine yy31 ?_; refine yy125 ?_; (refine zc auto_wl (cp _) ?_; rintro r H' ⟨rfl, rfl⟩); refine yy79 ?_; refine awl_alloc rfl rfl rfl (fun oN hoN => ?_); refine yy80 ?_; refine yy12 ?_; refine yy31 ?_; refine yy46 ?_; (refine zc auto_wl (cb _) ?_; rintro r H' ⟨rfl, rfl⟩); (refine zc auto_wl (ck _) ?_; rintro r H' ⟨rfl, rfl⟩); (refine zc auto_wl (cd _) ?_; rintro r H' ⟨rfl, rfl⟩); refine yy38 ?_; rotate_left) | fail)
  exact ⟨.inl rfl, _, _, _, Ent.cellRet 2 [avI z.1, avI z.2] rfl auto_heap (by ((repeat' (first | exact WC.nil | apply WC.cons)); all_goals (first | exact W.of rfl | exact W.int rfl | exact W.nilb rfl | exact W.empb rfl | exact W.bysx rfl | exact W.nils rfl | exact W.emps rfl | exact W.slsx rfl))) auto_hs, ret_1 rfl (rv1_agg (m := 2) rfl rfl rfl (by decide)), rfl, rfl⟩
end Go.Proofs.Ytmgkhfnhaeplgaa

namespace Go.Proofs.Ytmgkhfnhaeplgaa
open Go
set_option linter.unusedSimpArgs false
set_option linter.unusedVariables false
set_option maxRecDepth 20000
set_option maxHeartbeats 8000000

/-! The closed texts. Plain. -/
abbrev tK1 : Bs := ([110, 111, 100, 101, 32, 102, 40, 120, 58, 32, 105, 110, 116, 41, 32, 114, 101, 116, 117, 114, 110, 115, 32, 40, 121, 58, 32, 105, 110, 116, 41, 59, 32, 108, 101, 116, 32, 121, 32, 61, 32, 112, 114, 101, 32, 120, 59, 32, 116, 101, 108] : Bs)
abbrev tK2 : Bs := ([110, 111, 100, 101, 32, 102, 40, 120, 58, 32, 105, 110, 116, 41, 32, 114, 101, 116, 117, 114, 110, 115, 32, 40, 121, 58, 32, 105, 110, 116, 41, 59, 32, 108, 101, 116, 32, 121, 32, 61, 32, 48, 32, 45, 62, 32, 112, 114, 101, 32, 120, 59, 32, 116, 101, 108] : Bs)
abbrev tA : Bs := ([110, 111, 100, 101, 32, 102, 40, 120, 58, 32, 105, 110, 116, 41, 32, 114, 101, 116, 117, 114, 110, 115, 32, 40, 121, 58, 32, 105, 110, 116, 41, 59, 32, 118, 97, 114, 32, 116, 58, 32, 105, 110, 116, 59, 32, 108, 101, 116, 32, 116, 32, 61, 32, 49, 32, 43, 32, 112, 114, 101, 32, 120, 59, 32, 121, 32, 61, 32, 48, 32, 45, 62, 32, 116, 59, 32, 116, 101, 108] : Bs)
theorem tK1_flt : flt tK1 = (11, 37) := by decide +kernel
theorem tK2_flt : flt tK2 = (0, 0) := by decide +kernel
def awk (l : List Nd) : Bool := match l with
  | [n] => (match n.eqs with
    | [q0, q1] => decide (checkN [n] = none) && decide (lateN n = [([116] : Bs)]) && lateE (hasB (lateNames n)) q0.e && !lateE (hasB (lateNames n)) q1.e
    | _ => false)
  | _ => false
theorem tA_awk : awk (parse tA).1 = true := by decide +kernel
theorem tA_is : ∃ nm ins outs locs a0 op0 nm0 n0 p0 k0 b0 a1 op1 nm1 n1 p1 k1 b1 at_ n, n = Nd.mk nm ins outs locs [⟨a0, .mk op0 nm0 n0 p0 k0, b0⟩, ⟨a1, .mk op1 nm1 n1 p1 k1, b1⟩] at_ ∧ (parse tA).1 = [n] ∧ checkN [n] = none ∧ lateN n = [([116] : Bs)] ∧ lateE (hasB (lateNames n)) (.mk op0 nm0 n0 p0 k0) = true ∧ lateE (hasB (lateNames n)) (.mk op1 nm1 n1 p1 k1) = false := by
  have h := tA_awk
  generalize (parse tA).1 = l at *
  unfold awk at h
  split at h
  · rename_i n
    split at h
    · rename_i q0 q1 hq
      obtain ⟨nm, ins, outs, locs, eqs, at_⟩ := n
      obtain ⟨a0, ⟨op0, nm0, n0, p0, k0⟩, b0⟩ := q0
      obtain ⟨a1, ⟨op1, nm1, n1, p1, k1⟩, b1⟩ := q1
      simp only at hq
      subst hq
      simp only [Bool.and_eq_true, decide_eq_true_eq, Bool.not_eq_true'] at h
      exact ⟨_, _, _, _, _, _, _, _, _, _, _, _, _, _, _, _, _, _, _, _, rfl, rfl, h.1.1.1, h.1.1.2, h.1.2, h.2⟩
    · cases h
  · cases h
end Go.Proofs.Ytmgkhfnhaeplgaa

namespace Go.Proofs.Ytmgkhfnhaeplgaa
open Go Go.Am Go.Proofs
set_option linter.unusedSimpArgs false
set_option linter.unusedVariables false
set_option maxRecDepth 20000
set_option maxHeartbeats 8000000

/-! The laws' own parts: awake. -/
theorem awake_calls (H : AHeap) : ACalls Try.prog 8 [] H fun r H' => r = avB true ∧ H' = H := by
  have cp := fun H => Parse_calls H tA (by decide)
  have hnd := parse_nd tA
  obtain ⟨nm, ins, outs, locs, a0, op0, nm0, n0, p0, k0, b0, a1, op1, nm1, n1, p1, k1, b1, at_, n, hn, hl, h1, h2, h3, h4⟩ := tA_is
  generalize parse tA = x at *
  obtain ⟨l, a, b⟩ := x
  simp only at *
  subst hl
  have hok := (hnd n (List.mem_singleton.2 rfl)).ok
  have cb := fun H => Back_calls H [n] (show 1 ≤ 2000000 by decide) (fun m hm => by rw [List.mem_singleton.1 hm]; exact hok)
  have ck := fun H => Check_calls H [n] (show 1 ≤ 2000000 by decide) (fun m hm => by rw [List.mem_singleton.1 hm]; exact hok)
  have cl := fun H => pLate_calls H n hok
  have ce0 := fun H => pExpr_calls H n (.mk op0 nm0 n0 p0 k0) hok (by subst hn; exact hok.e _ (List.mem_cons_self ..))
  have ce1 := fun H => pExpr_calls H n (.mk op1 nm1 n1 p1 k1) hok (by subst hn; exact hok.e _ (List.mem_cons_of_mem _ (List.mem_cons_self ..)))
  simp only [h1, faultA] at ck
  simp only [h2] at cl
  simp only [h3] at ce0
  simp only [h4] at ce1
  clear h1 h2 h3 h4 hnd
  have f1 := fun H => fault_calls H tK1 (by decide)
  have f2 := fun H => fault_calls H tK2 (by decide)
  simp only [tK1_flt] at f1
  simp only [tK2_flt] at f2
  unfold parseA at cp
  subst hn
  simp only [ndsA, ndL, List.flatMap_cons, List.flatMap_nil, List.append_nil, List.length_cons, List.length_nil, Nat.zero_add] at *
  clear hok
  refine acalls_of_aw0 Try.func8 rfl ?_
  (first | focus (refine yy11 ?_; refine yy3 ?_; (refine zc auto_wl (cp _) ?_; rintro r H' ⟨rfl, rfl⟩); refine yy79 ?_; refine awl_alloc rfl rfl rfl (fun oN hoN => ?_); refine yy80 ?_; refine yy12 ?_; refine yy31 ?_; refine yy46 ?_; (refine zc auto_wl (cb _) ?_; rintro r H' ⟨rfl, rfl⟩); refine yy80 ?_; refine yy31 ?_; refine yy46 ?_; refine yy75 ?_; refine yy152 ?_; (refine zc auto_wl (cl _) ?_; rintro r H' ⟨rfl, rfl⟩); refine yy80 ?_; refine yy4 ?_; refine yy67 ?_; (apply awt_s; · exact s_callc auto_wl (f1 _)); (apply awt_s; · exact s_buildv (by ((repeat' (first | exact eqL_nil | apply eqL_cons)); all_goals (first | exact (rfl : _ = AV.raw _) | exact (rfl : _ = AV.bys _) | exact (rfl : _ = AV.vw _ _ _ _) | exact (rfl : _ = AV.ptr _ _) | exact (rfl : _ = AV.str _) | exact (rfl : _ = AV.sls _ _) | exact (rfl : _ = AV.tup _) | exact (rfl : _ = AV.agg _) | exact (rfl : _ = AV.pce _ _) | exact (rfl : _ = AV.emp) | exact (rfl : _ = AV.bysx _) | exact (rfl : _ = AV.slsx _ _) | exact (rfl : _ = AV.mp _) | exact (rfl : _ = AV.fnc _ _ _) | exact (rfl : _ = AV.pby _ _) | exact (rfl : _ = AV.ifc _ _)))) (by rfl)); (apply awt_s; · exact s_eqlg rfl rfl rfl); (apply awt_s; · exact s_move (v := .raw _) rfl); refine zt6 rfl rfl rfl (fun hc => ?_) (fun hc => ?_); (apply awt_s; · exact s_callc auto_wl (f2 _)); refine yy2 ?_; (apply awt_s; · exact s_fieldv rfl rfl); refine yy2 ?_; (apply awt_s; · exact s_eqn rfl rfl); (apply awt_s; · exact s_pick_t (v := .raw _) rfl rfl); (apply awt_s; · exact s_move (v := .raw _) rfl); refine zt1 rfl rfl rfl (fun hc => ?_) (fun hc => ?_); (apply awt_s; · exact s_move (v := .sls _ _) rfl); refine yy2 ?_; (apply awt_s; · exact s_callc auto_wl (ck _)); refine yy2 ?_; (apply awt_s; · exact s_buildv (by ((repeat' (first | exact eqL_nil | apply eqL_cons)); all_goals (first | exact (rfl : _ = AV.raw _) | exact (rfl : _ = AV.bys _) | exact (rfl : _ = AV.vw _ _ _ _) | exact (rfl : _ = AV.ptr _ _) | exact (rfl : _ = AV.str _) | exact (rfl : _ = AV.sls _ _) | exact (rfl : _ = AV.tup _) | exact (rfl : _ = AV.agg _) | exact (rfl : _ = AV.pce _ _) | exact (rfl : _ = AV.emp) | exact (rfl : _ = AV.bysx _) | exact (rfl : _ = AV.slsx _ _) | exact (rfl : _ = AV.mp _) | exact (rfl : _ = AV.fnc _ _ _) | exact (rfl : _ = AV.pby _ _) | exact (rfl : _ = AV.ifc _ _)))) (by rfl)); refine yy2 ?_; (apply awt_s; · exact s_eqlg rfl rfl rfl); (apply awt_s; · exact s_pick_t (v := .raw _) rfl rfl); (apply awt_s; · exact s_move (v := .raw _) rfl); refine zt6 rfl rfl rfl (fun hc => ?_) (fun hc => ?_); (apply awt_s; · exact s_move (v := .sls _ _) rfl); refine yy2 ?_; (apply awt_s; · exact s_len_sls rfl); refine yy2 ?_; (apply awt_s; · exact s_eqn rfl rfl); (apply awt_s; · exact s_pick_t (v := .raw _) rfl rfl); (apply awt_s; · exact s_move (v := .raw _) rfl); refine zt1 rfl rfl rfl (fun hc => ?_) (fun hc => ?_); (apply awt_s; · exact s_move (v := .sls _ _) rfl); refine yy2 ?_; (apply awt_s; · exact s_indexAddr_sls rfl rfl auto_len); refine yy2 ?_; (apply awt_s; · exact s_load_pce rfl auto_idx); refine yy2 ?_; (apply awt_s; · exact s_streq rfl rfl); (apply awt_s; · exact s_pick_t (v := .raw _) rfl rfl); (apply awt_s; · exact s_move (v := .raw _) rfl); refine zt1 rfl rfl rfl (fun hc => ?_) (fun hc => ?_); (apply awt_s; · exact s_move (v := .sls _ _) rfl); refine yy2 ?_; (apply awt_s; · exact s_indexAddr_sls rfl rfl auto_len); refine yy2 ?_; (apply awt_s; · exact s_load_pce_agg rfl rfl rfl (by decide)); refine yy2 ?_; (apply awt_s; · exact s_move (v := .sls _ _) rfl); refine yy2 ?_; (apply awt_s; · exact s_indexAddr_sls rfl rfl auto_len); refine yy2 ?_; (apply awt_s; · exact s_fieldAddr_pce rfl); refine yy2 ?_; (apply awt_s; · exact s_load_pce rfl auto_idx); refine yy2 ?_; (apply awt_s; · exact s_indexAddr_sls rfl rfl auto_len); refine yy2 ?_; (apply awt_s; · exact s_fieldAddr_pce rfl); refine yy2 ?_; (apply awt_s; · exact s_load_pce_agg rfl rfl rfl (by decide)); refine yy2 ?_; (apply awt_s; · exact s_callc auto_wl (ce0 _)); (apply awt_s; · exact s_pick_t (v := .raw _) rfl rfl); (apply awt_s; · exact s_move (v := .raw _) rfl); refine yy2 ?_; (apply awt_s; · exact s_move (v := .sls _ _) rfl); refine yy2 ?_; (apply awt_s; · exact s_indexAddr_sls rfl rfl auto_len); refine yy2 ?_; (apply awt_s; · exact s_load_pce_agg rfl rfl rfl (by decide)); refine yy2 ?_; (apply awt_s; · exact s_move (v := .sls _ _) rfl); refine yy2 ?_; (apply awt_s; · exact s_indexAddr_sls rfl rfl auto_len); refine yy2 ?_; (apply awt_s; · exact s_fieldAddr_pce rfl); refine yy2 ?_; (apply awt_s; · exact s_load_pce rfl auto_idx); refine yy2 ?_; (apply awt_s; · exact s_indexAddr_sls rfl rfl auto_len); refine yy2 ?_; (apply awt_s; · exact s_fieldAddr_pce rfl); refine yy2 ?_; (apply awt_s; · exact s_load_pce_agg rfl rfl rfl (by decide)); refine yy2 ?_; (apply awt_s; · exact s_callc auto_wl (ce1 _)); refine yy2 ?_; (apply awt_s; · exact s_notb rfl); (apply awt_s; · exact s_pick_t (v := .raw _) rfl rfl); (apply awt_s; · exact s_assign (v := .raw _) rfl); refine yy69 ?_; refine aw_ret ?_; rotate_left; exact absurd hc auto_no; exact absurd hc auto_no; refine yy139 ?_; (apply awt_s; · exact s_pick_f (v := .raw _) rfl rfl); (apply awt_s; · exact s_move (v := .raw _) rfl); refine yy56 ?_; (apply awt_s; · exact s_pick_f (v := .raw _) rfl rfl); (apply awt_s; · exact s_move (v := .raw _) rfl); refine yy56 ?_; refine yy56 ?_; refine yy139 ?_; refine zt4 rfl rfl ?_; (apply awt_s; · exact s_pick_f (v := .raw _) rfl rfl); (apply awt_s; · exact s_move (v := .raw _) rfl); refine yy56 ?_; refine yy56 ?_; refine yy56 ?_; (apply awt_s; · exact s_pick_f (v := .raw _) rfl rfl); (apply awt_s; · exact s_assign (v := .raw _) rfl); refine yy69 ?_; refine aw_ret ?_; rotate_left; exact absurd hc auto_no; refine yy139 ?_; (apply awt_s; · exact s_pick_f (v := .raw _) rfl rfl); (apply awt_s; · exact s_move (v := .raw _) rfl); refine yy56 ?_; (apply awt_s; · exact s_pick_f (v := .raw _) rfl rfl); (apply awt_s; · exact s_move (v := .raw _) rfl); refine yy139 ?_; refine zt4 rfl rfl ?_; (apply awt_s; · exact s_pick_f (v := .raw _) rfl rfl); (apply awt_s; · exact s_move (v := .raw _) rfl); refine yy56 ?_; (apply awt_s; · exact s_pick_f (v := .raw _) rfl rfl); (apply awt_s; · exact s_move (v := .raw _) rfl); refine yy56 ?_; refine yy56 ?_; refine yy139 ?_; refine zt4 rfl rfl ?_; (apply awt_s; · exact s_pick_f (v := .raw _) rfl rfl); (apply awt_s; · exact s_move (v := .raw _) rfl); refine yy56 ?_; refine yy56 ?_; refine yy56 ?_; (apply awt_s; · exact s_pick_f (v := .raw _) rfl rfl); (apply awt_s; · exact s_assign (v := .raw _) rfl); refine yy69 ?_; refine aw_ret ?_; rotate_left) | fail)
  all_goals first | exact ⟨.inl rfl, _, _, _, Ent.gc auto_sub, ret1 rfl rfl, by rfl, rfl⟩ | (exfalso; first | simp at hc | (revert hc; decide))
end Go.Proofs.Ytmgkhfnhaeplgaa

namespace Go.Proofs.Ytmgkhfnhaeplgaa
open Go
set_option linter.unusedSimpArgs false
set_option linter.unusedVariables false
set_option maxRecDepth 20000

/-! What the reference's check of names leaves: plain. -/
theorem failC_pos (c : Ck) (e a : Nat) (he : e ≠ 0) : (failC c e a).1 ≠ 0 := by
  unfold failC
  by_cases h : c.1 = 0
  · rw [if_pos h]; exact he
  · rw [if_neg h]; exact h
theorem failC_if {b : Bool} {c : Ck} {e a : Nat} (he : e ≠ 0) (h : (if b = true then c else failC c e a).1 = 0) : c.1 = 0 ∧ b = true := by
  cases b with
  | true => exact ⟨h, rfl⟩
  | false => exact absurd h (failC_pos c e a he)
theorem failC_ifn {b : Bool} {c : Ck} {e a : Nat} (he : e ≠ 0) (h : (if b = true then failC c e a else c).1 = 0) : c.1 = 0 ∧ b = false := by
  cases b with
  | false => exact ⟨h, rfl⟩
  | true => exact absurd h (failC_pos c e a he)
mutual
def nmE (ahead : List Nd) (n : Nd) : Ex → Prop
  | .mk op nm _ _ ks => nameOk ahead n op nm ks.length = true ∧ nmL ahead n ks
def nmL (ahead : List Nd) (n : Nd) : List Ex → Prop
  | [] => True
  | e :: l => nmE ahead n e ∧ nmL ahead n l
end
section
variable {ahead : List Nd} {n : Nd}
mutual
theorem namesE_ok : ∀ (e : Ex) (c : Ck), (namesE ahead n c e).1 = 0 → c.1 = 0 ∧ nmE ahead n e
  | .mk op nm nn at_ ks, c, h => by
    rw [namesE] at h
    have h1 := namesL_ok ks _ h
    have h2 := failC_if (by decide) h1.1
    exact ⟨h2.1, by rw [nmE]; exact ⟨h2.2, h1.2⟩⟩
theorem namesL_ok : ∀ (l : List Ex) (c : Ck), (namesL ahead n c l).1 = 0 → c.1 = 0 ∧ nmL ahead n l
  | [], c, h => ⟨by rw [namesL] at h; exact h, by rw [nmL]; trivial⟩
  | e :: l, c, h => by
    rw [namesL] at h
    have h1 := namesL_ok l _ h
    have h2 := namesE_ok e _ h1.1
    exact ⟨h2.1, by rw [nmL]; exact ⟨h2.2, h1.2⟩⟩
end
theorem nameV_ok {pre : List Vr} {v : Vr} {c : Ck} (h : (nameV pre v c).1 = 0) : c.1 = 0 ∧ (v.on = [] ∨ inputL v.on pre = true) := by
  unfold nameV at h
  have h1 := failC_if (by decide) h
  have h2 := failC_ifn (by decide) h1.1
  exact ⟨h2.1, by simpa using h1.2⟩
theorem namesV_ok : ∀ (l pre : List Vr) (c : Ck), (namesV pre l c).1 = 0 → c.1 = 0 ∧ ∀ (k : Nat) (v : Vr), l[k]? = some v → v.on = [] ∨ inputL v.on (pre ++ l.take k) = true
  | [], pre, c, h => ⟨h, fun k v hv => by cases k <;> cases hv⟩
  | v :: r, pre, c, h => by
    rw [namesV] at h
    have h1 := namesV_ok r _ _ h
    have h2 := nameV_ok h1.1
    refine ⟨h2.1, fun k u hu => ?_⟩
    cases k with
    | zero => cases hu; rw [List.take_zero, List.append_nil]; exact h2.2
    | succ k =>
      have := h1.2 k u hu
      rwa [List.append_assoc] at this
theorem on_ok {c : Ck} (h : (namesV [] (varsN n) c).1 = 0) : c.1 = 0 ∧ OnOk n := by
  have h1 := namesV_ok _ _ _ h
  refine ⟨h1.1, fun k v hv ho => ?_⟩
  have h2 := (h1.2 k v hv).resolve_left ho
  rw [List.nil_append] at h2
  unfold inputL at h2
  rw [List.any_eq_true] at h2
  obtain ⟨u, hu, he⟩ := h2
  obtain ⟨j, hj⟩ := List.mem_iff_getElem?.1 hu
  rw [List.getElem?_take] at hj
  split at hj
  · rename_i hjk; exact ⟨j, u, hjk, hj, by simpa using he⟩
  · cases hj
theorem namesQ_ok : ∀ (l pre : List Eqn) (c : Ck), (namesQ ahead n pre l c).1 = 0 → c.1 = 0 ∧ ∀ q ∈ l, (findV n q.name).2 = true ∧ nmE ahead n q.e
  | [], pre, c, h => ⟨h, fun q hq => by cases hq⟩
  | q :: r, pre, c, h => by
    rw [namesQ] at h
    have h1 := namesQ_ok r _ _ h
    have h2 := h1.1
    unfold nameQ at h2
    have h3 := namesE_ok q.e _ h2
    have h4 := failC_ifn (by decide) h3.1
    refine ⟨h4.1, fun u hu => ?_⟩
    rcases List.mem_cons.1 hu with rfl | hu
    · refine ⟨?_, h3.2⟩
      have := h4.2
      simp only [Bool.or_eq_false_iff, Bool.not_eq_false'] at this
      exact this.1.1
    · exact h1.2 u hu
theorem namesO_ok : ∀ (l : List Vr) (c : Ck), (namesO n l c).1 = 0 → c.1 = 0
  | [], c, h => h
  | v :: r, c, h => by
    rw [namesO] at h
    exact (failC_if (by decide) (namesO_ok r _ h)).1
/-- What the check of names leaves of a node. -/
structure NmN (ahead : List Nd) (n : Nd) : Prop where
  on : OnOk n
  decl : ∀ q ∈ n.eqs, (findV n q.name).2 = true
  nm : ∀ q ∈ n.eqs, nmE ahead n q.e
theorem nameN_ok {c : Ck} (h : (nameN ahead n c).1 = 0) : c.1 = 0 ∧ NmN ahead n := by
  unfold nameN at h
  have h1 := namesQ_ok _ _ _ (namesO_ok _ _ h)
  have h2 := on_ok h1.1
  have h3 := failC_ifn (by decide) h2.1
  exact ⟨h3.1, h2.2, fun q hq => (h1.2 q hq).1, fun q hq => (h1.2 q hq).2⟩
end
theorem namesN_ok : ∀ (l pre : List Nd) (c : Ck), (namesN pre l c).1 = 0 → c.1 = 0 ∧ ∀ (k : Nat) (n : Nd), l[k]? = some n → NmN (pre ++ l.take k) n
  | [], pre, c, h => ⟨h, fun k n hn => by cases k <;> cases hn⟩
  | n :: r, pre, c, h => by
    rw [namesN] at h
    have h1 := namesN_ok r _ _ h
    have h2 := nameN_ok h1.1
    refine ⟨h2.1, fun k u hu => ?_⟩
    cases k with
    | zero => cases hu; rw [List.take_zero, List.append_nil]; exact h2.2
    | succ k =>
      have := h1.2 k u hu
      rwa [List.append_assoc] at this
theorem nodeL_app (s : Bs) : ∀ (l r : List Nd) (i : Nat), 0 ≤ nodeL s l i → nodeL s (l ++ r) i = nodeL s l i
  | [], r, i, h => by rw [nodeL] at h; exact absurd h (by decide)
  | n :: l, r, i, h => by
    rw [List.cons_append, nodeL, nodeL]
    rw [nodeL] at h
    by_cases hn : n.name = s
    · rw [if_pos hn, if_pos hn]
    · rw [if_neg hn, if_neg hn]; rw [if_neg hn] at h; exact nodeL_app s l r _ h
mutual
theorem nm_exOk {ahead rest : List Nd} {n : Nd} : ∀ (e : Ex), arE e → nmE ahead n e → exOk (ahead ++ rest) e
  | .mk op nm nn at_ ks, ha, h => by
    rw [arE] at ha
    rw [nmE] at h
    rw [exOk]
    refine ⟨⟨ha.1, fun hc => ?_⟩, nm_exOkL ks ha.2 h.2⟩
    have h1 := h.1
    subst hc
    unfold nameOk at h1
    rw [if_neg (by decide), if_pos rfl] at h1
    simp only [Bool.and_eq_true, decide_eq_true_eq] at h1
    obtain ⟨h2, h3⟩ := h1
    cases hm : ahead[(nodeOf ahead nm).toNat]? with
    | none => rw [hm] at h3; cases h3
    | some m =>
      rw [hm] at h3
      simp only [Bool.and_eq_true, decide_eq_true_eq] at h3
      refine ⟨(nodeOf ahead nm).toNat, m, ?_, ?_, h3.1, h3.2⟩
      · rw [List.getElem?_append_left (List.getElem?_eq_some_iff.1 hm).1]; exact hm
      · unfold nodeOf at *
        rw [nodeL_app _ _ _ _ h2, Int.toNat_of_nonneg h2]
theorem nm_exOkL {ahead rest : List Nd} {n : Nd} : ∀ (l : List Ex), arL l → nmL ahead n l → exOkL (ahead ++ rest) l
  | [], _, _ => by rw [exOkL]; trivial
  | e :: l, ha, h => by
    rw [arL] at ha
    rw [nmL] at h
    rw [exOkL]
    exact ⟨nm_exOk e ha.1 h.1, nm_exOkL l ha.2 h.2⟩
end
/-- Names answered 0: what kinds, clocks and the rest lean on. -/
theorem names_ok {l : List Nd} (h : (names l).1 = 0) (hg : ∀ n ∈ l, NdG n) : ∀ n ∈ l, OnOk n ∧ (∀ q ∈ n.eqs, (findV n q.name).2 = true) ∧ ∀ q ∈ n.eqs, exOk l q.e := by
  have h1 := (namesN_ok l [] _ h).2
  intro n hn
  obtain ⟨k, hk⟩ := List.mem_iff_getElem?.1 hn
  have h2 := h1 k n hk
  rw [List.nil_append] at h2
  refine ⟨h2.on, h2.decl, fun q hq => ?_⟩
  have := nm_exOk (rest := l.drop k) q.e ((hg n hn).ar q hq) (h2.nm q hq)
  rwa [List.take_append_drop] at this
end Go.Proofs.Ytmgkhfnhaeplgaa

namespace Go.Proofs.Ytmgkhfnhaeplgaa
open Go
set_option linter.unusedSimpArgs false
set_option linter.unusedVariables false
set_option maxRecDepth 20000

/-! Both sides tell the same late names and the same first fault. Plain. -/
theorem findL_name (s : Bs) : ∀ (l : List Vr) {v : Vr}, findL s l = (v, true) → v.name = s
  | [], v, h => by cases h
  | x :: l, v, h => by
    unfold findL at h
    by_cases hx : x.name = s
    · rw [if_pos hx] at h; cases h; exact hx
    · rw [if_neg hx] at h; exact findL_name s l h
theorem hasB_late {n : Nd} (h : ∀ q ∈ n.eqs, (findV n q.name).2 = true) : hasB (lateN n) = hasB (lateNames n) := by
  funext s
  rw [Bool.eq_iff_iff, hasB_iff, hasB_iff]
  unfold lateN
  rw [List.mem_map]
  constructor
  · rintro ⟨v, hv, rfl⟩
    rw [List.mem_filter] at hv
    exact hasB_iff.1 hv.2
  · intro hs
    obtain ⟨q, hq, he⟩ := List.mem_map.1 ((lateNames_ok n).sub s hs)
    have h1 := h q hq
    unfold findV at h1
    generalize hf : findL q.name (varsN n) = f at h1
    obtain ⟨v, b⟩ := f
    simp only at h1
    subst h1
    obtain ⟨k, hk, _⟩ := findL_spec _ _ hf
    have hn : v.name = q.name := findL_name _ _ hf
    refine ⟨v, List.mem_filter.2 ⟨List.mem_of_getElem? hk, ?_⟩, hn.trans he⟩
    rw [hn, he]
    exact hasB_iff.2 hs
theorem failC_same {c : Ck} {e a : Nat} (h : c.1 ≠ 0) : failC c e a = c := by unfold failC; rw [if_neg h]
theorem initC_same {c : Ck} (x : Option Nat) (h : c.1 ≠ 0) : initC c x = c := by
  cases x with
  | none => rfl
  | some a => exact failC_same h
theorem initsQ_eq (p : Bs → Bool) (n : Nd) : ∀ (l : List Eqn) (c : Ck), initsQ p n l c = initC c (checkQ p n l)
  | [], c => rfl
  | q :: r, c => by
    rw [initsQ, initsQ_eq p n r, checkQ]
    unfold initQ
    cases hw : wrongE p q.e with
    | some a =>
      show initC (if _ = true then failC (failC c 11 a) 11 q.at_ else failC c 11 a) _ = failC c 11 a
      have h := failC_pos c 11 a (by decide)
      rw [failC_same h]
      have : (if (toldB n q.name && p q.name) = true then failC c 11 a else failC c 11 a) = failC c 11 a := by split <;> rfl
      rw [this, initC_same _ h]
    | none =>
      show initC (if _ = true then failC c 11 q.at_ else c) _ = initC c (if _ = true then some q.at_ else checkQ p n r)
      rw [Bool.and_comm (p q.name)]
      by_cases hb : (toldB n q.name && p q.name) = true
      · rw [if_pos hb, if_pos hb, initC_same _ (failC_pos c 11 _ (by decide))]; rfl
      · rw [if_neg hb, if_neg hb]
theorem initsN_eq : ∀ (l : List Nd) (c : Ck), (∀ n ∈ l, ∀ q ∈ n.eqs, (findV n q.name).2 = true) → initsN l c = initC c (checkN l)
  | [], c, h => rfl
  | n :: r, c, h => by
    rw [initsN, initsN_eq r _ (fun m hm => h m (List.mem_cons_of_mem _ hm)), checkN, hasB_late (h n List.mem_cons_self), initsQ_eq]
    cases checkQ (hasB (lateNames n)) n n.eqs with
    | none => rfl
    | some a => exact initC_same _ (failC_pos c 11 a (by decide))
theorem inits_flt {l : List Nd} (h : ∀ n ∈ l, ∀ q ∈ n.eqs, (findV n q.name).2 = true) : inits l = fltN l := by
  unfold inits fltN
  rw [initsN_eq l _ h]
  cases checkN l <;> rfl

/-! What is late is the least set that the equations close. -/
mutual
theorem lateE_mono {p p' : Bs → Bool} (h : ∀ s, p s = true → p' s = true) : ∀ e : Ex, lateE p e = true → lateE p' e = true
  | .mk op nm nn at_ ks, he => by
    rw [lateE] at he ⊢
    by_cases h1 : op = ([118, 97, 114] : Bs)
    · rw [if_pos h1] at he ⊢; exact h _ he
    · rw [if_neg h1] at he ⊢
      by_cases h2 : op = ([112, 114, 101] : Bs)
      · rw [if_pos h2]
      · rw [if_neg h2] at he ⊢
        by_cases h3 : op = ([45, 62] : Bs) ∨ op = ([102, 98, 121] : Bs) ∨ op = ([109, 101, 114, 103, 101] : Bs) ∨ op = ([99, 97, 108, 108] : Bs) ∨ op = ([105, 110, 116] : Bs) ∨ op = ([98, 111, 111, 108] : Bs)
        · rw [if_pos h3] at he; cases he
        · rw [if_neg h3] at he ⊢; exact lateL_mono h ks he
theorem lateL_mono {p p' : Bs → Bool} (h : ∀ s, p s = true → p' s = true) : ∀ l : List Ex, lateL p l = true → lateL p' l = true
  | [], he => by rw [lateL] at he; cases he
  | e :: l, he => by
    rw [lateL, Bool.or_eq_true] at he ⊢
    exact he.imp (lateE_mono h e) (lateL_mono h l)
end
end Go.Proofs.Ytmgkhfnhaeplgaa

namespace Go.Proofs.Ytmgkhfnhaeplgaa
open Go Go.Am Go.Proofs
set_option linter.unusedSimpArgs false
set_option linter.unusedVariables false
set_option maxRecDepth 20000
set_option maxHeartbeats 8000000

/-! The reference: Upto, as far as clocks. -/
def okU (x : List Nd × Nat × Nat) : Bool := decide (x.2.1 = 0) && decide ((names x.1).1 = 0) && decide ((types x.1).1 = 0) && decide ((clocks x.1).1 = 0)
def uptoA (x : List Nd × Nat × Nat) : AV := if okU x = true then .tup [ndsA x.1, avB true] else .tup [.raw (.slice none 0 0), avB false]
theorem Upto_calls (H : AHeap) (t : Bs) (hl : t.length ≤ 2000000) : ACalls Try.prog 10 [.str t, avI 8] H fun r H' => r = uptoA (parse t) ∧ H' = H := by
  have cp := fun H => Parse_calls H t hl
  have hlen := parse_len t
  have hnd := parse_nd t
  unfold uptoA okU
  generalize parse t = x at *
  obtain ⟨l, a, b⟩ := x
  simp only at *
  unfold parseA at cp
  simp only at cp
  have hvl := nd_len l
  have hok : ∀ n ∈ l, NdOk n := fun n hn => (hnd n hn).ok
  have cn := fun H => Names_calls H l (by omega) hok
  by_cases h1 : a = 0
  · subst h1
    by_cases h2 : (names l).1 = 0
    · have hno := names_ok h2 hnd
      have ct := fun H => Types_calls H l (by omega) hok (fun n hn => (hno n hn).2.2)
      have cc := fun H => Clocks_calls H l (by omega) hok (fun n hn => (hno n hn).2.2) (fun n hn => (hno n hn).1)
      clear hno hnd hok
      generalize names l = c1 at *
      generalize types l = c2 at *
      generalize clocks l = c3 at *
      obtain ⟨e1, a1⟩ := c1
      obtain ⟨e2, a2⟩ := c2
      obtain ⟨e3, a3⟩ := c3
      simp only [ckA] at *
      subst h2
      by_cases h3 : e2 = 0
      · subst h3
        by_cases h4 : e3 = 0
        · subst h4
          refine acalls_of_aw2 Try.func10 rfl (by decide) ?_
          (first | focus (refine yy3 ?_; refine yy23 ?_; refine yy5 ?_; refine yy3 ?_; refine yy125 ?_; (refine zc auto_wl (cp _) ?_; rintro r H' ⟨rfl, rfl⟩); refine yy79 ?_; refine awl_alloc rfl rfl rfl (fun oN hoN => ?_); refine yy80 ?_; refine yy12 ?_; refine yy42 ?_; refine yy18 ?_; refine yy24 ?_; refine zg1 rfl rfl rfl (fun hc => ?_) (fun hc => ?_); refine yy17 ?_; refine yy141 ?_; refine yy78 ?_; refine aw_condp rfl (fun hc => ?_) (fun hc => ?_); refine yy111 ?_; (refine zc auto_wl (cn _) ?_; rintro r H' ⟨rfl, rfl⟩); refine yy12 ?_; refine yy42 ?_; refine yy18 ?_; refine yy24 ?_; refine zg1 rfl rfl rfl (fun hc => ?_) (fun hc => ?_); refine yy17 ?_; refine yy141 ?_; refine yy78 ?_; refine aw_condp rfl (fun hc => ?_) (fun hc => ?_); refine yy111 ?_; (refine zc auto_wl (ct _) ?_; rintro r H' ⟨rfl, rfl⟩); refine yy12 ?_; refine yy42 ?_; refine yy18 ?_; refine yy24 ?_; refine zg1 rfl rfl rfl (fun hc => ?_) (fun hc => ?_); refine yy17 ?_; refine yy141 ?_; refine yy78 ?_; refine aw_condp rfl (fun hc => ?_) (fun hc => ?_); refine yy111 ?_; (refine zc auto_wl (cc _) ?_; rintro r H' ⟨rfl, rfl⟩); refine yy12 ?_; refine yy42 ?_; refine yy18 ?_; refine yy24 ?_; refine zg1 rfl rfl rfl (fun hc => ?_) (fun hc => ?_); refine yy17 ?_; refine yy141 ?_; refine yy78 ?_; refine yy60 ?_; intro hc; refine yy117 ?_; refine yy24 ?_; refine zg1 rfl rfl rfl (fun hc => ?_) (fun hc => ?_); refine yy17 ?_; refine yy141 ?_; refine yy78 ?_; refine yy60 ?_; intro hc; refine yy117 ?_; refine yy115 ?_; refine yy60 ?_; intro hc; refine yy76 ?_; refine yy80 ?_; refine yy97 ?_; rotate_left; exact absurd hc auto_no; exact absurd hc auto_no; exact absurd hc auto_no; exact absurd hc auto_no; exact absurd hc auto_no; exact absurd hc auto_no; exact absurd hc auto_no; exact absurd hc auto_no) | fail)
          all_goals first | exact ⟨.inl rfl, _, _, _, Ent.gc auto_sub, ret_2 rfl (rv1_tmp rfl) (rv1_tmp rfl), by rfl, rfl⟩ | (exfalso; omega) | trace_state
        · have hd : decide (e3 = 0) = false := decide_eq_false h4
          rw [hd]
          clear hd
          refine acalls_of_aw2 Try.func10 rfl (by decide) ?_
          (first | focus (refine yy3 ?_; refine yy23 ?_; refine yy5 ?_; refine yy3 ?_; refine yy125 ?_; (refine zc auto_wl (cp _) ?_; rintro r H' ⟨rfl, rfl⟩); refine yy79 ?_; refine awl_alloc rfl rfl rfl (fun oN hoN => ?_); refine yy80 ?_; refine yy12 ?_; refine yy42 ?_; refine yy18 ?_; refine yy24 ?_; refine zg1 rfl rfl rfl (fun hc => ?_) (fun hc => ?_); refine yy17 ?_; refine yy141 ?_; refine yy78 ?_; refine aw_condp rfl (fun hc => ?_) (fun hc => ?_); refine yy111 ?_; (refine zc auto_wl (cn _) ?_; rintro r H' ⟨rfl, rfl⟩); refine yy12 ?_; refine yy42 ?_; refine yy18 ?_; refine yy24 ?_; refine zg1 rfl rfl rfl (fun hc => ?_) (fun hc => ?_); refine yy17 ?_; refine yy141 ?_; refine yy78 ?_; refine aw_condp rfl (fun hc => ?_) (fun hc => ?_); refine yy111 ?_; (refine zc auto_wl (ct _) ?_; rintro r H' ⟨rfl, rfl⟩); refine yy12 ?_; refine yy42 ?_; refine yy18 ?_; refine yy24 ?_; refine zg1 rfl rfl rfl (fun hc => ?_) (fun hc => ?_); refine yy17 ?_; refine yy141 ?_; refine yy78 ?_; refine aw_condp rfl (fun hc => ?_) (fun hc => ?_); refine yy111 ?_; (refine zc auto_wl (cc _) ?_; rintro r H' ⟨rfl, rfl⟩); refine yy12 ?_; refine yy42 ?_; refine yy18 ?_; refine yy24 ?_; refine zg1 rfl rfl rfl (fun hc => ?_) (fun hc => ?_); exact absurd hc auto_no; replace hc := hide_nat hc; refine yy50 ?_; refine yy32 ?_; refine yy117 ?_; refine yy24 ?_; refine zg1 rfl rfl rfl (fun hc => ?_) (fun hc => ?_); exact absurd hc (Hdq.out (by assumption)); replace hc := hide_nat hc; refine yy50 ?_; refine yy32 ?_; refine yy117 ?_; refine yy115 ?_; refine aw_condp rfl (fun hc => ?_) (fun hc => ?_); replace hc := hide_nat hc; refine yy3 ?_; refine yy23 ?_; refine yy97 ?_; refine k_seq_ret ?_; rotate_left; exact absurd hc auto_no; exact absurd hc auto_no; exact absurd hc auto_no; exact absurd hc auto_no; exact absurd hc auto_no; exact absurd hc auto_no; exact absurd hc auto_no) | fail)
          all_goals first | exact ⟨.inl rfl, _, _, _, Ent.gc auto_sub, ret_2 rfl (rv1_tmp rfl) (rv1_tmp rfl), by rfl, rfl⟩ | (exfalso; omega) | trace_state
      · have hd : decide (e2 = 0) = false := decide_eq_false h3
        rw [hd]
        clear hd cc
        refine acalls_of_aw2 Try.func10 rfl (by decide) ?_
        (first | focus (refine yy3 ?_; refine yy23 ?_; refine yy5 ?_; refine yy3 ?_; refine yy125 ?_; (refine zc auto_wl (cp _) ?_; rintro r H' ⟨rfl, rfl⟩); refine yy79 ?_; refine awl_alloc rfl rfl rfl (fun oN hoN => ?_); refine yy80 ?_; refine yy12 ?_; refine yy42 ?_; refine yy18 ?_; refine yy24 ?_; refine zg1 rfl rfl rfl (fun hc => ?_) (fun hc => ?_); refine yy17 ?_; refine yy141 ?_; refine yy78 ?_; refine aw_condp rfl (fun hc => ?_) (fun hc => ?_); refine yy111 ?_; (refine zc auto_wl (cn _) ?_; rintro r H' ⟨rfl, rfl⟩); refine yy12 ?_; refine yy42 ?_; refine yy18 ?_; refine yy24 ?_; refine zg1 rfl rfl rfl (fun hc => ?_) (fun hc => ?_); refine yy17 ?_; refine yy141 ?_; refine yy78 ?_; refine aw_condp rfl (fun hc => ?_) (fun hc => ?_); refine yy111 ?_; (refine zc auto_wl (ct _) ?_; rintro r H' ⟨rfl, rfl⟩); refine yy12 ?_; refine yy42 ?_; refine yy18 ?_; refine yy24 ?_; refine zg1 rfl rfl rfl (fun hc => ?_) (fun hc => ?_); exact absurd hc auto_no; replace hc := hide_nat hc; refine yy50 ?_; refine yy32 ?_; refine yy117 ?_; refine yy24 ?_; refine zg1 rfl rfl rfl (fun hc => ?_) (fun hc => ?_); exact absurd hc (Hdq.out (by assumption)); replace hc := hide_nat hc; refine yy50 ?_; refine yy32 ?_; refine yy117 ?_; refine yy24 ?_; refine zg1 rfl rfl rfl (fun hc => ?_) (fun hc => ?_); exact absurd hc (Hdq.out (by assumption)); replace hc := hide_nat hc; refine yy50 ?_; refine yy32 ?_; refine yy117 ?_; refine yy115 ?_; refine aw_condp rfl (fun hc => ?_) (fun hc => ?_); replace hc := hide_nat hc; refine yy3 ?_; refine yy23 ?_; refine yy97 ?_; refine k_seq_ret ?_; rotate_left; exact absurd hc auto_no; exact absurd hc auto_no; exact absurd hc auto_no; exact absurd hc auto_no; exact absurd hc auto_no) | fail)
        all_goals first | exact ⟨.inl rfl, _, _, _, Ent.gc auto_sub, ret_2 rfl (rv1_tmp rfl) (rv1_tmp rfl), by rfl, rfl⟩ | (exfalso; omega) | trace_state
    · have hd : decide ((names l).1 = 0) = false := decide_eq_false h2
      rw [hd]
      clear hd hnd hok
      generalize names l = c1 at *
      obtain ⟨e1, a1⟩ := c1
      simp only [ckA] at *
      refine acalls_of_aw2 Try.func10 rfl (by decide) ?_
      (first | focus (refine yy3 ?_; refine yy23 ?_; refine yy5 ?_; refine yy3 ?_; refine yy125 ?_; (refine zc auto_wl (cp _) ?_; rintro r H' ⟨rfl, rfl⟩); refine yy79 ?_; refine awl_alloc rfl rfl rfl (fun oN hoN => ?_); refine yy80 ?_; refine yy12 ?_; refine yy42 ?_; refine yy18 ?_; refine yy24 ?_; refine zg1 rfl rfl rfl (fun hc => ?_) (fun hc => ?_); refine yy17 ?_; refine yy141 ?_; refine yy78 ?_; refine aw_condp rfl (fun hc => ?_) (fun hc => ?_); refine yy111 ?_; (refine zc auto_wl (cn _) ?_; rintro r H' ⟨rfl, rfl⟩); refine yy12 ?_; refine yy42 ?_; refine yy18 ?_; refine yy24 ?_; refine zg1 rfl rfl rfl (fun hc => ?_) (fun hc => ?_); exact absurd hc auto_no; replace hc := hide_nat hc; refine yy50 ?_; refine yy32 ?_; refine yy117 ?_; refine yy24 ?_; refine zg1 rfl rfl rfl (fun hc => ?_) (fun hc => ?_); exact absurd hc (Hdq.out (by assumption)); replace hc := hide_nat hc; refine yy50 ?_; refine yy32 ?_; refine yy117 ?_; refine yy24 ?_; refine zg1 rfl rfl rfl (fun hc => ?_) (fun hc => ?_); exact absurd hc (Hdq.out (by assumption)); replace hc := hide_nat hc; refine yy50 ?_; refine yy32 ?_; refine yy117 ?_; refine yy24 ?_; refine zg1 rfl rfl rfl (fun hc => ?_) (fun hc => ?_); exact absurd hc (Hdq.out (by assumption)); replace hc := hide_nat hc; refine yy50 ?_; refine yy32 ?_; refine yy117 ?_; refine yy115 ?_; refine aw_condp rfl (fun hc => ?_) (fun hc => ?_); replace hc := hide_nat hc; refine yy3 ?_; refine yy23 ?_; refine yy97 ?_; refine k_seq_ret ?_; rotate_left; exact absurd hc auto_no; exact absurd hc auto_no; exact absurd hc auto_no) | fail)
      all_goals first | exact ⟨.inl rfl, _, _, _, Ent.gc auto_sub, ret_2 rfl (rv1_tmp rfl) (rv1_tmp rfl), by rfl, rfl⟩ | (exfalso; omega) | trace_state
  · have hd : decide (a = 0) = false := decide_eq_false h1
    rw [hd]
    clear hd cn hnd hok
    refine acalls_of_aw2 Try.func10 rfl (by decide) ?_
    (first | focus (refine yy3 ?_; refine yy23 ?_; refine yy5 ?_; refine yy3 ?_; refine yy125 ?_; (refine zc auto_wl (cp _) ?_; rintro r H' ⟨rfl, rfl⟩); refine yy79 ?_; refine awl_alloc rfl rfl rfl (fun oN hoN => ?_); refine yy80 ?_; refine yy12 ?_; refine yy42 ?_; refine yy18 ?_; refine yy24 ?_; refine zg1 rfl rfl rfl (fun hc => ?_) (fun hc => ?_); exact absurd hc auto_no; replace hc := hide_nat hc; refine yy50 ?_; refine yy32 ?_; refine yy117 ?_; refine yy24 ?_; refine zg1 rfl rfl rfl (fun hc => ?_) (fun hc => ?_); exact absurd hc (Hdq.out (by assumption)); replace hc := hide_nat hc; refine yy50 ?_; refine yy32 ?_; refine yy117 ?_; refine yy24 ?_; refine zg1 rfl rfl rfl (fun hc => ?_) (fun hc => ?_); exact absurd hc (Hdq.out (by assumption)); replace hc := hide_nat hc; refine yy50 ?_; refine yy32 ?_; refine yy117 ?_; refine yy24 ?_; refine zg1 rfl rfl rfl (fun hc => ?_) (fun hc => ?_); exact absurd hc (Hdq.out (by assumption)); replace hc := hide_nat hc; refine yy50 ?_; refine yy32 ?_; refine yy117 ?_; refine yy24 ?_; refine zg1 rfl rfl rfl (fun hc => ?_) (fun hc => ?_); exact absurd hc (Hdq.out (by assumption)); replace hc := hide_nat hc; refine yy50 ?_; refine yy32 ?_; refine yy117 ?_; refine yy115 ?_; refine aw_condp rfl (fun hc => ?_) (fun hc => ?_); replace hc := hide_nat hc; refine yy3 ?_; refine yy23 ?_; refine yy97 ?_; refine k_seq_ret ?_; rotate_left; exact absurd hc auto_no) | fail)
    all_goals first | exact ⟨.inl rfl, _, _, _, Ent.gc auto_sub, ret_2 rfl (rv1_tmp rfl) (rv1_tmp rfl), by rfl, rfl⟩ | (exfalso; omega) | trace_state
end Go.Proofs.Ytmgkhfnhaeplgaa

namespace Go.Proofs.Ytmgkhfnhaeplgaa
open Go Go.Am Go.Proofs
set_option linter.unusedSimpArgs false
set_option linter.unusedVariables false
set_option maxRecDepth 20000
set_option maxHeartbeats 8000000

/-! The reference's Turned. -/
end Go.Proofs.Ytmgkhfnhaeplgaa

namespace Go.Proofs.Ytmgkhfnhaeplgaa
open Go Go.Am Go.Proofs
set_option linter.unusedSimpArgs false
set_option linter.unusedVariables false
set_option maxRecDepth 20000
set_option maxHeartbeats 8000000

/-! The law IniSays, walked. -/
theorem lateN_top {n : Nd} (hn : NdG n) : (lateN n).length ≤ 2000000 := by
  unfold lateN
  rw [List.length_map]
  refine Nat.le_trans (List.length_filter_le _ _) ?_
  unfold varsN
  rw [List.length_append, List.length_append]
  have := hn.sm
  omega
theorem okU_ok {x : List Nd × Nat × Nat} (h : okU x = true) : x.2.1 = 0 ∧ (names x.1).1 = 0 := by
  unfold okU at h
  simp only [Bool.and_eq_true, decide_eq_true_eq] at h
  exact ⟨h.1.1.1, h.1.1.2⟩
theorem Says_calls (H : AHeap) (t : Bs) (hl : t.length ≤ 2000000) : ACalls Try.prog 4 [.str t] H fun r _ => r = .raw (.bool true) := by
  by_cases hlt : 2500 < t.length
  · refine acalls_of_aw1 Try.func4 rfl (by decide) ?_
    (first | focus (refine yy11 ?_; refine yy73 ?_; (refine zc auto_wl (awake_calls _) ?_; rintro r H' ⟨rfl, rfl⟩); refine yy53 ?_; refine yy32 ?_; refine yy73 ?_; refine yy59 ?_; refine yy131 ?_; refine yy4 ?_; refine aw_condp rfl (fun hc => ?_) (fun hc => ?_); refine yy11 ?_; refine aw_ret ?_; refine k_seq_ret ?_; rotate_left; exact absurd hc auto_no) | fail)
    all_goals first | exact ⟨.inl rfl, _, _, _, Ent.gc auto_sub, ret1 rfl rfl, rfl⟩ | (exfalso; omega) | trace_state
  have cu := fun H => Upto_calls H t hl
  have hnd := parse_nd t
  have hlen := parse_len t
  generalize parse t = x at *
  unfold uptoA at cu
  cases hu : okU x with
  | false =>
    rw [hu, if_neg (by decide)] at cu
    clear hu hnd
    refine acalls_of_aw1 Try.func4 rfl (by decide) ?_
    (first | focus (refine yy11 ?_; refine yy73 ?_; (refine zc auto_wl (awake_calls _) ?_; rintro r H' ⟨rfl, rfl⟩); refine yy53 ?_; refine yy32 ?_; refine yy73 ?_; refine yy59 ?_; refine yy131 ?_; refine yy4 ?_; refine yy60 ?_; intro hc; refine yy3 ?_; refine yy125 ?_; (refine zc auto_wl (cu _) ?_; rintro r H' ⟨rfl, rfl⟩); refine yy79 ?_; refine yy23 ?_; refine yy5 ?_; refine yy8 ?_; refine yy104 ?_; refine yy11 ?_; refine aw_ret ?_; refine k_seq_ret ?_; rotate_left) | fail)
    all_goals first | exact ⟨.inl rfl, _, _, _, Ent.gc auto_sub, ret1 rfl rfl, rfl⟩ | (exfalso; omega) | trace_state
  | true =>
    rw [hu, if_pos rfl] at cu
    have hk := okU_ok hu
    clear hu
    obtain ⟨l, a, b⟩ := x
    simp only at *
    have hno := names_ok hk.2 hnd
    have hok : ∀ n ∈ l, NdOk n := fun n hn => (hnd n hn).ok
    have hdc : ∀ n ∈ l, ∀ q ∈ n.eqs, (findV n q.name).2 = true := fun n hn => (hno n hn).2.1
    have hvl := nd_len l
    have cb := fun H => Back_calls H l (by omega) hok
    have ck := fun H => Check_calls H l (by omega) hok
    have ci := fun H => Inits_calls H l (by omega) hok
    simp only [faultA_eq] at ck
    rw [inits_flt hdc] at ci
    have htp : ∀ n ∈ l, (lateN n).length ≤ 2000000 := fun n hn => lateN_top (hnd n hn)
    clear hk hno hnd
    generalize fltN l = z at *
    obtain ⟨z1, z2⟩ := z
    simp only [ckA] at *
    have cd := fun H => Bad_calls H (z1 : Int) (z2 : Int)
    refine acalls_of_aw1 Try.func4 rfl (by decide) ?_
    (first | focus (refine yy11 ?_; refine yy73 ?_; (refine zc auto_wl (awake_calls _) ?_; rintro r H' ⟨rfl, rfl⟩); refine yy53 ?_; refine yy32 ?_; refine yy73 ?_; refine yy59 ?_; refine yy131 ?_; refine yy4 ?_; refine yy60 ?_; intro hc; refine yy3 ?_; refine yy125 ?_; (refine zc auto_wl (cu _) ?_; rintro r H' ⟨rfl, rfl⟩); refine yy79 ?_; refine yy80 ?_; refine yy5 ?_; refine yy8 ?_; refine yy53 ?_; refine yy32 ?_; refine yy76 ?_; (refine zc auto_wl (cb _) ?_; rintro r H' ⟨rfl, rfl⟩); refine yy80 ?_; refine yy42 ?_; refine yy46 ?_; (refine zc auto_wl (ck _) ?_; rintro r H' ⟨rfl, rfl⟩); (refine zc auto_wl (cd _) ?_; rintro r H' ⟨rfl, rfl⟩); refine yy46 ?_; (refine zc auto_wl (ci _) ?_; rintro r H' ⟨rfl, rfl⟩); refine awl_s rfl (s_neqg rfl rfl rfl) ?_; refine yy4 ?_; refine aw_cond rfl (fun hc => ?_) (fun hc => ?_); refine yy11 ?_; refine aw_ret ?_; refine k_seq_ret ?_; rotate_left; refine yy25 ?_; refine yy86 ?_; rotate_left) | fail)
    · exfalso; simp at hc
    clear cb ck ci cd cu
    refine aw_loop (fun mm R1 H1 => ∃ (i : Nat), i ≤ l.length ∧ R1 = [(3, ndsA l), (5, ndsA l), (6, avI i)] ∧ l.length - i = mm) ?_ ?_
    · exact ⟨_, _, _, Ent.sub _ (by (repeat' (first | exact RSub.nil _ | apply RSub.cons)); all_goals rfl), 0, Nat.zero_le _, rfl, rfl⟩
    clear hc
    rintro mm R1 H1 ⟨i, hi, rfl, rfl⟩
    by_cases hil : i < l.length
    · have hg : l[i]? = some l[i] := List.getElem?_eq_getElem hil
      have hno := hok _ (List.getElem_mem hil)
      have hll := htp _ (List.getElem_mem hil)
      have hdn := hasB_late (hdc _ (List.getElem_mem hil))
      generalize l[i] = n at *
      have hseg := nd_get hg
      have y4 := nd_at hg (j := 4) (by decide) rfl
      clear hg hdc hok htp
      have c1 := fun H => pLate_calls H n hno
      have c2 := fun H => Late_calls H n hno
      have c3 : ∀ H, ACalls Try.prog 15 [.sls (lateN n).length (bsL (lateN n)), .sls (lateN n).length (bsL (lateN n))] H fun r H' => r = avB true ∧ H' = H := fun H =>
        (Texts_calls H (lateN n) (lateN n) hll hll).mono fun r H' ⟨h1, h2⟩ => ⟨by rw [h1, decide_eq_true rfl], h2⟩
      have hbn : (bsL (lateN n)).length = (lateN n).length := List.length_map ..
      have c4 := fun (H : AHeap) (e : Ex) (hb : exSz e ≤ 2000000) => pExpr_calls H n e hno hb
      have c5 := fun (H : AHeap) (e : Ex) (hb : exSz e ≤ 2000000) => LateExpr_calls H n e hno hb
      simp only [hdn] at c5
      generalize hasB (lateNames n) = P at *
      generalize bsL (lateN n) = LB at *
      generalize (lateN n).length = LN at *
      have hqe := hno.e
      have hqq := hno.q
      have hel := eq_len n.eqs
      clear hdn hno
      (first | focus (refine yy43 ?_; refine aw_condp rfl (fun hc => ?_) (fun hc => ?_); refine yy10 ?_; refine aw_seq ?_; refine yy67 ?_; (apply awt_s; · exact s_move (v := .sls _ _) rfl); (apply awt_s; · exact s_move (v := .raw _) rfl); (apply awt_s; · exact s_indexAddr_sls rfl rfl auto_len); (apply awt_s; · exact s_load_pce_agg rfl (by assumption) (by rfl) (by decide)); (apply awt_s; · exact s_callc auto_wl (c1 _)); (apply awt_s; · exact s_move (v := .sls _ _) rfl); (apply awt_s; · exact s_move (v := .raw _) rfl); (apply awt_s; · exact s_indexAddr_sls rfl rfl auto_len); (apply awt_s; · exact s_load_pce_agg rfl (by assumption) (by rfl) (by decide)); (apply awt_s; · exact s_callc auto_wl (c2 _)); (apply awt_s; · exact s_callc auto_wl (c3 _)); (apply awt_s; · exact s_notb rfl); refine yy69 ?_; refine aw_cond_f rfl ?_; refine yy25 ?_; refine yy11 ?_; refine aw_block ?_; rotate_left; exact absurd hc auto_no) | fail)
      refine aw_loop (fun mm R2 H2 => ∃ (k : Nat), k ≤ n.eqs.length ∧ R2 = [(3, ndsA l), (5, ndsA l), (6, avI i), (7, avI k)] ∧ n.eqs.length - k = mm) ?_ ?_
      · exact ⟨_, _, _, Ent.sub _ (by (repeat' (first | exact RSub.nil _ | apply RSub.cons)); all_goals rfl), 0, Nat.zero_le _, rfl, rfl⟩
      clear c1 c2 c3
      rintro mm R2 H2 ⟨k, hk, rfl, rfl⟩
      by_cases hkl : k < n.eqs.length
      · have hg : n.eqs[k]? = some n.eqs[k] := List.getElem?_eq_getElem hkl
        have hb := hqe _ (List.getElem_mem hkl)
        generalize n.eqs[k] = q at *
        have hsq := eq_get hg
        have hsE := seg_sub hsq 1 5 (by decide)
        clear hg
        obtain ⟨qn, qe, qa⟩ := q
        simp only at *
        have d4 := fun H => c4 H qe hb
        have d5 := fun H => c5 H qe hb
        generalize lateE P qe = bb at *
        replace hsE : List.take 5 (List.drop (k * 7 + 1) (eqL n.eqs)) = qe.cells := hsE
        clear c4 c5 hqe
        cases bb <;> (
          (first | focus (refine yy154 ?_; refine yy33 ?_; refine yy91 ?_; refine yy155 ?_; refine aw_condp rfl (fun hc => ?_) (fun hc => ?_); refine yy10 ?_; refine yy67 ?_; (apply awt_s; · exact s_move (v := .sls _ _) rfl); (apply awt_s; · exact s_move (v := .raw _) rfl); (apply awt_s; · exact s_indexAddr_sls rfl rfl auto_len); (apply awt_s; · exact s_load_pce_agg rfl (by assumption) (by rfl) (by decide)); (apply awt_s; · exact s_move (v := .sls _ _) rfl); (apply awt_s; · exact s_move (v := .raw _) rfl); (apply awt_s; · exact s_indexAddr_sls rfl rfl auto_len); (apply awt_s; · exact s_fieldAddr_pce rfl); (apply awt_s; · exact s_load_pce rfl auto_idx); (apply awt_s; · exact s_move (v := .raw _) rfl); (apply awt_s; · exact s_indexAddr_sls rfl rfl auto_len); (apply awt_s; · exact s_fieldAddr_pce rfl); (apply awt_s; · exact s_load_pce_agg rfl (by assumption) (by rfl) (by decide)); (apply awt_s; · exact s_callc auto_wl (d4 _)); (apply awt_s; · exact s_move (v := .sls _ _) rfl); (apply awt_s; · exact s_move (v := .raw _) rfl); (apply awt_s; · exact s_indexAddr_sls rfl rfl auto_len); (apply awt_s; · exact s_load_pce_agg rfl (by assumption) (by rfl) (by decide)); (apply awt_s; · exact s_move (v := .sls _ _) rfl); (apply awt_s; · exact s_move (v := .raw _) rfl); (apply awt_s; · exact s_indexAddr_sls rfl rfl auto_len); (apply awt_s; · exact s_fieldAddr_pce rfl); (apply awt_s; · exact s_load_pce rfl auto_idx); (apply awt_s; · exact s_move (v := .raw _) rfl); (apply awt_s; · exact s_indexAddr_sls rfl rfl auto_len); (apply awt_s; · exact s_fieldAddr_pce rfl); (apply awt_s; · exact s_load_pce_agg rfl (by assumption) (by rfl) (by decide)); (apply awt_s; · exact s_callc auto_wl (d5 _)); (apply awt_s; · exact s_bne rfl rfl); refine yy69 ?_; refine aw_cond_f rfl ?_; refine aw_skip ?_; refine yy27 ?_; rotate_left; exact absurd hc auto_no) | fail)
          all_goals first | exact ⟨n.eqs.length - (k + 1), _, _, by omega, Ent.sub _ (by (repeat' (first | exact RSub.nil _ | apply RSub.cons)); all_goals rfl), k + 1, by omega, rfl, rfl⟩ | (exfalso; simp at hc) | trace_state)
      · obtain rfl : k = n.eqs.length := by omega
        (first | focus (refine yy154 ?_; refine yy33 ?_; refine yy91 ?_; refine yy155 ?_; refine yy77 ?_; intro hc; refine yy146 ?_; refine yy151 ?_; refine yy27 ?_; rotate_left) | fail)
        all_goals first | exact ⟨l.length - (i + 1), _, _, by omega, Ent.sub _ (by (repeat' (first | exact RSub.nil _ | apply RSub.cons)); all_goals rfl), i + 1, by omega, rfl, rfl⟩ | (exfalso; omega) | trace_state
    · obtain rfl : i = l.length := by omega
      (first | focus (refine yy43 ?_; refine yy19 ?_; intro hc; refine yy11 ?_; refine aw_ret ?_; rotate_left) | fail)
      all_goals first | exact ⟨.inl rfl, _, _, _, Ent.gc auto_sub, ret1 rfl rfl, rfl⟩ | (exfalso; omega) | trace_state
end Go.Proofs.Ytmgkhfnhaeplgaa
