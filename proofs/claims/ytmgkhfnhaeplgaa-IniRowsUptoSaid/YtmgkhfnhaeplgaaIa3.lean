import Derived.Test.YtmgkhfnhaeplgaaIz
import Derived.Test.YtmgkhfnhaeplgaaIa2
namespace Go.Proofs.Ytmgkhfnhaeplgaa
open Go Go.Am Go.Proofs
set_option linter.unusedSimpArgs false
set_option linter.unusedVariables false
set_option maxRecDepth 20000
set_option maxHeartbeats 8000000
/-! The reference's small functions. -/
abbrev bsL (l : List Bs) : List AV := l.map AV.str
theorem bsL_len (l : List Bs) : (bsL l).length = l.length * 1 := by rw [List.length_map, Nat.mul_one]
theorem Bad_calls (H : AHeap) (e a : Int) : ACalls Try.prog 12 [.agg [avI e, avI a]] H fun r H' => r = .agg [avI e, avI a] ∧ H' = H := by
  refine acalls_of_aw1 Try.func12 rfl (by decide) ?_
  (first | focus (refine yy1 ?_; refine zb1 rfl rfl rfl (fun oN hoN => ?_); refine awl_alloc rfl rfl rfl (fun oN hoN => ?_); refine yy8 ?_; refine yy11 ?_; refine yy11 ?_; refine yy18 ?_; refine yy14 ?_; refine yy99 ?_; rotate_left) | fail)
  exact ⟨.inl rfl, _, _, _, Ent.cellRet 2 [avI e, avI a] rfl auto_heap (by ((repeat' (first | exact WC.nil | apply WC.cons)); all_goals (first | exact W.of rfl | exact W.int rfl | exact W.nilb rfl | exact W.empb rfl | exact W.bysx rfl | exact W.nils rfl | exact W.emps rfl | exact W.slsx rfl))) auto_hs, ret_1 rfl (rv1_agg (m := 2) rfl rfl rfl (by decide)), rfl, rfl⟩
theorem vr_get5 {l : List Vr} {i : Nat} {v : Vr} (h : l[i]? = some v) : ((vrL l).drop (i * 5)).take 5 = [.str v.name, avI v.kind, .str v.on, avB v.not, avI v.at_] := vr_get h
end Go.Proofs.Ytmgkhfnhaeplgaa

namespace Go.Proofs.Ytmgkhfnhaeplgaa
open Go Go.Am Go.Proofs
set_option linter.unusedSimpArgs false
set_option linter.unusedVariables false
set_option maxRecDepth 20000
set_option maxHeartbeats 8000000

/-! Names: of an expression. -/
end Go.Proofs.Ytmgkhfnhaeplgaa

namespace Go.Proofs.Ytmgkhfnhaeplgaa
open Go Go.Am Go.Proofs
set_option linter.unusedSimpArgs false
set_option linter.unusedVariables false
set_option maxRecDepth 20000
set_option maxHeartbeats 8000000

/-! Names. -/
theorem varsN_len {n : Nd} (h : NdOk n) : (varsN n).length ≤ 6000000 := by
  have := h.i; have := h.o; have := h.l
  unfold varsN; rw [List.length_append, List.length_append]; omega
end Go.Proofs.Ytmgkhfnhaeplgaa

namespace Go.Proofs.Ytmgkhfnhaeplgaa
open Go
set_option linter.unusedSimpArgs false
set_option linter.unusedVariables false
set_option maxRecDepth 20000

/-! Kinds, one by one; what a tree must be. Plain. -/
def arOf (op : Bs) : Nat :=
  if op = ([110, 111, 116] : Bs) ∨ op = ([110, 101, 103] : Bs) ∨ op = ([112, 114, 101] : Bs) ∨ op = ([119, 104, 101, 110] : Bs) then 1
  else if op = ([43] : Bs) ∨ op = ([45] : Bs) ∨ op = ([42] : Bs) ∨ op = ([47] : Bs) ∨ op = ([109, 111, 100] : Bs) ∨ op = ([61] : Bs) ∨ op = ([60, 62] : Bs) ∨ op = ([60] : Bs) ∨ op = ([60, 61] : Bs) ∨ op = ([62] : Bs) ∨ op = ([62, 61] : Bs) ∨ op = ([97, 110, 100] : Bs) ∨ op = ([111, 114] : Bs) ∨ op = ([120, 111, 114] : Bs) ∨ op = ([45, 62] : Bs) ∨ op = ([102, 98, 121] : Bs) ∨ op = ([109, 101, 114, 103, 101] : Bs) then 2
  else if op = ([105, 102] : Bs) then 3 else 0
def okOp (l : List Nd) (op nm : Bs) (kids : Nat) : Prop :=
  arOf op ≤ kids ∧ (op = ([99, 97, 108, 108] : Bs) → ∃ (j : Nat) (m : Nd), l[j]? = some m ∧ nodeOf l nm = (j : Int) ∧ m.outs.length = 1 ∧ m.ins.length = kids)
mutual
def exOk (l : List Nd) : Ex → Prop
  | .mk op nm _ _ ks => okOp l op nm ks.length ∧ exOkL l ks
def exOkL (l : List Nd) : List Ex → Prop
  | [] => True
  | e :: r => exOk l e ∧ exOkL l r
end
section
variable (l : List Nd) (n : Nd) (nm : Bs) (k : List Nat)
end
end Go.Proofs.Ytmgkhfnhaeplgaa

namespace Go.Proofs.Ytmgkhfnhaeplgaa
open Go Go.Am Go.Proofs
set_option linter.unusedSimpArgs false
set_option linter.unusedVariables false
set_option maxRecDepth 20000
set_option maxHeartbeats 8000000

/-! What is late. -/
end Go.Proofs.Ytmgkhfnhaeplgaa

namespace Go.Proofs.Ytmgkhfnhaeplgaa
open Go Go.Am Go.Proofs
set_option linter.unusedSimpArgs false
set_option linter.unusedVariables false
set_option maxRecDepth 20000
set_option maxHeartbeats 8000000

/-! The late names. -/
theorem nodup_len : ∀ {l m : List Bs}, l.Nodup → (∀ s ∈ l, s ∈ m) → l.length ≤ m.length
  | [], m, _, _ => Nat.zero_le _
  | x :: r, m, h, hs => by
    rw [List.nodup_cons] at h
    have hx := hs x List.mem_cons_self
    have := nodup_len (m := m.erase x) h.2 (fun s hm => (List.mem_erase_of_ne (fun e => h.1 (by rw [← e]; exact hm))).2 (hs s (List.mem_cons_of_mem _ hm)))
    rw [List.length_erase_of_mem hx] at this
    have hpos : 0 < m.length := List.length_pos_of_mem hx
    rw [List.length_cons]; omega
/-- Names of these equations, each once. -/
structure NmOk (eqs : List Eqn) (l : List Bs) : Prop where
  nd : l.Nodup
  sub : ∀ s ∈ l, s ∈ eqs.map (·.name)
theorem NmOk.len {eqs : List Eqn} {l : List Bs} (h : NmOk eqs l) : l.length ≤ eqs.length := by
  have := nodup_len h.nd h.sub
  rwa [List.length_map] at this
theorem hasB_iff {l : List Bs} {s : Bs} : hasB l s = true ↔ s ∈ l := by unfold hasB; simp
theorem NmOk.nil (eqs : List Eqn) : NmOk eqs [] := ⟨List.nodup_nil, fun s h => by cases h⟩
theorem NmOk.q {eqs : List Eqn} {l : List Bs} (h : NmOk eqs l) {q : Eqn} (hq : q ∈ eqs) : NmOk eqs (lateQ l q) := by
  unfold lateQ
  split
  · rename_i hc
    simp only [Bool.and_eq_true, Bool.not_eq_true'] at hc
    refine ⟨?_, fun s hs => ?_⟩
    · rw [List.nodup_append]
      refine ⟨h.nd, by simp, fun a ha b hb e => ?_⟩
      rw [List.mem_singleton] at hb
      subst hb
      have := hasB_iff.2 (e ▸ ha)
      rw [this] at hc
      exact absurd hc.1 (by decide)
    · rcases List.mem_append.1 hs with hs | hs
      · exact h.sub s hs
      · rw [List.mem_singleton] at hs; subst hs; exact List.mem_map_of_mem hq
  · exact h
end Go.Proofs.Ytmgkhfnhaeplgaa

namespace Go.Proofs.Ytmgkhfnhaeplgaa
open Go Go.Am Go.Proofs
set_option linter.unusedSimpArgs false
set_option linter.unusedVariables false
set_option maxRecDepth 20000
set_option maxHeartbeats 8000000

/-! The program: what is late. -/
def setA (l : List Bs) : MS := l.map fun s => (s, avB true)
theorem setA_get (l : List Bs) (s : Bs) : (MS.get (setA l) s).getD (.raw (.bool false)) = avB (hasB l s) := by
  induction l with
  | nil => rfl
  | cons x l ih =>
    show (MS.get ((x, avB true) :: setA l) s).getD _ = _
    rw [MS.get]
    unfold hasB
    rw [List.any_cons]
    by_cases h : x = s
    · rw [if_pos h]; simp [h]
    · rw [if_neg h]; simp only [h, decide_false, Bool.false_or]; exact ih
theorem setA_put {l : List Bs} {s : Bs} (h : hasB l s = false) : MS.put (setA l) s (avB true) = setA (l ++ [s]) := by
  induction l with
  | nil => rfl
  | cons x l ih =>
    unfold hasB at h
    rw [List.any_cons, Bool.or_eq_false_iff] at h
    have hx : ¬ x = s := by simpa using h.1
    show MS.put ((x, avB true) :: setA l) s (avB true) = (x, avB true) :: setA (l ++ [s])
    rw [MS.put, if_neg hx, ih h.2]
def idxF {α : Type} (p : α → Bool) : List α → Nat → Int
  | [], _ => -1
  | x :: l, i => if p x then (i : Int) else idxF p l (i + 1)
theorem idxF_any {α : Type} (p : α → Bool) : ∀ (l : List α) (i : Nat), decide (0 ≤ idxF p l i) = l.any p
  | [], i => rfl
  | x :: l, i => by
    unfold idxF
    rw [List.any_cons]
    cases h : p x
    · rw [if_neg (by decide), Bool.false_or]; exact idxF_any p l (i + 1)
    · rw [if_pos rfl, Bool.true_or, decide_eq_true (by omega)]
theorem lateL_any (p : Bs → Bool) : ∀ ks : List Ex, lateL p ks = ks.any (lateE p)
  | [] => rfl
  | e :: l => by rw [lateL, List.any_cons, lateL_any p l]
theorem IndexFuncE_calls {om : Nat} (H : AHeap) (ks : List Ex) (p : Ex → Bool) (hl : ks.length ≤ 2000000) (hp : ∀ e ∈ ks, ACalls Try.prog 37 [.mp om, exA e] H fun r H' => r = avB (p e) ∧ H' = H) :
    ACalls Try.prog 77 [.sls ks.length (exL ks), .fnc (.func 37) [.mp om] []] H fun r H' => r = avI (idxF p ks 0) ∧ H' = H := by
  have hml := exL_len ks
  generalize hZ : idxF p ks 0 = Z
  replace hZ := Hdn.mk hZ
  refine acalls_of_aw2 Try.func77 rfl (by decide) ?_
  (first | focus (refine yy15 ?_; refine yy13 ?_; refine yy88 ?_; refine yy4 ?_; refine yy70 ?_; rotate_left) | fail)
  refine aw_loop (fun mm R1 H1 => ∃ (i : Nat), i ≤ ks.length ∧ Hdn (idxF p (ks.drop i) i = Z) ∧ H1 = H ∧ R1 = [(0, .sls ks.length (exL ks)), (1, .fnc (.func 37) [.mp om] []), (7, avI ks.length), (8, avI i)] ∧ ks.length - i = mm) ?_ ?_
  · exact ⟨_, _, _, Ent.sub _ (by (repeat' (first | exact RSub.nil _ | apply RSub.cons)); all_goals rfl), 0, Nat.zero_le _, hZ, rfl, rfl, rfl⟩
  clear hZ
  rintro mm R1 H1 ⟨i, hi, hZ, rfl, rfl, rfl⟩
  by_cases hlt : i < ks.length
  · have hg : ks[i]? = some ks[i] := List.getElem?_eq_getElem hlt
    have hd : ks.drop i = ks[i] :: ks.drop (i + 1) := List.drop_eq_getElem_cons hlt
    have hseg := exL_get hg
    have cp := hp _ (List.getElem_mem hlt)
    rw [hd, idxF] at hZ
    generalize ks[i] = k at *
    generalize p k = b at *
    clear hg hd hp
    cases b
    · rw [if_neg (by decide)] at hZ
      (first | focus (refine yy71 ?_; refine aw_condp rfl (fun hc => ?_) (fun hc => ?_); refine yy50 ?_; refine yy25 ?_; refine yy2 ?_; refine yy1 ?_; refine awl_s rfl (s_move (v := .fnc _ _ _) rfl) ?_; refine yy86 ?_; refine yy4 ?_; refine yy64 ?_; refine yy102 ?_; (((refine awl_callcvf rfl rfl auto_wl (cp) (fun r H' hpost => ?_); obtain ⟨rfl, rfl⟩ := hpost))); refine yy69 ?_; refine yy82 ?_; refine yy10 ?_; refine yy85 ?_; refine yy4 ?_; refine yy3 ?_; rotate_left; exact absurd hc auto_no) | fail)
      exact ⟨ks.length - (i + 1), _, _, by omega, Ent.sub _ (by (repeat' (first | exact RSub.nil _ | apply RSub.cons)); all_goals rfl), i + 1, by omega, hZ, rfl, rfl, rfl⟩
    · rw [if_pos rfl] at hZ
      obtain rfl : Z = (i : Int) := hZ.out.symm
      (first | focus (refine yy71 ?_; refine aw_condp rfl (fun hc => ?_) (fun hc => ?_); refine yy50 ?_; refine yy25 ?_; refine yy2 ?_; refine yy1 ?_; refine awl_s rfl (s_move (v := .fnc _ _ _) rfl) ?_; refine yy86 ?_; refine yy4 ?_; refine yy64 ?_; refine yy102 ?_; (((refine awl_callcvf rfl rfl auto_wl (cp) (fun r H' hpost => ?_); obtain ⟨rfl, rfl⟩ := hpost))); refine yy39 ?_; refine yy25 ?_; refine yy59 ?_; refine yy20 ?_; refine k_seq_ret ?_; refine yy20 ?_; rotate_left; exact absurd hc auto_no) | fail)
      exact ⟨.inl rfl, _, _, _, Ent.refl _ _, ret1 rfl rfl, rfl, rfl⟩
  · obtain rfl : i = ks.length := by omega
    have hZ2 := hZ.out
    rw [List.drop_length, idxF] at hZ2
    subst hZ2
    (first | focus (refine yy71 ?_; refine yy12 ?_; intro hc; refine yy89 ?_; refine yy15 ?_; refine aw_ret ?_; rotate_left) | fail)
    exact ⟨.inl rfl, _, _, _, Ent.refl _ _, ret1 rfl rfl, rfl, rfl⟩
theorem ContainsFuncE_calls {om : Nat} (H : AHeap) (ks : List Ex) (p : Ex → Bool) (hl : ks.length ≤ 2000000) (hp : ∀ e ∈ ks, ACalls Try.prog 37 [.mp om, exA e] H fun r H' => r = avB (p e) ∧ H' = H) :
    ACalls Try.prog 72 [.sls ks.length (exL ks), .fnc (.func 37) [.mp om] []] H fun r H' => r = avB (ks.any p) ∧ H' = H := by
  have ci := IndexFuncE_calls H ks p hl hp
  have hz := idxF_any p ks 0
  generalize idxF p ks 0 = z at *
  rw [← hz]
  clear hp hz
  refine acalls_of_aw2 Try.func72 rfl (by decide) ?_
  (first | focus (refine yy15 ?_; refine yy1 ?_; refine yy86 ?_; refine awl_s rfl (s_move (v := .fnc _ _ _) rfl) ?_; (refine zc auto_wl (ci) ?_; rintro r H' ⟨rfl, rfl⟩); refine awl_s rfl (s_geq rfl rfl) ?_; refine yy59 ?_; rotate_left) | fail)
  exact ⟨.inl rfl, _, _, _, Ent.refl _ _, ret1 rfl rfl, rfl, rfl⟩
theorem any_calls {om : Nat} (H : AHeap) (ks : List Ex) (p : Ex → Bool) (hl : ks.length ≤ 2000000) (hp : ∀ e ∈ ks, ACalls Try.prog 37 [.mp om, exA e] H fun r H' => r = avB (p e) ∧ H' = H) : ACalls Try.prog 57 [.mp om, .sls ks.length (exL ks)] H fun r H' => r = avB (ks.any p) ∧ H' = H := by
  have cc := ContainsFuncE_calls H ks p hl hp
  generalize ks.any p = b at *
  clear hp
  refine acalls_of_aw2 Try.func57 rfl (by decide) ?_
  (first | focus (refine yy15 ?_; refine yy1 ?_; refine yy86 ?_; refine yy72 ?_; refine awl_s rfl (s_makeFuncV rfl rfl) ?_; (refine zc auto_wl (cc) ?_; rintro r H' ⟨rfl, rfl⟩); refine yy59 ?_; rotate_left) | fail)
  exact ⟨.inl rfl, _, _, _, Ent.refl _ _, ret1 rfl rfl, rfl, rfl⟩
theorem plate_calls {om : Nat} (l : List Bs) (m : Nat) : ∀ (e : Ex) (H : AHeap), exSz e ≤ m → exSz e ≤ 2000000 → H om = some (setA l).ao →
    ACalls Try.prog 37 [.mp om, exA e] H fun r H' => r = avB (lateE (hasB l) e) ∧ H' = H := by
  induction m with
  | zero => intro e H h; rw [exSz_eq] at h; omega
  | succ m ih =>
    intro e H h hb hH
    obtain ⟨op, nm, nn, at_, ks⟩ := e
    rw [exSz_eq] at h hb
    unfold lateE
    simp only [Ex.kids, Ex.op, Ex.name, Ex.n, Ex.at_] at *
    show ACalls Try.prog _ [.mp om, .agg [.str op, .str nm, avI nn, avI at_, .sls ks.length (exL ks)]] H _
    have hml := exL_len ks
    have hkl : ks.length ≤ exSzL ks := by
      clear hml h hb
      induction ks with
      | nil => exact Nat.zero_le _
      | cons x l ih => rw [exSzL, List.length_cons]; have := exSz_eq x; omega
    have hsg := setA_get l nm
    rw [lateL_any]
    have hp : ∀ (H2 : AHeap), H2 om = some (setA l).ao → ∀ e ∈ ks, ACalls Try.prog 37 [.mp om, exA e] H2 fun r H' => r = avB (lateE (hasB l) e) ∧ H' = H2 := fun H2 h2 e he => ih e H2 (by have := exSz_mem he; omega) (by have := exSz_mem he; omega) h2
    have ca := fun H2 h2 => any_calls H2 ks (lateE (hasB l)) (by omega) (hp H2 h2)
    clear hp ih
    generalize hx : (if op = ([118, 97, 114] : Bs) then hasB l nm else if op = ([112, 114, 101] : Bs) then true else if op = ([45, 62] : Bs) ∨ op = ([102, 98, 121] : Bs) ∨ op = ([109, 101, 114, 103, 101] : Bs) ∨ op = ([99, 97, 108, 108] : Bs) ∨ op = ([105, 110, 116] : Bs) ∨ op = ([98, 111, 111, 108] : Bs) then false else ks.any (lateE (hasB l))) = X
    refine acalls_of_aw2 Try.func37 rfl (by decide) ?_
    by_cases g1 : op = ([118, 97, 114] : Bs)
    · rw [if_pos g1] at hx
      subst g1
      rw [hx] at hsg
      (first | focus (refine yy1 ?_; refine zb1 rfl rfl rfl (fun oN hoN => ?_); refine yy2 ?_; refine yy13 ?_; refine yy11 ?_; refine yy70 ?_; refine yy26 ?_; refine yy12 ?_; intro hc; refine yy26 ?_; refine aw_condp rfl (fun hc => ?_) (fun hc => ?_); refine yy1 ?_; refine yy72 ?_; refine yy11 ?_; refine yy114 ?_; refine yy59 ?_; refine yy20 ?_; rotate_left; exact absurd hc auto_no) | fail)
      exact ⟨.inl rfl, _, _, _, Ent.gc auto_sub, ret1 rfl rfl, rfl, rfl⟩
    rw [if_neg g1] at hx
    replace g1 := Hdq.mk g1
    by_cases g2 : op = ([112, 114, 101] : Bs)
    · rw [if_pos g2] at hx
      subst g2
      subst hx
      (first | focus (refine yy1 ?_; refine zb1 rfl rfl rfl (fun oN hoN => ?_); refine yy2 ?_; refine yy13 ?_; refine yy11 ?_; refine yy70 ?_; refine yy26 ?_; refine aw_condp rfl (fun hc => ?_) (fun hc => ?_); refine yy15 ?_; refine aw_ret ?_; refine yy20 ?_; rotate_left; exact absurd hc auto_no) | fail)
      exact ⟨.inl rfl, _, _, _, Ent.gc auto_sub, ret1 rfl rfl, rfl, rfl⟩
    rw [if_neg g2] at hx
    replace g2 := Hdq.mk g2
    by_cases g3 : op = ([45, 62] : Bs) ∨ op = ([102, 98, 121] : Bs) ∨ op = ([109, 101, 114, 103, 101] : Bs) ∨ op = ([99, 97, 108, 108] : Bs) ∨ op = ([105, 110, 116] : Bs) ∨ op = ([98, 111, 111, 108] : Bs)
    · rw [if_pos g3] at hx
      subst hx
      rcases g3 with rfl | rfl | rfl | rfl | rfl | rfl
      all_goals (
        (first | focus (refine yy1 ?_; refine zb1 rfl rfl rfl (fun oN hoN => ?_); refine yy2 ?_; refine yy13 ?_; refine yy11 ?_; refine yy70 ?_; refine yy26 ?_; refine yy21 ?_; intro hc; refine yy26 ?_; refine yy21 ?_; intro hc; refine yy13 ?_; refine yy79 ?_; refine yy12 ?_; intro hc; refine yy26 ?_; refine yy12 ?_; intro hc; refine yy26 ?_; refine aw_condp rfl (fun hc => ?_) (fun hc => ?_); refine yy35 ?_; refine aw_condp rfl (fun hc => ?_) (fun hc => ?_); refine yy15 ?_; refine aw_ret ?_; refine yy20 ?_; rotate_left; exact absurd hc auto_no; exact absurd hc auto_no) | focus (refine yy1 ?_; refine zb1 rfl rfl rfl (fun oN hoN => ?_); refine yy2 ?_; refine yy13 ?_; refine yy11 ?_; refine yy70 ?_; refine yy26 ?_; refine yy21 ?_; intro hc; refine yy26 ?_; refine yy21 ?_; intro hc; refine yy13 ?_; refine yy79 ?_; refine yy12 ?_; intro hc; refine yy26 ?_; refine yy12 ?_; intro hc; refine yy26 ?_; refine yy12 ?_; intro hc; refine yy26 ?_; refine aw_condp rfl (fun hc => ?_) (fun hc => ?_); refine yy35 ?_; refine aw_condp rfl (fun hc => ?_) (fun hc => ?_); refine yy15 ?_; refine aw_ret ?_; refine yy20 ?_; rotate_left; exact absurd hc auto_no; exact absurd hc auto_no) | focus (refine yy1 ?_; refine zb1 rfl rfl rfl (fun oN hoN => ?_); refine yy2 ?_; refine yy13 ?_; refine yy11 ?_; refine yy70 ?_; refine yy26 ?_; refine yy21 ?_; intro hc; refine yy26 ?_; refine yy21 ?_; intro hc; refine yy13 ?_; refine yy79 ?_; refine yy12 ?_; intro hc; refine yy26 ?_; refine yy12 ?_; intro hc; refine yy26 ?_; refine yy12 ?_; intro hc; refine yy26 ?_; refine yy12 ?_; intro hc; refine yy26 ?_; refine aw_condp rfl (fun hc => ?_) (fun hc => ?_); refine yy35 ?_; refine aw_condp rfl (fun hc => ?_) (fun hc => ?_); refine yy15 ?_; refine aw_ret ?_; refine yy20 ?_; rotate_left; exact absurd hc auto_no; exact absurd hc auto_no) | focus (refine yy1 ?_; refine zb1 rfl rfl rfl (fun oN hoN => ?_); refine yy2 ?_; refine yy13 ?_; refine yy11 ?_; refine yy70 ?_; refine yy26 ?_; refine yy21 ?_; intro hc; refine yy26 ?_; refine yy21 ?_; intro hc; refine yy13 ?_; refine yy79 ?_; refine yy12 ?_; intro hc; refine yy26 ?_; refine yy12 ?_; intro hc; refine yy26 ?_; refine yy12 ?_; intro hc; refine yy26 ?_; refine yy12 ?_; intro hc; refine yy26 ?_; refine yy12 ?_; intro hc; refine yy10 ?_; refine yy79 ?_; refine aw_condp rfl (fun hc => ?_) (fun hc => ?_); refine yy15 ?_; refine aw_ret ?_; refine yy20 ?_; rotate_left; exact absurd hc auto_no) | focus (refine yy1 ?_; refine zb1 rfl rfl rfl (fun oN hoN => ?_); refine yy2 ?_; refine yy13 ?_; refine yy11 ?_; refine yy70 ?_; refine yy26 ?_; refine yy21 ?_; intro hc; refine yy26 ?_; refine yy21 ?_; intro hc; refine yy13 ?_; refine yy79 ?_; refine aw_condp rfl (fun hc => ?_) (fun hc => ?_); refine yy35 ?_; refine aw_condp rfl (fun hc => ?_) (fun hc => ?_); refine yy15 ?_; refine aw_ret ?_; refine yy20 ?_; rotate_left; exact absurd hc auto_no; exact absurd hc auto_no) | focus (refine yy1 ?_; refine zb1 rfl rfl rfl (fun oN hoN => ?_); refine yy2 ?_; refine yy13 ?_; refine yy11 ?_; refine yy70 ?_; refine yy26 ?_; refine yy21 ?_; intro hc; refine yy26 ?_; refine yy21 ?_; intro hc; refine yy13 ?_; refine yy79 ?_; refine yy12 ?_; intro hc; refine yy26 ?_; refine aw_condp rfl (fun hc => ?_) (fun hc => ?_); refine yy35 ?_; refine aw_condp rfl (fun hc => ?_) (fun hc => ?_); refine yy15 ?_; refine aw_ret ?_; refine yy20 ?_; rotate_left; exact absurd hc auto_no; exact absurd hc auto_no) | fail)
        exact ⟨.inl rfl, _, _, _, Ent.gc auto_sub, ret1 rfl rfl, rfl, rfl⟩)
    rw [if_neg g3] at hx
    simp only [not_or] at g3
    obtain ⟨d1, d2, d3, d4, d5, d6⟩ := g3
    replace d1 := Hdq.mk d1
    replace d2 := Hdq.mk d2
    replace d3 := Hdq.mk d3
    replace d4 := Hdq.mk d4
    replace d5 := Hdq.mk d5
    replace d6 := Hdq.mk d6
    subst hx
    generalize ks.any (lateE (hasB l)) = X at *
    (first | focus (refine yy1 ?_; refine zb1 rfl rfl rfl (fun oN hoN => ?_); refine yy2 ?_; refine yy13 ?_; refine yy11 ?_; refine yy70 ?_; refine yy26 ?_; refine yy21 ?_; intro hc; refine yy26 ?_; refine yy21 ?_; intro hc; refine yy13 ?_; refine yy79 ?_; refine yy21 ?_; intro hc; refine yy26 ?_; refine yy21 ?_; intro hc; refine yy26 ?_; refine yy21 ?_; intro hc; refine yy26 ?_; refine yy21 ?_; intro hc; refine yy26 ?_; refine yy21 ?_; intro hc; refine yy10 ?_; refine yy79 ?_; refine yy21 ?_; intro hc; refine yy82 ?_; refine yy1 ?_; refine yy72 ?_; refine yy11 ?_; (refine zc auto_wl (ca _ auto_heap) ?_; rintro r H' ⟨rfl, rfl⟩); refine yy59 ?_; rotate_left) | fail)
    exact ⟨.inl rfl, _, _, _, Ent.gc auto_sub, ret1 rfl rfl, rfl, rfl⟩
end Go.Proofs.Ytmgkhfnhaeplgaa

namespace Go.Proofs.Ytmgkhfnhaeplgaa
open Go Go.Am Go.Proofs
set_option linter.unusedSimpArgs false
set_option linter.unusedVariables false
set_option maxRecDepth 20000
set_option maxHeartbeats 8000000

/-! The program: the late names. -/
theorem lateRounds_add (eqs : List Eqn) : ∀ (a b : Nat) (l : List Bs), lateRounds eqs (a + b) l = lateRounds eqs b (lateRounds eqs a l)
  | 0, b, l => by rw [Nat.zero_add]; rfl
  | a + 1, b, l => by rw [show a + 1 + b = (a + b) + 1 by omega, lateRounds, lateRounds, lateRounds_add eqs a b]
theorem lateRounds_fix {eqs : List Eqn} {l : List Bs} (h : lateRound eqs l = l) : ∀ m, lateRounds eqs m l = l
  | 0 => rfl
  | m + 1 => by rw [lateRounds, h, lateRounds_fix h m]
theorem lates_calls (H : AHeap) (n : Nd) (hn : NdOk n) : ACalls Try.prog 28 [.agg n.cells] H fun r H' => ∃ om, r = .mp om ∧ H om = none ∧ H' = H.set om (setA (lateNames n)).ao := by
  have heq := eq_len n.eqs
  have hbq := hn.q
  unfold lateNames
  generalize hZ : lateRounds n.eqs (n.eqs.length + 1) [] = Z
  replace hZ := Hdn.mk hZ
  have hn0 : n.cells = [.str n.name, .sls n.ins.length (vrL n.ins), .sls n.outs.length (vrL n.outs), .sls n.locs.length (vrL n.locs), .sls n.eqs.length (eqL n.eqs), avI n.at_] := rfl
  rw [hn0] at *
  refine acalls_of_aw1 Try.func28 rfl (by decide) ?_
  (first | focus (refine yy1 ?_; refine zb1 rfl rfl rfl (fun oN hoN => ?_); refine yy2 ?_; refine yy1 ?_; refine awl_makeMap rfl (fun oN hoN => ?_); refine awl_s rfl (s_assign (v := .mp _) rfl) ?_; refine yy78 ?_; refine yy2 ?_; refine aw_block ?_; rotate_left) | fail)
  rename_i oX hoX
  obtain ⟨oM, hoMe⟩ : ∃ x, x = oN := ⟨_, rfl⟩
  subst hoMe
  have hM0 : H oM = none := by (first | assumption | exact AHeap.none_of_set ((by assumption)) | exact AHeap.none_of_set (AHeap.none_of_set ((by assumption))) | exact AHeap.none_of_set (AHeap.none_of_set (AHeap.none_of_set ((by assumption)))) | exact AHeap.none_of_set (AHeap.none_of_set (AHeap.none_of_set (AHeap.none_of_set ((by assumption))))) | exact AHeap.none_of_set (AHeap.none_of_set (AHeap.none_of_set (AHeap.none_of_set (AHeap.none_of_set ((by assumption)))))) | exact AHeap.none_of_set (AHeap.none_of_set (AHeap.none_of_set (AHeap.none_of_set (AHeap.none_of_set (AHeap.none_of_set ((by assumption))))))) | exact AHeap.none_of_set (AHeap.none_of_set (AHeap.none_of_set (AHeap.none_of_set (AHeap.none_of_set (AHeap.none_of_set (AHeap.none_of_set ((by assumption)))))))) | exact AHeap.none_of_set (AHeap.none_of_set (AHeap.none_of_set (AHeap.none_of_set (AHeap.none_of_set (AHeap.none_of_set (AHeap.none_of_set (AHeap.none_of_set ((by assumption))))))))) | exact AHeap.none_of_set (AHeap.none_of_set (AHeap.none_of_set (AHeap.none_of_set (AHeap.none_of_set (AHeap.none_of_set (AHeap.none_of_set (AHeap.none_of_set (AHeap.none_of_set ((by assumption)))))))))) | exact AHeap.none_of_set (AHeap.none_of_set (AHeap.none_of_set (AHeap.none_of_set (AHeap.none_of_set (AHeap.none_of_set (AHeap.none_of_set (AHeap.none_of_set (AHeap.none_of_set (AHeap.none_of_set ((by assumption))))))))))))
  have hMX : oM ≠ oX := by (first | assumption | exact Ne.symm (by assumption) | exact AHeap.ne_of_fresh (by assumption) | exact Ne.symm (AHeap.ne_of_fresh (by assumption)) | exact AHeap.ne_of_fresh (AHeap.none_of_set (by assumption)) | exact Ne.symm (AHeap.ne_of_fresh (AHeap.none_of_set (by assumption))) | exact AHeap.ne_ns (by assumption) (by assumption) | exact AHeap.ne_sn (by assumption) (by assumption) | exact AHeap.ne_ns (by assumption) auto_heap2 | exact AHeap.ne_sn (by assumption) auto_heap2)
  refine aw_loop (fun mm R1 H1 => ∃ (r : Nat) (s : List Bs) (more : Bool), NmOk n.eqs s ∧ Hdn (lateRounds n.eqs r [] = s) ∧ r ≤ s.length ∧ Hdn (more = false → lateRound n.eqs s = s) ∧ H1 oX = some (.cel [.str n.name, .sls n.ins.length (vrL n.ins), .sls n.outs.length (vrL n.outs), .sls n.locs.length (vrL n.locs), .sls n.eqs.length (eqL n.eqs), avI n.at_]) ∧ H1 oM = some (setA s).ao ∧ (∀ p y, H p = some y → H1 p = some y) ∧ R1 = [(1, .ptr oX 0), (3, .mp oM), (4, avB more)] ∧ (if more then n.eqs.length + 1 - s.length else 0) = mm) ?_ ?_
  · exact ⟨_, _, _, Ent.sub _ (by (repeat' (first | exact RSub.nil _ | apply RSub.cons)); all_goals rfl), 0, [], true, NmOk.nil _, ⟨rfl⟩, Nat.zero_le _, ⟨fun h => by cases h⟩, by exact auto_heap, AHeap.set_self _ _ _, fun p y hp => auto_heap, rfl, rfl⟩
  clear hoN
  rintro mm R1 H1 ⟨r, s, more, hs, hr, hrs, hm, q1, q2, hfr, rfl, rfl⟩
  have hsl := hs.len
  cases more
  · have hfix := hm.out rfl
    have hsZ : s = Z := by
      rw [← hZ.out, show n.eqs.length + 1 = r + (n.eqs.length + 1 - r) by omega, lateRounds_add, hr.out, lateRounds_fix hfix]
    subst hsZ
    clear hZ hr hm hfix
    (first | focus (refine yy7 ?_; refine yy69 ?_; refine yy73 ?_; refine yy72 ?_; refine awl_s rfl (s_assign (v := .mp _) rfl) ?_; refine yy99 ?_; rotate_left) | fail)
    exact ⟨.inl rfl, _, _, _, Ent.gc (Sub.set auto_heap (fun p y hpo hp => hfr p y hp)), ret1 rfl rfl, oM, rfl, hM0, rfl⟩
  · generalize hY : lateRound n.eqs s = Y
    replace hY := Hdn.mk hY
    clear hm hZ
    (first | focus (refine yy7 ?_; refine yy39 ?_; refine yy33 ?_; refine yy15 ?_; refine yy1 ?_; refine yy11 ?_; refine yy110 ?_; refine yy4 ?_; refine yy70 ?_; rotate_left) | fail)
    refine aw_loop (fun mm R2 H2 => ∃ (i : Nat) (s' : List Bs) (b : Bool), i ≤ n.eqs.length ∧ NmOk n.eqs s' ∧ Hdn (lateRound (n.eqs.drop i) s' = Y) ∧ Hdn (b = false → s' = s) ∧ Hdn (b = true → s.length < s'.length) ∧ H2 oX = some (.cel [.str n.name, .sls n.ins.length (vrL n.ins), .sls n.outs.length (vrL n.outs), .sls n.locs.length (vrL n.locs), .sls n.eqs.length (eqL n.eqs), avI n.at_]) ∧ H2 oM = some (setA s').ao ∧ (∀ p y, H p = some y → H2 p = some y) ∧ R2 = [(1, .ptr oX 0), (3, .mp oM), (4, avB b), (10, .sls n.eqs.length (eqL n.eqs)), (11, avI n.eqs.length), (12, avI i)] ∧ n.eqs.length - i = mm) ?_ ?_
    · exact ⟨_, _, _, Ent.sub _ (by (repeat' (first | exact RSub.nil _ | apply RSub.cons)); all_goals rfl), 0, s, false, Nat.zero_le _, hs, hY, ⟨fun _ => rfl⟩, ⟨fun h => by cases h⟩, q1, q2, hfr, rfl, rfl⟩
    clear q1 q2 hfr H1
    rintro mm R2 H2 ⟨i, s', b, hi, hs', hY2, hb0, hb1, q1, q2, hfr, rfl, rfl⟩
    by_cases hlt : i < n.eqs.length
    · have hg : n.eqs[i]? = some n.eqs[i] := List.getElem?_eq_getElem hlt
      have hd : n.eqs.drop i = n.eqs[i] :: n.eqs.drop (i + 1) := List.drop_eq_getElem_cons hlt
      have hbx := hn.e _ (List.getElem_mem hlt)
      have hs2 := hs'.q (List.getElem_mem hlt)
      rw [hd, lateRound] at hY2
      generalize n.eqs[i] = x at *
      have hsq : List.take 7 (List.drop (i * 7) (eqL n.eqs)) = [.str x.name, .str x.e.op, .str x.e.name, avI x.e.n, avI x.e.at_, .sls x.e.kids.length (exL x.e.kids), avI x.at_] := eq_get hg
      clear hg hd
      have hsg := setA_get s' x.name
      have hsp := setA_put (l := s') (s := x.name)
      have cl := fun H h => plate_calls (om := oM) s' _ x.e H (Nat.le_refl _) hbx h
      simp only [exA, Ex.cells] at cl
      unfold lateQ at hY2 hs2
      generalize hasB s' x.name = b1 at *
      generalize lateE (hasB s') x.e = b2 at *
      cases b1
      · cases b2
        · simp only [Bool.not_false, Bool.true_and, Bool.false_eq_true, if_false] at hY2
          (first | focus (refine yy71 ?_; refine aw_condp rfl (fun hc => ?_) (fun hc => ?_); refine yy50 ?_; refine yy1 ?_; refine yy64 ?_; refine yy102 ?_; refine awl_alloc rfl rfl rfl (fun oN hoN => ?_); refine yy14 ?_; refine yy8 ?_; refine yy72 ?_; refine yy11 ?_; refine yy114 ?_; refine yy32 ?_; refine yy22 ?_; refine yy72 ?_; refine yy5 ?_; refine yy51 ?_; refine yy5 ?_; refine yy19 ?_; refine yy5 ?_; (refine zc auto_wl (cl _ auto_heap) ?_; rintro r H' ⟨rfl, rfl⟩); refine yy31 ?_; refine yy69 ?_; refine yy82 ?_; refine yy10 ?_; refine yy85 ?_; refine yy4 ?_; refine yy3 ?_; rotate_left; exact absurd hc auto_no) | fail)
          exact ⟨n.eqs.length - (i + 1), _, _, by omega, Ent.tog (by (repeat' (first | exact RSub.nil _ | apply RSub.cons)); all_goals rfl) auto_sub, i + 1, s', b, by omega, hs', hY2, hb0, hb1, q1, q2, hfr, rfl, rfl⟩
        · simp only [Bool.not_false, Bool.true_and, if_true] at hY2 hs2
          have hsp2 := hsp rfl
          clear hsp
          (first | focus (refine yy71 ?_; refine aw_condp rfl (fun hc => ?_) (fun hc => ?_); refine yy50 ?_; refine yy1 ?_; refine yy64 ?_; refine yy102 ?_; refine awl_alloc rfl rfl rfl (fun oN hoN => ?_); refine yy14 ?_; refine yy8 ?_; refine yy72 ?_; refine yy11 ?_; refine yy114 ?_; refine yy32 ?_; refine yy22 ?_; refine yy72 ?_; refine yy5 ?_; refine yy51 ?_; refine yy5 ?_; refine yy19 ?_; refine yy5 ?_; (refine zc auto_wl (cl _ auto_heap) ?_; rintro r H' ⟨rfl, rfl⟩); refine yy83 ?_; refine yy1 ?_; refine yy72 ?_; refine yy11 ?_; refine awl_mapUpdate rfl rfl auto_mv auto_heap ?_; refine yy56 ?_; refine yy28 ?_; refine yy10 ?_; refine yy85 ?_; refine yy4 ?_; refine yy3 ?_; rotate_left; exact absurd hc auto_no) | fail)
          exact ⟨n.eqs.length - (i + 1), _, H2.set oM (setA (s' ++ [x.name])).ao, by omega, Ent.tog (by (repeat' (first | exact RSub.nil _ | apply RSub.cons)); all_goals rfl) (Sub.set (by rw [← hsp2]; exact AHeap.set_self _ _ _) (fun p y hpo hp => by
            have hp3 : p ≠ oN := fun e => by rw [e, hoN] at hp; cases hp
            exact auto_heap)), i + 1, s' ++ [x.name], true, by omega, hs2, hY2, ⟨fun h => by cases h⟩, ⟨fun _ => by
              rw [List.length_append, List.length_singleton]
              cases b with
              | false => rw [hb0.out rfl]; omega
              | true => have := hb1.out rfl; omega⟩, by exact auto_heap, AHeap.set_self _ _ _, fun p y hp => by
            have hp2 := hfr p y hp
            have hp3 : p ≠ oM := fun e => by rw [e, hM0] at hp; cases hp
            exact auto_heap, rfl, rfl⟩
      · simp only [Bool.not_true, Bool.false_and, Bool.false_eq_true, if_false] at hY2
        (first | focus (refine yy71 ?_; refine aw_condp rfl (fun hc => ?_) (fun hc => ?_); refine yy50 ?_; refine yy1 ?_; refine yy64 ?_; refine yy102 ?_; refine awl_alloc rfl rfl rfl (fun oN hoN => ?_); refine yy14 ?_; refine yy8 ?_; refine yy72 ?_; refine yy11 ?_; refine yy114 ?_; refine yy32 ?_; refine yy4 ?_; refine yy48 ?_; refine yy23 ?_; refine yy69 ?_; refine yy82 ?_; refine yy10 ?_; refine yy85 ?_; refine yy4 ?_; refine yy3 ?_; rotate_left; exact absurd hc auto_no) | fail)
        exact ⟨n.eqs.length - (i + 1), _, _, by omega, Ent.tog (by (repeat' (first | exact RSub.nil _ | apply RSub.cons)); all_goals rfl) auto_sub, i + 1, s', b, by omega, hs', hY2, hb0, hb1, q1, q2, hfr, rfl, rfl⟩
    · obtain rfl : i = n.eqs.length := by omega
      have hY3 : s' = Y := by rw [← hY2.out, List.drop_length, lateRound]
      subst hY3
      have hsl2 := hs'.len
      clear hY2
      (first | focus (refine yy71 ?_; refine yy12 ?_; intro hc; refine aw_exit ?_; refine k_seq_exit ?_; refine k_seq_exit ?_; refine k_block_eq ?_; refine k_block_normal ?_; refine k_seq_normal ?_; rotate_left) | fail)
      cases b
      · obtain rfl : s' = s := hb0.out rfl
        exact ⟨0, _, _, by rw [if_pos rfl]; omega, Ent.sub _ (by (repeat' (first | exact RSub.nil _ | apply RSub.cons)); all_goals rfl), r, s', false, hs', hr, hrs, ⟨fun _ => hY.out⟩, q1, q2, hfr, rfl, rfl⟩
      · have hlt2 := hb1.out rfl
        exact ⟨_, _, _, by rw [if_pos rfl]; exact (show n.eqs.length + 1 - s'.length < n.eqs.length + 1 - s.length by omega), Ent.sub _ (by (repeat' (first | exact RSub.nil _ | apply RSub.cons)); all_goals rfl), r + 1, s', true, hs', ⟨by rw [lateRounds_add, hr.out]; exact hY.out⟩, by omega, ⟨fun h => by cases h⟩, q1, q2, hfr, rfl, rfl⟩
end Go.Proofs.Ytmgkhfnhaeplgaa

namespace Go.Proofs.Ytmgkhfnhaeplgaa
open Go Go.Am Go.Proofs
set_option linter.unusedSimpArgs false
set_option linter.unusedVariables false
set_option maxRecDepth 20000
set_option maxHeartbeats 8000000

/-! slices.Concat of variables. -/
abbrev vlA (l : List Vr) : AV := .sls l.length (vrL l)
theorem GrowV_nil (H : AHeap) (k : Nat) (hk0 : 0 < k) (hk : k ≤ 4000000000) :
    ACalls Try.prog 56 [.raw (.slice none 0 0), .raw (.int .i64 (k : Int))] H fun r H' => ∃ o, H o = none ∧ r = .vw o 5 0 0 ∧ H' = H.set o (.cel []) := by
  refine acalls_of_aw2 Try.func56 rfl (by decide) ?_
  (first | focus (refine yy15 ?_; refine yy7 ?_; refine yy27 ?_; refine yy47 ?_; intro hc; refine yy7 ?_; refine yy4 ?_; refine awl_s rfl (s_cap_nil rfl) ?_; refine yy4 ?_; refine awl_s rfl (s_len_nil rfl) ?_; refine awl_s rfl (s_subn rfl rfl (by omega) (by omega)) ?_; refine awl_s rfl (s_subn rfl rfl (by omega) (by omega)) ?_; refine yy2 ?_; refine yy25 ?_; refine yy98 ?_; refine yy3 ?_; refine aw_condp rfl (fun hc => ?_) (fun hc => ?_); refine yy10 ?_; refine yy4 ?_; refine yy4 ?_; refine awl_s rfl (s_cap_nil rfl) ?_; refine awl_s rfl (s_slice_nil rfl auto_bnd auto_bnd) ?_; refine yy4 ?_; refine awl_app_zeros (sz := 5) (z := .agg #[.string ⟨#[]⟩, .int .i64 0, .string ⟨#[]⟩, .bool false, .int .i64 0]) (xs := .cel []) rfl rfl rfl rfl auto_om auto_om auto_len (fun oN hoN => ?_); refine yy4 ?_; refine awl_s rfl (s_len_nil rfl) ?_; refine awl_s rfl (s_slice_vw rfl auto_bnd auto_bnd auto_len auto_len) ?_; refine yy34 ?_; refine yy8 ?_; refine yy24 ?_; refine yy34 ?_; refine yy99 ?_; rotate_left; exact absurd hc auto_no) | fail)
  exact ⟨.inl rfl, _, _, _, Ent.refl _ _, ret1 rfl rfl, oN, hoN, rfl, rfl⟩
theorem GrowV_zero (H : AHeap) :
    ACalls Try.prog 56 [.raw (.slice none 0 0), .raw (.int .i64 ((0 : Nat) : Int))] H fun r H' => r = .raw (.slice none 0 0) ∧ H' = H := by
  refine acalls_of_aw2 Try.func56 rfl (by decide) ?_
  (first | focus (refine yy15 ?_; refine yy7 ?_; refine yy27 ?_; refine yy47 ?_; intro hc; refine yy7 ?_; refine yy4 ?_; refine awl_s rfl (s_cap_nil rfl) ?_; refine yy4 ?_; refine awl_s rfl (s_len_nil rfl) ?_; refine awl_s rfl (s_subn rfl rfl (by omega) (by omega)) ?_; refine awl_s rfl (s_subn rfl rfl (by omega) (by omega)) ?_; refine yy2 ?_; refine yy25 ?_; refine yy98 ?_; refine yy3 ?_; refine yy47 ?_; intro hc; refine yy25 ?_; refine yy59 ?_; rotate_left) | fail)
  exact ⟨.inl rfl, _, _, _, Ent.refl _ _, ret1 rfl rfl, rfl, rfl⟩
theorem ConcatV_calls (H : AHeap) (ls : List (List Vr)) (hl : ls.length ≤ 1000) (hb : ∀ b ∈ ls, b.length ≤ 2000000) :
    ACalls Try.prog 34 [.sls ls.length (ls.map vlA)] H fun r H' => r = vlA ls.flatten ∧ H' = H := by
  refine acalls_of_aw1 Try.func34 rfl (by decide) ?_
  (first | focus (refine yy15 ?_; refine yy15 ?_; refine yy13 ?_; refine yy88 ?_; refine yy4 ?_; refine yy70 ?_; rotate_left) | fail)
  refine aw_loop (fun m R' H1 => ∃ i, H1 = H ∧ R' = [(0, .sls ls.length (ls.map vlA)), (3, .raw (.int .i64 (((ls.take i).flatten.length : Nat) : Int))), (9, .sls ls.length (ls.map vlA)), (10, .raw (.int .i64 ((ls.length : Nat) : Int))), (11, .raw (.int .i64 ((i : Nat) : Int)))] ∧ i + m = ls.length ∧ (ls.take i).flatten.length ≤ 2000000 * i) ?_ ?_
  · exact ⟨ls.length, _, _, auto_ent, 0, rfl, rfl, by omega, by simp⟩
  rintro m R0 H1 ⟨i, rfl, rfl, hi, hs⟩
  by_cases hlt : i < ls.length
  · have hg : ls[i]? = some ls[i] := List.getElem?_eq_getElem hlt
    have hbi := hb _ (List.getElem_mem hlt)
    have hsn : (ls.take (i + 1)).flatten.length = (ls.take i).flatten.length + ls[i].length := by rw [List.take_add_one, hg, List.flatten_append, List.length_append]; simp [Option.toList]
    generalize ls[i] = x at *
    (first | focus (refine yy71 ?_; refine aw_condp rfl (fun hc => ?_) (fun hc => ?_); refine yy50 ?_; refine yy1 ?_; refine yy64 ?_; refine yy104 ?_; refine yy115 ?_; refine yy8 ?_; refine yy4 ?_; refine yy88 ?_; refine yy85 ?_; refine yy2 ?_; refine yy25 ?_; refine yy27 ?_; refine yy12 ?_; intro hc; refine yy82 ?_; refine yy10 ?_; refine yy85 ?_; refine yy4 ?_; refine yy3 ?_; rotate_left; exact absurd hc auto_no) | fail)
    simp only [← hsn]
    exact ⟨m - 1, _, _, by omega, auto_ent, i + 1, rfl, rfl, by omega, by omega⟩
  obtain rfl : i = ls.length := by omega
  rw [List.take_length] at hs ⊢
  by_cases hz : ls.flatten.length = 0
  case' pos =>
    rw [hz]
    (first | focus (refine yy71 ?_; refine yy12 ?_; intro hc; refine yy89 ?_; refine yy25 ?_; (refine zc auto_wl (GrowV_zero _) ?_; rintro r H' ⟨rfl, rfl⟩); refine yy2 ?_; refine yy13 ?_; refine yy88 ?_; refine yy4 ?_; refine yy70 ?_; rotate_left) | fail)
    rename AHeap => H1
    refine aw_own_nil 6 5 (.cel []) rfl rfl (fun o ho => ?_)
  case' neg =>
    (first | focus (refine yy71 ?_; refine yy12 ?_; intro hc; refine yy89 ?_; refine yy25 ?_; (refine zc auto_wl (GrowV_nil _ _ (by omega) (by omega)) ?_; rintro r H' ⟨o, ho, rfl, rfl⟩); refine yy34 ?_; refine yy78 ?_; refine yy88 ?_; refine yy4 ?_; refine yy70 ?_; rotate_left) | fail)
  all_goals
    refine aw_loop (fun m R' H2 => ∃ o i, H1 o = none ∧ H2 = H1.set o (.cel (vrL (ls.take i).flatten)) ∧ R' = [(6, .vw o 5 0 (ls.take i).flatten.length), (25, .sls ls.length (ls.map vlA)), (26, .raw (.int .i64 ((ls.length : Nat) : Int))), (27, .raw (.int .i64 ((i : Nat) : Int)))] ∧ i + m = ls.length ∧ (ls.take i).flatten.length ≤ 2000000 * i) ?_ ?_
    · exact ⟨ls.length, _, _, auto_ent, o, 0, ho, by simp, rfl, by omega, by simp⟩
    clear ho hi hlt
    rintro m R0 H2 ⟨o, i, ho, rfl, rfl, hi, hs⟩
    by_cases hlt : i < ls.length
    · have hg : ls[i]? = some ls[i] := List.getElem?_eq_getElem hlt
      have hbi := hb _ (List.getElem_mem hlt)
      have hsn : (ls.take (i + 1)).flatten = (ls.take i).flatten ++ ls[i] := by rw [List.take_add_one, hg, List.flatten_append]; simp [Option.toList]
      have hsl : (ls.take (i + 1)).flatten.length = (ls.take i).flatten.length + ls[i].length := by rw [hsn, List.length_append]
      have hv1 := vr_len (ls.take i).flatten
      have hgm : (ls.map vlA)[i * 1]? = some (vlA ls[i]) := map_get hg
      generalize ls[i] = x at *
      have hv2 := vr_len x
      (first | focus (refine yy71 ?_; refine aw_condp rfl (fun hc => ?_) (fun hc => ?_); refine yy50 ?_; refine yy1 ?_; refine yy64 ?_; refine yy104 ?_; refine yy115 ?_; refine yy56 ?_; refine yy24 ?_; refine yy86 ?_; refine za2 rfl rfl rfl (by assumption) auto_len auto_src auto_len auto_len (fun oN hoN => ?_); refine yy34 ?_; refine yy61 ?_; refine yy10 ?_; refine yy85 ?_; refine yy4 ?_; refine yy3 ?_; rotate_left; exact absurd hc auto_no) | fail)
      simp only [← vr_app, ← hsn, ← hsl]
      exact ⟨m - 1, _, _, by omega, auto_ent, oN, i + 1, hoN, rfl, rfl, by omega, by omega⟩
    obtain rfl : i = ls.length := by omega
    rw [List.take_length] at hs ⊢
    (first | focus (refine yy71 ?_; refine yy12 ?_; intro hc; refine yy73 ?_; refine yy24 ?_; refine yy34 ?_; refine yy99 ?_; rotate_left) | fail)
    exact ⟨.inl rfl, _, _, _, Ent.seal_cel1 2 rfl (vr_len _) ho, ret1 rfl rfl, rfl, rfl⟩
end Go.Proofs.Ytmgkhfnhaeplgaa

namespace Go.Proofs.Ytmgkhfnhaeplgaa
open Go Go.Am Go.Proofs
set_option linter.unusedSimpArgs false
set_option linter.unusedVariables false
set_option maxRecDepth 20000
set_option maxHeartbeats 8000000

/-! The program: Late, Expr, told. -/
theorem lateNames_ok (n : Nd) : NmOk n.eqs (lateNames n) := by
  have hq : ∀ (l : List Eqn), (∀ q ∈ l, q ∈ n.eqs) → ∀ s, NmOk n.eqs s → NmOk n.eqs (lateRound l s) := by
    intro l
    induction l with
    | nil => intro _ s hs; exact hs
    | cons q l ih => intro h s hs; exact ih (fun q hq => h q (List.mem_cons_of_mem _ hq)) _ (hs.q (h q List.mem_cons_self))
  have hr : ∀ m s, NmOk n.eqs s → NmOk n.eqs (lateRounds n.eqs m s) := by
    intro m
    induction m with
    | zero => intro s hs; exact hs
    | succ m ih => intro s hs; exact ih _ (hq _ (fun _ h => h) s hs)
  exact hr _ _ (NmOk.nil _)
theorem pExpr_calls (H : AHeap) (n : Nd) (e : Ex) (hn : NdOk n) (hb : exSz e ≤ 2000000) : ACalls Try.prog 18 [.agg n.cells, exA e] H fun r H' => r = avB (lateE (hasB (lateNames n)) e) ∧ H' = H := by
  have cl := fun H => lates_calls H n hn
  generalize lateNames n = l at *
  have ce := fun om H h => plate_calls (om := om) l _ e H (Nat.le_refl _) hb h
  generalize lateE (hasB l) e = b at *
  have hn0 : n.cells = [.str n.name, .sls n.ins.length (vrL n.ins), .sls n.outs.length (vrL n.outs), .sls n.locs.length (vrL n.locs), .sls n.eqs.length (eqL n.eqs), avI n.at_] := rfl
  rw [hn0] at *
  obtain ⟨op, nm, nn, at_, ks⟩ := e
  simp only [exA, Ex.cells, Ex.op, Ex.name, Ex.n, Ex.at_, Ex.kids] at *
  refine acalls_of_aw2 Try.func18 rfl (by decide) ?_
  (first | focus (refine yy1 ?_; refine zb1 rfl rfl rfl (fun oN hoN => ?_); refine zb1 rfl rfl rfl (fun oN hoN => ?_); refine yy2 ?_; refine aw_seq ?_; refine DC.aw_drawp (fun H' => H' oN = some (.cel [.str op, .str nm, avI nn, avI at_, .sls ks.length (exL ks)])) (by first | exact auto_heap | exact ⟨auto_heap, auto_heap⟩ | exact ⟨auto_heap, auto_heap, auto_heap⟩) auto_kr auto_dk auto_dk ?_; (apply DC.awn_e auto_dk; (· exact s_load_agg rfl auto_heap rfl rfl (by first | decide | exact Nat.le_of_ble_eq_true rfl))); refine DC.awn_b ?_; (apply DC.awn_s; · (intro H1 hPsi; (try dsimp only at hPsi); exact s_load_agg rfl auto_heap rfl rfl (by first | decide | exact Nat.le_of_ble_eq_true rfl))); refine DC.awn_b ?_; refine DC.awn_b ?_; refine DC.awn_nil ?_; refine DC.awc_cons (fun Rx K1 hK1x => ?_); (refine zc auto_wl (cl _) ?_; rintro r H' ⟨om, rfl, hom, rfl⟩); refine yy101 ?_; (refine hK1x _ _ (by first | exact Or.inl (by decide +kernel) | (refine Or.inr ?_; (try dsimp only); first | exact auto_heap | exact ⟨auto_heap, auto_heap⟩ | exact ⟨auto_heap, auto_heap, auto_heap⟩)) ?_; clear hK1x K1 Rx); refine DC.awc_cons (fun Rx K1 hK1x => ?_); (refine zc auto_wl (ce om _ auto_heap) ?_; rintro r H' ⟨rfl, rfl⟩); refine yy101 ?_; (refine hK1x _ _ (by first | exact Or.inl (by decide +kernel) | (refine Or.inr ?_; (try dsimp only); first | exact auto_heap | exact ⟨auto_heap, auto_heap⟩ | exact ⟨auto_heap, auto_heap, auto_heap⟩)) ?_; clear hK1x K1 Rx); refine DC.awc_cons (fun Rx K1 hK1x => ?_); refine yy74 ?_; refine yy101 ?_; (refine hK1x _ _ (by first | exact Or.inl (by decide +kernel) | (refine Or.inr ?_; (try dsimp only); first | exact auto_heap | exact ⟨auto_heap, auto_heap⟩ | exact ⟨auto_heap, auto_heap, auto_heap⟩)) ?_; clear hK1x K1 Rx); refine DC.awc_nil ?_; refine k_seq_normal ?_; refine aw_ret ?_; rotate_left) | fail)
  exact ⟨.inl rfl, _, _, _, Ent.gc auto_sub, ret1 rfl rfl, rfl, rfl⟩
theorem pLate_calls (H : AHeap) (n : Nd) (hn : NdOk n) : ACalls Try.prog 16 [.agg n.cells] H fun r H' => r = .sls (lateN n).length (bsL (lateN n)) ∧ H' = H := by
  have cl := fun H => lates_calls H n hn
  have hns := (lateNames_ok n).len
  have hbq := hn.q
  have hlv := varsN_len hn
  unfold lateN
  generalize lateNames n = s at *
  have cv := fun H => ConcatV_calls H [n.ins, n.outs, n.locs] (show 3 ≤ 1000 by decide) (fun b hb => by
    simp only [List.mem_cons, List.mem_nil_iff, or_false] at hb
    rcases hb with rfl | rfl | rfl
    · exact hn.i
    · exact hn.o
    · exact hn.l)
  have hfl : [n.ins, n.outs, n.locs].flatten = varsN n := by unfold varsN; simp
  rw [hfl] at cv
  generalize varsN n = v at *
  have hmv := vr_len v
  generalize hZ : (v.filter fun v => hasB s v.name).map (·.name) = Z
  replace hZ := Hdn.mk hZ
  simp only [List.map_cons, List.map_nil, List.length_cons, List.length_nil] at cv
  have hn0 : n.cells = [.str n.name, .sls n.ins.length (vrL n.ins), .sls n.outs.length (vrL n.outs), .sls n.locs.length (vrL n.locs), .sls n.eqs.length (eqL n.eqs), avI n.at_] := rfl
  rw [hn0] at *
  refine acalls_of_aw1 Try.func16 rfl (by decide) ?_
  (first | focus (refine yy1 ?_; refine zb1 rfl rfl rfl (fun oN hoN => ?_); refine yy2 ?_; refine yy1 ?_; refine yy19 ?_; (refine zc auto_wl (cl _) ?_; rintro r H' ⟨om, rfl, hom, rfl⟩); refine awl_s rfl (s_assign (v := .mp _) rfl) ?_; refine yy8 ?_; refine yy2 ?_; refine yy13 ?_; refine yy11 ?_; refine yy11 ?_; refine yy11 ?_; refine yy30 ?_; (refine zc auto_wl (cv _) ?_; rintro r H' ⟨rfl, rfl⟩); refine yy110 ?_; refine yy4 ?_; refine yy70 ?_; rotate_left) | fail)
  obtain ⟨oX, hoXe⟩ : ∃ x, x = oN := ⟨_, rfl⟩
  subst hoXe
  have hoX : H oX = none := hoN
  have hM0 : H om = none := by (first | assumption | exact AHeap.none_of_set ((by assumption)) | exact AHeap.none_of_set (AHeap.none_of_set ((by assumption))) | exact AHeap.none_of_set (AHeap.none_of_set (AHeap.none_of_set ((by assumption)))) | exact AHeap.none_of_set (AHeap.none_of_set (AHeap.none_of_set (AHeap.none_of_set ((by assumption))))) | exact AHeap.none_of_set (AHeap.none_of_set (AHeap.none_of_set (AHeap.none_of_set (AHeap.none_of_set ((by assumption)))))) | exact AHeap.none_of_set (AHeap.none_of_set (AHeap.none_of_set (AHeap.none_of_set (AHeap.none_of_set (AHeap.none_of_set ((by assumption))))))) | exact AHeap.none_of_set (AHeap.none_of_set (AHeap.none_of_set (AHeap.none_of_set (AHeap.none_of_set (AHeap.none_of_set (AHeap.none_of_set ((by assumption)))))))) | exact AHeap.none_of_set (AHeap.none_of_set (AHeap.none_of_set (AHeap.none_of_set (AHeap.none_of_set (AHeap.none_of_set (AHeap.none_of_set (AHeap.none_of_set ((by assumption))))))))) | exact AHeap.none_of_set (AHeap.none_of_set (AHeap.none_of_set (AHeap.none_of_set (AHeap.none_of_set (AHeap.none_of_set (AHeap.none_of_set (AHeap.none_of_set (AHeap.none_of_set ((by assumption)))))))))) | exact AHeap.none_of_set (AHeap.none_of_set (AHeap.none_of_set (AHeap.none_of_set (AHeap.none_of_set (AHeap.none_of_set (AHeap.none_of_set (AHeap.none_of_set (AHeap.none_of_set (AHeap.none_of_set ((by assumption))))))))))))
  have hMX : om ≠ oX := by (first | assumption | exact Ne.symm (by assumption) | exact AHeap.ne_of_fresh (by assumption) | exact Ne.symm (AHeap.ne_of_fresh (by assumption)) | exact AHeap.ne_of_fresh (AHeap.none_of_set (by assumption)) | exact Ne.symm (AHeap.ne_of_fresh (AHeap.none_of_set (by assumption))) | exact AHeap.ne_ns (by assumption) (by assumption) | exact AHeap.ne_sn (by assumption) (by assumption) | exact AHeap.ne_ns (by assumption) auto_heap2 | exact AHeap.ne_sn (by assumption) auto_heap2)
  refine aw_own_nil 4 1 (.cel []) rfl rfl (fun oL hoL => ?_)
  have hL0 : H oL = none := by (first | assumption | exact AHeap.none_of_set ((by assumption)) | exact AHeap.none_of_set (AHeap.none_of_set ((by assumption))) | exact AHeap.none_of_set (AHeap.none_of_set (AHeap.none_of_set ((by assumption)))) | exact AHeap.none_of_set (AHeap.none_of_set (AHeap.none_of_set (AHeap.none_of_set ((by assumption))))) | exact AHeap.none_of_set (AHeap.none_of_set (AHeap.none_of_set (AHeap.none_of_set (AHeap.none_of_set ((by assumption)))))) | exact AHeap.none_of_set (AHeap.none_of_set (AHeap.none_of_set (AHeap.none_of_set (AHeap.none_of_set (AHeap.none_of_set ((by assumption))))))) | exact AHeap.none_of_set (AHeap.none_of_set (AHeap.none_of_set (AHeap.none_of_set (AHeap.none_of_set (AHeap.none_of_set (AHeap.none_of_set ((by assumption)))))))) | exact AHeap.none_of_set (AHeap.none_of_set (AHeap.none_of_set (AHeap.none_of_set (AHeap.none_of_set (AHeap.none_of_set (AHeap.none_of_set (AHeap.none_of_set ((by assumption))))))))) | exact AHeap.none_of_set (AHeap.none_of_set (AHeap.none_of_set (AHeap.none_of_set (AHeap.none_of_set (AHeap.none_of_set (AHeap.none_of_set (AHeap.none_of_set (AHeap.none_of_set ((by assumption)))))))))) | exact AHeap.none_of_set (AHeap.none_of_set (AHeap.none_of_set (AHeap.none_of_set (AHeap.none_of_set (AHeap.none_of_set (AHeap.none_of_set (AHeap.none_of_set (AHeap.none_of_set (AHeap.none_of_set ((by assumption))))))))))))
  have hLM : oL ≠ om := by (first | assumption | exact Ne.symm (by assumption) | exact AHeap.ne_of_fresh (by assumption) | exact Ne.symm (AHeap.ne_of_fresh (by assumption)) | exact AHeap.ne_of_fresh (AHeap.none_of_set (by assumption)) | exact Ne.symm (AHeap.ne_of_fresh (AHeap.none_of_set (by assumption))) | exact AHeap.ne_ns (by assumption) (by assumption) | exact AHeap.ne_sn (by assumption) (by assumption) | exact AHeap.ne_ns (by assumption) auto_heap2 | exact AHeap.ne_sn (by assumption) auto_heap2)
  refine aw_loop (fun mm R1 H1 => ∃ (i oL : Nat) (a : List Bs), i ≤ v.length ∧ a.length ≤ i ∧ Hdn (a ++ ((v.drop i).filter fun v => hasB s v.name).map (·.name) = Z) ∧ H oL = none ∧ oL ≠ om ∧ H1 om = some (setA s).ao ∧ H1 oL = some (.cel (bsL a)) ∧ (∀ p y, H p = some y → H1 p = some y) ∧ R1 = [(3, .mp om), (4, .vw oL 1 0 a.length), (16, vlA v), (17, avI v.length), (18, avI i)] ∧ v.length - i = mm) ?_ ?_
  · exact ⟨_, _, _, Ent.sub _ (by (repeat' (first | exact RSub.nil _ | apply RSub.cons)); all_goals rfl), 0, oL, [], Nat.zero_le _, Nat.zero_le _, hZ, hL0, hLM, by exact auto_heap, by exact AHeap.set_self _ _ _, fun p y hp => by
      have hp3 : p ≠ oL := fun e => by rw [e, hL0] at hp; cases hp
      have hp4 : p ≠ om := fun e => by rw [e, hM0] at hp; cases hp
      have hp5 : p ≠ oX := fun e => by rw [e, hoX] at hp; cases hp
      exact auto_heap, rfl, rfl⟩
  clear hZ hoL hL0 hLM oL hom
  rintro mm R1 H1 ⟨i, oL, a, hi, hai, hZ, hL0, hLM, q1, q3, hfr, rfl, rfl⟩
  have hal := bsL_len a
  by_cases hlt : i < v.length
  · have hg : v[i]? = some v[i] := List.getElem?_eq_getElem hlt
    have hd : v.drop i = v[i] :: v.drop (i + 1) := List.drop_eq_getElem_cons hlt
    rw [hd, List.filter_cons] at hZ
    generalize v[i] = x at *
    have hsx := vr_get5 hg
    have hsg := setA_get s x.name
    clear hg hd
    generalize hasB s x.name = b at *
    cases b
    · simp only [Bool.false_eq_true, if_false] at hZ
      (first | focus (refine yy71 ?_; refine aw_condp rfl (fun hc => ?_) (fun hc => ?_); refine yy50 ?_; refine yy1 ?_; refine yy64 ?_; refine yy102 ?_; refine awl_alloc rfl rfl rfl (fun oN hoN => ?_); refine yy14 ?_; refine yy8 ?_; refine yy72 ?_; refine yy11 ?_; refine yy114 ?_; refine yy69 ?_; refine yy82 ?_; refine yy10 ?_; refine yy85 ?_; refine yy4 ?_; refine yy3 ?_; rotate_left; exact absurd hc auto_no) | fail)
      exact ⟨v.length - (i + 1), _, _, by omega, Ent.tog (by (repeat' (first | exact RSub.nil _ | apply RSub.cons)); all_goals rfl) auto_sub, i + 1, oL, a, by omega, by omega, hZ, hL0, hLM, q1, q3, hfr, rfl, rfl⟩
    · simp only [if_true, List.map_cons] at hZ
      have hZ1 : Hdn ((a ++ [x.name]) ++ ((v.drop (i + 1)).filter fun v => hasB s v.name).map (·.name) = Z) := ⟨by rw [← hZ.out, List.append_assoc]; rfl⟩
      clear hZ
      (first | focus (refine yy71 ?_; refine aw_condp rfl (fun hc => ?_) (fun hc => ?_); refine yy50 ?_; refine yy1 ?_; refine yy64 ?_; refine yy102 ?_; refine awl_alloc rfl rfl rfl (fun oN hoN => ?_); refine yy14 ?_; refine yy8 ?_; refine yy72 ?_; refine yy11 ?_; refine yy114 ?_; refine yy39 ?_; refine yy10 ?_; refine yy24 ?_; refine yy11 ?_; refine yy30 ?_; refine za4 rfl rfl rfl auto_heap auto_al auto_src auto_len auto_len (fun oN hoN => ?_); refine yy34 ?_; refine yy61 ?_; refine yy10 ?_; refine yy85 ?_; refine yy4 ?_; refine yy3 ?_; rotate_left; exact absurd hc auto_no) | fail)
      have n0 : H1 oN = none := by (first | assumption | exact AHeap.none_of_set ((by assumption)) | exact AHeap.none_of_set (AHeap.none_of_set ((by assumption))) | exact AHeap.none_of_set (AHeap.none_of_set (AHeap.none_of_set ((by assumption)))) | exact AHeap.none_of_set (AHeap.none_of_set (AHeap.none_of_set (AHeap.none_of_set ((by assumption))))) | exact AHeap.none_of_set (AHeap.none_of_set (AHeap.none_of_set (AHeap.none_of_set (AHeap.none_of_set ((by assumption)))))) | exact AHeap.none_of_set (AHeap.none_of_set (AHeap.none_of_set (AHeap.none_of_set (AHeap.none_of_set (AHeap.none_of_set ((by assumption))))))) | exact AHeap.none_of_set (AHeap.none_of_set (AHeap.none_of_set (AHeap.none_of_set (AHeap.none_of_set (AHeap.none_of_set (AHeap.none_of_set ((by assumption)))))))) | exact AHeap.none_of_set (AHeap.none_of_set (AHeap.none_of_set (AHeap.none_of_set (AHeap.none_of_set (AHeap.none_of_set (AHeap.none_of_set (AHeap.none_of_set ((by assumption))))))))) | exact AHeap.none_of_set (AHeap.none_of_set (AHeap.none_of_set (AHeap.none_of_set (AHeap.none_of_set (AHeap.none_of_set (AHeap.none_of_set (AHeap.none_of_set (AHeap.none_of_set ((by assumption)))))))))) | exact AHeap.none_of_set (AHeap.none_of_set (AHeap.none_of_set (AHeap.none_of_set (AHeap.none_of_set (AHeap.none_of_set (AHeap.none_of_set (AHeap.none_of_set (AHeap.none_of_set (AHeap.none_of_set ((by assumption))))))))))))
      have n1 : oN ≠ om := fun e => by rw [e, q1] at n0; cases n0
      have n4 : H oN = none := by
        cases e : H oN with
        | none => rfl
        | some y => rw [hfr _ _ e] at n0; cases n0
      have e1 : bsL (a ++ [x.name]) = bsL a ++ [.str x.name] := by simp only [bsL, List.map_append, List.map_cons, List.map_nil]
      have hLM2 := hLM.symm
      rename_i oV hoV
      have v0 : H1 oV = none := by (first | assumption | exact AHeap.none_of_set ((by assumption)) | exact AHeap.none_of_set (AHeap.none_of_set ((by assumption))) | exact AHeap.none_of_set (AHeap.none_of_set (AHeap.none_of_set ((by assumption)))) | exact AHeap.none_of_set (AHeap.none_of_set (AHeap.none_of_set (AHeap.none_of_set ((by assumption))))) | exact AHeap.none_of_set (AHeap.none_of_set (AHeap.none_of_set (AHeap.none_of_set (AHeap.none_of_set ((by assumption)))))) | exact AHeap.none_of_set (AHeap.none_of_set (AHeap.none_of_set (AHeap.none_of_set (AHeap.none_of_set (AHeap.none_of_set ((by assumption))))))) | exact AHeap.none_of_set (AHeap.none_of_set (AHeap.none_of_set (AHeap.none_of_set (AHeap.none_of_set (AHeap.none_of_set (AHeap.none_of_set ((by assumption)))))))) | exact AHeap.none_of_set (AHeap.none_of_set (AHeap.none_of_set (AHeap.none_of_set (AHeap.none_of_set (AHeap.none_of_set (AHeap.none_of_set (AHeap.none_of_set ((by assumption))))))))) | exact AHeap.none_of_set (AHeap.none_of_set (AHeap.none_of_set (AHeap.none_of_set (AHeap.none_of_set (AHeap.none_of_set (AHeap.none_of_set (AHeap.none_of_set (AHeap.none_of_set ((by assumption)))))))))) | exact AHeap.none_of_set (AHeap.none_of_set (AHeap.none_of_set (AHeap.none_of_set (AHeap.none_of_set (AHeap.none_of_set (AHeap.none_of_set (AHeap.none_of_set (AHeap.none_of_set (AHeap.none_of_set ((by assumption))))))))))))
      have v1 : om ≠ oV := fun e => by rw [← e, q1] at v0; cases v0
      have v4 : H oV = none := by
        cases e : H oV with
        | none => rfl
        | some y => rw [hfr _ _ e] at v0; cases v0
      exact ⟨v.length - (i + 1), [(3, .mp om), (4, .vw oN 1 0 (a ++ [x.name]).length), (16, vlA v), (17, avI v.length), (18, avI (i + 1 : Nat))], _, by omega, Ent.sub _ (by rw [List.length_append]; (repeat' (first | exact RSub.nil _ | apply RSub.cons)); all_goals rfl), i + 1, oN, a ++ [x.name], by omega, by rw [List.length_append, List.length_singleton]; omega, hZ1, n4, n1, by exact auto_heap, by rw [e1]; exact AHeap.set_self _ _ _, fun p y hp => by
        have hp2 := hfr p y hp
        have hp3 : p ≠ oN := fun e => by rw [e, n4] at hp; cases hp
        have hp4 : p ≠ oL := fun e => by rw [e, hL0] at hp; cases hp
        have hp5 : p ≠ oV := fun e => by rw [e, v4] at hp; cases hp
        exact auto_heap, rfl, rfl⟩
  · obtain rfl : i = v.length := by omega
    have hZ2 : a = Z := by rw [← hZ.out, List.drop_length]; simp
    subst hZ2
    clear hZ
    (first | focus (refine yy71 ?_; refine yy12 ?_; intro hc; refine yy73 ?_; refine yy24 ?_; refine yy34 ?_; refine yy99 ?_; rotate_left) | fail)
    exact ⟨.inl rfl, _, _, _, (Ent.seal_cel (i := 2) (o := oL) (xs := bsL a) rfl auto_heap hal).trans (Ent.gc (fun p y hp => by
      have hp2 := hfr p y hp
      have hp3 : p ≠ oL := fun e => by rw [e, hL0] at hp; cases hp
      exact auto_heap)), ret1 rfl rfl, rfl, rfl⟩
end Go.Proofs.Ytmgkhfnhaeplgaa

namespace Go.Proofs.Ytmgkhfnhaeplgaa
open Go Go.Am Go.Proofs
set_option linter.unusedSimpArgs false
set_option linter.unusedVariables false
set_option maxRecDepth 20000
set_option maxHeartbeats 8000000

/-! The program: told, part, wrong. -/
theorem IndexFuncV_calls (H : AHeap) (f : FuncId) [hF : FuncT Try.prog f] (x : AV) (l : List Vr) (p : Vr → Bool) (hl : l.length ≤ 2000000) (hp : ∀ v ∈ l, ACalls Try.prog f [.agg v.cells, x] H fun r H' => r = avB (p v) ∧ H' = H) :
    ACalls Try.prog 71 [vlA l, .fnc (.func f) [] [x]] H fun r H' => r = avI (idxF p l 0) ∧ H' = H := by
  have hml := vr_len l
  generalize hZ : idxF p l 0 = Z
  replace hZ := Hdn.mk hZ
  refine acalls_of_aw2 Try.func71 rfl (by decide) ?_
  (first | focus (refine yy15 ?_; refine yy13 ?_; refine yy88 ?_; refine yy4 ?_; refine yy70 ?_; rotate_left) | fail)
  refine aw_loop (fun mm R1 H1 => ∃ (i : Nat), i ≤ l.length ∧ Hdn (idxF p (l.drop i) i = Z) ∧ H1 = H ∧ R1 = [(0, vlA l), (1, .fnc (.func f) [] [x]), (7, avI l.length), (8, avI i)] ∧ l.length - i = mm) ?_ ?_
  · exact ⟨_, _, _, Ent.sub _ (by (repeat' (first | exact RSub.nil _ | apply RSub.cons)); all_goals rfl), 0, Nat.zero_le _, hZ, rfl, rfl, rfl⟩
  clear hZ
  rintro mm R1 H1 ⟨i, hi, hZ, rfl, rfl, rfl⟩
  by_cases hlt : i < l.length
  · have hg : l[i]? = some l[i] := List.getElem?_eq_getElem hlt
    have hd : l.drop i = l[i] :: l.drop (i + 1) := List.drop_eq_getElem_cons hlt
    have cp := hp _ (List.getElem_mem hlt)
    rw [hd, idxF] at hZ
    generalize l[i] = k at *
    have hseg := vr_get hg
    generalize p k = b at *
    clear hg hd hp
    cases b
    · rw [if_neg (by decide)] at hZ
      (first | focus (refine yy71 ?_; refine aw_condp rfl (fun hc => ?_) (fun hc => ?_); refine yy50 ?_; refine yy25 ?_; refine yy2 ?_; refine yy1 ?_; refine awl_s rfl (s_move (v := .fnc _ _ _) rfl) ?_; refine yy86 ?_; refine yy4 ?_; refine yy64 ?_; refine yy102 ?_; (((refine awl_callcvf rfl rfl auto_wl (cp) (fun r H' hpost => ?_); obtain ⟨rfl, rfl⟩ := hpost))); refine yy69 ?_; refine yy82 ?_; refine yy10 ?_; refine yy85 ?_; refine yy4 ?_; refine yy3 ?_; rotate_left; exact absurd hc auto_no) | fail)
      exact ⟨l.length - (i + 1), _, _, by omega, Ent.sub _ (by (repeat' (first | exact RSub.nil _ | apply RSub.cons)); all_goals rfl), i + 1, by omega, hZ, rfl, rfl, rfl⟩
    · rw [if_pos rfl] at hZ
      obtain rfl : Z = (i : Int) := hZ.out.symm
      (first | focus (refine yy71 ?_; refine aw_condp rfl (fun hc => ?_) (fun hc => ?_); refine yy50 ?_; refine yy25 ?_; refine yy2 ?_; refine yy1 ?_; refine awl_s rfl (s_move (v := .fnc _ _ _) rfl) ?_; refine yy86 ?_; refine yy4 ?_; refine yy64 ?_; refine yy102 ?_; (((refine awl_callcvf rfl rfl auto_wl (cp) (fun r H' hpost => ?_); obtain ⟨rfl, rfl⟩ := hpost))); refine yy39 ?_; refine yy25 ?_; refine yy59 ?_; refine yy20 ?_; refine k_seq_ret ?_; refine yy20 ?_; rotate_left; exact absurd hc auto_no) | fail)
      exact ⟨.inl rfl, _, _, _, Ent.refl _ _, ret1 rfl rfl, rfl, rfl⟩
  · obtain rfl : i = l.length := by omega
    have hZ2 := hZ.out
    rw [List.drop_length, idxF] at hZ2
    subst hZ2
    (first | focus (refine yy71 ?_; refine yy12 ?_; intro hc; refine yy89 ?_; refine yy15 ?_; refine aw_ret ?_; rotate_left) | fail)
    exact ⟨.inl rfl, _, _, _, Ent.refl _ _, ret1 rfl rfl, rfl, rfl⟩
theorem ContainsFuncV_calls (H : AHeap) (f : FuncId) [hF : FuncT Try.prog f] (x : AV) (l : List Vr) (p : Vr → Bool) (hl : l.length ≤ 2000000) (hp : ∀ v ∈ l, ACalls Try.prog f [.agg v.cells, x] H fun r H' => r = avB (p v) ∧ H' = H) :
    ACalls Try.prog 53 [vlA l, .fnc (.func f) [] [x]] H fun r H' => r = avB (l.any p) ∧ H' = H := by
  have ci := IndexFuncV_calls H f x l p hl hp
  have hz := idxF_any p l 0
  generalize idxF p l 0 = z at *
  rw [← hz]
  clear hp hz
  refine acalls_of_aw2 Try.func53 rfl (by decide) ?_
  (first | focus (refine yy15 ?_; refine yy1 ?_; refine yy86 ?_; refine awl_s rfl (s_move (v := .fnc _ _ _) rfl) ?_; (refine zc auto_wl (ci) ?_; rintro r H' ⟨rfl, rfl⟩); refine awl_s rfl (s_geq rfl rfl) ?_; refine yy59 ?_; rotate_left) | fail)
  exact ⟨.inl rfl, _, _, _, Ent.refl _ _, ret1 rfl rfl, rfl, rfl⟩
theorem told1_calls (H : AHeap) (v : Vr) (s : Bs) : ACalls Try.prog 54 [.agg v.cells, .pce [.str s] 0] H fun r H' => r = avB (decide (v.name = s)) ∧ H' = H := by
  refine acalls_of_aw2 Try.func54 rfl (by decide) ?_
  (first | focus (refine yy1 ?_; refine zb1 rfl rfl rfl (fun oN hoN => ?_); refine yy2 ?_; refine yy1 ?_; refine yy11 ?_; refine yy104 ?_; refine yy79 ?_; refine aw_ret ?_; rotate_left) | fail)
  exact ⟨.inl rfl, _, _, _, Ent.gc auto_sub, ret1 rfl rfl, rfl, rfl⟩
theorem told2_calls (H : AHeap) (v : Vr) (s : Bs) : ACalls Try.prog 55 [.agg v.cells, .pce [.str s] 0] H fun r H' => r = avB (decide (v.on = s)) ∧ H' = H := by
  refine acalls_of_aw2 Try.func55 rfl (by decide) ?_
  (first | focus (refine yy1 ?_; refine zb1 rfl rfl rfl (fun oN hoN => ?_); refine yy2 ?_; refine yy1 ?_; refine yy11 ?_; refine yy104 ?_; refine yy79 ?_; refine aw_ret ?_; rotate_left) | fail)
  exact ⟨.inl rfl, _, _, _, Ent.gc auto_sub, ret1 rfl rfl, rfl, rfl⟩
theorem told_calls (H : AHeap) (n : Nd) (s : Bs) (hn : NdOk n) : ACalls Try.prog 30 [.agg n.cells, .str s] H fun r H' => r = avB (toldB n s) ∧ H' = H := by
  have c1 := fun H => ContainsFuncV_calls H 54 (.pce [.str s] 0) n.outs (fun v => decide (v.name = s)) hn.o (fun v _ => told1_calls H v s)
  have c2 := fun H => ContainsFuncV_calls H 55 (.pce [.str s] 0) n.locs (fun v => decide (v.on = s)) hn.l (fun v _ => told2_calls H v s)
  unfold toldB
  generalize (n.outs.any fun v => decide (v.name = s)) = b1 at *
  generalize (n.locs.any fun v => decide (v.on = s)) = b2 at *
  have hn0 : n.cells = [.str n.name, .sls n.ins.length (vrL n.ins), .sls n.outs.length (vrL n.outs), .sls n.locs.length (vrL n.locs), .sls n.eqs.length (eqL n.eqs), avI n.at_] := rfl
  rw [hn0] at *
  refine acalls_of_aw2 Try.func30 rfl (by decide) ?_
  cases b1
  · (first | focus (refine yy1 ?_; refine awl_box_1 rfl rfl rfl rfl ?_; refine awl_box_1 rfl rfl rfl rfl ?_; refine yy2 ?_; refine yy1 ?_; refine awl_s rfl (s_fieldAddr_pce rfl) ?_; refine yy104 ?_; refine awl_s rfl (s_makeFunc rfl rfl) ?_; (refine zc auto_wl (c1 _) ?_; rintro r H' ⟨rfl, rfl⟩); refine yy22 ?_; refine awl_s rfl (s_fieldAddr_pce rfl) ?_; refine yy5 ?_; refine yy104 ?_; refine yy5 ?_; refine awl_s rfl (s_makeFunc rfl rfl) ?_; refine yy5 ?_; (refine zc auto_wl (c2 _) ?_; rintro r H' ⟨rfl, rfl⟩); refine yy23 ?_; refine yy59 ?_; rotate_left) | fail)
    exact ⟨.inl rfl, _, _, _, Ent.gc auto_sub, ret1 rfl rfl, rfl, rfl⟩
  · (first | focus (refine yy1 ?_; refine awl_box_1 rfl rfl rfl rfl ?_; refine awl_box_1 rfl rfl rfl rfl ?_; refine yy2 ?_; refine yy1 ?_; refine awl_s rfl (s_fieldAddr_pce rfl) ?_; refine yy104 ?_; refine awl_s rfl (s_makeFunc rfl rfl) ?_; (refine zc auto_wl (c1 _) ?_; rintro r H' ⟨rfl, rfl⟩); refine yy4 ?_; refine yy48 ?_; refine yy31 ?_; refine yy59 ?_; rotate_left) | fail)
    exact ⟨.inl rfl, _, _, _, Ent.gc auto_sub, ret1 rfl rfl, rfl, rfl⟩
theorem ppart_calls {om : Nat} (l : List Bs) (e : Ex) (H : AHeap) (hb : exSz e ≤ 2000000) (hH : H om = some (setA l).ao) :
    ACalls Try.prog 52 [.mp om, exA e] H fun r H' => r = avB (partB (hasB l) e.op e.name e.kids) ∧ H' = H := by
  obtain ⟨op, nm, nn, at_, ks⟩ := e
  rw [exSz_eq] at hb
  simp only [Ex.kids, Ex.op, Ex.name, Ex.n, Ex.at_] at *
  show ACalls Try.prog _ [.mp om, .agg [.str op, .str nm, avI nn, avI at_, .sls ks.length (exL ks)]] H _
  have hml := exL_len ks
  have hkl : ks.length ≤ exSzL ks := by
    clear hml hb
    induction ks with
    | nil => exact Nat.zero_le _
    | cons x l ih => rw [exSzL, List.length_cons]; have := exSz_eq x; omega
  have hsg := setA_get l nm
  have ca := fun (H2 : AHeap) (h2 : H2 om = some (setA l).ao) => any_calls H2 ks (lateE (hasB l)) (by omega) (fun e he => plate_calls l _ e H2 (Nat.le_refl _) (by have := exSz_mem he; omega) h2)
  have c0 : ∀ k kr, ks = k :: kr → ∀ (H2 : AHeap), H2 om = some (setA l).ao → ACalls Try.prog 37 [.mp om, exA k] H2 fun r H' => r = avB (lateE (hasB l) k) ∧ H' = H2 := fun k kr e H2 h2 => plate_calls l _ k H2 (Nat.le_refl _) (by have := exSz_mem (l := ks) (e := k) (by rw [e]; exact List.mem_cons_self); omega) h2
  rw [← lateL_any] at ca
  generalize hX : partB (hasB l) op nm ks = X
  unfold partB at hX
  refine acalls_of_aw2 Try.func52 rfl (by decide) ?_
  by_cases g1 : op = ([112, 114, 101] : Bs) ∨ op = ([102, 98, 121] : Bs) ∨ op = ([99, 97, 108, 108] : Bs)
  · rw [if_pos g1] at hX
    rw [hX] at ca
    clear hX
    rcases g1 with rfl | rfl | rfl
    all_goals (
      (first | focus (refine yy1 ?_; refine zb1 rfl rfl rfl (fun oN hoN => ?_); refine yy2 ?_; refine yy13 ?_; refine yy11 ?_; refine yy70 ?_; refine yy13 ?_; refine yy79 ?_; refine aw_condp rfl (fun hc => ?_) (fun hc => ?_); refine yy35 ?_; refine aw_condp rfl (fun hc => ?_) (fun hc => ?_); refine yy1 ?_; refine yy72 ?_; refine yy11 ?_; (refine zc auto_wl (ca _ auto_heap) ?_; rintro r H' ⟨rfl, rfl⟩); refine yy59 ?_; refine yy20 ?_; rotate_left; exact absurd hc auto_no; exact absurd hc auto_no) | focus (refine yy1 ?_; refine zb1 rfl rfl rfl (fun oN hoN => ?_); refine yy2 ?_; refine yy13 ?_; refine yy11 ?_; refine yy70 ?_; refine yy13 ?_; refine yy79 ?_; refine yy12 ?_; intro hc; refine yy26 ?_; refine aw_condp rfl (fun hc => ?_) (fun hc => ?_); refine yy35 ?_; refine aw_condp rfl (fun hc => ?_) (fun hc => ?_); refine yy1 ?_; refine yy72 ?_; refine yy11 ?_; (refine zc auto_wl (ca _ auto_heap) ?_; rintro r H' ⟨rfl, rfl⟩); refine yy59 ?_; refine yy20 ?_; rotate_left; exact absurd hc auto_no; exact absurd hc auto_no) | focus (refine yy1 ?_; refine zb1 rfl rfl rfl (fun oN hoN => ?_); refine yy2 ?_; refine yy13 ?_; refine yy11 ?_; refine yy70 ?_; refine yy13 ?_; refine yy79 ?_; refine yy12 ?_; intro hc; refine yy26 ?_; refine yy12 ?_; intro hc; refine yy10 ?_; refine yy79 ?_; refine aw_condp rfl (fun hc => ?_) (fun hc => ?_); refine yy1 ?_; refine yy72 ?_; refine yy11 ?_; (refine zc auto_wl (ca _ auto_heap) ?_; rintro r H' ⟨rfl, rfl⟩); refine yy59 ?_; refine yy20 ?_; rotate_left; exact absurd hc auto_no) | fail)
      exact ⟨.inl rfl, _, _, _, Ent.gc auto_sub, ret1 rfl rfl, rfl, rfl⟩)
  rw [if_neg g1] at hX
  simp only [not_or] at g1
  obtain ⟨d1, d2, d3⟩ := g1
  replace d1 := Hdq.mk d1
  replace d2 := Hdq.mk d2
  replace d3 := Hdq.mk d3
  by_cases g2 : op = ([45, 62] : Bs)
  · rw [if_pos g2] at hX
    subst g2
    cases ks with
    | nil =>
      simp only at hX
      subst hX
      (first | focus (refine yy1 ?_; refine zb1 rfl rfl rfl (fun oN hoN => ?_); refine yy2 ?_; refine yy13 ?_; refine yy11 ?_; refine yy70 ?_; refine yy13 ?_; refine yy79 ?_; refine yy21 ?_; intro hc; refine yy26 ?_; refine yy21 ?_; intro hc; refine yy10 ?_; refine yy79 ?_; refine yy21 ?_; intro hc; refine yy26 ?_; refine aw_condp rfl (fun hc => ?_) (fun hc => ?_); refine yy1 ?_; refine yy11 ?_; refine yy110 ?_; refine yy98 ?_; refine yy4 ?_; refine zg1 rfl rfl rfl (fun hc => ?_) (fun hc => ?_); exact absurd hc auto_no; refine yy48 ?_; refine yy38 ?_; refine yy23 ?_; refine yy59 ?_; refine yy20 ?_; rotate_left; exact absurd hc auto_no) | fail)
      exact ⟨.inl rfl, _, _, _, Ent.gc auto_sub, ret1 rfl rfl, rfl, rfl⟩
    | cons k kr =>
      simp only at hX
      have c1 := c0 k kr rfl
      rw [hX] at c1
      have hseg := exL_get (l := k :: kr) (i := 0) (e := k) rfl
      simp only [List.length_cons] at *
      clear hX c0
      (first | focus (refine yy1 ?_; refine zb1 rfl rfl rfl (fun oN hoN => ?_); refine yy2 ?_; refine yy13 ?_; refine yy11 ?_; refine yy70 ?_; refine yy13 ?_; refine yy79 ?_; refine yy21 ?_; intro hc; refine yy26 ?_; refine yy21 ?_; intro hc; refine yy10 ?_; refine yy79 ?_; refine yy21 ?_; intro hc; refine yy26 ?_; refine aw_condp rfl (fun hc => ?_) (fun hc => ?_); refine yy1 ?_; refine yy11 ?_; refine yy110 ?_; refine yy98 ?_; refine yy4 ?_; refine zg1 rfl rfl rfl (fun hc => ?_) (fun hc => ?_); refine yy72 ?_; refine yy5 ?_; refine yy51 ?_; refine yy5 ?_; refine yy116 ?_; refine yy5 ?_; refine yy64 ?_; refine yy5 ?_; refine yy102 ?_; refine yy5 ?_; (refine zc auto_wl (c1 _ auto_heap) ?_; rintro r H' ⟨rfl, rfl⟩); refine yy31 ?_; refine yy59 ?_; refine yy20 ?_; rotate_left; exact absurd hc auto_no; exact absurd hc auto_no) | fail)
      exact ⟨.inl rfl, _, _, _, Ent.gc auto_sub, ret1 rfl rfl, rfl, rfl⟩
  rw [if_neg g2] at hX
  replace g2 := Hdq.mk g2
  by_cases g3 : op = ([119, 104, 101, 110] : Bs)
  · rw [if_pos g3] at hX
    subst g3
    rw [hX] at hsg
    clear hX
    (first | focus (refine yy1 ?_; refine zb1 rfl rfl rfl (fun oN hoN => ?_); refine yy2 ?_; refine yy13 ?_; refine yy11 ?_; refine yy70 ?_; refine yy13 ?_; refine yy79 ?_; refine yy21 ?_; intro hc; refine yy26 ?_; refine yy21 ?_; intro hc; refine yy10 ?_; refine yy79 ?_; refine yy21 ?_; intro hc; refine yy26 ?_; refine yy21 ?_; intro hc; refine yy26 ?_; refine aw_condp rfl (fun hc => ?_) (fun hc => ?_); refine yy1 ?_; refine yy72 ?_; refine yy11 ?_; refine yy114 ?_; refine yy59 ?_; refine yy20 ?_; rotate_left; exact absurd hc auto_no) | fail)
    exact ⟨.inl rfl, _, _, _, Ent.gc auto_sub, ret1 rfl rfl, rfl, rfl⟩
  rw [if_neg g3] at hX
  replace g3 := Hdq.mk g3
  by_cases g4 : op = ([109, 101, 114, 103, 101] : Bs)
  · rw [if_pos g4] at hX
    subst g4
    generalize hasB l nm = b1 at *
    cases b1
    · rw [Bool.false_or] at hX
      rw [hX] at ca
      clear hX
      (first | focus (refine yy1 ?_; refine zb1 rfl rfl rfl (fun oN hoN => ?_); refine yy2 ?_; refine yy13 ?_; refine yy11 ?_; refine yy70 ?_; refine yy13 ?_; refine yy79 ?_; refine yy21 ?_; intro hc; refine yy26 ?_; refine yy21 ?_; intro hc; refine yy10 ?_; refine yy79 ?_; refine yy21 ?_; intro hc; refine yy26 ?_; refine yy21 ?_; intro hc; refine yy26 ?_; refine yy21 ?_; intro hc; refine yy26 ?_; refine aw_condp rfl (fun hc => ?_) (fun hc => ?_); refine yy1 ?_; refine yy72 ?_; refine yy11 ?_; refine yy114 ?_; refine yy22 ?_; refine yy72 ?_; refine yy5 ?_; refine yy51 ?_; refine yy5 ?_; refine yy116 ?_; refine yy5 ?_; (refine zc auto_wl (ca _ auto_heap) ?_; rintro r H' ⟨rfl, rfl⟩); refine yy23 ?_; refine yy59 ?_; refine yy20 ?_; rotate_left; exact absurd hc auto_no) | fail)
      exact ⟨.inl rfl, _, _, _, Ent.gc auto_sub, ret1 rfl rfl, rfl, rfl⟩
    · rw [Bool.true_or] at hX
      subst hX
      (first | focus (refine yy1 ?_; refine zb1 rfl rfl rfl (fun oN hoN => ?_); refine yy2 ?_; refine yy13 ?_; refine yy11 ?_; refine yy70 ?_; refine yy13 ?_; refine yy79 ?_; refine yy21 ?_; intro hc; refine yy26 ?_; refine yy21 ?_; intro hc; refine yy10 ?_; refine yy79 ?_; refine yy21 ?_; intro hc; refine yy26 ?_; refine yy21 ?_; intro hc; refine yy26 ?_; refine yy21 ?_; intro hc; refine yy26 ?_; refine aw_condp rfl (fun hc => ?_) (fun hc => ?_); refine yy1 ?_; refine yy72 ?_; refine yy11 ?_; refine yy114 ?_; refine yy4 ?_; refine yy48 ?_; refine yy31 ?_; refine yy59 ?_; refine yy20 ?_; rotate_left; exact absurd hc auto_no) | fail)
      exact ⟨.inl rfl, _, _, _, Ent.gc auto_sub, ret1 rfl rfl, rfl, rfl⟩
  rw [if_neg g4] at hX
  replace g4 := Hdq.mk g4
  subst hX
  (first | focus (refine yy1 ?_; refine zb1 rfl rfl rfl (fun oN hoN => ?_); refine yy2 ?_; refine yy13 ?_; refine yy11 ?_; refine yy70 ?_; refine yy13 ?_; refine yy79 ?_; refine yy21 ?_; intro hc; refine yy26 ?_; refine yy21 ?_; intro hc; refine yy10 ?_; refine yy79 ?_; refine yy21 ?_; intro hc; refine yy26 ?_; refine yy21 ?_; intro hc; refine yy26 ?_; refine yy21 ?_; intro hc; refine yy26 ?_; refine yy21 ?_; intro hc; refine yy82 ?_; refine yy15 ?_; refine aw_ret ?_; rotate_left) | fail)
  exact ⟨.inl rfl, _, _, _, Ent.gc auto_sub, ret1 rfl rfl, rfl, rfl⟩
theorem wrongL_at (p : Bs → Bool) {ks : List Ex} {i : Nat} {k : Ex} (h : ks[i]? = some k) : wrongL p (ks.drop i) = match wrongE p k with | some a => some a | none => wrongL p (ks.drop (i + 1)) := by
  have hlt := (List.getElem?_eq_some_iff.1 h).1
  rw [List.drop_eq_getElem_cons hlt, (List.getElem?_eq_some_iff.1 h).2, wrongL]
  cases wrongE p k <;> rfl
def wrongA (x : Option Nat) (a : Nat) : AV := .tup [avI (x.getD a), avB x.isSome]
theorem wrong_calls {om : Nat} (l : List Bs) (m : Nat) : ∀ (e : Ex) (H : AHeap), exSz e ≤ m → exSz e ≤ 2000000 → H om = some (setA l).ao →
    ACalls Try.prog 29 [.mp om, exA e] H fun r H' => r = wrongA (wrongE (hasB l) e) e.at_ ∧ H' = H := by
  induction m with
  | zero => intro e H h; rw [exSz_eq] at h; omega
  | succ m ih =>
    intro e H h hb hH
    have cp := fun H2 h2 => ppart_calls (om := om) l e H2 hb h2
    obtain ⟨op, nm, nn, at_, ks⟩ := e
    rw [exSz_eq] at h hb
    unfold wrongE
    simp only [Ex.kids, Ex.op, Ex.name, Ex.n, Ex.at_] at *
    show ACalls Try.prog _ [.mp om, .agg [.str op, .str nm, avI nn, avI at_, .sls ks.length (exL ks)]] H _
    simp only [exA, Ex.cells, Ex.kids, Ex.op, Ex.name, Ex.n, Ex.at_] at cp
    have hml := exL_len ks
    have hkl : ks.length ≤ exSzL ks := by
      clear hml h hb cp
      induction ks with
      | nil => exact Nat.zero_le _
      | cons x l ih => rw [exSzL, List.length_cons]; have := exSz_eq x; omega
    generalize partB (hasB l) op nm ks = pb at *
    generalize hZ : wrongL (hasB l) ks = Z
    replace hZ := Hdn.mk hZ
    refine acalls_of_aw2 Try.func29 rfl (by decide) ?_
    (first | focus (refine yy1 ?_; refine zb1 rfl rfl rfl (fun oN hoN => ?_); refine yy74 ?_; refine yy2 ?_; refine yy13 ?_; refine yy11 ?_; refine yy110 ?_; refine yy4 ?_; refine yy70 ?_; rotate_left) | fail)
    obtain ⟨oE, hoEe⟩ : ∃ x, x = oN := ⟨_, rfl⟩
    subst hoEe
    have hE0 : H oE = none := hoN
    have hEm : oE ≠ om := fun e => by rw [e, hH] at hE0; cases hE0
    refine aw_loop (fun mm R1 H1 => ∃ (i : Nat), i ≤ ks.length ∧ Hdn (wrongL (hasB l) (ks.drop i) = Z) ∧ H1 = H.set oE (.cel [.str op, .str nm, avI nn, avI at_, .sls ks.length (exL ks)]) ∧ R1 = [(0, .mp om), (3, .ptr oE 0), (11, .sls ks.length (exL ks)), (12, avI ks.length), (13, avI i)] ∧ ks.length - i = mm) ?_ ?_
    · exact ⟨_, _, _, Ent.sub _ (by (repeat' (first | exact RSub.nil _ | apply RSub.cons)); all_goals rfl), 0, Nat.zero_le _, hZ, rfl, rfl, rfl⟩
    clear hZ hoN
    rintro mm R1 H1 ⟨i, hi, hZ, rfl, rfl, rfl⟩
    by_cases hlt : i < ks.length
    · have hg : ks[i]? = some ks[i] := List.getElem?_eq_getElem hlt
      have hseg := exL_get hg
      have hmem := exSz_mem (List.getElem_mem hlt)
      rw [wrongL_at (hasB l) hg] at hZ
      generalize ks[i] = k at *
      have cb : ∀ H2 : AHeap, H2 om = some (setA l).ao → ACalls Try.prog 29 [.mp om, exA k] H2 fun r H' => r = wrongA (wrongE (hasB l) k) k.at_ ∧ H' = H2 := fun H2 h2 => ih k H2 (by omega) (by omega) h2
      generalize wrongE (hasB l) k = wk at *
      clear ih hg hmem cp
      unfold wrongA at cb
      cases wk with
      | none =>
        simp only [Option.getD_none, Option.isSome_none] at hZ cb
        (first | focus (refine yy71 ?_; refine aw_condp rfl (fun hc => ?_) (fun hc => ?_); refine yy50 ?_; refine yy1 ?_; refine yy64 ?_; refine yy102 ?_; refine awl_alloc rfl rfl rfl (fun oN hoN => ?_); refine yy14 ?_; refine yy8 ?_; refine yy72 ?_; refine yy19 ?_; (refine zc auto_wl (cb _ auto_heap) ?_; rintro r H' ⟨rfl, rfl⟩); refine yy105 ?_; refine yy67 ?_; refine yy67 ?_; refine yy74 ?_; refine yy2 ?_; refine yy25 ?_; refine yy69 ?_; refine yy82 ?_; refine yy10 ?_; refine yy85 ?_; refine yy4 ?_; refine yy3 ?_; rotate_left; exact absurd hc auto_no) | fail)
        exact ⟨ks.length - (i + 1), _, _, by omega, Ent.tog (by (repeat' (first | exact RSub.nil _ | apply RSub.cons)); all_goals rfl) auto_sub, i + 1, by omega, hZ, rfl, rfl, rfl⟩
      | some a =>
        simp only [Option.getD_some, Option.isSome_some] at hZ cb
        obtain rfl : Z = some a := hZ.out.symm
        (first | focus (refine yy71 ?_; refine aw_condp rfl (fun hc => ?_) (fun hc => ?_); refine yy50 ?_; refine yy1 ?_; refine yy64 ?_; refine yy102 ?_; refine awl_alloc rfl rfl rfl (fun oN hoN => ?_); refine yy14 ?_; refine yy8 ?_; refine yy72 ?_; refine yy19 ?_; (refine zc auto_wl (cb _ auto_heap) ?_; rintro r H' ⟨rfl, rfl⟩); refine yy105 ?_; refine yy67 ?_; refine yy67 ?_; refine yy74 ?_; refine yy2 ?_; refine yy25 ?_; refine yy39 ?_; refine yy25 ?_; refine yy74 ?_; refine yy59 ?_; refine yy20 ?_; refine k_seq_ret ?_; refine yy20 ?_; rotate_left; exact absurd hc auto_no) | fail)
        exact ⟨.inl rfl, _, _, _, Ent.gc auto_sub, ret_2 rfl (rv1_tmp rfl) (rv1_tmp rfl), rfl, rfl⟩
    · obtain rfl : i = ks.length := by omega
      obtain rfl : Z = none := by rw [← hZ.out, List.drop_length, wrongL]
      clear hZ ih
      cases pb
      · (first | focus (refine yy71 ?_; refine yy12 ?_; intro hc; refine yy89 ?_; refine aw_seq ?_; refine yy107 ?_; (apply awt_s; · exact s_fieldAddr_ptr rfl); (apply awt_s; · exact s_load_cel rfl auto_heap rfl); (apply awt_s; · exact s_move (v := .mp _) rfl); (apply awt_s; · exact s_load_agg rfl auto_heap rfl rfl (by first | decide | exact Nat.le_of_ble_eq_true rfl)); (apply awt_s; · exact s_callc auto_wl (cp _ auto_heap)); (apply awt_s; · exact s_assign (v := .raw _) rfl); (apply awt_s; · exact s_assign (v := .raw _) rfl); refine yy111 ?_; refine k_seq_normal ?_; refine aw_ret ?_; rotate_left) | fail)
        exact ⟨.inl rfl, _, _, _, Ent.gc auto_sub, ret_2 rfl (rv1_tmp rfl) (rv1_tmp rfl), rfl, rfl⟩
      · (first | focus (refine yy71 ?_; refine yy12 ?_; intro hc; refine yy89 ?_; refine aw_seq ?_; refine yy107 ?_; (apply awt_s; · exact s_fieldAddr_ptr rfl); (apply awt_s; · exact s_load_cel rfl auto_heap rfl); (apply awt_s; · exact s_move (v := .mp _) rfl); (apply awt_s; · exact s_load_agg rfl auto_heap rfl rfl (by first | decide | exact Nat.le_of_ble_eq_true rfl)); (apply awt_s; · exact s_callc auto_wl (cp _ auto_heap)); (apply awt_s; · exact s_assign (v := .raw _) rfl); (apply awt_s; · exact s_assign (v := .raw _) rfl); refine yy111 ?_; refine k_seq_normal ?_; refine aw_ret ?_; rotate_left) | fail)
        exact ⟨.inl rfl, _, _, _, Ent.gc auto_sub, ret_2 rfl (rv1_tmp rfl) (rv1_tmp rfl), rfl, rfl⟩
end Go.Proofs.Ytmgkhfnhaeplgaa

namespace Go.Proofs.Ytmgkhfnhaeplgaa
open Go Go.Am Go.Proofs
set_option linter.unusedSimpArgs false
set_option linter.unusedVariables false
set_option maxRecDepth 20000
set_option maxHeartbeats 8000000

/-! The program: Check. -/
def checkQ (p : Bs → Bool) (n : Nd) : List Eqn → Option Nat
  | [] => none
  | q :: r => match wrongE p q.e with
    | some a => some a
    | none => if p q.name && toldB n q.name then some q.at_ else checkQ p n r
def checkN : List Nd → Option Nat
  | [] => none
  | n :: r => match checkQ (hasB (lateNames n)) n n.eqs with
    | some a => some a
    | none => checkN r
theorem checkQ_at (p : Bs → Bool) (n : Nd) {l : List Eqn} {i : Nat} {x : Eqn} (h : l[i]? = some x) : checkQ p n (l.drop i) = match wrongE p x.e with | some a => some a | none => if p x.name && toldB n x.name then some x.at_ else checkQ p n (l.drop (i + 1)) := by
  have hlt := (List.getElem?_eq_some_iff.1 h).1
  rw [List.drop_eq_getElem_cons hlt, (List.getElem?_eq_some_iff.1 h).2, checkQ]
theorem checkN_at {l : List Nd} {i : Nat} {x : Nd} (h : l[i]? = some x) : checkN (l.drop i) = match checkQ (hasB (lateNames x)) x x.eqs with | some a => some a | none => checkN (l.drop (i + 1)) := by
  have hlt := (List.getElem?_eq_some_iff.1 h).1
  rw [List.drop_eq_getElem_cons hlt, (List.getElem?_eq_some_iff.1 h).2, checkN]
def faultA (x : Option Nat) : AV := match x with | some a => .agg [avI 11, avI a] | none => .agg [avI 0, avI 0]
theorem Check_calls (H : AHeap) (l : List Nd) (hl : l.length ≤ 2000000) (hok : ∀ n ∈ l, NdOk n) : ACalls Try.prog 13 [ndsA l] H fun r H' => r = faultA (checkN l) ∧ H' = H := by
  have hvl := nd_len l
  generalize hZ : checkN l = Z
  replace hZ := Hdn.mk hZ
  refine acalls_of_aw1 Try.func13 rfl (by decide) ?_
  (first | focus (refine yy1 ?_; refine awl_alloc rfl rfl rfl (fun oN hoN => ?_); refine yy78 ?_; refine yy88 ?_; refine yy4 ?_; refine yy70 ?_; rotate_left) | fail)
  obtain ⟨oR, hoRe⟩ : ∃ x, x = oN := ⟨_, rfl⟩
  subst hoRe
  have hR0 : H oR = none := hoN
  refine aw_loop (fun mm R1 H1 => ∃ (i : Nat), i ≤ l.length ∧ Hdn (checkN (l.drop i) = Z) ∧ H1 = H.set oR (.cel [avI 0, avI 0]) ∧ R1 = [(2, .ptr oR 0), (10, ndsA l), (11, avI l.length), (12, avI i)] ∧ l.length - i = mm) ?_ ?_
  · exact ⟨_, _, _, Ent.sub _ (by (repeat' (first | exact RSub.nil _ | apply RSub.cons)); all_goals rfl), 0, Nat.zero_le _, hZ, rfl, rfl, rfl⟩
  clear hZ hoN
  rintro mm R1 H1 ⟨i, hi, hZ, rfl, rfl, rfl⟩
  by_cases hlt : i < l.length
  · have hg : l[i]? = some l[i] := List.getElem?_eq_getElem hlt
    have hn := hok _ (List.getElem_mem hlt)
    rw [checkN_at hg] at hZ
    generalize l[i] = n at *
    have hseg : List.take 6 (List.drop (i * 6) (ndL l)) = [.str n.name, .sls n.ins.length (vrL n.ins), .sls n.outs.length (vrL n.outs), .sls n.locs.length (vrL n.locs), .sls n.eqs.length (eqL n.eqs), avI n.at_] := nd_get hg
    clear hg
    have heq := eq_len n.eqs
    have hbq := hn.q
    have cl := fun H => lates_calls H n hn
    have ct := fun H s => told_calls H n s hn
    generalize lateNames n = nm at *
    generalize hZ4 : checkQ (hasB nm) n n.eqs = Zq at *
    replace hZ4 := Hdn.mk hZ4
    (first | focus (refine yy71 ?_; refine aw_condp rfl (fun hc => ?_) (fun hc => ?_); refine yy50 ?_; refine yy1 ?_; refine yy64 ?_; refine yy102 ?_; refine awl_alloc rfl rfl rfl (fun oN hoN => ?_); refine yy14 ?_; refine yy8 ?_; refine yy19 ?_; (refine zc auto_wl (cl _) ?_; rintro r H' ⟨om, rfl, hom, rfl⟩); refine awl_s rfl (s_assign (v := .mp _) rfl) ?_; refine yy8 ?_; refine yy11 ?_; refine yy110 ?_; refine yy4 ?_; refine yy70 ?_; rotate_left; exact absurd hc auto_no) | fail)
    obtain ⟨oX, hoXe⟩ : ∃ x, x = oN := ⟨_, rfl⟩
    subst hoXe
    have hX0 : H oX = none := by (first | assumption | exact AHeap.none_of_set ((by assumption)) | exact AHeap.none_of_set (AHeap.none_of_set ((by assumption))) | exact AHeap.none_of_set (AHeap.none_of_set (AHeap.none_of_set ((by assumption)))) | exact AHeap.none_of_set (AHeap.none_of_set (AHeap.none_of_set (AHeap.none_of_set ((by assumption))))) | exact AHeap.none_of_set (AHeap.none_of_set (AHeap.none_of_set (AHeap.none_of_set (AHeap.none_of_set ((by assumption)))))) | exact AHeap.none_of_set (AHeap.none_of_set (AHeap.none_of_set (AHeap.none_of_set (AHeap.none_of_set (AHeap.none_of_set ((by assumption))))))) | exact AHeap.none_of_set (AHeap.none_of_set (AHeap.none_of_set (AHeap.none_of_set (AHeap.none_of_set (AHeap.none_of_set (AHeap.none_of_set ((by assumption)))))))) | exact AHeap.none_of_set (AHeap.none_of_set (AHeap.none_of_set (AHeap.none_of_set (AHeap.none_of_set (AHeap.none_of_set (AHeap.none_of_set (AHeap.none_of_set ((by assumption))))))))) | exact AHeap.none_of_set (AHeap.none_of_set (AHeap.none_of_set (AHeap.none_of_set (AHeap.none_of_set (AHeap.none_of_set (AHeap.none_of_set (AHeap.none_of_set (AHeap.none_of_set ((by assumption)))))))))) | exact AHeap.none_of_set (AHeap.none_of_set (AHeap.none_of_set (AHeap.none_of_set (AHeap.none_of_set (AHeap.none_of_set (AHeap.none_of_set (AHeap.none_of_set (AHeap.none_of_set (AHeap.none_of_set ((by assumption))))))))))))
    have hXR : oX ≠ oR := by (first | assumption | exact Ne.symm (by assumption) | exact AHeap.ne_of_fresh (by assumption) | exact Ne.symm (AHeap.ne_of_fresh (by assumption)) | exact AHeap.ne_of_fresh (AHeap.none_of_set (by assumption)) | exact Ne.symm (AHeap.ne_of_fresh (AHeap.none_of_set (by assumption))) | exact AHeap.ne_ns (by assumption) (by assumption) | exact AHeap.ne_sn (by assumption) (by assumption) | exact AHeap.ne_ns (by assumption) auto_heap2 | exact AHeap.ne_sn (by assumption) auto_heap2)
    have hM0 : H om = none := by (first | assumption | exact AHeap.none_of_set ((by assumption)) | exact AHeap.none_of_set (AHeap.none_of_set ((by assumption))) | exact AHeap.none_of_set (AHeap.none_of_set (AHeap.none_of_set ((by assumption)))) | exact AHeap.none_of_set (AHeap.none_of_set (AHeap.none_of_set (AHeap.none_of_set ((by assumption))))) | exact AHeap.none_of_set (AHeap.none_of_set (AHeap.none_of_set (AHeap.none_of_set (AHeap.none_of_set ((by assumption)))))) | exact AHeap.none_of_set (AHeap.none_of_set (AHeap.none_of_set (AHeap.none_of_set (AHeap.none_of_set (AHeap.none_of_set ((by assumption))))))) | exact AHeap.none_of_set (AHeap.none_of_set (AHeap.none_of_set (AHeap.none_of_set (AHeap.none_of_set (AHeap.none_of_set (AHeap.none_of_set ((by assumption)))))))) | exact AHeap.none_of_set (AHeap.none_of_set (AHeap.none_of_set (AHeap.none_of_set (AHeap.none_of_set (AHeap.none_of_set (AHeap.none_of_set (AHeap.none_of_set ((by assumption))))))))) | exact AHeap.none_of_set (AHeap.none_of_set (AHeap.none_of_set (AHeap.none_of_set (AHeap.none_of_set (AHeap.none_of_set (AHeap.none_of_set (AHeap.none_of_set (AHeap.none_of_set ((by assumption)))))))))) | exact AHeap.none_of_set (AHeap.none_of_set (AHeap.none_of_set (AHeap.none_of_set (AHeap.none_of_set (AHeap.none_of_set (AHeap.none_of_set (AHeap.none_of_set (AHeap.none_of_set (AHeap.none_of_set ((by assumption))))))))))))
    have hMR : om ≠ oR := by (first | assumption | exact Ne.symm (by assumption) | exact AHeap.ne_of_fresh (by assumption) | exact Ne.symm (AHeap.ne_of_fresh (by assumption)) | exact AHeap.ne_of_fresh (AHeap.none_of_set (by assumption)) | exact Ne.symm (AHeap.ne_of_fresh (AHeap.none_of_set (by assumption))) | exact AHeap.ne_ns (by assumption) (by assumption) | exact AHeap.ne_sn (by assumption) (by assumption) | exact AHeap.ne_ns (by assumption) auto_heap2 | exact AHeap.ne_sn (by assumption) auto_heap2)
    have hMX : om ≠ oX := by (first | assumption | exact Ne.symm (by assumption) | exact AHeap.ne_of_fresh (by assumption) | exact Ne.symm (AHeap.ne_of_fresh (by assumption)) | exact AHeap.ne_of_fresh (AHeap.none_of_set (by assumption)) | exact Ne.symm (AHeap.ne_of_fresh (AHeap.none_of_set (by assumption))) | exact AHeap.ne_ns (by assumption) (by assumption) | exact AHeap.ne_sn (by assumption) (by assumption) | exact AHeap.ne_ns (by assumption) auto_heap2 | exact AHeap.ne_sn (by assumption) auto_heap2)
    refine aw_loop (fun mm R2 H2 => ∃ (k : Nat), k ≤ n.eqs.length ∧ Hdn (checkQ (hasB nm) n (n.eqs.drop k) = Zq) ∧ H2 oR = some (.cel [avI 0, avI 0]) ∧ H2 oX = some (.cel [.str n.name, .sls n.ins.length (vrL n.ins), .sls n.outs.length (vrL n.outs), .sls n.locs.length (vrL n.locs), .sls n.eqs.length (eqL n.eqs), avI n.at_]) ∧ H2 om = some (setA nm).ao ∧ (∀ p y, H p = some y → H2 p = some y) ∧ R2 = [(2, .ptr oR 0), (4, .ptr oX 0), (5, .mp om), (10, ndsA l), (11, avI l.length), (12, avI i), (19, .sls n.eqs.length (eqL n.eqs)), (20, avI n.eqs.length), (21, avI k)] ∧ n.eqs.length - k = mm) ?_ ?_
    · exact ⟨_, _, _, Ent.sub _ (by (repeat' (first | exact RSub.nil _ | apply RSub.cons)); all_goals rfl), 0, Nat.zero_le _, hZ4, by exact auto_heap, by exact auto_heap, by exact auto_heap, fun p y hp => by
        have hp3 : p ≠ oR := fun e => by rw [e, hR0] at hp; cases hp
        have hp4 : p ≠ oX := fun e => by rw [e, hX0] at hp; cases hp
        have hp5 : p ≠ om := fun e => by rw [e, hM0] at hp; cases hp
        exact auto_heap, rfl, rfl⟩
    clear hZ4 hoN hom hseg cl
    rintro mm R2 H2 ⟨k, hk, hZ4, q1, q2, q3, hfr, rfl, rfl⟩
    by_cases hkt : k < n.eqs.length
    · have hg : n.eqs[k]? = some n.eqs[k] := List.getElem?_eq_getElem hkt
      have hbx := hn.e _ (List.getElem_mem hkt)
      rw [checkQ_at (hasB nm) n hg] at hZ4
      generalize n.eqs[k] = x at *
      have hsq : List.take 7 (List.drop (k * 7) (eqL n.eqs)) = [.str x.name, .str x.e.op, .str x.e.name, avI x.e.n, avI x.e.at_, .sls x.e.kids.length (exL x.e.kids), avI x.at_] := eq_get hg
      clear hg
      have hsg := setA_get nm x.name
      have cw := fun H h => wrong_calls (om := om) nm _ x.e H (Nat.le_refl _) hbx h
      have ct := fun H => ct H x.name
      unfold wrongA at cw
      simp only [exA, Ex.cells] at cw
      generalize hasB nm x.name = b1 at *
      generalize toldB n x.name = b2 at *
      generalize wrongE (hasB nm) x.e = wk at *
      cases wk with
      | some a =>
        simp only [Option.getD_some, Option.isSome_some] at hZ4 cw
        obtain rfl : Zq = some a := hZ4.out.symm
        obtain rfl : Z = some a := hZ.out.symm
        (first | focus (refine yy71 ?_; refine aw_condp rfl (fun hc => ?_) (fun hc => ?_); refine yy50 ?_; refine yy1 ?_; refine yy64 ?_; refine yy102 ?_; refine awl_alloc rfl rfl rfl (fun oN hoN => ?_); refine yy14 ?_; refine yy78 ?_; refine yy72 ?_; refine yy51 ?_; refine yy19 ?_; (refine zc auto_wl (cw _ auto_heap) ?_; rintro r H' ⟨rfl, rfl⟩); refine yy105 ?_; refine yy67 ?_; refine yy67 ?_; refine yy74 ?_; refine yy2 ?_; refine yy25 ?_; refine yy39 ?_; refine yy25 ?_; refine yy18 ?_; refine yy66 ?_; refine yy20 ?_; refine k_seq_ret ?_; refine k_block_ret ?_; refine yy20 ?_; refine k_seq_ret ?_; refine yy20 ?_; rotate_left; exact absurd hc auto_no) | fail)
        exact ⟨.inl rfl, _, _, _, Ent.cellRet 2 [avI 11, avI a] rfl auto_heap (by ((repeat' (first | exact WC.nil | apply WC.cons)); all_goals (first | exact W.of rfl | exact W.int rfl | exact W.nilb rfl | exact W.empb rfl | exact W.bysx rfl | exact W.nils rfl | exact W.emps rfl | exact W.slsx rfl))) (fun sp sy shp => by
            have hp2 := hfr sp sy shp
            have hp3 : sp ≠ oR := fun e => by rw [e, hR0] at shp; cases shp
            have hp5 : H2 sp ≠ none := fun e => by rw [hp2] at e; cases e
            have hp7 : sp ≠ oN := fun e => hp5 (by rw [e]; exact hoN)
            exact ⟨hp3, auto_heap⟩), ret_1 rfl (rv1_agg (m := 2) rfl rfl rfl (by decide)), rfl, rfl⟩
      | none =>
        simp only [Option.getD_none, Option.isSome_none] at hZ4 cw
        cases b1
        · simp only [Bool.false_and, Bool.false_eq_true, if_false] at hZ4
          (first | focus (refine yy71 ?_; refine aw_condp rfl (fun hc => ?_) (fun hc => ?_); refine yy50 ?_; refine yy1 ?_; refine yy64 ?_; refine yy102 ?_; refine awl_alloc rfl rfl rfl (fun oN hoN => ?_); refine yy14 ?_; refine yy78 ?_; refine yy72 ?_; refine yy51 ?_; refine yy19 ?_; (refine zc auto_wl (cw _ auto_heap) ?_; rintro r H' ⟨rfl, rfl⟩); refine yy105 ?_; refine yy67 ?_; refine yy67 ?_; refine yy74 ?_; refine yy2 ?_; refine yy25 ?_; refine yy46 ?_; refine yy1 ?_; refine yy72 ?_; refine yy11 ?_; refine yy114 ?_; refine yy4 ?_; refine yy48 ?_; refine yy23 ?_; refine yy69 ?_; refine yy82 ?_; refine yy10 ?_; refine yy85 ?_; refine yy4 ?_; refine yy3 ?_; rotate_left; exact absurd hc auto_no) | fail)
          exact ⟨n.eqs.length - (k + 1), _, _, by omega, Ent.tog (by (repeat' (first | exact RSub.nil _ | apply RSub.cons)); all_goals rfl) auto_sub, k + 1, by omega, hZ4, q1, q2, q3, hfr, rfl, rfl⟩
        · cases b2
          · simp only [Bool.and_false, Bool.false_eq_true, if_false] at hZ4
            (first | focus (refine yy71 ?_; refine aw_condp rfl (fun hc => ?_) (fun hc => ?_); refine yy50 ?_; refine yy1 ?_; refine yy64 ?_; refine yy102 ?_; refine awl_alloc rfl rfl rfl (fun oN hoN => ?_); refine yy14 ?_; refine yy78 ?_; refine yy72 ?_; refine yy51 ?_; refine yy19 ?_; (refine zc auto_wl (cw _ auto_heap) ?_; rintro r H' ⟨rfl, rfl⟩); refine yy105 ?_; refine yy67 ?_; refine yy67 ?_; refine yy74 ?_; refine yy2 ?_; refine yy25 ?_; refine yy46 ?_; refine yy1 ?_; refine yy72 ?_; refine yy11 ?_; refine yy114 ?_; refine yy22 ?_; refine yy19 ?_; refine yy5 ?_; refine yy51 ?_; refine yy5 ?_; refine yy116 ?_; refine yy5 ?_; (refine zc auto_wl (ct _) ?_; rintro r H' ⟨rfl, rfl⟩); refine yy31 ?_; refine yy69 ?_; refine yy82 ?_; refine yy10 ?_; refine yy85 ?_; refine yy4 ?_; refine yy3 ?_; rotate_left; exact absurd hc auto_no) | fail)
            exact ⟨n.eqs.length - (k + 1), _, _, by omega, Ent.tog (by (repeat' (first | exact RSub.nil _ | apply RSub.cons)); all_goals rfl) auto_sub, k + 1, by omega, hZ4, q1, q2, q3, hfr, rfl, rfl⟩
          · simp only [Bool.and_self, if_true] at hZ4
            obtain rfl : Zq = some x.at_ := hZ4.out.symm
            obtain rfl : Z = some x.at_ := hZ.out.symm
            (first | focus (refine yy71 ?_; refine aw_condp rfl (fun hc => ?_) (fun hc => ?_); refine yy50 ?_; refine yy1 ?_; refine yy64 ?_; refine yy102 ?_; refine awl_alloc rfl rfl rfl (fun oN hoN => ?_); refine yy14 ?_; refine yy78 ?_; refine yy72 ?_; refine yy51 ?_; refine yy19 ?_; (refine zc auto_wl (cw _ auto_heap) ?_; rintro r H' ⟨rfl, rfl⟩); refine yy105 ?_; refine yy67 ?_; refine yy67 ?_; refine yy74 ?_; refine yy2 ?_; refine yy25 ?_; refine yy46 ?_; refine yy1 ?_; refine yy72 ?_; refine yy11 ?_; refine yy114 ?_; refine yy22 ?_; refine yy19 ?_; refine yy5 ?_; refine yy51 ?_; refine yy5 ?_; refine yy116 ?_; refine yy5 ?_; (refine zc auto_wl (ct _) ?_; rintro r H' ⟨rfl, rfl⟩); refine yy83 ?_; refine yy1 ?_; refine yy11 ?_; refine yy18 ?_; refine yy95 ?_; refine yy20 ?_; refine k_seq_ret ?_; refine k_block_ret ?_; refine yy20 ?_; refine k_seq_ret ?_; refine yy20 ?_; rotate_left; exact absurd hc auto_no) | fail)
            exact ⟨.inl rfl, _, _, _, Ent.cellRet 2 [avI 11, avI x.at_] rfl auto_heap (by ((repeat' (first | exact WC.nil | apply WC.cons)); all_goals (first | exact W.of rfl | exact W.int rfl | exact W.nilb rfl | exact W.empb rfl | exact W.bysx rfl | exact W.nils rfl | exact W.emps rfl | exact W.slsx rfl))) (fun sp sy shp => by
            have hp2 := hfr sp sy shp
            have hp3 : sp ≠ oR := fun e => by rw [e, hR0] at shp; cases shp
            have hp5 : H2 sp ≠ none := fun e => by rw [hp2] at e; cases e
            have hp7 : sp ≠ oN := fun e => hp5 (by rw [e]; exact hoN)
            exact ⟨hp3, auto_heap⟩), ret_1 rfl (rv1_agg (m := 2) rfl rfl rfl (by decide)), rfl, rfl⟩
    · obtain rfl : k = n.eqs.length := by omega
      obtain rfl : Zq = none := by rw [← hZ4.out, List.drop_length, checkQ]
      clear hZ4
      (first | focus (refine yy71 ?_; refine yy12 ?_; intro hc; refine aw_exit ?_; refine k_seq_exit ?_; refine k_seq_exit ?_; refine k_block_eq ?_; refine k_block_normal ?_; refine k_seq_normal ?_; refine yy10 ?_; refine yy85 ?_; refine yy4 ?_; refine yy3 ?_; rotate_left) | fail)
      exact ⟨l.length - (i + 1), _, H.set oR (.cel [avI 0, avI 0]), by omega, Ent.tog (by (repeat' (first | exact RSub.nil _ | apply RSub.cons)); all_goals rfl) (Sub.set q1 (fun p y hpo hp => hfr p y hp)), i + 1, by omega, hZ, rfl, rfl, rfl⟩
  · obtain rfl : i = l.length := by omega
    obtain rfl : Z = none := by rw [← hZ.out, List.drop_length, checkN]
    clear hZ
    (first | focus (refine yy71 ?_; refine yy12 ?_; intro hc; refine yy73 ?_; refine yy18 ?_; refine yy14 ?_; refine yy99 ?_; rotate_left) | fail)
    exact ⟨.inl rfl, _, _, _, Ent.cellRet 2 [avI 0, avI 0] rfl auto_heap (by ((repeat' (first | exact WC.nil | apply WC.cons)); all_goals (first | exact W.of rfl | exact W.int rfl | exact W.nilb rfl | exact W.empb rfl | exact W.bysx rfl | exact W.nils rfl | exact W.emps rfl | exact W.slsx rfl))) auto_hs, ret_1 rfl (rv1_agg (m := 2) rfl rfl rfl (by decide)), rfl, rfl⟩
end Go.Proofs.Ytmgkhfnhaeplgaa

namespace Go.Proofs.Ytmgkhfnhaeplgaa
open Go
set_option linter.unusedSimpArgs false
set_option linter.unusedVariables false
set_option maxRecDepth 20000

/-! The parser's trees are small, and each operation has its kids. Plain. -/
mutual
def arE : Ex → Prop
  | .mk op _ _ _ ks => arOf op ≤ ks.length ∧ arL ks
def arL : List Ex → Prop
  | [] => True
  | e :: r => arE e ∧ arL r
end
theorem arL_app : ∀ {l m : List Ex}, arL l → arL m → arL (l ++ m)
  | [], m, _, h => h
  | e :: l, m, h, k => by
    rw [arL] at h
    rw [List.cons_append, arL]
    exact ⟨h.1, arL_app h.2 k⟩
theorem exSzL_app : ∀ l m : List Ex, exSzL (l ++ m) = exSzL l + exSzL m
  | [], m => by rw [exSzL, List.nil_append, Nat.zero_add]
  | e :: l, m => by rw [List.cons_append, exSzL, exSzL, exSzL_app l m, Nat.add_assoc]
theorem arE_leaf {op nm : Bs} {n : Int} {a : Nat} (h : arOf op = 0) : arE (.mk op nm n a []) := by
  rw [arE]; exact ⟨by rw [h]; exact Nat.zero_le _, by rw [arL]; trivial⟩
theorem arE_0 : arE Ex0 := arE_leaf rfl
theorem exSz_leaf (op nm : Bs) (n : Int) (a : Nat) : exSz (.mk op nm n a []) = 1 := by rw [exSz, exSzL]
section
variable {ws : List Wd}
theorem Tr.ok {S T : Ps} (h : Tr ws S T) (e : T.err = 0) : S.err = 0 := Decidable.byContradiction fun c => h.e c e
theorem want_ok {S : Ps} {s : Bs} (h : (S.want ws s).err = 0) : (S.want ws s).k = S.k + 1 ∧ S.err = 0 := by
  unfold Ps.want at *
  split at h
  · rename_i hs; rw [if_pos hs]; exact ⟨rfl, (is_kind hs).1⟩
  · exact absurd h (fail_err (by decide))
theorem name_ok {S : Ps} (h : (S.name ws).2.err = 0) : (S.name ws).2.k = S.k + 1 := by
  unfold Ps.name at *
  split at h
  · exact absurd h (fail_err (by decide))
  · rename_i hs; rw [if_neg hs]; rfl
theorem zpart_k (S : Ps) : (S.part ws).k = S.k := by
  unfold Ps.part Ps.fail; split <;> simp
  split <;> rfl
theorem part_is {S : Ps} {s : Bs} (hs : S.is ws s = true) (h : (S.part ws).err = 0) : (S.part ws).is ws s = true := by
  have hk := is_kind hs
  unfold Ps.is at *
  unfold Ps.w at *
  rw [zpart_k, h]
  rw [hk.1] at hs
  exact hs
theorem ztake_k {S : Ps} {s : Bs} (hs : S.is ws s = true) : (S.take ws s).2.k = S.k + 1 ∧ (S.take ws s).2.err = S.err := by
  unfold Ps.take; rw [if_pos hs]; exact ⟨rfl, rfl⟩
theorem ztake_t {S : Ps} {s : Bs} (h : (S.take ws s).1 = true) : (S.take ws s).2.k = S.k + 1 := by
  unfold Ps.take at *
  split at h
  · rename_i hs; rw [if_pos hs]; rfl
  · cases h
/-- What a reader's tree is. -/
def Sz (S : Ps) (r : Ex × Ps) : Prop := arE r.1 ∧ (r.2.err = 0 → exSz r.1 + 4 * S.k ≤ 4 * r.2.k + 1)
def GoodS (ws : List Wd) (d : Nat) (f : Ps → Ex × Ps) : Prop := ∀ S, S.k < ws.length → S.d = d → Sz S (f S)
theorem sz_deep {S : Ps} {f : Ps → Ex × Ps} {d : Nat} (hf : d < 30 → GoodS ws (d + 1) f) (h : S.k < ws.length) (hd : S.d = d) : Sz S (deep ws f S) := by
  unfold deep Ps.inn
  by_cases he : S.err ≠ 0
  · simp only [if_pos he]; exact ⟨arE_0, fun h => absurd h he⟩
  · simp only [if_neg he]
    by_cases h30 : 30 ≤ S.d
    · simp only [if_pos h30]; exact ⟨arE_0, fun h => absurd h (fail_err (by decide))⟩
    · simp only [if_neg h30, if_true]
      have := hf (by omega) { S with d := S.d + 1 } h (by rw [← hd])
      exact ⟨this.1, fun e => this.2 e⟩
structure SzLv (ws : List Wd) (d : Nat) (nx : Lv) : Prop where
  arrow : GoodS ws d nx.arrow
  fby : GoodS ws d nx.fby
  un : GoodS ws d nx.un
  prim : GoodS ws d nx.prim
theorem sz_args {expr : Ps → Ex × Ps} {d : Nat} (hw : WsOk ws) (he : Good ws d expr) (hs : GoodS ws d expr) : ∀ (m : Nat) (acc : List Ex) (S : Ps), S.k < ws.length → S.d = d → arL acc →
    arL (argsF ws expr m acc S).1 ∧ ((argsF ws expr m acc S).2.err = 0 → exSzL (argsF ws expr m acc S).1 + 4 * S.k ≤ 4 * (argsF ws expr m acc S).2.k + 1 + exSzL acc)
  | 0, acc, S, h, hd, ha => ⟨ha, fun _ => by show exSzL acc + 4 * S.k ≤ 4 * S.k + 1 + exSzL acc; omega⟩
  | m + 1, acc, S, h, hd, ha => by
    unfold argsF
    by_cases h0 : S.err = 0
    · simp only [if_pos h0]
      have h1 := he S h hd
      have s1 := hs S h hd
      generalize expr S = r at *
      have h2 := Tr.take (s := ([44] : Bs)) hw h1.kl
      have ha2 : arL (acc ++ [r.1]) := arL_app ha (by rw [arL]; exact ⟨s1.1, by rw [arL]; trivial⟩)
      have hsz : exSzL (acc ++ [r.1]) = exSzL acc + exSz r.1 := by rw [exSzL_app, exSzL, exSzL, Nat.add_zero]
      by_cases ht : (r.2.take ws ([44] : Bs)).1 = true
      · rw [if_pos ht]
        have hk := ztake_t ht
        have ih := sz_args hw he hs m (acc ++ [r.1]) _ h2.kl (h2.d.trans (h1.d.trans hd)) ha2
        refine ⟨ih.1, fun e => ?_⟩
        have e1 := ih.2 e
        have t3 := tr_args hw he m (acc ++ [r.1]) _ h2.kl (h2.d.trans (h1.d.trans hd))
        have e2 := s1.2 (h2.ok (t3.ok e))
        rw [hsz, hk] at e1
        omega
      · rw [if_neg ht]
        refine ⟨ha2, fun e => ?_⟩
        have e2 := s1.2 (h2.ok e)
        have := h2.k
        simp only [hsz]
        omega
    · simp only [if_neg h0]; exact ⟨ha, fun e => absurd e h0⟩
theorem sz_primV {nx : Lv} {d at_ : Nat} (hw : WsOk ws) (hx : d < 30 → GoodLv ws (d + 1) nx) (hz : d < 30 → SzLv ws (d + 1) nx) : GoodS ws d (primV ws nx at_) := fun T h hd => by
  unfold primV
  simp only
  have h1 := Tr.name hw h
  by_cases hc : (T.name ws).2.is ws ([40] : Bs) = true
  · rw [if_pos hc]
    have h2 := Tr.step hw h1.kl (is_kind hc).2.1
    have hk := name_ok (ws := ws) (S := T) (is_kind hc).1
    by_cases hc2 : (T.name ws).2.step.is ws ([41] : Bs) = true
    · rw [if_pos hc2]
      refine ⟨arE_leaf rfl, fun _ => ?_⟩
      rw [exSz_leaf]
      show 1 + 4 * T.k ≤ 4 * ((T.name ws).2.k + 1 + 1) + 1
      omega
    · rw [if_neg hc2]
      have ha := sz_args hw (d := d) (fun T hk hd => tr_deep (fun z => (hx z).arrow) hk hd) (fun T hk hd => sz_deep (fun z => (hz z).arrow) hk hd) (ws.length + 3) [] _ h2.kl (h2.d.trans (h1.d.trans hd)) (by rw [arL]; trivial)
      have t3 := tr_args hw (d := d) (fun T hk hd => tr_deep (fun z => (hx z).arrow) hk hd) (ws.length + 3) [] _ h2.kl (h2.d.trans (h1.d.trans hd))
      generalize argsF ws (deep ws nx.arrow) (ws.length + 3) [] (T.name ws).2.step = r at *
      refine ⟨by rw [arE]; exact ⟨Nat.zero_le _, ha.1⟩, fun e => ?_⟩
      have e1 := want_ok e
      have e2 := ha.2 e1.2
      rw [exSz]
      rw [exSzL] at e2
      have hst : (T.name ws).2.step.k = (T.name ws).2.k + 1 := rfl
      simp only at e1 ⊢
      rw [hst] at e2
      omega
  · rw [if_neg hc]
    refine ⟨arE_leaf rfl, fun e => ?_⟩
    have := h1.k
    rw [exSz_leaf]
    simp only
    omega
theorem sz_two {op nm : Bs} {n : Int} {a : Nat} {x y : Ex} (h : arOf op ≤ 2) (hx : arE x) (hy : arE y) : arE (.mk op nm n a [x, y]) := by
  rw [arE]; exact ⟨h, by rw [arL]; exact ⟨hx, by rw [arL]; exact ⟨hy, by rw [arL]; trivial⟩⟩⟩
theorem sz_one {op nm : Bs} {n : Int} {a : Nat} {x : Ex} (h : arOf op ≤ 1) (hx : arE x) : arE (.mk op nm n a [x]) := by
  rw [arE]; exact ⟨h, by rw [arL]; exact ⟨hx, by rw [arL]; trivial⟩⟩
theorem exSz_two (op nm : Bs) (n : Int) (a : Nat) (x y : Ex) : exSz (.mk op nm n a [x, y]) = exSz x + exSz y + 1 := by rw [exSz, exSzL, exSzL, exSzL]; omega
theorem exSz_one (op nm : Bs) (n : Int) (a : Nat) (x : Ex) : exSz (.mk op nm n a [x]) = exSz x + 1 := by rw [exSz, exSzL, exSzL, Nat.add_zero]
theorem sz_primG {nx : Lv} {d : Nat} {w : Wd} (hw : WsOk ws) (hx : d < 30 → GoodLv ws (d + 1) nx) (hz : d < 30 → SzLv ws (d + 1) nx) (T : Ps) (h : T.k < ws.length) (hd : T.d = d) (hk : T.w ws = w) : Sz T (primG ws nx w T) := by
  unfold primG
  simp only
  by_cases c1 : T.err = 0 ∧ w.kind = 3
  · rw [if_pos c1]
    exact ⟨arE_leaf rfl, fun _ => by rw [exSz_leaf]; show 1 + 4 * T.k ≤ 4 * (T.k + 1) + 1; omega⟩
  rw [if_neg c1]
  by_cases c2 : T.is ws ([116, 114, 117, 101] : Bs) = true
  · rw [if_pos c2]
    exact ⟨arE_leaf rfl, fun _ => by rw [exSz_leaf]; show 1 + 4 * T.k ≤ 4 * (T.k + 1) + 1; omega⟩
  rw [if_neg c2]
  by_cases c3 : T.is ws ([102, 97, 108, 115, 101] : Bs) = true
  · rw [if_pos c3]
    exact ⟨arE_leaf rfl, fun _ => by rw [exSz_leaf]; show 1 + 4 * T.k ≤ 4 * (T.k + 1) + 1; omega⟩
  rw [if_neg c3]
  by_cases c4 : T.is ws ([105, 102] : Bs) = true
  · rw [if_pos c4]
    have h1 := Tr.step hw h (is_kind c4).2.1
    have hk1 : T.step.k = T.k + 1 := rfl
    generalize T.step = U1 at *
    have a := tr_deep (fun z => (hx z).arrow) h1.kl (h1.d.trans hd)
    have sa := sz_deep (fun z => (hz z).arrow) h1.kl (h1.d.trans hd)
    generalize deep ws nx.arrow U1 = A at *
    have h2 := Tr.want (s := ([116, 104, 101, 110] : Bs)) hw a.kl
    have hw2 := want_ok (ws := ws) (S := A.2) (s := ([116, 104, 101, 110] : Bs))
    generalize A.2.want ws ([116, 104, 101, 110] : Bs) = U2 at *
    have hd2 := h2.d.trans (a.d.trans (h1.d.trans hd))
    have b := tr_deep (fun z => (hx z).arrow) h2.kl hd2
    have sb := sz_deep (fun z => (hz z).arrow) h2.kl hd2
    generalize deep ws nx.arrow U2 = B at *
    have h3 := Tr.want (s := ([101, 108, 115, 101] : Bs)) hw b.kl
    have hw3 := want_ok (ws := ws) (S := B.2) (s := ([101, 108, 115, 101] : Bs))
    generalize B.2.want ws ([101, 108, 115, 101] : Bs) = U3 at *
    have hd3 := h3.d.trans (b.d.trans hd2)
    have c := tr_deep (fun z => (hx z).arrow) h3.kl hd3
    have sc := sz_deep (fun z => (hz z).arrow) h3.kl hd3
    generalize deep ws nx.arrow U3 = C at *
    refine ⟨by rw [arE]; exact ⟨(show (3 : Nat) ≤ 3 by decide), by rw [arL, arL, arL, arL]; exact ⟨sa.1, sb.1, sc.1, trivial⟩⟩, fun e => ?_⟩
    have e3 := c.ok e
    have e2 := (hw3 e3).2
    have e1 := (hw2 (b.ok e2)).2
    have q1 := sa.2 e1
    have q2 := sb.2 e2
    have q3 := sc.2 e
    have k2 := (hw2 (b.ok e2)).1
    have k3 := (hw3 e3).1
    rw [exSz, exSzL, exSzL, exSzL, exSzL]
    simp only
    omega
  rw [if_neg c4]
  by_cases c5 : T.is ws ([109, 101, 114, 103, 101] : Bs) = true
  · rw [if_pos c5]
    have h1 := Tr.step hw h (is_kind c5).2.1
    have hk1 : T.step.k = T.k + 1 := rfl
    generalize T.step = U1 at *
    have h2 := Tr.name hw h1.kl
    generalize U1.name ws = N1 at *
    have hd2 := h2.d.trans (h1.d.trans hd)
    have a := tr_deep (fun z => (hx z).prim) h2.kl hd2
    have sa := sz_deep (fun z => (hz z).prim) h2.kl hd2
    generalize deep ws nx.prim N1.2 = A at *
    have b := tr_deep (fun z => (hx z).prim) a.kl (a.d.trans hd2)
    have sb := sz_deep (fun z => (hz z).prim) a.kl (a.d.trans hd2)
    generalize deep ws nx.prim A.2 = B at *
    refine ⟨sz_two (by decide) sa.1 sb.1, fun e => ?_⟩
    have q2 := sb.2 e
    have q1 := sa.2 (b.ok e)
    have := h2.k
    rw [exSz_two]
    simp only
    omega
  rw [if_neg c5]
  exact sz_primV hw hx hz T h hd
theorem sz_prim {nx : Lv} {d : Nat} (hw : WsOk ws) (hx : d < 30 → GoodLv ws (d + 1) nx) (hz : d < 30 → SzLv ws (d + 1) nx) : GoodS ws d (primF ws nx) := fun S h hd => by
  unfold primF
  simp only
  by_cases hp : S.is ws ([40] : Bs) = true
  · rw [if_pos hp]
    have h1 := Tr.step hw h (is_kind hp).2.1
    have hk1 : S.step.k = S.k + 1 := rfl
    generalize S.step = U1 at *
    have sa := sz_deep (fun z => (hz z).arrow) h1.kl (h1.d.trans hd)
    generalize deep ws nx.arrow U1 = A at *
    refine ⟨sa.1, fun e => ?_⟩
    have e1 := want_ok e
    have e2 := sa.2 e1.2
    simp only at e1 ⊢
    omega
  · rw [if_neg hp]
    obtain ⟨h1, h2⟩ := Tr.primP (S := S) h
    have := sz_primG hw hx hz _ h1.kl (h1.d.trans hd) (w := S.w ws) (by unfold Ps.w; rw [h2])
    refine ⟨this.1, fun e => ?_⟩
    have := this.2 e
    omega
theorem unOp_ar (S : Ps) : arOf (unOp ws S) ≤ 1 := by
  unfold unOp
  split
  · decide
  split
  · decide
  split
  · decide
  · decide
theorem unOp_is {S : Ps} (h : unOp ws S ≠ []) : (S.w ws).kind ≠ 0 := by
  unfold unOp at h
  split at h
  · rename_i hc; exact (is_kind hc).2.1
  split at h
  · rename_i hc; exact (is_kind hc).2.1
  split at h
  · rename_i hc; exact (is_kind hc).2.1
  · exact absurd rfl h
theorem sz_un {nx : Lv} {d : Nat} (hw : WsOk ws) (hx : d < 30 → GoodLv ws (d + 1) nx) (hz : d < 30 → SzLv ws (d + 1) nx) : GoodS ws d (unF ws nx) := fun S h hd => by
  unfold unF
  by_cases hu : unOp ws S = []
  · rw [if_pos hu]; exact sz_prim hw hx hz S h hd
  · rw [if_neg hu]
    have h1 := Tr.part (ws := ws) h
    by_cases he : (S.part ws).err ≠ 0
    · rw [if_pos he]; exact ⟨arE_0, fun e => absurd e he⟩
    · rw [if_neg he]
      have hk : ((S.part ws).w ws).kind ≠ 0 := by unfold Ps.w; rw [zpart_k]; exact unOp_is hu
      have h2 := h1.trans (.step hw h1.kl hk)
      have hk2 : (S.part ws).step.k = S.k + 1 := by show (S.part ws).k + 1 = _; rw [zpart_k]
      have s3 := sz_deep (fun z => (hz z).un) h2.kl (h2.d.trans hd)
      unfold deep at s3
      split
      · rename_i hi
        simp only [if_pos hi] at s3
        refine ⟨sz_one (unOp_ar S) s3.1, fun e => ?_⟩
        have := s3.2 e
        rw [exSz_one]
        simp only at this ⊢
        omega
      · rename_i hi
        simp only [if_neg hi] at s3
        exact ⟨arE_0, fun e => by have := s3.2 e; simp only at this ⊢; omega⟩
theorem sz_whenL (hw : WsOk ws) : ∀ (m : Nat) (a : Ex) (S : Ps), S.k < ws.length → arE a → arE (whenL ws m a S).1 ∧ ((whenL ws m a S).2.err = 0 → exSz (whenL ws m a S).1 + 4 * S.k ≤ 4 * (whenL ws m a S).2.k + exSz a)
  | 0, a, S, h, ha => ⟨ha, fun _ => by show exSz a + 4 * S.k ≤ 4 * S.k + exSz a; omega⟩
  | m + 1, a, S, h, ha => by
    unfold whenL
    by_cases hc : S.is ws ([119, 104, 101, 110] : Bs) = true
    · rw [if_pos hc]
      have h1 := Tr.part (ws := ws) h
      have h2 := Tr.take (s := ([119, 104, 101, 110] : Bs)) hw h1.kl
      have h3 := Tr.take (s := ([110, 111, 116] : Bs)) hw h2.kl
      have h4 := Tr.name hw h3.kl
      have t5 := tr_whenL hw m (.mk ([119, 104, 101, 110] : Bs) ((((S.part ws).take ws ([119, 104, 101, 110] : Bs)).2.take ws ([110, 111, 116] : Bs)).2.name ws).1 (if (((S.part ws).take ws ([119, 104, 101, 110] : Bs)).2.take ws ([110, 111, 116] : Bs)).1 then 0 else 1) (S.w ws).at_ [a]) _ h4.kl
      have ih := sz_whenL hw m (.mk ([119, 104, 101, 110] : Bs) ((((S.part ws).take ws ([119, 104, 101, 110] : Bs)).2.take ws ([110, 111, 116] : Bs)).2.name ws).1 (if (((S.part ws).take ws ([119, 104, 101, 110] : Bs)).2.take ws ([110, 111, 116] : Bs)).1 then 0 else 1) (S.w ws).at_ [a]) _ h4.kl (sz_one (by decide) ha)
      refine ⟨ih.1, fun e => ?_⟩
      have e1 := ih.2 e
      rw [exSz_one] at e1
      have hp := h2.ok (h3.ok (h4.ok (t5.ok e)))
      have hk := (ztake_k (part_is hc hp)).1
      rw [zpart_k] at hk
      have := h3.k
      have := h4.k
      simp only at e1 ⊢
      omega
    · rw [if_neg hc]; exact ⟨ha, fun _ => by show exSz a + 4 * S.k ≤ 4 * S.k + exSz a; omega⟩
theorem sz_when {nx : Lv} {d : Nat} (hw : WsOk ws) (hx : d < 30 → GoodLv ws (d + 1) nx) (hz : d < 30 → SzLv ws (d + 1) nx) : GoodS ws d (whenF ws nx) := fun S h hd => by
  have h1 := tr_un hw hx S h hd
  have s1 := sz_un hw hx hz S h hd
  have s2 := sz_whenL hw (ws.length + 3) (unF ws nx S).1 _ h1.kl s1.1
  have t2 := tr_whenL hw (ws.length + 3) (unF ws nx S).1 _ h1.kl
  refine ⟨s2.1, fun e => ?_⟩
  have e2 := s2.2 e
  have e1 := s1.2 (t2.ok e)
  show exSz (whenL ws (ws.length + 3) (unF ws nx S).1 (unF ws nx S).2).1 + 4 * S.k ≤ 4 * (whenL ws (ws.length + 3) (unF ws nx S).1 (unF ws nx S).2).2.k + 1
  omega
theorem sz_inn {f : Ps → Ex × Ps} {d : Nat} {T : Ps} (hf : d < 30 → GoodS ws (d + 1) f) (h : T.k < ws.length) (hd : T.d = d) : ((T.inn ws).1 = true → Sz T ((f (T.inn ws).2).1, (f (T.inn ws).2).2.out)) ∧ ((T.inn ws).1 ≠ true → (T.inn ws).2.err ≠ 0) := by
  have h3 := sz_deep hf h hd
  unfold deep at h3
  refine ⟨fun hi => ?_, fun hi => ?_⟩
  · simp only [if_pos hi] at h3; exact h3
  · unfold Ps.inn at hi ⊢
    split
    · assumption
    · split
      · exact fail_err (by decide)
      · rename_i a b; rw [if_neg a, if_neg b] at hi; exact absurd rfl hi
theorem sz_fby {nx : Lv} {d : Nat} (hw : WsOk ws) (hx : d < 30 → GoodLv ws (d + 1) nx) (hz : d < 30 → SzLv ws (d + 1) nx) : GoodS ws d (fbyF ws nx) := fun S h hd => by
  have h1 := tr_when hw hx S h hd
  have s1 := sz_when hw hx hz S h hd
  unfold fbyF
  generalize whenF ws nx S = a at *
  simp only
  by_cases hc : a.2.is ws ([102, 98, 121] : Bs) = true
  · rw [if_pos hc]
    have h2 := Tr.part (ws := ws) h1.kl
    have h3 := Tr.take (s := ([102, 98, 121] : Bs)) hw h2.kl
    have hd3 := h3.d.trans (h2.d.trans (h1.d.trans hd))
    have s4 := sz_inn (fun z => (hz z).fby) h3.kl hd3
    have t4 := (tr_inn (fun z => (hx z).fby) (.refl h3.kl) hd3).1
    by_cases hi : (((a.2.part ws).take ws ([102, 98, 121] : Bs)).2.inn ws).1 = true
    · rw [if_pos hi]
      have q := s4.1 hi
      refine ⟨sz_two (by decide) s1.1 q.1, fun e => ?_⟩
      have e3 := (t4 hi).ok e
      have e2 := h3.ok e3
      have hk := (ztake_k (part_is hc e2)).1
      rw [zpart_k] at hk
      have e1 := s1.2 (h2.ok e2)
      have e4 := q.2 e
      rw [exSz_two]
      simp only at e4 ⊢
      omega
    · rw [if_neg hi]; exact ⟨arE_0, fun e => absurd e (s4.2 hi)⟩
  · rw [if_neg hc]; exact s1
theorem opAt_is (level : Nat) (S : Ps) (h : opAt ws level S ≠ []) : S.is ws (opAt ws level S) = true ∧ opAt ws level S ∈ opsOf level := by
  have key : ∀ (l : List Bs) (op : Bs), (op = [] ∨ S.is ws op = true) → (l.foldl (fun op s => if S.is ws s then s else op) op ≠ [] → S.is ws (l.foldl (fun op s => if S.is ws s then s else op) op) = true) ∧ (l.foldl (fun op s => if S.is ws s then s else op) op = op ∨ l.foldl (fun op s => if S.is ws s then s else op) op ∈ l) := by
    intro l
    induction l with
    | nil => intro op ho; exact ⟨fun h => ho.resolve_left h, .inl rfl⟩
    | cons s l ih =>
      intro op ho
      rw [List.foldl_cons]
      by_cases hs : S.is ws s = true
      · rw [if_pos hs]
        have := ih s (.inr hs)
        exact ⟨this.1, .inr (this.2.elim (fun e => by rw [e]; exact List.mem_cons_self) (fun e => List.mem_cons_of_mem _ e))⟩
      · rw [if_neg hs]
        have := ih op ho
        exact ⟨this.1, this.2.elim .inl (fun e => .inr (List.mem_cons_of_mem _ e))⟩
  have := key (opsOf level) [] (.inl rfl)
  exact ⟨this.1 h, this.2.resolve_left h⟩
theorem ops_ar (level : Nat) : ∀ s ∈ opsOf level, arOf s ≤ 2 := by
  match level with
  | 0 => decide
  | 1 => decide
  | 2 => decide
  | 3 => decide
  | n + 4 => exact (by decide : ∀ s ∈ opsOf 4, arOf s ≤ 2)
theorem sz_rowL {nr : Ps → Ex × Ps} {d level : Nat} (hw : WsOk ws) (hn : Good ws d nr) (hs : GoodS ws d nr) : ∀ (m : Nat) (a : Ex) (S : Ps), S.k < ws.length → S.d = d → arE a →
    arE (rowL ws level nr m a S).1 ∧ ((rowL ws level nr m a S).2.err = 0 → exSz (rowL ws level nr m a S).1 + 4 * S.k ≤ 4 * (rowL ws level nr m a S).2.k + exSz a)
  | 0, a, S, h, hd, ha => ⟨ha, fun _ => by show exSz a + 4 * S.k ≤ 4 * S.k + exSz a; omega⟩
  | m + 1, a, S, h, hd, ha => by
    unfold rowL
    by_cases ho : opAt ws level S = []
    · rw [if_pos ho]; exact ⟨ha, fun _ => by show exSz a + 4 * S.k ≤ 4 * S.k + exSz a; omega⟩
    · rw [if_neg ho]
      obtain ⟨oi, om⟩ := opAt_is level S ho
      have har := ops_ar level _ om
      generalize opAt ws level S = op at *
      have h1 := Tr.part (ws := ws) h
      have h2 := Tr.take (s := op) hw h1.kl
      have hd2 := h2.d.trans (h1.d.trans hd)
      have h3 := hn _ h2.kl hd2
      have s3 := hs _ h2.kl hd2
      have hk : (S.part ws).err = 0 → ((S.part ws).take ws op).2.k = S.k + 1 := fun e => by have := (ztake_k (part_is oi e)).1; rwa [zpart_k] at this
      generalize ((S.part ws).take ws op).2 = U at *
      generalize nr U = b at *
      have hae : arE (.mk op [] 0 (S.w ws).at_ [a, b.1]) := sz_two har ha s3.1
      simp only
      by_cases hl : level = 2
      · rw [if_pos hl]
        refine ⟨hae, fun e => ?_⟩
        have e2 := h3.ok e
        have e1 := h2.ok e2
        have := hk e1
        have := s3.2 e
        rw [exSz_two]
        simp only
        omega
      · rw [if_neg hl]
        have ih := sz_rowL (level := level) hw hn hs m (.mk op [] 0 (S.w ws).at_ [a, b.1]) b.2 h3.kl (h3.d.trans hd2) hae
        have t := tr_rowL (level := level) hw hn m (.mk op [] 0 (S.w ws).at_ [a, b.1]) b.2 h3.kl (h3.d.trans hd2)
        refine ⟨ih.1, fun e => ?_⟩
        have e0 := ih.2 e
        have e3 := t.ok e
        have e1 := h2.ok (h3.ok e3)
        have := hk e1
        have := s3.2 e3
        rw [exSz_two] at e0
        omega
theorem sz_row {nx : Lv} {d : Nat} (hw : WsOk ws) (hx : d < 30 → GoodLv ws (d + 1) nx) (hz : d < 30 → SzLv ws (d + 1) nx) : ∀ m, GoodS ws d (rowF ws nx m)
  | 0 => sz_fby hw hx hz
  | m + 1 => fun S h hd => by
    have h1 := tr_row hw hx m S h hd
    have s1 := sz_row hw hx hz m S h hd
    have s2 := sz_rowL (level := 4 - m) hw (tr_row hw hx m) (sz_row hw hx hz m) (ws.length + 3) (rowF ws nx m S).1 (rowF ws nx m S).2 h1.kl (h1.d.trans hd) s1.1
    have t2 := tr_rowL (level := 4 - m) hw (tr_row hw hx m) (ws.length + 3) (rowF ws nx m S).1 (rowF ws nx m S).2 h1.kl (h1.d.trans hd)
    refine ⟨s2.1, fun e => ?_⟩
    have e2 := s2.2 e
    have e1 := s1.2 (t2.ok e)
    show exSz (rowL ws (4 - m) (rowF ws nx m) (ws.length + 3) (rowF ws nx m S).1 (rowF ws nx m S).2).1 + 4 * S.k ≤ 4 * (rowL ws (4 - m) (rowF ws nx m) (ws.length + 3) (rowF ws nx m S).1 (rowF ws nx m S).2).2.k + 1
    omega
theorem sz_arrow {nx : Lv} {d : Nat} (hw : WsOk ws) (hx : d < 30 → GoodLv ws (d + 1) nx) (hz : d < 30 → SzLv ws (d + 1) nx) : GoodS ws d (arrowF ws nx) := fun S h hd => by
  have h1 := tr_row hw hx 5 S h hd
  have s1 := sz_row hw hx hz 5 S h hd
  unfold arrowF
  generalize rowF ws nx 5 S = a at *
  simp only
  by_cases hc : a.2.is ws ([45, 62] : Bs) = true
  · rw [if_pos hc]
    have h2 := Tr.part (ws := ws) h1.kl
    have h3 := Tr.take (s := ([45, 62] : Bs)) hw h2.kl
    have hd3 := h3.d.trans (h2.d.trans (h1.d.trans hd))
    have s4 := sz_inn (fun z => (hz z).arrow) h3.kl hd3
    have t4 := (tr_inn (fun z => (hx z).arrow) (.refl h3.kl) hd3).1
    by_cases hi : (((a.2.part ws).take ws ([45, 62] : Bs)).2.inn ws).1 = true
    · rw [if_pos hi]
      have q := s4.1 hi
      refine ⟨sz_two (by decide) s1.1 q.1, fun e => ?_⟩
      have e3 := (t4 hi).ok e
      have e2 := h3.ok e3
      have hk := (ztake_k (part_is hc e2)).1
      rw [zpart_k] at hk
      have e1 := s1.2 (h2.ok e2)
      have e4 := q.2 e
      rw [exSz_two]
      simp only at e4 ⊢
      omega
    · rw [if_neg hi]; exact ⟨arE_0, fun e => absurd e (s4.2 hi)⟩
  · rw [if_neg hc]; exact s1
theorem szlv_mk (hw : WsOk ws) {nx : Lv} {d : Nat} (hx : d < 30 → GoodLv ws (d + 1) nx) (hz : d < 30 → SzLv ws (d + 1) nx) : SzLv ws d (mkLv ws nx) := by
  have h1 := sz_arrow hw hx hz
  have h2 := sz_fby hw hx hz
  have h3 := sz_un hw hx hz
  have h4 := sz_prim hw hx hz
  unfold mkLv
  generalize arrowF ws nx = f1 at *
  generalize fbyF ws nx = f2 at *
  generalize unF ws nx = f3 at *
  generalize primF ws nx = f4 at *
  exact ⟨h1, h2, h3, h4⟩
theorem szlv (hw : WsOk ws) (n : Nat) : ∀ d, d + n = 30 → SzLv ws d (lv ws n) := by
  induction n with
  | zero =>
    intro d hd
    rw [lv]; exact szlv_mk hw (nx := Lv0) (fun z => absurd z (by omega)) (fun z => absurd z (by omega))
  | succ n ih =>
    intro d hd
    rw [lv]; exact szlv_mk hw (nx := lv ws n) (fun z => good_lv hw n (d + 1) (by omega)) (fun z => ih (d + 1) (by omega))
theorem sz_expr (hw : WsOk ws) (S : Ps) (h : S.k < ws.length) (hd : S.d ≤ 29) : Sz S (exprF ws S) :=
  sz_deep (d := S.d) (fun z => (szlv hw (29 - S.d) (S.d + 1) (by omega)).arrow) h rfl
end
end Go.Proofs.Ytmgkhfnhaeplgaa

namespace Go.Proofs.Ytmgkhfnhaeplgaa
open Go
set_option linter.unusedSimpArgs false
set_option linter.unusedVariables false
set_option maxRecDepth 20000

/-! What a text that is read gives: small nodes, equations of the right arity. Plain. -/
section
variable {ws : List Wd}
theorem mu_top (hw : WsOk ws) (S : Ps) : mu ws S ≤ 20001 := by
  have := hw.len
  unfold mu; split <;> omega
theorem mu_step2 {S : Ps} (h : S.k < ws.length) : mu ws S.step ≤ mu ws S := by
  unfold mu Ps.step; simp only; omega
theorem declsL_mu (hw : WsOk ws) : ∀ (m : Nat) (acc : List Vr) (S : Ps), S.k < ws.length → (declsL ws m acc S).1.length + mu ws (declsL ws m acc S).2 ≤ acc.length + mu ws S
  | 0, acc, S, h => Nat.le_refl _
  | m + 1, acc, S, h => by
    unfold declsL
    by_cases hb : S.is ws ([59] : Bs) = true
    · rw [if_pos hb]
      have h1 := Tr.step hw h (is_kind hb).2.1
      have h2 := tr_decl hw _ h1.kl
      have m1 := mu_step2 h
      have m2 := decl_mu hw _ h1.kl
      have := declsL_mu hw m (acc ++ (declF ws S.step).1) (declF ws S.step).2 h2.kl
      rw [List.length_append] at this
      simp only
      omega
    · rw [if_neg hb]; exact Nat.le_refl _
theorem decls_len (hw : WsOk ws) (S : Ps) (h : S.k < ws.length) : (declsF ws S).1.length ≤ 20001 := by
  unfold declsF
  have := mu_top hw S
  by_cases hb : S.is ws ([41] : Bs) = true
  · rw [if_pos hb]; exact Nat.zero_le _
  · rw [if_neg hb]
    have h1 := tr_decl hw S h
    have m1 := decl_mu hw S h
    have m2 := declsL_mu hw (ws.length + 3) (declF ws S).1 (declF ws S).2 h1.kl
    simp only
    omega
theorem localsL_mu (hw : WsOk ws) : ∀ (m : Nat) (acc : List Vr) (S : Ps), S.k < ws.length → (localsL ws m acc S).1.length + mu ws (localsL ws m acc S).2 ≤ acc.length + mu ws S
  | 0, acc, S, h => Nat.le_refl _
  | m + 1, acc, S, h => by
    rw [localsL_eq]
    by_cases h0 : S.err = 0
    · rw [if_pos h0]
      have h1 := tr_decl hw S h
      have m1 := decl_mu hw S h
      have h2 := tr_onF hw (declF ws S) h1.kl
      have m2 := h2.mu
      have hl := onF_len (ws := ws) (declF ws S)
      by_cases hb : (onF ws (declF ws S)).2.is ws ([59] : Bs) = true ∧ ((onF ws (declF ws S)).2.step.w ws).kind = 1
      · rw [if_pos hb]
        have h3 := Tr.step hw h2.kl (is_kind hb.1).2.1
        have m3 := mu_step2 h2.kl
        have := localsL_mu hw m (acc ++ (onF ws (declF ws S)).1) (onF ws (declF ws S)).2.step h3.kl
        rw [List.length_append] at this
        omega
      · rw [if_neg hb, List.length_append]
        simp only
        omega
    · rw [if_neg h0]; exact Nat.le_refl _
theorem locals_len (hw : WsOk ws) (S : Ps) (h : S.k < ws.length) : (localsF ws S).1.length ≤ 20001 := by
  unfold localsF
  have := mu_top hw S
  by_cases hb : S.is ws ([59] : Bs) = true
  · rw [if_pos hb]; exact Nat.zero_le _
  · rw [if_neg hb]
    have m2 := localsL_mu hw (ws.length + 3) [] S h
    simp only [List.length_nil] at m2
    omega
theorem eqsL_len : ∀ (m : Nat) (acc : List Eqn) (S : Ps), (eqsL ws m acc S).1.length ≤ acc.length + m := by
  intro m
  induction m with
  | zero => intro acc S; exact Nat.le_refl _
  | succ m ih =>
    intro acc S
    unfold eqsL
    split
    · refine Nat.le_trans (ih _ _) ?_
      rw [List.length_append, List.length_singleton]
      omega
    · exact Nat.le_add_right _ _
theorem eqsL_ok (hw : WsOk ws) : ∀ (m : Nat) (acc : List Eqn) (S : Ps), S.k < ws.length → S.d ≤ 29 → (∀ q ∈ acc, arE q.e ∧ exSz q.e ≤ 2000000) →
    (eqsL ws m acc S).1.length ≤ acc.length + m ∧ ((eqsL ws m acc S).2.err = 0 → ∀ q ∈ (eqsL ws m acc S).1, arE q.e ∧ exSz q.e ≤ 2000000)
  | 0, acc, S, h, hd, ha => ⟨Nat.le_refl _, fun _ => ha⟩
  | m + 1, acc, S, h, hd, ha => by
    unfold eqsL
    by_cases hc : S.err = 0 ∧ (S.w ws).kind = 1
    · rw [if_pos hc]
      have h1 := Tr.name (S := S) hw h
      have h2 := h1.trans (.want (s := ([61] : Bs)) hw h1.kl)
      have h3 : Tr ws S { ((S.name ws).2.want ws ([61] : Bs)) with parts := 0 } := ⟨h2.d, h2.k, h2.kl, h2.e⟩
      have hz := sz_expr hw { ((S.name ws).2.want ws ([61] : Bs)) with parts := 0 } h3.kl (by rw [h3.d]; exact hd)
      have h4 := h3.trans (good_expr hw _ h3.kl (by rw [h3.d]; exact hd))
      simp only
      generalize exprF ws { ((S.name ws).2.want ws ([61] : Bs)) with parts := 0 } = r at *
      have h5 := h4.trans (.want (s := ([59] : Bs)) hw h4.kl)
      have t6 := tr_eqsL hw m (acc ++ [⟨(S.name ws).1, r.1, (S.w ws).at_⟩]) (r.2.want ws ([59] : Bs)) h5.kl (by rw [h5.d]; exact hd)
      have hlen := hw.len
      by_cases he : r.2.err = 0
      · have z1 := hz.2 he
        have k1 := h4.kl
        have ih := eqsL_ok hw m (acc ++ [⟨(S.name ws).1, r.1, (S.w ws).at_⟩]) (r.2.want ws ([59] : Bs)) h5.kl (by rw [h5.d]; exact hd) (fun q hq => by
          rcases List.mem_append.1 hq with hq | hq
          · exact ha q hq
          · rw [List.mem_singleton] at hq; subst hq; exact ⟨hz.1, by show exSz r.1 ≤ 2000000; omega⟩)
        refine ⟨?_, ih.2⟩
        have := ih.1
        rw [List.length_append, List.length_singleton] at this
        omega
      · have hT := Tr.want (s := ([59] : Bs)) hw h4.kl
        refine ⟨?_, fun e => absurd (hT.ok (t6.ok e)) he⟩
        have := eqsL_len (ws := ws) m (acc ++ [⟨(S.name ws).1, r.1, (S.w ws).at_⟩]) (r.2.want ws ([59] : Bs))
        rw [List.length_append, List.length_singleton] at this
        omega
    · rw [if_neg hc]; exact ⟨Nat.le_add_right _ _, fun _ => ha⟩
/-- A node as the parser gives it. -/
structure NdG (n : Nd) : Prop where
  ok : NdOk n
  ar : ∀ q ∈ n.eqs, arE q.e
  sm : n.ins.length + n.outs.length + n.locs.length ≤ 100000
theorem node_ok (hw : WsOk ws) (S : Ps) (h : S.k < ws.length) (hd : S.d ≤ 29) : (nodeF ws S).2.err = 0 → NdG (nodeF ws S).1 := by
  have hlen := hw.len
  unfold nodeF
  have t0 : Tr ws S { S with names := 0 } := ⟨rfl, Nat.le_refl _, h, id⟩
  have t1 := t0.trans (.want (s := ([110, 111, 100, 101] : Bs)) hw h)
  generalize ({ S with names := 0 } : Ps).want ws ([110, 111, 100, 101] : Bs) = S1 at *
  have t2 := t1.trans (.name hw t1.kl)
  generalize S1.name ws = A at *
  obtain ⟨nm, S2⟩ := A
  simp only at *
  have t3 := t2.trans (.want (s := ([40] : Bs)) hw t2.kl)
  generalize S2.want ws ([40] : Bs) = S3 at *
  have t4 := t3.trans (tr_decls hw _ t3.kl)
  have l4 := decls_len hw _ t3.kl
  generalize declsF ws S3 = A at *
  obtain ⟨ins, S4⟩ := A
  simp only at *
  have t5 := t4.trans (.want (s := ([41] : Bs)) hw t4.kl)
  generalize S4.want ws ([41] : Bs) = S5 at *
  have t6 := t5.trans (.want (s := ([114, 101, 116, 117, 114, 110, 115] : Bs)) hw t5.kl)
  generalize S5.want ws ([114, 101, 116, 117, 114, 110, 115] : Bs) = S6 at *
  have t7 := t6.trans (.want (s := ([40] : Bs)) hw t6.kl)
  generalize S6.want ws ([40] : Bs) = S7 at *
  have t8 := t7.trans (tr_decls hw _ t7.kl)
  have l8 := decls_len hw _ t7.kl
  generalize declsF ws S7 = A at *
  obtain ⟨outs, S8⟩ := A
  simp only at *
  have t9 := t8.trans (.want (s := ([41] : Bs)) hw t8.kl)
  generalize S8.want ws ([41] : Bs) = S9 at *
  have t10 := t9.trans (.want (s := ([59] : Bs)) hw t9.kl)
  generalize S9.want ws ([59] : Bs) = S10 at *
  have t11 : Tr ws S (if S10.is ws ([118, 97, 114] : Bs) = true then ((localsF ws S10.step).1, (localsF ws S10.step).2.want ws ([59] : Bs)) else ([], S10)).2 ∧ (if S10.is ws ([118, 97, 114] : Bs) = true then ((localsF ws S10.step).1, (localsF ws S10.step).2.want ws ([59] : Bs)) else ([], S10)).1.length ≤ 20001 := by
    split
    · rename_i hb
      have h1 := t10.trans (.step hw t10.kl (is_kind hb).2.1)
      have h2 := h1.trans (tr_locals hw _ h1.kl)
      exact ⟨h2.trans (.want hw h2.kl), locals_len hw _ h1.kl⟩
    · exact ⟨t10, Nat.zero_le _⟩
  generalize (if S10.is ws ([118, 97, 114] : Bs) = true then ((localsF ws S10.step).1, (localsF ws S10.step).2.want ws ([59] : Bs)) else ([], S10)) = Cc at *
  obtain ⟨t11, l11⟩ := t11
  have t12 := t11.trans (.want (s := ([108, 101, 116] : Bs)) hw t11.kl)
  generalize Cc.2.want ws ([108, 101, 116] : Bs) = S12 at *
  have t13 := t12.trans (tr_eqsL hw (ws.length + 3) [] _ t12.kl (by rw [t12.d]; exact hd))
  have q13 := eqsL_ok hw (ws.length + 3) [] _ t12.kl (by rw [t12.d]; exact hd) (fun q hq => absurd hq (List.not_mem_nil))
  generalize eqsL ws (ws.length + 3) [] S12 = Q at *
  have t14 := Tr.want (s := ([116, 101, 108] : Bs)) hw t13.kl
  have t15 := Tr.take (s := ([59] : Bs)) hw t14.kl
  intro e
  have q14 := q13.2 (t14.ok (t15.ok e))
  have q15 := q13.1
  simp only [List.length_nil] at q15
  exact ⟨⟨by show ins.length ≤ _; omega, by show outs.length ≤ _; omega, by show Cc.1.length ≤ _; omega, by show Q.1.length ≤ _; omega, fun q hq => (q14 q hq).2⟩, fun q hq => (q14 q hq).1, by show ins.length + outs.length + Cc.1.length ≤ _; omega⟩
theorem nodesL_ok (hw : WsOk ws) : ∀ (m : Nat) (acc : List Nd) (S : Ps), S.k < ws.length → S.d ≤ 29 → acc.length ≤ 32 → (S.err = 0 → ∀ n ∈ acc, NdG n) →
    (nodesL ws m acc S).1.length ≤ 32 ∧ ((nodesL ws m acc S).2.err = 0 → ∀ n ∈ (nodesL ws m acc S).1, NdG n)
  | 0, acc, S, h, hd, hl, ha => ⟨hl, ha⟩
  | m + 1, acc, S, h, hd, hl, ha => by
    rw [nodesL]
    by_cases hc : S.err = 0 ∧ (acc.isEmpty = true ∨ (S.w ws).kind ≠ 0)
    · rw [if_pos hc]
      by_cases h32 : acc.length = 32
      · rw [if_pos h32]; exact ⟨hl, fun e => absurd e (fail_err (by decide))⟩
      · rw [if_neg h32]
        have t1 := tr_node hw S h hd
        have n1 := node_ok hw S h hd
        refine nodesL_ok hw m _ _ t1.kl (by rw [t1.d]; exact hd) (by rw [List.length_append, List.length_singleton]; omega) (fun e n hn => ?_)
        rcases List.mem_append.1 hn with hn | hn
        · exact ha (t1.ok e) n hn
        · rw [List.mem_singleton] at hn; subst hn; exact n1 e
    · rw [if_neg hc]; exact ⟨hl, ha⟩
end
theorem parse_ok (t : Bs) (h : (parse t).2.1 = 0) : (parse t).1.length ≤ 32 ∧ ∀ n ∈ (parse t).1, NdG n := by
  have hok := cut_ok t
  unfold parse at *
  generalize cut t = c at *
  obtain ⟨ws, err, at_⟩ := c
  simp only at *
  by_cases he : err ≠ 0
  · rw [if_pos he] at h; exact absurd h he
  · rw [if_neg he] at h ⊢
    have hw := hok (by omega)
    have h0 : 0 < ws.length := by obtain ⟨l, w, e, _⟩ := hw.last; rw [e]; simp
    have hn := nodesL_ok hw 40 [] ⟨0, 0, 0, 0, 0, 0⟩ h0 (by decide) (by decide) (fun _ n hn => absurd hn (List.not_mem_nil))
    generalize nodesL ws 40 [] ⟨0, 0, 0, 0, 0, 0⟩ = R at *
    by_cases h2 : R.2.err ≠ 0
    · rw [if_pos h2] at h; exact absurd h h2
    · rw [if_neg h2]
      exact ⟨hn.1, hn.2 (by omega)⟩
theorem parse_len (t : Bs) : (parse t).1.length ≤ 32 := by
  by_cases h : (parse t).2.1 = 0
  · exact (parse_ok t h).1
  · unfold parse at *
    generalize cut t = c at *
    obtain ⟨ws, err, at_⟩ := c
    simp only at *
    by_cases he : err ≠ 0
    · rw [if_pos he]; exact Nat.zero_le _
    · rw [if_neg he] at h ⊢
      generalize nodesL ws 40 [] ⟨0, 0, 0, 0, 0, 0⟩ = R at *
      by_cases h2 : R.2.err ≠ 0
      · rw [if_pos h2]; exact Nat.zero_le _
      · rw [if_neg h2] at h; exact absurd rfl h
end Go.Proofs.Ytmgkhfnhaeplgaa

namespace Go.Proofs.Ytmgkhfnhaeplgaa
open Go Go.Am Go.Proofs
set_option linter.unusedSimpArgs false
set_option linter.unusedVariables false
set_option maxRecDepth 20000
set_option maxHeartbeats 8000000

/-! The laws' own parts: a text's fault. -/
theorem parse_nd (t : Bs) : ∀ n ∈ (parse t).1, NdG n := by
  by_cases h : (parse t).2.1 = 0
  · exact (parse_ok t h).2
  · intro n hn
    exfalso
    unfold parse at *
    generalize cut t = c at *
    obtain ⟨ws, err, at_⟩ := c
    simp only at *
    by_cases he : err ≠ 0
    · rw [if_pos he] at hn; cases hn
    · rw [if_neg he] at h hn
      generalize nodesL ws 40 [] ⟨0, 0, 0, 0, 0, 0⟩ = R at *
      by_cases h2 : R.2.err ≠ 0
      · rw [if_pos h2] at hn; cases hn
      · rw [if_neg h2] at h; exact h rfl
/-- A text's fault, plain. -/
def fltN (l : List Nd) : Nat × Nat := match checkN l with | some a => (11, a) | none => (0, 0)
def flt (t : Bs) : Nat × Nat := fltN (parse t).1
theorem faultA_eq (l : List Nd) : faultA (checkN l) = .agg [avI (fltN l).1, avI (fltN l).2] := by
  unfold fltN faultA; cases checkN l <;> rfl
theorem fault_calls (H : AHeap) (t : Bs) (hl : t.length ≤ 2000000) : ACalls Try.prog 9 [.str t] H fun r H' => r = .agg [avI (flt t).1, avI (flt t).2] ∧ H' = H := by
  have cp := fun H => Parse_calls H t hl
  have hlen := parse_len t
  have hnd := parse_nd t
  unfold flt
  generalize parse t = x at *
  obtain ⟨l, a, b⟩ := x
  simp only at *
  unfold parseA at cp
  simp only at cp
  have cb := fun H => Back_calls H l (by omega) (fun n hn => (hnd n hn).ok)
  have ck := fun H => Check_calls H l (by omega) (fun n hn => (hnd n hn).ok)
  have hvl := nd_len l
  simp only [faultA_eq] at ck
  generalize fltN l = z at *
  have cd := fun H => Bad_calls H (z.1 : Int) (z.2 : Int)
  clear hnd
  refine acalls_of_aw1 Try.func9 rfl (by decide) ?_
  (first | focus (refine yy1 ?_; refine awl_alloc rfl rfl rfl (fun oN hoN => ?_); refine yy8 ?_; refine yy42 ?_; (refine zc auto_wl (cp _) ?_; rintro r H' ⟨rfl, rfl⟩); refine yy105 ?_; refine yy67 ?_; refine yy67 ?_; refine awl_alloc rfl rfl rfl (fun oN hoN => ?_); refine yy115 ?_; refine yy14 ?_; refine yy8 ?_; refine yy86 ?_; (refine zc auto_wl (cb _) ?_; rintro r H' ⟨rfl, rfl⟩); (refine zc auto_wl (ck _) ?_; rintro r H' ⟨rfl, rfl⟩); (refine zc auto_wl (cd _) ?_; rintro r H' ⟨rfl, rfl⟩); refine yy95 ?_; rotate_left) | fail)
  exact ⟨.inl rfl, _, _, _, Ent.cellRet 2 [avI z.1, avI z.2] rfl auto_heap (by ((repeat' (first | exact WC.nil | apply WC.cons)); all_goals (first | exact W.of rfl | exact W.int rfl | exact W.nilb rfl | exact W.empb rfl | exact W.bysx rfl | exact W.nils rfl | exact W.emps rfl | exact W.slsx rfl))) auto_hs, ret_1 rfl (rv1_agg (m := 2) rfl rfl rfl (by decide)), rfl, rfl⟩
end Go.Proofs.Ytmgkhfnhaeplgaa

namespace Go.Proofs.Ytmgkhfnhaeplgaa
open Go
set_option linter.unusedSimpArgs false
set_option linter.unusedVariables false
set_option maxRecDepth 20000
set_option maxHeartbeats 8000000

/-! The closed texts. Plain. -/
abbrev tK1 : Bs := ([110, 111, 100, 101, 32, 102, 40, 120, 58, 32, 105, 110, 116, 41, 32, 114, 101, 116, 117, 114, 110, 115, 32, 40, 121, 58, 32, 105, 110, 116, 41, 59, 32, 108, 101, 116, 32, 121, 32, 61, 32, 112, 114, 101, 32, 120, 59, 32, 116, 101, 108] : Bs)
abbrev tK2 : Bs := ([110, 111, 100, 101, 32, 102, 40, 120, 58, 32, 105, 110, 116, 41, 32, 114, 101, 116, 117, 114, 110, 115, 32, 40, 121, 58, 32, 105, 110, 116, 41, 59, 32, 108, 101, 116, 32, 121, 32, 61, 32, 48, 32, 45, 62, 32, 112, 114, 101, 32, 120, 59, 32, 116, 101, 108] : Bs)
abbrev tA : Bs := ([110, 111, 100, 101, 32, 102, 40, 120, 58, 32, 105, 110, 116, 41, 32, 114, 101, 116, 117, 114, 110, 115, 32, 40, 121, 58, 32, 105, 110, 116, 41, 59, 32, 118, 97, 114, 32, 116, 58, 32, 105, 110, 116, 59, 32, 108, 101, 116, 32, 116, 32, 61, 32, 49, 32, 43, 32, 112, 114, 101, 32, 120, 59, 32, 121, 32, 61, 32, 48, 32, 45, 62, 32, 116, 59, 32, 116, 101, 108] : Bs)
theorem tK1_flt : flt tK1 = (11, 37) := by decide +kernel
theorem tK2_flt : flt tK2 = (0, 0) := by decide +kernel
def awk (l : List Nd) : Bool := match l with
  | [n] => (match n.eqs with
    | [q0, q1] => decide (checkN [n] = none) && decide (lateN n = [([116] : Bs)]) && lateE (hasB (lateNames n)) q0.e && !lateE (hasB (lateNames n)) q1.e
    | _ => false)
  | _ => false
theorem tA_awk : awk (parse tA).1 = true := by decide +kernel
theorem tA_is : ∃ nm ins outs locs a0 op0 nm0 n0 p0 k0 b0 a1 op1 nm1 n1 p1 k1 b1 at_ n, n = Nd.mk nm ins outs locs [⟨a0, .mk op0 nm0 n0 p0 k0, b0⟩, ⟨a1, .mk op1 nm1 n1 p1 k1, b1⟩] at_ ∧ (parse tA).1 = [n] ∧ checkN [n] = none ∧ lateN n = [([116] : Bs)] ∧ lateE (hasB (lateNames n)) (.mk op0 nm0 n0 p0 k0) = true ∧ lateE (hasB (lateNames n)) (.mk op1 nm1 n1 p1 k1) = false := by
  have h := tA_awk
  generalize (parse tA).1 = l at *
  unfold awk at h
  split at h
  · rename_i n
    split at h
    · rename_i q0 q1 hq
      obtain ⟨nm, ins, outs, locs, eqs, at_⟩ := n
      obtain ⟨a0, ⟨op0, nm0, n0, p0, k0⟩, b0⟩ := q0
      obtain ⟨a1, ⟨op1, nm1, n1, p1, k1⟩, b1⟩ := q1
      simp only at hq
      subst hq
      simp only [Bool.and_eq_true, decide_eq_true_eq, Bool.not_eq_true'] at h
      exact ⟨_, _, _, _, _, _, _, _, _, _, _, _, _, _, _, _, _, _, _, _, rfl, rfl, h.1.1.1, h.1.1.2, h.1.2, h.2⟩
    · cases h
  · cases h
end Go.Proofs.Ytmgkhfnhaeplgaa

namespace Go.Proofs.Ytmgkhfnhaeplgaa
open Go Go.Am Go.Proofs
set_option linter.unusedSimpArgs false
set_option linter.unusedVariables false
set_option maxRecDepth 20000
set_option maxHeartbeats 8000000

/-! The laws' own parts: awake. -/
theorem awake_calls (H : AHeap) : ACalls Try.prog 8 [] H fun r H' => r = avB true ∧ H' = H := by
  have cp := fun H => Parse_calls H tA (by decide)
  have hnd := parse_nd tA
  obtain ⟨nm, ins, outs, locs, a0, op0, nm0, n0, p0, k0, b0, a1, op1, nm1, n1, p1, k1, b1, at_, n, hn, hl, h1, h2, h3, h4⟩ := tA_is
  generalize parse tA = x at *
  obtain ⟨l, a, b⟩ := x
  simp only at *
  subst hl
  have hok := (hnd n (List.mem_singleton.2 rfl)).ok
  have cb := fun H => Back_calls H [n] (show 1 ≤ 2000000 by decide) (fun m hm => by rw [List.mem_singleton.1 hm]; exact hok)
  have ck := fun H => Check_calls H [n] (show 1 ≤ 2000000 by decide) (fun m hm => by rw [List.mem_singleton.1 hm]; exact hok)
  have cl := fun H => pLate_calls H n hok
  have ce0 := fun H => pExpr_calls H n (.mk op0 nm0 n0 p0 k0) hok (by subst hn; exact hok.e _ (List.mem_cons_self ..))
  have ce1 := fun H => pExpr_calls H n (.mk op1 nm1 n1 p1 k1) hok (by subst hn; exact hok.e _ (List.mem_cons_of_mem _ (List.mem_cons_self ..)))
  simp only [h1, faultA] at ck
  simp only [h2] at cl
  simp only [h3] at ce0
  simp only [h4] at ce1
  clear h1 h2 h3 h4 hnd
  have f1 := fun H => fault_calls H tK1 (by decide)
  have f2 := fun H => fault_calls H tK2 (by decide)
  simp only [tK1_flt] at f1
  simp only [tK2_flt] at f2
  unfold parseA at cp
  subst hn
  simp only [ndsA, ndL, List.flatMap_cons, List.flatMap_nil, List.append_nil, List.length_cons, List.length_nil, Nat.zero_add] at *
  clear hok
  refine acalls_of_aw0 Try.func8 rfl ?_
  (first | focus (refine yy15 ?_; refine yy1 ?_; (refine zc auto_wl (cp _) ?_; rintro r H' ⟨rfl, rfl⟩); refine yy105 ?_; refine yy67 ?_; refine yy67 ?_; refine awl_alloc rfl rfl rfl (fun oN hoN => ?_); refine yy115 ?_; refine yy14 ?_; refine yy8 ?_; refine yy86 ?_; (refine zc auto_wl (cb _) ?_; rintro r H' ⟨rfl, rfl⟩); refine yy115 ?_; refine yy8 ?_; refine yy86 ?_; refine yy64 ?_; refine yy118 ?_; (refine zc auto_wl (cl _) ?_; rintro r H' ⟨rfl, rfl⟩); refine yy115 ?_; refine yy3 ?_; refine aw_seq ?_; refine yy107 ?_; (apply awt_s; · exact s_callc auto_wl (f1 _)); (apply awt_s; · exact s_buildv (by ((repeat' (first | exact eqL_nil | apply eqL_cons)); all_goals (first | exact (rfl : _ = AV.raw _) | exact (rfl : _ = AV.bys _) | exact (rfl : _ = AV.vw _ _ _ _) | exact (rfl : _ = AV.ptr _ _) | exact (rfl : _ = AV.str _) | exact (rfl : _ = AV.sls _ _) | exact (rfl : _ = AV.tup _) | exact (rfl : _ = AV.agg _) | exact (rfl : _ = AV.pce _ _) | exact (rfl : _ = AV.emp) | exact (rfl : _ = AV.bysx _) | exact (rfl : _ = AV.slsx _ _) | exact (rfl : _ = AV.mp _) | exact (rfl : _ = AV.fnc _ _ _) | exact (rfl : _ = AV.pby _ _) | exact (rfl : _ = AV.ifc _ _)))) (by rfl)); (apply awt_s; · exact s_eqlg rfl rfl rfl); (apply awt_s; · exact s_move (v := .raw _) rfl); refine zt6 rfl rfl rfl (fun hc => ?_) (fun hc => ?_); (apply awt_s; · exact s_callc auto_wl (f2 _)); refine yy17 ?_; (apply awt_s; · exact s_fieldv rfl rfl); refine yy17 ?_; (apply awt_s; · exact s_eqn rfl rfl); (apply awt_s; · exact s_pick_t (v := .raw _) rfl rfl); (apply awt_s; · exact s_move (v := .raw _) rfl); refine zt1 rfl rfl rfl (fun hc => ?_) (fun hc => ?_); (apply awt_s; · exact s_move (v := .sls _ _) rfl); refine yy17 ?_; (apply awt_s; · exact s_callc auto_wl (ck _)); refine yy17 ?_; (apply awt_s; · exact s_buildv (by ((repeat' (first | exact eqL_nil | apply eqL_cons)); all_goals (first | exact (rfl : _ = AV.raw _) | exact (rfl : _ = AV.bys _) | exact (rfl : _ = AV.vw _ _ _ _) | exact (rfl : _ = AV.ptr _ _) | exact (rfl : _ = AV.str _) | exact (rfl : _ = AV.sls _ _) | exact (rfl : _ = AV.tup _) | exact (rfl : _ = AV.agg _) | exact (rfl : _ = AV.pce _ _) | exact (rfl : _ = AV.emp) | exact (rfl : _ = AV.bysx _) | exact (rfl : _ = AV.slsx _ _) | exact (rfl : _ = AV.mp _) | exact (rfl : _ = AV.fnc _ _ _) | exact (rfl : _ = AV.pby _ _) | exact (rfl : _ = AV.ifc _ _)))) (by rfl)); refine yy17 ?_; (apply awt_s; · exact s_eqlg rfl rfl rfl); (apply awt_s; · exact s_pick_t (v := .raw _) rfl rfl); (apply awt_s; · exact s_move (v := .raw _) rfl); refine zt6 rfl rfl rfl (fun hc => ?_) (fun hc => ?_); (apply awt_s; · exact s_move (v := .sls _ _) rfl); refine yy17 ?_; (apply awt_s; · exact s_len_sls rfl); refine yy17 ?_; (apply awt_s; · exact s_eqn rfl rfl); (apply awt_s; · exact s_pick_t (v := .raw _) rfl rfl); (apply awt_s; · exact s_move (v := .raw _) rfl); refine zt1 rfl rfl rfl (fun hc => ?_) (fun hc => ?_); (apply awt_s; · exact s_move (v := .sls _ _) rfl); refine yy17 ?_; (apply awt_s; · exact s_indexAddr_sls rfl rfl auto_len); refine yy17 ?_; (apply awt_s; · exact s_load_pce rfl auto_idx); refine yy17 ?_; (apply awt_s; · exact s_streq rfl rfl); (apply awt_s; · exact s_pick_t (v := .raw _) rfl rfl); (apply awt_s; · exact s_move (v := .raw _) rfl); refine zt1 rfl rfl rfl (fun hc => ?_) (fun hc => ?_); (apply awt_s; · exact s_move (v := .sls _ _) rfl); refine yy17 ?_; (apply awt_s; · exact s_indexAddr_sls rfl rfl auto_len); refine yy17 ?_; (apply awt_s; · exact s_load_pce_agg rfl rfl rfl (by decide)); refine yy17 ?_; (apply awt_s; · exact s_move (v := .sls _ _) rfl); refine yy17 ?_; (apply awt_s; · exact s_indexAddr_sls rfl rfl auto_len); refine yy17 ?_; (apply awt_s; · exact s_fieldAddr_pce rfl); refine yy17 ?_; (apply awt_s; · exact s_load_pce rfl auto_idx); refine yy17 ?_; (apply awt_s; · exact s_indexAddr_sls rfl rfl auto_len); refine yy17 ?_; (apply awt_s; · exact s_fieldAddr_pce rfl); refine yy17 ?_; (apply awt_s; · exact s_load_pce_agg rfl rfl rfl (by decide)); refine yy17 ?_; (apply awt_s; · exact s_callc auto_wl (ce0 _)); (apply awt_s; · exact s_pick_t (v := .raw _) rfl rfl); (apply awt_s; · exact s_move (v := .raw _) rfl); refine yy17 ?_; (apply awt_s; · exact s_move (v := .sls _ _) rfl); refine yy17 ?_; (apply awt_s; · exact s_indexAddr_sls rfl rfl auto_len); refine yy17 ?_; (apply awt_s; · exact s_load_pce_agg rfl rfl rfl (by decide)); refine yy17 ?_; (apply awt_s; · exact s_move (v := .sls _ _) rfl); refine yy17 ?_; (apply awt_s; · exact s_indexAddr_sls rfl rfl auto_len); refine yy17 ?_; (apply awt_s; · exact s_fieldAddr_pce rfl); refine yy17 ?_; (apply awt_s; · exact s_load_pce rfl auto_idx); refine yy17 ?_; (apply awt_s; · exact s_indexAddr_sls rfl rfl auto_len); refine yy17 ?_; (apply awt_s; · exact s_fieldAddr_pce rfl); refine yy17 ?_; (apply awt_s; · exact s_load_pce_agg rfl rfl rfl (by decide)); refine yy17 ?_; (apply awt_s; · exact s_callc auto_wl (ce1 _)); refine yy17 ?_; (apply awt_s; · exact s_notb rfl); (apply awt_s; · exact s_pick_t (v := .raw _) rfl rfl); (apply awt_s; · exact s_assign (v := .raw _) rfl); refine yy111 ?_; refine k_seq_normal ?_; refine aw_ret ?_; rotate_left; exact absurd hc auto_no; exact absurd hc auto_no; refine yy44 ?_; (apply awt_s; · exact s_pick_f (v := .raw _) rfl rfl); (apply awt_s; · exact s_move (v := .raw _) rfl); refine yy44 ?_; refine yy44 ?_; (apply awt_s; · exact s_pick_f (v := .raw _) rfl rfl); (apply awt_s; · exact s_move (v := .raw _) rfl); refine yy44 ?_; refine yy44 ?_; refine yy44 ?_; refine yy44 ?_; refine yy44 ?_; refine zt4 rfl rfl ?_; (apply awt_s; · exact s_pick_f (v := .raw _) rfl rfl); (apply awt_s; · exact s_move (v := .raw _) rfl); refine yy44 ?_; refine yy44 ?_; refine yy44 ?_; refine yy44 ?_; refine yy44 ?_; refine yy44 ?_; (apply awt_s; · exact s_pick_f (v := .raw _) rfl rfl); (apply awt_s; · exact s_assign (v := .raw _) rfl); refine yy111 ?_; refine k_seq_normal ?_; refine aw_ret ?_; rotate_left; exact absurd hc auto_no; refine yy44 ?_; (apply awt_s; · exact s_pick_f (v := .raw _) rfl rfl); (apply awt_s; · exact s_move (v := .raw _) rfl); refine yy44 ?_; refine yy44 ?_; (apply awt_s; · exact s_pick_f (v := .raw _) rfl rfl); (apply awt_s; · exact s_move (v := .raw _) rfl); refine yy44 ?_; refine zt4 rfl rfl ?_; (apply awt_s; · exact s_pick_f (v := .raw _) rfl rfl); (apply awt_s; · exact s_move (v := .raw _) rfl); refine yy44 ?_; refine yy44 ?_; (apply awt_s; · exact s_pick_f (v := .raw _) rfl rfl); (apply awt_s; · exact s_move (v := .raw _) rfl); refine yy44 ?_; refine yy44 ?_; refine yy44 ?_; refine yy44 ?_; refine yy44 ?_; refine zt4 rfl rfl ?_; (apply awt_s; · exact s_pick_f (v := .raw _) rfl rfl); (apply awt_s; · exact s_move (v := .raw _) rfl); refine yy44 ?_; refine yy44 ?_; refine yy44 ?_; refine yy44 ?_; refine yy44 ?_; refine yy44 ?_; (apply awt_s; · exact s_pick_f (v := .raw _) rfl rfl); (apply awt_s; · exact s_assign (v := .raw _) rfl); refine yy111 ?_; refine k_seq_normal ?_; refine aw_ret ?_; rotate_left) | fail)
  all_goals first | exact ⟨.inl rfl, _, _, _, Ent.gc auto_sub, ret1 rfl rfl, by rfl, rfl⟩ | (exfalso; first | simp at hc | (revert hc; decide))
end Go.Proofs.Ytmgkhfnhaeplgaa

namespace Go.Proofs.Ytmgkhfnhaeplgaa
open Go
set_option linter.unusedSimpArgs false
set_option linter.unusedVariables false
set_option maxRecDepth 20000
set_option maxHeartbeats 8000000

/-! The guards' texts. Plain. The kernel wants the words as a list whose tail is not evaluated again and again. -/
def cutErr : Nat → Bs → Nat → Nat × Nat
  | 0, _, at_ => (7, at_)
  | n + 1, s, at_ =>
    match s with
    | [] => (0, 0)
    | _ :: _ => match cutStep s with
      | .err => (7, at_)
      | .skip k => cutErr n (s.drop k) (at_ + k)
      | .word kind v k => cutErr n (s.drop k) (at_ + k)
def cutWds : Nat → Bs → Nat → List Wd
  | 0, _, _ => []
  | n + 1, s, at_ =>
    match s with
    | [] => [⟨0, [], 0, at_⟩]
    | _ :: _ => match cutStep s with
      | .err => []
      | .skip k => cutWds n (s.drop k) (at_ + k)
      | .word kind v k => ⟨kind, s.take k, v, at_⟩ :: cutWds n (s.drop k) (at_ + k)
theorem cutF_q : ∀ (n : Nat) (s : Bs) (at_ : Nat) (acc : List Wd), cutF n s at_ acc = if (cutErr n s at_).1 = 0 then (acc ++ cutWds n s at_, cutErr n s at_) else ([], cutErr n s at_)
  | 0, s, at_, acc => rfl
  | n + 1, s, at_, acc => by
    unfold cutF cutErr cutWds
    cases s with
    | nil => rfl
    | cons b r =>
      simp only
      cases cutStep (b :: r) with
      | err => rfl
      | skip k => exact cutF_q n _ _ _
      | word kind v k =>
        simp only
        rw [cutF_q n _ _ _, List.append_assoc]
        rfl
def cutQ (t : Bs) : List Wd × Nat × Nat := if 16384 < t.length then ([], 2, t.length) else if (cutErr (t.length + 1) t 0).1 = 0 then (cutWds (t.length + 1) t 0, cutErr (t.length + 1) t 0) else ([], cutErr (t.length + 1) t 0)
theorem cut_q (t : Bs) : cut t = cutQ t := by
  unfold cut cutQ
  rw [cutF_q, List.nil_append]
def parseC (c : List Wd × Nat × Nat) : List Nd × Nat × Nat :=
  if c.2.1 ≠ 0 then ([], c.2)
  else
    let r := nodesL c.1 40 [] ⟨0, 0, 0, 0, 0, 0⟩
    if r.2.err ≠ 0 then ([], r.2.err, r.2.at_) else (r.1, 0, 0)
theorem parse_c (t : Bs) : parse t = parseC (cut t) := by unfold parse parseC; exact Eq.refl _
def parseQ (t : Bs) : List Nd × Nat × Nat := parseC (cutQ t)
theorem parse_q (t : Bs) : parse t = parseQ t := by rw [parse_c, cut_q, parseQ]
end Go.Proofs.Ytmgkhfnhaeplgaa

namespace Go.Proofs.Ytmgkhfnhaeplgaa
open Go
set_option linter.unusedSimpArgs false
set_option linter.unusedVariables false
set_option maxRecDepth 20000
set_option maxHeartbeats 8000000

/-! The rows' texts. Plain. -/
def vn (i : Nat) : Bs := 118 :: [UInt8.ofNat (97 + i)]
def rowR (at_ i : Nat) : Bs := if i = at_ then ([112, 114, 101, 32, 120] : Bs) else if 0 < i then (([118] : Bs) ++ [UInt8.ofNat (97 + i - 1)]) ++ ([32, 43, 32, 49] : Bs) else ([120] : Bs)
def rowE (at_ i : Nat) : Bs := ((vn i ++ ([32, 61, 32] : Bs)) ++ rowR at_ i) ++ ([59, 32] : Bs)
def rowV : Nat → Bs
  | 0 => []
  | i + 1 => (rowV i ++ vn i) ++ ([58, 32, 105, 110, 116, 59, 32] : Bs)
def rowQ (at_ : Nat) (back : Bool) : Nat → Bs
  | 0 => []
  | i + 1 => if back then rowE at_ i ++ rowQ at_ back i else (((rowQ at_ back i ++ vn i) ++ ([32, 61, 32] : Bs)) ++ rowR at_ i) ++ ([59, 32] : Bs)
def rowT (n at_ : Nat) (back : Bool) : Bs := (((([110, 111, 100, 101, 32, 102, 40, 120, 58, 32, 105, 110, 116, 41, 32, 114, 101, 116, 117, 114, 110, 115, 32, 40, 121, 58, 32, 105, 110, 116, 41, 59, 32, 118, 97, 114, 32] : Bs) ++ rowV n) ++ ([108, 101, 116, 32] : Bs)) ++ rowQ at_ back n) ++ ([121, 32, 61, 32, 120, 59, 32, 116, 101, 108] : Bs)
def rowNames (n at_ : Nat) : List Bs := (List.range (n - at_)).map fun i => vn (at_ + i)
def rowOk (n at_ : Nat) (back : Bool) : Bool :=
  let x := parseQ (rowT n at_ back)
  decide (x.2.1 = 0) && (match x.1 with
    | [d] => decide (checkN [d] = none) && decide (lateN d = rowNames n at_)
    | _ => false)
end Go.Proofs.Ytmgkhfnhaeplgaa
