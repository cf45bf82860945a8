import Derived.Test.YtkoplehddnhajaaBt14
namespace Go.Proofs.Ytkoplehddnhajaa
open Go Go.Am Go.Proofs
set_option linter.unusedSimpArgs false
set_option linter.unusedVariables false
set_option maxRecDepth 20000
set_option maxHeartbeats 4000000

/-! A clock and the reference's list. -/
theorem now_eq (c : Ck) : c.now = c.all * c.rate / 1000 := by
  unfold Ck.now
  have e : c.all * c.rate = 1000 * (c.all / 1000 * c.rate) + c.all % 1000 * c.rate := by
    conv => lhs; rw [← Nat.div_add_mod c.all 1000, Nat.add_mul, Nat.mul_assoc]
  rw [e, Nat.add_comm (1000 * _), Nat.add_mul_div_left _ _ (by decide), Nat.add_comm]
theorem alStrs_eq (T : Al) : alStrs T = strs (T.map Prod.fst) := by rw [strs, List.map_map]; rfl
theorem sortedS_calls (H : AHeap) (oL k : Nat) (ws : Al) (b : Bool) (hL : H oL = some (.cel (acs ws))) (hk : k = ws.length) (hl : k ≤ 1000) (hnd : (ws.map Prod.fst).Nodup) :
    ACalls Try.prog 15 [.vw oL 2 0 k, .raw (.bool b)] H fun r H' => H' = H ∧ ∃ T : Al, T.Perm ws ∧ T.Pairwise (lb b) ∧ r = slS (T.map Prod.fst) :=
  (sorted_calls H oL k ws b hL hk hl hnd).mono fun r H' ⟨h1, T, h2, h3, h4⟩ => ⟨h1, T, h2, h3, by rw [h4, alStrs_eq]; show _ = AV.sls (T.map Prod.fst).length _; rw [List.length_map]⟩
theorem names_eq {al ws T : Al} {ss : List Nm} (hw : ws.Perm al) (hT : T.Perm ws) (hs : T.Pairwise (lb true)) (h1 : ss.Perm (al.map Prod.fst)) (h2 : ss.Pairwise (· < ·)) : ss = T.map Prod.fst := by
  refine List.Perm.eq_of_pairwise (le := fun a b => a < b) (fun a b _ _ k1 k2 => absurd k2 (nm_asymm k1)) h2 ?_ (h1.trans ((hT.trans hw).map Prod.fst).symm)
  rw [List.pairwise_map]
  exact hs
theorem due_eq {al ds T : Al} {S : List Nm} {now : Int} (hal : (al.map Prod.fst).Nodup) (hd : ds.Perm (al.due now)) (hT : T.Perm ds) (hs : T.Pairwise (lb false)) (h1 : S.Perm ((al.due now).map Prod.fst)) (h2 : Srt al.tm S) : S = T.map Prod.fst := by
  refine List.Perm.eq_of_pairwise (le := lx al.tm) (fun a b _ _ k1 k2 => absurd (lx_trans k1 k2) (lx_irrefl a)) h2 ?_ (h1.trans ((hT.trans hd).map Prod.fst).symm)
  rw [List.pairwise_map]
  refine List.Pairwise.imp_of_mem (fun {x y} hx hy h => ?_) hs
  have hm : ∀ p ∈ T, al.tm p.1 = p.2 := fun p hp => tm_of_mem hal p (List.mem_filter.1 ((hT.trans hd).mem_iff.1 hp)).1
  show al.tm x.1 < al.tm y.1 ∨ (al.tm x.1 = al.tm y.1 ∧ x.1 < y.1)
  rw [hm x hx, hm y hy]
  exact h
def nei (s : Nm) (ws : Al) : Al := ws.filter fun p => !decide (p.1 = s)
theorem nei_perm {al ws : Al} (hw : ws.Perm al) (hal : (al.map Prod.fst).Nodup) (s : Nm) : (nei s ws).Perm (al.del s) := by
  rw [del_eq hal]; exact hw.filter _
theorem nei_set {al ws : Al} (hw : ws.Perm al) (hal : (al.map Prod.fst).Nodup) (s : Nm) (t : Int) : (nei s ws ++ [(s, t)]).Perm (al.set s t) :=
  ((hw.filter _).append_right _).trans (set_perm hal s t).symm
theorem acs_get {ws : Al} {k : Nat} {x : Nm × Int} (h : ws[k]? = some x) : (acs ws)[0 + k * 2 + 0]? = some (.str x.1) ∧ (acs ws)[0 + k * 2 + 1]? = some (avI x.2) ∧ ((acs ws).drop (0 + k * 2)).take 2 = [.str x.1, avI x.2] := by
  have hk := (List.getElem?_eq_some_iff.1 h).1
  have e1 : ws = ws.take k ++ x :: ws.drop (k + 1) := by
    have := (List.take_append_drop k ws).symm
    rw [List.drop_eq_getElem_cons hk, (List.getElem?_eq_some_iff.1 h).2] at this
    exact this
  have d1 : (acs ws).drop (0 + k * 2) = [.str x.1, avI x.2] ++ acs (ws.drop (k + 1)) := by
    conv => lhs; rw [e1]
    rw [acs_app, acs_cons, show 0 + k * 2 = (acs (ws.take k)).length by rw [acs_len, List.length_take]; omega, List.drop_left]
  refine ⟨?_, ?_, ?_⟩
  · rw [← List.getElem?_drop, d1]; rfl
  · rw [← List.getElem?_drop, d1]; rfl
  · rw [d1]; rfl
theorem filter_snoc {ws : Al} {k : Nat} {x : Nm × Int} (f : Nm × Int → Bool) (h : ws[k]? = some x) : (ws.take (k + 1)).filter f = if f x then (ws.take k).filter f ++ [x] else (ws.take k).filter f := by
  rw [List.take_add_one, h, List.filter_append]
  by_cases hf : f x <;> simp [hf]
end Go.Proofs.Ytkoplehddnhajaa
