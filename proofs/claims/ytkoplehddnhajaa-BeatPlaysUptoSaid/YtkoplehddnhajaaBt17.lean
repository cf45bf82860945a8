import Derived.Test.YtkoplehddnhajaaBt16
namespace Go.Proofs.Ytkoplehddnhajaa
open Go Go.Am Go.Proofs
set_option linter.unusedSimpArgs false
set_option linter.unusedVariables false
set_option maxRecDepth 20000
set_option maxHeartbeats 4000000

abbrev Act := Int × Int × List UInt8 × Unit
def actCells (x : Act) : List AV := [avI x.1, avI x.2.1, .str x.2.2.1]
abbrev B64 (n : Int) : Prop := -9223372036854775808 ≤ n ∧ n ≤ 9223372036854775807
structure ActOk (x : Act) : Prop where
  op : B64 x.1
  n : B64 x.2.1
  s : x.2.2.1.length ≤ 2000000
/-- The clock and the reference's list agree. -/
structure St (H : AHeap) (o om oW : Nat) (rate gone : Nat) (al ws : Al) (n : Nat) : Prop where
  c : H o = some (.cel ((⟨rate, gone⟩ : Ck).cells om))
  m : H om = some al.es.ao
  w : H oW = some (.cel (acs ws))
  d1 : o ≠ oW
  d2 : om ≠ oW
  d3 : o ≠ om
  p : ws.Perm al
  ok : al.Ok
  len : ws.length ≤ n
  gl : gone ≤ n * 1000000
theorem bt_tail {H : AHeap} {o om oW rate gone n : Nat} {al ws : Al} (s : St H o om oW rate gone al ws n) (hn : n ≤ 80) (hr : rate ≤ 2000) :
    ACalls Try.prog 16 [.ptr o 0] H (fun r H' => r = avI (gone * rate / 1000 : Nat) ∧ H' = H) ∧
    ACalls Try.prog 17 [.ptr o 0] H (fun r H' => H' = H ∧ ∃ T : List Nm, r = slS T ∧ T.length ≤ 1000 ∧ T.Perm (al.map Prod.fst) ∧ T.Pairwise (· < ·)) ∧
    ACalls Try.prog 15 [.vw oW 2 0 ws.length, .raw (.bool true)] H (fun r H' => H' = H ∧ ∃ T : List Nm, r = slS T ∧ T.length ≤ 1000 ∧ T.Perm (al.map Prod.fst) ∧ T.Pairwise (· < ·)) := by
  have hok := s.ok
  have hl := s.len
  have hg := s.gl
  refine ⟨(Now_calls H o om ⟨rate, gone⟩ s.c ⟨hr, by show gone ≤ _; omega⟩).mono fun r H' ⟨h1, h2⟩ => ⟨by rw [h1, now_eq], h2⟩, (Wait_calls H o om _ al hok s.c s.m).mono fun r H' ⟨h1, ss, h2, h3, h4⟩ => ⟨h1, ss, h2, ?_, h3, h4⟩, (sortedS_calls H oW _ ws true s.w rfl (by omega) ((s.p.map Prod.fst).nodup_iff.2 hok.nd)).mono fun r H' ⟨h1, T, h2, h3, h4⟩ => ⟨h1, T.map Prod.fst, h4, ?_, (h2.trans s.p).map Prod.fst, ?_⟩⟩
  · have := h3.length_eq; rw [List.length_map] at this; have := hok.len; omega
  · have := h2.length_eq; rw [List.length_map]; omega
  · rw [List.pairwise_map]; exact h3
theorem lt_sorted_eq {S T : List Nm} {L : List Nm} (h1 : S.Perm L) (h2 : S.Pairwise (· < ·)) (h3 : T.Perm L) (h4 : T.Pairwise (· < ·)) : S = T :=
  List.Perm.eq_of_pairwise (le := fun a b => a < b) (fun a b _ _ k1 k2 => absurd k2 (nm_asymm k1)) h2 h4 (h1.trans h3.symm)
theorem due_len {al : Al} (h : al.Ok) (now : Int) : (al.due now).length ≤ 1000 := Nat.le_trans (List.length_filter_le _ _) h.len
theorem nei_len (s : Nm) (ws : Al) : (nei s ws).length ≤ ws.length := List.length_filter_le _ _
theorem nei_take (s : Nm) (ws : Al) (k : Nat) : (nei s (ws.take k)).length ≤ ws.length := Nat.le_trans (nei_len _ _) (by rw [List.length_take]; exact Nat.min_le_right _ _)
theorem due_snoc {ws : Al} {k : Nat} {x : Nm × Int} (now : Int) (h : ws[k]? = some x) : Al.due (ws.take (k + 1)) now = if x.2 ≤ now then Al.due (ws.take k) now ++ [x] else Al.due (ws.take k) now := by
  rw [Al.due, filter_snoc _ h]
  by_cases hx : now < x.2
  · rw [if_neg (by simp [hx]), if_neg (by omega)]; rfl
  · rw [if_pos (by simp [hx]), if_pos (by omega)]; rfl
theorem rest_snoc {ws : Al} {k : Nat} {x : Nm × Int} (now : Int) (h : ws[k]? = some x) : Al.rest (ws.take (k + 1)) now = if x.2 ≤ now then Al.rest (ws.take k) now else Al.rest (ws.take k) now ++ [x] := by
  rw [Al.rest, filter_snoc _ h]
  by_cases hx : now < x.2
  · rw [if_pos (by simp [hx]), if_neg (by omega)]; rfl
  · rw [if_neg (by simp [hx]), if_pos (by omega)]; rfl
end Go.Proofs.Ytkoplehddnhajaa
