import Derived.Test.YtfjiblbajgmeiaaLg9
namespace Go.Proofs.Ytfjiblbajgmeiaa
open Go Go.Am Go.Proofs
set_option linter.unusedSimpArgs false
set_option linter.unusedVariables false
set_option maxRecDepth 20000
set_option maxHeartbeats 4000000

theorem Add_Ls {ts ts' : List (List UInt8)} {k s l : Nat} {c : Bool} (b : List UInt8) (e : ts ++ [b] = ts') (hk : k ≤ ts.length) (hf : (fcat ts' 0).length ≤ 262144) (hb : b.length ≤ 60000) (hn : ts.length ≤ 100000) (H : AHeap) (od ol ot : Nat)
    (hd : H od = some (.cel (Ls ts k false c l).cells)) (hl : H ol = some (.cel ((⟨ts, s, l, false⟩ : Lg).cells od ot))) (ht : H ot = some (txs ⟨ts, s, l, false⟩)) (n1 : ot ≠ od) (n2 : ot ≠ ol) (n3 : ol ≠ od) :
    ACalls Try.prog 12 [.ptr ol 0, .bys b] H fun r H' => ∃ ot', (ot' ≠ od ∧ ot' ≠ ol) ∧ r = eno 0 ∧ H' od = some (.cel (Ls ts' k false c l).cells) ∧ H' ol = some (.cel ((⟨ts', s, l, false⟩ : Lg).cells od ot')) ∧ H' ot' = some (txs ⟨ts', s, l, false⟩) := by
  subst e
  refine Add_ok H od ol ot (Ls ts k false c l) _ ⟨ts, s, l, false⟩ b hd hl ht n1 n2 n3 rfl rfl rfl hb hn (Ls_add hk hf) (Ls_good ?_).ok
  have := fcat_snoc ts 0 b
  rw [this, List.length_append] at hf
  omega
theorem LSync_Ls {ts : List (List UInt8)} {k s l : Nat} {c : Bool} (hf : (fcat ts 0).length ≤ 262144) (H : AHeap) (od ol ot : Nat)
    (hd : H od = some (.cel (Ls ts k false c l).cells)) (hl : H ol = some (.cel ((⟨ts, s, l, false⟩ : Lg).cells od ot))) (n3 : ol ≠ od) :
    ACalls Try.prog 11 [.ptr ol 0] H fun r H' => r = eno 0 ∧ H' = (H.set od (.cel (Ls ts ts.length false c l).cells)).set ol (.cel ((⟨ts, ts.length, l, false⟩ : Lg).cells od ot)) :=
  LSync_ok H od ol ot _ _ ⟨ts, s, l, false⟩ hd hl n3 rfl rfl rfl Ls_sync (Ls_good hf).ok
theorem LCut_Ls {ts ts' : List (List UInt8)} {k s l c : Nat} {b : Bool} (e : ts.take c = ts') (hc : c ≤ ts.length) (hn : ts.length ≤ 1000) (hbs : ∀ x ∈ ts, x.length ≤ 60000) (hf : (fcat ts 0).length ≤ 262144) (H : AHeap) (od ol ot : Nat)
    (hd : H od = some (.cel (Ls ts k false b l).cells)) (hl : H ol = some (.cel ((⟨ts, s, l, false⟩ : Lg).cells od ot))) (ht : H ot = some (txs ⟨ts, s, l, false⟩)) (n1 : ot ≠ od) (n2 : ot ≠ ol) (n3 : ol ≠ od) :
    ACalls Try.prog 17 [.ptr ol 0, .raw (.int .i64 (c : Int))] H fun r H' => r = eno 0 ∧ H' od = some (.cel (Ls ts' c false b l).cells) ∧ H' ol = some (.cel ((⟨ts', c, l, false⟩ : Lg).cells od ot)) ∧ H' ot = some (txs ⟨ts', c, l, false⟩) := by
  subst e
  exact LCut_ok H od ol ot _ _ _ ⟨ts, s, l, false⟩ c hd hl ht n1 n2 n3 rfl rfl rfl hc hn hbs (Ls_cut hf) (Lc_sync hc) (Ls_good hf).ok (Lc_good hf).ok rfl rfl
theorem Len_to {ts : List (List UInt8)} {s l n : Nat} (e : ts.length = n) (H : AHeap) (od ol ot : Nat) (hl : H ol = some (.cel ((⟨ts, s, l, false⟩ : Lg).cells od ot))) :
    ACalls Try.prog 15 [.ptr ol 0] H fun r H' => r = .raw (.int .i64 (n : Int)) ∧ H' = H := by subst e; exact Len_calls H od ol ot _ hl
end Go.Proofs.Ytfjiblbajgmeiaa
