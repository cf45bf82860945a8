import Derived.Test.YtmgkhfnhaeplgaaIa4
import Derived.Test.YtmgkhfnhaeplgaaIa5
import Derived.Test.YtmgkhfnhaeplgaaIa6
import Derived.Test.YtmgkhfnhaeplgaaIa7
import Derived.Test.YtmgkhfnhaeplgaaIz
import Derived.Test.YtmgkhfnhaeplgaaIa3
namespace Go.Proofs.Ytmgkhfnhaeplgaa
open Go
set_option linter.unusedSimpArgs false
set_option linter.unusedVariables false
set_option maxRecDepth 20000
set_option maxHeartbeats 8000000

/-! The rows, all. -/
theorem rows_all : ∀ n, 1 ≤ n → n ≤ 20 → ∀ b a, a < n → rowOk n a b = true
  | 1, _, _, true => rows_1_true
  | 1, _, _, false => rows_1_false
  | 2, _, _, true => rows_2_true
  | 2, _, _, false => rows_2_false
  | 3, _, _, true => rows_3_true
  | 3, _, _, false => rows_3_false
  | 4, _, _, true => rows_4_true
  | 4, _, _, false => rows_4_false
  | 5, _, _, true => rows_5_true
  | 5, _, _, false => rows_5_false
  | 6, _, _, true => rows_6_true
  | 6, _, _, false => rows_6_false
  | 7, _, _, true => rows_7_true
  | 7, _, _, false => rows_7_false
  | 8, _, _, true => rows_8_true
  | 8, _, _, false => rows_8_false
  | 9, _, _, true => rows_9_true
  | 9, _, _, false => rows_9_false
  | 10, _, _, true => rows_10_true
  | 10, _, _, false => rows_10_false
  | 11, _, _, true => rows_11_true
  | 11, _, _, false => rows_11_false
  | 12, _, _, true => rows_12_true
  | 12, _, _, false => rows_12_false
  | 13, _, _, true => rows_13_true
  | 13, _, _, false => rows_13_false
  | 14, _, _, true => rows_14_true
  | 14, _, _, false => rows_14_false
  | 15, _, _, true => rows_15_true
  | 15, _, _, false => rows_15_false
  | 16, _, _, true => rows_16_true
  | 16, _, _, false => rows_16_false
  | 17, _, _, true => rows_17_true
  | 17, _, _, false => rows_17_false
  | 18, _, _, true => rows_18_true
  | 18, _, _, false => rows_18_false
  | 19, _, _, true => rows_19_true
  | 19, _, _, false => rows_19_false
  | 20, _, _, true => rows_20_true
  | 20, _, _, false => rows_20_false
  | 0, h, _, _ => absurd h (by decide)
  | n + 21, _, h, _ => absurd h (by omega)
theorem rows_ok {n at_ : Nat} (h1 : 1 ≤ n) (h2 : n ≤ 20) (h3 : at_ < n) (back : Bool) : rowOk n at_ back = true := by
  exact rows_all n h1 h2 back at_ h3
theorem row_is {n at_ : Nat} (h1 : 1 ≤ n) (h2 : n ≤ 20) (h3 : at_ < n) (back : Bool) : ∃ d p, parse (rowT n at_ back) = ([d], 0, p) ∧ checkN [d] = none ∧ lateN d = rowNames n at_ := by
  have h := rows_ok h1 h2 h3 back
  unfold rowOk at h
  rw [parse_q]
  generalize parseQ (rowT n at_ back) = x at *
  obtain ⟨l, e, p⟩ := x
  simp only [Bool.and_eq_true, decide_eq_true_eq] at h
  obtain ⟨h4, h5⟩ := h
  split at h5
  · rename_i d
    simp only [Bool.and_eq_true, decide_eq_true_eq] at h5
    exact ⟨d, p, by rw [h4], h5.1, h5.2⟩
  · cases h5
end Go.Proofs.Ytmgkhfnhaeplgaa

namespace Go.Proofs.Ytmgkhfnhaeplgaa
open Go Go.Am Go.Proofs
set_option linter.unusedSimpArgs false
set_option linter.unusedVariables false
set_option maxRecDepth 20000
set_option maxHeartbeats 8000000

/-! The law IniRows, walked. -/
theorem rowV_len : ∀ i, (rowV i).length = 9 * i
  | 0 => rfl
  | i + 1 => by
    have h := rowV_len i
    have e1 : ([58, 32, 105, 110, 116, 59, 32] : Bs).length = 7 := rfl
    have e2 : (vn i).length = 2 := rfl
    rw [rowV, List.length_append, List.length_append]
    omega
theorem rowR_len (a i : Nat) : (rowR a i).length ≤ 6 := by
  unfold rowR
  split
  · decide
  · split
    · rw [List.length_append]; exact Nat.le_refl 6
    · decide
theorem rowR_pre {a i : Nat} (h : i = a) : rowR a i = ([112, 114, 101, 32, 120] : Bs) := by rw [rowR, if_pos h]
theorem rowR_v {a i : Nat} (h : ¬ i = a) (h0 : 0 < i) : rowR a i = (([118] : Bs) ++ [UInt8.ofNat (97 + i - 1)]) ++ ([32, 43, 32, 49] : Bs) := by rw [rowR, if_neg h, if_pos h0]
theorem rowR_x {a i : Nat} (h : ¬ i = a) (h0 : ¬ 0 < i) : rowR a i = ([120] : Bs) := by rw [rowR, if_neg h, if_neg h0]
theorem rowE_len (a i : Nat) : (rowE a i).length ≤ 13 := by
  have h := rowR_len a i
  have e1 : ([32, 61, 32] : Bs).length = 3 := rfl
  have e2 : (vn i).length = 2 := rfl
  have e3 : ([59, 32] : Bs).length = 2 := rfl
  unfold rowE
  rw [List.length_append, List.length_append, List.length_append]
  omega
theorem rowQ_t (a i : Nat) : rowQ a true (i + 1) = rowE a i ++ rowQ a true i := by rw [rowQ]; rfl
theorem rowQ_f (a i : Nat) : rowQ a false (i + 1) = (((rowQ a false i ++ vn i) ++ ([32, 61, 32] : Bs)) ++ rowR a i) ++ ([59, 32] : Bs) := by rw [rowQ]; rfl
theorem rowQ_len (a : Nat) (b : Bool) : ∀ i, (rowQ a b i).length ≤ 13 * i
  | 0 => Nat.le_refl _
  | i + 1 => by
    have h := rowQ_len a b i
    cases b with
    | true =>
      have := rowE_len a i
      rw [rowQ_t, List.length_append]
      omega
    | false =>
      have := rowR_len a i
      have e1 : ([32, 61, 32] : Bs).length = 3 := rfl
      have e2 : (vn i).length = 2 := rfl
      have e3 : ([59, 32] : Bs).length = 2 := rfl
      rw [rowQ_f, List.length_append, List.length_append, List.length_append, List.length_append]
      omega
theorem Rows_calls (H : AHeap) (n m : Int) (back : Bool) (hn : -9223372036854775808 ≤ n ∧ n ≤ 9223372036854775807) (hm : -9223372036854775808 ≤ m ∧ m ≤ 9223372036854775807) :
    ACalls Try.prog 5 [avI n, avI m, avB back] H fun r _ => r = .raw (.bool true) := by
  by_cases hbad : n < 1 ∨ 20 < n ∨ m < 0 ∨ n ≤ m
  · refine acalls_of_aw3 Try.func5 rfl (by decide) ?_
    (first | focus (refine yy15 ?_; refine yy13 ?_; (refine zc auto_wl (awake_calls _) ?_; rintro r H' ⟨rfl, rfl⟩); refine yy32 ?_; refine yy46 ?_; refine yy7 ?_; refine awl_s rfl (s_lss rfl rfl) ?_; refine yy4 ?_; refine zg2 rfl rfl rfl (fun hc => ?_) (fun hc => ?_); refine yy38 ?_; refine yy87 ?_; refine yy52 ?_; refine yy87 ?_; refine yy52 ?_; refine yy38 ?_; refine yy83 ?_; refine yy15 ?_; refine aw_ret ?_; refine k_seq_ret ?_; rotate_left; refine yy22 ?_; refine awl_s rfl (s_gtr rfl rfl) ?_; refine yy54 ?_; refine zg2 rfl rfl rfl (fun hc => ?_) (fun hc => ?_); refine yy38 ?_; refine yy87 ?_; refine yy52 ?_; refine yy38 ?_; refine yy83 ?_; refine yy15 ?_; refine aw_ret ?_; refine k_seq_ret ?_; rotate_left; refine yy22 ?_; refine awl_s rfl (s_lss rfl rfl) ?_; refine yy54 ?_; refine zg2 rfl rfl rfl (fun hc => ?_) (fun hc => ?_); refine yy52 ?_; refine yy83 ?_; refine yy15 ?_; refine aw_ret ?_; refine k_seq_ret ?_; rotate_left; refine yy22 ?_; refine yy22 ?_; refine awl_s rfl (s_geq rfl rfl) ?_; refine yy23 ?_; refine yy3 ?_; refine aw_condp rfl (fun hc => ?_) (fun hc => ?_); refine yy15 ?_; refine aw_ret ?_; refine k_seq_ret ?_; rotate_left; exact absurd hc auto_no) | fail)
    all_goals first | exact ⟨.inl rfl, _, _, _, Ent.refl _ _, ret1 rfl rfl, rfl⟩ | (exfalso; omega) | trace_state
  obtain ⟨n, rfl⟩ : ∃ k : Nat, n = k := ⟨n.toNat, by omega⟩
  obtain ⟨m, rfl⟩ : ∃ k : Nat, m = k := ⟨m.toNat, by omega⟩
  have hn1 : 1 ≤ n := by omega
  have hn2 : n ≤ 20 := by omega
  have hm2 : m < n := by omega
  clear hbad hn hm
  refine acalls_of_aw3 Try.func5 rfl (by decide) ?_
  (first | focus (refine yy15 ?_; refine yy13 ?_; (refine zc auto_wl (awake_calls _) ?_; rintro r H' ⟨rfl, rfl⟩); refine yy32 ?_; refine yy46 ?_; refine yy7 ?_; refine yy91 ?_; refine yy4 ?_; refine zg2 rfl rfl rfl (fun hc => ?_) (fun hc => ?_); exact absurd hc auto_no; refine yy22 ?_; refine yy98 ?_; refine yy54 ?_; refine zg2 rfl rfl rfl (fun hc => ?_) (fun hc => ?_); exact absurd hc auto_no; refine yy22 ?_; refine yy91 ?_; refine yy54 ?_; refine zg2 rfl rfl rfl (fun hc => ?_) (fun hc => ?_); exact absurd hc auto_no; refine yy22 ?_; refine yy22 ?_; refine awl_s rfl (s_gen rfl rfl) ?_; refine yy23 ?_; refine yy3 ?_; refine yy47 ?_; intro hc; refine yy1 ?_; refine yy16 ?_; refine yy16 ?_; refine yy78 ?_; refine yy2 ?_; refine aw_block ?_; rotate_left) | fail)
  all_goals try (exfalso; omega)
  refine aw_loop (fun mm R' H2 => ∃ (i : Nat) (v e : Bs), i ≤ n ∧ Hdn (v = rowV i) ∧ Hdn (e = rowQ m back i) ∧ R' = [(0, avI n), (1, avI m), (2, avB back), (7, .str v), (8, .str e), (9, avI i)] ∧ n - i = mm) ?_ ?_
  · exact ⟨_, _, _, Ent.sub _ (by (repeat' (first | exact RSub.nil _ | apply RSub.cons)); all_goals rfl), 0, [], [], Nat.zero_le _, ⟨rfl⟩, ⟨rfl⟩, rfl, rfl⟩
  rintro mm R1 H1 ⟨i, v, e, hi, hv, he, rfl, rfl⟩
  have hvl : v.length = 9 * i := by rw [hv.out]; exact rowV_len i
  have hel : e.length ≤ 13 * i := by rw [he.out]; exact rowQ_len m back i
  by_cases hlt2 : i < n
  · cases back with
    | true =>
      (first | focus (refine yy7 ?_; refine yy4 ?_; refine yy27 ?_; refine aw_condp rfl (fun hc => ?_) (fun hc => ?_); refine yy50 ?_; refine yy1 ?_; refine yy96 ?_; refine awl_s rfl (s_convn rfl (by omega)) ?_; refine awl_s rfl (s_byte1 rfl auto_lt) ?_; refine awl_s rfl (s_bytes_str rfl auto_src auto_sl) ?_; refine yy77 ?_; refine yy16 ?_; refine yy8 ?_; refine yy16 ?_; refine yy3 ?_; refine yy7 ?_; refine yy98 ?_; refine yy3 ?_; refine aw_condp rfl (fun hc => ?_) (fun hc => ?_); refine yy43 ?_; refine awl_s rfl (s_subn rfl rfl (by omega) (by omega)) ?_; refine awl_s rfl (s_convn rfl (by omega)) ?_; refine awl_s rfl (s_byte1 rfl auto_lt) ?_; refine awl_s rfl (s_bytes_str rfl auto_src auto_sl) ?_; refine yy77 ?_; refine yy77 ?_; refine yy16 ?_; refine yy3 ?_; refine yy7 ?_; refine yy4 ?_; refine yy93 ?_; refine aw_condp rfl (fun hc => ?_) (fun hc => ?_); refine yy10 ?_; refine yy16 ?_; refine yy8 ?_; refine yy42 ?_; refine yy68 ?_; refine yy77 ?_; refine yy16 ?_; refine yy8 ?_; refine yy4 ?_; refine yy39 ?_; refine yy10 ?_; refine yy68 ?_; refine yy68 ?_; refine yy77 ?_; refine yy68 ?_; refine yy16 ?_; refine yy61 ?_; refine yy43 ?_; refine yy2 ?_; rotate_left; replace hc := hide_nat hc; refine yy35 ?_; refine yy1 ?_; refine yy42 ?_; refine yy68 ?_; refine yy77 ?_; refine yy16 ?_; refine yy8 ?_; refine yy4 ?_; refine yy39 ?_; refine yy10 ?_; refine yy68 ?_; refine yy68 ?_; refine yy77 ?_; refine yy68 ?_; refine yy16 ?_; refine yy61 ?_; refine yy43 ?_; refine yy2 ?_; rotate_left; refine yy35 ?_; refine yy7 ?_; refine yy4 ?_; refine yy93 ?_; refine aw_condp rfl (fun hc => ?_) (fun hc => ?_); refine yy10 ?_; refine yy16 ?_; refine yy8 ?_; refine yy42 ?_; refine yy68 ?_; refine yy77 ?_; refine yy16 ?_; refine yy8 ?_; refine yy4 ?_; refine yy39 ?_; refine yy10 ?_; refine yy68 ?_; refine yy68 ?_; refine yy77 ?_; refine yy68 ?_; refine yy16 ?_; refine yy61 ?_; refine yy43 ?_; refine yy2 ?_; rotate_left; replace hc := hide_nat hc; refine yy35 ?_; refine yy1 ?_; refine yy42 ?_; refine yy68 ?_; refine yy77 ?_; refine yy16 ?_; refine yy8 ?_; refine yy4 ?_; refine yy39 ?_; refine yy10 ?_; refine yy68 ?_; refine yy68 ?_; refine yy77 ?_; refine yy68 ?_; refine yy16 ?_; refine yy61 ?_; refine yy43 ?_; refine yy2 ?_; rotate_left; exact absurd hc auto_no) | fail)
      all_goals (first | exact ⟨n - (i + 1), _, _, by omega, Ent.sub _ (by (repeat' (first | exact RSub.nil _ | apply RSub.cons)); all_goals rfl), i + 1, _, _, by omega, ⟨by rw [rowV, ← hv.out]; rfl⟩, ⟨by rw [rowQ_t, rowE, rowR_pre hc, ← he.out]; rfl⟩, rfl, rfl⟩ | exact ⟨n - (i + 1), _, _, by omega, Ent.sub _ (by (repeat' (first | exact RSub.nil _ | apply RSub.cons)); all_goals rfl), i + 1, _, _, by omega, ⟨by rw [rowV, ← hv.out]; rfl⟩, ⟨by rw [rowQ_t, rowE, rowR_v hc.out (by assumption), ← he.out]; rfl⟩, rfl, rfl⟩ | exact ⟨n - (i + 1), _, _, by omega, Ent.sub _ (by (repeat' (first | exact RSub.nil _ | apply RSub.cons)); all_goals rfl), i + 1, _, _, by omega, ⟨by rw [rowV, ← hv.out]; rfl⟩, ⟨by rw [rowQ_t, rowE, rowR_x hc.out (by assumption), ← he.out]; rfl⟩, rfl, rfl⟩ | trace_state)
    | false =>
      (first | focus (refine yy7 ?_; refine yy4 ?_; refine yy27 ?_; refine aw_condp rfl (fun hc => ?_) (fun hc => ?_); refine yy50 ?_; refine yy1 ?_; refine yy96 ?_; refine awl_s rfl (s_convn rfl (by omega)) ?_; refine awl_s rfl (s_byte1 rfl auto_lt) ?_; refine awl_s rfl (s_bytes_str rfl auto_src auto_sl) ?_; refine yy77 ?_; refine yy16 ?_; refine yy8 ?_; refine yy16 ?_; refine yy3 ?_; refine yy7 ?_; refine yy98 ?_; refine yy3 ?_; refine aw_condp rfl (fun hc => ?_) (fun hc => ?_); refine yy43 ?_; refine awl_s rfl (s_subn rfl rfl (by omega) (by omega)) ?_; refine awl_s rfl (s_convn rfl (by omega)) ?_; refine awl_s rfl (s_byte1 rfl auto_lt) ?_; refine awl_s rfl (s_bytes_str rfl auto_src auto_sl) ?_; refine yy77 ?_; refine yy77 ?_; refine yy16 ?_; refine yy3 ?_; refine yy7 ?_; refine yy4 ?_; refine yy93 ?_; refine aw_condp rfl (fun hc => ?_) (fun hc => ?_); refine yy10 ?_; refine yy16 ?_; refine yy8 ?_; refine yy42 ?_; refine yy68 ?_; refine yy77 ?_; refine yy16 ?_; refine yy8 ?_; refine yy4 ?_; refine yy69 ?_; refine yy10 ?_; refine yy42 ?_; refine yy68 ?_; refine yy77 ?_; refine yy68 ?_; refine yy77 ?_; refine yy16 ?_; refine yy61 ?_; refine yy43 ?_; refine yy2 ?_; rotate_left; replace hc := hide_nat hc; refine yy35 ?_; refine yy1 ?_; refine yy42 ?_; refine yy68 ?_; refine yy77 ?_; refine yy16 ?_; refine yy8 ?_; refine yy4 ?_; refine yy69 ?_; refine yy10 ?_; refine yy42 ?_; refine yy68 ?_; refine yy77 ?_; refine yy68 ?_; refine yy77 ?_; refine yy16 ?_; refine yy61 ?_; refine yy43 ?_; refine yy2 ?_; rotate_left; refine yy35 ?_; refine yy7 ?_; refine yy4 ?_; refine yy93 ?_; refine aw_condp rfl (fun hc => ?_) (fun hc => ?_); refine yy10 ?_; refine yy16 ?_; refine yy8 ?_; refine yy42 ?_; refine yy68 ?_; refine yy77 ?_; refine yy16 ?_; refine yy8 ?_; refine yy4 ?_; refine yy69 ?_; refine yy10 ?_; refine yy42 ?_; refine yy68 ?_; refine yy77 ?_; refine yy68 ?_; refine yy77 ?_; refine yy16 ?_; refine yy61 ?_; refine yy43 ?_; refine yy2 ?_; rotate_left; replace hc := hide_nat hc; refine yy35 ?_; refine yy1 ?_; refine yy42 ?_; refine yy68 ?_; refine yy77 ?_; refine yy16 ?_; refine yy8 ?_; refine yy4 ?_; refine yy69 ?_; refine yy10 ?_; refine yy42 ?_; refine yy68 ?_; refine yy77 ?_; refine yy68 ?_; refine yy77 ?_; refine yy16 ?_; refine yy61 ?_; refine yy43 ?_; refine yy2 ?_; rotate_left; exact absurd hc auto_no) | fail)
      all_goals (first | exact ⟨n - (i + 1), _, _, by omega, Ent.sub _ (by (repeat' (first | exact RSub.nil _ | apply RSub.cons)); all_goals rfl), i + 1, _, _, by omega, ⟨by rw [rowV, ← hv.out]; rfl⟩, ⟨by rw [rowQ_f, rowR_pre hc, ← he.out]; rfl⟩, rfl, rfl⟩ | exact ⟨n - (i + 1), _, _, by omega, Ent.sub _ (by (repeat' (first | exact RSub.nil _ | apply RSub.cons)); all_goals rfl), i + 1, _, _, by omega, ⟨by rw [rowV, ← hv.out]; rfl⟩, ⟨by rw [rowQ_f, rowR_v hc.out (by assumption), ← he.out]; rfl⟩, rfl, rfl⟩ | exact ⟨n - (i + 1), _, _, by omega, Ent.sub _ (by (repeat' (first | exact RSub.nil _ | apply RSub.cons)); all_goals rfl), i + 1, _, _, by omega, ⟨by rw [rowV, ← hv.out]; rfl⟩, ⟨by rw [rowQ_f, rowR_x hc.out (by assumption), ← he.out]; rfl⟩, rfl, rfl⟩ | trace_state)
  · obtain rfl : i = n := by omega
    obtain rfl := hv.out
    obtain rfl := he.out
    obtain ⟨d, p, hp, hck, hln⟩ := row_is hn1 hn2 hm2 back
    have hlT : (rowT i m back).length ≤ 2000000 := by
      unfold rowT
      rw [List.length_append, List.length_append, List.length_append, List.length_append, hvl]
      have e1 : ([110, 111, 100, 101, 32, 102, 40, 120, 58, 32, 105, 110, 116, 41, 32, 114, 101, 116, 117, 114, 110, 115, 32, 40, 121, 58, 32, 105, 110, 116, 41, 59, 32, 118, 97, 114, 32] : Bs).length = 37 := rfl
      have e2 : ([108, 101, 116, 32] : Bs).length = 4 := rfl
      have e3 : ([121, 32, 61, 32, 120, 59, 32, 116, 101, 108] : Bs).length = 10 := rfl
      omega
    have cp := fun H => Parse_calls H (rowT i m back) hlT
    have hnd := parse_nd (rowT i m back)
    rw [hp] at hnd
    simp only [hp, parseA] at cp
    have hok := (hnd d (List.mem_singleton.2 rfl)).ok
    have cb := fun H => Back_calls H [d] (show 1 ≤ 2000000 by decide) (fun m hm => by rw [List.mem_singleton.1 hm]; exact hok)
    have ck := fun H => Check_calls H [d] (show 1 ≤ 2000000 by decide) (fun m hm => by rw [List.mem_singleton.1 hm]; exact hok)
    have cl := fun H => pLate_calls H d hok
    simp only [hck, faultA] at ck
    simp only [hln] at cl
    have hrl : (rowNames i m).length = i - m := by unfold rowNames; rw [List.length_map, List.length_range]
    rw [hrl] at cl
    have hrg : ∀ j, j < i - m → (rowNames i m)[j]? = some (vn (m + j)) := fun j hj => by
      unfold rowNames
      rw [List.getElem?_map, List.getElem?_range hj]; rfl
    have hbl : (bsL (rowNames i m)).length = i - m := by rw [List.length_map, hrl]
    have hbg : ∀ j, j < i - m → (bsL (rowNames i m))[j]? = some (.str (([118] : Bs) ++ [UInt8.ofNat (97 + m + j)])) := fun j hj => by
      rw [List.getElem?_map, hrg j hj, Nat.add_assoc]; rfl
    clear hnd hrg hrl hln hck hp hok
    generalize bsL (rowNames i m) = L at *
    simp only [ndsA, ndL, List.flatMap_cons, List.flatMap_nil, List.append_nil, List.length_cons, List.length_nil, Nat.zero_add] at *
    (first | focus (refine yy7 ?_; refine yy4 ?_; refine yy27 ?_; refine yy12 ?_; intro hc; refine yy73 ?_; refine yy68 ?_; refine yy77 ?_; refine yy68 ?_; refine yy77 ?_; (refine zc auto_wl (cp _) ?_; rintro r H' ⟨rfl, rfl⟩); refine yy105 ?_; refine yy67 ?_; refine yy67 ?_; refine awl_alloc rfl rfl rfl (fun oN hoN => ?_); refine yy115 ?_; refine yy14 ?_; refine yy78 ?_; refine yy11 ?_; refine yy65 ?_; refine yy3 ?_; refine yy47 ?_; intro hc; refine yy1 ?_; refine yy86 ?_; (refine zc auto_wl (cb _) ?_; rintro r H' ⟨rfl, rfl⟩); refine yy115 ?_; refine yy8 ?_; refine yy86 ?_; refine yy64 ?_; refine yy118 ?_; (refine zc auto_wl (cl _) ?_; rintro r H' ⟨rfl, rfl⟩); refine yy115 ?_; refine yy78 ?_; refine yy86 ?_; (refine zc auto_wl (ck _) ?_; rintro r H' ⟨rfl, rfl⟩); refine yy18 ?_; refine awl_s rfl (s_neqg rfl rfl rfl) ?_; refine yy4 ?_; refine zg7 rfl rfl rfl (fun hc => ?_) (fun hc => ?_); refine yy48 ?_; refine yy38 ?_; refine yy83 ?_; refine yy15 ?_; refine aw_ret ?_; refine k_seq_ret ?_; rotate_left; refine yy86 ?_; refine yy5 ?_; refine yy110 ?_; refine yy5 ?_; refine yy22 ?_; refine yy22 ?_; refine awl_s rfl (s_subn rfl rfl (by omega) (by omega)) ?_; refine yy5 ?_; refine yy65 ?_; refine yy23 ?_; refine yy3 ?_; refine yy47 ?_; intro hc; refine yy13 ?_; refine yy2 ?_; refine aw_block ?_; rotate_left) | fail)
    · exfalso; simp at hc
    clear cp cb ck cl
    refine aw_loop (fun mm R' H2 => ∃ (j : Nat), j ≤ i - m ∧ R' = [(1, avI m), (15, .sls (i - m) L), (16, avI j)] ∧ i - m - j = mm) ?_ ?_
    · exact ⟨_, _, _, Ent.sub _ (by (repeat' (first | exact RSub.nil _ | apply RSub.cons)); all_goals rfl), 0, Nat.zero_le _, rfl, rfl⟩
    rintro mm R2 H2 ⟨j, hj, rfl, rfl⟩
    by_cases hjl : j < i - m
    · have hg : L[j * 1]? = some (.str (([118] : Bs) ++ [UInt8.ofNat (97 + m + j)])) := by rw [Nat.mul_one]; exact hbg j hjl
      clear hbg
      (first | focus (refine yy7 ?_; refine yy88 ?_; refine yy27 ?_; refine aw_condp rfl (fun hc => ?_) (fun hc => ?_); refine yy50 ?_; refine aw_seq ?_; refine yy107 ?_; (apply awt_s; · exact s_move (v := .sls _ _) rfl); (apply awt_s; · exact s_move (v := .raw _) rfl); (apply awt_s; · exact s_indexAddr_sls rfl rfl auto_len); (apply awt_s; · exact s_load_pce rfl auto_idx); (apply awt_s; · exact s_move (v := .raw _) rfl); (apply awt_s; · exact s_addn rfl rfl auto_len); (apply awt_s; · exact s_move (v := .raw _) rfl); (apply awt_s; · exact s_addn rfl rfl auto_len); (apply awt_s; · exact s_convn rfl (by omega)); (apply awt_s; · exact s_byte1 rfl auto_lt); (apply awt_s; · exact s_bytes_str rfl auto_src auto_sl); (apply awt_s; · exact s_stradd rfl rfl auto_len); (apply awt_s; · exact s_strne rfl rfl); refine yy111 ?_; refine k_seq_normal ?_; refine yy12 ?_; intro hc; refine yy82 ?_; refine yy43 ?_; refine yy2 ?_; rotate_left; exact absurd hc auto_no) | fail)
      all_goals first | exact ⟨i - m - (j + 1), _, _, by omega, Ent.sub _ (by (repeat' (first | exact RSub.nil _ | apply RSub.cons)); all_goals rfl), j + 1, by omega, rfl, rfl⟩ | (exfalso; omega) | (exfalso; simp at hc)
    · obtain rfl : j = i - m := by omega
      (first | focus (refine yy7 ?_; refine yy88 ?_; refine yy27 ?_; refine yy12 ?_; intro hc; refine yy89 ?_; refine yy15 ?_; refine aw_ret ?_; rotate_left) | fail)
      all_goals first | exact ⟨.inl rfl, _, _, _, Ent.refl _ _, ret1 rfl rfl, rfl⟩ | (exfalso; omega)
end Go.Proofs.Ytmgkhfnhaeplgaa
