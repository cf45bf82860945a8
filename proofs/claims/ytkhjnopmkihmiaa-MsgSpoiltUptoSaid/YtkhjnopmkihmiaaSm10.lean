import Derived.Test.YtkhjnopmkihmiaaSm9
namespace Go.Proofs.Ytkhjnopmkihmiaa
open Go Go.Am Go.Proofs

theorem takeF_mark {g : List UInt8} (h : (g.getD 0 0).toNat ≠ 90) : (takeF g).2.2 = 0 := by
  rw [takeF]
  by_cases h17 : g.length < 17
  · rw [if_pos h17]
  · rw [if_neg h17, if_pos h]
theorem takeF_syn {g : List UInt8} (h17 : 17 ≤ g.length) (ht : tlen g = g.length - 17) (hs : syn g ≠ 0) : (takeF g).2.2 = 0 := by
  by_cases hm : (g.getD 0 0).toNat ≠ 90
  · exact takeF_mark hm
  rw [takeF, if_neg (by omega), if_neg hm]
  split
  · rfl
  · rw [if_neg (by omega), if_pos]
    intro he
    apply hs
    unfold syn sumF datF
    have e2 : (g.drop 17).take (17 + tlen g - 17) = g.drop 17 := List.take_of_length_le (by rw [List.length_drop]; omega)
    rw [e2] at he
    have he' : num ((g.drop 13).take 4) = crc ((g.drop 1).take 12 ++ g.drop 17) := he
    rw [he', Nat.xor_self]

theorem tlen_turn {g : List UInt8} {p : Nat} (h : p < 8 ∨ 40 ≤ p) : tlen (turn g p) = tlen g := by
  unfold tlen turn
  rcases h with h | h
  · rw [List.drop_set, if_pos (by omega)]
  · rw [List.drop_set, if_neg (by omega), List.take_set, List.set_eq_of_length_le (by simp; omega)]
def mk8 (p : Nat) : Nat := if p < 8 then 2 ^ p else 0
theorem mark_turn {g : List UInt8} {p : Nat} (hg : 17 ≤ g.length) : ((turn g p).getD 0 0).toNat = (g.getD 0 0).toNat ^^^ mk8 p := by
  unfold turn mk8
  split
  · rename_i h
    have e : p / 8 = 0 := by omega
    have e2 : p % 8 = p := by omega
    rw [e, e2]
    have h0 : 0 < g.length := by omega
    simp only [List.getD_eq_getElem?_getD, List.getElem?_set_self h0, Option.getD_some]
    exact turnB_nat h
  · have e : p / 8 ≠ 0 := by omega
    simp only [List.getD_eq_getElem?_getD, List.getElem?_set_ne e, Nat.xor_zero]
theorem mk8_min (p : Nat) : mk8 p = mk8 (min p 8) := by
  unfold mk8
  by_cases h : p < 8
  · rw [if_pos h, Nat.min_eq_left (by omega), if_pos h]
  · rw [if_neg h, Nat.min_eq_right (by omega), if_neg (by omega)]
theorem mark_tab : ((List.range 9).all fun a => (List.range 9).all fun b => (List.range 9).all fun c => !((a == 8 || a != b) && (a == 8 || a != c) && (b == 8 || b != c) && (Nat.blt a 8 || Nat.blt b 8 || Nat.blt c 8)) || 90 ^^^ mk8 a ^^^ mk8 b ^^^ mk8 c != 90) = true := by decide +kernel
theorem mark_ne {a b c : Nat} (h1 : a ≠ b) (h2 : a ≠ c) (h3 : b ≠ c) (h : a < 8 ∨ b < 8 ∨ c < 8) : 90 ^^^ mk8 a ^^^ mk8 b ^^^ mk8 c ≠ 90 := by
  rw [mk8_min a, mk8_min b, mk8_min c]
  have ha : min a 8 < 9 := by omega
  have hb : min b 8 < 9 := by omega
  have hc : min c 8 < 9 := by omega
  have k1 : min a 8 = 8 ∨ min a 8 ≠ min b 8 := by omega
  have k2 : min a 8 = 8 ∨ min a 8 ≠ min c 8 := by omega
  have k3 : min b 8 = 8 ∨ min b 8 ≠ min c 8 := by omega
  have k4 : min a 8 < 8 ∨ min b 8 < 8 ∨ min c 8 < 8 := by omega
  have t := mark_tab
  simp only [List.all_eq_true, List.mem_range] at t
  have := t _ ha _ hb _ hc
  intro he
  rw [he] at this
  simp only [Bool.or_eq_true, Bool.not_eq_true', bne_self_eq_false, Bool.false_eq_true, or_false] at this
  have hh : ((min a 8 == 8 || min a 8 != min b 8) && (min a 8 == 8 || min a 8 != min c 8) && (min b 8 == 8 || min b 8 != min c 8) && (Nat.blt (min a 8) 8 || Nat.blt (min b 8) 8 || Nat.blt (min c 8) 8)) = true := by
    simp only [Bool.and_eq_true, Bool.or_eq_true, beq_iff_eq, bne_iff_ne, blt_iff]
    exact ⟨⟨⟨k1, k2⟩, k3⟩, by omega⟩
  rw [hh] at this
  cases this

theorem syn_frame (n : Nat) (b : List UInt8) : syn (frame n b) = 0 := by
  have l4 := le_len 4 b.length
  have l8 := le_len 8 n
  have lc := le_len 4 (crc (head n b ++ b))
  have f : frame n b = [90] ++ (le 4 b.length ++ (le 8 n ++ (le 4 (crc (head n b ++ b)) ++ b))) := by simp [frame, head]
  have hc1 := crc_lt (head n b ++ b)
  have h1 : sumF (frame n b) = le 4 (crc (head n b ++ b)) := by
    rw [f]
    generalize crc (head n b ++ b) = c at *
    unfold sumF; simp [List.drop_append, List.take_append, l4, l8, lc]
  have h2 : datF (frame n b) = head n b ++ b := by
    rw [f]
    generalize crc (head n b ++ b) = c at *
    unfold datF
    simp [List.drop_append, List.take_append, l4, l8, lc, head, List.take_of_length_le (show (le 4 b.length).length ≤ 12 by omega), List.drop_eq_nil_of_le (show (le 4 b.length).length ≤ 16 by omega), List.drop_eq_nil_of_le (show (le 8 n).length ≤ 12 by omega), List.drop_eq_nil_of_le (show (le 4 c).length ≤ 4 by omega)]
  unfold syn
  rw [h1, h2, num_le 4 _ (Nat.lt_of_lt_of_le hc1 (by decide)) (Nat.lt_of_lt_of_le hc1 (by decide)), Nat.xor_self]
theorem tlen_frame (n : Nat) (b : List UInt8) (hb : b.length ≤ 60000) : tlen (frame n b) = b.length := by
  have l4 := le_len 4 b.length
  have f : frame n b = [90] ++ (le 4 b.length ++ (le 8 n ++ (le 4 (crc (head n b ++ b)) ++ b))) := by simp [frame, head]
  have d1 : ((frame n b).drop 1).take (5 - 1) = le 4 b.length := by rw [f]; simp [List.take_append, l4]
  rw [tlen, d1]; exact num_le 4 _ (by omega) (by omega)
theorem mark_frame (n : Nat) (b : List UInt8) : ((frame n b).getD 0 0).toNat = 90 := by simp [frame]

def okP (N p : Nat) : Prop := p < 8 * N ∧ (p < 8 ∨ 40 ≤ p)

theorem spoil1 (n : Nat) (b : List UInt8) (hb : b.length ≤ 1000) {p : Nat} (hp : okP (17 + b.length) p) : (takeF (turn (frame n b) p)).2.2 = 0 := by
  have hl := frame_len n b
  have h17 : 17 ≤ (frame n b).length := by omega
  by_cases h8 : p < 8
  · refine takeF_mark ?_
    rw [mark_turn h17, mark_frame]
    have := mark_ne (a := p) (b := 8) (c := 9) (by omega) (by omega) (by omega) (.inl h8)
    simpa [mk8] using this
  · refine takeF_syn (by rw [turn_len]; omega) (by rw [turn_len, tlen_turn (.inr (by have := hp.2; omega)), tlen_frame n b (by omega)]; omega) ?_
    rw [syn_turn h17 (by omega) (by rw [hl]; exact hp.1), syn_frame, Nat.zero_xor]
    exact vv_ne1 _
theorem spoil2 (n : Nat) (b : List UInt8) (hb : b.length ≤ 1000) {p q : Nat} (hp : okP (17 + b.length) p) (hq : okP (17 + b.length) q) (hpq : p ≠ q) : (takeF (turn (turn (frame n b) p) q)).2.2 = 0 := by
  have hl := frame_len n b
  have h17 : 17 ≤ (frame n b).length := by omega
  have h17' : 17 ≤ (turn (frame n b) p).length := by rw [turn_len]; omega
  by_cases h8 : p < 8 ∨ q < 8
  · refine takeF_mark ?_
    rw [mark_turn h17', mark_turn h17, mark_frame]
    have := mark_ne (a := p) (b := q) (c := p + q + 8) (by omega) (by omega) (by omega) (by omega)
    rwa [show mk8 (p + q + 8) = 0 from if_neg (by omega), Nat.xor_zero] at this
  · have := hp.2
    have := hq.2
    refine takeF_syn (by rw [turn_len]; omega) (by rw [turn_len, turn_len, tlen_turn (.inr (by omega)), tlen_turn (.inr (by omega)), tlen_frame n b (by omega)]; omega) ?_
    rw [syn_turn h17' (by omega) (by rw [turn_len, hl]; exact hq.1), syn_turn h17 (by omega) (by rw [hl]; exact hp.1), syn_frame, Nat.zero_xor]
    simp only [turn_len]
    exact vv_two (kap_le (by omega) (by omega) (by rw [hl]; exact hp.1) (by omega)) (kap_le (by omega) (by omega) (by rw [hl]; exact hq.1) (by omega)) (kap_inj (by omega) (by rw [hl]; exact hp.1) (by omega) (by rw [hl]; exact hq.1) (by omega) hpq)
theorem spoil3 (n : Nat) (b : List UInt8) (hb : b.length ≤ 1000) {p q r : Nat} (hp : okP (17 + b.length) p) (hq : okP (17 + b.length) q) (hr : okP (17 + b.length) r) (hpq : p ≠ q) (hpr : p ≠ r) (hqr : q ≠ r) : (takeF (turn (turn (turn (frame n b) p) q) r)).2.2 = 0 := by
  have hl := frame_len n b
  have h17 : 17 ≤ (frame n b).length := by omega
  have h17' : 17 ≤ (turn (frame n b) p).length := by rw [turn_len]; omega
  have h17'' : 17 ≤ (turn (turn (frame n b) p) q).length := by rw [turn_len, turn_len]; omega
  by_cases h8 : p < 8 ∨ q < 8 ∨ r < 8
  · refine takeF_mark ?_
    rw [mark_turn h17'', mark_turn h17', mark_turn h17, mark_frame]
    exact mark_ne hpq hpr hqr h8
  · have := hp.2
    have := hq.2
    have := hr.2
    refine takeF_syn (by rw [turn_len]; omega) (by rw [turn_len, turn_len, turn_len, tlen_turn (.inr (by omega)), tlen_turn (.inr (by omega)), tlen_turn (.inr (by omega)), tlen_frame n b (by omega)]; omega) ?_
    rw [syn_turn h17'' (by omega) (by rw [turn_len, turn_len, hl]; exact hr.1), syn_turn h17' (by omega) (by rw [turn_len, hl]; exact hq.1), syn_turn h17 (by omega) (by rw [hl]; exact hp.1), syn_frame, Nat.zero_xor]
    simp only [turn_len]
    exact vv_three (kap_le (by omega) (by omega) (by rw [hl]; exact hp.1) (by omega)) (kap_le (by omega) (by omega) (by rw [hl]; exact hq.1) (by omega)) (kap_le (by omega) (by omega) (by rw [hl]; exact hr.1) (by omega))
      (kap_inj (by omega) (by rw [hl]; exact hp.1) (by omega) (by rw [hl]; exact hq.1) (by omega) hpq) (kap_inj (by omega) (by rw [hl]; exact hp.1) (by omega) (by rw [hl]; exact hr.1) (by omega) hpr) (kap_inj (by omega) (by rw [hl]; exact hq.1) (by omega) (by rw [hl]; exact hr.1) (by omega) hqr)
end Go.Proofs.Ytkhjnopmkihmiaa
