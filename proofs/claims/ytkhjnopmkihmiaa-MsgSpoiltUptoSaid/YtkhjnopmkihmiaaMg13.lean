import Derived.Test.YtkhjnopmkihmiaaMg12
import Derived.Test.YtkhjnopmkihmiaaSm10
namespace Go.Proofs.Ytkhjnopmkihmiaa
open Go Go.Am Go.Proofs
set_option linter.unusedSimpArgs false
set_option linter.unusedVariables false
set_option maxRecDepth 20000

/-! One byte changed. -/
def turnY (x : UInt8) (y : Nat) : UInt8 := UInt8.ofNat (x.toNat ^^^ y)
theorem turnY_nat {x : UInt8} {y : Nat} (h : y < 256) : (turnY x y).toNat = x.toNat ^^^ y := by
  have h1 : x.toNat ^^^ y < 2 ^ 8 := Nat.xor_lt_two_pow (UInt8.toNat_lt x) h
  rw [turnY, UInt8.toNat_ofNat', Nat.mod_eq_of_lt h1]
theorem crcL_turnY {y : Nat} (hy : y < 256) : ∀ (D : List UInt8) (i s : Nat), i < D.length → crcL s (D.set i (turnY (D.getD i 0) y)) = crcL s D ^^^ crcBits (8 * (D.length - i)) y
  | [], i, s, h => by simp at h
  | x :: D, 0, s, h => by
    show crcL (crcBits 8 (s ^^^ (turnY x y).toNat)) D = crcL (crcBits 8 (s ^^^ x.toNat)) D ^^^ _
    rw [turnY_nat hy, ← Nat.xor_assoc, crcBits_xor, crcL_xor D, ← crcBits_add, List.length_cons, show 8 + 8 * D.length = 8 * (D.length + 1 - 0) by omega]
  | x :: D, i + 1, s, h => by
    show crcL (crcBits 8 (s ^^^ x.toNat)) (D.set i (turnY (D.getD i 0) y)) = crcL (crcBits 8 (s ^^^ x.toNat)) D ^^^ _
    rw [crcL_turnY hy D i _ (by simpa using h), List.length_cons, show D.length + 1 - (i + 1) = D.length - i by omega]
theorem crc_turnY {y : Nat} (hy : y < 256) (D : List UInt8) (i : Nat) (h : i < D.length) : crc (D.set i (turnY (D.getD i 0) y)) = crc D ^^^ crcBits (8 * (D.length - i)) y := by
  unfold crc
  rw [compl32 (crcL_lt _ _ (by decide)), compl32 (crcL_lt _ _ (by decide)), crcL_turnY hy D i _ h, Nat.xor_assoc, Nat.xor_comm (crcBits _ _), Nat.xor_assoc]
theorem num_turnY {y : Nat} (hy : y < 256) : ∀ (l : List UInt8) (i : Nat), i < l.length → l.length ≤ 8 → num (l.set i (turnY (l.getD i 0) y)) = num l ^^^ y * 2 ^ (8 * i)
  | [], i, h, _ => by simp at h
  | x :: l, 0, h, h8 => by
    show num (turnY x y :: l) = _
    rw [num_cons (by simp at h8; omega), num_cons (by simp at h8; omega), turnY_nat hy, Nat.xor_assoc, Nat.mul_zero, Nat.pow_zero, Nat.mul_one]
  | x :: l, i + 1, h, h8 => by
    show num (x :: l.set i (turnY (l.getD i 0) y)) = _
    simp only [List.length_cons] at h h8
    rw [num_cons (by rw [List.length_set]; omega), num_cons (by omega), num_turnY hy l i (by omega) (by omega), shl_xor, Nat.xor_assoc, Nat.xor_assoc, Nat.xor_comm x.toNat, Nat.mul_assoc, ← Nat.pow_add, show 8 * i + 8 = 8 * (i + 1) by omega]
theorem syn_nz {g : List UInt8} {j y : Nat} (hg : 17 ≤ g.length) (h5 : 5 ≤ j) (hj : j < g.length) (hy : y < 256) (h0 : y ≠ 0) (hs : syn g = 0) : syn (g.set j (turnY (g.getD j 0) y)) ≠ 0 := by
  have hsl : (sumF g).length = 4 := by unfold sumF; simp; omega
  have hdl : (datF g).length = g.length - 5 := by unfold datF; simp; omega
  have key : ∀ d, d ≠ 0 → syn (g.set j (turnY (g.getD j 0) y)) = syn g ^^^ d → syn (g.set j (turnY (g.getD j 0) y)) ≠ 0 := fun d hd h => by rw [h, hs, Nat.zero_xor]; exact hd
  have hc : ∀ k, crcBits k y ≠ 0 := fun k h => h0 (crcBits_nz k y (by omega) h)
  have e : syn g = num (sumF g) ^^^ crc (datF g) := rfl
  by_cases h13 : j < 13
  · refine key _ (hc (8 * ((datF g).length - (j - 1)))) ?_
    have hgd : (datF g).getD (j - 1) 0 = g.getD j 0 := by
      unfold datF
      simp only [List.getD_eq_getElem?_getD]
      rw [List.getElem?_append_left (by simp; omega), List.getElem?_take, if_pos (by omega), List.getElem?_drop, show 1 + (j - 1) = j by omega]
    show num (sumF (g.set j _)) ^^^ crc (datF (g.set j _)) = _
    rw [sum_set, if_neg (by omega), dat_set hg, if_neg (by omega), if_pos h13, ← hgd, crc_turnY hy _ _ (by omega), e, Nat.xor_assoc]
  by_cases h17 : j < 17
  · refine key (y * 2 ^ (8 * (j - 13))) (Nat.mul_ne_zero h0 (Nat.pos_iff_ne_zero.1 (Nat.two_pow_pos _))) ?_
    have hgd : (sumF g).getD (j - 13) 0 = g.getD j 0 := by
      unfold sumF
      simp only [List.getD_eq_getElem?_getD]
      rw [List.getElem?_take, if_pos (by omega), List.getElem?_drop, show 13 + (j - 13) = j by omega]
    show num (sumF (g.set j _)) ^^^ crc (datF (g.set j _)) = _
    rw [sum_set, if_pos (by omega), dat_set hg, if_neg (by omega), if_neg h13, if_pos h17, ← hgd, num_turnY hy _ _ (by omega) (by omega), e, Nat.xor_assoc, Nat.xor_comm (y * _), Nat.xor_assoc]
  · refine key _ (hc (8 * ((datF g).length - (j - 5)))) ?_
    have hgd : (datF g).getD (j - 5) 0 = g.getD j 0 := by
      unfold datF
      simp only [List.getD_eq_getElem?_getD]
      have hl : ((g.drop 1).take 12).length = 12 := by simp; omega
      rw [List.getElem?_append_right (by omega), hl, List.getElem?_drop, show 17 + (j - 5 - 12) = j by omega]
    show num (sumF (g.set j _)) ^^^ crc (datF (g.set j _)) = _
    rw [sum_set, if_pos (by omega), List.set_eq_of_length_le (by omega), dat_set hg, if_neg (by omega), if_neg h13, if_neg h17, ← hgd, crc_turnY hy _ _ (by omega), e, Nat.xor_assoc]
theorem spoilY (n : Nat) (b : List UInt8) (hb : b.length ≤ 60000) {j y : Nat} (hj : j < (frame n b).length) (hj5 : j = 0 ∨ 5 ≤ j) (hy : y < 256) (h0 : y ≠ 0) : (takeF ((frame n b).set j (turnY ((frame n b).getD j 0) y))).2.2 = 0 := by
  have hl := frame_len n b
  rcases hj5 with rfl | h5
  · refine takeF_mark ?_
    have hm := mark_frame n b
    have h0 : 0 < (frame n b).length := by omega
    simp only [List.getD_eq_getElem?_getD, List.getElem?_set_self h0, Option.getD_some] at hm ⊢
    rw [turnY_nat hy, hm]
    intro h
    apply ‹y ≠ 0›
    have : 90 ^^^ (90 ^^^ y) = 90 ^^^ 90 := by rw [h]
    rwa [← Nat.xor_assoc, Nat.xor_self, Nat.zero_xor] at this
  · refine takeF_syn (by rw [List.length_set]; omega) ?_ (syn_nz (by omega) h5 hj hy h0 (syn_frame n b))
    have ht := tlen_frame n b hb
    have : tlen ((frame n b).set j (turnY ((frame n b).getD j 0) y)) = tlen (frame n b) := by
      unfold tlen
      rw [List.drop_set, if_neg (by omega), List.take_set, List.set_eq_of_length_le (by simp; omega)]
    rw [this, ht, List.length_set]; omega
theorem getM_size {x : List UInt8} (h : (takeF x).2.2 = 0 ∨ (takeF x).2.2 ≠ x.length) : getM x = none := by
  unfold getM
  rw [if_pos (h.elim .inl fun h => .inr (.inl h))]
theorem Get_none {x : List UInt8} (h : getM x = none) (hl : x.length ≤ 1000000) (H : AHeap) : ACalls Try.prog 9 [.bys x] H fun r H' => r = .tup [.agg Mg0.cells, .raw (.int .i64 (3 : Int))] ∧ H' = H := by
  have := Get_calls H x (by omega)
  rw [h] at this
  exact this
end Go.Proofs.Ytkhjnopmkihmiaa
