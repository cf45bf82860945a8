import Derived.Test.YtkhjnopmkihmiaaSm4
namespace Go.Proofs.Ytkhjnopmkihmiaa
open Go Go.Am Go.Proofs

/-! The plain law: what is read back of a frame. -/
theorem num_le : ∀ (k u : Nat), u < 2 ^ (8 * k) → u < 2 ^ 64 → num (le k u) = u
  | 0, u, h, _ => by simp at h; subst h; rfl
  | k + 1, u, h, h6 => by
    have h1 : u / 2 ^ 8 < 2 ^ (8 * k) := by
      rw [Nat.div_lt_iff_lt_mul (by decide), ← Nat.pow_add]; exact h
    have ih := num_le k (u / 2 ^ 8) h1 (by omega)
    have hr : (UInt8.ofNat (u % 2 ^ 8)).toNat = u % 2 ^ 8 := by simp
    rw [le, num, ih, hr, Nat.mod_eq_of_lt (show u / 2 ^ 8 * 2 ^ 8 < 2 ^ 64 by omega), Nat.mul_comm, ← Nat.two_pow_add_eq_or_of_lt (Nat.mod_lt _ (by decide)), Nat.div_add_mod]

theorem take_frame (n : Nat) (b t : List UInt8) (hn : n < 2 ^ 64) (hb : b.length ≤ 60000) : takeF (frame n b ++ t) = (n, b, 17 + b.length) := by
  have l4 := le_len 4 b.length
  have l8 := le_len 8 n
  have lc := le_len 4 (crc (head n b ++ b))
  have hl : (frame n b ++ t).length = 17 + b.length + t.length := by rw [List.length_append, frame_len]
  have f : frame n b ++ t = [90] ++ (le 4 b.length ++ (le 8 n ++ (le 4 (crc (head n b ++ b)) ++ (b ++ t)))) := by simp [frame, head]
  have d1 : ((frame n b ++ t).drop 1).take (5 - 1) = le 4 b.length := by rw [f]; simp [List.take_append, l4]
  have d5 : ((frame n b ++ t).drop 5).take (13 - 5) = le 8 n := by rw [f]; simp [List.drop_append, List.take_append, l4, l8]
  have d13 : ((frame n b ++ t).drop 13).take (17 - 13) = le 4 (crc (head n b ++ b)) := by rw [f]; simp [List.drop_append, List.take_append, l4, l8, lc]
  have h12 : ((frame n b ++ t).drop 1).take (13 - 1) = head n b := by rw [f]; simp [List.take_append, l4, l8, head, List.take_of_length_le (show (le 4 b.length).length ≤ 12 by omega)]
  have d17 : ((frame n b ++ t).drop 17).take (17 + b.length - 17) = b := by
    rw [f]; simp [List.drop_append, l4, l8, lc, List.drop_eq_nil_of_le (show (le 4 b.length).length ≤ 16 by omega), List.drop_eq_nil_of_le (show (le 8 n).length ≤ 12 by omega)]
  have nt : tlen (frame n b ++ t) = b.length := by rw [tlen, d1]; exact num_le 4 _ (by omega) (by omega)
  have nc := crc_lt (head n b ++ b)
  rw [takeF, nt, if_neg (by omega), if_neg (by rw [f]; simp), if_neg (by omega), if_neg (by omega), if_neg, d5, d17, num_le 8 n (by omega) hn]
  rw [d13, h12, d17, num_le 4 _ (by omega) (by omega)]; simp

/-- A frame that was cut off is none. -/
theorem take_cut (n : Nat) (b : List UInt8) (k : Nat) (hb : b.length ≤ 60000) (hk : k < (frame n b).length) : takeF ((frame n b).take k) = (0, [], 0) := by
  rw [frame_len] at hk
  have hl : ((frame n b).take k).length = k := by rw [List.length_take, frame_len]; omega
  rw [takeF, hl]
  by_cases h17 : k < 17
  · rw [if_pos h17]
  have l4 := le_len 4 b.length
  have f : frame n b = [90] ++ (le 4 b.length ++ (le 8 n ++ (le 4 (crc (head n b ++ b)) ++ b))) := by simp [frame, head]
  have d1 : (((frame n b).take k).drop 1).take (5 - 1) = le 4 b.length := by
    rw [f, List.drop_take, List.take_take, show min (5 - 1) (k - 1) = 4 by omega]; simp [l4]
  have nt : tlen ((frame n b).take k) = b.length := by rw [tlen, d1]; exact num_le 4 _ (by omega) (by omega)
  have g0 : ¬ (((frame n b).take k).getD 0 0).toNat ≠ 90 := by
    rw [f]; cases k with
    | zero => omega
    | succ k => simp
  rw [if_neg h17, nt, if_neg g0, if_neg (by omega), if_pos (by omega)]

theorem all_cut (n : Nat) (b : List UInt8) (k nx : Nat) (hb : b.length ≤ 60000) (hk : k < (frame n b).length) : allB ((frame n b).take k) nx = ([], 0) := allB_stop (.inl (by rw [take_cut n b k hb hk]))

/-- No frame is another's beginning. -/
theorem frame_apart (n m : Nat) (a b : List UInt8) (hn : n < 2 ^ 64) (hm : m < 2 ^ 64) (ha : a.length ≤ 60000) (hb : b.length ≤ 60000) (h : (frame n a).take (frame m b).length = frame m b) : n = m ∧ a = b := by
  have h1 := take_frame n a [] hn ha
  have h2 := take_frame m b ((frame n a).drop (frame m b).length) hm hb
  have e : frame m b ++ (frame n a).drop (frame m b).length = frame n a := by
    conv => lhs; arg 1; rw [← h]
    exact List.take_append_drop _ _
  rw [e] at h2
  rw [List.append_nil] at h1
  rw [h1] at h2
  injection h2 with e1 e2
  injection e2 with e3 e4
  exact ⟨e1, e3⟩

/-! Frames whose numbers rise one by one, but for one. -/
def keyW (w d j : Nat) : Nat := if j = w then (j + d) % 18446744073709551616 else j
def fr (w d j : Nat) : List UInt8 := frame (keyW w d j) [UInt8.ofNat j]
def row (w d : Nat) : Nat → Nat → List UInt8
  | _, 0 => []
  | i, m + 1 => fr w d i ++ row w d (i + 1) m
theorem fr_len (w d j : Nat) : (fr w d j).length = 18 := by rw [fr, frame_len]; rfl
theorem row_len (w d : Nat) : ∀ m i, (row w d i m).length = 18 * m
  | 0, i => rfl
  | m + 1, i => by rw [row, List.length_append, fr_len, row_len w d m (i + 1)]; omega
theorem row_snoc (w d : Nat) : ∀ m i, row w d i (m + 1) = row w d i m ++ fr w d (i + m)
  | 0, i => by simp [row]
  | m + 1, i => by rw [row, row_snoc w d m (i + 1), row, List.append_assoc, show i + 1 + m = i + (m + 1) by omega]
theorem row_all (w d : Nat) (hd0 : d ≠ 0) (hd : d < 18446744073709551616) : ∀ m i, i + m < 1000 → i ≤ w → (allB (row w d i m) i).1.length = min (w - i) m ∧ (allB (row w d i m) i).2 = 18 * min (w - i) m
  | 0, i, h, hw => by
    rw [row, allB_stop (.inl (show (takeF []).2.2 = 0 by decide +kernel))]; simp
  | m + 1, i, h, hw => by
    have hk : keyW w d i < 2 ^ 64 := by unfold keyW; split <;> omega
    have ht : takeF (row w d i (m + 1)) = (keyW w d i, [UInt8.ofNat i], 18) := take_frame (keyW w d i) [UInt8.ofNat i] (row w d (i + 1) m) hk (by simp)
    by_cases hiw : i = w
    · rw [allB_stop (.inr (by rw [ht, keyW, if_pos hiw]; show (i + d) % 18446744073709551616 ≠ i; omega))]
      simp [hiw]
    · have hkey : keyW w d i = i := if_neg hiw
      have hdrop : (row w d i (m + 1)).drop 18 = row w d (i + 1) m := by rw [row]; exact List.drop_left' (fr_len w d i)
      have ih := row_all w d hd0 hd m (i + 1) (by omega) (by omega)
      rw [allB_step (by rw [ht]; show (18 : Nat) ≠ 0; decide) (by rw [ht, hkey]) (by omega), ht]
      simp only [hdrop, List.length_cons, ih]
      omega
end Go.Proofs.Ytkhjnopmkihmiaa
