import Derived.Test.YtkhjnopmkihmiaaPk3
namespace Go.Proofs.Ytkhjnopmkihmiaa
open Go Go.Am Go.Proofs
set_option linter.unusedSimpArgs false

/-! What is written is read back. -/

theorem and128_lt {x : Nat} (h : x < 128) : x &&& 128 = 0 := by
  have : ∀ v, v < 128 → v &&& 128 = 0 := by decide +kernel
  exact this x h
theorem and128_ge {x : Nat} (h : 128 ≤ x) (h2 : x < 256) : x &&& 128 = 128 := by
  have : ∀ v, v < 256 → 128 ≤ v → v &&& 128 = 128 := by decide +kernel
  exact this x h2 h
theorem and127 (x : Nat) : x &&& 127 = x % 128 := Nat.and_two_pow_sub_one_eq_mod x 7

theorem or_shift {a x k : Nat} (h : a < 2 ^ k) : a ||| x * 2 ^ k = a + x * 2 ^ k := by
  have := Nat.shiftLeft_add_eq_or_of_lt h x
  rw [Nat.shiftLeft_eq] at this
  rw [Nat.or_comm, ← this, Nat.add_comm]

theorem byte_mod {x : Nat} (h : x < 256) : (UInt8.ofNat x).toNat = x := by simp; omega

theorem getD_at (p : List UInt8) (x : UInt8) (l : List UInt8) : (p ++ x :: l).getD p.length 0 = x := by simp [List.getD]

theorem pow_mul7 {i : Nat} (h : i ≤ 8) : 2 ^ (64 - 7 * i) = 2 ^ (64 - 7 * (i + 1)) * 128 := by
  rw [show 64 - 7 * i = (64 - 7 * (i + 1)) + 7 by omega, Nat.pow_add]
theorem pow_join {i : Nat} (h : i ≤ 9) : 2 ^ (64 - 7 * i) * 2 ^ (7 * i) = 2 ^ 64 := by
  rw [← Nat.pow_add, show 64 - 7 * i + 7 * i = 64 by omega]

theorem rdU_enc : ∀ (k i : Nat), k = 9 - i → i ≤ 9 → ∀ (v acc : Nat) (p t : List UInt8), v < 2 ^ (64 - 7 * i) → acc < 2 ^ (7 * i) → (i = 0 ∨ 0 < v) → p.length = i →
    rdU (10 - i) i acc (p ++ (encU (9 - i) v ++ t)) = some (acc + v * 2 ^ (7 * i), i + (encU (9 - i) v).length) := by
  intro k
  induction k with
  | zero =>
    intro i hk hi v acc p t hv ha h0 hp
    have hi9 : i = 9 := by omega
    subst hi9
    have hv2 : v < 2 := by simpa using hv
    have hb : ((p ++ (encU (9 - 9) v ++ t)).getD 9 0).toNat = v := by
      rw [← hp, Nat.sub_self]
      simp only [encU, List.singleton_append, getD_at]
      exact byte_mod (by omega)
    have hl : ¬ (p ++ (encU (9 - 9) v ++ t)).length ≤ 9 := by simp [encU]; omega
    rw [rdU_s (by omega) hl (by rw [hb]; omega) (by rw [hb, and128_lt (by omega)]; simp) (by rw [hb]; omega), hb, and127, Nat.mod_eq_of_lt (show v < 128 by omega)]
    have h64 : v * 2 ^ (7 * 9) < 2 ^ 64 := by omega
    rw [Nat.mod_eq_of_lt (show v < 2 ^ 64 by omega), Nat.mod_eq_of_lt h64, or_shift ha]
    simp [encU]
  | succ k ih =>
    intro i hk hi v acc p t hv ha h0 hp
    have hi8 : i ≤ 8 := by omega
    have hf : 9 - i = (9 - (i + 1)) + 1 := by omega
    by_cases hlt : v < 128
    · have hb : ((p ++ (encU (9 - i) v ++ t)).getD i 0).toNat = v := by
        rw [encU_lt hlt]
        simp only [List.singleton_append]
        rw [← hp, getD_at]
        exact byte_mod (by omega)
      have hl : ¬ (p ++ (encU (9 - i) v ++ t)).length ≤ i := by rw [encU_lt hlt]; simp; omega
      rw [rdU_s (by omega) hl (by omega) (by rw [hb, and128_lt (by omega)]; simp) (by rw [hb]; omega), hb, and127, Nat.mod_eq_of_lt hlt]
      have h64 : v * 2 ^ (7 * i) < 2 ^ 64 := by
        rw [← pow_join hi]
        exact Nat.mul_lt_mul_of_pos_right hv (Nat.two_pow_pos _)
      have hv64 : v < 2 ^ 64 := Nat.lt_of_lt_of_le hv (Nat.pow_le_pow_right (by decide) (by omega))
      rw [Nat.mod_eq_of_lt hv64, Nat.mod_eq_of_lt h64, or_shift ha, encU_lt hlt]
      rfl
    · have he : encU (9 - i) v = UInt8.ofNat (v % 128 + 128) :: encU (9 - (i + 1)) (v / 128) := by rw [hf, encU_ge (by omega)]
      have hb : ((p ++ (encU (9 - i) v ++ t)).getD i 0).toNat = v % 128 + 128 := by
        rw [he]
        simp only [List.cons_append]
        rw [← hp, getD_at]
        exact byte_mod (by omega)
      have hl : ¬ (p ++ (encU (9 - i) v ++ t)).length ≤ i := by rw [he]; simp; omega
      have hm : (v % 128 + 128) % 128 = v % 128 := by omega
      rw [rdU_c (by omega) hl (by omega) (by rw [hb, and128_ge (by omega) (by omega)]; simp), hb, and127, hm]
      have h7 : 2 ^ (7 * (i + 1)) = 128 * 2 ^ (7 * i) := by rw [show 7 * (i + 1) = 7 + 7 * i by omega, Nat.pow_add]
      have hvm : v % 128 < 128 := Nat.mod_lt _ (by decide)
      have hsm : v % 128 * 2 ^ (7 * i) + acc < 2 ^ (7 * (i + 1)) := by
        have : v % 128 * 2 ^ (7 * i) ≤ 127 * 2 ^ (7 * i) := Nat.mul_le_mul_right _ (by omega)
        rw [h7]; omega
      have hle64 : 2 ^ (7 * (i + 1)) ≤ 2 ^ 64 := Nat.pow_le_pow_right (by decide) (by omega)
      rw [Nat.mod_eq_of_lt (show v % 128 < 2 ^ 64 by omega), Nat.mod_eq_of_lt (show v % 128 * 2 ^ (7 * i) < 2 ^ 64 by omega), or_shift ha]
      have hp' : (p ++ [UInt8.ofNat (v % 128 + 128)]).length = i + 1 := by simp [hp]
      have hlist : p ++ (encU (9 - i) v ++ t) = (p ++ [UInt8.ofNat (v % 128 + 128)]) ++ (encU (9 - (i + 1)) (v / 128) ++ t) := by rw [he]; simp
      rw [hlist, ih (i + 1) (by omega) (by omega) (v / 128) _ _ t (by rw [pow_mul7 hi8] at hv; omega) (by omega) (.inr (by omega)) hp']
      rw [he]
      simp only [List.length_cons, Option.some.injEq, Prod.mk.injEq]
      refine ⟨?_, by omega⟩
      rw [h7, ← Nat.mul_assoc, Nat.add_assoc, ← Nat.add_mul, Nat.mul_comm (v / 128) 128, Nat.mod_add_div]

theorem rdU_cut : ∀ (k i : Nat), k = 9 - i → i ≤ 9 → ∀ (v acc j : Nat) (p : List UInt8), v < 2 ^ (64 - 7 * i) → p.length = i → j < (encU (9 - i) v).length →
    rdU (10 - i) i acc (p ++ (encU (9 - i) v).take j) = none := by
  intro k
  induction k with
  | zero =>
    intro i hk hi v acc j p hv hp hj
    have hi9 : i = 9 := by omega
    subst hi9
    simp [encU] at hj
    subst hj
    exact rdU_f1 (by omega) (by simp; omega)
  | succ k ih =>
    intro i hk hi v acc j p hv hp hj
    have hi8 : i ≤ 8 := by omega
    have hf : 9 - i = (9 - (i + 1)) + 1 := by omega
    cases j with
    | zero => exact rdU_f1 (by omega) (by simp; omega)
    | succ j =>
    by_cases hlt : v < 128
    · rw [encU_lt hlt] at hj; simp at hj
    · have he : encU (9 - i) v = UInt8.ofNat (v % 128 + 128) :: encU (9 - (i + 1)) (v / 128) := by rw [hf, encU_ge (by omega)]
      rw [he] at hj ⊢
      simp only [List.length_cons] at hj
      rw [List.take_succ_cons]
      have hb : ((p ++ UInt8.ofNat (v % 128 + 128) :: (encU (9 - (i + 1)) (v / 128)).take j).getD i 0).toNat = v % 128 + 128 := by
        rw [← hp, getD_at]
        exact byte_mod (by omega)
      rw [rdU_c (by omega) (by simp; omega) (by omega) (by rw [hb, and128_ge (by omega) (by omega)]; simp)]
      have hp' : (p ++ [UInt8.ofNat (v % 128 + 128)]).length = i + 1 := by simp [hp]
      have hlist : p ++ UInt8.ofNat (v % 128 + 128) :: (encU (9 - (i + 1)) (v / 128)).take j = (p ++ [UInt8.ofNat (v % 128 + 128)]) ++ (encU (9 - (i + 1)) (v / 128)).take j := by simp
      rw [hlist]
      exact ih (i + 1) (by omega) (by omega) (v / 128) _ j _ (by rw [pow_mul7 hi8] at hv; omega) hp' (by omega)

theorem encU_more : ∀ (f v : Nat), v < 2 ^ (7 * (f + 1)) → encU (f + 1) v = encU f v
  | 0, v, h => by have : v < 128 := by simpa using h
                  rw [encU_lt this, encU_lt this]
  | f + 1, v, h => by
    by_cases hlt : v < 128
    · rw [encU_lt hlt, encU_lt hlt]
    · rw [encU_ge (f := f + 1) (u := v) (by omega), encU_ge (f := f) (u := v) (by omega), encU_more f (v / 128) (by
        have : 2 ^ (7 * (f + 1 + 1)) = 2 ^ (7 * (f + 1)) * 128 := by rw [show 7 * (f + 1 + 1) = 7 * (f + 1) + 7 by omega, Nat.pow_add]
        omega)]

theorem encU10 {u : Nat} (h : u < 2 ^ 64) : encU 10 u = encU 9 u := encU_more 9 u (by omega)

theorem rd_enc {u : Nat} (h : u < 2 ^ 64) (t : List UInt8) : rd (encU 10 u ++ t) = (u, t, false) := by
  have := rdU_enc 9 0 rfl (by omega) u 0 [] t (by simpa using h) (by simp) (.inl rfl) rfl
  simp only [List.nil_append, Nat.sub_zero, Nat.mul_zero, Nat.pow_zero, Nat.mul_one, Nat.zero_add] at this
  rw [encU10 h, rd_some this]
  simp
theorem rd_cut {u j : Nat} (h : u < 2 ^ 64) (hj : j < (encU 10 u).length) : rd ((encU 10 u).take j) = (0, [], true) := by
  rw [encU10 h] at hj ⊢
  have := rdU_cut 9 0 rfl (by omega) u 0 j [] (by simpa using h) rfl (by simpa using hj)
  simp only [List.nil_append, Nat.sub_zero] at this
  exact rd_none this
theorem rd_nil : rd [] = (0, [], true) := rd_none (rdU_f1 (i := 0) (by omega) (by simp))

/-! Numbers below 0. -/
theorem xor_ones {x : Nat} (h : x < 2 ^ 64) : x ^^^ (2 ^ 64 - 1) = 2 ^ 64 - 1 - x := by
  have := congrArg BitVec.toNat (BitVec.xor_allOnes (x := BitVec.ofNat 64 x))
  rw [BitVec.toNat_xor, BitVec.toNat_not, BitVec.toNat_allOnes, BitVec.toNat_ofNat, Nat.mod_eq_of_lt h] at this
  exact this
theorem zig_pos {v : Int} (h0 : 0 ≤ v) (h : v ≤ 9223372036854775807) : zig v = 2 * v.toNat := by
  have h1 : v / 2 ^ Int.toNat 63 = 0 := Int.ediv_eq_zero_of_lt h0 (by show v < 9223372036854775808; omega)
  rw [zig, h1]
  have h2 : u64 0 = 0 := by decide
  have h3 : u64 v = v.toNat := by unfold u64; omega
  rw [h2, h3, Nat.xor_zero]
  omega
theorem zig_neg {v : Int} (h0 : v < 0) (h : -9223372036854775808 ≤ v) : zig v = 2 * (-v - 1).toNat + 1 := by
  have h1 : v / 2 ^ Int.toNat 63 = -1 := by
    show v / 9223372036854775808 = -1
    omega
  rw [zig, h1]
  have h2 : u64 (-1) = 2 ^ 64 - 1 := by decide
  have h3 : u64 v = (v + 18446744073709551616).toNat := by unfold u64; omega
  rw [h2, h3, xor_ones (Nat.mod_lt _ (by decide))]
  omega

theorem bits_xor_zero {x : Int} (h : -9223372036854775808 ≤ x) (h2 : x ≤ 9223372036854775807) : bits .xor .i64 x 0 = x := by
  show IntKind.i64.wrap ((BitVec.ofInt 64 x ^^^ BitVec.ofInt 64 0).toNat : Int) = x
  have : BitVec.ofInt 64 0 = 0#64 := rfl
  rw [this, BitVec.xor_zero, BitVec.toNat_ofInt, IntKind.wrap_i64]
  omega
theorem bits_xor_ones {x : Int} (h : 0 ≤ x) (h2 : x ≤ 9223372036854775807) : bits .xor .i64 x (-1) = -x - 1 := by
  show IntKind.i64.wrap ((BitVec.ofInt 64 x ^^^ BitVec.ofInt 64 (-1)).toNat : Int) = _
  have : BitVec.ofInt 64 (-1) = BitVec.allOnes 64 := rfl
  rw [this, BitVec.xor_allOnes, BitVec.toNat_not, BitVec.toNat_ofInt, IntKind.wrap_i64]
  omega

theorem unzig_even (n : Nat) (h : n < 2 ^ 63) : unzig (2 * n) = n := by
  unfold unzig
  have h1 : 2 * n &&& 1 = 0 := by rw [Nat.and_one_is_mod]; omega
  have h2 : (2 * n / 2 ^ 1 : Nat) = n := by omega
  rw [h1, h2]
  have h3 : -((0 : Nat) : Int) = 0 := rfl
  rw [h3, bits_xor_zero (by omega) (by omega)]
theorem unzig_odd (n : Nat) (h : n < 2 ^ 63) : unzig (2 * n + 1) = -(n : Int) - 1 := by
  unfold unzig
  have h1 : 2 * n + 1 &&& 1 = 1 := by rw [Nat.and_one_is_mod]; omega
  have h2 : ((2 * n + 1) / 2 ^ 1 : Nat) = n := by omega
  rw [h1, h2]
  have h3 : -((1 : Nat) : Int) = -1 := rfl
  rw [h3, bits_xor_ones (by omega) (by omega)]

theorem unzig_zig {v : Int} (h1 : -9223372036854775808 ≤ v) (h2 : v ≤ 9223372036854775807) : unzig (zig v) = v := by
  by_cases h : 0 ≤ v
  · rw [zig_pos h h2, unzig_even _ (by omega)]; omega
  · rw [zig_neg (by omega) h1, unzig_odd _ (by omega)]; omega

theorem rd_zig (v : Int) (t : List UInt8) : rd (encU 10 (zig v) ++ t) = (zig v, t, false) := rd_enc (zig_lt v) t

/-! Texts. -/
theorem rs_enc {s : List UInt8} (h : s.length < 2 ^ 64) (t : List UInt8) : rs (encU 10 s.length ++ s ++ t) = (s, t, false) := by
  unfold rs
  rw [List.append_assoc, rd_enc h]
  simp
theorem rs_nil : rs [] = ([], [], true) := by
  unfold rs
  rw [rd_nil]
  simp

theorem encU_pos (f u : Nat) : 0 < (encU f u).length := by
  cases f <;> simp [encU]
  split <;> simp

/-- A text cut off can't be read. -/
theorem rs_cut {s : List UInt8} {j : Nat} (h : s.length < 2 ^ 64) (hj : j < (encU 10 s.length ++ s).length) : (rs ((encU 10 s.length ++ s).take j)).2 = ([], true) := by
  unfold rs
  by_cases hlt : j < (encU 10 s.length).length
  · rw [List.take_append_of_le_length (by omega), rd_cut h hlt]
    simp
  · rw [List.take_append, List.take_of_length_le (by omega), rd_enc h]
    simp only [List.length_append] at hj
    rw [if_pos (by simp; omega)]

end Go.Proofs.Ytkhjnopmkihmiaa
