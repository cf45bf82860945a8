import Derived.Test.YtbciofnejefkiaaIz
import Derived.Test.YtbciofnejefkiaaTab
import Derived.Test.YtbciofnejefkiaaAmMore
namespace Go.Proofs.Ytbciofnejefkiaa
open Go Go.Am Go.Proofs

def encU : Nat → Nat → List UInt8
  | 0, u => [UInt8.ofNat u]
  | f + 1, u => if u < 128 then [UInt8.ofNat u] else UInt8.ofNat (u % 128 + 128) :: encU f (u / 128)

theorem or128 (u : Nat) : (u % 256 ||| 128) = u % 128 + 128 := by
  have h : ∀ v, v < 256 → (v ||| 128) = v % 128 + 128 := by decide +kernel
  rw [h _ (Nat.mod_lt _ (by decide)), Nat.mod_mod_of_dvd _ (by decide)]

theorem encU_lt {f u : Nat} (h : u < 128) : encU f u = [UInt8.ofNat u] := by cases f <;> simp [encU, h]
theorem encU_ge {f u : Nat} (h : 128 ≤ u) : encU (f + 1) u = UInt8.ofNat (u % 128 + 128) :: encU f (u / 128) := by simp [encU, show ¬ u < 128 by omega]

theorem pow7 {f m : Nat} (h : m < 2 ^ (7 * (f + 1) + 1)) : m / 128 < 2 ^ (7 * f + 1) := by
  have : 2 ^ (7 * (f + 1) + 1) = 2 ^ (7 * f + 1) * 128 := by rw [show 7 * (f + 1) + 1 = (7 * f + 1) + 7 by omega, Nat.pow_add]
  omega
theorem hu9 (u : Nat) (h : u < 18446744073709551616) : u < 2 ^ (7 * 9 + 1) := by simpa using h

set_option linter.unusedSimpArgs false
set_option linter.unusedVariables false
set_option maxRecDepth 20000
set_option maxHeartbeats 4000000

theorem U_own (H : AHeap) (b : List UInt8) (u : Nat) (hb : b.length ≤ 4000000000) (hu : u < 18446744073709551616) :
    ACalls Try.prog 75 [.bys b, .raw (.int .u64 (u : Int))] H fun r H' => ∃ o, H o = none ∧ r = .vw o 1 0 (b ++ encU 10 u).length ∧ H' = H.set o (.byt (b ++ encU 10 u)) := by
  refine acalls_of_aw2 Try.func75 rfl (by decide) ?_
  (first | focus (refine yy46 ?_; refine yy29 ?_; refine yy96 ?_; refine yy74 ?_; refine awl_make_byt rfl rfl rfl auto_om auto_om auto_om (fun oN hoN => ?_); refine yy29 ?_; refine za1 rfl rfl rfl (by assumption) auto_rl auto_src auto_len auto_len (fun oN hoN => ?_); refine yy65 ?_; refine yy3 ?_; refine aw_seq ?_; refine aw_block ?_; rotate_left) | fail)
  refine aw_loop (fun m R' H' => ∃ o bs f v, H o = none ∧ H' = H.set o (.byt bs) ∧ R' = [(5, .vw o 1 0 bs.length), (1, .raw (.int .u64 ((v : Nat) : Int)))] ∧ m = v ∧ v < 2 ^ (7 * f + 1) ∧ f ≤ 9 ∧ bs ++ encU (f + 1) v = b ++ encU 10 u ∧ bs.length + f ≤ b.length + 9) ?_ ?_
  · rename_i oN hoN
    exact ⟨u, _, _, auto_ent, oN, b, 9, u, by assumption, rfl, rfl, rfl, hu9 u hu, by decide, rfl, by omega⟩
  · rintro m R0 H0 ⟨o, bs, f, v, ho, rfl, rfl, rfl, hv, hf, he, hl⟩
    (first | focus (refine yy11 ?_; refine yy97 ?_; refine yy3 ?_; refine aw_condp rfl (fun hc => ?_) (fun hc => ?_); refine yy66 ?_; refine yy101 ?_; refine yy52 ?_; refine yy2 ?_; refine awl_s rfl (s_convm rfl) ?_; refine awl_s rfl (s_orn rfl rfl auto_lt auto_lt) ?_; refine awl_s rfl (s_byte1 rfl auto_lt) ?_; refine za1 rfl rfl rfl (by assumption) auto_rl auto_src auto_len auto_len (fun oN hoN => ?_); refine yy65 ?_; refine yy3 ?_; refine aw_region ?_; refine yy2 ?_; refine awl_s rfl (s_shrn rfl rfl (by first | decide | (show _ ≤ 64; omega) | (show _ ≤ 32; omega) | (show _ ≤ 8; omega))) ?_; refine yy30 ?_; refine yy7 ?_; refine yy38 ?_; rotate_left; refine yy109 ?_; refine yy4 ?_; refine yy52 ?_; refine yy2 ?_; refine awl_s rfl (s_convn rfl (by omega)) ?_; refine awl_s rfl (s_byte1 rfl auto_lt) ?_; refine za1 rfl rfl rfl (by assumption) auto_rl auto_src auto_len auto_len (fun oN hoN => ?_); refine yy65 ?_; refine yy25 ?_; rotate_left) | fail)
    · rename_i oN hoN
      cases f with
      | zero => omega
      | succ f =>
        exact ⟨m / 128, _, _, by omega, auto_ent, oN, bs ++ [UInt8.ofNat (m % 256 ||| 128)], f, m / 128, by assumption, rfl, rfl, rfl, pow7 hv, by omega, by
          rw [← he, encU_ge (f := f + 1) (by omega), or128, List.append_assoc]; rfl, by simp only [List.length_append, List.length_cons, List.length_nil]; omega⟩
    · rename_i oN hoN
      have hx : b ++ encU 10 u = bs ++ [UInt8.ofNat m] := by rw [← he, encU_lt (by omega)]
      exact ⟨.inl rfl, _, _, _, Ent.refl _ _, ret1 rfl rfl, oN, by assumption, by rw [hx]; simp [rget], by rw [hx]⟩

theorem U_calls (H : AHeap) (b : List UInt8) (u : Nat) (hb : b.length ≤ 4000000000) (hu : u < 18446744073709551616) :
    ACalls Try.prog 75 [.bys b, .raw (.int .u64 (u : Int))] H fun r H' => r = .bys (b ++ encU 10 u) ∧ H' = H := (U_own H b u hb hu).seal

theorem encU_len : ∀ f u, (encU f u).length ≤ f + 1
  | 0, u => by simp [encU]
  | f + 1, u => by
    have := encU_len f (u / 128)
    simp only [encU]
    split <;> simp <;> omega
end Go.Proofs.Ytbciofnejefkiaa

namespace Go.Proofs.Ytbciofnejefkiaa
open Go Go.Am Go.Proofs
set_option linter.unusedSimpArgs false
set_option linter.unusedVariables false
set_option maxRecDepth 20000
set_option maxHeartbeats 4000000

theorem spoil_calls (H : AHeap) (o : Nat) (x y : AV) (h : H o = some (.cel [x, y])) :
    ACalls Try.prog 81 [.ptr o 0] H fun r H' => r = .tup [] ∧ H' = H.set o (.cel [.bys [], .raw (.bool true)]) := by
  refine acalls_of_aw1 Try.func81 rfl (by decide) ?_
  (first | focus (refine yy39 ?_; refine yy111 ?_; refine yy59 ?_; refine yy60 ?_; refine yy67 ?_; refine yy7 ?_; rotate_left) | fail)
  exact ⟨.inr rfl, _, _, _, Ent.wcel (by ((repeat' (first | exact WC.nil | apply WC.cons)); all_goals (first | exact W.of rfl | exact W.int rfl | exact W.nilb rfl | exact W.empb rfl | exact W.bysx rfl | exact W.nils rfl | exact W.emps rfl | exact W.slsx rfl))), ret0 rfl, rfl, rfl⟩

theorem bad_calls (H : AHeap) (o : Nat) (x : AV) (b : Bool) (h : H o = some (.cel [x, .raw (.bool b)])) :
    ACalls Try.prog 60 [.ptr o 0] H fun r H' => r = .raw (.bool b) ∧ H' = H := by
  refine acalls_of_aw1 Try.func60 rfl (by decide) ?_
  (first | focus (refine yy46 ?_; refine yy8 ?_; refine yy9 ?_; rotate_left) | fail)
  exact ⟨.inl rfl, _, _, _, Ent.refl _ _, ret1 rfl rfl, rfl, rfl⟩

theorem left_calls (H : AHeap) (o : Nat) (b : List UInt8) (y : AV) (h : H o = some (.cel [.bys b, y])) :
    ACalls Try.prog 61 [.ptr o 0] H fun r H' => r = .raw (.int .i64 (b.length : Int)) ∧ H' = H := by
  refine acalls_of_aw1 Try.func61 rfl (by decide) ?_
  (first | focus (refine yy46 ?_; refine yy8 ?_; refine yy96 ?_; refine yy9 ?_; rotate_left) | fail)
  exact ⟨.inl rfl, _, _, _, Ent.refl _ _, ret1 rfl rfl, rfl, rfl⟩

theorem read_calls (H : AHeap) (b : List UInt8) (hb : b.length ≤ 4000000000) :
    ACalls Try.prog 56 [.bys b] H fun r H' => ∃ o, H o = none ∧ r = .ptr o 0 ∧ H' = H.set o (.cel [.bys b, .raw (.bool false)]) := by
  refine acalls_of_aw1 Try.func56 rfl (by decide) ?_
  (first | focus (refine yy46 ?_; refine awl_s rfl (s_buildSlice0) ?_; refine yy29 ?_; refine awl_s rfl (s_app_emp_byt rfl rfl auto_src auto_len auto_len) ?_; refine yy75 ?_; refine zb1 rfl rfl rfl (fun oN hoN => ?_); refine yy90 ?_; refine yy25 ?_; rotate_left) | fail)
  exact ⟨.inl rfl, _, _, _, Ent.refl _ _, ret1 rfl rfl, _, by assumption, rfl, rfl⟩

theorem S_own (H : AHeap) (b s : List UInt8) (hb : b.length ≤ 3000000000) (hs : s.length ≤ 3000000000) :
    ACalls Try.prog 76 [.bys b, .str s] H fun r H' => ∃ o, H o = none ∧ r = .vw o 1 0 (b ++ encU 10 s.length ++ s).length ∧ H' = H.set o (.byt (b ++ encU 10 s.length ++ s)) := by
  have hE := encU_len 10 s.length
  refine acalls_of_aw2 Try.func76 rfl (by decide) ?_
  (first | focus (refine yy46 ?_; refine yy29 ?_; refine awl_s rfl (s_move (v := .str _) rfl) ?_; refine awl_s rfl (s_len_str rfl) ?_; refine awl_s rfl (s_convn rfl (by omega)) ?_; (refine zc auto_wl (U_own _ _ _ auto_sd auto_sd) ?_; rintro r H' ⟨o, ho, rfl, rfl⟩); refine awl_s rfl (s_move (v := .str _) rfl) ?_; refine za1 rfl rfl rfl (by assumption) auto_rl auto_src auto_len auto_len (fun oN hoN => ?_); refine yy65 ?_; refine yy25 ?_; rotate_left) | fail)
  exact ⟨.inl rfl, _, _, _, Ent.refl _ _, ret1 rfl rfl, oN, by assumption, by simp [rget, Nat.add_assoc], rfl⟩
theorem S_calls (H : AHeap) (b s : List UInt8) (hb : b.length ≤ 3000000000) (hs : s.length ≤ 3000000000) :
    ACalls Try.prog 76 [.bys b, .str s] H fun r H' => r = .bys (b ++ encU 10 s.length ++ s) ∧ H' = H := (S_own H b s hb hs).seal

def zig (v : Int) : Nat := (u64 v * 2 ^ 1 % 2 ^ 64) ^^^ u64 (v / 2 ^ Int.toNat 63)
theorem zig_lt (v : Int) : zig v < 2 ^ 64 := Nat.xor_lt_two_pow (Nat.mod_lt _ (by decide)) (by have := u64_lt (v / 2 ^ Int.toNat 63); omega)

theorem I_own (H : AHeap) (b : List UInt8) (v : Int) (hb : b.length ≤ 3000000000) :
    ACalls Try.prog 74 [.bys b, .raw (.int .i64 v)] H fun r H' => ∃ o, H o = none ∧ r = .vw o 1 0 (b ++ encU 10 (zig v)).length ∧ H' = H.set o (.byt (b ++ encU 10 (zig v))) := by
  have hz := zig_lt v
  have h1 := u64_lt v
  have h2 := u64_lt (v / 2 ^ Int.toNat 63)
  refine acalls_of_aw2 Try.func74 rfl (by decide) ?_
  (first | focus (refine yy46 ?_; refine yy29 ?_; refine yy2 ?_; refine awl_s rfl (s_convu rfl) ?_; refine awl_s rfl (s_shln rfl rfl (by omega)) ?_; refine yy2 ?_; refine awl_s rfl (s_shr rfl rfl (by decide) (by decide)) ?_; refine awl_s rfl (s_convu rfl) ?_; refine awl_s rfl (s_xorn rfl rfl auto_lt auto_lt) ?_; (refine zc auto_wl (U_own _ _ _ auto_sd hz) ?_; rintro r H' ⟨o, ho, rfl, rfl⟩); refine yy65 ?_; refine yy25 ?_; rotate_left) | fail)
  exact ⟨.inl rfl, _, _, _, Ent.refl _ _, ret1 rfl rfl, _, by assumption, rfl, rfl⟩
theorem I_calls (H : AHeap) (b : List UInt8) (v : Int) (hb : b.length ≤ 3000000000) :
    ACalls Try.prog 74 [.bys b, .raw (.int .i64 v)] H fun r H' => r = .bys (b ++ encU 10 (zig v)) ∧ H' = H := (I_own H b v hb).seal

def rdU : Nat → Nat → Nat → List UInt8 → Option (Nat × Nat)
  | 0, _, _, _ => none
  | f + 1, i, u, b =>
    if b.length ≤ i then none
    else if i = 9 ∧ 1 < (b.getD i 0).toNat then none
    else if (b.getD i 0).toNat &&& 128 ≠ 0 then rdU f (i + 1) (u ||| (((b.getD i 0).toNat &&& 127) % 2 ^ 64 * 2 ^ (7 * i) % 2 ^ 64)) b
    else if (b.getD i 0).toNat = 0 ∧ 0 < i then none
    else some (u ||| (((b.getD i 0).toNat &&& 127) % 2 ^ 64 * 2 ^ (7 * i) % 2 ^ 64), i + 1)

theorem rdU_step {i u : Nat} {b : List UInt8} (h : i < 10) : rdU (10 - i) i u b =
    if b.length ≤ i then none
    else if i = 9 ∧ 1 < (b.getD i 0).toNat then none
    else if (b.getD i 0).toNat &&& 128 ≠ 0 then rdU (10 - (i + 1)) (i + 1) (u ||| (((b.getD i 0).toNat &&& 127) % 2 ^ 64 * 2 ^ (7 * i) % 2 ^ 64)) b
    else if (b.getD i 0).toNat = 0 ∧ 0 < i then none
    else some (u ||| (((b.getD i 0).toNat &&& 127) % 2 ^ 64 * 2 ^ (7 * i) % 2 ^ 64), i + 1) := by
  rw [show 10 - i = (10 - (i + 1)) + 1 by omega]; rfl
theorem rdU_end {i u : Nat} {b : List UInt8} (h : ¬ i < 10) : rdU (10 - i) i u b = none := by
  rw [show 10 - i = 0 by omega]; rfl

theorem rdU_f1 {i u : Nat} {b : List UInt8} (h : i < 10) (h1 : b.length ≤ i) : rdU (10 - i) i u b = none := by rw [rdU_step h, if_pos h1]
theorem rdU_f2 {i u : Nat} {b : List UInt8} (h : i < 10) (h1 : i = 9) (h2 : 1 < (b.getD i 0).toNat) : rdU (10 - i) i u b = none := by rw [rdU_step h, if_pos (show i = 9 ∧ 1 < (b.getD i 0).toNat from ⟨h1, h2⟩)]; simp
theorem rdU_f3 {i u : Nat} {b : List UInt8} (h : i < 10) (h1 : ¬ (b.getD i 0).toNat &&& 128 ≠ 0) (h2 : (b.getD i 0).toNat = 0) (h3 : 0 < i) : rdU (10 - i) i u b = none := by rw [rdU_step h, if_neg h1, if_pos (show (b.getD i 0).toNat = 0 ∧ 0 < i from ⟨h2, h3⟩)]; simp
theorem rdU_c {i u : Nat} {b : List UInt8} (h : i < 10) (h1 : ¬ b.length ≤ i) (h2 : ¬ (i = 9 ∧ 1 < (b.getD i 0).toNat)) (h3 : (b.getD i 0).toNat &&& 128 ≠ 0) :
    rdU (10 - i) i u b = rdU (10 - (i + 1)) (i + 1) (u ||| (((b.getD i 0).toNat &&& 127) % 2 ^ 64 * 2 ^ (7 * i) % 2 ^ 64)) b := by rw [rdU_step h, if_neg h1, if_neg h2, if_pos h3]
theorem rdU_s {i u : Nat} {b : List UInt8} (h : i < 10) (h1 : ¬ b.length ≤ i) (h2 : ¬ (i = 9 ∧ 1 < (b.getD i 0).toNat)) (h3 : ¬ (b.getD i 0).toNat &&& 128 ≠ 0) (h4 : ¬ ((b.getD i 0).toNat = 0 ∧ 0 < i)) :
    rdU (10 - i) i u b = some (u ||| (((b.getD i 0).toNat &&& 127) % 2 ^ 64 * 2 ^ (7 * i) % 2 ^ 64), i + 1) := by rw [rdU_step h, if_neg h1, if_neg h2, if_neg h3, if_neg h4]

def rd (b : List UInt8) : Nat × List UInt8 × Bool :=
  match rdU 10 0 0 b with
  | some (u, n) => (u, (b.drop n).take (b.length - n), false)
  | none => (0, [], true)
theorem rd_none {b : List UInt8} (h : rdU 10 0 0 b = none) : rd b = (0, [], true) := by simp [rd, h]
theorem rd_some {b : List UInt8} {u n : Nat} (h : rdU 10 0 0 b = some (u, n)) : rd b = (u, (b.drop n).take (b.length - n), false) := by simp [rd, h]

theorem RU_calls (H : AHeap) (o : Nat) (b : List UInt8) (bad : Bool) (h : H o = some (.cel [.bys b, .raw (.bool bad)])) (hb : b.length ≤ 4000000000) :
    ACalls Try.prog 57 [.ptr o 0] H fun r H' => r = .raw (.int .u64 ((rd b).1 : Int)) ∧ H' = H.set o (.cel [.bys (rd b).2.1, .raw (.bool (bad || (rd b).2.2))]) := by
  refine acalls_of_aw1 Try.func57 rfl (by decide) ?_
  (first | focus (refine yy46 ?_; refine yy6 ?_; refine yy12 ?_; refine yy56 ?_; rotate_left) | fail)
  refine aw_loop (fun m R' H' => ∃ i u, H' = H ∧ R' = [(6, .raw (.int .i64 ((i : Nat) : Int))), (3, .raw (.int .u64 ((u : Nat) : Int))), (0, .ptr o 0)] ∧ m = 10 - i ∧ i ≤ 10 ∧ u < 2 ^ 64 ∧ rdU (10 - i) i u b = rdU 10 0 0 b) ?_ ?_
  · exact ⟨10, _, _, auto_ent, 0, 0, rfl, rfl, rfl, by decide, by decide, rfl⟩
  · rintro m R0 H0 ⟨i, u, rfl, rfl, rfl, hi, hu, he⟩
    (first | focus (refine yy10 ?_; refine aw_condp rfl (fun hc => ?_) (fun hc => ?_); refine yy26 ?_; refine yy2 ?_; refine yy6 ?_; refine yy11 ?_; refine yy8 ?_; refine yy96 ?_; refine yy97 ?_; refine yy3 ?_; refine aw_condp rfl (fun hc => ?_) (fun hc => ?_); refine aw_exit ?_; refine k_seq_exit ?_; refine k_block_ne rfl ?_; refine k_seq_exit ?_; refine k_seq_exit ?_; refine k_block_eq ?_; refine yy47 ?_; refine yy22 ?_; (refine zc auto_wl (spoil_calls _ _ _ _ auto_sd) ?_; rintro r H' ⟨rfl, rfl⟩); refine yy3 ?_; refine yy18 ?_; rotate_left; refine yy66 ?_; refine yy4 ?_; refine yy8 ?_; refine yy2 ?_; refine awl_s rfl (s_indexAddr_bys rfl rfl (by omega) rfl) ?_; refine awl_s rfl (s_load_pby rfl (by omega)) ?_; refine yy6 ?_; refine yy11 ?_; refine yy49 ?_; refine yy2 ?_; refine zg1 rfl rfl rfl (fun hc => ?_) (fun hc => ?_); refine yy19 ?_; refine yy27 ?_; refine yy48 ?_; refine aw_condp rfl (fun hc => ?_) (fun hc => ?_); refine aw_exit ?_; refine k_seq_exit ?_; refine k_block_ne rfl ?_; refine k_seq_exit ?_; refine k_seq_exit ?_; refine k_block_eq ?_; refine yy47 ?_; refine yy22 ?_; (refine zc auto_wl (spoil_calls _ _ _ _ auto_sd) ?_; rintro r H' ⟨rfl, rfl⟩); refine yy3 ?_; refine yy18 ?_; rotate_left; refine yy66 ?_; refine yy50 ?_; refine yy2 ?_; refine yy102 ?_; refine awl_s rfl (s_convm rfl) ?_; refine yy2 ?_; refine awl_s rfl (s_muln rfl rfl auto_len) ?_; refine awl_s rfl (s_shln rfl rfl (by omega)) ?_; refine awl_s rfl (s_orn rfl rfl auto_lt auto_lt) ?_; refine yy6 ?_; refine yy11 ?_; refine yy102 ?_; refine yy70 ?_; refine yy3 ?_; refine aw_condp rfl (fun hc => ?_) (fun hc => ?_); refine aw_exit ?_; refine k_seq_exit ?_; refine k_block_eq ?_; refine yy47 ?_; refine aw_region ?_; refine awl_s rfl (s_addn rfl rfl auto_len) ?_; refine awl_s rfl (s_move (v := .raw _) rfl) ?_; (with_reducible refine awl_nil ?_); refine k_seq_normal ?_; rotate_left; refine yy66 ?_; refine yy11 ?_; refine yy49 ?_; refine yy2 ?_; refine zg1 rfl rfl rfl (fun hc => ?_) (fun hc => ?_); refine yy19 ?_; refine yy27 ?_; refine yy48 ?_; refine aw_condp rfl (fun hc => ?_) (fun hc => ?_); refine aw_exit ?_; refine k_seq_exit ?_; refine k_block_ne rfl ?_; refine k_seq_exit ?_; refine k_seq_exit ?_; refine k_block_eq ?_; refine yy47 ?_; refine yy22 ?_; (refine zc auto_wl (spoil_calls _ _ _ _ auto_sd) ?_; rintro r H' ⟨rfl, rfl⟩); refine yy3 ?_; refine yy18 ?_; rotate_left; exact absurd hc auto_no; refine yy41 ?_; refine yy43 ?_; refine yy68 ?_; refine yy22 ?_; refine yy8 ?_; refine yy2 ?_; refine yy74 ?_; refine yy103 ?_; refine yy60 ?_; refine yy59 ?_; refine yy3 ?_; refine yy50 ?_; refine yy9 ?_; refine yy86 ?_; refine yy51 ?_; rotate_left; refine yy41 ?_; refine yy43 ?_; refine yy68 ?_; refine yy50 ?_; refine yy2 ?_; refine yy102 ?_; refine awl_s rfl (s_convm rfl) ?_; refine yy2 ?_; refine awl_s rfl (s_muln rfl rfl auto_len) ?_; refine awl_s rfl (s_shln rfl rfl (by omega)) ?_; refine awl_s rfl (s_orn rfl rfl auto_lt auto_lt) ?_; refine yy6 ?_; refine yy11 ?_; refine yy102 ?_; refine yy70 ?_; refine yy3 ?_; refine aw_condp rfl (fun hc => ?_) (fun hc => ?_); refine aw_exit ?_; refine k_seq_exit ?_; refine k_block_eq ?_; refine yy47 ?_; refine aw_region ?_; refine awl_s rfl (s_addn rfl rfl auto_len) ?_; refine awl_s rfl (s_move (v := .raw _) rfl) ?_; (with_reducible refine awl_nil ?_); refine k_seq_normal ?_; rotate_left; refine yy66 ?_; refine yy11 ?_; refine yy49 ?_; refine yy2 ?_; refine zg1 rfl rfl rfl (fun hc => ?_) (fun hc => ?_); refine yy19 ?_; refine yy27 ?_; refine yy48 ?_; refine aw_condp rfl (fun hc => ?_) (fun hc => ?_); refine aw_exit ?_; refine k_seq_exit ?_; refine k_block_ne rfl ?_; refine k_seq_exit ?_; refine k_seq_exit ?_; refine k_block_eq ?_; refine yy47 ?_; refine yy22 ?_; (refine zc auto_wl (spoil_calls _ _ _ _ auto_sd) ?_; rintro r H' ⟨rfl, rfl⟩); refine yy3 ?_; refine yy18 ?_; rotate_left; refine yy66 ?_; refine yy22 ?_; refine yy8 ?_; refine yy2 ?_; refine yy74 ?_; refine yy103 ?_; refine yy60 ?_; refine yy59 ?_; refine yy3 ?_; refine yy50 ?_; refine yy9 ?_; refine yy86 ?_; refine yy51 ?_; rotate_left; refine yy41 ?_; refine yy43 ?_; refine yy68 ?_; refine yy22 ?_; refine yy8 ?_; refine yy2 ?_; refine yy74 ?_; refine yy103 ?_; refine yy60 ?_; refine yy59 ?_; refine yy3 ?_; refine yy50 ?_; refine yy9 ?_; refine yy86 ?_; refine yy51 ?_; rotate_left; refine yy109 ?_; refine yy22 ?_; (refine zc auto_wl (spoil_calls _ _ _ _ auto_sd) ?_; rintro r H' ⟨rfl, rfl⟩); refine yy3 ?_; refine yy18 ?_; rotate_left) | fail)
    all_goals first
      | (have hn : rdU (10 - i) i u b = none := by first | exact rdU_end (by omega) | exact rdU_f1 (by omega) (by assumption) | exact rdU_f2 (by omega) (by assumption) (by assumption) | exact rdU_f3 (by omega) (by assumption) (by assumption) (by assumption)
         rw [hn] at he
         exact ⟨.inl rfl, _, _, _, Ent.refl _ _, ret1 rfl rfl, by rw [rd_none he.symm]; rfl, by rw [rd_none he.symm, Bool.or_true]⟩)
      | (have hn := rdU_s (i := i) (u := u) (b := b) (by omega) (by omega) (by omega) (by assumption) (by omega)
         rw [hn] at he
         exact ⟨.inl rfl, _, _, _, Ent.refl _ _, ret1 rfl rfl, by rw [rd_some he.symm]; rfl, by rw [rd_some he.symm, Bool.or_false]; rfl⟩)
      | (have hn := rdU_c (i := i) (u := u) (b := b) (by omega) (by omega) (by omega) (by assumption)
         rw [hn] at he
         exact ⟨10 - (i + 1), _, _, by omega, auto_ent, i + 1, _, rfl, rfl, rfl, by omega, or_lt 64 hu (Nat.mod_lt _ (by decide)), he⟩)

end Go.Proofs.Ytbciofnejefkiaa

namespace Go.Proofs.Ytbciofnejefkiaa
open Go Go.Am Go.Proofs
set_option linter.unusedSimpArgs false
set_option linter.unusedVariables false
set_option maxRecDepth 20000
set_option maxHeartbeats 4000000

theorem rdU_lt : ∀ f i u b r n, u < 2 ^ 64 → rdU f i u b = some (r, n) → r < 2 ^ 64
  | 0, i, u, b, r, n, hu, h => by simp [rdU] at h
  | f + 1, i, u, b, r, n, hu, h => by
    have hu' := or_lt (b := (((b.getD i 0).toNat &&& 127) % 2 ^ 64 * 2 ^ (7 * i) % 2 ^ 64)) 64 hu (Nat.mod_lt _ (by decide))
    simp only [rdU] at h
    split at h
    · cases h
    · split at h
      · cases h
      · split at h
        · exact rdU_lt f _ _ _ _ _ hu' h
        · split at h
          · cases h
          · simp only [Option.some.injEq, Prod.mk.injEq] at h
            rw [← h.1]; exact hu'
theorem rd_lt (b : List UInt8) : (rd b).1 < 2 ^ 64 := by
  cases h : rdU 10 0 0 b with
  | none => rw [rd_none h]; decide
  | some p => obtain ⟨u, n⟩ := p; rw [rd_some h]; exact rdU_lt _ _ _ _ _ _ (by decide) h
theorem rd_len (b : List UInt8) : (rd b).2.1.length ≤ b.length := by
  cases h : rdU 10 0 0 b with
  | none => rw [rd_none h]; simp
  | some p => obtain ⟨u, n⟩ := p; rw [rd_some h]; simp

def unzig (u : Nat) : Int := bits .xor .i64 ((u / 2 ^ 1 : Nat) : Int) (-((u &&& 1 : Nat) : Int))

theorem RI_calls (H : AHeap) (o : Nat) (b : List UInt8) (bad : Bool) (h : H o = some (.cel [.bys b, .raw (.bool bad)])) (hb : b.length ≤ 4000000000) :
    ACalls Try.prog 82 [.ptr o 0] H fun r H' => r = .raw (.int .i64 (unzig (rd b).1)) ∧ H' = H.set o (.cel [.bys (rd b).2.1, .raw (.bool (bad || (rd b).2.2))]) := by
  have hu := rd_lt b
  have h1 : (rd b).1 &&& 1 ≤ 1 := Nat.and_le_right
  refine acalls_of_aw1 Try.func82 rfl (by decide) ?_
  (first | focus (refine yy46 ?_; refine yy17 ?_; (refine zc auto_wl (RU_calls _ _ _ _ auto_sd auto_sd) ?_; rintro r H' ⟨rfl, rfl⟩); refine yy24 ?_; refine yy2 ?_; refine awl_s rfl (s_shrn rfl rfl (by first | decide | (show _ ≤ 64; omega) | (show _ ≤ 32; omega) | (show _ ≤ 8; omega))) ?_; refine awl_s rfl (s_convi rfl (by omega) (by omega)) ?_; refine yy2 ?_; refine yy102 ?_; refine awl_s rfl (s_convi rfl (by omega) (by omega)) ?_; refine awl_s rfl (s_neg64 rfl (by omega) (by omega)) ?_; refine awl_s rfl (s_xor rfl rfl) ?_; refine yy9 ?_; rotate_left) | fail)
  exact ⟨.inl rfl, _, _, _, Ent.refl _ _, ret1 rfl rfl, rfl, rfl⟩

def rs (b : List UInt8) : List UInt8 × List UInt8 × Bool :=
  if (rd b).2.1.length < (rd b).1 then ([], [], true) else (((rd b).2.1.drop 0).take ((rd b).1 - 0), ((rd b).2.1.drop (rd b).1).take ((rd b).2.1.length - (rd b).1), (rd b).2.2)

theorem rs_len (b : List UInt8) : (rs b).2.1.length ≤ b.length := by
  have := rd_len b
  unfold rs
  split <;> simp
  omega

theorem RS_calls (H : AHeap) (o : Nat) (b : List UInt8) (bad : Bool) (h : H o = some (.cel [.bys b, .raw (.bool bad)])) (hb : b.length ≤ 4000000000) :
    ACalls Try.prog 59 [.ptr o 0] H fun r H' => r = .str (rs b).1 ∧ H' = H.set o (.cel [.bys (rs b).2.1, .raw (.bool (bad || (rs b).2.2))]) := by
  have hu := rd_lt b
  have hl := rd_len b
  refine acalls_of_aw1 Try.func59 rfl (by decide) ?_
  (first | focus (refine yy4 ?_; refine awl_s rfl (s_assign (v := .str _) rfl) ?_; refine yy3 ?_; refine yy22 ?_; (refine zc auto_wl (RU_calls _ _ _ _ auto_sd auto_sd) ?_; rintro r H' ⟨rfl, rfl⟩); refine yy6 ?_; refine yy11 ?_; refine yy8 ?_; refine yy96 ?_; refine awl_s rfl (s_convn rfl (by omega)) ?_; refine yy27 ?_; refine yy3 ?_; refine aw_condp rfl (fun hc => ?_) (fun hc => ?_); refine yy22 ?_; (refine zc auto_wl (spoil_calls _ _ _ _ auto_sd) ?_; rintro r H' ⟨rfl, rfl⟩); refine yy71 ?_; refine awl_s rfl (s_assign (v := .str _) rfl) ?_; refine yy25 ?_; refine yy21 ?_; rotate_left; refine yy66 ?_; refine yy4 ?_; refine yy8 ?_; refine yy2 ?_; refine yy103 ?_; refine awl_s rfl (s_bytes_str rfl auto_src auto_sl) ?_; refine awl_s rfl (s_assign (v := .str _) rfl) ?_; refine yy3 ?_; refine yy22 ?_; refine yy8 ?_; refine yy2 ?_; refine yy103 ?_; refine yy60 ?_; refine yy67 ?_; refine yy71 ?_; refine awl_s rfl (s_move (v := .str _) rfl) ?_; refine awl_s rfl (s_assign (v := .str _) rfl) ?_; refine yy25 ?_; rotate_left) | fail)
  · have e1 : rs b = ([], [], true) := by rw [rs, if_pos hc]
    exact ⟨.inl rfl, _, _, _, Ent.refl _ _, ret1 rfl rfl, by rw [e1]; try rfl, by ((try rw [AHeap.set_set]); rw [e1, Bool.or_true]; try rfl)⟩
  · have e1 : rs b = (((rd b).2.1.drop 0).take ((rd b).1 - 0), ((rd b).2.1.drop (rd b).1).take ((rd b).2.1.length - (rd b).1), (rd b).2.2) := by rw [rs, if_neg hc]
    exact ⟨.inl rfl, _, _, _, Ent.refl _ _, ret1 rfl rfl, by rw [e1]; try rfl, by (try rw [AHeap.set_set]); rw [e1]; try rfl⟩

theorem kret_drop {P : Program} {fn : Func} {Kc : AV → AHeap → Prop} {e : Exit} {R : Regs} {H H0 : AHeap} {o : Nat} {x : AO} {r : AV} (he : e = .ret ∨ e = .normal) (hh : H = H0.set o x) (ho : H0 o = none)
    (hr : Ret P fn R H0 r) (hk : Kc r H0) : kret P fn Kc e R H := by subst hh; exact ⟨he, _, _, _, Ent.drop_set _ ho _, hr, hk⟩

end Go.Proofs.Ytbciofnejefkiaa

namespace Go.Proofs.Ytbciofnejefkiaa
open Go Go.Am Go.Proofs
set_option linter.unusedSimpArgs false

/-! What is written is read back. -/

theorem and128_lt {x : Nat} (h : x < 128) : x &&& 128 = 0 := by
  have : ∀ v, v < 128 → v &&& 128 = 0 := by decide +kernel
  exact this x h
theorem and128_ge {x : Nat} (h : 128 ≤ x) (h2 : x < 256) : x &&& 128 = 128 := by
  have : ∀ v, v < 256 → 128 ≤ v → v &&& 128 = 128 := by decide +kernel
  exact this x h2 h
theorem and127 (x : Nat) : x &&& 127 = x % 128 := Nat.and_two_pow_sub_one_eq_mod x 7

theorem or_shift {a x k : Nat} (h : a < 2 ^ k) : a ||| x * 2 ^ k = a + x * 2 ^ k := by
  have := Nat.shiftLeft_add_eq_or_of_lt h x
  rw [Nat.shiftLeft_eq] at this
  rw [Nat.or_comm, ← this, Nat.add_comm]

theorem byte_mod {x : Nat} (h : x < 256) : (UInt8.ofNat x).toNat = x := by simp; omega

theorem getD_at (p : List UInt8) (x : UInt8) (l : List UInt8) : (p ++ x :: l).getD p.length 0 = x := by simp [List.getD]

theorem pow_mul7 {i : Nat} (h : i ≤ 8) : 2 ^ (64 - 7 * i) = 2 ^ (64 - 7 * (i + 1)) * 128 := by
  rw [show 64 - 7 * i = (64 - 7 * (i + 1)) + 7 by omega, Nat.pow_add]
theorem pow_join {i : Nat} (h : i ≤ 9) : 2 ^ (64 - 7 * i) * 2 ^ (7 * i) = 2 ^ 64 := by
  rw [← Nat.pow_add, show 64 - 7 * i + 7 * i = 64 by omega]

theorem rdU_enc : ∀ (k i : Nat), k = 9 - i → i ≤ 9 → ∀ (v acc : Nat) (p t : List UInt8), v < 2 ^ (64 - 7 * i) → acc < 2 ^ (7 * i) → (i = 0 ∨ 0 < v) → p.length = i →
    rdU (10 - i) i acc (p ++ (encU (9 - i) v ++ t)) = some (acc + v * 2 ^ (7 * i), i + (encU (9 - i) v).length) := by
  intro k
  induction k with
  | zero =>
    intro i hk hi v acc p t hv ha h0 hp
    have hi9 : i = 9 := by omega
    subst hi9
    have hv2 : v < 2 := by simpa using hv
    have hb : ((p ++ (encU (9 - 9) v ++ t)).getD 9 0).toNat = v := by
      rw [← hp, Nat.sub_self]
      simp only [encU, List.singleton_append, getD_at]
      exact byte_mod (by omega)
    have hl : ¬ (p ++ (encU (9 - 9) v ++ t)).length ≤ 9 := by simp [encU]; omega
    rw [rdU_s (by omega) hl (by rw [hb]; omega) (by rw [hb, and128_lt (by omega)]; simp) (by rw [hb]; omega), hb, and127, Nat.mod_eq_of_lt (show v < 128 by omega)]
    have h64 : v * 2 ^ (7 * 9) < 2 ^ 64 := by omega
    rw [Nat.mod_eq_of_lt (show v < 2 ^ 64 by omega), Nat.mod_eq_of_lt h64, or_shift ha]
    simp [encU]
  | succ k ih =>
    intro i hk hi v acc p t hv ha h0 hp
    have hi8 : i ≤ 8 := by omega
    have hf : 9 - i = (9 - (i + 1)) + 1 := by omega
    by_cases hlt : v < 128
    · have hb : ((p ++ (encU (9 - i) v ++ t)).getD i 0).toNat = v := by
        rw [encU_lt hlt]
        simp only [List.singleton_append]
        rw [← hp, getD_at]
        exact byte_mod (by omega)
      have hl : ¬ (p ++ (encU (9 - i) v ++ t)).length ≤ i := by rw [encU_lt hlt]; simp; omega
      rw [rdU_s (by omega) hl (by omega) (by rw [hb, and128_lt (by omega)]; simp) (by rw [hb]; omega), hb, and127, Nat.mod_eq_of_lt hlt]
      have h64 : v * 2 ^ (7 * i) < 2 ^ 64 := by
        rw [← pow_join hi]
        exact Nat.mul_lt_mul_of_pos_right hv (Nat.two_pow_pos _)
      have hv64 : v < 2 ^ 64 := Nat.lt_of_lt_of_le hv (Nat.pow_le_pow_right (by decide) (by omega))
      rw [Nat.mod_eq_of_lt hv64, Nat.mod_eq_of_lt h64, or_shift ha, encU_lt hlt]
      rfl
    · have he : encU (9 - i) v = UInt8.ofNat (v % 128 + 128) :: encU (9 - (i + 1)) (v / 128) := by rw [hf, encU_ge (by omega)]
      have hb : ((p ++ (encU (9 - i) v ++ t)).getD i 0).toNat = v % 128 + 128 := by
        rw [he]
        simp only [List.cons_append]
        rw [← hp, getD_at]
        exact byte_mod (by omega)
      have hl : ¬ (p ++ (encU (9 - i) v ++ t)).length ≤ i := by rw [he]; simp; omega
      have hm : (v % 128 + 128) % 128 = v % 128 := by omega
      rw [rdU_c (by omega) hl (by omega) (by rw [hb, and128_ge (by omega) (by omega)]; simp), hb, and127, hm]
      have h7 : 2 ^ (7 * (i + 1)) = 128 * 2 ^ (7 * i) := by rw [show 7 * (i + 1) = 7 + 7 * i by omega, Nat.pow_add]
      have hvm : v % 128 < 128 := Nat.mod_lt _ (by decide)
      have hsm : v % 128 * 2 ^ (7 * i) + acc < 2 ^ (7 * (i + 1)) := by
        have : v % 128 * 2 ^ (7 * i) ≤ 127 * 2 ^ (7 * i) := Nat.mul_le_mul_right _ (by omega)
        rw [h7]; omega
      have hle64 : 2 ^ (7 * (i + 1)) ≤ 2 ^ 64 := Nat.pow_le_pow_right (by decide) (by omega)
      rw [Nat.mod_eq_of_lt (show v % 128 < 2 ^ 64 by omega), Nat.mod_eq_of_lt (show v % 128 * 2 ^ (7 * i) < 2 ^ 64 by omega), or_shift ha]
      have hp' : (p ++ [UInt8.ofNat (v % 128 + 128)]).length = i + 1 := by simp [hp]
      have hlist : p ++ (encU (9 - i) v ++ t) = (p ++ [UInt8.ofNat (v % 128 + 128)]) ++ (encU (9 - (i + 1)) (v / 128) ++ t) := by rw [he]; simp
      rw [hlist, ih (i + 1) (by omega) (by omega) (v / 128) _ _ t (by rw [pow_mul7 hi8] at hv; omega) (by omega) (.inr (by omega)) hp']
      rw [he]
      simp only [List.length_cons, Option.some.injEq, Prod.mk.injEq]
      refine ⟨?_, by omega⟩
      rw [h7, ← Nat.mul_assoc, Nat.add_assoc, ← Nat.add_mul, Nat.mul_comm (v / 128) 128, Nat.mod_add_div]

theorem encU_more : ∀ (f v : Nat), v < 2 ^ (7 * (f + 1)) → encU (f + 1) v = encU f v
  | 0, v, h => by have : v < 128 := by simpa using h
                  rw [encU_lt this, encU_lt this]
  | f + 1, v, h => by
    by_cases hlt : v < 128
    · rw [encU_lt hlt, encU_lt hlt]
    · rw [encU_ge (f := f + 1) (u := v) (by omega), encU_ge (f := f) (u := v) (by omega), encU_more f (v / 128) (by
        have : 2 ^ (7 * (f + 1 + 1)) = 2 ^ (7 * (f + 1)) * 128 := by rw [show 7 * (f + 1 + 1) = 7 * (f + 1) + 7 by omega, Nat.pow_add]
        omega)]

theorem encU10 {u : Nat} (h : u < 2 ^ 64) : encU 10 u = encU 9 u := encU_more 9 u (by omega)

theorem rd_enc {u : Nat} (h : u < 2 ^ 64) (t : List UInt8) : rd (encU 10 u ++ t) = (u, t, false) := by
  have := rdU_enc 9 0 rfl (by omega) u 0 [] t (by simpa using h) (by simp) (.inl rfl) rfl
  simp only [List.nil_append, Nat.sub_zero, Nat.mul_zero, Nat.pow_zero, Nat.mul_one, Nat.zero_add] at this
  rw [encU10 h, rd_some this]
  simp
/-! Numbers below 0. -/
theorem xor_ones {x : Nat} (h : x < 2 ^ 64) : x ^^^ (2 ^ 64 - 1) = 2 ^ 64 - 1 - x := by
  have := congrArg BitVec.toNat (BitVec.xor_allOnes (x := BitVec.ofNat 64 x))
  rw [BitVec.toNat_xor, BitVec.toNat_not, BitVec.toNat_allOnes, BitVec.toNat_ofNat, Nat.mod_eq_of_lt h] at this
  exact this
theorem zig_pos {v : Int} (h0 : 0 ≤ v) (h : v ≤ 9223372036854775807) : zig v = 2 * v.toNat := by
  have h1 : v / 2 ^ Int.toNat 63 = 0 := Int.ediv_eq_zero_of_lt h0 (by show v < 9223372036854775808; omega)
  rw [zig, h1]
  have h2 : u64 0 = 0 := by decide
  have h3 : u64 v = v.toNat := by unfold u64; omega
  rw [h2, h3, Nat.xor_zero]
  omega
theorem zig_neg {v : Int} (h0 : v < 0) (h : -9223372036854775808 ≤ v) : zig v = 2 * (-v - 1).toNat + 1 := by
  have h1 : v / 2 ^ Int.toNat 63 = -1 := by
    show v / 9223372036854775808 = -1
    omega
  rw [zig, h1]
  have h2 : u64 (-1) = 2 ^ 64 - 1 := by decide
  have h3 : u64 v = (v + 18446744073709551616).toNat := by unfold u64; omega
  rw [h2, h3, xor_ones (Nat.mod_lt _ (by decide))]
  omega

theorem bits_xor_zero {x : Int} (h : -9223372036854775808 ≤ x) (h2 : x ≤ 9223372036854775807) : bits .xor .i64 x 0 = x := by
  show IntKind.i64.wrap ((BitVec.ofInt 64 x ^^^ BitVec.ofInt 64 0).toNat : Int) = x
  have : BitVec.ofInt 64 0 = 0#64 := rfl
  rw [this, BitVec.xor_zero, BitVec.toNat_ofInt, IntKind.wrap_i64]
  omega
theorem bits_xor_ones {x : Int} (h : 0 ≤ x) (h2 : x ≤ 9223372036854775807) : bits .xor .i64 x (-1) = -x - 1 := by
  show IntKind.i64.wrap ((BitVec.ofInt 64 x ^^^ BitVec.ofInt 64 (-1)).toNat : Int) = _
  have : BitVec.ofInt 64 (-1) = BitVec.allOnes 64 := rfl
  rw [this, BitVec.xor_allOnes, BitVec.toNat_not, BitVec.toNat_ofInt, IntKind.wrap_i64]
  omega

theorem unzig_even (n : Nat) (h : n < 2 ^ 63) : unzig (2 * n) = n := by
  unfold unzig
  have h1 : 2 * n &&& 1 = 0 := by rw [Nat.and_one_is_mod]; omega
  have h2 : (2 * n / 2 ^ 1 : Nat) = n := by omega
  rw [h1, h2]
  have h3 : -((0 : Nat) : Int) = 0 := rfl
  rw [h3, bits_xor_zero (by omega) (by omega)]
theorem unzig_odd (n : Nat) (h : n < 2 ^ 63) : unzig (2 * n + 1) = -(n : Int) - 1 := by
  unfold unzig
  have h1 : 2 * n + 1 &&& 1 = 1 := by rw [Nat.and_one_is_mod]; omega
  have h2 : ((2 * n + 1) / 2 ^ 1 : Nat) = n := by omega
  rw [h1, h2]
  have h3 : -((1 : Nat) : Int) = -1 := rfl
  rw [h3, bits_xor_ones (by omega) (by omega)]

theorem unzig_zig {v : Int} (h1 : -9223372036854775808 ≤ v) (h2 : v ≤ 9223372036854775807) : unzig (zig v) = v := by
  by_cases h : 0 ≤ v
  · rw [zig_pos h h2, unzig_even _ (by omega)]; omega
  · rw [zig_neg (by omega) h1, unzig_odd _ (by omega)]; omega

theorem rd_zig (v : Int) (t : List UInt8) : rd (encU 10 (zig v) ++ t) = (zig v, t, false) := rd_enc (zig_lt v) t

/-! Texts. -/
theorem rs_enc {s : List UInt8} (h : s.length < 2 ^ 64) (t : List UInt8) : rs (encU 10 s.length ++ s ++ t) = (s, t, false) := by
  unfold rs
  rw [List.append_assoc, rd_enc h]
  simp
theorem encU_pos (f u : Nat) : 0 < (encU f u).length := by
  cases f <;> simp [encU]
  split <;> simp

end Go.Proofs.Ytbciofnejefkiaa

namespace Go.Proofs.Ytbciofnejefkiaa
open Go Go.Am Go.Proofs
set_option linter.unusedSimpArgs false
set_option linter.unusedVariables false
set_option maxRecDepth 20000
set_option maxHeartbeats 4000000

end Go.Proofs.Ytbciofnejefkiaa

namespace Go.Proofs.Ytbciofnejefkiaa
open Go Go.Am Go.Proofs
set_option linter.unusedSimpArgs false
set_option linter.unusedVariables false
set_option maxRecDepth 20000
set_option maxHeartbeats 4000000

/-- So many bytes of a number, the lowest first. -/
def le : Nat → Nat → List UInt8
  | 0, _ => []
  | k + 1, u => UInt8.ofNat (u % 2 ^ 8) :: le k (u / 2 ^ 8)
theorem le_len : ∀ k u, (le k u).length = k
  | 0, _ => rfl
  | k + 1, u => by simp [le, le_len k]

/-- Bytes as a number, the lowest first. -/
def num : List UInt8 → Nat
  | [] => 0
  | x :: l => (num l * 2 ^ 8 % 2 ^ 64) ||| x.toNat
theorem num_lt : ∀ b, num b < 2 ^ 64
  | [] => by decide
  | x :: l => by
    have := UInt8.toNat_lt x
    exact or_lt 64 (Nat.mod_lt _ (by decide)) (by omega)

def crcBit (s : Nat) : Nat := (s / 2 ^ 1) ^^^ (3988292384 &&& ((2 ^ 32 - (s &&& 1) % 2 ^ 32) % 2 ^ 32))
def crcBits : Nat → Nat → Nat
  | 0, s => s
  | k + 1, s => crcBits k (crcBit s)
def crcL (s : Nat) (b : List UInt8) : Nat := b.foldl (fun s x => crcBits 8 (s ^^^ x.toNat)) s
def crc (b : List UInt8) : Nat := 2 ^ 32 - 1 - crcL 4294967295 b

theorem crcBit_lt {s : Nat} (h : s < 2 ^ 32) : crcBit s < 2 ^ 32 := Nat.xor_lt_two_pow (by omega) (Nat.and_lt_two_pow _ (Nat.mod_lt _ (by decide)))
theorem crc_lt (b : List UInt8) : crc b < 2 ^ 32 := by unfold crc; omega

theorem put_own (H H0 : AHeap) (o : Nat) (b : List UInt8) (u k m : Nat) (hb : b.length ≤ 4000000000) (hu : u < 2 ^ 64) (hk : k ≤ 8) (ho : H0 o = none) (hH : H = H0.set o (.byt b)) (hm : m = b.length) :
    ACalls Try.prog 95 [.vw o 1 0 m, .raw (.int .u64 (u : Int)), .raw (.int .i64 (k : Int))] H fun r H' => ∃ o, H0 o = none ∧ r = .vw o 1 0 (b ++ le k u).length ∧ H' = H0.set o (.byt (b ++ le k u)) := by
  subst hH hm
  refine acalls_of_aw3 Try.func95 rfl (by decide) ?_
  (first | focus (refine yy4 ?_; refine yy6 ?_; refine yy11 ?_; refine yy56 ?_; rotate_left) | fail)
  refine aw_loop (fun m R' H1 => ∃ o bs i v, H0 o = none ∧ H1 = H0.set o (.byt bs) ∧ R' = [(0, .vw o 1 0 bs.length), (1, .raw (.int .u64 ((v : Nat) : Int))), (7, .raw (.int .i64 (k : Int))), (8, .raw (.int .i64 ((i : Nat) : Int)))] ∧ i + m = k ∧ v < 2 ^ 64 ∧ bs ++ le m v = b ++ le k u ∧ bs.length = b.length + i) ?_ ?_
  · exact ⟨k, _, _, auto_ent, o, b, 0, u, ho, rfl, rfl, by omega, hu, rfl, rfl⟩
  · rintro m R0 H1 ⟨o, bs, i, v, ho, rfl, rfl, hi, hv, he, hl⟩
    (first | focus (refine yy10 ?_; refine aw_condp rfl (fun hc => ?_) (fun hc => ?_); refine yy26 ?_; refine yy52 ?_; refine yy2 ?_; refine awl_s rfl (s_convm rfl) ?_; refine awl_s rfl (s_byte1 rfl auto_lt) ?_; refine za1 rfl rfl rfl (by assumption) auto_rl auto_src auto_len auto_len (fun oN hoN => ?_); refine yy65 ?_; refine yy3 ?_; refine aw_region ?_; refine yy2 ?_; refine awl_s rfl (s_shrn rfl rfl (by first | decide | (show _ ≤ 64; omega) | (show _ ≤ 32; omega) | (show _ ≤ 8; omega))) ?_; refine yy30 ?_; refine yy7 ?_; refine yy23 ?_; rotate_left; refine yy109 ?_; refine yy4 ?_; refine yy52 ?_; refine yy65 ?_; refine yy25 ?_; rotate_left) | fail)
    · cases m with
      | zero => omega
      | succ m => exact ⟨m, _, _, by omega, auto_ent, oN, bs ++ [UInt8.ofNat (v % 2 ^ 8)], i + 1, v / 2 ^ 8, by assumption, rfl, rfl, by omega, by omega, by rw [← he, List.append_assoc]; rfl, by simp only [List.length_append, List.length_cons, List.length_nil]; omega⟩
    · obtain rfl : m = 0 := by omega
      simp only [le, List.append_nil] at he
      exact ⟨.inl rfl, _, _, _, Ent.refl _ _, ret1 rfl rfl, o, by assumption, by rw [← he]; rfl, by rw [← he]⟩

theorem put_lit (H : AHeap) (b : List UInt8) (u k : Nat) (hb : b.length ≤ 4000000000) (hu : u < 2 ^ 64) (hk : k ≤ 8) (hk0 : 0 < k) :
    ACalls Try.prog 95 [.bysx b, .raw (.int .u64 (u : Int)), .raw (.int .i64 (k : Int))] H fun r H' => ∃ o, H o = none ∧ r = .vw o 1 0 (b ++ le k u).length ∧ H' = H.set o (.byt (b ++ le k u)) := by
  refine acalls_of_aw3 Try.func95 rfl (by decide) ?_
  (first | focus (refine yy4 ?_; refine yy6 ?_; refine yy11 ?_; refine yy56 ?_; rotate_left) | fail)
  refine aw_loop (fun m R' H1 => ∃ rb i v, R' = [(0, rb), (1, .raw (.int .u64 ((v : Nat) : Int))), (7, .raw (.int .i64 (k : Int))), (8, .raw (.int .i64 ((i : Nat) : Int)))] ∧ i + m = k ∧ v < 2 ^ 64 ∧
    ((rb = .bysx b ∧ H1 = H ∧ i = 0 ∧ v = u) ∨ (∃ o bs, H o = none ∧ H1 = H.set o (.byt bs) ∧ rb = .vw o 1 0 bs.length ∧ bs ++ le m v = b ++ le k u ∧ bs.length = b.length + i))) ?_ ?_
  · exact ⟨k, _, _, auto_ent, .bysx b, 0, u, rfl, by omega, hu, .inl ⟨rfl, rfl, rfl, rfl⟩⟩
  · rintro m R0 H1 ⟨rb, i, v, rfl, hi, hv, ⟨rfl, rfl, rfl, rfl⟩ | ⟨o, bs, ho, rfl, rfl, he, hl⟩⟩
    · (first | focus (refine yy10 ?_; refine aw_condp rfl (fun hc => ?_) (fun hc => ?_); refine yy26 ?_; refine awl_s rfl (s_move (v := .bysx _) rfl) ?_; refine yy2 ?_; refine awl_s rfl (s_convm rfl) ?_; refine awl_s rfl (s_byte1 rfl auto_lt) ?_; refine awl_own_bysx_byt rfl rfl rfl auto_src auto_len auto_len auto_len (fun oN hoN => ?_); refine yy65 ?_; refine yy3 ?_; refine aw_region ?_; refine yy2 ?_; refine awl_s rfl (s_shrn rfl rfl (by first | decide | (show _ ≤ 64; omega) | (show _ ≤ 32; omega) | (show _ ≤ 8; omega))) ?_; refine yy30 ?_; refine yy7 ?_; refine yy23 ?_; rotate_left; exact absurd hc auto_no) | fail)
      cases m with
      | zero => omega
      | succ m => exact ⟨m, _, _, by omega, auto_ent, _, 1, v / 2 ^ 8, rfl, by omega, by omega, .inr ⟨oN, b ++ [UInt8.ofNat (v % 2 ^ 8)], by assumption, rfl, rfl, by rw [show k = m + 1 by omega, List.append_assoc]; rfl, by simp⟩⟩
    · (first | focus (refine yy10 ?_; refine aw_condp rfl (fun hc => ?_) (fun hc => ?_); refine yy26 ?_; refine yy52 ?_; refine yy2 ?_; refine awl_s rfl (s_convm rfl) ?_; refine awl_s rfl (s_byte1 rfl auto_lt) ?_; refine za1 rfl rfl rfl (by assumption) auto_rl auto_src auto_len auto_len (fun oN hoN => ?_); refine yy65 ?_; refine yy3 ?_; refine aw_region ?_; refine yy2 ?_; refine awl_s rfl (s_shrn rfl rfl (by first | decide | (show _ ≤ 64; omega) | (show _ ≤ 32; omega) | (show _ ≤ 8; omega))) ?_; refine yy30 ?_; refine yy7 ?_; refine yy23 ?_; rotate_left; refine yy109 ?_; refine yy4 ?_; refine yy52 ?_; refine yy65 ?_; refine yy25 ?_; rotate_left) | fail)
      · cases m with
        | zero => omega
        | succ m => exact ⟨m, _, _, by omega, auto_ent, _, i + 1, v / 2 ^ 8, rfl, by omega, by omega, .inr ⟨oN, bs ++ [UInt8.ofNat (v % 2 ^ 8)], by assumption, rfl, rfl, by rw [← he, List.append_assoc]; rfl, by simp only [List.length_append, List.length_cons, List.length_nil]; omega⟩⟩
      · obtain rfl : m = 0 := by omega
        simp only [le, List.append_nil] at he
        exact ⟨.inl rfl, _, _, _, Ent.refl _ _, ret1 rfl rfl, o, by assumption, by rw [← he]; rfl, by rw [← he]⟩

theorem number_calls (H : AHeap) (b : List UInt8) (hb : b.length ≤ 4000000000) :
    ACalls Try.prog 93 [.bys b] H fun r H' => r = .raw (.int .u64 (num b : Int)) ∧ H' = H := by
  refine acalls_of_aw1 Try.func93 rfl (by decide) ?_
  (first | focus (refine yy46 ?_; refine yy6 ?_; refine yy12 ?_; refine yy29 ?_; refine yy96 ?_; refine awl_s rfl (s_sub64 rfl rfl (by omega) (by omega)) ?_; refine yy6 ?_; refine aw_block ?_; rotate_left) | fail)
  refine aw_loop (fun m R' H1 => ∃ v, H1 = H ∧ R' = [(0, .bys b), (3, .raw (.int .u64 ((v : Nat) : Int))), (4, .raw (.int .i64 ((m : Int) - 1)))] ∧ m ≤ b.length ∧ v = num (b.drop m)) ?_ ?_
  · exact ⟨b.length, _, _, auto_ent, 0, rfl, rfl, by omega, by rw [List.drop_length]; rfl⟩
  · rintro m R0 H1 ⟨v, rfl, rfl, hm, rfl⟩
    have hnl := num_lt (b.drop m)
    cases m with
    | zero =>
      (first | focus (refine yy11 ?_; refine awl_s rfl (s_geq rfl rfl) ?_; refine yy3 ?_; refine yy28 ?_; intro hc; refine yy50 ?_; refine yy9 ?_; rotate_left) | fail)
      exact ⟨.inl rfl, _, _, _, Ent.refl _ _, ret1 rfl rfl, rfl, rfl⟩
    | succ j =>
      rw [show (((j + 1 : Nat) : Int) - 1) = (j : Int) by omega]
      have hby := UInt8.toNat_lt (b.getD j 0)
      (first | focus (refine yy11 ?_; refine yy97 ?_; refine yy3 ?_; refine aw_condp rfl (fun hc => ?_) (fun hc => ?_); refine yy83 ?_; refine aw_block ?_; refine aw_region ?_; refine yy2 ?_; refine awl_s rfl (s_shln rfl rfl (by omega)) ?_; refine yy29 ?_; refine yy2 ?_; refine awl_s rfl (s_indexAddr_bys rfl rfl (by omega) rfl) ?_; refine awl_s rfl (s_load_pby rfl (by omega)) ?_; refine awl_s rfl (s_convn rfl (by omega)) ?_; refine awl_s rfl (s_orn rfl rfl auto_lt auto_lt) ?_; refine yy30 ?_; refine yy7 ?_; refine yy84 ?_; refine yy2 ?_; refine awl_s rfl (s_sub64 rfl rfl (by omega) (by omega)) ?_; refine yy6 ?_; rotate_left; exact absurd hc auto_no) | fail)
      refine ⟨j, _, _, by omega, auto_ent, _, rfl, rfl, by omega, ?_⟩
      rw [List.drop_eq_getElem_cons (show j < b.length by omega)]
      simp [num, List.getD, show j < b.length by omega]

theorem Crc_calls (H : AHeap) (b : List UInt8) (hb : b.length ≤ 4000000000) :
    ACalls Try.prog 107 [.bys b] H fun r H' => r = .raw (.int .u32 (crc b : Int)) ∧ H' = H := by
  refine acalls_of_aw1 Try.func107 rfl (by decide) ?_
  (first | focus (refine yy46 ?_; refine yy6 ?_; refine yy12 ?_; refine yy29 ?_; refine yy96 ?_; refine yy56 ?_; rotate_left) | fail)
  refine aw_loop (fun m R' H1 => ∃ i s, H1 = H ∧ R' = [(3, .raw (.int .u32 ((s : Nat) : Int))), (6, .bys b), (7, .raw (.int .i64 (b.length : Int))), (8, .raw (.int .i64 ((i : Nat) : Int)))] ∧ i + m = b.length ∧ s < 2 ^ 32 ∧ s = crcL 4294967295 (b.take i)) ?_ ?_
  · exact ⟨b.length, _, _, auto_ent, 0, 4294967295, rfl, rfl, by omega, by decide, rfl⟩
  · rintro m R0 H1 ⟨i, s, rfl, rfl, hi, hs, he⟩
    by_cases hlt : i < b.length
    · have hby := UInt8.toNat_lt (b.getD i 0)
      have hx : s ^^^ (b.getD i 0).toNat < 2 ^ 32 := Nat.xor_lt_two_pow hs (by omega)
      (first | focus (refine yy10 ?_; refine aw_condp rfl (fun hc => ?_) (fun hc => ?_); refine yy26 ?_; refine awl_s rfl (s_indexAddr_bys rfl rfl (by omega) rfl) ?_; refine awl_s rfl (s_load_pby rfl (by omega)) ?_; refine yy24 ?_; refine yy2 ?_; refine yy2 ?_; refine awl_s rfl (s_convn rfl (by omega)) ?_; refine awl_s rfl (s_xorn rfl rfl auto_lt auto_lt) ?_; refine yy24 ?_; refine yy56 ?_; rotate_left; exact absurd hc auto_no) | fail)
      refine aw_loop (fun m' R' H2 => ∃ q s', H2 = H1 ∧ R' = [(3, .raw (.int .u32 ((s' : Nat) : Int))), (6, .bys b), (7, .raw (.int .i64 (b.length : Int))), (8, .raw (.int .i64 ((i : Nat) : Int))), (16, .raw (.int .i64 ((q : Nat) : Int)))] ∧ q + m' = 8 ∧ s' < 2 ^ 32 ∧ crcBits m' s' = crcBits 8 (s ^^^ (b.getD i 0).toNat)) ?_ ?_
      · exact ⟨8, _, _, auto_ent, 0, _, rfl, rfl, by omega, hx, rfl⟩
      rintro m' R1 H2 ⟨q, s', rfl, rfl, hq, hs', hx'⟩
      have ha : s' &&& 1 ≤ 1 := Nat.and_le_right
      have hp : 3988292384 &&& ((2 ^ 32 - (s' &&& 1) % 2 ^ 32) % 2 ^ 32) < 2 ^ 32 := Nat.and_lt_two_pow _ (Nat.mod_lt _ (by decide))
      (first | focus (refine yy10 ?_; refine aw_condp rfl (fun hc => ?_) (fun hc => ?_); refine yy83 ?_; refine aw_block ?_; refine aw_region ?_; refine yy2 ?_; refine awl_s rfl (s_shrn rfl rfl (by first | decide | (show _ ≤ 64; omega) | (show _ ≤ 32; omega) | (show _ ≤ 8; omega))) ?_; refine yy2 ?_; refine yy102 ?_; refine awl_s rfl (s_negm rfl) ?_; refine yy102 ?_; refine awl_s rfl (s_xorn rfl rfl auto_lt auto_lt) ?_; refine yy30 ?_; refine yy7 ?_; refine yy23 ?_; rotate_left; refine yy105 ?_; refine yy23 ?_; rotate_left) | fail)
      · cases m' with
        | zero => omega
        | succ m' => exact ⟨m', _, _, by omega, auto_ent, q + 1, crcBit s', rfl, rfl, by omega, crcBit_lt hs', hx'⟩
      · obtain rfl : m' = 0 := by omega
        refine ⟨m - 1, _, _, by omega, auto_ent, i + 1, s', rfl, rfl, by omega, hs', ?_⟩
        have hg : b[i]? = some b[i] := List.getElem?_eq_getElem hlt
        rw [List.take_add_one, hg, crcL, List.foldl_append]
        simp only [Option.toList, List.foldl_cons, List.foldl_nil]
        rw [show List.foldl (fun s x => crcBits 8 (s ^^^ x.toNat)) 4294967295 (b.take i) = s from he.symm]
        simp only [crcBits] at hx'
        rw [hx']
        simp [List.getD, hg]
        rfl
    · obtain rfl : i = b.length := by omega
      rw [List.take_length] at he
      (first | focus (refine yy10 ?_; refine yy28 ?_; intro hc; refine yy50 ?_; refine awl_s rfl (s_complm rfl auto_lt) ?_; refine yy9 ?_; rotate_left) | fail)
      exact ⟨.inl rfl, _, _, _, Ent.refl _ _, ret1 rfl rfl, by show AV.raw _ = AV.raw _; rw [crc, ← he], rfl⟩
theorem Crc_vw (H : AHeap) (o m0 : Nat) (b : List UInt8) (ho : H o = some (.byt b)) (hm0 : m0 = b.length) (hb : b.length ≤ 4000000000) :
    ACalls Try.prog 107 [.vw o 1 0 m0] H fun r H' => r = .raw (.int .u32 (crc b : Int)) ∧ H' = H := by
  subst hm0
  refine acalls_of_aw1 Try.func107 rfl (by decide) ?_
  (first | focus (refine yy46 ?_; refine yy6 ?_; refine yy12 ?_; refine yy52 ?_; refine yy87 ?_; refine yy56 ?_; rotate_left) | fail)
  refine aw_loop (fun m R' H1 => ∃ i s, H1 = H ∧ R' = [(3, .raw (.int .u32 ((s : Nat) : Int))), (6, .vw o 1 0 b.length), (7, .raw (.int .i64 (b.length : Int))), (8, .raw (.int .i64 ((i : Nat) : Int)))] ∧ i + m = b.length ∧ s < 2 ^ 32 ∧ s = crcL 4294967295 (b.take i)) ?_ ?_
  · exact ⟨b.length, _, _, auto_ent, 0, 4294967295, rfl, rfl, by omega, by decide, rfl⟩
  · rintro m R0 H1 ⟨i, s, rfl, rfl, hi, hs, he⟩
    by_cases hlt : i < b.length
    · have hby := UInt8.toNat_lt (b.getD i 0)
      have hx : s ^^^ (b.getD i 0).toNat < 2 ^ 32 := Nat.xor_lt_two_pow hs (by omega)
      (first | focus (refine yy10 ?_; refine aw_condp rfl (fun hc => ?_) (fun hc => ?_); refine yy26 ?_; refine yy95 ?_; refine awl_s rfl (s_load_byt rfl auto_heap auto_len) ?_; refine yy24 ?_; refine yy2 ?_; refine yy2 ?_; refine awl_s rfl (s_convm rfl) ?_; refine awl_s rfl (s_xorn rfl rfl auto_lt auto_lt) ?_; refine yy24 ?_; refine yy56 ?_; rotate_left; exact absurd hc auto_no) | fail)
      refine aw_loop (fun m' R' H2 => ∃ q s', H2 = H1 ∧ R' = [(3, .raw (.int .u32 ((s' : Nat) : Int))), (6, .vw o 1 0 b.length), (7, .raw (.int .i64 (b.length : Int))), (8, .raw (.int .i64 ((i : Nat) : Int))), (16, .raw (.int .i64 ((q : Nat) : Int)))] ∧ q + m' = 8 ∧ s' < 2 ^ 32 ∧ crcBits m' s' = crcBits 8 (s ^^^ (b.getD i 0).toNat)) ?_ ?_
      · exact ⟨8, _, _, auto_ent, 0, _, rfl, rfl, by omega, hx, rfl⟩
      rintro m' R1 H2 ⟨q, s', rfl, rfl, hq, hs', hx'⟩
      have ha : s' &&& 1 ≤ 1 := Nat.and_le_right
      have hp : 3988292384 &&& ((2 ^ 32 - (s' &&& 1) % 2 ^ 32) % 2 ^ 32) < 2 ^ 32 := Nat.and_lt_two_pow _ (Nat.mod_lt _ (by decide))
      (first | focus (refine yy10 ?_; refine aw_condp rfl (fun hc => ?_) (fun hc => ?_); refine yy83 ?_; refine aw_block ?_; refine aw_region ?_; refine yy2 ?_; refine awl_s rfl (s_shrn rfl rfl (by first | decide | (show _ ≤ 64; omega) | (show _ ≤ 32; omega) | (show _ ≤ 8; omega))) ?_; refine yy2 ?_; refine yy102 ?_; refine awl_s rfl (s_negm rfl) ?_; refine yy102 ?_; refine awl_s rfl (s_xorn rfl rfl auto_lt auto_lt) ?_; refine yy30 ?_; refine yy7 ?_; refine yy23 ?_; rotate_left; refine yy105 ?_; refine yy23 ?_; rotate_left) | fail)
      · cases m' with
        | zero => omega
        | succ m' => exact ⟨m', _, _, by omega, auto_ent, q + 1, crcBit s', rfl, rfl, by omega, crcBit_lt hs', hx'⟩
      · obtain rfl : m' = 0 := by omega
        refine ⟨m - 1, _, _, by omega, auto_ent, i + 1, s', rfl, rfl, by omega, hs', ?_⟩
        have hg : b[i]? = some b[i] := List.getElem?_eq_getElem hlt
        rw [List.take_add_one, hg, crcL, List.foldl_append]
        simp only [Option.toList, List.foldl_cons, List.foldl_nil]
        rw [show List.foldl (fun s x => crcBits 8 (s ^^^ x.toNat)) 4294967295 (b.take i) = s from he.symm]
        simp only [crcBits] at hx'
        rw [hx']
        simp [List.getD, hg]
        rfl
    · obtain rfl : i = b.length := by omega
      rw [List.take_length] at he
      (first | focus (refine yy10 ?_; refine yy28 ?_; intro hc; refine yy50 ?_; refine awl_s rfl (s_complm rfl auto_lt) ?_; refine yy9 ?_; rotate_left) | fail)
      exact ⟨.inl rfl, _, _, _, Ent.refl _ _, ret1 rfl rfl, by show AV.raw _ = AV.raw _; rw [crc, ← he], rfl⟩
end Go.Proofs.Ytbciofnejefkiaa

namespace Go.Proofs.Ytbciofnejefkiaa
open Go Go.Am Go.Proofs
set_option linter.unusedSimpArgs false
set_option linter.unusedVariables false
set_option maxRecDepth 20000
set_option maxHeartbeats 4000000

theorem kret_drop {P : Program} {fn : Func} {Kc : AV → AHeap → Prop} {e : Exit} {R : Regs} {H H0 : AHeap} {o : Nat} {x : AO} {r : AV} (he : e = .ret ∨ e = .normal) (hh : H = H0.set o x) (ho : H0 o = none)
    (hr : Ret P fn R H0 r) (hk : Kc r H0) : kret P fn Kc e R H := by subst hh; exact ⟨he, _, _, _, Ent.drop_set _ ho _, hr, hk⟩

theorem crc_vw (H : AHeap) (o off k : Nat) (x t : List UInt8) (hx : H o = some (.byt x)) (hl : off + k ≤ x.length) (hh : x.length ≤ 100000) (ht : t.length ≤ 2000000000) :
    ACalls Try.prog 94 [.vw o 1 off k, .bys t] H fun r H' => r = .raw (.int .u64 (crc ((x.drop off).take (k * 1) ++ t) : Int)) ∧ H' = H := by
  have hc := crc_lt ((x.drop off).take (k * 1) ++ t)
  have hk : ((x.drop off).take (k * 1)).length = k := by simp; omega
  refine acalls_of_aw2 Try.func94 rfl (by decide) ?_
  (first | focus (refine yy46 ?_; refine awl_s rfl (s_buildSlice0) ?_; refine yy52 ?_; refine awl_own_emp_byt rfl rfl rfl auto_src auto_len auto_len (fun oN hoN => ?_); refine yy29 ?_; refine za1 rfl rfl rfl (by assumption) auto_rl auto_src auto_len auto_len (fun oN hoN => ?_); (refine zc auto_wl (Crc_vw _ _ _ _ auto_heap auto_len auto_len) ?_; rintro r H' ⟨rfl, rfl⟩); refine awl_s rfl (s_convn rfl (by omega)) ?_; refine yy9 ?_; rotate_left) | fail)
  exact kret_drop (.inl rfl) rfl (by assumption) (ret1 rfl rfl) ⟨rfl, rfl⟩
theorem crc_bys (H : AHeap) (h t : List UInt8) (hh : h.length ≤ 100000) (ht : t.length ≤ 2000000000) :
    ACalls Try.prog 94 [.bys h, .bys t] H fun r H' => r = .raw (.int .u64 (crc (h ++ t) : Int)) ∧ H' = H := by
  have hc := crc_lt (h ++ t)
  refine acalls_of_aw2 Try.func94 rfl (by decide) ?_
  (first | focus (refine yy46 ?_; refine awl_s rfl (s_buildSlice0) ?_; refine yy29 ?_; refine awl_own_emp_byt rfl rfl rfl auto_src auto_len auto_len (fun oN hoN => ?_); refine yy29 ?_; refine za1 rfl rfl rfl (by assumption) auto_rl auto_src auto_len auto_len (fun oN hoN => ?_); (refine zc auto_wl (Crc_vw _ _ _ _ auto_heap auto_len auto_len) ?_; rintro r H' ⟨rfl, rfl⟩); refine awl_s rfl (s_convn rfl (by omega)) ?_; refine yy9 ?_; rotate_left) | fail)
  exact kret_drop (.inl rfl) rfl (by assumption) (ret1 rfl rfl) ⟨rfl, rfl⟩

def head (n : Nat) (b : List UInt8) : List UInt8 := le 4 b.length ++ le 8 n
def frame (n : Nat) (b : List UInt8) : List UInt8 := [90] ++ head n b ++ le 4 (crc (head n b ++ b)) ++ b

theorem frame_len (n : Nat) (b : List UInt8) : (frame n b).length = 17 + b.length := by
  simp only [frame, head, List.length_append, le_len, List.length_cons, List.length_nil] <;> omega

theorem Frame_own (H : AHeap) (n : Nat) (b : List UInt8) (hn : n < 2 ^ 64) (hb : b.length ≤ 60000) :
    ACalls Try.prog 89 [.raw (.int .u64 (n : Int)), .bys b] H fun r H' => ∃ o, H o = none ∧ r = .vw o 1 0 (frame n b).length ∧ H' = H.set o (.byt (frame n b)) := by
  have h4 := le_len 4 b.length
  have h8 := le_len 8 n
  refine acalls_of_aw2 Try.func89 rfl (by decide) ?_
  (first | focus (refine yy4 ?_; refine yy6 ?_; refine yy12 ?_; refine yy29 ?_; refine yy96 ?_; refine yy27 ?_; refine yy3 ?_; refine yy53 ?_; intro hc; refine yy4 ?_; refine awl_s rfl (s_byte1 rfl auto_lt) ?_; refine yy29 ?_; refine yy96 ?_; refine awl_s rfl (s_convn rfl (by omega)) ?_; (refine zc auto_wl (put_lit _ _ _ _ auto_sd auto_sd auto_sd auto_sd) ?_; rintro r H' ⟨o, ho, rfl, rfl⟩); refine yy65 ?_; refine yy71 ?_; refine yy52 ?_; refine yy2 ?_; (refine zc auto_wl (put_own _ _ _ _ _ _ _ auto_sd auto_sd auto_sd (by assumption) rfl auto_len) ?_; rintro r H' ⟨o, ho, rfl, rfl⟩); refine yy65 ?_; refine yy71 ?_; refine yy52 ?_; refine yy52 ?_; refine awl_s rfl (s_slice_vw rfl auto_bnd auto_bnd auto_len auto_len) ?_; refine yy29 ?_; (refine zc auto_wl (crc_vw _ _ _ _ _ _ auto_sd auto_len auto_len auto_sd) ?_; rintro r H' ⟨rfl, rfl⟩); (refine zc auto_wl (put_own _ _ _ _ _ _ _ auto_sd auto_sd auto_sd (by assumption) rfl auto_len) ?_; rintro r H' ⟨o, ho, rfl, rfl⟩); refine yy65 ?_; refine yy71 ?_; refine yy52 ?_; refine yy29 ?_; refine za1 rfl rfl rfl (by assumption) auto_rl auto_src auto_len auto_len (fun oN hoN => ?_); refine yy65 ?_; refine yy25 ?_; rotate_left) | fail)
  have e1 : ([UInt8.ofNat 90] ++ le 4 b.length ++ le 8 n).drop (0 + 1 * 1) = head n b := by rw [List.append_assoc]; rfl
  have e2 : (([UInt8.ofNat 90] ++ le 4 b.length ++ le 8 n).length - 1) * 1 = (head n b).length := by simp [head]
  have hx : [UInt8.ofNat 90] ++ le 4 b.length ++ le 8 n ++ le 4 (crc (((([UInt8.ofNat 90] ++ le 4 b.length ++ le 8 n).drop (0 + 1 * 1)).take ((([UInt8.ofNat 90] ++ le 4 b.length ++ le 8 n).length - 1) * 1)) ++ b)) ++ b = frame n b := by
    rw [e1, e2, List.take_length, frame, head]; simp
  exact ⟨.inl rfl, _, _, _, Ent.refl _ _, ret1 rfl rfl, oN, by assumption, by rw [← hx]; show AV.vw oN 1 0 _ = AV.vw oN 1 0 _; congr 1; simp; omega, by rw [hx]⟩

theorem Frame_ok (H : AHeap) (n : Nat) (b : List UInt8) (hn : n < 2 ^ 64) (hb : b.length ≤ 60000) :
    ACalls Try.prog 89 [.raw (.int .u64 (n : Int)), .bys b] H fun r H' => r = .bys (frame n b) ∧ H' = H := (Frame_own H n b hn hb).seal

/-- How long the text is that bytes say they begin with. -/
def tlen (b : List UInt8) : Nat := num ((b.drop 1).take (5 - 1))
/-- What is read at the beginning of bytes. -/
def takeF (b : List UInt8) : Nat × List UInt8 × Nat :=
  if b.length < 17 then (0, [], 0)
  else if (b.getD 0 0).toNat ≠ 90 then (0, [], 0)
  else if 60000 < tlen b then (0, [], 0)
  else if b.length - 17 < tlen b then (0, [], 0)
  else if num ((b.drop 13).take (17 - 13)) ≠ crc ((b.drop 1).take (13 - 1) ++ (b.drop 17).take (17 + tlen b - 17)) then (0, [], 0)
  else (num ((b.drop 5).take (13 - 5)), (b.drop 17).take (17 + tlen b - 17), 17 + tlen b)

/-- A triple whose second part is nothing. -/
theorem kret_none {P : Program} {fn : Func} {Kc : AV → AHeap → Prop} {R : Regs} {H : AHeap} {t u x : Tmp} {a c : AV} (h : fn.results = #[.tmp t, .tmp u, .tmp x]) (h1 : rget R t = a) (h2 : rget R u = .raw (.slice none 0 0)) (h3 : rget R x = c) (htu : Nat.beq u t = false) (hux : Nat.beq u x = false)
    (hk : Kc (.tup [a, .bys [], c]) H) : kret P fn Kc .ret R H :=
  ⟨.inl rfl, _, _, _, Ent.weakReg u h2 (W.nilb rfl), ret3 h (by simp only [rget, htu]; exact h1) (by simp only [rget, Nat.beq_refl]; rfl) (by simp only [rget, hux]; exact h3), hk⟩

theorem Take_calls (H : AHeap) (b : List UInt8) (hb : b.length ≤ 2000000000) :
    ACalls Try.prog 87 [.bys b] H fun r H' => r = .tup [.raw (.int .u64 ((takeF b).1 : Int)), .bys (takeF b).2.1, .raw (.int .i64 ((takeF b).2.2 : Int))] ∧ H' = H := by
  have n1 : num ((b.drop 1).take (5 - 1)) < 2 ^ 64 := num_lt _
  refine acalls_of_aw1 Try.func87 rfl (by decide) ?_
  (first | focus (refine yy4 ?_; refine yy30 ?_; refine yy30 ?_; refine yy6 ?_; refine yy12 ?_; refine yy29 ?_; refine yy96 ?_; refine yy98 ?_; refine yy2 ?_; refine zg2 rfl rfl rfl (fun hc => ?_) (fun hc => ?_); refine yy54 ?_; refine yy41 ?_; refine yy48 ?_; refine yy79 ?_; refine yy30 ?_; refine yy30 ?_; refine yy9 ?_; refine yy21 ?_; rotate_left; refine yy29 ?_; refine yy5 ?_; refine awl_s rfl (s_indexAddr_bys rfl rfl (by omega) rfl) ?_; refine yy5 ?_; refine awl_s rfl (s_load_pby rfl (by omega)) ?_; refine yy5 ?_; refine yy70 ?_; refine yy43 ?_; refine aw_condp rfl (fun hc => ?_) (fun hc => ?_); refine yy4 ?_; refine yy30 ?_; refine yy30 ?_; refine yy9 ?_; refine yy21 ?_; rotate_left; refine yy66 ?_; refine yy4 ?_; refine yy29 ?_; refine yy103 ?_; (refine zc auto_wl (number_calls _ _ auto_sd) ?_; rintro r H' ⟨rfl, rfl⟩); refine yy6 ?_; refine yy11 ?_; refine yy27 ?_; refine yy2 ?_; refine zg2 rfl rfl rfl (fun hc => ?_) (fun hc => ?_); refine yy34 ?_; refine yy41 ?_; refine yy48 ?_; refine yy79 ?_; refine yy30 ?_; refine yy30 ?_; refine yy9 ?_; refine yy21 ?_; rotate_left; refine yy19 ?_; refine yy29 ?_; refine yy5 ?_; refine yy96 ?_; refine yy5 ?_; refine awl_s rfl (s_subn rfl rfl (by omega) (by omega)) ?_; refine yy5 ?_; refine awl_s rfl (s_convn rfl (by omega)) ?_; refine yy5 ?_; refine yy27 ?_; refine yy43 ?_; refine aw_condp rfl (fun hc => ?_) (fun hc => ?_); refine yy4 ?_; refine yy30 ?_; refine yy30 ?_; refine yy9 ?_; refine yy21 ?_; rotate_left; refine yy66 ?_; refine yy50 ?_; refine awl_s rfl (s_convi rfl (by omega) (by omega)) ?_; refine yy74 ?_; refine yy24 ?_; refine awl_s rfl (s_buildSlice0) ?_; refine yy29 ?_; refine yy2 ?_; refine yy103 ?_; refine awl_s rfl (s_app_emp_byt rfl rfl auto_src auto_len auto_len) ?_; refine yy91 ?_; refine yy3 ?_; refine aw_seq ?_; refine yy16 ?_; (apply awt_s; · exact s_move (v := .bys _) rfl); (apply awt_s; · exact s_slice_bys rfl auto_bnd auto_bnd auto_len auto_len rfl); (apply awt_s; · exact s_callc auto_wl (number_calls _ _ auto_sd)); (apply awt_s; · exact s_move (v := .bys _) rfl); (apply awt_s; · exact s_slice_bys rfl auto_bnd auto_bnd auto_len auto_len rfl); (apply awt_s; · exact s_move (v := .bys _) rfl); (apply awt_s; · exact s_callc auto_wl (crc_bys _ _ _ auto_sd auto_sd)); (apply awt_s; · exact s_nen rfl rfl); refine yy13 ?_; refine aw_condp rfl (fun hc => ?_) (fun hc => ?_); refine yy4 ?_; refine yy30 ?_; refine yy30 ?_; refine yy9 ?_; refine yy21 ?_; rotate_left; refine yy66 ?_; refine yy4 ?_; refine yy29 ?_; refine yy103 ?_; (refine zc auto_wl (number_calls _ _ auto_sd) ?_; rintro r H' ⟨rfl, rfl⟩); refine yy29 ?_; refine yy2 ?_; refine yy30 ?_; refine yy91 ?_; refine yy9 ?_; rotate_left) | fail)
  · have e : takeF b = (0, [], 0) := by rw [takeF, if_pos (by assumption)]
    exact kret_none rfl rfl rfl rfl rfl rfl (by rw [e]; exact ⟨rfl, rfl⟩)
  · have e : takeF b = (0, [], 0) := by rw [takeF, if_neg (by assumption), if_pos (by assumption)]
    exact kret_none rfl rfl rfl rfl rfl rfl (by rw [e]; exact ⟨rfl, rfl⟩)
  · have e : takeF b = (0, [], 0) := by rw [takeF, if_neg (by assumption), if_neg (by assumption), if_pos (by assumption)]
    exact kret_none rfl rfl rfl rfl rfl rfl (by rw [e]; exact ⟨rfl, rfl⟩)
  · have e : takeF b = (0, [], 0) := by rw [takeF, if_neg (by assumption), if_neg (by assumption), if_neg (by assumption), if_pos (by assumption)]
    exact kret_none rfl rfl rfl rfl rfl rfl (by rw [e]; exact ⟨rfl, rfl⟩)
  · have e : takeF b = (0, [], 0) := by rw [takeF, if_neg (by assumption), if_neg (by assumption), if_neg (by assumption), if_neg (by assumption), if_pos (by assumption)]
    exact kret_none rfl rfl rfl rfl rfl rfl (by rw [e]; exact ⟨rfl, rfl⟩)
  · have e : takeF b = (num ((b.drop 5).take (13 - 5)), (b.drop 17).take (17 + tlen b - 17), 17 + tlen b) := by rw [takeF, if_neg (by assumption), if_neg (by assumption), if_neg (by assumption), if_neg (by assumption), if_neg (by assumption)]
    exact ⟨.inl rfl, _, _, _, Ent.refl _ _, ret3 rfl rfl rfl rfl, by rw [e]; exact ⟨rfl, rfl⟩⟩
end Go.Proofs.Ytbciofnejefkiaa

namespace Go.Proofs.Ytbciofnejefkiaa
open Go Go.Am Go.Proofs
set_option linter.unusedSimpArgs false
set_option linter.unusedVariables false
set_option maxRecDepth 20000
set_option maxHeartbeats 4000000

theorem takeF_size (b : List UInt8) : (takeF b).2.2 = 0 ∨ (17 ≤ (takeF b).2.2 ∧ (takeF b).2.2 ≤ b.length ∧ (takeF b).2.2 ≤ 60017) := by
  unfold takeF
  repeat' split
  all_goals first | exact .inl rfl | (right; simp only []; omega)
theorem takeF_text (b : List UInt8) : (takeF b).2.1.length ≤ b.length := by
  unfold takeF
  repeat' split
  all_goals simp
  omega

end Go.Proofs.Ytbciofnejefkiaa

namespace Go.Proofs.Ytbciofnejefkiaa
open Go Go.Am Go.Proofs
set_option linter.unusedSimpArgs false
set_option linter.unusedVariables false
set_option maxRecDepth 20000
set_option maxHeartbeats 4000000

end Go.Proofs.Ytbciofnejefkiaa

namespace Go.Proofs.Ytbciofnejefkiaa
open Go Go.Am Go.Proofs
set_option linter.unusedSimpArgs false
set_option linter.unusedVariables false
set_option maxRecDepth 20000
set_option maxHeartbeats 4000000

end Go.Proofs.Ytbciofnejefkiaa

namespace Go.Proofs.Ytbciofnejefkiaa
open Go Go.Am Go.Proofs
set_option linter.unusedSimpArgs false
set_option linter.unusedVariables false
set_option maxRecDepth 20000
set_option maxHeartbeats 4000000


end Go.Proofs.Ytbciofnejefkiaa

namespace Go.Proofs.Ytbciofnejefkiaa
open Go Go.Am Go.Proofs

/-! The plain law: what is read back of a frame. -/
theorem num_le : ∀ (k u : Nat), u < 2 ^ (8 * k) → u < 2 ^ 64 → num (le k u) = u
  | 0, u, h, _ => by simp at h; subst h; rfl
  | k + 1, u, h, h6 => by
    have h1 : u / 2 ^ 8 < 2 ^ (8 * k) := by
      rw [Nat.div_lt_iff_lt_mul (by decide), ← Nat.pow_add]; exact h
    have ih := num_le k (u / 2 ^ 8) h1 (by omega)
    have hr : (UInt8.ofNat (u % 2 ^ 8)).toNat = u % 2 ^ 8 := by simp
    rw [le, num, ih, hr, Nat.mod_eq_of_lt (show u / 2 ^ 8 * 2 ^ 8 < 2 ^ 64 by omega), Nat.mul_comm, ← Nat.two_pow_add_eq_or_of_lt (Nat.mod_lt _ (by decide)), Nat.div_add_mod]

theorem take_frame (n : Nat) (b t : List UInt8) (hn : n < 2 ^ 64) (hb : b.length ≤ 60000) : takeF (frame n b ++ t) = (n, b, 17 + b.length) := by
  have l4 := le_len 4 b.length
  have l8 := le_len 8 n
  have lc := le_len 4 (crc (head n b ++ b))
  have hl : (frame n b ++ t).length = 17 + b.length + t.length := by rw [List.length_append, frame_len]
  have f : frame n b ++ t = [90] ++ (le 4 b.length ++ (le 8 n ++ (le 4 (crc (head n b ++ b)) ++ (b ++ t)))) := by simp [frame, head]
  have d1 : ((frame n b ++ t).drop 1).take (5 - 1) = le 4 b.length := by rw [f]; simp [List.take_append, l4]
  have d5 : ((frame n b ++ t).drop 5).take (13 - 5) = le 8 n := by rw [f]; simp [List.drop_append, List.take_append, l4, l8]
  have d13 : ((frame n b ++ t).drop 13).take (17 - 13) = le 4 (crc (head n b ++ b)) := by rw [f]; simp [List.drop_append, List.take_append, l4, l8, lc]
  have h12 : ((frame n b ++ t).drop 1).take (13 - 1) = head n b := by rw [f]; simp [List.take_append, l4, l8, head, List.take_of_length_le (show (le 4 b.length).length ≤ 12 by omega)]
  have d17 : ((frame n b ++ t).drop 17).take (17 + b.length - 17) = b := by
    rw [f]; simp [List.drop_append, l4, l8, lc, List.drop_eq_nil_of_le (show (le 4 b.length).length ≤ 16 by omega), List.drop_eq_nil_of_le (show (le 8 n).length ≤ 12 by omega)]
  have nt : tlen (frame n b ++ t) = b.length := by rw [tlen, d1]; exact num_le 4 _ (by omega) (by omega)
  have nc := crc_lt (head n b ++ b)
  rw [takeF, nt, if_neg (by omega), if_neg (by rw [f]; simp), if_neg (by omega), if_neg (by omega), if_neg, d5, d17, num_le 8 n (by omega) hn]
  rw [d13, h12, d17, num_le 4 _ (by omega) (by omega)]; simp

/-! Frames whose numbers rise one by one, but for one. -/
def keyW (w d j : Nat) : Nat := if j = w then (j + d) % 18446744073709551616 else j
def fr (w d j : Nat) : List UInt8 := frame (keyW w d j) [UInt8.ofNat j]
def row (w d : Nat) : Nat → Nat → List UInt8
  | _, 0 => []
  | i, m + 1 => fr w d i ++ row w d (i + 1) m
end Go.Proofs.Ytbciofnejefkiaa


namespace Go.Proofs.Ytbciofnejefkiaa
open Go Go.Am Go.Proofs
set_option linter.unusedSimpArgs false
set_option linter.unusedVariables false
set_option maxRecDepth 20000
set_option maxHeartbeats 4000000

/-! Entries and messages. -/
def mI (v : Int) : AV := .raw (.int .i64 v)
abbrev b64 (v : Int) : Prop := -9223372036854775808 ≤ v ∧ v ≤ 9223372036854775807
structure En where
  id : Nat
  view : Nat
  row : List Int
def En.cells (e : En) : List AV := [.raw (.int .u64 (e.id : Int)), .raw (.int .u64 (e.view : Int)), .sls e.row.length (e.row.map mI)]
structure En.Ok (e : En) : Prop where
  id : e.id < 2 ^ 64
  view : e.view < 2 ^ 64
  row : ∀ v ∈ e.row, b64 v
def encR (l : List Int) : List UInt8 := l.flatMap fun v => encU 10 (zig v)
def encE (e : En) : List UInt8 := encU 10 e.id ++ encU 10 e.view ++ encU 10 e.row.length ++ encR e.row
theorem encR_len (l : List Int) : (encR l).length ≤ 11 * l.length := by
  induction l with
  | nil => simp [encR]
  | cons v l ih => have := encU_len 10 (zig v); simp only [encR, List.flatMap_cons, List.length_append, List.length_cons] at ih ⊢; omega
theorem encE_len (e : En) : (encE e).length ≤ 33 + 11 * e.row.length := by
  have h1 := encU_len 10 e.id
  have h2 := encU_len 10 e.view
  have h3 := encU_len 10 e.row.length
  have h4 := encR_len e.row
  simp only [encE, List.length_append]; omega
theorem encR_snoc {l : List Int} {i : Nat} {v : Int} (h : l[i]? = some v) : encR (l.take (i + 1)) = encR (l.take i) ++ encU 10 (zig v) := by
  rw [List.take_add_one, h]; simp [encR]
theorem PutEntry_calls (H : AHeap) (e : En) (ok : e.Ok) (hl : e.row.length ≤ 100000000) :
    ACalls Try.prog 77 [.agg e.cells] H fun r H' => r = .bys (encE e) ∧ H' = H := by
  have h1 := encU_len 10 e.id
  have h2 := encU_len 10 e.view
  have h3 := encU_len 10 e.row.length
  have o1 := ok.id
  have o2 := ok.view
  refine acalls_of_aw1 Try.func77 rfl (by decide) ?_
  (first | focus (refine yy4 ?_; refine zb1 rfl rfl rfl (fun oN hoN => ?_); refine yy6 ?_; refine yy16 ?_; (apply awt_s; · exact s_fieldAddr_ptr rfl); (apply awt_s; · exact s_load_cel rfl auto_heap rfl); (apply awt_s; · exact s_callc auto_wl (U_calls _ _ _ auto_sd auto_sd)); (apply awt_s; · exact s_fieldAddr_ptr rfl); (apply awt_s; · exact s_load_cel rfl auto_heap rfl); (apply awt_s; · exact s_callc auto_wl (U_calls _ _ _ auto_sd auto_sd)); (apply awt_s; · exact s_assign (v := .bys _) rfl); refine yy13 ?_; refine yy4 ?_; refine yy29 ?_; refine yy61 ?_; refine yy94 ?_; refine yy32 ?_; refine awl_s rfl (s_convn rfl (by omega)) ?_; (refine zc auto_wl (U_calls _ _ _ auto_sd auto_sd) ?_; rintro r H' ⟨rfl, rfl⟩); refine yy91 ?_; refine yy3 ?_; refine yy12 ?_; refine yy61 ?_; refine yy94 ?_; refine yy32 ?_; refine yy56 ?_; rotate_left) | fail)
  refine aw_loop (fun m R' H2 => ∃ (i : Nat) (acc : List UInt8), H2 = H ∧ R' = [(3, .bys acc), (19, .sls e.row.length (e.row.map mI)), (20, .raw (.int .i64 (e.row.length : Int))), (21, .raw (.int .i64 (i : Int)))] ∧ acc = encU 10 e.id ++ encU 10 e.view ++ encU 10 e.row.length ++ encR (e.row.take i) ∧ i + m = e.row.length) ?_ ?_
  · exact ⟨e.row.length, _, _, auto_entg, 0, _, rfl, rfl, by simp [encR], by omega⟩
  rintro m R0 H2 ⟨i, acc, rfl, rfl, hacc, hi⟩
  have hle := encR_len (e.row.take i)
  rw [List.length_take] at hle
  have hal : acc.length ≤ 33 + 11 * i := by rw [hacc]; simp only [List.length_append]; omega
  by_cases hlt : i < e.row.length
  · have hg : e.row[i]? = some e.row[i] := List.getElem?_eq_getElem hlt
    have hs := encR_snoc hg
    generalize e.row[i] = v at *
    (first | focus (refine yy10 ?_; refine aw_condp rfl (fun hc => ?_) (fun hc => ?_); refine yy26 ?_; refine yy63 ?_; refine yy58 ?_; refine yy6 ?_; refine aw_region ?_; refine yy29 ?_; refine yy2 ?_; (refine zc auto_wl (I_calls _ _ _ auto_sd) ?_; rintro r H' ⟨rfl, rfl⟩); refine yy91 ?_; refine yy7 ?_; refine yy23 ?_; rotate_left; exact absurd hc auto_no) | fail)
    exact ⟨m - 1, _, _, by omega, auto_ent, i + 1, _, rfl, rfl, by rw [hs, hacc]; simp, by omega⟩
  obtain rfl : i = e.row.length := by omega
  (first | focus (refine yy10 ?_; refine yy28 ?_; intro hc; refine yy4 ?_; refine yy29 ?_; refine yy91 ?_; refine yy25 ?_; rotate_left) | fail)
  exact ⟨.inl rfl, _, _, _, Ent.refl _ _, ret1 rfl rfl, by rw [hacc, List.take_length]; rfl, rfl⟩

structure Mg where
  kind : Int
  from_ : Int
  to : Int
  view : Nat
  last : Nat
  op : Nat
  commit : Nat
  ents : List En
  body : List UInt8
def Mg.cells (m : Mg) : List AV := [mI m.kind, mI m.from_, mI m.to, .raw (.int .u64 (m.view : Int)), .raw (.int .u64 (m.last : Int)), .raw (.int .u64 (m.op : Int)), .raw (.int .u64 (m.commit : Int)), .sls m.ents.length (m.ents.flatMap En.cells), .bys m.body]
structure Mg.Ok (m : Mg) : Prop where
  kind : b64 m.kind
  from_ : b64 m.from_
  to : b64 m.to
  view : m.view < 2 ^ 64
  last : m.last < 2 ^ 64
  op : m.op < 2 ^ 64
  commit : m.commit < 2 ^ 64
  ents : ∀ e ∈ m.ents, e.Ok
def encUs (l : List Nat) : List UInt8 := l.flatMap fun v => encU 10 v
theorem encUs_snoc {l : List Nat} {i : Nat} {v : Nat} (h : l[i]? = some v) : encUs (l.take (i + 1)) = encUs (l.take i) ++ encU 10 v := by
  rw [List.take_add_one, h]; simp [encUs]
theorem encUs_len (l : List Nat) : (encUs l).length ≤ 11 * l.length := by
  induction l with
  | nil => simp [encUs]
  | cons v l ih => have := encU_len 10 v; simp only [encUs, List.flatMap_cons, List.length_append, List.length_cons] at ih ⊢; omega
def enc1 (e : En) : List UInt8 := encU 10 (encE e).length ++ encE e
def encEs (l : List En) : List UInt8 := l.flatMap enc1
theorem encEs_snoc {l : List En} {i : Nat} {v : En} (h : l[i]? = some v) : encEs (l.take (i + 1)) = encEs (l.take i) ++ enc1 v := by
  rw [List.take_add_one, h]; simp [encEs]
theorem encEs_split (l : List En) (i : Nat) : encEs l = encEs (l.take i) ++ encEs (l.drop i) := by
  unfold encEs
  rw [← List.flatMap_append, List.take_append_drop]
def textB (m : Mg) : List UInt8 := encR [m.kind, m.from_, m.to] ++ encUs [m.view, m.last, m.op, m.commit, m.ents.length] ++ encEs m.ents ++ encU 10 m.body.length ++ m.body

theorem ent_get {l : List En} {i : Nat} {e : En} (h : l[i]? = some e) : ((l.flatMap En.cells).drop (i * 3)).take 3 = e.cells := flat_seg (sz := 3) (f := En.cells) (fun _ => rfl) h

theorem enc1_len (e : En) : (enc1 e).length ≤ 44 + 11 * e.row.length := by
  have := encU_len 10 (encE e).length
  have := encE_len e
  simp only [enc1, List.length_append]; omega
theorem encEs_take (l : List En) (i : Nat) : (encEs (l.take i)).length ≤ (encEs l).length := by
  rw [encEs_split l i, List.length_append]; omega
theorem encEs_at {l : List En} {i : Nat} {e : En} (h : l[i]? = some e) : (encEs (l.take i)).length + (enc1 e).length ≤ (encEs l).length := by
  have := encEs_take l (i + 1)
  rw [encEs_snoc h, List.length_append] at this
  exact this
theorem row_enc (e : En) : e.row.length ≤ (enc1 e).length := by
  have : ∀ l : List Int, l.length ≤ (encR l).length := fun l => by
    induction l with
    | nil => simp
    | cons v l ih => have := encU_pos 10 (zig v); simp only [encR, List.flatMap_cons, List.length_append, List.length_cons] at ih ⊢; omega
  have := this e.row
  simp only [enc1, encE, List.length_append]; omega
theorem text_calls (H : AHeap) (m : Mg) (ok : m.Ok) (hl : (encEs m.ents).length ≤ 100000000) (hn : m.ents.length ≤ 1000000000) (hb : m.body.length ≤ 1000000000) :
    ACalls Try.prog 50 [.agg m.cells] H fun r H' => r = .bys (textB m) ∧ H' = H := by
  have o1 := ok.view
  have o2 := ok.last
  have o3 := ok.op
  have o4 := ok.commit
  refine acalls_of_aw1 Try.func50 rfl (by decide) ?_
  (first | focus (refine yy4 ?_; refine zb4 rfl rfl rfl ?_; refine yy24 ?_; refine yy6 ?_; refine yy110 ?_; refine yy35 ?_; refine yy35 ?_; refine yy92 ?_; refine awl_s rfl (s_len_slsx rfl) ?_; refine yy56 ?_; rotate_left) | fail)
  refine aw_loop (fun mm R' H2 => ∃ (i : Nat) (acc : List UInt8), H2 = H ∧ R' = [(1, .pce m.cells 0), (3, .bys acc), (16, .sls 3 [mI m.kind, mI m.from_, mI m.to]), (17, .raw (.int .i64 ((3 : Nat) : Int))), (18, .raw (.int .i64 (i : Int)))] ∧ acc = encR ([m.kind, m.from_, m.to].take i) ∧ i + mm = 3) ?_ ?_
  · exact ⟨3, _, _, auto_entw, 0, [], rfl, rfl, rfl, rfl⟩
  rintro mm R0 H2 ⟨i, acc, rfl, rfl, hacc, hi⟩
  have hal := encR_len ([m.kind, m.from_, m.to].take i)
  rw [← hacc, List.length_take] at hal
  simp only [List.length_cons, List.length_nil] at hal
  obtain rfl | rfl | rfl | rfl : i = 0 ∨ i = 1 ∨ i = 2 ∨ i = 3 := by omega
  iterate 3
    · (first | focus (refine yy10 ?_; refine aw_condp rfl (fun hc => ?_) (fun hc => ?_); refine yy26 ?_; refine yy63 ?_; refine yy58 ?_; refine yy6 ?_; refine aw_region ?_; refine yy29 ?_; refine yy2 ?_; (refine zc auto_wl (I_calls _ _ _ auto_sd) ?_; rintro r H' ⟨rfl, rfl⟩); refine yy91 ?_; refine yy7 ?_; refine yy23 ?_; rotate_left; exact absurd hc auto_no) | fail)
      all_goals first | (exfalso; omega) | exact ⟨mm - 1, _, _, by omega, auto_ent, _, _, rfl, rfl, by rw [hacc]; simp [encR], by omega⟩ | trace_state
  (first | focus (refine yy10 ?_; refine yy28 ?_; intro hc; refine yy110 ?_; refine yy35 ?_; refine yy35 ?_; refine yy35 ?_; refine yy35 ?_; refine yy32 ?_; refine awl_s rfl (s_convn rfl (by omega)) ?_; refine yy92 ?_; refine awl_s rfl (s_len_slsx rfl) ?_; refine yy56 ?_; rotate_left) | fail)
  all_goals try (exfalso; omega)
  have e0 : acc = encR [m.kind, m.from_, m.to] := hacc
  have hal0 : acc.length ≤ 33 := by simpa using hal
  clear hal hacc
  refine aw_loop (fun mm R' H3 => ∃ (i : Nat) (ac2 : List UInt8), H3 = H2 ∧ R' = [(1, .pce m.cells 0), (3, .bys ac2), (38, .sls 5 [.raw (.int .u64 (m.view : Int)), .raw (.int .u64 (m.last : Int)), .raw (.int .u64 (m.op : Int)), .raw (.int .u64 (m.commit : Int)), .raw (.int .u64 (m.ents.length : Int))]), (39, .raw (.int .i64 ((5 : Nat) : Int))), (40, .raw (.int .i64 (i : Int)))] ∧ ac2 = acc ++ encUs ([m.view, m.last, m.op, m.commit, m.ents.length].take i) ∧ i + mm = 5) ?_ ?_
  · exact ⟨5, _, _, auto_entw, 0, acc, rfl, rfl, by simp [encUs], rfl⟩
  rintro mm R0 H3 ⟨i, ac2, rfl, rfl, hac2, hi⟩
  have hal := encUs_len ([m.view, m.last, m.op, m.commit, m.ents.length].take i)
  have hal2 : ac2.length = acc.length + (encUs ([m.view, m.last, m.op, m.commit, m.ents.length].take i)).length := by rw [hac2, List.length_append]
  rw [List.length_take] at hal
  simp only [List.length_cons, List.length_nil] at hal
  obtain rfl | rfl | rfl | rfl | rfl | rfl : i = 0 ∨ i = 1 ∨ i = 2 ∨ i = 3 ∨ i = 4 ∨ i = 5 := by omega
  iterate 5
    · (first | focus (refine yy10 ?_; refine aw_condp rfl (fun hc => ?_) (fun hc => ?_); refine yy26 ?_; refine yy63 ?_; refine yy58 ?_; refine yy6 ?_; refine aw_region ?_; refine yy29 ?_; refine yy2 ?_; (refine zc auto_wl (U_calls _ _ _ auto_sd auto_sd) ?_; rintro r H' ⟨rfl, rfl⟩); refine yy91 ?_; refine yy7 ?_; refine yy23 ?_; rotate_left; exact absurd hc auto_no) | fail)
      all_goals first | (exfalso; omega) | exact ⟨mm - 1, _, _, by omega, auto_ent, _, _, rfl, rfl, by rw [hac2]; simp [encUs], by omega⟩ | trace_state
  (first | focus (refine yy10 ?_; refine yy28 ?_; intro hc; refine yy110 ?_; refine yy32 ?_; refine yy56 ?_; rotate_left) | fail)
  all_goals try (exfalso; omega)
  have e1 : ac2 = acc ++ encUs [m.view, m.last, m.op, m.commit, m.ents.length] := hac2
  have hal3 : ac2.length ≤ 33 + 55 := by omega
  clear hal hal2 hac2
  refine aw_loop (fun mm R' H4 => ∃ (i : Nat) (ac3 : List UInt8), H4 = H3 ∧ R' = [(1, .pce m.cells 0), (3, .bys ac3), (49, .sls m.ents.length (m.ents.flatMap En.cells)), (50, .raw (.int .i64 (m.ents.length : Int))), (51, .raw (.int .i64 (i : Int)))] ∧ ac3 = ac2 ++ encEs (m.ents.take i) ∧ i + mm = m.ents.length) ?_ ?_
  · exact ⟨m.ents.length, _, _, auto_entw, 0, ac2, rfl, rfl, by simp [encEs], by omega⟩
  rintro mm R0 H4 ⟨i, ac3, rfl, rfl, hac3, hi⟩
  have hal : ac3.length = ac2.length + (encEs (m.ents.take i)).length := by rw [hac3, List.length_append]
  have htk := encEs_take m.ents i
  by_cases hlt : i < m.ents.length
  · have hg : m.ents[i]? = some m.ents[i] := List.getElem?_eq_getElem hlt
    have oke := ok.ents _ (List.getElem_mem hlt)
    have hs := encEs_snoc hg
    have hat := encEs_at hg
    have hge := ent_get hg
    generalize m.ents[i] = e at *
    have hrow := row_enc e
    have hel : (encE e).length ≤ (enc1 e).length := by simp only [enc1, List.length_append]; omega
    (first | focus (refine yy10 ?_; refine aw_condp rfl (fun hc => ?_) (fun hc => ?_); refine yy26 ?_; refine yy63 ?_; refine yy99 ?_; refine awl_alloc rfl rfl rfl (fun oN hoN => ?_); refine yy80 ?_; refine yy3 ?_; refine aw_region ?_; refine yy29 ?_; refine yy62 ?_; (refine zc auto_wl (PutEntry_calls _ e oke (by omega)) ?_; rintro r H' ⟨rfl, rfl⟩); refine awl_s rfl (s_bytes_str rfl auto_src auto_sl) ?_; (refine zc auto_wl (S_calls _ _ _ auto_sd auto_sd) ?_; rintro r H' ⟨rfl, rfl⟩); refine yy91 ?_; refine yy7 ?_; refine yy23 ?_; rotate_left; exact absurd hc auto_no) | fail)
    all_goals first
      | (exfalso; omega)
      | exact ⟨mm - 1, _, _, by omega, auto_ent, i + 1, _, rfl, rfl, by rw [hs, hac3]; simp [enc1], by omega⟩
      | trace_state
  obtain rfl : i = m.ents.length := by omega
  have e2 : ac3 = ac2 ++ encEs m.ents := by rw [hac3, List.take_length]
  (first | focus (refine yy10 ?_; refine yy28 ?_; intro hc; refine yy4 ?_; refine yy29 ?_; refine yy35 ?_; refine awl_s rfl (s_bytes_str rfl auto_src auto_sl) ?_; (refine zc auto_wl (S_calls _ _ _ auto_sd auto_sd) ?_; rintro r H' ⟨rfl, rfl⟩); refine yy91 ?_; refine yy25 ?_; rotate_left) | fail)
  all_goals first
    | (exfalso; omega)
    | exact ⟨.inl rfl, _, _, _, Ent.refl _ _, ret1 rfl rfl, by rw [e2, e1, e0]; rfl, rfl⟩
    | trace_state
end Go.Proofs.Ytbciofnejefkiaa

namespace Go.Proofs.Ytbciofnejefkiaa
open Go Go.Am Go.Proofs
set_option linter.unusedSimpArgs false
set_option linter.unusedVariables false
set_option maxRecDepth 20000
set_option maxHeartbeats 4000000

theorem within_calls (H : AHeap) (n a b : Int) : ACalls Try.prog 73 [mI n, mI a, mI b] H fun r H' => r = .raw (.bool (decide (a ≤ n ∧ n ≤ b))) ∧ H' = H := by
  refine acalls_of_aw3 Try.func73 rfl (by decide) ?_
  (first | focus (refine yy46 ?_; refine yy2 ?_; refine yy2 ?_; refine awl_s rfl (s_geq rfl rfl) ?_; refine yy2 ?_; refine zg1 rfl rfl rfl (fun hc => ?_) (fun hc => ?_); refine yy19 ?_; refine yy19 ?_; refine awl_s rfl (s_leq rfl rfl) ?_; refine yy40 ?_; refine yy9 ?_; rotate_left; refine yy54 ?_; refine yy20 ?_; refine yy9 ?_; rotate_left) | fail)
  · exact ⟨.inl rfl, _, _, _, Ent.refl _ _, ret1 rfl rfl, by rw [decide_eq_decide.2 (show (a ≤ n ∧ n ≤ b) ↔ n ≤ b from ⟨fun h => h.2, fun h => ⟨hc, h⟩⟩)]; rfl, rfl⟩
  · exact ⟨.inl rfl, _, _, _, Ent.refl _ _, ret1 rfl rfl, by rw [decide_eq_false (show ¬ (a ≤ n ∧ n ≤ b) from fun h => hc h.1)]; rfl, rfl⟩
theorem odd_calls (H : AHeap) (e : En) : ACalls Try.prog 72 [.agg e.cells] H fun r H' => r = .raw (.bool (decide (64 < e.row.length))) ∧ H' = H := by
  refine acalls_of_aw1 Try.func72 rfl (by decide) ?_
  (first | focus (refine yy4 ?_; refine zb4 rfl rfl rfl ?_; refine yy24 ?_; refine yy35 ?_; refine yy32 ?_; refine yy27 ?_; refine yy9 ?_; rotate_left) | fail)
  exact ⟨.inl rfl, _, _, _, Ent.refl _ _, ret1 rfl rfl, rfl, rfl⟩
def wide (l : List En) : Bool := l.any fun e => decide (64 < e.row.length)
theorem wide_snoc {l : List En} {i : Nat} {e : En} (h : l[i]? = some e) : wide (l.take (i + 1)) = (wide (l.take i) || decide (64 < e.row.length)) := by
  rw [List.take_add_one, h]; simp [wide]
theorem wide_mem {l : List En} {e : En} (h : e ∈ l) (hw : 64 < e.row.length) : wide l = true := List.any_eq_true.2 ⟨e, h, decide_eq_true hw⟩
theorem Index_calls (H : AHeap) (l : List En) (hl : l.length ≤ 1000000000) : ACalls Try.prog 86 [.sls l.length (l.flatMap En.cells), .fnc (.func 72) [] []] H fun r H' => (∃ k : Int, r = mI k ∧ decide (0 ≤ k) = wide l) ∧ H' = H := by
  refine acalls_of_aw2 Try.func86 rfl (by decide) ?_
  (first | focus (refine yy4 ?_; refine yy6 ?_; refine yy12 ?_; refine yy44 ?_; refine yy56 ?_; rotate_left) | fail)
  refine aw_loop (fun mm R' H2 => ∃ (i : Nat), H2 = H ∧ R' = [(0, .sls l.length (l.flatMap En.cells)), (1, .fnc (.func 72) [] []), (7, .raw (.int .i64 (l.length : Int))), (8, .raw (.int .i64 (i : Int)))] ∧ wide (l.take i) = false ∧ i + mm = l.length) ?_ ?_
  · exact ⟨l.length, _, _, auto_ent, 0, rfl, rfl, rfl, by omega⟩
  rintro mm R0 H2 ⟨i, rfl, rfl, hw, hi⟩
  by_cases hlt : i < l.length
  · have hg : l[i]? = some l[i] := List.getElem?_eq_getElem hlt
    have hm := List.getElem_mem hlt
    have hs := wide_snoc hg
    have hge := ent_get hg
    generalize l[i] = e at *
    (first | focus (refine yy10 ?_; refine aw_condp rfl (fun hc => ?_) (fun hc => ?_); refine yy26 ?_; refine yy2 ?_; refine yy24 ?_; refine yy106 ?_; refine yy31 ?_; refine yy2 ?_; refine yy63 ?_; refine yy99 ?_; (((refine awl_callcv rfl rfl auto_wl (odd_calls _ e) (fun r H' hpost => ?_); obtain ⟨rfl, rfl⟩ := hpost))); refine yy3 ?_; refine aw_condp rfl (fun hc => ?_) (fun hc => ?_); refine yy50 ?_; refine yy9 ?_; refine yy86 ?_; refine yy51 ?_; rotate_left; refine aw_skip ?_; refine yy23 ?_; rotate_left; exact absurd hc auto_no) | fail)
    all_goals first
      | (exfalso; omega)
      | exact ⟨.inl rfl, _, _, _, Ent.refl _ _, ret1 rfl rfl, ⟨_, rfl, by rw [wide_mem hm hc]; exact decide_eq_true (by omega)⟩, rfl⟩
      | exact ⟨mm - 1, _, _, by omega, auto_ent, i + 1, rfl, rfl, by rw [hs, hw, decide_eq_false hc]; rfl, by omega⟩
      | trace_state
  obtain rfl : i = l.length := by omega
  rw [List.take_length] at hw
  (first | focus (refine yy10 ?_; refine yy28 ?_; intro hc; refine yy18 ?_; rotate_left) | fail)
  all_goals first
    | (exfalso; omega)
    | exact ⟨.inl rfl, _, _, _, Ent.refl _ _, ret1 rfl rfl, ⟨-1, rfl, by rw [hw]; rfl⟩, rfl⟩
    | trace_state
theorem Contains_calls (H : AHeap) (l : List En) (hl : l.length ≤ 1000000000) : ACalls Try.prog 67 [.sls l.length (l.flatMap En.cells), .fnc (.func 72) [] []] H fun r H' => r = .raw (.bool (wide l)) ∧ H' = H := by
  refine acalls_of_aw2 Try.func67 rfl (by decide) ?_
  (first | focus (refine yy46 ?_; refine yy31 ?_; refine yy106 ?_; (refine zc auto_wl (Index_calls _ l hl) ?_; rintro r H' ⟨⟨k, rfl, hk⟩, rfl⟩); refine awl_s rfl (s_geq rfl rfl) ?_; refine yy9 ?_; rotate_left) | fail)
  exact ⟨.inl rfl, _, _, _, Ent.refl _ _, ret1 rfl rfl, by rw [← hk]; rfl, rfl⟩
def Mg.plain (m : Mg) : Prop := (1 ≤ m.kind ∧ m.kind ≤ 99) ∧ (0 ≤ m.from_ ∧ m.from_ ≤ 6) ∧ (0 ≤ m.to ∧ m.to ≤ 6) ∧ m.ents.length ≤ 200 ∧ m.body.length ≤ 40000 ∧ wide m.ents = false
instance (m : Mg) : Decidable m.plain := by unfold Mg.plain; infer_instance
theorem plain_calls (H : AHeap) (m : Mg) (hl : m.ents.length ≤ 1000000000) (hb : m.body.length ≤ 1000000000) : ACalls Try.prog 49 [.agg m.cells] H fun r H' => r = .raw (.bool (decide m.plain)) ∧ H' = H := by
  refine acalls_of_aw1 Try.func49 rfl (by decide) ?_
  (first | focus (refine yy4 ?_; refine zb4 rfl rfl rfl ?_; refine yy24 ?_; refine awl_s rfl (s_assign (v := .fnc _ _ _) rfl) ?_; refine yy71 ?_; refine yy35 ?_; (refine zc auto_wl (within_calls _ _ _ _) ?_; rintro r H' ⟨rfl, rfl⟩); refine yy2 ?_; refine zg1 rfl rfl rfl (fun hc => ?_) (fun hc => ?_); refine yy88 ?_; refine yy5 ?_; refine yy58 ?_; refine yy5 ?_; (refine zc auto_wl (within_calls _ _ _ _) ?_; rintro r H' ⟨rfl, rfl⟩); refine yy40 ?_; refine yy2 ?_; refine zg1 rfl rfl rfl (fun hc => ?_) (fun hc => ?_); refine yy88 ?_; refine yy5 ?_; refine yy58 ?_; refine yy5 ?_; (refine zc auto_wl (within_calls _ _ _ _) ?_; rintro r H' ⟨rfl, rfl⟩); refine yy40 ?_; refine yy2 ?_; refine zg1 rfl rfl rfl (fun hc => ?_) (fun hc => ?_); refine yy88 ?_; refine yy5 ?_; refine yy58 ?_; refine yy5 ?_; refine yy32 ?_; refine yy5 ?_; refine awl_s rfl (s_len_ rfl rfl) ?_; refine yy40 ?_; refine yy2 ?_; refine zg1 rfl rfl rfl (fun hc => ?_) (fun hc => ?_); refine yy88 ?_; refine yy5 ?_; refine yy58 ?_; refine yy5 ?_; refine yy96 ?_; refine yy5 ?_; refine awl_s rfl (s_len_ rfl rfl) ?_; refine yy40 ?_; refine yy2 ?_; refine zg1 rfl rfl rfl (fun hc => ?_) (fun hc => ?_); refine yy88 ?_; refine yy5 ?_; refine yy58 ?_; refine yy5 ?_; refine yy106 ?_; refine yy5 ?_; (refine zc auto_wl (Contains_calls _ m.ents hl) ?_; rintro r H' ⟨rfl, rfl⟩); refine yy5 ?_; refine yy37 ?_; refine yy40 ?_; refine yy9 ?_; rotate_left; refine yy34 ?_; refine yy20 ?_; refine yy9 ?_; rotate_left; refine yy54 ?_; refine yy41 ?_; refine yy20 ?_; refine yy2 ?_; refine yy34 ?_; refine yy41 ?_; refine yy20 ?_; refine yy9 ?_; rotate_left; refine yy54 ?_; refine yy41 ?_; refine yy20 ?_; refine yy2 ?_; refine yy34 ?_; refine yy20 ?_; refine yy2 ?_; refine yy34 ?_; refine yy41 ?_; refine yy20 ?_; refine yy9 ?_; rotate_left; refine yy54 ?_; refine yy20 ?_; refine yy2 ?_; refine yy34 ?_; refine yy20 ?_; refine yy2 ?_; refine yy34 ?_; refine yy20 ?_; refine yy2 ?_; refine yy34 ?_; refine yy41 ?_; refine yy20 ?_; refine yy9 ?_; rotate_left; refine yy54 ?_; refine yy20 ?_; refine yy2 ?_; refine yy54 ?_; refine yy41 ?_; refine yy20 ?_; refine yy2 ?_; refine yy34 ?_; refine yy20 ?_; refine yy2 ?_; refine yy34 ?_; refine yy20 ?_; refine yy2 ?_; refine yy34 ?_; refine yy41 ?_; refine yy20 ?_; refine yy9 ?_; rotate_left) | fail)
  · have e : decide m.plain = !wide m.ents := by
      rw [Bool.eq_iff_iff, decide_eq_true_iff]; unfold Mg.plain; simp_all
    exact ⟨.inl rfl, _, _, _, Ent.refl _ _, ret1 rfl rfl, by rw [e]; rfl, rfl⟩
  all_goals
    (have e : decide m.plain = false := by
      rw [decide_eq_false_iff_not]; unfold Mg.plain; intro h; simp_all
     exact ⟨.inl rfl, _, _, _, Ent.refl _ _, ret1 rfl rfl, by rw [e]; rfl, rfl⟩)
theorem wide_get {l : List En} (h : wide l = false) {e : En} (he : e ∈ l) : e.row.length ≤ 64 := by
  refine Nat.le_of_not_lt fun hw => ?_
  rw [wide_mem he hw] at h; cases h
theorem encEs_len : ∀ (l : List En), wide l = false → (encEs l).length ≤ 748 * l.length
  | [], _ => by simp [encEs]
  | e :: l, h => by
    have h1 := wide_get h (List.mem_cons_self)
    have h2 := encEs_len l (by simp only [wide, List.any_cons, Bool.or_eq_false_iff] at h; exact h.2)
    have h3 := enc1_len e
    show ((e :: l).flatMap enc1).length ≤ _
    rw [List.flatMap_cons, List.length_append, List.length_cons]
    have h4 : (l.flatMap enc1).length ≤ 748 * l.length := h2
    omega
def Mg.good (m : Mg) : Prop := m.plain ∧ (textB m).length ≤ 60000
instance (m : Mg) : Decidable m.good := by unfold Mg.good; infer_instance
theorem good_text {m : Mg} (h : m.plain) : (encEs m.ents).length ≤ 149600 := by
  have := encEs_len _ h.2.2.2.2.2
  have := h.2.2.2.1
  omega
theorem Good_calls (H : AHeap) (m : Mg) (ok : m.Ok) (hl : m.ents.length ≤ 1000000000) (hb : m.body.length ≤ 1000000000) : ACalls Try.prog 25 [.agg m.cells] H fun r H' => r = .raw (.bool (decide m.good)) ∧ H' = H := by
  by_cases hp : m.plain
  · have hT := fun H => text_calls H m ok (by have := good_text hp; omega) hl hb
    have hP := fun H => plain_calls H m hl hb
    rw [decide_eq_true hp] at hP
    have e : decide m.good = decide ((textB m).length ≤ 60000) := decide_eq_decide.2 ⟨fun h => h.2, fun h => ⟨hp, h⟩⟩
    have htl : (textB m).length ≤ 2000000000 := by
      have h1 := good_text hp
      have h2 := encR_len [m.kind, m.from_, m.to]
      have h3 := encUs_len [m.view, m.last, m.op, m.commit, m.ents.length]
      have h4 := encU_len 10 m.body.length
      simp only [textB, List.length_append, List.length_cons, List.length_nil] at h2 h3 ⊢
      omega
    refine acalls_of_aw1 Try.func25 rfl (by decide) ?_
    (first | focus (refine yy4 ?_; refine zb4 rfl rfl rfl ?_; refine yy24 ?_; refine yy62 ?_; (refine zc auto_wl (hP _) ?_; rintro r H' ⟨rfl, rfl⟩); refine yy19 ?_; refine yy62 ?_; refine yy5 ?_; (refine zc auto_wl (hT _) ?_; rintro r H' ⟨rfl, rfl⟩); refine yy5 ?_; refine yy96 ?_; refine yy5 ?_; refine awl_s rfl (s_len_ rfl rfl) ?_; refine yy40 ?_; refine yy9 ?_; rotate_left) | fail)
    exact ⟨.inl rfl, _, _, _, Ent.refl _ _, ret1 rfl rfl, by rw [e]; rfl, rfl⟩
  · have hP := fun H => plain_calls H m hl hb
    rw [decide_eq_false hp] at hP
    have e : decide m.good = false := decide_eq_false fun h => hp h.1
    refine acalls_of_aw1 Try.func25 rfl (by decide) ?_
    (first | focus (refine yy4 ?_; refine zb4 rfl rfl rfl ?_; refine yy24 ?_; refine yy62 ?_; (refine zc auto_wl (hP _) ?_; rintro r H' ⟨rfl, rfl⟩); refine yy2 ?_; refine yy34 ?_; refine yy20 ?_; refine yy9 ?_; rotate_left) | fail)
    exact ⟨.inl rfl, _, _, _, Ent.refl _ _, ret1 rfl rfl, by rw [e]; rfl, rfl⟩
def putB (m : Mg) : List UInt8 := if m.good then frame 0 (textB m) else []
theorem Put_calls (H : AHeap) (m : Mg) (ok : m.Ok) (hl : m.ents.length ≤ 1000000000) (hb : m.body.length ≤ 1000000000) : ACalls Try.prog 70 [.agg m.cells] H fun r H' => r = .bys (putB m) ∧ H' = H := by
  have hG := fun H => Good_calls H m ok hl hb
  by_cases hp : m.good
  · have hT := fun H => text_calls H m ok (by have := good_text hp.1; omega) hl hb
    rw [decide_eq_true hp] at hG
    refine acalls_of_aw1 Try.func70 rfl (by decide) ?_
    (first | focus (refine yy4 ?_; refine zb4 rfl rfl rfl ?_; refine yy6 ?_; refine yy12 ?_; refine yy62 ?_; (refine zc auto_wl (hG _) ?_; rintro r H' ⟨rfl, rfl⟩); refine yy37 ?_; refine yy3 ?_; refine yy68 ?_; refine yy4 ?_; refine yy62 ?_; (refine zc auto_wl (hT _) ?_; rintro r H' ⟨rfl, rfl⟩); (refine zc auto_wl (Frame_ok _ 0 _ (by decide) hp.2) ?_; rintro r H' ⟨rfl, rfl⟩); refine yy91 ?_; refine yy25 ?_; rotate_left) | fail)
    exact ⟨.inl rfl, _, _, _, Ent.refl _ _, ret1 rfl rfl, by rw [putB, if_pos hp]; rfl, rfl⟩
  · rw [decide_eq_false hp] at hG
    refine acalls_of_aw1 Try.func70 rfl (by decide) ?_
    (first | focus (refine yy4 ?_; refine zb4 rfl rfl rfl ?_; refine yy6 ?_; refine yy12 ?_; refine yy62 ?_; (refine zc auto_wl (hG _) ?_; rintro r H' ⟨rfl, rfl⟩); refine yy37 ?_; refine yy3 ?_; refine yy42 ?_; refine yy18 ?_; refine yy21 ?_; rotate_left) | fail)
    exact ⟨.inl rfl, _, _, _, Ent.weakReg 2 rfl (W.nilb rfl), ret1 rfl rfl, by rw [putB, if_neg hp]; rfl, rfl⟩
end Go.Proofs.Ytbciofnejefkiaa


namespace Go.Proofs.Ytbciofnejefkiaa
open Go Go.Am Go.Proofs
set_option linter.unusedSimpArgs false
set_option linter.unusedVariables false
set_option maxRecDepth 20000
set_option maxHeartbeats 4000000

/-- So many numbers, read one behind the other. -/
def rdIs : Nat → List UInt8 → Bool → List Int × List UInt8 × Bool
  | 0, b, f => ([], b, f)
  | n + 1, b, f => (unzig (rd b).1 :: (rdIs n (rd b).2.1 (f || (rd b).2.2)).1, (rdIs n (rd b).2.1 (f || (rd b).2.2)).2)
theorem rdIs_snoc : ∀ (n : Nat) (b : List UInt8) (f : Bool), rdIs (n + 1) b f = ((rdIs n b f).1 ++ [unzig (rd (rdIs n b f).2.1).1], (rd (rdIs n b f).2.1).2.1, ((rdIs n b f).2.2 || (rd (rdIs n b f).2.1).2.2))
  | 0, b, f => by simp [rdIs]
  | n + 1, b, f => by
    have ih := rdIs_snoc n (rd b).2.1 (f || (rd b).2.2)
    rw [rdIs, ih]
    simp [rdIs]
theorem rdIs_len : ∀ (n : Nat) (b : List UInt8) (f : Bool), (rdIs n b f).1.length = n
  | 0, _, _ => rfl
  | n + 1, b, f => by simp [rdIs, rdIs_len n]
theorem rdIs_left : ∀ (n : Nat) (b : List UInt8) (f : Bool), (rdIs n b f).2.1.length ≤ b.length
  | 0, _, _ => Nat.le_refl _
  | n + 1, b, f => Nat.le_trans (rdIs_left n _ _) (rd_len b)
def En0 : En := ⟨0, 0, []⟩
/-- The number of values that an entry tells, what is behind, and whether all went well so far. -/
def hdE (b : List UInt8) : Nat × List UInt8 × Bool := ((rd (rd (rd b).2.1).2.1).1, (rd (rd (rd b).2.1).2.1).2.1, ((rd b).2.2 || (rd (rd b).2.1).2.2) || (rd (rd (rd b).2.1).2.1).2.2)
def getE (b : List UInt8) : Option En :=
  if (hdE b).2.1.length < (hdE b).1 then none
  else if (rdIs (hdE b).1 (hdE b).2.1 (hdE b).2.2).2.2 = true ∨ (rdIs (hdE b).1 (hdE b).2.1 (hdE b).2.2).2.1 ≠ [] then none
  else some ⟨(rd b).1, (rd (rd b).2.1).1, (rdIs (hdE b).1 (hdE b).2.1 (hdE b).2.2).1⟩
def outE : Option En → AV
  | none => .tup [.agg En0.cells, .raw (.int .i64 (3 : Int))]
  | some e => .tup [.agg e.cells, .raw (.int .i64 (0 : Int))]

theorem none_frame {H H2 : AHeap} (hfr : ∀ p y, H p = some y → H2 p = some y) {o : Nat} (h : H2 o = none) : H o = none := by
  cases e : H o with
  | none => rfl
  | some y => have := hfr _ _ e; rw [h] at this; cases this
theorem GetEntry_calls (H : AHeap) (b : List UInt8) (hb : b.length ≤ 100000000) :
    ACalls Try.prog 58 [.bys b] H fun r H' => r = outE (getE b) ∧ H' = H := by
  have l1 := rd_len b
  have l2 := rd_len (rd b).2.1
  have l3 := rd_len (rd (rd b).2.1).2.1
  refine acalls_of_aw1 Try.func58 rfl (by decide) ?_
  (first | focus (refine yy4 ?_; refine awl_alloc rfl rfl rfl (fun oN hoN => ?_); refine yy24 ?_; refine yy29 ?_; (refine zc auto_wl (read_calls _ _ auto_sd) ?_; rintro r H' ⟨oR, hoR, rfl, rfl⟩); refine yy90 ?_; refine yy3 ?_; refine yy22 ?_; (refine zc auto_wl (RU_calls _ _ _ _ auto_heap auto_sd) ?_; rintro r H' ⟨rfl, rfl⟩); refine yy17 ?_; (refine zc auto_wl (RU_calls _ _ _ _ auto_heap auto_sd) ?_; rintro r H' ⟨rfl, rfl⟩); refine yy75 ?_; refine awl_alloc rfl rfl rfl (fun oN hoN => ?_); refine yy78 ?_; refine yy3 ?_; refine yy22 ?_; (refine zc auto_wl (RU_calls _ _ _ _ auto_heap auto_sd) ?_; rintro r H' ⟨rfl, rfl⟩); refine yy6 ?_; refine yy11 ?_; refine yy17 ?_; (refine zc auto_wl (left_calls _ _ _ _ auto_heap) ?_; rintro r H' ⟨rfl, rfl⟩); refine awl_s rfl (s_convn rfl (by omega)) ?_; refine yy27 ?_; refine yy3 ?_; refine aw_condp rfl (fun hc => ?_) (fun hc => ?_); refine yy4 ?_; refine yy75 ?_; refine yy89 ?_; refine yy9 ?_; refine yy21 ?_; rotate_left; refine yy66 ?_; refine yy11 ?_; refine yy56 ?_; rotate_left) | fail)
  · have e : getE b = none := if_pos (show (hdE b).2.1.length < (hdE b).1 from hc)
    exact ⟨.inl rfl, _, _, _, Ent.cellRet 2 En0.cells rfl auto_heap (by ((repeat' (first | exact WC.nil | apply WC.cons)); all_goals (first | exact W.of rfl | exact W.int rfl | exact W.nilb rfl | exact W.empb rfl | exact W.bysx rfl | exact W.nils rfl | exact W.emps rfl | exact W.slsx rfl))) auto_hs, ret_2 rfl (rv1_agg (m := 3) rfl rfl rfl (by decide)) (rv1_tmp rfl), by rw [e]; rfl, rfl⟩
  obtain ⟨n, hn⟩ : ∃ n, (rd (rd (rd b).2.1).2.1).1 = n := ⟨_, rfl⟩
  obtain ⟨b3, hb3⟩ : ∃ b3, (rd (rd (rd b).2.1).2.1).2.1 = b3 := ⟨_, rfl⟩
  obtain ⟨f3, hf3⟩ : ∃ f3, ((rd b).2.2 || (rd (rd b).2.1).2.2 || (rd (rd (rd b).2.1).2.1).2.2) = f3 := ⟨_, rfl⟩
  have hE : getE b = if (rdIs n b3 f3).2.2 = true ∨ (rdIs n b3 f3).2.1 ≠ [] then none else some ⟨(rd b).1, (rd (rd b).2.1).1, (rdIs n b3 f3).1⟩ := by
    rw [getE, if_neg (show ¬ (hdE b).2.1.length < (hdE b).1 from hc), ← hn, ← hb3, ← hf3]; rfl
  have hl3 : b3.length ≤ 100000000 := by rw [← hb3]; omega
  have hnb : n ≤ b3.length := by rw [← hb3, ← hn]; omega
  simp only [Bool.false_or]
  rw [hn, hb3, hf3]
  clear hc l1 l2 l3
  refine aw_loop (fun mm R' H2 => ∃ (i oZ oE oR : Nat) (row : List Int) (b' : List UInt8) (f' : Bool) (rc : AV), (oZ ≠ oE ∧ oZ ≠ oR ∧ oE ≠ oR ∧ H oZ = none ∧ H oE = none ∧ H oR = none) ∧ H2 oZ = some (.cel [.raw (.int .u64 0), .raw (.int .u64 0), .raw (.slice none 0 0)]) ∧
    H2 oE = some (.cel [.raw (.int .u64 ((rd b).1 : Int)), .raw (.int .u64 ((rd (rd b).2.1).1 : Int)), rc]) ∧ H2 oR = some (.cel [.bys b', .raw (.bool f')]) ∧ (∀ p y, H p = some y → H2 p = some y) ∧
    ((i = 0 ∧ rc = .raw (.slice none 0 0)) ∨ (0 < i ∧ ∃ oW, rc = .vw oW 1 0 i ∧ H2 oW = some (.cel (row.map mI)) ∧ H oW = none ∧ oW ≠ oE ∧ oW ≠ oR ∧ oW ≠ oZ)) ∧
    rdIs i b3 f3 = (row, b', f') ∧ R' = [(2, .ptr oZ 0), (4, .ptr oR 0), (5, .ptr oE 0), (22, .raw (.int .u64 (n : Int))), (23, .raw (.int .u64 (i : Int)))] ∧ i + mm = n) ?_ ?_
  · exact ⟨n, _, _, Ent.sub _ (by (repeat' (first | exact RSub.nil _ | apply RSub.cons)); all_goals rfl), 0, _, _, _, [], b3, f3, _, ⟨by (first | assumption | exact Ne.symm (by assumption) | exact AHeap.ne_of_fresh (by assumption) | exact Ne.symm (AHeap.ne_of_fresh (by assumption)) | exact AHeap.ne_of_fresh (AHeap.none_of_set (by assumption)) | exact Ne.symm (AHeap.ne_of_fresh (AHeap.none_of_set (by assumption))) | exact AHeap.ne_ns (by assumption) (by assumption) | exact AHeap.ne_sn (by assumption) (by assumption) | exact AHeap.ne_ns (by assumption) auto_heap2 | exact AHeap.ne_sn (by assumption) auto_heap2), by (first | assumption | exact Ne.symm (by assumption) | exact AHeap.ne_of_fresh (by assumption) | exact Ne.symm (AHeap.ne_of_fresh (by assumption)) | exact AHeap.ne_of_fresh (AHeap.none_of_set (by assumption)) | exact Ne.symm (AHeap.ne_of_fresh (AHeap.none_of_set (by assumption))) | exact AHeap.ne_ns (by assumption) (by assumption) | exact AHeap.ne_sn (by assumption) (by assumption) | exact AHeap.ne_ns (by assumption) auto_heap2 | exact AHeap.ne_sn (by assumption) auto_heap2), by (first | assumption | exact Ne.symm (by assumption) | exact AHeap.ne_of_fresh (by assumption) | exact Ne.symm (AHeap.ne_of_fresh (by assumption)) | exact AHeap.ne_of_fresh (AHeap.none_of_set (by assumption)) | exact Ne.symm (AHeap.ne_of_fresh (AHeap.none_of_set (by assumption))) | exact AHeap.ne_ns (by assumption) (by assumption) | exact AHeap.ne_sn (by assumption) (by assumption) | exact AHeap.ne_ns (by assumption) auto_heap2 | exact AHeap.ne_sn (by assumption) auto_heap2), by (first | assumption | exact AHeap.none_of_set ((by assumption)) | exact AHeap.none_of_set (AHeap.none_of_set ((by assumption))) | exact AHeap.none_of_set (AHeap.none_of_set (AHeap.none_of_set ((by assumption)))) | exact AHeap.none_of_set (AHeap.none_of_set (AHeap.none_of_set (AHeap.none_of_set ((by assumption))))) | exact AHeap.none_of_set (AHeap.none_of_set (AHeap.none_of_set (AHeap.none_of_set (AHeap.none_of_set ((by assumption)))))) | exact AHeap.none_of_set (AHeap.none_of_set (AHeap.none_of_set (AHeap.none_of_set (AHeap.none_of_set (AHeap.none_of_set ((by assumption))))))) | exact AHeap.none_of_set (AHeap.none_of_set (AHeap.none_of_set (AHeap.none_of_set (AHeap.none_of_set (AHeap.none_of_set (AHeap.none_of_set ((by assumption)))))))) | exact AHeap.none_of_set (AHeap.none_of_set (AHeap.none_of_set (AHeap.none_of_set (AHeap.none_of_set (AHeap.none_of_set (AHeap.none_of_set (AHeap.none_of_set ((by assumption))))))))) | exact AHeap.none_of_set (AHeap.none_of_set (AHeap.none_of_set (AHeap.none_of_set (AHeap.none_of_set (AHeap.none_of_set (AHeap.none_of_set (AHeap.none_of_set (AHeap.none_of_set ((by assumption)))))))))) | exact AHeap.none_of_set (AHeap.none_of_set (AHeap.none_of_set (AHeap.none_of_set (AHeap.none_of_set (AHeap.none_of_set (AHeap.none_of_set (AHeap.none_of_set (AHeap.none_of_set (AHeap.none_of_set ((by assumption)))))))))))), by (first | assumption | exact AHeap.none_of_set ((by assumption)) | exact AHeap.none_of_set (AHeap.none_of_set ((by assumption))) | exact AHeap.none_of_set (AHeap.none_of_set (AHeap.none_of_set ((by assumption)))) | exact AHeap.none_of_set (AHeap.none_of_set (AHeap.none_of_set (AHeap.none_of_set ((by assumption))))) | exact AHeap.none_of_set (AHeap.none_of_set (AHeap.none_of_set (AHeap.none_of_set (AHeap.none_of_set ((by assumption)))))) | exact AHeap.none_of_set (AHeap.none_of_set (AHeap.none_of_set (AHeap.none_of_set (AHeap.none_of_set (AHeap.none_of_set ((by assumption))))))) | exact AHeap.none_of_set (AHeap.none_of_set (AHeap.none_of_set (AHeap.none_of_set (AHeap.none_of_set (AHeap.none_of_set (AHeap.none_of_set ((by assumption)))))))) | exact AHeap.none_of_set (AHeap.none_of_set (AHeap.none_of_set (AHeap.none_of_set (AHeap.none_of_set (AHeap.none_of_set (AHeap.none_of_set (AHeap.none_of_set ((by assumption))))))))) | exact AHeap.none_of_set (AHeap.none_of_set (AHeap.none_of_set (AHeap.none_of_set (AHeap.none_of_set (AHeap.none_of_set (AHeap.none_of_set (AHeap.none_of_set (AHeap.none_of_set ((by assumption)))))))))) | exact AHeap.none_of_set (AHeap.none_of_set (AHeap.none_of_set (AHeap.none_of_set (AHeap.none_of_set (AHeap.none_of_set (AHeap.none_of_set (AHeap.none_of_set (AHeap.none_of_set (AHeap.none_of_set ((by assumption)))))))))))), by (first | assumption | exact AHeap.none_of_set ((by assumption)) | exact AHeap.none_of_set (AHeap.none_of_set ((by assumption))) | exact AHeap.none_of_set (AHeap.none_of_set (AHeap.none_of_set ((by assumption)))) | exact AHeap.none_of_set (AHeap.none_of_set (AHeap.none_of_set (AHeap.none_of_set ((by assumption))))) | exact AHeap.none_of_set (AHeap.none_of_set (AHeap.none_of_set (AHeap.none_of_set (AHeap.none_of_set ((by assumption)))))) | exact AHeap.none_of_set (AHeap.none_of_set (AHeap.none_of_set (AHeap.none_of_set (AHeap.none_of_set (AHeap.none_of_set ((by assumption))))))) | exact AHeap.none_of_set (AHeap.none_of_set (AHeap.none_of_set (AHeap.none_of_set (AHeap.none_of_set (AHeap.none_of_set (AHeap.none_of_set ((by assumption)))))))) | exact AHeap.none_of_set (AHeap.none_of_set (AHeap.none_of_set (AHeap.none_of_set (AHeap.none_of_set (AHeap.none_of_set (AHeap.none_of_set (AHeap.none_of_set ((by assumption))))))))) | exact AHeap.none_of_set (AHeap.none_of_set (AHeap.none_of_set (AHeap.none_of_set (AHeap.none_of_set (AHeap.none_of_set (AHeap.none_of_set (AHeap.none_of_set (AHeap.none_of_set ((by assumption)))))))))) | exact AHeap.none_of_set (AHeap.none_of_set (AHeap.none_of_set (AHeap.none_of_set (AHeap.none_of_set (AHeap.none_of_set (AHeap.none_of_set (AHeap.none_of_set (AHeap.none_of_set (AHeap.none_of_set ((by assumption))))))))))))⟩, auto_heap, auto_heap, auto_heap, fun p y hp => auto_heap, .inl ⟨rfl, rfl⟩, rfl, rfl, by omega⟩
  rintro mm R0 H2 ⟨i, oZ, oE, oR, row, b', f', rc, ⟨m1, m2, m3, z1, z2, z3⟩, q1, q2, q3, hfr, hrc, hrd, rfl, hi⟩
  have hrl := rdIs_len i b3 f3
  have hbl := rdIs_left i b3 f3
  have hsn := rdIs_snoc i b3 f3
  rw [hrd] at hrl hbl hsn
  simp only at hrl hbl hsn
  by_cases hlt : i < n
  · rcases hrc with ⟨hi0, rfl⟩ | ⟨hi0, oW, rfl, q4, z4, m4, m5, m6⟩
    · obtain rfl : row = [] := List.length_eq_zero_iff.1 (by omega)
      (first | focus (refine yy10 ?_; refine aw_condp rfl (fun hc => ?_) (fun hc => ?_); refine yy83 ?_; refine aw_block ?_; refine DC.aw_drawp (fun H' => H' oE = some (.cel [.raw (.int .u64 ((rd b).1 : Int)), .raw (.int .u64 ((rd (rd b).2.1).1 : Int)), .raw (.slice none 0 0)])) (by first | exact auto_heap | exact ⟨auto_heap, auto_heap⟩ | exact ⟨auto_heap, auto_heap, auto_heap⟩) auto_kr auto_dk auto_dk ?_; (apply DC.awn_s; · (intro H1 hPsi; (try dsimp only at hPsi); (try (obtain ⟨hPsi, hPsi2⟩ := hPsi)); exact s_fieldAddr_ptr rfl)); (apply DC.awn_s; · (intro H1 hPsi; (try dsimp only at hPsi); (try (obtain ⟨hPsi, hPsi2⟩ := hPsi)); exact s_load_cel rfl auto_heap rfl)); (apply DC.awn_s; · (intro H1 hPsi; (try dsimp only at hPsi); (try (obtain ⟨hPsi, hPsi2⟩ := hPsi)); exact s_move (v := .ptr _ _) rfl)); refine DC.awn_b ?_; refine DC.awn_b ?_; refine DC.awn_b ?_; (apply DC.awn_s; · (intro H1 hPsi; (try dsimp only at hPsi); (try (obtain ⟨hPsi, hPsi2⟩ := hPsi)); exact s_fieldAddr_ptr rfl)); refine DC.awn_b0 ?_; refine DC.awn_nil ?_; refine DC.awc_cons (fun Rx K1 hK1x => ?_); (refine zc auto_wl (RI_calls _ _ _ _ auto_heap auto_sd) ?_; rintro r H' ⟨rfl, rfl⟩); refine yy7 ?_; (refine hK1x _ _ (by first | exact Or.inl (by decide +kernel) | (refine Or.inr ?_; (try dsimp only); first | exact auto_heap | exact ⟨auto_heap, auto_heap⟩ | exact ⟨auto_heap, auto_heap, auto_heap⟩)) ?_; clear hK1x K1 Rx); refine DC.awc_cons (fun Rx K1 hK1x => ?_); refine yy92 ?_; refine yy7 ?_; (refine hK1x _ _ (by first | exact Or.inl (by decide +kernel) | (refine Or.inr ?_; (try dsimp only); first | exact auto_heap | exact ⟨auto_heap, auto_heap⟩ | exact ⟨auto_heap, auto_heap, auto_heap⟩)) ?_; clear hK1x K1 Rx); refine DC.awc_cons (fun Rx K1 hK1x => ?_); refine awl_own_nil_cel rfl rfl rfl auto_src auto_len auto_len (fun oN hoN => ?_); refine yy7 ?_; (refine hK1x _ _ (by first | exact Or.inl (by decide +kernel) | (refine Or.inr ?_; (try dsimp only); first | exact auto_heap | exact ⟨auto_heap, auto_heap⟩ | exact ⟨auto_heap, auto_heap, auto_heap⟩)) ?_; clear hK1x K1 Rx); refine DC.awc_cons0 (fun Rx K1 hK1x => ?_); refine yy72 ?_; (refine hK1x _ (by first | exact Or.inl (by decide +kernel) | (refine Or.inr ?_; (try dsimp only); first | exact auto_heap | exact ⟨auto_heap, auto_heap⟩ | exact ⟨auto_heap, auto_heap, auto_heap⟩)) ?_; clear hK1x K1 Rx); refine DC.awc_nil ?_; refine yy84 ?_; refine awl_s rfl (s_addu rfl rfl auto_len) ?_; refine yy104 ?_; rotate_left; exact absurd hc auto_no) | fail)
      all_goals try (exfalso; omega)
      subst hi0
      exact ⟨mm - 1, _, _, by omega, auto_ent, 0 + 1, oZ, oE, oR, _, _, _, .vw oN 1 0 1, ⟨m1, m2, m3, z1, z2, z3⟩, auto_heap, auto_heap, auto_heap, fun p y hp => by have h2 := hfr p y hp; exact auto_heap,
        .inr ⟨by omega, oN, rfl, auto_heap, none_frame hfr (by (first | assumption | exact AHeap.none_of_set ((by assumption)) | exact AHeap.none_of_set (AHeap.none_of_set ((by assumption))) | exact AHeap.none_of_set (AHeap.none_of_set (AHeap.none_of_set ((by assumption)))) | exact AHeap.none_of_set (AHeap.none_of_set (AHeap.none_of_set (AHeap.none_of_set ((by assumption))))) | exact AHeap.none_of_set (AHeap.none_of_set (AHeap.none_of_set (AHeap.none_of_set (AHeap.none_of_set ((by assumption)))))) | exact AHeap.none_of_set (AHeap.none_of_set (AHeap.none_of_set (AHeap.none_of_set (AHeap.none_of_set (AHeap.none_of_set ((by assumption))))))) | exact AHeap.none_of_set (AHeap.none_of_set (AHeap.none_of_set (AHeap.none_of_set (AHeap.none_of_set (AHeap.none_of_set (AHeap.none_of_set ((by assumption)))))))) | exact AHeap.none_of_set (AHeap.none_of_set (AHeap.none_of_set (AHeap.none_of_set (AHeap.none_of_set (AHeap.none_of_set (AHeap.none_of_set (AHeap.none_of_set ((by assumption))))))))) | exact AHeap.none_of_set (AHeap.none_of_set (AHeap.none_of_set (AHeap.none_of_set (AHeap.none_of_set (AHeap.none_of_set (AHeap.none_of_set (AHeap.none_of_set (AHeap.none_of_set ((by assumption)))))))))) | exact AHeap.none_of_set (AHeap.none_of_set (AHeap.none_of_set (AHeap.none_of_set (AHeap.none_of_set (AHeap.none_of_set (AHeap.none_of_set (AHeap.none_of_set (AHeap.none_of_set (AHeap.none_of_set ((by assumption))))))))))))), by (first | assumption | exact Ne.symm (by assumption) | exact AHeap.ne_of_fresh (by assumption) | exact Ne.symm (AHeap.ne_of_fresh (by assumption)) | exact AHeap.ne_of_fresh (AHeap.none_of_set (by assumption)) | exact Ne.symm (AHeap.ne_of_fresh (AHeap.none_of_set (by assumption))) | exact AHeap.ne_ns (by assumption) (by assumption) | exact AHeap.ne_sn (by assumption) (by assumption) | exact AHeap.ne_ns (by assumption) auto_heap2 | exact AHeap.ne_sn (by assumption) auto_heap2), by (first | assumption | exact Ne.symm (by assumption) | exact AHeap.ne_of_fresh (by assumption) | exact Ne.symm (AHeap.ne_of_fresh (by assumption)) | exact AHeap.ne_of_fresh (AHeap.none_of_set (by assumption)) | exact Ne.symm (AHeap.ne_of_fresh (AHeap.none_of_set (by assumption))) | exact AHeap.ne_ns (by assumption) (by assumption) | exact AHeap.ne_sn (by assumption) (by assumption) | exact AHeap.ne_ns (by assumption) auto_heap2 | exact AHeap.ne_sn (by assumption) auto_heap2), by (first | assumption | exact Ne.symm (by assumption) | exact AHeap.ne_of_fresh (by assumption) | exact Ne.symm (AHeap.ne_of_fresh (by assumption)) | exact AHeap.ne_of_fresh (AHeap.none_of_set (by assumption)) | exact Ne.symm (AHeap.ne_of_fresh (AHeap.none_of_set (by assumption))) | exact AHeap.ne_ns (by assumption) (by assumption) | exact AHeap.ne_sn (by assumption) (by assumption) | exact AHeap.ne_ns (by assumption) auto_heap2 | exact AHeap.ne_sn (by assumption) auto_heap2)⟩, hsn, rfl, by omega⟩
    · (first | focus (refine yy10 ?_; refine aw_condp rfl (fun hc => ?_) (fun hc => ?_); refine yy83 ?_; refine aw_block ?_; refine DC.aw_drawp (fun H' => H' oE = some (.cel [.raw (.int .u64 ((rd b).1 : Int)), .raw (.int .u64 ((rd (rd b).2.1).1 : Int)), .vw oW 1 0 i])) (by first | exact auto_heap | exact ⟨auto_heap, auto_heap⟩ | exact ⟨auto_heap, auto_heap, auto_heap⟩) auto_kr auto_dk auto_dk ?_; (apply DC.awn_s; · (intro H1 hPsi; (try dsimp only at hPsi); (try (obtain ⟨hPsi, hPsi2⟩ := hPsi)); exact s_fieldAddr_ptr rfl)); (apply DC.awn_s; · (intro H1 hPsi; (try dsimp only at hPsi); (try (obtain ⟨hPsi, hPsi2⟩ := hPsi)); exact s_load_cel rfl auto_heap rfl)); (apply DC.awn_s; · (intro H1 hPsi; (try dsimp only at hPsi); (try (obtain ⟨hPsi, hPsi2⟩ := hPsi)); exact s_move (v := .ptr _ _) rfl)); refine DC.awn_b ?_; refine DC.awn_b ?_; refine DC.awn_b ?_; (apply DC.awn_s; · (intro H1 hPsi; (try dsimp only at hPsi); (try (obtain ⟨hPsi, hPsi2⟩ := hPsi)); exact s_fieldAddr_ptr rfl)); refine DC.awn_b0 ?_; refine DC.awn_nil ?_; refine DC.awc_cons (fun Rx K1 hK1x => ?_); (refine zc auto_wl (RI_calls _ _ _ _ auto_heap auto_sd) ?_; rintro r H' ⟨rfl, rfl⟩); refine yy7 ?_; (refine hK1x _ _ (by first | exact Or.inl (by decide +kernel) | (refine Or.inr ?_; (try dsimp only); first | exact auto_heap | exact ⟨auto_heap, auto_heap⟩ | exact ⟨auto_heap, auto_heap, auto_heap⟩)) ?_; clear hK1x K1 Rx); refine DC.awc_cons (fun Rx K1 hK1x => ?_); refine yy92 ?_; refine yy7 ?_; (refine hK1x _ _ (by first | exact Or.inl (by decide +kernel) | (refine Or.inr ?_; (try dsimp only); first | exact auto_heap | exact ⟨auto_heap, auto_heap⟩ | exact ⟨auto_heap, auto_heap, auto_heap⟩)) ?_; clear hK1x K1 Rx); refine DC.awc_cons (fun Rx K1 hK1x => ?_); refine za4 rfl rfl rfl auto_heap auto_al auto_src auto_len auto_len (fun oN hoN => ?_); refine yy7 ?_; (refine hK1x _ _ (by first | exact Or.inl (by decide +kernel) | (refine Or.inr ?_; (try dsimp only); first | exact auto_heap | exact ⟨auto_heap, auto_heap⟩ | exact ⟨auto_heap, auto_heap, auto_heap⟩)) ?_; clear hK1x K1 Rx); refine DC.awc_cons0 (fun Rx K1 hK1x => ?_); refine yy72 ?_; (refine hK1x _ (by first | exact Or.inl (by decide +kernel) | (refine Or.inr ?_; (try dsimp only); first | exact auto_heap | exact ⟨auto_heap, auto_heap⟩ | exact ⟨auto_heap, auto_heap, auto_heap⟩)) ?_; clear hK1x K1 Rx); refine DC.awc_nil ?_; refine yy84 ?_; refine awl_s rfl (s_addu rfl rfl auto_len) ?_; refine yy104 ?_; rotate_left; exact absurd hc auto_no) | fail)
      all_goals try (exfalso; omega)
      exact ⟨mm - 1, _, _, by omega, auto_ent, i + 1, oZ, oE, oR, _, _, _, .vw oN 1 0 (i + 1), ⟨m1, m2, m3, z1, z2, z3⟩, auto_heap, auto_heap, auto_heap, fun p y hp => by have h2 := hfr p y hp; exact auto_heap,
        .inr ⟨by omega, oN, rfl, by rw [List.map_append]; exact auto_heap, none_frame hfr (by (first | assumption | exact AHeap.none_of_set ((by assumption)) | exact AHeap.none_of_set (AHeap.none_of_set ((by assumption))) | exact AHeap.none_of_set (AHeap.none_of_set (AHeap.none_of_set ((by assumption)))) | exact AHeap.none_of_set (AHeap.none_of_set (AHeap.none_of_set (AHeap.none_of_set ((by assumption))))) | exact AHeap.none_of_set (AHeap.none_of_set (AHeap.none_of_set (AHeap.none_of_set (AHeap.none_of_set ((by assumption)))))) | exact AHeap.none_of_set (AHeap.none_of_set (AHeap.none_of_set (AHeap.none_of_set (AHeap.none_of_set (AHeap.none_of_set ((by assumption))))))) | exact AHeap.none_of_set (AHeap.none_of_set (AHeap.none_of_set (AHeap.none_of_set (AHeap.none_of_set (AHeap.none_of_set (AHeap.none_of_set ((by assumption)))))))) | exact AHeap.none_of_set (AHeap.none_of_set (AHeap.none_of_set (AHeap.none_of_set (AHeap.none_of_set (AHeap.none_of_set (AHeap.none_of_set (AHeap.none_of_set ((by assumption))))))))) | exact AHeap.none_of_set (AHeap.none_of_set (AHeap.none_of_set (AHeap.none_of_set (AHeap.none_of_set (AHeap.none_of_set (AHeap.none_of_set (AHeap.none_of_set (AHeap.none_of_set ((by assumption)))))))))) | exact AHeap.none_of_set (AHeap.none_of_set (AHeap.none_of_set (AHeap.none_of_set (AHeap.none_of_set (AHeap.none_of_set (AHeap.none_of_set (AHeap.none_of_set (AHeap.none_of_set (AHeap.none_of_set ((by assumption))))))))))))), by (first | assumption | exact Ne.symm (by assumption) | exact AHeap.ne_of_fresh (by assumption) | exact Ne.symm (AHeap.ne_of_fresh (by assumption)) | exact AHeap.ne_of_fresh (AHeap.none_of_set (by assumption)) | exact Ne.symm (AHeap.ne_of_fresh (AHeap.none_of_set (by assumption))) | exact AHeap.ne_ns (by assumption) (by assumption) | exact AHeap.ne_sn (by assumption) (by assumption) | exact AHeap.ne_ns (by assumption) auto_heap2 | exact AHeap.ne_sn (by assumption) auto_heap2), by (first | assumption | exact Ne.symm (by assumption) | exact AHeap.ne_of_fresh (by assumption) | exact Ne.symm (AHeap.ne_of_fresh (by assumption)) | exact AHeap.ne_of_fresh (AHeap.none_of_set (by assumption)) | exact Ne.symm (AHeap.ne_of_fresh (AHeap.none_of_set (by assumption))) | exact AHeap.ne_ns (by assumption) (by assumption) | exact AHeap.ne_sn (by assumption) (by assumption) | exact AHeap.ne_ns (by assumption) auto_heap2 | exact AHeap.ne_sn (by assumption) auto_heap2), by (first | assumption | exact Ne.symm (by assumption) | exact AHeap.ne_of_fresh (by assumption) | exact Ne.symm (AHeap.ne_of_fresh (by assumption)) | exact AHeap.ne_of_fresh (AHeap.none_of_set (by assumption)) | exact Ne.symm (AHeap.ne_of_fresh (AHeap.none_of_set (by assumption))) | exact AHeap.ne_ns (by assumption) (by assumption) | exact AHeap.ne_sn (by assumption) (by assumption) | exact AHeap.ne_ns (by assumption) auto_heap2 | exact AHeap.ne_sn (by assumption) auto_heap2)⟩, hsn, rfl, by omega⟩
  obtain rfl : i = n := by omega
  rw [hrd] at hE
  simp only at hE
  by_cases hbad : f' = true ∨ b' ≠ []
  · rw [if_pos hbad] at hE
    have hbd : f' = true ∨ 0 < b'.length := hbad.imp id List.length_pos_iff.2
    cases f' with
    | true =>
      (first | focus (refine yy10 ?_; refine yy28 ?_; intro hc; refine yy12 ?_; refine yy17 ?_; (refine zc auto_wl (bad_calls _ _ _ _ auto_heap) ?_; rintro r H' ⟨rfl, rfl⟩); refine yy2 ?_; refine yy54 ?_; refine yy41 ?_; refine yy48 ?_; refine yy79 ?_; refine yy75 ?_; refine yy89 ?_; refine yy9 ?_; refine yy21 ?_; rotate_left) | fail)
      all_goals first
        | (exfalso; omega)
        | exact ⟨.inl rfl, _, _, _, Ent.cellRet 2 En0.cells rfl auto_heap (by ((repeat' (first | exact WC.nil | apply WC.cons)); all_goals (first | exact W.of rfl | exact W.int rfl | exact W.nilb rfl | exact W.empb rfl | exact W.bysx rfl | exact W.nils rfl | exact W.emps rfl | exact W.slsx rfl))) (fun p y hp => by have h2 := hfr p y hp; exact ⟨by (first | assumption | exact Ne.symm (by assumption) | exact AHeap.ne_of_fresh (by assumption) | exact Ne.symm (AHeap.ne_of_fresh (by assumption)) | exact AHeap.ne_of_fresh (AHeap.none_of_set (by assumption)) | exact Ne.symm (AHeap.ne_of_fresh (AHeap.none_of_set (by assumption))) | exact AHeap.ne_ns (by assumption) (by assumption) | exact AHeap.ne_sn (by assumption) (by assumption) | exact AHeap.ne_ns (by assumption) auto_heap2 | exact AHeap.ne_sn (by assumption) auto_heap2), auto_heap⟩), ret_2 rfl (rv1_agg (m := 3) rfl rfl rfl (by decide)) (rv1_tmp rfl), by rw [hE]; rfl, rfl⟩
    | false =>
      have hbd : 0 < b'.length := by simpa using hbd
      (first | focus (refine yy10 ?_; refine yy28 ?_; intro hc; refine yy12 ?_; refine yy17 ?_; (refine zc auto_wl (bad_calls _ _ _ _ auto_heap) ?_; rintro r H' ⟨rfl, rfl⟩); refine yy19 ?_; refine yy36 ?_; (refine zc auto_wl (left_calls _ _ _ _ auto_heap) ?_; rintro r H' ⟨rfl, rfl⟩); refine yy5 ?_; refine yy27 ?_; refine yy43 ?_; refine aw_condp rfl (fun hc => ?_) (fun hc => ?_); refine yy4 ?_; refine yy75 ?_; refine yy89 ?_; refine yy9 ?_; refine yy21 ?_; rotate_left; exact absurd hc auto_no) | fail)
      all_goals first
        | (exfalso; omega)
        | exact ⟨.inl rfl, _, _, _, Ent.cellRet 2 En0.cells rfl auto_heap (by ((repeat' (first | exact WC.nil | apply WC.cons)); all_goals (first | exact W.of rfl | exact W.int rfl | exact W.nilb rfl | exact W.empb rfl | exact W.bysx rfl | exact W.nils rfl | exact W.emps rfl | exact W.slsx rfl))) (fun p y hp => by have h2 := hfr p y hp; exact ⟨by (first | assumption | exact Ne.symm (by assumption) | exact AHeap.ne_of_fresh (by assumption) | exact Ne.symm (AHeap.ne_of_fresh (by assumption)) | exact AHeap.ne_of_fresh (AHeap.none_of_set (by assumption)) | exact Ne.symm (AHeap.ne_of_fresh (AHeap.none_of_set (by assumption))) | exact AHeap.ne_ns (by assumption) (by assumption) | exact AHeap.ne_sn (by assumption) (by assumption) | exact AHeap.ne_ns (by assumption) auto_heap2 | exact AHeap.ne_sn (by assumption) auto_heap2), auto_heap⟩), ret_2 rfl (rv1_agg (m := 3) rfl rfl rfl (by decide)) (rv1_tmp rfl), by rw [hE]; rfl, rfl⟩
  rw [if_neg hbad] at hE
  obtain ⟨hf, hb0⟩ := not_or.1 hbad
  have hf : f' = false := by simpa using hf
  have hb0 : b' = [] := by simpa using hb0
  subst hf
  subst hb0
  rcases hrc with ⟨hi0, rfl⟩ | ⟨hi0, oW, rfl, q4, z4, m4, m5, m6⟩
  · (first | focus (refine yy10 ?_; refine yy28 ?_; intro hc; refine yy12 ?_; refine yy17 ?_; (refine zc auto_wl (bad_calls _ _ _ _ auto_heap) ?_; rintro r H' ⟨rfl, rfl⟩); refine yy19 ?_; refine yy36 ?_; (refine zc auto_wl (left_calls _ _ _ _ auto_heap) ?_; rintro r H' ⟨rfl, rfl⟩); refine yy5 ?_; refine yy27 ?_; refine yy43 ?_; refine yy53 ?_; intro hc; refine yy4 ?_; refine yy64 ?_; refine yy9 ?_; rotate_left) | fail)
    all_goals try (exfalso; omega)
    obtain rfl : row = [] := List.length_eq_zero_iff.1 (by omega)
    exact ⟨.inl rfl, _, _, _, Ent.cellRet 2 (En.cells ⟨(rd b).1, (rd (rd b).2.1).1, []⟩) rfl auto_heap (by ((repeat' (first | exact WC.nil | apply WC.cons)); all_goals (first | exact W.of rfl | exact W.int rfl | exact W.nilb rfl | exact W.empb rfl | exact W.bysx rfl | exact W.nils rfl | exact W.emps rfl | exact W.slsx rfl))) (fun p y hp => by have h2 := hfr p y hp; exact ⟨by (first | assumption | exact Ne.symm (by assumption) | exact AHeap.ne_of_fresh (by assumption) | exact Ne.symm (AHeap.ne_of_fresh (by assumption)) | exact AHeap.ne_of_fresh (AHeap.none_of_set (by assumption)) | exact Ne.symm (AHeap.ne_of_fresh (AHeap.none_of_set (by assumption))) | exact AHeap.ne_ns (by assumption) (by assumption) | exact AHeap.ne_sn (by assumption) (by assumption) | exact AHeap.ne_ns (by assumption) auto_heap2 | exact AHeap.ne_sn (by assumption) auto_heap2), auto_heap⟩), ret_2 rfl (rv1_agg (m := 3) rfl rfl rfl (by decide)) (rv1_tmp rfl), by rw [hE]; rfl, rfl⟩
  · (first | focus (refine yy10 ?_; refine yy28 ?_; intro hc; refine yy12 ?_; refine yy17 ?_; (refine zc auto_wl (bad_calls _ _ _ _ auto_heap) ?_; rintro r H' ⟨rfl, rfl⟩); refine yy19 ?_; refine yy36 ?_; (refine zc auto_wl (left_calls _ _ _ _ auto_heap) ?_; rintro r H' ⟨rfl, rfl⟩); refine yy5 ?_; refine yy27 ?_; refine yy43 ?_; refine yy53 ?_; intro hc; refine yy4 ?_; refine yy64 ?_; refine yy9 ?_; rotate_left) | fail)
    all_goals try (exfalso; omega)
    refine ⟨.inl rfl, _, _, _, Ent.trans (Ent.seal_cellC (p := oZ) (o := oW) (k := 2) (len := i) (sz := 1) (ys := row.map mI) m6.symm auto_heap auto_heap rfl (by simp [hrl])) (Ent.cellRet 2 (En.cells ⟨(rd b).1, (rd (rd b).2.1).1, row⟩) rfl (AHeap.set_self _ _ _) ?_ (fun p y hp => ?_)), ret_2 rfl (rv1_agg (m := 3) rfl rfl rfl (by decide)) (rv1_tmp rfl), by rw [hE]; rfl, rfl⟩
    · rw [← hrl]
      ((repeat' (first | exact WC.nil | apply WC.cons)); all_goals (first | exact W.of rfl | exact W.int rfl | exact W.nilb rfl | exact W.empb rfl | exact W.bysx rfl | exact W.nils rfl | exact W.emps rfl | exact W.slsx rfl))
    · have h2 := hfr p y hp
      refine ⟨by (first | assumption | exact Ne.symm (by assumption) | exact AHeap.ne_of_fresh (by assumption) | exact Ne.symm (AHeap.ne_of_fresh (by assumption)) | exact AHeap.ne_of_fresh (AHeap.none_of_set (by assumption)) | exact Ne.symm (AHeap.ne_of_fresh (AHeap.none_of_set (by assumption))) | exact AHeap.ne_ns (by assumption) (by assumption) | exact AHeap.ne_sn (by assumption) (by assumption) | exact AHeap.ne_ns (by assumption) auto_heap2 | exact AHeap.ne_sn (by assumption) auto_heap2), ?_⟩
      refine AHeap.get_skip (by (first | assumption | exact Ne.symm (by assumption) | exact AHeap.ne_of_fresh (by assumption) | exact Ne.symm (AHeap.ne_of_fresh (by assumption)) | exact AHeap.ne_of_fresh (AHeap.none_of_set (by assumption)) | exact Ne.symm (AHeap.ne_of_fresh (AHeap.none_of_set (by assumption))) | exact AHeap.ne_ns (by assumption) (by assumption) | exact AHeap.ne_sn (by assumption) (by assumption) | exact AHeap.ne_ns (by assumption) auto_heap2 | exact AHeap.ne_sn (by assumption) auto_heap2)) (AHeap.get_unerase (by (first | assumption | exact Ne.symm (by assumption) | exact AHeap.ne_of_fresh (by assumption) | exact Ne.symm (AHeap.ne_of_fresh (by assumption)) | exact AHeap.ne_of_fresh (AHeap.none_of_set (by assumption)) | exact Ne.symm (AHeap.ne_of_fresh (AHeap.none_of_set (by assumption))) | exact AHeap.ne_ns (by assumption) (by assumption) | exact AHeap.ne_sn (by assumption) (by assumption) | exact AHeap.ne_ns (by assumption) auto_heap2 | exact AHeap.ne_sn (by assumption) auto_heap2)) ?_)
      exact auto_heap
end Go.Proofs.Ytbciofnejefkiaa

namespace Go.Proofs.Ytbciofnejefkiaa
open Go Go.Am Go.Proofs
set_option linter.unusedSimpArgs false
set_option linter.unusedVariables false
set_option maxRecDepth 20000
set_option maxHeartbeats 4000000

/-- So many entries, read one behind the other: those read, what is behind, whether all went well; false at last: one is none. -/
def rdEs : Nat → List UInt8 → Bool → List En × List UInt8 × Bool × Bool
  | 0, b, f => ([], b, f, true)
  | n + 1, b, f =>
    match getE (rs b).1 with
    | none => ([], (rs b).2.1, (f || (rs b).2.2), false)
    | some e => (e :: (rdEs n (rs b).2.1 (f || (rs b).2.2)).1, (rdEs n (rs b).2.1 (f || (rs b).2.2)).2)
def entsB (b : List UInt8) (f : Bool) : List En × List UInt8 × Bool × Bool :=
  if 200 < (rd b).1 then ([], (rd b).2.1, (f || (rd b).2.2), false) else rdEs (rd b).1 (rd b).2.1 (f || (rd b).2.2)
def outEs (x : List En × List UInt8 × Bool × Bool) : AV := if x.2.2.2 = true then .tup [.sls x.1.length (x.1.flatMap En.cells), .raw (.int .i64 (0 : Int))] else .tup [.sls 0 [], .raw (.int .i64 (3 : Int))]
theorem rdEs_none {n : Nat} {b : List UInt8} {f : Bool} (h : getE (rs b).1 = none) : rdEs (n + 1) b f = ([], (rs b).2.1, (f || (rs b).2.2), false) := by rw [rdEs, h]
theorem rdEs_some {n : Nat} {b : List UInt8} {f : Bool} {e : En} (h : getE (rs b).1 = some e) : rdEs (n + 1) b f = (e :: (rdEs n (rs b).2.1 (f || (rs b).2.2)).1, (rdEs n (rs b).2.1 (f || (rs b).2.2)).2) := by rw [rdEs, h]
theorem rs_text (b : List UInt8) : (rs b).1.length ≤ b.length := by
  have := rd_len b
  unfold rs
  split <;> simp
  omega

theorem entries_calls (H : AHeap) (o : Nat) (b : List UInt8) (f : Bool) (h : H o = some (.cel [.bys b, .raw (.bool f)])) (hb : b.length ≤ 100000000) :
    ACalls Try.prog 88 [.ptr o 0] H fun r H' => r = outEs (entsB b f) ∧ (H' o = some (.cel [.bys (entsB b f).2.1, .raw (.bool (entsB b f).2.2.1)]) ∧ ∀ p y, p ≠ o → H p = some y → H' p = some y) := by
  have l1 := rd_len b
  refine acalls_of_aw1 Try.func88 rfl (by decide) ?_
  (first | focus (refine yy4 ?_; refine yy30 ?_; refine yy24 ?_; refine yy17 ?_; (refine zc auto_wl (RU_calls _ _ _ _ auto_heap auto_sd) ?_; rintro r H' ⟨rfl, rfl⟩); refine yy6 ?_; refine yy11 ?_; refine yy27 ?_; refine yy3 ?_; refine aw_condp rfl (fun hc => ?_) (fun hc => ?_); refine yy4 ?_; refine yy30 ?_; refine yy9 ?_; refine yy21 ?_; rotate_left; refine yy66 ?_; refine yy4 ?_; refine yy6 ?_; refine yy11 ?_; refine yy56 ?_; rotate_left) | fail)
  · have e : entsB b f = ([], (rd b).2.1, (f || (rd b).2.2), false) := by rw [entsB, if_pos hc]
    exact ⟨.inl rfl, _, _, _, Ent.weakReg 2 rfl (W.nils rfl), ret2 rfl rfl rfl, by rw [e]; rfl, by rw [e]; exact auto_heap, fun p y hp hy => auto_heap⟩
  have e : entsB b f = rdEs (rd b).1 (rd b).2.1 (f || (rd b).2.2) := if_neg hc
  rw [e]
  have hn : (rd b).1 ≤ 200 := by omega
  generalize (rd b).1 = n at *
  generalize (rd b).2.1 = b1 at *
  generalize (f || (rd b).2.2) = f1 at *
  clear e hc
  refine aw_own_nil 5 3 (.cel []) rfl rfl (fun oL hoL => ?_)
  refine aw_loop (fun mm R' H2 => ∃ (i oL : Nat) (l : List En) (b' : List UInt8) (f' : Bool), (H oL = none ∧ oL ≠ o ∧ H2 oL = some (.cel (l.flatMap En.cells)) ∧ H2 o = some (.cel [.bys b', .raw (.bool f')]) ∧ ∀ p y, p ≠ o → H p = some y → H2 p = some y) ∧ l.length = i ∧ b'.length ≤ b1.length ∧
    rdEs n b1 f1 = (l ++ (rdEs (n - i) b' f').1, (rdEs (n - i) b' f').2) ∧
    R' = [(0, .ptr o 0), (5, .vw oL 3 0 i), (12, .raw (.int .u64 (n : Int))), (13, .raw (.int .u64 (i : Int)))] ∧ i + mm = n) ?_ ?_
  · exact ⟨n, _, _, auto_ent, 0, oL, [], b1, f1, ⟨by (first | assumption | exact AHeap.none_of_set ((by assumption)) | exact AHeap.none_of_set (AHeap.none_of_set ((by assumption))) | exact AHeap.none_of_set (AHeap.none_of_set (AHeap.none_of_set ((by assumption)))) | exact AHeap.none_of_set (AHeap.none_of_set (AHeap.none_of_set (AHeap.none_of_set ((by assumption))))) | exact AHeap.none_of_set (AHeap.none_of_set (AHeap.none_of_set (AHeap.none_of_set (AHeap.none_of_set ((by assumption)))))) | exact AHeap.none_of_set (AHeap.none_of_set (AHeap.none_of_set (AHeap.none_of_set (AHeap.none_of_set (AHeap.none_of_set ((by assumption))))))) | exact AHeap.none_of_set (AHeap.none_of_set (AHeap.none_of_set (AHeap.none_of_set (AHeap.none_of_set (AHeap.none_of_set (AHeap.none_of_set ((by assumption)))))))) | exact AHeap.none_of_set (AHeap.none_of_set (AHeap.none_of_set (AHeap.none_of_set (AHeap.none_of_set (AHeap.none_of_set (AHeap.none_of_set (AHeap.none_of_set ((by assumption))))))))) | exact AHeap.none_of_set (AHeap.none_of_set (AHeap.none_of_set (AHeap.none_of_set (AHeap.none_of_set (AHeap.none_of_set (AHeap.none_of_set (AHeap.none_of_set (AHeap.none_of_set ((by assumption)))))))))) | exact AHeap.none_of_set (AHeap.none_of_set (AHeap.none_of_set (AHeap.none_of_set (AHeap.none_of_set (AHeap.none_of_set (AHeap.none_of_set (AHeap.none_of_set (AHeap.none_of_set (AHeap.none_of_set ((by assumption)))))))))))), by (first | assumption | exact Ne.symm (by assumption) | exact AHeap.ne_of_fresh (by assumption) | exact Ne.symm (AHeap.ne_of_fresh (by assumption)) | exact AHeap.ne_of_fresh (AHeap.none_of_set (by assumption)) | exact Ne.symm (AHeap.ne_of_fresh (AHeap.none_of_set (by assumption))) | exact AHeap.ne_ns (by assumption) (by assumption) | exact AHeap.ne_sn (by assumption) (by assumption) | exact AHeap.ne_ns (by assumption) auto_heap2 | exact AHeap.ne_sn (by assumption) auto_heap2), AHeap.set_self _ _ _, auto_heap, fun p y hp hy => auto_heap⟩, rfl, Nat.le_refl _, by simp, rfl, by omega⟩
  clear hoL oL
  rintro mm R0 H2 ⟨i, oL, l, b', f', ⟨hoL, hne, q1, q2, hfr⟩, hl, hbl, hrd, rfl, hi⟩
  have hfl : (l.flatMap En.cells).length = i * 3 := by rw [flat_len (sz := 3) (fun _ => rfl), hl]
  by_cases hlt : i < n
  · have hsn : n - i = (n - (i + 1)) + 1 := by omega
    have l2 := rs_text b'
    have l3 := rs_len b'
    cases hg : getE (rs b').1 with
    | none =>
      have hG : ∀ H, ACalls Try.prog 58 [.bys (rs b').1] H fun r H' => r = .tup [.agg En0.cells, .raw (.int .i64 (3 : Int))] ∧ H' = H := fun H => (GetEntry_calls H _ (by omega)).mono (by rw [hg]; exact fun _ _ h => h)
      rw [hsn, rdEs_none hg] at hrd
      (first | focus (refine yy10 ?_; refine aw_condp rfl (fun hc => ?_) (fun hc => ?_); refine yy26 ?_; refine yy17 ?_; (refine zc auto_wl (RS_calls _ _ _ _ q2 (by omega)) ?_; rintro r H' ⟨rfl, rfl⟩); refine awl_s rfl (s_str_bytes rfl) ?_; (refine zc auto_wl (hG _) ?_; rintro r H' ⟨rfl, rfl⟩); refine yy73 ?_; refine awl_alloc rfl rfl rfl (fun oN hoN => ?_); refine yy80 ?_; refine yy6 ?_; refine yy11 ?_; refine yy70 ?_; refine yy3 ?_; refine aw_condp rfl (fun hc => ?_) (fun hc => ?_); refine yy50 ?_; refine yy30 ?_; refine yy9 ?_; refine yy51 ?_; refine yy51 ?_; rotate_left; exact absurd hc auto_no; exact absurd hc auto_no) | fail)
      all_goals first
        | (exfalso; omega)
        | exact ⟨.inl rfl, _, _, _, Ent.weakReg 2 rfl (W.nils rfl), ret2 rfl rfl rfl, by rw [hrd]; rfl, by rw [hrd]; exact AHeap.set_self _ _ _, fun p y hp hy => AHeap.get_skip hp (hfr p y hp hy)⟩
        | trace_state
    | some e =>
      have hG : ∀ H, ACalls Try.prog 58 [.bys (rs b').1] H fun r H' => r = .tup [.agg e.cells, .raw (.int .i64 (0 : Int))] ∧ H' = H := fun H => (GetEntry_calls H _ (by omega)).mono (by rw [hg]; exact fun _ _ h => h)
      rw [hsn, rdEs_some hg] at hrd
      (first | focus (refine yy10 ?_; refine aw_condp rfl (fun hc => ?_) (fun hc => ?_); refine yy26 ?_; refine yy17 ?_; (refine zc auto_wl (RS_calls _ _ _ _ q2 (by omega)) ?_; rintro r H' ⟨rfl, rfl⟩); refine awl_s rfl (s_str_bytes rfl) ?_; (refine zc auto_wl (hG _) ?_; rintro r H' ⟨rfl, rfl⟩); refine yy73 ?_; refine awl_alloc rfl rfl rfl (fun oN hoN => ?_); refine yy80 ?_; refine yy6 ?_; refine yy11 ?_; refine yy70 ?_; refine yy3 ?_; refine yy53 ?_; intro hc; refine aw_region ?_; refine yy52 ?_; refine yy62 ?_; refine yy92 ?_; refine za4 rfl rfl rfl auto_heap auto_al auto_src auto_len auto_len (fun oN hoN => ?_); refine yy65 ?_; refine yy7 ?_; refine yy84 ?_; refine awl_s rfl (s_addu rfl rfl auto_len) ?_; refine yy104 ?_; rotate_left; exact absurd hc auto_no) | fail)
      all_goals try (exfalso; omega)
      have hN2 : H2 oN = none := AHeap.none_of_set hoN
      have n1 : oN ≠ o := by (first | assumption | exact Ne.symm (by assumption) | exact AHeap.ne_of_fresh (by assumption) | exact Ne.symm (AHeap.ne_of_fresh (by assumption)) | exact AHeap.ne_of_fresh (AHeap.none_of_set (by assumption)) | exact Ne.symm (AHeap.ne_of_fresh (AHeap.none_of_set (by assumption))) | exact AHeap.ne_ns (by assumption) (by assumption) | exact AHeap.ne_sn (by assumption) (by assumption) | exact AHeap.ne_ns (by assumption) auto_heap2 | exact AHeap.ne_sn (by assumption) auto_heap2)
      have n2 : ∀ p y, H2 p = some y → p ≠ oN := fun p y hp e => by subst e; rw [hN2] at hp; cases hp
      refine ⟨mm - 1, _, _, by omega, Ent.sub _ (by (repeat' (first | exact RSub.nil _ | apply RSub.cons)); all_goals rfl), i + 1, oN, l ++ [e], _, _, ⟨?_, n1, ?_, ?_, fun p y hp hy => ?_⟩, by simp [hl], ?_, by rw [hrd]; simp; exact ⟨rfl, rfl⟩, rfl, by omega⟩
      · cases e' : H oN with
        | none => rfl
        | some y => have := hfr _ _ n1 e'; rw [hN2] at this; cases this
      · rw [List.flatMap_append]; exact AHeap.set_self _ _ _
      · exact AHeap.get_skip n1.symm (AHeap.get_unerase hne.symm (AHeap.set_self _ _ _))
      · have h2 := hfr p y hp hy
        refine AHeap.get_skip (n2 p y h2) (AHeap.get_unerase ?_ (AHeap.get_skip hp h2))
        rintro rfl
        rw [hoL] at hy; cases hy
      · omega
  obtain rfl : i = n := by omega
  rw [Nat.sub_self] at hrd
  simp only [rdEs, List.append_nil] at hrd
  (first | focus (refine yy10 ?_; refine yy28 ?_; intro hc; refine yy4 ?_; refine yy52 ?_; refine yy65 ?_; refine yy9 ?_; rotate_left) | fail)
  all_goals try (exfalso; omega)
  refine ⟨.inl rfl, _, _, _, Ent.seal_cel (i := 2) rfl q1 hfl, ret2 rfl rfl rfl, by rw [hrd, ← hl]; rfl, by rw [hrd]; exact AHeap.get_unerase hne.symm q2, fun p y hp hy => AHeap.get_unerase ?_ (hfr p y hp hy)⟩
  rintro rfl
  rw [hoL] at hy; cases hy
end Go.Proofs.Ytbciofnejefkiaa

namespace Go.Proofs.Ytbciofnejefkiaa
open Go Go.Am Go.Proofs
set_option linter.unusedSimpArgs false
set_option linter.unusedVariables false
set_option maxRecDepth 20000
set_option maxHeartbeats 4000000

theorem unzig_rng (u : Nat) : b64 (unzig u) := by
  unfold unzig
  show -9223372036854775808 ≤ IntKind.i64.wrap _ ∧ IntKind.i64.wrap _ ≤ 9223372036854775807
  rw [IntKind.wrap_i64]; omega
theorem RU_at {b b' : List UInt8} {u : Nat} {g : Bool} (e : rd b = (u, b', g)) (H : AHeap) (o : Nat) (f : Bool) (h : H o = some (.cel [.bys b, .raw (.bool f)])) (hb : b.length ≤ 4000000000) :
    ACalls Try.prog 57 [.ptr o 0] H fun r H' => r = .raw (.int .u64 (u : Int)) ∧ H' = H.set o (.cel [.bys b', .raw (.bool (f || g))]) := by
  have := RU_calls H o b f h hb
  rw [e] at this
  exact this
theorem RI_at {b b' : List UInt8} {u : Nat} {g : Bool} {v : Int} (e : rd b = (u, b', g)) (hv : unzig u = v) (H : AHeap) (o : Nat) (f : Bool) (h : H o = some (.cel [.bys b, .raw (.bool f)])) (hb : b.length ≤ 4000000000) :
    ACalls Try.prog 82 [.ptr o 0] H fun r H' => r = mI v ∧ H' = H.set o (.cel [.bys b', .raw (.bool (f || g))]) := by
  have := RI_calls H o b f h hb
  rw [e] at this
  subst hv
  exact this
/-! A reader's state: the bytes, whether it is bad. -/
abbrev RS := List UInt8 × Bool
def stN (s : RS) : RS := ((rd s.1).2.1, s.2 || (rd s.1).2.2)
def vlN (s : RS) : Nat := (rd s.1).1
theorem stN_at {b b' : List UInt8} {u : Nat} {g f : Bool} (e : rd b = (u, b', g)) : stN (b, f) = (b', f || g) := by rw [stN, e]
theorem vlN_at {b b' : List UInt8} {u : Nat} {g f : Bool} (e : rd b = (u, b', g)) : vlN (b, f) = u := by rw [vlN, e]
def Mg0 : Mg := ⟨0, 0, 0, 0, 0, 0, 0, [], []⟩
def s7 (t : List UInt8) : RS := stN (stN (stN (stN (stN (stN (stN (t, false)))))))
def mgT (t : List UInt8) (l : List En) (b : List UInt8) : Mg :=
  ⟨unzig (vlN (t, false)), unzig (vlN (stN (t, false))), unzig (vlN (stN (stN (t, false)))), vlN (stN (stN (stN (t, false)))), vlN (stN (stN (stN (stN (t, false))))), vlN (stN (stN (stN (stN (stN (t, false)))))), vlN (stN (stN (stN (stN (stN (stN (t, false))))))), l, b⟩
def getT (t : List UInt8) : Option Mg :=
  if (entsB (s7 t).1 (s7 t).2).2.2.2 = false then none
  else if ((entsB (s7 t).1 (s7 t).2).2.2.1 || (rs (entsB (s7 t).1 (s7 t).2).2.1).2.2) = true ∨ (rs (entsB (s7 t).1 (s7 t).2).2.1).2.1 ≠ [] ∨ ¬ (mgT t (entsB (s7 t).1 (s7 t).2).1 (rs (entsB (s7 t).1 (s7 t).2).2.1).1).good then none
  else some (mgT t (entsB (s7 t).1 (s7 t).2).1 (rs (entsB (s7 t).1 (s7 t).2).2.1).1)
def getM (b : List UInt8) : Option Mg := if (takeF b).2.2 = 0 ∨ (takeF b).2.2 ≠ b.length ∨ (takeF b).1 ≠ 0 then none else getT (takeF b).2.1
def outM : Option Mg → AV
  | none => .tup [.agg Mg0.cells, .raw (.int .i64 (3 : Int))]
  | some m => .tup [.agg m.cells, .raw (.int .i64 (0 : Int))]
theorem awl_gen {P : Program} {n : Nat} {ops : Array Oper} {rest : List Oper} {K : Exit → Regs → AHeap → Prop} {R : Regs} {H : AHeap} (Φ : AHeap → Prop) (h : Φ H) (hk : ∀ H3, Φ H3 → AWL P n ops rest K R H3) : AWL P n ops rest K R H := hk H h
theorem getE_ok {b : List UInt8} {e : En} (h : getE b = some e) : e.Ok := by
  unfold getE at h
  split at h
  · cases h
  split at h
  · cases h
  cases h
  refine ⟨rd_lt _, rd_lt _, ?_⟩
  have : ∀ (n : Nat) (b : List UInt8) (f : Bool), ∀ v ∈ (rdIs n b f).1, b64 v := by
    intro n
    induction n with
    | zero => intro b f v hv; cases hv
    | succ n ih =>
      intro b f v hv
      rw [rdIs] at hv
      rcases List.mem_cons.1 hv with rfl | hv
      · exact unzig_rng _
      · exact ih _ _ _ hv
  exact this _ _ _
theorem rdEs_ok : ∀ (n : Nat) (b : List UInt8) (f : Bool), ∀ e ∈ (rdEs n b f).1, e.Ok
  | 0, _, _ => fun e h => by cases h
  | n + 1, b, f => fun e h => by
    cases hg : getE (rs b).1 with
    | none => rw [rdEs_none hg] at h; cases h
    | some x =>
      rw [rdEs_some hg] at h
      rcases List.mem_cons.1 h with rfl | h
      · exact getE_ok hg
      · exact rdEs_ok n _ _ e h
theorem rdEs_num : ∀ (n : Nat) (b : List UInt8) (f : Bool), (rdEs n b f).1.length ≤ n
  | 0, _, _ => Nat.le_refl _
  | n + 1, b, f => by
    cases hg : getE (rs b).1 with
    | none => rw [rdEs_none hg]; simp
    | some x => rw [rdEs_some hg]; have := rdEs_num n (rs b).2.1 (f || (rs b).2.2); simp; omega
theorem rdEs_left : ∀ (n : Nat) (b : List UInt8) (f : Bool), (rdEs n b f).2.1.length ≤ b.length
  | 0, _, _ => Nat.le_refl _
  | n + 1, b, f => by
    have hr := rs_len b
    cases hg : getE (rs b).1 with
    | none => rw [rdEs_none hg]; exact hr
    | some x => rw [rdEs_some hg]; exact Nat.le_trans (rdEs_left n _ _) hr
theorem entsB_ok (b : List UInt8) (f : Bool) : (∀ e ∈ (entsB b f).1, e.Ok) ∧ (entsB b f).1.length ≤ 200 ∧ (entsB b f).2.1.length ≤ b.length := by
  have hl := rd_len b
  unfold entsB
  split
  · exact ⟨fun e h => (by cases h), Nat.zero_le _, hl⟩
  · exact ⟨rdEs_ok _ _ _, Nat.le_trans (rdEs_num _ _ _) (by omega), Nat.le_trans (rdEs_left _ _ _) hl⟩
theorem entries_at {b : List UInt8} {f : Bool} {x : List En × List UInt8 × Bool × Bool} (hx : entsB b f = x) (oR oM oZ : Nat) (xs zs : List AV) (hM : oM ≠ oR) (hZ : oZ ≠ oR) (H : AHeap) (h : H oR = some (.cel [.bys b, .raw (.bool f)])) (hb : b.length ≤ 100000000) (h2 : H oM = some (.cel xs)) (h3 : H oZ = some (.cel zs)) :
    ACalls Try.prog 88 [.ptr oR 0] H fun r H' => r = outEs x ∧ H' oR = some (.cel [.bys x.2.1, .raw (.bool x.2.2.1)]) ∧ H' oM = some (.cel xs) ∧ H' oZ = some (.cel zs) ∧ ∀ p y, p ≠ oR → H p = some y → H' p = some y :=
  (entries_calls H oR b f h hb).mono fun r H' hh => by
    obtain ⟨e1, e2, e3⟩ := hh
    subst hx
    exact ⟨e1, e2, e3 _ _ hM h2, e3 _ _ hZ h3, e3⟩
set_option maxHeartbeats 40000000 in
theorem Get_calls (H : AHeap) (b : List UInt8) (hb : b.length ≤ 100000000) :
    ACalls Try.prog 69 [.bys b] H fun r H' => r = outM (getM b) ∧ H' = H := by
  have z1 := takeF_size b
  have z3 := takeF_text b
  have hT := fun H => Take_calls H b (by omega)
  unfold getM
  generalize takeF b = x at *
  obtain ⟨num, t, sz⟩ := x
  simp only at z1 z3 hT ⊢
  obtain ⟨u1, b1, g1, e1⟩ : ∃ u c g, rd t = (u, c, g) := ⟨_, _, _, rfl⟩
  have l1 := rd_len t
  rw [e1] at l1
  simp only at l1
  obtain ⟨v1, hv1⟩ : ∃ v, unzig u1 = v := ⟨_, rfl⟩
  have r1 := unzig_rng u1
  rw [hv1] at r1
  obtain ⟨u2, b2, g2, e2⟩ : ∃ u c g, rd b1 = (u, c, g) := ⟨_, _, _, rfl⟩
  have l2 := rd_len b1
  rw [e2] at l2
  simp only at l2
  obtain ⟨v2, hv2⟩ : ∃ v, unzig u2 = v := ⟨_, rfl⟩
  have r2 := unzig_rng u2
  rw [hv2] at r2
  obtain ⟨u3, b3, g3, e3⟩ : ∃ u c g, rd b2 = (u, c, g) := ⟨_, _, _, rfl⟩
  have l3 := rd_len b2
  rw [e3] at l3
  simp only at l3
  obtain ⟨v3, hv3⟩ : ∃ v, unzig u3 = v := ⟨_, rfl⟩
  have r3 := unzig_rng u3
  rw [hv3] at r3
  obtain ⟨u4, b4, g4, e4⟩ : ∃ u c g, rd b3 = (u, c, g) := ⟨_, _, _, rfl⟩
  have l4 := rd_len b3
  rw [e4] at l4
  simp only at l4
  obtain ⟨u5, b5, g5, e5⟩ : ∃ u c g, rd b4 = (u, c, g) := ⟨_, _, _, rfl⟩
  have l5 := rd_len b4
  rw [e5] at l5
  simp only at l5
  obtain ⟨u6, b6, g6, e6⟩ : ∃ u c g, rd b5 = (u, c, g) := ⟨_, _, _, rfl⟩
  have l6 := rd_len b5
  rw [e6] at l6
  simp only at l6
  obtain ⟨u7, b7, g7, e7⟩ : ∃ u c g, rd b6 = (u, c, g) := ⟨_, _, _, rfl⟩
  have l7 := rd_len b6
  rw [e7] at l7
  simp only at l7
  refine acalls_of_aw1 Try.func69 rfl (by decide) ?_
  (first | focus (refine yy4 ?_; refine awl_alloc rfl rfl rfl (fun oN hoN => ?_); refine yy24 ?_; refine yy29 ?_; (refine zc auto_wl (hT _) ?_; rintro r H' ⟨rfl, rfl⟩); refine yy73 ?_; refine awl_s rfl (s_extract rfl rfl) ?_; refine yy30 ?_; refine yy91 ?_; refine yy6 ?_; refine yy11 ?_; refine yy49 ?_; refine yy2 ?_; refine zg2 rfl rfl rfl (fun hc => ?_) (fun hc => ?_); refine yy54 ?_; refine yy41 ?_; refine yy40 ?_; refine yy2 ?_; refine yy54 ?_; refine yy48 ?_; refine yy79 ?_; refine yy75 ?_; refine yy78 ?_; refine yy9 ?_; refine yy21 ?_; rotate_left; refine yy19 ?_; refine yy29 ?_; refine yy5 ?_; refine yy96 ?_; refine yy5 ?_; refine yy70 ?_; refine yy20 ?_; refine yy2 ?_; refine zg2 rfl rfl rfl (fun hc => ?_) (fun hc => ?_); refine yy41 ?_; refine yy48 ?_; refine yy79 ?_; refine yy75 ?_; refine yy78 ?_; refine yy9 ?_; refine yy21 ?_; rotate_left; refine yy19 ?_; refine yy70 ?_; refine yy43 ?_; refine aw_condp rfl (fun hc => ?_) (fun hc => ?_); refine yy4 ?_; refine yy75 ?_; refine yy78 ?_; refine yy9 ?_; refine yy21 ?_; rotate_left; refine yy66 ?_; refine yy4 ?_; refine yy29 ?_; (refine zc auto_wl (read_calls _ _ auto_sd) ?_; rintro r H' ⟨oR, hoR, rfl, rfl⟩); refine yy90 ?_; refine yy3 ?_; refine yy22 ?_; rotate_left) | fail)
  · exact ⟨.inl rfl, _, _, _, Ent.cellRet 2 Mg0.cells rfl auto_heap (by ((repeat' (first | exact WC.nil | apply WC.cons)); all_goals (first | exact W.of rfl | exact W.int rfl | exact W.nilb rfl | exact W.empb rfl | exact W.bysx rfl | exact W.nils rfl | exact W.emps rfl | exact W.slsx rfl))) auto_hs, ret_2 rfl (rv1_agg (m := 9) rfl rfl rfl (by decide)) (rv1_tmp rfl), by rw [if_pos (.inl hc)]; rfl, rfl⟩
  · exact ⟨.inl rfl, _, _, _, Ent.cellRet 2 Mg0.cells rfl auto_heap (by ((repeat' (first | exact WC.nil | apply WC.cons)); all_goals (first | exact W.of rfl | exact W.int rfl | exact W.nilb rfl | exact W.empb rfl | exact W.bysx rfl | exact W.nils rfl | exact W.emps rfl | exact W.slsx rfl))) auto_hs, ret_2 rfl (rv1_agg (m := 9) rfl rfl rfl (by decide)) (rv1_tmp rfl), by rw [if_pos (.inr (.inl hc))]; rfl, rfl⟩
  · exact ⟨.inl rfl, _, _, _, Ent.cellRet 2 Mg0.cells rfl auto_heap (by ((repeat' (first | exact WC.nil | apply WC.cons)); all_goals (first | exact W.of rfl | exact W.int rfl | exact W.nilb rfl | exact W.empb rfl | exact W.bysx rfl | exact W.nils rfl | exact W.emps rfl | exact W.slsx rfl))) auto_hs, ret_2 rfl (rv1_agg (m := 9) rfl rfl rfl (by decide)) (rv1_tmp rfl), by rw [if_pos (.inr (.inr hc))]; rfl, rfl⟩
  rename_i hc1 hc2
  have hoZ := hoN
  clear hoN
  generalize oN = oZ at *
  rw [if_neg (fun h => h.elim hc1 (fun h => h.elim hc2 hc))]
  refine awl_ent (Ent.sub (R0 := [(31, .ptr oR 0), (7, .ptr oR 0), (2, .ptr oZ 0)]) _ (by (repeat' (first | exact RSub.nil _ | apply RSub.cons)); all_goals rfl)) ?_
  (first | focus ((refine zc auto_wl (RI_at (by assumption) (by assumption) _ _ _ (AHeap.set_self _ _ _) (by omega)) ?_; rintro r H' ⟨rfl, rfl⟩); refine yy17 ?_; (refine zc auto_wl (RI_at (by assumption) (by assumption) _ _ _ (AHeap.set_self _ _ _) (by omega)) ?_; rintro r H' ⟨rfl, rfl⟩); refine yy17 ?_; (refine zc auto_wl (RI_at (by assumption) (by assumption) _ _ _ (AHeap.set_self _ _ _) (by omega)) ?_; rintro r H' ⟨rfl, rfl⟩); refine yy17 ?_; (refine zc auto_wl (RU_at (by assumption) _ _ _ (AHeap.set_self _ _ _) (by omega)) ?_; rintro r H' ⟨rfl, rfl⟩); refine yy17 ?_; (refine zc auto_wl (RU_at (by assumption) _ _ _ (AHeap.set_self _ _ _) (by omega)) ?_; rintro r H' ⟨rfl, rfl⟩); refine yy17 ?_; (refine zc auto_wl (RU_at (by assumption) _ _ _ (AHeap.set_self _ _ _) (by omega)) ?_; rintro r H' ⟨rfl, rfl⟩); refine yy17 ?_; (refine zc auto_wl (RU_at (by assumption) _ _ _ (AHeap.set_self _ _ _) (by omega)) ?_; rintro r H' ⟨rfl, rfl⟩); refine yy75 ?_; refine awl_alloc rfl rfl rfl (fun oN hoN => ?_); refine yy78 ?_; refine yy71 ?_; refine yy6 ?_; refine yy12 ?_; refine yy17 ?_; rotate_left) | fail)
  obtain ⟨f7, hf7⟩ : ∃ f, (false || g1 || g2 || g3 || g4 || g5 || g6 || g7) = f := ⟨_, rfl⟩
  rw [hf7]
  refine awl_ent (Ent.sub (R0 := [(47, .ptr oR 0), (9, .raw (.int .i64 (0 : Int))), (8, .ptr oN 0), (7, .ptr oR 0), (2, .ptr oZ 0)]) _ (by (repeat' (first | exact RSub.nil _ | apply RSub.cons)); all_goals rfl)) ?_
  refine awl_gen (fun H3 => (oZ ≠ oR ∧ oN ≠ oR ∧ oZ ≠ oN ∧ H oZ = none ∧ H oR = none ∧ H oN = none) ∧ H3 oZ = some (.cel [.raw (.int .i64 (0 : Int)), .raw (.int .i64 (0 : Int)), .raw (.int .i64 (0 : Int)), .raw (.int .u64 (0 : Int)), .raw (.int .u64 (0 : Int)), .raw (.int .u64 (0 : Int)), .raw (.int .u64 (0 : Int)), .raw (.slice none 0 0), .raw (.slice none 0 0)]) ∧
    H3 oN = some (.cel [mI v1, mI v2, mI v3, .raw (.int .u64 (u4 : Int)), .raw (.int .u64 (u5 : Int)), .raw (.int .u64 (u6 : Int)), .raw (.int .u64 (u7 : Int)), .raw (.slice none 0 0), .raw (.slice none 0 0)]) ∧ H3 oR = some (.cel [.bys b7, .raw (.bool f7)]) ∧ (∀ p y, H p = some y → H3 p = some y))
    ⟨⟨by (first | assumption | exact Ne.symm (by assumption) | exact AHeap.ne_of_fresh (by assumption) | exact Ne.symm (AHeap.ne_of_fresh (by assumption)) | exact AHeap.ne_of_fresh (AHeap.none_of_set (by assumption)) | exact Ne.symm (AHeap.ne_of_fresh (AHeap.none_of_set (by assumption))) | exact AHeap.ne_ns (by assumption) (by assumption) | exact AHeap.ne_sn (by assumption) (by assumption) | exact AHeap.ne_ns (by assumption) auto_heap2 | exact AHeap.ne_sn (by assumption) auto_heap2), by (first | assumption | exact Ne.symm (by assumption) | exact AHeap.ne_of_fresh (by assumption) | exact Ne.symm (AHeap.ne_of_fresh (by assumption)) | exact AHeap.ne_of_fresh (AHeap.none_of_set (by assumption)) | exact Ne.symm (AHeap.ne_of_fresh (AHeap.none_of_set (by assumption))) | exact AHeap.ne_ns (by assumption) (by assumption) | exact AHeap.ne_sn (by assumption) (by assumption) | exact AHeap.ne_ns (by assumption) auto_heap2 | exact AHeap.ne_sn (by assumption) auto_heap2), by (first | assumption | exact Ne.symm (by assumption) | exact AHeap.ne_of_fresh (by assumption) | exact Ne.symm (AHeap.ne_of_fresh (by assumption)) | exact AHeap.ne_of_fresh (AHeap.none_of_set (by assumption)) | exact Ne.symm (AHeap.ne_of_fresh (AHeap.none_of_set (by assumption))) | exact AHeap.ne_ns (by assumption) (by assumption) | exact AHeap.ne_sn (by assumption) (by assumption) | exact AHeap.ne_ns (by assumption) auto_heap2 | exact AHeap.ne_sn (by assumption) auto_heap2), by (first | assumption | exact AHeap.none_of_set ((by assumption)) | exact AHeap.none_of_set (AHeap.none_of_set ((by assumption))) | exact AHeap.none_of_set (AHeap.none_of_set (AHeap.none_of_set ((by assumption)))) | exact AHeap.none_of_set (AHeap.none_of_set (AHeap.none_of_set (AHeap.none_of_set ((by assumption))))) | exact AHeap.none_of_set (AHeap.none_of_set (AHeap.none_of_set (AHeap.none_of_set (AHeap.none_of_set ((by assumption)))))) | exact AHeap.none_of_set (AHeap.none_of_set (AHeap.none_of_set (AHeap.none_of_set (AHeap.none_of_set (AHeap.none_of_set ((by assumption))))))) | exact AHeap.none_of_set (AHeap.none_of_set (AHeap.none_of_set (AHeap.none_of_set (AHeap.none_of_set (AHeap.none_of_set (AHeap.none_of_set ((by assumption)))))))) | exact AHeap.none_of_set (AHeap.none_of_set (AHeap.none_of_set (AHeap.none_of_set (AHeap.none_of_set (AHeap.none_of_set (AHeap.none_of_set (AHeap.none_of_set ((by assumption))))))))) | exact AHeap.none_of_set (AHeap.none_of_set (AHeap.none_of_set (AHeap.none_of_set (AHeap.none_of_set (AHeap.none_of_set (AHeap.none_of_set (AHeap.none_of_set (AHeap.none_of_set ((by assumption)))))))))) | exact AHeap.none_of_set (AHeap.none_of_set (AHeap.none_of_set (AHeap.none_of_set (AHeap.none_of_set (AHeap.none_of_set (AHeap.none_of_set (AHeap.none_of_set (AHeap.none_of_set (AHeap.none_of_set ((by assumption)))))))))))), by (first | assumption | exact AHeap.none_of_set ((by assumption)) | exact AHeap.none_of_set (AHeap.none_of_set ((by assumption))) | exact AHeap.none_of_set (AHeap.none_of_set (AHeap.none_of_set ((by assumption)))) | exact AHeap.none_of_set (AHeap.none_of_set (AHeap.none_of_set (AHeap.none_of_set ((by assumption))))) | exact AHeap.none_of_set (AHeap.none_of_set (AHeap.none_of_set (AHeap.none_of_set (AHeap.none_of_set ((by assumption)))))) | exact AHeap.none_of_set (AHeap.none_of_set (AHeap.none_of_set (AHeap.none_of_set (AHeap.none_of_set (AHeap.none_of_set ((by assumption))))))) | exact AHeap.none_of_set (AHeap.none_of_set (AHeap.none_of_set (AHeap.none_of_set (AHeap.none_of_set (AHeap.none_of_set (AHeap.none_of_set ((by assumption)))))))) | exact AHeap.none_of_set (AHeap.none_of_set (AHeap.none_of_set (AHeap.none_of_set (AHeap.none_of_set (AHeap.none_of_set (AHeap.none_of_set (AHeap.none_of_set ((by assumption))))))))) | exact AHeap.none_of_set (AHeap.none_of_set (AHeap.none_of_set (AHeap.none_of_set (AHeap.none_of_set (AHeap.none_of_set (AHeap.none_of_set (AHeap.none_of_set (AHeap.none_of_set ((by assumption)))))))))) | exact AHeap.none_of_set (AHeap.none_of_set (AHeap.none_of_set (AHeap.none_of_set (AHeap.none_of_set (AHeap.none_of_set (AHeap.none_of_set (AHeap.none_of_set (AHeap.none_of_set (AHeap.none_of_set ((by assumption)))))))))))), by (first | assumption | exact AHeap.none_of_set ((by assumption)) | exact AHeap.none_of_set (AHeap.none_of_set ((by assumption))) | exact AHeap.none_of_set (AHeap.none_of_set (AHeap.none_of_set ((by assumption)))) | exact AHeap.none_of_set (AHeap.none_of_set (AHeap.none_of_set (AHeap.none_of_set ((by assumption))))) | exact AHeap.none_of_set (AHeap.none_of_set (AHeap.none_of_set (AHeap.none_of_set (AHeap.none_of_set ((by assumption)))))) | exact AHeap.none_of_set (AHeap.none_of_set (AHeap.none_of_set (AHeap.none_of_set (AHeap.none_of_set (AHeap.none_of_set ((by assumption))))))) | exact AHeap.none_of_set (AHeap.none_of_set (AHeap.none_of_set (AHeap.none_of_set (AHeap.none_of_set (AHeap.none_of_set (AHeap.none_of_set ((by assumption)))))))) | exact AHeap.none_of_set (AHeap.none_of_set (AHeap.none_of_set (AHeap.none_of_set (AHeap.none_of_set (AHeap.none_of_set (AHeap.none_of_set (AHeap.none_of_set ((by assumption))))))))) | exact AHeap.none_of_set (AHeap.none_of_set (AHeap.none_of_set (AHeap.none_of_set (AHeap.none_of_set (AHeap.none_of_set (AHeap.none_of_set (AHeap.none_of_set (AHeap.none_of_set ((by assumption)))))))))) | exact AHeap.none_of_set (AHeap.none_of_set (AHeap.none_of_set (AHeap.none_of_set (AHeap.none_of_set (AHeap.none_of_set (AHeap.none_of_set (AHeap.none_of_set (AHeap.none_of_set (AHeap.none_of_set ((by assumption))))))))))))⟩, auto_heap, auto_heap, auto_heap, fun p y hp => auto_heap⟩ ?_
  rintro H3 ⟨⟨m1, m2, m3, n1, n2, n3⟩, q1, q2, q3, hfr⟩
  have hgt : getT t = if (entsB b7 f7).2.2.2 = false then none
    else if ((entsB b7 f7).2.2.1 || (rs (entsB b7 f7).2.1).2.2) = true ∨ (rs (entsB b7 f7).2.1).2.1 ≠ [] ∨ ¬ (⟨v1, v2, v3, u4, u5, u6, u7, (entsB b7 f7).1, (rs (entsB b7 f7).2.1).1⟩ : Mg).good then none
    else some ⟨v1, v2, v3, u4, u5, u6, u7, (entsB b7 f7).1, (rs (entsB b7 f7).2.1).1⟩ := by
    unfold getT s7 mgT
    simp only [stN_at e1, vlN_at e1, stN_at e2, vlN_at e2, stN_at e3, vlN_at e3, stN_at e4, vlN_at e4, stN_at e5, vlN_at e5, stN_at e6, vlN_at e6, stN_at e7, vlN_at e7, hv1, hv2, hv3, hf7]
  rw [hgt]
  have hu4 := rd_lt b3
  have hu5 := rd_lt b4
  have hu6 := rd_lt b5
  have hu7 := rd_lt b6
  rw [e4] at hu4
  rw [e5] at hu5
  rw [e6] at hu6
  rw [e7] at hu7
  simp only at hu4 hu5 hu6 hu7
  clear hgt e1 e2 e3 e4 e5 e6 e7 hv1 hv2 hv3 hf7 hoN hoR hoZ hc1 hc2 hc
  obtain ⟨es, be, fe, ke, hes⟩ : ∃ es be fe ke, entsB b7 f7 = (es, be, fe, ke) := ⟨_, _, _, _, rfl⟩
  have hok := entsB_ok b7 f7
  rw [hes] at hok ⊢
  simp only at hok ⊢
  obtain ⟨k1, k2, k3⟩ := hok
  cases ke with
  | false =>
    have hE := fun H => entries_at hes oR oN oZ (zs := [.raw (.int .i64 (0 : Int)), .raw (.int .i64 (0 : Int)), .raw (.int .i64 (0 : Int)), .raw (.int .u64 (0 : Int)), .raw (.int .u64 (0 : Int)), .raw (.int .u64 (0 : Int)), .raw (.int .u64 (0 : Int)), .raw (.slice none 0 0), .raw (.slice none 0 0)]) m2 m1 H (xs := [mI v1, mI v2, mI v3, .raw (.int .u64 (u4 : Int)), .raw (.int .u64 (u5 : Int)), .raw (.int .u64 (u6 : Int)), .raw (.int .u64 (u7 : Int)), .raw (.slice none 0 0), .raw (.slice none 0 0)])
    simp only [outEs, Bool.false_eq_true, if_false] at hE
    (first | focus ((refine zc auto_wl (hE _ q3 (by omega) q2 q1) ?_; rintro r H' ⟨rfl, j1, j2, j3, hf2⟩); refine yy73 ?_; refine yy61 ?_; refine yy59 ?_; refine yy24 ?_; refine yy2 ?_; refine yy70 ?_; refine yy3 ?_; refine aw_condp rfl (fun hc => ?_) (fun hc => ?_); refine yy4 ?_; refine yy75 ?_; refine yy2 ?_; refine yy89 ?_; refine yy9 ?_; refine yy21 ?_; rotate_left; exact absurd hc auto_no) | fail)
    exact ⟨.inl rfl, _, _, _, Ent.cellRet 2 Mg0.cells rfl auto_heap (by ((repeat' (first | exact WC.nil | apply WC.cons)); all_goals (first | exact W.of rfl | exact W.int rfl | exact W.nilb rfl | exact W.empb rfl | exact W.bysx rfl | exact W.nils rfl | exact W.emps rfl | exact W.slsx rfl))) (fun p y hp => by have hp2 := hf2 _ _ (AHeap.ne_ns n2 hp) (hfr _ _ hp); exact ⟨by (first | assumption | exact Ne.symm (by assumption) | exact AHeap.ne_of_fresh (by assumption) | exact Ne.symm (AHeap.ne_of_fresh (by assumption)) | exact AHeap.ne_of_fresh (AHeap.none_of_set (by assumption)) | exact Ne.symm (AHeap.ne_of_fresh (AHeap.none_of_set (by assumption))) | exact AHeap.ne_ns (by assumption) (by assumption) | exact AHeap.ne_sn (by assumption) (by assumption) | exact AHeap.ne_ns (by assumption) auto_heap2 | exact AHeap.ne_sn (by assumption) auto_heap2), auto_heap⟩), ret_2 rfl (rv1_agg (m := 9) rfl rfl rfl (by decide)) (rv1_tmp rfl), by rw [if_pos rfl]; rfl, rfl⟩
  | true =>
    have hE := fun H => entries_at hes oR oN oZ (zs := [.raw (.int .i64 (0 : Int)), .raw (.int .i64 (0 : Int)), .raw (.int .i64 (0 : Int)), .raw (.int .u64 (0 : Int)), .raw (.int .u64 (0 : Int)), .raw (.int .u64 (0 : Int)), .raw (.int .u64 (0 : Int)), .raw (.slice none 0 0), .raw (.slice none 0 0)]) m2 m1 H (xs := [mI v1, mI v2, mI v3, .raw (.int .u64 (u4 : Int)), .raw (.int .u64 (u5 : Int)), .raw (.int .u64 (u6 : Int)), .raw (.int .u64 (u7 : Int)), .raw (.slice none 0 0), .raw (.slice none 0 0)])
    simp only [outEs, if_true] at hE
    rw [if_neg (by decide)]
    have s1 := rs_text be
    have s2 := rs_len be
    have hS := fun H f h => RS_calls H oR be f h (by omega)
    generalize rs be = x at *
    obtain ⟨sb, b9, f9⟩ := x
    simp only at s1 s2 hS ⊢
    have hG := fun H => Good_calls H ⟨v1, v2, v3, u4, u5, u6, u7, es, sb⟩ ⟨r1, r2, r3, hu4, hu5, hu6, hu7, k1⟩ (show es.length ≤ _ by omega) (show sb.length ≤ _ by omega)
    generalize hm : (⟨v1, v2, v3, u4, u5, u6, u7, es, sb⟩ : Mg) = m at *
    have hmc : m.cells = [mI v1, mI v2, mI v3, .raw (.int .u64 (u4 : Int)), .raw (.int .u64 (u5 : Int)), .raw (.int .u64 (u6 : Int)), .raw (.int .u64 (u7 : Int)), .sls es.length (es.flatMap En.cells), .bys sb] := by rw [← hm]; rfl
    rw [hmc] at hG
    (first | focus ((refine zc auto_wl (hE _ q3 (by omega) q2 q1) ?_; rintro r H' ⟨rfl, j1, j2, j3, hf2⟩); refine yy73 ?_; refine yy61 ?_; refine yy59 ?_; refine yy24 ?_; refine yy2 ?_; refine yy70 ?_; refine yy3 ?_; refine yy53 ?_; intro hc; refine yy22 ?_; (refine zc auto_wl (hS _ _ auto_heap) ?_; rintro r H' ⟨rfl, rfl⟩); refine awl_s rfl (s_str_bytes rfl) ?_; refine yy61 ?_; refine yy59 ?_; refine yy3 ?_; refine yy12 ?_; refine yy17 ?_; (refine zc auto_wl (bad_calls _ _ _ _ auto_heap) ?_; rintro r H' ⟨rfl, rfl⟩); refine yy2 ?_; refine zg7 rfl rfl rfl (fun hc => ?_) (fun hc => ?_); refine yy54 ?_; refine yy40 ?_; refine yy2 ?_; refine yy54 ?_; refine yy41 ?_; refine yy48 ?_; refine yy79 ?_; refine yy75 ?_; refine yy89 ?_; refine yy9 ?_; refine yy21 ?_; rotate_left; refine yy36 ?_; (refine zc auto_wl (left_calls _ _ _ _ auto_heap) ?_; rintro r H' ⟨rfl, rfl⟩); refine yy5 ?_; refine yy27 ?_; refine yy20 ?_; refine yy2 ?_; refine zg2 rfl rfl rfl (fun hc => ?_) (fun hc => ?_); refine yy54 ?_; refine yy48 ?_; refine yy79 ?_; refine yy75 ?_; refine yy89 ?_; refine yy9 ?_; refine yy21 ?_; rotate_left; refine yy100 ?_; refine yy5 ?_; (refine zc auto_wl (hG _) ?_; rintro r H' ⟨rfl, rfl⟩); refine yy5 ?_; refine awl_s rfl (s_not rfl) ?_; refine yy43 ?_; refine aw_condp rfl (fun hc => ?_) (fun hc => ?_); refine yy4 ?_; refine yy75 ?_; refine yy89 ?_; refine yy9 ?_; refine yy21 ?_; rotate_left; refine yy66 ?_; refine yy4 ?_; refine yy64 ?_; refine yy9 ?_; rotate_left) | fail)
    · exact ⟨.inl rfl, _, _, _, Ent.cellRet 2 Mg0.cells rfl auto_heap (by ((repeat' (first | exact WC.nil | apply WC.cons)); all_goals (first | exact W.of rfl | exact W.int rfl | exact W.nilb rfl | exact W.empb rfl | exact W.bysx rfl | exact W.nils rfl | exact W.emps rfl | exact W.slsx rfl))) (fun p y hp => by have hp2 := hf2 _ _ (AHeap.ne_ns n2 hp) (hfr _ _ hp); exact ⟨by (first | assumption | exact Ne.symm (by assumption) | exact AHeap.ne_of_fresh (by assumption) | exact Ne.symm (AHeap.ne_of_fresh (by assumption)) | exact AHeap.ne_of_fresh (AHeap.none_of_set (by assumption)) | exact Ne.symm (AHeap.ne_of_fresh (AHeap.none_of_set (by assumption))) | exact AHeap.ne_ns (by assumption) (by assumption) | exact AHeap.ne_sn (by assumption) (by assumption) | exact AHeap.ne_ns (by assumption) auto_heap2 | exact AHeap.ne_sn (by assumption) auto_heap2), auto_heap⟩), ret_2 rfl (rv1_agg (m := 9) rfl rfl rfl (by decide)) (rv1_tmp rfl), by rw [if_pos (.inl hc)]; rfl, rfl⟩
    · exact ⟨.inl rfl, _, _, _, Ent.cellRet 2 Mg0.cells rfl auto_heap (by ((repeat' (first | exact WC.nil | apply WC.cons)); all_goals (first | exact W.of rfl | exact W.int rfl | exact W.nilb rfl | exact W.empb rfl | exact W.bysx rfl | exact W.nils rfl | exact W.emps rfl | exact W.slsx rfl))) (fun p y hp => by have hp2 := hf2 _ _ (AHeap.ne_ns n2 hp) (hfr _ _ hp); exact ⟨by (first | assumption | exact Ne.symm (by assumption) | exact AHeap.ne_of_fresh (by assumption) | exact Ne.symm (AHeap.ne_of_fresh (by assumption)) | exact AHeap.ne_of_fresh (AHeap.none_of_set (by assumption)) | exact Ne.symm (AHeap.ne_of_fresh (AHeap.none_of_set (by assumption))) | exact AHeap.ne_ns (by assumption) (by assumption) | exact AHeap.ne_sn (by assumption) (by assumption) | exact AHeap.ne_ns (by assumption) auto_heap2 | exact AHeap.ne_sn (by assumption) auto_heap2), auto_heap⟩), ret_2 rfl (rv1_agg (m := 9) rfl rfl rfl (by decide)) (rv1_tmp rfl), by rw [if_pos (.inr (.inl (List.length_pos_iff.1 hc)))]; rfl, rfl⟩
    · exact ⟨.inl rfl, _, _, _, Ent.cellRet 2 Mg0.cells rfl auto_heap (by ((repeat' (first | exact WC.nil | apply WC.cons)); all_goals (first | exact W.of rfl | exact W.int rfl | exact W.nilb rfl | exact W.empb rfl | exact W.bysx rfl | exact W.nils rfl | exact W.emps rfl | exact W.slsx rfl))) (fun p y hp => by have hp2 := hf2 _ _ (AHeap.ne_ns n2 hp) (hfr _ _ hp); exact ⟨by (first | assumption | exact Ne.symm (by assumption) | exact AHeap.ne_of_fresh (by assumption) | exact Ne.symm (AHeap.ne_of_fresh (by assumption)) | exact AHeap.ne_of_fresh (AHeap.none_of_set (by assumption)) | exact Ne.symm (AHeap.ne_of_fresh (AHeap.none_of_set (by assumption))) | exact AHeap.ne_ns (by assumption) (by assumption) | exact AHeap.ne_sn (by assumption) (by assumption) | exact AHeap.ne_ns (by assumption) auto_heap2 | exact AHeap.ne_sn (by assumption) auto_heap2), auto_heap⟩), ret_2 rfl (rv1_agg (m := 9) rfl rfl rfl (by decide)) (rv1_tmp rfl), by rw [if_pos (.inr (.inr hc))]; rfl, rfl⟩
    · rename_i c1 c2
      rw [if_neg (fun h => h.elim (fun h => by rw [c1] at h; cases h) (fun h => h.elim (fun h => c2 (List.length_pos_iff.2 h)) hc))]
      exact ⟨.inl rfl, _, _, _, Ent.cellRet 2 [mI v1, mI v2, mI v3, .raw (.int .u64 (u4 : Int)), .raw (.int .u64 (u5 : Int)), .raw (.int .u64 (u6 : Int)), .raw (.int .u64 (u7 : Int)), .sls es.length (es.flatMap En.cells), .bys sb] rfl auto_heap (by ((repeat' (first | exact WC.nil | apply WC.cons)); all_goals (first | exact W.of rfl | exact W.int rfl | exact W.nilb rfl | exact W.empb rfl | exact W.bysx rfl | exact W.nils rfl | exact W.emps rfl | exact W.slsx rfl))) (fun p y hp => by have hp2 := hf2 _ _ (AHeap.ne_ns n2 hp) (hfr _ _ hp); exact ⟨by (first | assumption | exact Ne.symm (by assumption) | exact AHeap.ne_of_fresh (by assumption) | exact Ne.symm (AHeap.ne_of_fresh (by assumption)) | exact AHeap.ne_of_fresh (AHeap.none_of_set (by assumption)) | exact Ne.symm (AHeap.ne_of_fresh (AHeap.none_of_set (by assumption))) | exact AHeap.ne_ns (by assumption) (by assumption) | exact AHeap.ne_sn (by assumption) (by assumption) | exact AHeap.ne_ns (by assumption) auto_heap2 | exact AHeap.ne_sn (by assumption) auto_heap2), auto_heap⟩), ret_2 rfl (rv1_agg (m := 9) rfl rfl rfl (by decide)) (rv1_tmp rfl), by rw [outM, hmc]; rfl, rfl⟩
end Go.Proofs.Ytbciofnejefkiaa

namespace Go.Proofs.Ytbciofnejefkiaa
open Go Go.Am Go.Proofs
set_option linter.unusedSimpArgs false
set_option linter.unusedVariables false
set_option maxRecDepth 20000
set_option maxHeartbeats 4000000

/-! What is written is read back. -/
theorem rdIs_enc : ∀ (l : List Int) (r : List UInt8) (f : Bool), (∀ v ∈ l, b64 v) → rdIs l.length (encR l ++ r) f = (l, r, f)
  | [], r, f, _ => rfl
  | v :: l, r, f, h => by
    have hv := h v (List.mem_cons_self)
    have e : encR (v :: l) ++ r = encU 10 (zig v) ++ (encR l ++ r) := by simp [encR]
    rw [List.length_cons, rdIs, e, rd_zig]
    simp only [Bool.or_false]
    rw [rdIs_enc l r f fun x hx => h x (List.mem_cons_of_mem _ hx), unzig_zig hv.1 hv.2]
theorem encR_ge : ∀ l : List Int, l.length ≤ (encR l).length
  | [] => Nat.zero_le _
  | v :: l => by
    have := encU_pos 10 (zig v)
    have := encR_ge l
    have e : encR (v :: l) = encU 10 (zig v) ++ encR l := by simp [encR]
    rw [e, List.length_append, List.length_cons]; omega
theorem getE_enc (e : En) (ok : e.Ok) (hl : e.row.length < 2 ^ 64) : getE (encE e) = some e := by
  have e1 : rd (encE e) = (e.id, encU 10 e.view ++ encU 10 e.row.length ++ encR e.row, false) := by
    rw [show encE e = encU 10 e.id ++ (encU 10 e.view ++ encU 10 e.row.length ++ encR e.row) by simp [encE]]
    exact rd_enc ok.id _
  have e2 : rd (encU 10 e.view ++ encU 10 e.row.length ++ encR e.row) = (e.view, encU 10 e.row.length ++ encR e.row, false) := by
    rw [List.append_assoc]; exact rd_enc ok.view _
  have e3 : rd (encU 10 e.row.length ++ encR e.row) = (e.row.length, encR e.row, false) := rd_enc hl _
  have hh : hdE (encE e) = (e.row.length, encR e.row, false) := by
    unfold hdE
    simp only [e1, e2, e3, Bool.or_false]
  have hr := rdIs_enc e.row [] false ok.row
  rw [List.append_nil] at hr
  have := encR_ge e.row
  unfold getE
  rw [hh]
  simp only [hr, e1, e2]
  rw [if_neg (by omega), if_neg (by simp)]
theorem rdEs_enc : ∀ (l : List En) (r : List UInt8), (∀ e ∈ l, e.Ok ∧ e.row.length < 2 ^ 60) → rdEs l.length (encEs l ++ r) false = (l, r, false, true)
  | [], r, _ => rfl
  | e :: l, r, h => by
    obtain ⟨h1, h2⟩ := h e (List.mem_cons_self)
    have hl := encE_len e
    have e0 : encEs (e :: l) ++ r = encU 10 (encE e).length ++ encE e ++ (encEs l ++ r) := by simp [encEs, enc1]
    have e1 := rs_enc (s := encE e) (by omega) (encEs l ++ r)
    have hg : getE (rs (encEs (e :: l) ++ r)).1 = some e := by rw [e0, e1]; exact getE_enc e h1 (by omega)
    rw [List.length_cons, rdEs_some hg, e0, e1]
    simp only [Bool.or_false]
    rw [rdEs_enc l r fun x hx => h x (List.mem_cons_of_mem _ hx)]
theorem plain_rows {m : Mg} (h : m.plain) : ∀ e ∈ m.ents, e.row.length ≤ 64 := fun e he => wide_get h.2.2.2.2.2 he
theorem getT_enc (m : Mg) (ok : m.Ok) (hp : m.good) : getT (textB m) = some m := by
  have hr := plain_rows hp.1
  have hn := hp.1.2.2.2.1
  have hb := hp.1.2.2.2.2.1
  obtain ⟨k, f, t, vw, la, op, co, es, body⟩ := m
  obtain ⟨o1, o2, o3, o4, o5, o6, o7, o8⟩ := ok
  simp only at hr hn hb o1 o2 o3 o4 o5 o6 o7 o8
  have t0 : textB ⟨k, f, t, vw, la, op, co, es, body⟩ = encU 10 (zig k) ++ (encU 10 (zig f) ++ (encU 10 (zig t) ++ (encU 10 vw ++ (encU 10 la ++ (encU 10 op ++ (encU 10 co ++ (encU 10 es.length ++ (encEs es ++ (encU 10 body.length ++ body))))))))) := by
    simp [textB, encR, encUs]
  have q1 := rd_zig k (encU 10 (zig f) ++ (encU 10 (zig t) ++ (encU 10 vw ++ (encU 10 la ++ (encU 10 op ++ (encU 10 co ++ (encU 10 es.length ++ (encEs es ++ (encU 10 body.length ++ body)))))))))
  have q2 := rd_zig f (encU 10 (zig t) ++ (encU 10 vw ++ (encU 10 la ++ (encU 10 op ++ (encU 10 co ++ (encU 10 es.length ++ (encEs es ++ (encU 10 body.length ++ body))))))))
  have q3 := rd_zig t (encU 10 vw ++ (encU 10 la ++ (encU 10 op ++ (encU 10 co ++ (encU 10 es.length ++ (encEs es ++ (encU 10 body.length ++ body)))))))
  have q4 := rd_enc o4 (encU 10 la ++ (encU 10 op ++ (encU 10 co ++ (encU 10 es.length ++ (encEs es ++ (encU 10 body.length ++ body))))))
  have q5 := rd_enc o5 (encU 10 op ++ (encU 10 co ++ (encU 10 es.length ++ (encEs es ++ (encU 10 body.length ++ body)))))
  have q6 := rd_enc o6 (encU 10 co ++ (encU 10 es.length ++ (encEs es ++ (encU 10 body.length ++ body))))
  have q7 := rd_enc o7 (encU 10 es.length ++ (encEs es ++ (encU 10 body.length ++ body)))
  have q8 := rd_enc (show es.length < 2 ^ 64 by omega) (encEs es ++ (encU 10 body.length ++ body))
  have q9 := rdEs_enc es (encU 10 body.length ++ body) fun e he => ⟨o8 e he, by have := hr e he; omega⟩
  have q10 := rs_enc (s := body) (by omega) []
  rw [List.append_nil] at q10
  have hen : entsB (encU 10 es.length ++ (encEs es ++ (encU 10 body.length ++ body))) false = (es, encU 10 body.length ++ body, false, true) := by
    rw [entsB, q8]
    simp only [Bool.or_false]
    rw [if_neg (by omega), q9]
  unfold getT s7 mgT
  rw [t0]
  simp only [stN_at q1, vlN_at q1, stN_at q2, vlN_at q2, stN_at q3, vlN_at q3, stN_at q4, vlN_at q4, stN_at q5, vlN_at q5, stN_at q6, vlN_at q6, stN_at q7, vlN_at q7, Bool.or_false, hen, q10, unzig_zig o1.1 o1.2, unzig_zig o2.1 o2.2, unzig_zig o3.1 o3.2]
  rw [if_neg (by decide), if_neg (by simp [hp])]
theorem getM_frame (m : Mg) (ok : m.Ok) (hp : m.good) : getM (frame 0 (textB m)) = some m := by
  have ht := take_frame 0 (textB m) [] (by decide) hp.2
  rw [List.append_nil] at ht
  have hl := frame_len 0 (textB m)
  unfold getM
  rw [ht]
  simp only
  rw [if_neg (by rw [hl]; omega), getT_enc m ok hp]

theorem put_good {m : Mg} (h : m.good) : putB m = frame 0 (textB m) := if_pos h
theorem Get_put (H : AHeap) (m : Mg) (ok : m.Ok) (hg : m.good) : ACalls Try.prog 69 [.bys (putB m)] H fun r H' => r = .tup [.agg m.cells, .raw (.int .i64 (0 : Int))] ∧ H' = H := by
  have hl := frame_len 0 (textB m)
  have := Get_calls H (putB m) (by rw [put_good hg, hl]; have := hg.2; omega)
  rw [put_good hg, getM_frame m ok hg] at this
  rw [put_good hg]
  exact this
end Go.Proofs.Ytbciofnejefkiaa

namespace Go.Proofs.Ytbciofnejefkiaa
set_option linter.unusedSimpArgs false
set_option linter.unusedVariables false

/-! One replica's part in agreeing, as plain functions. -/
namespace Ag
structure Vt where
  last : Nat
  list : List En
structure Co where
  me : Nat
  n : Nat
  view : Nat
  last : Nat
  list : List En
  agreed : Nat
  lead : Bool
  quiet : Nat
  got : Nat → Option Vt
  held : Nat → Option Nat
  wait : List En
structure Rd where
  kind : Nat
  view : Nat
  last : Nat
  agreed : Nat
  list : List En
structure St where
  c : Co
  save : List Rd
  send : List Mg

def Co.new (me n : Nat) : Co := ⟨me, n, 0, 0, [], 0, false, 0, fun _ => none, fun _ => none, []⟩
def Co.follow (c : Co) : Co := { c with lead := false, quiet := 0, got := fun _ => none, held := fun _ => none }
def Co.quorum (c : Co) : Nat := c.n / 2 + 1
def Co.size (c : Co) : Nat := (List.range c.n).countP fun r => (c.got r).isSome
def sameE (a b : En) : Bool := decide (a.id = b.id) && decide (a.row = b.row)
def eqL : List En → List En → Bool
  | [], [] => true
  | a :: l, b :: k => sameE a b && eqL l k
  | _, _ => false
def begins (l w : List En) : Bool := decide (w.length ≤ l.length) && eqL (l.take w.length) w
def may (e : En) : Bool := decide (0 < e.id) && decide (e.row.length ≤ 16)
def hasId (l : List En) (i : Nat) : Bool := l.any fun e => decide (e.id = i)
def uniq : List En → Bool
  | [] => true
  | e :: l => !hasId l e.id && uniq l
def listed (l : List En) : Bool := l.all may && uniq l && decide (l.length ≤ 200)
def upd {α : Type} (f : Nat → α) (i : Nat) (a : α) : Nat → α := fun j => if j = i then a else f j

def msg0 (k to : Int) : Mg := ⟨k, 0, to, 0, 0, 0, 0, [], []⟩
def St.out (s : St) (m : Mg) : St := if m.to = (s.c.me : Int) then s else { s with send := s.send ++ [{ m with from_ := (s.c.me : Int), view := s.c.view }] }
def St.tell (s : St) (m : Mg) : St := (List.range s.c.n).foldl (fun (s : St) (to : Nat) => s.out { m with to := (to : Int) }) s
def St.put (s : St) (k v : Nat) (l : List En) : St := { s with save := s.save ++ [⟨k, v, 0, 0, l⟩] }
def St.promise (s : St) (v : Nat) : St := St.put { s with c := { s.c with view := v }.follow } 1 v []
def St.take (s : St) (v : Nat) (l : List En) : St :=
  let s' := if s.c.last = v ∧ begins l s.c.list = true then (if s.c.list.length < l.length then s.put 3 0 (l.drop s.c.list.length) else s) else s.put 2 v l
  { s' with c := { s'.c with last := v, list := l } }
def ins (x : Nat) : List Nat → List Nat
  | [] => [x]
  | y :: l => if x ≤ y then x :: y :: l else y :: ins x l
def sort (l : List Nat) : List Nat := l.foldr ins []
def Co.helds (c : Co) : List Nat := (List.range c.n).filterMap c.held
def Co.settle (c : Co) : Co :=
  let c := { c with held := upd c.held c.me (some c.list.length) }
  if c.helds.length < c.quorum then c
  else { c with agreed := max c.agreed (min ((sort c.helds).getD (c.helds.length - c.quorum) 0) c.list.length) }
def layM (c : Co) (to : Nat) : Mg :=
  let m : Mg := { msg0 6 (to : Int) with op := c.list.length, commit := c.agreed }
  match c.held to with
  | some h => if h < c.list.length then { m with kind := 4, ents := c.list } else m
  | none => { m with kind := 4, ents := c.list }
def St.lay (s : St) : St := (List.range s.c.n).foldl (fun (s : St) (to : Nat) => s.out (layM s.c to)) s
def grown (l w : List En) : List En := w.foldl (fun l e => if l.length < 200 ∧ hasId l e.id = false then l ++ [e] else l) l
def St.grow (s : St) : St :=
  let l := grown s.c.list s.c.wait
  let s := { s with c := { s.c with wait := [] } }
  let s := if s.c.list.length < l.length then s.take s.c.view l else s
  St.lay { s with c := s.c.settle }
def better (c : Co) (b : Vt) (r : Nat) : Vt :=
  match c.got r with
  | some x => if (b.last < x.last ∨ x.last = b.last ∧ b.list.length < x.list.length) ∧ begins x.list (c.list.take c.agreed) = true then x else b
  | none => b
def Co.best (c : Co) : Vt := (List.range c.n).foldl (better c) ⟨c.last, c.list⟩
def St.won (s : St) : St :=
  if (s.c.got s.c.me).isNone ∨ s.c.size < s.c.quorum then s else
  let s := s.take s.c.view s.c.best.list
  St.grow { s with c := { s.c with lead := true, got := fun _ => none } }
def St.count (s : St) (r : Nat) (v : Vt) : St :=
  if s.c.lead then s else St.won { s with c := { s.c with got := upd s.c.got r (some v) } }
def St.vote (s : St) : St :=
  let to := s.c.view % s.c.n
  if to = s.c.me then s.count s.c.me ⟨s.c.last, s.c.list⟩
  else s.out { msg0 3 (to : Int) with last := s.c.last, ents := s.c.list }
def mostView : Nat := 1099511627776
def St.begin (s : St) : St :=
  if s.c.view < mostView then ((s.promise (s.c.view + 1)).tell (msg0 2 0)).vote else s
def Co.wanted (c : Co) (e : En) : Co × Bool :=
  if may e = false ∨ hasId c.list e.id = true ∨ hasId c.wait e.id = true then (c, false)
  else ({ c with wait := (if c.wait.length = 200 then c.wait.drop 1 else c.wait) ++ [e] }, c.lead)
def St.want (s : St) (e : En) : St :=
  let x := s.c.wanted e
  let s := { s with c := x.1 }
  if x.2 then s.grow else s
def Co.submit (c : Co) (id : Nat) (row : List Int) : St :=
  let s : St := ⟨c, [], []⟩
  let e : En := ⟨id, 0, row⟩
  let s := if c.n = 1 ∧ c.lead = false then s.begin else s
  let x := s.c.wanted e
  let s := { s with c := x.1 }
  if x.2 then s.grow
  else if may e = true ∧ s.c.lead = false ∧ hasId s.c.list id = false then s.out { msg0 1 ((s.c.view % s.c.n : Nat) : Int) with ents := [e] }
  else s
def St.fin (s : St) (m : Mg) : St := if s.c.last = m.view then { s with c := { s.c with agreed := max s.c.agreed (min m.commit s.c.list.length) } } else s
def St.hold (s : St) (m : Mg) : St := St.fin (s.out { msg0 5 m.from_ with op := s.c.list.length }) m
def St.heard (s : St) (m : Mg) : St :=
  if m.kind = 4 then
    if begins m.ents (s.c.list.take s.c.agreed) = false then s
    else (if s.c.last < m.view ∨ s.c.list.length < m.ents.length then s.take m.view m.ents else s).hold m
  else s.fin m
def St.hear (s : St) (m : Mg) : St := St.heard { s with c := { s.c with quiet := 0 } } m
def Co.odd (c : Co) (m : Mg) : Prop := ¬ m.good ∨ m.to ≠ (c.me : Int) ∨ m.from_ = (c.me : Int) ∨ (c.n : Int) ≤ m.from_ ∨ mostView < m.view ∨ listed m.ents = false
open Classical in
noncomputable def Co.get (c : Co) (m : Mg) : St :=
  let s : St := ⟨c, [], []⟩
  if c.odd m then s
  else if m.kind = 1 then m.ents.foldl St.want s
  else
    let s := if c.view < m.view then (s.promise m.view).vote else s
    if m.view < s.c.view then s
    else if m.kind = 3 then (if s.c.view % s.c.n = s.c.me ∧ m.last ≤ m.view then s.count m.from_.toNat ⟨m.last, m.ents⟩ else s)
    else if m.kind = 5 then
      (if s.c.lead then { s with c := Co.settle { s.c with held := upd s.c.held m.from_.toNat (some (max ((s.c.held m.from_.toNat).getD 0) m.op)) } } else s)
    else if m.kind = 4 ∨ m.kind = 6 then (if m.from_ = ((s.c.view % s.c.n : Nat) : Int) then s.hear m else s)
    else s
def Co.tick (c : Co) : St :=
  let s : St := ⟨c, [], []⟩
  if c.lead then s.grow else
  let s := { s with c := { c with quiet := c.quiet + 1 } }
  if 12 ≤ s.c.quiet ∨ c.n = 1 then s.begin
  else if s.c.quiet % 4 = 0 then s.vote
  else s

/-! Records. -/
def Rd.ok (x : Rd) : Prop := x.view ≤ mostView ∧ x.last ≤ x.view ∧ listed x.list = true
instance (x : Rd) : Decidable x.ok := by unfold Rd.ok; infer_instance
def Co.apply (c : Co) (x : Rd) : Option Co :=
  if x.kind = 1 then (if x.view < c.view ∨ x.list ≠ [] then none else some { c with view := x.view })
  else if x.kind = 2 then (if x.view < c.view ∨ x.view < c.last ∨ begins x.list (c.list.take c.agreed) = false then none else some { c with view := x.view, last := x.view, list := x.list })
  else if x.kind = 3 then (if listed (c.list ++ x.list) = true then some { c with list := c.list ++ x.list } else none)
  else if x.kind = 4 then (if x.list.length < x.agreed then none else some { c with view := x.view, last := x.last, agreed := x.agreed, list := x.list })
  else none
def Co.replay : Co → List Rd → Option Co
  | c, [] => some c
  | c, x :: l => if x.ok then (c.apply x).bind fun c => c.replay l else none
def open_ (me n : Nat) (l : List Rd) : Option Co := ((Co.new me n).replay l).map fun c => if n = 1 then { c with agreed := c.list.length } else c

/-! The law's world. -/
structure Act where
  op : Int
  r : Int
  k : Int
  id : Nat
  row : List Int
structure W where
  n : Nat
  c : Nat → Co
  saved : Nat → List Rd
  cut : Nat → Option Nat
  l : List Mg
  ids : List (Nat × List Int)
  best : List En
def toldL (ids : List (Nat × List Int)) : List En → List En → List En → Option (List En)
  | _, [], best => some best
  | pre, e :: l, best =>
    match best[pre.length]? with
    | some b => if e.id ≠ b.id ∨ e.row ≠ b.row then none else toldL ids (pre ++ [e]) l best
    | none => if (ids.any fun x => decide (x.1 = e.id ∧ x.2 = e.row)) = true ∧ hasId pre e.id = false then toldL ids (pre ++ [e]) l (best ++ [e]) else none
def W.told (w : W) (r : Nat) : Option W :=
  let l := (w.c r).list.take (w.c r).agreed
  (toldL w.ids [] l w.best).bind fun b => if l.length ≤ 200 then some { w with best := b } else none
def W.opened (w : W) (r : Nat) : Option W := (open_ r w.n (w.saved r)).map fun c => { w with c := upd w.c r c }
def fits (r n : Nat) (m : Mg) : Prop := m.good ∧ m.from_ = (r : Int) ∧ m.to ≠ (r : Int) ∧ 0 ≤ m.to ∧ m.to < (n : Int)
def addL (l : List Mg) (m : Mg) : List Mg := if l.length < 4000 then l ++ [m] else l
open Classical in
noncomputable def W.step (w : W) (r : Nat) (s : St) : Option W :=
  let w := { w with c := upd w.c r s.c }
  match w.cut r with
  | some k =>
    let w := { w with cut := upd w.cut r none, saved := upd w.saved r (w.saved r ++ s.save.take k) }
    (w.opened r).bind fun w => w.told r
  | none =>
    let w := { w with saved := upd w.saved r (w.saved r ++ s.save) }
    if (∀ m ∈ s.send, fits r w.n m) then W.told { w with l := s.send.foldl addL w.l } r else none
def W.there (w : W) (a : Act) : Prop := 0 ≤ a.r ∧ a.r < (w.n : Int)
instance (w : W) (a : Act) : Decidable (w.there a) := by unfold W.there; infer_instance
def W.packet (w : W) (a : Act) : Prop := 0 ≤ a.k ∧ a.k < (w.l.length : Int)
instance (w : W) (a : Act) : Decidable (w.packet a) := by unfold W.packet; infer_instance
def W.out (w : W) (k : Nat) : W := { w with l := w.l.take k ++ w.l.drop (k + 1) }
noncomputable def W.act (w : W) (a : Act) : Option W :=
  if a.op = 0 then
    if w.there a then
      W.step (if 0 < a.id ∧ a.row.length ≤ 16 then { w with ids := w.ids ++ [(a.id, a.row)] } else w) a.r.toNat ((w.c a.r.toNat).submit a.id a.row)
    else some w
  else if a.op = 1 then (if w.there a then w.step a.r.toNat (w.c a.r.toNat).tick else some w)
  else if a.op = 2 then
    match (if w.packet a then w.l[a.k.toNat]? else none) with
    | some m => (w.out a.k.toNat).step m.to.toNat ((w.c m.to.toNat).get m)
    | none => some w
  else if a.op = 3 then (if w.packet a then some (w.out a.k.toNat) else some w)
  else if a.op = 4 then
    match (if w.packet a then w.l[a.k.toNat]? else none) with
    | some m => some (if w.l.length < 4000 then { w with l := w.l ++ [m] } else w)
    | none => some w
  else if a.op = 5 then (if w.there a then (w.opened a.r.toNat).bind fun w => w.told a.r.toNat else some w)
  else if a.op = 6 then some (if w.there a ∧ 0 ≤ a.k then { w with cut := upd w.cut a.r.toNat (some a.k.toNat) } else w)
  else some w
def W.begun (n : Nat) : W := ⟨n, fun r => Co.new r n, fun _ => [], fun _ => none, [], [], []⟩
end Ag
end Go.Proofs.Ytbciofnejefkiaa

namespace Go.Proofs.Ytbciofnejefkiaa
set_option linter.unusedSimpArgs false
set_option linter.unusedVariables false

/-! What holds of any world of replicas: which lists were taken, in which view. -/
namespace Ag
def Z (l : List En) : Prop := ∀ e ∈ l, e.view = 0
theorem en_eq {a b : En} (ha : a.view = 0) (hb : b.view = 0) (h : sameE a b = true) : a = b := by
  obtain ⟨i, v, r⟩ := a; obtain ⟨j, w, q⟩ := b
  simp only [sameE, Bool.and_eq_true, decide_eq_true_eq] at h ha hb
  rw [h.1, h.2, ha, hb]
theorem sameE_self (a : En) : sameE a a = true := by simp [sameE]
theorem eqL_iff : ∀ {l k : List En}, Z l → Z k → (eqL l k = true ↔ l = k)
  | [], [], _, _ => by simp [eqL]
  | [], b :: k, _, _ => by simp [eqL]
  | a :: l, [], _, _ => by simp [eqL]
  | a :: l, b :: k, h1, h2 => by
    have ih := eqL_iff (l := l) (k := k) (fun e he => h1 e (List.mem_cons_of_mem _ he)) (fun e he => h2 e (List.mem_cons_of_mem _ he))
    simp only [eqL, Bool.and_eq_true, ih, List.cons.injEq]
    constructor
    · rintro ⟨x, y⟩; exact ⟨en_eq (h1 a (List.mem_cons_self)) (h2 b (List.mem_cons_self)) x, y⟩
    · rintro ⟨rfl, y⟩; exact ⟨sameE_self _, y⟩
theorem Z.take {l : List En} (h : Z l) (k : Nat) : Z (l.take k) := fun e he => h e (List.mem_of_mem_take he)
theorem begins_iff {l w : List En} (hl : Z l) (hw : Z w) : begins l w = true ↔ w <+: l := by
  unfold begins
  rw [Bool.and_eq_true, decide_eq_true_eq, eqL_iff (hl.take _) hw, List.prefix_iff_eq_take]
  constructor
  · rintro ⟨_, h⟩; exact h.symm
  · intro h; refine ⟨?_, h.symm⟩; rw [h, List.length_take]; omega

/-! More than half. -/
def quo (n : Nat) (Q : Nat → Bool) : Prop := n / 2 + 1 ≤ (List.range n).countP Q
theorem count_both (P Q : Nat → Bool) : ∀ l : List Nat, l.countP P + l.countP Q ≤ l.length + l.countP fun x => P x && Q x
  | [] => by simp
  | x :: l => by
    have ih := count_both P Q l
    simp only [List.countP_cons, List.length_cons]
    cases P x <;> cases Q x <;> simp <;> omega
theorem quo_meet {n : Nat} {P Q : Nat → Bool} (h : quo n P) (k : quo n Q) : ∃ p, p < n ∧ P p = true ∧ Q p = true := by
  unfold quo at h k
  have hb := count_both P Q (List.range n)
  rw [List.length_range] at hb
  have : 0 < (List.range n).countP fun x => P x && Q x := by omega
  obtain ⟨p, hp, hq⟩ := List.countP_pos_iff.1 this
  rw [Bool.and_eq_true] at hq
  exact ⟨p, List.mem_range.1 hp, hq.1, hq.2⟩
theorem quo_some {n : Nat} {P : Nat → Bool} (h : quo n P) : ∃ p, p < n ∧ P p = true := let ⟨p, a, b, _⟩ := quo_meet h h; ⟨p, a, b⟩
theorem quo_all {n : Nat} (h : 0 < n) : quo n fun _ => true := by
  unfold quo; rw [List.countP_true, List.length_range]; omega

/-! Inputs, lists. -/
structure EOK (S : List (Nat × List Int)) (e : En) : Prop where
  view : e.view = 0
  id : 0 < e.id
  row : e.row.length ≤ 16
  mem : (e.id, e.row) ∈ S
  ok : e.Ok
structure LOK (S : List (Nat × List Int)) (l : List En) : Prop where
  all : ∀ e ∈ l, EOK S e
  uniq : uniq l = true
  len : l.length ≤ 200
theorem EOK.mono {S T : List (Nat × List Int)} (h : ∀ x ∈ S, x ∈ T) {e : En} (k : EOK S e) : EOK T e := ⟨k.view, k.id, k.row, h _ k.mem, k.ok⟩
theorem EOK.may {S : List (Nat × List Int)} {e : En} (k : EOK S e) : may e = true := by simp [Ag.may, k.id, k.row]
theorem LOK.z {S : List (Nat × List Int)} {l : List En} (h : LOK S l) : Z l := fun e he => (h.all e he).view
theorem LOK.listed {S : List (Nat × List Int)} {l : List En} (h : LOK S l) : listed l = true := by
  simp only [Ag.listed, Bool.and_eq_true, List.all_eq_true, decide_eq_true_eq]
  exact ⟨⟨fun e he => (h.all e he).may, h.uniq⟩, h.len⟩
theorem LOK.mono {S T : List (Nat × List Int)} (h : ∀ x ∈ S, x ∈ T) {l : List En} (k : LOK S l) : LOK T l := ⟨fun e he => (k.all e he).mono h, k.uniq, k.len⟩
theorem LOK.nil {S : List (Nat × List Int)} : LOK S [] := ⟨by simp, rfl, by simp⟩
theorem hasId_app (l k : List En) (i : Nat) : hasId (l ++ k) i = (hasId l i || hasId k i) := by simp [hasId]
theorem uniq_app : ∀ {l k : List En}, uniq (l ++ k) = true → uniq l = true ∧ uniq k = true
  | [], k, h => ⟨rfl, h⟩
  | a :: l, k, h => by
    simp only [List.cons_append, uniq, hasId_app, Bool.and_eq_true, Bool.not_eq_true', Bool.or_eq_false_iff] at h ⊢
    have := uniq_app h.2
    exact ⟨⟨h.1.1, this.1⟩, this.2⟩
theorem LOK.pre {S : List (Nat × List Int)} {l k : List En} (h : LOK S l) (hk : k <+: l) : LOK S k := by
  obtain ⟨t, rfl⟩ := hk
  exact ⟨fun e he => h.all e (List.mem_append_left _ he), (uniq_app h.uniq).1, by have := h.len; rw [List.length_append] at this; omega⟩
theorem LOK.drop {S : List (Nat × List Int)} {l : List En} (h : LOK S l) (k : Nat) : LOK S (l.drop k) :=
  ⟨fun e he => h.all e (List.mem_of_mem_drop he), (uniq_app (l := l.take k) (by rw [List.take_append_drop]; exact h.uniq)).2, by have := h.len; rw [List.length_drop]; omega⟩
theorem LOK.sing {S : List (Nat × List Int)} {e : En} (h : EOK S e) : LOK S [e] := ⟨fun x hx => by rw [List.mem_singleton.1 hx]; exact h, rfl, by simp⟩
theorem hasId_get {l : List En} {i : Nat} : hasId l i = true ↔ ∃ e ∈ l, e.id = i := by simp [hasId]
theorem uniq_snoc : ∀ {l : List En} {e : En}, uniq l = true → hasId l e.id = false → uniq (l ++ [e]) = true
  | [], e, _, _ => rfl
  | a :: l, e, h, k => by
    simp only [List.cons_append, uniq, hasId_app, Bool.and_eq_true, Bool.not_eq_true', Bool.or_eq_false_iff] at h ⊢
    simp only [hasId, List.any_cons, Bool.or_eq_false_iff] at k
    refine ⟨⟨h.1, ?_⟩, uniq_snoc h.2 k.2⟩
    simp only [hasId, List.any_cons, List.any_nil, Bool.or_false, decide_eq_false_iff_not]
    exact fun x => (decide_eq_false_iff_not.1 k.1) x.symm

/-! The ghost: what replicas took. -/
structure Gh where
  n : Nat
  V : Nat → Nat
  acc : Nat → Nat → Option (List En)
  ini : Nat → Nat
  S : List (Nat × List Int)
def Comm (g : Gh) (v : Nat) (x : List En) : Prop := ∃ u, u ≤ v ∧ ∃ Q, quo g.n Q ∧ ∀ p, p < g.n → Q p = true → ∃ l, g.acc p u = some l ∧ x <+: l
def VoteOK (g : Gh) (q v lst : Nat) (l : List En) : Prop := v ≤ g.V q ∧ lst ≤ v ∧ ∃ k, g.acc q lst = some k ∧ l <+: k ∧ (lst < v → l = k ∧ ∀ u, lst < u → u < v → g.acc q u = none)
def Elec (g : Gh) (v : Nat) (L : List En) (i : Nat) : Prop := ∃ Q b Lb, quo g.n Q ∧ b < v ∧ (∀ p, p < g.n → Q p = true → v ≤ g.V p ∧ (∀ u, b < u → u < v → g.acc p u = none) ∧ ∀ l, g.acc p b = some l → l.length ≤ i) ∧ g.acc (b % g.n) b = some Lb ∧ i ≤ Lb.length ∧ g.ini b ≤ i ∧ L.take i = Lb.take i
structure GOK (g : Gh) : Prop where
  pos : 0 < g.n
  zero : ∀ p, p < g.n → ∃ l, g.acc p 0 = some l
  ini0 : g.ini 0 = 0
  acc : ∀ p, p < g.n → ∀ v l, g.acc p v = some l → v ≤ g.V p ∧ LOK g.S l ∧ ∃ L, g.acc (v % g.n) v = some L ∧ l <+: L ∧ g.ini v ≤ l.length
  elec : ∀ v L, 0 < v → g.acc (v % g.n) v = some L → Elec g v L (g.ini v)
structure Le (g h : Gh) : Prop where
  n : h.n = g.n
  V : ∀ p, g.V p ≤ h.V p
  old : ∀ p u, u < g.V p → h.acc p u = g.acc p u
  grow : ∀ p u l, g.acc p u = some l → ∃ k, h.acc p u = some k ∧ l <+: k
  ini : ∀ v L, g.acc (v % g.n) v = some L → h.ini v = g.ini v
  S : ∀ x ∈ g.S, x ∈ h.S
structure Only (r : Nat) (g h : Gh) : Prop where
  S : h.S = g.S
  at_ : ∀ p, p ≠ r → h.V p = g.V p ∧ ∀ u, h.acc p u = g.acc p u
theorem Le.refl (g : Gh) : Le g g := ⟨rfl, fun _ => Nat.le_refl _, fun _ _ _ => rfl, fun _ _ l h => ⟨l, h, List.prefix_refl _⟩, fun _ _ _ => rfl, fun _ h => h⟩
theorem Le.trans {g h k : Gh} (a : Le g h) (b : Le h k) : Le g k where
  n := b.n.trans a.n
  V p := Nat.le_trans (a.V p) (b.V p)
  old p u hu := (b.old p u (Nat.lt_of_lt_of_le hu (a.V p))).trans (a.old p u hu)
  grow p u l hl := by
    obtain ⟨x, hx, h1⟩ := a.grow p u l hl
    obtain ⟨y, hy, h2⟩ := b.grow p u x hx
    exact ⟨y, hy, h1.trans h2⟩
  ini v L hL := by
    obtain ⟨x, hx, _⟩ := a.grow _ v L hL
    exact (b.ini v x (by rw [a.n]; exact hx)).trans (a.ini v L hL)
  S x hx := b.S x (a.S x hx)
theorem Only.refl (r : Nat) (g : Gh) : Only r g g := ⟨rfl, fun _ _ => ⟨rfl, fun _ => rfl⟩⟩
theorem Only.trans {r : Nat} {g h k : Gh} (a : Only r g h) (b : Only r h k) : Only r g k := ⟨b.S.trans a.S, fun p hp => ⟨(b.at_ p hp).1.trans (a.at_ p hp).1, fun u => ((b.at_ p hp).2 u).trans ((a.at_ p hp).2 u)⟩⟩
theorem Comm.nil {g : Gh} (h : GOK g) (v : Nat) : Comm g v [] := ⟨0, Nat.zero_le _, fun _ => true, quo_all h.pos, fun p hp _ => let ⟨l, hl⟩ := h.zero p hp; ⟨l, hl, List.nil_prefix⟩⟩
theorem Comm.mono {g : Gh} {v w : Nat} {x y : List En} (h : Comm g v x) (hv : v ≤ w) (hy : y <+: x) : Comm g w y := by
  obtain ⟨u, hu, Q, hQ, k⟩ := h
  exact ⟨u, Nat.le_trans hu hv, Q, hQ, fun p hp hq => let ⟨l, a, b⟩ := k p hp hq; ⟨l, a, hy.trans b⟩⟩
theorem Comm.le {g h : Gh} (a : Le g h) {v : Nat} {x : List En} (k : Comm g v x) : Comm h v x := by
  obtain ⟨u, hu, Q, hQ, k⟩ := k
  refine ⟨u, hu, Q, by rw [a.n]; exact hQ, fun p hp hq => ?_⟩
  obtain ⟨l, h1, h2⟩ := k p (by rw [← a.n]; exact hp) hq
  obtain ⟨m, h3, h4⟩ := a.grow p u l h1
  exact ⟨m, h3, h2.trans h4⟩
theorem VoteOK.le {g h : Gh} (a : Le g h) {q v lst : Nat} {l : List En} (k : VoteOK g q v lst l) : VoteOK h q v lst l := by
  obtain ⟨h1, h2, k, h3, h4, h5⟩ := k
  by_cases hl : lst < v
  · obtain ⟨h6, h7⟩ := h5 hl
    exact ⟨Nat.le_trans h1 (a.V q), h2, k, by rw [a.old q lst (by omega)]; exact h3, h4, fun _ => ⟨h6, fun u hu hv => by rw [a.old q u (by omega)]; exact h7 u hu hv⟩⟩
  · obtain ⟨m, h6, h7⟩ := a.grow q lst k h3
    exact ⟨Nat.le_trans h1 (a.V q), h2, m, h6, h4.trans h7, fun x => absurd x hl⟩
theorem take_pre {l k : List En} {i : Nat} (h : l <+: k) (hi : i ≤ l.length) : k.take i = l.take i := by
  obtain ⟨t, rfl⟩ := h
  exact List.take_append_of_le_length hi
theorem Elec.le {g h : Gh} (a : Le g h) {v i : Nat} {L M : List En} (k : Elec g v L i) (hM : M.take i = L.take i) : Elec h v M i := by
  obtain ⟨Q, b, Lb, h1, h2, h3, h4, h5, h6, h7⟩ := k
  obtain ⟨Lc, h8, h9⟩ := a.grow _ b Lb h4
  refine ⟨Q, b, Lc, by rw [a.n]; exact h1, h2, fun p hp hq => ?_, by rw [a.n]; exact h8, Nat.le_trans h5 h9.length_le, by rw [a.ini b Lb h4]; exact h6, by rw [hM, h7, take_pre h9 h5]⟩
  obtain ⟨x, y, z⟩ := h3 p (by rw [← a.n]; exact hp) hq
  exact ⟨Nat.le_trans x (a.V p), fun u hu hv => by rw [a.old p u (by omega)]; exact y u hu hv, fun l hl => z l (by rw [← a.old p b (by omega)]; exact hl)⟩
theorem safe {g : Gh} (G : GOK g) {u : Nat} {x : List En} {Q : Nat → Bool} (hQ : quo g.n Q) (hx : ∀ p, p < g.n → Q p = true → ∃ l, g.acc p u = some l ∧ x <+: l) :
    ∀ v L, u < v → g.acc (v % g.n) v = some L → x <+: L.take (g.ini v) := by
  intro v
  induction v using Nat.strongRecOn with
  | ind v ih =>
    intro L hv hL
    obtain ⟨Q', b, Lb, h1, h2, h3, h4, h5, h6, h7⟩ := G.elec v L (by omega) hL
    obtain ⟨p, hp, hq, hq'⟩ := quo_meet hQ h1
    obtain ⟨l, hl, hxl⟩ := hx p hp hq
    obtain ⟨h8, h9, h10⟩ := h3 p hp hq'
    have hub : u ≤ b := Nat.le_of_not_lt fun hb => by rw [h9 u hb hv] at hl; cases hl
    rw [h7]
    rcases Nat.eq_or_lt_of_le hub with rfl | hlt
    · obtain ⟨_, _, L', hL', hp', _⟩ := G.acc p hp u l hl
      rw [h4] at hL'; cases hL'
      have hle := h10 l hl
      have := hxl.trans hp'
      have hlen := hxl.length_le
      rw [List.prefix_iff_eq_take] at this ⊢
      rw [List.take_take, Nat.min_eq_left (by omega)]; exact this
    · have := ih b h2 Lb hlt h4
      refine this.trans ?_
      rw [List.prefix_iff_eq_take, List.length_take, List.take_take]
      congr 1; omega
theorem Comm.acc {g : Gh} (G : GOK g) {v w p : Nat} {x l : List En} (k : Comm g v x) (hv : v ≤ w) (hp : p < g.n) (hl : g.acc p w = some l) : x <+: l ∨ l <+: x := by
  obtain ⟨u, hu, Q, hQ, k⟩ := k
  obtain ⟨_, _, L, hL, h1, h2⟩ := G.acc p hp w l hl
  rcases Nat.eq_or_lt_of_le (Nat.le_trans hu hv) with rfl | hlt
  · obtain ⟨q, hq, hqQ⟩ := quo_some hQ
    obtain ⟨m, hm, hxm⟩ := k q hq hqQ
    obtain ⟨_, _, L', hL', h3, _⟩ := G.acc q hq u m hm
    rw [hL] at hL'; cases hL'
    exact List.prefix_or_prefix_of_prefix (hxm.trans h3) h1
  · have h3 := safe G hQ k w L hlt hL
    left
    rw [take_pre h1 h2] at h3
    exact h3.trans (List.take_prefix _ _)
theorem Comm.lt {g : Gh} (G : GOK g) {v w p : Nat} {x l : List En} (k : Comm g v x) (hv : v < w) (hp : p < g.n) (hl : g.acc p w = some l) : x <+: l := by
  obtain ⟨u, hu, Q, hQ, k⟩ := k
  obtain ⟨_, _, L, hL, h1, h2⟩ := G.acc p hp w l hl
  have h3 := safe G hQ k w L (by omega) hL
  rw [take_pre h1 h2] at h3
  exact h3.trans (List.take_prefix _ _)
theorem Comm.chain {g : Gh} (G : GOK g) {v w : Nat} {x y : List En} (k : Comm g v x) (m : Comm g w y) : x <+: y ∨ y <+: x := by
  have aux : ∀ {u u' : Nat} {x y : List En} {Q Q' : Nat → Bool}, u ≤ u' → quo g.n Q → (∀ p, p < g.n → Q p = true → ∃ l, g.acc p u = some l ∧ x <+: l) → quo g.n Q' → (∀ p, p < g.n → Q' p = true → ∃ l, g.acc p u' = some l ∧ y <+: l) → x <+: y ∨ y <+: x := by
    intro u u' x y Q Q' hle hQ hx hQ' hy
    obtain ⟨p, hp, hq⟩ := quo_some hQ'
    obtain ⟨l, hl, hyl⟩ := hy p hp hq
    rcases Comm.acc G ⟨u, Nat.le_refl _, Q, hQ, hx⟩ hle hp hl with h | h
    · exact List.prefix_or_prefix_of_prefix h hyl
    · exact .inr (hyl.trans h)
  obtain ⟨u, _, Q, hQ, hx⟩ := k
  obtain ⟨u', _, Q', hQ', hy⟩ := m
  rcases Nat.le_total u u' with h | h
  · exact aux h hQ hx hQ' hy
  · exact (aux h hQ' hy hQ hx).symm
theorem Comm.lok {g : Gh} (G : GOK g) {v : Nat} {x : List En} (k : Comm g v x) : LOK g.S x := by
  obtain ⟨u, _, Q, hQ, hx⟩ := k
  obtain ⟨p, hp, hq⟩ := quo_some hQ
  obtain ⟨l, hl, h⟩ := hx p hp hq
  exact (G.acc p hp u l hl).2.1.pre h
end Ag
end Go.Proofs.Ytbciofnejefkiaa

namespace Go.Proofs.Ytbciofnejefkiaa
set_option linter.unusedSimpArgs false
set_option linter.unusedVariables false

/-! What holds of a replica, of a message, of a step that is under way. -/
namespace Ag
structure MOK (g : Gh) (m : Mg) : Prop where
  from_ : 0 ≤ m.from_ ∧ m.from_ < (g.n : Int)
  to : 0 ≤ m.to ∧ m.to < (g.n : Int)
  ne : m.to ≠ m.from_
  kind : 1 ≤ m.kind ∧ m.kind ≤ 6
  view : m.view ≤ mostView
  last : m.last ≤ m.view
  op : m.op ≤ 200
  commit : m.commit ≤ 200
  ents : LOK g.S m.ents
  body : m.body = []
  vote : m.kind = 3 → VoteOK g m.from_.toNat m.view m.last m.ents
  lead : m.kind = 4 ∨ m.kind = 6 → m.from_ = ((m.view % g.n : Nat) : Int) ∧ ∃ L, g.acc (m.view % g.n) m.view = some L ∧ m.commit ≤ L.length ∧ Comm g m.view (L.take m.commit)
  lays : m.kind = 4 → ∃ L, g.acc (m.view % g.n) m.view = some L ∧ m.ents <+: L ∧ g.ini m.view ≤ m.ents.length
  hold : m.kind = 5 → ∃ l, g.acc m.from_.toNat m.view = some l ∧ m.op ≤ l.length
theorem MOK.le {g h : Gh} (a : Le g h) {m : Mg} (k : MOK g m) : MOK h m where
  from_ := by rw [a.n]; exact k.from_
  to := by rw [a.n]; exact k.to
  ne := k.ne
  kind := k.kind
  view := k.view
  last := k.last
  op := k.op
  commit := k.commit
  ents := k.ents.mono a.S
  body := k.body
  vote h := (k.vote h).le a
  lead h := by
    obtain ⟨h1, L, h2, h3, h4⟩ := k.lead h
    obtain ⟨M, h5, h6⟩ := a.grow _ _ _ h2
    exact ⟨by rw [a.n]; exact h1, M, by rw [a.n]; exact h5, Nat.le_trans h3 h6.length_le, by rw [take_pre h6 h3]; exact h4.le a⟩
  lays h := by
    obtain ⟨L, h2, h3, h4⟩ := k.lays h
    obtain ⟨M, h5, h6⟩ := a.grow _ _ _ h2
    exact ⟨M, by rw [a.n]; exact h5, h3.trans h6, by rw [a.ini _ _ h2]; exact h4⟩
  hold h := by
    obtain ⟨L, h2, h3⟩ := k.hold h
    obtain ⟨M, h5, h6⟩ := a.grow _ _ _ h2
    exact ⟨M, h5, Nat.le_trans h3 h6.length_le⟩
structure COK (g : Gh) (c : Co) : Prop where
  me : c.me < g.n
  n : c.n = g.n
  view : c.view = g.V c.me
  most : c.view ≤ mostView
  last : c.last ≤ c.view
  cur : g.acc c.me c.last = some c.list
  later : ∀ v, c.last < v → g.acc c.me v = none
  agr : c.agreed ≤ c.list.length
  comm : Comm g c.last (c.list.take c.agreed)
  got : ∀ q x, c.got q = some x → q < g.n ∧ VoteOK g q c.view x.last x.list ∧ c.view % g.n = c.me
  held : ∀ q h, c.held q = some h → q < g.n ∧ ∃ l, g.acc q c.view = some l ∧ h ≤ l.length
  lead : c.lead = true → c.view % g.n = c.me ∧ c.last = c.view
  wait : ∀ e ∈ c.wait, EOK g.S e
  waitn : c.wait.length ≤ 200
theorem COK.le {g h : Gh} {r : Nat} (a : Le g h) (o : Only r g h) {c : Co} (hr : c.me ≠ r) (k : COK g c) : COK h c where
  me := by rw [a.n]; exact k.me
  n := k.n.trans a.n.symm
  view := by rw [(o.at_ _ hr).1]; exact k.view
  most := k.most
  last := k.last
  cur := by rw [(o.at_ _ hr).2]; exact k.cur
  later v hv := by rw [(o.at_ _ hr).2]; exact k.later v hv
  agr := k.agr
  comm := k.comm.le a
  got q x hx := by
    obtain ⟨h1, h2, h3⟩ := k.got q x hx
    exact ⟨by rw [a.n]; exact h1, h2.le a, by rw [a.n]; exact h3⟩
  held q x hx := by
    obtain ⟨h1, l, h2, h3⟩ := k.held q x hx
    obtain ⟨M, h5, h6⟩ := a.grow _ _ _ h2
    exact ⟨by rw [a.n]; exact h1, M, h5, Nat.le_trans h3 h6.length_le⟩
  lead hl := by rw [a.n]; exact k.lead hl
  wait e he := (k.wait e he).mono a.S
  waitn := k.waitn
theorem COK.lok {g : Gh} (G : GOK g) {c : Co} (k : COK g c) : LOK g.S c.list := (G.acc _ k.me _ _ k.cur).2.1
def base (c : Co) : Co := { Co.new c.me c.n with view := c.view, last := c.last, list := c.list }
theorem COK.base {g : Gh} (G : GOK g) {c : Co} (k : COK g c) : COK g (base c) where
  me := k.me
  n := k.n
  view := k.view
  most := k.most
  last := k.last
  cur := k.cur
  later := k.later
  agr := Nat.zero_le _
  comm := by show Comm g c.last (c.list.take 0); exact Comm.nil G _
  got q x hx := by cases hx
  held q x hx := by cases hx
  lead hl := by cases hl
  wait e he := by cases he
  waitn := Nat.zero_le _
theorem replay_app : ∀ (l k : List Rd) (c : Co), c.replay (l ++ k) = (c.replay l).bind fun d => d.replay k
  | [], k, c => rfl
  | x :: l, k, c => by
    simp only [List.cons_append, Co.replay]
    split
    · cases c.apply x with
      | none => rfl
      | some d => exact replay_app l k d
    · rfl
structure SOK (g0 : Gh) (r : Nat) (d0 : Co) (g : Gh) (s : St) : Prop where
  le : Le g0 g
  only : Only r g0 g
  gok : GOK g
  cok : COK g s.c
  me : s.c.me = r
  send : ∀ m ∈ s.send, MOK g m ∧ m.from_ = (r : Int)
  disk : d0.replay s.save = some (base s.c)
  part : ∀ k, ∃ h c, Le g0 h ∧ Only r g0 h ∧ GOK h ∧ COK h c ∧ c.me = r ∧ d0.replay (s.save.take k) = some (base c)
variable {g0 g : Gh} {r : Nat} {d0 : Co} {s : St}
theorem SOK.mem (h : SOK g0 r d0 g s) {c : Co} (hc : COK g c) (hb : base c = base s.c) : SOK g0 r d0 g { s with c := c } where
  le := h.le
  only := h.only
  gok := h.gok
  cok := hc
  me := (congrArg Co.me hb).trans h.me
  send := h.send
  disk := by rw [hb]; exact h.disk
  part := h.part
theorem SOK.put (h : SOK g0 r d0 g s) {g' : Gh} {c : Co} {x : Rd} (a : Le g g') (o : Only r g g') (G : GOK g') (hc : COK g' c) (hm : c.me = r) (hx : x.ok) (hb : (base s.c).apply x = some (base c)) :
    SOK g0 r d0 g' { s with c := c, save := s.save ++ [x] } := by
  have hd : d0.replay (s.save ++ [x]) = some (base c) := by
    rw [replay_app, h.disk]
    simp only [Option.bind_some, Co.replay, hx, if_true, hb]
  refine ⟨h.le.trans a, h.only.trans o, G, hc, hm, fun m hm => ⟨(h.send m hm).1.le a, (h.send m hm).2⟩, hd, fun k => ?_⟩
  by_cases hk : k ≤ s.save.length
  · show ∃ h c, _ ∧ _ ∧ _ ∧ _ ∧ _ ∧ d0.replay ((s.save ++ [x]).take k) = _
    rw [List.take_append_of_le_length hk]; exact h.part k
  · refine ⟨g', c, h.le.trans a, h.only.trans o, G, hc, hm, ?_⟩
    show d0.replay ((s.save ++ [x]).take k) = _
    rw [List.take_of_length_le (by rw [List.length_append, List.length_singleton]; omega)]; exact hd
theorem SOK.out (h : SOK g0 r d0 g s) (m : Mg) (hm : m.to ≠ (s.c.me : Int) → MOK g { m with from_ := (s.c.me : Int), view := s.c.view }) : SOK g0 r d0 g (s.out m) := by
  unfold St.out
  split
  · exact h
  · next hne =>
    refine ⟨h.le, h.only, h.gok, h.cok, h.me, fun x hx => ?_, h.disk, h.part⟩
    rcases List.mem_append.1 hx with hx | hx
    · exact h.send x hx
    · obtain rfl := List.mem_singleton.1 hx
      exact ⟨hm hne, by show ((s.c.me : Nat) : Int) = _; rw [h.me]⟩
theorem out_c (s : St) (m : Mg) : (s.out m).c = s.c := by unfold St.out; split <;> rfl
theorem out_save (s : St) (m : Mg) : (s.out m).save = s.save := by unfold St.out; split <;> rfl
theorem SOK.outs (f : Nat → Mg) (hm : ∀ to, to < g.n → (f to).to ≠ (r : Int) → MOK g { f to with from_ := (r : Int), view := s.c.view }) :
    ∀ (k : Nat), k ≤ g.n → ∀ (c : Co), s.c = c → SOK g0 r d0 g s → SOK g0 r d0 g ((List.range k).foldl (fun (s : St) (to : Nat) => s.out (f to)) s) ∧ ((List.range k).foldl (fun (s : St) (to : Nat) => s.out (f to)) s).c = c := by
  intro k
  induction k with
  | zero => intro _ c hc h; exact ⟨h, hc⟩
  | succ k ih =>
    intro hk c hc h
    obtain ⟨h1, h2⟩ := ih (by omega) c hc h
    rw [List.range_succ, List.foldl_append]
    simp only [List.foldl_cons, List.foldl_nil]
    refine ⟨h1.out _ fun hne => ?_, by rw [out_c, h2]⟩
    rw [h1.me] at hne ⊢
    have := hm k (by omega) hne
    rw [h2, ← hc]; exact this
theorem outs_view (f : Nat → Mg) (F : St → Nat → Mg) (c : Co) (hF : ∀ s : St, s.c = c → F s = f) : ∀ (l : List Nat) (s : St), s.c = c → l.foldl (fun (s : St) (to : Nat) => s.out (F s to)) s = l.foldl (fun (s : St) (to : Nat) => s.out (f to)) s
  | [], s, _ => rfl
  | a :: l, s, h => by
    simp only [List.foldl_cons]
    rw [hF s h]
    exact outs_view f F c hF l _ (by rw [out_c, h])

/-! A promise. -/
theorem SOK.promise (h : SOK g0 r d0 g s) {v : Nat} (hv : s.c.view ≤ v) (hm : v ≤ mostView) : ∃ g', Le g g' ∧ SOK g0 r d0 g' (s.promise v) := by
  have hc := h.cok
  have hvm : s.c.view = g.V r := by rw [← h.me]; exact hc.view
  have a : Le g { g with V := upd g.V r v } := by
    refine ⟨rfl, fun p => ?_, fun _ _ _ => rfl, fun _ _ l hl => ⟨l, hl, List.prefix_refl _⟩, fun _ _ _ => rfl, fun _ hx => hx⟩
    show g.V p ≤ upd g.V r v p
    unfold upd; split
    · next e => rw [e]; omega
    · exact Nat.le_refl _
  have o : Only r g { g with V := upd g.V r v } := ⟨rfl, fun p hp => ⟨by show upd g.V r v p = _; unfold upd; rw [if_neg hp], fun _ => rfl⟩⟩
  have G : GOK { g with V := upd g.V r v } := by
    refine ⟨h.gok.pos, h.gok.zero, h.gok.ini0, fun p hp w l hl => ?_, fun w L hw hL => (h.gok.elec w L hw hL).le a rfl⟩
    obtain ⟨h1, h2⟩ := h.gok.acc p hp w l hl
    exact ⟨Nat.le_trans h1 (a.V p), h2⟩
  refine ⟨_, a, h.put (c := { s.c with view := v }.follow) a o G ?_ h.me ⟨hm, Nat.zero_le _, rfl⟩ ?_⟩
  · refine ⟨hc.me, hc.n, ?_, hm, Nat.le_trans hc.last hv, hc.cur, hc.later, hc.agr, hc.comm.le a, fun q x hx => ?_, fun q x hx => ?_, fun hl => ?_, hc.wait, hc.waitn⟩
    · show v = upd g.V r v s.c.me; unfold upd; rw [if_pos h.me]
    · cases hx
    · cases hx
    · cases hl
  · show (if _ then (if v < s.c.view ∨ ([] : List En) ≠ [] then none else _) else _) = _
    rw [if_pos rfl, if_neg (by simp; omega)]
    rfl

/-! A list is taken. -/
theorem take_c (s : St) (v : Nat) (l : List En) : (s.take v l).c = { s.c with last := v, list := l } := by
  unfold St.take St.put; dsimp only; split
  · split <;> rfl
  · rfl
theorem take_send (s : St) (v : Nat) (l : List En) : (s.take v l).send = s.send := by
  unfold St.take St.put; dsimp only; split
  · split <;> rfl
  · rfl
theorem SOK.take (h : SOK g0 r d0 g s) {l : List En} (hl : LOK g.S l) (h1 : s.c.last = s.c.view → s.c.list <+: l) (h2 : s.c.list.take s.c.agreed <+: l)
    (h3 : (s.c.view % g.n = r ∧ (s.c.last < s.c.view → Elec g s.c.view l l.length)) ∨ (s.c.view % g.n ≠ r ∧ ∃ L, g.acc (s.c.view % g.n) s.c.view = some L ∧ l <+: L ∧ g.ini s.c.view ≤ l.length)) :
    ∃ g', Le g g' ∧ SOK g0 r d0 g' (s.take s.c.view l) := by
  have hc := h.cok
  have hme := h.me
  have G := h.gok
  have hvm : s.c.view = g.V r := by rw [← h.me]; exact hc.view
  have hcur := hc.cur
  have hlater := hc.later
  rw [hme] at hcur hlater
  have hrn : r < g.n := by rw [← hme]; exact hc.me
  generalize hv : s.c.view = v at *
  have hlast := hc.last
  rw [hv] at hlast
  -- what was there at v
  have hold : ∀ k, g.acc r v = some k → s.c.last = v ∧ k = s.c.list := fun k hk => by
    have : s.c.last = v := by
      rcases Nat.eq_or_lt_of_le hlast with h | h
      · exact h
      · rw [hlater v h] at hk; cases hk
    rw [this, hk] at hcur
    exact ⟨this, Option.some.inj hcur⟩
  let acc' : Nat → Nat → Option (List En) := fun p u => if p = r ∧ u = v then some l else g.acc p u
  let ini' : Nat → Nat := fun u => if u = v ∧ v % g.n = r ∧ s.c.last < v then l.length else g.ini u
  have aN : ∀ p u, ¬ (p = r ∧ u = v) → acc' p u = g.acc p u := fun p u x => if_neg x
  have aY : acc' r v = some l := if_pos ⟨rfl, rfl⟩
  have a : Le g { g with acc := acc', ini := ini' } := by
    refine ⟨rfl, fun _ => Nat.le_refl _, fun p u hu => aN p u fun ⟨x, y⟩ => ?_, fun p u k hk => ?_, fun u L hL => ?_, fun _ hx => hx⟩
    · rw [x, y, hvm] at hu; exact Nat.lt_irrefl _ hu
    · by_cases x : p = r ∧ u = v
      · obtain ⟨rfl, rfl⟩ := x
        obtain ⟨h4, rfl⟩ := hold k hk
        exact ⟨l, aY, h1 h4⟩
      · exact ⟨k, (aN p u x).trans hk, List.prefix_refl _⟩
    · show ini' u = g.ini u
      refine if_neg fun ⟨x, y, z⟩ => ?_
      rw [x, y, hlater v z] at hL; cases hL
  have o : Only r g { g with acc := acc', ini := ini' } := ⟨rfl, fun p hp => ⟨rfl, fun u => aN p u fun x => hp x.1⟩⟩
  have iv : ∀ u, ¬ (u = v ∧ v % g.n = r ∧ s.c.last < v) → ini' u = g.ini u := fun u x => if_neg x
  have hcurl : g.ini s.c.last ≤ s.c.list.length := by
    obtain ⟨_, _, _, _, _, x⟩ := G.acc r hrn _ _ hcur; exact x
  have key : ini' v ≤ l.length := by
    by_cases x : v % g.n = r ∧ s.c.last < v
    · rw [show ini' v = l.length from if_pos ⟨rfl, x⟩]; exact Nat.le_refl _
    · rw [iv v fun y => x y.2]
      rcases h3 with ⟨h4, _⟩ | ⟨h4, L, _, _, h5⟩
      · have h5 : s.c.last = v := by
          rcases Nat.eq_or_lt_of_le hlast with h | h
          · exact h
          · exact absurd ⟨h4, h⟩ x
        rw [h5] at hcurl
        exact Nat.le_trans hcurl (h1 h5).length_le
      · exact h5
  have G' : GOK { g with acc := acc', ini := ini' } := by
    refine ⟨G.pos, fun p hp => ?_, ?_, fun p hp u k hk => ?_, fun u L hu hL => ?_⟩
    · obtain ⟨k, hk⟩ := G.zero p hp
      obtain ⟨k', hk', _⟩ := a.grow p 0 k hk
      exact ⟨k', hk'⟩
    · show ini' 0 = 0
      rw [iv 0 fun ⟨x, _, z⟩ => by omega]; exact G.ini0
    · by_cases x : p = r ∧ u = v
      · obtain ⟨rfl, rfl⟩ := x
        have : k = l := by rw [show acc' p u = some k from hk] at aY; exact Option.some.inj aY
        subst this
        refine ⟨by rw [hvm]; exact Nat.le_refl _, hl, ?_⟩
        rcases h3 with ⟨h4, _⟩ | ⟨h4, L, h5, h6, h7⟩
        · exact ⟨k, by show acc' (u % g.n) u = _; rw [h4]; exact aY, List.prefix_refl _, key⟩
        · exact ⟨L, (aN _ _ fun x => h4 x.1).trans h5, h6, key⟩
      · have hk' : g.acc p u = some k := (aN p u x).symm.trans hk
        obtain ⟨h4, h5, L, h6, h7, h8⟩ := G.acc p hp u k hk'
        obtain ⟨M, h9, h10⟩ := a.grow _ u L h6
        exact ⟨h4, h5, M, h9, h7.trans h10, by rw [a.ini u L h6]; exact h8⟩
    · by_cases x : u % g.n = r ∧ u = v
      · obtain ⟨x, rfl⟩ := x
        have : L = l := by
          have hL' : acc' (u % g.n) u = some L := hL
          rw [x, aY] at hL'; exact (Option.some.inj hL').symm
        subst this
        rcases Nat.eq_or_lt_of_le hlast with h4 | h4
        · have h5 : g.acc (u % g.n) u = some s.c.list := by rw [x]; rw [h4] at hcur; exact hcur
          have h6 := G.elec u s.c.list hu h5
          rw [h4] at hcurl
          rw [show ({ g with acc := acc', ini := ini' } : Gh).ini u = g.ini u from iv u fun y => by omega]
          exact h6.le a (take_pre (h1 h4) hcurl)
        · rcases h3 with ⟨_, h5⟩ | ⟨h5, _⟩
          · rw [show ({ g with acc := acc', ini := ini' } : Gh).ini u = L.length from if_pos ⟨rfl, x, h4⟩]
            exact (h5 h4).le a rfl
          · exact absurd x h5
      · have hL' : g.acc (u % g.n) u = some L := (aN _ _ x).symm.trans hL
        have := G.elec u L hu hL'
        rw [show ({ g with acc := acc', ini := ini' } : Gh).ini u = g.ini u from a.ini u L hL']
        exact this.le a rfl
  have hlen : s.c.agreed ≤ l.length := by
    have := h2.length_le
    rw [List.length_take, Nat.min_eq_left hc.agr] at this; exact this
  have hta : l.take s.c.agreed = s.c.list.take s.c.agreed := by
    rw [take_pre h2 (by rw [List.length_take]; have := hc.agr; omega), List.take_take, Nat.min_self]
  have hC : COK { g with acc := acc', ini := ini' } { s.c with last := v, list := l } := by
    refine ⟨hc.me, hc.n, hc.view, by have := hc.most; rw [hv] at this; exact hc.most, ?_, ?_, fun u hu => ?_, hlen, ?_, fun q x hx => ?_, fun q x hx => ?_, fun hl => ?_, hc.wait, hc.waitn⟩
    · show v ≤ s.c.view; rw [hv]; exact Nat.le_refl _
    · show acc' s.c.me v = _; rw [hme]; exact aY
    · show acc' s.c.me u = none
      rw [hme, aN r u fun x => by have : v < u := hu; omega]
      exact hlater u (Nat.lt_of_le_of_lt hlast hu)
    · show Comm _ v (l.take s.c.agreed)
      rw [hta]
      exact (hc.comm.le a).mono hlast (List.prefix_refl _)
    · obtain ⟨x1, x2, x3⟩ := hc.got q x hx
      exact ⟨x1, x2.le a, x3⟩
    · obtain ⟨x1, k, x2, x3⟩ := hc.held q x hx
      obtain ⟨m, x4, x5⟩ := a.grow _ _ _ x2
      exact ⟨x1, m, x4, Nat.le_trans x3 x5.length_le⟩
    · exact ⟨(hc.lead hl).1, hv.symm⟩
  refine ⟨_, a, ?_⟩
  have hlok := hc.lok G
  have hmv : v ≤ mostView := by rw [← hv]; exact hc.most
  unfold St.take; dsimp only
  by_cases hb : s.c.last = v ∧ begins l s.c.list = true
  · rw [if_pos hb]
    have hp := (begins_iff hl.z hlok.z).1 hb.2
    by_cases hlt : s.c.list.length < l.length
    · rw [if_pos hlt]
      refine h.put (x := ⟨3, 0, 0, 0, l.drop s.c.list.length⟩) a o G' hC hme ⟨Nat.zero_le _, Nat.le_refl _, (hl.drop _).listed⟩ ?_
      have e : s.c.list ++ l.drop s.c.list.length = l := by
        obtain ⟨t, rfl⟩ := hp; rw [List.drop_left]
      show (if listed (s.c.list ++ l.drop s.c.list.length) = true then some ({ base s.c with list := s.c.list ++ l.drop s.c.list.length } : Co) else none) = _
      rw [if_pos (by rw [e]; exact hl.listed), e]
      simp only [base, Co.new, hb.1, St.put]
    · rw [if_neg hlt]
      have e : s.c.list = l := by
        obtain ⟨t, rfl⟩ := hp
        rw [List.length_append] at hlt
        rw [List.length_eq_zero_iff.1 (show t.length = 0 by omega), List.append_nil]
      have hk : ({ s.c with last := v, list := l } : Co) = s.c := by
        obtain ⟨⟨⟩, _, _⟩ := s; simp only at hb e ⊢; rw [← hb.1, ← e]
      refine ⟨h.le.trans a, h.only.trans o, G', hC, hme, fun m hm => ⟨(h.send m hm).1.le a, (h.send m hm).2⟩, ?_, h.part⟩
      show d0.replay s.save = some (base _)
      rw [h.disk, hk]
  · rw [if_neg hb]
    refine h.put (x := ⟨2, v, 0, 0, l⟩) a o G' hC hme ⟨hmv, Nat.zero_le _, hl.listed⟩ ?_
    show (if v < s.c.view ∨ v < s.c.last ∨ begins l (s.c.list.take 0) = false then none else some ({ base s.c with view := v, last := v, list := l } : Co)) = _
    rw [if_neg (by
      rw [not_or, not_or]; refine ⟨by omega, by omega, ?_⟩
      rw [List.take_zero, (begins_iff hl.z (by intro e he; cases he)).2 List.nil_prefix]; simp)]
    simp only [base, Co.new, St.put, hv]
end Ag
end Go.Proofs.Ytbciofnejefkiaa

namespace Go.Proofs.Ytbciofnejefkiaa
set_option linter.unusedSimpArgs false
set_option linter.unusedVariables false

/-! What a replica does keeps it so: votes, lists, what is agreed. -/
namespace Ag
/-! The best vote. -/
def LeV (a b : Vt) : Prop := a.last < b.last ∨ a.last = b.last ∧ a.list.length ≤ b.list.length
theorem LeV.refl (a : Vt) : LeV a a := .inr ⟨rfl, Nat.le_refl _⟩
theorem LeV.trans {a b c : Vt} (h : LeV a b) (k : LeV b c) : LeV a c := by
  unfold LeV at *; omega
theorem best_spec (c : Co) : ∀ k, ∃ b, (List.range k).foldl (better c) ⟨c.last, c.list⟩ = b ∧ (b = ⟨c.last, c.list⟩ ∨ (∃ q, c.got q = some b) ∧ begins b.list (c.list.take c.agreed) = true) ∧ LeV ⟨c.last, c.list⟩ b ∧
    ∀ q x, q < k → c.got q = some x → begins x.list (c.list.take c.agreed) = true → LeV x b
  | 0 => ⟨_, rfl, .inl rfl, LeV.refl _, fun q x h => absurd h (Nat.not_lt_zero _)⟩
  | k + 1 => by
    obtain ⟨b, h1, h2, h3, h4⟩ := best_spec c k
    rw [List.range_succ, List.foldl_append, h1]
    simp only [List.foldl_cons, List.foldl_nil]
    refine ⟨_, rfl, ?_⟩
    unfold better
    cases hg : c.got k with
    | none =>
      refine ⟨h2, h3, fun q x hq hx hb => ?_⟩
      rcases Nat.lt_succ_iff_lt_or_eq.1 hq with h | rfl
      · exact h4 q x h hx hb
      · rw [hg] at hx; cases hx
    | some y =>
      dsimp only
      split
      · next hy =>
        refine ⟨.inr ⟨⟨k, hg⟩, hy.2⟩, h3.trans (by unfold LeV; omega), fun q x hq hx hb => ?_⟩
        rcases Nat.lt_succ_iff_lt_or_eq.1 hq with h | rfl
        · exact (h4 q x h hx hb).trans (by unfold LeV; omega)
        · rw [hg] at hx; cases hx; exact LeV.refl _
      · next hy =>
        refine ⟨h2, h3, fun q x hq hx hb => ?_⟩
        rcases Nat.lt_succ_iff_lt_or_eq.1 hq with h | rfl
        · exact h4 q x h hx hb
        · rw [hg] at hx; cases hx
          have : ¬ (b.last < y.last ∨ y.last = b.last ∧ b.list.length < y.list.length) := fun h => hy ⟨h, hb⟩
          unfold LeV; omega
variable {g0 g : Gh} {r : Nat} {d0 : Co} {s : St}
theorem COK.mine {c : Co} (G : GOK g) (hc : COK g c) (hl : c.view % g.n = c.me) {q : Nat} {k : List En} (hq : q < g.n) (h : g.acc q c.view = some k) : c.last = c.view ∧ k <+: c.list := by
  obtain ⟨_, _, L, hL, h1, _⟩ := G.acc q hq _ k h
  rw [hl] at hL
  have : c.last = c.view := by
    rcases Nat.eq_or_lt_of_le hc.last with h | h
    · exact h
    · rw [hc.later _ h] at hL; cases hL
  have hcur := hc.cur
  rw [this, hL] at hcur
  exact ⟨this, by rw [← Option.some.inj hcur]; exact h1⟩
theorem best_ok {c : Co} (G : GOK g) (hc : COK g c) (hl : c.view % g.n = c.me) (hs : c.quorum ≤ c.size) :
    LOK g.S c.best.list ∧ (c.last = c.view → c.list <+: c.best.list) ∧ c.list.take c.agreed <+: c.best.list ∧ (c.last < c.view → Elec g c.view c.best.list c.best.list.length) := by
  obtain ⟨b, h1, h2, h3, h4⟩ := best_spec c c.n
  have hb : c.best = b := h1
  rw [hb]
  have hlok := hc.lok G
  have hlast := hc.last
  have hrn := hc.me
  -- what the votes are
  have hv : ∀ q x, c.got q = some x → q < g.n ∧ c.view ≤ g.V q ∧ x.last ≤ c.view ∧ LOK g.S x.list ∧
      ((c.last = c.view ∧ x.last = c.view ∧ x.list <+: c.list) ∨ (x.last < c.view ∧ g.acc q x.last = some x.list ∧ ∀ u, x.last < u → u < c.view → g.acc q u = none)) := by
    intro q x hx
    obtain ⟨x1, ⟨x2, x3, k, x4, x5, x6⟩, _⟩ := hc.got q x hx
    refine ⟨x1, x2, x3, ((G.acc q x1 _ k x4).2.1).pre x5, ?_⟩
    rcases Nat.eq_or_lt_of_le x3 with h | h
    · rw [h] at x4
      obtain ⟨y1, y2⟩ := hc.mine G hl x1 x4
      exact .inl ⟨y1, h, x5.trans y2⟩
    · obtain ⟨y1, y2⟩ := x6 h
      rw [← y1] at x4
      exact .inr ⟨h, x4, y2⟩
  -- all votes are counted
  have h5 : ∀ q x, c.got q = some x → LeV x b := by
    intro q x hx
    obtain ⟨x1, x2, x3, x4, x5⟩ := hv q x hx
    rcases x5 with ⟨y1, y2, y3⟩ | ⟨y1, y2, y3⟩
    · refine LeV.trans (b := ⟨c.last, c.list⟩) (.inr ⟨by rw [y2]; exact y1.symm, y3.length_le⟩) h3
    · refine Classical.byContradiction fun hn => ?_
      have hbl : c.last ≤ b.last := by unfold LeV at h3; simp only at h3; omega
      have hxl : b.last ≤ x.last := by unfold LeV at hn; omega
      have hp : c.list.take c.agreed <+: x.list := by
        rcases Nat.eq_or_lt_of_le (Nat.le_trans hbl hxl) with he | he
        · rcases Comm.acc G hc.comm (by omega) x1 y2 with h | h
          · exact h
          · have z1 := h.length_le
            rw [List.length_take] at z1
            have : c.list.length ≤ b.list.length := by unfold LeV at h3; simp only at h3; omega
            have : b.list.length < x.list.length := by unfold LeV at hn; omega
            omega
        · exact Comm.lt G hc.comm he x1 y2
      exact hn (h4 q x (by rw [hc.n]; exact x1) hx ((begins_iff x4.z (hlok.z.take _)).2 hp))
  have hbo : LOK g.S b.list := by
    rcases h2 with rfl | ⟨⟨q, hq⟩, _⟩
    · exact hlok
    · exact (hv q b hq).2.2.2.1
  refine ⟨hbo, fun he => ?_, ?_, fun hlt => ?_⟩
  · rcases h2 with rfl | ⟨⟨q, hq⟩, _⟩
    · exact List.prefix_refl _
    · obtain ⟨x1, x2, x3, x4, x5⟩ := hv q b hq
      rcases x5 with ⟨y1, y2, y3⟩ | ⟨y1, y2, y3⟩
      · have : c.list.length ≤ b.list.length := by unfold LeV at h3; simp only at h3; omega
        have : b.list = c.list := by
          obtain ⟨t, ht⟩ := y3
          rw [← ht, List.length_append] at this
          rw [List.length_eq_zero_iff.1 (show t.length = 0 by omega), List.append_nil] at ht
          exact ht
        rw [this]; exact List.prefix_refl _
      · unfold LeV at h3; simp only at h3; omega
  · rcases h2 with rfl | ⟨⟨q, hq⟩, hbeg⟩
    · exact List.take_prefix _ _
    · exact (begins_iff hbo.z (hlok.z.take _)).1 hbeg
  · have hnl : ∀ q x, c.got q = some x → x.last < c.view ∧ g.acc q x.last = some x.list ∧ ∀ u, x.last < u → u < c.view → g.acc q u = none := fun q x hx => by
      obtain ⟨_, _, _, _, x5⟩ := hv q x hx
      rcases x5 with ⟨y1, _⟩ | y
      · omega
      · exact y
    have hown : ∃ q, q < g.n ∧ g.acc q b.last = some b.list := by
      rcases h2 with rfl | ⟨⟨q, hq⟩, _⟩
      · exact ⟨c.me, hrn, hc.cur⟩
      · exact ⟨q, (hv q b hq).1, (hnl q b hq).2.1⟩
    have hbv : b.last < c.view := by
      rcases h2 with rfl | ⟨⟨q, hq⟩, _⟩
      · exact hlt
      · exact (hnl q b hq).1
    obtain ⟨o, ho, hob⟩ := hown
    obtain ⟨_, _, Lb, hLb, z1, z2⟩ := G.acc o ho _ _ hob
    refine ⟨fun q => (c.got q).isSome, b.last, Lb, ?_, hbv, fun p hp hq => ?_, hLb, z1.length_le, z2, (take_pre z1 (Nat.le_refl _)).symm⟩
    · unfold quo
      unfold Co.quorum Co.size at hs
      rw [hc.n] at hs; exact hs
    · obtain ⟨x, hx⟩ := Option.isSome_iff_exists.1 hq
      obtain ⟨x1, x2, x3, x4, _⟩ := hv p x hx
      obtain ⟨y1, y2, y3⟩ := hnl p x hx
      have z := h5 p x hx
      refine ⟨x2, fun u hu hv' => y3 u (by unfold LeV at z; omega) hv', fun l hl => ?_⟩
      have : x.last = b.last := by
        rcases Nat.lt_or_ge x.last b.last with h | h
        · rw [y3 _ h hbv] at hl; cases hl
        · unfold LeV at z; omega
      rw [← this, y2] at hl
      cases hl
      unfold LeV at z; omega

/-! What more than half hold. -/
theorem ins_perm (x : Nat) : ∀ l, (ins x l).Perm (x :: l)
  | [] => .refl _
  | y :: l => by
    unfold ins; split
    · exact .refl _
    · exact ((ins_perm x l).cons y).trans (.swap x y l)
theorem sort_perm : ∀ l, (sort l).Perm l
  | [] => .refl _
  | x :: l => (ins_perm x (sort l)).trans ((sort_perm l).cons x)
theorem ins_sorted (x : Nat) : ∀ l, l.Pairwise (· ≤ ·) → (ins x l).Pairwise (· ≤ ·)
  | [], _ => by simp [ins]
  | y :: l, h => by
    unfold ins
    rw [List.pairwise_cons] at h
    split
    · next hxy =>
      refine List.pairwise_cons.2 ⟨fun z hz => ?_, List.pairwise_cons.2 h⟩
      rcases List.mem_cons.1 hz with rfl | hz
      · exact hxy
      · exact Nat.le_trans hxy (h.1 z hz)
    · next hxy =>
      refine List.pairwise_cons.2 ⟨fun z hz => ?_, ins_sorted x l h.2⟩
      rcases List.mem_cons.1 ((ins_perm x l).mem_iff.1 hz) with rfl | hz
      · omega
      · exact h.1 z hz
theorem sort_sorted : ∀ l, (sort l).Pairwise (· ≤ ·)
  | [] => List.Pairwise.nil
  | x :: l => ins_sorted x _ (sort_sorted l)
theorem sort_kth (l : List Nat) (q : Nat) (h0 : 0 < q) (h : q ≤ l.length) : q ≤ l.countP fun x => decide ((sort l).getD (l.length - q) 0 ≤ x) := by
  have hp := sort_perm l
  have hl : (sort l).length = l.length := hp.length_eq
  rw [← hp.countP_eq]
  have hs := sort_sorted l
  generalize sort l = m at *
  rw [← List.take_append_drop (l.length - q) m] at hs ⊢
  rw [List.countP_append]
  have hd : (m.drop (l.length - q)).length = q := by rw [List.length_drop]; omega
  have hg : (m.take (l.length - q) ++ m.drop (l.length - q)).getD (l.length - q) 0 = (m.drop (l.length - q)).headD 0 := by
    rw [List.take_append_drop, List.headD_eq_head?_getD, List.head?_drop]; simp [List.getD]
  rw [hg]
  have h2 := (List.pairwise_append.1 hs).2.1
  have : (m.drop (l.length - q)).countP (fun x => decide ((m.drop (l.length - q)).headD 0 ≤ x)) = q := by
    generalize m.drop (l.length - q) = k at *
    rw [← hd, List.countP_eq_length]
    intro x hx
    rw [decide_eq_true_eq]
    cases k with
    | nil => cases hx
    | cons a k =>
      rcases List.mem_cons.1 hx with rfl | hx
      · exact Nat.le_refl _
      · exact (List.pairwise_cons.1 h2).1 x hx
  omega
theorem settle_fin {d : Co} (G : GOK g) (h1 : COK g d) (hl : d.view % g.n = d.me) (he : d.last = d.view) :
    COK g (if d.helds.length < d.quorum then d else { d with agreed := max d.agreed (min ((sort d.helds).getD (d.helds.length - d.quorum) 0) d.list.length) }) := by
  have hcur := h1.cur
  rw [he] at hcur
  split
  · exact h1
  · next hq =>
    have hk := sort_kth d.helds d.quorum (by unfold Co.quorum; omega) (by omega)
    generalize (sort d.helds).getD (d.helds.length - d.quorum) 0 = k at *
    have hm : min k d.list.length ≤ d.list.length := Nat.min_le_right _ _
    have hC : Comm g d.last (d.list.take (min k d.list.length)) := by
      refine ⟨d.last, Nat.le_refl _, fun q => ((d.held q).map fun h => decide (k ≤ h)).getD false, ?_, fun p hp hq => ?_⟩
      · unfold quo
        unfold Co.helds at hk
        rw [List.countP_filterMap, h1.n] at hk
        unfold Co.quorum at hk
        rw [h1.n] at hk
        exact hk
      · cases hh : d.held p with
        | none => simp only [hh] at hq; cases hq
        | some h =>
          simp only [hh, Option.map_some, Option.getD_some, decide_eq_true_eq] at hq
          obtain ⟨_, l, h2, h3⟩ := h1.held p h hh
          refine ⟨l, by rw [he]; exact h2, ?_⟩
          obtain ⟨_, _, L, hL, h4, _⟩ := G.acc p hp _ _ h2
          rw [hl, hcur] at hL
          cases hL
          exact List.prefix_of_prefix_length_le (List.take_prefix _ _) h4 (by rw [List.length_take]; omega)
    refine ⟨h1.me, h1.n, h1.view, h1.most, h1.last, h1.cur, h1.later, ?_, ?_, h1.got, h1.held, h1.lead, h1.wait, h1.waitn⟩
    · have := h1.agr
      show max d.agreed (min k d.list.length) ≤ d.list.length
      omega
    · show Comm g d.last (d.list.take (max d.agreed (min k d.list.length)))
      rcases Nat.le_total d.agreed (min k d.list.length) with h | h
      · rw [Nat.max_eq_right h]; exact hC
      · rw [Nat.max_eq_left h]; exact h1.comm
theorem settle_ok {c : Co} (G : GOK g) (hc : COK g c) (hl : c.view % g.n = c.me) (he : c.last = c.view) : COK g c.settle := by
  have hcur := hc.cur
  rw [he] at hcur
  have h1 : COK g { c with held := upd c.held c.me (some c.list.length) } := by
    refine ⟨hc.me, hc.n, hc.view, hc.most, hc.last, hc.cur, hc.later, hc.agr, hc.comm, hc.got, fun q h hq => ?_, hc.lead, hc.wait, hc.waitn⟩
    have hq' : (upd c.held c.me (some c.list.length)) q = some h := hq
    unfold upd at hq'
    split at hq'
    · next e => subst e; cases hq'; exact ⟨hc.me, c.list, hcur, Nat.le_refl _⟩
    · exact hc.held q h hq'
  exact settle_fin G h1 hl he
end Ag
end Go.Proofs.Ytbciofnejefkiaa
