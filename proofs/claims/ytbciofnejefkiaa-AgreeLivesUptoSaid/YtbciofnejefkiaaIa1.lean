import Derived.Test.YtbciofnejefkiaaIz
import Derived.Test.YtbciofnejefkiaaTab
import Derived.Test.YtbciofnejefkiaaAmMore
import Derived.Test.YtbciofnejefkiaaAmWk
import Derived.Test.YtbciofnejefkiaaAmPeek
set_option linter.unusedVariables false
set_option linter.unusedSimpArgs false
set_option maxRecDepth 20000
set_option maxHeartbeats 4000000
namespace Go.Proofs.Ytbciofnejefkiaa
open Go Go.Am Go.Proofs
def encU : Nat -> Nat -> List UInt8
  | 0, u => [UInt8.ofNat u]
  | f + 1, u => if u < 128 then [UInt8.ofNat u] else UInt8.ofNat (u % 128 + 128) :: encU f (u / 128)
theorem or128 (u : Nat) : (u % 256 ||| 128) = u % 128 + 128 := by
  have h : ∀ v, v < 256 -> (v ||| 128) = v % 128 + 128 := by decide +kernel
  rw [h _ (Nat.mod_lt _ (by decide)), Nat.mod_mod_of_dvd _ (by decide)]
theorem qi {f u : Nat} (h : u < 128) : encU f u = [UInt8.ofNat u] := by cases f <;> simp [encU, h]
theorem yi {f u : Nat} (h : 128 <= u) : encU (f + 1) u = UInt8.ofNat (u % 128 + 128) :: encU f (u / 128) := by simp [encU, show ¬ u < 128 by omega]
theorem pow7 {f m : Nat} (h : m < 2 ^ (7 * (f + 1) + 1)) : m / 128 < 2 ^ (7 * f + 1) := by
  have : 2 ^ (7 * (f + 1) + 1) = 2 ^ (7 * f + 1) * 128 := by rw [show 7 * (f + 1) + 1 = (7 * f + 1) + 7 by omega, Nat.pow_add]
  omega
theorem hu9 (u : Nat) (h : u < 18446744073709551616) : u < 2 ^ (7 * 9 + 1) := by simpa using h
theorem U_own (H : AHeap) (b : List UInt8) (u : Nat) (hb : b.length <= 4000000000) (hu : u < 18446744073709551616) :
    ACalls Try.prog 75 [.bys b, .raw (.int .u64 (u : Int))] H fun r H' => ∃ o, H o = none /\ r = .vw o 1 0 (b ++ encU 10 u).length /\ H' = H.set o (.byt (b ++ encU 10 u)) := by
  refine gm Try.func75 rfl (by decide) ?_
  focus (refine f0 ?_; refine ei ?_; refine mh ?_; refine ae rfl (my rfl rfl au) ?_; refine akl rfl rfl rfl ti ti ti (fun oN hoN => ?_); refine ei ?_; refine za1 rfl rfl rfl (by assumption) pu dc au au (fun oN hoN => ?_); refine ix ?_; refine aq ?_; refine bf ?_; refine gi ?_)
  refine cv (fun m R' H' => ∃ o bs f v, H o = none /\ H' = H.set o (.byt bs) /\ R' = [(5, .vw o 1 0 bs.length), (1, .raw (.int .u64 ((v : Nat) : Int)))] /\ m = v /\ v < 2 ^ (7 * f + 1) /\ f <= 9 /\ bs ++ encU (f + 1) v = b ++ encU 10 u /\ bs.length + f <= b.length + 9) ?_ ?_
  · rename_i oN hoN
    exact ⟨u, _, _, ba, oN, b, 9, u, by assumption, rfl, rfl, rfl, hu9 u hu, by decide, rfl, by omega⟩
  · rintro m R0 H0 ⟨o, bs, f, v, ho, rfl, rfl, rfl, hv, hf, he, hl⟩
    focus (refine bz ?_; refine ln ?_; refine aq ?_; refine ax rfl (fun hc => ?_) (fun hc => ?_); refine cy ?_; refine pt ?_; refine c9 ?_; refine an ?_; refine ae rfl (rn rfl) ?_; refine ae rfl (xm rfl rfl ii ii) ?_; refine ae rfl (s9 rfl ii) ?_; refine za1 rfl rfl rfl (by assumption) pu dc au au (fun oN hoN => ?_); refine ix ?_; refine aq ?_; refine ca ?_; refine an ?_; refine ae rfl (r8 rfl rfl (by first | decide | (show _ <= 64; omega) | (show _ <= 32; omega) | (show _ <= 8; omega))) ?_; refine dq ?_; refine bb ?_; refine ft ?_; rotate_left; refine s5 ?_; refine az ?_; refine c9 ?_; refine an ?_; refine ae rfl (fu rfl (by omega)) ?_; refine ae rfl (s9 rfl ii) ?_; refine za1 rfl rfl rfl (by assumption) pu dc au au (fun oN hoN => ?_); refine ix ?_; refine dv ?_; rotate_left)
    · rename_i oN hoN
      cases f with
      | zero => omega
      | succ f =>
        exact ⟨m / 128, _, _, by omega, ba, oN, bs ++ [UInt8.ofNat (m % 256 ||| 128)], f, m / 128, by assumption, rfl, rfl, rfl, pow7 hv, by omega, by
          rw [<- he, yi (f := f + 1) (by omega), or128, List.append_assoc]; rfl, by simp only [List.length_append, List.length_cons, List.length_nil]; omega⟩
    · rename_i oN hoN
      have hx : b ++ encU 10 u = bs ++ [UInt8.ofNat m] := by rw [<- he, qi (by omega)]
      exact ⟨.inl rfl, _, _, _, Ent.refl _ _, ret1 rfl rfl, oN, by assumption, by rw [hx]; simp [rget], by rw [hx]⟩
theorem U_calls (H : AHeap) (b : List UInt8) (u : Nat) (hb : b.length <= 4000000000) (hu : u < 18446744073709551616) :
    ACalls Try.prog 75 [.bys b, .raw (.int .u64 (u : Int))] H fun r H' => r = .bys (b ++ encU 10 u) /\ H' = H := (U_own H b u hb hu).seal
theorem kf : ∀ f u, (encU f u).length <= f + 1
  | 0, u => by simp [encU]
  | f + 1, u => by
    have := kf f (u / 128); simp only [encU]; split <;> simp <;> omega
end Go.Proofs.Ytbciofnejefkiaa
namespace Go.Proofs.Ytbciofnejefkiaa
open Go Go.Am Go.Proofs
theorem uf (H : AHeap) (o : Nat) (x y : AV) (h : H o = some (.cel [x, y])) :
    ACalls Try.prog 81 [.ptr o 0] H fun r H' => r = .tup [] /\ H' = H.set o (.cel [.bys [], .raw (.bool true)]) := by
  refine ej Try.func81 rfl (by decide) ?_
  focus (refine fv ?_; refine ue ?_; refine gv ?_; refine iw ?_; refine iq ?_; refine bb ?_)
  exact ⟨.inr rfl, _, _, _, Ent.wcel df, ret0 rfl, rfl, rfl⟩
theorem nm (H : AHeap) (o : Nat) (x : AV) (b : Bool) (h : H o = some (.cel [x, .raw (.bool b)])) :
    ACalls Try.prog 60 [.ptr o 0] H fun r H' => r = .raw (.bool b) /\ H' = H := by
  refine ej Try.func60 rfl (by decide) ?_
  focus (refine f0 ?_; refine bl ?_; refine bn ?_)
  exact ⟨.inl rfl, _, _, _, Ent.refl _ _, ret1 rfl rfl, rfl, rfl⟩
theorem ox (H : AHeap) (o : Nat) (b : List UInt8) (y : AV) (h : H o = some (.cel [.bys b, y])) :
    ACalls Try.prog 61 [.ptr o 0] H fun r H' => r = .raw (.int .i64 (b.length : Int)) /\ H' = H := by
  refine ej Try.func61 rfl (by decide) ?_
  focus (refine f0 ?_; refine bl ?_; refine mh ?_; refine bn ?_)
  exact ⟨.inl rfl, _, _, _, Ent.refl _ _, ret1 rfl rfl, rfl, rfl⟩
theorem adp (H : AHeap) (b : List UInt8) (hb : b.length <= 4000000000) :
    ACalls Try.prog 56 [.bys b] H fun r H' => ∃ o, H o = none /\ r = .ptr o 0 /\ H' = H.set o (.cel [.bys b, .raw (.bool false)]) := by
  refine ej Try.func56 rfl (by decide) ?_
  focus (refine f0 ?_; refine ae rfl (ot) ?_; refine ei ?_; refine ae rfl (aan rfl rfl dc au au) ?_; refine jn ?_; refine zb1 rfl rfl rfl (fun oN hoN => ?_); refine ku ?_; refine dv ?_)
  exact ⟨.inl rfl, _, _, _, Ent.refl _ _, ret1 rfl rfl, _, by assumption, rfl, rfl⟩
theorem S_own (H : AHeap) (b s : List UInt8) (hb : b.length <= 3000000000) (hs : s.length <= 3000000000) :
    ACalls Try.prog 76 [.bys b, .str s] H fun r H' => ∃ o, H o = none /\ r = .vw o 1 0 (b ++ encU 10 s.length ++ s).length /\ H' = H.set o (.byt (b ++ encU 10 s.length ++ s)) := by
  have hE := kf 10 s.length; refine gm Try.func76 rfl (by decide) ?_
  focus (refine f0 ?_; refine ei ?_; refine ae rfl (ce (v := .str _) rfl) ?_; refine ae rfl (aqp rfl) ?_; refine ae rfl (fu rfl (by omega)) ?_; (refine zc ah (U_own _ _ _ cq cq) ?_; rintro r H' ⟨o, ho, rfl, rfl⟩); refine ae rfl (ce (v := .str _) rfl) ?_; refine za1 rfl rfl rfl (by assumption) pu dc au au (fun oN hoN => ?_); refine ix ?_; refine dv ?_)
  exact ⟨.inl rfl, _, _, _, Ent.refl _ _, ret1 rfl rfl, oN, by assumption, by simp [rget, Nat.add_assoc], rfl⟩
theorem S_calls (H : AHeap) (b s : List UInt8) (hb : b.length <= 3000000000) (hs : s.length <= 3000000000) :
    ACalls Try.prog 76 [.bys b, .str s] H fun r H' => r = .bys (b ++ encU 10 s.length ++ s) /\ H' = H := (S_own H b s hb hs).seal
def zig (v : Int) : Nat := (u64 v * 2 ^ 1 % 2 ^ 64) ^^^ u64 (v / 2 ^ Int.toNat 63)
theorem ai2 (v : Int) : zig v < 2 ^ 64 := Nat.xor_lt_two_pow (Nat.mod_lt _ (by decide)) (by have := aav (v / 2 ^ Int.toNat 63); omega)
theorem I_own (H : AHeap) (b : List UInt8) (v : Int) (hb : b.length <= 3000000000) :
    ACalls Try.prog 74 [.bys b, .raw (.int .i64 v)] H fun r H' => ∃ o, H o = none /\ r = .vw o 1 0 (b ++ encU 10 (zig v)).length /\ H' = H.set o (.byt (b ++ encU 10 (zig v))) := by
  have hz := ai2 v; have h1 := aav v; have h2 := aav (v / 2 ^ Int.toNat 63); refine gm Try.func74 rfl (by decide) ?_
  focus (refine f0 ?_; refine ei ?_; refine an ?_; refine ae rfl (ajm rfl) ?_; refine ae rfl (yp rfl rfl (by omega)) ?_; refine an ?_; refine ae rfl (ajt rfl rfl (by decide) (by decide)) ?_; refine ae rfl (ajm rfl) ?_; refine ae rfl (vj rfl rfl ii ii) ?_; (refine zc ah (U_own _ _ _ cq hz) ?_; rintro r H' ⟨o, ho, rfl, rfl⟩); refine ix ?_; refine dv ?_)
  exact ⟨.inl rfl, _, _, _, Ent.refl _ _, ret1 rfl rfl, _, by assumption, rfl, rfl⟩
theorem I_calls (H : AHeap) (b : List UInt8) (v : Int) (hb : b.length <= 3000000000) :
    ACalls Try.prog 74 [.bys b, .raw (.int .i64 v)] H fun r H' => r = .bys (b ++ encU 10 (zig v)) /\ H' = H := (I_own H b v hb).seal
def rdU : Nat -> Nat -> Nat -> List UInt8 -> Option (Nat × Nat)
  | 0, _, _, _ => none
  | f + 1, i, u, b =>
    if b.length <= i then none
    else if i = 9 /\ 1 < (b.getD i 0).toNat then none
    else if (b.getD i 0).toNat &&& 128 ≠ 0 then rdU f (i + 1) (u ||| (((b.getD i 0).toNat &&& 127) % 2 ^ 64 * 2 ^ (7 * i) % 2 ^ 64)) b
    else if (b.getD i 0).toNat = 0 /\ 0 < i then none
    else some (u ||| (((b.getD i 0).toNat &&& 127) % 2 ^ 64 * 2 ^ (7 * i) % 2 ^ 64), i + 1)
theorem vt {i u : Nat} {b : List UInt8} (h : i < 10) : rdU (10 - i) i u b =
    if b.length <= i then none
    else if i = 9 /\ 1 < (b.getD i 0).toNat then none
    else if (b.getD i 0).toNat &&& 128 ≠ 0 then rdU (10 - (i + 1)) (i + 1) (u ||| (((b.getD i 0).toNat &&& 127) % 2 ^ 64 * 2 ^ (7 * i) % 2 ^ 64)) b
    else if (b.getD i 0).toNat = 0 /\ 0 < i then none
    else some (u ||| (((b.getD i 0).toNat &&& 127) % 2 ^ 64 * 2 ^ (7 * i) % 2 ^ 64), i + 1) := by
  rw [show 10 - i = (10 - (i + 1)) + 1 by omega]; rfl
theorem anc {i u : Nat} {b : List UInt8} (h : ¬ i < 10) : rdU (10 - i) i u b = none := by
  rw [show 10 - i = 0 by omega]; rfl
theorem an1 {i u : Nat} {b : List UInt8} (h : i < 10) (h1 : b.length <= i) : rdU (10 - i) i u b = none := by rw [vt h, if_pos h1]
theorem aqz {i u : Nat} {b : List UInt8} (h : i < 10) (h1 : i = 9) (h2 : 1 < (b.getD i 0).toNat) : rdU (10 - i) i u b = none := by rw [vt h, if_pos (show i = 9 /\ 1 < (b.getD i 0).toNat from ⟨h1, h2⟩)]; simp
theorem alq {i u : Nat} {b : List UInt8} (h : i < 10) (h1 : ¬ (b.getD i 0).toNat &&& 128 ≠ 0) (h2 : (b.getD i 0).toNat = 0) (h3 : 0 < i) : rdU (10 - i) i u b = none := by rw [vt h, if_neg h1, if_pos (show (b.getD i 0).toNat = 0 /\ 0 < i from ⟨h2, h3⟩)]; simp
theorem ah3 {i u : Nat} {b : List UInt8} (h : i < 10) (h1 : ¬ b.length <= i) (h2 : ¬ (i = 9 /\ 1 < (b.getD i 0).toNat)) (h3 : (b.getD i 0).toNat &&& 128 ≠ 0) :
    rdU (10 - i) i u b = rdU (10 - (i + 1)) (i + 1) (u ||| (((b.getD i 0).toNat &&& 127) % 2 ^ 64 * 2 ^ (7 * i) % 2 ^ 64)) b := by rw [vt h, if_neg h1, if_neg h2, if_pos h3]
theorem z9 {i u : Nat} {b : List UInt8} (h : i < 10) (h1 : ¬ b.length <= i) (h2 : ¬ (i = 9 /\ 1 < (b.getD i 0).toNat)) (h3 : ¬ (b.getD i 0).toNat &&& 128 ≠ 0) (h4 : ¬ ((b.getD i 0).toNat = 0 /\ 0 < i)) :
    rdU (10 - i) i u b = some (u ||| (((b.getD i 0).toNat &&& 127) % 2 ^ 64 * 2 ^ (7 * i) % 2 ^ 64), i + 1) := by rw [vt h, if_neg h1, if_neg h2, if_neg h3, if_neg h4]
def rd (b : List UInt8) : Nat × List UInt8 × Bool :=
  match rdU 10 0 0 b with
  | some (u, n) => (u, (b.drop n).take (b.length - n), false)
  | none => (0, [], true)
theorem wd {b : List UInt8} (h : rdU 10 0 0 b = none) : rd b = (0, [], true) := by simp [rd, h]
theorem v0 {b : List UInt8} {u n : Nat} (h : rdU 10 0 0 b = some (u, n)) : rd b = (u, (b.drop n).take (b.length - n), false) := by simp [rd, h]
theorem RU_calls (H : AHeap) (o : Nat) (b : List UInt8) (bad : Bool) (h : H o = some (.cel [.bys b, .raw (.bool bad)])) (hb : b.length <= 4000000000) :
    ACalls Try.prog 57 [.ptr o 0] H fun r H' => r = .raw (.int .u64 ((rd b).1 : Int)) /\ H' = H.set o (.cel [.bys (rd b).2.1, .raw (.bool (bad || (rd b).2.2))]) := by
  refine ej Try.func57 rfl (by decide) ?_
  focus (refine f0 ?_; refine bc ?_; refine bz ?_; refine aq ?_; refine gi ?_)
  refine cv (fun m R' H' => ∃ i u, H' = H /\ R' = [(6, .raw (.int .i64 ((i : Nat) : Int))), (3, .raw (.int .u64 ((u : Nat) : Int))), (0, .ptr o 0)] /\ m = 10 - i /\ i <= 10 /\ u < 2 ^ 64 /\ rdU (10 - i) i u b = rdU 10 0 0 b) ?_ ?_
  · exact ⟨10, _, _, ba, 0, 0, rfl, rfl, rfl, by decide, by decide, rfl⟩
  · rintro m R0 H0 ⟨i, u, rfl, rfl, rfl, hi, hu, he⟩
    focus (refine br ?_; refine ax rfl (fun hc => ?_) (fun hc => ?_); refine ct ?_; refine an ?_; refine bc ?_; refine fq ?_; refine mh ?_; refine ln ?_; refine aq ?_; refine ax rfl (fun hc => ?_) (fun hc => ?_); refine oo ?_; refine jz ?_; refine zk rfl ?_; refine jz ?_; refine jz ?_; refine ou ?_; refine gj ?_; refine dg ?_; (refine zc ah (uf _ _ _ _ cq) ?_; rintro r H' ⟨rfl, rfl⟩); refine aq ?_; refine cp ?_; rotate_left; refine cy ?_; refine az ?_; refine bl ?_; refine an ?_; refine ae rfl (xe rfl rfl (by omega) rfl) ?_; refine ae rfl (yx rfl (by omega)) ?_; refine bc ?_; refine bz ?_; refine fh ?_; refine an ?_; refine zg1 rfl rfl rfl (fun hc => ?_) (fun hc => ?_); refine ep ?_; refine dw ?_; refine bu ?_; refine aq ?_; refine ax rfl (fun hc => ?_) (fun hc => ?_); refine oo ?_; refine jz ?_; refine zk rfl ?_; refine jz ?_; refine jz ?_; refine ou ?_; refine gj ?_; refine dg ?_; (refine zc ah (uf _ _ _ _ cq) ?_; rintro r H' ⟨rfl, rfl⟩); refine aq ?_; refine cp ?_; rotate_left; refine cy ?_; refine gn ?_; refine an ?_; refine qf ?_; refine ae rfl (rn rfl) ?_; refine an ?_; refine ae rfl (zd rfl rfl au) ?_; refine ae rfl (yp rfl rfl (by omega)) ?_; refine ae rfl (xm rfl rfl ii ii) ?_; refine bc ?_; refine bz ?_; refine qf ?_; refine jk ?_; refine aq ?_; refine ax rfl (fun hc => ?_) (fun hc => ?_); refine oo ?_; refine jz ?_; refine ou ?_; refine gj ?_; refine ca ?_; refine ae rfl (my rfl rfl au) ?_; refine ae rfl (ce (v := .raw _) rfl) ?_; (with_reducible refine jb ?_); refine ee ?_; rotate_left; refine cy ?_; refine bz ?_; refine fh ?_; refine an ?_; refine zg1 rfl rfl rfl (fun hc => ?_) (fun hc => ?_); refine ep ?_; refine dw ?_; refine bu ?_; refine aq ?_; refine ax rfl (fun hc => ?_) (fun hc => ?_); refine oo ?_; refine jz ?_; refine zk rfl ?_; refine jz ?_; refine jz ?_; refine ou ?_; refine gj ?_; refine dg ?_; (refine zc ah (uf _ _ _ _ cq) ?_; rintro r H' ⟨rfl, rfl⟩); refine aq ?_; refine cp ?_; rotate_left; exact absurd hc aj; refine fb ?_; refine cd ?_; refine fm ?_; refine cy ?_; refine dg ?_; refine bl ?_; refine px ?_; refine qg ?_; refine iw ?_; refine gv ?_; refine aq ?_; refine gn ?_; refine bn ?_; refine j9 ?_; refine fi ?_; rotate_left; refine fb ?_; refine cd ?_; refine fm ?_; refine cy ?_; refine gn ?_; refine an ?_; refine qf ?_; refine ae rfl (rn rfl) ?_; refine an ?_; refine ae rfl (zd rfl rfl au) ?_; refine ae rfl (yp rfl rfl (by omega)) ?_; refine ae rfl (xm rfl rfl ii ii) ?_; refine bc ?_; refine bz ?_; refine qf ?_; refine jk ?_; refine aq ?_; refine ax rfl (fun hc => ?_) (fun hc => ?_); refine oo ?_; refine jz ?_; refine ou ?_; refine gj ?_; refine ca ?_; refine ae rfl (my rfl rfl au) ?_; refine ae rfl (ce (v := .raw _) rfl) ?_; (with_reducible refine jb ?_); refine ee ?_; rotate_left; refine cy ?_; refine bz ?_; refine fh ?_; refine an ?_; refine zg1 rfl rfl rfl (fun hc => ?_) (fun hc => ?_); refine ep ?_; refine dw ?_; refine bu ?_; refine aq ?_; refine ax rfl (fun hc => ?_) (fun hc => ?_); refine oo ?_; refine jz ?_; refine zk rfl ?_; refine jz ?_; refine jz ?_; refine ou ?_; refine gj ?_; refine dg ?_; (refine zc ah (uf _ _ _ _ cq) ?_; rintro r H' ⟨rfl, rfl⟩); refine aq ?_; refine cp ?_; rotate_left; refine cy ?_; refine dg ?_; refine bl ?_; refine px ?_; refine qg ?_; refine iw ?_; refine gv ?_; refine aq ?_; refine gn ?_; refine bn ?_; refine j9 ?_; refine fi ?_; rotate_left; refine fb ?_; refine cd ?_; refine fm ?_; refine cy ?_; refine dg ?_; refine bl ?_; refine px ?_; refine qg ?_; refine iw ?_; refine gv ?_; refine aq ?_; refine gn ?_; refine bn ?_; refine j9 ?_; refine fi ?_; rotate_left; refine s5 ?_; refine dg ?_; (refine zc ah (uf _ _ _ _ cq) ?_; rintro r H' ⟨rfl, rfl⟩); refine aq ?_; refine cp ?_; rotate_left)
    all_goals first
      | (have hn : rdU (10 - i) i u b = none := by first | exact anc (by omega) | exact an1 (by omega) (by assumption) | exact aqz (by omega) (by assumption) (by assumption) | exact alq (by omega) (by assumption) (by assumption) (by assumption)
         rw [hn] at he; exact ⟨.inl rfl, _, _, _, Ent.refl _ _, ret1 rfl rfl, by rw [wd he.symm]; rfl, by rw [wd he.symm, Bool.or_true]⟩)
      | (have hn := z9 (i := i) (u := u) (b := b) (by omega) (by omega) (by omega) (by assumption) (by omega)
         rw [hn] at he; exact ⟨.inl rfl, _, _, _, Ent.refl _ _, ret1 rfl rfl, by rw [v0 he.symm]; rfl, by rw [v0 he.symm, Bool.or_false]; rfl⟩)
      | (have hn := ah3 (i := i) (u := u) (b := b) (by omega) (by omega) (by omega) (by assumption)
         rw [hn] at he; exact ⟨10 - (i + 1), _, _, by omega, ba, i + 1, _, rfl, rfl, rfl, by omega, sd 64 hu (Nat.mod_lt _ (by decide)), he⟩)
end Go.Proofs.Ytbciofnejefkiaa
namespace Go.Proofs.Ytbciofnejefkiaa
open Go Go.Am Go.Proofs
theorem aeh : ∀ f i u b r n, u < 2 ^ 64 -> rdU f i u b = some (r, n) -> r < 2 ^ 64
  | 0, i, u, b, r, n, hu, h => by simp [rdU] at h
  | f + 1, i, u, b, r, n, hu, h => by
    have hu' := sd (b := (((b.getD i 0).toNat &&& 127) % 2 ^ 64 * 2 ^ (7 * i) % 2 ^ 64)) 64 hu (Nat.mod_lt _ (by decide))
    simp only [rdU] at h; split at h
    · cases h
    · split at h
      · cases h
      · split at h
        · exact aeh f _ _ _ _ _ hu' h
        · split at h
          · cases h
          · simp only [Option.some.injEq, Prod.mk.injEq] at h
            rw [<- h.1]; exact hu'
theorem k8 (b : List UInt8) : (rd b).1 < 2 ^ 64 := by
  cases h : rdU 10 0 0 b with
  | none => rw [wd h]; decide
  | some p => obtain ⟨u, n⟩ := p; rw [v0 h]; exact aeh _ _ _ _ _ _ (by decide) h
theorem iy (b : List UInt8) : (rd b).2.1.length <= b.length := by
  cases h : rdU 10 0 0 b with
  | none => rw [wd h]; simp
  | some p => obtain ⟨u, n⟩ := p; rw [v0 h]; simp
def unzig (u : Nat) : Int := bits .xor .i64 ((u / 2 ^ 1 : Nat) : Int) (-((u &&& 1 : Nat) : Int))
theorem RI_calls (H : AHeap) (o : Nat) (b : List UInt8) (bad : Bool) (h : H o = some (.cel [.bys b, .raw (.bool bad)])) (hb : b.length <= 4000000000) :
    ACalls Try.prog 82 [.ptr o 0] H fun r H' => r = .raw (.int .i64 (unzig (rd b).1)) /\ H' = H.set o (.cel [.bys (rd b).2.1, .raw (.bool (bad || (rd b).2.2))]) := by
  have hu := k8 b; have h1 : (rd b).1 &&& 1 <= 1 := Nat.and_le_right; refine ej Try.func82 rfl (by decide) ?_
  focus (refine f0 ?_; refine cu ?_; (refine zc ah (RU_calls _ _ _ _ cq cq) ?_; rintro r H' ⟨rfl, rfl⟩); refine dk ?_; refine an ?_; refine ae rfl (r8 rfl rfl (by first | decide | (show _ <= 64; omega) | (show _ <= 32; omega) | (show _ <= 8; omega))) ?_; refine ae rfl (qs rfl (by omega) (by omega)) ?_; refine an ?_; refine qf ?_; refine ae rfl (qs rfl (by omega) (by omega)) ?_; refine ae rfl (ann rfl (by omega) (by omega)) ?_; refine ae rfl (ail rfl rfl) ?_; refine bn ?_)
  exact ⟨.inl rfl, _, _, _, Ent.refl _ _, ret1 rfl rfl, rfl, rfl⟩
def rs (b : List UInt8) : List UInt8 × List UInt8 × Bool :=
  if (rd b).2.1.length < (rd b).1 then ([], [], true) else (((rd b).2.1.drop 0).take ((rd b).1 - 0), ((rd b).2.1.drop (rd b).1).take ((rd b).2.1.length - (rd b).1), (rd b).2.2)
theorem um (b : List UInt8) : (rs b).2.1.length <= b.length := by
  have := iy b; unfold rs; split <;> simp
  omega
theorem RS_calls (H : AHeap) (o : Nat) (b : List UInt8) (bad : Bool) (h : H o = some (.cel [.bys b, .raw (.bool bad)])) (hb : b.length <= 4000000000) :
    ACalls Try.prog 59 [.ptr o 0] H fun r H' => r = .str (rs b).1 /\ H' = H.set o (.cel [.bys (rs b).2.1, .raw (.bool (bad || (rs b).2.2))]) := by
  have hu := k8 b; have hl := iy b; refine ej Try.func59 rfl (by decide) ?_
  focus (refine az ?_; refine ae rfl (gq (v := .str _) rfl) ?_; refine aq ?_; refine dg ?_; (refine zc ah (RU_calls _ _ _ _ cq cq) ?_; rintro r H' ⟨rfl, rfl⟩); refine bc ?_; refine fq ?_; refine mh ?_; refine ae rfl (fu rfl (by omega)) ?_; refine dw ?_; refine aq ?_; refine ax rfl (fun hc => ?_) (fun hc => ?_); refine dg ?_; (refine zc ah (uf _ _ _ _ cq) ?_; rintro r H' ⟨rfl, rfl⟩); refine il ?_; refine ae rfl (gq (v := .str _) rfl) ?_; refine dv ?_; refine db ?_; rotate_left; refine cy ?_; refine az ?_; refine bl ?_; refine an ?_; refine qg ?_; refine ae rfl (wu rfl dc v9) ?_; refine ae rfl (gq (v := .str _) rfl) ?_; refine aq ?_; refine dg ?_; refine bl ?_; refine an ?_; refine qg ?_; refine iw ?_; refine iq ?_; refine il ?_; refine ae rfl (ce (v := .str _) rfl) ?_; refine ae rfl (gq (v := .str _) rfl) ?_; refine dv ?_; rotate_left)
  · have e1 : rs b = ([], [], true) := by rw [rs, if_pos hc]
    exact ⟨.inl rfl, _, _, _, Ent.refl _ _, ret1 rfl rfl, by rw [e1]; try rfl, by ((try rw [AHeap.set_set]); rw [e1, Bool.or_true]; try rfl)⟩
  · have e1 : rs b = (((rd b).2.1.drop 0).take ((rd b).1 - 0), ((rd b).2.1.drop (rd b).1).take ((rd b).2.1.length - (rd b).1), (rd b).2.2) := by rw [rs, if_neg hc]
    exact ⟨.inl rfl, _, _, _, Ent.refl _ _, ret1 rfl rfl, by rw [e1]; try rfl, by (try rw [AHeap.set_set]); rw [e1]; try rfl⟩
theorem af6 {P : Program} {fn : Func} {Kc : AV -> AHeap -> Prop} {e : Exit} {R : Regs} {H H0 : AHeap} {o : Nat} {x : AO} {r : AV} (he : e = .ret \/ e = .normal) (hh : H = H0.set o x) (ho : H0 o = none)
    (hr : Ret P fn R H0 r) (hk : Kc r H0) : kret P fn Kc e R H := by subst hh; exact ⟨he, _, _, _, Ent.drop_set _ ho _, hr, hk⟩
end Go.Proofs.Ytbciofnejefkiaa
namespace Go.Proofs.Ytbciofnejefkiaa
open Go Go.Am Go.Proofs
theorem ah4 {x : Nat} (h : x < 128) : x &&& 128 = 0 := by
  have : ∀ v, v < 128 -> v &&& 128 = 0 := by decide +kernel
  exact this x h
theorem ak8 {x : Nat} (h : 128 <= x) (h2 : x < 256) : x &&& 128 = 128 := by
  have : ∀ v, v < 256 -> 128 <= v -> v &&& 128 = 128 := by decide +kernel
  exact this x h2 h
theorem and127 (x : Nat) : x &&& 127 = x % 128 := Nat.and_two_pow_sub_one_eq_mod x 7
theorem ab0 {a x k : Nat} (h : a < 2 ^ k) : a ||| x * 2 ^ k = a + x * 2 ^ k := by
  have := Nat.shiftLeft_add_eq_or_of_lt h x; rw [Nat.shiftLeft_eq] at this; rw [Nat.or_comm, <- this, Nat.add_comm]
theorem ac9 {x : Nat} (h : x < 256) : (UInt8.ofNat x).toNat = x := by simp; omega
theorem aal (p : List UInt8) (x : UInt8) (l : List UInt8) : (p ++ x :: l).getD p.length 0 = x := by simp [List.getD]
theorem aqw {i : Nat} (h : i <= 8) : 2 ^ (64 - 7 * i) = 2 ^ (64 - 7 * (i + 1)) * 128 := by
  rw [show 64 - 7 * i = (64 - 7 * (i + 1)) + 7 by omega, Nat.pow_add]
theorem am9 {i : Nat} (h : i <= 9) : 2 ^ (64 - 7 * i) * 2 ^ (7 * i) = 2 ^ 64 := by
  rw [<- Nat.pow_add, show 64 - 7 * i + 7 * i = 64 by omega]
theorem ap8 : ∀ (k i : Nat), k = 9 - i -> i <= 9 -> ∀ (v acc : Nat) (p t : List UInt8), v < 2 ^ (64 - 7 * i) -> acc < 2 ^ (7 * i) -> (i = 0 \/ 0 < v) -> p.length = i ->
    rdU (10 - i) i acc (p ++ (encU (9 - i) v ++ t)) = some (acc + v * 2 ^ (7 * i), i + (encU (9 - i) v).length) := by
  intro k
  induction k with
  | zero =>
    intro i hk hi v acc p t hv ha h0 hp; have hi9 : i = 9 := by omega
    subst hi9; have hv2 : v < 2 := by simpa using hv
    have hb : ((p ++ (encU (9 - 9) v ++ t)).getD 9 0).toNat = v := by
      rw [<- hp, Nat.sub_self]; simp only [encU, List.singleton_append, aal]; exact ac9 (by omega)
    have hl : ¬ (p ++ (encU (9 - 9) v ++ t)).length <= 9 := by simp [encU]; omega
    rw [z9 (by omega) hl (by rw [hb]; omega) (by rw [hb, ah4 (by omega)]; simp) (by rw [hb]; omega), hb, and127, Nat.mod_eq_of_lt (show v < 128 by omega)]
    have h64 : v * 2 ^ (7 * 9) < 2 ^ 64 := by omega
    rw [Nat.mod_eq_of_lt (show v < 2 ^ 64 by omega), Nat.mod_eq_of_lt h64, ab0 ha]
    simp [encU]
  | succ k ih =>
    intro i hk hi v acc p t hv ha h0 hp; have hi8 : i <= 8 := by omega
    have hf : 9 - i = (9 - (i + 1)) + 1 := by omega
    by_cases hlt : v < 128
    · have hb : ((p ++ (encU (9 - i) v ++ t)).getD i 0).toNat = v := by
        rw [qi hlt]; simp only [List.singleton_append]; rw [<- hp, aal]; exact ac9 (by omega)
      have hl : ¬ (p ++ (encU (9 - i) v ++ t)).length <= i := by rw [qi hlt]; simp; omega
      rw [z9 (by omega) hl (by omega) (by rw [hb, ah4 (by omega)]; simp) (by rw [hb]; omega), hb, and127, Nat.mod_eq_of_lt hlt]
      have h64 : v * 2 ^ (7 * i) < 2 ^ 64 := by
        rw [<- am9 hi]; exact Nat.mul_lt_mul_of_pos_right hv (Nat.two_pow_pos _)
      have hv64 : v < 2 ^ 64 := Nat.lt_of_lt_of_le hv (Nat.pow_le_pow_right (by decide) (by omega))
      rw [Nat.mod_eq_of_lt hv64, Nat.mod_eq_of_lt h64, ab0 ha, qi hlt]; rfl
    · have he : encU (9 - i) v = UInt8.ofNat (v % 128 + 128) :: encU (9 - (i + 1)) (v / 128) := by rw [hf, yi (by omega)]
      have hb : ((p ++ (encU (9 - i) v ++ t)).getD i 0).toNat = v % 128 + 128 := by
        rw [he]; simp only [List.cons_append]; rw [<- hp, aal]; exact ac9 (by omega)
      have hl : ¬ (p ++ (encU (9 - i) v ++ t)).length <= i := by rw [he]; simp; omega
      have hm : (v % 128 + 128) % 128 = v % 128 := by omega
      rw [ah3 (by omega) hl (by omega) (by rw [hb, ak8 (by omega) (by omega)]; simp), hb, and127, hm]
      have h7 : 2 ^ (7 * (i + 1)) = 128 * 2 ^ (7 * i) := by rw [show 7 * (i + 1) = 7 + 7 * i by omega, Nat.pow_add]
      have hvm : v % 128 < 128 := Nat.mod_lt _ (by decide)
      have hsm : v % 128 * 2 ^ (7 * i) + acc < 2 ^ (7 * (i + 1)) := by
        have : v % 128 * 2 ^ (7 * i) <= 127 * 2 ^ (7 * i) := Nat.mul_le_mul_right _ (by omega)
        rw [h7]; omega
      have hle64 : 2 ^ (7 * (i + 1)) <= 2 ^ 64 := Nat.pow_le_pow_right (by decide) (by omega)
      rw [Nat.mod_eq_of_lt (show v % 128 < 2 ^ 64 by omega), Nat.mod_eq_of_lt (show v % 128 * 2 ^ (7 * i) < 2 ^ 64 by omega), ab0 ha]
      have hp' : (p ++ [UInt8.ofNat (v % 128 + 128)]).length = i + 1 := by simp [hp]
      have hlist : p ++ (encU (9 - i) v ++ t) = (p ++ [UInt8.ofNat (v % 128 + 128)]) ++ (encU (9 - (i + 1)) (v / 128) ++ t) := by rw [he]; simp
      rw [hlist, ih (i + 1) (by omega) (by omega) (v / 128) _ _ t (by rw [aqw hi8] at hv; omega) (by omega) (.inr (by omega)) hp']
      rw [he]; simp only [List.length_cons, Option.some.injEq, Prod.mk.injEq]; refine ⟨?_, by omega⟩
      rw [h7, <- Nat.mul_assoc, Nat.add_assoc, <- Nat.add_mul, Nat.mul_comm (v / 128) 128, Nat.mod_add_div]
theorem ad8 : ∀ (f v : Nat), v < 2 ^ (7 * (f + 1)) -> encU (f + 1) v = encU f v
  | 0, v, h => by have : v < 128 := by simpa using h
                  rw [qi this, qi this]
  | f + 1, v, h => by
    by_cases hlt : v < 128
    · rw [qi hlt, qi hlt]
    · rw [yi (f := f + 1) (u := v) (by omega), yi (f := f) (u := v) (by omega), ad8 f (v / 128) (by
        have : 2 ^ (7 * (f + 1 + 1)) = 2 ^ (7 * (f + 1)) * 128 := by rw [show 7 * (f + 1 + 1) = 7 * (f + 1) + 7 by omega, Nat.pow_add]
        omega)]
theorem encU10 {u : Nat} (h : u < 2 ^ 64) : encU 10 u = encU 9 u := ad8 9 u (by omega)
theorem kt {u : Nat} (h : u < 2 ^ 64) (t : List UInt8) : rd (encU 10 u ++ t) = (u, t, false) := by
  have := ap8 9 0 rfl (by omega) u 0 [] t (by simpa using h) (by simp) (.inl rfl) rfl
  simp only [List.nil_append, Nat.sub_zero, Nat.mul_zero, Nat.pow_zero, Nat.mul_one, Nat.zero_add] at this; rw [encU10 h, v0 this]; simp
theorem amu {x : Nat} (h : x < 2 ^ 64) : x ^^^ (2 ^ 64 - 1) = 2 ^ 64 - 1 - x := by
  have := congrArg BitVec.toNat (BitVec.xor_allOnes (x := BitVec.ofNat 64 x)); rw [BitVec.toNat_xor, BitVec.toNat_not, BitVec.toNat_allOnes, BitVec.toNat_ofNat, Nat.mod_eq_of_lt h] at this; exact this
theorem ake {v : Int} (h0 : 0 <= v) (h : v <= 9223372036854775807) : zig v = 2 * v.toNat := by
  have h1 : v / 2 ^ Int.toNat 63 = 0 := Int.ediv_eq_zero_of_lt h0 (by show v < 9223372036854775808; omega)
  rw [zig, h1]; have h2 : u64 0 = 0 := by decide
  have h3 : u64 v = v.toNat := by unfold u64; omega
  rw [h2, h3, Nat.xor_zero]; omega
theorem ao0 {v : Int} (h0 : v < 0) (h : -9223372036854775808 <= v) : zig v = 2 * (-v - 1).toNat + 1 := by
  have h1 : v / 2 ^ Int.toNat 63 = -1 := by
    show v / 9223372036854775808 = -1
    omega
  rw [zig, h1]; have h2 : u64 (-1) = 2 ^ 64 - 1 := by decide
  have h3 : u64 v = (v + 18446744073709551616).toNat := by unfold u64; omega
  rw [h2, h3, amu (Nat.mod_lt _ (by decide))]
  omega
theorem ap4 {x : Int} (h : -9223372036854775808 <= x) (h2 : x <= 9223372036854775807) : bits .xor .i64 x 0 = x := by
  show IntKind.i64.wrap ((BitVec.ofInt 64 x ^^^ BitVec.ofInt 64 0).toNat : Int) = x
  have : BitVec.ofInt 64 0 = 0#64 := rfl; rw [this, BitVec.xor_zero, BitVec.toNat_ofInt, IntKind.wrap_i64]; omega
theorem aqn {x : Int} (h : 0 <= x) (h2 : x <= 9223372036854775807) : bits .xor .i64 x (-1) = -x - 1 := by
  show IntKind.i64.wrap ((BitVec.ofInt 64 x ^^^ BitVec.ofInt 64 (-1)).toNat : Int) = _
  have : BitVec.ofInt 64 (-1) = BitVec.allOnes 64 := rfl; rw [this, BitVec.xor_allOnes, BitVec.toNat_not, BitVec.toNat_ofInt, IntKind.wrap_i64]; omega
theorem anl (n : Nat) (h : n < 2 ^ 63) : unzig (2 * n) = n := by
  unfold unzig; have h1 : 2 * n &&& 1 = 0 := by rw [Nat.and_one_is_mod]; omega
  have h2 : (2 * n / 2 ^ 1 : Nat) = n := by omega
  rw [h1, h2]; have h3 : -((0 : Nat) : Int) = 0 := rfl; rw [h3, ap4 (by omega) (by omega)]
theorem ap3 (n : Nat) (h : n < 2 ^ 63) : unzig (2 * n + 1) = -(n : Int) - 1 := by
  unfold unzig; have h1 : 2 * n + 1 &&& 1 = 1 := by rw [Nat.and_one_is_mod]; omega
  have h2 : ((2 * n + 1) / 2 ^ 1 : Nat) = n := by omega
  rw [h1, h2]; have h3 : -((1 : Nat) : Int) = -1 := rfl; rw [h3, aqn (by omega) (by omega)]
theorem yy {v : Int} (h1 : -9223372036854775808 <= v) (h2 : v <= 9223372036854775807) : unzig (zig v) = v := by
  by_cases h : 0 <= v
  · rw [ake h h2, anl _ (by omega)]; omega
  · rw [ao0 (by omega) h1, ap3 _ (by omega)]; omega
theorem xj (v : Int) (t : List UInt8) : rd (encU 10 (zig v) ++ t) = (zig v, t, false) := kt (ai2 v) t
theorem agf {s : List UInt8} (h : s.length < 2 ^ 64) (t : List UInt8) : rs (encU 10 s.length ++ s ++ t) = (s, t, false) := by
  unfold rs; rw [List.append_assoc, kt h]; simp
theorem aib (f u : Nat) : 0 < (encU f u).length := by
  cases f <;> simp [encU]
  split <;> simp
end Go.Proofs.Ytbciofnejefkiaa
namespace Go.Proofs.Ytbciofnejefkiaa
open Go Go.Am Go.Proofs
end Go.Proofs.Ytbciofnejefkiaa
namespace Go.Proofs.Ytbciofnejefkiaa
open Go Go.Am Go.Proofs
def le : Nat -> Nat -> List UInt8
  | 0, _ => []
  | k + 1, u => UInt8.ofNat (u % 2 ^ 8) :: le k (u / 2 ^ 8)
theorem qm : ∀ k u, (le k u).length = k
  | 0, _ => rfl
  | k + 1, u => by simp [le, qm k]
def num : List UInt8 -> Nat
  | [] => 0
  | x :: l => (num l * 2 ^ 8 % 2 ^ 64) ||| x.toNat
theorem aby : ∀ b, num b < 2 ^ 64
  | [] => by decide
  | x :: l => by
    have := UInt8.toNat_lt x; exact sd 64 (Nat.mod_lt _ (by decide)) (by omega)
def crcBit (s : Nat) : Nat := (s / 2 ^ 1) ^^^ (3988292384 &&& ((2 ^ 32 - (s &&& 1) % 2 ^ 32) % 2 ^ 32))
def crcBits : Nat -> Nat -> Nat
  | 0, s => s
  | k + 1, s => crcBits k (crcBit s)
def crcL (s : Nat) (b : List UInt8) : Nat := b.foldl (fun s x => crcBits 8 (s ^^^ x.toNat)) s
def crc (b : List UInt8) : Nat := 2 ^ 32 - 1 - crcL 4294967295 b
theorem ad7 {s : Nat} (h : s < 2 ^ 32) : crcBit s < 2 ^ 32 := Nat.xor_lt_two_pow (by omega) (Nat.and_lt_two_pow _ (Nat.mod_lt _ (by decide)))
theorem xn (b : List UInt8) : crc b < 2 ^ 32 := by unfold crc; omega
theorem agq (H H0 : AHeap) (o : Nat) (b : List UInt8) (u k m : Nat) (hb : b.length <= 4000000000) (hu : u < 2 ^ 64) (hk : k <= 8) (ho : H0 o = none) (hH : H = H0.set o (.byt b)) (hm : m = b.length) :
    ACalls Try.prog 95 [.vw o 1 0 m, .raw (.int .u64 (u : Int)), .raw (.int .i64 (k : Int))] H fun r H' => ∃ o, H0 o = none /\ r = .vw o 1 0 (b ++ le k u).length /\ H' = H0.set o (.byt (b ++ le k u)) := by
  subst hH hm; refine lz Try.func95 rfl (by decide) ?_
  focus (refine az ?_; refine bc ?_; refine bz ?_; refine ig ?_)
  refine cv (fun m R' H1 => ∃ o bs i v, H0 o = none /\ H1 = H0.set o (.byt bs) /\ R' = [(0, .vw o 1 0 bs.length), (1, .raw (.int .u64 ((v : Nat) : Int))), (7, .raw (.int .i64 (k : Int))), (8, .raw (.int .i64 ((i : Nat) : Int)))] /\ i + m = k /\ v < 2 ^ 64 /\ bs ++ le m v = b ++ le k u /\ bs.length = b.length + i) ?_ ?_
  · exact ⟨k, _, _, ba, o, b, 0, u, ho, rfl, rfl, by omega, hu, rfl, rfl⟩
  · rintro m R0 H1 ⟨o, bs, i, v, ho, rfl, rfl, hi, hv, he, hl⟩
    focus (refine br ?_; refine ax rfl (fun hc => ?_) (fun hc => ?_); refine ct ?_; refine c9 ?_; refine an ?_; refine ae rfl (rn rfl) ?_; refine ae rfl (s9 rfl ii) ?_; refine za1 rfl rfl rfl (by assumption) pu dc au au (fun oN hoN => ?_); refine ix ?_; refine aq ?_; refine ca ?_; refine an ?_; refine ae rfl (r8 rfl rfl (by first | decide | (show _ <= 64; omega) | (show _ <= 32; omega) | (show _ <= 8; omega))) ?_; refine dq ?_; refine bb ?_; refine dl ?_; rotate_left; refine s5 ?_; refine az ?_; refine c9 ?_; refine ix ?_; refine dv ?_; rotate_left)
    · cases m with
      | zero => omega
      | succ m => exact ⟨m, _, _, by omega, ba, oN, bs ++ [UInt8.ofNat (v % 2 ^ 8)], i + 1, v / 2 ^ 8, by assumption, rfl, rfl, by omega, by omega, by rw [<- he, List.append_assoc]; rfl, by simp only [List.length_append, List.length_cons, List.length_nil]; omega⟩
    · obtain rfl : m = 0 := by omega
      simp only [le, List.append_nil] at he; exact ⟨.inl rfl, _, _, _, Ent.refl _ _, ret1 rfl rfl, o, by assumption, by rw [<- he]; rfl, by rw [<- he]⟩
theorem aop (H : AHeap) (b : List UInt8) (u k : Nat) (hb : b.length <= 4000000000) (hu : u < 2 ^ 64) (hk : k <= 8) (hk0 : 0 < k) :
    ACalls Try.prog 95 [.bysx b, .raw (.int .u64 (u : Int)), .raw (.int .i64 (k : Int))] H fun r H' => ∃ o, H o = none /\ r = .vw o 1 0 (b ++ le k u).length /\ H' = H.set o (.byt (b ++ le k u)) := by
  refine lz Try.func95 rfl (by decide) ?_
  focus (refine az ?_; refine bc ?_; refine bz ?_; refine ig ?_)
  refine cv (fun m R' H1 => ∃ rb i v, R' = [(0, rb), (1, .raw (.int .u64 ((v : Nat) : Int))), (7, .raw (.int .i64 (k : Int))), (8, .raw (.int .i64 ((i : Nat) : Int)))] /\ i + m = k /\ v < 2 ^ 64 /\
    ((rb = .bysx b /\ H1 = H /\ i = 0 /\ v = u) \/ (∃ o bs, H o = none /\ H1 = H.set o (.byt bs) /\ rb = .vw o 1 0 bs.length /\ bs ++ le m v = b ++ le k u /\ bs.length = b.length + i))) ?_ ?_
  · exact ⟨k, _, _, ba, .bysx b, 0, u, rfl, by omega, hu, .inl ⟨rfl, rfl, rfl, rfl⟩⟩
  · rintro m R0 H1 ⟨rb, i, v, rfl, hi, hv, ⟨rfl, rfl, rfl, rfl⟩ | ⟨o, bs, ho, rfl, rfl, he, hl⟩⟩
    · focus (refine br ?_; refine ax rfl (fun hc => ?_) (fun hc => ?_); refine ct ?_; refine ae rfl (ce (v := .bysx _) rfl) ?_; refine an ?_; refine ae rfl (rn rfl) ?_; refine ae rfl (s9 rfl ii) ?_; refine alt rfl rfl rfl dc au au au (fun oN hoN => ?_); refine ix ?_; refine aq ?_; refine ca ?_; refine an ?_; refine ae rfl (r8 rfl rfl (by first | decide | (show _ <= 64; omega) | (show _ <= 32; omega) | (show _ <= 8; omega))) ?_; refine dq ?_; refine bb ?_; refine dl ?_; rotate_left; exact absurd hc aj)
      cases m with
      | zero => omega
      | succ m => exact ⟨m, _, _, by omega, ba, _, 1, v / 2 ^ 8, rfl, by omega, by omega, .inr ⟨oN, b ++ [UInt8.ofNat (v % 2 ^ 8)], by assumption, rfl, rfl, by rw [show k = m + 1 by omega, List.append_assoc]; rfl, by simp⟩⟩
    · focus (refine br ?_; refine ax rfl (fun hc => ?_) (fun hc => ?_); refine ct ?_; refine c9 ?_; refine an ?_; refine ae rfl (rn rfl) ?_; refine ae rfl (s9 rfl ii) ?_; refine za1 rfl rfl rfl (by assumption) pu dc au au (fun oN hoN => ?_); refine ix ?_; refine aq ?_; refine ca ?_; refine an ?_; refine ae rfl (r8 rfl rfl (by first | decide | (show _ <= 64; omega) | (show _ <= 32; omega) | (show _ <= 8; omega))) ?_; refine dq ?_; refine bb ?_; refine dl ?_; rotate_left; refine s5 ?_; refine az ?_; refine c9 ?_; refine ix ?_; refine dv ?_; rotate_left)
      · cases m with
        | zero => omega
        | succ m => exact ⟨m, _, _, by omega, ba, _, i + 1, v / 2 ^ 8, rfl, by omega, by omega, .inr ⟨oN, bs ++ [UInt8.ofNat (v % 2 ^ 8)], by assumption, rfl, rfl, by rw [<- he, List.append_assoc]; rfl, by simp only [List.length_append, List.length_cons, List.length_nil]; omega⟩⟩
      · obtain rfl : m = 0 := by omega
        simp only [le, List.append_nil] at he; exact ⟨.inl rfl, _, _, _, Ent.refl _ _, ret1 rfl rfl, o, by assumption, by rw [<- he]; rfl, by rw [<- he]⟩
theorem abd (H : AHeap) (b : List UInt8) (hb : b.length <= 4000000000) :
    ACalls Try.prog 93 [.bys b] H fun r H' => r = .raw (.int .u64 (num b : Int)) /\ H' = H := by
  refine ej Try.func93 rfl (by decide) ?_
  focus (refine f0 ?_; refine bc ?_; refine bq ?_; refine ei ?_; refine mh ?_; refine ae rfl (ab2 rfl rfl (by omega) (by omega)) ?_; refine bc ?_; refine gi ?_)
  refine cv (fun m R' H1 => ∃ v, H1 = H /\ R' = [(0, .bys b), (3, .raw (.int .u64 ((v : Nat) : Int))), (4, .raw (.int .i64 ((m : Int) - 1)))] /\ m <= b.length /\ v = num (b.drop m)) ?_ ?_
  · exact ⟨b.length, _, _, ba, 0, rfl, rfl, by omega, by rw [List.drop_length]; rfl⟩
  · rintro m R0 H1 ⟨v, rfl, rfl, hm, rfl⟩
    have hnl := aby (b.drop m)
    cases m with
    | zero =>
      focus (refine bz ?_; refine ae rfl (ky rfl rfl) ?_; refine aq ?_; refine c8 ?_; intro hc; refine gn ?_; refine bn ?_)
      exact ⟨.inl rfl, _, _, _, Ent.refl _ _, ret1 rfl rfl, rfl, rfl⟩
    | succ j =>
      rw [show (((j + 1 : Nat) : Int) - 1) = (j : Int) by omega]
      have hby := UInt8.toNat_lt (b.getD j 0)
      focus (refine bz ?_; refine ln ?_; refine aq ?_; refine ax rfl (fun hc => ?_) (fun hc => ?_); refine js ?_; refine ca ?_; refine an ?_; refine ae rfl (yp rfl rfl (by omega)) ?_; refine ei ?_; refine an ?_; refine ae rfl (xe rfl rfl (by omega) rfl) ?_; refine ae rfl (yx rfl (by omega)) ?_; refine ae rfl (fu rfl (by omega)) ?_; refine ae rfl (xm rfl rfl ii ii) ?_; refine dq ?_; refine bb ?_; refine ul ?_; refine an ?_; refine ae rfl (ab2 rfl rfl (by omega) (by omega)) ?_; refine bc ?_; rotate_left; exact absurd hc aj)
      refine ⟨j, _, _, by omega, ba, _, rfl, rfl, by omega, ?_⟩
      rw [List.drop_eq_getElem_cons (show j < b.length by omega)]
      simp [num, List.getD, show j < b.length by omega]
theorem Crc_calls (H : AHeap) (b : List UInt8) (hb : b.length <= 4000000000) :
    ACalls Try.prog 107 [.bys b] H fun r H' => r = .raw (.int .u32 (crc b : Int)) /\ H' = H := by
  refine ej Try.func107 rfl (by decide) ?_
  focus (refine f0 ?_; refine bc ?_; refine bq ?_; refine ei ?_; refine mh ?_; refine ig ?_)
  refine cv (fun m R' H1 => ∃ i s, H1 = H /\ R' = [(3, .raw (.int .u32 ((s : Nat) : Int))), (6, .bys b), (7, .raw (.int .i64 (b.length : Int))), (8, .raw (.int .i64 ((i : Nat) : Int)))] /\ i + m = b.length /\ s < 2 ^ 32 /\ s = crcL 4294967295 (b.take i)) ?_ ?_
  · exact ⟨b.length, _, _, ba, 0, 4294967295, rfl, rfl, by omega, by decide, rfl⟩
  · rintro m R0 H1 ⟨i, s, rfl, rfl, hi, hs, he⟩
    by_cases hlt : i < b.length
    · have hby := UInt8.toNat_lt (b.getD i 0)
      have hx : s ^^^ (b.getD i 0).toNat < 2 ^ 32 := Nat.xor_lt_two_pow hs (by omega)
      focus (refine br ?_; refine ax rfl (fun hc => ?_) (fun hc => ?_); refine ct ?_; refine ae rfl (xe rfl rfl (by omega) rfl) ?_; refine ae rfl (yx rfl (by omega)) ?_; refine dk ?_; refine an ?_; refine an ?_; refine ae rfl (fu rfl (by omega)) ?_; refine ae rfl (vj rfl rfl ii ii) ?_; refine dk ?_; refine ig ?_; rotate_left; exact absurd hc aj)
      refine cv (fun m' R' H2 => ∃ q s', H2 = H1 /\ R' = [(3, .raw (.int .u32 ((s' : Nat) : Int))), (6, .bys b), (7, .raw (.int .i64 (b.length : Int))), (8, .raw (.int .i64 ((i : Nat) : Int))), (16, .raw (.int .i64 ((q : Nat) : Int)))] /\ q + m' = 8 /\ s' < 2 ^ 32 /\ crcBits m' s' = crcBits 8 (s ^^^ (b.getD i 0).toNat)) ?_ ?_
      · exact ⟨8, _, _, ba, 0, _, rfl, rfl, by omega, hx, rfl⟩
      rintro m' R1 H2 ⟨q, s', rfl, rfl, hq, hs', hx'⟩; have ha : s' &&& 1 <= 1 := Nat.and_le_right; have hp : 3988292384 &&& ((2 ^ 32 - (s' &&& 1) % 2 ^ 32) % 2 ^ 32) < 2 ^ 32 := Nat.and_lt_two_pow _ (Nat.mod_lt _ (by decide))
      focus (refine br ?_; refine ax rfl (fun hc => ?_) (fun hc => ?_); refine js ?_; refine ca ?_; refine an ?_; refine ae rfl (r8 rfl rfl (by first | decide | (show _ <= 64; omega) | (show _ <= 32; omega) | (show _ <= 8; omega))) ?_; refine an ?_; refine qf ?_; refine ae rfl (af1 rfl) ?_; refine qf ?_; refine ae rfl (vj rfl rfl ii ii) ?_; refine dq ?_; refine bb ?_; refine dl ?_; rotate_left; refine qw ?_; refine dl ?_; rotate_left)
      · cases m' with
        | zero => omega
        | succ m' => exact ⟨m', _, _, by omega, ba, q + 1, crcBit s', rfl, rfl, by omega, ad7 hs', hx'⟩
      · obtain rfl : m' = 0 := by omega
        refine ⟨m - 1, _, _, by omega, ba, i + 1, s', rfl, rfl, by omega, hs', ?_⟩
        have hg : b[i]? = some b[i] := List.getElem?_eq_getElem hlt; rw [List.take_add_one, hg, crcL, List.foldl_append]; simp only [Option.toList, List.foldl_cons, List.foldl_nil]; rw [show List.foldl (fun s x => crcBits 8 (s ^^^ x.toNat)) 4294967295 (b.take i) = s from he.symm]
        simp only [crcBits] at hx'; rw [hx']; simp [List.getD, hg]
        rfl
    · obtain rfl : i = b.length := by omega
      rw [List.take_length] at he
      focus (refine br ?_; refine c8 ?_; intro hc; refine gn ?_; refine ae rfl (aj0 rfl ii) ?_; refine bn ?_)
      exact ⟨.inl rfl, _, _, _, Ent.refl _ _, ret1 rfl rfl, by show AV.raw _ = AV.raw _; rw [crc, <- he], rfl⟩
theorem Crc_vw (H : AHeap) (o m0 : Nat) (b : List UInt8) (ho : H o = some (.byt b)) (hm0 : m0 = b.length) (hb : b.length <= 4000000000) :
    ACalls Try.prog 107 [.vw o 1 0 m0] H fun r H' => r = .raw (.int .u32 (crc b : Int)) /\ H' = H := by
  subst hm0; refine ej Try.func107 rfl (by decide) ?_
  focus (refine f0 ?_; refine bc ?_; refine bq ?_; refine c9 ?_; refine iz ?_; refine ig ?_)
  refine cv (fun m R' H1 => ∃ i s, H1 = H /\ R' = [(3, .raw (.int .u32 ((s : Nat) : Int))), (6, .vw o 1 0 b.length), (7, .raw (.int .i64 (b.length : Int))), (8, .raw (.int .i64 ((i : Nat) : Int)))] /\ i + m = b.length /\ s < 2 ^ 32 /\ s = crcL 4294967295 (b.take i)) ?_ ?_
  · exact ⟨b.length, _, _, ba, 0, 4294967295, rfl, rfl, by omega, by decide, rfl⟩
  · rintro m R0 H1 ⟨i, s, rfl, rfl, hi, hs, he⟩
    by_cases hlt : i < b.length
    · have hby := UInt8.toNat_lt (b.getD i 0)
      have hx : s ^^^ (b.getD i 0).toNat < 2 ^ 32 := Nat.xor_lt_two_pow hs (by omega)
      focus (refine br ?_; refine ax rfl (fun hc => ?_) (fun hc => ?_); refine ct ?_; refine pk ?_; refine ae rfl (ak7 rfl aa au) ?_; refine dk ?_; refine an ?_; refine an ?_; refine ae rfl (rn rfl) ?_; refine ae rfl (vj rfl rfl ii ii) ?_; refine dk ?_; refine ig ?_; rotate_left; exact absurd hc aj)
      refine cv (fun m' R' H2 => ∃ q s', H2 = H1 /\ R' = [(3, .raw (.int .u32 ((s' : Nat) : Int))), (6, .vw o 1 0 b.length), (7, .raw (.int .i64 (b.length : Int))), (8, .raw (.int .i64 ((i : Nat) : Int))), (16, .raw (.int .i64 ((q : Nat) : Int)))] /\ q + m' = 8 /\ s' < 2 ^ 32 /\ crcBits m' s' = crcBits 8 (s ^^^ (b.getD i 0).toNat)) ?_ ?_
      · exact ⟨8, _, _, ba, 0, _, rfl, rfl, by omega, hx, rfl⟩
      rintro m' R1 H2 ⟨q, s', rfl, rfl, hq, hs', hx'⟩; have ha : s' &&& 1 <= 1 := Nat.and_le_right; have hp : 3988292384 &&& ((2 ^ 32 - (s' &&& 1) % 2 ^ 32) % 2 ^ 32) < 2 ^ 32 := Nat.and_lt_two_pow _ (Nat.mod_lt _ (by decide))
      focus (refine br ?_; refine ax rfl (fun hc => ?_) (fun hc => ?_); refine js ?_; refine ca ?_; refine an ?_; refine ae rfl (r8 rfl rfl (by first | decide | (show _ <= 64; omega) | (show _ <= 32; omega) | (show _ <= 8; omega))) ?_; refine an ?_; refine qf ?_; refine ae rfl (af1 rfl) ?_; refine qf ?_; refine ae rfl (vj rfl rfl ii ii) ?_; refine dq ?_; refine bb ?_; refine dl ?_; rotate_left; refine qw ?_; refine dl ?_; rotate_left)
      · cases m' with
        | zero => omega
        | succ m' => exact ⟨m', _, _, by omega, ba, q + 1, crcBit s', rfl, rfl, by omega, ad7 hs', hx'⟩
      · obtain rfl : m' = 0 := by omega
        refine ⟨m - 1, _, _, by omega, ba, i + 1, s', rfl, rfl, by omega, hs', ?_⟩
        have hg : b[i]? = some b[i] := List.getElem?_eq_getElem hlt; rw [List.take_add_one, hg, crcL, List.foldl_append]; simp only [Option.toList, List.foldl_cons, List.foldl_nil]; rw [show List.foldl (fun s x => crcBits 8 (s ^^^ x.toNat)) 4294967295 (b.take i) = s from he.symm]
        simp only [crcBits] at hx'; rw [hx']; simp [List.getD, hg]
        rfl
    · obtain rfl : i = b.length := by omega
      rw [List.take_length] at he
      focus (refine br ?_; refine c8 ?_; intro hc; refine gn ?_; refine ae rfl (aj0 rfl ii) ?_; refine bn ?_)
      exact ⟨.inl rfl, _, _, _, Ent.refl _ _, ret1 rfl rfl, by show AV.raw _ = AV.raw _; rw [crc, <- he], rfl⟩
end Go.Proofs.Ytbciofnejefkiaa
namespace Go.Proofs.Ytbciofnejefkiaa
open Go Go.Am Go.Proofs
theorem akz (H : AHeap) (o off k : Nat) (x t : List UInt8) (hx : H o = some (.byt x)) (hl : off + k <= x.length) (hh : x.length <= 100000) (ht : t.length <= 2000000000) :
    ACalls Try.prog 94 [.vw o 1 off k, .bys t] H fun r H' => r = .raw (.int .u64 (crc ((x.drop off).take (k * 1) ++ t) : Int)) /\ H' = H := by
  have hc := xn ((x.drop off).take (k * 1) ++ t); have hk : ((x.drop off).take (k * 1)).length = k := by simp; omega
  refine gm Try.func94 rfl (by decide) ?_
  focus (refine f0 ?_; refine ae rfl (ot) ?_; refine c9 ?_; refine ai8 rfl rfl rfl dc au au (fun oN hoN => ?_); refine ei ?_; refine za1 rfl rfl rfl (by assumption) pu dc au au (fun oN hoN => ?_); (refine zc ah (Crc_vw _ _ _ _ aa au au) ?_; rintro r H' ⟨rfl, rfl⟩); refine ae rfl (fu rfl (by omega)) ?_; refine bn ?_)
  exact af6 (.inl rfl) rfl (by assumption) (ret1 rfl rfl) ⟨rfl, rfl⟩
theorem amv (H : AHeap) (h t : List UInt8) (hh : h.length <= 100000) (ht : t.length <= 2000000000) :
    ACalls Try.prog 94 [.bys h, .bys t] H fun r H' => r = .raw (.int .u64 (crc (h ++ t) : Int)) /\ H' = H := by
  have hc := xn (h ++ t); refine gm Try.func94 rfl (by decide) ?_
  focus (refine f0 ?_; refine ae rfl (ot) ?_; refine ei ?_; refine ai8 rfl rfl rfl dc au au (fun oN hoN => ?_); refine ei ?_; refine za1 rfl rfl rfl (by assumption) pu dc au au (fun oN hoN => ?_); (refine zc ah (Crc_vw _ _ _ _ aa au au) ?_; rintro r H' ⟨rfl, rfl⟩); refine ae rfl (fu rfl (by omega)) ?_; refine bn ?_)
  exact af6 (.inl rfl) rfl (by assumption) (ret1 rfl rfl) ⟨rfl, rfl⟩
def head (n : Nat) (b : List UInt8) : List UInt8 := le 4 b.length ++ le 8 n
def frame (n : Nat) (b : List UInt8) : List UInt8 := [90] ++ head n b ++ le 4 (crc (head n b ++ b)) ++ b
theorem yj (n : Nat) (b : List UInt8) : (frame n b).length = 17 + b.length := by
  simp only [frame, head, List.length_append, qm, List.length_cons, List.length_nil] <;> omega
theorem Frame_own (H : AHeap) (n : Nat) (b : List UInt8) (hn : n < 2 ^ 64) (hb : b.length <= 60000) :
    ACalls Try.prog 89 [.raw (.int .u64 (n : Int)), .bys b] H fun r H' => ∃ o, H o = none /\ r = .vw o 1 0 (frame n b).length /\ H' = H.set o (.byt (frame n b)) := by
  have h4 := qm 4 b.length; have h8 := qm 8 n; refine gm Try.func89 rfl (by decide) ?_
  focus (refine az ?_; refine bc ?_; refine bq ?_; refine ei ?_; refine mh ?_; refine dw ?_; refine aq ?_; refine gh ?_; intro hc; refine az ?_; refine ae rfl (s9 rfl ii) ?_; refine ei ?_; refine mh ?_; refine ae rfl (fu rfl (by omega)) ?_; (refine zc ah (aop _ _ _ _ cq cq cq cq) ?_; rintro r H' ⟨o, ho, rfl, rfl⟩); refine ix ?_; refine il ?_; refine c9 ?_; refine an ?_; (refine zc ah (agq _ _ _ _ _ _ _ cq cq cq (by assumption) rfl au) ?_; rintro r H' ⟨o, ho, rfl, rfl⟩); refine ix ?_; refine il ?_; refine c9 ?_; refine c9 ?_; refine ae rfl (xz rfl ji ji au au) ?_; refine ei ?_; (refine zc ah (akz _ _ _ _ _ _ cq au au cq) ?_; rintro r H' ⟨rfl, rfl⟩); (refine zc ah (agq _ _ _ _ _ _ _ cq cq cq (by assumption) rfl au) ?_; rintro r H' ⟨o, ho, rfl, rfl⟩); refine ix ?_; refine il ?_; refine c9 ?_; refine ei ?_; refine za1 rfl rfl rfl (by assumption) pu dc au au (fun oN hoN => ?_); refine ix ?_; refine dv ?_)
  have e1 : ([UInt8.ofNat 90] ++ le 4 b.length ++ le 8 n).drop (0 + 1 * 1) = head n b := by rw [List.append_assoc]; rfl
  have e2 : (([UInt8.ofNat 90] ++ le 4 b.length ++ le 8 n).length - 1) * 1 = (head n b).length := by simp [head]
  have hx : [UInt8.ofNat 90] ++ le 4 b.length ++ le 8 n ++ le 4 (crc (((([UInt8.ofNat 90] ++ le 4 b.length ++ le 8 n).drop (0 + 1 * 1)).take ((([UInt8.ofNat 90] ++ le 4 b.length ++ le 8 n).length - 1) * 1)) ++ b)) ++ b = frame n b := by
    rw [e1, e2, List.take_length, frame, head]; simp
  exact ⟨.inl rfl, _, _, _, Ent.refl _ _, ret1 rfl rfl, oN, by assumption, by rw [<- hx]; show AV.vw oN 1 0 _ = AV.vw oN 1 0 _; congr 1; simp; omega, by rw [hx]⟩
theorem Frame_ok (H : AHeap) (n : Nat) (b : List UInt8) (hn : n < 2 ^ 64) (hb : b.length <= 60000) :
    ACalls Try.prog 89 [.raw (.int .u64 (n : Int)), .bys b] H fun r H' => r = .bys (frame n b) /\ H' = H := (Frame_own H n b hn hb).seal
def tlen (b : List UInt8) : Nat := num ((b.drop 1).take (5 - 1))
def takeF (b : List UInt8) : Nat × List UInt8 × Nat :=
  if b.length < 17 then (0, [], 0)
  else if (b.getD 0 0).toNat ≠ 90 then (0, [], 0)
  else if 60000 < tlen b then (0, [], 0)
  else if b.length - 17 < tlen b then (0, [], 0)
  else if num ((b.drop 13).take (17 - 13)) ≠ crc ((b.drop 1).take (13 - 1) ++ (b.drop 17).take (17 + tlen b - 17)) then (0, [], 0)
  else (num ((b.drop 5).take (13 - 5)), (b.drop 17).take (17 + tlen b - 17), 17 + tlen b)
theorem va {P : Program} {fn : Func} {Kc : AV -> AHeap -> Prop} {R : Regs} {H : AHeap} {t u x : Tmp} {a c : AV} (h : fn.results = #[.tmp t, .tmp u, .tmp x]) (h1 : rget R t = a) (h2 : rget R u = .raw (.slice none 0 0)) (h3 : rget R x = c) (htu : Nat.beq u t = false) (hux : Nat.beq u x = false)
    (hk : Kc (.tup [a, .bys [], c]) H) : kret P fn Kc .ret R H :=
  ⟨.inl rfl, _, _, _, Ent.weakReg u h2 (W.nilb rfl), ret3 h (by simp only [rget, htu]; exact h1) (by simp only [rget, Nat.beq_refl]; rfl) (by simp only [rget, hux]; exact h3), hk⟩
theorem Take_calls (H : AHeap) (b : List UInt8) (hb : b.length <= 2000000000) :
    ACalls Try.prog 87 [.bys b] H fun r H' => r = .tup [.raw (.int .u64 ((takeF b).1 : Int)), .bys (takeF b).2.1, .raw (.int .i64 ((takeF b).2.2 : Int))] /\ H' = H := by
  have n1 : num ((b.drop 1).take (5 - 1)) < 2 ^ 64 := aby _; refine ej Try.func87 rfl (by decide) ?_
  focus (refine az ?_; refine dq ?_; refine dq ?_; refine bc ?_; refine bq ?_; refine ei ?_; refine mh ?_; refine mz ?_; refine an ?_; refine zg2 rfl rfl rfl (fun hc => ?_) (fun hc => ?_); refine gp ?_; refine fb ?_; refine bu ?_; refine gy ?_; refine az ?_; refine dq ?_; refine dq ?_; refine bn ?_; refine db ?_; rotate_left; refine ei ?_; refine a0 ?_; refine ae rfl (xe rfl rfl (by omega) rfl) ?_; refine a0 ?_; refine ae rfl (yx rfl (by omega)) ?_; refine a0 ?_; refine jk ?_; refine cd ?_; refine aq ?_; refine ax rfl (fun hc => ?_) (fun hc => ?_); refine az ?_; refine dq ?_; refine dq ?_; refine bn ?_; refine db ?_; rotate_left; refine cy ?_; refine az ?_; refine ei ?_; refine qg ?_; (refine zc ah (abd _ _ cq) ?_; rintro r H' ⟨rfl, rfl⟩); refine bc ?_; refine bz ?_; refine dw ?_; refine an ?_; refine zg2 rfl rfl rfl (fun hc => ?_) (fun hc => ?_); refine dp ?_; refine fb ?_; refine bu ?_; refine gy ?_; refine az ?_; refine dq ?_; refine dq ?_; refine bn ?_; refine db ?_; rotate_left; refine ep ?_; refine ei ?_; refine a0 ?_; refine mh ?_; refine a0 ?_; refine ae rfl (ry rfl rfl (by omega) (by omega)) ?_; refine a0 ?_; refine ae rfl (fu rfl (by omega)) ?_; refine a0 ?_; refine dw ?_; refine cd ?_; refine aq ?_; refine ax rfl (fun hc => ?_) (fun hc => ?_); refine az ?_; refine dq ?_; refine dq ?_; refine bn ?_; refine db ?_; rotate_left; refine cy ?_; refine gn ?_; refine ae rfl (qs rfl (by omega) (by omega)) ?_; refine ae rfl (my rfl rfl au) ?_; refine dk ?_; refine ae rfl (ot) ?_; refine ei ?_; refine an ?_; refine qg ?_; refine ae rfl (aan rfl rfl dc au au) ?_; refine kv ?_; refine aq ?_; refine bf ?_; refine cj ?_; (apply ay; · exact ce (v := .bys _) rfl); (apply ay; · exact abh rfl ji ji au au rfl); (apply ay; · exact bw ah (abd _ _ cq)); (apply ay; · exact ce (v := .bys _) rfl); (apply ay; · exact abh rfl ji ji au au rfl); (apply ay; · exact ce (v := .bys _) rfl); (apply ay; · exact bw ah (amv _ _ _ cq cq)); (apply ay; · exact wq rfl rfl); refine de ?_; refine ax rfl (fun hc => ?_) (fun hc => ?_); refine az ?_; refine dq ?_; refine dq ?_; refine bn ?_; refine db ?_; rotate_left; refine cy ?_; refine az ?_; refine ei ?_; refine qg ?_; (refine zc ah (abd _ _ cq) ?_; rintro r H' ⟨rfl, rfl⟩); refine ei ?_; refine an ?_; refine dq ?_; refine kv ?_; refine bn ?_; rotate_left)
  · have e : takeF b = (0, [], 0) := by rw [takeF, if_pos (by assumption)]
    exact va rfl rfl rfl rfl rfl rfl (by rw [e]; exact ⟨rfl, rfl⟩)
  · have e : takeF b = (0, [], 0) := by rw [takeF, if_neg (by assumption), if_pos (by assumption)]
    exact va rfl rfl rfl rfl rfl rfl (by rw [e]; exact ⟨rfl, rfl⟩)
  · have e : takeF b = (0, [], 0) := by rw [takeF, if_neg (by assumption), if_neg (by assumption), if_pos (by assumption)]
    exact va rfl rfl rfl rfl rfl rfl (by rw [e]; exact ⟨rfl, rfl⟩)
  · have e : takeF b = (0, [], 0) := by rw [takeF, if_neg (by assumption), if_neg (by assumption), if_neg (by assumption), if_pos (by assumption)]
    exact va rfl rfl rfl rfl rfl rfl (by rw [e]; exact ⟨rfl, rfl⟩)
  · have e : takeF b = (0, [], 0) := by rw [takeF, if_neg (by assumption), if_neg (by assumption), if_neg (by assumption), if_neg (by assumption), if_pos (by assumption)]
    exact va rfl rfl rfl rfl rfl rfl (by rw [e]; exact ⟨rfl, rfl⟩)
  · have e : takeF b = (num ((b.drop 5).take (13 - 5)), (b.drop 17).take (17 + tlen b - 17), 17 + tlen b) := by rw [takeF, if_neg (by assumption), if_neg (by assumption), if_neg (by assumption), if_neg (by assumption), if_neg (by assumption)]
    exact ⟨.inl rfl, _, _, _, Ent.refl _ _, ret3 rfl rfl rfl rfl, by rw [e]; exact ⟨rfl, rfl⟩⟩
end Go.Proofs.Ytbciofnejefkiaa
namespace Go.Proofs.Ytbciofnejefkiaa
open Go Go.Am Go.Proofs
theorem ame (b : List UInt8) : (takeF b).2.2 = 0 \/ (17 <= (takeF b).2.2 /\ (takeF b).2.2 <= b.length /\ (takeF b).2.2 <= 60017) := by
  unfold takeF
  repeat' split
  all_goals first | exact .inl rfl | (right; simp only []; omega)
theorem alh (b : List UInt8) : (takeF b).2.1.length <= b.length := by
  unfold takeF
  repeat' split
  all_goals simp
  omega
end Go.Proofs.Ytbciofnejefkiaa
namespace Go.Proofs.Ytbciofnejefkiaa
open Go Go.Am Go.Proofs
end Go.Proofs.Ytbciofnejefkiaa
namespace Go.Proofs.Ytbciofnejefkiaa
open Go Go.Am Go.Proofs
end Go.Proofs.Ytbciofnejefkiaa
namespace Go.Proofs.Ytbciofnejefkiaa
open Go Go.Am Go.Proofs
end Go.Proofs.Ytbciofnejefkiaa
namespace Go.Proofs.Ytbciofnejefkiaa
open Go Go.Am Go.Proofs
theorem xv : ∀ (k u : Nat), u < 2 ^ (8 * k) -> u < 2 ^ 64 -> num (le k u) = u
  | 0, u, h, _ => by simp at h; subst h; rfl
  | k + 1, u, h, h6 => by
    have h1 : u / 2 ^ 8 < 2 ^ (8 * k) := by
      rw [Nat.div_lt_iff_lt_mul (by decide), <- Nat.pow_add]; exact h
    have ih := xv k (u / 2 ^ 8) h1 (by omega)
    have hr : (UInt8.ofNat (u % 2 ^ 8)).toNat = u % 2 ^ 8 := by simp
    rw [le, num, ih, hr, Nat.mod_eq_of_lt (show u / 2 ^ 8 * 2 ^ 8 < 2 ^ 64 by omega), Nat.mul_comm, <- Nat.two_pow_add_eq_or_of_lt (Nat.mod_lt _ (by decide)), Nat.div_add_mod]
theorem al9 (n : Nat) (b t : List UInt8) (hn : n < 2 ^ 64) (hb : b.length <= 60000) : takeF (frame n b ++ t) = (n, b, 17 + b.length) := by
  have l4 := qm 4 b.length; have l8 := qm 8 n; have lc := qm 4 (crc (head n b ++ b)); have hl : (frame n b ++ t).length = 17 + b.length + t.length := by rw [List.length_append, yj]
  have f : frame n b ++ t = [90] ++ (le 4 b.length ++ (le 8 n ++ (le 4 (crc (head n b ++ b)) ++ (b ++ t)))) := by simp [frame, head]
  have d1 : ((frame n b ++ t).drop 1).take (5 - 1) = le 4 b.length := by rw [f]; simp [List.take_append, l4]
  have d5 : ((frame n b ++ t).drop 5).take (13 - 5) = le 8 n := by rw [f]; simp [List.drop_append, List.take_append, l4, l8]
  have d13 : ((frame n b ++ t).drop 13).take (17 - 13) = le 4 (crc (head n b ++ b)) := by rw [f]; simp [List.drop_append, List.take_append, l4, l8, lc]
  have h12 : ((frame n b ++ t).drop 1).take (13 - 1) = head n b := by rw [f]; simp [List.take_append, l4, l8, head, List.take_of_length_le (show (le 4 b.length).length <= 12 by omega)]
  have d17 : ((frame n b ++ t).drop 17).take (17 + b.length - 17) = b := by
    rw [f]; simp [List.drop_append, l4, l8, lc, List.drop_eq_nil_of_le (show (le 4 b.length).length <= 16 by omega), List.drop_eq_nil_of_le (show (le 8 n).length <= 12 by omega)]
  have nt : tlen (frame n b ++ t) = b.length := by rw [tlen, d1]; exact xv 4 _ (by omega) (by omega)
  have nc := xn (head n b ++ b); rw [takeF, nt, if_neg (by omega), if_neg (by rw [f]; simp), if_neg (by omega), if_neg (by omega), if_neg, d5, d17, xv 8 n (by omega) hn]
  rw [d13, h12, d17, xv 4 _ (by omega) (by omega)]; simp
def keyW (w d j : Nat) : Nat := if j = w then (j + d) % 18446744073709551616 else j
def fr (w d j : Nat) : List UInt8 := frame (keyW w d j) [UInt8.ofNat j]
def row (w d : Nat) : Nat -> Nat -> List UInt8
  | _, 0 => []
  | i, m + 1 => fr w d i ++ row w d (i + 1) m
end Go.Proofs.Ytbciofnejefkiaa
namespace Go.Proofs.Ytbciofnejefkiaa
open Go Go.Am Go.Proofs
def mI (v : Int) : AV := .raw (.int .i64 v)
abbrev b64 (v : Int) : Prop := -9223372036854775808 <= v /\ v <= 9223372036854775807
structure En where
  id : Nat
  view : Nat
  row : List Int
def En.cells (e : En) : List AV := [.raw (.int .u64 (e.id : Int)), .raw (.int .u64 (e.view : Int)), .sls e.row.length (e.row.map mI)]
structure En.Ok (e : En) : Prop where
  id : e.id < 2 ^ 64
  view : e.view < 2 ^ 64
  row : ∀ v ∈ e.row, b64 v
def encR (l : List Int) : List UInt8 := l.flatMap fun v => encU 10 (zig v)
def encE (e : En) : List UInt8 := encU 10 e.id ++ encU 10 e.view ++ encU 10 e.row.length ++ encR e.row
theorem xa (l : List Int) : (encR l).length <= 11 * l.length := by
  induction l with
  | nil => simp [encR]
  | cons v l ih => have := kf 10 (zig v); simp only [encR, List.flatMap_cons, List.length_append, List.length_cons] at ih ⊢; omega
theorem adb (e : En) : (encE e).length <= 33 + 11 * e.row.length := by
  have h1 := kf 10 e.id; have h2 := kf 10 e.view; have h3 := kf 10 e.row.length; have h4 := xa e.row; simp only [encE, List.length_append]; omega
theorem aqq {l : List Int} {i : Nat} {v : Int} (h : l[i]? = some v) : encR (l.take (i + 1)) = encR (l.take i) ++ encU 10 (zig v) := by
  rw [List.take_add_one, h]; simp [encR]
theorem PutEntry_calls (H : AHeap) (e : En) (ok : e.Ok) (hl : e.row.length <= 100000000) :
    ACalls Try.prog 77 [.agg e.cells] H fun r H' => r = .bys (encE e) /\ H' = H := by
  have h1 := kf 10 e.id; have h2 := kf 10 e.view; have h3 := kf 10 e.row.length; have o1 := ok.id; have o2 := ok.view; refine ej Try.func77 rfl (by decide) ?_
  focus (refine az ?_; refine zb1 rfl rfl rfl (fun oN hoN => ?_); refine bc ?_; refine cj ?_; refine vq ?_; (apply ay; · exact bw ah (U_calls _ _ _ cq cq)); refine vq ?_; (apply ay; · exact bw ah (U_calls _ _ _ cq cq)); (apply ay; · exact gq (v := .bys _) rfl); refine de ?_; refine az ?_; refine ei ?_; refine iu ?_; refine ma ?_; refine eu ?_; refine ae rfl (fu rfl (by omega)) ?_; (refine zc ah (U_calls _ _ _ cq cq) ?_; rintro r H' ⟨rfl, rfl⟩); refine kv ?_; refine aq ?_; refine bq ?_; refine iu ?_; refine ma ?_; refine eu ?_; refine ig ?_)
  refine cv (fun m R' H2 => ∃ (i : Nat) (acc : List UInt8), H2 = H /\ R' = [(3, .bys acc), (19, .sls e.row.length (e.row.map mI)), (20, .raw (.int .i64 (e.row.length : Int))), (21, .raw (.int .i64 (i : Int)))] /\ acc = encU 10 e.id ++ encU 10 e.view ++ encU 10 e.row.length ++ encR (e.row.take i) /\ i + m = e.row.length) ?_ ?_
  · exact ⟨e.row.length, _, _, jt, 0, _, rfl, rfl, by simp [encR], by omega⟩
  rintro m R0 H2 ⟨i, acc, rfl, rfl, hacc, hi⟩; have hle := xa (e.row.take i); rw [List.length_take] at hle; have hal : acc.length <= 33 + 11 * i := by rw [hacc]; simp only [List.length_append]; omega
  by_cases hlt : i < e.row.length
  · have hg : e.row[i]? = some e.row[i] := List.getElem?_eq_getElem hlt
    have hs := aqq hg; generalize e.row[i] = v at *
    focus (refine br ?_; refine ax rfl (fun hc => ?_) (fun hc => ?_); refine ct ?_; refine ic ?_; refine gx ?_; refine bc ?_; refine ca ?_; refine ei ?_; refine an ?_; (refine zc ah (I_calls _ _ _ cq) ?_; rintro r H' ⟨rfl, rfl⟩); refine kv ?_; refine bb ?_; refine dl ?_; rotate_left; exact absurd hc aj)
    exact ⟨m - 1, _, _, by omega, ba, i + 1, _, rfl, rfl, by rw [hs, hacc]; simp, by omega⟩
  obtain rfl : i = e.row.length := by omega
  focus (refine br ?_; refine c8 ?_; intro hc; refine az ?_; refine ei ?_; refine kv ?_; refine dv ?_)
  exact ⟨.inl rfl, _, _, _, Ent.refl _ _, ret1 rfl rfl, by rw [hacc, List.take_length]; rfl, rfl⟩
structure Mg where
  kind : Int
  from_ : Int
  to : Int
  view : Nat
  last : Nat
  op : Nat
  commit : Nat
  ents : List En
  body : List UInt8
def Mg.cells (m : Mg) : List AV := [mI m.kind, mI m.from_, mI m.to, .raw (.int .u64 (m.view : Int)), .raw (.int .u64 (m.last : Int)), .raw (.int .u64 (m.op : Int)), .raw (.int .u64 (m.commit : Int)), .sls m.ents.length (m.ents.flatMap En.cells), .bys m.body]
structure Mg.Ok (m : Mg) : Prop where
  kind : b64 m.kind
  from_ : b64 m.from_
  to : b64 m.to
  view : m.view < 2 ^ 64
  last : m.last < 2 ^ 64
  op : m.op < 2 ^ 64
  commit : m.commit < 2 ^ 64
  ents : ∀ e ∈ m.ents, e.Ok
def jy (l : List Nat) : List UInt8 := l.flatMap fun v => encU 10 v
theorem ap6 {l : List Nat} {i : Nat} {v : Nat} (h : l[i]? = some v) : jy (l.take (i + 1)) = jy (l.take i) ++ encU 10 v := by
  rw [List.take_add_one, h]; simp [jy]
theorem ux (l : List Nat) : (jy l).length <= 11 * l.length := by
  induction l with
  | nil => simp [jy]
  | cons v l ih => have := kf 10 v; simp only [jy, List.flatMap_cons, List.length_append, List.length_cons] at ih ⊢; omega
def enc1 (e : En) : List UInt8 := encU 10 (encE e).length ++ encE e
def cn (l : List En) : List UInt8 := l.flatMap enc1
theorem aau {l : List En} {i : Nat} {v : En} (h : l[i]? = some v) : cn (l.take (i + 1)) = cn (l.take i) ++ enc1 v := by
  rw [List.take_add_one, h]; simp [cn]
theorem alf (l : List En) (i : Nat) : cn l = cn (l.take i) ++ cn (l.drop i) := by
  unfold cn; rw [<- List.flatMap_append, List.take_append_drop]
def textB (m : Mg) : List UInt8 := encR [m.kind, m.from_, m.to] ++ jy [m.view, m.last, m.op, m.commit, m.ents.length] ++ cn m.ents ++ encU 10 m.body.length ++ m.body
theorem oc {l : List En} {i : Nat} {e : En} (h : l[i]? = some e) : ((l.flatMap En.cells).drop (i * 3)).take 3 = e.cells := wh (sz := 3) (f := En.cells) (fun _ => rfl) h
theorem ajk (e : En) : (enc1 e).length <= 44 + 11 * e.row.length := by
  have := kf 10 (encE e).length; have := adb e; simp only [enc1, List.length_append]; omega
theorem adg (l : List En) (i : Nat) : (cn (l.take i)).length <= (cn l).length := by
  rw [alf l i, List.length_append]; omega
theorem apm {l : List En} {i : Nat} {e : En} (h : l[i]? = some e) : (cn (l.take i)).length + (enc1 e).length <= (cn l).length := by
  have := adg l (i + 1); rw [aau h, List.length_append] at this; exact this
theorem aq7 (e : En) : e.row.length <= (enc1 e).length := by
  have : ∀ l : List Int, l.length <= (encR l).length := fun l => by
    induction l with
    | nil => simp
    | cons v l ih => have := aib 10 (zig v); simp only [encR, List.flatMap_cons, List.length_append, List.length_cons] at ih ⊢; omega
  have := this e.row; simp only [enc1, encE, List.length_append]; omega
theorem aj4 (H : AHeap) (m : Mg) (ok : m.Ok) (hl : (cn m.ents).length <= 100000000) (hn : m.ents.length <= 1000000000) (hb : m.body.length <= 1000000000) :
    ACalls Try.prog 50 [.agg m.cells] H fun r H' => r = .bys (textB m) /\ H' = H := by
  have o1 := ok.view; have o2 := ok.last; have o3 := ok.op; have o4 := ok.commit; refine ej Try.func50 rfl (by decide) ?_
  focus (refine az ?_; refine zb4 rfl rfl rfl ?_; refine dk ?_; refine bc ?_; refine sw ?_; refine ez ?_; refine ez ?_; refine kq ?_; refine ae rfl (xo rfl) ?_; refine ig ?_)
  refine cv (fun mm R' H2 => ∃ (i : Nat) (acc : List UInt8), H2 = H /\ R' = [(1, .pce m.cells 0), (3, .bys acc), (16, .sls 3 [mI m.kind, mI m.from_, mI m.to]), (17, .raw (.int .i64 ((3 : Nat) : Int))), (18, .raw (.int .i64 (i : Int)))] /\ acc = encR ([m.kind, m.from_, m.to].take i) /\ i + mm = 3) ?_ ?_
  · exact ⟨3, _, _, xb, 0, [], rfl, rfl, rfl, rfl⟩
  rintro mm R0 H2 ⟨i, acc, rfl, rfl, hacc, hi⟩; have hal := xa ([m.kind, m.from_, m.to].take i); rw [<- hacc, List.length_take] at hal; simp only [List.length_cons, List.length_nil] at hal; obtain rfl | rfl | rfl | rfl : i = 0 \/ i = 1 \/ i = 2 \/ i = 3 := by omega
  iterate 3
    · focus (refine br ?_; refine ax rfl (fun hc => ?_) (fun hc => ?_); refine ct ?_; refine ic ?_; refine gx ?_; refine bc ?_; refine ca ?_; refine ei ?_; refine an ?_; (refine zc ah (I_calls _ _ _ cq) ?_; rintro r H' ⟨rfl, rfl⟩); refine kv ?_; refine bb ?_; refine dl ?_; rotate_left; exact absurd hc aj)
      all_goals first | (exfalso; omega) | exact ⟨mm - 1, _, _, by omega, ba, _, _, rfl, rfl, by rw [hacc]; simp [encR], by omega⟩ | trace_state
  focus (refine br ?_; refine c8 ?_; intro hc; refine sw ?_; refine ez ?_; refine ez ?_; refine ez ?_; refine ez ?_; refine eu ?_; refine ae rfl (fu rfl (by omega)) ?_; refine kq ?_; refine ae rfl (xo rfl) ?_; refine ig ?_)
  all_goals try (exfalso; omega)
  have e0 : acc = encR [m.kind, m.from_, m.to] := hacc; have hal0 : acc.length <= 33 := by simpa using hal
  clear hal hacc; refine cv (fun mm R' H3 => ∃ (i : Nat) (ac2 : List UInt8), H3 = H2 /\ R' = [(1, .pce m.cells 0), (3, .bys ac2), (38, .sls 5 [.raw (.int .u64 (m.view : Int)), .raw (.int .u64 (m.last : Int)), .raw (.int .u64 (m.op : Int)), .raw (.int .u64 (m.commit : Int)), .raw (.int .u64 (m.ents.length : Int))]), (39, .raw (.int .i64 ((5 : Nat) : Int))), (40, .raw (.int .i64 (i : Int)))] /\ ac2 = acc ++ jy ([m.view, m.last, m.op, m.commit, m.ents.length].take i) /\ i + mm = 5) ?_ ?_
  · exact ⟨5, _, _, xb, 0, acc, rfl, rfl, by simp [jy], rfl⟩
  rintro mm R0 H3 ⟨i, ac2, rfl, rfl, hac2, hi⟩; have hal := ux ([m.view, m.last, m.op, m.commit, m.ents.length].take i); have hal2 : ac2.length = acc.length + (jy ([m.view, m.last, m.op, m.commit, m.ents.length].take i)).length := by rw [hac2, List.length_append]
  rw [List.length_take] at hal; simp only [List.length_cons, List.length_nil] at hal; obtain rfl | rfl | rfl | rfl | rfl | rfl : i = 0 \/ i = 1 \/ i = 2 \/ i = 3 \/ i = 4 \/ i = 5 := by omega
  iterate 5
    · focus (refine br ?_; refine ax rfl (fun hc => ?_) (fun hc => ?_); refine ct ?_; refine ic ?_; refine gx ?_; refine bc ?_; refine ca ?_; refine ei ?_; refine an ?_; (refine zc ah (U_calls _ _ _ cq cq) ?_; rintro r H' ⟨rfl, rfl⟩); refine kv ?_; refine bb ?_; refine dl ?_; rotate_left; exact absurd hc aj)
      all_goals first | (exfalso; omega) | exact ⟨mm - 1, _, _, by omega, ba, _, _, rfl, rfl, by rw [hac2]; simp [jy], by omega⟩ | trace_state
  focus (refine br ?_; refine c8 ?_; intro hc; refine sw ?_; refine eu ?_; refine ig ?_)
  all_goals try (exfalso; omega)
  have e1 : ac2 = acc ++ jy [m.view, m.last, m.op, m.commit, m.ents.length] := hac2; have hal3 : ac2.length <= 33 + 55 := by omega
  clear hal hal2 hac2; refine cv (fun mm R' H4 => ∃ (i : Nat) (ac3 : List UInt8), H4 = H3 /\ R' = [(1, .pce m.cells 0), (3, .bys ac3), (49, .sls m.ents.length (m.ents.flatMap En.cells)), (50, .raw (.int .i64 (m.ents.length : Int))), (51, .raw (.int .i64 (i : Int)))] /\ ac3 = ac2 ++ cn (m.ents.take i) /\ i + mm = m.ents.length) ?_ ?_
  · exact ⟨m.ents.length, _, _, xb, 0, ac2, rfl, rfl, by simp [cn], by omega⟩
  rintro mm R0 H4 ⟨i, ac3, rfl, rfl, hac3, hi⟩; have hal : ac3.length = ac2.length + (cn (m.ents.take i)).length := by rw [hac3, List.length_append]
  have htk := adg m.ents i; by_cases hlt : i < m.ents.length
  · have hg : m.ents[i]? = some m.ents[i] := List.getElem?_eq_getElem hlt
    have oke := ok.ents _ (List.getElem_mem hlt); have hs := aau hg; have hat := apm hg; have hge := oc hg; generalize m.ents[i] = e at *; have hrow := aq7 e; have hel : (encE e).length <= (enc1 e).length := by simp only [enc1, List.length_append]; omega
    focus (refine br ?_; refine ax rfl (fun hc => ?_) (fun hc => ?_); refine ct ?_; refine ic ?_; refine nk ?_; refine cz rfl rfl rfl (fun oN hoN => ?_); refine jo ?_; refine aq ?_; refine ca ?_; refine ei ?_; refine ip ?_; (refine zc ah (PutEntry_calls _ e oke (by omega)) ?_; rintro r H' ⟨rfl, rfl⟩); refine ae rfl (wu rfl dc v9) ?_; (refine zc ah (S_calls _ _ _ cq cq) ?_; rintro r H' ⟨rfl, rfl⟩); refine kv ?_; refine bb ?_; refine dl ?_; rotate_left; exact absurd hc aj)
    all_goals first
      | (exfalso; omega)
      | exact ⟨mm - 1, _, _, by omega, ba, i + 1, _, rfl, rfl, by rw [hs, hac3]; simp [enc1], by omega⟩
      | trace_state
  obtain rfl : i = m.ents.length := by omega
  have e2 : ac3 = ac2 ++ cn m.ents := by rw [hac3, List.take_length]
  focus (refine br ?_; refine c8 ?_; intro hc; refine az ?_; refine ei ?_; refine ez ?_; refine ae rfl (wu rfl dc v9) ?_; (refine zc ah (S_calls _ _ _ cq cq) ?_; rintro r H' ⟨rfl, rfl⟩); refine kv ?_; refine dv ?_)
  all_goals first
    | (exfalso; omega)
    | exact ⟨.inl rfl, _, _, _, Ent.refl _ _, ret1 rfl rfl, by rw [e2, e1, e0]; rfl, rfl⟩
    | trace_state
end Go.Proofs.Ytbciofnejefkiaa
namespace Go.Proofs.Ytbciofnejefkiaa
open Go Go.Am Go.Proofs
theorem aa6 (H : AHeap) (n a b : Int) : ACalls Try.prog 73 [mI n, mI a, mI b] H fun r H' => r = .raw (.bool (decide (a <= n /\ n <= b))) /\ H' = H := by
  refine lz Try.func73 rfl (by decide) ?_
  focus (refine f0 ?_; refine an ?_; refine an ?_; refine ae rfl (ky rfl rfl) ?_; refine an ?_; refine zg1 rfl rfl rfl (fun hc => ?_) (fun hc => ?_); refine ep ?_; refine ep ?_; refine ae rfl (ahe rfl rfl) ?_; refine bu ?_; refine bn ?_; rotate_left; refine gp ?_; refine cd ?_; refine bn ?_; rotate_left)
  · exact ⟨.inl rfl, _, _, _, Ent.refl _ _, ret1 rfl rfl, by rw [decide_eq_decide.2 (show (a <= n /\ n <= b) ↔ n <= b from ⟨fun h => h.2, fun h => ⟨hc, h⟩⟩)]; rfl, rfl⟩
  · exact ⟨.inl rfl, _, _, _, Ent.refl _ _, ret1 rfl rfl, by rw [decide_eq_false (show ¬ (a <= n /\ n <= b) from fun h => hc h.1)]; rfl, rfl⟩
theorem alo (H : AHeap) (e : En) : ACalls Try.prog 72 [.agg e.cells] H fun r H' => r = .raw (.bool (decide (64 < e.row.length))) /\ H' = H := by
  refine ej Try.func72 rfl (by decide) ?_
  focus (refine az ?_; refine zb4 rfl rfl rfl ?_; refine dk ?_; refine ez ?_; refine eu ?_; refine dw ?_; refine bn ?_)
  exact ⟨.inl rfl, _, _, _, Ent.refl _ _, ret1 rfl rfl, rfl, rfl⟩
def wide (l : List En) : Bool := l.any fun e => decide (64 < e.row.length)
theorem aml {l : List En} {i : Nat} {e : En} (h : l[i]? = some e) : wide (l.take (i + 1)) = (wide (l.take i) || decide (64 < e.row.length)) := by
  rw [List.take_add_one, h]; simp [wide]
theorem afm {l : List En} {e : En} (h : e ∈ l) (hw : 64 < e.row.length) : wide l = true := List.any_eq_true.2 ⟨e, h, decide_eq_true hw⟩
theorem Index_calls (H : AHeap) (l : List En) (hl : l.length <= 1000000000) : ACalls Try.prog 86 [.sls l.length (l.flatMap En.cells), .fnc (.func 72) [] []] H fun r H' => (∃ k : Int, r = mI k /\ decide (0 <= k) = wide l) /\ H' = H := by
  refine gm Try.func86 rfl (by decide) ?_
  focus (refine az ?_; refine bc ?_; refine bq ?_; refine ey ?_; refine ig ?_)
  refine cv (fun mm R' H2 => ∃ (i : Nat), H2 = H /\ R' = [(0, .sls l.length (l.flatMap En.cells)), (1, .fnc (.func 72) [] []), (7, .raw (.int .i64 (l.length : Int))), (8, .raw (.int .i64 (i : Int)))] /\ wide (l.take i) = false /\ i + mm = l.length) ?_ ?_
  · exact ⟨l.length, _, _, ba, 0, rfl, rfl, rfl, by omega⟩
  rintro mm R0 H2 ⟨i, rfl, rfl, hw, hi⟩; by_cases hlt : i < l.length
  · have hg : l[i]? = some l[i] := List.getElem?_eq_getElem hlt
    have hm := List.getElem_mem hlt; have hs := aml hg; have hge := oc hg; generalize l[i] = e at *
    focus (refine br ?_; refine ax rfl (fun hc => ?_) (fun hc => ?_); refine ct ?_; refine an ?_; refine dk ?_; refine rj ?_; refine dt ?_; refine an ?_; refine ic ?_; refine nk ?_; (((refine zu rfl rfl ah (alo _ e) (fun r H' hpost => ?_); obtain ⟨rfl, rfl⟩ := hpost))); refine aq ?_; refine ax rfl (fun hc => ?_) (fun hc => ?_); refine gn ?_; refine bn ?_; refine j9 ?_; refine fi ?_; rotate_left; refine di ?_; refine dl ?_; rotate_left; exact absurd hc aj)
    all_goals first
      | (exfalso; omega)
      | exact ⟨.inl rfl, _, _, _, Ent.refl _ _, ret1 rfl rfl, ⟨_, rfl, by rw [afm hm hc]; exact decide_eq_true (by omega)⟩, rfl⟩
      | exact ⟨mm - 1, _, _, by omega, ba, i + 1, rfl, rfl, by rw [hs, hw, decide_eq_false hc]; rfl, by omega⟩
      | trace_state
  obtain rfl : i = l.length := by omega
  rw [List.take_length] at hw
  focus (refine br ?_; refine c8 ?_; intro hc; refine cp ?_)
  all_goals first
    | (exfalso; omega)
    | exact ⟨.inl rfl, _, _, _, Ent.refl _ _, ret1 rfl rfl, ⟨-1, rfl, by rw [hw]; rfl⟩, rfl⟩
    | trace_state
theorem Contains_calls (H : AHeap) (l : List En) (hl : l.length <= 1000000000) : ACalls Try.prog 67 [.sls l.length (l.flatMap En.cells), .fnc (.func 72) [] []] H fun r H' => r = .raw (.bool (wide l)) /\ H' = H := by
  refine gm Try.func67 rfl (by decide) ?_
  focus (refine f0 ?_; refine dt ?_; refine rj ?_; (refine zc ah (Index_calls _ l hl) ?_; rintro r H' ⟨⟨k, rfl, hk⟩, rfl⟩); refine ae rfl (ky rfl rfl) ?_; refine bn ?_)
  exact ⟨.inl rfl, _, _, _, Ent.refl _ _, ret1 rfl rfl, by rw [<- hk]; rfl, rfl⟩
def Mg.plain (m : Mg) : Prop := (1 <= m.kind /\ m.kind <= 99) /\ (0 <= m.from_ /\ m.from_ <= 6) /\ (0 <= m.to /\ m.to <= 6) /\ m.ents.length <= 200 /\ m.body.length <= 40000 /\ wide m.ents = false
instance (m : Mg) : Decidable m.plain := by unfold Mg.plain; infer_instance
theorem ahm (H : AHeap) (m : Mg) (hl : m.ents.length <= 1000000000) (hb : m.body.length <= 1000000000) : ACalls Try.prog 49 [.agg m.cells] H fun r H' => r = .raw (.bool (decide m.plain)) /\ H' = H := by
  refine ej Try.func49 rfl (by decide) ?_
  focus (refine az ?_; refine zb4 rfl rfl rfl ?_; refine dk ?_; refine ae rfl (gq (v := .fnc _ _ _) rfl) ?_; refine il ?_; refine ez ?_; (refine zc ah (aa6 _ _ _ _) ?_; rintro r H' ⟨rfl, rfl⟩); refine an ?_; refine zg1 rfl rfl rfl (fun hc => ?_) (fun hc => ?_); refine ko ?_; refine a0 ?_; refine gx ?_; refine a0 ?_; (refine zc ah (aa6 _ _ _ _) ?_; rintro r H' ⟨rfl, rfl⟩); refine bu ?_; refine an ?_; refine zg1 rfl rfl rfl (fun hc => ?_) (fun hc => ?_); refine ko ?_; refine a0 ?_; refine gx ?_; refine a0 ?_; (refine zc ah (aa6 _ _ _ _) ?_; rintro r H' ⟨rfl, rfl⟩); refine bu ?_; refine an ?_; refine zg1 rfl rfl rfl (fun hc => ?_) (fun hc => ?_); refine ko ?_; refine a0 ?_; refine gx ?_; refine a0 ?_; refine eu ?_; refine a0 ?_; refine ae rfl (mt rfl rfl) ?_; refine bu ?_; refine an ?_; refine zg1 rfl rfl rfl (fun hc => ?_) (fun hc => ?_); refine ko ?_; refine a0 ?_; refine gx ?_; refine a0 ?_; refine mh ?_; refine a0 ?_; refine ae rfl (mt rfl rfl) ?_; refine bu ?_; refine an ?_; refine zg1 rfl rfl rfl (fun hc => ?_) (fun hc => ?_); refine ko ?_; refine a0 ?_; refine gx ?_; refine a0 ?_; refine rj ?_; refine a0 ?_; (refine zc ah (Contains_calls _ m.ents hl) ?_; rintro r H' ⟨rfl, rfl⟩); refine a0 ?_; refine ea ?_; refine bu ?_; refine bn ?_; rotate_left; refine dp ?_; refine cd ?_; refine bn ?_; rotate_left; refine gp ?_; refine fb ?_; refine jv ?_; refine dp ?_; refine fb ?_; refine cd ?_; refine bn ?_; rotate_left; refine gp ?_; refine fb ?_; refine jv ?_; refine dp ?_; refine jv ?_; refine dp ?_; refine fb ?_; refine cd ?_; refine bn ?_; rotate_left; refine gp ?_; refine jv ?_; refine dp ?_; refine jv ?_; refine dp ?_; refine jv ?_; refine dp ?_; refine fb ?_; refine cd ?_; refine bn ?_; rotate_left; refine gp ?_; refine jv ?_; refine gp ?_; refine fb ?_; refine jv ?_; refine dp ?_; refine jv ?_; refine dp ?_; refine jv ?_; refine dp ?_; refine fb ?_; refine cd ?_; refine bn ?_; rotate_left)
  · have e : decide m.plain = !wide m.ents := by
      rw [Bool.eq_iff_iff, decide_eq_true_iff]; unfold Mg.plain; simp_all
    exact ⟨.inl rfl, _, _, _, Ent.refl _ _, ret1 rfl rfl, by rw [e]; rfl, rfl⟩
  all_goals
    (have e : decide m.plain = false := by
      rw [decide_eq_false_iff_not]; unfold Mg.plain; intro h; simp_all
     exact ⟨.inl rfl, _, _, _, Ent.refl _ _, ret1 rfl rfl, by rw [e]; rfl, rfl⟩)
theorem ahi {l : List En} (h : wide l = false) {e : En} (he : e ∈ l) : e.row.length <= 64 := by
  refine Nat.le_of_not_lt fun hw => ?_
  rw [afm he hw] at h; cases h
theorem aiu : ∀ (l : List En), wide l = false -> (cn l).length <= 748 * l.length
  | [], _ => by simp [cn]
  | e :: l, h => by
    have h1 := ahi h (List.mem_cons_self); have h2 := aiu l (by simp only [wide, List.any_cons, Bool.or_eq_false_iff] at h; exact h.2)
    have h3 := ajk e; show ((e :: l).flatMap enc1).length <= _
    rw [List.flatMap_cons, List.length_append, List.length_cons]; have h4 : (l.flatMap enc1).length <= 748 * l.length := h2; omega
def Mg.good (m : Mg) : Prop := m.plain /\ (textB m).length <= 60000
instance (m : Mg) : Decidable m.good := by unfold Mg.good; infer_instance
theorem zv {m : Mg} (h : m.plain) : (cn m.ents).length <= 149600 := by
  have := aiu _ h.2.2.2.2.2; have := h.2.2.2.1; omega
theorem Good_calls (H : AHeap) (m : Mg) (ok : m.Ok) (hl : m.ents.length <= 1000000000) (hb : m.body.length <= 1000000000) : ACalls Try.prog 25 [.agg m.cells] H fun r H' => r = .raw (.bool (decide m.good)) /\ H' = H := by
  by_cases hp : m.plain
  · have hT := fun H => aj4 H m ok (by have := zv hp; omega) hl hb
    have hP := fun H => ahm H m hl hb
    rw [decide_eq_true hp] at hP; have e : decide m.good = decide ((textB m).length <= 60000) := decide_eq_decide.2 ⟨fun h => h.2, fun h => ⟨hp, h⟩⟩
    have htl : (textB m).length <= 2000000000 := by
      have h1 := zv hp; have h2 := xa [m.kind, m.from_, m.to]; have h3 := ux [m.view, m.last, m.op, m.commit, m.ents.length]; have h4 := kf 10 m.body.length; simp only [textB, List.length_append, List.length_cons, List.length_nil] at h2 h3 ⊢; omega
    refine ej Try.func25 rfl (by decide) ?_
    focus (refine az ?_; refine zb4 rfl rfl rfl ?_; refine dk ?_; refine ip ?_; (refine zc ah (hP _) ?_; rintro r H' ⟨rfl, rfl⟩); refine ep ?_; refine ip ?_; refine a0 ?_; (refine zc ah (hT _) ?_; rintro r H' ⟨rfl, rfl⟩); refine a0 ?_; refine mh ?_; refine a0 ?_; refine ae rfl (mt rfl rfl) ?_; refine bu ?_; refine bn ?_)
    exact ⟨.inl rfl, _, _, _, Ent.refl _ _, ret1 rfl rfl, by rw [e]; rfl, rfl⟩
  · have hP := fun H => ahm H m hl hb
    rw [decide_eq_false hp] at hP; have e : decide m.good = false := decide_eq_false fun h => hp h.1
    refine ej Try.func25 rfl (by decide) ?_
    focus (refine az ?_; refine zb4 rfl rfl rfl ?_; refine dk ?_; refine ip ?_; (refine zc ah (hP _) ?_; rintro r H' ⟨rfl, rfl⟩); refine an ?_; refine dp ?_; refine cd ?_; refine bn ?_)
    exact ⟨.inl rfl, _, _, _, Ent.refl _ _, ret1 rfl rfl, by rw [e]; rfl, rfl⟩
def putB (m : Mg) : List UInt8 := if m.good then frame 0 (textB m) else []
theorem Put_calls (H : AHeap) (m : Mg) (ok : m.Ok) (hl : m.ents.length <= 1000000000) (hb : m.body.length <= 1000000000) : ACalls Try.prog 70 [.agg m.cells] H fun r H' => r = .bys (putB m) /\ H' = H := by
  have hG := fun H => Good_calls H m ok hl hb
  by_cases hp : m.good
  · have hT := fun H => aj4 H m ok (by have := zv hp.1; omega) hl hb
    rw [decide_eq_true hp] at hG; refine ej Try.func70 rfl (by decide) ?_
    focus (refine az ?_; refine zb4 rfl rfl rfl ?_; refine bc ?_; refine bq ?_; refine ip ?_; (refine zc ah (hG _) ?_; rintro r H' ⟨rfl, rfl⟩); refine ea ?_; refine fm ?_; refine cy ?_; refine az ?_; refine ip ?_; (refine zc ah (hT _) ?_; rintro r H' ⟨rfl, rfl⟩); (refine zc ah (Frame_ok _ 0 _ (by decide) hp.2) ?_; rintro r H' ⟨rfl, rfl⟩); refine kv ?_; refine dv ?_)
    exact ⟨.inl rfl, _, _, _, Ent.refl _ _, ret1 rfl rfl, by rw [putB, if_pos hp]; rfl, rfl⟩
  · rw [decide_eq_false hp] at hG
    refine ej Try.func70 rfl (by decide) ?_
    focus (refine az ?_; refine zb4 rfl rfl rfl ?_; refine bc ?_; refine bq ?_; refine ip ?_; (refine zc ah (hG _) ?_; rintro r H' ⟨rfl, rfl⟩); refine ea ?_; refine gy ?_; refine cp ?_; refine db ?_)
    exact ⟨.inl rfl, _, _, _, Ent.weakReg 2 rfl (W.nilb rfl), ret1 rfl rfl, by rw [putB, if_neg hp]; rfl, rfl⟩
end Go.Proofs.Ytbciofnejefkiaa
namespace Go.Proofs.Ytbciofnejefkiaa
namespace Ag
structure Vt where
  last : Nat
  list : List En
structure Co where
  me : Nat
  n : Nat
  view : Nat
  last : Nat
  list : List En
  agreed : Nat
  lead : Bool
  quiet : Nat
  got : Nat -> Option Vt
  held : Nat -> Option Nat
  wait : List En
structure Rd where
  kind : Nat
  view : Nat
  last : Nat
  agreed : Nat
  list : List En
structure St where
  c : Co
  save : List Rd
  send : List Mg
def Co.new (me n : Nat) : Co := ⟨me, n, 0, 0, [], 0, false, 0, fun _ => none, fun _ => none, []⟩
def Co.follow (c : Co) : Co := { c with lead := false, quiet := 0, got := fun _ => none, held := fun _ => none }
def Co.quorum (c : Co) : Nat := c.n / 2 + 1
def Co.size (c : Co) : Nat := (List.range c.n).countP fun r => (c.got r).isSome
def sameE (a b : En) : Bool := decide (a.id = b.id) && decide (a.row = b.row)
def eqL : List En -> List En -> Bool
  | [], [] => true
  | a :: l, b :: k => sameE a b && eqL l k
  | _, _ => false
def begins (l w : List En) : Bool := decide (w.length <= l.length) && eqL (l.take w.length) w
def may (e : En) : Bool := decide (0 < e.id) && decide (e.row.length <= 16)
def hasId (l : List En) (i : Nat) : Bool := l.any fun e => decide (e.id = i)
def uniq : List En -> Bool
  | [] => true
  | e :: l => !hasId l e.id && uniq l
def listed (l : List En) : Bool := l.all may && uniq l && decide (l.length <= 200)
def upd {α : Type} (f : Nat -> α) (i : Nat) (a : α) : Nat -> α := fun j => if j = i then a else f j
def msg0 (k to : Int) : Mg := ⟨k, 0, to, 0, 0, 0, 0, [], []⟩
def St.out (s : St) (m : Mg) : St := if m.to = (s.c.me : Int) then s else { s with send := s.send ++ [{ m with from_ := (s.c.me : Int), view := s.c.view }] }
def St.tell (s : St) (m : Mg) : St := (List.range s.c.n).foldl (fun (s : St) (to : Nat) => s.out { m with to := (to : Int) }) s
def St.put (s : St) (k v : Nat) (l : List En) : St := { s with save := s.save ++ [⟨k, v, 0, 0, l⟩] }
def St.promise (s : St) (v : Nat) : St := St.put { s with c := { s.c with view := v }.follow } 1 v []
def St.take (s : St) (v : Nat) (l : List En) : St :=
  let s' := if s.c.last = v /\ begins l s.c.list = true then (if s.c.list.length < l.length then s.put 3 0 (l.drop s.c.list.length) else s) else s.put 2 v l
  { s' with c := { s'.c with last := v, list := l } }
def ins (x : Nat) : List Nat -> List Nat
  | [] => [x]
  | y :: l => if x <= y then x :: y :: l else y :: ins x l
def sort (l : List Nat) : List Nat := l.foldr ins []
def Co.helds (c : Co) : List Nat := (List.range c.n).filterMap c.held
def Co.settle (c : Co) : Co :=
  let c := { c with held := upd c.held c.me (some c.list.length) }
  if c.helds.length < c.quorum then c
  else { c with agreed := max c.agreed (min ((sort c.helds).getD (c.helds.length - c.quorum) 0) c.list.length) }
def layM (c : Co) (to : Nat) : Mg :=
  let m : Mg := { msg0 6 (to : Int) with op := c.list.length, commit := c.agreed }
  match c.held to with
  | some h => if h < c.list.length then { m with kind := 4, ents := c.list } else m
  | none => { m with kind := 4, ents := c.list }
def St.lay (s : St) : St := (List.range s.c.n).foldl (fun (s : St) (to : Nat) => s.out (layM s.c to)) s
def grown (l w : List En) : List En := w.foldl (fun l e => if l.length < 200 /\ hasId l e.id = false then l ++ [e] else l) l
def St.grow (s : St) : St :=
  let l := grown s.c.list s.c.wait
  let s := { s with c := { s.c with wait := [] } }
  let s := if s.c.list.length < l.length then s.take s.c.view l else s
  St.lay { s with c := s.c.settle }
def better (c : Co) (b : Vt) (r : Nat) : Vt :=
  match c.got r with
  | some x => if (b.last < x.last \/ x.last = b.last /\ b.list.length < x.list.length) /\ begins x.list (c.list.take c.agreed) = true then x else b
  | none => b
def Co.best (c : Co) : Vt := (List.range c.n).foldl (better c) ⟨c.last, c.list⟩
def St.won (s : St) : St :=
  if (s.c.got s.c.me).isNone \/ s.c.size < s.c.quorum then s else
  let s := s.take s.c.view s.c.best.list
  St.grow { s with c := { s.c with lead := true, got := fun _ => none } }
def St.count (s : St) (r : Nat) (v : Vt) : St :=
  if s.c.lead then s else St.won { s with c := { s.c with got := upd s.c.got r (some v) } }
def St.vote (s : St) : St :=
  let to := s.c.view % s.c.n
  if to = s.c.me then s.count s.c.me ⟨s.c.last, s.c.list⟩
  else s.out { msg0 3 (to : Int) with last := s.c.last, ents := s.c.list }
def mostView : Nat := 1099511627776
def St.begin (s : St) : St :=
  if s.c.view < mostView then ((s.promise (s.c.view + 1)).tell (msg0 2 0)).vote else s
def Co.wanted (c : Co) (e : En) : Co × Bool :=
  if may e = false \/ hasId c.list e.id = true \/ hasId c.wait e.id = true then (c, false)
  else ({ c with wait := (if c.wait.length = 200 then c.wait.drop 1 else c.wait) ++ [e] }, c.lead)
def St.want (s : St) (e : En) : St :=
  let x := s.c.wanted e
  let s := { s with c := x.1 }
  if x.2 then s.grow else s
def Co.submit (c : Co) (id : Nat) (row : List Int) : St :=
  let s : St := ⟨c, [], []⟩
  let e : En := ⟨id, 0, row⟩
  let s := if c.n = 1 /\ c.lead = false then s.begin else s
  let x := s.c.wanted e
  let s := { s with c := x.1 }
  if x.2 then s.grow
  else if may e = true /\ s.c.lead = false /\ hasId s.c.list id = false then s.out { msg0 1 ((s.c.view % s.c.n : Nat) : Int) with ents := [e] }
  else s
def St.fin (s : St) (m : Mg) : St := if s.c.last = m.view then { s with c := { s.c with agreed := max s.c.agreed (min m.commit s.c.list.length) } } else s
def St.hold (s : St) (m : Mg) : St := St.fin (s.out { msg0 5 m.from_ with op := s.c.list.length }) m
def St.heard (s : St) (m : Mg) : St :=
  if m.kind = 4 then
    if begins m.ents (s.c.list.take s.c.agreed) = false then s
    else (if s.c.last < m.view \/ s.c.list.length < m.ents.length then s.take m.view m.ents else s).hold m
  else s.fin m
def St.hear (s : St) (m : Mg) : St := St.heard { s with c := { s.c with quiet := 0 } } m
def Co.odd (c : Co) (m : Mg) : Prop := ¬ m.good \/ m.to ≠ (c.me : Int) \/ m.from_ = (c.me : Int) \/ (c.n : Int) <= m.from_ \/ mostView < m.view \/ listed m.ents = false
open Classical in
noncomputable def Co.get (c : Co) (m : Mg) : St :=
  let s : St := ⟨c, [], []⟩
  if c.odd m then s
  else if m.kind = 1 then m.ents.foldl St.want s
  else
    let s := if c.view < m.view then (s.promise m.view).vote else s
    if m.view < s.c.view then s
    else if m.kind = 3 then (if s.c.view % s.c.n = s.c.me /\ m.last <= m.view then s.count m.from_.toNat ⟨m.last, m.ents⟩ else s)
    else if m.kind = 5 then
      (if s.c.lead then { s with c := Co.settle { s.c with held := upd s.c.held m.from_.toNat (some (max ((s.c.held m.from_.toNat).getD 0) m.op)) } } else s)
    else if m.kind = 4 \/ m.kind = 6 then (if m.from_ = ((s.c.view % s.c.n : Nat) : Int) then s.hear m else s)
    else s
def Co.tick (c : Co) : St :=
  let s : St := ⟨c, [], []⟩
  if c.lead then s.grow else
  let s := { s with c := { c with quiet := c.quiet + 1 } }
  if 12 <= s.c.quiet \/ c.n = 1 then s.begin
  else if s.c.quiet % 4 = 0 then s.vote
  else s
def Rd.ok (x : Rd) : Prop := x.view <= mostView /\ x.last <= x.view /\ listed x.list = true
instance (x : Rd) : Decidable x.ok := by unfold Rd.ok; infer_instance
def Co.apply (c : Co) (x : Rd) : Option Co :=
  if x.kind = 1 then (if x.view < c.view \/ x.list ≠ [] then none else some { c with view := x.view })
  else if x.kind = 2 then (if x.view < c.view \/ x.view < c.last \/ begins x.list (c.list.take c.agreed) = false then none else some { c with view := x.view, last := x.view, list := x.list })
  else if x.kind = 3 then (if listed (c.list ++ x.list) = true then some { c with list := c.list ++ x.list } else none)
  else if x.kind = 4 then (if x.list.length < x.agreed then none else some { c with view := x.view, last := x.last, agreed := x.agreed, list := x.list })
  else none
def Co.replay : Co -> List Rd -> Option Co
  | c, [] => some c
  | c, x :: l => if x.ok then (c.apply x).bind fun c => c.replay l else none
def open_ (me n : Nat) (l : List Rd) : Option Co := ((Co.new me n).replay l).map fun c => if n = 1 then { c with agreed := c.list.length } else c
structure Act where
  op : Int
  r : Int
  k : Int
  id : Nat
  row : List Int
structure W where
  n : Nat
  c : Nat -> Co
  saved : Nat -> List Rd
  cut : Nat -> Option Nat
  l : List Mg
  ids : List (Nat × List Int)
  best : List En
def toldL (ids : List (Nat × List Int)) : List En -> List En -> List En -> Option (List En)
  | _, [], best => some best
  | pre, e :: l, best =>
    match best[pre.length]? with
    | some b => if e.id ≠ b.id \/ e.row ≠ b.row then none else toldL ids (pre ++ [e]) l best
    | none => if (ids.any fun x => decide (x.1 = e.id /\ x.2 = e.row)) = true /\ hasId pre e.id = false then toldL ids (pre ++ [e]) l (best ++ [e]) else none
def W.told (w : W) (r : Nat) : Option W :=
  let l := (w.c r).list.take (w.c r).agreed
  (toldL w.ids [] l w.best).bind fun b => if l.length <= 200 then some { w with best := b } else none
def W.opened (w : W) (r : Nat) : Option W := (open_ r w.n (w.saved r)).map fun c => { w with c := upd w.c r c }
def fits (r n : Nat) (m : Mg) : Prop := m.good /\ m.from_ = (r : Int) /\ m.to ≠ (r : Int) /\ 0 <= m.to /\ m.to < (n : Int)
def addL (l : List Mg) (m : Mg) : List Mg := if l.length < 4000 then l ++ [m] else l
open Classical in
noncomputable def W.step (w : W) (r : Nat) (s : St) : Option W :=
  let w := { w with c := upd w.c r s.c }
  match w.cut r with
  | some k =>
    let w := { w with cut := upd w.cut r none, saved := upd w.saved r (w.saved r ++ s.save.take k) }
    (w.opened r).bind fun w => w.told r
  | none =>
    let w := { w with saved := upd w.saved r (w.saved r ++ s.save) }
    if (∀ m ∈ s.send, fits r w.n m) then W.told { w with l := s.send.foldl addL w.l } r else none
def W.there (w : W) (a : Act) : Prop := 0 <= a.r /\ a.r < (w.n : Int)
instance (w : W) (a : Act) : Decidable (w.there a) := by unfold W.there; infer_instance
def W.packet (w : W) (a : Act) : Prop := 0 <= a.k /\ a.k < (w.l.length : Int)
instance (w : W) (a : Act) : Decidable (w.packet a) := by unfold W.packet; infer_instance
def W.out (w : W) (k : Nat) : W := { w with l := w.l.take k ++ w.l.drop (k + 1) }
noncomputable def W.act (w : W) (a : Act) : Option W :=
  if a.op = 0 then
    if w.there a then
      W.step (if 0 < a.id /\ a.row.length <= 16 then { w with ids := w.ids ++ [(a.id, a.row)] } else w) a.r.toNat ((w.c a.r.toNat).submit a.id a.row)
    else some w
  else if a.op = 1 then (if w.there a then w.step a.r.toNat (w.c a.r.toNat).tick else some w)
  else if a.op = 2 then
    match (if w.packet a then w.l[a.k.toNat]? else none) with
    | some m => (w.out a.k.toNat).step m.to.toNat ((w.c m.to.toNat).get m)
    | none => some w
  else if a.op = 3 then (if w.packet a then some (w.out a.k.toNat) else some w)
  else if a.op = 4 then
    match (if w.packet a then w.l[a.k.toNat]? else none) with
    | some m => some (if w.l.length < 4000 then { w with l := w.l ++ [m] } else w)
    | none => some w
  else if a.op = 5 then (if w.there a then (w.opened a.r.toNat).bind fun w => w.told a.r.toNat else some w)
  else if a.op = 6 then some (if w.there a /\ 0 <= a.k then { w with cut := upd w.cut a.r.toNat (some a.k.toNat) } else w)
  else some w
def W.begun (n : Nat) : W := ⟨n, fun r => Co.new r n, fun _ => [], fun _ => none, [], [], []⟩
end Ag
end Go.Proofs.Ytbciofnejefkiaa
namespace Go.Proofs.Ytbciofnejefkiaa
open Go Go.Am Go.Proofs
abbrev lsE (l : List En) : AV := .sls l.length (l.flatMap En.cells)
abbrev uI (v : Nat) : AV := .raw (.int .u64 (v : Int))
abbrev bB (b : Bool) : AV := .raw (.bool b)
theorem aqm (H : AHeap) (e : En) (i : Nat) : ACalls Try.prog 68 [.agg e.cells, .pce [uI i] 0] H fun r H' => r = bB (decide (e.id = i)) /\ H' = H := by
  refine gm Try.func68 rfl (by decide) ?_
  focus (refine az ?_; refine zb4 rfl rfl rfl ?_; refine dk ?_; refine ez ?_; refine gx ?_; refine fh ?_; refine bn ?_)
  exact ⟨.inl rfl, _, _, _, Ent.refl _ _, ret1 rfl rfl, rfl, rfl⟩
theorem apj {l : List En} {i k : Nat} {e : En} (h : l[i]? = some e) : Ag.hasId (l.take (i + 1)) k = (Ag.hasId (l.take i) k || decide (e.id = k)) := by
  rw [List.take_add_one, h]; simp [Ag.hasId]
theorem ag9 {l : List En} {e : En} {k : Nat} (h : e ∈ l) (hw : e.id = k) : Ag.hasId l k = true := List.any_eq_true.2 ⟨e, h, decide_eq_true hw⟩
theorem IndexH_calls (H : AHeap) (l : List En) (q : Nat) (hl : l.length <= 1000000000) : ACalls Try.prog 86 [lsE l, .fnc (.func 68) [] [.pce [uI q] 0]] H fun r H' => (∃ k : Int, r = mI k /\ decide (0 <= k) = Ag.hasId l q) /\ H' = H := by
  refine gm Try.func86 rfl (by decide) ?_
  focus (refine az ?_; refine bc ?_; refine bq ?_; refine ey ?_; refine ig ?_)
  refine cv (fun mm R' H2 => ∃ (i : Nat), H2 = H /\ R' = [(0, lsE l), (1, .fnc (.func 68) [] [.pce [uI q] 0]), (7, .raw (.int .i64 (l.length : Int))), (8, .raw (.int .i64 (i : Int)))] /\ Ag.hasId (l.take i) q = false /\ i + mm = l.length) ?_ ?_
  · exact ⟨l.length, _, _, ba, 0, rfl, rfl, rfl, by omega⟩
  rintro mm R0 H2 ⟨i, rfl, rfl, hw, hi⟩; by_cases hlt : i < l.length
  · have hg : l[i]? = some l[i] := List.getElem?_eq_getElem hlt
    have hm := List.getElem_mem hlt; have hs := apj (k := q) hg; have hge := oc hg; generalize l[i] = e at *
    focus (refine br ?_; refine ax rfl (fun hc => ?_) (fun hc => ?_); refine ct ?_; refine an ?_; refine dk ?_; refine rj ?_; refine dt ?_; refine an ?_; refine ic ?_; refine nk ?_; (((refine zu rfl rfl ah (aqm _ e q) (fun r H' hpost => ?_); obtain ⟨rfl, rfl⟩ := hpost))); refine aq ?_; refine ax rfl (fun hc => ?_) (fun hc => ?_); refine gn ?_; refine bn ?_; refine j9 ?_; refine fi ?_; rotate_left; refine di ?_; refine dl ?_; rotate_left; exact absurd hc aj)
    all_goals first
      | (exfalso; omega)
      | exact ⟨.inl rfl, _, _, _, Ent.refl _ _, ret1 rfl rfl, ⟨_, rfl, by rw [ag9 hm hc]; exact decide_eq_true (by omega)⟩, rfl⟩
      | exact ⟨mm - 1, _, _, by omega, ba, i + 1, rfl, rfl, by rw [hs, hw, decide_eq_false hc]; rfl, by omega⟩
  obtain rfl : i = l.length := by omega
  rw [List.take_length] at hw
  focus (refine br ?_; refine c8 ?_; intro hc; refine cp ?_)
  all_goals first
    | (exfalso; omega)
    | exact ⟨.inl rfl, _, _, _, Ent.refl _ _, ret1 rfl rfl, ⟨-1, rfl, by rw [hw]; rfl⟩, rfl⟩
theorem ContainsH_calls (H : AHeap) (l : List En) (q : Nat) (hl : l.length <= 1000000000) : ACalls Try.prog 67 [lsE l, .fnc (.func 68) [] [.pce [uI q] 0]] H fun r H' => r = bB (Ag.hasId l q) /\ H' = H := by
  refine gm Try.func67 rfl (by decide) ?_
  focus (refine f0 ?_; refine dt ?_; refine rj ?_; (refine zc ah (IndexH_calls _ l q hl) ?_; rintro r H' ⟨⟨k, rfl, hk⟩, rfl⟩); refine ae rfl (ky rfl rfl) ?_; refine bn ?_)
  exact ⟨.inl rfl, _, _, _, Ent.refl _ _, ret1 rfl rfl, by rw [<- hk]; rfl, rfl⟩
theorem yq (H : AHeap) (l : List En) (q : Nat) (hl : l.length <= 1000000000) : ACalls Try.prog 39 [lsE l, uI q] H fun r H' => r = bB (Ag.hasId l q) /\ H' = H := by
  refine gm Try.func39 rfl (by decide) ?_
  focus (refine az ?_; refine am5 rfl rfl rfl rfl ?_; refine dk ?_; refine dt ?_; refine ae rfl (ama rfl rfl) ?_; (refine zc ah (ContainsH_calls _ l q hl) ?_; rintro r H' ⟨rfl, rfl⟩); refine bn ?_)
  exact ⟨.inl rfl, _, _, _, Ent.refl _ _, ret1 rfl rfl, rfl, rfl⟩
theorem aef (H : AHeap) (o off : Nat) (xs : List AV) (l : List En) (q : Nat) (hl : l.length <= 1000000000) (hH : H o = some (.cel xs)) (hf : off + l.length * 3 = xs.length) (hx : xs.drop off = l.flatMap En.cells) : ACalls Try.prog 39 [.vw o 3 off l.length, uI q] H fun r H' => r = bB (Ag.hasId l q) /\ H' = H := by
  have hp := Peek.vw (off := off) (m := l.length) (sz := 3) hH (by omega)
  rw [hx, List.take_of_length_le (by rw [<- hx, List.length_drop]; omega)] at hp
  exact ((yq AHeap.empty l q hl).mono fun _ _ h => h.1).peek (PeekL.cons hp (PeekL.cons (Peek.refl _) PeekL.nil))
theorem acu (H : AHeap) (e : En) (hr : e.row.length <= 1000000000) : ACalls Try.prog 38 [.agg e.cells] H fun r H' => r = bB (Ag.may e) /\ H' = H := by
  refine ej Try.func38 rfl (by decide) ?_
  focus (refine az ?_; refine zb4 rfl rfl rfl ?_; refine dk ?_; refine ez ?_; refine dw ?_; refine an ?_; refine zg1 rfl rfl rfl (fun hc => ?_) (fun hc => ?_); refine ko ?_; refine a0 ?_; refine gx ?_; refine a0 ?_; refine eu ?_; refine a0 ?_; refine ae rfl (mt rfl rfl) ?_; refine bu ?_; refine bn ?_; rotate_left; refine gp ?_; refine fb ?_; refine cd ?_; refine bn ?_; rotate_left)
  · exact ⟨.inl rfl, _, _, _, Ent.refl _ _, ret1 rfl rfl, by rw [show Ag.may e = decide (e.row.length <= 16) from by simp [Ag.may, hc]]; rfl, rfl⟩
  · exact ⟨.inl rfl, _, _, _, Ent.refl _ _, ret1 rfl rfl, by rw [show Ag.may e = false from by simp [Ag.may, hc]]; rfl, rfl⟩
theorem CloneR_calls (H : AHeap) (l : List Int) (hl : l.length <= 1000000) : ACalls Try.prog 34 [.sls l.length (l.map mI)] H fun r H' => r = .sls l.length (l.map mI) /\ H' = H := by
  refine ej Try.func34 rfl (by decide) ?_
  focus (refine az ?_; refine bc ?_; refine bq ?_; refine dt ?_; refine al6 rfl rfl rfl (fun b hb => ?_); refine aq ?_; refine qp rfl (fun hc => ?_) (fun hc => ?_); refine cp ?_; refine db ?_; rotate_left; refine cy ?_; refine az ?_; refine ae rfl (ot) ?_; refine dt ?_; refine ae rfl (ag2 rfl rfl dc au au) ?_; refine ae rfl (gq (v := .sls _ _) rfl) ?_; refine dv ?_; rotate_left)
  · exact ⟨.inl rfl, _, _, _, Ent.weakReg 2 rfl (W.nils rfl), ret1 rfl rfl, by obtain ⟨h1, h2⟩ := hb hc; rw [h1, h2]; rfl, rfl⟩
  · exact ⟨.inl rfl, _, _, _, Ent.refl _ _, ret1 rfl rfl, rfl, rfl⟩
theorem Copy_calls (H : AHeap) (e : En) (hr : e.row.length <= 1000000) : ACalls Try.prog 42 [.agg e.cells] H fun r H' => r = .agg e.cells /\ H' = H := by
  refine ej Try.func42 rfl (by decide) ?_
  focus (refine az ?_; refine zb1 rfl rfl rfl (fun oN hoN => ?_); refine cz rfl rfl rfl (fun oN hoN => ?_); refine il ?_; refine iu ?_; refine ma ?_; (refine zc ah (CloneR_calls _ e.row hr) ?_; rintro r H' ⟨rfl, rfl⟩); refine iu ?_; refine gv ?_; refine il ?_; refine i5 ?_; refine dv ?_)
  exact ⟨.inl rfl, _, _, _, aro 2 e.cells rfl aa (aab _) vr, jp rfl (dr (m := 3) rfl rfl rfl (by decide)), rfl, rfl⟩
theorem pg (H : AHeap) (l : List En) (hl : l.length <= 1000000) (hr : ∀ e ∈ l, e.row.length <= 1000000) : ACalls Try.prog 43 [lsE l] H fun r H' => ∃ o, H o = none /\ r = .vw o 3 0 l.length /\ H' = H.set o (.cel (l.flatMap En.cells)) := by
  refine ej Try.func43 rfl (by decide) ?_
  focus (refine f0 ?_; refine bc ?_; refine bq ?_; refine ey ?_; refine ig ?_)
  refine vx 3 3 (.cel []) rfl rfl (fun oL hoL => ?_)
  refine cv (fun mm R' H2 => ∃ (i oL : Nat), H oL = none /\ H2 = H.set oL (.cel ((l.take i).flatMap En.cells)) /\ R' = [(3, .vw oL 3 0 i), (6, lsE l), (7, .raw (.int .i64 (l.length : Int))), (8, .raw (.int .i64 (i : Int)))] /\ i + mm = l.length) ?_ ?_
  · exact ⟨l.length, _, _, ba, 0, oL, hoL, by rw [List.take_zero]; rfl, rfl, by omega⟩
  clear hoL oL; rintro mm R0 H2 ⟨i, oL, hoL, rfl, rfl, hi⟩; have hfl : ((l.take i).flatMap En.cells).length = i * 3 := by rw [i8 (sz := 3) (fun _ => rfl), List.length_take, Nat.min_eq_left (by omega)]
  by_cases hlt : i < l.length
  · have hg : l[i]? = some l[i] := List.getElem?_eq_getElem hlt
    have hm := hr _ (List.getElem_mem hlt); have hge := oc hg; have hsn : (l.take (i + 1)).flatMap En.cells = (l.take i).flatMap En.cells ++ (l[i]).cells := by rw [List.take_add_one, hg, List.flatMap_append]; simp [hg]
    generalize l[i] = e at *
    focus (refine br ?_; refine ax rfl (fun hc => ?_) (fun hc => ?_); refine ct ?_; refine ic ?_; refine nk ?_; refine cz rfl rfl rfl (fun oN hoN => ?_); refine jo ?_; refine aq ?_; refine ca ?_; refine c9 ?_; refine ip ?_; (refine zc ah (Copy_calls _ e hm) ?_; rintro r H' ⟨rfl, rfl⟩); refine kq ?_; refine za2 rfl rfl rfl (by assumption) au dc au au (fun oN hoN => ?_); refine ix ?_; refine bb ?_; refine dl ?_; rotate_left; exact absurd hc aj)
    all_goals first
      | (exfalso; omega)
      | exact ⟨mm - 1, _, _, by omega, jt, i + 1, oN, hoN, by rw [hsn]; rfl, rfl, by omega⟩
      | trace_state
  obtain rfl : i = l.length := by omega
  rw [List.take_length] at *
  focus (refine br ?_; refine c8 ?_; intro hc; refine az ?_; refine c9 ?_; refine ix ?_; refine dv ?_)
  all_goals first
    | (exfalso; omega)
    | exact ⟨.inl rfl, _, _, _, Ent.refl _ _, ret1 rfl rfl, oL, hoL, rfl, rfl⟩
end Go.Proofs.Ytbciofnejefkiaa
