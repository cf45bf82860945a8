/-
  TopHold's code: a round of its loop.
-/
import Derived.Test.YtaabpahemponkaaGreatDoorHdB
set_option linter.unusedVariables false
set_option linter.unusedSimpArgs false
namespace Go.Ex
open Go Go.Am Go.Proofs
section
variable {L S : Lit} (hL : LitOk Tryz.prog 12 L) (hS : LitOk Tryz.prog 11 S) {n i : Nat} {cs xs : List AV} (p q s u x tk b : Int) (m0 m1 m2 m3 m4 m5 : AV)
noncomputable abbrev rJ (n i : Nat) (cs xs : List AV) (p s u b q : Int) : T AV := rL (rI n i cs xs p s u ++ [(13, iv b), (14, iv q), (15, .vwn 10116 1 0 2), (16, iv 0)])
noncomputable abbrev hJ (tk : Int) (m0 m1 m2 m3 m4 m5 : AV) (p q : Int) : T XO := putAll .nil (celL (thH tk [m0, m1, m2, m3, m4, m5] ++ [(10116, [iv p, iv q])]))
noncomputable abbrev p24 (R : T AV) (p q : Int) : T AV := (((((((R.put 82 (iv 0)).put 83 (.raw (.bool false))).put 84 (.raw (.bool false))).put 85 (.vwn 10116 1 0 2)).put 86 (iv p)).put 87 (iv q)).put 88 (.vwn 10607 1 0 2))
theorem c24 (L : Lit) (k : C Oc) : xT L (saL p q) q24 (rJ n i cs xs p s u b q) (hJ tk m0 m1 m2 m3 m4 m5 p q) 10607 k =
    ifb (decide (p = p)) (ifb (decide (q = q)) (ifb (decide (p = p)) (ifb (decide (q = q)) (bT L (saL p q) q24 8 ((p24 (rJ n i cs xs p s u b q) p q).put 89 (saL p q).x) (putAll (delAll ((hJ tk m0 m1 m2 m3 m4 m5 p q).put 10607 (cel [iv p, iv q])) (saL p q).ins) (saL p q).outs) 10608 k) none) none) none) none := by kernel_rfl
include hL in
theorem q24_ok : CodeS Tryz.prog 92 q24 (rJ n i cs xs p s u b q) (hJ tk m0 m1 m2 m3 m4 m5 p q) 10607 .normal (rL (rI n i cs xs p s u ++ [(91, .raw (.bool false))])) (putAll .nil (celL (thH tk [m0, m1, m2, m3, m4, m5]))) 10608 :=
  nodeT hL (same_ok p q) (by kernel_rfl) (by rw [c24, ifb_self p, ifb_self q, ifb_self p, ifb_self q]; kernel_rfl)
include hL hS in
theorem q14_ok' : CodeS Tryz.prog 92 q14 (rL (rI n i cs xs p s u)) (hI tk [m0, m1, m2, m3, m4, m5]) 10608 .normal (rL [(0, .sls n cs), (1, .sls n xs), (7, .ptr 10112 0), (9, iv p), (10, iv s), (11, iv u), (12, iv (IntKind.i64.wrap (Int.ofNat i + 1)))]) (putAll .nil (celL (thH tk [m0, m1, m2, m3, m4, m5]))) 10608 :=
  nodeT hL hS (by kernel_rfl) (by kernel_rfl)
theorem iN_succ (hi : i < 40) : iv (IntKind.i64.wrap (Int.ofNat i + 1)) = iN (i + 1) := by
  rw [show Int.ofNat i = (i : Int) from rfl, wrap_i64_id (by omega) (by omega)]
  rfl
include hL hS in
theorem q14_ok (hi : i < 40) : CodeS Tryz.prog 92 q14 (rL (rI n i cs xs p s u)) (hI tk [m0, m1, m2, m3, m4, m5]) 10608 .normal (rL (rI n (i + 1) cs xs p s u)) (putAll .nil (celL (thH tk [m0, m1, m2, m3, m4, m5]))) 10608 := by
  have := q14_ok' hL hS (n := n) (i := i) (cs := cs) (xs := xs) p s u tk m0 m1 m2 m3 m4 m5
  rw [iN_succ hi] at this
  exact this
include hL hS in
theorem round_ok (hi : i < 40) (hin : i < n) {h1 s1 u1 tk1 : Int} {k0 k1 k2 k3 k4 k5 : AV}
    (h17 : CodeS Tryz.prog 92 q17c (rL (rI n i cs xs h1 s1 u1 ++ [(13, iv 0), (14, iv 0)])) (hI tk1 [k0, k1, k2, k3, k4, k5]) 10114 .normal (rL (rI n i cs xs p s u ++ [(13, iv b), (14, iv q)])) (hI tk1 [k0, k1, k2, k3, k4, k5]) 10114)
    (h23 : CodeS Tryz.prog 92 q23 (rL (rI n i cs xs p s u ++ [(13, iv b), (14, iv q)])) (hI tk1 [k0, k1, k2, k3, k4, k5]) 10114 .normal (rJ n i cs xs p s u b q) (hJ tk m0 m1 m2 m3 m4 m5 p q) 10607) :
    CodeS Tryz.prog 92 lb (rL (rI n i cs xs h1 s1 u1)) (hI tk1 [k0, k1, k2, k3, k4, k5]) 10114 .normal (rL (rI n (i + 1) cs xs p s u)) (hI tk [m0, m1, m2, m3, m4, m5]) 10608 := by
  rw [lb_eq]
  refine codeS_seq (q1_in hL hS h1 s1 u1 tk1 k0 k1 k2 k3 k4 k5 hin) (codeS_seq ?_ (q14_ok hL hS p s u tk m0 m1 m2 m3 m4 m5 hi))
  rw [qb_eq]
  refine codeS_block (e := .normal) ?_ rfl
  rw [ib_eq]
  refine codeS_seq (q15_ok hL hS h1 s1 u1 tk1 k0 k1 k2 k3 k4 k5) (codeS_seq (q16_ok hL hS h1 s1 u1 tk1 k0 k1 k2 k3 k4 k5) (codeS_seq h17 (codeS_seq h23 (codeS_seq (q24_ok hL p q s u tk b m0 m1 m2 m3 m4 m5) ?_))))
  rw [q91_eq]
  refine codeS_cond (t := false) (by kernel_rfl) ?_
  rw [if_neg (by simp)]
  refine CodeS.sub (l0 := rI n i cs xs p s u) skip_ok ?_
  kernel_rfl
end
def b2 (b : Bool) : AV := iv (if b then 1 else 0)
def memT (bs bu : Bool) (h s u : Int) : List AV := [iv h, b2 (bs || bu), iv s, b2 bs, iv u, b2 bu]
def InvT (bs bu : Bool) (h s u : Int) : Prop := (bs = false → s = 0) ∧ (bu = false → u = 0) ∧ (bs = false → bu = false → h = 0)
section
variable {n i : Nat} {cs xs : List AV} {h s u x tk : Int}
theorem inv_t {bs bu : Bool} (hv : InvT bs bu h s u) : InvT true bu x (IntKind.i64.wrap (x + s)) u := by obtain ⟨h1, h2, h3⟩ := hv; exact ⟨fun h => by (cases h), h2, fun h => by (cases h)⟩
theorem tick_t (bs bu : Bool) (hi : i < 40) (hin : i < n) (hcl : cs.length = n) (hxl : xs.length = n) (hx : xs[i]? = some (iv x)) (hc : cs[i]? = some (.raw (.bool true))) (hv : InvT bs bu h s u) :
    CodeS Tryz.prog 92 lb (rL (rI n i cs xs h s u)) (hI tk (memT bs bu h s u)) 10114 .normal (rL (rI n (i + 1) cs xs x (IntKind.i64.wrap (x + s)) u)) (hI (IntKind.i64.wrap (tk + 1)) (memT true bu x (IntKind.i64.wrap (x + s)) u)) 10608 := by
  obtain ⟨h1, h2, h3⟩ := hv
  cases bs <;> cases bu
  · obtain rfl := h1 rfl; obtain rfl := h2 rfl; obtain rfl := h3 rfl rfl
    have ht := true_ok (tickA1 0 0 0 0 0) (same_ok 0 0) (n := n) (i := i) (cs := cs) (xs := xs) 0 0 0 x tk (iv 0) (iv 0) (iv 0) (iv 0) (iv 0) (iv 0) hin hcl hxl hx hc
    rw [Int.add_comm 0 x] at ht
    exact round_ok (tickA1 0 0 0 0 0) (same_ok 0 0) _ _ _ _ _ _ _ _ _ _ _ _ hi hin ht (q23A1 (same_ok 0 0) x tk hin hxl hx _ _ _ _)
  · obtain rfl := h1 rfl
    have ht := true_ok (tickA1 0 0 0 0 0) (same_ok 0 0) (n := n) (i := i) (cs := cs) (xs := xs) h 0 u x tk (iv h) (iv 1) (iv 0) (iv 0) (iv u) (iv 1) hin hcl hxl hx hc
    rw [Int.add_comm 0 x] at ht
    exact round_ok (tickA1 0 0 0 0 0) (same_ok 0 0) _ _ _ _ _ _ _ _ _ _ _ _ hi hin ht (q23C1 (same_ok 0 0) h u x tk hin hxl hx _ _ _ _)
  · obtain rfl := h2 rfl
    have ht := true_ok (tickA1 0 0 0 0 0) (same_ok 0 0) (n := n) (i := i) (cs := cs) (xs := xs) h s 0 x tk (iv h) (iv 1) (iv s) (iv 1) (iv 0) (iv 0) hin hcl hxl hx hc
    rw [Int.add_comm s x] at ht
    exact round_ok (tickA1 0 0 0 0 0) (same_ok 0 0) _ _ _ _ _ _ _ _ _ _ _ _ hi hin ht (q23B1 (same_ok 0 0) h s x tk hin hxl hx _ _ _ _)
  · skip
    have ht := true_ok (tickA1 0 0 0 0 0) (same_ok 0 0) (n := n) (i := i) (cs := cs) (xs := xs) h s u x tk (iv h) (iv 1) (iv s) (iv 1) (iv u) (iv 1) hin hcl hxl hx hc
    rw [Int.add_comm s x] at ht
    exact round_ok (tickA1 0 0 0 0 0) (same_ok 0 0) _ _ _ _ _ _ _ _ _ _ _ _ hi hin ht (q23D1 (same_ok 0 0) h s u x tk hin hxl hx _ _ _ _)
theorem inv_f {bs bu : Bool} (hv : InvT bs bu h s u) : InvT bs true h s (IntKind.i64.wrap (x + u)) := by obtain ⟨h1, h2, h3⟩ := hv; exact ⟨h1, fun h => by (cases h), fun _ h => by (cases h)⟩
theorem tick_f (bs bu : Bool) (hi : i < 40) (hin : i < n) (hcl : cs.length = n) (hxl : xs.length = n) (hx : xs[i]? = some (iv x)) (hc : cs[i]? = some (.raw (.bool false))) (hv : InvT bs bu h s u) :
    CodeS Tryz.prog 92 lb (rL (rI n i cs xs h s u)) (hI tk (memT bs bu h s u)) 10114 .normal (rL (rI n (i + 1) cs xs h s (IntKind.i64.wrap (x + u)))) (hI (IntKind.i64.wrap (tk + 1)) (memT bs true h s (IntKind.i64.wrap (x + u)))) 10608 := by
  obtain ⟨h1, h2, h3⟩ := hv
  cases bs <;> cases bu
  · obtain rfl := h1 rfl; obtain rfl := h2 rfl; obtain rfl := h3 rfl rfl
    have ht := false_ok (tickA1 0 0 0 0 0) (same_ok 0 0) (n := n) (i := i) (cs := cs) (xs := xs) 0 0 0 x tk (iv 0) (iv 0) (iv 0) (iv 0) (iv 0) (iv 0) hin hcl hxl hx hc
    rw [Int.add_comm 0 x] at ht
    exact round_ok (tickA1 0 0 0 0 0) (same_ok 0 0) _ _ _ _ _ _ _ _ _ _ _ _ hi hin ht (q23A0 (same_ok 0 0) x tk hin hxl hx _ _ _ _)
  · obtain rfl := h1 rfl
    have ht := false_ok (tickA1 0 0 0 0 0) (same_ok 0 0) (n := n) (i := i) (cs := cs) (xs := xs) h 0 u x tk (iv h) (iv 1) (iv 0) (iv 0) (iv u) (iv 1) hin hcl hxl hx hc
    rw [Int.add_comm u x] at ht
    exact round_ok (tickA1 0 0 0 0 0) (same_ok 0 0) _ _ _ _ _ _ _ _ _ _ _ _ hi hin ht (q23C0 (same_ok 0 0) h u x tk hin hxl hx _ _ _ _)
  · obtain rfl := h2 rfl
    have ht := false_ok (tickA1 0 0 0 0 0) (same_ok 0 0) (n := n) (i := i) (cs := cs) (xs := xs) h s 0 x tk (iv h) (iv 1) (iv s) (iv 1) (iv 0) (iv 0) hin hcl hxl hx hc
    rw [Int.add_comm 0 x] at ht
    exact round_ok (tickA1 0 0 0 0 0) (same_ok 0 0) _ _ _ _ _ _ _ _ _ _ _ _ hi hin ht (q23B0 (same_ok 0 0) h s x tk hin hxl hx _ _ _ _)
  · skip
    have ht := false_ok (tickA1 0 0 0 0 0) (same_ok 0 0) (n := n) (i := i) (cs := cs) (xs := xs) h s u x tk (iv h) (iv 1) (iv s) (iv 1) (iv u) (iv 1) hin hcl hxl hx hc
    rw [Int.add_comm u x] at ht
    exact round_ok (tickA1 0 0 0 0 0) (same_ok 0 0) _ _ _ _ _ _ _ _ _ _ _ _ hi hin ht (q23D0 (same_ok 0 0) h s u x tk hin hxl hx _ _ _ _)
end
end Go.Ex
namespace Go.Ex
open Go Go.Am Go.Proofs
noncomputable def cRs (k : Nat) : Code := Nat.rec (motive := fun _ => Code → Code) (fun c => c) (fun _ ih c => ih (cR c)) k b5
noncomputable def lo (L : Lit) : List (Nat × List AV) := L.outs.map fun p => (p.1, match p.2 with | .cel xs => xs | _ => [])
section
variable (n m : Nat) (cs xs : List AV)
noncomputable abbrev r4 : List (Nat × AV) := [(4, .raw (.bool true))]
theorem hC_ok (h : n ≤ 40) : CodeS Tryz.prog 92 nC (rL (r0 n n cs xs)) (putAll .nil (celL [])) 3000 .normal (rL (r0 n n cs xs)) (putAll .nil (celL [])) 3000 := nodeP (by kernel_rfl) (by
  rw [hC1, decide_eq_false (show ¬ (40 : Int) < Int.ofNat n from fun e => by have : (40 : Int) < (n : Int) := e; omega), hC2, decide_eq_false (show ¬ Int.ofNat n ≠ Int.ofNat n from fun e => e rfl)]; kernel_rfl)
theorem hC_long (h : 40 < n) : CodeS Tryz.prog 92 nC (rL (r0 n m cs xs)) (putAll .nil (celL [])) 3000 .ret (rL r4) (putAll .nil (celL [])) 3000 := nodeP (by kernel_rfl) (by
  rw [hC1, decide_eq_true (show (40 : Int) < Int.ofNat n from by have : (40 : Int) < (n : Int) := by omega
                                                                 exact this)]; kernel_rfl)
theorem hC_odd (h : n ≤ 40) (hm : m ≠ n) : CodeS Tryz.prog 92 nC (rL (r0 n m cs xs)) (putAll .nil (celL [])) 3000 .ret (rL r4) (putAll .nil (celL [])) 3000 := nodeP (by kernel_rfl) (by
  rw [hC1, decide_eq_false (show ¬ (40 : Int) < Int.ofNat n from fun e => by have : (40 : Int) < (n : Int) := e; omega), hC2, decide_eq_true (show Int.ofNat m ≠ Int.ofNat n from fun e => hm (Int.ofNat.inj e))]; kernel_rfl)
def oD : List (Nat × List AV) := [(9140, [.vwn 6918 1 0 2, .vwn 9079 1 0 2, .vwn 9055 1 0 30, .vwn 8912 1 0 6, .vwn 9027 1 0 2, .vwn 9137 4 0 57]), (9141, [iv 0, iv 0])]
noncomputable abbrev m0T : List AV := [iv 0, iv 0, iv 0, iv 0, iv 0, iv 0]
theorem hD_ok : CodeS Tryz.prog 92 (cL (cRs 3)) (rL (r0 n n cs xs)) (putAll .nil (celL [])) 3000 .normal (rL (r0 n n cs xs ++ [(5, .ptr 9140 0), (6, .ptr 9141 0)])) (putAll .nil (celL (lo comp2 ++ oD))) 9142 := nodeP (by kernel_rfl) (by kernel_rfl)
theorem hE_ok : CodeS Tryz.prog 92 (cL (cRs 4)) (rL (r0 n n cs xs ++ [(5, .ptr 9140 0), (6, .ptr 9141 0)])) (putAll .nil (celL (lo comp2 ++ oD))) 9142 .normal (rL (r0 n n cs xs ++ [(5, .ptr 9140 0)])) (putAll .nil (celL (lo comp2 ++ oD))) 9142 := nodeP (by kernel_rfl) (by kernel_rfl)
theorem hF_ok : CodeS Tryz.prog 92 (cL (cRs 5)) (rL (r0 n n cs xs ++ [(5, .ptr 9140 0)])) (putAll .nil (celL (lo comp2 ++ oD))) 9142 .normal (rL (r0 n n cs xs ++ [(7, .ptr 10112 0), (8, iv 0)])) (putAll .nil (celL (thH 0 m0T))) 10114 := nodeP (by kernel_rfl) (by kernel_rfl)
theorem hG_ok : CodeS Tryz.prog 92 (cL (cRs 6)) (rL (r0 n n cs xs ++ [(7, .ptr 10112 0), (8, iv 0)])) (putAll .nil (celL (thH 0 m0T))) 10114 .normal (rL (r0 n n cs xs ++ [(7, .ptr 10112 0)])) (putAll .nil (celL (thH 0 m0T))) 10114 := nodeP (by kernel_rfl) (by kernel_rfl)
theorem hH_ok : CodeS Tryz.prog 92 (cL (cRs 7)) (rL (r0 n n cs xs ++ [(7, .ptr 10112 0)])) (putAll .nil (celL (thH 0 m0T))) 10114 .normal (rL (r0 n n cs xs ++ [(7, .ptr 10112 0), (9, iv 0), (10, iv 0), (11, iv 0)])) (putAll .nil (celL (thH 0 m0T))) 10114 := nodeP (by kernel_rfl) (by kernel_rfl)
theorem hI_ok : CodeS Tryz.prog 92 (cL (cL (cRs 8))) (rL (r0 n n cs xs ++ [(7, .ptr 10112 0), (9, iv 0), (10, iv 0), (11, iv 0)])) (putAll .nil (celL (thH 0 m0T))) 10114 .normal (rL (rI n 0 cs xs 0 0 0)) (hI 0 (memT false false 0 0 0)) 10114 := nodeP (by kernel_rfl) (by kernel_rfl)
theorem hZ_ok : CodeS Tryz.prog 92 (cRs 9) (rL []) (putAll .nil (celL [])) 10114 .ret (rL r4) (putAll .nil (celL [])) 10114 := nodeP (by kernel_rfl) (by kernel_rfl)
theorem b5_eq : b5 = Code.seq (cL b5) (Code.seq (cL (cR b5)) (Code.seq nC (Code.seq (cL (cRs 3)) (Code.seq (cL (cRs 4)) (Code.seq (cL (cRs 5)) (Code.seq (cL (cRs 6)) (Code.seq (cL (cRs 7)) (Code.seq (Code.seq (cL (cL (cRs 8))) (Code.block 0 (Code.loop lb))) (cRs 9))))))))) := by kernel_rfl
end
end Go.Ex
