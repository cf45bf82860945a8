/-
  TopHold's code: the parts ahead of its loop.
-/
import Derived.Test.YtaabpahemponkaaGreatDoorExJ
import Derived.Test.YtaabpahemponkaaGreatDoorPcH
import Derived.Test.YtaabpahemponkaaGreatDoorPcI
set_option linter.unusedVariables false
set_option linter.unusedSimpArgs false
namespace Go.Ex
open Go Go.Am Go.Proofs
noncomputable abbrev b5 : Code := bodyOf Tryz.f5
noncomputable def litP : T (SumF Oc) := ((((T.nil : T (SumF Oc)).put 7 (sLits [awake1] none)).put 9 (sLits [comp2] none)).put 10 (sLits [new2] none))
theorem litP_ok {e : Exit} {rs : List (Nat × AV)} {outs : List (Nat × List AV)} : Lts (ocG e rs outs) litP :=
  lts_put (lts_put (lts_put lts_nil (litsAt (ocG_none _ _ _) ⟨Tryz.call7⟩ (by simp only [List.mem_cons, List.not_mem_nil, or_false, forall_eq]; exact awake1_ok)))
    (litsAt (ocG_none _ _ _) ⟨Tryz.call9⟩ (by simp only [List.mem_cons, List.not_mem_nil, or_false, forall_eq]; exact comp2_ok)))
    (litsAt (ocG_none _ _ _) ⟨Tryz.call10⟩ (by simp only [List.mem_cons, List.not_mem_nil, or_false, forall_eq]; exact new2_ok))
noncomputable abbrev xP (c : Code) (R : T AV) (H : T XO) (a : Nat) (k : C Oc) : Oc := exec c (envL (none : Oc) litP) (calls (envL (none : Oc) litP) 1000000 1000) 1000000 R H a k
theorem nodeP {c : Code} {e : Exit} {R : T AV} {H : T XO} {a b0 : Nat} {rs : List (Nat × AV)} {outs : List (Nat × List AV)} (hw : codeWfB 92 c = true)
    (h : xP c R H a (kOc (rs.map (fun p => p.1)) (outs.map (fun p => p.1)) b0) = some (e, rs.map (fun p => p.2), outs.map (fun p => some p.2), true)) : CodeS Tryz.prog 92 c R H a e (rL rs) (putAll .nil (celL outs)) b0 :=
  node_ok (ocG_none _ _ _) (envL_ok _ litP).ty (callsL_ok (ocG_none _ _ _) litP_ok 1000000 1000) follows_mixed hw h
section
variable (n m : Nat) (cs xs : List AV)
def r0 : List (Nat × AV) := [(0, .sls n cs), (1, .sls m xs)]
theorem hA : CodeS Tryz.prog 92 (cL b5) (rL (r0 n m cs xs)) (putAll .nil (celL [])) 3 .normal (rL (r0 n m cs xs)) (putAll .nil (celL [])) 3 := nodeP (by kernel_rfl) (by kernel_rfl)
theorem hB : CodeS Tryz.prog 92 (cL (cR b5)) (rL (r0 n m cs xs)) (putAll .nil (celL [])) 3 .normal (rL (r0 n m cs xs)) (putAll .nil (celL [])) 3000 := nodeP (by kernel_rfl) (by kernel_rfl)
noncomputable abbrev nC : Code := cL (cR (cR b5))
theorem hC1 (k : C Oc) : xP nC (rL (r0 n m cs xs)) (putAll .nil (celL [])) 3000 k =
    runOps ((cO (cL nC)).toList.drop 4) (envL (none : Oc) litP) (calls (envL (none : Oc) litP) 1000000 1000) (cO (cL nC)).toList
      (((((rL (r0 n m cs xs)).put 19 (.sls n cs)).put 20 (iN n)).put 21 (.raw (.bool (decide ((40 : Int) < Int.ofNat n))))).put 22 (.raw (.bool (decide ((40 : Int) < Int.ofNat n))))) (putAll .nil (celL [])) 3000
      (fun R H a => xP (cR nC) R H a k) := by kernel_rfl
theorem hC2 (k : C Oc) : runOps ((cO (cL nC)).toList.drop 4) (envL (none : Oc) litP) (calls (envL (none : Oc) litP) 1000000 1000) (cO (cL nC)).toList
      (((((rL (r0 n m cs xs)).put 19 (.sls n cs)).put 20 (iN n)).put 21 (.raw (.bool false))).put 22 (.raw (.bool false))) (putAll .nil (celL [])) 3000
      (fun R H a => xP (cR nC) R H a k) =
    xP (cR nC) (((((((((((rL (r0 n m cs xs)).put 19 (.sls n cs)).put 20 (iN n)).put 21 (.raw (.bool false))).put 22 (.raw (.bool false))).put 23 (.sls m xs)).put 24 (iN m)).put 25 (.sls n cs)).put 26 (iN n)).put 27 (.raw (.bool (decide (Int.ofNat m ≠ Int.ofNat n))))).put 28 (.raw (.bool (decide (Int.ofNat m ≠ Int.ofNat n))))) (putAll .nil (celL [])) 3000 k := by kernel_rfl
end
end Go.Ex
namespace Go.Ex
open Go Go.Am Go.Proofs
noncomputable section
def lp5 : Code := cR (cL (cR (cR (cR (cR (cR (cR (cR (cR b5)))))))))
def lb : Code := cL (cL lp5)
def q1 : Code := cL lb
def qb : Code := cL (cR lb)
def q14 : Code := cR (cR lb)
def ib : Code := cL qb
def q15 : Code := cL ib
def q16 : Code := cL (cR ib)
def q17c : Code := cL (cR (cR ib))
def q17 : Code := cL q17c
def q52 : Code := cR q17c
def qT : Code := cL q52
def qE : Code := cR q52
def q18 : Code := cL qT
def q19 : Code := cL (cR qT)
def q20 : Code := cR (cR qT)
def q21 : Code := cL qE
def q22 : Code := cR qE
def q23 : Code := cL (cR (cR (cR ib)))
def q24 : Code := cL (cR (cR (cR (cR ib))))
def q91 : Code := cR (cR (cR (cR (cR ib))))
def litT (L S : Lit) : T (SumF Oc) := (((T.nil : T (SumF Oc)).put 12 (sLits [L] none)).put 11 (sLits [S] none))
end
theorem litT_ok {e : Exit} {rs : List (Nat × AV)} {outs : List (Nat × List AV)} {L S : Lit} (hL : LitOk Tryz.prog 12 L) (hS : LitOk Tryz.prog 11 S) : Lts (ocG e rs outs) (litT L S) :=
  lts_put (lts_put lts_nil (litsAt (ocG_none _ _ _) ⟨Tryz.call12⟩ (by simp only [List.mem_cons, List.not_mem_nil, or_false, forall_eq]; exact hL)))
    (litsAt (ocG_none _ _ _) ⟨Tryz.call11⟩ (by simp only [List.mem_cons, List.not_mem_nil, or_false, forall_eq]; exact hS))
noncomputable abbrev eT (L S : Lit) : Env Oc := envL (none : Oc) (litT L S)
noncomputable abbrev cT (L S : Lit) : CallF Oc := calls (eT L S) 1000000 1000
noncomputable abbrev xT (L S : Lit) (c : Code) (R : T AV) (H : T XO) (a : Nat) (k : C Oc) : Oc := exec c (eT L S) (cT L S) 1000000 R H a k
theorem nodeT {L S : Lit} (hL : LitOk Tryz.prog 12 L) (hS : LitOk Tryz.prog 11 S) {c : Code} {e : Exit} {R : T AV} {H : T XO} {a b0 : Nat} {rs : List (Nat × AV)} {outs : List (Nat × List AV)} (hw : codeWfB 92 c = true)
    (h : xT L S c R H a (kOc (rs.map (fun p => p.1)) (outs.map (fun p => p.1)) b0) = some (e, rs.map (fun p => p.2), outs.map (fun p => some p.2), true)) : CodeS Tryz.prog 92 c R H a e (rL rs) (putAll .nil (celL outs)) b0 :=
  node_ok (ocG_none _ _ _) (envL_ok _ (litT L S)).ty (callsL_ok (ocG_none _ _ _) (litT_ok hL hS) 1000000 1000) follows_mixed hw h
section
variable {L S : Lit} (hL : LitOk Tryz.prog 12 L) (hS : LitOk Tryz.prog 11 S) (n i : Nat) (cs xs : List AV) (h s u x tk : Int) (mems : List AV)
def rI : List (Nat × AV) := [(0, .sls n cs), (1, .sls n xs), (7, .ptr 10112 0), (9, iv h), (10, iv s), (11, iv u), (12, iN i)]
noncomputable abbrev hI : T XO := putAll .nil (celL (thH tk mems))
theorem q1_eq (L S : Lit) (k : C Oc) : xT L S q1 (rL (rI n i cs xs h s u)) (hI tk mems) 10114 k =
    ifb (decide (Int.ofNat i < Int.ofNat n)) (k .normal (((((rL (rI n i cs xs h s u)).put 43 (iN i)).put 44 (.sls n cs)).put 45 (iN n)).put 46 (.raw (.bool (decide (Int.ofNat i < Int.ofNat n))))) (hI tk mems) 10114)
      (k (.exit 0) (((((rL (rI n i cs xs h s u)).put 43 (iN i)).put 44 (.sls n cs)).put 45 (iN n)).put 46 (.raw (.bool (decide (Int.ofNat i < Int.ofNat n))))) (hI tk mems) 10114) := by kernel_rfl
theorem q17_eq (L S : Lit) (k : C Oc) : xT L S q17 (rL (rI n i cs xs h s u ++ [(13, iv 0), (14, iv 0)])) (hI tk mems) 10114 k =
    ifb (Nat.blt i n) (ifb (Nat.ble (i * 1 + 1) cs.length) (ifb (Nat.beq 1 0) none (one1 ((cs.drop (i * 1)).take 1) (fun v => k .normal (((((rL (rI n i cs xs h s u ++ [(13, iv 0), (14, iv 0)])).put 49 (.sls n cs)).put 50 (iN i)).put 51 (.pce cs (i * 1))).put 52 v) (hI tk mems) 10114) none)) none) none := by kernel_rfl
theorem q18_eq (L S : Lit) (k : C Oc) : xT L S q18 (rL (rI n i cs xs h s u ++ [(13, iv 0), (14, iv 0)])) (hI tk mems) 10114 k =
    ifb (Nat.blt i n) (ifb (Nat.ble (i * 1 + 1) xs.length) (ifb (Nat.beq 1 0) none (one1 ((xs.drop (i * 1)).take 1) (fun v => k .normal (((((((rL (rI n i cs xs h s u ++ [(13, iv 0), (14, iv 0)])).put 53 (.sls n xs)).put 54 (iN i)).put 55 (.pce xs (i * 1))).put 56 v).put 13 (iv 1)).put 9 v) (hI tk mems) 10114) none)) none) none := by kernel_rfl
theorem q19_eq (L S : Lit) (k : C Oc) : xT L S q19 (rL (rI n i cs xs h s u ++ [(13, iv 1), (14, iv 0)])) (hI tk mems) 10114 k =
    ifb (Nat.blt i n) (ifb (Nat.ble (i * 1 + 1) xs.length) (ifb (Nat.beq 1 0) none (one1 ((xs.drop (i * 1)).take 1) (fun v => runOps ((cO q19).toList.drop 5) (eT L S) (cT L S) (cO q19).toList ((((((rL (rI n i cs xs h s u ++ [(13, iv 1), (14, iv 0)])).put 57 (iv s)).put 58 (.sls n xs)).put 59 (iN i)).put 60 (.pce xs (i * 1))).put 61 v) (hI tk mems) 10114 (fun R H a => k .normal R H a)) none)) none) none := by kernel_rfl
theorem q21_eq (L S : Lit) (k : C Oc) : xT L S q21 (rL (rI n i cs xs h s u ++ [(13, iv 0), (14, iv 0)])) (hI tk mems) 10114 k =
    ifb (Nat.blt i n) (ifb (Nat.ble (i * 1 + 1) xs.length) (ifb (Nat.beq 1 0) none (one1 ((xs.drop (i * 1)).take 1) (fun v => runOps ((cO q21).toList.drop 5) (eT L S) (cT L S) (cO q21).toList ((((((rL (rI n i cs xs h s u ++ [(13, iv 0), (14, iv 0)])).put 64 (iv u)).put 65 (.sls n xs)).put 66 (iN i)).put 67 (.pce xs (i * 1))).put 68 v) (hI tk mems) 10114 (fun R H a => k .normal R H a)) none)) none) none := by kernel_rfl
theorem q231_eq (L S : Lit) (wv : Int) (k : C Oc) : xT L S q23 (rL (rI n i cs xs h s u ++ [(13, iv 1), (14, iv wv)])) (hI tk mems) 10114 k =
    ifb (Nat.blt i n) (ifb (Nat.ble (i * 1 + 1) xs.length) (ifb (Nat.beq 1 0) none (one1 ((xs.drop (i * 1)).take 1) (fun v => runOps ((cO q23).toList.drop 6) (eT L S) (cT L S) (cO q23).toList (((((((rL (rI n i cs xs h s u ++ [(13, iv 1), (14, iv wv)])).put 72 (.ptr 10112 0)).put 73 (iv 1)).put 74 (.sls n xs)).put 75 (iN i)).put 76 (.pce xs (i * 1))).put 77 v) (hI tk mems) 10114 (fun R H a => k .normal R H a)) none)) none) none := by kernel_rfl
theorem q230_eq (L S : Lit) (wv : Int) (k : C Oc) : xT L S q23 (rL (rI n i cs xs h s u ++ [(13, iv 0), (14, iv wv)])) (hI tk mems) 10114 k =
    ifb (Nat.blt i n) (ifb (Nat.ble (i * 1 + 1) xs.length) (ifb (Nat.beq 1 0) none (one1 ((xs.drop (i * 1)).take 1) (fun v => runOps ((cO q23).toList.drop 6) (eT L S) (cT L S) (cO q23).toList (((((((rL (rI n i cs xs h s u ++ [(13, iv 0), (14, iv wv)])).put 72 (.ptr 10112 0)).put 73 (iv 0)).put 74 (.sls n xs)).put 75 (iN i)).put 76 (.pce xs (i * 1))).put 77 v) (hI tk mems) 10114 (fun R H a => k .normal R H a)) none)) none) none := by kernel_rfl
end
end Go.Ex
namespace Go.Ex
open Go Go.Am Go.Proofs
theorem CodeS.sub {P : Program} {n : Nat} {c : Code} {l0 l1 : List (Nat × AV)} {R' : T AV} {H H' : T XO} {a b : Nat} {e : Exit} (h : CodeS P n c (rL l0) H a e R' H' b) (hl : regsL (rL l1) (l0.map (fun p => p.1)) = l0.map (fun p => p.2)) : CodeS P n c (rL l1) H a e R' H' b := by
  obtain ⟨h1, h2, h3⟩ := h
  refine ⟨h1, h2, fun F g act w hd hp hf => h3 F g act w hd ⟨hp.defers, hp.size, fun i => ?_, hp.sim⟩ hf⟩
  rcases rL_get l0 i with h | ⟨p, hp', e1, e2⟩
  · rw [h]; simp only [Rep]
  · have := regsL_some hl p hp'
    rw [e2, ← this, e1]
    exact hp.regs i
theorem take_at {l : List AV} {i : Nat} {v : AV} (h : l[i]? = some v) : (l.drop (i * 1)).take 1 = [v] := by
  obtain ⟨hlt, rfl⟩ := List.getElem?_eq_some_iff.1 h
  rw [Nat.mul_one, List.drop_eq_getElem_cons hlt]
  rfl
theorem blt_t {i n : Nat} (h : i < n) : Nat.blt i n = true := Nat.ble_eq_true_of_le h
theorem ble_t {i n : Nat} (h : i < n) : Nat.ble (i * 1 + 1) n = true := by rw [Nat.mul_one]; exact Nat.ble_eq_true_of_le h
theorem dec_self (v : Int) : decide (v = v) = true := by simp
section
variable {L S : Lit} (hL : LitOk Tryz.prog 12 L) (hS : LitOk Tryz.prog 11 S) {n i : Nat} {cs xs : List AV} (h s u x tk : Int) (m0 m1 m2 m3 m4 m5 : AV)
variable (hin : i < n) (hcl : cs.length = n) (hxl : xs.length = n) (hx : xs[i]? = some (iv x))
include hL hS
include hin in
theorem q1_in : CodeS Tryz.prog 92 q1 (rL (rI n i cs xs h s u)) (hI tk [m0, m1, m2, m3, m4, m5]) 10114 .normal (rL (rI n i cs xs h s u)) (putAll .nil (celL (thH tk [m0, m1, m2, m3, m4, m5]))) 10114 := nodeT hL hS (by kernel_rfl) (by rw [q1_eq, decide_eq_true (show Int.ofNat i < Int.ofNat n from Int.ofNat_lt.2 hin)]; kernel_rfl)
theorem q1_out (hout : ¬ i < n) : CodeS Tryz.prog 92 q1 (rL (rI n i cs xs h s u)) (hI tk [m0, m1, m2, m3, m4, m5]) 10114 (.exit 0) (rL (rI n i cs xs h s u)) (putAll .nil (celL (thH tk [m0, m1, m2, m3, m4, m5]))) 10114 := nodeT hL hS (by kernel_rfl) (by rw [q1_eq, decide_eq_false (show ¬ Int.ofNat i < Int.ofNat n from fun h => hout (Int.ofNat_lt.1 h))]; kernel_rfl)
theorem q15_ok : CodeS Tryz.prog 92 q15 (rL (rI n i cs xs h s u)) (hI tk [m0, m1, m2, m3, m4, m5]) 10114 .normal (rL (rI n i cs xs h s u ++ [(13, iv 0)])) (putAll .nil (celL (thH tk [m0, m1, m2, m3, m4, m5]))) 10114 := nodeT hL hS (by kernel_rfl) (by kernel_rfl)
theorem q16_ok : CodeS Tryz.prog 92 q16 (rL (rI n i cs xs h s u ++ [(13, iv 0)])) (hI tk [m0, m1, m2, m3, m4, m5]) 10114 .normal (rL (rI n i cs xs h s u ++ [(13, iv 0), (14, iv 0)])) (putAll .nil (celL (thH tk [m0, m1, m2, m3, m4, m5]))) 10114 := nodeT hL hS (by kernel_rfl) (by kernel_rfl)
include hin hcl in
theorem q17_ok (b : Bool) (hcv : cs[i]? = some (.raw (.bool b))) : CodeS Tryz.prog 92 q17 (rL (rI n i cs xs h s u ++ [(13, iv 0), (14, iv 0)])) (hI tk [m0, m1, m2, m3, m4, m5]) 10114 .normal (rL (rI n i cs xs h s u ++ [(13, iv 0), (14, iv 0), (52, .raw (.bool b))])) (putAll .nil (celL (thH tk [m0, m1, m2, m3, m4, m5]))) 10114 := nodeT hL hS (by kernel_rfl) (by rw [q17_eq, blt_t hin, ble_t (by omega), take_at hcv]; kernel_rfl)
include hin hxl hx in
theorem q18_ok : CodeS Tryz.prog 92 q18 (rL (rI n i cs xs h s u ++ [(13, iv 0), (14, iv 0)])) (hI tk [m0, m1, m2, m3, m4, m5]) 10114 .normal (rL (rI n i cs xs x s u ++ [(13, iv 1), (14, iv 0)])) (putAll .nil (celL (thH tk [m0, m1, m2, m3, m4, m5]))) 10114 := nodeT hL hS (by kernel_rfl) (by rw [q18_eq, blt_t hin, ble_t (by omega), take_at hx]; kernel_rfl)
include hin hxl hx in
theorem q19_ok : CodeS Tryz.prog 92 q19 (rL (rI n i cs xs h s u ++ [(13, iv 1), (14, iv 0)])) (hI tk [m0, m1, m2, m3, m4, m5]) 10114 .normal (rL (rI n i cs xs h (IntKind.i64.wrap (s + x)) u ++ [(13, iv 1), (14, iv 0)])) (putAll .nil (celL (thH tk [m0, m1, m2, m3, m4, m5]))) 10114 := nodeT hL hS (by kernel_rfl) (by rw [q19_eq, blt_t hin, ble_t (by omega), take_at hx]; kernel_rfl)
theorem q20_ok : CodeS Tryz.prog 92 q20 (rL (rI n i cs xs h s u ++ [(13, iv 1), (14, iv 0)])) (hI tk [m0, m1, m2, m3, m4, m5]) 10114 .normal (rL (rI n i cs xs h s u ++ [(13, iv 1), (14, iv s)])) (putAll .nil (celL (thH tk [m0, m1, m2, m3, m4, m5]))) 10114 := nodeT hL hS (by kernel_rfl) (by kernel_rfl)
include hin hxl hx in
theorem q21_ok : CodeS Tryz.prog 92 q21 (rL (rI n i cs xs h s u ++ [(13, iv 0), (14, iv 0)])) (hI tk [m0, m1, m2, m3, m4, m5]) 10114 .normal (rL (rI n i cs xs h s (IntKind.i64.wrap (u + x)) ++ [(13, iv 0), (14, iv 0)])) (putAll .nil (celL (thH tk [m0, m1, m2, m3, m4, m5]))) 10114 := nodeT hL hS (by kernel_rfl) (by rw [q21_eq, blt_t hin, ble_t (by omega), take_at hx]; kernel_rfl)
theorem q22_ok : CodeS Tryz.prog 92 q22 (rL (rI n i cs xs h s u ++ [(13, iv 0), (14, iv 0)])) (hI tk [m0, m1, m2, m3, m4, m5]) 10114 .normal (rL (rI n i cs xs h s u ++ [(13, iv 0), (14, iv u)])) (putAll .nil (celL (thH tk [m0, m1, m2, m3, m4, m5]))) 10114 := nodeT hL hS (by kernel_rfl) (by kernel_rfl)
omit hL hS
theorem qT_eq : qT = Code.seq q18 (Code.seq q19 q20) := by kernel_rfl
theorem qE_eq : qE = Code.seq q21 q22 := by kernel_rfl
theorem q52_eq : q52 = Code.cond (.tmp 52) qT qE := by kernel_rfl
theorem q17c_eq : q17c = Code.seq q17 q52 := by kernel_rfl
theorem qb_eq : qb = Code.block 1 ib := by kernel_rfl
theorem ib_eq : ib = Code.seq q15 (Code.seq q16 (Code.seq q17c (Code.seq q23 (Code.seq q24 q91)))) := by kernel_rfl
theorem q91_eq : q91 = Code.cond (.tmp 91) (cL q91) Code.skip := by kernel_rfl
theorem lb_eq : lb = Code.seq q1 (Code.seq qb q14) := by kernel_rfl
theorem skip_ok {R : T AV} {H : T XO} {a : Nat} : CodeS Tryz.prog 92 .skip R H a .normal R H a := ⟨Nat.le_refl a, .refl H a a, fun F g act w hd hp hf => wp_skip ⟨rfl, g, .refl g a a, hp⟩⟩
include hL hS hin hcl hxl hx
theorem true_ok (hcv : cs[i]? = some (.raw (.bool true))) : CodeS Tryz.prog 92 q17c (rL (rI n i cs xs h s u ++ [(13, iv 0), (14, iv 0)])) (hI tk [m0, m1, m2, m3, m4, m5]) 10114 .normal
    (rL (rI n i cs xs x (IntKind.i64.wrap (s + x)) u ++ [(13, iv 1), (14, iv (IntKind.i64.wrap (s + x)))])) (hI tk [m0, m1, m2, m3, m4, m5]) 10114 := by
  rw [q17c_eq]
  refine codeS_seq (q17_ok hL hS h s u tk m0 m1 m2 m3 m4 m5 hin hcl true hcv) ?_
  rw [q52_eq]
  refine codeS_cond (t := true) (by kernel_rfl) ?_
  rw [if_pos rfl, qT_eq]
  refine CodeS.sub (l0 := rI n i cs xs h s u ++ [(13, iv 0), (14, iv 0)]) ?_ (by kernel_rfl)
  exact codeS_seq (q18_ok hL hS h s u x tk m0 m1 m2 m3 m4 m5 hin hxl hx) (codeS_seq (q19_ok hL hS x s u x tk m0 m1 m2 m3 m4 m5 hin hxl hx) (q20_ok hL hS x (IntKind.i64.wrap (s + x)) u tk m0 m1 m2 m3 m4 m5))
theorem false_ok (hcv : cs[i]? = some (.raw (.bool false))) : CodeS Tryz.prog 92 q17c (rL (rI n i cs xs h s u ++ [(13, iv 0), (14, iv 0)])) (hI tk [m0, m1, m2, m3, m4, m5]) 10114 .normal
    (rL (rI n i cs xs h s (IntKind.i64.wrap (u + x)) ++ [(13, iv 0), (14, iv (IntKind.i64.wrap (u + x)))])) (hI tk [m0, m1, m2, m3, m4, m5]) 10114 := by
  rw [q17c_eq]
  refine codeS_seq (q17_ok hL hS h s u tk m0 m1 m2 m3 m4 m5 hin hcl false hcv) ?_
  rw [q52_eq]
  refine codeS_cond (t := false) (by kernel_rfl) ?_
  rw [if_neg (by simp), qE_eq]
  refine CodeS.sub (l0 := rI n i cs xs h s u ++ [(13, iv 0), (14, iv 0)]) ?_ (by kernel_rfl)
  exact codeS_seq (q21_ok hL hS h s u x tk m0 m1 m2 m3 m4 m5 hin hxl hx) (q22_ok hL hS h s (IntKind.i64.wrap (u + x)) tk m0 m1 m2 m3 m4 m5)
end
end Go.Ex
