import Derived.Test.YtmgkhfnhaeplgaaIa1
import Derived.Test.YtmgkhfnhaeplgaaIz
import Derived.Test.YtmgkhfnhaeplgaaIa2
namespace Go.Proofs.Ytmgkhfnhaeplgaa
open Go
set_option linter.unusedSimpArgs false
set_option linter.unusedVariables false

/-! Names, kinds, clocks, what is late: as the reference tells them. Plain. -/
def hasB (l : List Bs) (s : Bs) : Bool := l.any fun x => decide (x = s)
def varsN (n : Nd) : List Vr := n.ins ++ n.outs ++ n.locs
def Vr0 : Vr := ⟨[], 0, [], false, 0⟩
def Eqn0 : Eqn := ⟨[], Ex0, 0⟩
def findL (s : Bs) : List Vr → Vr × Bool
  | [] => (Vr0, false)
  | v :: l => if v.name = s then (v, true) else findL s l
def findV (n : Nd) (s : Bs) : Vr × Bool := findL s (varsN n)
def nodeL (s : Bs) : List Nd → Nat → Int
  | [], _ => -1
  | n :: l, i => if n.name = s then (i : Int) else nodeL s l (i + 1)
def nodeOf (l : List Nd) (s : Bs) : Int := nodeL s l 0
def eqOfL (s : Bs) : List Eqn → Eqn × Bool
  | [] => (Eqn0, false)
  | q :: l => if q.name = s then (q, true) else eqOfL s l
def eqOf (n : Nd) (s : Bs) : Eqn × Bool := eqOfL s n.eqs
def inputL (s : Bs) (l : List Vr) : Bool := l.any fun v => decide (v.name = s)
abbrev Ck := Nat × Nat
def failC (c : Ck) (e a : Nat) : Ck := if c.1 = 0 then (e, a) else c
def nameOk (ahead : List Nd) (n : Nd) (op nm : Bs) (kids : Nat) : Bool :=
  if op = ([118, 97, 114] : Bs) ∨ op = ([119, 104, 101, 110] : Bs) ∨ op = ([109, 101, 114, 103, 101] : Bs) then (findV n nm).2
  else if op = ([99, 97, 108, 108] : Bs) then
    let k := nodeOf ahead nm
    decide (0 ≤ k) && (match ahead[k.toNat]? with | some m => decide (m.outs.length = 1) && decide (m.ins.length = kids) | none => false)
  else true
mutual
def namesE (ahead : List Nd) (n : Nd) (c : Ck) : Ex → Ck
  | .mk op nm _ at_ ks => namesL ahead n (if nameOk ahead n op nm ks.length then c else failC c 8 at_) ks
def namesL (ahead : List Nd) (n : Nd) (c : Ck) : List Ex → Ck
  | [] => c
  | e :: l => namesL ahead n (namesE ahead n c e) l
end
def nameV (pre : List Vr) (v : Vr) (c : Ck) : Ck :=
  let c := if inputL v.name pre then failC c 8 v.at_ else c
  if decide (v.on = []) || inputL v.on pre then c else failC c 8 v.at_
def namesV : List Vr → List Vr → Ck → Ck
  | _, [], c => c
  | pre, v :: r, c => namesV (pre ++ [v]) r (nameV pre v c)
def nameQ (ahead : List Nd) (n : Nd) (pre : List Eqn) (q : Eqn) (c : Ck) : Ck :=
  namesE ahead n (if !(findV n q.name).2 || inputL q.name n.ins || pre.any (fun p => decide (p.name = q.name)) then failC c 8 q.at_ else c) q.e
def namesQ (ahead : List Nd) (n : Nd) : List Eqn → List Eqn → Ck → Ck
  | _, [], c => c
  | pre, q :: r, c => namesQ ahead n (pre ++ [q]) r (nameQ ahead n pre q c)
def namesO (n : Nd) : List Vr → Ck → Ck
  | [], c => c
  | v :: r, c => namesO n r (if (eqOf n v.name).2 then c else failC c 8 v.at_)
def nameN (pre : List Nd) (n : Nd) (c : Ck) : Ck :=
  let c := if decide (0 ≤ nodeOf pre n.name) || decide (n.outs = []) then failC c 8 n.at_ else c
  namesO n (n.outs ++ n.locs) (namesQ pre n [] n.eqs (namesV [] (varsN n) c))
def namesN : List Nd → List Nd → Ck → Ck
  | _, [], c => c
  | pre, n :: r, c => namesN (pre ++ [n]) r (nameN pre n c)
def names (l : List Nd) : Ck := namesN [] l (0, 0)

/-! Kinds. -/
def kindOp (l : List Nd) (n : Nd) (op nm : Bs) (k : List Nat) : Bool × Nat :=
  let k0 := k.getD 0 0
  let k1 := k.getD 1 0
  let k2 := k.getD 2 0
  if op = ([105, 110, 116] : Bs) then (true, 2)
  else if op = ([98, 111, 111, 108] : Bs) then (true, 1)
  else if op = ([118, 97, 114] : Bs) then (true, (findV n nm).1.kind)
  else if op = ([110, 111, 116] : Bs) then (decide (k0 = 1), 1)
  else if op = ([110, 101, 103] : Bs) then (decide (k0 = 2), 2)
  else if op = ([112, 114, 101] : Bs) then (true, k0)
  else if op = ([43] : Bs) ∨ op = ([45] : Bs) ∨ op = ([42] : Bs) ∨ op = ([47] : Bs) ∨ op = ([109, 111, 100] : Bs) then (decide (k0 = 2) && decide (k1 = 2), 2)
  else if op = ([61] : Bs) ∨ op = ([60, 62] : Bs) then (decide (k0 = k1), 1)
  else if op = ([60] : Bs) ∨ op = ([60, 61] : Bs) ∨ op = ([62] : Bs) ∨ op = ([62, 61] : Bs) then (decide (k0 = 2) && decide (k1 = 2), 1)
  else if op = ([97, 110, 100] : Bs) ∨ op = ([111, 114] : Bs) ∨ op = ([120, 111, 114] : Bs) then (decide (k0 = 1) && decide (k1 = 1), 1)
  else if op = ([45, 62] : Bs) ∨ op = ([102, 98, 121] : Bs) then (decide (k0 = k1), k0)
  else if op = ([105, 102] : Bs) then (decide (k0 = 1) && decide (k1 = k2), k1)
  else if op = ([119, 104, 101, 110] : Bs) then (decide ((findV n nm).1.kind = 1), k0)
  else if op = ([109, 101, 114, 103, 101] : Bs) then (decide ((findV n nm).1.kind = 1) && decide (k0 = k1), k0)
  else if op = ([99, 97, 108, 108] : Bs) then
    match l[(nodeOf l nm).toNat]? with
    | some m => (decide ((m.ins.take k.length).map (·.kind) = k), (m.outs.getD 0 Vr0).kind)
    | none => (true, 0)
  else (true, 0)
mutual
def kindE (l : List Nd) (n : Nd) (c : Ck) : Ex → Nat × Ck
  | .mk op nm _ at_ ks =>
    let r := kindL l n c [] ks
    let x := kindOp l n op nm r.1
    (x.2, if x.1 then r.2 else failC r.2 9 at_)
def kindL (l : List Nd) (n : Nd) (c : Ck) (acc : List Nat) : List Ex → List Nat × Ck
  | [] => (acc, c)
  | e :: r => kindL l n (kindE l n c e).2 (acc ++ [(kindE l n c e).1]) r
end
def typesV (n : Nd) : List Vr → Ck → Ck
  | [], c => c
  | v :: r, c => typesV n r (if v.on ≠ [] ∧ (findV n v.on).1.kind ≠ 1 then failC c 9 v.at_ else c)
def typesQ (l : List Nd) (n : Nd) : List Eqn → Ck → Ck
  | [], c => c
  | q :: r, c => typesQ l n r (if (kindE l n c q.e).1 ≠ (findV n q.name).1.kind then failC (kindE l n c q.e).2 9 q.at_ else (kindE l n c q.e).2)
def typesN (l : List Nd) : List Nd → Ck → Ck
  | [], c => c
  | n :: r, c => typesN l r (typesQ l n n.eqs (typesV n n.locs c))
def types (l : List Nd) : Ck := typesN l l (0, 0)

/-! Clocks. -/
structure Stp1 where
  name : Bs
  not : Bool
deriving DecidableEq
def clockF (n : Nd) : Nat → Vr × Bool → List Stp1 → List Stp1
  | 0, _, l => l
  | m + 1, v, l => if v.2 = true ∧ v.1.on ≠ [] then clockF n m (findV n v.1.on) (⟨v.1.on, v.1.not⟩ :: l) else l
def clockOf (n : Nd) (s : Bs) : List Stp1 := clockF n ((varsN n).length + 1) (findV n s) []
def clockR : List (List Stp1 × Bool) → List Stp1 × Bool → Nat → Ck → (List Stp1 × Bool) × Ck
  | [], x, _, c => (x, c)
  | y :: r, x, at_, c => if y.2 then clockR r x at_ c else if x.2 then clockR r (y.1, false) at_ c else clockR r x at_ (if x.1 = y.1 then c else failC c 10 at_)
def clockOp (n : Nd) (op nm : Bs) (nn : Int) (at_ : Nat) (all : List (List Stp1 × Bool)) (c : Ck) : (List Stp1 × Bool) × Ck :=
  let a0 := all.getD 0 ([], true)
  let a1 := all.getD 1 ([], true)
  if op = ([105, 110, 116] : Bs) ∨ op = ([98, 111, 111, 108] : Bs) then (([], true), c)
  else if op = ([118, 97, 114] : Bs) then ((clockOf n nm, false), c)
  else if op = ([119, 104, 101, 110] : Bs) then ((clockOf n nm ++ [⟨nm, decide (nn = 0)⟩], false), if a0.2 = false ∧ a0.1 ≠ clockOf n nm then failC c 10 at_ else c)
  else if op = ([109, 101, 114, 103, 101] : Bs) then
    let c1 := if a0.2 = false ∧ a0.1 ≠ clockOf n nm ++ [⟨nm, false⟩] then failC c 10 at_ else c
    ((clockOf n nm, false), if a1.2 = false ∧ a1.1 ≠ clockOf n nm ++ [⟨nm, true⟩] then failC c1 10 at_ else c1)
  else clockR all ([], true) at_ c
mutual
def clockE (n : Nd) (c : Ck) : Ex → (List Stp1 × Bool) × Ck
  | .mk op nm nn at_ ks =>
    let r := clockL n c [] ks
    clockOp n op nm nn at_ r.1 r.2
def clockL (n : Nd) (c : Ck) (acc : List (List Stp1 × Bool)) : List Ex → List (List Stp1 × Bool) × Ck
  | [] => (acc, c)
  | e :: r => clockL n (clockE n c e).2 (acc ++ [(clockE n c e).1]) r
end
def clocksQ (n : Nd) : List Eqn → Ck → Ck
  | [], c => c
  | q :: r, c => clocksQ n r (if (clockE n c q.e).1.2 = false ∧ (clockE n c q.e).1.1 ≠ clockOf n q.name then failC (clockE n c q.e).2 10 q.at_ else (clockE n c q.e).2)
def clocksN : List Nd → Ck → Ck
  | [], c => c
  | n :: r, c => clocksN r (clocksQ n n.eqs c)
def clocks (l : List Nd) : Ck := clocksN l (0, 0)

/-! What is late. -/
mutual
def lateE (p : Bs → Bool) : Ex → Bool
  | .mk op nm _ _ ks => if op = ([118, 97, 114] : Bs) then p nm else if op = ([112, 114, 101] : Bs) then true else if op = ([45, 62] : Bs) ∨ op = ([102, 98, 121] : Bs) ∨ op = ([109, 101, 114, 103, 101] : Bs) ∨ op = ([99, 97, 108, 108] : Bs) ∨ op = ([105, 110, 116] : Bs) ∨ op = ([98, 111, 111, 108] : Bs) then false else lateL p ks
def lateL (p : Bs → Bool) : List Ex → Bool
  | [] => false
  | e :: l => lateE p e || lateL p l
end
def lateQ (names : List Bs) (q : Eqn) : List Bs := if !hasB names q.name && lateE (hasB names) q.e then names ++ [q.name] else names
def lateRound : List Eqn → List Bs → List Bs
  | [], names => names
  | q :: r, names => lateRound r (lateQ names q)
def lateRounds (l : List Eqn) : Nat → List Bs → List Bs
  | 0, names => names
  | m + 1, names => lateRounds l m (lateRound l names)
def lateNames (n : Nd) : List Bs := lateRounds n.eqs (n.eqs.length + 1) []
def lateN (n : Nd) : List Bs := ((varsN n).filter fun v => hasB (lateNames n) v.name).map (·.name)
def partB (p : Bs → Bool) (op nm : Bs) (ks : List Ex) : Bool :=
  if op = ([112, 114, 101] : Bs) ∨ op = ([102, 98, 121] : Bs) ∨ op = ([99, 97, 108, 108] : Bs) then lateL p ks
  else if op = ([45, 62] : Bs) then (match ks with | [] => false | e :: _ => lateE p e)
  else if op = ([119, 104, 101, 110] : Bs) then p nm
  else if op = ([109, 101, 114, 103, 101] : Bs) then p nm || lateL p ks
  else false
mutual
def wrongE (p : Bs → Bool) : Ex → Option Nat
  | .mk op nm _ at_ ks => match wrongL p ks with
    | some a => some a
    | none => if partB p op nm ks then some at_ else none
def wrongL (p : Bs → Bool) : List Ex → Option Nat
  | [] => none
  | e :: l => match wrongE p e with
    | some a => some a
    | none => wrongL p l
end
def initC (c : Ck) (x : Option Nat) : Ck := match x with | some a => failC c 11 a | none => c
def toldB (n : Nd) (s : Bs) : Bool := (n.outs.any fun v => decide (v.name = s)) || n.locs.any fun v => decide (v.on = s)
def initQ (p : Bs → Bool) (n : Nd) (q : Eqn) (c : Ck) : Ck :=
  let c := initC c (wrongE p q.e)
  if toldB n q.name && p q.name then failC c 11 q.at_ else c
def initsQ (p : Bs → Bool) (n : Nd) : List Eqn → Ck → Ck
  | [], c => c
  | q :: r, c => initsQ p n r (initQ p n q c)
def initsN : List Nd → Ck → Ck
  | [], c => c
  | n :: r, c => initsN r (initsQ (hasB (lateN n)) n n.eqs c)
def inits (l : List Nd) : Ck := initsN l (0, 0)
end Go.Proofs.Ytmgkhfnhaeplgaa

namespace Go.Proofs.Ytmgkhfnhaeplgaa
open Go Go.Am Go.Proofs
set_option linter.unusedSimpArgs false
set_option linter.unusedVariables false
set_option maxRecDepth 20000
set_option maxHeartbeats 8000000
/-! The reference's small functions. -/
abbrev bsL (l : List Bs) : List AV := l.map AV.str
theorem bsL_len (l : List Bs) : (bsL l).length = l.length * 1 := by rw [List.length_map, Nat.mul_one]
theorem Bad_calls (H : AHeap) (e a : Int) : ACalls Try.prog 12 [.agg [avI e, avI a]] H fun r H' => r = .agg [avI e, avI a] ∧ H' = H := by
  refine acalls_of_aw1 Try.func12 rfl (by decide) ?_
  (first | focus (refine yy3 ?_; refine zb1 rfl rfl rfl (fun oN hoN => ?_); refine awl_alloc rfl rfl rfl (fun oN hoN => ?_); refine yy4 ?_; refine yy13 ?_; refine yy21 ?_; refine yy26 ?_; refine yy15 ?_; refine yy106 ?_; rotate_left) | fail)
  exact ⟨.inl rfl, _, _, _, Ent.cellRet 2 [avI e, avI a] rfl auto_heap (by ((repeat' (first | exact WC.nil | apply WC.cons)); all_goals (first | exact W.of rfl | exact W.int rfl | exact W.nilb rfl | exact W.empb rfl | exact W.bysx rfl | exact W.nils rfl | exact W.emps rfl | exact W.slsx rfl))) auto_hs, ret_1 rfl (rv1_agg (m := 2) rfl rfl rfl (by decide)), rfl, rfl⟩
theorem has_calls (H : AHeap) (l : List Bs) (s : Bs) (hl : l.length ≤ 8000000) : ACalls Try.prog 32 [.sls l.length (bsL l), .str s] H fun r H' => r = avB (hasB l s) ∧ H' = H := by
  have hml := bsL_len l
  refine acalls_of_aw2 Try.func32 rfl (by decide) ?_
  generalize hZ : hasB l s = Z
  (first | focus (refine yy12 ?_; refine yy34 ?_; refine yy47 ?_; rotate_left) | fail)
  refine aw_loop (fun mm R1 H1 => ∃ (i : Nat), i ≤ l.length ∧ hasB (l.drop i) s = Z ∧ H1 = H ∧ R1 = [(0, .sls l.length (bsL l)), (1, .str s), (5, avI i)] ∧ l.length - i = mm) ?_ ?_
  · exact ⟨_, _, _, Ent.sub _ (by (repeat' (first | exact RSub.nil _ | apply RSub.cons)); all_goals rfl), 0, Nat.zero_le _, hZ, rfl, rfl, rfl⟩
  clear hZ
  rintro mm R1 H1 ⟨i, hi, hZ, rfl, rfl, rfl⟩
  by_cases hlt : i < l.length
  · have hg : l[i]? = some l[i] := List.getElem?_eq_getElem hlt
    have hd : l.drop i = l[i] :: l.drop (i + 1) := List.drop_eq_getElem_cons hlt
    rw [hd] at hZ
    generalize l[i] = v at *
    simp only [hasB, List.any_cons] at hZ
    clear hd
    by_cases hv : v = s
    · subst hv
      simp only [decide_true, Bool.true_or] at hZ
      subst hZ
      (first | focus (refine yy42 ?_; refine aw_condp rfl (fun hc => ?_) (fun hc => ?_); refine yy10 ?_; refine yy77 ?_; refine yy32 ?_; refine yy43 ?_; refine yy100 ?_; refine aw_condp rfl (fun hc => ?_) (fun hc => ?_); refine yy87 ?_; refine yy84 ?_; rotate_left; exact absurd hc auto_no; exact absurd hc auto_no) | fail)
      all_goals exact ⟨.inl rfl, _, _, _, Ent.refl _ _, ret1 rfl rfl, rfl, rfl⟩
    · simp only [hv, decide_false, Bool.false_or] at hZ
      replace hv := Hdq.mk hv
      (first | focus (refine yy42 ?_; refine aw_condp rfl (fun hc => ?_) (fun hc => ?_); refine yy10 ?_; refine yy77 ?_; refine yy32 ?_; refine yy43 ?_; refine yy100 ?_; refine aw_condp rfl (fun hc => ?_) (fun hc => ?_); exact absurd hc (Hdq.out (by assumption)); refine aw_skip ?_; refine yy28 ?_; rotate_left; exact absurd hc auto_no) | fail)
      all_goals exact ⟨l.length - (i + 1), _, _, by omega, Ent.sub _ (by (repeat' (first | exact RSub.nil _ | apply RSub.cons)); all_goals rfl), i + 1, by omega, hZ, rfl, rfl, rfl⟩
  · obtain rfl : i = l.length := by omega
    rw [List.drop_length] at hZ
    subst hZ
    (first | focus (refine yy42 ?_; refine aw_condp rfl (fun hc => ?_) (fun hc => ?_); exact absurd hc auto_no; refine yy24 ?_; refine yy12 ?_; refine aw_ret ?_; rotate_left) | fail)
    exact ⟨.inl rfl, _, _, _, Ent.refl _ _, ret1 rfl rfl, rfl, rfl⟩
theorem Texts_calls (H : AHeap) (a b : List Bs) (ha : a.length ≤ 2000000) (hb : b.length ≤ 2000000) : ACalls Try.prog 15 [.sls a.length (bsL a), .sls b.length (bsL b)] H fun r H' => r = avB (decide (a = b)) ∧ H' = H := by
  have hma := bsL_len a
  have hmb := bsL_len b
  refine acalls_of_aw2 Try.func15 rfl (by decide) ?_
  by_cases hab : a.length = b.length
  · (first | focus (refine yy12 ?_; refine yy34 ?_; refine yy30 ?_; refine yy113 ?_; refine yy30 ?_; refine yy113 ?_; refine yy71 ?_; refine yy4 ?_; refine aw_condp rfl (fun hc => ?_) (fun hc => ?_); exact absurd hc auto_no; refine yy11 ?_; refine yy34 ?_; refine yy47 ?_; rotate_left) | fail)
    refine aw_loop (fun mm R1 H1 => ∃ (i : Nat), i ≤ a.length ∧ a.take i = b.take i ∧ H1 = H ∧ R1 = [(0, .sls a.length (bsL a)), (1, .sls b.length (bsL b)), (5, avI i)] ∧ a.length - i = mm) ?_ ?_
    · exact ⟨_, _, _, Ent.sub _ (by (repeat' (first | exact RSub.nil _ | apply RSub.cons)); all_goals rfl), 0, Nat.zero_le _, rfl, rfl, rfl, rfl⟩
    rintro mm R1 H1 ⟨i, hi, hZ, rfl, rfl, rfl⟩
    by_cases hlt : i < a.length
    · have hg : a[i]? = some a[i] := List.getElem?_eq_getElem hlt
      have hk : b[i]? = some b[i] := List.getElem?_eq_getElem (by omega)
      have ea : a.take (i + 1) = a.take i ++ [a[i]] := by rw [List.take_add_one, hg]; rfl
      have eb : b.take (i + 1) = b.take i ++ [b[i]] := by rw [List.take_add_one, hk]; rfl
      generalize a[i] = v at *
      generalize b[i] = u at *
      replace ea := Hdn.mk ea
      replace eb := Hdn.mk eb
      replace hZ := Hdn.mk hZ
      (first | focus (refine yy42 ?_; refine aw_condp rfl (fun hc => ?_) (fun hc => ?_); refine yy10 ?_; refine yy69 ?_; (apply awt_s; · exact s_move (v := .sls _ _) rfl); (apply awt_s; · exact s_move (v := .raw _) rfl); (apply awt_s; · exact s_indexAddr_sls rfl rfl auto_len); (apply awt_s; · exact s_load_pce rfl auto_idx); (apply awt_s; · exact s_move (v := .sls _ _) rfl); (apply awt_s; · exact s_move (v := .raw _) rfl); (apply awt_s; · exact s_indexAddr_sls rfl rfl auto_len); (apply awt_s; · exact s_load_pce rfl auto_idx); (apply awt_s; · exact s_strne rfl rfl); refine yy73 ?_; refine aw_condp rfl (fun hc => ?_) (fun hc => ?_); refine yy87 ?_; refine yy84 ?_; rotate_left; refine aw_skip ?_; refine yy28 ?_; rotate_left; exact absurd hc auto_no) | fail)
      · refine ⟨.inl rfl, _, _, _, Ent.refl _ _, ret1 rfl rfl, congrArg avB (show false = decide (a = b) from (decide_eq_false fun e => hc (by rw [e] at hg; rw [hg] at hk; exact Option.some.inj hk)).symm), rfl⟩
      · exact ⟨a.length - (i + 1), _, _, by omega, Ent.sub _ (by (repeat' (first | exact RSub.nil _ | apply RSub.cons)); all_goals rfl), i + 1, by omega, by rw [ea.out, eb.out, hZ.out, Decidable.byContradiction hc], rfl, rfl, rfl⟩
    · obtain rfl : i = a.length := by omega
      rw [List.take_length] at hZ
      rw [hab, List.take_length] at hZ
      subst hZ
      (first | focus (refine yy42 ?_; refine aw_condp rfl (fun hc => ?_) (fun hc => ?_); exact absurd hc auto_no; refine yy24 ?_; refine yy12 ?_; refine aw_ret ?_; rotate_left) | fail)
      exact ⟨.inl rfl, _, _, _, Ent.refl _ _, ret1 rfl rfl, congrArg avB (decide_eq_true rfl).symm, rfl⟩
  · (first | focus (refine yy12 ?_; refine yy34 ?_; refine yy30 ?_; refine yy113 ?_; refine yy30 ?_; refine yy113 ?_; refine yy71 ?_; refine yy4 ?_; refine aw_condp rfl (fun hc => ?_) (fun hc => ?_); replace hc := hide_nat hc; refine yy12 ?_; refine aw_ret ?_; refine k_seq_ret ?_; rotate_left; exact absurd hc auto_no) | fail)
    exact ⟨.inl rfl, _, _, _, Ent.refl _ _, ret1 rfl rfl, congrArg avB (decide_eq_false fun e => hab (by rw [e])).symm, rfl⟩
abbrev ckA (c : Ck) : List AV := [avI c.1, avI c.2]
theorem fail_calls6 {o : Nat} (H : AHeap) (c : Ck) (e a : Nat) (h : H o = some (.cel (ckA c))) :
    ACalls Try.prog 33 [.ptr o 0, avI e, avI a] H fun r H' => r = .tup [] ∧ H' = H.set o (.cel (ckA (failC c e a))) := by
  unfold failC
  obtain ⟨c1, c2⟩ := c
  dsimp only [ckA] at *
  refine acalls_of_aw3 Try.func33 rfl (by decide) ?_
  (first | focus (refine yy7 ?_; refine yy57 ?_; refine yy94 ?_; refine yy4 ?_; refine aw_condp rfl (fun hc => ?_) (fun hc => ?_); refine yy121 ?_; refine yy9 ?_; refine yy9 ?_; refine yy26 ?_; refine yy80 ?_; refine yy136 ?_; refine yy37 ?_; rotate_left; replace hc := hide_nat hc; refine aw_skip ?_; rotate_left) | fail)
  · exact ⟨.inr rfl, _, _, _, Ent.refl _ _, ret0 rfl, rfl, by rw [if_pos (by omega)]; rfl⟩
  · exact ⟨.inr rfl, _, _, _, Ent.refl _ _, ret0 rfl, rfl, by rw [if_neg hc.out]; exact (AHeap.set_id h).symm⟩
theorem NodeOf_calls (H : AHeap) (l : List Nd) (s : Bs) (hl : l.length ≤ 2000000) : ACalls Try.prog 42 [ndsA l, .str s] H fun r H' => r = avI (nodeOf l s) ∧ H' = H := by
  have hml := nd_len l
  refine acalls_of_aw2 Try.func42 rfl (by decide) ?_
  unfold nodeOf
  generalize hZ : nodeL s l 0 = Z
  (first | focus (refine yy12 ?_; refine yy34 ?_; refine yy47 ?_; rotate_left) | fail)
  refine aw_loop (fun mm R1 H1 => ∃ (i : Nat), i ≤ l.length ∧ nodeL s (l.drop i) i = Z ∧ H1 = H ∧ R1 = [(0, ndsA l), (1, .str s), (5, avI i)] ∧ l.length - i = mm) ?_ ?_
  · exact ⟨_, _, _, Ent.sub _ (by (repeat' (first | exact RSub.nil _ | apply RSub.cons)); all_goals rfl), 0, Nat.zero_le _, hZ, rfl, rfl, rfl⟩
  clear hZ
  rintro mm R1 H1 ⟨i, hi, hZ, rfl, rfl, rfl⟩
  by_cases hlt : i < l.length
  · have hg : l[i]? = some l[i] := List.getElem?_eq_getElem hlt
    have hd : l.drop i = l[i] :: l.drop (i + 1) := List.drop_eq_getElem_cons hlt
    rw [hd] at hZ
    generalize l[i] = v at *
    have y0 := nd_at hg (j := 0) (by decide) rfl
    clear hg hd
    unfold nodeL at hZ
    by_cases hv : v.name = s
    · rw [if_pos hv] at hZ
      subst hv
      subst hZ
      (first | focus (refine yy42 ?_; refine aw_condp rfl (fun hc => ?_) (fun hc => ?_); refine yy10 ?_; refine yy77 ?_; refine yy32 ?_; refine yy95 ?_; refine yy100 ?_; refine aw_condp rfl (fun hc => ?_) (fun hc => ?_); refine yy14 ?_; refine yy5 ?_; refine yy114 ?_; refine yy84 ?_; rotate_left; exact absurd hc auto_no; exact absurd hc auto_no) | fail)
      all_goals exact ⟨.inl rfl, _, _, _, Ent.refl _ _, ret1 rfl rfl, rfl, rfl⟩
    · rw [if_neg hv] at hZ
      replace hv := Hdq.mk hv
      (first | focus (refine yy42 ?_; refine aw_condp rfl (fun hc => ?_) (fun hc => ?_); refine yy10 ?_; refine yy77 ?_; refine yy32 ?_; refine yy95 ?_; refine yy100 ?_; refine aw_condp rfl (fun hc => ?_) (fun hc => ?_); exact absurd hc (Hdq.out (by assumption)); refine aw_skip ?_; refine yy28 ?_; rotate_left; exact absurd hc auto_no) | fail)
      all_goals exact ⟨l.length - (i + 1), _, _, by omega, Ent.sub _ (by (repeat' (first | exact RSub.nil _ | apply RSub.cons)); all_goals rfl), i + 1, by omega, hZ, rfl, rfl, rfl⟩
  · obtain rfl : i = l.length := by omega
    rw [List.drop_length] at hZ
    subst hZ
    (first | focus (refine yy42 ?_; refine aw_condp rfl (fun hc => ?_) (fun hc => ?_); exact absurd hc auto_no; refine yy24 ?_; refine yy12 ?_; refine aw_ret ?_; rotate_left) | fail)
    exact ⟨.inl rfl, _, _, _, Ent.refl _ _, ret1 rfl rfl, rfl, rfl⟩
theorem input_calls (H : AHeap) (n : Nd) (s : Bs) (hl : n.ins.length ≤ 2000000) : ACalls Try.prog 44 [.agg n.cells, .str s] H fun r H' => r = avB (inputL s n.ins) ∧ H' = H := by
  obtain ⟨nm, l, outs, locs, eqs, at_⟩ := n
  simp only [Nd.cells] at *
  have hml := vr_len l
  refine acalls_of_aw2 Try.func44 rfl (by decide) ?_
  generalize hZ : inputL s l = Z
  (first | focus (refine yy3 ?_; refine zb1 rfl rfl rfl (fun oN hoN => ?_); refine yy134 ?_; refine yy47 ?_; rotate_left) | fail)
  refine aw_loop (fun mm R1 H1 => ∃ (i : Nat), i ≤ l.length ∧ inputL s (l.drop i) = Z ∧ H1 = H.set oN (.cel [.str nm, .sls l.length (vrL l), .sls outs.length (vrL outs), .sls locs.length (vrL locs), .sls eqs.length (eqL eqs), avI at_]) ∧ R1 = [(1, .str s), (2, .ptr oN 0), (5, avI i)] ∧ l.length - i = mm) ?_ ?_
  · exact ⟨_, _, _, Ent.sub _ (by (repeat' (first | exact RSub.nil _ | apply RSub.cons)); all_goals rfl), 0, Nat.zero_le _, hZ, rfl, rfl, rfl⟩
  clear hZ
  rintro mm R1 H1 ⟨i, hi, hZ, rfl, rfl, rfl⟩
  by_cases hlt : i < l.length
  · have hg : l[i]? = some l[i] := List.getElem?_eq_getElem hlt
    have hd : l.drop i = l[i] :: l.drop (i + 1) := List.drop_eq_getElem_cons hlt
    rw [hd] at hZ
    generalize l[i] = v at *
    have y0 := vr_at hg (j := 0) (by decide) rfl
    simp only [inputL, List.any_cons] at hZ
    clear hg hd
    by_cases hv : v.name = s
    · subst hv
      simp only [decide_true, Bool.true_or] at hZ
      subst hZ
      (first | focus (refine yy19 ?_; refine aw_condp rfl (fun hc => ?_) (fun hc => ?_); refine yy10 ?_; refine yy13 ?_; refine yy32 ?_; refine yy95 ?_; refine yy100 ?_; refine aw_condp rfl (fun hc => ?_) (fun hc => ?_); refine yy87 ?_; refine yy84 ?_; rotate_left; exact absurd hc auto_no; exact absurd hc auto_no) | fail)
      all_goals exact ⟨.inl rfl, _, _, _, Ent.drop_set _ hoN _, ret1 rfl rfl, rfl, rfl⟩
    · simp only [hv, decide_false, Bool.false_or] at hZ
      replace hv := Hdq.mk hv
      (first | focus (refine yy19 ?_; refine aw_condp rfl (fun hc => ?_) (fun hc => ?_); refine yy10 ?_; refine yy13 ?_; refine yy32 ?_; refine yy95 ?_; refine yy100 ?_; refine aw_condp rfl (fun hc => ?_) (fun hc => ?_); exact absurd hc (Hdq.out (by assumption)); refine aw_skip ?_; refine yy28 ?_; rotate_left; exact absurd hc auto_no) | fail)
      all_goals exact ⟨l.length - (i + 1), _, _, by omega, Ent.sub _ (by (repeat' (first | exact RSub.nil _ | apply RSub.cons)); all_goals rfl), i + 1, by omega, hZ, rfl, rfl, rfl⟩
  · obtain rfl : i = l.length := by omega
    rw [List.drop_length] at hZ
    subst hZ
    (first | focus (refine yy19 ?_; refine aw_condp rfl (fun hc => ?_) (fun hc => ?_); exact absurd hc auto_no; refine yy24 ?_; refine yy12 ?_; refine aw_ret ?_; rotate_left) | fail)
    exact ⟨.inl rfl, _, _, _, Ent.drop_set _ hoN _, ret1 rfl rfl, rfl, rfl⟩
theorem Vars_calls (H : AHeap) (n : Nd) (h1 : n.ins.length ≤ 2000000) (h2 : n.outs.length ≤ 2000000) (h3 : n.locs.length ≤ 2000000) : ACalls Try.prog 36 [.agg n.cells] H fun r H' => r = .sls (varsN n).length (vrL (varsN n)) ∧ H' = H := by
  obtain ⟨nm, l, outs, locs, eqs, at_⟩ := n
  simp only [Nd.cells, varsN] at *
  have m1 := vr_len l
  have m2 := vr_len outs
  have m3 := vr_len locs
  rw [vr_app, vr_app, List.length_append, List.length_append]
  generalize vrL l = L1 at *
  generalize vrL outs = L2 at *
  generalize vrL locs = L3 at *
  generalize eqL eqs = L4 at *
  generalize l.length = z1 at *
  generalize outs.length = z2 at *
  generalize locs.length = z3 at *
  refine acalls_of_aw1 Try.func36 rfl (by decide) ?_
  (first | focus (refine yy3 ?_; refine zb1 rfl rfl rfl (fun oN hoN => ?_); refine yy5 ?_; refine yy3 ?_; refine awl_s rfl (s_buildSlice0) ?_; refine yy21 ?_; refine awl_own_emp_cel rfl rfl rfl auto_src auto_len auto_len (fun oN hoN => ?_); refine yy40 ?_; refine yy31 ?_; refine yy22 ?_; refine yy21 ?_; refine za2 rfl rfl rfl (by assumption) auto_len auto_src auto_len auto_len (fun oN hoN => ?_); refine yy40 ?_; refine yy31 ?_; refine yy22 ?_; refine yy21 ?_; refine za2 rfl rfl rfl (by assumption) auto_len auto_src auto_len auto_len (fun oN hoN => ?_); refine yy40 ?_; refine yy106 ?_; rotate_left) | fail)
  exact ⟨.inl rfl, _, _, _, (Ent.seal_cel1 2 rfl (by rw [List.length_append, List.length_append, m1, m2, m3, ← Nat.add_mul, ← Nat.add_mul]) hoN).trans (Ent.gc auto_sub), ret1 rfl rfl, rfl, rfl⟩
abbrev vrZ : List AV := [.raw (.string ⟨#[]⟩), avI 0, .raw (.string ⟨#[]⟩), avB false, avI 0]
theorem vr_get5 {l : List Vr} {i : Nat} {v : Vr} (h : l[i]? = some v) : ((vrL l).drop (i * 5)).take 5 = [.str v.name, avI v.kind, .str v.on, avB v.not, avI v.at_] := vr_get h
theorem Find_calls (H : AHeap) (n : Nd) (s : Bs) (h1 : n.ins.length ≤ 2000000) (h2 : n.outs.length ≤ 2000000) (h3 : n.locs.length ≤ 2000000) : ACalls Try.prog 43 [.agg n.cells, .str s] H fun r H' => r = .tup [.agg (findV n s).1.cells, avB (findV n s).2] ∧ H' = H := by
  have cv := fun H => Vars_calls H n h1 h2 h3
  unfold findV
  have hl : (varsN n).length ≤ 6000000 := by unfold varsN; rw [List.length_append, List.length_append]; omega
  have hml := vr_len (varsN n)
  generalize varsN n = l at *
  obtain ⟨nm, ins, outs, locs, eqs, at_⟩ := n
  simp only [Nd.cells] at *
  refine acalls_of_aw2 Try.func43 rfl (by decide) ?_
  generalize hZ : findL s l = Z
  (first | focus (refine yy3 ?_; refine zb1 rfl rfl rfl (fun oN hoN => ?_); refine awl_alloc rfl rfl rfl (fun oN hoN => ?_); refine yy5 ?_; refine yy105 ?_; (((refine awl_callc rfl auto_wl (cv _) (fun r H' hpost => ?_); obtain ⟨rfl, rfl⟩ := hpost))); refine yy99 ?_; refine yy65 ?_; refine yy47 ?_; rotate_left) | fail)
  have hR0 : H oN = none := by (first | assumption | exact AHeap.none_of_set ((by assumption)) | exact AHeap.none_of_set (AHeap.none_of_set ((by assumption))) | exact AHeap.none_of_set (AHeap.none_of_set (AHeap.none_of_set ((by assumption)))) | exact AHeap.none_of_set (AHeap.none_of_set (AHeap.none_of_set (AHeap.none_of_set ((by assumption))))) | exact AHeap.none_of_set (AHeap.none_of_set (AHeap.none_of_set (AHeap.none_of_set (AHeap.none_of_set ((by assumption)))))) | exact AHeap.none_of_set (AHeap.none_of_set (AHeap.none_of_set (AHeap.none_of_set (AHeap.none_of_set (AHeap.none_of_set ((by assumption))))))) | exact AHeap.none_of_set (AHeap.none_of_set (AHeap.none_of_set (AHeap.none_of_set (AHeap.none_of_set (AHeap.none_of_set (AHeap.none_of_set ((by assumption)))))))) | exact AHeap.none_of_set (AHeap.none_of_set (AHeap.none_of_set (AHeap.none_of_set (AHeap.none_of_set (AHeap.none_of_set (AHeap.none_of_set (AHeap.none_of_set ((by assumption))))))))) | exact AHeap.none_of_set (AHeap.none_of_set (AHeap.none_of_set (AHeap.none_of_set (AHeap.none_of_set (AHeap.none_of_set (AHeap.none_of_set (AHeap.none_of_set (AHeap.none_of_set ((by assumption)))))))))) | exact AHeap.none_of_set (AHeap.none_of_set (AHeap.none_of_set (AHeap.none_of_set (AHeap.none_of_set (AHeap.none_of_set (AHeap.none_of_set (AHeap.none_of_set (AHeap.none_of_set (AHeap.none_of_set ((by assumption))))))))))))
  obtain ⟨oR, hoRe⟩ : ∃ x, x = oN := ⟨_, rfl⟩
  subst hoRe
  refine aw_loop (fun mm R1 H1 => ∃ (i : Nat), i ≤ l.length ∧ findL s (l.drop i) = Z ∧ H1 = H.set oR (.cel vrZ) ∧ R1 = [(1, .str s), (4, .ptr oR 0), (6, .sls l.length (vrL l)), (7, avI i)] ∧ l.length - i = mm) ?_ ?_
  · exact ⟨_, _, _, Ent.tog (by (repeat' (first | exact RSub.nil _ | apply RSub.cons)); all_goals rfl) auto_sub, 0, Nat.zero_le _, hZ, rfl, rfl, rfl⟩
  clear hZ hoN
  rintro mm R1 H1 ⟨i, hi, hZ, rfl, rfl, rfl⟩
  by_cases hlt : i < l.length
  · have hg : l[i]? = some l[i] := List.getElem?_eq_getElem hlt
    have hd : l.drop i = l[i] :: l.drop (i + 1) := List.drop_eq_getElem_cons hlt
    rw [hd] at hZ
    generalize l[i] = v at *
    have hseg := vr_get5 hg
    have y0 := vr_at hg (j := 0) (by decide) rfl
    unfold findL at hZ
    clear hg hd
    by_cases hv : v.name = s
    · rw [if_pos hv] at hZ
      subst hv
      subst hZ
      (first | focus (refine yy42 ?_; refine aw_condp rfl (fun hc => ?_) (fun hc => ?_); refine yy10 ?_; refine yy77 ?_; refine yy32 ?_; refine yy95 ?_; refine yy100 ?_; refine aw_condp rfl (fun hc => ?_) (fun hc => ?_); refine yy77 ?_; refine yy32 ?_; refine yy60 ?_; refine yy15 ?_; refine yy5 ?_; refine yy114 ?_; refine yy84 ?_; rotate_left; exact absurd hc auto_no; exact absurd hc auto_no) | fail)
      all_goals exact ⟨.inl rfl, _, _, _, Ent.cellRet 4 v.cells rfl auto_heap (by ((repeat' (first | exact WC.nil | apply WC.cons)); all_goals (first | exact W.of rfl | exact W.int rfl | exact W.nilb rfl | exact W.empb rfl | exact W.bysx rfl | exact W.nils rfl | exact W.emps rfl | exact W.slsx rfl))) auto_hs, ret_2 rfl (rv1_agg (m := 5) rfl rfl rfl (by decide)) (rv1_tmp rfl), rfl, rfl⟩
    · rw [if_neg hv] at hZ
      replace hv := Hdq.mk hv
      (first | focus (refine yy42 ?_; refine aw_condp rfl (fun hc => ?_) (fun hc => ?_); refine yy10 ?_; refine yy77 ?_; refine yy32 ?_; refine yy95 ?_; refine yy100 ?_; refine aw_condp rfl (fun hc => ?_) (fun hc => ?_); exact absurd hc (Hdq.out (by assumption)); refine aw_skip ?_; refine yy28 ?_; rotate_left; exact absurd hc auto_no) | fail)
      all_goals exact ⟨l.length - (i + 1), _, _, by omega, Ent.sub _ (by (repeat' (first | exact RSub.nil _ | apply RSub.cons)); all_goals rfl), i + 1, by omega, hZ, rfl, rfl, rfl⟩
  · obtain rfl : i = l.length := by omega
    rw [List.drop_length] at hZ
    subst hZ
    (first | focus (refine yy42 ?_; refine aw_condp rfl (fun hc => ?_) (fun hc => ?_); exact absurd hc auto_no; refine yy85 ?_; refine yy26 ?_; refine yy15 ?_; refine yy110 ?_; rotate_left) | fail)
    exact ⟨.inl rfl, _, _, _, Ent.cellRet 4 Vr0.cells rfl auto_heap (WC.cons (w_str0 rfl) (WC.cons (W.of rfl) (WC.cons (w_str0 rfl) (WC.cons (W.of rfl) (WC.cons (W.of rfl) WC.nil))))) auto_hs, ret_2 rfl (rv1_agg (m := 5) rfl rfl rfl (by decide)) (rv1_tmp rfl), rfl, rfl⟩
abbrev eqZ : List AV := [.raw (.string ⟨#[]⟩), .raw (.string ⟨#[]⟩), .raw (.string ⟨#[]⟩), avI 0, avI 0, .raw (.slice none 0 0), avI 0]
theorem EqOf_calls (H : AHeap) (n : Nd) (s : Bs) (hl : n.eqs.length ≤ 2000000) : ACalls Try.prog 46 [.agg n.cells, .str s] H fun r H' => r = .tup [.agg (eqOf n s).1.cells, avB (eqOf n s).2] ∧ H' = H := by
  obtain ⟨nm, ins, outs, locs, l, at_⟩ := n
  unfold eqOf
  simp only [Nd.cells] at *
  have hml := eq_len l
  refine acalls_of_aw2 Try.func46 rfl (by decide) ?_
  generalize hZ : eqOfL s l = Z
  (first | focus (refine yy3 ?_; refine zb1 rfl rfl rfl (fun oN hoN => ?_); refine awl_alloc rfl rfl rfl (fun oN hoN => ?_); refine yy134 ?_; refine yy47 ?_; rotate_left) | fail)
  rename_i oP hoP
  have hR0 : H oN = none := by (first | assumption | exact AHeap.none_of_set ((by assumption)) | exact AHeap.none_of_set (AHeap.none_of_set ((by assumption))) | exact AHeap.none_of_set (AHeap.none_of_set (AHeap.none_of_set ((by assumption)))) | exact AHeap.none_of_set (AHeap.none_of_set (AHeap.none_of_set (AHeap.none_of_set ((by assumption))))) | exact AHeap.none_of_set (AHeap.none_of_set (AHeap.none_of_set (AHeap.none_of_set (AHeap.none_of_set ((by assumption)))))) | exact AHeap.none_of_set (AHeap.none_of_set (AHeap.none_of_set (AHeap.none_of_set (AHeap.none_of_set (AHeap.none_of_set ((by assumption))))))) | exact AHeap.none_of_set (AHeap.none_of_set (AHeap.none_of_set (AHeap.none_of_set (AHeap.none_of_set (AHeap.none_of_set (AHeap.none_of_set ((by assumption)))))))) | exact AHeap.none_of_set (AHeap.none_of_set (AHeap.none_of_set (AHeap.none_of_set (AHeap.none_of_set (AHeap.none_of_set (AHeap.none_of_set (AHeap.none_of_set ((by assumption))))))))) | exact AHeap.none_of_set (AHeap.none_of_set (AHeap.none_of_set (AHeap.none_of_set (AHeap.none_of_set (AHeap.none_of_set (AHeap.none_of_set (AHeap.none_of_set (AHeap.none_of_set ((by assumption)))))))))) | exact AHeap.none_of_set (AHeap.none_of_set (AHeap.none_of_set (AHeap.none_of_set (AHeap.none_of_set (AHeap.none_of_set (AHeap.none_of_set (AHeap.none_of_set (AHeap.none_of_set (AHeap.none_of_set ((by assumption))))))))))))
  obtain ⟨oR, hoRe⟩ : ∃ x, x = oN := ⟨_, rfl⟩
  subst hoRe
  have hRP : oR ≠ oP := by (first | assumption | exact Ne.symm (by assumption) | exact AHeap.ne_of_fresh (by assumption) | exact Ne.symm (AHeap.ne_of_fresh (by assumption)) | exact AHeap.ne_of_fresh (AHeap.none_of_set (by assumption)) | exact Ne.symm (AHeap.ne_of_fresh (AHeap.none_of_set (by assumption))) | exact AHeap.ne_ns (by assumption) (by assumption) | exact AHeap.ne_sn (by assumption) (by assumption) | exact AHeap.ne_ns (by assumption) auto_heap2 | exact AHeap.ne_sn (by assumption) auto_heap2)
  refine aw_loop (fun mm R1 H1 => ∃ (i : Nat), i ≤ l.length ∧ eqOfL s (l.drop i) = Z ∧ H1 oR = some (.cel eqZ) ∧ H1 oP = some (.cel [.str nm, .sls ins.length (vrL ins), .sls outs.length (vrL outs), .sls locs.length (vrL locs), .sls l.length (eqL l), avI at_]) ∧ (∀ p y, H p = some y → H1 p = some y) ∧ R1 = [(1, .str s), (2, .ptr oP 0), (4, .ptr oR 0), (6, avI i)] ∧ l.length - i = mm) ?_ ?_
  · exact ⟨_, _, _, Ent.sub _ (by (repeat' (first | exact RSub.nil _ | apply RSub.cons)); all_goals rfl), 0, Nat.zero_le _, hZ, by exact auto_heap, by exact auto_heap, fun p y hp => auto_heap, rfl, rfl⟩
  clear hZ hoN
  rintro mm R1 H1 ⟨i, hi, hZ, q1, q2, hfr, rfl, rfl⟩
  by_cases hlt : i < l.length
  · have hg : l[i]? = some l[i] := List.getElem?_eq_getElem hlt
    have hd : l.drop i = l[i] :: l.drop (i + 1) := List.drop_eq_getElem_cons hlt
    rw [hd] at hZ
    generalize l[i] = v at *
    have hseg := eq_get hg
    have y0 := eq_at hg (j := 0) (by decide) rfl
    unfold eqOfL at hZ
    clear hg hd
    by_cases hv : v.name = s
    · rw [if_pos hv] at hZ
      subst hv
      subst hZ
      (first | focus (refine yy19 ?_; refine aw_condp rfl (fun hc => ?_) (fun hc => ?_); refine yy10 ?_; refine yy13 ?_; refine yy32 ?_; refine yy95 ?_; refine yy100 ?_; refine aw_condp rfl (fun hc => ?_) (fun hc => ?_); refine yy13 ?_; refine yy32 ?_; refine yy60 ?_; refine yy136 ?_; refine yy5 ?_; refine yy114 ?_; refine yy84 ?_; rotate_left; exact absurd hc auto_no; exact absurd hc auto_no) | fail)
      all_goals exact ⟨.inl rfl, _, _, _, Ent.cellRet 4 v.cells rfl auto_heap (by ((repeat' (first | exact WC.nil | apply WC.cons)); all_goals (first | exact W.of rfl | exact W.int rfl | exact W.nilb rfl | exact W.empb rfl | exact W.bysx rfl | exact W.nils rfl | exact W.emps rfl | exact W.slsx rfl))) (fun sp sy shp => by
        have hp2 := hfr sp sy shp
        have hp3 : sp ≠ oR := fun e => by rw [e, hR0] at shp; cases shp
        exact ⟨hp3, auto_heap⟩), ret_2 rfl (rv1_agg (m := 7) rfl rfl rfl (by decide)) (rv1_tmp rfl), rfl, rfl⟩
    · rw [if_neg hv] at hZ
      replace hv := Hdq.mk hv
      (first | focus (refine yy19 ?_; refine aw_condp rfl (fun hc => ?_) (fun hc => ?_); refine yy10 ?_; refine yy13 ?_; refine yy32 ?_; refine yy95 ?_; refine yy100 ?_; refine aw_condp rfl (fun hc => ?_) (fun hc => ?_); exact absurd hc (Hdq.out (by assumption)); refine aw_skip ?_; refine yy28 ?_; rotate_left; exact absurd hc auto_no) | fail)
      all_goals exact ⟨l.length - (i + 1), _, _, by omega, Ent.sub _ (by (repeat' (first | exact RSub.nil _ | apply RSub.cons)); all_goals rfl), i + 1, by omega, hZ, by exact auto_heap, by exact auto_heap, hfr, rfl, rfl⟩
  · obtain rfl : i = l.length := by omega
    rw [List.drop_length] at hZ
    subst hZ
    (first | focus (refine yy19 ?_; refine aw_condp rfl (fun hc => ?_) (fun hc => ?_); exact absurd hc auto_no; refine yy85 ?_; refine yy26 ?_; refine yy136 ?_; refine yy110 ?_; rotate_left) | fail)
    exact ⟨.inl rfl, _, _, _, Ent.cellRet 4 Eqn0.cells rfl auto_heap (WC.cons (w_str0 rfl) (WC.cons (w_str0 rfl) (WC.cons (w_str0 rfl) (WC.cons (W.of rfl) (WC.cons (W.of rfl) (WC.cons (W.nils rfl) (WC.cons (W.of rfl) WC.nil))))))) (fun sp sy shp => by
        have hp2 := hfr sp sy shp
        have hp3 : sp ≠ oR := fun e => by rw [e, hR0] at shp; cases shp
        exact ⟨hp3, auto_heap⟩), ret_2 rfl (rv1_agg (m := 7) rfl rfl rfl (by decide)) (rv1_tmp rfl), rfl, rfl⟩
end Go.Proofs.Ytmgkhfnhaeplgaa

namespace Go.Proofs.Ytmgkhfnhaeplgaa
open Go Go.Am Go.Proofs
set_option linter.unusedSimpArgs false
set_option linter.unusedVariables false
set_option maxRecDepth 20000
set_option maxHeartbeats 8000000

/-! Names: of an expression. -/
theorem nodeL_spec (s : Bs) : ∀ (l : List Nd) (i : Nat), nodeL s l i = -1 ∨ ∃ (j : Nat) (m : Nd), l[j]? = some m ∧ nodeL s l i = ((i + j : Nat) : Int) ∧ m.name = s
  | [], i => .inl rfl
  | n :: l, i => by
    unfold nodeL
    by_cases h : n.name = s
    · rw [if_pos h]; exact .inr ⟨0, n, rfl, rfl, h⟩
    · rw [if_neg h]
      rcases nodeL_spec s l (i + 1) with h1 | ⟨j, m, h1, h2, h3⟩
      · exact .inl h1
      · exact .inr ⟨j + 1, m, by simpa using h1, by rw [h2]; congr 1; omega, h3⟩
theorem nodeOf_spec (l : List Nd) (s : Bs) : nodeOf l s = -1 ∨ ∃ (j : Nat) (m : Nd), l[j]? = some m ∧ nodeOf l s = (j : Int) ∧ m.name = s := by
  rcases nodeL_spec s l 0 with h | ⟨j, m, h1, h2, h3⟩
  · exact .inl h
  · exact .inr ⟨j, m, h1, by unfold nodeOf; rw [h2, Nat.zero_add], h3⟩
theorem nd_get6 {l : List Nd} {i : Nat} {v : Nd} (h : l[i]? = some v) : ((ndL l).drop (i * 6)).take 6 = v.cells := nd_get h
theorem namesL_drop (ahead : List Nd) (n : Nd) (c : Ck) {ks : List Ex} {i : Nat} {k : Ex} (h : ks[i]? = some k) : namesL ahead n c (ks.drop i) = namesL ahead n (namesE ahead n c k) (ks.drop (i + 1)) := by
  have hlt := (List.getElem?_eq_some_iff.1 h).1
  rw [List.drop_eq_getElem_cons hlt, (List.getElem?_eq_some_iff.1 h).2, namesL]
theorem names_calls {o : Nat} (ahead : List Nd) (n : Nd) (ha : ahead.length ≤ 2000000) (h1 : n.ins.length ≤ 2000000) (h2 : n.outs.length ≤ 2000000) (h3 : n.locs.length ≤ 2000000) (m : Nat) : ∀ (e : Ex) (H : AHeap) (c : Ck), exSz e ≤ m → exSz e ≤ 2000000 → H o = some (.cel (ckA c)) →
    ACalls Try.prog 45 [.ptr o 0, ndsA ahead, .agg n.cells, exA e] H fun r H' => r = .tup [] ∧ H' = H.set o (.cel (ckA (namesE ahead n c e))) := by
  induction m with
  | zero => intro e H c h; rw [exSz_eq] at h; omega
  | succ m ih =>
    intro e H c h hb hH
    obtain ⟨op, nm, nn, at_, ks⟩ := e
    rw [exSz_eq] at h hb
    unfold namesE
    simp only [Ex.kids, Ex.op, Ex.name, Ex.n, Ex.at_] at *
    show ACalls Try.prog _ [.ptr o 0, ndsA ahead, .agg n.cells, .agg [.str op, .str nm, avI nn, avI at_, .sls ks.length (exL ks)]] H _
    have hml := exL_len ks
    have hma := nd_len ahead
    have hkl : ks.length ≤ exSzL ks := by
      clear hml h hb
      induction ks with
      | nil => exact Nat.zero_le _
      | cons x l ih => rw [exSzL, List.length_cons]; have := exSz_eq x; omega
    have cf := fun H => Find_calls H n nm h1 h2 h3
    have cn := fun H => NodeOf_calls H ahead nm ha
    have ce := fun H h => fail_calls6 (o := o) H c 8 at_ h
    generalize hS : (if nameOk ahead n op nm ks.length = true then c else failC c 8 at_) = S at *
    unfold nameOk at hS
    have hsp := nodeOf_spec ahead nm
    generalize findV n nm = fv at *
    generalize nodeOf ahead nm = zi at *
    generalize hZ : namesL ahead n S ks = Z
    have hn : n.cells = [.str n.name, .sls n.ins.length (vrL n.ins), .sls n.outs.length (vrL n.outs), .sls n.locs.length (vrL n.locs), .sls n.eqs.length (eqL n.eqs), avI n.at_] := rfl
    rw [hn] at *
    refine acalls_of_aw4 Try.func45 rfl (by decide) ?_
    (first | focus (refine yy3 ?_; refine zb1 rfl rfl rfl (fun oN hoN => ?_); refine zb1 rfl rfl rfl (fun oN hoN => ?_); refine yy4 ?_; rotate_left) | fail)
    rename_i oP hoP
    obtain ⟨oE, hoEe⟩ : ∃ x, x = oN := ⟨_, rfl⟩
    subst hoEe
    have hP0 : H oP = none := hoP
    have hE0 : H oE = none := by (first | assumption | exact AHeap.none_of_set ((by assumption)) | exact AHeap.none_of_set (AHeap.none_of_set ((by assumption))) | exact AHeap.none_of_set (AHeap.none_of_set (AHeap.none_of_set ((by assumption)))) | exact AHeap.none_of_set (AHeap.none_of_set (AHeap.none_of_set (AHeap.none_of_set ((by assumption))))) | exact AHeap.none_of_set (AHeap.none_of_set (AHeap.none_of_set (AHeap.none_of_set (AHeap.none_of_set ((by assumption)))))) | exact AHeap.none_of_set (AHeap.none_of_set (AHeap.none_of_set (AHeap.none_of_set (AHeap.none_of_set (AHeap.none_of_set ((by assumption))))))) | exact AHeap.none_of_set (AHeap.none_of_set (AHeap.none_of_set (AHeap.none_of_set (AHeap.none_of_set (AHeap.none_of_set (AHeap.none_of_set ((by assumption)))))))) | exact AHeap.none_of_set (AHeap.none_of_set (AHeap.none_of_set (AHeap.none_of_set (AHeap.none_of_set (AHeap.none_of_set (AHeap.none_of_set (AHeap.none_of_set ((by assumption))))))))) | exact AHeap.none_of_set (AHeap.none_of_set (AHeap.none_of_set (AHeap.none_of_set (AHeap.none_of_set (AHeap.none_of_set (AHeap.none_of_set (AHeap.none_of_set (AHeap.none_of_set ((by assumption)))))))))) | exact AHeap.none_of_set (AHeap.none_of_set (AHeap.none_of_set (AHeap.none_of_set (AHeap.none_of_set (AHeap.none_of_set (AHeap.none_of_set (AHeap.none_of_set (AHeap.none_of_set (AHeap.none_of_set ((by assumption))))))))))))
    have hEP : oE ≠ oP := by (first | assumption | exact Ne.symm (by assumption) | exact AHeap.ne_of_fresh (by assumption) | exact Ne.symm (AHeap.ne_of_fresh (by assumption)) | exact AHeap.ne_of_fresh (AHeap.none_of_set (by assumption)) | exact Ne.symm (AHeap.ne_of_fresh (AHeap.none_of_set (by assumption))) | exact AHeap.ne_ns (by assumption) (by assumption) | exact AHeap.ne_sn (by assumption) (by assumption) | exact AHeap.ne_ns (by assumption) auto_heap2 | exact AHeap.ne_sn (by assumption) auto_heap2)
    have hPo : oP ≠ o := fun e => by rw [e, hH] at hP0; cases hP0
    have hEo : oE ≠ o := fun e => by rw [e, hH] at hE0; cases hE0
    refine aw_seq ?_
    refine aw_kmid (fun R1 H1 => H1 oE = some (.cel [.str op, .str nm, avI nn, avI at_, .sls ks.length (exL ks)]) ∧ H1 oP = some (.cel [.str n.name, .sls n.ins.length (vrL n.ins), .sls n.outs.length (vrL n.outs), .sls n.locs.length (vrL n.locs), .sls n.eqs.length (eqL n.eqs), avI n.at_]) ∧ H1 o = some (.cel (ckA S)) ∧ (∀ p y, p ≠ o → H p = some y → H1 p = some y) ∧ R1 = [(0, .ptr o 0), (1, ndsA ahead), (6, .ptr oP 0), (7, .ptr oE 0)]) ?_ ?_
    · have hgo : ∀ (R' : Regs) (H' : AHeap), RSub [(0, .ptr o 0), (1, ndsA ahead), (6, .ptr oP 0), (7, .ptr oE 0)] R' → H' oE = some (.cel [.str op, .str nm, avI nn, avI at_, .sls ks.length (exL ks)]) → H' oP = some (.cel [.str n.name, .sls n.ins.length (vrL n.ins), .sls n.outs.length (vrL n.outs), .sls n.locs.length (vrL n.locs), .sls n.eqs.length (eqL n.eqs), avI n.at_]) → H' o = some (.cel (ckA S)) → (∀ p y, p ≠ o → H p = some y → H' p = some y) → ∃ R1 H1, Ent R' H' R1 H1 ∧ H1 oE = some (.cel [.str op, .str nm, avI nn, avI at_, .sls ks.length (exL ks)]) ∧ H1 oP = some (.cel [.str n.name, .sls n.ins.length (vrL n.ins), .sls n.outs.length (vrL n.outs), .sls n.locs.length (vrL n.locs), .sls n.eqs.length (eqL n.eqs), avI n.at_]) ∧ H1 o = some (.cel (ckA S)) ∧ (∀ p y, p ≠ o → H p = some y → H1 p = some y) ∧ R1 = [(0, .ptr o 0), (1, ndsA ahead), (6, .ptr oP 0), (7, .ptr oE 0)] :=
        fun R' H' hr a1 a2 a3 a4 => ⟨_, H', Ent.sub _ hr, a1, a2, a3, a4, rfl⟩
      by_cases hA : op = ([118, 97, 114] : Bs) ∨ op = ([119, 104, 101, 110] : Bs) ∨ op = ([109, 101, 114, 103, 101] : Bs)
      · rw [if_pos hA] at hS
        clear ih hZ hb h
        by_cases hf : fv.2 = true
        · rw [if_pos hf] at hS
          subst hS
          rw [hf] at cf
          rcases hA with rfl | rfl | rfl
          all_goals (
            (first | focus (refine yy13 ?_; refine yy61 ?_; refine aw_condp rfl (fun hc => ?_) (fun hc => ?_); refine yy11 ?_; refine aw_condp rfl (fun hc => ?_) (fun hc => ?_); refine yy105 ?_; refine yy21 ?_; (((refine awl_callc rfl auto_wl (cf _) (fun r H' hpost => ?_); obtain ⟨rfl, rfl⟩ := hpost))); refine yy93 ?_; refine awl_alloc rfl rfl rfl (fun oN hoN => ?_); refine yy15 ?_; refine yy5 ?_; refine yy14 ?_; refine yy54 ?_; refine yy76 ?_; refine yy64 ?_; rotate_left; exact absurd hc auto_no; exact absurd hc auto_no) | focus (refine yy13 ?_; refine yy61 ?_; refine aw_condp rfl (fun hc => ?_) (fun hc => ?_); exact absurd hc auto_no; refine yy1 ?_; refine aw_condp rfl (fun hc => ?_) (fun hc => ?_); refine yy11 ?_; refine aw_condp rfl (fun hc => ?_) (fun hc => ?_); refine yy105 ?_; refine yy21 ?_; (((refine awl_callc rfl auto_wl (cf _) (fun r H' hpost => ?_); obtain ⟨rfl, rfl⟩ := hpost))); refine yy93 ?_; refine awl_alloc rfl rfl rfl (fun oN hoN => ?_); refine yy15 ?_; refine yy5 ?_; refine yy14 ?_; refine yy54 ?_; refine yy76 ?_; refine yy64 ?_; rotate_left; exact absurd hc auto_no; exact absurd hc auto_no) | focus (refine yy13 ?_; refine yy61 ?_; refine aw_condp rfl (fun hc => ?_) (fun hc => ?_); exact absurd hc auto_no; refine yy1 ?_; refine aw_condp rfl (fun hc => ?_) (fun hc => ?_); exact absurd hc auto_no; refine yy17 ?_; refine aw_condp rfl (fun hc => ?_) (fun hc => ?_); refine yy105 ?_; refine yy21 ?_; (((refine awl_callc rfl auto_wl (cf _) (fun r H' hpost => ?_); obtain ⟨rfl, rfl⟩ := hpost))); refine yy93 ?_; refine awl_alloc rfl rfl rfl (fun oN hoN => ?_); refine yy15 ?_; refine yy5 ?_; refine yy14 ?_; refine yy54 ?_; refine yy76 ?_; refine yy64 ?_; rotate_left; exact absurd hc auto_no) | fail)
            exact hgo _ _ (by (repeat' (first | exact RSub.nil _ | apply RSub.cons)); all_goals rfl) auto_heap auto_heap auto_heap (fun p y hpo hp => by
              have hp3 : p ≠ oP := fun e => by rw [e, hP0] at hp; cases hp
              have hp4 : p ≠ oE := fun e => by rw [e, hE0] at hp; cases hp
              exact auto_heap))
        · rw [if_neg hf] at hS
          subst hS
          rw [Bool.not_eq_true] at hf
          rw [hf] at cf
          rcases hA with rfl | rfl | rfl
          all_goals (
            (first | focus (refine yy13 ?_; refine yy61 ?_; refine aw_condp rfl (fun hc => ?_) (fun hc => ?_); refine yy11 ?_; refine aw_condp rfl (fun hc => ?_) (fun hc => ?_); refine yy105 ?_; refine yy21 ?_; (((refine awl_callc rfl auto_wl (cf _) (fun r H' hpost => ?_); obtain ⟨rfl, rfl⟩ := hpost))); refine yy93 ?_; refine awl_alloc rfl rfl rfl (fun oN hoN => ?_); refine yy15 ?_; refine yy5 ?_; refine yy14 ?_; refine yy103 ?_; refine yy96 ?_; (((refine awl_callc rfl auto_wl (ce _ auto_heap) (fun r H' hpost => ?_); obtain ⟨rfl, rfl⟩ := hpost))); refine yy45 ?_; rotate_left; exact absurd hc auto_no; exact absurd hc auto_no) | focus (refine yy13 ?_; refine yy61 ?_; refine aw_condp rfl (fun hc => ?_) (fun hc => ?_); exact absurd hc auto_no; refine yy1 ?_; refine aw_condp rfl (fun hc => ?_) (fun hc => ?_); refine yy11 ?_; refine aw_condp rfl (fun hc => ?_) (fun hc => ?_); refine yy105 ?_; refine yy21 ?_; (((refine awl_callc rfl auto_wl (cf _) (fun r H' hpost => ?_); obtain ⟨rfl, rfl⟩ := hpost))); refine yy93 ?_; refine awl_alloc rfl rfl rfl (fun oN hoN => ?_); refine yy15 ?_; refine yy5 ?_; refine yy14 ?_; refine yy103 ?_; refine yy96 ?_; (((refine awl_callc rfl auto_wl (ce _ auto_heap) (fun r H' hpost => ?_); obtain ⟨rfl, rfl⟩ := hpost))); refine yy45 ?_; rotate_left; exact absurd hc auto_no; exact absurd hc auto_no) | focus (refine yy13 ?_; refine yy61 ?_; refine aw_condp rfl (fun hc => ?_) (fun hc => ?_); exact absurd hc auto_no; refine yy1 ?_; refine aw_condp rfl (fun hc => ?_) (fun hc => ?_); exact absurd hc auto_no; refine yy17 ?_; refine aw_condp rfl (fun hc => ?_) (fun hc => ?_); refine yy105 ?_; refine yy21 ?_; (((refine awl_callc rfl auto_wl (cf _) (fun r H' hpost => ?_); obtain ⟨rfl, rfl⟩ := hpost))); refine yy93 ?_; refine awl_alloc rfl rfl rfl (fun oN hoN => ?_); refine yy15 ?_; refine yy5 ?_; refine yy14 ?_; refine yy103 ?_; refine yy96 ?_; (((refine awl_callc rfl auto_wl (ce _ auto_heap) (fun r H' hpost => ?_); obtain ⟨rfl, rfl⟩ := hpost))); refine yy45 ?_; rotate_left; exact absurd hc auto_no) | fail)
            exact hgo _ _ (by (repeat' (first | exact RSub.nil _ | apply RSub.cons)); all_goals rfl) auto_heap auto_heap auto_heap (fun p y hpo hp => by
              have hp3 : p ≠ oP := fun e => by rw [e, hP0] at hp; cases hp
              have hp4 : p ≠ oE := fun e => by rw [e, hE0] at hp; cases hp
              exact auto_heap))
      · rw [if_neg hA] at hS
        rw [not_or, not_or] at hA
        obtain ⟨d1, d2, d3⟩ := hA
        replace d1 := Hdq.mk d1
        replace d2 := Hdq.mk d2
        replace d3 := Hdq.mk d3
        clear ih hZ hb h
        by_cases hC : op = ([99, 97, 108, 108] : Bs)
        · rw [if_pos hC] at hS
          subst hC
          rcases hsp with rfl | ⟨j, m, hg, rfl, hm⟩
          · have hS2 : failC c 8 at_ = S := hS
            subst hS2
            clear hS
            (first | focus (refine yy13 ?_; refine yy61 ?_; refine aw_condp rfl (fun hc => ?_) (fun hc => ?_); exact absurd hc (Hdq.out (by assumption)); refine yy1 ?_; refine aw_condp rfl (fun hc => ?_) (fun hc => ?_); exact absurd hc (Hdq.out (by assumption)); refine yy17 ?_; refine aw_condp rfl (fun hc => ?_) (fun hc => ?_); exact absurd hc (Hdq.out (by assumption)); refine yy1 ?_; refine aw_condp rfl (fun hc => ?_) (fun hc => ?_); refine yy77 ?_; refine yy21 ?_; (((refine awl_callc rfl auto_wl (cn _) (fun r H' hpost => ?_); obtain ⟨rfl, rfl⟩ := hpost))); refine yy5 ?_; refine yy69 ?_; (apply awt_s; · exact s_move (v := .raw _) rfl); (apply awt_s; · exact s_lss rfl rfl); (apply awt_s; · exact s_move (v := .raw _) rfl); refine zt2 rfl rfl rfl (fun hc => ?_) (fun hc => ?_); exact absurd hc auto_no; refine yy55 ?_; refine yy127 ?_; (apply awt_s; · exact s_pick_t (v := .raw _) rfl rfl); (apply awt_s; · exact s_move (v := .raw _) rfl); refine yy55 ?_; refine yy55 ?_; refine yy127 ?_; (apply awt_s; · exact s_pick_t (v := .raw _) rfl rfl); refine yy73 ?_; refine aw_cond_t rfl ?_; refine yy96 ?_; (((refine awl_callc rfl auto_wl (ce _ auto_heap) (fun r H' hpost => ?_); obtain ⟨rfl, rfl⟩ := hpost))); refine yy45 ?_; rotate_left; exact absurd hc auto_no) | fail)
            exact hgo _ _ (by (repeat' (first | exact RSub.nil _ | apply RSub.cons)); all_goals rfl) auto_heap auto_heap auto_heap (fun p y hpo hp => by
            have hp3 : p ≠ oP := fun e => by rw [e, hP0] at hp; cases hp
            have hp4 : p ≠ oE := fun e => by rw [e, hE0] at hp; cases hp
            exact auto_heap)
          · have y2 := nd_at hg (j := 2) (by decide) rfl
            have y1 := nd_at hg (j := 1) (by decide) rfl
            have hjl : j < ahead.length := (List.getElem?_eq_some_iff.1 hg).1
            have hS2 : (if (decide (m.outs.length = 1) && decide (m.ins.length = ks.length)) = true then c else failC c 8 at_) = S := by
              rw [← hS]
              simp only [Int.toNat_natCast, hg, show (0 : Int) ≤ (j : Int) by omega, decide_true, Bool.true_and]
            clear hS hg
            by_cases h1 : m.outs.length = 1
            · by_cases h2 : m.ins.length = ks.length
              · rw [h1, h2] at hS2
                simp only [decide_true, Bool.true_and, if_pos] at hS2
                subst hS2
                (first | focus (refine yy13 ?_; refine yy61 ?_; refine aw_condp rfl (fun hc => ?_) (fun hc => ?_); exact absurd hc (Hdq.out (by assumption)); refine yy1 ?_; refine aw_condp rfl (fun hc => ?_) (fun hc => ?_); exact absurd hc (Hdq.out (by assumption)); refine yy17 ?_; refine aw_condp rfl (fun hc => ?_) (fun hc => ?_); exact absurd hc (Hdq.out (by assumption)); refine yy1 ?_; refine aw_condp rfl (fun hc => ?_) (fun hc => ?_); refine yy77 ?_; refine yy21 ?_; (((refine awl_callc rfl auto_wl (cn _) (fun r H' hpost => ?_); obtain ⟨rfl, rfl⟩ := hpost))); refine yy5 ?_; refine yy69 ?_; (apply awt_s; · exact s_move (v := .raw _) rfl); (apply awt_s; · exact s_ltn rfl rfl); (apply awt_s; · exact s_move (v := .raw _) rfl); refine zt2 rfl rfl rfl (fun hc => ?_) (fun hc => ?_); (apply awt_s; · exact s_move (v := .sls _ _) rfl); refine yy2 ?_; (apply awt_s; · exact s_move (v := .raw _) rfl); refine yy2 ?_; (apply awt_s; · exact s_indexAddr_sls rfl rfl auto_len); refine yy2 ?_; (apply awt_s; · exact s_fieldAddr_pce rfl); refine yy2 ?_; (apply awt_s; · exact s_load_pce rfl auto_idx); refine yy2 ?_; (apply awt_s; · exact s_len_sls rfl); refine yy2 ?_; (apply awt_s; · exact s_nen rfl rfl); (apply awt_s; · exact s_pick_f (v := .raw _) rfl rfl); (apply awt_s; · exact s_move (v := .raw _) rfl); refine zt2 rfl rfl rfl (fun hc => ?_) (fun hc => ?_); (apply awt_s; · exact s_move (v := .sls _ _) rfl); refine yy2 ?_; (apply awt_s; · exact s_move (v := .raw _) rfl); refine yy2 ?_; (apply awt_s; · exact s_indexAddr_sls rfl rfl auto_len); refine yy2 ?_; (apply awt_s; · exact s_fieldAddr_pce rfl); refine yy2 ?_; (apply awt_s; · exact s_load_pce rfl auto_idx); refine yy2 ?_; (apply awt_s; · exact s_len_sls rfl); refine yy2 ?_; (apply awt_s; · exact s_fieldAddr_ptr rfl); refine yy2 ?_; (apply awt_s; · exact s_load_cel rfl auto_heap rfl); refine yy2 ?_; (apply awt_s; · exact s_len_sls rfl); refine yy2 ?_; (apply awt_s; · exact s_nen rfl rfl); (apply awt_s; · exact s_pick_f (v := .raw _) rfl rfl); refine yy73 ?_; refine aw_condp rfl (fun hc => ?_) (fun hc => ?_); exact absurd hc auto_no; refine aw_skip ?_; refine yy64 ?_; rotate_left; exact absurd hc auto_no; exact absurd hc auto_no; exact absurd hc auto_no) | fail)
                exact hgo _ _ (by (repeat' (first | exact RSub.nil _ | apply RSub.cons)); all_goals rfl) auto_heap auto_heap auto_heap (fun p y hpo hp => by
            have hp3 : p ≠ oP := fun e => by rw [e, hP0] at hp; cases hp
            have hp4 : p ≠ oE := fun e => by rw [e, hE0] at hp; cases hp
            exact auto_heap)
              · rw [if_neg (by simp [h2])] at hS2
                subst hS2
                (first | focus (refine yy13 ?_; refine yy61 ?_; refine aw_condp rfl (fun hc => ?_) (fun hc => ?_); exact absurd hc (Hdq.out (by assumption)); refine yy1 ?_; refine aw_condp rfl (fun hc => ?_) (fun hc => ?_); exact absurd hc (Hdq.out (by assumption)); refine yy17 ?_; refine aw_condp rfl (fun hc => ?_) (fun hc => ?_); exact absurd hc (Hdq.out (by assumption)); refine yy1 ?_; refine aw_condp rfl (fun hc => ?_) (fun hc => ?_); refine yy77 ?_; refine yy21 ?_; (((refine awl_callc rfl auto_wl (cn _) (fun r H' hpost => ?_); obtain ⟨rfl, rfl⟩ := hpost))); refine yy5 ?_; refine yy69 ?_; (apply awt_s; · exact s_move (v := .raw _) rfl); (apply awt_s; · exact s_ltn rfl rfl); (apply awt_s; · exact s_move (v := .raw _) rfl); refine zt2 rfl rfl rfl (fun hc => ?_) (fun hc => ?_); (apply awt_s; · exact s_move (v := .sls _ _) rfl); refine yy2 ?_; (apply awt_s; · exact s_move (v := .raw _) rfl); refine yy2 ?_; (apply awt_s; · exact s_indexAddr_sls rfl rfl auto_len); refine yy2 ?_; (apply awt_s; · exact s_fieldAddr_pce rfl); refine yy2 ?_; (apply awt_s; · exact s_load_pce rfl auto_idx); refine yy2 ?_; (apply awt_s; · exact s_len_sls rfl); refine yy2 ?_; (apply awt_s; · exact s_nen rfl rfl); (apply awt_s; · exact s_pick_f (v := .raw _) rfl rfl); (apply awt_s; · exact s_move (v := .raw _) rfl); refine zt2 rfl rfl rfl (fun hc => ?_) (fun hc => ?_); (apply awt_s; · exact s_move (v := .sls _ _) rfl); refine yy2 ?_; (apply awt_s; · exact s_move (v := .raw _) rfl); refine yy2 ?_; (apply awt_s; · exact s_indexAddr_sls rfl rfl auto_len); refine yy2 ?_; (apply awt_s; · exact s_fieldAddr_pce rfl); refine yy2 ?_; (apply awt_s; · exact s_load_pce rfl auto_idx); refine yy2 ?_; (apply awt_s; · exact s_len_sls rfl); refine yy2 ?_; (apply awt_s; · exact s_fieldAddr_ptr rfl); refine yy2 ?_; (apply awt_s; · exact s_load_cel rfl auto_heap rfl); refine yy2 ?_; (apply awt_s; · exact s_len_sls rfl); refine yy2 ?_; (apply awt_s; · exact s_nen rfl rfl); (apply awt_s; · exact s_pick_f (v := .raw _) rfl rfl); refine yy73 ?_; refine aw_condp rfl (fun hc => ?_) (fun hc => ?_); replace hc := hide_nat hc; refine yy96 ?_; (((refine awl_callc rfl auto_wl (ce _ auto_heap) (fun r H' hpost => ?_); obtain ⟨rfl, rfl⟩ := hpost))); refine yy45 ?_; rotate_left; exact absurd hc auto_no; exact absurd hc auto_no; exact absurd hc auto_no; exact absurd hc auto_no) | fail)
                exact hgo _ _ (by (repeat' (first | exact RSub.nil _ | apply RSub.cons)); all_goals rfl) auto_heap auto_heap auto_heap (fun p y hpo hp => by
            have hp3 : p ≠ oP := fun e => by rw [e, hP0] at hp; cases hp
            have hp4 : p ≠ oE := fun e => by rw [e, hE0] at hp; cases hp
            exact auto_heap)
            · rw [if_neg (by simp [h1])] at hS2
              subst hS2
              (first | focus (refine yy13 ?_; refine yy61 ?_; refine aw_condp rfl (fun hc => ?_) (fun hc => ?_); exact absurd hc (Hdq.out (by assumption)); refine yy1 ?_; refine aw_condp rfl (fun hc => ?_) (fun hc => ?_); exact absurd hc (Hdq.out (by assumption)); refine yy17 ?_; refine aw_condp rfl (fun hc => ?_) (fun hc => ?_); exact absurd hc (Hdq.out (by assumption)); refine yy1 ?_; refine aw_condp rfl (fun hc => ?_) (fun hc => ?_); refine yy77 ?_; refine yy21 ?_; (((refine awl_callc rfl auto_wl (cn _) (fun r H' hpost => ?_); obtain ⟨rfl, rfl⟩ := hpost))); refine yy5 ?_; refine yy69 ?_; (apply awt_s; · exact s_move (v := .raw _) rfl); (apply awt_s; · exact s_ltn rfl rfl); (apply awt_s; · exact s_move (v := .raw _) rfl); refine zt2 rfl rfl rfl (fun hc => ?_) (fun hc => ?_); (apply awt_s; · exact s_move (v := .sls _ _) rfl); refine yy2 ?_; (apply awt_s; · exact s_move (v := .raw _) rfl); refine yy2 ?_; (apply awt_s; · exact s_indexAddr_sls rfl rfl auto_len); refine yy2 ?_; (apply awt_s; · exact s_fieldAddr_pce rfl); refine yy2 ?_; (apply awt_s; · exact s_load_pce rfl auto_idx); refine yy2 ?_; (apply awt_s; · exact s_len_sls rfl); refine yy2 ?_; (apply awt_s; · exact s_nen rfl rfl); (apply awt_s; · exact s_pick_f (v := .raw _) rfl rfl); (apply awt_s; · exact s_move (v := .raw _) rfl); refine zt2 rfl rfl rfl (fun hc => ?_) (fun hc => ?_); exact absurd hc auto_no; replace hc := hide_nat hc; refine yy55 ?_; refine yy55 ?_; refine zt4 rfl rfl ?_; (apply awt_s; · exact s_pick_t (v := .raw _) rfl rfl); refine yy73 ?_; refine aw_cond_t rfl ?_; refine yy96 ?_; (((refine awl_callc rfl auto_wl (ce _ auto_heap) (fun r H' hpost => ?_); obtain ⟨rfl, rfl⟩ := hpost))); refine yy45 ?_; rotate_left; exact absurd hc auto_no; exact absurd hc auto_no) | fail)
              exact hgo _ _ (by (repeat' (first | exact RSub.nil _ | apply RSub.cons)); all_goals rfl) auto_heap auto_heap auto_heap (fun p y hpo hp => by
            have hp3 : p ≠ oP := fun e => by rw [e, hP0] at hp; cases hp
            have hp4 : p ≠ oE := fun e => by rw [e, hE0] at hp; cases hp
            exact auto_heap)
        · rw [if_neg hC, if_pos rfl] at hS
          subst hS
          replace hC := Hdq.mk hC
          (first | focus (refine yy13 ?_; refine yy61 ?_; refine aw_condp rfl (fun hc => ?_) (fun hc => ?_); exact absurd hc (Hdq.out (by assumption)); refine yy1 ?_; refine aw_condp rfl (fun hc => ?_) (fun hc => ?_); exact absurd hc (Hdq.out (by assumption)); refine yy17 ?_; refine aw_condp rfl (fun hc => ?_) (fun hc => ?_); exact absurd hc (Hdq.out (by assumption)); refine yy1 ?_; refine aw_condp rfl (fun hc => ?_) (fun hc => ?_); exact absurd hc (Hdq.out (by assumption)); refine aw_skip ?_; refine yy64 ?_; rotate_left) | fail)
          exact hgo _ _ (by (repeat' (first | exact RSub.nil _ | apply RSub.cons)); all_goals rfl) auto_heap auto_heap auto_heap (fun p y hpo hp => by
            have hp3 : p ≠ oP := fun e => by rw [e, hP0] at hp; cases hp
            have hp4 : p ≠ oE := fun e => by rw [e, hE0] at hp; cases hp
            exact auto_heap)
    · rintro R1 H1 ⟨q1, q2, q3, hfr, rfl⟩
      clear hS ce cf cn hsp hoN
      (first | focus (refine yy12 ?_; refine aw_block ?_; rotate_left) | fail)
      refine aw_loop (fun mm R2 H2 => ∃ (i : Nat) (c' : Ck), i ≤ ks.length ∧ namesL ahead n c' (ks.drop i) = Z ∧ H2 oE = some (.cel [.str op, .str nm, avI nn, avI at_, .sls ks.length (exL ks)]) ∧ H2 oP = some (.cel [.str n.name, .sls n.ins.length (vrL n.ins), .sls n.outs.length (vrL n.outs), .sls n.locs.length (vrL n.locs), .sls n.eqs.length (eqL n.eqs), avI n.at_]) ∧ H2 o = some (.cel (ckA c')) ∧ (∀ p y, p ≠ o → H p = some y → H2 p = some y) ∧ R2 = [(0, .ptr o 0), (1, ndsA ahead), (6, .ptr oP 0), (7, .ptr oE 0), (11, avI i)] ∧ ks.length - i = mm) ?_ ?_
      · exact ⟨_, _, _, Ent.sub _ (by (repeat' (first | exact RSub.nil _ | apply RSub.cons)); all_goals rfl), 0, S, Nat.zero_le _, hZ, q1, q2, q3, hfr, rfl, rfl⟩
      clear hZ q1 q2 q3 hfr H1
      rintro mm R2 H2 ⟨i, c', hi, hZ, q1, q2, q3, hfr, rfl, rfl⟩
      by_cases hlt : i < ks.length
      · have hg : ks[i]? = some ks[i] := List.getElem?_eq_getElem hlt
        have hseg := exL_get hg
        have hmem := exSz_mem (List.getElem_mem hlt)
        rw [namesL_drop ahead n c' hg] at hZ
        generalize ks[i] = k at *
        have cb := fun H h => ih k H c' (by omega) (by omega) h
        generalize namesE ahead n c' k = c2 at *
        clear ih hg hmem
        (first | focus (refine yy19 ?_; refine aw_condp rfl (fun hc => ?_) (fun hc => ?_); refine yy10 ?_; refine yy115 ?_; (apply awt_s; · exact s_move (v := .ptr _ _) rfl); (apply awt_s; · exact s_move (v := .sls _ _) rfl); (apply awt_s; · exact s_load_agg rfl auto_heap rfl rfl (by first | decide | exact Nat.le_of_ble_eq_true rfl)); (apply awt_s; · exact s_fieldAddr_ptr rfl); (apply awt_s; · exact s_load_cel rfl auto_heap rfl); (apply awt_s; · exact s_move (v := .raw _) rfl); (apply awt_s; · exact s_indexAddr_sls rfl rfl auto_len); (apply awt_s; · exact s_load_pce_agg rfl (by assumption) (by rfl) (by decide)); refine awt_last ?_; (((refine awl_callc rfl auto_wl (cb _ auto_heap) (fun r H' hpost => ?_); obtain ⟨rfl, rfl⟩ := hpost))); refine yy45 ?_; refine yy91 ?_; rotate_left; exact absurd hc auto_no) | fail)
        exact ⟨ks.length - (i + 1), _, _, by omega, Ent.sub _ (by (repeat' (first | exact RSub.nil _ | apply RSub.cons)); all_goals rfl), i + 1, c2, by omega, hZ, by exact auto_heap, by exact auto_heap, by exact auto_heap, fun p y hpo hp => by
          have hp2 := hfr p y hpo hp
          exact auto_heap, rfl, rfl⟩
      · obtain rfl : i = ks.length := by omega
        rw [List.drop_length, namesL] at hZ
        subst hZ
        (first | focus (refine yy19 ?_; refine aw_condp rfl (fun hc => ?_) (fun hc => ?_); exact absurd hc auto_no; refine yy138 ?_; refine k_seq_exit ?_; refine k_block_eq ?_; rotate_left) | fail)
        exact ⟨.inr rfl, _, _, _, Ent.gc (Sub.set q3 (fun p y hpo hp => hfr p y hpo hp)), ret0 rfl, rfl, rfl⟩
end Go.Proofs.Ytmgkhfnhaeplgaa

namespace Go.Proofs.Ytmgkhfnhaeplgaa
open Go Go.Am Go.Proofs
set_option linter.unusedSimpArgs false
set_option linter.unusedVariables false
set_option maxRecDepth 20000
set_option maxHeartbeats 8000000

/-! Names. -/
theorem flat_take {α : Type} {f : α → List AV} {sz : Nat} (hf : ∀ x, (f x).length = sz) : ∀ {l : List α} {i : Nat}, (l.flatMap f).take (i * sz) = (l.take i).flatMap f
  | [], i => by simp
  | x :: l, 0 => by simp
  | x :: l, i + 1 => by
    rw [List.flatMap_cons, List.take_append, hf, List.take_of_length_le (by rw [hf, Nat.add_mul]; omega), show (i + 1) * sz - sz = i * sz by rw [Nat.add_mul]; omega, flat_take hf]
    rfl
theorem varsN_len {n : Nd} (h : NdOk n) : (varsN n).length ≤ 6000000 := by
  have := h.i; have := h.o; have := h.l
  unfold varsN; rw [List.length_append, List.length_append]; omega
abbrev ckZ : List AV := [avI 0, avI 0]
theorem nd_take (l : List Nd) (i : Nat) : (ndL l).take (i * 6) = ndL (l.take i) := flat_take (sz := 6) (f := Nd.cells) (fun _ => rfl)
theorem inputL_snoc (s : Bs) (l : List Vr) (v : Vr) : inputL s (l ++ [v]) = (inputL s l || decide (v.name = s)) := by
  unfold inputL; rw [List.any_append, List.any_cons, List.any_nil, Bool.or_false]
theorem fail_or {c : Ck} {a : Nat} {b : Bool} {p : Prop} [Decidable p] : (if p then failC (if b = true then failC c 8 a else c) 8 a else (if b = true then failC c 8 a else c)) = if (b || decide p) = true then failC c 8 a else c := by
  have h : failC (failC c 8 a) 8 a = failC c 8 a := by
    unfold failC
    by_cases h : c.1 = 0
    · rw [if_pos h, if_neg (show ¬ ((8 : Nat), a).1 = 0 by simp)]
    · rw [if_neg h, if_neg h]
  cases b <;> by_cases hp : p <;> simp [hp, h]
theorem Names_calls (H : AHeap) (l : List Nd) (hl : l.length ≤ 2000000) (hok : ∀ n ∈ l, NdOk n) : ACalls Try.prog 22 [ndsA l] H fun r H' => r = .agg (ckA (names l)) ∧ H' = H := by
  have hvl := nd_len l
  unfold names
  generalize hZ : namesN [] l (0, 0) = Z
  refine acalls_of_aw1 Try.func22 rfl (by decide) ?_
  (first | focus (refine yy3 ?_; refine awl_alloc rfl rfl rfl (fun oN hoN => ?_); refine yy31 ?_; refine yy26 ?_; refine zb1 rfl rfl rfl (fun oN hoN => ?_); refine awl_s rfl (s_assign (v := .ptr _ _) rfl) ?_; refine yy65 ?_; refine yy47 ?_; rotate_left) | fail)
  rename_i oR hoR
  obtain ⟨oC, hoCe⟩ : ∃ x, x = oN := ⟨_, rfl⟩
  subst hoCe
  have hC0 : H oC = none := by (first | assumption | exact AHeap.none_of_set ((by assumption)) | exact AHeap.none_of_set (AHeap.none_of_set ((by assumption))) | exact AHeap.none_of_set (AHeap.none_of_set (AHeap.none_of_set ((by assumption)))) | exact AHeap.none_of_set (AHeap.none_of_set (AHeap.none_of_set (AHeap.none_of_set ((by assumption))))) | exact AHeap.none_of_set (AHeap.none_of_set (AHeap.none_of_set (AHeap.none_of_set (AHeap.none_of_set ((by assumption)))))) | exact AHeap.none_of_set (AHeap.none_of_set (AHeap.none_of_set (AHeap.none_of_set (AHeap.none_of_set (AHeap.none_of_set ((by assumption))))))) | exact AHeap.none_of_set (AHeap.none_of_set (AHeap.none_of_set (AHeap.none_of_set (AHeap.none_of_set (AHeap.none_of_set (AHeap.none_of_set ((by assumption)))))))) | exact AHeap.none_of_set (AHeap.none_of_set (AHeap.none_of_set (AHeap.none_of_set (AHeap.none_of_set (AHeap.none_of_set (AHeap.none_of_set (AHeap.none_of_set ((by assumption))))))))) | exact AHeap.none_of_set (AHeap.none_of_set (AHeap.none_of_set (AHeap.none_of_set (AHeap.none_of_set (AHeap.none_of_set (AHeap.none_of_set (AHeap.none_of_set (AHeap.none_of_set ((by assumption)))))))))) | exact AHeap.none_of_set (AHeap.none_of_set (AHeap.none_of_set (AHeap.none_of_set (AHeap.none_of_set (AHeap.none_of_set (AHeap.none_of_set (AHeap.none_of_set (AHeap.none_of_set (AHeap.none_of_set ((by assumption))))))))))))
  have hCR : oC ≠ oR := by (first | assumption | exact Ne.symm (by assumption) | exact AHeap.ne_of_fresh (by assumption) | exact Ne.symm (AHeap.ne_of_fresh (by assumption)) | exact AHeap.ne_of_fresh (AHeap.none_of_set (by assumption)) | exact Ne.symm (AHeap.ne_of_fresh (AHeap.none_of_set (by assumption))) | exact AHeap.ne_ns (by assumption) (by assumption) | exact AHeap.ne_sn (by assumption) (by assumption) | exact AHeap.ne_ns (by assumption) auto_heap2 | exact AHeap.ne_sn (by assumption) auto_heap2)
  refine aw_loop (fun mm R1 H1 => ∃ (i : Nat) (c : Ck), i ≤ l.length ∧ namesN (l.take i) (l.drop i) c = Z ∧ H1 oC = some (.cel (ckA c)) ∧ H1 oR = some (.cel ckZ) ∧ (∀ p y, H p = some y → H1 p = some y) ∧ R1 = [(0, ndsA l), (2, .ptr oR 0), (3, .ptr oC 0), (4, avI i)] ∧ l.length - i = mm) ?_ ?_
  · exact ⟨_, _, _, Ent.sub _ (by (repeat' (first | exact RSub.nil _ | apply RSub.cons)); all_goals rfl), 0, (0, 0), Nat.zero_le _, hZ, by exact auto_heap, by exact auto_heap, fun p y hp => auto_heap, rfl, rfl⟩
  clear hZ hoN
  rintro mm R1 H1 ⟨i, c, hi, hZ, q1, q2, hfr, rfl, rfl⟩
  by_cases hlt : i < l.length
  · have hg : l[i]? = some l[i] := List.getElem?_eq_getElem hlt
    have hd : l.drop i = l[i] :: l.drop (i + 1) := List.drop_eq_getElem_cons hlt
    have hsn : l.take (i + 1) = l.take i ++ [l[i]] := by rw [List.take_add_one, hg]; rfl
    have hsl : (ndL l).take (i * 6) = ndL (l.take i) := nd_take l i
    have htl : (l.take i).length = i := by rw [List.length_take, Nat.min_eq_left hi]
    have hn := hok _ (List.getElem_mem hlt)
    rw [hd, namesN, ← hsn] at hZ
    generalize l[i] = n at *
    have hseg : List.take 6 (List.drop (i * 6) (ndL l)) = [.str n.name, .sls n.ins.length (vrL n.ins), .sls n.outs.length (vrL n.outs), .sls n.locs.length (vrL n.locs), .sls n.eqs.length (eqL n.eqs), avI n.at_] := nd_get hg
    clear hg hd hsn
    replace hZ := Hdn.mk hZ
    generalize hpre : l.take i = pre at *
    have cn := fun H => NodeOf_calls H pre n.name (by omega)
    have cf := fun H h => fail_calls6 (o := oC) H c 8 n.at_ h
    unfold nameN at hZ
    generalize hc1 : (if (decide (0 ≤ nodeOf pre n.name) || decide (n.outs = [])) = true then failC c 8 n.at_ else c) = c1 at *
    generalize nodeOf pre n.name = zi at *
    have hla : ndsA pre = .sls (i - 0) (List.take ((i - 0) * 6) (List.drop (0 * 6) (ndL l))) := by unfold ndsA; rw [htl, Nat.sub_zero, Nat.zero_mul, List.drop_zero, hsl]
    rw [hla] at cn
    replace hla := Hdn.mk hla
    dsimp only at hZ
    (first | focus (refine yy42 ?_; refine aw_condp rfl (fun hc => ?_) (fun hc => ?_); refine yy10 ?_; refine yy77 ?_; refine yy32 ?_; refine yy60 ?_; refine awl_alloc rfl rfl rfl (fun oN hoN => ?_); refine yy15 ?_; refine yy4 ?_; rotate_left; exact absurd hc auto_no) | fail)
    obtain ⟨oX, hoXe⟩ : ∃ x, x = oN := ⟨_, rfl⟩
    subst hoXe
    have hX0 : H oX = none := by
      cases e : H oX with
      | none => rfl
      | some y => rw [hfr _ _ e] at hoN; cases hoN
    have hXC : oX ≠ oC := fun e => by rw [e, q1] at hoN; cases hoN
    have hXR : oX ≠ oR := fun e => by rw [e, q2] at hoN; cases hoN
    refine aw_seq ?_
    refine aw_kmid (fun R2 H2 => H2 oC = some (.cel (ckA c1)) ∧ H2 oR = some (.cel ckZ) ∧ H2 oX = some (.cel [.str n.name, .sls n.ins.length (vrL n.ins), .sls n.outs.length (vrL n.outs), .sls n.locs.length (vrL n.locs), .sls n.eqs.length (eqL n.eqs), avI n.at_]) ∧ (∀ p y, H p = some y → H2 p = some y) ∧ R2 = [(0, ndsA l), (2, .ptr oR 0), (3, .ptr oC 0), (4, avI i), (5, .ptr oX 0)]) ?_ ?_
    · clear hok
      by_cases hA : 0 ≤ zi
      · rw [if_pos (by simp [hA])] at hc1
        subst hc1
        (first | focus (refine yy69 ?_; (apply awt_s; · exact s_move (v := .sls _ _) rfl); (apply awt_s; · exact s_move (v := .raw _) rfl); (apply awt_s; · exact s_slice_sls rfl auto_bnd auto_bnd auto_len auto_len); (apply awt_s; · exact s_fieldAddr_ptr rfl); (apply awt_s; · exact s_load_cel rfl auto_heap rfl); (apply awt_s; · exact s_callc auto_wl (cn _)); (apply awt_s; · exact s_geq rfl rfl); (apply awt_s; · exact s_move (v := .raw _) rfl); refine zt2 rfl rfl rfl (fun hc => ?_) (fun hc => ?_); exact absurd hc auto_no; refine yy127 ?_; refine zt4 rfl rfl ?_; (apply awt_s; · exact s_pick_t (v := .raw _) rfl rfl); refine yy73 ?_; refine aw_cond_t rfl ?_; refine yy96 ?_; (((refine awl_callc rfl auto_wl (cf _ auto_heap) (fun r H' hpost => ?_); obtain ⟨rfl, rfl⟩ := hpost))); refine yy4 ?_; rotate_left) | fail)
        all_goals exact ⟨_, _, Ent.sub _ (by (repeat' (first | exact RSub.nil _ | apply RSub.cons)); all_goals rfl), by exact auto_heap, by exact auto_heap, by exact auto_heap, (fun p y hp => by
              have hp2 := hfr p y hp
              have hp3 : p ≠ oC := fun e => by rw [e, hC0] at hp; cases hp
              have hp4 : p ≠ oX := fun e => by rw [e, hX0] at hp; cases hp
              exact auto_heap), rfl⟩
      · by_cases hB : n.outs = []
        · rw [if_pos (by simp [hB])] at hc1
          subst hc1
          have hBl : n.outs.length = 0 := by rw [hB]; rfl
          (first | focus (refine yy69 ?_; (apply awt_s; · exact s_move (v := .sls _ _) rfl); (apply awt_s; · exact s_move (v := .raw _) rfl); (apply awt_s; · exact s_slice_sls rfl auto_bnd auto_bnd auto_len auto_len); (apply awt_s; · exact s_fieldAddr_ptr rfl); (apply awt_s; · exact s_load_cel rfl auto_heap rfl); (apply awt_s; · exact s_callc auto_wl (cn _)); (apply awt_s; · exact s_geq rfl rfl); (apply awt_s; · exact s_move (v := .raw _) rfl); refine zt2 rfl rfl rfl (fun hc => ?_) (fun hc => ?_); (apply awt_s; · exact s_fieldAddr_ptr rfl); refine yy2 ?_; (apply awt_s; · exact s_load_cel rfl auto_heap rfl); refine yy2 ?_; (apply awt_s; · exact s_len_sls rfl); refine yy2 ?_; (apply awt_s; · exact s_eqn rfl rfl); (apply awt_s; · exact s_pick_f (v := .raw _) rfl rfl); refine yy73 ?_; refine aw_condp rfl (fun hc => ?_) (fun hc => ?_); refine yy96 ?_; (((refine awl_callc rfl auto_wl (cf _ auto_heap) (fun r H' hpost => ?_); obtain ⟨rfl, rfl⟩ := hpost))); refine yy4 ?_; rotate_left; exact absurd hc auto_no; exact absurd hc auto_no) | fail)
          all_goals exact ⟨_, _, Ent.sub _ (by (repeat' (first | exact RSub.nil _ | apply RSub.cons)); all_goals rfl), by exact auto_heap, by exact auto_heap, by exact auto_heap, (fun p y hp => by
              have hp2 := hfr p y hp
              have hp3 : p ≠ oC := fun e => by rw [e, hC0] at hp; cases hp
              have hp4 : p ≠ oX := fun e => by rw [e, hX0] at hp; cases hp
              exact auto_heap), rfl⟩
        · rw [if_neg (by simp [hA, hB])] at hc1
          subst hc1
          have hBl : n.outs.length ≠ 0 := fun e => hB (List.eq_nil_of_length_eq_zero e)
          (first | focus (refine yy69 ?_; (apply awt_s; · exact s_move (v := .sls _ _) rfl); (apply awt_s; · exact s_move (v := .raw _) rfl); (apply awt_s; · exact s_slice_sls rfl auto_bnd auto_bnd auto_len auto_len); (apply awt_s; · exact s_fieldAddr_ptr rfl); (apply awt_s; · exact s_load_cel rfl auto_heap rfl); (apply awt_s; · exact s_callc auto_wl (cn _)); (apply awt_s; · exact s_geq rfl rfl); (apply awt_s; · exact s_move (v := .raw _) rfl); refine zt2 rfl rfl rfl (fun hc => ?_) (fun hc => ?_); (apply awt_s; · exact s_fieldAddr_ptr rfl); refine yy2 ?_; (apply awt_s; · exact s_load_cel rfl auto_heap rfl); refine yy2 ?_; (apply awt_s; · exact s_len_sls rfl); refine yy2 ?_; (apply awt_s; · exact s_eqn rfl rfl); (apply awt_s; · exact s_pick_f (v := .raw _) rfl rfl); refine yy73 ?_; refine aw_condp rfl (fun hc => ?_) (fun hc => ?_); exact absurd hc auto_no; replace hc := hide_nat hc; refine yy11 ?_; rotate_left; exact absurd hc auto_no) | fail)
          all_goals exact ⟨_, _, Ent.sub _ (by (repeat' (first | exact RSub.nil _ | apply RSub.cons)); all_goals rfl), by exact auto_heap, by exact auto_heap, by exact auto_heap, (fun p y hp => by
              have hp2 := hfr p y hp
              have hp3 : p ≠ oC := fun e => by rw [e, hC0] at hp; cases hp
              have hp4 : p ≠ oX := fun e => by rw [e, hX0] at hp; cases hp
              exact auto_heap), rfl⟩
    clear hc1 cn cf q1 q2 hfr hoN hseg H1 c hpre
    rintro R2 H2 ⟨q1, q2, q3, hfr, rfl⟩
    have cv := fun H => Vars_calls H n hn.i hn.o hn.l
    have hlv := varsN_len hn
    have hmv := vr_len (varsN n)
    have hdv : (varsN n).drop n.ins.length = n.outs ++ n.locs := by unfold varsN; rw [List.append_assoc, List.drop_left]
    have hiv : n.ins.length ≤ (varsN n).length := by unfold varsN; rw [List.length_append, List.length_append]; omega
    generalize varsN n = v at *
    generalize hZ2 : namesV [] v c1 = Zv at *
    replace hZ2 := Hdn.mk hZ2
    replace hdv := Hdn.mk hdv
    (first | focus (refine yy105 ?_; (((refine awl_callc rfl auto_wl (cv _) (fun r H' hpost => ?_); obtain ⟨rfl, rfl⟩ := hpost))); refine yy99 ?_; refine yy65 ?_; refine yy47 ?_; rotate_left) | fail)
    clear cv
    refine aw_loop (fun mm R3 H3 => ∃ (k : Nat) (c : Ck), k ≤ v.length ∧ Hdn (namesV (v.take k) (v.drop k) c = Zv) ∧ H3 oC = some (.cel (ckA c)) ∧ H3 oR = some (.cel ckZ) ∧ H3 oX = some (.cel [.str n.name, .sls n.ins.length (vrL n.ins), .sls n.outs.length (vrL n.outs), .sls n.locs.length (vrL n.locs), .sls n.eqs.length (eqL n.eqs), avI n.at_]) ∧ (∀ p y, H p = some y → H3 p = some y) ∧ R3 = [(0, ndsA l), (2, .ptr oR 0), (3, .ptr oC 0), (4, avI i), (5, .ptr oX 0), (6, .sls v.length (vrL v)), (7, avI k)] ∧ v.length - k = mm) ?_ ?_
    · exact ⟨_, _, _, Ent.sub _ (by (repeat' (first | exact RSub.nil _ | apply RSub.cons)); all_goals rfl), 0, c1, Nat.zero_le _, hZ2, q1, q2, q3, hfr, rfl, rfl⟩
    clear hZ2 q1 q2 q3 hfr c1
    rintro mm R3 H3 ⟨k, c, hk, hZ2, q1, q2, q3, hfr, rfl, rfl⟩
    by_cases hkt : k < v.length
    · have hg : v[k]? = some v[k] := List.getElem?_eq_getElem hkt
      have hd : v.drop k = v[k] :: v.drop (k + 1) := List.drop_eq_getElem_cons hkt
      have hsk : v.take (k + 1) = v.take k ++ [v[k]] := by rw [List.take_add_one, hg]; rfl
      rw [hd, namesV, ← hsk] at hZ2
      generalize v[k] = x at *
      have y0 := vr_at hg (j := 0) (by decide) rfl
      have y2 := vr_at hg (j := 2) (by decide) rfl
      have y4 := vr_at hg (j := 4) (by decide) rfl
      clear hg hd hsk
      have cf := fun H (c : Ck) h => fail_calls6 (o := oC) H c 8 x.at_ h
      (first | focus (refine yy42 ?_; refine aw_condp rfl (fun hc => ?_) (fun hc => ?_); refine yy10 ?_; refine yy77 ?_; refine yy32 ?_; refine yy95 ?_; refine yy144 ?_; refine yy34 ?_; refine yy47 ?_; rotate_left; exact absurd hc auto_no) | fail)
      refine aw_loop (fun mm R4 H4 => ∃ (j : Nat) (b : Bool) (c' : Ck), j ≤ k ∧ Hdn (b = (decide (x.on = []) || inputL x.on (v.take j))) ∧ Hdn (c' = if inputL x.name (v.take j) then failC c 8 x.at_ else c) ∧ H4 oC = some (.cel (ckA c')) ∧ H4 oR = some (.cel ckZ) ∧ H4 oX = some (.cel [.str n.name, .sls n.ins.length (vrL n.ins), .sls n.outs.length (vrL n.outs), .sls n.locs.length (vrL n.locs), .sls n.eqs.length (eqL n.eqs), avI n.at_]) ∧ (∀ p y, H p = some y → H4 p = some y) ∧ R4 = [(0, ndsA l), (2, .ptr oR 0), (3, .ptr oC 0), (4, avI i), (5, .ptr oX 0), (6, .sls v.length (vrL v)), (7, avI k), (8, avB b), (9, avI j)] ∧ k - j = mm) ?_ ?_
      · exact ⟨_, _, _, Ent.sub _ (by (repeat' (first | exact RSub.nil _ | apply RSub.cons)); all_goals rfl), 0, decide (x.on = []), c, Nat.zero_le _, ⟨by simp [inputL]⟩, ⟨by simp [inputL]⟩, q1, q2, q3, hfr, rfl, rfl⟩
      clear q1 q2 q3 hfr
      rintro mm R4 H4 ⟨j, b, c', hj, hb, hc', q1, q2, q3, hfr, rfl, rfl⟩
      by_cases hjt : j < k
      · have hg : v[j]? = some v[j] := List.getElem?_eq_getElem (by omega)
        have hsj : v.take (j + 1) = v.take j ++ [v[j]] := by rw [List.take_add_one, hg]; rfl
        generalize v[j] = u at *
        have z0 := vr_at hg (j := 0) (by decide) rfl
        have hb2 : Hdn ((b || decide (u.name = x.on)) = (decide (x.on = []) || inputL x.on (v.take (j + 1)))) := ⟨by rw [hb.out, hsj, inputL_snoc, Bool.or_assoc]⟩
        have hc2 : Hdn ((if u.name = x.name then failC c' 8 x.at_ else c') = if inputL x.name (v.take (j + 1)) then failC c 8 x.at_ else c) := ⟨by rw [hc'.out, hsj, inputL_snoc]; exact fail_or⟩
        clear hg hsj hb hc' hZ2
        have cf := fun H h => cf H c' h
        generalize failC c' 8 x.at_ = c2 at *
        by_cases hu : u.name = x.name
        · rw [if_pos hu] at hc2
          rw [hu] at hb2 z0
          clear hu
          cases b
          · rw [Bool.false_or] at hb2
            (first | focus (refine yy8 ?_; refine yy9 ?_; refine yy48 ?_; refine aw_condp rfl (fun hc => ?_) (fun hc => ?_); refine yy10 ?_; refine aw_seq ?_; refine yy69 ?_; (apply awt_s; · exact s_move (v := .sls _ _) rfl); (apply awt_s; · exact s_move (v := .raw _) rfl); (apply awt_s; · exact s_indexAddr_sls rfl rfl auto_len); (apply awt_s; · exact s_fieldAddr_pce rfl); (apply awt_s; · exact s_load_pce rfl auto_idx); (apply awt_s; · exact s_move (v := .sls _ _) rfl); (apply awt_s; · exact s_move (v := .raw _) rfl); (apply awt_s; · exact s_indexAddr_sls rfl rfl auto_len); (apply awt_s; · exact s_fieldAddr_pce rfl); (apply awt_s; · exact s_load_pce rfl auto_idx); (apply awt_s; · exact s_streq rfl rfl); refine yy73 ?_; refine aw_condp rfl (fun hc => ?_) (fun hc => ?_); refine yy121 ?_; refine yy30 ?_; refine yy32 ?_; refine yy95 ?_; (((refine awl_callc rfl auto_wl (cf _ auto_heap) (fun r H' hpost => ?_); obtain ⟨rfl, rfl⟩ := hpost))); refine yy4 ?_; refine yy115 ?_; (apply awt_s; · exact s_move (v := .raw _) rfl); (apply awt_s; · exact s_move (v := .raw _) rfl); refine yy2 ?_; (apply awt_s; · exact s_move (v := .sls _ _) rfl); refine yy2 ?_; (apply awt_s; · exact s_move (v := .raw _) rfl); refine yy2 ?_; (apply awt_s; · exact s_indexAddr_sls rfl rfl auto_len); refine yy2 ?_; (apply awt_s; · exact s_fieldAddr_pce rfl); refine yy2 ?_; (apply awt_s; · exact s_load_pce rfl auto_idx); refine yy2 ?_; (apply awt_s; · exact s_move (v := .sls _ _) rfl); refine yy2 ?_; (apply awt_s; · exact s_move (v := .raw _) rfl); refine yy2 ?_; (apply awt_s; · exact s_indexAddr_sls rfl rfl auto_len); refine yy2 ?_; (apply awt_s; · exact s_fieldAddr_pce rfl); refine yy2 ?_; (apply awt_s; · exact s_load_pce rfl auto_idx); refine yy2 ?_; (apply awt_s; · exact s_streq rfl rfl); (apply awt_s; · exact s_pick_f (v := .raw _) rfl rfl); (apply awt_s; · exact s_assign (v := .raw _) rfl); refine yy120 ?_; refine yy28 ?_; rotate_left; exact absurd hc auto_no; exact absurd hc auto_no) | fail)
            all_goals exact ⟨k - (j + 1), _, _, by omega, Ent.sub _ (by (repeat' (first | exact RSub.nil _ | apply RSub.cons)); all_goals rfl), j + 1, decide (x.name = x.on), c2, by omega, hb2, hc2, by exact auto_heap, by exact auto_heap, by exact auto_heap, fun p y hp => by
              have hp2 := hfr p y hp
              have hp3 : p ≠ oC := fun e => by rw [e, hC0] at hp; cases hp
              exact auto_heap, rfl, rfl⟩
          · rw [Bool.true_or] at hb2
            (first | focus (refine yy8 ?_; refine yy9 ?_; refine yy48 ?_; refine aw_condp rfl (fun hc => ?_) (fun hc => ?_); refine yy10 ?_; refine aw_seq ?_; refine yy69 ?_; (apply awt_s; · exact s_move (v := .sls _ _) rfl); (apply awt_s; · exact s_move (v := .raw _) rfl); (apply awt_s; · exact s_indexAddr_sls rfl rfl auto_len); (apply awt_s; · exact s_fieldAddr_pce rfl); (apply awt_s; · exact s_load_pce rfl auto_idx); (apply awt_s; · exact s_move (v := .sls _ _) rfl); (apply awt_s; · exact s_move (v := .raw _) rfl); (apply awt_s; · exact s_indexAddr_sls rfl rfl auto_len); (apply awt_s; · exact s_fieldAddr_pce rfl); (apply awt_s; · exact s_load_pce rfl auto_idx); (apply awt_s; · exact s_streq rfl rfl); refine yy73 ?_; refine aw_condp rfl (fun hc => ?_) (fun hc => ?_); refine yy121 ?_; refine yy30 ?_; refine yy32 ?_; refine yy95 ?_; (((refine awl_callc rfl auto_wl (cf _ auto_heap) (fun r H' hpost => ?_); obtain ⟨rfl, rfl⟩ := hpost))); refine yy4 ?_; refine yy115 ?_; (apply awt_s; · exact s_move (v := .raw _) rfl); (apply awt_s; · exact s_move (v := .raw _) rfl); refine yy55 ?_; refine yy55 ?_; refine yy127 ?_; refine zt4 rfl rfl ?_; (apply awt_s; · exact s_pick_t (v := .raw _) rfl rfl); (apply awt_s; · exact s_assign (v := .raw _) rfl); refine yy120 ?_; refine yy28 ?_; rotate_left; exact absurd hc auto_no; exact absurd hc auto_no) | fail)
            all_goals exact ⟨k - (j + 1), _, _, by omega, Ent.sub _ (by (repeat' (first | exact RSub.nil _ | apply RSub.cons)); all_goals rfl), j + 1, true, c2, by omega, hb2, hc2, by exact auto_heap, by exact auto_heap, by exact auto_heap, fun p y hp => by
                have hp2 := hfr p y hp
                have hp3 : p ≠ oC := fun e => by rw [e, hC0] at hp; cases hp
                exact auto_heap, rfl, rfl⟩
        · rw [if_neg hu] at hc2
          replace hu := Hdq.mk hu
          cases b
          · rw [Bool.false_or] at hb2
            (first | focus (refine yy8 ?_; refine yy9 ?_; refine yy48 ?_; refine aw_condp rfl (fun hc => ?_) (fun hc => ?_); refine yy10 ?_; refine aw_seq ?_; refine yy69 ?_; (apply awt_s; · exact s_move (v := .sls _ _) rfl); (apply awt_s; · exact s_move (v := .raw _) rfl); (apply awt_s; · exact s_indexAddr_sls rfl rfl auto_len); (apply awt_s; · exact s_fieldAddr_pce rfl); (apply awt_s; · exact s_load_pce rfl auto_idx); (apply awt_s; · exact s_move (v := .sls _ _) rfl); (apply awt_s; · exact s_move (v := .raw _) rfl); (apply awt_s; · exact s_indexAddr_sls rfl rfl auto_len); (apply awt_s; · exact s_fieldAddr_pce rfl); (apply awt_s; · exact s_load_pce rfl auto_idx); (apply awt_s; · exact s_streq rfl rfl); refine yy73 ?_; refine aw_condp rfl (fun hc => ?_) (fun hc => ?_); exact absurd hc (Hdq.out (by assumption)); refine yy11 ?_; refine yy115 ?_; (apply awt_s; · exact s_move (v := .raw _) rfl); (apply awt_s; · exact s_move (v := .raw _) rfl); refine yy2 ?_; (apply awt_s; · exact s_move (v := .sls _ _) rfl); refine yy2 ?_; (apply awt_s; · exact s_move (v := .raw _) rfl); refine yy2 ?_; (apply awt_s; · exact s_indexAddr_sls rfl rfl auto_len); refine yy2 ?_; (apply awt_s; · exact s_fieldAddr_pce rfl); refine yy2 ?_; (apply awt_s; · exact s_load_pce rfl auto_idx); refine yy2 ?_; (apply awt_s; · exact s_move (v := .sls _ _) rfl); refine yy2 ?_; (apply awt_s; · exact s_move (v := .raw _) rfl); refine yy2 ?_; (apply awt_s; · exact s_indexAddr_sls rfl rfl auto_len); refine yy2 ?_; (apply awt_s; · exact s_fieldAddr_pce rfl); refine yy2 ?_; (apply awt_s; · exact s_load_pce rfl auto_idx); refine yy2 ?_; (apply awt_s; · exact s_streq rfl rfl); (apply awt_s; · exact s_pick_f (v := .raw _) rfl rfl); (apply awt_s; · exact s_assign (v := .raw _) rfl); refine yy120 ?_; refine yy28 ?_; rotate_left; exact absurd hc auto_no) | fail)
            all_goals exact ⟨k - (j + 1), _, _, by omega, Ent.sub _ (by (repeat' (first | exact RSub.nil _ | apply RSub.cons)); all_goals rfl), j + 1, decide (u.name = x.on), c', by omega, hb2, hc2, q1, q2, q3, hfr, rfl, rfl⟩
          · rw [Bool.true_or] at hb2
            (first | focus (refine yy8 ?_; refine yy9 ?_; refine yy48 ?_; refine aw_condp rfl (fun hc => ?_) (fun hc => ?_); refine yy10 ?_; refine aw_seq ?_; refine yy69 ?_; (apply awt_s; · exact s_move (v := .sls _ _) rfl); (apply awt_s; · exact s_move (v := .raw _) rfl); (apply awt_s; · exact s_indexAddr_sls rfl rfl auto_len); (apply awt_s; · exact s_fieldAddr_pce rfl); (apply awt_s; · exact s_load_pce rfl auto_idx); (apply awt_s; · exact s_move (v := .sls _ _) rfl); (apply awt_s; · exact s_move (v := .raw _) rfl); (apply awt_s; · exact s_indexAddr_sls rfl rfl auto_len); (apply awt_s; · exact s_fieldAddr_pce rfl); (apply awt_s; · exact s_load_pce rfl auto_idx); (apply awt_s; · exact s_streq rfl rfl); refine yy73 ?_; refine aw_condp rfl (fun hc => ?_) (fun hc => ?_); exact absurd hc (Hdq.out (by assumption)); refine yy11 ?_; refine yy115 ?_; (apply awt_s; · exact s_move (v := .raw _) rfl); (apply awt_s; · exact s_move (v := .raw _) rfl); refine yy55 ?_; refine yy55 ?_; refine yy127 ?_; refine zt4 rfl rfl ?_; (apply awt_s; · exact s_pick_t (v := .raw _) rfl rfl); (apply awt_s; · exact s_assign (v := .raw _) rfl); refine yy120 ?_; refine yy28 ?_; rotate_left; exact absurd hc auto_no) | fail)
            all_goals exact ⟨k - (j + 1), _, _, by omega, Ent.sub _ (by (repeat' (first | exact RSub.nil _ | apply RSub.cons)); all_goals rfl), j + 1, true, c', by omega, hb2, hc2, q1, q2, q3, hfr, rfl, rfl⟩
      · obtain rfl : j = k := by omega
        have hZ3 : Hdn (namesV (v.take (j + 1)) (v.drop (j + 1)) (if b = true then c' else failC c' 8 x.at_) = Zv) := ⟨by rw [← hZ2.out, hb.out, hc'.out]; rfl⟩
        clear hb hc' hZ2
        have cf := fun H h => cf H c' h
        generalize failC c' 8 x.at_ = c2 at *
        cases b
        · rw [if_neg (by decide)] at hZ3
          (first | focus (refine yy8 ?_; refine yy9 ?_; refine yy48 ?_; refine aw_condp rfl (fun hc => ?_) (fun hc => ?_); exact absurd hc auto_no; refine yy24 ?_; refine yy14 ?_; refine yy103 ?_; refine yy121 ?_; refine yy30 ?_; refine yy32 ?_; refine yy95 ?_; (((refine awl_callc rfl auto_wl (cf _ auto_heap) (fun r H' hpost => ?_); obtain ⟨rfl, rfl⟩ := hpost))); refine yy45 ?_; refine yy91 ?_; rotate_left) | fail)
          all_goals exact ⟨v.length - (j + 1), _, _, by omega, Ent.sub _ (by (repeat' (first | exact RSub.nil _ | apply RSub.cons)); all_goals rfl), j + 1, c2, by omega, hZ3, by exact auto_heap, by exact auto_heap, by exact auto_heap, fun p y hp => by
                have hp2 := hfr p y hp
                have hp3 : p ≠ oC := fun e => by rw [e, hC0] at hp; cases hp
                exact auto_heap, rfl, rfl⟩
        · rw [if_pos rfl] at hZ3
          (first | focus (refine yy8 ?_; refine yy9 ?_; refine yy48 ?_; refine aw_condp rfl (fun hc => ?_) (fun hc => ?_); exact absurd hc auto_no; refine yy24 ?_; refine yy14 ?_; refine yy54 ?_; refine yy76 ?_; refine yy28 ?_; rotate_left) | fail)
          all_goals exact ⟨v.length - (j + 1), _, _, by omega, Ent.sub _ (by (repeat' (first | exact RSub.nil _ | apply RSub.cons)); all_goals rfl), j + 1, c', by omega, hZ3, q1, q2, q3, hfr, rfl, rfl⟩
    · obtain rfl : k = v.length := by omega
      have hZ3 : c = Zv := by rw [← hZ2.out, List.drop_length, namesV]
      subst hZ3
      clear hZ2
      have heq := eq_len n.eqs
      have hbq := hn.q
      generalize hZ4 : namesQ pre n [] n.eqs c = Zq at *
      replace hZ4 := Hdn.mk hZ4
      (first | focus (refine yy42 ?_; refine aw_condp rfl (fun hc => ?_) (fun hc => ?_); exact absurd hc auto_no; refine yy24 ?_; refine yy34 ?_; refine yy47 ?_; rotate_left) | fail)
      refine aw_loop (fun mm R3 H3 => ∃ (k : Nat) (c : Ck), k ≤ n.eqs.length ∧ Hdn (namesQ pre n (n.eqs.take k) (n.eqs.drop k) c = Zq) ∧ H3 oC = some (.cel (ckA c)) ∧ H3 oR = some (.cel ckZ) ∧ H3 oX = some (.cel [.str n.name, .sls n.ins.length (vrL n.ins), .sls n.outs.length (vrL n.outs), .sls n.locs.length (vrL n.locs), .sls n.eqs.length (eqL n.eqs), avI n.at_]) ∧ (∀ p y, H p = some y → H3 p = some y) ∧ R3 = [(0, ndsA l), (2, .ptr oR 0), (3, .ptr oC 0), (4, avI i), (5, .ptr oX 0), (6, .sls v.length (vrL v)), (10, avI k)] ∧ n.eqs.length - k = mm) ?_ ?_
      · exact ⟨_, _, _, Ent.sub _ (by (repeat' (first | exact RSub.nil _ | apply RSub.cons)); all_goals rfl), 0, c, Nat.zero_le _, hZ4, q1, q2, q3, hfr, rfl, rfl⟩
      clear hZ4 q1 q2 q3 hfr c hkt hk
      rintro mm R3 H3 ⟨k, c, hk, hZ4, q1, q2, q3, hfr, rfl, rfl⟩
      by_cases hkt : k < n.eqs.length
      · have hg : n.eqs[k]? = some n.eqs[k] := List.getElem?_eq_getElem hkt
        have hd : n.eqs.drop k = n.eqs[k] :: n.eqs.drop (k + 1) := List.drop_eq_getElem_cons hkt
        have hsk : n.eqs.take (k + 1) = n.eqs.take k ++ [n.eqs[k]] := by rw [List.take_add_one, hg]; rfl
        have hbx := hn.e _ (List.getElem_mem hkt)
        rw [hd, namesQ, ← hsk] at hZ4
        generalize n.eqs[k] = x at *
        have hsq : List.take 7 (List.drop (k * 7) (eqL n.eqs)) = [.str x.name, .str x.e.op, .str x.e.name, avI x.e.n, avI x.e.at_, .sls x.e.kids.length (exL x.e.kids), avI x.at_] := eq_get hg
        have y0 := eq_at hg (j := 0) (by decide) rfl
        have y6 := eq_at hg (j := 6) (by decide) rfl
        clear hg hd hsk
        have cf := fun H h => fail_calls6 (o := oC) H c 8 x.at_ h
        have cfd := fun H => Find_calls H n x.name hn.i hn.o hn.l
        have cin := fun H => input_calls H n x.name hn.i
        have cnm := fun H (c : Ck) h => names_calls (o := oC) pre n (by omega) hn.i hn.o hn.l _ x.e H c (Nat.le_refl _) hbx h
        rw [hla.out] at cnm
        unfold nameQ at hZ4
        generalize findV n x.name = fv at *
        generalize inputL x.name n.ins = bi at *
        obtain ⟨fv1, kn⟩ := fv
        simp only at hZ4
        (first | focus (refine yy19 ?_; refine aw_condp rfl (fun hc => ?_) (fun hc => ?_); refine yy10 ?_; refine yy13 ?_; refine yy32 ?_; refine yy60 ?_; refine awl_alloc rfl rfl rfl (fun oN hoN => ?_); refine yy15 ?_; refine yy31 ?_; refine yy29 ?_; refine yy21 ?_; (((refine awl_callc rfl auto_wl (cfd _) (fun r H' hpost => ?_); obtain ⟨rfl, rfl⟩ := hpost))); refine yy93 ?_; refine awl_alloc rfl rfl rfl (fun oN hoN => ?_); refine yy15 ?_; refine yy5 ?_; refine yy12 ?_; refine yy34 ?_; refine yy47 ?_; rotate_left; exact absurd hc auto_no) | fail)
        rename_i oQ hoQ
        have hQ3 : H3 oQ = none := by (first | assumption | exact AHeap.none_of_set ((by assumption)) | exact AHeap.none_of_set (AHeap.none_of_set ((by assumption))) | exact AHeap.none_of_set (AHeap.none_of_set (AHeap.none_of_set ((by assumption)))) | exact AHeap.none_of_set (AHeap.none_of_set (AHeap.none_of_set (AHeap.none_of_set ((by assumption))))) | exact AHeap.none_of_set (AHeap.none_of_set (AHeap.none_of_set (AHeap.none_of_set (AHeap.none_of_set ((by assumption)))))) | exact AHeap.none_of_set (AHeap.none_of_set (AHeap.none_of_set (AHeap.none_of_set (AHeap.none_of_set (AHeap.none_of_set ((by assumption))))))) | exact AHeap.none_of_set (AHeap.none_of_set (AHeap.none_of_set (AHeap.none_of_set (AHeap.none_of_set (AHeap.none_of_set (AHeap.none_of_set ((by assumption)))))))) | exact AHeap.none_of_set (AHeap.none_of_set (AHeap.none_of_set (AHeap.none_of_set (AHeap.none_of_set (AHeap.none_of_set (AHeap.none_of_set (AHeap.none_of_set ((by assumption))))))))) | exact AHeap.none_of_set (AHeap.none_of_set (AHeap.none_of_set (AHeap.none_of_set (AHeap.none_of_set (AHeap.none_of_set (AHeap.none_of_set (AHeap.none_of_set (AHeap.none_of_set ((by assumption)))))))))) | exact AHeap.none_of_set (AHeap.none_of_set (AHeap.none_of_set (AHeap.none_of_set (AHeap.none_of_set (AHeap.none_of_set (AHeap.none_of_set (AHeap.none_of_set (AHeap.none_of_set (AHeap.none_of_set ((by assumption))))))))))))
        have hN3 : H3 oN = none := by (first | assumption | exact AHeap.none_of_set ((by assumption)) | exact AHeap.none_of_set (AHeap.none_of_set ((by assumption))) | exact AHeap.none_of_set (AHeap.none_of_set (AHeap.none_of_set ((by assumption)))) | exact AHeap.none_of_set (AHeap.none_of_set (AHeap.none_of_set (AHeap.none_of_set ((by assumption))))) | exact AHeap.none_of_set (AHeap.none_of_set (AHeap.none_of_set (AHeap.none_of_set (AHeap.none_of_set ((by assumption)))))) | exact AHeap.none_of_set (AHeap.none_of_set (AHeap.none_of_set (AHeap.none_of_set (AHeap.none_of_set (AHeap.none_of_set ((by assumption))))))) | exact AHeap.none_of_set (AHeap.none_of_set (AHeap.none_of_set (AHeap.none_of_set (AHeap.none_of_set (AHeap.none_of_set (AHeap.none_of_set ((by assumption)))))))) | exact AHeap.none_of_set (AHeap.none_of_set (AHeap.none_of_set (AHeap.none_of_set (AHeap.none_of_set (AHeap.none_of_set (AHeap.none_of_set (AHeap.none_of_set ((by assumption))))))))) | exact AHeap.none_of_set (AHeap.none_of_set (AHeap.none_of_set (AHeap.none_of_set (AHeap.none_of_set (AHeap.none_of_set (AHeap.none_of_set (AHeap.none_of_set (AHeap.none_of_set ((by assumption)))))))))) | exact AHeap.none_of_set (AHeap.none_of_set (AHeap.none_of_set (AHeap.none_of_set (AHeap.none_of_set (AHeap.none_of_set (AHeap.none_of_set (AHeap.none_of_set (AHeap.none_of_set (AHeap.none_of_set ((by assumption))))))))))))
        have hQ0 : H oQ = none := by
          cases e : H oQ with
          | none => rfl
          | some y => rw [hfr _ _ e] at hQ3; cases hQ3
        have hQC : oQ ≠ oC := fun e => by rw [e, q1] at hQ3; cases hQ3
        have hQR : oQ ≠ oR := fun e => by rw [e, q2] at hQ3; cases hQ3
        have hQX : oQ ≠ oX := fun e => by rw [e, q3] at hQ3; cases hQ3
        have hNC : oN ≠ oC := fun e => by rw [e, q1] at hN3; cases hN3
        have hNR : oN ≠ oR := fun e => by rw [e, q2] at hN3; cases hN3
        have hNX : oN ≠ oX := fun e => by rw [e, q3] at hN3; cases hN3
        have hNQ : oN ≠ oQ := AHeap.ne_of_fresh hoN
        refine aw_loop (fun mm R4 H4 => ∃ (j : Nat) (b : Bool), j ≤ k ∧ Hdn (b = (n.eqs.take j).any fun p => decide (p.name = x.name)) ∧ H4 oC = some (.cel (ckA c)) ∧ H4 oR = some (.cel ckZ) ∧ H4 oX = some (.cel [.str n.name, .sls n.ins.length (vrL n.ins), .sls n.outs.length (vrL n.outs), .sls n.locs.length (vrL n.locs), .sls n.eqs.length (eqL n.eqs), avI n.at_]) ∧ H4 oQ = some (.cel [.str x.name, .str x.e.op, .str x.e.name, avI x.e.n, avI x.e.at_, .sls x.e.kids.length (exL x.e.kids), avI x.at_]) ∧ (∀ p y, H p = some y → H4 p = some y) ∧ R4 = [(0, ndsA l), (2, .ptr oR 0), (3, .ptr oC 0), (4, avI i), (5, .ptr oX 0), (6, .sls v.length (vrL v)), (10, avI k), (11, .ptr oQ 0), (13, avB kn), (14, avB b), (15, avI j)] ∧ k - j = mm) ?_ ?_
        · exact ⟨_, _, _, Ent.sub _ (by (repeat' (first | exact RSub.nil _ | apply RSub.cons)); all_goals rfl), 0, false, Nat.zero_le _, ⟨rfl⟩, by exact auto_heap, by exact auto_heap, by exact auto_heap, by exact auto_heap, fun p y hp => by
                have hp2 := hfr p y hp
                have hp5 : H3 p ≠ none := fun e => by rw [hp2] at e; cases e
                have hp6 : p ≠ oQ := fun e => hp5 (by rw [e]; exact hQ3)
                have hp7 : p ≠ oN := fun e => hp5 (by rw [e]; exact hN3)
                exact auto_heap, rfl, rfl⟩
        clear q1 q2 q3 hfr hoN hN3 hQ3 hNC hNR hNX hNQ hsq y0 y6 cfd
        rintro mm R4 H4 ⟨j, b, hj, hb, q1, q2, q3, q4, hfr, rfl, rfl⟩
        by_cases hjt : j < k
        · have hg : n.eqs[j]? = some n.eqs[j] := List.getElem?_eq_getElem (by omega)
          have hsj : n.eqs.take (j + 1) = n.eqs.take j ++ [n.eqs[j]] := by rw [List.take_add_one, hg]; rfl
          generalize n.eqs[j] = u at *
          have z0 := eq_at hg (j := 0) (by decide) rfl
          have hb2 : Hdn ((b || decide (u.name = x.name)) = (n.eqs.take (j + 1)).any fun p => decide (p.name = x.name)) := ⟨by rw [hb.out, hsj, List.any_append, List.any_cons, List.any_nil, Bool.or_false]⟩
          clear hg hsj hb hZ4 cf cin cnm
          cases b
          · rw [Bool.false_or] at hb2
            (first | focus (refine yy8 ?_; refine yy9 ?_; refine yy48 ?_; refine aw_condp rfl (fun hc => ?_) (fun hc => ?_); refine yy10 ?_; refine yy115 ?_; (apply awt_s; · exact s_move (v := .raw _) rfl); (apply awt_s; · exact s_move (v := .raw _) rfl); refine yy2 ?_; (apply awt_s; · exact s_fieldAddr_ptr rfl); refine yy2 ?_; (apply awt_s; · exact s_load_cel rfl auto_heap rfl); refine yy2 ?_; (apply awt_s; · exact s_move (v := .raw _) rfl); refine yy2 ?_; (apply awt_s; · exact s_indexAddr_sls rfl rfl auto_len); refine yy2 ?_; (apply awt_s; · exact s_fieldAddr_pce rfl); refine yy2 ?_; (apply awt_s; · exact s_load_pce rfl auto_idx); refine yy2 ?_; (apply awt_s; · exact s_fieldAddr_ptr rfl); refine yy2 ?_; (apply awt_s; · exact s_load_cel rfl auto_heap rfl); refine yy2 ?_; (apply awt_s; · exact s_streq rfl rfl); (apply awt_s; · exact s_pick_f (v := .raw _) rfl rfl); (apply awt_s; · exact s_assign (v := .raw _) rfl); refine yy120 ?_; refine yy28 ?_; rotate_left; exact absurd hc auto_no) | fail)
            all_goals exact ⟨k - (j + 1), _, _, by omega, Ent.sub _ (by (repeat' (first | exact RSub.nil _ | apply RSub.cons)); all_goals rfl), j + 1, decide (u.name = x.name), by omega, hb2, q1, q2, q3, q4, hfr, rfl, rfl⟩
          · rw [Bool.true_or] at hb2
            (first | focus (refine yy8 ?_; refine yy9 ?_; refine yy48 ?_; refine aw_condp rfl (fun hc => ?_) (fun hc => ?_); refine yy10 ?_; refine yy115 ?_; (apply awt_s; · exact s_move (v := .raw _) rfl); (apply awt_s; · exact s_move (v := .raw _) rfl); refine yy55 ?_; refine yy55 ?_; refine zt4 rfl rfl ?_; (apply awt_s; · exact s_pick_t (v := .raw _) rfl rfl); (apply awt_s; · exact s_assign (v := .raw _) rfl); refine yy120 ?_; refine yy28 ?_; rotate_left; exact absurd hc auto_no) | fail)
            all_goals exact ⟨k - (j + 1), _, _, by omega, Ent.sub _ (by (repeat' (first | exact RSub.nil _ | apply RSub.cons)); all_goals rfl), j + 1, true, by omega, hb2, q1, q2, q3, q4, hfr, rfl, rfl⟩
        · obtain rfl : j = k := by omega
          have hZ5 : Hdn (namesQ pre n (n.eqs.take (j + 1)) (n.eqs.drop (j + 1)) (namesE pre n (if (!kn || bi || b) = true then failC c 8 x.at_ else c) x.e) = Zq) := ⟨by rw [hb.out]; exact hZ4.out⟩
          clear hb hZ4
          generalize failC c 8 x.at_ = c2 at *
          simp only [exA, Ex.cells] at cnm
          cases kn
          · simp only [Bool.not_false, Bool.true_or, if_true] at hZ5
            (first | focus (refine yy8 ?_; refine yy9 ?_; refine yy48 ?_; refine aw_condp rfl (fun hc => ?_) (fun hc => ?_); exact absurd hc auto_no; refine yy24 ?_; refine yy8 ?_; refine yy54 ?_; refine yy9 ?_; refine yy50 ?_; refine yy107 ?_; refine yy92 ?_; refine yy101 ?_; refine yy96 ?_; (((refine awl_callc rfl auto_wl (cf _ auto_heap) (fun r H' hpost => ?_); obtain ⟨rfl, rfl⟩ := hpost))); refine yy4 ?_; refine yy115 ?_; (apply awt_s; · exact s_move (v := .ptr _ _) rfl); (apply awt_s; · exact s_move (v := .sls _ _) rfl); (apply awt_s; · exact s_move (v := .raw _) rfl); (apply awt_s; · exact s_slice_sls rfl auto_bnd auto_bnd auto_len auto_len); (apply awt_s; · exact s_load_agg rfl auto_heap rfl rfl (by first | decide | exact Nat.le_of_ble_eq_true rfl)); (apply awt_s; · exact s_fieldAddr_ptr rfl); (apply awt_s; · exact s_load_agg rfl auto_heap rfl rfl (by first | decide | exact Nat.le_of_ble_eq_true rfl)); refine awt_last ?_; (((refine awl_callc rfl auto_wl (cnm _ _ auto_heap) (fun r H' hpost => ?_); obtain ⟨rfl, rfl⟩ := hpost))); refine yy45 ?_; refine yy91 ?_; rotate_left) | fail)
            all_goals exact ⟨n.eqs.length - (j + 1), _, _, by omega, Ent.sub _ (by (repeat' (first | exact RSub.nil _ | apply RSub.cons)); all_goals rfl), j + 1, _, by omega, hZ5, by exact auto_heap, by exact auto_heap, by exact auto_heap, fun p y hp => by
                have hp2 := hfr p y hp
                have hp3 : p ≠ oC := fun e => by rw [e, hC0] at hp; cases hp
                exact auto_heap, rfl, rfl⟩
          · cases bi
            · cases b
              · simp only [Bool.not_true, Bool.false_or, Bool.false_eq_true, if_false] at hZ5
                (first | focus (refine yy8 ?_; refine yy9 ?_; refine yy48 ?_; refine aw_condp rfl (fun hc => ?_) (fun hc => ?_); exact absurd hc auto_no; refine yy24 ?_; refine yy8 ?_; refine yy54 ?_; refine yy23 ?_; refine yy29 ?_; refine yy6 ?_; refine yy86 ?_; (((refine awl_callc rfl auto_wl (cin _) (fun r H' hpost => ?_); obtain ⟨rfl, rfl⟩ := hpost))); refine yy41 ?_; refine yy23 ?_; refine yy9 ?_; refine yy41 ?_; refine yy53 ?_; refine yy115 ?_; (apply awt_s; · exact s_move (v := .ptr _ _) rfl); (apply awt_s; · exact s_move (v := .sls _ _) rfl); (apply awt_s; · exact s_move (v := .raw _) rfl); (apply awt_s; · exact s_slice_sls rfl auto_bnd auto_bnd auto_len auto_len); (apply awt_s; · exact s_load_agg rfl auto_heap rfl rfl (by first | decide | exact Nat.le_of_ble_eq_true rfl)); (apply awt_s; · exact s_fieldAddr_ptr rfl); (apply awt_s; · exact s_load_agg rfl auto_heap rfl rfl (by first | decide | exact Nat.le_of_ble_eq_true rfl)); refine awt_last ?_; (((refine awl_callc rfl auto_wl (cnm _ _ auto_heap) (fun r H' hpost => ?_); obtain ⟨rfl, rfl⟩ := hpost))); refine yy45 ?_; refine yy91 ?_; rotate_left) | fail)
                all_goals exact ⟨n.eqs.length - (j + 1), _, _, by omega, Ent.sub _ (by (repeat' (first | exact RSub.nil _ | apply RSub.cons)); all_goals rfl), j + 1, _, by omega, hZ5, by exact auto_heap, by exact auto_heap, by exact auto_heap, fun p y hp => by
                have hp2 := hfr p y hp
                have hp3 : p ≠ oC := fun e => by rw [e, hC0] at hp; cases hp
                exact auto_heap, rfl, rfl⟩
              · simp only [Bool.not_true, Bool.false_or, if_true] at hZ5
                (first | focus (refine yy8 ?_; refine yy9 ?_; refine yy48 ?_; refine aw_condp rfl (fun hc => ?_) (fun hc => ?_); exact absurd hc auto_no; refine yy24 ?_; refine yy8 ?_; refine yy54 ?_; refine yy23 ?_; refine yy29 ?_; refine yy6 ?_; refine yy86 ?_; (((refine awl_callc rfl auto_wl (cin _) (fun r H' hpost => ?_); obtain ⟨rfl, rfl⟩ := hpost))); refine yy41 ?_; refine yy23 ?_; refine yy9 ?_; refine yy41 ?_; refine yy83 ?_; refine yy96 ?_; (((refine awl_callc rfl auto_wl (cf _ auto_heap) (fun r H' hpost => ?_); obtain ⟨rfl, rfl⟩ := hpost))); refine yy4 ?_; refine yy115 ?_; (apply awt_s; · exact s_move (v := .ptr _ _) rfl); (apply awt_s; · exact s_move (v := .sls _ _) rfl); (apply awt_s; · exact s_move (v := .raw _) rfl); (apply awt_s; · exact s_slice_sls rfl auto_bnd auto_bnd auto_len auto_len); (apply awt_s; · exact s_load_agg rfl auto_heap rfl rfl (by first | decide | exact Nat.le_of_ble_eq_true rfl)); (apply awt_s; · exact s_fieldAddr_ptr rfl); (apply awt_s; · exact s_load_agg rfl auto_heap rfl rfl (by first | decide | exact Nat.le_of_ble_eq_true rfl)); refine awt_last ?_; (((refine awl_callc rfl auto_wl (cnm _ _ auto_heap) (fun r H' hpost => ?_); obtain ⟨rfl, rfl⟩ := hpost))); refine yy45 ?_; refine yy91 ?_; rotate_left) | fail)
                all_goals exact ⟨n.eqs.length - (j + 1), _, _, by omega, Ent.sub _ (by (repeat' (first | exact RSub.nil _ | apply RSub.cons)); all_goals rfl), j + 1, _, by omega, hZ5, by exact auto_heap, by exact auto_heap, by exact auto_heap, fun p y hp => by
                have hp2 := hfr p y hp
                have hp3 : p ≠ oC := fun e => by rw [e, hC0] at hp; cases hp
                exact auto_heap, rfl, rfl⟩
            · simp only [Bool.not_true, Bool.false_or, Bool.true_or, if_true] at hZ5
              (first | focus (refine yy8 ?_; refine yy9 ?_; refine yy48 ?_; refine aw_condp rfl (fun hc => ?_) (fun hc => ?_); exact absurd hc auto_no; refine yy24 ?_; refine yy8 ?_; refine yy54 ?_; refine yy23 ?_; refine yy29 ?_; refine yy6 ?_; refine yy86 ?_; (((refine awl_callc rfl auto_wl (cin _) (fun r H' hpost => ?_); obtain ⟨rfl, rfl⟩ := hpost))); refine yy63 ?_; refine yy92 ?_; refine yy101 ?_; refine yy96 ?_; (((refine awl_callc rfl auto_wl (cf _ auto_heap) (fun r H' hpost => ?_); obtain ⟨rfl, rfl⟩ := hpost))); refine yy4 ?_; refine yy115 ?_; (apply awt_s; · exact s_move (v := .ptr _ _) rfl); (apply awt_s; · exact s_move (v := .sls _ _) rfl); (apply awt_s; · exact s_move (v := .raw _) rfl); (apply awt_s; · exact s_slice_sls rfl auto_bnd auto_bnd auto_len auto_len); (apply awt_s; · exact s_load_agg rfl auto_heap rfl rfl (by first | decide | exact Nat.le_of_ble_eq_true rfl)); (apply awt_s; · exact s_fieldAddr_ptr rfl); (apply awt_s; · exact s_load_agg rfl auto_heap rfl rfl (by first | decide | exact Nat.le_of_ble_eq_true rfl)); refine awt_last ?_; (((refine awl_callc rfl auto_wl (cnm _ _ auto_heap) (fun r H' hpost => ?_); obtain ⟨rfl, rfl⟩ := hpost))); refine yy45 ?_; refine yy91 ?_; rotate_left) | fail)
              all_goals exact ⟨n.eqs.length - (j + 1), _, _, by omega, Ent.sub _ (by (repeat' (first | exact RSub.nil _ | apply RSub.cons)); all_goals rfl), j + 1, _, by omega, hZ5, by exact auto_heap, by exact auto_heap, by exact auto_heap, fun p y hp => by
                have hp2 := hfr p y hp
                have hp3 : p ≠ oC := fun e => by rw [e, hC0] at hp; cases hp
                exact auto_heap, rfl, rfl⟩
      · obtain rfl : k = n.eqs.length := by omega
        have hZ3 : c = Zq := by rw [← hZ4.out, List.drop_length, namesQ]
        subst hZ3
        clear hZ4
        generalize hZ6 : namesO n (n.outs ++ n.locs) c = Zo at *
        rw [← hdv.out] at hZ6
        replace hZ6 := Hdn.mk hZ6
        (first | focus (refine yy19 ?_; refine aw_condp rfl (fun hc => ?_) (fun hc => ?_); exact absurd hc auto_no; refine yy24 ?_; refine yy13 ?_; refine yy113 ?_; refine yy47 ?_; rotate_left) | fail)
        refine aw_loop (fun mm R3 H3 => ∃ (k : Nat) (c : Ck), k ≤ v.length ∧ Hdn (namesO n (v.drop k) c = Zo) ∧ H3 oC = some (.cel (ckA c)) ∧ H3 oR = some (.cel ckZ) ∧ H3 oX = some (.cel [.str n.name, .sls n.ins.length (vrL n.ins), .sls n.outs.length (vrL n.outs), .sls n.locs.length (vrL n.locs), .sls n.eqs.length (eqL n.eqs), avI n.at_]) ∧ (∀ p y, H p = some y → H3 p = some y) ∧ R3 = [(0, ndsA l), (2, .ptr oR 0), (3, .ptr oC 0), (4, avI i), (5, .ptr oX 0), (6, .sls v.length (vrL v)), (16, avI k)] ∧ v.length - k = mm) ?_ ?_
        · exact ⟨_, _, _, Ent.sub _ (by (repeat' (first | exact RSub.nil _ | apply RSub.cons)); all_goals rfl), n.ins.length, c, hiv, hZ6, q1, q2, q3, hfr, rfl, rfl⟩
        clear hZ6 q1 q2 q3 hfr c hkt hk
        rintro mm R3 H3 ⟨k, c, hk, hZ6, q1, q2, q3, hfr, rfl, rfl⟩
        by_cases hkt : k < v.length
        · have hg : v[k]? = some v[k] := List.getElem?_eq_getElem hkt
          have hd : v.drop k = v[k] :: v.drop (k + 1) := List.drop_eq_getElem_cons hkt
          rw [hd, namesO] at hZ6
          generalize v[k] = x at *
          have y0 := vr_at hg (j := 0) (by decide) rfl
          have y4 := vr_at hg (j := 4) (by decide) rfl
          clear hg hd
          have cf := fun H h => fail_calls6 (o := oC) H c 8 x.at_ h
          have ceq := fun H => EqOf_calls H n x.name hn.q
          generalize eqOf n x.name = qv at *
          generalize failC c 8 x.at_ = c2 at *
          obtain ⟨qv1, kn⟩ := qv
          simp only at hZ6 ceq
          cases kn
          · rw [if_neg (by decide)] at hZ6
            (first | focus (refine yy42 ?_; refine aw_condp rfl (fun hc => ?_) (fun hc => ?_); refine yy10 ?_; refine aw_seq ?_; refine DC.aw_drawpx [46] (fun H' => H' oX = some (.cel [.str n.name, .sls n.ins.length (vrL n.ins), .sls n.outs.length (vrL n.outs), .sls n.locs.length (vrL n.locs), .sls n.eqs.length (eqL n.eqs), avI n.at_])) (by first | exact auto_heap) auto_kr auto_dk auto_dk ?_; (apply DC.awn_s; · (intro H1 hPsi; (try dsimp only at hPsi); exact s_load_agg rfl auto_heap rfl rfl (by first | decide | exact Nat.le_of_ble_eq_true rfl))); (apply DC.awn_s; · (intro H1 hPsi; (try dsimp only at hPsi); exact s_move (v := .sls _ _) rfl)); (apply DC.awn_s; · (intro H1 hPsi; (try dsimp only at hPsi); exact s_move (v := .raw _) rfl)); (apply DC.awn_s; · (intro H1 hPsi; (try dsimp only at hPsi); exact s_indexAddr_sls rfl rfl auto_len)); (apply DC.awn_s; · (intro H1 hPsi; (try dsimp only at hPsi); exact s_fieldAddr_pce rfl)); (apply DC.awn_s; · (intro H1 hPsi; (try dsimp only at hPsi); exact s_load_pce rfl auto_idx)); (apply DC.awn_s; · (intro H1 hPsi; (try dsimp only at hPsi); exact s_callc auto_wl (ceq _))); (apply DC.awn_s; · (intro H1 hPsi; (try dsimp only at hPsi); exact s_move (v := .tup _) rfl)); (apply DC.awn_s; · (intro H1 hPsi; (try dsimp only at hPsi); exact s_extract rfl rfl)); (apply DC.awn_s; · (intro H1 hPsi; (try dsimp only at hPsi); exact s_extract rfl rfl)); refine DC.awn_b ?_; refine DC.awn_b0 ?_; (apply DC.awn_s; · (intro H1 hPsi; (try dsimp only at hPsi); exact s_assign (v := .raw _) rfl)); refine DC.awn_nil ?_; refine DC.awc_cons (fun Rx K1 hK1x => ?_); refine awl_alloc rfl rfl rfl (fun oN hoN => ?_); refine yy37 ?_; (refine hK1x _ _ (by first | exact Or.inl (by decide +kernel) | (refine Or.inr ?_; (try dsimp only); first | exact auto_heap)) ?_; clear hK1x K1 Rx); refine DC.awc_cons0 (fun Rx K1 hK1x => ?_); refine yy15 ?_; refine yy37 ?_; (refine hK1x _ (by first | exact Or.inl (by decide +kernel) | (refine Or.inr ?_; (try dsimp only); first | exact auto_heap)) ?_; clear hK1x K1 Rx); refine DC.awc_nil ?_; refine k_seq_normal ?_; refine yy14 ?_; refine yy103 ?_; refine yy121 ?_; refine yy30 ?_; refine yy32 ?_; refine yy95 ?_; (((refine awl_callc rfl auto_wl (cf _ auto_heap) (fun r H' hpost => ?_); obtain ⟨rfl, rfl⟩ := hpost))); refine yy45 ?_; refine yy91 ?_; rotate_left; exact absurd hc auto_no) | fail)
            all_goals (
              have hN3 : H3 oN = none := by (first | assumption | exact AHeap.none_of_set ((by assumption)) | exact AHeap.none_of_set (AHeap.none_of_set ((by assumption))) | exact AHeap.none_of_set (AHeap.none_of_set (AHeap.none_of_set ((by assumption)))) | exact AHeap.none_of_set (AHeap.none_of_set (AHeap.none_of_set (AHeap.none_of_set ((by assumption))))) | exact AHeap.none_of_set (AHeap.none_of_set (AHeap.none_of_set (AHeap.none_of_set (AHeap.none_of_set ((by assumption)))))) | exact AHeap.none_of_set (AHeap.none_of_set (AHeap.none_of_set (AHeap.none_of_set (AHeap.none_of_set (AHeap.none_of_set ((by assumption))))))) | exact AHeap.none_of_set (AHeap.none_of_set (AHeap.none_of_set (AHeap.none_of_set (AHeap.none_of_set (AHeap.none_of_set (AHeap.none_of_set ((by assumption)))))))) | exact AHeap.none_of_set (AHeap.none_of_set (AHeap.none_of_set (AHeap.none_of_set (AHeap.none_of_set (AHeap.none_of_set (AHeap.none_of_set (AHeap.none_of_set ((by assumption))))))))) | exact AHeap.none_of_set (AHeap.none_of_set (AHeap.none_of_set (AHeap.none_of_set (AHeap.none_of_set (AHeap.none_of_set (AHeap.none_of_set (AHeap.none_of_set (AHeap.none_of_set ((by assumption)))))))))) | exact AHeap.none_of_set (AHeap.none_of_set (AHeap.none_of_set (AHeap.none_of_set (AHeap.none_of_set (AHeap.none_of_set (AHeap.none_of_set (AHeap.none_of_set (AHeap.none_of_set (AHeap.none_of_set ((by assumption))))))))))))
              have hNC : oN ≠ oC := fun e => by rw [e, q1] at hN3; cases hN3
              have hNR : oN ≠ oR := fun e => by rw [e, q2] at hN3; cases hN3
              have hNX : oN ≠ oX := fun e => by rw [e, q3] at hN3; cases hN3
              exact ⟨v.length - (k + 1), _, _, by omega, Ent.sub _ (by (repeat' (first | exact RSub.nil _ | apply RSub.cons)); all_goals rfl), k + 1, c2, by omega, hZ6, by exact auto_heap, by exact auto_heap, by exact auto_heap, fun p y hp => by
                have hp2 := hfr p y hp
                have hp3 : p ≠ oC := fun e => by rw [e, hC0] at hp; cases hp
                have hp5 : H3 p ≠ none := fun e => by rw [hp2] at e; cases e
                have hp7 : p ≠ oN := fun e => hp5 (by rw [e]; exact hN3)
                exact auto_heap, rfl, rfl⟩)
          · rw [if_pos rfl] at hZ6
            (first | focus (refine yy42 ?_; refine aw_condp rfl (fun hc => ?_) (fun hc => ?_); refine yy10 ?_; refine aw_seq ?_; refine DC.aw_drawpx [46] (fun H' => H' oX = some (.cel [.str n.name, .sls n.ins.length (vrL n.ins), .sls n.outs.length (vrL n.outs), .sls n.locs.length (vrL n.locs), .sls n.eqs.length (eqL n.eqs), avI n.at_])) (by first | exact auto_heap) auto_kr auto_dk auto_dk ?_; (apply DC.awn_s; · (intro H1 hPsi; (try dsimp only at hPsi); exact s_load_agg rfl auto_heap rfl rfl (by first | decide | exact Nat.le_of_ble_eq_true rfl))); (apply DC.awn_s; · (intro H1 hPsi; (try dsimp only at hPsi); exact s_move (v := .sls _ _) rfl)); (apply DC.awn_s; · (intro H1 hPsi; (try dsimp only at hPsi); exact s_move (v := .raw _) rfl)); (apply DC.awn_s; · (intro H1 hPsi; (try dsimp only at hPsi); exact s_indexAddr_sls rfl rfl auto_len)); (apply DC.awn_s; · (intro H1 hPsi; (try dsimp only at hPsi); exact s_fieldAddr_pce rfl)); (apply DC.awn_s; · (intro H1 hPsi; (try dsimp only at hPsi); exact s_load_pce rfl auto_idx)); (apply DC.awn_s; · (intro H1 hPsi; (try dsimp only at hPsi); exact s_callc auto_wl (ceq _))); (apply DC.awn_s; · (intro H1 hPsi; (try dsimp only at hPsi); exact s_move (v := .tup _) rfl)); (apply DC.awn_s; · (intro H1 hPsi; (try dsimp only at hPsi); exact s_extract rfl rfl)); (apply DC.awn_s; · (intro H1 hPsi; (try dsimp only at hPsi); exact s_extract rfl rfl)); refine DC.awn_b ?_; refine DC.awn_b0 ?_; (apply DC.awn_s; · (intro H1 hPsi; (try dsimp only at hPsi); exact s_assign (v := .raw _) rfl)); refine DC.awn_nil ?_; refine DC.awc_cons (fun Rx K1 hK1x => ?_); refine awl_alloc rfl rfl rfl (fun oN hoN => ?_); refine yy37 ?_; (refine hK1x _ _ (by first | exact Or.inl (by decide +kernel) | (refine Or.inr ?_; (try dsimp only); first | exact auto_heap)) ?_; clear hK1x K1 Rx); refine DC.awc_cons0 (fun Rx K1 hK1x => ?_); refine yy15 ?_; refine yy37 ?_; (refine hK1x _ (by first | exact Or.inl (by decide +kernel) | (refine Or.inr ?_; (try dsimp only); first | exact auto_heap)) ?_; clear hK1x K1 Rx); refine DC.awc_nil ?_; refine k_seq_normal ?_; refine yy14 ?_; refine yy54 ?_; refine yy76 ?_; refine yy28 ?_; rotate_left; exact absurd hc auto_no) | fail)
            all_goals (
              have hN3 : H3 oN = none := by (first | assumption | exact AHeap.none_of_set ((by assumption)) | exact AHeap.none_of_set (AHeap.none_of_set ((by assumption))) | exact AHeap.none_of_set (AHeap.none_of_set (AHeap.none_of_set ((by assumption)))) | exact AHeap.none_of_set (AHeap.none_of_set (AHeap.none_of_set (AHeap.none_of_set ((by assumption))))) | exact AHeap.none_of_set (AHeap.none_of_set (AHeap.none_of_set (AHeap.none_of_set (AHeap.none_of_set ((by assumption)))))) | exact AHeap.none_of_set (AHeap.none_of_set (AHeap.none_of_set (AHeap.none_of_set (AHeap.none_of_set (AHeap.none_of_set ((by assumption))))))) | exact AHeap.none_of_set (AHeap.none_of_set (AHeap.none_of_set (AHeap.none_of_set (AHeap.none_of_set (AHeap.none_of_set (AHeap.none_of_set ((by assumption)))))))) | exact AHeap.none_of_set (AHeap.none_of_set (AHeap.none_of_set (AHeap.none_of_set (AHeap.none_of_set (AHeap.none_of_set (AHeap.none_of_set (AHeap.none_of_set ((by assumption))))))))) | exact AHeap.none_of_set (AHeap.none_of_set (AHeap.none_of_set (AHeap.none_of_set (AHeap.none_of_set (AHeap.none_of_set (AHeap.none_of_set (AHeap.none_of_set (AHeap.none_of_set ((by assumption)))))))))) | exact AHeap.none_of_set (AHeap.none_of_set (AHeap.none_of_set (AHeap.none_of_set (AHeap.none_of_set (AHeap.none_of_set (AHeap.none_of_set (AHeap.none_of_set (AHeap.none_of_set (AHeap.none_of_set ((by assumption))))))))))))
              have hNC : oN ≠ oC := fun e => by rw [e, q1] at hN3; cases hN3
              have hNR : oN ≠ oR := fun e => by rw [e, q2] at hN3; cases hN3
              have hNX : oN ≠ oX := fun e => by rw [e, q3] at hN3; cases hN3
              exact ⟨v.length - (k + 1), _, _, by omega, Ent.sub _ (by (repeat' (first | exact RSub.nil _ | apply RSub.cons)); all_goals rfl), k + 1, c, by omega, hZ6, by exact auto_heap, by exact auto_heap, by exact auto_heap, fun p y hp => by
                have hp2 := hfr p y hp
                have hp5 : H3 p ≠ none := fun e => by rw [hp2] at e; cases e
                have hp7 : p ≠ oN := fun e => hp5 (by rw [e]; exact hN3)
                exact auto_heap, rfl, rfl⟩)
        · obtain rfl : k = v.length := by omega
          have hZ3 : c = Zo := by rw [← hZ6.out, List.drop_length, namesO]
          subst hZ3
          clear hZ6
          (first | focus (refine yy42 ?_; refine aw_condp rfl (fun hc => ?_) (fun hc => ?_); exact absurd hc auto_no; refine yy138 ?_; refine k_seq_exit ?_; refine k_block_eq ?_; refine yy28 ?_; rotate_left) | fail)
          all_goals exact ⟨l.length - (i + 1), _, _, by omega, Ent.sub _ (by (repeat' (first | exact RSub.nil _ | apply RSub.cons)); all_goals rfl), i + 1, c, by omega, hZ.out, q1, q2, hfr, rfl, rfl⟩
  · obtain rfl : i = l.length := by omega
    rw [List.drop_length, namesN] at hZ
    subst hZ
    (first | focus (refine yy42 ?_; refine aw_condp rfl (fun hc => ?_) (fun hc => ?_); exact absurd hc auto_no; refine yy24 ?_; refine yy7 ?_; refine yy80 ?_; refine yy29 ?_; refine yy36 ?_; rotate_left) | fail)
    exact ⟨.inl rfl, _, _, _, Ent.cellRet 2 (ckA c) rfl auto_heap (by ((repeat' (first | exact WC.nil | apply WC.cons)); all_goals (first | exact W.of rfl | exact W.int rfl | exact W.nilb rfl | exact W.empb rfl | exact W.bysx rfl | exact W.nils rfl | exact W.emps rfl | exact W.slsx rfl))) (fun sp sy shp => by
      have hp2 := hfr sp sy shp
      have hp3 : sp ≠ oR := fun e => by rw [e, hoR] at shp; cases shp
      exact ⟨hp3, auto_heap⟩), ret_1 rfl (rv1_agg (m := 2) rfl rfl rfl (by decide)), rfl, rfl⟩
end Go.Proofs.Ytmgkhfnhaeplgaa

namespace Go.Proofs.Ytmgkhfnhaeplgaa
open Go
set_option linter.unusedSimpArgs false
set_option linter.unusedVariables false
set_option maxRecDepth 20000

/-! Kinds, one by one; what a tree must be. Plain. -/
def arOf (op : Bs) : Nat :=
  if op = ([110, 111, 116] : Bs) ∨ op = ([110, 101, 103] : Bs) ∨ op = ([112, 114, 101] : Bs) ∨ op = ([119, 104, 101, 110] : Bs) then 1
  else if op = ([43] : Bs) ∨ op = ([45] : Bs) ∨ op = ([42] : Bs) ∨ op = ([47] : Bs) ∨ op = ([109, 111, 100] : Bs) ∨ op = ([61] : Bs) ∨ op = ([60, 62] : Bs) ∨ op = ([60] : Bs) ∨ op = ([60, 61] : Bs) ∨ op = ([62] : Bs) ∨ op = ([62, 61] : Bs) ∨ op = ([97, 110, 100] : Bs) ∨ op = ([111, 114] : Bs) ∨ op = ([120, 111, 114] : Bs) ∨ op = ([45, 62] : Bs) ∨ op = ([102, 98, 121] : Bs) ∨ op = ([109, 101, 114, 103, 101] : Bs) then 2
  else if op = ([105, 102] : Bs) then 3 else 0
def okOp (l : List Nd) (op nm : Bs) (kids : Nat) : Prop :=
  arOf op ≤ kids ∧ (op = ([99, 97, 108, 108] : Bs) → ∃ (j : Nat) (m : Nd), l[j]? = some m ∧ nodeOf l nm = (j : Int) ∧ m.outs.length = 1 ∧ m.ins.length = kids)
mutual
def exOk (l : List Nd) : Ex → Prop
  | .mk op nm _ _ ks => okOp l op nm ks.length ∧ exOkL l ks
def exOkL (l : List Nd) : List Ex → Prop
  | [] => True
  | e :: r => exOk l e ∧ exOkL l r
end
theorem exOkL_mem {l : List Nd} : ∀ {ks : List Ex} {e : Ex}, exOkL l ks → e ∈ ks → exOk l e
  | [], e, _, h => by cases h
  | x :: r, e, h, he => by
    rw [exOkL] at h
    rcases List.mem_cons.1 he with rfl | he
    · exact h.1
    · exact exOkL_mem h.2 he
section
variable (l : List Nd) (n : Nd) (nm : Bs) (k : List Nat)
theorem kind_int : kindOp l n ([105, 110, 116] : Bs) nm k = (true, 2) := rfl
theorem kind_bool : kindOp l n ([98, 111, 111, 108] : Bs) nm k = (true, 1) := rfl
theorem kind_var : kindOp l n ([118, 97, 114] : Bs) nm k = (true, (findV n nm).1.kind) := rfl
theorem kind_not : kindOp l n ([110, 111, 116] : Bs) nm k = (decide (k.getD 0 0 = 1), 1) := rfl
theorem kind_neg : kindOp l n ([110, 101, 103] : Bs) nm k = (decide (k.getD 0 0 = 2), 2) := rfl
theorem kind_pre : kindOp l n ([112, 114, 101] : Bs) nm k = (true, k.getD 0 0) := rfl
theorem kind_add : kindOp l n ([43] : Bs) nm k = (decide (k.getD 0 0 = 2) && decide (k.getD 1 0 = 2), 2) := rfl
theorem kind_sub : kindOp l n ([45] : Bs) nm k = (decide (k.getD 0 0 = 2) && decide (k.getD 1 0 = 2), 2) := rfl
theorem kind_mul : kindOp l n ([42] : Bs) nm k = (decide (k.getD 0 0 = 2) && decide (k.getD 1 0 = 2), 2) := rfl
theorem kind_div : kindOp l n ([47] : Bs) nm k = (decide (k.getD 0 0 = 2) && decide (k.getD 1 0 = 2), 2) := rfl
theorem kind_mod : kindOp l n ([109, 111, 100] : Bs) nm k = (decide (k.getD 0 0 = 2) && decide (k.getD 1 0 = 2), 2) := rfl
theorem kind_eq : kindOp l n ([61] : Bs) nm k = (decide (k.getD 0 0 = k.getD 1 0), 1) := rfl
theorem kind_ne : kindOp l n ([60, 62] : Bs) nm k = (decide (k.getD 0 0 = k.getD 1 0), 1) := rfl
theorem kind_lt : kindOp l n ([60] : Bs) nm k = (decide (k.getD 0 0 = 2) && decide (k.getD 1 0 = 2), 1) := rfl
theorem kind_le : kindOp l n ([60, 61] : Bs) nm k = (decide (k.getD 0 0 = 2) && decide (k.getD 1 0 = 2), 1) := rfl
theorem kind_gt : kindOp l n ([62] : Bs) nm k = (decide (k.getD 0 0 = 2) && decide (k.getD 1 0 = 2), 1) := rfl
theorem kind_ge : kindOp l n ([62, 61] : Bs) nm k = (decide (k.getD 0 0 = 2) && decide (k.getD 1 0 = 2), 1) := rfl
theorem kind_and : kindOp l n ([97, 110, 100] : Bs) nm k = (decide (k.getD 0 0 = 1) && decide (k.getD 1 0 = 1), 1) := rfl
theorem kind_or : kindOp l n ([111, 114] : Bs) nm k = (decide (k.getD 0 0 = 1) && decide (k.getD 1 0 = 1), 1) := rfl
theorem kind_xor : kindOp l n ([120, 111, 114] : Bs) nm k = (decide (k.getD 0 0 = 1) && decide (k.getD 1 0 = 1), 1) := rfl
theorem kind_arrow : kindOp l n ([45, 62] : Bs) nm k = (decide (k.getD 0 0 = k.getD 1 0), k.getD 0 0) := rfl
theorem kind_fby : kindOp l n ([102, 98, 121] : Bs) nm k = (decide (k.getD 0 0 = k.getD 1 0), k.getD 0 0) := rfl
theorem kind_if : kindOp l n ([105, 102] : Bs) nm k = (decide (k.getD 0 0 = 1) && decide (k.getD 1 0 = k.getD 2 0), k.getD 1 0) := rfl
theorem kind_when : kindOp l n ([119, 104, 101, 110] : Bs) nm k = (decide ((findV n nm).1.kind = 1), k.getD 0 0) := rfl
theorem kind_merge : kindOp l n ([109, 101, 114, 103, 101] : Bs) nm k = (decide ((findV n nm).1.kind = 1) && decide (k.getD 0 0 = k.getD 1 0), k.getD 0 0) := rfl
theorem kind_call {l : List Nd} {nm : Bs} {j : Nat} {m : Nd} (h : l[j]? = some m) (hj : nodeOf l nm = (j : Int)) : kindOp l n ([99, 97, 108, 108] : Bs) nm k = (decide ((m.ins.take k.length).map (fun v : Vr => v.kind) = k), (m.outs.getD 0 Vr0).kind) := by
  show (match l[(nodeOf l nm).toNat]? with | some m => (decide ((m.ins.take k.length).map (fun v : Vr => v.kind) = k), (m.outs.getD 0 Vr0).kind) | none => (true, 0)) = _
  rw [hj, Int.toNat_natCast, h]
end
def opsAll : List Bs := [([105, 110, 116] : Bs), ([98, 111, 111, 108] : Bs), ([118, 97, 114] : Bs), ([110, 111, 116] : Bs), ([110, 101, 103] : Bs), ([112, 114, 101] : Bs), ([43] : Bs), ([45] : Bs), ([42] : Bs), ([47] : Bs), ([109, 111, 100] : Bs), ([61] : Bs), ([60, 62] : Bs), ([60] : Bs), ([60, 61] : Bs), ([62] : Bs), ([62, 61] : Bs), ([97, 110, 100] : Bs), ([111, 114] : Bs), ([120, 111, 114] : Bs), ([45, 62] : Bs), ([102, 98, 121] : Bs), ([105, 102] : Bs), ([119, 104, 101, 110] : Bs), ([109, 101, 114, 103, 101] : Bs), ([99, 97, 108, 108] : Bs)]
theorem kind_other (l : List Nd) (n : Nd) (op nm : Bs) (k : List Nat) (h : op ∉ opsAll) : kindOp l n op nm k = (true, 0) := by
  simp only [opsAll, List.mem_cons, List.mem_nil_iff, not_or, or_false] at h
  simp only [kindOp, h, if_false, false_or]
theorem ar_not : arOf ([110, 111, 116] : Bs) = 1 := rfl
theorem ar_neg : arOf ([110, 101, 103] : Bs) = 1 := rfl
theorem ar_pre : arOf ([112, 114, 101] : Bs) = 1 := rfl
theorem ar_when : arOf ([119, 104, 101, 110] : Bs) = 1 := rfl
theorem ar_add : arOf ([43] : Bs) = 2 := rfl
theorem ar_sub : arOf ([45] : Bs) = 2 := rfl
theorem ar_mul : arOf ([42] : Bs) = 2 := rfl
theorem ar_div : arOf ([47] : Bs) = 2 := rfl
theorem ar_mod : arOf ([109, 111, 100] : Bs) = 2 := rfl
theorem ar_eq : arOf ([61] : Bs) = 2 := rfl
theorem ar_ne : arOf ([60, 62] : Bs) = 2 := rfl
theorem ar_lt : arOf ([60] : Bs) = 2 := rfl
theorem ar_le : arOf ([60, 61] : Bs) = 2 := rfl
theorem ar_gt : arOf ([62] : Bs) = 2 := rfl
theorem ar_ge : arOf ([62, 61] : Bs) = 2 := rfl
theorem ar_and : arOf ([97, 110, 100] : Bs) = 2 := rfl
theorem ar_or : arOf ([111, 114] : Bs) = 2 := rfl
theorem ar_xor : arOf ([120, 111, 114] : Bs) = 2 := rfl
theorem ar_arrow : arOf ([45, 62] : Bs) = 2 := rfl
theorem ar_fby : arOf ([102, 98, 121] : Bs) = 2 := rfl
theorem ar_merge : arOf ([109, 101, 114, 103, 101] : Bs) = 2 := rfl
theorem ar_if : arOf ([105, 102] : Bs) = 3 := rfl
end Go.Proofs.Ytmgkhfnhaeplgaa

namespace Go.Proofs.Ytmgkhfnhaeplgaa
open Go Go.Am Go.Proofs
set_option linter.unusedSimpArgs false
set_option linter.unusedVariables false
set_option maxRecDepth 20000
set_option maxHeartbeats 8000000

/-! What is late. -/
theorem has_callv {oN0 : Nat} (H : AHeap) (l : List Bs) (s : Bs) (hl : l.length ≤ 8000000) (hH : H oN0 = some (.cel (bsL l))) : ACalls Try.prog 32 [.vw oN0 1 0 l.length, .str s] H fun r H' => r = avB (hasB l s) ∧ H' = H := by
  have hml := bsL_len l
  refine acalls_of_aw2 Try.func32 rfl (by decide) ?_
  generalize hZ : hasB l s = Z
  (first | focus (refine yy12 ?_; refine yy34 ?_; refine yy47 ?_; rotate_left) | fail)
  refine aw_loop (fun mm R1 H1 => ∃ (i : Nat), i ≤ l.length ∧ hasB (l.drop i) s = Z ∧ H1 = H ∧ R1 = [(0, .vw oN0 1 0 l.length), (1, .str s), (5, avI i)] ∧ l.length - i = mm) ?_ ?_
  · exact ⟨_, _, _, Ent.sub _ (by (repeat' (first | exact RSub.nil _ | apply RSub.cons)); all_goals rfl), 0, Nat.zero_le _, hZ, rfl, rfl, rfl⟩
  clear hZ
  rintro mm R1 H1 ⟨i, hi, hZ, rfl, rfl, rfl⟩
  by_cases hlt : i < l.length
  · have hg : l[i]? = some l[i] := List.getElem?_eq_getElem hlt
    have hd : l.drop i = l[i] :: l.drop (i + 1) := List.drop_eq_getElem_cons hlt
    rw [hd] at hZ
    generalize l[i] = v at *
    simp only [hasB, List.any_cons] at hZ
    have hy : (bsL l)[0 + i * 1]? = some (.str v) := by rw [Nat.zero_add]; exact map_get hg
    clear hd hg
    by_cases hv : v = s
    · subst hv
      simp only [decide_true, Bool.true_or] at hZ
      subst hZ
      (first | focus (refine yy8 ?_; refine yy22 ?_; refine yy126 ?_; refine yy48 ?_; refine aw_condp rfl (fun hc => ?_) (fun hc => ?_); refine yy10 ?_; refine yy3 ?_; refine yy22 ?_; refine yy9 ?_; refine awl_s rfl (s_indexAddr_vw rfl rfl auto_len) ?_; refine awl_s rfl (s_load_cel rfl auto_heap auto_idx) ?_; refine yy100 ?_; refine aw_condp rfl (fun hc => ?_) (fun hc => ?_); refine yy87 ?_; refine yy84 ?_; rotate_left; exact absurd hc auto_no; exact absurd hc auto_no) | fail)
      all_goals exact ⟨.inl rfl, _, _, _, Ent.refl _ _, ret1 rfl rfl, rfl, rfl⟩
    · simp only [hv, decide_false, Bool.false_or] at hZ
      replace hv := Hdq.mk hv
      (first | focus (refine yy8 ?_; refine yy22 ?_; refine yy126 ?_; refine yy48 ?_; refine aw_condp rfl (fun hc => ?_) (fun hc => ?_); refine yy10 ?_; refine yy3 ?_; refine yy22 ?_; refine yy9 ?_; refine awl_s rfl (s_indexAddr_vw rfl rfl auto_len) ?_; refine awl_s rfl (s_load_cel rfl auto_heap auto_idx) ?_; refine yy100 ?_; refine aw_condp rfl (fun hc => ?_) (fun hc => ?_); exact absurd hc (Hdq.out (by assumption)); refine aw_skip ?_; refine yy28 ?_; rotate_left; exact absurd hc auto_no) | fail)
      all_goals exact ⟨l.length - (i + 1), _, _, by omega, Ent.sub _ (by (repeat' (first | exact RSub.nil _ | apply RSub.cons)); all_goals rfl), i + 1, by omega, hZ, rfl, rfl, rfl⟩
  · obtain rfl : i = l.length := by omega
    rw [List.drop_length] at hZ
    subst hZ
    (first | focus (refine yy8 ?_; refine yy22 ?_; refine yy126 ?_; refine yy48 ?_; refine aw_condp rfl (fun hc => ?_) (fun hc => ?_); exact absurd hc auto_no; refine yy24 ?_; refine yy12 ?_; refine aw_ret ?_; rotate_left) | fail)
    exact ⟨.inl rfl, _, _, _, Ent.refl _ _, ret1 rfl rfl, rfl, rfl⟩
theorem lateL_drop (p : Bs → Bool) {ks : List Ex} {i : Nat} {k : Ex} (h : ks[i]? = some k) : lateL p (ks.drop i) = (lateE p k || lateL p (ks.drop (i + 1))) := by
  have hlt := (List.getElem?_eq_some_iff.1 h).1
  rw [List.drop_eq_getElem_cons hlt, (List.getElem?_eq_some_iff.1 h).2, lateL]
theorem late_calls (l : List Bs) (hl : l.length ≤ 8000000) (m : Nat) : ∀ (e : Ex) (H : AHeap), exSz e ≤ m → exSz e ≤ 2000000 →
    ACalls Try.prog 35 [exA e, .sls l.length (bsL l)] H fun r H' => r = avB (lateE (hasB l) e) ∧ H' = H := by
  induction m with
  | zero => intro e H h; rw [exSz_eq] at h; omega
  | succ m ih =>
    intro e H h hb
    obtain ⟨op, nm, nn, at_, ks⟩ := e
    rw [exSz_eq] at h hb
    unfold lateE
    simp only [Ex.kids, Ex.op, Ex.name, Ex.n, Ex.at_] at *
    show ACalls Try.prog _ [.agg [.str op, .str nm, avI nn, avI at_, .sls ks.length (exL ks)], .sls l.length (bsL l)] H _
    have hml := exL_len ks
    have hbl := bsL_len l
    have hkl : ks.length ≤ exSzL ks := by
      clear hml h hb
      induction ks with
      | nil => exact Nat.zero_le _
      | cons x l ih => rw [exSzL, List.length_cons]; have := exSz_eq x; omega
    have ch := fun H => has_calls H l nm hl
    generalize hx : (if op = ([118, 97, 114] : Bs) then hasB l nm else if op = ([112, 114, 101] : Bs) then true else if op = ([45, 62] : Bs) ∨ op = ([102, 98, 121] : Bs) ∨ op = ([109, 101, 114, 103, 101] : Bs) ∨ op = ([99, 97, 108, 108] : Bs) ∨ op = ([105, 110, 116] : Bs) ∨ op = ([98, 111, 111, 108] : Bs) then false else lateL (hasB l) ks) = X
    refine acalls_of_aw2 Try.func35 rfl (by decide) ?_
    by_cases g1 : op = ([118, 97, 114] : Bs)
    · rw [if_pos g1] at hx
      subst g1
      rw [hx] at ch
      (first | focus (refine yy3 ?_; refine zb1 rfl rfl rfl (fun oN hoN => ?_); refine yy67 ?_; refine yy39 ?_; refine aw_condp rfl (fun hc => ?_) (fun hc => ?_); refine yy77 ?_; refine yy21 ?_; (((refine awl_callc rfl auto_wl (ch _) (fun r H' hpost => ?_); obtain ⟨rfl, rfl⟩ := hpost))); refine yy5 ?_; refine yy114 ?_; rotate_left; exact absurd hc auto_no) | fail)
      exact ⟨.inl rfl, _, _, _, Ent.gc (fun p y hp => by
            have hp3 : p ≠ oN := fun e => by rw [e, hoN] at hp; cases hp
            exact auto_heap), ret1 rfl rfl, rfl, rfl⟩
    rw [if_neg g1] at hx
    replace g1 := Hdq.mk g1
    by_cases g2 : op = ([112, 114, 101] : Bs)
    · rw [if_pos g2] at hx
      subst g2
      subst hx
      (first | focus (refine yy3 ?_; refine zb1 rfl rfl rfl (fun oN hoN => ?_); refine yy67 ?_; refine yy39 ?_; refine aw_condp rfl (fun hc => ?_) (fun hc => ?_); exact absurd hc (Hdq.out (by assumption)); refine yy1 ?_; refine aw_condp rfl (fun hc => ?_) (fun hc => ?_); refine yy87 ?_; rotate_left; exact absurd hc auto_no) | fail)
      exact ⟨.inl rfl, _, _, _, Ent.gc (fun p y hp => by
            have hp3 : p ≠ oN := fun e => by rw [e, hoN] at hp; cases hp
            exact auto_heap), ret1 rfl rfl, rfl, rfl⟩
    rw [if_neg g2] at hx
    replace g2 := Hdq.mk g2
    by_cases g3 : op = ([45, 62] : Bs) ∨ op = ([102, 98, 121] : Bs) ∨ op = ([109, 101, 114, 103, 101] : Bs) ∨ op = ([99, 97, 108, 108] : Bs) ∨ op = ([105, 110, 116] : Bs) ∨ op = ([98, 111, 111, 108] : Bs)
    · rw [if_pos g3] at hx
      subst hx
      rcases g3 with rfl | rfl | rfl | rfl | rfl | rfl
      all_goals (
        (first | focus (refine yy3 ?_; refine zb1 rfl rfl rfl (fun oN hoN => ?_); refine yy67 ?_; refine yy39 ?_; refine aw_condp rfl (fun hc => ?_) (fun hc => ?_); exact absurd hc (Hdq.out (by assumption)); refine yy1 ?_; refine aw_condp rfl (fun hc => ?_) (fun hc => ?_); exact absurd hc (Hdq.out (by assumption)); refine yy18 ?_; refine aw_condp rfl (fun hc => ?_) (fun hc => ?_); refine yy11 ?_; refine aw_condp rfl (fun hc => ?_) (fun hc => ?_); refine yy87 ?_; rotate_left; exact absurd hc auto_no; exact absurd hc auto_no) | focus (refine yy3 ?_; refine zb1 rfl rfl rfl (fun oN hoN => ?_); refine yy67 ?_; refine yy39 ?_; refine aw_condp rfl (fun hc => ?_) (fun hc => ?_); exact absurd hc (Hdq.out (by assumption)); refine yy1 ?_; refine aw_condp rfl (fun hc => ?_) (fun hc => ?_); exact absurd hc (Hdq.out (by assumption)); refine yy18 ?_; refine aw_condp rfl (fun hc => ?_) (fun hc => ?_); exact absurd hc auto_no; refine yy1 ?_; refine aw_condp rfl (fun hc => ?_) (fun hc => ?_); refine yy11 ?_; refine aw_condp rfl (fun hc => ?_) (fun hc => ?_); refine yy87 ?_; rotate_left; exact absurd hc auto_no; exact absurd hc auto_no) | focus (refine yy3 ?_; refine zb1 rfl rfl rfl (fun oN hoN => ?_); refine yy67 ?_; refine yy39 ?_; refine aw_condp rfl (fun hc => ?_) (fun hc => ?_); exact absurd hc (Hdq.out (by assumption)); refine yy1 ?_; refine aw_condp rfl (fun hc => ?_) (fun hc => ?_); exact absurd hc (Hdq.out (by assumption)); refine yy18 ?_; refine aw_condp rfl (fun hc => ?_) (fun hc => ?_); exact absurd hc auto_no; refine yy1 ?_; refine aw_condp rfl (fun hc => ?_) (fun hc => ?_); exact absurd hc auto_no; refine yy1 ?_; refine aw_condp rfl (fun hc => ?_) (fun hc => ?_); refine yy11 ?_; refine aw_condp rfl (fun hc => ?_) (fun hc => ?_); refine yy87 ?_; rotate_left; exact absurd hc auto_no; exact absurd hc auto_no) | focus (refine yy3 ?_; refine zb1 rfl rfl rfl (fun oN hoN => ?_); refine yy67 ?_; refine yy39 ?_; refine aw_condp rfl (fun hc => ?_) (fun hc => ?_); exact absurd hc (Hdq.out (by assumption)); refine yy1 ?_; refine aw_condp rfl (fun hc => ?_) (fun hc => ?_); exact absurd hc (Hdq.out (by assumption)); refine yy18 ?_; refine aw_condp rfl (fun hc => ?_) (fun hc => ?_); exact absurd hc auto_no; refine yy1 ?_; refine aw_condp rfl (fun hc => ?_) (fun hc => ?_); exact absurd hc auto_no; refine yy1 ?_; refine aw_condp rfl (fun hc => ?_) (fun hc => ?_); exact absurd hc auto_no; refine yy1 ?_; refine aw_condp rfl (fun hc => ?_) (fun hc => ?_); refine yy11 ?_; refine aw_condp rfl (fun hc => ?_) (fun hc => ?_); refine yy87 ?_; rotate_left; exact absurd hc auto_no; exact absurd hc auto_no) | focus (refine yy3 ?_; refine zb1 rfl rfl rfl (fun oN hoN => ?_); refine yy67 ?_; refine yy39 ?_; refine aw_condp rfl (fun hc => ?_) (fun hc => ?_); exact absurd hc (Hdq.out (by assumption)); refine yy1 ?_; refine aw_condp rfl (fun hc => ?_) (fun hc => ?_); exact absurd hc (Hdq.out (by assumption)); refine yy18 ?_; refine aw_condp rfl (fun hc => ?_) (fun hc => ?_); exact absurd hc auto_no; refine yy1 ?_; refine aw_condp rfl (fun hc => ?_) (fun hc => ?_); exact absurd hc auto_no; refine yy1 ?_; refine aw_condp rfl (fun hc => ?_) (fun hc => ?_); exact absurd hc auto_no; refine yy1 ?_; refine aw_condp rfl (fun hc => ?_) (fun hc => ?_); exact absurd hc auto_no; refine yy1 ?_; refine aw_condp rfl (fun hc => ?_) (fun hc => ?_); refine yy11 ?_; refine aw_condp rfl (fun hc => ?_) (fun hc => ?_); refine yy87 ?_; rotate_left; exact absurd hc auto_no; exact absurd hc auto_no) | focus (refine yy3 ?_; refine zb1 rfl rfl rfl (fun oN hoN => ?_); refine yy67 ?_; refine yy39 ?_; refine aw_condp rfl (fun hc => ?_) (fun hc => ?_); exact absurd hc (Hdq.out (by assumption)); refine yy1 ?_; refine aw_condp rfl (fun hc => ?_) (fun hc => ?_); exact absurd hc (Hdq.out (by assumption)); refine yy18 ?_; refine aw_condp rfl (fun hc => ?_) (fun hc => ?_); exact absurd hc auto_no; refine yy1 ?_; refine aw_condp rfl (fun hc => ?_) (fun hc => ?_); exact absurd hc auto_no; refine yy1 ?_; refine aw_condp rfl (fun hc => ?_) (fun hc => ?_); exact absurd hc auto_no; refine yy1 ?_; refine aw_condp rfl (fun hc => ?_) (fun hc => ?_); exact absurd hc auto_no; refine yy1 ?_; refine aw_condp rfl (fun hc => ?_) (fun hc => ?_); exact absurd hc auto_no; refine yy17 ?_; refine aw_condp rfl (fun hc => ?_) (fun hc => ?_); refine yy87 ?_; rotate_left; exact absurd hc auto_no) | fail)
        exact ⟨.inl rfl, _, _, _, Ent.gc (fun p y hp => by
            have hp3 : p ≠ oN := fun e => by rw [e, hoN] at hp; cases hp
            exact auto_heap), ret1 rfl rfl, rfl, rfl⟩)
    rw [if_neg g3] at hx
    simp only [not_or] at g3
    obtain ⟨d1, d2, d3, d4, d5, d6⟩ := g3
    replace d1 := Hdq.mk d1
    replace d2 := Hdq.mk d2
    replace d3 := Hdq.mk d3
    replace d4 := Hdq.mk d4
    replace d5 := Hdq.mk d5
    replace d6 := Hdq.mk d6
    replace hx := Hdn.mk hx
    clear ch
    (first | focus (refine yy3 ?_; refine zb1 rfl rfl rfl (fun oN hoN => ?_); refine yy67 ?_; refine yy39 ?_; refine aw_condp rfl (fun hc => ?_) (fun hc => ?_); exact absurd hc (Hdq.out (by assumption)); refine yy1 ?_; refine aw_condp rfl (fun hc => ?_) (fun hc => ?_); exact absurd hc (Hdq.out (by assumption)); refine yy18 ?_; refine aw_condp rfl (fun hc => ?_) (fun hc => ?_); exact absurd hc (Hdq.out (by assumption)); refine yy1 ?_; refine aw_condp rfl (fun hc => ?_) (fun hc => ?_); exact absurd hc (Hdq.out (by assumption)); refine yy1 ?_; refine aw_condp rfl (fun hc => ?_) (fun hc => ?_); exact absurd hc (Hdq.out (by assumption)); refine yy1 ?_; refine aw_condp rfl (fun hc => ?_) (fun hc => ?_); exact absurd hc (Hdq.out (by assumption)); refine yy1 ?_; refine aw_condp rfl (fun hc => ?_) (fun hc => ?_); exact absurd hc (Hdq.out (by assumption)); refine yy17 ?_; refine aw_condp rfl (fun hc => ?_) (fun hc => ?_); exact absurd hc (Hdq.out (by assumption)); refine aw_skip ?_; refine yy64 ?_; refine yy34 ?_; refine yy47 ?_; rotate_left) | fail)
    have hE : ∀ p y, H p = some y → p ≠ oN := fun p y hp e => by rw [e, hoN] at hp; cases hp
    refine aw_loop (fun mm R1 H1 => ∃ (i : Nat), i ≤ ks.length ∧ Hdn (lateL (hasB l) (ks.drop i) = X) ∧ H1 = H.set oN (.cel [.str op, .str nm, avI nn, avI at_, .sls ks.length (exL ks)]) ∧ R1 = [(1, .sls l.length (bsL l)), (2, .ptr oN 0), (5, avI i)] ∧ ks.length - i = mm) ?_ ?_
    · exact ⟨_, _, _, Ent.sub _ (by (repeat' (first | exact RSub.nil _ | apply RSub.cons)); all_goals rfl), 0, Nat.zero_le _, hx, rfl, rfl, rfl⟩
    clear hx
    rintro mm R1 H1 ⟨i, hi, hx, rfl, rfl, rfl⟩
    by_cases hlt : i < ks.length
    · have hg : ks[i]? = some ks[i] := List.getElem?_eq_getElem hlt
      have hseg := exL_get hg
      have hmem := exSz_mem (List.getElem_mem hlt)
      rw [lateL_drop (hasB l) hg] at hx
      generalize ks[i] = k at *
      have cb := fun H => ih k H (by omega) (by omega)
      generalize lateE (hasB l) k = b at *
      clear ih hg hmem d1 d2 d3 d4 d5 d6 g1 g2
      skip
      cases b
      · simp only [Bool.false_or] at hx
        (first | focus (refine yy19 ?_; refine aw_condp rfl (fun hc => ?_) (fun hc => ?_); refine yy10 ?_; refine yy13 ?_; refine yy32 ?_; refine yy60 ?_; refine yy30 ?_; (((refine awl_callc rfl auto_wl (cb _) (fun r H' hpost => ?_); obtain ⟨rfl, rfl⟩ := hpost))); refine yy76 ?_; refine yy28 ?_; rotate_left; exact absurd hc auto_no) | fail)
        exact ⟨ks.length - (i + 1), _, _, by omega, Ent.sub _ (by (repeat' (first | exact RSub.nil _ | apply RSub.cons)); all_goals rfl), i + 1, by omega, hx, rfl, rfl, rfl⟩
      · simp only [Bool.true_or] at hx
        obtain rfl : X = true := hx.out.symm
        (first | focus (refine yy19 ?_; refine aw_condp rfl (fun hc => ?_) (fun hc => ?_); refine yy10 ?_; refine yy13 ?_; refine yy32 ?_; refine yy60 ?_; refine yy30 ?_; (((refine awl_callc rfl auto_wl (cb _) (fun r H' hpost => ?_); obtain ⟨rfl, rfl⟩ := hpost))); refine yy83 ?_; refine yy87 ?_; refine yy84 ?_; rotate_left; exact absurd hc auto_no) | fail)
        exact ⟨.inl rfl, _, _, _, Ent.gc (fun p y hp => by
            have hp3 : p ≠ oN := fun e => by rw [e, hoN] at hp; cases hp
            exact auto_heap), ret1 rfl rfl, rfl, rfl⟩
    · obtain rfl : i = ks.length := by omega
      have hx2 := hx.out
      rw [List.drop_length, lateL] at hx2
      subst hx2
      clear hx
      (first | focus (refine yy19 ?_; refine aw_condp rfl (fun hc => ?_) (fun hc => ?_); exact absurd hc auto_no; refine yy24 ?_; refine yy12 ?_; refine aw_ret ?_; rotate_left) | fail)
      exact ⟨.inl rfl, _, _, _, Ent.gc (fun p y hp => by
            have hp3 : p ≠ oN := fun e => by rw [e, hoN] at hp; cases hp
            exact auto_heap), ret1 rfl rfl, rfl, rfl⟩
theorem late_callv {oN0 : Nat} (l : List Bs) (hl : l.length ≤ 8000000) (m : Nat) : ∀ (e : Ex) (H : AHeap), exSz e ≤ m → exSz e ≤ 2000000 → (H oN0 = some (.cel (bsL l))) →
    ACalls Try.prog 35 [exA e, .vw oN0 1 0 l.length] H fun r H' => r = avB (lateE (hasB l) e) ∧ H' = H := by
  induction m with
  | zero => intro e H h; rw [exSz_eq] at h; omega
  | succ m ih =>
    intro e H h hb hH
    obtain ⟨op, nm, nn, at_, ks⟩ := e
    rw [exSz_eq] at h hb
    unfold lateE
    simp only [Ex.kids, Ex.op, Ex.name, Ex.n, Ex.at_] at *
    show ACalls Try.prog _ [.agg [.str op, .str nm, avI nn, avI at_, .sls ks.length (exL ks)], .vw oN0 1 0 l.length] H _
    have hml := exL_len ks
    have hbl := bsL_len l
    have hkl : ks.length ≤ exSzL ks := by
      clear hml h hb
      induction ks with
      | nil => exact Nat.zero_le _
      | cons x l ih => rw [exSzL, List.length_cons]; have := exSz_eq x; omega
    have ch := fun H h => has_callv (oN0 := oN0) H l nm hl h
    generalize hx : (if op = ([118, 97, 114] : Bs) then hasB l nm else if op = ([112, 114, 101] : Bs) then true else if op = ([45, 62] : Bs) ∨ op = ([102, 98, 121] : Bs) ∨ op = ([109, 101, 114, 103, 101] : Bs) ∨ op = ([99, 97, 108, 108] : Bs) ∨ op = ([105, 110, 116] : Bs) ∨ op = ([98, 111, 111, 108] : Bs) then false else lateL (hasB l) ks) = X
    refine acalls_of_aw2 Try.func35 rfl (by decide) ?_
    by_cases g1 : op = ([118, 97, 114] : Bs)
    · rw [if_pos g1] at hx
      subst g1
      rw [hx] at ch
      (first | focus (refine yy3 ?_; refine zb1 rfl rfl rfl (fun oN hoN => ?_); refine yy67 ?_; refine yy39 ?_; refine aw_condp rfl (fun hc => ?_) (fun hc => ?_); refine yy3 ?_; refine yy22 ?_; refine yy21 ?_; (((refine awl_callc rfl auto_wl (ch _ auto_heap) (fun r H' hpost => ?_); obtain ⟨rfl, rfl⟩ := hpost))); refine yy5 ?_; refine yy114 ?_; rotate_left; exact absurd hc auto_no) | fail)
      exact ⟨.inl rfl, _, _, _, Ent.gc (fun p y hp => by
            have hp3 : p ≠ oN := fun e => by rw [e, hoN] at hp; cases hp
            exact auto_heap), ret1 rfl rfl, rfl, rfl⟩
    rw [if_neg g1] at hx
    replace g1 := Hdq.mk g1
    by_cases g2 : op = ([112, 114, 101] : Bs)
    · rw [if_pos g2] at hx
      subst g2
      subst hx
      (first | focus (refine yy3 ?_; refine zb1 rfl rfl rfl (fun oN hoN => ?_); refine yy67 ?_; refine yy39 ?_; refine aw_condp rfl (fun hc => ?_) (fun hc => ?_); exact absurd hc (Hdq.out (by assumption)); refine yy1 ?_; refine aw_condp rfl (fun hc => ?_) (fun hc => ?_); refine yy87 ?_; rotate_left; exact absurd hc auto_no) | fail)
      exact ⟨.inl rfl, _, _, _, Ent.gc (fun p y hp => by
            have hp3 : p ≠ oN := fun e => by rw [e, hoN] at hp; cases hp
            exact auto_heap), ret1 rfl rfl, rfl, rfl⟩
    rw [if_neg g2] at hx
    replace g2 := Hdq.mk g2
    by_cases g3 : op = ([45, 62] : Bs) ∨ op = ([102, 98, 121] : Bs) ∨ op = ([109, 101, 114, 103, 101] : Bs) ∨ op = ([99, 97, 108, 108] : Bs) ∨ op = ([105, 110, 116] : Bs) ∨ op = ([98, 111, 111, 108] : Bs)
    · rw [if_pos g3] at hx
      subst hx
      rcases g3 with rfl | rfl | rfl | rfl | rfl | rfl
      all_goals (
        (first | focus (refine yy3 ?_; refine zb1 rfl rfl rfl (fun oN hoN => ?_); refine yy67 ?_; refine yy39 ?_; refine aw_condp rfl (fun hc => ?_) (fun hc => ?_); exact absurd hc (Hdq.out (by assumption)); refine yy1 ?_; refine aw_condp rfl (fun hc => ?_) (fun hc => ?_); exact absurd hc (Hdq.out (by assumption)); refine yy18 ?_; refine aw_condp rfl (fun hc => ?_) (fun hc => ?_); refine yy11 ?_; refine aw_condp rfl (fun hc => ?_) (fun hc => ?_); refine yy87 ?_; rotate_left; exact absurd hc auto_no; exact absurd hc auto_no) | focus (refine yy3 ?_; refine zb1 rfl rfl rfl (fun oN hoN => ?_); refine yy67 ?_; refine yy39 ?_; refine aw_condp rfl (fun hc => ?_) (fun hc => ?_); exact absurd hc (Hdq.out (by assumption)); refine yy1 ?_; refine aw_condp rfl (fun hc => ?_) (fun hc => ?_); exact absurd hc (Hdq.out (by assumption)); refine yy18 ?_; refine aw_condp rfl (fun hc => ?_) (fun hc => ?_); exact absurd hc auto_no; refine yy1 ?_; refine aw_condp rfl (fun hc => ?_) (fun hc => ?_); refine yy11 ?_; refine aw_condp rfl (fun hc => ?_) (fun hc => ?_); refine yy87 ?_; rotate_left; exact absurd hc auto_no; exact absurd hc auto_no) | focus (refine yy3 ?_; refine zb1 rfl rfl rfl (fun oN hoN => ?_); refine yy67 ?_; refine yy39 ?_; refine aw_condp rfl (fun hc => ?_) (fun hc => ?_); exact absurd hc (Hdq.out (by assumption)); refine yy1 ?_; refine aw_condp rfl (fun hc => ?_) (fun hc => ?_); exact absurd hc (Hdq.out (by assumption)); refine yy18 ?_; refine aw_condp rfl (fun hc => ?_) (fun hc => ?_); exact absurd hc auto_no; refine yy1 ?_; refine aw_condp rfl (fun hc => ?_) (fun hc => ?_); exact absurd hc auto_no; refine yy1 ?_; refine aw_condp rfl (fun hc => ?_) (fun hc => ?_); refine yy11 ?_; refine aw_condp rfl (fun hc => ?_) (fun hc => ?_); refine yy87 ?_; rotate_left; exact absurd hc auto_no; exact absurd hc auto_no) | focus (refine yy3 ?_; refine zb1 rfl rfl rfl (fun oN hoN => ?_); refine yy67 ?_; refine yy39 ?_; refine aw_condp rfl (fun hc => ?_) (fun hc => ?_); exact absurd hc (Hdq.out (by assumption)); refine yy1 ?_; refine aw_condp rfl (fun hc => ?_) (fun hc => ?_); exact absurd hc (Hdq.out (by assumption)); refine yy18 ?_; refine aw_condp rfl (fun hc => ?_) (fun hc => ?_); exact absurd hc auto_no; refine yy1 ?_; refine aw_condp rfl (fun hc => ?_) (fun hc => ?_); exact absurd hc auto_no; refine yy1 ?_; refine aw_condp rfl (fun hc => ?_) (fun hc => ?_); exact absurd hc auto_no; refine yy1 ?_; refine aw_condp rfl (fun hc => ?_) (fun hc => ?_); refine yy11 ?_; refine aw_condp rfl (fun hc => ?_) (fun hc => ?_); refine yy87 ?_; rotate_left; exact absurd hc auto_no; exact absurd hc auto_no) | focus (refine yy3 ?_; refine zb1 rfl rfl rfl (fun oN hoN => ?_); refine yy67 ?_; refine yy39 ?_; refine aw_condp rfl (fun hc => ?_) (fun hc => ?_); exact absurd hc (Hdq.out (by assumption)); refine yy1 ?_; refine aw_condp rfl (fun hc => ?_) (fun hc => ?_); exact absurd hc (Hdq.out (by assumption)); refine yy18 ?_; refine aw_condp rfl (fun hc => ?_) (fun hc => ?_); exact absurd hc auto_no; refine yy1 ?_; refine aw_condp rfl (fun hc => ?_) (fun hc => ?_); exact absurd hc auto_no; refine yy1 ?_; refine aw_condp rfl (fun hc => ?_) (fun hc => ?_); exact absurd hc auto_no; refine yy1 ?_; refine aw_condp rfl (fun hc => ?_) (fun hc => ?_); exact absurd hc auto_no; refine yy1 ?_; refine aw_condp rfl (fun hc => ?_) (fun hc => ?_); refine yy11 ?_; refine aw_condp rfl (fun hc => ?_) (fun hc => ?_); refine yy87 ?_; rotate_left; exact absurd hc auto_no; exact absurd hc auto_no) | focus (refine yy3 ?_; refine zb1 rfl rfl rfl (fun oN hoN => ?_); refine yy67 ?_; refine yy39 ?_; refine aw_condp rfl (fun hc => ?_) (fun hc => ?_); exact absurd hc (Hdq.out (by assumption)); refine yy1 ?_; refine aw_condp rfl (fun hc => ?_) (fun hc => ?_); exact absurd hc (Hdq.out (by assumption)); refine yy18 ?_; refine aw_condp rfl (fun hc => ?_) (fun hc => ?_); exact absurd hc auto_no; refine yy1 ?_; refine aw_condp rfl (fun hc => ?_) (fun hc => ?_); exact absurd hc auto_no; refine yy1 ?_; refine aw_condp rfl (fun hc => ?_) (fun hc => ?_); exact absurd hc auto_no; refine yy1 ?_; refine aw_condp rfl (fun hc => ?_) (fun hc => ?_); exact absurd hc auto_no; refine yy1 ?_; refine aw_condp rfl (fun hc => ?_) (fun hc => ?_); exact absurd hc auto_no; refine yy17 ?_; refine aw_condp rfl (fun hc => ?_) (fun hc => ?_); refine yy87 ?_; rotate_left; exact absurd hc auto_no) | fail)
        exact ⟨.inl rfl, _, _, _, Ent.gc (fun p y hp => by
            have hp3 : p ≠ oN := fun e => by rw [e, hoN] at hp; cases hp
            exact auto_heap), ret1 rfl rfl, rfl, rfl⟩)
    rw [if_neg g3] at hx
    simp only [not_or] at g3
    obtain ⟨d1, d2, d3, d4, d5, d6⟩ := g3
    replace d1 := Hdq.mk d1
    replace d2 := Hdq.mk d2
    replace d3 := Hdq.mk d3
    replace d4 := Hdq.mk d4
    replace d5 := Hdq.mk d5
    replace d6 := Hdq.mk d6
    replace hx := Hdn.mk hx
    clear ch
    (first | focus (refine yy3 ?_; refine zb1 rfl rfl rfl (fun oN hoN => ?_); refine yy67 ?_; refine yy39 ?_; refine aw_condp rfl (fun hc => ?_) (fun hc => ?_); exact absurd hc (Hdq.out (by assumption)); refine yy1 ?_; refine aw_condp rfl (fun hc => ?_) (fun hc => ?_); exact absurd hc (Hdq.out (by assumption)); refine yy18 ?_; refine aw_condp rfl (fun hc => ?_) (fun hc => ?_); exact absurd hc (Hdq.out (by assumption)); refine yy1 ?_; refine aw_condp rfl (fun hc => ?_) (fun hc => ?_); exact absurd hc (Hdq.out (by assumption)); refine yy1 ?_; refine aw_condp rfl (fun hc => ?_) (fun hc => ?_); exact absurd hc (Hdq.out (by assumption)); refine yy1 ?_; refine aw_condp rfl (fun hc => ?_) (fun hc => ?_); exact absurd hc (Hdq.out (by assumption)); refine yy1 ?_; refine aw_condp rfl (fun hc => ?_) (fun hc => ?_); exact absurd hc (Hdq.out (by assumption)); refine yy17 ?_; refine aw_condp rfl (fun hc => ?_) (fun hc => ?_); exact absurd hc (Hdq.out (by assumption)); refine aw_skip ?_; refine yy64 ?_; refine yy34 ?_; refine yy47 ?_; rotate_left) | fail)
    have hE : ∀ p y, H p = some y → p ≠ oN := fun p y hp e => by rw [e, hoN] at hp; cases hp
    refine aw_loop (fun mm R1 H1 => ∃ (i : Nat), i ≤ ks.length ∧ Hdn (lateL (hasB l) (ks.drop i) = X) ∧ H1 = H.set oN (.cel [.str op, .str nm, avI nn, avI at_, .sls ks.length (exL ks)]) ∧ R1 = [(1, .vw oN0 1 0 l.length), (2, .ptr oN 0), (5, avI i)] ∧ ks.length - i = mm) ?_ ?_
    · exact ⟨_, _, _, Ent.sub _ (by (repeat' (first | exact RSub.nil _ | apply RSub.cons)); all_goals rfl), 0, Nat.zero_le _, hx, rfl, rfl, rfl⟩
    clear hx
    rintro mm R1 H1 ⟨i, hi, hx, rfl, rfl, rfl⟩
    by_cases hlt : i < ks.length
    · have hg : ks[i]? = some ks[i] := List.getElem?_eq_getElem hlt
      have hseg := exL_get hg
      have hmem := exSz_mem (List.getElem_mem hlt)
      rw [lateL_drop (hasB l) hg] at hx
      generalize ks[i] = k at *
      have cb := fun H h => ih k H (by omega) (by omega) h
      generalize lateE (hasB l) k = b at *
      clear ih hg hmem d1 d2 d3 d4 d5 d6 g1 g2
      have hN2 := hE oN0 _ hH
      cases b
      · simp only [Bool.false_or] at hx
        (first | focus (refine yy19 ?_; refine aw_condp rfl (fun hc => ?_) (fun hc => ?_); refine yy10 ?_; refine yy13 ?_; refine yy32 ?_; refine yy60 ?_; refine yy22 ?_; (((refine awl_callc rfl auto_wl (cb _ auto_heap) (fun r H' hpost => ?_); obtain ⟨rfl, rfl⟩ := hpost))); refine yy76 ?_; refine yy28 ?_; rotate_left; exact absurd hc auto_no) | fail)
        exact ⟨ks.length - (i + 1), _, _, by omega, Ent.sub _ (by (repeat' (first | exact RSub.nil _ | apply RSub.cons)); all_goals rfl), i + 1, by omega, hx, rfl, rfl, rfl⟩
      · simp only [Bool.true_or] at hx
        obtain rfl : X = true := hx.out.symm
        (first | focus (refine yy19 ?_; refine aw_condp rfl (fun hc => ?_) (fun hc => ?_); refine yy10 ?_; refine yy13 ?_; refine yy32 ?_; refine yy60 ?_; refine yy22 ?_; (((refine awl_callc rfl auto_wl (cb _ auto_heap) (fun r H' hpost => ?_); obtain ⟨rfl, rfl⟩ := hpost))); refine yy83 ?_; refine yy87 ?_; refine yy84 ?_; rotate_left; exact absurd hc auto_no) | fail)
        exact ⟨.inl rfl, _, _, _, Ent.gc (fun p y hp => by
            have hp3 : p ≠ oN := fun e => by rw [e, hoN] at hp; cases hp
            exact auto_heap), ret1 rfl rfl, rfl, rfl⟩
    · obtain rfl : i = ks.length := by omega
      have hx2 := hx.out
      rw [List.drop_length, lateL] at hx2
      subst hx2
      clear hx
      (first | focus (refine yy19 ?_; refine aw_condp rfl (fun hc => ?_) (fun hc => ?_); exact absurd hc auto_no; refine yy24 ?_; refine yy12 ?_; refine aw_ret ?_; rotate_left) | fail)
      exact ⟨.inl rfl, _, _, _, Ent.gc (fun p y hp => by
            have hp3 : p ≠ oN := fun e => by rw [e, hoN] at hp; cases hp
            exact auto_heap), ret1 rfl rfl, rfl, rfl⟩
end Go.Proofs.Ytmgkhfnhaeplgaa

namespace Go.Proofs.Ytmgkhfnhaeplgaa
open Go Go.Am Go.Proofs
set_option linter.unusedSimpArgs false
set_option linter.unusedVariables false
set_option maxRecDepth 20000
set_option maxHeartbeats 8000000

/-! The late names. -/
theorem nodup_len : ∀ {l m : List Bs}, l.Nodup → (∀ s ∈ l, s ∈ m) → l.length ≤ m.length
  | [], m, _, _ => Nat.zero_le _
  | x :: r, m, h, hs => by
    rw [List.nodup_cons] at h
    have hx := hs x List.mem_cons_self
    have := nodup_len (m := m.erase x) h.2 (fun s hm => (List.mem_erase_of_ne (fun e => h.1 (by rw [← e]; exact hm))).2 (hs s (List.mem_cons_of_mem _ hm)))
    rw [List.length_erase_of_mem hx] at this
    have hpos : 0 < m.length := List.length_pos_of_mem hx
    rw [List.length_cons]; omega
/-- Names of these equations, each once. -/
structure NmOk (eqs : List Eqn) (l : List Bs) : Prop where
  nd : l.Nodup
  sub : ∀ s ∈ l, s ∈ eqs.map (·.name)
theorem NmOk.len {eqs : List Eqn} {l : List Bs} (h : NmOk eqs l) : l.length ≤ eqs.length := by
  have := nodup_len h.nd h.sub
  rwa [List.length_map] at this
theorem hasB_iff {l : List Bs} {s : Bs} : hasB l s = true ↔ s ∈ l := by unfold hasB; simp
theorem NmOk.nil (eqs : List Eqn) : NmOk eqs [] := ⟨List.nodup_nil, fun s h => by cases h⟩
theorem NmOk.q {eqs : List Eqn} {l : List Bs} (h : NmOk eqs l) {q : Eqn} (hq : q ∈ eqs) : NmOk eqs (lateQ l q) := by
  unfold lateQ
  split
  · rename_i hc
    simp only [Bool.and_eq_true, Bool.not_eq_true'] at hc
    refine ⟨?_, fun s hs => ?_⟩
    · rw [List.nodup_append]
      refine ⟨h.nd, by simp, fun a ha b hb e => ?_⟩
      rw [List.mem_singleton] at hb
      subst hb
      have := hasB_iff.2 (e ▸ ha)
      rw [this] at hc
      exact absurd hc.1 (by decide)
    · rcases List.mem_append.1 hs with hs | hs
      · exact h.sub s hs
      · rw [List.mem_singleton] at hs; subst hs; exact List.mem_map_of_mem hq
  · exact h
theorem Late_calls (H : AHeap) (n : Nd) (hn : NdOk n) : ACalls Try.prog 17 [.agg n.cells] H fun r H' => r = .sls (lateN n).length (bsL (lateN n)) ∧ H' = H := by
  have cv := fun H => Vars_calls H n hn.i hn.o hn.l
  have hlv := varsN_len hn
  unfold lateN lateNames
  have heq := eq_len n.eqs
  have hbq := hn.q
  have hmv := vr_len (varsN n)
  generalize varsN n = v at *
  generalize hZ : lateRounds n.eqs (n.eqs.length + 1) [] = Z
  replace hZ := Hdn.mk hZ
  have hn0 : n.cells = [.str n.name, .sls n.ins.length (vrL n.ins), .sls n.outs.length (vrL n.outs), .sls n.locs.length (vrL n.locs), .sls n.eqs.length (eqL n.eqs), avI n.at_] := rfl
  rw [hn0] at *
  refine acalls_of_aw1 Try.func17 rfl (by decide) ?_
  (first | focus (refine yy3 ?_; refine zb1 rfl rfl rfl (fun oN hoN => ?_); refine yy5 ?_; refine yy12 ?_; refine yy34 ?_; refine yy47 ?_; rotate_left) | fail)
  obtain ⟨oX, hoXe⟩ : ∃ x, x = oN := ⟨_, rfl⟩
  subst hoXe
  have hX0 : H oX = none := hoN
  refine aw_own_nil 3 1 (.cel []) rfl rfl (fun oS hoS => ?_)
  have hS0 : H oS = none := AHeap.none_of_set hoS
  have hSX : oS ≠ oX := AHeap.ne_of_fresh hoS
  refine aw_loop (fun mm R1 H1 => ∃ (r oS : Nat) (s : List Bs), r ≤ n.eqs.length + 1 ∧ NmOk n.eqs s ∧ Hdn (lateRounds n.eqs (n.eqs.length + 1 - r) s = Z) ∧ H oS = none ∧ oS ≠ oX ∧ H1 oX = some (.cel [.str n.name, .sls n.ins.length (vrL n.ins), .sls n.outs.length (vrL n.outs), .sls n.locs.length (vrL n.locs), .sls n.eqs.length (eqL n.eqs), avI n.at_]) ∧ H1 oS = some (.cel (bsL s)) ∧ (∀ p y, H p = some y → H1 p = some y) ∧ R1 = [(1, .ptr oX 0), (3, .vw oS 1 0 s.length), (4, avI r)] ∧ n.eqs.length + 1 - r = mm) ?_ ?_
  · exact ⟨_, _, _, Ent.sub _ (by (repeat' (first | exact RSub.nil _ | apply RSub.cons)); all_goals rfl), 0, oS, [], Nat.zero_le _, NmOk.nil _, hZ, hS0, hSX, by exact auto_heap, by exact AHeap.set_self _ _ _, fun p y hp => by
      have hp3 : p ≠ oX := fun e => by rw [e, hX0] at hp; cases hp
      have hp4 : p ≠ oS := fun e => by rw [e, hS0] at hp; cases hp
      exact auto_heap, rfl, rfl⟩
  clear hZ hoN hoS hS0 hSX oS
  rintro mm R1 H1 ⟨r, oS, s, hr, hs, hZ, hS0, hSX, q1, q2, hfr, rfl, rfl⟩
  by_cases hrt : r < n.eqs.length + 1
  · have hZ1 : Hdn (lateRounds n.eqs (n.eqs.length + 1 - (r + 1)) (lateRound n.eqs s) = Z) := ⟨by rw [← hZ.out, show n.eqs.length + 1 - r = (n.eqs.length + 1 - (r + 1)) + 1 by omega, lateRounds]⟩
    generalize hY : lateRound n.eqs s = Y at *
    replace hY := Hdn.mk hY
    clear hZ
    have hsl := hs.len
    (first | focus (refine aw_seq ?_; refine aw_seq ?_; refine aw_region ?_; refine awl_s rfl (s_move (v := .raw _) rfl) ?_; refine awl_s rfl (s_fieldAddr_ptr rfl) ?_; refine awl_s rfl (s_load_cel rfl auto_heap rfl) ?_; refine yy113 ?_; refine yy125 ?_; refine yy4 ?_; refine aw_condp rfl (fun hc => ?_) (fun hc => ?_); refine yy10 ?_; refine yy12 ?_; refine aw_block ?_; rotate_left; exact absurd hc auto_no) | fail)
    refine aw_loop (fun mm R2 H2 => ∃ (i oS : Nat) (s : List Bs), i ≤ n.eqs.length ∧ NmOk n.eqs s ∧ Hdn (lateRound (n.eqs.drop i) s = Y) ∧ H oS = none ∧ oS ≠ oX ∧ H2 oX = some (.cel [.str n.name, .sls n.ins.length (vrL n.ins), .sls n.outs.length (vrL n.outs), .sls n.locs.length (vrL n.locs), .sls n.eqs.length (eqL n.eqs), avI n.at_]) ∧ H2 oS = some (.cel (bsL s)) ∧ (∀ p y, H p = some y → H2 p = some y) ∧ R2 = [(1, .ptr oX 0), (3, .vw oS 1 0 s.length), (4, avI r), (5, avI i)] ∧ n.eqs.length - i = mm) ?_ ?_
    · exact ⟨_, _, _, Ent.sub _ (by (repeat' (first | exact RSub.nil _ | apply RSub.cons)); all_goals rfl), 0, oS, s, Nat.zero_le _, hs, hY, hS0, hSX, q1, q2, hfr, rfl, rfl⟩
    clear hY hS0 hSX q1 q2 hfr hs hsl s oS H1
    rintro mm R2 H2 ⟨i, oS, s, hi, hs, hY, hS0, hSX, q1, q2, hfr, rfl, rfl⟩
    have hsl := hs.len
    by_cases hlt : i < n.eqs.length
    · have hg : n.eqs[i]? = some n.eqs[i] := List.getElem?_eq_getElem hlt
      have hd : n.eqs.drop i = n.eqs[i] :: n.eqs.drop (i + 1) := List.drop_eq_getElem_cons hlt
      have hbx := hn.e _ (List.getElem_mem hlt)
      have hs2 := hs.q (List.getElem_mem hlt)
      rw [hd, lateRound] at hY
      generalize n.eqs[i] = x at *
      have hsq : List.take 7 (List.drop (i * 7) (eqL n.eqs)) = [.str x.name, .str x.e.op, .str x.e.name, avI x.e.n, avI x.e.at_, .sls x.e.kids.length (exL x.e.kids), avI x.at_] := eq_get hg
      have hsE : List.take 5 (List.drop (i * 7 + 1) (eqL n.eqs)) = x.e.cells := seg_sub hsq 1 5 (by decide)
      have y0 := eq_at hg (j := 0) (by decide) rfl
      clear hg hd hsq
      have ch := fun H h => has_callv (oN0 := oS) H s x.name (by omega) h
      have cl := fun H h => late_callv (oN0 := oS) s (by omega) _ x.e H (Nat.le_refl _) hbx h
      have hbl := bsL_len s
      unfold lateQ at hY hs2
      generalize hasB s x.name = b1 at *
      generalize lateE (hasB s) x.e = b2 at *
      cases b1
      · cases b2
        · simp only [Bool.not_false, Bool.true_and, Bool.false_eq_true, if_false] at hY
          (first | focus (refine yy19 ?_; refine aw_condp rfl (fun hc => ?_) (fun hc => ?_); refine yy10 ?_; refine yy3 ?_; refine yy22 ?_; refine yy21 ?_; refine yy32 ?_; refine yy95 ?_; (((refine awl_callc rfl auto_wl (ch _ auto_heap) (fun r H' hpost => ?_); obtain ⟨rfl, rfl⟩ := hpost))); refine yy54 ?_; refine yy23 ?_; refine yy86 ?_; refine yy23 ?_; refine yy117 ?_; refine awl_s rfl (s_fieldAddr_pce rfl) ?_; refine yy6 ?_; refine yy60 ?_; refine yy6 ?_; refine yy22 ?_; refine yy6 ?_; (((refine awl_callc rfl auto_wl (cl _ auto_heap) (fun r H' hpost => ?_); obtain ⟨rfl, rfl⟩ := hpost))); refine yy46 ?_; refine yy76 ?_; refine yy28 ?_; rotate_left; exact absurd hc auto_no) | fail)
          exact ⟨n.eqs.length - (i + 1), _, _, by omega, Ent.sub _ (by (repeat' (first | exact RSub.nil _ | apply RSub.cons)); all_goals rfl), i + 1, oS, s, by omega, hs, hY, hS0, hSX, q1, q2, hfr, rfl, rfl⟩
        · simp only [Bool.not_false, Bool.true_and, if_true] at hY hs2
          (first | focus (refine yy19 ?_; refine aw_condp rfl (fun hc => ?_) (fun hc => ?_); refine yy10 ?_; refine yy3 ?_; refine yy22 ?_; refine yy21 ?_; refine yy32 ?_; refine yy95 ?_; (((refine awl_callc rfl auto_wl (ch _ auto_heap) (fun r H' hpost => ?_); obtain ⟨rfl, rfl⟩ := hpost))); refine yy54 ?_; refine yy23 ?_; refine yy86 ?_; refine yy23 ?_; refine yy117 ?_; refine awl_s rfl (s_fieldAddr_pce rfl) ?_; refine yy6 ?_; refine yy60 ?_; refine yy6 ?_; refine yy22 ?_; refine yy6 ?_; (((refine awl_callc rfl auto_wl (cl _ auto_heap) (fun r H' hpost => ?_); obtain ⟨rfl, rfl⟩ := hpost))); refine yy101 ?_; refine yy25 ?_; refine yy22 ?_; refine yy21 ?_; refine yy32 ?_; refine yy95 ?_; refine yy38 ?_; refine za4 rfl rfl rfl auto_heap auto_al auto_src auto_len auto_len (fun oN hoN => ?_); refine yy40 ?_; refine yy45 ?_; refine yy91 ?_; rotate_left; exact absurd hc auto_no) | fail)
          have n0 : H' oN = none := hoN
          have n1 : oN ≠ oX := fun e => by rw [e, q1] at n0; cases n0
          have n4 : H oN = none := by
            cases e : H oN with
            | none => rfl
            | some y => rw [hfr _ _ e] at n0; cases n0
          have e1 : bsL (s ++ [x.name]) = bsL s ++ [.str x.name] := by simp only [bsL, List.map_append, List.map_cons, List.map_nil]
          exact ⟨n.eqs.length - (i + 1), [(1, .ptr oX 0), (3, .vw oN 1 0 (s ++ [x.name]).length), (4, avI r), (5, avI (i + 1 : Nat))], _, by omega, Ent.sub _ (by rw [List.length_append]; (repeat' (first | exact RSub.nil _ | apply RSub.cons)); all_goals rfl), i + 1, oN, s ++ [x.name], by omega, hs2, hY, n4, n1, by exact auto_heap, by rw [e1]; exact AHeap.set_self _ _ _, fun p y hp => by
            have hp2 := hfr p y hp
            have hp3 : p ≠ oN := fun e => by rw [e, n4] at hp; cases hp
            have hp4 : p ≠ oS := fun e => by rw [e, hS0] at hp; cases hp
            exact auto_heap, rfl, rfl⟩
      · simp only [Bool.not_true, Bool.false_and, Bool.false_eq_true, if_false] at hY
        (first | focus (refine yy19 ?_; refine aw_condp rfl (fun hc => ?_) (fun hc => ?_); refine yy10 ?_; refine yy3 ?_; refine yy22 ?_; refine yy21 ?_; refine yy32 ?_; refine yy95 ?_; (((refine awl_callc rfl auto_wl (ch _ auto_heap) (fun r H' hpost => ?_); obtain ⟨rfl, rfl⟩ := hpost))); refine yy54 ?_; refine yy9 ?_; refine yy50 ?_; refine yy50 ?_; refine yy41 ?_; refine yy76 ?_; refine yy28 ?_; rotate_left; exact absurd hc auto_no) | fail)
        exact ⟨n.eqs.length - (i + 1), _, _, by omega, Ent.sub _ (by (repeat' (first | exact RSub.nil _ | apply RSub.cons)); all_goals rfl), i + 1, oS, s, by omega, hs, hY, hS0, hSX, q1, q2, hfr, rfl, rfl⟩
    · obtain rfl : i = n.eqs.length := by omega
      have hY2 : s = Y := by rw [← hY.out, List.drop_length, lateRound]
      subst hY2
      clear hY
      (first | focus (refine yy19 ?_; refine aw_condp rfl (fun hc => ?_) (fun hc => ?_); exact absurd hc auto_no; refine yy138 ?_; refine k_seq_exit ?_; refine k_block_eq ?_; refine yy28 ?_; rotate_left) | fail)
      exact ⟨n.eqs.length + 1 - (r + 1), _, _, by omega, Ent.sub _ (by (repeat' (first | exact RSub.nil _ | apply RSub.cons)); all_goals rfl), r + 1, oS, s, by omega, hs, hZ1, hS0, hSX, q1, q2, hfr, rfl, rfl⟩
  · obtain rfl : r = n.eqs.length + 1 := by omega
    have hZ2 : s = Z := by rw [← hZ.out, Nat.sub_self, lateRounds]
    subst hZ2
    clear hZ
    have hsl := hs.len
    generalize hZ : (v.filter fun v => hasB s v.name).map (·.name) = Z
    replace hZ := Hdn.mk hZ
    (first | focus (refine aw_seq ?_; refine aw_seq ?_; refine aw_region ?_; refine awl_s rfl (s_move (v := .raw _) rfl) ?_; refine awl_s rfl (s_fieldAddr_ptr rfl) ?_; refine awl_s rfl (s_load_cel rfl auto_heap rfl) ?_; refine yy113 ?_; refine yy125 ?_; refine yy4 ?_; refine aw_condp rfl (fun hc => ?_) (fun hc => ?_); exact absurd hc auto_no; refine yy24 ?_; refine yy12 ?_; refine yy105 ?_; (((refine awl_callc rfl auto_wl (cv _) (fun r H' hpost => ?_); obtain ⟨rfl, rfl⟩ := hpost))); refine yy99 ?_; refine yy65 ?_; refine yy47 ?_; rotate_left) | fail)
    refine aw_own_nil 6 1 (.cel []) rfl rfl (fun oL hoL => ?_)
    have hLX : oL ≠ oX := fun e => by rw [e, q1] at hoL; cases hoL
    have hLS : oL ≠ oS := fun e => by rw [e, q2] at hoL; cases hoL
    have hL0 : H oL = none := by
      cases e : H oL with
      | none => rfl
      | some y => rw [hfr _ _ e] at hoL; cases hoL
    refine aw_loop (fun mm R1 H1 => ∃ (i oL : Nat) (a : List Bs), i ≤ v.length ∧ a.length ≤ i ∧ Hdn (a ++ ((v.drop i).filter fun v => hasB s v.name).map (·.name) = Z) ∧ H oL = none ∧ oL ≠ oX ∧ oL ≠ oS ∧ H1 oX = some (.cel [.str n.name, .sls n.ins.length (vrL n.ins), .sls n.outs.length (vrL n.outs), .sls n.locs.length (vrL n.locs), .sls n.eqs.length (eqL n.eqs), avI n.at_]) ∧ H1 oS = some (.cel (bsL s)) ∧ H1 oL = some (.cel (bsL a)) ∧ (∀ p y, H p = some y → H1 p = some y) ∧ R1 = [(3, .vw oS 1 0 s.length), (6, .vw oL 1 0 a.length), (7, .sls v.length (vrL v)), (8, avI i)] ∧ v.length - i = mm) ?_ ?_
    · exact ⟨_, _, _, Ent.sub _ (by (repeat' (first | exact RSub.nil _ | apply RSub.cons)); all_goals rfl), 0, oL, [], Nat.zero_le _, Nat.zero_le _, hZ, hL0, hLX, hLS, by exact auto_heap, by exact auto_heap, by exact AHeap.set_self _ _ _, fun p y hp => by
        have hp2 := hfr p y hp
        have hp3 : p ≠ oL := fun e => by rw [e, hL0] at hp; cases hp
        exact auto_heap, rfl, rfl⟩
    clear hZ hoL hL0 hLX hLS oL q1 q2 hfr
    rintro mm R1 H1 ⟨i, oL, a, hi, hai, hZ, hL0, hLX, hLS, q1, q2, q3, hfr, rfl, rfl⟩
    have hal := bsL_len a
    by_cases hlt : i < v.length
    · have hg : v[i]? = some v[i] := List.getElem?_eq_getElem hlt
      have hd : v.drop i = v[i] :: v.drop (i + 1) := List.drop_eq_getElem_cons hlt
      rw [hd, List.filter_cons] at hZ
      generalize v[i] = x at *
      have y0 := vr_at hg (j := 0) (by decide) rfl
      clear hg hd
      have ch := fun H h => has_callv (oN0 := oS) H s x.name (by omega) h
      generalize hasB s x.name = b at *
      cases b
      · simp only [Bool.false_eq_true, if_false] at hZ
        (first | focus (refine yy42 ?_; refine aw_condp rfl (fun hc => ?_) (fun hc => ?_); refine yy10 ?_; refine yy3 ?_; refine yy22 ?_; refine yy30 ?_; refine yy32 ?_; refine yy95 ?_; (((refine awl_callc rfl auto_wl (ch _ auto_heap) (fun r H' hpost => ?_); obtain ⟨rfl, rfl⟩ := hpost))); refine yy76 ?_; refine yy28 ?_; rotate_left; exact absurd hc auto_no) | fail)
        exact ⟨v.length - (i + 1), _, _, by omega, Ent.sub _ (by (repeat' (first | exact RSub.nil _ | apply RSub.cons)); all_goals rfl), i + 1, oL, a, by omega, by omega, hZ, hL0, hLX, hLS, q1, q2, q3, hfr, rfl, rfl⟩
      · simp only [if_true, List.map_cons] at hZ
        have hZ1 : Hdn ((a ++ [x.name]) ++ ((v.drop (i + 1)).filter fun v => hasB s v.name).map (·.name) = Z) := ⟨by rw [← hZ.out, List.append_assoc]; rfl⟩
        clear hZ
        (first | focus (refine yy42 ?_; refine aw_condp rfl (fun hc => ?_) (fun hc => ?_); refine yy10 ?_; refine yy3 ?_; refine yy22 ?_; refine yy30 ?_; refine yy32 ?_; refine yy95 ?_; (((refine awl_callc rfl auto_wl (ch _ auto_heap) (fun r H' hpost => ?_); obtain ⟨rfl, rfl⟩ := hpost))); refine yy83 ?_; refine yy25 ?_; refine yy22 ?_; refine yy30 ?_; refine yy32 ?_; refine yy95 ?_; refine yy38 ?_; refine za4 rfl rfl rfl auto_heap auto_al auto_src auto_len auto_len (fun oN hoN => ?_); refine yy40 ?_; refine yy45 ?_; refine yy91 ?_; rotate_left; exact absurd hc auto_no) | fail)
        have n0 : H' oN = none := hoN
        have n1 : oN ≠ oX := fun e => by rw [e, q1] at n0; cases n0
        have n2 : oN ≠ oS := fun e => by rw [e, q2] at n0; cases n0
        have n4 : H oN = none := by
          cases e : H oN with
          | none => rfl
          | some y => rw [hfr _ _ e] at n0; cases n0
        have e1 : bsL (a ++ [x.name]) = bsL a ++ [.str x.name] := by simp only [bsL, List.map_append, List.map_cons, List.map_nil]
        have hLX2 := hLX.symm
        have hLS2 := hLS.symm
        exact ⟨v.length - (i + 1), [(3, .vw oS 1 0 s.length), (6, .vw oN 1 0 (a ++ [x.name]).length), (7, .sls v.length (vrL v)), (8, avI (i + 1 : Nat))], _, by omega, Ent.sub _ (by rw [List.length_append]; (repeat' (first | exact RSub.nil _ | apply RSub.cons)); all_goals rfl), i + 1, oN, a ++ [x.name], by omega, by rw [List.length_append, List.length_singleton]; omega, hZ1, n4, n1, n2, by exact auto_heap, by exact auto_heap, by rw [e1]; exact AHeap.set_self _ _ _, fun p y hp => by
          have hp2 := hfr p y hp
          have hp3 : p ≠ oN := fun e => by rw [e, n4] at hp; cases hp
          have hp4 : p ≠ oL := fun e => by rw [e, hL0] at hp; cases hp
          exact auto_heap, rfl, rfl⟩
    · obtain rfl : i = v.length := by omega
      have hZ2 : a = Z := by rw [← hZ.out, List.drop_length]; simp
      subst hZ2
      clear hZ
      (first | focus (refine yy42 ?_; refine aw_condp rfl (fun hc => ?_) (fun hc => ?_); exact absurd hc auto_no; refine yy85 ?_; refine yy22 ?_; refine yy40 ?_; refine yy106 ?_; rotate_left) | fail)
      exact ⟨.inl rfl, _, _, _, (Ent.seal_cel (i := 2) (o := oL) (xs := bsL a) rfl auto_heap hal).trans (Ent.gc (fun p y hp => by
        have hp2 := hfr p y hp
        have hp3 : p ≠ oL := fun e => by rw [e, hL0] at hp; cases hp
        exact auto_heap)), ret1 rfl rfl, rfl, rfl⟩
theorem LateExpr_calls (H : AHeap) (n : Nd) (e : Ex) (hn : NdOk n) (hb : exSz e ≤ 2000000) : ACalls Try.prog 19 [.agg n.cells, exA e] H fun r H' => r = avB (lateE (hasB (lateN n)) e) ∧ H' = H := by
  have cl := fun H => Late_calls H n hn
  have hll : (lateN n).length ≤ 6000000 := by
    unfold lateN
    rw [List.length_map]
    exact Nat.le_trans (List.length_filter_le _ _) (varsN_len hn)
  have ce := fun H => late_calls (lateN n) (by omega) _ e H (Nat.le_refl _) hb
  generalize lateN n = l at *
  generalize lateE (hasB l) e = b at *
  have hn0 : n.cells = [.str n.name, .sls n.ins.length (vrL n.ins), .sls n.outs.length (vrL n.outs), .sls n.locs.length (vrL n.locs), .sls n.eqs.length (eqL n.eqs), avI n.at_] := rfl
  rw [hn0] at *
  obtain ⟨op, nm, nn, at_, ks⟩ := e
  simp only [exA, Ex.cells, Ex.op, Ex.name, Ex.n, Ex.at_, Ex.kids] at *
  refine acalls_of_aw2 Try.func19 rfl (by decide) ?_
  (first | focus (refine yy3 ?_; refine zb1 rfl rfl rfl (fun oN hoN => ?_); refine zb1 rfl rfl rfl (fun oN hoN => ?_); refine yy5 ?_; refine yy69 ?_; (apply awt_s; · exact s_load_agg rfl auto_heap rfl rfl (by first | decide | exact Nat.le_of_ble_eq_true rfl)); (apply awt_s; · exact s_load_agg rfl auto_heap rfl rfl (by first | decide | exact Nat.le_of_ble_eq_true rfl)); (apply awt_s; · exact s_callc auto_wl (cl _)); (apply awt_s; · exact s_callc auto_wl (ce _)); (apply awt_s; · exact s_assign (v := .raw _) rfl); refine yy73 ?_; refine aw_ret ?_; rotate_left) | fail)
  exact ⟨.inl rfl, _, _, _, Ent.gc auto_sub, ret1 rfl rfl, rfl, rfl⟩
end Go.Proofs.Ytmgkhfnhaeplgaa

namespace Go.Proofs.Ytmgkhfnhaeplgaa
open Go Go.Am Go.Proofs
set_option linter.unusedSimpArgs false
set_option linter.unusedVariables false
set_option maxRecDepth 20000
set_option maxHeartbeats 8000000

/-! The program: what is late. -/
def setA (l : List Bs) : MS := l.map fun s => (s, avB true)
theorem setA_get (l : List Bs) (s : Bs) : (MS.get (setA l) s).getD (.raw (.bool false)) = avB (hasB l s) := by
  induction l with
  | nil => rfl
  | cons x l ih =>
    show (MS.get ((x, avB true) :: setA l) s).getD _ = _
    rw [MS.get]
    unfold hasB
    rw [List.any_cons]
    by_cases h : x = s
    · rw [if_pos h]; simp [h]
    · rw [if_neg h]; simp only [h, decide_false, Bool.false_or]; exact ih
theorem setA_put {l : List Bs} {s : Bs} (h : hasB l s = false) : MS.put (setA l) s (avB true) = setA (l ++ [s]) := by
  induction l with
  | nil => rfl
  | cons x l ih =>
    unfold hasB at h
    rw [List.any_cons, Bool.or_eq_false_iff] at h
    have hx : ¬ x = s := by simpa using h.1
    show MS.put ((x, avB true) :: setA l) s (avB true) = (x, avB true) :: setA (l ++ [s])
    rw [MS.put, if_neg hx, ih h.2]
def idxF {α : Type} (p : α → Bool) : List α → Nat → Int
  | [], _ => -1
  | x :: l, i => if p x then (i : Int) else idxF p l (i + 1)
theorem idxF_any {α : Type} (p : α → Bool) : ∀ (l : List α) (i : Nat), decide (0 ≤ idxF p l i) = l.any p
  | [], i => rfl
  | x :: l, i => by
    unfold idxF
    rw [List.any_cons]
    cases h : p x
    · rw [if_neg (by decide), Bool.false_or]; exact idxF_any p l (i + 1)
    · rw [if_pos rfl, Bool.true_or, decide_eq_true (by omega)]
theorem lateL_any (p : Bs → Bool) : ∀ ks : List Ex, lateL p ks = ks.any (lateE p)
  | [] => rfl
  | e :: l => by rw [lateL, List.any_cons, lateL_any p l]
theorem IndexFuncE_calls {om : Nat} (H : AHeap) (ks : List Ex) (p : Ex → Bool) (hl : ks.length ≤ 2000000) (hp : ∀ e ∈ ks, ACalls Try.prog 37 [.mp om, exA e] H fun r H' => r = avB (p e) ∧ H' = H) :
    ACalls Try.prog 77 [.sls ks.length (exL ks), .fnc (.func 37) [.mp om] []] H fun r H' => r = avI (idxF p ks 0) ∧ H' = H := by
  have hml := exL_len ks
  generalize hZ : idxF p ks 0 = Z
  replace hZ := Hdn.mk hZ
  refine acalls_of_aw2 Try.func77 rfl (by decide) ?_
  (first | focus (refine yy12 ?_; refine yy34 ?_; refine yy30 ?_; refine yy113 ?_; refine yy9 ?_; refine yy137 ?_; rotate_left) | fail)
  refine aw_loop (fun mm R1 H1 => ∃ (i : Nat), i ≤ ks.length ∧ Hdn (idxF p (ks.drop i) i = Z) ∧ H1 = H ∧ R1 = [(0, .sls ks.length (exL ks)), (1, .fnc (.func 37) [.mp om] []), (7, avI ks.length), (8, avI i)] ∧ ks.length - i = mm) ?_ ?_
  · exact ⟨_, _, _, Ent.sub _ (by (repeat' (first | exact RSub.nil _ | apply RSub.cons)); all_goals rfl), 0, Nat.zero_le _, hZ, rfl, rfl, rfl⟩
  clear hZ
  rintro mm R1 H1 ⟨i, hi, hZ, rfl, rfl, rfl⟩
  by_cases hlt : i < ks.length
  · have hg : ks[i]? = some ks[i] := List.getElem?_eq_getElem hlt
    have hd : ks.drop i = ks[i] :: ks.drop (i + 1) := List.drop_eq_getElem_cons hlt
    have hseg := exL_get hg
    have cp := hp _ (List.getElem_mem hlt)
    rw [hd, idxF] at hZ
    generalize ks[i] = k at *
    generalize p k = b at *
    clear hg hd hp
    cases b
    · rw [if_neg (by decide)] at hZ
      (first | focus (refine yy88 ?_; refine aw_condp rfl (fun hc => ?_) (fun hc => ?_); refine yy10 ?_; refine yy14 ?_; refine yy5 ?_; refine yy3 ?_; refine awl_s rfl (s_move (v := .fnc _ _ _) rfl) ?_; refine yy30 ?_; refine yy32 ?_; refine yy60 ?_; (((refine awl_callcvf rfl rfl auto_wl (cp) (fun r H' hpost => ?_); obtain ⟨rfl, rfl⟩ := hpost))); refine yy76 ?_; refine yy64 ?_; refine yy25 ?_; refine yy108 ?_; refine yy9 ?_; refine yy4 ?_; rotate_left; exact absurd hc auto_no) | fail)
      exact ⟨ks.length - (i + 1), _, _, by omega, Ent.sub _ (by (repeat' (first | exact RSub.nil _ | apply RSub.cons)); all_goals rfl), i + 1, by omega, hZ, rfl, rfl, rfl⟩
    · rw [if_pos rfl] at hZ
      obtain rfl : Z = (i : Int) := hZ.out.symm
      (first | focus (refine yy88 ?_; refine aw_condp rfl (fun hc => ?_) (fun hc => ?_); refine yy10 ?_; refine yy14 ?_; refine yy5 ?_; refine yy3 ?_; refine awl_s rfl (s_move (v := .fnc _ _ _) rfl) ?_; refine yy30 ?_; refine yy32 ?_; refine yy60 ?_; (((refine awl_callcvf rfl rfl auto_wl (cp) (fun r H' hpost => ?_); obtain ⟨rfl, rfl⟩ := hpost))); refine yy83 ?_; refine yy14 ?_; refine yy5 ?_; refine yy114 ?_; refine yy84 ?_; rotate_left; exact absurd hc auto_no) | fail)
      exact ⟨.inl rfl, _, _, _, Ent.refl _ _, ret1 rfl rfl, rfl, rfl⟩
  · obtain rfl : i = ks.length := by omega
    have hZ2 := hZ.out
    rw [List.drop_length, idxF] at hZ2
    subst hZ2
    (first | focus (refine yy88 ?_; refine aw_condp rfl (fun hc => ?_) (fun hc => ?_); exact absurd hc auto_no; refine yy24 ?_; refine yy12 ?_; refine aw_ret ?_; rotate_left) | fail)
    exact ⟨.inl rfl, _, _, _, Ent.refl _ _, ret1 rfl rfl, rfl, rfl⟩
theorem ContainsFuncE_calls {om : Nat} (H : AHeap) (ks : List Ex) (p : Ex → Bool) (hl : ks.length ≤ 2000000) (hp : ∀ e ∈ ks, ACalls Try.prog 37 [.mp om, exA e] H fun r H' => r = avB (p e) ∧ H' = H) :
    ACalls Try.prog 72 [.sls ks.length (exL ks), .fnc (.func 37) [.mp om] []] H fun r H' => r = avB (ks.any p) ∧ H' = H := by
  have ci := IndexFuncE_calls H ks p hl hp
  have hz := idxF_any p ks 0
  generalize idxF p ks 0 = z at *
  rw [← hz]
  clear hp hz
  refine acalls_of_aw2 Try.func72 rfl (by decide) ?_
  (first | focus (refine yy12 ?_; refine yy77 ?_; refine awl_s rfl (s_move (v := .fnc _ _ _) rfl) ?_; (((refine awl_callc rfl auto_wl (ci) (fun r H' hpost => ?_); obtain ⟨rfl, rfl⟩ := hpost))); refine awl_s rfl (s_geq rfl rfl) ?_; refine yy110 ?_; rotate_left) | fail)
  exact ⟨.inl rfl, _, _, _, Ent.refl _ _, ret1 rfl rfl, rfl, rfl⟩
theorem any_calls {om : Nat} (H : AHeap) (ks : List Ex) (p : Ex → Bool) (hl : ks.length ≤ 2000000) (hp : ∀ e ∈ ks, ACalls Try.prog 37 [.mp om, exA e] H fun r H' => r = avB (p e) ∧ H' = H) : ACalls Try.prog 57 [.mp om, .sls ks.length (exL ks)] H fun r H' => r = avB (ks.any p) ∧ H' = H := by
  have cc := ContainsFuncE_calls H ks p hl hp
  generalize ks.any p = b at *
  clear hp
  refine acalls_of_aw2 Try.func57 rfl (by decide) ?_
  (first | focus (refine yy12 ?_; refine yy77 ?_; refine yy89 ?_; refine awl_s rfl (s_makeFuncV rfl rfl) ?_; (((refine awl_callc rfl auto_wl (cc) (fun r H' hpost => ?_); obtain ⟨rfl, rfl⟩ := hpost))); refine yy110 ?_; rotate_left) | fail)
  exact ⟨.inl rfl, _, _, _, Ent.refl _ _, ret1 rfl rfl, rfl, rfl⟩
theorem plate_calls {om : Nat} (l : List Bs) (m : Nat) : ∀ (e : Ex) (H : AHeap), exSz e ≤ m → exSz e ≤ 2000000 → H om = some (setA l).ao →
    ACalls Try.prog 37 [.mp om, exA e] H fun r H' => r = avB (lateE (hasB l) e) ∧ H' = H := by
  induction m with
  | zero => intro e H h; rw [exSz_eq] at h; omega
  | succ m ih =>
    intro e H h hb hH
    obtain ⟨op, nm, nn, at_, ks⟩ := e
    rw [exSz_eq] at h hb
    unfold lateE
    simp only [Ex.kids, Ex.op, Ex.name, Ex.n, Ex.at_] at *
    show ACalls Try.prog _ [.mp om, .agg [.str op, .str nm, avI nn, avI at_, .sls ks.length (exL ks)]] H _
    have hml := exL_len ks
    have hkl : ks.length ≤ exSzL ks := by
      clear hml h hb
      induction ks with
      | nil => exact Nat.zero_le _
      | cons x l ih => rw [exSzL, List.length_cons]; have := exSz_eq x; omega
    have hsg := setA_get l nm
    rw [lateL_any]
    have hp : ∀ (H2 : AHeap), H2 om = some (setA l).ao → ∀ e ∈ ks, ACalls Try.prog 37 [.mp om, exA e] H2 fun r H' => r = avB (lateE (hasB l) e) ∧ H' = H2 := fun H2 h2 e he => ih e H2 (by have := exSz_mem he; omega) (by have := exSz_mem he; omega) h2
    have ca := fun H2 h2 => any_calls H2 ks (lateE (hasB l)) (by omega) (hp H2 h2)
    clear hp ih
    generalize hx : (if op = ([118, 97, 114] : Bs) then hasB l nm else if op = ([112, 114, 101] : Bs) then true else if op = ([45, 62] : Bs) ∨ op = ([102, 98, 121] : Bs) ∨ op = ([109, 101, 114, 103, 101] : Bs) ∨ op = ([99, 97, 108, 108] : Bs) ∨ op = ([105, 110, 116] : Bs) ∨ op = ([98, 111, 111, 108] : Bs) then false else ks.any (lateE (hasB l))) = X
    refine acalls_of_aw2 Try.func37 rfl (by decide) ?_
    by_cases g1 : op = ([118, 97, 114] : Bs)
    · rw [if_pos g1] at hx
      subst g1
      rw [hx] at hsg
      (first | focus (refine yy3 ?_; refine zb1 rfl rfl rfl (fun oN hoN => ?_); refine yy67 ?_; refine yy39 ?_; refine aw_condp rfl (fun hc => ?_) (fun hc => ?_); exact absurd hc auto_no; refine yy1 ?_; refine aw_condp rfl (fun hc => ?_) (fun hc => ?_); refine yy3 ?_; refine yy89 ?_; refine yy21 ?_; refine yy135 ?_; refine yy5 ?_; refine yy114 ?_; rotate_left; exact absurd hc auto_no) | fail)
      exact ⟨.inl rfl, _, _, _, Ent.gc auto_sub, ret1 rfl rfl, rfl, rfl⟩
    rw [if_neg g1] at hx
    replace g1 := Hdq.mk g1
    by_cases g2 : op = ([112, 114, 101] : Bs)
    · rw [if_pos g2] at hx
      subst g2
      subst hx
      (first | focus (refine yy3 ?_; refine zb1 rfl rfl rfl (fun oN hoN => ?_); refine yy67 ?_; refine yy39 ?_; refine aw_condp rfl (fun hc => ?_) (fun hc => ?_); refine yy87 ?_; rotate_left; exact absurd hc auto_no) | fail)
      exact ⟨.inl rfl, _, _, _, Ent.gc auto_sub, ret1 rfl rfl, rfl, rfl⟩
    rw [if_neg g2] at hx
    replace g2 := Hdq.mk g2
    by_cases g3 : op = ([45, 62] : Bs) ∨ op = ([102, 98, 121] : Bs) ∨ op = ([109, 101, 114, 103, 101] : Bs) ∨ op = ([99, 97, 108, 108] : Bs) ∨ op = ([105, 110, 116] : Bs) ∨ op = ([98, 111, 111, 108] : Bs)
    · rw [if_pos g3] at hx
      subst hx
      rcases g3 with rfl | rfl | rfl | rfl | rfl | rfl
      all_goals (
        (first | focus (refine yy3 ?_; refine zb1 rfl rfl rfl (fun oN hoN => ?_); refine yy67 ?_; refine yy39 ?_; refine aw_condp rfl (fun hc => ?_) (fun hc => ?_); exact absurd hc (Hdq.out (by assumption)); refine yy1 ?_; refine aw_condp rfl (fun hc => ?_) (fun hc => ?_); exact absurd hc (Hdq.out (by assumption)); refine yy18 ?_; refine aw_condp rfl (fun hc => ?_) (fun hc => ?_); exact absurd hc auto_no; refine yy1 ?_; refine aw_condp rfl (fun hc => ?_) (fun hc => ?_); exact absurd hc auto_no; refine yy1 ?_; refine aw_condp rfl (fun hc => ?_) (fun hc => ?_); refine yy11 ?_; refine aw_condp rfl (fun hc => ?_) (fun hc => ?_); refine yy87 ?_; rotate_left; exact absurd hc auto_no; exact absurd hc auto_no) | focus (refine yy3 ?_; refine zb1 rfl rfl rfl (fun oN hoN => ?_); refine yy67 ?_; refine yy39 ?_; refine aw_condp rfl (fun hc => ?_) (fun hc => ?_); exact absurd hc (Hdq.out (by assumption)); refine yy1 ?_; refine aw_condp rfl (fun hc => ?_) (fun hc => ?_); exact absurd hc (Hdq.out (by assumption)); refine yy18 ?_; refine aw_condp rfl (fun hc => ?_) (fun hc => ?_); exact absurd hc auto_no; refine yy1 ?_; refine aw_condp rfl (fun hc => ?_) (fun hc => ?_); exact absurd hc auto_no; refine yy1 ?_; refine aw_condp rfl (fun hc => ?_) (fun hc => ?_); exact absurd hc auto_no; refine yy1 ?_; refine aw_condp rfl (fun hc => ?_) (fun hc => ?_); refine yy11 ?_; refine aw_condp rfl (fun hc => ?_) (fun hc => ?_); refine yy87 ?_; rotate_left; exact absurd hc auto_no; exact absurd hc auto_no) | focus (refine yy3 ?_; refine zb1 rfl rfl rfl (fun oN hoN => ?_); refine yy67 ?_; refine yy39 ?_; refine aw_condp rfl (fun hc => ?_) (fun hc => ?_); exact absurd hc (Hdq.out (by assumption)); refine yy1 ?_; refine aw_condp rfl (fun hc => ?_) (fun hc => ?_); exact absurd hc (Hdq.out (by assumption)); refine yy18 ?_; refine aw_condp rfl (fun hc => ?_) (fun hc => ?_); exact absurd hc auto_no; refine yy1 ?_; refine aw_condp rfl (fun hc => ?_) (fun hc => ?_); exact absurd hc auto_no; refine yy1 ?_; refine aw_condp rfl (fun hc => ?_) (fun hc => ?_); exact absurd hc auto_no; refine yy1 ?_; refine aw_condp rfl (fun hc => ?_) (fun hc => ?_); exact absurd hc auto_no; refine yy1 ?_; refine aw_condp rfl (fun hc => ?_) (fun hc => ?_); refine yy11 ?_; refine aw_condp rfl (fun hc => ?_) (fun hc => ?_); refine yy87 ?_; rotate_left; exact absurd hc auto_no; exact absurd hc auto_no) | focus (refine yy3 ?_; refine zb1 rfl rfl rfl (fun oN hoN => ?_); refine yy67 ?_; refine yy39 ?_; refine aw_condp rfl (fun hc => ?_) (fun hc => ?_); exact absurd hc (Hdq.out (by assumption)); refine yy1 ?_; refine aw_condp rfl (fun hc => ?_) (fun hc => ?_); exact absurd hc (Hdq.out (by assumption)); refine yy18 ?_; refine aw_condp rfl (fun hc => ?_) (fun hc => ?_); exact absurd hc auto_no; refine yy1 ?_; refine aw_condp rfl (fun hc => ?_) (fun hc => ?_); exact absurd hc auto_no; refine yy1 ?_; refine aw_condp rfl (fun hc => ?_) (fun hc => ?_); exact absurd hc auto_no; refine yy1 ?_; refine aw_condp rfl (fun hc => ?_) (fun hc => ?_); exact absurd hc auto_no; refine yy1 ?_; refine aw_condp rfl (fun hc => ?_) (fun hc => ?_); exact absurd hc auto_no; refine yy17 ?_; refine aw_condp rfl (fun hc => ?_) (fun hc => ?_); refine yy87 ?_; rotate_left; exact absurd hc auto_no) | focus (refine yy3 ?_; refine zb1 rfl rfl rfl (fun oN hoN => ?_); refine yy67 ?_; refine yy39 ?_; refine aw_condp rfl (fun hc => ?_) (fun hc => ?_); exact absurd hc (Hdq.out (by assumption)); refine yy1 ?_; refine aw_condp rfl (fun hc => ?_) (fun hc => ?_); exact absurd hc (Hdq.out (by assumption)); refine yy18 ?_; refine aw_condp rfl (fun hc => ?_) (fun hc => ?_); refine yy11 ?_; refine aw_condp rfl (fun hc => ?_) (fun hc => ?_); refine yy87 ?_; rotate_left; exact absurd hc auto_no; exact absurd hc auto_no) | focus (refine yy3 ?_; refine zb1 rfl rfl rfl (fun oN hoN => ?_); refine yy67 ?_; refine yy39 ?_; refine aw_condp rfl (fun hc => ?_) (fun hc => ?_); exact absurd hc (Hdq.out (by assumption)); refine yy1 ?_; refine aw_condp rfl (fun hc => ?_) (fun hc => ?_); exact absurd hc (Hdq.out (by assumption)); refine yy18 ?_; refine aw_condp rfl (fun hc => ?_) (fun hc => ?_); exact absurd hc auto_no; refine yy1 ?_; refine aw_condp rfl (fun hc => ?_) (fun hc => ?_); refine yy11 ?_; refine aw_condp rfl (fun hc => ?_) (fun hc => ?_); refine yy87 ?_; rotate_left; exact absurd hc auto_no; exact absurd hc auto_no) | fail)
        exact ⟨.inl rfl, _, _, _, Ent.gc auto_sub, ret1 rfl rfl, rfl, rfl⟩)
    rw [if_neg g3] at hx
    simp only [not_or] at g3
    obtain ⟨d1, d2, d3, d4, d5, d6⟩ := g3
    replace d1 := Hdq.mk d1
    replace d2 := Hdq.mk d2
    replace d3 := Hdq.mk d3
    replace d4 := Hdq.mk d4
    replace d5 := Hdq.mk d5
    replace d6 := Hdq.mk d6
    subst hx
    generalize ks.any (lateE (hasB l)) = X at *
    (first | focus (refine yy3 ?_; refine zb1 rfl rfl rfl (fun oN hoN => ?_); refine yy67 ?_; refine yy39 ?_; refine aw_condp rfl (fun hc => ?_) (fun hc => ?_); exact absurd hc (Hdq.out (by assumption)); refine yy1 ?_; refine aw_condp rfl (fun hc => ?_) (fun hc => ?_); exact absurd hc (Hdq.out (by assumption)); refine yy18 ?_; refine aw_condp rfl (fun hc => ?_) (fun hc => ?_); exact absurd hc (Hdq.out (by assumption)); refine yy1 ?_; refine aw_condp rfl (fun hc => ?_) (fun hc => ?_); exact absurd hc (Hdq.out (by assumption)); refine yy1 ?_; refine aw_condp rfl (fun hc => ?_) (fun hc => ?_); exact absurd hc (Hdq.out (by assumption)); refine yy1 ?_; refine aw_condp rfl (fun hc => ?_) (fun hc => ?_); exact absurd hc (Hdq.out (by assumption)); refine yy1 ?_; refine aw_condp rfl (fun hc => ?_) (fun hc => ?_); exact absurd hc (Hdq.out (by assumption)); refine yy17 ?_; refine aw_condp rfl (fun hc => ?_) (fun hc => ?_); exact absurd hc (Hdq.out (by assumption)); refine aw_skip ?_; refine yy64 ?_; refine yy3 ?_; refine yy89 ?_; refine yy21 ?_; (((refine awl_callc rfl auto_wl (ca _ auto_heap) (fun r H' hpost => ?_); obtain ⟨rfl, rfl⟩ := hpost))); refine yy110 ?_; rotate_left) | fail)
    exact ⟨.inl rfl, _, _, _, Ent.gc auto_sub, ret1 rfl rfl, rfl, rfl⟩
end Go.Proofs.Ytmgkhfnhaeplgaa

namespace Go.Proofs.Ytmgkhfnhaeplgaa
open Go Go.Am Go.Proofs
set_option linter.unusedSimpArgs false
set_option linter.unusedVariables false
set_option maxRecDepth 20000
set_option maxHeartbeats 8000000

/-! The program: the late names. -/
theorem lateQ_len (l : List Bs) (q : Eqn) : l.length ≤ (lateQ l q).length := by
  unfold lateQ; split
  · rw [List.length_append]; omega
  · exact Nat.le_refl _
theorem lateRound_len : ∀ (eqs : List Eqn) (l : List Bs), l.length ≤ (lateRound eqs l).length
  | [], l => Nat.le_refl _
  | q :: r, l => Nat.le_trans (lateQ_len l q) (lateRound_len r (lateQ l q))
theorem lateRounds_add (eqs : List Eqn) : ∀ (a b : Nat) (l : List Bs), lateRounds eqs (a + b) l = lateRounds eqs b (lateRounds eqs a l)
  | 0, b, l => by rw [Nat.zero_add]; rfl
  | a + 1, b, l => by rw [show a + 1 + b = (a + b) + 1 by omega, lateRounds, lateRounds, lateRounds_add eqs a b]
theorem lateRounds_fix {eqs : List Eqn} {l : List Bs} (h : lateRound eqs l = l) : ∀ m, lateRounds eqs m l = l
  | 0 => rfl
  | m + 1 => by rw [lateRounds, h, lateRounds_fix h m]
theorem lates_calls (H : AHeap) (n : Nd) (hn : NdOk n) : ACalls Try.prog 28 [.agg n.cells] H fun r H' => ∃ om, r = .mp om ∧ H om = none ∧ H' = H.set om (setA (lateNames n)).ao := by
  have heq := eq_len n.eqs
  have hbq := hn.q
  unfold lateNames
  generalize hZ : lateRounds n.eqs (n.eqs.length + 1) [] = Z
  replace hZ := Hdn.mk hZ
  have hn0 : n.cells = [.str n.name, .sls n.ins.length (vrL n.ins), .sls n.outs.length (vrL n.outs), .sls n.locs.length (vrL n.locs), .sls n.eqs.length (eqL n.eqs), avI n.at_] := rfl
  rw [hn0] at *
  refine acalls_of_aw1 Try.func28 rfl (by decide) ?_
  (first | focus (refine yy3 ?_; refine zb1 rfl rfl rfl (fun oN hoN => ?_); refine yy5 ?_; refine yy3 ?_; refine awl_makeMap rfl (fun oN hoN => ?_); refine awl_s rfl (s_assign (v := .mp _) rfl) ?_; refine yy65 ?_; refine yy47 ?_; rotate_left) | fail)
  rename_i oX hoX
  obtain ⟨oM, hoMe⟩ : ∃ x, x = oN := ⟨_, rfl⟩
  subst hoMe
  have hM0 : H oM = none := by (first | assumption | exact AHeap.none_of_set ((by assumption)) | exact AHeap.none_of_set (AHeap.none_of_set ((by assumption))) | exact AHeap.none_of_set (AHeap.none_of_set (AHeap.none_of_set ((by assumption)))) | exact AHeap.none_of_set (AHeap.none_of_set (AHeap.none_of_set (AHeap.none_of_set ((by assumption))))) | exact AHeap.none_of_set (AHeap.none_of_set (AHeap.none_of_set (AHeap.none_of_set (AHeap.none_of_set ((by assumption)))))) | exact AHeap.none_of_set (AHeap.none_of_set (AHeap.none_of_set (AHeap.none_of_set (AHeap.none_of_set (AHeap.none_of_set ((by assumption))))))) | exact AHeap.none_of_set (AHeap.none_of_set (AHeap.none_of_set (AHeap.none_of_set (AHeap.none_of_set (AHeap.none_of_set (AHeap.none_of_set ((by assumption)))))))) | exact AHeap.none_of_set (AHeap.none_of_set (AHeap.none_of_set (AHeap.none_of_set (AHeap.none_of_set (AHeap.none_of_set (AHeap.none_of_set (AHeap.none_of_set ((by assumption))))))))) | exact AHeap.none_of_set (AHeap.none_of_set (AHeap.none_of_set (AHeap.none_of_set (AHeap.none_of_set (AHeap.none_of_set (AHeap.none_of_set (AHeap.none_of_set (AHeap.none_of_set ((by assumption)))))))))) | exact AHeap.none_of_set (AHeap.none_of_set (AHeap.none_of_set (AHeap.none_of_set (AHeap.none_of_set (AHeap.none_of_set (AHeap.none_of_set (AHeap.none_of_set (AHeap.none_of_set (AHeap.none_of_set ((by assumption))))))))))))
  have hMX : oM ≠ oX := by (first | assumption | exact Ne.symm (by assumption) | exact AHeap.ne_of_fresh (by assumption) | exact Ne.symm (AHeap.ne_of_fresh (by assumption)) | exact AHeap.ne_of_fresh (AHeap.none_of_set (by assumption)) | exact Ne.symm (AHeap.ne_of_fresh (AHeap.none_of_set (by assumption))) | exact AHeap.ne_ns (by assumption) (by assumption) | exact AHeap.ne_sn (by assumption) (by assumption) | exact AHeap.ne_ns (by assumption) auto_heap2 | exact AHeap.ne_sn (by assumption) auto_heap2)
  refine aw_loop (fun mm R1 H1 => ∃ (r : Nat) (s : List Bs) (more : Bool), NmOk n.eqs s ∧ Hdn (lateRounds n.eqs r [] = s) ∧ r ≤ s.length ∧ Hdn (more = false → lateRound n.eqs s = s) ∧ H1 oX = some (.cel [.str n.name, .sls n.ins.length (vrL n.ins), .sls n.outs.length (vrL n.outs), .sls n.locs.length (vrL n.locs), .sls n.eqs.length (eqL n.eqs), avI n.at_]) ∧ H1 oM = some (setA s).ao ∧ (∀ p y, H p = some y → H1 p = some y) ∧ R1 = [(1, .ptr oX 0), (3, .mp oM), (4, avB more)] ∧ (if more then n.eqs.length + 1 - s.length else 0) = mm) ?_ ?_
  · exact ⟨_, _, _, Ent.sub _ (by (repeat' (first | exact RSub.nil _ | apply RSub.cons)); all_goals rfl), 0, [], true, NmOk.nil _, ⟨rfl⟩, Nat.zero_le _, ⟨fun h => by cases h⟩, by exact auto_heap, AHeap.set_self _ _ _, fun p y hp => auto_heap, rfl, rfl⟩
  clear hoN
  rintro mm R1 H1 ⟨r, s, more, hs, hr, hrs, hm, q1, q2, hfr, rfl, rfl⟩
  have hsl := hs.len
  cases more
  · have hfix := hm.out rfl
    have hsZ : s = Z := by
      rw [← hZ.out, show n.eqs.length + 1 = r + (n.eqs.length + 1 - r) by omega, lateRounds_add, hr.out, lateRounds_fix hfix]
    subst hsZ
    clear hZ hr hm hfix
    (first | focus (refine yy8 ?_; refine yy132 ?_; refine yy85 ?_; refine yy89 ?_; refine awl_s rfl (s_assign (v := .mp _) rfl) ?_; refine yy106 ?_; rotate_left) | fail)
    exact ⟨.inl rfl, _, _, _, Ent.gc (Sub.set auto_heap (fun p y hpo hp => hfr p y hp)), ret1 rfl rfl, oM, rfl, hM0, rfl⟩
  · generalize hY : lateRound n.eqs s = Y
    replace hY := Hdn.mk hY
    clear hm hZ
    (first | focus (refine yy8 ?_; refine yy83 ?_; refine yy52 ?_; refine yy12 ?_; refine yy13 ?_; refine yy113 ?_; refine yy9 ?_; refine yy137 ?_; rotate_left) | fail)
    refine aw_loop (fun mm R2 H2 => ∃ (i : Nat) (s' : List Bs) (b : Bool), i ≤ n.eqs.length ∧ NmOk n.eqs s' ∧ Hdn (lateRound (n.eqs.drop i) s' = Y) ∧ Hdn (b = false → s' = s) ∧ Hdn (b = true → s.length < s'.length) ∧ H2 oX = some (.cel [.str n.name, .sls n.ins.length (vrL n.ins), .sls n.outs.length (vrL n.outs), .sls n.locs.length (vrL n.locs), .sls n.eqs.length (eqL n.eqs), avI n.at_]) ∧ H2 oM = some (setA s').ao ∧ (∀ p y, H p = some y → H2 p = some y) ∧ R2 = [(1, .ptr oX 0), (3, .mp oM), (4, avB b), (10, .sls n.eqs.length (eqL n.eqs)), (11, avI n.eqs.length), (12, avI i)] ∧ n.eqs.length - i = mm) ?_ ?_
    · exact ⟨_, _, _, Ent.sub _ (by (repeat' (first | exact RSub.nil _ | apply RSub.cons)); all_goals rfl), 0, s, false, Nat.zero_le _, hs, hY, ⟨fun _ => rfl⟩, ⟨fun h => by cases h⟩, q1, q2, hfr, rfl, rfl⟩
    clear q1 q2 hfr H1
    rintro mm R2 H2 ⟨i, s', b, hi, hs', hY2, hb0, hb1, q1, q2, hfr, rfl, rfl⟩
    by_cases hlt : i < n.eqs.length
    · have hg : n.eqs[i]? = some n.eqs[i] := List.getElem?_eq_getElem hlt
      have hd : n.eqs.drop i = n.eqs[i] :: n.eqs.drop (i + 1) := List.drop_eq_getElem_cons hlt
      have hbx := hn.e _ (List.getElem_mem hlt)
      have hs2 := hs'.q (List.getElem_mem hlt)
      rw [hd, lateRound] at hY2
      generalize n.eqs[i] = x at *
      have hsq : List.take 7 (List.drop (i * 7) (eqL n.eqs)) = [.str x.name, .str x.e.op, .str x.e.name, avI x.e.n, avI x.e.at_, .sls x.e.kids.length (exL x.e.kids), avI x.at_] := eq_get hg
      clear hg hd
      have hsg := setA_get s' x.name
      have hsp := setA_put (l := s') (s := x.name)
      have cl := fun H h => plate_calls (om := oM) s' _ x.e H (Nat.le_refl _) hbx h
      simp only [exA, Ex.cells] at cl
      unfold lateQ at hY2 hs2
      generalize hasB s' x.name = b1 at *
      generalize lateE (hasB s') x.e = b2 at *
      cases b1
      · cases b2
        · simp only [Bool.not_false, Bool.true_and, Bool.false_eq_true, if_false] at hY2
          (first | focus (refine yy88 ?_; refine aw_condp rfl (fun hc => ?_) (fun hc => ?_); refine yy10 ?_; refine yy3 ?_; refine yy72 ?_; refine yy60 ?_; refine awl_alloc rfl rfl rfl (fun oN hoN => ?_); refine yy15 ?_; refine yy31 ?_; refine yy89 ?_; refine yy21 ?_; refine yy135 ?_; refine yy54 ?_; refine yy23 ?_; refine yy89 ?_; refine yy6 ?_; refine awl_s rfl (s_fieldAddr_ptr rfl) ?_; refine zg3 rfl rfl rfl ?_; refine yy29 ?_; refine yy6 ?_; (((refine awl_callc rfl auto_wl (cl _ auto_heap) (fun r H' hpost => ?_); obtain ⟨rfl, rfl⟩ := hpost))); refine yy46 ?_; refine yy76 ?_; refine yy64 ?_; refine yy25 ?_; refine yy108 ?_; refine yy9 ?_; refine yy4 ?_; rotate_left; exact absurd hc auto_no) | fail)
          exact ⟨n.eqs.length - (i + 1), _, _, by omega, Ent.tog (by (repeat' (first | exact RSub.nil _ | apply RSub.cons)); all_goals rfl) auto_sub, i + 1, s', b, by omega, hs', hY2, hb0, hb1, q1, q2, hfr, rfl, rfl⟩
        · simp only [Bool.not_false, Bool.true_and, if_true] at hY2 hs2
          have hsp2 := hsp rfl
          clear hsp
          (first | focus (refine yy88 ?_; refine aw_condp rfl (fun hc => ?_) (fun hc => ?_); refine yy10 ?_; refine yy3 ?_; refine yy72 ?_; refine yy60 ?_; refine awl_alloc rfl rfl rfl (fun oN hoN => ?_); refine yy15 ?_; refine yy31 ?_; refine yy89 ?_; refine yy21 ?_; refine yy135 ?_; refine yy54 ?_; refine yy23 ?_; refine yy89 ?_; refine yy6 ?_; refine awl_s rfl (s_fieldAddr_ptr rfl) ?_; refine zg3 rfl rfl rfl ?_; refine yy29 ?_; refine yy6 ?_; (((refine awl_callc rfl auto_wl (cl _ auto_heap) (fun r H' hpost => ?_); obtain ⟨rfl, rfl⟩ := hpost))); refine yy101 ?_; refine yy3 ?_; refine yy89 ?_; refine yy21 ?_; refine awl_mapUpdate rfl rfl auto_mv auto_heap ?_; refine yy4 ?_; refine yy25 ?_; refine yy20 ?_; refine yy25 ?_; refine yy108 ?_; refine yy9 ?_; refine yy4 ?_; rotate_left; exact absurd hc auto_no) | fail)
          exact ⟨n.eqs.length - (i + 1), _, H2.set oM (setA (s' ++ [x.name])).ao, by omega, Ent.tog (by (repeat' (first | exact RSub.nil _ | apply RSub.cons)); all_goals rfl) (Sub.set (by rw [← hsp2]; exact AHeap.set_self _ _ _) (fun p y hpo hp => by
            have hp3 : p ≠ oN := fun e => by rw [e, hoN] at hp; cases hp
            exact auto_heap)), i + 1, s' ++ [x.name], true, by omega, hs2, hY2, ⟨fun h => by cases h⟩, ⟨fun _ => by
              rw [List.length_append, List.length_singleton]
              cases b with
              | false => rw [hb0.out rfl]; omega
              | true => have := hb1.out rfl; omega⟩, by exact auto_heap, AHeap.set_self _ _ _, fun p y hp => by
            have hp2 := hfr p y hp
            have hp3 : p ≠ oM := fun e => by rw [e, hM0] at hp; cases hp
            exact auto_heap, rfl, rfl⟩
      · simp only [Bool.not_true, Bool.false_and, Bool.false_eq_true, if_false] at hY2
        (first | focus (refine yy88 ?_; refine aw_condp rfl (fun hc => ?_) (fun hc => ?_); refine yy10 ?_; refine yy3 ?_; refine yy72 ?_; refine yy60 ?_; refine awl_alloc rfl rfl rfl (fun oN hoN => ?_); refine yy15 ?_; refine yy31 ?_; refine yy89 ?_; refine yy21 ?_; refine yy135 ?_; refine yy54 ?_; refine yy9 ?_; refine yy50 ?_; refine yy41 ?_; refine yy76 ?_; refine yy64 ?_; refine yy25 ?_; refine yy108 ?_; refine yy9 ?_; refine yy4 ?_; rotate_left; exact absurd hc auto_no) | fail)
        exact ⟨n.eqs.length - (i + 1), _, _, by omega, Ent.tog (by (repeat' (first | exact RSub.nil _ | apply RSub.cons)); all_goals rfl) auto_sub, i + 1, s', b, by omega, hs', hY2, hb0, hb1, q1, q2, hfr, rfl, rfl⟩
    · obtain rfl : i = n.eqs.length := by omega
      have hY3 : s' = Y := by rw [← hY2.out, List.drop_length, lateRound]
      subst hY3
      have hsl2 := hs'.len
      clear hY2
      (first | focus (refine yy88 ?_; refine aw_condp rfl (fun hc => ?_) (fun hc => ?_); exact absurd hc auto_no; refine yy138 ?_; refine k_seq_exit ?_; refine k_block_eq ?_; refine yy64 ?_; rotate_left) | fail)
      cases b
      · obtain rfl : s' = s := hb0.out rfl
        exact ⟨0, _, _, by rw [if_pos rfl]; omega, Ent.sub _ (by (repeat' (first | exact RSub.nil _ | apply RSub.cons)); all_goals rfl), r, s', false, hs', hr, hrs, ⟨fun _ => hY.out⟩, q1, q2, hfr, rfl, rfl⟩
      · have hlt2 := hb1.out rfl
        exact ⟨_, _, _, by rw [if_pos rfl]; exact (show n.eqs.length + 1 - s'.length < n.eqs.length + 1 - s.length by omega), Ent.sub _ (by (repeat' (first | exact RSub.nil _ | apply RSub.cons)); all_goals rfl), r + 1, s', true, hs', ⟨by rw [lateRounds_add, hr.out]; exact hY.out⟩, by omega, ⟨fun h => by cases h⟩, q1, q2, hfr, rfl, rfl⟩
end Go.Proofs.Ytmgkhfnhaeplgaa

namespace Go.Proofs.Ytmgkhfnhaeplgaa
open Go Go.Am Go.Proofs
set_option linter.unusedSimpArgs false
set_option linter.unusedVariables false
set_option maxRecDepth 20000
set_option maxHeartbeats 8000000

/-! slices.Concat of variables. -/
abbrev vlA (l : List Vr) : AV := .sls l.length (vrL l)
theorem GrowV_nil (H : AHeap) (k : Nat) (hk0 : 0 < k) (hk : k ≤ 4000000000) :
    ACalls Try.prog 56 [.raw (.slice none 0 0), .raw (.int .i64 (k : Int))] H fun r H' => ∃ o, H o = none ∧ r = .vw o 5 0 0 ∧ H' = H.set o (.cel []) := by
  refine acalls_of_aw2 Try.func56 rfl (by decide) ?_
  (first | focus (refine yy12 ?_; refine yy8 ?_; refine yy48 ?_; refine aw_condp rfl (fun hc => ?_) (fun hc => ?_); exact absurd hc auto_no; refine yy11 ?_; refine yy8 ?_; refine yy9 ?_; refine awl_s rfl (s_cap_nil rfl) ?_; refine yy9 ?_; refine awl_s rfl (s_len_nil rfl) ?_; refine awl_s rfl (s_subn rfl rfl (by omega) (by omega)) ?_; refine awl_s rfl (s_subn rfl rfl (by omega) (by omega)) ?_; refine yy5 ?_; refine yy14 ?_; refine yy124 ?_; refine yy4 ?_; refine aw_condp rfl (fun hc => ?_) (fun hc => ?_); refine yy56 ?_; refine yy9 ?_; refine awl_s rfl (s_cap_nil rfl) ?_; refine awl_s rfl (s_slice_nil rfl auto_bnd auto_bnd) ?_; refine yy9 ?_; refine awl_app_zeros (sz := 5) (z := .agg #[.string ⟨#[]⟩, .int .i64 0, .string ⟨#[]⟩, .bool false, .int .i64 0]) (xs := .cel []) rfl rfl rfl rfl auto_om auto_om auto_len (fun oN hoN => ?_); refine yy9 ?_; refine awl_s rfl (s_len_nil rfl) ?_; refine awl_s rfl (s_slice_vw rfl auto_bnd auto_bnd auto_len auto_len) ?_; refine yy40 ?_; refine yy31 ?_; refine yy22 ?_; refine yy40 ?_; refine yy106 ?_; rotate_left; exact absurd hc auto_no) | fail)
  exact ⟨.inl rfl, _, _, _, Ent.refl _ _, ret1 rfl rfl, oN, hoN, rfl, rfl⟩
theorem GrowV_zero (H : AHeap) :
    ACalls Try.prog 56 [.raw (.slice none 0 0), .raw (.int .i64 ((0 : Nat) : Int))] H fun r H' => r = .raw (.slice none 0 0) ∧ H' = H := by
  refine acalls_of_aw2 Try.func56 rfl (by decide) ?_
  (first | focus (refine yy12 ?_; refine yy8 ?_; refine yy48 ?_; refine aw_condp rfl (fun hc => ?_) (fun hc => ?_); exact absurd hc auto_no; refine yy11 ?_; refine yy8 ?_; refine yy9 ?_; refine awl_s rfl (s_cap_nil rfl) ?_; refine yy9 ?_; refine awl_s rfl (s_len_nil rfl) ?_; refine awl_s rfl (s_subn rfl rfl (by omega) (by omega)) ?_; refine awl_s rfl (s_subn rfl rfl (by omega) (by omega)) ?_; refine yy5 ?_; refine yy14 ?_; refine yy124 ?_; refine yy4 ?_; refine aw_condp rfl (fun hc => ?_) (fun hc => ?_); exact absurd hc auto_no; refine yy11 ?_; refine yy14 ?_; refine yy110 ?_; rotate_left) | fail)
  exact ⟨.inl rfl, _, _, _, Ent.refl _ _, ret1 rfl rfl, rfl, rfl⟩
theorem ConcatV_calls (H : AHeap) (ls : List (List Vr)) (hl : ls.length ≤ 1000) (hb : ∀ b ∈ ls, b.length ≤ 2000000) :
    ACalls Try.prog 34 [.sls ls.length (ls.map vlA)] H fun r H' => r = vlA ls.flatten ∧ H' = H := by
  refine acalls_of_aw1 Try.func34 rfl (by decide) ?_
  (first | focus (refine yy12 ?_; refine yy12 ?_; refine yy34 ?_; refine yy30 ?_; refine yy113 ?_; refine yy9 ?_; refine yy137 ?_; rotate_left) | fail)
  refine aw_loop (fun m R' H1 => ∃ i, H1 = H ∧ R' = [(0, .sls ls.length (ls.map vlA)), (3, .raw (.int .i64 (((ls.take i).flatten.length : Nat) : Int))), (9, .sls ls.length (ls.map vlA)), (10, .raw (.int .i64 ((ls.length : Nat) : Int))), (11, .raw (.int .i64 ((i : Nat) : Int)))] ∧ i + m = ls.length ∧ (ls.take i).flatten.length ≤ 2000000 * i) ?_ ?_
  · exact ⟨ls.length, _, _, auto_ent, 0, rfl, rfl, by omega, by simp⟩
  rintro m R0 H1 ⟨i, rfl, rfl, hi, hs⟩
  by_cases hlt : i < ls.length
  · have hg : ls[i]? = some ls[i] := List.getElem?_eq_getElem hlt
    have hbi := hb _ (List.getElem_mem hlt)
    have hsn : (ls.take (i + 1)).flatten.length = (ls.take i).flatten.length + ls[i].length := by rw [List.take_add_one, hg, List.flatten_append, List.length_append]; simp [Option.toList]
    generalize ls[i] = x at *
    (first | focus (refine yy88 ?_; refine aw_condp rfl (fun hc => ?_) (fun hc => ?_); refine yy10 ?_; refine yy3 ?_; refine yy72 ?_; refine yy43 ?_; refine yy99 ?_; refine yy4 ?_; refine yy14 ?_; refine yy30 ?_; refine yy113 ?_; refine yy108 ?_; refine yy5 ?_; refine yy14 ?_; refine yy48 ?_; refine aw_condp rfl (fun hc => ?_) (fun hc => ?_); exact absurd hc auto_no; refine aw_skip ?_; refine yy64 ?_; refine yy25 ?_; refine yy108 ?_; refine yy9 ?_; refine yy4 ?_; rotate_left; exact absurd hc auto_no) | fail)
    simp only [← hsn]
    exact ⟨m - 1, _, _, by omega, auto_ent, i + 1, rfl, rfl, by omega, by omega⟩
  obtain rfl : i = ls.length := by omega
  rw [List.take_length] at hs ⊢
  by_cases hz : ls.flatten.length = 0
  case' pos =>
    rw [hz]
    (first | focus (refine yy88 ?_; refine aw_condp rfl (fun hc => ?_) (fun hc => ?_); exact absurd hc auto_no; refine yy24 ?_; refine yy14 ?_; (((refine awl_callc rfl auto_wl (GrowV_zero _) (fun r H' hpost => ?_); obtain ⟨rfl, rfl⟩ := hpost))); refine yy134 ?_; refine yy30 ?_; refine yy113 ?_; refine yy9 ?_; refine yy137 ?_; rotate_left) | fail)
    rename AHeap => H1
    refine aw_own_nil 6 5 (.cel []) rfl rfl (fun o ho => ?_)
  case' neg =>
    (first | focus (refine yy88 ?_; refine aw_condp rfl (fun hc => ?_) (fun hc => ?_); exact absurd hc auto_no; refine yy24 ?_; refine yy14 ?_; (((refine awl_callc rfl auto_wl (GrowV_nil _ _ (by omega) (by omega)) (fun r H' hpost => ?_); obtain ⟨o, ho, rfl, rfl⟩ := hpost))); refine yy40 ?_; refine yy65 ?_; refine yy30 ?_; refine yy113 ?_; refine yy9 ?_; refine yy137 ?_; rotate_left) | fail)
  all_goals
    refine aw_loop (fun m R' H2 => ∃ o i, H1 o = none ∧ H2 = H1.set o (.cel (vrL (ls.take i).flatten)) ∧ R' = [(6, .vw o 5 0 (ls.take i).flatten.length), (25, .sls ls.length (ls.map vlA)), (26, .raw (.int .i64 ((ls.length : Nat) : Int))), (27, .raw (.int .i64 ((i : Nat) : Int)))] ∧ i + m = ls.length ∧ (ls.take i).flatten.length ≤ 2000000 * i) ?_ ?_
    · exact ⟨ls.length, _, _, auto_ent, o, 0, ho, by simp, rfl, by omega, by simp⟩
    clear ho hi hlt
    rintro m R0 H2 ⟨o, i, ho, rfl, rfl, hi, hs⟩
    by_cases hlt : i < ls.length
    · have hg : ls[i]? = some ls[i] := List.getElem?_eq_getElem hlt
      have hbi := hb _ (List.getElem_mem hlt)
      have hsn : (ls.take (i + 1)).flatten = (ls.take i).flatten ++ ls[i] := by rw [List.take_add_one, hg, List.flatten_append]; simp [Option.toList]
      have hsl : (ls.take (i + 1)).flatten.length = (ls.take i).flatten.length + ls[i].length := by rw [hsn, List.length_append]
      have hv1 := vr_len (ls.take i).flatten
      have hgm : (ls.map vlA)[i * 1]? = some (vlA ls[i]) := map_get hg
      generalize ls[i] = x at *
      have hv2 := vr_len x
      (first | focus (refine yy88 ?_; refine aw_condp rfl (fun hc => ?_) (fun hc => ?_); refine yy10 ?_; refine yy3 ?_; refine yy72 ?_; refine yy43 ?_; refine yy99 ?_; refine yy4 ?_; refine yy25 ?_; refine yy22 ?_; refine yy30 ?_; refine za2 rfl rfl rfl (by assumption) auto_len auto_src auto_len auto_len (fun oN hoN => ?_); refine yy40 ?_; refine yy45 ?_; refine yy25 ?_; refine yy108 ?_; refine yy9 ?_; refine yy4 ?_; rotate_left; exact absurd hc auto_no) | fail)
      simp only [← vr_app, ← hsn, ← hsl]
      exact ⟨m - 1, _, _, by omega, auto_ent, oN, i + 1, hoN, rfl, rfl, by omega, by omega⟩
    obtain rfl : i = ls.length := by omega
    rw [List.take_length] at hs ⊢
    (first | focus (refine yy88 ?_; refine aw_condp rfl (fun hc => ?_) (fun hc => ?_); exact absurd hc auto_no; refine yy85 ?_; refine yy22 ?_; refine yy40 ?_; refine yy106 ?_; rotate_left) | fail)
    exact ⟨.inl rfl, _, _, _, Ent.seal_cel1 2 rfl (vr_len _) ho, ret1 rfl rfl, rfl, rfl⟩
end Go.Proofs.Ytmgkhfnhaeplgaa

namespace Go.Proofs.Ytmgkhfnhaeplgaa
open Go Go.Am Go.Proofs
set_option linter.unusedSimpArgs false
set_option linter.unusedVariables false
set_option maxRecDepth 20000
set_option maxHeartbeats 8000000

/-! The program: Late, Expr, told. -/
theorem lateNames_ok (n : Nd) : NmOk n.eqs (lateNames n) := by
  have hq : ∀ (l : List Eqn), (∀ q ∈ l, q ∈ n.eqs) → ∀ s, NmOk n.eqs s → NmOk n.eqs (lateRound l s) := by
    intro l
    induction l with
    | nil => intro _ s hs; exact hs
    | cons q l ih => intro h s hs; exact ih (fun q hq => h q (List.mem_cons_of_mem _ hq)) _ (hs.q (h q List.mem_cons_self))
  have hr : ∀ m s, NmOk n.eqs s → NmOk n.eqs (lateRounds n.eqs m s) := by
    intro m
    induction m with
    | zero => intro s hs; exact hs
    | succ m ih => intro s hs; exact ih _ (hq _ (fun _ h => h) s hs)
  exact hr _ _ (NmOk.nil _)
theorem pExpr_calls (H : AHeap) (n : Nd) (e : Ex) (hn : NdOk n) (hb : exSz e ≤ 2000000) : ACalls Try.prog 18 [.agg n.cells, exA e] H fun r H' => r = avB (lateE (hasB (lateNames n)) e) ∧ H' = H := by
  have cl := fun H => lates_calls H n hn
  generalize lateNames n = l at *
  have ce := fun om H h => plate_calls (om := om) l _ e H (Nat.le_refl _) hb h
  generalize lateE (hasB l) e = b at *
  have hn0 : n.cells = [.str n.name, .sls n.ins.length (vrL n.ins), .sls n.outs.length (vrL n.outs), .sls n.locs.length (vrL n.locs), .sls n.eqs.length (eqL n.eqs), avI n.at_] := rfl
  rw [hn0] at *
  obtain ⟨op, nm, nn, at_, ks⟩ := e
  simp only [exA, Ex.cells, Ex.op, Ex.name, Ex.n, Ex.at_, Ex.kids] at *
  refine acalls_of_aw2 Try.func18 rfl (by decide) ?_
  (first | focus (refine yy3 ?_; refine zb1 rfl rfl rfl (fun oN hoN => ?_); refine zb1 rfl rfl rfl (fun oN hoN => ?_); refine yy5 ?_; refine aw_seq ?_; refine DC.aw_drawp (fun H' => H' oN = some (.cel [.str op, .str nm, avI nn, avI at_, .sls ks.length (exL ks)])) (by first | exact auto_heap | exact ⟨auto_heap, auto_heap⟩ | exact ⟨auto_heap, auto_heap, auto_heap⟩) auto_kr auto_dk auto_dk ?_; (apply DC.awn_e auto_dk; (· exact s_load_agg rfl auto_heap rfl rfl (by first | decide | exact Nat.le_of_ble_eq_true rfl))); refine DC.awn_b ?_; (apply DC.awn_s; · (intro H1 hPsi; (try dsimp only at hPsi); exact s_load_agg rfl auto_heap rfl rfl (by first | decide | exact Nat.le_of_ble_eq_true rfl))); refine DC.awn_b ?_; refine DC.awn_b ?_; refine DC.awn_nil ?_; refine DC.awc_cons (fun Rx K1 hK1x => ?_); (((refine awl_callc rfl auto_wl (cl _) (fun r H' hpost => ?_); obtain ⟨om, rfl, hom, rfl⟩ := hpost))); refine yy37 ?_; (refine hK1x _ _ (by first | exact Or.inl (by decide +kernel) | (refine Or.inr ?_; (try dsimp only); first | exact auto_heap | exact ⟨auto_heap, auto_heap⟩ | exact ⟨auto_heap, auto_heap, auto_heap⟩)) ?_; clear hK1x K1 Rx); refine DC.awc_cons (fun Rx K1 hK1x => ?_); (((refine awl_callc rfl auto_wl (ce om _ auto_heap) (fun r H' hpost => ?_); obtain ⟨rfl, rfl⟩ := hpost))); refine yy37 ?_; (refine hK1x _ _ (by first | exact Or.inl (by decide +kernel) | (refine Or.inr ?_; (try dsimp only); first | exact auto_heap | exact ⟨auto_heap, auto_heap⟩ | exact ⟨auto_heap, auto_heap, auto_heap⟩)) ?_; clear hK1x K1 Rx); refine DC.awc_cons (fun Rx K1 hK1x => ?_); refine yy27 ?_; refine yy37 ?_; (refine hK1x _ _ (by first | exact Or.inl (by decide +kernel) | (refine Or.inr ?_; (try dsimp only); first | exact auto_heap | exact ⟨auto_heap, auto_heap⟩ | exact ⟨auto_heap, auto_heap, auto_heap⟩)) ?_; clear hK1x K1 Rx); refine DC.awc_nil ?_; refine k_seq_normal ?_; refine aw_ret ?_; rotate_left) | fail)
  exact ⟨.inl rfl, _, _, _, Ent.gc auto_sub, ret1 rfl rfl, rfl, rfl⟩
theorem pLate_calls (H : AHeap) (n : Nd) (hn : NdOk n) : ACalls Try.prog 16 [.agg n.cells] H fun r H' => r = .sls (lateN n).length (bsL (lateN n)) ∧ H' = H := by
  have cl := fun H => lates_calls H n hn
  have hns := (lateNames_ok n).len
  have hbq := hn.q
  have hlv := varsN_len hn
  unfold lateN
  generalize lateNames n = s at *
  have cv := fun H => ConcatV_calls H [n.ins, n.outs, n.locs] (show 3 ≤ 1000 by decide) (fun b hb => by
    simp only [List.mem_cons, List.mem_nil_iff, or_false] at hb
    rcases hb with rfl | rfl | rfl
    · exact hn.i
    · exact hn.o
    · exact hn.l)
  have hfl : [n.ins, n.outs, n.locs].flatten = varsN n := by unfold varsN; simp
  rw [hfl] at cv
  generalize varsN n = v at *
  have hmv := vr_len v
  generalize hZ : (v.filter fun v => hasB s v.name).map (·.name) = Z
  replace hZ := Hdn.mk hZ
  simp only [List.map_cons, List.map_nil, List.length_cons, List.length_nil] at cv
  have hn0 : n.cells = [.str n.name, .sls n.ins.length (vrL n.ins), .sls n.outs.length (vrL n.outs), .sls n.locs.length (vrL n.locs), .sls n.eqs.length (eqL n.eqs), avI n.at_] := rfl
  rw [hn0] at *
  refine acalls_of_aw1 Try.func16 rfl (by decide) ?_
  (first | focus (refine yy3 ?_; refine zb1 rfl rfl rfl (fun oN hoN => ?_); refine yy5 ?_; refine yy105 ?_; (((refine awl_callc rfl auto_wl (cl _) (fun r H' hpost => ?_); obtain ⟨om, rfl, hom, rfl⟩ := hpost))); refine awl_s rfl (s_assign (v := .mp _) rfl) ?_; refine yy4 ?_; refine yy12 ?_; refine yy34 ?_; refine yy21 ?_; refine yy21 ?_; refine yy21 ?_; refine yy38 ?_; (((refine awl_callc rfl auto_wl (cv _) (fun r H' hpost => ?_); obtain ⟨rfl, rfl⟩ := hpost))); refine yy113 ?_; refine yy9 ?_; refine yy137 ?_; rotate_left) | fail)
  obtain ⟨oX, hoXe⟩ : ∃ x, x = oN := ⟨_, rfl⟩
  subst hoXe
  have hoX : H oX = none := hoN
  have hM0 : H om = none := by (first | assumption | exact AHeap.none_of_set ((by assumption)) | exact AHeap.none_of_set (AHeap.none_of_set ((by assumption))) | exact AHeap.none_of_set (AHeap.none_of_set (AHeap.none_of_set ((by assumption)))) | exact AHeap.none_of_set (AHeap.none_of_set (AHeap.none_of_set (AHeap.none_of_set ((by assumption))))) | exact AHeap.none_of_set (AHeap.none_of_set (AHeap.none_of_set (AHeap.none_of_set (AHeap.none_of_set ((by assumption)))))) | exact AHeap.none_of_set (AHeap.none_of_set (AHeap.none_of_set (AHeap.none_of_set (AHeap.none_of_set (AHeap.none_of_set ((by assumption))))))) | exact AHeap.none_of_set (AHeap.none_of_set (AHeap.none_of_set (AHeap.none_of_set (AHeap.none_of_set (AHeap.none_of_set (AHeap.none_of_set ((by assumption)))))))) | exact AHeap.none_of_set (AHeap.none_of_set (AHeap.none_of_set (AHeap.none_of_set (AHeap.none_of_set (AHeap.none_of_set (AHeap.none_of_set (AHeap.none_of_set ((by assumption))))))))) | exact AHeap.none_of_set (AHeap.none_of_set (AHeap.none_of_set (AHeap.none_of_set (AHeap.none_of_set (AHeap.none_of_set (AHeap.none_of_set (AHeap.none_of_set (AHeap.none_of_set ((by assumption)))))))))) | exact AHeap.none_of_set (AHeap.none_of_set (AHeap.none_of_set (AHeap.none_of_set (AHeap.none_of_set (AHeap.none_of_set (AHeap.none_of_set (AHeap.none_of_set (AHeap.none_of_set (AHeap.none_of_set ((by assumption))))))))))))
  have hMX : om ≠ oX := by (first | assumption | exact Ne.symm (by assumption) | exact AHeap.ne_of_fresh (by assumption) | exact Ne.symm (AHeap.ne_of_fresh (by assumption)) | exact AHeap.ne_of_fresh (AHeap.none_of_set (by assumption)) | exact Ne.symm (AHeap.ne_of_fresh (AHeap.none_of_set (by assumption))) | exact AHeap.ne_ns (by assumption) (by assumption) | exact AHeap.ne_sn (by assumption) (by assumption) | exact AHeap.ne_ns (by assumption) auto_heap2 | exact AHeap.ne_sn (by assumption) auto_heap2)
  refine aw_own_nil 4 1 (.cel []) rfl rfl (fun oL hoL => ?_)
  have hL0 : H oL = none := by (first | assumption | exact AHeap.none_of_set ((by assumption)) | exact AHeap.none_of_set (AHeap.none_of_set ((by assumption))) | exact AHeap.none_of_set (AHeap.none_of_set (AHeap.none_of_set ((by assumption)))) | exact AHeap.none_of_set (AHeap.none_of_set (AHeap.none_of_set (AHeap.none_of_set ((by assumption))))) | exact AHeap.none_of_set (AHeap.none_of_set (AHeap.none_of_set (AHeap.none_of_set (AHeap.none_of_set ((by assumption)))))) | exact AHeap.none_of_set (AHeap.none_of_set (AHeap.none_of_set (AHeap.none_of_set (AHeap.none_of_set (AHeap.none_of_set ((by assumption))))))) | exact AHeap.none_of_set (AHeap.none_of_set (AHeap.none_of_set (AHeap.none_of_set (AHeap.none_of_set (AHeap.none_of_set (AHeap.none_of_set ((by assumption)))))))) | exact AHeap.none_of_set (AHeap.none_of_set (AHeap.none_of_set (AHeap.none_of_set (AHeap.none_of_set (AHeap.none_of_set (AHeap.none_of_set (AHeap.none_of_set ((by assumption))))))))) | exact AHeap.none_of_set (AHeap.none_of_set (AHeap.none_of_set (AHeap.none_of_set (AHeap.none_of_set (AHeap.none_of_set (AHeap.none_of_set (AHeap.none_of_set (AHeap.none_of_set ((by assumption)))))))))) | exact AHeap.none_of_set (AHeap.none_of_set (AHeap.none_of_set (AHeap.none_of_set (AHeap.none_of_set (AHeap.none_of_set (AHeap.none_of_set (AHeap.none_of_set (AHeap.none_of_set (AHeap.none_of_set ((by assumption))))))))))))
  have hLM : oL ≠ om := by (first | assumption | exact Ne.symm (by assumption) | exact AHeap.ne_of_fresh (by assumption) | exact Ne.symm (AHeap.ne_of_fresh (by assumption)) | exact AHeap.ne_of_fresh (AHeap.none_of_set (by assumption)) | exact Ne.symm (AHeap.ne_of_fresh (AHeap.none_of_set (by assumption))) | exact AHeap.ne_ns (by assumption) (by assumption) | exact AHeap.ne_sn (by assumption) (by assumption) | exact AHeap.ne_ns (by assumption) auto_heap2 | exact AHeap.ne_sn (by assumption) auto_heap2)
  refine aw_loop (fun mm R1 H1 => ∃ (i oL : Nat) (a : List Bs), i ≤ v.length ∧ a.length ≤ i ∧ Hdn (a ++ ((v.drop i).filter fun v => hasB s v.name).map (·.name) = Z) ∧ H oL = none ∧ oL ≠ om ∧ H1 om = some (setA s).ao ∧ H1 oL = some (.cel (bsL a)) ∧ (∀ p y, H p = some y → H1 p = some y) ∧ R1 = [(3, .mp om), (4, .vw oL 1 0 a.length), (16, vlA v), (17, avI v.length), (18, avI i)] ∧ v.length - i = mm) ?_ ?_
  · exact ⟨_, _, _, Ent.sub _ (by (repeat' (first | exact RSub.nil _ | apply RSub.cons)); all_goals rfl), 0, oL, [], Nat.zero_le _, Nat.zero_le _, hZ, hL0, hLM, by exact auto_heap, by exact AHeap.set_self _ _ _, fun p y hp => by
      have hp3 : p ≠ oL := fun e => by rw [e, hL0] at hp; cases hp
      have hp4 : p ≠ om := fun e => by rw [e, hM0] at hp; cases hp
      have hp5 : p ≠ oX := fun e => by rw [e, hoX] at hp; cases hp
      exact auto_heap, rfl, rfl⟩
  clear hZ hoL hL0 hLM oL hom
  rintro mm R1 H1 ⟨i, oL, a, hi, hai, hZ, hL0, hLM, q1, q3, hfr, rfl, rfl⟩
  have hal := bsL_len a
  by_cases hlt : i < v.length
  · have hg : v[i]? = some v[i] := List.getElem?_eq_getElem hlt
    have hd : v.drop i = v[i] :: v.drop (i + 1) := List.drop_eq_getElem_cons hlt
    rw [hd, List.filter_cons] at hZ
    generalize v[i] = x at *
    have hsx := vr_get5 hg
    have hsg := setA_get s x.name
    clear hg hd
    generalize hasB s x.name = b at *
    cases b
    · simp only [Bool.false_eq_true, if_false] at hZ
      (first | focus (refine yy88 ?_; refine aw_condp rfl (fun hc => ?_) (fun hc => ?_); refine yy10 ?_; refine yy3 ?_; refine yy72 ?_; refine yy60 ?_; refine awl_alloc rfl rfl rfl (fun oN hoN => ?_); refine yy15 ?_; refine yy31 ?_; refine yy89 ?_; refine yy21 ?_; refine yy135 ?_; refine yy76 ?_; refine yy64 ?_; refine yy25 ?_; refine yy108 ?_; refine yy9 ?_; refine yy4 ?_; rotate_left; exact absurd hc auto_no) | fail)
      exact ⟨v.length - (i + 1), _, _, by omega, Ent.tog (by (repeat' (first | exact RSub.nil _ | apply RSub.cons)); all_goals rfl) auto_sub, i + 1, oL, a, by omega, by omega, hZ, hL0, hLM, q1, q3, hfr, rfl, rfl⟩
    · simp only [if_true, List.map_cons] at hZ
      have hZ1 : Hdn ((a ++ [x.name]) ++ ((v.drop (i + 1)).filter fun v => hasB s v.name).map (·.name) = Z) := ⟨by rw [← hZ.out, List.append_assoc]; rfl⟩
      clear hZ
      (first | focus (refine yy88 ?_; refine aw_condp rfl (fun hc => ?_) (fun hc => ?_); refine yy10 ?_; refine yy3 ?_; refine yy72 ?_; refine yy60 ?_; refine awl_alloc rfl rfl rfl (fun oN hoN => ?_); refine yy15 ?_; refine yy31 ?_; refine yy89 ?_; refine yy21 ?_; refine yy135 ?_; refine yy83 ?_; refine yy25 ?_; refine yy22 ?_; refine yy21 ?_; refine yy38 ?_; refine za4 rfl rfl rfl auto_heap auto_al auto_src auto_len auto_len (fun oN hoN => ?_); refine yy40 ?_; refine yy45 ?_; refine yy25 ?_; refine yy108 ?_; refine yy9 ?_; refine yy4 ?_; rotate_left; exact absurd hc auto_no) | fail)
      have n0 : H1 oN = none := by (first | assumption | exact AHeap.none_of_set ((by assumption)) | exact AHeap.none_of_set (AHeap.none_of_set ((by assumption))) | exact AHeap.none_of_set (AHeap.none_of_set (AHeap.none_of_set ((by assumption)))) | exact AHeap.none_of_set (AHeap.none_of_set (AHeap.none_of_set (AHeap.none_of_set ((by assumption))))) | exact AHeap.none_of_set (AHeap.none_of_set (AHeap.none_of_set (AHeap.none_of_set (AHeap.none_of_set ((by assumption)))))) | exact AHeap.none_of_set (AHeap.none_of_set (AHeap.none_of_set (AHeap.none_of_set (AHeap.none_of_set (AHeap.none_of_set ((by assumption))))))) | exact AHeap.none_of_set (AHeap.none_of_set (AHeap.none_of_set (AHeap.none_of_set (AHeap.none_of_set (AHeap.none_of_set (AHeap.none_of_set ((by assumption)))))))) | exact AHeap.none_of_set (AHeap.none_of_set (AHeap.none_of_set (AHeap.none_of_set (AHeap.none_of_set (AHeap.none_of_set (AHeap.none_of_set (AHeap.none_of_set ((by assumption))))))))) | exact AHeap.none_of_set (AHeap.none_of_set (AHeap.none_of_set (AHeap.none_of_set (AHeap.none_of_set (AHeap.none_of_set (AHeap.none_of_set (AHeap.none_of_set (AHeap.none_of_set ((by assumption)))))))))) | exact AHeap.none_of_set (AHeap.none_of_set (AHeap.none_of_set (AHeap.none_of_set (AHeap.none_of_set (AHeap.none_of_set (AHeap.none_of_set (AHeap.none_of_set (AHeap.none_of_set (AHeap.none_of_set ((by assumption))))))))))))
      have n1 : oN ≠ om := fun e => by rw [e, q1] at n0; cases n0
      have n4 : H oN = none := by
        cases e : H oN with
        | none => rfl
        | some y => rw [hfr _ _ e] at n0; cases n0
      have e1 : bsL (a ++ [x.name]) = bsL a ++ [.str x.name] := by simp only [bsL, List.map_append, List.map_cons, List.map_nil]
      have hLM2 := hLM.symm
      rename_i oV hoV
      have v0 : H1 oV = none := by (first | assumption | exact AHeap.none_of_set ((by assumption)) | exact AHeap.none_of_set (AHeap.none_of_set ((by assumption))) | exact AHeap.none_of_set (AHeap.none_of_set (AHeap.none_of_set ((by assumption)))) | exact AHeap.none_of_set (AHeap.none_of_set (AHeap.none_of_set (AHeap.none_of_set ((by assumption))))) | exact AHeap.none_of_set (AHeap.none_of_set (AHeap.none_of_set (AHeap.none_of_set (AHeap.none_of_set ((by assumption)))))) | exact AHeap.none_of_set (AHeap.none_of_set (AHeap.none_of_set (AHeap.none_of_set (AHeap.none_of_set (AHeap.none_of_set ((by assumption))))))) | exact AHeap.none_of_set (AHeap.none_of_set (AHeap.none_of_set (AHeap.none_of_set (AHeap.none_of_set (AHeap.none_of_set (AHeap.none_of_set ((by assumption)))))))) | exact AHeap.none_of_set (AHeap.none_of_set (AHeap.none_of_set (AHeap.none_of_set (AHeap.none_of_set (AHeap.none_of_set (AHeap.none_of_set (AHeap.none_of_set ((by assumption))))))))) | exact AHeap.none_of_set (AHeap.none_of_set (AHeap.none_of_set (AHeap.none_of_set (AHeap.none_of_set (AHeap.none_of_set (AHeap.none_of_set (AHeap.none_of_set (AHeap.none_of_set ((by assumption)))))))))) | exact AHeap.none_of_set (AHeap.none_of_set (AHeap.none_of_set (AHeap.none_of_set (AHeap.none_of_set (AHeap.none_of_set (AHeap.none_of_set (AHeap.none_of_set (AHeap.none_of_set (AHeap.none_of_set ((by assumption))))))))))))
      have v1 : om ≠ oV := fun e => by rw [← e, q1] at v0; cases v0
      have v4 : H oV = none := by
        cases e : H oV with
        | none => rfl
        | some y => rw [hfr _ _ e] at v0; cases v0
      exact ⟨v.length - (i + 1), [(3, .mp om), (4, .vw oN 1 0 (a ++ [x.name]).length), (16, vlA v), (17, avI v.length), (18, avI (i + 1 : Nat))], _, by omega, Ent.sub _ (by rw [List.length_append]; (repeat' (first | exact RSub.nil _ | apply RSub.cons)); all_goals rfl), i + 1, oN, a ++ [x.name], by omega, by rw [List.length_append, List.length_singleton]; omega, hZ1, n4, n1, by exact auto_heap, by rw [e1]; exact AHeap.set_self _ _ _, fun p y hp => by
        have hp2 := hfr p y hp
        have hp3 : p ≠ oN := fun e => by rw [e, n4] at hp; cases hp
        have hp4 : p ≠ oL := fun e => by rw [e, hL0] at hp; cases hp
        have hp5 : p ≠ oV := fun e => by rw [e, v4] at hp; cases hp
        exact auto_heap, rfl, rfl⟩
  · obtain rfl : i = v.length := by omega
    have hZ2 : a = Z := by rw [← hZ.out, List.drop_length]; simp
    subst hZ2
    clear hZ
    (first | focus (refine yy88 ?_; refine aw_condp rfl (fun hc => ?_) (fun hc => ?_); exact absurd hc auto_no; refine yy85 ?_; refine yy22 ?_; refine yy40 ?_; refine yy106 ?_; rotate_left) | fail)
    exact ⟨.inl rfl, _, _, _, (Ent.seal_cel (i := 2) (o := oL) (xs := bsL a) rfl auto_heap hal).trans (Ent.gc (fun p y hp => by
      have hp2 := hfr p y hp
      have hp3 : p ≠ oL := fun e => by rw [e, hL0] at hp; cases hp
      exact auto_heap)), ret1 rfl rfl, rfl, rfl⟩
end Go.Proofs.Ytmgkhfnhaeplgaa
