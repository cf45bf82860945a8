import Derived.Test.YtmgkhfnhaeplgaaTab
import Derived.Test.YtmgkhfnhaeplgaaIz
import Derived.Test.YtmgkhfnhaeplgaaAmWk
namespace Go.Proofs.Ytmgkhfnhaeplgaa
set_option linter.unusedSimpArgs false
set_option linter.unusedVariables false

/-! Words, as the reference cuts them. Plain. -/
abbrev Bs := List UInt8
structure Wd where
  kind : Nat
  text : Bs
  n : Int
  at_ : Nat
def letterB (b : UInt8) : Bool := decide (97 ≤ b.toNat) && decide (b.toNat ≤ 122)
def digitB (b : UInt8) : Bool := decide (48 ≤ b.toNat) && decide (b.toNat ≤ 57)
def kepts : List Bs := [[110, 111, 100, 101], [114, 101, 116, 117, 114, 110, 115], [118, 97, 114], [108, 101, 116], [116, 101, 108], [98, 111, 111, 108], [105, 110, 116], [116, 114, 117, 101], [102, 97, 108, 115, 101], [110, 111, 116], [97, 110, 100], [111, 114], [120, 111, 114], [109, 111, 100], [105, 102], [116, 104, 101, 110], [101, 108, 115, 101], [112, 114, 101], [102, 98, 121], [119, 104, 101, 110], [109, 101, 114, 103, 101]]
def keptB (s : Bs) : Bool := kepts.any fun k => decide (k = s)
def twos : List Bs := [[60, 61], [62, 61], [60, 62], [45, 62]]
def ones : Bs := [40, 41, 58, 59, 44, 61, 43, 45, 42, 47, 60, 62]
def signB (s : Bs) : Bs :=
  match twos.find? fun w => decide (s.take 2 = w) with
  | some w => w
  | none => match s with
    | [] => []
    | b :: _ => if ones.any (fun c => decide (b = c)) then [b] else []
def valB (s : Bs) : Nat := s.foldl (fun v b => 10 * v + (b.toNat - 48)) 0
def numB (s : Bs) : Int × Bool :=
  if 1 < s.length ∧ (s.getD 0 0).toNat = 48 ∨ 19 < s.length then (0, false)
  else (if valB s < 9223372036854775808 then (valB s : Int) else (valB s : Int) - 18446744073709551616, decide (valB s < 9223372036854775808))
inductive Cs where
  | err
  | skip (k : Nat)
  | word (kind : Nat) (n : Int) (k : Nat)
def wordc (b : UInt8) : Bool := letterB b || digitB b || decide (b.toNat = 95)
def cutStep (s : Bs) : Cs :=
  match s with
  | [] => .err
  | b :: r =>
    if b.toNat = 32 ∨ b.toNat = 9 ∨ b.toNat = 10 ∨ b.toNat = 13 then .skip 1
    else if b.toNat = 45 ∧ (s.getD 1 0).toNat = 45 then .skip (s.takeWhile fun c => !decide (c.toNat = 10)).length
    else if letterB b then
      let k := (s.takeWhile wordc).length
      if k ≤ 24 then .word (if keptB (s.take k) then 2 else 1) 0 k else .err
    else if digitB b then
      let k := (s.takeWhile digitB).length
      if (numB (s.take k)).2 then .word 3 (numB (s.take k)).1 k else .err
    else
      let k := (signB s).length
      if 0 < k then .word 4 0 k else .err
def cutF : Nat → Bs → Nat → List Wd → List Wd × Nat × Nat
  | 0, _, at_, acc => ([], 7, at_)
  | n + 1, s, at_, acc =>
    match s with
    | [] => (acc ++ [⟨0, [], 0, at_⟩], 0, 0)
    | _ :: _ => match cutStep s with
      | .err => ([], 7, at_)
      | .skip k => cutF n (s.drop k) (at_ + k) acc
      | .word kind v k => cutF n (s.drop k) (at_ + k) (acc ++ [⟨kind, s.take k, v, at_⟩])
def cut (t : Bs) : List Wd × Nat × Nat := if 16384 < t.length then ([], 2, t.length) else cutF (t.length + 1) t 0 []
end Go.Proofs.Ytmgkhfnhaeplgaa

namespace Go.Proofs.Ytmgkhfnhaeplgaa
open Go
set_option linter.unusedSimpArgs false
set_option linter.unusedVariables false

/-! Trees, as the reference reads them. Plain. -/
inductive Ex where
  | mk (op name : Bs) (n : Int) (at_ : Nat) (kids : List Ex)
def Ex0 : Ex := .mk [] [] 0 0 []
def Ex.op : Ex → Bs | .mk o _ _ _ _ => o
def Ex.name : Ex → Bs | .mk _ o _ _ _ => o
def Ex.n : Ex → Int | .mk _ _ o _ _ => o
def Ex.at_ : Ex → Nat | .mk _ _ _ o _ => o
def Ex.kids : Ex → List Ex | .mk _ _ _ _ o => o
structure Vr where
  name : Bs
  kind : Nat
  on : Bs
  not : Bool
  at_ : Nat
structure Eqn where
  name : Bs
  e : Ex
  at_ : Nat
structure Nd where
  name : Bs
  ins : List Vr
  outs : List Vr
  locs : List Vr
  eqs : List Eqn
  at_ : Nat
structure Ps where
  k : Nat
  err : Nat
  at_ : Nat
  d : Nat
  parts : Int
  names : Int
def inc (z : Int) : Int := IntKind.i64.wrap (z + 1)
def Wd0 : Wd := ⟨0, [], 0, 0⟩
section
variable (ws : List Wd)
def Ps.w (S : Ps) : Wd := ws.getD S.k Wd0
def Ps.fail (S : Ps) (e : Nat) : Ps := if S.err = 0 then { S with err := e, at_ := (S.w ws).at_ } else S
def Ps.is (S : Ps) (s : Bs) : Bool := decide (S.err = 0) && (decide ((S.w ws).kind = 2) || decide ((S.w ws).kind = 4)) && decide ((S.w ws).text = s)
def Ps.step (S : Ps) : Ps := { S with k := S.k + 1 }
def Ps.take (S : Ps) (s : Bs) : Bool × Ps := if S.is ws s then (true, S.step) else (false, S)
def Ps.want (S : Ps) (s : Bs) : Ps := if S.is ws s then S.step else S.fail ws 7
def Ps.name (S : Ps) : Bs × Ps := if S.err ≠ 0 ∨ (S.w ws).kind ≠ 1 then ([], S.fail ws 7) else ((S.w ws).text, S.step)
def Ps.inn (S : Ps) : Bool × Ps := if S.err ≠ 0 then (false, S) else if 30 ≤ S.d then (false, S.fail ws 2) else (true, { S with d := S.d + 1 })
def Ps.out (S : Ps) : Ps := { S with d := S.d - 1 }
def Ps.part (S : Ps) : Ps :=
  let T := if S.err = 0 ∧ 300 ≤ S.parts then S.fail ws 2 else S
  { T with parts := inc T.parts }

/-- What one level deeper does. -/
structure Lv where
  arrow : Ps → Ex × Ps
  fby : Ps → Ex × Ps
  un : Ps → Ex × Ps
  prim : Ps → Ex × Ps
def deep (f : Ps → Ex × Ps) (S : Ps) : Ex × Ps :=
  if (S.inn ws).1 then let r := f (S.inn ws).2; (r.1, r.2.out) else (Ex0, (S.inn ws).2)
def argsF (expr : Ps → Ex × Ps) : Nat → List Ex → Ps → List Ex × Ps
  | 0, acc, S => (acc, S)
  | m + 1, acc, S =>
    if S.err = 0 then
      let r := expr S
      let t := r.2.take ws ([44] : Bs)
      if t.1 then argsF expr m (acc ++ [r.1]) t.2 else (acc ++ [r.1], t.2)
    else (acc, S)
def primP (S : Ps) : Ps := if (S.w ws).kind = 1 ∨ (S.w ws).kind = 3 ∨ S.is ws ([116, 114, 117, 101] : Bs) ∨ S.is ws ([102, 97, 108, 115, 101] : Bs) ∨ S.is ws ([105, 102] : Bs) ∨ S.is ws ([109, 101, 114, 103, 101] : Bs) then S.part ws else S
/-- A name, or a call. -/
def primV (nx : Lv) (at_ : Nat) (S : Ps) : Ex × Ps :=
  let s := S.name ws
  if s.2.is ws ([40] : Bs) then
    if s.2.step.is ws ([41] : Bs) then (.mk ([99, 97, 108, 108] : Bs) s.1 0 at_ [], s.2.step.step)
    else
      let r := argsF ws (deep ws nx.arrow) (ws.length + 3) [] s.2.step
      (.mk ([99, 97, 108, 108] : Bs) s.1 0 at_ r.1, r.2.want ws ([41] : Bs))
  else (.mk ([118, 97, 114] : Bs) s.1 0 at_ [], s.2)
def primG (nx : Lv) (w : Wd) (S : Ps) : Ex × Ps :=
  if S.err = 0 ∧ w.kind = 3 then (.mk ([105, 110, 116] : Bs) [] w.n w.at_ [], S.step)
  else if S.is ws ([116, 114, 117, 101] : Bs) then (.mk ([98, 111, 111, 108] : Bs) [] 1 w.at_ [], S.step)
  else if S.is ws ([102, 97, 108, 115, 101] : Bs) then (.mk ([98, 111, 111, 108] : Bs) [] 0 w.at_ [], S.step)
  else if S.is ws ([105, 102] : Bs) then
    let a := deep ws nx.arrow S.step
    let b := deep ws nx.arrow (a.2.want ws ([116, 104, 101, 110] : Bs))
    let c := deep ws nx.arrow (b.2.want ws ([101, 108, 115, 101] : Bs))
    (.mk ([105, 102] : Bs) [] 0 w.at_ [a.1, b.1, c.1], c.2)
  else if S.is ws ([109, 101, 114, 103, 101] : Bs) then
    let s := S.step.name ws
    let a := deep ws nx.prim s.2
    let b := deep ws nx.prim a.2
    (.mk ([109, 101, 114, 103, 101] : Bs) s.1 0 w.at_ [a.1, b.1], b.2)
  else primV ws nx w.at_ S
def primF (nx : Lv) (S : Ps) : Ex × Ps :=
  if S.is ws ([40] : Bs) then
    let r := deep ws nx.arrow S.step
    (r.1, r.2.want ws ([41] : Bs))
  else primG ws nx (S.w ws) (primP ws S)
def unOp (S : Ps) : Bs := if S.is ws ([110, 111, 116] : Bs) then ([110, 111, 116] : Bs) else if S.is ws ([45] : Bs) then ([110, 101, 103] : Bs) else if S.is ws ([112, 114, 101] : Bs) then ([112, 114, 101] : Bs) else []
def unF (nx : Lv) (S : Ps) : Ex × Ps :=
  if unOp ws S = [] then primF ws nx S
  else if (S.part ws).err ≠ 0 then (Ex0, S.part ws)
  else if ((S.part ws).step.inn ws).1 then
    let r := nx.un ((S.part ws).step.inn ws).2
    (.mk (unOp ws S) [] 0 (S.w ws).at_ [r.1], r.2.out)
  else (Ex0, ((S.part ws).step.inn ws).2)
def whenL : Nat → Ex → Ps → Ex × Ps
  | 0, a, S => (a, S)
  | m + 1, a, S =>
    if S.is ws ([119, 104, 101, 110] : Bs) then
      let t := ((S.part ws).take ws ([119, 104, 101, 110] : Bs)).2.take ws ([110, 111, 116] : Bs)
      let s := t.2.name ws
      whenL m (.mk ([119, 104, 101, 110] : Bs) s.1 (if t.1 then 0 else 1) (S.w ws).at_ [a]) s.2
    else (a, S)
def whenF (nx : Lv) (S : Ps) : Ex × Ps :=
  let r := unF ws nx S
  whenL ws (ws.length + 3) r.1 r.2
def fbyF (nx : Lv) (S : Ps) : Ex × Ps :=
  let a := whenF ws nx S
  if a.2.is ws ([102, 98, 121] : Bs) then
    let T := ((a.2.part ws).take ws ([102, 98, 121] : Bs)).2.inn ws
    if T.1 then
      let b := nx.fby T.2
      (.mk ([102, 98, 121] : Bs) [] 0 (a.2.w ws).at_ [a.1, b.1], b.2.out)
    else (Ex0, T.2)
  else a
def opsOf : Nat → List Bs
  | 0 => [([111, 114] : Bs), ([120, 111, 114] : Bs)]
  | 1 => [([97, 110, 100] : Bs)]
  | 2 => [([61] : Bs), ([60, 62] : Bs), ([60] : Bs), ([60, 61] : Bs), ([62] : Bs), ([62, 61] : Bs)]
  | 3 => [([43] : Bs), ([45] : Bs)]
  | _ => [([42] : Bs), ([47] : Bs), ([109, 111, 100] : Bs)]
def opAt (level : Nat) (S : Ps) : Bs := (opsOf level).foldl (fun op s => if S.is ws s then s else op) []
def rowL (level : Nat) (nr : Ps → Ex × Ps) : Nat → Ex → Ps → Ex × Ps
  | 0, a, S => (a, S)
  | m + 1, a, S =>
    if opAt ws level S = [] then (a, S)
    else
      let b := nr ((S.part ws).take ws (opAt ws level S)).2
      let e := Ex.mk (opAt ws level S) [] 0 (S.w ws).at_ [a, b.1]
      if level = 2 then (e, b.2) else rowL level nr m e b.2
/-- rowF nx m: at level 5 - m. -/
def rowF (nx : Lv) : Nat → Ps → Ex × Ps
  | 0, S => fbyF ws nx S
  | m + 1, S =>
    let a := rowF nx m S
    rowL ws (4 - m) (rowF nx m) (ws.length + 3) a.1 a.2
def arrowF (nx : Lv) (S : Ps) : Ex × Ps :=
  let a := rowF ws nx 5 S
  if a.2.is ws ([45, 62] : Bs) then
    let T := ((a.2.part ws).take ws ([45, 62] : Bs)).2.inn ws
    if T.1 then
      let b := nx.arrow T.2
      (.mk ([45, 62] : Bs) [] 0 (a.2.w ws).at_ [a.1, b.1], b.2.out)
    else (Ex0, T.2)
  else a
def mkLv (nx : Lv) : Lv := ⟨arrowF ws nx, fbyF ws nx, unF ws nx, primF ws nx⟩
def Lv0 : Lv := ⟨fun S => (Ex0, S), fun S => (Ex0, S), fun S => (Ex0, S), fun S => (Ex0, S)⟩
/-- lv n: with n levels left. -/
def lv : Nat → Lv
  | 0 => mkLv ws Lv0
  | n + 1 => mkLv ws (lv n)
def exprF (S : Ps) : Ex × Ps := deep ws (lv ws (29 - S.d)).arrow S

def declL : Nat → List Vr → Ps → Option (List Vr) × Ps
  | 0, acc, S => (some acc, S)
  | m + 1, acc, S =>
    if S.err = 0 then
      if (S.w ws).kind = 1 ∧ S.names = 64 then (none, S.fail ws 2)
      else
        let s := S.name ws
        let T := { s.2 with names := inc s.2.names }
        let t := T.take ws ([44] : Bs)
        let acc := acc ++ [⟨s.1, 0, [], false, (S.w ws).at_⟩]
        if t.1 then declL m acc t.2 else (some acc, t.2)
    else (some acc, S)
def declF (S : Ps) : List Vr × Ps :=
  match declL ws (ws.length + 3) [] S with
  | (none, T) => ([], T)
  | (some l, T) =>
    let T := T.want ws ([58] : Bs)
    let k := if T.is ws ([98, 111, 111, 108] : Bs) then 1 else 2
    let U := if T.is ws ([98, 111, 111, 108] : Bs) then T.step else T.want ws ([105, 110, 116] : Bs)
    (l.map fun v => { v with kind := k }, U)
def declsL : Nat → List Vr → Ps → List Vr × Ps
  | 0, acc, S => (acc, S)
  | m + 1, acc, S =>
    if S.is ws ([59] : Bs) then
      let r := declF ws S.step
      declsL m (acc ++ r.1) r.2
    else (acc, S)
def declsF (S : Ps) : List Vr × Ps :=
  if S.is ws ([41] : Bs) then ([], S) else
    let r := declF ws S
    declsL ws (ws.length + 3) r.1 r.2
def localsL : Nat → List Vr → Ps → List Vr × Ps
  | 0, acc, S => (acc, S)
  | m + 1, acc, S =>
    if S.err = 0 then
      let r := declF ws S
      let c := if r.2.is ws ([119, 104, 101, 110] : Bs) then
          let t := r.2.step.take ws ([110, 111, 116] : Bs)
          let s := t.2.name ws
          (r.1.map fun v => { v with on := s.1, not := t.1 }, s.2)
        else r
      let acc := acc ++ c.1
      if c.2.is ws ([59] : Bs) ∧ (c.2.step.w ws).kind = 1 then localsL m acc c.2.step else (acc, c.2)
    else (acc, S)
def localsF (S : Ps) : List Vr × Ps := if S.is ws ([59] : Bs) then ([], S) else localsL ws (ws.length + 3) [] S
def eqsL : Nat → List Eqn → Ps → List Eqn × Ps
  | 0, acc, S => (acc, S)
  | m + 1, acc, S =>
    if S.err = 0 ∧ (S.w ws).kind = 1 then
      let s := S.name ws
      let r := exprF ws { (s.2.want ws ([61] : Bs)) with parts := 0 }
      eqsL m (acc ++ [⟨s.1, r.1, (S.w ws).at_⟩]) (r.2.want ws ([59] : Bs))
    else (acc, S)
def nodeF (S : Ps) : Nd × Ps :=
  let s := ({ S with names := 0 }.want ws ([110, 111, 100, 101] : Bs)).name ws
  let i := declsF ws (s.2.want ws ([40] : Bs))
  let o := declsF ws (((i.2.want ws ([41] : Bs)).want ws ([114, 101, 116, 117, 114, 110, 115] : Bs)).want ws ([40] : Bs))
  let T := (o.2.want ws ([41] : Bs)).want ws ([59] : Bs)
  let l := if T.is ws ([118, 97, 114] : Bs) then
      let r := localsF ws T.step
      (r.1, r.2.want ws ([59] : Bs))
    else ([], T)
  let q := eqsL ws (ws.length + 3) [] (l.2.want ws ([108, 101, 116] : Bs))
  (⟨s.1, i.1, o.1, l.1, q.1, (S.w ws).at_⟩, ((q.2.want ws ([116, 101, 108] : Bs)).take ws ([59] : Bs)).2)
def nodesL : Nat → List Nd → Ps → List Nd × Ps
  | 0, acc, S => (acc, S)
  | m + 1, acc, S =>
    if S.err = 0 ∧ (acc.isEmpty = true ∨ (S.w ws).kind ≠ 0) then
      if acc.length = 32 then (acc, S.fail ws 2)
      else
        let r := nodeF ws S
        nodesL m (acc ++ [r.1]) r.2
    else (acc, S)
end
def parse (t : Bs) : List Nd × Nat × Nat :=
  let c := cut t
  if c.2.1 ≠ 0 then ([], c.2)
  else
    let r := nodesL c.1 40 [] ⟨0, 0, 0, 0, 0, 0⟩
    if r.2.err ≠ 0 then ([], r.2.err, r.2.at_) else (r.1, 0, 0)
end Go.Proofs.Ytmgkhfnhaeplgaa

namespace Go.Proofs.Ytmgkhfnhaeplgaa
open Go
set_option linter.unusedSimpArgs false
set_option linter.unusedVariables false

/-! The reference's parser, plain: what its states keep. -/
structure WsOk (ws : List Wd) : Prop where
  len : ws.length ≤ 20000
  last : ∃ l w, ws = l ++ [w] ∧ w.kind = 0 ∧ w.text = []
section
variable {ws : List Wd}
theorem WsOk.kind {k : Nat} (h : WsOk ws) (hk : k < ws.length) (h0 : (ws.getD k Wd0).kind ≠ 0) : k + 1 < ws.length := by
  obtain ⟨l, w, rfl, hw, _⟩ := h.last
  rw [List.length_append, List.length_singleton] at hk ⊢
  refine Nat.lt_of_not_le fun hge => h0 ?_
  have : k = l.length := by omega
  subst this
  rw [List.getD_eq_getElem?_getD, List.getElem?_append_right (Nat.le_refl _)]
  simpa using hw
/-- What a step of the parser keeps. -/
structure Tr (ws : List Wd) (S T : Ps) : Prop where
  d : T.d = S.d
  k : S.k ≤ T.k
  kl : T.k < ws.length
  e : S.err ≠ 0 → T.err ≠ 0
theorem Tr.refl {S : Ps} (h : S.k < ws.length) : Tr ws S S := ⟨rfl, Nat.le_refl _, h, id⟩
theorem Tr.trans {S T U : Ps} (h : Tr ws S T) (k : Tr ws T U) : Tr ws S U := ⟨k.d.trans h.d, Nat.le_trans h.k k.k, k.kl, fun e => k.e (h.e e)⟩
theorem Tr.fail {S : Ps} {e : Nat} (he : e ≠ 0) (h : S.k < ws.length) : Tr ws S (S.fail ws e) := by
  unfold Ps.fail
  split
  · exact ⟨rfl, Nat.le_refl _, h, fun _ => he⟩
  · exact .refl h
theorem fail_err {S : Ps} {e : Nat} (he : e ≠ 0) : (S.fail ws e).err ≠ 0 := by
  unfold Ps.fail
  split
  · exact he
  · assumption
theorem is_kind {S : Ps} {s : Bs} (h : S.is ws s = true) : S.err = 0 ∧ (S.w ws).kind ≠ 0 ∧ (S.w ws).text = s := by
  simp only [Ps.is, Bool.and_eq_true, Bool.or_eq_true, decide_eq_true_eq] at h
  obtain ⟨⟨h1, h2⟩, h3⟩ := h
  exact ⟨h1, by omega, h3⟩
theorem Tr.step {S : Ps} (hw : WsOk ws) (h : S.k < ws.length) (h0 : (S.w ws).kind ≠ 0) : Tr ws S S.step := ⟨rfl, Nat.le_succ _, hw.kind h h0, id⟩
theorem Tr.take {S : Ps} {s : Bs} (hw : WsOk ws) (h : S.k < ws.length) : Tr ws S (S.take ws s).2 := by
  unfold Ps.take
  split
  · rename_i hs; exact .step hw h (is_kind hs).2.1
  · exact .refl h
theorem Tr.want {S : Ps} {s : Bs} (hw : WsOk ws) (h : S.k < ws.length) : Tr ws S (S.want ws s) := by
  unfold Ps.want
  split
  · rename_i hs; exact .step hw h (is_kind hs).2.1
  · exact .fail (by decide) h
theorem Tr.name {S : Ps} (hw : WsOk ws) (h : S.k < ws.length) : Tr ws S (S.name ws).2 := by
  unfold Ps.name
  split
  · exact .fail (by decide) h
  · rename_i hn; exact .step hw h (by omega)
theorem Tr.part {S : Ps} (h : S.k < ws.length) : Tr ws S (S.part ws) := by
  unfold Ps.part
  by_cases hc : S.err = 0 ∧ 300 ≤ S.parts
  · simp only [if_pos hc]
    have := Tr.fail (ws := ws) (S := S) (e := 2) (by decide) h
    exact ⟨this.d, this.k, this.kl, this.e⟩
  · simp only [if_neg hc]
    exact ⟨rfl, Nat.le_refl _, h, id⟩
/-- A reader that keeps what a step keeps, at states of a depth. -/
def Good (ws : List Wd) (d : Nat) (f : Ps → Ex × Ps) : Prop := ∀ S, S.k < ws.length → S.d = d → Tr ws S (f S).2
theorem tr_deep {S : Ps} {f : Ps → Ex × Ps} {d : Nat} (hf : d < 30 → Good ws (d + 1) f) (h : S.k < ws.length) (hd : S.d = d) : Tr ws S (deep ws f S).2 := by
  unfold deep Ps.inn
  by_cases he : S.err ≠ 0
  · simp only [if_pos he]; exact .refl h
  · simp only [if_neg he]
    by_cases h30 : 30 ≤ S.d
    · simp only [if_pos h30]; exact .fail (by decide) h
    · simp only [if_neg h30, if_true]
      have := hf (by omega) { S with d := S.d + 1 } h (by rw [← hd])
      exact ⟨by show (f _).2.d - 1 = _; rw [this.d]; rfl, this.k, this.kl, this.e⟩
structure GoodLv (ws : List Wd) (d : Nat) (nx : Lv) : Prop where
  arrow : Good ws d nx.arrow
  fby : Good ws d nx.fby
  un : Good ws d nx.un
  prim : Good ws d nx.prim
theorem tr_args {expr : Ps → Ex × Ps} {d : Nat} (hw : WsOk ws) (he : Good ws d expr) : ∀ (m : Nat) (acc : List Ex) (S : Ps), S.k < ws.length → S.d = d → Tr ws S (argsF ws expr m acc S).2
  | 0, acc, S, h, hd => .refl h
  | m + 1, acc, S, h, hd => by
    unfold argsF
    by_cases h0 : S.err = 0
    · simp only [if_pos h0]
      have h1 := he S h hd
      have h2 := h1.trans (.take (s := [44]) hw h1.kl)
      split
      · exact h2.trans (tr_args hw he m _ _ h2.kl (h2.d.trans hd))
      · exact h2
    · simp only [if_neg h0]; exact .refl h
theorem Tr.primP {S : Ps} (h : S.k < ws.length) : Tr ws S (primP ws S) ∧ (Go.Proofs.Ytmgkhfnhaeplgaa.primP ws S).k = S.k := by
  unfold Go.Proofs.Ytmgkhfnhaeplgaa.primP
  split
  · refine ⟨.part h, ?_⟩
    unfold Ps.part Ps.fail; split <;> simp
    split <;> rfl
  · exact ⟨.refl h, rfl⟩
theorem tr_primV {nx : Lv} {d at_ : Nat} (hw : WsOk ws) (hx : d < 30 → GoodLv ws (d + 1) nx) : Good ws d (primV ws nx at_) := fun T h hd => by
  unfold primV
  simp only
  have h1 := Tr.name hw h
  split
  · rename_i hc
    have h2 := h1.trans (.step hw h1.kl (is_kind hc).2.1)
    split
    · rename_i hc2; exact h2.trans (.step hw h2.kl (is_kind hc2).2.1)
    · have h3 := h2.trans (tr_args hw (d := d) (fun T hk hd => tr_deep (fun z => (hx z).arrow) hk hd) (ws.length + 3) [] _ h2.kl (h2.d.trans hd))
      exact h3.trans (.want hw h3.kl)
  · exact h1
theorem tr_primG {nx : Lv} {d : Nat} {w : Wd} (hw : WsOk ws) (hx : d < 30 → GoodLv ws (d + 1) nx) (T : Ps) (h : T.k < ws.length) (hd : T.d = d) (hk : T.w ws = w) : Tr ws T (primG ws nx w T).2 := by
  have hD : ∀ {f : Ps → Ex × Ps} (hf : d < 30 → Good ws (d + 1) f) {U : Ps}, Tr ws T U → Tr ws T (deep ws f U).2 := fun {f} hf {U} hT => hT.trans (tr_deep hf hT.kl (hT.d.trans hd))
  unfold primG
  simp only
  split
  · rename_i hc
    exact .step hw h (by rw [hk]; omega)
  split
  · rename_i hc; exact .step hw h (is_kind hc).2.1
  split
  · rename_i hc; exact .step hw h (is_kind hc).2.1
  split
  · rename_i hc
    have h1 := Tr.step hw h (is_kind hc).2.1
    have h2 := hD (fun z => (hx z).arrow) h1
    have h3 := hD (fun z => (hx z).arrow) (h2.trans (.want (s := ([116, 104, 101, 110] : Bs)) hw h2.kl))
    exact hD (fun z => (hx z).arrow) (h3.trans (.want (s := ([101, 108, 115, 101] : Bs)) hw h3.kl))
  split
  · rename_i hc
    have h1 := Tr.step hw h (is_kind hc).2.1
    have h2 := hD (fun z => (hx z).prim) (h1.trans (.name hw h1.kl))
    exact hD (fun z => (hx z).prim) h2
  · exact tr_primV hw hx T h hd
theorem tr_prim {nx : Lv} {d : Nat} (hw : WsOk ws) (hx : d < 30 → GoodLv ws (d + 1) nx) : Good ws d (primF ws nx) := fun S h hd => by
  unfold primF
  simp only
  split
  · rename_i hp
    have h1 := Tr.step hw h (is_kind hp).2.1
    have h2 := h1.trans (tr_deep (fun z => (hx z).arrow) h1.kl (h1.d.trans hd))
    exact h2.trans (.want hw h2.kl)
  · obtain ⟨h1, h2⟩ := Tr.primP (S := S) h
    exact h1.trans (tr_primG hw hx _ h1.kl (h1.d.trans hd) (by unfold Ps.w; rw [h2]))
theorem tr_un {nx : Lv} {d : Nat} (hw : WsOk ws) (hx : d < 30 → GoodLv ws (d + 1) nx) : Good ws d (unF ws nx) := fun S h hd => by
  unfold unF
  split
  · exact tr_prim hw hx S h hd
  · rename_i hu
    have h1 := Tr.part (ws := ws) h
    split
    · exact h1
    · rename_i he
      have hk : ((S.part ws).w ws).kind ≠ 0 := by
        have hk : (S.part ws).k = S.k := by
          unfold Ps.part Ps.fail; split <;> simp
          split <;> rfl
        unfold Ps.w; rw [hk]
        unfold unOp at hu
        split at hu
        · rename_i hc; exact (is_kind hc).2.1
        split at hu
        · rename_i hc; exact (is_kind hc).2.1
        split at hu
        · rename_i hc; exact (is_kind hc).2.1
        · exact absurd rfl hu
      have h2 := h1.trans (.step hw h1.kl hk)
      have h3 := tr_deep (fun z => (hx z).un) h2.kl (h2.d.trans hd)
      unfold deep at h3
      split
      · rename_i hi; simp only [if_pos hi] at h3; exact h2.trans h3
      · rename_i hi; simp only [if_neg hi] at h3; exact h2.trans h3
theorem tr_whenL (hw : WsOk ws) : ∀ (m : Nat) (a : Ex) (S : Ps), S.k < ws.length → Tr ws S (whenL ws m a S).2
  | 0, a, S, h => .refl h
  | m + 1, a, S, h => by
    unfold whenL
    split
    · have h1 := Tr.part (ws := ws) h
      have h2 := h1.trans (.take (s := ([119, 104, 101, 110] : Bs)) hw h1.kl)
      have h3 := h2.trans (.take (s := ([110, 111, 116] : Bs)) hw h2.kl)
      have h4 := h3.trans (.name hw h3.kl)
      exact h4.trans (tr_whenL hw m _ _ h4.kl)
    · exact .refl h
theorem tr_when {nx : Lv} {d : Nat} (hw : WsOk ws) (hx : d < 30 → GoodLv ws (d + 1) nx) : Good ws d (whenF ws nx) := fun S h hd => by
  have h1 := tr_un hw hx S h hd
  exact h1.trans (tr_whenL hw _ _ _ h1.kl)
theorem tr_inn {f : Ps → Ex × Ps} {d : Nat} {T S : Ps} (hf : d < 30 → Good ws (d + 1) f) (h : Tr ws S T) (hd : S.d = d) : ((T.inn ws).1 = true → Tr ws S (f (T.inn ws).2).2.out) ∧ ((T.inn ws).1 = false → Tr ws S (T.inn ws).2) := by
  have h3 := tr_deep hf h.kl (h.d.trans hd)
  unfold deep at h3
  refine ⟨fun hi => ?_, fun hi => ?_⟩
  · simp only [if_pos hi] at h3; exact h.trans h3
  · rw [if_neg (by rw [hi]; decide)] at h3; exact h.trans h3
theorem tr_fby {nx : Lv} {d : Nat} (hw : WsOk ws) (hx : d < 30 → GoodLv ws (d + 1) nx) : Good ws d (fbyF ws nx) := fun S h hd => by
  have h1 := tr_when hw hx S h hd
  unfold fbyF
  generalize whenF ws nx S = a at *
  simp only
  split
  · have h2 := h1.trans (.part h1.kl)
    have h3 := h2.trans (.take (s := ([102, 98, 121] : Bs)) hw h2.kl)
    have h4 := tr_inn (fun z => (hx z).fby) h3 hd
    split
    · rename_i hi; exact h4.1 hi
    · rename_i hi; exact h4.2 (by simpa using hi)
  · exact h1
theorem tr_rowL {nr : Ps → Ex × Ps} {d level : Nat} (hw : WsOk ws) (hn : Good ws d nr) : ∀ (m : Nat) (a : Ex) (S : Ps), S.k < ws.length → S.d = d → Tr ws S (rowL ws level nr m a S).2
  | 0, a, S, h, hd => .refl h
  | m + 1, a, S, h, hd => by
    unfold rowL
    split
    · exact .refl h
    · have h1 := Tr.part (ws := ws) h
      have h2 := h1.trans (.take (s := opAt ws level S) hw h1.kl)
      have h3 := h2.trans (hn _ h2.kl (h2.d.trans hd))
      simp only
      split
      · exact h3
      · exact h3.trans (tr_rowL hw hn m _ _ h3.kl (h3.d.trans hd))
theorem tr_row {nx : Lv} {d : Nat} (hw : WsOk ws) (hx : d < 30 → GoodLv ws (d + 1) nx) : ∀ m, Good ws d (rowF ws nx m)
  | 0 => tr_fby hw hx
  | m + 1 => fun S h hd => by
    have h1 := tr_row hw hx m S h hd
    exact h1.trans (tr_rowL hw (tr_row hw hx m) _ _ _ h1.kl (h1.d.trans hd))
theorem tr_arrow {nx : Lv} {d : Nat} (hw : WsOk ws) (hx : d < 30 → GoodLv ws (d + 1) nx) : Good ws d (arrowF ws nx) := fun S h hd => by
  have h1 := tr_row hw hx 5 S h hd
  unfold arrowF
  generalize rowF ws nx 5 S = a at *
  simp only
  split
  · have h2 := h1.trans (.part h1.kl)
    have h3 := h2.trans (.take (s := ([45, 62] : Bs)) hw h2.kl)
    have h4 := tr_inn (fun z => (hx z).arrow) h3 hd
    split
    · rename_i hi; exact h4.1 hi
    · rename_i hi; exact h4.2 (by simpa using hi)
  · exact h1
theorem good_mk (hw : WsOk ws) {nx : Lv} {d : Nat} (hx : d < 30 → GoodLv ws (d + 1) nx) : GoodLv ws d (mkLv ws nx) := by
  have h1 := tr_arrow hw hx
  have h2 := tr_fby hw hx
  have h3 := tr_un hw hx
  have h4 := tr_prim hw hx
  unfold mkLv
  generalize arrowF ws nx = f1 at *
  generalize fbyF ws nx = f2 at *
  generalize unF ws nx = f3 at *
  generalize primF ws nx = f4 at *
  exact ⟨h1, h2, h3, h4⟩
theorem good_lv (hw : WsOk ws) (n : Nat) : ∀ d, d + n = 30 → GoodLv ws d (lv ws n) := by
  induction n with
  | zero =>
    intro d hd
    rw [lv]; exact good_mk hw (nx := Lv0) (fun z => absurd z (by omega))
  | succ n ih =>
    intro d hd
    rw [lv]; exact good_mk hw (nx := lv ws n) (fun z => ih (d + 1) (by omega))
theorem good_expr (hw : WsOk ws) (S : Ps) (h : S.k < ws.length) (hd : S.d ≤ 29) : Tr ws S (exprF ws S).2 :=
  tr_deep (d := S.d) (fun z => (good_lv hw (29 - S.d) (S.d + 1) (by omega)).arrow) h rfl
end
end Go.Proofs.Ytmgkhfnhaeplgaa

namespace Go.Proofs.Ytmgkhfnhaeplgaa
open Go Go.Am Go.Proofs
set_option linter.unusedSimpArgs false
set_option linter.unusedVariables false
set_option maxRecDepth 20000
set_option maxHeartbeats 4000000

/-! Words: the reference's. -/
structure Hdn (p : Prop) : Prop where
  out : p
abbrev avI (v : Int) : AV := .raw (.int .i64 v)
abbrev avB (b : Bool) : AV := .raw (.bool b)
theorem letter_calls (H : AHeap) (b : UInt8) : ACalls Try.prog 58 [.raw (.int .u8 (b.toNat : Int))] H fun r H' => r = avB (letterB b) ∧ H' = H := by
  have hb : b.toNat < 256 := UInt8.toNat_lt _
  unfold letterB
  generalize b.toNat = x at *
  refine acalls_of_aw1 Try.func58 rfl (by decide) ?_
  (first | focus (refine yy15 ?_; refine yy19 ?_; refine yy129 ?_; refine yy7 ?_; refine zg1 rfl rfl rfl (fun hc => ?_) (fun hc => ?_); refine yy18 ?_; refine yy132 ?_; refine yy69 ?_; refine yy41 ?_; rotate_left; refine yy53 ?_; refine yy41 ?_; rotate_left) | fail)
  · exact ⟨.inl rfl, _, _, _, Ent.refl _ _, ret1 rfl rfl, congrArg avB (show decide (x ≤ 122) = (decide (97 ≤ x) && decide (x ≤ 122)) by simp [hc]), rfl⟩
  · exact ⟨.inl rfl, _, _, _, Ent.refl _ _, ret1 rfl rfl, congrArg avB (show false = (decide (97 ≤ x) && decide (x ≤ 122)) by simp [hc]), rfl⟩
theorem digit_calls (H : AHeap) (b : UInt8) : ACalls Try.prog 59 [.raw (.int .u8 (b.toNat : Int))] H fun r H' => r = avB (digitB b) ∧ H' = H := by
  have hb : b.toNat < 256 := UInt8.toNat_lt _
  unfold digitB
  generalize b.toNat = x at *
  refine acalls_of_aw1 Try.func59 rfl (by decide) ?_
  (first | focus (refine yy15 ?_; refine yy19 ?_; refine yy129 ?_; refine yy7 ?_; refine zg1 rfl rfl rfl (fun hc => ?_) (fun hc => ?_); refine yy18 ?_; refine yy132 ?_; refine yy69 ?_; refine yy41 ?_; rotate_left; refine yy53 ?_; refine yy41 ?_; rotate_left) | fail)
  · exact ⟨.inl rfl, _, _, _, Ent.refl _ _, ret1 rfl rfl, congrArg avB (show decide (x ≤ 57) = (decide (48 ≤ x) && decide (x ≤ 57)) by simp [hc]), rfl⟩
  · exact ⟨.inl rfl, _, _, _, Ent.refl _ _, ret1 rfl rfl, congrArg avB (show false = (decide (48 ≤ x) && decide (x ≤ 57)) by simp [hc]), rfl⟩
theorem Kept_calls (H : AHeap) (s : Bs) : ACalls Try.prog 60 [.str s] H fun r H' => r = avB (keptB s) ∧ H' = H := by
  refine acalls_of_aw1 Try.func60 rfl (by decide) ?_
  (first | focus (refine yy15 ?_; refine yy2 ?_; refine yy37 ?_; refine awl_s rfl (s_assign (v := .slsx _ _) rfl) ?_; refine yy42 ?_; refine yy71 ?_; rotate_left) | fail)
  refine aw_loop (fun mm R' H2 => ∃ (i : Nat), i ≤ kepts.length ∧ H2 = H ∧ (∀ k ∈ kepts.take i, k ≠ s) ∧ R' = [(0, .str s), (3, .sls kepts.length (kepts.map .str)), (4, .raw (.int .i64 (i : Int)))] ∧ kepts.length - i = mm) ?_ ?_
  · exact ⟨kepts.length, [(0, .str s), (3, .sls kepts.length (kepts.map .str)), (4, .raw (.int .i64 ((0 : Nat) : Int)))], _, Ent.tow (by (repeat' (first | exact RSubW.nil _ | apply RSubW.cons)); all_goals (first | exact W.of rfl | exact W.slsx rfl)) rfl, 0, Nat.zero_le _, rfl, fun k hk => (by simp at hk), rfl, rfl⟩
  rintro mm R0 H2 ⟨i, hi, rfl, hw, rfl, rfl⟩
  have hL : kepts.length = 21 := rfl
  have hml : (kepts.map AV.str).length = kepts.length := List.length_map ..
  have hkb : keptB s = true ↔ s ∈ kepts := by unfold keptB; simp
  generalize kepts = ks at *
  by_cases hlt : i < ks.length
  · have hg : ks[i]? = some ks[i] := List.getElem?_eq_getElem hlt
    have hm := List.getElem_mem hlt
    generalize ks[i] = e at *
    (first | focus (refine yy45 ?_; refine aw_condp rfl (fun hc => ?_) (fun hc => ?_); refine yy13 ?_; refine yy76 ?_; refine yy47 ?_; refine yy43 ?_; refine yy111 ?_; refine yy4 ?_; refine aw_condp rfl (fun hc => ?_) (fun hc => ?_); refine yy92 ?_; refine yy33 ?_; refine yy102 ?_; rotate_left; refine yy39 ?_; refine yy22 ?_; rotate_left; exact absurd hc auto_no) | fail)
    · exact ⟨.inl rfl, _, _, _, Ent.refl _ _, ret1 rfl rfl, congrArg avB (show true = keptB s from (hkb.2 (hc ▸ hm)).symm), rfl⟩
    · refine ⟨ks.length - (i + 1), _, _, by omega, Ent.sub _ (by (repeat' (first | exact RSub.nil _ | apply RSub.cons)); all_goals rfl), i + 1, by omega, rfl, fun k hk => ?_, rfl, rfl⟩
      rw [List.take_add_one, hg] at hk
      rcases List.mem_append.1 hk with h | h
      · exact hw k h
      · rw [show k = e by simpa using h]; exact hc
  · (first | focus (refine yy45 ?_; refine yy34 ?_; intro hc; refine yy92 ?_; rotate_left) | fail)
    refine ⟨.inl rfl, _, _, _, Ent.refl _ _, ret1 rfl rfl, congrArg avB (show false = keptB s from ?_), rfl⟩
    rw [List.take_of_length_le (by omega)] at hw
    cases e : keptB s with
    | false => rfl
    | true => exact absurd rfl (hw s (hkb.1 e))
theorem find_at {ks : List Bs} {x e : Bs} {i : Nat} (hw : ∀ k ∈ ks.take i, x ≠ k) (hg : ks[i]? = some e) (h : x = e) : ks.find? (fun w => decide (x = w)) = some e := by
  have hlt := (List.getElem?_eq_some_iff.1 hg).1
  have e1 : ks = ks.take i ++ e :: ks.drop (i + 1) := by
    have := (List.take_append_drop i ks).symm
    rw [List.drop_eq_getElem_cons hlt, (List.getElem?_eq_some_iff.1 hg).2] at this
    exact this
  have h1 : (ks.take i).find? (fun w => decide (x = w)) = none := List.find?_eq_none.2 fun k hk => by simp [hw k hk]
  rw [e1, List.find?_append, h1, List.find?_cons_of_pos (by simp [h])]
  rfl
theorem find_no {ks : List Bs} {x : Bs} (hw : ∀ k ∈ ks, x ≠ k) : ks.find? (fun w => decide (x = w)) = none := List.find?_eq_none.2 fun k hk => by simp [hw k hk]
theorem sign_calls (H : AHeap) (s : Bs) (hs : s ≠ []) (hl : s.length ≤ 2000000) : ACalls Try.prog 62 [.str s] H fun r H' => r = .str (signB s) ∧ H' = H := by
  refine acalls_of_aw1 Try.func62 rfl (by decide) ?_
  obtain ⟨b, r, rfl⟩ : ∃ b r, s = b :: r := by cases s with | nil => exact absurd rfl hs | cons b r => exact ⟨b, r, rfl⟩
  generalize hsv : b :: r = s at *
  have hlen : 1 ≤ s.length := by rw [← hsv]; simp
  have hget : s.getD 0 0 = b := by rw [← hsv]; rfl
  (first | focus (refine yy2 ?_; refine yy72 ?_; refine yy16 ?_; refine yy37 ?_; refine awl_s rfl (s_assign (v := .slsx _ _) rfl) ?_; refine yy42 ?_; refine yy71 ?_; rotate_left) | fail)
  refine aw_loop (fun mm R' H2 => ∃ (i : Nat), i ≤ twos.length ∧ H2 = H ∧ (∀ k ∈ twos.take i, s.take 2 ≠ k) ∧ R' = [(0, .str s), (3, .sls twos.length (twos.map .str)), (4, .raw (.int .i64 (i : Int)))] ∧ twos.length - i = mm) ?_ ?_
  · exact ⟨twos.length, [(0, .str s), (3, .sls twos.length (twos.map .str)), (4, .raw (.int .i64 ((0 : Nat) : Int)))], _, Ent.tow (by (repeat' (first | exact RSubW.nil _ | apply RSubW.cons)); all_goals (first | exact W.of rfl | exact W.slsx rfl)) rfl, 0, Nat.zero_le _, rfl, fun k hk => (by simp at hk), rfl, rfl⟩
  rintro mm R0 H2 ⟨i, hi, rfl, hw, rfl, rfl⟩
  have hL : twos.length = 4 := rfl
  have hml : (twos.map AV.str).length = twos.length := List.length_map ..
  have hsg : signB s = match twos.find? fun w => decide (s.take 2 = w) with
    | some w => w
    | none => if ones.any (fun c => decide (b = c)) then [b] else [] := by rw [← hsv]; rfl
  have ht2 : ∀ k ∈ twos, k.length = 2 := by decide
  generalize twos = ks at *
  by_cases hlt : i < ks.length
  · have hg : ks[i]? = some ks[i] := List.getElem?_eq_getElem hlt
    have hm := List.getElem_mem hlt
    generalize ks[i] = e at *
    by_cases h2 : 2 ≤ s.length
    · have htk : (s.drop 0).take (2 - 0) = s.take 2 := rfl
      (first | focus (refine yy45 ?_; refine aw_condp rfl (fun hc => ?_) (fun hc => ?_); refine yy13 ?_; refine yy73 ?_; (apply awt_s; · exact s_move (v := .str _) rfl); (apply awt_s; · exact s_len_str rfl); (apply awt_s; · exact s_gen rfl rfl); (apply awt_s; · exact s_move (v := .raw _) rfl); refine zt1 rfl rfl rfl (fun hc => ?_) (fun hc => ?_); (apply awt_s; · exact s_move (v := .str _) rfl); refine yy3 ?_; (apply awt_s; · exact s_slice_str rfl auto_bnd auto_bnd auto_len auto_len); refine yy3 ?_; (apply awt_s; · exact s_move (v := .sls _ _) rfl); refine yy3 ?_; (apply awt_s; · exact s_move (v := .raw _) rfl); refine yy3 ?_; (apply awt_s; · exact s_indexAddr_sls rfl rfl auto_len); refine yy3 ?_; (apply awt_s; · exact s_load_pce rfl auto_idx); refine yy3 ?_; (apply awt_s; · exact s_streq rfl rfl); (apply awt_s; · exact s_pick_t (v := .raw _) rfl rfl); refine yy77 ?_; refine aw_condp rfl (fun hc => ?_) (fun hc => ?_); refine yy76 ?_; refine yy47 ?_; refine yy43 ?_; refine yy72 ?_; refine yy108 ?_; refine yy33 ?_; refine yy102 ?_; rotate_left; refine yy39 ?_; refine yy22 ?_; rotate_left; exact absurd hc auto_no; exact absurd hc auto_no) | fail)
      · rw [htk] at hc
        rw [find_at hw hg hc] at hsg
        exact ⟨.inl rfl, _, _, _, Ent.refl _ _, ret1 rfl rfl, by rw [hsg]; rfl, rfl⟩
      · refine ⟨ks.length - (i + 1), _, _, by omega, Ent.sub _ (by (repeat' (first | exact RSub.nil _ | apply RSub.cons)); all_goals rfl), i + 1, by omega, rfl, fun k hk => ?_, rfl, rfl⟩
        rw [List.take_add_one, hg] at hk
        rcases List.mem_append.1 hk with h | h
        · exact hw k h
        · rw [show k = e by simpa using h]; exact hc
    · (first | focus (refine yy45 ?_; refine aw_condp rfl (fun hc => ?_) (fun hc => ?_); refine yy13 ?_; refine yy73 ?_; (apply awt_s; · exact s_move (v := .str _) rfl); (apply awt_s; · exact s_len_str rfl); (apply awt_s; · exact s_gen rfl rfl); (apply awt_s; · exact s_move (v := .raw _) rfl); refine zt1 rfl rfl rfl (fun hc => ?_) (fun hc => ?_); exact absurd hc auto_no; refine yy64 ?_; refine yy131 ?_; (apply awt_s; · exact s_pick_f (v := .raw _) rfl rfl); refine yy77 ?_; refine aw_cond_f rfl ?_; refine yy39 ?_; refine yy22 ?_; rotate_left; exact absurd hc auto_no) | fail)
      refine ⟨ks.length - (i + 1), _, _, by omega, Ent.sub _ (by (repeat' (first | exact RSub.nil _ | apply RSub.cons)); all_goals rfl), i + 1, by omega, rfl, fun k hk => ?_, rfl, rfl⟩
      rw [List.take_add_one, hg] at hk
      rcases List.mem_append.1 hk with h | h
      · exact hw k h
      · rw [show k = e by simpa using h]
        intro e2
        have := ht2 e hm
        rw [← e2, List.length_take] at this
        omega
  · rw [List.take_of_length_le (by omega)] at hw
    rw [find_no hw] at hsg
    simp only at hsg
    (first | focus (refine yy45 ?_; refine yy34 ?_; intro hc; refine yy2 ?_; refine yy72 ?_; refine yy42 ?_; refine yy71 ?_; rotate_left) | fail)
    refine aw_loop (fun mm R' H3 => ∃ (j : Nat), j ≤ ones.length ∧ H3 = H2 ∧ (∀ k ∈ ones.take j, b ≠ k) ∧ R' = [(0, .str s), (5, .str ones), (6, .raw (.int .i64 (j : Int)))] ∧ ones.length - j = mm) ?_ ?_
    · exact ⟨ones.length, _, _, Ent.sub _ (by (repeat' (first | exact RSub.nil _ | apply RSub.cons)); all_goals rfl), 0, Nat.zero_le _, rfl, fun k hk => (by simp at hk), rfl, rfl⟩
    rintro mm R0 H3 ⟨j, hj, rfl, hw2, rfl, rfl⟩
    have hL2 : ones.length = 12 := rfl
    have hoa : (ones.any fun c => decide (b = c)) = true ↔ b ∈ ones := by simp
    generalize ones = os at *
    by_cases hlt : j < os.length
    · have hg : os.getD j 0 = os[j] := by rw [List.getD_eq_getElem?_getD, List.getElem?_eq_getElem hlt]; rfl
      have hg2 : os[j]? = some os[j] := List.getElem?_eq_getElem hlt
      have hm := List.getElem_mem hlt
      generalize os[j] = e at *
      (first | focus (refine yy9 ?_; refine yy59 ?_; refine yy49 ?_; refine aw_condp rfl (fun hc => ?_) (fun hc => ?_); refine yy13 ?_; refine yy73 ?_; (apply awt_s; · exact s_move (v := .str _) rfl); (apply awt_s; · exact s_index_str rfl rfl auto_len); (apply awt_s; · exact s_move (v := .str _) rfl); (apply awt_s; · exact s_move (v := .raw _) rfl); (apply awt_s; · exact s_index_str rfl rfl auto_len); (apply awt_s; · exact s_eqn rfl rfl); refine yy77 ?_; refine aw_condp rfl (fun hc => ?_) (fun hc => ?_); refine yy2 ?_; refine yy116 ?_; refine yy84 ?_; refine yy72 ?_; refine yy108 ?_; refine yy33 ?_; refine yy102 ?_; rotate_left; refine yy39 ?_; refine yy22 ?_; rotate_left; exact absurd hc auto_no) | fail)
      · rw [hget, hg] at hc
        have hbe := UInt8.toNat_inj.1 hc
        rw [if_pos (hoa.2 (hbe ▸ hm))] at hsg
        exact ⟨.inl rfl, _, _, _, Ent.refl _ _, ret1 rfl rfl, by rw [hsg, ← hsv]; rfl, rfl⟩
      · rw [hget, hg] at hc
        refine ⟨os.length - (j + 1), _, _, by omega, Ent.sub _ (by (repeat' (first | exact RSub.nil _ | apply RSub.cons)); all_goals rfl), j + 1, by omega, rfl, fun k hk => ?_, rfl, rfl⟩
        rw [List.take_add_one, hg2] at hk
        rcases List.mem_append.1 hk with h | h
        · exact hw2 k h
        · rw [show k = e by simpa using h]
          intro e2; exact hc (by rw [e2])
    · (first | focus (refine yy9 ?_; refine yy59 ?_; refine yy49 ?_; refine yy34 ?_; intro hc; refine yy2 ?_; refine yy72 ?_; refine yy108 ?_; rotate_left) | fail)
      rw [List.take_of_length_le (by omega)] at hw2
      rw [if_neg (fun h => hw2 b (hoa.1 h) rfl)] at hsg
      exact ⟨.inl rfl, _, _, _, Ent.refl _ _, ret1 rfl rfl, by rw [hsg]; rfl, rfl⟩
theorem valB_snoc (s : Bs) (b : UInt8) : valB (s ++ [b]) = 10 * valB s + (b.toNat - 48) := by simp [valB]
theorem valB_take {s : Bs} (h : ∀ b ∈ s, digitB b = true) : ∀ i, i ≤ s.length → valB (s.take i) < 10 ^ i
  | 0, _ => by simp [valB]
  | i + 1, hi => by
    have ih := valB_take h i (by omega)
    have hg : s[i]? = some s[i] := List.getElem?_eq_getElem (by omega)
    have h2 := h s[i] (List.getElem_mem _)
    simp only [digitB, Bool.and_eq_true, decide_eq_true_eq] at h2
    rw [List.take_add_one, hg, Option.toList_some, valB_snoc, Nat.pow_succ]
    omega
theorem u8_sub48 {x : Nat} (h : 48 ≤ x) (h2 : x < 256) : IntKind.u8.wrap ((x : Int) - 48) = ((x - 48 : Nat) : Int) := by
  simp only [IntKind.wrap, IntKind.bits, IntKind.signed]
  simp
  omega
theorem u64_i64 {x : Nat} (h : x < 18446744073709551616) : IntKind.i64.wrap (x : Int) = if x < 9223372036854775808 then (x : Int) else (x : Int) - 18446744073709551616 := by
  simp only [IntKind.wrap, IntKind.bits, IntKind.signed]
  have hm : (x : Int) % 2 ^ 64 = x := Int.emod_eq_of_lt (by omega) (by omega)
  simp only [hm]
  by_cases hx : x < 9223372036854775808
  · have h1 : ¬ ((x : Int) ≥ 2 ^ (64 - 1)) := by omega
    simp only [if_pos hx, decide_eq_false h1]; rfl
  · have h1 : ((x : Int) ≥ 2 ^ (64 - 1)) := by omega
    simp only [if_neg hx, decide_eq_true h1]; rfl
theorem number_calls (H : AHeap) (s : Bs) (hd : ∀ b ∈ s, digitB b = true) (hl : s.length ≤ 2000000) : ACalls Try.prog 61 [.str s] H fun r H' => r = .tup [avI (numB s).1, avB (numB s).2] ∧ H' = H := by
  refine acalls_of_aw1 Try.func61 rfl (by decide) ?_
  unfold numB
  by_cases hbad : 1 < s.length ∧ (s.getD 0 0).toNat = 48 ∨ 19 < s.length
  · rw [if_pos hbad]
    (first | focus (refine yy2 ?_; refine yy21 ?_; refine yy6 ?_; refine yy38 ?_; refine yy59 ?_; refine yy123 ?_; refine yy7 ?_; refine zg1 rfl rfl rfl (fun hc => ?_) (fun hc => ?_); refine yy86 ?_; refine yy74 ?_; refine yy96 ?_; refine yy117 ?_; refine zg2 rfl rfl rfl (fun hc => ?_) (fun hc => ?_); refine yy50 ?_; refine yy112 ?_; refine yy2 ?_; refine yy21 ?_; refine yy41 ?_; refine k_seq_ret ?_; rotate_left; refine yy86 ?_; refine yy133 ?_; refine yy5 ?_; refine yy123 ?_; refine yy63 ?_; refine yy4 ?_; refine aw_condp rfl (fun hc => ?_) (fun hc => ?_); refine yy2 ?_; refine yy21 ?_; refine yy41 ?_; refine k_seq_ret ?_; rotate_left; exact absurd hc auto_no; exact absurd hc auto_no) | fail)
    all_goals first | exact ⟨.inl rfl, _, _, _, Ent.refl _ _, ret2 rfl rfl rfl, rfl, rfl⟩ | (exfalso; omega) | trace_state
  rw [if_neg hbad]
  have h19 : s.length ≤ 19 := by omega
  (first | focus (refine yy2 ?_; refine yy21 ?_; refine yy6 ?_; refine yy38 ?_; refine yy59 ?_; refine yy123 ?_; refine yy7 ?_; refine zg1 rfl rfl rfl (fun hc => ?_) (fun hc => ?_); refine yy86 ?_; refine yy74 ?_; refine yy96 ?_; refine yy117 ?_; refine zg2 rfl rfl rfl (fun hc => ?_) (fun hc => ?_); exact absurd hc auto_no; refine yy86 ?_; refine yy133 ?_; refine yy5 ?_; refine yy123 ?_; refine yy63 ?_; refine yy4 ?_; refine yy60 ?_; intro hc; refine yy15 ?_; refine yy38 ?_; refine yy71 ?_; rotate_left; refine yy50 ?_; refine yy63 ?_; refine yy18 ?_; refine yy86 ?_; refine yy133 ?_; refine yy5 ?_; refine yy123 ?_; refine yy63 ?_; refine yy4 ?_; refine yy60 ?_; intro hc; refine yy15 ?_; refine yy38 ?_; refine yy71 ?_; rotate_left) | fail)
  all_goals try (exfalso; omega)
  all_goals (
    refine aw_loop (fun mm R' H2 => ∃ (i : Nat), i ≤ s.length ∧ H2 = H ∧ R' = [(0, .str s), (4, .raw (.int .u64 (valB (s.take i) : Int))), (5, .raw (.int .i64 (i : Int)))] ∧ s.length - i = mm) ?_ ?_
    · exact ⟨s.length, _, _, Ent.sub _ (by (repeat' (first | exact RSub.nil _ | apply RSub.cons)); all_goals rfl), 0, Nat.zero_le _, rfl, rfl, rfl⟩
    rintro mm R0 H2 ⟨i, hi, rfl, rfl, rfl⟩
    have hv := valB_take hd i hi
    have hv2 : (10 : Nat) ^ i ≤ 10 ^ 19 := Nat.pow_le_pow_right (by decide) (by omega)
    have hv3 : valB (s.take i) < 10000000000000000000 := Nat.lt_of_lt_of_le hv hv2
    by_cases hlt : i < s.length
    · have hv4 : (10 : Nat) ^ i ≤ 10 ^ 18 := Nat.pow_le_pow_right (by decide) (by omega)
      have hv5 : valB (s.take i) < 1000000000000000000 := Nat.lt_of_lt_of_le hv hv4
      have hg : s[i]? = some s[i] := List.getElem?_eq_getElem hlt
      have hg2 : s.getD i 0 = s[i] := by rw [List.getD_eq_getElem?_getD, hg]; rfl
      have h2 := hd s[i] (List.getElem_mem _)
      simp only [digitB, Bool.and_eq_true, decide_eq_true_eq] at h2
      have hst : valB (s.take (i + 1)) = 10 * valB (s.take i) + (s[i].toNat - 48) := by rw [List.take_add_one, hg, Option.toList_some, valB_snoc]
      generalize s[i] = e at *
      have hst := Hdn.mk hst
      clear hv hv2 hv4
      (first | focus (refine yy9 ?_; refine yy59 ?_; refine yy49 ?_; refine aw_condp rfl (fun hc => ?_) (fun hc => ?_); refine yy13 ?_; refine yy78 ?_; refine awl_s rfl (s_mulu rfl rfl auto_len) ?_; refine yy97 ?_; refine yy74 ?_; rotate_left; exact absurd hc auto_no) | fail)
      rw [hg2]
      refine awl_s rfl (s_sub (k := .u8) rfl rfl) ?_
      rw [u8_sub48 h2.1 (by omega)]
      (first | focus (refine awl_s rfl (s_convn rfl (by omega)) ?_; refine awl_s rfl (s_addu rfl rfl auto_len) ?_; refine yy14 ?_; refine yy22 ?_; rotate_left) | fail)
      rw [← hst.out]
      exact ⟨s.length - (i + 1), _, _, by omega, Ent.sub _ (by (repeat' (first | exact RSub.nil _ | apply RSub.cons)); all_goals rfl), i + 1, by omega, rfl, rfl, rfl⟩
    · rw [List.take_of_length_le (by omega)] at hv3 ⊢
      (first | focus (refine yy9 ?_; refine yy59 ?_; refine yy49 ?_; refine yy34 ?_; intro hc; refine yy19 ?_; rotate_left) | fail)
      refine awl_s rfl (s_conv (k' := .i64) rfl) ?_
      rw [u64_i64 (by omega)]
      (first | focus (refine yy7 ?_; refine yy119 ?_; refine yy21 ?_; refine yy41 ?_; rotate_left) | fail)
      exact ⟨.inl rfl, _, _, _, Ent.refl _ _, ret2 rfl rfl rfl, rfl, rfl⟩)
end Go.Proofs.Ytmgkhfnhaeplgaa

namespace Go.Proofs.Ytmgkhfnhaeplgaa
open Go Go.Am Go.Proofs
set_option linter.unusedSimpArgs false
set_option linter.unusedVariables false
set_option maxRecDepth 20000
set_option maxHeartbeats 8000000

section
variable {P : Program} {n : Nat} {K : Exit → Regs → AHeap → Prop} {R : Regs} {H : AHeap} {ops : Array Oper} {rest : List Oper} {ty : TypeId} {d : Tmp} {pos : String} {af : Array Edge}
/-- make of no element. -/
theorem awl_make0 {t e sz bytes : Nat} {z : Value} [hT : SliceT P t e sz bytes z] {x y : Operand} {kl kc : IntKind} (hdn : Nat.blt d n = true) (hx : reval R x = .raw (.int kl 0)) (hy : reval R y = .raw (.int kc 0))
    (hk : ∀ o', H o' = none → AWL P n ops rest K ((d, .vw o' sz 0 0) :: R) (H.set o' (.cel []))) :
    AWL P n ops (⟨some d, .makeSlice t x y, ty, pos, af, none⟩ :: rest) K R H := by
  exact awl_step rfl rfl hdn fun g a w hp => by
    have hv := rv hp hx
    have hu := rv hp hy
    simp only [Rep] at hv hu
    obtain ⟨inf, i1, i2, i3, i4⟩ := hT.info
    have hr := run_make (P := P) w t e inf _ hT.h i1 i2 kl kc 0 0 (by omega) (by omega) (by simp) (by omega)
    simp only [Int.toNat_zero, Nat.zero_mul] at hr
    obtain ⟨o', ho', hl'⟩ := hp.sim.fresh
    refine ⟨.slice (some ⟨w.heap.size, 0, none⟩) 0 0, w.alloc (.cells (madeCells z.cells 0) e), _, .vw o' sz 0 0, _, ?_, g.le_at hl' ⟨w.heap.size, 0, (madeCells z.cells 0).size⟩, ?_,
      hp.sim.new (w' := w.alloc (.cells (madeCells z.cells 0) e)) (x := .cel []) ⟨rfl, rfl, rfl⟩ rfl (unfrozen00 _) hl' ⟨by simp [size_madeCells], by simp only [RepAt]⟩, hk o' ho'⟩
    · simp only [execOp, hv, hu, Sem.run_bind, hr, Result.andThen_ok, Sem.run_pure]
    · simp only [Rep]
      exact .inl ⟨_, 0, Gh.at_self _ _ _, rfl, Nat.le_refl _, by simp [size_madeCells]⟩
end
/-! A text, cut into words. -/
def Wd.cells (w : Wd) : List AV := [avI w.kind, .str w.text, avI w.n, avI w.at_]
abbrev wdsA (l : List Wd) : AV := .sls l.length (l.flatMap Wd.cells)
theorem wds_len (l : List Wd) : (l.flatMap Wd.cells).length = l.length * 4 := by
  induction l with
  | nil => rfl
  | cons x l ih => rw [List.flatMap_cons, List.length_append, ih, List.length_cons]; show 4 + _ = _; omega
theorem tw_lt {p : UInt8 → Bool} : ∀ {s : Bs} {j : Nat}, j < (s.takeWhile p).length → ∃ c, s[j]? = some c ∧ p c = true
  | [], j, h => by simp at h
  | b :: s, j, h => by
    by_cases hb : p b = true
    · cases j with
      | zero => exact ⟨b, rfl, hb⟩
      | succ j =>
        rw [List.takeWhile_cons_of_pos hb, List.length_cons] at h
        exact tw_lt (s := s) (by omega)
    · rw [List.takeWhile_cons_of_neg hb] at h; simp at h
theorem tw_eq {p : UInt8 → Bool} : ∀ {s : Bs}, (s.takeWhile p).length < s.length → ∃ c, s[(s.takeWhile p).length]? = some c ∧ p c = false
  | [], h => by simp at h
  | b :: s, h => by
    by_cases hb : p b = true
    · rw [List.takeWhile_cons_of_pos hb, List.length_cons] at h ⊢
      exact tw_eq (s := s) (by simpa using h)
    · rw [List.takeWhile_cons_of_neg hb]
      exact ⟨b, rfl, by simpa using hb⟩
theorem tw_le {p : UInt8 → Bool} (s : Bs) : (s.takeWhile p).length ≤ s.length := (List.takeWhile_sublist p).length_le
theorem tw_take {p : UInt8 → Bool} (s : Bs) : s.take (s.takeWhile p).length = s.takeWhile p := by
  induction s with
  | nil => rfl
  | cons b r ih =>
    by_cases hb : p b = true
    · rw [List.takeWhile_cons_of_pos hb, List.length_cons, List.take_succ_cons, ih]
    · rw [List.takeWhile_cons_of_neg hb]; rfl
theorem tw_mem {p : UInt8 → Bool} : ∀ {s : Bs} {b : UInt8}, b ∈ s.takeWhile p → p b = true
  | [], _, h => by simp at h
  | c :: s, b, h => by
    by_cases hb : p c = true
    · rw [List.takeWhile_cons_of_pos hb] at h
      rcases List.mem_cons.1 h with rfl | h
      · exact hb
      · exact tw_mem h
    · rw [List.takeWhile_cons_of_neg hb] at h; simp at h
theorem signB_le (s : Bs) : (signB s).length ≤ s.length := by
  unfold signB
  split
  · rename_i w h
    have h1 := List.find?_some h
    have h2 := List.mem_of_find?_eq_some h
    have h3 : ∀ k ∈ twos, k.length = 2 := by decide
    have := h3 w h2
    rw [← of_decide_eq_true h1, List.length_take] at this ⊢
    omega
  · split
    · simp
    · split <;> simp
theorem drop_get {t : Bs} {a j : Nat} {c : UInt8} (h : (t.drop a)[j]? = some c) : t[a + j]? = some c ∧ t.getD (a + j) 0 = c := by
  rw [List.getElem?_drop] at h
  exact ⟨h, by rw [List.getD_eq_getElem?_getD, h]; rfl⟩
theorem wordc_false {b : UInt8} (h1 : letterB b = false) (h2 : digitB b = false) (h3 : ¬ b.toNat = 95) : wordc b = false := by
  simp only [wordc, h1, h2, decide_eq_false h3]; rfl
theorem wordc_no {b : UInt8} (h : wordc b = false) : letterB b = false ∧ digitB b = false ∧ ¬ b.toNat = 95 := by
  simpa [wordc, and_assoc] using h
theorem cutF_word {m : Nat} {s : Bs} {at_ : Nat} {acc : List Wd} {kind k : Nat} {v : Int} (hs : s ≠ []) (h : cutStep s = .word kind v k) : cutF (m + 1) s at_ acc = cutF m (s.drop k) (at_ + k) (acc ++ [⟨kind, s.take k, v, at_⟩]) := by
  cases s with
  | nil => exact absurd rfl hs
  | cons b r => simp only [cutF, h]
theorem cutF_skip {m : Nat} {s : Bs} {at_ : Nat} {acc : List Wd} {k : Nat} (hs : s ≠ []) (h : cutStep s = .skip k) : cutF (m + 1) s at_ acc = cutF m (s.drop k) (at_ + k) acc := by
  cases s with
  | nil => exact absurd rfl hs
  | cons b r => simp only [cutF, h]
theorem cutF_err {m : Nat} {s : Bs} {at_ : Nat} {acc : List Wd} (hs : s ≠ []) (h : cutStep s = .err) : cutF (m + 1) s at_ acc = ([], 7, at_) := by
  cases s with
  | nil => exact absurd rfl hs
  | cons b r => simp only [cutF, h]
def cutA (x : List Wd × Nat × Nat) : AV := .tup [wdsA x.1, .agg [avI x.2.1, avI x.2.2]]
theorem leafHeap {H H2 : AHeap} {oB oL oW oN : Nat} {W X Z : AO} (hfr : ∀ p y, H p = some y → H2 p = some y) (q1 : H2 oB = some Z) (hoL : H oL = none) (hne : oL ≠ oB) (hoW : H2 oW = none) (hoN : (H2.set oW W) oN = none) :
    (((H2.set oW W).erase oL).set oN X) oB = some Z ∧ (((H2.set oW W).erase oL).set oN X) oN = some X ∧ H oN = none ∧ oN ≠ oB ∧ ∀ p y, H p = some y → (((H2.set oW W).erase oL).set oN X) p = some y := by
  have n2 := AHeap.none_of_set hoN
  have g : ∀ p y, H2 p = some y → p ≠ oL → (((H2.set oW W).erase oL).set oN X) p = some y := fun p y h1 h2 =>
    AHeap.get_skip (fun e => by rw [e, n2] at h1; cases h1) (AHeap.get_unerase h2 ((AHeap.get_set_ne _ (fun e => by rw [e, hoW] at h1; cases h1)).trans h1))
  refine ⟨g _ _ q1 hne.symm, AHeap.set_self _ _ _, ?_, (fun e => by rw [e, q1] at n2; cases n2), fun p y hp => g p y (hfr p y hp) (fun e => by rw [e, hoL] at hp; cases hp)⟩
  cases e : H oN with
  | none => rfl
  | some y => rw [hfr _ _ e] at n2; cases n2
theorem leafEnd {H H2 : AHeap} {oB oL oN : Nat} {X Y Z : AO} (hfr : ∀ p y, H p = some y → H2 p = some y) (hoB : H oB = none) (hoL : H oL = none) (q1 : H2 oB = some Z) (hoN : H2 oN = none) :
    (((H2.erase oL).set oN X).set oB Y) oN = some X ∧ ((((H2.erase oL).set oN X).set oB Y).erase oN) oB = some Y ∧ ∀ p y, H p = some y → p ≠ oB ∧ ((((H2.erase oL).set oN X).set oB Y).erase oN) p = some y := by
  have h1 : oN ≠ oB := fun e => by rw [e, q1] at hoN; cases hoN
  refine ⟨(AHeap.get_set_ne _ h1).trans (AHeap.set_self _ _ _), AHeap.get_unerase h1.symm (AHeap.set_self _ _ _), fun p y hp => ?_⟩
  have h2 : p ≠ oB := fun e => by rw [e, hoB] at hp; cases hp
  have h3 : p ≠ oN := fun e => by have := hfr _ _ hp; rw [e, hoN] at this; cases this
  have h4 : p ≠ oL := fun e => by rw [e, hoL] at hp; cases hp
  exact ⟨h2, AHeap.get_unerase h3 ((AHeap.get_set_ne _ h2).trans ((AHeap.get_set_ne _ h3).trans (AHeap.get_unerase h4 (hfr _ _ hp))))⟩
theorem leafHs {H H2 : AHeap} {oB oW : Nat} {X Y : AO} (hfr : ∀ p y, H p = some y → H2 p = some y) (hoB : H oB = none) (hoW : H2 oW = none) : ∀ p y, H p = some y → p ≠ oB ∧ ((H2.set oW X).set oB Y) p = some y := fun p y hp => by
  have h1 : p ≠ oB := fun e => by rw [e, hoB] at hp; cases hp
  refine ⟨h1, (AHeap.get_set_ne _ h1).trans ((AHeap.get_set_ne _ (fun e => ?_)).trans (hfr _ _ hp))⟩
  have := hfr _ _ hp
  rw [e, hoW] at this; cases this
end Go.Proofs.Ytmgkhfnhaeplgaa

namespace Go.Proofs.Ytmgkhfnhaeplgaa
open Go Go.Am Go.Proofs
set_option linter.unusedSimpArgs false
set_option linter.unusedVariables false
set_option maxRecDepth 20000
set_option maxHeartbeats 8000000

/-! A text, cut into words: the walk. -/
theorem Cut_calls (H : AHeap) (t : Bs) (hl : t.length ≤ 2000000) : ACalls Try.prog 38 [.str t] H fun r H' => r = cutA (cut t) ∧ H' = H := by
  refine acalls_of_aw1 Try.func38 rfl (by decide) ?_
  unfold cut
  by_cases hbig : 16384 < t.length
  · rw [if_pos hbig]
    (first | focus (refine yy2 ?_; refine yy21 ?_; refine awl_alloc rfl rfl rfl (fun oN hoN => ?_); refine yy42 ?_; refine yy59 ?_; refine yy123 ?_; refine yy4 ?_; refine aw_condp rfl (fun hc => ?_) (fun hc => ?_); refine yy2 ?_; refine yy59 ?_; refine yy20 ?_; refine yy21 ?_; refine yy11 ?_; refine yy108 ?_; refine k_seq_ret ?_; rotate_left; exact absurd hc auto_no) | fail)
    all_goals try (exfalso; omega)
    exact ⟨.inl rfl, _, _, _, (Ent.cellRet 3 [avI 2, avI (t.length : Nat)] rfl auto_heap (by ((repeat' (first | exact WC.nil | apply WC.cons)); all_goals (first | exact W.of rfl | exact W.int rfl | exact W.nilb rfl | exact W.empb rfl | exact W.bysx rfl | exact W.nils rfl | exact W.emps rfl | exact W.slsx rfl))) auto_hs).trans (Ent.weakReg 2 rfl (W.nils rfl)), ret_2 rfl (rv1_tmp rfl) (rv1_agg (m := 2) rfl rfl rfl (by decide)), rfl, rfl⟩
  rw [if_neg hbig]
  have hl2 : t.length ≤ 16384 := by omega
  (first | focus (refine yy2 ?_; refine yy21 ?_; refine awl_alloc rfl rfl rfl (fun oN hoN => ?_); refine yy42 ?_; refine yy59 ?_; refine yy123 ?_; refine yy4 ?_; refine yy60 ?_; intro hc; refine yy2 ?_; rotate_left) | fail)
  all_goals try (exfalso; omega)
  have hoB := hoN
  generalize oN = oB at *
  refine awl_make0 rfl rfl rfl (fun oL hoL => ?_)
  (first | focus (refine yy40 ?_; refine yy4 ?_; refine yy15 ?_; refine yy105 ?_; rotate_left) | fail)
  refine aw_loop (fun mm R' H2 => ∃ (a oL m : Nat) (acc : List Wd), a ≤ t.length ∧ t.length - a < m ∧ cutF m (t.drop a) a acc = cutF (t.length + 1) t 0 [] ∧ acc.length ≤ a ∧ (H2 oB = some (.cel [avI 0, avI 0]) ∧ H2 oL = some (.cel (acc.flatMap Wd.cells)) ∧ H oL = none ∧ oL ≠ oB ∧ ∀ p y, H p = some y → H2 p = some y) ∧ R' = [(0, .str t), (2, .raw (.slice none 0 0)), (3, .ptr oB 0), (4, .vw oL 4 0 acc.length), (5, .raw (.int .i64 (a : Int)))] ∧ t.length - a = mm) ?_ ?_
  · exact ⟨t.length, _, _, Ent.sub _ (by (repeat' (first | exact RSub.nil _ | apply RSub.cons)); all_goals rfl), 0, oL, t.length + 1, [], Nat.zero_le _, by omega, rfl, Nat.le_refl _, ⟨auto_heap, AHeap.set_self _ _ _, AHeap.none_of_set hoL, AHeap.ne_of_fresh hoL, fun p y hp => auto_heap⟩, rfl, rfl⟩
  clear hoL oL
  rintro mm R0 H2 ⟨a, oL, m, acc, ha, hm, hF, hacc, ⟨q1, q2, hoL, hne, hfr⟩, rfl, rfl⟩
  by_cases hlt : a < t.length
  · obtain ⟨m, rfl⟩ : ∃ m', m = m' + 1 := ⟨m - 1, by omega⟩
    have hsl : (t.drop a).length = t.length - a := List.length_drop
    have hsn : t.drop a ≠ [] := fun e => by rw [e] at hsl; simp at hsl; omega
    have hcs : t.drop a = t[a] :: t.drop (a + 1) := List.drop_eq_getElem_cons hlt
    have hgd : t.getD a 0 = t[a] := by rw [List.getD_eq_getElem?_getD, List.getElem?_eq_getElem hlt]; rfl
    have hg1 : t.getD (a + 1) 0 = (t.drop a).getD 1 0 := by rw [List.getD_eq_getElem?_getD, List.getD_eq_getElem?_getD, List.getElem?_drop]
    generalize t[a] = b at *
    obtain rfl := hgd
    replace hF := Hdn.mk hF
    have hcs' := Hdn.mk hcs
    clear hcs
    have hbl : (t.getD a 0).toNat < 256 := UInt8.toNat_lt _
    by_cases hw : (t.getD a 0).toNat = 32 ∨ (t.getD a 0).toNat = 9 ∨ (t.getD a 0).toNat = 10 ∨ (t.getD a 0).toNat = 13
    · have hst : cutStep (t.drop a) = .skip 1 := by rw [hcs'.out]; simp only [cutStep, if_pos hw]
      have hF2 := (cutF_skip hsn hst).symm.trans hF.out
      rw [List.drop_drop] at hF2
      replace hF2 := Hdn.mk hF2
      rcases hw with hw | hw | hw | hw
      all_goals (
        (first | focus (refine yy9 ?_; refine yy59 ?_; refine yy49 ?_; refine aw_condp rfl (fun hc => ?_) (fun hc => ?_); refine yy51 ?_; refine yy2 ?_; refine yy97 ?_; refine yy74 ?_; refine yy6 ?_; refine yy9 ?_; refine yy17 ?_; refine zg2 rfl rfl rfl (fun hc => ?_) (fun hc => ?_); refine yy120 ?_; refine yy117 ?_; refine yy50 ?_; refine yy117 ?_; refine yy50 ?_; refine yy112 ?_; refine yy2 ?_; refine yy31 ?_; refine yy6 ?_; refine aw_exit ?_; refine yy134 ?_; rotate_left; exact absurd hc auto_no; exact absurd hc auto_no) | focus (refine yy9 ?_; refine yy59 ?_; refine yy49 ?_; refine aw_condp rfl (fun hc => ?_) (fun hc => ?_); refine yy51 ?_; refine yy2 ?_; refine yy97 ?_; refine yy74 ?_; refine yy6 ?_; refine yy9 ?_; refine yy17 ?_; refine zg2 rfl rfl rfl (fun hc => ?_) (fun hc => ?_); exact absurd hc auto_no; replace hc := hide_nat hc; refine yy85 ?_; refine yy7 ?_; refine zg2 rfl rfl rfl (fun hc => ?_) (fun hc => ?_); refine yy120 ?_; refine yy117 ?_; refine yy50 ?_; refine yy112 ?_; refine yy2 ?_; refine yy31 ?_; refine yy6 ?_; refine aw_exit ?_; refine yy134 ?_; rotate_left; exact absurd hc auto_no; exact absurd hc auto_no) | focus (refine yy9 ?_; refine yy59 ?_; refine yy49 ?_; refine aw_condp rfl (fun hc => ?_) (fun hc => ?_); refine yy51 ?_; refine yy2 ?_; refine yy97 ?_; refine yy74 ?_; refine yy6 ?_; refine yy9 ?_; refine yy17 ?_; refine zg2 rfl rfl rfl (fun hc => ?_) (fun hc => ?_); exact absurd hc auto_no; replace hc := hide_nat hc; refine yy85 ?_; refine yy7 ?_; refine zg2 rfl rfl rfl (fun hc => ?_) (fun hc => ?_); exact absurd hc auto_no; replace hc := hide_nat hc; refine yy85 ?_; refine yy7 ?_; refine zg2 rfl rfl rfl (fun hc => ?_) (fun hc => ?_); refine yy120 ?_; refine yy112 ?_; refine yy2 ?_; refine yy31 ?_; refine yy6 ?_; refine aw_exit ?_; refine yy134 ?_; rotate_left; exact absurd hc auto_no; exact absurd hc auto_no) | focus (refine yy9 ?_; refine yy59 ?_; refine yy49 ?_; refine aw_condp rfl (fun hc => ?_) (fun hc => ?_); refine yy51 ?_; refine yy2 ?_; refine yy97 ?_; refine yy74 ?_; refine yy6 ?_; refine yy9 ?_; refine yy17 ?_; refine zg2 rfl rfl rfl (fun hc => ?_) (fun hc => ?_); exact absurd hc auto_no; replace hc := hide_nat hc; refine yy85 ?_; refine yy7 ?_; refine zg2 rfl rfl rfl (fun hc => ?_) (fun hc => ?_); exact absurd hc auto_no; replace hc := hide_nat hc; refine yy85 ?_; refine yy7 ?_; refine zg2 rfl rfl rfl (fun hc => ?_) (fun hc => ?_); exact absurd hc auto_no; replace hc := hide_nat hc; refine yy85 ?_; refine yy4 ?_; refine aw_condp rfl (fun hc => ?_) (fun hc => ?_); refine yy2 ?_; refine yy31 ?_; refine yy6 ?_; refine aw_exit ?_; refine yy134 ?_; rotate_left; exact absurd hc auto_no; exact absurd hc auto_no) | fail)
        all_goals try (exfalso; omega)
        exact ⟨t.length - (a + 1), _, _, by omega, Ent.sub _ (by (repeat' (first | exact RSub.nil _ | apply RSub.cons)); all_goals rfl), a + 1, oL, m, acc, by omega, by omega, hF2.out, by omega, ⟨q1, q2, hoL, hne, hfr⟩, rfl, rfl⟩)
    by_cases hcm : (t.getD a 0).toNat = 45 ∧ a + 1 < t.length ∧ (t.getD (a + 1) 0).toNat = 45
    · obtain ⟨c1, c2, c3⟩ := hcm
      have hst : cutStep (t.drop a) = .skip ((t.drop a).takeWhile fun c => !decide (c.toNat = 10)).length := by
        have h := hcs'.out
        rw [hg1] at c3
        rw [h] at c3 ⊢
        simp only [cutStep, if_neg hw, if_pos (show (t.getD a 0).toNat = 45 ∧ _ from ⟨c1, c3⟩)]
      have hF2 := (cutF_skip hsn hst).symm.trans hF.out
      rw [List.drop_drop] at hF2
      replace hF2 := Hdn.mk hF2
      have hk1 : 1 ≤ ((t.drop a).takeWhile fun c => !decide (c.toNat = 10)).length := by
        rw [hcs'.out, List.takeWhile_cons_of_pos (by simp only [c1]; decide)]; simp
      have hlo : ∀ j, j < ((t.drop a).takeWhile fun c => !decide (c.toNat = 10)).length → a + j < t.length ∧ ¬ (t.getD (a + j) 0).toNat = 10 := fun j hj => by
        obtain ⟨c, h1, h2⟩ := tw_lt hj
        obtain ⟨h3, h4⟩ := drop_get h1
        exact ⟨(List.getElem?_eq_some_iff.1 h3).1, by rw [h4]; simpa using h2⟩
      have hhi : a + ((t.drop a).takeWhile fun c => !decide (c.toNat = 10)).length < t.length → (t.getD (a + ((t.drop a).takeWhile fun c => !decide (c.toNat = 10)).length) 0).toNat = 10 := fun h => by
        obtain ⟨c, h1, h2⟩ := tw_eq (p := fun c => !decide (c.toNat = 10)) (s := t.drop a) (by omega)
        rw [(drop_get h1).2]; simpa using h2
      have hle := tw_le (p := fun c => !decide (c.toNat = 10)) (t.drop a)
      generalize ((t.drop a).takeWhile fun c => !decide (c.toNat = 10)).length = k at *
      clear hst
      (first | focus (refine yy9 ?_; refine yy59 ?_; refine yy49 ?_; refine aw_condp rfl (fun hc => ?_) (fun hc => ?_); refine yy51 ?_; refine yy2 ?_; refine yy97 ?_; refine yy74 ?_; refine yy6 ?_; refine yy9 ?_; refine yy17 ?_; refine zg2 rfl rfl rfl (fun hc => ?_) (fun hc => ?_); exact absurd hc auto_no; replace hc := hide_nat hc; refine yy85 ?_; refine yy7 ?_; refine zg2 rfl rfl rfl (fun hc => ?_) (fun hc => ?_); exact absurd hc auto_no; replace hc := hide_nat hc; refine yy85 ?_; refine yy7 ?_; refine zg2 rfl rfl rfl (fun hc => ?_) (fun hc => ?_); exact absurd hc auto_no; replace hc := hide_nat hc; refine yy85 ?_; refine yy4 ?_; refine yy90 ?_; intro hc; replace hc := hide_nat hc; refine yy35 ?_; refine yy9 ?_; refine yy17 ?_; refine zg1 rfl rfl rfl (fun hc => ?_) (fun hc => ?_); refine yy18 ?_; refine yy114 ?_; refine yy86 ?_; refine yy133 ?_; refine yy5 ?_; refine yy119 ?_; refine yy117 ?_; refine zg1 rfl rfl rfl (fun hc => ?_) (fun hc => ?_); refine yy86 ?_; refine yy18 ?_; refine yy114 ?_; refine yy74 ?_; refine yy96 ?_; refine yy79 ?_; refine aw_condp rfl (fun hc => ?_) (fun hc => ?_); refine yy105 ?_; rotate_left; exact absurd hc auto_no; exact absurd hc auto_no; exact absurd hc auto_no; exact absurd hc auto_no) | fail)
      all_goals try (exfalso; omega)
      refine aw_loop (fun m2 R' H3 => ∃ (j : Nat), j ≤ k ∧ H3 = H2 ∧ R' = [(0, .str t), (2, .raw (.slice none 0 0)), (3, .ptr oB 0), (4, .vw oL 4 0 acc.length), (5, .raw (.int .i64 ((a + j : Nat) : Int)))] ∧ k - j = m2) ?_ ?_
      · exact ⟨k, _, _, Ent.sub _ (by (repeat' (first | exact RSub.nil _ | apply RSub.cons)); all_goals rfl), 0, Nat.zero_le _, rfl, rfl, rfl⟩
      rintro m2 R0 H3 ⟨j, hj, rfl, rfl, rfl⟩
      by_cases hjk : j < k
      · obtain ⟨h1, h2⟩ := hlo j hjk
        (first | focus (refine yy9 ?_; refine yy59 ?_; refine yy119 ?_; refine yy7 ?_; refine zg1 rfl rfl rfl (fun hc => ?_) (fun hc => ?_); refine yy86 ?_; refine yy18 ?_; refine yy74 ?_; refine yy5 ?_; refine yy130 ?_; refine yy79 ?_; refine aw_condp rfl (fun hc => ?_) (fun hc => ?_); replace hc := hide_nat hc; refine yy51 ?_; refine yy136 ?_; refine yy14 ?_; rotate_left; exact absurd hc auto_no; exact absurd hc auto_no) | fail)
        all_goals try (exfalso; omega)
        exact ⟨k - (j + 1), _, _, by omega, Ent.sub _ (by (repeat' (first | exact RSub.nil _ | apply RSub.cons)); all_goals rfl), j + 1, by omega, rfl, rfl, rfl⟩
      · obtain rfl : j = k := by omega
        by_cases he : a + j < t.length
        · have h2 := hhi he
          (first | focus (refine yy9 ?_; refine yy59 ?_; refine yy119 ?_; refine yy7 ?_; refine zg1 rfl rfl rfl (fun hc => ?_) (fun hc => ?_); refine yy86 ?_; refine yy18 ?_; refine yy74 ?_; refine yy5 ?_; refine yy130 ?_; refine yy79 ?_; refine yy34 ?_; intro hc; refine aw_exit ?_; refine yy134 ?_; rotate_left; exact absurd hc auto_no) | fail)
          all_goals try (exfalso; omega)
          exact ⟨t.length - (a + j), _, _, by omega, Ent.sub _ (by (repeat' (first | exact RSub.nil _ | apply RSub.cons)); all_goals rfl), a + j, oL, m, acc, by omega, by omega, hF2.out, by omega, ⟨q1, q2, hoL, hne, hfr⟩, rfl, rfl⟩
        · (first | focus (refine yy9 ?_; refine yy59 ?_; refine yy119 ?_; refine yy7 ?_; refine zg1 rfl rfl rfl (fun hc => ?_) (fun hc => ?_); exact absurd hc auto_no; refine yy50 ?_; refine yy53 ?_; refine yy81 ?_; refine yy113 ?_; refine aw_exit ?_; refine yy134 ?_; rotate_left) | fail)
          all_goals try (exfalso; omega)
          exact ⟨t.length - (a + j), _, _, by omega, Ent.sub _ (by (repeat' (first | exact RSub.nil _ | apply RSub.cons)); all_goals rfl), a + j, oL, m, acc, by omega, by omega, hF2.out, by omega, ⟨q1, q2, hoL, hne, hfr⟩, rfl, rfl⟩
    have hcm2 : ¬ ((t.getD a 0).toNat = 45 ∧ ((t.drop a).getD 1 0).toNat = 45) := fun h => hcm ⟨h.1, by
      refine Nat.lt_of_not_le fun hge => ?_
      have : (t.drop a).getD 1 0 = 0 := by rw [List.getD_eq_getElem?_getD, List.getElem?_eq_none (by omega)]; rfl
      rw [this] at h
      exact absurd h.2 (by decide), by rw [hg1]; exact h.2⟩
    have w1 : Hdq (¬ (t.getD a 0).toNat = 32) := ⟨fun e => hw (.inl e)⟩
    have w2 : Hdq (¬ (t.getD a 0).toNat = 9) := ⟨fun e => hw (.inr (.inl e))⟩
    have w3 : Hdq (¬ (t.getD a 0).toNat = 10) := ⟨fun e => hw (.inr (.inr (.inl e)))⟩
    have w4 : Hdq (¬ (t.getD a 0).toNat = 13) := ⟨fun e => hw (.inr (.inr (.inr e)))⟩
    replace hw := Hdn.mk hw
    replace hcm := Hdn.mk hcm
    replace hcm2 := Hdn.mk hcm2
    have hal := wds_len acc
    have hacc2 : acc.length ≤ 16384 := by omega
    have hoL2 := Hdn.mk hoL
    clear hoL
    by_cases hlt1 : letterB (t.getD a 0) = true
    · have c1 : ¬ (t.getD a 0).toNat = 45 := fun e => by simp only [letterB, Bool.and_eq_true, decide_eq_true_eq] at hlt1; omega
      have hst : cutStep (t.drop a) = if ((t.drop a).takeWhile wordc).length ≤ 24 then .word (if keptB ((t.drop a).take ((t.drop a).takeWhile wordc).length) then 2 else 1) 0 ((t.drop a).takeWhile wordc).length else .err := by
        have h := hcs'.out
        have hcm2 := hcm2.out
        rw [h] at hcm2 ⊢
        simp only [cutStep, if_neg hw.out, if_neg hcm2, if_pos hlt1]
      have hk1 : 1 ≤ ((t.drop a).takeWhile wordc).length := by
        rw [hcs'.out, List.takeWhile_cons_of_pos (by simp only [wordc, hlt1]; rfl)]; simp
      have hlo : ∀ j, j < ((t.drop a).takeWhile wordc).length → a + j < t.length ∧ wordc (t.getD (a + j) 0) = true := fun j hj => by
        obtain ⟨c, h1, h2⟩ := tw_lt hj
        obtain ⟨h3, h4⟩ := drop_get h1
        exact ⟨(List.getElem?_eq_some_iff.1 h3).1, by rw [h4]; exact h2⟩
      have hhi : a + ((t.drop a).takeWhile wordc).length < t.length → wordc (t.getD (a + ((t.drop a).takeWhile wordc).length) 0) = false := fun h => by
        obtain ⟨c, h1, h2⟩ := tw_eq (p := wordc) (s := t.drop a) (by omega)
        rw [(drop_get h1).2]; exact h2
      have hle := tw_le (p := wordc) (t.drop a)
      generalize ((t.drop a).takeWhile wordc).length = k at *
      replace hst := Hdn.mk hst
      (first | focus (refine yy9 ?_; refine yy59 ?_; refine yy49 ?_; refine aw_condp rfl (fun hc => ?_) (fun hc => ?_); refine yy51 ?_; refine yy2 ?_; refine yy97 ?_; refine yy74 ?_; refine yy6 ?_; refine yy9 ?_; refine yy17 ?_; refine zg2 rfl rfl rfl (fun hc => ?_) (fun hc => ?_); exact absurd hc (Hdq.out (by assumption)); replace hc := hide_nat hc; refine yy85 ?_; refine yy7 ?_; refine zg2 rfl rfl rfl (fun hc => ?_) (fun hc => ?_); exact absurd hc (Hdq.out (by assumption)); replace hc := hide_nat hc; refine yy85 ?_; refine yy7 ?_; refine zg2 rfl rfl rfl (fun hc => ?_) (fun hc => ?_); exact absurd hc (Hdq.out (by assumption)); replace hc := hide_nat hc; refine yy85 ?_; refine yy4 ?_; refine yy30 ?_; intro hc; replace hc := hide_nat hc; refine yy35 ?_; refine yy9 ?_; refine yy17 ?_; refine zg1 rfl rfl rfl (fun hc => ?_) (fun hc => ?_); exact absurd hc auto_no; replace hc := hide_nat hc; refine yy66 ?_; refine yy63 ?_; refine yy7 ?_; refine yy66 ?_; refine yy53 ?_; refine yy25 ?_; refine yy15 ?_; refine yy19 ?_; refine yy20 ?_; refine awl_alloc rfl rfl rfl (fun oN hoN => ?_); refine yy11 ?_; refine yy4 ?_; refine yy15 ?_; refine yy105 ?_; refine yy19 ?_; (refine zc auto_wl (letter_calls _ _) ?_; rintro r H' ⟨rfl, rfl⟩); refine yy6 ?_; refine aw_cond rfl (fun hc => ?_) (fun hc => ?_); refine yy105 ?_; rotate_left; refine yy19 ?_; rotate_left; exact absurd hc auto_no) | fail)
      all_goals try (exfalso; omega)
      all_goals try exact absurd (show letterB (t.getD a 0) = false by assumption) (by rw [hlt1]; decide)
      have hoW := hoN
      generalize oN = oW at *
      refine aw_loop (fun m2 R' H3 => ∃ (j : Nat), j ≤ k ∧ H3 = H2.set oW (.cel [avI 0, .raw (.string ⟨#[]⟩), avI 0, avI a]) ∧ R' = [(0, .str t), (2, .raw (.slice none 0 0)), (3, .ptr oB 0), (4, .vw oL 4 0 acc.length), (5, .raw (.int .i64 (a : Int))), (7, .raw (.int .i64 (j : Int))), (8, .ptr oW 0), (9, .raw (.bool true))] ∧ k - j = m2) ?_ ?_
      · exact ⟨k, _, _, Ent.sub _ (by (repeat' (first | exact RSub.nil _ | apply RSub.cons)); all_goals rfl), 0, Nat.zero_le _, rfl, rfl, rfl⟩
      rintro m2 R0 H3 ⟨j, hj, rfl, rfl, rfl⟩
      by_cases hjk : j < k
      · obtain ⟨h1, h2⟩ := hlo j hjk
        (first | focus (refine yy9 ?_; refine yy31 ?_; refine yy59 ?_; refine yy119 ?_; refine yy7 ?_; refine zg1 rfl rfl rfl (fun hc => ?_) (fun hc => ?_); refine yy86 ?_; refine yy18 ?_; refine yy18 ?_; refine yy114 ?_; refine yy74 ?_; refine yy5 ?_; (refine zc auto_wl (letter_calls _ _) ?_; rintro r H' ⟨rfl, rfl⟩); refine yy5 ?_; refine yy7 ?_; refine zg7 rfl rfl rfl (fun hc => ?_) (fun hc => ?_); refine yy66 ?_; refine yy120 ?_; refine yy5 ?_; refine yy69 ?_; refine yy5 ?_; refine yy7 ?_; refine yy66 ?_; refine yy50 ?_; refine yy5 ?_; refine yy69 ?_; refine yy112 ?_; refine yy51 ?_; refine yy136 ?_; refine yy14 ?_; rotate_left; refine yy86 ?_; refine yy18 ?_; refine yy18 ?_; refine yy114 ?_; refine yy74 ?_; refine yy5 ?_; (refine zc auto_wl (digit_calls _ _) ?_; rintro r H' ⟨rfl, rfl⟩); refine yy5 ?_; refine yy63 ?_; refine yy5 ?_; refine yy7 ?_; refine zg7 rfl rfl rfl (fun hc => ?_) (fun hc => ?_); refine yy66 ?_; refine yy120 ?_; refine yy5 ?_; refine yy69 ?_; refine yy112 ?_; refine yy51 ?_; refine yy136 ?_; refine yy14 ?_; rotate_left; refine yy86 ?_; refine yy18 ?_; refine yy18 ?_; refine yy114 ?_; refine yy74 ?_; refine yy96 ?_; refine yy5 ?_; refine yy63 ?_; refine yy79 ?_; refine aw_condp rfl (fun hc => ?_) (fun hc => ?_); refine yy51 ?_; refine yy136 ?_; refine yy14 ?_; rotate_left; replace hc := hide_nat hc; refine yy113 ?_; refine yy2 ?_; refine yy55 ?_; refine yy42 ?_; refine yy103 ?_; refine yy31 ?_; refine yy84 ?_; rotate_left; exact absurd hc auto_no) | fail)
        all_goals try (exfalso; omega)
        all_goals try exact absurd h2 (by rw [wordc_false (by assumption) (by assumption) hc.out]; decide)
        all_goals exact ⟨k - (j + 1), _, _, by omega, Ent.sub _ (by (repeat' (first | exact RSub.nil _ | apply RSub.cons)); all_goals rfl), j + 1, by omega, rfl, rfl, rfl⟩
      · obtain rfl : j = k := by omega
        have hex : ∀ (K : Prop), (a + j < t.length → letterB (t.getD (a + j) 0) = false → digitB (t.getD (a + j) 0) = false → ¬ (t.getD (a + j) 0).toNat = 95 → K) → (¬ a + j < t.length → K) → K := fun K f g => by
          by_cases he : a + j < t.length
          · obtain ⟨l1, l2, l3⟩ := wordc_no (hhi he); exact f he l1 l2 l3
          · exact g he
        have hsub : (t.drop a).take (a + j - a) = (t.drop a).take j := by rw [Nat.add_sub_cancel_left]
        by_cases hj24 : j ≤ 24
        · by_cases hkp : keptB ((t.drop a).take j) = true
          · have hst2 := hst.out
            rw [if_pos hj24, if_pos hkp] at hst2
            have hF2 := (cutF_word hsn hst2).symm.trans hF.out
            rw [List.drop_drop] at hF2
            replace hF2 := Hdn.mk hF2
            refine hex _ (fun he l1 l2 l3 => ?_) (fun he => ?_)
            all_goals (
              (first | focus (refine yy9 ?_; refine yy31 ?_; refine yy59 ?_; refine yy119 ?_; refine yy7 ?_; refine zg1 rfl rfl rfl (fun hc => ?_) (fun hc => ?_); refine yy86 ?_; refine yy18 ?_; refine yy18 ?_; refine yy114 ?_; refine yy74 ?_; refine yy5 ?_; (refine zc auto_wl (letter_calls _ _) ?_; rintro r H' ⟨rfl, rfl⟩); refine yy5 ?_; refine yy7 ?_; refine zg7 rfl rfl rfl (fun hc => ?_) (fun hc => ?_); refine yy66 ?_; refine yy120 ?_; refine yy5 ?_; refine yy69 ?_; refine yy5 ?_; refine yy7 ?_; refine yy66 ?_; refine yy50 ?_; refine yy5 ?_; refine yy69 ?_; refine yy112 ?_; refine yy51 ?_; refine yy136 ?_; refine yy14 ?_; rotate_left; refine yy86 ?_; refine yy18 ?_; refine yy18 ?_; refine yy114 ?_; refine yy74 ?_; refine yy5 ?_; (refine zc auto_wl (digit_calls _ _) ?_; rintro r H' ⟨rfl, rfl⟩); refine yy5 ?_; refine yy63 ?_; refine yy5 ?_; refine yy7 ?_; refine zg7 rfl rfl rfl (fun hc => ?_) (fun hc => ?_); refine yy66 ?_; refine yy120 ?_; refine yy5 ?_; refine yy69 ?_; refine yy112 ?_; refine yy51 ?_; refine yy136 ?_; refine yy14 ?_; rotate_left; refine yy86 ?_; refine yy18 ?_; refine yy18 ?_; refine yy114 ?_; refine yy74 ?_; refine yy96 ?_; refine yy5 ?_; refine yy63 ?_; refine yy79 ?_; refine yy90 ?_; intro hc; replace hc := hide_nat hc; refine yy113 ?_; refine yy2 ?_; refine yy55 ?_; refine yy42 ?_; refine yy103 ?_; refine yy31 ?_; refine yy84 ?_; (refine zc auto_wl (Kept_calls _ _) ?_; rintro r H' ⟨rfl, rfl⟩); refine yy4 ?_; refine aw_cond rfl (fun hc => ?_) (fun hc => ?_); refine yy32 ?_; refine yy55 ?_; refine yy4 ?_; refine yy78 ?_; refine yy132 ?_; refine yy14 ?_; refine yy9 ?_; refine yy127 ?_; refine yy4 ?_; refine yy60 ?_; intro hc; refine yy2 ?_; refine yy103 ?_; refine yy31 ?_; refine yy84 ?_; refine yy55 ?_; refine yy16 ?_; refine yy23 ?_; refine yy26 ?_; refine yy37 ?_; refine za4 rfl rfl rfl auto_heap auto_al auto_src auto_len auto_len (fun oN hoN => ?_); refine yy40 ?_; refine yy4 ?_; refine yy78 ?_; refine yy31 ?_; refine yy14 ?_; rotate_left; refine yy35 ?_; refine yy78 ?_; refine yy132 ?_; refine yy14 ?_; refine yy9 ?_; refine yy127 ?_; refine yy4 ?_; refine yy60 ?_; intro hc; refine yy2 ?_; refine yy103 ?_; refine yy31 ?_; refine yy84 ?_; refine yy55 ?_; refine yy16 ?_; refine yy23 ?_; refine yy26 ?_; refine yy37 ?_; refine za4 rfl rfl rfl auto_heap auto_al auto_src auto_len auto_len (fun oN hoN => ?_); refine yy40 ?_; refine yy4 ?_; refine yy78 ?_; refine yy31 ?_; refine yy14 ?_; rotate_left; exact absurd hc auto_no) | focus (refine yy9 ?_; refine yy31 ?_; refine yy59 ?_; refine yy119 ?_; refine yy7 ?_; refine zg1 rfl rfl rfl (fun hc => ?_) (fun hc => ?_); exact absurd hc auto_no; refine yy66 ?_; refine yy50 ?_; refine yy121 ?_; refine yy121 ?_; refine yy121 ?_; refine yy50 ?_; refine yy121 ?_; refine yy121 ?_; refine yy121 ?_; refine yy53 ?_; refine yy81 ?_; refine yy113 ?_; refine yy2 ?_; refine yy55 ?_; refine yy42 ?_; refine yy103 ?_; refine yy31 ?_; refine yy84 ?_; (refine zc auto_wl (Kept_calls _ _) ?_; rintro r H' ⟨rfl, rfl⟩); refine yy4 ?_; refine aw_cond rfl (fun hc => ?_) (fun hc => ?_); refine yy32 ?_; refine yy55 ?_; refine yy4 ?_; refine yy78 ?_; refine yy132 ?_; refine yy14 ?_; refine yy9 ?_; refine yy127 ?_; refine yy4 ?_; refine yy60 ?_; intro hc; refine yy2 ?_; refine yy103 ?_; refine yy31 ?_; refine yy84 ?_; refine yy55 ?_; refine yy16 ?_; refine yy23 ?_; refine yy26 ?_; refine yy37 ?_; refine za4 rfl rfl rfl auto_heap auto_al auto_src auto_len auto_len (fun oN hoN => ?_); refine yy40 ?_; refine yy4 ?_; refine yy78 ?_; refine yy31 ?_; refine yy14 ?_; rotate_left; refine yy35 ?_; refine yy78 ?_; refine yy132 ?_; refine yy14 ?_; refine yy9 ?_; refine yy127 ?_; refine yy4 ?_; refine yy60 ?_; intro hc; refine yy2 ?_; refine yy103 ?_; refine yy31 ?_; refine yy84 ?_; refine yy55 ?_; refine yy16 ?_; refine yy23 ?_; refine yy26 ?_; refine yy37 ?_; refine za4 rfl rfl rfl auto_heap auto_al auto_src auto_len auto_len (fun oN hoN => ?_); refine yy40 ?_; refine yy4 ?_; refine yy78 ?_; refine yy31 ?_; refine yy14 ?_; rotate_left) | fail)
              all_goals try (exfalso; omega)
              all_goals try exact absurd (show letterB _ = true by assumption) (by rw [l1]; decide)
              all_goals try exact absurd (show digitB _ = true by assumption) (by rw [l2]; decide)
              all_goals try exact absurd (show keptB ((t.drop a).take (a + j - a)) = false by assumption) (by rw [hsub, hkp]; decide)
              rw [hsub]
              rw [hsub] at hoN
              obtain ⟨k1, k2, k3, k4, k5⟩ := leafHeap (X := .cel (acc.flatMap Wd.cells ++ [avI 2, .str ((t.drop a).take j), avI 0, avI a])) hfr q1 hoL2.out hne hoW hoN
              exact ⟨t.length - (a + j), _, _, by omega, Ent.to (by (repeat' (first | exact RSub.nil _ | apply RSub.cons)); all_goals (first | rfl | exact congrArg (AV.vw _ 4 0) (by rw [List.length_append]; rfl))) rfl, a + j, oN, m, acc ++ [⟨2, (t.drop a).take j, 0, a⟩], by omega, by omega, hF2.out, by rw [List.length_append, List.length_singleton]; omega, ⟨k1, by rw [List.flatMap_append]; exact k2, k3, k4, k5⟩, rfl, rfl⟩)
          · have hst2 := hst.out
            rw [if_pos hj24, if_neg hkp] at hst2
            have hF2 := (cutF_word hsn hst2).symm.trans hF.out
            rw [List.drop_drop] at hF2
            replace hF2 := Hdn.mk hF2
            have hkp : keptB ((t.drop a).take j) = false := by simpa using hkp
            refine hex _ (fun he l1 l2 l3 => ?_) (fun he => ?_)
            all_goals (
              (first | focus (refine yy9 ?_; refine yy31 ?_; refine yy59 ?_; refine yy119 ?_; refine yy7 ?_; refine zg1 rfl rfl rfl (fun hc => ?_) (fun hc => ?_); refine yy86 ?_; refine yy18 ?_; refine yy18 ?_; refine yy114 ?_; refine yy74 ?_; refine yy5 ?_; (refine zc auto_wl (letter_calls _ _) ?_; rintro r H' ⟨rfl, rfl⟩); refine yy5 ?_; refine yy7 ?_; refine zg7 rfl rfl rfl (fun hc => ?_) (fun hc => ?_); refine yy66 ?_; refine yy120 ?_; refine yy5 ?_; refine yy69 ?_; refine yy5 ?_; refine yy7 ?_; refine yy66 ?_; refine yy50 ?_; refine yy5 ?_; refine yy69 ?_; refine yy112 ?_; refine yy51 ?_; refine yy136 ?_; refine yy14 ?_; rotate_left; refine yy86 ?_; refine yy18 ?_; refine yy18 ?_; refine yy114 ?_; refine yy74 ?_; refine yy5 ?_; (refine zc auto_wl (digit_calls _ _) ?_; rintro r H' ⟨rfl, rfl⟩); refine yy5 ?_; refine yy63 ?_; refine yy5 ?_; refine yy7 ?_; refine zg7 rfl rfl rfl (fun hc => ?_) (fun hc => ?_); refine yy66 ?_; refine yy120 ?_; refine yy5 ?_; refine yy69 ?_; refine yy112 ?_; refine yy51 ?_; refine yy136 ?_; refine yy14 ?_; rotate_left; refine yy86 ?_; refine yy18 ?_; refine yy18 ?_; refine yy114 ?_; refine yy74 ?_; refine yy96 ?_; refine yy5 ?_; refine yy63 ?_; refine yy79 ?_; refine yy90 ?_; intro hc; replace hc := hide_nat hc; refine yy113 ?_; refine yy2 ?_; refine yy55 ?_; refine yy42 ?_; refine yy103 ?_; refine yy31 ?_; refine yy84 ?_; (refine zc auto_wl (Kept_calls _ _) ?_; rintro r H' ⟨rfl, rfl⟩); refine yy4 ?_; refine aw_cond rfl (fun hc => ?_) (fun hc => ?_); refine yy32 ?_; refine yy55 ?_; refine yy4 ?_; refine yy78 ?_; refine yy132 ?_; refine yy14 ?_; refine yy9 ?_; refine yy127 ?_; refine yy4 ?_; refine yy60 ?_; intro hc; refine yy2 ?_; refine yy103 ?_; refine yy31 ?_; refine yy84 ?_; refine yy55 ?_; refine yy16 ?_; refine yy23 ?_; refine yy26 ?_; refine yy37 ?_; refine za4 rfl rfl rfl auto_heap auto_al auto_src auto_len auto_len (fun oN hoN => ?_); refine yy40 ?_; refine yy4 ?_; refine yy78 ?_; refine yy31 ?_; refine yy14 ?_; rotate_left; refine yy35 ?_; refine yy78 ?_; refine yy132 ?_; refine yy14 ?_; refine yy9 ?_; refine yy127 ?_; refine yy4 ?_; refine yy60 ?_; intro hc; refine yy2 ?_; refine yy103 ?_; refine yy31 ?_; refine yy84 ?_; refine yy55 ?_; refine yy16 ?_; refine yy23 ?_; refine yy26 ?_; refine yy37 ?_; refine za4 rfl rfl rfl auto_heap auto_al auto_src auto_len auto_len (fun oN hoN => ?_); refine yy40 ?_; refine yy4 ?_; refine yy78 ?_; refine yy31 ?_; refine yy14 ?_; rotate_left; exact absurd hc auto_no) | focus (refine yy9 ?_; refine yy31 ?_; refine yy59 ?_; refine yy119 ?_; refine yy7 ?_; refine zg1 rfl rfl rfl (fun hc => ?_) (fun hc => ?_); exact absurd hc auto_no; refine yy66 ?_; refine yy50 ?_; refine yy121 ?_; refine yy121 ?_; refine yy121 ?_; refine yy50 ?_; refine yy121 ?_; refine yy121 ?_; refine yy121 ?_; refine yy53 ?_; refine yy81 ?_; refine yy113 ?_; refine yy2 ?_; refine yy55 ?_; refine yy42 ?_; refine yy103 ?_; refine yy31 ?_; refine yy84 ?_; (refine zc auto_wl (Kept_calls _ _) ?_; rintro r H' ⟨rfl, rfl⟩); refine yy4 ?_; refine aw_cond rfl (fun hc => ?_) (fun hc => ?_); refine yy32 ?_; refine yy55 ?_; refine yy4 ?_; refine yy78 ?_; refine yy132 ?_; refine yy14 ?_; refine yy9 ?_; refine yy127 ?_; refine yy4 ?_; refine yy60 ?_; intro hc; refine yy2 ?_; refine yy103 ?_; refine yy31 ?_; refine yy84 ?_; refine yy55 ?_; refine yy16 ?_; refine yy23 ?_; refine yy26 ?_; refine yy37 ?_; refine za4 rfl rfl rfl auto_heap auto_al auto_src auto_len auto_len (fun oN hoN => ?_); refine yy40 ?_; refine yy4 ?_; refine yy78 ?_; refine yy31 ?_; refine yy14 ?_; rotate_left; refine yy35 ?_; refine yy78 ?_; refine yy132 ?_; refine yy14 ?_; refine yy9 ?_; refine yy127 ?_; refine yy4 ?_; refine yy60 ?_; intro hc; refine yy2 ?_; refine yy103 ?_; refine yy31 ?_; refine yy84 ?_; refine yy55 ?_; refine yy16 ?_; refine yy23 ?_; refine yy26 ?_; refine yy37 ?_; refine za4 rfl rfl rfl auto_heap auto_al auto_src auto_len auto_len (fun oN hoN => ?_); refine yy40 ?_; refine yy4 ?_; refine yy78 ?_; refine yy31 ?_; refine yy14 ?_; rotate_left) | fail)
              all_goals try (exfalso; omega)
              all_goals try exact absurd (show letterB _ = true by assumption) (by rw [l1]; decide)
              all_goals try exact absurd (show digitB _ = true by assumption) (by rw [l2]; decide)
              all_goals try exact absurd (show keptB ((t.drop a).take (a + j - a)) = true by assumption) (by rw [hsub, hkp]; decide)
              rw [hsub]
              rw [hsub] at hoN
              obtain ⟨k1, k2, k3, k4, k5⟩ := leafHeap (X := .cel (acc.flatMap Wd.cells ++ [avI 1, .str ((t.drop a).take j), avI 0, avI a])) hfr q1 hoL2.out hne hoW hoN
              exact ⟨t.length - (a + j), _, _, by omega, Ent.to (by (repeat' (first | exact RSub.nil _ | apply RSub.cons)); all_goals (first | rfl | exact congrArg (AV.vw _ 4 0) (by rw [List.length_append]; rfl))) rfl, a + j, oN, m, acc ++ [⟨1, (t.drop a).take j, 0, a⟩], by omega, by omega, hF2.out, by rw [List.length_append, List.length_singleton]; omega, ⟨k1, by rw [List.flatMap_append]; exact k2, k3, k4, k5⟩, rfl, rfl⟩)
        · have hst2 := hst.out
          rw [if_neg hj24] at hst2
          have hF2 := (cutF_err hsn hst2).symm.trans hF.out
          replace hF2 := Hdn.mk hF2
          refine hex _ (fun he l1 l2 l3 => ?_) (fun he => ?_)
          all_goals (
            (first | focus (refine yy9 ?_; refine yy31 ?_; refine yy59 ?_; refine yy119 ?_; refine yy7 ?_; refine zg1 rfl rfl rfl (fun hc => ?_) (fun hc => ?_); refine yy86 ?_; refine yy18 ?_; refine yy18 ?_; refine yy114 ?_; refine yy74 ?_; refine yy5 ?_; (refine zc auto_wl (letter_calls _ _) ?_; rintro r H' ⟨rfl, rfl⟩); refine yy5 ?_; refine yy7 ?_; refine zg7 rfl rfl rfl (fun hc => ?_) (fun hc => ?_); refine yy66 ?_; refine yy120 ?_; refine yy5 ?_; refine yy69 ?_; refine yy5 ?_; refine yy7 ?_; refine yy66 ?_; refine yy50 ?_; refine yy5 ?_; refine yy69 ?_; refine yy112 ?_; refine yy51 ?_; refine yy136 ?_; refine yy14 ?_; rotate_left; refine yy86 ?_; refine yy18 ?_; refine yy18 ?_; refine yy114 ?_; refine yy74 ?_; refine yy5 ?_; (refine zc auto_wl (digit_calls _ _) ?_; rintro r H' ⟨rfl, rfl⟩); refine yy5 ?_; refine yy63 ?_; refine yy5 ?_; refine yy7 ?_; refine zg7 rfl rfl rfl (fun hc => ?_) (fun hc => ?_); refine yy66 ?_; refine yy120 ?_; refine yy5 ?_; refine yy69 ?_; refine yy112 ?_; refine yy51 ?_; refine yy136 ?_; refine yy14 ?_; rotate_left; refine yy86 ?_; refine yy18 ?_; refine yy18 ?_; refine yy114 ?_; refine yy74 ?_; refine yy96 ?_; refine yy5 ?_; refine yy63 ?_; refine yy79 ?_; refine yy90 ?_; intro hc; replace hc := hide_nat hc; refine yy113 ?_; refine yy2 ?_; refine yy55 ?_; refine yy42 ?_; refine yy103 ?_; refine yy31 ?_; refine yy84 ?_; (refine zc auto_wl (Kept_calls _ _) ?_; rintro r H' ⟨rfl, rfl⟩); refine yy4 ?_; refine aw_cond rfl (fun hc => ?_) (fun hc => ?_); refine yy32 ?_; refine yy55 ?_; refine yy4 ?_; refine yy78 ?_; refine yy132 ?_; refine yy14 ?_; refine yy9 ?_; refine yy127 ?_; refine yy4 ?_; refine aw_condp rfl (fun hc => ?_) (fun hc => ?_); refine yy19 ?_; refine yy20 ?_; refine yy21 ?_; refine yy36 ?_; refine yy102 ?_; refine yy33 ?_; rotate_left; exact absurd hc auto_no; refine yy35 ?_; refine yy78 ?_; refine yy132 ?_; refine yy14 ?_; refine yy9 ?_; refine yy127 ?_; refine yy4 ?_; refine aw_condp rfl (fun hc => ?_) (fun hc => ?_); refine yy19 ?_; refine yy20 ?_; refine yy21 ?_; refine yy36 ?_; refine yy102 ?_; refine yy33 ?_; rotate_left; exact absurd hc auto_no; exact absurd hc auto_no) | focus (refine yy9 ?_; refine yy31 ?_; refine yy59 ?_; refine yy119 ?_; refine yy7 ?_; refine zg1 rfl rfl rfl (fun hc => ?_) (fun hc => ?_); exact absurd hc auto_no; refine yy66 ?_; refine yy50 ?_; refine yy121 ?_; refine yy121 ?_; refine yy121 ?_; refine yy50 ?_; refine yy121 ?_; refine yy121 ?_; refine yy121 ?_; refine yy53 ?_; refine yy81 ?_; refine yy113 ?_; refine yy2 ?_; refine yy55 ?_; refine yy42 ?_; refine yy103 ?_; refine yy31 ?_; refine yy84 ?_; (refine zc auto_wl (Kept_calls _ _) ?_; rintro r H' ⟨rfl, rfl⟩); refine yy4 ?_; refine aw_cond rfl (fun hc => ?_) (fun hc => ?_); refine yy32 ?_; refine yy55 ?_; refine yy4 ?_; refine yy78 ?_; refine yy132 ?_; refine yy14 ?_; refine yy9 ?_; refine yy127 ?_; refine yy4 ?_; refine aw_condp rfl (fun hc => ?_) (fun hc => ?_); refine yy19 ?_; refine yy20 ?_; refine yy21 ?_; refine yy36 ?_; refine yy102 ?_; refine yy33 ?_; rotate_left; exact absurd hc auto_no; refine yy35 ?_; refine yy78 ?_; refine yy132 ?_; refine yy14 ?_; refine yy9 ?_; refine yy127 ?_; refine yy4 ?_; refine aw_condp rfl (fun hc => ?_) (fun hc => ?_); refine yy19 ?_; refine yy20 ?_; refine yy21 ?_; refine yy36 ?_; refine yy102 ?_; refine yy33 ?_; rotate_left; exact absurd hc auto_no) | fail)
            all_goals try (exfalso; omega)
            all_goals try exact absurd (show letterB _ = true by assumption) (by rw [l1]; decide)
            all_goals try exact absurd (show digitB _ = true by assumption) (by rw [l2]; decide)
            all_goals exact ⟨.inl rfl, _, _, _, (Ent.cellRet 3 [avI 7, avI a] rfl auto_heap (by ((repeat' (first | exact WC.nil | apply WC.cons)); all_goals (first | exact W.of rfl | exact W.int rfl | exact W.nilb rfl | exact W.empb rfl | exact W.bysx rfl | exact W.nils rfl | exact W.emps rfl | exact W.slsx rfl))) (leafHs hfr hoB hoW)).trans (Ent.weakReg 2 rfl (W.nils rfl)), ret_2 rfl (rv1_tmp rfl) (rv1_agg (m := 2) rfl rfl rfl (by decide)), by rw [← hF2.out]; rfl, rfl⟩)
    have hlt0 : letterB (t.getD a 0) = false := by simpa using hlt1
    by_cases hdg : digitB (t.getD a 0) = true
    · have c1 : ¬ (t.getD a 0).toNat = 45 := fun e => by simp only [digitB, Bool.and_eq_true, decide_eq_true_eq] at hdg; omega
      have hst : cutStep (t.drop a) = if (numB ((t.drop a).take ((t.drop a).takeWhile digitB).length)).2 then .word 3 (numB ((t.drop a).take ((t.drop a).takeWhile digitB).length)).1 ((t.drop a).takeWhile digitB).length else .err := by
        have h := hcs'.out
        have hcm2 := hcm2.out
        rw [h] at hcm2 ⊢
        simp only [cutStep, if_neg hw.out, if_neg hcm2, if_neg hlt1, if_pos hdg]
      have hk1 : 1 ≤ ((t.drop a).takeWhile digitB).length := by
        rw [hcs'.out, List.takeWhile_cons_of_pos hdg]; simp
      have hlo : ∀ j, j < ((t.drop a).takeWhile digitB).length → a + j < t.length ∧ digitB (t.getD (a + j) 0) = true := fun j hj => by
        obtain ⟨c, h1, h2⟩ := tw_lt hj
        obtain ⟨h3, h4⟩ := drop_get h1
        exact ⟨(List.getElem?_eq_some_iff.1 h3).1, by rw [h4]; exact h2⟩
      have hhi : a + ((t.drop a).takeWhile digitB).length < t.length → digitB (t.getD (a + ((t.drop a).takeWhile digitB).length) 0) = false := fun h => by
        obtain ⟨c, h1, h2⟩ := tw_eq (p := digitB) (s := t.drop a) (by omega)
        rw [(drop_get h1).2]; exact h2
      have hle := tw_le (p := digitB) (t.drop a)
      have hall : ∀ b ∈ (t.drop a).take ((t.drop a).takeWhile digitB).length, digitB b = true := fun b hb => by
        rw [tw_take] at hb
        exact tw_mem hb
      generalize ((t.drop a).takeWhile digitB).length = k at *
      replace hst := Hdn.mk hst
      replace hall := Hdn.mk hall
      (first | focus (refine yy9 ?_; refine yy59 ?_; refine yy49 ?_; refine aw_condp rfl (fun hc => ?_) (fun hc => ?_); refine yy51 ?_; refine yy2 ?_; refine yy97 ?_; refine yy74 ?_; refine yy6 ?_; refine yy9 ?_; refine yy17 ?_; refine zg2 rfl rfl rfl (fun hc => ?_) (fun hc => ?_); exact absurd hc (Hdq.out (by assumption)); replace hc := hide_nat hc; refine yy85 ?_; refine yy7 ?_; refine zg2 rfl rfl rfl (fun hc => ?_) (fun hc => ?_); exact absurd hc (Hdq.out (by assumption)); replace hc := hide_nat hc; refine yy85 ?_; refine yy7 ?_; refine zg2 rfl rfl rfl (fun hc => ?_) (fun hc => ?_); exact absurd hc (Hdq.out (by assumption)); replace hc := hide_nat hc; refine yy85 ?_; refine yy4 ?_; refine yy30 ?_; intro hc; replace hc := hide_nat hc; refine yy35 ?_; refine yy9 ?_; refine yy17 ?_; refine zg1 rfl rfl rfl (fun hc => ?_) (fun hc => ?_); exact absurd hc auto_no; replace hc := hide_nat hc; refine yy66 ?_; refine yy63 ?_; refine yy7 ?_; refine yy66 ?_; refine yy53 ?_; refine yy25 ?_; refine yy15 ?_; refine yy19 ?_; refine yy20 ?_; refine awl_alloc rfl rfl rfl (fun oN hoN => ?_); refine yy11 ?_; refine yy4 ?_; refine yy15 ?_; refine yy105 ?_; refine yy19 ?_; (refine zc auto_wl (letter_calls _ _) ?_; rintro r H' ⟨rfl, rfl⟩); refine yy6 ?_; refine aw_cond rfl (fun hc => ?_) (fun hc => ?_); refine yy105 ?_; rotate_left; refine yy19 ?_; (refine zc auto_wl (digit_calls _ _) ?_; rintro r H' ⟨rfl, rfl⟩); refine yy6 ?_; refine aw_cond rfl (fun hc => ?_) (fun hc => ?_); refine yy105 ?_; rotate_left; refine yy2 ?_; refine yy55 ?_; refine yy16 ?_; refine yy97 ?_; refine yy84 ?_; rotate_left; exact absurd hc auto_no) | fail)
      all_goals try (exfalso; omega)
      all_goals try exact absurd (show letterB (t.getD a 0) = true by assumption) (by rw [hlt0]; decide)
      all_goals try exact absurd (show digitB (t.getD a 0) = false by assumption) (by rw [hdg]; decide)
      have hoW := hoN
      generalize oN = oW at *
      refine aw_loop (fun m2 R' H3 => ∃ (j : Nat), j ≤ k ∧ H3 = H2.set oW (.cel [avI 0, .raw (.string ⟨#[]⟩), avI 0, avI a]) ∧ R' = [(0, .str t), (2, .raw (.slice none 0 0)), (3, .ptr oB 0), (4, .vw oL 4 0 acc.length), (5, .raw (.int .i64 (a : Int))), (7, .raw (.int .i64 (j : Int))), (8, .ptr oW 0), (9, .raw (.bool true))] ∧ k - j = m2) ?_ ?_
      · exact ⟨k, _, _, Ent.sub _ (by (repeat' (first | exact RSub.nil _ | apply RSub.cons)); all_goals rfl), 0, Nat.zero_le _, rfl, rfl, rfl⟩
      rintro m2 R0 H3 ⟨j, hj, rfl, rfl, rfl⟩
      by_cases hjk : j < k
      · obtain ⟨h1, h2⟩ := hlo j hjk
        (first | focus (refine yy9 ?_; refine yy31 ?_; refine yy59 ?_; refine yy119 ?_; refine yy7 ?_; refine zg1 rfl rfl rfl (fun hc => ?_) (fun hc => ?_); refine yy86 ?_; refine yy18 ?_; refine yy18 ?_; refine yy114 ?_; refine yy74 ?_; refine yy5 ?_; (refine zc auto_wl (digit_calls _ _) ?_; rintro r H' ⟨rfl, rfl⟩); refine yy79 ?_; refine aw_cond rfl (fun hc => ?_) (fun hc => ?_); refine yy51 ?_; refine yy136 ?_; refine yy14 ?_; rotate_left; refine yy113 ?_; refine yy2 ?_; refine yy55 ?_; refine yy4 ?_; refine yy32 ?_; refine yy103 ?_; refine yy31 ?_; refine yy84 ?_; rotate_left; exact absurd hc auto_no) | fail)
        all_goals try (exfalso; omega)
        all_goals try exact absurd (show digitB (t.getD (a + j) 0) = false by assumption) (by rw [h2]; decide)
        all_goals exact ⟨k - (j + 1), _, _, by omega, Ent.sub _ (by (repeat' (first | exact RSub.nil _ | apply RSub.cons)); all_goals rfl), j + 1, by omega, rfl, rfl, rfl⟩
      · obtain rfl : j = k := by omega
        have hex : ∀ (K : Prop), (a + j < t.length → digitB (t.getD (a + j) 0) = false → K) → (¬ a + j < t.length → K) → K := fun K f g => by
          by_cases he : a + j < t.length
          · exact f he (hhi he)
          · exact g he
        have hsub : (t.drop a).take (a + j - a) = (t.drop a).take j := by rw [Nat.add_sub_cancel_left]
        have hnc : ∀ H, ACalls Try.prog 61 [.str ((t.drop a).take (a + j - a))] H fun r H' => r = .tup [avI (numB ((t.drop a).take j)).1, avB (numB ((t.drop a).take j)).2] ∧ H' = H := fun H => by
          rw [hsub]; exact number_calls H _ hall.out (by rw [List.length_take]; omega)
        cases hnb : (numB ((t.drop a).take j)).2 with
        | true =>
          have hst2 := hst.out
          rw [if_pos hnb] at hst2
          have hF2 := (cutF_word hsn hst2).symm.trans hF.out
          rw [List.drop_drop] at hF2
          replace hF2 := Hdn.mk hF2
          rw [hnb] at hnc
          generalize (numB ((t.drop a).take j)).1 = v at *
          refine hex _ (fun he l2 => ?_) (fun he => ?_)
          all_goals (
            (first | focus (refine yy9 ?_; refine yy31 ?_; refine yy59 ?_; refine yy119 ?_; refine yy7 ?_; refine zg1 rfl rfl rfl (fun hc => ?_) (fun hc => ?_); refine yy86 ?_; refine yy18 ?_; refine yy18 ?_; refine yy114 ?_; refine yy74 ?_; refine yy5 ?_; (refine zc auto_wl (digit_calls _ _) ?_; rintro r H' ⟨rfl, rfl⟩); refine yy79 ?_; refine aw_cond rfl (fun hc => ?_) (fun hc => ?_); refine yy51 ?_; refine yy136 ?_; refine yy14 ?_; rotate_left; refine yy113 ?_; refine yy2 ?_; refine yy55 ?_; refine yy4 ?_; refine yy32 ?_; refine yy103 ?_; refine yy31 ?_; refine yy84 ?_; (refine zc auto_wl (hnc _) ?_; rintro r H' ⟨rfl, rfl⟩); refine yy80 ?_; refine yy55 ?_; refine yy14 ?_; refine yy9 ?_; refine yy52 ?_; refine yy25 ?_; refine yy2 ?_; refine yy103 ?_; refine yy31 ?_; refine yy84 ?_; refine yy55 ?_; refine yy16 ?_; refine yy23 ?_; refine yy26 ?_; refine yy37 ?_; refine za4 rfl rfl rfl auto_heap auto_al auto_src auto_len auto_len (fun oN hoN => ?_); refine yy40 ?_; refine yy4 ?_; refine yy78 ?_; refine yy31 ?_; refine yy14 ?_; rotate_left; exact absurd hc auto_no) | focus (refine yy9 ?_; refine yy31 ?_; refine yy59 ?_; refine yy119 ?_; refine yy7 ?_; refine zg1 rfl rfl rfl (fun hc => ?_) (fun hc => ?_); exact absurd hc auto_no; refine yy66 ?_; refine yy53 ?_; refine yy81 ?_; refine yy113 ?_; refine yy2 ?_; refine yy55 ?_; refine yy4 ?_; refine yy32 ?_; refine yy103 ?_; refine yy31 ?_; refine yy84 ?_; (refine zc auto_wl (hnc _) ?_; rintro r H' ⟨rfl, rfl⟩); refine yy80 ?_; refine yy55 ?_; refine yy14 ?_; refine yy9 ?_; refine yy52 ?_; refine yy25 ?_; refine yy2 ?_; refine yy103 ?_; refine yy31 ?_; refine yy84 ?_; refine yy55 ?_; refine yy16 ?_; refine yy23 ?_; refine yy26 ?_; refine yy37 ?_; refine za4 rfl rfl rfl auto_heap auto_al auto_src auto_len auto_len (fun oN hoN => ?_); refine yy40 ?_; refine yy4 ?_; refine yy78 ?_; refine yy31 ?_; refine yy14 ?_; rotate_left) | fail)
            all_goals try (exfalso; omega)
            all_goals try exact absurd (show digitB _ = true by assumption) (by rw [l2]; decide)
            rw [hsub]
            rw [hsub] at hoN
            obtain ⟨k1, k2, k3, k4, k5⟩ := leafHeap (X := .cel (acc.flatMap Wd.cells ++ [avI 3, .str ((t.drop a).take j), avI v, avI a])) hfr q1 hoL2.out hne hoW hoN
            exact ⟨t.length - (a + j), _, _, by omega, Ent.to (by (repeat' (first | exact RSub.nil _ | apply RSub.cons)); all_goals (first | rfl | exact congrArg (AV.vw _ 4 0) (by rw [List.length_append]; rfl))) rfl, a + j, oN, m, acc ++ [⟨3, (t.drop a).take j, v, a⟩], by omega, by omega, hF2.out, by rw [List.length_append, List.length_singleton]; omega, ⟨k1, by rw [List.flatMap_append]; exact k2, k3, k4, k5⟩, rfl, rfl⟩)
        | false =>
          have hst2 := hst.out
          rw [if_neg (by rw [hnb]; decide)] at hst2
          have hF2 := (cutF_err hsn hst2).symm.trans hF.out
          replace hF2 := Hdn.mk hF2
          rw [hnb] at hnc
          refine hex _ (fun he l2 => ?_) (fun he => ?_)
          all_goals (
            (first | focus (refine yy9 ?_; refine yy31 ?_; refine yy59 ?_; refine yy119 ?_; refine yy7 ?_; refine zg1 rfl rfl rfl (fun hc => ?_) (fun hc => ?_); refine yy86 ?_; refine yy18 ?_; refine yy18 ?_; refine yy114 ?_; refine yy74 ?_; refine yy5 ?_; (refine zc auto_wl (digit_calls _ _) ?_; rintro r H' ⟨rfl, rfl⟩); refine yy79 ?_; refine aw_cond rfl (fun hc => ?_) (fun hc => ?_); refine yy51 ?_; refine yy136 ?_; refine yy14 ?_; rotate_left; refine yy113 ?_; refine yy2 ?_; refine yy55 ?_; refine yy4 ?_; refine yy32 ?_; refine yy103 ?_; refine yy31 ?_; refine yy84 ?_; (refine zc auto_wl (hnc _) ?_; rintro r H' ⟨rfl, rfl⟩); refine yy80 ?_; refine yy55 ?_; refine yy14 ?_; refine yy9 ?_; refine yy104 ?_; refine yy19 ?_; refine yy20 ?_; refine yy21 ?_; refine yy36 ?_; refine yy102 ?_; refine yy33 ?_; rotate_left; exact absurd hc auto_no) | focus (refine yy9 ?_; refine yy31 ?_; refine yy59 ?_; refine yy119 ?_; refine yy7 ?_; refine zg1 rfl rfl rfl (fun hc => ?_) (fun hc => ?_); exact absurd hc auto_no; refine yy66 ?_; refine yy53 ?_; refine yy81 ?_; refine yy113 ?_; refine yy2 ?_; refine yy55 ?_; refine yy4 ?_; refine yy32 ?_; refine yy103 ?_; refine yy31 ?_; refine yy84 ?_; (refine zc auto_wl (hnc _) ?_; rintro r H' ⟨rfl, rfl⟩); refine yy80 ?_; refine yy55 ?_; refine yy14 ?_; refine yy9 ?_; refine yy104 ?_; refine yy19 ?_; refine yy20 ?_; refine yy21 ?_; refine yy36 ?_; refine yy102 ?_; refine yy33 ?_; rotate_left) | fail)
            all_goals try (exfalso; omega)
            all_goals try exact absurd (show digitB _ = true by assumption) (by rw [l2]; decide)
            exact ⟨.inl rfl, _, _, _, (Ent.cellRet 3 [avI 7, avI a] rfl auto_heap (by ((repeat' (first | exact WC.nil | apply WC.cons)); all_goals (first | exact W.of rfl | exact W.int rfl | exact W.nilb rfl | exact W.empb rfl | exact W.bysx rfl | exact W.nils rfl | exact W.emps rfl | exact W.slsx rfl))) (leafHs hfr hoB hoW)).trans (Ent.weakReg 2 rfl (W.nils rfl)), ret_2 rfl (rv1_tmp rfl) (rv1_agg (m := 2) rfl rfl rfl (by decide)), by rw [← hF2.out]; rfl, rfl⟩)
    have hdg0 : digitB (t.getD a 0) = false := by simpa using hdg
    have hst : cutStep (t.drop a) = if 0 < (signB (t.drop a)).length then .word 4 0 (signB (t.drop a)).length else .err := by
      have h := hcs'.out
      have hcm2 := hcm2.out
      rw [h] at hcm2 ⊢
      simp only [cutStep, if_neg hw.out, if_neg hcm2, if_neg hlt1, if_neg hdg]
    have hsc : ∀ H, ACalls Try.prog 62 [.str ((t.drop a).take (t.length - a))] H fun r H' => r = .str (signB (t.drop a)) ∧ H' = H := fun H => by
      rw [List.take_of_length_le (by omega)]; exact sign_calls H _ hsn (by omega)
    have cL : ∀ H, ACalls Try.prog 58 [.raw (.int .u8 ((t.getD a 0).toNat : Int))] H fun r H' => r = avB false ∧ H' = H := fun H => by rw [← hlt0]; exact letter_calls H _
    have cD : ∀ H, ACalls Try.prog 59 [.raw (.int .u8 ((t.getD a 0).toNat : Int))] H fun r H' => r = avB false ∧ H' = H := fun H => by rw [← hdg0]; exact digit_calls H _
    have hs2 : (signB (t.drop a)).length ≤ (t.drop a).length := signB_le _
    have hcm3 : ∀ (K : Prop), (¬ (t.getD a 0).toNat = 45 → K) → ((t.getD a 0).toNat = 45 → a + 1 < t.length → ¬ (t.getD (a + 1) 0).toNat = 45 → K) → ((t.getD a 0).toNat = 45 → ¬ a + 1 < t.length → K) → K := fun K f g h => by
      by_cases e1 : (t.getD a 0).toNat = 45
      · by_cases e2 : a + 1 < t.length
        · exact g e1 e2 (fun e3 => hcm.out ⟨e1, e2, e3⟩)
        · exact h e1 e2
      · exact f e1
    clear hcm hcm2
    generalize hsg : signB (t.drop a) = sg at *
    have hsub2 : (t.drop a).take (a + sg.length - a) = (t.drop a).take sg.length := by rw [Nat.add_sub_cancel_left]
    by_cases hk0 : 0 < sg.length
    · rw [if_pos hk0] at hst
      have hF2 := (cutF_word hsn hst).symm.trans hF.out
      rw [List.drop_drop] at hF2
      replace hF2 := Hdn.mk hF2
      clear hst
      refine hcm3 _ (fun x1 => ?_) (fun x1 x2 x3 => ?_) (fun x1 x2 => ?_)
      all_goals (
        (first | focus (refine yy9 ?_; refine yy59 ?_; refine yy49 ?_; refine aw_condp rfl (fun hc => ?_) (fun hc => ?_); refine yy51 ?_; refine yy2 ?_; refine yy97 ?_; refine yy74 ?_; refine yy6 ?_; refine yy9 ?_; refine yy17 ?_; refine zg2 rfl rfl rfl (fun hc => ?_) (fun hc => ?_); exact absurd hc (Hdq.out (by assumption)); replace hc := hide_nat hc; refine yy85 ?_; refine yy7 ?_; refine zg2 rfl rfl rfl (fun hc => ?_) (fun hc => ?_); exact absurd hc (Hdq.out (by assumption)); replace hc := hide_nat hc; refine yy85 ?_; refine yy7 ?_; refine zg2 rfl rfl rfl (fun hc => ?_) (fun hc => ?_); exact absurd hc (Hdq.out (by assumption)); replace hc := hide_nat hc; refine yy85 ?_; refine yy4 ?_; refine yy30 ?_; intro hc; replace hc := hide_nat hc; refine yy35 ?_; refine yy9 ?_; refine yy17 ?_; refine zg1 rfl rfl rfl (fun hc => ?_) (fun hc => ?_); exact absurd hc auto_no; replace hc := hide_nat hc; refine yy66 ?_; refine yy63 ?_; refine yy7 ?_; refine yy66 ?_; refine yy53 ?_; refine yy25 ?_; refine yy15 ?_; refine yy19 ?_; refine yy20 ?_; refine awl_alloc rfl rfl rfl (fun oN hoN => ?_); refine yy11 ?_; refine yy4 ?_; refine yy15 ?_; refine yy105 ?_; refine yy19 ?_; (refine zc auto_wl (cL _) ?_; rintro r H' ⟨rfl, rfl⟩); refine yy82 ?_; refine yy19 ?_; (refine zc auto_wl (cD _) ?_; rintro r H' ⟨rfl, rfl⟩); refine yy82 ?_; refine yy2 ?_; refine yy55 ?_; refine yy16 ?_; refine yy97 ?_; refine yy84 ?_; (refine zc auto_wl (hsc _) ?_; rintro r H' ⟨rfl, rfl⟩); refine yy133 ?_; refine yy6 ?_; refine yy78 ?_; refine yy123 ?_; refine yy14 ?_; refine yy9 ?_; refine yy127 ?_; refine yy4 ?_; refine yy60 ?_; intro hc; refine yy2 ?_; refine yy103 ?_; refine yy31 ?_; refine yy84 ?_; refine yy55 ?_; refine yy16 ?_; refine yy23 ?_; refine yy26 ?_; refine yy37 ?_; refine za4 rfl rfl rfl auto_heap auto_al auto_src auto_len auto_len (fun oN hoN => ?_); refine yy40 ?_; refine yy4 ?_; refine yy78 ?_; refine yy31 ?_; refine yy14 ?_; rotate_left; exact absurd hc auto_no) | focus (refine yy9 ?_; refine yy59 ?_; refine yy49 ?_; refine aw_condp rfl (fun hc => ?_) (fun hc => ?_); refine yy51 ?_; refine yy2 ?_; refine yy97 ?_; refine yy74 ?_; refine yy6 ?_; refine yy9 ?_; refine yy17 ?_; refine zg2 rfl rfl rfl (fun hc => ?_) (fun hc => ?_); exact absurd hc (Hdq.out (by assumption)); replace hc := hide_nat hc; refine yy85 ?_; refine yy7 ?_; refine zg2 rfl rfl rfl (fun hc => ?_) (fun hc => ?_); exact absurd hc (Hdq.out (by assumption)); replace hc := hide_nat hc; refine yy85 ?_; refine yy7 ?_; refine zg2 rfl rfl rfl (fun hc => ?_) (fun hc => ?_); exact absurd hc (Hdq.out (by assumption)); replace hc := hide_nat hc; refine yy85 ?_; refine yy4 ?_; refine yy30 ?_; intro hc; replace hc := hide_nat hc; refine yy35 ?_; refine yy9 ?_; refine yy17 ?_; refine zg1 rfl rfl rfl (fun hc => ?_) (fun hc => ?_); refine yy18 ?_; refine yy114 ?_; refine yy86 ?_; refine yy133 ?_; refine yy5 ?_; refine yy119 ?_; refine yy117 ?_; refine zg1 rfl rfl rfl (fun hc => ?_) (fun hc => ?_); refine yy86 ?_; refine yy18 ?_; refine yy114 ?_; refine yy74 ?_; refine yy96 ?_; refine yy79 ?_; refine yy90 ?_; intro hc; replace hc := hide_nat hc; refine yy35 ?_; refine yy15 ?_; refine yy19 ?_; refine yy20 ?_; refine awl_alloc rfl rfl rfl (fun oN hoN => ?_); refine yy11 ?_; refine yy4 ?_; refine yy15 ?_; refine yy105 ?_; refine yy19 ?_; (refine zc auto_wl (cL _) ?_; rintro r H' ⟨rfl, rfl⟩); refine yy82 ?_; refine yy19 ?_; (refine zc auto_wl (cD _) ?_; rintro r H' ⟨rfl, rfl⟩); refine yy82 ?_; refine yy2 ?_; refine yy55 ?_; refine yy16 ?_; refine yy97 ?_; refine yy84 ?_; (refine zc auto_wl (hsc _) ?_; rintro r H' ⟨rfl, rfl⟩); refine yy133 ?_; refine yy6 ?_; refine yy78 ?_; refine yy123 ?_; refine yy14 ?_; refine yy9 ?_; refine yy127 ?_; refine yy4 ?_; refine yy60 ?_; intro hc; refine yy2 ?_; refine yy103 ?_; refine yy31 ?_; refine yy84 ?_; refine yy55 ?_; refine yy16 ?_; refine yy23 ?_; refine yy26 ?_; refine yy37 ?_; refine za4 rfl rfl rfl auto_heap auto_al auto_src auto_len auto_len (fun oN hoN => ?_); refine yy40 ?_; refine yy4 ?_; refine yy78 ?_; refine yy31 ?_; refine yy14 ?_; rotate_left; exact absurd hc auto_no; exact absurd hc auto_no; exact absurd hc auto_no) | focus (refine yy9 ?_; refine yy59 ?_; refine yy49 ?_; refine aw_condp rfl (fun hc => ?_) (fun hc => ?_); refine yy51 ?_; refine yy2 ?_; refine yy97 ?_; refine yy74 ?_; refine yy6 ?_; refine yy9 ?_; refine yy17 ?_; refine zg2 rfl rfl rfl (fun hc => ?_) (fun hc => ?_); exact absurd hc (Hdq.out (by assumption)); replace hc := hide_nat hc; refine yy85 ?_; refine yy7 ?_; refine zg2 rfl rfl rfl (fun hc => ?_) (fun hc => ?_); exact absurd hc (Hdq.out (by assumption)); replace hc := hide_nat hc; refine yy85 ?_; refine yy7 ?_; refine zg2 rfl rfl rfl (fun hc => ?_) (fun hc => ?_); exact absurd hc (Hdq.out (by assumption)); replace hc := hide_nat hc; refine yy85 ?_; refine yy4 ?_; refine yy30 ?_; intro hc; replace hc := hide_nat hc; refine yy35 ?_; refine yy9 ?_; refine yy17 ?_; refine zg1 rfl rfl rfl (fun hc => ?_) (fun hc => ?_); refine yy18 ?_; refine yy114 ?_; refine yy86 ?_; refine yy133 ?_; refine yy5 ?_; refine yy119 ?_; refine yy117 ?_; refine zg1 rfl rfl rfl (fun hc => ?_) (fun hc => ?_); exact absurd hc auto_no; refine yy66 ?_; refine yy63 ?_; refine yy25 ?_; refine yy15 ?_; refine yy19 ?_; refine yy20 ?_; refine awl_alloc rfl rfl rfl (fun oN hoN => ?_); refine yy11 ?_; refine yy4 ?_; refine yy15 ?_; refine yy105 ?_; refine yy19 ?_; (refine zc auto_wl (cL _) ?_; rintro r H' ⟨rfl, rfl⟩); refine yy82 ?_; refine yy19 ?_; (refine zc auto_wl (cD _) ?_; rintro r H' ⟨rfl, rfl⟩); refine yy82 ?_; refine yy2 ?_; refine yy55 ?_; refine yy16 ?_; refine yy97 ?_; refine yy84 ?_; (refine zc auto_wl (hsc _) ?_; rintro r H' ⟨rfl, rfl⟩); refine yy133 ?_; refine yy6 ?_; refine yy78 ?_; refine yy123 ?_; refine yy14 ?_; refine yy9 ?_; refine yy127 ?_; refine yy4 ?_; refine yy60 ?_; intro hc; refine yy2 ?_; refine yy103 ?_; refine yy31 ?_; refine yy84 ?_; refine yy55 ?_; refine yy16 ?_; refine yy23 ?_; refine yy26 ?_; refine yy37 ?_; refine za4 rfl rfl rfl auto_heap auto_al auto_src auto_len auto_len (fun oN hoN => ?_); refine yy40 ?_; refine yy4 ?_; refine yy78 ?_; refine yy31 ?_; refine yy14 ?_; rotate_left; exact absurd hc auto_no; exact absurd hc auto_no) | fail)
        all_goals try (exfalso; omega)
        have hoW := AHeap.none_of_set hoN
        rw [hsub2] at hoN ⊢
        obtain ⟨k1, k2, k3, k4, k5⟩ := leafHeap (X := .cel (acc.flatMap Wd.cells ++ [avI 4, .str ((t.drop a).take sg.length), avI 0, avI a])) hfr q1 hoL2.out hne (by assumption) hoN
        exact ⟨t.length - (a + sg.length), _, _, by omega, Ent.to (by (repeat' (first | exact RSub.nil _ | apply RSub.cons)); all_goals (first | rfl | exact congrArg (AV.vw _ 4 0) (by rw [List.length_append]; rfl))) rfl, a + sg.length, oN, m, acc ++ [⟨4, (t.drop a).take sg.length, 0, a⟩], by omega, by omega, hF2.out, by rw [List.length_append, List.length_singleton]; omega, ⟨k1, by rw [List.flatMap_append]; exact k2, k3, k4, k5⟩, rfl, rfl⟩)
    · rw [if_neg hk0] at hst
      have hF2 := (cutF_err hsn hst).symm.trans hF.out
      replace hF2 := Hdn.mk hF2
      clear hst
      refine hcm3 _ (fun x1 => ?_) (fun x1 x2 x3 => ?_) (fun x1 x2 => ?_)
      all_goals (
        (first | focus (refine yy9 ?_; refine yy59 ?_; refine yy49 ?_; refine aw_condp rfl (fun hc => ?_) (fun hc => ?_); refine yy51 ?_; refine yy2 ?_; refine yy97 ?_; refine yy74 ?_; refine yy6 ?_; refine yy9 ?_; refine yy17 ?_; refine zg2 rfl rfl rfl (fun hc => ?_) (fun hc => ?_); exact absurd hc (Hdq.out (by assumption)); replace hc := hide_nat hc; refine yy85 ?_; refine yy7 ?_; refine zg2 rfl rfl rfl (fun hc => ?_) (fun hc => ?_); exact absurd hc (Hdq.out (by assumption)); replace hc := hide_nat hc; refine yy85 ?_; refine yy7 ?_; refine zg2 rfl rfl rfl (fun hc => ?_) (fun hc => ?_); exact absurd hc (Hdq.out (by assumption)); replace hc := hide_nat hc; refine yy85 ?_; refine yy4 ?_; refine yy30 ?_; intro hc; replace hc := hide_nat hc; refine yy35 ?_; refine yy9 ?_; refine yy17 ?_; refine zg1 rfl rfl rfl (fun hc => ?_) (fun hc => ?_); exact absurd hc auto_no; replace hc := hide_nat hc; refine yy66 ?_; refine yy63 ?_; refine yy7 ?_; refine yy66 ?_; refine yy53 ?_; refine yy25 ?_; refine yy15 ?_; refine yy19 ?_; refine yy20 ?_; refine awl_alloc rfl rfl rfl (fun oN hoN => ?_); refine yy11 ?_; refine yy4 ?_; refine yy15 ?_; refine yy105 ?_; refine yy19 ?_; (refine zc auto_wl (cL _) ?_; rintro r H' ⟨rfl, rfl⟩); refine yy82 ?_; refine yy19 ?_; (refine zc auto_wl (cD _) ?_; rintro r H' ⟨rfl, rfl⟩); refine yy82 ?_; refine yy2 ?_; refine yy55 ?_; refine yy16 ?_; refine yy97 ?_; refine yy84 ?_; (refine zc auto_wl (hsc _) ?_; rintro r H' ⟨rfl, rfl⟩); refine yy133 ?_; refine yy6 ?_; refine yy78 ?_; refine yy123 ?_; refine yy14 ?_; refine yy9 ?_; refine yy127 ?_; refine yy4 ?_; refine aw_condp rfl (fun hc => ?_) (fun hc => ?_); refine yy19 ?_; refine yy20 ?_; refine yy21 ?_; refine yy36 ?_; refine yy102 ?_; refine yy33 ?_; rotate_left; exact absurd hc auto_no; exact absurd hc auto_no) | focus (refine yy9 ?_; refine yy59 ?_; refine yy49 ?_; refine aw_condp rfl (fun hc => ?_) (fun hc => ?_); refine yy51 ?_; refine yy2 ?_; refine yy97 ?_; refine yy74 ?_; refine yy6 ?_; refine yy9 ?_; refine yy17 ?_; refine zg2 rfl rfl rfl (fun hc => ?_) (fun hc => ?_); exact absurd hc (Hdq.out (by assumption)); replace hc := hide_nat hc; refine yy85 ?_; refine yy7 ?_; refine zg2 rfl rfl rfl (fun hc => ?_) (fun hc => ?_); exact absurd hc (Hdq.out (by assumption)); replace hc := hide_nat hc; refine yy85 ?_; refine yy7 ?_; refine zg2 rfl rfl rfl (fun hc => ?_) (fun hc => ?_); exact absurd hc (Hdq.out (by assumption)); replace hc := hide_nat hc; refine yy85 ?_; refine yy4 ?_; refine yy30 ?_; intro hc; replace hc := hide_nat hc; refine yy35 ?_; refine yy9 ?_; refine yy17 ?_; refine zg1 rfl rfl rfl (fun hc => ?_) (fun hc => ?_); refine yy18 ?_; refine yy114 ?_; refine yy86 ?_; refine yy133 ?_; refine yy5 ?_; refine yy119 ?_; refine yy117 ?_; refine zg1 rfl rfl rfl (fun hc => ?_) (fun hc => ?_); refine yy86 ?_; refine yy18 ?_; refine yy114 ?_; refine yy74 ?_; refine yy96 ?_; refine yy79 ?_; refine yy90 ?_; intro hc; replace hc := hide_nat hc; refine yy35 ?_; refine yy15 ?_; refine yy19 ?_; refine yy20 ?_; refine awl_alloc rfl rfl rfl (fun oN hoN => ?_); refine yy11 ?_; refine yy4 ?_; refine yy15 ?_; refine yy105 ?_; refine yy19 ?_; (refine zc auto_wl (cL _) ?_; rintro r H' ⟨rfl, rfl⟩); refine yy82 ?_; refine yy19 ?_; (refine zc auto_wl (cD _) ?_; rintro r H' ⟨rfl, rfl⟩); refine yy82 ?_; refine yy2 ?_; refine yy55 ?_; refine yy16 ?_; refine yy97 ?_; refine yy84 ?_; (refine zc auto_wl (hsc _) ?_; rintro r H' ⟨rfl, rfl⟩); refine yy133 ?_; refine yy6 ?_; refine yy78 ?_; refine yy123 ?_; refine yy14 ?_; refine yy9 ?_; refine yy127 ?_; refine yy4 ?_; refine aw_condp rfl (fun hc => ?_) (fun hc => ?_); refine yy19 ?_; refine yy20 ?_; refine yy21 ?_; refine yy36 ?_; refine yy102 ?_; refine yy33 ?_; rotate_left; exact absurd hc auto_no; exact absurd hc auto_no; exact absurd hc auto_no; exact absurd hc auto_no) | focus (refine yy9 ?_; refine yy59 ?_; refine yy49 ?_; refine aw_condp rfl (fun hc => ?_) (fun hc => ?_); refine yy51 ?_; refine yy2 ?_; refine yy97 ?_; refine yy74 ?_; refine yy6 ?_; refine yy9 ?_; refine yy17 ?_; refine zg2 rfl rfl rfl (fun hc => ?_) (fun hc => ?_); exact absurd hc (Hdq.out (by assumption)); replace hc := hide_nat hc; refine yy85 ?_; refine yy7 ?_; refine zg2 rfl rfl rfl (fun hc => ?_) (fun hc => ?_); exact absurd hc (Hdq.out (by assumption)); replace hc := hide_nat hc; refine yy85 ?_; refine yy7 ?_; refine zg2 rfl rfl rfl (fun hc => ?_) (fun hc => ?_); exact absurd hc (Hdq.out (by assumption)); replace hc := hide_nat hc; refine yy85 ?_; refine yy4 ?_; refine yy30 ?_; intro hc; replace hc := hide_nat hc; refine yy35 ?_; refine yy9 ?_; refine yy17 ?_; refine zg1 rfl rfl rfl (fun hc => ?_) (fun hc => ?_); refine yy18 ?_; refine yy114 ?_; refine yy86 ?_; refine yy133 ?_; refine yy5 ?_; refine yy119 ?_; refine yy117 ?_; refine zg1 rfl rfl rfl (fun hc => ?_) (fun hc => ?_); exact absurd hc auto_no; refine yy66 ?_; refine yy63 ?_; refine yy25 ?_; refine yy15 ?_; refine yy19 ?_; refine yy20 ?_; refine awl_alloc rfl rfl rfl (fun oN hoN => ?_); refine yy11 ?_; refine yy4 ?_; refine yy15 ?_; refine yy105 ?_; refine yy19 ?_; (refine zc auto_wl (cL _) ?_; rintro r H' ⟨rfl, rfl⟩); refine yy82 ?_; refine yy19 ?_; (refine zc auto_wl (cD _) ?_; rintro r H' ⟨rfl, rfl⟩); refine yy82 ?_; refine yy2 ?_; refine yy55 ?_; refine yy16 ?_; refine yy97 ?_; refine yy84 ?_; (refine zc auto_wl (hsc _) ?_; rintro r H' ⟨rfl, rfl⟩); refine yy133 ?_; refine yy6 ?_; refine yy78 ?_; refine yy123 ?_; refine yy14 ?_; refine yy9 ?_; refine yy127 ?_; refine yy4 ?_; refine aw_condp rfl (fun hc => ?_) (fun hc => ?_); refine yy19 ?_; refine yy20 ?_; refine yy21 ?_; refine yy36 ?_; refine yy102 ?_; refine yy33 ?_; rotate_left; exact absurd hc auto_no; exact absurd hc auto_no; exact absurd hc auto_no) | fail)
        all_goals try (exfalso; omega)
        exact ⟨.inl rfl, _, _, _, (Ent.cellRet 3 [avI 7, avI a] rfl auto_heap (by ((repeat' (first | exact WC.nil | apply WC.cons)); all_goals (first | exact W.of rfl | exact W.int rfl | exact W.nilb rfl | exact W.empb rfl | exact W.bysx rfl | exact W.nils rfl | exact W.emps rfl | exact W.slsx rfl))) (leafHs hfr hoB (by assumption))).trans (Ent.weakReg 2 rfl (W.nils rfl)), ret_2 rfl (rv1_tmp rfl) (rv1_agg (m := 2) rfl rfl rfl (by decide)), by rw [← hF2.out]; rfl, rfl⟩)
  · obtain rfl : a = t.length := by omega
    have hal := wds_len acc
    have hacc2 : acc.length ≤ 16384 := by omega
    replace hoL := Hdn.mk hoL
    (first | focus (refine yy9 ?_; refine yy59 ?_; refine yy49 ?_; refine yy34 ?_; intro hc; refine yy2 ?_; refine yy23 ?_; refine yy59 ?_; refine yy20 ?_; refine yy37 ?_; refine za4 rfl rfl rfl auto_heap auto_al auto_src auto_len auto_len (fun oN hoN => ?_); refine yy20 ?_; refine yy40 ?_; refine yy36 ?_; rotate_left) | fail)
    obtain ⟨e1, e2, e3⟩ := leafEnd (X := .cel (acc.flatMap Wd.cells ++ [.raw (.int .i64 0), .raw (.string ⟨#[]⟩), .raw (.int .i64 0), avI t.length])) (Y := .cel [avI 0, avI 0]) (oB := oB) (oN := oN) hfr hoB hoL.out q1 hoN
    refine ⟨.inl rfl, _, _, _, (Ent.seal_cel (i := 2) rfl e1 (by rw [List.length_append, hal]; simp; omega)).trans ((Ent.weakReg 2 rfl (by exact w_sls (wc_app (wc_refl _) (WC.cons (W.of rfl) (WC.cons (w_str0 rfl) (WC.cons (W.of rfl) (WC.cons (W.of rfl) WC.nil))))))).trans (Ent.cellRet 3 [avI 0, avI 0] rfl e2 (by ((repeat' (first | exact WC.nil | apply WC.cons)); all_goals (first | exact W.of rfl | exact W.int rfl | exact W.nilb rfl | exact W.empb rfl | exact W.bysx rfl | exact W.nils rfl | exact W.emps rfl | exact W.slsx rfl))) e3)), ret_2 rfl (rv1_tmp rfl) (rv1_agg (m := 2) rfl rfl rfl (by decide)), ?_, rfl⟩
    rw [← hF]
    obtain ⟨m, rfl⟩ : ∃ m', m = m' + 1 := ⟨m - 1, by omega⟩
    rw [List.drop_length]
    simp only [cutF, cutA, wdsA, List.length_append, List.length_singleton, List.flatMap_append, List.flatMap_singleton]
    rfl
end Go.Proofs.Ytmgkhfnhaeplgaa

namespace Go.Proofs.Ytmgkhfnhaeplgaa
open Go Go.Am Go.Proofs
set_option linter.unusedSimpArgs false
set_option linter.unusedVariables false
set_option maxRecDepth 20000
set_option maxHeartbeats 8000000

/-! The reference's parser: its words. -/
def Ps.cells (ws : List Wd) (S : Ps) : List AV := [wdsA ws, avI S.k, avI S.err, avI S.at_, avI S.d, avI S.parts, avI S.names]
theorem AHeap.set_id {H : AHeap} {o : Nat} {x : AO} (h : H o = some x) : H.set o x = H := funext fun p => by
  unfold AHeap.set
  split
  · rename_i e; rw [e, h]
  · rfl
theorem wd_seg {ws : List Wd} {k : Nat} (h : k < ws.length) : ((ws.flatMap Wd.cells).drop (k * 4)).take 4 = (ws.getD k Wd0).cells := by
  have hg : ws[k]? = some ws[k] := List.getElem?_eq_getElem h
  rw [List.getD_eq_getElem?_getD, hg]
  exact flat_seg (sz := 4) (f := Wd.cells) (fun _ => rfl) hg
theorem wd_get {ws : List Wd} {k : Nat} (h : k < ws.length) {j : Nat} (hj : j < 4) {y : AV} (hy : (ws.getD k Wd0).cells[j]? = some y) : (ws.flatMap Wd.cells)[k * 4 + j]? = some y := by
  have hg : ws[k]? = some ws[k] := List.getElem?_eq_getElem h
  rw [List.getD_eq_getElem?_getD, hg] at hy
  exact flat_get (sz := 4) (f := Wd.cells) (fun _ => rfl) hg hj hy
section
variable {ws : List Wd} {o : Nat}
theorem w_calls (H : AHeap) (S : Ps) (h : H o = some (.cel (S.cells ws))) (hk : S.k < ws.length) (hl : ws.length ≤ 20000) :
    ACalls Try.prog 39 [.ptr o 0] H fun r H' => r = .agg (S.w ws).cells ∧ H' = H := by
  have hs := wd_seg hk
  have hfl := wds_len ws
  obtain ⟨k, err, at_, d, parts, names⟩ := S
  simp only [Ps.cells, Ps.w, wdsA] at *
  generalize ws.getD k Wd0 = w at *
  refine acalls_of_aw1 Try.func39 rfl (by decide) ?_
  (first | focus (refine yy2 ?_; refine awl_alloc rfl rfl rfl (fun oN hoN => ?_); refine yy4 ?_; refine yy73 ?_; (apply awt_s; · exact s_move (v := .ptr _ _) rfl); (apply awt_s; · exact s_nilCheck_ptr rfl); (apply awt_s; · exact s_fieldAddr_ptr rfl); (apply awt_s; · exact s_load_cel rfl auto_heap rfl); (apply awt_s; · exact s_move (v := .ptr _ _) rfl); (apply awt_s; · exact s_nilCheck_ptr rfl); (apply awt_s; · exact s_fieldAddr_ptr rfl); (apply awt_s; · exact s_load_cel rfl auto_heap rfl); (apply awt_s; · exact s_indexAddr_sls rfl rfl auto_len); (apply awt_s; · exact s_load_pce_agg rfl (by assumption) (by rfl) (by decide)); refine awt_last ?_; refine yy11 ?_; refine yy108 ?_; rotate_left) | fail)
  exact ⟨.inl rfl, _, _, _, Ent.cellRet 2 w.cells rfl auto_heap (by ((repeat' (first | exact WC.nil | apply WC.cons)); all_goals (first | exact W.of rfl | exact W.int rfl | exact W.nilb rfl | exact W.empb rfl | exact W.bysx rfl | exact W.nils rfl | exact W.emps rfl | exact W.slsx rfl))) auto_hs, ret_1 rfl (rv1_agg (m := 4) rfl rfl rfl (by decide)), rfl, rfl⟩
theorem fail_calls (H : AHeap) (S : Ps) (e : Nat) (h : H o = some (.cel (S.cells ws))) (hk : S.k < ws.length) (hl : ws.length ≤ 20000) :
    ACalls Try.prog 40 [.ptr o 0, avI e] H fun r H' => r = .tup [] ∧ H' = H.set o (.cel ((S.fail ws e).cells ws)) := by
  have hw := fun H h => w_calls (o := o) (ws := ws) H S h hk hl
  unfold Ps.fail
  generalize S.w ws = w at *
  obtain ⟨k, err, at_, d, parts, names⟩ := S
  simp only [Ps.cells, Wd.cells, wdsA] at *
  refine acalls_of_aw2 Try.func40 rfl (by decide) ?_
  (first | focus (refine yy8 ?_; refine yy56 ?_; refine yy87 ?_; refine yy4 ?_; refine aw_condp rfl (fun hc => ?_) (fun hc => ?_); refine yy67 ?_; refine yy7 ?_; refine yy125 ?_; (refine zc auto_wl (hw _ auto_heap) ?_; rintro r H' ⟨rfl, rfl⟩); refine yy57 ?_; refine yy20 ?_; refine yy88 ?_; refine yy139 ?_; refine yy61 ?_; rotate_left; refine aw_skip ?_; rotate_left) | fail)
  · exact ⟨.inr rfl, _, _, _, Ent.refl _ _, ret0 rfl, rfl, by rw [if_pos (by omega)]; rfl⟩
  · exact ⟨.inr rfl, _, _, _, Ent.refl _ _, ret0 rfl, rfl, by rw [if_neg (by omega)]; exact (AHeap.set_id h).symm⟩
theorem is_calls (H : AHeap) (S : Ps) (s : Bs) (h : H o = some (.cel (S.cells ws))) (hk : S.k < ws.length) (hl : ws.length ≤ 20000) :
    ACalls Try.prog 73 [.ptr o 0, .str s] H fun r H' => r = avB (S.is ws s) ∧ H' = H := by
  have hw := fun H h => w_calls (o := o) (ws := ws) H S h hk hl
  unfold Ps.is
  generalize S.w ws = w at *
  obtain ⟨k, err, at_, d, parts, names⟩ := S
  simp only [Ps.cells, Wd.cells, wdsA] at *
  refine acalls_of_aw2 Try.func73 rfl (by decide) ?_
  (first | focus (refine yy15 ?_; refine yy8 ?_; (refine zc auto_wl (hw _ auto_heap) ?_; rintro r H' ⟨rfl, rfl⟩); refine yy57 ?_; refine yy6 ?_; refine yy8 ?_; refine yy56 ?_; refine yy17 ?_; refine zg1 rfl rfl rfl (fun hc => ?_) (fun hc => ?_); refine yy18 ?_; refine yy87 ?_; refine yy5 ?_; refine yy7 ?_; refine zg2 rfl rfl rfl (fun hc => ?_) (fun hc => ?_); refine yy120 ?_; refine yy5 ?_; refine yy69 ?_; refine yy69 ?_; refine yy18 ?_; refine yy125 ?_; refine yy5 ?_; (refine zc auto_wl (hw _ auto_heap) ?_; rintro r H' ⟨rfl, rfl⟩); refine yy5 ?_; refine yy57 ?_; refine yy5 ?_; refine yy86 ?_; refine awl_s rfl (s_streq rfl rfl) ?_; refine yy69 ?_; refine yy41 ?_; rotate_left; refine yy18 ?_; refine yy87 ?_; refine yy5 ?_; refine yy63 ?_; refine yy117 ?_; refine zg1 rfl rfl rfl (fun hc => ?_) (fun hc => ?_); refine yy125 ?_; refine yy5 ?_; (refine zc auto_wl (hw _ auto_heap) ?_; rintro r H' ⟨rfl, rfl⟩); refine yy5 ?_; refine yy57 ?_; refine yy5 ?_; refine yy86 ?_; refine awl_s rfl (s_streq rfl rfl) ?_; refine yy69 ?_; refine yy41 ?_; rotate_left; refine yy66 ?_; refine yy63 ?_; refine yy41 ?_; rotate_left; refine yy50 ?_; refine yy121 ?_; refine yy53 ?_; refine yy7 ?_; refine yy66 ?_; refine yy53 ?_; refine yy41 ?_; rotate_left) | fail)
  all_goals exact ⟨.inl rfl, _, _, _, Ent.refl _ _, ret1 rfl rfl, congrArg avB (by simp_all), rfl⟩
theorem take_calls (H : AHeap) (S : Ps) (s : Bs) (h : H o = some (.cel (S.cells ws))) (hk : S.k < ws.length) (hl : ws.length ≤ 20000) :
    ACalls Try.prog 66 [.ptr o 0, .str s] H fun r H' => r = avB (S.take ws s).1 ∧ H' = H.set o (.cel ((S.take ws s).2.cells ws)) := by
  have hw := fun H h => is_calls (o := o) (ws := ws) H S s h hk hl
  unfold Ps.take
  cases hb : S.is ws s with
  | false =>
    rw [hb] at hw
    refine acalls_of_aw2 Try.func66 rfl (by decide) ?_
    (first | focus (refine yy15 ?_; refine yy46 ?_; refine yy116 ?_; (refine zc auto_wl (hw _ auto_heap) ?_; rintro r H' ⟨rfl, rfl⟩); refine yy104 ?_; refine yy92 ?_; refine k_seq_ret ?_; rotate_left) | fail)
    exact ⟨.inl rfl, _, _, _, Ent.refl _ _, ret1 rfl rfl, rfl, (AHeap.set_id h).symm⟩
  | true =>
    rw [hb] at hw
    obtain ⟨k, err, at_, d, parts, names⟩ := S
    simp only [Ps.cells, Wd.cells, wdsA, Ps.step] at *
    refine acalls_of_aw2 Try.func66 rfl (by decide) ?_
    (first | focus (refine yy15 ?_; refine yy46 ?_; refine yy116 ?_; (refine zc auto_wl (hw _ auto_heap) ?_; rintro r H' ⟨rfl, rfl⟩); refine yy52 ?_; refine yy25 ?_; refine yy8 ?_; refine yy106 ?_; refine yy109 ?_; refine yy88 ?_; refine yy58 ?_; refine yy4 ?_; refine yy92 ?_; rotate_left) | fail)
    exact ⟨.inl rfl, _, _, _, Ent.refl _ _, ret1 rfl rfl, rfl, rfl⟩
theorem want_eq (S : Ps) (s : Bs) : S.want ws s = if (S.take ws s).1 then (S.take ws s).2 else (S.take ws s).2.fail ws 7 := by
  unfold Ps.want Ps.take
  cases S.is ws s <;> rfl
theorem take_k (S : Ps) (s : Bs) (h : (S.take ws s).1 = false) : (S.take ws s).2 = S := by
  unfold Ps.take at *
  cases hb : S.is ws s <;> simp_all
theorem want_calls (H : AHeap) (S : Ps) (s : Bs) (h : H o = some (.cel (S.cells ws))) (hk : S.k < ws.length) (hl : ws.length ≤ 20000) :
    ACalls Try.prog 63 [.ptr o 0, .str s] H fun r H' => r = .tup [] ∧ H' = H.set o (.cel ((S.want ws s).cells ws)) := by
  have hw := fun H h => take_calls (o := o) (ws := ws) H S s h hk hl
  have hf := fun H h => fail_calls (o := o) (ws := ws) H S 7 h hk hl
  rw [want_eq]
  cases hb : (S.take ws s).1 with
  | false =>
    rw [take_k S s hb] at *
    rw [hb] at hw
    refine acalls_of_aw2 Try.func63 rfl (by decide) ?_
    (first | focus (refine yy8 ?_; refine yy116 ?_; (refine zc auto_wl (hw _ auto_heap) ?_; rintro r H' ⟨rfl, rfl⟩); refine yy104 ?_; refine yy67 ?_; (refine zc auto_wl (hf _ auto_heap) ?_; rintro r H' ⟨rfl, rfl⟩); refine yy61 ?_; rotate_left) | fail)
    exact ⟨.inr rfl, _, _, _, Ent.refl _ _, ret0 rfl, rfl, by simp only [AHeap.set_set]; rfl⟩
  | true =>
    rw [hb] at hw
    refine acalls_of_aw2 Try.func63 rfl (by decide) ?_
    (first | focus (refine yy8 ?_; refine yy116 ?_; (refine zc auto_wl (hw _ auto_heap) ?_; rintro r H' ⟨rfl, rfl⟩); refine yy52 ?_; refine yy81 ?_; refine aw_skip ?_; rotate_left) | fail)
    exact ⟨.inr rfl, _, _, _, Ent.refl _ _, ret0 rfl, rfl, rfl⟩
theorem name_calls (H : AHeap) (S : Ps) (h : H o = some (.cel (S.cells ws))) (hk : S.k < ws.length) (hl : ws.length ≤ 20000) :
    ACalls Try.prog 64 [.ptr o 0] H fun r H' => r = .str (S.name ws).1 ∧ H' = H.set o (.cel ((S.name ws).2.cells ws)) := by
  have hw := fun H h => w_calls (o := o) (ws := ws) H S h hk hl
  have hf := fun H h => fail_calls (o := o) (ws := ws) H S 7 h hk hl
  have hg := wd_get hk (j := 1) (by decide) (y := .str (S.w ws).text) rfl
  have hfl := wds_len ws
  unfold Ps.name
  generalize S.w ws = w at *
  generalize hF : S.fail ws 7 = F at *
  obtain ⟨k, err, at_, d, parts, names⟩ := S
  simp only [Ps.cells, Wd.cells, wdsA, Ps.step] at *
  refine acalls_of_aw1 Try.func64 rfl (by decide) ?_
  (first | focus (refine yy2 ?_; refine yy72 ?_; refine yy91 ?_; refine yy56 ?_; refine yy130 ?_; refine yy7 ?_; refine zg2 rfl rfl rfl (fun hc => ?_) (fun hc => ?_); refine yy50 ?_; refine yy120 ?_; refine yy112 ?_; refine yy8 ?_; (refine zc auto_wl (hf _ auto_heap) ?_; rintro r H' ⟨rfl, rfl⟩); refine yy16 ?_; refine yy72 ?_; refine yy108 ?_; refine k_seq_ret ?_; rotate_left; refine yy125 ?_; refine yy5 ?_; (refine zc auto_wl (hw _ auto_heap) ?_; rintro r H' ⟨rfl, rfl⟩); refine yy5 ?_; refine yy57 ?_; refine yy5 ?_; refine yy130 ?_; refine yy63 ?_; refine yy4 ?_; refine aw_condp rfl (fun hc => ?_) (fun hc => ?_); refine yy8 ?_; (refine zc auto_wl (hf _ auto_heap) ?_; rintro r H' ⟨rfl, rfl⟩); refine yy16 ?_; refine yy72 ?_; refine yy108 ?_; refine k_seq_ret ?_; rotate_left; refine yy35 ?_; refine yy8 ?_; refine yy106 ?_; refine yy109 ?_; refine yy88 ?_; refine yy58 ?_; refine yy4 ?_; refine yy73 ?_; (apply awt_s; · exact s_move (v := .ptr _ _) rfl); (apply awt_s; · exact s_nilCheck_ptr rfl); (apply awt_s; · exact s_fieldAddr_ptr rfl); (apply awt_s; · exact s_load_cel rfl auto_heap rfl); (apply awt_s; · exact s_move (v := .ptr _ _) rfl); (apply awt_s; · exact s_nilCheck_ptr rfl); (apply awt_s; · exact s_fieldAddr_ptr rfl); (apply awt_s; · exact s_load_cel rfl auto_heap rfl); (apply awt_s; · exact s_subn rfl rfl (by omega) (by omega)); (apply awt_s; · exact s_indexAddr_sls rfl rfl auto_len); (apply awt_s; · exact s_fieldAddr_pce rfl); (apply awt_s; · exact s_load_pce rfl auto_idx); (apply awt_s; · exact s_assign (v := .str _) rfl); refine yy77 ?_; refine aw_ret ?_; rotate_left) | fail)
  · exact ⟨.inl rfl, _, _, _, Ent.refl _ _, ret1 rfl rfl, by rw [if_pos (.inl hc)]; rfl, by rw [if_pos (.inl hc)]⟩
  · exact ⟨.inl rfl, _, _, _, Ent.refl _ _, ret1 rfl rfl, by rw [if_pos (.inr (by omega))]; rfl, by rw [if_pos (.inr (by omega))]⟩
  · have hno : ¬ (err ≠ 0 ∨ w.kind ≠ 1) := by omega
    exact ⟨.inl rfl, _, _, _, Ent.refl _ _, ret1 rfl rfl, by rw [if_neg hno]; rfl, by rw [if_neg hno]; rfl⟩
theorem in_calls (H : AHeap) (S : Ps) (h : H o = some (.cel (S.cells ws))) (hk : S.k < ws.length) (hl : ws.length ≤ 20000) (hd : S.d ≤ 100) :
    ACalls Try.prog 75 [.ptr o 0] H fun r H' => r = avB (S.inn ws).1 ∧ H' = H.set o (.cel ((S.inn ws).2.cells ws)) := by
  have hf := fun H h => fail_calls (o := o) (ws := ws) H S 2 h hk hl
  unfold Ps.inn
  generalize hF : S.fail ws 2 = F at *
  obtain ⟨k, err, at_, d, parts, names⟩ := S
  simp only [Ps.cells, Wd.cells, wdsA, Ps.step] at *
  refine acalls_of_aw1 Try.func75 rfl (by decide) ?_
  (first | focus (refine yy15 ?_; refine yy46 ?_; refine yy56 ?_; refine yy110 ?_; refine aw_condp rfl (fun hc => ?_) (fun hc => ?_); refine yy92 ?_; refine k_seq_ret ?_; rotate_left; refine yy35 ?_; refine yy46 ?_; refine yy106 ?_; refine yy129 ?_; refine yy4 ?_; refine aw_condp rfl (fun hc => ?_) (fun hc => ?_); refine yy8 ?_; (refine zc auto_wl (hf _ auto_heap) ?_; rintro r H' ⟨rfl, rfl⟩); refine yy4 ?_; refine yy92 ?_; refine k_seq_ret ?_; rotate_left; refine yy35 ?_; refine yy8 ?_; refine yy106 ?_; refine yy109 ?_; refine yy88 ?_; refine yy58 ?_; refine yy4 ?_; refine yy92 ?_; rotate_left) | fail)
  · exact ⟨.inl rfl, _, _, _, Ent.refl _ _, ret1 rfl rfl, by rw [if_pos hc]; rfl, by rw [if_pos hc]; exact (AHeap.set_id h).symm⟩
  · exact ⟨.inl rfl, _, _, _, Ent.refl _ _, ret1 rfl rfl, by rw [if_neg (by omega), if_pos hc]; rfl, by rw [if_neg (by omega), if_pos hc]⟩
  · exact ⟨.inl rfl, _, _, _, Ent.refl _ _, ret1 rfl rfl, by rw [if_neg (by omega), if_neg hc]; rfl, by rw [if_neg (by omega), if_neg hc]; rfl⟩
theorem part_calls (H : AHeap) (S : Ps) (h : H o = some (.cel (S.cells ws))) (hk : S.k < ws.length) (hl : ws.length ≤ 20000) :
    ACalls Try.prog 79 [.ptr o 0] H fun r H' => r = .tup [] ∧ H' = H.set o (.cel ((S.part ws).cells ws)) := by
  have hf := fun H h => fail_calls (o := o) (ws := ws) H S 2 h hk hl
  unfold Ps.part
  generalize hF : S.fail ws 2 = F at *
  obtain ⟨k, err, at_, d, parts, names⟩ := S
  obtain ⟨k2, err2, at2, d2, parts2, names2⟩ := F
  simp only [Ps.cells, Wd.cells, wdsA, Ps.step] at *
  refine acalls_of_aw1 Try.func79 rfl (by decide) ?_
  (first | focus (refine yy46 ?_; refine yy56 ?_; refine yy17 ?_; refine zg1 rfl rfl rfl (fun hc => ?_) (fun hc => ?_); refine yy125 ?_; refine yy5 ?_; refine awl_s rfl (s_nilCheck_ptr rfl) ?_; refine yy5 ?_; refine yy62 ?_; refine yy5 ?_; refine yy135 ?_; refine yy5 ?_; refine awl_s rfl (s_geq rfl rfl) ?_; refine yy79 ?_; refine aw_condp rfl (fun hc => ?_) (fun hc => ?_); refine yy67 ?_; (refine zc auto_wl (hf _ auto_heap) ?_; rintro r H' ⟨rfl, rfl⟩); refine yy4 ?_; refine yy67 ?_; refine yy106 ?_; rotate_left; refine yy35 ?_; refine yy67 ?_; refine yy106 ?_; rotate_left; refine yy66 ?_; refine yy63 ?_; refine yy25 ?_; refine yy67 ?_; refine yy106 ?_; rotate_left) | fail)
  all_goals (
    refine awl_s rfl (s_add (k := .i64) rfl rfl) ?_
    (first | focus (refine yy88 ?_; refine yy140 ?_; refine yy61 ?_; rotate_left) | focus (refine yy88 ?_; refine yy58 ?_; refine yy61 ?_; rotate_left) | fail))
  · exact ⟨.inr rfl, _, _, _, Ent.refl _ _, ret0 rfl, rfl, by rw [if_pos (by omega)]; rfl⟩
  all_goals exact ⟨.inr rfl, _, _, _, Ent.refl _ _, ret0 rfl, rfl, by rw [if_neg (by omega)]; rfl⟩
end
end Go.Proofs.Ytmgkhfnhaeplgaa

namespace Go.Proofs.Ytmgkhfnhaeplgaa
open Go Go.Am Go.Proofs
set_option linter.unusedSimpArgs false
set_option linter.unusedVariables false
set_option maxRecDepth 20000
set_option maxHeartbeats 8000000

/-! The reference's parser: expressions, one deeper. -/
mutual
def exK : Ex → List AV
  | .mk op nm n at_ ks => [.str op, .str nm, avI n, avI at_, .sls ks.length (exL ks)]
def exL : List Ex → List AV
  | [] => []
  | e :: l => exK e ++ exL l
end
abbrev Ex.cells (e : Ex) : List AV := [.str e.op, .str e.name, avI e.n, avI e.at_, .sls e.kids.length (exL e.kids)]
theorem exK_eq : ∀ e : Ex, exK e = e.cells
  | .mk .. => by rw [exK]; rfl
theorem exL_nil : exL [] = [] := by rw [exL]
theorem exL_cons (e : Ex) (l : List Ex) : exL (e :: l) = e.cells ++ exL l := by rw [exL, exK_eq]
theorem exL_len : ∀ l : List Ex, (exL l).length = l.length * 5
  | [] => by rw [exL]; rfl
  | e :: l => by rw [exL_cons, List.length_append, exL_len l]; show 5 + l.length * 5 = (l.length + 1) * 5; omega
theorem exL_app : ∀ l m : List Ex, exL (l ++ m) = exL l ++ exL m
  | [], m => by rw [List.nil_append, exL_nil, List.nil_append]
  | e :: l, m => by rw [List.cons_append, exL_cons, exL_app l m, exL_cons, List.append_assoc]
theorem exL_one (e : Ex) : exL [e] = e.cells := by rw [exL_cons, exL_nil, List.append_nil]
theorem exL_two (a b : Ex) : exL [a, b] = a.cells ++ b.cells := by rw [exL_cons, exL_one]
theorem exL_three (a b c : Ex) : exL [a, b, c] = a.cells ++ (b.cells ++ c.cells) := by rw [exL_cons, exL_two]
abbrev exA (e : Ex) : AV := .agg e.cells
theorem wc_ex0 : WC [.raw (.string ⟨#[]⟩), .raw (.string ⟨#[]⟩), avI 0, avI 0, .raw (.slice none 0 0)] Ex0.cells := by
  unfold Ex.cells Ex0
  show WC _ [.str [], .str [], avI 0, avI 0, .sls 0 (exL [])]
  rw [exL_nil]
  exact WC.cons (w_str0 rfl) (WC.cons (w_str0 rfl) (WC.cons (W.of rfl) (WC.cons (W.of rfl) (WC.cons (W.nils rfl) WC.nil))))
theorem wc_exk {op nm : AV} {opb nmb : Bs} {n : Int} {at_ m : Nat} {xs : List AV} {ks : List Ex} (h1 : W op (.str opb)) (h2 : W nm (.str nmb)) (hm : m = ks.length) (hx : xs = exL ks) : WC [op, nm, avI n, avI at_, .slsx m xs] (Ex.mk opb nmb n at_ ks).cells := by
  subst hm hx
  exact WC.cons h1 (WC.cons h2 (WC.cons (W.of rfl) (WC.cons (W.of rfl) (WC.cons (W.slsx rfl) WC.nil))))
theorem wc_exn {op nm : AV} {opb nmb : Bs} {n : Int} {at_ : Nat} (h1 : W op (.str opb)) (h2 : W nm (.str nmb)) : WC [op, nm, avI n, avI at_, .raw (.slice none 0 0)] (Ex.mk opb nmb n at_ []).cells := by
  show WC _ [.str opb, .str nmb, avI n, avI at_, .sls 0 (exL [])]
  rw [exL_nil]
  exact WC.cons h1 (WC.cons h2 (WC.cons (W.of rfl) (WC.cons (W.of rfl) (WC.cons (W.nils rfl) WC.nil))))
/-- The result lies in a cell; of the objects that were, one has turned. -/
theorem Ent.cellRetS {R : Regs} {H H' : AHeap} (i : Nat) {o oR : Nat} {xs : List AV} {X : AO} (ys : List AV) (hi : rget R i = .ptr oR 0) (hH : H' oR = some (.cel xs)) (hw : WC xs ys) (hX : H' o = some X) (hne : o ≠ oR)
    (hf : ∀ p y, p ≠ o → H p = some y → p ≠ oR ∧ H' p = some y) : Ent R H' ((i, .pce ys 0) :: R) (H.set o X) :=
  Ent.cellRet i ys hi hH hw fun p y hp => by
    by_cases hpo : p = o
    · subst hpo
      rw [AHeap.set_self] at hp
      cases hp
      exact ⟨hne, hX⟩
    · rw [AHeap.get_set_ne _ hpo] at hp
      exact hf p y hpo hp
section
variable {ws : List Wd} {o : Nat}
/-- A reader's contract, at a depth. -/
def RdC (ws : List Wd) (o f d : Nat) (F : Ps → Ex × Ps) : Prop := ∀ (H : AHeap) (S : Ps), H o = some (.cel (S.cells ws)) → S.k < ws.length → S.d = d →
  ACalls Try.prog f [.ptr o 0] H fun r H' => r = exA (F S).1 ∧ H' = H.set o (.cel ((F S).2.cells ws))
structure LvC (ws : List Wd) (o d : Nat) (nx : Lv) : Prop where
  arrow : RdC ws o 76 d nx.arrow
  fby : RdC ws o 80 d nx.fby
  un : RdC ws o 82 d nx.un
  prim : RdC ws o 83 d nx.prim
theorem inn_k (S : Ps) : (S.inn ws).2.k = S.k ∧ ((S.inn ws).1 = true → S.d < 30 ∧ (S.inn ws).2.d = S.d + 1) := by
  unfold Ps.inn
  split
  · exact ⟨rfl, fun h => by cases h⟩
  · split
    · unfold Ps.fail; split <;> exact ⟨rfl, fun h => by cases h⟩
    · exact ⟨rfl, fun _ => ⟨by omega, rfl⟩⟩
theorem expr_calls (hw : WsOk ws) {d : Nat} {nx : Lv} (hd : d ≤ 30) (hg : d < 30 → GoodLv ws (d + 1) nx) (hx : d < 30 → LvC ws o (d + 1) nx) : RdC ws o 68 d (deep ws nx.arrow) := fun H S h hk hSd => by
  have hl := hw.len
  have ci := fun H h => in_calls (o := o) H S h hk hl (by omega)
  obtain ⟨i1, i2⟩ := inn_k (ws := ws) S
  unfold deep
  generalize hI : S.inn ws = I at *
  obtain ⟨b, T⟩ := I
  simp only at *
  cases b with
  | false =>
    refine acalls_of_aw1 Try.func68 rfl (by decide) ?_
    (first | focus (refine yy2 ?_; refine awl_alloc rfl rfl rfl (fun oN hoN => ?_); refine yy91 ?_; (refine zc auto_wl (ci _ auto_heap) ?_; rintro r H' ⟨rfl, rfl⟩); refine yy104 ?_; refine yy2 ?_; refine yy20 ?_; refine yy36 ?_; refine k_seq_ret ?_; rotate_left) | fail)
    exact ⟨.inl rfl, _, _, _, Ent.cellRetS 2 (o := o) Ex0.cells rfl auto_heap wc_ex0 auto_heap (by (first | assumption | exact Ne.symm (by assumption) | exact AHeap.ne_of_fresh (by assumption) | exact Ne.symm (AHeap.ne_of_fresh (by assumption)) | exact AHeap.ne_of_fresh (AHeap.none_of_set (by assumption)) | exact Ne.symm (AHeap.ne_of_fresh (AHeap.none_of_set (by assumption))) | exact AHeap.ne_ns (by assumption) (by assumption) | exact AHeap.ne_sn (by assumption) (by assumption) | exact AHeap.ne_ns (by assumption) auto_heap2 | exact AHeap.ne_sn (by assumption) auto_heap2)) (fun sp sy sne shp => ⟨by (first | assumption | exact Ne.symm (by assumption) | exact AHeap.ne_of_fresh (by assumption) | exact Ne.symm (AHeap.ne_of_fresh (by assumption)) | exact AHeap.ne_of_fresh (AHeap.none_of_set (by assumption)) | exact Ne.symm (AHeap.ne_of_fresh (AHeap.none_of_set (by assumption))) | exact AHeap.ne_ns (by assumption) (by assumption) | exact AHeap.ne_sn (by assumption) (by assumption) | exact AHeap.ne_ns (by assumption) auto_heap2 | exact AHeap.ne_sn (by assumption) auto_heap2), auto_heap⟩), ret_1 rfl (rv1_agg (m := 5) rfl rfl rfl (by decide)), rfl, rfl⟩
  | true =>
    obtain ⟨i3, i4⟩ := i2 rfl
    have ca := fun H h => (hx (by omega)).arrow H T h (by omega) (by omega)
    have hT := (hg (by omega)).arrow T (by omega) (by omega)
    have hTd := hT.d
    generalize nx.arrow T = B at *
    obtain ⟨e, U⟩ := B
    simp only at *
    refine acalls_of_aw1 Try.func68 rfl (by decide) ?_
    (first | focus (refine yy2 ?_; refine awl_alloc rfl rfl rfl (fun oN hoN => ?_); refine yy91 ?_; (refine zc auto_wl (ci _ auto_heap) ?_; rintro r H' ⟨rfl, rfl⟩); refine yy52 ?_; refine yy25 ?_; refine yy8 ?_; (refine zc auto_wl (ca _ auto_heap) ?_; rintro r H' ⟨rfl, rfl⟩); refine awl_alloc rfl rfl rfl (fun oN hoN => ?_); refine yy11 ?_; refine yy12 ?_; refine yy106 ?_; refine awl_s rfl (s_subn rfl rfl (by omega) (by omega)) ?_; refine yy88 ?_; refine yy58 ?_; refine yy16 ?_; refine yy26 ?_; refine yy36 ?_; rotate_left) | fail)
    exact ⟨.inl rfl, _, _, _, Ent.cellRetS 2 (o := o) e.cells rfl auto_heap (wc_refl _) auto_heap (by (first | assumption | exact Ne.symm (by assumption) | exact AHeap.ne_of_fresh (by assumption) | exact Ne.symm (AHeap.ne_of_fresh (by assumption)) | exact AHeap.ne_of_fresh (AHeap.none_of_set (by assumption)) | exact Ne.symm (AHeap.ne_of_fresh (AHeap.none_of_set (by assumption))) | exact AHeap.ne_ns (by assumption) (by assumption) | exact AHeap.ne_sn (by assumption) (by assumption) | exact AHeap.ne_ns (by assumption) auto_heap2 | exact AHeap.ne_sn (by assumption) auto_heap2)) (fun sp sy sne shp => ⟨by (first | assumption | exact Ne.symm (by assumption) | exact AHeap.ne_of_fresh (by assumption) | exact Ne.symm (AHeap.ne_of_fresh (by assumption)) | exact AHeap.ne_of_fresh (AHeap.none_of_set (by assumption)) | exact Ne.symm (AHeap.ne_of_fresh (AHeap.none_of_set (by assumption))) | exact AHeap.ne_ns (by assumption) (by assumption) | exact AHeap.ne_sn (by assumption) (by assumption) | exact AHeap.ne_ns (by assumption) auto_heap2 | exact AHeap.ne_sn (by assumption) auto_heap2), auto_heap⟩), ret_1 rfl (rv1_agg (m := 5) rfl rfl rfl (by decide)), rfl, rfl⟩
end
end Go.Proofs.Ytmgkhfnhaeplgaa

namespace Go.Proofs.Ytmgkhfnhaeplgaa
open Go Go.Am Go.Proofs
set_option linter.unusedSimpArgs false
set_option linter.unusedVariables false
set_option maxRecDepth 20000
set_option maxHeartbeats 8000000

/-! The reference's parser: expressions, one level from the next. -/
section
variable {ws : List Wd} {o : Nat}
theorem inner_calls (hw : WsOk ws) {d : Nat} {nx : Lv} (hd : d ≤ 30) (hg : d < 30 → GoodLv ws (d + 1) nx) (hx : d < 30 → LvC ws o (d + 1) nx) : RdC ws o 84 d (deep ws nx.prim) := fun H S h hk hSd => by
  have hl := hw.len
  have ci := fun H h => in_calls (o := o) H S h hk hl (by omega)
  obtain ⟨i1, i2⟩ := inn_k (ws := ws) S
  unfold deep
  generalize hI : S.inn ws = I at *
  obtain ⟨b, T⟩ := I
  simp only at *
  cases b with
  | false =>
    refine acalls_of_aw1 Try.func84 rfl (by decide) ?_
    (first | focus (refine yy2 ?_; refine awl_alloc rfl rfl rfl (fun oN hoN => ?_); refine yy91 ?_; (refine zc auto_wl (ci _ auto_heap) ?_; rintro r H' ⟨rfl, rfl⟩); refine yy104 ?_; refine yy2 ?_; refine yy20 ?_; refine yy36 ?_; refine k_seq_ret ?_; rotate_left) | fail)
    exact ⟨.inl rfl, _, _, _, Ent.cellRetS 2 (o := o) Ex0.cells rfl auto_heap wc_ex0 auto_heap (by (first | assumption | exact Ne.symm (by assumption) | exact AHeap.ne_of_fresh (by assumption) | exact Ne.symm (AHeap.ne_of_fresh (by assumption)) | exact AHeap.ne_of_fresh (AHeap.none_of_set (by assumption)) | exact Ne.symm (AHeap.ne_of_fresh (AHeap.none_of_set (by assumption))) | exact AHeap.ne_ns (by assumption) (by assumption) | exact AHeap.ne_sn (by assumption) (by assumption) | exact AHeap.ne_ns (by assumption) auto_heap2 | exact AHeap.ne_sn (by assumption) auto_heap2)) (fun sp sy sne shp => ⟨by (first | assumption | exact Ne.symm (by assumption) | exact AHeap.ne_of_fresh (by assumption) | exact Ne.symm (AHeap.ne_of_fresh (by assumption)) | exact AHeap.ne_of_fresh (AHeap.none_of_set (by assumption)) | exact Ne.symm (AHeap.ne_of_fresh (AHeap.none_of_set (by assumption))) | exact AHeap.ne_ns (by assumption) (by assumption) | exact AHeap.ne_sn (by assumption) (by assumption) | exact AHeap.ne_ns (by assumption) auto_heap2 | exact AHeap.ne_sn (by assumption) auto_heap2), auto_heap⟩), ret_1 rfl (rv1_agg (m := 5) rfl rfl rfl (by decide)), rfl, rfl⟩
  | true =>
    obtain ⟨i3, i4⟩ := i2 rfl
    have ca := fun H h => (hx (by omega)).prim H T h (by omega) (by omega)
    have hT := (hg (by omega)).prim T (by omega) (by omega)
    have hTd := hT.d
    generalize nx.prim T = B at *
    obtain ⟨e, U⟩ := B
    simp only at *
    refine acalls_of_aw1 Try.func84 rfl (by decide) ?_
    (first | focus (refine yy2 ?_; refine awl_alloc rfl rfl rfl (fun oN hoN => ?_); refine yy91 ?_; (refine zc auto_wl (ci _ auto_heap) ?_; rintro r H' ⟨rfl, rfl⟩); refine yy52 ?_; refine yy25 ?_; refine yy8 ?_; (refine zc auto_wl (ca _ auto_heap) ?_; rintro r H' ⟨rfl, rfl⟩); refine awl_alloc rfl rfl rfl (fun oN hoN => ?_); refine yy11 ?_; refine yy12 ?_; refine yy106 ?_; refine awl_s rfl (s_subn rfl rfl (by omega) (by omega)) ?_; refine yy88 ?_; refine yy58 ?_; refine yy16 ?_; refine yy26 ?_; refine yy36 ?_; rotate_left) | fail)
    exact ⟨.inl rfl, _, _, _, Ent.cellRetS 2 (o := o) e.cells rfl auto_heap (wc_refl _) auto_heap (by (first | assumption | exact Ne.symm (by assumption) | exact AHeap.ne_of_fresh (by assumption) | exact Ne.symm (AHeap.ne_of_fresh (by assumption)) | exact AHeap.ne_of_fresh (AHeap.none_of_set (by assumption)) | exact Ne.symm (AHeap.ne_of_fresh (AHeap.none_of_set (by assumption))) | exact AHeap.ne_ns (by assumption) (by assumption) | exact AHeap.ne_sn (by assumption) (by assumption) | exact AHeap.ne_ns (by assumption) auto_heap2 | exact AHeap.ne_sn (by assumption) auto_heap2)) (fun sp sy sne shp => ⟨by (first | assumption | exact Ne.symm (by assumption) | exact AHeap.ne_of_fresh (by assumption) | exact Ne.symm (AHeap.ne_of_fresh (by assumption)) | exact AHeap.ne_of_fresh (AHeap.none_of_set (by assumption)) | exact Ne.symm (AHeap.ne_of_fresh (AHeap.none_of_set (by assumption))) | exact AHeap.ne_ns (by assumption) (by assumption) | exact AHeap.ne_sn (by assumption) (by assumption) | exact AHeap.ne_ns (by assumption) auto_heap2 | exact AHeap.ne_sn (by assumption) auto_heap2), auto_heap⟩), ret_1 rfl (rv1_agg (m := 5) rfl rfl rfl (by decide)), rfl, rfl⟩
theorem part_k (S : Ps) : (S.part ws).k = S.k ∧ (S.part ws).d = S.d := by
  unfold Ps.part Ps.fail
  split
  · split <;> exact ⟨rfl, rfl⟩
  · exact ⟨rfl, rfl⟩
theorem unOp_cases (S : Ps) : (S.is ws ([110, 111, 116] : Bs) = true ∧ unOp ws S = ([110, 111, 116] : Bs)) ∨ (S.is ws ([110, 111, 116] : Bs) = false ∧ S.is ws ([45] : Bs) = true ∧ unOp ws S = ([110, 101, 103] : Bs)) ∨ (S.is ws ([110, 111, 116] : Bs) = false ∧ S.is ws ([45] : Bs) = false ∧ S.is ws ([112, 114, 101] : Bs) = true ∧ unOp ws S = ([112, 114, 101] : Bs)) ∨
    (S.is ws ([110, 111, 116] : Bs) = false ∧ S.is ws ([45] : Bs) = false ∧ S.is ws ([112, 114, 101] : Bs) = false ∧ unOp ws S = []) := by
  unfold unOp
  cases S.is ws ([110, 111, 116] : Bs) <;> cases S.is ws ([45] : Bs) <;> cases S.is ws ([112, 114, 101] : Bs) <;> simp
theorem un_calls (hw : WsOk ws) {d : Nat} {nx : Lv} (hd : d ≤ 30) (hg : d < 30 → GoodLv ws (d + 1) nx) (hx : d < 30 → LvC ws o (d + 1) nx) (hp : RdC ws o 83 d (primF ws nx)) :
    RdC ws o 82 d (unF ws nx) := fun H S h hk hSd => by
  have hl := hw.len
  have cw := fun H h => w_calls (o := o) H S h hk hl
  have c1 := fun H h => is_calls (o := o) H S ([110, 111, 116] : Bs) h hk hl
  have c2 := fun H h => is_calls (o := o) H S ([45] : Bs) h hk hl
  have c3 := fun H h => is_calls (o := o) H S ([112, 114, 101] : Bs) h hk hl
  have cp := fun H h => hp H S h hk hSd
  have cpt := fun H h => part_calls (o := o) H S h hk hl
  obtain ⟨p1, p2⟩ := part_k (ws := ws) S
  have hkind : unOp ws S ≠ [] → (ws.getD S.k Wd0).kind ≠ 0 := fun hu => by
    rcases unOp_cases (ws := ws) S with h | h | h | h
    · exact (is_kind h.1).2.1
    · exact (is_kind h.2.1).2.1
    · exact (is_kind h.2.2.1).2.1
    · exact absurd h.2.2.2 hu
  unfold unF
  by_cases hu : unOp ws S = []
  · rw [if_pos hu]
    generalize primF ws nx S = A at *
    obtain ⟨e, T⟩ := A
    rcases unOp_cases (ws := ws) S with ⟨_, e⟩ | ⟨_, _, e⟩ | ⟨_, _, _, e⟩ | ⟨n1, n2, n3, _⟩
    · rw [e] at hu; cases hu
    · rw [e] at hu; cases hu
    · rw [e] at hu; cases hu
    rw [n1] at c1; rw [n2] at c2; rw [n3] at c3
    generalize S.w ws = w at *
    refine acalls_of_aw1 Try.func82 rfl (by decide) ?_
    (first | focus (refine yy2 ?_; refine awl_alloc rfl rfl rfl (fun oN hoN => ?_); refine yy12 ?_; (refine zc auto_wl (cw _ auto_heap) ?_; rintro r H' ⟨rfl, rfl⟩); refine yy57 ?_; refine yy6 ?_; refine yy2 ?_; refine yy72 ?_; refine yy4 ?_; refine yy105 ?_; refine yy8 ?_; (refine zc auto_wl (c1 _ auto_heap) ?_; rintro r H' ⟨rfl, rfl⟩); refine yy82 ?_; refine yy8 ?_; (refine zc auto_wl (c2 _ auto_heap) ?_; rintro r H' ⟨rfl, rfl⟩); refine yy82 ?_; refine yy8 ?_; (refine zc auto_wl (c3 _ auto_heap) ?_; rintro r H' ⟨rfl, rfl⟩); refine yy82 ?_; refine yy39 ?_; refine yy38 ?_; refine yy111 ?_; refine yy4 ?_; refine aw_condp rfl (fun hc => ?_) (fun hc => ?_); refine yy8 ?_; (refine zc auto_wl (cp _ auto_heap) ?_; rintro r H' ⟨rfl, rfl⟩); refine yy36 ?_; refine k_seq_ret ?_; rotate_left; exact absurd hc auto_no) | fail)
    exact ⟨.inl rfl, _, _, _, Ent.cellRetS 2 (o := o) e.cells rfl auto_heap (wc_refl _) auto_heap (by (first | assumption | exact Ne.symm (by assumption) | exact AHeap.ne_of_fresh (by assumption) | exact Ne.symm (AHeap.ne_of_fresh (by assumption)) | exact AHeap.ne_of_fresh (AHeap.none_of_set (by assumption)) | exact Ne.symm (AHeap.ne_of_fresh (AHeap.none_of_set (by assumption))) | exact AHeap.ne_ns (by assumption) (by assumption) | exact AHeap.ne_sn (by assumption) (by assumption) | exact AHeap.ne_ns (by assumption) auto_heap2 | exact AHeap.ne_sn (by assumption) auto_heap2)) (fun sp sy sne shp => ⟨by (first | assumption | exact Ne.symm (by assumption) | exact AHeap.ne_of_fresh (by assumption) | exact Ne.symm (AHeap.ne_of_fresh (by assumption)) | exact AHeap.ne_of_fresh (AHeap.none_of_set (by assumption)) | exact Ne.symm (AHeap.ne_of_fresh (AHeap.none_of_set (by assumption))) | exact AHeap.ne_ns (by assumption) (by assumption) | exact AHeap.ne_sn (by assumption) (by assumption) | exact AHeap.ne_ns (by assumption) auto_heap2 | exact AHeap.ne_sn (by assumption) auto_heap2), auto_heap⟩), ret_1 rfl (rv1_agg (m := 5) rfl rfl rfl (by decide)), rfl, rfl⟩
  · rw [if_neg hu]
    have hk2 := hw.kind hk (hkind hu)
    clear hkind cp
    have ci := fun H h => in_calls (o := o) H (S.part ws).step h (show (S.part ws).k + 1 < _ by omega) hl (show (S.part ws).d ≤ 100 by omega)
    obtain ⟨i1, i2⟩ := inn_k (ws := ws) (S.part ws).step
    by_cases hpe : (S.part ws).err ≠ 0
    · rw [if_pos hpe]
      generalize S.part ws = T at *
      generalize S.w ws = w at *
      rcases unOp_cases (ws := ws) S with ⟨n1, e⟩ | ⟨n1, n2, e⟩ | ⟨n1, n2, n3, e⟩ | ⟨_, _, _, e⟩
      · rw [n1] at c1; clear c2 c3
        refine acalls_of_aw1 Try.func82 rfl (by decide) ?_
        (first | focus (refine yy2 ?_; refine awl_alloc rfl rfl rfl (fun oN hoN => ?_); refine yy12 ?_; (refine zc auto_wl (cw _ auto_heap) ?_; rintro r H' ⟨rfl, rfl⟩); refine yy57 ?_; refine yy6 ?_; refine yy2 ?_; refine yy72 ?_; refine yy4 ?_; refine yy105 ?_; refine yy8 ?_; (refine zc auto_wl (c1 _ auto_heap) ?_; rintro r H' ⟨rfl, rfl⟩); refine yy6 ?_; refine aw_cond_t rfl ?_; refine yy32 ?_; refine yy72 ?_; refine yy48 ?_; refine yy38 ?_; refine yy111 ?_; refine yy4 ?_; refine yy60 ?_; intro hc; refine yy8 ?_; (refine zc auto_wl (cpt _ auto_heap) ?_; rintro r H' ⟨rfl, rfl⟩); refine yy91 ?_; refine yy56 ?_; refine yy110 ?_; refine aw_condp rfl (fun hc => ?_) (fun hc => ?_); replace hc := hide_nat hc; refine yy2 ?_; refine yy20 ?_; refine yy36 ?_; refine k_seq_ret ?_; rotate_left; exact absurd hc auto_no) | fail)
        exact ⟨.inl rfl, _, _, _, Ent.cellRetS 2 (o := o) Ex0.cells rfl auto_heap wc_ex0 auto_heap (by (first | assumption | exact Ne.symm (by assumption) | exact AHeap.ne_of_fresh (by assumption) | exact Ne.symm (AHeap.ne_of_fresh (by assumption)) | exact AHeap.ne_of_fresh (AHeap.none_of_set (by assumption)) | exact Ne.symm (AHeap.ne_of_fresh (AHeap.none_of_set (by assumption))) | exact AHeap.ne_ns (by assumption) (by assumption) | exact AHeap.ne_sn (by assumption) (by assumption) | exact AHeap.ne_ns (by assumption) auto_heap2 | exact AHeap.ne_sn (by assumption) auto_heap2)) (fun sp sy sne shp => ⟨by (first | assumption | exact Ne.symm (by assumption) | exact AHeap.ne_of_fresh (by assumption) | exact Ne.symm (AHeap.ne_of_fresh (by assumption)) | exact AHeap.ne_of_fresh (AHeap.none_of_set (by assumption)) | exact Ne.symm (AHeap.ne_of_fresh (AHeap.none_of_set (by assumption))) | exact AHeap.ne_ns (by assumption) (by assumption) | exact AHeap.ne_sn (by assumption) (by assumption) | exact AHeap.ne_ns (by assumption) auto_heap2 | exact AHeap.ne_sn (by assumption) auto_heap2), auto_heap⟩), ret_1 rfl (rv1_agg (m := 5) rfl rfl rfl (by decide)), rfl, rfl⟩
      · rw [n1] at c1; rw [n2] at c2; clear c3
        refine acalls_of_aw1 Try.func82 rfl (by decide) ?_
        (first | focus (refine yy2 ?_; refine awl_alloc rfl rfl rfl (fun oN hoN => ?_); refine yy12 ?_; (refine zc auto_wl (cw _ auto_heap) ?_; rintro r H' ⟨rfl, rfl⟩); refine yy57 ?_; refine yy6 ?_; refine yy2 ?_; refine yy72 ?_; refine yy4 ?_; refine yy105 ?_; refine yy8 ?_; (refine zc auto_wl (c1 _ auto_heap) ?_; rintro r H' ⟨rfl, rfl⟩); refine yy82 ?_; refine yy8 ?_; (refine zc auto_wl (c2 _ auto_heap) ?_; rintro r H' ⟨rfl, rfl⟩); refine yy6 ?_; refine aw_cond_t rfl ?_; refine yy32 ?_; refine yy72 ?_; refine yy48 ?_; refine yy38 ?_; refine yy111 ?_; refine yy4 ?_; refine yy60 ?_; intro hc; refine yy8 ?_; (refine zc auto_wl (cpt _ auto_heap) ?_; rintro r H' ⟨rfl, rfl⟩); refine yy91 ?_; refine yy56 ?_; refine yy110 ?_; refine aw_condp rfl (fun hc => ?_) (fun hc => ?_); replace hc := hide_nat hc; refine yy2 ?_; refine yy20 ?_; refine yy36 ?_; refine k_seq_ret ?_; rotate_left; exact absurd hc auto_no) | fail)
        exact ⟨.inl rfl, _, _, _, Ent.cellRetS 2 (o := o) Ex0.cells rfl auto_heap wc_ex0 auto_heap (by (first | assumption | exact Ne.symm (by assumption) | exact AHeap.ne_of_fresh (by assumption) | exact Ne.symm (AHeap.ne_of_fresh (by assumption)) | exact AHeap.ne_of_fresh (AHeap.none_of_set (by assumption)) | exact Ne.symm (AHeap.ne_of_fresh (AHeap.none_of_set (by assumption))) | exact AHeap.ne_ns (by assumption) (by assumption) | exact AHeap.ne_sn (by assumption) (by assumption) | exact AHeap.ne_ns (by assumption) auto_heap2 | exact AHeap.ne_sn (by assumption) auto_heap2)) (fun sp sy sne shp => ⟨by (first | assumption | exact Ne.symm (by assumption) | exact AHeap.ne_of_fresh (by assumption) | exact Ne.symm (AHeap.ne_of_fresh (by assumption)) | exact AHeap.ne_of_fresh (AHeap.none_of_set (by assumption)) | exact Ne.symm (AHeap.ne_of_fresh (AHeap.none_of_set (by assumption))) | exact AHeap.ne_ns (by assumption) (by assumption) | exact AHeap.ne_sn (by assumption) (by assumption) | exact AHeap.ne_ns (by assumption) auto_heap2 | exact AHeap.ne_sn (by assumption) auto_heap2), auto_heap⟩), ret_1 rfl (rv1_agg (m := 5) rfl rfl rfl (by decide)), rfl, rfl⟩
      · rw [n1] at c1; rw [n2] at c2; rw [n3] at c3
        refine acalls_of_aw1 Try.func82 rfl (by decide) ?_
        (first | focus (refine yy2 ?_; refine awl_alloc rfl rfl rfl (fun oN hoN => ?_); refine yy12 ?_; (refine zc auto_wl (cw _ auto_heap) ?_; rintro r H' ⟨rfl, rfl⟩); refine yy57 ?_; refine yy6 ?_; refine yy2 ?_; refine yy72 ?_; refine yy4 ?_; refine yy105 ?_; refine yy8 ?_; (refine zc auto_wl (c1 _ auto_heap) ?_; rintro r H' ⟨rfl, rfl⟩); refine yy82 ?_; refine yy8 ?_; (refine zc auto_wl (c2 _ auto_heap) ?_; rintro r H' ⟨rfl, rfl⟩); refine yy82 ?_; refine yy8 ?_; (refine zc auto_wl (c3 _ auto_heap) ?_; rintro r H' ⟨rfl, rfl⟩); refine yy6 ?_; refine aw_cond_t rfl ?_; refine yy32 ?_; refine yy72 ?_; refine yy48 ?_; refine yy38 ?_; refine yy111 ?_; refine yy4 ?_; refine yy60 ?_; intro hc; refine yy8 ?_; (refine zc auto_wl (cpt _ auto_heap) ?_; rintro r H' ⟨rfl, rfl⟩); refine yy91 ?_; refine yy56 ?_; refine yy110 ?_; refine aw_condp rfl (fun hc => ?_) (fun hc => ?_); replace hc := hide_nat hc; refine yy2 ?_; refine yy20 ?_; refine yy36 ?_; refine k_seq_ret ?_; rotate_left; exact absurd hc auto_no) | fail)
        exact ⟨.inl rfl, _, _, _, Ent.cellRetS 2 (o := o) Ex0.cells rfl auto_heap wc_ex0 auto_heap (by (first | assumption | exact Ne.symm (by assumption) | exact AHeap.ne_of_fresh (by assumption) | exact Ne.symm (AHeap.ne_of_fresh (by assumption)) | exact AHeap.ne_of_fresh (AHeap.none_of_set (by assumption)) | exact Ne.symm (AHeap.ne_of_fresh (AHeap.none_of_set (by assumption))) | exact AHeap.ne_ns (by assumption) (by assumption) | exact AHeap.ne_sn (by assumption) (by assumption) | exact AHeap.ne_ns (by assumption) auto_heap2 | exact AHeap.ne_sn (by assumption) auto_heap2)) (fun sp sy sne shp => ⟨by (first | assumption | exact Ne.symm (by assumption) | exact AHeap.ne_of_fresh (by assumption) | exact Ne.symm (AHeap.ne_of_fresh (by assumption)) | exact AHeap.ne_of_fresh (AHeap.none_of_set (by assumption)) | exact Ne.symm (AHeap.ne_of_fresh (AHeap.none_of_set (by assumption))) | exact AHeap.ne_ns (by assumption) (by assumption) | exact AHeap.ne_sn (by assumption) (by assumption) | exact AHeap.ne_ns (by assumption) auto_heap2 | exact AHeap.ne_sn (by assumption) auto_heap2), auto_heap⟩), ret_1 rfl (rv1_agg (m := 5) rfl rfl rfl (by decide)), rfl, rfl⟩
      · exact absurd e hu
    rw [if_neg hpe]
    have hpe0 : (S.part ws).err = 0 := by omega
    clear hpe
    have hPc := cpt
    generalize hPt : S.part ws = T at *
    generalize hI : T.step.inn ws = I at *
    obtain ⟨b, V⟩ := I
    have hst : T.step.k = T.k + 1 := rfl
    have hsd : T.step.d = T.d := rfl
    simp only at *
    cases b with
    | false =>
      have ca := cw
      rw [if_neg (by decide)]
      generalize S.w ws = w at *
      rcases unOp_cases (ws := ws) S with ⟨n1, e⟩ | ⟨n1, n2, e⟩ | ⟨n1, n2, n3, e⟩ | ⟨_, _, _, e⟩
      · rw [n1] at c1; clear c2 c3
        refine acalls_of_aw1 Try.func82 rfl (by decide) ?_
        (first | focus (refine yy2 ?_; refine awl_alloc rfl rfl rfl (fun oN hoN => ?_); refine yy12 ?_; (refine zc auto_wl (cw _ auto_heap) ?_; rintro r H' ⟨rfl, rfl⟩); refine yy57 ?_; refine yy6 ?_; refine yy2 ?_; refine yy72 ?_; refine yy4 ?_; refine yy105 ?_; refine yy8 ?_; (refine zc auto_wl (c1 _ auto_heap) ?_; rintro r H' ⟨rfl, rfl⟩); refine yy6 ?_; refine aw_cond_t rfl ?_; refine yy32 ?_; refine yy72 ?_; refine yy48 ?_; refine yy38 ?_; refine yy111 ?_; refine yy4 ?_; refine yy60 ?_; intro hc; refine yy8 ?_; (refine zc auto_wl (cpt _ auto_heap) ?_; rintro r H' ⟨rfl, rfl⟩); refine yy91 ?_; refine yy56 ?_; refine yy110 ?_; refine yy60 ?_; intro hc; refine yy8 ?_; refine yy106 ?_; refine yy109 ?_; refine yy88 ?_; refine yy140 ?_; refine yy91 ?_; (refine zc auto_wl (ci _ auto_heap) ?_; rintro r H' ⟨rfl, rfl⟩); refine yy104 ?_; refine yy2 ?_; refine yy20 ?_; refine yy36 ?_; refine k_seq_ret ?_; rotate_left) | fail)
        exact ⟨.inl rfl, _, _, _, Ent.cellRetS 2 (o := o) Ex0.cells rfl auto_heap wc_ex0 auto_heap (by (first | assumption | exact Ne.symm (by assumption) | exact AHeap.ne_of_fresh (by assumption) | exact Ne.symm (AHeap.ne_of_fresh (by assumption)) | exact AHeap.ne_of_fresh (AHeap.none_of_set (by assumption)) | exact Ne.symm (AHeap.ne_of_fresh (AHeap.none_of_set (by assumption))) | exact AHeap.ne_ns (by assumption) (by assumption) | exact AHeap.ne_sn (by assumption) (by assumption) | exact AHeap.ne_ns (by assumption) auto_heap2 | exact AHeap.ne_sn (by assumption) auto_heap2)) (fun sp sy sne shp => ⟨by (first | assumption | exact Ne.symm (by assumption) | exact AHeap.ne_of_fresh (by assumption) | exact Ne.symm (AHeap.ne_of_fresh (by assumption)) | exact AHeap.ne_of_fresh (AHeap.none_of_set (by assumption)) | exact Ne.symm (AHeap.ne_of_fresh (AHeap.none_of_set (by assumption))) | exact AHeap.ne_ns (by assumption) (by assumption) | exact AHeap.ne_sn (by assumption) (by assumption) | exact AHeap.ne_ns (by assumption) auto_heap2 | exact AHeap.ne_sn (by assumption) auto_heap2), auto_heap⟩), ret_1 rfl (rv1_agg (m := 5) rfl rfl rfl (by decide)), rfl, rfl⟩
      · rw [n1] at c1; rw [n2] at c2; clear c3
        refine acalls_of_aw1 Try.func82 rfl (by decide) ?_
        (first | focus (refine yy2 ?_; refine awl_alloc rfl rfl rfl (fun oN hoN => ?_); refine yy12 ?_; (refine zc auto_wl (cw _ auto_heap) ?_; rintro r H' ⟨rfl, rfl⟩); refine yy57 ?_; refine yy6 ?_; refine yy2 ?_; refine yy72 ?_; refine yy4 ?_; refine yy105 ?_; refine yy8 ?_; (refine zc auto_wl (c1 _ auto_heap) ?_; rintro r H' ⟨rfl, rfl⟩); refine yy82 ?_; refine yy8 ?_; (refine zc auto_wl (c2 _ auto_heap) ?_; rintro r H' ⟨rfl, rfl⟩); refine yy6 ?_; refine aw_cond_t rfl ?_; refine yy32 ?_; refine yy72 ?_; refine yy48 ?_; refine yy38 ?_; refine yy111 ?_; refine yy4 ?_; refine yy60 ?_; intro hc; refine yy8 ?_; (refine zc auto_wl (cpt _ auto_heap) ?_; rintro r H' ⟨rfl, rfl⟩); refine yy91 ?_; refine yy56 ?_; refine yy110 ?_; refine yy60 ?_; intro hc; refine yy8 ?_; refine yy106 ?_; refine yy109 ?_; refine yy88 ?_; refine yy140 ?_; refine yy91 ?_; (refine zc auto_wl (ci _ auto_heap) ?_; rintro r H' ⟨rfl, rfl⟩); refine yy104 ?_; refine yy2 ?_; refine yy20 ?_; refine yy36 ?_; refine k_seq_ret ?_; rotate_left) | fail)
        exact ⟨.inl rfl, _, _, _, Ent.cellRetS 2 (o := o) Ex0.cells rfl auto_heap wc_ex0 auto_heap (by (first | assumption | exact Ne.symm (by assumption) | exact AHeap.ne_of_fresh (by assumption) | exact Ne.symm (AHeap.ne_of_fresh (by assumption)) | exact AHeap.ne_of_fresh (AHeap.none_of_set (by assumption)) | exact Ne.symm (AHeap.ne_of_fresh (AHeap.none_of_set (by assumption))) | exact AHeap.ne_ns (by assumption) (by assumption) | exact AHeap.ne_sn (by assumption) (by assumption) | exact AHeap.ne_ns (by assumption) auto_heap2 | exact AHeap.ne_sn (by assumption) auto_heap2)) (fun sp sy sne shp => ⟨by (first | assumption | exact Ne.symm (by assumption) | exact AHeap.ne_of_fresh (by assumption) | exact Ne.symm (AHeap.ne_of_fresh (by assumption)) | exact AHeap.ne_of_fresh (AHeap.none_of_set (by assumption)) | exact Ne.symm (AHeap.ne_of_fresh (AHeap.none_of_set (by assumption))) | exact AHeap.ne_ns (by assumption) (by assumption) | exact AHeap.ne_sn (by assumption) (by assumption) | exact AHeap.ne_ns (by assumption) auto_heap2 | exact AHeap.ne_sn (by assumption) auto_heap2), auto_heap⟩), ret_1 rfl (rv1_agg (m := 5) rfl rfl rfl (by decide)), rfl, rfl⟩
      · rw [n1] at c1; rw [n2] at c2; rw [n3] at c3
        refine acalls_of_aw1 Try.func82 rfl (by decide) ?_
        (first | focus (refine yy2 ?_; refine awl_alloc rfl rfl rfl (fun oN hoN => ?_); refine yy12 ?_; (refine zc auto_wl (cw _ auto_heap) ?_; rintro r H' ⟨rfl, rfl⟩); refine yy57 ?_; refine yy6 ?_; refine yy2 ?_; refine yy72 ?_; refine yy4 ?_; refine yy105 ?_; refine yy8 ?_; (refine zc auto_wl (c1 _ auto_heap) ?_; rintro r H' ⟨rfl, rfl⟩); refine yy82 ?_; refine yy8 ?_; (refine zc auto_wl (c2 _ auto_heap) ?_; rintro r H' ⟨rfl, rfl⟩); refine yy82 ?_; refine yy8 ?_; (refine zc auto_wl (c3 _ auto_heap) ?_; rintro r H' ⟨rfl, rfl⟩); refine yy6 ?_; refine aw_cond_t rfl ?_; refine yy32 ?_; refine yy72 ?_; refine yy48 ?_; refine yy38 ?_; refine yy111 ?_; refine yy4 ?_; refine yy60 ?_; intro hc; refine yy8 ?_; (refine zc auto_wl (cpt _ auto_heap) ?_; rintro r H' ⟨rfl, rfl⟩); refine yy91 ?_; refine yy56 ?_; refine yy110 ?_; refine yy60 ?_; intro hc; refine yy8 ?_; refine yy106 ?_; refine yy109 ?_; refine yy88 ?_; refine yy140 ?_; refine yy91 ?_; (refine zc auto_wl (ci _ auto_heap) ?_; rintro r H' ⟨rfl, rfl⟩); refine yy104 ?_; refine yy2 ?_; refine yy20 ?_; refine yy36 ?_; refine k_seq_ret ?_; rotate_left) | fail)
        exact ⟨.inl rfl, _, _, _, Ent.cellRetS 2 (o := o) Ex0.cells rfl auto_heap wc_ex0 auto_heap (by (first | assumption | exact Ne.symm (by assumption) | exact AHeap.ne_of_fresh (by assumption) | exact Ne.symm (AHeap.ne_of_fresh (by assumption)) | exact AHeap.ne_of_fresh (AHeap.none_of_set (by assumption)) | exact Ne.symm (AHeap.ne_of_fresh (AHeap.none_of_set (by assumption))) | exact AHeap.ne_ns (by assumption) (by assumption) | exact AHeap.ne_sn (by assumption) (by assumption) | exact AHeap.ne_ns (by assumption) auto_heap2 | exact AHeap.ne_sn (by assumption) auto_heap2)) (fun sp sy sne shp => ⟨by (first | assumption | exact Ne.symm (by assumption) | exact AHeap.ne_of_fresh (by assumption) | exact Ne.symm (AHeap.ne_of_fresh (by assumption)) | exact AHeap.ne_of_fresh (AHeap.none_of_set (by assumption)) | exact Ne.symm (AHeap.ne_of_fresh (AHeap.none_of_set (by assumption))) | exact AHeap.ne_ns (by assumption) (by assumption) | exact AHeap.ne_sn (by assumption) (by assumption) | exact AHeap.ne_ns (by assumption) auto_heap2 | exact AHeap.ne_sn (by assumption) auto_heap2), auto_heap⟩), ret_1 rfl (rv1_agg (m := 5) rfl rfl rfl (by decide)), rfl, rfl⟩
      · exact absurd e hu
    | true =>
      rw [if_pos rfl]
      obtain ⟨i3, i4⟩ := i2 rfl
      have ca := fun H h => (hx (by omega)).un H V h (by omega) (by omega)
      have hT := (hg (by omega)).un V (by omega) (by omega)
      have hTd := hT.d
      generalize nx.un V = B at *
      obtain ⟨e, U⟩ := B
      simp only at *
      generalize S.w ws = w at *
      rcases unOp_cases (ws := ws) S with ⟨n1, e⟩ | ⟨n1, n2, e⟩ | ⟨n1, n2, n3, e⟩ | ⟨_, _, _, e⟩
      · rw [n1] at c1; clear c2 c3; rw [e]
        refine acalls_of_aw1 Try.func82 rfl (by decide) ?_
        (first | focus (refine yy2 ?_; refine awl_alloc rfl rfl rfl (fun oN hoN => ?_); refine yy12 ?_; (refine zc auto_wl (cw _ auto_heap) ?_; rintro r H' ⟨rfl, rfl⟩); refine yy57 ?_; refine yy6 ?_; refine yy2 ?_; refine yy72 ?_; refine yy4 ?_; refine yy105 ?_; refine yy8 ?_; (refine zc auto_wl (c1 _ auto_heap) ?_; rintro r H' ⟨rfl, rfl⟩); refine yy6 ?_; refine aw_cond_t rfl ?_; refine yy32 ?_; refine yy72 ?_; refine yy48 ?_; refine yy38 ?_; refine yy111 ?_; refine yy4 ?_; refine yy60 ?_; intro hc; refine yy8 ?_; (refine zc auto_wl (cpt _ auto_heap) ?_; rintro r H' ⟨rfl, rfl⟩); refine yy91 ?_; refine yy56 ?_; refine yy110 ?_; refine yy60 ?_; intro hc; refine yy8 ?_; refine yy106 ?_; refine yy109 ?_; refine yy88 ?_; refine yy140 ?_; refine yy91 ?_; (refine zc auto_wl (ci _ auto_heap) ?_; rintro r H' ⟨rfl, rfl⟩); refine yy52 ?_; refine yy25 ?_; refine yy8 ?_; (refine zc auto_wl (ca _ auto_heap) ?_; rintro r H' ⟨rfl, rfl⟩); refine awl_alloc rfl rfl rfl (fun oN hoN => ?_); refine yy11 ?_; refine yy12 ?_; refine yy106 ?_; refine awl_s rfl (s_subn rfl rfl (by omega) (by omega)) ?_; refine yy88 ?_; refine yy58 ?_; refine yy16 ?_; refine yy97 ?_; refine yy26 ?_; refine yy37 ?_; refine yy20 ?_; refine yy36 ?_; rotate_left) | fail)
        exact ⟨.inl rfl, _, _, _, Ent.cellRetS 2 (o := o) _ rfl auto_heap (wc_exk (W.of rfl) (w_str0 rfl) rfl (exL_one _).symm) auto_heap (by (first | assumption | exact Ne.symm (by assumption) | exact AHeap.ne_of_fresh (by assumption) | exact Ne.symm (AHeap.ne_of_fresh (by assumption)) | exact AHeap.ne_of_fresh (AHeap.none_of_set (by assumption)) | exact Ne.symm (AHeap.ne_of_fresh (AHeap.none_of_set (by assumption))) | exact AHeap.ne_ns (by assumption) (by assumption) | exact AHeap.ne_sn (by assumption) (by assumption) | exact AHeap.ne_ns (by assumption) auto_heap2 | exact AHeap.ne_sn (by assumption) auto_heap2)) (fun sp sy sne shp => ⟨by (first | assumption | exact Ne.symm (by assumption) | exact AHeap.ne_of_fresh (by assumption) | exact Ne.symm (AHeap.ne_of_fresh (by assumption)) | exact AHeap.ne_of_fresh (AHeap.none_of_set (by assumption)) | exact Ne.symm (AHeap.ne_of_fresh (AHeap.none_of_set (by assumption))) | exact AHeap.ne_ns (by assumption) (by assumption) | exact AHeap.ne_sn (by assumption) (by assumption) | exact AHeap.ne_ns (by assumption) auto_heap2 | exact AHeap.ne_sn (by assumption) auto_heap2), auto_heap⟩), ret_1 rfl (rv1_agg (m := 5) rfl rfl rfl (by decide)), rfl, rfl⟩
      · rw [n1] at c1; rw [n2] at c2; clear c3; rw [e]
        refine acalls_of_aw1 Try.func82 rfl (by decide) ?_
        (first | focus (refine yy2 ?_; refine awl_alloc rfl rfl rfl (fun oN hoN => ?_); refine yy12 ?_; (refine zc auto_wl (cw _ auto_heap) ?_; rintro r H' ⟨rfl, rfl⟩); refine yy57 ?_; refine yy6 ?_; refine yy2 ?_; refine yy72 ?_; refine yy4 ?_; refine yy105 ?_; refine yy8 ?_; (refine zc auto_wl (c1 _ auto_heap) ?_; rintro r H' ⟨rfl, rfl⟩); refine yy82 ?_; refine yy8 ?_; (refine zc auto_wl (c2 _ auto_heap) ?_; rintro r H' ⟨rfl, rfl⟩); refine yy6 ?_; refine aw_cond_t rfl ?_; refine yy32 ?_; refine yy72 ?_; refine yy48 ?_; refine yy38 ?_; refine yy111 ?_; refine yy4 ?_; refine yy60 ?_; intro hc; refine yy8 ?_; (refine zc auto_wl (cpt _ auto_heap) ?_; rintro r H' ⟨rfl, rfl⟩); refine yy91 ?_; refine yy56 ?_; refine yy110 ?_; refine yy60 ?_; intro hc; refine yy8 ?_; refine yy106 ?_; refine yy109 ?_; refine yy88 ?_; refine yy140 ?_; refine yy91 ?_; (refine zc auto_wl (ci _ auto_heap) ?_; rintro r H' ⟨rfl, rfl⟩); refine yy52 ?_; refine yy25 ?_; refine yy8 ?_; (refine zc auto_wl (ca _ auto_heap) ?_; rintro r H' ⟨rfl, rfl⟩); refine awl_alloc rfl rfl rfl (fun oN hoN => ?_); refine yy11 ?_; refine yy12 ?_; refine yy106 ?_; refine awl_s rfl (s_subn rfl rfl (by omega) (by omega)) ?_; refine yy88 ?_; refine yy58 ?_; refine yy16 ?_; refine yy97 ?_; refine yy26 ?_; refine yy37 ?_; refine yy20 ?_; refine yy36 ?_; rotate_left) | fail)
        exact ⟨.inl rfl, _, _, _, Ent.cellRetS 2 (o := o) _ rfl auto_heap (wc_exk (W.of rfl) (w_str0 rfl) rfl (exL_one _).symm) auto_heap (by (first | assumption | exact Ne.symm (by assumption) | exact AHeap.ne_of_fresh (by assumption) | exact Ne.symm (AHeap.ne_of_fresh (by assumption)) | exact AHeap.ne_of_fresh (AHeap.none_of_set (by assumption)) | exact Ne.symm (AHeap.ne_of_fresh (AHeap.none_of_set (by assumption))) | exact AHeap.ne_ns (by assumption) (by assumption) | exact AHeap.ne_sn (by assumption) (by assumption) | exact AHeap.ne_ns (by assumption) auto_heap2 | exact AHeap.ne_sn (by assumption) auto_heap2)) (fun sp sy sne shp => ⟨by (first | assumption | exact Ne.symm (by assumption) | exact AHeap.ne_of_fresh (by assumption) | exact Ne.symm (AHeap.ne_of_fresh (by assumption)) | exact AHeap.ne_of_fresh (AHeap.none_of_set (by assumption)) | exact Ne.symm (AHeap.ne_of_fresh (AHeap.none_of_set (by assumption))) | exact AHeap.ne_ns (by assumption) (by assumption) | exact AHeap.ne_sn (by assumption) (by assumption) | exact AHeap.ne_ns (by assumption) auto_heap2 | exact AHeap.ne_sn (by assumption) auto_heap2), auto_heap⟩), ret_1 rfl (rv1_agg (m := 5) rfl rfl rfl (by decide)), rfl, rfl⟩
      · rw [n1] at c1; rw [n2] at c2; rw [n3] at c3; rw [e]
        refine acalls_of_aw1 Try.func82 rfl (by decide) ?_
        (first | focus (refine yy2 ?_; refine awl_alloc rfl rfl rfl (fun oN hoN => ?_); refine yy12 ?_; (refine zc auto_wl (cw _ auto_heap) ?_; rintro r H' ⟨rfl, rfl⟩); refine yy57 ?_; refine yy6 ?_; refine yy2 ?_; refine yy72 ?_; refine yy4 ?_; refine yy105 ?_; refine yy8 ?_; (refine zc auto_wl (c1 _ auto_heap) ?_; rintro r H' ⟨rfl, rfl⟩); refine yy82 ?_; refine yy8 ?_; (refine zc auto_wl (c2 _ auto_heap) ?_; rintro r H' ⟨rfl, rfl⟩); refine yy82 ?_; refine yy8 ?_; (refine zc auto_wl (c3 _ auto_heap) ?_; rintro r H' ⟨rfl, rfl⟩); refine yy6 ?_; refine aw_cond_t rfl ?_; refine yy32 ?_; refine yy72 ?_; refine yy48 ?_; refine yy38 ?_; refine yy111 ?_; refine yy4 ?_; refine yy60 ?_; intro hc; refine yy8 ?_; (refine zc auto_wl (cpt _ auto_heap) ?_; rintro r H' ⟨rfl, rfl⟩); refine yy91 ?_; refine yy56 ?_; refine yy110 ?_; refine yy60 ?_; intro hc; refine yy8 ?_; refine yy106 ?_; refine yy109 ?_; refine yy88 ?_; refine yy140 ?_; refine yy91 ?_; (refine zc auto_wl (ci _ auto_heap) ?_; rintro r H' ⟨rfl, rfl⟩); refine yy52 ?_; refine yy25 ?_; refine yy8 ?_; (refine zc auto_wl (ca _ auto_heap) ?_; rintro r H' ⟨rfl, rfl⟩); refine awl_alloc rfl rfl rfl (fun oN hoN => ?_); refine yy11 ?_; refine yy12 ?_; refine yy106 ?_; refine awl_s rfl (s_subn rfl rfl (by omega) (by omega)) ?_; refine yy88 ?_; refine yy58 ?_; refine yy16 ?_; refine yy97 ?_; refine yy26 ?_; refine yy37 ?_; refine yy20 ?_; refine yy36 ?_; rotate_left) | fail)
        exact ⟨.inl rfl, _, _, _, Ent.cellRetS 2 (o := o) _ rfl auto_heap (wc_exk (W.of rfl) (w_str0 rfl) rfl (exL_one _).symm) auto_heap (by (first | assumption | exact Ne.symm (by assumption) | exact AHeap.ne_of_fresh (by assumption) | exact Ne.symm (AHeap.ne_of_fresh (by assumption)) | exact AHeap.ne_of_fresh (AHeap.none_of_set (by assumption)) | exact Ne.symm (AHeap.ne_of_fresh (AHeap.none_of_set (by assumption))) | exact AHeap.ne_ns (by assumption) (by assumption) | exact AHeap.ne_sn (by assumption) (by assumption) | exact AHeap.ne_ns (by assumption) auto_heap2 | exact AHeap.ne_sn (by assumption) auto_heap2)) (fun sp sy sne shp => ⟨by (first | assumption | exact Ne.symm (by assumption) | exact AHeap.ne_of_fresh (by assumption) | exact Ne.symm (AHeap.ne_of_fresh (by assumption)) | exact AHeap.ne_of_fresh (AHeap.none_of_set (by assumption)) | exact Ne.symm (AHeap.ne_of_fresh (AHeap.none_of_set (by assumption))) | exact AHeap.ne_ns (by assumption) (by assumption) | exact AHeap.ne_sn (by assumption) (by assumption) | exact AHeap.ne_ns (by assumption) auto_heap2 | exact AHeap.ne_sn (by assumption) auto_heap2), auto_heap⟩), ret_1 rfl (rv1_agg (m := 5) rfl rfl rfl (by decide)), rfl, rfl⟩
      · exact absurd e hu
end
end Go.Proofs.Ytmgkhfnhaeplgaa

namespace Go.Proofs.Ytmgkhfnhaeplgaa
open Go Go.Am Go.Proofs
set_option linter.unusedSimpArgs false
set_option linter.unusedVariables false
set_option maxRecDepth 20000
set_option maxHeartbeats 8000000

/-! The reference's parser: when, fby, arrow. -/
section
variable {ws : List Wd} {o : Nat}
theorem fby_calls (hw : WsOk ws) {d : Nat} {nx : Lv} (hd : d ≤ 30) (hg : d < 30 → GoodLv ws (d + 1) nx) (hx : d < 30 → LvC ws o (d + 1) nx)
    (hS : Good ws d (whenF ws nx)) (hC : RdC ws o 81 d (whenF ws nx)) :
    RdC ws o 80 d (fbyF ws nx) := fun H S h hk hSd => by
  have hl := hw.len
  have c0 := fun H h => hC H S h hk hSd
  have hA := hS S hk hSd
  unfold fbyF
  generalize whenF ws nx S = A at *
  obtain ⟨a, T⟩ := A
  have hTd := hA.d
  have hTk := hA.kl
  simp only at *
  have cw := fun H h => w_calls (o := o) H T h hTk hl
  have cis := fun H h => is_calls (o := o) H T ([102, 98, 121] : Bs) h hTk hl
  cases hb : T.is ws ([102, 98, 121] : Bs) with
  | false =>
    rw [hb] at cis
    rw [if_neg (by decide)]
    generalize T.w ws = w at *
    refine acalls_of_aw1 Try.func80 rfl (by decide) ?_
    (first | focus (refine yy2 ?_; refine awl_alloc rfl rfl rfl (fun oN hoN => ?_); refine yy12 ?_; (refine zc auto_wl (c0 _ auto_heap) ?_; rintro r H' ⟨rfl, rfl⟩); refine awl_alloc rfl rfl rfl (fun oN hoN => ?_); refine yy11 ?_; refine yy12 ?_; (refine zc auto_wl (cw _ auto_heap) ?_; rintro r H' ⟨rfl, rfl⟩); refine yy57 ?_; refine yy6 ?_; refine yy46 ?_; (refine zc auto_wl (cis _ auto_heap) ?_; rintro r H' ⟨rfl, rfl⟩); refine yy104 ?_; refine yy98 ?_; refine yy36 ?_; refine k_seq_ret ?_; rotate_left) | fail)
    exact ⟨.inl rfl, _, _, _, Ent.cellRetS 2 (o := o) _ rfl auto_heap (wc_refl _) auto_heap (by (first | assumption | exact Ne.symm (by assumption) | exact AHeap.ne_of_fresh (by assumption) | exact Ne.symm (AHeap.ne_of_fresh (by assumption)) | exact AHeap.ne_of_fresh (AHeap.none_of_set (by assumption)) | exact Ne.symm (AHeap.ne_of_fresh (AHeap.none_of_set (by assumption))) | exact AHeap.ne_ns (by assumption) (by assumption) | exact AHeap.ne_sn (by assumption) (by assumption) | exact AHeap.ne_ns (by assumption) auto_heap2 | exact AHeap.ne_sn (by assumption) auto_heap2)) (fun sp sy sne shp => ⟨by (first | assumption | exact Ne.symm (by assumption) | exact AHeap.ne_of_fresh (by assumption) | exact Ne.symm (AHeap.ne_of_fresh (by assumption)) | exact AHeap.ne_of_fresh (AHeap.none_of_set (by assumption)) | exact Ne.symm (AHeap.ne_of_fresh (AHeap.none_of_set (by assumption))) | exact AHeap.ne_ns (by assumption) (by assumption) | exact AHeap.ne_sn (by assumption) (by assumption) | exact AHeap.ne_ns (by assumption) auto_heap2 | exact AHeap.ne_sn (by assumption) auto_heap2), auto_heap⟩), ret_1 rfl (rv1_agg (m := 5) rfl rfl rfl (by decide)), rfl, rfl⟩
  | true =>
    rw [hb] at cis
    rw [if_pos rfl]
    have cpt := fun H h => part_calls (o := o) H T h hTk hl
    obtain ⟨p1, p2⟩ := part_k (ws := ws) T
    generalize T.part ws = U at *
    have ct := fun H h => take_calls (o := o) H U ([102, 98, 121] : Bs) h (by omega) hl
    have hV := Tr.take (S := U) (s := ([102, 98, 121] : Bs)) hw (by omega)
    generalize U.take ws ([102, 98, 121] : Bs) = V at *
    obtain ⟨tb, V⟩ := V
    have hVd := hV.d
    have hVk := hV.kl
    simp only at *
    have ci := fun H h => in_calls (o := o) H V h hVk hl (by omega)
    obtain ⟨i1, i2⟩ := inn_k (ws := ws) V
    generalize hI : V.inn ws = I at *
    obtain ⟨b, Z⟩ := I
    simp only at *
    cases b with
    | false =>
      rw [if_neg (by decide)]
      generalize T.w ws = w at *
      refine acalls_of_aw1 Try.func80 rfl (by decide) ?_
      (first | focus (refine yy2 ?_; refine awl_alloc rfl rfl rfl (fun oN hoN => ?_); refine yy12 ?_; (refine zc auto_wl (c0 _ auto_heap) ?_; rintro r H' ⟨rfl, rfl⟩); refine awl_alloc rfl rfl rfl (fun oN hoN => ?_); refine yy11 ?_; refine yy12 ?_; (refine zc auto_wl (cw _ auto_heap) ?_; rintro r H' ⟨rfl, rfl⟩); refine yy57 ?_; refine yy6 ?_; refine yy46 ?_; (refine zc auto_wl (cis _ auto_heap) ?_; rintro r H' ⟨rfl, rfl⟩); refine yy52 ?_; refine yy25 ?_; refine yy8 ?_; (refine zc auto_wl (cpt _ auto_heap) ?_; rintro r H' ⟨rfl, rfl⟩); refine yy12 ?_; (refine zc auto_wl (ct _ auto_heap) ?_; rintro r H' ⟨rfl, rfl⟩); refine yy91 ?_; (refine zc auto_wl (ci _ auto_heap) ?_; rintro r H' ⟨rfl, rfl⟩); refine yy104 ?_; refine yy2 ?_; refine yy20 ?_; refine yy36 ?_; refine k_seq_ret ?_; rotate_left) | fail)
      exact ⟨.inl rfl, _, _, _, Ent.cellRetS 2 (o := o) Ex0.cells rfl auto_heap wc_ex0 auto_heap (by (first | assumption | exact Ne.symm (by assumption) | exact AHeap.ne_of_fresh (by assumption) | exact Ne.symm (AHeap.ne_of_fresh (by assumption)) | exact AHeap.ne_of_fresh (AHeap.none_of_set (by assumption)) | exact Ne.symm (AHeap.ne_of_fresh (AHeap.none_of_set (by assumption))) | exact AHeap.ne_ns (by assumption) (by assumption) | exact AHeap.ne_sn (by assumption) (by assumption) | exact AHeap.ne_ns (by assumption) auto_heap2 | exact AHeap.ne_sn (by assumption) auto_heap2)) (fun sp sy sne shp => ⟨by (first | assumption | exact Ne.symm (by assumption) | exact AHeap.ne_of_fresh (by assumption) | exact Ne.symm (AHeap.ne_of_fresh (by assumption)) | exact AHeap.ne_of_fresh (AHeap.none_of_set (by assumption)) | exact Ne.symm (AHeap.ne_of_fresh (AHeap.none_of_set (by assumption))) | exact AHeap.ne_ns (by assumption) (by assumption) | exact AHeap.ne_sn (by assumption) (by assumption) | exact AHeap.ne_ns (by assumption) auto_heap2 | exact AHeap.ne_sn (by assumption) auto_heap2), auto_heap⟩), ret_1 rfl (rv1_agg (m := 5) rfl rfl rfl (by decide)), rfl, rfl⟩
    | true =>
      rw [if_pos rfl]
      obtain ⟨i3, i4⟩ := i2 rfl
      have ca := fun H h => (hx (by omega)).fby H Z h (by omega) (by omega)
      have hY := (hg (by omega)).fby Z (by omega) (by omega)
      have hYd := hY.d
      generalize nx.fby Z = B at *
      obtain ⟨e, Y⟩ := B
      simp only at *
      generalize T.w ws = w at *
      refine acalls_of_aw1 Try.func80 rfl (by decide) ?_
      (first | focus (refine yy2 ?_; refine awl_alloc rfl rfl rfl (fun oN hoN => ?_); refine yy12 ?_; (refine zc auto_wl (c0 _ auto_heap) ?_; rintro r H' ⟨rfl, rfl⟩); refine awl_alloc rfl rfl rfl (fun oN hoN => ?_); refine yy11 ?_; refine yy12 ?_; (refine zc auto_wl (cw _ auto_heap) ?_; rintro r H' ⟨rfl, rfl⟩); refine yy57 ?_; refine yy6 ?_; refine yy46 ?_; (refine zc auto_wl (cis _ auto_heap) ?_; rintro r H' ⟨rfl, rfl⟩); refine yy52 ?_; refine yy25 ?_; refine yy8 ?_; (refine zc auto_wl (cpt _ auto_heap) ?_; rintro r H' ⟨rfl, rfl⟩); refine yy12 ?_; (refine zc auto_wl (ct _ auto_heap) ?_; rintro r H' ⟨rfl, rfl⟩); refine yy91 ?_; (refine zc auto_wl (ci _ auto_heap) ?_; rintro r H' ⟨rfl, rfl⟩); refine yy52 ?_; refine yy25 ?_; refine yy8 ?_; (refine zc auto_wl (ca _ auto_heap) ?_; rintro r H' ⟨rfl, rfl⟩); refine awl_alloc rfl rfl rfl (fun oN hoN => ?_); refine yy11 ?_; refine yy12 ?_; refine yy106 ?_; refine awl_s rfl (s_subn rfl rfl (by omega) (by omega)) ?_; refine yy88 ?_; refine yy58 ?_; refine yy16 ?_; refine yy7 ?_; refine yy26 ?_; refine yy26 ?_; refine yy37 ?_; refine yy20 ?_; refine yy36 ?_; rotate_left) | fail)
      exact ⟨.inl rfl, _, _, _, Ent.cellRetS 2 (o := o) _ rfl auto_heap (wc_exk (W.of rfl) (w_str0 rfl) rfl (exL_two _ _).symm) auto_heap (by (first | assumption | exact Ne.symm (by assumption) | exact AHeap.ne_of_fresh (by assumption) | exact Ne.symm (AHeap.ne_of_fresh (by assumption)) | exact AHeap.ne_of_fresh (AHeap.none_of_set (by assumption)) | exact Ne.symm (AHeap.ne_of_fresh (AHeap.none_of_set (by assumption))) | exact AHeap.ne_ns (by assumption) (by assumption) | exact AHeap.ne_sn (by assumption) (by assumption) | exact AHeap.ne_ns (by assumption) auto_heap2 | exact AHeap.ne_sn (by assumption) auto_heap2)) (fun sp sy sne shp => ⟨by (first | assumption | exact Ne.symm (by assumption) | exact AHeap.ne_of_fresh (by assumption) | exact Ne.symm (AHeap.ne_of_fresh (by assumption)) | exact AHeap.ne_of_fresh (AHeap.none_of_set (by assumption)) | exact Ne.symm (AHeap.ne_of_fresh (AHeap.none_of_set (by assumption))) | exact AHeap.ne_ns (by assumption) (by assumption) | exact AHeap.ne_sn (by assumption) (by assumption) | exact AHeap.ne_ns (by assumption) auto_heap2 | exact AHeap.ne_sn (by assumption) auto_heap2), auto_heap⟩), ret_1 rfl (rv1_agg (m := 5) rfl rfl rfl (by decide)), rfl, rfl⟩
/-- A row's contract. -/
def RwC (ws : List Wd) (o m d : Nat) (F : Ps → Ex × Ps) : Prop := ∀ (H : AHeap) (S : Ps), H o = some (.cel (S.cells ws)) → S.k < ws.length → S.d = d →
  ACalls Try.prog 78 [.ptr o 0, avI (5 - m : Nat)] H fun r H' => r = exA (F S).1 ∧ H' = H.set o (.cel ((F S).2.cells ws))
theorem arrow_calls (hw : WsOk ws) {d : Nat} {nx : Lv} (hd : d ≤ 30) (hg : d < 30 → GoodLv ws (d + 1) nx) (hx : d < 30 → LvC ws o (d + 1) nx)
    (hS : Good ws d (rowF ws nx 5)) (hC : RwC ws o 5 d (rowF ws nx 5)) :
    RdC ws o 76 d (arrowF ws nx) := fun H S h hk hSd => by
  have hl := hw.len
  have c0 := fun H h => hC H S h hk hSd
  have hA := hS S hk hSd
  unfold arrowF
  generalize rowF ws nx 5 S = A at *
  obtain ⟨a, T⟩ := A
  have hTd := hA.d
  have hTk := hA.kl
  simp only at *
  have cw := fun H h => w_calls (o := o) H T h hTk hl
  have cis := fun H h => is_calls (o := o) H T ([45, 62] : Bs) h hTk hl
  cases hb : T.is ws ([45, 62] : Bs) with
  | false =>
    rw [hb] at cis
    rw [if_neg (by decide)]
    generalize T.w ws = w at *
    refine acalls_of_aw1 Try.func76 rfl (by decide) ?_
    (first | focus (refine yy2 ?_; refine awl_alloc rfl rfl rfl (fun oN hoN => ?_); refine yy12 ?_; (refine zc auto_wl (c0 _ auto_heap) ?_; rintro r H' ⟨rfl, rfl⟩); refine awl_alloc rfl rfl rfl (fun oN hoN => ?_); refine yy11 ?_; refine yy12 ?_; (refine zc auto_wl (cw _ auto_heap) ?_; rintro r H' ⟨rfl, rfl⟩); refine yy57 ?_; refine yy6 ?_; refine yy46 ?_; (refine zc auto_wl (cis _ auto_heap) ?_; rintro r H' ⟨rfl, rfl⟩); refine yy104 ?_; refine yy98 ?_; refine yy36 ?_; refine k_seq_ret ?_; rotate_left) | fail)
    exact ⟨.inl rfl, _, _, _, Ent.cellRetS 2 (o := o) _ rfl auto_heap (wc_refl _) auto_heap (by (first | assumption | exact Ne.symm (by assumption) | exact AHeap.ne_of_fresh (by assumption) | exact Ne.symm (AHeap.ne_of_fresh (by assumption)) | exact AHeap.ne_of_fresh (AHeap.none_of_set (by assumption)) | exact Ne.symm (AHeap.ne_of_fresh (AHeap.none_of_set (by assumption))) | exact AHeap.ne_ns (by assumption) (by assumption) | exact AHeap.ne_sn (by assumption) (by assumption) | exact AHeap.ne_ns (by assumption) auto_heap2 | exact AHeap.ne_sn (by assumption) auto_heap2)) (fun sp sy sne shp => ⟨by (first | assumption | exact Ne.symm (by assumption) | exact AHeap.ne_of_fresh (by assumption) | exact Ne.symm (AHeap.ne_of_fresh (by assumption)) | exact AHeap.ne_of_fresh (AHeap.none_of_set (by assumption)) | exact Ne.symm (AHeap.ne_of_fresh (AHeap.none_of_set (by assumption))) | exact AHeap.ne_ns (by assumption) (by assumption) | exact AHeap.ne_sn (by assumption) (by assumption) | exact AHeap.ne_ns (by assumption) auto_heap2 | exact AHeap.ne_sn (by assumption) auto_heap2), auto_heap⟩), ret_1 rfl (rv1_agg (m := 5) rfl rfl rfl (by decide)), rfl, rfl⟩
  | true =>
    rw [hb] at cis
    rw [if_pos rfl]
    have cpt := fun H h => part_calls (o := o) H T h hTk hl
    obtain ⟨p1, p2⟩ := part_k (ws := ws) T
    generalize T.part ws = U at *
    have ct := fun H h => take_calls (o := o) H U ([45, 62] : Bs) h (by omega) hl
    have hV := Tr.take (S := U) (s := ([45, 62] : Bs)) hw (by omega)
    generalize U.take ws ([45, 62] : Bs) = V at *
    obtain ⟨tb, V⟩ := V
    have hVd := hV.d
    have hVk := hV.kl
    simp only at *
    have ci := fun H h => in_calls (o := o) H V h hVk hl (by omega)
    obtain ⟨i1, i2⟩ := inn_k (ws := ws) V
    generalize hI : V.inn ws = I at *
    obtain ⟨b, Z⟩ := I
    simp only at *
    cases b with
    | false =>
      rw [if_neg (by decide)]
      generalize T.w ws = w at *
      refine acalls_of_aw1 Try.func76 rfl (by decide) ?_
      (first | focus (refine yy2 ?_; refine awl_alloc rfl rfl rfl (fun oN hoN => ?_); refine yy12 ?_; (refine zc auto_wl (c0 _ auto_heap) ?_; rintro r H' ⟨rfl, rfl⟩); refine awl_alloc rfl rfl rfl (fun oN hoN => ?_); refine yy11 ?_; refine yy12 ?_; (refine zc auto_wl (cw _ auto_heap) ?_; rintro r H' ⟨rfl, rfl⟩); refine yy57 ?_; refine yy6 ?_; refine yy46 ?_; (refine zc auto_wl (cis _ auto_heap) ?_; rintro r H' ⟨rfl, rfl⟩); refine yy52 ?_; refine yy25 ?_; refine yy8 ?_; (refine zc auto_wl (cpt _ auto_heap) ?_; rintro r H' ⟨rfl, rfl⟩); refine yy12 ?_; (refine zc auto_wl (ct _ auto_heap) ?_; rintro r H' ⟨rfl, rfl⟩); refine yy91 ?_; (refine zc auto_wl (ci _ auto_heap) ?_; rintro r H' ⟨rfl, rfl⟩); refine yy104 ?_; refine yy2 ?_; refine yy20 ?_; refine yy36 ?_; refine k_seq_ret ?_; rotate_left) | fail)
      exact ⟨.inl rfl, _, _, _, Ent.cellRetS 2 (o := o) Ex0.cells rfl auto_heap wc_ex0 auto_heap (by (first | assumption | exact Ne.symm (by assumption) | exact AHeap.ne_of_fresh (by assumption) | exact Ne.symm (AHeap.ne_of_fresh (by assumption)) | exact AHeap.ne_of_fresh (AHeap.none_of_set (by assumption)) | exact Ne.symm (AHeap.ne_of_fresh (AHeap.none_of_set (by assumption))) | exact AHeap.ne_ns (by assumption) (by assumption) | exact AHeap.ne_sn (by assumption) (by assumption) | exact AHeap.ne_ns (by assumption) auto_heap2 | exact AHeap.ne_sn (by assumption) auto_heap2)) (fun sp sy sne shp => ⟨by (first | assumption | exact Ne.symm (by assumption) | exact AHeap.ne_of_fresh (by assumption) | exact Ne.symm (AHeap.ne_of_fresh (by assumption)) | exact AHeap.ne_of_fresh (AHeap.none_of_set (by assumption)) | exact Ne.symm (AHeap.ne_of_fresh (AHeap.none_of_set (by assumption))) | exact AHeap.ne_ns (by assumption) (by assumption) | exact AHeap.ne_sn (by assumption) (by assumption) | exact AHeap.ne_ns (by assumption) auto_heap2 | exact AHeap.ne_sn (by assumption) auto_heap2), auto_heap⟩), ret_1 rfl (rv1_agg (m := 5) rfl rfl rfl (by decide)), rfl, rfl⟩
    | true =>
      rw [if_pos rfl]
      obtain ⟨i3, i4⟩ := i2 rfl
      have ca := fun H h => (hx (by omega)).arrow H Z h (by omega) (by omega)
      have hY := (hg (by omega)).arrow Z (by omega) (by omega)
      have hYd := hY.d
      generalize nx.arrow Z = B at *
      obtain ⟨e, Y⟩ := B
      simp only at *
      generalize T.w ws = w at *
      refine acalls_of_aw1 Try.func76 rfl (by decide) ?_
      (first | focus (refine yy2 ?_; refine awl_alloc rfl rfl rfl (fun oN hoN => ?_); refine yy12 ?_; (refine zc auto_wl (c0 _ auto_heap) ?_; rintro r H' ⟨rfl, rfl⟩); refine awl_alloc rfl rfl rfl (fun oN hoN => ?_); refine yy11 ?_; refine yy12 ?_; (refine zc auto_wl (cw _ auto_heap) ?_; rintro r H' ⟨rfl, rfl⟩); refine yy57 ?_; refine yy6 ?_; refine yy46 ?_; (refine zc auto_wl (cis _ auto_heap) ?_; rintro r H' ⟨rfl, rfl⟩); refine yy52 ?_; refine yy25 ?_; refine yy8 ?_; (refine zc auto_wl (cpt _ auto_heap) ?_; rintro r H' ⟨rfl, rfl⟩); refine yy12 ?_; (refine zc auto_wl (ct _ auto_heap) ?_; rintro r H' ⟨rfl, rfl⟩); refine yy91 ?_; (refine zc auto_wl (ci _ auto_heap) ?_; rintro r H' ⟨rfl, rfl⟩); refine yy52 ?_; refine yy25 ?_; refine yy8 ?_; (refine zc auto_wl (ca _ auto_heap) ?_; rintro r H' ⟨rfl, rfl⟩); refine awl_alloc rfl rfl rfl (fun oN hoN => ?_); refine yy11 ?_; refine yy12 ?_; refine yy106 ?_; refine awl_s rfl (s_subn rfl rfl (by omega) (by omega)) ?_; refine yy88 ?_; refine yy58 ?_; refine yy16 ?_; refine yy7 ?_; refine yy26 ?_; refine yy26 ?_; refine yy37 ?_; refine yy20 ?_; refine yy36 ?_; rotate_left) | fail)
      exact ⟨.inl rfl, _, _, _, Ent.cellRetS 2 (o := o) _ rfl auto_heap (wc_exk (W.of rfl) (w_str0 rfl) rfl (exL_two _ _).symm) auto_heap (by (first | assumption | exact Ne.symm (by assumption) | exact AHeap.ne_of_fresh (by assumption) | exact Ne.symm (AHeap.ne_of_fresh (by assumption)) | exact AHeap.ne_of_fresh (AHeap.none_of_set (by assumption)) | exact Ne.symm (AHeap.ne_of_fresh (AHeap.none_of_set (by assumption))) | exact AHeap.ne_ns (by assumption) (by assumption) | exact AHeap.ne_sn (by assumption) (by assumption) | exact AHeap.ne_ns (by assumption) auto_heap2 | exact AHeap.ne_sn (by assumption) auto_heap2)) (fun sp sy sne shp => ⟨by (first | assumption | exact Ne.symm (by assumption) | exact AHeap.ne_of_fresh (by assumption) | exact Ne.symm (AHeap.ne_of_fresh (by assumption)) | exact AHeap.ne_of_fresh (AHeap.none_of_set (by assumption)) | exact Ne.symm (AHeap.ne_of_fresh (AHeap.none_of_set (by assumption))) | exact AHeap.ne_ns (by assumption) (by assumption) | exact AHeap.ne_sn (by assumption) (by assumption) | exact AHeap.ne_ns (by assumption) auto_heap2 | exact AHeap.ne_sn (by assumption) auto_heap2), auto_heap⟩), ret_1 rfl (rv1_agg (m := 5) rfl rfl rfl (by decide)), rfl, rfl⟩
end
end Go.Proofs.Ytmgkhfnhaeplgaa

namespace Go.Proofs.Ytmgkhfnhaeplgaa
open Go Go.Am Go.Proofs
set_option linter.unusedSimpArgs false
set_option linter.unusedVariables false
set_option maxRecDepth 20000
set_option maxHeartbeats 8000000

/-! The reference's parser: when, row. -/
section
variable {ws : List Wd} {o : Nat}
abbrev exZ : List AV := [.raw (.string ⟨#[]⟩), .raw (.string ⟨#[]⟩), avI 0, avI 0, .raw (.slice none 0 0)]
def mu (ws : List Wd) (S : Ps) : Nat := (ws.length - S.k) + (if S.err = 0 then 1 else 0)
theorem Tr.mu {S T : Ps} (h : Tr ws S T) : mu ws T ≤ mu ws S := by
  unfold Go.Proofs.Ytmgkhfnhaeplgaa.mu
  have h1 := h.k
  have h2 := h.e
  by_cases e1 : S.err = 0
  · rw [if_pos e1]; split <;> omega
  · rw [if_neg e1, if_neg (h2 e1)]; omega
theorem mu_step {S : Ps} (h : S.k < ws.length) (he : S.err = 0) : mu ws S.step < mu ws S := by
  unfold mu
  rw [if_pos he, if_pos (show S.step.err = 0 from he)]
  show ws.length - (S.k + 1) + 1 < _
  omega
theorem mu_fail {S T : Ps} (h : Tr ws S T) (he : S.err = 0) (ht : T.err ≠ 0) : mu ws T < mu ws S := by
  unfold mu
  rw [if_pos he, if_neg ht]
  have := h.k
  omega
theorem part_w (S : Ps) (h : (S.part ws).err = 0) : ∀ s, (S.part ws).is ws s = S.is ws s := fun s => by
  unfold Ps.part Ps.fail at *
  unfold Ps.is Ps.w
  split at h
  · split at h
    · cases h
    · rename_i h1 h2; exact absurd h1.1 h2
  · rename_i h1; simp only [if_neg h1]
theorem mu_part {S : Ps} {s : Bs} (hw : WsOk ws) (h : S.k < ws.length) (hs : S.is ws s = true) : mu ws ((S.part ws).take ws s).2 < mu ws S := by
  have h1 := Tr.part (ws := ws) h
  have h0 := (is_kind hs).1
  by_cases he : (S.part ws).err = 0
  · have h2 := part_w S he s
    rw [hs] at h2
    unfold Ps.take
    rw [if_pos h2]
    have h3 := mu_step (S := S.part ws) h1.kl he
    have h4 := h1.mu
    exact Nat.lt_of_lt_of_le h3 h4
  · have h2 := h1.trans (.take (s := s) hw h1.kl)
    exact mu_fail h2 h0 ((Tr.take (s := s) hw h1.kl).e he)
theorem when_calls (hw : WsOk ws) {d : Nat} {nx : Lv} (hd : d ≤ 30) (hS : Good ws d (unF ws nx)) (hC : RdC ws o 82 d (unF ws nx)) :
    RdC ws o 81 d (whenF ws nx) := fun H S h hk hSd => by
  have hl := hw.len
  have c0 := fun H h => hC H S h hk hSd
  have hA := hS S hk hSd
  unfold whenF
  generalize unF ws nx S = A at *
  obtain ⟨a, T⟩ := A
  have hTk := hA.kl
  simp only at *
  have hmu : mu ws T < ws.length + 3 := by unfold mu; split <;> omega
  generalize hW : whenL ws (ws.length + 3) a T = Rz at *
  refine acalls_of_aw1 Try.func81 rfl (by decide) ?_
  (first | focus (refine yy2 ?_; refine awl_alloc rfl rfl rfl (fun oN hoN => ?_); refine yy12 ?_; (refine zc auto_wl (c0 _ auto_heap) ?_; rintro r H' ⟨rfl, rfl⟩); refine awl_alloc rfl rfl rfl (fun oN hoN => ?_); refine yy11 ?_; refine yy4 ?_; refine yy105 ?_; rotate_left) | fail)
  rename_i oR hoR
  have hoA : H oN = none := AHeap.none_of_set (AHeap.none_of_set hoN)
  have hAR : oN ≠ oR := by (first | assumption | exact Ne.symm (by assumption) | exact AHeap.ne_of_fresh (by assumption) | exact Ne.symm (AHeap.ne_of_fresh (by assumption)) | exact AHeap.ne_of_fresh (AHeap.none_of_set (by assumption)) | exact Ne.symm (AHeap.ne_of_fresh (AHeap.none_of_set (by assumption))) | exact AHeap.ne_ns (by assumption) (by assumption) | exact AHeap.ne_sn (by assumption) (by assumption) | exact AHeap.ne_ns (by assumption) auto_heap2 | exact AHeap.ne_sn (by assumption) auto_heap2)
  refine aw_loop (fun mm R' H2 => ∃ (a : Ex) (S : Ps) (m : Nat), S.k < ws.length ∧ mu ws S < m ∧ whenL ws m a S = Rz ∧ H2 o = some (.cel (S.cells ws)) ∧ H2 oN = some (.cel a.cells) ∧ H2 oR = some (.cel exZ) ∧ (∀ p y, p ≠ o → H p = some y → H2 p = some y) ∧ R' = [(0, .ptr o 0), (2, .ptr oR 0), (3, .ptr oN 0)] ∧ m = mm) ?_ ?_
  · exact ⟨_, _, _, Ent.sub _ (by (repeat' (first | exact RSub.nil _ | apply RSub.cons)); all_goals rfl), a, T, _, hTk, hmu, hW, by exact auto_heap, by exact auto_heap, by exact auto_heap, fun p y hne hp => auto_heap, rfl, rfl⟩
  clear hA hTk hmu hW c0 hS hC hSd hk hoN
  rintro mm R0 H2 ⟨a, S, m, hk, hm, hW, h1, h2, h3, hfr, rfl, rfl⟩
  have cw := fun H h => w_calls (o := o) H S h hk hl
  have cis := fun H h => is_calls (o := o) H S ([119, 104, 101, 110] : Bs) h hk hl
  obtain ⟨m, rfl⟩ : ∃ m', m = m' + 1 := ⟨m - 1, by omega⟩
  unfold whenL at hW
  cases hb : S.is ws ([119, 104, 101, 110] : Bs) with
  | false =>
    rw [hb, if_neg (by decide)] at hW
    subst hW
    rw [hb] at cis
    (first | focus (refine yy46 ?_; (refine zc auto_wl (cis _ auto_heap) ?_; rintro r H' ⟨rfl, rfl⟩); refine yy81 ?_; refine yy113 ?_; refine yy98 ?_; refine yy36 ?_; rotate_left) | fail)
    exact ⟨.inl rfl, _, _, _, Ent.cellRetS 2 (o := o) _ rfl auto_heap (wc_refl _) auto_heap (by (first | assumption | exact Ne.symm (by assumption) | exact AHeap.ne_of_fresh (by assumption) | exact Ne.symm (AHeap.ne_of_fresh (by assumption)) | exact AHeap.ne_of_fresh (AHeap.none_of_set (by assumption)) | exact Ne.symm (AHeap.ne_of_fresh (AHeap.none_of_set (by assumption))) | exact AHeap.ne_ns (by assumption) (by assumption) | exact AHeap.ne_sn (by assumption) (by assumption) | exact AHeap.ne_ns (by assumption) auto_heap2 | exact AHeap.ne_sn (by assumption) auto_heap2)) (fun sp sy sne shp => by have hp2 := hfr sp sy sne shp; exact ⟨by (first | assumption | exact Ne.symm (by assumption) | exact AHeap.ne_of_fresh (by assumption) | exact Ne.symm (AHeap.ne_of_fresh (by assumption)) | exact AHeap.ne_of_fresh (AHeap.none_of_set (by assumption)) | exact Ne.symm (AHeap.ne_of_fresh (AHeap.none_of_set (by assumption))) | exact AHeap.ne_ns (by assumption) (by assumption) | exact AHeap.ne_sn (by assumption) (by assumption) | exact AHeap.ne_ns (by assumption) auto_heap2 | exact AHeap.ne_sn (by assumption) auto_heap2), auto_heap⟩), ret_1 rfl (rv1_agg (m := 5) rfl rfl rfl (by decide)), rfl, rfl⟩
  | true =>
    rw [hb, if_pos rfl] at hW
    rw [hb] at cis
    have hmu2 := mu_part (s := ([119, 104, 101, 110] : Bs)) hw hk hb
    have cpt := fun H h => part_calls (o := o) H S h hk hl
    obtain ⟨p1, p2⟩ := part_k (ws := ws) S
    generalize S.part ws = U at *
    have ct := fun H h => take_calls (o := o) H U ([119, 104, 101, 110] : Bs) h (by omega) hl
    have hV := Tr.take (S := U) (s := ([119, 104, 101, 110] : Bs)) hw (by omega)
    generalize U.take ws ([119, 104, 101, 110] : Bs) = V at *
    obtain ⟨tb, V⟩ := V
    have hVk := hV.kl
    simp only at *
    have cn := fun H h => take_calls (o := o) H V ([110, 111, 116] : Bs) h (by omega) hl
    have hX := Tr.take (S := V) (s := ([110, 111, 116] : Bs)) hw (by omega)
    generalize V.take ws ([110, 111, 116] : Bs) = X at *
    obtain ⟨nb, X⟩ := X
    have hXk := hX.kl
    have hXm := hX.mu
    simp only at *
    have cm := fun H h => name_calls (o := o) H X h (by omega) hl
    have hY := Tr.name (S := X) hw (by omega)
    generalize X.name ws = Y at *
    obtain ⟨nm, Y⟩ := Y
    have hYk := hY.kl
    have hYm := hY.mu
    simp only at *
    generalize S.w ws = w at *
    replace hW := Hdn.mk hW
    cases nb with
    | false =>
      (first | focus (refine yy46 ?_; (refine zc auto_wl (cis _ auto_heap) ?_; rintro r H' ⟨rfl, rfl⟩); refine yy122 ?_; refine yy51 ?_; refine yy8 ?_; (refine zc auto_wl (cw _ auto_heap) ?_; rintro r H' ⟨rfl, rfl⟩); refine yy57 ?_; refine yy6 ?_; refine yy8 ?_; (refine zc auto_wl (cpt _ auto_heap) ?_; rintro r H' ⟨rfl, rfl⟩); refine yy12 ?_; (refine zc auto_wl (ct _ auto_heap) ?_; rintro r H' ⟨rfl, rfl⟩); refine yy4 ?_; refine yy15 ?_; refine yy46 ?_; (refine zc auto_wl (cn _ auto_heap) ?_; rintro r H' ⟨rfl, rfl⟩); refine yy25 ?_; refine yy8 ?_; (refine zc auto_wl (cm _ auto_heap) ?_; rintro r H' ⟨rfl, rfl⟩); refine yy72 ?_; refine yy4 ?_; refine yy32 ?_; refine yy103 ?_; refine yy26 ?_; refine yy37 ?_; refine yy20 ?_; refine yy139 ?_; refine yy48 ?_; rotate_left) | fail)
      exact ⟨m, _, _, Nat.lt_succ_self _, (Ent.sub _ (by (repeat' (first | exact RSub.nil _ | apply RSub.cons)); all_goals rfl)).trans (Ent.wcelH rfl (wc_exk (W.of rfl) (W.of rfl) rfl (exL_one _).symm)), _, _, m, hYk, by omega, hW.out, by exact auto_heap, by exact auto_heap, by exact auto_heap, fun p y hne hp => by have hp2 := hfr p y hne hp; exact auto_heap, rfl, rfl⟩
    | true =>
      (first | focus (refine yy46 ?_; (refine zc auto_wl (cis _ auto_heap) ?_; rintro r H' ⟨rfl, rfl⟩); refine yy122 ?_; refine yy51 ?_; refine yy8 ?_; (refine zc auto_wl (cw _ auto_heap) ?_; rintro r H' ⟨rfl, rfl⟩); refine yy57 ?_; refine yy6 ?_; refine yy8 ?_; (refine zc auto_wl (cpt _ auto_heap) ?_; rintro r H' ⟨rfl, rfl⟩); refine yy12 ?_; (refine zc auto_wl (ct _ auto_heap) ?_; rintro r H' ⟨rfl, rfl⟩); refine yy4 ?_; refine yy15 ?_; refine yy46 ?_; (refine zc auto_wl (cn _ auto_heap) ?_; rintro r H' ⟨rfl, rfl⟩); refine yy122 ?_; refine yy32 ?_; refine yy6 ?_; refine yy8 ?_; (refine zc auto_wl (cm _ auto_heap) ?_; rintro r H' ⟨rfl, rfl⟩); refine yy72 ?_; refine yy4 ?_; refine yy32 ?_; refine yy103 ?_; refine yy26 ?_; refine yy37 ?_; refine yy20 ?_; refine yy139 ?_; refine yy48 ?_; rotate_left) | fail)
      exact ⟨m, _, _, Nat.lt_succ_self _, (Ent.sub _ (by (repeat' (first | exact RSub.nil _ | apply RSub.cons)); all_goals rfl)).trans (Ent.wcelH rfl (wc_exk (W.of rfl) (W.of rfl) rfl (exL_one _).symm)), _, _, m, hYk, by omega, hW.out, by exact auto_heap, by exact auto_heap, by exact auto_heap, fun p y hne hp => by have hp2 := hfr p y hne hp; exact auto_heap, rfl, rfl⟩
end
end Go.Proofs.Ytmgkhfnhaeplgaa

namespace Go.Proofs.Ytmgkhfnhaeplgaa
open Go Go.Am Go.Proofs
set_option linter.unusedSimpArgs false
set_option linter.unusedVariables false
set_option maxRecDepth 20000
set_option maxHeartbeats 8000000

/-! The reference's parser: row. -/
section
variable {ws : List Wd} {o : Nat}
def opF (ws : List Wd) (S : Ps) (l : List Bs) : Bs := l.foldl (fun op s => if S.is ws s then s else op) []
theorem opF_snoc (S : Ps) (l : List Bs) (s : Bs) : opF ws S (l ++ [s]) = if S.is ws s then s else opF ws S l := by simp [opF]
theorem opF_is0 (S : Ps) : ∀ (l : List Bs) (acc : Bs), (acc = [] ∨ S.is ws acc = true) → (l.foldl (fun op s => if S.is ws s then s else op) acc = [] ∨ S.is ws (l.foldl (fun op s => if S.is ws s then s else op) acc) = true)
  | [], acc, h => h
  | s :: l, acc, h => by
    rw [List.foldl_cons]
    refine opF_is0 S l _ ?_
    cases hb : S.is ws s with
    | true => right; rw [if_pos rfl]; exact hb
    | false => rw [if_neg (by decide)]; exact h
theorem opF_is (S : Ps) (l : List Bs) : opF ws S l = [] ∨ S.is ws (opF ws S l) = true := opF_is0 S l [] (.inl rfl)
theorem row0_calls {d : Nat} {nx : Lv} (hC : RdC ws o 80 d (fbyF ws nx)) : RwC ws o 0 d (rowF ws nx 0) := fun H S h hk hSd => by
  have c0 := fun H h => hC H S h hk hSd
  unfold rowF
  generalize fbyF ws nx S = A at *
  obtain ⟨a, T⟩ := A
  simp only at *
  refine acalls_of_aw2 Try.func78 rfl (by decide) ?_
  (first | focus (refine yy2 ?_; refine awl_alloc rfl rfl rfl (fun oN hoN => ?_); refine yy4 ?_; refine yy9 ?_; refine yy87 ?_; refine yy4 ?_; refine aw_condp rfl (fun hc => ?_) (fun hc => ?_); refine yy8 ?_; (refine zc auto_wl (c0 _ auto_heap) ?_; rintro r H' ⟨rfl, rfl⟩); refine yy36 ?_; refine k_seq_ret ?_; rotate_left; exact absurd hc auto_no) | fail)
  exact ⟨.inl rfl, _, _, _, Ent.cellRetS 4 (o := o) a.cells rfl auto_heap (wc_refl _) auto_heap (by (first | assumption | exact Ne.symm (by assumption) | exact AHeap.ne_of_fresh (by assumption) | exact Ne.symm (AHeap.ne_of_fresh (by assumption)) | exact AHeap.ne_of_fresh (AHeap.none_of_set (by assumption)) | exact Ne.symm (AHeap.ne_of_fresh (AHeap.none_of_set (by assumption))) | exact AHeap.ne_ns (by assumption) (by assumption) | exact AHeap.ne_sn (by assumption) (by assumption) | exact AHeap.ne_ns (by assumption) auto_heap2 | exact AHeap.ne_sn (by assumption) auto_heap2)) (fun sp sy sne shp => ⟨by (first | assumption | exact Ne.symm (by assumption) | exact AHeap.ne_of_fresh (by assumption) | exact Ne.symm (AHeap.ne_of_fresh (by assumption)) | exact AHeap.ne_of_fresh (AHeap.none_of_set (by assumption)) | exact Ne.symm (AHeap.ne_of_fresh (AHeap.none_of_set (by assumption))) | exact AHeap.ne_ns (by assumption) (by assumption) | exact AHeap.ne_sn (by assumption) (by assumption) | exact AHeap.ne_ns (by assumption) auto_heap2 | exact AHeap.ne_sn (by assumption) auto_heap2), auto_heap⟩), ret_1 rfl (rv1_agg (m := 5) rfl rfl rfl (by decide)), rfl, rfl⟩
theorem row_calls (hw : WsOk ws) {d m : Nat} {nx : Lv} (hm : m ≤ 4) (hS : Good ws d (rowF ws nx m)) (hC : RwC ws o m d (rowF ws nx m)) : RwC ws o (m + 1) d (rowF ws nx (m + 1)) := fun H S h hk hSd => by
  have hl := hw.len
  have c0 := fun H h => hC H S h hk hSd
  have hA := hS S hk hSd
  unfold rowF
  generalize hlev : 4 - m = lev at *
  have e1 : 5 - (m + 1) = lev := by omega
  have e2 : 5 - m = lev + 1 := by omega
  have hl4 : lev ≤ 4 := by omega
  have hops : ([.slsx 2 [.str ([111, 114] : Bs), .str ([120, 111, 114] : Bs)], .slsx 1 [.str ([97, 110, 100] : Bs)], .slsx 6 [.str ([61] : Bs), .str ([60, 62] : Bs), .str ([60] : Bs), .str ([60, 61] : Bs), .str ([62] : Bs), .str ([62, 61] : Bs)], .slsx 2 [.str ([43] : Bs), .str ([45] : Bs)], .slsx 3 [.str ([42] : Bs), .str ([47] : Bs), .str ([109, 111, 100] : Bs)]] : List AV)[lev]? = some (.slsx (opsOf lev).length ((opsOf lev).map .str)) := by
    rcases lev with _ | _ | _ | _ | _ | lev
    all_goals first | rfl | (exfalso; omega)
  have hol : (opsOf lev).length ≤ 6 := by
    rcases lev with _ | _ | _ | _ | _ | lev
    all_goals first | decide | (exfalso; omega)
  unfold RwC at hC
  rw [e1]
  rw [e2] at hC c0
  clear hlev e1 e2 hm
  have hop : ∀ S, opAt ws lev S = opF ws S (opsOf lev) := fun S => rfl
  generalize rowF ws nx m = F at *
  generalize F S = A at *
  obtain ⟨a, T⟩ := A
  have hTk := hA.kl
  have hTd := hA.d.trans hSd
  simp only at *
  have hmu : mu ws T < ws.length + 3 := by unfold mu; split <;> omega
  generalize hR : rowL ws lev F (ws.length + 3) a T = Rz at *
  refine acalls_of_aw2 Try.func78 rfl (by decide) ?_
  (first | focus (refine yy2 ?_; refine awl_alloc rfl rfl rfl (fun oN hoN => ?_); refine yy4 ?_; refine yy9 ?_; refine yy87 ?_; refine yy4 ?_; refine yy90 ?_; intro hc; replace hc := hide_nat hc; refine yy35 ?_; refine yy2 ?_; refine yy37 ?_; refine yy37 ?_; refine yy37 ?_; refine yy37 ?_; refine yy37 ?_; refine yy37 ?_; refine yy7 ?_; rotate_left) | fail)
  refine awl_ent (Ent.weakReg 20 rfl (W.slsx rfl)) ?_
  (first | focus (refine yy44 ?_; rotate_left) | fail)
  refine awl_s rfl (s_load_pce rfl (by rw [Nat.mul_one]; exact hops)) ?_
  (first | focus (refine awl_s rfl (s_assign (v := .slsx _ _) rfl) ?_; refine yy12 ?_; refine yy31 ?_; (refine zc auto_wl (c0 _ auto_heap) ?_; rintro r H' ⟨rfl, rfl⟩); refine awl_alloc rfl rfl rfl (fun oN hoN => ?_); refine yy11 ?_; refine yy70 ?_; rotate_left) | fail)
  rename_i oR hoR
  have hoA : H oN = none := AHeap.none_of_set (AHeap.none_of_set hoN)
  have hAR : oN ≠ oR := by (first | assumption | exact Ne.symm (by assumption) | exact AHeap.ne_of_fresh (by assumption) | exact Ne.symm (AHeap.ne_of_fresh (by assumption)) | exact AHeap.ne_of_fresh (AHeap.none_of_set (by assumption)) | exact Ne.symm (AHeap.ne_of_fresh (AHeap.none_of_set (by assumption))) | exact AHeap.ne_ns (by assumption) (by assumption) | exact AHeap.ne_sn (by assumption) (by assumption) | exact AHeap.ne_ns (by assumption) auto_heap2 | exact AHeap.ne_sn (by assumption) auto_heap2)
  generalize opsOf lev = l at *
  refine aw_loop (fun mm R' H2 => ∃ (a : Ex) (S : Ps) (m : Nat), S.k < ws.length ∧ S.d = d ∧ mu ws S < m ∧ rowL ws lev F m a S = Rz ∧ H2 o = some (.cel (S.cells ws)) ∧ H2 oN = some (.cel a.cells) ∧ H2 oR = some (.cel exZ) ∧ (∀ p y, p ≠ o → H p = some y → H2 p = some y) ∧ R' = [(0, .ptr o 0), (1, avI lev), (4, .ptr oR 0), (5, .sls l.length (l.map .str)), (6, .ptr oN 0)] ∧ m = mm) ?_ ?_
  · exact ⟨_, _, _, Ent.tow (by (repeat' (first | exact RSubW.nil _ | apply RSubW.cons)); all_goals (first | exact W.of rfl | exact W.slsx rfl)) rfl, a, T, _, hTk, hTd, hmu, hR, by exact auto_heap, by exact auto_heap, by exact auto_heap, fun p y hne hp => auto_heap, rfl, rfl⟩
  clear hA hTk hTd hmu hR c0 hSd hk hoN hops
  rintro mm R0 H2 ⟨a, S, m, hk, hSd, hm, hR, h1, h2, h3, hfr, rfl, rfl⟩
  have cw := fun H h => w_calls (o := o) H S h hk hl
  have cis := fun H s h => is_calls (o := o) H S s h hk hl
  obtain ⟨m, rfl⟩ : ∃ m', m = m' + 1 := ⟨m - 1, by omega⟩
  unfold rowL at hR
  rw [hop] at hR
  have hlm : (l.map AV.str).length = l.length := List.length_map ..
  generalize hW : S.w ws = w at *
  replace hR := Hdn.mk hR
  replace hop := Hdn.mk hop
  (first | focus (refine aw_block ?_; refine yy8 ?_; (refine zc auto_wl (cw _ auto_heap) ?_; rintro r H' ⟨rfl, rfl⟩); refine yy57 ?_; refine yy6 ?_; refine yy2 ?_; refine yy72 ?_; refine yy42 ?_; refine yy71 ?_; rotate_left) | fail)
  refine aw_loop (fun m2 R' H3 => ∃ (i : Nat), i ≤ l.length ∧ H3 = H' ∧ R' = [(0, .ptr o 0), (1, avI lev), (4, .ptr oR 0), (5, .sls l.length (l.map .str)), (6, .ptr oN 0), (7, avI w.at_), (8, .str (opF ws S (l.take i))), (9, avI i)] ∧ l.length - i = m2) ?_ ?_
  · exact ⟨_, _, _, Ent.sub _ (by (repeat' (first | exact RSub.nil _ | apply RSub.cons)); all_goals rfl), 0, Nat.zero_le _, rfl, rfl, rfl⟩
  rintro m2 R0 H3 ⟨i, hi, rfl, rfl, rfl⟩
  by_cases hlt : i < l.length
  · have hg : l[i]? = some l[i] := List.getElem?_eq_getElem hlt
    have hsn : l.take (i + 1) = l.take i ++ [l[i]] := by rw [List.take_add_one, hg]; rfl
    generalize l[i] = e at *
    have cie := fun H h => cis H e h
    have hof := opF_snoc (ws := ws) S (l.take i) e
    rw [← hsn] at hof
    cases hb : S.is ws e with
    | true =>
      rw [hb, if_pos rfl] at hof
      rw [hb] at cie
      replace hof := Hdn.mk hof
      clear hsn
      (first | focus (refine yy45 ?_; refine aw_condp rfl (fun hc => ?_) (fun hc => ?_); refine yy13 ?_; refine yy8 ?_; refine yy27 ?_; refine yy47 ?_; refine yy43 ?_; (refine zc auto_wl (cie _ auto_heap) ?_; rintro r H' ⟨rfl, rfl⟩); refine yy122 ?_; refine yy107 ?_; refine yy47 ?_; refine yy43 ?_; refine yy72 ?_; refine yy48 ?_; refine yy22 ?_; rotate_left; exact absurd hc auto_no) | fail)
      exact ⟨l.length - (i + 1), _, _, by omega, Ent.to (by (repeat' (first | exact RSub.nil _ | apply RSub.cons)); all_goals (first | rfl | exact congrArg AV.str hof.out.symm)) rfl, i + 1, by omega, rfl, rfl, rfl⟩
    | false =>
      rw [hb, if_neg (by decide)] at hof
      rw [hb] at cie
      replace hof := Hdn.mk hof
      clear hsn
      (first | focus (refine yy45 ?_; refine aw_condp rfl (fun hc => ?_) (fun hc => ?_); refine yy13 ?_; refine yy8 ?_; refine yy27 ?_; refine yy47 ?_; refine yy43 ?_; (refine zc auto_wl (cie _ auto_heap) ?_; rintro r H' ⟨rfl, rfl⟩); refine yy81 ?_; refine yy39 ?_; refine yy22 ?_; rotate_left; exact absurd hc auto_no) | fail)
      exact ⟨l.length - (i + 1), _, _, by omega, Ent.to (by (repeat' (first | exact RSub.nil _ | apply RSub.cons)); all_goals (first | rfl | exact congrArg AV.str hof.out.symm)) rfl, i + 1, by omega, rfl, rfl, rfl⟩
  · obtain rfl : i = l.length := by omega
    rw [List.take_length]
    have hib := opF_is (ws := ws) S l
    clear hi hlt
    by_cases hop0 : opF ws S l = []
    · replace hR := hR.out
      rw [if_pos hop0] at hR
      rw [hop0]
      subst hR
      (first | focus (refine yy45 ?_; refine yy34 ?_; intro hc; refine yy38 ?_; refine yy111 ?_; refine yy4 ?_; refine aw_condp rfl (fun hc => ?_) (fun hc => ?_); refine yy98 ?_; refine yy36 ?_; refine yy102 ?_; refine k_block_ret ?_; rotate_left; exact absurd hc auto_no) | fail)
      exact ⟨.inl rfl, _, _, _, Ent.cellRetS 4 (o := o) _ rfl auto_heap (wc_refl _) auto_heap (by (first | assumption | exact Ne.symm (by assumption) | exact AHeap.ne_of_fresh (by assumption) | exact Ne.symm (AHeap.ne_of_fresh (by assumption)) | exact AHeap.ne_of_fresh (AHeap.none_of_set (by assumption)) | exact Ne.symm (AHeap.ne_of_fresh (AHeap.none_of_set (by assumption))) | exact AHeap.ne_ns (by assumption) (by assumption) | exact AHeap.ne_sn (by assumption) (by assumption) | exact AHeap.ne_ns (by assumption) auto_heap2 | exact AHeap.ne_sn (by assumption) auto_heap2)) (fun sp sy sne shp => by have hp2 := hfr sp sy sne shp; exact ⟨by (first | assumption | exact Ne.symm (by assumption) | exact AHeap.ne_of_fresh (by assumption) | exact Ne.symm (AHeap.ne_of_fresh (by assumption)) | exact AHeap.ne_of_fresh (AHeap.none_of_set (by assumption)) | exact Ne.symm (AHeap.ne_of_fresh (AHeap.none_of_set (by assumption))) | exact AHeap.ne_ns (by assumption) (by assumption) | exact AHeap.ne_sn (by assumption) (by assumption) | exact AHeap.ne_ns (by assumption) auto_heap2 | exact AHeap.ne_sn (by assumption) auto_heap2), auto_heap⟩), ret_1 rfl (rv1_agg (m := 5) rfl rfl rfl (by decide)), rfl, rfl⟩
    · replace hR := hR.out
      rw [if_neg hop0] at hR
      have hb := hib.resolve_left hop0
      clear hib
      generalize opF ws S l = op at *
      have hmu2 := mu_part (s := op) hw hk hb
      have cpt := fun H h => part_calls (o := o) H S h hk hl
      obtain ⟨p1, p2⟩ := part_k (ws := ws) S
      generalize S.part ws = U at *
      have ct := fun H h => take_calls (o := o) H U op h (by omega) hl
      have hV := Tr.take (S := U) (s := op) hw (by omega)
      generalize U.take ws op = V at *
      obtain ⟨tb, V⟩ := V
      have hVk := hV.kl
      have hVd := hV.d
      simp only at *
      have cr := fun H h => hC H V h (by omega) (by omega)
      have hX := hS V (by omega) (by omega)
      generalize F V = X at *
      obtain ⟨b, X⟩ := X
      have hXk := hX.kl
      have hXd := hX.d
      have hXm := hX.mu
      simp only at *
      replace hop0 := Hdq.mk hop0
      by_cases h2v : lev = 2
      · rw [if_pos h2v] at hR
        subst hR
        (first | focus (refine yy45 ?_; refine yy34 ?_; intro hc; refine yy38 ?_; refine yy111 ?_; refine yy4 ?_; refine yy30 ?_; intro hc; refine yy35 ?_; refine yy8 ?_; (refine zc auto_wl (cpt _ auto_heap) ?_; rintro r H' ⟨rfl, rfl⟩); refine yy12 ?_; refine yy116 ?_; (refine zc auto_wl (ct _ auto_heap) ?_; rintro r H' ⟨rfl, rfl⟩); refine yy12 ?_; refine yy31 ?_; (refine zc auto_wl (cr _ auto_heap) ?_; rintro r H' ⟨rfl, rfl⟩); refine awl_alloc rfl rfl rfl (fun oN hoN => ?_); refine yy11 ?_; refine yy16 ?_; refine yy97 ?_; refine yy26 ?_; refine yy26 ?_; refine yy37 ?_; refine yy20 ?_; refine yy139 ?_; refine yy16 ?_; refine yy7 ?_; refine yy87 ?_; refine yy4 ?_; refine aw_condp rfl (fun hc => ?_) (fun hc => ?_); refine yy98 ?_; refine yy36 ?_; refine yy33 ?_; refine k_block_ret ?_; rotate_left; exact absurd hc auto_no) | fail)
        exact ⟨.inl rfl, _, _, _, Ent.cellRetS 4 (o := o) _ rfl auto_heap (wc_exk (W.of rfl) (w_str0 rfl) rfl (exL_two _ _).symm) auto_heap (by (first | assumption | exact Ne.symm (by assumption) | exact AHeap.ne_of_fresh (by assumption) | exact Ne.symm (AHeap.ne_of_fresh (by assumption)) | exact AHeap.ne_of_fresh (AHeap.none_of_set (by assumption)) | exact Ne.symm (AHeap.ne_of_fresh (AHeap.none_of_set (by assumption))) | exact AHeap.ne_ns (by assumption) (by assumption) | exact AHeap.ne_sn (by assumption) (by assumption) | exact AHeap.ne_ns (by assumption) auto_heap2 | exact AHeap.ne_sn (by assumption) auto_heap2)) (fun sp sy sne shp => by have hp2 := hfr sp sy sne shp; exact ⟨by (first | assumption | exact Ne.symm (by assumption) | exact AHeap.ne_of_fresh (by assumption) | exact Ne.symm (AHeap.ne_of_fresh (by assumption)) | exact AHeap.ne_of_fresh (AHeap.none_of_set (by assumption)) | exact Ne.symm (AHeap.ne_of_fresh (AHeap.none_of_set (by assumption))) | exact AHeap.ne_ns (by assumption) (by assumption) | exact AHeap.ne_sn (by assumption) (by assumption) | exact AHeap.ne_ns (by assumption) auto_heap2 | exact AHeap.ne_sn (by assumption) auto_heap2), auto_heap⟩), ret_1 rfl (rv1_agg (m := 5) rfl rfl rfl (by decide)), rfl, rfl⟩
      · rw [if_neg h2v] at hR
        replace hR := Hdn.mk hR
        (first | focus (refine yy45 ?_; refine yy34 ?_; intro hc; refine yy38 ?_; refine yy111 ?_; refine yy4 ?_; refine yy30 ?_; intro hc; refine yy35 ?_; refine yy8 ?_; (refine zc auto_wl (cpt _ auto_heap) ?_; rintro r H' ⟨rfl, rfl⟩); refine yy12 ?_; refine yy116 ?_; (refine zc auto_wl (ct _ auto_heap) ?_; rintro r H' ⟨rfl, rfl⟩); refine yy12 ?_; refine yy31 ?_; (refine zc auto_wl (cr _ auto_heap) ?_; rintro r H' ⟨rfl, rfl⟩); refine awl_alloc rfl rfl rfl (fun oN hoN => ?_); refine yy11 ?_; refine yy16 ?_; refine yy97 ?_; refine yy26 ?_; refine yy26 ?_; refine yy37 ?_; refine yy20 ?_; refine yy139 ?_; refine yy16 ?_; refine yy7 ?_; refine yy87 ?_; refine yy4 ?_; refine yy90 ?_; intro hc; replace hc := hide_nat hc; refine yy39 ?_; rotate_left) | fail)
        exact ⟨m, _, _, Nat.lt_succ_self _, (Ent.sub _ (by (repeat' (first | exact RSub.nil _ | apply RSub.cons)); all_goals rfl)).trans (Ent.wcelH rfl (wc_exk (W.of rfl) (w_str0 rfl) rfl (exL_two _ _).symm)), _, _, m, hXk, by omega, by omega, hR.out, by exact auto_heap, by exact auto_heap, by exact auto_heap, fun p y hne hp => by have hp2 := hfr p y hne hp; exact auto_heap, rfl, rfl⟩
end
end Go.Proofs.Ytmgkhfnhaeplgaa
