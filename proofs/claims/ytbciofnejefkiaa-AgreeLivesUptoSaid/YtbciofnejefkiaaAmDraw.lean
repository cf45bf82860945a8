/-
  The abstract machine: regions that draw their order. Operations that leave the objects as they are may come in any order; one more may come behind them all. No program in sight.
-/
import Derived.Test.YtbciofnejefkiaaAmEnt
import Derived.Still
namespace Go.Am
set_option linter.unusedSimpArgs false
set_option linter.unusedVariables false
open Go
def opTmps (op : Op) : List Tmp := op.operands.toList.filterMap fun | .tmp t => some t | _ => none
def ronly (op : Op) (R : Regs) : Regs := (opTmps op).map fun t => (t, rget R t)
theorem ub (f : Nat -> AV) : ∀ (l : List Nat) (t : Nat), t ∈ l -> rget (l.map fun u => (u, f u)) t = f t
  | [], t, h => by cases h
  | u :: l, t, h => by
    simp only [List.map_cons, rget]; by_cases hb : Nat.beq u t = true
    · simp only [hb, if_true]; rw [Nat.eq_of_beq_eq_true hb]
    · simp only [hb, Bool.false_eq_true, if_false]
      rcases List.mem_cons.1 h with rfl | h'
      · exact absurd (Nat.beq_refl _) hb
      · exact ub f l t h'
theorem tz (f : Nat -> AV) : ∀ (l : List Nat) (t : Nat), t ∉ l -> rget (l.map fun u => (u, f u)) t = .unk
  | [], t, _ => rfl
  | u :: l, t, h => by
    simp only [List.map_cons, rget]
    have hb : Nat.beq u t = false := by
      cases hb : Nat.beq u t with
      | false => rfl
      | true => exact absurd (by rw [Nat.eq_of_beq_eq_true hb]; simp) h
    simp only [hb, Bool.false_eq_true, if_false]; exact tz f l t fun h' => h (by simp [h'])
def pushR (o : Oper) (x : AV) (R : Regs) : Regs := match o.dst with | some d => (d, x) :: R | none => R
section
variable (P : Program) (n : Nat) (ops : Array Oper) (H : AHeap)
def StepQ (o : Oper) (R : Regs) (x : AV) : Prop :=
  match o.guard with
  | none => Stp P n o.op o.type (ronly o.op R) H x
  | some (j, want) => ∃ dj, (ops[j]?).bind (·.dst) = some dj /\ ((rget R dj = .raw (.bool want) /\ Stp P n o.op o.type (ronly o.op R) H x) \/ ((rget R dj = .raw (.bool (!want)) \/ rget R dj = .raw undef) /\ x = .raw undef))
def Lex : List Oper -> Regs -> List AV -> Prop
  | [], _, xs => xs = []
  | o :: l, R, xs => ∃ x xs', xs = x :: xs' /\ StepQ P n ops H o R x /\ Lex l (pushR o x R) xs'
def lexR : List Oper -> List AV -> Regs -> Regs
  | o :: l, x :: xs, R => lexR l xs (pushR o x R)
  | _, _, R => R
end
def AWQ (P : Program) (n : Nat) (ops : Array Oper) (l : List Oper) (K : Regs -> Prop) (R : Regs) (H : AHeap) : Prop := ∃ xs R1, Lex P n ops H l R xs /\ (∀ t, rget R1 t = rget (lexR l xs R) t) /\ K R1
section
variable {P : Program} {n : Nat} {ops : Array Oper} {l rest : List Oper} {K : Regs -> Prop} {R : Regs} {H : AHeap} {d : Tmp} {ty : TypeId} {pos : String} {af : Array Edge}
theorem ahp {op : Op} {R' : Regs} (h : ∀ t, rget R' t = rget R t) : ronly op R' = ronly op R := by
  unfold ronly; apply List.map_congr_left; intro t _; rw [h t]
theorem aka {o : Oper} {x : AV} {R' : Regs} (h : ∀ t, rget R' t = rget R t) : ∀ t, rget (pushR o x R') t = rget (pushR o x R) t := fun t => by
  unfold pushR; split
  · simp only [rget]; split
    · rfl
    · exact h t
  · exact h t
theorem ah0 : ∀ {l : List Oper} {R R' : Regs} {xs : List AV}, (∀ t, rget R' t = rget R t) -> Lex P n ops H l R' xs -> Lex P n ops H l R xs /\ ∀ t, rget (lexR l xs R') t = rget (lexR l xs R) t
  | [], R, R', xs, h, hl => by simp only [Lex] at hl; subst hl; exact ⟨rfl, h⟩
  | o :: l, R, R', xs, h, hl => by
    obtain ⟨x, xs', rfl, h1, h2⟩ := hl; obtain ⟨k1, k2⟩ := ah0 (aka h) h2; refine ⟨⟨x, xs', rfl, ?_, k1⟩, k2⟩; unfold StepQ at h1 ⊢; split
    · rename_i hg; rw [hg] at h1; rw [<- ahp h]; exact h1
    · rename_i j want hg
      rw [hg] at h1; obtain ⟨dj, e1, e2⟩ := h1; exact ⟨dj, e1, by rw [<- ahp h, <- h dj]; exact e2⟩
theorem amg {R' : Regs} (h : ∀ t, rget R' t = rget R t) (hk : AWQ P n ops l K R' H) : AWQ P n ops l K R H :=
  let ⟨xs, R1, h1, h2, h3⟩ := hk
  let ⟨k1, k2⟩ := ah0 h h1
  ⟨xs, R1, k1, fun t => (h2 t).trans (k2 t), h3⟩
theorem yk {i : Nat} {x : AV} (h : rget R i = x) (t : Nat) : rget ((i, x) :: R) t = rget R t := by
  simp only [rget]; split
  · rename_i hb; rw [<- Nat.eq_of_beq_eq_true hb, h]
  · rfl
theorem ahj (h : K R) : AWQ P n ops [] K R H := ⟨[], R, rfl, fun _ => rfl, h⟩
theorem aoy {op : Op} {x : AV} (hs : Stp P n op ty (ronly op R) H x) (hk : AWQ P n ops rest K ((d, x) :: R) H) : AWQ P n ops (⟨some d, op, ty, pos, af, none⟩ :: rest) K R H :=
  let ⟨xs, R1, h1, h2⟩ := hk
  ⟨x :: xs, R1, ⟨x, xs, rfl, hs, h1⟩, h2⟩
theorem akw {op : Op} {j dj : Nat} {want b : Bool} (hj : (ops[j]?).bind (·.dst) = some dj) (hb : rget R dj = .raw (.bool b))
    (hyes : b = want -> ∃ x, Stp P n op ty (ronly op R) H x /\ AWQ P n ops rest K ((d, x) :: R) H) (hno : b = !want -> AWQ P n ops rest K ((d, .raw undef) :: R) H) :
    AWQ P n ops (⟨some d, op, ty, pos, af, some (j, want)⟩ :: rest) K R H := by
  by_cases hw : b = want
  · obtain ⟨x, hs, xs, R1, h1, h2⟩ := hyes hw
    exact ⟨x :: xs, R1, ⟨x, xs, rfl, ⟨dj, hj, .inl ⟨by rw [hb, hw], hs⟩⟩, h1⟩, h2⟩
  · have hw' : b = !want := by cases b <;> cases want <;> simp_all
    obtain ⟨xs, R1, h1, h2⟩ := hno hw'; exact ⟨.raw undef :: xs, R1, ⟨_, xs, rfl, ⟨dj, hj, .inr ⟨.inl (by rw [hb, hw']), rfl⟩⟩, h1⟩, h2⟩
theorem arb {op : Op} {j dj : Nat} {b : Bool} (hj : (ops[j]?).bind (·.dst) = some dj) (hb : rget R dj = .raw (.bool (!b))) (hk : AWQ P n ops rest K ((d, .raw undef) :: R) H) :
    AWQ P n ops (⟨some d, op, ty, pos, af, some (j, b)⟩ :: rest) K R H := akw hj hb (fun h => by cases b <;> cases h) (fun _ => hk)
theorem aqt {op : Op} {j dj : Nat} {b : Bool} (hj : (ops[j]?).bind (·.dst) = some dj) (hb : rget R dj = .raw undef) (hk : AWQ P n ops rest K ((d, .raw undef) :: R) H) :
    AWQ P n ops (⟨some d, op, ty, pos, af, some (j, b)⟩ :: rest) K R H := by
  obtain ⟨xs, R1, h1, h2⟩ := hk; exact ⟨.raw undef :: xs, R1, ⟨_, xs, rfl, ⟨dj, hj, .inr ⟨.inr hb, rfl⟩⟩, h1⟩, h2⟩
end
structure Inv (n : Nat) (ops : Array Oper) (xs : List AV) (R : Regs) (H : AHeap) (listed : Array Bool) (g : Gh) (a : Act) (w : World) : Prop where
  defers : a.defers = []
  size : a.tmps.size = n
  sim : Sim g H w
  wrote : ∀ (t j : Nat) (o : Oper) (x : AV), ops[j]? = some o -> o.dst = some t -> listed.getD j false = true -> xs[j]? = some x -> Rep g x (a.tmps.getD t undef)
  kept : ∀ t : Nat, (∀ (j : Nat) (o : Oper), ops[j]? = some o -> o.dst = some t -> listed.getD j false = false) -> Rep g (rget R t) (a.tmps.getD t undef)
theorem nj {ops : Array Oper} (h : (ops.toList.filterMap (·.dst)).Nodup) {i j : Nat} {o p : Oper} {t : Tmp} (hi : ops[i]? = some o) (hj : ops[j]? = some p) (ho : o.dst = some t) (hp : p.dst = some t) : i = j := by
  have key : ∀ (l : List Oper) (i j : Nat), (l.filterMap (·.dst)).Nodup -> l[i]? = some o -> l[j]? = some p -> i = j := by
    intro l
    induction l with
    | nil => intro i j _ h; simp at h
    | cons q l ih =>
      intro i j hn hi hj
      cases hq : q.dst with
      | none =>
        rw [List.filterMap_cons_none hq] at hn
        cases i with
        | zero => simp at hi; subst hi; rw [ho] at hq; cases hq
        | succ i =>
          cases j with
          | zero => simp at hj; subst hj; rw [hp] at hq; cases hq
          | succ j => rw [ih i j hn (by simpa using hi) (by simpa using hj)]
      | some u =>
        rw [List.filterMap_cons_some hq, List.nodup_cons] at hn
        cases i with
        | zero =>
          cases j with
          | zero => rfl
          | succ j =>
            simp at hi; subst hi
            rw [ho] at hq; cases hq; exact absurd (List.mem_filterMap.2 ⟨p, List.mem_of_getElem? (by simpa using hj), hp⟩) hn.1
        | succ i =>
          cases j with
          | zero =>
            simp at hj; subst hj
            rw [hp] at hq; cases hq; exact absurd (List.mem_filterMap.2 ⟨o, List.mem_of_getElem? (by simpa using hi), ho⟩) hn.1
          | succ j => rw [ih i j hn.2 (by simpa using hi) (by simpa using hj)]
  exact key ops.toList i j h (by simpa using hi) (by simpa using hj)
section
variable {P : Program} {n : Nat} {ops : Array Oper} {R : Regs} {H : AHeap}
theorem aa5 : ∀ {l : List Oper} {R : Regs} {xs : List AV}, Lex P n ops H l R xs -> xs.length = l.length
  | [], _, xs, h => by simp only [Lex] at h; subst h; rfl
  | o :: l, R, xs, h => by
    obtain ⟨x, xs', rfl, _, h2⟩ := h; simp [aa5 h2]
theorem aim : ∀ {l : List Oper} {R : Regs} {xs : List AV}, Lex P n ops H l R xs -> ∀ (i : Nat) (o : Oper), l[i]? = some o -> ∃ x, xs[i]? = some x /\ StepQ P n ops H o (lexR (l.take i) (xs.take i) R) x
  | [], _, _, _, i, o, h => by simp at h
  | p :: l, R, xs, h, i, o, hi => by
    obtain ⟨x, xs', rfl, h1, h2⟩ := h
    cases i with
    | zero => simp at hi; subst hi; exact ⟨x, rfl, h1⟩
    | succ i =>
      obtain ⟨y, e1, e2⟩ := aim h2 i o (by simpa using hi)
      exact ⟨y, by simpa using e1, by simpa [lexR] using e2⟩
theorem ly : ∀ (l : List Oper) (xs : List AV) (R : Regs) (t : Tmp), (∀ (j : Nat) (o : Oper), l[j]? = some o -> o.dst ≠ some t) -> rget (lexR l xs R) t = rget R t
  | [], _, R, t, _ => by simp [lexR]
  | o :: l, [], R, t, _ => by simp [lexR]
  | o :: l, x :: xs, R, t, h => by
    rw [lexR, ly l xs _ t fun j p hj => h (j + 1) p (by simpa using hj)]
    have h0 := h 0 o rfl; unfold pushR; split
    · rename_i d hd
      have hne : d ≠ t := fun e => h0 (by rw [hd, e])
      have hb : Nat.beq d t = false := by
        cases hb : Nat.beq d t with
        | false => rfl
        | true => exact absurd (Nat.eq_of_beq_eq_true hb) hne
      simp only [rget, hb, Bool.false_eq_true, if_false]
    · rfl
theorem vy : ∀ (l : List Oper) (xs : List AV) (R : Regs) (t : Tmp) (j : Nat) (o : Oper) (x : AV), l[j]? = some o -> o.dst = some t -> xs[j]? = some x -> (∀ (k : Nat) (p : Oper), l[k]? = some p -> p.dst = some t -> k = j) -> rget (lexR l xs R) t = x
  | [], _, _, _, j, _, _, h, _, _, _ => by simp at h
  | o :: l, [], _, _, j, _, _, _, _, h, _ => by simp at h
  | o :: l, y :: xs, R, t, j, p, x, hj, hp, hx, hu => by
    cases j with
    | zero =>
      simp at hj hx; subst hj; subst hx
      rw [lexR, ly l xs _ t fun k q hk hq => by have := hu (k + 1) q (by simpa using hk) hq; omega]
      unfold pushR; rw [hp]; simp only [rget, Nat.beq_refl, if_true]
    | succ j =>
      rw [lexR]; exact vy l xs _ t j p x (by simpa using hj) hp (by simpa using hx) fun k q hk hq => by have := hu (k + 1) q (by simpa using hk) hq; omega
theorem looks {xs : List AV} (hn : (ops.toList.filterMap (·.dst)).Nodup) (hlex : xs.length = ops.size)
    {listed : Array Bool} {g : Gh} {a : Act} {w : World} (hi : Inv n ops xs R H listed g a w) {i : Nat} {o : Oper} (ho : ops[i]? = some o)
    (hready : i ∈ Region.ready .any ops listed) (hclosed : ∀ (j : Nat) (p : Oper), ops[j]? = some p -> listed.getD j false = true -> ∀ e ∈ p.after, Region.binds .any e = true -> listed.getD e.on false = true)
    (hsz : listed.size = ops.size)
    (hwait : ∀ (j : Nat) (p : Oper) (t : Tmp), ops[j]? = some p -> p.dst = some t -> t ∈ o.looksAt ops -> (j < i -> ∃ e ∈ o.after, Region.binds .any e = true /\ e.on = j) /\ (i < j -> ∃ e ∈ p.after, Region.binds .any e = true /\ e.on = i) /\ j ≠ i) {t : Tmp} (ht : t ∈ o.looksAt ops) :
    Rep g (rget (lexR (ops.toList.take i) (xs.take i) R) t) (a.tmps.getD t undef) := by
  obtain ⟨hun, o', ho', hall⟩ := mem_ready.1 hready; rw [ho] at ho'; cases ho'; by_cases hex : ∃ (j : Nat) (p : Oper), ops[j]? = some p /\ p.dst = some t
  · obtain ⟨j, p, hj, hp⟩ := hex
    obtain ⟨h1, h2, h3⟩ := hwait j p t hj hp ht; rcases Nat.lt_or_gt_of_ne h3 with hlt | hgt
    · obtain ⟨e, he, hb, rfl⟩ := h1 hlt
      have hl := hall e he hb; have hjlt : e.on < ops.size := (Array.getElem?_eq_some_iff.1 hj).1; have hxl : e.on < xs.length := by omega
      have hx := List.getElem?_eq_getElem hxl
      rw [vy (ops.toList.take i) (xs.take i) R t e.on p xs[e.on] (by rw [List.getElem?_take, if_pos hlt]; simpa using hj) hp (by rw [List.getElem?_take, if_pos hlt]; exact hx)
        fun k q hk hq => by
          rw [List.getElem?_take] at hk; split at hk
          · exact nj hn (by simpa using hk) hj hq hp
          · cases hk]
      exact hi.wrote t e.on p _ hj hp hl hx
    · have hnot : listed.getD j false = false := by
        cases hl : listed.getD j false with
        | false => rfl
        | true =>
          obtain ⟨e, he, hb, rfl⟩ := h2 hgt; have := hclosed j p hj hl e he hb; have hlt : e.on < listed.size := by rw [hsz]; exact (Array.getElem?_eq_some_iff.1 ho).1
          simp [hlt] at this hun
          rw [hun] at this; cases this
      rw [ly _ _ _ _ fun k q hk hq => by
        rw [List.getElem?_take] at hk; split at hk
        · have := nj hn (by simpa using hk) hj hq hp
          omega
        · cases hk]
      refine hi.kept t fun k q hk hq => ?_
      have := nj hn hk hj hq hp; subst this; exact hnot
  · rw [ly _ _ _ _ fun k q hk hq => by
      rw [List.getElem?_take] at hk; split at hk
      · exact hex ⟨k, q, by simpa using hk, hq⟩
      · cases hk]
    exact hi.kept t fun k q hk hq => absurd ⟨k, q, hk, hq⟩ hex
def waits (ops : Array Oper) (i : Nat) (o : Oper) (j : Nat) (p : Oper) : Bool :=
  match p.dst with
  | none => true
  | some t => !(o.looksAt ops).contains t || ((!decide (j < i) || o.after.any fun e => Region.binds .any e && e.on == j) && (!decide (i < j) || p.after.any fun e => Region.binds .any e && e.on == i) && !(j == i))
def drawOk (n m : Nat) (ops : Array Oper) : Bool :=
  (ops.toList.filterMap (·.dst)).Nodup && (ops.toList.filterMap (·.dst)).all (Nat.blt · n) &&
  (ops.toList.zipIdx.all fun (o, i) => (o.after.all fun e => !Region.binds .any e || decide (e.on < i)) && ops.toList.zipIdx.all fun (p, j) => waits ops i o j p) &&
  (decide (m = ops.size) || (decide (m + 1 = ops.size) && (List.range m).all fun j => ops.toList.zipIdx.any fun (o, k) => decide (j < k) && o.after.any fun e => Region.binds .any e && e.on == j))
structure DrawOk (n m : Nat) (ops : Array Oper) : Prop where
  nodup : (ops.toList.filterMap (·.dst)).Nodup
  small : ∀ (i : Nat) (o : Oper) (t : Tmp), ops[i]? = some o -> o.dst = some t -> t < n
  back : ∀ (i : Nat) (o : Oper), ops[i]? = some o -> ∀ e ∈ o.after, Region.binds .any e = true -> e.on < i
  wait : ∀ (i : Nat) (o : Oper), ops[i]? = some o -> ∀ (j : Nat) (p : Oper) (t : Tmp), ops[j]? = some p -> p.dst = some t -> t ∈ o.looksAt ops -> (j < i -> ∃ e ∈ o.after, Region.binds .any e = true /\ e.on = j) /\ (i < j -> ∃ e ∈ p.after, Region.binds .any e = true /\ e.on = i) /\ j ≠ i
  tail : m = ops.size \/ (m + 1 = ops.size /\ ∀ j, j < m -> ∃ (k : Nat) (o : Oper), ops[k]? = some o /\ j < k /\ ∃ e ∈ o.after, Region.binds .any e = true /\ e.on = j)
theorem ald {n m : Nat} {ops : Array Oper} (h : drawOk n m ops = true) : DrawOk n m ops := by
  simp only [drawOk, Bool.and_eq_true, decide_eq_true_eq, List.all_eq_true, Bool.or_eq_true] at h; obtain ⟨⟨⟨h1, h2⟩, h3⟩, h4⟩ := h
  have hz : ∀ (i : Nat) (o : Oper), ops[i]? = some o -> (o, i) ∈ ops.toList.zipIdx := fun i o hi => by
    rw [List.mem_zipIdx_iff_getElem?]; simpa using hi
  refine ⟨h1, fun i o t hi ho => ?_, fun i o hi e he hb => ?_, fun i o hi j p t hj hp ht => ?_, ?_⟩
  · have := h2 t (List.mem_filterMap.2 ⟨o, by simpa using Array.mem_of_getElem? hi, ho⟩)
    exact Nat.le_of_ble_eq_true this
  · have := (h3 (o, i) (hz i o hi)).1
    simp only [Array.all_eq_true_iff_forall_mem] at this; have := this e he; simp [hb] at this
    exact this
  · have := (h3 (o, i) (hz i o hi)).2 (p, j) (hz j p hj)
    simp only [waits, hp] at this; simp [ht] at this
    obtain ⟨⟨k1, k2⟩, k3⟩ := this; refine ⟨fun hlt => ?_, fun hlt => ?_, k3⟩
    · rcases k1 with k1 | ⟨k, hk, hb, hon⟩
      · omega
      · exact ⟨o.after[k], Array.getElem_mem hk, hb, hon⟩
    · rcases k2 with k2 | ⟨k, hk, hb, hon⟩
      · omega
      · exact ⟨p.after[k], Array.getElem_mem hk, hb, hon⟩
  · rcases h4 with h4 | h4
    · exact .inl h4
    · simp only [Bool.and_eq_true, decide_eq_true_eq, List.all_eq_true, List.any_eq_true, Array.any_eq_true] at h4
      refine .inr ⟨h4.1, fun j hj => ?_⟩
      obtain ⟨⟨o, k⟩, hk, hjk, q, hq, hb⟩ := h4.2 j (List.mem_range.2 hj); refine ⟨k, o, by rw [List.mem_zipIdx_iff_getElem?] at hk; simpa using hk, hjk, o.after[q], Array.getElem_mem hq, hb.1, by simpa using hb.2⟩
theorem akc {n m : Nat} {ops : Array Oper} {listed : Array Bool} (hok : DrawOk n m ops) (hm : m + 1 = ops.size) (hclosed : ∀ (j : Nat) (p : Oper), ops[j]? = some p -> listed.getD j false = true -> ∀ e ∈ p.after, Region.binds .any e = true -> listed.getD e.on false = true)
    (h : ∀ o, ops[m]? = some o -> ∀ e ∈ o.after, Region.binds .any e = true -> listed.getD e.on false = true) : ∀ d j, j + d + 1 = m -> listed.getD j false = true := by
  intro d
  induction d using Nat.strongRecOn with
  | _ d ih =>
    intro j hj; rcases hok.tail with ht | ⟨_, ht⟩
    · omega
    obtain ⟨k, o, hk, hjk, e, he, hb, rfl⟩ := ht j (by omega)
    have hkl := (Array.getElem?_eq_some_iff.1 hk).1; by_cases hkm : k = m
    · subst hkm; exact h o hk e he hb
    · exact hclosed k o hk (ih (m - k - 1) (by omega) k (by omega)) e he hb
theorem jf {listed : Array Bool} {i j : Nat} (hi : i < listed.size) : (listed.setIfInBounds i true).getD j false = if i = j then true else listed.getD j false := by
  by_cases h : i = j
  · subst h; simp [hi]
  · simp [h, Array.getElem?_setIfInBounds_ne h]
structure Way (n : Nat) (ops : Array Oper) (xs : List AV) (R : Regs) (H : AHeap) (listed : Array Bool) (g : Gh) (a : Act) (w : World) : Prop where
  inv : Inv n ops xs R H listed g a w
  size : listed.size = ops.size
  closed : ∀ (j : Nat) (p : Oper), ops[j]? = some p -> listed.getD j false = true -> ∀ e ∈ p.after, Region.binds .any e = true -> listed.getD e.on false = true
theorem af0 {n m : Nat} {ops : Array Oper} {xs : List AV} {R : Regs} {H : AHeap} {listed : Array Bool} {g g' : Gh} {a : Act} {w w' : World} (hok : DrawOk n m ops) (hw : Way n ops xs R H listed g a w) {i : Nat} {o : Oper} (hi : ops[i]? = some o)
    (hready : i ∈ Region.ready .any ops listed) {x : AV} (hx : xs[i]? = some x) {v : Value} (hl : g.le g') (hr : Rep g' x v) (hs : Sim g' H w') : Way n ops xs R H (listed.setIfInBounds i true) g' (a.put o.dst v) w' := by
  have hil : i < listed.size := by rw [hw.size]; exact (Array.getElem?_eq_some_iff.1 hi).1
  obtain ⟨hun, o', ho', hall⟩ := mem_ready.1 hready; rw [hi] at ho'; cases ho'
  have hget : ∀ (t : Nat), o.dst ≠ some t -> (a.put o.dst v).tmps.getD t undef = a.tmps.getD t undef := fun t ht => by
    cases hd : o.dst with
    | none => rfl
    | some d =>
      have hne : d ≠ t := fun e => ht (by rw [hd, e])
      simp [Act.put, Array.getD_eq_getD_getElem?, Array.getElem?_setIfInBounds_ne hne]
  have hself : ∀ (t : Nat), o.dst = some t -> (a.put o.dst v).tmps.getD t undef = v := fun t ht => by
    have hlt : t < a.tmps.size := by rw [hw.inv.size]; exact hok.small i o t hi ht
    rw [ht]; simp [Act.put, Array.getD_eq_getD_getElem?, hlt]
  refine ⟨⟨?_, ?_, hs, ?_, ?_⟩, by simpa using hw.size, ?_⟩
  · cases hd : o.dst <;> simpa [Act.put, hd] using hw.inv.defers
  · cases hd : o.dst <;> simpa [Act.put, hd] using hw.inv.size
  · intro t j p y hj hp hlj hy
    rw [jf hil] at hlj; by_cases hji : i = j
    · subst hji
      rw [hi] at hj; cases hj; rw [hx] at hy; cases hy; rw [hself t hp]; exact hr
    · rw [if_neg hji] at hlj
      have hne : o.dst ≠ some t := fun ht => hji (nj hok.nodup hi hj ht hp)
      rw [hget t hne]; exact Rep.mono hl _ _ (hw.inv.wrote t j p y hj hp hlj hy)
  · intro t ht
    have hne : o.dst ≠ some t := fun hd => by
      have := ht i o hi hd; rw [jf hil, if_pos rfl] at this
      cases this
    rw [hget t hne]; refine Rep.mono hl _ _ (hw.inv.kept t fun j p hj hp => ?_)
    have := ht j p hj hp; rw [jf hil] at this; split at this
    · cases this
    · exact this
  · intro j p hj hlj e he hb
    rw [jf hil] at hlj ⊢; split
    · rfl
    · split at hlj
      · rename_i hji
        subst hji; rw [hi] at hj; cases hj; exact hall e he hb
      · exact hw.closed j p hj hlj e he hb
theorem ab7 {o : Oper} {ops : Array Oper} {t : Tmp} (h : t ∈ opTmps o.op) : t ∈ o.looksAt ops := List.mem_append_left _ h
theorem aky {n m : Nat} {ops : Array Oper} {xs xs' : List AV} {R : Regs} {H : AHeap} {listed : Array Bool} {g : Gh} {a : Act} {w : World} (hok : DrawOk n m ops) (hlex : Lex P n ops H (ops.toList.take m) R xs') (hxs : ∀ i, i < m -> xs[i]? = xs'[i]?) (hxl : xs.length = ops.size)
    (hw : Way n ops xs R H listed g a w) {i : Nat} (him : i < m) (hready : i ∈ Region.ready .any ops listed) {Q : Exit -> Act -> World -> Prop} {K : Act -> World -> Prop}
    (hk : ∀ g' a' w', g.le g' -> Way n ops xs R H (listed.setIfInBounds i true) g' a' w' -> K a' w') : wpOp P ops Q i K a w := by
  obtain ⟨hun, o, ho, hall⟩ := mem_ready.1 hready; have hms : m <= ops.size := by rcases hok.tail with h | h <;> omega
  have hol : (ops.toList.take m)[i]? = some o := by rw [List.getElem?_take, if_pos him]; simpa using ho
  obtain ⟨x, hx', hstep⟩ := aim hlex i o hol; have hx : xs[i]? = some x := by rw [hxs i him]; exact hx'
  have hreg : lexR ((ops.toList.take m).take i) (xs'.take i) R = lexR (ops.toList.take i) (xs.take i) R := by
    congr 1
    · rw [List.take_take, Nat.min_eq_left (by omega)]
    · apply List.ext_getElem?
      intro k; rw [List.getElem?_take, List.getElem?_take]; split
      · rw [hxs k (by omega)]
      · rfl
  rw [hreg] at hstep; have hlook := fun t ht => looks (t := t) hok.nodup hxl hw.inv ho hready hw.closed hw.size (hok.wait i o ho) ht
  have hpre : Pre n (ronly o.op (lexR (ops.toList.take i) (xs.take i) R)) H g a w := ⟨hw.inv.defers, hw.inv.size, fun t => by
    unfold ronly; by_cases ht : t ∈ opTmps o.op
    · rw [ub _ _ _ ht]; exact hlook t (ab7 ht)
    · rw [tz _ _ _ ht]; simp only [Rep], hw.inv.sim⟩
  unfold Go.wpOp; simp only [ho]
  have run : Stp P n o.op o.type (ronly o.op (lexR (ops.toList.take i) (xs.take i) R)) H x -> o.wp P a w K Q := fun hs =>
    hs o rfl rfl g a w hpre K Q fun v w' g' hl hr hsim => hk g' _ w' hl (af0 hok hw ho hready hx hl hr hsim)
  unfold StepQ at hstep; split at hstep
  · rename_i hg
    rw [if_pos (by simp [Region.wanted, hg])]
    exact .inl (run hstep)
  · rename_i j want hg
    obtain ⟨dj, hdj, hcase⟩ := hstep; have hl := hlook dj (by unfold Oper.looksAt; rw [hg]; exact List.mem_append_right _ (by simp [hdj]))
    rcases hcase with ⟨h1, h2⟩ | ⟨h1, rfl⟩
    · rw [h1] at hl
      simp only [Rep] at hl
      have hy : yielded ops a.tmps j = some want := by
        unfold yielded; rw [hdj]; simp only [Option.bind_some]; rw [Array.getD_eq_getD_getElem?] at hl
        cases ht : a.tmps[dj]? with
        | none => rw [ht] at hl; simp [undef] at hl
        | some u => rw [ht] at hl; simp at hl; subst hl; rfl
      rw [if_pos (by simp [Region.wanted, hg, hy])]
      exact .inl (run h2)
    · have hy : yielded ops a.tmps j ≠ some want := by
        unfold yielded; rw [hdj]; simp only [Option.bind_some]; rcases h1 with h1 | h1 <;> (rw [h1] at hl; simp only [Rep] at hl; rw [Array.getD_eq_getD_getElem?] at hl)
        · cases ht : a.tmps[dj]? with
          | none => simp
          | some u => rw [ht] at hl; simp at hl; subst hl; simp
        · cases ht : a.tmps[dj]? with
          | none => simp
          | some u => rw [ht] at hl; simp at hl; subst hl; simp [undef]
      rw [if_neg (by simp [Region.wanted, hg, hy])]
      exact hk g _ w (.refl g) (af0 hok hw ho hready hx (.refl g) (by simp only [Rep]) hw.inv.sim)
theorem aaz {n m : Nat} {ops : Array Oper} {xs xs' : List AV} {R : Regs} {H : AHeap} {listed : Array Bool} {g : Gh} {a : Act} {w : World} (hok : DrawOk n m ops) (hlex : Lex P n ops H (ops.toList.take m) R xs') (hxs : ∀ i, i < m -> xs[i]? = xs'[i]?)
    (hw : Way n ops xs R H listed g a w) (hall : ∀ i, i < m -> listed.getD i false = true) (hnone : ∀ i, m <= i -> listed.getD i false = false) : Pre n (lexR (ops.toList.take m) xs' R) H g a w := by
  have hms : m <= ops.size := by rcases hok.tail with h | h <;> omega
  have hlen : xs'.length = m := by rw [aa5 hlex]; simp; omega
  refine ⟨hw.inv.defers, hw.inv.size, fun t => ?_, hw.inv.sim⟩
  by_cases hex : ∃ (j : Nat) (p : Oper), j < m /\ ops[j]? = some p /\ p.dst = some t
  · obtain ⟨j, p, hjm, hj, hp⟩ := hex
    have hx := List.getElem?_eq_getElem (show j < xs'.length by omega)
    rw [vy _ _ _ t j p xs'[j] (by rw [List.getElem?_take, if_pos hjm]; simpa using hj) hp hx fun k q hk hq => by
      rw [List.getElem?_take] at hk; split at hk
      · exact nj hok.nodup (by simpa using hk) hj hq hp
      · cases hk]
    exact hw.inv.wrote t j p _ hj hp (hall j hjm) ((hxs j hjm).trans hx)
  · rw [ly _ _ _ _ fun k q hk hq => by
      rw [List.getElem?_take] at hk; split at hk
      · rename_i hkm; exact hex ⟨k, q, hkm, by simpa using hk, hq⟩
      · cases hk]
    refine hw.inv.kept t fun j p hj hp => ?_
    exact hnone j (by
      rcases Nat.lt_or_ge j m with h | h
      · exact absurd ⟨j, p, h, hj, hp⟩ hex
      · exact h)
theorem akb {n m : Nat} {ops : Array Oper} (hok : DrawOk n m ops) {listed : Array Bool} (hsz : listed.size = ops.size) (h : Region.ready .any ops listed = []) : ∀ i, i < ops.size -> listed.getD i false = true := by
  intro i
  induction i using Nat.strongRecOn with
  | _ i ih =>
    intro hi
    cases hl : listed.getD i false with
    | true => rfl
    | false =>
      have hil : i < listed.size := by omega
      have : i ∈ Region.ready .any ops listed := mem_ready.2 ⟨by simp [hil] at hl ⊢; exact hl, ops[i], by simp [hi], fun e he hb => ih e.on (hok.back i ops[i] (by simp [hi]) e he hb) (by
        have := hok.back i ops[i] (by simp [hi]) e he hb; omega)⟩
      rw [h] at this; cases this
theorem afb : ∀ (L : List Bool) (i : Nat) (h : i < L.length), L[i] = false -> ((L.set i true).filter (!·)).length + 1 = (L.filter (!·)).length
  | [], i, h, _ => by simp at h
  | b :: L, 0, _, hf => by simp at hf; subst hf; simp
  | b :: L, i + 1, h, hf => by
    have := afb L i (by simpa using h) (by simpa using hf)
    cases b <;> simp_all
theorem adc (listed : Array Bool) (i : Nat) (hi : i < listed.size) (hf : listed.getD i false = false) : ((listed.setIfInBounds i true).toList.filter (!·)).length + 1 = (listed.toList.filter (!·)).length := by
  rw [Array.toList_setIfInBounds]; exact afb listed.toList i (by simpa using hi) (by simpa [hi] using hf)
def AnyK (P : Program) (n : Nat) (ops : Array Oper) (K : Exit -> Regs -> AHeap -> Prop) (R : Regs) (H : AHeap) : Prop :=
  ∀ g a w, Pre n R H g a w -> wpAny P .any ops (Post n g K) ops.size (Array.replicate ops.size false) a w
theorem AnyK.aw {id : Nat} {Kx : Exit -> Regs -> AHeap -> Prop} (hm : P.follows .mixedOrders = true) (h : AnyK P n ops Kx R H) : AW P n (.region id ops true) Kx R H :=
  fun g a w hp => wp_region_any hm (h g a _ ⟨hp.defers, hp.size, hp.regs, hp.sim.same ⟨rfl, rfl, rfl⟩ rfl⟩)
theorem aii {m : Nat} {Kx : Exit -> Regs -> AHeap -> Prop} (hok : drawOk n m ops = true) (h : AWQ P n ops (ops.toList.take m) (fun R' => AWL P n ops (ops.toList.drop m) Kx R' H) R H) :
    AnyK P n ops Kx R H := by
  intro g a w hp; have hok := ald hok; obtain ⟨xs', R1, hlex, hR1, hK⟩ := h; have hms : m <= ops.size := by rcases hok.tail with h | h <;> omega
  have hlen : xs'.length = m := by rw [aa5 hlex]; simp; omega
  have hpost : ∀ g' a' w', g.le g' -> Pre n (lexR (ops.toList.take m) xs' R) H g' a' w' -> wpList P ops (Post n g Kx) (ops.toList.drop m) a' w' := fun g' a' w' hl hp' =>
    qn (fun _ _ _ hq => hq.le hl) _ _ _ (hK g' a' w' ⟨hp'.defers, hp'.size, fun t => by rw [hR1]; exact hp'.regs t, hp'.sim⟩)
  generalize hxsd : xs' ++ List.replicate (ops.size - m) AV.unk = xs; have hxs : ∀ i, i < m -> xs[i]? = xs'[i]? := fun i hi => by rw [<- hxsd, List.getElem?_append_left (by omega)]
  have hxl : xs.length = ops.size := by rw [<- hxsd]; simp; omega
  have key : ∀ (fuel : Nat) (listed : Array Bool) (g' : Gh) (a' : Act) (w' : World), g.le g' -> Way n ops xs R H listed g' a' w' -> (∀ i, m <= i -> listed.getD i false = false) -> (∃ k, k <= fuel /\ (listed.toList.filter (!·)).length = k) -> wpAny P .any ops (Post n g Kx) fuel listed a' w' := by
    have hcount := @adc; intro fuel
    induction fuel with
    | zero =>
      intro listed g' a' w' hl hw hno hcnt; obtain ⟨k, hk0, hk⟩ := hcnt
      have hall : ∀ i, i < ops.size -> listed.getD i false = true := fun i hi => by
        cases hli : listed.getD i false with
        | true => rfl
        | false =>
          have := hcount listed i (by rw [hw.size]; exact hi) hli
          omega
      have hready : Region.ready .any ops listed = [] := by
        rw [List.eq_nil_iff_forall_not_mem]; intro i hi; obtain ⟨hu, o, ho, _⟩ := mem_ready.1 hi; have hlt := (Array.getElem?_eq_some_iff.1 ho).1; have := hall i hlt; have hil : i < listed.size := by rw [hw.size]; exact hlt
        simp [hil] at hu this
        rw [hu] at this; cases this
      rcases hok.tail with ht | ⟨ht, _⟩
      · refine ⟨hready, ?_⟩
        have := hpost g' a' w' hl (aaz hok hlex hxs hw (fun i hi => hall i (by omega)) hno)
        rw [List.drop_of_length_le (by simp; omega)] at this
        exact this
      · have h1 := hall m (by omega)
        have h2 := hno m (Nat.le_refl _); rw [h1] at h2; cases h2
    | succ fuel ih =>
      intro listed g' a' w' hl hw hno hcnt; obtain ⟨k, hk0, hk⟩ := hcnt; refine ⟨fun hready => ?_, fun i hi => ?_⟩
      · have hall := akb hok hw.size hready
        rcases hok.tail with ht | ⟨ht, _⟩
        · have := hpost g' a' w' hl (aaz hok hlex hxs hw (fun i hi => hall i (by omega)) hno)
          rw [List.drop_of_length_le (by simp; omega)] at this
          exact this
        · have h1 := hall m (by omega)
          have h2 := hno m (Nat.le_refl _); rw [h1] at h2; cases h2
      · obtain ⟨hun, o, ho, hafter⟩ := mem_ready.1 hi
        have hlt := (Array.getElem?_eq_some_iff.1 ho).1; have hil : i < listed.size := by rw [hw.size]; exact hlt
        have hunf : listed.getD i false = false := by simp [hil] at hun ⊢; exact hun
        by_cases him : i < m
        · refine aky hok hlex hxs hxl hw him hi fun g2 a2 w2 hl2 hw2 => ih _ g2 a2 w2 (hl.trans hl2) hw2 (fun j hj => by rw [jf hil, if_neg (by omega)]; exact hno j hj) ⟨_, ?_, rfl⟩
          have := hcount listed i hil hunf; omega
        · rcases hok.tail with ht | ⟨ht, hreach⟩
          · omega
          · have him' : i = m := by omega
            subst him'; have hall : ∀ j, j < i -> listed.getD j false = true := fun j hj => akc hok ht hw.closed (fun p hp e he hb => by rw [ho] at hp; cases hp; exact hafter e he hb) (i - j - 1) j (by omega)
            have hlist := hpost g' a' w' hl (aaz hok hlex hxs hw hall hno)
            have hd : ops.toList.drop i = [o] := by
              rw [List.drop_eq_getElem_cons (by simp; omega)]
              have : ops.toList[i]'(by simp; omega) = o := by have := (Array.getElem?_eq_some_iff.1 ho).2; simpa using this
              rw [this, List.drop_of_length_le (by simp; omega)]
            rw [hd] at hlist
            have hdone : ∀ a2 w2, Post n g Kx .normal a2 w2 -> wpAny P .any ops (Post n g Kx) fuel (listed.setIfInBounds i true) a2 w2 := fun a2 w2 hq => by
              refine wpAny_done ?_ hq fuel; rw [List.eq_nil_iff_forall_not_mem]; intro j hj; obtain ⟨hu, p, hp, _⟩ := mem_ready.1 hj; have hjl := (Array.getElem?_eq_some_iff.1 hp).1
              have : (listed.setIfInBounds i true).getD j false = true := by
                rw [jf hil]; split
                · rfl
                · exact hall j (by omega)
              have hjs : j < (listed.setIfInBounds i true).size := by simp; omega
              simp only [Array.getD_eq_getD_getElem?, Array.getElem?_eq_getElem hjs, Option.getD_some] at hu this; rw [hu] at this; cases this
            unfold wpList at hlist; unfold Go.wpOp; simp only [ho]; split
            · rename_i hwant
              rw [if_pos hwant] at hlist; rcases hlist with h | h
              · exact .inl (ah6 (fun a2 w2 hq => hdone a2 w2 (by simpa [wpList] using hq)) (fun _ _ _ hq => hq) h)
              · exact .inr h
            · rename_i hwant
              rw [if_neg hwant] at hlist; exact hdone _ _ (by simpa [wpList] using hlist)
  refine key ops.size _ g a _ (.refl g) ⟨⟨hp.defers, hp.size, hp.sim, fun t j o x _ _ hl => ?_, fun t _ => hp.regs t⟩, by simp, fun j p _ hl => ?_⟩ (fun i _ => ?_) ⟨_, ?_, rfl⟩
  · simp [Array.getD_eq_getD_getElem?, Array.getElem?_replicate] at hl
    split at hl <;> simp at hl
  · simp [Array.getD_eq_getD_getElem?, Array.getElem?_replicate] at hl
    split at hl <;> simp at hl
  · simp [Array.getD_eq_getD_getElem?, Array.getElem?_replicate]
    split <;> simp
  · refine Nat.le_trans (List.length_filter_le _ _) ?_
    simp
theorem akp {id m : Nat} {Kx : Exit -> Regs -> AHeap -> Prop} (hm : P.follows .mixedOrders = true) (hok : drawOk n m ops = true) (h : AWQ P n ops (ops.toList.take m) (fun R' => AWL P n ops (ops.toList.drop m) Kx R' H) R H) :
    AW P n (.region id ops true) Kx R H := (aii hok h).aw hm
def AWT (tl : Bool) (P : Program) (n : Nat) (ops : Array Oper) (l : List Oper) (Kx : Exit -> Regs -> AHeap -> Prop) (R : Regs) (H : AHeap) : Prop :=
  ∃ l1 l2, l = l1 ++ l2 /\ (l2 = [] \/ (tl = true /\ l2.length = 1)) /\ AWQ P n ops l1 (fun R' => AWL P n ops l2 Kx R' H) R H
section
variable {tl : Bool} {l rest : List Oper} {Kx : Exit -> Regs -> AHeap -> Prop} {d : Tmp} {ty : TypeId} {pos : String} {af : Array Edge} {od : Option Tmp}
theorem uj (h : Kx .normal R H) : AWT tl P n ops [] Kx R H := ⟨[], [], rfl, .inl rfl, ahj (jb h)⟩
theorem lg {o : Oper} (h : AWL P n ops [o] Kx R H) : AWT true P n ops [o] Kx R H := ⟨[], [o], rfl, .inr ⟨rfl, rfl⟩, ahj h⟩
theorem ay {op : Op} {x : AV} (hs : Stp P n op ty (ronly op R) H x) (hk : AWT tl P n ops rest Kx ((d, x) :: R) H) : AWT tl P n ops (⟨some d, op, ty, pos, af, none⟩ :: rest) Kx R H :=
  let ⟨l1, l2, e, h2, h3⟩ := hk
  ⟨_ :: l1, l2, by rw [e]; rfl, h2, aoy hs h3⟩
theorem aag {op : Op} {j dj : Nat} {b : Bool} (hj : (ops[j]?).bind (·.dst) = some dj) (hb : rget R dj = .raw (.bool b)) (hdn : Nat.blt d n = true) (hk : AWT tl P n ops (⟨some d, op, ty, pos, af, none⟩ :: rest) Kx R H) :
    AWT tl P n ops (⟨some d, op, ty, pos, af, some (j, b)⟩ :: rest) Kx R H := by
  obtain ⟨l1, l2, e, h2, xs, R1, k1, k2, k3⟩ := hk
  cases l1 with
  | nil =>
    simp only [List.nil_append] at e; subst e; rcases h2 with h2 | ⟨h2, h3⟩
    · cases h2
    · simp only [Lex] at k1
      subst k1; refine ⟨[], _, rfl, .inr ⟨h2, by simpa using h3⟩, [], R1, rfl, k2, ?_⟩
      have hb1 : rget R1 dj = .raw (.bool b) := by rw [k2]; simpa [lexR] using hb
      exact yt hj hb1 hdn k3
  | cons o l1 =>
    simp only [List.cons_append, List.cons.injEq] at e; obtain ⟨rfl, rfl⟩ := e; obtain ⟨x, xs', rfl, hs, hl⟩ := k1; exact ⟨⟨some d, op, ty, pos, af, some (j, b)⟩ :: l1, l2, rfl, h2, x :: xs', R1, ⟨x, xs', rfl, ⟨dj, hj, .inl ⟨hb, hs⟩⟩, hl⟩, k2, k3⟩
theorem aat {op : Op} {j dj : Nat} {b : Bool} (hj : (ops[j]?).bind (·.dst) = some dj) (hb : rget R dj = .raw (.bool (!b))) (hk : AWT tl P n ops rest Kx ((d, .raw undef) :: R) H) :
    AWT tl P n ops (⟨some d, op, ty, pos, af, some (j, b)⟩ :: rest) Kx R H :=
  let ⟨l1, l2, e, h2, h3⟩ := hk
  ⟨_ :: l1, l2, by rw [e]; rfl, h2, arb hj hb h3⟩
theorem apq {op : Op} {j dj : Nat} {b : Bool} (hj : (ops[j]?).bind (·.dst) = some dj) (hb : rget R dj = .raw undef) (hk : AWT tl P n ops rest Kx ((d, .raw undef) :: R) H) :
    AWT tl P n ops (⟨some d, op, ty, pos, af, some (j, b)⟩ :: rest) Kx R H :=
  let ⟨l1, l2, e, h2, h3⟩ := hk
  ⟨_ :: l1, l2, by rw [e]; rfl, h2, aqt hj hb h3⟩
theorem xf {R' : Regs} (h : ∀ t, rget R' t = rget R t) (hk : AWT tl P n ops l Kx R' H) : AWT tl P n ops l Kx R H :=
  let ⟨l1, l2, e, h2, h3⟩ := hk
  ⟨l1, l2, e, h2, amg h h3⟩
theorem aox {op : Op} {j dj : Nat} {p : Prop} [inst : Decidable p] (hj : (ops[j]?).bind (·.dst) = some dj) (hb : rget R dj = .raw (.bool (@decide p inst))) (hdn : Nat.blt d n = true)
    (ht : p -> AWT tl P n ops (⟨some d, op, ty, pos, af, none⟩ :: rest) Kx ((dj, .raw (.bool true)) :: R) H) (hf : ¬ p -> AWT tl P n ops rest Kx ((d, .raw undef) :: (dj, .raw (.bool false)) :: R) H) :
    AWT tl P n ops (⟨some d, op, ty, pos, af, some (j, true)⟩ :: rest) Kx R H := by
  by_cases h : p
  · exact xf (yk (by rw [hb, decide_eq_true h])) (aag hj (by simp [rget]) hdn (ht h))
  · exact xf (yk (by rw [hb, decide_eq_false h])) (aat hj (by simp [rget]) (hf h))
theorem apx {op : Op} {j dj : Nat} {p : Prop} [inst : Decidable p] (hj : (ops[j]?).bind (·.dst) = some dj) (hb : rget R dj = .raw (.bool (@decide p inst))) (hdn : Nat.blt d n = true)
    (hf : ¬ p -> AWT tl P n ops (⟨some d, op, ty, pos, af, none⟩ :: rest) Kx ((dj, .raw (.bool false)) :: R) H) (ht : p -> AWT tl P n ops rest Kx ((d, .raw undef) :: (dj, .raw (.bool true)) :: R) H) :
    AWT tl P n ops (⟨some d, op, ty, pos, af, some (j, false)⟩ :: rest) Kx R H := by
  by_cases h : p
  · exact xf (yk (by rw [hb, decide_eq_true h])) (aat hj (by simp [rget]) (ht h))
  · exact xf (yk (by rw [hb, decide_eq_false h])) (aag hj (by simp [rget]) hdn (hf h))
theorem bw {f : FuncId} [hF : FuncT P f] {args : Array Operand} {ats : Array TypeId} {ys : List AV} {x : AV} (hw : WL (args.toList.map (am R)) ys)
    (hc : ACalls P f ys H fun r H' => r = x /\ H' = H) : Stp P n (.call { callee := .value (.func f), args := args, argTypes := ats }) ty R H x := aq6 rfl (hc.weak hw)
theorem aed {id : Nat} (hm : P.follows .mixedOrders = true) (hok : drawOk n ops.size ops = true) (hok1 : drawOk n (ops.size - 1) ops = true) (h : AWT true P n ops ops.toList Kx R H) : AW P n (.region id ops true) Kx R H := by
  obtain ⟨l1, l2, he, hl, hq⟩ := h; have hsz : ops.size = l1.length + l2.length := by rw [<- Array.length_toList, he, List.length_append]
  have ht : ops.toList.take l1.length = l1 := by rw [he]; simp
  have hd : ops.toList.drop l1.length = l2 := by rw [he]; simp
  refine akp (m := l1.length) hm ?_ (by rw [ht, hd]; exact hq)
  rcases hl with rfl | ⟨_, hl⟩
  · rw [show l1.length = ops.size by simp at hsz; omega]; exact hok
  · rw [show l1.length = ops.size - 1 by omega]; exact hok1
theorem aks (hok : drawOk n ops.size ops = true) (h : AWT false P n ops ops.toList Kx R H) : AnyK P n ops Kx R H := by
  obtain ⟨l1, l2, he, hl, hq⟩ := h; have hsz : ops.size = l1.length + l2.length := by rw [<- Array.length_toList, he, List.length_append]
  have ht : ops.toList.take l1.length = l1 := by rw [he]; simp
  have hd : ops.toList.drop l1.length = l2 := by rw [he]; simp
  refine aii (m := l1.length) ?_ (by rw [ht, hd]; exact hq)
  rcases hl with rfl | ⟨h, _⟩
  · rw [show l1.length = ops.size by simp at hsz; omega]; exact hok
  · cases h
theorem ak1 {id : Nat} (hm : P.follows .mixedOrders = true) (hok : drawOk n ops.size ops = true) (h : AWT false P n ops ops.toList Kx R H) : AW P n (.region id ops true) Kx R H := (aks hok h).aw hm
end
end
end Go.Am
