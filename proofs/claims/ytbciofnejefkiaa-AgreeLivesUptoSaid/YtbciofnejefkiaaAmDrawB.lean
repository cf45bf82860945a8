/-
  The abstract machine: regions that draw their order, with several operations on objects. Those stand in a chain (each waits for the one ahead); the others may come in any order. No program in sight.
-/
import Derived.Test.YtbciofnejefkiaaAmExt
namespace Go.Am
set_option linter.unusedSimpArgs false
set_option linter.unusedVariables false
open Go
def objOp (c : Bool) : Op -> Bool
  | .call { callee := .builtin .append, .. } => true
  | .call { callee := .value _, .. } => c
  | .box _ _ => true
  | .alloc _ => true
  | .makeSlice _ _ _ => true
  | .store _ _ _ => true
  | _ => false
def bmaskF (c : Bool) (ops : Array Oper) : List Oper -> List Tmp -> List Bool
  | [], _ => []
  | o :: l, bd => if objOp c o.op || (o.looksAt ops).any (fun t => bd.any (Nat.beq t)) then true :: bmaskF c ops l (o.dst.toList ++ bd) else false :: bmaskF c ops l bd
def bmask (c : Bool) (ops : Array Oper) : List Bool := bmaskF c ops ops.toList []
def needB (c : Bool) (ops : Array Oper) : Bool := ops.toList.dropLast.any fun o => objOp c o.op
theorem aac (c : Bool) (ops : Array Oper) : ∀ l bd, (bmaskF c ops l bd).length = l.length
  | [], _ => rfl
  | o :: l, bd => by rw [bmaskF]; split <;> simp [aac c ops l]
def preds (ops : Array Oper) (i : Nat) : List Nat := match ops[i]? with | some o => (o.after.toList.filter (Region.binds .any)).map (·.on) | none => []
def reachK (ops : Array Oper) : Nat -> Nat -> List Nat
  | 0, i => preds ops i
  | d + 1, i => preds ops i ++ (preds ops i).flatMap (reachK ops d)
def reachAll (ops : Array Oper) : Nat -> List Nat -> List Nat
  | 0, S => S
  | i + 1, S => reachAll ops i (if S.any (Nat.beq i) then preds ops i ++ S else S)
def firstB : List Bool -> Nat -> Option Nat
  | [], _ => none
  | b :: m, k => if b = true then some k else firstB m (k + 1)
def earlyB (ops : Array Oper) (bm : List Bool) (i : Nat) : Bool := match firstB bm 0 with | none => true | some f => (reachAll ops f (preds ops f)).any (Nat.beq i)
def lonly (ops : Array Oper) (o : Oper) (R : Regs) : Regs := (o.looksAt ops).map fun t => (t, rget R t)
def selL : List Bool -> List Oper -> List Oper
  | b :: m, o :: l => if b = true then o :: selL m l else selL m l
  | _, _ => []
section
variable (P : Program) (n : Nat) (ops : Array Oper) (Kx : Exit -> Regs -> AHeap -> Prop)
def AWB : List Oper -> Regs -> AHeap -> Prop
  | [], R, H => Kx .normal R H
  | o :: l, R, H => ∀ (Rx : Regs) (K1 : Exit -> Regs -> AHeap -> Prop), (∀ x H', AWB l (pushR o x R) H' -> K1 .normal (pushR o x (lonly ops o R ++ Rx)) H') -> AWL P n ops [o] K1 (lonly ops o R ++ Rx) H
def AWM (H : AHeap) (bm : List Bool) : Nat -> List Oper -> List Bool -> List Oper -> Regs -> Prop
  | k, acc, b :: m, o :: l, R => if b = true then AWM H bm (k + 1) (acc ++ [o]) m l (pushR o .unk R) else ∃ x, (∀ H', (earlyB ops bm k = true -> H' = H) -> StepQ P n ops H' o R x) /\ AWM H bm (k + 1) acc m l (pushR o x R)
  | _, acc, _, _, R => AWB P n ops Kx acc R H
end
section
variable {P : Program} {n : Nat} {ops : Array Oper} {Kx : Exit -> Regs -> AHeap -> Prop} {H : AHeap}
theorem rt {bm : List Bool} : ∀ {m : List Bool} {l acc : List Oper} {R : Regs} {k : Nat}, AWM P n ops Kx H bm k acc m l R -> m.length = l.length ->
    ∃ xs : List AV, xs.length = l.length /\ (∀ (i : Nat) (o : Oper), l[i]? = some o -> m[i]? = some false -> ∃ x, xs[i]? = some x /\ ∀ H', (earlyB ops bm (k + i) = true -> H' = H) -> StepQ P n ops H' o (lexR (l.take i) (xs.take i) R) x) /\ AWB P n ops Kx (acc ++ selL m l) (lexR l xs R) H
  | [], [], acc, R, k, h, _ => ⟨[], rfl, fun i o hi => by simp at hi, by simpa [selL, lexR, AWM] using h⟩
  | b :: m, o :: l, acc, R, k, h, hl => by
    rw [AWM] at h; simp only [List.length_cons, Nat.add_right_cancel_iff] at hl
    cases b with
    | true =>
      rw [if_pos rfl] at h; obtain ⟨xs, h1, h2, h3⟩ := rt h hl; refine ⟨.unk :: xs, by simp [h1], fun i p hi hm => ?_, ?_⟩
      · cases i with
        | zero => simp at hm
        | succ i =>
          obtain ⟨x, e1, e2⟩ := h2 i p (by simpa using hi) (by simpa using hm)
          exact ⟨x, by simpa using e1, fun H' hH => by simpa [lexR] using e2 H' (by rw [show k + 1 + i = k + (i + 1) by omega]; exact hH)⟩
      · simpa [selL, lexR] using h3
    | false =>
      rw [if_neg (by simp)] at h
      obtain ⟨y, hy, h⟩ := h; obtain ⟨xs, h1, h2, h3⟩ := rt h hl; refine ⟨y :: xs, by simp [h1], fun i p hi hm => ?_, ?_⟩
      · cases i with
        | zero => simp at hi; subst hi; exact ⟨y, rfl, fun H' hH => by simpa [lexR] using hy H' hH⟩
        | succ i =>
          obtain ⟨x, e1, e2⟩ := h2 i p (by simpa using hi) (by simpa using hm)
          exact ⟨x, by simpa using e1, fun H' hH => by simpa [lexR] using e2 H' (by rw [show k + 1 + i = k + (i + 1) by omega]; exact hH)⟩
      · simpa [selL, lexR] using h3
  | [], o :: l, _, _, _, _, hl => by simp at hl
  | b :: m, [], _, _, _, _, hl => by simp at hl
def drawOkB (n : Nat) (ops : Array Oper) (bm : List Bool) : Bool :=
  (ops.toList.filterMap (·.dst)).Nodup && (ops.toList.filterMap (·.dst)).all (Nat.blt · n) && decide (bm.length = ops.size) &&
  (ops.toList.zipIdx.all fun (o, i) => (preds ops i).all (Nat.blt · i) && ops.toList.zipIdx.all fun (p, j) =>
    (match p.dst with
     | none => true
     | some t => !((o.looksAt ops).any (Nat.beq t)) || (Nat.blt j i && (preds ops i).any (Nat.beq j) && (bm.getD i false || !bm.getD j false))) &&
    (!(bm.getD i false) || !(bm.getD j false) || !(Nat.blt j i) || (List.range ops.size).any (fun k => Nat.blt j k && Nat.blt k i && bm.getD k false) || (reachK ops 2 i).any (Nat.beq j)))
structure DrawOkB (n : Nat) (ops : Array Oper) (bm : List Bool) : Prop where
  nodup : (ops.toList.filterMap (·.dst)).Nodup
  small : ∀ (i : Nat) (o : Oper) (t : Tmp), ops[i]? = some o -> o.dst = some t -> t < n
  len : bm.length = ops.size
  back : ∀ (i : Nat), ∀ j ∈ preds ops i, j < i
  wait : ∀ (i : Nat) (o : Oper), ops[i]? = some o -> ∀ (j : Nat) (p : Oper) (t : Tmp), ops[j]? = some p -> p.dst = some t -> t ∈ o.looksAt ops -> j < i /\ j ∈ preds ops i /\ (bm.getD i false = true \/ bm.getD j false = false)
  chain : ∀ i j, i < ops.size -> j < i -> bm.getD i false = true -> bm.getD j false = true -> (∃ k, j < k /\ k < i /\ bm.getD k false = true) \/ j ∈ reachK ops 2 i
theorem anyBeq {l : List Nat} {t : Nat} : l.any (Nat.beq t) = true ↔ t ∈ l := by
  rw [List.any_eq_true]; exact ⟨fun ⟨x, h, e⟩ => by rw [Nat.eq_of_beq_eq_true e]; exact h, fun h => ⟨t, h, Nat.beq_refl t⟩⟩
theorem vi {a b : Nat} : Nat.blt a b = true ↔ a < b := ⟨fun h => Nat.le_of_ble_eq_true h, fun h => Nat.ble_eq_true_of_le h⟩
theorem aej {n : Nat} {ops : Array Oper} {bm : List Bool} (h : drawOkB n ops bm = true) : DrawOkB n ops bm := by
  simp only [drawOkB, Bool.and_eq_true, decide_eq_true_eq, List.all_eq_true] at h; obtain ⟨⟨⟨h1, h2⟩, h0⟩, h3⟩ := h
  have hz : ∀ (i : Nat) (o : Oper), ops[i]? = some o -> (o, i) ∈ ops.toList.zipIdx := fun i o hi => by
    rw [List.mem_zipIdx_iff_getElem?]; simpa using hi
  refine ⟨h1, fun i o t hi ho => ?_, h0, fun i j hj => ?_, fun i o hi j p t hj hp ht => ?_, fun i j hi hji hbi hbj => ?_⟩
  · have := h2 t (List.mem_filterMap.2 ⟨o, by simpa using Array.mem_of_getElem? hi, ho⟩)
    exact vi.1 this
  · cases ho : ops[i]? with
    | none => rw [preds, ho] at hj; cases hj
    | some o => exact vi.1 ((h3 (o, i) (hz i o ho)).1 j hj)
  · have := ((h3 (o, i) (hz i o hi)).2 (p, j) (hz j p hj)).1
    simp only [hp] at this; rw [anyBeq.2 ht] at this; simp only [Bool.not_true, Bool.false_or, Bool.and_eq_true, Bool.or_eq_true, anyBeq, vi, Bool.not_eq_true'] at this; exact ⟨this.1.1, this.1.2, this.2⟩
  · have hio := Array.getElem?_eq_getElem hi
    have hjo := Array.getElem?_eq_getElem (show j < ops.size by omega)
    have := ((h3 (_, i) (hz i _ hio)).2 (_, j) (hz j _ hjo)).2; simp only [hbi, hbj, vi.2 hji, Bool.not_true, Bool.false_or, Bool.or_eq_true, anyBeq, List.any_eq_true, Bool.and_eq_true, vi] at this; rcases this with ⟨k, _, ⟨k1, k2⟩, k3⟩ | h
    · exact .inl ⟨k, k1, k2, k3⟩
    · obtain ⟨x, hx, e⟩ := h
      rw [Nat.eq_of_beq_eq_true e]; exact .inr hx
def rem (p : Nat -> Bool) : Nat -> List Oper -> List Oper
  | _, [] => []
  | k, o :: l => if p k = true then o :: rem p (k + 1) l else rem p (k + 1) l
theorem ado {p q : Nat -> Bool} : ∀ {l : List Oper} {k : Nat}, (∀ j, k <= j -> p j = q j) -> rem p k l = rem q k l
  | [], _, _ => rfl
  | o :: l, k, h => by rw [rem, rem, h k (Nat.le_refl _), ado fun j hj => h j (by omega)]
theorem ajo : ∀ {l : List Oper} {m : List Bool} {k : Nat} {p : Nat -> Bool}, m.length = l.length -> (∀ j, p (k + j) = m.getD j false) -> rem p k l = selL m l
  | [], [], _, _, _, _ => rfl
  | o :: l, b :: m, k, p, hl, hp => by
    have h0 : p k = b := by simpa using hp 0
    rw [rem, selL, h0, ajo (m := m) (by simpa using hl) fun j => by have := hp (j + 1); rw [show k + 1 + j = k + (j + 1) by omega, this]; simp]
  | [], b :: m, _, _, h, _ => by simp at h
  | o :: l, [], _, _, h, _ => by simp at h
theorem aio : ∀ {l : List Oper} {k : Nat} {p : Nat -> Bool}, (∀ j, j < l.length -> p (k + j) = false) -> rem p k l = []
  | [], _, _, _ => rfl
  | o :: l, k, p, h => by
    have h0 : p k = false := by simpa using h 0 (by simp)
    rw [rem, if_neg (by simp [h0]), aio fun j hj => by rw [show k + 1 + j = k + (j + 1) by omega]; exact h (j + 1) (by simpa using hj)]
theorem ae0 {i : Nat} {o : Oper} : ∀ {l : List Oper} {k : Nat} {p q : Nat -> Bool} {d : Nat}, i = k + d -> l[d]? = some o -> p i = true -> q i = false -> (∀ j, j < i -> p j = false /\ q j = false) -> (∀ j, i < j -> p j = q j) -> rem p k l = o :: rem q k l
  | [], _, _, _, d, _, h, _, _, _, _ => by simp at h
  | u :: l, k, p, q, d, hd, hl, hp, hq, hlo, hhi => by
    cases d with
    | zero =>
      simp at hl; subst hl
      obtain rfl : i = k := by omega
      rw [rem, rem, if_pos hp, if_neg (by simp [hq]), ado fun j hj => hhi j (by omega)]
    | succ d =>
      have := hlo k (by omega)
      rw [rem, rem, if_neg (by simp [this.1]), if_neg (by simp [this.2])]
      exact ae0 (d := d) (by omega) (by simpa using hl) hp hq hlo hhi
theorem v5 (f : Nat -> AV) : ∀ (l : List Nat) (R : Regs) (t : Nat), rget ((l.map fun u => (u, f u)) ++ R) t = if t ∈ l then f t else rget R t
  | [], R, t => by simp
  | u :: l, R, t => by
    simp only [List.map_cons, List.cons_append, rget]; by_cases hb : Nat.beq u t = true
    · obtain rfl := Nat.eq_of_beq_eq_true hb
      simp
    · have hne : t ≠ u := fun e => hb (by rw [e]; exact Nat.beq_refl _)
      simp only [hb, Bool.false_eq_true, if_false, v5 f l R t, List.mem_cons, hne, false_or]
theorem tq {o : Oper} {x : AV} {R : Regs} {t : Tmp} : rget (pushR o x R) t = if o.dst = some t then x else rget R t := by
  unfold pushR; split
  · rename_i d hd
    simp only [rget]; by_cases hb : Nat.beq d t = true
    · obtain rfl := Nat.eq_of_beq_eq_true hb
      simp [hd]
    · have hne : d ≠ t := fun e => hb (by rw [e]; exact Nat.beq_refl _)
      simp only [hb, Bool.false_eq_true, if_false, hd, Option.some.injEq, hne]
  · rename_i hd
    simp [hd]
def DstL (ops : Array Oper) (listed : Array Bool) (t : Tmp) : Prop := ∃ (j : Nat) (o : Oper), ops[j]? = some o /\ o.dst = some t /\ listed.getD j false = true
def left (bm : List Bool) (listed : Array Bool) (j : Nat) : Bool := bm.getD j false && !listed.getD j false
structure WayB (P : Program) (n : Nat) (ops : Array Oper) (bm : List Bool) (Kx : Exit -> Regs -> AHeap -> Prop) (H0 : AHeap) (R RA : Regs) (listed : Array Bool) (Rb : Regs) (Hk : AHeap) (g : Gh) (a : Act) (w : World) : Prop where
  size : listed.size = ops.size
  closed : ∀ j, listed.getD j false = true -> ∀ i ∈ preds ops j, listed.getD i false = true
  chain : AWB P n ops Kx (rem (left bm listed) 0 ops.toList) Rb Hk
  rb : ∀ t, (∀ (j : Nat) (o : Oper), ops[j]? = some o -> bm.getD j false = true -> o.dst ≠ some t) -> rget Rb t = rget RA t
  defers : a.defers = []
  tmps : a.tmps.size = n
  sim : Sim g Hk w
  wrote : ∀ t, DstL ops listed t -> Rep g (rget Rb t) (a.tmps.getD t undef)
  kept : ∀ t, ¬ DstL ops listed t -> Rep g (rget R t) (a.tmps.getD t undef)
  fresh : (∀ j, bm.getD j false = true -> listed.getD j false = false) -> Hk = H0
theorem wj {listed : Array Bool} (hcl : ∀ j, listed.getD j false = true -> ∀ i ∈ preds ops j, listed.getD i false = true) : ∀ (d : Nat) (S : List Nat), (∀ j ∈ S, listed.getD j false = true) -> ∀ j ∈ reachAll ops d S, listed.getD j false = true
  | 0, S, h, j, hj => h j hj
  | d + 1, S, h, j, hj => by
    rw [reachAll] at hj; refine wj hcl d _ (fun k hk => ?_) j hj
    split at hk
    · rename_i hd
      rcases List.mem_append.1 hk with hk | hk
      · exact hcl d (h d (anyBeq.1 hd)) k hk
      · exact h k hk
    · exact h k hk
theorem aev {listed : Array Bool} (hcl : ∀ j, listed.getD j false = true -> ∀ i ∈ preds ops j, listed.getD i false = true) : ∀ (d i : Nat), (∀ j ∈ preds ops i, listed.getD j false = true) -> ∀ j ∈ reachK ops d i, listed.getD j false = true
  | 0, i, h, j, hj => h j hj
  | d + 1, i, h, j, hj => by
    rw [reachK, List.mem_append] at hj; rcases hj with hj | hj
    · exact h j hj
    · obtain ⟨k, hk, hj⟩ := List.mem_flatMap.1 hj
      exact aev hcl d k (hcl k (h k hk)) j hj
theorem wn {bm : List Bool} {listed : Array Bool} (hok : DrawOkB n ops bm) (hcl : ∀ j, listed.getD j false = true -> ∀ i ∈ preds ops j, listed.getD i false = true) :
    ∀ (d i j : Nat), i = j + d + 1 -> i < ops.size -> (∀ k ∈ preds ops i, listed.getD k false = true) -> bm.getD i false = true -> bm.getD j false = true -> listed.getD j false = true := by
  intro d
  induction d using Nat.strongRecOn with
  | _ d ih =>
    intro i j hd hi hpi hbi hbj; rcases hok.chain i j hi (by omega) hbi hbj with ⟨k, k1, k2, k3⟩ | h
    · have hk := ih (i - k - 1) (by omega) i k (by omega) hi hpi hbi k3
      exact ih (k - j - 1) (by omega) k j (by omega) (by omega) (hcl k hk) k3 hbj
    · exact aev hcl 2 i hpi j h
theorem w9 {listed : Array Bool} {i : Nat} (h : i ∈ Region.ready .any ops listed) : listed.getD i true = false /\ (∃ o, ops[i]? = some o) /\ ∀ j ∈ preds ops i, listed.getD j false = true := by
  obtain ⟨hun, o, ho, hall⟩ := mem_ready.1 h; refine ⟨hun, ⟨o, ho⟩, fun j hj => ?_⟩
  rw [preds, ho] at hj; obtain ⟨e, he, rfl⟩ := List.mem_map.1 hj; rw [List.mem_filter] at he; exact hall e (by simpa using he.1) he.2
theorem agb {xs : List AV} {R : Regs} {t : Tmp} (hn : (ops.toList.filterMap (·.dst)).Nodup) {i j : Nat} {p : Oper} (hji : j < i) (hj : ops[j]? = some p) (hp : p.dst = some t) {x : AV} (hx : xs[j]? = some x) :
    rget (lexR (ops.toList.take i) (xs.take i) R) t = x :=
  vy (ops.toList.take i) (xs.take i) R t j p x (by rw [List.getElem?_take, if_pos hji]; simpa using hj) hp (by rw [List.getElem?_take, if_pos hji]; exact hx)
    fun k q hk hq => by
      rw [List.getElem?_take] at hk; split at hk
      · exact nj hn (by simpa using hk) hj hq hp
      · cases hk
theorem yd {xs : List AV} {R : Regs} {t : Tmp} (hn : (ops.toList.filterMap (·.dst)).Nodup) {j : Nat} {p : Oper} (hj : ops[j]? = some p) (hp : p.dst = some t) {x : AV} (hx : xs[j]? = some x) : rget (lexR ops.toList xs R) t = x :=
  vy ops.toList xs R t j p x (by simpa using hj) hp hx fun k q hk hq => nj hn (by simpa using hk) hj hq hp
theorem qk {listed : Array Bool} {i : Nat} {o : Oper} {t : Tmp} (hil : i < listed.size) (hi : ops[i]? = some o) : DstL ops (listed.setIfInBounds i true) t ↔ o.dst = some t \/ DstL ops listed t := by
  constructor
  · rintro ⟨j, p, hj, hp, hl⟩
    rw [jf hil] at hl; split at hl
    · rename_i hij
      subst hij; rw [hi] at hj; cases hj; exact .inl hp
    · exact .inr ⟨j, p, hj, hp, hl⟩
  · rintro (h | ⟨j, p, hj, hp, hl⟩)
    · exact ⟨i, o, hi, h, by rw [jf hil, if_pos rfl]⟩
    · refine ⟨j, p, hj, hp, ?_⟩
      rw [jf hil]; split
      · rfl
      · exact hl
theorem zm {listed : Array Bool} {i : Nat} (hil : i < listed.size) (hcl : ∀ j, listed.getD j false = true -> ∀ k ∈ preds ops j, listed.getD k false = true) (hp : ∀ k ∈ preds ops i, listed.getD k false = true) :
    ∀ j, (listed.setIfInBounds i true).getD j false = true -> ∀ k ∈ preds ops j, (listed.setIfInBounds i true).getD k false = true := by
  intro j hj k hk; rw [jf hil] at hj ⊢; split
  · rfl
  · split at hj
    · rename_i hij; subst hij; exact hp k hk
    · exact hcl j hj k hk
variable {bm : List Bool} {H0 : AHeap} {R RA : Regs} {xs : List AV} {listed : Array Bool} {Rb : Regs} {Hk : AHeap} {g : Gh} {a : Act} {w : World}
theorem looksB (hok : DrawOkB n ops bm) (hRA : RA = lexR ops.toList xs R) (hw : WayB P n ops bm Kx H0 R RA listed Rb Hk g a w) {i : Nat} {o : Oper} (hi : ops[i]? = some o) (hp : ∀ j ∈ preds ops i, listed.getD j false = true) {t : Tmp} (ht : t ∈ o.looksAt ops) :
    Rep g (rget Rb t) (a.tmps.getD t undef) := by
  by_cases hex : ∃ (j : Nat) (p : Oper), ops[j]? = some p /\ p.dst = some t
  · obtain ⟨j, p, hj, hpd⟩ := hex
    obtain ⟨h1, h2, h3⟩ := hok.wait i o hi j p t hj hpd ht; exact hw.wrote t ⟨j, p, hj, hpd, hp j h2⟩
  · have e : rget Rb t = rget R t := by
      rw [hw.rb t fun j p hj _ hd => hex ⟨j, p, hj, hd⟩, hRA]
      exact ly _ _ _ _ fun j p hj hd => hex ⟨j, p, by simpa using hj, hd⟩
    rw [e]; exact hw.kept t fun ⟨j, p, hj, hd, _⟩ => hex ⟨j, p, hj, hd⟩
theorem looksA (hok : DrawOkB n ops bm) (hRA : RA = lexR ops.toList xs R) (hxl : xs.length = ops.size) (hw : WayB P n ops bm Kx H0 R RA listed Rb Hk g a w) {i : Nat} {o : Oper} (hi : ops[i]? = some o) (hbi : bm.getD i false = false) {t : Tmp} (ht : t ∈ o.looksAt ops) :
    rget (lexR (ops.toList.take i) (xs.take i) R) t = rget Rb t := by
  by_cases hex : ∃ (j : Nat) (p : Oper), ops[j]? = some p /\ p.dst = some t
  · obtain ⟨j, p, hj, hpd⟩ := hex
    obtain ⟨h1, h2, h3⟩ := hok.wait i o hi j p t hj hpd ht
    have hbj : bm.getD j false = false := by rcases h3 with h3 | h3; · rw [hbi] at h3; cases h3
                                             · exact h3
    have hjl := (Array.getElem?_eq_some_iff.1 hj).1; have hx := List.getElem?_eq_getElem (show j < xs.length by omega)
    rw [agb hok.nodup h1 hj hpd hx, hw.rb t fun k q hk hbk hd => by
      have := nj hok.nodup hk hj hd hpd; subst this; rw [hbj] at hbk; cases hbk]
    rw [hRA, yd hok.nodup hj hpd hx]
  · have e1 := ly ops.toList xs R t fun j p hj hd => hex ⟨j, p, by simpa using hj, hd⟩
    have e2 := ly (ops.toList.take i) (xs.take i) R t fun j p hj hd => by
      rw [List.getElem?_take] at hj; split at hj
      · exact hex ⟨j, p, by simpa using hj, hd⟩
      · cases hj
    rw [hw.rb t fun j p hj _ hd => hex ⟨j, p, hj, hd⟩, hRA, e1, e2]
theorem putB (hok : DrawOkB n ops bm) (hRA : RA = lexR ops.toList xs R) (hxl : xs.length = ops.size) (hw : WayB P n ops bm Kx H0 R RA listed Rb Hk g a w) {i : Nat} {o : Oper} (hi : ops[i]? = some o) (hp : ∀ j ∈ preds ops i, listed.getD j false = true) (hbi : bm.getD i false = false)
    {x : AV} (hx : xs[i]? = some x) {v : Value} {g' : Gh} {w' : World} (hl : g.le g') (hr : Rep g' x v) (hs : Sim g' Hk w') : WayB P n ops bm Kx H0 R RA (listed.setIfInBounds i true) Rb Hk g' (a.put o.dst v) w' := by
  have hil : i < listed.size := by rw [hw.size]; exact (Array.getElem?_eq_some_iff.1 hi).1
  have hget : ∀ (t : Nat), o.dst ≠ some t -> (a.put o.dst v).tmps.getD t undef = a.tmps.getD t undef := fun t ht => by
    cases hd : o.dst with
    | none => rfl
    | some d =>
      have hne : d ≠ t := fun e => ht (by rw [hd, e])
      simp [Act.put, Array.getD_eq_getD_getElem?, Array.getElem?_setIfInBounds_ne hne]
  have hself : ∀ (t : Nat), o.dst = some t -> (a.put o.dst v).tmps.getD t undef = v := fun t ht => by
    have hlt : t < a.tmps.size := by rw [hw.tmps]; exact hok.small i o t hi ht
    rw [ht]; simp [Act.put, Array.getD_eq_getD_getElem?, hlt]
  refine ⟨by simpa using hw.size, zm hil hw.closed hp, ?_, hw.rb, ?_, ?_, hs, fun t ht => ?_, fun t ht => ?_, fun hno => hw.fresh fun j hj => ?_⟩
  · rw [ado (q := left bm listed) fun j _ => ?_]
    · exact hw.chain
    · unfold left
      rw [jf hil]; split
      · rename_i hij; subst hij; rw [hbi]; rfl
      · rfl
  · cases hd : o.dst <;> simpa [Act.put, hd] using hw.defers
  · cases hd : o.dst <;> simpa [Act.put, hd] using hw.tmps
  · rw [qk hil hi] at ht
    by_cases hd : o.dst = some t
    · rw [hself t hd, hw.rb t fun k q hk hbk hkd => by
        have := nj hok.nodup hk hi hkd hd; subst this; rw [hbi] at hbk; cases hbk]
      rw [hRA, yd hok.nodup hi hd hx]; exact hr
    · rw [hget t hd]
      exact Rep.mono hl _ _ (hw.wrote t (ht.resolve_left hd))
  · rw [qk hil hi, not_or] at ht
    rw [hget t ht.1]; exact Rep.mono hl _ _ (hw.kept t ht.2)
  · have := hno j hj
    rw [jf hil] at this; split at this
    · cases this
    · exact this
theorem ab4 : ∀ {m : List Bool} {k : Nat}, match firstB m k with | none => ∀ j, m.getD j false = false | some f => k <= f /\ m.getD (f - k) false = true /\ ∀ j, j < f - k -> m.getD j false = false
  | [], k => by simp [firstB]
  | b :: m, k => by
    rw [firstB]; by_cases hb : b = true
    · rw [if_pos hb]; subst hb; exact ⟨Nat.le_refl _, by simp, fun j hj => by omega⟩
    · rw [if_neg hb]
      have ih := ab4 (m := m) (k := k + 1); have hb' : b = false := by simpa using hb
      subst hb'
      cases hf : firstB m (k + 1) with
      | none =>
        rw [hf] at ih; intro j
        cases j with
        | zero => rfl
        | succ j => exact ih j
      | some f =>
        rw [hf] at ih; obtain ⟨h1, h2, h3⟩ := ih; refine ⟨by omega, ?_, fun j hj => ?_⟩
        · rw [show f - k = (f - (k + 1)) + 1 by omega]; exact h2
        · cases j with
          | zero => rfl
          | succ j => exact h3 j (by omega)
theorem ai5 {m : List Bool} (h : firstB m 0 = none) (j : Nat) : m.getD j false = false := by
  have := ab4 (m := m) (k := 0); rw [h] at this; exact this j
theorem ag4 {m : List Bool} {f : Nat} (h : firstB m 0 = some f) : m.getD f false = true /\ ∀ j, j < f -> m.getD j false = false := by
  have := ab4 (m := m) (k := 0); rw [h] at this; exact ⟨this.2.1, this.2.2⟩
theorem stepA (hok : DrawOkB n ops bm) (hRA : RA = lexR ops.toList xs R) (hxl : xs.length = ops.size) (hw : WayB P n ops bm Kx H0 R RA listed Rb Hk g a w) {i : Nat} (hready : i ∈ Region.ready .any ops listed) (hbi : bm.getD i false = false)
    (hlex : ∀ o, ops[i]? = some o -> ∃ x, xs[i]? = some x /\ ∀ H', (earlyB ops bm i = true -> H' = H0) -> StepQ P n ops H' o (lexR (ops.toList.take i) (xs.take i) R) x) {Q : Exit -> Act -> World -> Prop} {K : Act -> World -> Prop}
    (hk : ∀ g' a' w', g.le g' -> WayB P n ops bm Kx H0 R RA (listed.setIfInBounds i true) Rb Hk g' a' w' -> K a' w') : wpOp P ops Q i K a w := by
  obtain ⟨hun, ⟨o, ho⟩, hp⟩ := w9 hready; obtain ⟨x, hx, hstep⟩ := hlex o ho
  replace hstep := hstep Hk fun he => hw.fresh fun j hj => by
    cases hlj : listed.getD j false with
    | false => rfl
    | true =>
      have hil : i < listed.size := by rw [hw.size]; exact (Array.getElem?_eq_some_iff.1 ho).1
      have hunf : listed.getD i false = false := by simp [hil] at hun ⊢; exact hun
      have hjs : j < ops.size := by
        rw [<- hok.len]; rcases Nat.lt_or_ge j bm.length with h | h
        · exact h
        · rw [List.getD_eq_getElem?_getD, List.getElem?_eq_none h] at hj; cases hj
      unfold earlyB at he
      cases hf : firstB bm 0 with
      | none => exact absurd hj (by rw [ai5 hf j]; decide)
      | some f =>
        rw [hf] at he; obtain ⟨hfb, hfm⟩ := ag4 hf
        have hfl : listed.getD f false = true := by
          rcases Nat.lt_or_ge f j with h | h
          · exact wn hok hw.closed (j - f - 1) j f (by omega) hjs (hw.closed j hlj) hj hfb
          · rcases Nat.eq_or_lt_of_le h with h | h
            · rw [<- h]; exact hlj
            · exact absurd hj (by rw [hfm j h]; decide)
        have := wj hw.closed f _ (hw.closed f hfl) i (anyBeq.1 he); rw [hunf] at this; cases this
  have hlook : ∀ t ∈ o.looksAt ops, Rep g (rget (lexR (ops.toList.take i) (xs.take i) R) t) (a.tmps.getD t undef) := fun t ht => by
    rw [looksA hok hRA hxl hw ho hbi ht]; exact looksB hok hRA hw ho hp ht
  have hpre : Pre n (ronly o.op (lexR (ops.toList.take i) (xs.take i) R)) Hk g a w := ⟨hw.defers, hw.tmps, fun t => by
    unfold ronly; by_cases ht : t ∈ opTmps o.op
    · rw [ub _ _ _ ht]; exact hlook t (ab7 ht)
    · rw [tz _ _ _ ht]; simp only [Rep], hw.sim⟩
  unfold Go.wpOp; simp only [ho]
  have run : Stp P n o.op o.type (ronly o.op (lexR (ops.toList.take i) (xs.take i) R)) Hk x -> o.wp P a w K Q := fun hs =>
    hs o rfl rfl g a w hpre K Q fun v w' g' hl hr hsim => hk g' _ w' hl (putB hok hRA hxl hw ho hp hbi hx hl hr hsim)
  unfold StepQ at hstep; split at hstep
  · rename_i hg
    rw [if_pos (by simp [Region.wanted, hg])]
    exact .inl (run hstep)
  · rename_i j want hg
    obtain ⟨dj, hdj, hcase⟩ := hstep; have hl := hlook dj (by unfold Oper.looksAt; rw [hg]; exact List.mem_append_right _ (by simp [hdj]))
    rcases hcase with ⟨h1, h2⟩ | ⟨h1, rfl⟩
    · rw [h1] at hl
      simp only [Rep] at hl
      have hy : yielded ops a.tmps j = some want := by
        unfold yielded; rw [hdj]; simp only [Option.bind_some]; rw [Array.getD_eq_getD_getElem?] at hl
        cases ht : a.tmps[dj]? with
        | none => rw [ht] at hl; simp [undef] at hl
        | some u => rw [ht] at hl; simp at hl; subst hl; rfl
      rw [if_pos (by simp [Region.wanted, hg, hy])]
      exact .inl (run h2)
    · have hy : yielded ops a.tmps j ≠ some want := by
        unfold yielded; rw [hdj]; simp only [Option.bind_some]; rcases h1 with h1 | h1 <;> (rw [h1] at hl; simp only [Rep] at hl; rw [Array.getD_eq_getD_getElem?] at hl)
        · cases ht : a.tmps[dj]? with
          | none => simp
          | some u => rw [ht] at hl; simp at hl; subst hl; simp
        · cases ht : a.tmps[dj]? with
          | none => simp
          | some u => rw [ht] at hl; simp at hl; subst hl; simp [undef]
      rw [if_neg (by simp [Region.wanted, hg, hy])]
      exact hk g _ w (.refl g) (putB hok hRA hxl hw ho hp hbi hx (.refl g) (by simp only [Rep]) hw.sim)
theorem aem {P : Program} {o : Oper} {a : Act} {w : World} {K K' : Act -> World -> Prop} {Q Q' : Exit -> Act -> World -> Prop}
    (hk : ∀ a w, K a w -> K' a w) (hq : ∀ e a w, e ≠ .normal -> Q e a w -> Q' e a w) (h : o.wp P a w K Q) : o.wp P a w K' Q' := by
  unfold Oper.wp at *; generalize (execOp a.eval o).run P w = r at *
  cases r with
  | ok n w' =>
    cases n <;> simp only [Oper.upon] at h ⊢ <;>
      first
        | exact hk _ _ h
        | exact Calls.mono h (fun e w'' he => by cases e <;> first | exact hk _ _ he | exact hq _ _ _ (by intro e; cases e) he | (obtain ⟨a, w, he⟩ := he; exact ⟨a, w, hq _ _ _ (by intro e; cases e) he⟩))
        | exact Rows.mono h (fun _ _ he => hk _ _ he)
  | halt x w' => cases x <;> simp only [Oper.upon] at h ⊢ <;> first | exact hq _ _ _ (by intro e; cases e) h | exact h
theorem stepB (hok : DrawOkB n ops bm) (hRA : RA = lexR ops.toList xs R) (hw : WayB P n ops bm Kx H0 R RA listed Rb Hk g a w) {i : Nat} (hready : i ∈ Region.ready .any ops listed) (hbi : bm.getD i false = true) {g0 : Gh} (hg0 : g0.le g) {K : Act -> World -> Prop}
    (hk : ∀ Rb' Hk' g' a' w', g.le g' -> WayB P n ops bm Kx H0 R RA (listed.setIfInBounds i true) Rb' Hk' g' a' w' -> K a' w') : wpOp P ops (Post n g0 Kx) i K a w := by
  obtain ⟨hun, ⟨o, ho⟩, hp⟩ := w9 hready; have hio := (Array.getElem?_eq_some_iff.1 ho).1; have hil : i < listed.size := by rw [hw.size]; exact hio
  have hunf : listed.getD i false = false := by simp [hil] at hun ⊢; exact hun
  have hrem : rem (left bm listed) 0 ops.toList = o :: rem (left bm (listed.setIfInBounds i true)) 0 ops.toList := by
    refine ae0 (k := 0) (d := i) (Nat.zero_add i).symm (by simpa using ho) (by unfold left; rw [hbi, hunf]; rfl) (by unfold left; rw [jf hil, if_pos rfl]; simp) (fun j hj => ?_) (fun j hj => ?_)
    · cases hbj : bm.getD j false with
      | false => unfold left; rw [hbj]; exact ⟨rfl, rfl⟩
      | true =>
        have hl := wn hok hw.closed (i - j - 1) i j (by omega) hio hp hbi hbj
        unfold left; rw [jf hil, if_neg (by omega), hl, hbj]
        exact ⟨rfl, rfl⟩
    · unfold left
      rw [jf hil, if_neg (by omega)]
  have hchain := hw.chain; rw [hrem, AWB] at hchain; have hdec : ∀ t, Decidable (DstL ops listed t) := fun t => Classical.propDecidable _
  generalize hRc : ((List.range n).map fun t => (t, if DstL ops listed t then rget Rb t else rget R t)) = Rc
  have hRc2 : ∀ t, rget (lonly ops o Rb ++ Rc) t = if t < n then (if DstL ops listed t then rget Rb t else rget R t) else rget (lonly ops o Rb ++ Rc) t := fun t => by
    split
    · rename_i htn
      rw [lonly, v5 (fun t => rget Rb t)]
      split
      · rename_i hlk
        split
        · rfl
        · rename_i hnd
          by_cases hex : ∃ (j : Nat) (p : Oper), ops[j]? = some p /\ p.dst = some t
          · obtain ⟨j, p, hj, hpd⟩ := hex
            obtain ⟨h1, h2, h3⟩ := hok.wait i o ho j p t hj hpd hlk; exact absurd ⟨j, p, hj, hpd, hp j h2⟩ hnd
          · rw [hw.rb t fun j p hj _ hd => hex ⟨j, p, hj, hd⟩, hRA]
            exact ly _ _ _ _ fun j p hj hd => hex ⟨j, p, by simpa using hj, hd⟩
      · rw [<- hRc]
        exact ub (fun t => if DstL ops listed t then rget Rb t else rget R t) _ _ (List.mem_range.2 htn)
    · rfl
  have hpre : Pre n (lonly ops o Rb ++ Rc) Hk g a w := ⟨hw.defers, hw.tmps, fun t => by
    by_cases htn : t < n
    · rw [hRc2, if_pos htn]
      split
      · rename_i hd; exact hw.wrote t hd
      · rename_i hd; exact hw.kept t hd
    · rw [lonly, v5 (fun t => rget Rb t)]
      split
      · rename_i hlk; exact looksB hok hRA hw ho hp hlk
      · rw [<- hRc, tz _ _ _ (by simp; omega)]; simp only [Rep], hw.sim⟩
  have hrun := hchain Rc (fun e R' H' => e = .normal /\ ∃ x, R' = pushR o x (lonly ops o Rb ++ Rc) /\ AWB P n ops Kx (rem (left bm (listed.setIfInBounds i true)) 0 ops.toList) (pushR o x Rb) H') (fun x H' hb => ⟨rfl, x, rfl, hb⟩) g a w hpre
  have hdone : ∀ a2 w2, Post n g (fun e R' H' => e = .normal /\ ∃ x, R' = pushR o x (lonly ops o Rb ++ Rc) /\ AWB P n ops Kx (rem (left bm (listed.setIfInBounds i true)) 0 ops.toList) (pushR o x Rb) H') .normal a2 w2 -> K a2 w2 := by
    rintro a2 w2 ⟨R', H', g', ⟨_, x, rfl, hb⟩, hl, hpost⟩; refine hk (pushR o x Rb) H' g' a2 w2 hl ⟨by simpa using hw.size, zm hil hw.closed hp, hb, fun t ht => ?_, hpost.defers, hpost.size, hpost.sim, fun t ht => ?_, fun t ht => ?_, fun hno => absurd (hno i hbi) (by rw [jf hil, if_pos rfl]; decide)⟩
    · rw [tq, if_neg (ht i o ho hbi)]
      exact hw.rb t ht
    · rw [qk hil ho] at ht
      have := hpost.regs t; rw [tq] at this ⊢; by_cases hd : o.dst = some t
      · rw [if_pos hd] at this ⊢; exact this
      · rw [if_neg hd] at this ⊢
        obtain hdl := ht.resolve_left hd; obtain ⟨j, p, hj, hpd, _⟩ := id hdl; rw [hRc2, if_pos (hok.small j p t hj hpd), if_pos hdl] at this; exact this
    · rw [qk hil ho, not_or] at ht
      have := hpost.regs t; rw [tq, if_neg ht.1] at this; by_cases htn : t < n
      · rw [hRc2, if_pos htn, if_neg ht.2] at this
        exact this
      · have h0 := hw.kept t ht.2
        have e1 : a.tmps.getD t undef = undef := by
          have hh := hw.tmps; rw [Array.getD_eq_getD_getElem?, Array.getElem?_eq_none (hh ▸ Nat.le_of_not_lt htn : a.tmps.size <= t)]; rfl
        have e2 : a2.tmps.getD t undef = undef := by
          have hh := hpost.size; rw [Array.getD_eq_getD_getElem?, Array.getElem?_eq_none (hh ▸ Nat.le_of_not_lt htn : a2.tmps.size <= t)]; rfl
        rw [e1] at h0; rw [e2]; exact Rep.mono hl _ _ h0
  unfold wpList at hrun; unfold Go.wpOp; simp only [ho]; split
  · rename_i hwant
    rw [if_pos hwant] at hrun; rcases hrun with h | h
    · refine .inl (aem (fun a2 w2 hq => hdone a2 w2 (by simpa [wpList] using hq)) (fun e a2 w2 hne hq => ?_) h)
      obtain ⟨_, _, _, ⟨he, _⟩, _⟩ := hq; exact absurd he hne
    · obtain ⟨_, _, _, _, _, _, ⟨he, _⟩, _⟩ := h
      cases he
  · rename_i hwant
    rw [if_neg hwant] at hrun; exact hdone _ _ (by simpa [wpList] using hrun)
theorem aiv (hok : DrawOkB n ops bm) (hsz : listed.size = ops.size) (h : Region.ready .any ops listed = []) : ∀ i, i < ops.size -> listed.getD i false = true := by
  intro i
  induction i using Nat.strongRecOn with
  | _ i ih =>
    intro hi
    cases hl : listed.getD i false with
    | true => rfl
    | false =>
      have hil : i < listed.size := by omega
      have hmem : i ∈ Region.ready .any ops listed := by
        refine mem_ready.2 ⟨by simp [hil] at hl ⊢; exact hl, ops[i], Array.getElem?_eq_getElem hi, fun e he hb => ?_⟩
        have hj : e.on ∈ preds ops i := by
          rw [preds, Array.getElem?_eq_getElem hi]; exact List.mem_map.2 ⟨e, List.mem_filter.2 ⟨by simpa using he, hb⟩, rfl⟩
        have hlt := hok.back i e.on hj; exact ih e.on hlt (by omega)
      rw [h] at hmem; cases hmem
def AnyW (P : Program) (n : Nat) (ops : Array Oper) (K : Exit -> Regs -> AHeap -> Prop) (R : Regs) (H : AHeap) : Prop :=
  ∀ g a w, Pre n R H g a w -> wpAny P .any ops (Post n g K) ops.size (Array.replicate ops.size false) a { w with drawn := w.drawn + 1 }
theorem amm {bm : List Bool} (hbm : bm.length = ops.toList.length) (hok : drawOkB n ops bm = true) (h : AWM P n ops Kx H bm 0 [] bm ops.toList R) : AnyW P n ops Kx R H := by
  intro g a w hp; have hok := aej hok; obtain ⟨xs, hxl, hlex, hch⟩ := rt h (hbm); simp only [Array.length_toList] at hxl; simp only [Nat.zero_add] at hlex; rw [List.nil_append] at hch; have hcount := @adc
  have key : ∀ (fuel : Nat) (listed : Array Bool) (Rb : Regs) (Hk : AHeap) (g' : Gh) (a' : Act) (w' : World), g.le g' -> WayB P n ops bm Kx H R (lexR ops.toList xs R) listed Rb Hk g' a' w' -> (∃ k, k <= fuel /\ (listed.toList.filter (!·)).length = k) -> wpAny P .any ops (Post n g Kx) fuel listed a' w' := by
    have hend : ∀ (listed : Array Bool) (Rb : Regs) (Hk : AHeap) (g' : Gh) (a' : Act) (w' : World), g.le g' -> WayB P n ops bm Kx H R (lexR ops.toList xs R) listed Rb Hk g' a' w' -> (∀ i, i < ops.size -> listed.getD i false = true) -> Post n g Kx .normal a' w' := by
      intro listed Rb Hk g' a' w' hl hw hall; have hc := hw.chain; rw [aio fun j hj => by rw [Nat.zero_add, left, hall j (by simpa using hj)]; simp] at hc
      refine ⟨Rb, Hk, g', hc, hl, hw.defers, hw.tmps, fun t => ?_, hw.sim⟩
      by_cases hex : ∃ (j : Nat) (p : Oper), ops[j]? = some p /\ p.dst = some t
      · obtain ⟨j, p, hj, hpd⟩ := hex
        exact hw.wrote t ⟨j, p, hj, hpd, hall j (Array.getElem?_eq_some_iff.1 hj).1⟩
      · rw [hw.rb t fun j p hj _ hd => hex ⟨j, p, hj, hd⟩, ly _ _ _ _ fun j p hj hd => hex ⟨j, p, by simpa using hj, hd⟩]
        exact hw.kept t fun ⟨j, p, hj, hd, _⟩ => hex ⟨j, p, hj, hd⟩
    intro fuel
    induction fuel with
    | zero =>
      intro listed Rb Hk g' a' w' hl hw hcnt; obtain ⟨k, hk0, hk⟩ := hcnt
      have hall : ∀ i, i < ops.size -> listed.getD i false = true := fun i hi => by
        cases hli : listed.getD i false with
        | true => rfl
        | false =>
          have := hcount listed i (by rw [hw.size]; exact hi) hli
          omega
      refine ⟨?_, hend _ _ _ _ _ _ hl hw hall⟩; rw [List.eq_nil_iff_forall_not_mem]; intro i hi; obtain ⟨hu, o, ho, _⟩ := mem_ready.1 hi; have hlt := (Array.getElem?_eq_some_iff.1 ho).1; have := hall i hlt; have hil : i < listed.size := by rw [hw.size]; exact hlt
      simp [hil] at hu this
      rw [hu] at this; cases this
    | succ fuel ih =>
      intro listed Rb Hk g' a' w' hl hw hcnt; obtain ⟨k, hk0, hk⟩ := hcnt; refine ⟨fun hready => hend _ _ _ _ _ _ hl hw (aiv hok hw.size hready), fun i hi => ?_⟩
      obtain ⟨hun, o, ho, hafter⟩ := mem_ready.1 hi; have hlt := (Array.getElem?_eq_some_iff.1 ho).1; have hil : i < listed.size := by rw [hw.size]; exact hlt
      have hunf : listed.getD i false = false := by simp [hil] at hun ⊢; exact hun
      have hc := hcount listed i hil hunf
      cases hbi : bm.getD i false with
      | false =>
        refine stepA hok rfl hxl hw hi hbi (fun o' ho' => ?_) fun g2 a2 w2 hl2 hw2 => ih _ _ _ _ _ _ (hl.trans hl2) hw2 ⟨_, by omega, rfl⟩
        have hbl : i < bm.length := by rw [hok.len]; exact hlt
        refine hlex i o' (by simpa using ho') ?_
        rw [List.getElem?_eq_getElem hbl]; rw [List.getD_eq_getElem?_getD, List.getElem?_eq_getElem hbl] at hbi; simpa using hbi
      | true => exact stepB hok rfl hw hi hbi hl fun Rb' Hk' g2 a2 w2 hl2 hw2 => ih _ _ _ _ _ _ (hl.trans hl2) hw2 ⟨_, by omega, rfl⟩
  have hno : ∀ j, (Array.replicate ops.size false).getD j false = false := fun j => by
    simp [Array.getD_eq_getD_getElem?, Array.getElem?_replicate]
    split <;> simp
  have hnd : ∀ t, ¬ DstL ops (Array.replicate ops.size false) t := fun t ⟨j, o, _, _, hl⟩ => by rw [hno] at hl; cases hl
  refine key ops.size _ (lexR ops.toList xs R) H g a _ (.refl g) ⟨by simp, fun j hl => (by rw [hno] at hl; cases hl), ?_, fun _ _ => rfl, hp.defers, hp.size, hp.sim.same ⟨rfl, rfl, rfl⟩ rfl, fun t ht => absurd ht (hnd t), fun t _ => hp.regs t, fun _ => rfl⟩ ⟨_, ?_, rfl⟩
  · rw [ajo (m := bm) hbm fun j => by rw [Nat.zero_add, left, hno]; simp]
    exact hch
  · refine Nat.le_trans (List.length_filter_le _ _) ?_
    simp
theorem ael {bm : List Bool} {id : Nat} (hbm : bm.length = ops.toList.length) (hm : P.follows .mixedOrders = true) (hok : drawOkB n ops bm = true) (h : AWM P n ops Kx H bm 0 [] bm ops.toList R) : AW P n (.region id ops true) Kx R H :=
  fun g a w hp => wp_region_any hm (amm hbm hok h g a w hp)
theorem mw (c : Bool) {id : Nat} (hm : P.follows .mixedOrders = true) (hneed : needB c ops = true) (hok : drawOkB n ops (bmask c ops) = true) (h : AWM P n ops Kx H (bmask c ops) 0 [] (bmask c ops) ops.toList R) : AW P n (.region id ops true) Kx R H :=
  ael (by rw [bmask, aac]) hm hok h
def objOpX (ex : List Nat) : Op -> Bool
  | .call { callee := .value (.func f), .. } => !(ex.any (Nat.beq f))
  | op => objOp true op
def freshApp (ops : Array Oper) : Op -> Bool
  | .call c => match c.callee, c.args.toList with
    | .builtin .append, Operand.tmp t :: _ => ops.toList.any fun o => (match o.dst with | some d => Nat.beq d t | none => false) && (match o.op with | .buildSlice _ 0 _ => true | _ => false)
    | .builtin .append, Operand.const _ :: _ => true
    | _, _ => false
  | _ => false
def bmaskXF (ex : List Nat) (ops : Array Oper) : List Oper -> List Tmp -> List Bool
  | [], _ => []
  | o :: l, bd => if (objOpX ex o.op && !freshApp ops o.op) || (o.looksAt ops).any (fun t => bd.any (Nat.beq t)) then true :: bmaskXF ex ops l (o.dst.toList ++ bd) else false :: bmaskXF ex ops l bd
def bmaskX (ex : List Nat) (ops : Array Oper) : List Bool := bmaskXF ex ops ops.toList []
theorem zr (ex : List Nat) (ops : Array Oper) : ∀ l bd, (bmaskXF ex ops l bd).length = l.length
  | [], _ => rfl
  | o :: l, bd => by rw [bmaskXF]; split <;> simp [zr ex ops l]
theorem aor (ex : List Nat) {id : Nat} (hm : P.follows .mixedOrders = true) (hneed : (ops.toList.dropLast.any fun o => objOpX ex o.op) = true) (hok : drawOkB n ops (bmaskX ex ops) = true) (h : AWM P n ops Kx H (bmaskX ex ops) 0 [] (bmaskX ex ops) ops.toList R) : AW P n (.region id ops true) Kx R H :=
  ael (by rw [bmaskX, zr]) hm hok h
end
section
variable {P : Program} {n : Nat} {ops : Array Oper} {Kx : Exit -> Regs -> AHeap -> Prop} {R : Regs} {H : AHeap} {acc l rest : List Oper} {m : List Bool} {d : Tmp} {op : Op} {ty : TypeId} {pos : String} {af : Array Edge} {gd : Option (Nat × Bool)}
theorem mr {bm : List Bool} {k : Nat} (h : AWB P n ops Kx acc R H) : AWM P n ops Kx H bm k acc [] [] R := by rw [AWM]; exact h; intros; simp_all
theorem lu {bm : List Bool} {k : Nat} (h : AWM P n ops Kx H bm (k + 1) (acc ++ [⟨some d, op, ty, pos, af, gd⟩]) m rest ((d, .unk) :: R)) : AWM P n ops Kx H bm k acc (true :: m) (⟨some d, op, ty, pos, af, gd⟩ :: rest) R := by rw [AWM, if_pos rfl]; exact h
theorem lq {bm : List Bool} {k : Nat} (h : AWM P n ops Kx H bm (k + 1) (acc ++ [⟨none, op, ty, pos, af, gd⟩]) m rest R) : AWM P n ops Kx H bm k acc (true :: m) (⟨none, op, ty, pos, af, gd⟩ :: rest) R := by rw [AWM, if_pos rfl]; exact h
theorem jl {bm : List Bool} {k : Nat} {x : AV} (hs : ∀ H', Stp P n op ty (ronly op R) H' x) (hk : AWM P n ops Kx H bm (k + 1) acc m rest ((d, x) :: R)) : AWM P n ops Kx H bm k acc (false :: m) (⟨some d, op, ty, pos, af, none⟩ :: rest) R := by
  rw [AWM, if_neg (by simp)]; exact ⟨x, fun H' _ => hs H', hk⟩
theorem j8 {bm : List Bool} {k : Nat} {x : AV} (he : earlyB ops bm k = true) (hs : Stp P n op ty (ronly op R) H x) (hk : AWM P n ops Kx H bm (k + 1) acc m rest ((d, x) :: R)) : AWM P n ops Kx H bm k acc (false :: m) (⟨some d, op, ty, pos, af, none⟩ :: rest) R := by
  rw [AWM, if_neg (by simp)]; exact ⟨x, fun H' hH => by rw [hH he]; exact hs, hk⟩
theorem mi (h : Kx .normal R H) : AWB P n ops Kx [] R H := h
theorem kz (h : ∀ (Rx : Regs) (K1 : Exit -> Regs -> AHeap -> Prop), (∀ x H', AWB P n ops Kx l ((d, x) :: R) H' -> K1 .normal ((d, x) :: (lonly ops ⟨some d, op, ty, pos, af, gd⟩ R ++ Rx)) H') -> AWL P n ops [⟨some d, op, ty, pos, af, gd⟩] K1 (lonly ops ⟨some d, op, ty, pos, af, gd⟩ R ++ Rx) H) :
    AWB P n ops Kx (⟨some d, op, ty, pos, af, gd⟩ :: l) R H := h
theorem lw (h : ∀ (Rx : Regs) (K1 : Exit -> Regs -> AHeap -> Prop), (∀ H', AWB P n ops Kx l R H' -> K1 .normal (lonly ops ⟨none, op, ty, pos, af, gd⟩ R ++ Rx) H') -> AWL P n ops [⟨none, op, ty, pos, af, gd⟩] K1 (lonly ops ⟨none, op, ty, pos, af, gd⟩ R ++ Rx) H) :
    AWB P n ops Kx (⟨none, op, ty, pos, af, gd⟩ :: l) R H := fun Rx K1 hk => h Rx K1 fun H' hb => hk .unk H' hb
end
section
variable {P : Program} {n : Nat} {ops : Array Oper} {K : Exit -> Regs -> AHeap -> Prop} {R : Regs} {H H0 : AHeap} {rest : List Oper} {ty : TypeId} {pos : String} {af : Array Edge} {t : TypeId} {x y : Operand}
end
end Go.Am
