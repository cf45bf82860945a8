/-
  The executor: what its states mean, and that values which it finds equal are equal.
-/
import Derived.Test.YtaabpahemponkaaGreatDoorDyA
import Derived.Test.YtaabpahemponkaaGreatDoorAmB
import Derived.Laws.StructEq
set_option linter.unusedVariables false
set_option linter.unusedSimpArgs false
namespace Go.Ex
open Go Go.Am
section
variable {α ρ : Type}
theorem onSome_some (x : α) (f : α → ρ) (z : ρ) : onSome (some x) f z = f x := rfl
theorem onSome_none (f : α → ρ) (z : ρ) : onSome none f z = z := rfl
theorem ifb_true (x y : ρ) : ifb true x y = x := rfl
theorem ifb_false (x y : ρ) : ifb false x y = y := rfl
theorem getN_nil (i : Nat) : T.get (.nil : T α) i = none := rfl
theorem get_node0 (l r : T α) (v : Option α) : T.get (.node l v r) 0 = v := rfl
theorem get_nodeS (l r : T α) (v : Option α) (j : Nat) : T.get (.node l v r) (j + 1) = if j % 2 = 0 then T.get l (j / 2) else T.get r (j / 2) := by
  show Bool.rec (motive := fun _ => Option α) (T.get r (j / 2)) (T.get l (j / 2)) (Nat.beq (j % 2) 0) = _
  cases hb : Nat.beq (j % 2) 0 with
  | true => rw [if_pos (Nat.eq_of_beq_eq_true hb)]
  | false => rw [if_neg (Nat.ne_of_beq_eq_false hb)]
theorem setF_0n (x : Option α) (f : Nat) : T.setF x (f + 1) (.nil : T α) 0 = .node .nil x .nil := rfl
theorem setF_0 (x : Option α) (f : Nat) (l r : T α) (v : Option α) : T.setF x (f + 1) (.node l v r) 0 = .node l x r := rfl
theorem setF_Sn (x : Option α) (f j : Nat) : T.setF x (f + 1) (.nil : T α) (j + 1) = if j % 2 = 0 then .node (T.setF x f .nil (j / 2)) none .nil else .node .nil none (T.setF x f .nil (j / 2)) := by
  show Bool.rec (motive := fun _ => T α) (.node .nil none (T.setF x f .nil (j / 2))) (.node (T.setF x f .nil (j / 2)) none .nil) (Nat.beq (j % 2) 0) = _
  cases hb : Nat.beq (j % 2) 0 with
  | true => rw [if_pos (Nat.eq_of_beq_eq_true hb)]
  | false => rw [if_neg (Nat.ne_of_beq_eq_false hb)]
theorem setF_S (x : Option α) (f j : Nat) (l r : T α) (v : Option α) : T.setF x (f + 1) (.node l v r) (j + 1) = if j % 2 = 0 then .node (T.setF x f l (j / 2)) v r else .node l v (T.setF x f r (j / 2)) := by
  show Bool.rec (motive := fun _ => T α) (.node l v (T.setF x f r (j / 2))) (.node (T.setF x f l (j / 2)) v r) (Nat.beq (j % 2) 0) = _
  cases hb : Nat.beq (j % 2) 0 with
  | true => rw [if_pos (Nat.eq_of_beq_eq_true hb)]
  | false => rw [if_neg (Nat.ne_of_beq_eq_false hb)]
theorem get_setF (x : Option α) : ∀ (f : Nat) (t : T α) (i p : Nat), i < f → T.get (T.setF x f t i) p = if p = i then x else T.get t p
  | 0, _, _, _, h => absurd h (by omega)
  | f + 1, t, 0, p, _ => by
    cases t with
    | nil => rw [setF_0n]; cases p with
      | zero => simp [get_node0]
      | succ q => simp [get_nodeS, getN_nil]
    | node l v r => rw [setF_0]; cases p with
      | zero => simp [get_node0]
      | succ q => simp [get_nodeS]
  | f + 1, t, j + 1, p, h => by
    have ih := fun (t : T α) (p : Nat) => get_setF x f t (j / 2) p (by omega)
    cases t with
    | nil =>
      rw [setF_Sn]
      cases p with
      | zero => split <;> simp [get_node0, getN_nil]
      | succ q =>
        by_cases he : q = j
        · subst he
          split <;> rename_i hj <;> simp [get_nodeS, ih, getN_nil, hj]
        · by_cases hq : q % 2 = j % 2
          · have h2 : ¬ q / 2 = j / 2 := by omega
            split <;> rename_i hj <;> simp [get_nodeS, ih, getN_nil, hj, hq, h2, he]
          · split <;> rename_i hj
            · have hq1 : ¬ q % 2 = 0 := by omega
              simp [get_nodeS, ih, getN_nil, he]
              intro h0; omega
            · have hq1 : q % 2 = 0 := by omega
              simp [get_nodeS, ih, getN_nil, he, hq1]
    | node l v r =>
      rw [setF_S]
      cases p with
      | zero => split <;> simp [get_node0]
      | succ q =>
        by_cases he : q = j
        · subst he
          split <;> rename_i hj <;> simp [get_nodeS, ih, hj]
        · by_cases hq : q % 2 = j % 2
          · have h2 : ¬ q / 2 = j / 2 := by omega
            split <;> rename_i hj <;> simp [get_nodeS, ih, hj, hq, h2, he]
          · split <;> rename_i hj
            · have hq1 : ¬ q % 2 = 0 := by omega
              rw [get_nodeS, get_nodeS, if_neg hq1, if_neg hq1, if_neg (by omega)]
            · have hq1 : q % 2 = 0 := by omega
              rw [get_nodeS, get_nodeS, if_pos hq1, if_pos hq1, if_neg (by omega)]
theorem get_put (t : T α) (i p : Nat) (x : α) : T.get (t.put i x) p = if p = i then some x else T.get t p := get_setF (some x) (i + 1) t i p (by omega)
theorem get_del (t : T α) (i p : Nat) : T.get (t.del i) p = if p = i then none else T.get t p := get_setF none (i + 1) t i p (by omega)
theorem putL_nil (t : T α) (i : Nat) : T.putL t i [] = t := rfl
theorem putL_cons (t : T α) (i : Nat) (x : α) (xs : List α) : T.putL t i (x :: xs) = T.putL (t.put i x) (i + 1) xs := rfl
theorem get_putL : ∀ (xs : List α) (t : T α) (i p : Nat), T.get (T.putL t i xs) p = if i ≤ p ∧ p < i + xs.length then xs[p - i]? else T.get t p
  | [], t, i, p => by rw [putL_nil, if_neg (by simp only [List.length_nil]; omega)]
  | x :: xs, t, i, p => by
    rw [putL_cons, get_putL xs, get_put]
    simp only [List.length_cons]
    by_cases h1 : i + 1 ≤ p ∧ p < i + 1 + xs.length
    · rw [if_pos h1, if_pos (by omega), show p - i = (p - (i + 1)) + 1 from by omega, List.getElem?_cons_succ]
    · rw [if_neg h1]
      by_cases h2 : p = i
      · subst h2; rw [if_pos rfl, if_pos (by omega)]; simp
      · rw [if_neg h2, if_neg (by omega)]
theorem seg_zero (t : T α) (d : α) (i : Nat) : T.seg t d i 0 = [] := rfl
theorem seg_succ (t : T α) (d : α) (i n : Nat) : T.seg t d i (n + 1) = onSome (t.get i) id d :: T.seg t d (i + 1) n := rfl
theorem seg_length (t : T α) (d : α) : ∀ (n i : Nat), (T.seg t d i n).length = n
  | 0, _ => rfl
  | n + 1, i => by rw [seg_succ, List.length_cons, seg_length t d n]
theorem seg_get (t : T α) (d : α) : ∀ (n i k : Nat), (T.seg t d i n)[k]? = if k < n then some (onSome (t.get (i + k)) id d) else none
  | 0, i, k => by rw [seg_zero]; simp
  | n + 1, i, k => by
    rw [seg_succ]
    cases k with
    | zero => simp
    | succ k =>
      rw [List.getElem?_cons_succ, seg_get t d n, show i + 1 + k = i + (k + 1) from by omega]
      by_cases h : k < n
      · rw [if_pos h, if_pos (by omega)]
      · rw [if_neg h, if_neg (by omega)]
theorem seg_drop (t : T α) (d : α) (n i k : Nat) (h : k ≤ n) : (T.seg t d i n).drop k = T.seg t d (i + k) (n - k) := by
  apply List.ext_getElem?
  intro j
  rw [List.getElem?_drop, seg_get, seg_get, Nat.add_assoc]
  by_cases hj : j < n - k
  · rw [if_pos (by omega), if_pos hj]
  · rw [if_neg (by omega), if_neg hj]
theorem seg_take (t : T α) (d : α) (n i k : Nat) (h : k ≤ n) : (T.seg t d i n).take k = T.seg t d i k := by
  apply List.ext_getElem?
  intro j
  rw [List.getElem?_take, seg_get, seg_get]
  by_cases hj : j < k
  · rw [if_pos hj, if_pos (by omega), if_pos hj]
  · rw [if_neg hj, if_neg hj]
theorem nth_eq : ∀ (l : List α) (i : Nat), nth l i = l[i]?
  | [], i => by simp [nth, listRec]
  | x :: l, 0 => rfl
  | x :: l, i + 1 => by
    have h := nth_eq l i
    simp only [List.getElem?_cons_succ]
    exact h
theorem listRec_nil {β : Type} (z : β) (s : α → List α → β → β) : listRec z s [] = z := rfl
theorem listRec_cons {β : Type} (z : β) (s : α → List α → β → β) (x : α) (xs : List α) : listRec z s (x :: xs) = s x xs (listRec z s xs) := rfl
end
end Go.Ex
namespace Go.Ex
open Go Go.Am
noncomputable def XO.ao : XO → AO
  | .cel n t => .cel (t.seg .unk 0 n)
  | .mps es => MS.ao es
  | .mpi k es => MI.ao k es
  | .tcl t ex xs => tclO t ex xs
noncomputable def hof (H : T XO) : AHeap := fun o => (H.get o).map XO.ao
noncomputable def join (H F : AHeap) : AHeap := fun p => match H p with | some x => some x | none => F p
structure Disj (H F : AHeap) (a b : Nat) : Prop where
  h : ∀ p x, H p = some x → F p = none
  f : ∀ p, a ≤ p → p < b → F p = none
  n : ∀ p, a ≤ p → p < b → H p = none
def Free (g : Gh) (a b : Nat) : Prop := ∀ p, a ≤ p → p < b → g.loc p = none
structure Ext (g g' : Gh) (a b : Nat) : Prop where
  le : g.le g'
  out : ∀ p, (p < a ∨ b ≤ p) → g'.loc p = g.loc p
structure XPre (n : Nat) (R : T AV) (H : AHeap) (g : Gh) (a : Act) (w : World) : Prop where
  defers : a.defers = []
  size : a.tmps.size = n
  regs : ∀ i, Rep g (rg R i) (a.tmps.getD i undef)
  sim : Sim g H w
theorem Ext.refl (g : Gh) (a b : Nat) : Ext g g a b := ⟨.refl g, fun _ _ => rfl⟩
theorem Ext.trans {g1 g2 g3 : Gh} {a b c : Nat} (h : Ext g1 g2 a b) (k : Ext g2 g3 b c) (hab : a ≤ b) (hbc : b ≤ c) : Ext g1 g3 a c :=
  ⟨h.le.trans k.le, fun p hp => by rw [k.out p (by omega), h.out p (by omega)]⟩
theorem Ext.free {g g' : Gh} {a b c : Nat} (h : Ext g g' a b) (hab : a ≤ b) (hf : Free g a c) : Free g' b c := fun p h1 h2 => by rw [h.out p (by omega)]; exact hf p (by omega) h2
theorem Free.sub {g : Gh} {a b c : Nat} (h : Free g a c) (hb : b ≤ c) : Free g a b := fun p h1 h2 => h p h1 (by omega)
theorem join_some {H F : AHeap} {p : Nat} {x : AO} (h : H p = some x) : join H F p = some x := by simp [join, h]
theorem join_set (H F : AHeap) (o : Nat) (x : AO) : (join H F).set o x = join (H.set o x) F := by
  funext p
  simp only [join, AHeap.set]
  by_cases hp : p = o <;> simp [hp]
theorem join_erase {H F : AHeap} {o : Nat} (h : F o = none) : (join H F).erase o = join (H.erase o) F := by
  funext p
  simp only [join, AHeap.erase]
  by_cases hp : p = o
  · subst hp; simp [h]
  · simp [hp]
theorem hof_put (H : T XO) (o : Nat) (x : XO) : hof (H.put o x) = (hof H).set o x.ao := by
  funext p
  simp only [hof, AHeap.set, get_put]
  by_cases hp : p = o <;> simp [hp]
theorem hof_del (H : T XO) (o : Nat) : hof (H.del o) = (hof H).erase o := by
  funext p
  simp only [hof, AHeap.erase, get_del]
  by_cases hp : p = o <;> simp [hp]
theorem rg_put (R : T AV) (d i : Nat) (x : AV) : rg (R.put d x) i = if i = d then x else rg R i := by
  unfold rg
  rw [get_put]
  by_cases h : i = d <;> simp [h, onSome]
theorem rg_nil (i : Nat) : rg .nil i = .unk := rfl
def Dom (H H' : T XO) (a b : Nat) : Prop := ∀ p, (hof H' p).isSome = true → (hof H p).isSome = true ∨ (a ≤ p ∧ p < b)
theorem Dom.refl (H : T XO) (a b : Nat) : Dom H H a b := fun _ h => .inl h
theorem Dom.trans {H1 H2 H3 : T XO} {a b c : Nat} (h : Dom H1 H2 a b) (k : Dom H2 H3 b c) (hab : a ≤ b) (hbc : b ≤ c) : Dom H1 H3 a c := fun p hp => by
  rcases k p hp with h1 | h1
  · rcases h p h1 with h2 | h2
    · exact .inl h2
    · exact .inr ⟨h2.1, by omega⟩
  · exact .inr ⟨by omega, h1.2⟩
theorem Disj.step {H H' : T XO} {F : AHeap} {a b c : Nat} (h : Disj (hof H) F a c) (hd : Dom H H' a b) (hab : a ≤ b) (hbc : b ≤ c) : Disj (hof H') F b c :=
  ⟨fun p x hp => by
    rcases hd p (by rw [hp]; rfl) with h1 | h1
    · obtain ⟨y, hy⟩ := Option.isSome_iff_exists.1 h1
      exact h.h p y hy
    · exact h.f p h1.1 (by omega), fun p h1 h2 => h.f p (by omega) h2, fun p h1 h2 => by
    rcases Option.eq_none_or_eq_some (hof H' p) with h3 | ⟨x, h3⟩
    · exact h3
    · rcases hd p (by rw [h3]; rfl) with h4 | h4
      · rw [h.n p (by omega) h2] at h4; cases h4
      · omega⟩
theorem Disj.sub {H : T XO} {F : AHeap} {a b c : Nat} (h : Disj (hof H) F a c) (hb : b ≤ c) : Disj (hof H) F a b := ⟨h.h, fun p h1 h2 => h.f p h1 (by omega), fun p h1 h2 => h.n p h1 (by omega)⟩
theorem XPre.put {n : Nat} {R : T AV} {H H' : AHeap} {g g' : Gh} {a : Act} {w w' : World} (hp : XPre n R H g a w) (hl : g.le g') {d : Option Tmp} (hd : ∀ t, d = some t → t < n) {x : AV} {v : Value} (hx : Rep g' x v) (hs : Sim g' H' w') :
    XPre n (putR R d x) H' g' (a.put d v) w' := by
  cases d with
  | none => exact ⟨hp.defers, hp.size, fun i => Rep.mono hl _ _ (hp.regs i), hs⟩
  | some d =>
    refine ⟨hp.defers, by simp [Act.put, hp.size], fun i => ?_, hs⟩
    have hdn := hd d rfl
    show Rep g' (rg (R.put d x) i) _
    rw [rg_put]
    by_cases h : i = d
    · subst h
      rw [if_pos rfl]
      simp only [Act.put, Array.getD_eq_getD_getElem?]
      rw [Array.getElem?_setIfInBounds_self_of_lt (by rw [hp.size]; exact hdn)]
      exact hx
    · rw [if_neg h]
      simp only [Act.put, Array.getD_eq_getD_getElem?]
      rw [Array.getElem?_setIfInBounds_ne (by omega), ← Array.getD_eq_getD_getElem?]
      exact Rep.mono hl _ _ (hp.regs i)
section
variable (P : Program) (n : Nat)
def OpS (o : Oper) (R : T AV) (H : T XO) (a : Nat) (x : AV) (H' : T XO) (b : Nat) : Prop :=
  a ≤ b ∧ Dom H H' a b ∧ ∀ (F : AHeap) (g : Gh) (act : Act) (w : World), Disj (hof H) F a b → XPre n R (join (hof H) F) g act w → Free g a b →
    ∀ (Kc : Act → World → Prop) (Q : Exit → Act → World → Prop), (∀ v w' g', Ext g g' a b → Rep g' x v → Sim g' (join (hof H') F) w' → Kc (act.put o.dst v) w') → o.wp P act w Kc Q
def CodeS (c : Code) (R : T AV) (H : T XO) (a : Nat) (e : Exit) (R' : T AV) (H' : T XO) (b : Nat) : Prop :=
  a ≤ b ∧ Dom H H' a b ∧ ∀ (F : AHeap) (g : Gh) (act : Act) (w : World), Disj (hof H) F a b → XPre n R (join (hof H) F) g act w → Free g a b →
    c.wp P (fun e' act' w' => e' = e ∧ ∃ g', Ext g g' a b ∧ XPre n R' (join (hof H') F) g' act' w') act w
def CallS (f : FuncId) (args : List AV) (H : T XO) (a : Nat) (x : AV) (H' : T XO) (b : Nat) : Prop :=
  a ≤ b ∧ Dom H H' a b ∧ ∀ (F : AHeap) (g : Gh) (w : World) (vals : Array Value), Disj (hof H) F a b → RepL g args vals.toList → Sim g (join (hof H) F) w → Free g a b →
    Calls P f vals w fun e w' => ∃ v g', e = .returned v ∧ Ext g g' a b ∧ Rep g' x v ∧ Sim g' (join (hof H') F) w'
def NatS (f : FuncId) (args : List AV) (H : T XO) (a : Nat) (x : AV) (H' : T XO) (b : Nat) : Prop :=
  a ≤ b ∧ Dom H H' a b ∧ ∀ (F : AHeap) (g : Gh) (w : World) (vals : Array Value), Disj (hof H) F a b → RepL g args vals.toList → Sim g (join (hof H) F) w → Free g a b →
    ∃ v w' g', (callFunc f vals).run P w = .ok (.value v) w' ∧ Ext g g' a b ∧ Rep g' x v ∧ Sim g' (join (hof H') F) w'
end
section
variable {P : Program} {n : Nat} {R : T AV} {H H' : T XO} {a b : Nat} {x : AV}
theorem opS_pure {o : Oper} (h : ∀ (F : AHeap) g act w, Disj (hof H) F a a → XPre n R (join (hof H) F) g act w → ∃ v, (execOp act.eval o).run P w = .ok (.value v) w ∧ Rep g x v) : OpS P n o R H a x H a :=
  ⟨Nat.le_refl a, .refl H a a, fun F g act w hd hp hf Kc Q hk => by
    obtain ⟨v, hr, hx⟩ := h F g act w hd hp
    rw [Oper.wp, hr, Oper.upon_value]
    exact hk v w g (.refl g a a) hx hp.sim⟩
theorem opS_new {o : Oper} {y : XO} (h : ∀ (F : AHeap) g act w, Disj (hof H) F a (a + 1) → XPre n R (join (hof H) F) g act w → g.loc a = none →
      ∃ v w' g', (execOp act.eval o).run P w = .ok (.value v) w' ∧ Ext g g' a (a + 1) ∧ Rep g' x v ∧ Sim g' ((join (hof H) F).set a y.ao) w') : OpS P n o R H a x (H.put a y) (a + 1) :=
  ⟨by omega, fun p hp => by
      rw [hof_put] at hp
      simp only [AHeap.set] at hp
      by_cases h : p = a
      · exact .inr (by omega)
      · rw [if_neg h] at hp; exact .inl hp, fun F g act w hd hp hf Kc Q hk => by
    obtain ⟨v, w', g', hr, he, hx, hs⟩ := h F g act w hd hp (hf a (Nat.le_refl a) (by omega))
    rw [Oper.wp, hr, Oper.upon_value]
    refine hk v w' g' he hx ?_
    rw [hof_put, ← join_set]; exact hs⟩
theorem opS_put {o : Oper} {p : Nat} {y : XO} (hpo : (hof H p).isSome = true) (h : ∀ (F : AHeap) g act w, Disj (hof H) F a a → XPre n R (join (hof H) F) g act w →
      ∃ w', (execOp act.eval o).run P w = .ok .skip w' ∧ Sim g ((join (hof H) F).set p y.ao) w') : OpS P n o R H a .unk (H.put p y) a :=
  ⟨Nat.le_refl a, fun q hq => by
      rw [hof_put] at hq
      simp only [AHeap.set] at hq
      by_cases h : q = p
      · subst h; exact .inl hpo
      · rw [if_neg h] at hq; exact .inl hq, fun F g act w hd hp hf Kc Q hk => by
    obtain ⟨w', hr, hs⟩ := h F g act w hd hp
    rw [Oper.wp, hr, Oper.upon_skip]
    exact hk undef w' g (.refl g a a) (by simp only [Rep]) (by rw [hof_put, ← join_set]; exact hs)⟩
theorem opS_putv {o : Oper} {p : Nat} {y : XO} (hpo : (hof H p).isSome = true) (h : ∀ (F : AHeap) g act w, Disj (hof H) F a a → XPre n R (join (hof H) F) g act w →
      ∃ v w', (execOp act.eval o).run P w = .ok (.value v) w' ∧ Rep g x v ∧ Sim g ((join (hof H) F).set p y.ao) w') : OpS P n o R H a x (H.put p y) a :=
  ⟨Nat.le_refl a, fun q hq => by
      rw [hof_put] at hq
      simp only [AHeap.set] at hq
      by_cases h : q = p
      · subst h; exact .inl hpo
      · rw [if_neg h] at hq; exact .inl hq, fun F g act w hd hp hf Kc Q hk => by
    obtain ⟨v, w', hr, hx, hs⟩ := h F g act w hd hp
    rw [Oper.wp, hr, Oper.upon_value]
    exact hk v w' g (.refl g a a) hx (by rw [hof_put, ← join_set]; exact hs)⟩
end
section
variable {ρ : Type} {Good : ρ → Prop}
theorem onSome_cases {α : Type} {o : Option α} {f : α → ρ} {z : ρ} (h : Good (onSome o f z)) : (∃ x, o = some x ∧ Good (f x)) ∨ (o = none ∧ Good z) := by
  cases o with
  | none => exact .inr ⟨rfl, h⟩
  | some x => exact .inl ⟨x, rfl, h⟩
theorem ifb_cases {b : Bool} {x y : ρ} (h : Good (ifb b x y)) : (b = true ∧ Good x) ∨ (b = false ∧ Good y) := by
  cases b with
  | true => exact .inl ⟨rfl, h⟩
  | false => exact .inr ⟨rfl, h⟩
theorem natOn_cases {n : Nat} {z : ρ} {s : Nat → ρ} (h : Good (natOn n z s)) : (n = 0 ∧ Good z) ∨ (∃ m, n = m + 1 ∧ Good (s m)) := by
  cases n with
  | zero => exact .inl ⟨rfl, h⟩
  | succ m => exact .inr ⟨m, rfl, h⟩
theorem listOn_cases {α : Type} {l : List α} {z : ρ} {s : α → List α → ρ} (h : Good (listOn l z s)) : (l = [] ∧ Good z) ∨ (∃ x xs, l = x :: xs ∧ Good (s x xs)) := by
  cases l with
  | nil => exact .inl ⟨rfl, h⟩
  | cons x xs => exact .inr ⟨x, xs, rfl, h⟩
theorem asPtr_cases {x : AV} {f : Nat → Nat → ρ} {z : ρ} (h : Good (asPtr x f z)) : (∃ o j, x = .ptr o j ∧ Good (f o j)) ∨ Good z := by
  cases x <;> first | exact .inl ⟨_, _, rfl, h⟩ | exact .inr h
theorem asPce_cases {x : AV} {f : List AV → Nat → ρ} {z : ρ} (h : Good (asPce x f z)) : (∃ o j, x = .pce o j ∧ Good (f o j)) ∨ Good z := by
  cases x <;> first | exact .inl ⟨_, _, rfl, h⟩ | exact .inr h
theorem asVwn_cases {x : AV} {f : Nat → Nat → Nat → Nat → ρ} {z : ρ} (h : Good (asVwn x f z)) : (∃ o s j l, x = .vwn o s j l ∧ Good (f o s j l)) ∨ Good z := by
  cases x <;> first | exact .inl ⟨_, _, _, _, rfl, h⟩ | exact .inr h
theorem asSls_cases {x : AV} {f : Nat → List AV → ρ} {z : ρ} (h : Good (asSls x f z)) : (∃ o j, x = .sls o j ∧ Good (f o j)) ∨ Good z := by
  cases x <;> first | exact .inl ⟨_, _, rfl, h⟩ | exact .inr h
theorem asSlsx_cases {x : AV} {f : Nat → List AV → ρ} {z : ρ} (h : Good (asSlsx x f z)) : (∃ o j, x = .slsx o j ∧ Good (f o j)) ∨ Good z := by
  cases x <;> first | exact .inl ⟨_, _, rfl, h⟩ | exact .inr h
theorem asStr_cases {x : AV} {f : List UInt8 → ρ} {z : ρ} (h : Good (asStr x f z)) : (∃ o, x = .str o ∧ Good (f o)) ∨ Good z := by
  cases x <;> first | exact .inl ⟨_, rfl, h⟩ | exact .inr h
theorem asMp_cases {x : AV} {f : Nat → ρ} {z : ρ} (h : Good (asMp x f z)) : (∃ o, x = .mp o ∧ Good (f o)) ∨ Good z := by
  cases x <;> first | exact .inl ⟨_, rfl, h⟩ | exact .inr h
theorem asAgg_cases {x : AV} {f : List AV → ρ} {z : ρ} (h : Good (asAgg x f z)) : (∃ o, x = .agg o ∧ Good (f o)) ∨ Good z := by
  cases x <;> first | exact .inl ⟨_, rfl, h⟩ | exact .inr h
theorem asTup_cases {x : AV} {f : List AV → ρ} {z : ρ} (h : Good (asTup x f z)) : (∃ o, x = .tup o ∧ Good (f o)) ∨ Good z := by
  cases x <;> first | exact .inl ⟨_, rfl, h⟩ | exact .inr h
theorem asEmp_cases {x : AV} {f : ρ} {z : ρ} (h : Good (asEmp x f z)) : (x = .emp ∧ Good f) ∨ Good z := by
  cases x <;> first | exact .inl ⟨rfl, h⟩ | exact .inr h
theorem asRaw_cases {x : AV} {f : Value → ρ} {z : ρ} (h : Good (asRaw x f z)) : (∃ o, x = .raw o ∧ Good (f o)) ∨ Good z := by
  cases x <;> first | exact .inl ⟨_, rfl, h⟩ | exact .inr h
theorem vInt_cases {x : Value} {f : IntKind → Int → ρ} {z : ρ} (h : Good (vInt x f z)) : (∃ k n, x = .int k n ∧ Good (f k n)) ∨ Good z := by
  cases x <;> first | exact .inl ⟨_, _, rfl, h⟩ | exact .inr h
theorem vBool_cases {x : Value} {f : Bool → ρ} {z : ρ} (h : Good (vBool x f z)) : (∃ k, x = .bool k ∧ Good (f k)) ∨ Good z := by
  cases x <;> first | exact .inl ⟨_, rfl, h⟩ | exact .inr h
theorem asInt_cases {x : AV} {f : IntKind → Int → ρ} {z : ρ} (h : Good (asInt x f z)) : (∃ k n, x = .raw (.int k n) ∧ Good (f k n)) ∨ Good z := by
  rcases asRaw_cases h with ⟨v, rfl, h⟩ | h
  · rcases vInt_cases h with ⟨k, n, rfl, h⟩ | h
    · exact .inl ⟨k, n, rfl, h⟩
    · exact .inr h
  · exact .inr h
theorem asBool_cases {x : AV} {f : Bool → ρ} {z : ρ} (h : Good (asBool x f z)) : (∃ k, x = .raw (.bool k) ∧ Good (f k)) ∨ Good z := by
  rcases asRaw_cases h with ⟨v, rfl, h⟩ | h
  · rcases vBool_cases h with ⟨k, rfl, h⟩ | h
    · exact .inl ⟨k, rfl, h⟩
    · exact .inr h
  · exact .inr h
theorem intNat_cases {x : Int} {f : Nat → ρ} {z : ρ} (h : Good (intNat x f z)) : (∃ n : Nat, x = (n : Int) ∧ Good (f n)) ∨ Good z := by
  cases x <;> first | exact .inl ⟨_, rfl, h⟩ | exact .inr h
theorem asNat_cases {x : AV} {f : Nat → ρ} {z : ρ} (h : Good (asNat x f z)) : (∃ (k : IntKind) (n : Nat), x = .raw (.int k (n : Int)) ∧ Good (f n)) ∨ Good z := by
  rcases asInt_cases h with ⟨k, m, rfl, h⟩ | h
  · rcases intNat_cases h with ⟨n, rfl, h⟩ | h
    · exact .inl ⟨k, n, rfl, h⟩
    · exact .inr h
  · exact .inr h
theorem fnF_cases {x : Fn} {f : Nat → ρ} {z : ρ} (h : Good (fnF x f z)) : (∃ k, x = .func k ∧ Good (f k)) ∨ Good z := by
  cases x <;> first | exact .inl ⟨_, rfl, h⟩ | exact .inr h
theorem asFnc_cases {x : AV} {f : Nat → List AV → List AV → ρ} {z : ρ} (h : Good (asFnc x f z)) : (∃ g a b, x = .fnc (.func g) a b ∧ Good (f g a b)) ∨ Good z := by
  cases x with
  | fnc fn a b =>
    rcases fnF_cases (f := fun g => f g a b) h with ⟨k, rfl, h⟩ | h
    · exact .inl ⟨k, a, b, rfl, h⟩
    · exact .inr h
  | _ => exact .inr h
theorem vNilS_cases {x : Value} {y z : ρ} (h : Good (vNilS x y z)) : (x = .slice none 0 0 ∧ Good y) ∨ Good z := by
  cases x with
  | slice a n c =>
    rcases onSome_cases (f := fun _ => z) (z := natOn n (natOn c y (fun _ => z)) (fun _ => z)) h with ⟨_, _, h⟩ | ⟨rfl, h⟩
    · exact .inr h
    · rcases natOn_cases h with ⟨rfl, h⟩ | ⟨_, _, h⟩
      · rcases natOn_cases h with ⟨rfl, h⟩ | ⟨_, _, h⟩
        · exact .inl ⟨rfl, h⟩
        · exact .inr h
      · exact .inr h
  | _ => exact .inr h
theorem asNilS_cases {x : AV} {y z : ρ} (h : Good (asNilS x y z)) : (x = .raw (.slice none 0 0) ∧ Good y) ∨ Good z := by
  rcases asRaw_cases h with ⟨v, rfl, h⟩ | h
  · rcases vNilS_cases h with ⟨rfl, h⟩ | h
    · exact .inl ⟨rfl, h⟩
    · exact .inr h
  · exact .inr h
theorem vNilM_cases {x : Value} {y z : ρ} (h : Good (vNilM x y z)) : (x = .map none ∧ Good y) ∨ Good z := by
  cases x with
  | map r =>
    rcases onSome_cases (f := fun _ => z) (z := y) h with ⟨_, _, h⟩ | ⟨rfl, h⟩
    · exact .inr h
    · exact .inl ⟨rfl, h⟩
  | _ => exact .inr h
theorem asNilM_cases {x : AV} {y z : ρ} (h : Good (asNilM x y z)) : (x = .raw (.map none) ∧ Good y) ∨ Good z := by
  rcases asRaw_cases h with ⟨v, rfl, h⟩ | h
  · rcases vNilM_cases h with ⟨rfl, h⟩ | h
    · exact .inl ⟨rfl, h⟩
    · exact .inr h
  · exact .inr h
theorem atCel_cases {H : T XO} {o : Nat} {f : Nat → T AV → ρ} {z : ρ} (h : Good (atCel H o f z)) : (∃ n t, H.get o = some (.cel n t) ∧ Good (f n t)) ∨ Good z := by
  rcases onSome_cases h with ⟨x, hx, h⟩ | ⟨_, h⟩
  · cases x with
    | cel n t => exact .inl ⟨n, t, hx, h⟩
    | _ => exact .inr h
  · exact .inr h
theorem atMps_cases {H : T XO} {o : Nat} {f : List (List UInt8 × AV) → ρ} {z : ρ} (h : Good (atMps H o f z)) : (∃ es, H.get o = some (.mps es) ∧ Good (f es)) ∨ Good z := by
  rcases onSome_cases h with ⟨x, hx, h⟩ | ⟨_, h⟩
  · cases x with
    | mps es => exact .inl ⟨es, hx, h⟩
    | _ => exact .inr h
  · exact .inr h
theorem atMpi_cases {H : T XO} {o : Nat} {f : IntKind → List (Int × AV) → ρ} {z : ρ} (h : Good (atMpi H o f z)) : (∃ k es, H.get o = some (.mpi k es) ∧ Good (f k es)) ∨ Good z := by
  rcases onSome_cases h with ⟨x, hx, h⟩ | ⟨_, h⟩
  · cases x with
    | mpi k es => exact .inl ⟨k, es, hx, h⟩
    | _ => exact .inr h
  · exact .inr h
theorem tyBld_cases {d : TD} {f z : ρ} (h : Good (tyBld d f z)) : (d = .bld ∧ Good f) ∨ Good z := by
  cases d <;> first | exact .inl ⟨rfl, h⟩ | exact .inr h
theorem atTcl_cases {H : T XO} {o : Nat} {f : Nat → Bool → List AV → ρ} {z : ρ} (h : Good (atTcl H o f z)) : (∃ t ex xs, H.get o = some (.tcl t ex xs) ∧ Good (f t ex xs)) ∨ Good z := by
  rcases onSome_cases h with ⟨x, hx, h⟩ | ⟨_, h⟩
  · cases x with
    | tcl t ex xs => exact .inl ⟨t, ex, xs, hx, h⟩
    | _ => exact .inr h
  · exact .inr h
theorem tySlice_cases {d : TD} {f : Nat → Nat → List AV → ρ} {z : ρ} (h : Good (tySlice d f z)) : (∃ s b l, d = .slice s b l ∧ Good (f s b l)) ∨ Good z := by
  cases d <;> first | exact .inl ⟨_, _, _, rfl, h⟩ | exact .inr h
theorem tyArr_cases {d : TD} {f : Nat → Nat → ρ} {z : ρ} (h : Good (tyArr d f z)) : (∃ n s, ((∃ g, d = .arr n s g) ∨ d = .parr n s) ∧ Good (f n s)) ∨ Good z := by
  cases d <;> first | exact .inl ⟨_, _, .inl ⟨_, rfl⟩, h⟩ | exact .inl ⟨_, _, .inr rfl, h⟩ | exact .inr h
theorem tyArr0_cases {d : TD} {f : Nat → Nat → Bool → ρ} {z : ρ} (h : Good (tyArr0 d f z)) : (∃ n s g, d = .arr n s g ∧ Good (f n s g)) ∨ Good z := by
  cases d <;> first | exact .inl ⟨_, _, _, rfl, h⟩ | exact .inr h
theorem tyStruct_cases {d : TD} {f : List Fd → ρ} {z : ρ} (h : Good (tyStruct d f z)) : (∃ fs, d = .struct fs ∧ Good (f fs)) ∨ Good z := by
  cases d <;> first | exact .inl ⟨_, rfl, h⟩ | exact .inr h
theorem tyMap_cases {d : TD} {f : Option IntKind → Bool → List AV → ρ} {z : ρ} (h : Good (tyMap d f z)) : (∃ k b l, d = .map k b l ∧ Good (f k b l)) ∨ Good z := by
  cases d <;> first | exact .inl ⟨_, _, _, rfl, h⟩ | exact .inr h
theorem tyInt_cases {d : TD} {f : IntKind → ρ} {z : ρ} (h : Good (tyInt d f z)) : (∃ k, d = .int k ∧ Good (f k)) ∨ Good z := by
  cases d <;> first | exact .inl ⟨_, rfl, h⟩ | exact .inr h
theorem tyStr_cases {d : TD} {f z : ρ} (h : Good (tyStr d f z)) : (d = .str ∧ Good f) ∨ Good z := by
  cases d <;> first | exact .inl ⟨rfl, h⟩ | exact .inr h
theorem one1_cases {xs : List AV} {f : AV → ρ} {z : ρ} (h : Good (one1 xs f z)) : (∃ x, xs = [x] ∧ Good (f x)) ∨ Good z := by
  rcases listOn_cases h with ⟨_, h⟩ | ⟨x, r, rfl, h⟩
  · exact .inr h
  · rcases listOn_cases (z := f x) (s := fun _ _ => z) h with ⟨rfl, h⟩ | ⟨_, _, _, h⟩
    · exact .inl ⟨x, rfl, h⟩
    · exact .inr h
theorem aggOf_cases {agg : Bool} {xs : List AV} {f : AV → ρ} {z : ρ} (h : Good (aggOf agg xs f z)) : (agg = true ∧ Good (f (.agg xs))) ∨ (∃ x, agg = false ∧ xs = [x] ∧ Good (f x)) ∨ Good z := by
  rcases ifb_cases h with ⟨rfl, h⟩ | ⟨rfl, h⟩
  · exact .inl ⟨rfl, h⟩
  · rcases one1_cases h with ⟨x, rfl, h⟩ | h
    · exact .inr (.inl ⟨x, rfl, rfl, h⟩)
    · exact .inr (.inr h)
end
end Go.Ex
namespace Go.Am
open Go
inductive EqFlds (P : Program) : Nat → List Field → List Nat → Prop
  | nil (i : Nat) : EqFlds P i [] []
  | str {i : Nat} {f : Field} {fs : List Field} {ks : List Nat} : f.name ≠ "_" → f.offset = i → CellT P f.type → P.underlying f.type = some .string → EqFlds P (i + 1) fs ks → EqFlds P i (f :: fs) (0 :: ks)
  | bool {i : Nat} {f : Field} {fs : List Field} {ks : List Nat} : f.name ≠ "_" → f.offset = i → CellT P f.type → P.underlying f.type = some .bool → EqFlds P (i + 1) fs ks → EqFlds P i (f :: fs) (1 :: ks)
  | int {i : Nat} {f : Field} {fs : List Field} {ks : List Nat} (k : IntKind) : f.name ≠ "_" → f.offset = i → CellT P f.type → P.underlying f.type = some (.int k) → EqFlds P (i + 1) fs ks → EqFlds P i (f :: fs) (2 :: ks)
class EqT (P : Program) (t : TypeId) (ks : outParam (List Nat)) : Prop where
  g : P.eqGuardType P.depth t = false
  s : P.stoodInHeld t = false
  u : P.underlying t = some (.struct (P.fieldsOf t))
  f : EqFlds P 0 (P.fieldsOf t).toList ks
theorem EqT.of {P : Program} {t : TypeId} {fs : Array Field} {ks : List Nat} (g : P.eqGuardType P.depth t = false) (s : P.stoodInHeld t = false) (h : P.underlying t = some (.struct fs)) (f : EqFlds P 0 fs.toList ks) : EqT P t ks := by
  have e : P.fieldsOf t = fs := by unfold Program.fieldsOf; rw [h]
  exact ⟨g, s, by rw [e]; exact h, by rw [e]; exact f⟩
def eqAVs : List Nat → List AV → List AV → Option Prop
  | [], [], [] => some True
  | 0 :: ks, .str a :: xs, .str b :: ys => (eqAVs ks xs ys).map fun p => a = b ∧ p
  | 1 :: ks, .raw (.bool a) :: xs, .raw (.bool b) :: ys => (eqAVs ks xs ys).map fun p => a = b ∧ p
  | 2 :: ks, .raw (.int k a) :: xs, .raw (.int k' b) :: ys => if k = k' then (eqAVs ks xs ys).map fun p => a = b ∧ p else none
  | _, _, _ => none
section
variable {P : Program} {n : Nat} {R : Regs} {H : AHeap} {ty : TypeId} {g : Gh}
theorem eqFields_run {w : World} {d : Nat} {xs ys : Array Value} : ∀ {fs : List Field} {ks : List Nat} {i : Nat} {ax ay : List AV} {p : Prop}, EqFlds P i fs ks → (∀ (j : Nat) (x : AV), ax[j]? = some x → ∃ v, xs[i + j]? = some v ∧ Rep g x v) → (∀ (j : Nat) (x : AV), ay[j]? = some x → ∃ v, ys[i + j]? = some v ∧ Rep g x v) →
    eqAVs ks ax ay = some p → (Op.eqFields (d + 1) xs ys fs).run P w = .ok (@decide p (Classical.propDecidable p)) w
  | _, _, i, ax, ay, p, .nil _, h1, h2, he => by
    cases ax <;> cases ay <;> simp [eqAVs] at he
    simp [Op.eqFields, he]
  | _, _, i, ax, ay, p, .str (f := f) (fs := fs) (ks := ks) e1 e2 e3 e4 e5, h1, h2, he => by
    cases ax with
    | nil => simp [eqAVs] at he
    | cons x ax =>
      cases ay with
      | nil => simp [eqAVs] at he
      | cons y ay =>
        obtain ⟨u, u1, u2⟩ := h1 0 x rfl
        obtain ⟨v, v1, v2⟩ := h2 0 y rfl
        cases x <;> try (simp [eqAVs] at he; done)
        cases y <;> try (simp [eqAVs] at he; done)
        rename_i a b
        simp only [eqAVs, Option.map_eq_some_iff] at he
        obtain ⟨q, hq, rfl⟩ := he
        have ih := eqFields_run (w := w) (d := d) (xs := xs) (ys := ys) e5 (fun j x hx => by have := h1 (j + 1) x (by simpa using hx); rwa [show i + (j + 1) = i + 1 + j by omega] at this) (fun j x hx => by have := h2 (j + 1) x (by simpa using hx); rwa [show i + (j + 1) = i + 1 + j by omega] at this) hq
        simp only [Rep] at u2 v2
        subst u2; subst v2
        simp only [Nat.add_zero] at u1 v1
        have pa : (part f.type xs f.offset).run P w = .ok (.string ⟨a.toArray⟩) w := by simp [part, e3.a, e2, u1]
        have pb : (part f.type ys f.offset).run P w = .ok (.string ⟨b.toArray⟩) w := by simp [part, e3.a, e2, v1]
        simp only [Op.eqFields, e1, ne_eq, not_false_eq_true, if_true, Sem.run_bind, pa, pb, Result.andThen_ok, run_equalIn_string w d f.type _ _ e4, ByteArray.toList_eq, Sem.run_ite, Sem.run_pure, ih]
        by_cases hab : a = b
        · subst hab
          simp
        · simp [hab]
  | _, _, i, ax, ay, p, .bool (f := f) (fs := fs) (ks := ks) e1 e2 e3 e4 e5, h1, h2, he => by
    cases ax with
    | nil => simp [eqAVs] at he
    | cons x ax =>
      cases ay with
      | nil => simp [eqAVs] at he
      | cons y ay =>
        obtain ⟨u, u1, u2⟩ := h1 0 x rfl
        obtain ⟨v, v1, v2⟩ := h2 0 y rfl
        cases x <;> try (simp [eqAVs] at he; done)
        cases y <;> try (simp [eqAVs] at he; done)
        rename_i a b
        cases a <;> try (simp [eqAVs] at he; done)
        cases b <;> try (simp [eqAVs] at he; done)
        rename_i a b
        simp only [eqAVs, Option.map_eq_some_iff] at he
        obtain ⟨q, hq, rfl⟩ := he
        have ih := eqFields_run (w := w) (d := d) (xs := xs) (ys := ys) e5 (fun j x hx => by have := h1 (j + 1) x (by simpa using hx); rwa [show i + (j + 1) = i + 1 + j by omega] at this) (fun j x hx => by have := h2 (j + 1) x (by simpa using hx); rwa [show i + (j + 1) = i + 1 + j by omega] at this) hq
        simp only [Rep] at u2 v2
        subst u2; subst v2
        simp only [Nat.add_zero] at u1 v1
        have pa : (part f.type xs f.offset).run P w = .ok (.bool a) w := by simp [part, e3.a, e2, u1]
        have pb : (part f.type ys f.offset).run P w = .ok (.bool b) w := by simp [part, e3.a, e2, v1]
        simp only [Op.eqFields, e1, ne_eq, not_false_eq_true, if_true, Sem.run_bind, pa, pb, Result.andThen_ok, run_equalIn_bool w d f.type _ _ e4, Sem.run_ite, Sem.run_pure, ih]
        by_cases hab : a = b
        · subst hab
          simp
        · simp [hab]
  | _, _, i, ax, ay, p, .int (f := f) (fs := fs) (ks := ks) k0 e1 e2 e3 e4 e5, h1, h2, he => by
    cases ax with
    | nil => simp [eqAVs] at he
    | cons x ax =>
      cases ay with
      | nil => simp [eqAVs] at he
      | cons y ay =>
        obtain ⟨u, u1, u2⟩ := h1 0 x rfl
        obtain ⟨v, v1, v2⟩ := h2 0 y rfl
        cases x <;> try (simp [eqAVs] at he; done)
        cases y <;> try (simp [eqAVs] at he; done)
        rename_i a b
        cases a <;> try (simp [eqAVs] at he; done)
        cases b <;> try (simp [eqAVs] at he; done)
        rename_i k a k' b
        simp only [eqAVs] at he
        split at he
        · rename_i hk
          subst hk
          simp only [Option.map_eq_some_iff] at he
          obtain ⟨q, hq, rfl⟩ := he
          have ih := eqFields_run (w := w) (d := d) (xs := xs) (ys := ys) e5 (fun j x hx => by have := h1 (j + 1) x (by simpa using hx); rwa [show i + (j + 1) = i + 1 + j by omega] at this) (fun j x hx => by have := h2 (j + 1) x (by simpa using hx); rwa [show i + (j + 1) = i + 1 + j by omega] at this) hq
          simp only [Rep] at u2 v2
          subst u2; subst v2
          simp only [Nat.add_zero] at u1 v1
          have pa : (part f.type xs f.offset).run P w = .ok (.int k a) w := by simp [part, e3.a, e2, u1]
          have pb : (part f.type ys f.offset).run P w = .ok (.int k b) w := by simp [part, e3.a, e2, v1]
          simp only [Op.eqFields, e1, ne_eq, not_false_eq_true, if_true, Sem.run_bind, pa, pb, Result.andThen_ok, run_equalIn_int w d f.type k k0 _ _ e4, Sem.run_ite, Sem.run_pure, ih]
          by_cases hab : a = b
          · subst hab
            simp
          · simp [hab]
        · cases he
theorem rep_agg {xs : List AV} {v : Value} (h : Rep g (.agg xs) v) : ∃ ar : Array Value, v = .agg ar ∧ ∀ (j : Nat) (x : AV), xs[j]? = some x → ∃ u, ar[0 + j]? = some u ∧ Rep g x u := by
  simp only [Rep] at h
  obtain ⟨ar, he, hr⟩ := h
  have hr' := (repL_iff _ _).1 hr
  exact ⟨ar, he, fun j x hx => by obtain ⟨u, hu, hy⟩ := hr'.2 _ _ hx; exact ⟨u, by simpa using hu, hy⟩⟩
end
end Go.Am
