/-
  The executor is right about regions in text order, code and calls.
-/
import Derived.Test.YtaabpahemponkaaGreatDoorDyB
import Derived.Orders
import Derived.Still
import Derived.Test.YtaabpahemponkaaGreatDoorDyD
import Derived.LoopN
set_option linter.unusedVariables false
set_option linter.unusedSimpArgs false
namespace Go.Ex
open Go Go.Am
theorem nodup_dst {ops : Array Oper} (h : (ops.toList.filterMap (·.dst)).Nodup) {i j : Nat} {o p : Oper} {t : Tmp} (hi : ops[i]? = some o) (hj : ops[j]? = some p) (ho : o.dst = some t) (hp : p.dst = some t) : i = j := by
  have key : ∀ (l : List Oper) (i j : Nat), (l.filterMap (·.dst)).Nodup → l[i]? = some o → l[j]? = some p → i = j := by
    intro l
    induction l with
    | nil => intro i j _ h; simp at h
    | cons q l ih =>
      intro i j hn hi hj
      cases hq : q.dst with
      | none =>
        rw [List.filterMap_cons_none hq] at hn
        cases i with
        | zero => simp at hi; subst hi; rw [ho] at hq; cases hq
        | succ i =>
          cases j with
          | zero => simp at hj; subst hj; rw [hp] at hq; cases hq
          | succ j => rw [ih i j hn (by simpa using hi) (by simpa using hj)]
      | some u =>
        rw [List.filterMap_cons_some hq, List.nodup_cons] at hn
        cases i with
        | zero =>
          cases j with
          | zero => rfl
          | succ j =>
            simp at hi; subst hi
            rw [ho] at hq; cases hq
            exact absurd (List.mem_filterMap.2 ⟨p, List.mem_of_getElem? (by simpa using hj), hp⟩) hn.1
        | succ i =>
          cases j with
          | zero =>
            simp at hj; subst hj
            rw [hp] at hq; cases hq
            exact absurd (List.mem_filterMap.2 ⟨o, List.mem_of_getElem? (by simpa using hi), ho⟩) hn.1
          | succ j => rw [ih i j hn.2 (by simpa using hi) (by simpa using hj)]
  exact key ops.toList i j h (by simpa using hi) (by simpa using hj)
def waits (ops : Array Oper) (i : Nat) (o : Oper) (j : Nat) (p : Oper) : Bool :=
  match p.dst with
  | none => true
  | some t => !(o.looksAt ops).contains t || ((!decide (j < i) || o.after.any fun e => Region.binds .any e && e.on == j) && (!decide (i < j) || p.after.any fun e => Region.binds .any e && e.on == i) && !(j == i))
def drawOk (n m : Nat) (ops : Array Oper) : Bool :=
  (ops.toList.filterMap (·.dst)).Nodup && (ops.toList.filterMap (·.dst)).all (Nat.blt · n) &&
  (ops.toList.zipIdx.all fun (o, i) => (o.after.all fun e => !Region.binds .any e || decide (e.on < i)) && ops.toList.zipIdx.all fun (p, j) => waits ops i o j p) &&
  (decide (m = ops.size) || (decide (m + 1 = ops.size) && (List.range m).all fun j => ops.toList.zipIdx.any fun (o, k) => decide (j < k) && o.after.any fun e => Region.binds .any e && e.on == j))
structure DrawOk (n m : Nat) (ops : Array Oper) : Prop where
  nodup : (ops.toList.filterMap (·.dst)).Nodup
  small : ∀ (i : Nat) (o : Oper) (t : Tmp), ops[i]? = some o → o.dst = some t → t < n
  back : ∀ (i : Nat) (o : Oper), ops[i]? = some o → ∀ e ∈ o.after, Region.binds .any e = true → e.on < i
  wait : ∀ (i : Nat) (o : Oper), ops[i]? = some o → ∀ (j : Nat) (p : Oper) (t : Tmp), ops[j]? = some p → p.dst = some t → t ∈ o.looksAt ops → (j < i → ∃ e ∈ o.after, Region.binds .any e = true ∧ e.on = j) ∧ (i < j → ∃ e ∈ p.after, Region.binds .any e = true ∧ e.on = i) ∧ j ≠ i
  tail : m = ops.size ∨ (m + 1 = ops.size ∧ ∀ j, j < m → ∃ (k : Nat) (o : Oper), ops[k]? = some o ∧ j < k ∧ ∃ e ∈ o.after, Region.binds .any e = true ∧ e.on = j)
theorem drawOk_spec {n m : Nat} {ops : Array Oper} (h : drawOk n m ops = true) : DrawOk n m ops := by
  simp only [drawOk, Bool.and_eq_true, decide_eq_true_eq, List.all_eq_true, Bool.or_eq_true] at h
  obtain ⟨⟨⟨h1, h2⟩, h3⟩, h4⟩ := h
  have hz : ∀ (i : Nat) (o : Oper), ops[i]? = some o → (o, i) ∈ ops.toList.zipIdx := fun i o hi => by
    rw [List.mem_zipIdx_iff_getElem?]; simpa using hi
  refine ⟨h1, fun i o t hi ho => ?_, fun i o hi e he hb => ?_, fun i o hi j p t hj hp ht => ?_, ?_⟩
  · have := h2 t (List.mem_filterMap.2 ⟨o, by simpa using Array.mem_of_getElem? hi, ho⟩)
    exact Nat.le_of_ble_eq_true this
  · have := (h3 (o, i) (hz i o hi)).1
    simp only [Array.all_eq_true_iff_forall_mem] at this
    have := this e he
    simp [hb] at this
    exact this
  · have := (h3 (o, i) (hz i o hi)).2 (p, j) (hz j p hj)
    simp only [waits, hp] at this
    simp [ht] at this
    obtain ⟨⟨k1, k2⟩, k3⟩ := this
    refine ⟨fun hlt => ?_, fun hlt => ?_, k3⟩
    · rcases k1 with k1 | ⟨k, hk, hb, hon⟩
      · omega
      · exact ⟨o.after[k], Array.getElem_mem hk, hb, hon⟩
    · rcases k2 with k2 | ⟨k, hk, hb, hon⟩
      · omega
      · exact ⟨p.after[k], Array.getElem_mem hk, hb, hon⟩
  · rcases h4 with h4 | h4
    · exact .inl h4
    · simp only [Bool.and_eq_true, decide_eq_true_eq, List.all_eq_true, List.any_eq_true, Array.any_eq_true] at h4
      refine .inr ⟨h4.1, fun j hj => ?_⟩
      obtain ⟨⟨o, k⟩, hk, hjk, q, hq, hb⟩ := h4.2 j (List.mem_range.2 hj)
      refine ⟨k, o, by rw [List.mem_zipIdx_iff_getElem?] at hk; simpa using hk, hjk, o.after[q], Array.getElem_mem hq, hb.1, by simpa using hb.2⟩
theorem getD_set {listed : Array Bool} {i j : Nat} (hi : i < listed.size) : (listed.setIfInBounds i true).getD j false = if i = j then true else listed.getD j false := by
  by_cases h : i = j
  · subst h; simp [hi]
  · simp [h, Array.getElem?_setIfInBounds_ne h]
theorem ready_nil {n m : Nat} {ops : Array Oper} (hok : DrawOk n m ops) {listed : Array Bool} (hsz : listed.size = ops.size) (h : Region.ready .any ops listed = []) : ∀ i, i < ops.size → listed.getD i false = true := by
  intro i
  induction i using Nat.strongRecOn with
  | _ i ih =>
    intro hi
    cases hl : listed.getD i false with
    | true => rfl
    | false =>
      have hil : i < listed.size := by omega
      have : i ∈ Region.ready .any ops listed := mem_ready.2 ⟨by simp [hil] at hl ⊢; exact hl, ops[i], by simp [hi], fun e he hb => ih e.on (hok.back i ops[i] (by simp [hi]) e he hb) (by
        have := hok.back i ops[i] (by simp [hi]) e he hb; omega)⟩
      rw [h] at this; cases this
theorem count_list : ∀ (L : List Bool) (i : Nat) (h : i < L.length), L[i] = false → ((L.set i true).filter (!·)).length + 1 = (L.filter (!·)).length
  | [], i, h, _ => by simp at h
  | b :: L, 0, _, hf => by simp at hf; subst hf; simp
  | b :: L, i + 1, h, hf => by
    have := count_list L i (by simpa using h) (by simpa using hf)
    cases b <;> simp_all
theorem count_set (listed : Array Bool) (i : Nat) (hi : i < listed.size) (hf : listed.getD i false = false) : ((listed.setIfInBounds i true).toList.filter (!·)).length + 1 = (listed.toList.filter (!·)).length := by
  rw [Array.toList_setIfInBounds]
  exact count_list listed.toList i (by simpa using hi) (by simpa [hi] using hf)
end Go.Ex
namespace Go.Ex
open Go Go.Am
def CodeWf (n : Nat) : Code → Prop
  | .region _ ops d => (∀ o ∈ ops.toList, ∀ t, o.dst = some t → t < n) ∧ (d = true → drawOk n ops.size ops = true)
  | .seq x y => CodeWf n x ∧ CodeWf n y
  | .cond _ x y => CodeWf n x ∧ CodeWf n y
  | .block _ x => CodeWf n x
  | .loop x => CodeWf n x
  | _ => True
section
variable {ρ : Type} {Good : ρ → Prop} {P : Program} {n : Nat}
variable {E : Env ρ} (hb : ¬ Good E.bad) (hty : ∀ t i, E.ty.get t = some i → TyOk P t i)
theorem onNormal_cases {e : Exit} {x : ρ} {f : Exit → ρ} (h : Good (onNormal e x f)) : (e = .normal ∧ Good x) ∨ (e ≠ .normal ∧ Good (f e)) := by
  cases e with
  | normal => exact .inl ⟨rfl, h⟩
  | _ => exact .inr ⟨by simp, h⟩
theorem onExit_cases {e : Exit} {f : Nat → ρ} {z : Exit → ρ} (h : Good (onExit e f z)) : (∃ i, e = .exit i ∧ Good (f i)) ∨ ((∀ i, e ≠ .exit i) ∧ Good (z e)) := by
  cases e with
  | exit i => exact .inl ⟨i, rfl, h⟩
  | _ => exact .inr ⟨by simp, h⟩
theorem codeS_seq {x y : Code} {R R1 R2 : T AV} {H H1 H2 : T XO} {a b c : Nat} {e : Exit} (h1 : CodeS P n x R H a .normal R1 H1 b) (h2 : CodeS P n y R1 H1 b e R2 H2 c) : CodeS P n (.seq x y) R H a e R2 H2 c := by
  obtain ⟨p1, p2, p3⟩ := h1
  obtain ⟨q1, q2, q3⟩ := h2
  refine ⟨Nat.le_trans p1 q1, p2.trans q2 p1 q1, fun F g act w hd hp hf => ?_⟩
  refine wp_seq (wp_mono (p3 F g act w (hd.sub q1) hp (hf.sub q1)) ?_)
  rintro e' act' w' ⟨rfl, g', he, hp'⟩
  refine wp_mono (q3 F g' act' w' (hd.step p2 p1 q1) hp' (he.free p1 hf)) ?_
  rintro e2 act2 w2 ⟨h, g2, he2, hp2⟩
  exact ⟨h, g2, he.trans he2 p1 q1, hp2⟩
theorem then_ne {next : Act → World → Prop} {Q : Exit → Act → World → Prop} {e : Exit} {a : Act} {w : World} (h : e ≠ .normal) (hq : Q e a w) : Exit.then next Q e a w := by
  cases e with
  | normal => exact absurd rfl h
  | _ => exact hq
theorem codeS_seq_exit {x y : Code} {R R1 : T AV} {H H1 : T XO} {a b : Nat} {e : Exit} (hne : e ≠ .normal) (h1 : CodeS P n x R H a e R1 H1 b) : CodeS P n (.seq x y) R H a e R1 H1 b := by
  obtain ⟨p1, p2, p3⟩ := h1
  refine ⟨p1, p2, fun F g act w hd hp hf => wp_seq (wp_mono (p3 F g act w hd hp hf) ?_)⟩
  rintro e' act' w' ⟨rfl, h⟩
  exact then_ne hne ⟨rfl, h⟩
theorem codeS_cond {x y : Code} {c : Operand} {R R1 : T AV} {H H1 : T XO} {a b : Nat} {e : Exit} {t : Bool} (hc : ev c R = .raw (.bool t)) (h : CodeS P n (if t then x else y) R H a e R1 H1 b) : CodeS P n (.cond c x y) R H a e R1 H1 b := by
  obtain ⟨p1, p2, p3⟩ := h
  refine ⟨p1, p2, fun F g act w hd hp hf => wp_cond (t := t) ?_ (p3 F g act w hd hp hf)⟩
  have := ev_is hp hc
  simpa only [Rep] using this
def blockExit (id : Nat) (e : Exit) : Exit := match e with
  | .exit i => if i = id then .normal else .exit i
  | e => e
theorem codeS_block {x : Code} {id : Nat} {R R1 : T AV} {H H1 : T XO} {a b : Nat} {e e' : Exit} (h : CodeS P n x R H a e R1 H1 b) (he : e' = blockExit id e) : CodeS P n (.block id x) R H a e' R1 H1 b := by
  obtain ⟨p1, p2, p3⟩ := h
  refine ⟨p1, p2, fun F g act w hd hp hf => wp_block (wp_mono (p3 F g act w hd hp hf) ?_)⟩
  rintro e2 act' w' ⟨rfl, h⟩
  cases e2 with
  | exit i =>
    simp only [Exit.inBlock]
    simp only [blockExit] at he
    by_cases hi : i = id
    · rw [if_pos hi]; rw [if_pos hi] at he; exact ⟨he.symm, h⟩
    · rw [if_neg hi]; rw [if_neg hi] at he; exact ⟨he.symm, h⟩
  | _ => exact ⟨he.symm, h⟩
def RoundsS (P : Program) (n : Nat) (c : Code) (m : Nat) (R : T AV) (H : T XO) (a : Nat) (e : Exit) (R' : T AV) (H' : T XO) (b : Nat) : Prop :=
  a ≤ b ∧ Dom H H' a b ∧ ∀ (F : AHeap) (g : Gh) (act : Act) (w : World), Disj (hof H) F a b → XPre n R (join (hof H) F) g act w → Free g a b → ∀ Q : Exit → Act → World → Prop,
    (∀ act' w' g', Ext g g' a b → XPre n R' (join (hof H') F) g' act' w' → Q e act' w') → Code.rounds P c Q m act w
def DrawnOk (Good : ρ → Prop) (P : Program) (n : Nat) (E : Env ρ) (call : CallF ρ) : Prop :=
  ∀ id ops R H a (k : R3 ρ), drawOk n ops.size ops = true → Good (cDrawn ops E call R H a k) → ∃ R' H' b, CodeS P n (.region id ops true) R H a .normal R' H' b ∧ Good (k R' H' b)
include hb hty in
theorem ok_code {call : CallF ρ} (hc : CallOk Good P call) (hdr : DrawnOk Good P n E call) (fuel : Nat) : ∀ (c : Code), CodeWf n c → ∀ (R : T AV) (H : T XO) (a : Nat) (k : C ρ), Good (exec c E call fuel R H a k) →
    ∃ e R' H' b, CodeS P n c R H a e R' H' b ∧ Good (k e R' H' b)
  | .skip, _, R, H, a, k, h => ⟨.normal, R, H, a, ⟨Nat.le_refl a, .refl H a a, fun F g act w hd hp hf => wp_skip ⟨rfl, g, .refl g a a, hp⟩⟩, h⟩
  | .label l, _, R, H, a, k, h => ⟨.normal, R, H, a, ⟨Nat.le_refl a, .refl H a a, fun F g act w hd hp hf => wp_label ⟨rfl, g, .refl g a a, hp⟩⟩, h⟩
  | .exit i, _, R, H, a, k, h => ⟨.exit i, R, H, a, ⟨Nat.le_refl a, .refl H a a, fun F g act w hd hp hf => wp_exit ⟨rfl, g, .refl g a a, hp⟩⟩, h⟩
  | .ret, _, R, H, a, k, h => ⟨.ret, R, H, a, ⟨Nat.le_refl a, .refl H a a, fun F g act w hd hp hf => wp_ret ⟨rfl, g, .refl g a a, hp⟩⟩, h⟩
  | .region id ops d, hw, R, H, a, k, h => by
    rcases ifb_cases (x := cDrawn ops E call R H a (fun R H a => k .normal R H a)) (y := runOps ops.toList E call ops.toList R H a (fun R H a => k .normal R H a)) h with ⟨rfl, h⟩ | ⟨rfl, h⟩
    · obtain ⟨R', H', b, h1, h2⟩ := hdr id ops R H a _ (hw.2 rfl) h
      exact ⟨.normal, R', H', b, h1, h2⟩
    · obtain ⟨R', H', b, h1, h2⟩ := ok_list hb hty hc ops.toList hw.1 R H a (fun R H a => k .normal R H a) h
      exact ⟨.normal, R', H', b, ok_region h1, h2⟩
  | .seq x y, hw, R, H, a, k, h => by
    obtain ⟨e, R1, H1, b1, h1, h2⟩ := ok_code hc hdr fuel x hw.1 R H a (fun e R H a => onNormal e (exec y E call fuel R H a k) (fun e => k e R H a)) h
    rcases onNormal_cases h2 with ⟨rfl, h2⟩ | ⟨hne, h2⟩
    · obtain ⟨e, R2, H2, b2, h3, h4⟩ := ok_code hc hdr fuel y hw.2 R1 H1 b1 k h2
      exact ⟨e, R2, H2, b2, codeS_seq h1 h3, h4⟩
    · exact ⟨e, R1, H1, b1, codeS_seq_exit hne h1, h2⟩
  | .cond c x y, hw, R, H, a, k, h => by
    rcases asBool_cases (f := fun b => ifb b (exec x E call fuel R H a k) (exec y E call fuel R H a k)) h with ⟨t, ht, h⟩ | h
    rotate_left
    · exact absurd h hb
    cases t
    · obtain ⟨e, R1, H1, b1, h1, h2⟩ := ok_code hc hdr fuel y hw.2 R H a k h
      exact ⟨e, R1, H1, b1, codeS_cond (t := false) ht h1, h2⟩
    · obtain ⟨e, R1, H1, b1, h1, h2⟩ := ok_code hc hdr fuel x hw.1 R H a k h
      exact ⟨e, R1, H1, b1, codeS_cond (t := true) ht h1, h2⟩
  | .block id x, hw, R, H, a, k, h => by
    obtain ⟨e, R1, H1, b1, h1, h2⟩ := ok_code hc hdr fuel x hw R H a (fun e R H a => onExit e (fun i => ifb (Nat.beq i id) (k .normal R H a) (k (.exit i) R H a)) (fun e => k e R H a)) h
    rcases onExit_cases h2 with ⟨i, rfl, h2⟩ | ⟨hne, h2⟩
    · rcases ifb_cases h2 with ⟨hi, h2⟩ | ⟨hi, h2⟩
      · have hi := Nat.eq_of_beq_eq_true hi
        exact ⟨.normal, R1, H1, b1, codeS_block h1 (by simp [blockExit, hi]), h2⟩
      · have hi : i ≠ id := fun h => by rw [h] at hi; simp at hi
        exact ⟨.exit i, R1, H1, b1, codeS_block h1 (by simp [blockExit, hi]), h2⟩
    · exact ⟨e, R1, H1, b1, codeS_block h1 (by cases e <;> first | rfl | exact absurd rfl (hne _)), h2⟩
  | .loop x, hw, R, H, a, k, h => by
    have key : ∀ (m : Nat) (R : T AV) (H : T XO) (a : Nat), Good (iter (β := R3 ρ) m (fun _ _ _ => fail "fuel" E.bad) (fun ih R H a => exec x E call fuel R H a (fun e R H a => onNormal e (ih R H a) (fun e => k e R H a))) R H a) →
        ∃ e R' H' b, RoundsS P n x m R H a e R' H' b ∧ Good (k e R' H' b) := by
      intro m
      induction m with
      | zero => intro R H a h; exact absurd h hb
      | succ m ih =>
        intro R H a h
        obtain ⟨e, R1, H1, b1, h1, h2⟩ := ok_code hc hdr fuel x hw R H a (fun e R H a => onNormal e (iter (β := R3 ρ) m (fun _ _ _ => fail "fuel" E.bad) (fun ih R H a => exec x E call fuel R H a (fun e R H a => onNormal e (ih R H a) (fun e => k e R H a))) R H a) (fun e => k e R H a)) h
        obtain ⟨p1, p2, p3⟩ := h1
        rcases onNormal_cases h2 with ⟨rfl, h2⟩ | ⟨hne, h2⟩
        · obtain ⟨e, R2, H2, b2, ⟨q1, q2, q3⟩, h4⟩ := ih R1 H1 b1 h2
          refine ⟨e, R2, H2, b2, ⟨Nat.le_trans p1 q1, p2.trans q2 p1 q1, fun F g act w hd hp hf Q hQ => ?_⟩, h4⟩
          rw [rounds_succ]
          refine wp_mono (p3 F g act w (hd.sub q1) hp (hf.sub q1)) ?_
          rintro e' act' w' ⟨rfl, g', he, hp'⟩
          exact q3 F g' act' w' (hd.step p2 p1 q1) hp' (he.free p1 hf) Q fun act2 w2 g2 he2 hp2 => hQ _ _ g2 (he.trans he2 p1 q1) hp2
        · refine ⟨e, R1, H1, b1, ⟨p1, p2, fun F g act w hd hp hf Q hQ => ?_⟩, h2⟩
          rw [rounds_succ]
          refine wp_mono (p3 F g act w hd hp hf) ?_
          rintro e' act' w' ⟨rfl, g', he, hp'⟩
          exact then_ne hne (hQ _ _ g' he hp')
    obtain ⟨e, R1, H1, b1, ⟨q1, q2, q3⟩, h2⟩ := key fuel R H a h
    exact ⟨e, R1, H1, b1, ⟨q1, q2, fun F g act w hd hp hf => wp_loop_rounds fuel (q3 F g act w hd hp hf _ fun act' w' g' he hp' => ⟨rfl, g', he, hp'⟩)⟩, h2⟩
  | .rangeFunc _ _ _ _, _, R, H, a, k, h => absurd h hb
  | .scope _, _, R, H, a, k, h => absurd h hb
  | .goto _, _, R, H, a, k, h => absurd h hb
  | .refuse _, _, R, H, a, k, h => absurd h hb
end
end Go.Ex
namespace Go.Ex
open Go Go.Am
section
variable {ρ : Type} {Good : ρ → Prop} {P : Program} {n : Nat}
variable {E : Env ρ} (hb : ¬ Good E.bad) (hty : ∀ t i, E.ty.get t = some i → TyOk P t i)
theorem onEnd_cases {e : Exit} {x z : ρ} (h : Good (onEnd e x z)) : ((e = .normal ∨ e = .ret) ∧ Good x) ∨ Good z := by
  cases e with
  | normal => exact .inl ⟨.inl rfl, h⟩
  | ret => exact .inl ⟨.inr rfl, h⟩
  | _ => exact .inr h
theorem load_ok {t : TypeId} {i : TI} {H : T XO} {ob j m : Nat} {c : T AV} {f : AV → ρ} {z : ρ} (hz : ¬ Good z) (T : TyOk P t i) (hH : H.get ob = some (.cel m c)) (hle : j + i.sz ≤ m) (h : Good (aggOf i.agg (c.seg .unk j i.sz) f z)) :
    ∃ v, Good (f v) ∧ ∀ F g w l, Sim g (join (hof H) F) w → g.loc ob = some l → ∃ u, (loadVar t ⟨l.blk, l.base + j, none⟩).run P w = .ok u w ∧ Rep g v u := by
  rcases aggOf_cases h with ⟨hA, h⟩ | ⟨y, hA, hy, h⟩ | h
  rotate_left 2
  · exact absurd h hz
  · refine ⟨_, h, fun F g w l hs hl => ?_⟩
    obtain ⟨cv, e, fz, h1, h2, h3, h4⟩ := row_of hs (join_get hH) (fun _ h => by cases h) hl
    have hr : RepAt g (c.seg .unk j i.sz) cv (l.base + j) := by rw [← seg_cut c m j i.sz hle]; exact repAt_take (repAt_drop h4.2 j) i.sz
    have hsz := h4.1
    rw [seg_length] at hsz
    haveI : AggT P t i.sz := ⟨by rw [← hA]; exact T.agg, T.size⟩
    have hq := run_loadAt_agg (P := P) (t := t) (m := i.sz) h1 (k := l.base + j) (by omega)
    refine ⟨.agg ((cv.toList.drop (l.base + j)).take i.sz).toArray, by simpa [Instr.loadAt, Instr.sureAddr] using hq, ?_⟩
    simp only [Rep]
    exact ⟨_, rfl, by simpa using repL_seg hr (seg_length _ _ _ _)⟩
  · refine ⟨_, h, fun F g w l hs hl => ?_⟩
    obtain ⟨cv, e, fz, h1, h2, h3, h4⟩ := row_of hs (join_get hH) (fun _ h => by cases h) hl
    have hs1 : i.sz = 1 := by have := congrArg List.length hy; rw [seg_length] at this; simpa using this
    haveI : CellT P t := ⟨by rw [← hA]; exact T.agg, by rw [← hs1]; exact T.size⟩
    have hg : (c.seg .unk 0 m)[j]? = some y := by
      have := congrArg (fun l => l[0]?) hy
      rw [← seg_cut c m j i.sz hle] at this
      simp only [List.getElem?_take, List.getElem?_drop] at this
      rw [if_pos (by omega)] at this
      simpa using this
    obtain ⟨u, hu, _, hr⟩ := (repAt_iff _ _ _).1 h4.2 j y hg
    have hq := run_loadAt_cell (P := P) (t := t) ((cell_at h1).trans hu)
    exact ⟨u, by simpa [Instr.loadAt, Instr.sureAddr] using hq, hr⟩
def resRun (tmps : Array Value) (r : ResultVar) : Sem Value := match r with
  | .tmp t => pure (tmps.getD t undef)
  | .cell a t => do loadVar t (← asAddr (tmps.getD a undef))
include hb hty in
theorem ok_resV {R : T AV} {H : T XO} {r : ResultVar} {k : AV → ρ} (h : Good (resV r R H E k)) :
    ∃ v, Good (k v) ∧ ∀ F g act w, XPre n R (join (hof H) F) g act w → ∃ u, (resRun act.tmps r).run P w = .ok u w ∧ Rep g v u := by
  cases r with
  | tmp t => exact ⟨_, h, fun F g act w hp => ⟨_, rfl, hp.regs t⟩⟩
  | cell p t =>
    rcases asPtr_cases (f := fun o j => tyOf E t (fun i => atCel H o (fun n c => ifb (Nat.ble (j + i.sz) n) (aggOf i.agg (c.seg .unk j i.sz) k E.bad) (fail "res range" E.bad)) (fail "res dead" E.bad))) h with ⟨ob, j, hx, h⟩ | h
    rotate_left
    · exact absurd h hb
    rcases onSome_cases h with ⟨i, hi, h⟩ | ⟨_, h⟩
    rotate_left
    · exact absurd h hb
    rcases atCel_cases h with ⟨m, c, hH, h⟩ | h
    rotate_left
    · exact absurd h hb
    rcases ble_cases h with ⟨hle, h⟩ | h
    rotate_left
    · exact absurd h hb
    obtain ⟨v, h, hv⟩ := load_ok hb (hty t i hi) hH hle h
    refine ⟨v, h, fun F g act w hp => ?_⟩
    have hr := hp.regs p
    rw [hx] at hr
    simp only [Rep] at hr
    obtain ⟨l, hl, he⟩ := hr
    obtain ⟨u, h1, h2⟩ := hv F g w l hp.sim hl
    refine ⟨u, ?_, h2⟩
    simp only [resRun, he, asAddr, Sem.run_bind, Sem.run_pure, Result.andThen_ok, h1]
include hb hty in
theorem ok_resL {R : T AV} {H : T XO} : ∀ {rs : List ResultVar} {k : List AV → ρ}, Good (resL rs R H E k) →
    ∃ vs, Good (k vs) ∧ ∀ F g act w, XPre n R (join (hof H) F) g act w → ∃ us : List Value, (rs.mapM (resRun act.tmps)).run P w = .ok us w ∧ RepL g vs us
  | [], k, h => ⟨[], h, fun F g act w hp => ⟨[], rfl, by simp only [RepL]⟩⟩
  | r :: rs, k, h => by
    obtain ⟨v, h, h1⟩ := ok_resV (n := n) hb hty (k := fun v => resL rs R H E (fun vs => k (v :: vs))) h
    obtain ⟨vs, h, h2⟩ := ok_resL h
    refine ⟨v :: vs, h, fun F g act w hp => ?_⟩
    obtain ⟨u, q1, q2⟩ := h1 F g act w hp
    obtain ⟨us, q3, q4⟩ := h2 F g act w hp
    exact ⟨u :: us, by simp [List.mapM_cons, q1, q3], by simp only [RepL]; exact ⟨u, us, rfl, q2, q4⟩⟩
def resOf : List Value → Value
  | [u] => u
  | us => .tuple us.toArray
theorem results_eq (fn : Func) (tmps : Array Value) : results fn tmps = (do
    let vs ← fn.results.mapM (resRun tmps)
    pure (if h : vs.size = 1 then vs[0] else .tuple vs)) := by
  unfold results
  congr 1
theorem results_run {fn : Func} {tmps : Array Value} {w : World} {us : List Value} (h : (fn.results.toList.mapM (resRun tmps)).run P w = .ok us w) :
    (results fn tmps).run P w = .ok (resOf us) w := by
  rw [results_eq, Array.mapM_eq_mapM_toList]
  simp only [Sem.run_bind, Sem.run_map, h, Result.andThen_ok, Sem.run_pure]
  match us with
  | [] => simp [Result.andThen, resOf]
  | [u] => simp [Result.andThen, resOf]
  | u :: v :: us => simp [Result.andThen, resOf]
theorem rep_results1 {g : Gh} {vs : List AV} {us : List Value} (h : RepL g vs us) : Rep g (results1 vs) (resOf us) := by
  match vs, us, h with
  | [], us, h =>
    simp only [RepL] at h
    subst h
    show Rep g (.tup []) (.tuple #[])
    simp only [Rep, RepL]
    exact ⟨_, rfl, rfl⟩
  | [v], us, h =>
    simp only [RepL] at h
    obtain ⟨u, us', rfl, h1, rfl⟩ := h
    exact h1
  | v :: v2 :: vs, us, h =>
    have h0 := h
    simp only [RepL] at h
    obtain ⟨u, us', rfl, h1, u2, us2, rfl, h2, h3⟩ := h
    show Rep g (.tup (v :: v2 :: vs)) (.tuple (u :: u2 :: us2).toArray)
    simp only [Rep]
    exact ⟨_, rfl, h0⟩
theorem xpre_start {g : Gh} {H : AHeap} {w : World} {args : List AV} {vals : Array Value} {n : Nat} (hl : RepL g args vals.toList) (hn : args.length ≤ n) (hs : Sim g H w) :
    XPre n (T.putL .nil 0 args) H g { tmps := vals ++ Array.replicate (n - vals.size) undef, defers := [] } w := by
  have hlen := repL_length _ _ hl
  rw [Array.length_toList] at hlen
  refine ⟨rfl, by simp; omega, fun i => ?_, hs⟩
  unfold rg
  rw [get_putL]
  by_cases hi : i < args.length
  · rw [if_pos ⟨Nat.zero_le i, by omega⟩]
    simp only [Nat.sub_zero]
    rw [List.getElem?_eq_getElem hi]
    obtain ⟨u, hu, hr⟩ := ((repL_iff _ _).1 hl).2 i _ (List.getElem?_eq_getElem hi)
    rw [Array.getElem?_toList] at hu
    have hlt := (Array.getElem?_eq_some_iff.1 hu).1
    rw [Array.getD_eq_getD_getElem?, Array.getElem?_append_left hlt, hu]
    exact hr
  · rw [if_neg (by omega)]
    show Rep g .unk _
    simp only [Rep]
structure EnvOk (P : Program) (E : Env ρ) : Prop where
  ty : ∀ t i, E.ty.get t = some i → TyOk P t i
  fn : ∀ f fn, E.fn.get f = some fn → P.funcs[f]? = some fn ∧ FuncT P f ∧ ∀ c, fn.body = some c → CodeWf fn.ntmps c
theorem seal_ok {H : T XO} {a : Nat} {v : AV} {k : K ρ} (h : Good (sealV H a v k)) :
    ∃ v' H', Good (k v' H' a) ∧ Dom H H' a a ∧ ∀ F g w u, Disj (hof H) F a a → Sim g (join (hof H) F) w → Rep g v u → ∃ g', Ext g g' a a ∧ Rep g' v' u ∧ Sim g' (join (hof H') F) w := by
  have same : Good (k v H a) → ∃ v' H', Good (k v' H' a) ∧ Dom H H' a a ∧ ∀ F g w u, Disj (hof H) F a a → Sim g (join (hof H) F) w → Rep g v u → ∃ g', Ext g g' a a ∧ Rep g' v' u ∧ Sim g' (join (hof H') F) w :=
    fun h => ⟨v, H, h, .refl H a a, fun F g w u _ hs hr => ⟨g, .refl g a a, hr, hs⟩⟩
  rcases asVwn_cases h with ⟨ob, s, off, len, rfl, h⟩ | h
  rotate_left
  · exact same h
  rcases atCel_cases (z := k (.vwn ob s off len) H a) h with ⟨m, t, hH, h⟩ | h
  rotate_left
  · exact same h
  rcases ble_cases (z := k (.vwn ob s off len) H a) h with ⟨hle, h⟩ | h
  rotate_left
  · exact same h
  refine ⟨_, _, h, fun p hp => .inl ?_, fun F g w u hd hs hr => ?_⟩
  · rw [hof_del] at hp
    simp only [AHeap.erase] at hp
    split at hp
    · cases hp
    · exact hp
  · have hF : F ob = none := hd.h ob _ (hof_get hH)
    rw [hof_del, ← join_erase hF]
    simp only [Rep] at hr
    rcases hr with ⟨l, cap, k1, k2, k3, k4⟩ | ⟨rfl, ad, k2⟩
    · obtain ⟨c, e, fz, q1, q2, q3, q4⟩ := row_of hs (join_get hH) (fun _ h => by cases h) k1
      have hle' := g.le_seal (hs.apart ob _ l (join_get hH) k1) (.cells c e fz)
      refine ⟨g.seal l.blk (.cells c e fz), ⟨hle', fun p _ => rfl⟩, ?_, hs.sealObj (join_get hH) k1 q1⟩
      simp only [Rep]
      refine .inr ⟨l.blk, l.base + off, cap, c, e, fz, k2, k3, Gh.seal_self _ _ _, ?_⟩
      have hr : RepAt g (t.seg .unk off (len * s)) c (l.base + off) := by rw [← seg_cut t m off (len * s) hle]; exact repAt_take (repAt_drop q4.2 off) _
      exact RepAt.mono hle' _ _ _ hr
    · refine ⟨g, .refl g a a, ?_, hs.erase ob⟩
      simp only [Rep]
      exact .inl ⟨trivial, by simp [seg_zero], _, _, k2⟩
theorem ok_body {call : CallF ρ} (hE : EnvOk P E) (hc : CallOk Good P call) (hdr : ∀ n, DrawnOk Good P n E call) (fuel : Nat) (hb : ¬ Good E.bad) {f : FuncId} {fn : Func} (hf : E.fn.get f = some fn) {args : List AV} {H : T XO} {a : Nat} {k : K ρ}
    (h : Good (bodyF fn f E call fuel args H a k)) : ∃ x H' b, FuncT P f ∧ CallS P f args H a x H' b ∧ Good (k x H' b) := by
  obtain ⟨hfn, hF, hwf⟩ := hE.fn f fn hf
  rcases onSome_cases h with ⟨c, hcb, h⟩ | ⟨_, h⟩
  rotate_left
  · exact absurd h hb
  rcases ble_cases h with ⟨hn, h⟩ | h
  rotate_left
  · exact absurd h hb
  obtain ⟨e, R1, H1, b1, ⟨p1, p2, p3⟩, h⟩ := ok_code (n := fn.ntmps) hb hE.ty hc (hdr _) fuel c (hwf c hcb) _ H a _ h
  rcases onEnd_cases h with ⟨he, h⟩ | h
  rotate_left
  · exact absurd h hb
  obtain ⟨vs, h, hres⟩ := ok_resL (n := fn.ntmps) hb hE.ty h
  have fin : ∀ v' H', Dom H1 H' b1 b1 → (∀ F g w u, Disj (hof H1) F b1 b1 → Sim g (join (hof H1) F) w → Rep g (results1 vs) u → ∃ g', Ext g g' b1 b1 ∧ Rep g' v' u ∧ Sim g' (join (hof H') F) w) →
      CallS P f args H a v' H' b1 := fun v' H' hdom hs => by
    refine ⟨p1, p2.trans hdom p1 (Nat.le_refl _), fun F g w vals hd hl hs0 hfr => ?_⟩
    refine calls_of_wp hfn hcb (wp_mono (p3 F g _ w hd (xpre_start hl hn hs0) hfr) ?_)
    rintro e' act' w' ⟨rfl, g', hx, hp'⟩
    obtain ⟨us, q1, q2⟩ := hres F g' act' w' hp'
    have hr := results_run q1
    obtain ⟨g2, r1, r2, r3⟩ := hs F g' w' _ (hd.step p2 p1 (Nat.le_refl _)) hp'.sim (rep_results1 q2)
    have hout : (results fn act'.tmps).run P w' = .ok (resOf us) w' := hr
    rcases he with rfl | rfl <;> exact ⟨hp'.defers, _, hout, _, g2, rfl, hx.trans r1 p1 (Nat.le_refl _), r2, r3⟩
  rcases onSome_cases h with ⟨_, _, h⟩ | ⟨_, h⟩
  · obtain ⟨v', H', h, hdom, hs⟩ := seal_ok h
    exact ⟨v', H', b1, hF, fin v' H' hdom hs, h⟩
  · exact ⟨results1 vs, H1, b1, hF, fin _ _ (.refl _ _ _) (fun F g w u _ hs hr => ⟨g, .refl g _ _, hr, hs⟩), h⟩
structure OnceC (c : T AV) (j : Nat) (l : Int) : Prop where
  done : rg c j = .raw (.int .u32 0)
  lock : rg c (j + 1) = .raw (.int .i32 l)
  sema : rg c (j + 2) = .raw (.int .u32 0)
def OnceOk (P : Program) (once : FuncId) : Prop := FuncT P once ∧
  ∀ (H : T XO) (o j m : Nat) (c : T AV) (h : FuncId) (fs cs : List AV) (a : Nat) (x : AV) (H1 : T XO) (b m1 : Nat) (c1 : T AV), H.get o = some (.cel m c) → j + 3 ≤ m → OnceC c j 0 → FuncT P h →
    CallS P h (fs ++ cs) (H.put o (.cel m (c.put (j + 1) (.raw (.int .i32 1))))) a x H1 b → H1.get o = some (.cel m1 c1) → j + 3 ≤ m1 → OnceC c1 j 1 →
    CallS P once [.ptr o j, .fnc (.func h) fs cs] H a (.tup []) (H1.put o (.cel m1 ((c1.put j (.raw (.int .u32 1))).put (j + 1) (.raw (.int .i32 0))))) b
def SumOk (Good : ρ → Prop) (P : Program) (E : Env ρ) : Prop :=
  ∀ f s, E.sum f = some s → ∀ args H a k, Good (s args H a k) → ∃ x H' b, FuncT P f ∧ CallS P f args H a x H' b ∧ Good (k x H' b)
def NatOk (Good : ρ → Prop) (P : Program) (E : Env ρ) : Prop :=
  ∀ f s, E.nat f = some s → ∀ args H a k, Good (s args H a k) → ∃ x H' b, NatS P f args H a x H' b ∧ Good (k x H' b)
theorem isI_cases {q : IntKind} {m : Int} {x : AV} {y z : ρ} (h : Good (isI q m x y z)) : (x = .raw (.int q m) ∧ Good y) ∨ Good z := by
  rcases asInt_cases h with ⟨k, i, rfl, h⟩ | h
  · rcases ifb_cases h with ⟨h1, h⟩ | ⟨_, h⟩
    · rcases ifb_cases h with ⟨h2, h⟩ | ⟨_, h⟩
      · have h1 : k = q := by simpa [sameK] using h1
        have h2 : i = m := by simpa using h2
        exact .inl ⟨by rw [h1, h2], h⟩
      · exact .inr h
    · exact .inr h
  · exact .inr h
theorem onceAt_cases {c : T AV} {j : Nat} {l : Int} {y z : ρ} (h : Good (onceAt c j l y z)) : (OnceC c j l ∧ Good y) ∨ Good z := by
  rcases isI_cases h with ⟨h1, h⟩ | h
  · rcases isI_cases h with ⟨h2, h⟩ | h
    · rcases isI_cases h with ⟨h3, h⟩ | h
      · exact .inl ⟨⟨h1, h2, h3⟩, h⟩
      · exact .inr h
    · exact .inr h
  · exact .inr h
theorem ok_callB {call : CallF ρ} (hE : EnvOk P E) (hS : SumOk Good P E) (hc : CallOk Good P call) (hdr : ∀ n, DrawnOk Good P n E call) (fuel : Nat) (hb : ¬ Good E.bad) : CallOkB Good P (callB E call fuel) := fun f args H a k h => by
  rcases onSome_cases h with ⟨s, hs, h⟩ | ⟨_, h⟩
  · exact hS f s hs args H a k h
  · rcases onSome_cases h with ⟨fn, hfn, h⟩ | ⟨_, h⟩
    · exact ok_body hE hc hdr fuel hb hfn h
    · exact absurd h hb
theorem ok_callO {call : CallF ρ} (hE : EnvOk P E) (hS : SumOk Good P E) (hO : OnceOk P E.once) (hc : CallOk Good P call) (hdr : ∀ n, DrawnOk Good P n E call) (fuel : Nat) (hb : ¬ Good E.bad) : CallOkB Good P (callO E call fuel) := fun f args H a k h => by
  rcases beq_cases h with ⟨hf, h⟩ | h
  rotate_left
  · exact ok_callB hE hS hc hdr fuel hb f args H a k h
  rcases two_cases h with ⟨x, g, hargs, h⟩ | h
  rotate_left
  · exact absurd h hb
  rcases asPtr_cases h with ⟨o, j, hx, h⟩ | h
  rotate_left
  · exact absurd h hb
  rcases asFnc_cases h with ⟨fh, fs, cs, hg, h⟩ | h
  rotate_left
  · exact absurd h hb
  rcases atCel_cases h with ⟨m, c, hH, h⟩ | h
  rotate_left
  · exact absurd h hb
  rcases ble_cases h with ⟨hle, h⟩ | h
  rotate_left
  · exact absurd h hb
  rcases onceAt_cases h with ⟨hC, h⟩ | h
  rotate_left
  · exact absurd h hb
  obtain ⟨r, H1, b, hF, hcs, h⟩ := ok_callB hE hS hc hdr fuel hb _ _ _ _ _ h
  rcases atCel_cases h with ⟨m1, c1, hH1, h⟩ | h
  rotate_left
  · exact absurd h hb
  rcases ble_cases h with ⟨hle1, h⟩ | h
  rotate_left
  · exact absurd h hb
  rcases onceAt_cases h with ⟨hC1, h⟩ | h
  rotate_left
  · exact absurd h hb
  rw [hf, hargs, hx, hg]
  exact ⟨_, _, _, hO.1, hO.2 H o j m c fh fs cs a r H1 b m1 c1 hH hle hC hF hcs hH1 hle1 hC1, h⟩
theorem ok_callN {call : CallF ρ} (hN : NatOk Good P E) (hc : CallOkB Good P call) : CallOk Good P (callN E call) := fun f args H a k h => by
  rcases onSome_cases h with ⟨s, hs, h⟩ | ⟨_, h⟩
  · obtain ⟨x, H', b, h1, h2⟩ := hN f s hs args H a k h
    exact ⟨x, H', b, .inr h1, h2⟩
  · obtain ⟨x, H', b, h1, h2, h3⟩ := hc _ _ _ _ _ h
    exact ⟨x, H', b, .inl ⟨h1, h2⟩, h3⟩
theorem ok_calls (hE : EnvOk P E) (hS : SumOk Good P E) (hN : NatOk Good P E) (hO : OnceOk P E.once) (hdr : ∀ (call : CallF ρ) n, CallOk Good P call → DrawnOk Good P n E call) (fuel : Nat) (hb : ¬ Good E.bad) : ∀ d, CallOk Good P (calls E fuel d)
  | 0 => fun f args H a k h => absurd h hb
  | d + 1 => ok_callN hN (ok_callO hE hS hO (ok_calls hE hS hN hO hdr fuel hb d) (fun n => hdr _ n (ok_calls hE hS hN hO hdr fuel hb d)) fuel hb)
end
end Go.Ex
namespace Go.Ex
open Go Go.Am
section
variable {ρ : Type}
theorem evs_congr {R R' : T AV} : ∀ {l : List Operand}, (∀ x ∈ l, ev x R = ev x R') → evs l R = evs l R'
  | [], _ => rfl
  | x :: l, h => by
    show ev x R :: evs l R = ev x R' :: evs l R'
    rw [h x (by simp), evs_congr fun y hy => h y (by simp [hy])]
theorem flatP_congr {R R' : T AV} {sz : Nat} {z : ρ} : ∀ {ps : List (Nat × Operand)} {i : Nat} {f : Nat → List AV → ρ}, (∀ p ∈ ps, ev p.2 R = ev p.2 R') → flatP R sz ps i f z = flatP R' sz ps i f z
  | [], i, f, _ => rfl
  | p :: ps, i, f, h => by
    show ifb (Nat.beq p.1 i) (ifb (ones (vcells (ev p.2 R))) (ifb (Nat.beq (vcells (ev p.2 R)).length sz) (flatP R sz ps (Nat.succ i) (fun j l => f j (vcells (ev p.2 R) ++ l)) z) z) z) z = ifb (Nat.beq p.1 i) (ifb (ones (vcells (ev p.2 R'))) (ifb (Nat.beq (vcells (ev p.2 R')).length sz) (flatP R' sz ps (Nat.succ i) (fun j l => f j (vcells (ev p.2 R') ++ l)) z) z) z) z
    rw [h p (by simp), flatP_congr fun q hq => h q (by simp [hq])]
theorem fillParts_congr {at_ : Nat → (Nat → Nat → ρ) → ρ} {m : Nat} {z : ρ} {R R' : T AV} : ∀ {ps : List (Nat × Operand)} {xs : List AV} {f : List AV → ρ}, (∀ p ∈ ps, ev p.2 R = ev p.2 R') → fillParts at_ m z R ps xs f = fillParts at_ m z R' ps xs f
  | [], xs, f, _ => rfl
  | p :: ps, xs, f, h => by
    show at_ p.1 (fun k s => ifb (ones (vcells (ev p.2 R))) (ifb (Nat.beq (vcells (ev p.2 R)).length s) (ifb (Nat.ble (k + s) m) (fillParts at_ m z R ps (putAt (vcells (ev p.2 R)) k xs) f) z) z) z) = at_ p.1 (fun k s => ifb (ones (vcells (ev p.2 R'))) (ifb (Nat.beq (vcells (ev p.2 R')).length s) (ifb (Nat.ble (k + s) m) (fillParts at_ m z R' ps (putAt (vcells (ev p.2 R')) k xs) f) z) z) z)
    rw [h p (by simp)]
    congr 1
    funext k s
    rw [fillParts_congr fun q hq => h q (by simp [hq])]
theorem optNat_congr {o : Option Operand} {R R' : T AV} {f : Option Nat → ρ} {z : ρ} (h : ∀ x, o = some x → ev x R = ev x R') : optNat o R f z = optNat o R' f z := by
  cases o with
  | none => rfl
  | some x => show asNat (ev x R) _ _ = asNat (ev x R') _ _; rw [h x rfl]
theorem two_congr {l : List Operand} {f f' : Operand → Operand → ρ} {z : ρ} (h : ∀ x y, x ∈ l → y ∈ l → f x y = f' x y) : two l f z = two l f' z := by
  match l with
  | [] => rfl
  | [x] => rfl
  | [x, y] => exact h x y (by simp) (by simp)
  | x :: y :: w :: r => rfl
theorem just_congr {l : List Operand} {f f' : Operand → ρ} {z : ρ} (h : ∀ x, x ∈ l → f x = f' x) : just l f z = just l f' z := by
  match l with
  | [] => rfl
  | [x] => exact h x (by simp)
  | x :: y :: r => rfl
theorem evalOp_congr {op : Op} {call : CallF ρ} {E : Env ρ} {R R' : T AV} {H : T XO} {a : Nat} {k : K ρ} (h : ∀ x ∈ op.operands.toList, ev x R = ev x R') : evalOp op call E R H a k = evalOp op call E R' H a k := by
  cases op
  case move x => have := h x (by simp [Op.operands]); show oMove x E R H a k = oMove x E R' H a k; simp only [oMove, this]
  case assign x => have := h x (by simp [Op.operands]); show oMove x E R H a k = oMove x E R' H a k; simp only [oMove, this]
  case pick c x y => have h1 := h c (by simp [Op.operands]); have h2 := h x (by simp [Op.operands]); have h3 := h y (by simp [Op.operands]); show oPick c x y E R H a k = oPick c x y E R' H a k; simp only [oPick, h1, h2, h3]
  case alloc t => rfl
  case box t x => have := h x (by simp [Op.operands]); show oBox t x E R H a k = oBox t x E R' H a k; simp only [oBox, this]
  case build t ps =>
    have hp : ∀ p ∈ ps.toList, ev p.2 R = ev p.2 R' := fun p hp => h p.2 (by simp only [Op.operands, List.mem_map]; exact ⟨p, hp, rfl⟩)
    show oBuild t ps E R H a k = oBuild t ps E R' H a k
    unfold oBuild
    congr 1
    funext i
    congr 1
    · funext fs; exact fillParts_congr hp
    · congr 1; funext _ sz _; exact fillParts_congr hp
  case buildSlice t l ps =>
    have hp : ∀ p ∈ ps.toList, ev p.2 R = ev p.2 R' := fun p hp => h p.2 (by simp only [Op.operands, List.mem_map]; exact ⟨p, hp, rfl⟩)
    show oBuildSlice t l ps E R H a k = oBuildSlice t l ps E R' H a k
    unfold oBuildSlice
    congr 1
    funext i
    congr 1
    funext sz _ z
    exact flatP_congr hp
  case load t x => have := h x (by simp [Op.operands]); show oLoad t x E R H a k = oLoad t x E R' H a k; simp only [oLoad, this]
  case store t x v => have h1 := h x (by simp [Op.operands]); have h2 := h v (by simp [Op.operands]); show oStore t x v E R H a k = oStore t x v E R' H a k; simp only [oStore, h1, h2]
  case nilCheck x => have := h x (by simp [Op.operands]); show oNilCheck x E R H a k = oNilCheck x E R' H a k; simp only [oNilCheck, this]
  case fieldAddr t x f => have := h x (by simp [Op.operands]); show oFieldAddr t x f E R H a k = oFieldAddr t x f E R' H a k; simp only [oFieldAddr, this]
  case field t x f => have := h x (by simp [Op.operands]); show oField t x f E R H a k = oField t x f E R' H a k; simp only [oField, this]
  case indexAddr t x y => have h1 := h x (by simp [Op.operands]); have h2 := h y (by simp [Op.operands]); show oIndexAddr t x y E R H a k = oIndexAddr t x y E R' H a k; simp only [oIndexAddr, h1, h2]
  case index t x y => have h1 := h x (by simp [Op.operands]); have h2 := h y (by simp [Op.operands]); show oIndex t x y E R H a k = oIndex t x y E R' H a k; simp only [oIndex, h1, h2]
  case slice t x l h' m =>
    have h1 := h x (by simp [Op.operands])
    have hl : ∀ y, l = some y → ev y R = ev y R' := fun y hy => h y (by simp [Op.operands, hy])
    have hh : ∀ y, h' = some y → ev y R = ev y R' := fun y hy => h y (by simp [Op.operands, hy])
    have hm' : ∀ y, m = some y → ev y R = ev y R' := fun y hy => h y (by simp [Op.operands, hy])
    show oSlice t x l h' m E R H a k = oSlice t x l h' m E R' H a k
    simp only [oSlice, h1, optNat_congr hl, optNat_congr hh, optNat_congr hm']
  case lookup t x y c => have h1 := h x (by simp [Op.operands]); have h2 := h y (by simp [Op.operands]); show oLookup t x y c E R H a k = oLookup t x y c E R' H a k; simp only [oLookup, h1, h2]
  case mapUpdate t x y v => have h1 := h x (by simp [Op.operands]); have h2 := h y (by simp [Op.operands]); have h3 := h v (by simp [Op.operands]); show oMapUpdate t x y v E R H a k = oMapUpdate t x y v E R' H a k; simp only [oMapUpdate, h1, h2, h3]
  case makeMap t r =>
    have hr : ∀ y, r = some y → ev y R = ev y R' := fun y hy => h y (by simp [Op.operands, hy])
    show oMakeMap t r E R H a k = oMakeMap t r E R' H a k
    simp only [oMakeMap, optNat_congr hr]
  case makeSlice t l c => have h1 := h l (by simp [Op.operands]); have h2 := h c (by simp [Op.operands]); show oMakeSlice t l c E R H a k = oMakeSlice t l c E R' H a k; simp only [oMakeSlice, h1, h2]
  case makeFunc f x y =>
    have h1 : evs x.toList R = evs x.toList R' := evs_congr fun z hz => h z (by simp only [Op.operands, Array.toList_append, List.mem_append]; exact .inl hz)
    have h2 : evs y.toList R = evs y.toList R' := evs_congr fun z hz => h z (by simp only [Op.operands, Array.toList_append, List.mem_append]; exact .inr hz)
    show oMakeFunc f x y E R H a k = oMakeFunc f x y E R' H a k
    simp only [oMakeFunc, h1, h2]
  case extract x i => have := h x (by simp [Op.operands]); show oExtract x i E R H a k = oExtract x i E R' H a k; simp only [oExtract, this]
  case unOp b t x => have := h x (by simp [Op.operands]); show oUnOp b t x E R H a k = oUnOp b t x E R' H a k; simp only [oUnOp, this]
  case binOp b t x y t2 => have h1 := h x (by simp [Op.operands]); have h2 := h y (by simp [Op.operands]); show oBinOp b t x y t2 E R H a k = oBinOp b t x y t2 E R' H a k; simp only [oBinOp, h1, h2]
  case convert s t x => have := h x (by simp [Op.operands]); show oConvert s t x E R H a k = oConvert s t x E R' H a k; simp only [oConvert, this]
  case call c =>
    obtain ⟨cl, args, ats⟩ := c
    have ha : ∀ x ∈ args.toList, ev x R = ev x R' := fun x hx => h x (by simp only [Op.operands, Call.operands, Array.toList_append, List.mem_append]; exact .inr hx)
    cases cl
    case value x =>
      have h1 := h x (by simp [Op.operands, Call.operands])
      show callee (.value x) call args.toList ats.toList E R H a k = callee (.value x) call args.toList ats.toList E R' H a k
      simp only [callee, h1, evs_congr ha]
    case invoke x y => rfl
    case builtin b =>
      show builtin b args.toList ats.toList E R H a k = builtin b args.toList ats.toList E R' H a k
      cases b
      case len => exact just_congr fun x hx => by simp only [ha x hx]
      case append => exact two_congr fun x y hx hy => by simp only [ha x hx, ha y hy]
      case min => exact two_congr fun x y hx hy => by simp only [ha x hx, ha y hy]
      case max => exact two_congr fun x y hx hy => by simp only [ha x hx, ha y hy]
      case clear => exact just_congr fun x hx => by simp only [ha x hx]
      case copy => exact two_congr fun x y hx hy => by simp only [ha x hx, ha y hy]
      case cap => exact just_congr fun x hx => by simp only [ha x hx]
      all_goals rfl
  all_goals rfl
end
end Go.Ex
