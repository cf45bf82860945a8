/-
  The executor is right about regions that draw their order, first part.
-/
import Derived.Test.YtaabpahemponkaaGreatDoorDyE
set_option linter.unusedVariables false
set_option linter.unusedSimpArgs false
namespace Go.Ex
open Go Go.Am
noncomputable def cutR (R : T AV) : List Tmp → T AV
  | [] => .nil
  | t :: l => (cutR R l).put t (rg R t)
theorem rg_cutR (R : T AV) : ∀ (l : List Tmp) (i : Nat), rg (cutR R l) i = if i ∈ l then rg R i else .unk
  | [], i => by simp only [cutR, rg_nil, List.not_mem_nil, if_false]
  | t :: l, i => by
    rw [cutR, rg_put, rg_cutR R l i]
    by_cases h : i = t
    · subst h; simp
    · simp [h]
noncomputable def ronly (ops : Array Oper) (o : Oper) (R : T AV) : T AV := cutR R (o.looksAt ops)
theorem ev_ronly {ops : Array Oper} {o : Oper} {R : T AV} {x : Operand} (h : x ∈ o.op.operands.toList) : ev x (ronly ops o R) = ev x R := by
  cases x with
  | tmp t =>
    show rg (ronly ops o R) t = rg R t
    rw [ronly, rg_cutR, if_pos]
    exact List.mem_append_left _ (List.mem_filterMap.2 ⟨.tmp t, h, rfl⟩)
  | _ => rfl
theorem evalOp_ronly {ρ : Type} {ops : Array Oper} {o : Oper} {call : CallF ρ} {E : Env ρ} {R : T AV} {H : T XO} {a : Nat} {k : K ρ} : evalOp o.op call E (ronly ops o R) H a k = evalOp o.op call E R H a k :=
  evalOp_congr fun _ h => ev_ronly h
theorem guarded_ronly {ρ : Type} {ops : Array Oper} {o : Oper} {R : T AV} {y no z : ρ} : guarded o.guard ops.toList (ronly ops o R) y no z = guarded o.guard ops.toList R y no z := by
  cases hg : o.guard with
  | none => rfl
  | some p =>
    show onSome (nth ops.toList p.1) _ z = onSome (nth ops.toList p.1) _ z
    rw [nth_eq, Array.getElem?_toList]
    cases ho : ops[p.1]? with
    | none => rfl
    | some o' =>
      cases hd : o'.dst with
      | none => show onSome o'.dst _ z = onSome o'.dst _ z; rw [hd]; rfl
      | some d =>
        show onSome o'.dst _ z = onSome o'.dst _ z
        rw [hd]
        show yieldB (rg (ronly ops o R) d) p.2 y no z = yieldB (rg R d) p.2 y no z
        rw [ronly, rg_cutR, if_pos]
        unfold Oper.looksAt
        rw [hg]
        obtain ⟨g, w⟩ := p
        simp only at ho
        simp [ho, hd]
theorem minus_get (m : Nat) : ∀ (ps : List Pend) (H : T XO) (p : Nat), (minus m ps H).get p = if ∃ q ∈ ps, hasBit m q.i = false ∧ q.a = p then none else H.get p
  | [], H, p => by simp [minus, listRec]
  | q :: ps, H, p => by
    show (minus m ps (ifb (hasBit m q.i) H (H.del q.a))).get p = _
    rw [minus_get m ps]
    cases hq : hasBit m q.i with
    | true =>
      show (if _ then none else H.get p) = _
      congr 1
      simp [hq]
    | false =>
      show (if _ then none else (H.del q.a).get p) = _
      rw [get_del]
      by_cases h1 : ∃ q ∈ ps, hasBit m q.i = false ∧ q.a = p
      · rw [if_pos h1, if_pos]
        obtain ⟨r, hr, h2⟩ := h1
        exact ⟨r, by simp [hr], h2⟩
      · rw [if_neg h1]
        by_cases h2 : p = q.a
        · rw [if_pos h2, if_pos]
          exact ⟨q, by simp, hq, h2.symm⟩
        · rw [if_neg h2, if_neg]
          rintro ⟨r, hr, h3, h4⟩
          rcases List.mem_cons.1 hr with rfl | hr
          · exact h2 h4.symm
          · exact h1 ⟨r, hr, h3, h4⟩
theorem plus_get_other (m : Nat) (p : Nat) : ∀ (ps : List Pend) (H : T XO), (∀ q ∈ ps, hasBit m q.i = false → q.a ≠ p) → (plus m ps H).get p = H.get p
  | [], H, _ => rfl
  | q :: ps, H, h => by
    show (plus m ps (ifb (hasBit m q.i) H (H.put q.a q.x))).get p = _
    rw [plus_get_other m p ps _ fun r hr => h r (by simp [hr])]
    cases hq : hasBit m q.i with
    | true => rfl
    | false =>
      show (H.put q.a q.x).get p = _
      rw [get_put, if_neg (fun e => h q (by simp) hq e.symm)]
theorem plus_get_self (m : Nat) : ∀ (ps : List Pend) (H : T XO) (q : Pend), (ps.map Pend.a).Nodup → q ∈ ps → hasBit m q.i = false → (plus m ps H).get q.a = some q.x
  | [], H, q, _, h, _ => by cases h
  | r :: ps, H, q, hn, h, hq => by
    show (plus m ps (ifb (hasBit m r.i) H (H.put r.a r.x))).get q.a = _
    rw [List.map_cons, List.nodup_cons] at hn
    rcases List.mem_cons.1 h with rfl | h
    · rw [plus_get_other m q.a ps _ fun s hs _ e => hn.1 (List.mem_map.2 ⟨s, hs, e⟩), hq]
      show (H.put q.a q.x).get q.a = _
      rw [get_put, if_pos rfl]
    · exact plus_get_self m ps _ q hn.2 h hq
def isWr (op : Op) : Bool := opK op false false true
section
variable {ρ : Type}
theorem fillParts_k {at_ : Nat → (Nat → Nat → ρ) → ρ} {m : Nat} {z : ρ} {R : T AV} {f f' : List AV → ρ} (h : ∀ xs, f xs = f' xs) (ps : List (Nat × Operand)) (xs : List AV) : fillParts at_ m z R ps xs f = fillParts at_ m z R ps xs f' := by
  rw [show f = f' from funext h]
theorem flatP_k {R : T AV} {sz : Nat} {z : ρ} {f f' : Nat → List AV → ρ} (h : ∀ i xs, f i xs = f' i xs) (ps : List (Nat × Operand)) (i : Nat) : flatP R sz ps i f z = flatP R sz ps i f' z := by
  rw [show f = f' from funext fun i => funext (h i)]
theorem evalOp_k {op : Op} {call : CallF ρ} {E : Env ρ} {R : T AV} {H : T XO} {a : Nat} {k k' : K ρ} (hw : isWr op = false) (h1 : ∀ x, k x H a = k' x H a) (h2 : ∀ x y, k x (H.put a y) (Nat.succ a) = k' x (H.put a y) (Nat.succ a)) :
    evalOp op call E R H a k = evalOp op call E R H a k' := by
  cases op
  case move x => exact h1 _
  case assign x => exact h1 _
  case pick c x y => show oPick c x y E R H a k = oPick c x y E R H a k'; simp only [oPick, h1]
  case alloc t => show oAlloc t E R H a k = oAlloc t E R H a k'; simp only [oAlloc, h2]
  case box t x => show oBox t x E R H a k = oBox t x E R H a k'; simp only [oBox, h2]
  case build t ps => show oBuild t ps E R H a k = oBuild t ps E R H a k'; simp only [oBuild, h1]
  case buildSlice t l ps => show oBuildSlice t l ps E R H a k = oBuildSlice t l ps E R H a k'; simp only [oBuildSlice, h2]
  case load t x => show oLoad t x E R H a k = oLoad t x E R H a k'; simp only [oLoad, h1]
  case nilCheck x => show oNilCheck x E R H a k = oNilCheck x E R H a k'; simp only [oNilCheck, h1]
  case fieldAddr t x f => show oFieldAddr t x f E R H a k = oFieldAddr t x f E R H a k'; simp only [oFieldAddr, h1]
  case field t x f => show oField t x f E R H a k = oField t x f E R H a k'; simp only [oField, h1]
  case indexAddr t x y => show oIndexAddr t x y E R H a k = oIndexAddr t x y E R H a k'; simp only [oIndexAddr, h1]
  case index t x y => show oIndex t x y E R H a k = oIndex t x y E R H a k'; simp only [oIndex, h1]
  case slice t x l h' m => show oSlice t x l h' m E R H a k = oSlice t x l h' m E R H a k'; simp only [oSlice, h1]
  case lookup t x y c => show oLookup t x y c E R H a k = oLookup t x y c E R H a k'; simp only [oLookup, h1]
  case makeMap t r => show oMakeMap t r E R H a k = oMakeMap t r E R H a k'; simp only [oMakeMap, h2]
  case makeSlice t l c => show oMakeSlice t l c E R H a k = oMakeSlice t l c E R H a k'; simp only [oMakeSlice, h2]
  case makeFunc f x y => exact h1 _
  case extract x i => show oExtract x i E R H a k = oExtract x i E R H a k'; simp only [oExtract, h1]
  case unOp b t x => show oUnOp b t x E R H a k = oUnOp b t x E R H a k'; simp only [oUnOp, h1]
  case binOp b t x y t2 => show oBinOp b t x y t2 E R H a k = oBinOp b t x y t2 E R H a k'; simp only [oBinOp, h1]
  case convert s t x => show oConvert s t x E R H a k = oConvert s t x E R H a k'; simp only [oConvert, h1, h2]
  case store t x v => cases hw
  case mapUpdate t x y v => cases hw
  case call c =>
    obtain ⟨cl, args, ats⟩ := c
    cases cl
    case value x => cases hw
    case invoke x y => cases hw
    case builtin b =>
      show builtin b args.toList ats.toList E R H a k = builtin b args.toList ats.toList E R H a k'
      cases b
      case len => show bLen args.toList ats.toList E R H a k = bLen args.toList ats.toList E R H a k'; simp only [bLen, h1]
      case min => show bMin args.toList ats.toList E R H a k = bMin args.toList ats.toList E R H a k'; simp only [bMin, h1]
      case max => show bMax args.toList ats.toList E R H a k = bMax args.toList ats.toList E R H a k'; simp only [bMax, h1]
      case cap => show bCap args.toList ats.toList E R H a k = bCap args.toList ats.toList E R H a k'; simp only [bCap, h1]
      all_goals cases hw
  all_goals rfl
end
section
variable {ρ : Type} {Good : ρ → Prop} {P : Program} {n : Nat}
variable {E : Env ρ} {o : Oper} (hb : ¬ Good E.bad) (hty : ∀ t i, E.ty.get t = some i → TyOk P t i)
open Classical in
theorem ok_float {ops : Array Oper} {call : CallF ρ} (hc : CallOk Good P call) (hw : isWr o.op = false) {R : T AV} {H : T XO} {a : Nat} {k : K ρ} (hb : ¬ Good E.bad) (hty : ∀ t i, E.ty.get t = some i → TyOk P t i)
    (h : Good (evalOp o.op call E R H a k)) : (∃ x, OpS P n o (ronly ops o R) H a x H a ∧ Good (k x H a)) ∨ (∃ x y, OpS P n o (ronly ops o R) H a x (H.put a y) (a + 1) ∧ Good (k x (H.put a y) (a + 1))) := by
  let k0 : K ρ := fun x H' b => if H' = H ∧ b = a then k x H a else if ∃ y, H' = H.put a y ∧ b = a + 1 then k x H' b else E.bad
  have h1 : ∀ x, k x H a = k0 x H a := fun x => by simp [k0]
  have h2 : ∀ x y, k x (H.put a y) (Nat.succ a) = k0 x (H.put a y) (Nat.succ a) := fun x y => by
    show _ = (if _ ∧ a + 1 = a then _ else if _ then _ else _)
    rw [if_neg (by omega), if_pos ⟨y, rfl, rfl⟩]
  rw [← evalOp_ronly (ops := ops), evalOp_k hw h1 h2] at h
  obtain ⟨x, H', b, ho, hg⟩ := ok_op (n := n) (o := o) hb hty hc _ _ _ _ h
  by_cases c1 : H' = H ∧ b = a
  · obtain ⟨rfl, rfl⟩ := c1
    refine .inl ⟨x, ho, ?_⟩
    have hg : Good (if _ ∧ _ then _ else _) := hg
    rwa [if_pos ⟨rfl, rfl⟩] at hg
  · have hg : Good (if H' = H ∧ b = a then k x H a else if ∃ y, H' = H.put a y ∧ b = a + 1 then k x H' b else E.bad) := hg
    rw [if_neg c1] at hg
    by_cases c2 : ∃ y, H' = H.put a y ∧ b = a + 1
    · rw [if_pos c2] at hg
      obtain ⟨y, rfl, rfl⟩ := c2
      exact .inr ⟨x, y, ho, hg⟩
    · rw [if_neg c2] at hg
      exact absurd hg hb
end
section
variable {ρ : Type} {Good : ρ → Prop}
theorem eqN_cases {a b : Nat} {y z : ρ} (h : Good (eqN a b y z)) : (a = b ∧ Good y) ∨ Good z := beq_cases h
theorem eq0_cases {x x' : AV} {y z : ρ} (h : Good (eq0 x x' y z)) : (x = x' ∧ Good y) ∨ Good z := by
  rcases asInt_cases h with ⟨k, m, hx, h⟩ | h
  · rcases asInt_cases h with ⟨k', m', hx', h⟩ | h
    · rcases ifb_cases h with ⟨h1, h⟩ | ⟨_, h⟩
      · rcases ifb_cases h with ⟨h2, h⟩ | ⟨_, h⟩
        · have h1 : k = k' := by simpa [sameK] using h1
          have h2 : m = m' := by simpa using h2
          exact .inl ⟨by rw [hx, hx', h1, h2], h⟩
        · exact .inr h
      · exact .inr h
    · exact .inr h
  rcases asPtr_cases h with ⟨o, j, hx, h⟩ | h
  · rcases asPtr_cases h with ⟨o', j', hx', h⟩ | h
    · rcases eqN_cases h with ⟨e1, h⟩ | h
      · rcases eqN_cases h with ⟨e2, h⟩ | h
        · exact .inl ⟨by subst_vars; rfl, h⟩
        · exact .inr h
      · exact .inr h
    · exact .inr h
  rcases asStr_cases h with ⟨b, hx, h⟩ | h
  · rcases asStr_cases h with ⟨b', hx', h⟩ | h
    · rcases ifb_cases h with ⟨h1, h⟩ | ⟨_, h⟩
      · rw [strEq_spec] at h1
        exact .inl ⟨by rw [hx, hx', of_decide_eq_true h1], h⟩
      · exact .inr h
    · exact .inr h
  rcases asVwn_cases h with ⟨o, s, j, l, hx, h⟩ | h
  · rcases asVwn_cases h with ⟨o', s', j', l', hx', h⟩ | h
    · rcases eqN_cases h with ⟨e3, h⟩ | h
      · rcases eqN_cases h with ⟨e4, h⟩ | h
        · rcases eqN_cases h with ⟨e5, h⟩ | h
          · rcases eqN_cases h with ⟨e6, h⟩ | h
            · exact .inl ⟨by subst_vars; rfl, h⟩
            · exact .inr h
          · exact .inr h
        · exact .inr h
      · exact .inr h
    · exact .inr h
  rcases asBool_cases h with ⟨b, hx, h⟩ | h
  · rcases asBool_cases h with ⟨b', hx', h⟩ | h
    · rcases ifb_cases h with ⟨h1, h⟩ | ⟨_, h⟩
      · have : b = b' := by revert h1; cases b <;> cases b' <;> decide
        exact .inl ⟨by rw [hx, hx', this], h⟩
      · exact .inr h
    · exact .inr h
  rcases asMp_cases h with ⟨o, hx, h⟩ | h
  · rcases asMp_cases h with ⟨o', hx', h⟩ | h
    · rcases eqN_cases h with ⟨e7, h⟩ | h
      · exact .inl ⟨by subst_vars; rfl, h⟩
      · exact .inr h
    · exact .inr h
  rcases asEmp_cases h with ⟨hx, h⟩ | h
  · rcases asEmp_cases h with ⟨hx', h⟩ | h
    · exact .inl ⟨by subst_vars; rfl, h⟩
    · exact .inr h
  rcases asNilS_cases h with ⟨hx, h⟩ | h
  · rcases asNilS_cases h with ⟨hx', h⟩ | h
    · exact .inl ⟨by subst_vars; rfl, h⟩
    · exact .inr h
  rcases asNilM_cases h with ⟨hx, h⟩ | h
  · rcases asNilM_cases h with ⟨hx', h⟩ | h
    · exact .inl ⟨by subst_vars; rfl, h⟩
    · exact .inr h
  rcases asNilI_cases h with ⟨hx, h⟩ | h
  · rcases asNilI_cases h with ⟨hx', h⟩ | h
    · exact .inl ⟨by subst_vars; rfl, h⟩
    · exact .inr h
  rcases asNilP_cases h with ⟨hx, h⟩ | h
  · rcases asNilP_cases h with ⟨hx', h⟩ | h
    · exact .inl ⟨by subst_vars; rfl, h⟩
    · exact .inr h
  · exact .inr h
theorem eq0s_cases {y z : ρ} : ∀ {xs xs' : List AV}, Good (eq0s xs xs' y z) → (xs = xs' ∧ Good y) ∨ Good z
  | [], xs', h => by
    rcases listOn_cases (l := xs') (z := y) (s := fun _ _ => z) h with ⟨e, h⟩ | ⟨_, _, _, h⟩
    · exact .inl ⟨e.symm, h⟩
    · exact .inr h
  | x :: xs, xs', h => by
    rcases listOn_cases (l := xs') (z := z) (s := fun x' l => eq0 x x' (eq0s xs l y z) z) h with ⟨_, h⟩ | ⟨x', l, e, h⟩
    · exact .inr h
    · rcases eq0_cases h with ⟨e1, h⟩ | h
      · rcases eq0s_cases h with ⟨e2, h⟩ | h
        · exact .inl ⟨by rw [e, e1, e2], h⟩
        · exact .inr h
      · exact .inr h
theorem eq1_cases {x x' : AV} {y z : ρ} (h : Good (eq1 x x' y z)) : (x = x' ∧ Good y) ∨ Good z := by
  rcases asSls_cases h with ⟨m, xs, hx, h⟩ | h
  · rcases asSls_cases h with ⟨m', xs', hx', h⟩ | h
    · rcases eqN_cases h with ⟨e1, h⟩ | h
      · rcases eq0s_cases h with ⟨e2, h⟩ | h
        · exact .inl ⟨by rw [hx, hx', e1, e2], h⟩
        · exact .inr h
      · exact .inr h
    · exact .inr h
  rcases asSlsx_cases h with ⟨m, xs, hx, h⟩ | h
  · rcases asSlsx_cases h with ⟨m', xs', hx', h⟩ | h
    · rcases eqN_cases h with ⟨e1, h⟩ | h
      · rcases eq0s_cases h with ⟨e2, h⟩ | h
        · exact .inl ⟨by rw [hx, hx', e1, e2], h⟩
        · exact .inr h
      · exact .inr h
    · exact .inr h
  rcases asAgg_cases h with ⟨xs, hx, h⟩ | h
  · rcases asAgg_cases h with ⟨xs', hx', h⟩ | h
    · rcases eq0s_cases h with ⟨e2, h⟩ | h
      · exact .inl ⟨by rw [hx, hx', e2], h⟩
      · exact .inr h
    · exact .inr h
  rcases asFnc_cases h with ⟨f, u, v, hx, h⟩ | h
  · rcases asFnc_cases h with ⟨f', u', v', hx', h⟩ | h
    · rcases eqN_cases h with ⟨e1, h⟩ | h
      · rcases eq0s_cases h with ⟨e2, h⟩ | h
        · rcases eq0s_cases h with ⟨e3, h⟩ | h
          · exact .inl ⟨by rw [hx, hx', e1, e2, e3], h⟩
          · exact .inr h
        · exact .inr h
      · exact .inr h
    · exact .inr h
  exact eq0_cases h
theorem eq1s_cases {y z : ρ} : ∀ {xs xs' : List AV}, Good (eq1s xs xs' y z) → (xs = xs' ∧ Good y) ∨ Good z
  | [], xs', h => by
    rcases listOn_cases (l := xs') (z := y) (s := fun _ _ => z) h with ⟨e, h⟩ | ⟨_, _, _, h⟩
    · exact .inl ⟨e.symm, h⟩
    · exact .inr h
  | x :: xs, xs', h => by
    rcases listOn_cases (l := xs') (z := z) (s := fun x' l => eq1 x x' (eq1s xs l y z) z) h with ⟨_, h⟩ | ⟨x', l, e, h⟩
    · exact .inr h
    · rcases eq1_cases h with ⟨e1, h⟩ | h
      · rcases eq1s_cases h with ⟨e2, h⟩ | h
        · exact .inl ⟨by rw [e, e1, e2], h⟩
        · exact .inr h
      · exact .inr h
theorem eqA_cases {x x' : AV} {y z : ρ} (h : Good (eqA x x' y z)) : (x = x' ∧ Good y) ∨ Good z := by
  rcases asAgg_cases h with ⟨xs, hx, h⟩ | h
  · rcases asAgg_cases h with ⟨xs', hx', h⟩ | h
    · rcases eq1s_cases h with ⟨e2, h⟩ | h
      · exact .inl ⟨by rw [hx, hx', e2], h⟩
      · exact .inr h
    · exact .inr h
  rcases asTup_cases h with ⟨xs, hx, h⟩ | h
  · rcases asTup_cases h with ⟨xs', hx', h⟩ | h
    · rcases eq1s_cases h with ⟨e2, h⟩ | h
      · exact .inl ⟨by rw [hx, hx', e2], h⟩
      · exact .inr h
    · exact .inr h
  exact eq1_cases h
end
end Go.Ex
namespace Go.Ex
open Go Go.Am
theorem hasBit_eq (m i : Nat) : hasBit m i = m.testBit i := by
  unfold hasBit Nat.testBit
  rw [show (Nat.land (Nat.shiftRight m i) 1) = (1 &&& (m >>> i)) from Nat.and_comm _ _]
  have h : (1 &&& (m >>> i)) = (m >>> i) % 2 := by rw [Nat.and_comm]; exact Nat.and_one_is_mod _
  rw [h]
  rcases Nat.mod_two_eq_zero_or_one (m >>> i) with h | h <;> rw [h] <;> rfl
theorem hasBit_or (m i j : Nat) : hasBit (orBit m i) j = (hasBit m j || decide (i = j)) := by
  rw [hasBit_eq, hasBit_eq]
  unfold orBit
  rw [show Nat.lor m (Nat.shiftLeft 1 i) = m ||| (1 <<< i) from rfl, Nat.testBit_or, Nat.one_shiftLeft, Nat.testBit_two_pow]
theorem hasBit_lor (m k j : Nat) : hasBit (Nat.lor m k) j = (hasBit m j || hasBit k j) := by
  rw [hasBit_eq, hasBit_eq, hasBit_eq, show Nat.lor m k = m ||| k from rfl, Nat.testBit_or]
theorem hasBit_zero (j : Nat) : hasBit 0 j = false := by rw [hasBit_eq]; simp
theorem bindsG_eq (e : Edge) : bindsG e.ground = Region.binds .any e := by
  unfold bindsG Region.binds
  cases e.ground <;> rfl
theorem ancOf_bit (M : T Nat) (j : Nat) : ∀ es : List Edge, hasBit (ancOf M es) j = true ↔ ∃ e ∈ es, Region.binds .any e = true ∧ (e.on = j ∨ hasBit (onSome (M.get e.on) id 0) j = true)
  | [] => by
    show hasBit 0 j = true ↔ _
    simp [hasBit_zero]
  | e :: es => by
    show hasBit (ifb (bindsG e.ground) (orBit (Nat.lor (ancOf M es) (onSome (M.get e.on) id 0)) e.on) (ancOf M es)) j = true ↔ _
    have ih := ancOf_bit M j es
    rw [bindsG_eq]
    cases hb : Region.binds .any e with
    | true =>
      show hasBit (orBit (Nat.lor (ancOf M es) (onSome (M.get e.on) id 0)) e.on) j = true ↔ _
      rw [hasBit_or, hasBit_lor]
      simp only [Bool.or_eq_true, decide_eq_true_eq, List.mem_cons]
      constructor
      · rintro ((h | h) | h)
        · obtain ⟨e', h1, h2⟩ := ih.1 h
          exact ⟨e', .inr h1, h2⟩
        · exact ⟨e, .inl rfl, hb, .inr h⟩
        · exact ⟨e, .inl rfl, hb, .inl h⟩
      · rintro ⟨e', rfl | h1, h2, h3⟩
        · rcases h3 with h3 | h3
          · exact .inr h3
          · exact .inl (.inr h3)
        · exact .inl (.inl (ih.2 ⟨e', h1, h2, h3⟩))
    | false =>
      show hasBit (ancOf M es) j = true ↔ _
      rw [ih]
      constructor
      · rintro ⟨e', h1, h2⟩
        exact ⟨e', List.mem_cons_of_mem _ h1, h2⟩
      · rintro ⟨e', h1, h2, h3⟩
        rcases List.mem_cons.1 h1 with rfl | h1
        · rw [hb] at h2; cases h2
        · exact ⟨e', h1, h2, h3⟩
section
variable {ρ : Type}
def isPure (op : Op) : Bool := opK op true false false
theorem evalOp_pure {op : Op} {call : CallF ρ} {E : Env ρ} {R : T AV} {H : T XO} {a : Nat} {k : K ρ} (hw : isPure op = true) : evalOp op call E R H a k = evalOp op call E R .nil 0 (fun x _ _ => k x H a) := by
  cases op
  case load t x => cases hw
  case lookup t x y c => cases hw
  case slice t x l h m => cases hw
  case alloc t => cases hw
  case box t x => cases hw
  case buildSlice t l ps => cases hw
  case makeSlice t l c => cases hw
  case makeMap t r => cases hw
  case convert s t x => cases hw
  case store t x v => cases hw
  case mapUpdate t x y v => cases hw
  case call c =>
    obtain ⟨cl, args, ats⟩ := c
    cases cl
    case value x => cases hw
    case invoke x y => cases hw
    case builtin b =>
      cases b
      case len => rfl
      case min => rfl
      case max => rfl
      case cap => rfl
      all_goals cases hw
  all_goals rfl
theorem evalOp_kp {op : Op} {call : CallF ρ} {E : Env ρ} {R : T AV} {H : T XO} {a : Nat} {k k' : K ρ} (hw : isPure op = true) (h1 : ∀ x, k x H a = k' x H a) :
    evalOp op call E R H a k = evalOp op call E R H a k' := by
  cases op
  case move x => exact h1 _
  case assign x => exact h1 _
  case pick c x y => show oPick c x y E R H a k = oPick c x y E R H a k'; simp only [oPick, h1]
  case alloc t => cases hw
  case box t x => cases hw
  case build t ps => show oBuild t ps E R H a k = oBuild t ps E R H a k'; simp only [oBuild, h1]
  case buildSlice t l ps => cases hw
  case load t x => cases hw
  case nilCheck x => show oNilCheck x E R H a k = oNilCheck x E R H a k'; simp only [oNilCheck, h1]
  case fieldAddr t x f => show oFieldAddr t x f E R H a k = oFieldAddr t x f E R H a k'; simp only [oFieldAddr, h1]
  case field t x f => show oField t x f E R H a k = oField t x f E R H a k'; simp only [oField, h1]
  case indexAddr t x y => show oIndexAddr t x y E R H a k = oIndexAddr t x y E R H a k'; simp only [oIndexAddr, h1]
  case index t x y => show oIndex t x y E R H a k = oIndex t x y E R H a k'; simp only [oIndex, h1]
  case slice t x l h' m => cases hw
  case lookup t x y c => cases hw
  case makeMap t r => cases hw
  case makeSlice t l c => cases hw
  case makeFunc f x y => exact h1 _
  case extract x i => show oExtract x i E R H a k = oExtract x i E R H a k'; simp only [oExtract, h1]
  case unOp b t x => show oUnOp b t x E R H a k = oUnOp b t x E R H a k'; simp only [oUnOp, h1]
  case binOp b t x y t2 => show oBinOp b t x y t2 E R H a k = oBinOp b t x y t2 E R H a k'; simp only [oBinOp, h1]
  case convert s t x => cases hw
  case store t x v => cases hw
  case mapUpdate t x y v => cases hw
  case call c =>
    obtain ⟨cl, args, ats⟩ := c
    cases cl
    case value x => cases hw
    case invoke x y => cases hw
    case builtin b =>
      show builtin b args.toList ats.toList E R H a k = builtin b args.toList ats.toList E R H a k'
      cases b
      case len => show bLen args.toList ats.toList E R H a k = bLen args.toList ats.toList E R H a k'; simp only [bLen, h1]
      case min => show bMin args.toList ats.toList E R H a k = bMin args.toList ats.toList E R H a k'; simp only [bMin, h1]
      case max => show bMax args.toList ats.toList E R H a k = bMax args.toList ats.toList E R H a k'; simp only [bMax, h1]
      case cap => show bCap args.toList ats.toList E R H a k = bCap args.toList ats.toList E R H a k'; simp only [bCap, h1]
      all_goals cases hw
  all_goals rfl
end
section
variable {ρ : Type} {Good : ρ → Prop} {P : Program} {n : Nat}
variable {E : Env ρ} {o : Oper}
open Classical in
theorem ok_pure {ops : Array Oper} {call : CallF ρ} (hc : CallOk Good P call) (hw : isPure o.op = true) {R : T AV} {H : T XO} {a : Nat} {k : K ρ} (hb : ¬ Good E.bad) (hty : ∀ t i, E.ty.get t = some i → TyOk P t i)
    (h : Good (evalOp o.op call E R H a k)) : ∃ x, (∀ H a, OpS P n o (ronly ops o R) H a x H a) ∧ Good (k x H a) := by
  rw [← evalOp_ronly (ops := ops), evalOp_pure hw] at h
  let k0 : K ρ := fun x H' b => if H' = .nil ∧ b = 0 then k x H a else E.bad
  have h1 : ∀ x, (fun x _ _ => k x H a : K ρ) x .nil 0 = k0 x .nil 0 := fun x => by simp [k0]
  rw [evalOp_kp hw h1] at h
  obtain ⟨x, H', b, ho, hg⟩ := ok_op (n := n) (o := o) hb hty hc _ _ _ _ h
  have hg2 : Good (if H' = .nil ∧ b = 0 then k x H a else E.bad) := hg
  by_cases c1 : H' = .nil ∧ b = 0
  · rw [if_pos c1] at hg2
    obtain ⟨rfl, rfl⟩ := c1
    refine ⟨x, fun H2 a2 => ⟨Nat.le_refl a2, .refl H2 a2 a2, fun F g act w hd hp hf Kc Q hQ => ?_⟩, hg2⟩
    have hnil : ∀ F, join (hof .nil) F = F := fun F => rfl
    refine ho.2.2 (join (hof H2) F) g act w ⟨fun p x hx => (by have : (none : Option AO) = some x := hx; cases this), fun p h1 h2 => absurd h2 (by omega), fun p h1 h2 => absurd h2 (by omega)⟩ (by rw [hnil]; exact hp) (fun p h1 h2 => by omega) Kc Q fun v w' g' he hr hs => ?_
    exact hQ v w' g' ⟨he.le, fun p _ => he.out p (.inr (Nat.zero_le p))⟩ hr (by rw [hnil] at hs; exact hs)
  · rw [if_neg c1] at hg2
    exact absurd hg2 hb
end
end Go.Ex
namespace Go.Ex
open Go Go.Am
def isRd (op : Op) : Bool := opK op false true false
section
variable {ρ : Type}
theorem evalOp_rl {op : Op} {call : CallF ρ} {E : Env ρ} (hw : isRd op = true) :
    (∀ (k k' : K ρ) (R : T AV) (H H' : T XO) (a : Nat), (∀ x y, k x (H.put a y) (Nat.succ a) = k' x (H'.put a y) (Nat.succ a)) → evalOp op call E R H a k = evalOp op call E R H' a k') ∨
    (∀ (k k' : K ρ) (R : T AV) (H : T XO) (a : Nat), (∀ x, k x H a = k' x H a) → evalOp op call E R H a k = evalOp op call E R H a k') := by
  cases op
  case load t x => exact .inr fun k k' R H a h1 => by show oLoad t x E R H a k = oLoad t x E R H a k'; simp only [oLoad, h1]
  case lookup t x y c => exact .inr fun k k' R H a h1 => by show oLookup t x y c E R H a k = oLookup t x y c E R H a k'; simp only [oLookup, h1]
  case slice t x l h' m => exact .inr fun k k' R H a h1 => by show oSlice t x l h' m E R H a k = oSlice t x l h' m E R H a k'; simp only [oSlice, h1]
  case alloc t => exact .inl fun k k' R H H' a h2 => by show oAlloc t E R H a k = oAlloc t E R H' a k'; simp only [oAlloc, h2]
  case box t x => exact .inl fun k k' R H H' a h2 => by show oBox t x E R H a k = oBox t x E R H' a k'; simp only [oBox, h2]
  case buildSlice t l ps => exact .inl fun k k' R H H' a h2 => by show oBuildSlice t l ps E R H a k = oBuildSlice t l ps E R H' a k'; simp only [oBuildSlice, h2]
  case makeMap t r => exact .inl fun k k' R H H' a h2 => by show oMakeMap t r E R H a k = oMakeMap t r E R H' a k'; simp only [oMakeMap, h2]
  case makeSlice t l c => exact .inl fun k k' R H H' a h2 => by show oMakeSlice t l c E R H a k = oMakeSlice t l c E R H' a k'; simp only [oMakeSlice, h2]
  case convert s t x =>
    rcases Option.eq_none_or_eq_some (E.ty.get t) with ht | ⟨j, ht⟩
    · exact .inr fun k k' R H a h1 => by
        show oConvert s t x E R H a k = oConvert s t x E R H a k'
        simp only [oConvert, tyOf, ht]; rfl
    · obtain ⟨a1, a2, a3, d, a5⟩ := j
      cases d
      case slice => exact .inl fun k k' R H H' a h2 => (by show oConvert s t x E R H a k = oConvert s t x E R H' a k'; simp only [oConvert, tyOf, ht, onSome, tyInt, tyStr, tySlice, h2])
      all_goals exact .inr fun k k' R H a h1 => (by show oConvert s t x E R H a k = oConvert s t x E R H a k'; simp only [oConvert, tyOf, ht, onSome, tyInt, tyStr, tySlice, h1])
  case call c =>
    obtain ⟨cl, args, ats⟩ := c
    cases cl
    case value x => cases hw
    case invoke x y => cases hw
    case builtin b => cases b <;> cases hw
  all_goals cases hw
theorem isWr_rd {op : Op} (h : isRd op = true) : isWr op = false := by
  cases op
  case call c =>
    obtain ⟨cl, args, ats⟩ := c
    cases cl
    case builtin b => cases b <;> cases h
    all_goals cases h
  all_goals first | rfl | cases h
theorem opK_cases {op : Op} {x y z : ρ} : (isPure op = true ∧ opK op x y z = x) ∨ (isRd op = true ∧ opK op x y z = y) ∨ opK op x y z = z := by
  cases op
  case call c =>
    obtain ⟨cl, args, ats⟩ := c
    cases cl
    case builtin b => cases b <;> first | exact .inl ⟨rfl, rfl⟩ | exact .inr (.inr rfl)
    all_goals exact .inr (.inr rfl)
  all_goals first | exact .inl ⟨rfl, rfl⟩ | exact .inr (.inl ⟨rfl, rfl⟩) | exact .inr (.inr rfl)
end
section
variable {ρ : Type} {Good : ρ → Prop} {P : Program} {n : Nat}
variable {E : Env ρ} {o : Oper}
open Classical in
theorem ok_rl {ops : Array Oper} {call : CallF ρ} (hc : CallOk Good P call) (hw : isRd o.op = true) {R : T AV} {H : T XO} {a : Nat} {k : K ρ} (hb : ¬ Good E.bad) (hty : ∀ t i, E.ty.get t = some i → TyOk P t i)
    (h : Good (evalOp o.op call E R H a k)) : (∃ x, OpS P n o (ronly ops o R) H a x H a ∧ Good (k x H a)) ∨ (∃ x y, (∀ H', OpS P n o (ronly ops o R) H' a x (H'.put a y) (a + 1)) ∧ Good (k x (H.put a y) (a + 1))) := by
  rcases evalOp_rl (ρ := ρ) (call := call) (E := E) hw with he | he
  · right
    let k0 : K ρ := fun x H' b => onSome (H'.get a) (fun y => if H' = T.nil.put a y ∧ b = a + 1 then k x (H.put a y) (a + 1) else E.bad) E.bad
    have h2 : ∀ x y, k x (H.put a y) (Nat.succ a) = k0 x (T.nil.put a y) (Nat.succ a) := fun x y => by
      show _ = onSome ((T.nil.put a y).get a) _ _
      rw [get_put, if_pos rfl]
      show _ = if _ ∧ a + 1 = a + 1 then _ else _
      rw [if_pos ⟨rfl, rfl⟩]
    rw [← evalOp_ronly (ops := ops), he k k0 _ H .nil a h2] at h
    obtain ⟨x, H', b, ho, hg⟩ := ok_op (n := n) (o := o) hb hty hc _ _ _ _ h
    rcases onSome_cases (f := fun y => if H' = T.nil.put a y ∧ b = a + 1 then k x (H.put a y) (a + 1) else E.bad) (z := E.bad) hg with ⟨y, hy, hg2⟩ | ⟨_, hg2⟩
    rotate_left
    · exact absurd hg2 hb
    by_cases c : H' = T.nil.put a y ∧ b = a + 1
    · rw [if_pos c] at hg2
      obtain ⟨rfl, rfl⟩ := c
      refine ⟨x, y, fun H2 => ⟨by omega, fun p hp => ?_, fun F g act w hd hp hf Kc Q hQ => ?_⟩, hg2⟩
      · rw [hof_put] at hp
        simp only [AHeap.set] at hp
        by_cases h : p = a
        · exact .inr (by omega)
        · rw [if_neg h] at hp; exact .inl hp
      · have hnil : ∀ F, join (hof .nil) F = F := fun F => rfl
        refine ho.2.2 (join (hof H2) F) g act w ⟨fun p x hx => (by have : (none : Option AO) = some x := hx; cases this), fun p h1 h2 => ?_, fun p h1 h2 => rfl⟩ (by rw [hnil]; exact hp) hf Kc Q fun v w' g' he hr hs => ?_
        · simp only [join, hd.n p h1 h2]; exact hd.f p h1 h2
        · refine hQ v w' g' he hr ?_
          have e : join (hof (T.nil.put a y)) (join (hof H2) F) = join (hof (H2.put a y)) F := by
            rw [hof_put, hof_put, ← join_set, ← join_set, hnil]
          rw [← e]; exact hs
    · rw [if_neg c] at hg2
      exact absurd hg2 hb
  · left
    let k0 : K ρ := fun x H' b => if H' = H ∧ b = a then k x H a else E.bad
    have h1 : ∀ x, k x H a = k0 x H a := fun x => by simp [k0]
    rw [← evalOp_ronly (ops := ops), he k k0 _ H a h1] at h
    obtain ⟨x, H', b, ho, hg⟩ := ok_op (n := n) (o := o) hb hty hc _ _ _ _ h
    have hg : Good (if H' = H ∧ b = a then k x H a else E.bad) := hg
    by_cases c : H' = H ∧ b = a
    · rw [if_pos c] at hg
      obtain ⟨rfl, rfl⟩ := c
      exact ⟨x, ho, hg⟩
    · rw [if_neg c] at hg
      exact absurd hg hb
theorem reread_ok {ops : Array Oper} {call : CallF ρ} (hc : CallOk Good P call) (hw : isRd o.op = true) {R : T AV} {H : T XO} {a m : Nat} {x : AV} {ps : List Pend} {y : ρ} (hb : ¬ Good E.bad) (hty : ∀ t i, E.ty.get t = some i → TyOk P t i)
    (h : Good (reread o E call R a m x ps H y)) : OpS P n o (ronly ops o R) (minus m ps H) a x (minus m ps H) a ∧ Good y := by
  rcases ok_rl (n := n) (ops := ops) hc hw hb hty h with ⟨x', ho, h⟩ | ⟨x', y', ho, h⟩
  · rcases ifb_cases (x := eqA x x' y (fail "drawn: read" E.bad)) (y := fail "drawn: read lays" E.bad) h with ⟨_, h⟩ | ⟨_, h⟩
    · rcases eqA_cases h with ⟨e, h9⟩ | h9
      · rw [← e] at ho; exact ⟨ho, h9⟩
      · exact absurd h9 hb
    · exact absurd h hb
  · rcases ifb_cases (x := eqA x x' y (fail "drawn: read" E.bad)) (y := fail "drawn: read lays" E.bad) h with ⟨h1, h⟩ | ⟨_, h⟩
    · have := Nat.eq_of_beq_eq_true h1
      omega
    · exact absurd h hb
theorem before_ok {m : Nat} {f : T XO → ρ → ρ} {y : ρ} (hf : ∀ h y, Good (f h y) → Good y) : ∀ {ws : List Was}, Good (before m ws f y) → (∀ w ∈ ws, hasBit m w.i = false → ∃ y', Good (f w.h y')) ∧ Good y
  | [], h => ⟨fun w hw => (by cases hw), h⟩
  | w :: ws, h => by
    rcases ifb_cases (x := before m ws f y) (y := f w.h (before m ws f y)) h with ⟨h1, h⟩ | ⟨h1, h⟩
    · obtain ⟨k1, k2⟩ := before_ok hf h
      refine ⟨fun v hv h2 => ?_, k2⟩
      rcases List.mem_cons.1 hv with rfl | hv
      · rw [h1] at h2; cases h2
      · exact k1 v hv h2
    · obtain ⟨k1, k2⟩ := before_ok hf (hf _ _ h)
      refine ⟨fun v hv h2 => ?_, k2⟩
      rcases List.mem_cons.1 hv with rfl | hv
      · exact ⟨_, h⟩
      · exact k1 v hv h2
theorem again_ok {m : Nat} {ps : List Pend} {H : T XO} {y : ρ} : ∀ {rs : List (Red ρ)}, (∀ r ∈ rs, ∀ ps H y, Good (r.f ps H y) → Good y) → Good (again m ps H rs y) → (∀ r ∈ rs, hasBit m r.i = false → ∃ y', Good (r.f ps H y')) ∧ Good y
  | [], _, h => ⟨fun w hw => (by cases hw), h⟩
  | w :: ws, hf, h => by
    rcases ifb_cases (x := again m ps H ws y) (y := w.f ps H (again m ps H ws y)) h with ⟨h1, h⟩ | ⟨h1, h⟩
    · obtain ⟨k1, k2⟩ := again_ok (fun r hr => hf r (by simp [hr])) h
      refine ⟨fun v hv h2 => ?_, k2⟩
      rcases List.mem_cons.1 hv with rfl | hv
      · rw [h1] at h2; cases h2
      · exact k1 v hv h2
    · obtain ⟨k1, k2⟩ := again_ok (fun r hr => hf r (by simp [hr])) (hf w (by simp) _ _ _ h)
      refine ⟨fun v hv h2 => ?_, k2⟩
      rcases List.mem_cons.1 hv with rfl | hv
      · exact ⟨_, h⟩
      · exact k1 v hv h2
theorem allW_ok {m : Nat} {y z : ρ} (hz : ¬ Good z) : ∀ {ws : List Was}, Good (allW m ws y z) → (∀ w ∈ ws, hasBit m w.i = true) ∧ Good y
  | [], h => ⟨fun w hw => (by cases hw), h⟩
  | w :: ws, h => by
    rcases ifb_cases (x := allW m ws y z) (y := z) h with ⟨h1, h⟩ | ⟨h1, h⟩
    · obtain ⟨k1, k2⟩ := allW_ok hz h
      refine ⟨fun v hv => ?_, k2⟩
      rcases List.mem_cons.1 hv with rfl | hv
      · exact h1
      · exact k1 v hv
    · exact absurd h hz
end
end Go.Ex
namespace Go.Ex
open Go Go.Am
inductive Kd where
  | skip
  | flo
  | rd
  | lay (y : XO)
  | wr (H' : T XO)
structure Rc where
  R : T AV
  H : T XO
  a : Nat
  ps : List Pend
  m : Nat
  x : AV
  kd : Kd
section
variable (P : Program) (n : Nat) (ops : Array Oper)
def Wn (o : Oper) (R : T AV) (b : Bool) : Prop := ∀ H g act w, XPre n (ronly ops o R) H g act w → Region.wanted o (yielded ops act.tmps) = b
def KdOk (i : Nat) (o : Oper) (c c' : Rc) : Kd → Prop
  | .skip => Wn n ops o c.R false ∧ c.x = undefV ∧ c'.H = c.H ∧ c'.a = c.a ∧ c'.ps = c.ps
  | .flo => Wn n ops o c.R true ∧ (∀ H a, OpS P n o (ronly ops o c.R) H a c.x H a) ∧ c'.H = c.H ∧ c'.a = c.a ∧ c'.ps = c.ps
  | .rd => Wn n ops o c.R true ∧ OpS P n o (ronly ops o c.R) (minus c.m c.ps c.H) c.a c.x (minus c.m c.ps c.H) c.a ∧ c'.H = c.H ∧ c'.a = c.a ∧ c'.ps = c.ps
  | .lay y => Wn n ops o c.R true ∧ (∀ H, OpS P n o (ronly ops o c.R) H c.a c.x (H.put c.a y) (c.a + 1)) ∧ c'.H = c.H.put c.a y ∧ c'.a = c.a + 1 ∧ c'.ps = ⟨i, c.a, y⟩ :: c.ps
  | .wr H' => Wn n ops o c.R true ∧ OpS P n o (ronly ops o c.R) (minus c.m c.ps c.H) c.a c.x H' c'.a ∧ c'.H = plus c.m c.ps H' ∧ c'.ps = c.ps
def RD (j : Nat) (c : Rc) (K : T XO) : Prop := ∀ o, ops[j]? = some o → OpS P n o (ronly ops o c.R) K c.a c.x K c.a
structure Run {ρ : Type} (Good : ρ → Prop) (i : Nat) (d : Dr ρ) (S : Nat → Rc) : Prop where
  step : ∀ j o, i ≤ j → ops[j]? = some o → (S (j + 1)).R = putR (S j).R o.dst (S j).x ∧ KdOk P n ops j o (S j) (S (j + 1)) (S j).kd
  mask : ∀ j o, i ≤ j → ops[j]? = some o → ∃ M : T Nat, (S j).m = ancOf M o.after.toList ∧ (∀ e, i ≤ e → e < j → M.get e = some (S e).m) ∧ (∀ e, e < i → M.get e = d.M.get e)
  ww : ∀ j w H1 H2, i ≤ w → w < j → j < ops.size → (S w).kd = .wr H1 → (S j).kd = .wr H2 → hasBit (S j).m w = true
  rb : ∀ j w H1, i ≤ w → w < j → j < ops.size → (S j).kd = .rd → (S w).kd = .wr H1 → hasBit (S j).m w = false → RD P n ops j (S j) (minus (S j).m (S j).ps (S w).H)
  ra : ∀ j w H1, i ≤ j → j < w → w < ops.size → (S j).kd = .rd → (S w).kd = .wr H1 → hasBit (S w).m j = false → RD P n ops j (S j) (minus (S j).m (S w).ps (S (w + 1)).H)
  wwd : ∀ j v H1, i ≤ j → j < ops.size → (S j).kd = .wr H1 → v ∈ d.ws → hasBit (S j).m v.i = true
  rbd : ∀ j v, i ≤ j → j < ops.size → (S j).kd = .rd → v ∈ d.ws → hasBit (S j).m v.i = false → RD P n ops j (S j) (minus (S j).m (S j).ps v.h)
  rad : ∀ w r H1, i ≤ w → w < ops.size → (S w).kd = .wr H1 → r ∈ d.rs → hasBit (S w).m r.i = false → ∃ y, Good (r.f (S w).ps (S (w + 1)).H y)
end
section
variable {ρ : Type} {Good : ρ → Prop} {P : Program} {n : Nat} {ops : Array Oper}
variable {E : Env ρ} (hb : ¬ Good E.bad) (hty : ∀ t i, E.ty.get t = some i → TyOk P t i)
theorem wn_of {o : Oper} {R : T AV} {b : Bool} (h : ∀ H g act w, XPre n (ronly ops o R) H g act w → Region.wanted o (yielded ops act.tmps) = b) : Wn n ops o R b := h
theorem Run.cons {i : Nat} {d d' : Dr ρ} {o : Oper} {c : Rc} {S : Nat → Rc} (ho : ops[i]? = some o) (h : Run P n ops Good (i + 1) d' S) (hM : d'.M = d.M.put i c.m) (hm : c.m = ancOf d.M o.after.toList)
    (hR : (S (i + 1)).R = putR c.R o.dst c.x) (hk : KdOk P n ops i o c (S (i + 1)) c.kd) (hws : d.ws ⊆ d'.ws) (hrs : d.rs ⊆ d'.rs)
    (hw : ∀ H1, c.kd = .wr H1 → ⟨i, c.H⟩ ∈ d'.ws ∧ (∀ v ∈ d.ws, hasBit c.m v.i = true) ∧ ∀ r ∈ d.rs, hasBit c.m r.i = false → ∃ y, Good (r.f c.ps (S (i + 1)).H y))
    (hr : c.kd = .rd → (∀ v ∈ d.ws, hasBit c.m v.i = false → RD P n ops i c (minus c.m c.ps v.h)) ∧ ∃ r ∈ d'.rs, r.i = i ∧ ∀ ps H y, Good (r.f ps H y) → RD P n ops i c (minus c.m ps H)) :
    Run P n ops Good i d (fun j => if j = i then c else S j) := by
  have hi : i < ops.size := (Array.getElem?_eq_some_iff.1 ho).1
  refine ⟨fun j p hj hp => ?_, fun j p hj hp => ?_, fun j w H1 H2 hw1 hwj hjN k1 k2 => ?_, fun j w H1 hw1 hwj hjN k1 k2 k3 => ?_, fun j w H1 hj hjw hwN k1 k2 k3 => ?_, fun j v H1 hj hjN k1 k2 => ?_, fun j v hj hjN k1 k2 k3 => ?_, fun w r H1 hw1 hwN k1 k2 k3 => ?_⟩
  · by_cases e : j = i
    · subst e
      rw [ho] at hp; cases hp
      simp only [if_pos, if_neg (show ¬ j + 1 = j by omega)]
      exact ⟨hR, hk⟩
    · simp only [if_neg e, if_neg (show ¬ j + 1 = i by omega)]
      exact h.step j p (by omega) hp
  · by_cases e : j = i
    · subst e
      rw [ho] at hp; cases hp
      simp only [if_pos]
      exact ⟨d.M, hm, fun e h1 h2 => by omega, fun e _ => rfl⟩
    · simp only [if_neg e]
      obtain ⟨M, m1, m2, m3⟩ := h.mask j p (by omega) hp
      refine ⟨M, m1, fun q h1 h2 => ?_, fun q h1 => ?_⟩
      · by_cases ei : q = i
        · rw [ei, if_pos rfl, m3 i (by omega), hM, get_put, if_pos rfl]
        · rw [if_neg ei]; exact m2 q (by omega) h2
      · rw [m3 q (by omega), hM, get_put, if_neg (by omega)]
  · simp only [if_neg (show ¬ j = i by omega)] at k2 ⊢
    by_cases e : w = i
    · subst e
      rw [if_pos rfl] at k1
      exact h.wwd j _ H2 (by omega) hjN k2 (hw H1 k1).1
    · rw [if_neg e] at k1
      exact h.ww j w H1 H2 (by omega) hwj hjN k1 k2
  · simp only [if_neg (show ¬ j = i by omega)] at k1 k3 ⊢
    by_cases e : w = i
    · subst e
      rw [if_pos rfl] at k2
      simp only [if_pos]
      exact h.rbd j _ (by omega) hjN k1 (hw H1 k2).1 k3
    · rw [if_neg e] at k2
      simp only [if_neg e]
      exact h.rb j w H1 (by omega) hwj hjN k1 k2 k3
  · simp only [if_neg (show ¬ w = i by omega), if_neg (show ¬ w + 1 = i by omega)] at k2 k3 ⊢
    by_cases e : j = i
    · subst e
      simp only [if_pos] at k1 ⊢
      obtain ⟨_, r, r1, r2, r3⟩ := hr k1
      obtain ⟨y, hy⟩ := h.rad w r H1 (by omega) hwN k2 r1 (by rw [r2]; exact k3)
      exact r3 _ _ _ hy
    · simp only [if_neg e] at k1 ⊢
      exact h.ra j w H1 (by omega) hjw hwN k1 k2 k3
  · by_cases e : j = i
    · subst e
      simp only [if_pos] at k1 ⊢
      exact (hw H1 k1).2.1 v k2
    · simp only [if_neg e] at k1 ⊢
      exact h.wwd j v H1 (by omega) hjN k1 (hws k2)
  · by_cases e : j = i
    · subst e
      simp only [if_pos] at k1 k3 ⊢
      exact (hr k1).1 v k2 k3
    · simp only [if_neg e] at k1 k3 ⊢
      exact h.rbd j v (by omega) hjN k1 (hws k2) k3
  · by_cases e : w = i
    · subst e
      simp only [if_pos, if_neg (show ¬ w + 1 = w by omega)] at k1 k3 ⊢
      exact (hw H1 k1).2.2 r k2 k3
    · simp only [if_neg e, if_neg (show ¬ w + 1 = i by omega)] at k1 k3 ⊢
      exact h.rad w r H1 (by omega) hwN k1 (hrs k2) k3
include hb hty in
theorem ok_drawn_run {call : CallF ρ} (hc : CallOk Good P call) : ∀ (l : List Oper) (i : Nat) (d : Dr ρ) (R : T AV) (H : T XO) (a : Nat) (k : R3 ρ), (∀ j, l[j]? = ops[i + j]?) → (∀ r ∈ d.rs, ∀ ps H y, Good (r.f ps H y) → Good y) →
    Good (runDrawn l E call ops.toList i d R H a k) → ∃ S : Nat → Rc, Run P n ops Good i d S ∧ (S i).R = R ∧ (S i).H = H ∧ (S i).a = a ∧ (S i).ps = d.ps ∧ Good (k (S (i + l.length)).R (S (i + l.length)).H (S (i + l.length)).a)
  | [], i, d, R, H, a, k, hl, hrs, h => by
    have hN : ops.size ≤ i := by
      have := hl 0
      simp at this
      exact this
    refine ⟨fun _ => ⟨R, H, a, d.ps, 0, .unk, .skip⟩, ⟨fun j o hj ho => ?_, fun j o hj ho => ?_, fun j w H1 H2 _ _ hjN => ?_, fun j w H1 _ _ hjN => ?_, fun j w H1 _ _ hjN => ?_, fun j w H1 _ hjN => ?_, fun j v _ hjN => ?_, fun j v H1 _ hjN => ?_⟩, rfl, rfl, rfl, rfl, h⟩
    all_goals first | (have := (Array.getElem?_eq_some_iff.1 ho).1; omega) | (intros; omega)
  | o :: l, i, d, R, H, a, k, hl, hrs, h => by
    have ho : ops[i]? = some o := by have := hl 0; simpa using this.symm
    have hl2 : ∀ j, l[j]? = ops[i + 1 + j]? := fun j => by have := hl (j + 1); rw [List.getElem?_cons_succ] at this; rw [this]; congr 1; omega
    have hlen : i + (o :: l).length = i + 1 + l.length := by simp; omega
    rw [hlen]
    generalize hmm : ancOf d.M o.after.toList = m
    have fin : ∀ (x : AV) (H1 : T XO) (a1 : Nat) (d' : Dr ρ) (kd : Kd), d'.M = d.M.put i m → (∀ r ∈ d'.rs, ∀ ps H y, Good (r.f ps H y) → Good y) → d.ws ⊆ d'.ws → d.rs ⊆ d'.rs →
        Good (runDrawn l E call ops.toList (i + 1) d' (putR R o.dst x) H1 a1 k) →
        (∀ c' : Rc, c'.H = H1 → c'.a = a1 → c'.ps = d'.ps → KdOk P n ops i o ⟨R, H, a, d.ps, m, x, kd⟩ c' kd) →
        (∀ H2, kd = .wr H2 → ⟨i, H⟩ ∈ d'.ws ∧ (∀ v ∈ d.ws, hasBit m v.i = true) ∧ ∀ r ∈ d.rs, hasBit m r.i = false → ∃ y, Good (r.f d.ps H1 y)) →
        (kd = .rd → (∀ v ∈ d.ws, hasBit m v.i = false → RD P n ops i ⟨R, H, a, d.ps, m, x, kd⟩ (minus m d.ps v.h)) ∧ ∃ r ∈ d'.rs, r.i = i ∧ ∀ ps H2 y, Good (r.f ps H2 y) → RD P n ops i ⟨R, H, a, d.ps, m, x, kd⟩ (minus m ps H2)) →
        ∃ S : Nat → Rc, Run P n ops Good i d S ∧ (S i).R = R ∧ (S i).H = H ∧ (S i).a = a ∧ (S i).ps = d.ps ∧ Good (k (S (i + 1 + l.length)).R (S (i + 1 + l.length)).H (S (i + 1 + l.length)).a) := by
      intro x H1 a1 d' kd hM hrs' hws hrd hg hkd hw hr
      obtain ⟨S, s1, s2, s3, s4, s5, s6⟩ := ok_drawn_run hc l (i + 1) d' (putR R o.dst x) H1 a1 k hl2 hrs' hg
      refine ⟨fun j => if j = i then ⟨R, H, a, d.ps, m, x, kd⟩ else S j, Run.cons (c := ⟨R, H, a, d.ps, m, x, kd⟩) ho s1 hM hmm.symm s2 (hkd _ s3 s4 s5) hws hrd ?_ hr, ?_, ?_, ?_, ?_, ?_⟩
      · intro H2 e
        rw [s3]
        exact hw H2 e
      · simp only [if_pos]
      · simp only [if_pos]
      · simp only [if_pos]
      · simp only [if_pos]
      · simp only [if_neg (show ¬ i + 1 + l.length = i by omega)]
        exact s6
    have hsk : ∀ {x : T AV} {z : AV}, True := fun {_ _} => trivial
    rw [show runDrawn (o :: l) E call ops.toList i d R H a k = guarded o.guard ops.toList R (drawnOp o E call R H a i (ancOf d.M o.after.toList) d (fun x H a d => runDrawn l E call ops.toList (Nat.succ i) d (putR R o.dst x) H a k)) (runDrawn l E call ops.toList (Nat.succ i) ⟨d.M.put i (ancOf d.M o.after.toList), d.ws, d.ps, d.rs⟩ (putR R o.dst undefV) H a k) (fail "guard" E.bad) from rfl, hmm] at h
    rw [← guarded_ronly] at h
    rcases guarded_cases (n := n) (o := o) h rfl with ⟨hw, h⟩ | ⟨hw, h⟩ | h
    ·
      unfold drawnOp at h
      rcases opK_cases (op := o.op) (x := evalOp o.op call E R H a (fun x _ _ => (fun x H a d => runDrawn l E call ops.toList (Nat.succ i) d (putR R o.dst x) H a k) x H a ⟨d.M.put i m, d.ws, d.ps, d.rs⟩))
        (y := evalOp o.op call E R (minus m d.ps H) a (fun x H' a' => ifb (Nat.beq a' a)
          (before m d.ws (reread o E call R a m x d.ps) ((fun x H a d => runDrawn l E call ops.toList (Nat.succ i) d (putR R o.dst x) H a k) x H a ⟨d.M.put i m, d.ws, d.ps, ⟨i, reread o E call R a m x⟩ :: d.rs⟩))
          (onSome (H'.get a) (fun y => (fun x H a d => runDrawn l E call ops.toList (Nat.succ i) d (putR R o.dst x) H a k) x (H.put a y) a' ⟨d.M.put i m, d.ws, ⟨i, a, y⟩ :: d.ps, d.rs⟩) (fail "drawn: laid" E.bad))))
        (z := allW m d.ws (evalOp o.op call E R (minus m d.ps H) a (fun x H' a' => again m d.ps (plus m d.ps H') d.rs ((fun x H a d => runDrawn l E call ops.toList (Nat.succ i) d (putR R o.dst x) H a k) x (plus m d.ps H') a' ⟨d.M.put i m, ⟨i, H⟩ :: d.ws, d.ps, d.rs⟩))) (fail "drawn: writers" E.bad))
        with ⟨hp, e⟩ | ⟨hp, e⟩ | e
      · rw [e] at h
        obtain ⟨x, hx, hg⟩ := ok_pure (n := n) (ops := ops) hc hp hb hty h
        exact fin x H a ⟨d.M.put i m, d.ws, d.ps, d.rs⟩ .flo rfl hrs (fun _ h => h) (fun _ h => h) hg (fun c' e1 e2 e3 => ⟨hw, hx, e1, e2, e3⟩) (fun H2 e => by cases e) (fun e => by cases e)
      · rw [e] at h
        rcases ok_rl (n := n) (ops := ops) hc hp hb hty h with ⟨x, hx, hg⟩ | ⟨x, y, hx, hg⟩
        · rcases ifb_cases (b := Nat.beq a a) hg with ⟨_, hg⟩ | ⟨hf, hg⟩
          · have hre : ∀ ps H y, Good (reread o E call R a m x ps H y) → OpS P n o (ronly ops o R) (minus m ps H) a x (minus m ps H) a ∧ Good y := fun ps H2 y hy => reread_ok hc hp hb hty hy
            obtain ⟨b1, b2⟩ := before_ok (fun h2 y hy => (hre _ _ _ hy).2) hg
            refine fin x H a ⟨d.M.put i m, d.ws, d.ps, ⟨i, reread o E call R a m x⟩ :: d.rs⟩ .rd rfl (fun r hr ps H2 y hy => ?_) (fun _ h => h) (fun _ h => List.mem_cons_of_mem _ h) b2 (fun c' e1 e2 e3 => ⟨hw, hx, e1, e2, e3⟩) (fun H2 e => by cases e) (fun _ => ⟨fun v hv hbit => ?_, ⟨i, reread o E call R a m x⟩, by simp, rfl, fun ps H2 y hy => ?_⟩)
            · rcases List.mem_cons.1 hr with rfl | hr
              · exact (hre _ _ _ hy).2
              · exact hrs r hr ps H2 y hy
            · obtain ⟨y, hy⟩ := b1 v hv hbit
              intro o' ho'
              rw [ho] at ho'; cases ho'
              exact (hre _ _ _ hy).1
            · intro o' ho'
              rw [ho] at ho'; cases ho'
              exact (hre _ _ _ hy).1
          · rw [Nat.beq_refl] at hf; cases hf
        · rcases ifb_cases (b := Nat.beq (a + 1) a) hg with ⟨hf, _⟩ | ⟨_, hg⟩
          · have := Nat.eq_of_beq_eq_true hf; omega
          · rcases onSome_cases hg with ⟨y', hy', hg⟩ | ⟨_, hg⟩
            rotate_left
            · exact absurd hg hb
            rw [get_put, if_pos rfl] at hy'
            cases hy'
            exact fin x (H.put a y) (a + 1) ⟨d.M.put i m, d.ws, ⟨i, a, y⟩ :: d.ps, d.rs⟩ (.lay y) rfl hrs (fun _ h => h) (fun _ h => h) hg (fun c' e1 e2 e3 => ⟨hw, hx, e1, e2, e3⟩) (fun H2 e => by cases e) (fun e => by cases e)
      · rw [e] at h
        obtain ⟨w1, h⟩ := allW_ok (z := fail "drawn: writers" E.bad) hb h
        rw [← evalOp_ronly (ops := ops)] at h
        obtain ⟨x, H', b, hop, hg⟩ := ok_op (n := n) (o := o) hb hty hc _ _ _ _ h
        obtain ⟨g1, g2⟩ := again_ok hrs hg
        exact fin x (plus m d.ps H') b ⟨d.M.put i m, ⟨i, H⟩ :: d.ws, d.ps, d.rs⟩ (.wr H') rfl hrs (fun _ h => List.mem_cons_of_mem _ h) (fun _ h => h) g2 (fun c' e1 e2 e3 => ⟨hw, by rw [e2]; exact hop, e1, e3⟩)
          (fun H2 e => ⟨by simp, w1, g1⟩) (fun e => by cases e)
    · exact fin undefV H a ⟨d.M.put i m, d.ws, d.ps, d.rs⟩ .skip rfl hrs (fun _ h => h) (fun _ h => h) h (fun c' e1 e2 e3 => ⟨hw, rfl, e1, e2, e3⟩) (fun H2 e => by cases e) (fun e => by cases e)
    · exact absurd h hb
end
end Go.Ex
