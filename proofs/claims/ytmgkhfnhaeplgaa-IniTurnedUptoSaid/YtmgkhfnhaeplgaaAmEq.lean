/-
  The abstract machine: struct values compared. No program in sight.
-/
import Derived.Test.YtmgkhfnhaeplgaaAmMap
import Derived.Laws.StructEq
namespace Go.Am
set_option linter.unusedSimpArgs false
set_option linter.unusedVariables false
open Go
inductive EqFlds (P : Program) : Nat → List Field → List Nat → Prop
  | nil (i : Nat) : EqFlds P i [] []
  | str {i : Nat} {f : Field} {fs : List Field} {ks : List Nat} : f.name ≠ "_" → f.offset = i → CellT P f.type → P.underlying f.type = some .string → EqFlds P (i + 1) fs ks → EqFlds P i (f :: fs) (0 :: ks)
  | bool {i : Nat} {f : Field} {fs : List Field} {ks : List Nat} : f.name ≠ "_" → f.offset = i → CellT P f.type → P.underlying f.type = some .bool → EqFlds P (i + 1) fs ks → EqFlds P i (f :: fs) (1 :: ks)
  | int {i : Nat} {f : Field} {fs : List Field} {ks : List Nat} (k : IntKind) : f.name ≠ "_" → f.offset = i → CellT P f.type → P.underlying f.type = some (.int k) → EqFlds P (i + 1) fs ks → EqFlds P i (f :: fs) (2 :: ks)
class EqT (P : Program) (t : TypeId) (ks : outParam (List Nat)) : Prop where
  g : P.eqGuardType P.depth t = false
  s : P.stoodInHeld t = false
  u : P.underlying t = some (.struct (P.fieldsOf t))
  f : EqFlds P 0 (P.fieldsOf t).toList ks
theorem EqT.of {P : Program} {t : TypeId} {fs : Array Field} {ks : List Nat} (g : P.eqGuardType P.depth t = false) (s : P.stoodInHeld t = false) (h : P.underlying t = some (.struct fs)) (f : EqFlds P 0 fs.toList ks) : EqT P t ks := by
  have e : P.fieldsOf t = fs := by unfold Program.fieldsOf; rw [h]
  exact ⟨g, s, by rw [e]; exact h, by rw [e]; exact f⟩
def eqAVs : List Nat → List AV → List AV → Option Prop
  | [], [], [] => some True
  | 0 :: ks, .str a :: xs, .str b :: ys => (eqAVs ks xs ys).map fun p => a = b ∧ p
  | 1 :: ks, .raw (.bool a) :: xs, .raw (.bool b) :: ys => (eqAVs ks xs ys).map fun p => a = b ∧ p
  | 2 :: ks, .raw (.int k a) :: xs, .raw (.int k' b) :: ys => if k = k' then (eqAVs ks xs ys).map fun p => a = b ∧ p else none
  | _, _, _ => none

section
variable {P : Program} {n : Nat} {R : Regs} {H : AHeap} {ty : TypeId} {g : Gh}
theorem eqFields_run {w : World} {d : Nat} {xs ys : Array Value} : ∀ {fs : List Field} {ks : List Nat} {i : Nat} {ax ay : List AV} {p : Prop}, EqFlds P i fs ks → (∀ (j : Nat) (x : AV), ax[j]? = some x → ∃ v, xs[i + j]? = some v ∧ Rep g x v) → (∀ (j : Nat) (x : AV), ay[j]? = some x → ∃ v, ys[i + j]? = some v ∧ Rep g x v) →
    eqAVs ks ax ay = some p → (Op.eqFields (d + 1) xs ys fs).run P w = .ok (@decide p (Classical.propDecidable p)) w
  | _, _, i, ax, ay, p, .nil _, h1, h2, he => by
    cases ax <;> cases ay <;> simp [eqAVs] at he
    simp [Op.eqFields, he]
  | _, _, i, ax, ay, p, .str (f := f) (fs := fs) (ks := ks) e1 e2 e3 e4 e5, h1, h2, he => by
    cases ax with
    | nil => simp [eqAVs] at he
    | cons x ax =>
      cases ay with
      | nil => simp [eqAVs] at he
      | cons y ay =>
        obtain ⟨u, u1, u2⟩ := h1 0 x rfl
        obtain ⟨v, v1, v2⟩ := h2 0 y rfl
        cases x <;> try (simp [eqAVs] at he; done)
        cases y <;> try (simp [eqAVs] at he; done)
        rename_i a b
        simp only [eqAVs, Option.map_eq_some_iff] at he
        obtain ⟨q, hq, rfl⟩ := he
        have ih := eqFields_run (w := w) (d := d) (xs := xs) (ys := ys) e5 (fun j x hx => by have := h1 (j + 1) x (by simpa using hx); rwa [show i + (j + 1) = i + 1 + j by omega] at this) (fun j x hx => by have := h2 (j + 1) x (by simpa using hx); rwa [show i + (j + 1) = i + 1 + j by omega] at this) hq
        simp only [Rep] at u2 v2
        subst u2; subst v2
        simp only [Nat.add_zero] at u1 v1
        have pa : (part f.type xs f.offset).run P w = .ok (.string ⟨a.toArray⟩) w := by simp [part, e3.a, e2, u1]
        have pb : (part f.type ys f.offset).run P w = .ok (.string ⟨b.toArray⟩) w := by simp [part, e3.a, e2, v1]
        simp only [Op.eqFields, e1, ne_eq, not_false_eq_true, if_true, Sem.run_bind, pa, pb, Result.andThen_ok, run_equalIn_string w d f.type _ _ e4, ByteArray.toList_eq, Sem.run_ite, Sem.run_pure, ih]
        by_cases hab : a = b
        · subst hab
          simp
        · simp [hab]
  | _, _, i, ax, ay, p, .bool (f := f) (fs := fs) (ks := ks) e1 e2 e3 e4 e5, h1, h2, he => by
    cases ax with
    | nil => simp [eqAVs] at he
    | cons x ax =>
      cases ay with
      | nil => simp [eqAVs] at he
      | cons y ay =>
        obtain ⟨u, u1, u2⟩ := h1 0 x rfl
        obtain ⟨v, v1, v2⟩ := h2 0 y rfl
        cases x <;> try (simp [eqAVs] at he; done)
        cases y <;> try (simp [eqAVs] at he; done)
        rename_i a b
        cases a <;> try (simp [eqAVs] at he; done)
        cases b <;> try (simp [eqAVs] at he; done)
        rename_i a b
        simp only [eqAVs, Option.map_eq_some_iff] at he
        obtain ⟨q, hq, rfl⟩ := he
        have ih := eqFields_run (w := w) (d := d) (xs := xs) (ys := ys) e5 (fun j x hx => by have := h1 (j + 1) x (by simpa using hx); rwa [show i + (j + 1) = i + 1 + j by omega] at this) (fun j x hx => by have := h2 (j + 1) x (by simpa using hx); rwa [show i + (j + 1) = i + 1 + j by omega] at this) hq
        simp only [Rep] at u2 v2
        subst u2; subst v2
        simp only [Nat.add_zero] at u1 v1
        have pa : (part f.type xs f.offset).run P w = .ok (.bool a) w := by simp [part, e3.a, e2, u1]
        have pb : (part f.type ys f.offset).run P w = .ok (.bool b) w := by simp [part, e3.a, e2, v1]
        simp only [Op.eqFields, e1, ne_eq, not_false_eq_true, if_true, Sem.run_bind, pa, pb, Result.andThen_ok, run_equalIn_bool w d f.type _ _ e4, Sem.run_ite, Sem.run_pure, ih]
        by_cases hab : a = b
        · subst hab
          simp
        · simp [hab]
  | _, _, i, ax, ay, p, .int (f := f) (fs := fs) (ks := ks) k0 e1 e2 e3 e4 e5, h1, h2, he => by
    cases ax with
    | nil => simp [eqAVs] at he
    | cons x ax =>
      cases ay with
      | nil => simp [eqAVs] at he
      | cons y ay =>
        obtain ⟨u, u1, u2⟩ := h1 0 x rfl
        obtain ⟨v, v1, v2⟩ := h2 0 y rfl
        cases x <;> try (simp [eqAVs] at he; done)
        cases y <;> try (simp [eqAVs] at he; done)
        rename_i a b
        cases a <;> try (simp [eqAVs] at he; done)
        cases b <;> try (simp [eqAVs] at he; done)
        rename_i k a k' b
        simp only [eqAVs] at he
        split at he
        · rename_i hk
          subst hk
          simp only [Option.map_eq_some_iff] at he
          obtain ⟨q, hq, rfl⟩ := he
          have ih := eqFields_run (w := w) (d := d) (xs := xs) (ys := ys) e5 (fun j x hx => by have := h1 (j + 1) x (by simpa using hx); rwa [show i + (j + 1) = i + 1 + j by omega] at this) (fun j x hx => by have := h2 (j + 1) x (by simpa using hx); rwa [show i + (j + 1) = i + 1 + j by omega] at this) hq
          simp only [Rep] at u2 v2
          subst u2; subst v2
          simp only [Nat.add_zero] at u1 v1
          have pa : (part f.type xs f.offset).run P w = .ok (.int k a) w := by simp [part, e3.a, e2, u1]
          have pb : (part f.type ys f.offset).run P w = .ok (.int k b) w := by simp [part, e3.a, e2, v1]
          simp only [Op.eqFields, e1, ne_eq, not_false_eq_true, if_true, Sem.run_bind, pa, pb, Result.andThen_ok, run_equalIn_int w d f.type k k0 _ _ e4, Sem.run_ite, Sem.run_pure, ih]
          by_cases hab : a = b
          · subst hab
            simp
          · simp [hab]
        · cases he

theorem rep_agg {xs : List AV} {v : Value} (h : Rep g (.agg xs) v) : ∃ ar : Array Value, v = .agg ar ∧ ∀ (j : Nat) (x : AV), xs[j]? = some x → ∃ u, ar[0 + j]? = some u ∧ Rep g x u := by
  simp only [Rep] at h
  obtain ⟨ar, he, hr⟩ := h
  have hr' := (repL_iff _ _).1 hr
  exact ⟨ar, he, fun j x hx => by obtain ⟨u, hu, hy⟩ := hr'.2 _ _ hx; exact ⟨u, by simpa using hu, hy⟩⟩
theorem s_eqlg {t t2 : TypeId} {x y : Operand} {xs ys : List AV} {ks : List Nat} {p : Prop} [hT : EqT P t ks] (hx : reval R x = .agg xs) (hy : reval R y = .agg ys) (he : eqAVs ks xs ys = some p) : Stp P n (.binOp .eql t x y t2) ty R H (.raw (.bool (@decide p (Classical.propDecidable p)))) :=
  stp_pure fun o ho ht g a w hp => by
    obtain ⟨u, u1, u2⟩ := rep_agg (rv hp hx)
    obtain ⟨v, v1, v2⟩ := rep_agg (rv hp hy)
    refine ⟨.bool (@decide p (Classical.propDecidable p)), ?_, by simp only [Rep]⟩
    have := run_equalIn_agg w 9999 t u v hT.u hT.s
    rw [eqFields_run (d := 9998) hT.f u2 v2 he] at this
    simp [execOp, ho, u1, v1, run_eql_struct, run_eqGuard_agg _ _ _ _ _ _ _ hT.g, this]
theorem s_neqg {t t2 : TypeId} {x y : Operand} {xs ys : List AV} {ks : List Nat} {p : Prop} [hT : EqT P t ks] (hx : reval R x = .agg xs) (hy : reval R y = .agg ys) (he : eqAVs ks xs ys = some p) : Stp P n (.binOp .neq t x y t2) ty R H (.raw (.bool (@decide (¬ p) (Classical.propDecidable _)))) :=
  stp_pure fun o ho ht g a w hp => by
    obtain ⟨u, u1, u2⟩ := rep_agg (rv hp hx)
    obtain ⟨v, v1, v2⟩ := rep_agg (rv hp hy)
    refine ⟨.bool (@decide (¬ p) (Classical.propDecidable _)), ?_, by simp only [Rep]⟩
    have := run_equalIn_agg w 9999 t u v hT.u hT.s
    rw [eqFields_run (d := 9998) hT.f u2 v2 he] at this
    have hn : (!@decide p (Classical.propDecidable p)) = @decide (¬ p) (Classical.propDecidable _) := by by_cases h : p <;> simp [h]
    simp [execOp, ho, u1, v1, run_neq_struct, run_eqGuard_agg _ _ _ _ _ _ _ hT.g, this, hn]
end
end Go.Am
