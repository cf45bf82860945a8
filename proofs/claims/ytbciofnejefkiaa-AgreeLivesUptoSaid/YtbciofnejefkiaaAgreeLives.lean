import Derived.Test.YtbciofnejefkiaaRows
import Derived.WalkKit
import Derived.ProofKit
import Derived.OpenShut
import Derived.JoinedCond
import Derived.Test.YtbciofnejefkiaaAmRow
import Derived.Test.YtbciofnejefkiaaIa10
set_option linter.unusedSimpArgs false
namespace Go.Proofs.Ytbciofnejefkiaa.agreeLives
open Go Go.Am Go.ChangeShapes Go.WideShapes Go.ChangeAt Go.RowKit
set_option linter.unusedVariables false
set_option linter.unusedSimpArgs false
set_option maxRecDepth 20000
abbrev ty : Ty := (.pair (.int .i64) (.pair (.sl (.pair (.int .i64) (.pair (.int .i64) (.pair (.int .i64) (.pair (.int .u64) (.pair (.sl (.int .i64)) .unit)))))) (.pair (.sl (.int .i64)) .unit)))

abbrev RawAct : Type := Int × Int × Int × Int × List Int × Unit
def toAct (x : RawAct) : Ag.Act := ⟨x.1, x.2.1, x.2.2.1, x.2.2.2.1.toNat, x.2.2.2.2.1⟩
abbrev tyA : Ty := .pair (.int .i64) (.pair (.int .i64) (.pair (.int .i64) (.pair (.int .u64) (.pair (.sl (.int .i64)) .unit))))
theorem sum_ge {α : Type} (f : α → Nat) : ∀ (l : List α) (x : α), x ∈ l → f x ≤ (l.map f).sum
  | y :: l, x, h => by
    simp only [List.map_cons, List.sum_cons]
    rcases List.mem_cons.1 h with rfl | h
    · omega
    · have := sum_ge f l x h; omega
theorem sum_len {α : Type} (f : α → Nat) (hf : ∀ x, 1 ≤ f x) : ∀ l : List α, l.length ≤ (l.map f).sum
  | [] => Nat.zero_le _
  | x :: l => by
    have := sum_len f hf l
    have := hf x
    simp only [List.map_cons, List.sum_cons, List.length_cons]; omega
theorem ones_sum : ∀ l : List Int, (l.map fun _ => 1).sum = l.length
  | [] => rfl
  | x :: l => by rw [List.map_cons, List.sum_cons, ones_sum l, List.length_cons]; omega
theorem act_bulk (x : RawAct) : tyA.bulk x = 1 + (1 + (1 + (1 + (x.2.2.2.2.1.length + 1 + 0)))) := by
  obtain ⟨a, b, c, d, row, ⟨⟩⟩ := x
  show 1 + (1 + (1 + (1 + ((row.map fun _ => 1).sum + 1 + 0)))) = _
  rw [ones_sum]
theorem row_avs : ∀ l : List Int, (l.flatMap fun v => [AV.raw (.int .i64 v)]) = l.map mI
  | [] => rfl
  | x :: l => by rw [List.flatMap_cons, row_avs l]; rfl
theorem act_avs {x : RawAct} (h : tyA.ok x) : tyA.avs x = actC (toAct x) := by
  obtain ⟨a, b, c, d, row, ⟨⟩⟩ := x
  obtain ⟨h1, h2, h3, h4, h5, _⟩ := h
  have hd := bounds_u64 (n := d) h4
  have e1 : ((d.toNat : Nat) : Int) = d := by omega
  show [AV.raw (.int .i64 a)] ++ ([AV.raw (.int .i64 b)] ++ ([AV.raw (.int .i64 c)] ++ ([AV.raw (.int .u64 d)] ++ ([.sls row.length (row.flatMap fun v => [AV.raw (.int .i64 v)])] ++ [])))) = [mI a, mI b, mI c, .raw (.int .u64 ((d.toNat : Nat) : Int)), .sls row.length (row.map mI)]
  rw [row_avs, e1]; rfl
theorem acts_avs : ∀ {l : List RawAct}, (∀ x ∈ l, tyA.ok x) → l.flatMap tyA.avs = (l.map toAct).flatMap actC
  | [], _ => rfl
  | x :: l, h => by
    show tyA.avs x ++ l.flatMap tyA.avs = actC (toAct x) ++ (l.map toAct).flatMap actC
    rw [act_avs (h x List.mem_cons_self), acts_avs fun y hy => h y (List.mem_cons_of_mem _ hy)]
theorem acts_len (l : List RawAct) : List.length (α := RawAct) l ≤ (l.map tyA.bulk).sum := sum_len (α := RawAct) tyA.bulk (fun x => by rw [act_bulk]; omega) l
theorem acts_ok {l : List RawAct} (h : ∀ x ∈ l, tyA.ok x) (hb : (l.map tyA.bulk).sum ≤ 1048576) : ∀ a ∈ l.map toAct, ActOK a := fun a ha => by
  obtain ⟨x, hx, rfl⟩ := List.mem_map.1 ha
  have h1 := h x hx
  have h2 : tyA.bulk x ≤ 1048576 := Nat.le_trans (sum_ge (α := RawAct) tyA.bulk l x hx) hb
  rw [act_bulk] at h2
  obtain ⟨a, b, c, d, row, ⟨⟩⟩ := x
  obtain ⟨h3, h4, h5, h6, h7, _⟩ := h1
  have hd := bounds_u64 (n := d) h6
  exact ⟨⟨by show d.toNat < 2 ^ 64; omega, fun v hv => bounds_i64 (n := v) (h7 v hv)⟩, bounds_i64 (n := a) h3, bounds_i64 (n := b) h4, bounds_i64 (n := c) h5, by show row.length ≤ _; simp only at h2; omega⟩
theorem hc : ∀ y : ty.V, ty.ok y → ty.bulk y ≤ 1048576 → ACalls Try.prog 6 (ty.args y) AHeap.empty fun r _ => r = .raw (.bool true) := by
  rintro ⟨(f : Int), (l : List RawAct), (d : List Int), ⟨⟩⟩ ⟨h1, h2, h3, _⟩ hb
  have hb : 1 + ((l.map tyA.bulk).sum + 1 + (((d.map fun _ => 1).sum + 1) + 0)) ≤ 1048576 := hb
  rw [ones_sum] at hb
  have hl := acts_len l
  have := AgreeLives_calls AHeap.empty f (l.map toAct) d (bounds_i64 (n := f) h1) (by rw [List.length_map]; omega) (acts_ok h2 (by omega)) (by omega) (fun v hv => bounds_i64 (n := v) (h3 v hv))
  rw [← acts_avs h2, List.length_map, ← row_avs] at this
  exact this

theorem own : ownKnob Try.prog.godebug = none := by kernel_rfl
def bulks (H : Type) : Bulk H := ⟨Rows.uptoBulk, Rows.uptoBulkAll, fun l => by cases l <;> simp [Rows.uptoBulk], fun bs => by simp [Rows.uptoBulk], by simp [Rows.uptoBulk], fun e s => by simp [Rows.uptoBulk], fun p => by simp [Rows.uptoBulk], by simp [Rows.uptoBulkAll], fun d l => by simp [Rows.uptoBulkAll]⟩

set_option maxRecDepth 100000 in
theorem lifted (os : Os) (started : os.Started) (H : Type) (enc : TypeId × Value → H) (F : Stop.Interp) :
    ReturnsInHanded {} Try.checked os 6 .any ((Rows.OpenSpec.upto Rows.agreeLivesSpec).pre6 enc Try.prog Try.f6 Rows.agreeLivesUptoRow.domain false) (((Rows.OpenSpec.upto Rows.agreeLivesSpec).at F).post enc Try.prog Try.f6 false true false false) := by
  refine returnsInHanded_of_cond (C := Try.checked) (s := Rows.OpenSpec.upto Rows.agreeLivesSpec) (k := Rows.uptoSmall) rfl own started (by kernel_rfl) Try.func6
    (OpenSpec.witness (enc := enc) (C := Try.checked) (s := Rows.OpenSpec.upto Rows.agreeLivesSpec) (k := Rows.uptoSmall) rfl false ⟨#[], #[.int .i64 0, .slice none 0 0, .slice none 0 0], []⟩ 8 (by kernel_rfl) (by kernel_rfl) (by kernel_rfl)
      (x := ([.lit (.int .i64 0), .nil, .nil], [], [])) (by kernel_rfl) rfl (by kernel_rfl)) ?_
  intro W base args ds gs before hval hW _ hk _
  exact law_contract (bulks H) (ty := ty) (tb := 4) (bound := 1048576) (by kernel_rfl) (by decide +kernel) rfl (fun ds h => by rw [Try.params6] at h; match ds, h with | [d0, d1, d2], _ => rfl) (by kernel_rfl) Try.underlying4 (by kernel_rfl) (slices_full_of Try.prog (by kernel_rfl)) (by kernel_rfl) hc
    W base args ds gs before hval hW (of_decide_eq_true hk)

theorem over : Rows.agreeLivesUptoRow.holds Try.pinned (Rows.OpenSpec.upto Rows.agreeLivesSpec) :=
  OpenClaim.holds_of_cond 6 Try.f6 rfl rfl rfl rfl rfl rfl rfl ⟨rfl, rfl, rfl, rfl, rfl⟩ rfl rfl rfl rfl rfl (by kernel_rfl) Try.func6 (by kernel_rfl)
    (of_decide_eq_true (by kernel_rfl)) (by unfold Func.isWrapper; first | (rw [if_pos (by decide +kernel)]; kernel_rfl) | (rw [if_neg (by decide +kernel)]; exact ⟨rfl, rfl⟩))
    (fun os started H enc _ F => lifted os started H enc F)

theorem proved : Rows.AgreeLivesUptoSaid := over
#print axioms proved
end Go.Proofs.Ytbciofnejefkiaa.agreeLives

