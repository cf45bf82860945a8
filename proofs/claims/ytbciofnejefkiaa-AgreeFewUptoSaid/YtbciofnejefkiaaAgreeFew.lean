import Derived.Test.YtbciofnejefkiaaRows
import Derived.WalkKit
import Derived.ProofKit
import Derived.OpenShut
import Derived.JoinedCond
import Derived.Test.YtbciofnejefkiaaAmRow
import Derived.Test.YtbciofnejefkiaaAgreeFew0
set_option linter.unusedSimpArgs false
namespace Go.Proofs.Ytbciofnejefkiaa.agreeFew
open Go Go.Am Go.ChangeShapes Go.WideShapes Go.ChangeAt Go.RowKit
set_option linter.unusedVariables false
set_option linter.unusedSimpArgs false
set_option maxRecDepth 20000
abbrev ty : Ty := (.pair (.int .i64) (.pair (.int .i64) (.pair (.int .i64) .unit)))

theorem hc : ∀ y : ty.V, ty.ok y → ty.bulk y ≤ 1048576 → ACalls Try.prog 8 (ty.args y) AHeap.empty fun r _ => r = .raw (.bool true) := by
  rintro ⟨(a : Int), (b : Int), (c : Int), ⟨⟩⟩ ⟨h1, h2, h3, _⟩ hb
  exact AgreeFew_calls AHeap.empty a b c (bounds_i64 (n := a) h1) (bounds_i64 (n := b) h2) (bounds_i64 (n := c) h3)

theorem own : ownKnob Try.prog.godebug = none := by kernel_rfl
def bulks (H : Type) : Bulk H := ⟨Rows.uptoBulk, Rows.uptoBulkAll, fun l => by cases l <;> simp [Rows.uptoBulk], fun bs => by simp [Rows.uptoBulk], by simp [Rows.uptoBulk], fun e s => by simp [Rows.uptoBulk], fun p => by simp [Rows.uptoBulk], by simp [Rows.uptoBulkAll], fun d l => by simp [Rows.uptoBulkAll]⟩

set_option maxRecDepth 100000 in
theorem lifted (os : Os) (started : os.Started) (H : Type) (enc : TypeId × Value → H) (F : Stop.Interp) :
    ReturnsInHanded {} Try.checked os 8 .any ((Rows.OpenSpec.upto Rows.agreeFewSpec).pre6 enc Try.prog Try.f8 Rows.agreeFewUptoRow.domain false) (((Rows.OpenSpec.upto Rows.agreeFewSpec).at F).post enc Try.prog Try.f8 false true false false) := by
  refine returnsInHanded_of_cond (C := Try.checked) (s := Rows.OpenSpec.upto Rows.agreeFewSpec) (k := Rows.uptoSmall) rfl own started (by kernel_rfl) Try.func8
    (OpenSpec.witness (enc := enc) (C := Try.checked) (s := Rows.OpenSpec.upto Rows.agreeFewSpec) (k := Rows.uptoSmall) rfl false ⟨#[], #[.int .i64 0, .int .i64 0, .int .i64 0], []⟩ 8 (by kernel_rfl) (by kernel_rfl) (by kernel_rfl)
      (x := ([.lit (.int .i64 0), .lit (.int .i64 0), .lit (.int .i64 0)], [], [])) (by kernel_rfl) rfl (by kernel_rfl)) ?_
  intro W base args ds gs before hval hW _ hk _
  exact law_contract (bulks H) (ty := ty) (tb := 4) (bound := 1048576) (by kernel_rfl) (by decide +kernel) rfl (fun ds h => by rw [Try.params8] at h; match ds, h with | [d0, d1, d2], _ => rfl) (by kernel_rfl) Try.underlying4 (by kernel_rfl) (slices_full_of Try.prog (by kernel_rfl)) (by kernel_rfl) hc
    W base args ds gs before hval hW (of_decide_eq_true hk)

theorem over : Rows.agreeFewUptoRow.holds Try.pinned (Rows.OpenSpec.upto Rows.agreeFewSpec) :=
  OpenClaim.holds_of_cond 8 Try.f8 rfl rfl rfl rfl rfl rfl rfl ⟨rfl, rfl, rfl, rfl, rfl⟩ rfl rfl rfl rfl rfl (by kernel_rfl) Try.func8 (by kernel_rfl)
    (of_decide_eq_true (by kernel_rfl)) (by unfold Func.isWrapper; first | (rw [if_pos (by decide +kernel)]; kernel_rfl) | (rw [if_neg (by decide +kernel)]; exact ⟨rfl, rfl⟩))
    (fun os started H enc _ F => lifted os started H enc F)

theorem proved : Rows.AgreeFewUptoSaid := over
#print axioms proved
end Go.Proofs.Ytbciofnejefkiaa.agreeFew

