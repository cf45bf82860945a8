import Derived.Test.YtbciofnejefkiaaRows
import Derived.WalkKit
import Derived.ProofKit
import Derived.OpenShut
import Derived.JoinedCond
import Derived.Test.YtbciofnejefkiaaAmRow
import Derived.Test.YtbciofnejefkiaaAgreeRaw0
set_option linter.unusedSimpArgs false
namespace Go.Proofs.Ytbciofnejefkiaa.agreeRaw
open Go Go.Am Go.ChangeShapes Go.WideShapes Go.ChangeAt Go.RowKit
set_option linter.unusedVariables false
set_option linter.unusedSimpArgs false
set_option maxRecDepth 20000
abbrev ty : Ty := (.pair (.int .i64) (.pair (.int .i64) (.pair (.sl .bys) .unit)))

theorem blen : ∀ l : List (List UInt8), l.length ≤ (l.map (fun (s : List UInt8) => s.length + 1)).sum ∧ ∀ x ∈ l, x.length ≤ (l.map (fun (s : List UInt8) => s.length + 1)).sum
  | [] => by simp
  | x :: l => by
    obtain ⟨i1, i2⟩ := blen l
    simp only [List.map_cons, List.sum_cons, List.length_cons]
    refine ⟨by omega, fun y hy => ?_⟩
    rcases List.mem_cons.1 hy with rfl | hy
    · omega
    · have := i2 y hy; omega
theorem avsBys : ∀ l : List (List UInt8), l.flatMap (fun s => [AV.bys s]) = l.map .bys
  | [] => rfl
  | x :: l => by rw [List.flatMap_cons, avsBys l]; rfl
theorem hc : ∀ y : ty.V, ty.ok y → ty.bulk y ≤ 1048576 → ACalls Try.prog 4 (ty.args y) AHeap.empty fun r _ => r = .raw (.bool true) := by
  rintro ⟨(me : Int), (f : Int), (raw : List (List UInt8)), ⟨⟩⟩ ⟨h1, h2, _⟩ hb
  have hs : (raw.map (fun (s : List UInt8) => s.length + 1)).sum + 1 ≤ 1048576 := by
    have : 1 + (1 + ((raw.map (fun (s : List UInt8) => s.length + 1)).sum + 1 + 0)) ≤ 1048576 := hb
    omega
  obtain ⟨q1, q2⟩ := blen raw
  have := AgreeRaw_calls AHeap.empty me f raw (bounds_i64 (n := me) h1) (bounds_i64 (n := f) h2) (by omega) (fun x hx => by have := q2 x hx; omega)
  rw [← avsBys raw] at this
  exact this

theorem own : ownKnob Try.prog.godebug = none := by kernel_rfl
def bulks (H : Type) : Bulk H := ⟨Rows.uptoBulk, Rows.uptoBulkAll, fun l => by cases l <;> simp [Rows.uptoBulk], fun bs => by simp [Rows.uptoBulk], by simp [Rows.uptoBulk], fun e s => by simp [Rows.uptoBulk], fun p => by simp [Rows.uptoBulk], by simp [Rows.uptoBulkAll], fun d l => by simp [Rows.uptoBulkAll]⟩

set_option maxRecDepth 100000 in
theorem lifted (os : Os) (started : os.Started) (H : Type) (enc : TypeId × Value → H) (F : Stop.Interp) :
    ReturnsInHanded {} Try.checked os 4 .any ((Rows.OpenSpec.upto Rows.agreeRawSpec).pre6 enc Try.prog Try.f4 Rows.agreeRawUptoRow.domain false) (((Rows.OpenSpec.upto Rows.agreeRawSpec).at F).post enc Try.prog Try.f4 false true false false) := by
  refine returnsInHanded_of_cond (C := Try.checked) (s := Rows.OpenSpec.upto Rows.agreeRawSpec) (k := Rows.uptoSmall) rfl own started (by kernel_rfl) Try.func4
    (OpenSpec.witness (enc := enc) (C := Try.checked) (s := Rows.OpenSpec.upto Rows.agreeRawSpec) (k := Rows.uptoSmall) rfl false ⟨#[], #[.int .i64 0, .int .i64 0, .slice none 0 0], []⟩ 8 (by kernel_rfl) (by kernel_rfl) (by kernel_rfl)
      (x := ([.lit (.int .i64 0), .lit (.int .i64 0), .nil], [], [])) (by kernel_rfl) rfl (by kernel_rfl)) ?_
  intro W base args ds gs before hval hW _ hk _
  exact law_contract (bulks H) (ty := ty) (tb := 4) (bound := 1048576) (by kernel_rfl) (by decide +kernel) rfl (fun ds h => by rw [Try.params4] at h; match ds, h with | [d0, d1, d2], _ => rfl) (by kernel_rfl) Try.underlying4 (by kernel_rfl) (slices_full_of Try.prog (by kernel_rfl)) (by kernel_rfl) hc
    W base args ds gs before hval hW (of_decide_eq_true hk)

theorem over : Rows.agreeRawUptoRow.holds Try.pinned (Rows.OpenSpec.upto Rows.agreeRawSpec) :=
  OpenClaim.holds_of_cond 4 Try.f4 rfl rfl rfl rfl rfl rfl rfl ⟨rfl, rfl, rfl, rfl, rfl⟩ rfl rfl rfl rfl rfl (by kernel_rfl) Try.func4 (by kernel_rfl)
    (of_decide_eq_true (by kernel_rfl)) (by unfold Func.isWrapper; first | (rw [if_pos (by decide +kernel)]; kernel_rfl) | (rw [if_neg (by decide +kernel)]; exact ⟨rfl, rfl⟩))
    (fun os started H enc _ F => lifted os started H enc F)

theorem proved : Rows.AgreeRawUptoSaid := over
#print axioms proved
end Go.Proofs.Ytbciofnejefkiaa.agreeRaw

