/-
  TopDelay's row, at every input.
-/
import Derived.Test.YtaabpahemponkaaGreatDoorRows
import Derived.Test.YtaabpahemponkaaGreatDoorDzG
import Derived.ProofKit
import Derived.OpenShut
import Derived.LaidMore
import Derived.Lay
import Derived.JoinedOf
import Derived.Stop.Joined
import Derived.Test.YtaabpahemponkaaGreatDoorDwH
import Derived.Test.YtaabpahemponkaaGreatDoorDwI
set_option linter.unusedVariables false
set_option linter.unusedSimpArgs false
namespace Go.Proofs.YtaabpahemponkaaGreatDoor
open Go Go.Am Go.ChangeShapes Go.WideShapes Go.ChangeAt Go.RowKit
abbrev ty4 : Ty := .pair (.sl (.int .i64)) .unit
theorem flat_one {α : Type} (f : α → AV) : ∀ l : List α, (l.flatMap fun x => [f x]) = l.map f
  | [] => rfl
  | x :: l => by rw [List.flatMap_cons, flat_one f l]; rfl
theorem law4' (x : List Int) (W : World) (args : Array Value) (hr : RepL (Gh.start W) [.sls x.length (x.flatMap fun z => [.raw (.int .i64 z)])] args.toList) :
    Calls Tryz.prog 4 args W fun e W' => e = .returned (.bool true) ∧ Below W.heap.size W W' := by
  rw [flat_one] at hr
  exact Go.Ex.dly_calls ⟨_, Go.Ex.dXs_of x⟩ hr
theorem law4 (y : ty4.V) (W : World) (args : Array Value) (hr : RepL (Gh.start W) (ty4.args y) args.toList) : Calls Tryz.prog 4 args W fun e W' => e = .returned (.bool true) ∧ Below W.heap.size W W' := by
  obtain ⟨x, u⟩ := y
  exact law4' x W args hr
def bulks (H : Type) : Bulk H := ⟨Rows.uptoBulk, Rows.uptoBulkAll, fun l => by cases l <;> simp [Rows.uptoBulk], fun bs => by simp [Rows.uptoBulk], by simp [Rows.uptoBulk], fun e s => by simp [Rows.uptoBulk], fun p => by simp [Rows.uptoBulk], by simp [Rows.uptoBulkAll], fun d l => by simp [Rows.uptoBulkAll]⟩
end Go.Proofs.YtaabpahemponkaaGreatDoor
set_option maxRecDepth 100000
namespace Go.Proofs.YtaabpahemponkaaGreatDoor
open Go Go.Am Go.ChangeShapes Go.WideShapes Go.ChangeAt Go.RowKit Go.Clo
theorem lifted_4 (os : Os) (started : os.Started) (H : Type) (enc : TypeId × Value → H) :
    ReturnsInHanded {} Tryz.checked os 4 .any (fun w args => (Rows.topDelaySpec.pre enc Tryz.prog Tryz.f4 [] false w args ∧ laidMetH Tryz.prog Rows.topDelayRow.laid w) ∧ sizedMet enc Tryz.prog Tryz.f4 (OpenSpec.ofChange Rows.topDelaySpec) false w args)
      (Rows.topDelaySpec.post enc Tryz.prog Tryz.f4 false true false false) := by
  refine returnsInHanded_of_change_and (C := Tryz.checked) (X := fun w _ => laidMetH Tryz.prog Rows.topDelayRow.laid w) (fun _ _ _ hh h => h.of_heap hh) kown started noinit_4 Tryz.func4
    (ChangeSpec.witness_shaped (enc := enc) (C := Tryz.checked) (os := os) (X := fun w _ => laidMetH Tryz.prog Rows.topDelayRow.laid w) false (wL os) #[.slice none 0 0] 8 rfl
      (shaped_w_4 os) (ok_w_4 os) (pre_w_4 os H enc) (sized_w_4 os H enc) (by rw [plain_w_4]; exact met_w_4 os)) ?_
  intro W base args ds gs before hval hW _ _ _ _
  exact law_contract_at (bulks H) (ty := ty4) (tb := 4) (by kernel_rfl) (by decide +kernel) rfl (fun ds h => by rw [Tryz.params4] at h; match ds, h with | [d1], _ => rfl) (by kernel_rfl) Tryz.underlying4 laid_out slices_full k03
    (fun y W args _ hr => law4 y W args hr) W base args ds gs before hval hW
theorem topDelay_row : Rows.TopDelaySaid :=
  OpenClaim.holds_of_wide 4 Tryz.f4 rfl rfl rfl rfl rfl rfl rfl ⟨rfl, rfl, rfl, rfl, rfl⟩ rfl rfl rfl rfl rfl fnamed_4 Tryz.func4 joined_4
    (of_decide_eq_true (by kernel_rfl)) (by unfold Func.isWrapper; first | (rw [if_pos (by decide +kernel)]; kernel_rfl) | (rw [if_neg (by decide +kernel)]; exact ⟨rfl, rfl⟩))
    (fun os started H enc _ => lifted_4 os started H enc)
end Go.Proofs.YtaabpahemponkaaGreatDoor
