/-
  TopHold's row, at every input.
-/
import Derived.Test.YtaabpahemponkaaGreatDoorRows
import Derived.Test.YtaabpahemponkaaGreatDoorHdD
import Derived.ProofKit
import Derived.OpenShut
import Derived.LaidMore
import Derived.Lay
import Derived.JoinedOf
import Derived.Stop.Joined
import Derived.Test.YtaabpahemponkaaGreatDoorLwH
import Derived.Test.YtaabpahemponkaaGreatDoorLwI
set_option linter.unusedVariables false
set_option linter.unusedSimpArgs false
namespace Go.Proofs.YtaabpahemponkaaGreatDoor
open Go Go.Am Go.ChangeShapes Go.WideShapes Go.ChangeAt Go.RowKit
abbrev ty5 : Ty := .pair (.sl .bool) (.pair (.sl (.int .i64)) .unit)
theorem flat_one {α : Type} (f : α → AV) : ∀ l : List α, (l.flatMap fun x => [f x]) = l.map f
  | [] => rfl
  | x :: l => by rw [List.flatMap_cons, flat_one f l]; rfl
theorem law5' (c : List Bool) (x : List Int) (W : World) (args : Array Value) (hr : RepL (Gh.start W) [.sls c.length (c.flatMap fun b => [.raw (.bool b)]), .sls x.length (x.flatMap fun z => [.raw (.int .i64 z)])] args.toList) :
    Calls Tryz.prog 5 args W fun e W' => e = .returned (.bool true) ∧ Below W.heap.size W W' := by
  rw [flat_one, flat_one] at hr
  refine Go.Ex.hold_calls (by simp) (by simp) (fun i hi => ?_) (fun i hi => ?_) hr
  · exact ⟨c[i], by rw [List.getElem?_map, List.getElem?_eq_getElem hi]; rfl⟩
  · exact ⟨x[i], by rw [List.getElem?_map, List.getElem?_eq_getElem hi]; rfl⟩
theorem law5 (y : ty5.V) (W : World) (args : Array Value) (hr : RepL (Gh.start W) (ty5.args y) args.toList) : Calls Tryz.prog 5 args W fun e W' => e = .returned (.bool true) ∧ Below W.heap.size W W' := by
  obtain ⟨c, x, u⟩ := y
  exact law5' c x W args hr
def bulks (H : Type) : Bulk H := ⟨Rows.uptoBulk, Rows.uptoBulkAll, fun l => by cases l <;> simp [Rows.uptoBulk], fun bs => by simp [Rows.uptoBulk], by simp [Rows.uptoBulk], fun e s => by simp [Rows.uptoBulk], fun p => by simp [Rows.uptoBulk], by simp [Rows.uptoBulkAll], fun d l => by simp [Rows.uptoBulkAll]⟩
end Go.Proofs.YtaabpahemponkaaGreatDoor
set_option maxRecDepth 100000
namespace Go.Proofs.YtaabpahemponkaaGreatDoor
open Go Go.Am Go.ChangeShapes Go.WideShapes Go.ChangeAt Go.RowKit Go.Clo
theorem lifted_5 (os : Os) (started : os.Started) (H : Type) (enc : TypeId × Value → H) :
    ReturnsInHanded {} Tryz.checked os 5 .any (fun w args => (Rows.topHoldSpec.pre enc Tryz.prog Tryz.f5 [] false w args ∧ laidMetH Tryz.prog Rows.topHoldRow.laid w) ∧ sizedMet enc Tryz.prog Tryz.f5 (OpenSpec.ofChange Rows.topHoldSpec) false w args)
      (Rows.topHoldSpec.post enc Tryz.prog Tryz.f5 false true false false) := by
  refine returnsInHanded_of_change_and (C := Tryz.checked) (X := fun w _ => laidMetH Tryz.prog Rows.topHoldRow.laid w) (fun _ _ _ hh h => h.of_heap hh) kown started noinit_5 Tryz.func5
    (ChangeSpec.witness_shaped (enc := enc) (C := Tryz.checked) (os := os) (X := fun w _ => laidMetH Tryz.prog Rows.topHoldRow.laid w) false (wL os) #[.slice none 0 0, .slice none 0 0] 8 rfl
      (shaped_w_5 os) (ok_w_5 os) (pre_w_5 os H enc) (sized_w_5 os H enc) (by rw [plain_w_5]; exact met_w_5 os)) ?_
  intro W base args ds gs before hval hW _ _ _ _
  exact law_contract_at (bulks H) (ty := ty5) (tb := 4) (by kernel_rfl) (by decide +kernel) rfl (fun ds h => by rw [Tryz.params5] at h; match ds, h with | [d1, d2], _ => rfl) (by kernel_rfl) Tryz.underlying4 laid_out slices_full k03
    (fun y W args _ hr => law5 y W args hr) W base args ds gs before hval hW
theorem topHold_row : Rows.TopHoldSaid :=
  OpenClaim.holds_of_wide 5 Tryz.f5 rfl rfl rfl rfl rfl rfl rfl ⟨rfl, rfl, rfl, rfl, rfl⟩ rfl rfl rfl rfl rfl fnamed_5 Tryz.func5 joined_5
    (of_decide_eq_true (by kernel_rfl)) (by unfold Func.isWrapper; first | (rw [if_pos (by decide +kernel)]; kernel_rfl) | (rw [if_neg (by decide +kernel)]; exact ⟨rfl, rfl⟩))
    (fun os started H enc _ => lifted_5 os started H enc)
end Go.Proofs.YtaabpahemponkaaGreatDoor
