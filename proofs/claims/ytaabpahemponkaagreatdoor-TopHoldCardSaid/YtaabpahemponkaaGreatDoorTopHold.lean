/-
  TopHold: whatever the input, the law returns true: the tied card. Conditions: none beyond the statement's own.
-/
import Derived.Test.YtaabpahemponkaaGreatDoorCards
import Derived.Test.YtaabpahemponkaaGreatDoorLwK
import Derived.Test.YtaabpahemponkaaGreatDoorLwJ
import Derived.Test.YtaabpahemponkaaGreatDoorLwH
import Derived.Test.YtaabpahemponkaaGreatDoorTiG
set_option linter.unusedVariables false
set_option linter.unusedSimpArgs false
set_option maxRecDepth 100000
namespace Go.Proofs.YtaabpahemponkaaGreatDoor
open Go Go.ChangeShapes Go.WideShapes Go.ChangeAt Go.RowKit Go.Clo
theorem goesBy_5 : false = Rows.topHoldRow.goesBy Tryz.prog := by
  unfold OpenClaim.goesBy Program.goesAt Program.goesFrom
  rw [show Tryz.prog.funcNamed Rows.topHoldRow.func = some 5 from fnamed_5]
  show false = ((some 5).any Tryz.prog.goes || false)
  rw [Option.any_some, goes5]
  rfl
theorem topHold_card : Rows.TopHoldCardSaid :=
  Claim7.holds_tied_plain_at .later [] [.pinned, .data, .sentinel, .sentinel, .data, .data, .data] true (true, "9006dc58c18ef39113e6e155c9075b6d8dc49e55133e119c6fa3683ed861f55d") true
    topHold_row (fun _ h => by cases h) card_wf_5 (fun _ h => by cases h) topHold_row_tie_x rfl ⟨rfl, rfl⟩ card_main_5 rfl
    (fun f fn hf hfn => by
      obtain rfl : f = 5 := Option.some.inj ((show Tryz.prog.funcNamed Rows.topHoldRow.func = some 5 from fnamed_5).symm.trans hf) |>.symm
      obtain rfl : fn = Tryz.f5 := (Option.some.inj (Tryz.func5.symm.trans hfn)).symm
      exact ⟨card_looks_5, fun j t ht => by
        rw [Tryz.params5] at ht
        rcases j with _ | _ | j
        · obtain rfl : t = 48 := by simpa using ht.symm
          exact wants_48_5
        · obtain rfl : t = 26 := by simpa using ht.symm
          exact wants_26_5
        · simp at ht⟩)
    goesBy_5
end Go.Proofs.YtaabpahemponkaaGreatDoor
