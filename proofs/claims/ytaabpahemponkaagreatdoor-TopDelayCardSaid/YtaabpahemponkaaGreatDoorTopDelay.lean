/-
  TopDelay: whatever the input, the law returns true: the tied card. Conditions: none beyond the statement's own.
-/
import Derived.Test.YtaabpahemponkaaGreatDoorCards
import Derived.Test.YtaabpahemponkaaGreatDoorDwK
import Derived.Test.YtaabpahemponkaaGreatDoorDwJ
import Derived.Test.YtaabpahemponkaaGreatDoorDwH
import Derived.Test.YtaabpahemponkaaGreatDoorTiG
set_option linter.unusedVariables false
set_option linter.unusedSimpArgs false
set_option maxRecDepth 100000
namespace Go.Proofs.YtaabpahemponkaaGreatDoor
open Go Go.ChangeShapes Go.WideShapes Go.ChangeAt Go.RowKit Go.Clo
theorem goesBy_4 : false = Rows.topDelayRow.goesBy Tryz.prog := by
  unfold OpenClaim.goesBy Program.goesAt Program.goesFrom
  rw [show Tryz.prog.funcNamed Rows.topDelayRow.func = some 4 from fnamed_4]
  show false = ((some 4).any Tryz.prog.goes || false)
  rw [Option.any_some, goes4]
  rfl
theorem topDelay_card : Rows.TopDelayCardSaid :=
  Claim7.holds_tied_plain_at .later [] [.pinned, .data, .sentinel, .sentinel, .data, .data, .data] true (true, "9006dc58c18ef39113e6e155c9075b6d8dc49e55133e119c6fa3683ed861f55d") true
    topDelay_row (fun _ h => by cases h) card_wf_4 (fun _ h => by cases h) topDelay_row_tie_x rfl ⟨rfl, rfl⟩ card_main_4 rfl
    (fun f fn hf hfn => by
      obtain rfl : f = 4 := Option.some.inj ((show Tryz.prog.funcNamed Rows.topDelayRow.func = some 4 from fnamed_4).symm.trans hf) |>.symm
      obtain rfl : fn = Tryz.f4 := (Option.some.inj (Tryz.func4.symm.trans hfn)).symm
      exact ⟨card_looks_4, fun j t ht => by
        rw [Tryz.params4] at ht
        rcases j with _ | j
        · obtain rfl : t = 26 := by simpa using ht.symm
          exact wants_26_4
        · simp at ht⟩)
    goesBy_4
end Go.Proofs.YtaabpahemponkaaGreatDoor
