/-
  DERIVED. GIVEN WITH THE SEED: THE CARDS: each row of YtaabpahemponkaaGreatDoorRows.lean that lists a variable, with what it lists TIED to the program's text (the seventh form; the later family's looks); each row that meets fmt, with fmt's text TOLD by the authors' own Lean function (tested against real Go, not proved from fmt's source: count such statements apart). THE CARD IS WHAT COUNTS. Prove the row's statement (the work); the ties are given (YtaabpahemponkaaGreatDoorTie.lean); close each card by the builder's one call (the guide's Derived/Test/ToyasCard.lean, 'card_holds'). Laid BY PROGRAM, IN A SANDBOX (cutbox-door.mjs). By AI agents, Wed Nov 11 2026. No macro, syntax, notation, axiom, sorry.
-/
import Derived.Test.YtaabpahemponkaaGreatDoorRows
import GoSem.ClaimSeven
namespace Go.Proofs.YtaabpahemponkaaGreatDoor
namespace Rows

/-- THE TIED CARD OF 'escapementtop.TopFirst'. -/
def topFirstCard : Claim7 := { stood := { row := topFirstRow, standIns := [], harness := (true, "9006dc58c18ef39113e6e155c9075b6d8dc49e55133e119c6fa3683ed861f55d"), looks := true }, kinds := [], alts := [], laidByText := true, laidKinds := [.pinned, .data, .sentinel, .sentinel, .data, .data, .data], laidTests := true, laidLooks := .later }
def TopFirstCardSaid : Prop := Claim7.holds Tryz.pinned (.plain (OpenSpec.ofChange topFirstSpec)) topFirstCard

/-- THE TIED CARD OF 'escapementtop.TopDelay'. -/
def topDelayCard : Claim7 := { stood := { row := topDelayRow, standIns := [], harness := (true, "9006dc58c18ef39113e6e155c9075b6d8dc49e55133e119c6fa3683ed861f55d"), looks := true }, kinds := [], alts := [], laidByText := true, laidKinds := [.pinned, .data, .sentinel, .sentinel, .data, .data, .data], laidTests := true, laidLooks := .later }
def TopDelayCardSaid : Prop := Claim7.holds Tryz.pinned (.plain (OpenSpec.ofChange topDelaySpec)) topDelayCard

/-- THE TIED CARD OF 'escapementtop.TopHold'. -/
def topHoldCard : Claim7 := { stood := { row := topHoldRow, standIns := [], harness := (true, "9006dc58c18ef39113e6e155c9075b6d8dc49e55133e119c6fa3683ed861f55d"), looks := true }, kinds := [], alts := [], laidByText := true, laidKinds := [.pinned, .data, .sentinel, .sentinel, .data, .data, .data], laidTests := true, laidLooks := .later }
def TopHoldCardSaid : Prop := Claim7.holds Tryz.pinned (.plain (OpenSpec.ofChange topHoldSpec)) topHoldCard

/-- THE TIED CARD OF 'escapementtop.TopTurned'. -/
def topTurnedCard : Claim7 := { stood := { row := topTurnedRow, standIns := [], harness := (true, "9006dc58c18ef39113e6e155c9075b6d8dc49e55133e119c6fa3683ed861f55d"), looks := true }, kinds := [], alts := [], laidByText := true, laidKinds := [.pinned, .data, .sentinel, .sentinel, .data, .data, .data], laidTests := true, laidLooks := .later }
def TopTurnedCardSaid : Prop := Claim7.holds Tryz.pinned (.plain (OpenSpec.ofChange topTurnedSpec)) topTurnedCard

/-- THE SECOND FORM's CARD OF 'escapementtop.TopFirst'. -/
def topFirstUptoCard : Claim7 := { stood := { row := topFirstUptoRow, standIns := [], harness := (true, "9006dc58c18ef39113e6e155c9075b6d8dc49e55133e119c6fa3683ed861f55d"), looks := true }, kinds := [], alts := [], laidByText := true, laidKinds := [.pinned, .data, .sentinel, .sentinel, .data, .data, .data], laidTests := true, laidLooks := .later }
def TopFirstUptoCardSaid : Prop := Claim7.holds Tryz.pinned (.plain (OpenSpec.upto topFirstSpec)) topFirstUptoCard

/-- THE SECOND FORM's CARD OF 'escapementtop.TopDelay'. -/
def topDelayUptoCard : Claim7 := { stood := { row := topDelayUptoRow, standIns := [], harness := (true, "9006dc58c18ef39113e6e155c9075b6d8dc49e55133e119c6fa3683ed861f55d"), looks := true }, kinds := [], alts := [], laidByText := true, laidKinds := [.pinned, .data, .sentinel, .sentinel, .data, .data, .data], laidTests := true, laidLooks := .later }
def TopDelayUptoCardSaid : Prop := Claim7.holds Tryz.pinned (.plain (OpenSpec.upto topDelaySpec)) topDelayUptoCard

/-- THE SECOND FORM's CARD OF 'escapementtop.TopHold'. -/
def topHoldUptoCard : Claim7 := { stood := { row := topHoldUptoRow, standIns := [], harness := (true, "9006dc58c18ef39113e6e155c9075b6d8dc49e55133e119c6fa3683ed861f55d"), looks := true }, kinds := [], alts := [], laidByText := true, laidKinds := [.pinned, .data, .sentinel, .sentinel, .data, .data, .data], laidTests := true, laidLooks := .later }
def TopHoldUptoCardSaid : Prop := Claim7.holds Tryz.pinned (.plain (OpenSpec.upto topHoldSpec)) topHoldUptoCard

/-- THE SECOND FORM's CARD OF 'escapementtop.TopTurned'. -/
def topTurnedUptoCard : Claim7 := { stood := { row := topTurnedUptoRow, standIns := [], harness := (true, "9006dc58c18ef39113e6e155c9075b6d8dc49e55133e119c6fa3683ed861f55d"), looks := true }, kinds := [], alts := [], laidByText := true, laidKinds := [.pinned, .data, .sentinel, .sentinel, .data, .data, .data], laidTests := true, laidLooks := .later }
def TopTurnedUptoCardSaid : Prop := Claim7.holds Tryz.pinned (.plain (OpenSpec.upto topTurnedSpec)) topTurnedUptoCard
end Rows
end Go.Proofs.YtaabpahemponkaaGreatDoor
