/-
  No cell of these rows narrows 'for every input' (looked for: loops, veiled, ifaces, maps, wideKeys, modest, calm, conditions, laid).
  DERIVED. THE GIVEN ROWS OF THIS SEAT. 5 by the template 'for every input the law returns true; each argument reads behind the call as it read before'; 0 by the template 'total and deterministic' (their statements: YtkoplehddnhajaaTotals.lean).
  GIVEN WITH THE SEED: the statements are not yours to turn. If you find one false, say at which input.
  Laid BY PROGRAM, IN A SANDBOX (cutbox-rows.mjs): the forced cells as the released guide's own fill.sh prints them over the translation 4ea3a4abaed446da… (all of the seat's roots in one cut). By AI agents, Wed Nov 11 2026. No macro, syntax, notation, axiom, sorry.
-/
import Derived.Test.YtkoplehddnhajaaChecked
import GoSem.Claim
import GoSem.ClaimJoined
import GoSem.ClaimMapViews
import Derived.JoinedTies
import Derived.KernelRfl
namespace Go.Proofs.Ytkoplehddnhajaa
/- THE CELL 'sum', in the pinned program and in every row, IS THE sha256 OF THE DUMP (.gsa) THAT YtkoplehddnhajaaProg.lean LOADS. Nothing in Lean hashes anything: it is a label: what it is worth is what the hold of that sum in a sandbox is worth. -/
noncomputable def Try.pinned : Pinned := { name := "ytkoplehddnhajaa", sum := "4ea3a4abaed446da323bf3deafc4895a4d75305d01c9bdd94eb071adc2cb62e5", checked := Try.checked }
namespace Rows
def none {H : Type} : Left H := { results := [], args := [] }

/-- 'escapementlaw23.BeatKnown': WHATEVER THE INPUT: true; the input reads as it did. -/
def beatKnownSpec : ChangeSpec := { name := "beatKnown", fn := fun _ => fun
  | [] => { results := [.lit (.bool true)], args := [] }
  | _ => none }
def beatKnownRow : OpenClaim := { program := "ytkoplehddnhajaa", sum := "4ea3a4abaed446da323bf3deafc4895a4d75305d01c9bdd94eb071adc2cb62e5", func := "escapement/escapementlaw23.BeatKnown", spec := "beatKnown", unfollowed := true, recurses := true, apart := false }
def BeatKnownSaid : Prop := beatKnownRow.holds Try.pinned (OpenSpec.ofChange beatKnownSpec)

/-- ITS FALSE NEIGHBOUR: 'it returns false'. Refute it at one input. -/
def beatKnownWrong : ChangeSpec := { name := "beatKnown", fn := fun _ => fun
  | [] => { results := [.lit (.bool false)], args := [] }
  | _ => none }
def BeatKnownWrongFalsely : Prop := beatKnownRow.holds Try.pinned (OpenSpec.ofChange beatKnownWrong)

/-- 'escapementlaw23.BeatPlays': WHATEVER THE INPUT: true; the input reads as it did. -/
def beatPlaysSpec : ChangeSpec := { name := "beatPlays", fn := fun _ => fun
  | [d1, d2] => { results := [.lit (.bool true)], args := [d1, d2] }
  | _ => none }
def beatPlaysRow : OpenClaim := { program := "ytkoplehddnhajaa", sum := "4ea3a4abaed446da323bf3deafc4895a4d75305d01c9bdd94eb071adc2cb62e5", func := "escapement/escapementlaw23.BeatPlays", spec := "beatPlays", unfollowed := true, recurses := true, apart := false }
def BeatPlaysSaid : Prop := beatPlaysRow.holds Try.pinned (OpenSpec.ofChange beatPlaysSpec)

/-- ITS FALSE NEIGHBOUR: 'it returns false'. Refute it at one input. -/
def beatPlaysWrong : ChangeSpec := { name := "beatPlays", fn := fun _ => fun
  | [d1, d2] => { results := [.lit (.bool false)], args := [d1, d2] }
  | _ => none }
def BeatPlaysWrongFalsely : Prop := beatPlaysRow.holds Try.pinned (OpenSpec.ofChange beatPlaysWrong)

/-- 'escapementlaw23.BeatDrift': WHATEVER THE INPUT: true; the input reads as it did. -/
def beatDriftSpec : ChangeSpec := { name := "beatDrift", fn := fun _ => fun
  | [d1, d2, d3] => { results := [.lit (.bool true)], args := [d1, d2, d3] }
  | _ => none }
def beatDriftRow : OpenClaim := { program := "ytkoplehddnhajaa", sum := "4ea3a4abaed446da323bf3deafc4895a4d75305d01c9bdd94eb071adc2cb62e5", func := "escapement/escapementlaw23.BeatDrift", spec := "beatDrift", unfollowed := true, recurses := true, apart := false }
def BeatDriftSaid : Prop := beatDriftRow.holds Try.pinned (OpenSpec.ofChange beatDriftSpec)

/-- ITS FALSE NEIGHBOUR: 'it returns false'. Refute it at one input. -/
def beatDriftWrong : ChangeSpec := { name := "beatDrift", fn := fun _ => fun
  | [d1, d2, d3] => { results := [.lit (.bool false)], args := [d1, d2, d3] }
  | _ => none }
def BeatDriftWrongFalsely : Prop := beatDriftRow.holds Try.pinned (OpenSpec.ofChange beatDriftWrong)

/-- 'escapementlaw23.BeatRings': WHATEVER THE INPUT: true; the input reads as it did. -/
def beatRingsSpec : ChangeSpec := { name := "beatRings", fn := fun _ => fun
  | [d1, d2, d3] => { results := [.lit (.bool true)], args := [d1, d2, d3] }
  | _ => none }
def beatRingsRow : OpenClaim := { program := "ytkoplehddnhajaa", sum := "4ea3a4abaed446da323bf3deafc4895a4d75305d01c9bdd94eb071adc2cb62e5", func := "escapement/escapementlaw23.BeatRings", spec := "beatRings", unfollowed := true, recurses := true, apart := false }
def BeatRingsSaid : Prop := beatRingsRow.holds Try.pinned (OpenSpec.ofChange beatRingsSpec)

/-- ITS FALSE NEIGHBOUR: 'it returns false'. Refute it at one input. -/
def beatRingsWrong : ChangeSpec := { name := "beatRings", fn := fun _ => fun
  | [d1, d2, d3] => { results := [.lit (.bool false)], args := [d1, d2, d3] }
  | _ => none }
def BeatRingsWrongFalsely : Prop := beatRingsRow.holds Try.pinned (OpenSpec.ofChange beatRingsWrong)

/-- 'escapementlaw23.BeatStops': WHATEVER THE INPUT: true; the input reads as it did. -/
def beatStopsSpec : ChangeSpec := { name := "beatStops", fn := fun _ => fun
  | [d1, d2] => { results := [.lit (.bool true)], args := [d1, d2] }
  | _ => none }
def beatStopsRow : OpenClaim := { program := "ytkoplehddnhajaa", sum := "4ea3a4abaed446da323bf3deafc4895a4d75305d01c9bdd94eb071adc2cb62e5", func := "escapement/escapementlaw23.BeatStops", spec := "beatStops", unfollowed := true, recurses := true, apart := false }
def BeatStopsSaid : Prop := beatStopsRow.holds Try.pinned (OpenSpec.ofChange beatStopsSpec)

/-- ITS FALSE NEIGHBOUR: 'it returns false'. Refute it at one input. -/
def beatStopsWrong : ChangeSpec := { name := "beatStops", fn := fun _ => fun
  | [d1, d2] => { results := [.lit (.bool false)], args := [d1, d2] }
  | _ => none }
def BeatStopsWrongFalsely : Prop := beatStopsRow.holds Try.pinned (OpenSpec.ofChange beatStopsWrong)

/- THE SECOND FORM. 'bulk': how many values and letters a reading holds, each counted each time it is reached (what is shared counts as often as it is met; a slice's spare places count too). A statement '..UptoSaid' is the law's where the arguments, and the package variables that the reading takes, are together of bulk at most 1048576: NARROWER than '..Said'. Prove '..Said' where nothing that the law and all that it calls make is longer than what came in: it says more and counts as full. Else prove '..UptoSaid'. A law counts once. -/
mutual
def uptoBulk {H : Type} : DataW H → Nat
  | .lit (.string bytes) => bytes.length + 1
  | .lit _ => 1
  | .nil => 1
  | .ptr d => uptoBulk d + 1
  | .slice elems spare => uptoBulkAll elems + uptoBulkAll spare + 1
  | .agg parts => uptoBulkAll parts + 1
  | .iface _ d => uptoBulk d + 1
  | .map entries => uptoBulkEntries entries + 1
  | .held _ => 1
def uptoBulkAll {H : Type} : List (DataW H) → Nat
  | [] => 0
  | d :: r => uptoBulk d + uptoBulkAll r
def uptoBulkEntries {H : Type} : List (Lit × DataW H) → Nat
  | [] => 0
  | x :: r => uptoBulkEntry x + uptoBulkEntries r
def uptoBulkEntry {H : Type} : Lit × DataW H → Nat
  | (.string bytes, d) => bytes.length + uptoBulk d + 1
  | (_, d) => uptoBulk d + 1
 end
def uptoSmall : (H : Type) → List (DataW H) → Bool := fun _ ds => decide (uptoBulkAll ds ≤ 1048576)
def OpenSpec.upto (s : _root_.Go.ChangeSpec) : _root_.Go.OpenSpec := { _root_.Go.OpenSpec.ofChange s with cond := some uptoSmall }

/-- 'escapementlaw23.BeatKnown', WHERE WHAT IT READS IS OF BULK AT MOST 1048576: true; the input reads as it did. -/
def beatKnownUptoRow : OpenClaim := { program := "ytkoplehddnhajaa", sum := "4ea3a4abaed446da323bf3deafc4895a4d75305d01c9bdd94eb071adc2cb62e5", func := "escapement/escapementlaw23.BeatKnown", spec := "beatKnown", unfollowed := true, recurses := true, apart := false, narrowed := true }
def BeatKnownUptoSaid : Prop := beatKnownUptoRow.holds Try.pinned (OpenSpec.upto beatKnownSpec)

/-- 'escapementlaw23.BeatPlays', WHERE WHAT IT READS IS OF BULK AT MOST 1048576: true; the input reads as it did. -/
def beatPlaysUptoRow : OpenClaim := { program := "ytkoplehddnhajaa", sum := "4ea3a4abaed446da323bf3deafc4895a4d75305d01c9bdd94eb071adc2cb62e5", func := "escapement/escapementlaw23.BeatPlays", spec := "beatPlays", unfollowed := true, recurses := true, apart := false, narrowed := true }
def BeatPlaysUptoSaid : Prop := beatPlaysUptoRow.holds Try.pinned (OpenSpec.upto beatPlaysSpec)

/-- 'escapementlaw23.BeatDrift', WHERE WHAT IT READS IS OF BULK AT MOST 1048576: true; the input reads as it did. -/
def beatDriftUptoRow : OpenClaim := { program := "ytkoplehddnhajaa", sum := "4ea3a4abaed446da323bf3deafc4895a4d75305d01c9bdd94eb071adc2cb62e5", func := "escapement/escapementlaw23.BeatDrift", spec := "beatDrift", unfollowed := true, recurses := true, apart := false, narrowed := true }
def BeatDriftUptoSaid : Prop := beatDriftUptoRow.holds Try.pinned (OpenSpec.upto beatDriftSpec)

/-- 'escapementlaw23.BeatRings', WHERE WHAT IT READS IS OF BULK AT MOST 1048576: true; the input reads as it did. -/
def beatRingsUptoRow : OpenClaim := { program := "ytkoplehddnhajaa", sum := "4ea3a4abaed446da323bf3deafc4895a4d75305d01c9bdd94eb071adc2cb62e5", func := "escapement/escapementlaw23.BeatRings", spec := "beatRings", unfollowed := true, recurses := true, apart := false, narrowed := true }
def BeatRingsUptoSaid : Prop := beatRingsUptoRow.holds Try.pinned (OpenSpec.upto beatRingsSpec)

/-- 'escapementlaw23.BeatStops', WHERE WHAT IT READS IS OF BULK AT MOST 1048576: true; the input reads as it did. -/
def beatStopsUptoRow : OpenClaim := { program := "ytkoplehddnhajaa", sum := "4ea3a4abaed446da323bf3deafc4895a4d75305d01c9bdd94eb071adc2cb62e5", func := "escapement/escapementlaw23.BeatStops", spec := "beatStops", unfollowed := true, recurses := true, apart := false, narrowed := true }
def BeatStopsUptoSaid : Prop := beatStopsUptoRow.holds Try.pinned (OpenSpec.upto beatStopsSpec)

end Rows
end Go.Proofs.Ytkoplehddnhajaa
