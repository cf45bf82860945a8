/-
  No cell of these rows narrows 'for every input' (looked for: loops, veiled, ifaces, maps, wideKeys, modest, calm, conditions, laid).
  DERIVED. THE GIVEN ROWS OF THIS SEAT. 7 by the template 'for every input the law returns true; each argument reads behind the call as it read before'; 0 by the template 'total and deterministic' (their statements: YtninbaljejeneaaTotals.lean).
  GIVEN WITH THE SEED: the statements are not yours to turn. If you find one false, say at which input.
  Laid BY PROGRAM, IN A SANDBOX (cutbox-rows.mjs): the forced cells as the released guide's own fill.sh prints them over the translation 2be128e274b31734… (all of the seat's roots in one cut). By AI agents, Wed Nov 11 2026. No macro, syntax, notation, axiom, sorry.
-/
import Derived.Test.YtninbaljejeneaaChecked
import GoSem.Claim
import GoSem.ClaimJoined
import GoSem.ClaimMapViews
import Derived.JoinedTies
import Derived.KernelRfl
namespace Go.Proofs.Ytninbaljejeneaa
/- THE CELL 'sum', in the pinned program and in every row, IS THE sha256 OF THE DUMP (.gsa) THAT YtninbaljejeneaaProg.lean LOADS. Nothing in Lean hashes anything: it is a label: what it is worth is what the hold of that sum in a sandbox is worth. -/
noncomputable def Try.pinned : Pinned := { name := "ytninbaljejeneaa", sum := "2be128e274b31734f05b55e521e6c17c0e7bd793bcd5b670eeb74517acd060e8", checked := Try.checked }
namespace Rows
def none {H : Type} : Left H := { results := [], args := [] }

/-- 'escapementlaw2.SumKnown': WHATEVER THE INPUT: true; the input reads as it did. -/
def sumKnownSpec : ChangeSpec := { name := "sumKnown", fn := fun _ => fun
  | [] => { results := [.lit (.bool true)], args := [] }
  | _ => none }
def sumKnownRow : OpenClaim := { program := "ytninbaljejeneaa", sum := "2be128e274b31734f05b55e521e6c17c0e7bd793bcd5b670eeb74517acd060e8", func := "escapement/escapementlaw2.SumKnown", spec := "sumKnown", apart := false }
def SumKnownSaid : Prop := sumKnownRow.holds Try.pinned (OpenSpec.ofChange sumKnownSpec)

/-- ITS FALSE NEIGHBOUR: 'it returns false'. Refute it at one input. -/
def sumKnownWrong : ChangeSpec := { name := "sumKnown", fn := fun _ => fun
  | [] => { results := [.lit (.bool false)], args := [] }
  | _ => none }
def SumKnownWrongFalsely : Prop := sumKnownRow.holds Try.pinned (OpenSpec.ofChange sumKnownWrong)

/-- 'escapementlaw2.SumFrames': WHATEVER THE INPUT: true; the input reads as it did. -/
def sumFramesSpec : ChangeSpec := { name := "sumFrames", fn := fun _ => fun
  | [d1, d2, d3] => { results := [.lit (.bool true)], args := [d1, d2, d3] }
  | _ => none }
def sumFramesRow : OpenClaim := { program := "ytninbaljejeneaa", sum := "2be128e274b31734f05b55e521e6c17c0e7bd793bcd5b670eeb74517acd060e8", func := "escapement/escapementlaw2.SumFrames", spec := "sumFrames", apart := false }
def SumFramesSaid : Prop := sumFramesRow.holds Try.pinned (OpenSpec.ofChange sumFramesSpec)

/-- ITS FALSE NEIGHBOUR: 'it returns false'. Refute it at one input. -/
def sumFramesWrong : ChangeSpec := { name := "sumFrames", fn := fun _ => fun
  | [d1, d2, d3] => { results := [.lit (.bool false)], args := [d1, d2, d3] }
  | _ => none }
def SumFramesWrongFalsely : Prop := sumFramesRow.holds Try.pinned (OpenSpec.ofChange sumFramesWrong)

/-- 'escapementlaw2.SumAll': WHATEVER THE INPUT: true; the input reads as it did. -/
def sumAllSpec : ChangeSpec := { name := "sumAll", fn := fun _ => fun
  | [d1, d2, d3, d4, d5] => { results := [.lit (.bool true)], args := [d1, d2, d3, d4, d5] }
  | _ => none }
def sumAllRow : OpenClaim := { program := "ytninbaljejeneaa", sum := "2be128e274b31734f05b55e521e6c17c0e7bd793bcd5b670eeb74517acd060e8", func := "escapement/escapementlaw2.SumAll", spec := "sumAll", apart := false }
def SumAllSaid : Prop := sumAllRow.holds Try.pinned (OpenSpec.ofChange sumAllSpec)

/-- ITS FALSE NEIGHBOUR: 'it returns false'. Refute it at one input. -/
def sumAllWrong : ChangeSpec := { name := "sumAll", fn := fun _ => fun
  | [d1, d2, d3, d4, d5] => { results := [.lit (.bool false)], args := [d1, d2, d3, d4, d5] }
  | _ => none }
def SumAllWrongFalsely : Prop := sumAllRow.holds Try.pinned (OpenSpec.ofChange sumAllWrong)

/-- 'escapementlaw2.SumSpoilt': WHATEVER THE INPUT: true; the input reads as it did. -/
def sumSpoiltSpec : ChangeSpec := { name := "sumSpoilt", fn := fun _ => fun
  | [d1, d2, d3] => { results := [.lit (.bool true)], args := [d1, d2, d3] }
  | _ => none }
def sumSpoiltRow : OpenClaim := { program := "ytninbaljejeneaa", sum := "2be128e274b31734f05b55e521e6c17c0e7bd793bcd5b670eeb74517acd060e8", func := "escapement/escapementlaw2.SumSpoilt", spec := "sumSpoilt", apart := false }
def SumSpoiltSaid : Prop := sumSpoiltRow.holds Try.pinned (OpenSpec.ofChange sumSpoiltSpec)

/-- ITS FALSE NEIGHBOUR: 'it returns false'. Refute it at one input. -/
def sumSpoiltWrong : ChangeSpec := { name := "sumSpoilt", fn := fun _ => fun
  | [d1, d2, d3] => { results := [.lit (.bool false)], args := [d1, d2, d3] }
  | _ => none }
def SumSpoiltWrongFalsely : Prop := sumSpoiltRow.holds Try.pinned (OpenSpec.ofChange sumSpoiltWrong)

/-- 'escapementlaw2.SumApart': WHATEVER THE INPUT: true; the input reads as it did. -/
def sumApartSpec : ChangeSpec := { name := "sumApart", fn := fun _ => fun
  | [d1, d2, d3, d4] => { results := [.lit (.bool true)], args := [d1, d2, d3, d4] }
  | _ => none }
def sumApartRow : OpenClaim := { program := "ytninbaljejeneaa", sum := "2be128e274b31734f05b55e521e6c17c0e7bd793bcd5b670eeb74517acd060e8", func := "escapement/escapementlaw2.SumApart", spec := "sumApart", apart := false }
def SumApartSaid : Prop := sumApartRow.holds Try.pinned (OpenSpec.ofChange sumApartSpec)

/-- ITS FALSE NEIGHBOUR: 'it returns false'. Refute it at one input. -/
def sumApartWrong : ChangeSpec := { name := "sumApart", fn := fun _ => fun
  | [d1, d2, d3, d4] => { results := [.lit (.bool false)], args := [d1, d2, d3, d4] }
  | _ => none }
def SumApartWrongFalsely : Prop := sumApartRow.holds Try.pinned (OpenSpec.ofChange sumApartWrong)

/-- 'escapementlaw2.SumOrder': WHATEVER THE INPUT: true; the input reads as it did. -/
def sumOrderSpec : ChangeSpec := { name := "sumOrder", fn := fun _ => fun
  | [d1, d2, d3] => { results := [.lit (.bool true)], args := [d1, d2, d3] }
  | _ => none }
def sumOrderRow : OpenClaim := { program := "ytninbaljejeneaa", sum := "2be128e274b31734f05b55e521e6c17c0e7bd793bcd5b670eeb74517acd060e8", func := "escapement/escapementlaw2.SumOrder", spec := "sumOrder", apart := false }
def SumOrderSaid : Prop := sumOrderRow.holds Try.pinned (OpenSpec.ofChange sumOrderSpec)

/-- ITS FALSE NEIGHBOUR: 'it returns false'. Refute it at one input. -/
def sumOrderWrong : ChangeSpec := { name := "sumOrder", fn := fun _ => fun
  | [d1, d2, d3] => { results := [.lit (.bool false)], args := [d1, d2, d3] }
  | _ => none }
def SumOrderWrongFalsely : Prop := sumOrderRow.holds Try.pinned (OpenSpec.ofChange sumOrderWrong)

/-- 'escapementlaw2.SumCut': WHATEVER THE INPUT: true; the input reads as it did. -/
def sumCutSpec : ChangeSpec := { name := "sumCut", fn := fun _ => fun
  | [d1, d2, d3] => { results := [.lit (.bool true)], args := [d1, d2, d3] }
  | _ => none }
def sumCutRow : OpenClaim := { program := "ytninbaljejeneaa", sum := "2be128e274b31734f05b55e521e6c17c0e7bd793bcd5b670eeb74517acd060e8", func := "escapement/escapementlaw2.SumCut", spec := "sumCut", apart := false }
def SumCutSaid : Prop := sumCutRow.holds Try.pinned (OpenSpec.ofChange sumCutSpec)

/-- ITS FALSE NEIGHBOUR: 'it returns false'. Refute it at one input. -/
def sumCutWrong : ChangeSpec := { name := "sumCut", fn := fun _ => fun
  | [d1, d2, d3] => { results := [.lit (.bool false)], args := [d1, d2, d3] }
  | _ => none }
def SumCutWrongFalsely : Prop := sumCutRow.holds Try.pinned (OpenSpec.ofChange sumCutWrong)

/- THE SECOND FORM. 'bulk': how many values and letters a reading holds, each counted each time it is reached (what is shared counts as often as it is met; a slice's spare places count too). A statement '..UptoSaid' is the law's where the arguments, and the package variables that the reading takes, are together of bulk at most 1048576: NARROWER than '..Said'. Prove '..Said' where nothing that the law and all that it calls make is longer than what came in: it says more and counts as full. Else prove '..UptoSaid'. A law counts once. -/
mutual
def uptoBulk {H : Type} : DataW H → Nat
  | .lit (.string bytes) => bytes.length + 1
  | .lit _ => 1
  | .nil => 1
  | .ptr d => uptoBulk d + 1
  | .slice elems spare => uptoBulkAll elems + uptoBulkAll spare + 1
  | .agg parts => uptoBulkAll parts + 1
  | .iface _ d => uptoBulk d + 1
  | .map entries => uptoBulkEntries entries + 1
  | .held _ => 1
def uptoBulkAll {H : Type} : List (DataW H) → Nat
  | [] => 0
  | d :: r => uptoBulk d + uptoBulkAll r
def uptoBulkEntries {H : Type} : List (Lit × DataW H) → Nat
  | [] => 0
  | x :: r => uptoBulkEntry x + uptoBulkEntries r
def uptoBulkEntry {H : Type} : Lit × DataW H → Nat
  | (.string bytes, d) => bytes.length + uptoBulk d + 1
  | (_, d) => uptoBulk d + 1
 end
def uptoSmall : (H : Type) → List (DataW H) → Bool := fun _ ds => decide (uptoBulkAll ds ≤ 1048576)
def OpenSpec.upto (s : _root_.Go.ChangeSpec) : _root_.Go.OpenSpec := { _root_.Go.OpenSpec.ofChange s with cond := some uptoSmall }

/-- 'escapementlaw2.SumKnown', WHERE WHAT IT READS IS OF BULK AT MOST 1048576: true; the input reads as it did. -/
def sumKnownUptoRow : OpenClaim := { program := "ytninbaljejeneaa", sum := "2be128e274b31734f05b55e521e6c17c0e7bd793bcd5b670eeb74517acd060e8", func := "escapement/escapementlaw2.SumKnown", spec := "sumKnown", apart := false, narrowed := true }
def SumKnownUptoSaid : Prop := sumKnownUptoRow.holds Try.pinned (OpenSpec.upto sumKnownSpec)

/-- 'escapementlaw2.SumFrames', WHERE WHAT IT READS IS OF BULK AT MOST 1048576: true; the input reads as it did. -/
def sumFramesUptoRow : OpenClaim := { program := "ytninbaljejeneaa", sum := "2be128e274b31734f05b55e521e6c17c0e7bd793bcd5b670eeb74517acd060e8", func := "escapement/escapementlaw2.SumFrames", spec := "sumFrames", apart := false, narrowed := true }
def SumFramesUptoSaid : Prop := sumFramesUptoRow.holds Try.pinned (OpenSpec.upto sumFramesSpec)

/-- 'escapementlaw2.SumAll', WHERE WHAT IT READS IS OF BULK AT MOST 1048576: true; the input reads as it did. -/
def sumAllUptoRow : OpenClaim := { program := "ytninbaljejeneaa", sum := "2be128e274b31734f05b55e521e6c17c0e7bd793bcd5b670eeb74517acd060e8", func := "escapement/escapementlaw2.SumAll", spec := "sumAll", apart := false, narrowed := true }
def SumAllUptoSaid : Prop := sumAllUptoRow.holds Try.pinned (OpenSpec.upto sumAllSpec)

/-- 'escapementlaw2.SumSpoilt', WHERE WHAT IT READS IS OF BULK AT MOST 1048576: true; the input reads as it did. -/
def sumSpoiltUptoRow : OpenClaim := { program := "ytninbaljejeneaa", sum := "2be128e274b31734f05b55e521e6c17c0e7bd793bcd5b670eeb74517acd060e8", func := "escapement/escapementlaw2.SumSpoilt", spec := "sumSpoilt", apart := false, narrowed := true }
def SumSpoiltUptoSaid : Prop := sumSpoiltUptoRow.holds Try.pinned (OpenSpec.upto sumSpoiltSpec)

/-- 'escapementlaw2.SumApart', WHERE WHAT IT READS IS OF BULK AT MOST 1048576: true; the input reads as it did. -/
def sumApartUptoRow : OpenClaim := { program := "ytninbaljejeneaa", sum := "2be128e274b31734f05b55e521e6c17c0e7bd793bcd5b670eeb74517acd060e8", func := "escapement/escapementlaw2.SumApart", spec := "sumApart", apart := false, narrowed := true }
def SumApartUptoSaid : Prop := sumApartUptoRow.holds Try.pinned (OpenSpec.upto sumApartSpec)

/-- 'escapementlaw2.SumOrder', WHERE WHAT IT READS IS OF BULK AT MOST 1048576: true; the input reads as it did. -/
def sumOrderUptoRow : OpenClaim := { program := "ytninbaljejeneaa", sum := "2be128e274b31734f05b55e521e6c17c0e7bd793bcd5b670eeb74517acd060e8", func := "escapement/escapementlaw2.SumOrder", spec := "sumOrder", apart := false, narrowed := true }
def SumOrderUptoSaid : Prop := sumOrderUptoRow.holds Try.pinned (OpenSpec.upto sumOrderSpec)

/-- 'escapementlaw2.SumCut', WHERE WHAT IT READS IS OF BULK AT MOST 1048576: true; the input reads as it did. -/
def sumCutUptoRow : OpenClaim := { program := "ytninbaljejeneaa", sum := "2be128e274b31734f05b55e521e6c17c0e7bd793bcd5b670eeb74517acd060e8", func := "escapement/escapementlaw2.SumCut", spec := "sumCut", apart := false, narrowed := true }
def SumCutUptoSaid : Prop := sumCutUptoRow.holds Try.pinned (OpenSpec.upto sumCutSpec)

end Rows
end Go.Proofs.Ytninbaljejeneaa
