/-
  No cell of these rows narrows 'for every input' (looked for: loops, veiled, ifaces, maps, wideKeys, modest, calm, conditions, laid).
  DERIVED. THE GIVEN ROWS OF THIS SEAT. 5 by the template 'for every input the law returns true; each argument reads behind the call as it read before'; 0 by the template 'total and deterministic' (their statements: YtfjiblbajgmeiaaTotals.lean).
  GIVEN WITH THE SEED: the statements are not yours to turn. If you find one false, say at which input.
  Laid BY PROGRAM, IN A SANDBOX (cutbox-rows.mjs): the forced cells as the released guide's own fill.sh prints them over the translation 146b097b7ff10270… (all of the seat's roots in one cut). By AI agents, Wed Nov 11 2026. No macro, syntax, notation, axiom, sorry.
-/
import Derived.Test.YtfjiblbajgmeiaaChecked
import GoSem.Claim
import GoSem.ClaimJoined
import GoSem.ClaimMapViews
import Derived.JoinedTies
import Derived.KernelRfl
namespace Go.Proofs.Ytfjiblbajgmeiaa
/- THE CELL 'sum', in the pinned program and in every row, IS THE sha256 OF THE DUMP (.gsa) THAT YtfjiblbajgmeiaaProg.lean LOADS. Nothing in Lean hashes anything: it is a label: what it is worth is what the hold of that sum in a sandbox is worth. -/
noncomputable def Try.pinned : Pinned := { name := "ytfjiblbajgmeiaa", sum := "146b097b7ff10270ae2477441fd9b356abd2cdc163e8f8d90bb80db704a8789e", checked := Try.checked }
namespace Rows
def none {H : Type} : Left H := { results := [], args := [] }

/-- 'escapementlaw20.LogKeeps': WHATEVER THE INPUT: true; the input reads as it did. -/
def logKeepsSpec : ChangeSpec := { name := "logKeeps", fn := fun _ => fun
  | [d1, d2, d3] => { results := [.lit (.bool true)], args := [d1, d2, d3] }
  | _ => none }
def logKeepsRow : OpenClaim := { program := "ytfjiblbajgmeiaa", sum := "146b097b7ff10270ae2477441fd9b356abd2cdc163e8f8d90bb80db704a8789e", func := "escapement/escapementlaw20.LogKeeps", spec := "logKeeps", apart := false }
def LogKeepsSaid : Prop := logKeepsRow.holds Try.pinned (OpenSpec.ofChange logKeepsSpec)

/-- ITS FALSE NEIGHBOUR: 'it returns false'. Refute it at one input. -/
def logKeepsWrong : ChangeSpec := { name := "logKeeps", fn := fun _ => fun
  | [d1, d2, d3] => { results := [.lit (.bool false)], args := [d1, d2, d3] }
  | _ => none }
def LogKeepsWrongFalsely : Prop := logKeepsRow.holds Try.pinned (OpenSpec.ofChange logKeepsWrong)

/-- 'escapementlaw20.LogNew': WHATEVER THE INPUT: true; the input reads as it did. -/
def logNewSpec : ChangeSpec := { name := "logNew", fn := fun _ => fun
  | [d] => { results := [.lit (.bool true)], args := [d] }
  | _ => none }
def logNewRow : OpenClaim := { program := "ytfjiblbajgmeiaa", sum := "146b097b7ff10270ae2477441fd9b356abd2cdc163e8f8d90bb80db704a8789e", func := "escapement/escapementlaw20.LogNew", spec := "logNew", apart := false }
def LogNewSaid : Prop := logNewRow.holds Try.pinned (OpenSpec.ofChange logNewSpec)

/-- ITS FALSE NEIGHBOUR: 'it returns false'. Refute it at one input. -/
def logNewWrong : ChangeSpec := { name := "logNew", fn := fun _ => fun
  | [d] => { results := [.lit (.bool false)], args := [d] }
  | _ => none }
def LogNewWrongFalsely : Prop := logNewRow.holds Try.pinned (OpenSpec.ofChange logNewWrong)

/-- 'escapementlaw20.LogBig': WHATEVER THE INPUT: true; the input reads as it did. -/
def logBigSpec : ChangeSpec := { name := "logBig", fn := fun _ => fun
  | [d1, d2] => { results := [.lit (.bool true)], args := [d1, d2] }
  | _ => none }
def logBigRow : OpenClaim := { program := "ytfjiblbajgmeiaa", sum := "146b097b7ff10270ae2477441fd9b356abd2cdc163e8f8d90bb80db704a8789e", func := "escapement/escapementlaw20.LogBig", spec := "logBig", apart := false }
def LogBigSaid : Prop := logBigRow.holds Try.pinned (OpenSpec.ofChange logBigSpec)

/-- ITS FALSE NEIGHBOUR: 'it returns false'. Refute it at one input. -/
def logBigWrong : ChangeSpec := { name := "logBig", fn := fun _ => fun
  | [d1, d2] => { results := [.lit (.bool false)], args := [d1, d2] }
  | _ => none }
def LogBigWrongFalsely : Prop := logBigRow.holds Try.pinned (OpenSpec.ofChange logBigWrong)

/-- 'escapementlaw20.LogKnown': WHATEVER THE INPUT: true; the input reads as it did. -/
def logKnownSpec : ChangeSpec := { name := "logKnown", fn := fun _ => fun
  | [] => { results := [.lit (.bool true)], args := [] }
  | _ => none }
def logKnownRow : OpenClaim := { program := "ytfjiblbajgmeiaa", sum := "146b097b7ff10270ae2477441fd9b356abd2cdc163e8f8d90bb80db704a8789e", func := "escapement/escapementlaw20.LogKnown", spec := "logKnown", apart := false }
def LogKnownSaid : Prop := logKnownRow.holds Try.pinned (OpenSpec.ofChange logKnownSpec)

/-- ITS FALSE NEIGHBOUR: 'it returns false'. Refute it at one input. -/
def logKnownWrong : ChangeSpec := { name := "logKnown", fn := fun _ => fun
  | [] => { results := [.lit (.bool false)], args := [] }
  | _ => none }
def LogKnownWrongFalsely : Prop := logKnownRow.holds Try.pinned (OpenSpec.ofChange logKnownWrong)

/-- 'escapementlaw20.LogCuts': WHATEVER THE INPUT: true; the input reads as it did. -/
def logCutsSpec : ChangeSpec := { name := "logCuts", fn := fun _ => fun
  | [d1, d2, d3] => { results := [.lit (.bool true)], args := [d1, d2, d3] }
  | _ => none }
def logCutsRow : OpenClaim := { program := "ytfjiblbajgmeiaa", sum := "146b097b7ff10270ae2477441fd9b356abd2cdc163e8f8d90bb80db704a8789e", func := "escapement/escapementlaw20.LogCuts", spec := "logCuts", apart := false }
def LogCutsSaid : Prop := logCutsRow.holds Try.pinned (OpenSpec.ofChange logCutsSpec)

/-- ITS FALSE NEIGHBOUR: 'it returns false'. Refute it at one input. -/
def logCutsWrong : ChangeSpec := { name := "logCuts", fn := fun _ => fun
  | [d1, d2, d3] => { results := [.lit (.bool false)], args := [d1, d2, d3] }
  | _ => none }
def LogCutsWrongFalsely : Prop := logCutsRow.holds Try.pinned (OpenSpec.ofChange logCutsWrong)

/- THE SECOND FORM. 'bulk': how many values and letters a reading holds, each counted each time it is reached (what is shared counts as often as it is met; a slice's spare places count too). A statement '..UptoSaid' is the law's where the arguments, and the package variables that the reading takes, are together of bulk at most 1048576: NARROWER than '..Said'. Prove '..Said' where nothing that the law and all that it calls make is longer than what came in: it says more and counts as full. Else prove '..UptoSaid'. A law counts once. -/
mutual
def uptoBulk {H : Type} : DataW H → Nat
  | .lit (.string bytes) => bytes.length + 1
  | .lit _ => 1
  | .nil => 1
  | .ptr d => uptoBulk d + 1
  | .slice elems spare => uptoBulkAll elems + uptoBulkAll spare + 1
  | .agg parts => uptoBulkAll parts + 1
  | .iface _ d => uptoBulk d + 1
  | .map entries => uptoBulkEntries entries + 1
  | .held _ => 1
def uptoBulkAll {H : Type} : List (DataW H) → Nat
  | [] => 0
  | d :: r => uptoBulk d + uptoBulkAll r
def uptoBulkEntries {H : Type} : List (Lit × DataW H) → Nat
  | [] => 0
  | x :: r => uptoBulkEntry x + uptoBulkEntries r
def uptoBulkEntry {H : Type} : Lit × DataW H → Nat
  | (.string bytes, d) => bytes.length + uptoBulk d + 1
  | (_, d) => uptoBulk d + 1
 end
def uptoSmall : (H : Type) → List (DataW H) → Bool := fun _ ds => decide (uptoBulkAll ds ≤ 1048576)
def OpenSpec.upto (s : _root_.Go.ChangeSpec) : _root_.Go.OpenSpec := { _root_.Go.OpenSpec.ofChange s with cond := some uptoSmall }

/-- 'escapementlaw20.LogKeeps', WHERE WHAT IT READS IS OF BULK AT MOST 1048576: true; the input reads as it did. -/
def logKeepsUptoRow : OpenClaim := { program := "ytfjiblbajgmeiaa", sum := "146b097b7ff10270ae2477441fd9b356abd2cdc163e8f8d90bb80db704a8789e", func := "escapement/escapementlaw20.LogKeeps", spec := "logKeeps", apart := false, narrowed := true }
def LogKeepsUptoSaid : Prop := logKeepsUptoRow.holds Try.pinned (OpenSpec.upto logKeepsSpec)

/-- 'escapementlaw20.LogNew', WHERE WHAT IT READS IS OF BULK AT MOST 1048576: true; the input reads as it did. -/
def logNewUptoRow : OpenClaim := { program := "ytfjiblbajgmeiaa", sum := "146b097b7ff10270ae2477441fd9b356abd2cdc163e8f8d90bb80db704a8789e", func := "escapement/escapementlaw20.LogNew", spec := "logNew", apart := false, narrowed := true }
def LogNewUptoSaid : Prop := logNewUptoRow.holds Try.pinned (OpenSpec.upto logNewSpec)

/-- 'escapementlaw20.LogBig', WHERE WHAT IT READS IS OF BULK AT MOST 1048576: true; the input reads as it did. -/
def logBigUptoRow : OpenClaim := { program := "ytfjiblbajgmeiaa", sum := "146b097b7ff10270ae2477441fd9b356abd2cdc163e8f8d90bb80db704a8789e", func := "escapement/escapementlaw20.LogBig", spec := "logBig", apart := false, narrowed := true }
def LogBigUptoSaid : Prop := logBigUptoRow.holds Try.pinned (OpenSpec.upto logBigSpec)

/-- 'escapementlaw20.LogKnown', WHERE WHAT IT READS IS OF BULK AT MOST 1048576: true; the input reads as it did. -/
def logKnownUptoRow : OpenClaim := { program := "ytfjiblbajgmeiaa", sum := "146b097b7ff10270ae2477441fd9b356abd2cdc163e8f8d90bb80db704a8789e", func := "escapement/escapementlaw20.LogKnown", spec := "logKnown", apart := false, narrowed := true }
def LogKnownUptoSaid : Prop := logKnownUptoRow.holds Try.pinned (OpenSpec.upto logKnownSpec)

/-- 'escapementlaw20.LogCuts', WHERE WHAT IT READS IS OF BULK AT MOST 1048576: true; the input reads as it did. -/
def logCutsUptoRow : OpenClaim := { program := "ytfjiblbajgmeiaa", sum := "146b097b7ff10270ae2477441fd9b356abd2cdc163e8f8d90bb80db704a8789e", func := "escapement/escapementlaw20.LogCuts", spec := "logCuts", apart := false, narrowed := true }
def LogCutsUptoSaid : Prop := logCutsUptoRow.holds Try.pinned (OpenSpec.upto logCutsSpec)

end Rows
end Go.Proofs.Ytfjiblbajgmeiaa
