/-
  No cell of these rows narrows 'for every input' (looked for: loops, veiled, ifaces, maps, wideKeys, modest, calm, conditions, laid).
  DERIVED. THE GIVEN ROWS OF THIS SEAT. 5 by the template 'for every input the law returns true; each argument reads behind the call as it read before'; 0 by the template 'total and deterministic' (their statements: YtmgkhfnhaeplgaaTotals.lean).
  GIVEN WITH THE SEED: the statements are not yours to turn. If you find one false, say at which input.
  Laid BY PROGRAM, IN A SANDBOX (cutbox-rows.mjs): the forced cells as the released guide's own fill.sh prints them over the translation 0f18c9995bb35dad… (all of the seat's roots in one cut). By AI agents, Wed Nov 11 2026. No macro, syntax, notation, axiom, sorry.
-/
import Derived.Test.YtmgkhfnhaeplgaaChecked
import GoSem.Claim
import GoSem.ClaimJoined
import GoSem.ClaimMapViews
import Derived.JoinedTies
import Derived.KernelRfl
namespace Go.Proofs.Ytmgkhfnhaeplgaa
/- THE CELL 'sum', in the pinned program and in every row, IS THE sha256 OF THE DUMP (.gsa) THAT YtmgkhfnhaeplgaaProg.lean LOADS. Nothing in Lean hashes anything: it is a label: what it is worth is what the hold of that sum in a sandbox is worth. -/
noncomputable def Try.pinned : Pinned := { name := "ytmgkhfnhaeplgaa", sum := "0f18c9995bb35dad02b52f77c96d84d8fa838f882e208d8d476eb0f3fd707bb1", checked := Try.checked }
namespace Rows
def none {H : Type} : Left H := { results := [], args := [] }

/-- 'escapementlaw9.IniKnown': WHATEVER THE INPUT: true; the input reads as it did. -/
def iniKnownSpec : ChangeSpec := { name := "iniKnown", fn := fun _ => fun
  | [] => { results := [.lit (.bool true)], args := [] }
  | _ => none }
def iniKnownRow : OpenClaim := { program := "ytmgkhfnhaeplgaa", sum := "0f18c9995bb35dad02b52f77c96d84d8fa838f882e208d8d476eb0f3fd707bb1", func := "escapement/escapementlaw9.IniKnown", spec := "iniKnown", unfollowed := true, recurses := true, apart := false }
def IniKnownSaid : Prop := iniKnownRow.holds Try.pinned (OpenSpec.ofChange iniKnownSpec)

/-- ITS FALSE NEIGHBOUR: 'it returns false'. Refute it at one input. -/
def iniKnownWrong : ChangeSpec := { name := "iniKnown", fn := fun _ => fun
  | [] => { results := [.lit (.bool false)], args := [] }
  | _ => none }
def IniKnownWrongFalsely : Prop := iniKnownRow.holds Try.pinned (OpenSpec.ofChange iniKnownWrong)

/-- 'escapementlaw9.IniSays': WHATEVER THE INPUT: true; the input reads as it did. -/
def iniSaysSpec : ChangeSpec := { name := "iniSays", fn := fun _ => fun
  | [d] => { results := [.lit (.bool true)], args := [d] }
  | _ => none }
def iniSaysRow : OpenClaim := { program := "ytmgkhfnhaeplgaa", sum := "0f18c9995bb35dad02b52f77c96d84d8fa838f882e208d8d476eb0f3fd707bb1", func := "escapement/escapementlaw9.IniSays", spec := "iniSays", unfollowed := true, recurses := true, apart := false }
def IniSaysSaid : Prop := iniSaysRow.holds Try.pinned (OpenSpec.ofChange iniSaysSpec)

/-- ITS FALSE NEIGHBOUR: 'it returns false'. Refute it at one input. -/
def iniSaysWrong : ChangeSpec := { name := "iniSays", fn := fun _ => fun
  | [d] => { results := [.lit (.bool false)], args := [d] }
  | _ => none }
def IniSaysWrongFalsely : Prop := iniSaysRow.holds Try.pinned (OpenSpec.ofChange iniSaysWrong)

/-- 'escapementlaw9.IniRows': WHATEVER THE INPUT: true; the input reads as it did. -/
def iniRowsSpec : ChangeSpec := { name := "iniRows", fn := fun _ => fun
  | [d1, d2, d3] => { results := [.lit (.bool true)], args := [d1, d2, d3] }
  | _ => none }
def iniRowsRow : OpenClaim := { program := "ytmgkhfnhaeplgaa", sum := "0f18c9995bb35dad02b52f77c96d84d8fa838f882e208d8d476eb0f3fd707bb1", func := "escapement/escapementlaw9.IniRows", spec := "iniRows", unfollowed := true, recurses := true, apart := false }
def IniRowsSaid : Prop := iniRowsRow.holds Try.pinned (OpenSpec.ofChange iniRowsSpec)

/-- ITS FALSE NEIGHBOUR: 'it returns false'. Refute it at one input. -/
def iniRowsWrong : ChangeSpec := { name := "iniRows", fn := fun _ => fun
  | [d1, d2, d3] => { results := [.lit (.bool false)], args := [d1, d2, d3] }
  | _ => none }
def IniRowsWrongFalsely : Prop := iniRowsRow.holds Try.pinned (OpenSpec.ofChange iniRowsWrong)

/-- 'escapementlaw9.IniGuards': WHATEVER THE INPUT: true; the input reads as it did. -/
def iniGuardsSpec : ChangeSpec := { name := "iniGuards", fn := fun _ => fun
  | [d1, d2] => { results := [.lit (.bool true)], args := [d1, d2] }
  | _ => none }
def iniGuardsRow : OpenClaim := { program := "ytmgkhfnhaeplgaa", sum := "0f18c9995bb35dad02b52f77c96d84d8fa838f882e208d8d476eb0f3fd707bb1", func := "escapement/escapementlaw9.IniGuards", spec := "iniGuards", unfollowed := true, recurses := true, apart := false }
def IniGuardsSaid : Prop := iniGuardsRow.holds Try.pinned (OpenSpec.ofChange iniGuardsSpec)

/-- ITS FALSE NEIGHBOUR: 'it returns false'. Refute it at one input. -/
def iniGuardsWrong : ChangeSpec := { name := "iniGuards", fn := fun _ => fun
  | [d1, d2] => { results := [.lit (.bool false)], args := [d1, d2] }
  | _ => none }
def IniGuardsWrongFalsely : Prop := iniGuardsRow.holds Try.pinned (OpenSpec.ofChange iniGuardsWrong)

/-- 'escapementlaw9.IniTurned': WHATEVER THE INPUT: true; the input reads as it did. -/
def iniTurnedSpec : ChangeSpec := { name := "iniTurned", fn := fun _ => fun
  | [d] => { results := [.lit (.bool true)], args := [d] }
  | _ => none }
def iniTurnedRow : OpenClaim := { program := "ytmgkhfnhaeplgaa", sum := "0f18c9995bb35dad02b52f77c96d84d8fa838f882e208d8d476eb0f3fd707bb1", func := "escapement/escapementlaw9.IniTurned", spec := "iniTurned", unfollowed := true, recurses := true, apart := false }
def IniTurnedSaid : Prop := iniTurnedRow.holds Try.pinned (OpenSpec.ofChange iniTurnedSpec)

/-- ITS FALSE NEIGHBOUR: 'it returns false'. Refute it at one input. -/
def iniTurnedWrong : ChangeSpec := { name := "iniTurned", fn := fun _ => fun
  | [d] => { results := [.lit (.bool false)], args := [d] }
  | _ => none }
def IniTurnedWrongFalsely : Prop := iniTurnedRow.holds Try.pinned (OpenSpec.ofChange iniTurnedWrong)

/- THE SECOND FORM. 'bulk': how many values and letters a reading holds, each counted each time it is reached (what is shared counts as often as it is met; a slice's spare places count too). A statement '..UptoSaid' is the law's where the arguments, and the package variables that the reading takes, are together of bulk at most 1048576: NARROWER than '..Said'. Prove '..Said' where nothing that the law and all that it calls make is longer than what came in: it says more and counts as full. Else prove '..UptoSaid'. A law counts once. -/
mutual
def uptoBulk {H : Type} : DataW H → Nat
  | .lit (.string bytes) => bytes.length + 1
  | .lit _ => 1
  | .nil => 1
  | .ptr d => uptoBulk d + 1
  | .slice elems spare => uptoBulkAll elems + uptoBulkAll spare + 1
  | .agg parts => uptoBulkAll parts + 1
  | .iface _ d => uptoBulk d + 1
  | .map entries => uptoBulkEntries entries + 1
  | .held _ => 1
def uptoBulkAll {H : Type} : List (DataW H) → Nat
  | [] => 0
  | d :: r => uptoBulk d + uptoBulkAll r
def uptoBulkEntries {H : Type} : List (Lit × DataW H) → Nat
  | [] => 0
  | x :: r => uptoBulkEntry x + uptoBulkEntries r
def uptoBulkEntry {H : Type} : Lit × DataW H → Nat
  | (.string bytes, d) => bytes.length + uptoBulk d + 1
  | (_, d) => uptoBulk d + 1
 end
def uptoSmall : (H : Type) → List (DataW H) → Bool := fun _ ds => decide (uptoBulkAll ds ≤ 1048576)
def OpenSpec.upto (s : _root_.Go.ChangeSpec) : _root_.Go.OpenSpec := { _root_.Go.OpenSpec.ofChange s with cond := some uptoSmall }

/-- 'escapementlaw9.IniKnown', WHERE WHAT IT READS IS OF BULK AT MOST 1048576: true; the input reads as it did. -/
def iniKnownUptoRow : OpenClaim := { program := "ytmgkhfnhaeplgaa", sum := "0f18c9995bb35dad02b52f77c96d84d8fa838f882e208d8d476eb0f3fd707bb1", func := "escapement/escapementlaw9.IniKnown", spec := "iniKnown", unfollowed := true, recurses := true, apart := false, narrowed := true }
def IniKnownUptoSaid : Prop := iniKnownUptoRow.holds Try.pinned (OpenSpec.upto iniKnownSpec)

/-- 'escapementlaw9.IniSays', WHERE WHAT IT READS IS OF BULK AT MOST 1048576: true; the input reads as it did. -/
def iniSaysUptoRow : OpenClaim := { program := "ytmgkhfnhaeplgaa", sum := "0f18c9995bb35dad02b52f77c96d84d8fa838f882e208d8d476eb0f3fd707bb1", func := "escapement/escapementlaw9.IniSays", spec := "iniSays", unfollowed := true, recurses := true, apart := false, narrowed := true }
def IniSaysUptoSaid : Prop := iniSaysUptoRow.holds Try.pinned (OpenSpec.upto iniSaysSpec)

/-- 'escapementlaw9.IniRows', WHERE WHAT IT READS IS OF BULK AT MOST 1048576: true; the input reads as it did. -/
def iniRowsUptoRow : OpenClaim := { program := "ytmgkhfnhaeplgaa", sum := "0f18c9995bb35dad02b52f77c96d84d8fa838f882e208d8d476eb0f3fd707bb1", func := "escapement/escapementlaw9.IniRows", spec := "iniRows", unfollowed := true, recurses := true, apart := false, narrowed := true }
def IniRowsUptoSaid : Prop := iniRowsUptoRow.holds Try.pinned (OpenSpec.upto iniRowsSpec)

/-- 'escapementlaw9.IniGuards', WHERE WHAT IT READS IS OF BULK AT MOST 1048576: true; the input reads as it did. -/
def iniGuardsUptoRow : OpenClaim := { program := "ytmgkhfnhaeplgaa", sum := "0f18c9995bb35dad02b52f77c96d84d8fa838f882e208d8d476eb0f3fd707bb1", func := "escapement/escapementlaw9.IniGuards", spec := "iniGuards", unfollowed := true, recurses := true, apart := false, narrowed := true }
def IniGuardsUptoSaid : Prop := iniGuardsUptoRow.holds Try.pinned (OpenSpec.upto iniGuardsSpec)

/-- 'escapementlaw9.IniTurned', WHERE WHAT IT READS IS OF BULK AT MOST 1048576: true; the input reads as it did. -/
def iniTurnedUptoRow : OpenClaim := { program := "ytmgkhfnhaeplgaa", sum := "0f18c9995bb35dad02b52f77c96d84d8fa838f882e208d8d476eb0f3fd707bb1", func := "escapement/escapementlaw9.IniTurned", spec := "iniTurned", unfollowed := true, recurses := true, apart := false, narrowed := true }
def IniTurnedUptoSaid : Prop := iniTurnedUptoRow.holds Try.pinned (OpenSpec.upto iniTurnedSpec)

end Rows
end Go.Proofs.Ytmgkhfnhaeplgaa
