/-
  No cell of these rows narrows 'for every input' (looked for: loops, veiled, ifaces, maps, wideKeys, modest, calm, conditions, laid).
  DERIVED. THE GIVEN ROWS OF THIS SEAT. 5 by the template 'for every input the law returns true; each argument reads behind the call as it read before'; 0 by the template 'total and deterministic' (their statements: YtipjoghlmgmhaaaTotals.lean).
  GIVEN WITH THE SEED: the statements are not yours to turn. If you find one false, say at which input.
  Laid BY PROGRAM, IN A SANDBOX (cutbox-rows.mjs): the forced cells as the released guide's own fill.sh prints them over the translation 2b10c9dd9122acb3… (all of the seat's roots in one cut). By AI agents, Wed Nov 11 2026. No macro, syntax, notation, axiom, sorry.
-/
import Derived.Test.YtipjoghlmgmhaaaChecked
import GoSem.Claim
import GoSem.ClaimJoined
import GoSem.ClaimMapViews
import Derived.JoinedTies
import Derived.KernelRfl
namespace Go.Proofs.Ytipjoghlmgmhaaa
/- THE CELL 'sum', in the pinned program and in every row, IS THE sha256 OF THE DUMP (.gsa) THAT YtipjoghlmgmhaaaProg.lean LOADS. Nothing in Lean hashes anything: it is a label: what it is worth is what the hold of that sum in a sandbox is worth. -/
noncomputable def Try.pinned : Pinned := { name := "ytipjoghlmgmhaaa", sum := "2b10c9dd9122acb3782b95381e5ac58d744d8a4c60a1859b6e1b2781275dfdbd", checked := Try.checked }
namespace Rows
def none {H : Type} : Left H := { results := [], args := [] }

/-- 'escapementlaw21.CkptTurns': WHATEVER THE INPUT: true; the input reads as it did. -/
def ckptTurnsSpec : ChangeSpec := { name := "ckptTurns", fn := fun _ => fun
  | [d] => { results := [.lit (.bool true)], args := [d] }
  | _ => none }
def ckptTurnsRow : OpenClaim := { program := "ytipjoghlmgmhaaa", sum := "2b10c9dd9122acb3782b95381e5ac58d744d8a4c60a1859b6e1b2781275dfdbd", func := "escapement/escapementlaw21.CkptTurns", spec := "ckptTurns", apart := false }
def CkptTurnsSaid : Prop := ckptTurnsRow.holds Try.pinned (OpenSpec.ofChange ckptTurnsSpec)

/-- ITS FALSE NEIGHBOUR: 'it returns false'. Refute it at one input. -/
def ckptTurnsWrong : ChangeSpec := { name := "ckptTurns", fn := fun _ => fun
  | [d] => { results := [.lit (.bool false)], args := [d] }
  | _ => none }
def CkptTurnsWrongFalsely : Prop := ckptTurnsRow.holds Try.pinned (OpenSpec.ofChange ckptTurnsWrong)

/-- 'escapementlaw21.CkptBig': WHATEVER THE INPUT: true; the input reads as it did. -/
def ckptBigSpec : ChangeSpec := { name := "ckptBig", fn := fun _ => fun
  | [d1, d2] => { results := [.lit (.bool true)], args := [d1, d2] }
  | _ => none }
def ckptBigRow : OpenClaim := { program := "ytipjoghlmgmhaaa", sum := "2b10c9dd9122acb3782b95381e5ac58d744d8a4c60a1859b6e1b2781275dfdbd", func := "escapement/escapementlaw21.CkptBig", spec := "ckptBig", apart := false }
def CkptBigSaid : Prop := ckptBigRow.holds Try.pinned (OpenSpec.ofChange ckptBigSpec)

/-- ITS FALSE NEIGHBOUR: 'it returns false'. Refute it at one input. -/
def ckptBigWrong : ChangeSpec := { name := "ckptBig", fn := fun _ => fun
  | [d1, d2] => { results := [.lit (.bool false)], args := [d1, d2] }
  | _ => none }
def CkptBigWrongFalsely : Prop := ckptBigRow.holds Try.pinned (OpenSpec.ofChange ckptBigWrong)

/-- 'escapementlaw21.CkptKnown': WHATEVER THE INPUT: true; the input reads as it did. -/
def ckptKnownSpec : ChangeSpec := { name := "ckptKnown", fn := fun _ => fun
  | [] => { results := [.lit (.bool true)], args := [] }
  | _ => none }
def ckptKnownRow : OpenClaim := { program := "ytipjoghlmgmhaaa", sum := "2b10c9dd9122acb3782b95381e5ac58d744d8a4c60a1859b6e1b2781275dfdbd", func := "escapement/escapementlaw21.CkptKnown", spec := "ckptKnown", apart := false }
def CkptKnownSaid : Prop := ckptKnownRow.holds Try.pinned (OpenSpec.ofChange ckptKnownSpec)

/-- ITS FALSE NEIGHBOUR: 'it returns false'. Refute it at one input. -/
def ckptKnownWrong : ChangeSpec := { name := "ckptKnown", fn := fun _ => fun
  | [] => { results := [.lit (.bool false)], args := [] }
  | _ => none }
def CkptKnownWrongFalsely : Prop := ckptKnownRow.holds Try.pinned (OpenSpec.ofChange ckptKnownWrong)

/-- 'escapementlaw21.CkptPlays': WHATEVER THE INPUT: true; the input reads as it did. -/
def ckptPlaysSpec : ChangeSpec := { name := "ckptPlays", fn := fun _ => fun
  | [d] => { results := [.lit (.bool true)], args := [d] }
  | _ => none }
def ckptPlaysRow : OpenClaim := { program := "ytipjoghlmgmhaaa", sum := "2b10c9dd9122acb3782b95381e5ac58d744d8a4c60a1859b6e1b2781275dfdbd", func := "escapement/escapementlaw21.CkptPlays", spec := "ckptPlays", apart := false }
def CkptPlaysSaid : Prop := ckptPlaysRow.holds Try.pinned (OpenSpec.ofChange ckptPlaysSpec)

/-- ITS FALSE NEIGHBOUR: 'it returns false'. Refute it at one input. -/
def ckptPlaysWrong : ChangeSpec := { name := "ckptPlays", fn := fun _ => fun
  | [d] => { results := [.lit (.bool false)], args := [d] }
  | _ => none }
def CkptPlaysWrongFalsely : Prop := ckptPlaysRow.holds Try.pinned (OpenSpec.ofChange ckptPlaysWrong)

/-- 'escapementlaw21.CkptKeeps': WHATEVER THE INPUT: true; the input reads as it did. -/
def ckptKeepsSpec : ChangeSpec := { name := "ckptKeeps", fn := fun _ => fun
  | [d1, d2, d3, d4] => { results := [.lit (.bool true)], args := [d1, d2, d3, d4] }
  | _ => none }
def ckptKeepsRow : OpenClaim := { program := "ytipjoghlmgmhaaa", sum := "2b10c9dd9122acb3782b95381e5ac58d744d8a4c60a1859b6e1b2781275dfdbd", func := "escapement/escapementlaw21.CkptKeeps", spec := "ckptKeeps", apart := false }
def CkptKeepsSaid : Prop := ckptKeepsRow.holds Try.pinned (OpenSpec.ofChange ckptKeepsSpec)

/-- ITS FALSE NEIGHBOUR: 'it returns false'. Refute it at one input. -/
def ckptKeepsWrong : ChangeSpec := { name := "ckptKeeps", fn := fun _ => fun
  | [d1, d2, d3, d4] => { results := [.lit (.bool false)], args := [d1, d2, d3, d4] }
  | _ => none }
def CkptKeepsWrongFalsely : Prop := ckptKeepsRow.holds Try.pinned (OpenSpec.ofChange ckptKeepsWrong)

/- THE SECOND FORM. 'bulk': how many values and letters a reading holds, each counted each time it is reached (what is shared counts as often as it is met; a slice's spare places count too). A statement '..UptoSaid' is the law's where the arguments, and the package variables that the reading takes, are together of bulk at most 1048576: NARROWER than '..Said'. Prove '..Said' where nothing that the law and all that it calls make is longer than what came in: it says more and counts as full. Else prove '..UptoSaid'. A law counts once. -/
mutual
def uptoBulk {H : Type} : DataW H → Nat
  | .lit (.string bytes) => bytes.length + 1
  | .lit _ => 1
  | .nil => 1
  | .ptr d => uptoBulk d + 1
  | .slice elems spare => uptoBulkAll elems + uptoBulkAll spare + 1
  | .agg parts => uptoBulkAll parts + 1
  | .iface _ d => uptoBulk d + 1
  | .map entries => uptoBulkEntries entries + 1
  | .held _ => 1
def uptoBulkAll {H : Type} : List (DataW H) → Nat
  | [] => 0
  | d :: r => uptoBulk d + uptoBulkAll r
def uptoBulkEntries {H : Type} : List (Lit × DataW H) → Nat
  | [] => 0
  | x :: r => uptoBulkEntry x + uptoBulkEntries r
def uptoBulkEntry {H : Type} : Lit × DataW H → Nat
  | (.string bytes, d) => bytes.length + uptoBulk d + 1
  | (_, d) => uptoBulk d + 1
 end
def uptoSmall : (H : Type) → List (DataW H) → Bool := fun _ ds => decide (uptoBulkAll ds ≤ 1048576)
def OpenSpec.upto (s : _root_.Go.ChangeSpec) : _root_.Go.OpenSpec := { _root_.Go.OpenSpec.ofChange s with cond := some uptoSmall }

/-- 'escapementlaw21.CkptTurns', WHERE WHAT IT READS IS OF BULK AT MOST 1048576: true; the input reads as it did. -/
def ckptTurnsUptoRow : OpenClaim := { program := "ytipjoghlmgmhaaa", sum := "2b10c9dd9122acb3782b95381e5ac58d744d8a4c60a1859b6e1b2781275dfdbd", func := "escapement/escapementlaw21.CkptTurns", spec := "ckptTurns", apart := false, narrowed := true }
def CkptTurnsUptoSaid : Prop := ckptTurnsUptoRow.holds Try.pinned (OpenSpec.upto ckptTurnsSpec)

/-- 'escapementlaw21.CkptBig', WHERE WHAT IT READS IS OF BULK AT MOST 1048576: true; the input reads as it did. -/
def ckptBigUptoRow : OpenClaim := { program := "ytipjoghlmgmhaaa", sum := "2b10c9dd9122acb3782b95381e5ac58d744d8a4c60a1859b6e1b2781275dfdbd", func := "escapement/escapementlaw21.CkptBig", spec := "ckptBig", apart := false, narrowed := true }
def CkptBigUptoSaid : Prop := ckptBigUptoRow.holds Try.pinned (OpenSpec.upto ckptBigSpec)

/-- 'escapementlaw21.CkptKnown', WHERE WHAT IT READS IS OF BULK AT MOST 1048576: true; the input reads as it did. -/
def ckptKnownUptoRow : OpenClaim := { program := "ytipjoghlmgmhaaa", sum := "2b10c9dd9122acb3782b95381e5ac58d744d8a4c60a1859b6e1b2781275dfdbd", func := "escapement/escapementlaw21.CkptKnown", spec := "ckptKnown", apart := false, narrowed := true }
def CkptKnownUptoSaid : Prop := ckptKnownUptoRow.holds Try.pinned (OpenSpec.upto ckptKnownSpec)

/-- 'escapementlaw21.CkptPlays', WHERE WHAT IT READS IS OF BULK AT MOST 1048576: true; the input reads as it did. -/
def ckptPlaysUptoRow : OpenClaim := { program := "ytipjoghlmgmhaaa", sum := "2b10c9dd9122acb3782b95381e5ac58d744d8a4c60a1859b6e1b2781275dfdbd", func := "escapement/escapementlaw21.CkptPlays", spec := "ckptPlays", apart := false, narrowed := true }
def CkptPlaysUptoSaid : Prop := ckptPlaysUptoRow.holds Try.pinned (OpenSpec.upto ckptPlaysSpec)

/-- 'escapementlaw21.CkptKeeps', WHERE WHAT IT READS IS OF BULK AT MOST 1048576: true; the input reads as it did. -/
def ckptKeepsUptoRow : OpenClaim := { program := "ytipjoghlmgmhaaa", sum := "2b10c9dd9122acb3782b95381e5ac58d744d8a4c60a1859b6e1b2781275dfdbd", func := "escapement/escapementlaw21.CkptKeeps", spec := "ckptKeeps", apart := false, narrowed := true }
def CkptKeepsUptoSaid : Prop := ckptKeepsUptoRow.holds Try.pinned (OpenSpec.upto ckptKeepsSpec)

end Rows
end Go.Proofs.Ytipjoghlmgmhaaa
