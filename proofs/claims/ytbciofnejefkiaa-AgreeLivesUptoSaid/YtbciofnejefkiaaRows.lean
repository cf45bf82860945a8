/-
  No cell of these rows narrows 'for every input' (looked for: loops, veiled, ifaces, maps, wideKeys, modest, calm, conditions, laid).
  DERIVED. THE GIVEN ROWS OF THIS SEAT. 11 by the template 'for every input the law returns true; each argument reads behind the call as it read before'; 0 by the template 'total and deterministic' (their statements: YtbciofnejefkiaaTotals.lean).
  GIVEN WITH THE SEED: the statements are not yours to turn. If you find one false, say at which input.
  Laid BY PROGRAM, IN A SANDBOX (cutbox-rows.mjs): the forced cells as the released guide's own fill.sh prints them over the translation f746f1c227b44588… (all of the seat's roots in one cut). By AI agents, Wed Nov 11 2026. No macro, syntax, notation, axiom, sorry.
-/
import Derived.Test.YtbciofnejefkiaaChecked
import GoSem.Claim
import GoSem.ClaimJoined
import GoSem.ClaimMapViews
import Derived.JoinedTies
import Derived.KernelRfl
namespace Go.Proofs.Ytbciofnejefkiaa
/- THE CELL 'sum', in the pinned program and in every row, IS THE sha256 OF THE DUMP (.gsa) THAT YtbciofnejefkiaaProg.lean LOADS. Nothing in Lean hashes anything: it is a label: what it is worth is what the hold of that sum in a sandbox is worth. -/
noncomputable def Try.pinned : Pinned := { name := "ytbciofnejefkiaa", sum := "f746f1c227b44588750c075793c4e027c5485ed9776d21efc027b3167cc45ac0", checked := Try.checked }
namespace Rows
def none {H : Type} : Left H := { results := [], args := [] }

/-- 'escapementlaw25.AgreeKnown': WHATEVER THE INPUT: true; the input reads as it did. -/
def agreeKnownSpec : ChangeSpec := { name := "agreeKnown", fn := fun _ => fun
  | [] => { results := [.lit (.bool true)], args := [] }
  | _ => none }
def agreeKnownRow : OpenClaim := { program := "ytbciofnejefkiaa", sum := "f746f1c227b44588750c075793c4e027c5485ed9776d21efc027b3167cc45ac0", func := "escapement/escapementlaw25.AgreeKnown", spec := "agreeKnown", unfollowed := true, recurses := true, apart := false }
def AgreeKnownSaid : Prop := agreeKnownRow.holds Try.pinned (OpenSpec.ofChange agreeKnownSpec)

/-- ITS FALSE NEIGHBOUR: 'it returns false'. Refute it at one input. -/
def agreeKnownWrong : ChangeSpec := { name := "agreeKnown", fn := fun _ => fun
  | [] => { results := [.lit (.bool false)], args := [] }
  | _ => none }
def AgreeKnownWrongFalsely : Prop := agreeKnownRow.holds Try.pinned (OpenSpec.ofChange agreeKnownWrong)

/-- 'escapementlaw25.AgreeRaw': WHATEVER THE INPUT: true; the input reads as it did. -/
def agreeRawSpec : ChangeSpec := { name := "agreeRaw", fn := fun _ => fun
  | [d1, d2, d3] => { results := [.lit (.bool true)], args := [d1, d2, d3] }
  | _ => none }
def agreeRawRow : OpenClaim := { program := "ytbciofnejefkiaa", sum := "f746f1c227b44588750c075793c4e027c5485ed9776d21efc027b3167cc45ac0", func := "escapement/escapementlaw25.AgreeRaw", spec := "agreeRaw", unfollowed := true, recurses := true, apart := false }
def AgreeRawSaid : Prop := agreeRawRow.holds Try.pinned (OpenSpec.ofChange agreeRawSpec)

/-- ITS FALSE NEIGHBOUR: 'it returns false'. Refute it at one input. -/
def agreeRawWrong : ChangeSpec := { name := "agreeRaw", fn := fun _ => fun
  | [d1, d2, d3] => { results := [.lit (.bool false)], args := [d1, d2, d3] }
  | _ => none }
def AgreeRawWrongFalsely : Prop := agreeRawRow.holds Try.pinned (OpenSpec.ofChange agreeRawWrong)

/-- 'escapementlaw25.AgreeSafe': WHATEVER THE INPUT: true; the input reads as it did. -/
def agreeSafeSpec : ChangeSpec := { name := "agreeSafe", fn := fun _ => fun
  | [d1, d2] => { results := [.lit (.bool true)], args := [d1, d2] }
  | _ => none }
def agreeSafeRow : OpenClaim := { program := "ytbciofnejefkiaa", sum := "f746f1c227b44588750c075793c4e027c5485ed9776d21efc027b3167cc45ac0", func := "escapement/escapementlaw25.AgreeSafe", spec := "agreeSafe", unfollowed := true, recurses := true, apart := false }
def AgreeSafeSaid : Prop := agreeSafeRow.holds Try.pinned (OpenSpec.ofChange agreeSafeSpec)

/-- ITS FALSE NEIGHBOUR: 'it returns false'. Refute it at one input. -/
def agreeSafeWrong : ChangeSpec := { name := "agreeSafe", fn := fun _ => fun
  | [d1, d2] => { results := [.lit (.bool false)], args := [d1, d2] }
  | _ => none }
def AgreeSafeWrongFalsely : Prop := agreeSafeRow.holds Try.pinned (OpenSpec.ofChange agreeSafeWrong)

/-- 'escapementlaw25.AgreeLives': WHATEVER THE INPUT: true; the input reads as it did. -/
def agreeLivesSpec : ChangeSpec := { name := "agreeLives", fn := fun _ => fun
  | [d1, d2, d3] => { results := [.lit (.bool true)], args := [d1, d2, d3] }
  | _ => none }
def agreeLivesRow : OpenClaim := { program := "ytbciofnejefkiaa", sum := "f746f1c227b44588750c075793c4e027c5485ed9776d21efc027b3167cc45ac0", func := "escapement/escapementlaw25.AgreeLives", spec := "agreeLives", unfollowed := true, recurses := true, apart := false }
def AgreeLivesSaid : Prop := agreeLivesRow.holds Try.pinned (OpenSpec.ofChange agreeLivesSpec)

/-- ITS FALSE NEIGHBOUR: 'it returns false'. Refute it at one input. -/
def agreeLivesWrong : ChangeSpec := { name := "agreeLives", fn := fun _ => fun
  | [d1, d2, d3] => { results := [.lit (.bool false)], args := [d1, d2, d3] }
  | _ => none }
def AgreeLivesWrongFalsely : Prop := agreeLivesRow.holds Try.pinned (OpenSpec.ofChange agreeLivesWrong)

/-- 'escapementlaw25.AgreeTwice': WHATEVER THE INPUT: true; the input reads as it did. -/
def agreeTwiceSpec : ChangeSpec := { name := "agreeTwice", fn := fun _ => fun
  | [d1, d2, d3] => { results := [.lit (.bool true)], args := [d1, d2, d3] }
  | _ => none }
def agreeTwiceRow : OpenClaim := { program := "ytbciofnejefkiaa", sum := "f746f1c227b44588750c075793c4e027c5485ed9776d21efc027b3167cc45ac0", func := "escapement/escapementlaw25.AgreeTwice", spec := "agreeTwice", unfollowed := true, recurses := true, apart := false }
def AgreeTwiceSaid : Prop := agreeTwiceRow.holds Try.pinned (OpenSpec.ofChange agreeTwiceSpec)

/-- ITS FALSE NEIGHBOUR: 'it returns false'. Refute it at one input. -/
def agreeTwiceWrong : ChangeSpec := { name := "agreeTwice", fn := fun _ => fun
  | [d1, d2, d3] => { results := [.lit (.bool false)], args := [d1, d2, d3] }
  | _ => none }
def AgreeTwiceWrongFalsely : Prop := agreeTwiceRow.holds Try.pinned (OpenSpec.ofChange agreeTwiceWrong)

/-- 'escapementlaw25.AgreeFew': WHATEVER THE INPUT: true; the input reads as it did. -/
def agreeFewSpec : ChangeSpec := { name := "agreeFew", fn := fun _ => fun
  | [d1, d2, d3] => { results := [.lit (.bool true)], args := [d1, d2, d3] }
  | _ => none }
def agreeFewRow : OpenClaim := { program := "ytbciofnejefkiaa", sum := "f746f1c227b44588750c075793c4e027c5485ed9776d21efc027b3167cc45ac0", func := "escapement/escapementlaw25.AgreeFew", spec := "agreeFew", unfollowed := true, recurses := true, apart := false }
def AgreeFewSaid : Prop := agreeFewRow.holds Try.pinned (OpenSpec.ofChange agreeFewSpec)

/-- ITS FALSE NEIGHBOUR: 'it returns false'. Refute it at one input. -/
def agreeFewWrong : ChangeSpec := { name := "agreeFew", fn := fun _ => fun
  | [d1, d2, d3] => { results := [.lit (.bool false)], args := [d1, d2, d3] }
  | _ => none }
def AgreeFewWrongFalsely : Prop := agreeFewRow.holds Try.pinned (OpenSpec.ofChange agreeFewWrong)

/-- 'escapementlaw25.AgreeGrows': WHATEVER THE INPUT: true; the input reads as it did. -/
def agreeGrowsSpec : ChangeSpec := { name := "agreeGrows", fn := fun _ => fun
  | [d1, d2] => { results := [.lit (.bool true)], args := [d1, d2] }
  | _ => none }
def agreeGrowsRow : OpenClaim := { program := "ytbciofnejefkiaa", sum := "f746f1c227b44588750c075793c4e027c5485ed9776d21efc027b3167cc45ac0", func := "escapement/escapementlaw25.AgreeGrows", spec := "agreeGrows", unfollowed := true, recurses := true, apart := false }
def AgreeGrowsSaid : Prop := agreeGrowsRow.holds Try.pinned (OpenSpec.ofChange agreeGrowsSpec)

/-- ITS FALSE NEIGHBOUR: 'it returns false'. Refute it at one input. -/
def agreeGrowsWrong : ChangeSpec := { name := "agreeGrows", fn := fun _ => fun
  | [d1, d2] => { results := [.lit (.bool false)], args := [d1, d2] }
  | _ => none }
def AgreeGrowsWrongFalsely : Prop := agreeGrowsRow.holds Try.pinned (OpenSpec.ofChange agreeGrowsWrong)

/-- 'escapementlaw25.AgreeHears': WHATEVER THE INPUT: true; the input reads as it did. -/
def agreeHearsSpec : ChangeSpec := { name := "agreeHears", fn := fun _ => fun
  | [d1, d2, d3] => { results := [.lit (.bool true)], args := [d1, d2, d3] }
  | _ => none }
def agreeHearsRow : OpenClaim := { program := "ytbciofnejefkiaa", sum := "f746f1c227b44588750c075793c4e027c5485ed9776d21efc027b3167cc45ac0", func := "escapement/escapementlaw25.AgreeHears", spec := "agreeHears", unfollowed := true, recurses := true, apart := false }
def AgreeHearsSaid : Prop := agreeHearsRow.holds Try.pinned (OpenSpec.ofChange agreeHearsSpec)

/-- ITS FALSE NEIGHBOUR: 'it returns false'. Refute it at one input. -/
def agreeHearsWrong : ChangeSpec := { name := "agreeHears", fn := fun _ => fun
  | [d1, d2, d3] => { results := [.lit (.bool false)], args := [d1, d2, d3] }
  | _ => none }
def AgreeHearsWrongFalsely : Prop := agreeHearsRow.holds Try.pinned (OpenSpec.ofChange agreeHearsWrong)

/-- 'escapementlaw25.AgreeCopies': WHATEVER THE INPUT: true; the input reads as it did. -/
def agreeCopiesSpec : ChangeSpec := { name := "agreeCopies", fn := fun _ => fun
  | [d1, d2] => { results := [.lit (.bool true)], args := [d1, d2] }
  | _ => none }
def agreeCopiesRow : OpenClaim := { program := "ytbciofnejefkiaa", sum := "f746f1c227b44588750c075793c4e027c5485ed9776d21efc027b3167cc45ac0", func := "escapement/escapementlaw25.AgreeCopies", spec := "agreeCopies", unfollowed := true, recurses := true, apart := false }
def AgreeCopiesSaid : Prop := agreeCopiesRow.holds Try.pinned (OpenSpec.ofChange agreeCopiesSpec)

/-- ITS FALSE NEIGHBOUR: 'it returns false'. Refute it at one input. -/
def agreeCopiesWrong : ChangeSpec := { name := "agreeCopies", fn := fun _ => fun
  | [d1, d2] => { results := [.lit (.bool false)], args := [d1, d2] }
  | _ => none }
def AgreeCopiesWrongFalsely : Prop := agreeCopiesRow.holds Try.pinned (OpenSpec.ofChange agreeCopiesWrong)

/-- 'escapementlaw25.AgreeOpens': WHATEVER THE INPUT: true; the input reads as it did. -/
def agreeOpensSpec : ChangeSpec := { name := "agreeOpens", fn := fun _ => fun
  | [d1, d2] => { results := [.lit (.bool true)], args := [d1, d2] }
  | _ => none }
def agreeOpensRow : OpenClaim := { program := "ytbciofnejefkiaa", sum := "f746f1c227b44588750c075793c4e027c5485ed9776d21efc027b3167cc45ac0", func := "escapement/escapementlaw25.AgreeOpens", spec := "agreeOpens", unfollowed := true, recurses := true, apart := false }
def AgreeOpensSaid : Prop := agreeOpensRow.holds Try.pinned (OpenSpec.ofChange agreeOpensSpec)

/-- ITS FALSE NEIGHBOUR: 'it returns false'. Refute it at one input. -/
def agreeOpensWrong : ChangeSpec := { name := "agreeOpens", fn := fun _ => fun
  | [d1, d2] => { results := [.lit (.bool false)], args := [d1, d2] }
  | _ => none }
def AgreeOpensWrongFalsely : Prop := agreeOpensRow.holds Try.pinned (OpenSpec.ofChange agreeOpensWrong)

/-- 'escapementlaw25.AgreeLead': WHATEVER THE INPUT: true; the input reads as it did. -/
def agreeLeadSpec : ChangeSpec := { name := "agreeLead", fn := fun _ => fun
  | [d1, d2] => { results := [.lit (.bool true)], args := [d1, d2] }
  | _ => none }
def agreeLeadRow : OpenClaim := { program := "ytbciofnejefkiaa", sum := "f746f1c227b44588750c075793c4e027c5485ed9776d21efc027b3167cc45ac0", func := "escapement/escapementlaw25.AgreeLead", spec := "agreeLead", unfollowed := true, recurses := true, apart := false }
def AgreeLeadSaid : Prop := agreeLeadRow.holds Try.pinned (OpenSpec.ofChange agreeLeadSpec)

/-- ITS FALSE NEIGHBOUR: 'it returns false'. Refute it at one input. -/
def agreeLeadWrong : ChangeSpec := { name := "agreeLead", fn := fun _ => fun
  | [d1, d2] => { results := [.lit (.bool false)], args := [d1, d2] }
  | _ => none }
def AgreeLeadWrongFalsely : Prop := agreeLeadRow.holds Try.pinned (OpenSpec.ofChange agreeLeadWrong)

/- THE SECOND FORM. 'bulk': how many values and letters a reading holds, each counted each time it is reached (what is shared counts as often as it is met; a slice's spare places count too). A statement '..UptoSaid' is the law's where the arguments, and the package variables that the reading takes, are together of bulk at most 1048576: NARROWER than '..Said'. Prove '..Said' where nothing that the law and all that it calls make is longer than what came in: it says more and counts as full. Else prove '..UptoSaid'. A law counts once. -/
mutual
def uptoBulk {H : Type} : DataW H → Nat
  | .lit (.string bytes) => bytes.length + 1
  | .lit _ => 1
  | .nil => 1
  | .ptr d => uptoBulk d + 1
  | .slice elems spare => uptoBulkAll elems + uptoBulkAll spare + 1
  | .agg parts => uptoBulkAll parts + 1
  | .iface _ d => uptoBulk d + 1
  | .map entries => uptoBulkEntries entries + 1
  | .held _ => 1
def uptoBulkAll {H : Type} : List (DataW H) → Nat
  | [] => 0
  | d :: r => uptoBulk d + uptoBulkAll r
def uptoBulkEntries {H : Type} : List (Lit × DataW H) → Nat
  | [] => 0
  | x :: r => uptoBulkEntry x + uptoBulkEntries r
def uptoBulkEntry {H : Type} : Lit × DataW H → Nat
  | (.string bytes, d) => bytes.length + uptoBulk d + 1
  | (_, d) => uptoBulk d + 1
 end
def uptoSmall : (H : Type) → List (DataW H) → Bool := fun _ ds => decide (uptoBulkAll ds ≤ 1048576)
def OpenSpec.upto (s : _root_.Go.ChangeSpec) : _root_.Go.OpenSpec := { _root_.Go.OpenSpec.ofChange s with cond := some uptoSmall }

/-- 'escapementlaw25.AgreeKnown', WHERE WHAT IT READS IS OF BULK AT MOST 1048576: true; the input reads as it did. -/
def agreeKnownUptoRow : OpenClaim := { program := "ytbciofnejefkiaa", sum := "f746f1c227b44588750c075793c4e027c5485ed9776d21efc027b3167cc45ac0", func := "escapement/escapementlaw25.AgreeKnown", spec := "agreeKnown", unfollowed := true, recurses := true, apart := false, narrowed := true }
def AgreeKnownUptoSaid : Prop := agreeKnownUptoRow.holds Try.pinned (OpenSpec.upto agreeKnownSpec)

/-- 'escapementlaw25.AgreeRaw', WHERE WHAT IT READS IS OF BULK AT MOST 1048576: true; the input reads as it did. -/
def agreeRawUptoRow : OpenClaim := { program := "ytbciofnejefkiaa", sum := "f746f1c227b44588750c075793c4e027c5485ed9776d21efc027b3167cc45ac0", func := "escapement/escapementlaw25.AgreeRaw", spec := "agreeRaw", unfollowed := true, recurses := true, apart := false, narrowed := true }
def AgreeRawUptoSaid : Prop := agreeRawUptoRow.holds Try.pinned (OpenSpec.upto agreeRawSpec)

/-- 'escapementlaw25.AgreeSafe', WHERE WHAT IT READS IS OF BULK AT MOST 1048576: true; the input reads as it did. -/
def agreeSafeUptoRow : OpenClaim := { program := "ytbciofnejefkiaa", sum := "f746f1c227b44588750c075793c4e027c5485ed9776d21efc027b3167cc45ac0", func := "escapement/escapementlaw25.AgreeSafe", spec := "agreeSafe", unfollowed := true, recurses := true, apart := false, narrowed := true }
def AgreeSafeUptoSaid : Prop := agreeSafeUptoRow.holds Try.pinned (OpenSpec.upto agreeSafeSpec)

/-- 'escapementlaw25.AgreeLives', WHERE WHAT IT READS IS OF BULK AT MOST 1048576: true; the input reads as it did. -/
def agreeLivesUptoRow : OpenClaim := { program := "ytbciofnejefkiaa", sum := "f746f1c227b44588750c075793c4e027c5485ed9776d21efc027b3167cc45ac0", func := "escapement/escapementlaw25.AgreeLives", spec := "agreeLives", unfollowed := true, recurses := true, apart := false, narrowed := true }
def AgreeLivesUptoSaid : Prop := agreeLivesUptoRow.holds Try.pinned (OpenSpec.upto agreeLivesSpec)

/-- 'escapementlaw25.AgreeTwice', WHERE WHAT IT READS IS OF BULK AT MOST 1048576: true; the input reads as it did. -/
def agreeTwiceUptoRow : OpenClaim := { program := "ytbciofnejefkiaa", sum := "f746f1c227b44588750c075793c4e027c5485ed9776d21efc027b3167cc45ac0", func := "escapement/escapementlaw25.AgreeTwice", spec := "agreeTwice", unfollowed := true, recurses := true, apart := false, narrowed := true }
def AgreeTwiceUptoSaid : Prop := agreeTwiceUptoRow.holds Try.pinned (OpenSpec.upto agreeTwiceSpec)

/-- 'escapementlaw25.AgreeFew', WHERE WHAT IT READS IS OF BULK AT MOST 1048576: true; the input reads as it did. -/
def agreeFewUptoRow : OpenClaim := { program := "ytbciofnejefkiaa", sum := "f746f1c227b44588750c075793c4e027c5485ed9776d21efc027b3167cc45ac0", func := "escapement/escapementlaw25.AgreeFew", spec := "agreeFew", unfollowed := true, recurses := true, apart := false, narrowed := true }
def AgreeFewUptoSaid : Prop := agreeFewUptoRow.holds Try.pinned (OpenSpec.upto agreeFewSpec)

/-- 'escapementlaw25.AgreeGrows', WHERE WHAT IT READS IS OF BULK AT MOST 1048576: true; the input reads as it did. -/
def agreeGrowsUptoRow : OpenClaim := { program := "ytbciofnejefkiaa", sum := "f746f1c227b44588750c075793c4e027c5485ed9776d21efc027b3167cc45ac0", func := "escapement/escapementlaw25.AgreeGrows", spec := "agreeGrows", unfollowed := true, recurses := true, apart := false, narrowed := true }
def AgreeGrowsUptoSaid : Prop := agreeGrowsUptoRow.holds Try.pinned (OpenSpec.upto agreeGrowsSpec)

/-- 'escapementlaw25.AgreeHears', WHERE WHAT IT READS IS OF BULK AT MOST 1048576: true; the input reads as it did. -/
def agreeHearsUptoRow : OpenClaim := { program := "ytbciofnejefkiaa", sum := "f746f1c227b44588750c075793c4e027c5485ed9776d21efc027b3167cc45ac0", func := "escapement/escapementlaw25.AgreeHears", spec := "agreeHears", unfollowed := true, recurses := true, apart := false, narrowed := true }
def AgreeHearsUptoSaid : Prop := agreeHearsUptoRow.holds Try.pinned (OpenSpec.upto agreeHearsSpec)

/-- 'escapementlaw25.AgreeCopies', WHERE WHAT IT READS IS OF BULK AT MOST 1048576: true; the input reads as it did. -/
def agreeCopiesUptoRow : OpenClaim := { program := "ytbciofnejefkiaa", sum := "f746f1c227b44588750c075793c4e027c5485ed9776d21efc027b3167cc45ac0", func := "escapement/escapementlaw25.AgreeCopies", spec := "agreeCopies", unfollowed := true, recurses := true, apart := false, narrowed := true }
def AgreeCopiesUptoSaid : Prop := agreeCopiesUptoRow.holds Try.pinned (OpenSpec.upto agreeCopiesSpec)

/-- 'escapementlaw25.AgreeOpens', WHERE WHAT IT READS IS OF BULK AT MOST 1048576: true; the input reads as it did. -/
def agreeOpensUptoRow : OpenClaim := { program := "ytbciofnejefkiaa", sum := "f746f1c227b44588750c075793c4e027c5485ed9776d21efc027b3167cc45ac0", func := "escapement/escapementlaw25.AgreeOpens", spec := "agreeOpens", unfollowed := true, recurses := true, apart := false, narrowed := true }
def AgreeOpensUptoSaid : Prop := agreeOpensUptoRow.holds Try.pinned (OpenSpec.upto agreeOpensSpec)

/-- 'escapementlaw25.AgreeLead', WHERE WHAT IT READS IS OF BULK AT MOST 1048576: true; the input reads as it did. -/
def agreeLeadUptoRow : OpenClaim := { program := "ytbciofnejefkiaa", sum := "f746f1c227b44588750c075793c4e027c5485ed9776d21efc027b3167cc45ac0", func := "escapement/escapementlaw25.AgreeLead", spec := "agreeLead", unfollowed := true, recurses := true, apart := false, narrowed := true }
def AgreeLeadUptoSaid : Prop := agreeLeadUptoRow.holds Try.pinned (OpenSpec.upto agreeLeadSpec)

end Rows
end Go.Proofs.Ytbciofnejefkiaa
