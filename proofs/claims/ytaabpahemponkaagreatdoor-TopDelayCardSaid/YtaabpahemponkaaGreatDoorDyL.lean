/-
  The compiler on the first text.
-/
import Derived.Test.YtaabpahemponkaaGreatDoorDyJ
set_option linter.unusedVariables false
set_option linter.unusedSimpArgs false
namespace Go.Ex
open Go Go.Am Go.Proofs
def comp1 : Lit := ⟨[.str [110, 111, 100, 101, 32, 102, 40, 120, 58, 32, 105, 110, 116, 41, 32, 114, 101, 116, 117, 114, 110, 115, 32, 40, 121, 58, 32, 105, 110, 116, 41, 59, 32, 108, 101, 116, 32, 121, 32, 61, 32, 120, 32, 43, 32, 49, 59, 32, 116, 101, 108, 10]],
 [],
 33, .tup [.agg [.vwn 634 1 0 1, .vwn 760 1 0 1, .vwn 748 1 0 4, .raw (.slice none 0 0), .vwn 738 1 0 1, .vwn 770 4 0 5], .agg [.raw (.int .i64 0), .raw (.int .i64 0)]],
 [(634, .cel [.raw (.int .i64 2)]),
  (738, .cel [.raw (.int .i64 1)]),
  (748, .cel [.raw (.int .i64 2), .raw (.int .i64 2), .raw (.int .i64 2), .raw (.int .i64 2)]),
  (760, .cel [.raw (.int .i64 2)]),
  (770, .cel [.raw (.int .i64 4), .raw (.int .i64 0), .raw (.int .i64 0), .raw (.int .i64 0), .raw (.int .i64 0), .raw (.int .i64 2), .raw (.int .i64 0), .raw (.int .i64 0), .raw (.int .i64 8), .raw (.int .i64 3), .raw (.int .i64 0), .raw (.int .i64 2), .raw (.int .i64 1), .raw (.int .i64 1), .raw (.int .i64 3), .raw (.int .i64 0), .raw (.int .i64 5), .raw (.int .i64 0), .raw (.int .i64 1), .raw (.int .i64 0)])],
 773⟩
theorem comp1_ok : LitOk Tryz.prog 9 comp1 := runL_ok (lits := .nil) lts_nil (fuel := 1000000) (d := 1000) (by kernel_rfl)
end Go.Ex
