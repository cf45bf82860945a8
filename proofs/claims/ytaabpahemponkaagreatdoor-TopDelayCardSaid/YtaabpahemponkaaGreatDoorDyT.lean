/-
  The second text is compiled.
-/
import Derived.Test.YtaabpahemponkaaGreatDoorDyS
set_option linter.unusedVariables false
set_option linter.unusedSimpArgs false
namespace Go.Ex
open Go Go.Am Go.Proofs
def comp4 : Lit := ⟨[.str [110, 111, 100, 101, 32, 103, 40, 120, 58, 32, 105, 110, 116, 41, 32, 114, 101, 116, 117, 114, 110, 115, 32, 40, 121, 58, 32, 105, 110, 116, 41, 59, 32, 108, 101, 116, 32, 121, 32, 61, 32, 120, 32, 42, 32, 120, 32, 43, 32, 40, 49, 32, 102, 98, 121, 32, 121, 41, 59, 32, 116, 101, 108, 32, 110, 111, 100, 101, 32, 102, 40, 120, 58, 32, 105, 110, 116, 41, 32, 114, 101, 116, 117, 114, 110, 115, 32, 40, 121, 44, 32, 122, 58, 32, 105, 110, 116, 41, 59, 32, 108, 101, 116, 32, 121, 32, 61, 32, 48, 32, 45, 62, 32, 112, 114, 101, 32, 122, 59, 32, 122, 32, 61, 32, 103, 40, 120, 41, 59, 32, 116, 101, 108]],
 [],
 5283, .tup [.agg [.vwn 7372 1 0 1, .vwn 8163 1 0 2, .vwn 8138 1 0 16, .vwn 8077 1 0 4, .vwn 8061 1 0 2, .vwn 8194 4 0 28], .agg [.raw (.int .i64 0), .raw (.int .i64 0)]],
 [(7372, .cel [.raw (.int .i64 2)]),
  (8061, .cel [.raw (.int .i64 0), .raw (.int .i64 1)]),
  (8077, .cel [.raw (.int .i64 2), .raw (.int .i64 1), .raw (.int .i64 2), .raw (.int .i64 1)]),
  (8138, .cel [.raw (.int .i64 2), .raw (.int .i64 2), .raw (.int .i64 2), .raw (.int .i64 2), .raw (.int .i64 2), .raw (.int .i64 2), .raw (.int .i64 2), .raw (.int .i64 1), .raw (.int .i64 2), .raw (.int .i64 2), .raw (.int .i64 2), .raw (.int .i64 2), .raw (.int .i64 1), .raw (.int .i64 2), .raw (.int .i64 2), .raw (.int .i64 1)]),
  (8163, .cel [.raw (.int .i64 2), .raw (.int .i64 2)]),
  (8194, .cel [.raw (.int .i64 2), .raw (.int .i64 6), .raw (.int .i64 0), .raw (.int .i64 0), .raw (.int .i64 2), .raw (.int .i64 7), .raw (.int .i64 1), .raw (.int .i64 0), .raw (.int .i64 2), .raw (.int .i64 11), .raw (.int .i64 2), .raw (.int .i64 0), .raw (.int .i64 2), .raw (.int .i64 12), .raw (.int .i64 3), .raw (.int .i64 0), .raw (.int .i64 4), .raw (.int .i64 0), .raw (.int .i64 0), .raw (.int .i64 0), .raw (.int .i64 0), .raw (.int .i64 5), .raw (.int .i64 0), .raw (.int .i64 0), .raw (.int .i64 19), .raw (.int .i64 9), .raw (.int .i64 7), .raw (.int .i64 0), .raw (.int .i64 1), .raw (.int .i64 8), .raw (.int .i64 6), .raw (.int .i64 0), .raw (.int .i64 20), .raw (.int .i64 10), .raw (.int .i64 0), .raw (.int .i64 0), .raw (.int .i64 1), .raw (.int .i64 8), .raw (.int .i64 5), .raw (.int .i64 0), .raw (.int .i64 1), .raw (.int .i64 1), .raw (.int .i64 8), .raw (.int .i64 0), .raw (.int .i64 1), .raw (.int .i64 3), .raw (.int .i64 0), .raw (.int .i64 0), .raw (.int .i64 10), .raw (.int .i64 9), .raw (.int .i64 3), .raw (.int .i64 3), .raw (.int .i64 0), .raw (.int .i64 10), .raw (.int .i64 1), .raw (.int .i64 0), .raw (.int .i64 19), .raw (.int .i64 17), .raw (.int .i64 12), .raw (.int .i64 0), .raw (.int .i64 1), .raw (.int .i64 13), .raw (.int .i64 11), .raw (.int .i64 0), .raw (.int .i64 20), .raw (.int .i64 18), .raw (.int .i64 0), .raw (.int .i64 0), .raw (.int .i64 1), .raw (.int .i64 13), .raw (.int .i64 10), .raw (.int .i64 0), .raw (.int .i64 8), .raw (.int .i64 14), .raw (.int .i64 9), .raw (.int .i64 13), .raw (.int .i64 1), .raw (.int .i64 4), .raw (.int .i64 14), .raw (.int .i64 0), .raw (.int .i64 1), .raw (.int .i64 2), .raw (.int .i64 4), .raw (.int .i64 0), .raw (.int .i64 3), .raw (.int .i64 0), .raw (.int .i64 2), .raw (.int .i64 0), .raw (.int .i64 3), .raw (.int .i64 2), .raw (.int .i64 4), .raw (.int .i64 0), .raw (.int .i64 0), .raw (.int .i64 15), .raw (.int .i64 1), .raw (.int .i64 0), .raw (.int .i64 3), .raw (.int .i64 1), .raw (.int .i64 15), .raw (.int .i64 0), .raw (.int .i64 3), .raw (.int .i64 3), .raw (.int .i64 15), .raw (.int .i64 0), .raw (.int .i64 5), .raw (.int .i64 0), .raw (.int .i64 1), .raw (.int .i64 0), .raw (.int .i64 5), .raw (.int .i64 1), .raw (.int .i64 2), .raw (.int .i64 0)])],
 8197⟩
noncomputable def comp4_l : T (SumF Bool) := ((T.nil : T (SumF Bool)).put 43 (sLits [parse5] false))
theorem comp4_ls : Lts GoodB comp4_l := (lts_put lts_nil (litsAt nfB ⟨Tryz.call43⟩ (by simp only [List.mem_cons, List.not_mem_nil, or_false, forall_eq_or_imp, forall_eq]; exact parse5_ok)))
theorem comp4_ok : LitOk Tryz.prog 9 comp4 := runL_ok (lits := comp4_l) comp4_ls (fuel := 1000000) (d := 1000) (by kernel_rfl)
end Go.Ex
