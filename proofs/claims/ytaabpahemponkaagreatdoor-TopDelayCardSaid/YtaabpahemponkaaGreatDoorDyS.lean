/-
  The second text is parsed.
-/
import Derived.Test.YtaabpahemponkaaGreatDoorDyR
set_option linter.unusedVariables false
set_option linter.unusedSimpArgs false
namespace Go.Ex
open Go Go.Am Go.Proofs
def parse5 : Lit := ⟨[.str [110, 111, 100, 101, 32, 103, 40, 120, 58, 32, 105, 110, 116, 41, 32, 114, 101, 116, 117, 114, 110, 115, 32, 40, 121, 58, 32, 105, 110, 116, 41, 59, 32, 108, 101, 116, 32, 121, 32, 61, 32, 120, 32, 42, 32, 120, 32, 43, 32, 40, 49, 32, 102, 98, 121, 32, 121, 41, 59, 32, 116, 101, 108, 32, 110, 111, 100, 101, 32, 102, 40, 120, 58, 32, 105, 110, 116, 41, 32, 114, 101, 116, 117, 114, 110, 115, 32, 40, 121, 44, 32, 122, 58, 32, 105, 110, 116, 41, 59, 32, 108, 101, 116, 32, 121, 32, 61, 32, 48, 32, 45, 62, 32, 112, 114, 101, 32, 122, 59, 32, 122, 32, 61, 32, 103, 40, 120, 41, 59, 32, 116, 101, 108]],
 [],
 5286, .tup [.vwn 6443 6 0 2, .agg [.raw (.int .i64 0), .raw (.int .i64 0)]],
 [(5639, .cel [.str [120], .raw (.int .i64 2), .str [], .raw (.bool false), .raw (.int .i64 7)]),
  (5664, .cel [.str [121], .raw (.int .i64 2), .str [], .raw (.bool false), .raw (.int .i64 24)]),
  (5776, .cel [.str [118, 97, 114], .str [120], .raw (.int .i64 0), .raw (.int .i64 41), .raw (.slice none 0 0), .str [118, 97, 114], .str [120], .raw (.int .i64 0), .raw (.int .i64 45), .raw (.slice none 0 0)]),
  (5886, .cel [.str [105, 110, 116], .str [], .raw (.int .i64 1), .raw (.int .i64 50), .raw (.slice none 0 0), .str [118, 97, 114], .str [121], .raw (.int .i64 0), .raw (.int .i64 56), .raw (.slice none 0 0)]),
  (5941, .cel [.str [42], .str [], .raw (.int .i64 0), .raw (.int .i64 43), .vwn 5776 5 0 2, .str [102, 98, 121], .str [], .raw (.int .i64 0), .raw (.int .i64 52), .vwn 5886 5 0 2]),
  (5975, .cel [.str [121], .str [43], .str [], .raw (.int .i64 0), .raw (.int .i64 47), .vwn 5941 5 0 2, .raw (.int .i64 37)]),
  (6002, .cel [.str [120], .raw (.int .i64 2), .str [], .raw (.bool false), .raw (.int .i64 71)]),
  (6036, .cel [.str [121], .raw (.int .i64 2), .str [], .raw (.bool false), .raw (.int .i64 88), .str [122], .raw (.int .i64 2), .str [], .raw (.bool false), .raw (.int .i64 91)]),
  (6200, .cel [.str [118, 97, 114], .str [122], .raw (.int .i64 0), .raw (.int .i64 117), .raw (.slice none 0 0)]),
  (6244, .cel [.str [105, 110, 116], .str [], .raw (.int .i64 0), .raw (.int .i64 108), .raw (.slice none 0 0), .str [112, 114, 101], .str [], .raw (.int .i64 0), .raw (.int .i64 113), .vwn 6200 5 0 1]),
  (6382, .cel [.str [118, 97, 114], .str [120], .raw (.int .i64 0), .raw (.int .i64 126), .raw (.slice none 0 0)]),
  (6435, .cel [.str [121], .str [45, 62], .str [], .raw (.int .i64 0), .raw (.int .i64 110), .vwn 6244 5 0 2, .raw (.int .i64 104), .str [122], .str [99, 97, 108, 108], .str [103], .raw (.int .i64 0), .raw (.int .i64 124), .vwn 6382 5 0 1, .raw (.int .i64 120)]),
  (6443, .cel [.str [103], .vwn 5639 5 0 1, .vwn 5664 5 0 1, .raw (.slice none 0 0), .vwn 5975 7 0 1, .raw (.int .i64 0), .str [102], .vwn 6002 5 0 1, .vwn 6036 5 0 2, .raw (.slice none 0 0), .vwn 6435 7 0 2, .raw (.int .i64 64)])],
 6445⟩
noncomputable def parse5_l : T (SumF Bool) := ((T.nil : T (SumF Bool)).put 99 (sLits [cut5] false))
theorem parse5_ls : Lts GoodB parse5_l := (lts_put lts_nil (litsAt nfB ⟨Tryz.call99⟩ (by simp only [List.mem_cons, List.not_mem_nil, or_false, forall_eq_or_imp, forall_eq]; exact cut5_ok)))
theorem parse5_ok : LitOk Tryz.prog 43 parse5 := runL_ok (lits := parse5_l) parse5_ls (fuel := 1000000) (d := 1000) (by kernel_rfl)
end Go.Ex
