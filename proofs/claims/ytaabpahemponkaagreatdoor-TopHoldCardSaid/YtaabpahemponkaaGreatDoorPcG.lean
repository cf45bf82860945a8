/-
  The second text is parsed.
-/
import Derived.Test.YtaabpahemponkaaGreatDoorPcF
set_option linter.unusedVariables false
set_option linter.unusedSimpArgs false
namespace Go.Ex
open Go Go.Am Go.Proofs
def parse2 : Lit := ⟨[.str [110, 111, 100, 101, 32, 115, 117, 109, 40, 120, 58, 32, 105, 110, 116, 41, 32, 114, 101, 116, 117, 114, 110, 115, 32, 40, 121, 58, 32, 105, 110, 116, 41, 59, 32, 108, 101, 116, 32, 121, 32, 61, 32, 120, 32, 43, 32, 40, 48, 32, 102, 98, 121, 32, 121, 41, 59, 32, 116, 101, 108, 32, 110, 111, 100, 101, 32, 104, 111, 108, 100, 40, 99, 58, 32, 98, 111, 111, 108, 59, 32, 120, 58, 32, 105, 110, 116, 41, 32, 114, 101, 116, 117, 114, 110, 115, 32, 40, 121, 58, 32, 105, 110, 116, 41, 59, 32, 108, 101, 116, 32, 121, 32, 61, 32, 109, 101, 114, 103, 101, 32, 99, 32, 40, 120, 32, 119, 104, 101, 110, 32, 99, 41, 32, 40, 40, 48, 32, 102, 98, 121, 32, 121, 41, 32, 119, 104, 101, 110, 32, 110, 111, 116, 32, 99, 41, 59, 32, 116, 101, 108, 32, 110, 111, 100, 101, 32, 102, 40, 99, 58, 32, 98, 111, 111, 108, 59, 32, 120, 58, 32, 105, 110, 116, 41, 32, 114, 101, 116, 117, 114, 110, 115, 32, 40, 104, 44, 32, 115, 58, 32, 105, 110, 116, 41, 59, 32, 108, 101, 116, 32, 104, 32, 61, 32, 104, 111, 108, 100, 40, 99, 44, 32, 120, 41, 59, 32, 115, 32, 61, 32, 109, 101, 114, 103, 101, 32, 99, 32, 115, 117, 109, 40, 120, 32, 119, 104, 101, 110, 32, 99, 41, 32, 115, 117, 109, 40, 120, 32, 119, 104, 101, 110, 32, 110, 111, 116, 32, 99, 41, 59, 32, 116, 101, 108]],
 [],
 3003, .tup [.vwn 5181 6 0 3, .agg [.raw (.int .i64 0), .raw (.int .i64 0)]],
 [(3653, .cel [.str [120], .raw (.int .i64 2), .str [], .raw (.bool false), .raw (.int .i64 9)]),
  (3678, .cel [.str [121], .raw (.int .i64 2), .str [], .raw (.bool false), .raw (.int .i64 26)]),
  (3863, .cel [.str [105, 110, 116], .str [], .raw (.int .i64 0), .raw (.int .i64 48), .raw (.slice none 0 0), .str [118, 97, 114], .str [121], .raw (.int .i64 0), .raw (.int .i64 54), .raw (.slice none 0 0)]),
  (3918, .cel [.str [118, 97, 114], .str [120], .raw (.int .i64 0), .raw (.int .i64 43), .raw (.slice none 0 0), .str [102, 98, 121], .str [], .raw (.int .i64 0), .raw (.int .i64 50), .vwn 3863 5 0 2]),
  (3952, .cel [.str [121], .str [43], .str [], .raw (.int .i64 0), .raw (.int .i64 45), .vwn 3918 5 0 2, .raw (.int .i64 39)]),
  (4004, .cel [.str [99], .raw (.int .i64 1), .str [], .raw (.bool false), .raw (.int .i64 72), .str [120], .raw (.int .i64 2), .str [], .raw (.bool false), .raw (.int .i64 81)]),
  (4020, .cel [.str [121], .raw (.int .i64 2), .str [], .raw (.bool false), .raw (.int .i64 98)]),
  (4155, .cel [.str [118, 97, 114], .str [120], .raw (.int .i64 0), .raw (.int .i64 124), .raw (.slice none 0 0)]),
  (4317, .cel [.str [105, 110, 116], .str [], .raw (.int .i64 0), .raw (.int .i64 136), .raw (.slice none 0 0), .str [118, 97, 114], .str [121], .raw (.int .i64 0), .raw (.int .i64 142), .raw (.slice none 0 0)]),
  (4370, .cel [.str [102, 98, 121], .str [], .raw (.int .i64 0), .raw (.int .i64 138), .vwn 4317 5 0 2]),
  (4417, .cel [.str [119, 104, 101, 110], .str [99], .raw (.int .i64 1), .raw (.int .i64 126), .vwn 4155 5 0 1, .str [119, 104, 101, 110], .str [99], .raw (.int .i64 0), .raw (.int .i64 145), .vwn 4370 5 0 1]),
  (4465, .cel [.str [121], .str [109, 101, 114, 103, 101], .str [99], .raw (.int .i64 0), .raw (.int .i64 115), .vwn 4417 5 0 2, .raw (.int .i64 111)]),
  (4517, .cel [.str [99], .raw (.int .i64 1), .str [], .raw (.bool false), .raw (.int .i64 169), .str [120], .raw (.int .i64 2), .str [], .raw (.bool false), .raw (.int .i64 178)]),
  (4542, .cel [.str [104], .raw (.int .i64 2), .str [], .raw (.bool false), .raw (.int .i64 195), .str [115], .raw (.int .i64 2), .str [], .raw (.bool false), .raw (.int .i64 198)]),
  (4783, .cel [.str [118, 97, 114], .str [99], .raw (.int .i64 0), .raw (.int .i64 220), .raw (.slice none 0 0), .str [118, 97, 114], .str [120], .raw (.int .i64 0), .raw (.int .i64 223), .raw (.slice none 0 0)]),
  (4960, .cel [.str [118, 97, 114], .str [120], .raw (.int .i64 0), .raw (.int .i64 243), .raw (.slice none 0 0)]),
  (5003, .cel [.str [119, 104, 101, 110], .str [99], .raw (.int .i64 1), .raw (.int .i64 245), .vwn 4960 5 0 1]),
  (5076, .cel [.str [118, 97, 114], .str [120], .raw (.int .i64 0), .raw (.int .i64 257), .raw (.slice none 0 0)]),
  (5119, .cel [.str [119, 104, 101, 110], .str [99], .raw (.int .i64 0), .raw (.int .i64 259), .vwn 5076 5 0 1]),
  (5125, .cel [.str [99, 97, 108, 108], .str [115, 117, 109], .raw (.int .i64 0), .raw (.int .i64 239), .vwn 5003 5 0 1, .str [99, 97, 108, 108], .str [115, 117, 109], .raw (.int .i64 0), .raw (.int .i64 253), .vwn 5119 5 0 1]),
  (5173, .cel [.str [104], .str [99, 97, 108, 108], .str [104, 111, 108, 100], .raw (.int .i64 0), .raw (.int .i64 215), .vwn 4783 5 0 2, .raw (.int .i64 211), .str [115], .str [109, 101, 114, 103, 101], .str [99], .raw (.int .i64 0), .raw (.int .i64 231), .vwn 5125 5 0 2, .raw (.int .i64 227)]),
  (5181, .cel [.str [115, 117, 109], .vwn 3653 5 0 1, .vwn 3678 5 0 1, .raw (.slice none 0 0), .vwn 3952 7 0 1, .raw (.int .i64 0), .str [104, 111, 108, 100], .vwn 4004 5 0 2, .vwn 4020 5 0 1, .raw (.slice none 0 0), .vwn 4465 7 0 1, .raw (.int .i64 62), .str [102], .vwn 4517 5 0 2, .vwn 4542 5 0 2, .raw (.slice none 0 0), .vwn 5173 7 0 2, .raw (.int .i64 162)])],
 5183⟩
noncomputable def parse2_l : T (SumF Bool) := ((T.nil : T (SumF Bool)).put 99 (sLits [cut2] false))
theorem parse2_ls : Lts GoodB parse2_l := (lts_put lts_nil (litsAt nfB ⟨Tryz.call99⟩ (by simp only [List.mem_cons, List.not_mem_nil, or_false, forall_eq_or_imp, forall_eq]; exact cut2_ok)))
theorem parse2_ok : LitOk Tryz.prog 43 parse2 := runL_ok (lits := parse2_l) parse2_ls (fuel := 1000000) (d := 1000) (by kernel_rfl)
end Go.Ex
