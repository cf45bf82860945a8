/-
  The text of what is meant is checked, and made ready to tick.
-/
import Derived.Test.YtaabpahemponkaaGreatDoorDyJ
set_option linter.unusedVariables false
set_option linter.unusedSimpArgs false
namespace Go.Ex
open Go Go.Am Go.Proofs
def check4 : Lit := ⟨[.str [110, 111, 100, 101, 32, 102, 40, 120, 58, 32, 105, 110, 116, 41, 32, 114, 101, 116, 117, 114, 110, 115, 32, 40, 121, 58, 32, 105, 110, 116, 41, 59, 32, 108, 101, 116, 32, 121, 32, 61, 32, 120, 32, 42, 32, 120, 32, 43, 32, 40, 49, 32, 102, 98, 121, 32, 121, 41, 59, 32, 116, 101, 108]],
 [],
 3121, .tup [.vwn 3643 6 0 1, .agg [.raw (.int .i64 0), .raw (.int .i64 0)]],
 [(3299, .cel [.str [120], .raw (.int .i64 2), .str [], .raw (.bool false), .raw (.int .i64 7)]),
  (3324, .cel [.str [121], .raw (.int .i64 2), .str [], .raw (.bool false), .raw (.int .i64 24)]),
  (3436, .cel [.str [118, 97, 114], .str [120], .raw (.int .i64 0), .raw (.int .i64 41), .raw (.slice none 0 0), .str [118, 97, 114], .str [120], .raw (.int .i64 0), .raw (.int .i64 45), .raw (.slice none 0 0)]),
  (3546, .cel [.str [105, 110, 116], .str [], .raw (.int .i64 1), .raw (.int .i64 50), .raw (.slice none 0 0), .str [118, 97, 114], .str [121], .raw (.int .i64 0), .raw (.int .i64 56), .raw (.slice none 0 0)]),
  (3601, .cel [.str [42], .str [], .raw (.int .i64 0), .raw (.int .i64 43), .vwn 3436 5 0 2, .str [102, 98, 121], .str [], .raw (.int .i64 0), .raw (.int .i64 52), .vwn 3546 5 0 2]),
  (3635, .cel [.str [121], .str [43], .str [], .raw (.int .i64 0), .raw (.int .i64 47), .vwn 3601 5 0 2, .raw (.int .i64 37)]),
  (3643, .cel [.str [102], .vwn 3299 5 0 1, .vwn 3324 5 0 1, .raw (.slice none 0 0), .vwn 3635 7 0 1, .raw (.int .i64 0)])],
 3942⟩
theorem check4_ok : LitOk Tryz.prog 20 check4 := runL_ok (lits := .nil) lts_nil (fuel := 1000000) (d := 1000) (by kernel_rfl)
end Go.Ex
namespace Go.Ex
open Go Go.Am Go.Proofs
def begun4 : Lit := ⟨[.vwn 3643 6 0 1],
 [(3299, .cel [.str [120], .raw (.int .i64 2), .str [], .raw (.bool false), .raw (.int .i64 7)]),
  (3324, .cel [.str [121], .raw (.int .i64 2), .str [], .raw (.bool false), .raw (.int .i64 24)]),
  (3436, .cel [.str [118, 97, 114], .str [120], .raw (.int .i64 0), .raw (.int .i64 41), .raw (.slice none 0 0), .str [118, 97, 114], .str [120], .raw (.int .i64 0), .raw (.int .i64 45), .raw (.slice none 0 0)]),
  (3546, .cel [.str [105, 110, 116], .str [], .raw (.int .i64 1), .raw (.int .i64 50), .raw (.slice none 0 0), .str [118, 97, 114], .str [121], .raw (.int .i64 0), .raw (.int .i64 56), .raw (.slice none 0 0)]),
  (3601, .cel [.str [42], .str [], .raw (.int .i64 0), .raw (.int .i64 43), .vwn 3436 5 0 2, .str [102, 98, 121], .str [], .raw (.int .i64 0), .raw (.int .i64 52), .vwn 3546 5 0 2]),
  (3635, .cel [.str [121], .str [43], .str [], .raw (.int .i64 0), .raw (.int .i64 47), .vwn 3601 5 0 2, .raw (.int .i64 37)]),
  (3643, .cel [.str [102], .vwn 3299 5 0 1, .vwn 3324 5 0 1, .raw (.slice none 0 0), .vwn 3635 7 0 1, .raw (.int .i64 0)])],
 4030, .ptr 4061 0,
 [(3299, .cel [.str [120], .raw (.int .i64 2), .str [], .raw (.bool false), .raw (.int .i64 7)]),
  (3324, .cel [.str [121], .raw (.int .i64 2), .str [], .raw (.bool false), .raw (.int .i64 24)]),
  (3436, .cel [.str [118, 97, 114], .str [120], .raw (.int .i64 0), .raw (.int .i64 41), .raw (.slice none 0 0), .str [118, 97, 114], .str [120], .raw (.int .i64 0), .raw (.int .i64 45), .raw (.slice none 0 0)]),
  (3546, .cel [.str [105, 110, 116], .str [], .raw (.int .i64 1), .raw (.int .i64 50), .raw (.slice none 0 0), .str [118, 97, 114], .str [121], .raw (.int .i64 0), .raw (.int .i64 56), .raw (.slice none 0 0)]),
  (3601, .cel [.str [42], .str [], .raw (.int .i64 0), .raw (.int .i64 43), .vwn 3436 5 0 2, .str [102, 98, 121], .str [], .raw (.int .i64 0), .raw (.int .i64 52), .vwn 3546 5 0 2]),
  (3635, .cel [.str [121], .str [43], .str [], .raw (.int .i64 0), .raw (.int .i64 47), .vwn 3601 5 0 2, .raw (.int .i64 37)]),
  (3643, .cel [.str [102], .vwn 3299 5 0 1, .vwn 3324 5 0 1, .raw (.slice none 0 0), .vwn 3635 7 0 1, .raw (.int .i64 0)]),
  (4033, .cel [.str [120], .raw (.int .i64 2), .str [], .raw (.bool false), .raw (.int .i64 7)]),
  (4035, .cel [.str [121], .raw (.int .i64 2), .str [], .raw (.bool false), .raw (.int .i64 24)]),
  (4036, .cel []),
  (4038, .cel [.str [121], .str [43], .str [], .raw (.int .i64 0), .raw (.int .i64 47), .vwn 4042 5 0 2, .raw (.int .i64 37)]),
  (4042, .cel [.str [42], .str [], .raw (.int .i64 0), .raw (.int .i64 43), .vwn 4046 5 0 2, .str [102, 98, 121], .str [], .raw (.int .i64 0), .raw (.int .i64 52), .vwn 4054 5 0 2]),
  (4046, .cel [.str [118, 97, 114], .str [120], .raw (.int .i64 0), .raw (.int .i64 41), .raw (.slice none 0 0), .str [118, 97, 114], .str [120], .raw (.int .i64 0), .raw (.int .i64 45), .raw (.slice none 0 0)]),
  (4054, .cel [.str [105, 110, 116], .str [], .raw (.int .i64 1), .raw (.int .i64 50), .raw (.slice none 0 0), .str [118, 97, 114], .str [121], .raw (.int .i64 0), .raw (.int .i64 56), .raw (.slice none 0 0)]),
  (4059, .mps [([121], .ptr 4211 0)]),
  (4060, .mps []),
  (4061, .cel [.str [102], .vwn 4033 5 0 1, .vwn 4035 5 0 1, .vwn 4036 5 0 0, .vwn 4038 7 0 1, .raw (.int .i64 0), .vwn 4127 1 0 1, .mp 4059, .mp 4060, .raw (.slice none 0 0)]),
  (4127, .cel [.str [121]]),
  (4157, .cel [.str [118, 97, 114], .str [120], .raw (.int .i64 0), .raw (.int .i64 41), .raw (.slice none 0 0), .raw (.slice none 0 0), .raw (.slice none 0 0), .raw (.bool false), .str [118, 97, 114], .str [120], .raw (.int .i64 0), .raw (.int .i64 45), .raw (.slice none 0 0), .raw (.slice none 0 0), .raw (.slice none 0 0), .raw (.bool false)]),
  (4188, .cel [.str [105, 110, 116], .str [], .raw (.int .i64 1), .raw (.int .i64 50), .raw (.slice none 0 0), .raw (.slice none 0 0), .raw (.slice none 0 0), .raw (.bool true), .str [118, 97, 114], .str [121], .raw (.int .i64 0), .raw (.int .i64 56), .raw (.slice none 0 0), .raw (.slice none 0 0), .raw (.slice none 0 0), .raw (.bool false)]),
  (4199, .cel [.str [42], .str [], .raw (.int .i64 0), .raw (.int .i64 43), .raw (.slice none 0 0), .raw (.slice none 0 0), .vwn 4157 8 0 2, .raw (.bool false), .str [102, 98, 121], .str [], .raw (.int .i64 0), .raw (.int .i64 52), .raw (.slice none 0 0), .raw (.slice none 0 0), .vwn 4188 8 0 2, .raw (.bool false)]),
  (4211, .cel [.str [43], .str [], .raw (.int .i64 0), .raw (.int .i64 47), .raw (.slice none 0 0), .raw (.slice none 0 0), .vwn 4199 8 0 2, .raw (.bool false), .vwn 4241 1 0 2, .raw (.pointer none), .raw (.bool false), .raw (.int .i64 0), .raw (.int .i64 0)]),
  (4214, .cel [.str [42], .str [], .raw (.int .i64 0), .raw (.int .i64 43), .raw (.slice none 0 0), .raw (.slice none 0 0), .vwn 4157 8 0 2, .raw (.bool false), .vwn 4224 1 0 2, .raw (.pointer none), .raw (.bool false), .raw (.int .i64 0), .raw (.int .i64 0)]),
  (4217, .cel [.str [118, 97, 114], .str [120], .raw (.int .i64 0), .raw (.int .i64 41), .raw (.slice none 0 0), .raw (.slice none 0 0), .raw (.slice none 0 0), .raw (.bool false), .raw (.slice none 0 0), .raw (.pointer none), .raw (.bool false), .raw (.int .i64 0), .raw (.int .i64 0)]),
  (4222, .cel [.str [118, 97, 114], .str [120], .raw (.int .i64 0), .raw (.int .i64 45), .raw (.slice none 0 0), .raw (.slice none 0 0), .raw (.slice none 0 0), .raw (.bool false), .raw (.slice none 0 0), .raw (.pointer none), .raw (.bool false), .raw (.int .i64 0), .raw (.int .i64 0)]),
  (4224, .cel [.ptr 4217 0, .ptr 4222 0]),
  (4229, .cel [.str [102, 98, 121], .str [], .raw (.int .i64 0), .raw (.int .i64 52), .raw (.slice none 0 0), .raw (.slice none 0 0), .vwn 4188 8 0 2, .raw (.bool false), .vwn 4239 1 0 2, .raw (.pointer none), .raw (.bool false), .raw (.int .i64 0), .raw (.int .i64 0)]),
  (4232, .cel [.str [105, 110, 116], .str [], .raw (.int .i64 1), .raw (.int .i64 50), .raw (.slice none 0 0), .raw (.slice none 0 0), .raw (.slice none 0 0), .raw (.bool true), .raw (.slice none 0 0), .raw (.pointer none), .raw (.bool false), .raw (.int .i64 0), .raw (.int .i64 0)]),
  (4237, .cel [.str [118, 97, 114], .str [121], .raw (.int .i64 0), .raw (.int .i64 56), .raw (.slice none 0 0), .raw (.slice none 0 0), .raw (.slice none 0 0), .raw (.bool false), .raw (.slice none 0 0), .raw (.pointer none), .raw (.bool false), .raw (.int .i64 0), .raw (.int .i64 0)]),
  (4239, .cel [.ptr 4232 0, .ptr 4237 0]),
  (4241, .cel [.ptr 4214 0, .ptr 4229 0])],
 4242⟩
theorem begun4_ok : LitOk Tryz.prog 66 begun4 := runL_ok (lits := .nil) lts_nil (fuel := 1000000) (d := 1000) (by kernel_rfl)
end Go.Ex
namespace Go.Ex
open Go Go.Am Go.Proofs
def count4 : Lit := ⟨[.vwn 3643 6 0 1],
 [(3299, .cel [.str [120], .raw (.int .i64 2), .str [], .raw (.bool false), .raw (.int .i64 7)]),
  (3324, .cel [.str [121], .raw (.int .i64 2), .str [], .raw (.bool false), .raw (.int .i64 24)]),
  (3436, .cel [.str [118, 97, 114], .str [120], .raw (.int .i64 0), .raw (.int .i64 41), .raw (.slice none 0 0), .str [118, 97, 114], .str [120], .raw (.int .i64 0), .raw (.int .i64 45), .raw (.slice none 0 0)]),
  (3546, .cel [.str [105, 110, 116], .str [], .raw (.int .i64 1), .raw (.int .i64 50), .raw (.slice none 0 0), .str [118, 97, 114], .str [121], .raw (.int .i64 0), .raw (.int .i64 56), .raw (.slice none 0 0)]),
  (3601, .cel [.str [42], .str [], .raw (.int .i64 0), .raw (.int .i64 43), .vwn 3436 5 0 2, .str [102, 98, 121], .str [], .raw (.int .i64 0), .raw (.int .i64 52), .vwn 3546 5 0 2]),
  (3635, .cel [.str [121], .str [43], .str [], .raw (.int .i64 0), .raw (.int .i64 47), .vwn 3601 5 0 2, .raw (.int .i64 37)]),
  (3643, .cel [.str [102], .vwn 3299 5 0 1, .vwn 3324 5 0 1, .raw (.slice none 0 0), .vwn 3635 7 0 1, .raw (.int .i64 0)])],
 4013, .raw (.int .i64 1),
 [(3299, .cel [.str [120], .raw (.int .i64 2), .str [], .raw (.bool false), .raw (.int .i64 7)]),
  (3324, .cel [.str [121], .raw (.int .i64 2), .str [], .raw (.bool false), .raw (.int .i64 24)]),
  (3436, .cel [.str [118, 97, 114], .str [120], .raw (.int .i64 0), .raw (.int .i64 41), .raw (.slice none 0 0), .str [118, 97, 114], .str [120], .raw (.int .i64 0), .raw (.int .i64 45), .raw (.slice none 0 0)]),
  (3546, .cel [.str [105, 110, 116], .str [], .raw (.int .i64 1), .raw (.int .i64 50), .raw (.slice none 0 0), .str [118, 97, 114], .str [121], .raw (.int .i64 0), .raw (.int .i64 56), .raw (.slice none 0 0)]),
  (3601, .cel [.str [42], .str [], .raw (.int .i64 0), .raw (.int .i64 43), .vwn 3436 5 0 2, .str [102, 98, 121], .str [], .raw (.int .i64 0), .raw (.int .i64 52), .vwn 3546 5 0 2]),
  (3635, .cel [.str [121], .str [43], .str [], .raw (.int .i64 0), .raw (.int .i64 47), .vwn 3601 5 0 2, .raw (.int .i64 37)]),
  (3643, .cel [.str [102], .vwn 3299 5 0 1, .vwn 3324 5 0 1, .raw (.slice none 0 0), .vwn 3635 7 0 1, .raw (.int .i64 0)])],
 4030⟩
theorem count4_ok : LitOk Tryz.prog 65 count4 := runL_ok (lits := .nil) lts_nil (fuel := 1000000) (d := 1000) (by kernel_rfl)
end Go.Ex
