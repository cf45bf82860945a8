/-
  A tick of what the first text means, whatever the numbers.
-/
import Derived.Test.YtaabpahemponkaaGreatDoorDyJ
set_option linter.unusedVariables false
set_option linter.unusedSimpArgs false
set_option maxRecDepth 100000
namespace Go.Ex
open Go Go.Am Go.Proofs
def tkK : List (Nat × XL) := [(4033, .cel [.str [120], .raw (.int .i64 2), .str [], .raw (.bool false), .raw (.int .i64 7)]),
  (4035, .cel [.str [121], .raw (.int .i64 2), .str [], .raw (.bool false), .raw (.int .i64 24)]),
  (4036, .cel []),
  (4038, .cel [.str [121], .str [43], .str [], .raw (.int .i64 0), .raw (.int .i64 47), .vwn 4042 5 0 2, .raw (.int .i64 37)]),
  (4042, .cel [.str [42], .str [], .raw (.int .i64 0), .raw (.int .i64 43), .vwn 4046 5 0 2, .str [102, 98, 121], .str [], .raw (.int .i64 0), .raw (.int .i64 52), .vwn 4054 5 0 2]),
  (4046, .cel [.str [118, 97, 114], .str [120], .raw (.int .i64 0), .raw (.int .i64 41), .raw (.slice none 0 0), .str [118, 97, 114], .str [120], .raw (.int .i64 0), .raw (.int .i64 45), .raw (.slice none 0 0)]),
  (4054, .cel [.str [105, 110, 116], .str [], .raw (.int .i64 1), .raw (.int .i64 50), .raw (.slice none 0 0), .str [118, 97, 114], .str [121], .raw (.int .i64 0), .raw (.int .i64 56), .raw (.slice none 0 0)]),
  (4059, .mps [([121], .ptr 4211 0)]),
  (4061, .cel [.str [102], .vwn 4033 5 0 1, .vwn 4035 5 0 1, .vwn 4036 5 0 0, .vwn 4038 7 0 1, .raw (.int .i64 0), .vwn 4127 1 0 1, .mp 4059, .mp 4060, .raw (.slice none 0 0)]),
  (4127, .cel [.str [121]]),
  (4157, .cel [.str [118, 97, 114], .str [120], .raw (.int .i64 0), .raw (.int .i64 41), .raw (.slice none 0 0), .raw (.slice none 0 0), .raw (.slice none 0 0), .raw (.bool false), .str [118, 97, 114], .str [120], .raw (.int .i64 0), .raw (.int .i64 45), .raw (.slice none 0 0), .raw (.slice none 0 0), .raw (.slice none 0 0), .raw (.bool false)]),
  (4188, .cel [.str [105, 110, 116], .str [], .raw (.int .i64 1), .raw (.int .i64 50), .raw (.slice none 0 0), .raw (.slice none 0 0), .raw (.slice none 0 0), .raw (.bool true), .str [118, 97, 114], .str [121], .raw (.int .i64 0), .raw (.int .i64 56), .raw (.slice none 0 0), .raw (.slice none 0 0), .raw (.slice none 0 0), .raw (.bool false)]),
  (4199, .cel [.str [42], .str [], .raw (.int .i64 0), .raw (.int .i64 43), .raw (.slice none 0 0), .raw (.slice none 0 0), .vwn 4157 8 0 2, .raw (.bool false), .str [102, 98, 121], .str [], .raw (.int .i64 0), .raw (.int .i64 52), .raw (.slice none 0 0), .raw (.slice none 0 0), .vwn 4188 8 0 2, .raw (.bool false)]),
  (4211, .cel [.str [43], .str [], .raw (.int .i64 0), .raw (.int .i64 47), .raw (.slice none 0 0), .raw (.slice none 0 0), .vwn 4199 8 0 2, .raw (.bool false), .vwn 4241 1 0 2, .raw (.pointer none), .raw (.bool false), .raw (.int .i64 0), .raw (.int .i64 0)]),
  (4214, .cel [.str [42], .str [], .raw (.int .i64 0), .raw (.int .i64 43), .raw (.slice none 0 0), .raw (.slice none 0 0), .vwn 4157 8 0 2, .raw (.bool false), .vwn 4224 1 0 2, .raw (.pointer none), .raw (.bool false), .raw (.int .i64 0), .raw (.int .i64 0)]),
  (4217, .cel [.str [118, 97, 114], .str [120], .raw (.int .i64 0), .raw (.int .i64 41), .raw (.slice none 0 0), .raw (.slice none 0 0), .raw (.slice none 0 0), .raw (.bool false), .raw (.slice none 0 0), .raw (.pointer none), .raw (.bool false), .raw (.int .i64 0), .raw (.int .i64 0)]),
  (4222, .cel [.str [118, 97, 114], .str [120], .raw (.int .i64 0), .raw (.int .i64 45), .raw (.slice none 0 0), .raw (.slice none 0 0), .raw (.slice none 0 0), .raw (.bool false), .raw (.slice none 0 0), .raw (.pointer none), .raw (.bool false), .raw (.int .i64 0), .raw (.int .i64 0)]),
  (4224, .cel [.ptr 4217 0, .ptr 4222 0]),
  (4232, .cel [.str [105, 110, 116], .str [], .raw (.int .i64 1), .raw (.int .i64 50), .raw (.slice none 0 0), .raw (.slice none 0 0), .raw (.slice none 0 0), .raw (.bool true), .raw (.slice none 0 0), .raw (.pointer none), .raw (.bool false), .raw (.int .i64 0), .raw (.int .i64 0)]),
  (4237, .cel [.str [118, 97, 114], .str [121], .raw (.int .i64 0), .raw (.int .i64 56), .raw (.slice none 0 0), .raw (.slice none 0 0), .raw (.slice none 0 0), .raw (.bool false), .raw (.slice none 0 0), .raw (.pointer none), .raw (.bool false), .raw (.int .i64 0), .raw (.int .i64 0)]),
  (4239, .cel [.ptr 4232 0, .ptr 4237 0]),
  (4241, .cel [.ptr 4214 0, .ptr 4229 0])]
def tkFC : List AV := [.str [102, 98, 121], .str [], .raw (.int .i64 0), .raw (.int .i64 52), .raw (.slice none 0 0), .raw (.slice none 0 0), .vwn 4188 8 0 2, .raw (.bool false), .vwn 4239 1 0 2, .raw (.pointer none)]
def vtl {α : Type} (n : Nat) (l : List α) : List α := Nat.rec (motive := fun _ => List α → List α) (fun l => l) (fun _ ih l => ih l.tail) n l
def vn (v : List (List Int)) (i j : Nat) : Int := (vtl j ((vtl i v).headD [])).headD 0
def W64 (x : Int) : Int := IntKind.i64.wrap x
def ivv (x : Int) : AV := .raw (.int .i64 x)
def tkFb (b : Bool) (m n : AV) : List AV := tkFC ++ [.raw (.bool b), m, n]
def tkFp (b : Bool) (m n : Pt) : List Pt := tkFC.map Pt.v ++ [.v (.raw (.bool b)), m, n]
def tkO (i : Nat) (x y : Int) : List (Nat × XL) := [(3000 + 3 * i, .cel [ivv x]), (4060, .mps [([120], ivv x), ([121], ivv y)]), (4229, .cel (tkFb true (ivv y) (ivv y))), (4265 + 26 * i, .cel [ivv y])]
def tk0 : Tpl := ⟨[.ptr 4061 0, .vwn 3000 1 0 1], tkK, [(3000, .cel [.h]), (4060, .mps []), (4229, .cel (tkFp false (.v (ivv 0)) (.v (ivv 0))))], 4242, fun _ => .vwn 4265 1 0 1, fun v => tkO 0 (vn v 0 0) (W64 (W64 (vn v 0 0 * vn v 0 0) + 1)), 4266⟩
def tkS (i : Nat) : Tpl := ⟨[.ptr 4061 0, .vwn (3000 + 3 * i) 1 0 1], tkK, [(3000 + 3 * i, .cel [.h]), (4060, .mps [([120], .h), ([121], .h)]), (4229, .cel (tkFp true .h .h))], 4242 + 26 * i, fun _ => .vwn (4265 + 26 * i) 1 0 1, fun v => tkO i (vn v 0 0) (W64 (W64 (vn v 0 0 * vn v 0 0) + vn v 2 0)), 4266 + 26 * i⟩
theorem tpl_of {f : FuncId} {L : Tpl} (h : ∀ v, callO (envL (none : Oy) .nil) (calls (envL (none : Oy) .nil) 1000000 1000) 1000000 f L.args (putAll .nil (L.keep ++ fillAll L.holes v)) L.a (kOy ((L.keep ++ L.outs v).map (fun p => p.1)) L.b)
    = some (L.x v, (L.keep ++ L.outs v).map (fun p => some p.2), true)) (hc : ∀ v, L.holes.all (fun p => (L.outs v).any (fun q => Nat.beq q.1 p.1)) = true) (ha : ∀ v, L.keep.all (fun p => (L.outs v).all (fun q => !Nat.beq q.1 p.1)) = true) : TplOk Tryz.prog f L :=
  ⟨fun v => symY_ok (callsB_ok (oyG_none _ _) lts_nil 1000000 1000) (h v), hc, ha⟩
theorem tk_0 : TplOk Tryz.prog 67 tk0 := tpl_of (fun v => by kernel_rfl) (fun v => by kernel_rfl) (fun v => by kernel_rfl)
theorem tk_1 : TplOk Tryz.prog 67 (tkS 1) := tpl_of (fun v => by kernel_rfl) (fun v => by kernel_rfl) (fun v => by kernel_rfl)
theorem tk_2 : TplOk Tryz.prog 67 (tkS 2) := tpl_of (fun v => by kernel_rfl) (fun v => by kernel_rfl) (fun v => by kernel_rfl)
theorem tk_3 : TplOk Tryz.prog 67 (tkS 3) := tpl_of (fun v => by kernel_rfl) (fun v => by kernel_rfl) (fun v => by kernel_rfl)
theorem tk_4 : TplOk Tryz.prog 67 (tkS 4) := tpl_of (fun v => by kernel_rfl) (fun v => by kernel_rfl) (fun v => by kernel_rfl)
theorem tk_5 : TplOk Tryz.prog 67 (tkS 5) := tpl_of (fun v => by kernel_rfl) (fun v => by kernel_rfl) (fun v => by kernel_rfl)
theorem tk_6 : TplOk Tryz.prog 67 (tkS 6) := tpl_of (fun v => by kernel_rfl) (fun v => by kernel_rfl) (fun v => by kernel_rfl)
theorem tk_7 : TplOk Tryz.prog 67 (tkS 7) := tpl_of (fun v => by kernel_rfl) (fun v => by kernel_rfl) (fun v => by kernel_rfl)
theorem tk_8 : TplOk Tryz.prog 67 (tkS 8) := tpl_of (fun v => by kernel_rfl) (fun v => by kernel_rfl) (fun v => by kernel_rfl)
theorem tk_9 : TplOk Tryz.prog 67 (tkS 9) := tpl_of (fun v => by kernel_rfl) (fun v => by kernel_rfl) (fun v => by kernel_rfl)
theorem tk_10 : TplOk Tryz.prog 67 (tkS 10) := tpl_of (fun v => by kernel_rfl) (fun v => by kernel_rfl) (fun v => by kernel_rfl)
theorem tk_11 : TplOk Tryz.prog 67 (tkS 11) := tpl_of (fun v => by kernel_rfl) (fun v => by kernel_rfl) (fun v => by kernel_rfl)
theorem tk_12 : TplOk Tryz.prog 67 (tkS 12) := tpl_of (fun v => by kernel_rfl) (fun v => by kernel_rfl) (fun v => by kernel_rfl)
theorem tk_13 : TplOk Tryz.prog 67 (tkS 13) := tpl_of (fun v => by kernel_rfl) (fun v => by kernel_rfl) (fun v => by kernel_rfl)
theorem tk_14 : TplOk Tryz.prog 67 (tkS 14) := tpl_of (fun v => by kernel_rfl) (fun v => by kernel_rfl) (fun v => by kernel_rfl)
theorem tk_15 : TplOk Tryz.prog 67 (tkS 15) := tpl_of (fun v => by kernel_rfl) (fun v => by kernel_rfl) (fun v => by kernel_rfl)
theorem tk_16 : TplOk Tryz.prog 67 (tkS 16) := tpl_of (fun v => by kernel_rfl) (fun v => by kernel_rfl) (fun v => by kernel_rfl)
theorem tk_17 : TplOk Tryz.prog 67 (tkS 17) := tpl_of (fun v => by kernel_rfl) (fun v => by kernel_rfl) (fun v => by kernel_rfl)
theorem tk_18 : TplOk Tryz.prog 67 (tkS 18) := tpl_of (fun v => by kernel_rfl) (fun v => by kernel_rfl) (fun v => by kernel_rfl)
theorem tk_19 : TplOk Tryz.prog 67 (tkS 19) := tpl_of (fun v => by kernel_rfl) (fun v => by kernel_rfl) (fun v => by kernel_rfl)
theorem tk_20 : TplOk Tryz.prog 67 (tkS 20) := tpl_of (fun v => by kernel_rfl) (fun v => by kernel_rfl) (fun v => by kernel_rfl)
theorem tk_21 : TplOk Tryz.prog 67 (tkS 21) := tpl_of (fun v => by kernel_rfl) (fun v => by kernel_rfl) (fun v => by kernel_rfl)
theorem tk_22 : TplOk Tryz.prog 67 (tkS 22) := tpl_of (fun v => by kernel_rfl) (fun v => by kernel_rfl) (fun v => by kernel_rfl)
theorem tk_23 : TplOk Tryz.prog 67 (tkS 23) := tpl_of (fun v => by kernel_rfl) (fun v => by kernel_rfl) (fun v => by kernel_rfl)
theorem tk_24 : TplOk Tryz.prog 67 (tkS 24) := tpl_of (fun v => by kernel_rfl) (fun v => by kernel_rfl) (fun v => by kernel_rfl)
theorem tk_25 : TplOk Tryz.prog 67 (tkS 25) := tpl_of (fun v => by kernel_rfl) (fun v => by kernel_rfl) (fun v => by kernel_rfl)
theorem tk_26 : TplOk Tryz.prog 67 (tkS 26) := tpl_of (fun v => by kernel_rfl) (fun v => by kernel_rfl) (fun v => by kernel_rfl)
theorem tk_27 : TplOk Tryz.prog 67 (tkS 27) := tpl_of (fun v => by kernel_rfl) (fun v => by kernel_rfl) (fun v => by kernel_rfl)
theorem tk_28 : TplOk Tryz.prog 67 (tkS 28) := tpl_of (fun v => by kernel_rfl) (fun v => by kernel_rfl) (fun v => by kernel_rfl)
theorem tk_29 : TplOk Tryz.prog 67 (tkS 29) := tpl_of (fun v => by kernel_rfl) (fun v => by kernel_rfl) (fun v => by kernel_rfl)
theorem tk_30 : TplOk Tryz.prog 67 (tkS 30) := tpl_of (fun v => by kernel_rfl) (fun v => by kernel_rfl) (fun v => by kernel_rfl)
theorem tk_31 : TplOk Tryz.prog 67 (tkS 31) := tpl_of (fun v => by kernel_rfl) (fun v => by kernel_rfl) (fun v => by kernel_rfl)
theorem tk_32 : TplOk Tryz.prog 67 (tkS 32) := tpl_of (fun v => by kernel_rfl) (fun v => by kernel_rfl) (fun v => by kernel_rfl)
theorem tk_33 : TplOk Tryz.prog 67 (tkS 33) := tpl_of (fun v => by kernel_rfl) (fun v => by kernel_rfl) (fun v => by kernel_rfl)
theorem tk_34 : TplOk Tryz.prog 67 (tkS 34) := tpl_of (fun v => by kernel_rfl) (fun v => by kernel_rfl) (fun v => by kernel_rfl)
theorem tk_35 : TplOk Tryz.prog 67 (tkS 35) := tpl_of (fun v => by kernel_rfl) (fun v => by kernel_rfl) (fun v => by kernel_rfl)
theorem tk_36 : TplOk Tryz.prog 67 (tkS 36) := tpl_of (fun v => by kernel_rfl) (fun v => by kernel_rfl) (fun v => by kernel_rfl)
theorem tk_37 : TplOk Tryz.prog 67 (tkS 37) := tpl_of (fun v => by kernel_rfl) (fun v => by kernel_rfl) (fun v => by kernel_rfl)
theorem tk_38 : TplOk Tryz.prog 67 (tkS 38) := tpl_of (fun v => by kernel_rfl) (fun v => by kernel_rfl) (fun v => by kernel_rfl)
theorem tk_39 : TplOk Tryz.prog 67 (tkS 39) := tpl_of (fun v => by kernel_rfl) (fun v => by kernel_rfl) (fun v => by kernel_rfl)
def tkL : List Tpl := tk0 :: (List.range' 1 39).map tkS
theorem tkL_ok : ∀ L ∈ tkL, TplOk Tryz.prog 67 L := by
  intro L hL
  have hL : L ∈ [tk0, tkS 1, tkS 2, tkS 3, tkS 4, tkS 5, tkS 6, tkS 7, tkS 8, tkS 9, tkS 10, tkS 11, tkS 12, tkS 13, tkS 14, tkS 15, tkS 16, tkS 17, tkS 18, tkS 19, tkS 20, tkS 21, tkS 22, tkS 23, tkS 24, tkS 25, tkS 26, tkS 27, tkS 28, tkS 29, tkS 30, tkS 31, tkS 32, tkS 33, tkS 34, tkS 35, tkS 36, tkS 37, tkS 38, tkS 39] := hL
  simp only [List.mem_cons, List.not_mem_nil, or_false] at hL
  rcases hL with rfl | rfl | rfl | rfl | rfl | rfl | rfl | rfl | rfl | rfl | rfl | rfl | rfl | rfl | rfl | rfl | rfl | rfl | rfl | rfl | rfl | rfl | rfl | rfl | rfl | rfl | rfl | rfl | rfl | rfl | rfl | rfl | rfl | rfl | rfl | rfl | rfl | rfl | rfl | rfl
  · exact tk_0
  · exact tk_1
  · exact tk_2
  · exact tk_3
  · exact tk_4
  · exact tk_5
  · exact tk_6
  · exact tk_7
  · exact tk_8
  · exact tk_9
  · exact tk_10
  · exact tk_11
  · exact tk_12
  · exact tk_13
  · exact tk_14
  · exact tk_15
  · exact tk_16
  · exact tk_17
  · exact tk_18
  · exact tk_19
  · exact tk_20
  · exact tk_21
  · exact tk_22
  · exact tk_23
  · exact tk_24
  · exact tk_25
  · exact tk_26
  · exact tk_27
  · exact tk_28
  · exact tk_29
  · exact tk_30
  · exact tk_31
  · exact tk_32
  · exact tk_33
  · exact tk_34
  · exact tk_35
  · exact tk_36
  · exact tk_37
  · exact tk_38
  · exact tk_39
end Go.Ex
