/-
  The witness of the row.
-/
import Derived.Test.YtaabpahemponkaaGreatDoorRows
import Derived.Test.YtaabpahemponkaaGreatDoorLwB
import Derived.Test.YtaabpahemponkaaGreatDoorLwC
import Derived.ProofKit
import Derived.OpenShut
import Derived.LaidMore
import Derived.JoinedOf
import Derived.Stop.Joined
import Derived.Test.YtaabpahemponkaaGreatDoorDwD
set_option linter.unusedVariables false
set_option linter.unusedSimpArgs false
set_option maxRecDepth 100000
namespace Go.Proofs.YtaabpahemponkaaGreatDoor
open Go Go.Clo
noncomputable abbrev gty (g : Nat) : TypeId := ((Tryz.prog.globals[g]?).map (fun l => l.type)).getD 0
theorem gn0 : Tryz.prog.globalNamed "unicode/utf8.first" = some 1 := by kernel_rfl
theorem gt0 : (Tryz.prog.globals[(1 : Nat)]?).map (fun l => l.type) = some (gty 1) := by kernel_rfl
noncomputable def y0 : List Value × List Obj := ((DataW.lay Tryz.prog (gty 1) 13 Rows.laid_unicode_utf8_first).getD ([], []))
theorem ly0 : (Rows.laid_unicode_utf8_first : DataW Unit).lay Tryz.prog (gty 1) 13 = some y0 := by kernel_rfl
theorem le0 : y0.2.length = 0 := by kernel_rfl
theorem gn1 : Tryz.prog.globalNamed "unicode/utf8.acceptRanges" = some 2 := by kernel_rfl
theorem gt1 : (Tryz.prog.globals[(2 : Nat)]?).map (fun l => l.type) = some (gty 2) := by kernel_rfl
noncomputable def y1 : List Value × List Obj := ((DataW.lay Tryz.prog (gty 2) 13 Rows.laid_unicode_utf8_acceptRanges).getD ([], []))
theorem ly1 : (Rows.laid_unicode_utf8_acceptRanges : DataW Unit).lay Tryz.prog (gty 2) 13 = some y1 := by kernel_rfl
theorem le1 : y1.2.length = 0 := by kernel_rfl
theorem gn2 : Tryz.prog.globalNamed "strconv.ErrSyntax" = some 6 := by kernel_rfl
theorem gt2 : (Tryz.prog.globals[(6 : Nat)]?).map (fun l => l.type) = some (gty 6) := by kernel_rfl
noncomputable def yy2 : List Value × List Obj := ((DataW.lay Tryz.prog 684 13 (.ptr (.agg [.lit (.string [105, 110, 118, 97, 108, 105, 100, 32, 115, 121, 110, 116, 97, 120])]))).getD ([], []))
noncomputable def vv2 : Value := (Lay.pack Tryz.prog 684 yy2.1).getD .nilIface
noncomputable def y2 : List Value × List Obj := ([.iface 684 vv2], yy2.2)
theorem lt2 : (match Tryz.prog.underlying (gty 6) with | some (.interface _) => true | _ => false) = true := by kernel_rfl
theorem lu2 : DataW.lay Tryz.prog 684 13 (.ptr (.agg [.lit (.string [105, 110, 118, 97, 108, 105, 100, 32, 115, 121, 110, 116, 97, 120])])) = some yy2 := by kernel_rfl
theorem lv2 : Lay.pack Tryz.prog 684 yy2.1 = some vv2 := by kernel_rfl
theorem ly2 : (Rows.laid_strconv_ErrSyntax : DataW Unit).lay Tryz.prog (gty 6) 13 = some y2 := by
  unfold Rows.laid_strconv_ErrSyntax y2
  exact lay_iface lt2 find_err lu2 lv2
theorem gn3 : Tryz.prog.globalNamed "strconv.ErrRange" = some 7 := by kernel_rfl
theorem gt3 : (Tryz.prog.globals[(7 : Nat)]?).map (fun l => l.type) = some (gty 7) := by kernel_rfl
noncomputable def yy3 : List Value × List Obj := ((DataW.lay Tryz.prog 684 14 (.ptr (.agg [.lit (.string [118, 97, 108, 117, 101, 32, 111, 117, 116, 32, 111, 102, 32, 114, 97, 110, 103, 101])]))).getD ([], []))
noncomputable def vv3 : Value := (Lay.pack Tryz.prog 684 yy3.1).getD .nilIface
noncomputable def y3 : List Value × List Obj := ([.iface 684 vv3], yy3.2)
theorem lt3 : (match Tryz.prog.underlying (gty 7) with | some (.interface _) => true | _ => false) = true := by kernel_rfl
theorem lu3 : DataW.lay Tryz.prog 684 14 (.ptr (.agg [.lit (.string [118, 97, 108, 117, 101, 32, 111, 117, 116, 32, 111, 102, 32, 114, 97, 110, 103, 101])])) = some yy3 := by kernel_rfl
theorem lv3 : Lay.pack Tryz.prog 684 yy3.1 = some vv3 := by kernel_rfl
theorem ly3 : (Rows.laid_strconv_ErrRange : DataW Unit).lay Tryz.prog (gty 7) 14 = some y3 := by
  unfold Rows.laid_strconv_ErrRange y3
  exact lay_iface lt3 find_err lu3 lv3
theorem gn4 : Tryz.prog.globalNamed "internal/strconv.uint64pow10" = some 0 := by kernel_rfl
theorem gt4 : (Tryz.prog.globals[(0 : Nat)]?).map (fun l => l.type) = some (gty 0) := by kernel_rfl
noncomputable def y4 : List Value × List Obj := ((DataW.lay Tryz.prog (gty 0) 15 Rows.laid_internal_strconv_uint64pow10).getD ([], []))
theorem ly4 : (Rows.laid_internal_strconv_uint64pow10 : DataW Unit).lay Tryz.prog (gty 0) 15 = some y4 := by kernel_rfl
theorem le4 : y4.2.length = 0 := by kernel_rfl
theorem gn5 : Tryz.prog.globalNamed "math/bits.deBruijn32tab" = some 4 := by kernel_rfl
theorem gt5 : (Tryz.prog.globals[(4 : Nat)]?).map (fun l => l.type) = some (gty 4) := by kernel_rfl
noncomputable def y5 : List Value × List Obj := ((DataW.lay Tryz.prog (gty 4) 15 Rows.laid_math_bits_deBruijn32tab).getD ([], []))
theorem ly5 : (Rows.laid_math_bits_deBruijn32tab : DataW Unit).lay Tryz.prog (gty 4) 15 = some y5 := by kernel_rfl
theorem le5 : y5.2.length = 0 := by kernel_rfl
theorem gn6 : Tryz.prog.globalNamed "math/bits.deBruijn64tab" = some 5 := by kernel_rfl
theorem gt6 : (Tryz.prog.globals[(5 : Nat)]?).map (fun l => l.type) = some (gty 5) := by kernel_rfl
noncomputable def y6 : List Value × List Obj := ((DataW.lay Tryz.prog (gty 5) 15 Rows.laid_math_bits_deBruijn64tab).getD ([], []))
theorem ly6 : (Rows.laid_math_bits_deBruijn64tab : DataW Unit).lay Tryz.prog (gty 5) 15 = some y6 := by kernel_rfl
theorem le6 : y6.2.length = 0 := by kernel_rfl
noncomputable def z7 : List (Nat × List Value) × List Obj := ([], [])
noncomputable def z6 : List (Nat × List Value) × List Obj := ((5, y6.1) :: z7.1, y6.2 ++ z7.2)
noncomputable def z5 : List (Nat × List Value) × List Obj := ((4, y5.1) :: z6.1, y5.2 ++ z6.2)
noncomputable def z4 : List (Nat × List Value) × List Obj := ((0, y4.1) :: z5.1, y4.2 ++ z5.2)
noncomputable def z3 : List (Nat × List Value) × List Obj := ((7, y3.1) :: z4.1, y3.2 ++ z4.2)
noncomputable def z2 : List (Nat × List Value) × List Obj := ((6, y2.1) :: z3.1, y2.2 ++ z3.2)
noncomputable def z1 : List (Nat × List Value) × List Obj := ((2, y1.1) :: z2.1, y1.2 ++ z2.2)
noncomputable def z0 : List (Nat × List Value) × List Obj := ((1, y0.1) :: z1.1, y0.2 ++ z1.2)
theorem lz7 : Lay.layList Tryz.prog 15 [] = some z7 := by kernel_rfl
theorem lz6 : Lay.layList Tryz.prog 15 [("math/bits.deBruijn64tab", Rows.laid_math_bits_deBruijn64tab)] = some z6 := layList_step gn6 gt6 ly6 (show Lay.layList Tryz.prog (15 + y6.2.length) [] = some z7 by rw [show y6.2.length = 0 by kernel_rfl]; exact lz7)
theorem lz5 : Lay.layList Tryz.prog 15 [("math/bits.deBruijn32tab", Rows.laid_math_bits_deBruijn32tab), ("math/bits.deBruijn64tab", Rows.laid_math_bits_deBruijn64tab)] = some z5 := layList_step gn5 gt5 ly5 (show Lay.layList Tryz.prog (15 + y5.2.length) [("math/bits.deBruijn64tab", Rows.laid_math_bits_deBruijn64tab)] = some z6 by rw [show y5.2.length = 0 by kernel_rfl]; exact lz6)
theorem lz4 : Lay.layList Tryz.prog 15 [("internal/strconv.uint64pow10", Rows.laid_internal_strconv_uint64pow10), ("math/bits.deBruijn32tab", Rows.laid_math_bits_deBruijn32tab), ("math/bits.deBruijn64tab", Rows.laid_math_bits_deBruijn64tab)] = some z4 := layList_step gn4 gt4 ly4 (show Lay.layList Tryz.prog (15 + y4.2.length) [("math/bits.deBruijn32tab", Rows.laid_math_bits_deBruijn32tab), ("math/bits.deBruijn64tab", Rows.laid_math_bits_deBruijn64tab)] = some z5 by rw [show y4.2.length = 0 by kernel_rfl]; exact lz5)
theorem lz3 : Lay.layList Tryz.prog 14 [("strconv.ErrRange", Rows.laid_strconv_ErrRange), ("internal/strconv.uint64pow10", Rows.laid_internal_strconv_uint64pow10), ("math/bits.deBruijn32tab", Rows.laid_math_bits_deBruijn32tab), ("math/bits.deBruijn64tab", Rows.laid_math_bits_deBruijn64tab)] = some z3 := layList_step gn3 gt3 ly3 (show Lay.layList Tryz.prog (14 + y3.2.length) [("internal/strconv.uint64pow10", Rows.laid_internal_strconv_uint64pow10), ("math/bits.deBruijn32tab", Rows.laid_math_bits_deBruijn32tab), ("math/bits.deBruijn64tab", Rows.laid_math_bits_deBruijn64tab)] = some z4 by rw [show y3.2.length = 1 by kernel_rfl]; exact lz4)
theorem lz2 : Lay.layList Tryz.prog 13 [("strconv.ErrSyntax", Rows.laid_strconv_ErrSyntax), ("strconv.ErrRange", Rows.laid_strconv_ErrRange), ("internal/strconv.uint64pow10", Rows.laid_internal_strconv_uint64pow10), ("math/bits.deBruijn32tab", Rows.laid_math_bits_deBruijn32tab), ("math/bits.deBruijn64tab", Rows.laid_math_bits_deBruijn64tab)] = some z2 := layList_step gn2 gt2 ly2 (show Lay.layList Tryz.prog (13 + y2.2.length) [("strconv.ErrRange", Rows.laid_strconv_ErrRange), ("internal/strconv.uint64pow10", Rows.laid_internal_strconv_uint64pow10), ("math/bits.deBruijn32tab", Rows.laid_math_bits_deBruijn32tab), ("math/bits.deBruijn64tab", Rows.laid_math_bits_deBruijn64tab)] = some z3 by rw [show y2.2.length = 1 by kernel_rfl]; exact lz3)
theorem lz1 : Lay.layList Tryz.prog 13 [("unicode/utf8.acceptRanges", Rows.laid_unicode_utf8_acceptRanges), ("strconv.ErrSyntax", Rows.laid_strconv_ErrSyntax), ("strconv.ErrRange", Rows.laid_strconv_ErrRange), ("internal/strconv.uint64pow10", Rows.laid_internal_strconv_uint64pow10), ("math/bits.deBruijn32tab", Rows.laid_math_bits_deBruijn32tab), ("math/bits.deBruijn64tab", Rows.laid_math_bits_deBruijn64tab)] = some z1 := layList_step gn1 gt1 ly1 (show Lay.layList Tryz.prog (13 + y1.2.length) [("strconv.ErrSyntax", Rows.laid_strconv_ErrSyntax), ("strconv.ErrRange", Rows.laid_strconv_ErrRange), ("internal/strconv.uint64pow10", Rows.laid_internal_strconv_uint64pow10), ("math/bits.deBruijn32tab", Rows.laid_math_bits_deBruijn32tab), ("math/bits.deBruijn64tab", Rows.laid_math_bits_deBruijn64tab)] = some z2 by rw [show y1.2.length = 0 by kernel_rfl]; exact lz2)
theorem lz0 : Lay.layList Tryz.prog 13 [("unicode/utf8.first", Rows.laid_unicode_utf8_first), ("unicode/utf8.acceptRanges", Rows.laid_unicode_utf8_acceptRanges), ("strconv.ErrSyntax", Rows.laid_strconv_ErrSyntax), ("strconv.ErrRange", Rows.laid_strconv_ErrRange), ("internal/strconv.uint64pow10", Rows.laid_internal_strconv_uint64pow10), ("math/bits.deBruijn32tab", Rows.laid_math_bits_deBruijn32tab), ("math/bits.deBruijn64tab", Rows.laid_math_bits_deBruijn64tab)] = some z0 := layList_step gn0 gt0 ly0 (show Lay.layList Tryz.prog (13 + y0.2.length) [("unicode/utf8.acceptRanges", Rows.laid_unicode_utf8_acceptRanges), ("strconv.ErrSyntax", Rows.laid_strconv_ErrSyntax), ("strconv.ErrRange", Rows.laid_strconv_ErrRange), ("internal/strconv.uint64pow10", Rows.laid_internal_strconv_uint64pow10), ("math/bits.deBruijn32tab", Rows.laid_math_bits_deBruijn32tab), ("math/bits.deBruijn64tab", Rows.laid_math_bits_deBruijn64tab)] = some z1 by rw [show y0.2.length = 0 by kernel_rfl]; exact lz1)
noncomputable abbrev laidL : List (String × DataW Unit) := [("unicode/utf8.first", Rows.laid_unicode_utf8_first), ("unicode/utf8.acceptRanges", Rows.laid_unicode_utf8_acceptRanges), ("strconv.ErrSyntax", Rows.laid_strconv_ErrSyntax), ("strconv.ErrRange", Rows.laid_strconv_ErrRange), ("internal/strconv.uint64pow10", Rows.laid_internal_strconv_uint64pow10), ("math/bits.deBruijn32tab", Rows.laid_math_bits_deBruijn32tab), ("math/bits.deBruijn64tab", Rows.laid_math_bits_deBruijn64tab)]
theorem lay_all : Lay.layList Tryz.prog 13 laidL = some z0 := lz0
theorem hsize : (heapUp Tryz.prog).size = 13 := by kernel_rfl
noncomputable def heapL : Array Obj := ⟨Lay.setRows (heapUp Tryz.prog).toList z0.1 ++ z0.2⟩
noncomputable abbrev wH (os : Os) : World := { (begin Tryz.prog (fun _ _ => 0) os).world with heap := heapUp Tryz.prog }
noncomputable abbrev wL (os : Os) : World := { (begin Tryz.prog (fun _ _ => 0) os).world with heap := heapL }
theorem holding_w (os : Os) : World.holding Tryz.prog os ⟨#[], #[], []⟩ = wH os := holding_eq rd_ok cpu_ok rfl os
theorem laid_w (os : Os) : World.laidAll Tryz.prog os laidL = wL os := by
  unfold World.laidAll
  rw [holding_w]
  exact layVars_of (w := wH os) hsize lay_all
theorem nodup_w : decide (z0.1.map (·.1)).Nodup = true := by kernel_rfl
theorem isrow_w : (z0.1.all fun r => Lay.isRow (heapUp Tryz.prog).toList[r.1]? && !([] : List Nat).contains r.1) = true := by kernel_rfl
theorem fits_w (os : Os) : (World.holding Tryz.prog os ⟨#[], #[], []⟩).layFits Tryz.prog laidL [] = true := by
  rw [holding_w]
  exact layFits_of (w := wH os) hsize lay_all nodup_w isrow_w rfl
end Go.Proofs.YtaabpahemponkaaGreatDoor
set_option maxRecDepth 100000
namespace Go.Proofs.YtaabpahemponkaaGreatDoor
open Go Go.ChangeShapes Go.WideShapes Go.ChangeAt Go.RowKit Go.Clo
theorem ifaces_w (os : Os) : (World.holding Tryz.prog os ⟨#[], #[], []⟩).layIfaces Tryz.prog laidL (World.laidAll Tryz.prog os laidL) = true := by
  rw [holding_w, laid_w]
  exact layIfaces_of (w := wH os) hsize lay_all (by kernel_rfl) (by kernel_rfl)
end Go.Proofs.YtaabpahemponkaaGreatDoor
set_option maxRecDepth 100000
namespace Go.Proofs.YtaabpahemponkaaGreatDoor
open Go Go.ChangeShapes Go.WideShapes Go.ChangeAt Go.RowKit Go.Clo
theorem zip_w_4 (os : Os) : ((wL os).forCall (fun _ _ => 0) ⟨#[], #[.slice none 0 0], []⟩).variablesZipB Tryz.prog = true := by
  unfold World.variablesZipB
  dsimp only
  rw [begin_heap rd_ok cpu_ok]
  kernel_rfl
end Go.Proofs.YtaabpahemponkaaGreatDoor
set_option maxRecDepth 100000
namespace Go.Proofs.YtaabpahemponkaaGreatDoor
open Go Go.ChangeShapes Go.WideShapes Go.ChangeAt Go.RowKit Go.Clo
theorem rest_w_4 (os : Os) : (((wL os).forCall (fun _ _ => 0) ⟨#[], #[.slice none 0 0], []⟩).heap.toList.drop Tryz.prog.globals.size).take ((begin Tryz.prog (fun _ _ => 0) default).world.heap.size - Tryz.prog.globals.size) = (begin Tryz.prog (fun _ _ => 0) default).world.heap.toList.drop Tryz.prog.globals.size := by
  rw [begin_heap rd_ok cpu_ok]
  kernel_rfl
end Go.Proofs.YtaabpahemponkaaGreatDoor
set_option maxRecDepth 100000
namespace Go.Proofs.YtaabpahemponkaaGreatDoor
open Go Go.ChangeShapes Go.WideShapes Go.ChangeAt Go.RowKit Go.Clo
theorem ok_w_4 (os : Os) : Input.okWideB Tryz.prog ((wL os).forCall (fun _ _ => 0) ⟨#[], #[.slice none 0 0], []⟩) 4 ⟨#[], #[.slice none 0 0], []⟩ = true := by kernel_rfl
theorem pre_w_4 (os : Os) (H : Type) (enc : TypeId × Value → H) : Rows.topDelaySpec.preB enc Tryz.prog Tryz.f4 [] false ((wL os).forCall (fun _ _ => 0) ⟨#[], #[.slice none 0 0], []⟩).memory #[.slice none 0 0] 8 = true := by kernel_rfl
theorem sized_w_4 (os : Os) (H : Type) (enc : TypeId × Value → H) : Rows.topDelaySpec.sizedB enc Tryz.prog Tryz.f4 false ((wL os).forCall (fun _ _ => 0) ⟨#[], #[.slice none 0 0], []⟩).memory #[.slice none 0 0] 8 = true := by kernel_rfl
theorem plain_w_4 (w : World) : laidMetH Tryz.prog Rows.topDelayRow.laid w = laidMet Tryz.prog Rows.topDelayRow.laid w := MakeChecks.laidMetH_plain _ _ _ (by kernel_rfl)
theorem shaped_w_4 (os : Os) : ((wL os).forCall (fun _ _ => 0) ⟨#[], #[.slice none 0 0], []⟩).Shaped Tryz.prog := World.shaped_of_ZipB (zip_w_4 os) (rest_w_4 os)
theorem met_w_4 (os : Os) : laidMet Tryz.prog laidL ((wL os).forCall (fun _ _ => 0) ⟨#[], #[.slice none 0 0], []⟩).memory := by
  have h := laidMet_laidAll #[.slice none 0 0] (fits_w os) (ifaces_w os)
  rw [laid_w] at h
  exact h
end Go.Proofs.YtaabpahemponkaaGreatDoor
