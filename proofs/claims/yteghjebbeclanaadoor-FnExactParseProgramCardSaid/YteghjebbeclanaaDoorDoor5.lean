import Derived.Test.YteghjebbeclanaaDoorDoor2
import Derived.Lay
namespace Go.Proofs.YteghjebbeclanaaDoor
open Go Go.ChangeShapes Go.WideShapes Go.ChangeAt Go.RowKit
set_option maxRecDepth 100000
/-- The five tables that some rows list. -/
def doorLaid5 : List (String × DataW Unit) := [("math/bits.deBruijn32tab", Rows.laid_math_bits_deBruijn32tab), ("math/bits.deBruijn64tab", Rows.laid_math_bits_deBruijn64tab), ("internal/strconv.uint64pow10", Rows.laid_internal_strconv_uint64pow10), ("unicode/utf8.acceptRanges", Rows.laid_unicode_utf8_acceptRanges), ("unicode/utf8.first", Rows.laid_unicode_utf8_first)]
theorem powIs_of_laid5 {W : World} (h : laidMetH Tryd.prog doorLaid5 W) : PowIs W := by
  rw [MakeChecks.laidMetH_plain _ _ _ (by kernel_rfl)] at h
  exact Lib.tabIs_of_head (t := 125) (e := 119) (n := 20) gPow (by kernel_rfl) Tryd.underlying125 Tryd.underlying119 (by kernel_rfl) (by kernel_rfl) (laidMet.tail (laidMet.tail h))
end Go.Proofs.YteghjebbeclanaaDoor
