import Derived.Test.YtclldakoinnhhaaDoorRows
import Derived.Test.YtclldakoinnhhaaDoorTie
import Derived.Test.YtclldakoinnhhaaDoorCards
import Derived.Test.YtclldakoinnhhaaDoorIn
import Derived.LaidMore
import Derived.Stop.Joined
import Derived.Stop.LaidErr
import Derived.SevenTiedAt
import Derived.Lib.LaidTab
import Derived.Lib.ItoaNum
import Derived.Lib.ItoaLen
import Derived.Lib.AppendIntMem
namespace Go.Proofs.YtclldakoinnhhaaDoor
open Go Go.ChangeShapes Go.WideShapes Go.ChangeAt Go.RowKit
set_option maxRecDepth 100000
/-- The three tables that the rows list. -/
def doorLaid : List (String × DataW Unit) := [("math/bits.deBruijn32tab", Rows.laid_math_bits_deBruijn32tab), ("math/bits.deBruijn64tab", Rows.laid_math_bits_deBruijn64tab), ("internal/strconv.uint64pow10", Rows.laid_internal_strconv_uint64pow10)]
theorem door_met (os : Os) (args : Array Value) : laidMetH Tryd.prog doorLaid ((World.doorLaid Tryd.prog 4000 os).forCall (fun _ _ => 0) ⟨#[], args, []⟩).memory :=
  laidMetH_of_parts (laidMet_of_run' 8 (by kernel_rfl) (by kernel_rfl)) (by kernel_rfl)
theorem gPow : Tryd.prog.globalNamed "internal/strconv.uint64pow10" = some 1 := by kernel_rfl
/-- The table that strconv.Itoa reads. -/
abbrev PowIs (w : World) : Prop := Lib.TabIs Tryd.prog w "internal/strconv.uint64pow10" .u64 Lib.pow10Tab
theorem powIs_of_laid {W : World} (h : laidMetH Tryd.prog doorLaid W) : PowIs W := by
  rw [MakeChecks.laidMetH_plain _ _ _ (by kernel_rfl)] at h
  exact Lib.tabIs_of_head (t := 117) (e := 108) (n := 20) gPow (by kernel_rfl) Tryd.underlying117 Tryd.underlying108 (by kernel_rfl) (by kernel_rfl) (laidMet.tail (laidMet.tail h))
theorem PowIs.lt {w : World} (h : PowIs w) : 1 < w.heap.size := by
  have := Lib.TabIs.cell h gPow 0 (by decide)
  exact block_lt_of_cell this
theorem PowIs.below {w w' : World} (h : PowIs w) (hb : Below w.heap.size w w') : PowIs w' := Lib.tabBelow_of_tabIs h w' hb
end Go.Proofs.YtclldakoinnhhaaDoor
