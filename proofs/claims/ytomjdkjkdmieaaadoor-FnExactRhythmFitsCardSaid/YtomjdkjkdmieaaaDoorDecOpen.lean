/- What the tied card's condition gives: the table of powers. -/
import Derived.Test.YtomjdkjkdmieaaaDoorRows
import Derived.Test.YtomjdkjkdmieaaaDoorDec
import Derived.LaidMore
import Derived.Stop.LaidErr
import Derived.Stop.Joined
import Derived.Lib.LaidTab
namespace Go.Proofs.YtomjdkjkdmieaaaDoor
open Go.RowKit
theorem powData : (Rows.laid_internal_strconv_uint64pow10 : DataW Unit) = Lib.tabData .u64 Lib.pow10Tab := by kernel_rfl
theorem of_laid10 {W : World} (h : laidMetH Tryd.prog [("math/bits.deBruijn32tab", Rows.laid_math_bits_deBruijn32tab), ("math/bits.deBruijn64tab", Rows.laid_math_bits_deBruijn64tab), ("internal/strconv.uint64pow10", Rows.laid_internal_strconv_uint64pow10)] W) : Tab10 W := by
  rw [MakeChecks.laidMetH_plain _ _ _ (by kernel_rfl), powData] at h
  exact Lib.tabIs_of_head (show Tryd.prog.globalNamed "internal/strconv.uint64pow10" = some 1 by kernel_rfl) (t := 95) (by kernel_rfl) Tryd.underlying95 Tryd.underlying85 (by kernel_rfl) (by kernel_rfl) (laidMet.tail (laidMet.tail h))
theorem andT {a b : Bool} (h1 : a = true) (h2 : b = true) : (a && b) = true := by rw [h1, h2]; rfl
end Go.Proofs.YtomjdkjkdmieaaaDoor
