/- The library's table of powers of ten, out of what a row lists. -/
import Derived.Test.YtaihigaafjmpiaaDoorFmt
import Derived.Stop.LaidErr
namespace Go.Proofs.YtaihigaafjmpiaaDoor
open Go.RowKit
set_option linter.unusedVariables false

theorem pow10_tab : (Rows.laid_internal_strconv_uint64pow10 : DataW Unit) = Lib.tabData .u64 Lib.pow10Tab := rfl
theorem TB.of {x y : String × DataW Unit} {w : World} (h : laidMet Tryd.prog [x, y, ("internal/strconv.uint64pow10", Rows.laid_internal_strconv_uint64pow10)] w) : TB w := by
  have h2 := h.tail.tail
  rw [pow10_tab] at h2
  exact Lib.tabIs_of_head (g := (Tryd.prog.globalNamed "internal/strconv.uint64pow10").getD 0) (t := ((Tryd.prog.globals[(Tryd.prog.globalNamed "internal/strconv.uint64pow10").getD 0]?).map (·.type)).getD 0) (n := 20) (e := 80) (by kernel_rfl) (by kernel_rfl) (by kernel_rfl) (by kernel_rfl) (by kernel_rfl) (by kernel_rfl) h2
end Go.Proofs.YtaihigaafjmpiaaDoor
