/- The library's two errors and its table of powers of ten, out of what a row lists. No condition. -/
import Derived.Test.YtfkdkcipnkkplaaDoorPiw
import Derived.Stop.LaidErr
namespace Go.Proofs.YtfkdkcipnkkplaaDoor
open Go.RowKit
set_option linter.unusedVariables false

theorem pow10_tab7 : (Rows.laid_internal_strconv_uint64pow10 : DataW Unit) = Lib.tabData .u64 Lib.pow10Tab := rfl
theorem TB.of_head {r : List (String × DataW Unit)} {w : World} (h : laidMet Tryd.prog (("internal/strconv.uint64pow10", Rows.laid_internal_strconv_uint64pow10) :: r) w) : TB w := by
  rw [pow10_tab7] at h
  exact Lib.tabIs_of_head (g := (Tryd.prog.globalNamed "internal/strconv.uint64pow10").getD 0) (t := ((Tryd.prog.globals[(Tryd.prog.globalNamed "internal/strconv.uint64pow10").getD 0]?).map (·.type)).getD 0) (n := 20) (e := 105) (by kernel_rfl) (by kernel_rfl) (by kernel_rfl) (by kernel_rfl) (by kernel_rfl) (by kernel_rfl) h
theorem star_err : "*" ++ "errors.errorString" = "*errors.errorString" := by decide
theorem row_err (u : TypeId) (h : Tryd.prog.typeName? 3 u = some "*errors.errorString") : u = 130 :=
  typeName_ptr_named (nm := "errors.errorString") (by rw [star_err]; kernel_rfl) (by kernel_rfl) (by decide) u (by rw [star_err]; exact h)
theorem ES.of {r : List (String × DataW Unit)} {w : World} (h : laidMet Tryd.prog (("strconv.ErrSyntax", Rows.laid_strconv_ErrSyntax) :: r) w) : ES w := by
  have hg : Tryd.prog.globalNamed "strconv.ErrSyntax" = some (Tryd.laysC172_ren.g 15) := by kernel_rfl
  obtain ⟨a, s, hv, _, _, _⟩ := laid_sentinel h hg (by kernel_rfl) Tryd.underlying71 row_err Tryd.underlying130 Tryd.underlying132 rfl rfl Tryd.underlying9 (by kernel_rfl) (by kernel_rfl)
  exact ⟨_, _, by have h0 := World.var?_cell hg hv 0; simpa using h0⟩
theorem EG.of {r : List (String × DataW Unit)} {w : World} (h : laidMet Tryd.prog (("strconv.ErrRange", Rows.laid_strconv_ErrRange) :: r) w) : EG w := by
  have hg : Tryd.prog.globalNamed "strconv.ErrRange" = some (Tryd.laysC172_ren.g 16) := by kernel_rfl
  obtain ⟨a, s, hv, _, _, _⟩ := laid_sentinel h hg (by kernel_rfl) Tryd.underlying71 row_err Tryd.underlying130 Tryd.underlying132 rfl rfl Tryd.underlying9 (by kernel_rfl) (by kernel_rfl)
  exact ⟨_, _, by have h0 := World.var?_cell hg hv 0; simpa using h0⟩
end Go.Proofs.YtfkdkcipnkkplaaDoor
