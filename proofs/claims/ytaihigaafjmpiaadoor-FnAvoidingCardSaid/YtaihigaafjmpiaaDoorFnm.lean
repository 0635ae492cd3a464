/- FormatNumbers, both. Asks the shelf's text. No condition but the bounds. -/
import Derived.Test.YtaihigaafjmpiaaDoorFmt
import Derived.Test.YtaihigaafjmpiaaDoorJon
import Derived.Test.YtaihigaafjmpiaaDoorApp4
namespace Go.Proofs.YtaihigaafjmpiaaDoor
open Go.RowKit
set_option linter.unusedVariables false

def fmtI (z : Int) : ByteArray := strOf (Lib.itoa z)
theorem fmtI_size {z : Int} (h : I64 z) : (fmtI z).size ≤ 400 := by
  have := itoa_len h
  rw [fmtI, strOf_size]; omega
theorem itoa_ne (z : Int) : Lib.itoa z ≠ [] := by
  unfold Lib.itoa
  split
  · simp
  · rw [Lib.decDigits]; split <;> simp
def fmL (zs : List Int) : List ByteArray := zs.map fmtI
theorem fmL_len (zs : List Int) : (fmL zs).length = zs.length := List.length_map ..
theorem fmt_map_take {zs : List Int} {k : Nat} {z : Int} (h : zs[k]? = some z) : fmL (zs.take (k + 1)) = fmL (zs.take k) ++ [fmtI z] := by
  rw [fmL, List.take_add_one, h, List.map_append]; rfl
/-- What FormatNumbers returns. -/
def fnmV (zs : List Int) : ByteArray := if 60 < zs.length then { data := #[] } else if zs.length = 0 then { data := #[45] } else strOf (jnS 44 (fmL zs))
theorem jnS_pos {sp : UInt8} {y : ByteArray} {l : List ByteArray} (h : 0 < y.size) : 0 < (jnS sp (y :: l)).length := by
  have h1 : 0 < (L y).length := by rw [L_len]; exact h
  cases l with
  | nil => simpa [jnS, Lib.join, List.intercalate] using h1
  | cons z l =>
    have : 0 < y.size + (jnS sp (z :: l)).length + 1 := by omega
    simp [jnS, Lib.join, List.intercalate]; omega
end Go.Proofs.YtaihigaafjmpiaaDoor
