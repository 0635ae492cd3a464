/- The letters a to d as words; strings put together. No condition. -/
import Derived.Test.YtaihigaafjmpiaaDoorByt
namespace Go.Proofs.YtaihigaafjmpiaaDoor
open Go.RowKit
set_option linter.unusedVariables false

def ltr (k : Nat) : UInt8 := UInt8.ofNat (97 + k)
theorem abc_at (k : Nat) (hk : k < 4) : ({ data := #[97, 98, 99, 100] } : ByteArray).extract k (k + 1) = strOf [ltr k] := by
  match k, hk with
  | 0, _ => rfl
  | 1, _ => rfl
  | 2, _ => rfl
  | 3, _ => rfl
theorem abc_ix (k : Nat) (hk : k < 4) : ({ data := #[97, 98, 99, 100] } : ByteArray)[k]'hk = ltr k := by
  match k, hk with
  | 0, _ => rfl
  | 1, _ => rfl
  | 2, _ => rfl
  | 3, _ => rfl
theorem strOf_app (a b : List UInt8) : strOf a ++ strOf b = strOf (a ++ b) := by
  apply bytes_ext
  simp [strOf, ByteArray.data_append]

end Go.Proofs.YtaihigaafjmpiaaDoor
