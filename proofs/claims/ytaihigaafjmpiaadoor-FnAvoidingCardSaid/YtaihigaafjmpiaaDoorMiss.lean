/- MissedBy, both: the numbers from 1 on that a list does not hold. -/
import Derived.Test.YtaihigaafjmpiaaDoorHelp
import Derived.Test.YtaihigaafjmpiaaDoorNum
namespace Go.Proofs.YtaihigaafjmpiaaDoor
open Go.RowKit
set_option linter.unusedVariables false


/-- The numbers from 1 to n that zs does not hold. -/
def msd (zs : List Int) : Nat → List Int
  | 0 => []
  | n + 1 => if ((n : Int) + 1) ∈ zs then msd zs n else msd zs n ++ [(n : Int) + 1]
theorem msd_length (zs : List Int) : ∀ n, (msd zs n).length ≤ n
  | 0 => Nat.le_refl _
  | n + 1 => by have := msd_length zs n; simp only [msd]; split <;> simp <;> omega

end Go.Proofs.YtaihigaafjmpiaaDoor
