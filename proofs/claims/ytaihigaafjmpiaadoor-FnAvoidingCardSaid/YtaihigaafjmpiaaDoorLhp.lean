/- Helpers of the great laws: has, sum, starts, equal. -/
import Derived.Test.YtaihigaafjmpiaaDoorMiss
import Derived.Test.YtaihigaafjmpiaaDoorHelp
import Derived.Test.YtaihigaafjmpiaaDoorStr
namespace Go.Proofs.YtaihigaafjmpiaaDoor
open Go.RowKit
set_option linter.unusedVariables false

set_option maxHeartbeats 400000 in
theorem lequal_same (xs : List ByteArray) (A A' : Option Addr) (c c' B B' n : Nat) (w : World) (hl : xs.length = n) (hn : n ≤ 1000000) (hx : Rds w B A (xs.map Value.string)) (hy : Rds w B' A' (xs.map Value.string)) :
    Calls Tryd.prog 19 #[.slice A n c, .slice A' n c'] w fun e w' => e = .returned (.bool true) ∧ Dr w w' := by
  subst hl
  have HX := Lib.hid hx; have HY := Lib.hid hy; clear hx hy
  go_enter Tryd.func19, Tryd.ntmps19
  go_wp2_with fail
  go_loopw [5, 6, 14] (fun _ _ i wr => ∃ k : Nat, k ≤ xs.length ∧ i = .int .i64 k ∧ Dr w wr) (fun _ _ i _ => xs.length - (intOf i).toNat)
  case atStart => exact ⟨0, by omega, rfl, Dr.refl _⟩
  case round =>
    obtain ⟨k, hk, rfl, hd⟩ := hrel
    by_cases hlt : k < xs.length
    · obtain ⟨x, hx⟩ := some_of_lt (l := xs) (k := k) hlt
      obtain ⟨ad, rfl, hc⟩ := (HX.out.dr hd).at_ (map_at Value.string hx)
      obtain ⟨ad2, rfl, hc2⟩ := (HY.out.dr hd).at_ (map_at Value.string hx)
      clear hx
      go_wp2_with fail
      go_roundw
      case rel => exact ⟨k + 1, by omega, by go_num, hd⟩
      case measure => simp [intOf]; omega
    · have hlt2 : decide ((k : Int) < (xs.length : Int)) = false := decide_eq_false (by omega)
      go_wp2_with fail
      go_ret
      exact ⟨rfl, hd⟩
end Go.Proofs.YtaihigaafjmpiaaDoor
