/- The functions on numbers: within, the greatest common divisor, and the functions over them. Each returns what the plain function says. -/
import Derived.Test.YtaihigaafjmpiaaDoorBase
namespace Go.Proofs.YtaihigaafjmpiaaDoor
open Go.RowKit
set_option linter.unusedVariables false

theorem within_any (a b c : Int) (w : World) :
    Calls Tryd.prog 34 #[.int .i64 a, .int .i64 b, .int .i64 c] w fun e w' => e = .returned (.bool (decide (b ≤ a ∧ a ≤ c))) ∧ w = w' := by
  go_enter Tryd.func34, Tryd.ntmps34
  go_wp2
  all_goals go_ret
  all_goals exact ⟨by congr 2; simp; omega, rfl⟩
theorem within_yes (a b c : Int) (h : b ≤ a ∧ a ≤ c) (w : World) :
    Calls Tryd.prog 34 #[.int .i64 a, .int .i64 b, .int .i64 c] w fun e w' => e = .returned (.bool true) ∧ w = w' :=
  (within_any a b c w).mono fun _ _ ⟨he, hw⟩ => ⟨by rw [he, decide_eq_true h], hw⟩
theorem within_no (a b c : Int) (h : ¬ (b ≤ a ∧ a ≤ c)) (w : World) :
    Calls Tryd.prog 34 #[.int .i64 a, .int .i64 b, .int .i64 c] w fun e w' => e = .returned (.bool false) ∧ w = w' :=
  (within_any a b c w).mono fun _ _ ⟨he, hw⟩ => ⟨by rw [he, decide_eq_false h], hw⟩

def igcd (a b : Int) : Int := (Int.gcd a b : Int)
theorem igcd_step (a b : Int) : igcd b (a % b) = igcd a b := by
  unfold igcd
  have h := Int.gcd_sub_mul_right_right b (a) (a / b)
  rw [Int.gcd_comm a b, ← h]
  congr 2
  have := Int.emod_def a b
  rw [this, Int.mul_comm]
theorem igcd_zero (a : Int) (h : 0 ≤ a) : igcd a 0 = a := by
  unfold igcd; rw [Int.gcd_zero_right]; omega

/-- What both PartnerOf return. -/
def partB (p q : Int) : Prop := (1 ≤ q ∧ q ≤ 100) ∧ (q + 1 ≤ p ∧ p ≤ 1000)
theorem igcd_pos (a b : Int) (h : 0 < a) : 0 < igcd a b := by
  unfold igcd
  have : 0 < Int.gcd a b := Int.gcd_pos_of_ne_zero_left _ (by omega)
  omega
theorem igcd_le (a b : Int) (h : 0 < a) : igcd a b ≤ a := by
  unfold igcd
  have := Int.gcd_le_left (a := a) b h
  omega
end Go.Proofs.YtaihigaafjmpiaaDoor
