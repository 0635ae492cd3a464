/- The functions on numbers: within, the greatest common divisor, and the functions over them. Each returns what the plain function says. -/
import Derived.Test.YtbegecoocgkbiaaGreatDoorM1
namespace Go.Proofs.YtbegecoocgkbiaaGreatDoor
open Go.RowKit
set_option linter.unusedVariables false

theorem l01In_any (a b c : Int) (w : World) :
    Calls Tryz.prog 219 #[.int .i64 a, .int .i64 b, .int .i64 c] w fun e w' => e = .returned (.bool (decide (b ≤ a ∧ a ≤ c))) ∧ w = w' := by
  go_enter Tryz.func219, Tryz.ntmps219
  go_wp2
  all_goals go_ret
  all_goals exact ⟨by congr 2; simp; omega, rfl⟩
theorem l01In_yes (a b c : Int) (h : b ≤ a ∧ a ≤ c) (w : World) :
    Calls Tryz.prog 219 #[.int .i64 a, .int .i64 b, .int .i64 c] w fun e w' => e = .returned (.bool true) ∧ w = w' :=
  (l01In_any a b c w).mono fun _ _ ⟨he, hw⟩ => ⟨by rw [he, decide_eq_true h], hw⟩
theorem l01In_no (a b c : Int) (h : ¬ (b ≤ a ∧ a ≤ c)) (w : World) :
    Calls Tryz.prog 219 #[.int .i64 a, .int .i64 b, .int .i64 c] w fun e w' => e = .returned (.bool false) ∧ w = w' :=
  (l01In_any a b c w).mono fun _ _ ⟨he, hw⟩ => ⟨by rw [he, decide_eq_false h], hw⟩
theorem within_any (a b c : Int) (w : World) :
    Calls Tryz.prog 61 #[.int .i64 a, .int .i64 b, .int .i64 c] w fun e w' => e = .returned (.bool (decide (b ≤ a ∧ a ≤ c))) ∧ w = w' := by
  go_enter Tryz.func61, Tryz.ntmps61
  go_wp2
  all_goals go_ret
  all_goals exact ⟨by congr 2; simp; omega, rfl⟩
theorem within_yes (a b c : Int) (h : b ≤ a ∧ a ≤ c) (w : World) :
    Calls Tryz.prog 61 #[.int .i64 a, .int .i64 b, .int .i64 c] w fun e w' => e = .returned (.bool true) ∧ w = w' :=
  (within_any a b c w).mono fun _ _ ⟨he, hw⟩ => ⟨by rw [he, decide_eq_true h], hw⟩
theorem within_no (a b c : Int) (h : ¬ (b ≤ a ∧ a ≤ c)) (w : World) :
    Calls Tryz.prog 61 #[.int .i64 a, .int .i64 b, .int .i64 c] w fun e w' => e = .returned (.bool false) ∧ w = w' :=
  (within_any a b c w).mono fun _ _ ⟨he, hw⟩ => ⟨by rw [he, decide_eq_false h], hw⟩

def igcd (a b : Int) : Int := (Int.gcd a b : Int)
theorem igcd_step (a b : Int) : igcd b (a % b) = igcd a b := by
  unfold igcd
  have h := Int.gcd_sub_mul_right_right b (a) (a / b)
  rw [Int.gcd_comm a b, ← h]
  congr 2
  have := Int.emod_def a b
  rw [this, Int.mul_comm]
theorem igcd_zero (a : Int) (h : 0 ≤ a) : igcd a 0 = a := by
  unfold igcd; rw [Int.gcd_zero_right]; omega

set_option maxHeartbeats 400000 in
theorem divisor_any (a b : Int) (ha : 0 ≤ a) (hb : 0 ≤ b) (w : World) :
    Calls Tryz.prog 87 #[.int .i64 a, .int .i64 b] w fun e w' => e = .returned (.int .i64 (igcd a b)) ∧ Dr w w' := by
  go_enter Tryz.func87, Tryz.ntmps87
  go_wp2
  go_loopw [0, 1] (fun x y wr => ∃ c d : Int, 0 ≤ c ∧ 0 ≤ d ∧ x = .int .i64 c ∧ y = .int .i64 d ∧ igcd c d = igcd a b ∧ Dr w wr) (fun _ y _ => (intOf y).toNat)
  case atStart => exact ⟨a, b, ha, hb, rfl, rfl, rfl, Dr.refl _⟩
  case round =>
    obtain ⟨c, d, hc, hd, rfl, rfl, hg, hdr⟩ := hrel
    have H := Lib.hid hg; clear hg
    by_cases h0 : d = 0
    · subst h0
      go_wp2
      go_ret
      exact ⟨ret_int (by rw [← H.out, igcd_zero _ hc]), hdr⟩
    · have h1 : 0 < d := by omega
      have h2 : (d != 0) = true := by simpa using h0
      clear h0
      go_wp2
      go_quiet (fail)
      go_wp2
      go_roundw
      case rel => exact ⟨d, c % d, hd, Int.emod_nonneg _ (by omega), rfl, rfl, by rw [igcd_step]; exact H.out, hdr.drewN _⟩
      case measure => have := Int.emod_lt_of_pos c h1; have := Int.emod_nonneg c (b := d) (by omega); simp [intOf]; omega
/-- What both PartnerOf return. -/
def partB (p q : Int) : Prop := (1 ≤ q ∧ q ≤ 100) ∧ (q + 1 ≤ p ∧ p ≤ 1000)
theorem igcd_pos (a b : Int) (h : 0 < a) : 0 < igcd a b := by
  unfold igcd
  have : 0 < Int.gcd a b := Int.gcd_pos_of_ne_zero_left _ (by omega)
  omega
theorem igcd_le (a b : Int) (h : 0 < a) : igcd a b ≤ a := by
  unfold igcd
  have := Int.gcd_le_left (a := a) b h
  omega
end Go.Proofs.YtbegecoocgkbiaaGreatDoor
