/- The functions on numbers: within, the greatest common divisor, and the functions over them. Each returns what the plain function says. -/
import Derived.Test.YtkmkaaomkjhlgaaDoorBase
namespace Go.Proofs.YtkmkaaomkjhlgaaDoor
open Go.RowKit
set_option linter.unusedVariables false

theorem l01In_any (a b c : Int) (w : World) :
    Calls Tryd.prog 59 #[.int .i64 a, .int .i64 b, .int .i64 c] w fun e w' => e = .returned (.bool (decide (b ≤ a ∧ a ≤ c))) ∧ w = w' := by
  go_enter Tryd.func59, Tryd.ntmps59
  go_wp2
  all_goals go_ret
  all_goals exact ⟨by congr 2; simp; omega, rfl⟩
theorem l01In_yes (a b c : Int) (h : b ≤ a ∧ a ≤ c) (w : World) :
    Calls Tryd.prog 59 #[.int .i64 a, .int .i64 b, .int .i64 c] w fun e w' => e = .returned (.bool true) ∧ w = w' :=
  (l01In_any a b c w).mono fun _ _ ⟨he, hw⟩ => ⟨by rw [he, decide_eq_true h], hw⟩
theorem l01In_no (a b c : Int) (h : ¬ (b ≤ a ∧ a ≤ c)) (w : World) :
    Calls Tryd.prog 59 #[.int .i64 a, .int .i64 b, .int .i64 c] w fun e w' => e = .returned (.bool false) ∧ w = w' :=
  (l01In_any a b c w).mono fun _ _ ⟨he, hw⟩ => ⟨by rw [he, decide_eq_false h], hw⟩
theorem within_any (a b c : Int) (w : World) :
    Calls Tryd.prog 30 #[.int .i64 a, .int .i64 b, .int .i64 c] w fun e w' => e = .returned (.bool (decide (b ≤ a ∧ a ≤ c))) ∧ w = w' := by
  go_enter Tryd.func30, Tryd.ntmps30
  go_wp2
  all_goals go_ret
  all_goals exact ⟨by congr 2; simp; omega, rfl⟩
theorem within_yes (a b c : Int) (h : b ≤ a ∧ a ≤ c) (w : World) :
    Calls Tryd.prog 30 #[.int .i64 a, .int .i64 b, .int .i64 c] w fun e w' => e = .returned (.bool true) ∧ w = w' :=
  (within_any a b c w).mono fun _ _ ⟨he, hw⟩ => ⟨by rw [he, decide_eq_true h], hw⟩
theorem within_no (a b c : Int) (h : ¬ (b ≤ a ∧ a ≤ c)) (w : World) :
    Calls Tryd.prog 30 #[.int .i64 a, .int .i64 b, .int .i64 c] w fun e w' => e = .returned (.bool false) ∧ w = w' :=
  (within_any a b c w).mono fun _ _ ⟨he, hw⟩ => ⟨by rw [he, decide_eq_false h], hw⟩

def igcd (a b : Int) : Int := (Int.gcd a b : Int)
theorem igcd_step (a b : Int) : igcd b (a % b) = igcd a b := by
  unfold igcd
  have h := Int.gcd_sub_mul_right_right b (a) (a / b)
  rw [Int.gcd_comm a b, ← h]
  congr 2
  have := Int.emod_def a b
  rw [this, Int.mul_comm]
theorem igcd_zero (a : Int) (h : 0 ≤ a) : igcd a 0 = a := by
  unfold igcd; rw [Int.gcd_zero_right]; omega

set_option maxHeartbeats 400000 in
theorem divisor_any (a b : Int) (ha : 0 ≤ a) (hb : 0 ≤ b) (w : World) :
    Calls Tryd.prog 38 #[.int .i64 a, .int .i64 b] w fun e w' => e = .returned (.int .i64 (igcd a b)) ∧ Dr w w' := by
  go_enter Tryd.func38, Tryd.ntmps38
  go_wp2
  go_loopw [0, 1] (fun x y wr => ∃ c d : Int, 0 ≤ c ∧ 0 ≤ d ∧ x = .int .i64 c ∧ y = .int .i64 d ∧ igcd c d = igcd a b ∧ Dr w wr) (fun _ y _ => (intOf y).toNat)
  case atStart => exact ⟨a, b, ha, hb, rfl, rfl, rfl, Dr.refl _⟩
  case round =>
    obtain ⟨c, d, hc, hd, rfl, rfl, hg, hdr⟩ := hrel
    have H := Lib.hid hg; clear hg
    by_cases h0 : d = 0
    · subst h0
      go_wp2
      go_ret
      exact ⟨ret_int (by rw [← H.out, igcd_zero _ hc]), hdr⟩
    · have h1 : 0 < d := by omega
      have h2 : (d != 0) = true := by simpa using h0
      clear h0
      go_wp2
      go_quiet (fail)
      go_wp2
      go_roundw
      case rel => exact ⟨d, c % d, hd, Int.emod_nonneg _ (by omega), rfl, rfl, by rw [igcd_step]; exact H.out, hdr.drewN _⟩
      case measure => have := Int.emod_lt_of_pos c h1; have := Int.emod_nonneg c (b := d) (by omega); simp [intOf]; omega
/-- What both PartnerOf return. -/
def partB (p q : Int) : Prop := (1 ≤ q ∧ q ≤ 100) ∧ (q + 1 ≤ p ∧ p ≤ 1000)
theorem igcd_pos (a b : Int) (h : 0 < a) : 0 < igcd a b := by
  unfold igcd
  have : 0 < Int.gcd a b := Int.gcd_pos_of_ne_zero_left _ (by omega)
  omega
theorem igcd_le (a b : Int) (h : 0 < a) : igcd a b ≤ a := by
  unfold igcd
  have := Int.gcd_le_left (a := a) b h
  omega
set_option maxHeartbeats 400000 in
theorem iPartner_yes (p q : Int) (h1 : 1 ≤ q) (h2 : q ≤ 100) (h3 : q + 1 ≤ p) (h4 : p ≤ 1000) (w : World) :
    Calls Tryd.prog 20 #[.int .i64 p, .int .i64 q] w fun e w' => e = .returned (.tuple #[.int .i64 (p / igcd p (p - q)), .int .i64 ((p - q) / igcd p (p - q)), .bool true]) ∧ Dr w w' := by
  have g0 := igcd_pos p (p - q) (by omega)
  have g1 := igcd_le p (p - q) (by omega)
  go_enter Tryd.func20, Tryd.ntmps20
  go_wp2_with (first
    | (go_at_call 30; refine (within_yes _ _ _ ⟨by omega, by omega⟩ _).mono ?_; rintro e w' ⟨rfl, rfl⟩)
    | (go_at_call 38; refine (divisor_any _ _ (by omega) (by omega) _).mono ?_; rintro e w' ⟨rfl, nd, rfl⟩))
  go_quiet (fail)
  go_wp2
  go_ret3
  exact ⟨rfl, ((Dr.refl _).drewN _).drewN _⟩
set_option maxHeartbeats 400000 in
theorem iPartner_no (p q : Int) (hq : I64 q) (h : ¬ partB p q) (w : World) :
    Calls Tryd.prog 20 #[.int .i64 p, .int .i64 q] w fun e w' => e = .returned (.tuple #[.int .i64 0, .int .i64 0, .bool false]) ∧ Dr w w' := by
  unfold partB at h
  by_cases h1 : 1 ≤ q ∧ q ≤ 100
  · have h2 : ¬ (q + 1 ≤ p ∧ p ≤ 1000) := fun h2 => h ⟨h1, h2⟩
    clear h hq
    obtain ⟨h3, h4⟩ := h1
    have H2 := Lib.hid h2; clear h2
    go_enter Tryd.func20, Tryd.ntmps20
    go_wp2_with (first
      | (go_at_call_of 30 p; refine (within_no _ _ _ H2.out _).mono ?_; rintro e w' ⟨rfl, rfl⟩)
      | (go_at_call 30; refine (within_yes _ _ _ ⟨by omega, by omega⟩ _).mono ?_; rintro e w' ⟨rfl, rfl⟩))
    go_ret3
    exact ⟨rfl, Dr.refl _⟩
  · clear h hq
    have H2 := Lib.hid h1; clear h1
    go_enter Tryd.func20, Tryd.ntmps20
    go_wp2_with (go_at_call 30; refine (within_no _ _ _ H2.out _).mono ?_; rintro e w' ⟨rfl, rfl⟩)
    go_ret3
    exact ⟨rfl, Dr.refl _⟩
end Go.Proofs.YtkmkaaomkjhlgaaDoor
