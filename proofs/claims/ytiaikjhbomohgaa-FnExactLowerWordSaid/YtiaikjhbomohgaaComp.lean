/- Lower and upper numbers, lost positions: LowerOf, UpperOf, IsLosing. -/
import Derived.Test.YtiaikjhbomohgaaGold
namespace Go.Proofs.Ytiaikjhbomohgaa
open Go.RowKit
set_option linter.unusedVariables false

/-- Whether a position is lost. -/
noncomputable def lostB (a b : Int) : Bool := if a ≤ b then a == low (b - a) else b == low (a - b)
theorem beq_swap (a b : Int) : (a == b) = (b == a) := by rw [Bool.eq_iff_iff]; simp; exact ⟨fun h => h.symm, fun h => h.symm⟩
set_option maxHeartbeats 400000 in
theorem iIsLosing_yes (a b : Int) (h1 : 0 ≤ a) (h2 : a ≤ 100000) (h3 : 0 ≤ b) (h4 : b ≤ 100000) (w : World) :
    Calls Try.prog 57 #[.int .i64 a, .int .i64 b] w fun e w' => e = .returned (.bool (lostB a b)) ∧ Below w.heap.size w w' := by
  rcases Int.lt_trichotomy a b with hab | hab | hab
  · have hr : Hid (lostB a b = (a == low (b - a))) := if_pos (Int.le_of_lt hab)
    go_enter Try.func57, Try.ntmps57
    go_wp2_with (first
      | (go_at_call 56; refine (within_yes _ _ _ ⟨by omega, by omega⟩ _).mono ?_; rintro e w' ⟨rfl, rfl⟩)
      | (go_at_call 67; refine (lower_any (b - a) (by omega) (by omega) _).mono ?_; rintro e w' ⟨rfl, b1⟩))
    go_ret
    exact ⟨ret_bool (by rw [hr.out]), b1⟩
  · subst hab
    have hr : Hid (lostB a a = (a == low 0)) := by
      show lostB a a = _
      rw [lostB, if_pos (Int.le_refl _), Int.sub_self]
    go_enter Try.func57, Try.ntmps57
    go_wp2_with (first
      | (go_at_call 56; refine (within_yes _ _ _ ⟨by omega, by omega⟩ _).mono ?_; rintro e w' ⟨rfl, rfl⟩)
      | (go_at_call 67; refine (lower_any 0 (by omega) (by omega) _).mono ?_; rintro e w' ⟨rfl, b1⟩))
    go_ret
    exact ⟨ret_bool (by rw [hr.out]), b1⟩
  · have hr : Hid (lostB a b = (b == low (a - b))) := if_neg (by omega)
    go_enter Try.func57, Try.ntmps57
    go_wp2_with (first
      | (go_at_call 56; refine (within_yes _ _ _ ⟨by omega, by omega⟩ _).mono ?_; rintro e w' ⟨rfl, rfl⟩)
      | (go_at_call 67; refine (lower_any (a - b) (by omega) (by omega) _).mono ?_; rintro e w' ⟨rfl, b1⟩))
    go_ret
    exact ⟨ret_bool (by rw [hr.out]), b1⟩
set_option maxHeartbeats 400000 in
theorem iIsLosing_no (a b : Int) (h : ¬ ((0 ≤ a ∧ a ≤ 100000) ∧ (0 ≤ b ∧ b ≤ 100000))) (w : World) :
    Calls Try.prog 57 #[.int .i64 a, .int .i64 b] w fun e w' => e = .returned (.bool false) ∧ Below w.heap.size w w' := by
  by_cases h1 : 0 ≤ a ∧ a ≤ 100000
  · have h2 : ¬ (0 ≤ b ∧ b ≤ 100000) := fun h2 => h ⟨h1, h2⟩
    have H1 := Lib.hid h1; have H2 := Lib.hid h2; clear h h1 h2
    go_enter Try.func57, Try.ntmps57
    go_wp2_with (first
      | (go_at_call 56; with_reducible refine (within_yes a _ _ H1.out _).mono ?_; rintro e w' ⟨rfl, rfl⟩)
      | (go_at_call 56; with_reducible refine (within_no b _ _ H2.out _).mono ?_; rintro e w' ⟨rfl, rfl⟩))
    go_ret
    exact ⟨rfl, Below.refl _ _⟩
  · have H1 := Lib.hid h1; clear h h1
    go_enter Try.func57, Try.ntmps57
    go_wp2_with (go_at_call 56; refine (within_no a _ _ H1.out _).mono ?_; rintro e w' ⟨rfl, rfl⟩)
    go_ret
    exact ⟨rfl, Below.refl _ _⟩
set_option maxHeartbeats 400000 in
theorem sIsLosing_yes (a b : Int) (h1 : 0 ≤ a) (h2 : a ≤ 100000) (h3 : 0 ≤ b) (h4 : b ≤ 100000) (w : World) :
    Calls Try.prog 55 #[.int .i64 a, .int .i64 b] w fun e w' => e = .returned (.bool (lostB a b)) ∧ Below w.heap.size w w' := by
  rcases Int.lt_trichotomy a b with hab | hab | hab
  · have hr : Hid (lostB a b = (a == low (b - a))) := if_pos (Int.le_of_lt hab)
    go_enter Try.func55, Try.ntmps55
    go_wp2_with (first
      | (go_at_call 54; refine (l01In_yes _ _ _ ⟨by omega, by omega⟩ _).mono ?_; rintro e w' ⟨rfl, rfl⟩)
      | (go_at_call 92; refine (l25Lower_any (b - a) (by omega) (by omega) _).mono ?_; rintro e w' ⟨rfl, b1⟩))
    go_ret
    exact ⟨ret_bool (by rw [hr.out, beq_swap]), b1⟩
  · subst hab
    have hr : Hid (lostB a a = (a == low 0)) := by
      show lostB a a = _
      rw [lostB, if_pos (Int.le_refl _), Int.sub_self]
    go_enter Try.func55, Try.ntmps55
    go_wp2_with (first
      | (go_at_call 54; refine (l01In_yes _ _ _ ⟨by omega, by omega⟩ _).mono ?_; rintro e w' ⟨rfl, rfl⟩)
      | (go_at_call 92; refine (l25Lower_any 0 (by omega) (by omega) _).mono ?_; rintro e w' ⟨rfl, b1⟩))
    go_ret
    exact ⟨ret_bool (by rw [hr.out, beq_swap]), b1⟩
  · have hr : Hid (lostB a b = (b == low (a - b))) := if_neg (by omega)
    go_enter Try.func55, Try.ntmps55
    go_wp2_with (first
      | (go_at_call 54; refine (l01In_yes _ _ _ ⟨by omega, by omega⟩ _).mono ?_; rintro e w' ⟨rfl, rfl⟩)
      | (go_at_call 92; refine (l25Lower_any (a - b) (by omega) (by omega) _).mono ?_; rintro e w' ⟨rfl, b1⟩))
    go_ret
    exact ⟨ret_bool (by rw [hr.out, beq_swap]), b1⟩
set_option maxHeartbeats 400000 in
theorem sIsLosing_no (a b : Int) (h : ¬ ((0 ≤ a ∧ a ≤ 100000) ∧ (0 ≤ b ∧ b ≤ 100000))) (w : World) :
    Calls Try.prog 55 #[.int .i64 a, .int .i64 b] w fun e w' => e = .returned (.bool false) ∧ Below w.heap.size w w' := by
  by_cases h1 : 0 ≤ a ∧ a ≤ 100000
  · have h2 : ¬ (0 ≤ b ∧ b ≤ 100000) := fun h2 => h ⟨h1, h2⟩
    have H1 := Lib.hid h1; have H2 := Lib.hid h2; clear h h1 h2
    go_enter Try.func55, Try.ntmps55
    go_wp2_with (first
      | (go_at_call 54; with_reducible refine (l01In_yes a _ _ H1.out _).mono ?_; rintro e w' ⟨rfl, rfl⟩)
      | (go_at_call 54; with_reducible refine (l01In_no b _ _ H2.out _).mono ?_; rintro e w' ⟨rfl, rfl⟩))
    go_ret
    exact ⟨rfl, Below.refl _ _⟩
  · have H1 := Lib.hid h1; clear h h1
    go_enter Try.func55, Try.ntmps55
    go_wp2_with (go_at_call 54; refine (l01In_no a _ _ H1.out _).mono ?_; rintro e w' ⟨rfl, rfl⟩)
    go_ret
    exact ⟨rfl, Below.refl _ _⟩
end Go.Proofs.Ytiaikjhbomohgaa
