/- Lower and upper numbers, lost positions: LowerOf, UpperOf, IsLosing. -/
import Derived.Test.YtkmkaaomkjhlgaaDoorGold
namespace Go.Proofs.YtkmkaaomkjhlgaaDoor
open Go.RowKit
set_option linter.unusedVariables false

set_option maxHeartbeats 400000 in
theorem iLowerOf_yes (n : Int) (h : 0 ≤ n) (h2 : n ≤ 100000) (w : World) :
    Calls Tryd.prog 12 #[.int .i64 n] w fun e w' => e = .returned (.int .i64 (low n)) ∧ Below w.heap.size w w' := by
  go_enter Tryd.func12, Tryd.ntmps12
  go_wp2_with (first
    | (go_at_call 30; refine (within_yes _ _ _ ⟨h, h2⟩ _).mono ?_; rintro e w' ⟨rfl, rfl⟩)
    | (go_at_call 31; refine (lower_any _ h h2 _).mono ?_; rintro e w' ⟨rfl, b1⟩))
  go_ret
  exact ⟨rfl, b1⟩
set_option maxHeartbeats 400000 in
theorem iLowerOf_no (n : Int) (h : ¬ (0 ≤ n ∧ n ≤ 100000)) (w : World) :
    Calls Tryd.prog 12 #[.int .i64 n] w fun e w' => e = .returned (.int .i64 (-1)) ∧ Below w.heap.size w w' := by
  have H := Lib.hid h; clear h
  go_enter Tryd.func12, Tryd.ntmps12
  go_wp2_with (go_at_call 30; refine (within_no _ _ _ H.out _).mono ?_; rintro e w' ⟨rfl, rfl⟩)
  go_ret
  exact ⟨rfl, Below.refl _ _⟩
set_option maxHeartbeats 400000 in
theorem iUpperOf_yes (n : Int) (h : 0 ≤ n) (h2 : n ≤ 100000) (w : World) :
    Calls Tryd.prog 13 #[.int .i64 n] w fun e w' => e = .returned (.int .i64 (low n + n)) ∧ Below w.heap.size w w' := by
  have hb := low_bd n h h2
  obtain ⟨hb1, hb2⟩ := hb
  go_enter Tryd.func13, Tryd.ntmps13
  go_wp2_with (first
    | (go_at_call 30; refine (within_yes _ _ _ ⟨h, h2⟩ _).mono ?_; rintro e w' ⟨rfl, rfl⟩)
    | (go_at_call 31; refine (lower_any _ h h2 _).mono ?_; rintro e w' ⟨rfl, b1⟩))
  go_ret
  exact ⟨rfl, b1⟩
set_option maxHeartbeats 400000 in
theorem iUpperOf_no (n : Int) (h : ¬ (0 ≤ n ∧ n ≤ 100000)) (w : World) :
    Calls Tryd.prog 13 #[.int .i64 n] w fun e w' => e = .returned (.int .i64 (-1)) ∧ Below w.heap.size w w' := by
  have H := Lib.hid h; clear h
  go_enter Tryd.func13, Tryd.ntmps13
  go_wp2_with (go_at_call 30; refine (within_no _ _ _ H.out _).mono ?_; rintro e w' ⟨rfl, rfl⟩)
  go_ret
  exact ⟨rfl, Below.refl _ _⟩
/-- Whether a position is lost. -/
noncomputable def lostB (a b : Int) : Bool := if a ≤ b then a == low (b - a) else b == low (a - b)
theorem beq_swap (a b : Int) : (a == b) = (b == a) := by rw [Bool.eq_iff_iff]; simp; exact ⟨fun h => h.symm, fun h => h.symm⟩
set_option maxHeartbeats 400000 in
theorem iIsLosing_yes (a b : Int) (h1 : 0 ≤ a) (h2 : a ≤ 100000) (h3 : 0 ≤ b) (h4 : b ≤ 100000) (w : World) :
    Calls Tryd.prog 15 #[.int .i64 a, .int .i64 b] w fun e w' => e = .returned (.bool (lostB a b)) ∧ Below w.heap.size w w' := by
  rcases Int.lt_trichotomy a b with hab | hab | hab
  · have hr : Hid (lostB a b = (a == low (b - a))) := if_pos (Int.le_of_lt hab)
    go_enter Tryd.func15, Tryd.ntmps15
    go_wp2_with (first
      | (go_at_call 30; refine (within_yes _ _ _ ⟨by omega, by omega⟩ _).mono ?_; rintro e w' ⟨rfl, rfl⟩)
      | (go_at_call 31; refine (lower_any (b - a) (by omega) (by omega) _).mono ?_; rintro e w' ⟨rfl, b1⟩))
    go_ret
    exact ⟨ret_bool (by rw [hr.out]), b1⟩
  · subst hab
    have hr : Hid (lostB a a = (a == low 0)) := by
      show lostB a a = _
      rw [lostB, if_pos (Int.le_refl _), Int.sub_self]
    go_enter Tryd.func15, Tryd.ntmps15
    go_wp2_with (first
      | (go_at_call 30; refine (within_yes _ _ _ ⟨by omega, by omega⟩ _).mono ?_; rintro e w' ⟨rfl, rfl⟩)
      | (go_at_call 31; refine (lower_any 0 (by omega) (by omega) _).mono ?_; rintro e w' ⟨rfl, b1⟩))
    go_ret
    exact ⟨ret_bool (by rw [hr.out]), b1⟩
  · have hr : Hid (lostB a b = (b == low (a - b))) := if_neg (by omega)
    go_enter Tryd.func15, Tryd.ntmps15
    go_wp2_with (first
      | (go_at_call 30; refine (within_yes _ _ _ ⟨by omega, by omega⟩ _).mono ?_; rintro e w' ⟨rfl, rfl⟩)
      | (go_at_call 31; refine (lower_any (a - b) (by omega) (by omega) _).mono ?_; rintro e w' ⟨rfl, b1⟩))
    go_ret
    exact ⟨ret_bool (by rw [hr.out]), b1⟩
set_option maxHeartbeats 400000 in
theorem iIsLosing_no (a b : Int) (h : ¬ ((0 ≤ a ∧ a ≤ 100000) ∧ (0 ≤ b ∧ b ≤ 100000))) (w : World) :
    Calls Tryd.prog 15 #[.int .i64 a, .int .i64 b] w fun e w' => e = .returned (.bool false) ∧ Below w.heap.size w w' := by
  by_cases h1 : 0 ≤ a ∧ a ≤ 100000
  · have h2 : ¬ (0 ≤ b ∧ b ≤ 100000) := fun h2 => h ⟨h1, h2⟩
    have H1 := Lib.hid h1; have H2 := Lib.hid h2; clear h h1 h2
    go_enter Tryd.func15, Tryd.ntmps15
    go_wp2_with (first
      | (go_at_call 30; with_reducible refine (within_yes a _ _ H1.out _).mono ?_; rintro e w' ⟨rfl, rfl⟩)
      | (go_at_call 30; with_reducible refine (within_no b _ _ H2.out _).mono ?_; rintro e w' ⟨rfl, rfl⟩))
    go_ret
    exact ⟨rfl, Below.refl _ _⟩
  · have H1 := Lib.hid h1; clear h h1
    go_enter Tryd.func15, Tryd.ntmps15
    go_wp2_with (go_at_call 30; refine (within_no a _ _ H1.out _).mono ?_; rintro e w' ⟨rfl, rfl⟩)
    go_ret
    exact ⟨rfl, Below.refl _ _⟩
end Go.Proofs.YtkmkaaomkjhlgaaDoor
