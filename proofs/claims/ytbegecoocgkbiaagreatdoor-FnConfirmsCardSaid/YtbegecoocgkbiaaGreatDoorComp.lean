/- Lower and upper numbers, lost positions: LowerOf, UpperOf, IsLosing. -/
import Derived.Test.YtbegecoocgkbiaaGreatDoorGold
namespace Go.Proofs.YtbegecoocgkbiaaGreatDoor
open Go.RowKit
set_option linter.unusedVariables false

set_option maxHeartbeats 400000 in
theorem iLowerOf_yes (n : Int) (h : 0 ≤ n) (h2 : n ≤ 100000) (w : World) :
    Calls Tryz.prog 25 #[.int .i64 n] w fun e w' => e = .returned (.int .i64 (low n)) ∧ Below w.heap.size w w' := by
  go_enter Tryz.func25, Tryz.ntmps25
  go_wp2_with (first
    | (go_at_call 61; refine (within_yes _ _ _ ⟨h, h2⟩ _).mono ?_; rintro e w' ⟨rfl, rfl⟩)
    | (go_at_call 84; refine (lower_any _ h h2 _).mono ?_; rintro e w' ⟨rfl, b1⟩))
  go_ret
  exact ⟨rfl, b1⟩
set_option maxHeartbeats 400000 in
theorem iLowerOf_no (n : Int) (h : ¬ (0 ≤ n ∧ n ≤ 100000)) (w : World) :
    Calls Tryz.prog 25 #[.int .i64 n] w fun e w' => e = .returned (.int .i64 (-1)) ∧ Below w.heap.size w w' := by
  have H := Lib.hid h; clear h
  go_enter Tryz.func25, Tryz.ntmps25
  go_wp2_with (go_at_call 61; refine (within_no _ _ _ H.out _).mono ?_; rintro e w' ⟨rfl, rfl⟩)
  go_ret
  exact ⟨rfl, Below.refl _ _⟩
set_option maxHeartbeats 400000 in
theorem iUpperOf_yes (n : Int) (h : 0 ≤ n) (h2 : n ≤ 100000) (w : World) :
    Calls Tryz.prog 26 #[.int .i64 n] w fun e w' => e = .returned (.int .i64 (low n + n)) ∧ Below w.heap.size w w' := by
  have hb := low_bd n h h2
  obtain ⟨hb1, hb2⟩ := hb
  go_enter Tryz.func26, Tryz.ntmps26
  go_wp2_with (first
    | (go_at_call 61; refine (within_yes _ _ _ ⟨h, h2⟩ _).mono ?_; rintro e w' ⟨rfl, rfl⟩)
    | (go_at_call 84; refine (lower_any _ h h2 _).mono ?_; rintro e w' ⟨rfl, b1⟩))
  go_ret
  exact ⟨rfl, b1⟩
set_option maxHeartbeats 400000 in
theorem iUpperOf_no (n : Int) (h : ¬ (0 ≤ n ∧ n ≤ 100000)) (w : World) :
    Calls Tryz.prog 26 #[.int .i64 n] w fun e w' => e = .returned (.int .i64 (-1)) ∧ Below w.heap.size w w' := by
  have H := Lib.hid h; clear h
  go_enter Tryz.func26, Tryz.ntmps26
  go_wp2_with (go_at_call 61; refine (within_no _ _ _ H.out _).mono ?_; rintro e w' ⟨rfl, rfl⟩)
  go_ret
  exact ⟨rfl, Below.refl _ _⟩
/-- Whether a position is lost. -/
noncomputable def lostB (a b : Int) : Bool := if a ≤ b then a == low (b - a) else b == low (a - b)
theorem beq_swap (a b : Int) : (a == b) = (b == a) := by rw [Bool.eq_iff_iff]; simp; exact ⟨fun h => h.symm, fun h => h.symm⟩
end Go.Proofs.YtbegecoocgkbiaaGreatDoor
