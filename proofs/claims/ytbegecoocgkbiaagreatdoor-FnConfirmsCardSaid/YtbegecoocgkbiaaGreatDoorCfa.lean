/- Closed calls of small functions over numbers: mobius, power, CountLyndon(2, 6), divisor, coprimes, CountBalanced(8). Printed by a small program. No condition. -/
import Derived.Test.YtbegecoocgkbiaaGreatDoorNear
import Derived.BigQuiet
namespace Go.Proofs.YtbegecoocgkbiaaGreatDoor
open Go.RowKit
set_option linter.unusedVariables false

set_option maxHeartbeats 2000000 in
theorem mob_1 (w : World) : Calls Tryz.prog 79 #[.int .i64 1] w fun e w' => e = .returned (.int .i64 1) ∧ w = w' := by
  go_enter Tryz.func79, Tryz.ntmps79
  go_wp2_with fail
  go_loop [0, 3, 4] (fun n o p => (n = .int .i64 1 ∧ o = .int .i64 1 ∧ p = .int .i64 2)) (fun n o p => 20 - (intOf p).toNat)
  case atStart => simp
  case round =>
    rcases hrel with ⟨rfl, rfl, rfl⟩
    · go_wp2_with fail
      go_ret
      exact ⟨rfl, rfl⟩
theorem mob_1_d (w : World) : Calls Tryz.prog 79 #[.int .i64 1] w fun e w' => e = .returned (.int .i64 1) ∧ Dr w w' := (mob_1 w).mono fun e w' ⟨he, hw⟩ => ⟨he, hw ▸ Dr.refl _⟩
set_option maxHeartbeats 2000000 in
theorem mob_2 (w : World) : Calls Tryz.prog 79 #[.int .i64 2] w fun e w' => e = .returned (.int .i64 (-1)) ∧ w = w' := by
  go_enter Tryz.func79, Tryz.ntmps79
  go_wp2_with fail
  go_loop [0, 3, 4] (fun n o p => (n = .int .i64 2 ∧ o = .int .i64 1 ∧ p = .int .i64 2) ∨ (n = .int .i64 1 ∧ o = .int .i64 (-1) ∧ p = .int .i64 3)) (fun n o p => 20 - (intOf p).toNat)
  case atStart => simp
  case round =>
    rcases hrel with ⟨rfl, rfl, rfl⟩ | ⟨rfl, rfl, rfl⟩
    · go_wp2_with fail
      go_round
      case rel => first | trivial | simp
      case measure => first | decide | simp [intOf]
    · go_wp2_with fail
      go_ret
      exact ⟨rfl, rfl⟩
theorem mob_2_d (w : World) : Calls Tryz.prog 79 #[.int .i64 2] w fun e w' => e = .returned (.int .i64 (-1)) ∧ Dr w w' := (mob_2 w).mono fun e w' ⟨he, hw⟩ => ⟨he, hw ▸ Dr.refl _⟩
set_option maxHeartbeats 2000000 in
theorem mob_3 (w : World) : Calls Tryz.prog 79 #[.int .i64 3] w fun e w' => e = .returned (.int .i64 (-1)) ∧ w = w' := by
  go_enter Tryz.func79, Tryz.ntmps79
  go_wp2_with fail
  go_loop [0, 3, 4] (fun n o p => (n = .int .i64 3 ∧ o = .int .i64 1 ∧ p = .int .i64 2) ∨ (n = .int .i64 3 ∧ o = .int .i64 1 ∧ p = .int .i64 3) ∨ (n = .int .i64 1 ∧ o = .int .i64 (-1) ∧ p = .int .i64 4)) (fun n o p => 20 - (intOf p).toNat)
  case atStart => simp
  case round =>
    rcases hrel with ⟨rfl, rfl, rfl⟩ | ⟨rfl, rfl, rfl⟩ | ⟨rfl, rfl, rfl⟩
    · go_wp2_with fail
      go_round
      case rel => first | trivial | simp
      case measure => first | decide | simp [intOf]
    · go_wp2_with fail
      go_round
      case rel => first | trivial | simp
      case measure => first | decide | simp [intOf]
    · go_wp2_with fail
      go_ret
      exact ⟨rfl, rfl⟩
theorem mob_3_d (w : World) : Calls Tryz.prog 79 #[.int .i64 3] w fun e w' => e = .returned (.int .i64 (-1)) ∧ Dr w w' := (mob_3 w).mono fun e w' ⟨he, hw⟩ => ⟨he, hw ▸ Dr.refl _⟩
set_option maxHeartbeats 2000000 in
theorem mob_6 (w : World) : Calls Tryz.prog 79 #[.int .i64 6] w fun e w' => e = .returned (.int .i64 1) ∧ w = w' := by
  go_enter Tryz.func79, Tryz.ntmps79
  go_wp2_with fail
  go_loop [0, 3, 4] (fun n o p => (n = .int .i64 6 ∧ o = .int .i64 1 ∧ p = .int .i64 2) ∨ (n = .int .i64 3 ∧ o = .int .i64 (-1) ∧ p = .int .i64 3) ∨ (n = .int .i64 1 ∧ o = .int .i64 1 ∧ p = .int .i64 4)) (fun n o p => 20 - (intOf p).toNat)
  case atStart => simp
  case round =>
    rcases hrel with ⟨rfl, rfl, rfl⟩ | ⟨rfl, rfl, rfl⟩ | ⟨rfl, rfl, rfl⟩
    · go_wp2_with fail
      go_round
      case rel => first | trivial | simp
      case measure => first | decide | simp [intOf]
    · go_wp2_with fail
      go_round
      case rel => first | trivial | simp
      case measure => first | decide | simp [intOf]
    · go_wp2_with fail
      go_ret
      exact ⟨rfl, rfl⟩
theorem mob_6_d (w : World) : Calls Tryz.prog 79 #[.int .i64 6] w fun e w' => e = .returned (.int .i64 1) ∧ Dr w w' := (mob_6 w).mono fun e w' ⟨he, hw⟩ => ⟨he, hw ▸ Dr.refl _⟩
set_option maxHeartbeats 2000000 in
theorem pw2_1 (w : World) : Calls Tryz.prog 80 #[.int .i64 2, .int .i64 1] w fun e w' => e = .returned (.int .i64 2) ∧ w = w' := by
  go_enter Tryz.func80, Tryz.ntmps80
  go_wp2_with fail
  go_loop [5, 7] (fun x i => (x = .int .i64 1 ∧ i = .int .i64 0) ∨ (x = .int .i64 2 ∧ i = .int .i64 1)) (fun x i => 20 - (intOf i).toNat)
  case atStart => simp
  case round =>
    rcases hrel with ⟨rfl, rfl⟩ | ⟨rfl, rfl⟩
    · go_wp2_with fail
      go_round
      case rel => first | trivial | simp
      case measure => first | decide | simp [intOf]
    · go_wp2_with fail
      go_ret
      exact ⟨rfl, rfl⟩
theorem pw2_1_d (w : World) : Calls Tryz.prog 80 #[.int .i64 2, .int .i64 1] w fun e w' => e = .returned (.int .i64 2) ∧ Dr w w' := (pw2_1 w).mono fun e w' ⟨he, hw⟩ => ⟨he, hw ▸ Dr.refl _⟩
set_option maxHeartbeats 2000000 in
theorem pw2_2 (w : World) : Calls Tryz.prog 80 #[.int .i64 2, .int .i64 2] w fun e w' => e = .returned (.int .i64 4) ∧ w = w' := by
  go_enter Tryz.func80, Tryz.ntmps80
  go_wp2_with fail
  go_loop [5, 7] (fun x i => (x = .int .i64 1 ∧ i = .int .i64 0) ∨ (x = .int .i64 2 ∧ i = .int .i64 1) ∨ (x = .int .i64 4 ∧ i = .int .i64 2)) (fun x i => 20 - (intOf i).toNat)
  case atStart => simp
  case round =>
    rcases hrel with ⟨rfl, rfl⟩ | ⟨rfl, rfl⟩ | ⟨rfl, rfl⟩
    · go_wp2_with fail
      go_round
      case rel => first | trivial | simp
      case measure => first | decide | simp [intOf]
    · go_wp2_with fail
      go_round
      case rel => first | trivial | simp
      case measure => first | decide | simp [intOf]
    · go_wp2_with fail
      go_ret
      exact ⟨rfl, rfl⟩
theorem pw2_2_d (w : World) : Calls Tryz.prog 80 #[.int .i64 2, .int .i64 2] w fun e w' => e = .returned (.int .i64 4) ∧ Dr w w' := (pw2_2 w).mono fun e w' ⟨he, hw⟩ => ⟨he, hw ▸ Dr.refl _⟩
set_option maxHeartbeats 2000000 in
theorem pw2_3 (w : World) : Calls Tryz.prog 80 #[.int .i64 2, .int .i64 3] w fun e w' => e = .returned (.int .i64 8) ∧ w = w' := by
  go_enter Tryz.func80, Tryz.ntmps80
  go_wp2_with fail
  go_loop [5, 7] (fun x i => (x = .int .i64 1 ∧ i = .int .i64 0) ∨ (x = .int .i64 2 ∧ i = .int .i64 1) ∨ (x = .int .i64 4 ∧ i = .int .i64 2) ∨ (x = .int .i64 8 ∧ i = .int .i64 3)) (fun x i => 20 - (intOf i).toNat)
  case atStart => simp
  case round =>
    rcases hrel with ⟨rfl, rfl⟩ | ⟨rfl, rfl⟩ | ⟨rfl, rfl⟩ | ⟨rfl, rfl⟩
    · go_wp2_with fail
      go_round
      case rel => first | trivial | simp
      case measure => first | decide | simp [intOf]
    · go_wp2_with fail
      go_round
      case rel => first | trivial | simp
      case measure => first | decide | simp [intOf]
    · go_wp2_with fail
      go_round
      case rel => first | trivial | simp
      case measure => first | decide | simp [intOf]
    · go_wp2_with fail
      go_ret
      exact ⟨rfl, rfl⟩
theorem pw2_3_d (w : World) : Calls Tryz.prog 80 #[.int .i64 2, .int .i64 3] w fun e w' => e = .returned (.int .i64 8) ∧ Dr w w' := (pw2_3 w).mono fun e w' ⟨he, hw⟩ => ⟨he, hw ▸ Dr.refl _⟩
set_option maxHeartbeats 2000000 in
theorem pw2_6 (w : World) : Calls Tryz.prog 80 #[.int .i64 2, .int .i64 6] w fun e w' => e = .returned (.int .i64 64) ∧ w = w' := by
  go_enter Tryz.func80, Tryz.ntmps80
  go_wp2_with fail
  go_loop [5, 7] (fun x i => (x = .int .i64 1 ∧ i = .int .i64 0) ∨ (x = .int .i64 2 ∧ i = .int .i64 1) ∨ (x = .int .i64 4 ∧ i = .int .i64 2) ∨ (x = .int .i64 8 ∧ i = .int .i64 3) ∨ (x = .int .i64 16 ∧ i = .int .i64 4) ∨ (x = .int .i64 32 ∧ i = .int .i64 5) ∨ (x = .int .i64 64 ∧ i = .int .i64 6)) (fun x i => 20 - (intOf i).toNat)
  case atStart => simp
  case round =>
    rcases hrel with ⟨rfl, rfl⟩ | ⟨rfl, rfl⟩ | ⟨rfl, rfl⟩ | ⟨rfl, rfl⟩ | ⟨rfl, rfl⟩ | ⟨rfl, rfl⟩ | ⟨rfl, rfl⟩
    · go_wp2_with fail
      go_round
      case rel => first | trivial | simp
      case measure => first | decide | simp [intOf]
    · go_wp2_with fail
      go_round
      case rel => first | trivial | simp
      case measure => first | decide | simp [intOf]
    · go_wp2_with fail
      go_round
      case rel => first | trivial | simp
      case measure => first | decide | simp [intOf]
    · go_wp2_with fail
      go_round
      case rel => first | trivial | simp
      case measure => first | decide | simp [intOf]
    · go_wp2_with fail
      go_round
      case rel => first | trivial | simp
      case measure => first | decide | simp [intOf]
    · go_wp2_with fail
      go_round
      case rel => first | trivial | simp
      case measure => first | decide | simp [intOf]
    · go_wp2_with fail
      go_ret
      exact ⟨rfl, rfl⟩
theorem pw2_6_d (w : World) : Calls Tryz.prog 80 #[.int .i64 2, .int .i64 6] w fun e w' => e = .returned (.int .i64 64) ∧ Dr w w' := (pw2_6 w).mono fun e w' ⟨he, hw⟩ => ⟨he, hw ▸ Dr.refl _⟩
set_option maxHeartbeats 2000000 in
theorem lyn_26 (w : World) : Calls Tryz.prog 21 #[.int .i64 2, .int .i64 6] w fun e w' => e = .returned (.int .i64 9) ∧ Dr w w' := by
  go_enter Tryz.func21, Tryz.ntmps21
  go_wp2_with (go_at_call 61; with_reducible refine (within_yes _ _ _ (by decide) _).mono ?_; rintro e w' ⟨rfl, rfl⟩)
  go_loopw [5, 6] (fun s d wr => ((s = .int .i64 0 ∧ d = .int .i64 1) ∨ (s = .int .i64 64 ∧ d = .int .i64 2) ∨ (s = .int .i64 56 ∧ d = .int .i64 3) ∨ (s = .int .i64 52 ∧ d = .int .i64 4) ∨ (s = .int .i64 52 ∧ d = .int .i64 5) ∨ (s = .int .i64 52 ∧ d = .int .i64 6) ∨ (s = .int .i64 54 ∧ d = .int .i64 7)) ∧ Dr w wr) (fun s d _ => 20 - (intOf d).toNat)
  case atStart => exact ⟨by simp, Dr.refl _⟩
  case round =>
    obtain ⟨hrel, hd⟩ := hrel
    rcases hrel with ⟨rfl, rfl⟩ | ⟨rfl, rfl⟩ | ⟨rfl, rfl⟩ | ⟨rfl, rfl⟩ | ⟨rfl, rfl⟩ | ⟨rfl, rfl⟩ | ⟨rfl, rfl⟩
    · go_wp2_with fail
      go_quiet (first | (go_at_call 79; exact quiet_dr (mob_1_d _)) | (go_at_call 80; exact quiet_dr (pw2_6_d _)))
      go_wp2_with fail
      go_roundw
      case rel => exact ⟨by simp, hd.drewN _⟩
      case measure => first | decide | simp [intOf]
    · go_wp2_with fail
      go_quiet (first | (go_at_call 79; exact quiet_dr (mob_2_d _)) | (go_at_call 80; exact quiet_dr (pw2_3_d _)))
      go_wp2_with fail
      go_roundw
      case rel => exact ⟨by simp, hd.drewN _⟩
      case measure => first | decide | simp [intOf]
    · go_wp2_with fail
      go_quiet (first | (go_at_call 79; exact quiet_dr (mob_3_d _)) | (go_at_call 80; exact quiet_dr (pw2_2_d _)))
      go_wp2_with fail
      go_roundw
      case rel => exact ⟨by simp, hd.drewN _⟩
      case measure => first | decide | simp [intOf]
    · go_wp2_with fail
      go_roundw
      case rel => exact ⟨by simp, hd⟩
      case measure => first | decide | simp [intOf]
    · go_wp2_with fail
      go_roundw
      case rel => exact ⟨by simp, hd⟩
      case measure => first | decide | simp [intOf]
    · go_wp2_with fail
      go_quiet (first | (go_at_call 79; exact quiet_dr (mob_6_d _)) | (go_at_call 80; exact quiet_dr (pw2_1_d _)))
      go_wp2_with fail
      go_roundw
      case rel => exact ⟨by simp, hd.drewN _⟩
      case measure => first | decide | simp [intOf]
    · go_wp2_with fail
      go_ret
      exact ⟨rfl, hd⟩
set_option maxHeartbeats 2000000 in
theorem dv_1_1 (w : World) : Calls Tryz.prog 87 #[.int .i64 1, .int .i64 1] w fun e w' => e = .returned (.int .i64 1) ∧ Dr w w' := by
  go_enter Tryz.func87, Tryz.ntmps87
  go_wp2_with fail
  go_loopw [0, 1] (fun a b wr => ((a = .int .i64 1 ∧ b = .int .i64 1) ∨ (a = .int .i64 1 ∧ b = .int .i64 0)) ∧ Dr w wr) (fun a b _ => (intOf b).toNat)
  case atStart => exact ⟨by simp, Dr.refl _⟩
  case round =>
    obtain ⟨hrel, hd⟩ := hrel
    rcases hrel with ⟨rfl, rfl⟩ | ⟨rfl, rfl⟩
    · go_wp2_with fail
      go_quiet (fail)
      go_wp2_with fail
      go_roundw
      case rel => exact ⟨by simp, hd.drewN _⟩
      case measure => first | decide | simp [intOf]
    · go_wp2_with fail
      go_ret
      exact ⟨rfl, hd⟩
set_option maxHeartbeats 2000000 in
theorem dv_1_2 (w : World) : Calls Tryz.prog 87 #[.int .i64 1, .int .i64 2] w fun e w' => e = .returned (.int .i64 1) ∧ Dr w w' := by
  go_enter Tryz.func87, Tryz.ntmps87
  go_wp2_with fail
  go_loopw [0, 1] (fun a b wr => ((a = .int .i64 1 ∧ b = .int .i64 2) ∨ (a = .int .i64 2 ∧ b = .int .i64 1) ∨ (a = .int .i64 1 ∧ b = .int .i64 0)) ∧ Dr w wr) (fun a b _ => (intOf b).toNat)
  case atStart => exact ⟨by simp, Dr.refl _⟩
  case round =>
    obtain ⟨hrel, hd⟩ := hrel
    rcases hrel with ⟨rfl, rfl⟩ | ⟨rfl, rfl⟩ | ⟨rfl, rfl⟩
    · go_wp2_with fail
      go_quiet (fail)
      go_wp2_with fail
      go_roundw
      case rel => exact ⟨by simp, hd.drewN _⟩
      case measure => first | decide | simp [intOf]
    · go_wp2_with fail
      go_quiet (fail)
      go_wp2_with fail
      go_roundw
      case rel => exact ⟨by simp, hd.drewN _⟩
      case measure => first | decide | simp [intOf]
    · go_wp2_with fail
      go_ret
      exact ⟨rfl, hd⟩
set_option maxHeartbeats 2000000 in
theorem dv_2_2 (w : World) : Calls Tryz.prog 87 #[.int .i64 2, .int .i64 2] w fun e w' => e = .returned (.int .i64 2) ∧ Dr w w' := by
  go_enter Tryz.func87, Tryz.ntmps87
  go_wp2_with fail
  go_loopw [0, 1] (fun a b wr => ((a = .int .i64 2 ∧ b = .int .i64 2) ∨ (a = .int .i64 2 ∧ b = .int .i64 0)) ∧ Dr w wr) (fun a b _ => (intOf b).toNat)
  case atStart => exact ⟨by simp, Dr.refl _⟩
  case round =>
    obtain ⟨hrel, hd⟩ := hrel
    rcases hrel with ⟨rfl, rfl⟩ | ⟨rfl, rfl⟩
    · go_wp2_with fail
      go_quiet (fail)
      go_wp2_with fail
      go_roundw
      case rel => exact ⟨by simp, hd.drewN _⟩
      case measure => first | decide | simp [intOf]
    · go_wp2_with fail
      go_ret
      exact ⟨rfl, hd⟩
set_option maxHeartbeats 2000000 in
theorem dv_1_3 (w : World) : Calls Tryz.prog 87 #[.int .i64 1, .int .i64 3] w fun e w' => e = .returned (.int .i64 1) ∧ Dr w w' := by
  go_enter Tryz.func87, Tryz.ntmps87
  go_wp2_with fail
  go_loopw [0, 1] (fun a b wr => ((a = .int .i64 1 ∧ b = .int .i64 3) ∨ (a = .int .i64 3 ∧ b = .int .i64 1) ∨ (a = .int .i64 1 ∧ b = .int .i64 0)) ∧ Dr w wr) (fun a b _ => (intOf b).toNat)
  case atStart => exact ⟨by simp, Dr.refl _⟩
  case round =>
    obtain ⟨hrel, hd⟩ := hrel
    rcases hrel with ⟨rfl, rfl⟩ | ⟨rfl, rfl⟩ | ⟨rfl, rfl⟩
    · go_wp2_with fail
      go_quiet (fail)
      go_wp2_with fail
      go_roundw
      case rel => exact ⟨by simp, hd.drewN _⟩
      case measure => first | decide | simp [intOf]
    · go_wp2_with fail
      go_quiet (fail)
      go_wp2_with fail
      go_roundw
      case rel => exact ⟨by simp, hd.drewN _⟩
      case measure => first | decide | simp [intOf]
    · go_wp2_with fail
      go_ret
      exact ⟨rfl, hd⟩
set_option maxHeartbeats 2000000 in
theorem dv_2_3 (w : World) : Calls Tryz.prog 87 #[.int .i64 2, .int .i64 3] w fun e w' => e = .returned (.int .i64 1) ∧ Dr w w' := by
  go_enter Tryz.func87, Tryz.ntmps87
  go_wp2_with fail
  go_loopw [0, 1] (fun a b wr => ((a = .int .i64 2 ∧ b = .int .i64 3) ∨ (a = .int .i64 3 ∧ b = .int .i64 2) ∨ (a = .int .i64 2 ∧ b = .int .i64 1) ∨ (a = .int .i64 1 ∧ b = .int .i64 0)) ∧ Dr w wr) (fun a b _ => (intOf b).toNat)
  case atStart => exact ⟨by simp, Dr.refl _⟩
  case round =>
    obtain ⟨hrel, hd⟩ := hrel
    rcases hrel with ⟨rfl, rfl⟩ | ⟨rfl, rfl⟩ | ⟨rfl, rfl⟩ | ⟨rfl, rfl⟩
    · go_wp2_with fail
      go_quiet (fail)
      go_wp2_with fail
      go_roundw
      case rel => exact ⟨by simp, hd.drewN _⟩
      case measure => first | decide | simp [intOf]
    · go_wp2_with fail
      go_quiet (fail)
      go_wp2_with fail
      go_roundw
      case rel => exact ⟨by simp, hd.drewN _⟩
      case measure => first | decide | simp [intOf]
    · go_wp2_with fail
      go_quiet (fail)
      go_wp2_with fail
      go_roundw
      case rel => exact ⟨by simp, hd.drewN _⟩
      case measure => first | decide | simp [intOf]
    · go_wp2_with fail
      go_ret
      exact ⟨rfl, hd⟩
set_option maxHeartbeats 2000000 in
theorem dv_3_3 (w : World) : Calls Tryz.prog 87 #[.int .i64 3, .int .i64 3] w fun e w' => e = .returned (.int .i64 3) ∧ Dr w w' := by
  go_enter Tryz.func87, Tryz.ntmps87
  go_wp2_with fail
  go_loopw [0, 1] (fun a b wr => ((a = .int .i64 3 ∧ b = .int .i64 3) ∨ (a = .int .i64 3 ∧ b = .int .i64 0)) ∧ Dr w wr) (fun a b _ => (intOf b).toNat)
  case atStart => exact ⟨by simp, Dr.refl _⟩
  case round =>
    obtain ⟨hrel, hd⟩ := hrel
    rcases hrel with ⟨rfl, rfl⟩ | ⟨rfl, rfl⟩
    · go_wp2_with fail
      go_quiet (fail)
      go_wp2_with fail
      go_roundw
      case rel => exact ⟨by simp, hd.drewN _⟩
      case measure => first | decide | simp [intOf]
    · go_wp2_with fail
      go_ret
      exact ⟨rfl, hd⟩
set_option maxHeartbeats 2000000 in
theorem dv_1_4 (w : World) : Calls Tryz.prog 87 #[.int .i64 1, .int .i64 4] w fun e w' => e = .returned (.int .i64 1) ∧ Dr w w' := by
  go_enter Tryz.func87, Tryz.ntmps87
  go_wp2_with fail
  go_loopw [0, 1] (fun a b wr => ((a = .int .i64 1 ∧ b = .int .i64 4) ∨ (a = .int .i64 4 ∧ b = .int .i64 1) ∨ (a = .int .i64 1 ∧ b = .int .i64 0)) ∧ Dr w wr) (fun a b _ => (intOf b).toNat)
  case atStart => exact ⟨by simp, Dr.refl _⟩
  case round =>
    obtain ⟨hrel, hd⟩ := hrel
    rcases hrel with ⟨rfl, rfl⟩ | ⟨rfl, rfl⟩ | ⟨rfl, rfl⟩
    · go_wp2_with fail
      go_quiet (fail)
      go_wp2_with fail
      go_roundw
      case rel => exact ⟨by simp, hd.drewN _⟩
      case measure => first | decide | simp [intOf]
    · go_wp2_with fail
      go_quiet (fail)
      go_wp2_with fail
      go_roundw
      case rel => exact ⟨by simp, hd.drewN _⟩
      case measure => first | decide | simp [intOf]
    · go_wp2_with fail
      go_ret
      exact ⟨rfl, hd⟩
set_option maxHeartbeats 2000000 in
theorem dv_2_4 (w : World) : Calls Tryz.prog 87 #[.int .i64 2, .int .i64 4] w fun e w' => e = .returned (.int .i64 2) ∧ Dr w w' := by
  go_enter Tryz.func87, Tryz.ntmps87
  go_wp2_with fail
  go_loopw [0, 1] (fun a b wr => ((a = .int .i64 2 ∧ b = .int .i64 4) ∨ (a = .int .i64 4 ∧ b = .int .i64 2) ∨ (a = .int .i64 2 ∧ b = .int .i64 0)) ∧ Dr w wr) (fun a b _ => (intOf b).toNat)
  case atStart => exact ⟨by simp, Dr.refl _⟩
  case round =>
    obtain ⟨hrel, hd⟩ := hrel
    rcases hrel with ⟨rfl, rfl⟩ | ⟨rfl, rfl⟩ | ⟨rfl, rfl⟩
    · go_wp2_with fail
      go_quiet (fail)
      go_wp2_with fail
      go_roundw
      case rel => exact ⟨by simp, hd.drewN _⟩
      case measure => first | decide | simp [intOf]
    · go_wp2_with fail
      go_quiet (fail)
      go_wp2_with fail
      go_roundw
      case rel => exact ⟨by simp, hd.drewN _⟩
      case measure => first | decide | simp [intOf]
    · go_wp2_with fail
      go_ret
      exact ⟨rfl, hd⟩
set_option maxHeartbeats 2000000 in
theorem dv_3_4 (w : World) : Calls Tryz.prog 87 #[.int .i64 3, .int .i64 4] w fun e w' => e = .returned (.int .i64 1) ∧ Dr w w' := by
  go_enter Tryz.func87, Tryz.ntmps87
  go_wp2_with fail
  go_loopw [0, 1] (fun a b wr => ((a = .int .i64 3 ∧ b = .int .i64 4) ∨ (a = .int .i64 4 ∧ b = .int .i64 3) ∨ (a = .int .i64 3 ∧ b = .int .i64 1) ∨ (a = .int .i64 1 ∧ b = .int .i64 0)) ∧ Dr w wr) (fun a b _ => (intOf b).toNat)
  case atStart => exact ⟨by simp, Dr.refl _⟩
  case round =>
    obtain ⟨hrel, hd⟩ := hrel
    rcases hrel with ⟨rfl, rfl⟩ | ⟨rfl, rfl⟩ | ⟨rfl, rfl⟩ | ⟨rfl, rfl⟩
    · go_wp2_with fail
      go_quiet (fail)
      go_wp2_with fail
      go_roundw
      case rel => exact ⟨by simp, hd.drewN _⟩
      case measure => first | decide | simp [intOf]
    · go_wp2_with fail
      go_quiet (fail)
      go_wp2_with fail
      go_roundw
      case rel => exact ⟨by simp, hd.drewN _⟩
      case measure => first | decide | simp [intOf]
    · go_wp2_with fail
      go_quiet (fail)
      go_wp2_with fail
      go_roundw
      case rel => exact ⟨by simp, hd.drewN _⟩
      case measure => first | decide | simp [intOf]
    · go_wp2_with fail
      go_ret
      exact ⟨rfl, hd⟩
set_option maxHeartbeats 2000000 in
theorem dv_4_4 (w : World) : Calls Tryz.prog 87 #[.int .i64 4, .int .i64 4] w fun e w' => e = .returned (.int .i64 4) ∧ Dr w w' := by
  go_enter Tryz.func87, Tryz.ntmps87
  go_wp2_with fail
  go_loopw [0, 1] (fun a b wr => ((a = .int .i64 4 ∧ b = .int .i64 4) ∨ (a = .int .i64 4 ∧ b = .int .i64 0)) ∧ Dr w wr) (fun a b _ => (intOf b).toNat)
  case atStart => exact ⟨by simp, Dr.refl _⟩
  case round =>
    obtain ⟨hrel, hd⟩ := hrel
    rcases hrel with ⟨rfl, rfl⟩ | ⟨rfl, rfl⟩
    · go_wp2_with fail
      go_quiet (fail)
      go_wp2_with fail
      go_roundw
      case rel => exact ⟨by simp, hd.drewN _⟩
      case measure => first | decide | simp [intOf]
    · go_wp2_with fail
      go_ret
      exact ⟨rfl, hd⟩
set_option maxHeartbeats 2000000 in
theorem dv_1_5 (w : World) : Calls Tryz.prog 87 #[.int .i64 1, .int .i64 5] w fun e w' => e = .returned (.int .i64 1) ∧ Dr w w' := by
  go_enter Tryz.func87, Tryz.ntmps87
  go_wp2_with fail
  go_loopw [0, 1] (fun a b wr => ((a = .int .i64 1 ∧ b = .int .i64 5) ∨ (a = .int .i64 5 ∧ b = .int .i64 1) ∨ (a = .int .i64 1 ∧ b = .int .i64 0)) ∧ Dr w wr) (fun a b _ => (intOf b).toNat)
  case atStart => exact ⟨by simp, Dr.refl _⟩
  case round =>
    obtain ⟨hrel, hd⟩ := hrel
    rcases hrel with ⟨rfl, rfl⟩ | ⟨rfl, rfl⟩ | ⟨rfl, rfl⟩
    · go_wp2_with fail
      go_quiet (fail)
      go_wp2_with fail
      go_roundw
      case rel => exact ⟨by simp, hd.drewN _⟩
      case measure => first | decide | simp [intOf]
    · go_wp2_with fail
      go_quiet (fail)
      go_wp2_with fail
      go_roundw
      case rel => exact ⟨by simp, hd.drewN _⟩
      case measure => first | decide | simp [intOf]
    · go_wp2_with fail
      go_ret
      exact ⟨rfl, hd⟩
set_option maxHeartbeats 2000000 in
theorem dv_2_5 (w : World) : Calls Tryz.prog 87 #[.int .i64 2, .int .i64 5] w fun e w' => e = .returned (.int .i64 1) ∧ Dr w w' := by
  go_enter Tryz.func87, Tryz.ntmps87
  go_wp2_with fail
  go_loopw [0, 1] (fun a b wr => ((a = .int .i64 2 ∧ b = .int .i64 5) ∨ (a = .int .i64 5 ∧ b = .int .i64 2) ∨ (a = .int .i64 2 ∧ b = .int .i64 1) ∨ (a = .int .i64 1 ∧ b = .int .i64 0)) ∧ Dr w wr) (fun a b _ => (intOf b).toNat)
  case atStart => exact ⟨by simp, Dr.refl _⟩
  case round =>
    obtain ⟨hrel, hd⟩ := hrel
    rcases hrel with ⟨rfl, rfl⟩ | ⟨rfl, rfl⟩ | ⟨rfl, rfl⟩ | ⟨rfl, rfl⟩
    · go_wp2_with fail
      go_quiet (fail)
      go_wp2_with fail
      go_roundw
      case rel => exact ⟨by simp, hd.drewN _⟩
      case measure => first | decide | simp [intOf]
    · go_wp2_with fail
      go_quiet (fail)
      go_wp2_with fail
      go_roundw
      case rel => exact ⟨by simp, hd.drewN _⟩
      case measure => first | decide | simp [intOf]
    · go_wp2_with fail
      go_quiet (fail)
      go_wp2_with fail
      go_roundw
      case rel => exact ⟨by simp, hd.drewN _⟩
      case measure => first | decide | simp [intOf]
    · go_wp2_with fail
      go_ret
      exact ⟨rfl, hd⟩
set_option maxHeartbeats 2000000 in
theorem dv_3_5 (w : World) : Calls Tryz.prog 87 #[.int .i64 3, .int .i64 5] w fun e w' => e = .returned (.int .i64 1) ∧ Dr w w' := by
  go_enter Tryz.func87, Tryz.ntmps87
  go_wp2_with fail
  go_loopw [0, 1] (fun a b wr => ((a = .int .i64 3 ∧ b = .int .i64 5) ∨ (a = .int .i64 5 ∧ b = .int .i64 3) ∨ (a = .int .i64 3 ∧ b = .int .i64 2) ∨ (a = .int .i64 2 ∧ b = .int .i64 1) ∨ (a = .int .i64 1 ∧ b = .int .i64 0)) ∧ Dr w wr) (fun a b _ => (intOf b).toNat)
  case atStart => exact ⟨by simp, Dr.refl _⟩
  case round =>
    obtain ⟨hrel, hd⟩ := hrel
    rcases hrel with ⟨rfl, rfl⟩ | ⟨rfl, rfl⟩ | ⟨rfl, rfl⟩ | ⟨rfl, rfl⟩ | ⟨rfl, rfl⟩
    · go_wp2_with fail
      go_quiet (fail)
      go_wp2_with fail
      go_roundw
      case rel => exact ⟨by simp, hd.drewN _⟩
      case measure => first | decide | simp [intOf]
    · go_wp2_with fail
      go_quiet (fail)
      go_wp2_with fail
      go_roundw
      case rel => exact ⟨by simp, hd.drewN _⟩
      case measure => first | decide | simp [intOf]
    · go_wp2_with fail
      go_quiet (fail)
      go_wp2_with fail
      go_roundw
      case rel => exact ⟨by simp, hd.drewN _⟩
      case measure => first | decide | simp [intOf]
    · go_wp2_with fail
      go_quiet (fail)
      go_wp2_with fail
      go_roundw
      case rel => exact ⟨by simp, hd.drewN _⟩
      case measure => first | decide | simp [intOf]
    · go_wp2_with fail
      go_ret
      exact ⟨rfl, hd⟩
set_option maxHeartbeats 2000000 in
theorem dv_4_5 (w : World) : Calls Tryz.prog 87 #[.int .i64 4, .int .i64 5] w fun e w' => e = .returned (.int .i64 1) ∧ Dr w w' := by
  go_enter Tryz.func87, Tryz.ntmps87
  go_wp2_with fail
  go_loopw [0, 1] (fun a b wr => ((a = .int .i64 4 ∧ b = .int .i64 5) ∨ (a = .int .i64 5 ∧ b = .int .i64 4) ∨ (a = .int .i64 4 ∧ b = .int .i64 1) ∨ (a = .int .i64 1 ∧ b = .int .i64 0)) ∧ Dr w wr) (fun a b _ => (intOf b).toNat)
  case atStart => exact ⟨by simp, Dr.refl _⟩
  case round =>
    obtain ⟨hrel, hd⟩ := hrel
    rcases hrel with ⟨rfl, rfl⟩ | ⟨rfl, rfl⟩ | ⟨rfl, rfl⟩ | ⟨rfl, rfl⟩
    · go_wp2_with fail
      go_quiet (fail)
      go_wp2_with fail
      go_roundw
      case rel => exact ⟨by simp, hd.drewN _⟩
      case measure => first | decide | simp [intOf]
    · go_wp2_with fail
      go_quiet (fail)
      go_wp2_with fail
      go_roundw
      case rel => exact ⟨by simp, hd.drewN _⟩
      case measure => first | decide | simp [intOf]
    · go_wp2_with fail
      go_quiet (fail)
      go_wp2_with fail
      go_roundw
      case rel => exact ⟨by simp, hd.drewN _⟩
      case measure => first | decide | simp [intOf]
    · go_wp2_with fail
      go_ret
      exact ⟨rfl, hd⟩
set_option maxHeartbeats 2000000 in
theorem dv_5_5 (w : World) : Calls Tryz.prog 87 #[.int .i64 5, .int .i64 5] w fun e w' => e = .returned (.int .i64 5) ∧ Dr w w' := by
  go_enter Tryz.func87, Tryz.ntmps87
  go_wp2_with fail
  go_loopw [0, 1] (fun a b wr => ((a = .int .i64 5 ∧ b = .int .i64 5) ∨ (a = .int .i64 5 ∧ b = .int .i64 0)) ∧ Dr w wr) (fun a b _ => (intOf b).toNat)
  case atStart => exact ⟨by simp, Dr.refl _⟩
  case round =>
    obtain ⟨hrel, hd⟩ := hrel
    rcases hrel with ⟨rfl, rfl⟩ | ⟨rfl, rfl⟩
    · go_wp2_with fail
      go_quiet (fail)
      go_wp2_with fail
      go_roundw
      case rel => exact ⟨by simp, hd.drewN _⟩
      case measure => first | decide | simp [intOf]
    · go_wp2_with fail
      go_ret
      exact ⟨rfl, hd⟩
set_option maxHeartbeats 2000000 in
theorem dv_1_6 (w : World) : Calls Tryz.prog 87 #[.int .i64 1, .int .i64 6] w fun e w' => e = .returned (.int .i64 1) ∧ Dr w w' := by
  go_enter Tryz.func87, Tryz.ntmps87
  go_wp2_with fail
  go_loopw [0, 1] (fun a b wr => ((a = .int .i64 1 ∧ b = .int .i64 6) ∨ (a = .int .i64 6 ∧ b = .int .i64 1) ∨ (a = .int .i64 1 ∧ b = .int .i64 0)) ∧ Dr w wr) (fun a b _ => (intOf b).toNat)
  case atStart => exact ⟨by simp, Dr.refl _⟩
  case round =>
    obtain ⟨hrel, hd⟩ := hrel
    rcases hrel with ⟨rfl, rfl⟩ | ⟨rfl, rfl⟩ | ⟨rfl, rfl⟩
    · go_wp2_with fail
      go_quiet (fail)
      go_wp2_with fail
      go_roundw
      case rel => exact ⟨by simp, hd.drewN _⟩
      case measure => first | decide | simp [intOf]
    · go_wp2_with fail
      go_quiet (fail)
      go_wp2_with fail
      go_roundw
      case rel => exact ⟨by simp, hd.drewN _⟩
      case measure => first | decide | simp [intOf]
    · go_wp2_with fail
      go_ret
      exact ⟨rfl, hd⟩
set_option maxHeartbeats 2000000 in
theorem dv_2_6 (w : World) : Calls Tryz.prog 87 #[.int .i64 2, .int .i64 6] w fun e w' => e = .returned (.int .i64 2) ∧ Dr w w' := by
  go_enter Tryz.func87, Tryz.ntmps87
  go_wp2_with fail
  go_loopw [0, 1] (fun a b wr => ((a = .int .i64 2 ∧ b = .int .i64 6) ∨ (a = .int .i64 6 ∧ b = .int .i64 2) ∨ (a = .int .i64 2 ∧ b = .int .i64 0)) ∧ Dr w wr) (fun a b _ => (intOf b).toNat)
  case atStart => exact ⟨by simp, Dr.refl _⟩
  case round =>
    obtain ⟨hrel, hd⟩ := hrel
    rcases hrel with ⟨rfl, rfl⟩ | ⟨rfl, rfl⟩ | ⟨rfl, rfl⟩
    · go_wp2_with fail
      go_quiet (fail)
      go_wp2_with fail
      go_roundw
      case rel => exact ⟨by simp, hd.drewN _⟩
      case measure => first | decide | simp [intOf]
    · go_wp2_with fail
      go_quiet (fail)
      go_wp2_with fail
      go_roundw
      case rel => exact ⟨by simp, hd.drewN _⟩
      case measure => first | decide | simp [intOf]
    · go_wp2_with fail
      go_ret
      exact ⟨rfl, hd⟩
set_option maxHeartbeats 2000000 in
theorem dv_3_6 (w : World) : Calls Tryz.prog 87 #[.int .i64 3, .int .i64 6] w fun e w' => e = .returned (.int .i64 3) ∧ Dr w w' := by
  go_enter Tryz.func87, Tryz.ntmps87
  go_wp2_with fail
  go_loopw [0, 1] (fun a b wr => ((a = .int .i64 3 ∧ b = .int .i64 6) ∨ (a = .int .i64 6 ∧ b = .int .i64 3) ∨ (a = .int .i64 3 ∧ b = .int .i64 0)) ∧ Dr w wr) (fun a b _ => (intOf b).toNat)
  case atStart => exact ⟨by simp, Dr.refl _⟩
  case round =>
    obtain ⟨hrel, hd⟩ := hrel
    rcases hrel with ⟨rfl, rfl⟩ | ⟨rfl, rfl⟩ | ⟨rfl, rfl⟩
    · go_wp2_with fail
      go_quiet (fail)
      go_wp2_with fail
      go_roundw
      case rel => exact ⟨by simp, hd.drewN _⟩
      case measure => first | decide | simp [intOf]
    · go_wp2_with fail
      go_quiet (fail)
      go_wp2_with fail
      go_roundw
      case rel => exact ⟨by simp, hd.drewN _⟩
      case measure => first | decide | simp [intOf]
    · go_wp2_with fail
      go_ret
      exact ⟨rfl, hd⟩
set_option maxHeartbeats 2000000 in
theorem dv_4_6 (w : World) : Calls Tryz.prog 87 #[.int .i64 4, .int .i64 6] w fun e w' => e = .returned (.int .i64 2) ∧ Dr w w' := by
  go_enter Tryz.func87, Tryz.ntmps87
  go_wp2_with fail
  go_loopw [0, 1] (fun a b wr => ((a = .int .i64 4 ∧ b = .int .i64 6) ∨ (a = .int .i64 6 ∧ b = .int .i64 4) ∨ (a = .int .i64 4 ∧ b = .int .i64 2) ∨ (a = .int .i64 2 ∧ b = .int .i64 0)) ∧ Dr w wr) (fun a b _ => (intOf b).toNat)
  case atStart => exact ⟨by simp, Dr.refl _⟩
  case round =>
    obtain ⟨hrel, hd⟩ := hrel
    rcases hrel with ⟨rfl, rfl⟩ | ⟨rfl, rfl⟩ | ⟨rfl, rfl⟩ | ⟨rfl, rfl⟩
    · go_wp2_with fail
      go_quiet (fail)
      go_wp2_with fail
      go_roundw
      case rel => exact ⟨by simp, hd.drewN _⟩
      case measure => first | decide | simp [intOf]
    · go_wp2_with fail
      go_quiet (fail)
      go_wp2_with fail
      go_roundw
      case rel => exact ⟨by simp, hd.drewN _⟩
      case measure => first | decide | simp [intOf]
    · go_wp2_with fail
      go_quiet (fail)
      go_wp2_with fail
      go_roundw
      case rel => exact ⟨by simp, hd.drewN _⟩
      case measure => first | decide | simp [intOf]
    · go_wp2_with fail
      go_ret
      exact ⟨rfl, hd⟩
set_option maxHeartbeats 2000000 in
theorem dv_5_6 (w : World) : Calls Tryz.prog 87 #[.int .i64 5, .int .i64 6] w fun e w' => e = .returned (.int .i64 1) ∧ Dr w w' := by
  go_enter Tryz.func87, Tryz.ntmps87
  go_wp2_with fail
  go_loopw [0, 1] (fun a b wr => ((a = .int .i64 5 ∧ b = .int .i64 6) ∨ (a = .int .i64 6 ∧ b = .int .i64 5) ∨ (a = .int .i64 5 ∧ b = .int .i64 1) ∨ (a = .int .i64 1 ∧ b = .int .i64 0)) ∧ Dr w wr) (fun a b _ => (intOf b).toNat)
  case atStart => exact ⟨by simp, Dr.refl _⟩
  case round =>
    obtain ⟨hrel, hd⟩ := hrel
    rcases hrel with ⟨rfl, rfl⟩ | ⟨rfl, rfl⟩ | ⟨rfl, rfl⟩ | ⟨rfl, rfl⟩
    · go_wp2_with fail
      go_quiet (fail)
      go_wp2_with fail
      go_roundw
      case rel => exact ⟨by simp, hd.drewN _⟩
      case measure => first | decide | simp [intOf]
    · go_wp2_with fail
      go_quiet (fail)
      go_wp2_with fail
      go_roundw
      case rel => exact ⟨by simp, hd.drewN _⟩
      case measure => first | decide | simp [intOf]
    · go_wp2_with fail
      go_quiet (fail)
      go_wp2_with fail
      go_roundw
      case rel => exact ⟨by simp, hd.drewN _⟩
      case measure => first | decide | simp [intOf]
    · go_wp2_with fail
      go_ret
      exact ⟨rfl, hd⟩
set_option maxHeartbeats 2000000 in
theorem dv_6_6 (w : World) : Calls Tryz.prog 87 #[.int .i64 6, .int .i64 6] w fun e w' => e = .returned (.int .i64 6) ∧ Dr w w' := by
  go_enter Tryz.func87, Tryz.ntmps87
  go_wp2_with fail
  go_loopw [0, 1] (fun a b wr => ((a = .int .i64 6 ∧ b = .int .i64 6) ∨ (a = .int .i64 6 ∧ b = .int .i64 0)) ∧ Dr w wr) (fun a b _ => (intOf b).toNat)
  case atStart => exact ⟨by simp, Dr.refl _⟩
  case round =>
    obtain ⟨hrel, hd⟩ := hrel
    rcases hrel with ⟨rfl, rfl⟩ | ⟨rfl, rfl⟩
    · go_wp2_with fail
      go_quiet (fail)
      go_wp2_with fail
      go_roundw
      case rel => exact ⟨by simp, hd.drewN _⟩
      case measure => first | decide | simp [intOf]
    · go_wp2_with fail
      go_ret
      exact ⟨rfl, hd⟩
set_option maxHeartbeats 2000000 in
theorem dv_1_7 (w : World) : Calls Tryz.prog 87 #[.int .i64 1, .int .i64 7] w fun e w' => e = .returned (.int .i64 1) ∧ Dr w w' := by
  go_enter Tryz.func87, Tryz.ntmps87
  go_wp2_with fail
  go_loopw [0, 1] (fun a b wr => ((a = .int .i64 1 ∧ b = .int .i64 7) ∨ (a = .int .i64 7 ∧ b = .int .i64 1) ∨ (a = .int .i64 1 ∧ b = .int .i64 0)) ∧ Dr w wr) (fun a b _ => (intOf b).toNat)
  case atStart => exact ⟨by simp, Dr.refl _⟩
  case round =>
    obtain ⟨hrel, hd⟩ := hrel
    rcases hrel with ⟨rfl, rfl⟩ | ⟨rfl, rfl⟩ | ⟨rfl, rfl⟩
    · go_wp2_with fail
      go_quiet (fail)
      go_wp2_with fail
      go_roundw
      case rel => exact ⟨by simp, hd.drewN _⟩
      case measure => first | decide | simp [intOf]
    · go_wp2_with fail
      go_quiet (fail)
      go_wp2_with fail
      go_roundw
      case rel => exact ⟨by simp, hd.drewN _⟩
      case measure => first | decide | simp [intOf]
    · go_wp2_with fail
      go_ret
      exact ⟨rfl, hd⟩
set_option maxHeartbeats 2000000 in
theorem dv_2_7 (w : World) : Calls Tryz.prog 87 #[.int .i64 2, .int .i64 7] w fun e w' => e = .returned (.int .i64 1) ∧ Dr w w' := by
  go_enter Tryz.func87, Tryz.ntmps87
  go_wp2_with fail
  go_loopw [0, 1] (fun a b wr => ((a = .int .i64 2 ∧ b = .int .i64 7) ∨ (a = .int .i64 7 ∧ b = .int .i64 2) ∨ (a = .int .i64 2 ∧ b = .int .i64 1) ∨ (a = .int .i64 1 ∧ b = .int .i64 0)) ∧ Dr w wr) (fun a b _ => (intOf b).toNat)
  case atStart => exact ⟨by simp, Dr.refl _⟩
  case round =>
    obtain ⟨hrel, hd⟩ := hrel
    rcases hrel with ⟨rfl, rfl⟩ | ⟨rfl, rfl⟩ | ⟨rfl, rfl⟩ | ⟨rfl, rfl⟩
    · go_wp2_with fail
      go_quiet (fail)
      go_wp2_with fail
      go_roundw
      case rel => exact ⟨by simp, hd.drewN _⟩
      case measure => first | decide | simp [intOf]
    · go_wp2_with fail
      go_quiet (fail)
      go_wp2_with fail
      go_roundw
      case rel => exact ⟨by simp, hd.drewN _⟩
      case measure => first | decide | simp [intOf]
    · go_wp2_with fail
      go_quiet (fail)
      go_wp2_with fail
      go_roundw
      case rel => exact ⟨by simp, hd.drewN _⟩
      case measure => first | decide | simp [intOf]
    · go_wp2_with fail
      go_ret
      exact ⟨rfl, hd⟩
set_option maxHeartbeats 2000000 in
theorem dv_3_7 (w : World) : Calls Tryz.prog 87 #[.int .i64 3, .int .i64 7] w fun e w' => e = .returned (.int .i64 1) ∧ Dr w w' := by
  go_enter Tryz.func87, Tryz.ntmps87
  go_wp2_with fail
  go_loopw [0, 1] (fun a b wr => ((a = .int .i64 3 ∧ b = .int .i64 7) ∨ (a = .int .i64 7 ∧ b = .int .i64 3) ∨ (a = .int .i64 3 ∧ b = .int .i64 1) ∨ (a = .int .i64 1 ∧ b = .int .i64 0)) ∧ Dr w wr) (fun a b _ => (intOf b).toNat)
  case atStart => exact ⟨by simp, Dr.refl _⟩
  case round =>
    obtain ⟨hrel, hd⟩ := hrel
    rcases hrel with ⟨rfl, rfl⟩ | ⟨rfl, rfl⟩ | ⟨rfl, rfl⟩ | ⟨rfl, rfl⟩
    · go_wp2_with fail
      go_quiet (fail)
      go_wp2_with fail
      go_roundw
      case rel => exact ⟨by simp, hd.drewN _⟩
      case measure => first | decide | simp [intOf]
    · go_wp2_with fail
      go_quiet (fail)
      go_wp2_with fail
      go_roundw
      case rel => exact ⟨by simp, hd.drewN _⟩
      case measure => first | decide | simp [intOf]
    · go_wp2_with fail
      go_quiet (fail)
      go_wp2_with fail
      go_roundw
      case rel => exact ⟨by simp, hd.drewN _⟩
      case measure => first | decide | simp [intOf]
    · go_wp2_with fail
      go_ret
      exact ⟨rfl, hd⟩
set_option maxHeartbeats 2000000 in
theorem dv_4_7 (w : World) : Calls Tryz.prog 87 #[.int .i64 4, .int .i64 7] w fun e w' => e = .returned (.int .i64 1) ∧ Dr w w' := by
  go_enter Tryz.func87, Tryz.ntmps87
  go_wp2_with fail
  go_loopw [0, 1] (fun a b wr => ((a = .int .i64 4 ∧ b = .int .i64 7) ∨ (a = .int .i64 7 ∧ b = .int .i64 4) ∨ (a = .int .i64 4 ∧ b = .int .i64 3) ∨ (a = .int .i64 3 ∧ b = .int .i64 1) ∨ (a = .int .i64 1 ∧ b = .int .i64 0)) ∧ Dr w wr) (fun a b _ => (intOf b).toNat)
  case atStart => exact ⟨by simp, Dr.refl _⟩
  case round =>
    obtain ⟨hrel, hd⟩ := hrel
    rcases hrel with ⟨rfl, rfl⟩ | ⟨rfl, rfl⟩ | ⟨rfl, rfl⟩ | ⟨rfl, rfl⟩ | ⟨rfl, rfl⟩
    · go_wp2_with fail
      go_quiet (fail)
      go_wp2_with fail
      go_roundw
      case rel => exact ⟨by simp, hd.drewN _⟩
      case measure => first | decide | simp [intOf]
    · go_wp2_with fail
      go_quiet (fail)
      go_wp2_with fail
      go_roundw
      case rel => exact ⟨by simp, hd.drewN _⟩
      case measure => first | decide | simp [intOf]
    · go_wp2_with fail
      go_quiet (fail)
      go_wp2_with fail
      go_roundw
      case rel => exact ⟨by simp, hd.drewN _⟩
      case measure => first | decide | simp [intOf]
    · go_wp2_with fail
      go_quiet (fail)
      go_wp2_with fail
      go_roundw
      case rel => exact ⟨by simp, hd.drewN _⟩
      case measure => first | decide | simp [intOf]
    · go_wp2_with fail
      go_ret
      exact ⟨rfl, hd⟩
set_option maxHeartbeats 2000000 in
theorem dv_5_7 (w : World) : Calls Tryz.prog 87 #[.int .i64 5, .int .i64 7] w fun e w' => e = .returned (.int .i64 1) ∧ Dr w w' := by
  go_enter Tryz.func87, Tryz.ntmps87
  go_wp2_with fail
  go_loopw [0, 1] (fun a b wr => ((a = .int .i64 5 ∧ b = .int .i64 7) ∨ (a = .int .i64 7 ∧ b = .int .i64 5) ∨ (a = .int .i64 5 ∧ b = .int .i64 2) ∨ (a = .int .i64 2 ∧ b = .int .i64 1) ∨ (a = .int .i64 1 ∧ b = .int .i64 0)) ∧ Dr w wr) (fun a b _ => (intOf b).toNat)
  case atStart => exact ⟨by simp, Dr.refl _⟩
  case round =>
    obtain ⟨hrel, hd⟩ := hrel
    rcases hrel with ⟨rfl, rfl⟩ | ⟨rfl, rfl⟩ | ⟨rfl, rfl⟩ | ⟨rfl, rfl⟩ | ⟨rfl, rfl⟩
    · go_wp2_with fail
      go_quiet (fail)
      go_wp2_with fail
      go_roundw
      case rel => exact ⟨by simp, hd.drewN _⟩
      case measure => first | decide | simp [intOf]
    · go_wp2_with fail
      go_quiet (fail)
      go_wp2_with fail
      go_roundw
      case rel => exact ⟨by simp, hd.drewN _⟩
      case measure => first | decide | simp [intOf]
    · go_wp2_with fail
      go_quiet (fail)
      go_wp2_with fail
      go_roundw
      case rel => exact ⟨by simp, hd.drewN _⟩
      case measure => first | decide | simp [intOf]
    · go_wp2_with fail
      go_quiet (fail)
      go_wp2_with fail
      go_roundw
      case rel => exact ⟨by simp, hd.drewN _⟩
      case measure => first | decide | simp [intOf]
    · go_wp2_with fail
      go_ret
      exact ⟨rfl, hd⟩
set_option maxHeartbeats 2000000 in
theorem dv_6_7 (w : World) : Calls Tryz.prog 87 #[.int .i64 6, .int .i64 7] w fun e w' => e = .returned (.int .i64 1) ∧ Dr w w' := by
  go_enter Tryz.func87, Tryz.ntmps87
  go_wp2_with fail
  go_loopw [0, 1] (fun a b wr => ((a = .int .i64 6 ∧ b = .int .i64 7) ∨ (a = .int .i64 7 ∧ b = .int .i64 6) ∨ (a = .int .i64 6 ∧ b = .int .i64 1) ∨ (a = .int .i64 1 ∧ b = .int .i64 0)) ∧ Dr w wr) (fun a b _ => (intOf b).toNat)
  case atStart => exact ⟨by simp, Dr.refl _⟩
  case round =>
    obtain ⟨hrel, hd⟩ := hrel
    rcases hrel with ⟨rfl, rfl⟩ | ⟨rfl, rfl⟩ | ⟨rfl, rfl⟩ | ⟨rfl, rfl⟩
    · go_wp2_with fail
      go_quiet (fail)
      go_wp2_with fail
      go_roundw
      case rel => exact ⟨by simp, hd.drewN _⟩
      case measure => first | decide | simp [intOf]
    · go_wp2_with fail
      go_quiet (fail)
      go_wp2_with fail
      go_roundw
      case rel => exact ⟨by simp, hd.drewN _⟩
      case measure => first | decide | simp [intOf]
    · go_wp2_with fail
      go_quiet (fail)
      go_wp2_with fail
      go_roundw
      case rel => exact ⟨by simp, hd.drewN _⟩
      case measure => first | decide | simp [intOf]
    · go_wp2_with fail
      go_ret
      exact ⟨rfl, hd⟩
set_option maxHeartbeats 2000000 in
theorem dv_7_7 (w : World) : Calls Tryz.prog 87 #[.int .i64 7, .int .i64 7] w fun e w' => e = .returned (.int .i64 7) ∧ Dr w w' := by
  go_enter Tryz.func87, Tryz.ntmps87
  go_wp2_with fail
  go_loopw [0, 1] (fun a b wr => ((a = .int .i64 7 ∧ b = .int .i64 7) ∨ (a = .int .i64 7 ∧ b = .int .i64 0)) ∧ Dr w wr) (fun a b _ => (intOf b).toNat)
  case atStart => exact ⟨by simp, Dr.refl _⟩
  case round =>
    obtain ⟨hrel, hd⟩ := hrel
    rcases hrel with ⟨rfl, rfl⟩ | ⟨rfl, rfl⟩
    · go_wp2_with fail
      go_quiet (fail)
      go_wp2_with fail
      go_roundw
      case rel => exact ⟨by simp, hd.drewN _⟩
      case measure => first | decide | simp [intOf]
    · go_wp2_with fail
      go_ret
      exact ⟨rfl, hd⟩
set_option maxHeartbeats 2000000 in
theorem dv_1_8 (w : World) : Calls Tryz.prog 87 #[.int .i64 1, .int .i64 8] w fun e w' => e = .returned (.int .i64 1) ∧ Dr w w' := by
  go_enter Tryz.func87, Tryz.ntmps87
  go_wp2_with fail
  go_loopw [0, 1] (fun a b wr => ((a = .int .i64 1 ∧ b = .int .i64 8) ∨ (a = .int .i64 8 ∧ b = .int .i64 1) ∨ (a = .int .i64 1 ∧ b = .int .i64 0)) ∧ Dr w wr) (fun a b _ => (intOf b).toNat)
  case atStart => exact ⟨by simp, Dr.refl _⟩
  case round =>
    obtain ⟨hrel, hd⟩ := hrel
    rcases hrel with ⟨rfl, rfl⟩ | ⟨rfl, rfl⟩ | ⟨rfl, rfl⟩
    · go_wp2_with fail
      go_quiet (fail)
      go_wp2_with fail
      go_roundw
      case rel => exact ⟨by simp, hd.drewN _⟩
      case measure => first | decide | simp [intOf]
    · go_wp2_with fail
      go_quiet (fail)
      go_wp2_with fail
      go_roundw
      case rel => exact ⟨by simp, hd.drewN _⟩
      case measure => first | decide | simp [intOf]
    · go_wp2_with fail
      go_ret
      exact ⟨rfl, hd⟩
set_option maxHeartbeats 2000000 in
theorem dv_2_8 (w : World) : Calls Tryz.prog 87 #[.int .i64 2, .int .i64 8] w fun e w' => e = .returned (.int .i64 2) ∧ Dr w w' := by
  go_enter Tryz.func87, Tryz.ntmps87
  go_wp2_with fail
  go_loopw [0, 1] (fun a b wr => ((a = .int .i64 2 ∧ b = .int .i64 8) ∨ (a = .int .i64 8 ∧ b = .int .i64 2) ∨ (a = .int .i64 2 ∧ b = .int .i64 0)) ∧ Dr w wr) (fun a b _ => (intOf b).toNat)
  case atStart => exact ⟨by simp, Dr.refl _⟩
  case round =>
    obtain ⟨hrel, hd⟩ := hrel
    rcases hrel with ⟨rfl, rfl⟩ | ⟨rfl, rfl⟩ | ⟨rfl, rfl⟩
    · go_wp2_with fail
      go_quiet (fail)
      go_wp2_with fail
      go_roundw
      case rel => exact ⟨by simp, hd.drewN _⟩
      case measure => first | decide | simp [intOf]
    · go_wp2_with fail
      go_quiet (fail)
      go_wp2_with fail
      go_roundw
      case rel => exact ⟨by simp, hd.drewN _⟩
      case measure => first | decide | simp [intOf]
    · go_wp2_with fail
      go_ret
      exact ⟨rfl, hd⟩
set_option maxHeartbeats 2000000 in
theorem dv_3_8 (w : World) : Calls Tryz.prog 87 #[.int .i64 3, .int .i64 8] w fun e w' => e = .returned (.int .i64 1) ∧ Dr w w' := by
  go_enter Tryz.func87, Tryz.ntmps87
  go_wp2_with fail
  go_loopw [0, 1] (fun a b wr => ((a = .int .i64 3 ∧ b = .int .i64 8) ∨ (a = .int .i64 8 ∧ b = .int .i64 3) ∨ (a = .int .i64 3 ∧ b = .int .i64 2) ∨ (a = .int .i64 2 ∧ b = .int .i64 1) ∨ (a = .int .i64 1 ∧ b = .int .i64 0)) ∧ Dr w wr) (fun a b _ => (intOf b).toNat)
  case atStart => exact ⟨by simp, Dr.refl _⟩
  case round =>
    obtain ⟨hrel, hd⟩ := hrel
    rcases hrel with ⟨rfl, rfl⟩ | ⟨rfl, rfl⟩ | ⟨rfl, rfl⟩ | ⟨rfl, rfl⟩ | ⟨rfl, rfl⟩
    · go_wp2_with fail
      go_quiet (fail)
      go_wp2_with fail
      go_roundw
      case rel => exact ⟨by simp, hd.drewN _⟩
      case measure => first | decide | simp [intOf]
    · go_wp2_with fail
      go_quiet (fail)
      go_wp2_with fail
      go_roundw
      case rel => exact ⟨by simp, hd.drewN _⟩
      case measure => first | decide | simp [intOf]
    · go_wp2_with fail
      go_quiet (fail)
      go_wp2_with fail
      go_roundw
      case rel => exact ⟨by simp, hd.drewN _⟩
      case measure => first | decide | simp [intOf]
    · go_wp2_with fail
      go_quiet (fail)
      go_wp2_with fail
      go_roundw
      case rel => exact ⟨by simp, hd.drewN _⟩
      case measure => first | decide | simp [intOf]
    · go_wp2_with fail
      go_ret
      exact ⟨rfl, hd⟩
set_option maxHeartbeats 2000000 in
theorem dv_4_8 (w : World) : Calls Tryz.prog 87 #[.int .i64 4, .int .i64 8] w fun e w' => e = .returned (.int .i64 4) ∧ Dr w w' := by
  go_enter Tryz.func87, Tryz.ntmps87
  go_wp2_with fail
  go_loopw [0, 1] (fun a b wr => ((a = .int .i64 4 ∧ b = .int .i64 8) ∨ (a = .int .i64 8 ∧ b = .int .i64 4) ∨ (a = .int .i64 4 ∧ b = .int .i64 0)) ∧ Dr w wr) (fun a b _ => (intOf b).toNat)
  case atStart => exact ⟨by simp, Dr.refl _⟩
  case round =>
    obtain ⟨hrel, hd⟩ := hrel
    rcases hrel with ⟨rfl, rfl⟩ | ⟨rfl, rfl⟩ | ⟨rfl, rfl⟩
    · go_wp2_with fail
      go_quiet (fail)
      go_wp2_with fail
      go_roundw
      case rel => exact ⟨by simp, hd.drewN _⟩
      case measure => first | decide | simp [intOf]
    · go_wp2_with fail
      go_quiet (fail)
      go_wp2_with fail
      go_roundw
      case rel => exact ⟨by simp, hd.drewN _⟩
      case measure => first | decide | simp [intOf]
    · go_wp2_with fail
      go_ret
      exact ⟨rfl, hd⟩
set_option maxHeartbeats 2000000 in
theorem dv_5_8 (w : World) : Calls Tryz.prog 87 #[.int .i64 5, .int .i64 8] w fun e w' => e = .returned (.int .i64 1) ∧ Dr w w' := by
  go_enter Tryz.func87, Tryz.ntmps87
  go_wp2_with fail
  go_loopw [0, 1] (fun a b wr => ((a = .int .i64 5 ∧ b = .int .i64 8) ∨ (a = .int .i64 8 ∧ b = .int .i64 5) ∨ (a = .int .i64 5 ∧ b = .int .i64 3) ∨ (a = .int .i64 3 ∧ b = .int .i64 2) ∨ (a = .int .i64 2 ∧ b = .int .i64 1) ∨ (a = .int .i64 1 ∧ b = .int .i64 0)) ∧ Dr w wr) (fun a b _ => (intOf b).toNat)
  case atStart => exact ⟨by simp, Dr.refl _⟩
  case round =>
    obtain ⟨hrel, hd⟩ := hrel
    rcases hrel with ⟨rfl, rfl⟩ | ⟨rfl, rfl⟩ | ⟨rfl, rfl⟩ | ⟨rfl, rfl⟩ | ⟨rfl, rfl⟩ | ⟨rfl, rfl⟩
    · go_wp2_with fail
      go_quiet (fail)
      go_wp2_with fail
      go_roundw
      case rel => exact ⟨by simp, hd.drewN _⟩
      case measure => first | decide | simp [intOf]
    · go_wp2_with fail
      go_quiet (fail)
      go_wp2_with fail
      go_roundw
      case rel => exact ⟨by simp, hd.drewN _⟩
      case measure => first | decide | simp [intOf]
    · go_wp2_with fail
      go_quiet (fail)
      go_wp2_with fail
      go_roundw
      case rel => exact ⟨by simp, hd.drewN _⟩
      case measure => first | decide | simp [intOf]
    · go_wp2_with fail
      go_quiet (fail)
      go_wp2_with fail
      go_roundw
      case rel => exact ⟨by simp, hd.drewN _⟩
      case measure => first | decide | simp [intOf]
    · go_wp2_with fail
      go_quiet (fail)
      go_wp2_with fail
      go_roundw
      case rel => exact ⟨by simp, hd.drewN _⟩
      case measure => first | decide | simp [intOf]
    · go_wp2_with fail
      go_ret
      exact ⟨rfl, hd⟩
set_option maxHeartbeats 2000000 in
theorem dv_6_8 (w : World) : Calls Tryz.prog 87 #[.int .i64 6, .int .i64 8] w fun e w' => e = .returned (.int .i64 2) ∧ Dr w w' := by
  go_enter Tryz.func87, Tryz.ntmps87
  go_wp2_with fail
  go_loopw [0, 1] (fun a b wr => ((a = .int .i64 6 ∧ b = .int .i64 8) ∨ (a = .int .i64 8 ∧ b = .int .i64 6) ∨ (a = .int .i64 6 ∧ b = .int .i64 2) ∨ (a = .int .i64 2 ∧ b = .int .i64 0)) ∧ Dr w wr) (fun a b _ => (intOf b).toNat)
  case atStart => exact ⟨by simp, Dr.refl _⟩
  case round =>
    obtain ⟨hrel, hd⟩ := hrel
    rcases hrel with ⟨rfl, rfl⟩ | ⟨rfl, rfl⟩ | ⟨rfl, rfl⟩ | ⟨rfl, rfl⟩
    · go_wp2_with fail
      go_quiet (fail)
      go_wp2_with fail
      go_roundw
      case rel => exact ⟨by simp, hd.drewN _⟩
      case measure => first | decide | simp [intOf]
    · go_wp2_with fail
      go_quiet (fail)
      go_wp2_with fail
      go_roundw
      case rel => exact ⟨by simp, hd.drewN _⟩
      case measure => first | decide | simp [intOf]
    · go_wp2_with fail
      go_quiet (fail)
      go_wp2_with fail
      go_roundw
      case rel => exact ⟨by simp, hd.drewN _⟩
      case measure => first | decide | simp [intOf]
    · go_wp2_with fail
      go_ret
      exact ⟨rfl, hd⟩
set_option maxHeartbeats 2000000 in
theorem dv_7_8 (w : World) : Calls Tryz.prog 87 #[.int .i64 7, .int .i64 8] w fun e w' => e = .returned (.int .i64 1) ∧ Dr w w' := by
  go_enter Tryz.func87, Tryz.ntmps87
  go_wp2_with fail
  go_loopw [0, 1] (fun a b wr => ((a = .int .i64 7 ∧ b = .int .i64 8) ∨ (a = .int .i64 8 ∧ b = .int .i64 7) ∨ (a = .int .i64 7 ∧ b = .int .i64 1) ∨ (a = .int .i64 1 ∧ b = .int .i64 0)) ∧ Dr w wr) (fun a b _ => (intOf b).toNat)
  case atStart => exact ⟨by simp, Dr.refl _⟩
  case round =>
    obtain ⟨hrel, hd⟩ := hrel
    rcases hrel with ⟨rfl, rfl⟩ | ⟨rfl, rfl⟩ | ⟨rfl, rfl⟩ | ⟨rfl, rfl⟩
    · go_wp2_with fail
      go_quiet (fail)
      go_wp2_with fail
      go_roundw
      case rel => exact ⟨by simp, hd.drewN _⟩
      case measure => first | decide | simp [intOf]
    · go_wp2_with fail
      go_quiet (fail)
      go_wp2_with fail
      go_roundw
      case rel => exact ⟨by simp, hd.drewN _⟩
      case measure => first | decide | simp [intOf]
    · go_wp2_with fail
      go_quiet (fail)
      go_wp2_with fail
      go_roundw
      case rel => exact ⟨by simp, hd.drewN _⟩
      case measure => first | decide | simp [intOf]
    · go_wp2_with fail
      go_ret
      exact ⟨rfl, hd⟩
set_option maxHeartbeats 2000000 in
theorem dv_8_8 (w : World) : Calls Tryz.prog 87 #[.int .i64 8, .int .i64 8] w fun e w' => e = .returned (.int .i64 8) ∧ Dr w w' := by
  go_enter Tryz.func87, Tryz.ntmps87
  go_wp2_with fail
  go_loopw [0, 1] (fun a b wr => ((a = .int .i64 8 ∧ b = .int .i64 8) ∨ (a = .int .i64 8 ∧ b = .int .i64 0)) ∧ Dr w wr) (fun a b _ => (intOf b).toNat)
  case atStart => exact ⟨by simp, Dr.refl _⟩
  case round =>
    obtain ⟨hrel, hd⟩ := hrel
    rcases hrel with ⟨rfl, rfl⟩ | ⟨rfl, rfl⟩
    · go_wp2_with fail
      go_quiet (fail)
      go_wp2_with fail
      go_roundw
      case rel => exact ⟨by simp, hd.drewN _⟩
      case measure => first | decide | simp [intOf]
    · go_wp2_with fail
      go_ret
      exact ⟨rfl, hd⟩
set_option maxHeartbeats 2000000 in
theorem cop_1 (w : World) : Calls Tryz.prog 81 #[.int .i64 1] w fun e w' => e = .returned (.int .i64 1) ∧ Dr w w' := by
  go_enter Tryz.func81, Tryz.ntmps81
  go_wp2_with fail
  go_loopw [3, 4] (fun c i wr => ((c = .int .i64 0 ∧ i = .int .i64 1) ∨ (c = .int .i64 1 ∧ i = .int .i64 2)) ∧ Dr w wr) (fun c i _ => 20 - (intOf i).toNat)
  case atStart => exact ⟨by simp, Dr.refl _⟩
  case round =>
    obtain ⟨hrel, hd⟩ := hrel
    rcases hrel with ⟨rfl, rfl⟩ | ⟨rfl, rfl⟩
    · go_wp2_with fail
      refine (dv_1_1 _).mono ?_
      rintro e w1 ⟨rfl, d1⟩
      go_wp2_with fail
      go_roundw
      case rel => exact ⟨by simp, hd.trans d1⟩
      case measure => first | decide | simp [intOf]
    · go_wp2_with fail
      go_ret
      exact ⟨rfl, hd⟩
set_option maxHeartbeats 2000000 in
theorem cop_2 (w : World) : Calls Tryz.prog 81 #[.int .i64 2] w fun e w' => e = .returned (.int .i64 1) ∧ Dr w w' := by
  go_enter Tryz.func81, Tryz.ntmps81
  go_wp2_with fail
  go_loopw [3, 4] (fun c i wr => ((c = .int .i64 0 ∧ i = .int .i64 1) ∨ (c = .int .i64 1 ∧ i = .int .i64 2) ∨ (c = .int .i64 1 ∧ i = .int .i64 3)) ∧ Dr w wr) (fun c i _ => 20 - (intOf i).toNat)
  case atStart => exact ⟨by simp, Dr.refl _⟩
  case round =>
    obtain ⟨hrel, hd⟩ := hrel
    rcases hrel with ⟨rfl, rfl⟩ | ⟨rfl, rfl⟩ | ⟨rfl, rfl⟩
    · go_wp2_with fail
      refine (dv_1_2 _).mono ?_
      rintro e w1 ⟨rfl, d1⟩
      go_wp2_with fail
      go_roundw
      case rel => exact ⟨by simp, hd.trans d1⟩
      case measure => first | decide | simp [intOf]
    · go_wp2_with fail
      refine (dv_2_2 _).mono ?_
      rintro e w1 ⟨rfl, d1⟩
      go_wp2_with fail
      go_roundw
      case rel => exact ⟨by simp, hd.trans d1⟩
      case measure => first | decide | simp [intOf]
    · go_wp2_with fail
      go_ret
      exact ⟨rfl, hd⟩
set_option maxHeartbeats 2000000 in
theorem cop_3 (w : World) : Calls Tryz.prog 81 #[.int .i64 3] w fun e w' => e = .returned (.int .i64 2) ∧ Dr w w' := by
  go_enter Tryz.func81, Tryz.ntmps81
  go_wp2_with fail
  go_loopw [3, 4] (fun c i wr => ((c = .int .i64 0 ∧ i = .int .i64 1) ∨ (c = .int .i64 1 ∧ i = .int .i64 2) ∨ (c = .int .i64 2 ∧ i = .int .i64 3) ∨ (c = .int .i64 2 ∧ i = .int .i64 4)) ∧ Dr w wr) (fun c i _ => 20 - (intOf i).toNat)
  case atStart => exact ⟨by simp, Dr.refl _⟩
  case round =>
    obtain ⟨hrel, hd⟩ := hrel
    rcases hrel with ⟨rfl, rfl⟩ | ⟨rfl, rfl⟩ | ⟨rfl, rfl⟩ | ⟨rfl, rfl⟩
    · go_wp2_with fail
      refine (dv_1_3 _).mono ?_
      rintro e w1 ⟨rfl, d1⟩
      go_wp2_with fail
      go_roundw
      case rel => exact ⟨by simp, hd.trans d1⟩
      case measure => first | decide | simp [intOf]
    · go_wp2_with fail
      refine (dv_2_3 _).mono ?_
      rintro e w1 ⟨rfl, d1⟩
      go_wp2_with fail
      go_roundw
      case rel => exact ⟨by simp, hd.trans d1⟩
      case measure => first | decide | simp [intOf]
    · go_wp2_with fail
      refine (dv_3_3 _).mono ?_
      rintro e w1 ⟨rfl, d1⟩
      go_wp2_with fail
      go_roundw
      case rel => exact ⟨by simp, hd.trans d1⟩
      case measure => first | decide | simp [intOf]
    · go_wp2_with fail
      go_ret
      exact ⟨rfl, hd⟩
set_option maxHeartbeats 2000000 in
theorem cop_4 (w : World) : Calls Tryz.prog 81 #[.int .i64 4] w fun e w' => e = .returned (.int .i64 2) ∧ Dr w w' := by
  go_enter Tryz.func81, Tryz.ntmps81
  go_wp2_with fail
  go_loopw [3, 4] (fun c i wr => ((c = .int .i64 0 ∧ i = .int .i64 1) ∨ (c = .int .i64 1 ∧ i = .int .i64 2) ∨ (c = .int .i64 1 ∧ i = .int .i64 3) ∨ (c = .int .i64 2 ∧ i = .int .i64 4) ∨ (c = .int .i64 2 ∧ i = .int .i64 5)) ∧ Dr w wr) (fun c i _ => 20 - (intOf i).toNat)
  case atStart => exact ⟨by simp, Dr.refl _⟩
  case round =>
    obtain ⟨hrel, hd⟩ := hrel
    rcases hrel with ⟨rfl, rfl⟩ | ⟨rfl, rfl⟩ | ⟨rfl, rfl⟩ | ⟨rfl, rfl⟩ | ⟨rfl, rfl⟩
    · go_wp2_with fail
      refine (dv_1_4 _).mono ?_
      rintro e w1 ⟨rfl, d1⟩
      go_wp2_with fail
      go_roundw
      case rel => exact ⟨by simp, hd.trans d1⟩
      case measure => first | decide | simp [intOf]
    · go_wp2_with fail
      refine (dv_2_4 _).mono ?_
      rintro e w1 ⟨rfl, d1⟩
      go_wp2_with fail
      go_roundw
      case rel => exact ⟨by simp, hd.trans d1⟩
      case measure => first | decide | simp [intOf]
    · go_wp2_with fail
      refine (dv_3_4 _).mono ?_
      rintro e w1 ⟨rfl, d1⟩
      go_wp2_with fail
      go_roundw
      case rel => exact ⟨by simp, hd.trans d1⟩
      case measure => first | decide | simp [intOf]
    · go_wp2_with fail
      refine (dv_4_4 _).mono ?_
      rintro e w1 ⟨rfl, d1⟩
      go_wp2_with fail
      go_roundw
      case rel => exact ⟨by simp, hd.trans d1⟩
      case measure => first | decide | simp [intOf]
    · go_wp2_with fail
      go_ret
      exact ⟨rfl, hd⟩
set_option maxHeartbeats 2000000 in
theorem cop_5 (w : World) : Calls Tryz.prog 81 #[.int .i64 5] w fun e w' => e = .returned (.int .i64 4) ∧ Dr w w' := by
  go_enter Tryz.func81, Tryz.ntmps81
  go_wp2_with fail
  go_loopw [3, 4] (fun c i wr => ((c = .int .i64 0 ∧ i = .int .i64 1) ∨ (c = .int .i64 1 ∧ i = .int .i64 2) ∨ (c = .int .i64 2 ∧ i = .int .i64 3) ∨ (c = .int .i64 3 ∧ i = .int .i64 4) ∨ (c = .int .i64 4 ∧ i = .int .i64 5) ∨ (c = .int .i64 4 ∧ i = .int .i64 6)) ∧ Dr w wr) (fun c i _ => 20 - (intOf i).toNat)
  case atStart => exact ⟨by simp, Dr.refl _⟩
  case round =>
    obtain ⟨hrel, hd⟩ := hrel
    rcases hrel with ⟨rfl, rfl⟩ | ⟨rfl, rfl⟩ | ⟨rfl, rfl⟩ | ⟨rfl, rfl⟩ | ⟨rfl, rfl⟩ | ⟨rfl, rfl⟩
    · go_wp2_with fail
      refine (dv_1_5 _).mono ?_
      rintro e w1 ⟨rfl, d1⟩
      go_wp2_with fail
      go_roundw
      case rel => exact ⟨by simp, hd.trans d1⟩
      case measure => first | decide | simp [intOf]
    · go_wp2_with fail
      refine (dv_2_5 _).mono ?_
      rintro e w1 ⟨rfl, d1⟩
      go_wp2_with fail
      go_roundw
      case rel => exact ⟨by simp, hd.trans d1⟩
      case measure => first | decide | simp [intOf]
    · go_wp2_with fail
      refine (dv_3_5 _).mono ?_
      rintro e w1 ⟨rfl, d1⟩
      go_wp2_with fail
      go_roundw
      case rel => exact ⟨by simp, hd.trans d1⟩
      case measure => first | decide | simp [intOf]
    · go_wp2_with fail
      refine (dv_4_5 _).mono ?_
      rintro e w1 ⟨rfl, d1⟩
      go_wp2_with fail
      go_roundw
      case rel => exact ⟨by simp, hd.trans d1⟩
      case measure => first | decide | simp [intOf]
    · go_wp2_with fail
      refine (dv_5_5 _).mono ?_
      rintro e w1 ⟨rfl, d1⟩
      go_wp2_with fail
      go_roundw
      case rel => exact ⟨by simp, hd.trans d1⟩
      case measure => first | decide | simp [intOf]
    · go_wp2_with fail
      go_ret
      exact ⟨rfl, hd⟩
set_option maxHeartbeats 2000000 in
theorem cop_6 (w : World) : Calls Tryz.prog 81 #[.int .i64 6] w fun e w' => e = .returned (.int .i64 2) ∧ Dr w w' := by
  go_enter Tryz.func81, Tryz.ntmps81
  go_wp2_with fail
  go_loopw [3, 4] (fun c i wr => ((c = .int .i64 0 ∧ i = .int .i64 1) ∨ (c = .int .i64 1 ∧ i = .int .i64 2) ∨ (c = .int .i64 1 ∧ i = .int .i64 3) ∨ (c = .int .i64 1 ∧ i = .int .i64 4) ∨ (c = .int .i64 1 ∧ i = .int .i64 5) ∨ (c = .int .i64 2 ∧ i = .int .i64 6) ∨ (c = .int .i64 2 ∧ i = .int .i64 7)) ∧ Dr w wr) (fun c i _ => 20 - (intOf i).toNat)
  case atStart => exact ⟨by simp, Dr.refl _⟩
  case round =>
    obtain ⟨hrel, hd⟩ := hrel
    rcases hrel with ⟨rfl, rfl⟩ | ⟨rfl, rfl⟩ | ⟨rfl, rfl⟩ | ⟨rfl, rfl⟩ | ⟨rfl, rfl⟩ | ⟨rfl, rfl⟩ | ⟨rfl, rfl⟩
    · go_wp2_with fail
      refine (dv_1_6 _).mono ?_
      rintro e w1 ⟨rfl, d1⟩
      go_wp2_with fail
      go_roundw
      case rel => exact ⟨by simp, hd.trans d1⟩
      case measure => first | decide | simp [intOf]
    · go_wp2_with fail
      refine (dv_2_6 _).mono ?_
      rintro e w1 ⟨rfl, d1⟩
      go_wp2_with fail
      go_roundw
      case rel => exact ⟨by simp, hd.trans d1⟩
      case measure => first | decide | simp [intOf]
    · go_wp2_with fail
      refine (dv_3_6 _).mono ?_
      rintro e w1 ⟨rfl, d1⟩
      go_wp2_with fail
      go_roundw
      case rel => exact ⟨by simp, hd.trans d1⟩
      case measure => first | decide | simp [intOf]
    · go_wp2_with fail
      refine (dv_4_6 _).mono ?_
      rintro e w1 ⟨rfl, d1⟩
      go_wp2_with fail
      go_roundw
      case rel => exact ⟨by simp, hd.trans d1⟩
      case measure => first | decide | simp [intOf]
    · go_wp2_with fail
      refine (dv_5_6 _).mono ?_
      rintro e w1 ⟨rfl, d1⟩
      go_wp2_with fail
      go_roundw
      case rel => exact ⟨by simp, hd.trans d1⟩
      case measure => first | decide | simp [intOf]
    · go_wp2_with fail
      refine (dv_6_6 _).mono ?_
      rintro e w1 ⟨rfl, d1⟩
      go_wp2_with fail
      go_roundw
      case rel => exact ⟨by simp, hd.trans d1⟩
      case measure => first | decide | simp [intOf]
    · go_wp2_with fail
      go_ret
      exact ⟨rfl, hd⟩
set_option maxHeartbeats 2000000 in
theorem cop_7 (w : World) : Calls Tryz.prog 81 #[.int .i64 7] w fun e w' => e = .returned (.int .i64 6) ∧ Dr w w' := by
  go_enter Tryz.func81, Tryz.ntmps81
  go_wp2_with fail
  go_loopw [3, 4] (fun c i wr => ((c = .int .i64 0 ∧ i = .int .i64 1) ∨ (c = .int .i64 1 ∧ i = .int .i64 2) ∨ (c = .int .i64 2 ∧ i = .int .i64 3) ∨ (c = .int .i64 3 ∧ i = .int .i64 4) ∨ (c = .int .i64 4 ∧ i = .int .i64 5) ∨ (c = .int .i64 5 ∧ i = .int .i64 6) ∨ (c = .int .i64 6 ∧ i = .int .i64 7) ∨ (c = .int .i64 6 ∧ i = .int .i64 8)) ∧ Dr w wr) (fun c i _ => 20 - (intOf i).toNat)
  case atStart => exact ⟨by simp, Dr.refl _⟩
  case round =>
    obtain ⟨hrel, hd⟩ := hrel
    rcases hrel with ⟨rfl, rfl⟩ | ⟨rfl, rfl⟩ | ⟨rfl, rfl⟩ | ⟨rfl, rfl⟩ | ⟨rfl, rfl⟩ | ⟨rfl, rfl⟩ | ⟨rfl, rfl⟩ | ⟨rfl, rfl⟩
    · go_wp2_with fail
      refine (dv_1_7 _).mono ?_
      rintro e w1 ⟨rfl, d1⟩
      go_wp2_with fail
      go_roundw
      case rel => exact ⟨by simp, hd.trans d1⟩
      case measure => first | decide | simp [intOf]
    · go_wp2_with fail
      refine (dv_2_7 _).mono ?_
      rintro e w1 ⟨rfl, d1⟩
      go_wp2_with fail
      go_roundw
      case rel => exact ⟨by simp, hd.trans d1⟩
      case measure => first | decide | simp [intOf]
    · go_wp2_with fail
      refine (dv_3_7 _).mono ?_
      rintro e w1 ⟨rfl, d1⟩
      go_wp2_with fail
      go_roundw
      case rel => exact ⟨by simp, hd.trans d1⟩
      case measure => first | decide | simp [intOf]
    · go_wp2_with fail
      refine (dv_4_7 _).mono ?_
      rintro e w1 ⟨rfl, d1⟩
      go_wp2_with fail
      go_roundw
      case rel => exact ⟨by simp, hd.trans d1⟩
      case measure => first | decide | simp [intOf]
    · go_wp2_with fail
      refine (dv_5_7 _).mono ?_
      rintro e w1 ⟨rfl, d1⟩
      go_wp2_with fail
      go_roundw
      case rel => exact ⟨by simp, hd.trans d1⟩
      case measure => first | decide | simp [intOf]
    · go_wp2_with fail
      refine (dv_6_7 _).mono ?_
      rintro e w1 ⟨rfl, d1⟩
      go_wp2_with fail
      go_roundw
      case rel => exact ⟨by simp, hd.trans d1⟩
      case measure => first | decide | simp [intOf]
    · go_wp2_with fail
      refine (dv_7_7 _).mono ?_
      rintro e w1 ⟨rfl, d1⟩
      go_wp2_with fail
      go_roundw
      case rel => exact ⟨by simp, hd.trans d1⟩
      case measure => first | decide | simp [intOf]
    · go_wp2_with fail
      go_ret
      exact ⟨rfl, hd⟩
set_option maxHeartbeats 2000000 in
theorem cop_8 (w : World) : Calls Tryz.prog 81 #[.int .i64 8] w fun e w' => e = .returned (.int .i64 4) ∧ Dr w w' := by
  go_enter Tryz.func81, Tryz.ntmps81
  go_wp2_with fail
  go_loopw [3, 4] (fun c i wr => ((c = .int .i64 0 ∧ i = .int .i64 1) ∨ (c = .int .i64 1 ∧ i = .int .i64 2) ∨ (c = .int .i64 1 ∧ i = .int .i64 3) ∨ (c = .int .i64 2 ∧ i = .int .i64 4) ∨ (c = .int .i64 2 ∧ i = .int .i64 5) ∨ (c = .int .i64 3 ∧ i = .int .i64 6) ∨ (c = .int .i64 3 ∧ i = .int .i64 7) ∨ (c = .int .i64 4 ∧ i = .int .i64 8) ∨ (c = .int .i64 4 ∧ i = .int .i64 9)) ∧ Dr w wr) (fun c i _ => 20 - (intOf i).toNat)
  case atStart => exact ⟨by simp, Dr.refl _⟩
  case round =>
    obtain ⟨hrel, hd⟩ := hrel
    rcases hrel with ⟨rfl, rfl⟩ | ⟨rfl, rfl⟩ | ⟨rfl, rfl⟩ | ⟨rfl, rfl⟩ | ⟨rfl, rfl⟩ | ⟨rfl, rfl⟩ | ⟨rfl, rfl⟩ | ⟨rfl, rfl⟩ | ⟨rfl, rfl⟩
    · go_wp2_with fail
      refine (dv_1_8 _).mono ?_
      rintro e w1 ⟨rfl, d1⟩
      go_wp2_with fail
      go_roundw
      case rel => exact ⟨by simp, hd.trans d1⟩
      case measure => first | decide | simp [intOf]
    · go_wp2_with fail
      refine (dv_2_8 _).mono ?_
      rintro e w1 ⟨rfl, d1⟩
      go_wp2_with fail
      go_roundw
      case rel => exact ⟨by simp, hd.trans d1⟩
      case measure => first | decide | simp [intOf]
    · go_wp2_with fail
      refine (dv_3_8 _).mono ?_
      rintro e w1 ⟨rfl, d1⟩
      go_wp2_with fail
      go_roundw
      case rel => exact ⟨by simp, hd.trans d1⟩
      case measure => first | decide | simp [intOf]
    · go_wp2_with fail
      refine (dv_4_8 _).mono ?_
      rintro e w1 ⟨rfl, d1⟩
      go_wp2_with fail
      go_roundw
      case rel => exact ⟨by simp, hd.trans d1⟩
      case measure => first | decide | simp [intOf]
    · go_wp2_with fail
      refine (dv_5_8 _).mono ?_
      rintro e w1 ⟨rfl, d1⟩
      go_wp2_with fail
      go_roundw
      case rel => exact ⟨by simp, hd.trans d1⟩
      case measure => first | decide | simp [intOf]
    · go_wp2_with fail
      refine (dv_6_8 _).mono ?_
      rintro e w1 ⟨rfl, d1⟩
      go_wp2_with fail
      go_roundw
      case rel => exact ⟨by simp, hd.trans d1⟩
      case measure => first | decide | simp [intOf]
    · go_wp2_with fail
      refine (dv_7_8 _).mono ?_
      rintro e w1 ⟨rfl, d1⟩
      go_wp2_with fail
      go_roundw
      case rel => exact ⟨by simp, hd.trans d1⟩
      case measure => first | decide | simp [intOf]
    · go_wp2_with fail
      refine (dv_8_8 _).mono ?_
      rintro e w1 ⟨rfl, d1⟩
      go_wp2_with fail
      go_roundw
      case rel => exact ⟨by simp, hd.trans d1⟩
      case measure => first | decide | simp [intOf]
    · go_wp2_with fail
      go_ret
      exact ⟨rfl, hd⟩
set_option maxHeartbeats 2000000 in
theorem bal_8 (w : World) : Calls Tryz.prog 22 #[.int .i64 8] w fun e w' => e = .returned (.int .i64 76) ∧ Dr w w' := by
  go_enter Tryz.func22, Tryz.ntmps22
  go_wp2_with (go_at_call 61; with_reducible refine (within_yes _ _ _ (by decide) _).mono ?_; rintro e w' ⟨rfl, rfl⟩)
  go_loopw [3, 4] (fun s i wr => ((s = .int .i64 1 ∧ i = .int .i64 1) ∨ (s = .int .i64 9 ∧ i = .int .i64 2) ∨ (s = .int .i64 16 ∧ i = .int .i64 3) ∨ (s = .int .i64 28 ∧ i = .int .i64 4) ∨ (s = .int .i64 38 ∧ i = .int .i64 5) ∨ (s = .int .i64 54 ∧ i = .int .i64 6) ∨ (s = .int .i64 60 ∧ i = .int .i64 7) ∨ (s = .int .i64 72 ∧ i = .int .i64 8) ∨ (s = .int .i64 76 ∧ i = .int .i64 9)) ∧ Dr w wr) (fun s i _ => 20 - (intOf i).toNat)
  case atStart => exact ⟨by simp, Dr.refl _⟩
  case round =>
    obtain ⟨hrel, hd⟩ := hrel
    rcases hrel with ⟨rfl, rfl⟩ | ⟨rfl, rfl⟩ | ⟨rfl, rfl⟩ | ⟨rfl, rfl⟩ | ⟨rfl, rfl⟩ | ⟨rfl, rfl⟩ | ⟨rfl, rfl⟩ | ⟨rfl, rfl⟩ | ⟨rfl, rfl⟩
    · go_wp2_with fail
      refine (cop_1 _).mono ?_
      rintro e w1 ⟨rfl, d1⟩
      go_wp2_with fail
      go_roundw
      case rel => exact ⟨by simp, hd.trans d1⟩
      case measure => first | decide | simp [intOf]
    · go_wp2_with fail
      refine (cop_2 _).mono ?_
      rintro e w1 ⟨rfl, d1⟩
      go_wp2_with fail
      go_roundw
      case rel => exact ⟨by simp, hd.trans d1⟩
      case measure => first | decide | simp [intOf]
    · go_wp2_with fail
      refine (cop_3 _).mono ?_
      rintro e w1 ⟨rfl, d1⟩
      go_wp2_with fail
      go_roundw
      case rel => exact ⟨by simp, hd.trans d1⟩
      case measure => first | decide | simp [intOf]
    · go_wp2_with fail
      refine (cop_4 _).mono ?_
      rintro e w1 ⟨rfl, d1⟩
      go_wp2_with fail
      go_roundw
      case rel => exact ⟨by simp, hd.trans d1⟩
      case measure => first | decide | simp [intOf]
    · go_wp2_with fail
      refine (cop_5 _).mono ?_
      rintro e w1 ⟨rfl, d1⟩
      go_wp2_with fail
      go_roundw
      case rel => exact ⟨by simp, hd.trans d1⟩
      case measure => first | decide | simp [intOf]
    · go_wp2_with fail
      refine (cop_6 _).mono ?_
      rintro e w1 ⟨rfl, d1⟩
      go_wp2_with fail
      go_roundw
      case rel => exact ⟨by simp, hd.trans d1⟩
      case measure => first | decide | simp [intOf]
    · go_wp2_with fail
      refine (cop_7 _).mono ?_
      rintro e w1 ⟨rfl, d1⟩
      go_wp2_with fail
      go_roundw
      case rel => exact ⟨by simp, hd.trans d1⟩
      case measure => first | decide | simp [intOf]
    · go_wp2_with fail
      refine (cop_8 _).mono ?_
      rintro e w1 ⟨rfl, d1⟩
      go_wp2_with fail
      go_roundw
      case rel => exact ⟨by simp, hd.trans d1⟩
      case measure => first | decide | simp [intOf]
    · go_wp2_with fail
      go_ret
      exact ⟨rfl, hd⟩
end Go.Proofs.YtbegecoocgkbiaaGreatDoor
