/- PathOf(3, 7). Printed by a small program. No condition. -/
import Derived.Test.YtbegecoocgkbiaaGreatDoorCfa
import Derived.Test.YtbegecoocgkbiaaGreatDoorM1
import Derived.Test.YtbegecoocgkbiaaGreatDoorM17
namespace Go.Proofs.YtbegecoocgkbiaaGreatDoor
open Go.RowKit
set_option linter.unusedVariables false

def lenOfP : Value → Nat
  | .slice _ n _ => n
  | _ => 0
set_option maxRecDepth 4000 in
set_option maxHeartbeats 4000000 in
theorem path_37 (w : World) :
    Calls Tryz.prog 28 #[.int .i64 3, .int .i64 7] w fun e w' => e = .returned (.string { data := #[76, 76, 82, 82] }) ∧ Below w.heap.size w w' := by
  go_enter Tryz.func28, Tryz.ntmps28
  go_wp2_with (go_at_call 61; with_reducible refine (within_yes _ _ _ (by decide) _).mono ?_; rintro e w' ⟨rfl, rfl⟩)
  refine (dv_3_7 _).mono ?_
  rintro e w1 ⟨rfl, d1⟩
  have B1 : Below w.heap.size w w1 := d1.below
  have hz1 := B1.size
  clear d1
  go_wp2_with fail
  go_loopw [5, 6, 7, 8, 9] (fun v a b c d wr => ∃ (m g cc : Nat) (acc : List UInt8), v = .slice (some ⟨g, 0, none⟩) m cc ∧ Own wr w1.heap.size 5 (.slice (some ⟨g, 0, none⟩) m cc) (byV acc) ∧ Below w1.heap.size w1 wr ∧ ((m = 0 ∧ acc = [] ∧ a = .int .i64 0 ∧ b = .int .i64 1 ∧ c = .int .i64 1 ∧ d = .int .i64 0) ∨ (m = 1 ∧ acc = [76] ∧ a = .int .i64 0 ∧ b = .int .i64 1 ∧ c = .int .i64 1 ∧ d = .int .i64 1) ∨ (m = 2 ∧ acc = [76, 76] ∧ a = .int .i64 0 ∧ b = .int .i64 1 ∧ c = .int .i64 1 ∧ d = .int .i64 2) ∨ (m = 3 ∧ acc = [76, 76, 82] ∧ a = .int .i64 1 ∧ b = .int .i64 3 ∧ c = .int .i64 1 ∧ d = .int .i64 2) ∨ (m = 4 ∧ acc = [76, 76, 82, 82] ∧ a = .int .i64 2 ∧ b = .int .i64 5 ∧ c = .int .i64 1 ∧ d = .int .i64 2))) (fun v _ _ _ _ _ => 5 - lenOfP v)
  case atStart => exact ⟨0, w1.heap.size, 0, [], rfl, Own.empty (Nat.le_refl _), (Below.refl _ _).alloc (Nat.le_refl _) _, by simp⟩
  case round =>
    obtain ⟨m, g, cc, acc, rfl, hown, hbel, hst⟩ := hrel
    have HO := Lib.hid hown
    have hsz := hbel.size
    clear hown
    rcases hst with ⟨rfl, rfl, rfl, rfl, rfl, rfl⟩ | ⟨rfl, rfl, rfl, rfl, rfl, rfl⟩ | ⟨rfl, rfl, rfl, rfl, rfl, rfl⟩ | ⟨rfl, rfl, rfl, rfl, rfl, rfl⟩ | ⟨rfl, rfl, rfl, rfl, rfl, rfl⟩
    · go_wp2_with (at_builtin; refine wp_append4 rfl (.tmp 43) (.tmp 44) 22 rfl _ 1 Tryz.underlying22 info_u8 rfl 0 cc rfl HO.out _ rfl rfl (by rfl) (by decide) (by decide) hsz ?_)
      intro g4 c4 w4 ha4
      have HO4 := Lib.hid ha4.own
      have hbel4 := hbel.trans ha4.bel
      clear ha4
      go_wp2_with fail
      go_roundw
      case rel => exact ⟨1, g4, c4, [76], rfl, HO4.out, hbel4, by simp⟩
      case measure => simp [lenOfP]
    · go_wp2_with (at_builtin; refine wp_append4 rfl (.tmp 43) (.tmp 44) 22 rfl _ 1 Tryz.underlying22 info_u8 rfl 1 cc rfl HO.out _ rfl rfl (by rfl) (by decide) (by decide) hsz ?_)
      intro g4 c4 w4 ha4
      have HO4 := Lib.hid ha4.own
      have hbel4 := hbel.trans ha4.bel
      clear ha4
      go_wp2_with fail
      go_roundw
      case rel => exact ⟨2, g4, c4, [76, 76], rfl, HO4.out, hbel4, by simp⟩
      case measure => simp [lenOfP]
    · go_wp2_with (at_builtin; refine wp_append4 rfl (.tmp 56) (.tmp 57) 22 rfl _ 1 Tryz.underlying22 info_u8 rfl 2 cc rfl HO.out _ rfl rfl (by rfl) (by decide) (by decide) hsz ?_)
      intro g4 c4 w4 ha4
      have HO4 := Lib.hid ha4.own
      have hbel4 := hbel.trans ha4.bel
      clear ha4
      go_wp2_with fail
      go_roundw
      case rel => exact ⟨3, g4, c4, [76, 76, 82], rfl, HO4.out, hbel4, by simp⟩
      case measure => simp [lenOfP]
    · go_wp2_with (at_builtin; refine wp_append4 rfl (.tmp 56) (.tmp 57) 22 rfl _ 1 Tryz.underlying22 info_u8 rfl 3 cc rfl HO.out _ rfl rfl (by rfl) (by decide) (by decide) hsz ?_)
      intro g4 c4 w4 ha4
      have HO4 := Lib.hid ha4.own
      have hbel4 := hbel.trans ha4.bel
      clear ha4
      go_wp2_with fail
      go_roundw
      case rel => exact ⟨4, g4, c4, [76, 76, 82, 82], rfl, HO4.out, hbel4, by simp⟩
      case measure => simp [lenOfP]
    · have hcv := Rds.conv (P := Tryz.prog) (HO.out.reads) (l := [76, 76, 82, 82]) (n := 4) rfl 22 9 5 cc Tryz.underlying22 Tryz.underlying5 Tryz.underlying9
      go_wp2_with fail
      go_ret
      exact ⟨rfl, B1.trans (hbel.mono hz1)⟩
end Go.Proofs.YtbegecoocgkbiaaGreatDoor
