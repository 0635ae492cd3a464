/- ComplexityOf and FactorsOf, the program's. Asks the shelf's text. No condition but the bounds. -/
import Derived.Test.YtbegecoocgkbiaaGreatDoorSrt
namespace Go.Proofs.YtbegecoocgkbiaaGreatDoor
open Go.RowKit
set_option linter.unusedVariables false

def cpx (s : ByteArray) (n : Nat) : Nat := (insL (fc s n)).length
theorem cpx_le (s : ByteArray) (n : Nat) (hn : 1 ≤ n) : cpx s n ≤ s.size + 1 := by
  have h1 := insL_len (fc s n)
  unfold cpx
  rw [fc] at h1 ⊢; rw [fcT_len] at h1; omega
theorem isLenC_yes (s : ByteArray) (n : Nat) (h0 : isW (L s) = true) (h1 : 1 ≤ n) (h2 : n ≤ 400) (w : World) :
    Calls Tryz.prog 65 #[.string s, .int .i64 n] w fun e w' => e = .returned (.bool true) ∧ w = w' := by
  have h4 := isW_size h0
  have hs9 : s.size ≤ maxLen := by unfold maxLen; omega
  have H0 := Lib.hid h0
  have H2 := Lib.hid (fun w => within_yes (n : Int) 1 400 ⟨by omega, by omega⟩ w)
  clear h0
  go_enter Tryz.func65, Tryz.ntmps65
  go_wp2_with (first
    | (go_at_call 70; with_reducible refine (isWord_is s _ hs9 H0.out _).mono ?_; rintro e w' ⟨rfl, rfl⟩)
    | (go_at_call 61; with_reducible refine (H2.out _).mono ?_; rintro e w' ⟨rfl, rfl⟩))
  go_ret
  exact ⟨rfl, rfl⟩
theorem iCpx_yes (s : ByteArray) (n : Nat) (h0 : isW (L s) = true) (h1 : 1 ≤ n) (h2 : n ≤ 400) (w : World) :
    Calls Tryz.prog 8 #[.string s, .int .i64 n] w fun e w' => e = .returned (.int .i64 (cpx s n)) ∧ Below w.heap.size w w' := by
  have h4 := isW_size h0
  have HL := Lib.hid (fun w => isLenC_yes s n h0 h1 h2 w)
  have HF := Lib.hid (fun w => factorsOf_any s n h4 (by omega) w)
  clear h0
  go_enter Tryz.func8, Tryz.ntmps8
  go_wp2_with fail
  refine (HL.out _).mono ?_
  rintro e w1 ⟨rfl, rfl⟩
  go_wp2_with fail
  refine (HF.out _).mono ?_
  rintro e w2 ⟨g, c, rfl, st, b2⟩
  go_wp2_with fail
  go_ret
  exact ⟨rfl, b2⟩
end Go.Proofs.YtbegecoocgkbiaaGreatDoor
