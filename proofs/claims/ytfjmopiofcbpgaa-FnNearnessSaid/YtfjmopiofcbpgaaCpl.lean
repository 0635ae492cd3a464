/- ComplexityOf and FactorsOf, the program's. Asks the shelf's text. No condition but the bounds. -/
import Derived.Test.YtfjmopiofcbpgaaSrt
namespace Go.Proofs.Ytfjmopiofcbpgaa
open Go.RowKit
set_option linter.unusedVariables false

def cpx (s : ByteArray) (n : Nat) : Nat := (insL (fc s n)).length
theorem cpx_le (s : ByteArray) (n : Nat) (hn : 1 ≤ n) : cpx s n ≤ s.size + 1 := by
  have h1 := insL_len (fc s n)
  unfold cpx
  rw [fc] at h1 ⊢; rw [fcT_len] at h1; omega
theorem isLenC_yes (s : ByteArray) (n : Nat) (h0 : isW (L s) = true) (h1 : 1 ≤ n) (h2 : n ≤ 400) (w : World) :
    Calls Try.prog 62 #[.string s, .int .i64 n] w fun e w' => e = .returned (.bool true) ∧ w = w' := by
  have h4 := isW_size h0
  have hs9 : s.size ≤ maxLen := by unfold maxLen; omega
  have H0 := Lib.hid h0
  have H2 := Lib.hid (fun w => within_yes (n : Int) 1 400 ⟨by omega, by omega⟩ w)
  clear h0
  go_enter Try.func62, Try.ntmps62
  go_wp2_with (first
    | (go_at_call 46; with_reducible refine (isWord_is s _ hs9 H0.out _).mono ?_; rintro e w' ⟨rfl, rfl⟩)
    | (go_at_call 45; with_reducible refine (H2.out _).mono ?_; rintro e w' ⟨rfl, rfl⟩))
  go_ret
  exact ⟨rfl, rfl⟩
theorem iCpx_yes (s : ByteArray) (n : Nat) (h0 : isW (L s) = true) (h1 : 1 ≤ n) (h2 : n ≤ 400) (w : World) :
    Calls Try.prog 36 #[.string s, .int .i64 n] w fun e w' => e = .returned (.int .i64 (cpx s n)) ∧ Below w.heap.size w w' := by
  have h4 := isW_size h0
  have HL := Lib.hid (fun w => isLenC_yes s n h0 h1 h2 w)
  have HF := Lib.hid (fun w => factorsOf_any s n h4 (by omega) w)
  clear h0
  go_enter Try.func36, Try.ntmps36
  go_wp2_with fail
  refine (HL.out _).mono ?_
  rintro e w1 ⟨rfl, rfl⟩
  go_wp2_with fail
  refine (HF.out _).mono ?_
  rintro e w2 ⟨g, c, rfl, st, b2⟩
  go_wp2_with fail
  go_ret
  exact ⟨rfl, b2⟩
theorem iFactors_yes (s : ByteArray) (n : Nat) (h0 : isW (L s) = true) (h1 : 1 ≤ n) (h2 : n ≤ 400) (w : World) :
    Calls Try.prog 35 #[.string s, .int .i64 n] w fun e w' => ∃ g c, e = .returned (.slice (some ⟨g, 0, none⟩) (insL (fc s n)).length c) ∧ StrAt w' g c (insL (fc s n)) ∧ Below w.heap.size w w' := by
  have h4 := isW_size h0
  have HL := Lib.hid (fun w => isLenC_yes s n h0 h1 h2 w)
  have HF := Lib.hid (fun w => factorsOf_any s n h4 (by omega) w)
  clear h0
  go_enter Try.func35, Try.ntmps35
  go_wp2_with fail
  refine (HL.out _).mono ?_
  rintro e w1 ⟨rfl, rfl⟩
  go_wp2_with fail
  refine (HF.out _).mono ?_
  rintro e w2 ⟨g, c, rfl, st, b2⟩
  have HST := Lib.hid st
  clear st
  go_wp2_with fail
  go_ret
  exact ⟨g, c, rfl, HST.out, b2⟩
end Go.Proofs.Ytfjmopiofcbpgaa
