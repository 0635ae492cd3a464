/- IsFactor, the program's. Asks the shelf's text (Tryd.strings_Contains_shaped). -/
import Derived.Test.YtaihigaafjmpiaaDoorAvo
namespace Go.Proofs.YtaihigaafjmpiaaDoor
open Go.RowKit
set_option linter.unusedVariables false

def facB (s f : ByteArray) : Bool := isW (L s) && (isW (L f) && hasF s f)
set_option maxHeartbeats 400000 in
theorem iIsFactor_any (s f : ByteArray) (hs : s.size ≤ 1048576) (hf : f.size ≤ maxLen) (w : World) (hml : MlOk w) :
    Calls Tryd.prog 14 #[.string s, .string f] w fun e w' => e = .returned (.bool (facB s f)) ∧ w = w' := by
  have hc := contains_any s f (by omega) w hml
  have h1 := isWord_any s (by unfold maxLen; omega) w
  have h2 := isWord_any f hf w
  cases b1 : isW (L s)
  · rw [b1] at h1
    have HV : Hid (facB s f = false) := Lib.hid (by rw [facB, b1]; rfl)
    have H1 := Lib.hid h1
    clear hc h1 h2 b1 hml
    go_enter Tryd.func14, Tryd.ntmps14
    go_wp2_with (go_at_call 24; refine H1.out.mono ?_; rintro e w' ⟨rfl, rfl⟩)
    go_ret
    exact ⟨ret_bool HV.out.symm, rfl⟩
  · rw [b1] at h1
    cases b2 : isW (L f)
    · rw [b2] at h2
      have HV : Hid (facB s f = false) := Lib.hid (by rw [facB, b1, b2]; rfl)
      have H1 := Lib.hid h1; have H2 := Lib.hid h2
      clear hc h1 h2 b1 b2 hml
      go_enter Tryd.func14, Tryd.ntmps14
      go_wp2_with fail
      refine H1.out.mono ?_
      rintro e w' ⟨rfl, rfl⟩
      go_wp2_with fail
      refine H2.out.mono ?_
      rintro e w' ⟨rfl, rfl⟩
      go_wp2_with fail
      go_ret
      exact ⟨ret_bool HV.out.symm, rfl⟩
    · rw [b2] at h2
      have HV : Hid (facB s f = hasF s f) := Lib.hid (by rw [facB, b1, b2]; rfl)
      have H1 := Lib.hid h1; have H2 := Lib.hid h2; have HC := Lib.hid hc
      clear hc h1 h2 b1 b2 hml
      go_enter Tryd.func14, Tryd.ntmps14
      go_wp2_with fail
      refine H1.out.mono ?_
      rintro e w' ⟨rfl, rfl⟩
      go_wp2_with fail
      refine H2.out.mono ?_
      rintro e w' ⟨rfl, rfl⟩
      go_wp2_with fail
      refine HC.out.mono ?_
      rintro e w' ⟨rfl, rfl⟩
      go_wp2_with fail
      go_ret
      exact ⟨ret_bool HV.out.symm, rfl⟩
end Go.Proofs.YtaihigaafjmpiaaDoor
