/- PartsLine, both. Asks the shelf's text. No condition but the bounds. -/
import Derived.Test.YtnbniccajppgjaaLyw
namespace Go.Proofs.Ytnbniccajppgjaa
open Go.RowKit
set_option linter.unusedVariables false

noncomputable def ptlV (s : ByteArray) : ByteArray := if isW (L s) = true then orD (strOf (jnS 46 (prts s 0))) else { data := #[110, 111, 110, 101] }
theorem sPtl_any (s : ByteArray) (hs : s.size ≤ maxLen) (w : World) :
    Calls Try.prog 7 #[.string s] w fun e w' => e = .returned (.string (ptlV s)) ∧ Below w.heap.size w w' := by
  cases h0 : isW (L s)
  · have hv : ptlV s = { data := #[110, 111, 110, 101] } := by rw [ptlV, h0]; rfl
    rw [hv]
    have H0 := Lib.hid h0
    clear h0 hv
    go_enter Try.func7, Try.ntmps7
    go_wp2_with (go_at_call 45; with_reducible refine (sWordOk_is s _ hs H0.out _).mono ?_; rintro e w' ⟨rfl, rfl⟩)
    go_ret
    exact ⟨rfl, Below.refl _ _⟩
  · have hv : ptlV s = orD (strOf (jnS 46 (prts s 0))) := by rw [ptlV, h0]; rfl
    rw [hv]
    have h4 := isW_size h0
    have hpts := fun w => sPts_yes s h0 w
    have hl : (prts s 0).length ≤ 1000 := by have := prt_len s (s.size + 1) 0; unfold prts; omega
    have hz : ∀ x ∈ prts s 0, x.size ≤ 400 := fun x hx => by have := prt_size s (s.size + 1) 0 x hx; omega
    have H0 := Lib.hid h0; have HPT := Lib.hid hpts; have HZ := Lib.hid hz
    clear h0 hv hpts hz
    go_enter Try.func7, Try.ntmps7
    go_wp2_with (go_at_call 45; with_reducible refine (sWordOk_is s _ hs H0.out _).mono ?_; rintro e w' ⟨rfl, rfl⟩)
    refine (HPT.out _).mono ?_
    rintro e w1 ⟨A1, c1, rfl, o1, b1⟩
    have HO := Lib.hid o1
    have z1 := b1.size
    clear o1
    go_wp2_with fail
    refine (sJoinS_any 46 (prts s 0) A1 c1 _ _ hl HZ.out HO.out.reads).mono ?_
    rintro e w2 ⟨rfl, rfl⟩ --J
    go_wp2_with fail
    refine (l29OrD_any (strOf (jnS 46 (prts s 0))) _).mono ?_
    rintro e w3 ⟨rfl, rfl⟩
    go_wp2_with fail
    go_ret
    exact ⟨rfl, b1⟩
theorem iPtl_any (s : ByteArray) (hs : s.size ≤ maxLen) (w : World) :
    Calls Try.prog 8 #[.string s] w fun e w' => e = .returned (.string (ptlV s)) ∧ Below w.heap.size w w' := by
  cases h0 : isW (L s)
  · have hv : ptlV s = { data := #[110, 111, 110, 101] } := by rw [ptlV, h0]; rfl
    rw [hv]
    have H0 := Lib.hid h0
    clear h0 hv
    go_enter Try.func8, Try.ntmps8
    go_wp2_with (go_at_call 49; with_reducible refine (isWord_is s _ hs H0.out _).mono ?_; rintro e w' ⟨rfl, rfl⟩)
    go_ret
    exact ⟨rfl, Below.refl _ _⟩
  · have hv : ptlV s = orD (strOf (jnS 46 (prts s 0))) := by rw [ptlV, h0]; rfl
    rw [hv]
    have h4 := isW_size h0
    have hpts := fun w => iPts_yes s h0 w
    have hl : (prts s 0).length ≤ 1000 := by have := prt_len s (s.size + 1) 0; unfold prts; omega
    have hz : ∀ x ∈ prts s 0, x.size ≤ 400 := fun x hx => by have := prt_size s (s.size + 1) 0 x hx; omega
    have H0 := Lib.hid h0; have HPT := Lib.hid hpts; have HZ := Lib.hid hz
    clear h0 hv hpts hz
    go_enter Try.func8, Try.ntmps8
    go_wp2_with (go_at_call 49; with_reducible refine (isWord_is s _ hs H0.out _).mono ?_; rintro e w' ⟨rfl, rfl⟩)
    refine (HPT.out _).mono ?_
    rintro e w1 ⟨A1, c1, rfl, o1, b1⟩
    have HO := Lib.hid o1
    have z1 := b1.size
    clear o1
    go_wp2_with fail
    refine (iJoinS_any 46 (prts s 0) A1 _ c1 _ _ rfl hl HZ.out HO.out).mono ?_
    rintro e w2 ⟨rfl, b2⟩ --J
    go_wp2_with fail
    refine (orDashD_any (strOf (jnS 46 (prts s 0))) _).mono ?_
    rintro e w3 ⟨rfl, rfl⟩
    go_wp2_with fail
    go_ret
    exact ⟨rfl, b1.trans (b2.mono z1)⟩
end Go.Proofs.Ytnbniccajppgjaa
