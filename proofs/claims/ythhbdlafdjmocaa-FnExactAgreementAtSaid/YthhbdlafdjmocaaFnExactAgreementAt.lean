/- For every string and int the law FnExactAgreementAt returns true and leaves its arguments as they were; no condition. -/
import Derived.Test.YthhbdlafdjmocaaNear
namespace Go.Proofs.Ythhbdlafdjmocaa.fnExactAgreementAt
open Go.ChangeShapes Go.WideShapes Go.ChangeAt Go.RowKit
open Go.ChangeMaps (open_string shut_string)
set_option linter.unusedVariables false

set_option maxHeartbeats 400000 in
theorem walk (s : ByteArray) (k : Int) (w : World) (hs : s.size ≤ maxLen) (hk : I64 k) :
    Calls Try.prog 6 #[.string s, .int .i64 k] w fun e w' => e = .returned (.bool true) ∧ Below w.heap.size w w' := by
  by_cases h1 : 1048576 < s.size
  · go_enter Try.func6, Try.ntmps6
    go_wp2_with fail
    go_ret
    exact ⟨rfl, Below.refl _ _⟩
  · by_cases h3 : isW (L s) = true ∧ 0 ≤ k ∧ k ≤ s.size
    · obtain ⟨h3, h4, h5⟩ := h3
      obtain ⟨k, rfl⟩ := Int.eq_ofNat_of_zero_le h4
      have h6 : k ≤ s.size := by omega
      have H3 := Lib.hid h3; clear h3
      clear hk h4
      go_enter Try.func6, Try.ntmps6
      go_wp2_with (first
        | (go_at_call 24; refine (sAgreementAt_yes s k hs H3.out h6 _).mono ?_; rintro e w' ⟨rfl, n1, rfl⟩)
        | (go_at_call 25; refine (iAgreementAt_yes s k hs H3.out h6 _).mono ?_; rintro e w' ⟨rfl, n2, rfl⟩))
      go_ret
      exact ⟨rfl, ((Dr.refl _).drewN _).below⟩
    · have H3 := Lib.hid h3; clear h3 hk
      go_enter Try.func6, Try.ntmps6
      go_wp2_with (first
        | (go_at_call 24; refine (sAgreementAt_no s k hs H3.out _).mono ?_; rintro e w' ⟨rfl, n1, rfl⟩)
        | (go_at_call 25; refine (iAgreementAt_no s k hs H3.out _).mono ?_; rintro e w' ⟨rfl, n2, rfl⟩))
      go_ret
      exact ⟨rfl, ((Dr.refl _).drewN _).below⟩


set_option maxRecDepth 100000 in
theorem lifted (os : Os) (started : os.Started) (H : Type) (enc : TypeId × Value → H) :
    ReturnsInHanded {} Try.checked os 6 .any (Rows.fnExactAgreementAtSpec.pre6 enc Try.prog Try.f6 Rows.fnExactAgreementAtRow.domain false) (Rows.fnExactAgreementAtSpec.post enc Try.prog Try.f6 false true false false) := by
  refine returnsInHanded_of_change (C := Try.checked) own started (by kernel_rfl) Try.func6
    (ChangeSpec.witness6 (enc := enc) (C := Try.checked) false ⟨#[], #[.string ByteArray.empty, .int .i64 0], []⟩ 8 (by kernel_rfl) (by kernel_rfl) (by kernel_rfl) (by kernel_rfl)) ?_
  intro W base args ds gs before hval0 hW hcnd _
  have hval : ∀ (j : Nat) t v, Try.f6.params[j]? = some t → args[j]? = some v → Value.okWide Try.prog W .any base t v := hval0
  have hW' := hW
  obtain ⟨p, q, hA0, hV, rfl, hfz, hnd⟩ := hW
  have hA : DataW.TrodAll enc Try.prog W 0 (fun _ => true) true Try.f6.params.toList args.toList ds p := hA0
  rw [Try.params6] at hA hval
  obtain ⟨v0, vs0, d0, ds0, p0, q0, hargs, rfl, rfl, h0, r0⟩ := trodAll_cons hA
  obtain ⟨v1, vs1, d1, ds1, p1, q1, rfl, rfl, rfl, h1, r1⟩ := trodAll_cons r0
  obtain ⟨rfl, rfl, rfl⟩ := trodAll_nil r1
  obtain rfl : args = #[v0, v1] := by cases args; simp_all
  obtain ⟨rfl, rfl⟩ := trodVars_none hV
  obtain ⟨a0, rfl, rfl, rfl, w0⟩ := open_string Try.underlying9 (hval 0 9 v0 rfl rfl) h0
  obtain ⟨a1, rfl, rfl, rfl, w1⟩ := open_int Try.underlying3 (hval 1 3 v1 rfl rfl) h1
  clear hA0 hval0
  refine (walk a0 a1 W w0 (int_bounds w1)).mono fun e W' ⟨he, bel⟩ => ?_
  subst he
  exact ⟨_, rfl, _, _, _, [], _, [], hW', trodAll_mk1 (shut_bool Try.underlying4 _), (trodAll_cons_mk (shut_string Try.underlying9 w0) (trodAll_cons_mk (shut_int Try.underlying3 w1) trodAll_mk0)), rfl, bel.frame _, fun h => by cases h⟩

theorem over : Rows.fnExactAgreementAtRow.holds Try.pinned (OpenSpec.ofChange Rows.fnExactAgreementAtSpec) :=
  OpenClaim.holds_of_wide 6 Try.f6 rfl rfl rfl rfl rfl rfl rfl ⟨rfl, rfl, rfl, rfl, rfl⟩ rfl rfl rfl rfl rfl (by kernel_rfl) Try.func6 (by kernel_rfl)
    (of_decide_eq_true (by kernel_rfl)) (by unfold Func.isWrapper; first | (rw [if_pos (by decide +kernel)]; kernel_rfl) | (rw [if_neg (by decide +kernel)]; exact ⟨rfl, rfl⟩))
    (fun os started H enc _ => lifted os started H enc)

theorem proved : Rows.FnExactAgreementAtSaid := over
#print axioms proved
end Go.Proofs.Ythhbdlafdjmocaa.fnExactAgreementAt
