/- For every slice of strings the law FnExactRuleLine returns true and leaves its argument as it was; no condition. -/
import Derived.Test.YtcgomfbbbnfmnaaRul
import Derived.Test.YtcgomfbbbnfmnaaHelp
namespace Go.Proofs.Ytcgomfbbbnfmnaa.fnExactRuleLine
open Go.ChangeShapes Go.WideShapes Go.ChangeAt Go.RowKit
open Go.ChangeMaps (open_string shut_string)
set_option linter.unusedVariables false

set_option maxHeartbeats 1000000 in
theorem walk (A : Option Addr) (n c : Nat) (zs : List ByteArray) (w : World) (h : StrsIn w A n c zs) :
    Calls Try.prog 7 #[.slice A n c] w fun e w' => e = .returned (.bool true) ∧ Below w.heap.size w w' := by
  have hl : zs.length = n := h.1
  subst hl
  have hc63 : zs.length ≤ 9223372036854775807 := by have h1 := h.2.1; have h2 := h.2.2.1; unfold maxLen at h2; omega
  by_cases hz : szS zs 1048576 < 0
  · go_enter Try.func7, Try.ntmps7
    go_wp2_with fail
    refine (szStringS_any zs A _ c 1048576 _ (by omega) (by omega) h).mono ?_
    rintro e w1 ⟨rfl, d1⟩
    go_wp2_with fail
    go_ret
    exact ⟨rfl, d1.below⟩
  · have hn := szS_len hz
    have hn2 : zs.length ≤ 1048576 := by omega
    go_enter Try.func7, Try.ntmps7
    go_wp2_with fail
    refine (szStringS_any zs A _ c 1048576 _ (by omega) (by omega) h).mono ?_
    rintro e w0 ⟨rfl, d0⟩
    have h0 := h.dr d0
    have z0 := (d0.below (B := 0)).size
    go_wp2_with fail
    refine (toStringS_any zs A _ c _ hn2 h0).mono ?_
    rintro e w1 ⟨A1, c1, rfl, o1, b1⟩
    have h1 := h0.later b1
    have z1 := b1.size
    go_wp2_with fail
    refine (sRln_any zs A1 c1 _ _ (Nat.le_refl _) (by omega) h.2.2.2.1 o1.reads).mono ?_
    rintro e w2 ⟨rfl, b2⟩
    have h2 := h1.later b2
    have z2 := b2.size
    go_wp2_with fail
    refine (toStringS_any zs A _ c _ hn2 h2).mono ?_
    rintro e w3 ⟨A3, c3, rfl, o3, b3⟩
    have h3 := h2.later b3
    have z3 := b3.size
    go_wp2_with fail
    refine (iRln_any zs A3 c3 _ _ (Nat.le_refl _) (by omega) h.2.2.2.1 o3.reads).mono ?_
    rintro e w4 ⟨rfl, b4⟩
    have h4 := h3.later b4
    have z4 := b4.size
    have heq : ((rlnV zs).toList == (rlnV zs).toList) = true := by simp
    go_wp2_with fail
    refine (toStringS_any zs A _ c _ hn2 h4).mono ?_
    rintro e w5 ⟨A5, c5, rfl, o5, b5⟩
    go_wp2_with fail
    refine (eqStringS_same zs A3 A5 c3 c5 _ _ _ ((o3.below b4).below b5).reads o5.reads (by omega)).mono ?_
    rintro e w6 ⟨rfl, d6⟩
    go_wp2_with fail
    go_ret
    exact ⟨rfl, d0.below.trans ((((((b1.trans (b2.mono (by omega))).trans (b3.mono (by omega))).trans (b4.mono (by omega))).trans (b5.mono (by omega))).trans d6.below).mono z0)⟩

set_option maxRecDepth 100000 in
theorem lifted (os : Os) (started : os.Started) (H : Type) (enc : TypeId × Value → H) :
    ReturnsInHanded {} Try.checked os 7 .any (Rows.fnExactRuleLineSpec.pre6 enc Try.prog Try.f7 Rows.fnExactRuleLineRow.domain false) (Rows.fnExactRuleLineSpec.post enc Try.prog Try.f7 false true false false) := by
  refine returnsInHanded_of_change (C := Try.checked) own started (by kernel_rfl) Try.func7
    (ChangeSpec.witness6 (enc := enc) (C := Try.checked) false ⟨#[], #[.slice none 0 0], []⟩ 8 (by kernel_rfl) (by kernel_rfl) (by kernel_rfl) (by kernel_rfl)) ?_
  intro W base args ds gs before hval0 hW hcnd _
  have hval : ∀ (j : Nat) t v, Try.f7.params[j]? = some t → args[j]? = some v → Value.okWide Try.prog W .any base t v := hval0
  have hW' := hW
  obtain ⟨p, q, hA0, hV, rfl, hfz, hnd⟩ := hW
  have hA : DataW.TrodAll enc Try.prog W 0 (fun _ => true) true Try.f7.params.toList args.toList ds p := hA0
  rw [Try.params7] at hA hval
  obtain ⟨v0, vs0, d0, ds0, p0, q0, hargs, rfl, rfl, h0, r0⟩ := trodAll_cons hA
  obtain ⟨rfl, rfl, rfl⟩ := trodAll_nil r0
  obtain rfl : args = #[v0] := by cases args; simp_all
  obtain ⟨rfl, rfl⟩ := trodVars_none hV
  obtain ⟨s0, len0, cap0, rfl⟩ := okWide_slice Try.underlying24 (hval 0 24 v0 rfl rfl)
  have k0 := h0
  have lt0 : ∀ x ∈ p0, x.block < W.heap.size := by obtain ⟨m, hm⟩ := k0; exact DataW.trod_lt m _ _ _ hm
  obtain ⟨z0, w0⟩ : ∃ zs, StrsIn W s0 len0 cap0 zs := strs_in Try.underlying24 Try.underlying9 (by kernel_rfl) h0 lt0
  clear hA0 hval0
  refine (walk s0 len0 cap0 z0 W w0).mono fun e W' ⟨he, bel⟩ => ?_
  subst he
  exact ⟨_, rfl, _, _, _, [], _, [], hW', trodAll_mk1 (shut_bool Try.underlying4 _), (trodAll_cons_mk (Below.trod laidOut (by kernel_rfl) (of_decide_eq_true (by kernel_rfl)) k0 bel lt0) trodAll_mk0), rfl, bel.frame _, fun h => by cases h⟩

theorem over : Rows.fnExactRuleLineRow.holds Try.pinned (OpenSpec.ofChange Rows.fnExactRuleLineSpec) :=
  OpenClaim.holds_of_wide 7 Try.f7 rfl rfl rfl rfl rfl rfl rfl ⟨rfl, rfl, rfl, rfl, rfl⟩ rfl rfl rfl rfl rfl (by kernel_rfl) Try.func7 (by kernel_rfl)
    (of_decide_eq_true (by kernel_rfl)) (by unfold Func.isWrapper; first | (rw [if_pos (by decide +kernel)]; kernel_rfl) | (rw [if_neg (by decide +kernel)]; exact ⟨rfl, rfl⟩))
    (fun os started H enc _ => lifted os started H enc)

theorem proved : Rows.FnExactRuleLineSaid := over
#print axioms proved
end Go.Proofs.Ytcgomfbbbnfmnaa.fnExactRuleLine
