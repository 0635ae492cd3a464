/- For every string the law FnExactAgreementsOf returns true and leaves its argument as it was; no condition. -/
import Derived.Test.YtiaikjhbomohgaaAgr
namespace Go.Proofs.Ytiaikjhbomohgaa.fnExactAgreementsOf
open Go.ChangeShapes Go.WideShapes Go.ChangeAt Go.RowKit
open Go.ChangeMaps (open_string shut_string)
set_option linter.unusedVariables false

set_option maxHeartbeats 1000000 in
theorem walk (s : ByteArray) (w : World) (hs : s.size ≤ maxLen) :
    Calls Try.prog 3 #[.string s] w fun e w' => e = .returned (.bool true) ∧ Below w.heap.size w w' := by
  by_cases h1 : 1048576 < s.size
  · go_enter Try.func3, Try.ntmps3
    go_wp2_with fail
    go_ret
    exact ⟨rfl, Below.refl _ _⟩
  have hl := agrsL_length (L s)
  go_enter Try.func3, Try.ntmps3
  go_wp2_with fail
  refine (sAgreementsOf_any s hs _).mono ?_
  rintro e w1 ⟨A0, c0, rfl, o0, b0⟩
  go_wp2_with fail
  refine (iAgreementsOf_any s hs _).mono ?_
  rintro e w2 ⟨A1, c1, rfl, o1, b1⟩
  have s1 := b1.size
  go_wp2_with fail
  refine (eqIntS_same (agrsL (L s)) A1 A0 c1 c0 _ _ _ o1.reads (o0.below b1).reads (by omega)).mono ?_
  rintro e w3 ⟨rfl, d3⟩
  go_wp2_with fail
  refine (markIntS_any (agrsL (L s)) A1 c1 w1.heap.size 1 _ (by omega) (by omega) (o1.dr d3)).mono ?_
  rintro e w4 ⟨rfl, o4, b4, _⟩
  go_wp2_with fail
  refine (heldIntS_any (agrsL (L s)).length A1 c1 _ 1 _ (by omega) (by omega) o4.reads).mono ?_
  rintro e w5 ⟨rfl, d5⟩
  go_wp2_with fail
  refine (iAgreementsOf_any s hs _).mono ?_
  rintro e w6 ⟨A6, c6, rfl, o6, b6⟩
  go_wp2_with fail
  have r0 : Rds w6 w1.heap.size A0 ((agrsL (L s)).map (Value.int .i64)) := by
    have h1 : Rds w1 w1.heap.size A0 _ := o0.reads
    have h2 := (h1.below b1 (Nat.le_refl _)).dr d3
    have h3 := (h2.below b4 (Nat.le_refl _)).dr d5
    exact h3.below b6 (by have := b4.size; have := (d5.below (B := 0)).size; have := (d3.below (B := 0)).size; omega)
  refine (eqIntS_same (agrsL (L s)) A6 A0 c6 c0 _ _ _ o6.reads r0 (by omega)).mono ?_
  rintro e w7 ⟨rfl, d7⟩
  go_wp2_with fail
  refine (heldIntS_any (agrsL (L s)).length A1 c1 _ 1 _ (by omega) (by omega) (((o4.dr d5).below b6).dr d7).reads).mono ?_
  rintro e w8 ⟨rfl, d8⟩
  go_wp2_with fail
  go_ret
  refine ⟨rfl, ?_⟩
  have e1 := b0.size
  have e2 := (d3.below (B := 0)).size
  have e4 := b4.size
  have e5 := (d5.below (B := 0)).size
  exact (((((((b0.trans (b1.mono e1)).trans d3.below).trans (b4.mono e1)).trans d5.below).trans (b6.mono (by omega))).trans d7.below).trans d8.below)


set_option maxRecDepth 100000 in
theorem lifted (os : Os) (started : os.Started) (H : Type) (enc : TypeId × Value → H) :
    ReturnsInHanded {} Try.checked os 3 .any (Rows.fnExactAgreementsOfSpec.pre6 enc Try.prog Try.f3 Rows.fnExactAgreementsOfRow.domain false) (Rows.fnExactAgreementsOfSpec.post enc Try.prog Try.f3 false true false false) := by
  refine returnsInHanded_of_change (C := Try.checked) own started (by kernel_rfl) Try.func3
    (ChangeSpec.witness6 (enc := enc) (C := Try.checked) false ⟨#[], #[.string ByteArray.empty], []⟩ 8 (by kernel_rfl) (by kernel_rfl) (by kernel_rfl) (by kernel_rfl)) ?_
  intro W base args ds gs before hval0 hW hcnd _
  have hval : ∀ (j : Nat) t v, Try.f3.params[j]? = some t → args[j]? = some v → Value.okWide Try.prog W .any base t v := hval0
  have hW' := hW
  obtain ⟨p, q, hA0, hV, rfl, hfz, hnd⟩ := hW
  have hA : DataW.TrodAll enc Try.prog W 0 (fun _ => true) true Try.f3.params.toList args.toList ds p := hA0
  rw [Try.params3] at hA hval
  obtain ⟨v0, vs0, d0, ds0, p0, q0, hargs, rfl, rfl, h0, r0⟩ := trodAll_cons hA
  obtain ⟨rfl, rfl, rfl⟩ := trodAll_nil r0
  obtain rfl : args = #[v0] := by cases args; simp_all
  obtain ⟨rfl, rfl⟩ := trodVars_none hV
  obtain ⟨a0, rfl, rfl, rfl, w0⟩ := open_string Try.underlying9 (hval 0 9 v0 rfl rfl) h0
  clear hA0 hval0
  refine (walk a0 W w0).mono fun e W' ⟨he, bel⟩ => ?_
  subst he
  exact ⟨_, rfl, _, _, _, [], _, [], hW', trodAll_mk1 (shut_bool Try.underlying4 _), (trodAll_cons_mk (shut_string Try.underlying9 w0) trodAll_mk0), rfl, bel.frame _, fun h => by cases h⟩

theorem over : Rows.fnExactAgreementsOfRow.holds Try.pinned (OpenSpec.ofChange Rows.fnExactAgreementsOfSpec) :=
  OpenClaim.holds_of_wide 3 Try.f3 rfl rfl rfl rfl rfl rfl rfl ⟨rfl, rfl, rfl, rfl, rfl⟩ rfl rfl rfl rfl rfl (by kernel_rfl) Try.func3 (by kernel_rfl)
    (of_decide_eq_true (by kernel_rfl)) (by unfold Func.isWrapper; first | (rw [if_pos (by decide +kernel)]; kernel_rfl) | (rw [if_neg (by decide +kernel)]; exact ⟨rfl, rfl⟩))
    (fun os started H enc _ => lifted os started H enc)

theorem proved : Rows.FnExactAgreementsOfSaid := over
#print axioms proved
end Go.Proofs.Ytiaikjhbomohgaa.fnExactAgreementsOf
