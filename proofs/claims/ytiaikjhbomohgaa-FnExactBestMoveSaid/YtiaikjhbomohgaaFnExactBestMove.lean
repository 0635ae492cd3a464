/- For every two ints the law FnExactBestMove returns true and leaves its arguments as they were; no condition. -/
import Derived.Test.YtiaikjhbomohgaaMove
namespace Go.Proofs.Ytiaikjhbomohgaa.fnExactBestMove
open Go.ChangeShapes Go.WideShapes Go.ChangeAt Go.RowKit
open Go.ChangeMaps (open_string shut_string)
set_option linter.unusedVariables false

set_option maxHeartbeats 400000 in
theorem walk (a b : Int) (w : World) (ha : I64 a) (hb : I64 b) :
    Calls Try.prog 4 #[.int .i64 a, .int .i64 b] w fun e w' => e = .returned (.bool true) ∧ Below w.heap.size w w' := by
  by_cases h : (0 ≤ a ∧ a ≤ 200) ∧ (0 ≤ b ∧ b ≤ 200)
  · obtain ⟨⟨h1, h2⟩, h3, h4⟩ := h
    clear ha hb
    obtain ⟨a, rfl⟩ := Int.eq_ofNat_of_zero_le h1
    obtain ⟨b, rfl⟩ := Int.eq_ofNat_of_zero_le h3
    have k1 : a ≤ 200 := by omega
    have k2 : b ≤ 200 := by omega
    obtain ⟨r, hr⟩ : ∃ r, bmY (a : Int) b b 1 = r := ⟨_, rfl⟩
    have cs := fun w => sBestMove_yes a b k1 k2 w
    have ci := fun w => iBestMove_yes a b k1 k2 w
    rw [bestMove_same] at cs
    rw [hr] at cs ci
    clear h1 h2 h3 h4 hr
    obtain ⟨x, y, z⟩ := r
    have CS := Lib.hid cs; have CI := Lib.hid ci; clear cs ci
    go_enter Try.func4, Try.ntmps4
    go_wp2_with fail
    refine (CS.out _).mono ?_
    rintro e w1 ⟨rfl, b1⟩
    unfold mvV
    go_wp2_with fail
    refine (CI.out _).mono ?_
    rintro e w2 ⟨rfl, b2⟩
    unfold mvV
    go_wp2_with fail
    go_ret
    exact ⟨rfl, b1.trans (b2.mono b1.size)⟩
  · have H := Lib.hid h; clear h ha hb
    go_enter Try.func4, Try.ntmps4
    go_wp2_with fail
    refine (sBestMove_no a b H.out _).mono ?_
    rintro e w1 ⟨rfl, b1⟩
    unfold mvV
    go_wp2_with fail
    refine (iBestMove_no a b H.out _).mono ?_
    rintro e w2 ⟨rfl, b2⟩
    unfold mvV
    go_wp2_with fail
    go_ret
    exact ⟨rfl, b1.trans (b2.mono b1.size)⟩


set_option maxRecDepth 100000 in
theorem lifted (os : Os) (started : os.Started) (H : Type) (enc : TypeId × Value → H) :
    ReturnsInHanded {} Try.checked os 4 .any (Rows.fnExactBestMoveSpec.pre6 enc Try.prog Try.f4 Rows.fnExactBestMoveRow.domain false) (Rows.fnExactBestMoveSpec.post enc Try.prog Try.f4 false true false false) := by
  refine returnsInHanded_of_change (C := Try.checked) own started (by kernel_rfl) Try.func4
    (ChangeSpec.witness6 (enc := enc) (C := Try.checked) false ⟨#[], #[.int .i64 0, .int .i64 0], []⟩ 8 (by kernel_rfl) (by kernel_rfl) (by kernel_rfl) (by kernel_rfl)) ?_
  intro W base args ds gs before hval0 hW hcnd _
  have hval : ∀ (j : Nat) t v, Try.f4.params[j]? = some t → args[j]? = some v → Value.okWide Try.prog W .any base t v := hval0
  have hW' := hW
  obtain ⟨p, q, hA0, hV, rfl, hfz, hnd⟩ := hW
  have hA : DataW.TrodAll enc Try.prog W 0 (fun _ => true) true Try.f4.params.toList args.toList ds p := hA0
  rw [Try.params4] at hA hval
  obtain ⟨v0, vs0, d0, ds0, p0, q0, hargs, rfl, rfl, h0, r0⟩ := trodAll_cons hA
  obtain ⟨v1, vs1, d1, ds1, p1, q1, rfl, rfl, rfl, h1, r1⟩ := trodAll_cons r0
  obtain ⟨rfl, rfl, rfl⟩ := trodAll_nil r1
  obtain rfl : args = #[v0, v1] := by cases args; simp_all
  obtain ⟨rfl, rfl⟩ := trodVars_none hV
  obtain ⟨a0, rfl, rfl, rfl, w0⟩ := open_int Try.underlying3 (hval 0 3 v0 rfl rfl) h0
  obtain ⟨a1, rfl, rfl, rfl, w1⟩ := open_int Try.underlying3 (hval 1 3 v1 rfl rfl) h1
  clear hA0 hval0
  refine (walk a0 a1 W (int_bounds w0) (int_bounds w1)).mono fun e W' ⟨he, bel⟩ => ?_
  subst he
  exact ⟨_, rfl, _, _, _, [], _, [], hW', trodAll_mk1 (shut_bool Try.underlying4 _), (trodAll_cons_mk (shut_int Try.underlying3 w0) (trodAll_cons_mk (shut_int Try.underlying3 w1) trodAll_mk0)), rfl, bel.frame _, fun h => by cases h⟩

theorem over : Rows.fnExactBestMoveRow.holds Try.pinned (OpenSpec.ofChange Rows.fnExactBestMoveSpec) :=
  OpenClaim.holds_of_wide 4 Try.f4 rfl rfl rfl rfl rfl rfl rfl ⟨rfl, rfl, rfl, rfl, rfl⟩ rfl rfl rfl rfl rfl (by kernel_rfl) Try.func4 (by kernel_rfl)
    (of_decide_eq_true (by kernel_rfl)) (by unfold Func.isWrapper; first | (rw [if_pos (by decide +kernel)]; kernel_rfl) | (rw [if_neg (by decide +kernel)]; exact ⟨rfl, rfl⟩))
    (fun os started H enc _ => lifted os started H enc)

theorem proved : Rows.FnExactBestMoveSaid := over
#print axioms proved
end Go.Proofs.Ytiaikjhbomohgaa.fnExactBestMove
