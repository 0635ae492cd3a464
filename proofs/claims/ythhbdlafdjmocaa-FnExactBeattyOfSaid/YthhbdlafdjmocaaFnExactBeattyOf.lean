/- For every three ints the law FnExactBeattyOf returns true and leaves its arguments as they were; no condition. -/
import Derived.Test.YthhbdlafdjmocaaBeat
namespace Go.Proofs.Ythhbdlafdjmocaa.fnExactBeattyOf
open Go.ChangeShapes Go.WideShapes Go.ChangeAt Go.RowKit
open Go.ChangeMaps (open_string shut_string)
set_option linter.unusedVariables false

set_option maxHeartbeats 1000000 in
theorem walk (p q n : Int) (w : World) (hp : I64 p) (hq : I64 q) (hn : I64 n) :
    Calls Try.prog 5 #[.int .i64 p, .int .i64 q, .int .i64 n] w fun e w' => e = .returned (.bool true) ∧ Below w.heap.size w w' := by
  have hl := btyL_length p q n
  clear hp hq hn
  go_enter Try.func5, Try.ntmps5
  go_wp2_with fail
  refine (sBeattyOf_any p q n _).mono ?_
  rintro e w1 ⟨A0, c0, rfl, o0, b0⟩
  go_wp2_with fail
  refine (iBeattyOf_any p q n _).mono ?_
  rintro e w2 ⟨A1, c1, rfl, o1, b1⟩
  have s1 := b1.size
  go_wp2_with fail
  refine (eqIntS_same (btyL p q n) A1 A0 c1 c0 _ _ _ o1.reads (o0.below b1).reads (by omega)).mono ?_
  rintro e w3 ⟨rfl, d3⟩
  go_wp2_with fail
  refine (markIntS_any (btyL p q n) A1 c1 w1.heap.size 1 _ (by omega) (by omega) (o1.dr d3)).mono ?_
  rintro e w4 ⟨rfl, o4, b4, _⟩
  go_wp2_with fail
  refine (heldIntS_any (btyL p q n).length A1 c1 _ 1 _ (by omega) (by omega) o4.reads).mono ?_
  rintro e w5 ⟨rfl, d5⟩
  go_wp2_with fail
  refine (iBeattyOf_any p q n _).mono ?_
  rintro e w6 ⟨A6, c6, rfl, o6, b6⟩
  go_wp2_with fail
  have r0 : Rds w6 w1.heap.size A0 ((btyL p q n).map (Value.int .i64)) := by
    have h1 : Rds w1 w1.heap.size A0 _ := o0.reads
    have h2 := (h1.below b1 (Nat.le_refl _)).dr d3
    have h3 := (h2.below b4 (Nat.le_refl _)).dr d5
    exact h3.below b6 (by have := b4.size; have := (d5.below (B := 0)).size; have := (d3.below (B := 0)).size; omega)
  refine (eqIntS_same (btyL p q n) A6 A0 c6 c0 _ _ _ o6.reads r0 (by omega)).mono ?_
  rintro e w7 ⟨rfl, d7⟩
  go_wp2_with fail
  refine (heldIntS_any (btyL p q n).length A1 c1 _ 1 _ (by omega) (by omega) (((o4.dr d5).below b6).dr d7).reads).mono ?_
  rintro e w8 ⟨rfl, d8⟩
  go_wp2_with fail
  go_ret
  refine ⟨rfl, ?_⟩
  have e1 := b0.size
  have e2 := (d3.below (B := 0)).size
  have e4 := b4.size
  have e5 := (d5.below (B := 0)).size
  exact (((((((b0.trans (b1.mono e1)).trans d3.below).trans (b4.mono e1)).trans d5.below).trans (b6.mono (by omega))).trans d7.below).trans d8.below)


set_option maxRecDepth 100000 in
theorem lifted (os : Os) (started : os.Started) (H : Type) (enc : TypeId × Value → H) :
    ReturnsInHanded {} Try.checked os 5 .any (Rows.fnExactBeattyOfSpec.pre6 enc Try.prog Try.f5 Rows.fnExactBeattyOfRow.domain false) (Rows.fnExactBeattyOfSpec.post enc Try.prog Try.f5 false true false false) := by
  refine returnsInHanded_of_change (C := Try.checked) own started (by kernel_rfl) Try.func5
    (ChangeSpec.witness6 (enc := enc) (C := Try.checked) false ⟨#[], #[.int .i64 0, .int .i64 0, .int .i64 0], []⟩ 8 (by kernel_rfl) (by kernel_rfl) (by kernel_rfl) (by kernel_rfl)) ?_
  intro W base args ds gs before hval0 hW hcnd _
  have hval : ∀ (j : Nat) t v, Try.f5.params[j]? = some t → args[j]? = some v → Value.okWide Try.prog W .any base t v := hval0
  have hW' := hW
  obtain ⟨p, q, hA0, hV, rfl, hfz, hnd⟩ := hW
  have hA : DataW.TrodAll enc Try.prog W 0 (fun _ => true) true Try.f5.params.toList args.toList ds p := hA0
  rw [Try.params5] at hA hval
  obtain ⟨v0, vs0, d0, ds0, p0, q0, hargs, rfl, rfl, h0, r0⟩ := trodAll_cons hA
  obtain ⟨v1, vs1, d1, ds1, p1, q1, rfl, rfl, rfl, h1, r1⟩ := trodAll_cons r0
  obtain ⟨v2, vs2, d2, ds2, p2, q2, rfl, rfl, rfl, h2, r2⟩ := trodAll_cons r1
  obtain ⟨rfl, rfl, rfl⟩ := trodAll_nil r2
  obtain rfl : args = #[v0, v1, v2] := by cases args; simp_all
  obtain ⟨rfl, rfl⟩ := trodVars_none hV
  obtain ⟨a0, rfl, rfl, rfl, w0⟩ := open_int Try.underlying3 (hval 0 3 v0 rfl rfl) h0
  obtain ⟨a1, rfl, rfl, rfl, w1⟩ := open_int Try.underlying3 (hval 1 3 v1 rfl rfl) h1
  obtain ⟨a2, rfl, rfl, rfl, w2⟩ := open_int Try.underlying3 (hval 2 3 v2 rfl rfl) h2
  clear hA0 hval0
  refine (walk a0 a1 a2 W (int_bounds w0) (int_bounds w1) (int_bounds w2)).mono fun e W' ⟨he, bel⟩ => ?_
  subst he
  exact ⟨_, rfl, _, _, _, [], _, [], hW', trodAll_mk1 (shut_bool Try.underlying4 _), (trodAll_cons_mk (shut_int Try.underlying3 w0) (trodAll_cons_mk (shut_int Try.underlying3 w1) (trodAll_cons_mk (shut_int Try.underlying3 w2) trodAll_mk0))), rfl, bel.frame _, fun h => by cases h⟩

theorem over : Rows.fnExactBeattyOfRow.holds Try.pinned (OpenSpec.ofChange Rows.fnExactBeattyOfSpec) :=
  OpenClaim.holds_of_wide 5 Try.f5 rfl rfl rfl rfl rfl rfl rfl ⟨rfl, rfl, rfl, rfl, rfl⟩ rfl rfl rfl rfl rfl (by kernel_rfl) Try.func5 (by kernel_rfl)
    (of_decide_eq_true (by kernel_rfl)) (by unfold Func.isWrapper; first | (rw [if_pos (by decide +kernel)]; kernel_rfl) | (rw [if_neg (by decide +kernel)]; exact ⟨rfl, rfl⟩))
    (fun os started H enc _ => lifted os started H enc)

theorem proved : Rows.FnExactBeattyOfSaid := over
#print axioms proved
end Go.Proofs.Ythhbdlafdjmocaa.fnExactBeattyOf
