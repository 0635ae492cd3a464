/- For every slice of ints and every int the law FnExactMissedBy returns true and leaves its arguments as they were; no condition. -/
import Derived.Test.YthhbdlafdjmocaaMiss
namespace Go.Proofs.Ythhbdlafdjmocaa.fnExactMissedBy
open Go.ChangeShapes Go.WideShapes Go.ChangeAt Go.RowKit
open Go.ChangeMaps (open_string shut_string)
set_option linter.unusedVariables false

set_option maxHeartbeats 1000000 in
theorem walk (A : Option Addr) (n c : Nat) (zs : List Int) (m : Int) (w : World) (h : IntsIn w A n c zs) (hm : I64 m) :
    Calls Try.prog 14 #[.slice A n c, .int .i64 m] w fun e w' => e = .returned (.bool true) ∧ Below w.heap.size w w' := by
  have hl : zs.length = n := h.1
  subst hl
  have hc63 : zs.length ≤ 9223372036854775807 := by have h1 := h.2.1; have h2 := h.2.2.1; unfold maxLen at h2; omega
  clear hm
  by_cases hz : 1048576 < zs.length
  · go_enter Try.func14, Try.ntmps14
    go_wp2_with fail
    go_ret
    exact ⟨rfl, Below.refl _ _⟩
  · have hn2 : zs.length ≤ 1048576 := by omega
    have hml := msdL_length zs m
    go_enter Try.func14, Try.ntmps14
    go_wp2_with fail
    refine (toIntS_any zs A _ c _ hn2 h).mono ?_
    rintro e w1 ⟨A1, c1, rfl, o1, b1⟩
    have h1 := h.later b1
    have z1 := b1.size
    go_wp2_with fail
    refine (sMissedBy_any zs m A1 c1 _ (by omega) o1.reads).mono ?_
    rintro e w2 ⟨A2, c2, rfl, o2, b2⟩
    have h2 := h1.later b2
    have z2 := b2.size
    go_wp2_with fail
    refine (toIntS_any zs A _ c _ hn2 h2).mono ?_
    rintro e w3 ⟨A3, c3, rfl, o3, b3⟩
    have h3 := h2.later b3
    have z3 := b3.size
    go_wp2_with fail
    refine (iMissedBy_any zs m A3 c3 _ (by omega) o3.reads).mono ?_
    rintro e w4 ⟨A4, c4, rfl, o4, b4⟩
    have h4 := h3.later b4
    have z4 := b4.size
    go_wp2_with fail
    refine (eqIntS_same (msdL zs m) A4 A2 c4 c2 _ _ _ o4.reads ((o2.below b3).below b4).reads (by omega)).mono ?_
    rintro e w5 ⟨rfl, d5⟩
    have h5 := h4.dr d5
    have z5 := (d5.below (B := 0)).size
    go_wp2_with fail
    refine (toIntS_any zs A _ c _ hn2 h5).mono ?_
    rintro e w6 ⟨A6, c6, rfl, o6, b6⟩
    have h6 := h5.later b6
    have z6 := b6.size
    go_wp2_with fail
    refine (eqIntS_same zs A3 A6 c3 c6 _ _ _ (((o3.below b4).dr d5).below b6).reads o6.reads (by omega)).mono ?_
    rintro e w7 ⟨rfl, d7⟩
    have h7 := h6.dr d7
    have z7 := (d7.below (B := 0)).size
    go_wp2_with fail
    refine (markIntS_any zs A3 c3 w2.heap.size 1 _ (by omega) (by omega) ((((o3.below b4).dr d5).below b6).dr d7)).mono ?_
    rintro e w8 ⟨rfl, o8, b8, g8⟩
    have z8 := b8.size
    have o48 : Own w8 w3.heap.size 3 (.slice A4 (msdL zs m).length c4) _ := o3.apart (((o4.dr d5).below b6).dr d7) (Nat.le_refl _) g8
    have o28 : Own w8 w1.heap.size 3 (.slice A2 (msdL zs m).length c2) _ := o3.apart' o2 (((((o2.below b3).below b4).dr d5).below b6).dr d7) (Nat.le_refl _) g8
    go_wp2_with fail
    refine (eqIntS_same (msdL zs m) A4 A2 c4 c2 _ _ _ o48.reads o28.reads (by omega)).mono ?_
    rintro e w9 ⟨rfl, d9⟩
    have z9 := (d9.below (B := 0)).size
    go_wp2_with fail
    refine (markIntS_any (msdL zs m) A4 c4 w3.heap.size 1 _ (by omega) (by omega) (o48.dr d9)).mono ?_
    rintro e w10 ⟨rfl, o10, b10, g10⟩
    have z10 := b10.size
    have o210 : Own w10 w1.heap.size 3 (.slice A2 (msdL zs m).length c2) _ := o4.apart' o2 (o28.dr d9) (by omega) g10
    go_wp2_with fail
    refine (heldIntS_any (msdL zs m).length A4 c4 _ 1 _ (by omega) (by omega) o10.reads).mono ?_
    rintro e w11 ⟨rfl, d11⟩
    have z11 := (d11.below (B := 0)).size
    have k8 : Below w.heap.size w w8 := by
      have t1 : Below w.heap.size w w4 := ((b1.trans (b2.mono z1)).trans (b3.mono (by omega))).trans (b4.mono (by omega))
      exact (((t1.trans d5.below).trans (b6.mono (by omega))).trans d7.below).trans (b8.mono (by omega))
    have k11 : Below w.heap.size w w11 := ((k8.trans d9.below).trans (b10.mono (by omega))).trans d11.below
    have h11 := h.later k11
    go_wp2_with fail
    refine (toIntS_any zs A _ c _ hn2 h11).mono ?_
    rintro e w12 ⟨A12, c12, rfl, o12, b12⟩
    have z12 := b12.size
    go_wp2_with fail
    refine (iMissedBy_any zs m A12 c12 _ (by omega) o12.reads).mono ?_
    rintro e w13 ⟨A13, c13, rfl, o13, b13⟩
    go_wp2_with fail
    refine (eqIntS_same (msdL zs m) A13 A2 c13 c2 _ _ _ o13.reads (((o210.dr d11).below b12).below b13).reads (by omega)).mono ?_
    rintro e w14 ⟨rfl, d14⟩
    go_wp2_with fail
    refine (heldIntS_any (msdL zs m).length A4 c4 _ 1 _ (by omega) (by omega) ((((o10.dr d11).below b12).below b13).dr d14).reads).mono ?_
    rintro e w15 ⟨rfl, d15⟩
    go_wp2_with fail
    go_ret
    exact ⟨rfl, (((k11.trans (b12.mono (by omega))).trans (b13.mono (by omega))).trans d14.below).trans d15.below⟩


set_option maxRecDepth 100000 in
theorem lifted (os : Os) (started : os.Started) (H : Type) (enc : TypeId × Value → H) :
    ReturnsInHanded {} Try.checked os 14 .any (Rows.fnExactMissedBySpec.pre6 enc Try.prog Try.f14 Rows.fnExactMissedByRow.domain false) (Rows.fnExactMissedBySpec.post enc Try.prog Try.f14 false true false false) := by
  refine returnsInHanded_of_change (C := Try.checked) own started (by kernel_rfl) Try.func14
    (ChangeSpec.witness6 (enc := enc) (C := Try.checked) false ⟨#[], #[.slice none 0 0, .int .i64 0], []⟩ 8 (by kernel_rfl) (by kernel_rfl) (by kernel_rfl) (by kernel_rfl)) ?_
  intro W base args ds gs before hval0 hW hcnd _
  have hval : ∀ (j : Nat) t v, Try.f14.params[j]? = some t → args[j]? = some v → Value.okWide Try.prog W .any base t v := hval0
  have hW' := hW
  obtain ⟨p, q, hA0, hV, rfl, hfz, hnd⟩ := hW
  have hA : DataW.TrodAll enc Try.prog W 0 (fun _ => true) true Try.f14.params.toList args.toList ds p := hA0
  rw [Try.params14] at hA hval
  obtain ⟨v0, vs0, d0, ds0, p0, q0, hargs, rfl, rfl, h0, r0⟩ := trodAll_cons hA
  obtain ⟨v1, vs1, d1, ds1, p1, q1, rfl, rfl, rfl, h1, r1⟩ := trodAll_cons r0
  obtain ⟨rfl, rfl, rfl⟩ := trodAll_nil r1
  obtain rfl : args = #[v0, v1] := by cases args; simp_all
  obtain ⟨rfl, rfl⟩ := trodVars_none hV
  obtain ⟨s0, len0, cap0, rfl⟩ := okWide_slice Try.underlying27 (hval 0 27 v0 rfl rfl)
  have k0 := h0
  have lt0 : ∀ x ∈ p0, x.block < W.heap.size := by obtain ⟨m, hm⟩ := k0; exact DataW.trod_lt m _ _ _ hm
  obtain ⟨z0, w0⟩ : ∃ zs, IntsIn W s0 len0 cap0 zs := ints_in Try.underlying27 Try.underlying3 (by kernel_rfl) h0 lt0
  obtain ⟨a1, rfl, rfl, rfl, w1⟩ := open_int Try.underlying3 (hval 1 3 v1 rfl rfl) h1
  clear hA0 hval0
  refine (walk s0 len0 cap0 z0 a1 W w0 (int_bounds w1)).mono fun e W' ⟨he, bel⟩ => ?_
  subst he
  exact ⟨_, rfl, _, _, _, [], _, [], hW', trodAll_mk1 (shut_bool Try.underlying4 _), (trodAll_cons_mk (Below.trod laidOut (by kernel_rfl) (of_decide_eq_true (by kernel_rfl)) k0 bel lt0) (trodAll_cons_mk (shut_int Try.underlying3 w1) trodAll_mk0)), rfl, bel.frame _, fun h => by cases h⟩

theorem over : Rows.fnExactMissedByRow.holds Try.pinned (OpenSpec.ofChange Rows.fnExactMissedBySpec) :=
  OpenClaim.holds_of_wide 14 Try.f14 rfl rfl rfl rfl rfl rfl rfl ⟨rfl, rfl, rfl, rfl, rfl⟩ rfl rfl rfl rfl rfl (by kernel_rfl) Try.func14 (by kernel_rfl)
    (of_decide_eq_true (by kernel_rfl)) (by unfold Func.isWrapper; first | (rw [if_pos (by decide +kernel)]; kernel_rfl) | (rw [if_neg (by decide +kernel)]; exact ⟨rfl, rfl⟩))
    (fun os started H enc _ => lifted os started H enc)

theorem proved : Rows.FnExactMissedBySaid := over
#print axioms proved
end Go.Proofs.Ythhbdlafdjmocaa.fnExactMissedBy
