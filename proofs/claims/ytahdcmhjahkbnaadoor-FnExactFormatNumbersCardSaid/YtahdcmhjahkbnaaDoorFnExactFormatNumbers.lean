/- For every slice of integers the law FnExactFormatNumbers returns true and leaves its argument as it was; no condition; the listed variables are the library's tables, tied. -/
import Derived.Test.YtahdcmhjahkbnaaDoorFnm
import Derived.Test.YtahdcmhjahkbnaaDoorHelp
import Derived.Test.YtahdcmhjahkbnaaDoorTbl
import Derived.Test.YtahdcmhjahkbnaaDoorTie
import Derived.Test.YtahdcmhjahkbnaaDoorCards
import Derived.Lay
import Derived.LaidLaws
import Derived.SevenTiedAt
import Derived.LaidMore
namespace Go.Proofs.YtahdcmhjahkbnaaDoor.fnExactFormatNumbers
open Go.ChangeShapes Go.WideShapes Go.ChangeAt Go.RowKit
open Go.ChangeMaps (open_string shut_string)
set_option linter.unusedVariables false

set_option maxHeartbeats 1000000 in
theorem walk (A : Option Addr) (n c : Nat) (zs : List Int) (w : World) (h : IntsIn w A n c zs) (hL : laidMet Tryd.prog Rows.fnExactFormatNumbersRow.laid w) :
    Calls Tryd.prog 4 #[.slice A n c] w fun e w' => e = .returned (.bool true) ∧ Below w.heap.size w w' := by
  have hl : zs.length = n := h.1
  subst hl
  have t0 := Lib.hid (TB.of hL)
  clear hL
  have hc63 : zs.length ≤ 9223372036854775807 := by have h1 := h.2.1; have h2 := h.2.2.1; unfold maxLen at h2; omega
  by_cases hbig : 1048576 < zs.length
  · go_enter Tryd.func4, Tryd.ntmps4
    go_wp2_with fail
    go_ret
    exact ⟨rfl, Below.refl _ _⟩
  · go_enter Tryd.func4, Tryd.ntmps4
    go_wp2_with fail
    refine (toIntS_any zs A _ c _ (by omega) h).mono ?_
    rintro e w1 ⟨A1, c1, rfl, o1, b1⟩
    have z1 := b1.size
    have t1 := Lib.hid (t0.out.below b1)
    have h1 := h.later b1
    go_wp2_with fail
    refine (sFnm_any zs A1 c1 _ _ (Nat.le_refl _) h.2.2.2.1 o1.reads hc63).mono ?_
    rintro e w2 ⟨rfl, b2⟩
    have z2 := b2.size
    have t2 := Lib.hid (t1.out.below b2)
    have h2 := h1.later b2
    go_wp2_with fail
    refine (toIntS_any zs A _ c _ (by omega) h2).mono ?_
    rintro e w3 ⟨A3, c3, rfl, o3, b3⟩
    have z3 := b3.size
    have t3 := Lib.hid (t2.out.below b3)
    have h3 := h2.later b3
    go_wp2_with fail
    refine (iFnm_any zs A3 c3 _ _ (Nat.le_refl _) h.2.2.2.1 o3.reads hc63 t3.out).mono ?_
    rintro e w4 ⟨rfl, b4⟩
    have z4 := b4.size
    have h4 := h3.later b4
    have heq : ((fnmV zs).toList == (fnmV zs).toList) = true := by simp
    go_wp2_with fail
    refine (toIntS_any zs A _ c _ (by omega) h4).mono ?_
    rintro e w5 ⟨A5, c5, rfl, o5, b5⟩
    have z5 := b5.size
    go_wp2_with fail
    refine (eqIntS_same zs A3 A5 c3 c5 _ _ _ ((o3.below b4).below b5).reads o5.reads (by omega)).mono ?_
    rintro e w6 ⟨rfl, d6⟩
    go_wp2_with fail
    go_ret
    exact ⟨rfl, ((((b1.trans (b2.mono (by omega))).trans (b3.mono (by omega))).trans (b4.mono (by omega))).trans (b5.mono (by omega))).trans d6.below⟩

set_option maxRecDepth 100000 in
theorem lifted (os : Os) (started : os.Started) (H : Type) (enc : TypeId × Value → H) :
    ReturnsInHanded {} Tryd.checked os 4 .any (fun w args => (Rows.fnExactFormatNumbersSpec.pre enc Tryd.prog Tryd.f4 [] false w args ∧ laidMetH Tryd.prog Rows.fnExactFormatNumbersRow.laid w) ∧ sizedMet enc Tryd.prog Tryd.f4 (OpenSpec.ofChange Rows.fnExactFormatNumbersSpec) false w args) (Rows.fnExactFormatNumbersSpec.post enc Tryd.prog Tryd.f4 false true false false) := by
  refine returnsInHanded_of_change_and (C := Tryd.checked) (X := fun w _ => laidMetH Tryd.prog Rows.fnExactFormatNumbersRow.laid w) (fun _ _ _ hh h => h.of_heap hh) own started (by kernel_rfl) Tryd.func4
    (ChangeSpec.witness_shaped (enc := enc) (C := Tryd.checked) (os := os) (X := fun w _ => laidMetH Tryd.prog Rows.fnExactFormatNumbersRow.laid w) false (World.laidAll Tryd.prog os Rows.fnExactFormatNumbersRow.laid) #[.slice none 0 0] 8 (World.laidAll_os _ _ _)
      (World.shaped_of_ZipB (by kernel_rfl) (by kernel_rfl)) (by kernel_rfl) (by kernel_rfl) (by kernel_rfl)
      (by rw [MakeChecks.laidMetH_plain _ _ _ (by kernel_rfl)]; exact laidMet_laidAll _ (by kernel_rfl) (by kernel_rfl))) ?_
  intro W base args ds gs before hval0 hW _ _ hL _
  rw [MakeChecks.laidMetH_plain _ _ _ (by kernel_rfl)] at hL
  have hval : ∀ (j : Nat) t v, Tryd.f4.params[j]? = some t → args[j]? = some v → Value.okWide Tryd.prog W .any base t v := hval0
  have hW' := hW
  obtain ⟨p, q, hA0, hV, rfl, hfz, hnd⟩ := hW
  have hA : DataW.TrodAll enc Tryd.prog W 0 (fun _ => true) true Tryd.f4.params.toList args.toList ds p := hA0
  rw [Tryd.params4] at hA hval
  obtain ⟨v0, vs0, d0, ds0, p0, q0, hargs, rfl, rfl, h0, r0⟩ := trodAll_cons hA
  obtain ⟨rfl, rfl, rfl⟩ := trodAll_nil r0
  obtain rfl : args = #[v0] := by cases args; simp_all
  obtain ⟨rfl, rfl⟩ := trodVars_none hV
  obtain ⟨s0, len0, cap0, rfl⟩ := okWide_slice Tryd.underlying28 (hval 0 28 v0 rfl rfl)
  have k0 := h0
  have lt0 : ∀ x ∈ p0, x.block < W.heap.size := by obtain ⟨m, hm⟩ := k0; exact DataW.trod_lt m _ _ _ hm
  obtain ⟨z0, w0⟩ : ∃ zs, IntsIn W s0 len0 cap0 zs := ints_in Tryd.underlying28 Tryd.underlying3 (by kernel_rfl) h0 lt0
  clear hA0 hval0
  refine (walk s0 len0 cap0 z0 W w0 hL).mono fun e W' ⟨he, bel⟩ => ?_
  subst he
  exact ⟨_, rfl, _, _, _, [], _, [], hW', trodAll_mk1 (shut_bool Tryd.underlying4 _), (trodAll_cons_mk (Below.trod laidOut (by kernel_rfl) (of_decide_eq_true (by kernel_rfl)) k0 bel lt0) trodAll_mk0), rfl, bel.frame _, fun h => by cases h⟩

theorem over : Rows.fnExactFormatNumbersRow.holds Tryd.pinned (OpenSpec.ofChange Rows.fnExactFormatNumbersSpec) :=
  OpenClaim.holds_of_wide 4 Tryd.f4 rfl rfl rfl rfl rfl rfl rfl ⟨rfl, rfl, rfl, rfl, rfl⟩ rfl rfl rfl rfl rfl (by kernel_rfl) Tryd.func4 (by kernel_rfl)
    (of_decide_eq_true (by kernel_rfl)) (by unfold Func.isWrapper; first | (rw [if_pos (by decide +kernel)]; kernel_rfl) | (rw [if_neg (by decide +kernel)]; exact ⟨rfl, rfl⟩))
    (fun os started H enc _ => lifted os started H enc)

theorem proved : Rows.FnExactFormatNumbersCardSaid :=
  Claim7.holds_tied_plain_at .later [] _ true _ false over (fun _ h => by cases h) (by kernel_rfl) (fun _ h => by cases h) fnExactFormatNumbers_row_tie rfl ⟨rfl, rfl⟩ (by kernel_rfl) rfl
    (fun f fn hf hfn => by
      obtain rfl : f = 4 := Option.some.inj ((show Tryd.prog.funcNamed "loop.example/g03209/laws.FnExactFormatNumbers" = some 4 by kernel_rfl).symm.trans hf) |>.symm
      obtain rfl : fn = Tryd.f4 := (Option.some.inj (Tryd.func4.symm.trans hfn)).symm
      exact ⟨by kernel_rfl, fun j t ht => by
        rw [Tryd.params4] at ht
        have hm : t ∈ [28] := by simpa using Array.mem_of_getElem? ht
        have hall : ([28].all fun u => !Tryd.prog.wantsStandIn u) = true := by kernel_rfl
        exact (show Tryd.prog.wantsStandIn t = false by simpa using List.all_eq_true.1 hall t hm)⟩)
    (by kernel_rfl)
#print axioms proved
end Go.Proofs.YtahdcmhjahkbnaaDoor.fnExactFormatNumbers
