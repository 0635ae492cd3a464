/- For every string the law FnExactLeastBan returns true; no condition. -/
import Derived.Test.YtcgomfbbbnfmnaaLbi
import Derived.Test.YtcgomfbbbnfmnaaMark
import Derived.HandedShaped
namespace Go.Proofs.Ytcgomfbbbnfmnaa.fnExactLeastBan
open Go.ChangeShapes Go.WideShapes Go.ChangeAt Go.RowKit
open Go.ChangeMaps (open_string shut_string)
set_option linter.unusedVariables false

set_option maxHeartbeats 1000000 in
theorem walk (s : ByteArray) (w : World) (hs : s.size ≤ maxLen) (hsh : w.ShapedOpen Try.prog) :
    Calls Try.prog 5 #[.string s] w fun e w' => e = .returned (.bool true) ∧ Below w.heap.size w w' := by
  have hs2 := hs
  unfold maxLen at hs2
  have m0 := Lib.hid (MlOk.of hsh)
  clear hsh
  have hi := fun w h => iLeast_any s hs w h
  have hS := fun w => sLeast_any s hs w
  have hrl := lbV_len s
  obtain ⟨r, hr⟩ : ∃ r, lbV s = r := ⟨_, rfl⟩
  rw [hr] at hi hS hrl
  have HI := Lib.hid hi; have HS := Lib.hid hS; clear hi hS hr
  by_cases hbig : 1048576 < s.size
  · go_enter Try.func5, Try.ntmps5
    go_wp2_with fail
    go_ret
    exact ⟨rfl, Below.refl _ _⟩
  · go_enter Try.func5, Try.ntmps5
    go_wp2_with fail
    refine (HS.out _).mono ?_
    rintro e w1 ⟨A1, c1, rfl, o1, b1⟩
    have z1 := b1.size
    have m1 := Lib.hid (m0.out.below b1)
    go_wp2_with fail
    refine (HI.out _ m1.out).mono ?_
    rintro e w2 ⟨A2, c2, rfl, o2, b2⟩
    have z2 := b2.size
    have m2 := Lib.hid (m1.out.below b2)
    have r2 := o1.below b2 (Nat.le_refl _)
    go_wp2_with fail
    refine (eqStringS_same r A2 A1 c2 c1 _ _ _ o2.reads r2 (by omega)).mono ?_
    rintro e w3 ⟨rfl, d3⟩
    have z3 := (d3.below (B := 0)).size
    have m3 := Lib.hid (m2.out.dr d3)
    go_wp2_with fail
    refine (markStringS_any r A2 c2 w1.heap.size 1 _ (by omega) (by omega) (by omega) (o2.dr d3) (by omega)).mono ?_
    rintro e w4 ⟨rfl, o4, b4, g4⟩
    have z4 := b4.size
    have r4 := o2.rds_kept g4 (r2.dr d3) (Nat.le_refl _) (by omega)
    have m4 := Lib.hid (m1.out.below (((b2.trans d3.below).trans b4)))
    go_wp2_with fail
    refine (heldStringS_any r.length A2 c2 _ 1 _ (by omega) (by omega) (by omega) (Nat.le_refl _) o4.reads).mono ?_
    rintro e w5 ⟨rfl, b5⟩
    have z5 := b5.size
    have m5 := Lib.hid (m4.out.below b5)
    go_wp2_with fail
    refine (HI.out _ m5.out).mono ?_
    rintro e w6 ⟨A6, c6, rfl, o6, b6⟩
    have z6 := b6.size
    go_wp2_with fail
    refine (eqStringS_same r A6 A1 c6 c1 _ _ _ o6.reads ((r4.below b5 (by omega)).below b6 (by omega)) (by omega)).mono ?_
    rintro e w7 ⟨rfl, d7⟩
    go_wp2_with fail
    refine (heldStringS_any r.length A2 c2 _ 1 _ (by omega) (by omega) (by omega) (Nat.le_refl _) (((o4.below b5).below b6).dr d7).reads).mono ?_
    rintro e w8 ⟨rfl, b8⟩
    have z7 := (d7.below (B := 0)).size
    go_wp2_with fail
    go_ret
    exact ⟨rfl, ((((((b1.trans (b2.mono (by omega))).trans d3.below).trans (b4.mono (by omega))).trans (b5.mono (by omega))).trans (b6.mono (by omega))).trans d7.below).trans (b8.mono (by omega))⟩

set_option maxRecDepth 100000 in
theorem lifted (os : Os) (started : os.Started) (H : Type) (enc : TypeId × Value → H) :
    ReturnsInHanded {} Try.checked os 5 .any (Rows.fnExactLeastBanSpec.pre6 enc Try.prog Try.f5 Rows.fnExactLeastBanRow.domain false) (Rows.fnExactLeastBanSpec.post enc Try.prog Try.f5 false true false false) := by
  refine returnsInHanded_of_change_shaped (C := Try.checked) own started (by kernel_rfl) Try.func5
    (ChangeSpec.witness6 (enc := enc) (C := Try.checked) false ⟨#[], #[.string ByteArray.empty], []⟩ 8 (by kernel_rfl) (by kernel_rfl) (by kernel_rfl) (by kernel_rfl)) ?_
  intro W base args ds gs before hval0 hW hcnd _ hsh _
  have hval : ∀ (j : Nat) t v, Try.f5.params[j]? = some t → args[j]? = some v → Value.okWide Try.prog W .any base t v := hval0
  have hW' := hW
  obtain ⟨p, q, hA0, hV, rfl, hfz, hnd⟩ := hW
  have hA : DataW.TrodAll enc Try.prog W 0 (fun _ => true) true Try.f5.params.toList args.toList ds p := hA0
  rw [Try.params5] at hA hval
  obtain ⟨v0, vs0, d0, ds0, p0, q0, hargs, rfl, rfl, h0, r0⟩ := trodAll_cons hA
  obtain ⟨rfl, rfl, rfl⟩ := trodAll_nil r0
  obtain rfl : args = #[v0] := by cases args; simp_all
  obtain ⟨rfl, rfl⟩ := trodVars_none hV
  obtain ⟨a0, rfl, rfl, rfl, w0⟩ := open_string Try.underlying9 (hval 0 9 v0 rfl rfl) h0
  clear hA0 hval0
  refine (walk a0 W w0 hsh).mono fun e W' ⟨he, bel⟩ => ?_
  subst he
  exact ⟨_, rfl, _, _, _, [], _, [], hW', trodAll_mk1 (shut_bool Try.underlying4 _), (trodAll_cons_mk (shut_string Try.underlying9 w0) trodAll_mk0), rfl, bel.frame _, fun h => by cases h⟩

theorem over : Rows.fnExactLeastBanRow.holds Try.pinned (OpenSpec.ofChange Rows.fnExactLeastBanSpec) :=
  OpenClaim.holds_of_wide 5 Try.f5 rfl rfl rfl rfl rfl rfl rfl ⟨rfl, rfl, rfl, rfl, rfl⟩ rfl rfl rfl rfl rfl (by kernel_rfl) Try.func5 (by kernel_rfl)
    (of_decide_eq_true (by kernel_rfl)) (by unfold Func.isWrapper; first | (rw [if_pos (by decide +kernel)]; kernel_rfl) | (rw [if_neg (by decide +kernel)]; exact ⟨rfl, rfl⟩))
    (fun os started H enc _ => lifted os started H enc)

theorem proved : Rows.FnExactLeastBanSaid := over
#print axioms proved
end Go.Proofs.Ytcgomfbbbnfmnaa.fnExactLeastBan
