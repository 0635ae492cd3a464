/- For every slice of strings the law FnExactReducedBan returns true and leaves its argument as it was; no condition. -/
import Derived.Test.YtcgomfbbbnfmnaaRdb
import Derived.Test.YtcgomfbbbnfmnaaMark
import Derived.HandedShaped
namespace Go.Proofs.Ytcgomfbbbnfmnaa.fnExactReducedBan
open Go.ChangeShapes Go.WideShapes Go.ChangeAt Go.RowKit
open Go.ChangeMaps (open_string shut_string)
set_option linter.unusedVariables false

set_option maxHeartbeats 1000000 in
theorem walk (A : Option Addr) (n c : Nat) (zs : List ByteArray) (w : World) (h : StrsIn w A n c zs) (hsh : w.ShapedOpen Try.prog) :
    Calls Try.prog 6 #[.slice A n c] w fun e w' => e = .returned (.bool true) ∧ Below w.heap.size w w' := by
  have hl : zs.length = n := h.1
  subst hl
  have m0 := Lib.hid (MlOk.of hsh)
  clear hsh
  have hc63 : zs.length ≤ 9223372036854775807 := by have h1 := h.2.1; have h2 := h.2.2.1; unfold maxLen at h2; omega
  by_cases hz : szS zs 1048576 < 0
  · go_enter Try.func6, Try.ntmps6
    go_wp2_with fail
    refine (szStringS_any zs A _ c 1048576 _ (by omega) (by omega) h).mono ?_
    rintro e w1 ⟨rfl, d1⟩
    go_wp2_with fail
    go_ret
    exact ⟨rfl, d1.below⟩
  · have hn := szS_len hz
    have hn2 : zs.length ≤ 1048576 := by omega
    have hml := rbV_len zs
    go_enter Try.func6, Try.ntmps6
    go_wp2_with fail
    refine (szStringS_any zs A _ c 1048576 _ (by omega) (by omega) h).mono ?_
    rintro e w0 ⟨rfl, d0⟩
    have m1 := Lib.hid (m0.out.dr d0)
    have h := h.dr d0
    have z0 := (d0.below (B := 0)).size
    go_wp2_with fail
    refine (toStringS_any zs A _ c _ hn2 h).mono ?_
    rintro e w1 ⟨A1, c1, rfl, o1, b1⟩
    have m2 := Lib.hid (m1.out.below b1)
    have h1 := h.later b1
    have z1 := b1.size
    go_wp2_with fail
    refine (sReduced_any zs A1 c1 _ _ (Nat.le_refl _) (by omega) h.2.2.2.1 o1.reads).mono ?_
    rintro e w2 ⟨A2, c2, rfl, o2, b2⟩
    have m3 := Lib.hid (m2.out.below b2)
    have h2 := h1.later b2
    have z2 := b2.size
    go_wp2_with fail
    refine (toStringS_any zs A _ c _ hn2 h2).mono ?_
    rintro e w3 ⟨A3, c3, rfl, o3, b3⟩
    have m4 := Lib.hid (m3.out.below b3)
    have h3 := h2.later b3
    have z3 := b3.size
    go_wp2_with fail
    refine (iReduced_any zs A3 c3 _ _ (Nat.le_refl _) (by omega) h.2.2.2.1 o3.reads m4.out).mono ?_
    rintro e w4 ⟨A4, c4, rfl, o4, b4⟩
    have m5 := Lib.hid (m4.out.below b4)
    have h4 := h3.later b4
    have z4 := b4.size
    go_wp2_with fail
    have r2 := (o2.below b3 (Nat.le_refl _)).below b4 (by omega)
    refine (eqStringS_same (rbV zs) A4 A2 c4 c2 _ _ _ o4.reads r2 (by omega)).mono ?_
    rintro e w5 ⟨rfl, d5⟩
    have h5 := h4.dr d5
    have z5 := (d5.below (B := 0)).size
    go_wp2_with fail
    refine (toStringS_any zs A _ c _ hn2 h5).mono ?_
    rintro e w6 ⟨A6, c6, rfl, o6, b6⟩
    have h6 := h5.later b6
    have z6 := b6.size
    go_wp2_with fail
    refine (eqStringS_same zs A3 A6 c3 c6 _ _ _ (((o3.below b4).dr d5).below b6).reads o6.reads (by omega)).mono ?_
    rintro e w7 ⟨rfl, d7⟩
    have h7 := h6.dr d7
    have z7 := (d7.below (B := 0)).size
    go_wp2_with fail
    refine (markStringS_any zs A3 c3 w2.heap.size 1 _ (by omega) (by omega) (by omega) ((((o3.below b4).dr d5).below b6).dr d7) (by omega)).mono ?_
    rintro e w8 ⟨rfl, o8, b8, g8⟩
    have z8 := b8.size
    have o48 : Own w8 w3.heap.size 9 (.slice A4 (rbV zs).length c4) _ := o3.apart (((o4.dr d5).below b6).dr d7) (Nat.le_refl _) g8
    have r27 := ((r2.dr d5).below b6 (by omega)).dr d7
    have r28 := o3.rds_kept g8 r27 (Nat.le_refl _) (by omega)
    go_wp2_with fail
    refine (eqStringS_same (rbV zs) A4 A2 c4 c2 _ _ _ o48.reads r28 (by omega)).mono ?_
    rintro e w9 ⟨rfl, d9⟩
    have z9 := (d9.below (B := 0)).size
    go_wp2_with fail
    refine (markStringS_any (rbV zs) A4 c4 w3.heap.size 1 _ (by omega) (by omega) (by omega) (o48.dr d9) (by omega)).mono ?_
    rintro e w10 ⟨rfl, o10, b10, g10⟩
    have z10 := b10.size
    have r210 := o4.rds_kept g10 (r28.dr d9) (by omega) (by omega)
    go_wp2_with fail
    refine (heldStringS_any (rbV zs).length A4 c4 _ 1 _ (by omega) (by omega) (by omega) (Nat.le_refl _) o10.reads).mono ?_
    rintro e w11 ⟨rfl, b11⟩
    have z11 := b11.size
    have k8 : Below w0.heap.size w0 w8 := by
      have t1 : Below w0.heap.size w0 w4 := ((b1.trans (b2.mono z1)).trans (b3.mono (by omega))).trans (b4.mono (by omega))
      exact (((t1.trans d5.below).trans (b6.mono (by omega))).trans d7.below).trans (b8.mono (by omega))
    have k11 : Below w0.heap.size w0 w11 := ((k8.trans d9.below).trans (b10.mono (by omega))).trans (b11.mono (by omega))
    have h11 := h.later k11
    have m11 := Lib.hid (m1.out.below k11)
    go_wp2_with fail
    refine (toStringS_any zs A _ c _ hn2 h11).mono ?_
    rintro e w12 ⟨A12, c12, rfl, o12, b12⟩
    have m12 := Lib.hid (m11.out.below b12)
    have z12 := b12.size
    go_wp2_with fail
    refine (iReduced_any zs A12 c12 _ _ (Nat.le_refl _) (by omega) h.2.2.2.1 o12.reads m12.out).mono ?_
    rintro e w13 ⟨A13, c13, rfl, o13, b13⟩
    go_wp2_with fail
    have r213 := ((r210.below b11 (by omega)).below b12 (by omega)).below b13 (by omega)
    refine (eqStringS_same (rbV zs) A13 A2 c13 c2 _ _ _ o13.reads r213 (by omega)).mono ?_
    rintro e w14 ⟨rfl, d14⟩
    go_wp2_with fail
    refine (heldStringS_any (rbV zs).length A4 c4 _ 1 _ (by omega) (by omega) (by omega) (Nat.le_refl _) ((((o10.below b11).below b12).below b13).dr d14).reads).mono ?_
    rintro e w15 ⟨rfl, b15⟩
    go_wp2_with fail
    go_ret
    have z13 := b13.size
    have z14 := (d14.below (B := 0)).size
    exact ⟨rfl, d0.below.trans (((((k11.trans (b12.mono (by omega))).trans (b13.mono (by omega))).trans d14.below).trans (b15.mono (by omega))).mono z0)⟩

set_option maxRecDepth 100000 in
theorem lifted (os : Os) (started : os.Started) (H : Type) (enc : TypeId × Value → H) :
    ReturnsInHanded {} Try.checked os 6 .any (Rows.fnExactReducedBanSpec.pre6 enc Try.prog Try.f6 Rows.fnExactReducedBanRow.domain false) (Rows.fnExactReducedBanSpec.post enc Try.prog Try.f6 false true false false) := by
  refine returnsInHanded_of_change_shaped (C := Try.checked) own started (by kernel_rfl) Try.func6
    (ChangeSpec.witness6 (enc := enc) (C := Try.checked) false ⟨#[], #[.slice none 0 0], []⟩ 8 (by kernel_rfl) (by kernel_rfl) (by kernel_rfl) (by kernel_rfl)) ?_
  intro W base args ds gs before hval0 hW hcnd _ hsh _
  have hval : ∀ (j : Nat) t v, Try.f6.params[j]? = some t → args[j]? = some v → Value.okWide Try.prog W .any base t v := hval0
  have hW' := hW
  obtain ⟨p, q, hA0, hV, rfl, hfz, hnd⟩ := hW
  have hA : DataW.TrodAll enc Try.prog W 0 (fun _ => true) true Try.f6.params.toList args.toList ds p := hA0
  rw [Try.params6] at hA hval
  obtain ⟨v0, vs0, d0, ds0, p0, q0, hargs, rfl, rfl, h0, r0⟩ := trodAll_cons hA
  obtain ⟨rfl, rfl, rfl⟩ := trodAll_nil r0
  obtain rfl : args = #[v0] := by cases args; simp_all
  obtain ⟨rfl, rfl⟩ := trodVars_none hV
  obtain ⟨s0, len0, cap0, rfl⟩ := okWide_slice Try.underlying24 (hval 0 24 v0 rfl rfl)
  have k0 := h0
  have lt0 : ∀ x ∈ p0, x.block < W.heap.size := by obtain ⟨m, hm⟩ := k0; exact DataW.trod_lt m _ _ _ hm
  obtain ⟨z0, w0⟩ : ∃ zs, StrsIn W s0 len0 cap0 zs := strs_in Try.underlying24 Try.underlying9 (by kernel_rfl) h0 lt0
  clear hA0 hval0
  refine (walk s0 len0 cap0 z0 W w0 hsh).mono fun e W' ⟨he, bel⟩ => ?_
  subst he
  exact ⟨_, rfl, _, _, _, [], _, [], hW', trodAll_mk1 (shut_bool Try.underlying4 _), (trodAll_cons_mk (Below.trod laidOut (by kernel_rfl) (of_decide_eq_true (by kernel_rfl)) k0 bel lt0) trodAll_mk0), rfl, bel.frame _, fun h => by cases h⟩

theorem over : Rows.fnExactReducedBanRow.holds Try.pinned (OpenSpec.ofChange Rows.fnExactReducedBanSpec) :=
  OpenClaim.holds_of_wide 6 Try.f6 rfl rfl rfl rfl rfl rfl rfl ⟨rfl, rfl, rfl, rfl, rfl⟩ rfl rfl rfl rfl rfl (by kernel_rfl) Try.func6 (by kernel_rfl)
    (of_decide_eq_true (by kernel_rfl)) (by unfold Func.isWrapper; first | (rw [if_pos (by decide +kernel)]; kernel_rfl) | (rw [if_neg (by decide +kernel)]; exact ⟨rfl, rfl⟩))
    (fun os started H enc _ => lifted os started H enc)

theorem proved : Rows.FnExactReducedBanSaid := over
#print axioms proved
end Go.Proofs.Ytcgomfbbbnfmnaa.fnExactReducedBan
