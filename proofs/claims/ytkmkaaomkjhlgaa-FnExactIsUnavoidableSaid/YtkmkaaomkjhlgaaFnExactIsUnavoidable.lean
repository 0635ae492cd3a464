/- For all arguments the law FnExactIsUnavoidable returns true and leaves its arguments as they were; no condition. -/
import Derived.Test.YtkmkaaomkjhlgaaUnv
import Derived.HandedShaped
namespace Go.Proofs.Ytkmkaaomkjhlgaa.fnExactIsUnavoidable
open Go.ChangeShapes Go.WideShapes Go.ChangeAt Go.RowKit
open Go.ChangeMaps (open_string shut_string)
set_option linter.unusedVariables false

set_option maxHeartbeats 1000000 in
theorem walk (a : Int) (A : Option Addr) (n c : Nat) (ss : List ByteArray) (w : World) (ha : I64 a) (h : StrsIn w A n c ss) (hsh : w.ShapedOpen Try.prog) :
    Calls Try.prog 3 #[.int .i64 a, .slice A n c] w fun e w' => e = .returned (.bool true) ∧ Below w.heap.size w w' := by
  have hl : ss.length = n := h.1
  subst hl
  have m0 := Lib.hid (MlOk.of hsh)
  clear hsh
  by_cases hz : szS ss 1048576 < 0
  · go_enter Try.func3, Try.ntmps3
    go_wp2_with fail
    refine (szStringS_any ss A _ c 1048576 _ (by omega) (by omega) h).mono ?_
    rintro e w1 ⟨rfl, d1⟩
    go_wp2_with fail
    go_ret
    exact ⟨rfl, d1.below⟩
  · have hn := szS_len hz
    have hn2 : ss.length ≤ 1048576 := by omega
    go_enter Try.func3, Try.ntmps3
    go_wp2_with fail
    refine (szStringS_any ss A _ c 1048576 _ (by omega) (by omega) h).mono ?_
    rintro e w1 ⟨rfl, d1⟩
    have m1 := Lib.hid (m0.out.dr d1)
    have h1 := h.dr d1
    have b1 := d1.below (B := w.heap.size)
    go_wp2_with fail
    refine (toStringS_any ss A _ c _ hn2 h1).mono ?_
    rintro e w2 ⟨A2, c2, rfl, o2, b2⟩
    have h2 := h1.later b2
    have m2 := Lib.hid (m1.out.below b2)
    go_wp2_with fail
    refine (sUn_any a ha ss A2 c2 _ _ (Nat.le_refl _) (by omega) h.2.2.2.1 o2.reads).mono ?_
    rintro e w3 ⟨rfl, b3⟩
    have h3 := h2.later b3
    have m3 := Lib.hid (m2.out.below b3)
    go_wp2_with fail
    refine (toStringS_any ss A _ c _ hn2 h3).mono ?_
    rintro e w4 ⟨A4, c4, rfl, o4, b4⟩
    have h4 := h3.later b4
    have m4 := Lib.hid (m3.out.below b4)
    go_wp2_with fail
    refine (iUn_any a ha ss A4 c4 _ _ (Nat.le_refl _) (by omega) h.2.2.2.1 o4.reads m4.out).mono ?_
    rintro e w5 ⟨rfl, b5⟩
    have h5 := h4.later b5
    go_wp2_with fail
    refine (toStringS_any ss A _ c _ hn2 h5).mono ?_
    rintro e w6 ⟨A6, c6, rfl, o6, b6⟩
    go_wp2_with fail
    refine (eqStringS_same ss A4 A6 c4 c6 _ _ _ ((o4.below b5).below b6).reads o6.reads (by omega)).mono ?_
    rintro e w7 ⟨rfl, d7⟩
    go_wp2_with fail
    go_ret
    refine ⟨rfl, ?_⟩
    have e1 := b1.size
    have e2 := b2.size
    have e3 := b3.size
    have e4 := b4.size
    have e5 := b5.size
    have e6 := b6.size
    exact ((((((b1.trans (b2.mono (by omega))).trans (b3.mono (by omega))).trans (b4.mono (by omega))).trans (b5.mono (by omega))).trans (b6.mono (by omega))).trans d7.below)

set_option maxRecDepth 100000 in
theorem lifted (os : Os) (started : os.Started) (H : Type) (enc : TypeId × Value → H) :
    ReturnsInHanded {} Try.checked os 3 .any (Rows.fnExactIsUnavoidableSpec.pre6 enc Try.prog Try.f3 Rows.fnExactIsUnavoidableRow.domain false) (Rows.fnExactIsUnavoidableSpec.post enc Try.prog Try.f3 false true false false) := by
  refine returnsInHanded_of_change_shaped (C := Try.checked) own started (by kernel_rfl) Try.func3
    (ChangeSpec.witness6 (enc := enc) (C := Try.checked) false ⟨#[], #[.int .i64 0, .slice none 0 0], []⟩ 8 (by kernel_rfl) (by kernel_rfl) (by kernel_rfl) (by kernel_rfl)) ?_
  intro W base args ds gs before hval0 hW hcnd _ hsh _
  have hval : ∀ (j : Nat) t v, Try.f3.params[j]? = some t → args[j]? = some v → Value.okWide Try.prog W .any base t v := hval0
  have hW' := hW
  obtain ⟨p, q, hA0, hV, rfl, hfz, hnd⟩ := hW
  have hA : DataW.TrodAll enc Try.prog W 0 (fun _ => true) true Try.f3.params.toList args.toList ds p := hA0
  rw [Try.params3] at hA hval
  obtain ⟨v0, vs0, d0, ds0, p0, q0, hargs, rfl, rfl, h0, r0⟩ := trodAll_cons hA
  obtain ⟨v1, vs1, d1, ds1, p1, q1, rfl, rfl, rfl, h1, r1⟩ := trodAll_cons r0
  obtain ⟨rfl, rfl, rfl⟩ := trodAll_nil r1
  obtain rfl : args = #[v0, v1] := by cases args; simp_all
  obtain ⟨rfl, rfl⟩ := trodVars_none hV
  obtain ⟨a0, rfl, rfl, rfl, w0⟩ := open_int Try.underlying3 (hval 0 3 v0 rfl rfl) h0
  obtain ⟨s1, len1, cap1, rfl⟩ := okWide_slice Try.underlying22 (hval 1 22 v1 rfl rfl)
  have k1 := h1
  have lt1 : ∀ x ∈ p1, x.block < W.heap.size := by obtain ⟨m, hm⟩ := k1; exact DataW.trod_lt m _ _ _ hm
  obtain ⟨z1, w1⟩ : ∃ zs, StrsIn W s1 len1 cap1 zs := strs_in Try.underlying22 Try.underlying9 (by kernel_rfl) h1 lt1
  clear hA0 hval0
  refine (walk a0 s1 len1 cap1 z1 W (int_bounds w0) w1 hsh).mono fun e W' ⟨he, bel⟩ => ?_
  subst he
  exact ⟨_, rfl, _, _, _, [], _, [], hW', trodAll_mk1 (shut_bool Try.underlying4 _), (trodAll_cons_mk (shut_int Try.underlying3 w0) (trodAll_cons_mk (Below.trod laidOut (by kernel_rfl) (of_decide_eq_true (by kernel_rfl)) k1 bel lt1) trodAll_mk0)), rfl, bel.frame _, fun h => by cases h⟩

theorem over : Rows.fnExactIsUnavoidableRow.holds Try.pinned (OpenSpec.ofChange Rows.fnExactIsUnavoidableSpec) :=
  OpenClaim.holds_of_wide 3 Try.f3 rfl rfl rfl rfl rfl rfl rfl ⟨rfl, rfl, rfl, rfl, rfl⟩ rfl rfl rfl rfl rfl (by kernel_rfl) Try.func3 (by kernel_rfl)
    (of_decide_eq_true (by kernel_rfl)) (by unfold Func.isWrapper; first | (rw [if_pos (by decide +kernel)]; kernel_rfl) | (rw [if_neg (by decide +kernel)]; exact ⟨rfl, rfl⟩))
    (fun os started H enc _ => lifted os started H enc)

theorem proved : Rows.FnExactIsUnavoidableSaid := over
#print axioms proved
end Go.Proofs.Ytkmkaaomkjhlgaa.fnExactIsUnavoidable
