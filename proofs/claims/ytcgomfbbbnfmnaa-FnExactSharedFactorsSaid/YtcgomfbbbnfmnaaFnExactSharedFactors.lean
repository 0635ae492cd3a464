/- For all arguments the law FnExactSharedFactors returns true and leaves its arguments as they were; no condition. -/
import Derived.Test.YtcgomfbbbnfmnaaShf
import Derived.Test.YtcgomfbbbnfmnaaMark
namespace Go.Proofs.Ytcgomfbbbnfmnaa.fnExactSharedFactors
open Go.ChangeShapes Go.WideShapes Go.ChangeAt Go.RowKit
open Go.ChangeMaps (open_string shut_string)
set_option linter.unusedVariables false

set_option maxHeartbeats 1000000 in
theorem walk (s t : ByteArray) (a : Int) (w : World) (hs : s.size ≤ maxLen) (ht : t.size ≤ maxLen) (ha : I64 a) :
    Calls Try.prog 4 #[.string s, .string t, .int .i64 a] w fun e w' => e = .returned (.bool true) ∧ Below w.heap.size w w' := by
  have hs2 := hs
  have ht2 := ht
  unfold maxLen at hs2 ht2
  have hi := fun w => iShared_any s t a hs ht w
  have hS := fun w => sShared_any s t a hs ht w
  have hrl : (shV s t a).length ≤ 1000 := by
    unfold shV
    split
    · rename_i hok
      unfold shOk at hok
      simp only [Bool.and_eq_true] at hok
      have h4 := isW_size hok.1.1
      have h1 := List.length_filter_le (hasS (insL (fc t a.toNat))) (insL (fc s a.toNat))
      have h2 := fcI_len s a.toNat
      unfold shL; omega
    · simp
  obtain ⟨r, hr⟩ : ∃ r, shV s t a = r := ⟨_, rfl⟩
  rw [hr] at hi hS hrl
  have HI := Lib.hid hi; have HS := Lib.hid hS; clear hi hS hr
  by_cases hbig : 1048576 < s.size
  · go_enter Try.func4, Try.ntmps4
    go_wp2_with fail
    go_ret
    exact ⟨rfl, Below.refl _ _⟩
  · by_cases hbig2 : 1048576 < t.size
    · go_enter Try.func4, Try.ntmps4
      go_wp2_with fail
      go_ret
      exact ⟨rfl, Below.refl _ _⟩
    · go_enter Try.func4, Try.ntmps4
      go_wp2_with fail
      refine (HS.out _).mono ?_
      rintro e w1 ⟨A1, c1, rfl, o1, b1⟩
      have z1 := b1.size
      go_wp2_with fail
      refine (HI.out _).mono ?_
      rintro e w2 ⟨A2, c2, rfl, o2, b2⟩
      have z2 := b2.size
      go_wp2_with fail
      refine (eqStringS_same r A2 A1 c2 c1 _ _ _ o2.reads (o1.below b2).reads (by omega)).mono ?_
      rintro e w3 ⟨rfl, d3⟩
      have z3 := (d3.below (B := 0)).size
      go_wp2_with fail
      refine (markStringS_any r A2 c2 w1.heap.size 1 _ (by omega) (by omega) (by omega) (o2.dr d3) (by omega)).mono ?_
      rintro e w4 ⟨rfl, o4, b4, g4⟩
      have z4 := b4.size
      have o14 : Own w4 w.heap.size 9 (.slice A1 r.length c1) _ := o2.apart' o1 ((o1.below b2).dr d3) (by omega) g4
      go_wp2_with fail
      refine (heldStringS_any r.length A2 c2 _ 1 _ (by omega) (by omega) (by omega) (Nat.le_refl _) o4.reads).mono ?_
      rintro e w5 ⟨rfl, b5⟩
      have z5 := b5.size
      go_wp2_with fail
      refine (HI.out _).mono ?_
      rintro e w6 ⟨A6, c6, rfl, o6, b6⟩
      have z6 := b6.size
      go_wp2_with fail
      refine (eqStringS_same r A6 A1 c6 c1 _ _ _ o6.reads ((o14.below b5).below b6).reads (by omega)).mono ?_
      rintro e w7 ⟨rfl, d7⟩
      go_wp2_with fail
      refine (heldStringS_any r.length A2 c2 _ 1 _ (by omega) (by omega) (by omega) (Nat.le_refl _) (((o4.below b5).below b6).dr d7).reads).mono ?_
      rintro e w8 ⟨rfl, b8⟩
      have z7 := (d7.below (B := 0)).size
      go_wp2_with fail
      go_ret
      exact ⟨rfl, ((((((b1.trans (b2.mono (by omega))).trans d3.below).trans (b4.mono (by omega))).trans (b5.mono (by omega))).trans (b6.mono (by omega))).trans d7.below).trans (b8.mono (by omega))⟩

set_option maxRecDepth 100000 in
theorem lifted (os : Os) (started : os.Started) (H : Type) (enc : TypeId × Value → H) :
    ReturnsInHanded {} Try.checked os 4 .any (Rows.fnExactSharedFactorsSpec.pre6 enc Try.prog Try.f4 Rows.fnExactSharedFactorsRow.domain false) (Rows.fnExactSharedFactorsSpec.post enc Try.prog Try.f4 false true false false) := by
  refine returnsInHanded_of_change (C := Try.checked) own started (by kernel_rfl) Try.func4
    (ChangeSpec.witness6 (enc := enc) (C := Try.checked) false ⟨#[], #[.string ByteArray.empty, .string ByteArray.empty, .int .i64 0], []⟩ 8 (by kernel_rfl) (by kernel_rfl) (by kernel_rfl) (by kernel_rfl)) ?_
  intro W base args ds gs before hval0 hW hcnd _
  have hval : ∀ (j : Nat) t v, Try.f4.params[j]? = some t → args[j]? = some v → Value.okWide Try.prog W .any base t v := hval0
  have hW' := hW
  obtain ⟨p, q, hA0, hV, rfl, hfz, hnd⟩ := hW
  have hA : DataW.TrodAll enc Try.prog W 0 (fun _ => true) true Try.f4.params.toList args.toList ds p := hA0
  rw [Try.params4] at hA hval
  obtain ⟨v0, vs0, d0, ds0, p0, q0, hargs, rfl, rfl, h0, r0⟩ := trodAll_cons hA
  obtain ⟨v1, vs1, d1, ds1, p1, q1, rfl, rfl, rfl, h1, r1⟩ := trodAll_cons r0
  obtain ⟨v2, vs2, d2, ds2, p2, q2, rfl, rfl, rfl, h2, r2⟩ := trodAll_cons r1
  obtain ⟨rfl, rfl, rfl⟩ := trodAll_nil r2
  obtain rfl : args = #[v0, v1, v2] := by cases args; simp_all
  obtain ⟨rfl, rfl⟩ := trodVars_none hV
  obtain ⟨a0, rfl, rfl, rfl, w0⟩ := open_string Try.underlying9 (hval 0 9 v0 rfl rfl) h0
  obtain ⟨a1, rfl, rfl, rfl, w1⟩ := open_string Try.underlying9 (hval 1 9 v1 rfl rfl) h1
  obtain ⟨a2, rfl, rfl, rfl, w2⟩ := open_int Try.underlying3 (hval 2 3 v2 rfl rfl) h2
  clear hA0 hval0
  refine (walk a0 a1 a2 W w0 w1 (int_bounds w2)).mono fun e W' ⟨he, bel⟩ => ?_
  subst he
  exact ⟨_, rfl, _, _, _, [], _, [], hW', trodAll_mk1 (shut_bool Try.underlying4 _), (trodAll_cons_mk (shut_string Try.underlying9 w0) (trodAll_cons_mk (shut_string Try.underlying9 w1) (trodAll_cons_mk (shut_int Try.underlying3 w2) trodAll_mk0))), rfl, bel.frame _, fun h => by cases h⟩

theorem over : Rows.fnExactSharedFactorsRow.holds Try.pinned (OpenSpec.ofChange Rows.fnExactSharedFactorsSpec) :=
  OpenClaim.holds_of_wide 4 Try.f4 rfl rfl rfl rfl rfl rfl rfl ⟨rfl, rfl, rfl, rfl, rfl⟩ rfl rfl rfl rfl rfl (by kernel_rfl) Try.func4 (by kernel_rfl)
    (of_decide_eq_true (by kernel_rfl)) (by unfold Func.isWrapper; first | (rw [if_pos (by decide +kernel)]; kernel_rfl) | (rw [if_neg (by decide +kernel)]; exact ⟨rfl, rfl⟩))
    (fun os started H enc _ => lifted os started H enc)

theorem proved : Rows.FnExactSharedFactorsSaid := over
#print axioms proved
end Go.Proofs.Ytcgomfbbbnfmnaa.fnExactSharedFactors
