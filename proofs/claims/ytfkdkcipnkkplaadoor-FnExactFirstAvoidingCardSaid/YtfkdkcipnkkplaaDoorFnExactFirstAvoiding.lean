/- For all arguments the law FnExactFirstAvoiding returns true and leaves its arguments as they were; no condition; the listed variables are the library's tables, tied. -/
import Derived.Test.YtfkdkcipnkkplaaDoorFav
import Derived.Test.YtfkdkcipnkkplaaDoorHsh
import Derived.Test.YtfkdkcipnkkplaaDoorTbl
import Derived.Test.YtfkdkcipnkkplaaDoorTie
import Derived.Test.YtfkdkcipnkkplaaDoorCards
import Derived.Lay
import Derived.LaidLaws
import Derived.SevenTiedAt
import Derived.LaidMore
namespace Go.Proofs.YtfkdkcipnkkplaaDoor.fnExactFirstAvoiding
open Go.ChangeShapes Go.WideShapes Go.ChangeAt Go.RowKit
open Go.ChangeMaps (open_string shut_string)
set_option linter.unusedVariables false

set_option maxHeartbeats 1000000 in
theorem walk (a : Int) (b : Int) (A : Option Addr) (n c : Nat) (ss : List ByteArray) (w : World) (ha : I64 a) (hb : I64 b) (h : StrsIn w A n c ss) (hsh : w.ShapedOpen Tryd.prog) (hL : laidMet Tryd.prog Rows.fnExactFirstAvoidingRow.laid w) :
    Calls Tryd.prog 6 #[.int .i64 a, .int .i64 b, .slice A n c] w fun e w' => e = .returned (.bool true) ∧ Below w.heap.size w w' := by
  have hl : ss.length = n := h.1
  subst hl
  have m0 := Lib.hid (MlOk.of hsh)
  clear hsh
  have t0 := Lib.hid (TB.of hL)
  clear hL
  by_cases hz : szS ss 1048576 < 0
  · go_enter Tryd.func6, Tryd.ntmps6
    go_wp2_with fail
    refine (szStringS_any ss A _ c 1048576 _ (by omega) (by omega) h).mono ?_
    rintro e w1 ⟨rfl, d1⟩
    go_wp2_with fail
    go_ret
    exact ⟨rfl, d1.below⟩
  · have hn := szS_len hz
    have hn2 : ss.length ≤ 1048576 := by omega
    go_enter Tryd.func6, Tryd.ntmps6
    go_wp2_with fail
    refine (szStringS_any ss A _ c 1048576 _ (by omega) (by omega) h).mono ?_
    rintro e w1 ⟨rfl, d1⟩
    have m1 := Lib.hid (m0.out.dr d1)
    have t1 := Lib.hid (t0.out.dr d1)
    have h1 := h.dr d1
    have b1 := d1.below (B := w.heap.size)
    go_wp2_with fail
    refine (toStringS_any ss A _ c _ hn2 h1).mono ?_
    rintro e w2 ⟨A2, c2, rfl, o2, b2⟩
    have h2 := h1.later b2
    have m2 := Lib.hid (m1.out.below b2)
    have t2 := Lib.hid (t1.out.below b2)
    go_wp2_with fail
    refine (sFa_any a b ss A2 c2 _ _ (Nat.le_refl _) (by omega) h.2.2.2.1 o2.reads).mono ?_
    rintro e w3 ⟨rfl, b3⟩
    have h3 := h2.later b3
    have m3 := Lib.hid (m2.out.below b3)
    have t3 := Lib.hid (t2.out.below b3)
    go_wp2_with fail
    refine (toStringS_any ss A _ c _ hn2 h3).mono ?_
    rintro e w4 ⟨A4, c4, rfl, o4, b4⟩
    have h4 := h3.later b4
    have m4 := Lib.hid (m3.out.below b4)
    have t4 := Lib.hid (t3.out.below b4)
    go_wp2_with fail
    refine (iFa_any a b ss A4 c4 _ (by omega) h.2.2.2.1 o4.reads m4.out t4.out).mono ?_
    rintro e w5 ⟨rfl, b5⟩
    have h5 := h4.later b5
    go_wp2_with fail
    refine (toStringS_any ss A _ c _ hn2 h5).mono ?_
    rintro e w6 ⟨A6, c6, rfl, o6, b6⟩
    go_wp2_with fail
    refine (eqStringS_same ss A4 A6 c4 c6 _ _ _ ((o4.below b5).below b6).reads o6.reads (by omega)).mono ?_
    rintro e w7 ⟨rfl, d7⟩
    go_wp2_with fail
    go_ret
    refine ⟨rfl, ?_⟩
    have e1 := b1.size
    have e2 := b2.size
    have e3 := b3.size
    have e4 := b4.size
    have e5 := b5.size
    have e6 := b6.size
    exact ((((((b1.trans (b2.mono (by omega))).trans (b3.mono (by omega))).trans (b4.mono (by omega))).trans (b5.mono (by omega))).trans (b6.mono (by omega))).trans d7.below)

set_option maxRecDepth 100000 in
theorem lifted (os : Os) (started : os.Started) (H : Type) (enc : TypeId × Value → H) :
    ReturnsInHanded {} Tryd.checked os 6 .any (fun w args => (Rows.fnExactFirstAvoidingSpec.pre enc Tryd.prog Tryd.f6 [] false w args ∧ laidMetH Tryd.prog Rows.fnExactFirstAvoidingRow.laid w) ∧ sizedMet enc Tryd.prog Tryd.f6 (OpenSpec.ofChange Rows.fnExactFirstAvoidingSpec) false w args) (Rows.fnExactFirstAvoidingSpec.post enc Tryd.prog Tryd.f6 false true false false) := by
  refine handed_and_shaped (C := Tryd.checked) (X := fun w _ => laidMetH Tryd.prog Rows.fnExactFirstAvoidingRow.laid w) (fun _ _ _ hh h => h.of_heap hh) own started (by kernel_rfl) Tryd.func6
    (ChangeSpec.witness_shaped (enc := enc) (C := Tryd.checked) (os := os) (X := fun w _ => laidMetH Tryd.prog Rows.fnExactFirstAvoidingRow.laid w) false (World.laidAll Tryd.prog os Rows.fnExactFirstAvoidingRow.laid) #[.int .i64 0, .int .i64 0, .slice none 0 0] 8 (World.laidAll_os _ _ _)
      (World.shaped_of_ZipB (by kernel_rfl) (by kernel_rfl)) (by kernel_rfl) (by kernel_rfl) (by kernel_rfl)
      (by rw [MakeChecks.laidMetH_plain _ _ _ (by kernel_rfl)]; exact laidMet_laidAll _ (by kernel_rfl) (by kernel_rfl))) ?_
  intro W base args ds gs before hval0 hW hL hsh
  rw [MakeChecks.laidMetH_plain _ _ _ (by kernel_rfl)] at hL
  have hval : ∀ (j : Nat) t v, Tryd.f6.params[j]? = some t → args[j]? = some v → Value.okWide Tryd.prog W .any base t v := hval0
  have hW' := hW
  obtain ⟨p, q, hA0, hV, rfl, hfz, hnd⟩ := hW
  have hA : DataW.TrodAll enc Tryd.prog W 0 (fun _ => true) true Tryd.f6.params.toList args.toList ds p := hA0
  rw [Tryd.params6] at hA hval
  obtain ⟨v0, vs0, d0, ds0, p0, q0, hargs, rfl, rfl, h0, r0⟩ := trodAll_cons hA
  obtain ⟨v1, vs1, d1, ds1, p1, q1, rfl, rfl, rfl, h1, r1⟩ := trodAll_cons r0
  obtain ⟨v2, vs2, d2, ds2, p2, q2, rfl, rfl, rfl, h2, r2⟩ := trodAll_cons r1
  obtain ⟨rfl, rfl, rfl⟩ := trodAll_nil r2
  obtain rfl : args = #[v0, v1, v2] := by cases args; simp_all
  obtain ⟨rfl, rfl⟩ := trodVars_none hV
  obtain ⟨a0, rfl, rfl, rfl, w0⟩ := open_int Tryd.underlying3 (hval 0 3 v0 rfl rfl) h0
  obtain ⟨a1, rfl, rfl, rfl, w1⟩ := open_int Tryd.underlying3 (hval 1 3 v1 rfl rfl) h1
  obtain ⟨s2, len2, cap2, rfl⟩ := okWide_slice Tryd.underlying22 (hval 2 22 v2 rfl rfl)
  have k2 := h2
  have lt2 : ∀ x ∈ p2, x.block < W.heap.size := by obtain ⟨m, hm⟩ := k2; exact DataW.trod_lt m _ _ _ hm
  obtain ⟨z2, w2⟩ : ∃ zs, StrsIn W s2 len2 cap2 zs := strs_in Tryd.underlying22 Tryd.underlying9 (by kernel_rfl) h2 lt2
  clear hA0 hval0
  refine (walk a0 a1 s2 len2 cap2 z2 W (int_bounds w0) (int_bounds w1) w2 hsh hL).mono fun e W' ⟨he, bel⟩ => ?_
  subst he
  exact ⟨_, rfl, _, _, _, [], _, [], hW', trodAll_mk1 (shut_bool Tryd.underlying4 _), (trodAll_cons_mk (shut_int Tryd.underlying3 w0) (trodAll_cons_mk (shut_int Tryd.underlying3 w1) (trodAll_cons_mk (Below.trod laidOut (by kernel_rfl) (of_decide_eq_true (by kernel_rfl)) k2 bel lt2) trodAll_mk0))), rfl, bel.frame _, fun h => by cases h⟩

theorem over : Rows.fnExactFirstAvoidingRow.holds Tryd.pinned (OpenSpec.ofChange Rows.fnExactFirstAvoidingSpec) :=
  OpenClaim.holds_of_wide 6 Tryd.f6 rfl rfl rfl rfl rfl rfl rfl ⟨rfl, rfl, rfl, rfl, rfl⟩ rfl rfl rfl rfl rfl (by kernel_rfl) Tryd.func6 (by kernel_rfl)
    (of_decide_eq_true (by kernel_rfl)) (by unfold Func.isWrapper; first | (rw [if_pos (by decide +kernel)]; kernel_rfl) | (rw [if_neg (by decide +kernel)]; exact ⟨rfl, rfl⟩))
    (fun os started H enc _ => lifted os started H enc)

theorem proved : Rows.FnExactFirstAvoidingCardSaid :=
  Claim7.holds_tied_plain_at .later [] _ true _ _ over (fun _ h => by cases h) (by kernel_rfl) (fun _ h => by cases h) fnExactFirstAvoiding_row_tie rfl ⟨rfl, rfl⟩ (by kernel_rfl) rfl
    (fun f fn hf hfn => by
      obtain rfl : f = 6 := Option.some.inj ((show Tryd.prog.funcNamed "loop.example/g03209/laws.FnExactFirstAvoiding" = some 6 by kernel_rfl).symm.trans hf) |>.symm
      obtain rfl : fn = Tryd.f6 := (Option.some.inj (Tryd.func6.symm.trans hfn)).symm
      exact ⟨by kernel_rfl, fun j t ht => by
        rw [Tryd.params6] at ht
        have hm : t ∈ [3, 3, 22] := by simpa using Array.mem_of_getElem? ht
        have hall : ([3, 3, 22].all fun u => !Tryd.prog.wantsStandIn u) = true := by kernel_rfl
        exact (show Tryd.prog.wantsStandIn t = false by simpa using List.all_eq_true.1 hall t hm)⟩)
    (by kernel_rfl)
#print axioms proved
end Go.Proofs.YtfkdkcipnkkplaaDoor.fnExactFirstAvoiding
