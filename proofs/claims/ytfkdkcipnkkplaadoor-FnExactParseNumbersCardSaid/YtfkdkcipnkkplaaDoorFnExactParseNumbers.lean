/- For every string the law FnExactParseNumbers returns true; no condition; the listed variables are the library's own, tied. -/
import Derived.Test.YtfkdkcipnkkplaaDoorPnm
import Derived.Test.YtfkdkcipnkkplaaDoorErr
import Derived.Test.YtfkdkcipnkkplaaDoorHsh
import Derived.Test.YtfkdkcipnkkplaaDoorTie
import Derived.Test.YtfkdkcipnkkplaaDoorCards
import Derived.Lay
import Derived.LaidLaws
import Derived.SevenTiedAt
import Derived.LaidMore
namespace Go.Proofs.YtfkdkcipnkkplaaDoor.fnExactParseNumbers
open Go.ChangeShapes Go.WideShapes Go.ChangeAt Go.RowKit
open Go.ChangeMaps (open_string shut_string)
set_option linter.unusedVariables false

set_option maxHeartbeats 1000000 in
theorem walk (s : ByteArray) (w : World) (hs : s.size ≤ maxLen) (hsh : w.ShapedOpen Tryd.prog) (hL : laidMet Tryd.prog Rows.fnExactParseNumbersRow.laid w) :
    Calls Tryd.prog 4 #[.string s] w fun e w' => e = .returned (.bool true) ∧ Below w.heap.size w w' := by
  have m0 := Lib.hid (MlOk.of hsh)
  clear hsh
  have t0 := Lib.hid (TB.of_head hL.tail.tail)
  have r0 := Lib.hid (EG.of hL.tail.tail.tail.tail)
  have x0 := Lib.hid (ES.of hL.tail.tail.tail.tail.tail)
  clear hL
  by_cases h1 : 1048576 < s.size
  · go_enter Tryd.func4, Tryd.ntmps4
    go_wp2_with fail
    go_ret
    exact ⟨rfl, Below.refl _ _⟩
  have hl := pnV_len s
  have hi := fun w' a b c d => iPn_any s (by omega) w' a b c d
  have hp := fun w' => sPn_any s (by omega) w'
  obtain ⟨V, hV⟩ : ∃ V, pnV s = V := ⟨_, rfl⟩
  simp only [hV] at hl hi hp
  obtain ⟨zs, bb⟩ := V
  simp only at hl hi hp
  have HI := Lib.hid hi; have HP := Lib.hid hp
  clear hi hp hV
  go_enter Tryd.func4, Tryd.ntmps4
  go_wp2_with fail
  refine (HP.out _).mono ?_
  rintro e w1 ⟨A0, c0, rfl, o0, b0⟩
  have m1 := Lib.hid (m0.out.below b0); have t1 := Lib.hid (t0.out.below b0); have r1 := Lib.hid (r0.out.below b0); have x1 := Lib.hid (x0.out.below b0)
  go_wp2_with fail
  refine (HI.out _ t1.out x1.out r1.out m1.out).mono ?_
  rintro e w2 ⟨A1, c1, rfl, o1, b1⟩
  have s1 := b1.size
  have m2 := Lib.hid (m1.out.below b1); have t2 := Lib.hid (t1.out.below b1); have r2 := Lib.hid (r1.out.below b1); have x2 := Lib.hid (x1.out.below b1)
  go_wp2_with (go_at_call 14; refine (eqIntS_same zs A1 A0 c1 c0 _ _ _ o1.reads (o0.below b1).reads (by omega)).mono ?_; rintro e w3 ⟨rfl, d3⟩)
  refine (markIntS_any zs A1 c1 w1.heap.size 1 _ (by omega) (by omega) (o1.dr d3)).mono ?_
  rintro e w4 ⟨rfl, o4, b4, _⟩
  go_wp2_with fail
  refine (heldIntS_any zs.length A1 c1 _ 1 _ (by omega) (by omega) o4.reads).mono ?_
  rintro e w5 ⟨rfl, d5⟩
  have b34 : Below w1.heap.size w2 w5 := (d3.below.trans b4).trans d5.below
  have b15 : Below w1.heap.size w1 w5 := b1.trans b34
  go_wp2_with fail
  refine (HI.out _ (t1.out.below b15) (x1.out.below b15) (r1.out.below b15) (m1.out.below b15)).mono ?_
  rintro e w6 ⟨A6, c6, rfl, o6, b6⟩
  have r0 : Rds w6 w1.heap.size A0 (zs.map (Value.int .i64)) := by
    have h1 : Rds w1 w1.heap.size A0 _ := o0.reads
    exact (h1.below b15 (Nat.le_refl _)).below b6 (by have := b15.size; omega)
  go_wp2_with (go_at_call 14; refine (eqIntS_same zs A6 A0 c6 c0 _ _ _ o6.reads r0 (by omega)).mono ?_; rintro e w7 ⟨rfl, d7⟩)
  refine (heldIntS_any zs.length A1 c1 _ 1 _ (by omega) (by omega) (((o4.dr d5).below b6).dr d7).reads).mono ?_
  rintro e w8 ⟨rfl, d8⟩
  go_wp2_with fail
  go_ret
  refine ⟨rfl, ?_⟩
  have e1 := b0.size
  have e2 := b15.size
  exact ((b0.trans (b15.mono e1)).trans (b6.mono (by omega))).trans (d7.below.trans d8.below)

set_option maxRecDepth 100000 in
theorem lifted (os : Os) (started : os.Started) (H : Type) (enc : TypeId × Value → H) :
    ReturnsInHanded {} Tryd.checked os 4 .any (fun w args => (Rows.fnExactParseNumbersSpec.pre enc Tryd.prog Tryd.f4 [] false w args ∧ laidMetH Tryd.prog Rows.fnExactParseNumbersRow.laid w) ∧ sizedMet enc Tryd.prog Tryd.f4 (OpenSpec.ofChange Rows.fnExactParseNumbersSpec) false w args) (Rows.fnExactParseNumbersSpec.post enc Tryd.prog Tryd.f4 false true false false) := by
  refine handed_and_shaped (C := Tryd.checked) (X := fun w _ => laidMetH Tryd.prog Rows.fnExactParseNumbersRow.laid w) (fun _ _ _ hh h => h.of_heap hh) own started (by kernel_rfl) Tryd.func4
    (ChangeSpec.witness_shaped (enc := enc) (C := Tryd.checked) (os := os) (X := fun w _ => laidMetH Tryd.prog Rows.fnExactParseNumbersRow.laid w) false (World.laidAll Tryd.prog os Rows.fnExactParseNumbersRow.laid) #[.string ByteArray.empty] 8 (World.laidAll_os _ _ _)
      (World.shaped_of_ZipB (by kernel_rfl) (by kernel_rfl)) (by kernel_rfl) (by kernel_rfl) (by kernel_rfl)
      (by rw [MakeChecks.laidMetH_plain _ _ _ (by kernel_rfl)]; exact laidMet_laidAll _ (by kernel_rfl) (by kernel_rfl))) ?_
  intro W base args ds gs before hval0 hW hL hsh
  rw [MakeChecks.laidMetH_plain _ _ _ (by kernel_rfl)] at hL
  have hval : ∀ (j : Nat) t v, Tryd.f4.params[j]? = some t → args[j]? = some v → Value.okWide Tryd.prog W .any base t v := hval0
  have hW' := hW
  obtain ⟨p, q, hA0, hV, rfl, hfz, hnd⟩ := hW
  have hA : DataW.TrodAll enc Tryd.prog W 0 (fun _ => true) true Tryd.f4.params.toList args.toList ds p := hA0
  rw [Tryd.params4] at hA hval
  obtain ⟨v0, vs0, d0, ds0, p0, q0, hargs, rfl, rfl, h0, r0⟩ := trodAll_cons hA
  obtain ⟨rfl, rfl, rfl⟩ := trodAll_nil r0
  obtain rfl : args = #[v0] := by cases args; simp_all
  obtain ⟨rfl, rfl⟩ := trodVars_none hV
  obtain ⟨a0, rfl, rfl, rfl, w0⟩ := open_string Tryd.underlying9 (hval 0 9 v0 rfl rfl) h0
  clear hA0 hval0
  refine (walk a0 W w0 hsh hL).mono fun e W' ⟨he, bel⟩ => ?_
  subst he
  exact ⟨_, rfl, _, _, _, [], _, [], hW', trodAll_mk1 (shut_bool Tryd.underlying4 _), (trodAll_cons_mk (shut_string Tryd.underlying9 w0) trodAll_mk0), rfl, bel.frame _, fun h => by cases h⟩

theorem over : Rows.fnExactParseNumbersRow.holds Tryd.pinned (OpenSpec.ofChange Rows.fnExactParseNumbersSpec) :=
  OpenClaim.holds_of_wide 4 Tryd.f4 rfl rfl rfl rfl rfl rfl rfl ⟨rfl, rfl, rfl, rfl, rfl⟩ rfl rfl rfl rfl rfl (by kernel_rfl) Tryd.func4 (by kernel_rfl)
    (of_decide_eq_true (by kernel_rfl)) (by unfold Func.isWrapper; first | (rw [if_pos (by decide +kernel)]; kernel_rfl) | (rw [if_neg (by decide +kernel)]; exact ⟨rfl, rfl⟩))
    (fun os started H enc _ => lifted os started H enc)

theorem proved : Rows.FnExactParseNumbersCardSaid :=
  Claim7.holds_tied_plain_at .later [] _ true _ _ over (fun _ h => by cases h) (by kernel_rfl) (fun _ h => by cases h) fnExactParseNumbers_row_tie rfl ⟨rfl, rfl⟩ (by kernel_rfl) rfl
    (fun f fn hf hfn => by
      obtain rfl : f = 4 := Option.some.inj ((show Tryd.prog.funcNamed "loop.example/g03209/laws.FnExactParseNumbers" = some 4 by kernel_rfl).symm.trans hf) |>.symm
      obtain rfl : fn = Tryd.f4 := (Option.some.inj (Tryd.func4.symm.trans hfn)).symm
      exact ⟨by kernel_rfl, fun j t ht => by
        rw [Tryd.params4] at ht
        have hm : t ∈ [9] := by simpa using Array.mem_of_getElem? ht
        have hall : ([9].all fun u => !Tryd.prog.wantsStandIn u) = true := by kernel_rfl
        exact (show Tryd.prog.wantsStandIn t = false by simpa using List.all_eq_true.1 hall t hm)⟩)
    (by kernel_rfl)
#print axioms proved
end Go.Proofs.YtfkdkcipnkkplaaDoor.fnExactParseNumbers
