/- For every substitution the law FnExactSubstLine returns true and leaves its argument as it was; no condition; the listed variables are the library's tables, tied. -/
import Derived.Test.YtoclnikpieebcaaDoorBen
import Derived.Test.YtoclnikpieebcaaDoorSbl
import Derived.Test.YtoclnikpieebcaaDoorTbl
import Derived.Test.YtoclnikpieebcaaDoorTie
import Derived.Test.YtoclnikpieebcaaDoorCards
import Derived.Lay
import Derived.LaidLaws
import Derived.SevenTiedAt
import Derived.LaidMore
namespace Go.Proofs.YtoclnikpieebcaaDoor.fnExactSubstLine
open Go.ChangeShapes Go.WideShapes Go.ChangeAt Go.RowKit
open Go.ChangeMaps (open_string shut_string)
set_option linter.unusedVariables false

set_option maxRecDepth 4000 in
set_option maxHeartbeats 1000000 in
theorem walk (A : Option Addr) (n c : Nat) (zs : List ByteArray) (w : World) (h : StrsIn w A n c zs) (hL : laidMet Tryd.prog Rows.fnExactSubstLineRow.laid w) :
    Calls Tryd.prog 3 #[.agg #[.slice A n c]] w fun e w' => e = .returned (.bool true) ∧ Below w.heap.size w w' := by
  have t0 := Lib.hid (TB.of hL)
  clear hL
  obtain ⟨rb, hrb⟩ : ∃ r, slV zs = r := ⟨_, rfl⟩
  have HRB := Lib.hid hrb
  have hbb : (rb.toList == rb.toList) = true := by simp
  clear hrb
  have hb0 : Below w.heap.size w (w.alloc (.cells #[.slice A n c] 24)) := (Below.refl _ _).alloc (Nat.le_refl _) _
  have h0 := heap_alloc_new w (.cells #[.slice A n c] 24)
  have HB0 := Lib.hid hb0; have HQ := Lib.hid h0; have HH := Lib.hid (h.later hb0)
  clear hb0 h0
  go_enter Tryd.func3, Tryd.ntmps3
  go_wp2_with fail
  refine (szSubst_any zs A n c _ HH.out).mono ?_
  rintro e w1 ⟨r, rfl, hr, hr2, hr3, b1⟩
  have z0 : (w.alloc (.cells #[.slice A n c] 24)).heap.size = w.heap.size + 1 := by simp
  rw [z0] at b1
  have z1 := b1.size
  rw [z0] at z1
  have q1 := (b1.block w.heap.size (by omega)).trans HQ.out
  have bb1 : Below w.heap.size w w1 := HB0.out.trans (b1.mono (by omega))
  have hst1 := h.later bb1
  by_cases hz : r < 0
  · clear q1
    go_wp2_with fail
    go_ret
    exact ⟨rfl, bb1⟩
  · have hn1 := hr (by omega)
    have hl : zs.length = n := h.1
    have HST1 := Lib.hid hst1; have HSZ := Lib.hid h.2.2.2.1; have HL := Lib.hid hl; have HQ1 := Lib.hid q1
    have k0 : w1.cell? ⟨w.heap.size, 0, none⟩ = some (.slice A n c) := cell_of_row _ _ 0 _ _ (0, 0) q1
    clear q1 b1 hst1 h hl hr HB0 HQ HH
    go_wp2_with fail
    refine (toSubst_any zs A n c _ hn1 HST1.out).mono ?_
    rintro e w2 ⟨A2, c2, rfl, o2, b2⟩
    have z2 := b2.size
    have bb2 : Below w.heap.size w w2 := bb1.trans (b2.mono (by omega))
    have q2 := (b2.block w.heap.size (by omega)).trans HQ1.out
    have HQ2 := Lib.hid q2; have HO2 := Lib.hid o2; have HST2 := Lib.hid (HST1.out.later b2)
    clear q2 o2 b2 k0
    have hsb := sSubstLine_anyo zs A2 n c2 _ w2 HL.out (by omega) HSZ.out HO2.out
    rw [HRB.out] at hsb
    have HSB := Lib.hid hsb; clear hsb
    go_wp2_with fail
    refine HSB.out.mono ?_
    rintro e w3 ⟨rfl, b3⟩
    have z3 := b3.size
    have bb3 : Below w.heap.size w w3 := bb2.trans (b3.mono (by omega))
    have q3 := (b3.block w.heap.size (by omega)).trans HQ2.out
    have HQ3 := Lib.hid q3; have HST3 := Lib.hid (HST2.out.later b3)
    have k0 : w3.cell? ⟨w.heap.size, 0, none⟩ = some (.slice A n c) := cell_of_row _ _ 0 _ _ (0, 0) q3
    clear q3 b3
    go_wp2_with fail
    refine (toSubst_any zs A n c _ hn1 HST3.out).mono ?_
    rintro e w4 ⟨A4, c4, rfl, o4, b4⟩
    have z4 := b4.size
    have bb4 : Below w.heap.size w w4 := bb3.trans (b4.mono (by omega))
    have q4 := (b4.block w.heap.size (by omega)).trans HQ3.out
    have HQ4 := Lib.hid q4; have HO4 := Lib.hid o4; have HST4 := Lib.hid (HST3.out.later b4)
    clear q4 o4 b4 k0
    go_wp2_with fail
    have hb5 : Below w4.heap.size w4 (w4.alloc (.cells #[.slice A4 n c4] 27)) := (Below.refl _ _).alloc (Nat.le_refl _) _
    have z5 : (w4.alloc (.cells #[.slice A4 n c4] 27)).heap.size = w4.heap.size + 1 := by simp
    have q5 := heap_alloc_new w4 (.cells #[.slice A4 n c4] 27)
    have hib := iSubstLine_anyo zs A4 n c4 _ (w4.alloc (.cells #[.slice A4 n c4] 27)) HL.out (by omega) HSZ.out (HO4.out.below hb5) (t0.out.below (bb4.trans (hb5.mono bb4.size)))
    rw [HRB.out, z5] at hib
    have HIB := Lib.hid hib; have HB5 := Lib.hid hb5; have HQ5 := Lib.hid q5
    clear hib hb5 q5 z5
    refine HIB.out.mono ?_
    rintro e w6 ⟨rfl, b6⟩
    have z6 := b6.size
    have b46 : Below w4.heap.size w4 w6 := HB5.out.trans (b6.mono (by omega))
    have z6' := b46.size
    have hz6 : w4.heap.size + 1 ≤ w6.heap.size := by simp at z6; omega
    have bb6 : Below w.heap.size w w6 := bb4.trans (b46.mono (by omega))
    have q6 := (b46.block w.heap.size (by omega)).trans HQ4.out
    have q7 := (b6.block w4.heap.size (by omega)).trans HQ5.out
    have k0 : w6.cell? ⟨w.heap.size, 0, none⟩ = some (.slice A n c) := cell_of_row _ _ 0 _ _ (0, 0) q6
    have m0 : w6.cell? ⟨w4.heap.size, 0, none⟩ = some (.slice A4 n c4) := cell_of_row _ _ 0 _ _ (0, 0) q7
    have htb : ∀ w0, Dr w6 w0 → Calls Tryd.prog 6 #[.agg #[.slice A n c]] w0 fun e w' => ∃ A' c', e = .returned (.agg #[.slice A' n c']) ∧ Own w' w0.heap.size 9 (.slice A' n c') (zs.map Value.string) ∧ Below w0.heap.size w0 w' := fun w0 hd => toSubst_any zs A n c w0 hn1 (((HST4.out).later b46).dr hd)
    have heq : ∀ w7 A7 c7 B7, Own w7 B7 9 (.slice A7 n c7) (zs.map Value.string) → Below w6.heap.size w6 w7 → Calls Tryd.prog 8 #[.agg #[.slice A4 n c4], .agg #[.slice A7 n c7]] w7 fun e w' => e = .returned (.bool true) ∧ Below w7.heap.size w7 w' := fun w7 A7 c7 B7 ho hb => by
      have hq := eqSubst_same zs A4 A7 c4 c7 _ _ w7 (Nat.le_refl _) (Nat.le_refl _) ((HO4.out.below b46).below hb).reads ho.reads (by rw [HL.out]; omega)
      rwa [HL.out] at hq
    have HTB := Lib.hid htb; have HEQ := Lib.hid heq
    clear htb heq q6 q7 b6 b46 z6 z6'
    go_wp2_with fail
    go_region_with (first
      | (go_at_call 6; refine (HTB.out _ (Dr.refl _).drew).mono ?_; rintro e w7 ⟨A7, c7, rfl, o7, b7⟩; have m0' := (b7.cell (p := ⟨w4.heap.size, 0, none⟩) hz6).trans m0)
      | (go_at_call 8; refine (HEQ.out _ _ _ _ o7 (((Dr.refl _).drew).below.trans b7)).mono ?_; rintro e w8 ⟨rfl, b8⟩))
    all_goals
      have b67 : Below w6.heap.size w6 w7 := ((Dr.refl w6).drew).below.trans b7
      have z67 := b67.size
      have bb8 : Below w.heap.size w w8 := (bb6.trans (b67.mono bb6.size)).trans (b8.mono (by have := bb6.size; omega))
      go_wp2_with fail
      go_ret
      exact ⟨rfl, bb8⟩

set_option maxRecDepth 100000 in
theorem lifted (os : Os) (started : os.Started) (H : Type) (enc : TypeId × Value → H) :
    ReturnsInHanded {} Tryd.checked os 3 .any (fun w args => (Rows.fnExactSubstLineSpec.pre enc Tryd.prog Tryd.f3 [] false w args ∧ laidMetH Tryd.prog Rows.fnExactSubstLineRow.laid w) ∧ sizedMet enc Tryd.prog Tryd.f3 (OpenSpec.ofChange Rows.fnExactSubstLineSpec) false w args) (Rows.fnExactSubstLineSpec.post enc Tryd.prog Tryd.f3 false true false false) := by
  refine returnsInHanded_of_change_and (C := Tryd.checked) (X := fun w _ => laidMetH Tryd.prog Rows.fnExactSubstLineRow.laid w) (fun _ _ _ hh h => h.of_heap hh) own started (by kernel_rfl) Tryd.func3
    (ChangeSpec.witness_shaped (enc := enc) (C := Tryd.checked) (os := os) (X := fun w _ => laidMetH Tryd.prog Rows.fnExactSubstLineRow.laid w) false (World.laidAll Tryd.prog os Rows.fnExactSubstLineRow.laid) #[.agg #[.slice none 0 0]] 8 (World.laidAll_os _ _ _)
      (World.shaped_of_ZipB (by kernel_rfl) (by kernel_rfl)) (by kernel_rfl) (by kernel_rfl) (by kernel_rfl)
      (by rw [MakeChecks.laidMetH_plain _ _ _ (by kernel_rfl)]; exact laidMet_laidAll _ (by kernel_rfl) (by kernel_rfl))) ?_
  intro W base args ds gs before hval0 hW _ _ hL _
  rw [MakeChecks.laidMetH_plain _ _ _ (by kernel_rfl)] at hL
  have hval : ∀ (j : Nat) t v, Tryd.f3.params[j]? = some t → args[j]? = some v → Value.okWide Tryd.prog W .any base t v := hval0
  have hW' := hW
  obtain ⟨p, q, hA0, hV, rfl, hfz, hnd⟩ := hW
  have hA : DataW.TrodAll enc Tryd.prog W 0 (fun _ => true) true Tryd.f3.params.toList args.toList ds p := hA0
  rw [Tryd.params3] at hA hval
  obtain ⟨v0, vs0, d0, ds0, p0, q0, hargs, rfl, rfl, h0, r0⟩ := trodAll_cons hA
  obtain ⟨rfl, rfl, rfl⟩ := trodAll_nil r0
  obtain rfl : args = #[v0] := by cases args; simp_all
  obtain ⟨rfl, rfl⟩ := trodVars_none hV
  have k0 := h0
  have lt0 : ∀ x ∈ p0, x.block < W.heap.size := by obtain ⟨m, hm⟩ := k0; exact DataW.trod_lt m _ _ _ hm
  obtain ⟨s0, len0, cap0, z0, rfl, w0⟩ := subst_in (hval 0 24 v0 rfl rfl) h0 lt0
  clear hA0 hval0
  refine (walk s0 len0 cap0 z0 W w0 hL).mono fun e W' ⟨he, bel⟩ => ?_
  subst he
  exact ⟨_, rfl, _, _, _, [], _, [], hW', trodAll_mk1 (shut_bool Tryd.underlying4 _), (trodAll_cons_mk (Below.trod laidOut (by kernel_rfl) (of_decide_eq_true (by kernel_rfl)) k0 bel lt0) trodAll_mk0), rfl, bel.frame _, fun h => by cases h⟩

theorem over : Rows.fnExactSubstLineRow.holds Tryd.pinned (OpenSpec.ofChange Rows.fnExactSubstLineSpec) :=
  OpenClaim.holds_of_wide 3 Tryd.f3 rfl rfl rfl rfl rfl rfl rfl ⟨rfl, rfl, rfl, rfl, rfl⟩ rfl rfl rfl rfl rfl (by kernel_rfl) Tryd.func3 (by kernel_rfl)
    (of_decide_eq_true (by kernel_rfl)) (by unfold Func.isWrapper; first | (rw [if_pos (by decide +kernel)]; kernel_rfl) | (rw [if_neg (by decide +kernel)]; exact ⟨rfl, rfl⟩))
    (fun os started H enc _ => lifted os started H enc)

theorem proved : Rows.FnExactSubstLineCardSaid :=
  Claim7.holds_tied_plain_at .later [] _ true _ _ over (fun _ h => by cases h) (by kernel_rfl) (fun _ h => by cases h) fnExactSubstLine_row_tie rfl ⟨rfl, rfl⟩ (by kernel_rfl) rfl
    (fun f fn hf hfn => by
      obtain rfl : f = 3 := Option.some.inj ((show Tryd.prog.funcNamed "loop.example/g03209/laws.FnExactSubstLine" = some 3 by kernel_rfl).symm.trans hf) |>.symm
      obtain rfl : fn = Tryd.f3 := (Option.some.inj (Tryd.func3.symm.trans hfn)).symm
      exact ⟨by kernel_rfl, fun j t ht => by
        rw [Tryd.params3] at ht
        have hm : t ∈ [24] := by simpa using Array.mem_of_getElem? ht
        have hall : ([24].all fun u => !Tryd.prog.wantsStandIn u) = true := by kernel_rfl
        exact (show Tryd.prog.wantsStandIn t = false by simpa using List.all_eq_true.1 hall t hm)⟩)
    (by kernel_rfl)
#print axioms proved
end Go.Proofs.YtoclnikpieebcaaDoor.fnExactSubstLine
