/- For every golden number the law FnExactGoldLine returns true and leaves its argument as it was; no condition; the listed variables are the library's tables, tied. -/
import Derived.Test.YtahdcmhjahkbnaaDoorGln
import Derived.Test.YtahdcmhjahkbnaaDoorGlw
import Derived.Test.YtahdcmhjahkbnaaDoorTbl
import Derived.Test.YtahdcmhjahkbnaaDoorTie
import Derived.Test.YtahdcmhjahkbnaaDoorCards
import Derived.Lay
import Derived.LaidLaws
import Derived.SevenTiedAt
import Derived.LaidMore
namespace Go.Proofs.YtahdcmhjahkbnaaDoor.fnExactGoldLine
open Go.ChangeShapes Go.WideShapes Go.ChangeAt Go.RowKit
open Go.ChangeMaps (open_string shut_string)
set_option linter.unusedVariables false

set_option maxHeartbeats 1000000 in
theorem walk (a b : Int) (w : World) (ha : I64 a) (hb : I64 b) (hL : laidMet Tryd.prog Rows.fnExactGoldLineRow.laid w) :
    Calls Tryd.prog 3 #[.agg #[.int .i64 a, .int .i64 b]] w fun e w' => e = .returned (.bool true) ∧ Below w.heap.size w w' := by
  have t0 := Lib.hid (TB.of hL)
  clear hL
  have bA : Below w.heap.size w (w.alloc (.cells #[Value.int IntKind.i64 a, Value.int IntKind.i64 b] 23)) := (Below.refl _ _).alloc (Nat.le_refl _) _
  have c0 : (w.alloc (.cells #[Value.int IntKind.i64 a, Value.int IntKind.i64 b] 23)).cell? ⟨w.heap.size, 0, none⟩ = some (.int .i64 a) := by simp
  have c1 : (w.alloc (.cells #[Value.int IntKind.i64 a, Value.int IntKind.i64 b] 23)).cell? ⟨w.heap.size, 1, none⟩ = some (.int .i64 b) := by simp
  have hzA : (w.alloc (.cells #[Value.int IntKind.i64 a, Value.int IntKind.i64 b] 23)).heap.size = w.heap.size + 1 := by simp
  go_enter Tryd.func3, Tryd.ntmps3
  go_wp2_with fail
  refine (toGold_any a b _).mono ?_
  rintro e w1 ⟨rfl, b1⟩
  have z1 := b1.size
  have d0 := (b1.cell (p := ⟨w.heap.size, 0, none⟩) (by rw [hzA]; exact Nat.lt_succ_self _)).trans c0
  have d1 := (b1.cell (p := ⟨w.heap.size, 1, none⟩) (by rw [hzA]; exact Nat.lt_succ_self _)).trans c1
  rw [hzA] at z1
  have bw1 : Below w.heap.size w w1 := bA.trans (b1.mono (by rw [hzA]; exact Nat.le_succ _))
  go_wp2_with fail
  refine (sGln_any a b _).mono ?_
  rintro e w2 ⟨rfl, b2⟩
  have z2 := b2.size
  have e0 := (b2.cell (p := ⟨w.heap.size, 0, none⟩) (show w.heap.size < w1.heap.size by omega)).trans d0
  have e1 := (b2.cell (p := ⟨w.heap.size, 1, none⟩) (show w.heap.size < w1.heap.size by omega)).trans d1
  have bw2 : Below w.heap.size w w2 := bw1.trans (b2.mono (by omega))
  go_wp2_with fail
  refine (toGold_any a b _).mono ?_
  rintro e w3 ⟨rfl, b3⟩
  have bw3 : Below w.heap.size w w3 := bw2.trans (b3.mono (by omega))
  go_wp2_with fail
  refine (iGln_any a b _ (t0.out.below bw3)).mono ?_
  rintro e w4 ⟨rfl, b4⟩
  have heq : ((glnV a b).toList == (glnV a b).toList) = true := by simp
  go_wp2_with fail
  go_ret
  exact ⟨rfl, bw3.trans (b4.mono (by have := b3.size; omega))⟩

set_option maxRecDepth 100000 in
theorem lifted (os : Os) (started : os.Started) (H : Type) (enc : TypeId × Value → H) :
    ReturnsInHanded {} Tryd.checked os 3 .any (fun w args => (Rows.fnExactGoldLineSpec.pre enc Tryd.prog Tryd.f3 [] false w args ∧ laidMetH Tryd.prog Rows.fnExactGoldLineRow.laid w) ∧ sizedMet enc Tryd.prog Tryd.f3 (OpenSpec.ofChange Rows.fnExactGoldLineSpec) false w args) (Rows.fnExactGoldLineSpec.post enc Tryd.prog Tryd.f3 false true false false) := by
  refine returnsInHanded_of_change_and (C := Tryd.checked) (X := fun w _ => laidMetH Tryd.prog Rows.fnExactGoldLineRow.laid w) (fun _ _ _ hh h => h.of_heap hh) own started (by kernel_rfl) Tryd.func3
    (ChangeSpec.witness_shaped (enc := enc) (C := Tryd.checked) (os := os) (X := fun w _ => laidMetH Tryd.prog Rows.fnExactGoldLineRow.laid w) false (World.laidAll Tryd.prog os Rows.fnExactGoldLineRow.laid) #[.agg #[.int .i64 0, .int .i64 0]] 8 (World.laidAll_os _ _ _)
      (World.shaped_of_ZipB (by kernel_rfl) (by kernel_rfl)) (by kernel_rfl) (by kernel_rfl) (by kernel_rfl)
      (by rw [MakeChecks.laidMetH_plain _ _ _ (by kernel_rfl)]; exact laidMet_laidAll _ (by kernel_rfl) (by kernel_rfl))) ?_
  intro W base args ds gs before hval0 hW _ _ hL _
  rw [MakeChecks.laidMetH_plain _ _ _ (by kernel_rfl)] at hL
  have hval : ∀ (j : Nat) t v, Tryd.f3.params[j]? = some t → args[j]? = some v → Value.okWide Tryd.prog W .any base t v := hval0
  have hW' := hW
  obtain ⟨p, q, hA0, hV, rfl, hfz, hnd⟩ := hW
  have hA : DataW.TrodAll enc Tryd.prog W 0 (fun _ => true) true Tryd.f3.params.toList args.toList ds p := hA0
  rw [Tryd.params3] at hA hval
  obtain ⟨v0, vs0, d0, ds0, p0, q0, hargs, rfl, rfl, h0, r0⟩ := trodAll_cons hA
  obtain ⟨rfl, rfl, rfl⟩ := trodAll_nil r0
  obtain rfl : args = #[v0] := by cases args; simp_all
  obtain ⟨rfl, rfl⟩ := trodVars_none hV
  have k0 := h0
  have lt0 : ∀ x ∈ p0, x.block < W.heap.size := by obtain ⟨m, hm⟩ := k0; exact DataW.trod_lt m _ _ _ hm
  obtain ⟨ga0, gb0, rfl, w0, y0⟩ := gold_in (hval 0 23 v0 rfl rfl) h0
  clear hA0 hval0
  refine (walk ga0 gb0 W w0 y0 hL).mono fun e W' ⟨he, bel⟩ => ?_
  subst he
  exact ⟨_, rfl, _, _, _, [], _, [], hW', trodAll_mk1 (shut_bool Tryd.underlying4 _), (trodAll_cons_mk (Below.trod laidOut (by kernel_rfl) (of_decide_eq_true (by kernel_rfl)) k0 bel lt0) trodAll_mk0), rfl, bel.frame _, fun h => by cases h⟩

theorem over : Rows.fnExactGoldLineRow.holds Tryd.pinned (OpenSpec.ofChange Rows.fnExactGoldLineSpec) :=
  OpenClaim.holds_of_wide 3 Tryd.f3 rfl rfl rfl rfl rfl rfl rfl ⟨rfl, rfl, rfl, rfl, rfl⟩ rfl rfl rfl rfl rfl (by kernel_rfl) Tryd.func3 (by kernel_rfl)
    (of_decide_eq_true (by kernel_rfl)) (by unfold Func.isWrapper; first | (rw [if_pos (by decide +kernel)]; kernel_rfl) | (rw [if_neg (by decide +kernel)]; exact ⟨rfl, rfl⟩))
    (fun os started H enc _ => lifted os started H enc)

theorem proved : Rows.FnExactGoldLineCardSaid :=
  Claim7.holds_tied_plain_at .later [] _ true _ false over (fun _ h => by cases h) (by kernel_rfl) (fun _ h => by cases h) fnExactGoldLine_row_tie rfl ⟨rfl, rfl⟩ (by kernel_rfl) rfl
    (fun f fn hf hfn => by
      obtain rfl : f = 3 := Option.some.inj ((show Tryd.prog.funcNamed "loop.example/g03209/laws.FnExactGoldLine" = some 3 by kernel_rfl).symm.trans hf) |>.symm
      obtain rfl : fn = Tryd.f3 := (Option.some.inj (Tryd.func3.symm.trans hfn)).symm
      exact ⟨by kernel_rfl, fun j t ht => by
        rw [Tryd.params3] at ht
        have hm : t ∈ [23] := by simpa using Array.mem_of_getElem? ht
        have hall : ([23].all fun u => !Tryd.prog.wantsStandIn u) = true := by kernel_rfl
        exact (show Tryd.prog.wantsStandIn t = false by simpa using List.all_eq_true.1 hall t hm)⟩)
    (by kernel_rfl)
#print axioms proved
end Go.Proofs.YtahdcmhjahkbnaaDoor.fnExactGoldLine
