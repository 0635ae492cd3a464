/- The law FnExactNewBench returns true; no condition; the listed variables are the library's own, tied. -/
import Derived.Test.YtkmkaaomkjhlgaaDoorNbn
import Derived.Test.YtkmkaaomkjhlgaaDoorHsh
import Derived.Test.YtkmkaaomkjhlgaaDoorTie
import Derived.Test.YtkmkaaomkjhlgaaDoorCards
import Derived.Lay
import Derived.LaidLaws
import Derived.SevenTiedAt
import Derived.LaidMore
namespace Go.Proofs.YtkmkaaomkjhlgaaDoor.fnExactNewBench
open Go.ChangeShapes Go.WideShapes Go.ChangeAt Go.RowKit
open Go.ChangeMaps (open_string shut_string)
set_option linter.unusedVariables false

theorem al_below (w : World) (o : Obj) : Below w.heap.size w (w.alloc o) := (Below.refl _ _).alloc (Nat.le_refl _) _
theorem al_size (w : World) (o : Obj) : (w.alloc o).heap.size = w.heap.size + 1 := by simp
set_option maxHeartbeats 1000000 in
theorem walk (w : World) (hsh : w.ShapedOpen Tryd.prog) (hL : laidMet Tryd.prog Rows.fnExactNewBenchRow.laid w) :
    Calls Tryd.prog 3 #[] w fun e w' => e = .returned (.bool true) ∧ Below w.heap.size w w' := by
  have m0 := Lib.hid (MlS.of hsh)
  clear hsh hL
  have hf2 : fibL.length = 2 := rfl
  obtain ⟨zs, hzs⟩ : ∃ zs, fibL = zs := ⟨_, rfl⟩
  rw [hzs] at hf2
  have hi := fun w' h => iNewBench_any w' h
  have hp := fun w' => sNewBench_any w'
  simp only [hzs] at hi hp
  obtain ⟨s, hs⟩ : ∃ s : ByteArray, { data := #[97] } = s := ⟨_, rfl⟩
  simp only [hs] at hi hp
  have heq := fun A A' c c' B B' w' h1 h2 h3 h4 => eqBench_same zs s A A' c c' B B' w' h1 h2 h3 h4 (by omega)
  rw [hf2] at heq
  have hmk := fun A c B w' h1 h2 => markBench_any zs s A 2 c B 1 w' hf2 (by omega) (by omega) (by omega) h1 h2
  have HI := Lib.hid hi; have HP := Lib.hid hp; have HEQ := Lib.hid heq; have HMK := Lib.hid hmk
  clear hi hp heq hmk hf2 hzs hs
  go_enter Tryd.func3, Tryd.ntmps3
  go_wp2_with fail
  refine (HP.out _).mono ?_
  rintro e w1 ⟨A0, c0, rfl, o0, b0⟩
  have e1 := b0.size
  obtain ⟨wa, hwa⟩ : ∃ x, w1.alloc (.cells #[.slice A0 2 c0, .string s] 26) = x := ⟨_, rfl⟩
  have za := al_size w1 (.cells #[.slice A0 2 c0, .string s] 26)
  have ba := al_below w1 (.cells #[.slice A0 2 c0, .string s] 26)
  have qa := heap_alloc_new w1 (.cells #[.slice A0 2 c0, .string s] 26)
  have hni := HI.out (w1.alloc (.cells #[.slice A0 2 c0, .string s] 26)) ((m0.out.below b0).below ba)
  have r0 := o0.reads
  rw [hwa] at za ba qa hni
  have HNI := Lib.hid hni; have QA := Lib.hid qa; have R0 := Lib.hid r0; have B0 := Lib.hid (b0.trans (ba.mono e1)); have HWA := Lib.hid hwa
  clear hni qa r0 hwa o0 b0
  go_wp2_with fail
  rw [HWA.out]
  refine HNI.out.mono ?_
  rintro e w2 ⟨A1, c1, rfl, o1, b1⟩
  have e2 := b1.size
  have bb := al_below w2 (.cells #[.slice A1 2 c1, .string s] 26)
  have zb := al_size w2 (.cells #[.slice A1 2 c1, .string s] 26)
  have q2 := heap_alloc_new w2 (.cells #[.slice A1 2 c1, .string s] 26)
  obtain ⟨wb, hwb⟩ : ∃ x, w2.alloc (.cells #[.slice A1 2 c1, .string s] 26) = x := ⟨_, rfl⟩
  rw [hwb] at bb zb q2
  have b1b : Below wa.heap.size wa wb := b1.trans (bb.mono e2)
  have q1 := (b1b.block w1.heap.size (by omega)).trans QA.out
  have k0 : wb.cell? ⟨w1.heap.size, 0, none⟩ = some (.slice A0 2 c0) := cell_of_row _ _ 0 _ _ (0, 0) q1
  have k1 : wb.cell? ⟨w1.heap.size, 1, none⟩ = some (.string s) := cell_of_row _ _ 1 _ _ (0, 0) q1
  have k2 : wb.cell? ⟨w2.heap.size, 0, none⟩ = some (.slice A1 2 c1) := cell_of_row _ _ 0 _ _ (0, 0) q2
  have k3 : wb.cell? ⟨w2.heap.size, 1, none⟩ = some (.string s) := cell_of_row _ _ 1 _ _ (0, 0) q2
  have o1b := o1.below bb
  have r0b := (R0.out.below ba (Nat.le_refl _)).below b1b (by omega)
  have hq3 := HEQ.out A1 A0 c1 c0 _ _ wb (Nat.le_refl _) (by omega) o1b.reads r0b
  have HQ3 := Lib.hid hq3; have O1B := Lib.hid o1b; have R0B := Lib.hid r0b; have Q1 := Lib.hid q1; have Q2 := Lib.hid q2
  have lt1 := fun g h => (World.ownsRow.lt o1 g h).2
  have LT1 := Lib.hid lt1
  clear hq3 o1b r0b q1 q2 o1 b1 lt1
  go_wp2_with fail
  refine HQ3.out.mono ?_
  rintro e w3 ⟨rfl, b3⟩
  have e3 := b3.size
  clear k0 k1 k2 k3 hwb
  have q2 := (b3.block w2.heap.size (by omega)).trans Q2.out
  have k2 : w3.cell? ⟨w2.heap.size, 0, none⟩ = some (.slice A1 2 c1) := cell_of_row _ _ 0 _ _ (0, 0) q2
  have k3 : w3.cell? ⟨w2.heap.size, 1, none⟩ = some (.string s) := cell_of_row _ _ 1 _ _ (0, 0) q2
  have hm4 := HMK.out A1 c1 wa.heap.size w3 (O1B.out.below b3) (by omega)
  have HM4 := Lib.hid hm4
  have Q2b := Lib.hid q2
  clear hm4 q2
  go_wp2_with fail
  refine HM4.out.mono ?_
  rintro e w4 ⟨rfl, o4, b4, g4⟩
  have e4 := b4.size
  clear k2 k3
  have q2 := (g4.block w2.heap.size (by omega) (fun he => by have := LT1.out _ he.symm; omega)).trans Q2b.out
  have k2 : w4.cell? ⟨w2.heap.size, 0, none⟩ = some (.slice A1 2 c1) := cell_of_row _ _ 0 _ _ (0, 0) q2
  have k3 : w4.cell? ⟨w2.heap.size, 1, none⟩ = some (.string s) := cell_of_row _ _ 1 _ _ (0, 0) q2
  have hh5 := heldBench_any s A1 2 c1 _ 1 w4 (by omega) (by omega) (by omega) (Nat.le_refl _) o4.reads
  have HH5 := Lib.hid hh5; have Q2c := Lib.hid q2; have O4 := Lib.hid o4
  clear hh5 q2 o4 g4
  go_wp2_with fail
  refine HH5.out.mono ?_
  rintro e w5 ⟨rfl, b5⟩
  have e5 := b5.size
  have ba5 : Below wa.heap.size wa w5 := (b1b.trans (b3.mono (by omega))).trans (b4.trans (b5.mono (by omega)))
  have hn6 := HI.out w5 (m0.out.below (B0.out.trans (ba5.mono (by omega))))
  have HN6 := Lib.hid hn6
  clear k2 k3 hn6
  go_wp2_with fail
  refine HN6.out.mono ?_
  rintro e w6 ⟨A6, c6, rfl, o6, b6⟩
  have e6 := b6.size
  have bc := al_below w6 (.cells #[.slice A6 2 c6, .string s] 26)
  have zc := al_size w6 (.cells #[.slice A6 2 c6, .string s] 26)
  have q5 := heap_alloc_new w6 (.cells #[.slice A6 2 c6, .string s] 26)
  obtain ⟨wc, hwc⟩ : ∃ x, w6.alloc (.cells #[.slice A6 2 c6, .string s] 26) = x := ⟨_, rfl⟩
  rw [hwc] at bc zc q5
  have b6c : Below w5.heap.size w5 wc := b6.trans (bc.mono e6)
  have bac : Below wa.heap.size wa wc := ba5.trans (b6c.mono (by omega))
  have q1 := (bac.block w1.heap.size (by omega)).trans QA.out
  have k0 : wc.cell? ⟨w1.heap.size, 0, none⟩ = some (.slice A0 2 c0) := cell_of_row _ _ 0 _ _ (0, 0) q1
  have k1 : wc.cell? ⟨w1.heap.size, 1, none⟩ = some (.string s) := cell_of_row _ _ 1 _ _ (0, 0) q1
  have k4 : wc.cell? ⟨w6.heap.size, 0, none⟩ = some (.slice A6 2 c6) := cell_of_row _ _ 0 _ _ (0, 0) q5
  have k5 : wc.cell? ⟨w6.heap.size, 1, none⟩ = some (.string s) := cell_of_row _ _ 1 _ _ (0, 0) q5
  have hq7 := HEQ.out A6 A0 c6 c0 _ _ wc (Nat.le_refl _) (by have := bac.size; omega) (o6.below bc).reads ((R0.out.below ba (Nat.le_refl _)).below bac (by omega))
  have HQ7 := Lib.hid hq7
  clear hq7 q1 q5 o6
  go_wp2_with fail
  refine HQ7.out.mono ?_
  rintro e w7 ⟨rfl, b7⟩
  have e7 := b7.size
  clear k0 k1 k4 k5 hwc
  have b47 : Below w4.heap.size w4 w7 := (b5.trans (b6c.mono e5)).trans (b7.mono (by have := b6c.size; omega))
  have q2 := (b47.block w2.heap.size (by omega)).trans Q2c.out
  have k2 : w7.cell? ⟨w2.heap.size, 0, none⟩ = some (.slice A1 2 c1) := cell_of_row _ _ 0 _ _ (0, 0) q2
  have k3 : w7.cell? ⟨w2.heap.size, 1, none⟩ = some (.string s) := cell_of_row _ _ 1 _ _ (0, 0) q2
  have hh8 := heldBench_any s A1 2 c1 _ 1 w7 (by omega) (by omega) (by omega) (Nat.le_refl _) (O4.out.below b47).reads
  have HH8 := Lib.hid hh8
  clear hh8 q2
  go_wp2_with fail
  refine HH8.out.mono ?_
  rintro e w8 ⟨rfl, b8⟩
  go_wp2_with fail
  go_ret
  exact ⟨rfl, B0.out.trans ((bac.trans ((b7.mono (by have := b6c.size; omega)).trans (b8.mono (by have := b6c.size; omega)))).mono (by omega))⟩

set_option maxRecDepth 100000 in
theorem lifted (os : Os) (started : os.Started) (H : Type) (enc : TypeId × Value → H) :
    ReturnsInHanded {} Tryd.checked os 3 .any (fun w args => (Rows.fnExactNewBenchSpec.pre enc Tryd.prog Tryd.f3 [] false w args ∧ laidMetH Tryd.prog Rows.fnExactNewBenchRow.laid w) ∧ sizedMet enc Tryd.prog Tryd.f3 (OpenSpec.ofChange Rows.fnExactNewBenchSpec) false w args) (Rows.fnExactNewBenchSpec.post enc Tryd.prog Tryd.f3 false true false false) := by
  refine handed_and_shaped (C := Tryd.checked) (X := fun w _ => laidMetH Tryd.prog Rows.fnExactNewBenchRow.laid w) (fun _ _ _ hh h => h.of_heap hh) own started (by kernel_rfl) Tryd.func3
    (ChangeSpec.witness_shaped (enc := enc) (C := Tryd.checked) (os := os) (X := fun w _ => laidMetH Tryd.prog Rows.fnExactNewBenchRow.laid w) false (World.laidAll Tryd.prog os Rows.fnExactNewBenchRow.laid) #[] 8 (World.laidAll_os _ _ _)
      (World.shaped_of_ZipB (by kernel_rfl) (by kernel_rfl)) (by kernel_rfl) (by kernel_rfl) (by kernel_rfl)
      (by rw [MakeChecks.laidMetH_plain _ _ _ (by kernel_rfl)]; exact laidMet_laidAll _ (by kernel_rfl) (by kernel_rfl))) ?_
  intro W base args ds gs before hval0 hW hL hsh
  rw [MakeChecks.laidMetH_plain _ _ _ (by kernel_rfl)] at hL
  have hval : ∀ (j : Nat) t v, Tryd.f3.params[j]? = some t → args[j]? = some v → Value.okWide Tryd.prog W .any base t v := hval0
  have hW' := hW
  obtain ⟨p, q, hA0, hV, rfl, hfz, hnd⟩ := hW
  have hA : DataW.TrodAll enc Tryd.prog W 0 (fun _ => true) true Tryd.f3.params.toList args.toList ds p := hA0
  rw [Tryd.params3] at hA hval
  obtain ⟨hargs, rfl, rfl⟩ := trodAll_nil hA
  obtain rfl : args = #[] := by cases args; simp_all
  obtain ⟨rfl, rfl⟩ := trodVars_none hV
  clear hA0 hval0
  refine (walk  W hsh hL).mono fun e W' ⟨he, bel⟩ => ?_
  subst he
  exact ⟨_, rfl, _, _, _, [], _, [], hW', trodAll_mk1 (shut_bool Tryd.underlying4 _), trodAll_mk0, rfl, bel.frame _, fun h => by cases h⟩

theorem over : Rows.fnExactNewBenchRow.holds Tryd.pinned (OpenSpec.ofChange Rows.fnExactNewBenchSpec) :=
  OpenClaim.holds_of_wide 3 Tryd.f3 rfl rfl rfl rfl rfl rfl rfl ⟨rfl, rfl, rfl, rfl, rfl⟩ rfl rfl rfl rfl rfl (by kernel_rfl) Tryd.func3 (by kernel_rfl)
    (of_decide_eq_true (by kernel_rfl)) (by unfold Func.isWrapper; first | (rw [if_pos (by decide +kernel)]; kernel_rfl) | (rw [if_neg (by decide +kernel)]; exact ⟨rfl, rfl⟩))
    (fun os started H enc _ => lifted os started H enc)

theorem proved : Rows.FnExactNewBenchCardSaid :=
  Claim7.holds_tied_plain_at .later [] _ true _ _ over (fun _ h => by cases h) (by kernel_rfl) (fun _ h => by cases h) fnExactNewBench_row_tie rfl ⟨rfl, rfl⟩ (by kernel_rfl) rfl
    (fun f fn hf hfn => by
      obtain rfl : f = 3 := Option.some.inj ((show Tryd.prog.funcNamed "loop.example/g03209/laws.FnExactNewBench" = some 3 by kernel_rfl).symm.trans hf) |>.symm
      obtain rfl : fn = Tryd.f3 := (Option.some.inj (Tryd.func3.symm.trans hfn)).symm
      exact ⟨by kernel_rfl, fun j t ht => by
        rw [Tryd.params3] at ht
        simp at ht⟩)
    (by kernel_rfl)
#print axioms proved
end Go.Proofs.YtkmkaaomkjhlgaaDoor.fnExactNewBench
