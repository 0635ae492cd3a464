/- A golden number as an argument: what is read of it, what is copied. No condition. -/
import Derived.Test.YtahdcmhjahkbnaaDoorBox
import Derived.Lib.SmallJoins
import Derived.Laws.Rows
namespace Go.Proofs.YtahdcmhjahkbnaaDoor
open Go.RowKit Go.ChangeShapes Go.WideShapes
set_option linter.unusedVariables false

section
variable {H : Type} {enc : TypeId × Value → H} {W : World} {r : Reach} {b0 : Nat} {v : Value} {d : DataW H} {ps : List MemPlace}
set_option maxRecDepth 100000 in
theorem gold_in (hv : Value.okWide Tryd.prog W r b0 23 v) (h : DataW.Trod enc Tryd.prog W 0 (fun _ => true) true 23 v d ps) :
    ∃ a b, v = .agg #[.int .i64 a, .int .i64 b] ∧ I64 a ∧ I64 b := by
  obtain ⟨v0, v1, y0, y1, m, rfl, _, hp, h0, h1⟩ := Joins.open_agg2 Tryd.underlying23 (by kernel_rfl) (by kernel_rfl) hv h
  obtain ⟨a, ha, _, ha2⟩ := DataW.trod_int Tryd.underlying3 h0
  obtain ⟨b, hb, _, hb2⟩ := DataW.trod_int Tryd.underlying3 h1
  have hs0 : v0 = .int .i64 a := by simpa using ha
  have hs1 : v1 = .int .i64 b := by simpa using hb
  subst hs0 hs1
  exact ⟨a, b, rfl, int_bounds ha2, int_bounds hb2⟩
end
set_option maxRecDepth 4000 in
theorem toGold_any (a b : Int) (w : World) :
    Calls Tryd.prog 11 #[.agg #[.int .i64 a, .int .i64 b]] w fun e w' => e = .returned (.agg #[.int .i64 a, .int .i64 b]) ∧ Below w.heap.size w w' := by
  have hbx := boxes3 w (.cells #[.int .i64 a, .int .i64 b] 23) #[.int .i64 0, .int .i64 0] #[.int .i64 0, .int .i64 0] 25 25
  have hbf := boxes3_first w #[.int .i64 a, .int .i64 b] 23 (.cells #[.int .i64 0, .int .i64 0] 25) (.cells #[.int .i64 0, .int .i64 0] 25)
  have hb3 : Below w.heap.size w (((w.alloc (.cells #[.int .i64 a, .int .i64 b] 23)).alloc (.cells #[.int .i64 0, .int .i64 0] 25)).alloc (.cells #[.int .i64 0, .int .i64 0] 25)) := (((Below.refl _ w).alloc (Nat.le_refl _) _).alloc (by simp) _).alloc (by simp; omega) _
  obtain ⟨w1, hw1⟩ : ∃ w1, (((w.alloc (.cells #[.int .i64 a, .int .i64 b] 23)).alloc (.cells #[.int .i64 0, .int .i64 0] 25)).alloc (.cells #[.int .i64 0, .int .i64 0] 25)) = w1 := ⟨_, rfl⟩
  rw [hw1] at hbx hbf hb3
  obtain ⟨q1, q2⟩ := hbx
  have k0 : w1.cell? ⟨w.heap.size, 0, none⟩ = some (.int .i64 a) := cell_of_row _ _ 0 _ _ (0, 0) hbf
  have k0b : w1.cell? ⟨w.heap.size, 1, none⟩ = some (.int .i64 b) := cell_of_row _ _ 1 _ _ (0, 0) hbf
  have k1 : w1.cell? ⟨w.heap.size + 1, 0, none⟩ = some (.int .i64 0) := cell_of_row _ _ 0 _ _ (0, 0) q1
  have k1b : w1.cell? ⟨w.heap.size + 1, 1, none⟩ = some (.int .i64 0) := cell_of_row _ _ 1 _ _ (0, 0) q1
  have k2 : w1.cell? ⟨w.heap.size + 1 + 1, 0, none⟩ = some (.int .i64 0) := cell_of_row _ _ 0 _ _ (0, 0) q2
  have k2b : w1.cell? ⟨w.heap.size + 1 + 1, 1, none⟩ = some (.int .i64 0) := cell_of_row _ _ 1 _ _ (0, 0) q2
  have f1 : w1.frozen? ⟨w.heap.size + 1, 0, none⟩ = false := frozen_of_row _ _ 0 _ _ q1
  have f1b : w1.frozen? ⟨w.heap.size + 1, 1, none⟩ = false := frozen_of_row _ _ 1 _ _ q1
  have f2 : w1.frozen? ⟨w.heap.size + 1 + 1, 0, none⟩ = false := frozen_of_row _ _ 0 _ _ q2
  have f2b : w1.frozen? ⟨w.heap.size + 1 + 1, 1, none⟩ = false := frozen_of_row _ _ 1 _ _ q2
  have HQ1 := Lib.hid q1; have HB3 := Lib.hid hb3; have HW := Lib.hid hw1
  clear q1 q2 hb3 hbf hw1
  go_enter Tryd.func11, Tryd.ntmps11
  go_wp2_with (rw [HW.out])
  have q3 := box_set (k := 1) (box_set (k := 0) (box_far (g' := w.heap.size + 1 + 1) (k := 1) (box_far (g' := w.heap.size + 1 + 1) (k := 0) HQ1.out (by omega) (.int .i64 a)) (by omega) (.int .i64 b)) (.int .i64 a)) (.int .i64 b)
  refine bodyPost_ret (v := .agg #[.int .i64 a, .int .i64 b]) (results_cell_row rfl _ _ (w.heap.size + 1) 25 _ (0, 0) _ rfl q3 Tryd.underlying25 rfl (by kernel_rfl)) rfl ⟨rfl, ?_⟩
  have g1 : w.heap.size ≤ w.heap.size + 1 := by omega
  have g2 : w.heap.size ≤ w.heap.size + 1 + 1 := by omega
  exact (((HB3.out.setCell g2 _).setCell g2 _).setCell g1 _).setCell g1 _
end Go.Proofs.YtahdcmhjahkbnaaDoor
