/- PowerOfGold(10). No condition. -/
import Derived.Test.YtbegecoocgkbiaaGreatDoorNum
import Derived.Test.YtbegecoocgkbiaaGreatDoorPsu
namespace Go.Proofs.YtbegecoocgkbiaaGreatDoor
open Go.RowKit
set_option linter.unusedVariables false

/-- The powers of the golden number. -/
def gpw : Nat → Int × Int
  | 0 => (1, 0)
  | k + 1 => ((gpw k).2, (gpw k).1 + (gpw k).2)
theorem gpw_bd : ∀ k, k < 11 → (-100 ≤ (gpw k).1 ∧ (gpw k).1 ≤ 100) ∧ (-100 ≤ (gpw k).2 ∧ (gpw k).2 ≤ 100) := by decide
set_option maxHeartbeats 400000 in
theorem times01 (a b : Int) (ha : -1000000 ≤ a ∧ a ≤ 1000000) (hb : -1000000 ≤ b ∧ b ≤ 1000000) (w : World) :
    Calls Tryz.prog 76 #[.agg #[.int .i64 a, .int .i64 b], .agg #[.int .i64 0, .int .i64 1]] w fun e w' => e = .returned (.agg #[.int .i64 b, .int .i64 (a + b)]) ∧ Below w.heap.size w w' := by
  obtain ⟨h1, h2⟩ := ha
  obtain ⟨h3, h4⟩ := hb
  go_enter Tryz.func76, Tryz.ntmps76
  go_wp2_with fail
  simp [bodyPost, results, Tryz.results76, go_sem]
  exact ((((Below.refl _ _).alloc (Nat.le_refl _) _).alloc (by simp) _).alloc (by simp; omega) _)
set_option maxRecDepth 4000 in
set_option maxHeartbeats 2000000 in
theorem pog_10 (w : World) :
    Calls Tryz.prog 17 #[.int .i64 10] w fun e w' => e = .returned (.tuple #[.agg #[.int .i64 34, .int .i64 55], .bool true]) ∧ Below w.heap.size w w' := by
  have b1 : Below w.heap.size w (((w.alloc (.cells #[.int .i64 0, .int .i64 0] 41)).alloc (.cells #[.int .i64 0, .int .i64 1] 41)).alloc (.cells #[.int .i64 1, .int .i64 0] 41)) := (((Below.refl _ _).alloc (Nat.le_refl _) _).alloc (by simp) _).alloc (by simp; omega) _
  have hb := boxes3 w (.cells #[.int .i64 0, .int .i64 0] 41) #[.int .i64 0, .int .i64 1] #[.int .i64 1, .int .i64 0] 41 41
  have hf := boxes3_first w #[.int .i64 0, .int .i64 0] 41 (.cells #[.int .i64 0, .int .i64 1] 41) (.cells #[.int .i64 1, .int .i64 0] 41)
  have z3 : (((w.alloc (.cells #[.int .i64 0, .int .i64 0] 41)).alloc (.cells #[.int .i64 0, .int .i64 1] 41)).alloc (.cells #[.int .i64 1, .int .i64 0] 41)).heap.size = w.heap.size + 1 + 1 + 1 := by simp
  have HB1 := Lib.hid b1; have HBX := Lib.hid hb; have HF := Lib.hid hf; have HZ := Lib.hid z3
  clear b1 hb hf z3
  go_enter Tryz.func17, Tryz.ntmps17
  go_wp2_with (go_at_call 61; with_reducible refine (within_yes _ _ _ (by decide) _).mono ?_; rintro e w' ⟨rfl, rfl⟩)
  go_loopw [18] (fun i wr => ∃ k : Nat, k ≤ 10 ∧ i = .int .i64 k ∧ wr.heap[w.heap.size + 1 + 1]? = some (.cells #[.int .i64 (gpw k).1, .int .i64 (gpw k).2] 41 (0, 0)) ∧ wr.heap[w.heap.size + 1]? = some (.cells #[.int .i64 0, .int .i64 1] 41 (0, 0)) ∧ wr.heap[w.heap.size]? = some (.cells #[.int .i64 0, .int .i64 0] 41 (0, 0)) ∧ Below w.heap.size w wr ∧ w.heap.size + 1 + 1 + 1 ≤ wr.heap.size) (fun i _ => 11 - (intOf i).toNat)
  case atStart => exact ⟨0, by omega, rfl, HBX.out.2, HBX.out.1, HF.out, HB1.out, by rw [HZ.out]; exact Nat.le_refl _⟩
  case round =>
    clear HBX HF HB1 HZ
    obtain ⟨k, hk, rfl, q5, q4, q2, hbe, hsz⟩ := hrel
    obtain ⟨⟨a1, a2⟩, ⟨a3, a4⟩⟩ := gpw_bd k (by omega)
    have hnx : gpw (k + 1) = ((gpw k).2, (gpw k).1 + (gpw k).2) := rfl
    have h10 : k = 10 → gpw k = (34, 55) := fun h => by subst h; rfl
    obtain ⟨a, ha⟩ : ∃ a, (gpw k).1 = a := ⟨_, rfl⟩
    obtain ⟨b, hb⟩ : ∃ b, (gpw k).2 = b := ⟨_, rfl⟩
    rw [ha, hb] at hnx q5
    rw [ha] at a1 a2
    rw [hb] at a3 a4
    have c50 := cell_of_row _ _ 0 _ _ (0, 0) q5
    have c51 := cell_of_row _ _ 1 _ _ (0, 0) q5
    have c40 := cell_of_row _ _ 0 _ _ (0, 0) q4
    have c41 := cell_of_row _ _ 1 _ _ (0, 0) q4
    have Q5 := Lib.hid q5; have Q4 := Lib.hid q4; have Q2 := Lib.hid q2; have HNX := Lib.hid hnx; have HBE := Lib.hid hbe
    clear q5 q4 q2 hnx hbe
    by_cases hlt : k < 10
    · clear h10
      have hlt2 : (k : Int) < 10 := by omega
      have htm := times01 a b ⟨by omega, by omega⟩ ⟨by omega, by omega⟩ wr
      have HTM := Lib.hid htm
      clear htm ha hb
      go_wp2_with fail
      refine HTM.out.mono ?_
      rintro e w1 ⟨rfl, d1⟩
      have p5 := (d1.block (w.heap.size + 1 + 1) (by omega)).trans Q5.out
      have p4 := (d1.block (w.heap.size + 1) (by omega)).trans Q4.out
      have p2 := (d1.block w.heap.size (by omega)).trans Q2.out
      have s1 := d1.size
      have hb1 := HBE.out.trans (d1.mono HBE.out.size)
      have e50 := cell_of_row _ _ 0 _ _ (0, 0) p5
      have e51 := cell_of_row _ _ 1 _ _ (0, 0) p5
      have f50 := frozen_of_row _ _ 0 _ _ p5
      have f51 := frozen_of_row _ _ 1 _ _ p5
      have P5 := Lib.hid (box_set (k := 1) (box_set (k := 0) p5 (.int .i64 b)) (.int .i64 (a + b)))
      have P4 := Lib.hid (box_far (g' := w.heap.size + 1 + 1) (k := 1) (box_far (g' := w.heap.size + 1 + 1) (k := 0) p4 (by omega) (.int .i64 b)) (by omega) (.int .i64 (a + b)))
      have P2 := Lib.hid (box_far (g' := w.heap.size + 1 + 1) (k := 1) (box_far (g' := w.heap.size + 1 + 1) (k := 0) p2 (by omega) (.int .i64 b)) (by omega) (.int .i64 (a + b)))
      have PB := Lib.hid ((hb1.setCell (show w.heap.size ≤ w.heap.size + 1 + 1 by omega) (p := ⟨w.heap.size + 1 + 1, 0, none⟩) (.int .i64 b)).setCell (show w.heap.size ≤ w.heap.size + 1 + 1 by omega) (p := ⟨w.heap.size + 1 + 1, 1, none⟩) (.int .i64 (a + b)))
      clear p5 p4 p2 hb1 d1 c50 c51 c40 c41
      go_wp2_with fail
      go_roundw
      case rel => exact ⟨k + 1, by omega, by go_num, by rw [HNX.out]; exact P5.out, P4.out, P2.out, PB.out, by simp; omega⟩
      case measure => simp [intOf]; omega
    · have hk10 : k = 10 := by omega
      have h2 := h10 hk10
      rw [h2] at ha hb
      simp only at ha hb
      subst ha hb hk10
      clear h10
      have f20 := frozen_of_row _ _ 0 _ _ Q2.out
      have f21 := frozen_of_row _ _ 1 _ _ Q2.out
      have c20 := cell_of_row _ _ 0 _ _ (0, 0) Q2.out
      have c21 := cell_of_row _ _ 1 _ _ (0, 0) Q2.out
      go_wp2_with fail
      have q6 := box_set (k := 1) (box_set (k := 0) Q2.out (.int .i64 34)) (.int .i64 55)
      refine bodyPost_ret (results_cell_tmp_row rfl _ _ w.heap.size 41 _ (0, 0) _ rfl q6 Tryz.underlying41 rfl (by kernel_rfl)) rfl ⟨rfl, ?_⟩
      exact (HBE.out.setCell (Nat.le_refl _) _).setCell (Nat.le_refl _) _
end Go.Proofs.YtbegecoocgkbiaaGreatDoor
