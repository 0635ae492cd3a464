/- NewBench, both, walked. Asks the shelf's text (strings.Split). No condition. -/
import Derived.Test.YtkmkaaomkjhlgaaDoorNam
import Derived.Test.YtkmkaaomkjhlgaaDoorBmk
namespace Go.Proofs.YtkmkaaomkjhlgaaDoor
open Go.RowKit
set_option linter.unusedVariables false

def fibL : List ByteArray := [{ data := #[97, 98] }, { data := #[97] }]
theorem fib_spl : splS 44 { data := #[97, 98, 44, 97] } = fibL := by
  show [strOf [97, 98], strOf [97]] = fibL
  rfl
theorem fib_ps : psV { data := #[97, 98, 44, 97] } = some fibL := by
  rw [psV, fib_spl, if_pos (by decide)]
theorem fib_nm : nmT { data := #[102, 105, 98, 111, 110, 97, 99, 99, 105] } = { data := #[97, 98, 44, 97] } := by rw [nmT, if_pos rfl]
theorem fib_is : psL (nmT { data := #[102, 105, 98, 111, 110, 97, 99, 99, 105] }) = fibL := by rw [fib_nm, psL, fib_ps]; rfl
theorem fib_yes : (psV (nmT { data := #[102, 105, 98, 111, 110, 97, 99, 99, 105] })).isSome = true := by rw [fib_nm, fib_ps]; rfl
set_option maxRecDepth 4000 in
set_option maxHeartbeats 1000000 in
theorem iNewBench_any (w : World) (hml : MlS w) :
    Calls Tryd.prog 6 #[] w fun e w' => ∃ A c, e = .returned (.agg #[.slice A 2 c, .string { data := #[97] }]) ∧ Own w' w.heap.size 9 (.slice A 2 c) (fibL.map Value.string) ∧ Below w.heap.size w w' := by
  have bA : Below w.heap.size w (w.alloc (.cells #[.slice none 0 0, .string { data := #[] }] 26)) := (Below.refl _ _).alloc (Nat.le_refl _) _
  have h0 := heap_alloc_new w (.cells #[.slice none 0 0, .string { data := #[] }] 26)
  have z0 : (w.alloc (.cells #[.slice none 0 0, .string { data := #[] }] 26)).heap.size = w.heap.size + 1 := by simp
  have hc := iNamed_any { data := #[102, 105, 98, 111, 110, 97, 99, 99, 105] } (w.alloc (.cells #[.slice none 0 0, .string { data := #[] }] 26)) (hml.below bA)
  rw [fib_is, fib_yes, z0] at hc
  simp only [show fibL.length = 2 from rfl] at hc
  have HC := Lib.hid hc; have BA := Lib.hid bA; have H0 := Lib.hid h0; have Z0 := Lib.hid z0
  clear hc bA h0 z0
  go_enter Tryd.func6, Tryd.ntmps6
  go_wp2_with (go_at_call 18; refine HC.out.mono ?_; rintro e w1 ⟨A, c, rfl, o1, b1⟩; have bB : Below w1.heap.size w1 (w1.alloc (.cells #[.slice A 2 c] 24)) := (Below.refl _ _).alloc (Nat.le_refl _) _; have q1 := (bB.block w.heap.size (by have := b1.size; have := Z0.out; omega)).trans ((b1.block w.heap.size (by have := Z0.out; omega)).trans H0.out); have k1 := cell_of_row _ _ 0 _ _ (0, 0) q1; have k2 := cell_of_row _ _ 1 _ _ (0, 0) q1; have f1 := frozen_of_row _ _ 0 _ _ q1; have f2 := frozen_of_row _ _ 1 _ _ q1)
  have z1 := b1.size
  rw [Z0.out] at z1
  have hw2 := BA.out.trans ((b1.mono (by omega)).trans (bB.mono (by omega)))
  have ho := (((o1.below bB).far_set (g := w.heap.size) (k := 0) (by omega) (.slice A 2 c)).far_set (g := w.heap.size) (k := 1) (by omega) (.string { data := #[97] })).lower (B' := w.heap.size) (by omega)
  refine bodyPost_ret (results_cell_row rfl _ _ w.heap.size 26 _ (0, 0) _ rfl (box_set (k := 1) (box_set (k := 0) q1 (.slice A 2 c)) (.string { data := #[97] })) Tryd.underlying26 rfl (by kernel_rfl)) rfl ?_
  exact ⟨A, c, rfl, ho, (hw2.setCell (Nat.le_refl _) _).setCell (Nat.le_refl _) _⟩
set_option maxRecDepth 4000 in
set_option maxHeartbeats 1000000 in
theorem sNewBench_any (w : World) :
    Calls Tryd.prog 5 #[] w fun e w' => ∃ A c, e = .returned (.agg #[.slice A 2 c, .string { data := #[97] }]) ∧ Own w' w.heap.size 9 (.slice A 2 c) (fibL.map Value.string) ∧ Below w.heap.size w w' := by
  have bA : Below w.heap.size w (w.alloc (.cells #[.slice none 0 0, .string { data := #[] }] 26)) := (Below.refl _ _).alloc (Nat.le_refl _) _
  have h0 := heap_alloc_new w (.cells #[.slice none 0 0, .string { data := #[] }] 26)
  have z0 : (w.alloc (.cells #[.slice none 0 0, .string { data := #[] }] 26)).heap.size = w.heap.size + 1 := by simp
  have hc := sNamed_any { data := #[102, 105, 98, 111, 110, 97, 99, 99, 105] } (w.alloc (.cells #[.slice none 0 0, .string { data := #[] }] 26))
  rw [fib_is, fib_yes, z0] at hc
  simp only [show fibL.length = 2 from rfl] at hc
  have HC := Lib.hid hc; have BA := Lib.hid bA; have H0 := Lib.hid h0; have Z0 := Lib.hid z0
  clear hc bA h0 z0
  go_enter Tryd.func5, Tryd.ntmps5
  go_wp2_with (go_at_call 23; refine HC.out.mono ?_; rintro e w1 ⟨A, c, rfl, o1, b1⟩; have bB : Below w1.heap.size w1 (w1.alloc (.cells #[.slice A 2 c] 24)) := (Below.refl _ _).alloc (Nat.le_refl _) _; have q1 := (bB.block w.heap.size (by have := b1.size; have := Z0.out; omega)).trans ((b1.block w.heap.size (by have := Z0.out; omega)).trans H0.out); have k1 := cell_of_row _ _ 0 _ _ (0, 0) q1; have k2 := cell_of_row _ _ 1 _ _ (0, 0) q1; have f1 := frozen_of_row _ _ 0 _ _ q1; have f2 := frozen_of_row _ _ 1 _ _ q1)
  have z1 := b1.size
  rw [Z0.out] at z1
  have hw2 := BA.out.trans ((b1.mono (by omega)).trans (bB.mono (by omega)))
  have ho := (((o1.below bB).far_set (g := w.heap.size) (k := 0) (by omega) (.slice A 2 c)).far_set (g := w.heap.size) (k := 1) (by omega) (.string { data := #[97] })).lower (B' := w.heap.size) (by omega)
  refine bodyPost_ret (results_cell_row rfl _ _ w.heap.size 26 _ (0, 0) _ rfl (box_set (k := 1) (box_set (k := 0) q1 (.slice A 2 c)) (.string { data := #[97] })) Tryd.underlying26 rfl (by kernel_rfl)) rfl ?_
  exact ⟨A, c, rfl, ho, (hw2.setCell (Nat.le_refl _) _).setCell (Nat.le_refl _) _⟩
end Go.Proofs.YtkmkaaomkjhlgaaDoor
