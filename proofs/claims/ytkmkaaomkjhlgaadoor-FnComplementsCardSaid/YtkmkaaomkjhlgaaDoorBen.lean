/- Benches and substitutions as arguments: what is read of them, what is copied. No condition. -/
import Derived.Test.YtkmkaaomkjhlgaaDoorHelp
import Derived.Test.YtkmkaaomkjhlgaaDoorBin
import Derived.Lib.SmallJoins
import Derived.Test.YtkmkaaomkjhlgaaDoorBox
import Derived.Laws.Rows
namespace Go.Proofs.YtkmkaaomkjhlgaaDoor
open Go.RowKit Go.ChangeShapes Go.WideShapes
set_option linter.unusedVariables false

theorem eqSubst_same (zs : List ByteArray) (A A' : Option Addr) (c c' B B' : Nat) (w : World) (hB : B ≤ w.heap.size) (hB' : B' ≤ w.heap.size) (hx : Rds w B A (zs.map Value.string)) (hy : Rds w B' A' (zs.map Value.string)) (hn : zs.length ≤ 4294967296) :
    Calls Tryd.prog 24 #[.agg #[.slice A zs.length c], .agg #[.slice A' zs.length c']] w fun e w' => e = .returned (.bool true) ∧ Below w.heap.size w w' := by
  have b2 : Below w.heap.size w ((w.alloc (.cells #[.slice A zs.length c] 24)).alloc (.cells #[.slice A' zs.length c'] 24)) := ((Below.refl _ w).alloc (Nat.le_refl _) _).alloc (by simp) _
  have hc := eqStringS_same zs A A' c c' B B' _ (hx.below b2 hB) (hy.below b2 hB') hn
  have HC := Lib.hid hc; have HB2 := Lib.hid b2
  clear hc b2 hx hy
  go_enter Tryd.func24, Tryd.ntmps24
  go_wp2_with fail
  refine HC.out.mono ?_
  rintro e w1 ⟨rfl, d1⟩
  go_wp2_with fail
  go_ret
  exact ⟨rfl, HB2.out.trans d1.below⟩
theorem eqBench_same (zs : List ByteArray) (s : ByteArray) (A A' : Option Addr) (c c' B B' : Nat) (w : World) (hB : B ≤ w.heap.size) (hB' : B' ≤ w.heap.size) (hx : Rds w B A (zs.map Value.string)) (hy : Rds w B' A' (zs.map Value.string)) (hn : zs.length ≤ 4294967296) :
    Calls Tryd.prog 7 #[.agg #[.slice A zs.length c, .string s], .agg #[.slice A' zs.length c', .string s]] w fun e w' => e = .returned (.bool true) ∧ Below w.heap.size w w' := by
  have b2 : Below w.heap.size w ((w.alloc (.cells #[.slice A zs.length c, .string s] 26)).alloc (.cells #[.slice A' zs.length c', .string s] 26)) := ((Below.refl _ w).alloc (Nat.le_refl _) _).alloc (by simp) _
  have hz2 : ((w.alloc (.cells #[.slice A zs.length c, .string s] 26)).alloc (.cells #[.slice A' zs.length c', .string s] 26)).heap.size = w.heap.size + 1 + 1 := by simp
  have hc := eqSubst_same zs A A' c c' B B' _ (by rw [hz2]; omega) (by rw [hz2]; omega) (hx.below b2 hB) (hy.below b2 hB') hn
  have h0 := (heap_alloc_old (w.alloc (.cells #[.slice A zs.length c, .string s] 26)) (.cells #[.slice A' zs.length c', .string s] 26) (by simp)).trans (heap_alloc_new w (.cells #[.slice A zs.length c, .string s] 26))
  have h1 := heap_alloc_new (w.alloc (.cells #[.slice A zs.length c, .string s] 26)) (.cells #[.slice A' zs.length c', .string s] 26)
  rw [show (w.alloc (.cells #[.slice A zs.length c, .string s] 26)).heap.size = w.heap.size + 1 from by simp] at h1
  rw [hz2] at hc
  have hee : (s.toList == s.toList) = true := by simp
  have HC := Lib.hid hc; have HB2 := Lib.hid b2; have H0 := Lib.hid h0; have H1 := Lib.hid h1
  clear hc b2 hx hy h0 h1 hz2
  go_enter Tryd.func7, Tryd.ntmps7
  go_wp2_with fail
  refine HC.out.mono ?_
  rintro e w1 ⟨rfl, b1⟩
  have q0 := (b1.block w.heap.size (by omega)).trans H0.out
  have q1 := (b1.block (w.heap.size + 1) (by omega)).trans H1.out
  have k0 : w1.cell? ⟨w.heap.size, 1, none⟩ = some (.string s) := cell_of_row _ _ 1 _ _ (0, 0) q0
  have k1 : w1.cell? ⟨w.heap.size + 1, 1, none⟩ = some (.string s) := cell_of_row _ _ 1 _ _ (0, 0) q1
  clear q0 q1
  have bw : Below w.heap.size w w1 := HB2.out.trans (b1.mono (by omega))
  clear b1
  go_wp2_with fail
  go_ret
  exact ⟨rfl, bw⟩
end Go.Proofs.YtkmkaaomkjhlgaaDoor
