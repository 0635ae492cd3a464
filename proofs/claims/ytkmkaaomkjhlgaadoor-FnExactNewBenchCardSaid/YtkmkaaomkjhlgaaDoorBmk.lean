/- Marks laid into benches, and what is found of them. No condition but the bounds. -/
import Derived.Test.YtkmkaaomkjhlgaaDoorBen
import Derived.Test.YtkmkaaomkjhlgaaDoorMark
namespace Go.Proofs.YtkmkaaomkjhlgaaDoor
open Go.RowKit
set_option linter.unusedVariables false

theorem markSubst_any (xs : List ByteArray) (A : Option Addr) (n c B m : Nat) (w : World) (hl : xs.length = n) (hn : n ≤ 4294967296) (hm1 : 1 ≤ m) (hm : m ≤ 4294967296) (hown : Own w B 9 (.slice A n c) (xs.map Value.string)) (hBw : B ≤ w.heap.size) :
    Calls Tryd.prog 25 #[.agg #[.slice A n c], .int .i64 m] w fun e w' => e = .returned (.int .i64 ((m + n : Nat) : Int)) ∧ Own w' B 9 (.slice A n c) ((mtx m n).map Value.string) ∧ Below B w w' ∧ w.grownBy w' (Value.slice A n c).ownBlock := by
  subst hl
  have bA : Below w.heap.size w (w.alloc (.cells #[.slice A xs.length c] 24)) := (Below.refl _ _).alloc (Nat.le_refl _) _
  have hc := markStringS_any xs A c B m _ hn hm1 hm (hown.below bA) (Nat.le_trans hBw bA.size)
  have HC := Lib.hid hc; have BA := Lib.hid bA
  clear hc bA hown
  go_enter Tryd.func25, Tryd.ntmps25
  go_wp2_with (go_at_call 42; refine HC.out.mono ?_; rintro e w1 ⟨rfl, o1, b1, g1⟩)
  go_ret
  exact ⟨rfl, o1, (BA.out.mono hBw).trans b1, grownBy_trans ⟨BA.out.os, BA.out.tape, BA.out.output, BA.out.size, fun k hk _ => BA.out.block k hk⟩ g1⟩
theorem markBench_any (xs : List ByteArray) (s : ByteArray) (A : Option Addr) (n c B m : Nat) (w : World) (hl : xs.length = n) (hn : n ≤ 4294967296) (hm1 : 1 ≤ m) (hm : m ≤ 4294967296) (hown : Own w B 9 (.slice A n c) (xs.map Value.string)) (hBw : B ≤ w.heap.size) :
    Calls Tryd.prog 8 #[.agg #[.slice A n c, .string s], .int .i64 m] w fun e w' => e = .returned (.int .i64 ((m + n : Nat) : Int)) ∧ Own w' B 9 (.slice A n c) ((mtx m n).map Value.string) ∧ Below B w w' ∧ w.grownBy w' (Value.slice A n c).ownBlock := by
  have bA : Below w.heap.size w (w.alloc (.cells #[.slice A n c, .string s] 26)) := (Below.refl _ _).alloc (Nat.le_refl _) _
  have hc := markSubst_any xs A n c B m _ hl hn hm1 hm (hown.below bA) (Nat.le_trans hBw bA.size)
  have HC := Lib.hid hc; have BA := Lib.hid bA
  clear hc bA hown
  go_enter Tryd.func8, Tryd.ntmps8
  go_wp2_with (go_at_call 25; refine HC.out.mono ?_; rintro e w1 ⟨rfl, o1, b1, g1⟩)
  go_ret
  exact ⟨rfl, o1, (BA.out.mono hBw).trans b1, grownBy_trans ⟨BA.out.os, BA.out.tape, BA.out.output, BA.out.size, fun k hk _ => BA.out.block k hk⟩ g1⟩
theorem heldSubst_any (A : Option Addr) (n c B m : Nat) (w : World) (hn : n ≤ 4294967296) (hm1 : 1 ≤ m) (hm : m ≤ 4294967296) (hBw : B ≤ w.heap.size) (hrd : Rds w B A ((mtx m n).map Value.string)) :
    Calls Tryd.prog 26 #[.agg #[.slice A n c], .int .i64 m] w fun e w' => e = .returned (.int .i64 ((m + n : Nat) : Int)) ∧ Below w.heap.size w w' := by
  have bA : Below w.heap.size w (w.alloc (.cells #[.slice A n c] 24)) := (Below.refl _ _).alloc (Nat.le_refl _) _
  have hc := heldStringS_any n A c B m _ hn hm1 hm (Nat.le_trans hBw bA.size) (hrd.below bA hBw)
  obtain ⟨q, hq⟩ : ∃ q, m + n = q := ⟨_, rfl⟩
  rw [hq] at hc ⊢
  have HC := Lib.hid hc; have BA := Lib.hid bA
  have hq0 : decide ((q : Int) < 0) = false := decide_eq_false (by omega)
  clear hc bA hrd hq
  go_enter Tryd.func26, Tryd.ntmps26
  go_wp2_with (go_at_call 43; refine HC.out.mono ?_; rintro e w1 ⟨rfl, b1⟩)
  go_ret
  exact ⟨rfl, BA.out.trans (b1.mono BA.out.size)⟩
theorem heldBench_any (s : ByteArray) (A : Option Addr) (n c B m : Nat) (w : World) (hn : n ≤ 4294967296) (hm1 : 1 ≤ m) (hm : m ≤ 4294967296) (hBw : B ≤ w.heap.size) (hrd : Rds w B A ((mtx m n).map Value.string)) :
    Calls Tryd.prog 9 #[.agg #[.slice A n c, .string s], .int .i64 m] w fun e w' => e = .returned (.int .i64 ((m + n : Nat) : Int)) ∧ Below w.heap.size w w' := by
  have bA : Below w.heap.size w (w.alloc (.cells #[.slice A n c, .string s] 26)) := (Below.refl _ _).alloc (Nat.le_refl _) _
  have hc := heldSubst_any A n c B m _ hn hm1 hm (Nat.le_trans hBw bA.size) (hrd.below bA hBw)
  obtain ⟨q, hq⟩ : ∃ q, m + n = q := ⟨_, rfl⟩
  rw [hq] at hc ⊢
  have HC := Lib.hid hc; have BA := Lib.hid bA
  have hq0 : decide ((q : Int) < 0) = false := decide_eq_false (by omega)
  clear hc bA hrd hq
  go_enter Tryd.func9, Tryd.ntmps9
  go_wp2_with (go_at_call 26; refine HC.out.mono ?_; rintro e w1 ⟨rfl, b1⟩)
  go_ret
  exact ⟨rfl, BA.out.trans (b1.mono BA.out.size)⟩
end Go.Proofs.YtkmkaaomkjhlgaaDoor
