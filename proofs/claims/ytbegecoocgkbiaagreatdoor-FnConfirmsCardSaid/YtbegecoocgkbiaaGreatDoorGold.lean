/- Numbers of the golden ring: the sign and the floor, both; lower numbers. -/
import Derived.Test.YtbegecoocgkbiaaGreatDoorM1
import Derived.Test.YtbegecoocgkbiaaGreatDoorNum
namespace Go.Proofs.YtbegecoocgkbiaaGreatDoor
open Go.RowKit
set_option linter.unusedVariables false

/-- The sign of p plus q times the root of 5. -/
def sg (p q : Int) : Int :=
  if p = 0 ∧ q = 0 then 0 else if (0 ≤ p ∧ 0 ≤ q) ∨ (0 < p ∧ 5 * q * q < p * p) ∨ (0 < q ∧ ¬ 5 * q * q < p * p) then 1 else -1

theorem sq_bd {x : Int} {m : Int} (h1 : -m ≤ x) (h2 : x ≤ m) : 0 ≤ x * x ∧ x * x ≤ m * m := by
  rcases Int.le_total 0 x with h | h
  · exact ⟨Int.mul_nonneg h h, Int.mul_le_mul h2 h2 h (by omega)⟩
  · rw [← Int.neg_mul_neg]
    exact ⟨Int.mul_nonneg (by omega) (by omega), Int.mul_le_mul (by omega) (by omega) (by omega) (by omega)⟩
theorem five_sq (q : Int) : 5 * q * q = 5 * (q * q) := Int.mul_assoc 5 q q
theorem five_bd {x : Int} {m : Int} (h1 : -m ≤ x) (h2 : x ≤ m) : 0 ≤ 5 * x * x ∧ 5 * x * x ≤ 5 * (m * m) := by
  have := sq_bd h1 h2
  rw [five_sq]; omega

set_option maxHeartbeats 1000000 in
theorem iSign_any (a b : Int) (ha : -16777216 ≤ a) (ha2 : a ≤ 16777216) (hb : -16777216 ≤ b) (hb2 : b ≤ 16777216) (w : World) :
    Calls Tryz.prog 164 #[.agg #[.int .i64 a, .int .i64 b]] w fun e w' => e = .returned (.int .i64 (sg (2 * a + b) b)) ∧ Below w.heap.size w w' := by
  have p1 := sq_bd (x := 2 * a + b) (m := 50331648) (by omega) (by omega)
  have p2 := five_bd (x := b) (m := 16777216) (by omega) (by omega)
  obtain ⟨p3, p4⟩ := p1
  obtain ⟨p5, p6⟩ := p2
  by_cases hb0 : b = 0
  · subst hb0
    clear p3 p4 p5 p6
    go_enter Tryz.func164, Tryz.ntmps164
    go_wp2_with fail
    go_quiet (fail)
    go_wp2_with fail
    all_goals go_ret
    all_goals refine ⟨ret_int ?_, below_drewN ((Below.refl _ _).alloc (Nat.le_refl _) _) _⟩
    all_goals (unfold sg; (repeat' split) <;> first | rfl | omega)
  · have hbe : (b == 0) = false := by simpa using hb0
    by_cases g : 5 * b * b < (2 * a + b) * (2 * a + b)
    all_goals
      go_enter Tryz.func164, Tryz.ntmps164
      go_wp2_with fail
      go_quiet (fail)
      go_wp2_with fail
      all_goals go_ret
      all_goals refine ⟨ret_int ?_, below_drewN ((Below.refl _ _).alloc (Nat.le_refl _) _) _⟩
      all_goals (try simp only [Bool.not_eq_false', Bool.not_eq_true', decide_eq_true_eq, decide_eq_false_iff_not] at *)
      all_goals (unfold sg; (repeat' split) <;> first | rfl | omega)
theorem root5 : ∀ (n : Nat) (p q : Int), p.natAbs ≤ n → p * p = 5 * (q * q) → p = 0
  | 0, p, q, h, _ => by omega
  | n + 1, p, q, h, he => by
    have h5 : p % 5 = 0 := by
      have h1 : (p * p) % 5 = 0 := by omega
      have h2 : p % 5 = 0 ∨ p % 5 = 1 ∨ p % 5 = 2 ∨ p % 5 = 3 ∨ p % 5 = 4 := by omega
      rw [Int.mul_emod] at h1
      rcases h2 with h2 | h2 | h2 | h2 | h2 <;> rw [h2] at h1 <;> first | exact h2 | (exfalso; revert h1; decide)
    obtain ⟨r, rfl⟩ : ∃ r, p = 5 * r := ⟨p / 5, by omega⟩
    have hq : q * q = 5 * (r * r) := by
      have : 5 * r * (5 * r) = 25 * (r * r) := by rw [Int.mul_assoc, Int.mul_left_comm r 5 r]; omega
      omega
    by_cases hr : r = 0
    · omega
    · have hqq : q = 0 := by
        have hlt : q.natAbs ≤ n := by
          have h1 : q * q < (5 * r) * (5 * r) := by
            have : 5 * r * (5 * r) = 25 * (r * r) := by rw [Int.mul_assoc, Int.mul_left_comm r 5 r]; omega
            have : 0 < r * r := by
              rcases Int.lt_trichotomy r 0 with h | h | h
              · rw [← Int.neg_mul_neg]; exact Int.mul_pos (by omega) (by omega)
              · exact absurd h hr
              · exact Int.mul_pos h h
            omega
          rcases Nat.lt_or_ge q.natAbs (5 * r).natAbs with h2 | h2
          · omega
          · exfalso
            have h3 : (5 * r).natAbs * (5 * r).natAbs ≤ q.natAbs * q.natAbs := Nat.mul_le_mul h2 h2
            have h4 : (((5 * r).natAbs * (5 * r).natAbs : Nat) : Int) ≤ ((q.natAbs * q.natAbs : Nat) : Int) := by omega
            rw [Int.natAbs_mul_self, Int.natAbs_mul_self] at h4
            omega
        exact root5 n q r hlt hq
      subst hqq
      have h6 : r * r = 0 := by simp at hq; omega
      rcases Int.mul_eq_zero.1 h6 with h | h <;> omega
/-- Whether the number a plus b times the golden number is at least m. -/
def gge (a b m : Int) : Prop := 0 ≤ sg (2 * (a - m) + b) b
theorem sg_mono {p p' q : Int} (h : p ≤ p') (h0 : 0 ≤ sg p q) : 0 ≤ sg p' q := by
  unfold sg at h0 ⊢
  have hsq : (0 ≤ p → p * p ≤ p' * p') ∧ (p' ≤ 0 → p' * p' ≤ p * p) := by
    constructor
    · intro h1; exact Int.mul_le_mul h h h1 (by omega)
    · intro h1; rw [← Int.neg_mul_neg p', ← Int.neg_mul_neg p]; exact Int.mul_le_mul (by omega) (by omega) (by omega) (by omega)
  obtain ⟨s1, s2⟩ := hsq
  have hq := sq_bd (x := q) (m := q.natAbs) (by omega) (by omega)
  have hp := sq_bd (x := p) (m := p.natAbs) (by omega) (by omega)
  have hp' := sq_bd (x := p') (m := p'.natAbs) (by omega) (by omega)
  obtain ⟨q1, _⟩ := hq
  obtain ⟨p1, _⟩ := hp
  obtain ⟨p2, _⟩ := hp'
  rw [five_sq] at h0 ⊢
  (repeat' split at h0) <;> (repeat' split) <;> omega
theorem gge_mono {a b m m' : Int} (h : m' ≤ m) (h0 : gge a b m) : gge a b m' := sg_mono (by omega) h0
theorem gge_uniq {a b m m' : Int} (h1 : gge a b m) (h2 : ¬ gge a b (m + 1)) (h3 : gge a b m') (h4 : ¬ gge a b (m' + 1)) : m = m' := by
  rcases Int.lt_trichotomy m m' with h | h | h
  · exact absurd (gge_mono (by omega) h3) h2
  · exact h
  · exact absurd (gge_mono (by omega) h1) h4

set_option maxHeartbeats 400000 in
theorem minus_any (a b c d : Int) (ha : -16777216 ≤ a) (ha2 : a ≤ 16777216) (hb : -16777216 ≤ b) (hb2 : b ≤ 16777216) (hc : -16777216 ≤ c) (hc2 : c ≤ 16777216) (hd : -16777216 ≤ d) (hd2 : d ≤ 16777216) (w : World) :
    Calls Tryz.prog 163 #[.agg #[.int .i64 a, .int .i64 b], .agg #[.int .i64 c, .int .i64 d]] w fun e w' => e = .returned (.agg #[.int .i64 (a - c), .int .i64 (b - d)]) ∧ Below w.heap.size w w' := by
  go_enter Tryz.func163, Tryz.ntmps163
  go_wp2_with fail
  simp [bodyPost, results, Tryz.results163, go_sem]
  exact ((((Below.refl _ _).alloc (Nat.le_refl _) _).alloc (by simp) _).alloc (by simp; omega) _)
set_option maxHeartbeats 400000 in
theorem compare_any (a b c d : Int) (ha : -8388608 ≤ a) (ha2 : a ≤ 8388608) (hb : -8388608 ≤ b) (hb2 : b ≤ 8388608) (hc : -8388608 ≤ c) (hc2 : c ≤ 8388608) (hd : -8388608 ≤ d) (hd2 : d ≤ 8388608) (w : World) :
    Calls Tryz.prog 141 #[.agg #[.int .i64 a, .int .i64 b], .agg #[.int .i64 c, .int .i64 d]] w fun e w' => e = .returned (.int .i64 (sg (2 * (a - c) + (b - d)) (b - d))) ∧ Below w.heap.size w w' := by
  go_enter Tryz.func141, Tryz.ntmps141
  go_wp2_with fail
  refine (minus_any a b c d (by omega) (by omega) (by omega) (by omega) (by omega) (by omega) (by omega) (by omega) _).mono ?_
  rintro e w1 ⟨rfl, b1⟩
  go_wp2_with fail
  refine (iSign_any (a - c) (b - d) (by omega) (by omega) (by omega) (by omega) _).mono ?_
  rintro e w2 ⟨rfl, b2⟩
  go_wp2_with fail
  go_ret
  have s1 := b1.size
  simp at s1
  exact ⟨rfl, ((((Below.refl _ _).alloc (Nat.le_refl _) _).alloc (by simp) _).trans (b1.mono (by simp; omega))).trans (b2.mono (by omega))⟩
theorem compare0_any (a b c : Int) (ha : -8388608 ≤ a) (ha2 : a ≤ 8388608) (hb : -8388608 ≤ b) (hb2 : b ≤ 8388608) (hc : -8388608 ≤ c) (hc2 : c ≤ 8388608) (w : World) :
    Calls Tryz.prog 141 #[.agg #[.int .i64 a, .int .i64 b], .agg #[.int .i64 c, .int .i64 0]] w fun e w' => e = .returned (.int .i64 (sg (2 * (a - c) + b) b)) ∧ Below w.heap.size w w' := by
  have h := compare_any a b c 0 ha ha2 hb hb2 hc hc2 (by omega) (by omega) w
  rwa [Int.sub_zero] at h

/-- The floor of a plus b times the golden number. -/
def IsFloor (a b F : Int) : Prop := (∀ m, m ≤ F → 0 ≤ sg (2 * (a - m) + b) b) ∧ (∀ m, F < m → ¬ 0 ≤ sg (2 * (a - m) + b) b) ∧ -4000000 ≤ F ∧ F < 4000000

set_option maxHeartbeats 400000 in
theorem iFloor_any (a b F : Int) (ha : -1000000 ≤ a) (ha2 : a ≤ 1000000) (hb : -1000000 ≤ b) (hb2 : b ≤ 1000000) (hF : IsFloor a b F) (w : World) :
    Calls Tryz.prog 106 #[.agg #[.int .i64 a, .int .i64 b]] w fun e w' => e = .returned (.int .i64 F) ∧ Below w.heap.size w w' := by
  obtain ⟨hF1, hF2, hF3, hF4⟩ := hF
  have H1 := Lib.hid hF1; clear hF1
  have H2 := Lib.hid hF2; clear hF2
  go_enter Tryz.func106, Tryz.ntmps106
  go_wp2_with fail
  have c0 : (w.alloc (.cells #[Value.int IntKind.i64 a, Value.int IntKind.i64 b] 41)).cell? ⟨w.heap.size, 0, none⟩ = some (.int .i64 a) := by simp
  have c1 : (w.alloc (.cells #[Value.int IntKind.i64 a, Value.int IntKind.i64 b] 41)).cell? ⟨w.heap.size, 1, none⟩ = some (.int .i64 b) := by simp
  have hb0 : Below w.heap.size w (w.alloc (.cells #[Value.int IntKind.i64 a, Value.int IntKind.i64 b] 41)) := (Below.refl _ _).alloc (Nat.le_refl _) _
  have hs0 : w.heap.size < (w.alloc (.cells #[Value.int IntKind.i64 a, Value.int IntKind.i64 b] 41)).heap.size := by simp
  generalize (w.alloc (.cells #[Value.int IntKind.i64 a, Value.int IntKind.i64 b] 41)) = W at *
  go_loopw [3, 4, 5] (fun l h _ wr => ∃ low high : Int, -5000000 ≤ low ∧ low ≤ F ∧ F < high ∧ high ≤ 5000000 ∧ l = .int .i64 low ∧ h = .int .i64 high ∧ Below W.heap.size W wr) (fun l h _ _ => (intOf h - intOf l).toNat)
  case atStart => exact ⟨_, _, by omega, by omega, by omega, by omega, rfl, rfl, Below.refl _ _⟩
  case round =>
    obtain ⟨low, high, k1, k2, k3, k4, rfl, rfl, hbel⟩ := hrel
    have d0 := (hbel.cell (p := ⟨w.heap.size, 0, none⟩) hs0).trans c0
    have d1 := (hbel.cell (p := ⟨w.heap.size, 1, none⟩) hs0).trans c1
    by_cases hgo : 1 < high - low
    · obtain ⟨mid, hmid⟩ : ∃ mid, mid = low + (high - low) / 2 := ⟨_, rfl⟩
      have hm1 : low < low + (high - low) / 2 := by omega
      have hm2 : low + (high - low) / 2 < high := by omega
      by_cases hg : low + (high - low) / 2 ≤ F
      · have hs := H1.out _ hg
        clear hmid
        go_wp2_with fail
        refine (compare0_any a b (low + (high - low) / 2) (by omega) (by omega) (by omega) (by omega) (by omega) (by omega) _).mono ?_
        rintro e w1 ⟨rfl, b1⟩
        go_wp2_with fail
        go_roundw
        case rel => exact ⟨_, high, by omega, hg, k3, k4, rfl, rfl, hbel.trans (b1.mono hbel.size)⟩
        case measure => simp [intOf]; omega
      · have hs := H2.out _ (show F < low + (high - low) / 2 by omega)
        clear hmid
        go_wp2_with fail
        refine (compare0_any a b (low + (high - low) / 2) (by omega) (by omega) (by omega) (by omega) (by omega) (by omega) _).mono ?_
        rintro e w1 ⟨rfl, b1⟩
        go_wp2_with fail
        go_roundw
        case rel => exact ⟨low, _, by omega, k2, by omega, by omega, rfl, rfl, hbel.trans (b1.mono hbel.size)⟩
        case measure => simp [intOf]; omega
    · go_wp2_with fail
      go_ret
      exact ⟨ret_int (by omega), hb0.trans (hbel.mono (by omega))⟩
theorem step_exists (P : Int → Prop) (n : Nat) : ∀ (m : Int), P m → ¬ P (m + n) → ∃ k, m ≤ k ∧ k < m + n ∧ P k ∧ ¬ P (k + 1) := by
  induction n with
  | zero => intro m h1 h2; simp at h2; exact absurd h1 h2
  | succ n ih =>
    intro m h1 h2
    by_cases h : P (m + 1)
    · obtain ⟨k, hk1, hk2, hk3, hk4⟩ := ih (m + 1) h (by rw [show m + 1 + (n : Int) = m + ((n + 1 : Nat) : Int) from by omega]; exact h2)
      exact ⟨k, by omega, by omega, hk3, hk4⟩
    · exact ⟨m, by omega, by omega, h1, h⟩
theorem floor_exists (a b : Int) (ha : -1000000 ≤ a) (ha2 : a ≤ 1000000) (hb : -1000000 ≤ b) (hb2 : b ≤ 1000000) : ∃ F, IsFloor a b F := by
  have hb5 := sq_bd (x := b) (m := 1000000) hb hb2
  have hlo : 0 ≤ sg (2 * (a - -4000000) + b) b := by
    have h1 : 5000000 ≤ 2 * (a - -4000000) + b := by omega
    have h2 := Int.mul_le_mul h1 h1 (by omega) (by omega)
    unfold sg; rw [five_sq]
    (repeat' split) <;> omega
  have hhi : ¬ 0 ≤ sg (2 * (a - 4000000) + b) b := by
    have h1 : 5000000 ≤ -(2 * (a - 4000000) + b) := by omega
    have h2 := Int.mul_le_mul h1 h1 (by omega) (by omega)
    rw [Int.neg_mul_neg] at h2
    unfold sg; rw [five_sq]
    (repeat' split) <;> omega
  obtain ⟨F, h1, h2, h3, h4⟩ := step_exists (fun m => 0 ≤ sg (2 * (a - m) + b) b) 8000000 (-4000000) hlo (by
    rw [show (-4000000 : Int) + (8000000 : Nat) = 4000000 from by omega]; exact hhi)
  refine ⟨F, fun m hm => sg_mono (by omega) h3, fun m hm h => h4 (sg_mono (by omega) h), by omega, by omega⟩
/-- The floor, as a function. -/
noncomputable def flr (a b : Int) : Int := Classical.epsilon (IsFloor a b)
theorem flr_is (a b : Int) (ha : -1000000 ≤ a) (ha2 : a ≤ 1000000) (hb : -1000000 ≤ b) (hb2 : b ≤ 1000000) : IsFloor a b (flr a b) :=
  Classical.epsilon_spec (floor_exists a b ha ha2 hb hb2)
/-- The lower number of n. -/
noncomputable def low (n : Int) : Int := flr 0 n
theorem low_bd (n : Int) (h : 0 ≤ n) (h2 : n ≤ 100000) : 0 ≤ low n ∧ low n < 4000000 := by
  have hf := flr_is 0 n (by omega) (by omega) (by omega) (by omega)
  refine ⟨?_, hf.2.2.2⟩
  unfold low
  rcases Int.lt_or_le (flr 0 n) 0 with h0 | h0
  · exfalso
    refine hf.2.1 0 h0 ?_
    unfold sg
    (repeat' split) <;> omega
  · exact h0
set_option maxHeartbeats 400000 in
theorem lower_any (n : Int) (h : 0 ≤ n) (h2 : n ≤ 100000) (w : World) :
    Calls Tryz.prog 84 #[.int .i64 n] w fun e w' => e = .returned (.int .i64 (low n)) ∧ Below w.heap.size w w' := by
  have hf := flr_is 0 n (by omega) (by omega) (by omega) (by omega)
  have HF := Lib.hid hf; clear hf
  go_enter Tryz.func84, Tryz.ntmps84
  go_wp2_with fail
  refine (iFloor_any 0 n (flr 0 n) (by omega) (by omega) (by omega) (by omega) HF.out _).mono ?_
  rintro e w1 ⟨rfl, b1⟩
  go_wp2_with fail
  go_ret
  exact ⟨rfl, b1⟩
end Go.Proofs.YtbegecoocgkbiaaGreatDoor
