/- Plain numbers: lower numbers grow, and a number from 1 on that is no lower number is an upper number. No program in sight. -/
import Derived.Test.YtkmkaaomkjhlgaaDoorGold
namespace Go.Proofs.YtkmkaaomkjhlgaaDoor
set_option linter.unusedVariables false

theorem sq_exp (m n : Int) : (2 * (0 - m) + n) * (2 * (0 - m) + n) = 4 * (m * m) - 4 * (m * n) + n * n := by
  have h1 : (2 * (0 - m) + n) * (2 * (0 - m) + n) = (2 * m - n) * (2 * m - n) := by
    rw [← Int.neg_mul_neg]; congr 1 <;> omega
  rw [h1, Int.sub_mul, Int.mul_sub, Int.mul_sub]
  have h2 : 2 * m * (2 * m) = 4 * (m * m) := by rw [Int.mul_assoc, Int.mul_left_comm m 2 m]; omega
  have h3 : 2 * m * n = 2 * (m * n) := Int.mul_assoc 2 m n
  have h4 : n * (2 * m) = 2 * (m * n) := by rw [Int.mul_comm n, h3]
  omega
/-- The lower number of n, by squares. -/
theorem low_iff (n m : Int) (hn : 0 ≤ n) (hn2 : n ≤ 1000000) (hm : 0 ≤ m) : m ≤ low n ↔ m * m ≤ m * n + n * n := by
  have hf := flr_is 0 n (by omega) (by omega) (by omega) hn2
  have hg : m ≤ low n ↔ 0 ≤ sg (2 * (0 - m) + n) n := by
    constructor
    · intro h; exact hf.1 m h
    · intro h
      rcases Int.lt_or_le (low n) m with h2 | h2
      · exact absurd h (hf.2.1 m h2)
      · exact h2
  rw [hg]
  have he := sq_exp m n
  have h5 := five_sq n
  have hmn : 0 ≤ m * n := Int.mul_nonneg hm hn
  have hnn : 0 ≤ n * n := Int.mul_nonneg hn hn
  have hmm : 0 ≤ m * m := Int.mul_nonneg hm hm
  have hsmall : 2 * m ≤ n → m * m ≤ m * n := fun h => Int.mul_le_mul_of_nonneg_left (by omega) hm
  have hzero : n = 0 → m * n = 0 ∧ n * n = 0 := by rintro rfl; simp
  have hmz : m * m = 0 → m = 0 := fun h => by rcases Int.mul_eq_zero.1 h with h | h <;> exact h
  have hmz2 : m = 0 → m * m = 0 := fun h => by rw [h]; rfl
  unfold sg
  rw [h5, he]
  constructor
  · intro h
    (repeat' split at h) <;> omega
  · intro h
    (repeat' split) <;> omega
theorem low_nonneg (n : Int) (hn : 0 ≤ n) (hn2 : n ≤ 1000000) : 0 ≤ low n := by
  rw [low_iff n 0 hn hn2 (Int.le_refl _)]
  have := Int.mul_nonneg hn hn
  simp; omega
theorem low_le (n : Int) (hn : 0 ≤ n) (hn2 : n ≤ 1000000) : low n ≤ 2 * n := by
  have h0 := low_nonneg n hn hn2
  have h1 := (low_iff n (low n) hn hn2 h0).1 (Int.le_refl _)
  rcases Int.lt_or_le (2 * n) (low n) with h | h
  · exfalso
    have h2 : low n * (2 * n + 1) ≤ low n * low n := Int.mul_le_mul_of_nonneg_left (by omega) h0
    have h3 : (2 * n + 1) * n ≤ low n * n := Int.mul_le_mul_of_nonneg_right (by omega) hn
    have h4 : low n * (2 * n + 1) = 2 * (low n * n) + low n := by rw [Int.mul_add, Int.mul_left_comm]; omega
    have h5 : (2 * n + 1) * n = 2 * (n * n) + n := by rw [Int.add_mul, Int.mul_assoc]; omega
    have h6 := Int.mul_nonneg hn hn
    omega
  · exact h
theorem low_succ (n : Int) (hn : 0 ≤ n) (hn2 : n < 1000000) : low n + 1 ≤ low (n + 1) := by
  have h0 := low_nonneg n hn (by omega)
  have h1 := (low_iff n (low n) hn (by omega) h0).1 (Int.le_refl _)
  have h2 := low_le n hn (by omega)
  rw [low_iff (n + 1) (low n + 1) (by omega) (by omega) (by omega)]
  generalize low n = m at *
  have e1 : (m + 1) * (m + 1) = m * m + 2 * m + 1 := by rw [Int.add_mul, Int.mul_add]; omega
  have e2 : (m + 1) * (n + 1) = m * n + m + n + 1 := by rw [Int.add_mul, Int.mul_add]; omega
  have e3 : (n + 1) * (n + 1) = n * n + 2 * n + 1 := by rw [Int.add_mul, Int.mul_add]; omega
  rw [e1, e2, e3]
  omega
theorem low_lt {n m : Int} (hn : 0 ≤ n) (h : n < m) (hm : m ≤ 1000000) : low n + (m - n) ≤ low m := by
  obtain ⟨d, rfl⟩ : ∃ d : Nat, m = n + 1 + d := ⟨(m - n - 1).toNat, by omega⟩
  induction d with
  | zero =>
    have := low_succ n hn (by omega)
    rw [show n + 1 + ((0 : Nat) : Int) = n + 1 from by omega]
    omega
  | succ d ih =>
    have h1 := ih (by omega) (by omega)
    have h2 := low_succ (n + 1 + d) (by omega) (by omega)
    rw [show n + 1 + ((d + 1 : Nat) : Int) = n + 1 + d + 1 from by omega]
    omega
theorem low_ge (n : Int) (hn : 0 ≤ n) (hn2 : n ≤ 1000000) : n ≤ low n := by
  rw [low_iff n n hn hn2 hn]
  have := Int.mul_nonneg hn hn
  omega
theorem low_zero : low 0 = 0 := by
  have h1 := low_nonneg 0 (by omega) (by omega)
  have h2 := low_le 0 (by omega) (by omega)
  omega
/-- A number from 1 on is a lower number, or an upper number and no lower number. -/
theorem wythoff (m : Int) (h1 : 1 ≤ m) (h2 : m ≤ 400000) :
    (∃ N, 1 ≤ N ∧ N ≤ m ∧ low N = m) ∨ (∃ k, 1 ≤ k ∧ k ≤ m ∧ low k + k = m ∧ ∀ N, 0 ≤ N → N ≤ 1000000 → low N ≠ m) := by
  obtain ⟨n, hn1, hn2, hn3, hn4⟩ := step_exists (fun n => low n < m) m.toNat 0 (by rw [low_zero]; omega) (by
    have := low_ge (0 + (m.toNat : Int)) (by omega) (by omega)
    have h : ((0 : Int) + m.toNat) = m := by omega
    rw [h] at this ⊢; omega)
  have hb : n < m := by omega
  clear hn2
  by_cases he : low (n + 1) = m
  · exact .inl ⟨n + 1, by omega, by omega, he⟩
  · right
    have hu : ∀ N, 0 ≤ N → N ≤ 1000000 → low N ≠ m := by
      intro N hN hN2 hc
      rcases Int.lt_trichotomy N (n + 1) with h | h | h
      · rcases Int.lt_or_le N n with h3 | h3
        · have := low_lt hN h3 (by omega); omega
        · have : N = n := by omega
          subst this; omega
      · subst h; exact he hc
      · have := low_lt (by omega : 0 ≤ n + 1) h hN2; omega
    have p1 : ¬ (m * m ≤ m * n + n * n) := by
      rw [← low_iff n m hn1 (by omega) (by omega)]; omega
    have p2 : (m + 1) * (m + 1) ≤ (m + 1) * (n + 1) + (n + 1) * (n + 1) := by
      rw [← low_iff (n + 1) (m + 1) (by omega) (by omega) (by omega)]; omega
    have p3 : (m + 1) * (m + 1) ≠ (m + 1) * (n + 1) + (n + 1) * (n + 1) := by
      intro hc
      have h5 := root5 _ (2 * (0 - (m + 1)) + (n + 1)) (n + 1) (Nat.le_refl _) (by rw [sq_exp]; omega)
      have h6 : n + 1 = 2 * (m + 1) := by omega
      omega
    have e1 : (m + 1) * (m + 1) = m * m + 2 * m + 1 := by rw [Int.add_mul, Int.mul_add]; omega
    have e2 : (m + 1) * (n + 1) = m * n + m + n + 1 := by rw [Int.add_mul, Int.mul_add]; omega
    have e3 : (n + 1) * (n + 1) = n * n + 2 * n + 1 := by rw [Int.add_mul, Int.mul_add]; omega
    rw [e1, e2, e3] at p2 p3
    have k1 : n ≤ low (m - n) := by
      rw [low_iff (m - n) n (by omega) (by omega) hn1]
      have a1 : n * (m - n) = m * n - n * n := by rw [Int.mul_sub, Int.mul_comm n m]
      have a2 : (m - n) * (m - n) = m * m - 2 * (m * n) + n * n := by rw [Int.sub_mul, Int.mul_sub, Int.mul_sub, Int.mul_comm n m]; omega
      rw [a1, a2]; omega
    have k2 : ¬ (n + 1 ≤ low (m - n)) := by
      rw [low_iff (m - n) (n + 1) (by omega) (by omega) (by omega)]
      have a1 : (n + 1) * (m - n) = m * n - n * n + m - n := by rw [Int.add_mul, Int.mul_sub, Int.mul_comm n m]; omega
      have a2 : (m - n) * (m - n) = m * m - 2 * (m * n) + n * n := by rw [Int.sub_mul, Int.mul_sub, Int.mul_sub, Int.mul_comm n m]; omega
      rw [a1, a2, e3]; omega
    exact ⟨m - n, by omega, by omega, by omega, hu⟩
end Go.Proofs.YtkmkaaomkjhlgaaDoor
