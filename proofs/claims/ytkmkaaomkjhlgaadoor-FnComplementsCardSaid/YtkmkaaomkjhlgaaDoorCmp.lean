/- Lower and upper numbers, plain: each number is one of the two and once; the game's lost positions. No program. -/
import Derived.Test.YtkmkaaomkjhlgaaDoorMove
import Derived.Test.YtkmkaaomkjhlgaaDoorIdx
namespace Go.Proofs.YtkmkaaomkjhlgaaDoor
open Go.RowKit
set_option linter.unusedVariables false

theorem low_mono {i j : Int} (hi : 0 ≤ i) (h : i ≤ j) (hj : j ≤ 1000000) : low i ≤ low j := by
  rcases Int.lt_or_le i j with h1 | h1
  · have := low_lt hi h1 hj; omega
  · have : i = j := by omega
    rw [this]; omega
theorem low_inj {i j : Int} (hi : 0 ≤ i) (hi2 : i ≤ 1000000) (hj : 0 ≤ j) (hj2 : j ≤ 1000000) (h : low i = low j) : i = j := by
  rcases Int.lt_trichotomy i j with h1 | h1 | h1
  · have := low_lt hi h1 hj2; omega
  · exact h1
  · have := low_lt hj h1 hi2; omega
theorem up_inj {i j : Int} (hi : 0 ≤ i) (hi2 : i ≤ 1000000) (hj : 0 ≤ j) (hj2 : j ≤ 1000000) (h : low i + i = low j + j) : i = j := by
  rcases Int.lt_trichotomy i j with h1 | h1 | h1
  · have := low_lt hi h1 hj2; omega
  · exact h1
  · have := low_lt hj h1 hi2; omega
/-- What bounds a lower number, both ways. -/
theorem low_sq (k : Int) (hk : 0 ≤ k) (hk2 : k ≤ 1000000) : low k * low k ≤ low k * k + k * k ∧ (low k + 1) * k + k * k < (low k + 1) * (low k + 1) := by
  have h0 := low_nonneg k hk hk2
  refine ⟨(low_iff k _ hk hk2 h0).1 (by omega), ?_⟩
  have := mt (low_iff k (low k + 1) hk hk2 (by omega)).2 (by omega)
  omega
/-- low (low k) lies below low k + k. -/
theorem low_low_lt (k : Int) (hk : 1 ≤ k) (hk2 : k ≤ 400000) : low (low k) < low k + k := by
  have h0 := low_nonneg k (by omega) (by omega)
  have hle := low_le k (by omega) (by omega)
  have hge := low_ge k (by omega) (by omega)
  obtain ⟨c, _⟩ := low_sq k (by omega) (by omega)
  rcases Int.lt_or_le (low (low k)) (low k + k) with h | h
  · exact h
  · exfalso
    have h1 := (low_iff (low k) (low k + k) (by omega) (by omega) (by omega)).1 h
    generalize low k = l at *
    have e1 : (l + k) * (l + k) = l * l + 2 * (l * k) + k * k := by rw [Int.add_mul, Int.mul_add, Int.mul_add, Int.mul_comm k l]; omega
    have e2 : (l + k) * l = l * l + l * k := by rw [Int.add_mul, Int.mul_comm k l]
    rw [e1, e2] at h1
    have h5 := root5 _ (2 * (0 - l) + k) k (Nat.le_refl _) (by rw [sq_exp]; omega)
    omega
/-- low (low k + 1) lies above low k + k. -/
theorem low_low_gt (k : Int) (hk : 1 ≤ k) (hk2 : k ≤ 400000) : low k + k + 1 ≤ low (low k + 1) := by
  have h0 := low_nonneg k (by omega) (by omega)
  have hle := low_le k (by omega) (by omega)
  obtain ⟨_, d⟩ := low_sq k (by omega) (by omega)
  rw [low_iff (low k + 1) (low k + k + 1) (by omega) (by omega) (by omega)]
  generalize low k = l at *
  obtain ⟨x, hx⟩ : ∃ x, l + 1 = x := ⟨_, rfl⟩
  rw [show l + k + 1 = x + k by omega]
  rw [hx] at d ⊢
  have e1 : (x + k) * (x + k) = x * x + 2 * (x * k) + k * k := by rw [Int.add_mul, Int.mul_add, Int.mul_add, Int.mul_comm k x]; omega
  have e2 : (x + k) * x = x * x + x * k := by rw [Int.add_mul, Int.mul_comm k x]
  rw [e1, e2]
  omega
/-- No upper number is a lower one. -/
theorem low_ne_up (k N : Int) (hk : 1 ≤ k) (hk2 : k ≤ 400000) (hN : 0 ≤ N) (hN2 : N ≤ 1000000) : low N ≠ low k + k := by
  intro h
  have h0 := low_nonneg k (by omega) (by omega)
  have hle := low_le k (by omega) (by omega)
  have h1 := low_low_lt k hk hk2
  have h2 := low_low_gt k hk hk2
  rcases Int.lt_or_le N (low k + 1) with h3 | h3
  · have := low_mono hN (show N ≤ low k by omega) (by omega); omega
  · have := low_mono (by omega) h3 hN2; omega
theorem low_step (n : Int) (hn : 0 ≤ n) (hn2 : n ≤ 400000) : low (n + 1) ≤ low n + 2 := by
  have h0 := low_nonneg n (by omega) (by omega)
  have hge := low_ge n (by omega) (by omega)
  obtain ⟨_, d⟩ := low_sq n (by omega) (by omega)
  rcases Int.lt_or_le (low n + 2) (low (n + 1)) with h | h
  · exfalso
    have h1 := (low_iff (n + 1) (low n + 3) (by omega) (by omega) (by omega)).1 (by omega)
    generalize low n = l at *
    obtain ⟨x, hx⟩ : ∃ x, l + 1 = x := ⟨_, rfl⟩
    rw [show l + 3 = x + 2 by omega] at h1
    rw [hx] at d
    have e1 : (x + 2) * (x + 2) = x * x + 4 * x + 4 := by rw [Int.add_mul, Int.mul_add]; omega
    have e2 : (x + 2) * (n + 1) = x * n + x + 2 * n + 2 := by rw [Int.add_mul, Int.mul_add]; omega
    have e3 : (n + 1) * (n + 1) = n * n + 2 * n + 1 := by rw [Int.add_mul, Int.mul_add]; omega
    rw [e1, e2, e3] at h1
    have h2 : 3 * x ≤ 4 * n := by omega
    have h3 := Int.mul_le_mul h2 (show 3 * x - 3 * n ≤ n by omega) (by omega) (by omega)
    have e4 : 3 * x * (3 * x - 3 * n) = 9 * (x * x) - 9 * (x * n) := by
      rw [Int.mul_sub, Int.mul_assoc 3 x (3 * x), Int.mul_left_comm x 3 x, Int.mul_assoc 3 x (3 * n), Int.mul_left_comm x 3 n]; omega
    have e5 : 4 * n * n = 4 * (n * n) := Int.mul_assoc 4 n n
    rw [e4, e5] at h3
    have : 0 ≤ n * n := Int.mul_nonneg hn hn
    have : 1 ≤ n := by omega
    have := Int.mul_pos (show 0 < n by omega) (show 0 < n by omega)
    omega
  · exact h
/-- 'a lower number's lower number is one less than its upper number'. -/
theorem low_low (k : Int) (hk : 1 ≤ k) (hk2 : k ≤ 100000) : low (low k) = low k + k - 1 := by
  have hle := low_le k (by omega) (by omega)
  have h0 := low_nonneg k (by omega) (by omega)
  have h1 := low_low_lt k hk (by omega)
  have h2 := low_low_gt k hk (by omega)
  have h3 := low_step (low k) h0 (by omega)
  omega

theorem lost_iff (a b : Int) : lostB a b = true ↔ (a ≤ b ∧ a = low (b - a)) ∨ (b < a ∧ b = low (a - b)) := by
  unfold lostB
  split <;> simp <;> omega
theorem lost_sym (a b : Int) : lostB a b = lostB b a := by
  rw [Bool.eq_iff_iff, lost_iff, lost_iff]
  by_cases h : a = b
  · subst h; simp
  · omega
/-- Of each number one partner alone. -/
theorem lost_one {a b c : Int} (ha : 0 ≤ a) (ha2 : a ≤ 1000) (hb : 0 ≤ b) (hb2 : b ≤ 1000) (hc : 0 ≤ c) (hc2 : c ≤ 1000) (h1 : lostB a b = true) (h2 : lostB a c = true) : b = c := by
  rw [lost_iff] at h1 h2
  rcases h1 with ⟨p, q⟩ | ⟨p, q⟩ <;> rcases h2 with ⟨r, s⟩ | ⟨r, s⟩
  · have := low_inj (by omega) (by omega) (by omega) (by omega) (q.symm.trans s); omega
  · exact absurd (by omega) (low_ne_up (a - c) (b - a) (by omega) (by omega) (by omega) (by omega))
  · exact absurd (by omega) (low_ne_up (a - b) (c - a) (by omega) (by omega) (by omega) (by omega))
  · have := up_inj (i := a - b) (j := a - c) (by omega) (by omega) (by omega) (by omega) (by omega); omega
theorem lost_diag {a b x : Int} (hx : 1 ≤ x) (h1 : lostB a b = true) (h2 : lostB (a - x) (b - x) = true) : False := by
  rw [lost_iff] at h1 h2
  rw [show b - x - (a - x) = b - a by omega, show a - x - (b - x) = a - b by omega] at h2
  omega
/-- A position that is not lost has a move to a lost one. -/
theorem lost_move1 (a b : Int) (ha : 0 ≤ a) (hab : a ≤ b) (hb : b ≤ 1000) (h : lostB a b = false) :
    (∃ y, 1 ≤ y ∧ y ≤ b ∧ lostB a (b - y) = true) ∨ (∃ x, 1 ≤ x ∧ x ≤ a ∧ lostB (a - x) (b - x) = true) := by
  have hd : ¬ lostB a b = true := by rw [h]; simp
  rw [lost_iff] at hd
  have h0 := low_nonneg (b - a) (by omega) (by omega)
  rcases Int.lt_trichotomy a (low (b - a)) with h1 | h1 | h1
  · left
    by_cases ha0 : a = 0
    · refine ⟨b, ?_, by omega, ?_⟩
      · rcases Int.lt_or_le 0 b with h2 | h2
        · omega
        · have : b - a = 0 := by omega
          rw [this, low_zero] at h1; omega
      · rw [lost_iff]; left; subst ha0; exact ⟨by omega, by rw [show b - b - 0 = (0 : Int) by omega, low_zero]⟩
    · rcases wythoff a (by omega) (by omega) with ⟨N, e1, e2, e3⟩ | ⟨k, e1, e2, e3, _⟩
      · have hNd : N < b - a := by
          rcases Int.lt_or_le N (b - a) with h2 | h2
          · exact h2
          · have := low_mono (show 0 ≤ b - a by omega) h2 (by omega); omega
        refine ⟨b - a - N, by omega, by omega, ?_⟩
        rw [lost_iff]; left
        rw [show b - (b - a - N) - a = N by omega]
        exact ⟨by omega, e3.symm⟩
      · have hl := low_nonneg k (by omega) (by omega)
        refine ⟨b - low k, by omega, by omega, ?_⟩
        rw [show b - (b - low k) = low k by omega, lost_iff]; right
        rw [show a - low k = k by omega]
        exact ⟨by omega, rfl⟩
  · exact absurd (.inl ⟨hab, h1⟩) hd
  · right
    refine ⟨a - low (b - a), by omega, by omega, ?_⟩
    rw [lost_iff]; left
    rw [show b - (a - low (b - a)) - (a - (a - low (b - a))) = b - a by omega]
    exact ⟨by omega, by omega⟩
def CanLose (a b : Int) : Prop := (∃ y, 1 ≤ y ∧ y ≤ b ∧ lostB a (b - y) = true) ∨ (∃ x, 1 ≤ x ∧ x ≤ a ∧ (lostB (a - x) b = true ∨ x ≤ b ∧ lostB (a - x) (b - x) = true))
theorem lost_move (a b : Int) (ha : 0 ≤ a) (ha2 : a ≤ 1000) (hb : 0 ≤ b) (hb2 : b ≤ 1000) (h : lostB a b = false) : CanLose a b := by
  rcases Int.le_total a b with hab | hab
  · rcases lost_move1 a b ha hab hb2 h with ⟨y, h1, h2, h3⟩ | ⟨x, h1, h2, h3⟩
    · exact .inl ⟨y, h1, h2, h3⟩
    · exact .inr ⟨x, h1, h2, .inr ⟨by omega, h3⟩⟩
  · rw [lost_sym] at h
    rcases lost_move1 b a hb hab ha2 h with ⟨y, h1, h2, h3⟩ | ⟨x, h1, h2, h3⟩
    · exact .inr ⟨y, h1, h2, .inl (by rw [lost_sym]; exact h3)⟩
    · exact .inr ⟨x, h1, by omega, .inr ⟨h2, by rw [lost_sym]; exact h3⟩⟩
theorem lost_stuck (a b : Int) (ha : 0 ≤ a) (ha2 : a ≤ 1000) (hb : 0 ≤ b) (hb2 : b ≤ 1000) (h : lostB a b = true) : ¬ CanLose a b := by
  rintro (⟨y, h1, h2, h3⟩ | ⟨x, h1, h2, h3 | ⟨h4, h3⟩⟩)
  · have := lost_one ha ha2 hb hb2 (by omega) (by omega) h h3; omega
  · rw [lost_sym] at h h3
    have := lost_one hb hb2 ha ha2 (by omega) (by omega) h h3; omega
  · exact lost_diag h1 h h3
theorem bmX_is (a b : Int) : ∀ (n : Nat) (x : Int), (bmX a b n x = (0, 0, false) ∧ ∀ i, x ≤ i → i < x + n → lostB (a - i) b = false ∧ (i ≤ b → lostB (a - i) (b - i) = false)) ∨
    ∃ i, x ≤ i ∧ i < x + n ∧ ((bmX a b n x = (i, 0, true) ∧ lostB (a - i) b = true) ∨ (bmX a b n x = (i, i, true) ∧ i ≤ b ∧ lostB (a - i) (b - i) = true))
  | 0, x => .inl ⟨rfl, fun i h1 h2 => by simp at h2; omega⟩
  | n + 1, x => by
    rw [bmX]
    by_cases h1 : lostB (a - x) b = true
    · rw [if_pos h1]
      exact .inr ⟨x, by omega, by omega, .inl ⟨rfl, h1⟩⟩
    · rw [if_neg h1]
      by_cases h2 : x ≤ b ∧ lostB (a - x) (b - x) = true
      · rw [if_pos h2]
        exact .inr ⟨x, by omega, by omega, .inr ⟨rfl, h2⟩⟩
      · rw [if_neg h2]
        rcases bmX_is a b n (x + 1) with ⟨e, h⟩ | ⟨i, e1, e2, e3⟩
        · refine .inl ⟨e, fun i h3 h4 => ?_⟩
          by_cases hi : i = x
          · subst hi
            exact ⟨by simpa using h1, fun h5 => by simpa using fun h6 => h2 ⟨h5, h6⟩⟩
          · exact h i (by omega) (by omega)
        · exact .inr ⟨i, by omega, by omega, e3⟩
theorem bmY_is (a b : Int) : ∀ (n : Nat) (y : Int), (bmY a b n y = bmX a b a.toNat 1 ∧ ∀ i, y ≤ i → i < y + n → lostB a (b - i) = false) ∨ ∃ i, y ≤ i ∧ i < y + n ∧ bmY a b n y = (0, i, true) ∧ lostB a (b - i) = true
  | 0, y => .inl ⟨rfl, fun i h1 h2 => by simp at h2; omega⟩
  | n + 1, y => by
    rw [bmY]
    by_cases h1 : lostB a (b - y) = true
    · rw [if_pos h1]
      exact .inr ⟨y, by omega, by omega, rfl, h1⟩
    · rw [if_neg h1]
      rcases bmY_is a b n (y + 1) with ⟨e, h⟩ | ⟨i, e1, e2, e3⟩
      · refine .inl ⟨e, fun i h3 h4 => ?_⟩
        by_cases hi : i = y
        · subst hi; simpa using h1
        · exact h i (by omega) (by omega)
      · exact .inr ⟨i, by omega, by omega, e3⟩
/-- What the law asks of a move. -/
structure MvOk (a b : Int) (r : Mv) : Prop where
  ok : r.2.2 = !lostB a b
  x0 : 0 ≤ r.1
  y0 : 0 ≤ r.2.1
  xa : r.1 ≤ a
  yb : r.2.1 ≤ b
  some_ : r.2.2 = true → r.1 + r.2.1 ≠ 0
  same : r.1 ≠ 0 → r.2.1 ≠ 0 → r.1 = r.2.1
  lost : r.2.2 = true → lostB (a - r.1) (b - r.2.1) = true
theorem mv_ok (a b : Nat) (ha : a ≤ 200) (hb : b ≤ 200) : MvOk a b (bmY a b b 1) := by
  have hm := lost_move a b (by omega) (by omega) (by omega) (by omega)
  have hs := lost_stuck a b (by omega) (by omega) (by omega) (by omega)
  rcases bmY_is a b b 1 with ⟨e, h⟩ | ⟨i, e1, e2, e3, e4⟩
  · rw [e]
    rcases bmX_is a b (a : Int).toNat 1 with ⟨e5, h5⟩ | ⟨i, e5, e6, e7⟩
    · rw [e5]
      have : lostB a b = true := by
        rcases hl : lostB a b with _ | _
        · exfalso
          rcases hm hl with ⟨y, h1, h2, h3⟩ | ⟨x, h1, h2, h3⟩
          · rw [h y h1 (by omega)] at h3; cases h3
          · have h6 := h5 x h1 (by omega)
            rcases h3 with h3 | ⟨h7, h3⟩
            · rw [h6.1] at h3; cases h3
            · rw [h6.2 h7] at h3; cases h3
        · rfl
      exact ⟨by rw [this]; rfl, by simp, by simp, by simp, by simp, fun h => (by cases h), fun h => (by simp at h), fun h => (by cases h)⟩
    · have hno : lostB a b = false := by
        rcases hl : lostB a b with _ | _
        · rfl
        · exfalso
          refine hs hl (.inr ⟨i, e5, by omega, ?_⟩)
          rcases e7 with ⟨_, h1⟩ | ⟨_, h1⟩
          · exact .inl h1
          · exact .inr h1
      rcases e7 with ⟨e8, h1⟩ | ⟨e8, h1, h2⟩
      · rw [e8]
        exact ⟨by rw [hno]; rfl, by show 0 ≤ i; omega, by simp, by show i ≤ _; omega, by simp, fun _ => by show i + 0 ≠ 0; omega, fun _ h => by simp at h, fun _ => by show lostB _ (b - 0) = true; rw [Int.sub_zero]; exact h1⟩
      · rw [e8]
        exact ⟨by rw [hno]; rfl, by show 0 ≤ i; omega, by show 0 ≤ i; omega, by show i ≤ _; omega, h1, fun _ => by show i + i ≠ 0; omega, fun _ _ => rfl, fun _ => h2⟩
  · have hno : lostB a b = false := by
      rcases hl : lostB a b with _ | _
      · rfl
      · exfalso; exact hs hl (.inl ⟨i, e1, by omega, e4⟩)
    rw [e3]
    exact ⟨by rw [hno]; rfl, by simp, by show 0 ≤ i; omega, by simp, by show i ≤ _; omega, fun _ => by show 0 + i ≠ 0; omega, fun h => by simp at h, fun _ => by show lostB (a - 0) _ = true; rw [Int.sub_zero]; exact e4⟩
end Go.Proofs.YtkmkaaomkjhlgaaDoor
