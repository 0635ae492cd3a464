/- Beatty lists, plain: what a list misses is the partner's list from above. No program. -/
import Derived.Test.YtkmkaaomkjhlgaaDoorBeat
import Derived.Test.YtkmkaaomkjhlgaaDoorMiss
import Derived.Test.YtkmkaaomkjhlgaaDoorNum
namespace Go.Proofs.YtkmkaaomkjhlgaaDoor
open Go.RowKit
set_option linter.unusedVariables false

theorem bty_at (p q : Int) (n i : Nat) (h : i < n) : (bty p q n)[i]? = some (((i : Int) + 1) * p / q) := by
  simp [bty, h]
theorem mem_bty (p q : Int) (n : Nat) (x : Int) : x ∈ bty p q n ↔ ∃ i : Nat, i < n ∧ ((i : Int) + 1) * p / q = x := by
  simp [bty]
theorem div_is {a q m : Int} (hq : 0 < q) (h1 : m * q ≤ a) (h2 : a < m * q + q) : a / q = m := by
  have e1 := (Int.le_ediv_iff_mul_le hq).2 h1
  have e2 := (Int.ediv_lt_iff_lt_mul hq (a := a) (b := m + 1)).2 (by rw [Int.add_mul]; omega)
  omega
theorem div_bd {a q m : Int} (hq : 0 < q) (h : a / q = m) : m * q ≤ a ∧ a < m * q + q := by
  have e1 := (Int.le_ediv_iff_mul_le hq (a := m) (b := a)).1 (by omega)
  have e2 := (Int.ediv_lt_iff_lt_mul hq (a := a) (b := m + 1)).1 (by omega)
  rw [Int.add_mul] at e2
  omega
/-- A Beatty list's items lie above their places, and rise. -/
theorem bty_ge (p q : Int) (hq : 0 < q) (hp : q ≤ p) (i : Nat) : (i : Int) + 1 ≤ ((i : Int) + 1) * p / q := by
  rw [Int.le_ediv_iff_mul_le hq]
  exact Int.mul_le_mul_of_nonneg_left hp (by omega)
theorem bty_lt (p q : Int) (hq : 0 < q) (hp : q ≤ p) (i : Nat) : ((i : Int) + 1) * p / q < ((i : Int) + 1 + 1) * p / q := by
  have h := div_bd hq (a := ((i : Int) + 1) * p) rfl
  have : ((i : Int) + 1) * p / q + 1 ≤ ((i : Int) + 1 + 1) * p / q := by
    rw [Int.le_ediv_iff_mul_le hq, Int.add_mul, Int.add_mul ((i : Int) + 1) 1 p]
    omega
  omega
structure MsOk (p q r s : Int) (n N c : Nat) : Prop where
  c1 : (c : Int) * p + 1 ≤ ((N : Int) + 1) * q
  c2 : ((N : Int) + 1) * q ≤ (c : Int) * p + p
  cn : c ≤ n
  cN : c ≤ N
  len : (msd (bty p q n) N).length = N - c
  at_ : ∀ (j : Nat) x, (msd (bty p q n) N)[j]? = some x → x = (((j : Int) + 1) * r + s - 1) / s - 1
theorem msd_bty (p q g r s : Int) (n : Nat) (hq : 0 < q) (hp : q < p) (hg : 0 < g) (hr : p = g * r) (hs : p - q = g * s) (hs0 : 0 < s) : ∀ N : Nat, (N : Int) * q ≤ (n : Int) * p → ∃ c, MsOk p q r s n N c
  | 0, _ => ⟨0, by simp; omega, by simp; omega, by omega, by omega, rfl, fun j x h => by simp [msd] at h⟩
  | N + 1, hN => by
    have hN' : (((N + 1 : Nat) : Int)) = (N : Int) + 1 := by omega
    rw [hN'] at hN
    obtain ⟨c, c1, c2, cn, cN, hl, hat⟩ := msd_bty p q g r s n hq hp hg hr hs hs0 N (by rw [Int.add_mul] at hN; omega)
    obtain ⟨X, hX⟩ : ∃ X, ((N : Int) + 1) * q = X := ⟨_, rfl⟩
    obtain ⟨Y, hY⟩ : ∃ Y, (c : Int) * p = Y := ⟨_, rfl⟩
    have hX2 : ((N : Int) + 1 + 1) * q = X + q := by rw [Int.add_mul, hX]; omega
    have hY2 : ((c : Int) + 1) * p = Y + p := by rw [Int.add_mul, hY]; omega
    rw [hX, hY] at c1 c2
    rw [hX] at hN
    by_cases hc : X + q ≤ Y + p
    · have hno : ¬ ((N : Int) + 1) ∈ bty p q n := by
        rw [mem_bty]
        rintro ⟨i, hi, he⟩
        obtain ⟨d1, d2⟩ := div_bd hq he
        rw [hX] at d1 d2
        rcases Nat.lt_or_ge i c with h | h
        · have := Int.mul_le_mul_of_nonneg_right (show (i : Int) + 1 ≤ c by omega) (show 0 ≤ p by omega)
          omega
        · have := Int.mul_le_mul_of_nonneg_right (show (c : Int) + 1 ≤ (i : Int) + 1 by omega) (show 0 ≤ p by omega)
          omega
      refine ⟨c, by rw [hN', hX2, hY]; omega, by rw [hN', hX2, hY]; omega, cn, by omega, by simp only [msd, if_neg hno, List.length_append, hl, List.length_singleton]; omega, ?_⟩
      intro j x hj
      simp only [msd, if_neg hno] at hj
      rcases Nat.lt_or_ge j (N - c) with h | h
      · rw [List.getElem?_append_left (by omega)] at hj
        exact hat j x hj
      · have hjl := (List.getElem?_eq_some_iff.1 hj).1
        rw [List.length_append, hl, List.length_singleton] at hjl
        have hje : j = N - c := by omega
        rw [List.getElem?_append_right (by omega), hl, hje, Nat.sub_self] at hj
        simp only [List.getElem?_cons_zero, Option.some.injEq] at hj
        have hj1 : (j : Int) + 1 = (N : Int) + 1 - c := by omega
        rw [← hj, hj1]
        obtain ⟨M, hM⟩ : ∃ M, (N : Int) + 1 = M := ⟨_, rfl⟩
        rw [hM] at hX ⊢
        have k1 : M * s + 1 ≤ (M - c) * r := by
          have : g * (M * s) < g * ((M - c) * r) := by
            rw [Int.mul_left_comm g M s, ← hs, Int.mul_left_comm g (M - c) r, ← hr, Int.mul_sub, Int.sub_mul, hX, hY]; omega
          have := Int.lt_of_mul_lt_mul_left this (by omega)
          omega
        have k2 : (M - c) * r ≤ (M + 1) * s := by
          have : g * ((M - c) * r) ≤ g * ((M + 1) * s) := by
            rw [Int.mul_left_comm g (M + 1) s, ← hs, Int.mul_left_comm g (M - c) r, ← hr, Int.add_mul, Int.mul_sub, Int.sub_mul, hX, hY]; omega
          exact Int.le_of_mul_le_mul_left this hg
        rw [Int.add_mul] at k2
        have := div_is (a := (M - c) * r + s - 1) (m := M + 1) hs0 (by rw [Int.add_mul]; omega) (by rw [Int.add_mul]; omega)
        omega
    · have hcn : c < n := by
        rcases Nat.lt_or_ge c n with h | h
        · exact h
        · have := Int.mul_le_mul_of_nonneg_right (show (n : Int) ≤ c by omega) (show 0 ≤ p by omega)
          omega
      have hyes : ((N : Int) + 1) ∈ bty p q n := by
        rw [mem_bty]
        exact ⟨c, hcn, div_is hq (by rw [hX, hY2]; omega) (by rw [hX, hY2]; omega)⟩
      refine ⟨c + 1, ?_, ?_, by omega, by omega, by simp only [msd, if_pos hyes, hl]; omega, ?_⟩
      · rw [hN', hX2, show ((c + 1 : Nat) : Int) = (c : Int) + 1 by omega, hY2]; omega
      · rw [hN', hX2, show ((c + 1 : Nat) : Int) = (c : Int) + 1 by omega, hY2]; omega
      · intro j x hj
        simp only [msd, if_pos hyes] at hj
        exact hat j x hj
/-- Up to the last item of a Beatty list: as many are missed as lie between. -/
theorem msd_last (p q g r s : Int) (n N : Nat) (hq : 0 < q) (hp : q < p) (hg : 0 < g) (hr : p = g * r) (hs : p - q = g * s) (hs0 : 0 < s) (hN : (n : Int) * p / q = N) :
    (msd (bty p q n) N).length + n = N ∧ ∀ (j : Nat) x, (msd (bty p q n) N)[j]? = some x → x = (((j : Int) + 1) * r + s - 1) / s - 1 := by
  obtain ⟨d1, d2⟩ := div_bd hq hN
  obtain ⟨c, c1, c2, cn, cN, hl, hat⟩ := msd_bty p q g r s n hq hp hg hr hs hs0 N d1
  refine ⟨?_, hat⟩
  rw [Int.add_mul] at c1 c2
  have hcn : c = n := by
    rcases Nat.lt_or_ge c n with h | h
    · have := Int.mul_le_mul_of_nonneg_right (show (c : Int) + 1 ≤ n by omega) (show 0 ≤ p by omega)
      rw [Int.add_mul] at this
      omega
    · omega
  omega
theorem own_block {w : World} {B n c : Nat} {E : TypeId} {A : Option Addr} {xs : List Value} (h : Own w B E (.slice A n c) xs) (hn : 0 < n) : ∃ g, A = some ⟨g, 0, none⟩ := by
  obtain ⟨_, h2 | ⟨g, cap, cur, hv, _⟩⟩ := h
  · have := h2.1
    injection this with e1 e2 e3
    omega
  · injection hv with e1 e2 e3
    exact ⟨g, e1⟩
theorem rds_cell {w : World} {B g k : Nat} {xs : List Value} {u : Value} (h : Rds w B (some ⟨g, 0, none⟩) xs) (hk : xs[k]? = some u) : w.cell? ⟨g, k, none⟩ = some u := by
  obtain ⟨ad, h1, _, h2⟩ := h k u hk
  injection h1 with h1
  subst h1
  rcases Nat.eq_zero_or_pos k with h0 | h0
  · subst h0; simpa [Addr.add] using h2
  · simpa [Addr.add, show k ≠ 0 by omega] using h2
/-- The partner of a ratio. -/
theorem part_ok (p q : Int) (h1 : 1 ≤ q) (h3 : q + 1 ≤ p) : ∃ g r s, 0 < g ∧ p / igcd p (p - q) = r ∧ (p - q) / igcd p (p - q) = s ∧ p = g * r ∧ p - q = g * s ∧ 1 ≤ r ∧ 1 ≤ s ∧ r ≤ p ∧ s ≤ p ∧ q * r + s * p = p * r := by
  have g0 := igcd_pos p (p - q) (by omega)
  have d1 : igcd p (p - q) ∣ p := Int.gcd_dvd_left _ _
  have d2 : igcd p (p - q) ∣ p - q := Int.gcd_dvd_right _ _
  generalize igcd p (p - q) = g at *
  have e1 : g * (p / g) = p := Int.mul_ediv_cancel' d1
  have e2 : g * ((p - q) / g) = p - q := Int.mul_ediv_cancel' d2
  generalize p / g = r at *
  generalize (p - q) / g = s at *
  have r1 : 1 ≤ r := by
    rcases Int.lt_or_le 0 r with h | h
    · exact h
    · have := Int.mul_le_mul_of_nonneg_left h (show 0 ≤ g by omega)
      rw [Int.mul_zero] at this; omega
  have s1 : 1 ≤ s := by
    rcases Int.lt_or_le 0 s with h | h
    · exact h
    · have := Int.mul_le_mul_of_nonneg_left h (show 0 ≤ g by omega)
      rw [Int.mul_zero] at this; omega
  have r2 := Int.mul_le_mul_of_nonneg_right (show 1 ≤ g by omega) (show 0 ≤ r by omega)
  have s2 := Int.mul_le_mul_of_nonneg_right (show 1 ≤ g by omega) (show 0 ≤ s by omega)
  refine ⟨g, r, s, g0, rfl, rfl, e1.symm, e2.symm, r1, s1, by omega, by omega, ?_⟩
  have hq : q = p - g * s := by omega
  rw [hq, Int.sub_mul, Int.mul_assoc g s r, Int.mul_left_comm g s r, e1]
  omega
theorem last_le (p q : Int) (h1 : 1 ≤ q) (h3 : p ≤ q + 30) (h4 : 0 ≤ p) : 0 ≤ 60 * p / q ∧ 60 * p / q ≤ 1860 := by
  have e1 := (Int.le_ediv_iff_mul_le (show 0 < q by omega) (a := 0) (b := 60 * p)).2 (by omega)
  have e2 := (Int.ediv_lt_iff_lt_mul (show 0 < q by omega) (a := 60 * p) (b := 1861)).2 (by omega)
  omega
end Go.Proofs.YtkmkaaomkjhlgaaDoor
