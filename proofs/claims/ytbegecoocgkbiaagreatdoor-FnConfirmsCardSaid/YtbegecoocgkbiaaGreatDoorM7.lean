/- Texts of this claim, one behind the other: Wyt, Lyn, Lyp. No condition but what each says. -/
import Derived.Test.YtbegecoocgkbiaaGreatDoorGold
import Derived.Test.YtbegecoocgkbiaaGreatDoorStr
/- Plain numbers: lower numbers grow, and a number from 1 on that is no lower number is an upper number. No program in sight. -/
namespace Go.Proofs.YtbegecoocgkbiaaGreatDoor
set_option linter.unusedVariables false

theorem sq_exp (m n : Int) : (2 * (0 - m) + n) * (2 * (0 - m) + n) = 4 * (m * m) - 4 * (m * n) + n * n := by
  have h1 : (2 * (0 - m) + n) * (2 * (0 - m) + n) = (2 * m - n) * (2 * m - n) := by
    rw [← Int.neg_mul_neg]; congr 1 <;> omega
  rw [h1, Int.sub_mul, Int.mul_sub, Int.mul_sub]
  have h2 : 2 * m * (2 * m) = 4 * (m * m) := by rw [Int.mul_assoc, Int.mul_left_comm m 2 m]; omega
  have h3 : 2 * m * n = 2 * (m * n) := Int.mul_assoc 2 m n
  have h4 : n * (2 * m) = 2 * (m * n) := by rw [Int.mul_comm n, h3]
  omega
/-- The lower number of n, by squares. -/
theorem low_iff (n m : Int) (hn : 0 ≤ n) (hn2 : n ≤ 1000000) (hm : 0 ≤ m) : m ≤ low n ↔ m * m ≤ m * n + n * n := by
  have hf := flr_is 0 n (by omega) (by omega) (by omega) hn2
  have hg : m ≤ low n ↔ 0 ≤ sg (2 * (0 - m) + n) n := by
    constructor
    · intro h; exact hf.1 m h
    · intro h
      rcases Int.lt_or_le (low n) m with h2 | h2
      · exact absurd h (hf.2.1 m h2)
      · exact h2
  rw [hg]
  have he := sq_exp m n
  have h5 := five_sq n
  have hmn : 0 ≤ m * n := Int.mul_nonneg hm hn
  have hnn : 0 ≤ n * n := Int.mul_nonneg hn hn
  have hmm : 0 ≤ m * m := Int.mul_nonneg hm hm
  have hsmall : 2 * m ≤ n → m * m ≤ m * n := fun h => Int.mul_le_mul_of_nonneg_left (by omega) hm
  have hzero : n = 0 → m * n = 0 ∧ n * n = 0 := by rintro rfl; simp
  have hmz : m * m = 0 → m = 0 := fun h => by rcases Int.mul_eq_zero.1 h with h | h <;> exact h
  have hmz2 : m = 0 → m * m = 0 := fun h => by rw [h]; rfl
  unfold sg
  rw [h5, he]
  constructor
  · intro h
    (repeat' split at h) <;> omega
  · intro h
    (repeat' split) <;> omega
theorem low_nonneg (n : Int) (hn : 0 ≤ n) (hn2 : n ≤ 1000000) : 0 ≤ low n := by
  rw [low_iff n 0 hn hn2 (Int.le_refl _)]
  have := Int.mul_nonneg hn hn
  simp; omega
theorem low_le (n : Int) (hn : 0 ≤ n) (hn2 : n ≤ 1000000) : low n ≤ 2 * n := by
  have h0 := low_nonneg n hn hn2
  have h1 := (low_iff n (low n) hn hn2 h0).1 (Int.le_refl _)
  rcases Int.lt_or_le (2 * n) (low n) with h | h
  · exfalso
    have h2 : low n * (2 * n + 1) ≤ low n * low n := Int.mul_le_mul_of_nonneg_left (by omega) h0
    have h3 : (2 * n + 1) * n ≤ low n * n := Int.mul_le_mul_of_nonneg_right (by omega) hn
    have h4 : low n * (2 * n + 1) = 2 * (low n * n) + low n := by rw [Int.mul_add, Int.mul_left_comm]; omega
    have h5 : (2 * n + 1) * n = 2 * (n * n) + n := by rw [Int.add_mul, Int.mul_assoc]; omega
    have h6 := Int.mul_nonneg hn hn
    omega
  · exact h
theorem low_succ (n : Int) (hn : 0 ≤ n) (hn2 : n < 1000000) : low n + 1 ≤ low (n + 1) := by
  have h0 := low_nonneg n hn (by omega)
  have h1 := (low_iff n (low n) hn (by omega) h0).1 (Int.le_refl _)
  have h2 := low_le n hn (by omega)
  rw [low_iff (n + 1) (low n + 1) (by omega) (by omega) (by omega)]
  generalize low n = m at *
  have e1 : (m + 1) * (m + 1) = m * m + 2 * m + 1 := by rw [Int.add_mul, Int.mul_add]; omega
  have e2 : (m + 1) * (n + 1) = m * n + m + n + 1 := by rw [Int.add_mul, Int.mul_add]; omega
  have e3 : (n + 1) * (n + 1) = n * n + 2 * n + 1 := by rw [Int.add_mul, Int.mul_add]; omega
  rw [e1, e2, e3]
  omega
theorem low_lt {n m : Int} (hn : 0 ≤ n) (h : n < m) (hm : m ≤ 1000000) : low n + (m - n) ≤ low m := by
  obtain ⟨d, rfl⟩ : ∃ d : Nat, m = n + 1 + d := ⟨(m - n - 1).toNat, by omega⟩
  induction d with
  | zero =>
    have := low_succ n hn (by omega)
    rw [show n + 1 + ((0 : Nat) : Int) = n + 1 from by omega]
    omega
  | succ d ih =>
    have h1 := ih (by omega) (by omega)
    have h2 := low_succ (n + 1 + d) (by omega) (by omega)
    rw [show n + 1 + ((d + 1 : Nat) : Int) = n + 1 + d + 1 from by omega]
    omega
theorem low_ge (n : Int) (hn : 0 ≤ n) (hn2 : n ≤ 1000000) : n ≤ low n := by
  rw [low_iff n n hn hn2 hn]
  have := Int.mul_nonneg hn hn
  omega
theorem low_zero : low 0 = 0 := by
  have h1 := low_nonneg 0 (by omega) (by omega)
  have h2 := low_le 0 (by omega) (by omega)
  omega
/-- A number from 1 on is a lower number, or an upper number and no lower number. -/
theorem wythoff (m : Int) (h1 : 1 ≤ m) (h2 : m ≤ 400000) :
    (∃ N, 1 ≤ N ∧ N ≤ m ∧ low N = m) ∨ (∃ k, 1 ≤ k ∧ k ≤ m ∧ low k + k = m ∧ ∀ N, 0 ≤ N → N ≤ 1000000 → low N ≠ m) := by
  obtain ⟨n, hn1, hn2, hn3, hn4⟩ := step_exists (fun n => low n < m) m.toNat 0 (by rw [low_zero]; omega) (by
    have := low_ge (0 + (m.toNat : Int)) (by omega) (by omega)
    have h : ((0 : Int) + m.toNat) = m := by omega
    rw [h] at this ⊢; omega)
  have hb : n < m := by omega
  clear hn2
  by_cases he : low (n + 1) = m
  · exact .inl ⟨n + 1, by omega, by omega, he⟩
  · right
    have hu : ∀ N, 0 ≤ N → N ≤ 1000000 → low N ≠ m := by
      intro N hN hN2 hc
      rcases Int.lt_trichotomy N (n + 1) with h | h | h
      · rcases Int.lt_or_le N n with h3 | h3
        · have := low_lt hN h3 (by omega); omega
        · have : N = n := by omega
          subst this; omega
      · subst h; exact he hc
      · have := low_lt (by omega : 0 ≤ n + 1) h hN2; omega
    have p1 : ¬ (m * m ≤ m * n + n * n) := by
      rw [← low_iff n m hn1 (by omega) (by omega)]; omega
    have p2 : (m + 1) * (m + 1) ≤ (m + 1) * (n + 1) + (n + 1) * (n + 1) := by
      rw [← low_iff (n + 1) (m + 1) (by omega) (by omega) (by omega)]; omega
    have p3 : (m + 1) * (m + 1) ≠ (m + 1) * (n + 1) + (n + 1) * (n + 1) := by
      intro hc
      have h5 := root5 _ (2 * (0 - (m + 1)) + (n + 1)) (n + 1) (Nat.le_refl _) (by rw [sq_exp]; omega)
      have h6 : n + 1 = 2 * (m + 1) := by omega
      omega
    have e1 : (m + 1) * (m + 1) = m * m + 2 * m + 1 := by rw [Int.add_mul, Int.mul_add]; omega
    have e2 : (m + 1) * (n + 1) = m * n + m + n + 1 := by rw [Int.add_mul, Int.mul_add]; omega
    have e3 : (n + 1) * (n + 1) = n * n + 2 * n + 1 := by rw [Int.add_mul, Int.mul_add]; omega
    rw [e1, e2, e3] at p2 p3
    have k1 : n ≤ low (m - n) := by
      rw [low_iff (m - n) n (by omega) (by omega) hn1]
      have a1 : n * (m - n) = m * n - n * n := by rw [Int.mul_sub, Int.mul_comm n m]
      have a2 : (m - n) * (m - n) = m * m - 2 * (m * n) + n * n := by rw [Int.sub_mul, Int.mul_sub, Int.mul_sub, Int.mul_comm n m]; omega
      rw [a1, a2]; omega
    have k2 : ¬ (n + 1 ≤ low (m - n)) := by
      rw [low_iff (m - n) (n + 1) (by omega) (by omega) (by omega)]
      have a1 : (n + 1) * (m - n) = m * n - n * n + m - n := by rw [Int.add_mul, Int.mul_sub, Int.mul_comm n m]; omega
      have a2 : (m - n) * (m - n) = m * m - 2 * (m * n) + n * n := by rw [Int.sub_mul, Int.mul_sub, Int.mul_sub, Int.mul_comm n m]; omega
      rw [a1, a2, e3]; omega
    exact ⟨m - n, by omega, by omega, by omega, hu⟩
end Go.Proofs.YtbegecoocgkbiaaGreatDoor

/- Lyndon words, the plain part: what the halving walk along a word finds is its longest Lyndon beginning. No condition. -/
namespace Go.Proofs.YtbegecoocgkbiaaGreatDoor
open Go.RowKit
set_option linter.unusedVariables false

/-- The first difference of two rows of n numbers is in favour of the first. -/
def ltF (f g : Nat → Nat) (n : Nat) : Prop := ∃ d, d < n ∧ (∀ e, e < d → f e = g e) ∧ f d < g d
theorem ltF_asymm {f g : Nat → Nat} {n : Nat} (h : ltF f g n) : ¬ ltF g f n := by
  obtain ⟨d, _, h1, h2⟩ := h
  rintro ⟨d', _, h1', h2'⟩
  rcases Nat.lt_trichotomy d d' with h | h | h
  · have := h1' d h; omega
  · subst h; omega
  · have := h1 d' h; omega
theorem ltF_ne {f g : Nat → Nat} {n : Nat} (h : ∀ e, e < n → f e = g e) : ¬ ltF f g n := fun ⟨d, hd, _, h2⟩ => by have := h d hd; omega
def rotF (g : Nat → Nat) (n r : Nat) : Nat → Nat := fun e => if e + r < n then g (e + r) else g (e + r - n)
/-- The first n numbers come before each of their turns. -/
def LynF (g : Nat → Nat) (n : Nat) : Prop := ∀ r, 0 < r → r < n → ltF g (rotF g n r) n
/-- .. by a difference that lies within. -/
def LynM (g : Nat → Nat) (n : Nat) : Prop := ∀ r, 0 < r → r < n → ∃ d, r + d < n ∧ (∀ e, e < d → g e = g (r + e)) ∧ g d < g (r + d)
def Per (g : Nat → Nat) (n k : Nat) : Prop := ∀ j, n ≤ j → j < k → g j = g (j - n)
theorem per_mod {g : Nat → Nat} {n k : Nat} (hn : 0 < n) (h : Per g n k) : ∀ j, j < k → g j = g (j % n) := fun j => by
  induction j using Nat.strongRecOn with
  | _ j ih =>
    intro hj
    by_cases hjn : j < n
    · rw [Nat.mod_eq_of_lt hjn]
    · rw [h j (by omega) hj, ih (j - n) (by omega) (by omega), ← Nat.mod_eq_sub_mod (by omega)]
theorem lyn_of {g : Nat → Nat} {n : Nat} (h : LynM g n) : LynF g n := fun r h1 h2 => by
  obtain ⟨d, hd, he, hl⟩ := h r h1 h2
  refine ⟨d, by omega, fun e hed => ?_, ?_⟩
  · rw [rotF, if_pos (by omega), he e hed, Nat.add_comm]
  · rw [rotF, if_pos (by omega), Nat.add_comm]; exact hl
theorem lynM_one (g : Nat → Nat) : LynM g 1 := fun r h1 h2 => by omega
theorem per_one (g : Nat → Nat) : Per g 1 1 := fun j h1 h2 => by omega
theorem mod_add {j n r e : Nat} (hr : j % n = r) (h : r + e < n) : (j + e) % n = r + e := by
  rw [Nat.add_mod, hr, Nat.mod_eq_of_lt (show e < n by omega), Nat.mod_eq_of_lt h]
/-- A greater letter behind: the whole is Lyndon. -/
theorem lynM_more {g : Nat → Nat} {n k : Nat} (hn : 0 < n) (hnk : n ≤ k) (hp : Per g n k) (hl : LynM g n) (hc : g (k - n) < g k) : LynM g (k + 1) := fun j hj hjk => by
  have hm := per_mod hn hp
  obtain ⟨r, hr⟩ : ∃ r, j % n = r := ⟨_, rfl⟩
  have hrn : r < n := by rw [← hr]; exact Nat.mod_lt _ hn
  have hck : g ((k - n) % n) < g k := by rw [← hm (k - n) (by omega)]; exact hc
  have hkm : (k - n) % n = k % n := (Nat.mod_eq_sub_mod hnk).symm
  rw [hkm] at hck
  rcases Nat.eq_zero_or_pos r with h0 | h0
  · -- a multiple of the period
    subst h0
    have hje : ∀ e, j + e < k → g (j + e) = g e := fun e he => by
      rw [hm _ he, hm e (by omega), Nat.add_mod, hr, Nat.zero_add, Nat.mod_mod]
    refine ⟨k - j, by omega, fun e he => (hje e (by omega)).symm, ?_⟩
    rw [show j + (k - j) = k by omega]
    have : g (k - j) = g (k % n) := by
      rw [hm (k - j) (by omega)]
      congr 1
      have h2 : (j + (k - j)) % n = (k - j) % n := by rw [Nat.add_mod, hr, Nat.zero_add, Nat.mod_mod]
      rw [← h2, show j + (k - j) = k by omega]
    rw [this]; exact hck
  · obtain ⟨d, hd, he, hlt⟩ := hl r h0 hrn
    have hje : ∀ e, e ≤ d → j + e < k → g (j + e) = g (r + e) := fun e h1 h2 => by
      rw [hm _ h2, mod_add hr (by omega)]
    by_cases hjd : j + d < k
    · refine ⟨d, by omega, fun e h1 => ?_, ?_⟩
      · rw [hje e (by omega) (by omega)]; exact he e h1
      · rw [hje d (Nat.le_refl _) hjd]; exact hlt
    · refine ⟨k - j, by omega, fun e h1 => ?_, ?_⟩
      · rw [hje e (by omega) (by omega)]; exact he e (by omega)
      · rw [show j + (k - j) = k by omega]
        have hk : k % n = r + (k - j) := by
          have := mod_add (e := k - j) hr (by omega)
          rwa [show j + (k - j) = k by omega] at this
        rw [hk] at hck
        rcases Nat.lt_or_ge (k - j) d with h2 | h2
        · have := he (k - j) h2; omega
        · have h3 : k - j = d := by omega
          rw [h3] at hck ⊢; omega
/-- No longer beginning is Lyndon. -/
theorem lyn_none {g : Nat → Nat} {n k N : Nat} (hn : 0 < n) (hnk : n ≤ k) (hp : Per g n k) (hl : LynM g n) (hstop : k < N → g k < g (k - n)) (hkN : k ≤ N) : ∀ l, n < l → l ≤ N → ¬ LynF g l := fun l h1 h2 h => by
  have hm := per_mod hn hp
  by_cases hlk : l ≤ k
  · have hlt := h n hn h1
    have hfst : ∀ e, e < l - n → rotF g l n e = g e := fun e he => by
      rw [rotF, if_pos (by omega), hp (e + n) (by omega) (by omega)]; congr 1; omega
    obtain ⟨r, hr⟩ : ∃ r, (l - n) % n = r := ⟨_, rfl⟩
    have hrn : r < n := by rw [← hr]; exact Nat.mod_lt _ hn
    have hsnd : ∀ e, e < n → rotF g l n (l - n + e) = g e := fun e he => by
      rw [rotF, if_neg (by omega)]; congr 1; omega
    rcases Nat.eq_zero_or_pos r with h0 | h0
    · subst h0
      refine ltF_ne (fun e he => ?_) hlt
      rcases Nat.lt_or_ge e (l - n) with h3 | h3
      · exact (hfst e h3).symm
      · obtain ⟨e', rfl⟩ : ∃ e', e = l - n + e' := ⟨e - (l - n), by omega⟩
        rw [hsnd e' (by omega), hm (l - n + e') (by omega), Nat.add_mod, hr, Nat.zero_add, Nat.mod_mod, Nat.mod_eq_of_lt (by omega)]
    · obtain ⟨d, hd, he, hdl⟩ := hl r h0 hrn
      have hje : ∀ e, e ≤ d → g (l - n + e) = g (r + e) := fun e h1 => by
        rw [hm _ (by omega), mod_add hr (by omega)]
      refine ltF_asymm hlt ⟨l - n + d, by omega, fun e h3 => ?_, ?_⟩
      · rcases Nat.lt_or_ge e (l - n) with h4 | h4
        · exact hfst e h4
        · obtain ⟨e', rfl⟩ : ∃ e', e = l - n + e' := ⟨e - (l - n), by omega⟩
          rw [hsnd e' (by omega), hje e' (by omega)]; exact he e' (by omega)
      · rw [hsnd d (by omega), hje d (Nat.le_refl _)]; exact hdl
  · have hst := hstop (by omega)
    have hq : n * (k / n) + k % n = k := Nat.div_add_mod k n
    have hq1 : 1 ≤ k / n := (Nat.one_le_div_iff hn).2 hnk
    have hr0 : 0 < n * (k / n) := Nat.mul_pos hn hq1
    have hrk : k % n < n := Nat.mod_lt _ hn
    have hlt := h (n * (k / n)) hr0 (by omega)
    obtain ⟨q, hqq⟩ : ∃ q, n * (k / n) = q := ⟨_, rfl⟩
    have hqm : q % n = 0 := by rw [← hqq]; exact Nat.mul_mod_right _ _
    rw [hqq] at hq hr0 hlt
    refine ltF_asymm hlt ⟨k % n, by omega, fun e h3 => ?_, ?_⟩
    · rw [rotF, if_pos (by omega), hm (e + q) (by omega), Nat.add_mod, hqm, Nat.add_zero, Nat.mod_mod, Nat.mod_eq_of_lt (by omega)]
    · rw [rotF, if_pos (by omega), show k % n + q = k by omega, Nat.mod_eq_sub_mod hnk, ← hm (k - n) (by omega)]
      exact hst
/-- The same behind a period. -/
theorem per_shift {g : Nat → Nat} {n k : Nat} (hn : 0 < n) (hp : Per g n k) (a : Nat) (ha : a * n ≤ k) : ∀ j, j < k - a * n → g (a * n + j) = g j := fun j hj => by
  have hm := per_mod hn hp
  rw [hm _ (by omega), hm j (by omega), Nat.add_comm, Nat.add_mul_mod_self_right]
theorem lynM_congr {f g : Nat → Nat} {n : Nat} (h : ∀ e, e < n → f e = g e) (hl : LynM g n) : LynM f n := fun r h1 h2 => by
  obtain ⟨d, hd, he, hlt⟩ := hl r h1 h2
  exact ⟨d, hd, fun e h3 => by rw [h e (by omega), h (r + e) (by omega)]; exact he e h3, by rw [h d (by omega), h (r + d) hd]; exact hlt⟩
/-- Each of the copies that a walk finds is the longest Lyndon beginning of what is left. -/
theorem lyn_copies {g : Nat → Nat} {n k N : Nat} (hn : 0 < n) (hp : Per g n k) (hl : LynM g n) (hstop : k < N → g k < g (k - n)) (hkN : k ≤ N) (a : Nat) (ha : a * n + n ≤ k) :
    LynF (fun j => g (a * n + j)) n ∧ ∀ l, n < l → l ≤ N - a * n → ¬ LynF (fun j => g (a * n + j)) l := by
  have hs := per_shift hn hp a (by omega)
  have hlm : LynM (fun j => g (a * n + j)) n := lynM_congr (fun e he => hs e (by omega)) hl
  refine ⟨lyn_of hlm, lyn_none (k := k - a * n) hn (by omega) (fun j h1 h2 => ?_) hlm (fun h => ?_) (by omega)⟩
  · show g (a * n + j) = g (a * n + (j - n))
    rw [hp (a * n + j) (by omega) (by omega)]; congr 1; omega
  · show g (a * n + (k - a * n)) < g (a * n + (k - a * n - n))
    rw [show a * n + (k - a * n) = k by omega, show a * n + (k - a * n - n) = k - n by omega]
    exact hstop (by omega)
end Go.Proofs.YtbegecoocgkbiaaGreatDoor

/- Lyndon words over strings, the plain part: the reference's order of turns, in numbers; the parts. No condition. -/
namespace Go.Proofs.YtbegecoocgkbiaaGreatDoor
open Go.RowKit
set_option linter.unusedVariables false

/-- The letters of s from i on, as numbers. -/
def gl (s : ByteArray) (i : Nat) : Nat → Nat := fun j => ((L s).getD (i + j) 0).toNat
theorem gl_at {s : ByteArray} {i j : Nat} (h : i + j < s.size) : gl s i j = (s[i + j]'h).toNat := by
  rw [gl, List.getD_eq_getElem?_getD, List.getElem?_eq_getElem (by rw [L_len]; exact h)]
  rfl
theorem gl_shift (s : ByteArray) (i a : Nat) : (fun j => gl s i (a + j)) = gl s (i + a) := by
  funext j; rw [gl, gl, Nat.add_assoc]
theorem ltF_list : ∀ {l m : List UInt8}, l.length = m.length → (l < m ↔ ltF (fun j => (l.getD j 0).toNat) (fun j => (m.getD j 0).toNat) l.length)
  | [], [], _ => by simp [ltF]
  | [], _ :: _, h => by simp at h
  | _ :: _, [], h => by simp at h
  | a :: l, b :: m, h => by
    have ih := ltF_list (l := l) (m := m) (by simpa using h)
    rw [List.cons_lt_cons_iff, ih]
    constructor
    · rintro (h1 | ⟨rfl, d, hd, he, hl⟩)
      · exact ⟨0, by simp, fun e he => by omega, by simpa using UInt8.lt_iff_toNat_lt.1 h1⟩
      · refine ⟨d + 1, by simpa using hd, fun e h2 => ?_, by simpa using hl⟩
        cases e with
        | zero => rfl
        | succ e => simpa using he e (by omega)
    · rintro ⟨d, hd, he, hl⟩
      cases d with
      | zero => exact .inl (UInt8.lt_iff_toNat_lt.2 (by simpa using hl))
      | succ d =>
        have h0 := he 0 (by omega)
        refine .inr ⟨UInt8.toNat_inj.1 (by simpa using h0), d, by simpa using hd, fun e h2 => by simpa using he (e + 1) (by omega), by simpa using hl⟩
/-- The word turned by k letters comes behind it. -/
theorem turn_lt (s : ByteArray) (k : Nat) (hk : k ≤ s.size) : L s < L (s.extract k s.size ++ s.extract 0 k) ↔ ltF (gl s 0) (rotF (gl s 0) s.size k) s.size := by
  have hL : L (s.extract k s.size ++ s.extract 0 k) = (L s).drop k ++ (L s).take k := by
    simp only [L, ByteArray.data_append, Array.toList_append]
    have h1 := L_extract s k s.size
    have h2 := L_extract s 0 k
    simp only [L] at h1 h2
    rw [h1, h2, List.drop_zero, List.take_of_length_le (Nat.le_of_eq (L_len s))]
  rw [hL, ltF_list (by simp; omega), L_len]
  have e1 : ∀ e, e < s.size → (((L s).drop k ++ (L s).take k).getD e 0).toNat = rotF (gl s 0) s.size k e := fun e he => by
    unfold rotF gl
    rw [List.getD_eq_getElem?_getD]
    by_cases h : e + k < s.size
    · rw [if_pos h, List.getElem?_append_left (by rw [List.length_drop, L_len]; omega), List.getElem?_drop, List.getD_eq_getElem?_getD, Nat.zero_add, Nat.add_comm]
    · rw [if_neg h, List.getElem?_append_right (by rw [List.length_drop, L_len]; omega), List.length_drop, L_len, List.getElem?_take_of_lt (by omega), List.getD_eq_getElem?_getD, Nat.zero_add]
      congr 3; omega
  constructor
  · rintro ⟨d, hd, h1, h2⟩
    refine ⟨d, hd, fun e he => ?_, ?_⟩
    · rw [← e1 e (by omega)]; have := h1 e he; simpa [gl] using this
    · rw [← e1 d hd]; simpa [gl] using h2
  · rintro ⟨d, hd, h1, h2⟩
    refine ⟨d, hd, fun e he => ?_, ?_⟩
    · show ((L s).getD e 0).toNat = (((L s).drop k ++ (L s).take k).getD e 0).toNat
      rw [e1 e (by omega), ← h1 e he]; simp [gl]
    · show ((L s).getD d 0).toNat < (((L s).drop k ++ (L s).take k).getD d 0).toNat
      rw [e1 d hd]; simpa [gl] using h2
theorem gl_extract (s : ByteArray) (i n : Nat) (h : i + n ≤ s.size) (j : Nat) (hj : j < n) : gl (s.extract i (i + n)) 0 j = gl s i j := by
  unfold gl
  rw [L_extract, List.getD_eq_getElem?_getD, List.getD_eq_getElem?_getD, Nat.zero_add, List.getElem?_drop, List.getElem?_take_of_lt (by omega)]
theorem ltF_congr {f f' g g' : Nat → Nat} {n : Nat} (h1 : ∀ e, e < n → f e = f' e) (h2 : ∀ e, e < n → g e = g' e) : ltF f g n ↔ ltF f' g' n := by
  constructor
  · rintro ⟨d, hd, a, b⟩
    exact ⟨d, hd, fun e he => by rw [← h1 e (by omega), ← h2 e (by omega)]; exact a e he, by rw [← h1 d hd, ← h2 d hd]; exact b⟩
  · rintro ⟨d, hd, a, b⟩
    exact ⟨d, hd, fun e he => by rw [h1 e (by omega), h2 e (by omega)]; exact a e he, by rw [h1 d hd, h2 d hd]; exact b⟩
theorem lynF_congr {f g : Nat → Nat} {n : Nat} (h : ∀ e, e < n → f e = g e) : LynF f n ↔ LynF g n := by
  have hr : ∀ r, r < n → ∀ e, e < n → rotF f n r e = rotF g n r e := fun r hr e he => by
    unfold rotF; split
    · exact h _ (by omega)
    · exact h _ (by omega)
  exact ⟨fun hl r h1 h2 => (ltF_congr h (hr r h2)).1 (hl r h1 h2), fun hl r h1 h2 => (ltF_congr h (hr r h2)).2 (hl r h1 h2)⟩
theorem lynF_extract (s : ByteArray) (i n : Nat) (h : i + n ≤ s.size) : LynF (gl (s.extract i (i + n)) 0) n ↔ LynF (gl s i) n := lynF_congr fun e he => gl_extract s i n h e he
theorem lynF_one (g : Nat → Nat) : LynF g 1 := fun r h1 h2 => by omega
open Classical in
/-- The longest Lyndon beginning, of at most N letters. -/
noncomputable def lng (g : Nat → Nat) : Nat → Nat
  | 0 => 0
  | n + 1 => if LynF g (n + 1) then n + 1 else lng g n
theorem lng_is {g : Nat → Nat} {n : Nat} : ∀ {N : Nat}, 0 < n → n ≤ N → LynF g n → (∀ l, n < l → l ≤ N → ¬ LynF g l) → lng g N = n
  | 0, h, h2, _, _ => by omega
  | N + 1, h, h2, hl, hn => by
    unfold lng
    by_cases he : n = N + 1
    · subst he; rw [if_pos hl]
    · rw [if_neg (hn (N + 1) (by omega) (Nat.le_refl _))]
      exact lng_is h (by omega) hl fun l h3 h4 => hn l h3 (by omega)
theorem lng_ok (g : Nat → Nat) : ∀ N, 0 < N → 0 < lng g N ∧ lng g N ≤ N ∧ LynF g (lng g N) ∧ ∀ l, lng g N < l → l ≤ N → ¬ LynF g l
  | 0, h => by omega
  | N + 1, _ => by
    unfold lng
    by_cases hl : LynF g (N + 1)
    · rw [if_pos hl]; exact ⟨by omega, Nat.le_refl _, hl, fun l h1 h2 => by omega⟩
    · rw [if_neg hl]
      by_cases h0 : N = 0
      · subst h0; exact absurd (lynF_one g) hl
      · obtain ⟨h1, h2, h3, h4⟩ := lng_ok g N (by omega)
        refine ⟨h1, by omega, h3, fun l h5 h6 => ?_⟩
        by_cases he : l = N + 1
        · subst he; exact hl
        · exact h4 l h5 (by omega)
/-- The Lyndon parts of s from i on. -/
noncomputable def prt (s : ByteArray) : Nat → Nat → List ByteArray
  | 0, _ => []
  | f + 1, i => if i < s.size then s.extract i (i + lng (gl s i) (s.size - i)) :: prt s f (i + lng (gl s i) (s.size - i)) else []
noncomputable def prts (s : ByteArray) (i : Nat) : List ByteArray := prt s (s.size + 1) i
theorem prt_fuel (s : ByteArray) : ∀ (f g i : Nat), s.size - i < f → s.size - i < g → prt s f i = prt s g i
  | 0, g, i, h, _ => by omega
  | f + 1, 0, i, _, h => by omega
  | f + 1, g + 1, i, h1, h2 => by
    unfold prt
    by_cases hi : i < s.size
    · have hl := lng_ok (gl s i) (s.size - i) (by omega)
      rw [if_pos hi, if_pos hi, prt_fuel s f g _ (by omega) (by omega)]
    · rw [if_neg hi, if_neg hi]
theorem prts_end (s : ByteArray) {i : Nat} (h : ¬ i < s.size) : prts s i = [] := by rw [prts, prt, if_neg h]
theorem prts_next (s : ByteArray) {i n : Nat} (h : i < s.size) (hn : lng (gl s i) (s.size - i) = n) : prts s i = s.extract i (i + n) :: prts s (i + n) := by
  have hl := lng_ok (gl s i) (s.size - i) (by omega)
  rw [prts, prt, if_pos h, hn, prts, prt_fuel s s.size (s.size + 1)]
  · omega
  · omega
theorem prt_size (s : ByteArray) : ∀ (f i : Nat) (x : ByteArray), x ∈ prt s f i → x.size ≤ s.size
  | 0, i, x, h => by simp [prt] at h
  | f + 1, i, x, h => by
    unfold prt at h
    split at h
    · rcases List.mem_cons.1 h with e | e
      · rw [e, ByteArray.size_extract]; omega
      · exact prt_size s f _ x e
    · simp at h
theorem prt_len (s : ByteArray) : ∀ (f i : Nat), (prt s f i).length ≤ s.size - i
  | 0, i => by simp [prt]
  | f + 1, i => by
    unfold prt
    split
    · rename_i h
      have hl := lng_ok (gl s i) (s.size - i) (by omega)
      have := prt_len s f (i + lng (gl s i) (s.size - i))
      rw [List.length_cons]; omega
    · simp
end Go.Proofs.YtbegecoocgkbiaaGreatDoor
