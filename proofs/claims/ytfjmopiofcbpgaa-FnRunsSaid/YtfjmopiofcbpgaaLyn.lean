/- Lyndon words, the plain part: what the halving walk along a word finds is its longest Lyndon beginning. No condition. -/
import Derived.Test.YtfjmopiofcbpgaaStr
namespace Go.Proofs.Ytfjmopiofcbpgaa
open Go.RowKit
set_option linter.unusedVariables false

/-- The first difference of two rows of n numbers is in favour of the first. -/
def ltF (f g : Nat → Nat) (n : Nat) : Prop := ∃ d, d < n ∧ (∀ e, e < d → f e = g e) ∧ f d < g d
theorem ltF_asymm {f g : Nat → Nat} {n : Nat} (h : ltF f g n) : ¬ ltF g f n := by
  obtain ⟨d, _, h1, h2⟩ := h
  rintro ⟨d', _, h1', h2'⟩
  rcases Nat.lt_trichotomy d d' with h | h | h
  · have := h1' d h; omega
  · subst h; omega
  · have := h1 d' h; omega
theorem ltF_ne {f g : Nat → Nat} {n : Nat} (h : ∀ e, e < n → f e = g e) : ¬ ltF f g n := fun ⟨d, hd, _, h2⟩ => by have := h d hd; omega
def rotF (g : Nat → Nat) (n r : Nat) : Nat → Nat := fun e => if e + r < n then g (e + r) else g (e + r - n)
/-- The first n numbers come before each of their turns. -/
def LynF (g : Nat → Nat) (n : Nat) : Prop := ∀ r, 0 < r → r < n → ltF g (rotF g n r) n
/-- .. by a difference that lies within. -/
def LynM (g : Nat → Nat) (n : Nat) : Prop := ∀ r, 0 < r → r < n → ∃ d, r + d < n ∧ (∀ e, e < d → g e = g (r + e)) ∧ g d < g (r + d)
def Per (g : Nat → Nat) (n k : Nat) : Prop := ∀ j, n ≤ j → j < k → g j = g (j - n)
theorem per_mod {g : Nat → Nat} {n k : Nat} (hn : 0 < n) (h : Per g n k) : ∀ j, j < k → g j = g (j % n) := fun j => by
  induction j using Nat.strongRecOn with
  | _ j ih =>
    intro hj
    by_cases hjn : j < n
    · rw [Nat.mod_eq_of_lt hjn]
    · rw [h j (by omega) hj, ih (j - n) (by omega) (by omega), ← Nat.mod_eq_sub_mod (by omega)]
theorem lyn_of {g : Nat → Nat} {n : Nat} (h : LynM g n) : LynF g n := fun r h1 h2 => by
  obtain ⟨d, hd, he, hl⟩ := h r h1 h2
  refine ⟨d, by omega, fun e hed => ?_, ?_⟩
  · rw [rotF, if_pos (by omega), he e hed, Nat.add_comm]
  · rw [rotF, if_pos (by omega), Nat.add_comm]; exact hl
theorem lynM_one (g : Nat → Nat) : LynM g 1 := fun r h1 h2 => by omega
theorem per_one (g : Nat → Nat) : Per g 1 1 := fun j h1 h2 => by omega
theorem mod_add {j n r e : Nat} (hr : j % n = r) (h : r + e < n) : (j + e) % n = r + e := by
  rw [Nat.add_mod, hr, Nat.mod_eq_of_lt (show e < n by omega), Nat.mod_eq_of_lt h]
/-- A greater letter behind: the whole is Lyndon. -/
theorem lynM_more {g : Nat → Nat} {n k : Nat} (hn : 0 < n) (hnk : n ≤ k) (hp : Per g n k) (hl : LynM g n) (hc : g (k - n) < g k) : LynM g (k + 1) := fun j hj hjk => by
  have hm := per_mod hn hp
  obtain ⟨r, hr⟩ : ∃ r, j % n = r := ⟨_, rfl⟩
  have hrn : r < n := by rw [← hr]; exact Nat.mod_lt _ hn
  have hck : g ((k - n) % n) < g k := by rw [← hm (k - n) (by omega)]; exact hc
  have hkm : (k - n) % n = k % n := (Nat.mod_eq_sub_mod hnk).symm
  rw [hkm] at hck
  rcases Nat.eq_zero_or_pos r with h0 | h0
  · -- a multiple of the period
    subst h0
    have hje : ∀ e, j + e < k → g (j + e) = g e := fun e he => by
      rw [hm _ he, hm e (by omega), Nat.add_mod, hr, Nat.zero_add, Nat.mod_mod]
    refine ⟨k - j, by omega, fun e he => (hje e (by omega)).symm, ?_⟩
    rw [show j + (k - j) = k by omega]
    have : g (k - j) = g (k % n) := by
      rw [hm (k - j) (by omega)]
      congr 1
      have h2 : (j + (k - j)) % n = (k - j) % n := by rw [Nat.add_mod, hr, Nat.zero_add, Nat.mod_mod]
      rw [← h2, show j + (k - j) = k by omega]
    rw [this]; exact hck
  · obtain ⟨d, hd, he, hlt⟩ := hl r h0 hrn
    have hje : ∀ e, e ≤ d → j + e < k → g (j + e) = g (r + e) := fun e h1 h2 => by
      rw [hm _ h2, mod_add hr (by omega)]
    by_cases hjd : j + d < k
    · refine ⟨d, by omega, fun e h1 => ?_, ?_⟩
      · rw [hje e (by omega) (by omega)]; exact he e h1
      · rw [hje d (Nat.le_refl _) hjd]; exact hlt
    · refine ⟨k - j, by omega, fun e h1 => ?_, ?_⟩
      · rw [hje e (by omega) (by omega)]; exact he e (by omega)
      · rw [show j + (k - j) = k by omega]
        have hk : k % n = r + (k - j) := by
          have := mod_add (e := k - j) hr (by omega)
          rwa [show j + (k - j) = k by omega] at this
        rw [hk] at hck
        rcases Nat.lt_or_ge (k - j) d with h2 | h2
        · have := he (k - j) h2; omega
        · have h3 : k - j = d := by omega
          rw [h3] at hck ⊢; omega
/-- No longer beginning is Lyndon. -/
theorem lyn_none {g : Nat → Nat} {n k N : Nat} (hn : 0 < n) (hnk : n ≤ k) (hp : Per g n k) (hl : LynM g n) (hstop : k < N → g k < g (k - n)) (hkN : k ≤ N) : ∀ l, n < l → l ≤ N → ¬ LynF g l := fun l h1 h2 h => by
  have hm := per_mod hn hp
  by_cases hlk : l ≤ k
  · have hlt := h n hn h1
    have hfst : ∀ e, e < l - n → rotF g l n e = g e := fun e he => by
      rw [rotF, if_pos (by omega), hp (e + n) (by omega) (by omega)]; congr 1; omega
    obtain ⟨r, hr⟩ : ∃ r, (l - n) % n = r := ⟨_, rfl⟩
    have hrn : r < n := by rw [← hr]; exact Nat.mod_lt _ hn
    have hsnd : ∀ e, e < n → rotF g l n (l - n + e) = g e := fun e he => by
      rw [rotF, if_neg (by omega)]; congr 1; omega
    rcases Nat.eq_zero_or_pos r with h0 | h0
    · subst h0
      refine ltF_ne (fun e he => ?_) hlt
      rcases Nat.lt_or_ge e (l - n) with h3 | h3
      · exact (hfst e h3).symm
      · obtain ⟨e', rfl⟩ : ∃ e', e = l - n + e' := ⟨e - (l - n), by omega⟩
        rw [hsnd e' (by omega), hm (l - n + e') (by omega), Nat.add_mod, hr, Nat.zero_add, Nat.mod_mod, Nat.mod_eq_of_lt (by omega)]
    · obtain ⟨d, hd, he, hdl⟩ := hl r h0 hrn
      have hje : ∀ e, e ≤ d → g (l - n + e) = g (r + e) := fun e h1 => by
        rw [hm _ (by omega), mod_add hr (by omega)]
      refine ltF_asymm hlt ⟨l - n + d, by omega, fun e h3 => ?_, ?_⟩
      · rcases Nat.lt_or_ge e (l - n) with h4 | h4
        · exact hfst e h4
        · obtain ⟨e', rfl⟩ : ∃ e', e = l - n + e' := ⟨e - (l - n), by omega⟩
          rw [hsnd e' (by omega), hje e' (by omega)]; exact he e' (by omega)
      · rw [hsnd d (by omega), hje d (Nat.le_refl _)]; exact hdl
  · have hst := hstop (by omega)
    have hq : n * (k / n) + k % n = k := Nat.div_add_mod k n
    have hq1 : 1 ≤ k / n := (Nat.one_le_div_iff hn).2 hnk
    have hr0 : 0 < n * (k / n) := Nat.mul_pos hn hq1
    have hrk : k % n < n := Nat.mod_lt _ hn
    have hlt := h (n * (k / n)) hr0 (by omega)
    obtain ⟨q, hqq⟩ : ∃ q, n * (k / n) = q := ⟨_, rfl⟩
    have hqm : q % n = 0 := by rw [← hqq]; exact Nat.mul_mod_right _ _
    rw [hqq] at hq hr0 hlt
    refine ltF_asymm hlt ⟨k % n, by omega, fun e h3 => ?_, ?_⟩
    · rw [rotF, if_pos (by omega), hm (e + q) (by omega), Nat.add_mod, hqm, Nat.add_zero, Nat.mod_mod, Nat.mod_eq_of_lt (by omega)]
    · rw [rotF, if_pos (by omega), show k % n + q = k by omega, Nat.mod_eq_sub_mod hnk, ← hm (k - n) (by omega)]
      exact hst
/-- The same behind a period. -/
theorem per_shift {g : Nat → Nat} {n k : Nat} (hn : 0 < n) (hp : Per g n k) (a : Nat) (ha : a * n ≤ k) : ∀ j, j < k - a * n → g (a * n + j) = g j := fun j hj => by
  have hm := per_mod hn hp
  rw [hm _ (by omega), hm j (by omega), Nat.add_comm, Nat.add_mul_mod_self_right]
theorem lynM_congr {f g : Nat → Nat} {n : Nat} (h : ∀ e, e < n → f e = g e) (hl : LynM g n) : LynM f n := fun r h1 h2 => by
  obtain ⟨d, hd, he, hlt⟩ := hl r h1 h2
  exact ⟨d, hd, fun e h3 => by rw [h e (by omega), h (r + e) (by omega)]; exact he e h3, by rw [h d (by omega), h (r + d) hd]; exact hlt⟩
/-- Each of the copies that a walk finds is the longest Lyndon beginning of what is left. -/
theorem lyn_copies {g : Nat → Nat} {n k N : Nat} (hn : 0 < n) (hp : Per g n k) (hl : LynM g n) (hstop : k < N → g k < g (k - n)) (hkN : k ≤ N) (a : Nat) (ha : a * n + n ≤ k) :
    LynF (fun j => g (a * n + j)) n ∧ ∀ l, n < l → l ≤ N - a * n → ¬ LynF (fun j => g (a * n + j)) l := by
  have hs := per_shift hn hp a (by omega)
  have hlm : LynM (fun j => g (a * n + j)) n := lynM_congr (fun e he => hs e (by omega)) hl
  refine ⟨lyn_of hlm, lyn_none (k := k - a * n) hn (by omega) (fun j h1 h2 => ?_) hlm (fun h => ?_) (by omega)⟩
  · show g (a * n + j) = g (a * n + (j - n))
    rw [hp (a * n + j) (by omega) (by omega)]; congr 1; omega
  · show g (a * n + (k - a * n)) < g (a * n + (k - a * n - n))
    rw [show a * n + (k - a * n) = k by omega, show a * n + (k - a * n - n) = k - n by omega]
    exact hstop (by omega)
end Go.Proofs.Ytfjmopiofcbpgaa
