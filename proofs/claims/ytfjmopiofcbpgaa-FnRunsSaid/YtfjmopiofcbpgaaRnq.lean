/- Runs, plain, further: the self-describing word's first 200 letters, the longest run, and a count over all words. No condition. -/
import Derived.Test.YtfjmopiofcbpgaaRnp
import Derived.Test.YtfjmopiofcbpgaaSlf
import Derived.Test.YtfjmopiofcbpgaaSmc
import Derived.Test.YtfjmopiofcbpgaaLwk
namespace Go.Proofs.Ytfjmopiofcbpgaa
open Go.RowKit
set_option linter.unusedVariables false

theorem sl_len : slW.length = 200 := by decide +kernel
theorem sl_bin : binW slW = true := by decide +kernel
theorem sl_smooth : smoothL slW = true := by decide +kernel
theorem sl_abb : slW.take 3 = [97, 98, 98] := by decide +kernel
def slCk : Bool := (List.range ((runsOf slW).length - 1)).all fun i => decide (1 ≤ (runsOf slW).getD i 0 ∧ (runsOf slW).getD i 0 ≤ 2 ∧ (((slW.getD i 0).toNat : Int) - 96 = (runsOf slW).getD i 0))
theorem sl_ck : slCk = true := by decide +kernel
theorem sl_runs {i : Nat} {n : Int} (h : (runsOf slW)[i]? = some n) (hi : i + 1 < (runsOf slW).length) : 1 ≤ n ∧ n ≤ 2 ∧ ∃ b, slW[i]? = some b ∧ (b.toNat : Int) - 96 = n := by
  have hck := sl_ck
  unfold slCk at hck
  rw [List.all_eq_true] at hck
  have h1 := hck i (by rw [List.mem_range]; omega)
  rw [decide_eq_true_eq] at h1
  have h2 : (runsOf slW).getD i 0 = n := by rw [List.getD_eq_getElem?_getD, h]; rfl
  rw [h2] at h1
  have h3 := runs_len slW
  rw [sl_len] at h3
  obtain ⟨b, hb⟩ := some_of_lt (l := slW) (k := i) (by rw [sl_len]; omega)
  refine ⟨h1.1, h1.2.1, b, hb, ?_⟩
  have h4 : slW.getD i 0 = b := by rw [List.getD_eq_getElem?_getD, hb]; rfl
  rw [h4] at h1
  exact h1.2.2
/-- The longest run and the runs. -/
theorem lr_small (s : ByteArray) : ∀ (n k r m : Nat) (acc : List Int), k + n = s.size → (k = 0 ∧ acc = [] ∧ m = 0 ∨ 0 < k ∧ 1 ≤ r ∧ (∃ a, acc = a ++ [(r : Int)]) ∧ small acc = decide (m ≤ 2) ∧ r ≤ m) →
    decide (lrN s n k r m ≤ 2) = small (rg acc (lastOf (L s) k) ((L s).drop k))
  | 0, k, r, m, acc, hk, h => by
    have hd : (L s).drop k = [] := List.drop_eq_nil_of_le (by rw [L_len]; omega)
    rw [hd, rg, lrN]
    rcases h with ⟨_, h2, h3⟩ | ⟨_, _, _, h4, _⟩
    · rw [h2, h3]; rfl
    · exact h4.symm
  | n + 1, k, r, m, acc, hk, h => by
    have hlt : k < s.size := by omega
    have hdr := drop_at s k hlt
    have hls : lastOf (L s) (k + 1) = some s[k] := by rw [lastOf_succ]; exact L_at s k hlt
    rw [hdr, rg, ← hls, lrN]
    rcases h with ⟨h1, h2, h3⟩ | ⟨h1, h2, ⟨a, h3⟩, h4, h5⟩
    · rw [if_neg (by omega)]
      subst h1 h2 h3
      refine lr_small s n 1 1 (max 0 1) _ (by omega) (.inr ⟨by omega, by omega, ⟨[], ?_⟩, ?_, by omega⟩)
      · rfl
      · rfl
    · have hp : lastOf (L s) k = some (s[k - 1]'(by omega)) := by
        rw [lastOf, if_neg (by omega)]; exact L_at s (k - 1) (by omega)
      have hga : small acc = (small a && decide ((r : Int) ≤ 2)) := by rw [h3, small_append]; simp [small]
      by_cases he : gl s 0 k = gl s 0 (k - 1)
      · rw [if_pos ⟨h1, he⟩]
        have hb : (s[k - 1]'(by omega)) = s[k] := by
          rw [gl0 hlt, gl0 (show k - 1 < s.size by omega)] at he
          exact UInt8.toNat_inj.1 he.symm
        have hopn : bump (opn acc (lastOf (L s) k) s[k]) = a ++ [((r + 1 : Nat) : Int)] := by
          unfold opn
          rw [hp, hb, if_pos rfl, h3, bump_snoc]
          congr 2
        rw [hopn]
        refine lr_small s n (k + 1) (r + 1) (max m (r + 1)) _ (by omega) (.inr ⟨by omega, by omega, ⟨a, rfl⟩, ?_, by omega⟩)
        rw [small_append]
        have h6 : small a = true ∨ small a = false := by cases small a <;> simp
        rw [hga] at h4
        have h7 : small [((r + 1 : Nat) : Int)] = decide (r + 1 ≤ 2) := by
          simp only [small, List.all_cons, List.all_nil, Bool.and_true]
          rw [decide_eq_decide]; omega
        rw [h7, Bool.eq_iff_iff]
        rw [Bool.eq_iff_iff] at h4
        simp only [Bool.and_eq_true, decide_eq_true_eq] at h4 ⊢
        constructor
        · rintro ⟨g1, g2⟩
          have := h4.1 ⟨g1, by omega⟩
          omega
        · intro g
          exact ⟨(h4.2 (by omega)).1, by omega⟩
      · rw [if_neg (by intro hh; exact he hh.2)]
        have hb : (s[k - 1]'(by omega)) ≠ s[k] := fun e => he (by rw [gl0 hlt, gl0 (show k - 1 < s.size by omega), e])
        have hopn : bump (opn acc (lastOf (L s) k) s[k]) = acc ++ [((1 : Nat) : Int)] := by
          unfold opn
          rw [hp, if_neg (by intro e; injection e with e; exact hb e), bump_snoc]
          rfl
        rw [hopn]
        refine lr_small s n (k + 1) 1 (max m 1) _ (by omega) (.inr ⟨by omega, by omega, ⟨acc, rfl⟩, ?_, by omega⟩)
        rw [small_append, h4]
        have h7 : small [((1 : Nat) : Int)] = true := rfl
        rw [h7, Bool.and_true, decide_eq_decide]
        omega
theorem lr_le (s : ByteArray) : decide ((lrV s : Int) ≤ 2) = small (runsOf (L s)) := by
  have h := lr_small s s.size 0 0 0 [] (by omega) (.inl ⟨rfl, rfl, rfl⟩)
  rw [List.drop_zero] at h
  rw [show runsOf (L s) = rg [] (lastOf (L s) 0) (L s) from rfl, ← h, lrV, decide_eq_decide]
  omega
/-- How many of the words y so far have m letters and are smooth. -/
def cnt2 (m : Nat) (l : List ByteArray) : Nat := (l.filter fun y => decide (y.size = m) && smoothS y).length
theorem cnt2_take {m k : Nat} {l : List ByteArray} {y : ByteArray} (h : l[k]? = some y) : cnt2 m (l.take (k + 1)) = cnt2 m (l.take k) + (if (decide (y.size = m) && smoothS y) = true then 1 else 0) := by
  unfold cnt2
  rw [List.take_add_one, h, List.filter_append, List.length_append]
  congr 1
  simp only [Option.toList_some, List.filter_cons, List.filter_nil]
  split <;> rfl
theorem cnt2_le (m : Nat) (l : List ByteArray) : cnt2 m l ≤ l.length := List.length_filter_le _ _
theorem cnt2_all : ∀ m, m ≤ 5 → cnt2 m (laysK 2 m) = cntS m (2 ^ m)
  | 0, _ => by decide +kernel
  | 1, _ => by decide +kernel
  | 2, _ => by decide +kernel
  | 3, _ => by decide +kernel
  | 4, _ => by decide +kernel
  | 5, _ => by decide +kernel
theorem cnt6 : cntS 6 (2 ^ 6) = 18 := by decide +kernel
theorem lays2_len : ∀ m, m ≤ 5 → (laysK 2 m).length ≤ 63
  | 0, _ => by decide +kernel
  | 1, _ => by decide +kernel
  | 2, _ => by decide +kernel
  | 3, _ => by decide +kernel
  | 4, _ => by decide +kernel
  | 5, _ => by decide +kernel
end Go.Proofs.Ytfjmopiofcbpgaa
