/- Nearness of words, plain: what the law FnNearness asks of the functions, with no program in sight. No condition but the bounds. -/
import Derived.Test.YtfjmopiofcbpgaaAlg
import Derived.Test.YtfjmopiofcbpgaaNear2
import Derived.Test.YtfjmopiofcbpgaaPpd
import Derived.Test.YtfjmopiofcbpgaaAgr
import Derived.Test.YtfjmopiofcbpgaaShf
import Derived.Test.YtfjmopiofcbpgaaSfm
import Derived.Test.YtfjmopiofcbpgaaIsf
import Derived.Test.YtfjmopiofcbpgaaCpl
namespace Go.Proofs.Ytfjmopiofcbpgaa
open Go.RowKit
set_option linter.unusedVariables false

theorem mism_ham : ∀ l m : List UInt8, mism l m = ham l m
  | [], [] => rfl
  | [], _ :: _ => rfl
  | _ :: _, [] => rfl
  | a :: l, b :: m => by rw [mism, ham, mism_ham l m]
theorem mism_zero : ∀ {l m : List UInt8}, l.length = m.length → (mism l m = 0 ↔ l = m)
  | [], [], _ => by simp [mism]
  | a :: l, b :: m, h => by
    have ih := mism_zero (l := l) (m := m) (by simpa using h)
    rw [mism]
    by_cases e : a = b
    · subst e; rw [if_pos rfl, Nat.zero_add, ih]; simp
    · rw [if_neg e]
      constructor
      · intro h2; omega
      · intro h2; injection h2 with h3 h4; exact absurd h3 e
theorem mm_same (s t : ByteArray) (h1 : isW (L s) = true) (h2 : isW (L t) = true) (h : s.size = t.size) : dist (L s) (L t) ≤ mmOf (L s) (L t) ∧ (mmOf (L s) (L t) = 0 ↔ s = t) ∧ 0 ≤ mmOf (L s) (L t) ∧ mmOf (L s) (L t) ≤ s.size := by
  have hl : (L s).length = (L t).length := by rw [L_len, L_len, h]
  have e : mmOf (L s) (L t) = (mism (L s) (L t) : Int) := by rw [mmOf, if_pos ⟨h1, h2, hl⟩]
  have h3 := dist_ham (L s) (L t) hl
  have h4 := mism_le (L s) (L t)
  rw [L_len] at h4
  rw [e, mism_ham]
  refine ⟨h3, ?_, by omega, by rw [← mism_ham]; omega⟩
  rw [← mism_ham]
  have h5 := mism_zero hl
  constructor
  · intro h6; exact bytes_ext (h5.1 (by omega))
  · intro h6; rw [h5.2 (by rw [h6])]; rfl
theorem mm_other (s t : ByteArray) (h : s.size ≠ t.size) : mmOf (L s) (L t) = -1 := by
  rw [mmOf, if_neg]
  rintro ⟨_, _, h3⟩
  rw [L_len, L_len] at h3; exact h h3

theorem agr_zero (s : ByteArray) : agr (L s) 0 = s.size := by
  have := (mism_zero (l := L s) (m := L s) rfl).2 rfl
  rw [agr, List.drop_zero, Nat.sub_zero, List.take_of_length_le (Nat.le_refl _), this, L_len]; omega
theorem agr_end (s : ByteArray) : agr (L s) s.size = 0 := by
  have h := agr_bd s s.size (Nat.le_refl _)
  omega
theorem gl_get {s : ByteArray} {j : Nat} (h : j < s.size) : (L s)[j]? = some (UInt8.ofNat (gl s 0 j)) := by
  rw [gl0 h, L_at s j h]; simp
theorem agr_per (s : ByteArray) (k : Nat) (hk : k ≤ s.size) : agr (L s) k = (s.size : Int) - k ↔ PerOn s 0 s.size k := by
  have hl : ((L s).drop k).length = ((L s).take ((L s).length - k)).length := by
    rw [List.length_drop, List.length_take, L_len]; omega
  have h0 := mism_zero hl
  have e : agr (L s) k = (s.size : Int) - k ↔ mism ((L s).drop k) ((L s).take ((L s).length - k)) = 0 := by
    rw [agr, L_len]; omega
  rw [e, h0, L_len]
  constructor
  · intro h j _ hj
    have h2 := congrArg (fun l => l[j]?) h
    simp only [List.getElem?_drop, List.getElem?_take] at h2
    rw [if_pos (by omega), L_at s (k + j) (by omega), L_at s j (by omega)] at h2
    injection h2 with h3
    rw [gl0 (show j < s.size by omega), gl0 (show j + k < s.size by omega)]
    have : s[j + k]'(by omega) = s[k + j]'(by omega) := by congr 1; omega
    rw [this, h3]
  · intro h
    refine List.ext_getElem? fun j => ?_
    rw [List.getElem?_drop, List.getElem?_take]
    by_cases hj : j < s.size - k
    · rw [if_pos hj, gl_get (show k + j < s.size by omega), gl_get (show j < s.size by omega), h j (by omega) (by omega), Nat.add_comm k j]
    · rw [if_neg hj, List.getElem?_eq_none (by rw [L_len]; omega)]
theorem has_per (s : ByteArray) (k : Nat) (h1 : 1 ≤ k) (hk : k ≤ s.size) : (decide ((k : Int) ∈ pdL s s.size)) = decide (agr (L s) k = (s.size : Int) - k) := by
  rw [decide_eq_decide, agr_per s k hk, pdL_mem]
  constructor
  · rintro ⟨p, e, _, _, h⟩
    have : k = p := by omega
    subst this; exact h
  · intro h; exact ⟨k, rfl, h1, hk, h⟩

theorem cross {a b c x y z : Int} (hx : 0 < x) (hy : 0 < y) (hz : 0 < z) (h1 : a * y ≤ b * x) (h2 : b * z < c * y) : a * z < c * x := by
  have e1 : a * y * z ≤ b * x * z := Int.mul_le_mul_of_nonneg_right h1 (by omega)
  have e2 : b * z * x < c * y * x := Int.mul_lt_mul_of_pos_right h2 hx
  have e3 : a * z * y < c * x * y := by
    have q1 : a * z * y = a * y * z := by rw [Int.mul_assoc, Int.mul_assoc, Int.mul_comm z y]
    have q2 : b * x * z = b * z * x := by rw [Int.mul_assoc, Int.mul_assoc, Int.mul_comm z x]
    have q3 : c * y * x = c * x * y := by rw [Int.mul_assoc, Int.mul_assoc, Int.mul_comm y x]
    omega
  exact Int.lt_of_mul_lt_mul_right e3 (by omega)
/-- i is no better a shift than r. -/
def noBet (l : List UInt8) (r i : Nat) : Prop := agr l i * ((l.length : Int) - r) ≤ agr l r * ((l.length : Int) - i) ∧ (agr l i * ((l.length : Int) - r) = agr l r * ((l.length : Int) - i) → r ≤ i)
theorem noBet_self (l : List UInt8) (r : Nat) : noBet l r r := ⟨Int.le_refl _, fun _ => Nat.le_refl _⟩
theorem best_ok (l : List UInt8) : ∀ n k b, 1 ≤ k → k + n ≤ l.length / 2 + 1 → (b = 0 ∧ k = 1 ∨ 1 ≤ b ∧ b < k ∧ ∀ i, 1 ≤ i → i < k → noBet l b i) →
    (bestGo l n k b = 0 ∧ k + n = 1 ∨ 1 ≤ bestGo l n k b ∧ bestGo l n k b < k + n ∧ ∀ i, 1 ≤ i → i < k + n → noBet l (bestGo l n k b) i)
  | 0, k, b, h1, h2, h3 => by
    rcases h3 with ⟨rfl, rfl⟩ | h3
    · exact .inl ⟨rfl, rfl⟩
    · exact .inr h3
  | n + 1, k, b, h1, h2, h3 => by
    have hk : (k : Int) < l.length := by omega
    rw [bestGo]
    rw [show k + (n + 1) = k + 1 + n by omega]
    split
    · rename_i hc
      refine best_ok l n (k + 1) k (by omega) (by omega) (.inr ⟨h1, by omega, fun i hi1 hi2 => ?_⟩)
      by_cases hik : i = k
      · subst hik; exact noBet_self l i
      · rcases h3 with ⟨rfl, rfl⟩ | ⟨hb1, hb2, hb3⟩
        · omega
        · have hc' : agr l b * ((l.length : Int) - k) < agr l k * ((l.length : Int) - b) := by
            rcases hc with h0 | h0
            · omega
            · exact h0
          have hlt := cross (a := agr l i) (x := (l.length : Int) - i) (by omega) (by omega) (by omega) (hb3 i hi1 (by omega)).1 hc'
          exact ⟨by omega, fun h => by omega⟩
    · rename_i hc
      rcases h3 with ⟨rfl, rfl⟩ | ⟨hb1, hb2, hb3⟩
      · exact absurd (.inl rfl) hc
      · refine best_ok l n (k + 1) b (by omega) (by omega) (.inr ⟨hb1, by omega, fun i hi1 hi2 => ?_⟩)
        by_cases hik : i = k
        · subst hik
          have : ¬ agr l b * ((l.length : Int) - i) < agr l i * ((l.length : Int) - b) := fun h => hc (.inr h)
          exact ⟨by omega, fun _ => by omega⟩
        · exact hb3 i hi1 (by omega)
/-- What BestShift returns. -/
def bsN (s : ByteArray) : Nat := bestGo (L s) (s.size / 2) 1 0
theorem bs_ok (s : ByteArray) : (bsN s = 0 ↔ s.size < 2) ∧ bsN s ≤ s.size / 2 ∧ ∀ i : Nat, 1 ≤ i → i ≤ s.size / 2 → agr (L s) i * ((s.size : Int) - bsN s) ≤ agr (L s) (bsN s) * ((s.size : Int) - i) ∧ (agr (L s) i * ((s.size : Int) - bsN s) = agr (L s) (bsN s) * ((s.size : Int) - i) → bsN s ≤ i) := by
  have h := best_ok (L s) (s.size / 2) 1 0 (Nat.le_refl _) (by rw [L_len]; omega) (.inl ⟨rfl, rfl⟩)
  unfold bsN
  rcases h with ⟨h1, h2⟩ | ⟨h1, h2, h3⟩
  · refine ⟨by rw [h1]; omega, by omega, fun i h4 h5 => by omega⟩
  · refine ⟨by omega, by omega, fun i h4 h5 => ?_⟩
    have h6 := h3 i h4 (by omega)
    unfold noBet at h6
    rw [L_len] at h6
    exact h6

theorem near_ok (w f : List UInt8) : ∀ n i a m, (i = 0 ∧ m = f.length + 1 ∧ 1 ≤ n ∨ a < i ∧ m = mism ((w.drop a).take f.length) f ∧ ∀ j, j < i → m ≤ mism ((w.drop j).take f.length) f) →
    (nearGo w f n i a m).1 < i + n ∧ (nearGo w f n i a m).2 = mism ((w.drop (nearGo w f n i a m).1).take f.length) f ∧ ∀ j, j < i + n → (nearGo w f n i a m).2 ≤ mism ((w.drop j).take f.length) f
  | 0, i, a, m, h => by
    rcases h with ⟨_, _, h⟩ | h
    · omega
    · exact h
  | n + 1, i, a, m, h => by
    have hle : mism ((w.drop i).take f.length) f ≤ f.length := by rw [mism_comm]; exact mism_le _ _
    rw [nearGo, show i + (n + 1) = i + 1 + n by omega]
    split
    · rename_i hc
      refine near_ok w f n (i + 1) i _ (.inr ⟨by omega, rfl, fun j hj => ?_⟩)
      by_cases hji : j = i
      · subst hji; exact Nat.le_refl _
      · rcases h with ⟨h1, _⟩ | ⟨_, h2, h3⟩
        · omega
        · have := h3 j (by omega); omega
    · rename_i hc
      rcases h with ⟨h1, h2, _⟩ | ⟨h1, h2, h3⟩
      · omega
      · refine near_ok w f n (i + 1) a m (.inr ⟨by omega, h2, fun j hj => ?_⟩)
        by_cases hji : j = i
        · subst hji; omega
        · exact h3 j (by omega)
theorem least_to {p : Nat → Bool} : ∀ (n : Nat), (∃ i, i < n ∧ p i = true) → ∃ i, i < n ∧ p i = true ∧ ∀ j, j < i → p j = false
  | 0, ⟨i, h, _⟩ => by omega
  | n + 1, ⟨i, h, hp⟩ => by
    by_cases h2 : ∃ i, i < n ∧ p i = true
    · obtain ⟨k, h3, h4, h5⟩ := least_to n h2
      exact ⟨k, by omega, h4, h5⟩
    · have hall : ∀ j, j < n → p j = false := fun j hj => by
        cases hpj : p j
        · rfl
        · exact absurd ⟨j, hj, hpj⟩ h2
      have hin : i = n := by
        rcases Nat.lt_or_ge i n with h3 | h3
        · rw [hall i h3] at hp; cases hp
        · omega
      subst hin
      exact ⟨i, by omega, hp, hall⟩
/-- To be a factor is to stand somewhere within. -/
theorem hasF_inf (w f : ByteArray) : hasF w f = true ↔ L f <:+: L w := by
  unfold hasF Lib.contains
  by_cases h : ∃ i, i < (L w).length + 1 ∧ Lib.occAt (L w) (L f) i = true
  · obtain ⟨i, h1, h2, h3⟩ := least_to _ h
    rw [Lib.index_first (i := i) (by omega) h2 h3]
    have hp := h2
    rw [Lib.occAt, List.isPrefixOf_iff_prefix] at hp
    exact ⟨fun _ => hp.isInfix.trans (List.drop_suffix i (L w)).isInfix, fun _ => by simp⟩
  · have hall : ∀ j, j ≤ (L w).length → Lib.occAt (L w) (L f) j = false := fun j hj => by
      cases hpj : Lib.occAt (L w) (L f) j
      · rfl
      · exact absurd ⟨j, by omega, hpj⟩ h
    rw [Lib.index_none hall]
    constructor
    · intro h2; simp at h2
    · rintro ⟨a, b, h2⟩
      have h3 := hall a.length (by rw [← h2, List.length_append, List.length_append]; omega)
      rw [Lib.occAt, ← h2, List.append_assoc, List.drop_left] at h3
      have h4 : (L f).isPrefixOf (L f ++ b) = true := List.isPrefixOf_iff_prefix.2 (List.prefix_append _ _)
      rw [h4] at h3; cases h3
theorem inf_part {w f : List UInt8} : f <:+: w ↔ ∃ j, j + f.length ≤ w.length ∧ (w.drop j).take f.length = f := by
  constructor
  · rintro ⟨a, b, h⟩
    refine ⟨a.length, by rw [← h, List.length_append, List.length_append]; omega, ?_⟩
    rw [← h, List.append_assoc, List.drop_left, List.take_left]
  · rintro ⟨j, _, h⟩
    rw [← h]
    exact (List.take_prefix _ _).isInfix.trans (List.drop_suffix _ _).isInfix
def npR (s t : ByteArray) : Nat × Nat := nearGo (L s) (L t) (s.size - t.size + 1) 0 0 (t.size + 1)
theorem np_ok (s t : ByteArray) (h1 : isW (L s) = true) (h2 : isW (L t) = true) (h : t.size ≤ s.size) :
    (npR s t).1 + t.size ≤ s.size ∧ mmOf (L (s.extract (npR s t).1 ((npR s t).1 + t.size))) (L t) = ((npR s t).2 : Int) ∧ ((npR s t).2 = 0 ↔ facB s t = true) ∧ (npR s t).2 ≤ t.size := by
  have h0 := near_ok (L s) (L t) (s.size - t.size + 1) 0 0 (t.size + 1) (.inl ⟨rfl, by rw [L_len], by omega⟩)
  unfold npR
  generalize nearGo (L s) (L t) (s.size - t.size + 1) 0 0 (t.size + 1) = r at h0 ⊢
  obtain ⟨a, m⟩ := r
  obtain ⟨h3, h4, h5⟩ := h0
  simp only at h3 h4 h5 ⊢
  have ha : a + t.size ≤ s.size := by omega
  have hp : L (s.extract a (a + t.size)) = ((L s).drop a).take (L t).length := by rw [L_part, L_len]
  have hlen : ∀ j, j + (L t).length ≤ (L s).length → (((L s).drop j).take (L t).length).length = (L t).length := fun j hj => by
    rw [List.length_take, List.length_drop]; omega
  have hW : isW (L (s.extract a (a + t.size))) = true := by
    rw [hp]
    unfold isW at h1 ⊢
    simp only [Bool.and_eq_true, List.all_eq_true, decide_eq_true_eq] at h1 ⊢
    refine ⟨fun x hx => h1.1 x (List.mem_of_mem_drop (List.mem_of_mem_take hx)), ?_⟩
    rw [List.length_take, List.length_drop]; omega
  refine ⟨ha, ?_, ?_, ?_⟩
  · rw [mmOf, if_pos ⟨hW, h2, by rw [hp]; exact hlen a (by rw [L_len, L_len]; exact ha)⟩, hp, h4]
  · have hF : facB s t = hasF s t := by rw [facB, h1, h2]; simp
    rw [hF, hasF_inf, inf_part]
    constructor
    · intro hm
      refine ⟨a, by rw [L_len, L_len]; exact ha, ?_⟩
      exact (mism_zero (hlen a (by rw [L_len, L_len]; exact ha))).1 (by rw [← h4, hm])
    · rintro ⟨j, hj1, hj2⟩
      have h6 := h5 j (by rw [L_len, L_len] at hj1; omega)
      rw [(mism_zero (hlen j hj1)).2 hj2] at h6
      omega
  · rw [h4, mism_comm]
    have := mism_le (L t) (((L s).drop a).take (L t).length)
    rw [L_len] at this
    rw [L_len]; exact this

theorem sf_symm (s t : ByteArray) : ∀ f n, sfGo s t f n = sfGo t s f n
  | 0, n => rfl
  | f + 1, n => by
    rw [sfGo, sfGo, sf_symm s t f (n + 1)]
    by_cases h : insL (fc s (n + 1)) = insL (fc t (n + 1))
    · rw [if_pos h, if_pos h.symm]
    · rw [if_neg h, if_neg (fun e => h e.symm)]
theorem sfN_symm (s t : ByteArray) : sfN s t = sfN t s := by unfold sfN; rw [Nat.max_comm, sf_symm]
theorem sf_self (s : ByteArray) : ∀ f n, sfGo s s f n = n + f
  | 0, n => rfl
  | f + 1, n => by rw [sfGo, if_pos rfl, sf_self s f (n + 1)]; omega
theorem sfN_self (s : ByteArray) : sfN s s = s.size := by unfold sfN; rw [sf_self, Nat.max_self]; omega
theorem sf_bd (s t : ByteArray) : ∀ f n, sfGo s t f n ≤ n + f
  | 0, n => Nat.le_refl _
  | f + 1, n => by
    rw [sfGo]
    split
    · have := sf_bd s t f (n + 1); omega
    · omega
theorem sfN_bd (s t : ByteArray) : sfN s t ≤ max s.size t.size := by have := sf_bd s t (max s.size t.size) 0; unfold sfN; omega
theorem sf_eq (s t : ByteArray) : ∀ f n i, n < i → i ≤ sfGo s t f n → insL (fc s i) = insL (fc t i)
  | 0, n, i, h1, h2 => by rw [sfGo] at h2; omega
  | f + 1, n, i, h1, h2 => by
    rw [sfGo] at h2
    split at h2
    · rename_i he
      by_cases hi : i = n + 1
      · subst hi; exact he
      · exact sf_eq s t f (n + 1) i (by omega) h2
    · omega
theorem sfN_eq (s t : ByteArray) (i : Nat) (h1 : 1 ≤ i) (h2 : i ≤ sfN s t) : insL (fc s i) = insL (fc t i) := sf_eq s t _ 0 i h1 h2

theorem fc_mem {s : ByteArray} {n : Nat} {f : ByteArray} (h : f ∈ fc s n) : ∃ i, i + n ≤ s.size ∧ f = s.extract i (i + n) := by
  unfold fc fcT at h
  obtain ⟨i, h1, h2⟩ := List.mem_map.1 h
  rw [List.mem_range] at h1
  exact ⟨i, by omega, h2.symm⟩
theorem fc_fac {s : ByteArray} (h1 : isW (L s) = true) {n : Nat} {f : ByteArray} (h : f ∈ fc s n) : facB s f = true ∧ f.size = n ∧ isW (L f) = true := by
  obtain ⟨i, h2, rfl⟩ := fc_mem h
  have hp : L (s.extract i (i + n)) = ((L s).drop i).take n := L_part s i n
  have hW : isW (L (s.extract i (i + n))) = true := by
    rw [hp]
    have h1' := h1
    unfold isW at h1' ⊢
    simp only [Bool.and_eq_true, List.all_eq_true, decide_eq_true_eq] at h1' ⊢
    refine ⟨fun x hx => h1'.1 x (List.mem_of_mem_drop (List.mem_of_mem_take hx)), ?_⟩
    rw [List.length_take, List.length_drop]; omega
  refine ⟨?_, by simp; omega, hW⟩
  rw [facB, h1, hW, Bool.true_and, Bool.true_and, hasF_inf, hp]
  exact (List.take_prefix _ _).isInfix.trans (List.drop_suffix _ _).isInfix
theorem shL_ss (s t : ByteArray) (n : Nat) : SS (shL s t n) := (insL_ss _).sublist List.filter_sublist
theorem shL_fac {s t : ByteArray} (h1 : isW (L s) = true) (h2 : isW (L t) = true) {n : Nat} {f : ByteArray} (h : f ∈ shL s t n) : facB s f = true ∧ facB t f = true ∧ f.size = n := by
  unfold shL at h
  obtain ⟨h3, h4⟩ := List.mem_filter.1 h
  rw [hasS_mem, insL_mem] at h4
  rw [insL_mem] at h3
  exact ⟨(fc_fac h1 h3).1, (fc_fac h2 h4).1, (fc_fac h1 h3).2.1⟩
theorem shL_all {s t : ByteArray} {n : Nat} (h1 : 1 ≤ n) (h : n ≤ sfN s t) : (shL s t n).length = cpx s n := by
  unfold shL cpx
  rw [← sfN_eq s t n h1 h, List.filter_eq_self.2 (fun a ha => (hasS_mem _ _).2 ha)]
theorem shL_len (s t : ByteArray) (n : Nat) : (shL s t n).length ≤ s.size + 1 := by
  unfold shL
  have h1 := List.length_filter_le (hasS (insL (fc t n))) (insL (fc s n))
  have h2 := fcI_len s n
  omega
theorem ed_dist (s t : ByteArray) : ed (L s) (L t) s.size t.size = dist (L s) (L t) := by rw [dist, L_len, L_len]
end Go.Proofs.Ytfjmopiofcbpgaa
