/- The first word that avoids a ban: the plain part. No condition. -/
import Derived.Test.YtaihigaafjmpiaaDoorCap
namespace Go.Proofs.YtaihigaafjmpiaaDoor
open Go.RowKit Go.Maps
set_option linter.unusedVariables false

theorem least_upto {p : Nat → Bool} : ∀ (n : Nat), (∃ i, i < n ∧ p i = true) → ∃ i, i < n ∧ p i = true ∧ ∀ j, j < i → p j = false
  | 0, ⟨i, h, _⟩ => by omega
  | n + 1, ⟨i, h, hp⟩ => by
    by_cases h2 : ∃ i, i < n ∧ p i = true
    · obtain ⟨k, h3, h4, h5⟩ := least_upto n h2
      exact ⟨k, by omega, h4, h5⟩
    · have hall : ∀ j, j < n → p j = false := fun j hj => by
        cases hpj : p j
        · rfl
        · exact absurd ⟨j, hj, hpj⟩ h2
      have hin : i = n := by
        rcases Nat.lt_or_ge i n with h3 | h3
        · rw [hall i h3] at hp; cases hp
        · omega
      subst hin
      exact ⟨i, by omega, hp, hall⟩
/-- To be a factor is to stand somewhere within. -/
theorem hasF_iff (w f : ByteArray) : hasF w f = true ↔ L f <:+: L w := by
  unfold hasF Lib.contains
  by_cases h : ∃ i, i < (L w).length + 1 ∧ Lib.occAt (L w) (L f) i = true
  · obtain ⟨i, h1, h2, h3⟩ := least_upto _ h
    rw [Lib.index_first (i := i) (by omega) h2 h3]
    have hp := h2
    rw [Lib.occAt, List.isPrefixOf_iff_prefix] at hp
    exact ⟨fun _ => hp.isInfix.trans (List.drop_suffix i (L w)).isInfix, fun _ => by simp⟩
  · have hall : ∀ j, j ≤ (L w).length → Lib.occAt (L w) (L f) j = false := fun j hj => by
      cases hpj : Lib.occAt (L w) (L f) j
      · rfl
      · exact absurd ⟨j, by omega, hpj⟩ h
    rw [Lib.index_none hall]
    constructor
    · intro h2; simp at h2
    · rintro ⟨a, b, h2⟩
      have h3 := hall a.length (by rw [← h2, List.length_append, List.length_append]; omega)
      rw [Lib.occAt, ← h2, List.append_assoc, List.drop_left] at h3
      have h4 : (L f).isPrefixOf (L f ++ b) = true := List.isPrefixOf_iff_prefix.2 (List.prefix_append _ _)
      rw [h4] at h3; cases h3
theorem avoidsB_iff (s : ByteArray) (ban : List ByteArray) : avoidsB s ban = true ↔ ∀ f ∈ ban, ¬ L f <:+: L s := by
  unfold avoidsB
  rw [List.all_eq_true]
  refine forall_congr' fun f => forall_congr' fun _ => ?_
  rw [← hasF_iff]
  cases hasF s f <;> simp
theorem L_snoc (o : ByteArray) (c : UInt8) : L (o ++ strOf [c]) = L o ++ [c] := by simp [L, strOf, ByteArray.data_append]
theorem L_tl3 (o : ByteArray) : L (tl3 o) = (L o).drop (o.size - 3) := by
  rw [tl3, L_extract, List.take_of_length_le (by rw [L_len]; exact Nat.le_refl _)]
theorem ban_len {ban : List ByteArray} (h : banOk ban = true) {f : ByteArray} (hf : f ∈ ban) : 1 ≤ f.size ∧ f.size ≤ 4 := by
  unfold banOk at h
  simp only [Bool.and_eq_true, List.all_eq_true] at h
  have := h.1 f hf
  unfold banW at this
  simp at this
  omega
theorem tl3_suf (o : ByteArray) (c : UInt8) : L (tl3 o ++ strOf [c]) <:+ L (o ++ strOf [c]) := by
  rw [L_snoc, L_snoc, L_tl3]
  exact ⟨(L o).take (o.size - 3), by rw [← List.append_assoc, List.take_append_drop]⟩
/-- Where the word so far avoids the ban, the last three letters tell whether one letter more does. -/
theorem avoids_tl {ban : List ByteArray} {o : ByteArray} (hb : banOk ban = true) (ho : avoidsB o ban = true) (c : UInt8) : avoidsB (o ++ strOf [c]) ban = avoidsB (tl3 o ++ strOf [c]) ban := by
  rw [Bool.eq_iff_iff, avoidsB_iff, avoidsB_iff]
  rw [avoidsB_iff] at ho
  refine forall_congr' fun f => forall_congr' fun hf => not_congr ⟨fun h => ?_, fun h => h.trans (tl3_suf o c).isInfix⟩
  rw [L_snoc, List.infix_concat_iff] at h
  rcases h with h | h
  · refine (List.suffix_of_suffix_length_le (by rw [L_snoc]; exact h) (tl3_suf o c) ?_).isInfix
    have h4 := (ban_len hb hf).2
    have h5 := h.length_le
    rw [List.length_append, L_len, L_len, List.length_singleton] at h5
    rw [L_snoc, L_tl3, List.length_append, List.length_drop, L_len, L_len, List.length_singleton]
    omega
  · exact absurd h (ho f hf)
theorem tl3_tl (o : ByteArray) (c : UInt8) : tl3 (tl3 o ++ strOf [c]) = tl3 (o ++ strOf [c]) := by
  apply bytes_ext
  show L _ = L _
  have hs : (tl3 o).size = o.size - (o.size - 3) := by rw [tl3, ByteArray.size_extract]; omega
  have hc : (strOf [c]).size = 1 := rfl
  rw [L_tl3, L_tl3, L_snoc, L_snoc, L_tl3, ByteArray.size_append, ByteArray.size_append, hs, hc]
  by_cases h : o.size < 3
  · rw [show o.size - 3 = 0 by omega, List.drop_zero]; congr 1
  · rw [show o.size - (o.size - 3) + 1 - 3 = 1 by omega, show o.size + 1 - 3 = (o.size - 3) + 1 by omega, List.drop_append_of_le_length (by rw [List.length_drop, L_len]; omega), List.drop_append_of_le_length (by rw [L_len]; omega), List.drop_drop]
theorem sumTo_pos {f : Nat → Nat} : ∀ (k : Nat), 0 < sumTo f k → ∃ j, j < k ∧ 0 < f j
  | 0, h => by simp [sumTo] at h
  | k + 1, h => by
    rw [sumTo] at h
    by_cases h2 : 0 < f k
    · exact ⟨k, by omega, h2⟩
    · have h5 : 0 < sumTo f k := by omega
      obtain ⟨j, h3, h4⟩ := sumTo_pos k h5
      exact ⟨j, Nat.lt_succ_of_lt h3, h4⟩
/-- Whether the j-th letter can stand behind o, r letters to come. -/
def okJ (ban : List ByteArray) (m r : Nat) (o : ByteArray) (j : Nat) : Bool := avoidsB (o ++ strOf [ltr j]) ban && decide (0 < cnt ban m r (tl3 (o ++ strOf [ltr j])))
theorem okJ_ex {ban : List ByteArray} {m r : Nat} {o : ByteArray} (hb : banOk ban = true) (ho : avoidsB o ban = true) (h : 0 < cnt ban m (r + 1) (tl3 o)) : ∃ j, j < m ∧ okJ ban m r o j = true := by
  rw [cnt] at h
  obtain ⟨j, h1, h2⟩ := sumTo_pos m h
  refine ⟨j, h1, ?_⟩
  cases h3 : avoidsB (tl3 o ++ strOf [ltr j]) ban
  · simp [h3] at h2
  · rw [h3, if_pos rfl, tl3_tl] at h2
    rw [okJ, avoids_tl hb ho, h3, decide_eq_true h2]; rfl
def fstG (ban : List ByteArray) (m : Nat) : Nat → ByteArray → ByteArray
  | 0, o => o
  | r + 1, o => match (List.range m).find? (okJ ban m r o) with
    | some j => fstG ban m r (o ++ strOf [ltr j])
    | none => o
theorem range_find {p : Nat → Bool} {m j : Nat} (hj : j < m) (hp : p j = true) (h : ∀ i, i < j → p i = false) : (List.range m).find? p = some j := by
  rw [List.find?_eq_some_iff_append]
  refine ⟨hp, List.range j, List.range' (j + 1) (m - (j + 1)), ?_, fun a ha => by rw [h a (List.mem_range.1 ha)]; rfl⟩
  rw [List.range_eq_range', List.range_eq_range', show j :: List.range' (j + 1) (m - (j + 1)) = List.range' j (m - j) from by
    rw [show m - j = (m - (j + 1)) + 1 by omega, List.range'_succ]]
  have := List.range'_append (s := 0) (m := j) (n := m - j) (step := 1)
  rw [Nat.one_mul, Nat.zero_add] at this
  rw [this]; congr 1; omega
theorem fstG_step {ban : List ByteArray} {m r j : Nat} {o : ByteArray} (hj : j < m) (hp : okJ ban m r o j = true) (h : ∀ i, i < j → okJ ban m r o i = false) : fstG ban m (r + 1) o = fstG ban m r (o ++ strOf [ltr j]) := by
  rw [fstG, range_find hj hp h]
theorem fstG_zero (ban : List ByteArray) (m : Nat) (o : ByteArray) : fstG ban m 0 o = o := rfl
theorem sto_mono {a b : Nat} (h : a ≤ b) : sto a ≤ sto b := by
  induction b with
  | zero => rw [Nat.le_zero.1 h]; exact Nat.le_refl _
  | succ b ih =>
    by_cases e : a = b + 1
    · rw [e]; exact Nat.le_refl _
    · have := ih (by omega)
      rw [sto]; omega
attribute [irreducible] fstG
end Go.Proofs.YtaihigaafjmpiaaDoor
