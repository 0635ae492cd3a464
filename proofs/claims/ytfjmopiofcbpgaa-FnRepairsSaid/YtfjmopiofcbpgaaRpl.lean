/- Repairs, plain: the repaired word is the first of the allowed words with the fewest changes. No program, no condition. -/
import Derived.Test.YtfjmopiofcbpgaaRep
namespace Go.Proofs.Ytfjmopiofcbpgaa
open Go.RowKit
set_option linter.unusedVariables false

/-- How many letters of x differ from l, gaps not counted. -/
def dfL : List UInt8 → List Nat → Int
  | b :: l, k :: x => (if dif b k then 1 else 0) + dfL l x
  | _, _ => 0
def alw (ss : List ByteArray) : Option Nat → List Nat → Bool
  | _, [] => true
  | p, k :: x => okA ss p k && alw ss (some k) x
def dg (x : List Nat) : Prop := ∀ k ∈ x, k < 4
theorem dg_cons {k : Nat} {x : List Nat} : dg (k :: x) ↔ k < 4 ∧ dg x := by unfold dg; simp
theorem dfL_bd : ∀ (l : List UInt8) (x : List Nat), 0 ≤ dfL l x ∧ dfL l x ≤ l.length
  | [], x => by cases x <;> simp [dfL]
  | b :: l, [] => by simp [dfL]; omega
  | b :: l, k :: x => by
    have := dfL_bd l x
    simp only [dfL, List.length_cons]
    split <;> omega
theorem bst_low (ss : List ByteArray) (k : Nat) (r : List Int) : ∀ n m, m < n → hasP ss k m = true → bst ss k r n ≤ r.getD m 0
  | 0, m, h, _ => by omega
  | n + 1, m, h, hp => by
    unfold bst
    by_cases e : m = n
    · subst e; rw [if_pos hp]; omega
    · have := bst_low ss k r n m (by omega) hp
      split <;> omega
theorem cst_false (b : UInt8) (k : Nat) : cst false b k = if dif b k then 1 else 0 := by unfold cst; simp
theorem drop_getD {l : List UInt8} {i : Nat} (h : i < l.length) : l.drop i = l.getD i 0 :: l.drop (i + 1) := by
  rw [List.drop_eq_getElem_cons h]; congr 1
  simp [List.getD, h]
theorem crow_low (ss : List ByteArray) (l : List UInt8) : ∀ (m i k : Nat) (x : List Nat), i + m = l.length → x.length + 1 = m → k < 4 → dg x → alw ss (some k) x = true → (crow false ss l i).getD k 0 ≤ dfL (l.drop i) (k :: x)
  | 0, i, k, x, h, h2, _, _, _ => by omega
  | m + 1, i, k, x, h, h2, hk, hd, ha => by
    rw [drop_getD (show i < l.length by omega), dfL, ← cst_false]
    cases x with
    | nil =>
      have e : i + 1 = l.length := by simp at h2; omega
      rw [List.getD_eq_getElem?_getD, cell_last false ss l i k hk e]
      have hn : l.drop (i + 1) = [] := List.drop_eq_nil_of_le (by omega)
      rw [hn]
      simp only [Option.getD_some, dfL]; omega
    | cons k2 x =>
      have hl2 : i + 1 < l.length := by simp at h2; omega
      obtain ⟨hk2, hd2⟩ := dg_cons.1 hd
      unfold alw at ha
      rw [Bool.and_eq_true] at ha
      have ih := crow_low ss l m (i + 1) k2 x (by omega) (by simp at h2; omega) hk2 hd2 ha.2
      have hb := bst_low ss k (crow false ss l (i + 1)) 4 k2 hk2 ha.1
      rw [List.getD_eq_getElem?_getD, cell_next false ss l i k hk hl2]
      simp only [Option.getD_some]; omega
theorem pkK_first {ss : List ByteArray} {r : List Int} {left : Int} {prev : Option Nat} : ∀ {n k m : Nat}, pkK ss r left prev n k = some m → ∀ j, k ≤ j → j < m → fits ss r left prev j = false
  | 0, k, m, h, j, _, _ => by unfold pkK at h; cases h
  | n + 1, k, m, h, j, h1, h2 => by
    unfold pkK at h
    by_cases hf : fits ss r left prev k = true
    · rw [if_pos hf] at h; injection h with h; omega
    · rw [if_neg hf] at h
      by_cases e : j = k
      · subst e; simpa using hf
      · exact pkK_first h j (by omega) h2
/-- What pk makes: the first of the allowed words with these many changes, if none has fewer. -/
theorem pk_best (ss : List ByteArray) (l : List UInt8) : ∀ (m i : Nat) (prev : Option Nat) (left : Int), i + m = l.length → Good false ss l i prev left → (m = 0 → left = 0) → (∀ k, 0 < m → k < 4 → okA ss prev k = true → left ≤ (crow false ss l i).getD k 0) →
    (pk false ss l m i prev left).length = m ∧ dg (pk false ss l m i prev left) ∧ alw ss prev (pk false ss l m i prev left) = true ∧ dfL (l.drop i) (pk false ss l m i prev left) = left ∧
      ∀ y : List Nat, y.length = m → dg y → alw ss prev y = true → dfL (l.drop i) y ≤ left → pk false ss l m i prev left = y ∨ pk false ss l m i prev left < y
  | 0, i, prev, left, h, hg, h0, hb => by
    have hn : l.drop i = [] := List.drop_eq_nil_of_le (by omega)
    refine ⟨rfl, fun k hk => by simp [pk] at hk, rfl, ?_, fun y hy _ _ _ => .inl ?_⟩
    · rw [hn, pk, h0 rfl]; rfl
    · rw [List.eq_nil_of_length_eq_zero hy]; rfl
  | m + 1, i, prev, left, h, hg, h0, hb => by
    have hi : i < l.length := by omega
    obtain ⟨k0, hk0, hf0⟩ := hg.2 hi
    unfold pk
    cases hpk : pkK ss (crow false ss l i) left prev 4 0 with
    | none =>
      have := pkK_none hpk k0 (by omega) (by omega)
      rw [this] at hf0; cases hf0
    | some k =>
      obtain ⟨_, hk4, hf⟩ := pkK_some hpk
      have hk : k < 4 := by omega
      have hfi := pkK_first hpk
      have hgs := good_step hg.1 hi hk hf
      have hf' := hf
      unfold fits at hf'
      simp only [Bool.and_eq_true, decide_eq_true_eq] at hf'
      obtain ⟨hc, hok⟩ := hf'
      have hc' := hc
      rw [List.getD_eq_getElem?_getD] at hc'
      have hlt := hg.1
      have hleft : left' (l.getD i 0) k left = left - cst false (l.getD i 0) k := by
        unfold left'; rw [cst_false]; split <;> omega
      have hm0 : m = 0 → left' (l.getD i 0) k left = 0 := fun e => by
        rw [cell_last false ss l i k hk (by omega)] at hc'
        simp only [Option.getD_some] at hc'
        rw [hleft]; omega
      have hmb : ∀ k2, 0 < m → k2 < 4 → okA ss (some k) k2 = true → left' (l.getD i 0) k left ≤ (crow false ss l (i + 1)).getD k2 0 := fun k2 h1 h2 h3 => by
        rw [cell_next false ss l i k hk (by omega)] at hc'
        simp only [Option.getD_some] at hc'
        have := bst_low ss k (crow false ss l (i + 1)) 4 k2 h2 h3
        rw [hleft]; omega
      obtain ⟨q1, q2, q3, q4, q5⟩ := pk_best ss l m (i + 1) (some k) (left' (l.getD i 0) k left) (by omega) hgs hm0 hmb
      simp only
      generalize pk false ss l m (i + 1) (some k) (left' (l.getD i 0) k left) = z at q1 q2 q3 q4 q5 ⊢
      refine ⟨by rw [List.length_cons, q1], dg_cons.2 ⟨hk, q2⟩, ?_, ?_, fun y hy1 hy2 hy3 hy4 => ?_⟩
      · rw [alw, hok, q3]; rfl
      · rw [drop_getD hi, dfL, ← cst_false, q4, hleft]; omega
      · cases y with
        | nil => simp at hy1
        | cons k' y =>
          obtain ⟨hk', hdy⟩ := dg_cons.1 hy2
          have hy3' := hy3
          unfold alw at hy3'
          rw [Bool.and_eq_true] at hy3'
          have hcl := crow_low ss l (m + 1) i k' y h (by simpa using hy1) hk' hdy hy3'.2
          have hbl := hb k' (by omega) hk' hy3'.1
          have hfit : fits ss (crow false ss l i) left prev k' = true := by
            unfold fits
            rw [decide_eq_true (by omega), hy3'.1]; rfl
          rcases Nat.lt_trichotomy k' k with h1 | h1 | h1
          · rw [hfi k' (by omega) h1] at hfit; cases hfit
          · subst h1
            rw [drop_getD hi, dfL, ← cst_false] at hy4
            rcases q5 y (by simpa using hy1) hdy hy3'.2 (by rw [hleft]; omega) with h2 | h2
            · left; rw [h2]
            · right; exact List.cons_lt_cons_iff.2 (.inr ⟨rfl, h2⟩)
          · right; exact List.cons_lt_cons_iff.2 (.inl h1)
theorem min4_le (r : List Int) (k : Nat) (hk : k < 4) : min4 r ≤ r.getD k 0 := by
  unfold min4
  match k, hk with
  | 0, _ => omega
  | 1, _ => omega
  | 2, _ => omega
  | 3, _ => omega
theorem total_low (ss : List ByteArray) (l : List UInt8) (hl : l ≠ []) (x : List Nat) (hx : x.length = l.length) (hd : dg x) (ha : alw ss none x = true) : total false ss l ≤ dfL l x := by
  cases x with
  | nil => exact absurd (List.eq_nil_of_length_eq_zero (by rw [← hx]; rfl)) hl
  | cons k x =>
    obtain ⟨hk, hd2⟩ := dg_cons.1 hd
    unfold alw at ha
    rw [Bool.and_eq_true] at ha
    have h1 := crow_low ss l l.length 0 k x (by omega) (by simpa using hx) hk hd2 ha.2
    have h2 := min4_le (crow false ss l 0) k hk
    rw [List.drop_zero] at h1
    unfold total; omega
/-- The repaired word. -/
theorem rep_best (ss : List ByteArray) (l : List UInt8) (h : tot false ss l < 1000) :
    (repL false ss l).length = l.length ∧ dg (repL false ss l) ∧ alw ss none (repL false ss l) = true ∧ dfL l (repL false ss l) = tot false ss l ∧
      ∀ y : List Nat, y.length = l.length → dg y → alw ss none y = true → tot false ss l ≤ dfL l y ∧ (dfL l y ≤ tot false ss l → repL false ss l = y ∨ repL false ss l < y) := by
  unfold tot at h ⊢
  unfold repL
  by_cases h0 : l = []
  · subst h0
    rw [if_pos rfl, if_pos rfl]
    refine ⟨rfl, fun k hk => by simp at hk, rfl, rfl, fun y hy hd ha => ?_⟩
    have : y = [] := List.eq_nil_of_length_eq_zero hy
    subst this
    exact ⟨by decide, fun _ => .inl rfl⟩
  · rw [if_neg h0] at h
    rw [if_neg h0, if_neg h0, if_pos h]
    have hl : 0 < l.length := List.length_pos_iff.2 h0
    obtain ⟨q1, q2, q3, q4, q5⟩ := pk_best ss l l.length 0 none (total false ss l) (by omega) (good_start h) (fun e => by omega) (fun k _ hk _ => min4_le _ k hk)
    rw [List.drop_zero] at q4 q5
    exact ⟨q1, q2, q3, q4, fun y hy hd ha => ⟨total_low ss l h0 y hy hd ha, fun hle => q5 y hy hd ha hle⟩⟩
/-- Where there is no allowed word. -/
theorem rep_noway (ss : List ByteArray) (l : List UInt8) (hl : l.length ≤ 400) (h : ¬ tot false ss l < 1000) (y : List Nat) (hy : y.length = l.length) (hd : dg y) : alw ss none y = false := by
  cases ha : alw ss none y with
  | false => rfl
  | true =>
    exfalso
    unfold tot at h
    by_cases h0 : l = []
    · rw [if_pos h0] at h; omega
    · rw [if_neg h0] at h
      have h1 := total_low ss l h0 y hy hd ha
      have h2 := dfL_bd l y
      omega
end Go.Proofs.Ytfjmopiofcbpgaa
