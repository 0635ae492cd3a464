/- Lyndon words over strings, the plain part: the reference's order of turns, in numbers; the parts. No condition. -/
import Derived.Test.YtfjmopiofcbpgaaLyn
namespace Go.Proofs.Ytfjmopiofcbpgaa
open Go.RowKit
set_option linter.unusedVariables false

/-- The letters of s from i on, as numbers. -/
def gl (s : ByteArray) (i : Nat) : Nat → Nat := fun j => ((L s).getD (i + j) 0).toNat
theorem gl_at {s : ByteArray} {i j : Nat} (h : i + j < s.size) : gl s i j = (s[i + j]'h).toNat := by
  rw [gl, List.getD_eq_getElem?_getD, List.getElem?_eq_getElem (by rw [L_len]; exact h)]
  rfl
theorem gl_shift (s : ByteArray) (i a : Nat) : (fun j => gl s i (a + j)) = gl s (i + a) := by
  funext j; rw [gl, gl, Nat.add_assoc]
theorem ltF_list : ∀ {l m : List UInt8}, l.length = m.length → (l < m ↔ ltF (fun j => (l.getD j 0).toNat) (fun j => (m.getD j 0).toNat) l.length)
  | [], [], _ => by simp [ltF]
  | [], _ :: _, h => by simp at h
  | _ :: _, [], h => by simp at h
  | a :: l, b :: m, h => by
    have ih := ltF_list (l := l) (m := m) (by simpa using h)
    rw [List.cons_lt_cons_iff, ih]
    constructor
    · rintro (h1 | ⟨rfl, d, hd, he, hl⟩)
      · exact ⟨0, by simp, fun e he => by omega, by simpa using UInt8.lt_iff_toNat_lt.1 h1⟩
      · refine ⟨d + 1, by simpa using hd, fun e h2 => ?_, by simpa using hl⟩
        cases e with
        | zero => rfl
        | succ e => simpa using he e (by omega)
    · rintro ⟨d, hd, he, hl⟩
      cases d with
      | zero => exact .inl (UInt8.lt_iff_toNat_lt.2 (by simpa using hl))
      | succ d =>
        have h0 := he 0 (by omega)
        refine .inr ⟨UInt8.toNat_inj.1 (by simpa using h0), d, by simpa using hd, fun e h2 => by simpa using he (e + 1) (by omega), by simpa using hl⟩
/-- The word turned by k letters comes behind it. -/
theorem turn_lt (s : ByteArray) (k : Nat) (hk : k ≤ s.size) : L s < L (s.extract k s.size ++ s.extract 0 k) ↔ ltF (gl s 0) (rotF (gl s 0) s.size k) s.size := by
  have hL : L (s.extract k s.size ++ s.extract 0 k) = (L s).drop k ++ (L s).take k := by
    simp only [L, ByteArray.data_append, Array.toList_append]
    have h1 := L_extract s k s.size
    have h2 := L_extract s 0 k
    simp only [L] at h1 h2
    rw [h1, h2, List.drop_zero, List.take_of_length_le (Nat.le_of_eq (L_len s))]
  rw [hL, ltF_list (by simp; omega), L_len]
  have e1 : ∀ e, e < s.size → (((L s).drop k ++ (L s).take k).getD e 0).toNat = rotF (gl s 0) s.size k e := fun e he => by
    unfold rotF gl
    rw [List.getD_eq_getElem?_getD]
    by_cases h : e + k < s.size
    · rw [if_pos h, List.getElem?_append_left (by rw [List.length_drop, L_len]; omega), List.getElem?_drop, List.getD_eq_getElem?_getD, Nat.zero_add, Nat.add_comm]
    · rw [if_neg h, List.getElem?_append_right (by rw [List.length_drop, L_len]; omega), List.length_drop, L_len, List.getElem?_take_of_lt (by omega), List.getD_eq_getElem?_getD, Nat.zero_add]
      congr 3; omega
  constructor
  · rintro ⟨d, hd, h1, h2⟩
    refine ⟨d, hd, fun e he => ?_, ?_⟩
    · rw [← e1 e (by omega)]; have := h1 e he; simpa [gl] using this
    · rw [← e1 d hd]; simpa [gl] using h2
  · rintro ⟨d, hd, h1, h2⟩
    refine ⟨d, hd, fun e he => ?_, ?_⟩
    · show ((L s).getD e 0).toNat = (((L s).drop k ++ (L s).take k).getD e 0).toNat
      rw [e1 e (by omega), ← h1 e he]; simp [gl]
    · show ((L s).getD d 0).toNat < (((L s).drop k ++ (L s).take k).getD d 0).toNat
      rw [e1 d hd]; simpa [gl] using h2
theorem gl_extract (s : ByteArray) (i n : Nat) (h : i + n ≤ s.size) (j : Nat) (hj : j < n) : gl (s.extract i (i + n)) 0 j = gl s i j := by
  unfold gl
  rw [L_extract, List.getD_eq_getElem?_getD, List.getD_eq_getElem?_getD, Nat.zero_add, List.getElem?_drop, List.getElem?_take_of_lt (by omega)]
theorem ltF_congr {f f' g g' : Nat → Nat} {n : Nat} (h1 : ∀ e, e < n → f e = f' e) (h2 : ∀ e, e < n → g e = g' e) : ltF f g n ↔ ltF f' g' n := by
  constructor
  · rintro ⟨d, hd, a, b⟩
    exact ⟨d, hd, fun e he => by rw [← h1 e (by omega), ← h2 e (by omega)]; exact a e he, by rw [← h1 d hd, ← h2 d hd]; exact b⟩
  · rintro ⟨d, hd, a, b⟩
    exact ⟨d, hd, fun e he => by rw [h1 e (by omega), h2 e (by omega)]; exact a e he, by rw [h1 d hd, h2 d hd]; exact b⟩
theorem lynF_congr {f g : Nat → Nat} {n : Nat} (h : ∀ e, e < n → f e = g e) : LynF f n ↔ LynF g n := by
  have hr : ∀ r, r < n → ∀ e, e < n → rotF f n r e = rotF g n r e := fun r hr e he => by
    unfold rotF; split
    · exact h _ (by omega)
    · exact h _ (by omega)
  exact ⟨fun hl r h1 h2 => (ltF_congr h (hr r h2)).1 (hl r h1 h2), fun hl r h1 h2 => (ltF_congr h (hr r h2)).2 (hl r h1 h2)⟩
theorem lynF_extract (s : ByteArray) (i n : Nat) (h : i + n ≤ s.size) : LynF (gl (s.extract i (i + n)) 0) n ↔ LynF (gl s i) n := lynF_congr fun e he => gl_extract s i n h e he
theorem lynF_one (g : Nat → Nat) : LynF g 1 := fun r h1 h2 => by omega
open Classical in
/-- The longest Lyndon beginning, of at most N letters. -/
noncomputable def lng (g : Nat → Nat) : Nat → Nat
  | 0 => 0
  | n + 1 => if LynF g (n + 1) then n + 1 else lng g n
theorem lng_is {g : Nat → Nat} {n : Nat} : ∀ {N : Nat}, 0 < n → n ≤ N → LynF g n → (∀ l, n < l → l ≤ N → ¬ LynF g l) → lng g N = n
  | 0, h, h2, _, _ => by omega
  | N + 1, h, h2, hl, hn => by
    unfold lng
    by_cases he : n = N + 1
    · subst he; rw [if_pos hl]
    · rw [if_neg (hn (N + 1) (by omega) (Nat.le_refl _))]
      exact lng_is h (by omega) hl fun l h3 h4 => hn l h3 (by omega)
theorem lng_ok (g : Nat → Nat) : ∀ N, 0 < N → 0 < lng g N ∧ lng g N ≤ N ∧ LynF g (lng g N) ∧ ∀ l, lng g N < l → l ≤ N → ¬ LynF g l
  | 0, h => by omega
  | N + 1, _ => by
    unfold lng
    by_cases hl : LynF g (N + 1)
    · rw [if_pos hl]; exact ⟨by omega, Nat.le_refl _, hl, fun l h1 h2 => by omega⟩
    · rw [if_neg hl]
      by_cases h0 : N = 0
      · subst h0; exact absurd (lynF_one g) hl
      · obtain ⟨h1, h2, h3, h4⟩ := lng_ok g N (by omega)
        refine ⟨h1, by omega, h3, fun l h5 h6 => ?_⟩
        by_cases he : l = N + 1
        · subst he; exact hl
        · exact h4 l h5 (by omega)
/-- The Lyndon parts of s from i on. -/
noncomputable def prt (s : ByteArray) : Nat → Nat → List ByteArray
  | 0, _ => []
  | f + 1, i => if i < s.size then s.extract i (i + lng (gl s i) (s.size - i)) :: prt s f (i + lng (gl s i) (s.size - i)) else []
noncomputable def prts (s : ByteArray) (i : Nat) : List ByteArray := prt s (s.size + 1) i
theorem prt_fuel (s : ByteArray) : ∀ (f g i : Nat), s.size - i < f → s.size - i < g → prt s f i = prt s g i
  | 0, g, i, h, _ => by omega
  | f + 1, 0, i, _, h => by omega
  | f + 1, g + 1, i, h1, h2 => by
    unfold prt
    by_cases hi : i < s.size
    · have hl := lng_ok (gl s i) (s.size - i) (by omega)
      rw [if_pos hi, if_pos hi, prt_fuel s f g _ (by omega) (by omega)]
    · rw [if_neg hi, if_neg hi]
theorem prts_end (s : ByteArray) {i : Nat} (h : ¬ i < s.size) : prts s i = [] := by rw [prts, prt, if_neg h]
theorem prts_next (s : ByteArray) {i n : Nat} (h : i < s.size) (hn : lng (gl s i) (s.size - i) = n) : prts s i = s.extract i (i + n) :: prts s (i + n) := by
  have hl := lng_ok (gl s i) (s.size - i) (by omega)
  rw [prts, prt, if_pos h, hn, prts, prt_fuel s s.size (s.size + 1)]
  · omega
  · omega
theorem prt_size (s : ByteArray) : ∀ (f i : Nat) (x : ByteArray), x ∈ prt s f i → x.size ≤ s.size
  | 0, i, x, h => by simp [prt] at h
  | f + 1, i, x, h => by
    unfold prt at h
    split at h
    · rcases List.mem_cons.1 h with e | e
      · rw [e, ByteArray.size_extract]; omega
      · exact prt_size s f _ x e
    · simp at h
theorem prt_len (s : ByteArray) : ∀ (f i : Nat), (prt s f i).length ≤ s.size - i
  | 0, i => by simp [prt]
  | f + 1, i => by
    unfold prt
    split
    · rename_i h
      have hl := lng_ok (gl s i) (s.size - i) (by omega)
      have := prt_len s f (i + lng (gl s i) (s.size - i))
      rw [List.length_cons]; omega
    · simp
end Go.Proofs.Ytfjmopiofcbpgaa
