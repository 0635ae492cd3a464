/- SameFactors, both. No condition but the bounds. -/
import Derived.Test.YtfjmopiofcbpgaaSrt
namespace Go.Proofs.Ytfjmopiofcbpgaa
open Go.RowKit
set_option linter.unusedVariables false

def sfGo (s t : ByteArray) : Nat → Nat → Nat
  | 0, n => n
  | f + 1, n => if insL (fc s (n + 1)) = insL (fc t (n + 1)) then sfGo s t f (n + 1) else n
/-- The longest length up to which all factors are the same. -/
def sfN (s t : ByteArray) : Nat := sfGo s t (max s.size t.size) 0
def shW (s : ByteArray) : Bool := isW (L s) && decide (s.size ≤ 60)
def sfV (s t : ByteArray) : Int := if shW s && shW t then (sfN s t : Int) else -1
theorem sf_yes {s t : ByteArray} {M n : Nat} (h : n < M) (he : insL (fc s (n + 1)) = insL (fc t (n + 1))) : sfGo s t (M - n) n = sfGo s t (M - (n + 1)) (n + 1) := by
  obtain ⟨f, hf⟩ : ∃ f, M - n = f + 1 := ⟨M - n - 1, by omega⟩
  rw [hf, sfGo, if_pos he]; congr 1; omega
theorem sf_no {s t : ByteArray} {M n : Nat} (h : n < M) (he : insL (fc s (n + 1)) ≠ insL (fc t (n + 1))) : sfGo s t (M - n) n = n := by
  obtain ⟨f, hf⟩ : ∃ f, M - n = f + 1 := ⟨M - n - 1, by omega⟩
  rw [hf, sfGo, if_neg he]
theorem fcS_len (s : ByteArray) (n : Nat) : (insL (fc s n)).length ≤ s.size + 1 := by
  have h1 := insL_len (fc s n)
  have h2 : (fc s n).length = s.size + 1 - n := fcT_len _ _ _
  omega
set_option maxHeartbeats 400000 in
theorem isShort_at (s : ByteArray) (b : Bool) (hb : shW s = b) (hs : s.size ≤ maxLen) (w : World) :
    Calls Try.prog 56 #[.string s] w fun e w' => e = .returned (.bool b) ∧ w = w' := by
  rw [← hb]; clear hb
  unfold shW
  cases h1 : isW (L s)
  · have H1 := Lib.hid h1; clear h1
    go_enter Try.func56, Try.ntmps56
    go_wp2_with (go_at_call 46; refine (isWord_is s _ hs H1.out _).mono ?_; rintro e w' ⟨rfl, rfl⟩)
    go_ret
    exact ⟨rfl, rfl⟩
  · have h4 := isW_size h1
    have H1 := Lib.hid h1; clear h1
    go_enter Try.func56, Try.ntmps56
    go_wp2_with (go_at_call 46; refine (isWord_is s _ hs H1.out _).mono ?_; rintro e w' ⟨rfl, rfl⟩)
    all_goals go_ret
    all_goals exact ⟨ret_bool (by rw [Bool.true_and, decide_eq_decide]; omega), rfl⟩
theorem equal_own (l m : List ByteArray) (g c g' c' : Nat) (w : World) (hl : l.length ≤ 1000000) (hm : m.length ≤ 1000000) (h1 : StrAt w g c l) (h2 : StrAt w g' c' m) :
    Calls Try.prog 60 #[.slice (some ⟨g, 0, none⟩) l.length c, .slice (some ⟨g', 0, none⟩) m.length c'] w fun e w' => e = .returned (.bool (decide (l = m))) ∧ Dr w w' := by
  have hh : ∀ (g c : Nat) (l : List ByteArray), StrAt w g c l → ∀ j, j < l.length → w.cell? ⟨g, 0 + j, none⟩ = some (.string (l.getD j ByteArray.empty)) := fun g c l h j hj => by
    obtain ⟨s, hs⟩ := some_of_lt hj
    rw [Nat.zero_add, h.2.2.2 j s hs, List.getD_eq_getElem?_getD, hs]; rfl
  refine (Try.slices_Equal_string g 0 l.length c g' 0 m.length c' l m w (Nat.le_refl _) (Nat.le_refl _) (by omega) (by omega) (hh _ _ _ h1) (hh _ _ _ h2)).mono ?_
  rintro e w' ⟨rfl, q, rfl⟩
  rw [List.take_length, List.take_length]
  exact ⟨rfl, (Dr.refl w).drewN q⟩
set_option maxRecDepth 4000 in
set_option maxHeartbeats 1000000 in
theorem iSame_yes (s t : ByteArray) (hs : s.size ≤ maxLen) (ht : t.size ≤ maxLen) (h1 : shW s = true) (h2 : shW t = true) (w : World) :
    Calls Try.prog 31 #[.string s, .string t] w fun e w' => e = .returned (.int .i64 (sfN s t : Int)) ∧ Below w.heap.size w w' := by
  obtain ⟨r, hr⟩ : ∃ r, sfN s t = r := ⟨_, rfl⟩
  rw [hr]
  have h3 : s.size ≤ 60 := by unfold shW at h1; simp only [Bool.and_eq_true, decide_eq_true_eq] at h1; exact h1.2
  have h4 : t.size ≤ 60 := by unfold shW at h2; simp only [Bool.and_eq_true, decide_eq_true_eq] at h2; exact h2.2
  have HR := Lib.hid hr; have H1 := Lib.hid h1; have H2 := Lib.hid h2
  clear hr h1 h2
  obtain ⟨M, hM, hMc⟩ : ∃ M, max s.size t.size = M ∧ (max (s.size : Int) t.size = (M : Int)) := ⟨_, rfl, by omega⟩
  have hMb : M ≤ 60 := by omega
  have HM := Lib.hid hM
  clear hM
  go_enter Try.func31, Try.ntmps31
  go_wp2_with (first
    | (go_at_call 56; with_reducible refine (isShort_at s _ H1.out hs _).mono ?_; rintro e w' ⟨rfl, rfl⟩)
    | (go_at_call 56; with_reducible refine (isShort_at t _ H2.out ht _).mono ?_; rintro e w' ⟨rfl, rfl⟩))
  go_loopw [6] (fun i wr => ∃ (k : Nat) (j : Int), k ≤ M ∧ (k : Int) + 1 ≤ j ∧ j ≤ k + 1 ∧ i = .int .i64 j ∧ sfGo s t (M - k) k = r ∧ Below w.heap.size w wr) (fun i _ => M + 1 - (intOf i).toNat)
  case atStart => exact ⟨0, 1, by omega, by omega, by omega, rfl, by rw [← HR.out, sfN, HM.out]; rfl, Below.refl _ _⟩
  case round =>
    obtain ⟨k, j, hk, hj1, hj2, rfl, hg, hbel⟩ := hrel
    have HG := Lib.hid hg; clear hg
    by_cases hlt : k < M
    · have hjk : ((k + 1 : Nat) : Int) = j := by omega
      have hf1 := fun w => factorsOf_any s (k + 1) (by omega) (by omega) w
      have hf2 := fun w => factorsOf_any t (k + 1) (by omega) (by omega) w
      rw [hjk] at hf1 hf2
      have hl1 := fcS_len s (k + 1); have hl2 := fcS_len t (k + 1)
      have hy := sf_yes (s := s) (t := t) hlt; have hno := sf_no (s := s) (t := t) hlt
      obtain ⟨xs, hxs⟩ : ∃ xs, insL (fc s (k + 1)) = xs := ⟨_, rfl⟩
      obtain ⟨ys, hys⟩ : ∃ ys, insL (fc t (k + 1)) = ys := ⟨_, rfl⟩
      rw [hxs] at hf1 hl1 hy hno
      rw [hys] at hf2 hl2 hy hno
      have hq := fun g c g' c' w (h : StrAt w g c xs) (h' : StrAt w g' c' ys) => equal_own xs ys g c g' c' w (by omega) (by omega) h h'
      have HF1 := Lib.hid hf1; have HF2 := Lib.hid hf2; have HQ := Lib.hid hq; have HY := Lib.hid hy; have HNO := Lib.hid hno
      clear hf1 hf2 hl1 hl2 hq hy hno hxs hys hjk
      go_wp2_with fail
      refine (HF1.out _).mono ?_
      rintro e w1 ⟨g1, c1, rfl, st1, b1⟩
      have ST1 := Lib.hid st1; clear st1
      go_wp2_with fail
      refine (HF2.out _).mono ?_
      rintro e w2 ⟨g2, c2, rfl, st2, b2⟩
      have ST2 := Lib.hid st2; clear st2
      have hb2 := hbel.trans ((b1.trans (b2.mono b1.size)).mono hbel.size)
      by_cases he : xs = ys
      · have hy := HY.out he
        subst he
        have hq2 := HQ.out g1 c1 g2 c2 _ (ST1.out.below b2) ST2.out
        rw [decide_eq_true rfl] at hq2
        have HQ2 := Lib.hid hq2
        have HYY := Lib.hid hy; clear hy hq2
        go_wp2_with fail
        refine HQ2.out.mono ?_
        rintro e w3 ⟨rfl, d3⟩
        go_wp2_with fail
        go_roundw
        case rel => exact ⟨k + 1, j + 1, by omega, by omega, by omega, by go_num, by rw [← HYY.out]; exact HG.out, hb2.trans d3.below⟩
        case measure => simp [intOf]; omega
      · have hq2 := HQ.out g1 c1 g2 c2 _ (ST1.out.below b2) ST2.out
        rw [decide_eq_false he] at hq2
        have HQ2 := Lib.hid hq2
        have hfin : k = r := by rw [← HG.out]; exact (HNO.out he).symm
        subst hfin
        clear he hq2
        go_wp2_with fail
        refine HQ2.out.mono ?_
        rintro e w3 ⟨rfl, d3⟩
        go_wp2_with fail
        go_ret
        exact ⟨ret_int (by omega), hb2.trans d3.below⟩
    · have hkM : k = M := by omega
      subst hkM
      have hfin : k = r := by rw [← HG.out, Nat.sub_self]; rfl
      subst hfin
      have hnj : ¬ j ≤ (k : Int) := by omega
      go_wp2_with fail
      go_ret
      exact ⟨rfl, hbel⟩
theorem iSame_no (s t : ByteArray) (hs : s.size ≤ maxLen) (ht : t.size ≤ maxLen) (h : (shW s && shW t) = false) (w : World) :
    Calls Try.prog 31 #[.string s, .string t] w fun e w' => e = .returned (.int .i64 (-1)) ∧ Below w.heap.size w w' := by
  cases h1 : shW s
  · have H1 := Lib.hid h1; clear h h1
    go_enter Try.func31, Try.ntmps31
    go_wp2_with (go_at_call 56; with_reducible refine (isShort_at s _ H1.out hs _).mono ?_; rintro e w' ⟨rfl, rfl⟩)
    go_ret
    exact ⟨rfl, Below.refl _ _⟩
  · have h2 : shW t = false := by rw [h1] at h; simpa using h
    have H1 := Lib.hid h1; have H2 := Lib.hid h2; clear h h1 h2
    go_enter Try.func31, Try.ntmps31
    go_wp2_with (first
      | (go_at_call 56; with_reducible refine (isShort_at s _ H1.out hs _).mono ?_; rintro e w' ⟨rfl, rfl⟩)
      | (go_at_call 56; with_reducible refine (isShort_at t _ H2.out ht _).mono ?_; rintro e w' ⟨rfl, rfl⟩))
    go_ret
    exact ⟨rfl, Below.refl _ _⟩
theorem iSame_any (s t : ByteArray) (hs : s.size ≤ maxLen) (ht : t.size ≤ maxLen) (w : World) :
    Calls Try.prog 31 #[.string s, .string t] w fun e w' => e = .returned (.int .i64 (sfV s t)) ∧ Below w.heap.size w w' := by
  unfold sfV
  cases h : (shW s && shW t)
  · exact iSame_no s t hs ht h w
  · have h' := h
    simp only [Bool.and_eq_true] at h'
    exact iSame_yes s t hs ht h'.1 h'.2 w
end Go.Proofs.Ytfjmopiofcbpgaa
