/- Nearness of words: MismatchesOf, AgreementAt, AgreementsOf, BestShift, NearestPart. Each function returns what the plain function says. -/
import Derived.Test.YtfjmopiofcbpgaaStr
namespace Go.Proofs.Ytfjmopiofcbpgaa
open Go.RowKit
set_option linter.unusedVariables false

/-- What MismatchesOf returns. -/
def mmOf (v w : List UInt8) : Int := if isW v = true ∧ isW w = true ∧ v.length = w.length then mism v w else -1

set_option maxHeartbeats 400000 in
theorem iMismatchesOf_any (s t : ByteArray) (hs : s.size ≤ maxLen) (ht : t.size ≤ maxLen) (w : World) :
    Calls Try.prog 23 #[.string s, .string t] w fun e w' => e = .returned (.int .i64 (mmOf (L s) (L t))) ∧ Dr w w' := by
  cases h1 : isW (L s)
  · have H1 := Lib.hid h1
    have hfin : mmOf (L s) (L t) = -1 := by simp [mmOf, h1]
    rw [hfin]; clear hfin h1
    go_enter Try.func23, Try.ntmps23
    go_wp2_with (go_at_call 46; refine (isWord_is _ _ hs H1.out _).mono ?_; rintro e w' ⟨rfl, rfl⟩)
    go_ret
    exact ⟨rfl, Dr.refl _⟩
  · have H1 := Lib.hid h1
    cases h2 : isW (L t)
    · have H2 := Lib.hid h2
      have hfin : mmOf (L s) (L t) = -1 := by simp [mmOf, h2]
      rw [hfin]; clear hfin h1 h2
      go_enter Try.func23, Try.ntmps23
      go_wp2_with (first
        | (go_at_call 46; with_reducible refine (isWord_is s _ hs H1.out _).mono ?_; rintro e w' ⟨rfl, rfl⟩)
        | (go_at_call 46; with_reducible refine (isWord_is t _ ht H2.out _).mono ?_; rintro e w' ⟨rfl, rfl⟩))
      go_ret
      exact ⟨rfl, Dr.refl _⟩
    · have H2 := Lib.hid h2
      by_cases h3 : s.size = t.size
      · have hfin : mmOf (L s) (L t) = mism (L s) (L t) := by simp [mmOf, h1, h2, h3]
        rw [hfin]; clear hfin
        have hst : s.size ≤ t.size := by omega
        have hts : t.size ≤ s.size := by omega
        have hb : ((s.size : Int) != (t.size : Int)) = false := by simp [h3]
        clear h1 h2 h3
        go_enter Try.func23, Try.ntmps23
        go_wp2_with (first
          | (go_at_call 46; with_reducible refine (isWord_is s _ hs H1.out _).mono ?_; rintro e w' ⟨rfl, rfl⟩)
          | (go_at_call 46; with_reducible refine (isWord_is t _ ht H2.out _).mono ?_; rintro e w' ⟨rfl, rfl⟩)
          | (go_at_call 57; refine (mismatches_any s t hs hst hts _).mono ?_; rintro e w' ⟨rfl, hd⟩))
        go_ret
        exact ⟨rfl, hd⟩
      · have hfin : mmOf (L s) (L t) = -1 := by simp [mmOf, h3]
        rw [hfin]; clear hfin
        have hb : ((s.size : Int) != (t.size : Int)) = true := by simp; omega
        clear h1 h2 h3
        go_enter Try.func23, Try.ntmps23
        go_wp2_with (first
          | (go_at_call 46; with_reducible refine (isWord_is s _ hs H1.out _).mono ?_; rintro e w' ⟨rfl, rfl⟩)
          | (go_at_call 46; with_reducible refine (isWord_is t _ ht H2.out _).mono ?_; rintro e w' ⟨rfl, rfl⟩))
        go_ret
        exact ⟨rfl, Dr.refl _⟩

/-- What AgreementAt returns at an index within the word. -/
def agr (l : List UInt8) (k : Nat) : Int := (l.length : Int) - k - mism (l.drop k) (l.take (l.length - k))
theorem size_from (s : ByteArray) (k : Nat) : (s.extract k s.size).size = s.size - k := by simp
theorem size_to (s : ByteArray) (k : Nat) (h : k ≤ s.size) : (s.extract 0 k).size = k := by simp; omega
theorem L_from (s : ByteArray) (k : Nat) : L (s.extract k s.size) = (L s).drop k := by
  rw [L_extract, List.take_of_length_le (by rw [L_len]; exact Nat.le_refl _)]
theorem L_to (s : ByteArray) (k : Nat) : L (s.extract 0 k) = (L s).take k := by
  rw [L_extract]; rfl
theorem agr_of (s : ByteArray) (k : Nat) (hk : k ≤ s.size) (h4 : s.size ≤ 400) :
    wrap64 (((s.size - k : Nat) : Int) - (mism (L (s.extract k s.size)) (L (s.extract 0 (s.size - k))) : Nat)) = agr (L s) k := by
  have := mism_le (L (s.extract k s.size)) (L (s.extract 0 (s.size - k)))
  rw [L_len, size_from] at this
  rw [IntWalk.wrap64_in _ (by omega), L_from, L_to]
  rw [L_from, L_to] at this
  simp only [agr, L_len]
  omega
theorem agr_of' (s : ByteArray) (k : Nat) (hk : k ≤ s.size) (h4 : s.size ≤ 400) :
    wrap64 (((s.size - k : Nat) : Int) - (mism (L (s.extract 0 (s.size - k))) (L (s.extract k s.size)) : Nat)) = agr (L s) k := by
  rw [mism_comm]; exact agr_of s k hk h4

set_option maxHeartbeats 400000 in
theorem iAgreementAt_yes (s : ByteArray) (k : Nat) (hs : s.size ≤ maxLen) (h1 : isW (L s) = true) (hk : k ≤ s.size) (w : World) :
    Calls Try.prog 26 #[.string s, .int .i64 k] w fun e w' => e = .returned (.int .i64 (agr (L s) k)) ∧ Dr w w' := by
  have h4 := isW_size h1
  have H1 := Lib.hid h1; clear h1
  have p1 := size_from s k
  have p2 := size_to s (s.size - k) (by omega)
  have q0 : (s.extract k s.size).size ≤ maxLen := by rw [p1]; unfold maxLen; omega
  have q1 : (s.extract k s.size).size ≤ (s.extract 0 (s.size - k)).size := by omega
  have q2 : (s.extract 0 (s.size - k)).size ≤ (s.extract k s.size).size := by omega
  have Q := Lib.hid (And.intro q0 (And.intro q1 q2)); clear p1 p2 q0 q1 q2
  go_enter Try.func26, Try.ntmps26
  go_wp2_with (first
    | (go_at_call 46; refine (isWord_is s _ hs H1.out _).mono ?_; rintro e w' ⟨rfl, rfl⟩)
    | (go_at_call 45; refine (within_yes _ _ _ ⟨by omega, by omega⟩ _).mono ?_; rintro e w' ⟨rfl, rfl⟩))
  have e1 : IntKind.i64.wrap ((s.size : Int) - (k : Int)) = ((s.size - k : Nat) : Int) := by rw [IntWalk.i64_in _ (by omega)]; omega
  go_quiet ((go_at_call 57; exact quiet_dr (mismatches_any _ _ Q.out.1 Q.out.2.1 Q.out.2.2 _)))
  clear e1
  go_wp2
  go_ret
  exact ⟨ret_int (agr_of s k hk h4), (Dr.refl _).drewN _⟩
set_option maxHeartbeats 400000 in
theorem iAgreementAt_no (s : ByteArray) (k : Int) (hs : s.size ≤ maxLen) (h : ¬ (isW (L s) = true ∧ 0 ≤ k ∧ k ≤ s.size)) (w : World) :
    Calls Try.prog 26 #[.string s, .int .i64 k] w fun e w' => e = .returned (.int .i64 (-1)) ∧ Dr w w' := by
  cases h1 : isW (L s)
  · have H1 := Lib.hid h1; clear h1 h
    go_enter Try.func26, Try.ntmps26
    go_wp2_with (go_at_call 46; refine (isWord_is s _ hs H1.out _).mono ?_; rintro e w' ⟨rfl, rfl⟩)
    go_ret
    exact ⟨rfl, Dr.refl _⟩
  · have h2 : ¬ (0 ≤ k ∧ k ≤ (s.size : Int)) := fun h2 => h ⟨h1, h2⟩
    have H1 := Lib.hid h1; clear h1 h
    have H2 := Lib.hid h2; clear h2
    go_enter Try.func26, Try.ntmps26
    go_wp2_with (first
      | (go_at_call 46; refine (isWord_is s _ hs H1.out _).mono ?_; rintro e w' ⟨rfl, rfl⟩)
      | (go_at_call 45; refine (within_no _ _ _ H2.out _).mono ?_; rintro e w' ⟨rfl, rfl⟩))
    go_ret
    exact ⟨rfl, Dr.refl _⟩

/-- NearestPart's loop: n rounds to come, from index i. -/
def nearGo (w f : List UInt8) : Nat → Nat → Nat → Nat → Nat × Nat
  | 0, _, a, m => (a, m)
  | n + 1, i, a, m => if mism ((w.drop i).take f.length) f < m then nearGo w f n (i + 1) i (mism ((w.drop i).take f.length) f) else nearGo w f n (i + 1) a m
theorem size_part (s : ByteArray) (a b : Nat) (h : b ≤ s.size) : (s.extract a b).size = b - a := by simp; omega
theorem L_part (s : ByteArray) (a n : Nat) : L (s.extract a (a + n)) = ((L s).drop a).take n := by
  rw [L_extract, List.drop_take]; congr 1; omega

set_option maxHeartbeats 400000 in
theorem iNearestPart_yes (s t : ByteArray) (hs : s.size ≤ maxLen) (ht : t.size ≤ maxLen) (h1 : isW (L s) = true) (h2 : isW (L t) = true) (h3 : t.size ≤ s.size) (w : World) :
    Calls Try.prog 29 #[.string s, .string t] w fun e w' => e = .returned (.tuple #[.int .i64 (nearGo (L s) (L t) (s.size - t.size + 1) 0 0 (t.size + 1)).1, .int .i64 (nearGo (L s) (L t) (s.size - t.size + 1) 0 0 (t.size + 1)).2]) ∧ Dr w w' := by
  have h4 := isW_size h1
  have H1 := Lib.hid h1; clear h1
  have H2 := Lib.hid h2; clear h2
  have hb : decide (s.size < t.size) = false := by simp; omega
  go_enter Try.func29, Try.ntmps29
  go_wp2_with (first
    | (go_at_call 46; with_reducible refine (isWord_is s _ hs H1.out _).mono ?_; rintro e w' ⟨rfl, rfl⟩)
    | (go_at_call 46; with_reducible refine (isWord_is t _ ht H2.out _).mono ?_; rintro e w' ⟨rfl, rfl⟩))
  go_loopw [6, 7, 8, 9] (fun a m i _ wr => ∃ ka km ki n : Nat, ki + n = s.size - t.size + 1 ∧ km ≤ t.size + 1 ∧ a = .int .i64 ka ∧ m = .int .i64 km ∧ i = .int .i64 ki ∧ nearGo (L s) (L t) n ki ka km = nearGo (L s) (L t) (s.size - t.size + 1) 0 0 (t.size + 1) ∧ Dr w wr) (fun _ _ i _ _ => s.size - t.size + 1 - (intOf i).toNat)
  case atStart => exact ⟨0, t.size + 1, 0, _, by omega, by omega, rfl, by go_num, rfl, rfl, Dr.refl _⟩
  case round =>
    obtain ⟨ka, km, ki, n, hn, hkm, rfl, rfl, rfl, hg, hd⟩ := hrel
    have hn2 : ki ≤ s.size - t.size + 1 - n := by omega
    have hn3 : n ≤ s.size - t.size + 1 - ki := by omega
    have hn4 : n + ki ≤ s.size - t.size + 1 := by omega
    have hn5 : s.size - t.size + 1 ≤ ki + n := by omega
    have HG := Lib.hid hg; clear hg hn
    by_cases h0 : ki + t.size ≤ s.size
    · obtain ⟨n, rfl⟩ : ∃ m, n = m + 1 := ⟨n - 1, by omega⟩
      have e0 := size_part s ki (ki + t.size) (by omega)
      have q0 : (s.extract ki (ki + t.size)).size ≤ maxLen := by rw [e0]; unfold maxLen; omega
      have q1 : (s.extract ki (ki + t.size)).size ≤ t.size := by omega
      have q2 : t.size ≤ (s.extract ki (ki + t.size)).size := by omega
      have Q := Lib.hid (And.intro q0 (And.intro q1 q2)); clear e0 q0 q1 q2
      have e1 := L_part s ki t.size
      rw [← L_len t] at e1
      have q3 := mism_le (L (s.extract ki (ki + t.size))) (L t)
      have q4 : mism (L (s.extract ki (ki + t.size))) (L t) ≤ t.size := by
        rw [mism_comm]; have := mism_le (L t) (L (s.extract ki (ki + t.size))); rwa [L_len] at this
      clear q3
      have HE : Hid (L (s.extract ki (ki + (L t).length)) = ((L s).drop ki).take (L t).length) := e1
      clear e1
      by_cases hlt : mism (L (s.extract ki (ki + t.size))) (L t) < km
      · have HL := Lib.hid hlt
        go_wp2_with (go_at_call 57; refine (mismatches_any _ t Q.out.1 Q.out.2.1 Q.out.2.2 _).mono ?_; rintro e w' ⟨rfl, hd1⟩)
        go_roundw
        case rel => exact ⟨ki, _, ki + 1, n, by omega, by omega, rfl, rfl, by go_num, by rw [← HG.out, nearGo, ← HE.out, L_len, if_pos HL.out], hd.trans hd1⟩
        case measure => simp [intOf]; omega
      · have HL := Lib.hid hlt
        go_wp2_with (go_at_call 57; refine (mismatches_any _ t Q.out.1 Q.out.2.1 Q.out.2.2 _).mono ?_; rintro e w' ⟨rfl, hd1⟩)
        go_roundw
        case rel => exact ⟨ka, km, ki + 1, n, by omega, by omega, rfl, rfl, by go_num, by rw [← HG.out, nearGo, ← HE.out, L_len, if_neg HL.out], hd.trans hd1⟩
        case measure => simp [intOf]; omega
    · have hz : n = 0 := by omega
      subst hz
      go_wp2
      go_ret2
      exact ⟨by rw [← HG.out]; rfl, hd⟩
set_option maxHeartbeats 400000 in
theorem iNearestPart_no (s t : ByteArray) (hs : s.size ≤ maxLen) (ht : t.size ≤ maxLen) (h : ¬ (isW (L s) = true ∧ isW (L t) = true ∧ t.size ≤ s.size)) (w : World) :
    Calls Try.prog 29 #[.string s, .string t] w fun e w' => e = .returned (.tuple #[.int .i64 (-1), .int .i64 (-1)]) ∧ Dr w w' := by
  cases h1 : isW (L s)
  · have H1 := Lib.hid h1; clear h1 h
    go_enter Try.func29, Try.ntmps29
    go_wp2_with (go_at_call 46; refine (isWord_is s _ hs H1.out _).mono ?_; rintro e w' ⟨rfl, rfl⟩)
    go_ret2
    exact ⟨rfl, Dr.refl _⟩
  · cases h2 : isW (L t)
    · have H1 := Lib.hid h1; clear h1 h
      have H2 := Lib.hid h2; clear h2
      go_enter Try.func29, Try.ntmps29
      go_wp2_with (first
        | (go_at_call 46; with_reducible refine (isWord_is s _ hs H1.out _).mono ?_; rintro e w' ⟨rfl, rfl⟩)
        | (go_at_call 46; with_reducible refine (isWord_is t _ ht H2.out _).mono ?_; rintro e w' ⟨rfl, rfl⟩))
      go_ret2
      exact ⟨rfl, Dr.refl _⟩
    · have hb : decide (s.size < t.size) = true := by
        simp; exact Nat.lt_of_not_le fun h3 => h ⟨h1, h2, h3⟩
      have H1 := Lib.hid h1; clear h1 h
      have H2 := Lib.hid h2; clear h2
      have hb2 : s.size < t.size := of_decide_eq_true hb
      go_enter Try.func29, Try.ntmps29
      go_wp2_with (first
        | (go_at_call 46; with_reducible refine (isWord_is s _ hs H1.out _).mono ?_; rintro e w' ⟨rfl, rfl⟩)
        | (go_at_call 46; with_reducible refine (isWord_is t _ ht H2.out _).mono ?_; rintro e w' ⟨rfl, rfl⟩))
      go_ret2
      exact ⟨rfl, Dr.refl _⟩
end Go.Proofs.Ytfjmopiofcbpgaa
