/- Nearness of words: MismatchesOf, AgreementAt, AgreementsOf, BestShift, NearestPart. Each function returns what the plain function says. -/
import Derived.Test.YtbegecoocgkbiaaGreatDoorStr
namespace Go.Proofs.YtbegecoocgkbiaaGreatDoor
open Go.RowKit
set_option linter.unusedVariables false

/-- What MismatchesOf returns. -/
def mmOf (v w : List UInt8) : Int := if isW v = true ∧ isW w = true ∧ v.length = w.length then mism v w else -1


/-- What AgreementAt returns at an index within the word. -/
def agr (l : List UInt8) (k : Nat) : Int := (l.length : Int) - k - mism (l.drop k) (l.take (l.length - k))
theorem size_from (s : ByteArray) (k : Nat) : (s.extract k s.size).size = s.size - k := by simp
theorem size_to (s : ByteArray) (k : Nat) (h : k ≤ s.size) : (s.extract 0 k).size = k := by simp; omega
theorem L_from (s : ByteArray) (k : Nat) : L (s.extract k s.size) = (L s).drop k := by
  rw [L_extract, List.take_of_length_le (by rw [L_len]; exact Nat.le_refl _)]
theorem L_to (s : ByteArray) (k : Nat) : L (s.extract 0 k) = (L s).take k := by
  rw [L_extract]; rfl
theorem agr_of (s : ByteArray) (k : Nat) (hk : k ≤ s.size) (h4 : s.size ≤ 400) :
    wrap64 (((s.size - k : Nat) : Int) - (mism (L (s.extract k s.size)) (L (s.extract 0 (s.size - k))) : Nat)) = agr (L s) k := by
  have := mism_le (L (s.extract k s.size)) (L (s.extract 0 (s.size - k)))
  rw [L_len, size_from] at this
  rw [IntWalk.wrap64_in _ (by omega), L_from, L_to]
  rw [L_from, L_to] at this
  simp only [agr, L_len]
  omega
theorem agr_of' (s : ByteArray) (k : Nat) (hk : k ≤ s.size) (h4 : s.size ≤ 400) :
    wrap64 (((s.size - k : Nat) : Int) - (mism (L (s.extract 0 (s.size - k))) (L (s.extract k s.size)) : Nat)) = agr (L s) k := by
  rw [mism_comm]; exact agr_of s k hk h4

set_option maxHeartbeats 400000 in
theorem iAgreementAt_yes (s : ByteArray) (k : Nat) (hs : s.size ≤ maxLen) (h1 : isW (L s) = true) (hk : k ≤ s.size) (w : World) :
    Calls Tryz.prog 93 #[.string s, .int .i64 k] w fun e w' => e = .returned (.int .i64 (agr (L s) k)) ∧ Dr w w' := by
  have h4 := isW_size h1
  have H1 := Lib.hid h1; clear h1
  have p1 := size_from s k
  have p2 := size_to s (s.size - k) (by omega)
  have q0 : (s.extract k s.size).size ≤ maxLen := by rw [p1]; unfold maxLen; omega
  have q1 : (s.extract k s.size).size ≤ (s.extract 0 (s.size - k)).size := by omega
  have q2 : (s.extract 0 (s.size - k)).size ≤ (s.extract k s.size).size := by omega
  have Q := Lib.hid (And.intro q0 (And.intro q1 q2)); clear p1 p2 q0 q1 q2
  go_enter Tryz.func93, Tryz.ntmps93
  go_wp2_with (first
    | (go_at_call 70; refine (isWord_is s _ hs H1.out _).mono ?_; rintro e w' ⟨rfl, rfl⟩)
    | (go_at_call 61; refine (within_yes _ _ _ ⟨by omega, by omega⟩ _).mono ?_; rintro e w' ⟨rfl, rfl⟩))
  have e1 : IntKind.i64.wrap ((s.size : Int) - (k : Int)) = ((s.size - k : Nat) : Int) := by rw [IntWalk.i64_in _ (by omega)]; omega
  go_quiet ((go_at_call 132; exact quiet_dr (mismatches_any _ _ Q.out.1 Q.out.2.1 Q.out.2.2 _)))
  clear e1
  go_wp2
  go_ret
  exact ⟨ret_int (agr_of s k hk h4), (Dr.refl _).drewN _⟩
set_option maxHeartbeats 400000 in
theorem iAgreementAt_no (s : ByteArray) (k : Int) (hs : s.size ≤ maxLen) (h : ¬ (isW (L s) = true ∧ 0 ≤ k ∧ k ≤ s.size)) (w : World) :
    Calls Tryz.prog 93 #[.string s, .int .i64 k] w fun e w' => e = .returned (.int .i64 (-1)) ∧ Dr w w' := by
  cases h1 : isW (L s)
  · have H1 := Lib.hid h1; clear h1 h
    go_enter Tryz.func93, Tryz.ntmps93
    go_wp2_with (go_at_call 70; refine (isWord_is s _ hs H1.out _).mono ?_; rintro e w' ⟨rfl, rfl⟩)
    go_ret
    exact ⟨rfl, Dr.refl _⟩
  · have h2 : ¬ (0 ≤ k ∧ k ≤ (s.size : Int)) := fun h2 => h ⟨h1, h2⟩
    have H1 := Lib.hid h1; clear h1 h
    have H2 := Lib.hid h2; clear h2
    go_enter Tryz.func93, Tryz.ntmps93
    go_wp2_with (first
      | (go_at_call 70; refine (isWord_is s _ hs H1.out _).mono ?_; rintro e w' ⟨rfl, rfl⟩)
      | (go_at_call 61; refine (within_no _ _ _ H2.out _).mono ?_; rintro e w' ⟨rfl, rfl⟩))
    go_ret
    exact ⟨rfl, Dr.refl _⟩

/-- NearestPart's loop: n rounds to come, from index i. -/
def nearGo (w f : List UInt8) : Nat → Nat → Nat → Nat → Nat × Nat
  | 0, _, a, m => (a, m)
  | n + 1, i, a, m => if mism ((w.drop i).take f.length) f < m then nearGo w f n (i + 1) i (mism ((w.drop i).take f.length) f) else nearGo w f n (i + 1) a m
theorem size_part (s : ByteArray) (a b : Nat) (h : b ≤ s.size) : (s.extract a b).size = b - a := by simp; omega
theorem L_part (s : ByteArray) (a n : Nat) : L (s.extract a (a + n)) = ((L s).drop a).take n := by
  rw [L_extract, List.drop_take]; congr 1; omega

end Go.Proofs.YtbegecoocgkbiaaGreatDoor
