/- FaultAt, IsAllowed, both: the first place where two neighbors are not an allowed pair; whether all are allowed. -/
import Derived.Test.YtfgifbkkclkhiaaPair
namespace Go.Proofs.Ytfgifbkkclkhiaa
open Go.RowKit
set_option linter.unusedVariables false

/-- Whether a word and a list of pairs may be asked about. -/
def repOk (s : ByteArray) (ss : List ByteArray) : Bool := isW (L s) && decide (s.size ≤ 40) && pairsOk ss
def two (s : ByteArray) (k : Nat) : ByteArray := s.extract (k - 1) (k + 1)
def faGo (ss : List ByteArray) (s : ByteArray) : Nat → Nat → Int
  | 0, _ => -1
  | n + 1, k => if hasS ss (two s k) = true then faGo ss s n (k + 1) else k
def faultOf (s : ByteArray) (ss : List ByteArray) : Int := if repOk s ss = true then faGo ss s (s.size - 1) 1 else -1

set_option maxHeartbeats 400000 in
theorem areRepaired_any (s : ByteArray) (ss : List ByteArray) (A : Option Addr) (c B : Nat) (w : World) (hs : s.size ≤ maxLen) (hn : ss.length ≤ 4294967296) (hsz : ∀ s ∈ ss, s.size ≤ maxLen) (hrd : Rds w B A (ss.map Value.string)) :
    Calls Try.prog 58 #[.string s, .slice A ss.length c] w fun e w' => e = .returned (.bool (repOk s ss)) ∧ Dr w w' := by
  have HZ := Lib.hid hsz; clear hsz
  have HR := Lib.hid hrd; clear hrd
  cases h1 : isW (L s)
  · have H1 := Lib.hid h1; clear h1
    go_enter Try.func58, Try.ntmps58
    go_wp2_with (go_at_call 42; refine (isWord_is s _ hs H1.out _).mono ?_; rintro e w' ⟨rfl, rfl⟩)
    go_ret
    exact ⟨ret_bool (by rw [repOk, H1.out]; rfl), Dr.refl _⟩
  · have H1 := Lib.hid h1; clear h1
    by_cases h2 : s.size ≤ 40
    · have h2b : decide ((s.size : Int) ≤ 40) = true := by simp; omega
      have H2 := Lib.hid h2; clear h2
      go_enter Try.func58, Try.ntmps58
      go_wp2_with (go_at_call 42; refine (isWord_is s _ hs H1.out _).mono ?_; rintro e w' ⟨rfl, rfl⟩)
      refine (arePairs_any ss A c B _ hn HZ.out HR.out).mono ?_
      rintro e w1 ⟨rfl, d1⟩
      go_wp2_with fail
      go_ret
      exact ⟨ret_bool (by rw [repOk, H1.out, decide_eq_true H2.out]; rfl), d1⟩
    · have h2b : decide ((s.size : Int) ≤ 40) = false := by simp; omega
      have H2 := Lib.hid h2; clear h2
      go_enter Try.func58, Try.ntmps58
      go_wp2_with (go_at_call 42; refine (isWord_is s _ hs H1.out _).mono ?_; rintro e w' ⟨rfl, rfl⟩)
      go_ret
      exact ⟨ret_bool (by rw [repOk, H1.out, decide_eq_false H2.out]; rfl), Dr.refl _⟩
set_option maxHeartbeats 400000 in
theorem l26Ok_any (s : ByteArray) (ss : List ByteArray) (A : Option Addr) (c B : Nat) (w : World) (hs : s.size ≤ maxLen) (hn : ss.length ≤ 4294967296) (hsz : ∀ s ∈ ss, s.size ≤ maxLen) (hrd : Rds w B A (ss.map Value.string)) :
    Calls Try.prog 56 #[.string s, .slice A ss.length c] w fun e w' => e = .returned (.bool (repOk s ss)) ∧ Dr w w' := by
  have HZ := Lib.hid hsz; clear hsz
  have HR := Lib.hid hrd; clear hrd
  cases h1 : isW (L s)
  · have H1 := Lib.hid h1; clear h1
    go_enter Try.func56, Try.ntmps56
    go_wp2_with (go_at_call 39; refine (sWordOk_is s _ hs H1.out _).mono ?_; rintro e w' ⟨rfl, rfl⟩)
    go_ret
    exact ⟨ret_bool (by rw [repOk, H1.out]; rfl), Dr.refl _⟩
  · have H1 := Lib.hid h1; clear h1
    by_cases h2 : s.size ≤ 40
    · have h2b : decide ((s.size : Int) ≤ 40) = true := by simp; omega
      have H2 := Lib.hid h2; clear h2
      go_enter Try.func56, Try.ntmps56
      go_wp2_with (go_at_call 39; refine (sWordOk_is s _ hs H1.out _).mono ?_; rintro e w' ⟨rfl, rfl⟩)
      refine (l23List_any ss A c B _ hn HZ.out HR.out).mono ?_
      rintro e w1 ⟨rfl, d1⟩
      go_wp2_with fail
      go_ret
      exact ⟨ret_bool (by rw [repOk, H1.out, decide_eq_true H2.out]; rfl), d1⟩
    · have h2b : decide ((s.size : Int) ≤ 40) = false := by simp; omega
      have H2 := Lib.hid h2; clear h2
      go_enter Try.func56, Try.ntmps56
      go_wp2_with (go_at_call 39; refine (sWordOk_is s _ hs H1.out _).mono ?_; rintro e w' ⟨rfl, rfl⟩)
      go_ret
      exact ⟨ret_bool (by rw [repOk, H1.out, decide_eq_false H2.out]; rfl), Dr.refl _⟩
end Go.Proofs.Ytfgifbkkclkhiaa
