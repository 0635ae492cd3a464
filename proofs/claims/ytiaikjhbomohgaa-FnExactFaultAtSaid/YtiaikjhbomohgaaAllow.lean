/- FaultAt, both: the first place where two neighbors are not an allowed pair. -/
import Derived.Test.YtiaikjhbomohgaaPair
namespace Go.Proofs.Ytiaikjhbomohgaa
open Go.RowKit
set_option linter.unusedVariables false

/-- Whether a word and a list of pairs may be asked about. -/
def repOk (s : ByteArray) (ss : List ByteArray) : Bool := isW (L s) && decide (s.size ≤ 40) && pairsOk ss
def two (s : ByteArray) (k : Nat) : ByteArray := s.extract (k - 1) (k + 1)
def faGo (ss : List ByteArray) (s : ByteArray) : Nat → Nat → Int
  | 0, _ => -1
  | n + 1, k => if hasS ss (two s k) = true then faGo ss s n (k + 1) else k
def faultOf (s : ByteArray) (ss : List ByteArray) : Int := if repOk s ss = true then faGo ss s (s.size - 1) 1 else -1

set_option maxHeartbeats 400000 in
theorem areRepaired_any (s : ByteArray) (ss : List ByteArray) (A : Option Addr) (c B : Nat) (w : World) (hs : s.size ≤ maxLen) (hn : ss.length ≤ 4294967296) (hsz : ∀ s ∈ ss, s.size ≤ maxLen) (hrd : Rds w B A (ss.map Value.string)) :
    Calls Try.prog 63 #[.string s, .slice A ss.length c] w fun e w' => e = .returned (.bool (repOk s ss)) ∧ Dr w w' := by
  have HZ := Lib.hid hsz; clear hsz
  have HR := Lib.hid hrd; clear hrd
  cases h1 : isW (L s)
  · have H1 := Lib.hid h1; clear h1
    go_enter Try.func63, Try.ntmps63
    go_wp2_with (go_at_call 52; refine (isWord_is s _ hs H1.out _).mono ?_; rintro e w' ⟨rfl, rfl⟩)
    go_ret
    exact ⟨ret_bool (by rw [repOk, H1.out]; rfl), Dr.refl _⟩
  · have H1 := Lib.hid h1; clear h1
    by_cases h2 : s.size ≤ 40
    · have h2b : decide ((s.size : Int) ≤ 40) = true := by simp; omega
      have H2 := Lib.hid h2; clear h2
      go_enter Try.func63, Try.ntmps63
      go_wp2_with (go_at_call 52; refine (isWord_is s _ hs H1.out _).mono ?_; rintro e w' ⟨rfl, rfl⟩)
      refine (arePairs_any ss A c B _ hn HZ.out HR.out).mono ?_
      rintro e w1 ⟨rfl, d1⟩
      go_wp2_with fail
      go_ret
      exact ⟨ret_bool (by rw [repOk, H1.out, decide_eq_true H2.out]; rfl), d1⟩
    · have h2b : decide ((s.size : Int) ≤ 40) = false := by simp; omega
      have H2 := Lib.hid h2; clear h2
      go_enter Try.func63, Try.ntmps63
      go_wp2_with (go_at_call 52; refine (isWord_is s _ hs H1.out _).mono ?_; rintro e w' ⟨rfl, rfl⟩)
      go_ret
      exact ⟨ret_bool (by rw [repOk, H1.out, decide_eq_false H2.out]; rfl), Dr.refl _⟩
set_option maxHeartbeats 400000 in
theorem l26Ok_any (s : ByteArray) (ss : List ByteArray) (A : Option Addr) (c B : Nat) (w : World) (hs : s.size ≤ maxLen) (hn : ss.length ≤ 4294967296) (hsz : ∀ s ∈ ss, s.size ≤ maxLen) (hrd : Rds w B A (ss.map Value.string)) :
    Calls Try.prog 61 #[.string s, .slice A ss.length c] w fun e w' => e = .returned (.bool (repOk s ss)) ∧ Dr w w' := by
  have HZ := Lib.hid hsz; clear hsz
  have HR := Lib.hid hrd; clear hrd
  cases h1 : isW (L s)
  · have H1 := Lib.hid h1; clear h1
    go_enter Try.func61, Try.ntmps61
    go_wp2_with (go_at_call 50; refine (sWordOk_is s _ hs H1.out _).mono ?_; rintro e w' ⟨rfl, rfl⟩)
    go_ret
    exact ⟨ret_bool (by rw [repOk, H1.out]; rfl), Dr.refl _⟩
  · have H1 := Lib.hid h1; clear h1
    by_cases h2 : s.size ≤ 40
    · have h2b : decide ((s.size : Int) ≤ 40) = true := by simp; omega
      have H2 := Lib.hid h2; clear h2
      go_enter Try.func61, Try.ntmps61
      go_wp2_with (go_at_call 50; refine (sWordOk_is s _ hs H1.out _).mono ?_; rintro e w' ⟨rfl, rfl⟩)
      refine (l23List_any ss A c B _ hn HZ.out HR.out).mono ?_
      rintro e w1 ⟨rfl, d1⟩
      go_wp2_with fail
      go_ret
      exact ⟨ret_bool (by rw [repOk, H1.out, decide_eq_true H2.out]; rfl), d1⟩
    · have h2b : decide ((s.size : Int) ≤ 40) = false := by simp; omega
      have H2 := Lib.hid h2; clear h2
      go_enter Try.func61, Try.ntmps61
      go_wp2_with (go_at_call 50; refine (sWordOk_is s _ hs H1.out _).mono ?_; rintro e w' ⟨rfl, rfl⟩)
      go_ret
      exact ⟨ret_bool (by rw [repOk, H1.out, decide_eq_false H2.out]; rfl), Dr.refl _⟩
set_option maxHeartbeats 400000 in
theorem iFaultAt_any (s : ByteArray) (ss : List ByteArray) (A : Option Addr) (c B : Nat) (w : World) (hs : s.size ≤ maxLen) (hn : ss.length ≤ 4294967296) (hsz : ∀ s ∈ ss, s.size ≤ maxLen) (hrd : Rds w B A (ss.map Value.string)) :
    Calls Try.prog 28 #[.string s, .slice A ss.length c] w fun e w' => e = .returned (.int .i64 (faultOf s ss)) ∧ Dr w w' := by
  have HZ := Lib.hid hsz; clear hsz
  have HR := Lib.hid hrd; clear hrd
  have hs2 := hs
  unfold maxLen at hs2
  cases h1 : repOk s ss
  · have H1 := Lib.hid h1; clear h1
    go_enter Try.func28, Try.ntmps28
    go_wp2_with fail
    refine (areRepaired_any s ss A c B _ hs hn HZ.out HR.out).mono ?_
    rw [H1.out]
    rintro e w1 ⟨rfl, d1⟩
    go_wp2_with fail
    go_ret
    exact ⟨ret_int (by rw [faultOf, H1.out]; rfl), d1⟩
  · have h3 : faultOf s ss = faGo ss s (s.size - 1) 1 := by rw [faultOf, h1]; rfl
    have H1 := Lib.hid h1; clear h1
    have H3 := Lib.hid h3; clear h3
    go_enter Try.func28, Try.ntmps28
    go_wp2_with fail
    refine (areRepaired_any s ss A c B _ hs hn HZ.out HR.out).mono ?_
    rw [H1.out]
    rintro e w1 ⟨rfl, d1⟩
    go_wp2_with fail
    go_loopw [5] (fun i wr => ∃ k n : Nat, 1 ≤ k ∧ k + n = (s.size - 1) + 1 ∧ i = .int .i64 k ∧ faGo ss s n k = faultOf s ss ∧ Dr w wr) (fun i _ => s.size + 1 - (intOf i).toNat)
    case atStart => exact ⟨1, s.size - 1, by omega, by omega, rfl, H3.out.symm, d1⟩
    case round =>
      clear d1 H3
      obtain ⟨k, n, hk, hkn, rfl, hg, hd⟩ := hrel
      have HG := Lib.hid hg; clear hg
      have n1 : k + n ≤ (s.size - 1) + 1 := by omega
      have n2 : (s.size - 1) + 1 ≤ k + n := by omega
      clear hkn
      by_cases hlt : k < s.size
      · obtain ⟨m, rfl⟩ : ∃ m, n = m + 1 := ⟨n - 1, by omega⟩
        have HR1 := Lib.hid (HR.out.dr hd)
        cases hh : hasS ss (two s k)
        · have HH := Lib.hid hh; clear hh
          have hq : decide (atIx ss (two s k) < 0) = true := by rw [hasS_lt, HH.out]; rfl
          go_wp2_with fail
          refine (containsS_any ss (two s k) A c B _ hn HR1.out).mono ?_
          try rw [HH.out]
          rintro e w2 ⟨rfl, d2⟩
          go_wp2_with fail
          go_ret
          exact ⟨ret_int (by rw [← HG.out, faGo, HH.out]; rfl), hd.trans d2⟩
        · have HH := Lib.hid hh; clear hh
          have hq : decide (atIx ss (two s k) < 0) = false := by rw [hasS_lt, HH.out]; rfl
          go_wp2_with fail
          refine (containsS_any ss (two s k) A c B _ hn HR1.out).mono ?_
          try rw [HH.out]
          rintro e w2 ⟨rfl, d2⟩
          go_wp2_with fail
          go_roundw
          case rel => exact ⟨k + 1, m, by omega, by omega, by go_num, by rw [← HG.out, faGo, if_pos HH.out], hd.trans d2⟩
          case measure => simp [intOf]; omega
      · have h0 : n = 0 := by omega
        subst h0
        go_wp2_with fail
        go_ret
        exact ⟨ret_int (by rw [← HG.out]; rfl), hd⟩
set_option maxHeartbeats 400000 in
theorem sFaultAt_any (s : ByteArray) (ss : List ByteArray) (A : Option Addr) (c B : Nat) (w : World) (hs : s.size ≤ maxLen) (hn : ss.length ≤ 4294967296) (hsz : ∀ s ∈ ss, s.size ≤ maxLen) (hrd : Rds w B A (ss.map Value.string)) :
    Calls Try.prog 27 #[.string s, .slice A ss.length c] w fun e w' => e = .returned (.int .i64 (faultOf s ss)) ∧ Dr w w' := by
  have HZ := Lib.hid hsz; clear hsz
  have HR := Lib.hid hrd; clear hrd
  have hs2 := hs
  unfold maxLen at hs2
  cases h1 : repOk s ss
  · have H1 := Lib.hid h1; clear h1
    go_enter Try.func27, Try.ntmps27
    go_wp2_with fail
    refine (l26Ok_any s ss A c B _ hs hn HZ.out HR.out).mono ?_
    rw [H1.out]
    rintro e w1 ⟨rfl, d1⟩
    go_wp2_with fail
    go_ret
    exact ⟨ret_int (by rw [faultOf, H1.out]; rfl), d1⟩
  · have h3 : faultOf s ss = faGo ss s (s.size - 1) 1 := by rw [faultOf, h1]; rfl
    have H1 := Lib.hid h1; clear h1
    have H3 := Lib.hid h3; clear h3
    go_enter Try.func27, Try.ntmps27
    go_wp2_with fail
    refine (l26Ok_any s ss A c B _ hs hn HZ.out HR.out).mono ?_
    rw [H1.out]
    rintro e w1 ⟨rfl, d1⟩
    go_wp2_with fail
    go_loopw [5] (fun i wr => ∃ k n : Nat, 1 ≤ k ∧ k + n = (s.size - 1) + 1 ∧ i = .int .i64 k ∧ faGo ss s n k = faultOf s ss ∧ Dr w wr) (fun i _ => s.size + 1 - (intOf i).toNat)
    case atStart => exact ⟨1, s.size - 1, by omega, by omega, rfl, H3.out.symm, d1⟩
    case round =>
      clear d1 H3
      obtain ⟨k, n, hk, hkn, rfl, hg, hd⟩ := hrel
      have HG := Lib.hid hg; clear hg
      have n1 : k + n ≤ (s.size - 1) + 1 := by omega
      have n2 : (s.size - 1) + 1 ≤ k + n := by omega
      clear hkn
      by_cases hlt : k < s.size
      · obtain ⟨m, rfl⟩ : ∃ m, n = m + 1 := ⟨n - 1, by omega⟩
        have HR1 := Lib.hid (HR.out.dr hd)
        cases hh : hasS ss (two s k)
        · have HH := Lib.hid hh; clear hh
          have hq : decide (atIx ss (two s k) < 0) = true := by rw [hasS_lt, HH.out]; rfl
          go_wp2_with fail
          refine (l06At_any ss (two s k) A c B _ hn HR1.out).mono ?_
          try rw [HH.out]
          rintro e w2 ⟨rfl, d2⟩
          go_wp2_with fail
          go_ret
          exact ⟨ret_int (by rw [← HG.out, faGo, HH.out]; rfl), hd.trans d2⟩
        · have HH := Lib.hid hh; clear hh
          have hq : decide (atIx ss (two s k) < 0) = false := by rw [hasS_lt, HH.out]; rfl
          go_wp2_with fail
          refine (l06At_any ss (two s k) A c B _ hn HR1.out).mono ?_
          try rw [HH.out]
          rintro e w2 ⟨rfl, d2⟩
          go_wp2_with fail
          go_roundw
          case rel => exact ⟨k + 1, m, by omega, by omega, by go_num, by rw [← HG.out, faGo, if_pos HH.out], hd.trans d2⟩
          case measure => simp [intOf]; omega
      · have h0 : n = 0 := by omega
        subst h0
        go_wp2_with fail
        go_ret
        exact ⟨ret_int (by rw [← HG.out]; rfl), hd⟩
end Go.Proofs.Ytiaikjhbomohgaa
