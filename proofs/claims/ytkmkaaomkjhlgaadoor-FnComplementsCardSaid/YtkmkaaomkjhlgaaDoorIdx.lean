/- IndexOf, LowerWord, both: of which n a number is the lower or the upper number. -/
import Derived.Test.YtkmkaaomkjhlgaaDoorWyt
import Derived.Test.YtkmkaaomkjhlgaaDoorComp
namespace Go.Proofs.YtkmkaaomkjhlgaaDoor
open Go.RowKit
set_option linter.unusedVariables false

set_option maxHeartbeats 400000 in
theorem upperFn_any (n : Int) (h : 0 ≤ n) (h2 : n ≤ 100000) (w : World) :
    Calls Tryd.prog 33 #[.int .i64 n] w fun e w' => e = .returned (.int .i64 (low n + n)) ∧ Below w.heap.size w w' := by
  have hb := low_bd n h h2
  obtain ⟨hb1, hb2⟩ := hb
  go_enter Tryd.func33, Tryd.ntmps33
  go_wp2_with (go_at_call 31; refine (lower_any _ h h2 _).mono ?_; rintro e w' ⟨rfl, b1⟩)
  go_ret
  exact ⟨rfl, b1⟩
set_option maxHeartbeats 400000 in
theorem indexAt_lower (m N : Int) (h1 : 1 ≤ m) (h2 : m ≤ 100000) (hN0 : 0 < N) (hN : N ≤ m + 1) (hlo : ∀ n, 0 ≤ n → n ≤ 1000000 → n < N → low n < m) (hhi : ∀ n, 0 ≤ n → n ≤ 1000000 → N ≤ n → m ≤ low n) (w : World) :
    Calls Tryd.prog 32 #[.int .i64 m, .func (.func 31) #[] #[]] w fun e w' => e = .returned (.int .i64 N) ∧ Below w.heap.size w w' := by
  have HL := Lib.hid hlo; have HH := Lib.hid hhi; clear hlo hhi
  go_enter Tryd.func32, Tryd.ntmps32
  go_wp2_with fail
  go_loopw [5, 6, 7] (fun l h _ wr => ∃ x y : Int, 0 ≤ x ∧ x < N ∧ N ≤ y ∧ y ≤ m + 1 ∧ l = .int .i64 x ∧ h = .int .i64 y ∧ Below w.heap.size w wr) (fun l h _ _ => (intOf h - intOf l).toNat)
  case atStart => exact ⟨0, m + 1, by omega, hN0, hN, by omega, rfl, rfl, Below.refl _ _⟩
  case round =>
    obtain ⟨x, y, k1, k2, k3, k4, rfl, rfl, hbel⟩ := hrel
    by_cases hgo : 1 < y - x
    · have m1 : x < (x + y) / 2 := by omega
      have m2 : (x + y) / 2 < y := by omega
      have m3 : (x + y) / 2 ≤ 100000 := by omega
      by_cases hg : (x + y) / 2 < N
      · have hs := HL.out ((x + y) / 2) (by omega) (by omega) hg
        go_wp2_with fail
        refine (lower_any ((x + y) / 2) (by omega) m3 _).mono ?_
        rintro e w1 ⟨rfl, b1⟩
        go_wp2_with fail
        go_roundw
        case rel => exact ⟨_, y, by omega, hg, k3, k4, rfl, rfl, hbel.trans (b1.mono hbel.size)⟩
        case measure => simp [intOf]; omega
      · have hs : ¬ low ((x + y) / 2) < m := by have := HH.out ((x + y) / 2) (by omega) (by omega) (by omega); omega
        go_wp2_with fail
        refine (lower_any ((x + y) / 2) (by omega) m3 _).mono ?_
        rintro e w1 ⟨rfl, b1⟩
        go_wp2_with fail
        go_roundw
        case rel => exact ⟨x, _, k1, k2, by omega, by omega, rfl, rfl, hbel.trans (b1.mono hbel.size)⟩
        case measure => simp [intOf]; omega
    · go_wp2_with fail
      go_ret
      exact ⟨ret_int (by omega), hbel⟩
set_option maxHeartbeats 400000 in
theorem indexAt_upper (m N : Int) (h1 : 1 ≤ m) (h2 : m ≤ 100000) (hN0 : 0 < N) (hN : N ≤ m + 1) (hlo : ∀ n, 0 ≤ n → n ≤ 1000000 → n < N → low n + n < m) (hhi : ∀ n, 0 ≤ n → n ≤ 1000000 → N ≤ n → m ≤ low n + n) (w : World) :
    Calls Tryd.prog 32 #[.int .i64 m, .func (.func 33) #[] #[]] w fun e w' => e = .returned (.int .i64 N) ∧ Below w.heap.size w w' := by
  have HL := Lib.hid hlo; have HH := Lib.hid hhi; clear hlo hhi
  go_enter Tryd.func32, Tryd.ntmps32
  go_wp2_with fail
  go_loopw [5, 6, 7] (fun l h _ wr => ∃ x y : Int, 0 ≤ x ∧ x < N ∧ N ≤ y ∧ y ≤ m + 1 ∧ l = .int .i64 x ∧ h = .int .i64 y ∧ Below w.heap.size w wr) (fun l h _ _ => (intOf h - intOf l).toNat)
  case atStart => exact ⟨0, m + 1, by omega, hN0, hN, by omega, rfl, rfl, Below.refl _ _⟩
  case round =>
    obtain ⟨x, y, k1, k2, k3, k4, rfl, rfl, hbel⟩ := hrel
    by_cases hgo : 1 < y - x
    · have m1 : x < (x + y) / 2 := by omega
      have m2 : (x + y) / 2 < y := by omega
      have m3 : (x + y) / 2 ≤ 100000 := by omega
      by_cases hg : (x + y) / 2 < N
      · have hs := HL.out ((x + y) / 2) (by omega) (by omega) hg
        go_wp2_with fail
        refine (upperFn_any ((x + y) / 2) (by omega) m3 _).mono ?_
        rintro e w1 ⟨rfl, b1⟩
        go_wp2_with fail
        go_roundw
        case rel => exact ⟨_, y, by omega, hg, k3, k4, rfl, rfl, hbel.trans (b1.mono hbel.size)⟩
        case measure => simp [intOf]; omega
      · have hs : ¬ low ((x + y) / 2) + (x + y) / 2 < m := by have := HH.out ((x + y) / 2) (by omega) (by omega) (by omega); omega
        go_wp2_with fail
        refine (upperFn_any ((x + y) / 2) (by omega) m3 _).mono ?_
        rintro e w1 ⟨rfl, b1⟩
        go_wp2_with fail
        go_roundw
        case rel => exact ⟨x, _, k1, k2, by omega, by omega, rfl, rfl, hbel.trans (b1.mono hbel.size)⟩
        case measure => simp [intOf]; omega
    · go_wp2_with fail
      go_ret
      exact ⟨ret_int (by omega), hbel⟩
/-- What IndexOf's two answers are: N for the lower number low N, k for an upper number that is no lower one. -/
theorem idx_lower {m N : Int} (h2 : m ≤ 100000) (hN0 : 1 ≤ N) (hN : N ≤ m) (he : low N = m) :
    (∀ n, 0 ≤ n → n ≤ 1000000 → n < N → low n < m) ∧ (∀ n, 0 ≤ n → n ≤ 1000000 → N ≤ n → m ≤ low n) := by
  constructor
  · intro n h0 h1 h3
    have := low_lt h0 h3 (by omega); omega
  · intro n h0 h1 h3
    rcases Int.lt_or_le N n with h4 | h4
    · have := low_lt (by omega : 0 ≤ N) h4 h1; omega
    · have : n = N := by omega
      subst this; omega
theorem idx_upper {m k : Int} (h2 : m ≤ 100000) (hN0 : 1 ≤ k) (hN : k ≤ m) (he : low k + k = m) :
    (∀ n, 0 ≤ n → n ≤ 1000000 → n < k → low n + n < m) ∧ (∀ n, 0 ≤ n → n ≤ 1000000 → k ≤ n → m ≤ low n + n) := by
  constructor
  · intro n h0 h1 h3
    have := low_lt h0 h3 (by omega); omega
  · intro n h0 h1 h3
    rcases Int.lt_or_le k n with h4 | h4
    · have := low_lt (by omega : 0 ≤ k) h4 h1; omega
    · have : n = k := by omega
      subst this; omega
/-- The least number whose lower number is at least m. -/
theorem idx_least (m : Int) (h1 : 1 ≤ m) (h2 : m ≤ 100000) : ∃ N, 1 ≤ N ∧ N ≤ m ∧ (∀ n, 0 ≤ n → n ≤ 1000000 → n < N → low n < m) ∧ (∀ n, 0 ≤ n → n ≤ 1000000 → N ≤ n → m ≤ low n) := by
  obtain ⟨n, hn1, hn2, hn3, hn4⟩ := step_exists (fun n => low n < m) m.toNat 0 (by rw [low_zero]; omega) (by
    have := low_ge (0 + (m.toNat : Int)) (by omega) (by omega)
    have h : ((0 : Int) + m.toNat) = m := by omega
    rw [h] at this ⊢; omega)
  refine ⟨n + 1, by omega, by omega, ?_, ?_⟩
  · intro i h0 h3 h4
    rcases Int.lt_or_le i n with h5 | h5
    · have := low_lt h0 h5 (by omega); omega
    · have : i = n := by omega
      subst this; exact hn3
  · intro i h0 h3 h4
    rcases Int.lt_or_le (n + 1) i with h5 | h5
    · have := low_lt (by omega : 0 ≤ n + 1) h5 h3; omega
    · have : i = n + 1 := by omega
      subst this; omega
set_option maxHeartbeats 400000 in
theorem iIndexOf_lower (m N : Int) (h1 : 1 ≤ m) (h2 : m ≤ 100000) (hN0 : 1 ≤ N) (hN : N ≤ m) (he : low N = m) (w : World) :
    Calls Tryd.prog 14 #[.int .i64 m] w fun e w' => e = .returned (.tuple #[.int .i64 N, .bool true]) ∧ Below w.heap.size w w' := by
  have hi := idx_lower h2 hN0 hN he
  have hb : (low N == m) = true := by simp [he]
  have HI := Lib.hid hi; clear hi he
  go_enter Tryd.func14, Tryd.ntmps14
  go_wp2_with (go_at_call 30; refine (within_yes _ _ _ ⟨h1, h2⟩ _).mono ?_; rintro e w' ⟨rfl, rfl⟩)
  refine (indexAt_lower m N h1 h2 (by omega) (by omega) HI.out.1 HI.out.2 _).mono ?_
  rintro e w1 ⟨rfl, b1⟩
  go_wp2_with fail
  refine (lower_any N (by omega) (by omega) _).mono ?_
  rintro e w2 ⟨rfl, b2⟩
  go_wp2_with fail
  go_ret2
  exact ⟨rfl, b1.trans (b2.mono b1.size)⟩
set_option maxHeartbeats 400000 in
theorem iIndexOf_upper (m k : Int) (h1 : 1 ≤ m) (h2 : m ≤ 100000) (hk0 : 1 ≤ k) (hk : k ≤ m) (he : low k + k = m) (hno : ∀ N, 0 ≤ N → N ≤ 1000000 → low N ≠ m) (w : World) :
    Calls Tryd.prog 14 #[.int .i64 m] w fun e w' => e = .returned (.tuple #[.int .i64 k, .bool false]) ∧ Below w.heap.size w w' := by
  obtain ⟨N, hN1, hN2, hN3, hN4⟩ := idx_least m h1 h2
  have hi := idx_upper h2 hk0 hk he
  have hb : (low N == m) = false := by simpa using hno N (by omega) (by omega)
  have HI := Lib.hid hi; clear hi he hno
  have HN := Lib.hid (And.intro hN3 hN4); clear hN3 hN4
  go_enter Tryd.func14, Tryd.ntmps14
  go_wp2_with (go_at_call 30; refine (within_yes _ _ _ ⟨h1, h2⟩ _).mono ?_; rintro e w' ⟨rfl, rfl⟩)
  refine (indexAt_lower m N h1 h2 (by omega) (by omega) HN.out.1 HN.out.2 _).mono ?_
  rintro e w1 ⟨rfl, b1⟩
  go_wp2_with fail
  refine (lower_any N (by omega) (by omega) _).mono ?_
  rintro e w2 ⟨rfl, b2⟩
  go_wp2_with fail
  refine (indexAt_upper m k h1 h2 (by omega) (by omega) HI.out.1 HI.out.2 _).mono ?_
  rintro e w3 ⟨rfl, b3⟩
  go_wp2_with fail
  go_ret2
  have s1 := b1.size
  have s2 := b2.size
  exact ⟨rfl, (b1.trans (b2.mono b1.size)).trans (b3.mono (by omega))⟩
set_option maxHeartbeats 400000 in
theorem iIndexOf_no (m : Int) (h : ¬ (1 ≤ m ∧ m ≤ 100000)) (w : World) :
    Calls Tryd.prog 14 #[.int .i64 m] w fun e w' => e = .returned (.tuple #[.int .i64 0, .bool false]) ∧ Below w.heap.size w w' := by
  have H := Lib.hid h; clear h
  go_enter Tryd.func14, Tryd.ntmps14
  go_wp2_with (go_at_call 30; refine (within_no _ _ _ H.out _).mono ?_; rintro e w' ⟨rfl, rfl⟩)
  go_ret2
  exact ⟨rfl, Below.refl _ _⟩
/-- The answer of IndexOf within its bounds. -/
def IdxIs (m : Int) (r : Int × Bool) : Prop := (r.2 = true ∧ 1 ≤ r.1 ∧ r.1 ≤ m ∧ low r.1 = m) ∨ (r.2 = false ∧ 1 ≤ r.1 ∧ r.1 ≤ m ∧ low r.1 + r.1 = m ∧ ∀ N, 0 ≤ N → N ≤ 1000000 → low N ≠ m)
noncomputable def idxOf (m : Int) : Int × Bool := Classical.epsilon (IdxIs m)
theorem idxOf_is (m : Int) (h1 : 1 ≤ m) (h2 : m ≤ 100000) : IdxIs m (idxOf m) := by
  apply Classical.epsilon_spec
  rcases wythoff m h1 (by omega) with ⟨N, a, b, c⟩ | ⟨k, a, b, c, d⟩
  · exact ⟨(N, true), .inl ⟨rfl, a, b, c⟩⟩
  · exact ⟨(k, false), .inr ⟨rfl, a, b, c, d⟩⟩
theorem iIndexOf_yes (m : Int) (h1 : 1 ≤ m) (h2 : m ≤ 100000) (w : World) :
    Calls Tryd.prog 14 #[.int .i64 m] w fun e w' => e = .returned (.tuple #[.int .i64 (idxOf m).1, .bool (idxOf m).2]) ∧ Below w.heap.size w w' := by
  rcases idxOf_is m h1 h2 with ⟨a, b, c, d⟩ | ⟨a, b, c, d, e⟩
  · rw [a]; exact iIndexOf_lower m _ h1 h2 b c d w
  · rw [a]; exact iIndexOf_upper m _ h1 h2 b c d e w
end Go.Proofs.YtkmkaaomkjhlgaaDoor
