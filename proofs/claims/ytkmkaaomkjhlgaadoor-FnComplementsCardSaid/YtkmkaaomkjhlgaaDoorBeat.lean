/- BeattyOf, both: the list of the integer parts. -/
import Derived.Test.YtkmkaaomkjhlgaaDoorHelp
import Derived.Test.YtkmkaaomkjhlgaaDoorNum
namespace Go.Proofs.YtkmkaaomkjhlgaaDoor
open Go.RowKit
set_option linter.unusedVariables false

def bty (p q : Int) (n : Nat) : List Int := (List.range n).map fun i : Nat => ((i : Int) + 1) * p / q
theorem bty_length (p q : Int) (n : Nat) : (bty p q n).length = n := by simp [bty]
theorem bty_succ (p q : Int) (k : Nat) : bty p q (k + 1) = bty p q k ++ [((k : Int) + 1) * p / q] := by simp [bty, List.range_succ]
theorem mul_bd {a b A B : Int} (h1 : 0 ≤ a) (h2 : 0 ≤ b) (h3 : a ≤ A) (h4 : b ≤ B) : 0 ≤ a * b ∧ a * b ≤ A * B :=
  ⟨Int.mul_nonneg h1 h2, Int.mul_le_mul h3 h4 h2 (by omega)⟩

/-- When BeattyOf returns a list. -/
def btOk (p q n : Int) : Prop := (1 ≤ q ∧ q ≤ 100) ∧ (q ≤ p ∧ p ≤ 1000) ∧ (0 ≤ n ∧ n ≤ 400)
set_option maxHeartbeats 400000 in
theorem iBeattyOf_yes (p q : Int) (n : Nat) (h1 : 1 ≤ q) (h2 : q ≤ 100) (h3 : q ≤ p) (h4 : p ≤ 1000) (h5 : n ≤ 400) (w : World) :
    Calls Tryd.prog 21 #[.int .i64 p, .int .i64 q, .int .i64 n] w fun e w' => ∃ A c, e = .returned (.slice A n c) ∧ Own w' w.heap.size 3 (.slice A n c) ((bty p q n).map (Value.int .i64)) ∧ Below w.heap.size w w' := by
  go_enter Tryd.func21, Tryd.ntmps21
  go_wp2_with (go_at_call 30; refine (within_yes _ _ _ ⟨by omega, by omega⟩ _).mono ?_; rintro e w' ⟨rfl, rfl⟩)
  go_loopw [7, 8] (fun v i wr => ∃ k : Nat, ∃ A c, k ≤ n ∧ i = .int .i64 ((k : Int) + 1) ∧ v = .slice A k c ∧ Own wr w.heap.size 3 (.slice A k c) ((bty p q k).map (Value.int .i64)) ∧ Below w.heap.size w wr) (fun _ i _ => n + 1 - (intOf i).toNat)
  case atStart => exact ⟨0, _, _, by omega, by go_num, rfl, Own.empty (Nat.le_refl _), (Below.refl _ _).alloc (Nat.le_refl _) _⟩
  case round =>
    obtain ⟨k, A, c, hk, rfl, rfl, hown, hbel⟩ := hrel
    by_cases hlt : k < n
    · have hm := mul_bd (a := (k : Int) + 1) (b := p) (A := 400) (B := 1000) (by omega) (by omega) (by omega) (by omega)
      obtain ⟨hm1, hm2⟩ := hm
      have HO := Lib.hid hown; clear hown
      go_wp2_with (at_builtin; refine wp_append1 rfl (.tmp 29) (.tmp 35) 45 rfl _ 8 Tryd.underlying45 info_int rfl rfl HO.out _ rfl rfl k ?n1 ?n2 ?n3 ?n4 ?_)
      case n1 => simp [bty_length]
      case n2 => omega
      case n3 => decide
      case n4 => exact hbel.size
      intro A' c' w1 hown1 hbel1 hsz1
      rw [show (bty p q k).map (Value.int .i64) ++ [Value.int .i64 (((k : Int) + 1) * p / q)] = (bty p q (k + 1)).map (Value.int .i64) from by rw [bty_succ, List.map_append]; rfl] at hown1
      have HO1 := Lib.hid hown1; clear hown1
      go_wp2_with fail
      go_roundw
      case rel => exact ⟨k + 1, A', c', by omega, by go_num, rfl, HO1.out, hbel.trans hbel1⟩
      case measure => simp [intOf]; omega
    · have hkn : k = n := by omega
      subst hkn
      go_wp2_with fail
      go_ret
      exact ⟨A, c, rfl, hown, hbel⟩
set_option maxHeartbeats 400000 in
theorem iBeattyOf_no (p q n : Int) (h : ¬ btOk p q n) (w : World) :
    Calls Tryd.prog 21 #[.int .i64 p, .int .i64 q, .int .i64 n] w fun e w' => e = .returned (.slice none 0 0) ∧ w = w' := by
  unfold btOk at h
  by_cases h1 : 1 ≤ q ∧ q ≤ 100
  · by_cases h2 : q ≤ p ∧ p ≤ 1000
    · have h3 : ¬ (0 ≤ n ∧ n ≤ 400) := fun h3 => h ⟨h1, h2, h3⟩
      have H1 := Lib.hid h1; have H2 := Lib.hid h2; have H3 := Lib.hid h3
      clear h h1 h2 h3
      go_enter Tryd.func21, Tryd.ntmps21
      go_wp2_with (first
        | (go_at_call 30; with_reducible refine (within_yes _ _ _ H1.out _).mono ?_; rintro e w' ⟨rfl, rfl⟩)
        | (go_at_call 30; with_reducible refine (within_yes _ _ _ H2.out _).mono ?_; rintro e w' ⟨rfl, rfl⟩)
        | (go_at_call 30; with_reducible refine (within_no _ _ _ H3.out _).mono ?_; rintro e w' ⟨rfl, rfl⟩))
      go_ret
      exact ⟨rfl, rfl⟩
    · have H1 := Lib.hid h1; have H2 := Lib.hid h2
      clear h h1 h2
      go_enter Tryd.func21, Tryd.ntmps21
      go_wp2_with (first
        | (go_at_call 30; with_reducible refine (within_yes _ _ _ H1.out _).mono ?_; rintro e w' ⟨rfl, rfl⟩)
        | (go_at_call 30; with_reducible refine (within_no _ _ _ H2.out _).mono ?_; rintro e w' ⟨rfl, rfl⟩))
      go_ret
      exact ⟨rfl, rfl⟩
  · have H1 := Lib.hid h1
    clear h h1
    go_enter Tryd.func21, Tryd.ntmps21
    go_wp2_with (go_at_call 30; with_reducible refine (within_no _ _ _ H1.out _).mono ?_; rintro e w' ⟨rfl, rfl⟩)
    go_ret
    exact ⟨rfl, rfl⟩
/-- What BeattyOf's list is. -/
def btyL (p q n : Int) : List Int := if 1 ≤ q ∧ q ≤ 100 ∧ q ≤ p ∧ p ≤ 1000 ∧ 0 ≤ n ∧ n ≤ 400 then bty p q n.toNat else []
theorem iBeattyOf_any (p q n : Int) (w : World) :
    Calls Tryd.prog 21 #[.int .i64 p, .int .i64 q, .int .i64 n] w fun e w' => ∃ A c, e = .returned (.slice A (btyL p q n).length c) ∧ Own w' w.heap.size 3 (.slice A (btyL p q n).length c) ((btyL p q n).map (Value.int .i64)) ∧ Below w.heap.size w w' := by
  by_cases h : btOk p q n
  · obtain ⟨⟨h1, h2⟩, ⟨h3, h4⟩, h5, h6⟩ := h
    obtain ⟨n, rfl⟩ := Int.eq_ofNat_of_zero_le h5
    have hb : btyL p q n = bty p q n := by simp [btyL, h1, h2, h3, h4]; omega
    rw [hb, bty_length]
    exact iBeattyOf_yes p q n h1 h2 h3 h4 (by omega) w
  · have hb : btyL p q n = [] := by
      unfold btyL; rw [if_neg]; rintro ⟨h1, h2, h3, h4, h5, h6⟩; exact h ⟨⟨h1, h2⟩, ⟨h3, h4⟩, h5, h6⟩
    rw [hb]
    exact (iBeattyOf_no p q n h w).mono fun e w' ⟨he, hw⟩ => ⟨none, 0, he, Own.nil, hw ▸ Below.refl _ _⟩
theorem btyL_length (p q n : Int) : (btyL p q n).length ≤ 400 := by
  unfold btyL
  split
  · rw [bty_length]; omega
  · simp
end Go.Proofs.YtkmkaaomkjhlgaaDoor
