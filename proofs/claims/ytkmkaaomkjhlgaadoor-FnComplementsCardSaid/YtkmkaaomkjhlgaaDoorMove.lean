/- BestMove, both: the first move to a lost position. -/
import Derived.Test.YtkmkaaomkjhlgaaDoorComp
namespace Go.Proofs.YtkmkaaomkjhlgaaDoor
open Go.RowKit
set_option linter.unusedVariables false

abbrev Mv := Int × Int × Bool
def mvV (r : Mv) : Value := .tuple #[.int .i64 r.1, .int .i64 r.2.1, .bool r.2.2]
noncomputable def bmX (a b : Int) : Nat → Int → Mv
  | 0, _ => (0, 0, false)
  | n + 1, x => if lostB (a - x) b = true then (x, 0, true) else if x ≤ b ∧ lostB (a - x) (b - x) = true then (x, x, true) else bmX a b n (x + 1)
noncomputable def bmY (a b : Int) : Nat → Int → Mv
  | 0, _ => bmX a b a.toNat 1
  | n + 1, y => if lostB a (b - y) = true then (0, y, true) else bmY a b n (y + 1)
noncomputable def syGo (a b x : Int) (K : Mv) : Nat → Int → Mv
  | 0, _ => K
  | n + 1, y => if (0 < x + y ∧ (x = 0 ∨ y = 0 ∨ x = y)) ∧ lostB (a - x) (b - y) = true then (x, y, true) else syGo a b x K n (y + 1)
noncomputable def sxGo (a b : Int) : Nat → Int → Mv
  | 0, _ => (0, 0, false)
  | n + 1, x => syGo a b x (sxGo a b n (x + 1)) (b.toNat + 1) 0

theorem sy_zero (a b : Int) (K : Mv) : ∀ (n : Nat) (y : Int), 1 ≤ y → syGo a b 0 K n y = (Nat.rec (motive := fun _ => Int → Mv) (fun _ => K) (fun _ ih y => if lostB a (b - y) = true then (0, y, true) else ih (y + 1)) n : Int → Mv) y
  | 0, _, _ => rfl
  | n + 1, y, h => by
    show (if _ then _ else _) = (if _ then _ else _)
    rw [sy_zero a b K n (y + 1) (by omega), Int.sub_zero]
    congr 1
    simp; intro _; omega
theorem sy_pos (a b x : Int) (hx : 1 ≤ x) (K : Mv) : ∀ (n : Nat) (y : Int), 1 ≤ y →
    syGo a b x K n y = if (y ≤ x ∧ x < y + n) ∧ lostB (a - x) (b - x) = true then (x, x, true) else K
  | 0, y, h => by
    rw [if_neg (by rintro ⟨h1, _⟩; simp at h1; omega)]; rfl
  | n + 1, y, h => by
    rw [syGo, sy_pos a b x hx K n (y + 1) (by omega)]
    by_cases hxy : x = y
    · subst hxy
      by_cases hl : lostB (a - x) (b - x) = true
      · rw [if_pos ⟨⟨by omega, .inr (.inr rfl)⟩, hl⟩, if_pos ⟨⟨by omega, by omega⟩, hl⟩]
      · rw [if_neg (fun h => hl h.2), if_neg (fun h => hl h.2), if_neg (fun h => hl h.2)]
    · rw [if_neg (fun h => by rcases h.1.2 with h2 | h2 | h2 <;> omega)]
      by_cases hl : lostB (a - x) (b - x) = true
      · by_cases hr : y + 1 ≤ x ∧ x < y + 1 + n
        · rw [if_pos ⟨hr, hl⟩, if_pos ⟨by omega, hl⟩]
        · rw [if_neg (fun h => hr h.1), if_neg (fun h => hr (by omega))]
      · rw [if_neg (fun h => hl h.2), if_neg (fun h => hl h.2)]
theorem sx_pos (a b : Int) (hb : 0 ≤ b) : ∀ (n : Nat) (x : Int), 1 ≤ x → sxGo a b n x = bmX a b n x
  | 0, _, _ => rfl
  | n + 1, x, h => by
    rw [sxGo, bmX, syGo, sy_pos a b x h _ _ _ (by omega), sx_pos a b hb n (x + 1) (by omega), Int.sub_zero]
    by_cases h1 : lostB (a - x) b = true
    · rw [if_pos ⟨⟨by omega, .inr (.inl rfl)⟩, h1⟩, if_pos h1]
    · rw [if_neg (fun h => h1 h.2), if_neg h1]
      by_cases h2 : x ≤ b ∧ lostB (a - x) (b - x) = true
      · rw [if_pos h2, if_pos ⟨⟨by omega, by omega⟩, h2.2⟩]
      · rw [if_neg h2, if_neg (fun h => h2 ⟨by omega, h.2⟩)]
theorem bmY_rec (a b : Int) : ∀ (n : Nat) (y : Int), bmY a b n y = (Nat.rec (motive := fun _ => Int → Mv) (fun _ => bmX a b a.toNat 1) (fun _ ih y => if lostB a (b - y) = true then (0, y, true) else ih (y + 1)) n : Int → Mv) y
  | 0, _ => rfl
  | n + 1, y => by rw [bmY, bmY_rec a b n (y + 1)]
theorem moves_same (a b : Int) (hb : 0 ≤ b) : sxGo a b (a.toNat + 1) 0 = bmY a b b.toNat 1 := by
  rw [sxGo, syGo, if_neg (fun h => by omega), sy_zero _ _ _ _ _ (by omega), bmY_rec]
  rw [show (0 : Int) + 1 = 1 from rfl, sx_pos a b hb _ _ (by omega)]

set_option maxHeartbeats 1000000 in
theorem iBestMove_yes (a b : Nat) (ha : a ≤ 200) (hb : b ≤ 200) (w : World) :
    Calls Tryd.prog 16 #[.int .i64 a, .int .i64 b] w fun e w' => e = .returned (mvV (bmY a b b 1)) ∧ Below w.heap.size w w' := by
  go_enter Tryd.func16, Tryd.ntmps16
  go_wp2_with (go_at_call 30; refine (within_yes _ _ _ ⟨by omega, by omega⟩ _).mono ?_; rintro e w' ⟨rfl, rfl⟩)
  go_loopw [7] (fun y wr => ∃ k n : Nat, k + n = b + 1 ∧ 1 ≤ k ∧ y = .int .i64 k ∧ bmY a b n k = bmY a b b 1 ∧ Below w.heap.size w wr) (fun y _ => b + 1 - (intOf y).toNat)
  case atStart => exact ⟨1, b, by omega, by omega, rfl, rfl, Below.refl _ _⟩
  case round =>
    obtain ⟨k, n, hkn, hk, rfl, hg, hbel⟩ := hrel
    have HG := Lib.hid hg; clear hg
    have n1 : k + n ≤ b + 1 := by omega
    have n2 : b + 1 ≤ k + n := by omega
    clear hkn
    by_cases hlt : k ≤ b
    · obtain ⟨m, rfl⟩ : ∃ m, n = m + 1 := ⟨n - 1, by omega⟩
      cases hl : lostB a ((b : Int) - k)
      · have HL := Lib.hid hl; clear hl
        go_wp2_with fail
        refine (iIsLosing_yes a ((b : Int) - k) (by omega) (by omega) (by omega) (by omega) _).mono ?_
        rw [HL.out]
        rintro e w1 ⟨rfl, b1⟩
        go_wp2_with fail
        go_roundw
        case rel => exact ⟨k + 1, m, by omega, by omega, by go_num, by rw [← HG.out, bmY, if_neg (by rw [HL.out]; exact Bool.false_ne_true)]; rfl, hbel.trans (b1.mono hbel.size)⟩
        case measure => simp [intOf]; omega
      · have HL := Lib.hid hl; clear hl
        go_wp2_with fail
        refine (iIsLosing_yes a ((b : Int) - k) (by omega) (by omega) (by omega) (by omega) _).mono ?_
        rw [HL.out]
        rintro e w1 ⟨rfl, b1⟩
        go_wp2_with fail
        go_ret3
        exact ⟨by rw [← HG.out, bmY, if_pos HL.out]; rfl, hbel.trans (b1.mono hbel.size)⟩
    · have hz : n = 0 := by omega
      subst hz
      have hg2 : bmX a b a 1 = bmY a b b 1 := by rw [← HG.out]; rfl
      have HG2 := Lib.hid hg2; clear hg2 HG
      go_wp2_with fail
      go_loopw [8] (fun x wr => ∃ k n : Nat, k + n = a + 1 ∧ 1 ≤ k ∧ x = .int .i64 k ∧ bmX a b n k = bmY a b b 1 ∧ Below w.heap.size w wr) (fun x _ => a + 1 - (intOf x).toNat)
      case atStart => exact ⟨1, a, by omega, by omega, rfl, HG2.out, hbel⟩
      case round =>
        clear HG2 hbel
        obtain ⟨j, n, hkn, hj, rfl, hg, hbel⟩ := hrel
        have HG := Lib.hid hg; clear hg
        have n3 : j + n ≤ a + 1 := by omega
        have n4 : a + 1 ≤ j + n := by omega
        clear hkn
        by_cases hlt2 : j ≤ a
        · obtain ⟨m, rfl⟩ : ∃ m, n = m + 1 := ⟨n - 1, by omega⟩
          cases hl : lostB ((a : Int) - j) b
          · have HL := Lib.hid hl; clear hl
            by_cases hjb : j ≤ b
            · cases hl2 : lostB ((a : Int) - j) ((b : Int) - j)
              · have HL2 := Lib.hid hl2; clear hl2
                go_wp2_with fail
                refine (iIsLosing_yes ((a : Int) - j) b (by omega) (by omega) (by omega) (by omega) _).mono ?_
                rw [HL.out]
                rintro e w1 ⟨rfl, b1⟩
                go_wp2_with fail
                refine (iIsLosing_yes ((a : Int) - j) ((b : Int) - j) (by omega) (by omega) (by omega) (by omega) _).mono ?_
                rw [HL2.out]
                rintro e w2 ⟨rfl, b2⟩
                have hs1 := b1.size
                go_wp2_with fail
                go_roundw
                case rel => exact ⟨j + 1, m, by omega, by omega, by go_num, by rw [← HG.out, bmX, if_neg (by rw [HL.out]; exact Bool.false_ne_true), if_neg (by rw [HL2.out]; simp)]; rfl, (hbel.trans (b1.mono hbel.size)).trans (b2.mono (by have := hbel.size; omega))⟩
                case measure => simp [intOf]; omega
              · have HL2 := Lib.hid hl2; clear hl2
                go_wp2_with fail
                refine (iIsLosing_yes ((a : Int) - j) b (by omega) (by omega) (by omega) (by omega) _).mono ?_
                rw [HL.out]
                rintro e w1 ⟨rfl, b1⟩
                go_wp2_with fail
                refine (iIsLosing_yes ((a : Int) - j) ((b : Int) - j) (by omega) (by omega) (by omega) (by omega) _).mono ?_
                rw [HL2.out]
                rintro e w2 ⟨rfl, b2⟩
                have hs1 := b1.size
                go_wp2_with fail
                go_ret3
                exact ⟨by rw [← HG.out, bmX, if_neg (by rw [HL.out]; exact Bool.false_ne_true), if_pos ⟨by omega, HL2.out⟩]; rfl, (hbel.trans (b1.mono hbel.size)).trans (b2.mono (by have := hbel.size; omega))⟩
            · go_wp2_with fail
              refine (iIsLosing_yes ((a : Int) - j) b (by omega) (by omega) (by omega) (by omega) _).mono ?_
              rw [HL.out]
              rintro e w1 ⟨rfl, b1⟩
              go_wp2_with fail
              go_roundw
              case rel => exact ⟨j + 1, m, by omega, by omega, by go_num, by rw [← HG.out, bmX, if_neg (by rw [HL.out]; exact Bool.false_ne_true), if_neg (fun h => hjb (by omega))]; rfl, hbel.trans (b1.mono hbel.size)⟩
              case measure => simp [intOf]; omega
          · have HL := Lib.hid hl; clear hl
            go_wp2_with fail
            refine (iIsLosing_yes ((a : Int) - j) b (by omega) (by omega) (by omega) (by omega) _).mono ?_
            rw [HL.out]
            rintro e w1 ⟨rfl, b1⟩
            go_wp2_with fail
            go_ret3
            exact ⟨by rw [← HG.out, bmX, if_pos HL.out]; rfl, hbel.trans (b1.mono hbel.size)⟩
        · have hz : n = 0 := by omega
          subst hz
          go_wp2_with fail
          go_ret3
          exact ⟨by rw [← HG.out]; rfl, hbel⟩
set_option maxHeartbeats 400000 in
theorem iBestMove_no (a b : Int) (h : ¬ ((0 ≤ a ∧ a ≤ 200) ∧ (0 ≤ b ∧ b ≤ 200))) (w : World) :
    Calls Tryd.prog 16 #[.int .i64 a, .int .i64 b] w fun e w' => e = .returned (mvV (0, 0, false)) ∧ Below w.heap.size w w' := by
  by_cases h1 : 0 ≤ a ∧ a ≤ 200
  · have h2 : ¬ (0 ≤ b ∧ b ≤ 200) := fun h2 => h ⟨h1, h2⟩
    have H1 := Lib.hid h1; have H2 := Lib.hid h2; clear h h1 h2
    go_enter Tryd.func16, Tryd.ntmps16
    go_wp2_with (first
      | (go_at_call 30; with_reducible refine (within_yes a _ _ H1.out _).mono ?_; rintro e w' ⟨rfl, rfl⟩)
      | (go_at_call 30; with_reducible refine (within_no b _ _ H2.out _).mono ?_; rintro e w' ⟨rfl, rfl⟩))
    go_ret3
    exact ⟨rfl, Below.refl _ _⟩
  · have H1 := Lib.hid h1; clear h h1
    go_enter Tryd.func16, Tryd.ntmps16
    go_wp2_with (go_at_call 30; refine (within_no a _ _ H1.out _).mono ?_; rintro e w' ⟨rfl, rfl⟩)
    go_ret3
    exact ⟨rfl, Below.refl _ _⟩
end Go.Proofs.YtkmkaaomkjhlgaaDoor
