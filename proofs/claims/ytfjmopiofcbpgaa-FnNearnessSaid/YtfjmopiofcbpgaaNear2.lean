/- BestShift, both. -/
import Derived.Test.YtfjmopiofcbpgaaNear
namespace Go.Proofs.Ytfjmopiofcbpgaa
open Go.RowKit
set_option linter.unusedVariables false

theorem agr_bd (s : ByteArray) (k : Nat) (hk : k ≤ s.size) : 0 ≤ agr (L s) k ∧ agr (L s) k ≤ (s.size : Int) - k := by
  have h := mism_le ((L s).drop k) ((L s).take ((L s).length - k))
  rw [List.length_drop, L_len] at h
  simp only [agr, L_len]
  omega
/-- BestShift's loop: n rounds to come, from k, the best so far being b (0: none). -/
def bestGo (l : List UInt8) : Nat → Nat → Nat → Nat
  | 0, _, b => b
  | n + 1, k, b => if b = 0 ∨ agr l b * ((l.length : Int) - k) < agr l k * ((l.length : Int) - b) then bestGo l n (k + 1) k else bestGo l n (k + 1) b
theorem pr_bd {a b : Int} (h1 : 0 ≤ a) (h2 : a ≤ 100) (h3 : 0 ≤ b) (h4 : b ≤ 100) : 0 ≤ a * b ∧ a * b ≤ 10000 :=
  ⟨Int.mul_nonneg h1 h3, by have := Int.mul_le_mul h2 h4 h3 (by omega); omega⟩

set_option maxHeartbeats 400000 in
theorem iBestShift_yes (s : ByteArray) (hs : s.size ≤ maxLen) (h1 : isW (L s) = true) (h2 : s.size ≤ 100) (w : World) :
    Calls Try.prog 28 #[.string s] w fun e w' => e = .returned (.int .i64 (bestGo (L s) (s.size / 2) 1 0)) ∧ Dr w w' := by
  have H1 := Lib.hid h1; clear h1
  have hd0 : decide (100 < (s.size : Int)) = false := by simp; omega
  go_enter Try.func28, Try.ntmps28
  go_wp2_with (go_at_call 46; refine (isWord_is s _ hs H1.out _).mono ?_; rintro e w' ⟨rfl, rfl⟩)
  go_loopw [3, 4, 5, 6, 7] (fun b a u i _ wr => ∃ k kb n : Nat, ∃ ka ku : Int, 1 ≤ k ∧ k + n = s.size / 2 + 1 ∧ b = .int .i64 kb ∧ a = .int .i64 ka ∧ u = .int .i64 ku ∧ i = .int .i64 k ∧ (kb = 0 ∧ ka = -1 ∧ ku = 1 ∨ 1 ≤ kb ∧ kb < k ∧ ka = agr (L s) kb ∧ ku = (s.size : Int) - kb) ∧ bestGo (L s) n k kb = bestGo (L s) (s.size / 2) 1 0 ∧ Dr w wr) (fun _ _ _ i _ _ => s.size + 1 - (intOf i).toNat)
  case atStart => exact ⟨1, 0, _, -1, 1, by omega, by omega, rfl, rfl, rfl, rfl, .inl ⟨rfl, rfl, rfl⟩, rfl, Dr.refl _⟩
  case round =>
    obtain ⟨k, kb, n, ka, ku, hk, hn, rfl, rfl, rfl, rfl, hor, hg, hd⟩ := hrel
    have HG := Lib.hid hg; clear hg
    have hn2 : k + n ≤ s.size / 2 + 1 := by omega
    have hn3 : s.size / 2 + 1 ≤ k + n := by omega
    clear hn
    by_cases hlt : k ≤ s.size / 2
    · obtain ⟨m, rfl⟩ : ∃ m, n = m + 1 := ⟨n - 1, by omega⟩
      have hks : k ≤ s.size := by omega
      have hx := agr_bd s k hks
      obtain ⟨hx1, hx2⟩ := hx
      have hlt2 : (k : Int) ≤ (s.size : Int) / 2 := by omega
      rcases hor with ⟨rfl, rfl, rfl⟩ | ⟨hb1, hb2, rfl, rfl⟩
      · go_wp2_with (go_at_call 26; refine (iAgreementAt_yes s k hs H1.out hks _).mono ?_; rintro e w' ⟨rfl, hd1⟩)
        go_roundw
        case rel => exact ⟨k + 1, k, m, _, _, by omega, by omega, rfl, rfl, rfl, by go_num, .inr ⟨by omega, by omega, rfl, rfl⟩, by rw [← HG.out, bestGo, if_pos (.inl rfl)], hd.trans hd1⟩
        case measure => simp [intOf]; omega
      · have hy := agr_bd s kb (by omega)
        obtain ⟨hy1, hy2⟩ := hy
        have p1 := pr_bd (a := agr (L s) k) (b := (s.size : Int) - kb) hx1 (by omega) (by omega) (by omega)
        have p2 := pr_bd (a := agr (L s) kb) (b := (s.size : Int) - k) hy1 (by omega) (by omega) (by omega)
        obtain ⟨p3, p4⟩ := p1
        obtain ⟨p5, p6⟩ := p2
        by_cases hc : agr (L s) kb * ((s.size : Int) - k) < agr (L s) k * ((s.size : Int) - kb)
        · have HC := Lib.hid hc
          go_wp2_with (go_at_call 26; refine (iAgreementAt_yes s k hs H1.out hks _).mono ?_; rintro e w' ⟨rfl, hd1⟩)
          go_roundw
          case rel => exact ⟨k + 1, k, m, _, _, by omega, by omega, rfl, rfl, rfl, by go_num, .inr ⟨by omega, by omega, rfl, rfl⟩, by rw [← HG.out, bestGo, L_len, if_pos (.inr HC.out)], hd.trans hd1⟩
          case measure => simp [intOf]; omega
        · have HC := Lib.hid hc
          have hb0 : ¬ kb = 0 := by omega
          have HB := Lib.hid hb0; clear hb0
          go_wp2_with (go_at_call 26; refine (iAgreementAt_yes s k hs H1.out hks _).mono ?_; rintro e w' ⟨rfl, hd1⟩)
          go_roundw
          case rel => exact ⟨k + 1, kb, m, _, _, by omega, by omega, rfl, rfl, rfl, by go_num, .inr ⟨by omega, by omega, rfl, rfl⟩, by rw [← HG.out, bestGo, L_len, if_neg (fun h => h.elim (fun h4 => by have h3 := HB.out; omega) (fun h4 => by have h3 := HC.out; omega))], hd.trans hd1⟩
          case measure => simp [intOf]; omega
    · have hz : n = 0 := by omega
      subst hz
      have hlt2 : (s.size : Int) / 2 < (k : Int) := by omega
      clear hor
      go_wp2_with fail
      go_ret
      exact ⟨ret_int (by rw [← HG.out]; rfl), hd⟩
set_option maxHeartbeats 400000 in
theorem iBestShift_no (s : ByteArray) (hs : s.size ≤ maxLen) (h : ¬ (isW (L s) = true ∧ s.size ≤ 100)) (w : World) :
    Calls Try.prog 28 #[.string s] w fun e w' => e = .returned (.int .i64 0) ∧ Dr w w' := by
  cases h1 : isW (L s)
  · have H1 := Lib.hid h1; clear h1 h
    go_enter Try.func28, Try.ntmps28
    go_wp2_with (go_at_call 46; refine (isWord_is s _ hs H1.out _).mono ?_; rintro e w' ⟨rfl, rfl⟩)
    go_ret
    exact ⟨rfl, Dr.refl _⟩
  · have h2 : 100 < s.size := Nat.lt_of_not_le fun h2 => h ⟨h1, h2⟩
    have H1 := Lib.hid h1; clear h1 h
    go_enter Try.func28, Try.ntmps28
    go_wp2_with (go_at_call 46; refine (isWord_is s _ hs H1.out _).mono ?_; rintro e w' ⟨rfl, rfl⟩)
    go_ret
    exact ⟨rfl, Dr.refl _⟩
end Go.Proofs.Ytfjmopiofcbpgaa
