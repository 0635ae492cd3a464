/- LongestRun, both, at words. No condition but the bounds. -/
import Derived.Test.YtbegecoocgkbiaaGreatDoorPow
namespace Go.Proofs.YtbegecoocgkbiaaGreatDoor
open Go.RowKit
set_option linter.unusedVariables false

/-- The longest run from place k on, when the run that ends there has r letters and the longest was m. -/
def lrN (s : ByteArray) : Nat → Nat → Nat → Nat → Nat
  | 0, _, _, m => m
  | n + 1, k, r, m => if 0 < k ∧ gl s 0 k = gl s 0 (k - 1) then lrN s n (k + 1) (r + 1) (max m (r + 1)) else lrN s n (k + 1) 1 (max m 1)
def lrV (s : ByteArray) : Nat := lrN s s.size 0 0 0
theorem lrN_le (s : ByteArray) : ∀ n k r m, r ≤ k → m ≤ k → lrN s n k r m ≤ k + n
  | 0, k, r, m, h1, h2 => by rw [lrN]; omega
  | n + 1, k, r, m, h1, h2 => by
    rw [lrN]
    by_cases h : 0 < k ∧ gl s 0 k = gl s 0 (k - 1)
    · rw [if_pos h]; have := lrN_le s n (k + 1) (r + 1) (max m (r + 1)) (by omega) (by omega); omega
    · rw [if_neg h]; have := lrN_le s n (k + 1) 1 (max m 1) (by omega) (by omega); omega
theorem lrV_le (s : ByteArray) : lrV s ≤ s.size := by have := lrN_le s s.size 0 0 0 (by omega) (by omega); unfold lrV; omega
set_option maxRecDepth 4000 in
set_option maxHeartbeats 1000000 in
theorem iLr_yes (s : ByteArray) (h0 : isW (L s) = true) (w : World) :
    Calls Tryz.prog 37 #[.string s] w fun e w' => e = .returned (.int .i64 (lrV s)) ∧ Dr w w' := by
  have h4 := isW_size h0
  have hs9 : s.size ≤ maxLen := by unfold maxLen; omega
  obtain ⟨v, hv⟩ : ∃ v, lrV s = v := ⟨_, rfl⟩
  rw [hv]
  have H0 := Lib.hid h0; have HV := Lib.hid hv
  clear h0 hv
  go_enter Tryz.func37, Tryz.ntmps37
  go_wp2_with (go_at_call 70; with_reducible refine (isWord_is s _ hs9 H0.out _).mono ?_; rintro e w' ⟨rfl, rfl⟩)
  go_loopw [3, 4, 5, 11] (fun a b _ i wr => ∃ k r m : Nat, k ≤ s.size ∧ r ≤ k ∧ m ≤ k ∧ a = .int .i64 m ∧ b = .int .i64 r ∧ i = .int .i64 k ∧ lrN s (s.size - k) k r m = v ∧ Dr w wr) (fun _ _ _ i _ => s.size + 1 - (intOf i).toNat)
  case atStart => exact ⟨0, 0, 0, by omega, by omega, by omega, rfl, rfl, rfl, HV.out, Dr.refl _⟩
  case round =>
    obtain ⟨k, r, m, hk, hr, hm, rfl, rfl, rfl, hg, hd⟩ := hrel
    have HG := Lib.hid hg
    clear hg
    by_cases hlt : k < s.size
    · have hlti : (k : Int) < (s.size : Int) := by omega
      obtain ⟨x, hx⟩ : ∃ x, s[k]'hlt = x := ⟨_, rfl⟩
      have hgx : gl s 0 k = x.toNat := by rw [gl0 hlt, hx]
      by_cases hk0 : k = 0
      · have hr0 : r = 0 := by omega
        have hm0 : m = 0 := by omega
        have hgu : decide (0 < k) = false := decide_eq_false (by omega)
        have hstep : lrN s (s.size - k) k r m = lrN s (s.size - (k + 1)) (k + 1) 1 1 := by
          rw [show s.size - k = (s.size - (k + 1)) + 1 by omega, lrN, if_neg (by omega), hm0]; rfl
        have HS := Lib.hid hstep
        have HK0 := Lib.hid hk0; have HR0 := Lib.hid hr0; have HM0 := Lib.hid hm0
        clear hstep hgx hk0 hr0 hm0
        go_wp2_with fail
        go_quiet (fail)
        go_wp2_with fail
        skip
        go_roundw
        case rel => exact ⟨k + 1, 1, 1, by omega, by omega, by omega, by have h1 := HR0.out; have h2 := HM0.out; subst h1; subst h2; go_num, by have h1 := HR0.out; subst h1; go_num, by go_num,by rw [← HS.out]; exact HG.out, hd.drewN _⟩
        case measure => (simp [intOf]; omega)
      · obtain ⟨q, hq⟩ : ∃ q, k = q + 1 := ⟨k - 1, by omega⟩
        have hqs : q < s.size := by omega
        obtain ⟨y, hy⟩ : ∃ y, s[q]'hqs = y := ⟨_, rfl⟩
        have hgy : gl s 0 (k - 1) = y.toNat := by rw [show k - 1 = q by omega, gl0 hqs, hy]
        have hgu : decide (0 < k) = true := decide_eq_true (by omega)
        have hk0i : (0 : Int) < (k : Int) := by omega
        have hq1 : (k : Int) - 1 = (q : Int) := by omega
        have hqi : (q : Int) < (s.size : Int) := by omega
        clear hq
        by_cases hc : x.toNat = y.toNat
        · have hne : ((x.toNat : Int) != (y.toNat : Int)) = false := by simp; omega
          have hne2 : ((x.toNat : Int) == (y.toNat : Int)) = true := by simp; omega
          have hstep : lrN s (s.size - k) k r m = lrN s (s.size - (k + 1)) (k + 1) (r + 1) (max m (r + 1)) := by
            rw [show s.size - k = (s.size - (k + 1)) + 1 by omega, lrN, if_pos ⟨by omega, by rw [hgx, hgy]; exact hc⟩]
          have HS := Lib.hid hstep
          clear hstep hgx hgy hc
          go_wp2_with fail
          go_quiet (fail)
          go_wp2_with fail
          skip
          go_roundw
          case rel => exact ⟨k + 1, r + 1, max m (r + 1), by omega, by omega, by omega, by go_num, by go_num, by go_num,by rw [← HS.out]; exact HG.out, hd.drewN _⟩
          case measure => (simp [intOf]; omega)
        · have hne : ((x.toNat : Int) != (y.toNat : Int)) = true := by simp; omega
          have hne2 : ((x.toNat : Int) == (y.toNat : Int)) = false := by simp; omega
          have hstep : lrN s (s.size - k) k r m = lrN s (s.size - (k + 1)) (k + 1) 1 (max m 1) := by
            rw [show s.size - k = (s.size - (k + 1)) + 1 by omega, lrN, if_neg (fun h => hc (by rw [← hgx, ← hgy]; exact h.2))]
          have HS := Lib.hid hstep
          clear hstep hgx hgy hc
          go_wp2_with fail
          go_quiet (fail)
          go_wp2_with fail
          skip
          go_roundw
          case rel => exact ⟨k + 1, 1, max m 1, by omega, by omega, by omega, by go_num, by go_num, by go_num,by rw [← HS.out]; exact HG.out, hd.drewN _⟩
          case measure => (simp [intOf]; omega)
    · have hke : k = s.size := by omega
      subst hke
      have hfin : m = v := by rw [← HG.out, Nat.sub_self]; rfl
      subst hfin
      go_wp2_with fail
      go_ret
      exact ⟨rfl, hd⟩
end Go.Proofs.YtbegecoocgkbiaaGreatDoor
