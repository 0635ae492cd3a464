/- Powers of three within a word; IsCubeFree of the program, where there is one. No condition but the bounds. -/
import Derived.Test.YtbegecoocgkbiaaGreatDoorPow
namespace Go.Proofs.YtbegecoocgkbiaaGreatDoor
open Go.RowKit
set_option linter.unusedVariables false

/-- At i a power of three, and more, with the period p. -/
def CubAt (s : ByteArray) (e p i : Nat) : Prop := i + (3 * p + e) ≤ s.size ∧ PerOn s i (3 * p + e) p
def Cub (s : ByteArray) (e : Nat) : Prop := ∃ p i, 1 ≤ p ∧ CubAt s e p i
set_option maxRecDepth 4000 in
set_option maxHeartbeats 1000000 in
theorem hasC_is (s : ByteArray) (e : Nat) (b : Bool) (h0 : isW (L s) = true) (he : e ≤ 1) (hb : b = true ↔ Cub s e) (w : World) :
    Calls Tryz.prog 71 #[.string s, .int .i64 3, .int .i64 e] w fun e w' => e = .returned (.bool b) ∧ Below w.heap.size w w' := by
  have h4 := isW_size h0
  have H0 := Lib.hid h0; have HB := Lib.hid hb
  clear h0 hb
  go_enter Tryz.func71, Tryz.ntmps71
  go_wp2_with fail
  go_loopw [7, 8] (fun u _ wr => ∃ p : Nat, 1 ≤ p ∧ p ≤ s.size + 1 ∧ u = .int .i64 p ∧ (∀ q i, 1 ≤ q → q < p → ¬ CubAt s e q i) ∧ Below w.heap.size w wr) (fun u _ _ => s.size + 2 - (intOf u).toNat)
  case atStart => exact ⟨1, by omega, by omega, rfl, fun q i h1 h2 => by omega, Below.refl _ _⟩
  case round =>
    obtain ⟨p, hp1, hp2, rfl, hg, hbel⟩ := hrel
    obtain ⟨wo, hwo⟩ : ∃ x, x = wr := ⟨wr, rfl⟩
    subst hwo
    have HG := Lib.hid hg; clear hg
    have hzr := hbel.size
    by_cases hlt : 3 * p + e ≤ s.size
    · have hlt2 : 3 * (p : Int) + (e : Int) ≤ (s.size : Int) := by omega
      go_wp2_with fail
      go_loopw [8] (fun _ w2 => ∃ k : Nat, k ≤ s.size ∧ w2.heap[wo.heap.size]? = some (.stringIter s k) ∧ (∀ i, i < k → ¬ CubAt s e p i) ∧ Below w.heap.size w w2) (fun _ w2 => s.size + 1 - w2.iterPos wo.heap.size)
      case atStart => exact ⟨0, by omega, World.iter_heap wo s 0, fun i h => by omega, hbel.alloc hzr _⟩
      case round =>
        obtain ⟨k, hk, hit, hg, hbel3⟩ := hrel
        have HG3 := Lib.hid hg; have HIT := Lib.hid hit
        clear hg
        by_cases hks : k < s.size
        · have hnx0 := fun ty => Lib.run_next_ascii_at (P := Tryz.prog) wr wo.heap.size s k ty hit hks (isW_ascii H0.out k hks)
          have hiti := Lib.iterAt_heap wr wo.heap.size s k (k + 1) hit
          have hbi := Lib.below_iterAt hbel3 (k := wo.heap.size) (by omega) s (k + 1)
          obtain ⟨wi, hwi⟩ : ∃ wi, wr.iterAt wo.heap.size s (k + 1) = wi := ⟨_, rfl⟩
          rw [hwi] at hiti hbi
          simp only [hwi] at hnx0
          obtain ⟨c, hc⟩ : ∃ c : Bool, c = true ↔ CubAt s e p k := by classical exact ⟨decide (CubAt s e p k), by simp⟩
          have hcp := fun w => isPow_is s k (3 * p + e) p c h4 (by omega) (by omega) (by omega) hc w
          rw [show ((3 * p + e : Nat) : Int) = 3 * (p : Int) + (e : Int) from by omega] at hcp
          have HCP := Lib.hid hcp; have HC := Lib.hid hc; have HITI := Lib.hid hiti
          clear hcp hc hiti hwi hit
          cases c
          · go_wp2_with fail
            refine (HCP.out _).mono ?_
            rintro e w4 ⟨rfl, d4⟩
            go_wp2_with fail
            go_roundw
            case rel => exact ⟨k + 1, by omega, by obtain ⟨n, rfl⟩ := d4; exact HITI.out, fun i hi => by
              rcases Nat.lt_or_ge i k with h | h
              · exact HG3.out i h
              · obtain rfl : i = k := by omega
                exact fun h2 => absurd (HC.out.2 h2) (by decide), hbi.trans d4.below⟩
            case measure => obtain ⟨n, rfl⟩ := d4; simp only [World.iterPos, HIT.out, show (wi.drewN n).heap = wi.heap from rfl, HITI.out]; omega
          · go_wp2_with fail
            refine (HCP.out _).mono ?_
            rintro e w4 ⟨rfl, d4⟩
            go_wp2_with fail
            go_ret
            exact ⟨ret_bool (by cases b with | true => rfl | false => exact absurd (HB.out.2 ⟨p, k, hp1, HC.out.1 (by trivial)⟩) (by decide)), hbi.trans d4.below⟩
        · have hke : k = s.size := by omega
          subst hke
          have hnx0 := fun ty => Lib.run_next_end_at (P := Tryz.prog) wr wo.heap.size s s.size ty hit (by omega)
          clear hit
          go_wp2_with fail
          go_roundw
          case rel => exact ⟨p + 1, by omega, by omega, by go_num, fun q i h1 h2 => by
            rcases Nat.lt_or_ge q p with h | h
            · exact HG.out q i h1 h
            · obtain rfl : q = p := by omega
              rintro ⟨h3, h5⟩
              exact HG3.out i (by omega) ⟨h3, h5⟩, hbel3⟩
          case measure => simp [intOf]; omega
    · have hge : ¬ 3 * (p : Int) + (e : Int) ≤ (s.size : Int) := by omega
      go_wp2_with fail
      go_ret
      exact ⟨ret_bool (by cases b with
        | false => rfl
        | true =>
          obtain ⟨q, i, h1, h2⟩ := HB.out.1 rfl
          exact absurd h2 (HG.out q i h1 (by have := h2.1; omega))), hbel⟩
theorem cubeFree_no (s : ByteArray) (h0 : isW (L s) = true) (hc : Cub s 0) (w : World) :
    Calls Tryz.prog 13 #[.string s] w fun e w' => e = .returned (.bool false) ∧ Below w.heap.size w w' := by
  have h4 := isW_size h0
  have hs9 : s.size ≤ maxLen := by unfold maxLen; omega
  have hcp := fun w => hasC_is s 0 true h0 (by decide) ⟨fun _ => hc, fun _ => rfl⟩ w
  have H0 := Lib.hid h0; have HCP := Lib.hid hcp
  clear h0 hcp hc
  go_enter Tryz.func13, Tryz.ntmps13
  go_wp2_with (go_at_call 70; with_reducible refine (isWord_is s _ hs9 H0.out _).mono ?_; rintro e w' ⟨rfl, rfl⟩)
  refine (HCP.out _).mono ?_
  rintro e w1 ⟨rfl, b1⟩
  go_wp2_with fail
  go_ret
  exact ⟨rfl, b1⟩
end Go.Proofs.YtbegecoocgkbiaaGreatDoor
