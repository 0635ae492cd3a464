/- Powers and periods within a word, both. No condition but the bounds. -/
import Derived.Test.YtbegecoocgkbiaaGreatDoorM7
import Derived.Test.YtbegecoocgkbiaaGreatDoorM1
import Derived.BigQuiet
namespace Go.Proofs.YtbegecoocgkbiaaGreatDoor
open Go.RowKit
set_option linter.unusedVariables false

/-- From a on, along n letters, each letter comes again p places on. -/
def PerOn (s : ByteArray) (a n p : Nat) : Prop := ∀ k, a ≤ k → k + p < a + n → gl s 0 k = gl s 0 (k + p)
theorem gl0 {s : ByteArray} {k : Nat} (h : k < s.size) : gl s 0 k = (s[k]'h).toNat := by
  rw [gl_at (i := 0) (by omega)]; simp
set_option maxRecDepth 4000 in
set_option maxHeartbeats 1000000 in
theorem isPow_is (s : ByteArray) (a n p : Nat) (b : Bool) (hs : s.size ≤ 400) (ha : a ≤ 1000) (hn : n ≤ 1000) (hp : p ≤ 1000) (hb : b = true ↔ (a + n ≤ s.size ∧ PerOn s a n p)) (w : World) :
    Calls Tryz.prog 119 #[.string s, .int .i64 a, .int .i64 n, .int .i64 p] w fun e w' => e = .returned (.bool b) ∧ Dr w w' := by
  have HB := Lib.hid hb
  clear hb
  by_cases hbig : s.size < a + n
  · have hbig2 : (s.size : Int) < (a : Int) + (n : Int) := by omega
    go_enter Tryz.func119, Tryz.ntmps119
    go_wp2_with fail
    go_ret
    exact ⟨ret_bool (by cases b with | false => rfl | true => have := (HB.out.1 rfl).1; omega), Dr.refl _⟩
  · have hle : ¬ (s.size : Int) < (a : Int) + (n : Int) := by omega
    go_enter Tryz.func119, Tryz.ntmps119
    go_wp2_with fail
    go_loopw [9] (fun i wr => ∃ k : Nat, a ≤ k ∧ k ≤ a + n ∧ i = .int .i64 k ∧ (∀ j, a ≤ j → j < k → gl s 0 j = gl s 0 (j + p)) ∧ Dr w wr) (fun i _ => a + n - (intOf i).toNat)
    case atStart => exact ⟨a, by omega, by omega, rfl, fun j h1 h2 => by omega, Dr.refl _⟩
    case round =>
      obtain ⟨k, hk1, hk2, rfl, hg, hd⟩ := hrel
      have HG := Lib.hid hg; clear hg
      by_cases hlt : k + p < a + n
      · have hlt2 : (k : Int) + (p : Int) < (a : Int) + (n : Int) := by omega
        have hks : k < s.size := by omega
        obtain ⟨q, hq⟩ : ∃ q : Nat, k + p = q := ⟨_, rfl⟩
        have hqs : q < s.size := by omega
        have hq2 : (k : Int) + (p : Int) = (q : Int) := by omega
        have hki : (k : Int) < (s.size : Int) := by omega
        have hqi : (q : Int) < (s.size : Int) := by omega
        obtain ⟨x, hx⟩ : ∃ x, s[k]'hks = x := ⟨_, rfl⟩
        obtain ⟨y, hy⟩ : ∃ y, s[q]'hqs = y := ⟨_, rfl⟩
        have hgx : gl s 0 k = x.toNat := by rw [gl0 hks, hx]
        have hgy : gl s 0 (k + p) = y.toNat := by rw [hq, gl0 hqs, hy]
        have HX := Lib.hid hgx; have HY := Lib.hid hgy
        clear hgx hgy hq
        by_cases hc : x.toNat = y.toNat
        · have hne : ((x.toNat : Int) != (y.toNat : Int)) = false := by simp; omega
          have HC := Lib.hid hc
          clear hc
          go_wp2_with fail
          go_quiet (fail)
          go_wp2_with fail
          go_roundw
          case rel => exact ⟨k + 1, by omega, by omega, by go_num, fun j h1 h2 => by
            rcases Nat.lt_or_ge j k with h | h
            · exact HG.out j h1 h
            · obtain rfl : j = k := by omega
              rw [HX.out, HY.out]; exact HC.out, hd.drewN _⟩
          case measure => simp [intOf]; omega
        · have hne : ((x.toNat : Int) != (y.toNat : Int)) = true := by simp; omega
          have HC := Lib.hid hc
          clear hc
          go_wp2_with fail
          go_quiet (fail)
          go_wp2_with fail
          go_ret
          exact ⟨ret_bool (by cases b with | false => rfl | true => exact absurd ((HB.out.1 rfl).2 k hk1 hlt) (by rw [HX.out, HY.out]; exact HC.out)), hd.drewN _⟩
      · have hge : ¬ (k : Int) + (p : Int) < (a : Int) + (n : Int) := by omega
        go_wp2_with fail
        go_ret
        exact ⟨ret_bool (by cases b with | true => rfl | false => exact absurd (HB.out.2 ⟨by omega, fun j h1 h2 => HG.out j h1 (by omega)⟩) (by decide)), hd⟩
theorem isW_ascii {s : ByteArray} (h : isW (L s) = true) (k : Nat) (hk : k < s.size) : (s[k]'hk).toNat < 128 := by
  unfold isW at h
  simp only [Bool.and_eq_true, List.all_eq_true] at h
  have hm : (L s)[k]? = some (s[k]'hk) := by rw [List.getElem?_eq_getElem (by rw [L_len]; exact hk)]; rfl
  have := h.1 _ (List.mem_of_getElem? hm)
  unfold okc at this
  have h2 := of_decide_eq_true this
  omega
/-- At i a power of two, and more, with the period p. -/
def PowAt (s : ByteArray) (e p i : Nat) : Prop := i + (2 * p + e) ≤ s.size ∧ PerOn s i (2 * p + e) p
def Pow (s : ByteArray) (e : Nat) : Prop := ∃ p i, 1 ≤ p ∧ PowAt s e p i
set_option maxRecDepth 4000 in
set_option maxHeartbeats 1000000 in
theorem hasP_is (s : ByteArray) (e : Nat) (b : Bool) (h0 : isW (L s) = true) (he : e ≤ 1) (hb : b = true ↔ Pow s e) (w : World) :
    Calls Tryz.prog 71 #[.string s, .int .i64 2, .int .i64 e] w fun e w' => e = .returned (.bool b) ∧ Below w.heap.size w w' := by
  have h4 := isW_size h0
  have H0 := Lib.hid h0; have HB := Lib.hid hb
  clear h0 hb
  go_enter Tryz.func71, Tryz.ntmps71
  go_wp2_with fail
  go_loopw [7, 8] (fun u _ wr => ∃ p : Nat, 1 ≤ p ∧ p ≤ s.size + 1 ∧ u = .int .i64 p ∧ (∀ q i, 1 ≤ q → q < p → ¬ PowAt s e q i) ∧ Below w.heap.size w wr) (fun u _ _ => s.size + 2 - (intOf u).toNat)
  case atStart => exact ⟨1, by omega, by omega, rfl, fun q i h1 h2 => by omega, Below.refl _ _⟩
  case round =>
    obtain ⟨p, hp1, hp2, rfl, hg, hbel⟩ := hrel
    obtain ⟨wo, hwo⟩ : ∃ x, x = wr := ⟨wr, rfl⟩
    subst hwo
    have HG := Lib.hid hg; clear hg
    have hzr := hbel.size
    by_cases hlt : 2 * p + e ≤ s.size
    · have hlt2 : 2 * (p : Int) + (e : Int) ≤ (s.size : Int) := by omega
      go_wp2_with fail
      go_loopw [8] (fun _ w2 => ∃ k : Nat, k ≤ s.size ∧ w2.heap[wo.heap.size]? = some (.stringIter s k) ∧ (∀ i, i < k → ¬ PowAt s e p i) ∧ Below w.heap.size w w2) (fun _ w2 => s.size + 1 - w2.iterPos wo.heap.size)
      case atStart => exact ⟨0, by omega, World.iter_heap wo s 0, fun i h => by omega, hbel.alloc hzr _⟩
      case round =>
        obtain ⟨k, hk, hit, hg, hbel3⟩ := hrel
        have HG3 := Lib.hid hg; have HIT := Lib.hid hit
        clear hg
        by_cases hks : k < s.size
        · have hnx0 := fun ty => Lib.run_next_ascii_at (P := Tryz.prog) wr wo.heap.size s k ty hit hks (isW_ascii H0.out k hks)
          have hiti := Lib.iterAt_heap wr wo.heap.size s k (k + 1) hit
          have hbi := Lib.below_iterAt hbel3 (k := wo.heap.size) (by omega) s (k + 1)
          obtain ⟨wi, hwi⟩ : ∃ wi, wr.iterAt wo.heap.size s (k + 1) = wi := ⟨_, rfl⟩
          rw [hwi] at hiti hbi
          simp only [hwi] at hnx0
          obtain ⟨c, hc⟩ : ∃ c : Bool, c = true ↔ PowAt s e p k := by classical exact ⟨decide (PowAt s e p k), by simp⟩
          have hcp := fun w => isPow_is s k (2 * p + e) p c h4 (by omega) (by omega) (by omega) hc w
          rw [show ((2 * p + e : Nat) : Int) = 2 * (p : Int) + (e : Int) from by omega] at hcp
          have HCP := Lib.hid hcp; have HC := Lib.hid hc; have HITI := Lib.hid hiti
          clear hcp hc hiti hwi hit
          cases c
          · go_wp2_with fail
            refine (HCP.out _).mono ?_
            rintro e w4 ⟨rfl, d4⟩
            go_wp2_with fail
            go_roundw
            case rel => exact ⟨k + 1, by omega, by obtain ⟨n, rfl⟩ := d4; exact HITI.out, fun i hi => by
              rcases Nat.lt_or_ge i k with h | h
              · exact HG3.out i h
              · obtain rfl : i = k := by omega
                exact fun h2 => absurd (HC.out.2 h2) (by decide), hbi.trans d4.below⟩
            case measure => obtain ⟨n, rfl⟩ := d4; simp only [World.iterPos, HIT.out, show (wi.drewN n).heap = wi.heap from rfl, HITI.out]; omega
          · go_wp2_with fail
            refine (HCP.out _).mono ?_
            rintro e w4 ⟨rfl, d4⟩
            go_wp2_with fail
            go_ret
            exact ⟨ret_bool (by cases b with | true => rfl | false => exact absurd (HB.out.2 ⟨p, k, hp1, HC.out.1 (by trivial)⟩) (by decide)), hbi.trans d4.below⟩
        · have hke : k = s.size := by omega
          subst hke
          have hnx0 := fun ty => Lib.run_next_end_at (P := Tryz.prog) wr wo.heap.size s s.size ty hit (by omega)
          clear hit
          go_wp2_with fail
          go_roundw
          case rel => exact ⟨p + 1, by omega, by omega, by go_num, fun q i h1 h2 => by
            rcases Nat.lt_or_ge q p with h | h
            · exact HG.out q i h1 h
            · obtain rfl : q = p := by omega
              rintro ⟨h3, h5⟩
              exact HG3.out i (by omega) ⟨h3, h5⟩, hbel3⟩
          case measure => simp [intOf]; omega
    · have hge : ¬ 2 * (p : Int) + (e : Int) ≤ (s.size : Int) := by omega
      go_wp2_with fail
      go_ret
      exact ⟨ret_bool (by cases b with
        | false => rfl
        | true =>
          obtain ⟨q, i, h1, h2⟩ := HB.out.1 rfl
          exact absurd h2 (HG.out q i h1 (by have := h2.1; omega))), hbel⟩
end Go.Proofs.YtbegecoocgkbiaaGreatDoor
