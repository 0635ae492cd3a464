/- Powers and periods within a word, both. No condition but the bounds. -/
import Derived.Test.YtfjmopiofcbpgaaLyp
import Derived.Test.YtfjmopiofcbpgaaByt
import Derived.BigQuiet
namespace Go.Proofs.Ytfjmopiofcbpgaa
open Go.RowKit
set_option linter.unusedVariables false

/-- From a on, along n letters, each letter comes again p places on. -/
def PerOn (s : ByteArray) (a n p : Nat) : Prop := ∀ k, a ≤ k → k + p < a + n → gl s 0 k = gl s 0 (k + p)
theorem gl0 {s : ByteArray} {k : Nat} (h : k < s.size) : gl s 0 k = (s[k]'h).toNat := by
  rw [gl_at (i := 0) (by omega)]; simp
set_option maxRecDepth 4000 in
set_option maxHeartbeats 1000000 in
theorem isPow_is (s : ByteArray) (a n p : Nat) (b : Bool) (hs : s.size ≤ 400) (ha : a ≤ 1000) (hn : n ≤ 1000) (hp : p ≤ 1000) (hb : b = true ↔ (a + n ≤ s.size ∧ PerOn s a n p)) (w : World) :
    Calls Try.prog 58 #[.string s, .int .i64 a, .int .i64 n, .int .i64 p] w fun e w' => e = .returned (.bool b) ∧ Dr w w' := by
  have HB := Lib.hid hb
  clear hb
  by_cases hbig : s.size < a + n
  · have hbig2 : (s.size : Int) < (a : Int) + (n : Int) := by omega
    go_enter Try.func58, Try.ntmps58
    go_wp2_with fail
    go_ret
    exact ⟨ret_bool (by cases b with | false => rfl | true => have := (HB.out.1 rfl).1; omega), Dr.refl _⟩
  · have hle : ¬ (s.size : Int) < (a : Int) + (n : Int) := by omega
    go_enter Try.func58, Try.ntmps58
    go_wp2_with fail
    go_loopw [9] (fun i wr => ∃ k : Nat, a ≤ k ∧ k ≤ a + n ∧ i = .int .i64 k ∧ (∀ j, a ≤ j → j < k → gl s 0 j = gl s 0 (j + p)) ∧ Dr w wr) (fun i _ => a + n - (intOf i).toNat)
    case atStart => exact ⟨a, by omega, by omega, rfl, fun j h1 h2 => by omega, Dr.refl _⟩
    case round =>
      obtain ⟨k, hk1, hk2, rfl, hg, hd⟩ := hrel
      have HG := Lib.hid hg; clear hg
      by_cases hlt : k + p < a + n
      · have hlt2 : (k : Int) + (p : Int) < (a : Int) + (n : Int) := by omega
        have hks : k < s.size := by omega
        obtain ⟨q, hq⟩ : ∃ q : Nat, k + p = q := ⟨_, rfl⟩
        have hqs : q < s.size := by omega
        have hq2 : (k : Int) + (p : Int) = (q : Int) := by omega
        have hki : (k : Int) < (s.size : Int) := by omega
        have hqi : (q : Int) < (s.size : Int) := by omega
        obtain ⟨x, hx⟩ : ∃ x, s[k]'hks = x := ⟨_, rfl⟩
        obtain ⟨y, hy⟩ : ∃ y, s[q]'hqs = y := ⟨_, rfl⟩
        have hgx : gl s 0 k = x.toNat := by rw [gl0 hks, hx]
        have hgy : gl s 0 (k + p) = y.toNat := by rw [hq, gl0 hqs, hy]
        have HX := Lib.hid hgx; have HY := Lib.hid hgy
        clear hgx hgy hq
        by_cases hc : x.toNat = y.toNat
        · have hne : ((x.toNat : Int) != (y.toNat : Int)) = false := by simp; omega
          have HC := Lib.hid hc
          clear hc
          go_wp2_with fail
          go_quiet (fail)
          go_wp2_with fail
          go_roundw
          case rel => exact ⟨k + 1, by omega, by omega, by go_num, fun j h1 h2 => by
            rcases Nat.lt_or_ge j k with h | h
            · exact HG.out j h1 h
            · obtain rfl : j = k := by omega
              rw [HX.out, HY.out]; exact HC.out, hd.drewN _⟩
          case measure => simp [intOf]; omega
        · have hne : ((x.toNat : Int) != (y.toNat : Int)) = true := by simp; omega
          have HC := Lib.hid hc
          clear hc
          go_wp2_with fail
          go_quiet (fail)
          go_wp2_with fail
          go_ret
          exact ⟨ret_bool (by cases b with | false => rfl | true => exact absurd ((HB.out.1 rfl).2 k hk1 hlt) (by rw [HX.out, HY.out]; exact HC.out)), hd.drewN _⟩
      · have hge : ¬ (k : Int) + (p : Int) < (a : Int) + (n : Int) := by omega
        go_wp2_with fail
        go_ret
        exact ⟨ret_bool (by cases b with | true => rfl | false => exact absurd (HB.out.2 ⟨by omega, fun j h1 h2 => HG.out j h1 (by omega)⟩) (by decide)), hd⟩
theorem isW_ascii {s : ByteArray} (h : isW (L s) = true) (k : Nat) (hk : k < s.size) : (s[k]'hk).toNat < 128 := by
  unfold isW at h
  simp only [Bool.and_eq_true, List.all_eq_true] at h
  have hm : (L s)[k]? = some (s[k]'hk) := by rw [List.getElem?_eq_getElem (by rw [L_len]; exact hk)]; rfl
  have := h.1 _ (List.mem_of_getElem? hm)
  unfold okc at this
  have h2 := of_decide_eq_true this
  omega
/-- At i a power of two, and more, with the period p. -/
def PowAt (s : ByteArray) (e p i : Nat) : Prop := i + (2 * p + e) ≤ s.size ∧ PerOn s i (2 * p + e) p
def Pow (s : ByteArray) (e : Nat) : Prop := ∃ p i, 1 ≤ p ∧ PowAt s e p i
end Go.Proofs.Ytfjmopiofcbpgaa
