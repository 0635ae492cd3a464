/- MakeSize over a wide span: at most 99 above its least. No condition but the bounds. -/
import Derived.Test.YtfjmopiofcbpgaaDrw
namespace Go.Proofs.Ytfjmopiofcbpgaa
open Go.RowKit
set_option linter.unusedVariables false

set_option maxHeartbeats 1000000 in
theorem makeSize_big (A : Option Addr) (n c B m lo hi : Nat) (l : List UInt8) (w : World) (hm : m ≤ 100000) (hhi : lo + 100 ≤ hi) (hi2 : hi ≤ 200000) (hlo2 : lo ≤ 100000) (hl : l.length = n) (hn : n ≤ 1048576) (hrd : Rds w B A (byV l)) (hB : B ≤ w.heap.size) :
    Calls Try.prog 10 #[.slice A n c, .int .i64 m, .int .i64 lo, .int .i64 hi] w fun e w' => ∃ x : Nat, lo ≤ x ∧ x ≤ lo + 99 ∧ e = .returned (.int .i64 x) ∧ Below w.heap.size w w' := by
  have hnw := l31New_any A n c B m l w hm hl hn hrd hB
  have hbl := fun q h0 hm' w' hc r => l01Below_any w.heap.size B A n c q l w' h0 hm' hl hn hc r hB
  have HN := Lib.hid hnw; have HBL := Lib.hid hbl; have HR := Lib.hid hrd
  clear hnw hbl hl hrd
  go_enter Try.func10, Try.ntmps10
  go_wp2_with fail
  go_loop [9, 10] (fun s i => ∃ j : Nat, j ≤ 99 ∧ i = .int .i64 ((lo : Int) + j) ∧ s = .int .i64 (1 + (j : Int))) (fun s _ => 200 - (intOf s).toNat)
  case atStart => exact ⟨0, by omega, by go_num, rfl⟩
  case round =>
    obtain ⟨j, hj, rfl, rfl⟩ := hrel
    by_cases hlt : j < 99
    · have h1 : (lo : Int) + (j : Int) < (hi : Int) := by omega
      have h2 : 1 + (j : Int) < 100 := by omega
      go_wp2_with fail
      go_round
      case rel => exact ⟨j + 1, by omega, by go_num, by go_num⟩
      case measure => simp [intOf]; omega
    · have hj2 : j = 99 := by omega
      subst hj2
      have h1 : (lo : Int) + ((99 : Nat) : Int) < (hi : Int) := by omega
      have hb := fun w' hc r => HBL.out 100 (by omega) (by omega) w' hc r
      have HB := Lib.hid hb
      clear hb hlt hj
      go_wp2_with (first
        | (go_at_call 49; refine HN.out.mono ?_; rintro e w1 ⟨rfl, c1, b1⟩)
        | (go_at_call 48; refine (HB.out _ c1 (HR.out.below b1 hB)).mono ?_; rintro e w2 ⟨x, hx, rfl, c2, b2, _⟩))
      have hw2 := b1.trans b2
      clear b1 b2 c1 c2
      go_loop [11, 12] (fun o k => ∃ j : Nat, j ≤ x ∧ o = .int .i64 ((lo : Int) + j) ∧ k = .int .i64 ((x : Int) - j)) (fun _ k => (intOf k).toNat)
      case atStart => exact ⟨0, by omega, by go_num, by go_num⟩
      case round =>
        obtain ⟨t, ht, rfl, rfl⟩ := hrel
        by_cases hlt2 : t < x
        · have h3 : 0 < (x : Int) - (t : Int) := by omega
          go_wp2_with fail
          go_round
          case rel => exact ⟨t + 1, by omega, by go_num, by go_num⟩
          case measure => simp [intOf]; omega
        · have htx : t = x := by omega
          subst htx
          go_wp2_with fail
          go_ret
          exact ⟨lo + t, by omega, by omega, by go_num, hw2⟩
end Go.Proofs.Ytfjmopiofcbpgaa
