/- CountSmooth, both. No condition. -/
import Derived.Test.YtfjmopiofcbpgaaSmj
namespace Go.Proofs.Ytfjmopiofcbpgaa
open Go.RowKit
set_option linter.unusedVariables false

/-- Letter i of word number k. -/
def bitC (k i : Nat) : UInt8 := UInt8.ofNat (wrap64 (97 + bits BinOp.and IntKind.i64 ((k : Int) / 2 ^ i) 1) % 256).toNat
theorem bitC_val (k i : Nat) : wrap64 (97 + bits BinOp.and IntKind.i64 ((k : Int) / 2 ^ i) 1) % 256 = ((bitC k i).toNat : Int) := by
  unfold bitC
  rw [UInt8.toNat_ofNat']
  omega
def bitW (k n : Nat) : List UInt8 := (List.range n).map (bitC k)
theorem bitW_succ (k n : Nat) : bitW k (n + 1) = bitW k n ++ [bitC k n] := by simp [bitW, List.range_succ]
theorem bitW_length (k n : Nat) : (bitW k n).length = n := by simp [bitW]
/-- How many of the first m words of n letters are smooth. -/
def cntS (n : Nat) : Nat → Nat
  | 0 => 0
  | m + 1 => cntS n m + (if smoothS (strOf (bitW m n)) = true then 1 else 0)
theorem cntS_le (n : Nat) : ∀ m, cntS n m ≤ m
  | 0 => Nat.le_refl _
  | m + 1 => by have := cntS_le n m; unfold cntS; split <;> omega
set_option maxRecDepth 8000 in
set_option maxHeartbeats 1000000 in
theorem iCountSmooth_yes (n : Nat) (hn : n ≤ 12) (w : World) :
    Calls Try.prog 21 #[.int .i64 n] w fun e w' => e = .returned (.int .i64 (cntS n (2 ^ n))) ∧ Below w.heap.size w w' := by
  have hp : (2 : Nat) ^ n ≤ 4096 := by
    calc (2 : Nat) ^ n ≤ 2 ^ 12 := Nat.pow_le_pow_right (by decide) hn
      _ = 4096 := by decide
  obtain ⟨p, hpp⟩ : ∃ p, (2 : Nat) ^ n = p := ⟨_, rfl⟩
  have hw2 : wrap64 ((2 : Int) ^ n) = (p : Int) := by
    have h : ((2 : Int) ^ n) = (p : Int) := by rw [← hpp]; simp
    rw [h]; unfold wrap64; omega
  rw [hpp] at hp ⊢
  have HW2 := Lib.hid hw2
  clear hpp hw2
  go_enter Try.func21, Try.ntmps21
  go_wp2_with (go_at_call 45; refine (within_yes _ _ _ ⟨by omega, by omega⟩ _).mono ?_; rintro e w' ⟨rfl, rfl⟩)
  go_loopw [3, 4, 5, 6, 13, 18] (fun ct _ _ _ i _ wr => ∃ k : Nat, k ≤ p ∧ i = .int .i64 k ∧ ct = .int .i64 (cntS n k) ∧ Below w.heap.size w wr) (fun _ _ _ _ i _ _ => p - (intOf i).toNat)
  case atStart => exact ⟨0, by omega, rfl, rfl, Below.refl _ _⟩
  case round =>
    obtain ⟨k, hk, rfl, rfl, hbel⟩ := hrel
    have hcl := cntS_le n k
    by_cases hlt : k < p
    · have hltb : decide ((k : Int) < wrap64 ((2 : Int) ^ n)) = true := by rw [HW2.out]; simp; omega
      go_wp2_with fail
      obtain ⟨wo, rfl⟩ : ∃ wo : World, wo = wr := ⟨_, rfl⟩
      go_loopw [5, 6, 18] (fun v _ i wr => ∃ j : Nat, ∃ A c, j ≤ n ∧ i = .int .i64 j ∧ v = .slice A j c ∧ Own wr wo.heap.size 5 (.slice A j c) (byV (bitW k j)) ∧ Below wo.heap.size wo wr) (fun _ _ i _ => n - (intOf i).toNat)
      case atStart => exact ⟨0, _, _, by omega, rfl, rfl, Own.empty (Nat.le_refl _), (Below.refl _ _).alloc (Nat.le_refl _) _⟩
      case round =>
        obtain ⟨j, A, c, hj, rfl, rfl, hown, hbel2⟩ := hrel
        have HO := Lib.hid hown; clear hown
        by_cases hjn : j < n
        · have hdl : (byV (bitW k j)).length = j := by rw [byV_length, bitW_length]
          have HDL := Lib.hid hdl; clear hdl
          have hsz := hbel2.size
          have hj9 : j < 4294967296 := by omega
          go_wp2_with (at_builtin; refine wp_append1 rfl (.tmp 21) (.tmp 29) 22 rfl _ 1 Try.underlying22 info_u8 rfl rfl HO.out _ rfl rfl j HDL.out hj9 (by decide) hsz ?_)
          intro A' c' w2 hown2 hbel3 hsz2
          rw [bitC_val, byV_snoc, ← bitW_succ] at hown2
          have HO2 := Lib.hid hown2; clear hown2
          go_wp2_with fail
          go_roundw
          case rel => exact ⟨j + 1, A', c', by omega, by go_num, rfl, HO2.out, hbel2.trans hbel3⟩
          case measure => simp [intOf]; omega
        · have hjj : j = n := by omega
          subst hjj
          have hcv := HO.out.reads.conv (P := Try.prog) (bitW_length k j) 22 9 5 c Try.underlying22 Try.underlying5 Try.underlying9
          have hms : (strOf (bitW k j)).size ≤ maxLen := by rw [strOf_size, bitW_length]; unfold maxLen; omega
          obtain ⟨z, hz⟩ : ∃ z, strOf (bitW k j) = z := ⟨_, rfl⟩
          have hcs : cntS j (k + 1) = cntS j k + (if smoothS z = true then 1 else 0) := by rw [cntS, hz]
          rw [hz] at hcv hms
          have HCS := Lib.hid hcs
          have hB2 := hbel.size
          clear hcs hz
          go_wp2_with fail
          refine (iIsSmooth_any z hms _).mono ?_
          rintro e w3 ⟨rfl, b3⟩
          have b03 := hbel.trans ((hbel2.trans (b3.mono hbel2.size)).mono hB2)
          clear hcv
          cases hsm : smoothS z
          · have HS3 : Hid (cntS j (k + 1) = cntS j k) := by
              show cntS j (k + 1) = cntS j k
              rw [HCS.out, hsm]; rfl
            clear hsm
            go_wp2_with fail
            go_roundw
            case rel => exact ⟨k + 1, by omega, by go_num, by rw [HS3.out], b03⟩
            case measure => simp [intOf]; omega
          · have HS3 : Hid (cntS j (k + 1) = cntS j k + 1) := by
              show cntS j (k + 1) = cntS j k + 1
              rw [HCS.out, hsm]; rfl
            clear hsm
            go_wp2_with fail
            go_roundw
            case rel => exact ⟨k + 1, by omega, by go_num, by rw [HS3.out]; rfl, b03⟩
            case measure => simp [intOf]; omega
    · have hkp : k = p := by omega
      subst hkp
      have hltb : decide ((k : Int) < wrap64 ((2 : Int) ^ n)) = false := by rw [HW2.out]; simp
      go_wp2_with fail
      go_ret
      exact ⟨rfl, hbel⟩
theorem iCountSmooth_no (n : Int) (h : ¬ (0 ≤ n ∧ n ≤ 12)) (w : World) :
    Calls Try.prog 21 #[.int .i64 n] w fun e w' => e = .returned (.int .i64 (-1)) ∧ Below w.heap.size w w' := by
  have H := Lib.hid h; clear h
  go_enter Try.func21, Try.ntmps21
  go_wp2_with (go_at_call 45; refine (within_no _ _ _ H.out _).mono ?_; rintro e w' ⟨rfl, rfl⟩)
  go_ret
  exact ⟨rfl, Below.refl _ _⟩
end Go.Proofs.Ytfjmopiofcbpgaa
