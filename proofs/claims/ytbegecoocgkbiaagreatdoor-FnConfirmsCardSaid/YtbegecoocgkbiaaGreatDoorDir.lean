/- DirectedWord("abab"). No condition. -/
import Derived.Test.YtbegecoocgkbiaaGreatDoorRev
import Derived.Test.YtbegecoocgkbiaaGreatDoorM7
namespace Go.Proofs.YtbegecoocgkbiaaGreatDoor
open Go.RowKit
set_option linter.unusedVariables false

set_option maxHeartbeats 2000000 in
theorem closed_is (s v : ByteArray) (k : Nat) (hs : s.size ≤ 400) (hk : k < s.size) (h1 : ∀ j, j < k → palB (s.extract j s.size) = false) (h2 : palB (s.extract k s.size) = true) (hv : s ++ trn (s.extract 0 k) = v) (w : World) :
    Calls Tryz.prog 75 #[.string s] w fun e w' => e = .returned (.string v) ∧ Below w.heap.size w w' := by
  have hz : ∀ j, j ≤ s.size → (s.extract j s.size).size = s.size - j := fun j hj => by rw [ByteArray.size_extract]; omega
  have hz0 : (s.extract 0 k).size = k := by rw [ByteArray.size_extract]; omega
  have hit := fun j (hj : j ≤ s.size) w => isTrn_is (s.extract j s.size) (by rw [hz j hj]; omega) w
  have htn := fun w => turned_any (s.extract 0 k) (by rw [hz0]; omega) w
  have htz : (trn (s.extract 0 k)).size = k := by rw [trn, strOf_size, rv, List.length_reverse, L_len, hz0]
  obtain ⟨t, ht⟩ : ∃ t, trn (s.extract 0 k) = t := ⟨_, rfl⟩
  rw [ht] at hv htn htz
  have H1 := Lib.hid h1; have H2 := Lib.hid h2; have HIT := Lib.hid hit; have HTN := Lib.hid htn; have HV := Lib.hid hv
  clear h1 h2 hit htn hv hz ht hz0
  have n1 : ¬ 9223372036854775807 < s.size + t.size := by omega
  go_enter Tryz.func75, Tryz.ntmps75
  go_wp2_with fail
  go_loopw [3, 6] (fun _ i wr => ∃ j : Nat, j ≤ k ∧ i = .int .i64 j ∧ Below w.heap.size w wr) (fun _ i _ => s.size - (intOf i).toNat)
  case atStart => exact ⟨0, by omega, rfl, Below.refl _ _⟩
  case round =>
    obtain ⟨j, hj, rfl, hb⟩ := hrel
    have hjs : (j : Int) < (s.size : Int) := by omega
    have hj2 : (j : Int) ≤ (s.size : Int) := by omega
    have hc := fun w => HIT.out j (by omega) w
    by_cases hjk : j < k
    · rw [H1.out j hjk] at hc
      have HC := Lib.hid hc
      clear hc
      go_wp2_with fail
      refine (HC.out _).mono ?_
      rintro e w1 ⟨rfl, b1⟩
      go_wp2_with fail
      go_roundw
      case rel => exact ⟨j + 1, by omega, by go_num, hb.trans (b1.mono hb.size)⟩
      case measure => simp [intOf]; omega
    · obtain rfl : j = k := by omega
      rw [H2.out] at hc
      have HC := Lib.hid hc
      clear hc
      go_wp2_with fail
      refine (HC.out _).mono ?_
      rintro e w1 ⟨rfl, b1⟩
      have hb1 := hb.trans (b1.mono hb.size)
      go_wp2_with fail
      refine (HTN.out _).mono ?_
      rintro e w2 ⟨rfl, b2⟩
      go_wp2_with fail
      go_ret
      exact ⟨by rw [← HV.out]; rfl, hb1.trans (b2.mono hb1.size)⟩
def dwS : Nat → ByteArray
  | 0 => { data := #[] }
  | 1 => { data := #[97] }
  | 2 => { data := #[97, 98, 97] }
  | 3 => { data := #[97, 98, 97, 97, 98, 97] }
  | _ => { data := #[97, 98, 97, 97, 98, 97, 98, 97, 97, 98, 97] }
def dwC : Nat → ByteArray
  | 0 => { data := #[97] }
  | 1 => { data := #[97, 98] }
  | 2 => { data := #[97, 98, 97, 97] }
  | _ => { data := #[97, 98, 97, 97, 98, 97, 98] }
def dwK : Nat → Nat
  | 0 => 0
  | 1 => 1
  | 2 => 2
  | _ => 4
theorem dw_pal : ∀ i, i < 4 → (∀ j, j < dwK i → palB ((dwC i).extract j (dwC i).size) = false) ∧ palB ((dwC i).extract (dwK i) (dwC i).size) = true := by decide +kernel
theorem dw_end : ∀ i, i < 4 → (dwC i) ++ trn ((dwC i).extract 0 (dwK i)) = dwS (i + 1) := by decide +kernel
theorem dw_cat : ∀ i, i < 4 → dwS i ++ ({ data := #[97, 98, 97, 98] } : ByteArray).extract i (i + 1) = dwC i := by decide +kernel
theorem dw_sz : ∀ i, i < 4 → (dwC i).size ≤ 7 ∧ dwK i < (dwC i).size ∧ (dwS i).size ≤ 6 := by decide
theorem dw_w : ∀ i, i < 5 → isW (L (dwS i)) = true ∧ (dwS i).size ≤ 11 := by decide +kernel
set_option maxHeartbeats 2000000 in
theorem dir_abab (w : World) :
    Calls Tryz.prog 16 #[.string { data := #[97, 98, 97, 98] }] w fun e w' => e = .returned (.tuple #[.string { data := #[97, 98, 97, 97, 98, 97, 98, 97, 97, 98, 97] }, .bool true]) ∧ Below w.heap.size w w' := by
  have hw0 := fun w => isWord_is { data := #[97, 98, 97, 98] } true (by unfold maxLen; decide) (by decide +kernel) w
  have hcl := fun i (hi : i < 4) w => closed_is (dwC i) (dwS (i + 1)) (dwK i) (by have := (dw_sz i hi).1; omega) (dw_sz i hi).2.1 (dw_pal i hi).1 (dw_pal i hi).2 (dw_end i hi) w
  have hww := fun i (hi : i < 5) w => isWord_is (dwS i) true (by have := (dw_w i hi).2; unfold maxLen; omega) (dw_w i hi).1 w
  have HW0 := Lib.hid hw0; have HCL := Lib.hid hcl; have HWW := Lib.hid hww
  have HCT := Lib.hid dw_cat; have HSZ := Lib.hid dw_sz
  clear hw0 hcl hww
  go_enter Tryz.func16, Tryz.ntmps16
  go_wp2_with (go_at_call 70; with_reducible refine (HW0.out _).mono ?_; rintro e w' ⟨rfl, rfl⟩)
  go_loopw [4, 5, 16] (fun v _ i wr => ∃ k : Nat, k ≤ 4 ∧ i = .int .i64 k ∧ v = .string (dwS k) ∧ Below w.heap.size w wr) (fun _ _ i _ => 5 - (intOf i).toNat)
  case atStart => exact ⟨0, by omega, rfl, rfl, Below.refl _ _⟩
  case round =>
    obtain ⟨k, hk, rfl, rfl, hb⟩ := hrel
    by_cases hlt : k < 4
    · have hlt2 : (k : Int) < 4 := by omega
      have hct := HCT.out k hlt
      have hsz := HSZ.out k hlt
      have hc := fun w => HCL.out k hlt w
      have hw1 := fun w => HWW.out (k + 1) (by omega) w
      have e1 : ({ data := #[97, 98, 97, 98] } : ByteArray).size = 4 := rfl
      have z1 : (({ data := #[97, 98, 97, 98] } : ByteArray).extract k (k + 1)).size = 1 := by rw [ByteArray.size_extract, e1]; omega
      obtain ⟨x, hx⟩ : ∃ x, ({ data := #[97, 98, 97, 98] } : ByteArray).extract k (k + 1) = x := ⟨_, rfl⟩
      obtain ⟨a, ha⟩ : ∃ a, dwS k = a := ⟨_, rfl⟩
      obtain ⟨c, hcc⟩ : ∃ c, dwC k = c := ⟨_, rfl⟩
      obtain ⟨d, hd⟩ : ∃ d, dwS (k + 1) = d := ⟨_, rfl⟩
      rw [hx, ha, hcc] at hct
      rw [hx] at z1
      rw [hcc, ha] at hsz
      rw [hcc, hd] at hc
      rw [hd] at hw1
      have n1 : ¬ 9223372036854775807 < a.size + x.size := by omega
      have hk0 : (0 : Int) ≤ (k : Int) := by omega
      have HCX := Lib.hid hct; have HC := Lib.hid hc; have HW1 := Lib.hid hw1; have HD := Lib.hid hd
      rw [ha]
      clear hct hc hw1 hd ha hcc hsz
      go_wp2_with fail
      try rw [hx]
      rw [HCX.out]
      refine (HC.out _).mono ?_
      rintro e w1 ⟨rfl, b1⟩
      have hb1 := hb.trans (b1.mono hb.size)
      go_wp2_with (go_at_call 70; with_reducible refine (HW1.out _).mono ?_; rintro e w' ⟨rfl, rfl⟩)
      go_roundw
      case rel => exact ⟨k + 1, by omega, by go_num, by rw [HD.out], hb1⟩
      case measure => simp [intOf]; omega
    · have hk4 : k = 4 := by omega
      subst hk4
      go_wp2_with fail
      go_ret2
      exact ⟨rfl, hb⟩
end Go.Proofs.YtbegecoocgkbiaaGreatDoor
