/- IsBalanced, both, at words. Asks the shelf's text. No condition but the bounds. -/
import Derived.Test.YtbegecoocgkbiaaGreatDoorBnr
namespace Go.Proofs.YtbegecoocgkbiaaGreatDoor
open Go.RowKit
set_option linter.unusedVariables false

def cB (y : ByteArray) : Nat := Lib.countByte y.data.toList 98
theorem cB_L (y : ByteArray) : cB y = (L y).count 98 := rfl
theorem cB_le (y : ByteArray) : cB y ≤ y.size := by
  have := List.count_le_length (a := (98 : UInt8)) (l := L y)
  rw [L_len] at this
  exact this
def spr (s : ByteArray) (n : Nat) : Nat → Nat → Nat → Nat → Nat × Nat
  | 0, _, lo, hi => (lo, hi)
  | f + 1, i, lo, hi => spr s n f (i + 1) (min lo (cB (s.extract i (i + n)))) (max hi (cB (s.extract i (i + n))))
def sp (s : ByteArray) (n : Nat) : Nat × Nat := spr s n (s.size + 1 - n) 0 n 0
theorem spr_le (s : ByteArray) (n : Nat) : ∀ f i lo hi, lo ≤ 1000 → hi ≤ 400 → s.size ≤ 400 → (spr s n f i lo hi).1 ≤ 1000 ∧ (spr s n f i lo hi).2 ≤ 400
  | 0, i, lo, hi, h1, h2, h3 => ⟨h1, h2⟩
  | f + 1, i, lo, hi, h1, h2, h3 => by
    have h4 := cB_le (s.extract i (i + n))
    have h5 : (s.extract i (i + n)).size ≤ 400 := by rw [ByteArray.size_extract]; omega
    exact spr_le s n f (i + 1) _ _ (by omega) (by omega) h3
def BlcP (s : ByteArray) : Prop := ∀ n, 1 ≤ n → n ≤ s.size → ¬ (sp s n).1 + 1 < (sp s n).2
open Classical in
noncomputable def blcB (s : ByteArray) : Bool := binW (L s) && decide (BlcP s)
theorem count_b (y : ByteArray) (w : World) : Calls Tryz.prog 118 #[.string y, .string ⟨#[98]⟩] w fun e w' => e = .returned (.int .i64 (cB y)) ∧ w = w' :=
  (Tryz.strings_Count_one y 98 w).mono fun e w' h => ⟨h.1, h.2.symm⟩
set_option maxRecDepth 4000 in
set_option maxHeartbeats 1000000 in
theorem iSpr_is (s : ByteArray) (n lo hi : Nat) (h4 : s.size ≤ 400) (hn : n ≤ s.size) (hv : sp s n = (lo, hi)) (w : World) :
    Calls Tryz.prog 69 #[.string s, .int .i64 n] w fun e w' => e = .returned (.tuple #[.int .i64 lo, .int .i64 hi]) ∧ w = w' := by
  have HV := Lib.hid hv
  clear hv
  go_enter Tryz.func69, Tryz.ntmps69
  go_wp2_with fail
  go_loop [6, 7, 8, 9] (fun a b i _ => ∃ k l h : Nat, k + n ≤ s.size + 1 ∧ l ≤ 1000 ∧ h ≤ 400 ∧ a = .int .i64 l ∧ b = .int .i64 h ∧ i = .int .i64 k ∧ spr s n (s.size + 1 - n - k) k l h = (lo, hi)) (fun _ _ i _ => s.size + 2 - (intOf i).toNat)
  case atStart => exact ⟨0, n, 0, by omega, by omega, by omega, rfl, rfl, rfl, HV.out⟩
  case round =>
    obtain ⟨k, l, h, hk, hl, hh, rfl, rfl, rfl, hg⟩ := hrel
    by_cases hlt : k + n ≤ s.size
    · obtain ⟨q, hq⟩ : ∃ q, k + n = q := ⟨_, rfl⟩
      rw [show s.size + 1 - n - k = (s.size + 1 - n - (k + 1)) + 1 by omega, spr, hq] at hg
      have hcl := cB_le (s.extract k q)
      have hz : (s.extract k q).size ≤ 400 := by rw [ByteArray.size_extract]; omega
      obtain ⟨c, hc⟩ : ∃ c, cB (s.extract k q) = c := ⟨_, rfl⟩
      rw [hc] at hg hcl
      have hct := fun w => count_b (s.extract k q) w
      rw [hc] at hct
      have HCT := Lib.hid hct; have HG := Lib.hid hg
      have hc4 : c ≤ 400 := by omega
      have hq2 : (k : Int) + (n : Int) = (q : Int) := by omega
      have hqs : (q : Int) ≤ (s.size : Int) := by omega
      have hkq : (k : Int) ≤ (q : Int) := by omega
      have hkn : k + n ≤ s.size := hlt
      have HQ := Lib.hid hq
      clear hcl hz hct hg hc hq hlt
      go_wp2_with fail
      refine (HCT.out _).mono ?_
      rintro e w1 ⟨rfl, rfl⟩
      go_wp2_with fail
      go_round
      case rel => exact ⟨k + 1, min l c, max h c, by omega, by omega, by omega, by go_num, by go_num, by go_num, HG.out⟩
      case measure => simp [intOf]; omega
    · have hge : ¬ (k : Int) + (n : Int) ≤ (s.size : Int) := by omega
      rw [show s.size + 1 - n - k = 0 by omega, spr] at hg
      injection hg with h1 h2
      subst h1
      subst h2
      go_wp2_with fail
      go_ret2
      exact ⟨rfl, rfl⟩
theorem blcB_no {s : ByteArray} (h : binW (L s) = false) : blcB s = false := by rw [blcB, h]; rfl
theorem blcB_yes {s : ByteArray} (h : binW (L s) = true) (h2 : BlcP s) : blcB s = true := by simp [blcB, h, h2]
theorem blcB_not {s : ByteArray} {n : Nat} (h1 : 1 ≤ n) (h2 : n ≤ s.size) (h : (sp s n).1 + 1 < (sp s n).2) : blcB s = false := by
  have h3 : ¬ BlcP s := fun hh => hh n h1 h2 h
  simp [blcB, h3]
set_option maxRecDepth 4000 in
set_option maxHeartbeats 1000000 in
theorem iBlc_yes (s : ByteArray) (h0 : isW (L s) = true) (w : World) :
    Calls Tryz.prog 11 #[.string s] w fun e w' => e = .returned (.bool (blcB s)) ∧ Below w.heap.size w w' := by
  have h4 := isW_size h0
  have hs9 : s.size ≤ maxLen := by unfold maxLen; omega
  have HC := Lib.hid (fun w => iIsBinary_any s hs9 w)
  obtain ⟨v, hv⟩ : ∃ v, blcB s = v := ⟨_, rfl⟩
  rw [hv]
  have HV := Lib.hid hv
  clear h0 hv
  cases hb : binW (L s)
  · rw [hb] at HC
    have hvf : v = false := by rw [← HV.out]; exact blcB_no hb
    subst hvf
    clear hb
    go_enter Tryz.func11, Tryz.ntmps11
    go_wp2_with fail
    refine (HC.out _).mono ?_
    rintro e w1 ⟨rfl, b1⟩
    go_wp2_with fail
    go_ret
    exact ⟨rfl, b1⟩
  · rw [hb] at HC
    have HB := Lib.hid hb
    clear hb
    go_enter Tryz.func11, Tryz.ntmps11
    go_wp2_with fail
    refine (HC.out _).mono ?_
    rintro e w1 ⟨rfl, b1⟩
    go_wp2_with fail
    go_loopw [3, 4, 5] (fun u _ _ wr => ∃ n : Nat, 1 ≤ n ∧ n ≤ s.size + 1 ∧ u = .int .i64 n ∧ (∀ q, 1 ≤ q → q < n → ¬ (sp s q).1 + 1 < (sp s q).2) ∧ Below w.heap.size w wr) (fun u _ _ _ => s.size + 2 - (intOf u).toNat)
    case atStart => exact ⟨1, by omega, by omega, rfl, fun q h1 h2 => by omega, b1⟩
    case round =>
      obtain ⟨n, hn1, hn2, rfl, hg, hbel⟩ := hrel
      have HG := Lib.hid hg
      clear hg
      by_cases hlt : n ≤ s.size
      · have hlti : (n : Int) ≤ (s.size : Int) := by omega
        have hle := spr_le s n (s.size + 1 - n) 0 n 0 (by omega) (by omega) h4
        rw [← sp] at hle
        obtain ⟨p, hp⟩ : ∃ p, sp s n = p := ⟨_, rfl⟩
        obtain ⟨lo, hi⟩ := p
        rw [hp] at hle
        obtain ⟨hlo, hhi⟩ := hle
        simp only at hlo hhi
        have HSP := Lib.hid (fun w => iSpr_is s n lo hi h4 hlt hp w)
        by_cases hc : lo + 1 < hi
        · have hvf : v = false := by rw [← HV.out]; exact blcB_not hn1 hlt (by rw [hp]; exact hc)
          subst hvf
          have hc1 : (1 : Int) < (hi : Int) - (lo : Int) := by omega
          have hc2 : (lo : Int) + 1 < (hi : Int) := by omega
          clear hp
          go_wp2_with fail
          refine (HSP.out _).mono ?_
          rintro e w2 ⟨rfl, rfl⟩
          go_wp2_with fail
          go_ret
          exact ⟨rfl, hbel⟩
        · have hc1 : ¬ (1 : Int) < (hi : Int) - (lo : Int) := by omega
          have hc2 : ¬ (lo : Int) + 1 < (hi : Int) := by omega
          have HP := Lib.hid hp; have HCC := Lib.hid hc
          clear hp hc
          go_wp2_with fail
          refine (HSP.out _).mono ?_
          rintro e w2 ⟨rfl, rfl⟩
          go_wp2_with fail
          go_roundw
          case rel => exact ⟨n + 1, by omega, by omega, by go_num, fun q h1 h2 => by
            rcases Nat.lt_or_ge q n with h | h
            · exact HG.out q h1 h
            · obtain rfl : q = n := by omega
              rw [HP.out]; exact HCC.out, hbel⟩
          case measure => simp [intOf]; omega
      · have hge : ¬ (n : Int) ≤ (s.size : Int) := by omega
        have hvt : v = true := by rw [← HV.out]; exact blcB_yes HB.out fun q h1 h2 => HG.out q h1 (by omega)
        subst hvt
        go_wp2_with fail
        go_ret
        exact ⟨rfl, hbel⟩
end Go.Proofs.YtbegecoocgkbiaaGreatDoor
