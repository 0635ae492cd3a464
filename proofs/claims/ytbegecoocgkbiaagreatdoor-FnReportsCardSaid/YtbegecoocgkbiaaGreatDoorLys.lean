/- IsLyndon, both, at words (the first part of XLyw: never import both). Asks the shelf's text. No condition but the bounds. -/
import Derived.Test.YtbegecoocgkbiaaGreatDoorM7
import Derived.Test.YtbegecoocgkbiaaGreatDoorM16
import Derived.Test.YtbegecoocgkbiaaGreatDoorJon
import Derived.BigQuiet
namespace Go.Proofs.YtbegecoocgkbiaaGreatDoor
open Go.RowKit
set_option linter.unusedVariables false

theorem isW_extract {s : ByteArray} (a b : Nat) (h : isW (L s) = true) : isW (L (s.extract a b)) = true := by
  unfold isW at h ⊢
  simp only [Bool.and_eq_true, decide_eq_true_eq] at h ⊢
  rw [L_extract]
  refine ⟨?_, ?_⟩
  · rw [List.all_eq_true] at h ⊢
    exact fun x hx => h.1 x (List.mem_of_mem_take (List.mem_of_mem_drop hx))
  · rw [List.length_drop, List.length_take]; omega
theorem ext_size (s : ByteArray) (a b : Nat) (h : b ≤ s.size) : (s.extract a b).size = b - a := by rw [ByteArray.size_extract, Nat.min_eq_left h]
theorem ext_tail (s : ByteArray) (a n : Nat) : (s.extract a s.size).extract n (s.extract a s.size).size = s.extract (a + n) s.size := by
  apply ba_eq
  rw [L_extract, L_extract, L_extract, ByteArray.size_extract, Nat.min_self]
  rw [List.take_of_length_le (by rw [List.length_drop, List.length_take, L_len]; omega), List.drop_drop]
theorem ext_head (s : ByteArray) (a n : Nat) (h : a + n ≤ s.size) : (s.extract a s.size).extract 0 n = s.extract a (a + n) := by
  apply ba_eq
  rw [L_extract, L_extract, L_extract, List.drop_zero, List.take_of_length_le (l := L s) (by rw [L_len]; omega), List.drop_take]
  congr 1; omega
theorem ext_at (s : ByteArray) (a k : Nat) (h : a + k < s.size) (h2 : k < (s.extract a s.size).size) : ((s.extract a s.size)[k]'h2).toNat = gl s a k := by
  rw [gl, List.getD_eq_getElem?_getD, List.getElem?_eq_getElem (by rw [L_len]; exact h)]
  have : (s.extract a s.size)[k]'h2 = s[a + k] := by rw [ByteArray.getElem_extract]
  rw [this]; rfl
/-- The length of a value that is a string. -/
def strLen : Value → Nat
  | .string s => s.size
  | _ => 0
theorem shift_yes (s : ByteArray) (k : Nat) (h0 : isW (L s) = true) (hk : k ≤ s.size) (w : World) :
    Calls Tryz.prog 100 #[.string s, .int .i64 k] w fun e w' => e = .returned (.string (s.extract k s.size ++ s.extract 0 k)) ∧ Dr w w' := by
  have h4 := isW_size h0
  have hs9 : s.size ≤ maxLen := by unfold maxLen; omega
  have H0 := Lib.hid h0
  have H2 := Lib.hid (fun w => within_yes (k : Int) 0 s.size ⟨by omega, by omega⟩ w)
  have z1 : (s.extract k s.size).size = s.size - k := ext_size s k s.size (Nat.le_refl _)
  have z2 : (s.extract 0 k).size = k := by rw [ext_size s 0 k hk]; omega
  have hki : (k : Int) ≤ (s.size : Int) := by omega
  clear h0
  go_enter Tryz.func100, Tryz.ntmps100
  go_wp2_with (first
    | (go_at_call 70; with_reducible refine (isWord_is s _ hs9 H0.out _).mono ?_; rintro e w' ⟨rfl, rfl⟩)
    | (go_at_call 61; with_reducible refine (H2.out _).mono ?_; rintro e w' ⟨rfl, rfl⟩))
  go_quiet (fail)
  go_wp2_with fail
  go_ret
  exact ⟨rfl, (Dr.refl _).drewN _⟩
set_option maxRecDepth 4000 in
set_option maxHeartbeats 1000000 in
theorem iLyn_is (s : ByteArray) (b : Bool) (h0 : isW (L s) = true) (h1 : s.size ≠ 0) (hb : b = true ↔ LynF (gl s 0) s.size) (w : World) :
    Calls Tryz.prog 39 #[.string s] w fun e w' => e = .returned (.bool b) ∧ Dr w w' := by
  have h4 := isW_size h0
  have hs9 : s.size ≤ maxLen := by unfold maxLen; omega
  have hne : s.toList.isEmpty = false := by
    rw [ByteArray.toList_eq]
    cases hc : s.data.toList with
    | nil => have := L_len s; rw [L, hc] at this; exact absurd this.symm h1
    | cons a b => rfl
  have H0 := Lib.hid h0; have HB := Lib.hid hb
  clear h0 hb
  go_enter Tryz.func39, Tryz.ntmps39
  go_wp2_with (go_at_call 70; with_reducible refine (isWord_is s _ hs9 H0.out _).mono ?_; rintro e w' ⟨rfl, rfl⟩)
  go_loopw [3] (fun i wr => ∃ k : Nat, 1 ≤ k ∧ k ≤ s.size ∧ i = .int .i64 k ∧ (∀ r, 0 < r → r < k → ltF (gl s 0) (rotF (gl s 0) s.size r) s.size) ∧ Dr w wr) (fun i _ => s.size - (intOf i).toNat)
  case atStart => exact ⟨1, by omega, by omega, rfl, fun r h2 h3 => by omega, Dr.refl _⟩
  case round =>
    obtain ⟨k, hk1, hk, rfl, hg, hd⟩ := hrel
    have HG := Lib.hid hg; clear hg
    by_cases hlt : k < s.size
    · have htl := turn_lt s k hk
      have hgt := gtS_iff (s.extract k s.size ++ s.extract 0 k) s
      unfold gtS at hgt
      have HSH := Lib.hid (fun w => shift_yes s k H0.out hk w)
      by_cases hltF : ltF (gl s 0) (rotF (gl s 0) s.size k) s.size
      · rw [decide_eq_true (htl.2 hltF)] at hgt
        have hstep : ∀ r, 0 < r → r < k + 1 → ltF (gl s 0) (rotF (gl s 0) s.size r) s.size := fun r h2 h3 => by
          by_cases he : r = k
          · subst he; exact hltF
          · exact HG.out r h2 (by omega)
        have HS := Lib.hid hstep
        simp only [Bool.not_eq_true', Bool.or_eq_false_iff] at hgt
        obtain ⟨hgA, hgB⟩ := hgt
        clear htl hltF hstep
        go_wp2_with fail
        refine (HSH.out _).mono ?_
        rintro e w1 ⟨rfl, d1⟩
        go_wp2_with fail
        go_roundw
        case rel => exact ⟨k + 1, by omega, by omega, by go_num, HS.out, hd.trans d1⟩
        case measure => simp [intOf]; omega
      · rw [decide_eq_false (fun h => hltF (htl.1 h))] at hgt
        have hbf : b = false := by
          cases hb : b
          · rfl
          · exact absurd ((HB.out.1 hb) k (by omega) hlt) hltF
        subst hbf
        simp only [Bool.not_eq_false', Bool.or_eq_true] at hgt
        clear htl hltF
        rcases hgt with hgt | hgt
        all_goals
          go_wp2_with fail
          refine (HSH.out _).mono ?_
          rintro e w1 ⟨rfl, d1⟩
          go_wp2_with fail
          go_ret
          exact ⟨rfl, hd.trans d1⟩
    · have hbt : b = true := HB.out.2 fun r h2 h3 => HG.out r h2 (by omega)
      subst hbt
      go_wp2_with fail
      go_ret
      exact ⟨rfl, hd⟩
open Classical in
noncomputable def lynB (s : ByteArray) : Bool := decide (s.size ≠ 0 ∧ LynF (gl s 0) s.size)
theorem iLyn_yes (s : ByteArray) (h0 : isW (L s) = true) (w : World) :
    Calls Tryz.prog 39 #[.string s] w fun e w' => e = .returned (.bool (lynB s)) ∧ Dr w w' := by
  by_cases hz : s.size = 0
  · have h4 := isW_size h0
    have hs9 : s.size ≤ maxLen := by unfold maxLen; omega
    have hne : s.toList.isEmpty = true := by
      rw [ByteArray.toList_eq]
      have := L_len s
      rw [List.isEmpty_iff]
      exact List.eq_nil_of_length_eq_zero (by rw [← hz]; exact this)
    have hv : lynB s = false := by simp [lynB, hz]
    rw [hv]
    have H0 := Lib.hid h0
    clear h0 hz hv
    go_enter Tryz.func39, Tryz.ntmps39
    go_wp2_with (go_at_call 70; with_reducible refine (isWord_is s _ hs9 H0.out _).mono ?_; rintro e w' ⟨rfl, rfl⟩)
    go_ret
    exact ⟨rfl, Dr.refl _⟩
  · exact iLyn_is s (lynB s) h0 hz (by simp [lynB, hz]) w
end Go.Proofs.YtbegecoocgkbiaaGreatDoor
