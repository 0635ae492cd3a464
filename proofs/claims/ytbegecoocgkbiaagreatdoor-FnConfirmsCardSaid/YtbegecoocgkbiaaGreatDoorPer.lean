/- IsSquareFree, IsOverlapFree, LeastPeriod, both, at words. No condition but the bounds. -/
import Derived.Test.YtbegecoocgkbiaaGreatDoorPow
namespace Go.Proofs.YtbegecoocgkbiaaGreatDoor
open Go.RowKit
set_option linter.unusedVariables false

open Classical in
noncomputable def powB (s : ByteArray) (e : Nat) : Bool := decide (Pow s e)
theorem powB_iff (s : ByteArray) (e : Nat) : powB s e = true ↔ Pow s e := by simp [powB]
theorem iSqf_yes (s : ByteArray) (h0 : isW (L s) = true) (w : World) :
    Calls Tryz.prog 38 #[.string s] w fun e w' => e = .returned (.bool (!powB s 0)) ∧ Below w.heap.size w w' := by
  have h4 := isW_size h0
  have hs9 : s.size ≤ maxLen := by unfold maxLen; omega
  have hcp := fun w => hasP_is s 0 (powB s 0) h0 (by decide) (powB_iff s 0) w
  have H0 := Lib.hid h0; have HCP := Lib.hid hcp
  clear h0 hcp
  obtain ⟨c, hc⟩ : ∃ c, powB s 0 = c := ⟨_, rfl⟩
  rw [hc] at HCP
  rw [hc]
  clear hc
  go_enter Tryz.func38, Tryz.ntmps38
  go_wp2_with (go_at_call 70; with_reducible refine (isWord_is s _ hs9 H0.out _).mono ?_; rintro e w' ⟨rfl, rfl⟩)
  refine (HCP.out _).mono ?_
  rintro e w1 ⟨rfl, b1⟩
  cases c
  all_goals
    go_wp2_with fail
    go_ret
    exact ⟨rfl, b1⟩
theorem iOvf_yes (s : ByteArray) (h0 : isW (L s) = true) (w : World) :
    Calls Tryz.prog 12 #[.string s] w fun e w' => e = .returned (.bool (!powB s 1)) ∧ Below w.heap.size w w' := by
  have h4 := isW_size h0
  have hs9 : s.size ≤ maxLen := by unfold maxLen; omega
  have hcp := fun w => hasP_is s 1 (powB s 1) h0 (by decide) (powB_iff s 1) w
  have H0 := Lib.hid h0; have HCP := Lib.hid hcp
  clear h0 hcp
  obtain ⟨c, hc⟩ : ∃ c, powB s 1 = c := ⟨_, rfl⟩
  rw [hc] at HCP
  rw [hc]
  clear hc
  go_enter Tryz.func12, Tryz.ntmps12
  go_wp2_with (go_at_call 70; with_reducible refine (isWord_is s _ hs9 H0.out _).mono ?_; rintro e w' ⟨rfl, rfl⟩)
  refine (HCP.out _).mono ?_
  rintro e w1 ⟨rfl, b1⟩
  cases c
  all_goals
    go_wp2_with fail
    go_ret
    exact ⟨rfl, b1⟩
def Leasts (s : ByteArray) (v : Nat) : Prop := 1 ≤ v ∧ v ≤ s.size ∧ PerOn s 0 s.size v ∧ ∀ q, 1 ≤ q → q < v → ¬ PerOn s 0 s.size q
theorem least_of {P : Nat → Prop} : ∀ n, P n → ∃ v, v ≤ n ∧ P v ∧ ∀ q, q < v → ¬ P q := fun n => by
  induction n using Nat.strongRecOn with
  | _ n ih =>
    intro h
    by_cases hx : ∃ m, m < n ∧ P m
    · obtain ⟨m, hm, hp⟩ := hx
      obtain ⟨v, h1, h2, h3⟩ := ih m hm hp
      exact ⟨v, by omega, h2, h3⟩
    · exact ⟨n, Nat.le_refl _, h, fun q hq hp => hx ⟨q, hq, hp⟩⟩
theorem leasts_ex (s : ByteArray) (h : s.size ≠ 0) : ∃ v, Leasts s v := by
  obtain ⟨v, h1, h2, h3⟩ := least_of (P := fun v => 1 ≤ v ∧ PerOn s 0 s.size v) s.size ⟨by omega, fun k h1 h2 => by omega⟩
  exact ⟨v, h2.1, h1, h2.2, fun q q1 q2 q3 => h3 q q2 ⟨q1, q3⟩⟩
def LpIs (s : ByteArray) (v : Nat) : Prop := (s.size = 0 ∧ v = 0) ∨ (s.size ≠ 0 ∧ Leasts s v)
theorem lpIs_ex (s : ByteArray) : ∃ v, LpIs s v := by
  by_cases h : s.size = 0
  · exact ⟨0, Or.inl ⟨h, rfl⟩⟩
  · obtain ⟨v, hv⟩ := leasts_ex s h
    exact ⟨v, Or.inr ⟨h, hv⟩⟩
noncomputable def lpN (s : ByteArray) : Nat := Classical.choose (lpIs_ex s)
theorem lpN_is (s : ByteArray) : LpIs s (lpN s) := Classical.choose_spec (lpIs_ex s)
theorem lpN_le (s : ByteArray) : lpN s ≤ s.size := by
  rcases lpN_is s with ⟨_, h⟩ | ⟨_, h⟩
  · omega
  · exact h.2.1
theorem iLp_is (s : ByteArray) (v : Nat) (h4 : s.size ≤ 400) (hv : LpIs s v) (w : World) :
    Calls Tryz.prog 99 #[.string s] w fun e w' => e = .returned (.int .i64 v) ∧ Dr w w' := by
  rcases hv with ⟨hz, rfl⟩ | ⟨hz, hv⟩
  · have hz1 : (s.size : Int) < 1 := by omega
    clear hz
    go_enter Tryz.func99, Tryz.ntmps99
    go_wp2_with fail
    go_loopw [3] (fun u wr => u = .int .i64 1 ∧ Dr w wr) (fun u _ => 0)
    case atStart => exact ⟨rfl, Dr.refl _⟩
    case round =>
      obtain ⟨rfl, hd⟩ := hrel
      go_wp2_with fail
      go_ret
      exact ⟨rfl, hd⟩
  · obtain ⟨hv1, hv2, hv3, hv4⟩ := hv
    have HV3 := Lib.hid hv3; have HV4 := Lib.hid hv4
    clear hv3 hv4
    go_enter Tryz.func99, Tryz.ntmps99
    go_wp2_with fail
    go_loopw [3] (fun u wr => ∃ p : Nat, 1 ≤ p ∧ p ≤ v ∧ u = .int .i64 p ∧ Dr w wr) (fun u _ => v + 1 - (intOf u).toNat)
    case atStart => exact ⟨1, by omega, by omega, rfl, Dr.refl _⟩
    case round =>
      obtain ⟨p, hp1, hp2, rfl, hd⟩ := hrel
      have hps : (p : Int) ≤ (s.size : Int) := by omega
      by_cases hlt : p < v
      · have hcp := fun w => isPow_is s 0 s.size p false h4 (by omega) (by omega) (by omega) ⟨(fun h => by cases h), fun h => absurd h.2 (HV4.out p hp1 hlt)⟩ w
        have HCP := Lib.hid hcp
        clear hcp
        go_wp2_with fail
        refine (HCP.out _).mono ?_
        rintro e w1 ⟨rfl, d1⟩
        go_wp2_with fail
        go_roundw
        case rel => exact ⟨p + 1, by omega, by omega, by go_num, hd.trans d1⟩
        case measure => simp [intOf]; omega
      · have hpe : p = v := by omega
        subst hpe
        have hcp := fun w => isPow_is s 0 s.size p true h4 (by omega) (by omega) (by omega) ⟨fun h => ⟨by omega, HV3.out⟩, fun h => rfl⟩ w
        have HCP := Lib.hid hcp
        clear hcp
        go_wp2_with fail
        refine (HCP.out _).mono ?_
        rintro e w1 ⟨rfl, d1⟩
        go_wp2_with fail
        go_ret
        exact ⟨rfl, hd.trans d1⟩
theorem iLpe_yes (s : ByteArray) (h0 : isW (L s) = true) (w : World) :
    Calls Tryz.prog 36 #[.string s] w fun e w' => e = .returned (.int .i64 (lpN s)) ∧ Dr w w' := by
  have h4 := isW_size h0
  have hs9 : s.size ≤ maxLen := by unfold maxLen; omega
  have hlp := lpN_is s
  obtain ⟨v, hv⟩ : ∃ v, lpN s = v := ⟨_, rfl⟩
  rw [hv] at hlp ⊢
  have H0 := Lib.hid h0; have HLP := Lib.hid hlp
  clear h0 hlp hv
  go_enter Tryz.func36, Tryz.ntmps36
  go_wp2_with (go_at_call 70; with_reducible refine (isWord_is s _ hs9 H0.out _).mono ?_; rintro e w' ⟨rfl, rfl⟩)
  refine (iLp_is s v h4 HLP.out _).mono ?_
  rintro e w1 ⟨rfl, d1⟩
  go_wp2_with fail
  go_ret
  exact ⟨rfl, d1⟩
end Go.Proofs.YtbegecoocgkbiaaGreatDoor
