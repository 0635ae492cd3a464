/- Patches: PatchOk, both. No condition but the bounds. -/
import Derived.Test.YtbegecoocgkbiaaGreatDoorStr
import Derived.Test.YtbegecoocgkbiaaGreatDoorNum
import Derived.Test.YtbegecoocgkbiaaGreatDoorM1
namespace Go.Proofs.YtbegecoocgkbiaaGreatDoor
open Go.RowKit
set_option linter.unusedVariables false

def hd0 (ps : List ByteArray) : ByteArray := ps.headD ⟨#[]⟩
def pat1 (n : Nat) (s : ByteArray) : Bool := isW (L s) && decide (s.size = n)
def patOk (ps : List ByteArray) : Bool := decide (1 ≤ ps.length ∧ ps.length ≤ 32) && decide (1 ≤ (hd0 ps).size ∧ (hd0 ps).size ≤ 32) && ps.all (pat1 (hd0 ps).size)
def pat2 (n : Nat) (s : ByteArray) : Bool := isW (L s) && decide (1 ≤ s.size ∧ s.size ≤ 32) && decide (s.size = n)
theorem pat_is (ps : List ByteArray) : patOk ps = (ps.all (pat2 (hd0 ps).size) && decide (1 ≤ ps.length ∧ ps.length ≤ 32)) := by
  cases ps with
  | nil => rfl
  | cons s r =>
    rw [Bool.eq_iff_iff]
    unfold patOk pat1 pat2
    simp only [Bool.and_eq_true, decide_eq_true_eq, List.all_eq_true]
    constructor
    · rintro ⟨⟨h1, h2⟩, h3⟩
      exact ⟨fun x hx => ⟨⟨(h3 x hx).1, by rw [(h3 x hx).2]; exact h2⟩, (h3 x hx).2⟩, h1⟩
    · rintro ⟨h1, h2⟩
      exact ⟨⟨h2, (h1 s List.mem_cons_self).1.2⟩, fun x hx => ⟨(h1 x hx).1.1, (h1 x hx).2⟩⟩
theorem pat_bad {ps : List ByteArray} {s : ByteArray} (hs : s ∈ ps) (h : pat2 (hd0 ps).size s = false) : patOk ps = false := by
  rw [pat_is]
  have : ps.all (pat2 (hd0 ps).size) = false := by
    rw [List.all_eq_false]; exact ⟨s, hs, by rw [h]; simp⟩
  rw [this]; rfl
theorem hd0_at {ps : List ByteArray} (h : 0 < ps.length) : ps[0]? = some (hd0 ps) := by
  cases ps with
  | nil => simp at h
  | cons s r => rfl
theorem all_take {ps : List ByteArray} {p : ByteArray → Bool} {k : Nat} {s : ByteArray} (h : ps[k]? = some s) (ha : (ps.take k).all p = true) (hp : p s = true) : (ps.take (k + 1)).all p = true := by
  rw [List.take_add_one, h, List.all_append, ha]; simp [hp]
set_option maxRecDepth 4000 in
set_option maxHeartbeats 1000000 in
theorem iPatchOk_any (ps : List ByteArray) (A : Option Addr) (c B : Nat) (w : World) (hn : ps.length ≤ 4294967296) (hsz : ∀ s ∈ ps, s.size ≤ maxLen) (hrd : Rds w B A (ps.map Value.string)) :
    Calls Tryz.prog 107 #[.slice A ps.length c] w fun e w' => e = .returned (.bool (patOk ps)) ∧ w = w' := by
  obtain ⟨n0, hn0⟩ : ∃ n, (hd0 ps).size = n := ⟨_, rfl⟩
  obtain ⟨r, hr⟩ : ∃ r, patOk ps = r := ⟨_, rfl⟩
  rw [hr]
  have HR := Lib.hid hr; have HN0 := Lib.hid hn0; have HZ := Lib.hid hsz; have HRD := Lib.hid hrd
  clear hr hn0 hsz hrd
  go_enter Tryz.func107, Tryz.ntmps107
  go_wp2_with fail
  go_loop [4, 7] (fun _ i => ∃ k : Nat, k ≤ ps.length ∧ i = .int .i64 k ∧ (ps.take k).all (pat2 n0) = true) (fun _ i => ps.length - (intOf i).toNat)
  case atStart => exact ⟨0, by omega, rfl, rfl⟩
  case round =>
    obtain ⟨k, hk, rfl, hg⟩ := hrel
    have HG := Lib.hid hg; clear hg
    by_cases hlt : k < ps.length
    · obtain ⟨s, hs⟩ := some_of_lt (l := ps) (k := k) hlt
      obtain ⟨ad, hA, hc⟩ := HRD.out.at_ (map_at Value.string hs)
      subst hA
      have h0 := hd0_at (ps := ps) (by omega)
      obtain ⟨ad', hA', hc0⟩ := HRD.out.at_ (map_at Value.string h0)
      injection hA' with hA'
      subst hA'
      have hc00 : w.cell? ad = some (.string (hd0 ps)) := by simpa [Addr.add] using hc0
      have hz0 : ((hd0 ps).size : Int) = (n0 : Int) := by rw [HN0.out]
      have hm := List.mem_of_getElem? hs
      have hsz := HZ.out s hm
      have hst := fun h => all_take (p := pat2 n0) hs HG.out h
      have hbad := fun (h : pat2 n0 s = false) => (pat_bad hm (by rw [HN0.out]; exact h) : patOk ps = false)
      have HST := Lib.hid hst; have HBAD := Lib.hid hbad
      obtain ⟨h00, hh00⟩ : ∃ h, hd0 ps = h := ⟨_, rfl⟩
      rw [hh00] at hc00 hz0
      clear hs h0 hc0 hm hst hbad hh00
      cases h1 : isW (L s)
      · have H1 := Lib.hid h1
        have hrf : r = false := by rw [← HR.out]; exact HBAD.out (by rw [pat2, h1]; rfl)
        subst hrf
        clear h1
        go_wp2_with (go_at_call 70; with_reducible refine (isWord_is s _ hsz H1.out _).mono ?_; rintro e w' ⟨rfl, rfl⟩)
        go_ret
        exact ⟨rfl, rfl⟩
      · have H1 := Lib.hid h1
        by_cases h2 : 1 ≤ s.size ∧ s.size ≤ 32
        · have H2 := Lib.hid (fun (z : Int) (hz : 1 ≤ z ∧ z ≤ 32) w => within_yes z 1 32 hz w)
          by_cases h3 : s.size = n0
          · have hn := HST.out (by rw [pat2, h1, decide_eq_true h2, decide_eq_true h3]; rfl)
            have h3' : (s.size : Int) = (h00.size : Int) := by omega
            have HN := Lib.hid hn
            clear h1 hn
            go_wp2_with (first
              | (go_at_call 70; with_reducible refine (isWord_is s _ hsz H1.out _).mono ?_; rintro e w' ⟨rfl, rfl⟩)
              | (go_at_call 61; with_reducible refine (H2.out _ (by omega) _).mono ?_; rintro e w' ⟨rfl, rfl⟩))
            go_round
            case rel => exact ⟨k + 1, by omega, by go_num, HN.out⟩
            case measure => simp [intOf]; omega
          · have hrf : r = false := by rw [← HR.out]; exact HBAD.out (by rw [pat2, decide_eq_false h3, Bool.and_false])
            have h3' : ¬ (s.size : Int) = (h00.size : Int) := by omega
            subst hrf
            clear h1
            go_wp2_with (first
              | (go_at_call 70; with_reducible refine (isWord_is s _ hsz H1.out _).mono ?_; rintro e w' ⟨rfl, rfl⟩)
              | (go_at_call 61; with_reducible refine (H2.out _ (by omega) _).mono ?_; rintro e w' ⟨rfl, rfl⟩))
            go_ret
            exact ⟨rfl, rfl⟩
        · have H2 := Lib.hid (fun w => within_no (s.size : Int) 1 32 (by omega) w)
          have hrf : r = false := by rw [← HR.out]; exact HBAD.out (by rw [pat2, decide_eq_false h2, Bool.and_false, Bool.false_and])
          subst hrf
          clear h1 h2
          go_wp2_with (first
            | (go_at_call 70; with_reducible refine (isWord_is s _ hsz H1.out _).mono ?_; rintro e w' ⟨rfl, rfl⟩)
            | (go_at_call 61; with_reducible refine (H2.out _).mono ?_; rintro e w' ⟨rfl, rfl⟩))
          go_ret
          exact ⟨rfl, rfl⟩
    · have hall : ps.all (pat2 n0) = true := by have := HG.out; rwa [List.take_of_length_le (by omega)] at this
      have hfin : r = decide (1 ≤ ps.length ∧ ps.length ≤ 32) := by
        rw [← HR.out, pat_is, HN0.out, hall, Bool.true_and]
      by_cases hl : 1 ≤ ps.length ∧ ps.length ≤ 32
      · rw [decide_eq_true hl] at hfin
        subst hfin
        have H2 := Lib.hid (fun w => within_yes (ps.length : Int) 1 32 ⟨by omega, by omega⟩ w)
        clear hall hl
        go_wp2_with (go_at_call 61; with_reducible refine (H2.out _).mono ?_; rintro e w' ⟨rfl, rfl⟩)
        go_ret
        exact ⟨rfl, rfl⟩
      · rw [decide_eq_false hl] at hfin
        subst hfin
        have H2 := Lib.hid (fun w => within_no (ps.length : Int) 1 32 (by omega) w)
        clear hall hl
        go_wp2_with (go_at_call 61; with_reducible refine (H2.out _).mono ?_; rintro e w' ⟨rfl, rfl⟩)
        go_ret
        exact ⟨rfl, rfl⟩
end Go.Proofs.YtbegecoocgkbiaaGreatDoor
