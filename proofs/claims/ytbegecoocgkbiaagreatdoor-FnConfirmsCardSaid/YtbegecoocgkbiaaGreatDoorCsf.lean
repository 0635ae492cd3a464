/- CountSquareFree(3, 6). No condition. -/
import Derived.Test.YtbegecoocgkbiaaGreatDoorPow
namespace Go.Proofs.YtbegecoocgkbiaaGreatDoor
open Go.RowKit
set_option linter.unusedVariables false

/-- The last 2 p letters are a square. -/
def sqB (l : List UInt8) (p : Nat) : Bool := (l.drop (l.length - 2 * p)).take p == l.drop (l.length - p)
theorem sqB_iff (s : ByteArray) (p : Nat) (h : 2 * p ≤ s.size) : sqB (L s) p = true ↔ (s.size - 2 * p + 2 * p ≤ s.size ∧ PerOn s (s.size - 2 * p) (2 * p) p) := by
  rw [sqB, beq_iff_eq, L_len]
  constructor
  · intro he
    refine ⟨by omega, fun k h1 h2 => ?_⟩
    have hk : (((L s).drop (s.size - 2 * p)).take p)[k - (s.size - 2 * p)]? = ((L s).drop (s.size - p))[k - (s.size - 2 * p)]? := by rw [he]
    rw [List.getElem?_take_of_lt (by omega), List.getElem?_drop, List.getElem?_drop, show s.size - 2 * p + (k - (s.size - 2 * p)) = k by omega, show s.size - p + (k - (s.size - 2 * p)) = k + p by omega] at hk
    have e1 : (L s)[k]? = some (s[k]'(by omega)) := by rw [List.getElem?_eq_getElem (by rw [L_len]; omega)]; rfl
    have e2 : (L s)[k + p]? = some (s[k + p]'(by omega)) := by rw [List.getElem?_eq_getElem (by rw [L_len]; omega)]; rfl
    rw [e1, e2] at hk
    injection hk with hk
    rw [gl0 (by omega), gl0 (by omega), hk]
  · rintro ⟨_, hp⟩
    refine List.ext_getElem? fun i => ?_
    by_cases hi : i < p
    · have h1 := hp (s.size - 2 * p + i) (by omega) (by omega)
      rw [gl0 (by omega), gl0 (by omega)] at h1
      have h2 := UInt8.toNat_inj.1 h1
      rw [List.getElem?_take_of_lt hi, List.getElem?_drop, List.getElem?_drop]
      have e1 : (L s)[s.size - 2 * p + i]? = some (s[s.size - 2 * p + i]'(by omega)) := by rw [List.getElem?_eq_getElem (by rw [L_len]; omega)]; rfl
      have e2 : (L s)[s.size - p + i]? = some (s[s.size - p + i]'(by omega)) := by rw [List.getElem?_eq_getElem (by rw [L_len]; omega)]; rfl
      rw [e1, e2, h2]
      congr 2; omega
    · rw [List.getElem?_eq_none (by rw [List.length_take]; omega), List.getElem?_eq_none (by rw [List.length_drop, L_len]; omega)]
/-- No square stands at the end. -/
def efB (l : List UInt8) : Bool := (List.range (l.length / 2)).all fun i => !(sqB l (i + 1))
set_option maxHeartbeats 1000000 in
theorem endsFree_is (s : ByteArray) (v : Bool) (hs : s.size ≤ 400) (hv : efB (L s) = v) (w : World) :
    Calls Tryz.prog 123 #[.string s] w fun e w' => e = .returned (.bool v) ∧ Dr w w' := by
  have hip := fun p (h : 2 * p ≤ s.size) w => isPow_is s (s.size - 2 * p) (2 * p) p (sqB (L s) p) hs (by omega) (by omega) (by omega) (sqB_iff s p h) w
  have HIP := Lib.hid hip; have HV := Lib.hid hv
  clear hip hv
  go_enter Tryz.func123, Tryz.ntmps123
  go_wp2_with fail
  go_loopw [3] (fun i wr => ∃ p : Nat, 1 ≤ p ∧ p ≤ s.size / 2 + 1 ∧ i = .int .i64 p ∧ (∀ q, 1 ≤ q → q < p → sqB (L s) q = false) ∧ Dr w wr) (fun i _ => s.size + 2 - (intOf i).toNat)
  case atStart => exact ⟨1, by omega, by omega, rfl, (fun q h1 h2 => by omega), Dr.refl _⟩
  case round =>
    obtain ⟨p, h1, h2, rfl, hq, hd⟩ := hrel
    have HQ := Lib.hid hq
    clear hq
    by_cases hlt : 2 * p ≤ s.size
    · have hlt2 : 2 * (p : Int) ≤ (s.size : Int) := by omega
      have hc := fun w => HIP.out p hlt w
      rw [show ((s.size - 2 * p : Nat) : Int) = (s.size : Int) - 2 * (p : Int) by omega, show ((2 * p : Nat) : Int) = 2 * (p : Int) by omega] at hc
      cases hb : sqB (L s) p with
      | true =>
        rw [hb] at hc
        have HC := Lib.hid hc
        have hvf : v = false := by
          rw [← HV.out, efB]
          cases ha : (List.range ((L s).length / 2)).all fun i => !(sqB (L s) (i + 1)) with
          | false => rfl
          | true =>
            rw [List.all_eq_true] at ha
            have := ha (p - 1) (List.mem_range.2 (by rw [L_len]; omega))
            rw [show p - 1 + 1 = p by omega, hb] at this
            cases this
        clear hc hb
        go_wp2_with fail
        refine (HC.out _).mono ?_
        rintro e w1 ⟨rfl, d1⟩
        go_wp2_with fail
        go_ret
        exact ⟨by first | rfl | (rw [hvf]; rfl), hd.trans d1⟩
      | false =>
        rw [hb] at hc
        have HC := Lib.hid hc; have HB := Lib.hid hb
        clear hc hb
        go_wp2_with fail
        refine (HC.out _).mono ?_
        rintro e w1 ⟨rfl, d1⟩
        go_wp2_with fail
        go_roundw
        case rel => exact ⟨p + 1, by omega, by omega, by go_num, (fun q h1 h2 => by
          rcases Nat.lt_or_ge q p with h | h
          · exact HQ.out q h1 h
          · obtain rfl : q = p := by omega
            exact HB.out), hd.trans d1⟩
        case measure => simp [intOf]; omega
    · have hge : ¬ 2 * (p : Int) ≤ (s.size : Int) := by omega
      have hvt : v = true := by
        rw [← HV.out, efB, List.all_eq_true]
        intro i hi
        rw [List.mem_range, L_len] at hi
        rw [HQ.out (i + 1) (by omega) (by omega)]; rfl
      go_wp2_with fail
      go_ret
      exact ⟨by first | rfl | (rw [hvt]; rfl), hd⟩
/-- The first k letters' share. -/
def cfT (g : List UInt8 → Nat) (l : List UInt8) : Nat → Nat
  | 0 => 0
  | k + 1 => cfT g l k + if efB (l ++ [UInt8.ofNat (97 + k)]) = true then g (l ++ [UInt8.ofNat (97 + k)]) else 0
def cfN : Nat → List UInt8 → Nat
  | 0, _ => 1
  | f + 1, l => cfT (cfN f) l 3
theorem cfT_le (g : List UInt8 → Nat) (l : List UInt8) (m : Nat) (hg : ∀ x, g x ≤ m) : ∀ k, cfT g l k ≤ k * m
  | 0 => by simp [cfT]
  | k + 1 => by
    have h1 := cfT_le g l m hg k
    rw [cfT, Nat.succ_mul]
    split
    · have := hg (l ++ [UInt8.ofNat (97 + k)]); omega
    · omega
theorem cfN_le : ∀ f l, cfN f l ≤ 3 ^ f
  | 0, l => by simp [cfN]
  | f + 1, l => by
    have := cfT_le (cfN f) l (3 ^ f) (cfN_le f) 3
    rw [cfN, Nat.pow_succ]; omega
theorem abcd_at : ∀ k, k < 4 → L (({ data := #[97, 98, 99, 100] } : ByteArray).extract k (k + 1)) = [UInt8.ofNat (97 + k)] := by decide +kernel
theorem cfN_36 : cfN 6 [] = 42 := by decide +kernel
set_option maxHeartbeats 2000000 in
theorem countFree_is : ∀ (f : Nat) (s : ByteArray), s.size + f = 6 → ∀ w, Calls Tryz.prog 82 #[.string s, .int .i64 3, .int .i64 6] w fun e w' => e = .returned (.int .i64 (cfN f (L s))) ∧ Dr w w' := by
  intro f
  induction f with
  | zero =>
    intro s hs w
    have h6 : s.size = 6 := by omega
    have h6i : (s.size : Int) = 6 := by omega
    have HN := Lib.hid (show cfN 0 (L s) = 1 from rfl)
    rw [HN.out]
    clear HN h6 hs
    go_enter Tryz.func82, Tryz.ntmps82
    go_wp2_with fail
    go_ret
    exact ⟨rfl, Dr.refl _⟩
  | succ f ih =>
    intro s hs w
    have hle := fun k => cfT_le (cfN f) (L s) (3 ^ f) (cfN_le f) k
    have h3f : 3 ^ f ≤ 243 := by
      have : 3 ^ f ≤ 3 ^ 5 := Nat.pow_le_pow_right (by decide) (by omega)
      omega
    have hss : s.size ≤ 5 := by omega
    have h6i : ((s.size : Int) == 6) = false := by simp; omega
    have h6n : ¬ (s.size : Int) = 6 := by omega
    obtain ⟨r, hr⟩ : ∃ r, cfN (f + 1) (L s) = r := ⟨_, rfl⟩
    have hr2 : cfT (cfN f) (L s) 3 = r := hr
    rw [hr]
    have HLE := Lib.hid hle; have HR := Lib.hid hr2; have IH := Lib.hid ih; have HS := Lib.hid hs
    clear hle hr hr2 ih hs
    go_enter Tryz.func82, Tryz.ntmps82
    go_wp2_with fail
    go_loopw [7, 8, 9, 15] (fun v _ _ i wr => ∃ k : Nat, k ≤ 3 ∧ i = .int .i64 k ∧ v = .int .i64 (cfT (cfN f) (L s) k) ∧ Dr w wr) (fun _ _ _ i _ => 4 - (intOf i).toNat)
    case atStart => exact ⟨0, by omega, rfl, rfl, Dr.refl _⟩
    case round =>
      obtain ⟨k, hk, rfl, rfl, hd⟩ := hrel
      by_cases hlt : k < 3
      · have hlt2 : (k : Int) < 3 := by omega
        have hk0 : (0 : Int) ≤ (k : Int) := by omega
        have hL := abcd_at k (by omega)
        have e1 : ({ data := #[97, 98, 99, 100] } : ByteArray).size = 4 := rfl
        obtain ⟨x, hx⟩ : ∃ x, ({ data := #[97, 98, 99, 100] } : ByteArray).extract k (k + 1) = x := ⟨_, rfl⟩
        rw [hx] at hL
        have hxz : x.size = 1 := by rw [← L_len, hL]; rfl
        have hLs : L (s ++ x) = L s ++ [UInt8.ofNat (97 + k)] := by rw [show L (s ++ x) = L s ++ L x by simp [L], hL]
        have hsz : (s ++ x).size = s.size + 1 := by rw [ByteArray.size_append, hxz]
        have n1 : ¬ 9223372036854775807 < s.size + x.size := by omega
        have hb0 := HLE.out k
        have hT : cfT (cfN f) (L s) (k + 1) = cfT (cfN f) (L s) k + if efB (L s ++ [UInt8.ofNat (97 + k)]) = true then cfN f (L s ++ [UInt8.ofNat (97 + k)]) else 0 := rfl
        obtain ⟨y, hy⟩ : ∃ y, s ++ x = y := ⟨_, rfl⟩
        rw [hy] at hLs hsz
        rw [← hLs] at hT
        have hih := fun w => IH.out y (by have := HS.out; omega) w
        have hcn := cfN_le f (L y)
        obtain ⟨a, ha⟩ : ∃ a, cfT (cfN f) (L s) k = a := ⟨_, rfl⟩
        obtain ⟨c, hc⟩ : ∃ c, cfN f (L y) = c := ⟨_, rfl⟩
        rw [ha] at hT hb0 ⊢
        rw [hc] at hT hih hcn
        have ha3 : a ≤ 729 := by
          have : k * 3 ^ f ≤ 3 * 243 := Nat.mul_le_mul (by omega) h3f
          omega
        have hc3 : c ≤ 243 := by omega
        have hef := fun v hv w => endsFree_is y v (by omega) hv w
        have HT := Lib.hid hT; have HIH := Lib.hid hih; have HEF := Lib.hid hef; have HX := Lib.hid hx; have HY := Lib.hid hy
        clear hT hih hef hL hLs hb0 hcn ha hc
        cases hb : efB (L y) with
        | true =>
          have HB := Lib.hid hb
          rw [hb, if_pos rfl] at HT
          clear hb
          go_wp2_with fail
          try rw [HX.out]
          try rw [HY.out]
          refine (HEF.out true HB.out _).mono ?_
          rintro e w1 ⟨rfl, d1⟩
          go_wp2_with fail
          refine (HIH.out _).mono ?_
          rintro e w2 ⟨rfl, d2⟩
          go_wp2_with fail
          go_roundw
          case rel => exact ⟨k + 1, by omega, by go_num, by rw [HT.out]; go_num, (hd.trans d1).trans d2⟩
          case measure => simp [intOf]; omega
        | false =>
          have HB := Lib.hid hb
          rw [hb, if_neg (by decide)] at HT
          clear hb
          go_wp2_with fail
          try rw [HX.out]
          try rw [HY.out]
          refine (HEF.out false HB.out _).mono ?_
          rintro e w1 ⟨rfl, d1⟩
          go_wp2_with fail
          go_roundw
          case rel => exact ⟨k + 1, by omega, by go_num, by rw [HT.out]; first | done | rw [Nat.add_zero], hd.trans d1⟩
          case measure => simp [intOf]; omega
      · have hk3 : k = 3 := by omega
        subst hk3
        rw [HR.out]
        go_wp2_with fail
        go_ret
        exact ⟨rfl, hd⟩
theorem csf_36 (w : World) : Calls Tryz.prog 23 #[.int .i64 3, .int .i64 6] w fun e w' => e = .returned (.int .i64 42) ∧ Dr w w' := by
  have h := fun w => countFree_is 6 { data := #[] } rfl w
  rw [show cfN 6 (L ({ data := #[] } : ByteArray)) = 42 from cfN_36] at h
  have H := Lib.hid h
  clear h
  go_enter Tryz.func23, Tryz.ntmps23
  go_wp2_with (go_at_call 61; with_reducible refine (within_yes _ _ _ (by decide) _).mono ?_; rintro e w' ⟨rfl, rfl⟩)
  refine (H.out _).mono ?_
  rintro e w1 ⟨rfl, d1⟩
  go_wp2_with fail
  go_ret
  exact ⟨rfl, d1⟩
end Go.Proofs.YtbegecoocgkbiaaGreatDoor
