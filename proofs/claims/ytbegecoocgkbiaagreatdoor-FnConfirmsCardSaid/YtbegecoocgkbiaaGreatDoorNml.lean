/- NumberLine, both. Asks the shelf's text. No condition. -/
import Derived.Test.YtbegecoocgkbiaaGreatDoorSum
import Derived.Test.YtbegecoocgkbiaaGreatDoorComp
import Derived.Test.YtbegecoocgkbiaaGreatDoorFnm
namespace Go.Proofs.YtbegecoocgkbiaaGreatDoor
open Go.RowKit
set_option linter.unusedVariables false

/-- The sum of the figures of n in the notation by twos. -/
def ds (n : Nat) : Nat := if h : n = 0 then 0 else n % 2 + ds (n / 2)
termination_by n
decreasing_by omega
theorem ds_zero : ds 0 = 0 := by rw [ds]; rfl
theorem ds_pos {n : Nat} (h : n ≠ 0) : ds n = n % 2 + ds (n / 2) := by rw [ds, dif_neg h]
theorem ds_le (n : Nat) : ds n ≤ n := by
  induction n using Nat.strongRecOn with
  | ind n ih =>
    by_cases h : n = 0
    · subst h; rw [ds_zero]; exact Nat.le_refl _
    · rw [ds_pos h]; have := ih (n / 2) (by omega); omega
set_option maxRecDepth 4000 in
theorem iCls_any (n : Nat) (hn : n ≤ 1000000000000) (w : World) :
    Calls Tryz.prog 86 #[.int .i64 n, .int .i64 2] w fun e w' => e = .returned (.int .i64 (ds n % 2 : Nat)) ∧ w = w' := by
  obtain ⟨t, ht⟩ : ∃ t, ds n = t := ⟨_, rfl⟩
  have htn := ds_le n
  rw [ht] at htn ⊢
  have HT := Lib.hid ht
  clear ht
  go_enter Tryz.func86, Tryz.ntmps86
  go_wp2_with fail
  go_loop [0, 5] (fun x s => ∃ j a : Nat, j ≤ 1000000000000 ∧ a ≤ t ∧ x = .int .i64 j ∧ s = .int .i64 a ∧ a + ds j = t) (fun x _ => (intOf x).toNat)
  case atStart => exact ⟨n, 0, hn, by omega, rfl, rfl, by rw [HT.out, Nat.zero_add]⟩
  case round =>
    obtain ⟨j, a, hj, ha, rfl, rfl, hg⟩ := hrel
    by_cases h0 : j = 0
    · subst h0
      rw [ds_zero, Nat.add_zero] at hg
      subst hg
      have q1 : Int.tmod (a : Int) 2 = ((a % 2 : Nat) : Int) := by rw [Int.tmod_eq_emod_of_nonneg (by omega)]; omega
      go_wp2_with fail
      go_ret
      exact ⟨ret_int rfl, rfl⟩
    · rw [ds_pos h0] at hg
      obtain ⟨r, hr⟩ : ∃ r, j % 2 = r := ⟨_, rfl⟩
      obtain ⟨q, hq⟩ : ∃ q, j / 2 = q := ⟨_, rfl⟩
      rw [hr, hq] at hg
      have hr2 : r < 2 := by omega
      have hqj : q < j := by omega
      have hp : (0 : Int) < (j : Int) := by omega
      have q1 : Int.tmod (j : Int) 2 = (r : Int) := by rw [Int.tmod_eq_emod_of_nonneg (by omega)]; omega
      have q2 : Int.tdiv (j : Int) 2 = (q : Int) := by rw [Int.tdiv_eq_ediv_of_nonneg (by omega)]; omega
      have HG := Lib.hid hg
      have hat : a + r ≤ t := by omega
      clear hg hr hq
      go_wp2_with fail
      go_round
      case rel => exact ⟨q, a + r, by omega, hat, rfl, by go_num, by rw [← HG.out, Nat.add_assoc]⟩
      case measure => simp [intOf]; omega
theorem isBase_2 (w : World) : Calls Tryz.prog 85 #[.int .i64 2] w fun e w' => e = .returned (.bool true) ∧ w = w' := by
  have H2 := Lib.hid (fun w => within_yes (2 : Int) 2 4 ⟨by omega, by omega⟩ w)
  go_enter Tryz.func85, Tryz.ntmps85
  go_wp2_with (go_at_call 61; with_reducible refine (H2.out _).mono ?_; rintro e w1 ⟨rfl, rfl⟩)
  go_ret
  exact ⟨rfl, rfl⟩
theorem iClassOf_any (n : Nat) (hn : n ≤ 1000000000000) (w : World) :
    Calls Tryz.prog 27 #[.int .i64 n, .int .i64 2] w fun e w' => e = .returned (.int .i64 (ds n % 2 : Nat)) ∧ w = w' := by
  have H1 := Lib.hid (fun w => within_yes (n : Int) 0 1000000000000 ⟨by omega, by omega⟩ w)
  have H2 := Lib.hid (fun w => within_yes (2 : Int) 2 4 ⟨by omega, by omega⟩ w)
  have H3 := Lib.hid (fun w => iCls_any n hn w)
  go_enter Tryz.func27, Tryz.ntmps27
  go_wp2_with (first
    | (go_at_call 61; with_reducible refine (H1.out _).mono ?_; rintro e w1 ⟨rfl, rfl⟩)
    | (go_at_call 85; with_reducible refine (isBase_2 _).mono ?_; rintro e w1 ⟨rfl, rfl⟩)
    | (go_at_call 86; with_reducible refine (H3.out _).mono ?_; rintro e w1 ⟨rfl, rfl⟩))
  go_ret
  exact ⟨rfl, rfl⟩
theorem iNumeralOf_any (n : Nat) (hn : n ≤ 1000000000000) (w : World) :
    Calls Tryz.prog 24 #[.int .i64 n] w fun e w' => e = .returned (.string (strOf (numL n))) ∧ Below w.heap.size w w' := by
  have H1 := Lib.hid (fun w => within_yes (n : Int) 0 1000000000000 ⟨by omega, by omega⟩ w)
  have H3 := Lib.hid (fun w => iNum_any n hn w)
  go_enter Tryz.func24, Tryz.ntmps24
  go_wp2_with (go_at_call 61; with_reducible refine (H1.out _).mono ?_; rintro e w1 ⟨rfl, rfl⟩)
  refine (H3.out _).mono ?_
  rintro e w1 ⟨rfl, b1⟩
  go_wp2_with fail
  go_ret
  exact ⟨rfl, b1⟩
def numS (n : Nat) : ByteArray := if (numL n).length = 0 then { data := #[48] } else strOf (numL n)
noncomputable def nmlS (n : Nat) : ByteArray := { data := #[110, 117, 109, 101, 114, 97, 108, 32] } ++ numS n ++ { data := #[32, 108, 111, 119, 101, 114, 32] } ++ fmtI (low n) ++ { data := #[32, 99, 108, 97, 115, 115, 32] } ++ fmtI (ds n % 2 : Nat)
noncomputable def nmlV (n : Int) : ByteArray := if 0 ≤ n ∧ n ≤ 100000 then nmlS n.toNat else { data := #[110, 111, 110, 101] }
theorem numS_size (n : Nat) : (numS n).size ≤ 60 := by
  unfold numS
  split
  · decide
  · have := nm_len 60 n []; rw [strOf_size]; simpa [numL] using this
set_option maxRecDepth 4000 in
set_option maxHeartbeats 2000000 in
theorem iNml_any (n : Int) (w : World) (ht : TB w) :
    Calls Tryz.prog 55 #[.int .i64 n] w fun e w' => e = .returned (.string (nmlV n)) ∧ Below w.heap.size w w' := by
  by_cases hok : 0 ≤ n ∧ n ≤ 100000
  · have hv : nmlV n = nmlS n.toNat := by rw [nmlV, if_pos hok]
    rw [hv]
    have H1 := Lib.hid (fun w => within_yes n 0 100000 hok w)
    obtain ⟨hn0, hn1⟩ := hok
    obtain ⟨k, rfl⟩ : ∃ k : Nat, n = k := ⟨n.toNat, by omega⟩
    rw [Int.toNat_natCast] at hv ⊢
    have hk : k ≤ 100000 := by omega
    have H2 := Lib.hid (fun w => iNumeralOf_any k (by omega) w)
    have H3 := Lib.hid (fun w => iLowerOf_yes (k : Int) hn0 hn1 w)
    have H4 := Lib.hid (fun w => iClassOf_any k (by omega) w)
    have hfm := fun (z : Int) (hz : I64 z) (W : World) (hW : Below w.heap.size w W) => iFormatInt_any z hz W (ht.below hW)
    have hlb := low_bd (k : Int) hn0 hn1
    have hl64 : I64 (low k) := by unfold I64; omega
    have hc64 : I64 ((ds k % 2 : Nat) : Int) := by unfold I64; omega
    have f1 := fun (W : World) (hW : Below w.heap.size w W) => hfm (low k) hl64 W hW
    have f2 := fun (W : World) (hW : Below w.heap.size w W) => hfm ((ds k % 2 : Nat) : Int) hc64 W hW
    have z1 := fmtI_size hl64
    have z2 := fmtI_size hc64
    have z0 := numS_size k
    simp only [← fmtI.eq_1] at f1 f2
    rw [nmlS]
    obtain ⟨x1, hx1⟩ : ∃ x, fmtI (low k) = x := ⟨_, rfl⟩
    obtain ⟨x2, hx2⟩ : ∃ x, fmtI ((ds k % 2 : Nat) : Int) = x := ⟨_, rfl⟩
    obtain ⟨y1, hy1⟩ : ∃ y, low k = y := ⟨_, rfl⟩
    obtain ⟨y2, hy2⟩ : ∃ y, ((ds k % 2 : Nat) : Int) = y := ⟨_, rfl⟩
    rw [hx1] at f1 z1 ⊢
    rw [hx2] at f2 z2 ⊢
    rw [hy1] at f1 H3
    rw [hy2] at f2 H4
    have F1 := Lib.hid f1; have F2 := Lib.hid f2
    obtain ⟨x0, hx0⟩ : ∃ x, numS k = x := ⟨_, rfl⟩
    rw [hx0] at z0 ⊢
    have HX0 := Lib.hid hx0
    clear hx0 hx1 hx2 hy1 hy2 f1 f2 hfm hv hl64 hc64 hlb
    have n1 : ¬ 9223372036854775807 < 8 + x0.size := by omega
    have n2 : ¬ 9223372036854775807 < 8 + x0.size + 7 := by omega
    have n3 : ¬ 9223372036854775807 < 8 + x0.size + 7 + x1.size := by omega
    have n4 : ¬ 9223372036854775807 < 8 + x0.size + 7 + x1.size + 7 := by omega
    have n5 : ¬ 9223372036854775807 < 8 + x0.size + 7 + x1.size + 7 + x2.size := by omega
    go_enter Tryz.func55, Tryz.ntmps55
    go_wp2_with (go_at_call 61; with_reducible refine (H1.out _).mono ?_; rintro e w1 ⟨rfl, rfl⟩)
    refine (H2.out _).mono ?_
    rintro e w1 ⟨rfl, b1⟩
    have z9 := b1.size
    by_cases h0 : (numL k).length = 0
    · have hemp : (strOf (numL k)).toList.isEmpty = true := by
        have : numL k = [] := List.eq_nil_of_length_eq_zero h0
        rw [this, ByteArray.toList_eq]; rfl
      have hx : { data := #[48] } = x0 := by rw [← HX0.out, numS, if_pos h0]
      have HX := Lib.hid hx
      have hxs : x0.size = 1 := by rw [← hx]; rfl
      clear hx h0
      go_wp2_with fail
      rw [HX.out]
      go_wp2_with fail
      refine (H3.out _).mono ?_
      rintro e w2 ⟨rfl, b2⟩
      have b12 := b1.trans (b2.mono z9)
      go_wp2_with fail
      refine (F1.out _ b12).mono ?_
      rintro e w3 ⟨rfl, b3⟩
      have z3 := b2.size
      have b13 := b12.trans (b3.mono (by omega))
      go_wp2_with fail
      refine (H4.out _).mono ?_
      rintro e w4 ⟨rfl, rfl⟩
      go_wp2_with fail
      refine (F2.out _ b13).mono ?_
      rintro e w5 ⟨rfl, b5⟩
      have z5 := b3.size
      go_wp2_with fail
      go_ret
      exact ⟨rfl, b13.trans (b5.mono (by omega))⟩
    · have hemp : (strOf (numL k)).toList.isEmpty = false := by
        rw [ByteArray.toList_eq]
        show (L (strOf (numL k))).isEmpty = false
        rw [strOf_L]
        cases hq : numL k with
        | nil => rw [hq] at h0; exact absurd rfl h0
        | cons a b => rfl
      have hx : strOf (numL k) = x0 := by rw [← HX0.out, numS, if_neg h0]
      rw [hx] at hemp ⊢
      clear hx h0
      go_wp2_with fail
      refine (H3.out _).mono ?_
      rintro e w2 ⟨rfl, b2⟩
      have b12 := b1.trans (b2.mono z9)
      go_wp2_with fail
      refine (F1.out _ b12).mono ?_
      rintro e w3 ⟨rfl, b3⟩
      have z3 := b2.size
      have b13 := b12.trans (b3.mono (by omega))
      go_wp2_with fail
      refine (H4.out _).mono ?_
      rintro e w4 ⟨rfl, rfl⟩
      go_wp2_with fail
      refine (F2.out _ b13).mono ?_
      rintro e w5 ⟨rfl, b5⟩
      have z5 := b3.size
      go_wp2_with fail
      go_ret
      exact ⟨rfl, b13.trans (b5.mono (by omega))⟩
  · have hv : nmlV n = { data := #[110, 111, 110, 101] } := by rw [nmlV, if_neg hok]
    rw [hv]
    have H1 := Lib.hid (fun w => within_no n 0 100000 hok w)
    clear hv hok
    go_enter Tryz.func55, Tryz.ntmps55
    go_wp2_with (go_at_call 61; with_reducible refine (H1.out _).mono ?_; rintro e w1 ⟨rfl, rfl⟩)
    go_ret
    exact ⟨rfl, Below.refl _ _⟩
end Go.Proofs.YtbegecoocgkbiaaGreatDoor
