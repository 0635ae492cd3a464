/- Helpers of the great laws: has, sum, starts, equal. -/
import Derived.Test.YtfjmopiofcbpgaaMiss
import Derived.Test.YtfjmopiofcbpgaaHelp
import Derived.Test.YtfjmopiofcbpgaaStr
namespace Go.Proofs.Ytfjmopiofcbpgaa
open Go.RowKit
set_option linter.unusedVariables false

set_option maxHeartbeats 400000 in
theorem lhas_any (zs : List Int) (x : Int) (A : Option Addr) (c B n : Nat) (w : World) (hl : zs.length = n) (hn : n ≤ 4294967296) (hrd : Rds w B A (zs.map (Value.int .i64))) :
    Calls Try.prog 27 #[.slice A n c, .int .i64 x] w fun e w' => e = .returned (.bool (decide (x ∈ zs))) ∧ w = w' := by
  subst hl
  have HR := Lib.hid hrd; clear hrd
  go_enter Try.func27, Try.ntmps27
  go_wp2_with fail
  go_loop [6, 9] (fun _ i => ∃ k : Nat, k ≤ zs.length ∧ i = .int .i64 k ∧ decide (x ∈ zs.drop k) = decide (x ∈ zs)) (fun _ i => zs.length - (intOf i).toNat)
  case atStart => exact ⟨0, by omega, rfl, rfl⟩
  case round =>
    obtain ⟨k, hk, rfl, hg⟩ := hrel
    have HG := Lib.hid hg; clear hg
    by_cases hlt : k < zs.length
    · obtain ⟨z, hz⟩ := some_of_lt (l := zs) (k := k) hlt
      obtain ⟨ad, rfl, hc⟩ := HR.out.at_ (map_at (Value.int .i64) hz)
      have HD := Lib.hid (drop_at_list hz); clear hz
      by_cases hx : z = x
      · subst hx
        go_wp2_with fail
        go_ret
        exact ⟨ret_bool (by rw [← HG.out, HD.out]; simp), rfl⟩
      · have hb : (z == x) = false := by simpa using hx
        have HX := Lib.hid hx; clear hx
        go_wp2_with fail
        go_round
        case rel => exact ⟨k + 1, by omega, by go_num, by rw [← HG.out, HD.out]; have := HX.out; simp [Ne.symm this]⟩
        case measure => simp [intOf]; omega
    · have h0 : zs.drop k = [] := List.drop_eq_nil_of_le (by omega)
      have H0 := Lib.hid h0; clear h0
      go_wp2_with fail
      go_ret
      exact ⟨ret_bool (by rw [← HG.out, H0.out]; simp), rfl⟩
def sumL : List Int → Int
  | [] => 0
  | z :: l => z + sumL l
theorem sumL_bd {l : List Int} {b : Int} (hb : 0 ≤ b) (h : ∀ z ∈ l, 0 ≤ z ∧ z ≤ b) : 0 ≤ sumL l ∧ sumL l ≤ b * l.length := by
  induction l with
  | nil => simp [sumL]
  | cons z l ih =>
    have h1 := ih (fun y hy => h y (List.mem_cons_of_mem _ hy))
    have h2 := h z (by simp)
    rw [sumL, List.length_cons, Int.natCast_succ, Int.mul_add, Int.mul_one]
    omega
theorem sumL_list : ∀ l : List Int, sumL l = l.sum
  | [] => rfl
  | z :: l => by rw [sumL, sumL_list l, List.sum_cons]
theorem sumL_app (a b : List Int) : sumL (a ++ b) = sumL a + sumL b := by
  induction a with
  | nil => simp [sumL]
  | cons z a ih => rw [List.cons_append, sumL, sumL, ih]; omega
set_option maxHeartbeats 400000 in
theorem lsum_any (zs : List Int) (A : Option Addr) (c B n : Nat) (w : World) (hl : zs.length = n) (hn : n ≤ 1000000) (hz : ∀ z ∈ zs, 0 ≤ z ∧ z ≤ 1000000) (hrd : Rds w B A (zs.map (Value.int .i64))) :
    Calls Try.prog 8 #[.slice A n c] w fun e w' => e = .returned (.int .i64 (sumL zs)) ∧ w = w' := by
  subst hl
  have HR := Lib.hid hrd; have HZ := Lib.hid hz; clear hrd hz
  go_enter Try.func8, Try.ntmps8
  go_wp2_with fail
  go_loop [3, 5, 8] (fun a _ i => ∃ k : Nat, k ≤ zs.length ∧ i = .int .i64 k ∧ a = .int .i64 (sumL (zs.take k))) (fun _ _ i => zs.length - (intOf i).toNat)
  case atStart => exact ⟨0, by omega, rfl, rfl⟩
  case round =>
    obtain ⟨k, hk, rfl, rfl⟩ := hrel
    by_cases hlt : k < zs.length
    · obtain ⟨z, hz⟩ := some_of_lt (l := zs) (k := k) hlt
      obtain ⟨ad, rfl, hc⟩ := HR.out.at_ (map_at (Value.int .i64) hz)
      obtain ⟨z0, z1⟩ := HZ.out z (List.mem_of_getElem? hz)
      obtain ⟨t0, t1⟩ := sumL_bd (l := zs.take k) (b := 1000000) (by omega) (fun y hy => HZ.out y (List.mem_of_mem_take hy))
      have ht : sumL (zs.take (k + 1)) = sumL (zs.take k) + z := by
        rw [List.take_add_one, hz, sumL_app]; simp [sumL]
      rw [List.length_take] at t1
      have t2 : sumL (zs.take k) ≤ 1000000 * 1000000 := by omega
      obtain ⟨S, hS⟩ : ∃ S, sumL (zs.take k) = S := ⟨_, rfl⟩
      rw [hS] at ht t0 t2 ⊢
      have HT := Lib.hid ht
      clear ht hz t1 hS
      go_wp2_with fail
      go_round
      case rel => exact ⟨k + 1, by omega, by go_num, by rw [HT.out]⟩
      case measure => simp [intOf]; omega
    · have hkn : k = zs.length := by omega
      have ht : zs.take k = zs := List.take_of_length_le (by omega)
      rw [ht]
      have hlt2 : decide ((k : Int) < (zs.length : Int)) = false := decide_eq_false (by omega)
      clear ht hkn
      go_wp2_with fail
      go_ret
      exact ⟨rfl, rfl⟩
set_option maxHeartbeats 400000 in
theorem lequal_same (xs : List ByteArray) (A A' : Option Addr) (c c' B B' n : Nat) (w : World) (hl : xs.length = n) (hn : n ≤ 1000000) (hx : Rds w B A (xs.map Value.string)) (hy : Rds w B' A' (xs.map Value.string)) :
    Calls Try.prog 34 #[.slice A n c, .slice A' n c'] w fun e w' => e = .returned (.bool true) ∧ Dr w w' := by
  subst hl
  have HX := Lib.hid hx; have HY := Lib.hid hy; clear hx hy
  go_enter Try.func34, Try.ntmps34
  go_wp2_with fail
  go_loopw [5, 6, 14] (fun _ _ i wr => ∃ k : Nat, k ≤ xs.length ∧ i = .int .i64 k ∧ Dr w wr) (fun _ _ i _ => xs.length - (intOf i).toNat)
  case atStart => exact ⟨0, by omega, rfl, Dr.refl _⟩
  case round =>
    obtain ⟨k, hk, rfl, hd⟩ := hrel
    by_cases hlt : k < xs.length
    · obtain ⟨x, hx⟩ := some_of_lt (l := xs) (k := k) hlt
      obtain ⟨ad, rfl, hc⟩ := (HX.out.dr hd).at_ (map_at Value.string hx)
      obtain ⟨ad2, rfl, hc2⟩ := (HY.out.dr hd).at_ (map_at Value.string hx)
      clear hx
      go_wp2_with fail
      go_roundw
      case rel => exact ⟨k + 1, by omega, by go_num, hd⟩
      case measure => simp [intOf]; omega
    · have hlt2 : decide ((k : Int) < (xs.length : Int)) = false := decide_eq_false (by omega)
      go_wp2_with fail
      go_ret
      exact ⟨rfl, hd⟩
end Go.Proofs.Ytfjmopiofcbpgaa
