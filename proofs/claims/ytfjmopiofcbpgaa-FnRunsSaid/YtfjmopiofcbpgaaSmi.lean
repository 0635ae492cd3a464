/- Words of runs, smooth words, both: the walks. No condition but the bounds. -/
import Derived.Test.YtfjmopiofcbpgaaSmw
namespace Go.Proofs.Ytfjmopiofcbpgaa
open Go.RowKit
set_option linter.unusedVariables false

/-- The word of runs. -/
def wdS (r : List Int) : ByteArray := if small r = true then strOf (r.map lw) else ⟨#[]⟩
theorem wd_take {r : List Int} {k : Nat} {x : Int} (h : r[k]? = some x) : (r.take (k + 1)).map lw = (r.take k).map lw ++ [lw x] := by
  rw [List.take_add_one, h]; simp
theorem small_take {r : List Int} {k : Nat} {x : Int} (h : r[k]? = some x) : small (r.take (k + 1)) = (small (r.take k) && decide (x ≤ 2)) := by
  rw [List.take_add_one, h, small_append]; simp [small]
theorem small_not {r : List Int} {x : Int} (h : x ∈ r) (hx : ¬ x ≤ 2) : small r = false := by
  cases hs : small r
  · rfl
  · unfold small at hs
    rw [List.all_eq_true] at hs
    have := hs x h
    simp at this; omega
set_option maxRecDepth 4000 in
set_option maxHeartbeats 1000000 in
theorem runLetters_any (r : List Int) (A : Option Addr) (c B : Nat) (w : World) (hB : B ≤ w.heap.size) (hr : ∀ x ∈ r, 1 ≤ x ∧ x ≤ 1000) (hn : r.length ≤ 1000) (hrd : Rds w B A (r.map (Value.int .i64))) :
    Calls Try.prog 52 #[.slice A r.length c] w fun e w' => e = .returned (.tuple #[.string (wdS r), .bool (small r)]) ∧ Below w.heap.size w w' := by
  have HR := Lib.hid hrd; clear hrd
  have HX := Lib.hid hr; clear hr
  go_enter Try.func52, Try.ntmps52
  go_wp2_with fail
  go_loopw [4, 6, 10] (fun v _ i wr => ∃ k : Nat, ∃ A' c', k ≤ r.length ∧ i = .int .i64 k ∧ v = .slice A' k c' ∧ Own wr w.heap.size 5 (.slice A' k c') (byV ((r.take k).map lw)) ∧ small (r.take k) = true ∧ Below w.heap.size w wr) (fun _ _ i _ => r.length - (intOf i).toNat)
  case atStart => exact ⟨0, _, _, by omega, rfl, rfl, Own.empty (Nat.le_refl _), rfl, (Below.refl _ _).alloc (Nat.le_refl _) _⟩
  case round =>
    obtain ⟨k, A1, c1, hk, rfl, rfl, hown, hsm, hbel⟩ := hrel
    have HO := Lib.hid hown; clear hown
    by_cases hlt : k < r.length
    · obtain ⟨x, hx⟩ := some_of_lt (l := r) (k := k) hlt
      have hxb := HX.out x (List.mem_of_getElem? hx)
      obtain ⟨ad, rfl, hc⟩ := (HR.out.below hbel hB).at_ (map_at (Value.int .i64) hx)
      have hsz := hbel.size
      have hk9 : k < 4294967296 := by omega
      by_cases h2 : x ≤ 2
      · have ht := wd_take hx
        have hst := small_take hx
        rw [decide_eq_true h2] at hst
        by_cases h1 : x = 1
        · subst h1
          have ht1 : (r.take (k + 1)).map lw = (r.take k).map lw ++ [97] := ht
          have hsm1 : small (r.take (k + 1)) = (small (r.take k) && true) := hst
          clear hx ht hst hxb h2
          have HT2 := Lib.hid ht1; have HSM2 := Lib.hid hsm1
          have hdl : (byV ((r.take k).map lw)).length = k := by rw [byV_length, List.length_map, List.length_take]; omega
          have HDL := Lib.hid hdl
          clear ht1 hsm1 hdl
          go_wp2_with (at_builtin; refine wp_append1 rfl (.tmp 16) (.tmp 21) 22 rfl _ 1 Try.underlying22 info_u8 rfl rfl HO.out _ rfl rfl k HDL.out hk9 (by decide) hsz ?_)
          intro A' c' w2 hown2 hbel2 hsz2
          rw [← List.map_take, show byV ((r.take k).map lw) ++ [Value.int .u8 97] = byV ((r.take (k + 1)).map lw) from by rw [HT2.out, ← byV_snoc]; rfl] at hown2
          have HO2 := Lib.hid hown2; clear hown2
          go_wp2_with fail
          go_roundw
          case rel => exact ⟨k + 1, A', c', by omega, by go_num, rfl, HO2.out, by rw [HSM2.out, hsm]; rfl, hbel.trans hbel2⟩
          case measure => simp [intOf]; omega
        · have hx2 : x = 2 := by omega
          subst hx2
          have ht1 : (r.take (k + 1)).map lw = (r.take k).map lw ++ [98] := ht
          have hsm1 : small (r.take (k + 1)) = (small (r.take k) && true) := hst
          clear hx ht hst hxb h2 h1
          have HT2 := Lib.hid ht1; have HSM2 := Lib.hid hsm1
          have hdl : (byV ((r.take k).map lw)).length = k := by rw [byV_length, List.length_map, List.length_take]; omega
          have HDL := Lib.hid hdl
          clear ht1 hsm1 hdl
          go_wp2_with (at_builtin; refine wp_append1 rfl (.tmp 16) (.tmp 21) 22 rfl _ 1 Try.underlying22 info_u8 rfl rfl HO.out _ rfl rfl k HDL.out hk9 (by decide) hsz ?_)
          intro A' c' w2 hown2 hbel2 hsz2
          rw [← List.map_take, show byV ((r.take k).map lw) ++ [Value.int .u8 98] = byV ((r.take (k + 1)).map lw) from by rw [HT2.out, ← byV_snoc]; rfl] at hown2
          have HO2 := Lib.hid hown2; clear hown2
          go_wp2_with fail
          go_roundw
          case rel => exact ⟨k + 1, A', c', by omega, by go_num, rfl, HO2.out, by rw [HSM2.out, hsm]; rfl, hbel.trans hbel2⟩
          case measure => simp [intOf]; omega
      · have hno := small_not (List.mem_of_getElem? hx) h2
        have HNO := Lib.hid hno
        clear hx hno
        go_wp2_with fail
        go_ret2
        exact ⟨by rw [wdS, HNO.out]; rfl, hbel⟩
    · have hkn : k = r.length := by omega
      subst hkn
      rw [List.take_length] at hsm HO
      have hcv := HO.out.reads.conv (P := Try.prog) (n := r.length) (by rw [List.length_map]) 22 9 5 c1 Try.underlying22 Try.underlying5 Try.underlying9
      have HSM := Lib.hid hsm; clear hsm
      go_wp2_with fail
      go_ret2
      exact ⟨by rw [wdS, HSM.out]; rfl, hbel⟩
end Go.Proofs.Ytfjmopiofcbpgaa
