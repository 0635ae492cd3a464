/- Words of runs, smooth words, both: the walks. No condition but the bounds. -/
import Derived.Test.YtfgifbkkclkhiaaSmw
namespace Go.Proofs.Ytfgifbkkclkhiaa
open Go.RowKit
set_option linter.unusedVariables false

/-- The word of runs. -/
def wdS (r : List Int) : ByteArray := if small r = true then strOf (r.map lw) else ⟨#[]⟩
theorem wd_take {r : List Int} {k : Nat} {x : Int} (h : r[k]? = some x) : (r.take (k + 1)).map lw = (r.take k).map lw ++ [lw x] := by
  rw [List.take_add_one, h]; simp
theorem small_take {r : List Int} {k : Nat} {x : Int} (h : r[k]? = some x) : small (r.take (k + 1)) = (small (r.take k) && decide (x ≤ 2)) := by
  rw [List.take_add_one, h, small_append]; simp [small]
theorem small_not {r : List Int} {x : Int} (h : x ∈ r) (hx : ¬ x ≤ 2) : small r = false := by
  cases hs : small r
  · rfl
  · unfold small at hs
    rw [List.all_eq_true] at hs
    have := hs x h
    simp at this; omega
set_option maxRecDepth 4000 in
set_option maxHeartbeats 1000000 in
theorem l24Word_any (r : List Int) (A : Option Addr) (c B : Nat) (w : World) (hB : B ≤ w.heap.size) (hr : ∀ x ∈ r, 1 ≤ x ∧ x ≤ 1000) (hn : r.length ≤ 1000) (hrd : Rds w B A (r.map (Value.int .i64))) :
    Calls Try.prog 95 #[.slice A r.length c] w fun e w' => e = .returned (.tuple #[.string (wdS r), .bool (small r)]) ∧ Below w.heap.size w w' := by
  have HR := Lib.hid hrd; clear hrd
  have HX := Lib.hid hr; clear hr
  go_enter Try.func95, Try.ntmps95
  go_wp2_with fail
  go_loopw [4, 6, 10] (fun v _ i wr => ∃ k : Nat, ∃ A' c', k ≤ r.length ∧ i = .int .i64 k ∧ v = .slice A' k c' ∧ Own wr w.heap.size 5 (.slice A' k c') (byV ((r.take k).map lw)) ∧ small (r.take k) = true ∧ Below w.heap.size w wr) (fun _ _ i _ => r.length - (intOf i).toNat)
  case atStart => exact ⟨0, _, _, by omega, rfl, rfl, Own.empty (Nat.le_refl _), rfl, (Below.refl _ _).alloc (Nat.le_refl _) _⟩
  case round =>
    obtain ⟨k, A1, c1, hk, rfl, rfl, hown, hsm, hbel⟩ := hrel
    have HO := Lib.hid hown; clear hown
    by_cases hlt : k < r.length
    · obtain ⟨x, hx⟩ := some_of_lt (l := r) (k := k) hlt
      have hxb := HX.out x (List.mem_of_getElem? hx)
      obtain ⟨ad, rfl, hc⟩ := (HR.out.below hbel hB).at_ (map_at (Value.int .i64) hx)
      have hsz := hbel.size
      have hk9 : k < 4294967296 := by omega
      by_cases h2 : x ≤ 2
      · have ht := wd_take hx
        have hst := small_take hx
        rw [decide_eq_true h2] at hst
        by_cases h1 : x = 1
        · subst h1
          have ht1 : (r.take (k + 1)).map lw = (r.take k).map lw ++ [97] := ht
          have hsm1 : small (r.take (k + 1)) = (small (r.take k) && true) := hst
          clear hx ht hst hxb h2
          have HT2 := Lib.hid ht1; have HSM2 := Lib.hid hsm1
          have hdl : (byV ((r.take k).map lw)).length = k := by rw [byV_length, List.length_map, List.length_take]; omega
          have HDL := Lib.hid hdl
          clear ht1 hsm1 hdl
          go_wp2_with (at_builtin; refine wp_append1 rfl (.tmp 16) (.tmp 21) 67 rfl _ 1 Try.underlying67 info_u8 rfl rfl HO.out _ rfl rfl k HDL.out hk9 (by decide) hsz ?_)
          intro A' c' w2 hown2 hbel2 hsz2
          rw [← List.map_take, show byV ((r.take k).map lw) ++ [Value.int .u8 97] = byV ((r.take (k + 1)).map lw) from by rw [HT2.out, ← byV_snoc]; rfl] at hown2
          have HO2 := Lib.hid hown2; clear hown2
          go_wp2_with fail
          go_roundw
          case rel => exact ⟨k + 1, A', c', by omega, by go_num, rfl, HO2.out, by rw [HSM2.out, hsm]; rfl, hbel.trans hbel2⟩
          case measure => simp [intOf]; omega
        · have hx2 : x = 2 := by omega
          subst hx2
          have ht1 : (r.take (k + 1)).map lw = (r.take k).map lw ++ [98] := ht
          have hsm1 : small (r.take (k + 1)) = (small (r.take k) && true) := hst
          clear hx ht hst hxb h2 h1
          have HT2 := Lib.hid ht1; have HSM2 := Lib.hid hsm1
          have hdl : (byV ((r.take k).map lw)).length = k := by rw [byV_length, List.length_map, List.length_take]; omega
          have HDL := Lib.hid hdl
          clear ht1 hsm1 hdl
          go_wp2_with (at_builtin; refine wp_append1 rfl (.tmp 16) (.tmp 21) 67 rfl _ 1 Try.underlying67 info_u8 rfl rfl HO.out _ rfl rfl k HDL.out hk9 (by decide) hsz ?_)
          intro A' c' w2 hown2 hbel2 hsz2
          rw [← List.map_take, show byV ((r.take k).map lw) ++ [Value.int .u8 98] = byV ((r.take (k + 1)).map lw) from by rw [HT2.out, ← byV_snoc]; rfl] at hown2
          have HO2 := Lib.hid hown2; clear hown2
          go_wp2_with fail
          go_roundw
          case rel => exact ⟨k + 1, A', c', by omega, by go_num, rfl, HO2.out, by rw [HSM2.out, hsm]; rfl, hbel.trans hbel2⟩
          case measure => simp [intOf]; omega
      · have hno := small_not (List.mem_of_getElem? hx) h2
        have HNO := Lib.hid hno
        clear hx hno
        go_wp2_with fail
        go_ret2
        exact ⟨by rw [wdS, HNO.out]; rfl, hbel⟩
    · have hkn : k = r.length := by omega
      subst hkn
      rw [List.take_length] at hsm HO
      have hcv := HO.out.reads.conv (P := Try.prog) (n := r.length) (by rw [List.length_map]) 67 9 5 c1 Try.underlying67 Try.underlying5 Try.underlying9
      have HSM := Lib.hid hsm; clear hsm
      go_wp2_with fail
      go_ret2
      exact ⟨by rw [wdS, HSM.out]; rfl, hbel⟩
set_option maxRecDepth 4000 in
set_option maxHeartbeats 1000000 in
theorem runLetters_any (r : List Int) (A : Option Addr) (c B : Nat) (w : World) (hB : B ≤ w.heap.size) (hr : ∀ x ∈ r, 1 ≤ x ∧ x ≤ 1000) (hn : r.length ≤ 1000) (hrd : Rds w B A (r.map (Value.int .i64))) :
    Calls Try.prog 113 #[.slice A r.length c] w fun e w' => e = .returned (.tuple #[.string (wdS r), .bool (small r)]) ∧ Below w.heap.size w w' := by
  have HR := Lib.hid hrd; clear hrd
  have HX := Lib.hid hr; clear hr
  go_enter Try.func113, Try.ntmps113
  go_wp2_with fail
  go_loopw [4, 6, 10] (fun v _ i wr => ∃ k : Nat, ∃ A' c', k ≤ r.length ∧ i = .int .i64 k ∧ v = .slice A' k c' ∧ Own wr w.heap.size 5 (.slice A' k c') (byV ((r.take k).map lw)) ∧ small (r.take k) = true ∧ Below w.heap.size w wr) (fun _ _ i _ => r.length - (intOf i).toNat)
  case atStart => exact ⟨0, _, _, by omega, rfl, rfl, Own.empty (Nat.le_refl _), rfl, (Below.refl _ _).alloc (Nat.le_refl _) _⟩
  case round =>
    obtain ⟨k, A1, c1, hk, rfl, rfl, hown, hsm, hbel⟩ := hrel
    have HO := Lib.hid hown; clear hown
    by_cases hlt : k < r.length
    · obtain ⟨x, hx⟩ := some_of_lt (l := r) (k := k) hlt
      have hxb := HX.out x (List.mem_of_getElem? hx)
      obtain ⟨ad, rfl, hc⟩ := (HR.out.below hbel hB).at_ (map_at (Value.int .i64) hx)
      have hsz := hbel.size
      have hk9 : k < 4294967296 := by omega
      by_cases h2 : x ≤ 2
      · have ht := wd_take hx
        have hst := small_take hx
        rw [decide_eq_true h2] at hst
        by_cases h1 : x = 1
        · subst h1
          have ht1 : (r.take (k + 1)).map lw = (r.take k).map lw ++ [97] := ht
          have hsm1 : small (r.take (k + 1)) = (small (r.take k) && true) := hst
          clear hx ht hst hxb h2
          have HT2 := Lib.hid ht1; have HSM2 := Lib.hid hsm1
          have hdl : (byV ((r.take k).map lw)).length = k := by rw [byV_length, List.length_map, List.length_take]; omega
          have HDL := Lib.hid hdl
          clear ht1 hsm1 hdl
          go_wp2_with (at_builtin; refine wp_append1 rfl (.tmp 16) (.tmp 21) 67 rfl _ 1 Try.underlying67 info_u8 rfl rfl HO.out _ rfl rfl k HDL.out hk9 (by decide) hsz ?_)
          intro A' c' w2 hown2 hbel2 hsz2
          rw [← List.map_take, show byV ((r.take k).map lw) ++ [Value.int .u8 97] = byV ((r.take (k + 1)).map lw) from by rw [HT2.out, ← byV_snoc]; rfl] at hown2
          have HO2 := Lib.hid hown2; clear hown2
          go_wp2_with fail
          go_roundw
          case rel => exact ⟨k + 1, A', c', by omega, by go_num, rfl, HO2.out, by rw [HSM2.out, hsm]; rfl, hbel.trans hbel2⟩
          case measure => simp [intOf]; omega
        · have hx2 : x = 2 := by omega
          subst hx2
          have ht1 : (r.take (k + 1)).map lw = (r.take k).map lw ++ [98] := ht
          have hsm1 : small (r.take (k + 1)) = (small (r.take k) && true) := hst
          clear hx ht hst hxb h2 h1
          have HT2 := Lib.hid ht1; have HSM2 := Lib.hid hsm1
          have hdl : (byV ((r.take k).map lw)).length = k := by rw [byV_length, List.length_map, List.length_take]; omega
          have HDL := Lib.hid hdl
          clear ht1 hsm1 hdl
          go_wp2_with (at_builtin; refine wp_append1 rfl (.tmp 16) (.tmp 21) 67 rfl _ 1 Try.underlying67 info_u8 rfl rfl HO.out _ rfl rfl k HDL.out hk9 (by decide) hsz ?_)
          intro A' c' w2 hown2 hbel2 hsz2
          rw [← List.map_take, show byV ((r.take k).map lw) ++ [Value.int .u8 98] = byV ((r.take (k + 1)).map lw) from by rw [HT2.out, ← byV_snoc]; rfl] at hown2
          have HO2 := Lib.hid hown2; clear hown2
          go_wp2_with fail
          go_roundw
          case rel => exact ⟨k + 1, A', c', by omega, by go_num, rfl, HO2.out, by rw [HSM2.out, hsm]; rfl, hbel.trans hbel2⟩
          case measure => simp [intOf]; omega
      · have hno := small_not (List.mem_of_getElem? hx) h2
        have HNO := Lib.hid hno
        clear hx hno
        go_wp2_with fail
        go_ret2
        exact ⟨by rw [wdS, HNO.out]; rfl, hbel⟩
    · have hkn : k = r.length := by omega
      subst hkn
      rw [List.take_length] at hsm HO
      have hcv := HO.out.reads.conv (P := Try.prog) (n := r.length) (by rw [List.length_map]) 67 9 5 c1 Try.underlying67 Try.underlying5 Try.underlying9
      have HSM := Lib.hid hsm; clear hsm
      go_wp2_with fail
      go_ret2
      exact ⟨by rw [wdS, HSM.out]; rfl, hbel⟩
theorem rds_drop {w : World} {B g : Nat} {xs : List Value} (h : Rds w B (some ⟨g, 0, none⟩) xs) : Rds w B (some ⟨g, 1, none⟩) (xs.drop 1) := fun k u hu => by
  rw [List.getElem?_drop] at hu
  obtain ⟨ad, he, hb, hc⟩ := h (1 + k) u hu
  injection he with he
  subst he
  refine ⟨_, rfl, hb, ?_⟩
  have h1 : (⟨g, 0, none⟩ : Addr).add (1 + k) = ⟨g, 1 + k, none⟩ := by unfold Addr.add; rw [if_neg (by omega)]; simp
  rw [h1] at hc
  have h2 : (⟨g, 1, none⟩ : Addr).add k = ⟨g, 1 + k, none⟩ := by
    unfold Addr.add
    by_cases h0 : k = 0
    · rw [if_pos h0, h0]
    · rw [if_neg h0]
  rw [h2]; exact hc
theorem rds_take {w : World} {B : Nat} {A : Option Addr} {xs : List Value} (n : Nat) (h : Rds w B A xs) : Rds w B A (xs.take n) := fun k u hu => by
  refine h k u ?_
  rw [List.getElem?_take] at hu
  split at hu
  · exact hu
  · cases hu
set_option maxRecDepth 4000 in
set_option maxHeartbeats 1000000 in
theorem l24Inner_any (s : ByteArray) (hs : s.size ≤ 1000) (w : World) :
    Calls Try.prog 96 #[.string s] w fun e w' => ∃ A c, e = .returned (.slice A (strip (runsOf (L s))).length c) ∧ Rds w' w'.heap.size A ((strip (runsOf (L s))).map (Value.int .i64)) ∧ Below w.heap.size w w' := by
  have hcall := l24Runs_any s hs w
  obtain ⟨r, hr⟩ : ∃ r, runsOf (L s) = r := ⟨_, rfl⟩
  rw [hr] at hcall ⊢
  have hrl : r.length ≤ 1000 := by rw [← hr]; have := runs_len (L s); rw [L_len] at this; omega
  obtain ⟨q, hq⟩ : ∃ q, strip r = q := ⟨_, rfl⟩
  rw [hq]
  have HQ := Lib.hid hq
  have HCL := Lib.hid hcall
  clear hr hq hcall
  go_enter Try.func96, Try.ntmps96
  go_wp2_with fail
  refine HCL.out.mono ?_
  rintro e w1 ⟨A, c, rfl, hown, hb1⟩
  by_cases h2 : r.length < 2
  · have hs2 : q = r := by rw [← HQ.out, strip, if_pos h2]
    have HO := Lib.hid hown; clear hown
    have HS2 := Lib.hid hs2; clear hs2
    go_wp2_with fail
    go_ret
    exact ⟨A, c, by rw [HS2.out]; rfl, by rw [HS2.out]; exact HO.out.reads, hb1⟩
  · obtain ⟨m, hm⟩ : ∃ m, r.length = m + 2 := ⟨r.length - 2, by omega⟩
    obtain ⟨A0, c0, hv, hc1, hc2, _⟩ := hown.shape
    injection hv with e1 e2 e3
    subst e1 e3
    rw [List.length_map, hm] at hc1
    obtain ⟨g, rfl, _, _, hcf, _, _⟩ := hown.store (k := 0) (by rw [List.length_map]; omega)
    obtain ⟨g', hg', _, _, hcl, _, _⟩ := hown.store (k := m + 1) (by rw [List.length_map]; omega)
    injection hg' with hg'
    injection hg' with hg'
    subst hg'
    obtain ⟨x, hx⟩ := some_of_lt (l := r) (k := 0) (by omega)
    obtain ⟨y, hy⟩ := some_of_lt (l := r) (k := m + 1) (by omega)
    rw [map_at (Value.int .i64) hx] at hcf
    rw [map_at (Value.int .i64) hy] at hcl
    have hgx : r.getD 0 0 = x := by rw [List.getD_eq_getElem?_getD, hx]; rfl
    have hgy : r.getD (r.length - 1) 0 = y := by rw [hm, show m + 2 - 1 = m + 1 from by omega, List.getD_eq_getElem?_getD, hy]; rfl
    have hgx1 : (r.take (m + 1)).getD 0 0 = x := by rw [List.getD_eq_getElem?_getD, List.getElem?_take, if_pos (by omega), hx]; rfl
    have hst : q = cut2 (cut1 r) := by rw [← HQ.out, strip, if_neg h2]
    have hcut1 : cut1 r = if y = 1 then r.take (m + 1) else r := by rw [cut1, hgy, hm]; rfl
    have hrd := hown.reads
    have hm9 : m + 2 ≤ 1000 := by omega
    rw [hm]
    have HRD := Lib.hid hrd; have HST := Lib.hid hst; have HC1 := Lib.hid hcut1; have HGX := Lib.hid hgx; have HG1 := Lib.hid hgx1; have HM := Lib.hid hm
    clear hown hx hy hgx hgy hgx1 hst hcut1 hrd h2 hm
    by_cases hy1 : y = 1
    · have hyb : (y == 1) = true := by simpa using hy1
      by_cases hx1 : x = 1
      · have hxb : (x == 1) = true := by simpa using hx1
        have hfin : q = (r.take (m + 1)).drop 1 := by rw [HST.out, HC1.out, if_pos hy1, cut2, HG1.out, if_pos hx1]
        have hlen : (q).length = m := by rw [hfin, List.length_drop, List.length_take, HM.out]; omega
        have HF := Lib.hid hfin; have HLQ := Lib.hid hlen
        clear hx1 hy1 hfin hlen
        go_wp2_with fail
        go_ret
        exact ⟨some ⟨g, 1, none⟩, _, by rw [HLQ.out]; rfl, by rw [HF.out, List.map_drop, List.map_take]; exact rds_drop (rds_take _ HRD.out), hb1⟩
      · have hxb : (x == 1) = false := by simpa using hx1
        have hfin : q = r.take (m + 1) := by rw [HST.out, HC1.out, if_pos hy1, cut2, HG1.out, if_neg hx1]
        have hlen : (q).length = m + 1 := by rw [hfin, List.length_take, HM.out]; omega
        have HF := Lib.hid hfin; have HLQ := Lib.hid hlen
        clear hx1 hy1 hfin hlen
        go_wp2_with fail
        go_ret
        exact ⟨some ⟨g, 0, none⟩, _, by rw [HLQ.out]; rfl, by rw [HF.out, List.map_take]; exact rds_take _ HRD.out, hb1⟩
    · have hyb : (y == 1) = false := by simpa using hy1
      by_cases hx1 : x = 1
      · have hxb : (x == 1) = true := by simpa using hx1
        have hfin : q = r.drop 1 := by rw [HST.out, HC1.out, if_neg hy1, cut2, HGX.out, if_pos hx1]
        have hlen : (q).length = m + 1 := by rw [hfin, List.length_drop, HM.out]; omega
        have HF := Lib.hid hfin; have HLQ := Lib.hid hlen
        clear hx1 hy1 hfin hlen
        go_wp2_with fail
        go_ret
        exact ⟨some ⟨g, 1, none⟩, _, by rw [HLQ.out]; rfl, by rw [HF.out, List.map_drop]; exact rds_drop HRD.out, hb1⟩
      · have hxb : (x == 1) = false := by simpa using hx1
        have hfin : q = r := by rw [HST.out, HC1.out, if_neg hy1, cut2, HGX.out, if_neg hx1]
        have hlen : (q).length = m + 2 := by rw [hfin, HM.out]
        have HF := Lib.hid hfin; have HLQ := Lib.hid hlen
        clear hx1 hy1 hfin hlen
        go_wp2_with fail
        go_ret
        exact ⟨some ⟨g, 0, none⟩, _, by rw [HLQ.out]; rfl, by rw [HF.out]; exact HRD.out, hb1⟩
end Go.Proofs.Ytfgifbkkclkhiaa
