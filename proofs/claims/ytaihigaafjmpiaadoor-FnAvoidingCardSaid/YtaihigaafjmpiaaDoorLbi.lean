/- LeastBan of the program, walked. Asks the shelf's text. No condition but the bounds. -/
import Derived.Test.YtaihigaafjmpiaaDoorLba
import Derived.Test.YtaihigaafjmpiaaDoorRdb
namespace Go.Proofs.YtaihigaafjmpiaaDoor
open Go.RowKit Go.Sort
set_option linter.unusedVariables false

theorem layIn_len (s : ByteArray) (n : Nat) (hn : n ≤ 4) : (layIn s n).length ≤ 256 := by
  rw [layIn_eq]
  refine Nat.le_trans (List.length_filter_le _ _) ?_
  rw [lay_len]
  calc 4 ^ n ≤ 4 ^ 4 := Nat.pow_le_pow_right (by decide) hn
    _ = 256 := by decide
theorem layIn_size (s : ByteArray) (n : Nat) {x : ByteArray} (h : x ∈ layIn s n) : x.size = n := by
  rw [layIn_eq] at h; exact lay_size n x (List.mem_filter.1 h).1
theorem lbT_len (s : ByteArray) (n : Nat) (hn : n ≤ 4) : (lbT s n).length ≤ 341 := by
  rw [lbT_eq]; exact Nat.le_trans (List.length_filter_le _ _) (lays_len n hn)
/-- What stands in the next layer. -/
def nxt (s : ByteArray) (q p j : Nat) (x : ByteArray) : List ByteArray := sprIn s ((layIn s q).take p) ++ ((List.range j).filter fun i => hasF s (strOf [ltr i])).map fun i => x ++ strOf [ltr i]
theorem nxt_zero (s : ByteArray) (q : Nat) (x : ByteArray) : nxt s q 0 0 x = [] := by simp [nxt, sprIn]
theorem nxt_yes {s : ByteArray} {q p j : Nat} {x : ByteArray} (h : hasF s (strOf [ltr j]) = true) : nxt s q p (j + 1) x = nxt s q p j x ++ [x ++ strOf [ltr j]] := by
  rw [nxt, nxt, List.range_succ, List.filter_append, List.map_append, ← List.append_assoc]; simp [h]
theorem nxt_no {s : ByteArray} {q p j : Nat} {x : ByteArray} (h : hasF s (strOf [ltr j]) = false) : nxt s q p (j + 1) x = nxt s q p j x := by
  rw [nxt, nxt, List.range_succ, List.filter_append]; simp [h]
theorem nxt_next {s : ByteArray} {q p : Nat} {x : ByteArray} (y : ByteArray) (h : (layIn s q)[p]? = some x) : nxt s q (p + 1) 0 y = nxt s q p 4 x := by
  rw [nxt, nxt, sprIn, flat_take _ _ h, ← sprIn]; simp
theorem nxt_end (s : ByteArray) (q p : Nat) (x : ByteArray) (hp : (layIn s q).length ≤ p) : nxt s q p 0 x = layIn s (q + 1) := by
  rw [nxt, List.take_of_length_le hp]; simp [layIn]
theorem sprIn_len (s : ByteArray) (l : List ByteArray) : (sprIn s l).length ≤ l.length * 4 := by
  induction l with
  | nil => simp [sprIn]
  | cons x l ih =>
    rw [sprIn, List.flatMap_cons, List.length_append, List.length_map, ← sprIn, List.length_cons, Nat.succ_mul]
    have := List.length_filter_le (fun i => hasF s (strOf [ltr i])) (List.range 4)
    rw [List.length_range] at this; omega
theorem nxt_len (s : ByteArray) (q p j : Nat) (x : ByteArray) : (nxt s q p j x).length ≤ p * 4 + j := by
  rw [nxt, List.length_append, List.length_map]
  have h1 := sprIn_len s ((layIn s q).take p)
  have h2 := List.length_filter_le (fun i => hasF s (strOf [ltr i])) (List.range j)
  rw [List.length_range] at h2
  rw [List.length_take] at h1
  have : min p (layIn s q).length * 4 ≤ p * 4 := Nat.mul_le_mul_right _ (Nat.min_le_left _ _)
  omega
/-- What stands in the program's list. -/
def gth (s : ByteArray) (q p : Nat) : List ByteArray := lbT s q ++ ((layIn s (q + 1)).take p).filter (lbQ s)
theorem gth_zero (s : ByteArray) (q : Nat) : gth s q 0 = lbT s q := by simp [gth]
theorem gth_end (s : ByteArray) (q p : Nat) (hp : (layIn s (q + 1)).length ≤ p) : gth s q p = lbT s (q + 1) := by
  rw [gth, List.take_of_length_le hp]; rfl
theorem gth_yes {s : ByteArray} {q p : Nat} {x : ByteArray} (h : (layIn s (q + 1))[p]? = some x) (hq : lbQ s x = true) : gth s q (p + 1) = gth s q p ++ [x] := by
  rw [gth, gth, List.take_add_one, h, List.filter_append, ← List.append_assoc]; simp [hq]
theorem gth_no {s : ByteArray} {q p : Nat} {x : ByteArray} (h : (layIn s (q + 1))[p]? = some x) (hq : lbQ s x = false) : gth s q (p + 1) = gth s q p := by
  rw [gth, gth, List.take_add_one, h, List.filter_append]; simp [hq]
theorem gth_len (s : ByteArray) (q p : Nat) (hq : q ≤ 3) : (gth s q p).length ≤ 600 := by
  rw [gth, List.length_append]
  have h1 := lbT_len s q (by omega)
  have h2 := List.length_filter_le (lbQ s) ((layIn s (q + 1)).take p)
  have h3 := layIn_len s (q + 1) (by omega)
  rw [List.length_take] at h2; omega
set_option maxRecDepth 4000 in
set_option maxHeartbeats 2000000 in
theorem iLeast_yes (s : ByteArray) (hs : s.size ≤ maxLen) (h0 : isW (L s) = true) (h1 : s.size ≠ 0) (w : World) (hml : MlOk w) :
    Calls Tryd.prog 18 #[.string s] w fun e w' => ∃ A c, e = .returned (.slice A (lbL s).length c) ∧ Own w' w.heap.size 9 (.slice A (lbL s).length c) ((lbL s).map Value.string) ∧ Below w.heap.size w w' := by
  have h4 := isW_size h0
  have hne : s.toList.isEmpty = false := by
    rw [ByteArray.toList_eq]
    cases hc : s.data.toList with
    | nil => have := L_len s; rw [L, hc] at this; exact absurd this.symm h1
    | cons a b => rfl
  obtain ⟨r, hr⟩ : ∃ r, lbL s = r := ⟨_, rfl⟩
  rw [hr]
  have hct := fun (g : ByteArray) (w : World) (h : MlOk w) => contains_any s g (by omega) w h
  have HR := Lib.hid hr; have H0 := Lib.hid h0; have HCT := Lib.hid hct; have HM := Lib.hid hml
  have HLIN := Lib.hid (layIn_len s); have HLSZ := Lib.hid (@layIn_size s)
  clear hr h0 hct hml
  go_enter Tryd.func18, Tryd.ntmps18
  go_wp2_with (go_at_call 24; with_reducible refine (isWord_is s _ hs H0.out _).mono ?_; rintro e w' ⟨rfl, rfl⟩)
  go_loopw [3, 4, 5, 7, 8, 9, 11, 21] (fun v l _ _ _ _ _ i wr => ∃ q g m c gy my cy : Nat, q ≤ 4 ∧ i = .int .i64 q ∧ v = .slice (some ⟨g, 0, none⟩) m c ∧ l = .slice (some ⟨gy, 0, none⟩) my cy ∧ (lbT s q).length = m ∧ (layIn s q).length = my ∧ gy ≠ g ∧ Own wr w.heap.size 9 (.slice (some ⟨g, 0, none⟩) m c) ((lbT s q).map Value.string) ∧ StrAt wr gy cy (layIn s q) ∧ Below w.heap.size w wr) (fun _ _ _ _ _ _ _ i _ => 4 - (intOf i).toNat)
  case atStart =>
    have ho := Own.empty (w := w) (E := 9) (Nat.le_refl w.heap.size)
    have bA : Below (w.alloc (.cells #[] 9)).heap.size (w.alloc (.cells #[] 9)) ((w.alloc (.cells #[] 9)).alloc (.cells #[Value.string ({ data := #[] } : ByteArray)] 9)) := (Below.refl _ _).alloc (Nat.le_refl _) _
    have ho2 := ho.below bA
    exact ⟨0, w.heap.size, 0, 0, w.heap.size + 1, 1, 1, by omega, rfl, rfl, rfl, rfl, rfl, by omega, ho2, ⟨Nat.le_refl _, by unfold maxLen; decide, by simp, fun j x h => by
      have hj : j = 0 := by have := (List.getElem?_eq_some_iff.1 h).1; simp [layIn] at this; exact this
      subst hj
      have hx : x = strOf [] := by simpa [layIn] using h.symm
      subst hx
      simp
      rfl⟩, (((Below.refl _ _).alloc (Nat.le_refl _) _).trans (bA.mono (by simp)))⟩
  case round =>
    obtain ⟨q, g, m, c, gy, my, cy, hq, rfl, rfl, rfl, hm, hmy, hne2, hown, hst, hbel⟩ := hrel
    have HO := Lib.hid hown; have HM1 := Lib.hid hm; have HMY := Lib.hid hmy; have HS := Lib.hid hst
    have hmb := lbT_len s q hq
    have hmyb := HLIN.out q hq
    rw [hm] at hmb; rw [hmy] at hmyb
    have hzr := hbel.size
    have hmr := HM.out.below hbel
    have HMR := Lib.hid hmr
    clear hown hm hmy hst hmr
    by_cases hlt : q < 4
    · have hq4 : (q : Int) < 4 := by omega
      have hgl := (World.ownsRow.lt HO.out g rfl).2
      have hgyl := HS.out.2.2.1
      have bA : Below wr.heap.size wr (wr.alloc (.cells #[] 9)) := (Below.refl _ _).alloc (Nat.le_refl _) _
      have hoA := HO.out.below bA
      have hnA : Own (wr.alloc (.cells #[] 9)) w.heap.size 9 (.slice (some ⟨wr.heap.size, 0, none⟩) 0 0) [] := (Own.empty (Nat.le_refl _)).lower hzr
      have hsA := HS.out.below bA
      have hapA : Ap (.slice (some ⟨wr.heap.size, 0, none⟩) 0 0) (.slice (some ⟨g, 0, none⟩) m c) := (ap_new HO.out).symm
      have HOA := Lib.hid hoA; have HNA := Lib.hid hnA; have HSA := Lib.hid hsA; have HAPA := Lib.hid hapA
      clear hoA hnA hsA hapA
      go_wp2_with fail
      go_loopw [5, 7, 8, 9, 26] (fun v _ _ _ i w2 => ∃ p g2 m2 c2 : Nat, ∃ x0 : ByteArray, p ≤ my ∧ i = .int .i64 p ∧ v = .slice (some ⟨g2, 0, none⟩) m2 c2 ∧ (nxt s q p 0 x0).length = m2 ∧ gy ≠ g2 ∧ Ap (.slice (some ⟨g2, 0, none⟩) m2 c2) (.slice (some ⟨g, 0, none⟩) m c) ∧ Own w2 w.heap.size 9 (.slice (some ⟨g2, 0, none⟩) m2 c2) ((nxt s q p 0 x0).map Value.string) ∧ Own w2 w.heap.size 9 (.slice (some ⟨g, 0, none⟩) m c) ((lbT s q).map Value.string) ∧ StrAt w2 gy cy (layIn s q) ∧ Below w.heap.size w w2) (fun _ _ _ _ i _ => my - (intOf i).toNat)
      case atStart => exact ⟨0, wr.heap.size, 0, 0, strOf [], by omega, rfl, rfl, by rw [nxt_zero]; rfl, by omega, HAPA.out, by rw [nxt_zero]; exact HNA.out, HOA.out, HSA.out, hbel.trans (bA.mono hzr)⟩
      case round =>
        obtain ⟨p, g2, m2, c2, x0, hp, rfl, rfl, hm2, hne3, hap2, hown2, hout2, hst2, hbel2⟩ := hrel
        have HO2 := Lib.hid hown2; have HU2 := Lib.hid hout2; have HS2 := Lib.hid hst2; have HM2 := Lib.hid hm2; have HAP2 := Lib.hid hap2
        clear hown2 hout2 hst2 hap2
        have hm2b := nxt_len s q p 0 x0
        rw [hm2] at hm2b
        clear hm2
        by_cases hplt : p < my
        · obtain ⟨x, hx⟩ := some_of_lt (l := layIn s q) (k := p) (by rw [HMY.out]; exact hplt)
          have hc := HS2.out.2.2.2 p x hx
          have hxz := HLSZ.out q (List.mem_of_getElem? hx)
          have hnx := nxt_next (strOf []) hx
          have hz0 : nxt s q p 0 x = nxt s q p 0 x0 := by simp [nxt]
          have hab := fun j (h : j < 4) => abc_at j h
          have HNX := Lib.hid hnx; have HZ0 := Lib.hid hz0; have HAB := Lib.hid hab
          clear hx hnx hz0 hab
          go_wp2_with fail
          go_loopw [5, 8, 9, 30] (fun v _ _ i w3 => ∃ j g3 m3 c3 : Nat, j ≤ 4 ∧ i = .int .i64 j ∧ v = .slice (some ⟨g3, 0, none⟩) m3 c3 ∧ (nxt s q p j x).length = m3 ∧ gy ≠ g3 ∧ Ap (.slice (some ⟨g3, 0, none⟩) m3 c3) (.slice (some ⟨g, 0, none⟩) m c) ∧ Own w3 w.heap.size 9 (.slice (some ⟨g3, 0, none⟩) m3 c3) ((nxt s q p j x).map Value.string) ∧ Own w3 w.heap.size 9 (.slice (some ⟨g, 0, none⟩) m c) ((lbT s q).map Value.string) ∧ StrAt w3 gy cy (layIn s q) ∧ Below w.heap.size w w3) (fun _ _ _ i _ => 4 - (intOf i).toNat)
          case atStart => exact ⟨0, g2, m2, c2, by omega, rfl, rfl, by rw [HZ0.out]; exact HM2.out, hne3, HAP2.out, by rw [HZ0.out]; exact HO2.out, HU2.out, HS2.out, hbel2⟩
          case round =>
            obtain ⟨j, g3, m3, c3, hj, rfl, rfl, hm3, hne4, hap3, hown3, hout3, hst3, hbel3⟩ := hrel
            have HO3 := Lib.hid hown3; have HU3 := Lib.hid hout3; have HS3 := Lib.hid hst3; have HM3 := Lib.hid hm3; have HAP3 := Lib.hid hap3
            have hm3b := nxt_len s q p j x
            rw [hm3] at hm3b
            clear hown3 hout3 hst3 hap3 hm3
            by_cases hjlt : j < 4
            · have hab := HAB.out j hjlt
              have hsz := hbel3.size
              have hsd : (strOf [ltr j]).size = 1 := rfl
              have hj4 : (j : Int) < 4 := by omega
              have hj5 : (j : Int) + 1 ≤ 4 := by omega
              have hm9 : m3 < 4294967296 := by omega
              have hl3 : ((nxt s q p j x).map Value.string).length = m3 := by rw [List.length_map]; exact HM3.out
              have HL3 := Lib.hid hl3
              have hcl := HCT.out (strOf [ltr j]) wr (HM.out.below hbel3)
              clear hl3
              cases hh : hasF s (strOf [ltr j])
              · rw [hh] at hcl
                have hno := nxt_no (p := p) (q := q) (x := x) hh
                have HCL := Lib.hid hcl; have HNO := Lib.hid hno
                clear hcl hno hh
                go_wp2_with (go_at_call 31; refine HCL.out.mono ?_; rintro e w' ⟨rfl, rfl⟩)
                go_roundw
                case rel => exact ⟨j + 1, g3, m3, c3, by omega, by go_num, rfl, by rw [HNO.out]; exact HM3.out, hne4, HAP3.out, by rw [HNO.out]; exact HO3.out, HU3.out, HS3.out, hbel3⟩
                case measure => simp [intOf]; omega
              · rw [hh] at hcl
                have hyes := nxt_yes (p := p) (q := q) (x := x) hh
                have HCL := Lib.hid hcl; have HYS := Lib.hid hyes
                clear hcl hyes hh
                go_wp2_with (first
                  | (go_at_call 31; refine HCL.out.mono ?_; rintro e w' ⟨rfl, rfl⟩)
                  | (at_builtin; refine wp_append4 rfl (.tmp 45) (.tmp 47) 23 rfl _ 16 Tryd.underlying23 info_string rfl m3 c3 rfl HO3.out _ rfl rfl HL3.out hm9 (by decide) hsz ?_))
                intro g4 c4 w4 ha4
                have hown4 := ha4.own
                rw [show (nxt s q p j x).map Value.string ++ [Value.string (x ++ strOf [ltr j])] = (nxt s q p (j + 1) x).map Value.string from by rw [HYS.out, List.map_append]; rfl] at hown4
                have hst4 := ha4.kept.str ha4.size HS3.out (.inl hne4)
                have hbs := ha4.beside _ _ _ _ HU3.out HAP3.out
                have hne5 := ha4.far gy HS3.out.2.2.1 hne4
                have hbel4 := hbel3.trans ha4.bel
                have HO4 := Lib.hid hown4; have HS4 := Lib.hid hst4; have HB := Lib.hid hbs
                clear ha4 hown4 hst4 hbs
                go_wp2_with fail
                go_roundw
                case rel => exact ⟨j + 1, g4, m3 + 1, c4, by omega, by go_num, rfl, by rw [HYS.out, List.length_append, HM3.out]; rfl, hne5, HB.out.2, HO4.out, HB.out.1, HS4.out, hbel4⟩
                case measure => simp [intOf]; omega
            · have hj4 : j = 4 := by omega
              subst hj4
              go_wp2_with fail
              go_roundw
              case rel => exact ⟨p + 1, g3, m3, c3, strOf [], by omega, by go_num, rfl, by rw [HNX.out]; exact HM3.out, hne4, HAP3.out, by rw [HNX.out]; exact HO3.out, HU3.out, HS3.out, hbel3⟩
              case measure => simp [intOf]; omega
        · have hnl := nxt_end s q p x0 (by rw [HMY.out]; omega)
          rw [hnl] at HM2 HO2
          have hst3 := HO2.out.str HM2.out
          have hap3 := HAP2.out
          have hg2g : g2 ≠ g := fun e => HAP2.out g2 rfl (by rw [e]; rfl)
          have hm2c := HLIN.out (q + 1) (by omega)
          rw [HM2.out] at hm2c
          have HS3 := Lib.hid hst3
          clear hnl hst3 hap3 hne2 hne3 hmyb
          go_wp2_with fail
          go_loopw [3, 11, 54] (fun v _ i w3 => ∃ p g3 m3 c3 : Nat, p ≤ m2 ∧ i = .int .i64 p ∧ v = .slice (some ⟨g3, 0, none⟩) m3 c3 ∧ (gth s q p).length = m3 ∧ g2 ≠ g3 ∧ Own w3 w.heap.size 9 (.slice (some ⟨g3, 0, none⟩) m3 c3) ((gth s q p).map Value.string) ∧ StrAt w3 g2 c2 (layIn s (q + 1)) ∧ Below w.heap.size w w3) (fun _ _ i _ => m2 - (intOf i).toNat)
          case atStart => exact ⟨0, g, m, c, by omega, rfl, rfl, by rw [gth_zero]; exact HM1.out, hg2g, by rw [gth_zero]; exact HU2.out, HS3.out, hbel2⟩
          case round =>
            obtain ⟨p', g3, m3, c3, hp', rfl, rfl, hm3, hne4, hown3, hst3, hbel3⟩ := hrel
            have HO3 := Lib.hid hown3; have HS4 := Lib.hid hst3; have HM3 := Lib.hid hm3
            have hm3b := gth_len s q p' (by omega)
            rw [hm3] at hm3b
            clear hown3 hst3 hm3
            by_cases hplt2 : p' < m2
            · obtain ⟨x, hx⟩ := some_of_lt (l := layIn s (q + 1)) (k := p') (by rw [HM2.out]; exact hplt2)
              have hc := HS4.out.2.2.2 p' x hx
              have hx1 : x.size ≠ 0 := by rw [HLSZ.out (q + 1) (List.mem_of_getElem? hx)]; omega
              have hx4 : x.size ≤ 4 := by rw [HLSZ.out (q + 1) (List.mem_of_getElem? hx)]; omega
              have hsz := hbel3.size
              have hcl := fun f => HCT.out f wr (HM.out.below hbel3)
              have HX := Lib.hid hx; have HCL := Lib.hid hcl
              clear hx hcl
              cases hh1 : hasF s x
              · cases hh2 : hasF s (x.extract 1 x.size)
                · have hno := gth_no (q := q) HX.out (by rw [lbQ, hh2]; simp)
                  have HNO := Lib.hid hno
                  clear hno
                  go_wp2_with (go_at_call 31; refine (HCL.out _).mono ?_; rintro e w' ⟨rfl, rfl⟩)
                  go_roundw
                  case rel => exact ⟨p' + 1, g3, m3, c3, by omega, by go_num, rfl, by rw [HNO.out]; exact HM3.out, hne4, by rw [HNO.out]; exact HO3.out, HS4.out, hbel3⟩
                  case measure => simp [intOf]; omega
                · cases hh3 : hasF s (x.extract 0 (x.size - 1))
                  · have hno := gth_no (q := q) HX.out (by rw [lbQ, hh3]; simp)
                    have HNO := Lib.hid hno
                    clear hno
                    go_wp2_with (go_at_call 31; refine (HCL.out _).mono ?_; rintro e w' ⟨rfl, rfl⟩)
                    go_roundw
                    case rel => exact ⟨p' + 1, g3, m3, c3, by omega, by go_num, rfl, by rw [HNO.out]; exact HM3.out, hne4, by rw [HNO.out]; exact HO3.out, HS4.out, hbel3⟩
                    case measure => simp [intOf]; omega
                  · have hyes := gth_yes (q := q) HX.out (by rw [lbQ, hh1, hh2, hh3]; simp)
                    have HYS := Lib.hid hyes
                    have hm9 : m3 < 4294967296 := by omega
                    have hl3 : ((gth s q p').map Value.string).length = m3 := by rw [List.length_map]; exact HM3.out
                    have HL3 := Lib.hid hl3
                    clear hyes hl3
                    go_wp2_with (first
                      | (go_at_call 31; refine (HCL.out _).mono ?_; rintro e w' ⟨rfl, rfl⟩)
                      | (at_builtin; refine wp_append4 rfl (.tmp 77) (.tmp 79) 23 rfl _ 16 Tryd.underlying23 info_string rfl m3 c3 rfl HO3.out _ rfl rfl HL3.out hm9 (by decide) hsz ?_))
                    intro g4 c4 w4 ha4
                    have hown4 := ha4.own
                    rw [show (gth s q p').map Value.string ++ [Value.string x] = (gth s q (p' + 1)).map Value.string from by rw [HYS.out, List.map_append]; rfl] at hown4
                    have hst4 := ha4.kept.str ha4.size HS4.out (.inl hne4)
                    have hne5 := ha4.far g2 HS4.out.2.2.1 hne4
                    have hbel4 := hbel3.trans ha4.bel
                    have HO4 := Lib.hid hown4; have HS5 := Lib.hid hst4
                    clear ha4 hown4 hst4
                    go_wp2_with fail
                    go_roundw
                    case rel => exact ⟨p' + 1, g4, m3 + 1, c4, by omega, by go_num, rfl, by rw [HYS.out, List.length_append, HM3.out]; rfl, hne5, HO4.out, HS5.out, hbel4⟩
                    case measure => simp [intOf]; omega
              · have hno := gth_no (q := q) HX.out (by rw [lbQ, hh1]; simp)
                have HNO := Lib.hid hno
                clear hno
                go_wp2_with (go_at_call 31; refine (HCL.out _).mono ?_; rintro e w' ⟨rfl, rfl⟩)
                go_roundw
                case rel => exact ⟨p' + 1, g3, m3, c3, by omega, by go_num, rfl, by rw [HNO.out]; exact HM3.out, hne4, by rw [HNO.out]; exact HO3.out, HS4.out, hbel3⟩
                case measure => simp [intOf]; omega
            · have hge := gth_end s q p' (by rw [HM2.out]; omega)
              rw [hge] at HO3 HM3
              clear hge
              go_wp2_with fail
              go_roundw
              case rel => exact ⟨q + 1, g3, m3, c3, g2, m2, c2, by omega, by go_num, rfl, rfl, HM3.out, HM2.out, hne4, HO3.out, HS4.out, hbel3⟩
              case measure => simp [intOf]; omega
    · have hq4 : q = 4 := by omega
      subst hq4
      have hso := sort_own (lbT s 4) g c w.heap.size wr (by rw [HM1.out]; omega) (by rw [HM1.out]; exact HO.out)
      have hsr : (srt (lbT s 4)).map encStr = (insL (lbAll s)).map Value.string := by rw [← lbT_srt s, List.map_map]; rfl
      have hsl : (insL (lbAll s)).length = m := by rw [← lbT_srt s, List.length_map, srt_len]; exact HM1.out
      rw [HM1.out, hsr] at hso
      have hlr : (insL (lbAll s)).take 8 = r := by rw [← HR.out]; rfl
      have hrl : r.length = min 8 m := by rw [← hlr, List.length_take, hsl]
      have HSO := Lib.hid hso; have HSL := Lib.hid hsl; have HLR := Lib.hid hlr; have HRL := Lib.hid hrl
      have hmc : m ≤ c := by
        obtain ⟨_, _, hv, h5, _, _⟩ := HO.out.shape
        injection hv with e1 e2 e3
        rw [List.length_map] at h5
        have := HM1.out
        omega
      clear hso hsr hsl hlr hrl
      go_wp2_with fail
      refine HSO.out.mono ?_
      rintro e w2 ⟨rfl, o2, b2⟩
      have HO2 := Lib.hid o2
      clear o2
      by_cases hm8 : m ≤ 8
      · have hmn : min (m : Int) 8 = (m : Int) := by omega
        have hr2 : r.length = m := by rw [HRL.out]; omega
        have ho9 := HO2.out
        rw [← List.take_of_length_le (l := insL (lbAll s)) (i := 8) (by rw [HSL.out]; exact hm8), HLR.out] at ho9
        have HO9 := Lib.hid ho9; have HR2 := Lib.hid hr2
        clear ho9 hr2
        go_wp2_with fail
        go_ret
        exact ⟨_, c, by rw [HR2.out]; rfl, by rw [HR2.out]; exact HO9.out, hbel.trans b2⟩
      · have hmn : min (m : Int) 8 = 8 := by omega
        have hr2 : r.length = 8 := by rw [HRL.out]; omega
        have ho9 := HO2.out.prefix_ (m := 8) (by rw [List.length_map]; exact HSL.out) (by omega)
        rw [← List.map_take, HLR.out] at ho9
        have HO9 := Lib.hid ho9; have HR2 := Lib.hid hr2
        clear ho9 hr2
        go_wp2_with fail
        go_ret
        exact ⟨_, c, by rw [HR2.out]; rfl, by rw [HR2.out]; exact HO9.out, hbel.trans b2⟩
theorem iLeast_any (s : ByteArray) (hs : s.size ≤ maxLen) (w : World) (hml : MlOk w) :
    Calls Tryd.prog 18 #[.string s] w fun e w' => ∃ A c, e = .returned (.slice A (lbV s).length c) ∧ Own w' w.heap.size 9 (.slice A (lbV s).length c) ((lbV s).map Value.string) ∧ Below w.heap.size w w' := by
  cases h0 : isW (L s)
  · have hv := lbV_no (s := s) (by rw [h0]; simp)
    rw [hv]
    have H0 := Lib.hid h0
    clear h0 hv
    go_enter Tryd.func18, Tryd.ntmps18
    go_wp2_with (go_at_call 24; with_reducible refine (isWord_is s _ hs H0.out _).mono ?_; rintro e w' ⟨rfl, rfl⟩)
    go_ret
    exact ⟨none, 0, rfl, Own.nil, Below.refl _ _⟩
  · by_cases h1 : s.size = 0
    · have hv := lbV_no (s := s) (by rw [h1]; simp)
      rw [hv]
      have hne : s.toList.isEmpty = true := by rw [ByteArray.toList_eq]; have : s.data.toList = [] := List.eq_nil_of_length_eq_zero (by rw [L_len]; exact h1); rw [this]; rfl
      have H0 := Lib.hid h0
      clear h0 hv
      go_enter Tryd.func18, Tryd.ntmps18
      go_wp2_with (go_at_call 24; with_reducible refine (isWord_is s _ hs H0.out _).mono ?_; rintro e w' ⟨rfl, rfl⟩)
      go_ret
      exact ⟨none, 0, rfl, Own.nil, Below.refl _ _⟩
    · have hv : lbV s = lbL s := by rw [lbV, if_pos ⟨h0, h1⟩]
      rw [hv]
      exact iLeast_yes s hs h0 h1 w hml
end Go.Proofs.YtaihigaafjmpiaaDoor
