/- Repairs, the reference: the repaired word. No condition but the bounds. -/
import Derived.Test.YtfgifbkkclkhiaaRepS
import Derived.Test.YtfgifbkkclkhiaaRepJ
namespace Go.Proofs.Ytfgifbkkclkhiaa
open Go.RowKit
set_option linter.unusedVariables false

def totN (st : Bool) (ss : List ByteArray) (l : List UInt8) : Int := if tot st ss l < 1000 then tot st ss l else -1
set_option maxRecDepth 8000 in
set_option maxHeartbeats 2000000 in
theorem sBest_any (st : Bool) (s : ByteArray) (ss : List ByteArray) (A : Option Addr) (c B : Nat) (w : World) (hB : B ≤ w.heap.size) (hs : s.size ≤ 40) (hn : ss.length ≤ 4294967296) (hrd : Rds w B A (ss.map Value.string)) :
    Calls Try.prog 57 #[.string s, .slice A ss.length c, .bool st] w fun e w' => e = .returned (.tuple #[.string (repS st ss (L s)), .int .i64 (totN st ss (L s))]) ∧ Below w.heap.size w w' := by
  have HR := Lib.hid hrd; clear hrd
  by_cases h0 : s.size = 0
  · have hl : L s = [] := List.eq_nil_of_length_eq_zero (by rw [L_len]; exact h0)
    have he : s = ⟨#[]⟩ := bytes_ext (by rw [show s.data.toList = [] from hl])
    rw [hl]
    subst he
    go_enter Try.func57, Try.ntmps57
    go_wp2_with fail
    go_ret2
    exact ⟨rfl, Below.refl _ _⟩
  · have hne2 : s.toList.isEmpty = false := by rw [ByteArray.toList_eq]; cases hq : s.data.toList with
      | nil => exact absurd (by rw [← L_len]; show s.data.toList.length = 0; rw [hq]; rfl) h0
      | cons a b => rfl
    have hl0 : L s ≠ [] := by intro h; apply h0; rw [← L_len, h]; rfl
    have h1 : 1 ≤ s.size := by omega
    have HL0 := Lib.hid hl0; clear hl0
    clear h0
    go_enter Try.func57, Try.ntmps57
    go_wp2_with fail
    refine (sCosts_any st s ss A c B _ hB hs h1 hn HR.out).mono ?_
    rintro e w1 ⟨g, xs, rfl, hown, hxl, htab, hb1⟩
    have hgl := (World.ownsRow.lt hown g rfl).2
    have hrow : ∀ i, i < s.size → ∃ ab c2, w1.cell? ⟨g, i, none⟩ = some (.slice (some ⟨ab, 0, none⟩) 4 c2) ∧ ab < w1.heap.size ∧ ∀ n, n < 4 → w1.cell? ⟨ab, n, none⟩ = some (.int .i64 ((crow st ss (L s) i).getD n 0)) := fun i hi => by
      obtain ⟨A2, c2, hx2, hf2⟩ := htab i (Nat.zero_le _) hi
      obtain ⟨g', hg', _, _, hcel, _, _⟩ := hown.store (k := i) (by rw [hxl]; omega)
      injection hg' with hg'
      injection hg' with hg'
      subst hg'
      rw [hx2] at hcel
      have hl4 := crow_length st ss (L s) i
      obtain ⟨u, hu⟩ := some_of_lt (l := crow st ss (L s) i) (k := 0) (by rw [hl4]; omega)
      obtain ⟨ab, rfl, _, hads, _⟩ := hf2 0 _ (map_at (Value.int .i64) hu)
      refine ⟨ab, c2, hcel, hads, fun n hn => ?_⟩
      obtain ⟨u, hu⟩ := some_of_lt (l := crow st ss (L s) i) (k := n) (by rw [hl4]; omega)
      obtain ⟨ad', he', _, _, hc⟩ := hf2 n _ (map_at (Value.int .i64) hu)
      injection he' with he'
      injection he' with he'
      subst he'
      rw [hc, List.getD_eq_getElem?_getD, hu]; rfl
    have HRW := Lib.hid hrow; clear hrow hown htab hxl
    obtain ⟨ab, c2, hc0, hads, hcc⟩ := HRW.out 0 h1
    obtain ⟨v0, hv0⟩ : ∃ v, (crow st ss (L s) 0).getD 0 0 = v := ⟨_, rfl⟩
    obtain ⟨v1, hv1⟩ : ∃ v, (crow st ss (L s) 0).getD 1 0 = v := ⟨_, rfl⟩
    obtain ⟨v2, hv2⟩ : ∃ v, (crow st ss (L s) 0).getD 2 0 = v := ⟨_, rfl⟩
    obtain ⟨v3, hv3⟩ : ∃ v, (crow st ss (L s) 0).getD 3 0 = v := ⟨_, rfl⟩
    have hd0 : w1.cell? ⟨ab, 0, none⟩ = some (.int .i64 v0) := by rw [← hv0]; exact hcc 0 (by omega)
    have hd1 : w1.cell? ⟨ab, 1, none⟩ = some (.int .i64 v1) := by rw [← hv1]; exact hcc 1 (by omega)
    have hd2 : w1.cell? ⟨ab, 2, none⟩ = some (.int .i64 v2) := by rw [← hv2]; exact hcc 2 (by omega)
    have hd3 : w1.cell? ⟨ab, 3, none⟩ = some (.int .i64 v3) := by rw [← hv3]; exact hcc 3 (by omega)
    have ht : min v0 (min v1 (min v2 v3)) = total st ss (L s) := by rw [← hv0, ← hv1, ← hv2, ← hv3]; rfl
    have hm := fun w : World => run_min4 (P := Try.prog) w #[3, 3, 3, 3] 3 v0 v1 v2 v3
    rw [ht] at hm
    clear ht hv0 hv1 hv2 hv3 hcc hads
    obtain ⟨t, ht'⟩ : ∃ t, total st ss (L s) = t := ⟨_, rfl⟩
    have htb := total_bd st ss (L s)
    have t1 := htb.1
    have t2 := htb.2
    have htot : tot st ss (L s) = total st ss (L s) := by rw [tot, if_neg HL0.out]
    have hrep : total st ss (L s) < 1000 → repL st ss (L s) = pk st ss (L s) (L s).length 0 none (total st ss (L s)) := fun ht => by rw [repL, if_neg HL0.out, if_pos ht]
    have hrep2 : ¬ total st ss (L s) < 1000 → repL st ss (L s) = [] := fun ht => by rw [repL, if_neg HL0.out, if_neg ht]
    have hgs : total st ss (L s) < 1000 → Good st ss (L s) 0 none (total st ss (L s)) := good_start
    rw [ht'] at hm t1 t2 htot hrep hrep2 hgs
    have HTOT := Lib.hid htot; have HREP := Lib.hid hrep; have HREP2 := Lib.hid hrep2; have HGS := Lib.hid hgs
    clear htb htot hrep hrep2 hgs ht'
    go_wp2_with fail
    go_quiet (fail)
    clear hd0 hd1 hd2 hd3 hm hc0
    obtain ⟨w2, hw2⟩ : ∃ w2, w1.drewN nq = w2 := ⟨_, rfl⟩
    have d12 : Dr w1 w2 := ⟨nq, hw2⟩
    rw [hw2]
    clear hw2
    by_cases ht : t < 1000
    · have HTN : Hid (totN st ss (L s) = t) := by
        show totN st ss (L s) = t
        rw [totN, HTOT.out, if_pos ht]
      have HG := Lib.hid (HGS.out ht)
      have HRP := Lib.hid (HREP.out ht)
      go_wp2_with fail
      go_loopw [10, 11, 12, 13, 14] (fun wt o i _ _ wr => ∃ k : Nat, ∃ os : List Nat, ∃ left : Int, k ≤ s.size ∧ i = .int .i64 k ∧ o = .string (outS os) ∧ os.length = k ∧ wt = .int .i64 left ∧ -(k : Int) ≤ left ∧ Good st ss (L s) k os.getLast? left ∧ os ++ pk st ss (L s) (s.size - k) k os.getLast? left = repL st ss (L s) ∧ Dr w1 wr) (fun _ _ i _ _ _ => s.size - (intOf i).toNat)
      case atStart => exact ⟨0, [], t, by omega, rfl, rfl, rfl, rfl, by omega, HG.out, by rw [HRP.out, L_len]; rfl, d12⟩
      case round =>
        clear d12
        obtain ⟨i, os, left, hi, rfl, rfl, hol, rfl, hlb, hgd, hpk, hd⟩ := hrel
        have HOL := Lib.hid hol; have HGD := Lib.hid hgd; have HPK := Lib.hid hpk; clear hol hgd hpk
        have hl2 := HGD.out.1
        by_cases hlt : i < s.size
        · go_wp2_with fail
          obtain ⟨wo, rfl⟩ : ∃ wo : World, wo = wr := ⟨_, rfl⟩
          go_loopw [10, 11, 13, 14] (fun wt o i' _ wr => ∃ k : Nat, k ≤ 4 ∧ i' = .int .i64 k ∧ o = .string (outS os) ∧ wt = .int .i64 left ∧ pkK ss (crow st ss (L s) i) left os.getLast? (4 - k) k = pkK ss (crow st ss (L s) i) left os.getLast? 4 0 ∧ Dr wo wr) (fun _ _ i' _ _ => 4 - (intOf i').toNat)
          case atStart => exact ⟨0, by omega, rfl, rfl, rfl, rfl, Dr.refl _⟩
          case round =>
            obtain ⟨k, hk, rfl, rfl, rfl, hq, hd2⟩ := hrel
            have HQ := Lib.hid hq; clear hq
            by_cases hk4 : k < 4
            · obtain ⟨u, hu⟩ : ∃ u, (crow st ss (L s) i).getD k 0 = u := ⟨_, rfl⟩
              obtain ⟨ab, c2, hc0, hads, hcc⟩ := HRW.out i hlt
              have hcel := ((hd.trans hd2).below (B := g + 1)).cell (p := ⟨g, i, none⟩) (Nat.lt_succ_self _)
              rw [hc0] at hcel
              have hcell := ((hd.trans hd2).below (B := ab + 1)).cell (p := ⟨ab, k, none⟩) (Nat.lt_succ_self _)
              rw [hcc k hk4, hu] at hcell
              clear hc0 hads hcc
              have hsz1 : (outS os).size = i := by rw [outS_size, HOL.out]
              have hsz2 : (({ data := #[97, 98, 99, 100] } : ByteArray).extract k (k + 1)).size = 1 := by
                have := congrArg ByteArray.size (abcd_at k hk4); rw [strOf_size] at this; exact this
              have hx0 : (({ data := #[97, 98, 99, 100] } : ByteArray).extract k (k + 1))[0]'(by rw [hsz2]; exact Nat.zero_lt_one) = lt k := abcd_x0 k hk4 _
              obtain ⟨q, hq4⟩ : ∃ q, 4 - k = q + 1 := ⟨3 - k, by omega⟩
              have hq5 : 4 - (k + 1) = q := by omega
              by_cases hul : u = left
              · have hub : (u != left) = false := by rw [hul]; simp
                by_cases hi0 : i = 0
                · subst hi0
                  have hos : os = [] := List.eq_nil_of_length_eq_zero HOL.out
                  have hfit : fits ss (crow st ss (L s) 0) left os.getLast? k = true := by
                    unfold fits; rw [hu, decide_eq_true hul, hos]; rfl
                  clear hos
                  have hpick : pkK ss (crow st ss (L s) 0) left os.getLast? 4 0 = some k := by
                    rw [← HQ.out, hq4, pkK, if_pos hfit]
                  have hgood := good_step (st := st) HGD.out.1 (by rw [L_len]; exact hlt) hk4 hfit
                  obtain ⟨bb, hbb⟩ : ∃ bb, s[0]'hlt = bb := ⟨_, rfl⟩
                  have hbD : (L s).getD 0 0 = bb := by
                    rw [← hbb, List.getD_eq_getElem?_getD, List.getElem?_eq_getElem (by rw [L_len]; exact hlt)]; rfl
                  have hnext : (os ++ [k]) ++ pk st ss (L s) (s.size - (0 + 1)) (0 + 1) (os ++ [k]).getLast? (left' bb k left) = repL st ss (L s) := by
                    rw [← HPK.out]
                    obtain ⟨z, hz⟩ : ∃ z, s.size - 0 = z + 1 := ⟨s.size - 0 - 1, by omega⟩
                    rw [hz, pk, hpick, show s.size - (0 + 1) = z from by omega]
                    simp only [List.getLast?_append, List.getLast?_singleton, Option.some_or, hbD]
                    rw [List.append_assoc]; rfl
                  have hg2 : Good st ss (L s) (0 + 1) (os ++ [k]).getLast? (left' bb k left) := by
                    simp only [List.getLast?_append, List.getLast?_singleton, Option.some_or]
                    rw [← hbD]; exact hgood
                  have hl3 : (os ++ [k]).length = 0 + 1 := by rw [List.length_append, HOL.out]; rfl
                  have HN := Lib.hid hnext; have HG2 := Lib.hid hg2; have HL3 := Lib.hid hl3
                  have HS := Lib.hid (outS_snoc os k hk4)
                  clear hnext hg2 hl3 hgood hbD hpick hfit hq4 hq5 hu hul
                  by_cases h63 : bb = 63
                  · have hb63 : ((bb.toNat : Int) != 63) = false := by rw [h63]; rfl
                    have hleft : left' bb k left = left := by unfold left' dif; rw [h63]; rfl
                    clear h63
                    rw [hleft] at HN HG2
                    clear hleft
                    go_wp2_with (go_at_call 85; refine HCT.out.mono ?_; rintro e w3 ⟨rfl, d3⟩)
                    go_quiet (fail)
                    go_wp2_with fail
                    go_roundw
                    case rel => exact ⟨0 + 1, os ++ [k], left, by omega, by go_num, by rw [← HS.out]; rfl, HL3.out, rfl, by omega, HG2.out, HN.out, by first | exact hd.trans (hd2.trans (d3.drewN nq)) | exact hd.trans (hd2.drewN nq)⟩
                    case measure => simp [intOf]; omega
                  · have hb63 : ((bb.toNat : Int) != 63) = true := by rw [bne_iff_ne]; intro h; apply h63; apply UInt8.toNat_inj.1; show bb.toNat = 63; omega
                    by_cases hlt2 : bb = lt k
                    · have hblt : ((bb.toNat : Int) != (lt k).toNat) = false := by rw [hlt2]; simp
                      have hleft : left' bb k left = left := by unfold left' dif; rw [hlt2]; simp
                      clear hlt2 h63
                      rw [hleft] at HN HG2
                      clear hleft
                      go_wp2_with (go_at_call 85; refine HCT.out.mono ?_; rintro e w3 ⟨rfl, d3⟩)
                      go_quiet (fail)
                      go_wp2_with fail
                      go_roundw
                      case rel => exact ⟨0 + 1, os ++ [k], left, by omega, by go_num, by rw [← HS.out]; rfl, HL3.out, rfl, by omega, HG2.out, HN.out, by first | exact hd.trans (hd2.trans (d3.drewN nq)) | exact hd.trans (hd2.drewN nq)⟩
                      case measure => simp [intOf]; omega
                    · have hblt : ((bb.toNat : Int) != (lt k).toNat) = true := by rw [bne_iff_ne]; intro h; apply hlt2; apply UInt8.toNat_inj.1; omega
                      have hleft : left' bb k left = left - 1 := by unfold left' dif; simp [h63, hlt2]
                      clear hlt2 h63
                      rw [hleft] at HN HG2
                      clear hleft
                      go_wp2_with (go_at_call 85; refine HCT.out.mono ?_; rintro e w3 ⟨rfl, d3⟩)
                      go_quiet (fail)
                      go_wp2_with fail
                      go_roundw
                      case rel => exact ⟨0 + 1, os ++ [k], (left - 1), by omega, by go_num, by rw [← HS.out]; rfl, HL3.out, rfl, by omega, HG2.out, HN.out, by first | exact hd.trans (hd2.trans (d3.drewN nq)) | exact hd.trans (hd2.drewN nq)⟩
                      case measure => simp [intOf]; omega
                · have hi1 : 1 ≤ i := by omega
                  obtain ⟨p, hp⟩ : ∃ p, os.getLast? = some p := by
                    cases hq : os.getLast? with
                    | none => rw [List.getLast?_eq_none_iff] at hq; exact absurd (by rw [← HOL.out, hq]; rfl) hi0
                    | some p => exact ⟨p, rfl⟩
                  have hi0b : decide (0 < (i : Int)) = true := by simp; omega
                  have hx : (outS os).extract (i - 1) i ++ abcd.extract k (k + 1) = prS p k := by
                    have h := outS_last hp
                    rw [hsz1, HOL.out] at h
                    rw [h, abcd_at k hk4, strOf_append]; rfl
                  have hct := l06At_any ss ((outS os).extract (i - 1) i ++ abcd.extract k (k + 1)) A c B wr hn (HR.out.below (hb1.trans ((hd.trans hd2).below.mono hb1.size)) hB)
                  rw [show atIx ss ((outS os).extract (i - 1) i ++ abcd.extract k (k + 1)) = atIx ss (prS p k) from by rw [hx]] at hct
                  obtain ⟨z, hz⟩ : ∃ z, atIx ss (prS p k) = z := ⟨_, rfl⟩
                  rw [hz] at hct
                  have hzb : hasP ss p k = decide (0 ≤ z) := by rw [← hz]; rfl
                  by_cases hz0 : 0 ≤ z
                  · have hz1 : decide (z < 0) = false := decide_eq_false (by omega)
                    have hfit : fits ss (crow st ss (L s) i) left os.getLast? k = true := by
                      unfold fits; rw [hp, hu, decide_eq_true hul]; show (true && hasP ss p k) = true; rw [hzb, decide_eq_true hz0]; rfl
                    have HCT := Lib.hid hct; clear hct hx hzb hp hz
                    have hpick : pkK ss (crow st ss (L s) i) left os.getLast? 4 0 = some k := by
                      rw [← HQ.out, hq4, pkK, if_pos hfit]
                    have hgood := good_step (st := st) HGD.out.1 (by rw [L_len]; exact hlt) hk4 hfit
                    obtain ⟨bb, hbb⟩ : ∃ bb, s[i]'hlt = bb := ⟨_, rfl⟩
                    have hbD : (L s).getD i 0 = bb := by
                      rw [← hbb, List.getD_eq_getElem?_getD, List.getElem?_eq_getElem (by rw [L_len]; exact hlt)]; rfl
                    have hnext : (os ++ [k]) ++ pk st ss (L s) (s.size - (i + 1)) (i + 1) (os ++ [k]).getLast? (left' bb k left) = repL st ss (L s) := by
                      rw [← HPK.out]
                      obtain ⟨z, hz⟩ : ∃ z, s.size - i = z + 1 := ⟨s.size - i - 1, by omega⟩
                      rw [hz, pk, hpick, show s.size - (i + 1) = z from by omega]
                      simp only [List.getLast?_append, List.getLast?_singleton, Option.some_or, hbD]
                      rw [List.append_assoc]; rfl
                    have hg2 : Good st ss (L s) (i + 1) (os ++ [k]).getLast? (left' bb k left) := by
                      simp only [List.getLast?_append, List.getLast?_singleton, Option.some_or]
                      rw [← hbD]; exact hgood
                    have hl3 : (os ++ [k]).length = i + 1 := by rw [List.length_append, HOL.out]; rfl
                    have HN := Lib.hid hnext; have HG2 := Lib.hid hg2; have HL3 := Lib.hid hl3
                    have HS := Lib.hid (outS_snoc os k hk4)
                    clear hnext hg2 hl3 hgood hbD hpick hfit hq4 hq5 hu hul
                    by_cases h63 : bb = 63
                    · have hb63 : ((bb.toNat : Int) != 63) = false := by rw [h63]; rfl
                      have hleft : left' bb k left = left := by unfold left' dif; rw [h63]; rfl
                      clear h63
                      rw [hleft] at HN HG2
                      clear hleft
                      go_wp2_with (go_at_call 85; refine HCT.out.mono ?_; rintro e w3 ⟨rfl, d3⟩)
                      go_quiet (fail)
                      go_wp2_with fail
                      go_roundw
                      case rel => exact ⟨i + 1, os ++ [k], left, by omega, by go_num, by rw [← HS.out]; rfl, HL3.out, rfl, by omega, HG2.out, HN.out, by first | exact hd.trans (hd2.trans (d3.drewN nq)) | exact hd.trans (hd2.drewN nq)⟩
                      case measure => simp [intOf]; omega
                    · have hb63 : ((bb.toNat : Int) != 63) = true := by rw [bne_iff_ne]; intro h; apply h63; apply UInt8.toNat_inj.1; show bb.toNat = 63; omega
                      by_cases hlt2 : bb = lt k
                      · have hblt : ((bb.toNat : Int) != (lt k).toNat) = false := by rw [hlt2]; simp
                        have hleft : left' bb k left = left := by unfold left' dif; rw [hlt2]; simp
                        clear hlt2 h63
                        rw [hleft] at HN HG2
                        clear hleft
                        go_wp2_with (go_at_call 85; refine HCT.out.mono ?_; rintro e w3 ⟨rfl, d3⟩)
                        go_quiet (fail)
                        go_wp2_with fail
                        go_roundw
                        case rel => exact ⟨i + 1, os ++ [k], left, by omega, by go_num, by rw [← HS.out]; rfl, HL3.out, rfl, by omega, HG2.out, HN.out, by first | exact hd.trans (hd2.trans (d3.drewN nq)) | exact hd.trans (hd2.drewN nq)⟩
                        case measure => simp [intOf]; omega
                      · have hblt : ((bb.toNat : Int) != (lt k).toNat) = true := by rw [bne_iff_ne]; intro h; apply hlt2; apply UInt8.toNat_inj.1; omega
                        have hleft : left' bb k left = left - 1 := by unfold left' dif; simp [h63, hlt2]
                        clear hlt2 h63
                        rw [hleft] at HN HG2
                        clear hleft
                        go_wp2_with (go_at_call 85; refine HCT.out.mono ?_; rintro e w3 ⟨rfl, d3⟩)
                        go_quiet (fail)
                        go_wp2_with fail
                        go_roundw
                        case rel => exact ⟨i + 1, os ++ [k], (left - 1), by omega, by go_num, by rw [← HS.out]; rfl, HL3.out, rfl, by omega, HG2.out, HN.out, by first | exact hd.trans (hd2.trans (d3.drewN nq)) | exact hd.trans (hd2.drewN nq)⟩
                        case measure => simp [intOf]; omega
                  · have hz1 : decide (z < 0) = true := decide_eq_true (by omega)
                    have hfit : fits ss (crow st ss (L s) i) left os.getLast? k = false := by
                      unfold fits; rw [hp]; show (_ && hasP ss p k) = false; rw [hzb, decide_eq_false hz0, Bool.and_false]
                    have HFIT := Lib.hid hfit; have HCT := Lib.hid hct; clear hfit hct hx hzb hp hu hul hz
                    have HQ4 := Lib.hid hq4; have HQ5 := Lib.hid hq5; clear hq4 hq5
                    go_wp2_with (go_at_call 85; refine HCT.out.mono ?_; rintro e w3 ⟨rfl, d3⟩)
                    go_roundw
                    case rel => exact ⟨k + 1, by omega, by go_num, rfl, rfl, by rw [← HQ.out, HQ4.out, HQ5.out, pkK, HFIT.out]; rfl, hd2.trans d3⟩
                    case measure => simp [intOf]; omega
              · have hub : (u != left) = true := by simpa using hul
                have hfit : fits ss (crow st ss (L s) i) left os.getLast? k = false := by
                  unfold fits; rw [hu, decide_eq_false hul]; rfl
                have HFIT := Lib.hid hfit; clear hfit hu hul
                have HQ4 := Lib.hid hq4; have HQ5 := Lib.hid hq5; clear hq4 hq5
                go_wp2_with fail
                go_roundw
                case rel => exact ⟨k + 1, by omega, by go_num, rfl, rfl, by rw [← HQ.out, HQ4.out, HQ5.out, pkK, HFIT.out]; rfl, hd2⟩
                case measure => simp [intOf]; omega
            · exfalso
              have hk : k = 4 := by omega
              subst hk
              obtain ⟨m, hm, hf⟩ := HGD.out.2 (by rw [L_len]; exact hlt)
              have := pkK_none HQ.out.symm m (by omega) (by omega)
              rw [hf] at this
              cases this
        · have hin : i = s.size := by omega
          subst hin
          have hres : repS st ss (L s) = outS os := by
            rw [repS, ← HPK.out, Nat.sub_self, pk, List.append_nil]
          have HRES := Lib.hid hres; clear hres
          go_wp2_with fail
          go_ret2
          exact ⟨by rw [HRES.out, HTN.out]; rfl, hb1.trans (hd.below.mono hb1.size)⟩
    · have HTN : Hid (totN st ss (L s) = -1) := by
        show totN st ss (L s) = -1
        rw [totN, HTOT.out, if_neg ht]
      have HRE : Hid (repS st ss (L s) = outS []) := by
        show repS st ss (L s) = outS []
        rw [repS, HREP2.out (by omega)]
      go_wp2_with fail
      go_ret2
      exact ⟨by rw [HRE.out, HTN.out]; rfl, hb1.trans (d12.below.mono hb1.size)⟩
end Go.Proofs.Ytfgifbkkclkhiaa
