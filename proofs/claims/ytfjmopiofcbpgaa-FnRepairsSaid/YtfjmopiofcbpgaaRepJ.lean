/- Repairs, the program: the repaired word. No condition but the bounds. -/
import Derived.Test.YtfjmopiofcbpgaaRepI
namespace Go.Proofs.Ytfjmopiofcbpgaa
open Go.RowKit
set_option linter.unusedVariables false

set_option maxHeartbeats 400000 in
theorem least_any (a b c d : Int) (w : World) :
    Calls Try.prog 91 #[.agg #[.int .i64 a, .int .i64 b, .int .i64 c, .int .i64 d]] w fun e w' => e = .returned (.int .i64 (min a (min b (min c d)))) ∧ Below w.heap.size w w' := by
  have hT := Try.underlying94
  have hinfo : (Try.prog.info? 94).map (·.size) = some 4 := by kernel_rfl
  have hm := fun w : World => run_min4 (P := Try.prog) w #[3, 3, 3, 3] 3 a b c d
  go_enter Try.func91, Try.ntmps91
  go_wp2_with fail
  go_ret
  exact ⟨rfl, (Below.refl _ _).alloc (Nat.le_refl _) _⟩
theorem outS_size (o : List Nat) : (outS o).size = o.length := by rw [outS, strOf_size, List.length_map]
theorem outS_last {o : List Nat} {p : Nat} (h : o.getLast? = some p) : (outS o).extract (o.length - 1) (outS o).size = strOf [lt p] := by
  rw [outS_size]
  obtain ⟨q, rfl⟩ := List.getLast?_eq_some_iff.1 h
  apply bytes_ext
  simp [outS, strOf, ByteArray.data_extract]
theorem outS_snoc (o : List Nat) (k : Nat) (hk : k < 4) : outS o ++ abcd.extract k (k + 1) = outS (o ++ [k]) := by
  rw [abcd_at k hk, outS, strOf_append]; simp [outS]
theorem ext_one (s : ByteArray) (i : Nat) (h : i < s.size) : s.extract i (i + 1) = strOf [s[i]] := by
  apply bytes_ext
  simp only [strOf, ByteArray.data_extract, Array.toList_extract]
  rw [List.extract_eq_take_drop, Nat.add_sub_cancel_left, List.take_one, List.head?_drop]
  simp [h]
  rfl
theorem strOf_one (a b : UInt8) : (strOf [a] = strOf [b]) ↔ a = b := by
  constructor
  · intro h
    have := congrArg L h
    rw [strOf_L, strOf_L] at this
    simpa using this
  · rintro rfl; rfl

set_option maxRecDepth 8000 in
set_option maxHeartbeats 1000000 in
theorem repaired_any (s : ByteArray) (ss : List ByteArray) (A : Option Addr) (c B : Nat) (w : World) (hB : B ≤ w.heap.size) (hs : s.size ≤ 40) (hn : ss.length ≤ 4294967296) (hrd : Rds w B A (ss.map Value.string)) :
    Calls Try.prog 67 #[.string s, .slice A ss.length c] w fun e w' => e = .returned (.tuple #[.string (repS false ss (L s)), .int .i64 (tot false ss (L s))]) ∧ Below w.heap.size w w' := by
  have HR := Lib.hid hrd; clear hrd
  by_cases h0 : s.size = 0
  · have hl : L s = [] := List.eq_nil_of_length_eq_zero (by rw [L_len]; exact h0)
    have he : s = ⟨#[]⟩ := bytes_ext (by rw [show s.data.toList = [] from hl])
    rw [hl]
    subst he
    go_enter Try.func67, Try.ntmps67
    go_wp2_with fail
    go_ret2
    exact ⟨rfl, Below.refl _ _⟩
  · have hne : (s.toList == ({ data := #[] } : ByteArray).toList) = false := str_ne (by intro h; apply h0; rw [h]; rfl)
    have hne2 : s.toList.isEmpty = false := by rw [ByteArray.toList_eq]; cases hq : s.data.toList with
      | nil => exact absurd (by rw [← L_len]; show s.data.toList.length = 0; rw [hq]; rfl) h0
      | cons a b => rfl
    have hl0 : L s ≠ [] := by intro h; apply h0; rw [← L_len, h]; rfl
    have h1 : 1 ≤ s.size := by omega
    have HL0 := Lib.hid hl0; clear hl0
    clear h0
    have hT := Try.underlying94
    have hinfo : (Try.prog.info? 94).map (·.size) = some 4 := by kernel_rfl
    go_enter Try.func67, Try.ntmps67
    go_wp2_with fail
    refine (costs_any s ss A c B _ hB hs h1 hn HR.out).mono ?_
    rintro e w1 ⟨g, xs, rfl, hown, hfil, hb1⟩
    have hrow : ∀ i n, i < s.size → n < 4 → w1.cell? ⟨g, i * 4 + n, none⟩ = some (.int .i64 ((crow false ss (L s) i).getD n 0)) := fun i n hi hn => by
      rw [hown.cell hi hn, hfil i n hi hn (by omega)]
    have hgl := hown.le.2
    have HRW := Lib.hid hrow; clear hrow hown hfil
    obtain ⟨v0, hv0⟩ : ∃ v, (crow false ss (L s) 0).getD 0 0 = v := ⟨_, rfl⟩
    obtain ⟨v1, hv1⟩ : ∃ v, (crow false ss (L s) 0).getD 1 0 = v := ⟨_, rfl⟩
    obtain ⟨v2, hv2⟩ : ∃ v, (crow false ss (L s) 0).getD 2 0 = v := ⟨_, rfl⟩
    obtain ⟨v3, hv3⟩ : ∃ v, (crow false ss (L s) 0).getD 3 0 = v := ⟨_, rfl⟩
    have hc0 : w1.cell? ⟨g, 0, none⟩ = some (.int .i64 v0) := by rw [← hv0]; exact HRW.out 0 0 h1 (by omega)
    have hc1 : w1.cell? ⟨g, 1, none⟩ = some (.int .i64 v1) := by rw [← hv1]; exact HRW.out 0 1 h1 (by omega)
    have hc2 : w1.cell? ⟨g, 2, none⟩ = some (.int .i64 v2) := by rw [← hv2]; exact HRW.out 0 2 h1 (by omega)
    have hc3 : w1.cell? ⟨g, 3, none⟩ = some (.int .i64 v3) := by rw [← hv3]; exact HRW.out 0 3 h1 (by omega)
    have ht : min v0 (min v1 (min v2 v3)) = total false ss (L s) := by rw [← hv0, ← hv1, ← hv2, ← hv3]; rfl
    have HT := Lib.hid ht; clear ht hv0 hv1 hv2 hv3
    go_wp2_with fail
    refine (least_any v0 v1 v2 v3 _).mono ?_
    rw [HT.out]
    rintro e w2 ⟨rfl, hb2⟩
    have hbel := hb1.trans (hb2.mono hb1.size)
    have HRW2 : Hid (∀ i n, i < s.size → n < 4 → w2.cell? ⟨g, i * 4 + n, none⟩ = some (.int .i64 ((crow false ss (L s) i).getD n 0))) := by
      show ∀ i n, i < s.size → n < 4 → w2.cell? ⟨g, i * 4 + n, none⟩ = some (.int .i64 ((crow false ss (L s) i).getD n 0))
      intro i n hi hn
      rw [hb2.cell (p := ⟨g, i * 4 + n, none⟩) hgl]; exact HRW.out i n hi hn
    have htb := total_bd false ss (L s)
    have t1 := htb.1
    have t2 := htb.2
    have htot : tot false ss (L s) = total false ss (L s) := by rw [tot, if_neg HL0.out]
    have HTOT := Lib.hid htot
    clear HRW hc0 hc1 hc2 hc3 hb1 hb2 hgl htb htot
    by_cases ht : total false ss (L s) < 1000
    · have hrep : repL false ss (L s) = pk false ss (L s) (L s).length 0 none (total false ss (L s)) := by rw [repL, if_neg HL0.out, if_pos ht]
      have HREP := Lib.hid hrep; clear hrep
      have HG := Lib.hid (good_start ht)
      obtain ⟨t, ht'⟩ : ∃ t, total false ss (L s) = t := ⟨_, rfl⟩
      rw [ht'] at ht t1 t2 HG HREP HTOT ⊢
      clear ht' HT
      go_wp2_with fail
      go_loopw [7, 8, 10, 11, 12, 27, 30] (fun o wt _ _ _ i _ wr => ∃ k : Nat, ∃ os : List Nat, ∃ left : Int, k ≤ s.size ∧ i = .int .i64 k ∧ o = .string (outS os) ∧ os.length = k ∧ wt = .int .i64 left ∧ -(k : Int) ≤ left ∧ Good false ss (L s) k os.getLast? left ∧ os ++ pk false ss (L s) (s.size - k) k os.getLast? left = repL false ss (L s) ∧ Dr w2 wr) (fun _ _ _ _ _ i _ _ => s.size - (intOf i).toNat)
      case atStart => exact ⟨0, [], t, by omega, rfl, rfl, rfl, rfl, by omega, HG.out, by rw [HREP.out, L_len]; rfl, Dr.refl _⟩
      case round =>
        obtain ⟨i, os, left, hi, rfl, rfl, hol, rfl, hlb, hgd, hpk, hd⟩ := hrel
        have HOL := Lib.hid hol; have HGD := Lib.hid hgd; have HPK := Lib.hid hpk; clear hol hgd hpk
        have hl2 := HGD.out.1
        by_cases hlt : i < s.size
        · go_wp2_with fail
          obtain ⟨wo, rfl⟩ : ∃ wo : World, wo = wr := ⟨_, rfl⟩
          go_loopw [7, 8, 11, 12, 30] (fun o wt _ _ i' wr => ∃ k : Nat, k ≤ 4 ∧ i' = .int .i64 k ∧ o = .string (outS os) ∧ wt = .int .i64 left ∧ pkK ss (crow false ss (L s) i) left os.getLast? (4 - k) k = pkK ss (crow false ss (L s) i) left os.getLast? 4 0 ∧ Dr wo wr) (fun _ _ _ _ i' _ => 4 - (intOf i').toNat)
          case atStart => exact ⟨0, by omega, rfl, rfl, rfl, rfl, Dr.refl _⟩
          case round =>
            obtain ⟨k, hk, rfl, rfl, rfl, hq, hd2⟩ := hrel
            have HQ := Lib.hid hq; clear hq
            by_cases hk4 : k < 4
            · obtain ⟨u, hu⟩ : ∃ u, (crow false ss (L s) i).getD k 0 = u := ⟨_, rfl⟩
              have hcell := ((hd.trans hd2).below (B := g + 1)).cell (p := ⟨g, i * 4 + k, none⟩) (Nat.lt_succ_self _)
              rw [HRW2.out i k hlt hk4, hu] at hcell
              have hsz1 : (outS os).size = i := by rw [outS_size, HOL.out]
              have hsz2 : (({ data := #[97, 98, 99, 100] } : ByteArray).extract k (k + 1)).size = 1 := by
                have := congrArg ByteArray.size (abcd_at k hk4); rw [strOf_size] at this; exact this
              obtain ⟨q, hq4⟩ : ∃ q, 4 - k = q + 1 := ⟨3 - k, by omega⟩
              have hq5 : 4 - (k + 1) = q := by omega
              by_cases hul : u = left
              · have hub : (u == left) = true := by rw [hul]; simp
                by_cases hi0 : i = 0
                · subst hi0
                  have hos : os = [] := List.eq_nil_of_length_eq_zero HOL.out
                  have hfit : fits ss (crow false ss (L s) 0) left os.getLast? k = true := by
                    unfold fits; rw [hu, decide_eq_true hul, hos]; rfl
                  rw [Nat.zero_mul, Nat.zero_add] at hcell
                  clear hos
                  have hpick : pkK ss (crow false ss (L s) 0) left os.getLast? 4 0 = some k := by
                    rw [← HQ.out, hq4, pkK, if_pos hfit]
                  have hgood := good_step (st := false) HGD.out.1 (by rw [L_len]; exact hlt) hk4 hfit
                  obtain ⟨bb, hbb⟩ : ∃ bb, s[0]'hlt = bb := ⟨_, rfl⟩
                  have hbD : (L s).getD 0 0 = bb := by
                    rw [← hbb, List.getD_eq_getElem?_getD, List.getElem?_eq_getElem (by rw [L_len]; exact hlt)]; rfl
                  have hnext : (os ++ [k]) ++ pk false ss (L s) (s.size - (0 + 1)) (0 + 1) (os ++ [k]).getLast? (left' bb k left) = repL false ss (L s) := by
                    rw [← HPK.out]
                    obtain ⟨z, hz⟩ : ∃ z, s.size - 0 = z + 1 := ⟨s.size - 0 - 1, by omega⟩
                    rw [hz, pk, hpick, show s.size - (0 + 1) = z from by omega]
                    simp only [List.getLast?_append, List.getLast?_singleton, Option.some_or, hbD]
                    rw [List.append_assoc]; rfl
                  have hg2 : Good false ss (L s) (0 + 1) (os ++ [k]).getLast? (left' bb k left) := by
                    simp only [List.getLast?_append, List.getLast?_singleton, Option.some_or]
                    rw [← hbD]; exact hgood
                  have hl3 : (os ++ [k]).length = 0 + 1 := by rw [List.length_append, HOL.out]; rfl
                  have hxt : ((s.extract 0 (0 + 1)).toList == (({ data := #[97, 98, 99, 100] } : ByteArray).extract k (k + 1)).toList) = decide (bb = lt k) := by
                    rw [str_eq, ext_one s 0 hlt, hbb]
                    show decide (strOf [bb] = abcd.extract k (k + 1)) = _
                    rw [abcd_at k hk4]
                    exact decide_eq_decide.2 (strOf_one bb (lt k))
                  have HN := Lib.hid hnext; have HG2 := Lib.hid hg2; have HL3 := Lib.hid hl3
                  have HS := Lib.hid (outS_snoc os k hk4)
                  clear hnext hg2 hl3 hgood hbD hpick hfit hq4 hq5 hu hul
                  by_cases h63 : bb = 63
                  · have hd1 : ((bb.toNat : Int) != 63) = false := by rw [h63]; rfl
                    have hleft : left' bb k left = left := by unfold left' dif; rw [h63]; rfl
                    rw [hleft] at HN HG2
                    clear hleft h63
                    go_wp2_with (go_at_call 70; refine HCT.out.mono ?_; rintro e w3 ⟨rfl, d3⟩)
                    go_roundw
                    case rel => exact ⟨0 + 1, os ++ [k], left, by omega, by go_num, by rw [← HS.out]; rfl, HL3.out, rfl, by omega, HG2.out, HN.out, by first | exact hd.trans (hd2.trans d3) | exact hd.trans hd2⟩
                    case measure => simp [intOf]; omega
                  · have hd1 : ((bb.toNat : Int) != 63) = true := by rw [bne_iff_ne]; intro h; apply h63; apply UInt8.toNat_inj.1; show bb.toNat = 63; omega
                    by_cases hlt2 : bb = lt k
                    · rw [decide_eq_true hlt2] at hxt
                      have hleft : left' bb k left = left := by unfold left' dif; rw [hlt2]; simp
                      clear hlt2
                      rw [hleft] at HN HG2
                      clear hleft h63
                      go_wp2_with (go_at_call 70; refine HCT.out.mono ?_; rintro e w3 ⟨rfl, d3⟩)
                      go_roundw
                      case rel => exact ⟨0 + 1, os ++ [k], left, by omega, by go_num, by rw [← HS.out]; rfl, HL3.out, rfl, by omega, HG2.out, HN.out, by first | exact hd.trans (hd2.trans d3) | exact hd.trans hd2⟩
                      case measure => simp [intOf]; omega
                    · rw [decide_eq_false hlt2] at hxt
                      have hleft : left' bb k left = left - 1 := by unfold left' dif; simp [h63, hlt2]
                      clear hlt2
                      rw [hleft] at HN HG2
                      clear hleft h63
                      go_wp2_with (go_at_call 70; refine HCT.out.mono ?_; rintro e w3 ⟨rfl, d3⟩)
                      go_roundw
                      case rel => exact ⟨0 + 1, os ++ [k], (left - 1), by omega, by go_num, by rw [← HS.out]; rfl, HL3.out, rfl, by omega, HG2.out, HN.out, by first | exact hd.trans (hd2.trans d3) | exact hd.trans hd2⟩
                      case measure => simp [intOf]; omega
                · have hi1 : 1 ≤ i := by omega
                  obtain ⟨p, hp⟩ : ∃ p, os.getLast? = some p := by
                    cases hq : os.getLast? with
                    | none => rw [List.getLast?_eq_none_iff] at hq; exact absurd (by rw [← HOL.out, hq]; rfl) hi0
                    | some p => exact ⟨p, rfl⟩
                  have hi0b : ((i : Int) == 0) = false := by simp; omega
                  have hx : (outS os).extract (i - 1) i ++ abcd.extract k (k + 1) = prS p k := by
                    have h := outS_last hp
                    rw [hsz1, HOL.out] at h
                    rw [h, abcd_at k hk4, strOf_append]; rfl
                  have hct := containsS_any ss ((outS os).extract (i - 1) i ++ abcd.extract k (k + 1)) A c B wr hn (HR.out.below (hbel.trans (hd.trans hd2).below) hB)
                  rw [show hasS ss ((outS os).extract (i - 1) i ++ abcd.extract k (k + 1)) = hasP ss p k from by rw [hx]; rfl] at hct
                  cases hh : hasP ss p k
                  · rw [hh] at hct
                    have hfit : fits ss (crow false ss (L s) i) left os.getLast? k = false := by
                      unfold fits; rw [hp]; show (_ && hasP ss p k) = false; rw [hh, Bool.and_false]
                    have HFIT := Lib.hid hfit; have HCT := Lib.hid hct; clear hfit hct hx hh hp hu hul
                    have HQ4 := Lib.hid hq4; have HQ5 := Lib.hid hq5; clear hq4 hq5
                    go_wp2_with (go_at_call 70; refine HCT.out.mono ?_; rintro e w3 ⟨rfl, d3⟩)
                    go_roundw
                    case rel => exact ⟨k + 1, by omega, by go_num, rfl, rfl, by rw [← HQ.out, HQ4.out, HQ5.out, pkK, HFIT.out]; rfl, hd2.trans d3⟩
                    case measure => simp [intOf]; omega
                  · rw [hh] at hct
                    have hfit : fits ss (crow false ss (L s) i) left os.getLast? k = true := by
                      unfold fits; rw [hp, hu, decide_eq_true hul]; exact hh
                    have HCT := Lib.hid hct; clear hct hx hh hp
                    have hpick : pkK ss (crow false ss (L s) i) left os.getLast? 4 0 = some k := by
                      rw [← HQ.out, hq4, pkK, if_pos hfit]
                    have hgood := good_step (st := false) HGD.out.1 (by rw [L_len]; exact hlt) hk4 hfit
                    obtain ⟨bb, hbb⟩ : ∃ bb, s[i]'hlt = bb := ⟨_, rfl⟩
                    have hbD : (L s).getD i 0 = bb := by
                      rw [← hbb, List.getD_eq_getElem?_getD, List.getElem?_eq_getElem (by rw [L_len]; exact hlt)]; rfl
                    have hnext : (os ++ [k]) ++ pk false ss (L s) (s.size - (i + 1)) (i + 1) (os ++ [k]).getLast? (left' bb k left) = repL false ss (L s) := by
                      rw [← HPK.out]
                      obtain ⟨z, hz⟩ : ∃ z, s.size - i = z + 1 := ⟨s.size - i - 1, by omega⟩
                      rw [hz, pk, hpick, show s.size - (i + 1) = z from by omega]
                      simp only [List.getLast?_append, List.getLast?_singleton, Option.some_or, hbD]
                      rw [List.append_assoc]; rfl
                    have hg2 : Good false ss (L s) (i + 1) (os ++ [k]).getLast? (left' bb k left) := by
                      simp only [List.getLast?_append, List.getLast?_singleton, Option.some_or]
                      rw [← hbD]; exact hgood
                    have hl3 : (os ++ [k]).length = i + 1 := by rw [List.length_append, HOL.out]; rfl
                    have hxt : ((s.extract i (i + 1)).toList == (({ data := #[97, 98, 99, 100] } : ByteArray).extract k (k + 1)).toList) = decide (bb = lt k) := by
                      rw [str_eq, ext_one s i hlt, hbb]
                      show decide (strOf [bb] = abcd.extract k (k + 1)) = _
                      rw [abcd_at k hk4]
                      exact decide_eq_decide.2 (strOf_one bb (lt k))
                    have HN := Lib.hid hnext; have HG2 := Lib.hid hg2; have HL3 := Lib.hid hl3
                    have HS := Lib.hid (outS_snoc os k hk4)
                    clear hnext hg2 hl3 hgood hbD hpick hfit hq4 hq5 hu hul
                    by_cases h63 : bb = 63
                    · have hd1 : ((bb.toNat : Int) != 63) = false := by rw [h63]; rfl
                      have hleft : left' bb k left = left := by unfold left' dif; rw [h63]; rfl
                      rw [hleft] at HN HG2
                      clear hleft h63
                      go_wp2_with (go_at_call 70; refine HCT.out.mono ?_; rintro e w3 ⟨rfl, d3⟩)
                      go_roundw
                      case rel => exact ⟨i + 1, os ++ [k], left, by omega, by go_num, by rw [← HS.out]; rfl, HL3.out, rfl, by omega, HG2.out, HN.out, by first | exact hd.trans (hd2.trans d3) | exact hd.trans hd2⟩
                      case measure => simp [intOf]; omega
                    · have hd1 : ((bb.toNat : Int) != 63) = true := by rw [bne_iff_ne]; intro h; apply h63; apply UInt8.toNat_inj.1; show bb.toNat = 63; omega
                      by_cases hlt2 : bb = lt k
                      · rw [decide_eq_true hlt2] at hxt
                        have hleft : left' bb k left = left := by unfold left' dif; rw [hlt2]; simp
                        clear hlt2
                        rw [hleft] at HN HG2
                        clear hleft h63
                        go_wp2_with (go_at_call 70; refine HCT.out.mono ?_; rintro e w3 ⟨rfl, d3⟩)
                        go_roundw
                        case rel => exact ⟨i + 1, os ++ [k], left, by omega, by go_num, by rw [← HS.out]; rfl, HL3.out, rfl, by omega, HG2.out, HN.out, by first | exact hd.trans (hd2.trans d3) | exact hd.trans hd2⟩
                        case measure => simp [intOf]; omega
                      · rw [decide_eq_false hlt2] at hxt
                        have hleft : left' bb k left = left - 1 := by unfold left' dif; simp [h63, hlt2]
                        clear hlt2
                        rw [hleft] at HN HG2
                        clear hleft h63
                        go_wp2_with (go_at_call 70; refine HCT.out.mono ?_; rintro e w3 ⟨rfl, d3⟩)
                        go_roundw
                        case rel => exact ⟨i + 1, os ++ [k], (left - 1), by omega, by go_num, by rw [← HS.out]; rfl, HL3.out, rfl, by omega, HG2.out, HN.out, by first | exact hd.trans (hd2.trans d3) | exact hd.trans hd2⟩
                        case measure => simp [intOf]; omega
              · have hub : (u == left) = false := by simpa using hul
                have hfit : fits ss (crow false ss (L s) i) left os.getLast? k = false := by
                  unfold fits; rw [hu, decide_eq_false hul]; rfl
                have HFIT := Lib.hid hfit; clear hfit hu hul
                have HQ4 := Lib.hid hq4; have HQ5 := Lib.hid hq5; clear hq4 hq5
                go_wp2_with fail
                go_roundw
                case rel => exact ⟨k + 1, by omega, by go_num, rfl, rfl, by rw [← HQ.out, HQ4.out, HQ5.out, pkK, HFIT.out]; rfl, hd2⟩
                case measure => simp [intOf]; omega
            · exfalso
              have hk : k = 4 := by omega
              subst hk
              obtain ⟨m, hm, hf⟩ := HGD.out.2 (by rw [L_len]; exact hlt)
              have := pkK_none HQ.out.symm m (by omega) (by omega)
              rw [hf] at this
              cases this
        · have hin : i = s.size := by omega
          subst hin
          have hres : repS false ss (L s) = outS os := by
            rw [repS, ← HPK.out, Nat.sub_self, pk, List.append_nil]
          have HRES := Lib.hid hres; clear hres
          go_wp2_with fail
          go_ret2
          exact ⟨by rw [HRES.out, HTOT.out]; rfl, hbel.trans hd.below⟩
    · have hte : total false ss (L s) = 1000 := by omega
      have hre : repS false ss (L s) = outS [] := by rw [repS, repL, if_neg HL0.out, if_neg (by omega)]
      have HRE := Lib.hid hre; clear hre
      rw [hte] at HTOT ⊢
      clear ht hte HT
      go_wp2_with fail
      go_ret2
      exact ⟨by rw [HRE.out, HTOT.out]; rfl, hbel⟩
end Go.Proofs.Ytfjmopiofcbpgaa
