/- For every slice of bytes the law FnRuns returns true; no condition. -/
import Derived.Test.YtfjmopiofcbpgaaRnq
import Derived.Test.YtfjmopiofcbpgaaFrr
import Derived.Test.YtfjmopiofcbpgaaByi
import Derived.Test.YtfjmopiofcbpgaaDrx
import Derived.Test.YtfjmopiofcbpgaaDrz
import Derived.Test.YtfjmopiofcbpgaaRev
import Derived.Test.YtfjmopiofcbpgaaLhp
import Derived.Test.YtfjmopiofcbpgaaOwb
import Derived.Test.YtfjmopiofcbpgaaSmj
import Derived.Test.YtfjmopiofcbpgaaLrn
import Derived.Deep.CutRange
namespace Go.Proofs.Ytfjmopiofcbpgaa.fnRuns
open Go.ChangeShapes Go.WideShapes Go.ChangeAt Go.RowKit
open Go.ChangeMaps (open_string shut_string)
set_option linter.unusedVariables false

set_option maxRecDepth 8000 in
set_option maxHeartbeats 40000000 in
theorem walk (A : Option Addr) (n c : Nat) (l : List UInt8) (w : World) (hin : BytesIn w A n c l) :
    Calls Try.prog 3 #[.slice A n c] w fun e w' => e = .returned (.bool true) ∧ Below w.heap.size w w' := by
  obtain ⟨hl, hnc, hcm, hrd⟩ := hin
  by_cases h1 : 1048576 < n
  · go_enter Try.func3, Try.ntmps3
    go_wp2_with fail
    go_ret
    exact ⟨rfl, Below.refl _ _⟩
  have hmk := fun v m h2 hr hb => makeWord_any A n c w.heap.size m 14 l v h2 (by decide) (by decide) hl (by omega) hr hb
  have hsz := fun v m lo hi h2 h3 h4 h5 hr hb => makeSize_any A n c w.heap.size m lo hi l v h2 h3 h4 h5 hl (by omega) hr hb
  have hsb := fun v hr hb => makeSize_big A n c w.heap.size 0 0 150 l v (by decide) (by decide) (by decide) (by decide) hl (by omega) hr hb
  obtain ⟨S, hS⟩ : ∃ S, strOf slW = S := ⟨_, rfl⟩
  have hSL : L S = slW := by rw [← hS, strOf_L]
  have hSz : S.size = 200 := by rw [← L_len, hSL, sl_len]
  have hsw := fun v => iSelf_200 v
  rw [hS] at hsw
  have hSw : isW (L S) = true := by rw [hSL]; exact bin_isW sl_bin
  have hr1 := fun v => iRunsOf_yes S hSw v
  rw [hSL] at hr1
  have hpos := (runs_ok slW).pos
  have hsum := (runs_ok slW).sum
  rw [sl_len] at hsum
  have hrl := runs_len slW
  rw [sl_len] at hrl
  have hrm : ∀ z ∈ runsOf slW, 0 ≤ z ∧ z ≤ 1000000 := fun z hz => by
    have h2 := runs_mem slW hz
    rw [sl_len] at h2
    omega
  have hsl := sumL_list (runsOf slW)
  rw [hsum] at hsl
  have hrr := fun i m h h2 => sl_runs (i := i) (n := m) h h2
  obtain ⟨R, hR⟩ : ∃ R, runsOf slW = R := ⟨_, rfl⟩
  rw [hR] at hr1 hrl hrm hsl hrr
  obtain ⟨rn, hrn⟩ : ∃ rn, R.length = rn := ⟨_, rfl⟩
  rw [hrn] at hr1 hrl hrr
  have habb : S.extract 0 3 = ⟨#[97, 98, 98]⟩ := bytes_ext (by show L (S.extract 0 3) = _; rw [L_extract, List.drop_zero, hSL, sl_abb])
  have hst := fun v => lstarts_yes S ⟨#[97, 98, 98]⟩ (by unfold maxLen; omega) (by show 3 ≤ S.size; omega) habb v
  have hSz1 : S.size ≤ 200 := by omega
  have hSz2 : 200 ≤ S.size := by omega
  have HMK := Lib.hid hmk; have HSZ := Lib.hid hsz; have HSB := Lib.hid hsb; have HRD := Lib.hid hrd
  have HSL := Lib.hid hSL; have HSS := Lib.hid hSz; have HSW := Lib.hid hsw; have HR1 := Lib.hid hr1; have HRM := Lib.hid hrm; have HSU := Lib.hid hsl; have HRR := Lib.hid hrr; have HRN := Lib.hid hrn; have HST := Lib.hid hst
  clear hmk hsz hsb hrd hS hSL hSz hsw hSw hr1 hpos hsum hrm hsl hrr hR hrn habb hst hl hnc hcm
  go_enter Try.func3, Try.ntmps3
  go_wp2_with fail
  refine (HSW.out _).mono ?_
  rintro e w1 ⟨rfl, B1⟩
  clear HSW
  go_wp2_with fail
  refine (HR1.out w1).mono ?_
  rintro e w2 ⟨Ar, cr, rfl, o2, b2⟩
  have B2 := B1.trans (b2.mono B1.size)
  have O2 := Lib.hid o2
  clear b2 o2 B1 HR1
  go_upto_region 5 with fail
  go_cut [55] from 39 to 55 (fun cc wx => cc = .bool false ∧ Dr w2 wx)
  case first => as_aux_lemma =>
    --SEG 1
    have hs := lsum_any R Ar cr w2.heap.size rn w2 HRN.out (by omega) HRM.out O2.out.reads
    rw [HSU.out] at hs
    have k1 : ((S.size : Int) != 200) = false := by rw [HSS.out]; rfl
    have HS := Lib.hid hs; clear hs
    go_wp2_with fail
    refine HS.out.mono ?_
    rintro e w3 ⟨rfl, d3⟩
    go_wp2_with fail
    refine (HST.out w3).mono ?_
    rintro e w4 ⟨rfl, rfl⟩
    go_wp2_with fail
    go_meet
    case rel => exact ⟨rfl, Dr.same d3⟩
    --END
  case rest =>
  obtain ⟨rfl, d5⟩ := hcut
  obtain ⟨w5, rfl⟩ : ∃ z : World, z = wc := ⟨_, rfl⟩
  have B5 := B2.trans d5.below
  have o5 := O2.out.dr d5
  have O5 := Lib.hid o5
  clear d5 o5 O2 B2 HSU HRM HST
  go_wp2_with fail
  go_loopw [6, 7, 58] (fun _ _ i wr => ∃ k : Nat, k ≤ rn ∧ i = .int .i64 k ∧ wr = w5) (fun _ _ i _ => rn - (intOf i).toNat)
  case atStart => exact ⟨0, by omega, rfl, rfl⟩
  case round =>
    obtain ⟨k, hk, rfl, rfl⟩ := hrel
    by_cases hlt : k < rn
    · as_aux_lemma =>
      --SEG 2
      obtain ⟨x, hx⟩ := some_of_lt (l := R) (k := k) (by rw [HRN.out]; exact hlt)
      obtain ⟨ga, rfl⟩ := own_block O5.out (by omega)
      have hc := rds_cell O5.out.reads (map_at (Value.int .i64) hx)
      by_cases hk1 : k + 1 < rn
      · obtain ⟨x1, x2, b, hb, hbx⟩ := HRR.out k x hx hk1
        rw [← HSL.out, L_at S k (by omega)] at hb
        injection hb with hb
        rw [← hb] at hbx
        clear hx hb
        obtain ⟨t, ht⟩ : ∃ t, ((S[k]'(by omega)).toNat : Int) = t := ⟨_, rfl⟩
        rw [ht] at hbx
        rcases show x = 1 ∨ x = 2 by omega with rfl | rfl
        · have : t = 97 := by omega
          subst this
          clear hbx
          go_wp2_with fail
          go_roundw
          case rel => exact ⟨k + 1, by omega, by go_num, by first | trivial | rfl⟩
          case measure => simp [intOf]; omega
        · have : t = 98 := by omega
          subst this
          clear hbx
          go_wp2_with fail
          go_roundw
          case rel => exact ⟨k + 1, by omega, by go_num, by first | trivial | rfl⟩
          case measure => simp [intOf]; omega
      · clear hx
        go_wp2_with fail
        go_roundw
        case rel => exact ⟨k + 1, by omega, by go_num, by first | trivial | rfl⟩
        case measure => simp [intOf]; omega
      --END
    · clear O5 HRR HRN
      go_wp2_with fail
      clear hlt hk
      refine (HSB.out _ (HRD.out.below B5 (Nat.le_refl _)) B5.size).mono ?_
      rintro e w6 ⟨i, _, hi, rfl, b6⟩
      have B6 := B5.trans (b6.mono B5.size)
      clear b6 B5 HSB
      go_wp2_with fail
      refine (HSZ.out w6 1 0 40 (by omega) (by omega) (by omega) (by omega) (HRD.out.below B6 (Nat.le_refl _)) B6.size).mono ?_
      rintro e w7 ⟨j, _, hj, rfl, b7⟩
      have B7 := B6.trans (b7.mono B6.size)
      clear b7 B6
      obtain ⟨F, hF⟩ : ∃ F, S.extract i (i + j) = F := ⟨_, rfl⟩
      have hFL : L F = (slW.drop i).take j := by rw [← hF, L_extract, HSL.out, List.drop_take]; congr 1; omega
      have hFz : F.size ≤ 40 := by rw [← L_len, hFL, List.length_take]; omega
      have hFb : binW (L F) = true := by rw [hFL]; exact part_bin sl_bin i j
      have hFs : smoothL (L F) = true := by rw [hFL]; exact smooth_part sl_smooth i j
      have hTL : L (swapS F) = swW (L F) := by rw [swapS, hFb, if_pos rfl, strOf_L]
      have hTz : (swapS F).size ≤ 40 := by rw [← L_len, hTL, swW_length, L_len]; exact hFz
      have htr : L (trn F) = (L F).reverse := by rw [trn, strOf_L, rv]
      have htz : (trn F).size ≤ 40 := by rw [← L_len, htr, List.length_reverse, L_len]; exact hFz
      have g1 := fun v => iSwapAB_any F (by unfold maxLen; omega) v
      have g2 := fun v => iIsSmooth_any F (by unfold maxLen; omega) v
      have g3 := fun v => iIsSmooth_any (swapS F) (by unfold maxLen; omega) v
      have g4 := fun v => flip_any F (by omega) v
      have g5 := fun v => iIsSmooth_any (trn F) (by unfold maxLen; omega) v
      rw [hFb] at g1
      rw [show smoothS F = true by unfold smoothS; rw [hFb, hFs]; rfl] at g2
      rw [show smoothS (swapS F) = true by unfold smoothS; rw [hTL, sw_bin hFb, smooth_sw hFb, hFs]; rfl] at g3
      rw [show smoothS (trn F) = true by unfold smoothS; rw [htr, rev_bin hFb, smooth_rev _ _ (Nat.le_refl _), hFs]; rfl] at g5
      have G1 := Lib.hid g1; have G2 := Lib.hid g2; have G3 := Lib.hid g3; have G4 := Lib.hid g4; have G5 := Lib.hid g5; have HF := Lib.hid hF
      clear g1 g2 g3 g4 g5 hFL hFb hFs hTL hTz htr htz HSL
      go_upto_region 16 with fail
      rw [HF.out]
      clear HF
      go_wp2_with fail
      refine (G1.out _).mono ?_
      rintro e w8 ⟨rfl, b8⟩
      have B8 := B7.trans (b8.mono B7.size)
      clear b8 B7 G1
      go_upto_region 17 with fail
      go_cut [119] from 102 to 119 (fun cc wx => cc = .bool false ∧ Below w.heap.size w wx)
      case first => as_aux_lemma =>
        --SEG 3
        go_wp2_with fail
        refine (G2.out _).mono ?_
        rintro e w9 ⟨rfl, b9⟩
        have B9 := B8.trans (b9.mono B8.size)
        go_wp2_with fail
        refine (G3.out _).mono ?_
        rintro e w10 ⟨rfl, b10⟩
        have B10 := B9.trans (b10.mono B9.size)
        go_wp2_with fail
        refine (G4.out _).mono ?_
        rintro e w11 ⟨rfl, b11⟩
        have B11 := B10.trans (b11.mono B10.size)
        go_wp2_with fail
        refine (G5.out _).mono ?_
        rintro e w12 ⟨rfl, b12⟩
        have B12 := B11.trans (b12.mono B11.size)
        go_wp2_with fail
        go_meet
        case rel => exact ⟨rfl, B12⟩
        --END
      case rest =>
      obtain ⟨rfl, B12⟩ := hcut
      obtain ⟨w12, rfl⟩ : ∃ z : World, z = wc := ⟨_, rfl⟩
      clear B8 G2 G3 G4 G5 hi hj hFz
      go_wp2_with fail
      refine (HMK.out w12 20 (by omega) (HRD.out.below B12 (Nat.le_refl _)) B12.size).mono ?_
      rintro e w13 ⟨v, hv, _, hvw, rfl, b13⟩
      have B13 := B12.trans (b13.mono B12.size)
      clear b13 B12 HMK
      have hvm : v.size ≤ maxLen := by unfold maxLen; omega
      have hr1 := fun u => iRunsOf_yes v hvw u
      have hrw := fun u => runWord_any v hvw u
      have hlr := fun u => iLr_yes v hvw u
      have hvL := L_len v
      have hrs := (runs_ok (L v)).sum
      have hrl2 := runs_len (L v)
      have hsl := sumL_list (runsOf (L v))
      have hrm : ∀ z ∈ runsOf (L v), 0 ≤ z ∧ z ≤ 1000000 := fun z hz => by
        have h2 := runs_mem (L v) hz
        rw [hvL] at h2
        omega
      have hle := lr_le v
      rw [hrs, hvL] at hsl
      rw [hvL] at hrl2
      obtain ⟨q, hq⟩ : ∃ q, small (runsOf (L v)) = q := ⟨_, rfl⟩
      rw [hq] at hrw hle
      have hwz : q = true → (wdS (runsOf (L v))).size = (runsOf (L v)).length := fun h => by
        rw [wdS, hq, if_pos h, strOf_size, List.length_map]
      have hfr : ∀ a t, L v = a :: t → binW (L v) = true → alt a (runsOf (L v)) = L v := fun a t h hb => by rw [h] at hb ⊢; exact alt_runs a t hb
      have hin := fun u => iInner_any v hvw u
      rw [hq] at hin
      have hst : binW (L v) = true → 1 < v.size → smoothS v = (q && smoothS (wdS (strip (runsOf (L v))))) := fun hb hs1 => by
        unfold smoothS
        rw [hb, smooth_step (by rw [hvL]; omega)]
        unfold inB inW
        rw [hq]
        cases q with
        | false => rfl
        | true =>
          have e : L (wdS (strip (runsOf (L v)))) = (strip (runsOf (L v))).map lw := by rw [wdS, strip_small, hq, if_pos rfl, strOf_L]
          have hbw : binW ((strip (runsOf (L v))).map lw) = true := lw_bin _ (by
            have := strip_len (runsOf (L v)); omega)
          rw [e, hbw]
      obtain ⟨X, hX⟩ : ∃ X, wdS (runsOf (L v)) = X := ⟨_, rfl⟩
      obtain ⟨Y, hY⟩ : ∃ Y, wdS (strip (runsOf (L v))) = Y := ⟨_, rfl⟩
      have hYz : Y.size ≤ 14 := by
        rw [← hY, wdS]
        have := strip_len (runsOf (L v))
        split
        · rw [strOf_size, List.length_map]; omega
        · exact Nat.zero_le _
      have hsh1 : binW (L v) = true → v.size ≤ 1 → q = true ∧ smoothS v = true := fun hb hs1 => by
        have h2 := runs_len (L v)
        refine ⟨?_, ?_⟩
        · rw [← hq]
          unfold small
          rw [List.all_eq_true]
          intro x hx
          have := runs_mem (L v) hx
          exact decide_eq_true (by omega)
        · unfold smoothS; rw [hb, smooth_le (by rw [hvL]; omega)]; rfl
      have hyl : binW (L v) = true → v.size ≤ 1 → smoothS Y = true := fun hb hs1 => by
        obtain ⟨h3, _⟩ := hsh1 hb hs1
        have e : L Y = (strip (runsOf (L v))).map lw := by rw [← hY, wdS, strip_small, hq, if_pos h3, strOf_L]
        have h4 := strip_len (runsOf (L v))
        unfold smoothS
        rw [e, lw_bin _ (by omega), smooth_le (by rw [List.length_map]; omega)]; rfl
      rw [hX] at hrw hwz
      rw [hY] at hin hst
      have hpo := (runs_ok (L v)).pos
      obtain ⟨r, hr⟩ : ∃ r, runsOf (L v) = r := ⟨_, rfl⟩
      rw [hr] at hr1 hrl2 hsl hrm hwz hfr hpo hrs
      obtain ⟨rl, hrl⟩ : ∃ rl, r.length = rl := ⟨_, rfl⟩
      rw [hrl] at hr1 hrl2 hwz
      have HR1 := Lib.hid hr1; have HRW := Lib.hid hrw; have HLR := Lib.hid hlr; have HLE := Lib.hid hle; have HRM := Lib.hid hrm; have HSU := Lib.hid hsl; have HWZ := Lib.hid hwz; have HFR := Lib.hid hfr; have HIN := Lib.hid hin; have HST := Lib.hid hst; have HSH := Lib.hid hsh1; have HYL := Lib.hid hyl; have HPO := Lib.hid hpo; have HRS := Lib.hid hrs; have HRL := Lib.hid hrl
      have HVW := Lib.hid hvw
      clear hr1 hrw hlr hle hrm hsl hwz hfr hin hst hsh1 hyl hpo hrs hrl hX hY hr hq hvw hvL
      go_wp2_with fail
      refine (HR1.out _).mono ?_
      rintro e w14 ⟨Av, cv, rfl, o14, b14⟩
      have B14 := B13.trans (b14.mono B13.size)
      have O14 := Lib.hid o14
      clear b14 o14 B13 HR1
      go_wp2_with fail
      refine (HRW.out _).mono ?_
      rintro e w15 ⟨rfl, b15⟩
      have B15 := B14.trans (b15.mono B14.size)
      have o15 := O14.out.below b15
      have O15 := Lib.hid o15
      clear b15 o15 B14 HRW O14
      go_upto_region 22 with fail
      go_cut [150] from 129 to 150 (fun cc wx => cc = .bool false ∧ Dr w15 wx)
      case first => as_aux_lemma =>
        --SEG 4
        have hs := lsum_any r Av cv w15.heap.size rl w15 HRL.out (by omega) HRM.out O15.out.reads
        rw [HSU.out] at hs
        have HS := Lib.hid hs; clear hs
        have hle := HLE.out
        obtain ⟨z, hz⟩ : ∃ z, lrV v = z := ⟨_, rfl⟩
        have hlr := HLR.out
        rw [hz] at hlr hle
        have HLR2 := Lib.hid hlr
        clear hlr hz HLR HLE
        have hz2 : decide ((z : Int) ≤ 2) = q := hle
        go_wp2_with fail
        refine HS.out.mono ?_
        rintro e w16 ⟨rfl, d16⟩
        go_wp2_with fail
        refine (HLR2.out _).mono ?_
        rintro e w17 ⟨rfl, d17⟩
        have D17 := (Dr.same d16).trans d17
        cases q with
        | false =>
          go_wp2_with fail
          go_meet
          case rel => exact ⟨rfl, D17⟩
        | true =>
          have hx := HWZ.out rfl
          have k1 : ((X.size : Int) != (rl : Int)) = false := by rw [hx]; simp
          clear hx
          go_wp2_with fail
          go_meet
          case rel => exact ⟨rfl, D17⟩
        --END
      case rest =>
      obtain ⟨rfl, d17⟩ := hcut
      obtain ⟨w17, rfl⟩ : ∃ z : World, z = wc := ⟨_, rfl⟩
      have B17 := B15.trans d17.below
      have o17 := O15.out.dr d17
      have O17 := Lib.hid o17
      clear d17 o17 O15 B15 HSU HRM HWZ HLR HLE
      have hib := fun u => iIsBinary_any v hvm u
      obtain ⟨p, hp⟩ : ∃ p, binW (L v) = p := ⟨_, rfl⟩
      rw [hp] at hib
      obtain ⟨ne, hne⟩ : ∃ ne, (!v.toList.isEmpty) = ne := ⟨_, rfl⟩
      obtain ⟨pn, hpn⟩ : ∃ pn, (p && ne) = pn := ⟨_, rfl⟩
      have HIB := Lib.hid hib; have HP := Lib.hid hp; have HPN := Lib.hid hpn
      clear hib hp hpn
      go_upto_region 24 with fail
      go_cut [156] from 151 to 156 (fun cc wx => cc = .bool pn ∧ Below w17.heap.size w17 wx)
      case first => as_aux_lemma =>
        --SEG 8
        cases p with
        | false =>
          go_wp2_with fail
          refine (HIB.out w17).mono ?_
          rintro e w18 ⟨rfl, b18⟩
          go_wp2_with fail
          go_meet
          case rel => exact ⟨by rw [← HPN.out]; first | rfl | (congr 1; simp; done) | (simp; done), b18⟩
        | true =>
          go_wp2_with fail
          refine (HIB.out w17).mono ?_
          rintro e w18 ⟨rfl, b18⟩
          go_wp2_with fail
          go_meet
          case rel => exact ⟨by rw [← HPN.out]; first | rfl | (congr 1; simp; done) | (simp; done), b18⟩
        --END
      case rest =>
      obtain ⟨rfl, b18⟩ := hcut
      obtain ⟨w18, rfl⟩ : ∃ z : World, z = wc := ⟨_, rfl⟩
      have B18 := B17.trans (b18.mono B17.size)
      have o18 := O17.out.below b18
      have O18 := Lib.hid o18
      clear b18 o18 B17 O17 HIB
      go_upto_if 156 with fail
      go_cut [] from 157 to 235 (fun wx => Below w.heap.size w wx)
      case first => as_aux_lemma =>
        --SEG 5
        cases pn with
        | false =>
            go_wp2_with fail
            go_meet
            case rel => exact B18
        | true =>
            have hpn := HPN.out
            rw [Bool.and_eq_true] at hpn
            obtain ⟨rfl, rfl⟩ := hpn
            have hb := HP.out
            have hvne : L v ≠ [] := fun e => by
              have : v = ⟨#[]⟩ := bytes_ext e
              rw [this, ByteArray.toList_eq] at hne
              simp at hne
            obtain ⟨a, t, hat⟩ : ∃ a t, L v = a :: t := by
              cases hL : L v with
              | nil => exact absurd hL hvne
              | cons a t => exact ⟨a, t, rfl⟩
            obtain ⟨ha1, ha2⟩ := bin_at hb (k := 0) (b := a) (by rw [hat]; rfl)
            have hv1 : 1 ≤ v.size := by rw [← L_len, hat]; simp
            have hx1 : v.extract 0 1 = ⟨#[a]⟩ := bytes_ext (by show L (v.extract 0 1) = _; rw [L_extract, List.drop_zero, hat]; rfl)
            have hfrr := fun u o => iFromRuns_yes a ⟨#[a, swC a]⟩ rfl ha1 ha2 r HPO.out (by rw [HRS.out, L_len]; omega) Av rl cv u.heap.size u HRL.out o (Nat.le_refl _)
            rw [HFR.out a t hat hb, L_strOf] at hfrr
            have hsb := fun u => iSwapAB_any v hvm u
            rw [hb] at hsb
            have hsL : L (swapS v) = swW (L v) := by rw [swapS, hb, if_pos rfl, strOf_L]
            have hsz9 : (swapS v).size ≤ maxLen := by rw [← L_len, hsL, swW_length, L_len]; exact hvm
            have hsb2 := fun u => iSwapAB_any (swapS v) hsz9 u
            rw [show binW (L (swapS v)) = true by rw [hsL]; exact sw_bin hb, show swapS (swapS v) = v by rw [swapS, hsL, sw_bin hb, if_pos rfl, sw_sw hb, L_strOf]] at hsb2
            have hsm := fun u => iIsSmooth_any (swapS v) hsz9 u
            rw [show smoothS (swapS v) = smoothS v by unfold smoothS; rw [hsL, sw_bin hb, smooth_sw hb, hb]] at hsm
            have hvm2 := fun u => iIsSmooth_any v hvm u
            have hym := fun u => iIsSmooth_any Y (by unfold maxLen; omega) u
            obtain ⟨sv, hsv⟩ : ∃ sv, smoothS v = sv := ⟨_, rfl⟩
            obtain ⟨sy, hsy⟩ : ∃ sy, smoothS Y = sy := ⟨_, rfl⟩
            have h3 := HST.out hb; have h4 := HSH.out hb; have h5 := HYL.out hb
            rw [hsv] at hsm hvm2 h3 h4
            rw [hsy] at hym h3 h5
            obtain ⟨s, hs⟩ : ∃ s, swapS v = s := ⟨_, rfl⟩
            rw [hs] at hsb hsb2 hsm
            have h98 : ((v.extract 0 1).toList == [98]) = decide (a = 98) := by
              rw [hx1, ByteArray.toList_eq]
              show ([a] == [98]) = _
              rw [Bool.eq_iff_iff]; simp
            have HFRR := Lib.hid hfrr; have HSB := Lib.hid hsb; have HSB2 := Lib.hid hsb2; have HSM := Lib.hid hsm; have HVM := Lib.hid hvm2; have HYM := Lib.hid hym; have H3 := Lib.hid h3; have H4 := Lib.hid h4; have H5 := Lib.hid h5
            clear hfrr hsb hsb2 hsm hvm2 hym h3 h4 h5 hat hx1 hsL hs hsv hsy hvne hb HST HSH HYL HFR HPO HRS HP
            obtain ⟨L2, hL2⟩ : ∃ L2, (⟨#[a, swC a]⟩ : ByteArray) = L2 := ⟨_, rfl⟩
            rw [hL2] at HFRR
            go_upto_if 159 with fail
            go_cut [17] from 157 to 159 (fun s17 wx => s17 = .string L2 ∧ wx = w18)
            case first => as_aux_lemma =>
              --SEG 5a
              have ha : a = 97 ∨ a = 98 := by
                rcases show a.toNat = 97 ∨ a.toNat = 98 by omega with h | h
                · exact .inl (UInt8.toNat_inj.1 h)
                · exact .inr (UInt8.toNat_inj.1 h)
              rcases ha with rfl | rfl
              · have k1 : ((v.extract 0 1).toList == [98]) = false := h98
                clear h98
                go_wp2_with fail
                go_meet
                case rel => exact ⟨by rw [← hL2]; rfl, by first | trivial | rfl⟩
              · have k1 : ((v.extract 0 1).toList == [98]) = true := h98
                clear h98
                go_wp2_with fail
                go_meet
                case rel => exact ⟨by rw [← hL2]; rfl, by first | trivial | rfl⟩
              --END
            case rest =>
            obtain ⟨rfl, rfl⟩ := hcut
            clear h98 hL2
            go_wp2_with fail
            refine (HFRR.out _ O18.out.reads).mono ?_
            rintro e w19 ⟨rfl, b19⟩
            have B19 := B18.trans (b19.mono B18.size)
            clear b19 B18 HFRR O18
            go_wp2_with fail
            refine (HSB.out _).mono ?_
            rintro e w20 ⟨rfl, b20⟩
            have B20 := B19.trans (b20.mono B19.size)
            clear b20 B19 HSB
            go_wp2_with fail
            refine (HSB2.out _).mono ?_
            rintro e w21 ⟨rfl, b21⟩
            have B21 := B20.trans (b21.mono B20.size)
            clear b21 B20 HSB2
            go_upto_region 31 with fail
            go_cut [202] from 176 to 202 (fun cc wx => cc = .bool false ∧ Below w.heap.size w wx)
            case first => as_aux_lemma =>
              --SEG 5b
              go_wp2_with fail
              refine (HSM.out _).mono ?_
              rintro e w22 ⟨rfl, b22⟩
              have B22 := B21.trans (b22.mono B21.size)
              go_wp2_with fail
              refine (HVM.out _).mono ?_
              rintro e w23 ⟨rfl, b23⟩
              have B23 := B22.trans (b23.mono B22.size)
              go_wp2_with fail
              go_meet
              case rel => exact ⟨by simp, B23⟩
              --END
            case rest =>
            obtain ⟨rfl, B23⟩ := hcut
            clear B21 HSM
            go_wp2_with fail
            refine (HIN.out _).mono ?_
            rintro e w24 ⟨rfl, b24⟩
            have B24 := B23.trans (b24.mono B23.size)
            clear b24 B23
            go_upto_region 34 with fail
            go_cut [235] from 208 to 235 (fun cc wx => cc = .bool false ∧ Below w.heap.size w wx)
            case first => as_aux_lemma =>
              --SEG 5c
              by_cases hv2 : 1 < v.size
              · have e := H3.out hv2
                have hv3 : (1 : Int) < (v.size : Int) := by omega
                clear H3 H4 H5
                cases q with
                | false =>
                  have e2 : sv = false := by rw [e]; rfl
                  subst e2
                  clear e
                  go_wp2_with fail
                  refine (HVM.out _).mono ?_
                  rintro e wz ⟨rfl, bz⟩
                  replace B24 := B24.trans (bz.mono B24.size)
                  clear bz
                  go_wp2_with fail
                  go_meet
                  case rel => exact ⟨rfl, B24⟩
                | true =>
                  rw [Bool.true_and] at e
                  subst e
                  cases sv with
                  | false =>
                    go_wp2_with fail
                    refine (HVM.out _).mono ?_
                    rintro e wz ⟨rfl, bz⟩
                    replace B24 := B24.trans (bz.mono B24.size)
                    clear bz
                    go_wp2_with fail
                    refine (HYM.out _).mono ?_
                    rintro e wz ⟨rfl, bz⟩
                    replace B24 := B24.trans (bz.mono B24.size)
                    clear bz
                    go_wp2_with fail
                    go_meet
                    case rel => exact ⟨rfl, B24⟩
                  | true =>
                    go_wp2_with fail
                    refine (HVM.out _).mono ?_
                    rintro e wz ⟨rfl, bz⟩
                    replace B24 := B24.trans (bz.mono B24.size)
                    clear bz
                    go_wp2_with fail
                    refine (HYM.out _).mono ?_
                    rintro e wz ⟨rfl, bz⟩
                    replace B24 := B24.trans (bz.mono B24.size)
                    clear bz
                    go_wp2_with fail
                    refine (HYM.out _).mono ?_
                    rintro e wz ⟨rfl, bz⟩
                    replace B24 := B24.trans (bz.mono B24.size)
                    clear bz
                    go_wp2_with fail
                    refine (HVM.out _).mono ?_
                    rintro e wz ⟨rfl, bz⟩
                    replace B24 := B24.trans (bz.mono B24.size)
                    clear bz
                    go_wp2_with fail
                    go_meet
                    case rel => exact ⟨rfl, B24⟩
              · have e := H4.out (by omega)
                have e2 := H5.out (by omega)
                obtain ⟨e0, e1⟩ := e
                have hv3 : decide ((1 : Int) < (v.size : Int)) = false := decide_eq_false (by omega)
                subst e0 e1 e2
                clear H3 H4 H5
                go_wp2_with fail
                refine (HVM.out _).mono ?_
                rintro e wz ⟨rfl, bz⟩
                replace B24 := B24.trans (bz.mono B24.size)
                clear bz
                go_wp2_with fail
                refine (HYM.out _).mono ?_
                rintro e wz ⟨rfl, bz⟩
                replace B24 := B24.trans (bz.mono B24.size)
                clear bz
                go_wp2_with fail
                refine (HYM.out _).mono ?_
                rintro e wz ⟨rfl, bz⟩
                replace B24 := B24.trans (bz.mono B24.size)
                clear bz
                go_wp2_with fail
                go_meet
                case rel => exact ⟨rfl, B24⟩
              --END
            case rest =>
            obtain ⟨rfl, B30⟩ := hcut
            go_wp2_with fail
            go_meet
            case rel => exact B30
        --END
      case rest =>
      obtain ⟨w30, rfl⟩ : ∃ z : World, z = wc := ⟨_, rfl⟩
      have B30 := hcut
      clear hcut B18 O18 HP hne HPO HRS HRL HFR HIN HST HSH HYL HVW hvm hrl2 hYz
      go_wp2_with fail
      refine (HSZ.out w30 40 0 5 (by omega) (by omega) (by omega) (by omega) (HRD.out.below B30 (Nat.le_refl _)) B30.size).mono ?_
      rintro e w31 ⟨m, _, hm, rfl, b31⟩
      have B31 := B30.trans (b31.mono B30.size)
      clear b31 B30 HSZ HRD
      have hz63 := lays2_len m hm
      have hma := fun u => makeAll_k 2 m (by decide) (by decide) (by omega) (by omega) u
      have hct := cnt2_all m hm
      have hcs := fun u => iCountSmooth_yes m (by omega) u
      have hc6 := fun u => iCountSmooth_yes 6 (by omega) u
      rw [cnt6] at hc6
      rw [← hct] at hcs
      have hys := fun y h => laysK_size 2 m y h
      obtain ⟨Z, hZ⟩ : ∃ Z, laysK 2 m = Z := ⟨_, rfl⟩
      rw [hZ] at hma hcs hz63 hys
      obtain ⟨z, hz⟩ : ∃ z, Z.length = z := ⟨_, rfl⟩
      rw [hz] at hma hz63
      have HMA := Lib.hid hma; have HCS := Lib.hid hcs; have HC6 := Lib.hid hc6; have HYS := Lib.hid hys; have HZ := Lib.hid hz
      clear hma hcs hc6 hys hz hct hZ
      go_wp2_with fail
      refine (HMA.out _).mono ?_
      rintro e w32 ⟨gz, cz, rfl, oz, b32⟩
      have B32 := B31.trans (b32.mono B31.size)
      have OZ := Lib.hid oz
      clear b32 B31 oz HMA
      go_wp2_with fail
      go_loopw [27, 29, 241] (fun ct _ i wv => ∃ k : Nat, k ≤ z ∧ i = .int .i64 k ∧ ct = .int .i64 (cnt2 m (Z.take k)) ∧ Below w32.heap.size w32 wv) (fun _ _ i _ => z - (intOf i).toNat)
      case atStart => exact ⟨0, by omega, rfl, rfl, Below.refl _ _⟩
      case round =>
        obtain ⟨k, hk, rfl, rfl, hb⟩ := hrel
        have hcl := cnt2_le m (Z.take k)
        rw [List.length_take, HZ.out] at hcl
        by_cases hlt : k < z
        · as_aux_lemma =>
          --SEG 6
          obtain ⟨y, hy⟩ := some_of_lt (l := Z) (k := k) (by rw [HZ.out]; exact hlt)
          have hst := cnt2_take (m := m) hy
          have hc := rds_cell (OZ.out.below hb).reads (map_at Value.string hy)
          have hyz := HYS.out y (List.mem_of_getElem? hy)
          have hsm := fun u => iIsSmooth_any y (by unfold maxLen; omega) u
          obtain ⟨q, hq⟩ : ∃ q, smoothS y = q := ⟨_, rfl⟩
          rw [hq] at hsm hst
          obtain ⟨C, hC⟩ : ∃ C, cnt2 m (Z.take k) = C := ⟨_, rfl⟩
          rw [hC] at hst hcl ⊢
          have HSM := Lib.hid hsm; have HS2 := Lib.hid hst
          clear hsm hst hy hq hC
          by_cases hym : y.size = m
          · have k1 : ((y.size : Int) == (m : Int)) = true := beq_iff_eq.2 (by omega)
            have hs3 := HS2.out
            rw [decide_eq_true hym, Bool.true_and] at hs3
            have HS3 := Lib.hid hs3
            clear hs3 hym HS2
            cases q with
            | true =>
              go_wp2_with fail
              refine (HSM.out _).mono ?_
              rintro e w33 ⟨rfl, b33⟩
              have hb2 := hb.trans (b33.mono hb.size)
              go_wp2_with fail
              go_roundw
              case rel => exact ⟨k + 1, by omega, by go_num, by rw [HS3.out]; simp, hb2⟩
              case measure => simp [intOf]; omega
            | false =>
              go_wp2_with fail
              refine (HSM.out _).mono ?_
              rintro e w33 ⟨rfl, b33⟩
              have hb2 := hb.trans (b33.mono hb.size)
              go_wp2_with fail
              go_roundw
              case rel => exact ⟨k + 1, by omega, by go_num, by rw [HS3.out]; simp, hb2⟩
              case measure => simp [intOf]; omega
          · have k1 : ((y.size : Int) == (m : Int)) = false := beq_eq_false_iff_ne.2 (by omega)
            have hs3 := HS2.out
            rw [decide_eq_false hym, Bool.false_and, if_neg (by decide)] at hs3
            have HS3 := Lib.hid hs3
            clear hs3 hym HS2
            go_wp2_with fail
            go_roundw
            case rel => exact ⟨k + 1, by omega, by go_num, by rw [HS3.out]; rfl, hb⟩
            case measure => simp [intOf]; omega
          --END
        · as_aux_lemma =>
          --SEG 7
          have hkz : Z.take k = Z := List.take_of_length_le (by rw [HZ.out]; omega)
          rw [hkz]
          have B33 := B32.trans (hb.mono B32.size)
          clear hb B32 OZ HYS hkz
          go_wp2_with fail
          refine (HCS.out _).mono ?_
          rintro e w34 ⟨rfl, b34⟩
          have B34 := B33.trans (b34.mono B33.size)
          go_wp2_with fail
          refine (HC6.out _).mono ?_
          rintro e w35 ⟨rfl, b35⟩
          have B35 := B34.trans (b35.mono B34.size)
          go_wp2_with fail
          go_ret
          exact ⟨rfl, B35⟩
          --END

set_option maxRecDepth 100000 in
theorem lifted (os : Os) (started : os.Started) (H : Type) (enc : TypeId × Value → H) :
    ReturnsInHanded {} Try.checked os 3 .any (Rows.fnRunsSpec.pre6 enc Try.prog Try.f3 Rows.fnRunsRow.domain false) (Rows.fnRunsSpec.post enc Try.prog Try.f3 false true false false) := by
  refine returnsInHanded_of_change (C := Try.checked) own started (by kernel_rfl) Try.func3
    (ChangeSpec.witness6 (enc := enc) (C := Try.checked) false ⟨#[], #[.slice none 0 0], []⟩ 8 (by kernel_rfl) (by kernel_rfl) (by kernel_rfl) (by kernel_rfl)) ?_
  intro W base args ds gs before hval0 hW hcnd _
  have hval : ∀ (j : Nat) t v, Try.f3.params[j]? = some t → args[j]? = some v → Value.okWide Try.prog W .any base t v := hval0
  have hW' := hW
  obtain ⟨p, q, hA0, hV, rfl, hfz, hnd⟩ := hW
  have hA : DataW.TrodAll enc Try.prog W 0 (fun _ => true) true Try.f3.params.toList args.toList ds p := hA0
  rw [Try.params3] at hA hval
  obtain ⟨v0, vs0, d0, ds0, p0, q0, hargs, rfl, rfl, h0, r0⟩ := trodAll_cons hA
  obtain ⟨rfl, rfl, rfl⟩ := trodAll_nil r0
  obtain rfl : args = #[v0] := by cases args; simp_all
  obtain ⟨rfl, rfl⟩ := trodVars_none hV
  obtain ⟨s0, len0, cap0, rfl⟩ := okWide_slice Try.underlying22 (hval 0 22 v0 rfl rfl)
  have k0 := h0
  have lt0 : ∀ x ∈ p0, x.block < W.heap.size := by obtain ⟨m, hm⟩ := k0; exact DataW.trod_lt m _ _ _ hm
  obtain ⟨z0, w0⟩ : ∃ zs, BytesIn W s0 len0 cap0 zs := bytes_in Try.underlying22 Try.underlying5 (by kernel_rfl) h0 lt0
  clear hA0 hval0
  refine (walk s0 len0 cap0 z0 W w0).mono fun e W' ⟨he, bel⟩ => ?_
  subst he
  exact ⟨_, rfl, _, _, _, [], _, [], hW', trodAll_mk1 (shut_bool Try.underlying4 _), (trodAll_cons_mk (Below.trod laidOut (by kernel_rfl) (of_decide_eq_true (by kernel_rfl)) k0 bel lt0) trodAll_mk0), rfl, bel.frame _, fun h => by cases h⟩

theorem over : Rows.fnRunsRow.holds Try.pinned (OpenSpec.ofChange Rows.fnRunsSpec) :=
  OpenClaim.holds_of_wide 3 Try.f3 rfl rfl rfl rfl rfl rfl rfl ⟨rfl, rfl, rfl, rfl, rfl⟩ rfl rfl rfl rfl rfl (by kernel_rfl) Try.func3 (by kernel_rfl)
    (of_decide_eq_true (by kernel_rfl)) (by unfold Func.isWrapper; first | (rw [if_pos (by decide +kernel)]; kernel_rfl) | (rw [if_neg (by decide +kernel)]; exact ⟨rfl, rfl⟩))
    (fun os started H enc _ => lifted os started H enc)

theorem proved : Rows.FnRunsSaid := over
#print axioms proved
end Go.Proofs.Ytfjmopiofcbpgaa.fnRuns
