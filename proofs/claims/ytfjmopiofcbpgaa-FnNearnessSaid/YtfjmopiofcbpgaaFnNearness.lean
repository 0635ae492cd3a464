/- For every slice of bytes the law FnNearness returns true; no condition. -/
import Derived.Test.YtfjmopiofcbpgaaNrp
import Derived.Test.YtfjmopiofcbpgaaByi
import Derived.Test.YtfjmopiofcbpgaaDrx
import Derived.Test.YtfjmopiofcbpgaaRev
import Derived.Test.YtfjmopiofcbpgaaLhp
import Derived.Test.YtfjmopiofcbpgaaLri
import Derived.Test.YtfjmopiofcbpgaaEdit
import Derived.Test.YtfjmopiofcbpgaaOwb
import Derived.HandedShaped
import Derived.Deep.CutRange
namespace Go.Proofs.Ytfjmopiofcbpgaa.fnNearness
open Go.ChangeShapes Go.WideShapes Go.ChangeAt Go.RowKit
open Go.ChangeMaps (open_string shut_string)
set_option linter.unusedVariables false

set_option maxRecDepth 8000 in
set_option maxHeartbeats 40000000 in
theorem walk (A : Option Addr) (n c : Nat) (l : List UInt8) (w : World) (hin : BytesIn w A n c l) (hsh : w.ShapedOpen Try.prog) :
    Calls Try.prog 4 #[.slice A n c] w fun e w' => e = .returned (.bool true) ∧ Below w.heap.size w w' := by
  have m0 := Lib.hid (MlOk.of hsh)
  clear hsh
  obtain ⟨hl, hnc, hcm, hrd⟩ := hin
  by_cases h1 : 1048576 < n
  · go_enter Try.func4, Try.ntmps4
    go_wp2_with fail
    go_ret
    exact ⟨rfl, Below.refl _ _⟩
  have hmk := fun v m h2 hr hb => makeWord_any A n c w.heap.size m 10 l v h2 (by decide) (by decide) hl (by omega) hr hb
  have HMK := Lib.hid hmk; have HRD := Lib.hid hrd
  clear hmk hrd
  go_enter Try.func4, Try.ntmps4
  go_wp2_with fail
  refine (HMK.out w 0 (by omega) HRD.out (Nat.le_refl _)).mono ?_
  rintro e w1 ⟨x, hx, _, hxw, rfl, B1⟩
  go_wp2_with fail
  refine (HMK.out w1 30 (by omega) (HRD.out.below B1 (Nat.le_refl _)) B1.size).mono ?_
  rintro e w2 ⟨y, hy, _, hyw, rfl, b2⟩
  have B2 := B1.trans (b2.mono B1.size)
  clear b2 B1
  go_wp2_with fail
  refine (HMK.out w2 60 (by omega) (HRD.out.below B2 (Nat.le_refl _)) B2.size).mono ?_
  rintro e w3 ⟨u, hu, _, huw, rfl, b3⟩
  have B3 := B2.trans (b3.mono B2.size)
  clear b3 B2 HMK HRD hl hnc hcm h1
  have hsx : x.size ≤ maxLen := by unfold maxLen; omega
  have hsy : y.size ≤ maxLen := by unfold maxLen; omega
  have hsu : u.size ≤ maxLen := by unfold maxLen; omega
  have htr : ∀ s : ByteArray, L (trn s) = (L s).reverse := fun s => by rw [trn, strOf_L, rv]
  have htz : ∀ s : ByteArray, (trn s).size = s.size := fun s => by rw [← L_len, htr, List.length_reverse, L_len]
  have htw : ∀ s : ByteArray, isW (L s) = true → isW (L (trn s)) = true := fun s hs => by
    rw [htr]; unfold isW at hs ⊢; rwa [List.all_reverse, List.length_reverse]
  have e1 := fun v => iEdit_yes x y hsx hsy hxw hyw (by omega) (by omega) v
  have e2 := fun v => iEdit_yes y x hsy hsx hyw hxw (by omega) (by omega) v
  have e3 := fun v => iEdit_yes x u hsx hsu hxw huw (by omega) (by omega) v
  have e4 := fun v => iEdit_yes u y hsu hsy huw hyw (by omega) (by omega) v
  have e5 := fun v => iEdit_yes (trn x) (trn y) (by rw [htz]; exact hsx) (by rw [htz]; exact hsy) (htw x hxw) (htw y hyw) (by rw [htz]; omega) (by rw [htz]; omega) v
  have f1 := fun v => flip_any x (by omega) v
  have f2 := fun v => flip_any y (by omega) v
  rw [ed_dist] at e1 e2 e3 e4 e5
  rw [dist_symm (L y) (L x)] at e2
  rw [htr, htr, dist_flip] at e5
  have d1 := (dist_zero (L x) (L y))
  have d2 := dist_max (L x) (L y)
  have d3 := dist_len (L x) (L y)
  have d4 := dist_len (L y) (L x)
  rw [dist_symm (L y) (L x)] at d4
  have d5 := dist_tri (L x) (L u) (L y)
  have d6 := dist_max (L x) (L u)
  have d7 := dist_max (L u) (L y)
  have d0 : 0 ≤ dist (L x) (L y) := by obtain ⟨k, hk, _⟩ := dist_al (L x) (L y); omega
  have d8 : 0 ≤ dist (L x) (L u) := by obtain ⟨k, hk, _⟩ := dist_al (L x) (L u); omega
  have d9 : 0 ≤ dist (L u) (L y) := by obtain ⟨k, hk, _⟩ := dist_al (L u) (L y); omega
  have hmm := mm_same x y hxw hyw
  have hmo := mm_other x y
  rw [L_len, L_len] at d2 d3 d4 d6 d7
  generalize dist (L x) (L y) = D at *
  generalize dist (L x) (L u) = D1 at *
  generalize dist (L u) (L y) = D2 at *
  obtain ⟨b, hb⟩ : ∃ b, (x.toList == y.toList) = b := ⟨_, rfl⟩
  have hb0 : b = decide (x = y) := by rw [← hb, str_eq]
  have hb2 : (D == 0) = b := by
    rw [hb0, Bool.eq_iff_iff, beq_iff_eq, decide_eq_true_iff, d1]
    exact ⟨fun h => bytes_ext h, fun h => by rw [h]⟩
  obtain ⟨M, hM, hMc⟩ : ∃ M : Nat, max x.size y.size = M ∧ (max (x.size : Int) y.size = (M : Int)) := ⟨_, rfl, by omega⟩
  rw [hM] at d2
  have hM2 : M ≤ 10 := by omega
  have hD1 : D1 ≤ 10 := by omega
  have hD2 : D2 ≤ 10 := by omega
  have E1 := Lib.hid e1; have E2 := Lib.hid e2; have E3 := Lib.hid e3; have E4 := Lib.hid e4; have E5 := Lib.hid e5
  have F1 := Lib.hid f1; have F2 := Lib.hid f2; have HMM := Lib.hid hmm; have HMO := Lib.hid hmo; have HB0 := Lib.hid hb0
  have HXW := Lib.hid hxw; have HYW := Lib.hid hyw; have HMX := Lib.hid hM
  clear e1 e2 e3 e4 e5 f1 f2 hmm hmo hb0 d1 hxw hyw huw htr htz htw hM d6 d7
  go_wp2_with fail
  refine (E1.out w3).mono ?_
  rintro e w4 ⟨rfl, b4⟩
  have B4 := B3.trans (b4.mono B3.size)
  clear b4 B3
  go_upto_region 7 with fail
  clear E1
  go_cut [93] from 34 to 93 (fun cc wx => cc = .bool false ∧ Below w.heap.size w wx)
  case first => as_aux_lemma =>
    --SEG 1
    go_wp2_with fail
    refine (E2.out w4).mono ?_
    rintro e w5 ⟨rfl, b5⟩
    have B5 := B4.trans (b5.mono B4.size)
    clear b5 B4
    go_wp2_with fail
    refine (E3.out w5).mono ?_
    rintro e w6 ⟨rfl, b6⟩
    have B6 := B5.trans (b6.mono B5.size)
    clear b6 B5
    go_wp2_with fail
    refine (E4.out w6).mono ?_
    rintro e w7 ⟨rfl, b7⟩
    have B7 := B6.trans (b7.mono B6.size)
    clear b7 B6
    go_wp2_with fail
    refine (F1.out w7).mono ?_
    rintro e w8 ⟨rfl, b8⟩
    have B8 := B7.trans (b8.mono B7.size)
    clear b8 B7
    go_wp2_with fail
    refine (F2.out w8).mono ?_
    rintro e w9 ⟨rfl, b9⟩
    have B9 := B8.trans (b9.mono B8.size)
    clear b9 B8
    go_wp2_with fail
    refine (E5.out w9).mono ?_
    rintro e w10 ⟨rfl, b10⟩
    have B10 := B9.trans (b10.mono B9.size)
    clear b10 B9 E2 E3 E4 E5 F1 F2
    go_wp2_with fail
    go_meet
    case rel => exact ⟨congrArg Value.bool (by simp only [Bool.or_eq_false_iff, decide_eq_false_iff_not]; omega), B10⟩
    --END
  case rest =>
  obtain ⟨rfl, B10⟩ := hcut
  obtain ⟨w10, rfl⟩ : ∃ z : World, z = wc := ⟨_, rfl⟩
  clear B4 E2 E3 E4 E5 F1 F2
  go_upto_region 9 with fail
  clear d5 d8 d9 hD1 hD2
  go_cut [128] from 94 to 128 (fun cc wx => cc = .bool false ∧ Below w.heap.size w wx)
  case first => as_aux_lemma =>
    --SEG 2
    have hmc := fun v => iMismatchesOf_any x y hsx hsy v
    by_cases hxy : x.size = y.size
    · obtain ⟨g1, g2, g3, g4⟩ := HMM.out hxy
      obtain ⟨q, hq⟩ : ∃ q, mmOf (L x) (L y) = q := ⟨_, rfl⟩
      rw [hq] at hmc g1 g2 g3 g4
      have g5 : (q == 0) = b := by
        rw [HB0.out, Bool.eq_iff_iff, beq_iff_eq, decide_eq_true_iff, g2]
      have k1 : ((x.size : Int) == (y.size : Int)) = true := beq_iff_eq.2 (by omega)
      have k2 : ((x.size : Int) != (y.size : Int)) = false := by rw [bne, k1]; rfl
      have k3 : x.size ≤ y.size := by omega
      have k4 : y.size ≤ x.size := by omega
      have HMC := Lib.hid hmc
      clear hxy g2 hq HMM HMO HB0 hmc
      go_wp2_with fail
      refine (HMC.out _).mono ?_
      rintro e w11 ⟨rfl, b11⟩
      have B11 := B10.trans b11.below
      clear b11 B10
      go_wp2_with fail
      refine (HMC.out w11).mono ?_
      rintro e w12 ⟨rfl, b12⟩
      have B12 := B11.trans b12.below
      clear b12 B11 HMC
      go_wp2_with fail
      go_meet
      case rel => exact ⟨congrArg Value.bool (decide_eq_false (by omega)), B12⟩
    · have hq := HMO.out hxy
      rw [hq] at hmc
      have k1 : ((x.size : Int) == (y.size : Int)) = false := beq_eq_false_iff_ne.2 (by omega)
      have k2 : ((x.size : Int) != (y.size : Int)) = true := by rw [bne, k1]; rfl
      have HMC := Lib.hid hmc; have HXY := Lib.hid hxy
      clear hxy hq HMM HMO HB0 hmc
      go_wp2_with fail
      refine (HMC.out w10).mono ?_
      rintro e w12 ⟨rfl, b12⟩
      have B12 := B10.trans b12.below
      clear b12 B10 HMC
      go_wp2_with fail
      go_meet
      case rel => exact ⟨rfl, B12⟩
    --END
  case rest =>
    obtain ⟨w12, rfl⟩ : ∃ z : World, z = wc := ⟨_, rfl⟩
    obtain ⟨rfl, B12⟩ := hcut
    clear B10 HMM HMO HB0
    go_wp2_with fail
    clear hb hb2 d2 d3 d4 d0
    refine (iAgreementsOf_yes y hsy HYW.out (by omega) w12).mono ?_
    rintro e w13 ⟨A1, c1, rfl, o1, b13⟩
    have B13 := B12.trans (b13.mono B12.size)
    clear b13 B12
    obtain ⟨ga, rfl⟩ := own_block o1 (by omega)
    have O1 := Lib.hid o1; clear o1
    go_wp2_with fail
    refine (iPeriods_yes y HYW.out w13).mono ?_
    rintro e w14 ⟨A2, c2, rfl, o2, b14⟩
    have o1 := O1.out.below b14
    have B14 := B13.trans (b14.mono B13.size)
    clear b14 B13 O1
    have hpl := pdL_len y y.size
    obtain ⟨P, hP⟩ : ∃ P, (pdL y y.size).length = P := ⟨_, rfl⟩
    rw [hP] at o2 hpl ⊢
    have r0 := rds_cell o1.reads (map_at (Value.int .i64) (agrs_at (L y) (y.size + 1) 0 (by omega)))
    have r1 := rds_cell o1.reads (map_at (Value.int .i64) (agrs_at (L y) (y.size + 1) y.size (by omega)))
    rw [agr_zero] at r0
    rw [agr_end] at r1
    have O1 := Lib.hid o1; have O2 := Lib.hid o2; have HP := Lib.hid hP
    clear o1 o2 hP
    go_wp2_with fail
    clear r0 r1
    go_loopw [9, 10, 157] (fun _ _ i wr => ∃ k : Nat, k ≤ y.size + 1 ∧ i = .int .i64 k ∧ Dr w14 wr) (fun _ _ i _ => y.size + 1 - (intOf i).toNat)
    case atStart => exact ⟨0, by omega, rfl, Dr.refl _⟩
    case round =>
      obtain ⟨k, hk, rfl, hd⟩ := hrel
      by_cases hlt : k < y.size + 1
      · as_aux_lemma =>
        --SEG 4
        have hks : k ≤ y.size := by omega
        have hc0 := rds_cell (O1.out.dr hd).reads (map_at (Value.int .i64) (agrs_at (L y) (y.size + 1) k hlt))
        have hag := fun v => iAgreementAt_yes y k hsy HYW.out hks v
        have hab := agr_bd y k hks
        have hhp := has_per y k
        obtain ⟨a, ha⟩ : ∃ a, agr (L y) k = a := ⟨_, rfl⟩
        rw [ha] at hc0 hag hab hhp
        obtain ⟨ha1, ha2⟩ := hab
        have HAG := Lib.hid hag; have HHP := Lib.hid hhp
        clear hag hhp ha
        cases k with
        | zero =>
          go_wp2_with fail
          refine (HAG.out wr).mono ?_
          rintro e w15 ⟨rfl, hd2⟩
          go_wp2_with fail
          go_roundw
          case rel => exact ⟨1, by omega, by go_num, hd.trans hd2⟩
          case measure => simp [intOf]
        | succ j =>
          have hhs := fun v r => lhas_any (pdL y y.size) ((j + 1 : Nat) : Int) A2 c2 v.heap.size P v HP.out (by omega) r
          rw [HHP.out (by omega) hks] at hhs
          obtain ⟨q, hq⟩ : ∃ q, decide (a = (y.size : Int) - ((j + 1 : Nat) : Int)) = q := ⟨_, rfl⟩
          rw [hq] at hhs
          have hq2 : (a == (y.size : Int) - ((j : Int) + 1)) = q := by rw [← hq]; exact Bool.eq_iff_iff.2 (by simp)
          have HHS := Lib.hid hhs
          clear hhs hq
          go_wp2_with fail
          refine (HAG.out wr).mono ?_
          rintro e w15 ⟨rfl, hd2⟩
          go_wp2_with fail
          refine (HHS.out w15 ((O2.out.dr (hd.trans hd2)).reads)).mono ?_
          rintro e w16 ⟨rfl, rfl⟩
          go_wp2_with fail
          go_roundw
          case rel => exact ⟨j + 1 + 1, by omega, by go_num, hd.trans hd2⟩
          case measure => simp [intOf]; omega
        --END
      · have hke : k = y.size + 1 := by omega
        have B15 := B14.trans hd.below
        have o1 := O1.out.dr hd
        have O3 := Lib.hid o1
        clear O1 O2 hd o1 B14 HP hpl hke
        go_wp2_with fail
        clear hlt hk
        obtain ⟨t1, t2, t3⟩ := bs_ok y
        have hbs : ∀ v, Calls Try.prog 28 #[.string y] v fun e w' => e = .returned (.int .i64 (bsN y)) ∧ Dr v w' := fun v => iBestShift_yes y hsy HYW.out (by omega) v
        obtain ⟨K, hK⟩ : ∃ K, bsN y = K := ⟨_, rfl⟩
        rw [hK] at hbs t1 t2 t3
        obtain ⟨q, hq⟩ : ∃ q, decide (y.size < 2) = q := ⟨_, rfl⟩
        have hq1 : ((K : Int) == 0) = q := by
          rw [← hq, Bool.eq_iff_iff, beq_iff_eq, decide_eq_true_iff, ← t1]; omega
        have hq2 : decide ((y.size : Int) < 2) = q := by
          rw [← hq, decide_eq_decide]; omega
        have T3 := Lib.hid t3
        clear t1 t3 hK hq
        refine (hbs wr).mono ?_
        rintro e w15 ⟨rfl, hd5⟩
        have B16 := B15.trans hd5.below
        have o1 := O3.out.dr hd5
        have O4 := Lib.hid o1
        clear hbs hd5 o1 O3 B15
        go_wp2_with fail
        clear hq1 hq2
        go_loopw [12, 13, 14] (fun i _ _ wv => ∃ k : Nat, 1 ≤ k ∧ k ≤ y.size / 2 + 1 ∧ i = .int .i64 k ∧ Dr w15 wv) (fun i _ _ _ => y.size + 1 - (intOf i).toNat)
        case atStart => exact ⟨1, by omega, by omega, rfl, Dr.refl _⟩
        case round =>
          obtain ⟨k, hk1, hk, rfl, hd⟩ := hrel
          by_cases hlt : k ≤ y.size / 2
          · as_aux_lemma =>
            --SEG 6
            have hlt2 : (k : Int) ≤ (y.size : Int) / 2 := by omega
            have r1 := rds_cell (O4.out.dr hd).reads (map_at (Value.int .i64) (agrs_at (L y) (y.size + 1) k (by omega)))
            have r2 := rds_cell (O4.out.dr hd).reads (map_at (Value.int .i64) (agrs_at (L y) (y.size + 1) K (by omega)))
            obtain ⟨v1, v2⟩ := T3.out k hk1 hlt
            obtain ⟨a1, a2⟩ := agr_bd y k (by omega)
            obtain ⟨a3, a4⟩ := agr_bd y K (by omega)
            generalize agr (L y) k = a at *
            generalize agr (L y) K = a' at *
            obtain ⟨p1, p2⟩ := pr_bd (a := a) (b := (y.size : Int) - K) a1 (by omega) (by omega) (by omega)
            obtain ⟨p3, p4⟩ := pr_bd (a := a') (b := (y.size : Int) - k) a3 (by omega) (by omega) (by omega)
            by_cases heq : a * ((y.size : Int) - K) = a' * ((y.size : Int) - k)
            · have hKk := v2 heq
              have hb1 : (a * ((y.size : Int) - K) == a' * ((y.size : Int) - k)) = true := beq_iff_eq.2 heq
              clear v2 heq
              go_wp2_with fail
              go_roundw
              case rel => exact ⟨k + 1, by omega, by omega, by go_num, hd⟩
              case measure => simp [intOf]; omega
            · have hb1 : (a * ((y.size : Int) - K) == a' * ((y.size : Int) - k)) = false := beq_eq_false_iff_ne.2 heq
              clear v2 heq
              go_wp2_with fail
              go_roundw
              case rel => exact ⟨k + 1, by omega, by omega, by go_num, hd⟩
              case measure => simp [intOf]; omega
            --END
          · have hlt2 : ¬ (k : Int) ≤ (y.size : Int) / 2 := by omega
            have B17 := B16.trans hd.below
            clear T3 O4 hd t2 B16
            go_upto_if 257 with fail
            go_cut [] from 253 to 295 (fun wx => Below w.heap.size w wx)
            case first => as_aux_lemma =>
             --SEG 7
             by_cases hle : x.size ≤ y.size
             · go_wp2_with fail
               clear hlt hlt2 hk hk1
               have hnp : ∀ v, Calls Try.prog 29 #[.string y, .string x] v fun e w' => e = .returned (.tuple #[.int .i64 (npR y x).1, .int .i64 (npR y x).2]) ∧ Dr v w' := fun v => iNearestPart_yes y x hsy hsx HYW.out HXW.out hle v
               obtain ⟨n1, n2, n3, n4⟩ := np_ok y x HYW.out HXW.out hle
               obtain ⟨⟨p, q⟩, hr⟩ : ∃ r, npR y x = r := ⟨_, rfl⟩
               rw [hr] at hnp n1 n2 n3 n4
               simp only at hnp n1 n2 n3 n4
               have hmp := fun v => iMismatchesOf_any (y.extract p (p + x.size)) x (by have := size_part y p (p + x.size) n1; unfold maxLen; omega) hsx v
               rw [n2] at hmp
               obtain ⟨f, hf⟩ : ∃ f, facB y x = f := ⟨_, rfl⟩
               have hif := fun v h => iIsFactor_any y x (by omega) hsx v h
               rw [hf] at hif n3
               have hq1 : ((q : Int) == 0) = f := by
                 rw [Bool.eq_iff_iff, beq_iff_eq, ← n3]; omega
               have HMP := Lib.hid hmp; have HIF := Lib.hid hif
               clear hmp hif hr n2 n3 hf
               refine (hnp wr).mono ?_
               rintro e w18 ⟨rfl, hd8⟩
               have B18 := B17.trans hd8.below
               clear hnp hd8 B17
               go_wp2_with fail
               refine (HMP.out w18).mono ?_
               rintro e w19 ⟨rfl, hd9⟩
               have B19 := B18.trans hd9.below
               clear hd9 B18
               go_wp2_with fail
               refine (HIF.out w19 (m0.out.below B19)).mono ?_
               rintro e w20 ⟨rfl, rfl⟩
               have B20 := B19
               clear B19
               go_wp2_with fail
               go_meet
               case rel => exact B20
             · go_wp2_with fail
               go_meet
               case rel => exact B17
             --END
            case rest =>
              obtain ⟨w20, rfl⟩ : ∃ z : World, z = wc := ⟨_, rfl⟩
              have B20 := hcut
              clear hcut B17 hlt hlt2 hk hk1
              go_wp2_with fail
              have hx2 : shW x = true := by unfold shW; rw [HXW.out, decide_eq_true (by omega)]; rfl
              have hy2 : shW y = true := by unfold shW; rw [HYW.out, decide_eq_true (by omega)]; rfl
              have s1 := fun v => iSame_yes x y hsx hsy hx2 hy2 v
              have s2 := fun v => iSame_yes x x hsx hsx hx2 hx2 v
              have s3 := fun v => iSame_yes y x hsy hsx hy2 hx2 v
              rw [sfN_self] at s2
              rw [sfN_symm y x] at s3
              have hm := sfN_bd x y
              have hme := sfN_eq x y
              have hml := fun h => shL_all (s := x) (t := y) (n := 2) (by decide) h
              rw [HMX.out] at hm
              obtain ⟨m, hmm⟩ : ∃ m, sfN x y = m := ⟨_, rfl⟩
              rw [hmm] at s1 s3 hm hme hml
              have hsh : shOk x y 2 = true := by unfold shOk; rw [HXW.out, HYW.out]; rfl
              have s4 : ∀ v, Calls Try.prog 32 #[.string x, .string y, .int .i64 2] v fun e w' => ∃ A c, e = .returned (.slice A (shL x y 2).length c) ∧ Own w' v.heap.size 9 (.slice A (shL x y 2).length c) ((shL x y 2).map Value.string) ∧ Below v.heap.size v w' := fun v => iShared_yes x y 2 hsx hsy hsh v
              have hss := shL_ss x y 2
              have hsf := fun f h => shL_fac (s := x) (t := y) HXW.out HYW.out (n := 2) (f := f) h
              have hsl := shL_len x y 2
              obtain ⟨Z, hZ⟩ : ∃ Z, shL x y 2 = Z := ⟨_, rfl⟩
              rw [hZ] at s4 hss hsf hsl hml
              obtain ⟨z, hz⟩ : ∃ z, Z.length = z := ⟨_, rfl⟩
              rw [hz] at s4 hsl hml
              have S1 := Lib.hid s1; have S2 := Lib.hid s2; have S3 := Lib.hid s3; have S4 := Lib.hid s4
              have HME := Lib.hid hme; have HML := Lib.hid hml; have HSS := Lib.hid hss; have HSF := Lib.hid hsf; have HZ := Lib.hid hz
              clear s1 s2 s3 s4 hme hml hss hsf hmm hZ hz hx2 hy2 hsh
              refine (S1.out _).mono ?_
              rintro e w21 ⟨rfl, b21⟩
              have B21 := B20.trans (b21.mono B20.size)
              clear b21 B20
              go_wp2_with fail
              refine (S4.out w21).mono ?_
              rintro e w22 ⟨As, cs, rfl, os, b22⟩
              have B22 := B21.trans (b22.mono B21.size)
              have OS := Lib.hid os
              clear b22 B21 os
              go_upto_region 37 with fail
              go_cut [332] from 302 to 332 (fun cc wx => cc = .bool false ∧ Below w.heap.size w wx ∧ Own wx w21.heap.size 9 (.slice As z cs) (Z.map Value.string))
              case first => as_aux_lemma =>
                --SEG 8
                go_wp2_with fail
                refine (lrising_yes Z HSS.out As cs w22.heap.size z w22 HZ.out (by omega) OS.out.reads).mono ?_
                rintro e w23 ⟨rfl, d23⟩
                have os2 := OS.out.dr d23
                have OS2 := Lib.hid os2
                have B23 := B22.trans d23.below
                clear d23 B22 os2 OS
                go_wp2_with fail
                refine (S2.out w23).mono ?_
                rintro e w24 ⟨rfl, b24⟩
                have os3 := OS2.out.below b24
                have OS3 := Lib.hid os3
                have B24 := B23.trans (b24.mono B23.size)
                clear b24 B23 os3 OS2
                go_wp2_with fail
                refine (S3.out w24).mono ?_
                rintro e w25 ⟨rfl, b25⟩
                have os4 := OS3.out.below b25
                have OS4 := Lib.hid os4
                have B25 := B24.trans (b25.mono B24.size)
                clear b25 B24 os4 OS3 S1 S2 S3 S4
                go_wp2_with fail
                go_meet
                case rel => exact ⟨congrArg Value.bool (by simp only [Bool.or_eq_false_iff, decide_eq_false_iff_not]; omega), B25, OS4.out⟩
                --END
              case rest =>
              obtain ⟨rfl, B25, os4⟩ := hcut
              obtain ⟨w25, rfl⟩ : ∃ z : World, z = wc := ⟨_, rfl⟩
              have OS4 := Lib.hid os4
              clear B22 os4 OS S1 S2 S3 S4
              go_wp2_with fail
              go_loopw [19] (fun i wv => ∃ k : Nat, 1 ≤ k ∧ k ≤ m + 1 ∧ i = .int .i64 k ∧ Below w25.heap.size w25 wv) (fun i _ => m + 1 - (intOf i).toNat)
              case atStart => exact ⟨1, by omega, by omega, rfl, Below.refl _ _⟩
              case round =>
                obtain ⟨k, hk1, hk, rfl, hb⟩ := hrel
                by_cases hlt : k ≤ m
                · as_aux_lemma =>
                  --SEG 9
                  have hfe := HME.out k hk1 hlt
                  have hfx := fun v => iFactors_yes x k HXW.out hk1 (by omega) v
                  have hfy := fun v => iFactors_yes y k HYW.out hk1 (by omega) v
                  rw [← hfe] at hfy
                  have hfl := fcI_len x k
                  obtain ⟨F, hF⟩ : ∃ F, insL (fc x k) = F := ⟨_, rfl⟩
                  rw [hF] at hfx hfy hfl
                  obtain ⟨fl, hFl⟩ : ∃ fl, F.length = fl := ⟨_, rfl⟩
                  rw [hFl] at hfx hfy hfl
                  have HFX := Lib.hid hfx; have HFY := Lib.hid hfy; have HFL := Lib.hid hFl
                  clear hfe hfx hfy hF hFl
                  go_wp2_with fail
                  refine (HFX.out wr).mono ?_
                  rintro e w26 ⟨gx, cx, rfl, ax, b26⟩
                  go_wp2_with fail
                  refine (HFY.out w26).mono ?_
                  rintro e w27 ⟨gy, cy, rfl, ay, b27⟩
                  have ax2 := ax.below b27
                  go_wp2_with fail
                  refine (lequal_same F _ _ cx cy _ _ fl w27 HFL.out (by omega) ax2.rds ay.rds).mono ?_
                  rintro e w28 ⟨rfl, d28⟩
                  have hb2 := (hb.trans (b26.mono hb.size)).trans ((b27.mono (Nat.le_trans hb.size b26.size)).trans d28.below)
                  clear b26 b27 d28 ax ay ax2 HFX HFY
                  go_wp2_with fail
                  go_roundw
                  case rel => exact ⟨k + 1, by omega, by omega, by go_num, hb2⟩
                  case measure => simp [intOf]; omega
                  --END
                · have B26 := B25.trans (hb.mono B25.size)
                  have os5 := OS4.out.below hb
                  have OS5 := Lib.hid os5
                  clear os5 OS4 B25 hb HME
                  go_wp2_with fail
                  clear hk hlt hk1
                  obtain ⟨w29, rfl⟩ : ∃ z : World, z = wr := ⟨_, rfl⟩
                  go_loopw [21, 348] (fun _ i wv => ∃ k : Nat, k ≤ z ∧ i = .int .i64 k ∧ wv = w29) (fun _ i _ => z - (intOf i).toNat)
                  case atStart => exact ⟨0, by omega, rfl, rfl⟩
                  case round =>
                    obtain ⟨k, hk, rfl, rfl⟩ := hrel
                    by_cases hlt : k < z
                    · as_aux_lemma =>
                      --SEG 10
                      obtain ⟨f, hf⟩ := some_of_lt (l := Z) (k := k) (by rw [HZ.out]; exact hlt)
                      obtain ⟨gs, rfl⟩ := own_block OS5.out (by omega)
                      have hc := rds_cell OS5.out.reads (map_at Value.string hf)
                      obtain ⟨f1, f2, f3⟩ := HSF.out f (List.mem_of_getElem? hf)
                      have hi1 := fun v h => iIsFactor_any x f (by omega) (by unfold maxLen; omega) v h
                      have hi2 := fun v h => iIsFactor_any y f (by omega) (by unfold maxLen; omega) v h
                      rw [f1] at hi1
                      rw [f2] at hi2
                      have HI1 := Lib.hid hi1; have HI2 := Lib.hid hi2
                      have f4 : ((f.size : Int) != 2) = false := by rw [f3]; rfl
                      clear hi1 hi2 f1 f2 f3 hf
                      go_wp2_with fail
                      refine (HI1.out _ (m0.out.below B26)).mono ?_
                      rintro e w30 ⟨rfl, rfl⟩
                      go_wp2_with fail
                      refine (HI2.out _ (m0.out.below B26)).mono ?_
                      rintro e w31 ⟨rfl, rfl⟩
                      go_wp2_with fail
                      go_roundw
                      case rel => exact ⟨k + 1, by omega, by go_num, by first | trivial | rfl⟩
                      case measure => simp [intOf]; omega
                      --END
                    · as_aux_lemma =>
                      --SEG 11
                      by_cases hm2 : m < 2
                      · go_wp2_with fail
                        go_ret
                        exact ⟨rfl, B26⟩
                      · have hcp := iCpx_yes x 2 HXW.out (by decide) (by decide)
                        rw [← HML.out (by omega)] at hcp
                        have HCP := Lib.hid hcp; clear hcp
                        go_wp2_with fail
                        refine (HCP.out _).mono ?_
                        rintro e w32 ⟨rfl, b32⟩
                        have B32 := B26.trans (b32.mono B26.size)
                        clear b32
                        go_wp2_with fail
                        go_ret
                        exact ⟨rfl, B32⟩
                      --END

set_option maxRecDepth 100000 in
theorem lifted (os : Os) (started : os.Started) (H : Type) (enc : TypeId × Value → H) :
    ReturnsInHanded {} Try.checked os 4 .any (Rows.fnNearnessSpec.pre6 enc Try.prog Try.f4 Rows.fnNearnessRow.domain false) (Rows.fnNearnessSpec.post enc Try.prog Try.f4 false true false false) := by
  refine returnsInHanded_of_change_shaped (C := Try.checked) own started (by kernel_rfl) Try.func4
    (ChangeSpec.witness6 (enc := enc) (C := Try.checked) false ⟨#[], #[.slice none 0 0], []⟩ 8 (by kernel_rfl) (by kernel_rfl) (by kernel_rfl) (by kernel_rfl)) ?_
  intro W base args ds gs before hval0 hW hcnd _ hsh _
  have hval : ∀ (j : Nat) t v, Try.f4.params[j]? = some t → args[j]? = some v → Value.okWide Try.prog W .any base t v := hval0
  have hW' := hW
  obtain ⟨p, q, hA0, hV, rfl, hfz, hnd⟩ := hW
  have hA : DataW.TrodAll enc Try.prog W 0 (fun _ => true) true Try.f4.params.toList args.toList ds p := hA0
  rw [Try.params4] at hA hval
  obtain ⟨v0, vs0, d0, ds0, p0, q0, hargs, rfl, rfl, h0, r0⟩ := trodAll_cons hA
  obtain ⟨rfl, rfl, rfl⟩ := trodAll_nil r0
  obtain rfl : args = #[v0] := by cases args; simp_all
  obtain ⟨rfl, rfl⟩ := trodVars_none hV
  obtain ⟨s0, len0, cap0, rfl⟩ := okWide_slice Try.underlying22 (hval 0 22 v0 rfl rfl)
  have k0 := h0
  have lt0 : ∀ x ∈ p0, x.block < W.heap.size := by obtain ⟨m, hm⟩ := k0; exact DataW.trod_lt m _ _ _ hm
  obtain ⟨z0, w0⟩ : ∃ zs, BytesIn W s0 len0 cap0 zs := bytes_in Try.underlying22 Try.underlying5 (by kernel_rfl) h0 lt0
  clear hA0 hval0
  refine (walk s0 len0 cap0 z0 W w0 hsh).mono fun e W' ⟨he, bel⟩ => ?_
  subst he
  exact ⟨_, rfl, _, _, _, [], _, [], hW', trodAll_mk1 (shut_bool Try.underlying4 _), (trodAll_cons_mk (Below.trod laidOut (by kernel_rfl) (of_decide_eq_true (by kernel_rfl)) k0 bel lt0) trodAll_mk0), rfl, bel.frame _, fun h => by cases h⟩

theorem over : Rows.fnNearnessRow.holds Try.pinned (OpenSpec.ofChange Rows.fnNearnessSpec) :=
  OpenClaim.holds_of_wide 4 Try.f4 rfl rfl rfl rfl rfl rfl rfl ⟨rfl, rfl, rfl, rfl, rfl⟩ rfl rfl rfl rfl rfl (by kernel_rfl) Try.func4 (by kernel_rfl)
    (of_decide_eq_true (by kernel_rfl)) (by unfold Func.isWrapper; first | (rw [if_pos (by decide +kernel)]; kernel_rfl) | (rw [if_neg (by decide +kernel)]; exact ⟨rfl, rfl⟩))
    (fun os started H enc _ => lifted os started H enc)

theorem proved : Rows.FnNearnessSaid := over
#print axioms proved
end Go.Proofs.Ytfjmopiofcbpgaa.fnNearness
