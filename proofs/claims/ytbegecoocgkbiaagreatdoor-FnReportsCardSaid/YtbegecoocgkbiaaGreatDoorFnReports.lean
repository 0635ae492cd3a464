/- For every slice of bytes the law FnReports returns true; no condition; the listed variables are the library's own, tied. -/
import Derived.Test.YtbegecoocgkbiaaGreatDoorM39
import Derived.Test.YtbegecoocgkbiaaGreatDoorMks
import Derived.Test.YtbegecoocgkbiaaGreatDoorAgr
import Derived.Test.YtbegecoocgkbiaaGreatDoorSbl
import Derived.Test.YtbegecoocgkbiaaGreatDoorWln
import Derived.Test.YtbegecoocgkbiaaGreatDoorCpx
import Derived.Test.YtbegecoocgkbiaaGreatDoorGln
import Derived.Test.YtbegecoocgkbiaaGreatDoorNml
import Derived.Test.YtbegecoocgkbiaaGreatDoorRul
import Derived.Test.YtbegecoocgkbiaaGreatDoorRtn
import Derived.Test.YtbegecoocgkbiaaGreatDoorM7
import Derived.Test.YtbegecoocgkbiaaGreatDoorM1
import Derived.Deep.CutRange
import Derived.Deep.RegionHeld3
import Derived.Deep.DrawnRows
import Derived.Test.YtbegecoocgkbiaaGreatDoorTie
import Derived.Test.YtbegecoocgkbiaaGreatDoorCards
import Derived.Lay
import Derived.LaidLaws
import Derived.SevenTiedAt
import Derived.LaidMore
namespace Go.Proofs.YtbegecoocgkbiaaGreatDoor.fnReports
open Go.ChangeShapes Go.WideShapes Go.ChangeAt Go.RowKit
open Go.ChangeMaps (open_string shut_string)
set_option linter.unusedVariables false

theorem rln_abba : rlnV [{ data := #[97, 98] }, { data := #[98, 97] }] = { data := #[97, 98, 46, 98, 97, 32, 97, 98, 46, 98, 97] } := by decide +kernel
theorem rln_a : rlnV [{ data := #[97] }] = { data := #[45, 32, 45] } := by decide +kernel
theorem rls_ab : rlS { data := #[97, 98, 97, 97, 98] } { data := #[97] } = { data := #[97, 98, 46, 97, 32, 97, 98] } := by decide +kernel
set_option maxRecDepth 8000 in
set_option maxHeartbeats 40000000 in
theorem walk (A : Option Addr) (n c : Nat) (l : List UInt8) (w : World) (hin : BytesIn w A n c l) (hsh : w.ShapedOpen Tryz.prog) (hL : laidMet Tryz.prog Rows.fnReportsRow.laid w) :
    Calls Tryz.prog 4 #[.slice A n c] w fun e w' => e = .returned (.bool true) ∧ Below w.heap.size w w' := by
  have m0 := Lib.hid (MlS.of hsh)
  have t0 := Lib.hid (TB.of_head hL.tail.tail)
  have r0 := Lib.hid (EG.of hL.tail.tail.tail.tail)
  have x0 := Lib.hid (ES.of hL.tail.tail.tail.tail.tail)
  clear hsh hL
  obtain ⟨hl, hnc, hcm, hrd⟩ := hin
  by_cases h1 : 1048576 < n
  · go_enter Tryz.func4, Tryz.ntmps4
    go_wp2_with fail
    go_ret
    exact ⟨rfl, Below.refl _ _⟩
  have hmk := makeWord_any A n c w.heap.size 0 14 l w (by decide) (by decide) (by decide) hl (by omega) hrd (Nat.le_refl _)
  have hms := fun v hr hb => makeSubst_any A n c w.heap.size 40 l v (by decide) hl (by omega) hr hb
  have hmn := fun v hr hb => makeNum_any A n c w.heap.size 60 l v (by decide) hl (by omega) hr hb
  have hmg := fun v hr hb => makeGold_any A n c w.heap.size 70 l v (by decide) hl (by omega) hr hb
  have HMK := Lib.hid hmk; have HMS := Lib.hid hms; have HMN := Lib.hid hmn; have HMG := Lib.hid hmg; have HRD := Lib.hid hrd
  clear hmk hms hmn hmg hrd
  go_enter Tryz.func4, Tryz.ntmps4
  go_wp2_with fail
  refine HMK.out.mono ?_
  rintro e w1 ⟨x, hx, _, hxw, rfl, B1⟩
  have hsx : x.size ≤ maxLen := by unfold maxLen; omega
  obtain ⟨zs, hzs⟩ : ∃ zs, agrs (L x) (x.size + 1) = zs := ⟨_, rfl⟩
  have hzl : zs.length = x.size + 1 := by rw [← hzs, agrs_length]
  have hz64 : ∀ z ∈ zs, I64 z := by rw [← hzs]; exact agrs_64 (by omega)
  have hag := fun v => iAgreementsOf_yes x hsx hxw (by omega) v
  rw [hzs] at hag
  obtain ⟨N, hN⟩ : ∃ N, x.size + 1 = N := ⟨_, rfl⟩
  rw [hN] at hag hzl
  have hN15 : N ≤ 15 := by omega
  have hpn := pn_fnm zs hz64 (by omega)
  have hfs := fnm_size hz64 (by omega)
  have hfm := fun A c B v hb hr ht => iFnm_any zs A c B v hb hz64 hr (by omega) ht
  rw [hzl] at hfm
  obtain ⟨S, hS⟩ : ∃ S, fnmV zs = S := ⟨_, rfl⟩
  rw [hS] at hpn hfs hfm
  have hip := fun v a b c d => iPn_any S (by omega) v a b c d
  rw [hpn] at hip
  simp only [hzl] at hip
  have hsm := fun A A' c c' B B' v hx hy => lsame_same zs A A' c c' B B' N v hzl (by omega) hx hy
  have hfn := fun v ht => iFnm_any [] none 0 0 v (Nat.zero_le _) (fun z hz => by cases hz) Rds.nil (by decide) ht
  simp only [fnm_nil, List.length_nil] at hfn
  have HAG := Lib.hid hag; have HFM := Lib.hid hfm; have HIP := Lib.hid hip; have HSM := Lib.hid hsm; have HFN := Lib.hid hfn; have HXW := Lib.hid hxw
  clear hag hfm hip hsm hfn hpn hfs hS hz64 hzl hzs hN hxw HMK
  go_wp2_with fail
  refine (HAG.out w1).mono ?_
  rintro e w2 ⟨A2, c2, rfl, o2, b2⟩
  have B2 := B1.trans (b2.mono B1.size)
  have O2 := Lib.hid o2
  clear o2 b2 B1 HAG
  go_wp2_with fail
  refine (HFM.out A2 c2 w2.heap.size w2 (Nat.le_refl _) O2.out.reads (t0.out.below B2)).mono ?_
  rintro e w3 ⟨rfl, b3⟩
  have B3 := B2.trans (b3.mono B2.size)
  have O3 := Lib.hid (O2.out.below b3)
  clear b3 B2 O2 HFM
  go_wp2_with fail
  refine (HIP.out w3 (t0.out.below B3) (x0.out.below B3) (r0.out.below B3) (m0.out.below B3)).mono ?_
  rintro e w4 ⟨A4, c4, rfl, o4, b4⟩
  have B4 := B3.trans (b4.mono B3.size)
  have O4 := Lib.hid o4; have O5 := Lib.hid (O3.out.below b4)
  clear o4 b4 B3 O3 HIP
  go_upto_region 7 with fail
  go_cut [39] from 28 to 39 (fun cc wx => cc = .bool false ∧ Below w.heap.size w wx)
  case first => as_aux_lemma =>
    --SEG 1
    go_wp2_with fail
    refine (HSM.out _ _ _ _ _ _ w4 O4.out.reads O5.out.reads).mono ?_
    rintro e w5 ⟨rfl, d5⟩
    have B5 := B4.trans (d5.below.mono B4.size)
    go_wp2_with fail
    refine (HFN.out w5 (t0.out.below B5)).mono ?_
    rintro e w6 ⟨rfl, b6⟩
    have B6 := B5.trans (b6.mono B5.size)
    go_wp2_with fail
    go_meet
    case rel => exact ⟨rfl, B6⟩
    --END
  case rest =>
  obtain ⟨rfl, B6⟩ := hcut
  obtain ⟨w6, rfl⟩ : ∃ z : World, z = wc := ⟨_, rfl⟩
  clear B4 O4 O5 HSM HFN r0 x0 m0

  have hpl := fun v => iPal_yes x HXW.out v
  have hsq := fun v => iSqf_yes x HXW.out v
  have hov := fun v => iOvf_yes x HXW.out v
  have hbl := fun v => iBlc_yes x HXW.out v
  have hly := fun v => iLyn_yes x HXW.out v
  have hlp := fun v => iLpe_yes x HXW.out v
  have hlr := fun v => iLr_yes x HXW.out v
  have hwl := fun v ht => iWln_any x hsx v ht
  have hp4 : lpN x ≤ 14 := by have := lpN_le x; omega
  have hr4 : lrV x ≤ 14 := by have := lrV_le x; omega
  obtain ⟨P, hP⟩ : ∃ P, lpN x = P := ⟨_, rfl⟩
  obtain ⟨R, hR⟩ : ∃ R, lrV x = R := ⟨_, rfl⟩
  have hf1 := fun v ht => iFormatInt_any (x.size : Int) (by unfold I64; omega) v ht
  have hf2 := fun v ht => iFormatInt_any (P : Int) (by unfold I64; omega) v ht
  have hf3 := fun v ht => iFormatInt_any (R : Int) (by unfold I64; omega) v ht
  have hs1 := fW_21 (n := x.size) (by omega)
  have hs2 := fW_21 (n := P) (by omega)
  have hs3 := fW_21 (n := R) (by omega)
  have hv : wlV x = wF (palB x) (!powB x 0) (!powB x 1) (blcB x) (lynB x) (wl0 x) := by rw [wlV, if_pos HXW.out]
  rw [wl0, hP, hR] at hv
  rw [hP] at hlp
  rw [hR] at hlr
  change ∀ v ht, Calls Tryz.prog 35 #[.int .i64 (x.size : Int)] v fun e w' => e = .returned (.string (fW x.size)) ∧ _ at hf1
  change ∀ v ht, Calls Tryz.prog 35 #[.int .i64 (P : Int)] v fun e w' => e = .returned (.string (fW P)) ∧ _ at hf2
  change ∀ v ht, Calls Tryz.prog 35 #[.int .i64 (R : Int)] v fun e w' => e = .returned (.string (fW R)) ∧ _ at hf3
  obtain ⟨f1, hf1e⟩ : ∃ f, fW x.size = f := ⟨_, rfl⟩
  obtain ⟨f2, hf2e⟩ : ∃ f, fW P = f := ⟨_, rfl⟩
  obtain ⟨f3, hf3e⟩ : ∃ f, fW R = f := ⟨_, rfl⟩
  rw [hf1e] at hf1 hs1 hv
  rw [hf2e] at hf2 hs2 hv
  rw [hf3e] at hf3 hs3 hv
  obtain ⟨c1, hc1⟩ : ∃ b, palB x = b := ⟨_, rfl⟩
  obtain ⟨c2', hc2⟩ : ∃ b, (!powB x 0) = b := ⟨_, rfl⟩
  obtain ⟨c3, hc3⟩ : ∃ b, (!powB x 1) = b := ⟨_, rfl⟩
  obtain ⟨c4', hc4⟩ : ∃ b, blcB x = b := ⟨_, rfl⟩
  obtain ⟨c5, hc5⟩ : ∃ b, lynB x = b := ⟨_, rfl⟩
  rw [hc1] at hpl hv
  rw [hc2] at hsq hv
  rw [hc3] at hov hv
  rw [hc4] at hbl hv
  rw [hc5] at hly hv
  obtain ⟨V, hV⟩ : ∃ V, wlV x = V := ⟨_, rfl⟩
  rw [hV] at hv hwl
  obtain ⟨Y0, hY0⟩ : ∃ Y, { data := #[108, 101, 110, 103, 116, 104, 32] } ++ f1 ++ { data := #[32, 112, 101, 114, 105, 111, 100, 32] } ++ f2 ++ { data := #[32, 114, 117, 110, 32] } ++ f3 = Y := ⟨_, rfl⟩
  rw [hY0, wF] at hv
  have hz0 : Y0.size ≤ 100 := by
    rw [← hY0]
    simp only [ByteArray.size_append]
    have e1 : ({ data := #[108, 101, 110, 103, 116, 104, 32] } : ByteArray).size = 7 := rfl
    have e2 : ({ data := #[32, 112, 101, 114, 105, 111, 100, 32] } : ByteArray).size = 8 := rfl
    have e3 : ({ data := #[32, 114, 117, 110, 32] } : ByteArray).size = 5 := rfl
    omega
  obtain ⟨Y1, hY1⟩ : ∃ Y, wap c1 Y0 { data := #[112, 97, 108, 105, 110, 100, 114, 111, 109, 101] } = Y := ⟨_, rfl⟩
  rw [hY1] at hv
  have hz1 : Y1.size ≤ 120 := by
    rw [← hY1, wap]
    split
    · rw [ByteArray.size_append, ByteArray.size_append, show ({ data := #[32] } : ByteArray).size = 1 from rfl, show ({ data := #[112, 97, 108, 105, 110, 100, 114, 111, 109, 101] } : ByteArray).size = 10 from rfl]; omega
    · omega
  obtain ⟨Y2, hY2⟩ : ∃ Y, wap c2' Y1 { data := #[115, 113, 117, 97, 114, 101, 102, 114, 101, 101] } = Y := ⟨_, rfl⟩
  rw [hY2] at hv
  have hz2 : Y2.size ≤ 140 := by
    rw [← hY2, wap]
    split
    · rw [ByteArray.size_append, ByteArray.size_append, show ({ data := #[32] } : ByteArray).size = 1 from rfl, show ({ data := #[115, 113, 117, 97, 114, 101, 102, 114, 101, 101] } : ByteArray).size = 10 from rfl]; omega
    · omega
  obtain ⟨Y3, hY3⟩ : ∃ Y, wap c3 Y2 { data := #[111, 118, 101, 114, 108, 97, 112, 102, 114, 101, 101] } = Y := ⟨_, rfl⟩
  rw [hY3] at hv
  have hz3 : Y3.size ≤ 160 := by
    rw [← hY3, wap]
    split
    · rw [ByteArray.size_append, ByteArray.size_append, show ({ data := #[32] } : ByteArray).size = 1 from rfl, show ({ data := #[111, 118, 101, 114, 108, 97, 112, 102, 114, 101, 101] } : ByteArray).size = 11 from rfl]; omega
    · omega
  obtain ⟨Y4, hY4⟩ : ∃ Y, wap c4' Y3 { data := #[98, 97, 108, 97, 110, 99, 101, 100] } = Y := ⟨_, rfl⟩
  rw [hY4] at hv
  have hz4 : Y4.size ≤ 180 := by
    rw [← hY4, wap]
    split
    · rw [ByteArray.size_append, ByteArray.size_append, show ({ data := #[32] } : ByteArray).size = 1 from rfl, show ({ data := #[98, 97, 108, 97, 110, 99, 101, 100] } : ByteArray).size = 8 from rfl]; omega
    · omega
  obtain ⟨Y5, hY5⟩ : ∃ Y, wap c5 Y4 { data := #[108, 121, 110, 100, 111, 110] } = Y := ⟨_, rfl⟩
  rw [hY5] at hv
  have hz5 : Y5.size ≤ 200 := by
    rw [← hY5, wap]
    split
    · rw [ByteArray.size_append, ByteArray.size_append, show ({ data := #[32] } : ByteArray).size = 1 from rfl, show ({ data := #[108, 121, 110, 100, 111, 110] } : ByteArray).size = 6 from rfl]; omega
    · omega
  have n1 : ¬ 9223372036854775807 < 7 + f1.size := by omega
  have n2 : ¬ 9223372036854775807 < 7 + f1.size + 8 := by omega
  have n3 : ¬ 9223372036854775807 < 7 + f1.size + 8 + f2.size := by omega
  have n4 : ¬ 9223372036854775807 < 7 + f1.size + 8 + f2.size + 5 := by omega
  have n5 : ¬ 9223372036854775807 < 7 + f1.size + 8 + f2.size + 5 + f3.size := by omega
  have HPL := Lib.hid hpl; have HSQ := Lib.hid hsq; have HOV := Lib.hid hov; have HBL := Lib.hid hbl; have HLY := Lib.hid hly; have HLP := Lib.hid hlp; have HLR := Lib.hid hlr; have HWL := Lib.hid hwl; have HF1 := Lib.hid hf1; have HF2 := Lib.hid hf2; have HF3 := Lib.hid hf3; have HV := Lib.hid hv; have HY0 := Lib.hid hY0; have HY1 := Lib.hid hY1; have HY2 := Lib.hid hY2; have HY3 := Lib.hid hY3; have HY4 := Lib.hid hY4; have HY5 := Lib.hid hY5
  clear hpl hsq hov hbl hly hlp hlr hwl hf1 hf2 hf3 hv hY0 hY1 hY2 hY3 hY4 hY5 hV hP hR hf1e hf2e hf3e hc1 hc2 hc3 hc4 hc5 hp4 hr4
  go_upto_region 9 with fail
  go_cut [8] from 40 to 53 (fun s8 wx => s8 = .string Y0 ∧ Below w.heap.size w wx)
  case first => as_aux_lemma =>
    --SEG 2
    go_wp2_with fail
    refine (HF1.out w6 (t0.out.below B6)).mono ?_
    rintro e w7 ⟨rfl, b7⟩
    have B7 := B6.trans (b7.mono B6.size)
    go_wp2_with fail
    refine (HLP.out w7).mono ?_
    rintro e w8 ⟨rfl, d8⟩
    have B8 := B7.trans (d8.below.mono B7.size)
    go_wp2_with fail
    refine (HF2.out w8 (t0.out.below B8)).mono ?_
    rintro e w9 ⟨rfl, b9⟩
    have B9 := B8.trans (b9.mono B8.size)
    go_wp2_with fail
    refine (HLR.out w9).mono ?_
    rintro e w10 ⟨rfl, d10⟩
    have B10 := B9.trans (d10.below.mono B9.size)
    go_wp2_with fail
    refine (HF3.out w10 (t0.out.below B10)).mono ?_
    rintro e w11 ⟨rfl, b11⟩
    have B11 := B10.trans (b11.mono B10.size)
    go_wp2_with fail
    go_meet
    case rel => exact ⟨by rw [HY0.out], B11⟩
    --END
  case rest =>
  obtain ⟨rfl, B11⟩ := hcut
  obtain ⟨w11, rfl⟩ : ∃ z : World, z = wc := ⟨_, rfl⟩
  clear B6 n1 n2 n3 n4 n5 HF1 HF2 HF3 HLP HLR HY0 hs1 hs2 hs3
  go_wp2_with fail
  refine (HPL.out w11).mono ?_
  rintro e w12 ⟨rfl, q⟩
  have B12 := B11.trans (q.mono B11.size)
  clear q B11 HPL
  go_upto_if 55 with fail
  go_cut [8] from 54 to 57 (fun s8 wx => s8 = .string Y1 ∧ wx = w12)
  case first => as_aux_lemma =>
    --SEG 30
    have m1 : ¬ 9223372036854775807 < Y0.size + 11 := by omega
    cases c1
    · have HE := Lib.hid (show Y0 = Y1 from HY1.out)
      go_wp2_with fail
      go_meet
      case rel => exact ⟨by rw [HE.out], rfl⟩
    · have HE := Lib.hid (show Y0 ++ ({ data := #[32] } ++ { data := #[112, 97, 108, 105, 110, 100, 114, 111, 109, 101] }) = Y1 from HY1.out)
      go_wp2_with fail
      go_meet
      case rel => exact ⟨by rw [← HE.out]; rfl, rfl⟩
    --END
  case rest =>
  obtain ⟨rfl, rfl⟩ := hcut
  obtain ⟨w12, rfl⟩ : ∃ z : World, z = wc := ⟨_, rfl⟩
  clear hz0 HY1
  go_wp2_with fail
  refine (HSQ.out w12).mono ?_
  rintro e w13 ⟨rfl, q⟩
  have B13 := B12.trans (q.mono B12.size)
  clear q B12 HSQ
  go_upto_if 59 with fail
  go_cut [8] from 58 to 61 (fun s8 wx => s8 = .string Y2 ∧ wx = w13)
  case first => as_aux_lemma =>
    --SEG 31
    have m1 : ¬ 9223372036854775807 < Y1.size + 11 := by omega
    cases c2'
    · have HE := Lib.hid (show Y1 = Y2 from HY2.out)
      go_wp2_with fail
      go_meet
      case rel => exact ⟨by rw [HE.out], rfl⟩
    · have HE := Lib.hid (show Y1 ++ ({ data := #[32] } ++ { data := #[115, 113, 117, 97, 114, 101, 102, 114, 101, 101] }) = Y2 from HY2.out)
      go_wp2_with fail
      go_meet
      case rel => exact ⟨by rw [← HE.out]; rfl, rfl⟩
    --END
  case rest =>
  obtain ⟨rfl, rfl⟩ := hcut
  obtain ⟨w13, rfl⟩ : ∃ z : World, z = wc := ⟨_, rfl⟩
  clear hz1 HY2
  go_wp2_with fail
  refine (HOV.out w13).mono ?_
  rintro e w14 ⟨rfl, q⟩
  have B14 := B13.trans (q.mono B13.size)
  clear q B13 HOV
  go_upto_if 63 with fail
  go_cut [8] from 62 to 65 (fun s8 wx => s8 = .string Y3 ∧ wx = w14)
  case first => as_aux_lemma =>
    --SEG 32
    have m1 : ¬ 9223372036854775807 < Y2.size + 12 := by omega
    cases c3
    · have HE := Lib.hid (show Y2 = Y3 from HY3.out)
      go_wp2_with fail
      go_meet
      case rel => exact ⟨by rw [HE.out], rfl⟩
    · have HE := Lib.hid (show Y2 ++ ({ data := #[32] } ++ { data := #[111, 118, 101, 114, 108, 97, 112, 102, 114, 101, 101] }) = Y3 from HY3.out)
      go_wp2_with fail
      go_meet
      case rel => exact ⟨by rw [← HE.out]; rfl, rfl⟩
    --END
  case rest =>
  obtain ⟨rfl, rfl⟩ := hcut
  obtain ⟨w14, rfl⟩ : ∃ z : World, z = wc := ⟨_, rfl⟩
  clear hz2 HY3
  go_wp2_with fail
  refine (HBL.out w14).mono ?_
  rintro e w15 ⟨rfl, q⟩
  have B15 := B14.trans (q.mono B14.size)
  clear q B14 HBL
  go_upto_if 67 with fail
  go_cut [8] from 66 to 69 (fun s8 wx => s8 = .string Y4 ∧ wx = w15)
  case first => as_aux_lemma =>
    --SEG 33
    have m1 : ¬ 9223372036854775807 < Y3.size + 9 := by omega
    cases c4'
    · have HE := Lib.hid (show Y3 = Y4 from HY4.out)
      go_wp2_with fail
      go_meet
      case rel => exact ⟨by rw [HE.out], rfl⟩
    · have HE := Lib.hid (show Y3 ++ ({ data := #[32] } ++ { data := #[98, 97, 108, 97, 110, 99, 101, 100] }) = Y4 from HY4.out)
      go_wp2_with fail
      go_meet
      case rel => exact ⟨by rw [← HE.out]; rfl, rfl⟩
    --END
  case rest =>
  obtain ⟨rfl, rfl⟩ := hcut
  obtain ⟨w15, rfl⟩ : ∃ z : World, z = wc := ⟨_, rfl⟩
  clear hz3 HY4
  go_wp2_with fail
  refine (HLY.out w15).mono ?_
  rintro e w16 ⟨rfl, q⟩
  have B16 := B15.trans (q.below.mono B15.size)
  clear q B15 HLY
  go_upto_if 71 with fail
  go_cut [8] from 70 to 73 (fun s8 wx => s8 = .string Y5 ∧ wx = w16)
  case first => as_aux_lemma =>
    --SEG 34
    have m1 : ¬ 9223372036854775807 < Y4.size + 7 := by omega
    cases c5
    · have HE := Lib.hid (show Y4 = Y5 from HY5.out)
      go_wp2_with fail
      go_meet
      case rel => exact ⟨by rw [HE.out], rfl⟩
    · have HE := Lib.hid (show Y4 ++ ({ data := #[32] } ++ { data := #[108, 121, 110, 100, 111, 110] }) = Y5 from HY5.out)
      go_wp2_with fail
      go_meet
      case rel => exact ⟨by rw [← HE.out]; rfl, rfl⟩
    --END
  case rest =>
  obtain ⟨rfl, rfl⟩ := hcut
  obtain ⟨w16, rfl⟩ : ∃ z : World, z = wc := ⟨_, rfl⟩
  clear hz4 HY5
  have hpts := fun v => iPts_yes x HXW.out v
  have hptl := fun v => iPtl_any x hsx v
  have hfc := fun v ht => iFcl_yes x 2 HXW.out (by decide) (by decide) v ht
  have hc1 := fun v => iCpx_yes x 1 HXW.out (by decide) (by decide) v
  have hc2 := fun v => iCpx_yes x 2 HXW.out (by decide) (by decide) v
  have hpl4 : (prts x 0).length ≤ 1000 := by have := prt_len x (x.size + 1) 0; unfold prts; omega
  have hpz : ∀ y ∈ prts x 0, y.size ≤ 400 := fun y hy => by have := prt_size x (x.size + 1) 0 y hy; omega
  have hpv : ptlV x = orD (strOf (jnS 46 (prts x 0))) := by rw [ptlV, if_pos HXW.out]
  have hj0 : x.size = 0 → jnS 46 (prts x 0) = [] := fun h => prts_jn0 h
  have hj1 : 0 < x.size → 0 < (jnS 46 (prts x 0)).length := fun h => prts_jn h
  have hcb1 := cpx_le x 1 (by omega)
  have hcb2 := cpx_le x 2 (by omega)
  rw [cpL_2] at hfc
  obtain ⟨pp, hpp⟩ : ∃ pp, prts x 0 = pp := ⟨_, rfl⟩
  obtain ⟨PV, hPV⟩ : ∃ V, ptlV x = V := ⟨_, rfl⟩
  rw [hpp] at hpts hpl4 hpz hj0 hj1
  rw [hPV] at hpv hptl
  rw [hpp] at hpv
  obtain ⟨C1, hC1⟩ : ∃ C, cpx x 1 = C := ⟨_, rfl⟩
  obtain ⟨C2, hC2⟩ : ∃ C, cpx x 2 = C := ⟨_, rfl⟩
  rw [hC1] at hc1 hfc hcb1
  rw [hC2] at hc2 hfc hcb2
  have hfn2 := fun g v hr ht => iFnm_any [(C1 : Int), (C2 : Int)] (some ⟨g, 0, none⟩) 2 v.heap.size v (Nat.le_refl _) (fun z hz => by simp at hz; rcases hz with rfl | rfl <;> (unfold I64; omega)) hr (by show 2 ≤ _; decide) ht
  obtain ⟨G, hG⟩ : ∃ G, fnmV [(C1 : Int), (C2 : Int)] = G := ⟨_, rfl⟩
  rw [hG] at hfc hfn2
  obtain ⟨pn, hpn⟩ : ∃ k, pp.length = k := ⟨_, rfl⟩
  rw [hpn] at hpts
  have hjn := fun A c v ho => iJoin_any 46 pp A pn c v.heap.size v hpn hpl4 hpz ho
  have HJ0 := Lib.hid hj0; have HJ1 := Lib.hid hj1; have HPTS := Lib.hid hpts; have HPTL := Lib.hid hptl; have HPV := Lib.hid hpv; have HFC := Lib.hid hfc; have HC1 := Lib.hid hc1; have HC2 := Lib.hid hc2; have HFN2 := Lib.hid hfn2
  have hjn2 : ∀ A c B v, Own v B 9 (.slice A pn c) (pp.map Value.string) → Calls Tryz.prog 40 #[.slice A pn c, .string { data := #[46] }] v fun e w' => e = .returned (.string (strOf (jnS 46 pp))) ∧ Below v.heap.size v w' := fun A c B v ho => iJoin_any 46 pp A pn c B v hpn hpl4 hpz ho
  have HJN := Lib.hid hjn2
  clear hpts hptl hfc hc1 hc2 hpl4 hpz hpv hj0 hj1 hcb1 hcb2 hpp hPV hC1 hC2 hfn2 hG hpn hjn hjn2
  go_wp2_with fail
  refine (HPTS.out w16).mono ?_
  rintro e w17 ⟨A17, c17, rfl, o17, b17⟩
  have B17 := B16.trans (b17.mono B16.size)
  have O17 := Lib.hid o17
  clear o17 b17 B16
  go_wp2_with fail
  refine (HJN.out A17 c17 _ w17 O17.out).mono ?_
  rintro e w18 ⟨rfl, b18⟩
  have B18 := B17.trans (b18.mono B17.size)
  clear b18 B17 O17 HJN HPTS
  obtain ⟨J, hJ⟩ : ∃ J, strOf (jnS 46 pp) = J := ⟨_, rfl⟩
  have hJ0 : x.size = 0 → J.size = 0 := fun h => by rw [← hJ, HJ0.out h]; rfl
  have hJ1 : 0 < x.size → J.size ≠ 0 := fun h => by rw [← hJ, strOf_size]; have := HJ1.out h; omega
  have hPJ := HPV.out
  rw [hJ] at hPJ
  rw [hJ]
  have HJA := Lib.hid hJ0; have HJB := Lib.hid hJ1; have HPJ := Lib.hid hPJ
  clear hJ0 hJ1 hPJ hJ HPV HJ0 HJ1
  go_upto_if 78 with fail
  go_cut [9] from 77 to 78 (fun s9 wx => s9 = .string PV ∧ wx = w18)
  case first => as_aux_lemma =>
    --SEG 4
    have hPJ := HPJ.out
    have hemp : x.toList.isEmpty = decide (x.size = 0) := by
      rw [ByteArray.toList_eq, Bool.eq_iff_iff, List.isEmpty_iff, decide_eq_true_iff, ← L_len]
      exact List.length_eq_zero_iff.symm
    cases hne : x.toList.isEmpty
    · have hx0 : ¬ x.size = 0 := fun h => by rw [hemp, decide_eq_true h] at hne; cases hne
      rw [orD, if_neg (HJB.out (by omega))] at hPJ
      subst hPJ
      clear hemp hne
      go_wp2_with fail
      go_meet
      case rel => exact ⟨rfl, rfl⟩
    · have hx0 : x.size = 0 := by rw [hemp] at hne; exact of_decide_eq_true hne
      rw [orD, if_pos (HJA.out hx0)] at hPJ
      subst hPJ
      clear hemp hne
      go_wp2_with fail
      go_meet
      case rel => exact ⟨rfl, rfl⟩
    --END
  case rest =>
  obtain ⟨rfl, rfl⟩ := hcut
  obtain ⟨w18, rfl⟩ : ∃ z : World, z = wc := ⟨_, rfl⟩
  clear HJA HJB HPJ
  go_upto_region 23 with fail
  go_cut [99] from 79 to 99 (fun cc wx => cc = .bool false ∧ Below w.heap.size w wx)
  case first => as_aux_lemma =>
    --SEG 5
    have hv5 : V = Y5 := HV.out
    subst hv5
    have q1 : (V.toList == V.toList) = true := by simp
    have q2 : (PV.toList == PV.toList) = true := by simp
    have q3 : (G.toList == G.toList) = true := by simp
    go_wp2_with fail
    refine (HWL.out w18 (t0.out.below B18)).mono ?_
    rintro e w19 ⟨rfl, b19⟩
    have B19 := B18.trans (b19.mono B18.size)
    clear b19 B18
    go_wp2_with fail
    refine (HPTL.out w19).mono ?_
    rintro e w20 ⟨rfl, b20⟩
    have B20 := B19.trans (b20.mono B19.size)
    clear b20 B19
    go_wp2_with fail
    refine (HFC.out w20 (t0.out.below B20)).mono ?_
    rintro e w21 ⟨rfl, b21⟩
    have B21 := B20.trans (b21.mono B20.size)
    clear b21 B20
    go_wp2_with fail
    refine (HC1.out w21).mono ?_
    rintro e w22 ⟨rfl, b22⟩
    have B22 := B21.trans (b22.mono B21.size)
    clear b22 B21
    go_wp2_with fail
    refine (HC2.out w22).mono ?_
    rintro e w23 ⟨rfl, b23⟩
    have B23 := B22.trans (b23.mono B22.size)
    clear b23 B22
    have hal := heap_alloc_new w23 (.cells #[.int .i64 C1, .int .i64 C2] 3)
    have B24 := B23.trans (((Below.refl w23.heap.size w23).alloc (Nat.le_refl _) (.cells #[.int .i64 C1, .int .i64 C2] 3)).mono B23.size)
    have hrd2 : Rds (w23.alloc (.cells #[.int .i64 C1, .int .i64 C2] 3)) (w23.alloc (.cells #[.int .i64 C1, .int .i64 C2] 3)).heap.size (some ⟨w23.heap.size, 0, none⟩) ([(C1 : Int), (C2 : Int)].map (Value.int .i64)) := fun k u hu => by
      refine ⟨_, rfl, by simp, ?_⟩
      match k, hu with
      | 0, hu => simp at hu; subst hu; simp [Addr.add]
      | 1, hu => simp at hu; subst hu; simp [Addr.add]
      | k + 2, hu => simp at hu
    have HR2 := Lib.hid hrd2
    clear hal hrd2
    go_wp2_with fail
    refine (HFN2.out w23.heap.size _ HR2.out (t0.out.below B24)).mono ?_
    rintro e w25 ⟨rfl, b25⟩
    have B25 := B24.trans (b25.mono B24.size)
    clear b25 B24 HR2
    go_wp2_with fail
    go_meet
    case rel => exact ⟨rfl, B25⟩
    --END
  case rest =>
  obtain ⟨rfl, B25⟩ := hcut
  obtain ⟨w25, rfl⟩ : ∃ z : World, z = wc := ⟨_, rfl⟩
  clear B18 HWL HPTL HFC HC1 HC2 HFN2 HV hz5
  go_wp2_with fail
  refine (HMS.out w25 (HRD.out.below B25 (Nat.le_refl _)) B25.size).mono ?_
  rintro e w26 ⟨ys, A26, ny, c26, hyl, hsu, rfl, o26, b26⟩
  have B26 := B25.trans (b26.mono B25.size)
  have h4 : ny ≤ 4 := by have := (su_img hsu).1; omega
  have hy1 : 1 ≤ ny := by have h := hsu; rw [suOk, Bool.and_eq_true, decide_eq_true_eq] at h; omega
  obtain ⟨gy, rfl⟩ := own_block o26 hy1
  have hcy : ny ≤ c26 := by
    obtain ⟨_, _, hv, h2, _⟩ := o26.shape
    injection hv with e1 e2 e3
    rw [← e3, List.length_map, hyl] at h2; exact h2
  have hry := o26.reads
  have hal := heap_alloc_new w26 (.cells #[.slice (some ⟨gy, 0, none⟩) ny c26] 25)
  have bal := (Below.refl w26.heap.size w26).alloc (Nat.le_refl _) (.cells #[.slice (some ⟨gy, 0, none⟩) ny c26] 25)
  have zal : (w26.alloc (.cells #[.slice (some ⟨gy, 0, none⟩) ny c26] 25)).heap.size = w26.heap.size + 1 := by simp
  have B27 := B26.trans (bal.mono B26.size)
  have hry := hry.below bal (Nat.le_refl _)
  have k27 := cell_of_row _ _ 0 _ _ (0, 0) hal
  -- what follows is said from this world on
  have hgrow := fun v r hb => iGrow_yes ys (some ⟨gy, 0, none⟩) ny c26 w26.heap.size v hyl hsu r hb
  have hfs := fun v r hb => iFormatSubst_yes ys gy ny c26 w26.heap.size v hyl hcy hb hsu r
  have hmt := fun v r hb => iMatrixOf_yes ys (some ⟨gy, 0, none⟩) ny c26 w26.heap.size v hyl hsu r hb
  have hpr := fun v r hb => iPrim_yes ys (some ⟨gy, 0, none⟩) ny c26 w26.heap.size v hyl hsu r hb
  have hsl := fun v r hb ht => iSubstLine_any ys gy ny c26 w26.heap.size v hyl hcy hb (by omega) (fun s hs => by have := (su_img hsu).2 s hs; unfold maxLen; omega) r ht
  have hsq := mt_sq (su_img hsu).2
  rw [hyl] at hsq
  have hdb := suD_bd hsu
  have hd : suD ys = dtF ny (mtL ys) := by rw [suD, hyl]
  have hs1 := fsv_size hsu
  have hs2 := orD_size4 (Nat.le_trans (grA_size ys ys.length (by omega)) (show ys.length ≤ 4 by omega))
  change (orD (grV ys)).size ≤ 4 at hs2
  obtain ⟨D, hD⟩ : ∃ D, suD ys = D := ⟨_, rfl⟩
  have hs3 : (fmtI D).size ≤ 21 := by rw [fmtI, strOf_size]; exact itoa_len (by rw [← hD]; exact hdb)
  have hfd := fun v ht => iFormatInt_any D (by rw [← hD]; exact hdb) v ht
  change ∀ v ht, Calls Tryz.prog 35 #[.int .i64 D] v fun e w' => e = .returned (.string (fmtI D)) ∧ _ at hfd
  have hv : slV ys = if prV ys = true then slB ys ++ { data := #[32, 112, 114, 105, 109, 105, 116, 105, 118, 101] } else slB ys := by rw [slV, if_pos hsu]
  have hvb : slB ys = fsV ys ++ { data := #[32, 103, 114, 111, 119, 105, 110, 103, 32] } ++ orD (grV ys) ++ { data := #[32, 100, 101, 116, 101, 114, 109, 105, 110, 97, 110, 116, 32] } ++ fmtI D := by rw [slB, hD]; rfl
  obtain ⟨SV, hSV⟩ : ∃ V, slV ys = V := ⟨_, rfl⟩
  obtain ⟨SB, hSB⟩ : ∃ V, slB ys = V := ⟨_, rfl⟩
  obtain ⟨F, hF⟩ : ∃ F, fsV ys = F := ⟨_, rfl⟩
  obtain ⟨R9, hR9⟩ : ∃ R, grV ys = R := ⟨_, rfl⟩
  obtain ⟨I, hI⟩ : ∃ I, fmtI D = I := ⟨_, rfl⟩
  obtain ⟨p, hp⟩ : ∃ p, prV ys = p := ⟨_, rfl⟩
  rw [hSV, hSB, hp] at hv
  rw [hSB, hF, hR9, hI] at hvb
  rw [hSV] at hsl
  rw [hF] at hfs hs1
  rw [hR9] at hgrow hs2
  rw [hI] at hfd hs3
  rw [hp] at hpr
  rw [hD] at hd
  obtain ⟨O, hO⟩ : ∃ O, orD R9 = O := ⟨_, rfl⟩
  rw [hO] at hvb hs2
  have hsb : SB.size ≤ 120 := by
    rw [hvb]
    simp only [ByteArray.size_append]
    have e1 : ({ data := #[32, 103, 114, 111, 119, 105, 110, 103, 32] } : ByteArray).size = 9 := rfl
    have e2 : ({ data := #[32, 100, 101, 116, 101, 114, 109, 105, 110, 97, 110, 116, 32] } : ByteArray).size = 13 := rfl
    omega
  have n1 : ¬ 9223372036854775807 < F.size + 9 := by omega
  have n2 : ¬ 9223372036854775807 < F.size + 9 + O.size := by omega
  have n3 : ¬ 9223372036854775807 < F.size + 9 + O.size + 13 := by omega
  have n4 : ¬ 9223372036854775807 < F.size + 9 + O.size + 13 + I.size := by omega
  have n5 : ¬ 9223372036854775807 < SB.size + 10 := by omega
  have RDY : Hid (∀ v, Below (w26.alloc (.cells #[.slice (some ⟨gy, 0, none⟩) ny c26] 25)).heap.size (w26.alloc (.cells #[.slice (some ⟨gy, 0, none⟩) ny c26] 25)) v → w26.heap.size ≤ v.heap.size ∧ Rds v w26.heap.size (some ⟨gy, 0, none⟩) (ys.map Value.string)) := Lib.hid (fun v hv => ⟨by have := hv.size; omega, hry.below hv (by omega)⟩)
  have KC : Hid (∀ v, Below (w26.alloc (.cells #[.slice (some ⟨gy, 0, none⟩) ny c26] 25)).heap.size (w26.alloc (.cells #[.slice (some ⟨gy, 0, none⟩) ny c26] 25)) v → v.cell? ⟨w26.heap.size, 0, none⟩ = some (.slice (some ⟨gy, 0, none⟩) ny c26)) := Lib.hid (fun v hv => (hv.cell (p := ⟨w26.heap.size, 0, none⟩) (by show w26.heap.size < _; omega)).trans k27)
  have HGR := Lib.hid hgrow; have HFS := Lib.hid hfs; have HMT := Lib.hid hmt; have HPR := Lib.hid hpr; have HSL := Lib.hid hsl; have HSQM := Lib.hid hsq; have HD := Lib.hid hd; have HFD := Lib.hid hfd; have HVS := Lib.hid hv; have HVB := Lib.hid hvb; have HO := Lib.hid hO
  have zz : w26.heap.size + 1 = (w26.alloc (.cells #[.slice (some ⟨gy, 0, none⟩) ny c26] 25)).heap.size := zal.symm
  have TBW : Hid (∀ v, Below (w26.alloc (.cells #[.slice (some ⟨gy, 0, none⟩) ny c26] 25)).heap.size (w26.alloc (.cells #[.slice (some ⟨gy, 0, none⟩) ny c26] 25)) v → TB v ∧ Below w.heap.size w v) := Lib.hid (fun v hv => ⟨t0.out.below (B27.trans (hv.mono B27.size)), B27.trans (hv.mono B27.size)⟩)
  clear hal bal hry hgrow hfs hmt hpr hsl hsq hd hdb hfd hv hvb hSV hSB hF hR9 hI hp hD hO o26 b26 hyl hsu k27 zal HMS zz B25 B26 B27
  go_wp2_with fail
  have hsw : w26.heap.size < (w26.alloc (.cells #[.slice (some ⟨gy, 0, none⟩) ny c26] 25)).heap.size := by simp
  generalize (w26.alloc (.cells #[.slice (some ⟨gy, 0, none⟩) ny c26] 25)) = w27 at RDY KC TBW hsw ⊢
  have K0 : Below w27.heap.size w27 w27 := Below.refl _ _
  have k27 := KC.out _ K0
  go_wp2_with fail
  refine (HGR.out w27 (RDY.out _ K0).2 (RDY.out _ K0).1).mono ?_
  rintro e w28 ⟨rfl, b28⟩
  have K1 := K0.trans (b28.mono K0.size)
  clear b28 k27 HGR
  go_upto_if 105 with fail
  go_cut [11] from 104 to 105 (fun s11 wx => s11 = .string O ∧ wx = w28)
  case first => as_aux_lemma =>
    --SEG 6
    have hOr := HO.out
    have hemp : R9.toList.isEmpty = decide (R9.size = 0) := by
      rw [ByteArray.toList_eq, Bool.eq_iff_iff, List.isEmpty_iff, decide_eq_true_iff, ← L_len]
      exact List.length_eq_zero_iff.symm
    cases hne : R9.toList.isEmpty
    · have hx0 : ¬ R9.size = 0 := fun h => by rw [hemp, decide_eq_true h] at hne; cases hne
      rw [orD, if_neg hx0] at hOr
      subst hOr
      clear hemp hne
      go_wp2_with fail
      go_meet
      case rel => exact ⟨rfl, rfl⟩
    · have hx0 : R9.size = 0 := by rw [hemp] at hne; exact of_decide_eq_true hne
      rw [orD, if_pos hx0] at hOr
      subst hOr
      clear hemp hne
      go_wp2_with fail
      go_meet
      case rel => exact ⟨rfl, rfl⟩
    --END
  case rest =>
  obtain ⟨rfl, rfl⟩ := hcut
  obtain ⟨w28, rfl⟩ : ∃ z : World, z = wc := ⟨_, rfl⟩
  go_upto_region 29 with fail
  go_cut [8] from 106 to 116 (fun s8 wx => s8 = .string SB ∧ Below w27.heap.size w27 wx)
  case first => as_aux_lemma =>
    --SEG 7
    have L0 : Below w27.heap.size w27 w28.drew := K1.drew
    have k0 := KC.out _ L0
    go_region_held3 (fun w' => w'.cell? ⟨w26.heap.size, 0, none⟩ = some (.slice (some ⟨gy, 0, none⟩) ny c26)) (first | with_reducible exact KC.out _ L4 | with_reducible exact KC.out _ L3 | with_reducible exact KC.out _ L2 | with_reducible exact KC.out _ L1 | with_reducible exact KC.out _ L0)
      (first
        | (go_at_call 47; refine (HFS.out _ (RDY.out _ L0).2 (RDY.out _ L0).1).mono ?_; rintro e w3 ⟨rfl, b3⟩; have L1 := L0.trans (b3.mono L0.size))
        | (go_at_call 15; refine (HMT.out _ (RDY.out _ L1).2 (RDY.out _ L1).1).mono ?_; rintro e w6 ⟨gm, cm, vm, rfl, hbm, b6⟩; have L2 := L1.trans (b6.mono L1.size))
        | (go_at_call 14; refine (iDetOf_yes ny (mtL ys) hy1 h4 HSQM.out gm cm _ _ hbm.gr hbm.cap.1 (Nat.le_refl _)).mono ?_; rintro e w7 ⟨rfl, b7⟩; rw [← HD.out]; have L3 := L2.trans (b7.mono L2.size))
        | (go_at_call 35; refine (HFD.out _ (TBW.out _ L3).1).mono ?_; rintro e w8 ⟨rfl, b8⟩; have L4 := L3.trans (b8.mono L3.size)))
    all_goals
      clear b3 b6 b7 b8 hbm
      go_wp2_with fail
      go_meet
      case rel => exact ⟨by rw [HVB.out], L4⟩
    --END
  case rest =>
  obtain ⟨rfl, K2⟩ := hcut
  obtain ⟨w29, rfl⟩ : ∃ z : World, z = wc := ⟨_, rfl⟩
  have k29 := KC.out _ K2
  clear n1 n2 n3 n4 K1
  go_wp2_with fail
  refine (HPR.out w29 (RDY.out _ K2).2 (RDY.out _ K2).1).mono ?_
  rintro e w30 ⟨rfl, b30⟩
  have K3 := K2.trans (b30.mono K2.size)
  clear b30 k29
  go_upto_if 118 with fail
  go_cut [8] from 117 to 120 (fun s8 wx => s8 = .string SV ∧ wx = w30)
  case first => as_aux_lemma =>
    --SEG 8
    have hvv := HVS.out
    cases p
    · rw [if_neg (by decide)] at hvv
      have HE := Lib.hid hvv
      clear hvv
      go_wp2_with fail
      go_meet
      case rel => exact ⟨by rw [HE.out], rfl⟩
    · rw [if_pos rfl] at hvv
      have HE := Lib.hid hvv
      clear hvv
      go_wp2_with fail
      go_meet
      case rel => exact ⟨by rw [HE.out], rfl⟩
    --END
  case rest =>
  obtain ⟨rfl, rfl⟩ := hcut
  obtain ⟨w30, rfl⟩ : ∃ z : World, z = wc := ⟨_, rfl⟩
  clear n5 K2
  have zb : w.heap.size ≤ w27.heap.size := (TBW.out _ K0).2.size
  go_wp2_with fail
  refine (HMN.out w30 (HRD.out.below (TBW.out _ K3).2 (Nat.le_refl _)) (TBW.out _ K3).2.size).mono ?_
  rintro e w31 ⟨m, hm, rfl, b31⟩
  have K4 := K3.trans (b31.mono K3.size)
  clear b31 K3
  go_wp2_with fail
  refine (HMG.out w31 (HRD.out.below (TBW.out _ K4).2 (Nat.le_refl _)) (TBW.out _ K4).2.size).mono ?_
  rintro e w32 ⟨a, b, ha, hb, rfl, b32⟩
  have K5 := K4.trans (b32.mono K4.size)
  clear b32 K4
  have hal := heap_alloc_new w32 (.cells #[.int .i64 a, .int .i64 b] 41)
  have bal := (Below.refl w32.heap.size w32).alloc (Nat.le_refl _) (.cells #[.int .i64 a, .int .i64 b] 41)
  have zal : w32.heap.size < (w32.alloc (.cells #[.int .i64 a, .int .i64 b] 41)).heap.size := by simp
  have K6 := K5.trans (bal.mono K5.size)
  have hga : inG a := ⟨by omega, by omega⟩
  have hgb : inG b := ⟨by omega, by omega⟩
  have hgl := fun v ht => iGln_any a b v ht
  have hgv : glnV a b = glnS a b := by rw [glnV, if_pos ⟨hga, hgb⟩]
  rw [glnS] at hgv
  have hno := fun v => iNormOf_any a b hga hgb v
  have hfl := fun v => iFloorOf_any a b hga hgb v
  have hfa := fun v ht => iFormatInt_any a (inG_64 hga) v ht
  have hfb := fun v ht => iFormatInt_any b (inG_64 hgb) v ht
  have hfn := fun v ht => iFormatInt_any (nrm a b) (nrm_64 hga hgb) v ht
  have hff := fun v ht => iFormatInt_any (flr a b) (flr_64 hga hgb) v ht
  change ∀ v ht, Calls Tryz.prog 35 #[.int .i64 a] v fun e w' => e = .returned (.string (fmtI a)) ∧ _ at hfa
  change ∀ v ht, Calls Tryz.prog 35 #[.int .i64 b] v fun e w' => e = .returned (.string (fmtI b)) ∧ _ at hfb
  change ∀ v ht, Calls Tryz.prog 35 #[.int .i64 (nrm a b)] v fun e w' => e = .returned (.string (fmtI (nrm a b))) ∧ _ at hfn
  change ∀ v ht, Calls Tryz.prog 35 #[.int .i64 (flr a b)] v fun e w' => e = .returned (.string (fmtI (flr a b))) ∧ _ at hff
  have z1 := fmtI_21 (inG_64 hga)
  have z2 := fmtI_21 (inG_64 hgb)
  have z3 := fmtI_21 (nrm_64 hga hgb)
  have z4 := fmtI_21 (flr_64 hga hgb)
  obtain ⟨x1, h1e⟩ : ∃ x, fmtI a = x := ⟨_, rfl⟩
  obtain ⟨x2, h2e⟩ : ∃ x, fmtI b = x := ⟨_, rfl⟩
  obtain ⟨N9, hN9⟩ : ∃ x, nrm a b = x := ⟨_, rfl⟩
  obtain ⟨F9, hF9⟩ : ∃ x, flr a b = x := ⟨_, rfl⟩
  rw [hN9] at hgv hno hfn z3
  rw [hF9] at hgv hfl hff z4
  obtain ⟨x3, h3e⟩ : ∃ x, fmtI N9 = x := ⟨_, rfl⟩
  obtain ⟨x4, h4e⟩ : ∃ x, fmtI F9 = x := ⟨_, rfl⟩
  obtain ⟨GV, hGV⟩ : ∃ x, glnV a b = x := ⟨_, rfl⟩
  rw [h1e] at hgv hfa z1
  rw [h2e] at hgv hfb z2
  rw [h3e] at hgv hfn z3
  rw [h4e] at hgv hff z4
  rw [hGV] at hgv hgl
  have n1 : ¬ 9223372036854775807 < x1.size + 1 := by omega
  have n2 : ¬ 9223372036854775807 < x1.size + 1 + x2.size := by omega
  have n3 : ¬ 9223372036854775807 < x1.size + 1 + x2.size + 6 := by omega
  have n4 : ¬ 9223372036854775807 < x1.size + 1 + x2.size + 6 + x3.size := by omega
  have n5 : ¬ 9223372036854775807 < x1.size + 1 + x2.size + 6 + x3.size + 7 := by omega
  have n6 : ¬ 9223372036854775807 < x1.size + 1 + x2.size + 6 + x3.size + 7 + x4.size := by omega
  have KG : Hid (∀ v, Below (w32.alloc (.cells #[.int .i64 a, .int .i64 b] 41)).heap.size (w32.alloc (.cells #[.int .i64 a, .int .i64 b] 41)) v → v.cell? ⟨w26.heap.size, 0, none⟩ = some (.slice (some ⟨gy, 0, none⟩) ny c26) ∧ v.cell? ⟨w32.heap.size, 0, none⟩ = some (.int .i64 a) ∧ v.cell? ⟨w32.heap.size, 1, none⟩ = some (.int .i64 b)) := Lib.hid (fun v hv => ⟨KC.out _ (K6.trans (hv.mono K6.size)), (hv.cell (p := ⟨w32.heap.size, 0, none⟩) zal).trans (cell_of_row _ _ 0 _ _ (0, 0) hal), (hv.cell (p := ⟨w32.heap.size, 1, none⟩) zal).trans (cell_of_row _ _ 1 _ _ (0, 0) hal)⟩)
  have TBG : Hid (∀ v, Below (w32.alloc (.cells #[.int .i64 a, .int .i64 b] 41)).heap.size (w32.alloc (.cells #[.int .i64 a, .int .i64 b] 41)) v → Below w27.heap.size w27 v) := Lib.hid (fun v hv => K6.trans (hv.mono K6.size))
  have HGL := Lib.hid hgl; have HGVH := Lib.hid hgv; have HNO := Lib.hid hno; have HFL := Lib.hid hfl; have HFA := Lib.hid hfa; have HFB := Lib.hid hfb; have HFN9 := Lib.hid hfn; have HFF := Lib.hid hff
  clear hal bal hgl hgv hno hfl hfa hfb hfn hff h1e h2e h3e h4e hN9 hF9 hGV z1 z2 z3 z4 K5 K6 hga hgb
  go_wp2_with fail
  have hsg : (w32.alloc (.cells #[.int .i64 a, .int .i64 b] 41)).heap.size = w32.heap.size + 1 := by simp
  generalize (w32.alloc (.cells #[.int .i64 a, .int .i64 b] 41)) = w33 at KG TBG zal hsg ⊢
  have M0 : Below w33.heap.size w33 w33 := Below.refl _ _
  go_upto_region 34 with fail
  go_cut [151] from 125 to 151 (fun cc wx => cc = .bool false ∧ Below w33.heap.size w33 wx)
  case first => as_aux_lemma =>
    --SEG 9
    have q1 : (SV.toList == SV.toList) = true := by simp
    have q2 : (GV.toList == GV.toList) = true := by simp
    have q3 : (SV.toList != SV.toList) = false := by simp
    have hge : x1 ++ { data := #[32] } ++ x2 ++ { data := #[32, 110, 111, 114, 109, 32] } ++ x3 ++ { data := #[32, 102, 108, 111, 111, 114, 32] } ++ x4 = GV := HGVH.out.symm
    have L0 : Below w33.heap.size w33 w33.drew := M0.drew
    have k0 := KG.out _ L0
    go_region_held3 (fun w' => w'.cell? ⟨w26.heap.size, 0, none⟩ = some (.slice (some ⟨gy, 0, none⟩) ny c26) ∧ w'.cell? ⟨w32.heap.size, 0, none⟩ = some (.int .i64 a) ∧ w'.cell? ⟨w32.heap.size, 1, none⟩ = some (.int .i64 b)) (first | with_reducible exact KG.out _ L8 | with_reducible exact KG.out _ L7 | with_reducible exact KG.out _ L6 | with_reducible exact KG.out _ L5 | with_reducible exact KG.out _ L4 | with_reducible exact KG.out _ L3 | with_reducible exact KG.out _ L2 | with_reducible exact KG.out _ L1 | with_reducible exact KG.out _ L0)
      (first
        | (go_at_call 51; refine (HSL.out _ (RDY.out _ (TBG.out _ L0)).2 (RDY.out _ (TBG.out _ L0)).1 (TBW.out _ (TBG.out _ L0)).1).mono ?_; rintro e v1 ⟨rfl, d1⟩; have L1 := L0.trans (d1.mono L0.size))
        | (go_at_call 52; refine (HGL.out _ (TBW.out _ (TBG.out _ L1)).1).mono ?_; rintro e v2 ⟨rfl, d2⟩; have L2 := L1.trans (d2.mono L1.size))
        | (go_at_call 53; refine (HNO.out _).mono ?_; rintro e v5 ⟨rfl, d5⟩; have L5 := L4.trans (d5.mono L4.size))
        | (go_at_call 54; refine (HFL.out _).mono ?_; rintro e v7 ⟨rfl, d7⟩; have L7 := L6.trans (d7.mono L6.size))
        | (go_at_call 35; refine (HFF.out _ (TBW.out _ (TBG.out _ L7)).1).mono ?_; rintro e v8 ⟨rfl, d8⟩; have L8 := L7.trans (d8.mono L7.size))
        | (go_at_call 35; refine (HFN9.out _ (TBW.out _ (TBG.out _ L5)).1).mono ?_; rintro e v6 ⟨rfl, d6⟩; have L6 := L5.trans (d6.mono L5.size))
        | (go_at_call 35; refine (HFB.out _ (TBW.out _ (TBG.out _ L3)).1).mono ?_; rintro e v4 ⟨rfl, d4⟩; have L4 := L3.trans (d4.mono L3.size))
        | (go_at_call 35; refine (HFA.out _ (TBW.out _ (TBG.out _ L2)).1).mono ?_; rintro e v3 ⟨rfl, d3⟩; have L3 := L2.trans (d3.mono L2.size)))
    all_goals
      clear d1 d2 d3 d4 d5 d6 d7 d8
      go_wp2_with fail
      go_meet
      case rel => exact ⟨by first | rfl | simp [hge], L8⟩
    --END
  case rest =>
  obtain ⟨rfl, K7⟩ := hcut
  obtain ⟨w34, rfl⟩ : ∃ z : World, z = wc := ⟨_, rfl⟩
  have BZ := (TBW.out _ (TBG.out _ K7)).2
  clear K7 M0 KG TBG K0 KC RDY n1 n2 n3 n4 n5 n6 HGL HGVH HNO HFL HFA HFB HFN9 HFF HSL HPR HFS HMT HVS HVB HO HSQM HD HFD
  by_cases hm0 : m = 0
  · subst hm0
    go_wp2_with fail
    go_ret
    exact ⟨rfl, BZ⟩
  · --SEG 10
    have hm1 : (m : Int) ≠ 0 := by omega
    have hm2 : ((m : Int) == 0) = false := by simpa using hm0
    have hnl := fun v ht => iNml_any (m : Int) v ht
    have hnu := fun v => iNumeralOf_any m (by omega) v
    have hlo := fun v => iLowerOf_yes (m : Int) (by omega) (by omega) v
    have hcl := fun v => iClassOf_any m (by omega) v
    have hnv : nmlV (m : Int) = nmlS m := by rw [nmlV, if_pos ⟨by omega, by omega⟩]; rfl
    rw [nmlS, numS_pos (by omega)] at hnv
    have hlb := low_bd (m : Int) (by omega) (by omega)
    have hf1 := fun v ht => iFormatInt_any (low m) (by unfold I64; omega) v ht
    have hf2 := fun v ht => iFormatInt_any ((ds m % 2 : Nat) : Int) (by unfold I64; omega) v ht
    change ∀ v ht, Calls Tryz.prog 35 #[.int .i64 (low m)] v fun e w' => e = .returned (.string (fmtI (low m))) ∧ _ at hf1
    change ∀ v ht, Calls Tryz.prog 35 #[.int .i64 ((ds m % 2 : Nat) : Int)] v fun e w' => e = .returned (.string (fmtI ((ds m % 2 : Nat) : Int))) ∧ _ at hf2
    have z0 : (strOf (numL m)).size ≤ 60 := by rw [← numS_pos (by omega)]; exact numS_size m
    have z1 := fmtI_21 (show I64 (low m) by unfold I64; omega)
    have z2 := fmtI_21 (show I64 ((ds m % 2 : Nat) : Int) by unfold I64; omega)
    obtain ⟨x0', h0e⟩ : ∃ x, strOf (numL m) = x := ⟨_, rfl⟩
    obtain ⟨lw, hlw⟩ : ∃ x, low m = x := ⟨_, rfl⟩
    obtain ⟨dd, hdd⟩ : ∃ x, ds m % 2 = x := ⟨_, rfl⟩
    rw [hlw] at hnv hlo hf1 z1
    rw [hdd] at hnv hcl hf2 z2
    obtain ⟨x1, h1e⟩ : ∃ x, fmtI lw = x := ⟨_, rfl⟩
    obtain ⟨x2, h2e⟩ : ∃ x, fmtI (dd : Int) = x := ⟨_, rfl⟩
    obtain ⟨NV, hNV⟩ : ∃ x, nmlV (m : Int) = x := ⟨_, rfl⟩
    rw [h0e] at hnv hnu z0
    rw [h1e] at hnv hf1 z1
    rw [h2e] at hnv hf2 z2
    rw [hNV] at hnv hnl
    have n1 : ¬ 9223372036854775807 < 8 + x0'.size := by omega
    have n2 : ¬ 9223372036854775807 < 8 + x0'.size + 7 := by omega
    have n3 : ¬ 9223372036854775807 < 8 + x0'.size + 7 + x1.size := by omega
    have n4 : ¬ 9223372036854775807 < 8 + x0'.size + 7 + x1.size + 7 := by omega
    have n5 : ¬ 9223372036854775807 < 8 + x0'.size + 7 + x1.size + 7 + x2.size := by omega
    have hge : { data := #[110, 117, 109, 101, 114, 97, 108, 32] } ++ x0' ++ { data := #[32, 108, 111, 119, 101, 114, 32] } ++ x1 ++ { data := #[32, 99, 108, 97, 115, 115, 32] } ++ x2 = NV := hnv.symm
    have qn : (NV.toList == NV.toList) = true := by simp
    have HNL := Lib.hid hnl; have HNU := Lib.hid hnu; have HLO := Lib.hid hlo; have HCL := Lib.hid hcl; have HF1 := Lib.hid hf1; have HF2 := Lib.hid hf2
    clear hnl hnu hlo hcl hf1 hf2 hnv h0e h1e h2e hlw hdd hNV z0 z1 z2 hlb
    go_wp2_with fail
    refine (HNL.out w34 (t0.out.below BZ)).mono ?_
    rintro e u1 ⟨rfl, d1⟩
    have Z1 := BZ.trans (d1.mono BZ.size)
    clear d1 BZ
    go_wp2_with fail
    refine (HNU.out u1).mono ?_
    rintro e u2 ⟨rfl, d2⟩
    have Z2 := Z1.trans (d2.mono Z1.size)
    clear d2 Z1
    go_wp2_with fail
    refine (HLO.out u2).mono ?_
    rintro e u3 ⟨rfl, d3⟩
    have Z3 := Z2.trans (d3.mono Z2.size)
    clear d3 Z2
    go_wp2_with fail
    refine (HF1.out u3 (t0.out.below Z3)).mono ?_
    rintro e u4 ⟨rfl, d4⟩
    have Z4 := Z3.trans (d4.mono Z3.size)
    clear d4 Z3
    go_wp2_with fail
    refine (HCL.out u4).mono ?_
    rintro e u5 ⟨rfl, rfl⟩
    go_wp2_with fail
    refine (HF2.out _ (t0.out.below Z4)).mono ?_
    rintro e u6 ⟨rfl, d6⟩
    have Z6 := Z4.trans (d6.mono Z4.size)
    clear d6 Z4
    have hr1 := fun g v hr => iRln_any [{ data := #[97, 98] }, { data := #[98, 97] }] (some ⟨g, 0, none⟩) 2 (World.heap v).size v (Nat.le_refl _) (by decide) (fun s hs => by simp at hs; rcases hs with rfl | rfl <;> (unfold maxLen; decide)) hr
    rw [rln_abba] at hr1
    have hr2 := fun g v hr => iRln_any [{ data := #[97] }] (some ⟨g, 0, none⟩) 1 (World.heap v).size v (Nat.le_refl _) (by decide) (fun s hs => by simp at hs; subst hs; unfold maxLen; decide) hr
    rw [rln_a] at hr2
    have hr3 := fun v => iReturnLine_any { data := #[97, 98, 97, 97, 98] } { data := #[97] } (by unfold maxLen; decide) (by unfold maxLen; decide) v
    rw [rls_ab] at hr3
    have hl1 := heap_alloc_new u6 (.cells #[.string { data := #[97, 98] }, .string { data := #[98, 97] }] 9)
    have Z7 := Z6.trans (((Below.refl u6.heap.size u6).alloc (Nat.le_refl _) (.cells #[.string { data := #[97, 98] }, .string { data := #[98, 97] }] 9)).mono Z6.size)
    have hrd1 : Rds (u6.alloc (.cells #[.string { data := #[97, 98] }, .string { data := #[98, 97] }] 9)) (u6.alloc (.cells #[.string { data := #[97, 98] }, .string { data := #[98, 97] }] 9)).heap.size (some ⟨u6.heap.size, 0, none⟩) ([{ data := #[97, 98] }, { data := #[98, 97] }].map Value.string) := fun k u hu => by
      refine ⟨_, rfl, by simp, ?_⟩
      match k, hu with
      | 0, hu => simp at hu; subst hu; simp [Addr.add]
      | 1, hu => simp at hu; subst hu; simp [Addr.add]
      | k + 2, hu => simp at hu
    have hrd2 : ∀ u : World, Rds (u.alloc (.cells #[.string { data := #[97] }] 9)) (u.alloc (.cells #[.string { data := #[97] }] 9)).heap.size (some ⟨u.heap.size, 0, none⟩) ([{ data := #[97] }].map Value.string) := fun u0 k u hu => by
      refine ⟨_, rfl, by simp, ?_⟩
      match k, hu with
      | 0, hu => simp at hu; subst hu; simp [Addr.add]
      | k + 1, hu => simp at hu
    have HR1 := Lib.hid hr1; have HR2 := Lib.hid hr2; have HR3 := Lib.hid hr3; have HD1 := Lib.hid hrd1; have HD2 := Lib.hid hrd2
    clear hr1 hr2 hr3 hl1 hrd1 hrd2
    go_wp2_with fail
    refine (HR1.out _ _ HD1.out).mono ?_
    rintro e u7 ⟨rfl, d7⟩
    have Z8 := Z7.trans (d7.mono Z7.size)
    clear d7 Z7 Z6 HD1 HR1
    go_wp2_with fail
    have Z9 := Z8.trans (((Below.refl u7.heap.size u7).alloc (Nat.le_refl _) (.cells #[.string { data := #[97] }] 9)).mono Z8.size)
    refine (HR2.out _ _ (HD2.out u7)).mono ?_
    rintro e u8 ⟨rfl, d8⟩
    have Z10 := Z9.trans (d8.mono Z9.size)
    clear d8 Z9 Z8 HR2
    go_wp2_with fail
    refine (HR3.out _).mono ?_
    rintro e u9 ⟨rfl, d9⟩
    have Z11 := Z10.trans (d9.mono Z10.size)
    clear d9 Z10 HR3
    go_wp2_with fail
    go_ret
    exact ⟨by first | rfl | simp, Z11⟩
    --END


set_option maxRecDepth 100000 in
theorem lifted (os : Os) (started : os.Started) (H : Type) (enc : TypeId × Value → H) :
    ReturnsInHanded {} Tryz.checked os 4 .any (fun w args => (Rows.fnReportsSpec.pre enc Tryz.prog Tryz.f4 [] false w args ∧ laidMetH Tryz.prog Rows.fnReportsRow.laid w) ∧ sizedMet enc Tryz.prog Tryz.f4 (OpenSpec.ofChange Rows.fnReportsSpec) false w args) (Rows.fnReportsSpec.post enc Tryz.prog Tryz.f4 false true false false) := by
  refine handed_and_shaped (C := Tryz.checked) (X := fun w _ => laidMetH Tryz.prog Rows.fnReportsRow.laid w) (fun _ _ _ hh h => h.of_heap hh) own started (by kernel_rfl) Tryz.func4
    (ChangeSpec.witness_shaped (enc := enc) (C := Tryz.checked) (os := os) (X := fun w _ => laidMetH Tryz.prog Rows.fnReportsRow.laid w) false (World.laidAll Tryz.prog os Rows.fnReportsRow.laid) #[.slice none 0 0] 8 (World.laidAll_os _ _ _)
      (World.shaped_of_ZipB (by kernel_rfl) (by kernel_rfl)) (by kernel_rfl) (by kernel_rfl) (by kernel_rfl)
      (by rw [MakeChecks.laidMetH_plain _ _ _ (by kernel_rfl)]; exact laidMet_laidAll _ (by kernel_rfl) (by kernel_rfl))) ?_
  intro W base args ds gs before hval0 hW hL hsh
  rw [MakeChecks.laidMetH_plain _ _ _ (by kernel_rfl)] at hL
  have hval : ∀ (j : Nat) t v, Tryz.f4.params[j]? = some t → args[j]? = some v → Value.okWide Tryz.prog W .any base t v := hval0
  have hW' := hW
  obtain ⟨p, q, hA0, hV, rfl, hfz, hnd⟩ := hW
  have hA : DataW.TrodAll enc Tryz.prog W 0 (fun _ => true) true Tryz.f4.params.toList args.toList ds p := hA0
  rw [Tryz.params4] at hA hval
  obtain ⟨v0, vs0, d0, ds0, p0, q0, hargs, rfl, rfl, h0, r0⟩ := trodAll_cons hA
  obtain ⟨rfl, rfl, rfl⟩ := trodAll_nil r0
  obtain rfl : args = #[v0] := by cases args; simp_all
  obtain ⟨rfl, rfl⟩ := trodVars_none hV
  obtain ⟨s0, len0, cap0, rfl⟩ := okWide_slice Tryz.underlying22 (hval 0 22 v0 rfl rfl)
  have k0 := h0
  have lt0 : ∀ x ∈ p0, x.block < W.heap.size := by obtain ⟨m, hm⟩ := k0; exact DataW.trod_lt m _ _ _ hm
  obtain ⟨z0, w0⟩ : ∃ zs, BytesIn W s0 len0 cap0 zs := bytes_in Tryz.underlying22 Tryz.underlying5 (by kernel_rfl) h0 lt0
  clear hA0 hval0
  refine (walk s0 len0 cap0 z0 W w0 hsh hL).mono fun e W' ⟨he, bel⟩ => ?_
  subst he
  exact ⟨_, rfl, _, _, _, [], _, [], hW', trodAll_mk1 (shut_bool Tryz.underlying4 _), (trodAll_cons_mk (Below.trod laidOut (by kernel_rfl) (of_decide_eq_true (by kernel_rfl)) k0 bel lt0) trodAll_mk0), rfl, bel.frame _, fun h => by cases h⟩

theorem over : Rows.fnReportsRow.holds Tryz.pinned (OpenSpec.ofChange Rows.fnReportsSpec) :=
  OpenClaim.holds_of_wide 4 Tryz.f4 rfl rfl rfl rfl rfl rfl rfl ⟨rfl, rfl, rfl, rfl, rfl⟩ rfl rfl rfl rfl rfl (by kernel_rfl) Tryz.func4 (by kernel_rfl)
    (of_decide_eq_true (by kernel_rfl)) (by unfold Func.isWrapper; first | (rw [if_pos (by decide +kernel)]; kernel_rfl) | (rw [if_neg (by decide +kernel)]; exact ⟨rfl, rfl⟩))
    (fun os started H enc _ => lifted os started H enc)

theorem proved : Rows.FnReportsCardSaid :=
  Claim7.holds_tied_plain_at .later [] _ true _ _ over (fun _ h => by cases h) (by kernel_rfl) (fun _ h => by cases h) fnReports_row_tie rfl ⟨rfl, rfl⟩ (by kernel_rfl) rfl
    (fun f fn hf hfn => by
      obtain rfl : f = 4 := Option.some.inj ((show Tryz.prog.funcNamed "loop.example/g03209/laws.FnReports" = some 4 by kernel_rfl).symm.trans hf) |>.symm
      obtain rfl : fn = Tryz.f4 := (Option.some.inj (Tryz.func4.symm.trans hfn)).symm
      exact ⟨by kernel_rfl, fun j t ht => by
        rw [Tryz.params4] at ht
        have hm : t ∈ [22] := by simpa using Array.mem_of_getElem? ht
        have hall : ([22].all fun u => !Tryz.prog.wantsStandIn u) = true := by kernel_rfl
        exact (show Tryz.prog.wantsStandIn t = false by simpa using List.all_eq_true.1 hall t hm)⟩)
    (by kernel_rfl)
#print axioms proved
end Go.Proofs.YtbegecoocgkbiaaGreatDoor.fnReports
