/- IsPrimitiveSubst, both, at valid substitutions. No condition but the bounds. -/
import Derived.Test.YtbegecoocgkbiaaGreatDoorPrm
import Derived.Test.YtbegecoocgkbiaaGreatDoorFxp
namespace Go.Proofs.YtbegecoocgkbiaaGreatDoor
open Go.RowKit
set_option linter.unusedVariables false

set_option maxRecDepth 8000 in
set_option maxHeartbeats 2000000 in
theorem iPrim_yes (zs : List ByteArray) (A : Option Addr) (nz cz B : Nat) (w : World) (hl : zs.length = nz) (hsu : suOk zs = true) (hrd : Rds w B A (zs.map Value.string)) (hB : B ≤ w.heap.size) :
    Calls Tryz.prog 48 #[.agg #[.slice A nz cz]] w fun e w' => e = .returned (.bool (prV zs)) ∧ Below w.heap.size w w' := by
  have bA : Below w.heap.size w (w.alloc (.cells #[.slice A nz cz] 25)) := (Below.refl _ _).alloc (Nat.le_refl _) _
  have zA : (w.alloc (.cells #[.slice A nz cz] 25)).heap.size = w.heap.size + 1 := by simp
  have h0 := cell_of_row _ _ 0 _ _ (0, 0) (heap_alloc_new w (.cells #[.slice A nz cz] 25))
  have h4 := (su_g hsu).1
  have h8 : ∀ x ∈ zs, x.size ≤ 8 := fun x hx => ((su_g hsu).2 x hx).2.1
  have hc1 := iSubstOk_any zs A cz B _ (by omega) (by omega) (fun x hx => by have := h8 x hx; unfold maxLen; omega) (hrd.below bA hB)
  rw [hl, hsu] at hc1
  have hc2 := fun v hr hv => iMatrix_any zs A nz cz B v hl (by omega) h8 hr hv
  have hms := mt_sq h8
  obtain ⟨V, hV⟩ : ∃ V, prV zs = V := ⟨_, rfl⟩
  rw [hV]
  rw [prV, hl] at hV
  rw [hl] at hms
  have HC1 := Lib.hid hc1; have HC2 := Lib.hid hc2; have HRD := Lib.hid hrd; have H0 := Lib.hid h0; have HV := Lib.hid hV; have HMS := Lib.hid hms
  rw [hl] at h4
  clear hc1 hc2 hrd h0 h8 hsu hl hV hms
  go_enter Tryz.func48, Tryz.ntmps48
  go_wp2_with fail
  refine HC1.out.mono ?_
  rintro e w1 ⟨rfl, b1⟩
  have bw1 : Below w.heap.size w w1 := bA.trans (b1.mono (by omega))
  have z1 := b1.size
  rw [zA] at z1
  have k1 : w1.cell? ⟨w.heap.size, 0, none⟩ = some (.slice A nz cz) := (b1.cell (p := ⟨w.heap.size, 0, none⟩) (by show w.heap.size < (w.alloc _).heap.size; omega)).trans H0.out
  go_wp2_with fail
  refine (HC2.out w1 (HRD.out.below bw1 hB) (by omega)).mono ?_
  rintro e w2 ⟨gm, cm, vm, rfl, hbm, b2⟩
  have bw2 : Below w.heap.size w w2 := bw1.trans (b2.mono (by omega))
  have hgm := hbm.gr
  have hcm := hbm.cap.1
  have hgml := hbm.lt.2
  have hw2 : w.heap.size ≤ w2.heap.size := by have := b2.size; omega
  have HGM := Lib.hid hgm
  clear hbm b1 b2 k1 HC1 HC2 H0 HRD hgm bA zA
  go_wp2_with fail
  go_loopw [4, 5, 7, 9, 10, 12, 13, 14, 15, 16, 23] (fun pw _ _ _ _ _ _ _ _ _ i wr => ∃ (t gp cp : Nat) (p : List (List Int)), t ≤ 16 ∧ i = .int .i64 t ∧ pw = .slice (some ⟨gp, 0, none⟩) nz cp ∧ nz ≤ cp ∧ Gr wr wr.heap.size gp p ∧ sqM nz p ∧ prG (mtL zs) nz (16 - t) p = V ∧ Below w2.heap.size w2 wr) (fun _ _ _ _ _ _ _ _ _ _ i _ => 16 - (intOf i).toNat)
  case atStart => exact ⟨0, gm, cm, mtL zs, by omega, rfl, rfl, hcm, HGM.out, HMS.out, HV.out, Below.refl _ _⟩
  case round =>
    clear HV
    obtain ⟨t, gp, cp, p, ht, rfl, rfl, hcp, hgp, hsq, hpg, hbel⟩ := hrel
    by_cases hlt : t < 16
    · obtain ⟨f, hf⟩ : ∃ f, 16 - t = f + 1 := ⟨15 - t, by omega⟩
      rw [hf] at hpg
      have hf1 : 16 - (t + 1) ≤ f := by omega
      have hf2 : f ≤ 16 - (t + 1) := by omega
      have hlt2 : (t : Int) < 16 := by omega
      have HGP := Lib.hid hgp; have HSQ := Lib.hid hsq; have HPG := Lib.hid hpg
      clear hgp hsq hpg hf
      go_wp2_with fail
      obtain ⟨wo, rfl⟩ : ∃ z : World, z = wr := ⟨_, rfl⟩
      go_loopw [5, 7, 9, 27] (fun fu _ _ i wv => ∃ k : Nat, k ≤ nz ∧ i = .int .i64 k ∧ fu = .bool (fullB (p.take k)) ∧ wv = wo) (fun _ _ _ i _ => nz - (intOf i).toNat)
      case atStart => exact ⟨0, by omega, rfl, rfl, rfl⟩
      case round =>
        obtain ⟨k, hk, rfl, rfl, rfl⟩ := hrel
        by_cases hkl : k < nz
        · obtain ⟨r, hr⟩ := some_of_lt (l := p) (k := k) (by rw [HSQ.out.1]; exact hkl)
          obtain ⟨q, cq, hcell, _, _, _, hq⟩ := HGP.out.row hr
          have hrl := (HSQ.out.2 r (List.mem_of_getElem? hr)).1
          rw [hrl] at hcell
          have hkl2 : (k : Int) < (nz : Int) := by omega
          have hfn := full_next hr
          obtain ⟨b0, hb0⟩ : ∃ b0, fullB (p.take k) = b0 := ⟨_, rfl⟩
          rw [hb0] at hfn ⊢
          have HQ := Lib.hid hq; have HRL := Lib.hid hrl; have HFN := Lib.hid hfn
          clear hq hrl hr hfn hb0
          go_wp2_with fail
          obtain ⟨wo2, rfl⟩ : ∃ z : World, z = wr := ⟨_, rfl⟩
          go_loopw [5, 9, 33] (fun fu _ i wv => ∃ j : Nat, j ≤ nz ∧ i = .int .i64 j ∧ fu = .bool (b0 && (r.take j).all posB) ∧ wv = wo2) (fun _ _ i _ => nz - (intOf i).toNat)
          case atStart => exact ⟨0, by omega, rfl, by simp, rfl⟩
          case round =>
            obtain ⟨j, hj, rfl, rfl, rfl⟩ := hrel
            by_cases hjl : j < nz
            · obtain ⟨x, hx⟩ := some_of_lt (l := r) (k := j) (by rw [HRL.out]; exact hjl)
              have hcx := HQ.out j x hx
              have hjl2 : (j : Int) < (nz : Int) := by omega
              have han := all_next hx
              obtain ⟨b1, hb1⟩ : ∃ b1, (r.take j).all posB = b1 := ⟨_, rfl⟩
              rw [hb1] at han ⊢
              obtain ⟨b2, hb2⟩ : ∃ b2, (b0 && b1) = b2 := ⟨_, rfl⟩
              have hnx : (b0 && (r.take (j + 1)).all posB) = (b2 && posB x) := by rw [han, ← Bool.and_assoc, hb2]
              rw [hb2]
              have HNX := Lib.hid hnx
              clear hx han hb1 hb2 hnx
              cases b2 with
              | false =>
                go_wp2_with fail
                go_roundw
                case rel => exact ⟨j + 1, by omega, by go_num, by rw [HNX.out]; rfl, by first | trivial | rfl⟩
                case measure => simp [intOf]; omega
              | true =>
                go_wp2_with fail
                go_roundw
                case rel => exact ⟨j + 1, by omega, by go_num, by rw [HNX.out, Bool.true_and]; rfl, by first | trivial | rfl⟩
                case measure => simp [intOf]; omega
            · have hje : r.take j = r := List.take_of_length_le (by rw [HRL.out]; omega)
              rw [hje]
              go_wp2_with fail
              go_roundw
              case rel => exact ⟨k + 1, by omega, by go_num, by rw [HFN.out], by first | trivial | rfl⟩
              case measure => simp [intOf]; omega
        · have hke : p.take k = p := List.take_of_length_le (by rw [HSQ.out.1]; omega)
          rw [hke]
          obtain ⟨b, hb⟩ : ∃ b, fullB p = b := ⟨_, rfl⟩
          rw [hb]
          cases b with
          | true =>
            have hV : V = true := by rw [← HPG.out, prG_yes hb]
            subst hV
            clear hb
            go_wp2_with fail
            go_ret
            exact ⟨rfl, bw2.trans (hbel.mono hw2)⟩
          | false =>
            have hnx := prG_no (m := mtL zs) (n := nz) (f := f) hb
            rw [hnx] at HPG
            clear hb hnx
            have hgl := HGP.out.1
            have hz2 := hbel.size
            go_wp2_with fail
            obtain ⟨wo, rfl⟩ : ∃ z : World, z = wr := ⟨_, rfl⟩
            go_loopw [10, 12, 13, 14, 15, 16, 48] (fun nx _ _ _ _ _ i wv => ∃ (k gn cn : Nat) (vs : List Value), k ≤ nz ∧ i = .int .i64 k ∧ nx = .slice (some ⟨gn, 0, none⟩) k cn ∧ Bld wv wo.heap.size 34 gn k cn vs ((sgM (mtL zs) nz p).take k) ∧ Below wo.heap.size wo wv) (fun _ _ _ _ _ _ i _ => nz - (intOf i).toNat)
            case atStart => exact ⟨0, _, 0, [], by omega, rfl, rfl, Bld.empty wo (Nat.le_refl _), (Below.refl _ _).alloc (Nat.le_refl _) _⟩
            case round =>
              obtain ⟨k, gn, cn, vs, hk, rfl, rfl, hbd, hbe⟩ := hrel
              by_cases hkl : k < nz
              · obtain ⟨r, hr⟩ := some_of_lt (l := p) (k := k) (by rw [HSQ.out.1]; exact hkl)
                have hgw := HGP.out.below hbe (Nat.le_refl _)
                obtain ⟨q, cq, hcell, _, _, hqB, hq⟩ := hgw.row hr
                have hrl := (HSQ.out.2 r (List.mem_of_getElem? hr)).1
                rw [hrl] at hcell
                have hsn := sg_next (m := mtL zs) (n := nz) hr
                have hkl2 : (k : Int) < (nz : Int) := by omega
                have hz3 := hbe.size
                have hmk := run_make_row' (P := Tryz.prog) 34 3 _ 8 Tryz.underlying34 info_int rfl .i64 .i64 nz (by omega) (by omega)
                have hmd := Own.made (w := wr) (B := wr.heap.size) (E := 3) (z := .int .i64 0) (n := nz) (Nat.le_refl _) (by unfold maxLen; omega)
                have bM : Below wr.heap.size wr (wr.alloc (.cells (madeCells #[Value.int .i64 0] nz) 3)) := (Below.refl _ _).alloc (Nat.le_refl _) _
                have hmd2 : Own (wr.alloc (.cells (madeCells #[Value.int .i64 0] nz) 3)) wr.heap.size 3 (.slice (some ⟨wr.heap.size, 0, none⟩) nz nz) (ints (sgL (mtL zs) r nz 0 0)) := by
                  rw [sgL_zero, ints, List.map_replicate]; exact hmd
                have HQ := Lib.hid hq; have HRL := Lib.hid hrl; have HSN := Lib.hid hsn; have HMD := Lib.hid hmd2; have HBD := Lib.hid hbd
                clear hq hrl hr hsn hmd hmd2 hgw hbd
                go_wp2_with fail
                clear hmk
                obtain ⟨w5, rfl⟩ : ∃ z : World, z = wr := ⟨_, rfl⟩
                go_loopw [14, 15, 16, 57] (fun _ _ _ i wu => ∃ ii : Nat, ii ≤ nz ∧ i = .int .i64 ii ∧ Own wu w5.heap.size 3 (.slice (some ⟨w5.heap.size, 0, none⟩) nz nz) (ints (sgL (mtL zs) r nz ii 0)) ∧ Below w5.heap.size w5 wu) (fun _ _ _ i _ => nz - (intOf i).toNat)
                case atStart => exact ⟨0, by omega, rfl, HMD.out, bM⟩
                case round =>
                  clear HMD bM
                  obtain ⟨ii, hii, rfl, how, hb5⟩ := hrel
                  by_cases hil : ii < nz
                  · obtain ⟨x, hx⟩ := some_of_lt (l := r) (k := ii) (by rw [HRL.out]; exact hil)
                    have hcx := (hb5.cell (p := ⟨q, ii, none⟩) (by show q < w5.heap.size; omega)).trans (HQ.out ii x hx)
                    have hil2 : (ii : Int) < (nz : Int) := by omega
                    have HO := Lib.hid how; have HX := Lib.hid hx
                    clear how hx
                    go_wp2_with fail
                    obtain ⟨w6, rfl⟩ : ∃ z : World, z = wr := ⟨_, rfl⟩
                    go_loopw [16, 64] (fun _ i wz => ∃ kk : Nat, kk ≤ nz ∧ i = .int .i64 kk ∧ Own wz w5.heap.size 3 (.slice (some ⟨w5.heap.size, 0, none⟩) nz nz) (ints (sgL (mtL zs) r nz ii kk)) ∧ Below w5.heap.size w5 wz) (fun _ i _ => nz - (intOf i).toNat)
                    case atStart => exact ⟨0, by omega, rfl, HO.out, hb5⟩
                    case round =>
                      clear HO hb5 hcx
                      obtain ⟨kk, hkk, rfl, how, hb6⟩ := hrel
                      by_cases hkkl : kk < nz
                      · obtain ⟨y, hy⟩ := some_of_lt (l := mtL zs) (k := ii) (by rw [HMS.out.1]; exact hil)
                        have hyl := (HMS.out.2 y (List.mem_of_getElem? hy)).1
                        obtain ⟨z, hz⟩ := some_of_lt (l := y) (k := kk) (by rw [hyl]; exact hkkl)
                        have hgmw := (HGM.out.below hbel (Nat.le_refl _)).below (hbe.trans (hb6.mono hz3)) hz2
                        obtain ⟨qm, cqm, hcm1, _, _, _, hqm⟩ := hgmw.row hy
                        have hcz := hqm kk z hz
                        rw [hyl] at hcm1
                        have hsT := sgT_at HX.out hy hz
                        have hkkl2 : (kk : Int) < (nz : Int) := by omega
                        have hlen : (ints (sgL (mtL zs) r nz ii kk)).length = nz := by rw [ints_len, sgL_len]
                        obtain ⟨g0, hg0, hBg, hgs, hcell0, hfr, hst⟩ := how.store (k := kk) (by rw [hlen]; exact hkkl)
                        injection hg0 with hg0
                        injection hg0 with hg0
                        subst hg0
                        obtain ⟨old, hold⟩ := some_of_lt (l := ints (sgL (mtL zs) r nz ii kk)) (k := kk) (by rw [hlen]; exact hkkl)
                        rw [hold] at hcell0
                        have hst1 := hst (.int .i64 1)
                        have HO := Lib.hid how; have HST := Lib.hid hst1; have HT := Lib.hid hsT
                        clear how hst hst1 hsT hold hlen hyl hz hy hqm hgmw
                        by_cases hx0 : 0 < x
                        · by_cases hz0 : 0 < z
                          · have hT : sgT (mtL zs) r kk ii = true := by rw [HT.out, posB, posB, decide_eq_true hx0, decide_eq_true hz0]; rfl
                            have hset : (ints (sgL (mtL zs) r nz ii kk)).set kk (.int .i64 1) = ints (sgL (mtL zs) r nz ii (kk + 1)) := by
                              rw [sgL_yes hT hkkl, ints, ints, List.map_set]
                            have HSET := Lib.hid hset
                            clear hT hset
                            go_wp2_with fail
                            go_roundw
                            case rel => exact ⟨kk + 1, by omega, by go_num, by rw [← HSET.out]; exact HST.out.1, hb6.trans HST.out.2.1⟩
                            case measure => simp [intOf]; omega
                          · have hT : sgT (mtL zs) r kk ii = false := by rw [HT.out, posB, posB, decide_eq_false hz0, Bool.and_false]
                            have hset := sgL_no (n := nz) hT
                            have HSET := Lib.hid hset
                            clear hT hset
                            go_wp2_with fail
                            go_roundw
                            case rel => exact ⟨kk + 1, by omega, by go_num, by rw [HSET.out]; exact HO.out, hb6⟩
                            case measure => simp [intOf]; omega
                        · have hT : sgT (mtL zs) r kk ii = false := by rw [HT.out, posB, decide_eq_false hx0, Bool.false_and]
                          have hset := sgL_no (n := nz) hT
                          have HSET := Lib.hid hset
                          clear hT hset
                          go_wp2_with fail
                          go_roundw
                          case rel => exact ⟨kk + 1, by omega, by go_num, by rw [HSET.out]; exact HO.out, hb6⟩
                          case measure => simp [intOf]; omega
                      · have hke : kk = nz := by omega
                        subst hke
                        rw [sgL_end] at how
                        have HO := Lib.hid how
                        clear how
                        go_wp2_with fail
                        go_roundw
                        case rel => exact ⟨ii + 1, by omega, by go_num, HO.out, hb6⟩
                        case measure => simp [intOf]; omega
                  · have hie : ii = nz := by omega
                    subst hie
                    rw [sgL_fin] at how
                    have hrv := RowV.ofOwn (go := gn) how (sgR_len _ _ _) HBD.out.lt.2
                    have hbd := HBD.out.below hb5
                    have hz4 : wo.heap.size ≤ wr.heap.size := Nat.le_trans hz3 hb5.size
                    have hm9 : k < 4294967296 := by omega
                    have HBD2 := Lib.hid hbd; have HRV := Lib.hid hrv
                    clear how hrv hbd HBD
                    go_wp2_with (at_builtin; refine wp_append4 rfl (.tmp 84) (.tmp 86) 37 rfl _ 24 Tryz.underlying37 info_ints rfl k cn rfl HBD2.out.own _ rfl rfl HBD2.out.vlen hm9 (by decide) hz4 ?_)
                    intro g4 c4 w4 ha4
                    have hb4 := HBD2.out.add4 HRV.out ha4
                    rw [← HSN.out] at hb4
                    have HB4 := Lib.hid hb4
                    have hbe4 : Below wo.heap.size wo w4 := (hbe.trans (hb5.mono hz3)).trans ha4.bel
                    clear ha4 hb4
                    go_wp2_with fail
                    go_roundw
                    case rel => exact ⟨k + 1, g4, c4, _, by omega, by go_num, rfl, HB4.out, hbe4⟩
                    case measure => simp [intOf]; omega
              · have hke : k = nz := by omega
                subst hke
                have htk : (sgM (mtL zs) k p).take k = sgM (mtL zs) k p := List.take_of_length_le (by rw [sgM, List.length_map, HSQ.out.1]; exact Nat.le_refl _)
                rw [htk] at hbd
                have hfin := hbd.gr
                have hcap := hbd.cap.1
                have hsq2 := sg_sq (m := mtL zs) HSQ.out.1
                have HF := Lib.hid hfin; have HS2 := Lib.hid hsq2
                clear hbd hfin hsq2 htk
                go_wp2_with fail
                go_roundw
                case rel => exact ⟨t + 1, gn, cn, sgM (mtL zs) k p, by omega, by go_num, rfl, hcap, HF.out, HS2.out, by rw [show 16 - (t + 1) = f by omega]; exact HPG.out, hbel.trans (hbe.mono hz2)⟩
                case measure => simp [intOf]; omega
    · have hte : t = 16 := by omega
      subst hte
      have hV : V = false := by rw [← hpg]; rw [prG]
      subst hV
      clear hpg hgp hsq
      go_wp2_with fail
      go_ret
      exact ⟨rfl, bw2.trans (hbel.mono hw2)⟩
end Go.Proofs.YtbegecoocgkbiaaGreatDoor
