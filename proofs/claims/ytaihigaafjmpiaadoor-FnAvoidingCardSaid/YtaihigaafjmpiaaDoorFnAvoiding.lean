/- For every slice of bytes the law FnAvoiding returns true; no condition; the listed variables are the library's own, tied. -/
import Derived.Test.YtaihigaafjmpiaaDoorAvs
import Derived.Test.YtaihigaafjmpiaaDoorMkb
import Derived.Test.YtaihigaafjmpiaaDoorByi
import Derived.Test.YtaihigaafjmpiaaDoorOwb
import Derived.Test.YtaihigaafjmpiaaDoorUnv
import Derived.Test.YtaihigaafjmpiaaDoorLbi
import Derived.Test.YtaihigaafjmpiaaDoorIsf
import Derived.Test.YtaihigaafjmpiaaDoorLri
import Derived.Test.YtaihigaafjmpiaaDoorLhp
import Derived.Test.YtaihigaafjmpiaaDoorLwk
import Derived.Test.YtaihigaafjmpiaaDoorHsh
import Derived.Test.YtaihigaafjmpiaaDoorTbl
import Derived.Deep.CutRange
import Derived.Deep.RegionHeld3
import Derived.Deep.DrawnRows
import Derived.Test.YtaihigaafjmpiaaDoorTie
import Derived.Test.YtaihigaafjmpiaaDoorCards
import Derived.Lay
import Derived.LaidLaws
import Derived.SevenTiedAt
import Derived.LaidMore
namespace Go.Proofs.YtaihigaafjmpiaaDoor.fnAvoiding
open Go.ChangeShapes Go.WideShapes Go.ChangeAt Go.RowKit
open Go.ChangeMaps (open_string shut_string)
set_option linter.unusedVariables false

theorem isW_ex {s : ByteArray} (a b : Nat) (h : isW (L s) = true) : isW (L (s.extract a b)) = true := by
  unfold isW at h ⊢
  simp only [Bool.and_eq_true, decide_eq_true_eq] at h ⊢
  rw [L_extract]
  refine ⟨?_, ?_⟩
  · rw [List.all_eq_true] at h ⊢
    exact fun x hx => h.1 x (List.mem_of_mem_take (List.mem_of_mem_drop hx))
  · rw [List.length_drop, List.length_take]; omega
set_option maxRecDepth 8000 in
set_option maxHeartbeats 40000000 in
theorem walk (A : Option Addr) (n c : Nat) (l : List UInt8) (w : World) (hin : BytesIn w A n c l) (hsh : w.ShapedOpen Tryd.prog) (hL : laidMet Tryd.prog Rows.fnAvoidingRow.laid w) :
    Calls Tryd.prog 3 #[.slice A n c] w fun e w' => e = .returned (.bool true) ∧ Below w.heap.size w w' := by
  have m0 := Lib.hid (MlOk.of hsh)
  have t0 := Lib.hid (TB.of hL)
  clear hsh hL
  obtain ⟨hl, hnc, hcm, hrd⟩ := hin
  by_cases h1 : 1048576 < n
  · go_enter Tryd.func3, Tryd.ntmps3
    go_wp2_with fail
    go_ret
    exact ⟨rfl, Below.refl _ _⟩
  have hmb := makeBan_any A n c w.heap.size 0 l w (by decide) hl (by omega) hrd (Nat.le_refl _)
  have hsz := fun v m lo hi h2 h3 h4 h5 hr hb => makeSize_any A n c w.heap.size m lo hi l v h2 h3 h4 h5 hl (by omega) hr hb
  have hmk := fun v hr hb => makeWord_any A n c w.heap.size 40 16 l v (by decide) (by decide) (by decide) hl (by omega) hr hb
  have HMB := Lib.hid hmb; have HSZ := Lib.hid hsz; have HMK := Lib.hid hmk; have HRD := Lib.hid hrd
  clear hmb hsz hmk hrd
  go_enter Tryd.func3, Tryd.ntmps3
  go_wp2_with fail
  refine HMB.out.mono ?_
  rintro e w1 ⟨b, Ab, cb, hb4, hbg, rfl, ob, B1⟩
  have hbo := ban_of hb4 hbg
  clear HMB
  obtain ⟨bn, hbn⟩ : ∃ bn, b.length = bn := ⟨_, rfl⟩
  have ob2 := ob
  rw [hbn] at ob2
  rw [hbn]
  have OB := Lib.hid ob2; have HBN := Lib.hid hbn; have HBO := Lib.hid hbo; have HBG := Lib.hid hbg
  clear ob ob2 hbo hbg
  go_wp2_with fail
  refine (HSZ.out w1 30 1 3 (by omega) (by omega) (by omega) (by omega) (HRD.out.below B1 (Nat.le_refl _)) B1.size).mono ?_
  rintro e w2 ⟨k, hk1, hk3, rfl, b2⟩
  have K2 : Below w1.heap.size w1 w2 := b2
  have B2 := B1.trans (b2.mono B1.size)
  clear b2
  go_wp2_with fail
  refine (HSZ.out w2 31 0 4 (by omega) (by omega) (by omega) (by omega) (HRD.out.below B2 (Nat.le_refl _)) B2.size).mono ?_
  rintro e w3 ⟨m, _, hm4, rfl, b3⟩
  have K3 := K2.trans (b3.mono K2.size)
  clear b3 K2 B2 HSZ
  have hz : (laysK k m).length ≤ 121 := by
    have h : ∀ k, k < 4 → ∀ m, m < 5 → (laysK k m).length ≤ 121 := by decide +kernel
    exact h k (by omega) m (by omega)
  have hma := fun u => makeAll_k k m (by omega) (by omega) (by omega) (by omega) u
  have hys := fun y h => laysK_size k m y h
  have hfi := fun fi h => av_first HBO.out hk1 hk3 hm4 (first := fi) h
  have hco := av_count HBO.out hk1 hk3 hm4
  obtain ⟨Z, hZ⟩ : ∃ Z, laysK k m = Z := ⟨_, rfl⟩
  rw [hZ] at hz hma hys hfi hco
  obtain ⟨z, hzz⟩ : ∃ z, Z.length = z := ⟨_, rfl⟩
  rw [hzz] at hz hma
  have HMA := Lib.hid hma; have HYS := Lib.hid hys; have HFI := Lib.hid hfi; have HCO := Lib.hid hco; have HZ := Lib.hid hzz
  clear hma hys hfi hco hZ hzz
  have hb9 : b.length ≤ 4294967296 := by have := HBN.out; omega
  have hbs : ∀ s ∈ b, s.size ≤ maxLen := fun s hs => by have := (HBG.out s hs).2.1; unfold maxLen; omega
  have hav := fun (y : ByteArray) v (h : y.size ≤ 1048576) (hv : Below w1.heap.size w1 v) => iAvoids_any y b Ab cb v.heap.size v h hb9 hbs ((OB.out.below hv).reads) (m0.out.below (B1.trans (hv.mono B1.size)))
  rw [HBN.out] at hav
  have HAV := Lib.hid hav; have HBS := Lib.hid hbs; have HB9 := Lib.hid hb9
  have hbn4 : bn ≤ 4 := by omega
  clear hav hbs hb9 hbn hb4
  go_wp2_with fail
  refine (HMA.out w3).mono ?_
  rintro e w4 ⟨gz, cz, rfl, oz, b4⟩
  have K4 := K3.trans (b4.mono K3.size)
  have OZ := Lib.hid oz
  clear b4 K3 oz HMA
  go_wp2_with fail
  go_loopw [6, 7, 9, 37] (fun ct fi _ i wv => ∃ (j : Nat) (first : ByteArray), j ≤ z ∧ i = .int .i64 j ∧ ct = .int .i64 (((Z.take j).filter (okV b m)).length : Nat) ∧ fi = .string first ∧ first.size ≤ 400 ∧ Fst1 ((Z.take j).filter (okV b m)) first ∧ Dr w4 wv) (fun _ _ _ i _ => z - (intOf i).toNat)
  case atStart => exact ⟨0, ⟨#[]⟩, by omega, rfl, rfl, rfl, by decide, .inl ⟨rfl, rfl⟩, Dr.refl _⟩
  case round =>
    obtain ⟨j, first, hj, rfl, rfl, rfl, hfs, hFS, hd⟩ := hrel
    have hcl : ((Z.take j).filter (okV b m)).length ≤ z := by
      have h2 := List.length_filter_le (okV b m) (Z.take j)
      rw [List.length_take, HZ.out] at h2; omega
    have HFS := Lib.hid hFS
    clear hFS
    by_cases hlt : j < z
    · as_aux_lemma =>
      --SEG 1
      obtain ⟨y, hy⟩ := some_of_lt (l := Z) (k := j) (by rw [HZ.out]; exact hlt)
      have hc := rds_cell (OZ.out.dr hd).reads (map_at Value.string hy)
      have hyz := HYS.out y (List.mem_of_getElem? hy)
      have hft : (Z.take (j + 1)).filter (okV b m) = if okV b m y = true then (Z.take j).filter (okV b m) ++ [y] else (Z.take j).filter (okV b m) := by
        rw [List.take_add_one, hy, List.filter_append]
        cases h : okV b m y <;> simp [h]
      obtain ⟨T, hT⟩ : ∃ T, (Z.take j).filter (okV b m) = T := ⟨_, rfl⟩
      have HF2 := HFS.out
      rw [hT] at HF2 hft hcl
      rw [hT]
      obtain ⟨tl, htl⟩ : ∃ tl, T.length = tl := ⟨_, rfl⟩
      rw [htl] at hcl ⊢
      have hv := HAV.out y wr (by omega) (K4.trans hd.below)
      obtain ⟨a, ha⟩ : ∃ a, avoV y b = a := ⟨_, rfl⟩
      rw [ha] at hv
      have HV := Lib.hid hv; have HFT := Lib.hid hft; have HTL := Lib.hid htl; have HFS2 := Lib.hid HF2
      clear hv hy HF2 hft hT HFS htl
      by_cases hym : y.size = m
      · have k1 : ((y.size : Int) == (m : Int)) = true := beq_iff_eq.2 (by omega)
        have hok : okV b m y = a := by unfold okV; rw [decide_eq_true hym, Bool.true_and, ha]
        have HOK := Lib.hid hok
        clear hok ha hym
        cases a with
        | false =>
          go_wp2_with fail
          refine HV.out.mono ?_
          rintro e w5 ⟨rfl, d5⟩
          go_wp2_with fail
          go_roundw
          case rel => exact ⟨j + 1, first, by omega, by go_num, by rw [HFT.out, HOK.out, if_neg (by decide), HTL.out], rfl, hfs, by rw [HFT.out, HOK.out, if_neg (by decide)]; exact HFS2.out, hd.trans d5⟩
          case measure => simp [intOf]; omega
        | true =>
          have hlen : (T ++ [y]).length = tl + 1 := by rw [List.length_append, HTL.out]; rfl
          have HLN := Lib.hid hlen
          clear hlen
          by_cases h0 : tl = 0
          · have hT0 : T = [] := List.eq_nil_of_length_eq_zero (by rw [HTL.out]; exact h0)
            have hone : Fst1 (T ++ [y]) y := by rw [hT0]; exact Fst1.one
            have HONE := Lib.hid hone
            clear hone hT0
            subst h0
            go_wp2_with fail
            refine HV.out.mono ?_
            rintro e w5 ⟨rfl, d5⟩
            go_wp2_with fail
            go_roundw
            case rel => exact ⟨j + 1, y, by omega, by go_num, by rw [HFT.out, HOK.out, if_pos rfl, HLN.out]; go_num, rfl, by omega, by rw [HFT.out, HOK.out, if_pos rfl]; exact HONE.out, hd.trans d5⟩
            case measure => simp [intOf]; omega
          · have hT0 : T ≠ [] := fun e => h0 (by rw [← HTL.out, e]; rfl)
            obtain ⟨lt1, hlt1⟩ : ∃ q, decide (L y < L first) = q := ⟨_, rfl⟩
            have hbl : Op.bytesLess y.toList first.toList = lt1 := by rw [ByteArray.toList_eq, ByteArray.toList_eq, bytesLess_eq]; exact hlt1
            have hne : ((tl : Int) + 1 == 1) = false := beq_eq_false_iff_ne.2 (by omega)
            have HT0 := Lib.hid hT0; have HLT := Lib.hid hlt1
            clear hT0 hlt1 h0
            cases lt1 with
            | true =>
              go_wp2_with fail
              refine HV.out.mono ?_
              rintro e w5 ⟨rfl, d5⟩
              go_wp2_with fail
              go_roundw
              case rel => exact ⟨j + 1, y, by omega, by go_num, by rw [HFT.out, HOK.out, if_pos rfl, HLN.out]; go_num, rfl, by omega, by rw [HFT.out, HOK.out, if_pos rfl]; exact HFS2.out.take HT0.out (of_decide_eq_true HLT.out), hd.trans d5⟩
              case measure => simp [intOf]; omega
            | false =>
              go_wp2_with fail
              refine HV.out.mono ?_
              rintro e w5 ⟨rfl, d5⟩
              go_wp2_with fail
              go_roundw
              case rel => exact ⟨j + 1, first, by omega, by go_num, by rw [HFT.out, HOK.out, if_pos rfl, HLN.out]; go_num, rfl, hfs, by rw [HFT.out, HOK.out, if_pos rfl]; exact HFS2.out.stay HT0.out (of_decide_eq_false HLT.out), hd.trans d5⟩
              case measure => simp [intOf]; omega
      · have k1 : ((y.size : Int) == (m : Int)) = false := beq_eq_false_iff_ne.2 (by omega)
        have hok : okV b m y = false := by unfold okV; rw [decide_eq_false hym]; rfl
        have HOK := Lib.hid hok
        clear hok ha hym HV
        go_wp2_with fail
        go_roundw
        case rel => exact ⟨j + 1, first, by omega, by go_num, by rw [HFT.out, HOK.out, if_neg (by decide), HTL.out], rfl, hfs, by rw [HFT.out, HOK.out, if_neg (by decide)]; exact HFS2.out, hd⟩
        case measure => simp [intOf]; omega
      --END
    · have hjz : Z.take j = Z := List.take_of_length_le (by rw [HZ.out]; omega)
      have hFS := HFS.out
      rw [hjz] at hFS hcl
      rw [hjz]
      obtain ⟨f1, f2⟩ := HFI.out first hFS
      have hca := caV_is HBO.out hk1 (show k ≤ 4 by omega) (show m ≤ 18 by omega)
      rw [← HCO.out] at hca
      obtain ⟨ct, hct⟩ : ∃ ct, (Z.filter (okV b m)).length = ct := ⟨_, rfl⟩
      rw [hct] at f2 hca hcl ⊢
      have hb9 := HB9.out
      have hbs := HBS.out
      have c1 := fun v (hv : Below w1.heap.size w1 v) => iFa_any (k : Int) (m : Int) b Ab cb v hb9 hbs ((OB.out.below hv).reads) (m0.out.below (B1.trans (hv.mono B1.size))) (t0.out.below (B1.trans (hv.mono B1.size)))
      have c2 := fun v (hv : Below w1.heap.size w1 v) => iReduced_any b Ab cb v.heap.size v (Nat.le_refl _) hb9 hbs ((OB.out.below hv).reads) (m0.out.below (B1.trans (hv.mono B1.size)))
      have c3 := fun v (hv : Below w1.heap.size w1 v) => iTurnBan_any b Ab cb v.heap.size v (Nat.le_refl _) hb9 hbs ((OB.out.below hv).reads)
      rw [f1, f2, HBN.out] at c1
      rw [show rbV b = rbL b by rw [rbV, HBO.out]; rfl, HBN.out] at c2
      rw [show turnL b = b.map trn by rw [turnL, if_pos HBO.out], List.length_map, HBN.out] at c3
      have C1 := Lib.hid c1; have C2 := Lib.hid c2; have C3 := Lib.hid c3; have HCA := Lib.hid hca
      have K5 := K4.trans hd.below
      clear c1 c2 c3 hca f1 f2 hct hFS hjz HFS HFI HCO HYS HZ OZ HAV hb9 hbs hd K4
      go_wp2_with fail
      clear hlt hj
      refine (C1.out _ K5).mono ?_
      rintro e w5 ⟨rfl, b5⟩
      have K6 := K5.trans (b5.mono K5.size)
      clear b5 K5 C1
      go_wp2_with fail
      refine (C2.out _ K6).mono ?_
      rintro e w6 ⟨Ar, cr, rfl, or_, b6⟩
      have K7 := K6.trans (b6.mono K6.size)
      obtain ⟨rn, hrn⟩ : ∃ rn, (rbL b).length = rn := ⟨_, rfl⟩
      rw [hrn] at or_ ⊢
      have OR := Lib.hid or_; have HRN := Lib.hid hrn
      clear b6 K6 C2 or_ hrn
      go_wp2_with fail
      refine (C3.out _ K7).mono ?_
      rintro e w7 ⟨At, ctt, rfl, ot, b7⟩
      have K8 := K7.trans (b7.mono K7.size)
      have or2 := OR.out.below b7
      have ob2 := OB.out.below K8
      have B8 := B1.trans (K8.mono B1.size)
      have OR2 := Lib.hid or2; have OT := Lib.hid ot; have OB2 := Lib.hid ob2
      clear b7 K7 C3 or2 ob2 ot OR
      -- from here on: the world w7, the three bans
      have hrl := rb_length b
      rw [HRN.out, HBN.out] at hrl
      have hb9 := HB9.out
      have hbs := HBS.out
      have hro := rb_ok HBO.out
      have hto := turn_ok HBO.out
      have hsr : ∀ s ∈ rbL b, s.size ≤ maxLen := fun s hs => hbs s ((rb_mem b s).1 hs).1
      have hst : ∀ s ∈ b.map trn, s.size ≤ maxLen := fun s hs => by
        obtain ⟨g, hg, rfl⟩ := List.mem_map.1 hs
        have : (trn g).size = g.size := by rw [← L_len, trn_L, List.length_reverse, L_len]
        rw [this]; exact hbs g hg
      have dB := fun (i : Int) v (hv : Below w7.heap.size w7 v) => iCa_any (k : Int) i b Ab cb v hb9 hbs ((OB2.out.below hv).reads) (m0.out.below (B8.trans (hv.mono B8.size))) (t0.out.below (B8.trans (hv.mono B8.size)))
      have dR := fun (i : Int) v (hv : Below w7.heap.size w7 v) => iCa_any (k : Int) i (rbL b) Ar cr v (by have := rb_length b; omega) hsr (by have h := (OR2.out.below hv).reads; exact h) (m0.out.below (B8.trans (hv.mono B8.size))) (t0.out.below (B8.trans (hv.mono B8.size)))
      have dT := fun (i : Int) v (hv : Below w7.heap.size w7 v) => iCa_any (k : Int) i (b.map trn) At ctt v (by rw [List.length_map]; exact hb9) hst (by have h := (OT.out.below hv).reads; exact h) (m0.out.below (B8.trans (hv.mono B8.size))) (t0.out.below (B8.trans (hv.mono B8.size)))
      rw [HBN.out] at dB
      rw [HRN.out] at dR
      rw [List.length_map, HBN.out] at dT
      have DB := Lib.hid dB; have DR := Lib.hid dR; have DT := Lib.hid dT
      clear dB dR dT hsr hst hb9 hbs
      go_upto_region 19 with fail
      go_cut [137] from 72 to 137 (fun cc wx => cc = .bool false ∧ Below w7.heap.size w7 wx)
      case first => as_aux_lemma =>
        --SEG 2
        have hbk := fun v (hv : Below w7.heap.size w7 v) => iBanOk_any b Ab cb v.heap.size v HB9.out HBS.out ((OB2.out.below hv).reads)
        rw [HBN.out, HBO.out] at hbk
        have e1 := DB.out (m : Int)
        have e2 := DR.out (m : Int)
        have e3 := DT.out (m : Int)
        have e4 := DR.out 9
        have e5 := DB.out 9
        have g2 := ca_reduced HBO.out hk1 (show k ≤ 4 by omega) (show m ≤ 18 by omega)
        have g3 := ca_turned HBO.out hk1 (show k ≤ 4 by omega) (show m ≤ 18 by omega)
        have g4 := ca_reduced (n := 9) HBO.out hk1 (show k ≤ 4 by omega) (by omega)
        rw [HCA.out] at e1 g2 g3
        rw [g2] at e2
        rw [g3] at e3
        rw [show caV (k : Int) 9 (rbL b) = caV (k : Int) 9 b from g4] at e4
        obtain ⟨C9, hC9⟩ : ∃ C9, caV (k : Int) 9 b = C9 := ⟨_, rfl⟩
        rw [hC9] at e4 e5
        have hri := fun v (hv : Below w7.heap.size w7 v) => lrising_yes (rbL b) (insL_ss _) Ar cr v.heap.size rn v HRN.out (by omega) ((OR2.out.below hv).reads)
        have HBK := Lib.hid hbk; have E1 := Lib.hid e1; have E2 := Lib.hid e2; have E3 := Lib.hid e3; have E4 := Lib.hid e4; have E5 := Lib.hid e5; have HRI := Lib.hid hri
        have K0 : Below w7.heap.size w7 w7 := Below.refl _ _
        clear hbk e1 e2 e3 e4 e5 hri g2 g3 g4 hC9
        go_wp2_with fail
        refine (HBK.out _ K0).mono ?_
        rintro e w8 ⟨rfl, d8⟩
        have K1 := K0.trans d8.below
        go_wp2_with fail
        refine (E1.out _ K1).mono ?_
        rintro e w9 ⟨rfl, b9⟩
        have K2 := K1.trans (b9.mono K1.size)
        go_wp2_with fail
        refine (HRI.out _ K2).mono ?_
        rintro e w10 ⟨rfl, d10⟩
        have K3 := K2.trans d10.below
        go_wp2_with fail
        refine (E2.out _ K3).mono ?_
        rintro e w11 ⟨rfl, b11⟩
        have K4 := K3.trans (b11.mono K3.size)
        go_wp2_with fail
        refine (E3.out _ K4).mono ?_
        rintro e w12 ⟨rfl, b12⟩
        have K5 := K4.trans (b12.mono K4.size)
        go_wp2_with fail
        refine (E4.out _ K5).mono ?_
        rintro e w13 ⟨rfl, b13⟩
        have K6 := K5.trans (b13.mono K5.size)
        go_wp2_with fail
        refine (E5.out _ K6).mono ?_
        rintro e w14 ⟨rfl, b14⟩
        have K7 := K6.trans (b14.mono K6.size)
        go_wp2_with fail
        go_meet
        case rel => exact ⟨by first | rfl | (simp; done) | (simp; omega), K7⟩
        --END
      case rest =>
      obtain ⟨rfl, K9⟩ := hcut
      obtain ⟨w9, rfl⟩ : ∃ z : World, z = wc := ⟨_, rfl⟩
      clear HCA
      go_wp2_with fail
      have hfb : ∀ f ∈ b, (rbL b).any (fun g => facB f g) = true := fun f hf => by
        obtain ⟨g, hg, hfg⟩ := rb_has b hf
        refine List.any_eq_true.2 ⟨g, hg, ?_⟩
        have hwf : ∀ x ∈ b, isW (L x) = true := fun x hx => by
          obtain ⟨h1, h2, h3⟩ := HBG.out x hx
          exact lets_isW (by decide) h3 (by rw [L_len]; omega)
        unfold facB
        rw [hwf f hf, hwf g ((rb_mem b g).1 hg).1, hfg]; rfl
      have HFB := Lib.hid hfb
      clear hfb
      go_loopw [14, 15, 16, 18, 140] (fun _ _ _ _ i wv => ∃ j : Nat, j ≤ bn ∧ i = .int .i64 j ∧ Below w7.heap.size w7 wv) (fun _ _ _ _ i _ => bn - (intOf i).toNat)
      case atStart => exact ⟨0, by omega, rfl, K9⟩
      case round =>
        obtain ⟨j, hj, rfl, hb⟩ := hrel
        by_cases hlt : j < bn
        · as_aux_lemma =>
          --SEG 3
          obtain ⟨f, hf⟩ := some_of_lt (l := b) (k := j) (by rw [HBN.out]; exact hlt)
          obtain ⟨gb, rfl⟩ := own_block OB2.out (by omega)
          have hcf := rds_cell (OB2.out.below hb).reads (map_at Value.string hf)
          have hfm := List.mem_of_getElem? hf
          have hfz := (HBG.out f hfm).2.1
          have hany := HFB.out f hfm
          have hft : (b.map trn)[j]? = some (trn f) := map_at trn hf
          obtain ⟨gt, rfl⟩ := own_block OT.out (by omega)
          have hct := rds_cell (OT.out.below hb).reads (map_at Value.string hft)
          have hfl := fun v => flip_any f (by omega) v
          have HFL := Lib.hid hfl; have HANY := Lib.hid hany
          clear hfl hany hft hf hfm
          go_wp2_with fail
          obtain ⟨wo, rfl⟩ : ∃ z : World, z = wr := ⟨_, rfl⟩
          go_loopw [16, 18, 147] (fun fo _ i wv => ∃ q : Nat, q ≤ rn ∧ i = .int .i64 q ∧ fo = .bool (((rbL b).take q).any fun g => facB f g) ∧ wv = wo) (fun _ _ i _ => rn - (intOf i).toNat)
          case atStart => exact ⟨0, by omega, rfl, rfl, rfl⟩
          case round =>
            obtain ⟨q, hq, rfl, rfl, rfl⟩ := hrel
            by_cases hqlt : q < rn
            · obtain ⟨g, hg⟩ := some_of_lt (l := rbL b) (k := q) (by rw [HRN.out]; exact hqlt)
              obtain ⟨gr, rfl⟩ := own_block OR2.out (by omega)
              have hcg := rds_cell (OR2.out.below hb).reads (map_at Value.string hg)
              have hgz := (HBG.out g ((rb_mem b g).1 (List.mem_of_getElem? hg)).1).2.1
              have hif := iIsFactor_any f g (by omega) (by unfold maxLen; omega) wr (m0.out.below (B8.trans (hb.mono B8.size)))
              have hnx : ((rbL b).take (q + 1)).any (fun g => facB f g) = (((rbL b).take q).any (fun g => facB f g) || facB f g) := by
                rw [List.take_add_one, hg, List.any_append]; simp
              obtain ⟨o, ho⟩ : ∃ o, ((rbL b).take q).any (fun g => facB f g) = o := ⟨_, rfl⟩
              obtain ⟨a, ha⟩ : ∃ a, facB f g = a := ⟨_, rfl⟩
              rw [ho, ha] at hnx
              rw [ha] at hif
              rw [ho]
              have HIF := Lib.hid hif; have HNX := Lib.hid hnx
              clear hif hnx ho ha hg
              cases o with
              | true =>
                go_wp2_with fail
                go_roundw
                case rel => exact ⟨q + 1, by omega, by go_num, by rw [HNX.out]; rfl, by first | trivial | rfl⟩
                case measure => simp [intOf]; omega
              | false =>
                go_wp2_with fail
                refine HIF.out.mono ?_
                rintro e w10 ⟨rfl, rfl⟩
                go_wp2_with fail
                go_roundw
                case rel => exact ⟨q + 1, by omega, by go_num, by rw [HNX.out]; first | rfl | simp, by first | trivial | rfl⟩
                case measure => simp [intOf]; omega
            · have hqe : (rbL b).take q = rbL b := List.take_of_length_le (by rw [HRN.out]; omega)
              rw [hqe, HANY.out]
              have hgl := (World.ownsRow.lt (OT.out.below hb) gt rfl).2
              clear hqe
              go_wp2_with fail
              go_upto_region 30 with fail
              go_cut [140, 168] from 140 to 169 (fun i cc wx => i = .int .i64 j ∧ cc = .bool false ∧ Below w7.heap.size w7 wx)
              case first => as_aux_lemma =>
                --SEG 4
                go_region_held3 (fun w' => w'.cell? ⟨gt, j, none⟩ = some (.string (trn f))) (first | go_keep | assumption)
                  (first | (go_at_call 15; refine (HFL.out _).mono ?_; rintro e w11 ⟨rfl, b11⟩; have hct2 := (b11.cell (p := ⟨gt, j, none⟩) hgl).trans hct))
                all_goals
                  have hb2 := hb.trans (((Dr.refl wr).drew.below (B := w7.heap.size)).trans (b11.mono hb.size))
                  go_wp2_with fail
                  go_meet
                  exact ⟨rfl, by first | rfl | simp, hb2⟩
                --END
              case rest =>
                obtain ⟨rfl, rfl, hb2⟩ := hcut
                go_wp2_with fail
                go_roundw
                case rel => exact ⟨j + 1, by omega, by go_num, hb2⟩
                case measure => simp [intOf]; omega
          --END
        · have hlt9 : j = bn := by omega
          clear HFB hlt hj
          have hcv := caV_is HBO.out hk1 (show k ≤ 4 by omega) (Nat.le_refl 18)
          rw [show ((18 : Nat) : Int) = 18 from rfl] at hcv
          have huc := un_count HBO.out hk1 (show k ≤ 4 by omega)
          have hut := un_turned HBO.out hk1 (show k ≤ 4 by omega)
          obtain ⟨C, hC⟩ : ∃ C, cnt b k 18 ByteArray.empty = C := ⟨_, rfl⟩
          rw [hC] at hcv
          rw [hcv] at huc
          obtain ⟨u, hu⟩ : ∃ u, unV (k : Int) b = u := ⟨_, rfl⟩
          rw [hu] at huc hut
          have e18 := DB.out 18
          rw [hcv] at e18
          have hki : I64 (k : Int) := ⟨by omega, by omega⟩
          have uB := fun v (hv : Below w7.heap.size w7 v) => iUn_any (k : Int) hki b Ab cb v.heap.size v (Nat.le_refl _) HB9.out HBS.out ((OB2.out.below hv).reads) (m0.out.below (B8.trans (hv.mono B8.size)))
          have hst : ∀ s ∈ b.map trn, s.size ≤ maxLen := fun s hs => by
            obtain ⟨g, hg, rfl⟩ := List.mem_map.1 hs
            have : (trn g).size = g.size := by rw [← L_len, trn_L, List.length_reverse, L_len]
            rw [this]; exact HBS.out g hg
          have uT := fun v (hv : Below w7.heap.size w7 v) => iUn_any (k : Int) hki (b.map trn) At ctt v.heap.size v (Nat.le_refl _) (by rw [List.length_map]; exact HB9.out) hst ((OT.out.below hv).reads) (m0.out.below (B8.trans (hv.mono B8.size)))
          rw [hu, HBN.out] at uB
          rw [hut, List.length_map, HBN.out] at uT
          have E18 := Lib.hid e18; have UB := Lib.hid uB; have UT := Lib.hid uT
          have huc1 := huc.1
          have huc2 := huc.2
          have HU1 := Lib.hid huc1; have HU2 := Lib.hid huc2
          clear e18 uB uT huc huc1 huc2 hut hu hcv hC hst DB DR DT
          go_wp2_with fail
          refine (E18.out _ hb).mono ?_
          rintro e w10 ⟨rfl, b10⟩
          have hb10 := hb.trans (b10.mono hb.size)
          clear b10 hb
          go_upto_region 34 with fail
          go_cut [204] from 173 to 204 (fun cc wx => cc = .bool false ∧ Below w7.heap.size w7 wx)
          case first => as_aux_lemma =>
            --SEG 5
            cases u with
            | false =>
              have hc0 : ((C : Int) == 0) = false := beq_eq_false_iff_ne.2 (fun h => by have := HU1.out h; cases this)
              go_wp2_with fail
              refine (UB.out _ hb10).mono ?_
              rintro e w11 ⟨rfl, b11⟩
              have h11 := hb10.trans (b11.mono hb10.size)
              go_wp2_with fail
              refine (UB.out _ h11).mono ?_
              rintro e w12 ⟨rfl, b12⟩
              have h12 := h11.trans (b12.mono h11.size)
              go_wp2_with fail
              refine (UT.out _ h12).mono ?_
              rintro e w13 ⟨rfl, b13⟩
              have h13 := h12.trans (b13.mono h12.size)
              go_wp2_with fail
              go_meet
              case rel => exact ⟨by first | rfl | (simp; done), h13⟩
            | true =>
              by_cases hC : 0 < C
              · have hk2 : ((k : Int) == 1) = false := beq_eq_false_iff_ne.2 (fun h => by have h2 := HU2.out (by omega) rfl; omega)
                have hc0 : ((C : Int) == 0) = false := beq_eq_false_iff_ne.2 (by omega)
                go_wp2_with fail
                refine (UB.out _ hb10).mono ?_
                rintro e w11 ⟨rfl, b11⟩
                have h11 := hb10.trans (b11.mono hb10.size)
                go_wp2_with fail
                refine (E18.out _ h11).mono ?_
                rintro e w12 ⟨rfl, b12⟩
                have h12 := h11.trans (b12.mono h11.size)
                go_wp2_with fail
                refine (UB.out _ h12).mono ?_
                rintro e w13 ⟨rfl, b13⟩
                have h13 := h12.trans (b13.mono h12.size)
                go_wp2_with fail
                refine (UT.out _ h13).mono ?_
                rintro e w14 ⟨rfl, b14⟩
                have h14 := h13.trans (b14.mono h13.size)
                go_wp2_with fail
                go_meet
                case rel => exact ⟨by first | rfl | (simp; done), h14⟩
              · have hc1 : C = 0 := by omega
                subst hc1
                go_wp2_with fail
                refine (UB.out _ hb10).mono ?_
                rintro e w11 ⟨rfl, b11⟩
                have h11 := hb10.trans (b11.mono hb10.size)
                go_wp2_with fail
                refine (E18.out _ h11).mono ?_
                rintro e w12 ⟨rfl, b12⟩
                have h12 := h11.trans (b12.mono h11.size)
                go_wp2_with fail
                refine (UB.out _ h12).mono ?_
                rintro e w13 ⟨rfl, b13⟩
                have h13 := h12.trans (b13.mono h12.size)
                go_wp2_with fail
                refine (UT.out _ h13).mono ?_
                rintro e w14 ⟨rfl, b14⟩
                have h14 := h13.trans (b14.mono h13.size)
                go_wp2_with fail
                refine (UB.out _ h14).mono ?_
                rintro e w15 ⟨rfl, b15⟩
                have h15 := h14.trans (b15.mono h14.size)
                go_wp2_with fail
                go_meet
                case rel => exact ⟨by first | rfl | (simp; done), h15⟩
            --END
          case rest =>
          obtain ⟨rfl, K20⟩ := hcut
          obtain ⟨w20, rfl⟩ : ∃ z : World, z = wc := ⟨_, rfl⟩
          clear E18 UB UT HU1 HU2
          go_wp2_with fail
          refine (HMK.out w20 (HRD.out.below (B8.trans (K20.mono B8.size)) (Nat.le_refl _)) (B8.trans (K20.mono B8.size)).size).mono ?_
          rintro e w21 ⟨x, hxm, hxl, hxw, rfl, b21⟩
          have K21 := K20.trans (b21.mono K20.size)
          have B21 := B8.trans (K21.mono B8.size)
          clear b21 K20 HMK HRD
          have hle := iLeast_any x (by unfold maxLen; omega) w21 (m0.out.below B21)
          have HLE := Lib.hid hle
          clear hle hxl
          by_cases hx0 : x.size = 0
          · as_aux_lemma =>
            --SEG 6
            have hle := HLE.out
            have hlv : lbV x = [] := by unfold lbV; rw [if_neg (fun h => h.2 hx0)]
            rw [hlv] at hle
            have hem : x.toList.isEmpty = true := by rw [ByteArray.toList_eq]; have : x.data.toList = [] := List.eq_nil_of_length_eq_zero (by rw [L_len]; exact hx0); rw [this]; rfl
            have HL2 := Lib.hid hle
            clear hle hlv hx0
            go_wp2_with fail
            refine HL2.out.mono ?_
            rintro e w22 ⟨Al, cl, rfl, ol, b22⟩
            go_wp2_with fail
            go_ret
            exact ⟨by first | rfl | simp, B21.trans (b22.mono B21.size)⟩
            --END
          · have hle := HLE.out
            have hlv : lbV x = lbL x := by unfold lbV; rw [if_pos ⟨hxw, hx0⟩]
            rw [hlv] at hle
            have hem : x.toList.isEmpty = false := by
              rw [ByteArray.toList_eq, Bool.eq_false_iff]
              intro h
              have h2 : x.data.toList = [] := List.isEmpty_iff.1 h
              have h3 := L_len x
              unfold L at h3
              rw [h2] at h3
              exact hx0 h3.symm
            have hll := lb_len x
            have hmm := fun f (h : f ∈ lbL x) => lb_mem hxw h
            have hav : avoV x (lbL x) = true := by unfold avoV; rw [hxw, lb_ok hxw, lb_avoids hxw]; rfl
            have hrv : rbV (lbL x) = lbL x := by rw [rbV, if_pos (lb_ok hxw), lb_reduced hxw]
            have hss := lb_ss x
            obtain ⟨l, hl⟩ : ∃ l, lbL x = l := ⟨_, rfl⟩
            rw [hl] at hle hll hmm hav hrv hss
            obtain ⟨ln, hln⟩ : ∃ ln, l.length = ln := ⟨_, rfl⟩
            rw [hln] at hle hll
            have HL2 := Lib.hid hle; have HMM := Lib.hid hmm; have HAV := Lib.hid hav; have HRV := Lib.hid hrv; have HSS := Lib.hid hss; have HLN := Lib.hid hln; have HXW := Lib.hid hxw
            clear hle hlv hx0 HLE hmm hav hrv hss hln hl hxw
            go_wp2_with fail
            refine HL2.out.mono ?_
            rintro e w22 ⟨Al, cl, rfl, ol, b22⟩
            have B22 := B21.trans (b22.mono B21.size)
            have OL := Lib.hid ol
            clear b22 ol HL2
            have hsl : ∀ s ∈ l, s.size ≤ maxLen := fun s hs => by have := (HMM.out s hs).2.1; unfold maxLen; omega
            have hl9 : l.length ≤ 4294967296 := by have := HLN.out; omega
            have hri := lrising_yes l HSS.out Al cl w22.heap.size ln w22 HLN.out (by omega) OL.out.reads
            have hav2 := fun v (hv : Dr w22 v) => iAvoids_any x l Al cl w22.heap.size v (by omega) hl9 hsl (OL.out.reads.dr hv) (m0.out.below (B22.trans hv.below))
            rw [HAV.out, HLN.out] at hav2
            have HRI := Lib.hid hri; have HAV2 := Lib.hid hav2; have HSL := Lib.hid hsl; have HL9 := Lib.hid hl9
            clear hri hav2 hsl hl9
            have hl8 : (ln : Int) ≤ 8 := by omega
            go_wp2_with fail
            refine HRI.out.mono ?_
            rintro e w23 ⟨rfl, d23⟩
            go_wp2_with fail
            refine (HAV2.out _ d23).mono ?_
            rintro e w24 ⟨rfl, d24⟩
            have d25 := d23.trans d24
            have B25 := B22.trans d25.below
            have ol2 := OL.out.dr d25
            have OL2 := Lib.hid ol2
            clear d23 d24 d25 ol2 OL HRI HAV2 hl8
            go_wp2_with fail
            go_loopw [23, 230] (fun _ i wv => ∃ q : Nat, q ≤ ln ∧ i = .int .i64 q ∧ wv = w24) (fun _ i _ => ln - (intOf i).toNat)
            case atStart => exact ⟨0, by omega, rfl, rfl⟩
            case round =>
              obtain ⟨q, hq, rfl, rfl⟩ := hrel
              by_cases hqlt : q < ln
              · as_aux_lemma =>
                --SEG 7
                obtain ⟨f, hf⟩ := some_of_lt (l := l) (k := q) (by rw [HLN.out]; exact hqlt)
                obtain ⟨gl, rfl⟩ := own_block OL2.out (by omega)
                have hcf := rds_cell OL2.out.reads (map_at Value.string hf)
                obtain ⟨f1, f4, fw, fn, fa, fb⟩ := HMM.out f (List.mem_of_getElem? hf)
                have c1 := iIsFactor_any x f (by omega) (by unfold maxLen; omega) wr (m0.out.below B25)
                have c2 := iIsFactor_any x (f.extract 1 f.size) (by omega) (by rw [ByteArray.size_extract]; unfold maxLen; omega) wr (m0.out.below B25)
                have c3 := iIsFactor_any x (f.extract 0 (f.size - 1)) (by omega) (by rw [ByteArray.size_extract]; unfold maxLen; omega) wr (m0.out.below B25)
                rw [show facB x f = false by unfold facB; rw [fn]; simp] at c1
                rw [show facB x (f.extract 1 f.size) = true by unfold facB; rw [fa, HXW.out, isW_ex 1 f.size fw]; rfl] at c2
                rw [show facB x (f.extract 0 (f.size - 1)) = true by unfold facB; rw [fb, HXW.out, isW_ex 0 (f.size - 1) fw]; rfl] at c3
                have C1 := Lib.hid c1; have C2 := Lib.hid c2; have C3 := Lib.hid c3
                clear c1 c2 c3 fn fa fb fw hf
                go_wp2_with fail
                refine C1.out.mono ?_
                rintro e w30 ⟨rfl, rfl⟩
                go_wp2_with fail
                refine C2.out.mono ?_
                rintro e w31 ⟨rfl, rfl⟩
                go_wp2_with fail
                refine C3.out.mono ?_
                rintro e w32 ⟨rfl, rfl⟩
                go_wp2_with fail
                go_roundw
                case rel => exact ⟨q + 1, by omega, by go_num, by first | trivial | rfl⟩
                case measure => simp [intOf]; omega
                --END
              · as_aux_lemma =>
                --SEG 8
                have crd := iReduced_any l Al cl wr.heap.size wr (Nat.le_refl _) HL9.out HSL.out OL2.out.reads (m0.out.below B25)
                rw [HRV.out, HLN.out] at crd
                have CRD := Lib.hid crd
                clear crd
                go_wp2_with fail
                refine CRD.out.mono ?_
                rintro e w33 ⟨A3, c3, rfl, o3, b33⟩
                have heq := lequal_same l A3 Al c3 cl _ _ ln w33 HLN.out (by omega) o3.reads ((OL2.out.below b33).reads)
                have HEQ := Lib.hid heq
                clear heq o3
                go_wp2_with fail
                refine HEQ.out.mono ?_
                rintro e w34 ⟨rfl, d34⟩
                go_wp2_with fail
                go_ret
                exact ⟨rfl, (B25.trans (b33.mono B25.size)).trans d34.below⟩
                --END


set_option maxRecDepth 100000 in
theorem lifted (os : Os) (started : os.Started) (H : Type) (enc : TypeId × Value → H) :
    ReturnsInHanded {} Tryd.checked os 3 .any (fun w args => (Rows.fnAvoidingSpec.pre enc Tryd.prog Tryd.f3 [] false w args ∧ laidMetH Tryd.prog Rows.fnAvoidingRow.laid w) ∧ sizedMet enc Tryd.prog Tryd.f3 (OpenSpec.ofChange Rows.fnAvoidingSpec) false w args) (Rows.fnAvoidingSpec.post enc Tryd.prog Tryd.f3 false true false false) := by
  refine handed_and_shaped (C := Tryd.checked) (X := fun w _ => laidMetH Tryd.prog Rows.fnAvoidingRow.laid w) (fun _ _ _ hh h => h.of_heap hh) own started (by kernel_rfl) Tryd.func3
    (ChangeSpec.witness_shaped (enc := enc) (C := Tryd.checked) (os := os) (X := fun w _ => laidMetH Tryd.prog Rows.fnAvoidingRow.laid w) false (World.laidAll Tryd.prog os Rows.fnAvoidingRow.laid) #[.slice none 0 0] 8 (World.laidAll_os _ _ _)
      (World.shaped_of_ZipB (by kernel_rfl) (by kernel_rfl)) (by kernel_rfl) (by kernel_rfl) (by kernel_rfl)
      (by rw [MakeChecks.laidMetH_plain _ _ _ (by kernel_rfl)]; exact laidMet_laidAll _ (by kernel_rfl) (by kernel_rfl))) ?_
  intro W base args ds gs before hval0 hW hL hsh
  rw [MakeChecks.laidMetH_plain _ _ _ (by kernel_rfl)] at hL
  have hval : ∀ (j : Nat) t v, Tryd.f3.params[j]? = some t → args[j]? = some v → Value.okWide Tryd.prog W .any base t v := hval0
  have hW' := hW
  obtain ⟨p, q, hA0, hV, rfl, hfz, hnd⟩ := hW
  have hA : DataW.TrodAll enc Tryd.prog W 0 (fun _ => true) true Tryd.f3.params.toList args.toList ds p := hA0
  rw [Tryd.params3] at hA hval
  obtain ⟨v0, vs0, d0, ds0, p0, q0, hargs, rfl, rfl, h0, r0⟩ := trodAll_cons hA
  obtain ⟨rfl, rfl, rfl⟩ := trodAll_nil r0
  obtain rfl : args = #[v0] := by cases args; simp_all
  obtain ⟨rfl, rfl⟩ := trodVars_none hV
  obtain ⟨s0, len0, cap0, rfl⟩ := okWide_slice Tryd.underlying22 (hval 0 22 v0 rfl rfl)
  have k0 := h0
  have lt0 : ∀ x ∈ p0, x.block < W.heap.size := by obtain ⟨m, hm⟩ := k0; exact DataW.trod_lt m _ _ _ hm
  obtain ⟨z0, w0⟩ : ∃ zs, BytesIn W s0 len0 cap0 zs := bytes_in Tryd.underlying22 Tryd.underlying5 (by kernel_rfl) h0 lt0
  clear hA0 hval0
  refine (walk s0 len0 cap0 z0 W w0 hsh hL).mono fun e W' ⟨he, bel⟩ => ?_
  subst he
  exact ⟨_, rfl, _, _, _, [], _, [], hW', trodAll_mk1 (shut_bool Tryd.underlying4 _), (trodAll_cons_mk (Below.trod laidOut (by kernel_rfl) (of_decide_eq_true (by kernel_rfl)) k0 bel lt0) trodAll_mk0), rfl, bel.frame _, fun h => by cases h⟩

set_option maxHeartbeats 4000000 in
theorem closed : joinedFacts Tryd.pinned.checked.prog 3 Tryd.f3 Rows.fnAvoidingSpec Rows.fnAvoidingRow = true := by
  unfold joinedFacts
  simp only [Bool.and_eq_true]
  repeat' apply And.intro
  all_goals (as_aux_lemma => kernel_rfl)
set_option maxHeartbeats 4000000 in
theorem over : Rows.fnAvoidingRow.holds Tryd.pinned (OpenSpec.ofChange Rows.fnAvoidingSpec) :=
  OpenClaim.holds_of_wide 3 Tryd.f3 rfl rfl rfl rfl rfl rfl rfl ⟨rfl, rfl, rfl, rfl, rfl⟩ rfl rfl rfl rfl rfl (by as_aux_lemma => kernel_rfl) Tryd.func3 closed
    (of_decide_eq_true (by kernel_rfl)) (by unfold Func.isWrapper; first | (rw [if_pos (by decide +kernel)]; kernel_rfl) | (rw [if_neg (by decide +kernel)]; exact ⟨rfl, rfl⟩))
    (fun os started H enc _ => lifted os started H enc)

set_option maxHeartbeats 4000000 in
theorem proved : Rows.FnAvoidingCardSaid :=
  Claim7.holds_tied_plain_at .later [] _ true _ _ over (fun _ h => by cases h) (by as_aux_lemma => kernel_rfl) (fun _ h => by cases h) fnAvoiding_row_tie rfl ⟨rfl, rfl⟩ (by as_aux_lemma => kernel_rfl) rfl
    (fun f fn hf hfn => by
      obtain rfl : f = 3 := Option.some.inj ((show Tryd.prog.funcNamed "loop.example/g03209/laws.FnAvoiding" = some 3 by as_aux_lemma => kernel_rfl).symm.trans hf) |>.symm
      obtain rfl : fn = Tryd.f3 := (Option.some.inj (Tryd.func3.symm.trans hfn)).symm
      exact ⟨by as_aux_lemma => kernel_rfl, fun j t ht => by
        rw [Tryd.params3] at ht
        have hm : t ∈ [22] := by simpa using Array.mem_of_getElem? ht
        have hall : ([22].all fun u => !Tryd.prog.wantsStandIn u) = true := by as_aux_lemma => kernel_rfl
        exact (show Tryd.prog.wantsStandIn t = false by simpa using List.all_eq_true.1 hall t hm)⟩)
    (by as_aux_lemma => kernel_rfl)
#print axioms proved
end Go.Proofs.YtaihigaafjmpiaaDoor.fnAvoiding
