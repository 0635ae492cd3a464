/- For every slice of bytes the law FnRepairs returns true; no condition. -/
import Derived.Test.YtfjmopiofcbpgaaRpr
import Derived.Test.YtfjmopiofcbpgaaMkp
import Derived.Test.YtfjmopiofcbpgaaByi
import Derived.Test.YtfjmopiofcbpgaaDrx
import Derived.Test.YtfjmopiofcbpgaaOwb
import Derived.Test.YtfjmopiofcbpgaaNear
import Derived.Test.YtfjmopiofcbpgaaLong
import Derived.Test.YtfjmopiofcbpgaaRepF
import Derived.Test.YtfjmopiofcbpgaaLwk
import Derived.Test.YtfjmopiofcbpgaaOrd
import Derived.Deep.CutRange
namespace Go.Proofs.Ytfjmopiofcbpgaa.fnRepairs
open Go.ChangeShapes Go.WideShapes Go.ChangeAt Go.RowKit
open Go.ChangeMaps (open_string shut_string)
set_option linter.unusedVariables false

set_option maxRecDepth 8000 in
set_option maxHeartbeats 40000000 in
theorem walk (A : Option Addr) (n c : Nat) (l : List UInt8) (w : World) (hin : BytesIn w A n c l) :
    Calls Try.prog 5 #[.slice A n c] w fun e w' => e = .returned (.bool true) ∧ Below w.heap.size w w' := by
  obtain ⟨hl, hnc, hcm, hrd⟩ := hin
  by_cases h1 : 1048576 < n
  · go_enter Try.func5, Try.ntmps5
    go_wp2_with fail
    go_ret
    exact ⟨rfl, Below.refl _ _⟩
  have hmk := makeWord_any A n c w.heap.size 0 8 l w (by decide) (by decide) (by decide) hl (by omega) hrd (Nat.le_refl _)
  have hmp := fun v hr hb => makePairs_any A n c w.heap.size 20 l v (by decide) hl (by omega) hr hb
  have HMK := Lib.hid hmk; have HMP := Lib.hid hmp; have HRD := Lib.hid hrd
  clear hmk hmp hrd
  go_enter Try.func5, Try.ntmps5
  go_wp2_with fail
  refine HMK.out.mono ?_
  rintro e w1 ⟨x, hx, _, hxw, rfl, B1⟩
  go_wp2_with fail
  refine (HMP.out w1 (HRD.out.below B1 (Nat.le_refl _)) B1.size).mono ?_
  rintro e w2 ⟨ss, gs, cs, hs8, hpo, rfl, st, b2⟩
  have B2 := B1.trans (b2.mono B1.size)
  clear b2 B1 HMK HMP HRD hl hnc hcm h1
  have hss : ∀ s ∈ ss, s.size ≤ maxLen := fun s hs => by
    have := prGo_all ss none hpo s hs
    unfold pairW at this
    simp only [Bool.and_eq_true, decide_eq_true_eq] at this
    unfold maxLen; omega
  have hrd2 : ∀ v, Below w2.heap.size w2 v → Rds v v.heap.size (some ⟨gs, 0, none⟩) (ss.map Value.string) := fun v hb => (st.below hb).rds
  have hm9 : ∀ s : ByteArray, s.size ≤ 400 → s.size ≤ maxLen := fun s hs => by unfold maxLen; omega
  have cF := fun (s : ByteArray) v (h : s.size ≤ 400) hb => iFewestChanges_any s ss (some ⟨gs, 0, none⟩) cs v.heap.size v (Nat.le_refl _) (hm9 s h) (by omega) hss (hrd2 v hb)
  have cR := fun (s : ByteArray) v (h : s.size ≤ 400) hb => iRepairWord_any s ss (some ⟨gs, 0, none⟩) cs v.heap.size v (Nat.le_refl _) (hm9 s h) (by omega) hss (hrd2 v hb)
  have cG := fun (s : ByteArray) v (h : s.size ≤ 400) hb => iFillGaps_any s ss (some ⟨gs, 0, none⟩) cs v.heap.size v (Nat.le_refl _) (hm9 s h) (by omega) hss (hrd2 v hb)
  have cA := fun (s : ByteArray) v (h : s.size ≤ 400) hb => iIsAllowed_any s ss (some ⟨gs, 0, none⟩) cs v.heap.size v (Nat.le_refl _) (hm9 s h) (by omega) hss (hrd2 v hb)
  have cU := fun (s : ByteArray) v (h : s.size ≤ 400) hb => iFaultAt_any s ss (some ⟨gs, 0, none⟩) cs v.heap.size v (hm9 s h) (by omega) hss (hrd2 v hb)
  have cC := fun (i : Int) v hb => iCountAllowed_any i ss (some ⟨gs, 0, none⟩) cs v.heap.size v (Nat.le_refl _) (by omega) hss (hrd2 v hb)
  have cL := fun v hb => iLongestAllowed_any ss (some ⟨gs, 0, none⟩) cs v.heap.size v (Nat.le_refl _) (by omega) hss (hrd2 v hb)
  obtain ⟨zs, hzs⟩ : ∃ zs, ss.length = zs := ⟨_, rfl⟩
  rw [hzs] at cF cR cG cA cU cC cL
  rw [hzs]
  have CF := Lib.hid cF; have CR := Lib.hid cR; have CG := Lib.hid cG; have CA := Lib.hid cA; have CU := Lib.hid cU; have CC := Lib.hid cC; have CL := Lib.hid cL; have HPO := Lib.hid hpo; have HXW := Lib.hid hxw
  have hx4 : x.size ≤ 400 := by omega
  have K2 : Below w2.heap.size w2 w2 := Below.refl _ _
  have hqa := rq_allow hpo hxw (by omega)
  have hqf := rq_fault hpo hxw (by omega)
  have hqc := rq_count hpo hxw (by omega) (by omega)
  have key : (0 ≤ fewOf x ss ∧ fewOf x ss ≤ x.size ∧ repairB x ss = true ∧ allowB (repairS x ss) ss = true ∧ (repairS x ss).size ≤ 400 ∧ mmOf (L (repairS x ss)) (L x) = fewOf x ss) ∨ (fewOf x ss = -1 ∧ repairB x ss = false) := by
    by_cases ht : tot false ss (L x) < 1000
    · obtain ⟨_, e2, e3, e4, e5, e6, e7, e8, _⟩ := rq_yes hpo hxw (by omega) ht
      left
      exact ⟨e2, e3, e4, e5, by omega, by rw [mmOf, if_pos ⟨e6, hxw, by rw [L_len, L_len, e7]⟩]; exact e8⟩
    · obtain ⟨e1, e2, _⟩ := rq_no hpo hxw (by omega) ht
      exact .inr ⟨e1, e2⟩
  obtain ⟨f, hf⟩ : ∃ f, fewOf x ss = f := ⟨_, rfl⟩
  obtain ⟨ok, hok⟩ : ∃ ok, repairB x ss = ok := ⟨_, rfl⟩
  obtain ⟨v, hv⟩ : ∃ v, repairS x ss = v := ⟨_, rfl⟩
  obtain ⟨q, hq⟩ : ∃ q, decide (f = 0) = q := ⟨_, rfl⟩
  rw [hf, hok, hv] at key
  rw [hf] at hqa hqf
  rw [hq] at hqa hqf
  rw [hok] at hqc
  have hq2 : (f == 0) = q := by rw [← hq]; exact Bool.eq_iff_iff.2 (by simp)
  have c1 := fun u hb => cF x u hx4 hb
  have c2 := fun u hb => cR x u hx4 hb
  have c3 := fun u hb => cA x u hx4 hb
  have c4 := fun u hb => cU x u hx4 hb
  have c5 := fun u hb => cC (x.size : Int) u hb
  rw [hf] at c1
  rw [hok, hv] at c2
  rw [hqa] at c3
  obtain ⟨F, hF⟩ : ∃ F, faultOf x ss = F := ⟨_, rfl⟩
  obtain ⟨C, hC⟩ : ∃ C, ctV x.size ss = C := ⟨_, rfl⟩
  rw [hF] at c4 hqf
  rw [hC] at c5 hqc
  have hqf2 : (F == -1) = q := by rw [← hqf]; exact Bool.eq_iff_iff.2 (by simp)
  have C1 := Lib.hid c1; have C2 := Lib.hid c2; have C3 := Lib.hid c3; have C4 := Lib.hid c4; have C5 := Lib.hid c5; have KEY := Lib.hid key
  have HQ := Lib.hid hq; have HQA := Lib.hid hqa; have HQC := Lib.hid hqc
  clear c1 c2 c3 c4 c5 key hf hok hv hq hqa hqc hqf hF hC cF cR cG cA cU cC cL hpo hxw hss hrd2 hm9 st hzs
  go_wp2_with fail
  refine (C1.out w2 K2).mono ?_
  rintro e w3 ⟨rfl, b3⟩
  have K3 := K2.trans b3
  clear b3 K2 C1
  go_wp2_with fail
  refine (C2.out w3 K3).mono ?_
  rintro e w4 ⟨rfl, b4⟩
  have K4 := K3.trans (b4.mono K3.size)
  clear b4 K3 C2
  go_upto_region 7 with fail
  go_cut [76] from 41 to 76 (fun cc wx => cc = .bool false ∧ Below w2.heap.size w2 wx)
  case first => as_aux_lemma =>
    --SEG 1
    rcases KEY.out with ⟨f0, f1, rfl, _, _, _⟩ | ⟨rfl, rfl⟩
    · have hC0 : 0 < C := of_decide_eq_true HQC.out.symm
      clear HQC
      go_wp2_with fail
      refine (C3.out _ K4).mono ?_
      rintro e w5 ⟨rfl, b5⟩
      have K5 := K4.trans (b5.mono K4.size)
      go_wp2_with fail
      refine (C4.out _ K5).mono ?_
      rintro e w6 ⟨rfl, d6⟩
      have K6 := K5.trans d6.below
      go_wp2_with fail
      refine (C5.out _ K6).mono ?_
      rintro e w7 ⟨rfl, b7⟩
      have K7 := K6.trans (b7.mono K6.size)
      go_wp2_with fail
      go_meet
      case rel => exact ⟨by first | rfl | exact congrArg Value.bool (decide_eq_false (by omega)) | simp, K7⟩
    · have hC0 : ¬ 0 < C := of_decide_eq_false HQC.out.symm
      clear HQC
      go_wp2_with fail
      refine (C3.out _ K4).mono ?_
      rintro e w5 ⟨rfl, b5⟩
      have K5 := K4.trans (b5.mono K4.size)
      go_wp2_with fail
      refine (C4.out _ K5).mono ?_
      rintro e w6 ⟨rfl, d6⟩
      have K6 := K5.trans d6.below
      go_wp2_with fail
      refine (C5.out _ K6).mono ?_
      rintro e w7 ⟨rfl, b7⟩
      have K7 := K6.trans (b7.mono K6.size)
      go_wp2_with fail
      go_meet
      case rel => exact ⟨by first | rfl | exact congrArg Value.bool (decide_eq_false (by omega)) | simp, K7⟩
    --END
  case rest =>
  obtain ⟨rfl, K7⟩ := hcut
  obtain ⟨w7, rfl⟩ : ∃ z : World, z = wc := ⟨_, rfl⟩
  clear K4 C3 C4 C5 HQC hqf2
  go_upto_region 9 with fail
  go_cut [90] from 77 to 90 (fun cc wx => cc = .bool false ∧ Below w2.heap.size w2 wx)
  case first => as_aux_lemma =>
    --SEG 2
    rcases KEY.out with ⟨f0, f1, rfl, k1, k2, k3⟩ | ⟨rfl, rfl⟩
    · have c6 := fun u hb => CA.out v u k2 hb
      rw [k1] at c6
      have c7 := fun u => iMismatchesOf_any v x (by unfold maxLen; omega) (by unfold maxLen; omega) u
      rw [k3] at c7
      have C6 := Lib.hid c6; have C7 := Lib.hid c7
      clear c6 c7 k1 k3
      go_wp2_with fail
      refine (C6.out _ K7).mono ?_
      rintro e w8 ⟨rfl, b8⟩
      have K8 := K7.trans (b8.mono K7.size)
      go_wp2_with fail
      refine (C7.out _).mono ?_
      rintro e w9 ⟨rfl, d9⟩
      have K9 := K8.trans d9.below
      go_wp2_with fail
      go_meet
      case rel => exact ⟨by first | rfl | simp, K9⟩
    · go_wp2_with fail
      go_meet
      case rel => exact ⟨by first | rfl | simp, K7⟩
    --END
  case rest =>
  obtain ⟨rfl, K9⟩ := hcut
  obtain ⟨w9, rfl⟩ : ∃ z : World, z = wc := ⟨_, rfl⟩
  clear K7
  obtain ⟨K, hK, hKc⟩ : ∃ K : Nat, min x.size 3 = K ∧ min (x.size : Int) 3 = (K : Int) := ⟨_, rfl, by omega⟩
  have hK3 : K ≤ 3 := by omega
  have hKx : K ≤ x.size := by omega
  obtain ⟨p, hp⟩ : ∃ p, x.extract 0 K = p := ⟨_, rfl⟩
  have hpz : p.size = K := by rw [← hp]; simp; omega
  have hpL : L p = (L x).take K := by rw [← hp]; exact L_to x K
  have hpw : isW (L p) = true := by
    have h0 := HXW.out
    rw [hpL]
    unfold isW at h0 ⊢
    simp only [Bool.and_eq_true, List.all_eq_true, decide_eq_true_eq] at h0 ⊢
    exact ⟨fun b hb => h0.1 b (List.mem_of_mem_take hb), by rw [List.length_take]; omega⟩
  have hzl : (laysK 4 K).length ≤ 85 := by
    have h5 : ∀ m, m ≤ 3 → (laysK 4 m).length ≤ 85 := fun m hm => by
      match m, hm with
      | 0, _ => decide +kernel
      | 1, _ => decide +kernel
      | 2, _ => decide +kernel
      | 3, _ => decide +kernel
    exact h5 K hK3
  have hma := fun u => makeAll_k 4 K (by decide) (by decide) (by omega) (by omega) u
  have hfin := fun fe fi h => bs_fin (few := fe) (first := fi) HPO.out hpw (by omega) h
  have hcp := rq_count HPO.out hpw (by omega) (by omega)
  rw [hpz] at hfin hcp
  have hys := fun y h => laysK_size 4 K y h
  obtain ⟨Z, hZ⟩ : ∃ Z, laysK 4 K = Z := ⟨_, rfl⟩
  rw [hZ] at hma hzl hfin hys
  obtain ⟨z, hz⟩ : ∃ z, Z.length = z := ⟨_, rfl⟩
  rw [hz] at hma hzl
  have HMA := Lib.hid hma; have HFIN := Lib.hid hfin; have HCP := Lib.hid hcp; have HYS := Lib.hid hys; have HZ := Lib.hid hz; have HPW := Lib.hid hpw; have HP := Lib.hid hp; have HPZ := Lib.hid hpz
  clear hma hfin hcp hys hz hZ hpw hp hpz hpL hK
  go_wp2_with fail
  refine (HMA.out _).mono ?_
  rintro e w10 ⟨gz, cz, rfl, oz, b10⟩
  have K10 := K9.trans (b10.mono K9.size)
  have OZ := Lib.hid oz
  clear b10 K9 oz HMA
  go_wp2_with fail
  go_loopw [8, 9, 11, 13, 14, 97] (fun ct fi fe _ _ i wv => ∃ (k : Nat) (few : Int) (first : ByteArray), k ≤ z ∧ i = .int .i64 k ∧ ct = .int .i64 (((Z.take k).filter (okW ss K)).length : Nat) ∧ fi = .string first ∧ fe = .int .i64 few ∧ few ≤ 400 ∧ -1 ≤ few ∧ first.size ≤ 400 ∧ BS p ((Z.take k).filter (okW ss K)) few first ∧ Below w2.heap.size w2 wv ∧ Below w10.heap.size w10 wv) (fun _ _ _ _ _ i _ => z - (intOf i).toNat)
  case atStart => exact ⟨0, -1, ⟨#[]⟩, by omega, rfl, rfl, rfl, rfl, by omega, by omega, by decide, .inl ⟨rfl, rfl, rfl⟩, K10, Below.refl _ _⟩
  case round =>
    obtain ⟨k, few, first, hk, rfl, rfl, rfl, rfl, hfe, hfe2, hfi, hbs, hb, hb10⟩ := hrel
    have hcl : ((Z.take k).filter (okW ss K)).length ≤ z := by
      have h2 := List.length_filter_le (okW ss K) (Z.take k)
      rw [List.length_take, HZ.out] at h2; omega
    have HBS := Lib.hid hbs
    clear hbs
    by_cases hlt : k < z
    · as_aux_lemma =>
      --SEG 3
      obtain ⟨y, hy⟩ := some_of_lt (l := Z) (k := k) (by rw [HZ.out]; exact hlt)
      have hc := rds_cell (OZ.out.below hb10).reads (map_at Value.string hy)
      have hyz := HYS.out y (List.mem_of_getElem? hy)
      have hft : (Z.take (k + 1)).filter (okW ss K) = if okW ss K y = true then (Z.take k).filter (okW ss K) ++ [y] else (Z.take k).filter (okW ss K) := by
        rw [List.take_add_one, hy, List.filter_append]
        cases h : okW ss K y <;> simp [h]
      obtain ⟨T, hT⟩ : ∃ T, (Z.take k).filter (okW ss K) = T := ⟨_, rfl⟩
      have HBS2 := HBS.out
      rw [hT] at HBS2 hft hcl
      rw [hT]
      obtain ⟨tl, htl⟩ : ∃ tl, T.length = tl := ⟨_, rfl⟩
      rw [htl] at hcl ⊢
      have HB2 := Lib.hid HBS2; have HFT := Lib.hid hft; have HTL := Lib.hid htl
      clear hy HBS2 hft hT HBS htl
      by_cases hyK : y.size = K
      · have k1 : ((y.size : Int) != (K : Int)) = false := by rw [hyK]; simp
        have ca := fun u hb => CA.out y u (by omega) hb
        obtain ⟨a, ha⟩ : ∃ a, allowB y ss = a := ⟨_, rfl⟩
        rw [ha] at ca
        have CA2 := Lib.hid ca
        have hokw : okW ss K y = a := by unfold okW; rw [decide_eq_true hyK, Bool.true_and, ha]
        have HOK := Lib.hid hokw
        clear ca hokw
        cases a with
        | false =>
          clear ha hyK
          go_wp2_with fail
          refine (CA2.out _ hb).mono ?_
          rintro e w12 ⟨rfl, b12⟩
          have hb2 := hb.trans (b12.mono hb.size)
          have hb11 := hb10.trans (b12.mono hb10.size)
          go_wp2_with fail
          go_roundw
          case rel => exact ⟨k + 1, few, first, by omega, by go_num, by rw [HFT.out, HOK.out, if_neg (by decide), HTL.out], rfl, rfl, hfe, hfe2, hfi, by rw [HFT.out, HOK.out, if_neg (by decide)]; exact HB2.out, hb2, hb11⟩
          case measure => simp [intOf]; omega
        | true =>
          have hyw : isW (L y) = true := by
            unfold allowB repOk at ha
            simp only [Bool.and_eq_true] at ha
            exact ha.1.1.1
          have hd := fun u => iMismatchesOf_any y p (by unfold maxLen; omega) (by have := HPZ.out; unfold maxLen; omega) u
          rw [show mmOf (L y) (L p) = (mism (L y) (L p) : Nat) by rw [mmOf, if_pos ⟨hyw, HPW.out, by rw [L_len, L_len, HPZ.out, hyK]⟩]] at hd
          have hmb := mism_le (L y) (L p)
          rw [L_len] at hmb
          have htk := @BS.take p T few first y HB2.out
          have hst := @BS.stay p T few first y HB2.out
          obtain ⟨d, hdd⟩ : ∃ d : Nat, mism (L y) (L p) = d := ⟨_, rfl⟩
          rw [hdd] at hd hmb htk hst
          obtain ⟨lt1, hlt1⟩ : ∃ b, decide (L y < L first) = b := ⟨_, rfl⟩
          have hbl : Op.bytesLess y.toList first.toList = lt1 := by rw [ByteArray.toList_eq, ByteArray.toList_eq, bytesLess_eq]; exact hlt1
          have HD := Lib.hid hd; have HTK := Lib.hid htk; have HST := Lib.hid hst; have HLT := Lib.hid hlt1
          have hpx : x.extract 0 K = p := HP.out
          clear hd hdd ha hyw htk hst hlt1 hyK
          have hlen : (T ++ [y]).length = tl + 1 := by rw [List.length_append, HTL.out]; rfl
          have HLN := Lib.hid hlen; have HPX := Lib.hid hpx
          clear hlen hpx
          have taken : (few < 0 ∨ (d : Int) < few ∨ (d : Int) = few ∧ lt1 = true) → BS p (T ++ [y]) d y := fun h => HTK.out (by
            rcases h with h | h | ⟨h, h2⟩
            · exact .inl h
            · exact .inr (.inl h)
            · exact .inr (.inr ⟨h, of_decide_eq_true (by rw [HLT.out]; exact h2)⟩))
          have stayed : ¬ few < 0 → ¬ (d : Int) < few → ¬ ((d : Int) = few ∧ lt1 = true) → BS p (T ++ [y]) few first := fun h0 h1 h2 => HST.out h0 h1 (fun h => h2 ⟨h.1, by rw [← HLT.out]; exact decide_eq_true h.2⟩)
          have HTA := Lib.hid taken; have HSTA := Lib.hid stayed
          clear taken stayed HTK HST HLT
          have hsl : ∀ u, Calls Try.prog 23 #[.string y, .string (x.extract 0 K)] u fun e w' => e = .returned (.int .i64 d) ∧ Dr u w' := fun u => by rw [HPX.out]; exact HD.out u
          have HSL := Lib.hid hsl
          clear hsl HD
          go_wp2_with fail
          refine (CA2.out _ hb).mono ?_
          rintro e w12 ⟨rfl, b12⟩
          have hb2 := hb.trans (b12.mono hb.size)
          have hb11 := hb10.trans (b12.mono hb10.size)
          clear b12
          go_wp2_with fail
          refine (HSL.out _).mono ?_
          rintro e w13 ⟨rfl, d13⟩
          have hb3 := hb2.trans d13.below
          have hb12 := hb11.trans d13.below
          clear d13 hb2 hb11 HSL CA2
          by_cases g1 : few < 0
          · go_wp2_with fail
            go_roundw
            case rel => exact ⟨k + 1, d, y, by omega, by go_num, by rw [HFT.out, HOK.out, if_pos rfl, HLN.out]; go_num, rfl, rfl, by omega, by omega, by omega, by rw [HFT.out, HOK.out, if_pos rfl]; exact HTA.out (.inl g1), hb3, hb12⟩
            case measure => simp [intOf]; omega
          · by_cases g2 : (d : Int) < few
            · go_wp2_with fail
              go_roundw
              case rel => exact ⟨k + 1, d, y, by omega, by go_num, by rw [HFT.out, HOK.out, if_pos rfl, HLN.out]; go_num, rfl, rfl, by omega, by omega, by omega, by rw [HFT.out, HOK.out, if_pos rfl]; exact HTA.out (.inr (.inl g2)), hb3, hb12⟩
              case measure => simp [intOf]; omega
            · by_cases g3 : (d : Int) = few
              · subst g3
                cases lt1 with
                | true =>
                  go_wp2_with fail
                  go_roundw
                  case rel => exact ⟨k + 1, d, y, by omega, by go_num, by rw [HFT.out, HOK.out, if_pos rfl, HLN.out]; go_num, rfl, rfl, by omega, by omega, by omega, by rw [HFT.out, HOK.out, if_pos rfl]; exact HTA.out (.inr (.inr ⟨by first | rfl | trivial, by first | rfl | trivial⟩)), hb3, hb12⟩
                  case measure => simp [intOf]; omega
                | false =>
                  go_wp2_with fail
                  go_roundw
                  case rel => exact ⟨k + 1, d, first, by omega, by go_num, by rw [HFT.out, HOK.out, if_pos rfl, HLN.out]; go_num, rfl, rfl, by omega, by omega, hfi, by rw [HFT.out, HOK.out, if_pos rfl]; exact HSTA.out g1 g2 (fun h => by cases h.2), hb3, hb12⟩
                  case measure => simp [intOf]; omega
              · have g4 : ((d : Int) == few) = false := beq_eq_false_iff_ne.2 g3
                have G3 := Lib.hid g3
                clear g3
                go_wp2_with fail
                go_roundw
                case rel => exact ⟨k + 1, few, first, by omega, by go_num, by rw [HFT.out, HOK.out, if_pos rfl, HLN.out]; go_num, rfl, rfl, hfe, hfe2, hfi, by rw [HFT.out, HOK.out, if_pos rfl]; exact HSTA.out g1 g2 (fun h => G3.out h.1), hb3, hb12⟩
                case measure => simp [intOf]; omega
      · have k1 : ((y.size : Int) != (K : Int)) = true := by rw [bne_iff_ne]; omega
        have hokw : okW ss K y = false := by unfold okW; rw [decide_eq_false hyK]; rfl
        have HOK := Lib.hid hokw
        clear hokw hyK
        go_wp2_with fail
        go_roundw
        case rel => exact ⟨k + 1, few, first, by omega, by go_num, by rw [HFT.out, HOK.out, if_neg (by decide), HTL.out], rfl, rfl, hfe, hfe2, hfi, by rw [HFT.out, HOK.out, if_neg (by decide)]; exact HB2.out, hb, hb10⟩
        case measure => simp [intOf]; omega
      --END
    · have hkz : Z.take k = Z := List.take_of_length_le (by rw [HZ.out]; omega)
      have hbs := HBS.out
      rw [hkz] at hbs hcl
      rw [hkz]
      obtain ⟨h1, h2, h3⟩ := HFIN.out few first hbs
      obtain ⟨ct, hct⟩ : ∃ ct, (Z.filter (okW ss K)).length = ct := ⟨_, rfl⟩
      rw [hct] at h3 hcl ⊢
      have hcp := HCP.out
      rw [← h3] at hcp
      have hpz := HPZ.out
      have cf := fun u hb => CF.out p u (by omega) hb
      have cr := fun u hb => CR.out p u (by omega) hb
      have cc := fun u hb => CC.out (K : Int) u hb
      rw [← h1] at cf
      rw [← h2, hcp] at cr
      rw [← h3] at cc
      rw [← HP.out] at cf cr
      have CF2 := Lib.hid cf; have CR2 := Lib.hid cr; have CC2 := Lib.hid cc
      clear cf cr cc hcp hpz h1 h2 h3 hct hbs hkz HBS HFIN HCP HYS HZ OZ hb10
      go_wp2_with fail
      clear hlt hk
      refine (CR2.out _ hb).mono ?_
      rintro e w11 ⟨rfl, b11⟩
      have K11 := hb.trans (b11.mono hb.size)
      clear b11 hb CR2
      go_upto_region 28 with fail
      go_cut [172] from 148 to 172 (fun cc wx => cc = .bool false ∧ Below w2.heap.size w2 wx)
      case first => as_aux_lemma =>
        --SEG 4
        go_wp2_with fail
        refine (CC2.out _ K11).mono ?_
        rintro e w12 ⟨rfl, b12⟩
        have K12 := K11.trans (b12.mono K11.size)
        go_wp2_with fail
        refine (CF2.out _ K12).mono ?_
        rintro e w13 ⟨rfl, b13⟩
        have K13 := K12.trans (b13.mono K12.size)
        go_wp2_with fail
        go_meet
        case rel => exact ⟨by first | rfl | simp, K13⟩
        --END
      case rest =>
      obtain ⟨rfl, K13⟩ := hcut
      obtain ⟨w13, rfl⟩ : ∃ z : World, z = wc := ⟨_, rfl⟩
      clear K11 CC2 CF2
      have hlg := lg_ok HPO.out
      have cl := CL.out
      obtain ⟨G, hG⟩ : ∃ G, lgV ss = G := ⟨_, rfl⟩
      rw [hG] at hlg cl
      have CL2 := Lib.hid cl; have HLG := Lib.hid hlg
      clear cl hlg hG CL
      go_wp2_with fail
      refine (CL2.out _ K13).mono ?_
      rintro e w14 ⟨rfl, b14⟩
      have K14 := K13.trans (b14.mono K13.size)
      clear b14 K13 CL2
      go_upto_region 31 with fail
      go_cut [206] from 175 to 206 (fun cc wx => cc = .bool false ∧ Below w2.heap.size w2 wx)
      case first => as_aux_lemma =>
        --SEG 5
        rcases HLG.out with ⟨rfl, h20⟩ | ⟨g1, g2, g3, g4⟩
        · have c20 := fun u hb => CC.out 20 u hb
          obtain ⟨C2, hC2⟩ : ∃ C2, ctV 20 ss = C2 := ⟨_, rfl⟩
          rw [hC2] at c20 h20
          have C20 := Lib.hid c20
          have k1 : (C2 == 0) = false := beq_eq_false_iff_ne.2 (by omega)
          clear c20 hC2
          go_wp2_with fail
          refine (C20.out _ K14).mono ?_
          rintro e w15 ⟨rfl, b15⟩
          have K15 := K14.trans (b15.mono K14.size)
          go_wp2_with fail
          go_meet
          case rel => exact ⟨by first | rfl | simp, K15⟩
        · have ca := fun u hb => CC.out G u hb
          have cb := fun u hb => CC.out (G + 1) u hb
          obtain ⟨C2, hC2⟩ : ∃ C2, ctV G ss = C2 := ⟨_, rfl⟩
          rw [hC2] at ca g3
          rw [g4] at cb
          have CA2 := Lib.hid ca; have CB2 := Lib.hid cb
          have k1 : (C2 == 0) = false := beq_eq_false_iff_ne.2 g3
          have k2 : (G != 40) = true := by rw [bne_iff_ne]; omega
          have k3 : (G == 40) = false := beq_eq_false_iff_ne.2 (by omega)
          clear ca cb hC2 g3 g4
          go_wp2_with fail
          refine (CA2.out _ K14).mono ?_
          rintro e w15 ⟨rfl, b15⟩
          have K15 := K14.trans (b15.mono K14.size)
          go_wp2_with fail
          refine (CB2.out _ K15).mono ?_
          rintro e w16 ⟨rfl, b16⟩
          have K16 := K15.trans (b16.mono K15.size)
          go_wp2_with fail
          go_meet
          case rel => exact ⟨by first | rfl | (simp; done) | (simp; omega), K16⟩
        --END
      case rest =>
      obtain ⟨rfl, K16⟩ := hcut
      obtain ⟨w16, rfl⟩ : ∃ z : World, z = wc := ⟨_, rfl⟩
      clear K14 HLG CC
      have hcv : ∀ v : World, (convert 9 22 (.string x)).run Try.prog v = .ok (.slice (some ⟨v.heap.size, 0, none⟩) x.size (grownCap v x.size 0 5)) (Lib.bytesWorld v 5 x) :=
        fun v => Lib.run_convert_string_bytes v _ _ _ x Try.underlying9 Try.underlying22 Try.underlying5
      have br0 := BR.conv w16 5 x (by unfold maxLen; omega)
      have bw0 := Lib.bytesWorld_below w16 5 x
      go_wp2_with fail
      have br1 := br0.lower K16.size
      have K17 := K16.trans (bw0.mono K16.size)
      clear br0 bw0 hcv K16
      generalize w16.heap.size = g0 at br1 ⊢
      generalize grownCap w16 x.size 0 5 = c0 at br1 ⊢
      generalize Lib.bytesWorld w16 5 x = w17 at br1 K17 ⊢
      have BR1 := Lib.hid br1
      clear br1
      go_wp2_with fail
      go_loopw [19] (fun i wv => ∃ k : Nat, k % 2 = 0 ∧ k ≤ x.size + 1 ∧ i = .int .i64 k ∧ BR wv w2.heap.size 5 g0 c0 (gp (L x) k) ∧ Below w2.heap.size w2 wv) (fun i _ => x.size + 2 - (intOf i).toNat)
      case atStart => exact ⟨0, rfl, by omega, rfl, by rw [gp_zero]; exact BR1.out, K17⟩
      case round =>
        clear BR1 K17
        obtain ⟨k, hk2, hk, rfl, hbr, hb⟩ := hrel
        by_cases hlt : k < x.size
        · as_aux_lemma =>
          --SEG 6
          obtain ⟨b, hbk⟩ := some_of_lt (l := gp (L x) k) (k := k) (by rw [gp_len, L_len]; exact hlt)
          have hcell := hbr.cell hbk
          have hfree := hbr.free (i := k) (by rw [gp_len, L_len]; exact hlt)
          have hset := hbr.set (i := k) (by rw [gp_len, L_len]; exact hlt) 63
          rw [gp_set (L x) k hk2 (by rw [L_len]; exact hlt)] at hset
          have hB0 := hbr.1
          have hb2 : Below w2.heap.size w2 (wr.setCell ⟨g0, k, none⟩ (.int .u8 ((63 : UInt8).toNat : Int))) := hb.setCell hB0 _
          have HS := Lib.hid hset; have HB2 := Lib.hid hb2
          clear hset hb2 hbk hbr hB0
          have hk0 : (0 : Int) ≤ (k : Int) := by omega
          have hkx : (k : Int) < (x.size : Int) := by omega
          go_wp2_with fail
          go_roundw
          case rel => exact ⟨k + 2, by omega, by omega, by go_num, HS.out, HB2.out⟩
          case measure => simp [intOf]; omega
          --END
        · have hlg : (gp (L x) k).length = x.size := by rw [gp_len, L_len]
          have hcv := hbr.reads.conv (P := Try.prog) hlg 22 9 5 c0 Try.underlying22 Try.underlying5 Try.underlying9
          obtain ⟨g, hg⟩ : ∃ g, strOf (gp (L x) k) = g := ⟨_, rfl⟩
          have hgL : L g = gp (L x) k := by rw [← hg, strOf_L]
          have hgz : g.size ≤ 400 := by rw [← L_len, hgL, hlg]; omega
          obtain ⟨fa, fb⟩ := fill_ok HPO.out HXW.out (by omega) k (by omega) hgL
          have cg := fun u hb => CG.out g u hgz hb
          obtain ⟨y, hy⟩ : ∃ y, fillS g ss = y := ⟨_, rfl⟩
          obtain ⟨fi, hfi⟩ : ∃ fi, fillB g ss = fi := ⟨_, rfl⟩
          rw [hy, hfi] at fa fb cg
          rw [hg] at hcv
          have FA := Lib.hid fa; have FB := Lib.hid fb; have CG2 := Lib.hid cg
          clear fa fb cg hy hfi hgL hg hlg hbr hgz
          go_wp2_with fail
          clear hlt hk hcv
          refine (CG2.out _ hb).mono ?_
          rintro e w18 ⟨rfl, b18⟩
          have K18 := hb.trans (b18.mono hb.size)
          clear b18 hb CG2
          go_upto_region 39 with fail
          go_cut [238] from 225 to 238 (fun cc wx => cc = .bool false ∧ wx = w18)
          case first => as_aux_lemma =>
            --SEG 7
            rcases KEY.out with ⟨f0, f1, rfl, _, _, _⟩ | ⟨rfl, rfl⟩
            · have hqq := HQ.out
              have hqa := HQA.out
              cases q with
              | false =>
                clear hqq hqa
                go_wp2_with fail
                go_meet
                case rel => exact ⟨by first | rfl | (simp; done), by first | trivial | rfl⟩
              | true =>
                obtain ⟨rfl, h2⟩ := FA.out hqa
                have h3 : (Op.bytesLess y.toList x.toList || y.toList == x.toList) = true := by
                  have h4 := gtS_iff y x
                  rw [decide_eq_false h2] at h4
                  unfold gtS at h4
                  cases hh : (Op.bytesLess y.toList x.toList || y.toList == x.toList) with
                  | true => rfl
                  | false => rw [hh] at h4; cases h4
                clear hqq hqa h2
                go_wp2_with fail
                go_meet
                case rel => exact ⟨by first | rfl | (simp; done), by first | trivial | rfl⟩
            · go_wp2_with fail
              go_meet
              case rel => exact ⟨by first | rfl | (simp; done), by first | trivial | rfl⟩
            --END
          case rest =>
          obtain ⟨rfl, hwc⟩ := hcut
          subst hwc
          go_upto_if 239 with fail
          go_cut [] from 240 to 263 (fun wx => Below w2.heap.size w2 wx)
          case first => as_aux_lemma =>
            --SEG 8
            cases fi with
            | false =>
              go_wp2_with fail
              go_meet
              case rel => exact K18
            | true =>
              obtain ⟨z1, z2, z3, z4⟩ := FB.out rfl
              have ca := fun u hb => CA.out y u (by omega) hb
              rw [z3] at ca
              have CA2 := Lib.hid ca; have Z4 := Lib.hid z4
              have k1 : ((y.size : Int) != (x.size : Int)) = false := by rw [z1]; simp
              have z5 : y.size ≤ x.size := by omega
              have z6 : x.size ≤ y.size := by omega
              clear ca z1 z2 z3 z4
              go_wp2_with fail
              refine (CA2.out _ K18).mono ?_
              rintro e w19 ⟨rfl, b19⟩
              have K19 := K18.trans (b19.mono K18.size)
              clear b19 K18 CA2
              go_wp2_with fail
              go_loopw [22] (fun i wv => ∃ k : Nat, k % 2 = 1 ∧ k ≤ x.size + 2 ∧ i = .int .i64 k ∧ Dr w19 wv) (fun i _ => x.size + 3 - (intOf i).toNat)
              case atStart => exact ⟨1, rfl, by omega, rfl, Dr.refl _⟩
              case round =>
                obtain ⟨k, hk2, hk, rfl, hd⟩ := hrel
                by_cases hlt : k < x.size
                · have h4 := Z4.out k hk2
                  obtain ⟨b, hb⟩ : ∃ b : Int, ((x[k]'hlt).toNat : Int) = b := ⟨_, rfl⟩
                  have hb2 : ((y[k]'(by omega)).toNat : Int) = b := by
                    rw [← hb]
                    have e1 : (L y)[k]? = some (y[k]'(by omega)) := by rw [List.getElem?_eq_getElem (by rw [L_len]; omega)]; rfl
                    have e2 : (L x)[k]? = some (x[k]'hlt) := by rw [List.getElem?_eq_getElem (by rw [L_len]; omega)]; rfl
                    rw [e1, e2] at h4
                    injection h4 with h4
                    rw [h4]
                  have hk0 : (0 : Int) ≤ (k : Int) := by omega
                  have hkx : (k : Int) < (x.size : Int) := by omega
                  have hky : (k : Int) < (y.size : Int) := by omega
                  clear h4
                  go_wp2_with fail
                  go_quiet (fail)
                  go_wp2_with fail
                  go_roundw
                  case rel => exact ⟨k + 2, by omega, by omega, by go_num, hd.drewN _⟩
                  case measure => simp [intOf]; omega
                · have K20 := K19.trans hd.below
                  go_wp2_with fail
                  go_meet
                  case rel => exact K20
            --END
          case rest =>
          obtain ⟨w20, rfl⟩ : ∃ z : World, z = wc := ⟨_, rfl⟩
          have K20 := hcut
          clear hcut K18 FA FB
          obtain ⟨fw1, fw2⟩ := fill_word HPO.out HXW.out (by omega)
          have cg := fun u hb => CG.out x u hx4 hb
          have hqa := rq_allow HPO.out HXW.out (by omega)
          rw [← hqa, HQA.out] at fw1
          rw [fw1] at cg fw2
          have cg2 : ∀ u, Below w2.heap.size w2 u → Calls Try.prog 44 #[.string x, .slice (some ⟨gs, 0, none⟩) zs cs] u fun e w' => ∃ s', (q = true → s' = x) ∧ e = .returned (.tuple #[.string s', .bool q]) ∧ Below u.heap.size u w' := fun u hb => (cg u hb).mono fun e w' ⟨h1, h2⟩ => ⟨_, fw2, h1, h2⟩
          have CG3 := Lib.hid cg2
          clear cg cg2 fw1 fw2 hqa CG
          go_wp2_with fail
          refine (CG3.out _ K20).mono ?_
          rintro e w21 ⟨s', hs', rfl, b21⟩
          have K21 := K20.trans (b21.mono K20.size)
          have B21 := B2.trans (K21.mono B2.size)
          clear b21 K20 K21 CG3
          cases q with
          | true =>
            have := hs' rfl
            subst this
            go_wp2_with fail
            go_ret
            exact ⟨by first | rfl | simp, B21⟩
          | false =>
            go_wp2_with fail
            go_ret
            exact ⟨by first | rfl | simp, B21⟩

set_option maxRecDepth 100000 in
theorem lifted (os : Os) (started : os.Started) (H : Type) (enc : TypeId × Value → H) :
    ReturnsInHanded {} Try.checked os 5 .any (Rows.fnRepairsSpec.pre6 enc Try.prog Try.f5 Rows.fnRepairsRow.domain false) (Rows.fnRepairsSpec.post enc Try.prog Try.f5 false true false false) := by
  refine returnsInHanded_of_change (C := Try.checked) own started (by kernel_rfl) Try.func5
    (ChangeSpec.witness6 (enc := enc) (C := Try.checked) false ⟨#[], #[.slice none 0 0], []⟩ 8 (by kernel_rfl) (by kernel_rfl) (by kernel_rfl) (by kernel_rfl)) ?_
  intro W base args ds gs before hval0 hW hcnd _
  have hval : ∀ (j : Nat) t v, Try.f5.params[j]? = some t → args[j]? = some v → Value.okWide Try.prog W .any base t v := hval0
  have hW' := hW
  obtain ⟨p, q, hA0, hV, rfl, hfz, hnd⟩ := hW
  have hA : DataW.TrodAll enc Try.prog W 0 (fun _ => true) true Try.f5.params.toList args.toList ds p := hA0
  rw [Try.params5] at hA hval
  obtain ⟨v0, vs0, d0, ds0, p0, q0, hargs, rfl, rfl, h0, r0⟩ := trodAll_cons hA
  obtain ⟨rfl, rfl, rfl⟩ := trodAll_nil r0
  obtain rfl : args = #[v0] := by cases args; simp_all
  obtain ⟨rfl, rfl⟩ := trodVars_none hV
  obtain ⟨s0, len0, cap0, rfl⟩ := okWide_slice Try.underlying22 (hval 0 22 v0 rfl rfl)
  have k0 := h0
  have lt0 : ∀ x ∈ p0, x.block < W.heap.size := by obtain ⟨m, hm⟩ := k0; exact DataW.trod_lt m _ _ _ hm
  obtain ⟨z0, w0⟩ : ∃ zs, BytesIn W s0 len0 cap0 zs := bytes_in Try.underlying22 Try.underlying5 (by kernel_rfl) h0 lt0
  clear hA0 hval0
  refine (walk s0 len0 cap0 z0 W w0).mono fun e W' ⟨he, bel⟩ => ?_
  subst he
  exact ⟨_, rfl, _, _, _, [], _, [], hW', trodAll_mk1 (shut_bool Try.underlying4 _), (trodAll_cons_mk (Below.trod laidOut (by kernel_rfl) (of_decide_eq_true (by kernel_rfl)) k0 bel lt0) trodAll_mk0), rfl, bel.frame _, fun h => by cases h⟩

theorem over : Rows.fnRepairsRow.holds Try.pinned (OpenSpec.ofChange Rows.fnRepairsSpec) :=
  OpenClaim.holds_of_wide 5 Try.f5 rfl rfl rfl rfl rfl rfl rfl ⟨rfl, rfl, rfl, rfl, rfl⟩ rfl rfl rfl rfl rfl (by kernel_rfl) Try.func5 (by kernel_rfl)
    (of_decide_eq_true (by kernel_rfl)) (by unfold Func.isWrapper; first | (rw [if_pos (by decide +kernel)]; kernel_rfl) | (rw [if_neg (by decide +kernel)]; exact ⟨rfl, rfl⟩))
    (fun os started H enc _ => lifted os started H enc)

theorem proved : Rows.FnRepairsSaid := over
#print axioms proved
end Go.Proofs.Ytfjmopiofcbpgaa.fnRepairs
