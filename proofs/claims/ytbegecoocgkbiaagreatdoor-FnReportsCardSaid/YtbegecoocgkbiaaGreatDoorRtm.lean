/- DerivedWord, ReturnLine, both. No condition but the bounds. -/
import Derived.Test.YtbegecoocgkbiaaGreatDoorM39
namespace Go.Proofs.YtbegecoocgkbiaaGreatDoor
open Go.RowKit
set_option linter.unusedVariables false

theorem ret_word {s f : ByteArray} (h : 0 < (plsV s f).length) : s.size ≤ 400 := by
  have := placed_ok h
  unfold plOk at this
  simp only [Bool.and_eq_true] at this
  exact isW_size this.1.1
set_option maxRecDepth 4000 in
set_option maxHeartbeats 1000000 in
theorem iDerivedWord_any (s f : ByteArray) (hs : s.size ≤ maxLen) (hf : f.size ≤ maxLen) (w : World) :
    Calls Tryz.prog 109 #[.string s, .string f] w fun e w' => e = .returned (.tuple #[.string (drS s f), .bool (drB s f)]) ∧ Below w.heap.size w w' := by
  obtain ⟨m, hm⟩ : ∃ m, (fsL (retA s f)).length = m := ⟨_, rfl⟩
  obtain ⟨q, hq⟩ : ∃ q, (retA s f).length = q := ⟨_, rfl⟩
  have hq4 := retA_len s f
  rw [hq] at hq4
  have hc := iReturnWords_any s f hs hf w
  rw [hm] at hc
  have hp := fun w => isPlaced_any s f hs hf w
  obtain ⟨pb, hpb⟩ : ∃ pb, decide (0 < (plsV s f).length) = pb := ⟨_, rfl⟩
  have hok : pb = true → plOk s f = true := fun h => placed_ok (of_decide_eq_true (hpb.trans h))
  have hdb : drB s f = (pb && decide (m ≤ 4)) := by rw [drB, hpb, hm]
  rw [hpb] at hp
  have HDB := Lib.hid hdb; have HC := Lib.hid hc; have HP := Lib.hid hp; have HM := Lib.hid hm; have HQ := Lib.hid hq; have HOK := Lib.hid hok
  clear hdb hc hp hm hq hok hpb
  cases pb
  · have hno : drB s f = false := by rw [HDB.out]; rfl
    have HS := Lib.hid (drS_no hno); have HNO := Lib.hid hno
    clear hno
    go_enter Tryz.func109, Tryz.ntmps109
    go_wp2_with fail
    refine HC.out.mono ?_
    rintro e w1 ⟨A, c, rfl, o1, b1⟩
    clear o1
    go_wp2_with fail
    refine (HP.out _).mono ?_
    rintro e w2 ⟨rfl, b2⟩
    go_wp2_with fail
    go_ret2
    exact ⟨by rw [HS.out, HNO.out]; rfl, b1.trans (b2.mono b1.size)⟩
  · by_cases h4 : 4 < m
    · have hno : drB s f = false := by rw [HDB.out, decide_eq_false (show ¬ m ≤ 4 by omega), Bool.and_false]
      have HS := Lib.hid (drS_no hno); have HNO := Lib.hid hno
      clear hno
      go_enter Tryz.func109, Tryz.ntmps109
      go_wp2_with fail
      refine HC.out.mono ?_
      rintro e w1 ⟨A, c, rfl, o1, b1⟩
      clear o1
      go_wp2_with fail
      refine (HP.out _).mono ?_
      rintro e w2 ⟨rfl, b2⟩
      go_wp2_with fail
      go_ret2
      exact ⟨by rw [HS.out, HNO.out]; rfl, b1.trans (b2.mono b1.size)⟩
    · have hyes : drB s f = true := by rw [HDB.out, decide_eq_true (show m ≤ 4 by omega)]; rfl
      have HS := Lib.hid (drS_yes hyes); have HYES := Lib.hid hyes
      have hro := fun w => returnsOf_any s f (HOK.out rfl) w
      rw [HQ.out] at hro
      have HRO := Lib.hid hro
      clear hyes hro
      go_enter Tryz.func109, Tryz.ntmps109
      go_wp2_with fail
      refine HC.out.mono ?_
      rintro e w1 ⟨A, c, rfl, o1, b1⟩
      have HO1 := Lib.hid o1; clear o1
      go_wp2_with fail
      refine (HP.out _).mono ?_
      rintro e w2 ⟨rfl, b2⟩
      have HK := Lib.hid (HO1.out.below b2).reads
      have b12 := b1.trans (b2.mono b1.size)
      have z2 := b12.size
      clear b1 b2 HO1
      go_wp2_with fail
      refine (HRO.out _).mono ?_
      rintro e w3 ⟨A3, c3, rfl, o3, b3⟩
      have b23 : Below w2.heap.size w2 w3 := ((Below.refl _ _).alloc (Nat.le_refl _) _).trans (b3.mono (by simp))
      have hout : Own w3 w2.heap.size 5 (.slice (some ⟨w2.heap.size, 0, none⟩) 0 0) (byV []) := (Own.empty (Nat.le_refl _)).below b3
      have hapo : Ap (.slice (some ⟨w2.heap.size, 0, none⟩) 0 0) (.slice A3 q c3) := ap_old o3 (by simp)
      have HO3 := Lib.hid (o3.lower (B' := w2.heap.size) (by simp)); have HOUT := Lib.hid hout; have HAP := Lib.hid hapo
      clear o3 hout hapo b3
      go_wp2_with fail
      go_loopw [7, 9, 27] (fun v _ i wr => ∃ k : Nat, ∃ A c, k ≤ q ∧ i = .int .i64 k ∧ v = .slice A k c ∧ Own wr w2.heap.size 5 (.slice A k c) (byV ((drL s f).take k)) ∧ Own wr w2.heap.size 9 (.slice A3 q c3) ((retA s f).map Value.string) ∧ Ap (.slice A k c) (.slice A3 q c3) ∧ Below w2.heap.size w2 wr) (fun _ _ i _ => q - (intOf i).toNat)
      case atStart => exact ⟨0, _, _, by omega, rfl, rfl, HOUT.out, HO3.out, HAP.out, b23⟩
      case round =>
        clear b23 HOUT HAP
        obtain ⟨k, Ao, co, hk, rfl, rfl, hown, hoa, hap, hbel⟩ := hrel
        have HO := Lib.hid hown; have HOA := Lib.hid hoa; have HA2 := Lib.hid hap
        clear hown hoa hap
        by_cases hlt : k < q
        · obtain ⟨x, hx⟩ := some_of_lt (l := retA s f) (k := k) (by rw [HQ.out]; exact hlt)
          obtain ⟨ad, hae, hcell⟩ := HOA.out.reads.at_ (map_at Value.string hx)
          subst hae
          have hix := fsL_ix (List.mem_of_getElem? hx)
          rw [HM.out] at hix
          have htk := drL_take hx
          have hct := indexS_any (fsL (retA s f)) x A c _ wr (by rw [HM.out]; omega) (HK.out.below hbel (Nat.le_refl _))
          rw [HM.out] at hct
          obtain ⟨z, hz⟩ : ∃ z, atIx (fsL (retA s f)) x = z := ⟨_, rfl⟩
          rw [hz] at hct hix htk
          obtain ⟨j, rfl⟩ := Int.eq_ofNat_of_zero_le hix.1
          have hj4 : j < 4 := by omega
          have hj4' : (j : Int) < 4 := by omega
          rw [Int.toNat_natCast] at htk
          have hab : (({ data := #[97, 98, 99, 100] } : ByteArray))[j]'hj4 = ltr j := abc_ix j hj4
          have hl3 : (byV ((drL s f).take k)).length = k := by rw [byV_length, List.length_take, drL_len, HQ.out]; omega
          have HL3 := Lib.hid hl3; have HTK := Lib.hid htk; have HCT := Lib.hid hct
          have hk9 : k < 4294967296 := by omega
          clear hx hix htk hct hz hl3
          go_wp2_with fail
          refine HCT.out.mono ?_
          rintro e w4 ⟨rfl, d4⟩
          have HOQ := Lib.hid (HO.out.dr d4); have HOQA := Lib.hid (HOA.out.dr d4)
          have hbel4 := hbel.trans d4.below
          have hsz := hbel4.size
          go_wp2_with (at_builtin; refine wp_append2 rfl (.tmp 31) (.tmp 36) 22 rfl _ 1 Tryz.underlying22 info_u8 rfl rfl HOQ.out _ rfl rfl k HL3.out hk9 (by decide) hsz ?_)
          intro A' c' w5 hown5 hbel5 hsz5 hbes
          rw [byV_snoc, ← HTK.out] at hown5
          have HO5 := Lib.hid hown5
          have HB1 := Lib.hid (hbes _ _ _ _ HOQA.out HA2.out)
          clear hown5 hbes
          go_wp2_with fail
          go_roundw
          case rel => exact ⟨k + 1, A', c', by omega, by go_num, rfl, HO5.out, HB1.out.1, HB1.out.2, hbel4.trans hbel5⟩
          case measure => simp [intOf]; omega
        · have hkq : k = q := by omega
          have h1 : (drL s f).take k = drL s f := List.take_of_length_le (by rw [drL_len, HQ.out]; omega)
          have HO2 := HO.out
          rw [h1] at HO2
          have hcv := HO2.reads.conv (P := Tryz.prog) ((drL_len s f).trans (HQ.out.trans hkq.symm)) 22 9 5 co Tryz.underlying22 Tryz.underlying5 Tryz.underlying9
          clear HO2 h1 hkq
          go_wp2_with fail
          go_ret2
          exact ⟨by rw [HS.out, HYES.out]; rfl, b12.trans (hbel.mono z2)⟩
end Go.Proofs.YtbegecoocgkbiaaGreatDoor
