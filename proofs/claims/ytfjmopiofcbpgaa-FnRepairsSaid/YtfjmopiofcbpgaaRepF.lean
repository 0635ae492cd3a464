/- FewestChanges, RepairWord, FillGaps, both. No condition but the bounds. -/
import Derived.Test.YtfjmopiofcbpgaaRepT
namespace Go.Proofs.Ytfjmopiofcbpgaa
open Go.RowKit
set_option linter.unusedVariables false

theorem tot_bd (st : Bool) (ss : List ByteArray) (l : List UInt8) : 0 ≤ tot st ss l ∧ tot st ss l ≤ 1000 := by
  unfold tot; split
  · omega
  · exact total_bd st ss l
def fewOf (s : ByteArray) (ss : List ByteArray) : Int := if repOk s ss = true then totN false ss (L s) else -1
theorem repOk_40 {s : ByteArray} {ss : List ByteArray} (h : repOk s ss = true) : s.size ≤ 40 := by
  unfold repOk at h; simp at h; exact h.1.2
def repairS (s : ByteArray) (ss : List ByteArray) : ByteArray := if repOk s ss = true then repS false ss (L s) else ByteArray.empty
def repairB (s : ByteArray) (ss : List ByteArray) : Bool := repOk s ss && decide (0 ≤ totN false ss (L s))
def fillOk (s : ByteArray) (ss : List ByteArray) : Bool := decide (s.size ≤ 40) && pairsOk ss && (L s).all (fun b => b == 63 || okc b)
def fillB (s : ByteArray) (ss : List ByteArray) : Bool := fillOk s ss && decide (tot false ss (L s) ≤ 0)
def fillS (s : ByteArray) (ss : List ByteArray) : ByteArray := if fillB s ss = true then repS false ss (L s) else ByteArray.empty

set_option maxHeartbeats 400000 in
theorem iFewestChanges_any (s : ByteArray) (ss : List ByteArray) (A : Option Addr) (c B : Nat) (w : World) (hB : B ≤ w.heap.size) (hs : s.size ≤ maxLen) (hn : ss.length ≤ 4294967296) (hsz : ∀ s ∈ ss, s.size ≤ maxLen) (hrd : Rds w B A (ss.map Value.string)) :
    Calls Try.prog 38 #[.string s, .slice A ss.length c] w fun e w' => e = .returned (.int .i64 (fewOf s ss)) ∧ Below w.heap.size w w' := by
  have HZ := Lib.hid hsz; clear hsz
  have HR := Lib.hid hrd; clear hrd
  cases h1 : repOk s ss
  · have H1 := Lib.hid h1; clear h1
    go_enter Try.func38, Try.ntmps38
    go_wp2_with fail
    refine (areRepaired_any s ss A c B _ hs hn HZ.out HR.out).mono ?_
    rw [H1.out]
    rintro e w1 ⟨rfl, d1⟩
    go_wp2_with fail
    go_ret
    exact ⟨ret_int (by rw [fewOf, H1.out]; rfl), d1.below⟩
  · have h40 := repOk_40 h1
    have hb := tot_bd false ss (L s)
    have hf : fewOf s ss = totN false ss (L s) := by rw [fewOf, h1]; rfl
    obtain ⟨t, ht⟩ : ∃ t, tot false ss (L s) = t := ⟨_, rfl⟩
    have hr := fun w hB hrd => repaired_any s ss A c B w hB h40 hn hrd
    rw [ht] at hr hb
    have hN : totN false ss (L s) = if t < 1000 then t else -1 := by rw [totN, ht]
    rw [hN] at hf
    have HF := Lib.hid hf
    have HRE := Lib.hid hr
    have H1 := Lib.hid h1; clear h1 hr ht hf hN
    have t1 := hb.1
    have t2 := hb.2
    clear hb
    go_enter Try.func38, Try.ntmps38
    go_wp2_with fail
    refine (areRepaired_any s ss A c B _ hs hn HZ.out HR.out).mono ?_
    rw [H1.out]
    rintro e w1 ⟨rfl, d1⟩
    have e1 := (d1.below (B := 0)).size
    go_wp2_with fail
    refine (HRE.out _ (by omega) (HR.out.dr d1)).mono ?_
    rintro e w2 ⟨rfl, b2⟩
    by_cases h : 1000 ≤ t
    · go_wp2_with fail
      go_ret
      exact ⟨ret_int (by rw [HF.out, if_neg (by omega)]), d1.below.trans (b2.mono e1)⟩
    · go_wp2_with fail
      go_ret
      exact ⟨ret_int (by rw [HF.out, if_pos (by omega)]), d1.below.trans (b2.mono e1)⟩
theorem rep_none {st : Bool} {s : ByteArray} {ss : List ByteArray} (h : totN st ss (L s) < 0) : repS st ss (L s) = ⟨#[]⟩ := by
  have hb := tot_bd st ss (L s)
  unfold totN at h
  split at h
  · omega
  · rename_i h2
    unfold repS repL
    unfold tot at h2
    split at h2
    · omega
    · rename_i h3
      rw [if_neg h3, if_neg h2]; rfl
set_option maxHeartbeats 400000 in
theorem iRepairWord_any (s : ByteArray) (ss : List ByteArray) (A : Option Addr) (c B : Nat) (w : World) (hB : B ≤ w.heap.size) (hs : s.size ≤ maxLen) (hn : ss.length ≤ 4294967296) (hsz : ∀ s ∈ ss, s.size ≤ maxLen) (hrd : Rds w B A (ss.map Value.string)) :
    Calls Try.prog 39 #[.string s, .slice A ss.length c] w fun e w' => e = .returned (.tuple #[.string (repairS s ss), .bool (repairB s ss)]) ∧ Below w.heap.size w w' := by
  have HZ := Lib.hid hsz; clear hsz
  have HR := Lib.hid hrd; clear hrd
  by_cases h : fewOf s ss < 0
  · have hd : decide (fewOf s ss < 0) = true := decide_eq_true h
    have hS : repairS s ss = ⟨#[]⟩ ∧ repairB s ss = false := by
      unfold repairS repairB
      unfold fewOf at h
      split at h
      · rename_i h1
        rw [if_pos h1, h1]
        exact ⟨rep_none h, by rw [decide_eq_false (by omega)]; rfl⟩
      · rename_i h1
        rw [if_neg h1]
        exact ⟨rfl, by simp at h1; rw [h1]; rfl⟩
    have HS := Lib.hid hS; clear hS h
    go_enter Try.func39, Try.ntmps39
    go_wp2_with fail
    refine (iFewestChanges_any s ss A c B _ hB hs hn HZ.out HR.out).mono ?_
    rintro e w1 ⟨rfl, b1⟩
    go_wp2_with fail
    go_ret2
    exact ⟨by rw [HS.out.1, HS.out.2]; rfl, b1⟩
  · have hd : decide (fewOf s ss < 0) = false := decide_eq_false h
    have h1 : repOk s ss = true := by
      cases hq : repOk s ss
      · exfalso; apply h; rw [fewOf, hq, if_neg Bool.false_ne_true]; decide
      · rfl
    have h40 := repOk_40 h1
    have hS : repairS s ss = repS false ss (L s) ∧ repairB s ss = true := by
      unfold repairS repairB
      unfold fewOf at h
      rw [if_pos h1] at h
      rw [if_pos h1, h1, decide_eq_true (by omega)]
      exact ⟨rfl, rfl⟩
    have HS := Lib.hid hS; clear hS h h1
    go_enter Try.func39, Try.ntmps39
    go_wp2_with fail
    refine (iFewestChanges_any s ss A c B _ hB hs hn HZ.out HR.out).mono ?_
    rintro e w1 ⟨rfl, b1⟩
    have e1 := b1.size
    go_wp2_with fail
    refine (repaired_any s ss A c B _ (by omega) h40 hn (HR.out.below b1 hB)).mono ?_
    rintro e w2 ⟨rfl, b2⟩
    go_wp2_with fail
    go_ret2
    exact ⟨by rw [HS.out.1, HS.out.2]; rfl, b1.trans (b2.mono e1)⟩
def gapC (b : UInt8) : Bool := b == 63 || okc b
theorem gap_at (s : ByteArray) (k : Nat) (h : k < s.size) : ((L s).drop k).all gapC = (gapC s[k] && ((L s).drop (k + 1)).all gapC) := by
  rw [drop_at s k h, List.all_cons]
theorem isLetter_one (x : ByteArray) (b : UInt8) (hx : L x = [b]) (w : World) :
    Calls Try.prog 73 #[.string x] w fun e w' => e = .returned (.bool (okc b)) ∧ w = w' := by
  have hsz : x.size = 1 := by rw [← L_len, hx]; rfl
  have hw : isW (L x) = okc b := by rw [hx]; simp [isW]
  have h1 : ((x.size : Int) == 1) = true := by rw [hsz]; rfl
  have hm : x.size ≤ maxLen := by rw [hsz]; unfold maxLen; omega
  have HW := Lib.hid hw; clear hw hsz hx
  go_enter Try.func73, Try.ntmps73
  go_wp2_with (go_at_call 46; refine (isWord_is x _ hm HW.out _).mono ?_; rintro e w' ⟨rfl, rfl⟩)
  go_ret
  exact ⟨rfl, rfl⟩
theorem fill_no {s : ByteArray} {ss : List ByteArray} (h : fillOk s ss = false) : fillS s ss = ⟨#[]⟩ ∧ fillB s ss = false := by
  unfold fillS fillB; rw [h]; exact ⟨rfl, rfl⟩
set_option maxRecDepth 4000 in
set_option maxHeartbeats 400000 in
theorem iFillGaps_any (s : ByteArray) (ss : List ByteArray) (A : Option Addr) (c B : Nat) (w : World) (hB : B ≤ w.heap.size) (hs : s.size ≤ maxLen) (hn : ss.length ≤ 4294967296) (hsz : ∀ s ∈ ss, s.size ≤ maxLen) (hrd : Rds w B A (ss.map Value.string)) :
    Calls Try.prog 44 #[.string s, .slice A ss.length c] w fun e w' => e = .returned (.tuple #[.string (fillS s ss), .bool (fillB s ss)]) ∧ Below w.heap.size w w' := by
  have HZ := Lib.hid hsz; clear hsz
  have HR := Lib.hid hrd; clear hrd
  by_cases h40 : s.size ≤ 40
  · have h40b : decide (40 < (s.size : Int)) = false := by simp; omega
    cases hp : pairsOk ss
    · have HP := Lib.hid hp; clear hp
      have HN := Lib.hid (fill_no (s := s) (ss := ss) (by unfold fillOk; rw [HP.out]; simp))
      go_enter Try.func44, Try.ntmps44
      go_wp2_with fail
      refine (arePairs_any ss A c B _ hn HZ.out HR.out).mono ?_
      rw [HP.out]
      rintro e w1 ⟨rfl, d1⟩
      go_wp2_with fail
      go_ret2
      exact ⟨by rw [HN.out.1, HN.out.2]; rfl, d1.below⟩
    · have HP := Lib.hid hp; clear hp
      have hok : fillOk s ss = (L s).all gapC := by unfold fillOk; rw [HP.out, decide_eq_true h40]; rfl
      have HOK := Lib.hid hok; clear hok
      go_enter Try.func44, Try.ntmps44
      go_wp2_with fail
      refine (arePairs_any ss A c B _ hn HZ.out HR.out).mono ?_
      rw [HP.out]
      rintro e w1 ⟨rfl, d1⟩
      have e1 := (d1.below (B := 0)).size
      go_wp2_with fail
      go_loop [6, 19] (fun _ i => ∃ k : Nat, k ≤ s.size ∧ i = .int .i64 k ∧ ((L s).drop k).all gapC = fillOk s ss) (fun _ i => s.size - (intOf i).toNat)
      case atStart => exact ⟨0, by omega, rfl, by rw [HOK.out]; rfl⟩
      case round =>
        obtain ⟨k, hk, rfl, hg⟩ := hrel
        have HG := Lib.hid hg; clear hg
        by_cases hlt : k < s.size
        · obtain ⟨bb, hbb⟩ : ∃ bb, s[k]'hlt = bb := ⟨_, rfl⟩
          have HD := gap_at s k hlt
          rw [hbb] at HD
          have HD := Lib.hid HD
          by_cases h63 : bb = 63
          · have hb63 : ((bb.toNat : Int) != 63) = false := by rw [h63]; rfl
            have hgc : gapC bb = true := by rw [h63]; rfl
            have HGC := Lib.hid hgc; clear hgc h63
            go_wp2_with fail
            go_round
            case rel => exact ⟨k + 1, by omega, by go_num, by rw [← HG.out, HD.out, HGC.out]; rfl⟩
            case measure => simp [intOf]; omega
          · have hb63 : ((bb.toNat : Int) != 63) = true := by rw [bne_iff_ne]; intro h; apply h63; apply UInt8.toNat_inj.1; show bb.toNat = 63; omega
            have hgc : gapC bb = okc bb := by unfold gapC; simp [h63]
            have hx : L (s.extract k (k + 1)) = [bb] := by rw [ext_one s k hlt, strOf_L, hbb]
            have HX := Lib.hid hx
            cases ho : okc bb
            · rw [ho] at hgc
              have HGC := Lib.hid hgc; have HO := Lib.hid ho; clear hgc h63 hx ho
              have HN := Lib.hid (fill_no (s := s) (ss := ss) (by rw [← HG.out, HD.out, HGC.out]; rfl))
              go_wp2_with fail
              refine (isLetter_one (s.extract k (k + 1)) bb HX.out _).mono ?_
              rw [HO.out]
              rintro e w2 ⟨rfl, rfl⟩
              go_wp2_with fail
              go_ret2
              exact ⟨by rw [HN.out.1, HN.out.2]; rfl, d1.below⟩
            · rw [ho] at hgc
              have HGC := Lib.hid hgc; have HO := Lib.hid ho; clear hgc h63 hx ho
              go_wp2_with fail
              refine (isLetter_one (s.extract k (k + 1)) bb HX.out _).mono ?_
              rw [HO.out]
              rintro e w2 ⟨rfl, rfl⟩
              go_wp2_with fail
              go_round
              case rel => exact ⟨k + 1, by omega, by go_num, by rw [← HG.out, HD.out, HGC.out]; rfl⟩
              case measure => simp [intOf]; omega
        · have hfo : fillOk s ss = true := by
            rw [← HG.out, List.drop_eq_nil_of_le (by rw [L_len]; omega)]; rfl
          have hb := tot_bd false ss (L s)
          obtain ⟨t, ht⟩ : ∃ t, tot false ss (L s) = t := ⟨_, rfl⟩
          have hr := repaired_any s ss A c B w1 (by omega) h40 hn (HR.out.dr d1)
          have hfb : fillB s ss = decide (t ≤ 0) := by unfold fillB; rw [hfo, ht]; rfl
          rw [ht] at hr
          have HRE := Lib.hid hr; have HFB := Lib.hid hfb; clear hr hb ht hfo hfb
          go_wp2_with fail
          refine HRE.out.mono ?_
          rintro e w2 ⟨rfl, b2⟩
          by_cases h : t ≤ 0
          · have hF : fillB s ss = true := HFB.out.trans (decide_eq_true h)
            have HFB2 := Lib.hid hF; clear hF
            have h0 : decide (0 < t) = false := by simp; omega
            go_wp2_with fail
            go_ret2
            exact ⟨by rw [fillS, HFB2.out]; rfl, d1.below.trans (b2.mono e1)⟩
          · have hF : fillB s ss = false := HFB.out.trans (decide_eq_false h)
            have HFB2 := Lib.hid hF; clear hF
            have h0 : decide (0 < t) = true := by simp; omega
            go_wp2_with fail
            go_ret2
            exact ⟨by rw [fillS, HFB2.out]; rfl, d1.below.trans (b2.mono e1)⟩
  · have h40b : decide (40 < (s.size : Int)) = true := by simp; omega
    have HN := Lib.hid (fill_no (s := s) (ss := ss) (by unfold fillOk; rw [decide_eq_false h40]; rfl))
    clear h40
    go_enter Try.func44, Try.ntmps44
    go_wp2_with fail
    go_ret2
    exact ⟨by rw [HN.out.1, HN.out.2]; rfl, Below.refl _ _⟩
end Go.Proofs.Ytfjmopiofcbpgaa
