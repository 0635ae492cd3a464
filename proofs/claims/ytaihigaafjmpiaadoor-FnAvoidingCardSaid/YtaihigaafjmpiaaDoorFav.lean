/- FirstAvoiding, both, walked. Asks the shelf's text. No condition but the bounds. -/
import Derived.Test.YtaihigaafjmpiaaDoorCaw
import Derived.Test.YtaihigaafjmpiaaDoorFap
namespace Go.Proofs.YtaihigaafjmpiaaDoor
open Go.RowKit Go.Maps
set_option linter.unusedVariables false

def faOk (m n : Int) (ban : List ByteArray) : Bool := decide (0 < caV m n ban)
def faV (m n : Int) (ban : List ByteArray) : ByteArray := if faOk m n ban then fstG ban m.toNat n.toNat ByteArray.empty else { data := #[] }
theorem fa_split {m n : Int} {ban : List ByteArray} (h : faOk m n ban = true) : ∃ k j : Nat, m = (k : Int) ∧ n = (j : Int) ∧ 1 ≤ k ∧ k ≤ 4 ∧ j ≤ 18 ∧ banOk ban = true ∧ 0 < cnt ban k j ByteArray.empty := by
  have h1 : 0 < caV m n ban := of_decide_eq_true h
  cases hc : caOk m n ban
  · rw [caV_no (by rw [hc]; simp)] at h1; omega
  · rw [caV_yes hc] at h1
    obtain ⟨h2, h3, h4⟩ := caOk_split hc
    exact ⟨m.toNat, n.toNat, by omega, by omega, by omega, by omega, by omega, h4, by omega⟩
theorem avoids_empty {ban : List ByteArray} (h : banOk ban = true) : avoidsB ByteArray.empty ban = true := by
  rw [avoidsB_iff]
  intro f hf hi
  have h1 := (ban_len h hf).1
  have h2 := hi.length_le
  rw [L_len, L_len] at h2
  have h3 : ByteArray.empty.size = 0 := rfl
  omega
theorem abcd_snoc {o : ByteArray} {j : Nat} (h : abcd o) (hj : j < 4) : abcd (o ++ strOf [ltr j]) := fun c hc => by
  rw [L_snoc, List.mem_append, List.mem_singleton] at hc
  rcases hc with hc | hc
  · exact h c hc
  · rw [hc]; exact ltr_ok hj
/-- The state of the search: r letters to come, the result R. -/
def FSt (ban : List ByteArray) (m n : Nat) (R o : ByteArray) (r : Nat) : Prop := o.size + r = n ∧ avoidsB o ban = true ∧ 0 < cnt ban m r (tl3 o) ∧ abcd o ∧ fstG ban m r o = R
theorem fst_next {ban : List ByteArray} {m n r j : Nat} {R o : ByteArray} (hm : m ≤ 4) (h : FSt ban m n R o (r + 1)) (hj : j < m) (hp : okJ ban m r o j = true) (hn : ∀ i, i < j → okJ ban m r o i = false) : FSt ban m n R (o ++ strOf [ltr j]) r := by
  obtain ⟨h1, h2, h3, h4, h5⟩ := h
  have hc : (strOf [ltr j]).size = 1 := rfl
  have hp2 := hp
  simp only [okJ, Bool.and_eq_true, decide_eq_true_eq] at hp2
  exact ⟨by rw [ByteArray.size_append, hc]; omega, hp2.1, hp2.2, abcd_snoc h4 (by omega), by rw [← fstG_step hj hp hn]; exact h5⟩
theorem faV_no {m n : Int} {ban : List ByteArray} (h : faOk m n ban = false) : faV m n ban = { data := #[] } := by rw [faV, h]; rfl
theorem faV_yes {m n : Nat} {ban : List ByteArray} (h : faOk m n ban = true) : faV m n ban = fstG ban m n ByteArray.empty := by rw [faV, if_pos h]; simp only [Int.toNat_natCast]
set_option maxRecDepth 4000 in
set_option maxHeartbeats 2000000 in
theorem iFa_yes (m n : Nat) (ban : List ByteArray) (A : Option Addr) (c : Nat) (w : World) (hok : faOk m n ban = true) (hsz9 : ∀ s ∈ ban, s.size ≤ maxLen) (hrd : Rds w w.heap.size A (ban.map Value.string)) (hml : MlOk w) (htb : TB w) :
    Calls Tryd.prog 8 #[.int .i64 m, .int .i64 n, .slice A ban.length c] w fun e w' => e = .returned (.tuple #[.string (fstG ban m n ByteArray.empty), .bool true]) ∧ Below w.heap.size w w' := by
  obtain ⟨m', n', hm', hn', h1, hm, hn, hb, hpos⟩ := fa_split hok
  obtain rfl : m = m' := by omega
  obtain rfl : n = n' := by omega
  have h8 := banOk_len hb
  have hsz := ban_size4 hb
  have hcaok : caOk m n ban = true := by
    cases h : caOk m n ban
    · have h2 : 0 < caV m n ban := of_decide_eq_true hok
      rw [caV_no (by rw [h]; simp)] at h2; omega
    · rfl
  have hnw := newWalk_any m n ban A c w (by omega) hsz9 hrd
  rw [hcaok] at hnw
  obtain ⟨bn, hbn⟩ : ∃ x, ban.length = x := ⟨_, rfl⟩
  obtain ⟨R, hR⟩ : ∃ R, fstG ban m n ByteArray.empty = R := ⟨_, rfl⟩
  have hav := fun s (hs : s.size ≤ 1048576) w' (hr : Rds w' w.heap.size A (ban.map Value.string)) h => avoids_any s ban A c w.heap.size w' hs (by omega) hsz hr h
  have hcn := fun (r : Nat) (hr : r ≤ 18) (e : ByteArray) (he : wk3 e) w' k' D hk => count_any w ban m (w.heap.size + 1) w.heap.size A c ban.length rfl h8 hsz hm (Nat.le_refl _) (by omega) hrd hml htb r hr e he w' k' D hk
  have hex := fun o r ho h => okJ_ex (ban := ban) (m := m) (r := r) (o := o) hb ho h
  have hst : FSt ban m n R ByteArray.empty n := ⟨by simp, avoids_empty hb, by rw [tl3_empty]; exact hpos, abcd_empty, hR⟩
  obtain ⟨S, hS⟩ : ∃ S, sto n = S := ⟨_, rfl⟩
  have hSb : S ≤ 68719476736 := by rw [← hS]; exact Nat.le_trans (sto_le n) (pow18 hn)
  have hSm : ∀ r, r ≤ n → sto r ≤ S := fun r hr => by rw [← hS]; exact sto_mono hr
  have hc0 := hcn n hn ByteArray.empty wk3_empty
  rw [hS] at hc0
  obtain ⟨C0, hC0⟩ : ∃ C, cnt ban m n ByteArray.empty = C := ⟨_, rfl⟩
  rw [hC0] at hc0 hpos
  rw [hR]
  rw [hbn] at hav hcn hnw hc0
  rw [hbn]
  have HNW := Lib.hid hnw; have HAV := Lib.hid hav; have HCN := Lib.hid hcn; have HEX := Lib.hid hex; have HST := Lib.hid hst; have HRD := Lib.hid hrd; have HML := Lib.hid hml; have HC0 := Lib.hid hc0; have HSM := Lib.hid hSm
  have hC1 : ((C0 : Int) == 0) = false := by rw [beq_eq_false_iff_ne]; omega
  have hC2 : ¬ C0 = 0 := by omega
  clear hnw hav hcn hex hst hrd hml htb hok hsz hsz9 hR hbn hm' hn' hb hcaok hc0 hC0 hSm hS
  go_enter Tryd.func8, Tryd.ntmps8
  go_wp2_with fail
  refine HNW.out.mono ?_
  rintro e w1 ⟨rfl, b1, wf1, own1⟩
  have hc1 := HC0.out w1 0 _ (by omega) (wf1 m rfl) own1 (snd_none _ _)
  have WF1 := Lib.hid (wf1 m rfl); have HC1 := Lib.hid hc1
  clear hc1 wf1 own1 b1
  go_wp2_with (go_at_call 27; refine HC1.out.mono ?_; rintro e5 w5 ⟨rfl, k5, D5, hk5, own5, snd5, gr5⟩)
  have wf5 := WF1.out.grown gr5 (Nat.le_refl _) (by omega)
  go_loopw [10, 11, 12] (fun s _ _ wr => ∃ o r kk DD, s = .string o ∧ FSt ban m n R o r ∧ WF w (w.heap.size + 1) w.heap.size m A bn c wr ∧ kk ≤ (5 * o.size + 1) * S ∧ wr.ownsMap Tryd.prog 9 (plainElem (H := Unit) Tryd.prog 3) w.heap.size kk DD ∧ Snd ban m DD) (fun s _ _ _ => n - (match s with | .string o => o.size | _ => 0))
  case atStart => exact ⟨ByteArray.empty, n, k5, D5, rfl, HST.out, wf5, by show k5 ≤ (5 * 0 + 1) * S; omega, own5, snd5⟩
  case round =>
    clear HST WF1 HC1 own5 snd5 gr5 wf5 hk5
    obtain ⟨o, r, kk, DD, rfl, hst, hwf, hkk, hown, hsnd⟩ := hrel
    have hso := hst.1
    have HST := Lib.hid hst; have HWF := Lib.hid hwf; have HO := Lib.hid hown; have HS := Lib.hid hsnd; have HKK := Lib.hid hkk
    clear hst hwf hown hsnd hkk
    cases r with
    | zero =>
      have hlt : decide ((o.size : Int) < (n : Int)) = false := decide_eq_false (by omega)
      have hfin : o = R := by have := HST.out.2.2.2.2; rwa [fstG_zero] at this
      subst hfin
      go_wp2_with fail
      go_ret2
      exact ⟨rfl, HWF.out.1⟩
    | succ r =>
      have hlt : (o.size : Int) < (n : Int) := by omega
      have hos : o.size ≤ 17 := by omega
      go_wp2_with fail
      obtain ⟨wo, hwo⟩ : ∃ x, x = wr := ⟨_, rfl⟩
      subst hwo
      go_loopw [10, 11, 12, 33] (fun s _ _ i w3 => ∃ j kk DD, j ≤ m ∧ s = .string o ∧ i = .int .i64 (j : Nat) ∧ (∀ i, i < j → okJ ban m r o i = false) ∧ WF w (w.heap.size + 1) w.heap.size m A bn c w3 ∧ kk ≤ (5 * o.size + 1 + j) * S ∧ w3.ownsMap Tryd.prog 9 (plainElem (H := Unit) Tryd.prog 3) w.heap.size kk DD ∧ Snd ban m DD) (fun _ _ _ i _ => m - (intOf i).toNat)
      case atStart => exact ⟨0, kk, DD, by omega, rfl, rfl, fun i hi => by omega, HWF.out, HKK.out, HO.out, HS.out⟩
      case round =>
        clear HWF HKK HO HS
        obtain ⟨j, kk, DD, hj, rfl, rfl, hno, hwf, hkk, hown, hsnd⟩ := hrel
        have hbel3 := hwf.1
        have HNO := Lib.hid hno; have HWF := Lib.hid hwf; have HO := Lib.hid hown; have HS := Lib.hid hsnd
        have hkj : (5 * o.size + 1 + (j + 1)) * S = (5 * o.size + 1 + j) * S + S := by rw [← Nat.add_assoc, Nat.succ_mul]
        have hkb : (5 * o.size + 1 + (j + 1)) * S ≤ 96 * S := Nat.mul_le_mul_right _ (by omega)
        have hkn : (5 * o.size + 1 + (j + 1)) * S ≤ (5 * (o.size + 1) + 1) * S := Nat.mul_le_mul_right _ (by omega)
        have HK1 := Lib.hid hkj; have HK2 := Lib.hid hkb; have HK3 := Lib.hid hkn; have HKK := Lib.hid hkk
        clear hno hwf hown hsnd hkj hkb hkn hkk
        by_cases hjm : j < m
        · have hj4 : j < 4 := by omega
          have hab := abc_at j hj4
          have hj5 : (j : Int) + 1 ≤ 4 := by omega
          have hjm5 : (j : Int) < (m : Int) := by omega
          have hsd : (strOf [ltr j]).size = 1 := rfl
          obtain ⟨y, hy⟩ : ∃ y, o ++ strOf [ltr j] = y := ⟨_, rfl⟩
          have hys : y.size ≤ o.size + 1 := by rw [← hy, ByteArray.size_append, hsd]; omega
          have hys2 : o.size + 1 ≤ y.size := by rw [← hy, ByteArray.size_append, hsd]; omega
          have hav := HAV.out y (by omega) _ (HRD.out.below hbel3 (Nat.le_refl _)) (HML.out.below hbel3)
          have hyr : (n : Int) - (y.size : Int) = (r : Int) := by omega
          have hokd : okJ ban m r o j = (avoidsB y ban && decide (0 < cnt ban m r (tl3 y))) := by rw [okJ, hy]
          cases hb2 : avoidsB y ban
          · rw [hb2] at hav hokd
            have HAV2 := Lib.hid hav; have HOK := Lib.hid hokd
            clear hav hb2 hokd
            go_wp2_with (go_at_call 25; refine HAV2.out.mono ?_; rintro e w' ⟨rfl, rfl⟩)
            go_roundw
            case rel =>
              refine ⟨j + 1, kk, DD, by omega, rfl, by go_num, fun i hi => ?_, HWF.out, by have := HK1.out; have := HKK.out; omega, HO.out, HS.out⟩
              by_cases hij : i = j
              · rw [hij, HOK.out]; rfl
              · exact HNO.out i (by omega)
            case measure => simp [intOf]; omega
          · rw [hb2] at hav hokd
            have htw : wk3 (tl3 y) := by rw [← hy]; exact tl3_wk (abcd_snoc HST.out.2.2.2.1 hj4)
            have htl := fun w => tail_any y (by omega) w
            have hcn := HCN.out r (by omega) (tl3 y) htw wr kk DD (by have := HK1.out; have := HK2.out; have := HKK.out; have := HSM.out r (by omega); omega) HWF.out HO.out HS.out
            obtain ⟨C, hC⟩ : ∃ C, cnt ban m r (tl3 y) = C := ⟨_, rfl⟩
            rw [hC] at hcn hokd
            have hnext := fun (h : 0 < C) => fst_next hm HST.out hjm (by rw [hokd, decide_eq_true h]; rfl) HNO.out
            rw [hy] at hnext
            obtain ⟨t, ht⟩ : ∃ t, tl3 y = t := ⟨_, rfl⟩
            rw [ht] at htl hcn
            have HAV2 := Lib.hid hav; have HCN2 := Lib.hid hcn; have HTL := Lib.hid htl; have HNX := Lib.hid hnext; have HOKD := Lib.hid hokd
            clear hav hb2 hokd hcn hC htl ht htw hnext
            by_cases hcp : 0 < C
            · have hcp2 : (0 : Int) < (C : Int) := by omega
              go_wp2_with (first
                | (go_at_call 25; refine HAV2.out.mono ?_; rintro e w' ⟨rfl, rfl⟩)
                | (go_at_call 28; refine (HTL.out _).mono ?_; rintro e w' ⟨rfl, rfl⟩)
                | (go_at_call 27; refine HCN2.out.mono ?_; rintro e5 w5 ⟨rfl, k5, D5, hk5, own5, snd5, gr5⟩))
              go_roundw
              case rel =>
                refine ⟨y, r, k5, D5, rfl, HNX.out hcp, HWF.out.grown gr5 (Nat.le_refl _) (by omega), ?_, own5, snd5⟩
                have h1 := HK1.out; have h2 := HK3.out; have h3 := HKK.out; have h4 := HSM.out r (by omega)
                have h5 : y.size = o.size + 1 := by omega
                rw [h5]; omega
              case measure => simp; omega
            · have hokf : okJ ban m r o j = false := by rw [HOKD.out, decide_eq_false hcp]; rfl
              have HOK := Lib.hid hokf
              have hcp3 : decide (0 < C) = false := decide_eq_false hcp
              clear hcp hokf
              go_wp2_with (first
                | (go_at_call 25; refine HAV2.out.mono ?_; rintro e w' ⟨rfl, rfl⟩)
                | (go_at_call 28; refine (HTL.out _).mono ?_; rintro e w' ⟨rfl, rfl⟩)
                | (go_at_call 27; refine HCN2.out.mono ?_; rintro e5 w5 ⟨rfl, k5, D5, hk5, own5, snd5, gr5⟩))
              go_roundw
              case rel =>
                refine ⟨j + 1, k5, D5, by omega, rfl, by go_num, fun i hi => ?_, HWF.out.grown gr5 (Nat.le_refl _) (by omega), by have := HK1.out; have := HKK.out; have := HSM.out r (by omega); omega, own5, snd5⟩
                by_cases hij : i = j
                · rw [hij]; exact HOK.out
                · exact HNO.out i (by omega)
              case measure => simp [intOf]; omega
        · obtain ⟨i, hi1, hi2⟩ := HEX.out o r HST.out.2.1 HST.out.2.2.1
          rw [HNO.out i (by omega)] at hi2
          cases hi2
theorem iFa_any (m n : Int) (ban : List ByteArray) (A : Option Addr) (c : Nat) (w : World) (hl : ban.length ≤ 4294967296) (hsz : ∀ s ∈ ban, s.size ≤ maxLen) (hrd : Rds w w.heap.size A (ban.map Value.string)) (hml : MlOk w) (htb : TB w) :
    Calls Tryd.prog 8 #[.int .i64 m, .int .i64 n, .slice A ban.length c] w fun e w' => e = .returned (.tuple #[.string (faV m n ban), .bool (faOk m n ban)]) ∧ Below w.heap.size w w' := by
  cases hok : faOk m n ban
  · rw [faV_no hok]
    have hnw := newWalk_any m n ban A c w hl hsz hrd
    cases hcaok : caOk m n ban
    · rw [hcaok] at hnw
      have HNW := Lib.hid hnw
      clear hnw hok hcaok hrd hml htb hsz
      go_enter Tryd.func8, Tryd.ntmps8
      go_wp2_with fail
      refine HNW.out.mono ?_
      rintro e w1 ⟨rfl, b1, _, _⟩
      go_wp2_with fail
      go_ret2
      exact ⟨rfl, b1⟩
    · rw [hcaok] at hnw
      obtain ⟨h1, h2, h3⟩ := caOk_split hcaok
      have hv := of_decide_eq_false hok
      rw [caV_yes hcaok] at hv
      obtain ⟨k, rfl⟩ : ∃ k : Nat, m = (k : Int) := ⟨m.toNat, by omega⟩
      obtain ⟨j, rfl⟩ : ∃ k : Nat, n = (k : Int) := ⟨n.toNat, by omega⟩
      simp only [Int.toNat_natCast] at hv
      have hst18 := sto_le j
      have h18 := pow18 (n := j) (by omega)
      have hcn := fun w' k' D hk => count_any w ban k (w.heap.size + 1) w.heap.size A c ban.length rfl (banOk_len h3) (ban_size4 h3) (by omega) (Nat.le_refl _) (by omega) hrd hml htb j (by omega) ByteArray.empty wk3_empty w' k' D hk
      rw [show cnt ban k j ByteArray.empty = 0 by omega] at hcn
      have HNW := Lib.hid hnw; have HCN := Lib.hid hcn
      clear hnw hcn hok hcaok hrd hml htb hsz h3 hv
      go_enter Tryd.func8, Tryd.ntmps8
      go_wp2_with fail
      refine HNW.out.mono ?_
      rintro e w1 ⟨rfl, b1, wf1, own1⟩
      have hc1 := HCN.out w1 0 _ (by omega) (wf1 k rfl) own1 (snd_none _ _)
      have HC1 := Lib.hid hc1
      clear hc1 wf1 own1
      go_wp2_with (go_at_call 27; refine HC1.out.mono ?_; rintro e5 w5 ⟨rfl, k5, D5, hk5, own5, snd5, gr5⟩)
      go_ret2
      exact ⟨rfl, b1.grown gr5 b1.size (fun q hq => by injection hq with hq; omega)⟩
  · obtain ⟨k, j, rfl, rfl, _⟩ := fa_split hok
    rw [faV_yes hok]
    exact iFa_yes k j ban A c w hok hsz hrd hml htb
end Go.Proofs.YtaihigaafjmpiaaDoor
