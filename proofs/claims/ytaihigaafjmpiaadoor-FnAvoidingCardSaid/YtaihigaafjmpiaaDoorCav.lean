/- The program's count of words that avoid a ban, walked: it calls itself and keeps a table of what is known. Asks the shelf's text. No condition but the bounds. -/
import Derived.Test.YtaihigaafjmpiaaDoorCap
namespace Go.Proofs.YtaihigaafjmpiaaDoor
open Go.RowKit Go.Maps
set_option linter.unusedVariables false

theorem gr_below {w w' : World} (h : Below w.heap.size w w') (row : Option Nat) : w.grownBy w' row := ⟨h.os, h.tape, h.output, h.size, fun k hk _ => h.block k hk⟩
theorem law_s : Keyed Tryd.prog 9 := string_keyed Tryd.underlying9
theorem ky_of {x : ByteArray} (h : x.size ≤ maxLen) : keyOf Tryd.prog 9 (.string x) = some (ky x) := WideMaps.keyOf_string_mk Tryd.underlying9 h
theorem zero_int (w : World) : (zeroValue 3).run Tryd.prog w = .ok (.int .i64 0) w := by kernel_rfl
/-- The counter at block p: its letters, its ban, its table. -/
def WF (w0 : World) (p b m : Nat) (A : Option Addr) (bn c : Nat) (w : World) : Prop :=
  Below w0.heap.size w0 w ∧ p < w.heap.size ∧ w.cell? ⟨p, 0, none⟩ = some (.int .i64 (m : Int)) ∧ w.cell? ⟨p, 1, none⟩ = some (.slice A bn c) ∧ w.cell? ⟨p, 2, none⟩ = some (.map (some b))
theorem WF.grown {w0 w w' : World} {p b m : Nat} {A : Option Addr} {bn c : Nat} (h : WF w0 p b m A bn c w) (hg : w.grownBy w' (some b)) (hb : w0.heap.size ≤ b) (hp : p ≠ b) : WF w0 p b m A bn c w' := by
  obtain ⟨h1, h2, h3, h4, h5⟩ := h
  refine ⟨h1.grown hg h1.size (fun k hk => by injection hk with hk; omega), Nat.lt_of_lt_of_le h2 hg.size, ?_, ?_, ?_⟩
  · rw [hg.cell_far ⟨p, 0, none⟩ h2 (by simpa using hp)]; exact h3
  · rw [hg.cell_far ⟨p, 1, none⟩ h2 (by simpa using hp)]; exact h4
  · rw [hg.cell_far ⟨p, 2, none⟩ h2 (by simpa using hp)]; exact h5
set_option maxRecDepth 4000 in
set_option maxHeartbeats 2000000 in
theorem count_any (w0 : World) (ban : List ByteArray) (m p b : Nat) (A : Option Addr) (c bn : Nat) (hbn : ban.length = bn) (h8 : bn ≤ 8) (hsz : ∀ s ∈ ban, s.size ≤ 1048576) (hm : m ≤ 4) (hb : w0.heap.size ≤ b) (hpb : p ≠ b)
    (hrd : Rds w0 w0.heap.size A (ban.map Value.string)) (hml : MlOk w0) (htb : TB w0) : ∀ (n : Nat) (hn : n ≤ 18) (e : ByteArray) (he : wk3 e) (w : World) (k : Nat) (D : DataW Unit) (hk : k + sto n ≤ 10000000000000) (hwf : WF w0 p b m A bn c w)
    (hown : w.ownsMap Tryd.prog 9 (plainElem Tryd.prog 3) b k D) (hsnd : Snd ban m D),
    Calls Tryd.prog 27 #[.pointer (some ⟨p, 0, none⟩), .string e, .int .i64 n] w fun x w' => x = .returned (.int .i64 (cnt ban m n e)) ∧ ∃ k' D', k' ≤ k + sto n ∧ w'.ownsMap Tryd.prog 9 (plainElem (H := Unit) Tryd.prog 3) b k' D' ∧ Snd ban m D' ∧ w.grownBy w' (some b)
  | 0, _, e, he, w, k, D, hk, hwf, hown, hsnd => by
    have HO := Lib.hid hown; have HS := Lib.hid hsnd
    clear hown hsnd hwf hrd hml htb hsz hbn
    go_enter Tryd.func27, Tryd.ntmps27
    go_wp2_with fail
    go_ret
    exact ⟨rfl, k, D, by omega, HO.out, HS.out, World.grownBy.refl _ _⟩
  | n + 1, hn, e, he, w, k, D, hk, hwf, hown, hsnd => by
    have hrec := fun x hx w' k' D' h1 h2 h3 h4 => count_any w0 ban m p b A c bn hbn h8 hsz hm hb hpb hrd hml htb n (by omega) x hx w' k' D' h1 h2 h3 h4
    have hfm := fun w' h => iFormatInt_any ((n + 1 : Nat) : Int) ⟨by omega, by omega⟩ w' h
    obtain ⟨K, hK⟩ : ∃ K, keyW (n + 1) e = K := ⟨_, rfl⟩
    have hKs := keyW_size hn he
    have hs2 := hsnd (n + 1) e hn he
    have hav := fun s (hs : s.size ≤ 1048576) w' (hr : Rds w' w0.heap.size A (ban.map Value.string)) (h : MlOk w') => avoids_any s ban A c w0.heap.size w' hs (by omega) hsz hr h
    rw [hbn] at hav
    have hput := fun (D : DataW Unit) (h1 : Snd ban m D) (h2 : IsMap D) => snd_put h1 h2 hn he
    have hfz := fmtI_size (z := ((n + 1 : Nat) : Int)) ⟨by omega, by omega⟩
    rw [hK] at hKs hs2
    have hke : ky (keyW (n + 1) e) = ky K := by rw [hK]
    simp only [hke] at hput
    rw [show keyW (n + 1) e = fmtI ((n + 1 : Nat) : Int) ++ e from rfl] at hK
    have hfe : strOf (Lib.itoa ((n + 1 : Nat) : Int)) = fmtI ((n + 1 : Nat) : Int) := rfl
    rw [hfe] at hfm
    obtain ⟨F, hF⟩ : ∃ F, fmtI ((n + 1 : Nat) : Int) = F := ⟨_, rfl⟩
    simp only [hF] at hfm
    rw [hF] at hK hfz
    have hcl := fun j (hj : j ≤ 4) => cntK_le ban e hm (show n ≤ 17 by omega) hj
    have hce := cntK_end ban m n e
    obtain ⟨C, hC⟩ : ∃ C, cnt ban m (n + 1) e = C := ⟨_, rfl⟩
    have hCb : C ≤ 274877906944 := by rw [← hC, ← hce]; exact hcl m hm
    rw [hC] at hs2 hce ⊢
    simp only [hC] at hput
    obtain ⟨q, hq⟩ : ∃ q, n + 1 = q := ⟨_, rfl⟩
    rw [hq]
    simp only [hq] at hfm
    have hst : sto q = 4 * sto n + 1 := by rw [← hq]; rfl
    have hq1 : (q : Int) - 1 = (n : Int) := by omega
    have hq0 : 0 < q := by omega
    have hn17 : n ≤ 17 := by omega
    have hk2 : k + 4 * sto n + 1 ≤ 10000000000000 := by rw [sto] at hk; omega
    have hes : e.size ≤ 3 := he.1
    have HREC := Lib.hid hrec; have HFM := Lib.hid hfm; have HS2 := Lib.hid hs2; have HAV := Lib.hid hav; have HPUT := Lib.hid hput; have HCL := Lib.hid hcl; have HCE := Lib.hid hce; have HST := Lib.hid hst; have HE := Lib.hid he; have HWF := Lib.hid hwf; have HO := Lib.hid hown; have HS := Lib.hid hsnd; have HRD := Lib.hid hrd; have HML := Lib.hid hml; have HTB := Lib.hid htb
    clear hrec hfm hs2 hav hput hcl hce hst he hwf hown hsnd hrd hml htb hsz hbn hF hC hq hfe hke hk hn
    cases hh : Maps.has D (ky K)
    · have htb1 := HTB.out.below HWF.out.1
      have HTB1 := Lib.hid htb1
      have hlt3 : (m : Int) ≤ 4 := by omega
      clear htb1
      go_enter Tryd.func27, Tryd.ntmps27
      go_wp2_with (first
        | (go_at_call 40; refine (HFM.out _ HTB1.out).mono ?_; rintro e1 w1 ⟨rfl, b1⟩; obtain ⟨_, _, f3, f4, f5⟩ := HWF.out.grown (gr_below b1 (some b)) hb hpb)
        | (at_lookup; refine wpList_lookup_own_ok_int _ rfl _ _ 57 rfl 9 3 .i64 law_s Tryd.underlying57 Tryd.underlying3 (zero_int _) b k D rfl (HO.out.kept (gr_below b1 none) (by simp)) _ _ rfl (ky_of (x := K) (by unfold maxLen; omega)) ?_; intro v hat hwc))
      have hown1 := HO.out.kept (gr_below b1 none) (by simp)
      have hgr1 := gr_below b1 (some b)
      have HO1 := Lib.hid hown1; have HG1 := Lib.hid hgr1
      clear hown1 hgr1 f3 f4 f5 hat hwc b1
      go_loopw [10, 11, 12, 34] (fun s _ _ i wr => ∃ j kk DD, j ≤ m ∧ i = .int .i64 (j : Nat) ∧ s = .int .i64 (cntK ban m n e j : Nat) ∧ kk ≤ k + j * sto n ∧ wr.ownsMap Tryd.prog 9 (plainElem (H := Unit) Tryd.prog 3) b kk DD ∧ Snd ban m DD ∧ w.grownBy wr (some b)) (fun _ _ _ i _ => m - (intOf i).toNat)
      case atStart => exact ⟨0, k, D, by omega, rfl, rfl, by omega, HO1.out, HS.out, HG1.out⟩
      case round =>
        clear HO1 HG1
        obtain ⟨j, kk, DD, hj, rfl, rfl, hkk, hown2, hsnd2, hgr2⟩ := hrel
        have hwf2 := HWF.out.grown hgr2 hb hpb
        obtain ⟨f1, f2, f3, f4, f5⟩ := hwf2
        have HO2 := Lib.hid hown2; have HS3 := Lib.hid hsnd2; have HG2 := Lib.hid hgr2; have HWF2 := Lib.hid (⟨f1, f2, f3, f4, f5⟩ : WF w0 p b m A bn c wr)
        have hjs : j * sto n ≤ 4 * sto n := Nat.mul_le_mul_right _ (by omega)
        clear hown2 hsnd2 hgr2
        by_cases hjm : j < m
        · have hj4 : j < 4 := by omega
          have hab := abc_at j hj4
          have hj5 : (j : Int) + 1 ≤ 4 := by omega
          have hjm5 : (j : Int) < (m : Int) := by omega
          obtain ⟨y, hy⟩ : ∃ y, e ++ strOf [ltr j] = y := ⟨_, rfl⟩
          have hsd : (strOf [ltr j]).size = 1 := rfl
          have hys : y.size ≤ 4 := by rw [← hy, ByteArray.size_append, hsd]; omega
          have hav := HAV.out y (by omega) _ (HRD.out.below f1 (Nat.le_refl _)) (HML.out.below f1)
          have hck := HCL.out (j + 1) (by omega)
          have hcj := HCL.out j (by omega)
          have hjs1 : (j + 1) * sto n ≤ 4 * sto n := Nat.mul_le_mul_right _ (by omega)
          have hjs2 : (j + 1) * sto n = j * sto n + sto n := Nat.succ_mul ..
          have HJS := Lib.hid hjs2
          clear hjs2
          cases hb2 : avoidsB y ban
          · rw [hb2] at hav
            have hno := cntK_no (m := m) (n := n) (show avoidsB (e ++ strOf [ltr j]) ban = false by rw [hy]; exact hb2)
            have HAV2 := Lib.hid hav; have HNO := Lib.hid hno
            clear hav hb2 hno
            go_wp2_with (go_at_call 25; refine HAV2.out.mono ?_; rintro e w' ⟨rfl, rfl⟩)
            go_roundw
            case rel => exact ⟨j + 1, kk, DD, by omega, by go_num, by rw [HNO.out], by have := HJS.out; omega, HO2.out, HS3.out, HG2.out⟩
            case measure => simp [intOf]; omega
          · rw [hb2] at hav
            have htl := fun w => tail_any y (by omega) w
            have hyes := cntK_yes (m := m) (n := n) (show avoidsB (e ++ strOf [ltr j]) ban = true by rw [hy]; exact hb2)
            obtain ⟨t, ht⟩ : ∃ t, tl3 y = t := ⟨_, rfl⟩
            have htw : wk3 t := by rw [← ht, ← hy]; exact tl3_ok HE.out hj4
            rw [ht] at htl
            rw [hy, ht] at hyes
            have hrc := HREC.out t htw wr kk DD (by have := HJS.out; omega) HWF2.out HO2.out HS3.out
            obtain ⟨ct, hct⟩ : ∃ x, cnt ban m n t = x := ⟨_, rfl⟩
            rw [hct] at hyes hrc
            rw [hyes] at hck
            have HAV2 := Lib.hid hav; have HYES := Lib.hid hyes; have HTL := Lib.hid htl; have HRC := Lib.hid hrc
            clear hav hb2 hyes htl ht hrc htw hct
            go_wp2_with (first
              | (go_at_call 25; refine HAV2.out.mono ?_; rintro e w' ⟨rfl, rfl⟩)
              | (go_at_call 28; refine (HTL.out _).mono ?_; rintro e w' ⟨rfl, rfl⟩)
              | (go_at_call 27; refine HRC.out.mono ?_; rintro e5 w5 ⟨rfl, k5, D5, hk5, own5, snd5, gr5⟩))
            go_roundw
            case rel => exact ⟨j + 1, k5, D5, by omega, by go_num, by rw [HYES.out]; rfl, by have := HJS.out; omega, own5, snd5, grownBy_trans HG2.out gr5⟩
            case measure => simp [intOf]; omega
        · have hjm2 : j = m := by omega
          subst hjm2
          have hput := HPUT.out DD HS3.out HO2.out.isMap
          have HP2 := Lib.hid hput
          rw [HCE.out]
          clear hput
          go_wp2_with (at_mapUpdate; refine wpList_mapUpdate_own _ rfl _ _ _ 57 rfl 9 3 law_s Tryd.underlying57 _ b kk DD rfl HO2.out (by unfold maxLen; omega) _ _ _ rfl rfl (ky_of (x := K) (by unfold maxLen; omega)) _ [] (plainElem_int Tryd.underlying3 (WalkArith.wf_i64 (by omega))) ?_; intro w7 own7 gr7)
          go_ret
          exact ⟨rfl, kk + 1, _, by rw [HST.out]; omega, own7, HP2.out, grownBy_trans HG2.out gr7⟩
    · have h2 := HS2.out hh
      have HH2 := Lib.hid h2
      clear h2
      have htb1 := HTB.out.below HWF.out.1
      have HTB1 := Lib.hid htb1
      clear htb1
      go_enter Tryd.func27, Tryd.ntmps27
      go_wp2_with (first
        | (go_at_call 40; refine (HFM.out _ HTB1.out).mono ?_; rintro e1 w1 ⟨rfl, b1⟩; obtain ⟨_, _, f3, f4, f5⟩ := HWF.out.grown (gr_below b1 (some b)) hb hpb)
        | (at_lookup; refine wpList_lookup_own_ok_int _ rfl _ _ 57 rfl 9 3 .i64 law_s Tryd.underlying57 Tryd.underlying3 (zero_int _) b k D rfl (HO.out.kept (gr_below b1 none) (by simp)) _ _ rfl (ky_of (x := K) (by unfold maxLen; omega)) ?_; intro v hat hwc))
      go_ret
      have hv := HH2.out
      rw [hat] at hv
      injection hv with hv
      injection hv with _ hv
      exact ⟨by rw [hv]; rfl, k, D, by omega, HO.out.kept (gr_below b1 none) (by simp), HS.out, gr_below b1 _⟩
end Go.Proofs.YtaihigaafjmpiaaDoor
