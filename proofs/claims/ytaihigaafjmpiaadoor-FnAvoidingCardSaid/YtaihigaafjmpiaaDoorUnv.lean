/- IsUnavoidable, both, walked. Asks the shelf's text (strings.Contains). No condition but the bounds. -/
import Derived.Test.YtaihigaafjmpiaaDoorUnp
import Derived.Test.YtaihigaafjmpiaaDoorSte
namespace Go.Proofs.YtaihigaafjmpiaaDoor
open Go.RowKit Go.Maps
set_option linter.unusedVariables false

theorem unV_bad {m : Int} {ban : List ByteArray} (h : ¬ (1 ≤ m ∧ m ≤ 4)) : unV m ban = false := by rw [unV, decide_eq_false h]; rfl
theorem unV_ban {m : Int} {ban : List ByteArray} (h : banOk ban = false) : unV m ban = false := by rw [unV, h, Bool.and_false]; rfl
theorem law_u : Keyed Tryd.prog 9 := string_keyed Tryd.underlying9
theorem ky_ou {x : ByteArray} (h : x.size ≤ maxLen) : keyOf Tryd.prog 9 (.string x) = some (ky x) := WideMaps.keyOf_string_mk Tryd.underlying9 h
/-- The next words while the words still to come are 'left', and k letters of the word e are done. -/
def NxL (ban : List ByteArray) (m : Nat) (es : List ByteArray) (left : Lit → Bool) (x : ByteArray) : Prop := ∃ e ∈ es, left (ky e) = false ∧ Nx ban m e x
def NxK (ban : List ByteArray) (m : Nat) (es : List ByteArray) (left : Lit → Bool) (e : ByteArray) (k : Nat) (x : ByteArray) : Prop := NxL ban m es left x ∨ Nx ban k e x
theorem nxL_start {ban : List ByteArray} {m : Nat} {es : List ByteArray} {D : DataW Unit} (h : KeyIs D (· ∈ es)) (x : ByteArray) : NxL ban m es (Maps.has D) x ↔ False :=
  ⟨fun ⟨e, he, hl, _⟩ => by (rw [(h e).2 he] at hl; cases hl), False.elim⟩
theorem nxL_end {ban : List ByteArray} {m : Nat} {es : List ByteArray} {left : Lit → Bool} (h : ∀ kl, left kl = false) (x : ByteArray) : NxL ban m es left x ↔ x ∈ nst ban m es := by
  rw [mem_nst]
  exact ⟨fun ⟨e, he, _, hn⟩ => ⟨e, he, hn⟩, fun ⟨e, he, hn⟩ => ⟨e, he, h _, hn⟩⟩
theorem nxK_zero {ban : List ByteArray} {m : Nat} {es : List ByteArray} {left : Lit → Bool} {e : ByteArray} (x : ByteArray) : NxK ban m es left e 0 x ↔ NxL ban m es left x :=
  ⟨fun h => h.elim id fun ⟨j, hj, _⟩ => by omega, .inl⟩
theorem nxK_no {ban : List ByteArray} {m k : Nat} {es : List ByteArray} {left : Lit → Bool} {e : ByteArray} (h : avoidsB (e ++ strOf [ltr k]) ban = false) (x : ByteArray) : NxK ban m es left e (k + 1) x ↔ NxK ban m es left e k x := by
  constructor
  · rintro (h1 | ⟨j, hj, h1, h2⟩)
    · exact .inl h1
    · by_cases e2 : j = k
      · subst e2; rw [h] at h1; cases h1
      · exact .inr ⟨j, by omega, h1, h2⟩
  · rintro (h1 | ⟨j, hj, h1, h2⟩)
    · exact .inl h1
    · exact .inr ⟨j, by omega, h1, h2⟩
theorem nxK_yes {ban : List ByteArray} {m k : Nat} {es : List ByteArray} {left : Lit → Bool} {e : ByteArray} (h : avoidsB (e ++ strOf [ltr k]) ban = true) (x : ByteArray) : NxK ban m es left e (k + 1) x ↔ NxK ban m es left e k x ∨ x = tl3 (e ++ strOf [ltr k]) := by
  constructor
  · rintro (h1 | ⟨j, hj, h1, h2⟩)
    · exact .inl (.inl h1)
    · by_cases e2 : j = k
      · subst e2; exact .inr h2
      · exact .inl (.inr ⟨j, by omega, h1, h2⟩)
  · rintro ((h1 | ⟨j, hj, h1, h2⟩) | h1)
    · exact .inl h1
    · exact .inr ⟨j, by omega, h1, h2⟩
    · exact .inr ⟨k, by omega, h, h1⟩
theorem nxK_end {ban : List ByteArray} {m : Nat} {es : List ByteArray} {left : Lit → Bool} {e : ByteArray} (he : e ∈ es) (x : ByteArray) : NxK ban m es left e m x ↔ NxL ban m es (fun z => left z && !z.sameKey (ky e)) x := by
  constructor
  · rintro (⟨f, hf, hl, hn⟩ | hn)
    · exact ⟨f, hf, by simp only [hl, Bool.false_and], hn⟩
    · exact ⟨e, he, by simp only [ky_same, decide_true, Bool.not_true, Bool.and_false], hn⟩
  · rintro ⟨f, hf, hl, hn⟩
    simp only [ky_same, Bool.and_eq_false_iff, Bool.not_eq_false', decide_eq_true_eq] at hl
    rcases hl with hl | hl
    · exact .inl ⟨f, hf, hl, hn⟩
    · subst hl; exact .inr hn
theorem nxK_wk {ban : List ByteArray} {m k : Nat} {es : List ByteArray} {left : Lit → Bool} {e : ByteArray} (hm : m ≤ 4) (hk : k ≤ 4) (hw : ∀ e ∈ es, wk3 e) (he : wk3 e) (x : ByteArray) (h : NxK ban m es left e k x) : wk3 x := by
  rcases h with ⟨f, hf, _, j, hj, _, rfl⟩ | ⟨j, hj, _, rfl⟩
  · exact tl3_ok (hw f hf) (by omega)
  · exact tl3_ok he (by omega)
theorem KeyIs.iff {D : DataW Unit} {S T : ByteArray → Prop} (h : KeyIs D S) (hi : ∀ x, S x ↔ T x) : KeyIs D T := fun x => (h x).trans (hi x)
set_option maxRecDepth 4000 in
set_option maxHeartbeats 1000000 in
theorem iUn_yes (m : Nat) (ban : List ByteArray) (A : Option Addr) (c B : Nat) (w : World) (hB : B ≤ w.heap.size) (h1 : 1 ≤ m) (hm : m ≤ 4) (hok : banOk ban = true) (hrd : Rds w B A (ban.map Value.string)) (hml : MlOk w) :
    Calls Tryd.prog 16 #[.int .i64 m, .slice A ban.length c] w fun e w' => e = .returned (.bool (ess ban m 68).isEmpty) ∧ Below w.heap.size w w' := by
  have h8 := banOk_len hok
  have hsz := ban_size4 hok
  obtain ⟨bn, hbn⟩ : ∃ n, ban.length = n := ⟨_, rfl⟩
  obtain ⟨R, hR⟩ : ∃ R, (ess ban m 68).isEmpty = R := ⟨_, rfl⟩
  have hbo := fun w' r => iBanOk_any ban A c B w' (by omega) (fun s hs => by have := hsz s hs; unfold maxLen; omega) r
  have hes := ess_ok ban hm
  have hav := fun s (hs : s.size ≤ 1048576) w' (hr : Rds w' B A (ban.map Value.string)) (h : MlOk w') => avoids_any s ban A c B w' hs (by omega) hsz hr h
  rw [hok] at hbo
  rw [hbn] at hav hbo h8
  rw [hR, hbn]
  have hmm := @run_makeMap Tryd.prog
  have HR := Lib.hid hR; have HBO := Lib.hid hbo; have HES := Lib.hid hes; have HAV := Lib.hid hav; have HRD := Lib.hid hrd; have HML := Lib.hid hml
  clear hR hbo hes hav hrd hok hsz hbn hml
  go_enter Tryd.func16, Tryd.ntmps16
  go_wp2_with (first
    | (go_at_call 34; refine (within_yes _ _ _ ⟨by omega, by omega⟩ _).mono ?_; rintro e w' ⟨rfl, rfl⟩)
    | (go_at_call 11; refine (HBO.out _ HRD.out).mono ?_; rintro e w1 ⟨rfl, d1⟩)
    | (refine wpList_insert_own _ rfl _ _ _ 51 rfl 9 4 law_u Tryd.underlying51 tE w1.heap.size 0 (.map []) rfl (World.ownsMap_made w1 _ _ _) (by unfold maxLen; omega) _ _ _ rfl rfl (ky_ou (x := ByteArray.empty) (by decide)) _ [] tE_mk ?_; intro w2 own2 gr2))
  have hz1 := (d1.below (B := 0)).size
  have key2 : KeyIs ((DataW.map []).put (ky ByteArray.empty) (.lit (.bool true))) (· ∈ ess ban m 0) := key_put (Maps.isMap_empty) key_none _ _ fun x => by
    rw [ess_zero, List.mem_singleton]; exact ⟨.inr, fun h => h.elim False.elim id⟩
  have bel2 : Below w.heap.size w w2 := (d1.below.trans ((Below.refl _ _).alloc hz1 _)).grown gr2 (by simp; omega) (fun k hk => by injection hk with hk; omega)
  have OWN2 := Lib.hid own2; have KEY2 := Lib.hid key2
  clear own2 key2 gr2
  go_loopw [5, 6, 7, 8, 9, 20] (fun v _ _ _ _ i wr => ∃ k b n : Nat, ∃ D, k ≤ 68 ∧ i = .int .i64 k ∧ v = .map (some b) ∧ w.heap.size ≤ b ∧ wr.ownsMap Tryd.prog 9 tE b n D ∧ KeyIs D (· ∈ ess ban m k) ∧ Below w.heap.size w wr) (fun _ _ _ _ _ i _ => 68 - (intOf i).toNat)
  case atStart => exact ⟨0, w1.heap.size, _, _, by omega, rfl, rfl, hz1, OWN2.out, KEY2.out, bel2⟩
  case round =>
    clear OWN2 KEY2 bel2
    obtain ⟨k, b, n, D, hk, rfl, rfl, hb, hown, hkey, hbel⟩ := hrel
    have HO := Lib.hid hown; have HK := Lib.hid hkey
    clear hown hkey
    by_cases hlt : k < 68
    · have hk68 : (k : Int) < 68 := by omega
      have hzr := hbel.size
      obtain ⟨wo, hwo⟩ : ∃ x, x = wr := ⟨_, rfl⟩
      subst hwo
      have hwk := (HES.out k).1
      obtain ⟨es, hes⟩ : ∃ es, ess ban m k = es := ⟨_, rfl⟩
      have hnx := ess_succ ban m k
      rw [hes] at hwk HK hnx
      have HNX := Lib.hid hnx; have HWK := Lib.hid hwk
      clear hnx hes hwk
      have hown1 := HO.out.alloc (.map #[] 0)
      have hmd := World.ownsMap_made wo Tryd.prog 9 tE
      have hbel1 : Below w.heap.size w (wo.alloc (.map #[] 0)) := hbel.trans ((Below.refl _ _).alloc hzr _)
      have hblt := HO.out.lt
      have HO1 := Lib.hid hown1; have HMD := Lib.hid hmd
      clear hown1 hmd
      go_wp2_with (at_range; refine wpList_range_own _ rfl _ 51 rfl 9 4 law_u Tryd.underlying51 _ b n D rfl HO1.out ?_; intro w3 hrg3 hg3 hs3)
      go_frame
      rw [show (wo.alloc (.map #[] 0)).heap.size = wo.heap.size + 1 from by simp] at hrg3 ⊢
      have hmd3 := HMD.out.kept hg3 (by simp)
      have hbel3 : Below w.heap.size w w3 := hbel1.grown hg3 (by simp; omega) (fun j hj => by cases hj)
      have HRG3 := Lib.hid hrg3; have HMD3 := Lib.hid hmd3
      clear hrg3 hmd3 hg3 hs3
      go_loopw [7, 8, 9] (fun _ _ _ w4 => ∃ left cnt n2 D2, w4.ranges Tryd.prog 9 tE b (wo.heap.size + 1) n D left cnt ∧ w4.ownsMap Tryd.prog 9 tE wo.heap.size n2 D2 ∧ n2 ≤ 125 ∧ KeyIs D2 (NxL ban m es left) ∧ Below w.heap.size w w4) (fun _ _ _ w4 => w4.rangeLeft b (wo.heap.size + 1))
      case atStart => exact ⟨_, _, _, _, HRG3.out, HMD3.out, by omega, key_none.iff fun x => (nxL_start HK.out x).symm, hbel3⟩
      case round =>
        clear HRG3 HMD3 hbel3
        obtain ⟨left, cnt, n2, D2, hrg, hmp, hn2, hkey, hbel4⟩ := hrel
        have HRG := Lib.hid hrg; have HMP := Lib.hid hmp; have HKY := Lib.hid hkey
        clear hrg hmp hkey
        go_wp2_with (at_next; refine wpList_next_ranges _ rfl _ rfl 9 law_u tE encStr (fun _ : Unit => Value.bool true) (fun key kl hk => by obtain ⟨x, hx, _⟩ := Maps.keyOf_str Tryd.underlying9 hk; exact ⟨x, hx⟩) (fun v y hv => ⟨(), tE_inv hv⟩) b (wo.heap.size + 1) n D left cnt rfl HRG.out ?_ ?_)
        · intro hc0 hl0
          have hk2 := HKY.out.iff fun x => nxL_end hl0 x
          rw [← HNX.out] at hk2
          have HK2 := Lib.hid hk2
          clear hk2 hl0
          go_wp2_with fail
          go_roundw
          case rel => exact ⟨k + 1, _, n2, D2, by omega, by go_num, rfl, hzr, HMP.out, HK2.out, hbel4⟩
          case measure => simp [intOf]; omega
        · intro x kl yd yp w5 cnt2 hkx hlk hv hat hrg2 hlt2 hg2 hs2 hen
          obtain ⟨x', ex, rfl, hxl⟩ := Maps.keyOf_str Tryd.underlying9 hkx
          obtain rfl : x = x' := encStr_inj ex
          obtain ⟨e, he⟩ : ∃ e : ByteArray, (⟨x.toArray⟩ : ByteArray) = e := ⟨_, rfl⟩
          have hky : Lit.string x = ky e := by rw [← he]
          have hex : encStr x = .string e := by rw [← he]
          rw [hky] at hlk hat hrg2
          rw [hex] at hen ⊢
          have hin : e ∈ es := (HK.out e).1 (Maps.has_true_of_atKey hat)
          have hew := HWK.out e hin
          have he3 : e.size ≤ 3 := hew.1
          have hmp5 := HMP.out.kept hg2 (by simp)
          have hbel5 : Below w.heap.size w w5 := hbel4.grown hg2 (by have := hbel4.size; omega) (fun j hj => by cases hj; omega)
          have HIN := Lib.hid hin; have HEW := Lib.hid hew; have HRG5 := Lib.hid hrg2; have HMP5 := Lib.hid hmp5
          have hab := fun j (h : j < 4) => abc_at j h
          have HAB := Lib.hid hab
          have hmes : cnt2 < wr.rangeLeft b (wo.heap.size + 1) := by rw [HRG.out.left_eq]; exact hlt2
          have HMES := Lib.hid hmes
          clear hin hew hrg2 hmp5 hat hkx hv hlk hg2 hs2 hab hlt2 hmes ex hky hex hxl he hbel4
          go_wp2_with fail
          obtain ⟨w4, hw4⟩ : ∃ x, x = wr := ⟨_, rfl⟩
          subst hw4
          go_loopw [8, 9, 30] (fun _ _ i w6 => ∃ j n3 D3, j ≤ m ∧ i = .int .i64 (j : Nat) ∧ w6.ranges Tryd.prog 9 tE b (wo.heap.size + 1) n D (fun z => left z && !z.sameKey (ky e)) cnt2 ∧ w6.ownsMap Tryd.prog 9 tE wo.heap.size n3 D3 ∧ n3 ≤ 125 ∧ KeyIs D3 (NxK ban m es left e j) ∧ Below w.heap.size w w6) (fun _ _ i _ => m - (intOf i).toNat)
          case atStart => exact ⟨0, n2, D2, by omega, rfl, HRG5.out, HMP5.out, hn2, HKY.out.iff fun x => (nxK_zero x).symm, hbel5⟩
          case round =>
            clear HRG5 HMP5 hn2 HKY HRG HMP hbel5
            obtain ⟨j, n3, D3, hj, rfl, hrg6, hmp6, hn3, hkey6, hbel6⟩ := hrel
            have HRG6 := Lib.hid hrg6; have HMP6 := Lib.hid hmp6; have HKY6 := Lib.hid hkey6
            clear hrg6 hmp6 hkey6
            by_cases hjm : j < m
            · have hj4 : j < 4 := by omega
              have hab := HAB.out j hj4
              have hj5 : (j : Int) + 1 ≤ 4 := by omega
              have hjm5 : (j : Int) < (m : Int) := by omega
              obtain ⟨y, hy⟩ : ∃ y, e ++ strOf [ltr j] = y := ⟨_, rfl⟩
              have hsd : (strOf [ltr j]).size = 1 := rfl
              have hys : y.size ≤ 4 := by rw [← hy, ByteArray.size_append, hsd]; omega
              have hav := HAV.out y (by omega) _ (HRD.out.below hbel6 hB) (HML.out.below hbel6)
              cases hb : avoidsB y ban
              · rw [hb] at hav
                have hkey7 := HKY6.out.iff fun x => (nxK_no (m := m) (es := es) (left := left) (by rw [hy]; exact hb) x).symm
                have HAV2 := Lib.hid hav; have HKY7 := Lib.hid hkey7
                clear hav hb hkey7
                go_wp2_with (go_at_call 25; refine HAV2.out.mono ?_; rintro e w' ⟨rfl, rfl⟩)
                go_roundw
                case rel => exact ⟨j + 1, n3, D3, by omega, by go_num, HRG6.out, HMP6.out, hn3, HKY7.out, hbel6⟩
                case measure => simp [intOf]; omega
              · rw [hb] at hav
                have htl := fun w => tail_any y (by omega) w
                have hyes := fun x => nxK_yes (m := m) (es := es) (left := left) (show avoidsB (e ++ strOf [ltr j]) ban = true by rw [hy]; exact hb) x
                have hwk7 := fun x => nxK_wk (ban := ban) (left := left) (m := m) (k := j + 1) hm (by omega) HWK.out HEW.out x
                obtain ⟨t, ht⟩ : ∃ t, tl3 y = t := ⟨_, rfl⟩
                have hts : t.size ≤ maxLen := by rw [← ht, tl3, ByteArray.size_extract]; unfold maxLen; omega
                rw [ht] at htl
                rw [hy, ht] at hyes
                have HAV2 := Lib.hid hav; have HYES := Lib.hid hyes; have HTL := Lib.hid htl; have HWK7 := Lib.hid hwk7
                clear hav hb hyes htl ht hwk7
                go_wp2_with (first
                  | (go_at_call 25; refine HAV2.out.mono ?_; rintro e w' ⟨rfl, rfl⟩)
                  | (go_at_call 28; refine (HTL.out _).mono ?_; rintro e w' ⟨rfl, rfl⟩)
                  | (at_mapUpdate; refine wpList_mapUpdate_own _ rfl _ _ _ 51 rfl 9 4 law_u Tryd.underlying51 tE wo.heap.size n3 D3 rfl HMP6.out (by unfold maxLen; omega) _ _ _ rfl rfl (ky_ou hts) _ [] tE_mk ?_; intro w7 own7 gr7))
                have hrg7 := HRG6.out.kept gr7 (by simp; omega) (by simp)
                have hkey7 := (key_put HMP6.out.isMap HKY6.out t (.lit (.bool true)) HYES.out)
                have hs7 := own_size3 own7 law_u Tryd.underlying9 hkey7 HWK7.out
                have own8 := own_tight own7
                have hbel7 : Below w.heap.size w w7 := hbel6.grown gr7 (by have := hbel6.size; omega) (fun j hj => by injection hj with hj; omega)
                have HRG7 := Lib.hid hrg7; have HKY7 := Lib.hid hkey7; have HMP7 := Lib.hid own8
                clear hrg7 hkey7 own7 own8 gr7
                go_wp2_with fail
                go_roundw
                case rel => exact ⟨j + 1, _, _, by omega, by go_num, HRG7.out, HMP7.out, hs7, HKY7.out, hbel7⟩
                case measure => simp [intOf]; omega
            · have hjm2 : j = m := by omega
              subst hjm2
              have hkey7 := HKY6.out.iff fun x => nxK_end HIN.out x
              have HKY7 := Lib.hid hkey7
              clear hkey7
              go_wp2_with fail
              go_roundw
              case rel => exact ⟨_, cnt2, n3, D3, HRG6.out, HMP6.out, hn3, HKY7.out, hbel6⟩
              case measure => rw [HRG6.out.left_eq]; exact HMES.out
    · have hk68 : k = 68 := by omega
      subst hk68
      have hemp := own_empty HO.out law_u Tryd.underlying9 HK.out
      rw [HR.out] at hemp
      have hres : (decide ((Maps.size D : Int) = 0)) = R := by
        by_cases h0 : Maps.size D = 0
        · rw [hemp.1 h0, h0]; rfl
        · have : R = false := by cases R; rfl; exact absurd (hemp.2 rfl) h0
          rw [this]; exact decide_eq_false (by omega)
      have HRES := Lib.hid hres
      clear hemp hres
      go_wp2_with (at_len; refine wpList_len_own _ rfl _ 51 rfl 9 4 Tryd.underlying51 _ b n D rfl HO.out ?_)
      go_ret
      exact ⟨ret_bool HRES.out, hbel⟩
theorem iUn_any (m : Int) (hm : I64 m) (ban : List ByteArray) (A : Option Addr) (c B : Nat) (w : World) (hB : B ≤ w.heap.size) (hn : ban.length ≤ 4294967296) (hsz : ∀ s ∈ ban, s.size ≤ maxLen) (hrd : Rds w B A (ban.map Value.string)) (hml : MlOk w) :
    Calls Tryd.prog 16 #[.int .i64 m, .slice A ban.length c] w fun e w' => e = .returned (.bool (unV m ban)) ∧ Below w.heap.size w w' := by
  by_cases h1 : 1 ≤ m ∧ m ≤ 4
  · cases h2 : banOk ban
    · rw [unV_ban h2]
      have hbo := fun w' r => iBanOk_any ban A c B w' hn hsz r
      rw [h2] at hbo
      have HBO := Lib.hid hbo; have HRD := Lib.hid hrd
      clear hbo hrd hsz h2 hml
      go_enter Tryd.func16, Tryd.ntmps16
      go_wp2_with (first
        | (go_at_call 34; refine (within_yes _ _ _ ⟨by omega, by omega⟩ _).mono ?_; rintro e w' ⟨rfl, rfl⟩)
        | (go_at_call 11; refine (HBO.out _ HRD.out).mono ?_; rintro e w1 ⟨rfl, d1⟩))
      go_ret
      exact ⟨rfl, d1.below⟩
    · obtain ⟨k, rfl⟩ : ∃ k : Nat, m = (k : Int) := ⟨m.toNat, by omega⟩
      refine (iUn_yes k ban A c B w hB (by omega) (by omega) h2 hrd hml).mono ?_
      rintro e w1 ⟨rfl, b⟩
      exact ⟨ret_bool (by rw [unV, decide_eq_true h1, h2, Bool.true_and, Bool.true_and, Int.toNat_natCast]), b⟩
  · rw [unV_bad h1]
    have H1 := Lib.hid h1
    clear h1 hrd hsz hml
    go_enter Tryd.func16, Tryd.ntmps16
    go_wp2_with (go_at_call 34; refine (within_no _ _ _ H1.out _).mono ?_; rintro e w' ⟨rfl, rfl⟩)
    go_ret
    exact ⟨rfl, Below.refl _ _⟩
end Go.Proofs.YtaihigaafjmpiaaDoor
