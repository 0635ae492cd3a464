/- CountAvoiding, both, walked. Asks the shelf's text. No condition but the bounds. -/
import Derived.Test.YtfkdkcipnkkplaaDoorCav
namespace Go.Proofs.YtfkdkcipnkkplaaDoor
open Go.RowKit Go.Maps
set_option linter.unusedVariables false

/-- The words i letters behind v, with their numbers. -/
def itP (ban : List ByteArray) (m : Nat) (v : ByteArray) : Nat → List (ByteArray × Nat)
  | 0 => [(tl3 v, 1)]
  | i + 1 => stp ban m (itP ban m v i)
def abcd (v : ByteArray) : Prop := ∀ c ∈ L v, 97 ≤ c.toNat ∧ c.toNat ≤ 100
theorem tl3_wk {v : ByteArray} (h : abcd v) : wk3 (tl3 v) := by
  refine ⟨by unfold tl3; rw [ByteArray.size_extract]; omega, fun c hc => ?_⟩
  rw [tl3, L_extract] at hc
  exact h c (List.mem_of_mem_take (List.mem_of_mem_drop hc))
theorem itP_ok {ban : List ByteArray} {m : Nat} {v : ByteArray} (hm : m ≤ 4) (hv : abcd v) : ∀ (i : Nat), (∀ x ∈ nms (itP ban m v i), wk3 x) ∧ (itP ban m v i).length ≤ 125 ∧ sm (itP ban m v i) ≤ 4 ^ i
  | 0 => ⟨fun x hx => by
      have : x = tl3 v := by simpa [itP, nms] using hx
      rw [this]; exact tl3_wk hv, by simp [itP], by simp [itP, sm, cns]⟩
  | i + 1 => by
    obtain ⟨h1, h2, h3⟩ := itP_ok (ban := ban) hm hv i
    have hw : WK (stp ban m (itP ban m v i)) := WK.stE hm h1 WK.nil
    refine ⟨hw.2, hw.len, ?_⟩
    have h4 := sm_stE ban m (itP ban m v i) []
    have h5 : m * sm (itP ban m v i) ≤ 4 * 4 ^ i := Nat.mul_le_mul hm h3
    have h6 : sm [] = 0 := rfl
    rw [itP, stp, Nat.pow_succ]; omega
theorem itP_val (ban : List ByteArray) (m : Nat) (v : ByteArray) : ∀ (i k : Nat), val (cnt ban m k) (itP ban m v i) = cnt ban m (k + i) (tl3 v)
  | 0, k => by simp [itP, val]
  | i + 1, k => by
    rw [itP, val_stp, itP_val ban m v i (k + 1)]
    congr 1; omega
theorem itP_sum (ban : List ByteArray) (m : Nat) (v : ByteArray) (n : Nat) : (cns (itP ban m v n)).sum = cnt ban m n (tl3 v) := by
  have h := itP_val ban m v n 0
  rw [Nat.zero_add] at h
  rw [← h, val, cns]
  congr 1
  exact List.map_congr_left fun x _ => by simp [cnt]
theorem sum_take {l : List Nat} {i x : Nat} (h : l[i]? = some x) : (l.take (i + 1)).sum = (l.take i).sum + x := by
  rw [List.take_add_one, h]; simp
theorem sum_take_le (l : List Nat) (i : Nat) : (l.take i).sum ≤ l.sum := by
  have : l.sum = (l.take i).sum + (l.drop i).sum := by rw [← List.sum_append, List.take_append_drop]
  omega
attribute [irreducible] itP
set_option maxRecDepth 4000 in
set_option maxHeartbeats 2000000 in
theorem l28Count_any (v : ByteArray) (hv : v.size ≤ 100) (ha : abcd v) (n m : Nat) (hn : n ≤ 18) (hm : m ≤ 4) (ban : List ByteArray) (A : Option Addr) (c B : Nat) (w : World) (hB : B ≤ w.heap.size) (hok : banOk ban = true) (hrd : Rds w B A (ban.map Value.string)) :
    Calls Tryd.prog 46 #[.string v, .int .i64 n, .int .i64 m, .slice A ban.length c] w fun e w' => e = .returned (.int .i64 (cnt ban m n (tl3 v))) ∧ Below w.heap.size w w' := by
  have h8 := banOk_len hok
  have hsz := ban_size4 hok
  have hi0 : itP ban m v 0 = [(tl3 v, 1)] := by unfold itP; rfl
  have his : ∀ i, stp ban m (itP ban m v i) = itP ban m v (i + 1) := fun i => by
    rw [show itP ban m v (i + 1) = stp ban m (itP ban m v i) from by rw [itP]]
  have hes := fun i => itP_ok (ban := ban) hm ha i
  have hsum := itP_sum ban m v n
  have hcb := Nat.le_trans (cnt_le ban m hm n (tl3 v)) (pow18 hn)
  obtain ⟨bn, hbn⟩ : ∃ n, ban.length = n := ⟨_, rfl⟩
  obtain ⟨C, hC⟩ : ∃ C, cnt ban m n (tl3 v) = C := ⟨_, rfl⟩
  obtain ⟨t, ht⟩ : ∃ t, tl3 v = t := ⟨_, rfl⟩
  rw [hC] at hsum hcb ⊢
  rw [ht] at hi0
  have htl : v.extract (v.size - 3) v.size = t := ht
  have hst := fun i A1 A2 c1 c2 (B' : Nat) w' (hB' : B' ≤ w'.heap.size) (hi : i ≤ 18) (r1 : Rds w' B' A1 ((nms (itP ban m v i)).map Value.string)) (r2 : Rds w' B' A2 ((cns (itP ban m v i)).map iN)) (r3 : Rds w' B' A (ban.map Value.string)) =>
    l28Step_any (itP ban m v i) ban m A1 A2 A c1 c2 c B' w' hB' hm (hes i).1 (hes i).2.1 (Nat.le_trans (hes i).2.2 (Nat.le_trans (pow18 hi) (by decide))) h8 hsz r1 r2 r3
  simp only [his, hbn] at hst
  rw [hbn]
  have hmx := maxl v.size
  have hle : ((v.size - 3 : Nat) : Int) ≤ (v.size : Int) := by omega
  have HES := Lib.hid hes; have HST := Lib.hid hst; have HRD := Lib.hid hrd; have HI0 := Lib.hid hi0; have HSUM := Lib.hid hsum
  clear hes hst hrd hok hsz hbn hi0 his hsum hC ht ha h8
  go_enter Tryd.func46, Tryd.ntmps46
  go_wp2_with fail
  go_loopw [9, 10, 11] (fun a b i wr => ∃ k g ca g2 cb my : Nat, k ≤ n ∧ i = .int .i64 k ∧ a = .slice (some ⟨g, 0, none⟩) my ca ∧ b = .slice (some ⟨g2, 0, none⟩) my cb ∧ (itP ban m v k).length = my ∧ Own wr w.heap.size 9 (.slice (some ⟨g, 0, none⟩) my ca) ((nms (itP ban m v k)).map Value.string) ∧ Own wr w.heap.size 3 (.slice (some ⟨g2, 0, none⟩) my cb) ((cns (itP ban m v k)).map iN) ∧ Below w.heap.size w wr) (fun _ _ i _ => n - (intOf i).toNat)
  case atStart =>
    have ho := Own.one (w := w) (B := w.heap.size) (E := 9) (u := .string t) (Nat.le_refl _)
    have bA : Below (w.alloc (.cells #[.string t] 9)).heap.size (w.alloc (.cells #[.string t] 9)) ((w.alloc (.cells #[.string t] 9)).alloc (.cells #[.int .i64 1] 3)) := (Below.refl _ _).alloc (Nat.le_refl _) _
    have ho2 := ho.below bA
    have hz : (w.alloc (.cells #[.string t] 9)).heap.size = w.heap.size + 1 := by simp
    have ho3 := Own.one (w := w.alloc (.cells #[.string t] 9)) (B := w.heap.size) (E := 3) (u := .int .i64 1) (by omega)
    rw [hz] at ho3
    exact ⟨0, w.heap.size, 1, w.heap.size + 1, 1, 1, by omega, rfl, rfl, rfl, by rw [HI0.out]; rfl, by rw [HI0.out]; exact ho2, by rw [HI0.out]; exact ho3, ((Below.refl _ _).alloc (Nat.le_refl _) _).trans (bA.mono (by omega))⟩
  case round =>
    obtain ⟨k, g, ca, g2, cb, my, hk, rfl, rfl, rfl, hmy, hown, hown2, hbel⟩ := hrel
    have HMY := Lib.hid hmy; have HO := Lib.hid hown; have HO2 := Lib.hid hown2
    clear hmy hown hown2
    have hzr := hbel.size
    by_cases hlt : k < n
    · have hst := HST.out k (some ⟨g, 0, none⟩) (some ⟨g2, 0, none⟩) ca cb _ wr (Nat.le_refl _) (by omega) HO.out.reads HO2.out.reads ((HRD.out.below hbel hB).more (Nat.le_trans hB hzr))
      rw [HMY.out] at hst
      obtain ⟨my2, hmy2⟩ : ∃ x, (itP ban m v (k + 1)).length = x := ⟨_, rfl⟩
      rw [hmy2] at hst
      have HCL := Lib.hid hst; have HMY2 := Lib.hid hmy2
      clear hst hmy2
      go_wp2_with fail
      refine HCL.out.mono ?_
      rintro e w2 ⟨g3, c3, g4, c4, rfl, o3, o4, b2⟩
      have hb3 := hbel.trans (b2.mono hzr)
      have HO3 := Lib.hid (o3.lower hzr); have HO4 := Lib.hid (o4.lower hzr)
      clear o3 o4 b2
      go_wp2_with fail
      go_roundw
      case rel => exact ⟨k + 1, g3, c3, g4, c4, my2, by omega, by go_num, rfl, rfl, HMY2.out, HO3.out, HO4.out, hb3⟩
      case measure => simp [intOf]; omega
    · have hkn : k = n := by omega
      subst hkn
      have hrd2 := HO2.out.reads
      have hlen := cns_len (itP ban m v k)
      rw [HMY.out] at hlen
      have hmb := (HES.out k).2.1
      rw [HMY.out] at hmb
      obtain ⟨R, hR⟩ : ∃ R, cns (itP ban m v k) = R := ⟨_, rfl⟩
      have hs := HSUM.out
      rw [hR] at hrd2 hlen hs
      have HRD2 := Lib.hid hrd2; have HLEN := Lib.hid hlen; have HS := Lib.hid hs
      clear hrd2 hlen hR hs
      go_wp2_with fail
      go_loop [12, 14, 38] (fun s _ i => ∃ j, j ≤ my ∧ i = .int .i64 (j : Nat) ∧ s = .int .i64 ((R.take j).sum : Nat)) (fun _ _ i => my - (intOf i).toNat)
      case atStart => exact ⟨0, by omega, rfl, rfl⟩
      case round =>
        obtain ⟨j, hj, rfl, rfl⟩ := hrel
        by_cases hlt2 : j < my
        · obtain ⟨x, hx⟩ := some_of_lt (l := R) (k := j) (by rw [HLEN.out]; exact hlt2)
          obtain ⟨ad, hA, hc⟩ := HRD2.out.at_ (map_at iN hx)
          injection hA with hA
          subst hA
          have hc2 : wr.cell? ⟨g2, j, none⟩ = some (iN x) := by
            rcases Nat.eq_zero_or_pos j with h0 | h0
            · subst h0; simpa [Addr.add] using hc
            · simpa [Addr.add, show j ≠ 0 by omega] using hc
          clear hc
          have hsx := sum_take hx
          have hsb := sum_take_le R (j + 1)
          rw [HS.out, hsx] at hsb
          obtain ⟨y, hy⟩ : ∃ y, (R.take j).sum = y := ⟨_, rfl⟩
          rw [hy] at hsx hsb ⊢
          have HSX := Lib.hid hsx
          clear hx hsx hy
          go_wp2_with fail
          go_round
          case rel => exact ⟨j + 1, by omega, by go_num, by rw [HSX.out]; go_num⟩
          case measure => simp [intOf]; omega
        · have hfin : (R.take j).sum = C := by rw [List.take_of_length_le (by rw [HLEN.out]; omega)]; exact HS.out
          rw [hfin]
          clear hfin
          go_wp2_with fail
          go_ret
          exact ⟨rfl, hbel⟩
def caOk (m n : Int) (ban : List ByteArray) : Bool := decide (1 ≤ m ∧ m ≤ 4) && decide (0 ≤ n ∧ n ≤ 18) && banOk ban
def caV (m n : Int) (ban : List ByteArray) : Int := if caOk m n ban then (cnt ban m.toNat n.toNat ByteArray.empty : Int) else -1
theorem caV_yes {m n : Int} {ban : List ByteArray} (h : caOk m n ban = true) : caV m n ban = (cnt ban m.toNat n.toNat ByteArray.empty : Int) := by rw [caV, if_pos h]
theorem caV_no {m n : Int} {ban : List ByteArray} (h : ¬ caOk m n ban = true) : caV m n ban = -1 := by rw [caV, if_neg h]
theorem caOk_split {m n : Int} {ban : List ByteArray} (h : caOk m n ban = true) : (1 ≤ m ∧ m ≤ 4) ∧ (0 ≤ n ∧ n ≤ 18) ∧ banOk ban = true := by
  simp only [caOk, Bool.and_eq_true, decide_eq_true_eq] at h
  exact ⟨h.1.1, h.1.2, h.2⟩
theorem tl3_empty : tl3 ByteArray.empty = ByteArray.empty := by decide
theorem abcd_empty : abcd ByteArray.empty := fun c hc => by simp [L] at hc
set_option maxHeartbeats 1000000 in
theorem sCa_any (m n : Int) (ban : List ByteArray) (A : Option Addr) (c B : Nat) (w : World) (hB : B ≤ w.heap.size) (hl : ban.length ≤ 4294967296) (hsz : ∀ s ∈ ban, s.size ≤ maxLen) (hrd : Rds w B A (ban.map Value.string)) :
    Calls Tryd.prog 18 #[.int .i64 m, .int .i64 n, .slice A ban.length c] w fun e w' => e = .returned (.int .i64 (caV m n ban)) ∧ Below w.heap.size w w' := by
  have hbo := fun w' r => sBanOk_any ban A c B w' hl hsz r
  by_cases h1 : 1 ≤ m ∧ m ≤ 4
  · by_cases h2 : 0 ≤ n ∧ n ≤ 18
    · cases h3 : banOk ban
      · rw [h3] at hbo
        rw [caV_no (by rw [caOk, h3, Bool.and_false]; simp)]
        have HBO := Lib.hid hbo; have HRD := Lib.hid hrd
        clear hbo hrd hsz h3
        go_enter Tryd.func18, Tryd.ntmps18
        go_wp2_with (first
          | (go_at_call 44; refine (l01In_yes _ _ _ ⟨by omega, by omega⟩ _).mono ?_; rintro e w' ⟨rfl, rfl⟩)
          | (go_at_call 45; refine (HBO.out _ HRD.out).mono ?_; rintro e w1 ⟨rfl, d1⟩))
        go_ret
        exact ⟨rfl, d1.below⟩
      · rw [h3] at hbo
        rw [caV_yes (by rw [caOk, h3, decide_eq_true h1, decide_eq_true h2]; rfl)]
        obtain ⟨k, rfl⟩ : ∃ k : Nat, m = (k : Int) := ⟨m.toNat, by omega⟩
        obtain ⟨j, rfl⟩ : ∃ k : Nat, n = (k : Int) := ⟨n.toNat, by omega⟩
        have hcn := fun w' hB' r => l28Count_any ByteArray.empty (by decide) abcd_empty j k (by omega) (by omega) ban A c B w' hB' h3 r
        simp only [tl3_empty] at hcn
        simp only [Int.toNat_natCast]
        have HBO := Lib.hid hbo; have HRD := Lib.hid hrd; have HCN := Lib.hid hcn
        clear hbo hrd hsz h3 hcn
        go_enter Tryd.func18, Tryd.ntmps18
        go_wp2_with (first
          | (go_at_call 44; refine (l01In_yes _ _ _ ⟨by omega, by omega⟩ _).mono ?_; rintro e w' ⟨rfl, rfl⟩)
          | (go_at_call 45; refine (HBO.out _ HRD.out).mono ?_; rintro e w1 ⟨rfl, d1⟩)
          | (go_at_call 46; refine (HCN.out _ (Nat.le_trans hB (d1.below (B := 0)).size) (HRD.out.dr d1)).mono ?_; rintro e w2 ⟨rfl, b2⟩))
        go_ret
        exact ⟨rfl, d1.below.trans (b2.mono (d1.below (B := 0)).size)⟩
    · rw [caV_no (by rw [caOk, decide_eq_false h2]; simp)]
      have H2 := Lib.hid h2
      clear h2 hbo hrd hsz
      go_enter Tryd.func18, Tryd.ntmps18
      go_wp2_with (first
        | (go_at_call_of 44 m; refine (l01In_yes _ _ _ ⟨by omega, by omega⟩ _).mono ?_; rintro e w' ⟨rfl, rfl⟩)
        | (go_at_call 44; refine (l01In_no _ _ _ H2.out _).mono ?_; rintro e w' ⟨rfl, rfl⟩))
      go_ret
      exact ⟨rfl, Below.refl _ _⟩
  · rw [caV_no (by rw [caOk, decide_eq_false h1]; simp)]
    have H1 := Lib.hid h1
    clear h1 hbo hrd hsz
    go_enter Tryd.func18, Tryd.ntmps18
    go_wp2_with (go_at_call 44; refine (l01In_no _ _ _ H1.out _).mono ?_; rintro e w' ⟨rfl, rfl⟩)
    go_ret
    exact ⟨rfl, Below.refl _ _⟩
theorem nw_world {w w1 : World} {m : Int} {A : Option Addr} {bn c : Nat} {T : TypeId} (d : Dr ((w.alloc (.map #[] 0)).alloc (.cells #[.int .i64 m, .slice A bn c, .map (some w.heap.size)] T)) w1) :
    Below w.heap.size w w1 ∧ (∀ k : Nat, m = (k : Int) → WF w (w.heap.size + 1) w.heap.size k A bn c w1) ∧ w1.ownsMap Tryd.prog 9 (plainElem (H := Unit) Tryd.prog 3) w.heap.size 0 (.map []) := by
  have hb : Below w.heap.size w w1 := (((Below.refl _ _).alloc (Nat.le_refl _) _).alloc (by simp) _).trans d.below
  have hs := (d.below (B := 0)).size
  have hz : ((w.alloc (.map #[] 0)).alloc (.cells #[.int .i64 m, .slice A bn c, .map (some w.heap.size)] T)).heap.size = w.heap.size + 2 := by simp
  have hc := fun q (hq : q < 3) => d.below.cell (B := w.heap.size + 2) (p := ⟨w.heap.size + 1, q, none⟩) (by simp)
  refine ⟨hb, fun k hk => ⟨hb, by omega, ?_, ?_, ?_⟩, ((World.ownsMap_made w Tryd.prog _ _).alloc _).kept (gr_below d.below none) (by simp)⟩
  · rw [hc 0 (by omega), ← hk]; simp
  · rw [hc 1 (by omega)]; simp
  · rw [hc 2 (by omega)]; simp
set_option maxHeartbeats 1000000 in
theorem newWalk_any (m n : Int) (ban : List ByteArray) (A : Option Addr) (c : Nat) (w : World) (hl : ban.length ≤ 4294967296) (hsz : ∀ s ∈ ban, s.size ≤ maxLen) (hrd : Rds w w.heap.size A (ban.map Value.string)) :
    Calls Tryd.prog 47 #[.int .i64 m, .int .i64 n, .slice A ban.length c] w fun e w' => e = .returned (.tuple #[.pointer (some ⟨w.heap.size + 1, 0, none⟩), .bool (caOk m n ban)]) ∧ Below w.heap.size w w' ∧
      (∀ k : Nat, m = (k : Int) → WF w (w.heap.size + 1) w.heap.size k A ban.length c w') ∧ w'.ownsMap Tryd.prog 9 (plainElem (H := Unit) Tryd.prog 3) w.heap.size 0 (.map []) := by
  have hbo := fun w' r => iBanOk_any ban A c w.heap.size w' hl hsz r
  have hmm := @run_makeMap Tryd.prog
  obtain ⟨bn, hbn⟩ : ∃ x, ban.length = x := ⟨_, rfl⟩
  rw [hbn] at hbo ⊢
  have HRD := Lib.hid hrd
  clear hrd hsz hl hbn
  by_cases h1 : 1 ≤ m ∧ m ≤ 4
  · by_cases h2 : 0 ≤ n ∧ n ≤ 18
    · obtain ⟨R, hR⟩ : ∃ R, banOk ban = R := ⟨_, rfl⟩
      rw [hR] at hbo
      have hok : caOk m n ban = R := by rw [caOk, hR, decide_eq_true h1, decide_eq_true h2]; rfl
      rw [hok]
      have HBO := Lib.hid hbo
      clear hbo hR hok
      go_enter Tryd.func47, Tryd.ntmps47
      go_wp2_with (first
        | (go_at_call 58; refine (within_yes _ _ _ ⟨by omega, by omega⟩ _).mono ?_; rintro e w' ⟨rfl, rfl⟩)
        | (go_at_call 70; refine (HBO.out _ (HRD.out.below (((Below.refl _ _).alloc (Nat.le_refl _) _).alloc (by simp) _) (Nat.le_refl _))).mono ?_; rintro e w1 ⟨rfl, d1⟩))
      go_ret2
      exact ⟨rfl, nw_world d1⟩
    · rw [show caOk m n ban = false from by rw [caOk, decide_eq_false h2]; simp]
      have H2 := Lib.hid h2
      clear h2 hbo
      go_enter Tryd.func47, Tryd.ntmps47
      go_wp2_with (first
        | (go_at_call_of 58 m; refine (within_yes _ _ _ ⟨by omega, by omega⟩ _).mono ?_; rintro e w' ⟨rfl, rfl⟩)
        | (go_at_call 58; refine (within_no _ _ _ H2.out _).mono ?_; rintro e w' ⟨rfl, rfl⟩))
      go_ret2
      exact ⟨rfl, nw_world (Dr.refl _)⟩
  · rw [show caOk m n ban = false from by rw [caOk, decide_eq_false h1]; simp]
    have H1 := Lib.hid h1
    clear h1 hbo
    go_enter Tryd.func47, Tryd.ntmps47
    go_wp2_with (go_at_call 58; refine (within_no _ _ _ H1.out _).mono ?_; rintro e w' ⟨rfl, rfl⟩)
    go_ret2
    exact ⟨rfl, nw_world (Dr.refl _)⟩
theorem wk3_empty : wk3 ByteArray.empty := ⟨by decide, abcd_empty⟩
set_option maxHeartbeats 1000000 in
theorem iCa_any (m n : Int) (ban : List ByteArray) (A : Option Addr) (c : Nat) (w : World) (hl : ban.length ≤ 4294967296) (hsz : ∀ s ∈ ban, s.size ≤ maxLen) (hrd : Rds w w.heap.size A (ban.map Value.string)) (hml : MlOk w) (htb : TB w) :
    Calls Tryd.prog 20 #[.int .i64 m, .int .i64 n, .slice A ban.length c] w fun e w' => e = .returned (.int .i64 (caV m n ban)) ∧ Below w.heap.size w w' := by
  have hnw := newWalk_any m n ban A c w hl hsz hrd
  cases hok : caOk m n ban
  · rw [hok] at hnw
    rw [caV_no (by rw [hok]; simp)]
    have HNW := Lib.hid hnw
    clear hnw hok hrd hml htb hsz
    go_enter Tryd.func20, Tryd.ntmps20
    go_wp2_with fail
    refine HNW.out.mono ?_
    rintro e w1 ⟨rfl, b1, _, _⟩
    go_wp2_with fail
    go_ret
    exact ⟨rfl, b1⟩
  · rw [hok] at hnw
    rw [caV_yes hok]
    obtain ⟨h1, h2, h3⟩ := caOk_split hok
    obtain ⟨k, rfl⟩ : ∃ k : Nat, m = (k : Int) := ⟨m.toNat, by omega⟩
    obtain ⟨j, rfl⟩ : ∃ k : Nat, n = (k : Int) := ⟨n.toNat, by omega⟩
    simp only [Int.toNat_natCast]
    have hst18 := sto_le j
    have h18 := pow18 (n := j) (by omega)
    have hcn := fun w' k' D hk => count_any w ban k (w.heap.size + 1) w.heap.size A c ban.length rfl (banOk_len h3) (ban_size4 h3) (by omega) (Nat.le_refl _) (by omega) hrd hml htb j (by omega) ByteArray.empty wk3_empty w' k' D hk
    have HNW := Lib.hid hnw; have HCN := Lib.hid hcn
    clear hnw hcn hok hrd hml htb hsz h3
    go_enter Tryd.func20, Tryd.ntmps20
    go_wp2_with fail
    refine HNW.out.mono ?_
    rintro e w1 ⟨rfl, b1, wf1, own1⟩
    have hc1 := HCN.out w1 0 _ (by omega) (wf1 k rfl) own1 (snd_none _ _)
    have HC1 := Lib.hid hc1
    clear hc1 wf1 own1
    go_wp2_with (go_at_call 48; refine HC1.out.mono ?_; rintro e5 w5 ⟨rfl, k5, D5, hk5, own5, snd5, gr5⟩)
    go_ret
    exact ⟨rfl, b1.grown gr5 b1.size (fun q hq => by injection hq with hq; omega)⟩
end Go.Proofs.YtfkdkcipnkkplaaDoor
