/- One letter further on, walked: what the reference's step returns; the last three letters. No condition but the bounds. -/
import Derived.Test.YtfkdkcipnkkplaaDoorStp
import Derived.RegionTactic
import Derived.BigRegion
import Derived.ChangeAlike
namespace Go.Proofs.YtfkdkcipnkkplaaDoor
open Go.RowKit
set_option linter.unusedVariables false

theorem banOk_len {ban : List ByteArray} (h : banOk ban = true) : ban.length ≤ 8 := by
  unfold banOk at h
  simp only [Bool.and_eq_true, decide_eq_true_eq] at h
  exact h.2
abbrev iN (n : Nat) : Value := .int .i64 (n : Int)
def sm (P : List (ByteArray × Nat)) : Nat := (cns P).sum
theorem sm_upd : ∀ (P : List (ByteArray × Nat)) (w : ByteArray) (c : Nat), sm (upd P w c) = sm P + c
  | [], w, c => by simp [upd, sm, cns]
  | (v, d) :: r, w, c => by
    unfold upd
    split
    · simp [sm, cns]; omega
    · have := sm_upd r w c
      simp only [sm, cns, List.map_cons, List.sum_cons] at this ⊢; omega
theorem sm_stK (ban : List ByteArray) (e : ByteArray) (c : Nat) : ∀ (k : Nat) (Q : List (ByteArray × Nat)), sm (stK ban e c k Q) ≤ sm Q + k * c
  | 0, Q => by simp [stK]
  | k + 1, Q => by
    have ih := sm_stK ban e c k Q
    unfold stK
    rw [Nat.succ_mul]
    split
    · rw [sm_upd]; omega
    · omega
theorem sm_stE (ban : List ByteArray) (m : Nat) : ∀ (P Q : List (ByteArray × Nat)), sm (stE ban m P Q) ≤ sm Q + m * sm P
  | [], Q => by simp [stE]
  | x :: P, Q => by
    have ih := sm_stE ban m P (stK ban x.1 x.2 m Q)
    have h2 := sm_stK ban x.1 x.2 m Q
    rw [stE, List.foldl_cons, ← stE]
    have : m * sm (x :: P) = m * x.2 + m * sm P := by simp [sm, cns, Nat.mul_add]
    omega
theorem sm_at {P : List (ByteArray × Nat)} {i d : Nat} (h : (cns P)[i]? = some d) : d ≤ sm P := by
  unfold sm
  generalize cns P = l at h
  induction l generalizing i with
  | nil => simp at h
  | cons a l ih =>
    cases i with
    | zero => simp at h; subst h; simp
    | succ i => have := ih (i := i) (by simpa using h); simp; omega
theorem sm_take (P : List (ByteArray × Nat)) (i : Nat) : sm (P.take i) ≤ sm P := by
  have : sm P = sm (P.take i) + sm (P.drop i) := by
    rw [sm, sm, sm, ← List.sum_append, cns, cns, cns, ← List.map_append, List.take_append_drop]
  omega
/-- The state before the i-th word's k-th letter. -/
def stS (ban : List ByteArray) (m : Nat) (P : List (ByteArray × Nat)) (i : Nat) (e : ByteArray) (c k : Nat) : List (ByteArray × Nat) := stK ban e c k (stE ban m (P.take i) [])
theorem stS_ok {ban : List ByteArray} {m i k : Nat} {P : List (ByteArray × Nat)} {e : ByteArray} {c : Nat} (hm : m ≤ 4) (hk : k ≤ 4) (hwk : ∀ x ∈ nms P, wk3 x) (he : wk3 e) : (stS ban m P i e c k).length ≤ 125 ∧ sm (stS ban m P i e c k) ≤ 4 * sm P + 4 * c := by
  have h1 : WK (stE ban m (P.take i) []) := WK.stE hm (fun x hx => hwk x (by
    rw [nms, List.map_take] at hx
    exact List.mem_of_mem_take hx)) WK.nil
  refine ⟨(WK.stK he hk h1).len, ?_⟩
  have h2 := sm_stK ban e c k (stE ban m (P.take i) [])
  have h3 := sm_stE ban m (P.take i) []
  have h4 := sm_take P i
  have h5 : m * sm (P.take i) ≤ 4 * sm P := Nat.mul_le_mul hm h4
  have h6 : k * c ≤ 4 * c := Nat.mul_le_mul_right _ hk
  have h7 : sm [] = 0 := rfl
  unfold stS
  omega
theorem maxl (n : Nat) : max 0 ((n : Int) - 3) = ((n - 3 : Nat) : Int) := by omega
theorem maxr (n : Nat) : max ((n : Int) - 3) 0 = ((n - 3 : Nat) : Int) := by omega
theorem tail_any (s : ByteArray) (hs : s.size ≤ 1048576) (w : World) :
    Calls Tryd.prog 51 #[.string s] w fun e w' => e = .returned (.string (tl3 s)) ∧ w = w' := by
  have h1 := maxr s.size
  have h2 : ((s.size - 3 : Nat) : Int) ≤ (s.size : Int) := by omega
  have h3 : tl3 s = s.extract (s.size - 3) s.size := rfl
  have H3 := Lib.hid h3
  clear h3
  go_enter Tryd.func51, Tryd.ntmps51
  go_wp2_with fail
  go_ret
  exact ⟨by rw [H3.out]; rfl, rfl⟩
set_option maxHeartbeats 400000 in
theorem l28Av_any (s : ByteArray) (ss : List ByteArray) (A : Option Addr) (c B : Nat) (w : World) (hs : s.size ≤ 1048576) (hn : ss.length ≤ 4294967296) (hsz : ∀ s ∈ ss, s.size ≤ 1048576) (hrd : Rds w B A (ss.map Value.string)) :
    Calls Tryd.prog 49 #[.string s, .slice A ss.length c] w fun e w' => e = .returned (.bool (avoidsB s ss)) ∧ w = w' := by
  have HZ := Lib.hid hsz; clear hsz
  have HR := Lib.hid hrd; clear hrd
  go_enter Tryd.func49, Tryd.ntmps49
  go_wp2_with fail
  go_loop [6, 9] (fun _ i => ∃ k : Nat, k ≤ ss.length ∧ i = .int .i64 k ∧ (ss.drop k).all (fun f => !hasF s f) = avoidsB s ss) (fun _ i => ss.length - (intOf i).toNat)
  case atStart => exact ⟨0, by omega, rfl, rfl⟩
  case round =>
    obtain ⟨k, hk, rfl, hg⟩ := hrel
    have HG := Lib.hid hg; clear hg
    by_cases hlt : k < ss.length
    · obtain ⟨f, hf⟩ := some_of_lt (l := ss) (k := k) hlt
      obtain ⟨ad, rfl, hc⟩ := HR.out.at_ (map_at Value.string hf)
      have hz := HZ.out f (List.mem_of_getElem? hf)
      have HD := Lib.hid (drop_at_list hf); clear hf
      cases hh : hasF s f
      · have HH := Lib.hid hh; clear hh
        go_wp2_with (go_at_call 71; refine (l02Has_any s f (by omega) (by omega) _).mono ?_; rw [HH.out]; rintro e w1 ⟨rfl, rfl⟩)
        go_round
        case rel => exact ⟨k + 1, by omega, by go_num, by rw [← HG.out, HD.out, List.all_cons, HH.out]; rfl⟩
        case measure => simp [intOf]; omega
      · have HH := Lib.hid hh; clear hh
        go_wp2_with (go_at_call 71; refine (l02Has_any s f (by omega) (by omega) _).mono ?_; rw [HH.out]; rintro e w1 ⟨rfl, rfl⟩)
        go_ret
        exact ⟨ret_bool (by rw [← HG.out, HD.out, List.all_cons, HH.out]; rfl), rfl⟩
    · have h0 : ss.drop k = [] := List.drop_eq_nil_of_le (by omega)
      have H0 := Lib.hid h0; clear h0
      go_wp2_with fail
      go_ret
      exact ⟨ret_bool (by rw [← HG.out, H0.out]; rfl), rfl⟩
theorem stE_at {ban : List ByteArray} {m i : Nat} {P : List (ByteArray × Nat)} {e : ByteArray} {c : Nat} (h : P[i]? = some (e, c)) (e' : ByteArray) (c' : Nat) : stS ban m P (i + 1) e' c' 0 = stS ban m P i e c m := by
  unfold stS
  rw [stE_take h]; rfl
theorem stS_zero (ban : List ByteArray) (m i : Nat) (P : List (ByteArray × Nat)) (e : ByteArray) (c : Nat) (e' : ByteArray) (c' : Nat) : stS ban m P i e c 0 = stS ban m P i e' c' 0 := rfl
theorem stS_end (ban : List ByteArray) (m i : Nat) (P : List (ByteArray × Nat)) (e : ByteArray) (c : Nat) (h : P.length ≤ i) : stS ban m P i e c 0 = stp ban m P := by
  unfold stS
  rw [List.take_of_length_le h]; rfl
theorem stS_no {ban : List ByteArray} {m i k : Nat} {P : List (ByteArray × Nat)} {e : ByteArray} {c : Nat} (h : avoidsB (e ++ strOf [ltr k]) ban = false) : stS ban m P i e c (k + 1) = stS ban m P i e c k := by
  unfold stS
  rw [stK, h]; rfl
theorem stS_yes {ban : List ByteArray} {m i k : Nat} {P : List (ByteArray × Nat)} {e : ByteArray} {c : Nat} (h : avoidsB (e ++ strOf [ltr k]) ban = true) : stS ban m P i e c (k + 1) = upd (stS ban m P i e c k) (tl3 (e ++ strOf [ltr k])) c := by
  unfold stS
  rw [stK, h]; rfl
theorem at_neg {P : List (ByteArray × Nat)} {w : ByteArray} (h : atIx (nms P) w < 0) : w ∉ nms P := fun hm => by
  have := (ixGo_mem w (nms P) 0 (Int.le_refl _)).2 hm
  unfold atIx at h; omega
theorem upd_neg {P : List (ByteArray × Nat)} {w : ByteArray} {c : Nat} (h : atIx (nms P) w < 0) : nms (upd P w c) = nms P ++ [w] ∧ cns (upd P w c) = cns P ++ [c] ∧ (upd P w c).length = P.length + 1 := by
  rw [upd_new P w c (at_neg h)]; simp [nms, cns]
theorem upd_pos {P : List (ByteArray × Nat)} {w : ByteArray} (c : Nat) (h : ¬ atIx (nms P) w < 0) : ∃ (k : Nat) (d : Nat), atIx (nms P) w = (k : Int) ∧ k < P.length ∧ (cns P)[k]? = some d ∧ nms (upd P w c) = nms P ∧ cns (upd P w c) = (cns P).set k (d + c) ∧ (upd P w c).length = P.length := by
  obtain ⟨k, d, h1, h2, h3, h4, h5⟩ := upd_old P w c 0 (Int.le_refl _) (by unfold atIx at h; omega)
  refine ⟨k, d, by unfold atIx; omega, h2, h3, h4, h5, ?_⟩
  rw [← nms_len, h4, nms_len]
theorem own_kept {w w' : World} {B : Nat} {E : TypeId} {v v2 : Value} {ys : List Value} (h : Own w B E v2 ys) (hg : w.grownBy w' v.ownBlock) (hap : Ap v v2) : Own w' B E v2 ys := by
  refine World.ownsRow.kept h hg ?_
  cases hv : v2.ownBlock with
  | none => exact .inl rfl
  | some q => right; intro he; exact hap q he.symm hv
set_option maxRecDepth 4000 in
set_option maxHeartbeats 2000000 in
theorem l28Step_any (P : List (ByteArray × Nat)) (ban : List ByteArray) (m : Nat) (A1 A2 A3 : Option Addr) (c1 c2 c3 B : Nat) (w : World) (hB : B ≤ w.heap.size) (hm : m ≤ 4) (hwk : ∀ x ∈ nms P, wk3 x) (hl : P.length ≤ 125) (hsm : sm P ≤ 1125899906842624)
    (hn : ban.length ≤ 8) (hsz : ∀ s ∈ ban, s.size ≤ 1048576) (r1 : Rds w B A1 ((nms P).map Value.string)) (r2 : Rds w B A2 ((cns P).map iN)) (r3 : Rds w B A3 (ban.map Value.string)) :
    Calls Tryd.prog 69 #[.slice A1 P.length c1, .slice A2 P.length c2, .int .i64 m, .slice A3 ban.length c3] w fun e w' => ∃ g c g2 c2', e = .returned (.tuple #[.slice (some ⟨g, 0, none⟩) (stp ban m P).length c, .slice (some ⟨g2, 0, none⟩) (stp ban m P).length c2']) ∧
      Own w' w.heap.size 9 (.slice (some ⟨g, 0, none⟩) (stp ban m P).length c) ((nms (stp ban m P)).map Value.string) ∧ Own w' w.heap.size 3 (.slice (some ⟨g2, 0, none⟩) (stp ban m P).length c2') ((cns (stp ban m P)).map iN) ∧ Below w.heap.size w w' := by
  obtain ⟨n, hn0⟩ : ∃ n, P.length = n := ⟨_, rfl⟩
  obtain ⟨bn, hbn⟩ : ∃ n, ban.length = n := ⟨_, rfl⟩
  obtain ⟨R, hR⟩ : ∃ R, stp ban m P = R := ⟨_, rfl⟩
  have hav := fun s (hs : s.size ≤ 1048576) w' (hr : Rds w' B A3 (ban.map Value.string)) => l28Av_any s ban A3 c3 B w' hs (by omega) hsz hr
  have hsok := fun i k e c (hk : k ≤ 4) (he : wk3 e) => stS_ok (ban := ban) (i := i) (c := c) hm hk hwk he
  rw [hR, hn0, hbn]
  rw [hbn] at hav
  have hl2 : n ≤ 125 := by omega
  have HN := Lib.hid hn0; have HR := Lib.hid hR; have HAV := Lib.hid hav; have HSO := Lib.hid hsok; have HWK := Lib.hid hwk; have H1 := Lib.hid r1; have H2 := Lib.hid r2; have H3 := Lib.hid r3; have HSM := Lib.hid hsm
  clear hn0 hR hav hsok hwk r1 r2 r3 hsz hl hn hbn hsm
  go_enter Tryd.func69, Tryd.ntmps69
  go_wp2_with fail
  go_loopw [10, 11, 12, 13, 14, 15, 16, 21] (fun v u _ _ _ _ _ i wr => ∃ q g ca g2 cb my : Nat, q ≤ n ∧ i = .int .i64 q ∧ v = .slice (some ⟨g, 0, none⟩) my ca ∧ u = .slice (some ⟨g2, 0, none⟩) my cb ∧ (stS ban m P q ByteArray.empty 0 0).length = my ∧ Ap (.slice (some ⟨g, 0, none⟩) my ca) (.slice (some ⟨g2, 0, none⟩) my cb) ∧ Own wr w.heap.size 9 (.slice (some ⟨g, 0, none⟩) my ca) ((nms (stS ban m P q ByteArray.empty 0 0)).map Value.string) ∧ Own wr w.heap.size 3 (.slice (some ⟨g2, 0, none⟩) my cb) ((cns (stS ban m P q ByteArray.empty 0 0)).map iN) ∧ Below w.heap.size w wr) (fun _ _ _ _ _ _ _ i _ => n - (intOf i).toNat)
  case atStart =>
    have ho := Own.empty (w := w) (E := 9) (Nat.le_refl w.heap.size)
    have bA : Below (w.alloc (.cells #[] 9)).heap.size (w.alloc (.cells #[] 9)) ((w.alloc (.cells #[] 9)).alloc (.cells #[] 3)) := (Below.refl _ _).alloc (Nat.le_refl _) _
    have ho2 := ho.below bA
    have hz : (w.alloc (.cells #[] 9)).heap.size = w.heap.size + 1 := by simp
    have ho3 := Own.empty (w := w.alloc (.cells #[] 9)) (B := w.heap.size) (E := 3) (by omega)
    rw [hz] at ho3
    exact ⟨0, w.heap.size, 0, w.heap.size + 1, 0, 0, by omega, rfl, rfl, rfl, rfl, fun k h1 h2 => by simp [Value.ownBlock] at h1 h2; omega, ho2, ho3, ((Below.refl _ _).alloc (Nat.le_refl _) _).trans (bA.mono (by omega))⟩
  case round =>
    obtain ⟨q, g, ca, g2, cb, my, hq, rfl, rfl, rfl, hmy, hap, hown, hown2, hbel⟩ := hrel
    have HMY := Lib.hid hmy; have HAP := Lib.hid hap; have HO := Lib.hid hown; have HO2 := Lib.hid hown2
    clear hmy hap hown hown2
    by_cases hlt : q < n
    · obtain ⟨⟨e, c⟩, hx⟩ := some_of_lt (l := P) (k := q) (by rw [HN.out]; exact hlt)
      have hxe : (nms P)[q]? = some e := by rw [nms, List.getElem?_map, hx]; rfl
      have hxc : (cns P)[q]? = some c := by rw [cns, List.getElem?_map, hx]; rfl
      obtain ⟨ad, rfl, hc⟩ := (H1.out.below hbel hB).at_ (map_at Value.string hxe)
      have hew := HWK.out e (List.mem_of_getElem? hxe)
      have he3 : e.size ≤ 3 := hew.1
      have hcm := sm_at hxc
      have hcb : c ≤ 1125899906842624 := Nat.le_trans hcm HSM.out
      have hsb : ∀ k, k ≤ 4 → (stS ban m P q e c k).length ≤ 125 ∧ sm (stS ban m P q e c k) ≤ 9007199254740992 := fun k hk => by
        have := HSO.out q k e c hk hew
        have := HSM.out
        omega
      have hz0 : stS ban m P q e c 0 = stS ban m P q ByteArray.empty 0 0 := rfl
      have hnx : stS ban m P (q + 1) ByteArray.empty 0 0 = stS ban m P q e c m := stE_at hx _ _
      have hab := fun j (h : j < 4) => abc_at j h
      have HXC := Lib.hid hxc; have HSB := Lib.hid hsb; have HZ0 := Lib.hid hz0; have HNX := Lib.hid hnx; have HAB := Lib.hid hab
      clear hx hxe hxc hew hcm hsb hz0 hnx hab
      go_wp2_with fail
      go_loopw [10, 11, 14, 15, 16] (fun v u i _ _ w3 => ∃ j g ca g2 cb my : Nat, j ≤ m ∧ i = .int .i64 j ∧ v = .slice (some ⟨g, 0, none⟩) my ca ∧ u = .slice (some ⟨g2, 0, none⟩) my cb ∧ (stS ban m P q e c j).length = my ∧ Ap (.slice (some ⟨g, 0, none⟩) my ca) (.slice (some ⟨g2, 0, none⟩) my cb) ∧ Own w3 w.heap.size 9 (.slice (some ⟨g, 0, none⟩) my ca) ((nms (stS ban m P q e c j)).map Value.string) ∧ Own w3 w.heap.size 3 (.slice (some ⟨g2, 0, none⟩) my cb) ((cns (stS ban m P q e c j)).map iN) ∧ Below w.heap.size w w3) (fun _ _ i _ _ _ => m - (intOf i).toNat)
      case atStart => exact ⟨0, g, ca, g2, cb, my, by omega, rfl, rfl, rfl, by rw [HZ0.out]; exact HMY.out, HAP.out, by rw [HZ0.out]; exact HO.out, by rw [HZ0.out]; exact HO2.out, hbel⟩
      case round =>
        obtain ⟨j, g3, ca3, g4, cb3, m3, hj, rfl, rfl, rfl, hm3, hap3, hown3, hown4, hbel3⟩ := hrel
        have HM3 := Lib.hid hm3; have HAP3 := Lib.hid hap3; have HO3 := Lib.hid hown3; have HO4 := Lib.hid hown4
        clear hm3 hap3 hown3 hown4
        by_cases hjm : j < m
        · have hj4 : j < 4 := by omega
          have hab := HAB.out j hj4
          have hj5 : (j : Int) + 1 ≤ 4 := by omega
          have hm3b := (HSB.out j (by omega)).1
          rw [HM3.out] at hm3b
          have hz3 := hbel3.size
          have hrb := H3.out.below hbel3 hB
          obtain ⟨y, hy⟩ : ∃ y, e ++ strOf [ltr j] = y := ⟨_, rfl⟩
          have hsd : (strOf [ltr j]).size = 1 := rfl
          have hys : y.size ≤ 4 := by rw [← hy, ByteArray.size_append, hsd]; omega
          have hav := HAV.out y (by omega) _ hrb
          cases hb : avoidsB y ban
          · rw [hb] at hav
            have hno := stS_no (m := m) (i := q) (P := P) (c := c) (by rw [hy]; exact hb)
            have HAV2 := Lib.hid hav; have HNO := Lib.hid hno
            clear hav hno hb hrb
            go_wp2_with (go_at_call 49; refine HAV2.out.mono ?_; rintro e w' ⟨rfl, rfl⟩)
            go_roundw
            case rel => exact ⟨j + 1, g3, ca3, g4, cb3, m3, by omega, by go_num, rfl, rfl, by rw [HNO.out]; exact HM3.out, HAP3.out, by rw [HNO.out]; exact HO3.out, by rw [HNO.out]; exact HO4.out, hbel3⟩
            case measure => simp [intOf]; omega
          · rw [hb] at hav
            have hyes := stS_yes (m := m) (i := q) (P := P) (c := c) (by rw [hy]; exact hb)
            rw [hy] at hyes
            obtain ⟨Q, hQ⟩ : ∃ Q, stS ban m P q e c j = Q := ⟨_, rfl⟩
            have hqb := HSB.out j (by omega)
            rw [hQ] at hyes hqb
            have hm4 : Q.length = m3 := by rw [← hQ]; exact HM3.out
            have ho3 := HO3.out
            have ho4 := HO4.out
            rw [hQ] at ho3 ho4
            have hmx := maxl y.size
            have hle : ((y.size - 3 : Nat) : Int) ≤ (y.size : Int) := by omega
            have htl : y.extract (y.size - 3) y.size = tl3 y := rfl
            obtain ⟨t, ht⟩ : ∃ t, tl3 y = t := ⟨_, rfl⟩
            rw [ht] at htl hyes
            have hat := l06At_any (nms Q) t (some ⟨g3, 0, none⟩) ca3 _ wr (by rw [nms_len]; omega) ho3.reads
            rw [nms_len, hm4] at hat
            have HAV2 := Lib.hid hav; have HYES := Lib.hid hyes; have HQ := Lib.hid hQ; have HQB := Lib.hid hqb; have HM4 := Lib.hid hm4; have HO5 := Lib.hid ho3; have HO6 := Lib.hid ho4; have HAT := Lib.hid hat
            have hl5 : ((nms Q).map Value.string).length = m3 := by rw [List.length_map, nms_len]; exact hm4
            have hl6 : ((cns Q).map iN).length = m3 := by rw [List.length_map, cns_len]; exact hm4
            have HL5 := Lib.hid hl5; have HL6 := Lib.hid hl6
            clear hav hyes hQ hqb hm4 ho3 ho4 hat hb hrb ht hl5 hl6
            by_cases hneg : atIx (nms Q) t < 0
            · obtain ⟨hu1, hu2, hu3⟩ := upd_neg (c := c) hneg
              rw [← HYES.out] at hu1 hu2 hu3
              have hix : decide (atIx (nms Q) t < 0) = true := decide_eq_true hneg
              have HU1 := Lib.hid hu1; have HU2 := Lib.hid hu2; have HU3 := Lib.hid hu3
              clear hu1 hu2 hu3 hneg
              go_wp2_with (first
                | (go_at_call 49; refine HAV2.out.mono ?_; rintro e w' ⟨rfl, rfl⟩)
                | (go_at_call 85; refine HAT.out.mono ?_; rintro e w5 ⟨rfl, d5⟩)
                | (at_builtin; refine wp_append4 rfl (.tmp 52) (.tmp 54) 22 rfl _ 16 Tryd.underlying22 info_string rfl m3 ca3 rfl (HO5.out.dr d5) _ rfl rfl HL5.out (by omega) (by decide) (Nat.le_trans hz3 (d5.below (B := 0)).size) ?_))
              intro g5 c5 w6 ha5
              have hz6 := Nat.le_trans (Nat.le_trans hz3 (d5.below (B := 0)).size) ha5.size
              have hbs := ha5.beside _ _ _ _ (HO6.out.dr d5) HAP3.out
              have hown5 := ha5.own
              rw [show (nms Q).map Value.string ++ [Value.string t] = (nms (stS ban m P q e c (j + 1))).map Value.string from by rw [HU1.out, List.map_append]; rfl] at hown5
              have hbel6 := (hbel3.trans d5.below).trans ha5.bel
              have HO7 := Lib.hid hown5; have HO8 := Lib.hid hbs.1; have HAP7 := Lib.hid hbs.2
              clear ha5 hown5 hbs
              go_wp2_with (at_builtin; refine wp_append4 rfl (.tmp 56) (.tmp 57) 31 rfl _ 8 Tryd.underlying31 info_int rfl m3 cb3 rfl HO8.out _ rfl rfl HL6.out (by omega) (by decide) hz6 ?_)
              intro g6 c6 w7 ha6
              have hbs := ha6.beside _ _ _ _ HO7.out HAP7.out.symm
              have hown6 := ha6.own
              have hbel7 := hbel6.trans ha6.bel
              have hlen6 : ((cns Q).map iN ++ [Value.int .i64 0]).length = m3 + 1 := by rw [List.length_append, HL6.out]; rfl
              obtain ⟨g0, hg0, hBg, hgs, hcell, hfr, hst⟩ := hown6.store (k := m3) (by rw [hlen6]; omega)
              injection hg0 with hg0
              injection hg0 with hg0
              subst hg0
              have hcell2 : w7.cell? ⟨g6, m3, none⟩ = some (.int .i64 0) := by
                rw [hcell, List.getElem?_append_right (by rw [HL6.out]; omega), HL6.out, Nat.sub_self]; rfl
              obtain ⟨ad2, rfl, hcv⟩ := (H2.out.below hbel7 hB).at_ (map_at iN HXC.out)
              have hst2 := hst (iN c)
              have hset : ((cns Q).map iN ++ [Value.int .i64 0]).set m3 (iN c) = (cns (stS ban m P q e c (j + 1))).map iN := by
                rw [HU2.out, List.map_append, List.set_append_right _ _ (by rw [HL6.out]; omega), HL6.out, Nat.sub_self]; rfl
              rw [hset] at hst2
              have hix : (m3 : Int) < (m3 : Int) + 1 := by omega
              have HST := Lib.hid hst2; have HO9 := Lib.hid hbs.1; have HAP9 := Lib.hid hbs.2
              clear ha6 hown6 hbs hst hst2 hset hcell hlen6
              go_wp2_with fail
              go_region
              all_goals
                go_wp2_with fail
                refine ⟨⟨j + 1, g5, c5, g6, c6, m3 + 1, by omega, by first | rfl | go_num, rfl, rfl, by rw [HU3.out, HM4.out], HAP9.out.symm, (own_kept HO9.out HST.out.2.2 HAP9.out).dr (Dr.refl _).drew, HST.out.1.dr (Dr.refl _).drew, (hbel7.trans HST.out.2.1).trans ((Dr.refl _).drew).below⟩, by simp [intOf]; try omega⟩
            · obtain ⟨k, d, hk1, hk2, hk3, hu1, hu2, hu3⟩ := upd_pos c hneg
              rw [← HYES.out] at hu1 hu2 hu3
              rw [HM4.out] at hk2
              have hd := sm_at hk3
              have hdb : d ≤ 9007199254740992 := Nat.le_trans hd HQB.out.2
              rw [hk1] at HAT
              have hix : decide ((k : Int) < 0) = false := decide_eq_false (by omega)
              have hix2 : (k : Int) < (m3 : Int) := by omega
              obtain ⟨g0, hg0, hBg, hgs, hcell, hfr, hst⟩ := HO6.out.store (k := k) (by rw [HL6.out]; omega)
              injection hg0 with hg0
              injection hg0 with hg0
              subst hg0
              rw [map_at iN hk3] at hcell
              obtain ⟨ad2, rfl, hcv⟩ := (H2.out.below hbel3 hB).at_ (map_at iN HXC.out)
              obtain ⟨dc, hdc⟩ : ∃ dc, d + c = dc := ⟨_, rfl⟩
              rw [hdc] at hu2
              have hst2 := hst (iN dc)
              have hset : ((cns Q).map iN).set k (iN dc) = (cns (stS ban m P q e c (j + 1))).map iN := by
                rw [hu2, List.map_set]
              have hsum : (d : Int) + (c : Int) = (dc : Int) := by omega
              rw [hset] at hst2
              have HST := Lib.hid hst2; have HU1 := Lib.hid hu1; have HU3 := Lib.hid hu3
              clear hst hst2 hset hk1 hk3 hdc hu1 hu2 hu3 hd hneg
              go_wp2_with (first
                | (go_at_call 49; refine HAV2.out.mono ?_; rintro e w' ⟨rfl, rfl⟩)
                | (go_at_call 85; refine HAT.out.mono ?_; rintro e w5 ⟨rfl, nd, rfl⟩))
              go_region
              all_goals
                go_wp2_with fail
                have hdr : Dr (wr.setCell ⟨g4, k, none⟩ (iN dc)) ((wr.drewN (nd + 1)).setCell ⟨g4, k, none⟩ (iN dc)) := ⟨nd + 1, rfl⟩
                refine ⟨⟨j + 1, g3, ca3, g4, cb3, m3, by omega, by first | rfl | go_num, rfl, rfl, by rw [HU3.out, HM4.out], HAP3.out, ?_, HST.out.1.dr hdr, (hbel3.trans HST.out.2.1).trans hdr.below⟩, by simp [intOf]; try omega⟩
                rw [HU1.out]
                exact (own_kept HO5.out HST.out.2.2 HAP3.out.symm).dr hdr
        · have hjm2 : j = m := by omega
          subst hjm2
          go_wp2_with fail
          go_roundw
          case rel => exact ⟨q + 1, g3, ca3, g4, cb3, m3, by omega, by go_num, rfl, rfl, by rw [HNX.out]; exact HM3.out, HAP3.out, by rw [HNX.out]; exact HO3.out, by rw [HNX.out]; exact HO4.out, hbel3⟩
          case measure => simp [intOf]; omega
    · have hfin : stS ban m P q ByteArray.empty 0 0 = R := by rw [stS_end _ _ _ _ _ _ (by rw [HN.out]; omega)]; exact HR.out
      rw [hfin] at HMY HO HO2
      clear hfin
      go_wp2_with fail
      go_ret2
      exact ⟨g, ca, g2, cb, by rw [HMY.out]; rfl, by rw [HMY.out]; exact HO.out, by rw [HMY.out]; exact HO2.out, hbel⟩
end Go.Proofs.YtfkdkcipnkkplaaDoor
