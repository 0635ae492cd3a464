/- Smooth words, both: the walks. No condition but the bounds. -/
import Derived.Test.YtfjmopiofcbpgaaSmi
namespace Go.Proofs.Ytfjmopiofcbpgaa
open Go.RowKit
set_option linter.unusedVariables false

theorem runs_bd {l : List UInt8} (h : l.length ≤ 1000) {x : Int} (hx : x ∈ runsOf l) : 1 ≤ x ∧ x ≤ 1000 := by
  have := runs_mem l hx; omega
theorem wd_ok {r : List Int} (h : small r = true) : wdS r = strOf (r.map lw) := by rw [wdS, h]; rfl
theorem wd_no {r : List Int} (h : small r = false) : wdS r = ⟨#[]⟩ := by rw [wdS, h]; rfl
theorem runWord_any (s : ByteArray) (hw : isW (L s) = true) (w : World) :
    Calls Try.prog 15 #[.string s] w fun e w' => e = .returned (.tuple #[.string (wdS (runsOf (L s))), .bool (small (runsOf (L s)))]) ∧ Below w.heap.size w w' := by
  have h400 := isW_size hw
  have hs : s.size ≤ maxLen := by unfold maxLen; omega
  have hrb : ∀ x ∈ runsOf (L s), 1 ≤ x ∧ x ≤ 1000 := fun x hx => runs_bd (by rw [L_len]; omega) hx
  have hrl := runs_len (L s)
  rw [L_len] at hrl
  have hrl2 : (runsOf (L s)).length ≤ 1000 := by omega
  have HRB := Lib.hid hrb; have HW := Lib.hid hw; have HRL := Lib.hid hrl2; clear hrb hw hrl hrl2
  go_enter Try.func15, Try.ntmps15
  go_wp2_with (go_at_call 46; refine (isWord_is s _ hs HW.out _).mono ?_; rintro e w' ⟨rfl, rfl⟩)
  refine (runs_any s (by omega) _).mono ?_
  rintro e w1 ⟨A, c, rfl, hown, b1⟩
  have HO := Lib.hid hown; clear hown
  go_wp2_with fail
  refine (runLetters_any (runsOf (L s)) A c _ _ (Nat.le_refl _) HRB.out HRL.out HO.out.reads).mono ?_
  rintro e w2 ⟨rfl, b2⟩
  go_wp2_with fail
  go_ret2
  exact ⟨rfl, b1.trans (b2.mono b1.size)⟩
theorem lw_97 {x : Int} (h1 : 1 ≤ x) (h2 : x ≤ 2) : (lw x = 97) = (x = 1) := by
  unfold lw
  by_cases h : x = 1
  · simp [h]
  · simp [h]
theorem strOf_at (l : List UInt8) (k : Nat) (h : k < (strOf l).size) (x : UInt8) (hx : l[k]? = some x) : (strOf l)[k]'h = x := by
  obtain ⟨hk, rfl⟩ := List.getElem?_eq_some_iff.1 hx
  rfl
theorem strOf_take (l : List UInt8) (n : Nat) : (strOf l).extract 0 n = strOf (l.take n) := by
  apply bytes_ext
  simp [strOf, ByteArray.data_extract]
theorem strOf_drop (l : List UInt8) : (strOf l).extract 1 (strOf l).size = strOf (l.drop 1) := by
  apply bytes_ext
  rw [strOf_size]
  simp [strOf, ByteArray.data_extract]
  exact List.take_of_length_le (by simp)
theorem str_at' {l : List UInt8} {z : ByteArray} (hz : strOf l = z) (k : Nat) (h : k < z.size) {x : UInt8} (hx : l[k]? = some x) : z[k]'h = x := by
  subst hz; exact strOf_at l k h x hx
set_option maxRecDepth 4000 in
set_option maxHeartbeats 1000000 in
theorem iInner_any (s : ByteArray) (hw : isW (L s) = true) (w : World) :
    Calls Try.prog 19 #[.string s] w fun e w' => e = .returned (.tuple #[.string (wdS (strip (runsOf (L s)))), .bool (small (runsOf (L s)))]) ∧ Below w.heap.size w w' := by
  obtain ⟨r, hr⟩ : ∃ r, runsOf (L s) = r := ⟨_, rfl⟩
  have hc := runWord_any s hw w
  have hrb : ∀ x ∈ r, 1 ≤ x := fun x hx => by rw [← hr] at hx; exact (runs_mem (L s) hx).1
  have h400 := isW_size hw
  have hrl : r.length ≤ 400 := by rw [← hr]; have := runs_len (L s); rw [L_len] at this; omega
  rw [hr] at hc ⊢
  have HC := Lib.hid hc
  clear hr hc hw
  cases hsm : small r
  · have hwd := wd_no hsm
    have hwd2 : wdS (strip r) = ⟨#[]⟩ := wd_no (by rw [strip_small]; exact hsm)
    have HW := Lib.hid hwd; have HW2 := Lib.hid hwd2; have HSM := Lib.hid hsm; clear hwd hwd2 hsm
    go_enter Try.func19, Try.ntmps19
    go_wp2_with fail
    refine HC.out.mono ?_
    rw [HW.out, HSM.out]
    rintro e w1 ⟨rfl, b1⟩
    go_wp2_with fail
    go_ret2
    exact ⟨by rw [HW2.out]; rfl, b1⟩
  · have hwd := wd_ok hsm
    have hwd2 : wdS (strip r) = strOf ((strip r).map lw) := wd_ok (by rw [strip_small]; exact hsm)
    have hr2 : ∀ x ∈ r, x ≤ 2 := fun x hx => by
      unfold small at hsm; rw [List.all_eq_true] at hsm; simpa using hsm x hx
    obtain ⟨z, hz⟩ : ∃ z, strOf (r.map lw) = z := ⟨_, rfl⟩
    have hzs : z.size = r.length := by rw [← hz, strOf_size, List.length_map]
    rw [hz] at hwd
    have HW := Lib.hid hwd; have HW2 := Lib.hid hwd2; have HSM := Lib.hid hsm; have HZ := Lib.hid hz; clear hwd hwd2 hsm hz
    by_cases h2 : r.length < 2
    · have hs2 : strip r = r := by rw [strip, if_pos h2]
      have HS2 := Lib.hid hs2
      have hz2 : z.size < 2 := by omega
      clear hs2 hzs h2 hrb hr2
      go_enter Try.func19, Try.ntmps19
      go_wp2_with fail
      refine HC.out.mono ?_
      rw [HW.out, HSM.out]
      rintro e w1 ⟨rfl, b1⟩
      go_wp2_with fail
      go_ret2
      exact ⟨by rw [HW2.out, HS2.out, HZ.out]; rfl, b1⟩
    · obtain ⟨m, hm⟩ : ∃ m, r.length = m + 2 := ⟨r.length - 2, by omega⟩
      obtain ⟨x, hx⟩ := some_of_lt (l := r) (k := 0) (by omega)
      obtain ⟨y, hy⟩ := some_of_lt (l := r) (k := m + 1) (by omega)
      have hxm := List.mem_of_getElem? hx
      have hym := List.mem_of_getElem? hy
      have hx97 := lw_97 (hrb x hxm) (hr2 x hxm)
      have hy97 := lw_97 (hrb y hym) (hr2 y hym)
      have hgx : r.getD 0 0 = x := by rw [List.getD_eq_getElem?_getD, hx]; rfl
      have hgy : r.getD (r.length - 1) 0 = y := by rw [hm, show m + 2 - 1 = m + 1 from by omega, List.getD_eq_getElem?_getD, hy]; rfl
      have hgx1 : (r.take (m + 1)).getD 0 0 = x := by rw [List.getD_eq_getElem?_getD, List.getElem?_take, if_pos (by omega), hx]; rfl
      have hst : strip r = cut2 (cut1 r) := by rw [strip, if_neg h2]
      have hcut1 : cut1 r = if y = 1 then r.take (m + 1) else r := by rw [cut1, hgy, hm]; rfl
      have hzm : z.size = m + 2 := by omega
      have hm9 : m + 2 ≤ 400 := by omega
      have p0 : 0 < z.size := by omega
      have p1 : m + 1 < z.size := by omega
      have gz0 : z[0]'p0 = lw x := str_at' HZ.out 0 p0 (by rw [List.getElem?_map, hx]; rfl)
      have gz1 : z[m + 1]'p1 = lw y := str_at' HZ.out (m + 1) p1 (by rw [List.getElem?_map, hy]; rfl)
      have ht1 : z.extract 0 (m + 1) = strOf ((r.take (m + 1)).map lw) := by rw [← HZ.out, strOf_take, List.map_take]
      obtain ⟨z1, hz1⟩ : ∃ z1, z.extract 0 (m + 1) = z1 := ⟨_, rfl⟩
      have hz1s : z1.size = m + 1 := by rw [← hz1, ht1, strOf_size, List.length_map, List.length_take, hm]; omega
      have p2 : 0 < z1.size := by omega
      have gz2 : z1[0]'p2 = lw x := str_at' (ht1.symm.trans hz1) 0 p2 (by rw [List.getElem?_map, List.getElem?_take, if_pos (by omega), hx]; rfl)
      have hd1 : z1.extract 1 (m + 1) = strOf (((r.take (m + 1)).drop 1).map lw) := by
        have : z1 = strOf ((r.take (m + 1)).map lw) := by rw [← hz1, ht1]
        have h2 := strOf_drop ((r.take (m + 1)).map lw)
        rw [← this, hz1s] at h2
        rw [h2, List.map_drop]
      have hd2 : z.extract 1 (m + 2) = strOf ((r.drop 1).map lw) := by
        have h2 := strOf_drop (r.map lw)
        rw [HZ.out, hzm] at h2
        rw [h2, List.map_drop]
      have HD1 := Lib.hid hd1; have HD2 := Lib.hid hd2; have HT1 := Lib.hid ht1; have HZ1 := Lib.hid hz1
      have HST := Lib.hid hst; have HC1 := Lib.hid hcut1; have HGX := Lib.hid hgx; have HG1 := Lib.hid hgx1
      obtain ⟨lx, hlx⟩ : ∃ b, lw x = b := ⟨_, rfl⟩
      obtain ⟨ly, hly⟩ : ∃ b, lw y = b := ⟨_, rfl⟩
      rw [hlx] at gz0 gz2 hx97
      rw [hly] at gz1 hy97
      have HX97 := Lib.hid hx97; have HY97 := Lib.hid hy97
      clear hx hy hxm hym hrb hr2 hgx hgy hgx1 hst hcut1 hzs h2 hm ht1 hd1 hd2 hlx hly hx97 hy97
      by_cases hy1 : y = 1
      · have hly1 : ly = 97 := HY97.out ▸ hy1
        have hyb : ((ly.toNat : Int) == 97) = true := by rw [hly1]; rfl
        by_cases hx1 : x = 1
        · have hlx1 : lx = 97 := HX97.out ▸ hx1
          have hxb : ((lx.toNat : Int) == 97) = true := by rw [hlx1]; rfl
          have hfin : strip r = (r.take (m + 1)).drop 1 := by rw [HST.out, HC1.out, if_pos hy1, cut2, HG1.out, if_pos hx1]
          have HF := Lib.hid hfin
          clear hx1 hy1 hfin hlx1 hly1
          go_enter Try.func19, Try.ntmps19
          go_wp2_with fail
          refine HC.out.mono ?_
          rw [HW.out, HSM.out]
          rintro e w1 ⟨rfl, b1⟩
          go_wp2_with fail
          go_ret2
          exact ⟨by rw [HW2.out, HF.out, ← HD1.out]; rfl, b1⟩
        · have hlx1 : ¬ lx = 97 := fun h => hx1 (HX97.out ▸ h)
          have hxb : ((lx.toNat : Int) == 97) = false := by rw [beq_eq_false_iff_ne]; intro h; apply hlx1; apply UInt8.toNat_inj.1; show lx.toNat = 97; omega
          have hfin : strip r = r.take (m + 1) := by rw [HST.out, HC1.out, if_pos hy1, cut2, HG1.out, if_neg hx1]
          have HF := Lib.hid hfin
          clear hx1 hy1 hfin hlx1 hly1
          go_enter Try.func19, Try.ntmps19
          go_wp2_with fail
          refine HC.out.mono ?_
          rw [HW.out, HSM.out]
          rintro e w1 ⟨rfl, b1⟩
          go_wp2_with fail
          go_ret2
          exact ⟨by rw [HW2.out, HF.out, ← HT1.out]; rfl, b1⟩
      · have hly1 : ¬ ly = 97 := fun h => hy1 (HY97.out ▸ h)
        have hyb : ((ly.toNat : Int) == 97) = false := by rw [beq_eq_false_iff_ne]; intro h; apply hly1; apply UInt8.toNat_inj.1; show ly.toNat = 97; omega
        by_cases hx1 : x = 1
        · have hlx1 : lx = 97 := HX97.out ▸ hx1
          have hxb : ((lx.toNat : Int) == 97) = true := by rw [hlx1]; rfl
          have hfin : strip r = r.drop 1 := by rw [HST.out, HC1.out, if_neg hy1, cut2, HGX.out, if_pos hx1]
          have HF := Lib.hid hfin
          clear hx1 hy1 hfin hlx1 hly1
          go_enter Try.func19, Try.ntmps19
          go_wp2_with fail
          refine HC.out.mono ?_
          rw [HW.out, HSM.out]
          rintro e w1 ⟨rfl, b1⟩
          go_wp2_with fail
          go_ret2
          exact ⟨by rw [HW2.out, HF.out, ← HD2.out]; rfl, b1⟩
        · have hlx1 : ¬ lx = 97 := fun h => hx1 (HX97.out ▸ h)
          have hxb : ((lx.toNat : Int) == 97) = false := by rw [beq_eq_false_iff_ne]; intro h; apply hlx1; apply UInt8.toNat_inj.1; show lx.toNat = 97; omega
          have hfin : strip r = r := by rw [HST.out, HC1.out, if_neg hy1, cut2, HGX.out, if_neg hx1]
          have HF := Lib.hid hfin
          clear hx1 hy1 hfin hlx1 hly1
          go_enter Try.func19, Try.ntmps19
          go_wp2_with fail
          refine HC.out.mono ?_
          rw [HW.out, HSM.out]
          rintro e w1 ⟨rfl, b1⟩
          go_wp2_with fail
          go_ret2
          exact ⟨by rw [HW2.out, HF.out, ← HZ.out]; rfl, b1⟩
def strLen : Value → Nat
  | .string b => b.size
  | _ => 0
set_option maxHeartbeats 400000 in
theorem iIsSmooth_any (s : ByteArray) (hs : s.size ≤ maxLen) (w : World) :
    Calls Try.prog 12 #[.string s] w fun e w' => e = .returned (.bool (smoothS s)) ∧ Below w.heap.size w w' := by
  cases hb : binW (L s)
  · have HB := Lib.hid hb; clear hb
    go_enter Try.func12, Try.ntmps12
    go_wp2_with fail
    refine (iIsBinary_any s hs _).mono ?_
    rw [HB.out]
    rintro e w1 ⟨rfl, b1⟩
    go_wp2_with fail
    go_ret
    exact ⟨ret_bool (by rw [smoothS, HB.out]; rfl), b1⟩
  · have HW0 := Lib.hid (bin_isW hb)
    have HB := Lib.hid hb; clear hb
    go_enter Try.func12, Try.ntmps12
    go_wp2_with fail
    refine (iIsBinary_any s hs _).mono ?_
    rw [HB.out]
    rintro e w1 ⟨rfl, b1⟩
    go_wp2_with fail
    go_loopw [0, 3, 4] (fun v _ _ wr => ∃ cur : ByteArray, v = .string cur ∧ isW (L cur) = true ∧ smoothL (L cur) = smoothL (L s) ∧ Below w.heap.size w wr) (fun v _ _ _ => strLen v)
    case atStart => exact ⟨s, rfl, HW0.out, rfl, b1⟩
    case round =>
      obtain ⟨cur, rfl, hw, hsm, hbel⟩ := hrel
      have HW := Lib.hid hw; have HSM := Lib.hid hsm; clear hsm
      have h400 := isW_size hw
      clear hw
      by_cases h2 : 1 < cur.size
      · have hst := smooth_step (l := L cur) (by rw [L_len]; omega)
        have hsh := inW_short (L cur) (by rw [L_len]; omega)
        rw [L_len] at hsh
        have hww := inW_word (L cur) (by rw [L_len]; omega)
        have HST := Lib.hid hst; have HWW := Lib.hid hww; have HSH := Lib.hid hsh; clear hst hww hsh
        have hbz := hbel.size
        have HCW := Lib.hid (iInner_any cur HW.out wr)
        go_wp2_with fail
        cases hin : inB (L cur)
        · have hsmf : small (runsOf (L cur)) = false := hin
          have hfin : smoothL (L s) = false := by rw [← HSM.out, HST.out, hin]; rfl
          have HFIN := Lib.hid hfin
          have HSF := Lib.hid hsmf; clear hin hsmf hfin
          refine HCW.out.mono ?_
          rw [HSF.out]
          rintro e w3 ⟨rfl, b3⟩
          go_wp2_with fail
          go_ret
          exact ⟨ret_bool (by rw [smoothS, HB.out, HFIN.out]; rfl), (hbel.trans (Below.refl w.heap.size wr)).trans (b3.mono (by have := (Below.refl w.heap.size wr).size; omega))⟩
        · have hsmf : small (runsOf (L cur)) = true := hin
          have hwd : wdS (strip (runsOf (L cur))) = strOf (inW (L cur)) := wd_ok (by rw [strip_small]; exact hsmf)
          have hnx : smoothL (L (strOf (inW (L cur)))) = smoothL (L s) := by rw [strOf_L, ← HSM.out, HST.out, hin]; rfl
          have HNX := Lib.hid hnx; have HWD := Lib.hid hwd
          have HSF := Lib.hid hsmf; clear hin hsmf hnx hwd
          refine HCW.out.mono ?_
          rw [HSF.out, HWD.out]
          rintro e w3 ⟨rfl, b3⟩
          obtain ⟨nx, hnx⟩ : ∃ nx, strOf (inW (L cur)) = nx := ⟨_, rfl⟩
          have hnw : isW (L nx) = true := by rw [← hnx, strOf_L]; exact HWW.out
          have hns : nx.size < cur.size := by rw [← hnx, strOf_size]; exact HSH.out
          rw [hnx] at HNX ⊢
          have HNW := Lib.hid hnw
          clear hnx hnw
          go_wp2_with fail
          go_roundw
          case rel => exact ⟨nx, rfl, HNW.out, HNX.out, (hbel.trans (Below.refl w.heap.size wr)).trans (b3.mono (by have := (Below.refl w.heap.size wr).size; omega))⟩
          case measure => exact hns
      · have hfin := smooth_le (l := L cur) (by rw [L_len]; omega)
        have HFIN := Lib.hid (hfin.symm.trans HSM.out); clear hfin
        go_wp2_with fail
        go_ret
        exact ⟨ret_bool (by rw [smoothS, HB.out, ← HFIN.out]; rfl), hbel⟩
end Go.Proofs.Ytfjmopiofcbpgaa
