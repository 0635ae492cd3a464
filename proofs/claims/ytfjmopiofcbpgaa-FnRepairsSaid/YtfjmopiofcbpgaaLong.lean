/- LongestAllowed, both. A list of pairs in order has at most sixteen pairs, so no number of words overflows. -/
import Derived.Test.YtfjmopiofcbpgaaCount
namespace Go.Proofs.Ytfjmopiofcbpgaa
open Go.RowKit
set_option linter.unusedVariables false

def code (s : ByteArray) : Nat := 4 * la s 0 + la s 1
theorem toList_L (s : ByteArray) : s.toList = L s := ByteArray.toList_eq s
theorem code_lt {s q : ByteArray} (hs : pairW s = true) (hq : pairW q = true) (h : sLe s q = false) : code q < code s ∧ code s < 16 := by
  obtain ⟨a, b, hL, ha1, ha2, hb1, hb2⟩ := pair_letters hs
  obtain ⟨a', b', hL', ha1', ha2', hb1', hb2'⟩ := pair_letters hq
  unfold sLe at h
  rw [toList_L, toList_L, hL, hL'] at h
  simp only [Bool.or_eq_false_iff] at h
  obtain ⟨h1, h2⟩ := h
  have e1 : la s 0 = a.toNat - 97 := by rw [la, hL]; rfl
  have e2 : la s 1 = b.toNat - 97 := by rw [la, hL]; rfl
  have e3 : la q 0 = a'.toNat - 97 := by rw [la, hL']; rfl
  have e4 : la q 1 = b'.toNat - 97 := by rw [la, hL']; rfl
  unfold code
  rw [e1, e2, e3, e4]
  have hn : ¬ (a.toNat = a'.toNat ∧ b.toNat = b'.toNat) := by
    rintro ⟨x, y⟩
    have xx := UInt8.toNat_inj.1 x
    have yy := UInt8.toNat_inj.1 y
    subst xx yy
    simp at h2
  simp [Op.bytesLess] at h1
  simp only [UInt8.le_iff_toNat_le, ← UInt8.toNat_inj] at h1
  omega
theorem prGo_len : ∀ (ss : List ByteArray) (q : ByteArray), pairW q = true → code q < 16 → prGo (some q) ss = true → ss.length + code q < 16
  | [], q, _, hc, _ => by simpa using hc
  | s :: r, q, hq, hc, h => by
    rw [prGo_cons] at h
    simp only [Bool.and_eq_true, Bool.not_eq_true'] at h
    obtain ⟨⟨h1, h2⟩, h3⟩ := h
    have hl := code_lt h1 hq h2
    have := prGo_len r s h1 hl.2 h3
    simp; omega
theorem code_16 {s : ByteArray} (hs : pairW s = true) : code s < 16 := by
  obtain ⟨a, b, hL, ha1, ha2, hb1, hb2⟩ := pair_letters hs
  have e1 : la s 0 = a.toNat - 97 := by rw [la, hL]; rfl
  have e2 : la s 1 = b.toNat - 97 := by rw [la, hL]; rfl
  unfold code; omega
theorem pairs_len {ss : List ByteArray} (h : pairsOk ss = true) : ss.length ≤ 16 := by
  unfold pairsOk at h
  cases ss with
  | nil => simp
  | cons s r =>
    rw [prGo_cons] at h
    simp only [Bool.and_eq_true] at h
    have := prGo_len r s h.1.1 (code_16 h.1.1) h.2
    simp; omega
/-- All of a row within bounds. -/
def Bd (M : Int) (cs : List Int) : Prop := ∀ i, 0 ≤ cs.getD i 0 ∧ cs.getD i 0 ≤ M
theorem getD_set (cs : List Int) (p i : Nat) (x : Int) : (cs.set p x).getD i 0 = if p = i ∧ p < cs.length then x else cs.getD i 0 := by
  simp only [List.getD_eq_getElem?_getD, List.getElem?_set]
  by_cases h : p = i
  · subst h
    by_cases h2 : p < cs.length
    · simp [h2]
    · simp [h2]
  · simp [h]
theorem Bd.step {M N : Int} {cs nx : List Int} (hc : Bd M cs) (hn : Bd N nx) (hM : 0 ≤ M) (hsum : N + M ≤ 9223372036854775807) (s : ByteArray) : Bd (N + M) (ctStep1 cs nx s) := by
  intro i
  unfold ctStep1
  rw [getD_set]
  have h1 := hn (la s 0)
  have h2 := hc (la s 1)
  have h3 := hn i
  split
  · rw [IntWalk.wrap64_in _ (by omega)]; omega
  · omega
theorem Bd.go {M : Int} {cs : List Int} (hc : Bd M cs) (hM : 0 ≤ M) : ∀ (ss : List ByteArray) (N : Int) (nx : List Int), Bd N nx → N + ss.length * M ≤ 9223372036854775807 → Bd (N + ss.length * M) (ctGo cs ss nx)
  | [], N, nx, hn, _ => by
    rw [show N + (([] : List ByteArray).length : Int) * M = N by simp]; exact hn
  | s :: r, N, nx, hn, h => by
    have hl : ((s :: r).length : Int) * M = M + r.length * M := by
      rw [List.length_cons, Int.natCast_add, Int.add_mul]; omega
    have hr : 0 ≤ (r.length : Int) * M := Int.mul_nonneg (by omega) hM
    rw [hl] at h ⊢
    have := Bd.go hc hM r (N + M) (ctStep1 cs nx s) (hc.step hn hM (by omega) s) (by omega)
    rw [show N + (M + r.length * M) = N + M + r.length * M by omega]
    exact this
theorem ctRun_bd {ss : List ByteArray} (hl : ss.length ≤ 16) : Bd 65536 (ctRun ss 0) ∧ Bd 65536 (ctRun ss 1) ∧ Bd 65536 (ctRun ss 2) ∧ Bd 65536 (ctRun ss 3) ∧ Bd 65536 (ctRun ss 4) := by
  have hz : Bd 0 [0, 0, 0, 0] := by
    intro i
    match i with
    | 0 => decide
    | 1 => decide
    | 2 => decide
    | 3 => decide
    | i + 4 => simp
  have h0 : Bd 1 (ctRun ss 0) := by
    intro i
    match i with
    | 0 => exact (show (0 : Int) ≤ 1 ∧ (1 : Int) ≤ 1 by decide)
    | 1 => exact (show (0 : Int) ≤ 1 ∧ (1 : Int) ≤ 1 by decide)
    | 2 => exact (show (0 : Int) ≤ 1 ∧ (1 : Int) ≤ 1 by decide)
    | 3 => exact (show (0 : Int) ≤ 1 ∧ (1 : Int) ≤ 1 by decide)
    | i + 4 => simp [ctRun]
  have up : ∀ {M N : Int} {cs : List Int}, Bd M cs → M ≤ N → Bd N cs := fun h hMN i => ⟨(h i).1, Int.le_trans (h i).2 hMN⟩
  have st : ∀ {M : Int} (n : Nat), Bd M (ctRun ss n) → 0 ≤ M → M ≤ 65536 → Bd (16 * M) (ctRun ss (n + 1)) := by
    intro M n h hM hM2
    have hm : (ss.length : Int) * M ≤ 16 * M := Int.mul_le_mul_of_nonneg_right (by omega) hM
    have := h.go hM ss 0 [0, 0, 0, 0] hz (by omega)
    exact up this (by omega)
  have h1 := st 0 h0 (by omega) (by omega)
  have h2 := st 1 h1 (by omega) (by omega)
  have h3 := st 2 h2 (by omega) (by omega)
  have h4 := st 3 h3 (by omega) (by omega)
  exact ⟨up h0 (by omega), up h1 (by omega), up h2 (by omega), up h3 (by omega), up h4 (by omega)⟩
theorem sum4_nonneg {cs : List Int} (h : Bd 65536 cs) : 0 ≤ sum4 cs := by
  have h0 := h 0
  have h1 := h 1
  have h2 := h 2
  have h3 := h 3
  unfold sum4
  generalize cs.getD 0 0 = a at *
  generalize cs.getD 1 0 = b at *
  generalize cs.getD 2 0 = c at *
  generalize cs.getD 3 0 = d at *
  rw [IntWalk.wrap64_in (a + b) (by omega), IntWalk.wrap64_in (a + b + c) (by omega), IntWalk.wrap64_in (a + b + c + d) (by omega)]
  omega
theorem ctAll_nonneg {ss : List ByteArray} (hp : pairsOk ss = true) (n : Nat) (h1 : 1 ≤ n) (h5 : n ≤ 5) : 0 ≤ ctAll ss n := by
  have hb := ctRun_bd (pairs_len hp)
  have hn : n = 1 ∨ n = 2 ∨ n = 3 ∨ n = 4 ∨ n = 5 := by omega
  rcases hn with rfl | rfl | rfl | rfl | rfl
  · exact sum4_nonneg hb.1
  · exact sum4_nonneg hb.2.1
  · exact sum4_nonneg hb.2.2.1
  · exact sum4_nonneg hb.2.2.2.1
  · exact sum4_nonneg hb.2.2.2.2

/-- From the number k on: the last number of letters before the first without words. -/
def lgGo (ss : List ByteArray) : Nat → Nat → Int
  | 0, _ => 40
  | n + 1, k => if ctAll ss k = 0 then (k : Int) - 1 else lgGo ss n (k + 1)
def lgV (ss : List ByteArray) : Int := if pairsOk ss = true then lgGo ss 4 2 else -1
set_option maxHeartbeats 400000 in
theorem iLongestAllowed_any (ss : List ByteArray) (A : Option Addr) (c B : Nat) (w : World) (hB : B ≤ w.heap.size) (hn : ss.length ≤ 4294967296) (hsz : ∀ s ∈ ss, s.size ≤ maxLen) (hrd : Rds w B A (ss.map Value.string)) :
    Calls Try.prog 43 #[.slice A ss.length c] w fun e w' => e = .returned (.int .i64 (lgV ss)) ∧ Below w.heap.size w w' := by
  have HZ := Lib.hid hsz; clear hsz
  have HR := Lib.hid hrd; clear hrd
  cases hp : pairsOk ss
  · have HP := Lib.hid hp; clear hp
    go_enter Try.func43, Try.ntmps43
    go_wp2_with (go_at_call 71; refine (arePairs_any ss A c B _ hn HZ.out HR.out).mono ?_; rw [HP.out]; rintro e w1 ⟨rfl, d1⟩)
    go_ret
    exact ⟨ret_int (by rw [lgV, HP.out]; rfl), d1.below⟩
  · have HW := Lib.hid (prGo_all ss none hp)
    have hv : lgV ss = lgGo ss 4 2 := by rw [lgV, hp]; rfl
    have HV := Lib.hid hv
    have HP := Lib.hid hp; clear hp hv
    go_enter Try.func43, Try.ntmps43
    go_wp2_with (go_at_call 71; refine (arePairs_any ss A c B _ hn HZ.out HR.out).mono ?_; rw [HP.out]; rintro e w1 ⟨rfl, d1⟩)
    go_loopw [3] (fun i wr => ∃ k n : Nat, k + n = 6 ∧ 2 ≤ k ∧ i = .int .i64 k ∧ lgGo ss n k = lgV ss ∧ Below w.heap.size w wr) (fun i _ => 6 - (intOf i).toNat)
    case atStart => exact ⟨2, 4, by omega, by omega, rfl, HV.out.symm, d1.below⟩
    case round =>
      clear d1
      obtain ⟨k, n, hkn, hk, rfl, hg, hbel⟩ := hrel
      have HG := Lib.hid hg; clear hg
      by_cases hlt : k ≤ 5
      · obtain ⟨m, rfl⟩ : ∃ m, n = m + 1 := ⟨n - 1, by omega⟩
        have hB2 := hbel.size
        have hmk : m + k = 5 := by omega
        clear hkn
        have HMK := Lib.hid hmk; clear hmk
        obtain ⟨v, hv⟩ : ∃ v, ctAll ss k = v := ⟨_, rfl⟩
        have HV1 := Lib.hid hv; clear hv
        by_cases h0 : v = 0
        · subst h0
          go_wp2_with fail
          refine (countAllowed_yes k ss A c B _ (by omega) (by omega) HW.out hn (HR.out.below hbel hB)).mono ?_
          rw [HV1.out]
          rintro e w2 ⟨rfl, b2⟩
          go_wp2_with fail
          go_ret
          exact ⟨ret_int (by rw [← HG.out, lgGo, if_pos HV1.out]), hbel.trans (b2.mono hB2)⟩
        · have hb : (v == 0) = false := by simpa using h0
          have H0 := Lib.hid h0; clear h0
          go_wp2_with fail
          refine (countAllowed_yes k ss A c B _ (by omega) (by omega) HW.out hn (HR.out.below hbel hB)).mono ?_
          rw [HV1.out]
          rintro e w2 ⟨rfl, b2⟩
          go_wp2_with fail
          go_roundw
          case rel => exact ⟨k + 1, m, by have := HMK.out; omega, by omega, by go_num, by rw [← HG.out, lgGo, if_neg (by rw [HV1.out]; exact H0.out)], hbel.trans (b2.mono hB2)⟩
          case measure => simp [intOf]; omega
      · have h0 : n = 0 := by omega
        subst h0
        go_wp2_with fail
        go_ret
        exact ⟨ret_int (by rw [← HG.out]; rfl), hbel⟩
end Go.Proofs.Ytfjmopiofcbpgaa
