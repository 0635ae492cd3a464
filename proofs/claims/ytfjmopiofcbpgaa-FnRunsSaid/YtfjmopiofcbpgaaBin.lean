/- IsBinary, SwapAB, both: words of the letters a and b alone. No condition but the bounds. -/
import Derived.Test.YtfjmopiofcbpgaaStr
import Derived.Test.YtfjmopiofcbpgaaByt
import Derived.Test.YtfjmopiofcbpgaaShelf
namespace Go.Proofs.Ytfjmopiofcbpgaa
open Go.RowKit
set_option linter.unusedVariables false

/-- Whether all letters are among the first n. -/
def winL (n : Nat) (l : List UInt8) : Bool := l.all fun b => decide (b.toNat < 97 + n)
def binW (l : List UInt8) : Bool := isW l && winL 2 l
def swC (b : UInt8) : UInt8 := if b = 97 then 98 else 97
def swW (l : List UInt8) : List UInt8 := l.map swC
theorem isW_okc {l : List UInt8} (h : isW l = true) {k : Nat} {b : UInt8} (hb : l[k]? = some b) : 97 ≤ b.toNat ∧ b.toNat ≤ 100 := by
  unfold isW at h
  simp only [Bool.and_eq_true, List.all_eq_true] at h
  have := h.1 b (List.mem_of_getElem? hb)
  unfold okc at this
  simpa using this
theorem L_at (s : ByteArray) (k : Nat) (h : k < s.size) : (L s)[k]? = some s[k] := by
  rw [List.getElem?_eq_getElem (by rw [L_len]; exact h)]; rfl
theorem containsAny_any (cs : List UInt8) : ∀ l : List UInt8, Lib.containsAny l cs = l.any cs.contains
  | [] => rfl
  | b :: l => by
    have ih := containsAny_any cs l
    have hge := Lib.indexAny_ge cs l
    unfold Lib.containsAny at ih ⊢
    rw [List.any_cons, ← ih, Lib.indexAny]
    cases hc : cs.contains b
    · simp only [Bool.false_eq_true, if_false, Bool.false_or]
      by_cases h1 : Lib.indexAny l cs = -1
      · rw [h1]; rfl
      · rw [if_neg (by simpa using h1), decide_eq_true (by omega), decide_eq_true (by omega)]
    · rfl
theorem containsAny_cd {l : List UInt8} (h : isW l = true) : Lib.containsAny l [99, 100] = !winL 2 l := by
  have hall : ∀ b ∈ l, 97 ≤ b.toNat ∧ b.toNat ≤ 100 := fun b hb => by
    obtain ⟨k, hk⟩ := List.getElem?_of_mem hb
    exact isW_okc h hk
  clear h
  rw [containsAny_any]
  induction l with
  | nil => rfl
  | cons b l ih =>
    have hb := hall b (List.mem_cons_self)
    rw [List.any_cons, ih fun c hc => hall c (List.mem_cons_of_mem _ hc), winL, winL, List.all_cons, Bool.not_and]
    congr 1
    rw [Bool.eq_iff_iff]
    simp [← UInt8.toNat_inj]
    omega
theorem iIsBinary_any (s : ByteArray) (hs : s.size ≤ maxLen) (w : World) :
    Calls Try.prog 17 #[.string s] w fun e w' => e = .returned (.bool (binW (L s))) ∧ Below w.heap.size w w' := by
  cases h1 : isW (L s)
  · have H1 := Lib.hid h1; clear h1
    go_enter Try.func17, Try.ntmps17
    go_wp2_with (go_at_call 46; refine (isWord_is s _ hs H1.out _).mono ?_; rintro e w' ⟨rfl, rfl⟩)
    go_ret
    exact ⟨ret_bool (by rw [binW, H1.out]; rfl), Below.refl _ _⟩
  · have h400 := isW_len h1
    rw [L_len] at h400
    have hca := containsAny_cd h1
    have hct := Try.strings_ContainsAny_laid s ({ data := #[99, 100] }) w (by omega) (by decide) (fun j b hb => by have := isW_okc h1 hb; omega) (fun j b hb => by
      match j, hb with
      | 0, hb => injection hb with hb; subst hb; decide
      | 1, hb => injection hb with hb; subst hb; decide)
    rw [show Lib.containsAny s.data.toList ({ data := #[99, 100] } : ByteArray).data.toList = !winL 2 (L s) from hca] at hct
    have HCT := Lib.hid hct
    have H1 := Lib.hid h1; clear h1 hct hca
    cases hw : winL 2 (L s)
    · have HW := Lib.hid hw; clear hw
      go_enter Try.func17, Try.ntmps17
      go_wp2_with (go_at_call 46; refine (isWord_is s _ hs H1.out _).mono ?_; rintro e w' ⟨rfl, rfl⟩)
      refine HCT.out.mono ?_
      rw [HW.out]
      rintro e w1 ⟨rfl, b1⟩
      go_wp2_with fail
      go_ret
      exact ⟨ret_bool (by rw [binW, H1.out, HW.out]; rfl), b1⟩
    · have HW := Lib.hid hw; clear hw
      go_enter Try.func17, Try.ntmps17
      go_wp2_with (go_at_call 46; refine (isWord_is s _ hs H1.out _).mono ?_; rintro e w' ⟨rfl, rfl⟩)
      refine HCT.out.mono ?_
      rw [HW.out]
      rintro e w1 ⟨rfl, b1⟩
      go_wp2_with fail
      go_ret
      exact ⟨ret_bool (by rw [binW, H1.out, HW.out]; rfl), b1⟩
theorem swW_length (l : List UInt8) : (swW l).length = l.length := by simp [swW]
theorem swW_at {l : List UInt8} {k : Nat} {b : UInt8} (h : l[k]? = some b) : (swW l).take (k + 1) = (swW l).take k ++ [swC b] := by
  rw [List.take_add_one]; simp [swW, h]
theorem bin_at {l : List UInt8} (h : binW l = true) {k : Nat} {b : UInt8} (hb : l[k]? = some b) : 97 ≤ b.toNat ∧ b.toNat ≤ 98 := by
  unfold binW at h
  simp only [Bool.and_eq_true] at h
  have h1 := isW_okc h.1 hb
  have h2 := h.2
  unfold winL at h2
  rw [List.all_eq_true] at h2
  have := h2 b (List.mem_of_getElem? hb)
  simp at this; omega
theorem bin_isW {l : List UInt8} (h : binW l = true) : isW l = true := by
  unfold binW at h; simp only [Bool.and_eq_true] at h; exact h.1
theorem swC_nat {b : UInt8} (h1 : 97 ≤ b.toNat) (h2 : b.toNat ≤ 98) : (swC b).toNat = 195 - b.toNat := by
  unfold swC
  by_cases hb : b = 97
  · rw [if_pos hb, hb]; rfl
  · rw [if_neg hb]
    have : b.toNat ≠ 97 := fun h => hb (UInt8.toNat_inj.1 h)
    show 97 = _
    omega
def swapS (s : ByteArray) : ByteArray := if binW (L s) = true then strOf (swW (L s)) else ⟨#[]⟩
theorem nm_at (bb : UInt8) (p : Nat) (h4 : p < 4) (h97 : 97 ≤ bb.toNat) (h2 : p < 2) (hp : bb.toNat - 97 = p) : (({ data := #[98, 97, 99, 100] } : ByteArray))[p]'h4 = swC bb := by
  have h : bb = 97 ∧ p = 0 ∨ bb = 98 ∧ p = 1 := by
    by_cases h0 : p = 0
    · exact .inl ⟨UInt8.toNat_inj.1 (by show bb.toNat = 97; omega), h0⟩
    · exact .inr ⟨UInt8.toNat_inj.1 (by show bb.toNat = 98; omega), by omega⟩
  rcases h with ⟨rfl, rfl⟩ | ⟨rfl, rfl⟩ <;> rfl
theorem count_one (i : Nat) (hi : i < 4) (w : World) :
    Calls Try.prog 76 #[.string { data := #[98, 97, 99, 100] }, .string (({ data := #[97, 98, 99, 100] } : ByteArray).extract i (i + 1))] w fun e w' => e = .returned (.int .i64 1) ∧ w = w' := by
  match i, hi with
  | 0, _ => exact (Try.strings_Count_one ⟨#[98, 97, 99, 100]⟩ 97 w).mono fun e w' h => ⟨h.1, h.2.symm⟩
  | 1, _ => exact (Try.strings_Count_one ⟨#[98, 97, 99, 100]⟩ 98 w).mono fun e w' h => ⟨h.1, h.2.symm⟩
  | 2, _ => exact (Try.strings_Count_one ⟨#[98, 97, 99, 100]⟩ 99 w).mono fun e w' h => ⟨h.1, h.2.symm⟩
  | 3, _ => exact (Try.strings_Count_one ⟨#[98, 97, 99, 100]⟩ 100 w).mono fun e w' h => ⟨h.1, h.2.symm⟩
set_option maxRecDepth 4000 in
set_option maxHeartbeats 400000 in
theorem swapLetters_yes (s : ByteArray) (hb : binW (L s) = true) (w : World) :
    Calls Try.prog 50 #[.string s, .string { data := #[98, 97, 99, 100] }] w fun e w' => e = .returned (.tuple #[.string (strOf (swW (L s))), .bool true]) ∧ Below w.heap.size w w' := by
  have h400 := isW_len (bin_isW hb)
  rw [L_len] at h400
  have hs : s.size ≤ maxLen := by unfold maxLen; omega
  have HB := Lib.hid hb; clear hb
  have HL := Lib.hid ((swW_length (L s)).trans (L_len s))
  go_enter Try.func50, Try.ntmps50
  go_wp2_with (go_at_call 46; refine (isWord_is s _ hs (bin_isW HB.out) _).mono ?_; rintro e w' ⟨rfl, rfl⟩)
  go_loop [6, 17] (fun _ i => ∃ k : Nat, k ≤ 4 ∧ i = .int .i64 k) (fun _ i => 4 - (intOf i).toNat)
  case atStart => exact ⟨0, by omega, rfl⟩
  case round =>
    obtain ⟨i, hi, rfl⟩ := hrel
    by_cases hi4 : i < 4
    · go_wp2_with fail
      refine (count_one i hi4 _).mono ?_
      rintro e w' ⟨rfl, rfl⟩
      go_wp2_with fail
      go_round
      case rel => exact ⟨i + 1, by omega, by go_num⟩
      case measure => simp [intOf]; omega
    · go_wp2_with fail
      go_loopw [7, 8, 31] (fun v _ i wr => ∃ k : Nat, ∃ A c, k ≤ s.size ∧ i = .int .i64 k ∧ v = .slice A k c ∧ Own wr w.heap.size 5 (.slice A k c) (byV ((swW (L s)).take k)) ∧ Below w.heap.size w wr) (fun _ _ i _ => s.size - (intOf i).toNat)
      case atStart => exact ⟨0, _, _, by omega, rfl, rfl, Own.empty (Nat.le_refl _), (Below.refl _ _).alloc (Nat.le_refl _) _⟩
      case round =>
        obtain ⟨k, A, c, hk, rfl, rfl, hown, hbel⟩ := hrel
        have HO := Lib.hid hown; clear hown
        by_cases hlt : k < s.size
        · obtain ⟨bb, hbb⟩ : ∃ bb, s[k]'hlt = bb := ⟨_, rfl⟩
          have hat := L_at s k hlt
          rw [hbb] at hat
          have hbd := bin_at HB.out hat
          have HT := Lib.hid (swW_at hat)
          obtain ⟨p, hp⟩ : ∃ p, bb.toNat - 97 = p := ⟨_, rfl⟩
          have b1 := hbd.1
          have b2 := hbd.2
          have p2 : p < 2 := by omega
          have p4 : (p : Int) < 4 := by omega
          have m1 : IntKind.u8.wrap ((bb.toNat : Int) - 97) = (p : Int) := by rw [IntWalk.u8_in _ (by omega)]; omega
          have hnm := nm_at bb p (Nat.lt_of_lt_of_le p2 (by decide)) b1 p2 hp
          have hdl : ((swW (L s)).take k).length = k := by rw [List.length_take, HL.out]; omega
          have HDL := Lib.hid hdl; clear hdl hat hbd hp
          go_wp2_with (at_builtin; refine wp_append1 rfl (.tmp 34) (.tmp 41) 22 rfl _ 1 Try.underlying22 info_u8 rfl rfl HO.out _ rfl rfl k ?n1 ?n2 ?n3 ?n4 ?_)
          case n1 => rw [byV_length, HDL.out]
          case n2 => omega
          case n3 => decide
          case n4 => exact hbel.size
          intro A' c' w2 hown2 hbel2 hsz2
          rw [byV_snoc, ← HT.out] at hown2
          have HO2 := Lib.hid hown2; clear hown2
          go_wp2_with fail
          go_roundw
          case rel => exact ⟨k + 1, A', c', by omega, by go_num, rfl, HO2.out, hbel.trans hbel2⟩
          case measure => simp [intOf]; omega
        · have hkn : k = s.size := by omega
          have h1 : (swW (L s)).take k = swW (L s) := List.take_of_length_le (by rw [HL.out]; omega)
          have HO2 := HO.out
          rw [h1] at HO2
          have hcv := HO2.reads.conv (P := Try.prog) (HL.out.trans hkn.symm) 22 9 5 c Try.underlying22 Try.underlying5 Try.underlying9
          clear HO2 h1 hkn
          go_wp2_with fail
          go_ret2
          exact ⟨rfl, hbel⟩
theorem iSwapAB_any (s : ByteArray) (hs : s.size ≤ maxLen) (w : World) :
    Calls Try.prog 11 #[.string s] w fun e w' => e = .returned (.tuple #[.string (swapS s), .bool (binW (L s))]) ∧ Below w.heap.size w w' := by
  cases hb : binW (L s)
  · have hS : swapS s = ⟨#[]⟩ := by rw [swapS, hb]; rfl
    have HS := Lib.hid hS
    have HB := Lib.hid hb; clear hb hS
    go_enter Try.func11, Try.ntmps11
    go_wp2_with fail
    refine (iIsBinary_any s hs _).mono ?_
    rw [HB.out]
    rintro e w1 ⟨rfl, b1⟩
    go_wp2_with fail
    go_ret2
    exact ⟨by rw [HS.out]; rfl, b1⟩
  · have hS : swapS s = strOf (swW (L s)) := by rw [swapS, hb]; rfl
    have HS := Lib.hid hS
    have HB := Lib.hid hb; clear hb hS
    go_enter Try.func11, Try.ntmps11
    go_wp2_with fail
    refine (iIsBinary_any s hs _).mono ?_
    rw [HB.out]
    rintro e w1 ⟨rfl, b1⟩
    go_wp2_with fail
    refine (swapLetters_yes s HB.out _).mono ?_
    rintro e w2 ⟨rfl, b2⟩
    go_wp2_with fail
    go_ret2
    exact ⟨by rw [HS.out]; rfl, b1.trans (b2.mono b1.size)⟩
end Go.Proofs.Ytfjmopiofcbpgaa
