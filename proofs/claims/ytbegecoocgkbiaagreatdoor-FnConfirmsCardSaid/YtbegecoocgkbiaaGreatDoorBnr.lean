/- IsBinary, both: words of the letters a and b alone (the first half of XBin: never import both). No condition but the bounds. -/
import Derived.Test.YtbegecoocgkbiaaGreatDoorStr
import Derived.Test.YtbegecoocgkbiaaGreatDoorM1
import Derived.Test.YtbegecoocgkbiaaGreatDoorShelf
namespace Go.Proofs.YtbegecoocgkbiaaGreatDoor
open Go.RowKit
set_option linter.unusedVariables false

/-- Whether all letters are among the first n. -/
def winL (n : Nat) (l : List UInt8) : Bool := l.all fun b => decide (b.toNat < 97 + n)
def binW (l : List UInt8) : Bool := isW l && winL 2 l
def swC (b : UInt8) : UInt8 := if b = 97 then 98 else 97
def swW (l : List UInt8) : List UInt8 := l.map swC
theorem isW_okc {l : List UInt8} (h : isW l = true) {k : Nat} {b : UInt8} (hb : l[k]? = some b) : 97 ≤ b.toNat ∧ b.toNat ≤ 100 := by
  unfold isW at h
  simp only [Bool.and_eq_true, List.all_eq_true] at h
  have := h.1 b (List.mem_of_getElem? hb)
  unfold okc at this
  simpa using this
theorem L_at (s : ByteArray) (k : Nat) (h : k < s.size) : (L s)[k]? = some s[k] := by
  rw [List.getElem?_eq_getElem (by rw [L_len]; exact h)]; rfl
set_option maxHeartbeats 400000 in
theorem l03Within_any (n : Nat) (s : ByteArray) (hn : n ≤ 1000) (hs : isW (L s) = true) (w : World) :
    Calls Tryz.prog 221 #[.int .i64 n, .string s] w fun e w' => e = .returned (.bool (winL n (L s))) ∧ w = w' := by
  have h400 := isW_len hs
  rw [L_len] at h400
  have HS := Lib.hid hs; clear hs
  go_enter Tryz.func221, Tryz.ntmps221
  go_wp2_with fail
  go_loop [5] (fun i => ∃ k : Nat, k ≤ s.size ∧ i = .int .i64 k ∧ winL n ((L s).drop k) = winL n (L s)) (fun i => s.size - (intOf i).toNat)
  case atStart => exact ⟨0, by omega, rfl, rfl⟩
  case round =>
    obtain ⟨k, hk, rfl, hg⟩ := hrel
    have HG := Lib.hid hg; clear hg
    by_cases hlt : k < s.size
    · obtain ⟨bb, hbb⟩ : ∃ bb, s[k]'hlt = bb := ⟨_, rfl⟩
      have hb := isW_okc HS.out (L_at s k hlt)
      rw [hbb] at hb
      have hdd := drop_at s k hlt
      rw [hbb] at hdd
      have HD := Lib.hid hdd
      obtain ⟨p, hp⟩ : ∃ p, bb.toNat - 97 = p := ⟨_, rfl⟩
      have m1 : IntKind.u8.wrap ((bb.toNat : Int) - 97) = (p : Int) := by rw [IntWalk.u8_in _ (by omega)]; omega
      have p2 : p < 4 := by omega
      have hpw : bb.toNat < 97 + n ↔ p < n := by omega
      have HPW := Lib.hid hpw
      clear hb hdd hp hpw
      by_cases hpn : p < n
      · have HW := Lib.hid (HPW.out.2 hpn)
        go_wp2_with fail
        go_round
        case rel => exact ⟨k + 1, by omega, by go_num, by rw [← HG.out, HD.out, winL, winL, List.all_cons, decide_eq_true HW.out]; rfl⟩
        case measure => simp [intOf]; omega
      · have HW := Lib.hid (fun h => hpn (HPW.out.1 h))
        go_wp2_with fail
        go_ret
        exact ⟨ret_bool (by rw [← HG.out, HD.out, winL, List.all_cons, decide_eq_false HW.out]; rfl), rfl⟩
    · have h0 : (L s).drop k = [] := drop_end s k hlt
      have H0 := Lib.hid h0; clear h0
      go_wp2_with fail
      go_ret
      exact ⟨ret_bool (by rw [← HG.out, H0.out]; rfl), rfl⟩
theorem containsAny_any (cs : List UInt8) : ∀ l : List UInt8, Lib.containsAny l cs = l.any cs.contains
  | [] => rfl
  | b :: l => by
    have ih := containsAny_any cs l
    have hge := Lib.indexAny_ge cs l
    unfold Lib.containsAny at ih ⊢
    rw [List.any_cons, ← ih, Lib.indexAny]
    cases hc : cs.contains b
    · simp only [Bool.false_eq_true, if_false, Bool.false_or]
      by_cases h1 : Lib.indexAny l cs = -1
      · rw [h1]; rfl
      · rw [if_neg (by simpa using h1), decide_eq_true (by omega), decide_eq_true (by omega)]
    · rfl
theorem containsAny_cd {l : List UInt8} (h : isW l = true) : Lib.containsAny l [99, 100] = !winL 2 l := by
  have hall : ∀ b ∈ l, 97 ≤ b.toNat ∧ b.toNat ≤ 100 := fun b hb => by
    obtain ⟨k, hk⟩ := List.getElem?_of_mem hb
    exact isW_okc h hk
  clear h
  rw [containsAny_any]
  induction l with
  | nil => rfl
  | cons b l ih =>
    have hb := hall b (List.mem_cons_self)
    rw [List.any_cons, ih fun c hc => hall c (List.mem_cons_of_mem _ hc), winL, winL, List.all_cons, Bool.not_and]
    congr 1
    rw [Bool.eq_iff_iff]
    simp [← UInt8.toNat_inj]
    omega
theorem iIsBinary_any (s : ByteArray) (hs : s.size ≤ maxLen) (w : World) :
    Calls Tryz.prog 68 #[.string s] w fun e w' => e = .returned (.bool (binW (L s))) ∧ Below w.heap.size w w' := by
  cases h1 : isW (L s)
  · have H1 := Lib.hid h1; clear h1
    go_enter Tryz.func68, Tryz.ntmps68
    go_wp2_with (go_at_call 70; refine (isWord_is s _ hs H1.out _).mono ?_; rintro e w' ⟨rfl, rfl⟩)
    go_ret
    exact ⟨ret_bool (by rw [binW, H1.out]; rfl), Below.refl _ _⟩
  · have h400 := isW_len h1
    rw [L_len] at h400
    have hca := containsAny_cd h1
    have hct := Tryz.strings_ContainsAny_laid s ({ data := #[99, 100] }) w (by omega) (by decide) (fun j b hb => by have := isW_okc h1 hb; omega) (fun j b hb => by
      match j, hb with
      | 0, hb => injection hb with hb; subst hb; decide
      | 1, hb => injection hb with hb; subst hb; decide)
    rw [show Lib.containsAny s.data.toList ({ data := #[99, 100] } : ByteArray).data.toList = !winL 2 (L s) from hca] at hct
    have HCT := Lib.hid hct
    have H1 := Lib.hid h1; clear h1 hct hca
    cases hw : winL 2 (L s)
    · have HW := Lib.hid hw; clear hw
      go_enter Tryz.func68, Tryz.ntmps68
      go_wp2_with (go_at_call 70; refine (isWord_is s _ hs H1.out _).mono ?_; rintro e w' ⟨rfl, rfl⟩)
      refine HCT.out.mono ?_
      rw [HW.out]
      rintro e w1 ⟨rfl, b1⟩
      go_wp2_with fail
      go_ret
      exact ⟨ret_bool (by rw [binW, H1.out, HW.out]; rfl), b1⟩
    · have HW := Lib.hid hw; clear hw
      go_enter Tryz.func68, Tryz.ntmps68
      go_wp2_with (go_at_call 70; refine (isWord_is s _ hs H1.out _).mono ?_; rintro e w' ⟨rfl, rfl⟩)
      refine HCT.out.mono ?_
      rw [HW.out]
      rintro e w1 ⟨rfl, b1⟩
      go_wp2_with fail
      go_ret
      exact ⟨ret_bool (by rw [binW, H1.out, HW.out]; rfl), b1⟩
end Go.Proofs.YtbegecoocgkbiaaGreatDoor
