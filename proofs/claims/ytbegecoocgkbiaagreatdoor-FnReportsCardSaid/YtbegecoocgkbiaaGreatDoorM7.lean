/- Texts of this claim, one behind the other: Fmt, Ban, Lyn, Comp, Near, Pip, Lyp, Near2, Avo, Piw, Err. No condition but what each says. -/
import Derived.Test.YtbegecoocgkbiaaGreatDoorM1
import Derived.Test.YtbegecoocgkbiaaGreatDoorStr
import Derived.Lib.ItoaNum
import Derived.Lib.LaidTab
import Derived.Lib.SmallJoins
import Derived.Test.YtbegecoocgkbiaaGreatDoorShelf
import Derived.Test.YtbegecoocgkbiaaGreatDoorGold
import Derived.Lib.AtoiAll
import Derived.Lib.AtoiAllCases
import Derived.Lib.ItoaMem
import Derived.Shelf.Strconv.AtoiAll
import Derived.Stop.LaidErr
/- FormatInt of the reference: the decimal numeral of every int. No condition. -/
namespace Go.Proofs.YtbegecoocgkbiaaGreatDoor
open Go.RowKit
set_option linter.unusedVariables false

theorem dd_len : ∀ (m u : Nat), 1 ≤ m → u < 10 ^ m → (Lib.decDigits u).length ≤ m
  | 0, u, h, _ => by omega
  | m + 1, u, _, hu => by
    rw [Lib.decDigits]
    split
    · simp
    · rename_i h10
      have h1 : 1 ≤ m := by
        rcases Nat.eq_zero_or_pos m with h | h
        · subst h; simp at hu; omega
        · exact h
      have := dd_len m (u / 10) h1 (by rw [Nat.pow_succ] at hu; omega)
      rw [List.length_append, List.length_singleton]; omega
theorem dd_len20 {u : Nat} (h : u ≤ 9223372036854775808) : (Lib.decDigits u).length ≤ 20 := by
  have h2 : (10 : Nat) ^ 20 = 100000000000000000000 := by decide
  exact dd_len 20 u (by omega) (by rw [h2]; omega)
theorem dd_small {u : Nat} (h : u < 10) : Lib.decDigits u = [UInt8.ofNat (48 + u)] := by rw [Lib.decDigits, dif_pos h]
theorem dd_big {u : Nat} (h : ¬ u < 10) : Lib.decDigits u = Lib.decDigits (u / 10) ++ [UInt8.ofNat (48 + u % 10)] := by rw [Lib.decDigits, dif_neg h]
theorem strOf_app2 (a b : List UInt8) : strOf a ++ strOf b = strOf (a ++ b) := by
  apply bytes_ext
  simp [strOf, ByteArray.data_append]
theorem conv1 (d : UInt8) (b : Nat) (W : World) (h : W.cell? ⟨b, 0, none⟩ = some (.int .u8 d.toNat)) : (convert 22 9 (.slice (some ⟨b, 0, none⟩) 1 1)).run Tryz.prog W = .ok (.string (strOf [d])) W := by
  refine Rds.conv (l := [d]) (B := b + 1) (A := some ⟨b, 0, none⟩) (fun k u hu => ?_) rfl 22 9 5 1 Tryz.underlying22 Tryz.underlying5 Tryz.underlying9
  have hk : k = 0 := by have := (List.getElem?_eq_some_iff.1 hu).1; simpa [byV] using this
  subst hk
  refine ⟨_, rfl, by simp, ?_⟩
  simp [byV] at hu
  subst hu
  simpa [Addr.add] using h
theorem itoa_len {n : Int} (hn : I64 n) : (Lib.itoa n).length ≤ 21 := by
  unfold I64 at hn
  unfold Lib.itoa
  split
  · have := dd_len20 (u := n.natAbs) (by omega)
    rw [List.length_cons]; omega
  · have := dd_len20 (u := n.toNat) (by omega)
    omega
theorem below_gr (w : World) (k : Nat) (os : Array Obj) : Below w.heap.size w (Go.Sort.grow (w.drewN k) os) :=
  ⟨rfl, rfl, rfl, by simp [Go.Sort.grow], fun i hi => by
    show (w.heap ++ os)[i]? = w.heap[i]?
    exact Array.getElem?_append_left hi⟩
/-- The library's table of powers of ten. -/
def TB (w : World) : Prop := Lib.TabIs Tryz.prog w "internal/strconv.uint64pow10" .u64 Lib.pow10Tab
theorem TB.below {w w' : World} (h : TB w) (hb : Below w.heap.size w w') : TB w' := Joins.tab_stays (g := (Tryz.prog.globalNamed "internal/strconv.uint64pow10").getD 0) (by kernel_rfl) h hb (Nat.le_refl _)
theorem TB.dr {w w' : World} (h : TB w) (hd : Dr w w') : TB w' := h.below hd.below
theorem iFormatInt_any (n : Int) (hn : I64 n) (w : World) (ht : TB w) :
    Calls Tryz.prog 35 #[.int .i64 n] w fun e w' => e = .returned (.string (strOf (Lib.itoa n))) ∧ Below w.heap.size w w' := by
  unfold I64 at hn
  have hc := Tryz.strconv_Itoa n hn.1 hn.2 w ht
  have HC := Lib.hid hc
  clear hc
  go_enter Tryz.func35, Tryz.ntmps35
  go_wp2_with fail
  refine HC.out.mono ?_
  rintro e w1 ⟨rfl, k, os, rfl⟩
  go_wp2_with fail
  go_ret
  exact ⟨rfl, below_gr w k os⟩
end Go.Proofs.YtbegecoocgkbiaaGreatDoor

/- BanOk, both: whether a list of strings is a ban. -/
namespace Go.Proofs.YtbegecoocgkbiaaGreatDoor
open Go.RowKit
set_option linter.unusedVariables false

/-- Whether a string may stand in a ban. -/
def banW (s : ByteArray) : Bool := isW (L s) && decide (1 ≤ s.size ∧ s.size ≤ 4)
/-- Whether a list of strings is a ban. -/
def banOk (ss : List ByteArray) : Bool := ss.all banW && decide (ss.length ≤ 8)

set_option maxHeartbeats 400000 in
theorem iBanOk_any (ss : List ByteArray) (A : Option Addr) (c B : Nat) (w : World) (hn : ss.length ≤ 4294967296) (hsz : ∀ s ∈ ss, s.size ≤ maxLen) (hrd : Rds w B A (ss.map Value.string)) :
    Calls Tryz.prog 125 #[.slice A ss.length c] w fun e w' => e = .returned (.bool (banOk ss)) ∧ Dr w w' := by
  have HZ := Lib.hid hsz; clear hsz
  have HR := Lib.hid hrd; clear hrd
  go_enter Tryz.func125, Tryz.ntmps125
  go_wp2_with fail
  go_loop [4, 7] (fun _ i => ∃ k : Nat, k ≤ ss.length ∧ i = .int .i64 k ∧ (ss.drop k).all banW = ss.all banW) (fun _ i => ss.length - (intOf i).toNat)
  case atStart => exact ⟨0, by omega, rfl, rfl⟩
  case round =>
    obtain ⟨k, hk, rfl, hg⟩ := hrel
    have HG := Lib.hid hg; clear hg
    by_cases hlt : k < ss.length
    · obtain ⟨s, hs⟩ := some_of_lt (l := ss) (k := k) hlt
      obtain ⟨ad, rfl, hc⟩ := HR.out.at_ (map_at Value.string hs)
      have hz := HZ.out s (List.mem_of_getElem? hs)
      have hz2 := hz; unfold maxLen at hz2
      have HD := Lib.hid (drop_at_list hs); clear hs
      cases h1 : isW (L s)
      · have H1 := Lib.hid h1; clear h1
        go_wp2_with (go_at_call 70; refine (isWord_is s _ hz H1.out _).mono ?_; rintro e w' ⟨rfl, rfl⟩)
        go_ret
        exact ⟨ret_bool (by rw [banOk, ← HG.out, HD.out, List.all_cons, banW, H1.out]; rfl), Dr.refl _⟩
      · have H1 := Lib.hid h1; clear h1
        by_cases h2 : 1 ≤ (s.size : Int) ∧ (s.size : Int) ≤ 4
        · have HB : Hid (banW s = true) := by
            show banW s = true
            rw [banW, H1.out, decide_eq_true (by omega)]; rfl
          have H2 := Lib.hid h2; clear h2
          go_wp2_with (first
            | (go_at_call 70; refine (isWord_is s _ hz H1.out _).mono ?_; rintro e w' ⟨rfl, rfl⟩)
            | (go_at_call 61; refine (within_yes _ _ _ H2.out _).mono ?_; rintro e w' ⟨rfl, rfl⟩))
          go_round
          case rel => exact ⟨k + 1, by omega, by go_num, by rw [← HG.out, HD.out, List.all_cons, HB.out, Bool.true_and]⟩
          case measure => simp [intOf]; omega
        · have HB : Hid (banW s = false) := by
            show banW s = false
            rw [banW, H1.out, decide_eq_false (by omega)]; rfl
          have H2 := Lib.hid h2; clear h2
          go_wp2_with (first
            | (go_at_call 70; refine (isWord_is s _ hz H1.out _).mono ?_; rintro e w' ⟨rfl, rfl⟩)
            | (go_at_call 61; refine (within_no _ _ _ H2.out _).mono ?_; rintro e w' ⟨rfl, rfl⟩))
          go_ret
          exact ⟨ret_bool (by rw [banOk, ← HG.out, HD.out, List.all_cons, HB.out]; rfl), Dr.refl _⟩
    · have h0 : ss.drop k = [] := List.drop_eq_nil_of_le (by omega)
      have H0 := Lib.hid h0; clear h0
      go_wp2_with fail
      go_ret
      exact ⟨ret_bool (by rw [banOk, ← HG.out, H0.out]; simp; omega), Dr.refl _⟩
end Go.Proofs.YtbegecoocgkbiaaGreatDoor

/- Lyndon words, the plain part: what the halving walk along a word finds is its longest Lyndon beginning. No condition. -/
namespace Go.Proofs.YtbegecoocgkbiaaGreatDoor
open Go.RowKit
set_option linter.unusedVariables false

/-- The first difference of two rows of n numbers is in favour of the first. -/
def ltF (f g : Nat → Nat) (n : Nat) : Prop := ∃ d, d < n ∧ (∀ e, e < d → f e = g e) ∧ f d < g d
theorem ltF_asymm {f g : Nat → Nat} {n : Nat} (h : ltF f g n) : ¬ ltF g f n := by
  obtain ⟨d, _, h1, h2⟩ := h
  rintro ⟨d', _, h1', h2'⟩
  rcases Nat.lt_trichotomy d d' with h | h | h
  · have := h1' d h; omega
  · subst h; omega
  · have := h1 d' h; omega
theorem ltF_ne {f g : Nat → Nat} {n : Nat} (h : ∀ e, e < n → f e = g e) : ¬ ltF f g n := fun ⟨d, hd, _, h2⟩ => by have := h d hd; omega
def rotF (g : Nat → Nat) (n r : Nat) : Nat → Nat := fun e => if e + r < n then g (e + r) else g (e + r - n)
/-- The first n numbers come before each of their turns. -/
def LynF (g : Nat → Nat) (n : Nat) : Prop := ∀ r, 0 < r → r < n → ltF g (rotF g n r) n
/-- .. by a difference that lies within. -/
def LynM (g : Nat → Nat) (n : Nat) : Prop := ∀ r, 0 < r → r < n → ∃ d, r + d < n ∧ (∀ e, e < d → g e = g (r + e)) ∧ g d < g (r + d)
def Per (g : Nat → Nat) (n k : Nat) : Prop := ∀ j, n ≤ j → j < k → g j = g (j - n)
theorem per_mod {g : Nat → Nat} {n k : Nat} (hn : 0 < n) (h : Per g n k) : ∀ j, j < k → g j = g (j % n) := fun j => by
  induction j using Nat.strongRecOn with
  | _ j ih =>
    intro hj
    by_cases hjn : j < n
    · rw [Nat.mod_eq_of_lt hjn]
    · rw [h j (by omega) hj, ih (j - n) (by omega) (by omega), ← Nat.mod_eq_sub_mod (by omega)]
theorem lyn_of {g : Nat → Nat} {n : Nat} (h : LynM g n) : LynF g n := fun r h1 h2 => by
  obtain ⟨d, hd, he, hl⟩ := h r h1 h2
  refine ⟨d, by omega, fun e hed => ?_, ?_⟩
  · rw [rotF, if_pos (by omega), he e hed, Nat.add_comm]
  · rw [rotF, if_pos (by omega), Nat.add_comm]; exact hl
theorem lynM_one (g : Nat → Nat) : LynM g 1 := fun r h1 h2 => by omega
theorem per_one (g : Nat → Nat) : Per g 1 1 := fun j h1 h2 => by omega
theorem mod_add {j n r e : Nat} (hr : j % n = r) (h : r + e < n) : (j + e) % n = r + e := by
  rw [Nat.add_mod, hr, Nat.mod_eq_of_lt (show e < n by omega), Nat.mod_eq_of_lt h]
/-- A greater letter behind: the whole is Lyndon. -/
theorem lynM_more {g : Nat → Nat} {n k : Nat} (hn : 0 < n) (hnk : n ≤ k) (hp : Per g n k) (hl : LynM g n) (hc : g (k - n) < g k) : LynM g (k + 1) := fun j hj hjk => by
  have hm := per_mod hn hp
  obtain ⟨r, hr⟩ : ∃ r, j % n = r := ⟨_, rfl⟩
  have hrn : r < n := by rw [← hr]; exact Nat.mod_lt _ hn
  have hck : g ((k - n) % n) < g k := by rw [← hm (k - n) (by omega)]; exact hc
  have hkm : (k - n) % n = k % n := (Nat.mod_eq_sub_mod hnk).symm
  rw [hkm] at hck
  rcases Nat.eq_zero_or_pos r with h0 | h0
  · -- a multiple of the period
    subst h0
    have hje : ∀ e, j + e < k → g (j + e) = g e := fun e he => by
      rw [hm _ he, hm e (by omega), Nat.add_mod, hr, Nat.zero_add, Nat.mod_mod]
    refine ⟨k - j, by omega, fun e he => (hje e (by omega)).symm, ?_⟩
    rw [show j + (k - j) = k by omega]
    have : g (k - j) = g (k % n) := by
      rw [hm (k - j) (by omega)]
      congr 1
      have h2 : (j + (k - j)) % n = (k - j) % n := by rw [Nat.add_mod, hr, Nat.zero_add, Nat.mod_mod]
      rw [← h2, show j + (k - j) = k by omega]
    rw [this]; exact hck
  · obtain ⟨d, hd, he, hlt⟩ := hl r h0 hrn
    have hje : ∀ e, e ≤ d → j + e < k → g (j + e) = g (r + e) := fun e h1 h2 => by
      rw [hm _ h2, mod_add hr (by omega)]
    by_cases hjd : j + d < k
    · refine ⟨d, by omega, fun e h1 => ?_, ?_⟩
      · rw [hje e (by omega) (by omega)]; exact he e h1
      · rw [hje d (Nat.le_refl _) hjd]; exact hlt
    · refine ⟨k - j, by omega, fun e h1 => ?_, ?_⟩
      · rw [hje e (by omega) (by omega)]; exact he e (by omega)
      · rw [show j + (k - j) = k by omega]
        have hk : k % n = r + (k - j) := by
          have := mod_add (e := k - j) hr (by omega)
          rwa [show j + (k - j) = k by omega] at this
        rw [hk] at hck
        rcases Nat.lt_or_ge (k - j) d with h2 | h2
        · have := he (k - j) h2; omega
        · have h3 : k - j = d := by omega
          rw [h3] at hck ⊢; omega
/-- No longer beginning is Lyndon. -/
theorem lyn_none {g : Nat → Nat} {n k N : Nat} (hn : 0 < n) (hnk : n ≤ k) (hp : Per g n k) (hl : LynM g n) (hstop : k < N → g k < g (k - n)) (hkN : k ≤ N) : ∀ l, n < l → l ≤ N → ¬ LynF g l := fun l h1 h2 h => by
  have hm := per_mod hn hp
  by_cases hlk : l ≤ k
  · have hlt := h n hn h1
    have hfst : ∀ e, e < l - n → rotF g l n e = g e := fun e he => by
      rw [rotF, if_pos (by omega), hp (e + n) (by omega) (by omega)]; congr 1; omega
    obtain ⟨r, hr⟩ : ∃ r, (l - n) % n = r := ⟨_, rfl⟩
    have hrn : r < n := by rw [← hr]; exact Nat.mod_lt _ hn
    have hsnd : ∀ e, e < n → rotF g l n (l - n + e) = g e := fun e he => by
      rw [rotF, if_neg (by omega)]; congr 1; omega
    rcases Nat.eq_zero_or_pos r with h0 | h0
    · subst h0
      refine ltF_ne (fun e he => ?_) hlt
      rcases Nat.lt_or_ge e (l - n) with h3 | h3
      · exact (hfst e h3).symm
      · obtain ⟨e', rfl⟩ : ∃ e', e = l - n + e' := ⟨e - (l - n), by omega⟩
        rw [hsnd e' (by omega), hm (l - n + e') (by omega), Nat.add_mod, hr, Nat.zero_add, Nat.mod_mod, Nat.mod_eq_of_lt (by omega)]
    · obtain ⟨d, hd, he, hdl⟩ := hl r h0 hrn
      have hje : ∀ e, e ≤ d → g (l - n + e) = g (r + e) := fun e h1 => by
        rw [hm _ (by omega), mod_add hr (by omega)]
      refine ltF_asymm hlt ⟨l - n + d, by omega, fun e h3 => ?_, ?_⟩
      · rcases Nat.lt_or_ge e (l - n) with h4 | h4
        · exact hfst e h4
        · obtain ⟨e', rfl⟩ : ∃ e', e = l - n + e' := ⟨e - (l - n), by omega⟩
          rw [hsnd e' (by omega), hje e' (by omega)]; exact he e' (by omega)
      · rw [hsnd d (by omega), hje d (Nat.le_refl _)]; exact hdl
  · have hst := hstop (by omega)
    have hq : n * (k / n) + k % n = k := Nat.div_add_mod k n
    have hq1 : 1 ≤ k / n := (Nat.one_le_div_iff hn).2 hnk
    have hr0 : 0 < n * (k / n) := Nat.mul_pos hn hq1
    have hrk : k % n < n := Nat.mod_lt _ hn
    have hlt := h (n * (k / n)) hr0 (by omega)
    obtain ⟨q, hqq⟩ : ∃ q, n * (k / n) = q := ⟨_, rfl⟩
    have hqm : q % n = 0 := by rw [← hqq]; exact Nat.mul_mod_right _ _
    rw [hqq] at hq hr0 hlt
    refine ltF_asymm hlt ⟨k % n, by omega, fun e h3 => ?_, ?_⟩
    · rw [rotF, if_pos (by omega), hm (e + q) (by omega), Nat.add_mod, hqm, Nat.add_zero, Nat.mod_mod, Nat.mod_eq_of_lt (by omega)]
    · rw [rotF, if_pos (by omega), show k % n + q = k by omega, Nat.mod_eq_sub_mod hnk, ← hm (k - n) (by omega)]
      exact hst
/-- The same behind a period. -/
theorem per_shift {g : Nat → Nat} {n k : Nat} (hn : 0 < n) (hp : Per g n k) (a : Nat) (ha : a * n ≤ k) : ∀ j, j < k - a * n → g (a * n + j) = g j := fun j hj => by
  have hm := per_mod hn hp
  rw [hm _ (by omega), hm j (by omega), Nat.add_comm, Nat.add_mul_mod_self_right]
theorem lynM_congr {f g : Nat → Nat} {n : Nat} (h : ∀ e, e < n → f e = g e) (hl : LynM g n) : LynM f n := fun r h1 h2 => by
  obtain ⟨d, hd, he, hlt⟩ := hl r h1 h2
  exact ⟨d, hd, fun e h3 => by rw [h e (by omega), h (r + e) (by omega)]; exact he e h3, by rw [h d (by omega), h (r + d) hd]; exact hlt⟩
/-- Each of the copies that a walk finds is the longest Lyndon beginning of what is left. -/
theorem lyn_copies {g : Nat → Nat} {n k N : Nat} (hn : 0 < n) (hp : Per g n k) (hl : LynM g n) (hstop : k < N → g k < g (k - n)) (hkN : k ≤ N) (a : Nat) (ha : a * n + n ≤ k) :
    LynF (fun j => g (a * n + j)) n ∧ ∀ l, n < l → l ≤ N - a * n → ¬ LynF (fun j => g (a * n + j)) l := by
  have hs := per_shift hn hp a (by omega)
  have hlm : LynM (fun j => g (a * n + j)) n := lynM_congr (fun e he => hs e (by omega)) hl
  refine ⟨lyn_of hlm, lyn_none (k := k - a * n) hn (by omega) (fun j h1 h2 => ?_) hlm (fun h => ?_) (by omega)⟩
  · show g (a * n + j) = g (a * n + (j - n))
    rw [hp (a * n + j) (by omega) (by omega)]; congr 1; omega
  · show g (a * n + (k - a * n)) < g (a * n + (k - a * n - n))
    rw [show a * n + (k - a * n) = k by omega, show a * n + (k - a * n - n) = k - n by omega]
    exact hstop (by omega)
end Go.Proofs.YtbegecoocgkbiaaGreatDoor

/- Lower and upper numbers, lost positions: LowerOf, UpperOf, IsLosing. -/
namespace Go.Proofs.YtbegecoocgkbiaaGreatDoor
open Go.RowKit
set_option linter.unusedVariables false

set_option maxHeartbeats 400000 in
theorem iLowerOf_yes (n : Int) (h : 0 ≤ n) (h2 : n ≤ 100000) (w : World) :
    Calls Tryz.prog 25 #[.int .i64 n] w fun e w' => e = .returned (.int .i64 (low n)) ∧ Below w.heap.size w w' := by
  go_enter Tryz.func25, Tryz.ntmps25
  go_wp2_with (first
    | (go_at_call 61; refine (within_yes _ _ _ ⟨h, h2⟩ _).mono ?_; rintro e w' ⟨rfl, rfl⟩)
    | (go_at_call 84; refine (lower_any _ h h2 _).mono ?_; rintro e w' ⟨rfl, b1⟩))
  go_ret
  exact ⟨rfl, b1⟩
set_option maxHeartbeats 400000 in
theorem iLowerOf_no (n : Int) (h : ¬ (0 ≤ n ∧ n ≤ 100000)) (w : World) :
    Calls Tryz.prog 25 #[.int .i64 n] w fun e w' => e = .returned (.int .i64 (-1)) ∧ Below w.heap.size w w' := by
  have H := Lib.hid h; clear h
  go_enter Tryz.func25, Tryz.ntmps25
  go_wp2_with (go_at_call 61; refine (within_no _ _ _ H.out _).mono ?_; rintro e w' ⟨rfl, rfl⟩)
  go_ret
  exact ⟨rfl, Below.refl _ _⟩
set_option maxHeartbeats 400000 in
theorem iUpperOf_yes (n : Int) (h : 0 ≤ n) (h2 : n ≤ 100000) (w : World) :
    Calls Tryz.prog 26 #[.int .i64 n] w fun e w' => e = .returned (.int .i64 (low n + n)) ∧ Below w.heap.size w w' := by
  have hb := low_bd n h h2
  obtain ⟨hb1, hb2⟩ := hb
  go_enter Tryz.func26, Tryz.ntmps26
  go_wp2_with (first
    | (go_at_call 61; refine (within_yes _ _ _ ⟨h, h2⟩ _).mono ?_; rintro e w' ⟨rfl, rfl⟩)
    | (go_at_call 84; refine (lower_any _ h h2 _).mono ?_; rintro e w' ⟨rfl, b1⟩))
  go_ret
  exact ⟨rfl, b1⟩
set_option maxHeartbeats 400000 in
theorem iUpperOf_no (n : Int) (h : ¬ (0 ≤ n ∧ n ≤ 100000)) (w : World) :
    Calls Tryz.prog 26 #[.int .i64 n] w fun e w' => e = .returned (.int .i64 (-1)) ∧ Below w.heap.size w w' := by
  have H := Lib.hid h; clear h
  go_enter Tryz.func26, Tryz.ntmps26
  go_wp2_with (go_at_call 61; refine (within_no _ _ _ H.out _).mono ?_; rintro e w' ⟨rfl, rfl⟩)
  go_ret
  exact ⟨rfl, Below.refl _ _⟩
/-- Whether a position is lost. -/
noncomputable def lostB (a b : Int) : Bool := if a ≤ b then a == low (b - a) else b == low (a - b)
theorem beq_swap (a b : Int) : (a == b) = (b == a) := by rw [Bool.eq_iff_iff]; simp; exact ⟨fun h => h.symm, fun h => h.symm⟩
end Go.Proofs.YtbegecoocgkbiaaGreatDoor

/- Nearness of words: MismatchesOf, AgreementAt, AgreementsOf, BestShift, NearestPart. Each function returns what the plain function says. -/
namespace Go.Proofs.YtbegecoocgkbiaaGreatDoor
open Go.RowKit
set_option linter.unusedVariables false

/-- What MismatchesOf returns. -/
def mmOf (v w : List UInt8) : Int := if isW v = true ∧ isW w = true ∧ v.length = w.length then mism v w else -1


/-- What AgreementAt returns at an index within the word. -/
def agr (l : List UInt8) (k : Nat) : Int := (l.length : Int) - k - mism (l.drop k) (l.take (l.length - k))
theorem size_from (s : ByteArray) (k : Nat) : (s.extract k s.size).size = s.size - k := by simp
theorem size_to (s : ByteArray) (k : Nat) (h : k ≤ s.size) : (s.extract 0 k).size = k := by simp; omega
theorem L_from (s : ByteArray) (k : Nat) : L (s.extract k s.size) = (L s).drop k := by
  rw [L_extract, List.take_of_length_le (by rw [L_len]; exact Nat.le_refl _)]
theorem L_to (s : ByteArray) (k : Nat) : L (s.extract 0 k) = (L s).take k := by
  rw [L_extract]; rfl
theorem agr_of (s : ByteArray) (k : Nat) (hk : k ≤ s.size) (h4 : s.size ≤ 400) :
    wrap64 (((s.size - k : Nat) : Int) - (mism (L (s.extract k s.size)) (L (s.extract 0 (s.size - k))) : Nat)) = agr (L s) k := by
  have := mism_le (L (s.extract k s.size)) (L (s.extract 0 (s.size - k)))
  rw [L_len, size_from] at this
  rw [IntWalk.wrap64_in _ (by omega), L_from, L_to]
  rw [L_from, L_to] at this
  simp only [agr, L_len]
  omega
theorem agr_of' (s : ByteArray) (k : Nat) (hk : k ≤ s.size) (h4 : s.size ≤ 400) :
    wrap64 (((s.size - k : Nat) : Int) - (mism (L (s.extract 0 (s.size - k))) (L (s.extract k s.size)) : Nat)) = agr (L s) k := by
  rw [mism_comm]; exact agr_of s k hk h4

set_option maxHeartbeats 400000 in
theorem iAgreementAt_yes (s : ByteArray) (k : Nat) (hs : s.size ≤ maxLen) (h1 : isW (L s) = true) (hk : k ≤ s.size) (w : World) :
    Calls Tryz.prog 93 #[.string s, .int .i64 k] w fun e w' => e = .returned (.int .i64 (agr (L s) k)) ∧ Dr w w' := by
  have h4 := isW_size h1
  have H1 := Lib.hid h1; clear h1
  have p1 := size_from s k
  have p2 := size_to s (s.size - k) (by omega)
  have q0 : (s.extract k s.size).size ≤ maxLen := by rw [p1]; unfold maxLen; omega
  have q1 : (s.extract k s.size).size ≤ (s.extract 0 (s.size - k)).size := by omega
  have q2 : (s.extract 0 (s.size - k)).size ≤ (s.extract k s.size).size := by omega
  have Q := Lib.hid (And.intro q0 (And.intro q1 q2)); clear p1 p2 q0 q1 q2
  go_enter Tryz.func93, Tryz.ntmps93
  go_wp2_with (first
    | (go_at_call 70; refine (isWord_is s _ hs H1.out _).mono ?_; rintro e w' ⟨rfl, rfl⟩)
    | (go_at_call 61; refine (within_yes _ _ _ ⟨by omega, by omega⟩ _).mono ?_; rintro e w' ⟨rfl, rfl⟩))
  have e1 : IntKind.i64.wrap ((s.size : Int) - (k : Int)) = ((s.size - k : Nat) : Int) := by rw [IntWalk.i64_in _ (by omega)]; omega
  go_quiet ((go_at_call 132; exact quiet_dr (mismatches_any _ _ Q.out.1 Q.out.2.1 Q.out.2.2 _)))
  clear e1
  go_wp2
  go_ret
  exact ⟨ret_int (agr_of s k hk h4), (Dr.refl _).drewN _⟩
set_option maxHeartbeats 400000 in
theorem iAgreementAt_no (s : ByteArray) (k : Int) (hs : s.size ≤ maxLen) (h : ¬ (isW (L s) = true ∧ 0 ≤ k ∧ k ≤ s.size)) (w : World) :
    Calls Tryz.prog 93 #[.string s, .int .i64 k] w fun e w' => e = .returned (.int .i64 (-1)) ∧ Dr w w' := by
  cases h1 : isW (L s)
  · have H1 := Lib.hid h1; clear h1 h
    go_enter Tryz.func93, Tryz.ntmps93
    go_wp2_with (go_at_call 70; refine (isWord_is s _ hs H1.out _).mono ?_; rintro e w' ⟨rfl, rfl⟩)
    go_ret
    exact ⟨rfl, Dr.refl _⟩
  · have h2 : ¬ (0 ≤ k ∧ k ≤ (s.size : Int)) := fun h2 => h ⟨h1, h2⟩
    have H1 := Lib.hid h1; clear h1 h
    have H2 := Lib.hid h2; clear h2
    go_enter Tryz.func93, Tryz.ntmps93
    go_wp2_with (first
      | (go_at_call 70; refine (isWord_is s _ hs H1.out _).mono ?_; rintro e w' ⟨rfl, rfl⟩)
      | (go_at_call 61; refine (within_no _ _ _ H2.out _).mono ?_; rintro e w' ⟨rfl, rfl⟩))
    go_ret
    exact ⟨rfl, Dr.refl _⟩

/-- NearestPart's loop: n rounds to come, from index i. -/
def nearGo (w f : List UInt8) : Nat → Nat → Nat → Nat → Nat × Nat
  | 0, _, a, m => (a, m)
  | n + 1, i, a, m => if mism ((w.drop i).take f.length) f < m then nearGo w f n (i + 1) i (mism ((w.drop i).take f.length) f) else nearGo w f n (i + 1) a m
theorem size_part (s : ByteArray) (a b : Nat) (h : b ≤ s.size) : (s.extract a b).size = b - a := by simp; omega
theorem L_part (s : ByteArray) (a n : Nat) : L (s.extract a (a + n)) = ((L s).drop a).take n := by
  rw [L_extract, List.drop_take]; congr 1; omega

end Go.Proofs.YtbegecoocgkbiaaGreatDoor

/- What a numeral says, in two ways that agree: the plain part of ParseInt. No condition. -/
namespace Go.Proofs.YtbegecoocgkbiaaGreatDoor
open Go.RowKit
set_option linter.unusedVariables false

theorem dg_nat {d : Nat} (h : d < 10) : (UInt8.ofNat (48 + d)).toNat = 48 + d := by
  rw [UInt8.toNat_ofNat']; omega
theorem pu_snoc : ∀ (l : List UInt8) (acc a : Nat) (c : UInt8), Lib.parseUint10 acc l = .ok a → Lib.parseUint10 acc (l ++ [c]) = Lib.parseUint10 a [c]
  | [], acc, a, c, h => by
    simp only [Lib.parseUint10] at h
    injection h with h
    rw [h]; rfl
  | x :: l, acc, a, c, h => by
    rw [Lib.parseUint10] at h
    rw [List.cons_append, Lib.parseUint10]
    split at h
    · rename_i h1
      rw [if_pos h1]
      split at h
      · cases h
      · rename_i h2
        rw [if_neg h2]
        split at h
        · cases h
        · rename_i h3
          rw [if_neg h3]
          exact pu_snoc l _ a c h
    · cases h
theorem pu_dd (u : Nat) : u < 18446744073709551616 → Lib.parseUint10 0 (Lib.decDigits u) = .ok u := by
  induction u using Nat.strongRecOn with
  | ind u ih =>
    intro hu
    by_cases h : u < 10
    · rw [dd_small h, Lib.parseUint10, dg_nat h, if_pos (by omega), if_neg (by omega), if_neg (by omega), Lib.parseUint10]
      congr 1; omega
    · rw [dd_big h, pu_snoc _ _ _ _ (ih (u / 10) (by omega) (by omega)), Lib.parseUint10, dg_nat (by omega), if_pos (by omega), if_neg (by omega), if_neg (by omega), Lib.parseUint10]
      congr 1; omega
theorem dd_ne (u : Nat) : Lib.decDigits u ≠ [] := by
  by_cases h : u < 10
  · rw [dd_small h]; simp
  · rw [dd_big h]; simp
theorem dd_dig (u : Nat) : ∀ c ∈ Lib.decDigits u, 48 ≤ c.toNat ∧ c.toNat ≤ 57 := by
  induction u using Nat.strongRecOn with
  | ind u ih =>
    intro c hc
    by_cases h : u < 10
    · rw [dd_small h] at hc
      rw [List.mem_singleton.1 hc, dg_nat h]; omega
    · rw [dd_big h, List.mem_append, List.mem_singleton] at hc
      rcases hc with hc | hc
      · exact ih (u / 10) (by omega) c hc
      · rw [hc, dg_nat (by omega)]; omega
theorem atoi_itoa {v : Int} (hv : I64 v) : Lib.atoiAll (Lib.itoa v) = .ok v := by
  unfold I64 at hv
  by_cases h : 0 ≤ v
  · obtain ⟨u, rfl⟩ : ∃ u : Nat, v = (u : Int) := ⟨v.toNat, by omega⟩
    rw [Lib.itoa_nonneg]
    have hp := pu_dd u (by omega)
    have hd := dd_dig u
    cases hl : Lib.decDigits u with
    | nil => exact absurd hl (dd_ne u)
    | cons c r =>
      rw [hl] at hp hd
      have hc := hd c List.mem_cons_self
      have hpm : Lib.parseMag (c :: r) = .ok u := by rw [Lib.parseMag, if_neg (by simp), hp]
      rw [Lib.atoiAll]
      simp only [if_neg (show ¬ (c.toNat = 43 ∨ c.toNat = 45) by omega), hpm]
      rw [if_neg (by omega), if_neg (by omega), if_neg (by omega)]
  · obtain ⟨u, rfl⟩ : ∃ u : Nat, v = -(u : Int) := ⟨(-v).toNat, by omega⟩
    rw [Lib.itoa_neg u (by omega)]
    have hp := pu_dd u (by omega)
    have hpm : Lib.parseMag (Lib.decDigits u) = .ok u := by rw [Lib.parseMag, if_neg (dd_ne u), hp]
    rw [Lib.atoiAll]
    simp only [if_pos (show ((45 : UInt8).toNat = 43 ∨ (45 : UInt8).toNat = 45) from .inr rfl), hpm]
    have h45 : (45 : UInt8).toNat = 45 := rfl
    rw [if_neg (by omega), if_neg (by omega), if_pos h45]
/-- The program's way. -/
def iP (s : ByteArray) : Option Int := match Lib.atoiAll (L s) with
  | .ok v => if Lib.itoa v = L s then some v else none
  | _ => none
theorem iP_iff (s : ByteArray) (v : Int) : iP s = some v ↔ I64 v ∧ L s = Lib.itoa v := by
  constructor
  · intro h
    unfold iP at h
    split at h
    · rename_i x hx
      split at h
      · rename_i h2
        injection h with h
        subst h
        have := Lib.atoiAll_bounds hx
        exact ⟨⟨by omega, by omega⟩, h2.symm⟩
      · cases h
    · cases h
  · rintro ⟨h1, h2⟩
    rw [iP, h2, atoi_itoa h1]
    simp
/-- The reference's loop: downwards from zero. -/
def spGo : List UInt8 → Int → Option Int
  | [], n => some n
  | c :: r, n => if n < (-9223372036854775808 + ((c.toNat : Int) - 48)).tdiv 10 then none else spGo r (n * 10 - ((c.toNat : Int) - 48))
theorem sg_snoc : ∀ (l : List UInt8) (n a : Int) (c : UInt8), spGo l n = some a → spGo (l ++ [c]) n = spGo [c] a
  | [], n, a, c, h => by
    simp only [spGo] at h
    injection h with h
    rw [h]; rfl
  | x :: l, n, a, c, h => by
    rw [spGo] at h
    rw [List.cons_append, spGo]
    split at h
    · cases h
    · rename_i h1
      rw [if_neg h1]
      exact sg_snoc l _ a c h
theorem tdiv_neg10 (m : Nat) : (-(m : Int)).tdiv 10 = -((m / 10 : Nat) : Int) := by
  rw [Int.neg_tdiv]
  rfl
theorem sg_dd (u : Nat) : u ≤ 9223372036854775808 → spGo (Lib.decDigits u) 0 = some (-(u : Int)) := by
  induction u using Nat.strongRecOn with
  | ind u ih =>
    intro hu
    by_cases h : u < 10
    · have e1 : (-9223372036854775808 + (((48 + u : Nat) : Int) - 48)) = -((9223372036854775808 - u : Nat) : Int) := by omega
      rw [dd_small h, spGo, dg_nat h, e1, tdiv_neg10, if_neg (by omega), spGo]
      congr 1; omega
    · have e1 : (-9223372036854775808 + (((48 + u % 10 : Nat) : Int) - 48)) = -((9223372036854775808 - u % 10 : Nat) : Int) := by omega
      rw [dd_big h, sg_snoc _ _ _ _ (ih (u / 10) (by omega) (by omega)), spGo, dg_nat (by omega), e1, tdiv_neg10, if_neg (by omega), spGo]
      congr 1; omega
/-- The reference's way. -/
def negB (s : ByteArray) : Bool := decide ((L s).head? = some 45)
def bodyS (s : ByteArray) : List UInt8 := if negB s then (L s).drop 1 else L s
def isDs (l : List UInt8) : Bool := l.all (fun c => decide (48 ≤ c.toNat ∧ c.toNat ≤ 57)) && !l.isEmpty
def signS (neg : Bool) (n : Int) : Option Int := if neg then some n else if n = -9223372036854775808 then none else some (-n)
def sP (s : ByteArray) : Option Int :=
  if isDs (bodyS s) && decide ((bodyS s).length ≤ 19) then
    match spGo (bodyS s) 0 with
    | none => none
    | some n => match signS (negB s) n with
      | none => none
      | some v => if Lib.itoa v = L s then some v else none
  else none
theorem isDs_dd (u : Nat) : isDs (Lib.decDigits u) = true := by
  rw [isDs, Bool.and_eq_true, List.all_eq_true]
  refine ⟨fun c hc => decide_eq_true (dd_dig u c hc), ?_⟩
  have := dd_ne u
  cases h : Lib.decDigits u with
  | nil => exact absurd h this
  | cons a l => rfl
theorem spGo_bound : ∀ (l : List UInt8) (n v : Int), (∀ c ∈ l, 48 ≤ c.toNat ∧ c.toNat ≤ 57) → (-9223372036854775808 ≤ n ∧ n ≤ 0) → spGo l n = some v → -9223372036854775808 ≤ v ∧ v ≤ 0
  | [], n, v, _, hn, h => by
    simp only [spGo] at h
    injection h with h
    rw [← h]; exact hn
  | c :: l, n, v, hl, hn, h => by
    rw [spGo] at h
    have hc := hl c List.mem_cons_self
    have e1 : (-9223372036854775808 + ((c.toNat : Int) - 48)) = -((9223372036854775808 - (c.toNat - 48) : Nat) : Int) := by omega
    rw [e1, tdiv_neg10] at h
    split at h
    · cases h
    · exact spGo_bound l _ v (fun x hx => hl x (List.mem_cons_of_mem _ hx)) (by omega) h
theorem sP_iff (s : ByteArray) (v : Int) : sP s = some v ↔ I64 v ∧ L s = Lib.itoa v := by
  constructor
  · intro h
    unfold sP at h
    split at h
    · rename_i hd
      rw [Bool.and_eq_true, isDs, Bool.and_eq_true, List.all_eq_true] at hd
      split at h
      · cases h
      · rename_i n hn
        have hb := spGo_bound _ 0 n (fun c hc => of_decide_eq_true (hd.1.1 c hc)) (by omega) hn
        split at h
        · cases h
        · rename_i v2 hv2
          split at h
          · rename_i h3
            injection h with h
            subst h
            refine ⟨?_, h3.symm⟩
            unfold signS at hv2
            split at hv2
            · injection hv2 with hv2; subst hv2; exact ⟨by omega, by omega⟩
            · split at hv2
              · cases hv2
              · injection hv2 with hv2; subst hv2; exact ⟨by omega, by omega⟩
          · cases h
    · cases h
  · rintro ⟨h1, h2⟩
    unfold I64 at h1
    by_cases h : 0 ≤ v
    · obtain ⟨u, rfl⟩ : ∃ u : Nat, v = (u : Int) := ⟨v.toNat, by omega⟩
      rw [Lib.itoa_nonneg] at h2
      have hneg : negB s = false := by
        rw [negB, h2]
        refine decide_eq_false fun h3 => ?_
        have h4 := List.mem_of_mem_head? (Option.mem_def.2 h3)
        have h5 := dd_dig u 45 h4
        exact absurd h5.1 (by decide)
      have hb : bodyS s = Lib.decDigits u := by rw [bodyS, hneg, h2]; rfl
      have hlen := dd_len 19 u (by omega) (by omega)
      rw [sP, hb, isDs_dd, decide_eq_true hlen, sg_dd u (by omega), hneg]
      simp only [Bool.and_self, if_true]
      rw [signS, if_neg (by simp), if_neg (by omega)]
      simp only [Int.neg_neg]
      rw [Lib.itoa_nonneg, if_pos h2.symm]
    · obtain ⟨u, rfl⟩ : ∃ u : Nat, v = -(u : Int) := ⟨(-v).toNat, by omega⟩
      have hi := Lib.itoa_neg u (by omega)
      rw [hi] at h2
      have hneg : negB s = true := by rw [negB, h2]; rfl
      have hb : bodyS s = Lib.decDigits u := by rw [bodyS, hneg, h2]; rfl
      have hlen := dd_len 19 u (by omega) (by omega)
      rw [sP, hb, isDs_dd, decide_eq_true hlen, sg_dd u (by omega), hneg]
      simp only [Bool.and_self, if_true]
      rw [signS, if_pos rfl]
      simp only
      rw [hi, if_pos h2.symm]
theorem iP_eq (s : ByteArray) : iP s = sP s := by
  cases h : iP s with
  | none =>
    cases h2 : sP s with
    | none => rfl
    | some v => rw [(iP_iff s v).2 ((sP_iff s v).1 h2)] at h; cases h
  | some v => rw [(sP_iff s v).2 ((iP_iff s v).1 h)]
end Go.Proofs.YtbegecoocgkbiaaGreatDoor

/- Lyndon words over strings, the plain part: the reference's order of turns, in numbers; the parts. No condition. -/
namespace Go.Proofs.YtbegecoocgkbiaaGreatDoor
open Go.RowKit
set_option linter.unusedVariables false

/-- The letters of s from i on, as numbers. -/
def gl (s : ByteArray) (i : Nat) : Nat → Nat := fun j => ((L s).getD (i + j) 0).toNat
theorem gl_at {s : ByteArray} {i j : Nat} (h : i + j < s.size) : gl s i j = (s[i + j]'h).toNat := by
  rw [gl, List.getD_eq_getElem?_getD, List.getElem?_eq_getElem (by rw [L_len]; exact h)]
  rfl
theorem gl_shift (s : ByteArray) (i a : Nat) : (fun j => gl s i (a + j)) = gl s (i + a) := by
  funext j; rw [gl, gl, Nat.add_assoc]
theorem ltF_list : ∀ {l m : List UInt8}, l.length = m.length → (l < m ↔ ltF (fun j => (l.getD j 0).toNat) (fun j => (m.getD j 0).toNat) l.length)
  | [], [], _ => by simp [ltF]
  | [], _ :: _, h => by simp at h
  | _ :: _, [], h => by simp at h
  | a :: l, b :: m, h => by
    have ih := ltF_list (l := l) (m := m) (by simpa using h)
    rw [List.cons_lt_cons_iff, ih]
    constructor
    · rintro (h1 | ⟨rfl, d, hd, he, hl⟩)
      · exact ⟨0, by simp, fun e he => by omega, by simpa using UInt8.lt_iff_toNat_lt.1 h1⟩
      · refine ⟨d + 1, by simpa using hd, fun e h2 => ?_, by simpa using hl⟩
        cases e with
        | zero => rfl
        | succ e => simpa using he e (by omega)
    · rintro ⟨d, hd, he, hl⟩
      cases d with
      | zero => exact .inl (UInt8.lt_iff_toNat_lt.2 (by simpa using hl))
      | succ d =>
        have h0 := he 0 (by omega)
        refine .inr ⟨UInt8.toNat_inj.1 (by simpa using h0), d, by simpa using hd, fun e h2 => by simpa using he (e + 1) (by omega), by simpa using hl⟩
/-- The word turned by k letters comes behind it. -/
theorem turn_lt (s : ByteArray) (k : Nat) (hk : k ≤ s.size) : L s < L (s.extract k s.size ++ s.extract 0 k) ↔ ltF (gl s 0) (rotF (gl s 0) s.size k) s.size := by
  have hL : L (s.extract k s.size ++ s.extract 0 k) = (L s).drop k ++ (L s).take k := by
    simp only [L, ByteArray.data_append, Array.toList_append]
    have h1 := L_extract s k s.size
    have h2 := L_extract s 0 k
    simp only [L] at h1 h2
    rw [h1, h2, List.drop_zero, List.take_of_length_le (Nat.le_of_eq (L_len s))]
  rw [hL, ltF_list (by simp; omega), L_len]
  have e1 : ∀ e, e < s.size → (((L s).drop k ++ (L s).take k).getD e 0).toNat = rotF (gl s 0) s.size k e := fun e he => by
    unfold rotF gl
    rw [List.getD_eq_getElem?_getD]
    by_cases h : e + k < s.size
    · rw [if_pos h, List.getElem?_append_left (by rw [List.length_drop, L_len]; omega), List.getElem?_drop, List.getD_eq_getElem?_getD, Nat.zero_add, Nat.add_comm]
    · rw [if_neg h, List.getElem?_append_right (by rw [List.length_drop, L_len]; omega), List.length_drop, L_len, List.getElem?_take_of_lt (by omega), List.getD_eq_getElem?_getD, Nat.zero_add]
      congr 3; omega
  constructor
  · rintro ⟨d, hd, h1, h2⟩
    refine ⟨d, hd, fun e he => ?_, ?_⟩
    · rw [← e1 e (by omega)]; have := h1 e he; simpa [gl] using this
    · rw [← e1 d hd]; simpa [gl] using h2
  · rintro ⟨d, hd, h1, h2⟩
    refine ⟨d, hd, fun e he => ?_, ?_⟩
    · show ((L s).getD e 0).toNat = (((L s).drop k ++ (L s).take k).getD e 0).toNat
      rw [e1 e (by omega), ← h1 e he]; simp [gl]
    · show ((L s).getD d 0).toNat < (((L s).drop k ++ (L s).take k).getD d 0).toNat
      rw [e1 d hd]; simpa [gl] using h2
theorem gl_extract (s : ByteArray) (i n : Nat) (h : i + n ≤ s.size) (j : Nat) (hj : j < n) : gl (s.extract i (i + n)) 0 j = gl s i j := by
  unfold gl
  rw [L_extract, List.getD_eq_getElem?_getD, List.getD_eq_getElem?_getD, Nat.zero_add, List.getElem?_drop, List.getElem?_take_of_lt (by omega)]
theorem ltF_congr {f f' g g' : Nat → Nat} {n : Nat} (h1 : ∀ e, e < n → f e = f' e) (h2 : ∀ e, e < n → g e = g' e) : ltF f g n ↔ ltF f' g' n := by
  constructor
  · rintro ⟨d, hd, a, b⟩
    exact ⟨d, hd, fun e he => by rw [← h1 e (by omega), ← h2 e (by omega)]; exact a e he, by rw [← h1 d hd, ← h2 d hd]; exact b⟩
  · rintro ⟨d, hd, a, b⟩
    exact ⟨d, hd, fun e he => by rw [h1 e (by omega), h2 e (by omega)]; exact a e he, by rw [h1 d hd, h2 d hd]; exact b⟩
theorem lynF_congr {f g : Nat → Nat} {n : Nat} (h : ∀ e, e < n → f e = g e) : LynF f n ↔ LynF g n := by
  have hr : ∀ r, r < n → ∀ e, e < n → rotF f n r e = rotF g n r e := fun r hr e he => by
    unfold rotF; split
    · exact h _ (by omega)
    · exact h _ (by omega)
  exact ⟨fun hl r h1 h2 => (ltF_congr h (hr r h2)).1 (hl r h1 h2), fun hl r h1 h2 => (ltF_congr h (hr r h2)).2 (hl r h1 h2)⟩
theorem lynF_extract (s : ByteArray) (i n : Nat) (h : i + n ≤ s.size) : LynF (gl (s.extract i (i + n)) 0) n ↔ LynF (gl s i) n := lynF_congr fun e he => gl_extract s i n h e he
theorem lynF_one (g : Nat → Nat) : LynF g 1 := fun r h1 h2 => by omega
open Classical in
/-- The longest Lyndon beginning, of at most N letters. -/
noncomputable def lng (g : Nat → Nat) : Nat → Nat
  | 0 => 0
  | n + 1 => if LynF g (n + 1) then n + 1 else lng g n
theorem lng_is {g : Nat → Nat} {n : Nat} : ∀ {N : Nat}, 0 < n → n ≤ N → LynF g n → (∀ l, n < l → l ≤ N → ¬ LynF g l) → lng g N = n
  | 0, h, h2, _, _ => by omega
  | N + 1, h, h2, hl, hn => by
    unfold lng
    by_cases he : n = N + 1
    · subst he; rw [if_pos hl]
    · rw [if_neg (hn (N + 1) (by omega) (Nat.le_refl _))]
      exact lng_is h (by omega) hl fun l h3 h4 => hn l h3 (by omega)
theorem lng_ok (g : Nat → Nat) : ∀ N, 0 < N → 0 < lng g N ∧ lng g N ≤ N ∧ LynF g (lng g N) ∧ ∀ l, lng g N < l → l ≤ N → ¬ LynF g l
  | 0, h => by omega
  | N + 1, _ => by
    unfold lng
    by_cases hl : LynF g (N + 1)
    · rw [if_pos hl]; exact ⟨by omega, Nat.le_refl _, hl, fun l h1 h2 => by omega⟩
    · rw [if_neg hl]
      by_cases h0 : N = 0
      · subst h0; exact absurd (lynF_one g) hl
      · obtain ⟨h1, h2, h3, h4⟩ := lng_ok g N (by omega)
        refine ⟨h1, by omega, h3, fun l h5 h6 => ?_⟩
        by_cases he : l = N + 1
        · subst he; exact hl
        · exact h4 l h5 (by omega)
/-- The Lyndon parts of s from i on. -/
noncomputable def prt (s : ByteArray) : Nat → Nat → List ByteArray
  | 0, _ => []
  | f + 1, i => if i < s.size then s.extract i (i + lng (gl s i) (s.size - i)) :: prt s f (i + lng (gl s i) (s.size - i)) else []
noncomputable def prts (s : ByteArray) (i : Nat) : List ByteArray := prt s (s.size + 1) i
theorem prt_fuel (s : ByteArray) : ∀ (f g i : Nat), s.size - i < f → s.size - i < g → prt s f i = prt s g i
  | 0, g, i, h, _ => by omega
  | f + 1, 0, i, _, h => by omega
  | f + 1, g + 1, i, h1, h2 => by
    unfold prt
    by_cases hi : i < s.size
    · have hl := lng_ok (gl s i) (s.size - i) (by omega)
      rw [if_pos hi, if_pos hi, prt_fuel s f g _ (by omega) (by omega)]
    · rw [if_neg hi, if_neg hi]
theorem prts_end (s : ByteArray) {i : Nat} (h : ¬ i < s.size) : prts s i = [] := by rw [prts, prt, if_neg h]
theorem prts_next (s : ByteArray) {i n : Nat} (h : i < s.size) (hn : lng (gl s i) (s.size - i) = n) : prts s i = s.extract i (i + n) :: prts s (i + n) := by
  have hl := lng_ok (gl s i) (s.size - i) (by omega)
  rw [prts, prt, if_pos h, hn, prts, prt_fuel s s.size (s.size + 1)]
  · omega
  · omega
theorem prt_size (s : ByteArray) : ∀ (f i : Nat) (x : ByteArray), x ∈ prt s f i → x.size ≤ s.size
  | 0, i, x, h => by simp [prt] at h
  | f + 1, i, x, h => by
    unfold prt at h
    split at h
    · rcases List.mem_cons.1 h with e | e
      · rw [e, ByteArray.size_extract]; omega
      · exact prt_size s f _ x e
    · simp at h
theorem prt_len (s : ByteArray) : ∀ (f i : Nat), (prt s f i).length ≤ s.size - i
  | 0, i => by simp [prt]
  | f + 1, i => by
    unfold prt
    split
    · rename_i h
      have hl := lng_ok (gl s i) (s.size - i) (by omega)
      have := prt_len s f (i + lng (gl s i) (s.size - i))
      rw [List.length_cons]; omega
    · simp
end Go.Proofs.YtbegecoocgkbiaaGreatDoor

/- BestShift, both. -/
namespace Go.Proofs.YtbegecoocgkbiaaGreatDoor
open Go.RowKit
set_option linter.unusedVariables false

theorem agr_bd (s : ByteArray) (k : Nat) (hk : k ≤ s.size) : 0 ≤ agr (L s) k ∧ agr (L s) k ≤ (s.size : Int) - k := by
  have h := mism_le ((L s).drop k) ((L s).take ((L s).length - k))
  rw [List.length_drop, L_len] at h
  simp only [agr, L_len]
  omega
/-- BestShift's loop: n rounds to come, from k, the best so far being b (0: none). -/
def bestGo (l : List UInt8) : Nat → Nat → Nat → Nat
  | 0, _, b => b
  | n + 1, k, b => if b = 0 ∨ agr l b * ((l.length : Int) - k) < agr l k * ((l.length : Int) - b) then bestGo l n (k + 1) k else bestGo l n (k + 1) b
theorem pr_bd {a b : Int} (h1 : 0 ≤ a) (h2 : a ≤ 100) (h3 : 0 ≤ b) (h4 : b ≤ 100) : 0 ≤ a * b ∧ a * b ≤ 10000 :=
  ⟨Int.mul_nonneg h1 h3, by have := Int.mul_le_mul h2 h4 h3 (by omega); omega⟩

end Go.Proofs.YtbegecoocgkbiaaGreatDoor

/- Avoids, both: whether no word of a ban is a factor of a word. Asks the shelf's text (shelf.py SEAT Tryz.strings_Contains_shaped). -/
namespace Go.Proofs.YtbegecoocgkbiaaGreatDoor
open Go.RowKit
set_option linter.unusedVariables false

/-- Whether f is a factor of w. -/
def hasF (w f : ByteArray) : Bool := Lib.contains (L w) (L f)
def avoidsB (s : ByteArray) (ss : List ByteArray) : Bool := ss.all fun f => !hasF s f
theorem occ_ext (w f : ByteArray) (i : Nat) (h : i + f.size ≤ w.size) : Lib.occAt (L w) (L f) i = decide (w.extract i (i + f.size) = f) := by
  have hp : L (w.extract i (i + f.size)) = ((L w).drop i).take f.size := by
    rw [L_extract, List.drop_take]; congr 1; omega
  rw [Bool.eq_iff_iff, Lib.occAt, List.isPrefixOf_iff_prefix, List.prefix_iff_eq_take, decide_eq_true_iff, L_len, ← hp]
  constructor
  · intro h2; exact bytes_ext h2.symm
  · intro h2; rw [h2]
theorem occ_long (w f : ByteArray) (i : Nat) (h : w.size < i + f.size) (hi : i ≤ w.size) : Lib.occAt (L w) (L f) i = false := by
  cases h2 : Lib.occAt (L w) (L f) i
  · rfl
  · rw [Lib.occAt, List.isPrefixOf_iff_prefix] at h2
    have := h2.length_le
    rw [List.length_drop, L_len, L_len] at this
    omega
/-- The library's own variable (its greatest length of a quick search) holds some number. -/
def MlOk (w : World) : Prop := ∃ m, w.cell? ⟨Tryz.laysM144_ren.g 1, 0, none⟩ = some (.int .i64 m)
theorem MlOk.of {w : World} (h : w.ShapedOpen Tryz.prog) : MlOk w := Tryz.laysM144.s1_3 w h
theorem MlOk.below {w w' : World} (h : MlOk w) (hb : Below w.heap.size w w') : MlOk w' := by
  obtain ⟨m, hm⟩ := h
  refine ⟨m, ?_⟩
  rw [hb.cell (p := ⟨Tryz.laysM144_ren.g 1, 0, none⟩) ?_]
  · exact hm
  · rcases Nat.lt_or_ge (Tryz.laysM144_ren.g 1) w.heap.size with h2 | h2
    · exact h2
    · rw [World.cell?] at hm
      simp [Array.getElem?_eq_none h2] at hm
theorem MlOk.dr {w w' : World} (h : MlOk w) (hd : Dr w w') : MlOk w' := h.below hd.below
theorem contains_any (s f : ByteArray) (hs : s.size < 4294967281) (w : World) (h : MlOk w) :
    Calls Tryz.prog 151 #[.string s, .string f] w fun e w' => e = .returned (.bool (hasF s f)) ∧ w = w' := by
  obtain ⟨m, hm⟩ := h
  exact (Any.strings_Contains { Tryz.laysM144 with } s f m w hs hm).mono fun e w' q => ⟨q.1, q.2.symm⟩
set_option maxHeartbeats 400000 in
theorem avoids_any (s : ByteArray) (ss : List ByteArray) (A : Option Addr) (c B : Nat) (w : World) (hs : s.size ≤ 1048576) (hn : ss.length ≤ 4294967296) (hsz : ∀ s ∈ ss, s.size ≤ 1048576) (hrd : Rds w B A (ss.map Value.string)) (hml : MlOk w) :
    Calls Tryz.prog 126 #[.string s, .slice A ss.length c] w fun e w' => e = .returned (.bool (avoidsB s ss)) ∧ w = w' := by
  have HZ := Lib.hid hsz; clear hsz
  have HR := Lib.hid hrd; clear hrd
  have HM := Lib.hid hml; clear hml
  go_enter Tryz.func126, Tryz.ntmps126
  go_wp2_with fail
  go_loop [6, 9] (fun _ i => ∃ k : Nat, k ≤ ss.length ∧ i = .int .i64 k ∧ (ss.drop k).all (fun f => !hasF s f) = avoidsB s ss) (fun _ i => ss.length - (intOf i).toNat)
  case atStart => exact ⟨0, by omega, rfl, rfl⟩
  case round =>
    obtain ⟨k, hk, rfl, hg⟩ := hrel
    have HG := Lib.hid hg; clear hg
    by_cases hlt : k < ss.length
    · obtain ⟨f, hf⟩ := some_of_lt (l := ss) (k := k) hlt
      obtain ⟨ad, rfl, hc⟩ := HR.out.at_ (map_at Value.string hf)
      have hz := HZ.out f (List.mem_of_getElem? hf)
      have HD := Lib.hid (drop_at_list hf); clear hf
      cases hh : hasF s f
      · have HH := Lib.hid hh; clear hh
        go_wp2_with (go_at_call 151; refine (contains_any s f (by omega) _ HM.out).mono ?_; rw [HH.out]; rintro e w1 ⟨rfl, rfl⟩)
        go_round
        case rel => exact ⟨k + 1, by omega, by go_num, by rw [← HG.out, HD.out, List.all_cons, HH.out]; rfl⟩
        case measure => simp [intOf]; omega
      · have HH := Lib.hid hh; clear hh
        go_wp2_with (go_at_call 151; refine (contains_any s f (by omega) _ HM.out).mono ?_; rw [HH.out]; rintro e w1 ⟨rfl, rfl⟩)
        go_ret
        exact ⟨ret_bool (by rw [← HG.out, HD.out, List.all_cons, HH.out]; rfl), rfl⟩
    · have h0 : ss.drop k = [] := List.drop_eq_nil_of_le (by omega)
      have H0 := Lib.hid h0; clear h0
      go_wp2_with fail
      go_ret
      exact ⟨ret_bool (by rw [← HG.out, H0.out]; rfl), rfl⟩
theorem ban_size4 {ss : List ByteArray} (h : banOk ss = true) : ∀ s ∈ ss, s.size ≤ 1048576 := by
  intro s hs
  unfold banOk at h
  simp only [Bool.and_eq_true, List.all_eq_true] at h
  have := h.1 s hs
  unfold banW at this
  simp at this
  omega
def avoV (s : ByteArray) (ss : List ByteArray) : Bool := isW (L s) && banOk ss && avoidsB s ss
end Go.Proofs.YtbegecoocgkbiaaGreatDoor

/- ParseInt, both, walked. Asks the shelf's text (strconv.Atoi, strconv.Itoa). No condition but the bounds. -/
namespace Go.Proofs.YtbegecoocgkbiaaGreatDoor
open Go.RowKit
set_option linter.unusedVariables false

/-- The library's two errors lie in their variables. -/
def ES (w : World) : Prop := ∃ tp p, w.cell? ⟨Tryz.laysC172_ren.g 15, 0, none⟩ = some (.iface tp p)
def EG (w : World) : Prop := ∃ tp p, w.cell? ⟨Tryz.laysC172_ren.g 16, 0, none⟩ = some (.iface tp p)
theorem cell_below {w w' : World} {a : Addr} {v : Value} (h : w.cell? a = some v) (hb : Below w.heap.size w w') : w'.cell? a = some v := by
  rw [hb.cell (p := a) ?_]
  · exact h
  · rcases Nat.lt_or_ge a.block w.heap.size with h2 | h2
    · exact h2
    · rw [World.cell?] at h
      simp [Array.getElem?_eq_none h2] at h
theorem ES.below {w w' : World} (h : ES w) (hb : Below w.heap.size w w') : ES w' := let ⟨tp, p, hc⟩ := h; ⟨tp, p, cell_below hc hb⟩
theorem EG.below {w w' : World} (h : EG w) (hb : Below w.heap.size w w') : EG w' := let ⟨tp, p, hc⟩ := h; ⟨tp, p, cell_below hc hb⟩
theorem atoi_fail (s : ByteArray) (hs : s.size ≤ 281474976710656) (h : ∀ v, Lib.atoiAll (L s) ≠ .ok v) (w : World) (hes : ES w) (heg : EG w) :
    Calls Tryz.prog 137 #[.string s] w fun e w' => ∃ z T N, e = .returned (.tuple #[.int .i64 z, .iface T (.pointer (some ⟨N, 0, none⟩))]) ∧ Below w.heap.size w w' := by
  obtain ⟨tp, p, hc1⟩ := hes
  obtain ⟨tq, q, hc2⟩ := heg
  rcases hh : Lib.atoiAll (L s) with v | _ | _
  · exact absurd hh (h v)
  · refine (Any.strconv_Atoi_syntax { Tryz.laysC172 with } s hs hh _ w hc1 (.inr ⟨tp, p, rfl⟩)).mono ?_
    rintro e w' ⟨N, he, _, _, hb⟩
    exact ⟨_, _, N, he, hb⟩
  · refine (Any.strconv_Atoi_range { Tryz.laysC172 with } s hs hh _ w hc2 (.inr ⟨tq, q, rfl⟩)).mono ?_
    rintro e w' ⟨N, he, _, _, hb⟩
    exact ⟨_, _, N, he, hb⟩
theorem atoi_is (s : ByteArray) (hs : s.size ≤ 281474976710656) (v : Int) (h : Lib.atoiAll (L s) = .ok v) (w : World) :
    Calls Tryz.prog 137 #[.string s] w fun e w' => e = .returned (.tuple #[.int .i64 v, .nilIface]) ∧ Below w.heap.size w w' := by
  refine (Any.strconv_Atoi_ok { Tryz.laysC172 with } s (by omega) v h w).mono ?_
  rintro e w' ⟨he, rfl | ⟨t, rfl⟩⟩
  · exact ⟨he, Below.refl _ _⟩
  · exact ⟨he, Lib.bytesWorld_below _ _ _⟩
def piB (s : ByteArray) : Value := .tuple #[.int .i64 ((iP s).getD 0), .bool (iP s).isSome]
theorem iParseInt_any (s : ByteArray) (hs : s.size ≤ 281474976710656) (w : World) (ht : TB w) (hes : ES w) (heg : EG w) :
    Calls Tryz.prog 97 #[.string s] w fun e w' => e = .returned (.tuple #[.int .i64 ((iP s).getD 0), .bool (iP s).isSome]) ∧ Below w.heap.size w w' := by
  have ht2 := fun w' hb => TB.below (w' := w') ht hb
  by_cases hok : ∃ v, Lib.atoiAll (L s) = .ok v
  · obtain ⟨v, hv⟩ := hok
    have hat := atoi_is s hs v hv w
    have hb := Lib.atoiAll_bounds hv
    have hit := fun w' h => Tryz.strconv_Itoa v hb.1 hb.2 w' h
    by_cases he : Lib.itoa v = L s
    · have hp : iP s = some v := by rw [iP, hv]; simp only [if_pos he]
      have hse : (⟨(Lib.itoa v).toArray⟩ : ByteArray) = s := by rw [he]
      rw [hp]
      simp only [hse] at hit
      have HAT := Lib.hid hat; have HIT := Lib.hid hit; have HT2 := Lib.hid ht2
      clear hat hit hv hp hse he ht2 ht hes heg
      go_enter Tryz.func97, Tryz.ntmps97
      go_wp2_with (first
        | (go_at_call 137; refine HAT.out.mono ?_; rintro e w1 ⟨rfl, b1⟩)
        | (go_at_call 98; refine (HIT.out _ (HT2.out _ b1)).mono ?_; rintro e w2 ⟨rfl, k, os, rfl⟩))
      go_ret2
      exact ⟨rfl, b1.trans ((below_gr _ k os).mono b1.size)⟩
    · have hp : iP s = none := by rw [iP, hv]; simp only [if_neg he]
      rw [hp]
      obtain ⟨F, hF⟩ : ∃ F : ByteArray, (⟨(Lib.itoa v).toArray⟩ : ByteArray) = F := ⟨_, rfl⟩
      have hne : (F.toList == s.toList) = false := str_ne fun h2 => he (by rw [← h2, ← hF])
      simp only [hF] at hit
      have HAT := Lib.hid hat; have HIT := Lib.hid hit; have HT2 := Lib.hid ht2
      clear hat hit hv hp he ht2 ht hes heg hF
      go_enter Tryz.func97, Tryz.ntmps97
      go_wp2_with (first
        | (go_at_call 137; refine HAT.out.mono ?_; rintro e w1 ⟨rfl, b1⟩)
        | (go_at_call 98; refine (HIT.out _ (HT2.out _ b1)).mono ?_; rintro e w2 ⟨rfl, k, os, rfl⟩))
      go_ret2
      exact ⟨rfl, b1.trans ((below_gr _ k os).mono b1.size)⟩
  · have hno : ∀ v, Lib.atoiAll (L s) ≠ .ok v := fun v h => hok ⟨v, h⟩
    have hat := atoi_fail s hs hno w hes heg
    have hp : iP s = none := by
      unfold iP
      split
      · rename_i v hv; exact absurd hv (hno v)
      · rfl
    rw [hp]
    have HAT := Lib.hid hat
    clear hat hp ht2 ht hes heg hno hok
    go_enter Tryz.func97, Tryz.ntmps97
    go_wp2_with (go_at_call 137; refine HAT.out.mono ?_; rintro e w1 ⟨z, T, N, rfl, b1⟩)
    go_ret2
    exact ⟨rfl, b1⟩
end Go.Proofs.YtbegecoocgkbiaaGreatDoor

/- The library's two errors and its table of powers of ten, out of what a row lists. No condition. -/
namespace Go.Proofs.YtbegecoocgkbiaaGreatDoor
open Go.RowKit
set_option linter.unusedVariables false

theorem pow10_tab7 : (Rows.laid_internal_strconv_uint64pow10 : DataW Unit) = Lib.tabData .u64 Lib.pow10Tab := rfl
theorem TB.of_head {r : List (String × DataW Unit)} {w : World} (h : laidMet Tryz.prog (("internal/strconv.uint64pow10", Rows.laid_internal_strconv_uint64pow10) :: r) w) : TB w := by
  rw [pow10_tab7] at h
  exact Lib.tabIs_of_head (g := (Tryz.prog.globalNamed "internal/strconv.uint64pow10").getD 0) (t := ((Tryz.prog.globals[(Tryz.prog.globalNamed "internal/strconv.uint64pow10").getD 0]?).map (·.type)).getD 0) (n := 20) (e := 158) (by kernel_rfl) (by kernel_rfl) (by kernel_rfl) (by kernel_rfl) (by kernel_rfl) (by kernel_rfl) h
theorem star_err : "*" ++ "errors.errorString" = "*errors.errorString" := by decide
theorem row_err (u : TypeId) (h : Tryz.prog.typeName? 3 u = some "*errors.errorString") : u = 206 :=
  typeName_ptr_named (nm := "errors.errorString") (by rw [star_err]; kernel_rfl) (by kernel_rfl) (by decide) u (by rw [star_err]; exact h)
theorem ES.of {r : List (String × DataW Unit)} {w : World} (h : laidMet Tryz.prog (("strconv.ErrSyntax", Rows.laid_strconv_ErrSyntax) :: r) w) : ES w := by
  have hg : Tryz.prog.globalNamed "strconv.ErrSyntax" = some (Tryz.laysC172_ren.g 15) := by kernel_rfl
  obtain ⟨a, s, hv, _, _, _⟩ := laid_sentinel h hg (by kernel_rfl) Tryz.underlying130 row_err Tryz.underlying206 Tryz.underlying208 rfl rfl Tryz.underlying9 (by kernel_rfl) (by kernel_rfl)
  exact ⟨_, _, by have h0 := World.var?_cell hg hv 0; simpa using h0⟩
theorem EG.of {r : List (String × DataW Unit)} {w : World} (h : laidMet Tryz.prog (("strconv.ErrRange", Rows.laid_strconv_ErrRange) :: r) w) : EG w := by
  have hg : Tryz.prog.globalNamed "strconv.ErrRange" = some (Tryz.laysC172_ren.g 16) := by kernel_rfl
  obtain ⟨a, s, hv, _, _, _⟩ := laid_sentinel h hg (by kernel_rfl) Tryz.underlying130 row_err Tryz.underlying206 Tryz.underlying208 rfl rfl Tryz.underlying9 (by kernel_rfl) (by kernel_rfl)
  exact ⟨_, _, by have h0 := World.var?_cell hg hv 0; simpa using h0⟩
end Go.Proofs.YtbegecoocgkbiaaGreatDoor
