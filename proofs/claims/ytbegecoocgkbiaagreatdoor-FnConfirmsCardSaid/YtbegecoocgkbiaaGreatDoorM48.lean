/- Texts of this claim, one behind the other: Cfp, Cfe, Cfq. No condition but what each says. -/
import Derived.Test.YtbegecoocgkbiaaGreatDoorFxp
import Derived.Test.YtbegecoocgkbiaaGreatDoorNam
import Derived.Test.YtbegecoocgkbiaaGreatDoorCub
import Derived.Test.YtbegecoocgkbiaaGreatDoorPer
import Derived.Test.YtbegecoocgkbiaaGreatDoorBlc
import Derived.Test.YtbegecoocgkbiaaGreatDoorCpl
import Derived.Test.YtbegecoocgkbiaaGreatDoorM7
import Derived.Test.YtbegecoocgkbiaaGreatDoorNml
import Derived.Test.YtbegecoocgkbiaaGreatDoorEdit
import Derived.Test.YtbegecoocgkbiaaGreatDoorCaw
import Derived.Test.YtbegecoocgkbiaaGreatDoorM1
import Derived.Test.YtbegecoocgkbiaaGreatDoorRev
import Derived.Test.YtbegecoocgkbiaaGreatDoorFmt
import Derived.Stop.LaidErr
import Derived.Test.YtbegecoocgkbiaaGreatDoorSpc
/- The words of three hundred letters that fibonacci and thue fix: their complexity, their powers, their balance; plain, by reckoning. Printed by a small program. No condition. -/
namespace Go.Proofs.YtbegecoocgkbiaaGreatDoor
open Go.RowKit
set_option linter.unusedVariables false

def zF : List ByteArray := [({ data := #[97, 98] } : ByteArray), { data := #[97] }]
def zT : List ByteArray := [({ data := #[97, 98] } : ByteArray), { data := #[98, 97] }]
def lF : List UInt8 := [97, 98, 97, 97, 98, 97, 98, 97, 97, 98, 97, 97, 98, 97, 98, 97, 97, 98, 97, 98, 97, 97, 98, 97, 97, 98, 97, 98, 97, 97, 98, 97, 97, 98, 97, 98, 97, 97, 98, 97, 98, 97, 97, 98, 97, 97, 98, 97, 98, 97, 97, 98, 97, 98, 97, 97, 98, 97, 97, 98, 97, 98, 97, 97, 98, 97, 97, 98, 97, 98, 97, 97, 98, 97, 98, 97, 97, 98, 97, 97, 98, 97, 98, 97, 97, 98, 97, 97, 98, 97, 98, 97, 97, 98, 97, 98, 97, 97, 98, 97, 97, 98, 97, 98, 97, 97, 98, 97, 98, 97, 97, 98, 97, 97, 98, 97, 98, 97, 97, 98, 97, 97, 98, 97, 98, 97, 97, 98, 97, 98, 97, 97, 98, 97, 97, 98, 97, 98, 97, 97, 98, 97, 98, 97, 97, 98, 97, 97, 98, 97, 98, 97, 97, 98, 97, 97, 98, 97, 98, 97, 97, 98, 97, 98, 97, 97, 98, 97, 97, 98, 97, 98, 97, 97, 98, 97, 97, 98, 97, 98, 97, 97, 98, 97, 98, 97, 97, 98, 97, 97, 98, 97, 98, 97, 97, 98, 97, 98, 97, 97, 98, 97, 97, 98, 97, 98, 97, 97, 98, 97, 97, 98, 97, 98, 97, 97, 98, 97, 98, 97, 97, 98, 97, 97, 98, 97, 98, 97, 97, 98, 97, 97, 98, 97, 98, 97, 97, 98, 97, 98, 97, 97, 98, 97, 97, 98, 97, 98, 97, 97, 98, 97, 98, 97, 97, 98, 97, 97, 98, 97, 98, 97, 97, 98, 97, 97, 98, 97, 98, 97, 97, 98, 97, 98, 97, 97, 98, 97, 97, 98, 97, 98, 97, 97, 98, 97, 98, 97, 97, 98, 97, 97, 98, 97, 98, 97, 97, 98, 97, 97]
def lT : List UInt8 := [97, 98, 98, 97, 98, 97, 97, 98, 98, 97, 97, 98, 97, 98, 98, 97, 98, 97, 97, 98, 97, 98, 98, 97, 97, 98, 98, 97, 98, 97, 97, 98, 98, 97, 97, 98, 97, 98, 98, 97, 97, 98, 98, 97, 98, 97, 97, 98, 97, 98, 98, 97, 98, 97, 97, 98, 98, 97, 97, 98, 97, 98, 98, 97, 98, 97, 97, 98, 97, 98, 98, 97, 97, 98, 98, 97, 98, 97, 97, 98, 97, 98, 98, 97, 98, 97, 97, 98, 98, 97, 97, 98, 97, 98, 98, 97, 97, 98, 98, 97, 98, 97, 97, 98, 98, 97, 97, 98, 97, 98, 98, 97, 98, 97, 97, 98, 97, 98, 98, 97, 97, 98, 98, 97, 98, 97, 97, 98, 98, 97, 97, 98, 97, 98, 98, 97, 97, 98, 98, 97, 98, 97, 97, 98, 97, 98, 98, 97, 98, 97, 97, 98, 98, 97, 97, 98, 97, 98, 98, 97, 97, 98, 98, 97, 98, 97, 97, 98, 98, 97, 97, 98, 97, 98, 98, 97, 98, 97, 97, 98, 97, 98, 98, 97, 97, 98, 98, 97, 98, 97, 97, 98, 97, 98, 98, 97, 98, 97, 97, 98, 98, 97, 97, 98, 97, 98, 98, 97, 98, 97, 97, 98, 97, 98, 98, 97, 97, 98, 98, 97, 98, 97, 97, 98, 98, 97, 97, 98, 97, 98, 98, 97, 97, 98, 98, 97, 98, 97, 97, 98, 97, 98, 98, 97, 98, 97, 97, 98, 98, 97, 97, 98, 97, 98, 98, 97, 98, 97, 97, 98, 97, 98, 98, 97, 97, 98, 98, 97, 98, 97, 97, 98, 97, 98, 98, 97, 98, 97, 97, 98, 98, 97, 97, 98, 97, 98, 98, 97, 97, 98, 98, 97, 98, 97, 97, 98, 98, 97, 97, 98]
theorem lF_fix : (fxL zF { data := #[97] } 300).take 300 = lF := by decide +kernel
theorem lT_fix : (fxL zT { data := #[97] } 300).take 300 = lT := by decide +kernel
theorem lF_w : isW lF = true := by decide +kernel
theorem lT_w : isW lT = true := by decide +kernel
theorem lF_len : lF.length = 300 := by decide +kernel
theorem lT_len : lT.length = 300 := by decide +kernel
def fibN : ByteArray := { data := #[102, 105, 98, 111, 110, 97, 99, 99, 105] }
def thueN : ByteArray := { data := #[116, 104, 117, 101] }
theorem psL_F : psL (nmT fibN) = zF := by decide +kernel
theorem psL_T : psL (nmT thueN) = zT := by decide +kernel
theorem psV_F : (psV (nmT fibN)).isSome = true := by decide +kernel
theorem psV_T : (psV (nmT thueN)).isSome = true := by decide +kernel
theorem su_F : suOk zF = true := by decide +kernel
theorem su_T : suOk zT = true := by decide +kernel
theorem gr_F : growB zF { data := #[97] } = true := by decide +kernel
theorem gr_T : growB zT { data := #[97] } = true := by decide +kernel

/-- No run of lim places at which two lists agree. -/
def noRun : List UInt8 → List UInt8 → Nat → Nat → Bool
  | a :: l, b :: m, lim, r => if a = b then (if lim ≤ r + 1 then false else noRun l m lim (r + 1)) else noRun l m lim 0
  | [], _, _, _ => true
  | _ :: _, [], _, _ => true
def Agr (l m : List UInt8) (i n : Nat) : Prop := ∀ j, j < n → ∃ x, l[i + j]? = some x ∧ m[i + j]? = some x
theorem noRun_ok : ∀ (l m : List UInt8) (lim r : Nat), r < lim → noRun l m lim r = true → (∀ i, ¬ Agr l m i lim) ∧ ¬ Agr l m 0 (lim - r)
  | [], m, lim, r, hr, _ => ⟨fun i h => by obtain ⟨x, hx, _⟩ := h 0 (by omega); simp at hx, fun h => by obtain ⟨x, hx, _⟩ := h 0 (by omega); simp at hx⟩
  | a :: l, [], lim, r, hr, _ => ⟨fun i h => by obtain ⟨x, _, hx⟩ := h 0 (by omega); simp at hx, fun h => by obtain ⟨x, _, hx⟩ := h 0 (by omega); simp at hx⟩
  | a :: l, b :: m, lim, r, hr, h => by
    have step : ∀ i n, Agr (a :: l) (b :: m) (i + 1) n → Agr l m i n := fun i n hA j hj => by
      obtain ⟨x, h1, h2⟩ := hA j hj
      rw [show i + 1 + j = (i + j) + 1 by omega, List.getElem?_cons_succ] at h1 h2
      exact ⟨x, h1, h2⟩
    have tail : ∀ n, Agr (a :: l) (b :: m) 0 (n + 1) → a = b ∧ Agr l m 0 n := fun n hA => by
      obtain ⟨x, h1, h2⟩ := hA 0 (by omega)
      simp at h1 h2
      refine ⟨by rw [h1, h2], fun j hj => ?_⟩
      obtain ⟨y, h3, h4⟩ := hA (j + 1) (by omega)
      rw [show 0 + (j + 1) = (0 + j) + 1 by omega, List.getElem?_cons_succ] at h3 h4
      exact ⟨y, h3, h4⟩
    rw [noRun] at h
    by_cases hab : a = b
    · rw [if_pos hab] at h
      by_cases hl : lim ≤ r + 1
      · rw [if_pos hl] at h; cases h
      · rw [if_neg hl] at h
        obtain ⟨h1, h2⟩ := noRun_ok l m lim (r + 1) (by omega) h
        have h3 : ¬ Agr (a :: l) (b :: m) 0 (lim - r) := fun hA => by
          rw [show lim - r = (lim - (r + 1)) + 1 by omega] at hA
          exact h2 (tail _ hA).2
        refine ⟨fun i hA => ?_, h3⟩
        cases i with
        | zero => exact h3 fun j hj => hA j (by omega)
        | succ i => exact h1 i (step i lim hA)
    · rw [if_neg hab] at h
      obtain ⟨h1, _⟩ := noRun_ok l m lim 0 (by omega) h
      have h3 : ∀ n, 0 < n → ¬ Agr (a :: l) (b :: m) 0 n := fun n hn hA => by
        obtain ⟨q, rfl⟩ : ∃ q, n = q + 1 := ⟨n - 1, by omega⟩
        exact hab (tail q hA).1
      refine ⟨fun i hA => ?_, h3 _ (by omega)⟩
      cases i with
      | zero => exact h3 _ (by omega) hA
      | succ i => exact h1 i (step i lim hA)
theorem gl_opt {s : ByteArray} {k : Nat} (h : k < s.size) : ∃ x, (L s)[k]? = some x ∧ gl s 0 k = x.toNat := by
  refine ⟨s[k], ?_, gl0 h⟩
  rw [List.getElem?_eq_getElem (by rw [L_len]; exact h)]; rfl
theorem lT_runs : ∀ p, p < 150 → noRun lT (lT.drop (p + 1)) (p + 2) 0 = true := by decide +kernel
theorem powT : powB (strOf lT) 1 = false := by
  have hz : (strOf lT).size = 300 := by rw [strOf_size, lT_len]
  cases hb : powB (strOf lT) 1 with
  | false => rfl
  | true =>
    exfalso
    obtain ⟨p, i, hp, h1, h2⟩ := (powB_iff _ _).1 hb
    rw [hz] at h1
    have hr := (noRun_ok _ _ _ _ (by omega) (lT_runs (p - 1) (by omega))).1 i
    rw [show p - 1 + 1 = p by omega, show p - 1 + 2 = p + 1 by omega] at hr
    refine hr fun j hj => ?_
    have h3 := h2 (i + j) (by omega) (by omega)
    obtain ⟨x, hx, hgx⟩ := gl_opt (s := strOf lT) (k := i + j) (by omega)
    obtain ⟨y, hy, hgy⟩ := gl_opt (s := strOf lT) (k := i + j + p) (by omega)
    rw [strOf_L] at hx hy
    rw [hgx, hgy] at h3
    have := UInt8.toNat_inj.1 h3
    subst this
    exact ⟨x, hx, by rw [List.getElem?_drop, show p + (i + j) = i + j + p by omega]; exact hy⟩
theorem cubF_at : ∀ j, j < 6 → lF[5 + j]? = lF[5 + j + 3]? ∧ (lF[5 + j]?).isSome = true := by decide +kernel
theorem cubF : Cub (strOf lF) 0 := by
  have hz : (strOf lF).size = 300 := by rw [strOf_size, lF_len]
  refine ⟨3, 5, by decide, by rw [hz]; decide, fun k h1 h2 => ?_⟩
  obtain ⟨j, rfl⟩ : ∃ j, k = 5 + j := ⟨k - 5, by omega⟩
  obtain ⟨h3, _⟩ := cubF_at j (by omega)
  obtain ⟨x, hx, hgx⟩ := gl_opt (s := strOf lF) (k := 5 + j) (by omega)
  obtain ⟨y, hy, hgy⟩ := gl_opt (s := strOf lF) (k := 5 + j + 3) (by omega)
  rw [strOf_L] at hx hy
  rw [hx, hy] at h3
  injection h3 with h3
  rw [hgx, hgy, h3]

/-- How many of the first letters are b. -/
def preB : List UInt8 → Nat → List Nat
  | [], c => [c]
  | x :: l, c => c :: preB l (if x = 98 then c + 1 else c)
theorem preB_at : ∀ (l : List UInt8) (c k : Nat), k ≤ l.length → (preB l c)[k]? = some (c + (l.take k).count 98)
  | [], c, k, h => by
    have : k = 0 := by simpa using h
    subst this; simp [preB]
  | x :: l, c, 0, h => by simp [preB]
  | x :: l, c, k + 1, h => by
    rw [preB, List.getElem?_cons_succ, preB_at l _ k (by simpa using h), List.take_succ_cons, List.count_cons]
    by_cases hx : x = 98
    · rw [if_pos hx, if_pos (by simpa using hx)]; congr 1; omega
    · rw [if_neg hx, if_neg (by simpa using hx)]; congr 1
/-- All windows of one length have a or a + 1 letters b. -/
def winB (P : List Nat) (n a : Nat) : Bool := (List.zipWith (fun x y => decide (y + a ≤ x ∧ x ≤ y + a + 1)) (P.drop n) P).all id
theorem win_ok {s : ByteArray} {n a : Nat} (h : winB (preB (L s) 0) n a = true) {i : Nat} (hi : i + n ≤ s.size) : a ≤ cB (s.extract i (i + n)) ∧ cB (s.extract i (i + n)) ≤ a + 1 := by
  have h1 := preB_at (L s) 0 i (by rw [L_len]; omega)
  have h2 := preB_at (L s) 0 (i + n) (by rw [L_len]; omega)
  have hc : cB (s.extract i (i + n)) + ((L s).take i).count 98 = ((L s).take (i + n)).count 98 := by
    rw [cB_L, L_extract, show (((L s).take (i + n)).drop i) = ((L s).drop i).take n from by rw [List.drop_take]; congr 1; omega, List.take_add, List.count_append]
    omega
  rw [winB, List.all_eq_true] at h
  have h3 : (List.zipWith (fun x y => decide (y + a ≤ x ∧ x ≤ y + a + 1)) ((preB (L s) 0).drop n) (preB (L s) 0))[i]? = some (decide (((L s).take i).count 98 + a ≤ ((L s).take (i + n)).count 98 ∧ ((L s).take (i + n)).count 98 ≤ ((L s).take i).count 98 + a + 1)) := by
    rw [List.getElem?_zipWith, List.getElem?_drop, Nat.add_comm n i, h1, h2]; simp
  have h4 := h _ (List.mem_of_getElem? h3)
  have h5 := of_decide_eq_true h4
  omega
theorem spr_in {s : ByteArray} {n a : Nat} (h : ∀ i, i + n ≤ s.size → a ≤ cB (s.extract i (i + n)) ∧ cB (s.extract i (i + n)) ≤ a + 1) : ∀ f i lo hi, i + f + n ≤ s.size + 1 → a ≤ lo → hi ≤ a + 1 → a ≤ (spr s n f i lo hi).1 ∧ (spr s n f i lo hi).2 ≤ a + 1
  | 0, _, _, _, _, h1, h2 => ⟨h1, h2⟩
  | f + 1, i, lo, hi, hf, h1, h2 => by
    obtain ⟨h3, h4⟩ := h i (by omega)
    exact spr_in h f (i + 1) _ _ (by omega) (by omega) (by omega)
def l100 : List UInt8 := lF.take 100
/-- The least number of letters b in a window. -/
def lowB : List Nat := [0, 0, 1, 1, 1, 2, 2, 3, 3, 3, 4, 4, 4, 5, 5, 6, 6, 6, 7, 7, 8, 8, 8, 9, 9, 9, 10, 10, 11, 11, 11, 12, 12, 12, 13, 13, 14, 14, 14, 15, 15, 16, 16, 16, 17, 17, 17, 18, 18, 19, 19, 19, 20, 20, 21, 21, 21, 22, 22, 22, 23, 23, 24, 24, 24, 25, 25, 25, 26, 26, 27, 27, 27, 28, 28, 29, 29, 29, 30, 30, 30, 31, 31, 32, 32, 32, 33, 33, 34, 34, 34, 35, 35, 36, 36, 36, 37, 37, 38, 38]
theorem l100_win : ∀ n, n < 100 → (winB (preB l100 0) (n + 1) (lowB.getD n 0) = true ∧ lowB.getD n 0 ≤ n + 1) := by decide +kernel
theorem l100_len : l100.length = 100 := by decide +kernel
theorem bal100 : blcB (strOf l100) = true := by
  refine blcB_yes (by rw [strOf_L]; decide +kernel) fun n h1 h2 h3 => ?_
  have hz : (strOf l100).size = 100 := by rw [strOf_size, l100_len]
  rw [hz] at h2
  obtain ⟨h4, h5⟩ := l100_win (n - 1) (by omega)
  rw [show n - 1 + 1 = n by omega] at h4 h5
  have h6 := spr_in (s := strOf l100) (n := n) (a := lowB.getD (n - 1) 0) (fun i hi => win_ok (by rw [strOf_L]; exact h4) hi) (100 + 1 - n) 0 n 0 (by rw [hz]; omega) h5 (by omega)
  unfold sp at h3
  rw [hz] at h3
  omega
def l30 : List UInt8 := lT.take 30
theorem l30_sp : sp (strOf l30) 2 = (0, 2) := by decide +kernel
theorem l30_len : l30.length = 30 := by decide +kernel
theorem bal30 : blcB (strOf l30) = false := blcB_not (n := 2) (by decide) (by rw [strOf_size, l30_len]; decide) (by rw [l30_sp]; decide)

end Go.Proofs.YtbegecoocgkbiaaGreatDoor

/- What FnConfirms asks of numbers, by reckoning; the library's table of powers of ten. No condition. -/
namespace Go.Proofs.YtbegecoocgkbiaaGreatDoor
open Go.RowKit
set_option linter.unusedVariables false

theorem pow10_tabC : (Rows.laid_internal_strconv_uint64pow10 : DataW Unit) = Lib.tabData .u64 Lib.pow10Tab := rfl
theorem TB.of_headC {r : List (String × DataW Unit)} {w : World} (h : laidMet Tryz.prog (("internal/strconv.uint64pow10", Rows.laid_internal_strconv_uint64pow10) :: r) w) : TB w := by
  rw [pow10_tabC] at h
  exact Lib.tabIs_of_head (g := (Tryz.prog.globalNamed "internal/strconv.uint64pow10").getD 0) (t := ((Tryz.prog.globals[(Tryz.prog.globalNamed "internal/strconv.uint64pow10").getD 0]?).map (·.type)).getD 0) (n := 20) (e := 158) (by kernel_rfl) (by kernel_rfl) (by kernel_rfl) (by kernel_rfl) (by kernel_rfl) (by kernel_rfl) h
theorem low_10 : low 10 = 16 := by
  have h1 := (low_iff 10 16 (by omega) (by omega) (by omega)).2 (by omega)
  have h2 := mt (low_iff 10 17 (by omega) (by omega) (by omega)).1 (by omega)
  omega
theorem ds_7 : ds 7 % 2 = 1 := by
  rw [ds_pos (by decide), ds_pos (by decide), ds_pos (by decide), ds_zero]
theorem num_100 : strOf (numL 100) = { data := #[49, 48, 48, 48, 48, 49, 48, 49, 48, 48] } := by decide +kernel
theorem ed_1 : ed (L { data := #[97, 98, 99, 97, 98] }) (L { data := #[98, 99, 97, 98] }) 5 4 = 1 := by decide +kernel
theorem suD_F : dtF 2 (mtL zF) = -1 := by decide +kernel
theorem suD_T : dtF 2 (mtL zT) = 0 := by decide +kernel
theorem ca_144 : caV 2 10 [({ data := #[98, 98] } : ByteArray)] = 144 := by
  rw [caV_yes (by decide +kernel)]
  decide +kernel
theorem pal_x : palB { data := #[97, 98, 97, 97, 98, 97, 98, 97, 97, 98, 97] } = true := by decide +kernel
theorem ext_F : (strOf lF).extract 0 100 = strOf l100 := by
  apply bytes_ext
  show L _ = L _
  rw [L_extract, strOf_L, strOf_L]; rfl
theorem ext_T : (strOf lT).extract 0 30 = strOf l30 := by
  apply bytes_ext
  show L _ = L _
  rw [L_extract, strOf_L, strOf_L]; rfl
theorem l100_w : isW l100 = true := by decide +kernel
theorem l30_w : isW l30 = true := by decide +kernel
end Go.Proofs.YtbegecoocgkbiaaGreatDoor

/- The factors of the words of three hundred letters, and which have several letters behind them; plain, by reckoning. Printed by a small program. No condition. -/
namespace Go.Proofs.YtbegecoocgkbiaaGreatDoor
open Go.RowKit
set_option linter.unusedVariables false

def wnd (l : List UInt8) (n : Nat) : List (List UInt8) := (List.range (l.length + 1 - n)).map fun i => (l.drop i).take n
theorem fc_wnd (l : List UInt8) (n : Nat) : fc (strOf l) n = (wnd l n).map strOf := by
  rw [fc, fcT, wnd, List.map_map, strOf_size]
  refine List.map_congr_left fun i hi => ?_
  have hi2 := List.mem_range.1 hi
  apply bytes_ext
  show L _ = L _
  rw [L_extract, strOf_L, Function.comp, strOf_L, List.drop_take]
  congr 1; omega
/-- A list in order holds the same factors. -/
def facOk (l : List UInt8) (n : Nat) (m : List (List UInt8)) : Bool := decide (m.Pairwise fun a b => a < b) && ((wnd l n).all (fun x => m.contains x) && m.all (fun x => (wnd l n).contains x))
theorem fac_is {l : List UInt8} {n : Nat} {m : List (List UInt8)} (h : facOk l n m = true) : insL (fc (strOf l) n) = m.map strOf := by
  rw [facOk, Bool.and_eq_true, Bool.and_eq_true, decide_eq_true_eq, List.all_eq_true, List.all_eq_true] at h
  obtain ⟨h1, h2, h3⟩ := h
  refine ss_uniq (insL_ss _) ?_ fun x => ?_
  · rw [SS, List.pairwise_map]
    exact h1.imp fun {a b} h => by rw [strOf_L, strOf_L]; exact h
  · rw [insL_mem, fc_wnd, List.mem_map, List.mem_map]
    constructor
    · rintro ⟨a, ha, rfl⟩
      exact ⟨a, by simpa using h2 a ha, rfl⟩
    · rintro ⟨a, ha, rfl⟩
      exact ⟨a, by simpa using h3 a ha, rfl⟩
def sF : ByteArray := strOf lF
def sT : ByteArray := strOf lT
/-- How many of these have several letters behind them. -/
def rsC (s : ByteArray) (m : List (List UInt8)) : Nat := ((m.map strOf).filter fun f => decide (1 < (nbS s f 4).size)).length
theorem right_len {s : ByteArray} {n : Nat} {m : List (List UInt8)} (h : insL (fc s n) = m.map strOf) : (spL s n (insL (fc s n)).length).length = rsC s m := by
  rw [spL, List.take_length, h, rsC]

def mF1 : List (List UInt8) := [[97], [98]]
theorem facF1 : insL (fc sF 1) = mF1.map strOf := fac_is (by decide +kernel)
theorem rsF1 : rsC sF mF1 = 1 := by decide +kernel
def mF2 : List (List UInt8) := [[97, 97], [97, 98], [98, 97]]
theorem facF2 : insL (fc sF 2) = mF2.map strOf := fac_is (by decide +kernel)
theorem rsF2 : rsC sF mF2 = 1 := by decide +kernel
def mF3 : List (List UInt8) := [[97, 97, 98], [97, 98, 97], [98, 97, 97], [98, 97, 98]]
theorem facF3 : insL (fc sF 3) = mF3.map strOf := fac_is (by decide +kernel)
theorem rsF3 : rsC sF mF3 = 1 := by decide +kernel
def mF4 : List (List UInt8) := [[97, 97, 98, 97], [97, 98, 97, 97], [97, 98, 97, 98], [98, 97, 97, 98], [98, 97, 98, 97]]
theorem facF4 : insL (fc sF 4) = mF4.map strOf := fac_is (by decide +kernel)
theorem rsF4 : rsC sF mF4 = 1 := by decide +kernel
def mF5 : List (List UInt8) := [[97, 97, 98, 97, 97], [97, 97, 98, 97, 98], [97, 98, 97, 97, 98], [97, 98, 97, 98, 97], [98, 97, 97, 98, 97], [98, 97, 98, 97, 97]]
theorem facF5 : insL (fc sF 5) = mF5.map strOf := fac_is (by decide +kernel)
theorem rsF5 : rsC sF mF5 = 1 := by decide +kernel
def mF6 : List (List UInt8) := [[97, 97, 98, 97, 97, 98], [97, 97, 98, 97, 98, 97], [97, 98, 97, 97, 98, 97], [97, 98, 97, 98, 97, 97], [98, 97, 97, 98, 97, 97], [98, 97, 97, 98, 97, 98], [98, 97, 98, 97, 97, 98]]
theorem facF6 : insL (fc sF 6) = mF6.map strOf := fac_is (by decide +kernel)
theorem rsF6 : rsC sF mF6 = 1 := by decide +kernel
def mF7 : List (List UInt8) := [[97, 97, 98, 97, 97, 98, 97], [97, 97, 98, 97, 98, 97, 97], [97, 98, 97, 97, 98, 97, 97], [97, 98, 97, 97, 98, 97, 98], [97, 98, 97, 98, 97, 97, 98], [98, 97, 97, 98, 97, 97, 98], [98, 97, 97, 98, 97, 98, 97], [98, 97, 98, 97, 97, 98, 97]]
theorem facF7 : insL (fc sF 7) = mF7.map strOf := fac_is (by decide +kernel)
theorem rsF7 : rsC sF mF7 = 1 := by decide +kernel
def mF8 : List (List UInt8) := [[97, 97, 98, 97, 97, 98, 97, 98], [97, 97, 98, 97, 98, 97, 97, 98], [97, 98, 97, 97, 98, 97, 97, 98], [97, 98, 97, 97, 98, 97, 98, 97], [97, 98, 97, 98, 97, 97, 98, 97], [98, 97, 97, 98, 97, 97, 98, 97], [98, 97, 97, 98, 97, 98, 97, 97], [98, 97, 98, 97, 97, 98, 97, 97], [98, 97, 98, 97, 97, 98, 97, 98]]
theorem facF8 : insL (fc sF 8) = mF8.map strOf := fac_is (by decide +kernel)
theorem rsF8 : rsC sF mF8 = 1 := by decide +kernel
def mT1 : List (List UInt8) := [[97], [98]]
theorem facT1 : insL (fc sT 1) = mT1.map strOf := fac_is (by decide +kernel)
def mT2 : List (List UInt8) := [[97, 97], [97, 98], [98, 97], [98, 98]]
theorem facT2 : insL (fc sT 2) = mT2.map strOf := fac_is (by decide +kernel)
def mT3 : List (List UInt8) := [[97, 97, 98], [97, 98, 97], [97, 98, 98], [98, 97, 97], [98, 97, 98], [98, 98, 97]]
theorem facT3 : insL (fc sT 3) = mT3.map strOf := fac_is (by decide +kernel)
def mT4 : List (List UInt8) := [[97, 97, 98, 97], [97, 97, 98, 98], [97, 98, 97, 97], [97, 98, 97, 98], [97, 98, 98, 97], [98, 97, 97, 98], [98, 97, 98, 97], [98, 97, 98, 98], [98, 98, 97, 97], [98, 98, 97, 98]]
theorem facT4 : insL (fc sT 4) = mT4.map strOf := fac_is (by decide +kernel)
def mT5 : List (List UInt8) := [[97, 97, 98, 97, 98], [97, 97, 98, 98, 97], [97, 98, 97, 97, 98], [97, 98, 97, 98, 98], [97, 98, 98, 97, 97], [97, 98, 98, 97, 98], [98, 97, 97, 98, 97], [98, 97, 97, 98, 98], [98, 97, 98, 97, 97], [98, 97, 98, 98, 97], [98, 98, 97, 97, 98], [98, 98, 97, 98, 97]]
theorem facT5 : insL (fc sT 5) = mT5.map strOf := fac_is (by decide +kernel)
theorem cpxF : ∀ n, 1 ≤ n → n ≤ 8 → cpx sF n = n + 1 ∧ (spL sF n (insL (fc sF n)).length).length = 1 := by
  intro n h1 h2
  have h : n = 1 ∨ n = 2 ∨ n = 3 ∨ n = 4 ∨ n = 5 ∨ n = 6 ∨ n = 7 ∨ n = 8 := by omega
  rcases h with rfl | rfl | rfl | rfl | rfl | rfl | rfl | rfl
  · exact ⟨by rw [cpx, facF1]; rfl, by rw [right_len facF1, rsF1]⟩
  · exact ⟨by rw [cpx, facF2]; rfl, by rw [right_len facF2, rsF2]⟩
  · exact ⟨by rw [cpx, facF3]; rfl, by rw [right_len facF3, rsF3]⟩
  · exact ⟨by rw [cpx, facF4]; rfl, by rw [right_len facF4, rsF4]⟩
  · exact ⟨by rw [cpx, facF5]; rfl, by rw [right_len facF5, rsF5]⟩
  · exact ⟨by rw [cpx, facF6]; rfl, by rw [right_len facF6, rsF6]⟩
  · exact ⟨by rw [cpx, facF7]; rfl, by rw [right_len facF7, rsF7]⟩
  · exact ⟨by rw [cpx, facF8]; rfl, by rw [right_len facF8, rsF8]⟩
theorem cpxT1 : cpx sT 1 = 2 := by rw [cpx, facT1]; rfl
theorem cpxT2 : cpx sT 2 = 4 := by rw [cpx, facT2]; rfl
theorem cpxT3 : cpx sT 3 = 6 := by rw [cpx, facT3]; rfl
theorem cpxT4 : cpx sT 4 = 10 := by rw [cpx, facT4]; rfl
theorem cpxT5 : cpx sT 5 = 12 := by rw [cpx, facT5]; rfl
end Go.Proofs.YtbegecoocgkbiaaGreatDoor
