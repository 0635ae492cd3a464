/- SubstOk, BenchOk, both. No condition but the bounds. -/
import Derived.Test.YtbegecoocgkbiaaGreatDoorM17
import Derived.BigQuiet
import Derived.RegionTactic
namespace Go.Proofs.YtbegecoocgkbiaaGreatDoor
open Go.RowKit
set_option linter.unusedVariables false

def imgOk (n : Nat) (x : ByteArray) : Bool := decide (1 ≤ x.size ∧ x.size ≤ 8) && (isW (L x) && winL n (L x))
/-- Whether images are those of a substitution. -/
def suOk (zs : List ByteArray) : Bool := zs.all (imgOk zs.length) && decide (1 ≤ zs.length ∧ zs.length ≤ 4)
def bnOk (zs : List ByteArray) (s : ByteArray) : Bool := suOk zs && isW (L s)
theorem su_drop {zs : List ByteArray} {k : Nat} {x : ByteArray} (n : Nat) (h : zs[k]? = some x) : (zs.drop k).all (imgOk n) = (imgOk n x && (zs.drop (k + 1)).all (imgOk n)) := by
  rw [drop_at_list h, List.all_cons]
set_option maxRecDepth 4000 in
set_option maxHeartbeats 400000 in
theorem hasImages_any (A : Option Addr) (n c : Nat) (x : ByteArray) (hx : x.size ≤ 1000) (hn : n ≤ 4294967296) (w : World) :
    Calls Tryz.prog 111 #[.agg #[.slice A n c], .string x] w fun e w' => e = .returned (.bool (isW (L x) && winL n (L x))) ∧ Below w.heap.size w w' := by
  have hxm : x.size ≤ maxLen := by unfold maxLen; omega
  have h0 := heap_alloc_new w (.cells #[.slice A n c] 25)
  have H0 := Lib.hid h0
  clear h0
  go_enter Tryz.func111, Tryz.ntmps111
  go_wp2_with fail
  go_loopw [5, 8] (fun _ i wr => ∃ k : Nat, k ≤ x.size ∧ i = .int .i64 k ∧ winL n ((L x).drop k) = winL n (L x) ∧ wr.cell? ⟨w.heap.size, 0, none⟩ = some (.slice A n c) ∧ Below w.heap.size w wr) (fun _ i _ => x.size - (intOf i).toNat)
  case atStart => exact ⟨0, by omega, rfl, rfl, cell_of_row _ _ 0 _ _ (0, 0) H0.out, (Below.refl _ _).alloc (Nat.le_refl _) _⟩
  case round =>
    obtain ⟨k, hk, rfl, hg, hcell, hbel⟩ := hrel
    have HG := Lib.hid hg; clear hg
    by_cases hlt : k < x.size
    · obtain ⟨bb, hbb⟩ : ∃ bb, x[k]'hlt = bb := ⟨_, rfl⟩
      have hdd := drop_at x k hlt
      rw [hbb] at hdd
      have HD := Lib.hid hdd
      have hb256 := bb.toNat_lt
      clear hdd
      by_cases hp : bb.toNat < 97 + n
      · have HP := Lib.hid hp
        have hq : ¬ ((n : Int) ≤ (bb.toNat : Int) - 97) := by omega
        go_wp2_with fail
        go_quiet (fail)
        go_wp2_with fail
        go_roundw
        case rel => exact ⟨k + 1, by omega, by go_num, by rw [← HG.out, HD.out, winL, winL, List.all_cons, decide_eq_true HP.out]; rfl, hcell, hbel.trans ((Dr.refl _).drewN nq).below⟩
        case measure => simp [intOf]; omega
      · have HP := Lib.hid hp
        have hq : (n : Int) ≤ (bb.toNat : Int) - 97 := by omega
        go_wp2_with fail
        go_quiet (fail)
        go_wp2_with fail
        go_ret
        exact ⟨ret_bool (by rw [← HG.out, HD.out, winL, List.all_cons, decide_eq_false HP.out, Bool.false_and, Bool.and_false]), hbel.trans ((Dr.refl _).drewN nq).below⟩
    · have h0 : (L x).drop k = [] := drop_end x k hlt
      have hfin : winL n (L x) = true := by rw [← HG.out, h0]; rfl
      have HF := Lib.hid hfin; clear h0 hfin
      cases hw : isW (L x)
      · have HW := Lib.hid hw; clear hw
        go_wp2_with (go_at_call 70; refine (isWord_is x _ hxm HW.out _).mono ?_; rintro e w' ⟨rfl, rfl⟩)
        go_ret
        exact ⟨ret_bool (by rw [HW.out]; rfl), hbel⟩
      · have HW := Lib.hid hw; clear hw
        go_wp2_with (go_at_call 70; refine (isWord_is x _ hxm HW.out _).mono ?_; rintro e w' ⟨rfl, rfl⟩)
        go_ret
        exact ⟨ret_bool (by rw [HW.out, HF.out]; rfl), hbel⟩
set_option maxRecDepth 4000 in
set_option maxHeartbeats 400000 in
theorem iSubstOk_any (zs : List ByteArray) (A : Option Addr) (c B : Nat) (w : World) (hB : B ≤ w.heap.size) (hn : zs.length ≤ 4294967296) (hsz : ∀ s ∈ zs, s.size ≤ maxLen) (hrd : Rds w B A (zs.map Value.string)) :
    Calls Tryz.prog 59 #[.agg #[.slice A zs.length c]] w fun e w' => e = .returned (.bool (suOk zs)) ∧ Below w.heap.size w w' := by
  have HZ := Lib.hid hsz; have HR := Lib.hid hrd
  have h0 := heap_alloc_new w (.cells #[.slice A zs.length c] 25)
  have H0 := Lib.hid h0
  clear h0 hsz hrd
  go_enter Tryz.func59, Tryz.ntmps59
  go_wp2_with fail
  go_loopw [4, 8] (fun _ i wr => ∃ k : Nat, k ≤ zs.length ∧ i = .int .i64 k ∧ (zs.drop k).all (imgOk zs.length) = zs.all (imgOk zs.length) ∧ wr.cell? ⟨w.heap.size, 0, none⟩ = some (.slice A zs.length c) ∧ w.heap.size + 1 ≤ wr.heap.size ∧ Below w.heap.size w wr) (fun _ i _ => zs.length - (intOf i).toNat)
  case atStart => exact ⟨0, by omega, rfl, rfl, cell_of_row _ _ 0 _ _ (0, 0) H0.out, by simp, (Below.refl _ _).alloc (Nat.le_refl _) _⟩
  case round =>
    obtain ⟨k, hk, rfl, hg, hcell, hsz, hbel⟩ := hrel
    have HG := Lib.hid hg; clear hg
    by_cases hlt : k < zs.length
    · obtain ⟨x, hx⟩ := some_of_lt (l := zs) (k := k) hlt
      have hxs := HZ.out x (List.mem_of_getElem? hx)
      have hxs2 := hxs
      unfold maxLen at hxs2
      obtain ⟨ad, rfl, hc⟩ := (HR.out.below hbel hB).at_ (map_at Value.string hx)
      have HD := Lib.hid (su_drop zs.length hx)
      clear hx
      by_cases h8 : 1 ≤ x.size ∧ x.size ≤ 8
      · obtain ⟨h81, h82⟩ := h8
        have hhi := hasImages_any (some ad) zs.length c x (by omega) hn wr
        obtain ⟨b, hb⟩ : ∃ b, (isW (L x) && winL zs.length (L x)) = b := ⟨_, rfl⟩
        rw [hb] at hhi
        have him : imgOk zs.length x = b := by rw [imgOk, decide_eq_true (And.intro h81 h82), hb]; rfl
        have HHI := Lib.hid hhi; have HIM := Lib.hid him
        clear hhi hb him
        cases b
        · go_wp2_with (first
            | (go_at_call 61; refine (within_yes _ _ _ ⟨by omega, by omega⟩ _).mono ?_; rintro e w' ⟨rfl, rfl⟩)
            | (go_at_call 111; refine HHI.out.mono ?_; rintro e w2 ⟨rfl, b2⟩))
          go_ret
          exact ⟨ret_bool (by rw [suOk, ← HG.out, HD.out, HIM.out]; rfl), hbel.trans (b2.mono hbel.size)⟩
        · go_wp2_with (first
            | (go_at_call 61; refine (within_yes _ _ _ ⟨by omega, by omega⟩ _).mono ?_; rintro e w' ⟨rfl, rfl⟩)
            | (go_at_call 111; refine HHI.out.mono ?_; rintro e w2 ⟨rfl, b2⟩))
          go_roundw
          case rel => exact ⟨k + 1, by omega, by go_num, by rw [← HG.out, HD.out, HIM.out]; rfl, (b2.cell (p := ⟨w.heap.size, 0, none⟩) hsz).trans hcell, Nat.le_trans hsz b2.size, hbel.trans (b2.mono hbel.size)⟩
          case measure => simp [intOf]; omega
      · have him : imgOk zs.length x = false := by rw [imgOk, decide_eq_false h8]; rfl
        have HIM := Lib.hid him
        have H8 := Lib.hid (show ¬ ((1 : Int) ≤ (x.size : Int) ∧ (x.size : Int) ≤ 8) from fun h => h8 ⟨by omega, by omega⟩)
        clear him h8
        go_wp2_with (go_at_call 61; refine (within_no _ _ _ H8.out _).mono ?_; rintro e w' ⟨rfl, rfl⟩)
        go_ret
        exact ⟨ret_bool (by rw [suOk, ← HG.out, HD.out, HIM.out]; rfl), hbel⟩
    · have h0 : zs.drop k = [] := List.drop_eq_nil_of_le (by omega)
      have hall : zs.all (imgOk zs.length) = true := by rw [← HG.out, h0]; rfl
      have HALL := Lib.hid hall
      clear h0 hall
      by_cases h4 : 1 ≤ zs.length ∧ zs.length ≤ 4
      · obtain ⟨h41, h42⟩ := h4
        have hfin : suOk zs = true := by rw [suOk, HALL.out, decide_eq_true (And.intro h41 h42)]; rfl
        have HF := Lib.hid hfin; clear hfin
        go_wp2_with (go_at_call 61; refine (within_yes _ _ _ ⟨by omega, by omega⟩ _).mono ?_; rintro e w' ⟨rfl, rfl⟩)
        go_ret
        exact ⟨ret_bool HF.out.symm, hbel⟩
      · have hfin : suOk zs = false := by rw [suOk, decide_eq_false h4, Bool.and_false]
        have HF := Lib.hid hfin; clear hfin
        have H4 := Lib.hid (show ¬ ((1 : Int) ≤ (zs.length : Int) ∧ (zs.length : Int) ≤ 4) from fun h => h4 ⟨by omega, by omega⟩)
        clear h4
        go_wp2_with (go_at_call 61; refine (within_no _ _ _ H4.out _).mono ?_; rintro e w' ⟨rfl, rfl⟩)
        go_ret
        exact ⟨ret_bool HF.out.symm, hbel⟩
set_option maxRecDepth 4000 in
set_option maxHeartbeats 400000 in
theorem sSubstOk_any (zs : List ByteArray) (A : Option Addr) (c B : Nat) (w : World) (hB : B ≤ w.heap.size) (hn : zs.length ≤ 4294967296) (hsz : ∀ s ∈ zs, s.size ≤ maxLen) (hrd : Rds w B A (zs.map Value.string)) :
    Calls Tryz.prog 197 #[.agg #[.slice A zs.length c]] w fun e w' => e = .returned (.bool (suOk zs)) ∧ Below w.heap.size w w' := by
  have HZ := Lib.hid hsz; have HR := Lib.hid hrd
  have h0 := heap_alloc_new w (.cells #[.slice A zs.length c] 25)
  have hb1 : Below w.heap.size w (w.alloc (.cells #[.slice A zs.length c] 25)) := (Below.refl _ _).alloc (Nat.le_refl _) _
  have HB1 := Lib.hid hb1
  clear h0 hsz hrd hb1
  by_cases h4 : 1 ≤ zs.length ∧ zs.length ≤ 4
  · obtain ⟨h41, h42⟩ := h4
    have hsu : suOk zs = zs.all (imgOk zs.length) := by rw [suOk, decide_eq_true (And.intro h41 h42), Bool.and_true]
    have HSU := Lib.hid hsu; clear hsu
    go_enter Tryz.func197, Tryz.ntmps197
    go_wp2_with (go_at_call 219; refine (l01In_yes _ _ _ ⟨by omega, by omega⟩ _).mono ?_; rintro e w' ⟨rfl, rfl⟩)
    go_loopw [5, 15] (fun _ i wr => ∃ k : Nat, k ≤ zs.length ∧ i = .int .i64 k ∧ (zs.drop k).all (imgOk zs.length) = suOk zs ∧ wr = (w.alloc (.cells #[.slice A zs.length c] 25))) (fun _ i _ => zs.length - (intOf i).toNat)
    case atStart => exact ⟨0, by omega, rfl, HSU.out.symm, rfl⟩
    case round =>
      obtain ⟨k, hk, rfl, hg, rfl⟩ := hrel
      have HG := Lib.hid hg; clear hg
      by_cases hlt : k < zs.length
      · obtain ⟨x, hx⟩ := some_of_lt (l := zs) (k := k) hlt
        have hxs := HZ.out x (List.mem_of_getElem? hx)
        have hxs2 := hxs
        unfold maxLen at hxs2
        obtain ⟨ad, rfl, hc⟩ := (HR.out.below HB1.out hB).at_ (map_at Value.string hx)
        have HD := Lib.hid (su_drop zs.length hx)
        clear hx
        by_cases h8 : 1 ≤ x.size ∧ x.size ≤ 8
        · obtain ⟨h81, h82⟩ := h8
          have hd8 : decide (1 ≤ x.size ∧ x.size ≤ 8) = true := decide_eq_true (And.intro h81 h82)
          cases hw : isW (L x)
          · have him : imgOk zs.length x = false := by rw [imgOk, hw, Bool.false_and, Bool.and_false]
            have HIM := Lib.hid him; have HW := Lib.hid hw
            clear him hw hd8
            go_wp2_with (first
              | (go_at_call 219; refine (l01In_yes _ _ _ ⟨by omega, by omega⟩ _).mono ?_; rintro e w' ⟨rfl, rfl⟩)
              | (go_at_call 220; refine (sWordOk_is x _ hxs HW.out _).mono ?_; rintro e w' ⟨rfl, rfl⟩))
            go_ret
            exact ⟨ret_bool (by rw [← HG.out, HD.out, HIM.out]; rfl), HB1.out⟩
          · have hwi := fun w => l03Within_any zs.length x (by omega) hw w
            obtain ⟨b, hb⟩ : ∃ b, winL zs.length (L x) = b := ⟨_, rfl⟩
            rw [hb] at hwi
            have him : imgOk zs.length x = b := by rw [imgOk, hd8, hw, hb]; rfl
            have HIM := Lib.hid him; have HW := Lib.hid hw; have HWI := Lib.hid hwi
            clear him hw hd8 hb hwi
            cases b
            · go_wp2_with (first
                | (go_at_call 219; refine (l01In_yes _ _ _ ⟨by omega, by omega⟩ _).mono ?_; rintro e w' ⟨rfl, rfl⟩)
                | (go_at_call 220; refine (sWordOk_is x _ hxs HW.out _).mono ?_; rintro e w' ⟨rfl, rfl⟩)
                | (go_at_call 221; refine (HWI.out _).mono ?_; rintro e w' ⟨rfl, rfl⟩))
              go_ret
              exact ⟨ret_bool (by rw [← HG.out, HD.out, HIM.out]; rfl), HB1.out⟩
            · go_wp2_with (first
                | (go_at_call 219; refine (l01In_yes _ _ _ ⟨by omega, by omega⟩ _).mono ?_; rintro e w' ⟨rfl, rfl⟩)
                | (go_at_call 220; refine (sWordOk_is x _ hxs HW.out _).mono ?_; rintro e w' ⟨rfl, rfl⟩)
                | (go_at_call 221; refine (HWI.out _).mono ?_; rintro e w' ⟨rfl, rfl⟩))
              go_roundw
              case rel => exact ⟨k + 1, by omega, by go_num, by rw [← HG.out, HD.out, HIM.out]; rfl, trivial⟩
              case measure => simp [intOf]; omega
        · have him : imgOk zs.length x = false := by rw [imgOk, decide_eq_false h8]; rfl
          have HIM := Lib.hid him
          have H8 := Lib.hid (show ¬ ((1 : Int) ≤ (x.size : Int) ∧ (x.size : Int) ≤ 8) from fun h => h8 ⟨by omega, by omega⟩)
          clear him h8
          go_wp2_with (go_at_call 219; refine (l01In_no _ _ _ H8.out _).mono ?_; rintro e w' ⟨rfl, rfl⟩)
          go_ret
          exact ⟨ret_bool (by rw [← HG.out, HD.out, HIM.out]; rfl), HB1.out⟩
      · have h0 : zs.drop k = [] := List.drop_eq_nil_of_le (by omega)
        have hfin : suOk zs = true := by rw [← HG.out, h0]; rfl
        have HF := Lib.hid hfin
        clear h0 hfin
        go_wp2_with fail
        go_ret
        exact ⟨ret_bool HF.out.symm, HB1.out⟩
  · have hfin : suOk zs = false := by rw [suOk, decide_eq_false h4, Bool.and_false]
    have HF := Lib.hid hfin; clear hfin
    have H4 := Lib.hid (show ¬ ((1 : Int) ≤ (zs.length : Int) ∧ (zs.length : Int) ≤ 4) from fun h => h4 ⟨by omega, by omega⟩)
    clear h4
    go_enter Tryz.func197, Tryz.ntmps197
    go_wp2_with (go_at_call 219; refine (l01In_no _ _ _ H4.out _).mono ?_; rintro e w' ⟨rfl, rfl⟩)
    go_ret
    exact ⟨ret_bool HF.out.symm, HB1.out⟩
end Go.Proofs.YtbegecoocgkbiaaGreatDoor
