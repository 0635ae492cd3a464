/- Rules of a patch, RuleLine, both. Asks the shelf's text. No condition but the bounds. -/
import Derived.Test.YtbegecoocgkbiaaGreatDoorFlp
import Derived.Test.YtbegecoocgkbiaaGreatDoorM16
import Derived.Test.YtbegecoocgkbiaaGreatDoorM28
import Derived.Test.YtbegecoocgkbiaaGreatDoorJon
namespace Go.Proofs.YtbegecoocgkbiaaGreatDoor
open Go.RowKit
set_option linter.unusedVariables false

theorem prs_len (s : ByteArray) : (prs s).length = s.size - 1 := by rw [prs, prsTo_length]
theorem prsL_len : ∀ (ps : List ByteArray), (∀ s ∈ ps, s.size ≤ 32) → (prsL ps).length ≤ ps.length * 31
  | [], _ => by simp [prsL]
  | s :: ps, h => by
    have h1 := prsL_len ps fun x hx => h x (List.mem_cons_of_mem _ hx)
    have h2 := h s List.mem_cons_self
    rw [prsL, List.flatMap_cons, List.length_append, ← prsL, prs_len, List.length_cons, Nat.succ_mul]; omega
theorem two_size {s : ByteArray} {k : Nat} : (two s k).size ≤ s.size := by unfold two; rw [ByteArray.size_extract]; omega
theorem prsL_size {ps : List ByteArray} (h : ∀ s ∈ ps, s.size ≤ 32) : ∀ x ∈ prsL ps, x.size ≤ 32 := fun x hx => by
  rw [prsL, List.mem_flatMap] at hx
  obtain ⟨s, hs, hx⟩ := hx
  rw [prs, prsTo, List.mem_map] at hx
  obtain ⟨i, _, rfl⟩ := hx
  exact Nat.le_trans two_size (h s hs)
/-- What stands behind the first rows and k pairs of the next. -/
def prK (ps : List ByteArray) (j k : Nat) (s : ByteArray) : List ByteArray := insL (prsL (ps.take j) ++ prsTo s k)
theorem prK_succ (ps : List ByteArray) (j k : Nat) (s : ByteArray) : prK ps j (k + 1) s = insB (prK ps j k s) (two s (k + 1)) := by
  rw [prK, prK, prsTo_succ, ← List.append_assoc, insL_snoc]
theorem prK_next {ps : List ByteArray} {j : Nat} {s : ByteArray} (t : ByteArray) (h : ps[j]? = some s) : prK ps (j + 1) 0 t = prK ps j (s.size - 1) s := by
  rw [prK, prK, prsL_take h, prs]; simp [prsTo]
theorem prK_end (ps : List ByteArray) (j : Nat) (t : ByteArray) (h : ps.length ≤ j) : prK ps j 0 t = insL (prsL ps) := by
  rw [prK, List.take_of_length_le h]; simp [prsTo]
theorem prK_len (ps : List ByteArray) (j k : Nat) (s : ByteArray) (h : ∀ s ∈ ps, s.size ≤ 32) (hp : ps.length ≤ 32) (hk : k ≤ 31) (hj : j < 32) : (prK ps j k s).length ≤ 992 := by
  have h1 := insL_len (prsL (ps.take j) ++ prsTo s k)
  have h2 := prsL_len (ps.take j) fun x hx => h x (List.mem_of_mem_take hx)
  rw [List.length_append, prsTo_length] at h1
  rw [List.length_take] at h2
  unfold prK
  have : min j ps.length * 31 ≤ 31 * 31 := Nat.mul_le_mul_right 31 (by omega)
  omega
theorem ordered_any (l : List ByteArray) (A : Option Addr) (c B : Nat) (w : World) (hl : l.length ≤ 1000000) (h : Own w B 9 (.slice A l.length c) (l.map Value.string)) :
    Calls Tryz.prog 142 #[.slice A l.length c] w fun e w' => e = .returned (.slice A (insL l).length c) ∧ Own w' B 9 (.slice A (insL l).length c) ((insL l).map Value.string) ∧ Below B w w' := by
  by_cases h0 : l.length = 0
  · have hnil : l = [] := List.eq_nil_of_length_eq_zero h0
    subst hnil
    have H := Lib.hid h
    clear h h0 hl
    go_enter Tryz.func142, Tryz.ntmps142
    go_wp2_with fail
    refine (Tryz.slices_Sort_string_none A c _).mono ?_
    rintro e w2 ⟨rfl, rfl⟩
    go_wp2_with fail
    refine (Tryz.slices_Compact_string_empty A c _).mono ?_
    rintro e w3 ⟨rfl, rfl⟩
    go_wp2_with fail
    go_ret
    exact ⟨rfl, H.out, Below.refl _ _⟩
  · obtain ⟨g, rfl, _⟩ := h.store (k := 0) (by rw [List.length_map]; omega)
    exact ordered_own l g c B w hl h
def rlA (ps : List ByteArray) : List ByteArray := insL (prsL ps)
def rlB (ps : List ByteArray) : List ByteArray := insL (prsL (flp ps))
theorem flp_size (ps : List ByteArray) : ∀ s ∈ flp ps, s.size = ps.length := fun s hs => by
  rw [flp, flpT, List.mem_map] at hs
  obtain ⟨x, _, rfl⟩ := hs
  rw [strOf_size, colL_len]
theorem rl_dim {ps : List ByteArray} (h : patOk ps = true) : (∀ s ∈ ps, s.size ≤ 32) ∧ ps.length ≤ 32 ∧ (∀ s ∈ flp ps, s.size ≤ 32) ∧ (flp ps).length ≤ 32 := by
  have hd := patOk_dim h
  refine ⟨fun s hs => by rw [(patOk_row h hs).2]; exact hd.2.2, hd.1.2, fun s hs => by rw [flp_size ps s hs]; exact hd.1.2, by rw [flp, flpT_len]; exact hd.2.2⟩
theorem rl_ok {ps : List ByteArray} (hz : ∀ s ∈ ps, s.size ≤ 32) (hl : ps.length ≤ 32) : (insL (prsL ps)).length ≤ 1000 ∧ ∀ x ∈ insL (prsL ps), x.size ≤ 400 := by
  have h1 := insL_len (prsL ps)
  have h2 := prsL_len ps hz
  have : ps.length * 31 ≤ 32 * 31 := Nat.mul_le_mul_right 31 hl
  exact ⟨by omega, fun x hx => Nat.le_trans (prsL_size hz x ((insL_mem _ _).1 hx)) (by omega)⟩
set_option maxHeartbeats 1000000 in
theorem iRules_yes (ps : List ByteArray) (A : Option Addr) (c B : Nat) (w : World) (hB : B ≤ w.heap.size) (hok : patOk ps = true) (hrd : Rds w B A (ps.map Value.string)) :
    Calls Tryz.prog 108 #[.slice A ps.length c] w fun e w' => ∃ A1 c1 A2 c2, e = .returned (.tuple #[.slice A1 (rlA ps).length c1, .slice A2 (rlB ps).length c2]) ∧ Own w' w.heap.size 9 (.slice A1 (rlA ps).length c1) ((rlA ps).map Value.string) ∧ Own w' w.heap.size 9 (.slice A2 (rlB ps).length c2) ((rlB ps).map Value.string) ∧ Below w.heap.size w w' := by
  obtain ⟨hz, hl, hzf, hlf⟩ := rl_dim hok
  have hm9 : maxLen = maxLen := rfl
  have hpo := iPatchOk_any ps A c B w (by omega) (fun s hs => by have := hz s hs; unfold maxLen; omega) hrd
  rw [hok] at hpo
  have hpl := prsL_len ps hz
  have hplf := prsL_len (flp ps) hzf
  have hb1 : ps.length * 31 ≤ 32 * 31 := Nat.mul_le_mul_right 31 hl
  have hb2 : (flp ps).length * 31 ≤ 32 * 31 := Nat.mul_le_mul_right 31 hlf
  have HPO := Lib.hid hpo; have HRD := Lib.hid hrd; have HOK := Lib.hid hok; have HZ := Lib.hid hz; have HZF := Lib.hid hzf
  clear hpo hrd hok hz hzf
  go_enter Tryz.func108, Tryz.ntmps108
  go_wp2_with fail
  refine HPO.out.mono ?_
  rintro e w0 ⟨rfl, rfl⟩
  go_wp2_with fail
  refine (pairsOf_any ps A c B w hB (by omega) (fun s hs => by have := HZ.out s hs; unfold maxLen; omega) (by omega) HRD.out).mono ?_
  rintro e w1 ⟨A1, c1, rfl, o1, b1⟩
  have z1 := b1.size
  go_wp2_with fail
  refine (ordered_any (prsL ps) A1 c1 _ w1 (by omega) o1).mono ?_
  rintro e w2 ⟨rfl, o2, b2⟩
  have z2 := b2.size
  have hr2 := HRD.out.below (b1.trans b2) hB
  have HO2 := Lib.hid o2
  clear o1 o2
  go_wp2_with fail
  refine (iFlip_yes ps A c B w2 (by omega) HOK.out hr2).mono ?_
  rintro e w3 ⟨g3, c3, rfl, o3, b3⟩
  have z3 := b3.size
  go_wp2_with fail
  refine (pairsOf_any (flp ps) _ c3 _ w3 (Nat.le_refl _) (by omega) (fun s hs => by have := HZF.out s hs; unfold maxLen; omega) (by omega) o3.reads).mono ?_
  rintro e w4 ⟨A4, c4, rfl, o4, b4⟩
  have z4 := b4.size
  go_wp2_with fail
  refine (ordered_any (prsL (flp ps)) A4 c4 _ w4 (by omega) o4).mono ?_
  rintro e w5 ⟨rfl, o5, b5⟩
  have ho2 := (HO2.out.below b3).below (b4.trans b5)
  have HO2' := Lib.hid ho2; have HO5 := Lib.hid o5
  clear ho2 o5 o3 o4
  go_wp2_with fail
  go_ret2
  exact ⟨A1, c1, A4, c4, rfl, HO2'.out, HO5.out.lower (by omega), ((b1.trans b2).trans (b3.mono (by omega))).trans ((b4.trans b5).mono (by omega))⟩
def rlnV (ps : List ByteArray) : ByteArray := if patOk ps = true then orD (strOf (jnS 46 (rlA ps))) ++ { data := #[32] } ++ orD (strOf (jnS 46 (rlB ps))) else { data := #[110, 111, 110, 101] }
theorem orD_size {s : ByteArray} {m : Nat} (h : s.size ≤ m) (hm : 1 ≤ m) : (orD s).size ≤ m := by
  unfold orD; split
  · exact hm
  · exact h
set_option maxHeartbeats 1000000 in
theorem iRln_any (ps : List ByteArray) (A : Option Addr) (c B : Nat) (w : World) (hB : B ≤ w.heap.size) (hn : ps.length ≤ 4294967296) (hsz : ∀ s ∈ ps, s.size ≤ maxLen) (hrd : Rds w B A (ps.map Value.string)) :
    Calls Tryz.prog 56 #[.slice A ps.length c] w fun e w' => e = .returned (.string (rlnV ps)) ∧ Below w.heap.size w w' := by
  have hpo := iPatchOk_any ps A c B w hn hsz hrd
  cases hok : patOk ps
  · rw [hok] at hpo
    have hv : rlnV ps = { data := #[110, 111, 110, 101] } := by rw [rlnV, hok]; rfl
    rw [hv]
    have HPO := Lib.hid hpo
    clear hpo hok hv hsz hrd
    go_enter Tryz.func56, Tryz.ntmps56
    go_wp2_with fail
    refine HPO.out.mono ?_
    rintro e w0 ⟨rfl, rfl⟩
    go_wp2_with fail
    go_ret
    exact ⟨rfl, Below.refl _ _⟩
  · rw [hok] at hpo
    have hv : rlnV ps = orD (strOf (jnS 46 (rlA ps))) ++ { data := #[32] } ++ orD (strOf (jnS 46 (rlB ps))) := by rw [rlnV, hok]; rfl
    rw [hv]
    obtain ⟨hz, hl, hzf, hlf⟩ := rl_dim hok
    have ha := rl_ok hz hl
    have hb := rl_ok hzf hlf
    have hja := js_len 46 (rlA ps) ha.2
    have hjb := js_len 46 (rlB ps) hb.2
    have hla : (rlA ps).length ≤ 1000 := ha.1
    have hlb : (rlB ps).length ≤ 1000 := hb.1
    have ja : (orD (strOf (jnS 46 (rlA ps)))).size ≤ 401000 := orD_size (by rw [strOf_size]; omega) (by omega)
    have jb : (orD (strOf (jnS 46 (rlB ps)))).size ≤ 401000 := orD_size (by rw [strOf_size]; omega) (by omega)
    have HPO := Lib.hid hpo; have HRU := Lib.hid (iRules_yes ps A c B w hB hok hrd); have HA := Lib.hid ha.2; have HB := Lib.hid hb.2
    have oa := fun w => orDashD_any (strOf (jnS 46 (rlA ps))) w
    have ob := fun w => orDashD_any (strOf (jnS 46 (rlB ps))) w
    obtain ⟨x1, hx1⟩ : ∃ x, orD (strOf (jnS 46 (rlA ps))) = x := ⟨_, rfl⟩
    obtain ⟨x2, hx2⟩ : ∃ x, orD (strOf (jnS 46 (rlB ps))) = x := ⟨_, rfl⟩
    rw [hx1] at ja oa ⊢
    rw [hx2] at jb ob ⊢
    have HOA := Lib.hid oa; have HOB := Lib.hid ob
    have n1 : ¬ 9223372036854775807 < x1.size + 1 := by omega
    have n2 : ¬ 9223372036854775807 < x1.size + 1 + x2.size := by omega
    clear hpo hok hv hsz hrd hz hzf ha hb hja hjb oa ob hx1 hx2
    go_enter Tryz.func56, Tryz.ntmps56
    go_wp2_with fail
    refine HPO.out.mono ?_
    rintro e w0 ⟨rfl, rfl⟩
    go_wp2_with fail
    refine HRU.out.mono ?_
    rintro e w1 ⟨A1, c1, A2, c2, rfl, o1, o2, b1⟩
    have z1 := b1.size
    have HO1 := Lib.hid o1; have HO2 := Lib.hid o2
    clear o1 o2
    go_wp2_with fail
    refine (iJoinS_any 46 (rlA ps) A1 _ c1 _ _ rfl hla HA.out HO1.out).mono ?_
    rintro e w2 ⟨rfl, b2⟩
    have z2 := b2.size
    go_wp2_with fail
    refine (HOA.out _).mono ?_
    rintro e w3 ⟨rfl, rfl⟩
    go_wp2_with fail
    refine (iJoinS_any 46 (rlB ps) A2 _ c2 _ _ rfl hlb HB.out (HO2.out.below b2)).mono ?_
    rintro e w4 ⟨rfl, b4⟩
    go_wp2_with fail
    refine (HOB.out _).mono ?_
    rintro e w5 ⟨rfl, rfl⟩
    go_wp2_with fail
    go_ret
    exact ⟨rfl, (b1.trans (b2.mono z1)).trans (b4.mono (by omega))⟩
end Go.Proofs.YtbegecoocgkbiaaGreatDoor
