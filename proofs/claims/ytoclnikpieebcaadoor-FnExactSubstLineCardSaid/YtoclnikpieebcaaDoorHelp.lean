/- The laws' own helpers: sizes, copies, comparisons, marks. Each does what the plain function says. -/
import Derived.Test.YtoclnikpieebcaaDoorMem
namespace Go.Proofs.YtoclnikpieebcaaDoor
open Go.RowKit Go.ChangeShapes Go.WideShapes
set_option linter.unusedVariables false

def szGo : List ByteArray → Int → Int
  | [], l => l
  | s :: ss, l => if l - s.size < 0 then -1 else szGo ss (l - s.size)
/-- What szStringS returns. -/
def szS (ss : List ByteArray) (l : Int) : Int := if l - ss.length < 0 then -1 else szGo ss (l - ss.length)

theorem szGo_ok : ∀ (ss : List ByteArray) (l : Int), 0 ≤ szGo ss l → ∀ s ∈ ss, (s.size : Int) ≤ l
  | [], _, _, s, hs => by cases hs
  | t :: ss, l, h, s, hs => by
    simp only [szGo] at h
    split at h
    · omega
    · rcases List.mem_cons.1 hs with rfl | hs
      · omega
      · have := szGo_ok ss _ h s hs; omega
theorem szS_len {ss : List ByteArray} {l : Int} (h : ¬ szS ss l < 0) : (ss.length : Int) ≤ l := by
  unfold szS at h; split at h <;> omega
theorem szS_mem {ss : List ByteArray} {l : Int} (h : ¬ szS ss l < 0) : ∀ s ∈ ss, (s.size : Int) ≤ l := by
  intro s hs
  unfold szS at h
  split at h
  · omega
  · have := szGo_ok ss (l - ss.length) (by omega) s hs; omega

set_option maxHeartbeats 400000 in
theorem szStringS_any (ss : List ByteArray) (A : Option Addr) (n c : Nat) (l : Int) (w : World) (h0 : 0 ≤ l) (h1 : l ≤ 1048576) (h : StrsIn w A n c ss) :
    Calls Tryd.prog 9 #[.slice A n c, .int .i64 l] w fun e w' => e = .returned (.int .i64 (szS ss l)) ∧ Dr w w' := by
  obtain ⟨hl, hnc, hcm, hsz, hrd⟩ := h
  have HZ := Lib.hid hsz; clear hsz
  have hn63 : n ≤ 9223372036854775807 := by unfold maxLen at hcm; omega
  clear hcm
  by_cases h2 : l - n < 0
  · have hfin : szS ss l = -1 := by unfold szS; rw [hl, if_pos h2]
    rw [hfin]; clear hfin
    have HL := Lib.hid hl; clear hl
    go_enter Tryd.func9, Tryd.ntmps9
    go_wp2_with fail
    go_ret
    exact ⟨rfl, Dr.refl _⟩
  · have HF : Hid (szS ss l = szGo ss (l - n)) := by show szS ss l = _; unfold szS; rw [hl, if_neg h2]
    have HL := Lib.hid hl; clear hl
    go_enter Tryd.func9, Tryd.ntmps9
    go_wp2_with fail
    have h3 : 0 ≤ l - n := by omega
    have h4 : l - n ≤ 1048576 := by omega
    have HR := Lib.hid hrd; clear hrd
    go_loop [1, 5] (fun x i => ∃ k : Nat, ∃ m : Int, k ≤ n ∧ 0 ≤ m ∧ m ≤ 1048576 ∧ x = .int .i64 m ∧ i = .int .i64 k ∧ szGo (ss.drop k) m = szS ss l) (fun _ i => n - (intOf i).toNat)
    case atStart => exact ⟨0, l - n, by omega, h3, h4, rfl, rfl, by rw [HF.out]; rfl⟩
    case round =>
      obtain ⟨k, m, hk, hm, hm2, rfl, rfl, hg⟩ := hrel
      have HG := Lib.hid hg; clear hg
      by_cases hlt : k < n
      · obtain ⟨s, hs⟩ := some_of_lt (l := ss) (k := k) (by rw [HL.out]; exact hlt)
        obtain ⟨ad, rfl, hc⟩ := HR.out.at_ (map_at Value.string hs)
        have hs63 := HZ.out s (List.mem_of_getElem? hs)
        unfold maxLen at hs63
        have HD := Lib.hid (drop_at_list hs); clear hs
        by_cases hneg : m - s.size < 0
        · go_wp2_with fail
          go_ret
          exact ⟨ret_int (by rw [← HG.out, HD.out, szGo, if_pos hneg]), Dr.refl _⟩
        · go_wp2_with fail
          go_round
          case rel => exact ⟨k + 1, m - s.size, by omega, by omega, by omega, rfl, by go_num, by rw [← HG.out, HD.out, szGo, if_neg hneg]⟩
          case measure => simp [intOf]; omega
      · go_wp2_with fail
        go_ret
        exact ⟨ret_int (by rw [← HG.out, List.drop_eq_nil_of_le (by rw [HL.out]; omega)]; rfl), Dr.refl _⟩

theorem info_string : (Tryd.prog.info? 9).map (fun i => (i.zero, i.size, i.bytes)) = some (some (.string ByteArray.empty), 1, 16) := by kernel_rfl
theorem info_int : (Tryd.prog.info? 3).map (fun i => (i.zero, i.size, i.bytes)) = some (some (.int .i64 0), 1, 8) := by kernel_rfl

set_option maxHeartbeats 400000 in
theorem toStringS_any (ss : List ByteArray) (A : Option Addr) (n c : Nat) (w : World) (hn : n ≤ 1048576) (h : StrsIn w A n c ss) :
    Calls Tryd.prog 18 #[.slice A n c] w fun e w' => ∃ A' c', e = .returned (.slice A' n c') ∧ Own w' w.heap.size 9 (.slice A' n c') (ss.map Value.string) ∧ Below w.heap.size w w' := by
  obtain ⟨hl, hnc, _, _, hrd⟩ := h
  have hmk := run_make_row' (P := Tryd.prog) 22 9 _ 16 Tryd.underlying22 info_string rfl .i64 .i64 n (by omega) (by omega)
  have HL := Lib.hid hl; clear hl
  have HR := Lib.hid hrd; clear hrd
  go_enter Tryd.func18, Tryd.ntmps18
  go_wp2_with fail
  go_loopw [4] (fun i wr => ∃ k : Nat, k ≤ n ∧ i = .int .i64 k ∧ Own wr w.heap.size 9 (.slice (some ⟨w.heap.size, 0, none⟩) n n) ((ss.map Value.string).take k ++ List.replicate ((ss.map Value.string).length - k) (Value.string ByteArray.empty)) ∧ Below w.heap.size w wr) (fun i _ => n - (intOf i).toNat)
  case atStart => exact ⟨0, by omega, rfl, by rw [List.length_map, HL.out]; exact Own.made (Nat.le_refl _) (by unfold maxLen; omega), (Below.refl _ _).alloc (Nat.le_refl _) _⟩
  case round =>
    obtain ⟨k, hk, rfl, hown, hbel⟩ := hrel
    by_cases hlt : k < n
    · obtain ⟨s, hs⟩ := some_of_lt (l := ss) (k := k) (by rw [HL.out]; exact hlt)
      have hs' := map_at Value.string hs
      obtain ⟨ad, rfl, hc⟩ := (HR.out.below hbel (Nat.le_refl _)).at_ hs'
      have hlen : ((ss.map Value.string).take k ++ List.replicate ((ss.map Value.string).length - k) (Value.string ByteArray.empty)).length = n := by simp [HL.out]; omega
      obtain ⟨g, hg, hBg, hgs, hcell, hfr, hst⟩ := hown.store (k := k) (by rw [hlen]; exact hlt)
      injection hg with hg
      injection hg with hg
      subst hg
      obtain ⟨old, hold⟩ := some_of_lt (l := ((ss.map Value.string).take k ++ List.replicate ((ss.map Value.string).length - k) (Value.string ByteArray.empty))) (k := k) (by rw [hlen]; exact hlt)
      rw [hold] at hcell
      have HST := Lib.hid (hst (.string s)); clear hst
      rw [copied_step _ _ hs'] at HST
      clear hs hs' hlen hown hold
      go_wp2_with fail
      go_roundw
      case rel => exact ⟨k + 1, by omega, by go_num, HST.out.1, hbel.trans HST.out.2.1⟩
      case measure => simp [intOf]; omega
    · have hkn : k = n := by omega
      subst hkn
      go_wp2_with fail
      go_ret
      refine ⟨_, _, rfl, ?_, hbel⟩
      have h1 : (ss.map Value.string).take k = ss.map Value.string := List.take_of_length_le (by rw [List.length_map, HL.out]; exact Nat.le_refl _)
      have h2 : (ss.map Value.string).length - k = 0 := by rw [List.length_map, HL.out]; omega
      rwa [h1, h2, List.replicate_zero, List.append_nil] at hown
set_option maxHeartbeats 400000 in
theorem eqStringS_any (xs ys : List ByteArray) (A A' : Option Addr) (c c' B B' : Nat) (w : World) (hx : Rds w B A (xs.map Value.string)) (hy : Rds w B' A' (ys.map Value.string)) (hn : xs.length ≤ 4294967296) (hm : ys.length ≤ 4294967296) :
    Calls Tryd.prog 27 #[.slice A xs.length c, .slice A' ys.length c'] w fun e w' => e = .returned (.bool (decide (xs = ys))) ∧ Dr w w' := by
  have HX := Lib.hid hx; clear hx
  have HY := Lib.hid hy; clear hy
  by_cases hl : xs.length = ys.length
  · have hb : ((xs.length : Int) != (ys.length : Int)) = false := by simp [hl]
    have hl1 : xs.length ≤ ys.length := by omega
    have hl2 : ys.length ≤ xs.length := by omega
    clear hl
    go_enter Tryd.func27, Tryd.ntmps27
    go_wp2_with fail
    go_loopw [5] (fun i wr => ∃ k : Nat, k ≤ xs.length ∧ i = .int .i64 k ∧ decide (xs.drop k = ys.drop k) = decide (xs = ys) ∧ Dr w wr) (fun i _ => xs.length - (intOf i).toNat)
    case atStart => exact ⟨0, by omega, rfl, rfl, Dr.refl _⟩
    case round =>
      obtain ⟨k, hk, rfl, hg, hd⟩ := hrel
      have HG := Lib.hid hg; clear hg
      by_cases hlt : k < xs.length
      · obtain ⟨x, hxk⟩ := some_of_lt (l := xs) (k := k) hlt
        obtain ⟨y, hyk⟩ := some_of_lt (l := ys) (k := k) (by omega)
        obtain ⟨ad, rfl, hc⟩ := (HX.out.dr hd).at_ (map_at Value.string hxk)
        obtain ⟨ad', rfl, hc'⟩ := (HY.out.dr hd).at_ (map_at Value.string hyk)
        have HDX := Lib.hid (drop_at_list hxk); clear hxk
        have HDY := Lib.hid (drop_at_list hyk); clear hyk
        have h1 : (k : Int) < xs.length := by omega
        have h2 : (k : Int) < ys.length := by omega
        by_cases hxy : x = y
        · subst hxy
          go_wp2_with fail
          go_quiet (fail)
          go_wp2_with fail
          go_roundw
          case rel => exact ⟨k + 1, by omega, by go_num, by rw [← HG.out, HDX.out, HDY.out]; simp, hd.drewN _⟩
          case measure => simp [intOf]; omega
        · have hne := str_ne hxy
          have HN := Lib.hid hxy; clear hxy
          go_wp2_with fail
          go_quiet (fail)
          go_wp2_with fail
          go_ret
          exact ⟨ret_bool (by rw [← HG.out, HDX.out, HDY.out]; simp [HN.out]), hd.drewN _⟩
      · go_wp2_with fail
        go_ret
        exact ⟨ret_bool (by rw [← HG.out, List.drop_eq_nil_of_le (by omega), List.drop_eq_nil_of_le (by omega)]; simp), hd⟩
  · have hb : ((xs.length : Int) != (ys.length : Int)) = true := by simp; omega
    have HF : Hid (decide (xs = ys) = false) := by
      show decide (xs = ys) = false
      simp; rintro rfl; exact hl rfl
    clear hl
    go_enter Tryd.func27, Tryd.ntmps27
    go_wp2_with fail
    go_ret
    exact ⟨ret_bool HF.out.symm, Dr.refl _⟩
theorem eqStringS_same (xs : List ByteArray) (A A' : Option Addr) (c c' B B' : Nat) (w : World) (hx : Rds w B A (xs.map Value.string)) (hy : Rds w B' A' (xs.map Value.string)) (hn : xs.length ≤ 4294967296) :
    Calls Tryd.prog 27 #[.slice A xs.length c, .slice A' xs.length c'] w fun e w' => e = .returned (.bool true) ∧ Dr w w' :=
  (eqStringS_any xs xs A A' c c' B B' w hx hy hn hn).mono fun _ _ ⟨he, hd⟩ => ⟨by rw [he, decide_eq_true rfl], hd⟩
/-- The marks from k on. -/
def marks (k : Int) : Nat → List Int
  | 0 => []
  | n + 1 => k :: marks (k + 1) n
theorem marks_length : ∀ (n : Nat) (k : Int), (marks k n).length = n
  | 0, _ => rfl
  | n + 1, k => by simp [marks, marks_length n]
theorem marks_at : ∀ (n : Nat) (k : Int) (i : Nat), i < n → (marks k n)[i]? = some (k + i)
  | 0, _, _, h => by omega
  | n + 1, k, 0, _ => by simp [marks]
  | n + 1, k, i + 1, h => by
    simp only [marks, List.getElem?_cons_succ]
    rw [marks_at n (k + 1) i (by omega)]
    congr 1; omega
theorem mark_step (xs : List Int) (m : Int) (k : Nat) (hlt : k < xs.length) : ((marks m xs.length).take k ++ xs.drop k).set k (m + k) = (marks m xs.length).take (k + 1) ++ xs.drop (k + 1) := by
  have hl : ((marks m xs.length).take k).length = k := by simp [marks_length]; omega
  rw [List.set_append_right _ _ (by omega), hl, Nat.sub_self, List.take_add_one, marks_at _ _ _ hlt, List.drop_eq_getElem_cons hlt, List.set_cons_zero]
  rw [Option.toList_some, List.append_assoc, List.singleton_append]

end Go.Proofs.YtoclnikpieebcaaDoor
