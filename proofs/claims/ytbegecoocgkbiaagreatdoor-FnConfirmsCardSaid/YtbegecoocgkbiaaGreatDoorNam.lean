/- NamedSubst, both, walked: the seven names. Asks the shelf's text (strings.Split). No condition but the bounds. Printed by a small program. -/
import Derived.Test.YtbegecoocgkbiaaGreatDoorPsu
namespace Go.Proofs.YtbegecoocgkbiaaGreatDoor
open Go.RowKit
set_option linter.unusedVariables false

/-- The text that a name stands for. -/
def nmT (s : ByteArray) : ByteArray :=
  if s = { data := #[102, 105, 98, 111, 110, 97, 99, 99, 105] } then { data := #[97, 98, 44, 97] } else
  if s = { data := #[116, 104, 117, 101] } then { data := #[97, 98, 44, 98, 97] } else
  if s = { data := #[100, 111, 117, 98, 108, 105, 110, 103] } then { data := #[97, 98, 44, 97, 97] } else
  if s = { data := #[116, 114, 105, 98, 111, 110, 97, 99, 99, 105] } then { data := #[97, 98, 44, 97, 99, 44, 97] } else
  if s = { data := #[115, 105, 108, 118, 101, 114] } then { data := #[97, 97, 98, 44, 97] } else
  if s = { data := #[115, 113, 117, 97, 114, 101, 102, 114, 101, 101] } then { data := #[97, 98, 99, 44, 97, 99, 44, 98] } else
  if s = { data := #[114, 117, 100, 105, 110] } then { data := #[97, 98, 44, 97, 99, 44, 100, 98, 44, 100, 99] } else
  { data := #[] }
set_option maxRecDepth 4000 in
set_option maxHeartbeats 2000000 in
theorem iNamed_any (s : ByteArray) (w : World) (hml : MlS w) :
    Calls Tryz.prog 5 #[.string s] w fun e w' => ∃ A c, e = .returned (.tuple #[.agg #[.slice A (psL (nmT s)).length c], .bool (psV (nmT s)).isSome]) ∧ Own w' w.heap.size 9 (.slice A (psL (nmT s)).length c) ((psL (nmT s)).map Value.string) ∧ Below w.heap.size w w' := by
  have bA : Below w.heap.size w (w.alloc (.cells #[.slice none 0 0] 25)) := (Below.refl _ _).alloc (Nat.le_refl _) _
  have h0 := heap_alloc_new w (.cells #[.slice none 0 0] 25)
  have z0 : (w.alloc (.cells #[.slice none 0 0] 25)).heap.size = w.heap.size + 1 := by simp
  have hps := fun (t : ByteArray) (ht : t.size ≤ 1048576) => iParseSubst_any t ht _ (hml.below bA)
  rw [z0] at hps
  have HPS := Lib.hid hps; have H0 := Lib.hid h0; have BA := Lib.hid bA; have Z0 := Lib.hid z0
  clear hps h0 bA z0
  by_cases h1 : s = { data := #[102, 105, 98, 111, 110, 97, 99, 99, 105] }
  · have e1 : (s.toList == [102, 105, 98, 111, 110, 97, 99, 99, 105]) = true := by rw [h1, ByteArray.toList_eq]; rfl
    have hn : nmT s = { data := #[97, 98, 44, 97] } := by unfold nmT; simp only [if_pos h1]; try rfl
    have hc := HPS.out { data := #[97, 98, 44, 97] } (by decide)
    rw [hn]
    obtain ⟨V, hV⟩ : ∃ V, psL { data := #[97, 98, 44, 97] } = V := ⟨_, rfl⟩
    obtain ⟨b, hb⟩ : ∃ b, (psV { data := #[97, 98, 44, 97] }).isSome = b := ⟨_, rfl⟩
    rw [hV, hb] at hc ⊢
    have HC := Lib.hid hc
    clear hc hn hV hb
    clear h1
    go_enter Tryz.func5, Tryz.ntmps5
    go_wp2_with (go_at_call 58; refine HC.out.mono ?_; rintro e w2 ⟨A, c, rfl, o2, b2⟩; have q1 := (b2.block w.heap.size (by omega)).trans H0.out; have k1 := cell_of_row _ _ 0 _ _ (0, 0) q1; have f1 := frozen_of_row _ _ 0 _ _ q1)
    have z2 := b2.size
    have hw2 : Below w.heap.size w w2 := BA.out.trans (b2.mono (by omega))
    refine bodyPost_ret (results_cell_tmp_row rfl _ _ w.heap.size 25 _ (0, 0) _ rfl (box_set (k := 0) q1 (.slice A V.length c)) Tryz.underlying25 rfl (by kernel_rfl)) rfl ?_
    exact ⟨A, c, rfl, (o2.far_set (g := w.heap.size) (k := 0) (by omega) (.slice A V.length c)).lower (by omega), hw2.setCell (Nat.le_refl _) _⟩
  have e1 : (s.toList == [102, 105, 98, 111, 110, 97, 99, 99, 105]) = false := by have := str_ne h1; rwa [show ({ data := #[102, 105, 98, 111, 110, 97, 99, 99, 105] } : ByteArray).toList = [102, 105, 98, 111, 110, 97, 99, 99, 105] from by rw [ByteArray.toList_eq]] at this
  by_cases h2 : s = { data := #[116, 104, 117, 101] }
  · have e2 : (s.toList == [116, 104, 117, 101]) = true := by rw [h2, ByteArray.toList_eq]; rfl
    have hn : nmT s = { data := #[97, 98, 44, 98, 97] } := by unfold nmT; simp only [if_neg h1, if_pos h2]; try rfl
    have hc := HPS.out { data := #[97, 98, 44, 98, 97] } (by decide)
    rw [hn]
    obtain ⟨V, hV⟩ : ∃ V, psL { data := #[97, 98, 44, 98, 97] } = V := ⟨_, rfl⟩
    obtain ⟨b, hb⟩ : ∃ b, (psV { data := #[97, 98, 44, 98, 97] }).isSome = b := ⟨_, rfl⟩
    rw [hV, hb] at hc ⊢
    have HC := Lib.hid hc
    clear hc hn hV hb
    clear h1 h2
    go_enter Tryz.func5, Tryz.ntmps5
    go_wp2_with (go_at_call 58; refine HC.out.mono ?_; rintro e w2 ⟨A, c, rfl, o2, b2⟩; have q1 := (b2.block w.heap.size (by omega)).trans H0.out; have k1 := cell_of_row _ _ 0 _ _ (0, 0) q1; have f1 := frozen_of_row _ _ 0 _ _ q1)
    have z2 := b2.size
    have hw2 : Below w.heap.size w w2 := BA.out.trans (b2.mono (by omega))
    refine bodyPost_ret (results_cell_tmp_row rfl _ _ w.heap.size 25 _ (0, 0) _ rfl (box_set (k := 0) q1 (.slice A V.length c)) Tryz.underlying25 rfl (by kernel_rfl)) rfl ?_
    exact ⟨A, c, rfl, (o2.far_set (g := w.heap.size) (k := 0) (by omega) (.slice A V.length c)).lower (by omega), hw2.setCell (Nat.le_refl _) _⟩
  have e2 : (s.toList == [116, 104, 117, 101]) = false := by have := str_ne h2; rwa [show ({ data := #[116, 104, 117, 101] } : ByteArray).toList = [116, 104, 117, 101] from by rw [ByteArray.toList_eq]] at this
  by_cases h3 : s = { data := #[100, 111, 117, 98, 108, 105, 110, 103] }
  · have e3 : (s.toList == [100, 111, 117, 98, 108, 105, 110, 103]) = true := by rw [h3, ByteArray.toList_eq]; rfl
    have hn : nmT s = { data := #[97, 98, 44, 97, 97] } := by unfold nmT; simp only [if_neg h1, if_neg h2, if_pos h3]; try rfl
    have hc := HPS.out { data := #[97, 98, 44, 97, 97] } (by decide)
    rw [hn]
    obtain ⟨V, hV⟩ : ∃ V, psL { data := #[97, 98, 44, 97, 97] } = V := ⟨_, rfl⟩
    obtain ⟨b, hb⟩ : ∃ b, (psV { data := #[97, 98, 44, 97, 97] }).isSome = b := ⟨_, rfl⟩
    rw [hV, hb] at hc ⊢
    have HC := Lib.hid hc
    clear hc hn hV hb
    clear h1 h2 h3
    go_enter Tryz.func5, Tryz.ntmps5
    go_wp2_with (go_at_call 58; refine HC.out.mono ?_; rintro e w2 ⟨A, c, rfl, o2, b2⟩; have q1 := (b2.block w.heap.size (by omega)).trans H0.out; have k1 := cell_of_row _ _ 0 _ _ (0, 0) q1; have f1 := frozen_of_row _ _ 0 _ _ q1)
    have z2 := b2.size
    have hw2 : Below w.heap.size w w2 := BA.out.trans (b2.mono (by omega))
    refine bodyPost_ret (results_cell_tmp_row rfl _ _ w.heap.size 25 _ (0, 0) _ rfl (box_set (k := 0) q1 (.slice A V.length c)) Tryz.underlying25 rfl (by kernel_rfl)) rfl ?_
    exact ⟨A, c, rfl, (o2.far_set (g := w.heap.size) (k := 0) (by omega) (.slice A V.length c)).lower (by omega), hw2.setCell (Nat.le_refl _) _⟩
  have e3 : (s.toList == [100, 111, 117, 98, 108, 105, 110, 103]) = false := by have := str_ne h3; rwa [show ({ data := #[100, 111, 117, 98, 108, 105, 110, 103] } : ByteArray).toList = [100, 111, 117, 98, 108, 105, 110, 103] from by rw [ByteArray.toList_eq]] at this
  by_cases h4 : s = { data := #[116, 114, 105, 98, 111, 110, 97, 99, 99, 105] }
  · have e4 : (s.toList == [116, 114, 105, 98, 111, 110, 97, 99, 99, 105]) = true := by rw [h4, ByteArray.toList_eq]; rfl
    have hn : nmT s = { data := #[97, 98, 44, 97, 99, 44, 97] } := by unfold nmT; simp only [if_neg h1, if_neg h2, if_neg h3, if_pos h4]; try rfl
    have hc := HPS.out { data := #[97, 98, 44, 97, 99, 44, 97] } (by decide)
    rw [hn]
    obtain ⟨V, hV⟩ : ∃ V, psL { data := #[97, 98, 44, 97, 99, 44, 97] } = V := ⟨_, rfl⟩
    obtain ⟨b, hb⟩ : ∃ b, (psV { data := #[97, 98, 44, 97, 99, 44, 97] }).isSome = b := ⟨_, rfl⟩
    rw [hV, hb] at hc ⊢
    have HC := Lib.hid hc
    clear hc hn hV hb
    clear h1 h2 h3 h4
    go_enter Tryz.func5, Tryz.ntmps5
    go_wp2_with (go_at_call 58; refine HC.out.mono ?_; rintro e w2 ⟨A, c, rfl, o2, b2⟩; have q1 := (b2.block w.heap.size (by omega)).trans H0.out; have k1 := cell_of_row _ _ 0 _ _ (0, 0) q1; have f1 := frozen_of_row _ _ 0 _ _ q1)
    have z2 := b2.size
    have hw2 : Below w.heap.size w w2 := BA.out.trans (b2.mono (by omega))
    refine bodyPost_ret (results_cell_tmp_row rfl _ _ w.heap.size 25 _ (0, 0) _ rfl (box_set (k := 0) q1 (.slice A V.length c)) Tryz.underlying25 rfl (by kernel_rfl)) rfl ?_
    exact ⟨A, c, rfl, (o2.far_set (g := w.heap.size) (k := 0) (by omega) (.slice A V.length c)).lower (by omega), hw2.setCell (Nat.le_refl _) _⟩
  have e4 : (s.toList == [116, 114, 105, 98, 111, 110, 97, 99, 99, 105]) = false := by have := str_ne h4; rwa [show ({ data := #[116, 114, 105, 98, 111, 110, 97, 99, 99, 105] } : ByteArray).toList = [116, 114, 105, 98, 111, 110, 97, 99, 99, 105] from by rw [ByteArray.toList_eq]] at this
  by_cases h5 : s = { data := #[115, 105, 108, 118, 101, 114] }
  · have e5 : (s.toList == [115, 105, 108, 118, 101, 114]) = true := by rw [h5, ByteArray.toList_eq]; rfl
    have hn : nmT s = { data := #[97, 97, 98, 44, 97] } := by unfold nmT; simp only [if_neg h1, if_neg h2, if_neg h3, if_neg h4, if_pos h5]; try rfl
    have hc := HPS.out { data := #[97, 97, 98, 44, 97] } (by decide)
    rw [hn]
    obtain ⟨V, hV⟩ : ∃ V, psL { data := #[97, 97, 98, 44, 97] } = V := ⟨_, rfl⟩
    obtain ⟨b, hb⟩ : ∃ b, (psV { data := #[97, 97, 98, 44, 97] }).isSome = b := ⟨_, rfl⟩
    rw [hV, hb] at hc ⊢
    have HC := Lib.hid hc
    clear hc hn hV hb
    clear h1 h2 h3 h4 h5
    go_enter Tryz.func5, Tryz.ntmps5
    go_wp2_with (go_at_call 58; refine HC.out.mono ?_; rintro e w2 ⟨A, c, rfl, o2, b2⟩; have q1 := (b2.block w.heap.size (by omega)).trans H0.out; have k1 := cell_of_row _ _ 0 _ _ (0, 0) q1; have f1 := frozen_of_row _ _ 0 _ _ q1)
    have z2 := b2.size
    have hw2 : Below w.heap.size w w2 := BA.out.trans (b2.mono (by omega))
    refine bodyPost_ret (results_cell_tmp_row rfl _ _ w.heap.size 25 _ (0, 0) _ rfl (box_set (k := 0) q1 (.slice A V.length c)) Tryz.underlying25 rfl (by kernel_rfl)) rfl ?_
    exact ⟨A, c, rfl, (o2.far_set (g := w.heap.size) (k := 0) (by omega) (.slice A V.length c)).lower (by omega), hw2.setCell (Nat.le_refl _) _⟩
  have e5 : (s.toList == [115, 105, 108, 118, 101, 114]) = false := by have := str_ne h5; rwa [show ({ data := #[115, 105, 108, 118, 101, 114] } : ByteArray).toList = [115, 105, 108, 118, 101, 114] from by rw [ByteArray.toList_eq]] at this
  by_cases h6 : s = { data := #[115, 113, 117, 97, 114, 101, 102, 114, 101, 101] }
  · have e6 : (s.toList == [115, 113, 117, 97, 114, 101, 102, 114, 101, 101]) = true := by rw [h6, ByteArray.toList_eq]; rfl
    have hn : nmT s = { data := #[97, 98, 99, 44, 97, 99, 44, 98] } := by unfold nmT; simp only [if_neg h1, if_neg h2, if_neg h3, if_neg h4, if_neg h5, if_pos h6]; try rfl
    have hc := HPS.out { data := #[97, 98, 99, 44, 97, 99, 44, 98] } (by decide)
    rw [hn]
    obtain ⟨V, hV⟩ : ∃ V, psL { data := #[97, 98, 99, 44, 97, 99, 44, 98] } = V := ⟨_, rfl⟩
    obtain ⟨b, hb⟩ : ∃ b, (psV { data := #[97, 98, 99, 44, 97, 99, 44, 98] }).isSome = b := ⟨_, rfl⟩
    rw [hV, hb] at hc ⊢
    have HC := Lib.hid hc
    clear hc hn hV hb
    clear h1 h2 h3 h4 h5 h6
    go_enter Tryz.func5, Tryz.ntmps5
    go_wp2_with (go_at_call 58; refine HC.out.mono ?_; rintro e w2 ⟨A, c, rfl, o2, b2⟩; have q1 := (b2.block w.heap.size (by omega)).trans H0.out; have k1 := cell_of_row _ _ 0 _ _ (0, 0) q1; have f1 := frozen_of_row _ _ 0 _ _ q1)
    have z2 := b2.size
    have hw2 : Below w.heap.size w w2 := BA.out.trans (b2.mono (by omega))
    refine bodyPost_ret (results_cell_tmp_row rfl _ _ w.heap.size 25 _ (0, 0) _ rfl (box_set (k := 0) q1 (.slice A V.length c)) Tryz.underlying25 rfl (by kernel_rfl)) rfl ?_
    exact ⟨A, c, rfl, (o2.far_set (g := w.heap.size) (k := 0) (by omega) (.slice A V.length c)).lower (by omega), hw2.setCell (Nat.le_refl _) _⟩
  have e6 : (s.toList == [115, 113, 117, 97, 114, 101, 102, 114, 101, 101]) = false := by have := str_ne h6; rwa [show ({ data := #[115, 113, 117, 97, 114, 101, 102, 114, 101, 101] } : ByteArray).toList = [115, 113, 117, 97, 114, 101, 102, 114, 101, 101] from by rw [ByteArray.toList_eq]] at this
  by_cases h7 : s = { data := #[114, 117, 100, 105, 110] }
  · have e7 : (s.toList == [114, 117, 100, 105, 110]) = true := by rw [h7, ByteArray.toList_eq]; rfl
    have hn : nmT s = { data := #[97, 98, 44, 97, 99, 44, 100, 98, 44, 100, 99] } := by unfold nmT; simp only [if_neg h1, if_neg h2, if_neg h3, if_neg h4, if_neg h5, if_neg h6, if_pos h7]; try rfl
    have hc := HPS.out { data := #[97, 98, 44, 97, 99, 44, 100, 98, 44, 100, 99] } (by decide)
    rw [hn]
    obtain ⟨V, hV⟩ : ∃ V, psL { data := #[97, 98, 44, 97, 99, 44, 100, 98, 44, 100, 99] } = V := ⟨_, rfl⟩
    obtain ⟨b, hb⟩ : ∃ b, (psV { data := #[97, 98, 44, 97, 99, 44, 100, 98, 44, 100, 99] }).isSome = b := ⟨_, rfl⟩
    rw [hV, hb] at hc ⊢
    have HC := Lib.hid hc
    clear hc hn hV hb
    clear h1 h2 h3 h4 h5 h6 h7
    go_enter Tryz.func5, Tryz.ntmps5
    go_wp2_with (go_at_call 58; refine HC.out.mono ?_; rintro e w2 ⟨A, c, rfl, o2, b2⟩; have q1 := (b2.block w.heap.size (by omega)).trans H0.out; have k1 := cell_of_row _ _ 0 _ _ (0, 0) q1; have f1 := frozen_of_row _ _ 0 _ _ q1)
    have z2 := b2.size
    have hw2 : Below w.heap.size w w2 := BA.out.trans (b2.mono (by omega))
    refine bodyPost_ret (results_cell_tmp_row rfl _ _ w.heap.size 25 _ (0, 0) _ rfl (box_set (k := 0) q1 (.slice A V.length c)) Tryz.underlying25 rfl (by kernel_rfl)) rfl ?_
    exact ⟨A, c, rfl, (o2.far_set (g := w.heap.size) (k := 0) (by omega) (.slice A V.length c)).lower (by omega), hw2.setCell (Nat.le_refl _) _⟩
  have e7 : (s.toList == [114, 117, 100, 105, 110]) = false := by have := str_ne h7; rwa [show ({ data := #[114, 117, 100, 105, 110] } : ByteArray).toList = [114, 117, 100, 105, 110] from by rw [ByteArray.toList_eq]] at this
  have hn : nmT s = { data := #[] } := by unfold nmT; simp only [if_neg h1, if_neg h2, if_neg h3, if_neg h4, if_neg h5, if_neg h6, if_neg h7]; try rfl
  have hc := HPS.out { data := #[] } (by decide)
  rw [hn]
  obtain ⟨V, hV⟩ : ∃ V, psL { data := #[] } = V := ⟨_, rfl⟩
  obtain ⟨b, hb⟩ : ∃ b, (psV { data := #[] }).isSome = b := ⟨_, rfl⟩
  rw [hV, hb] at hc ⊢
  have HC := Lib.hid hc
  clear hc hn hV hb
  clear h1 h2 h3 h4 h5 h6 h7
  go_enter Tryz.func5, Tryz.ntmps5
  go_wp2_with (go_at_call 58; refine HC.out.mono ?_; rintro e w2 ⟨A, c, rfl, o2, b2⟩; have q1 := (b2.block w.heap.size (by omega)).trans H0.out; have k1 := cell_of_row _ _ 0 _ _ (0, 0) q1; have f1 := frozen_of_row _ _ 0 _ _ q1)
  have z2 := b2.size
  have hw2 : Below w.heap.size w w2 := BA.out.trans (b2.mono (by omega))
  refine bodyPost_ret (results_cell_tmp_row rfl _ _ w.heap.size 25 _ (0, 0) _ rfl (box_set (k := 0) q1 (.slice A V.length c)) Tryz.underlying25 rfl (by kernel_rfl)) rfl ?_
  exact ⟨A, c, rfl, (o2.far_set (g := w.heap.size) (k := 0) (by omega) (.slice A V.length c)).lower (by omega), hw2.setCell (Nat.le_refl _) _⟩
set_option maxRecDepth 4000 in
set_option maxHeartbeats 2000000 in
theorem sNamed_any (s : ByteArray) (w : World) :
    Calls Tryz.prog 139 #[.string s] w fun e w' => ∃ A c, e = .returned (.tuple #[.agg #[.slice A (psL (nmT s)).length c], .bool (psV (nmT s)).isSome]) ∧ Own w' w.heap.size 9 (.slice A (psL (nmT s)).length c) ((psL (nmT s)).map Value.string) ∧ Below w.heap.size w w' := by
  have bA : Below w.heap.size w (w.alloc (.cells #[.slice none 0 0] 25)) := (Below.refl _ _).alloc (Nat.le_refl _) _
  have h0 := heap_alloc_new w (.cells #[.slice none 0 0] 25)
  have z0 : (w.alloc (.cells #[.slice none 0 0] 25)).heap.size = w.heap.size + 1 := by simp
  have hps := fun (t : ByteArray) (ht : t.size ≤ 1048576) => sParseSubst_any t ht (w.alloc (.cells #[.slice none 0 0] 25))
  rw [z0] at hps
  have HPS := Lib.hid hps; have H0 := Lib.hid h0; have BA := Lib.hid bA; have Z0 := Lib.hid z0
  clear hps h0 bA z0
  by_cases h1 : s = { data := #[102, 105, 98, 111, 110, 97, 99, 99, 105] }
  · have e1 : (s.toList == [102, 105, 98, 111, 110, 97, 99, 99, 105]) = true := by rw [h1, ByteArray.toList_eq]; rfl
    have hn : nmT s = { data := #[97, 98, 44, 97] } := by unfold nmT; simp only [if_pos h1]; try rfl
    have hc := HPS.out { data := #[97, 98, 44, 97] } (by decide)
    rw [hn]
    obtain ⟨V, hV⟩ : ∃ V, psL { data := #[97, 98, 44, 97] } = V := ⟨_, rfl⟩
    obtain ⟨b, hb⟩ : ∃ b, (psV { data := #[97, 98, 44, 97] }).isSome = b := ⟨_, rfl⟩
    rw [hV, hb] at hc ⊢
    have HC := Lib.hid hc
    clear hc hn hV hb
    clear h1
    go_enter Tryz.func139, Tryz.ntmps139
    go_wp2_with (go_at_call 162; refine HC.out.mono ?_; rintro e w2 ⟨A, c, rfl, o2, b2⟩; have q1 := (b2.block w.heap.size (by omega)).trans H0.out; have k1 := cell_of_row _ _ 0 _ _ (0, 0) q1; have f1 := frozen_of_row _ _ 0 _ _ q1)
    have z2 := b2.size
    have hw2 : Below w.heap.size w w2 := BA.out.trans (b2.mono (by omega))
    refine bodyPost_ret (results_cell_tmp_row rfl _ _ w.heap.size 25 _ (0, 0) _ rfl (box_set (k := 0) q1 (.slice A V.length c)) Tryz.underlying25 rfl (by kernel_rfl)) rfl ?_
    exact ⟨A, c, rfl, (o2.far_set (g := w.heap.size) (k := 0) (by omega) (.slice A V.length c)).lower (by omega), hw2.setCell (Nat.le_refl _) _⟩
  have e1 : (s.toList == [102, 105, 98, 111, 110, 97, 99, 99, 105]) = false := by have := str_ne h1; rwa [show ({ data := #[102, 105, 98, 111, 110, 97, 99, 99, 105] } : ByteArray).toList = [102, 105, 98, 111, 110, 97, 99, 99, 105] from by rw [ByteArray.toList_eq]] at this
  by_cases h2 : s = { data := #[116, 104, 117, 101] }
  · have e2 : (s.toList == [116, 104, 117, 101]) = true := by rw [h2, ByteArray.toList_eq]; rfl
    have hn : nmT s = { data := #[97, 98, 44, 98, 97] } := by unfold nmT; simp only [if_neg h1, if_pos h2]; try rfl
    have hc := HPS.out { data := #[97, 98, 44, 98, 97] } (by decide)
    rw [hn]
    obtain ⟨V, hV⟩ : ∃ V, psL { data := #[97, 98, 44, 98, 97] } = V := ⟨_, rfl⟩
    obtain ⟨b, hb⟩ : ∃ b, (psV { data := #[97, 98, 44, 98, 97] }).isSome = b := ⟨_, rfl⟩
    rw [hV, hb] at hc ⊢
    have HC := Lib.hid hc
    clear hc hn hV hb
    clear h1 h2
    go_enter Tryz.func139, Tryz.ntmps139
    go_wp2_with (go_at_call 162; refine HC.out.mono ?_; rintro e w2 ⟨A, c, rfl, o2, b2⟩; have q1 := (b2.block w.heap.size (by omega)).trans H0.out; have k1 := cell_of_row _ _ 0 _ _ (0, 0) q1; have f1 := frozen_of_row _ _ 0 _ _ q1)
    have z2 := b2.size
    have hw2 : Below w.heap.size w w2 := BA.out.trans (b2.mono (by omega))
    refine bodyPost_ret (results_cell_tmp_row rfl _ _ w.heap.size 25 _ (0, 0) _ rfl (box_set (k := 0) q1 (.slice A V.length c)) Tryz.underlying25 rfl (by kernel_rfl)) rfl ?_
    exact ⟨A, c, rfl, (o2.far_set (g := w.heap.size) (k := 0) (by omega) (.slice A V.length c)).lower (by omega), hw2.setCell (Nat.le_refl _) _⟩
  have e2 : (s.toList == [116, 104, 117, 101]) = false := by have := str_ne h2; rwa [show ({ data := #[116, 104, 117, 101] } : ByteArray).toList = [116, 104, 117, 101] from by rw [ByteArray.toList_eq]] at this
  by_cases h3 : s = { data := #[100, 111, 117, 98, 108, 105, 110, 103] }
  · have e3 : (s.toList == [100, 111, 117, 98, 108, 105, 110, 103]) = true := by rw [h3, ByteArray.toList_eq]; rfl
    have hn : nmT s = { data := #[97, 98, 44, 97, 97] } := by unfold nmT; simp only [if_neg h1, if_neg h2, if_pos h3]; try rfl
    have hc := HPS.out { data := #[97, 98, 44, 97, 97] } (by decide)
    rw [hn]
    obtain ⟨V, hV⟩ : ∃ V, psL { data := #[97, 98, 44, 97, 97] } = V := ⟨_, rfl⟩
    obtain ⟨b, hb⟩ : ∃ b, (psV { data := #[97, 98, 44, 97, 97] }).isSome = b := ⟨_, rfl⟩
    rw [hV, hb] at hc ⊢
    have HC := Lib.hid hc
    clear hc hn hV hb
    clear h1 h2 h3
    go_enter Tryz.func139, Tryz.ntmps139
    go_wp2_with (go_at_call 162; refine HC.out.mono ?_; rintro e w2 ⟨A, c, rfl, o2, b2⟩; have q1 := (b2.block w.heap.size (by omega)).trans H0.out; have k1 := cell_of_row _ _ 0 _ _ (0, 0) q1; have f1 := frozen_of_row _ _ 0 _ _ q1)
    have z2 := b2.size
    have hw2 : Below w.heap.size w w2 := BA.out.trans (b2.mono (by omega))
    refine bodyPost_ret (results_cell_tmp_row rfl _ _ w.heap.size 25 _ (0, 0) _ rfl (box_set (k := 0) q1 (.slice A V.length c)) Tryz.underlying25 rfl (by kernel_rfl)) rfl ?_
    exact ⟨A, c, rfl, (o2.far_set (g := w.heap.size) (k := 0) (by omega) (.slice A V.length c)).lower (by omega), hw2.setCell (Nat.le_refl _) _⟩
  have e3 : (s.toList == [100, 111, 117, 98, 108, 105, 110, 103]) = false := by have := str_ne h3; rwa [show ({ data := #[100, 111, 117, 98, 108, 105, 110, 103] } : ByteArray).toList = [100, 111, 117, 98, 108, 105, 110, 103] from by rw [ByteArray.toList_eq]] at this
  by_cases h4 : s = { data := #[116, 114, 105, 98, 111, 110, 97, 99, 99, 105] }
  · have e4 : (s.toList == [116, 114, 105, 98, 111, 110, 97, 99, 99, 105]) = true := by rw [h4, ByteArray.toList_eq]; rfl
    have hn : nmT s = { data := #[97, 98, 44, 97, 99, 44, 97] } := by unfold nmT; simp only [if_neg h1, if_neg h2, if_neg h3, if_pos h4]; try rfl
    have hc := HPS.out { data := #[97, 98, 44, 97, 99, 44, 97] } (by decide)
    rw [hn]
    obtain ⟨V, hV⟩ : ∃ V, psL { data := #[97, 98, 44, 97, 99, 44, 97] } = V := ⟨_, rfl⟩
    obtain ⟨b, hb⟩ : ∃ b, (psV { data := #[97, 98, 44, 97, 99, 44, 97] }).isSome = b := ⟨_, rfl⟩
    rw [hV, hb] at hc ⊢
    have HC := Lib.hid hc
    clear hc hn hV hb
    clear h1 h2 h3 h4
    go_enter Tryz.func139, Tryz.ntmps139
    go_wp2_with (go_at_call 162; refine HC.out.mono ?_; rintro e w2 ⟨A, c, rfl, o2, b2⟩; have q1 := (b2.block w.heap.size (by omega)).trans H0.out; have k1 := cell_of_row _ _ 0 _ _ (0, 0) q1; have f1 := frozen_of_row _ _ 0 _ _ q1)
    have z2 := b2.size
    have hw2 : Below w.heap.size w w2 := BA.out.trans (b2.mono (by omega))
    refine bodyPost_ret (results_cell_tmp_row rfl _ _ w.heap.size 25 _ (0, 0) _ rfl (box_set (k := 0) q1 (.slice A V.length c)) Tryz.underlying25 rfl (by kernel_rfl)) rfl ?_
    exact ⟨A, c, rfl, (o2.far_set (g := w.heap.size) (k := 0) (by omega) (.slice A V.length c)).lower (by omega), hw2.setCell (Nat.le_refl _) _⟩
  have e4 : (s.toList == [116, 114, 105, 98, 111, 110, 97, 99, 99, 105]) = false := by have := str_ne h4; rwa [show ({ data := #[116, 114, 105, 98, 111, 110, 97, 99, 99, 105] } : ByteArray).toList = [116, 114, 105, 98, 111, 110, 97, 99, 99, 105] from by rw [ByteArray.toList_eq]] at this
  by_cases h5 : s = { data := #[115, 105, 108, 118, 101, 114] }
  · have e5 : (s.toList == [115, 105, 108, 118, 101, 114]) = true := by rw [h5, ByteArray.toList_eq]; rfl
    have hn : nmT s = { data := #[97, 97, 98, 44, 97] } := by unfold nmT; simp only [if_neg h1, if_neg h2, if_neg h3, if_neg h4, if_pos h5]; try rfl
    have hc := HPS.out { data := #[97, 97, 98, 44, 97] } (by decide)
    rw [hn]
    obtain ⟨V, hV⟩ : ∃ V, psL { data := #[97, 97, 98, 44, 97] } = V := ⟨_, rfl⟩
    obtain ⟨b, hb⟩ : ∃ b, (psV { data := #[97, 97, 98, 44, 97] }).isSome = b := ⟨_, rfl⟩
    rw [hV, hb] at hc ⊢
    have HC := Lib.hid hc
    clear hc hn hV hb
    clear h1 h2 h3 h4 h5
    go_enter Tryz.func139, Tryz.ntmps139
    go_wp2_with (go_at_call 162; refine HC.out.mono ?_; rintro e w2 ⟨A, c, rfl, o2, b2⟩; have q1 := (b2.block w.heap.size (by omega)).trans H0.out; have k1 := cell_of_row _ _ 0 _ _ (0, 0) q1; have f1 := frozen_of_row _ _ 0 _ _ q1)
    have z2 := b2.size
    have hw2 : Below w.heap.size w w2 := BA.out.trans (b2.mono (by omega))
    refine bodyPost_ret (results_cell_tmp_row rfl _ _ w.heap.size 25 _ (0, 0) _ rfl (box_set (k := 0) q1 (.slice A V.length c)) Tryz.underlying25 rfl (by kernel_rfl)) rfl ?_
    exact ⟨A, c, rfl, (o2.far_set (g := w.heap.size) (k := 0) (by omega) (.slice A V.length c)).lower (by omega), hw2.setCell (Nat.le_refl _) _⟩
  have e5 : (s.toList == [115, 105, 108, 118, 101, 114]) = false := by have := str_ne h5; rwa [show ({ data := #[115, 105, 108, 118, 101, 114] } : ByteArray).toList = [115, 105, 108, 118, 101, 114] from by rw [ByteArray.toList_eq]] at this
  by_cases h6 : s = { data := #[115, 113, 117, 97, 114, 101, 102, 114, 101, 101] }
  · have e6 : (s.toList == [115, 113, 117, 97, 114, 101, 102, 114, 101, 101]) = true := by rw [h6, ByteArray.toList_eq]; rfl
    have hn : nmT s = { data := #[97, 98, 99, 44, 97, 99, 44, 98] } := by unfold nmT; simp only [if_neg h1, if_neg h2, if_neg h3, if_neg h4, if_neg h5, if_pos h6]; try rfl
    have hc := HPS.out { data := #[97, 98, 99, 44, 97, 99, 44, 98] } (by decide)
    rw [hn]
    obtain ⟨V, hV⟩ : ∃ V, psL { data := #[97, 98, 99, 44, 97, 99, 44, 98] } = V := ⟨_, rfl⟩
    obtain ⟨b, hb⟩ : ∃ b, (psV { data := #[97, 98, 99, 44, 97, 99, 44, 98] }).isSome = b := ⟨_, rfl⟩
    rw [hV, hb] at hc ⊢
    have HC := Lib.hid hc
    clear hc hn hV hb
    clear h1 h2 h3 h4 h5 h6
    go_enter Tryz.func139, Tryz.ntmps139
    go_wp2_with (go_at_call 162; refine HC.out.mono ?_; rintro e w2 ⟨A, c, rfl, o2, b2⟩; have q1 := (b2.block w.heap.size (by omega)).trans H0.out; have k1 := cell_of_row _ _ 0 _ _ (0, 0) q1; have f1 := frozen_of_row _ _ 0 _ _ q1)
    have z2 := b2.size
    have hw2 : Below w.heap.size w w2 := BA.out.trans (b2.mono (by omega))
    refine bodyPost_ret (results_cell_tmp_row rfl _ _ w.heap.size 25 _ (0, 0) _ rfl (box_set (k := 0) q1 (.slice A V.length c)) Tryz.underlying25 rfl (by kernel_rfl)) rfl ?_
    exact ⟨A, c, rfl, (o2.far_set (g := w.heap.size) (k := 0) (by omega) (.slice A V.length c)).lower (by omega), hw2.setCell (Nat.le_refl _) _⟩
  have e6 : (s.toList == [115, 113, 117, 97, 114, 101, 102, 114, 101, 101]) = false := by have := str_ne h6; rwa [show ({ data := #[115, 113, 117, 97, 114, 101, 102, 114, 101, 101] } : ByteArray).toList = [115, 113, 117, 97, 114, 101, 102, 114, 101, 101] from by rw [ByteArray.toList_eq]] at this
  by_cases h7 : s = { data := #[114, 117, 100, 105, 110] }
  · have e7 : (s.toList == [114, 117, 100, 105, 110]) = true := by rw [h7, ByteArray.toList_eq]; rfl
    have hn : nmT s = { data := #[97, 98, 44, 97, 99, 44, 100, 98, 44, 100, 99] } := by unfold nmT; simp only [if_neg h1, if_neg h2, if_neg h3, if_neg h4, if_neg h5, if_neg h6, if_pos h7]; try rfl
    have hc := HPS.out { data := #[97, 98, 44, 97, 99, 44, 100, 98, 44, 100, 99] } (by decide)
    rw [hn]
    obtain ⟨V, hV⟩ : ∃ V, psL { data := #[97, 98, 44, 97, 99, 44, 100, 98, 44, 100, 99] } = V := ⟨_, rfl⟩
    obtain ⟨b, hb⟩ : ∃ b, (psV { data := #[97, 98, 44, 97, 99, 44, 100, 98, 44, 100, 99] }).isSome = b := ⟨_, rfl⟩
    rw [hV, hb] at hc ⊢
    have HC := Lib.hid hc
    clear hc hn hV hb
    clear h1 h2 h3 h4 h5 h6 h7
    go_enter Tryz.func139, Tryz.ntmps139
    go_wp2_with (go_at_call 162; refine HC.out.mono ?_; rintro e w2 ⟨A, c, rfl, o2, b2⟩; have q1 := (b2.block w.heap.size (by omega)).trans H0.out; have k1 := cell_of_row _ _ 0 _ _ (0, 0) q1; have f1 := frozen_of_row _ _ 0 _ _ q1)
    have z2 := b2.size
    have hw2 : Below w.heap.size w w2 := BA.out.trans (b2.mono (by omega))
    refine bodyPost_ret (results_cell_tmp_row rfl _ _ w.heap.size 25 _ (0, 0) _ rfl (box_set (k := 0) q1 (.slice A V.length c)) Tryz.underlying25 rfl (by kernel_rfl)) rfl ?_
    exact ⟨A, c, rfl, (o2.far_set (g := w.heap.size) (k := 0) (by omega) (.slice A V.length c)).lower (by omega), hw2.setCell (Nat.le_refl _) _⟩
  have e7 : (s.toList == [114, 117, 100, 105, 110]) = false := by have := str_ne h7; rwa [show ({ data := #[114, 117, 100, 105, 110] } : ByteArray).toList = [114, 117, 100, 105, 110] from by rw [ByteArray.toList_eq]] at this
  have hn : nmT s = { data := #[] } := by unfold nmT; simp only [if_neg h1, if_neg h2, if_neg h3, if_neg h4, if_neg h5, if_neg h6, if_neg h7]
  have hv : psV { data := #[] } = none := psV_no (by rw [show splS 44 { data := #[] } = [strOf []] from rfl]; decide)
  rw [hn, psL, hv]
  have h0' := H0.out
  have k1 := cell_of_row _ _ 0 _ _ (0, 0) h0'
  have f1 := frozen_of_row _ _ 0 _ _ h0'
  clear hn hv h1 h2 h3 h4 h5 h6 h7
  go_enter Tryz.func139, Tryz.ntmps139
  go_wp2_with fail
  refine bodyPost_ret (results_cell_tmp_row rfl _ _ w.heap.size 25 _ (0, 0) _ rfl H0.out Tryz.underlying25 rfl (by kernel_rfl)) rfl ?_
  exact ⟨none, 0, rfl, Own.nil, BA.out⟩
end Go.Proofs.YtbegecoocgkbiaaGreatDoor
