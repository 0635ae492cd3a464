/- RightSpecial: how many factors have several letters behind them. Asks the shelf's text (strings.Contains; the sort). No condition but the bounds. -/
import Derived.Test.YtbegecoocgkbiaaGreatDoorCpl
import Derived.Test.YtbegecoocgkbiaaGreatDoorAvo
import Derived.Test.YtbegecoocgkbiaaGreatDoorM17
namespace Go.Proofs.YtbegecoocgkbiaaGreatDoor
open Go.RowKit
set_option linter.unusedVariables false

def abcdS (k : Nat) : ByteArray := ({ data := #[97, 98, 99, 100] } : ByteArray).extract k (k + 1)
/-- The letters that come behind f, among the first k. -/
def nbS (s f : ByteArray) : Nat → ByteArray
  | 0 => { data := #[] }
  | k + 1 => if hasF s (f ++ abcdS k) = true then nbS s f k ++ abcdS k else nbS s f k
theorem abcdS_size {k : Nat} (h : k < 4) : (abcdS k).size = 1 := by
  have e1 : ({ data := #[97, 98, 99, 100] } : ByteArray).size = 4 := rfl
  rw [abcdS, ByteArray.size_extract, e1]; omega
theorem nbS_size (s f : ByteArray) : ∀ k, k ≤ 4 → (nbS s f k).size ≤ k
  | 0, _ => Nat.le_refl 0
  | k + 1, h => by
    have h1 := nbS_size s f k (by omega)
    rw [nbS]
    split
    · rw [ByteArray.size_append, abcdS_size (by omega)]; omega
    · omega
set_option maxHeartbeats 2000000 in
theorem neigh_is (s f : ByteArray) (hs : s.size ≤ 400) (hf : f.size ≤ 400) (w : World) (hml : MlOk w) :
    Calls Tryz.prog 116 #[.string s, .string f, .bool true] w fun e w' => e = .returned (.string (nbS s f 4)) ∧ w = w' := by
  have hct := fun x => contains_any s x (by omega) w hml
  obtain ⟨R, hR⟩ : ∃ R, nbS s f 4 = R := ⟨_, rfl⟩
  rw [hR]
  have HCT := Lib.hid hct; have HR := Lib.hid hR
  clear hct hR hml
  go_enter Tryz.func116, Tryz.ntmps116
  go_wp2_with fail
  go_loop [7, 8, 9, 10, 11] (fun v _ _ _ i => ∃ k : Nat, k ≤ 4 ∧ i = .int .i64 k ∧ v = .string (nbS s f k)) (fun _ _ _ _ i => 5 - (intOf i).toNat)
  case atStart => exact ⟨0, by omega, rfl, rfl⟩
  case round =>
    obtain ⟨k, hk, rfl, rfl⟩ := hrel
    by_cases hlt : k < 4
    · have hlt2 : (k : Int) < 4 := by omega
      have hk0 : (0 : Int) ≤ (k : Int) := by omega
      have hz := abcdS_size hlt
      have hn := nbS_size s f k (by omega)
      have hnx : nbS s f (k + 1) = if hasF s (f ++ abcdS k) = true then nbS s f k ++ abcdS k else nbS s f k := rfl
      obtain ⟨x, hx⟩ : ∃ x, abcdS k = x := ⟨_, rfl⟩
      rw [hx] at hz hnx
      have hx2 : ({ data := #[97, 98, 99, 100] } : ByteArray).extract k (k + 1) = x := hx
      have e1 : ({ data := #[97, 98, 99, 100] } : ByteArray).size = 4 := rfl
      obtain ⟨y, hy⟩ : ∃ y, nbS s f k = y := ⟨_, rfl⟩
      rw [hy] at hn hnx ⊢
      have n1 : ¬ 9223372036854775807 < x.size + f.size := by omega
      have n2 : ¬ 9223372036854775807 < f.size + x.size := by omega
      have n3 : ¬ 9223372036854775807 < y.size + x.size := by omega
      have hc := HCT.out (f ++ x)
      cases hb : hasF s (f ++ x) with
      | true =>
        rw [hb] at hc
        rw [hb, if_pos rfl] at hnx
        have HC := Lib.hid hc; have HN := Lib.hid hnx
        clear hc hb hnx hx hy
        go_wp2_with (go_at_call 151; refine HC.out.mono ?_; rintro e w1 ⟨rfl, rfl⟩)
        go_round
        case rel => exact ⟨k + 1, by omega, by go_num, by rw [HN.out]⟩
        case measure => simp [intOf]; omega
      | false =>
        rw [hb] at hc
        rw [hb, if_neg (by decide)] at hnx
        have HC := Lib.hid hc; have HN := Lib.hid hnx
        clear hc hb hnx hx hy
        go_wp2_with (go_at_call 151; refine HC.out.mono ?_; rintro e w1 ⟨rfl, rfl⟩)
        go_round
        case rel => exact ⟨k + 1, by omega, by go_num, by rw [HN.out]⟩
        case measure => simp [intOf]; omega
    · have hk4 : k = 4 := by omega
      subst hk4
      rw [HR.out]
      go_wp2_with fail
      go_ret
      exact ⟨rfl, rfl⟩
/-- The factors with several letters behind, among the first k. -/
def spL (s : ByteArray) (n k : Nat) : List ByteArray := ((insL (fc s n)).take k).filter fun f => decide (1 < (nbS s f 4).size)
theorem spL_yes {s f : ByteArray} {n k : Nat} (h : (insL (fc s n))[k]? = some f) (hb : 1 < (nbS s f 4).size) : spL s n (k + 1) = spL s n k ++ [f] := by
  rw [spL, List.take_add_one, h, List.filter_append, ← spL]
  simp [hb]
theorem spL_no {s f : ByteArray} {n k : Nat} (h : (insL (fc s n))[k]? = some f) (hb : ¬ 1 < (nbS s f 4).size) : spL s n (k + 1) = spL s n k := by
  rw [spL, List.take_add_one, h, List.filter_append, ← spL]
  simp [hb]
theorem spL_len (s : ByteArray) (n k : Nat) : (spL s n k).length ≤ k := by
  have := List.length_filter_le (fun f => decide (1 < (nbS s f 4).size)) ((insL (fc s n)).take k)
  rw [List.length_take] at this
  unfold spL; omega
set_option maxRecDepth 4000 in
set_option maxHeartbeats 2000000 in
theorem special_is (s : ByteArray) (n : Nat) (h0 : isW (L s) = true) (h1 : 1 ≤ n) (h2 : n ≤ 400) (w : World) (hml : MlOk w) :
    Calls Tryz.prog 67 #[.string s, .int .i64 n, .bool true] w fun e w' => ∃ A c, e = .returned (.slice A (spL s n (insL (fc s n)).length).length c) ∧ Below w.heap.size w w' := by
  have h4 := isW_size h0
  have hcb := cpx_le s n h1
  unfold cpx at hcb
  have HL := Lib.hid (fun w => isLenC_yes s n h0 h1 h2 w)
  have HF := Lib.hid (fun w => factorsOf_any s n h4 (by omega) w)
  have hsz : ∀ f ∈ insL (fc s n), f.size ≤ 400 := fun f hf => by
    have h3 := ((insL_ok (fc s n) [] List.Pairwise.nil).2 f).1 hf
    rcases h3 with h3 | h3
    · cases h3
    · rw [fc, fcT, List.mem_map] at h3
      obtain ⟨i, _, rfl⟩ := h3
      rw [ByteArray.size_extract]; omega
  obtain ⟨fs, hfs⟩ : ∃ fs, insL (fc s n) = fs := ⟨_, rfl⟩
  obtain ⟨N, hN⟩ : ∃ N, fs.length = N := ⟨_, rfl⟩
  rw [hfs, hN] at hcb
  rw [hfs] at HF hsz ⊢
  rw [hN] at HF ⊢
  obtain ⟨R, hR⟩ : ∃ R, (spL s n N).length = R := ⟨_, rfl⟩
  rw [hR]
  have HFS := Lib.hid hfs; have HN := Lib.hid hN; have HSZ := Lib.hid hsz; have HR := Lib.hid hR; have HM := Lib.hid hml
  clear h0 hfs hN hsz hR hml
  go_enter Tryz.func67, Tryz.ntmps67
  go_wp2_with fail
  refine (HL.out _).mono ?_
  rintro e w1 ⟨rfl, rfl⟩
  go_wp2_with fail
  have bA : Below w.heap.size w (w.alloc (.cells #[] 9)) := (Below.refl _ _).alloc (Nat.le_refl _) _
  have oA : Own (w.alloc (.cells #[] 9)) w.heap.size 9 (.slice (some ⟨w.heap.size, 0, none⟩) 0 0) [] := Own.empty (Nat.le_refl _)
  refine (HF.out _).mono ?_
  rintro e w2 ⟨g, c, rfl, st, b2⟩
  have oB := Lib.hid (oA.below b2)
  have zA : (w.alloc (.cells #[] 9)).heap.size = w.heap.size + 1 := by simp
  have z2 := b2.size
  rw [zA] at z2
  have bB := Lib.hid (bA.trans (b2.mono (by omega)))
  have ST := Lib.hid st
  have hlt9 : g < w2.heap.size := st.2.2.1
  have hblk := (b2.block w.heap.size (by rw [zA]; omega)).trans (heap_alloc_new w (.cells #[] 9))
  have hne : 0 < N → g ≠ w.heap.size := fun h0 he => by
    obtain ⟨f, hf⟩ := some_of_lt (l := fs) (k := 0) (by rw [HN.out]; exact h0)
    have h3 := st.2.2.2 0 f hf
    rw [he] at h3
    have h5 := cell_of_row w2 w.heap.size 0 #[] 9 (0, 0) hblk
    rw [h3] at h5
    cases h5
  have HNE := Lib.hid hne
  clear hblk hne
  clear bA oA b2 st zA
  go_wp2_with fail
  go_loopw [7, 9, 19] (fun v _ i wr => ∃ (k m g2 c2 : Nat), k ≤ N ∧ i = .int .i64 k ∧ v = .slice (some ⟨g2, 0, none⟩) m c2 ∧ (spL s n k).length = m ∧ Own wr w.heap.size 9 (.slice (some ⟨g2, 0, none⟩) m c2) ((spL s n k).map Value.string) ∧ StrAt wr g c fs ∧ (0 < N → g ≠ g2) ∧ Below w.heap.size w wr) (fun _ _ i _ => N + 1 - (intOf i).toNat)
  case atStart => exact ⟨0, 0, w.heap.size, 0, by omega, rfl, rfl, rfl, oB.out, ST.out, HNE.out, bB.out⟩
  case round =>
    obtain ⟨k, m, g2, c2, hk, rfl, rfl, hm, hown, hst, hne, hbel⟩ := hrel
    have hml9 := spL_len s n k
    rw [hm] at hml9
    have HO := Lib.hid hown; have HST := Lib.hid hst; have HMM := Lib.hid hm; have HNE2 := Lib.hid hne
    have hzr := hbel.size
    clear hown hst hm hne
    by_cases hlt : k < N
    · obtain ⟨f, hf⟩ := some_of_lt (l := fs) (k := k) (by rw [HN.out]; exact hlt)
      have hfz := HSZ.out f (List.mem_of_getElem? hf)
      have hcell := HST.out.2.2.2 k f hf
      have hng := fun w => neigh_is s f h4 hfz w
      have hf2 : (insL (fc s n))[k]? = some f := by rw [HFS.out]; exact hf
      have hlt2 : (k : Int) < (N : Int) := by omega
      by_cases hb : 1 < (nbS s f 4).size
      · have hsp := spL_yes hf2 hb
        obtain ⟨q, hq⟩ : ∃ q, nbS s f 4 = q := ⟨_, rfl⟩
        rw [hq] at hb hng
        have hbi : (1 : Int) < (q.size : Int) := by omega
        have hl3 : ((spL s n k).map Value.string).length = m := by rw [List.length_map, HMM.out]
        have HL3 := Lib.hid hl3; have HNG := Lib.hid hng; have HSP := Lib.hid hsp
        have hm9 : m < 4294967296 := by omega
        clear hl3 hng hsp hf hf2 hq
        go_wp2_with fail
        refine (HNG.out _ (HM.out.below hbel)).mono ?_
        rintro e w3 ⟨rfl, rfl⟩
        go_wp2_with (at_builtin; refine wp_append4 rfl (.tmp 29) (.tmp 31) 23 rfl _ 16 Tryz.underlying23 info_string rfl m c2 rfl HO.out _ rfl rfl HL3.out hm9 (by decide) hzr ?_)
        intro g4 c4 w4 ha4
        have hown4 := ha4.own
        rw [show (spL s n k).map Value.string ++ [Value.string f] = (spL s n (k + 1)).map Value.string from by rw [HSP.out, List.map_append]; rfl] at hown4
        have HO4 := Lib.hid hown4
        have hgn := HNE2.out (by omega)
        have HST4 := Lib.hid (ha4.kept.str ha4.size HST.out (.inl hgn))
        have hgn4 := ha4.far g HST.out.2.2.1 hgn
        have hbel4 := hbel.trans (ha4.bel)
        clear ha4 hown4
        go_wp2_with fail
        go_roundw
        case rel => exact ⟨k + 1, m + 1, g4, c4, by omega, by go_num, rfl, by rw [HSP.out, List.length_append, HMM.out]; rfl, HO4.out, HST4.out, fun _ => hgn4, hbel4⟩
        case measure => simp [intOf]; omega
      · have hsp := spL_no hf2 hb
        obtain ⟨q, hq⟩ : ∃ q, nbS s f 4 = q := ⟨_, rfl⟩
        rw [hq] at hb hng
        have hbi : ¬ (1 : Int) < (q.size : Int) := by omega
        have HNG := Lib.hid hng; have HSP := Lib.hid hsp
        clear hng hsp hf hf2 hq
        go_wp2_with (go_at_call 116; refine (HNG.out _ (HM.out.below hbel)).mono ?_; rintro e w3 ⟨rfl, rfl⟩)
        go_roundw
        case rel => exact ⟨k + 1, m, g2, c2, by omega, by go_num, rfl, by rw [HSP.out, HMM.out], by rw [HSP.out]; exact HO.out, HST.out, HNE2.out, hbel⟩
        case measure => simp [intOf]; omega
    · have hkN : k = N := by omega
      subst hkN
      have hmR : m = R := by rw [← HMM.out, HR.out]
      subst hmR
      go_wp2_with fail
      go_ret
      exact ⟨_, c2, rfl, hbel⟩
theorem right_is (s : ByteArray) (n : Nat) (h0 : isW (L s) = true) (h1 : 1 ≤ n) (h2 : n ≤ 400) (w : World) (hml : MlOk w) :
    Calls Tryz.prog 9 #[.string s, .int .i64 n] w fun e w' => ∃ A c, e = .returned (.slice A (spL s n (insL (fc s n)).length).length c) ∧ Below w.heap.size w w' := by
  have h := special_is s n h0 h1 h2 w hml
  have H := Lib.hid h
  clear h
  go_enter Tryz.func9, Tryz.ntmps9
  go_wp2_with fail
  refine H.out.mono ?_
  rintro e w1 ⟨A, c, rfl, b1⟩
  go_wp2_with fail
  go_ret
  exact ⟨A, c, rfl, b1⟩
end Go.Proofs.YtbegecoocgkbiaaGreatDoor
