/- SharedFactors, both. No condition but the bounds. -/
import Derived.Test.YtfjmopiofcbpgaaBsr
import Derived.Test.YtfjmopiofcbpgaaSrt
namespace Go.Proofs.Ytfjmopiofcbpgaa
open Go.RowKit
set_option linter.unusedVariables false

/-- The factors of n letters that both words have. -/
def shL (s t : ByteArray) (n : Nat) : List ByteArray := (insL (fc s n)).filter (hasS (insL (fc t n)))
def shOk (s t : ByteArray) (n : Int) : Bool := isW (L s) && isW (L t) && decide (1 ≤ n ∧ n ≤ 400)
def shV (s t : ByteArray) (n : Int) : List ByteArray := if shOk s t n then shL s t n.toNat else []
theorem filt_yes {xs : List ByteArray} {k : Nat} {x : ByteArray} {p : ByteArray → Bool} (hx : xs[k]? = some x) (hp : p x = true) : (xs.take (k + 1)).filter p = (xs.take k).filter p ++ [x] := by
  rw [List.take_add_one, hx, List.filter_append]; simp [hp]
theorem filt_no {xs : List ByteArray} {k : Nat} {x : ByteArray} {p : ByteArray → Bool} (hx : xs[k]? = some x) (hp : p x = false) : (xs.take (k + 1)).filter p = (xs.take k).filter p := by
  rw [List.take_add_one, hx, List.filter_append]; simp [hp]
theorem filt_len (xs : List ByteArray) (p : ByteArray → Bool) (k : Nat) : ((xs.take k).filter p).length ≤ k := by
  have h1 := List.length_filter_le p (xs.take k)
  rw [List.length_take] at h1; omega
theorem fcI_len (s : ByteArray) (n : Nat) : (insL (fc s n)).length ≤ s.size + 1 := by
  have h1 := insL_len (fc s n)
  have h2 : (fc s n).length = s.size + 1 - n := fcT_len _ _ _
  omega
/-- A row with a word in it does not lie in a block without cells. -/
theorem StrAt.not_empty {w w' : World} {B g c : Nat} {T : TypeId} {ss : List ByteArray} (hb : Below B (w.alloc (.cells #[] T)) w') (hB : w.heap.size < B) (h : StrAt w' g c ss) (h0 : 0 < ss.length) : w.heap.size ≠ g := fun he => by
  obtain ⟨x, hx⟩ := some_of_lt h0
  have h1 := h.2.2.2 0 x hx
  subst he
  rw [hb.cell (p := ⟨w.heap.size, 0, none⟩) (by exact hB)] at h1
  simp at h1
theorem isLen_is (s : ByteArray) (a : Int) (b : Bool) (hs : s.size ≤ maxLen) (hb : (isW (L s) && decide (1 ≤ a ∧ a ≤ 400)) = b) (w : World) :
    Calls Try.prog 62 #[.string s, .int .i64 a] w fun e w' => e = .returned (.bool b) ∧ w = w' := by
  rw [← hb]; clear hb
  cases h1 : isW (L s)
  · have H1 := Lib.hid h1; clear h1
    go_enter Try.func62, Try.ntmps62
    go_wp2_with (go_at_call 46; refine (isWord_is s _ hs H1.out _).mono ?_; rintro e w' ⟨rfl, rfl⟩)
    go_ret
    exact ⟨rfl, rfl⟩
  · have H1 := Lib.hid h1; clear h1
    go_enter Try.func62, Try.ntmps62
    go_wp2_with (first
      | (go_at_call 46; refine (isWord_is s _ hs H1.out _).mono ?_; rintro e w' ⟨rfl, rfl⟩)
      | (go_at_call 45; refine (within_any _ _ _ _).mono ?_; rintro e w' ⟨rfl, rfl⟩))
    go_ret
    exact ⟨by simp, rfl⟩
set_option maxRecDepth 4000 in
set_option maxHeartbeats 1000000 in
theorem iShared_yes (s t : ByteArray) (a : Int) (hs : s.size ≤ maxLen) (ht : t.size ≤ maxLen) (h : shOk s t a = true) (w : World) :
    Calls Try.prog 32 #[.string s, .string t, .int .i64 a] w fun e w' => ∃ A c, e = .returned (.slice A (shL s t a.toNat).length c) ∧ Own w' w.heap.size 9 (.slice A (shL s t a.toNat).length c) ((shL s t a.toNat).map Value.string) ∧ Below w.heap.size w w' := by
  unfold shOk at h
  simp only [Bool.and_eq_true, decide_eq_true_eq] at h
  obtain ⟨⟨h1, h2⟩, ha1, ha2⟩ := h
  have h3 := isW_size h1; have h4 := isW_size h2
  obtain ⟨n, hn⟩ : ∃ n, a.toNat = n := ⟨_, rfl⟩
  have han : a = (n : Int) := by omega
  rw [hn]
  subst han
  have hn1 : 1 ≤ n := by omega
  have hn2 : n ≤ 400 := by omega
  have H1 := Lib.hid (show (isW (L s) && decide (1 ≤ (n : Int) ∧ (n : Int) ≤ 400)) = true by rw [h1, decide_eq_true ⟨ha1, ha2⟩]; rfl)
  have H2 := Lib.hid (show (isW (L t) && decide (1 ≤ (n : Int) ∧ (n : Int) ≤ 400)) = true by rw [h2, decide_eq_true ⟨ha1, ha2⟩]; rfl)
  clear h1 h2 ha1 ha2 hn
  obtain ⟨xs, hxs⟩ : ∃ xs, insL (fc s n) = xs := ⟨_, rfl⟩
  obtain ⟨ys, hys⟩ : ∃ ys, insL (fc t n) = ys := ⟨_, rfl⟩
  have hf1 := fun w => factorsOf_any t n (by omega) (by omega) w
  have hf2 := fun w => factorsOf_any s n (by omega) (by omega) w
  have hxl := fcI_len s n; have hyl := fcI_len t n
  have hyss := insL_ss (fc t n)
  rw [hys] at hf1 hyl hyss
  rw [hxs] at hf2 hxl
  obtain ⟨r, hr⟩ : ∃ r, xs.filter (hasS ys) = r := ⟨_, rfl⟩
  have hsr : shL s t n = r := by rw [shL, hxs, hys]; exact hr
  rw [hsr]
  have HF1 := Lib.hid hf1; have HF2 := Lib.hid hf2; have HR := Lib.hid hr; have HYS := Lib.hid hyss
  clear hf1 hf2 hxs hys hr hsr hyss
  go_enter Try.func32, Try.ntmps32
  go_wp2_with (first
    | (go_at_call 62; with_reducible refine (isLen_is s _ true hs H1.out _).mono ?_; rintro e w' ⟨rfl, rfl⟩)
    | (go_at_call 62; with_reducible refine (isLen_is t _ true ht H2.out _).mono ?_; rintro e w' ⟨rfl, rfl⟩))
  refine (HF1.out _).mono ?_
  rintro e w1 ⟨g1, c1, rfl, st1, b1⟩
  have z1 := b1.size
  have ST1 := Lib.hid st1; clear st1
  go_wp2_with fail
  refine (HF2.out _).mono ?_
  rintro e w2 ⟨g2, c2, rfl, st2, b2⟩
  have bA : Below w1.heap.size w1 (w1.alloc (.cells #[] 9)) := (Below.refl _ _).alloc (Nat.le_refl _) _
  have z2 := b2.size
  have zA : (w1.alloc (.cells #[] 9)).heap.size = w1.heap.size + 1 := by simp
  have hne2 : 0 < xs.length → w1.heap.size ≠ g2 := fun h0 => st2.not_empty b2 (by omega) h0
  have hne1 : w1.heap.size ≠ g1 := by have := ST1.out.2.2.1; omega
  have st1' := ST1.out.below (bA.trans (b2.mono (by omega)))
  have own0 : Own w2 w.heap.size 9 (.slice (some ⟨w1.heap.size, 0, none⟩) 0 0) [] := (Own.empty z1).below b2
  have bel0 : Below w.heap.size w w2 := (b1.trans (bA.mono z1)).trans (b2.mono (by omega))
  have ST1' := Lib.hid st1'; have ST2 := Lib.hid st2; have OWN0 := Lib.hid own0; have NE1 := Lib.hid hne1; have NE2 := Lib.hid hne2
  clear st1' st2 own0 hne1 hne2
  go_wp2_with fail
  go_loopw [8, 10, 11, 12, 31] (fun v _ _ _ i wr => ∃ k m go c : Nat, k ≤ xs.length ∧ m ≤ k ∧ i = .int .i64 k ∧ v = .slice (some ⟨go, 0, none⟩) m c ∧ ((xs.take k).filter (hasS ys)).length = m ∧ Own wr w.heap.size 9 (.slice (some ⟨go, 0, none⟩) m c) (((xs.take k).filter (hasS ys)).map Value.string) ∧ StrAt wr g1 c1 ys ∧ StrAt wr g2 c2 xs ∧ g1 ≠ go ∧ (0 < xs.length → g2 ≠ go) ∧ Below w.heap.size w wr) (fun _ _ _ _ i _ => xs.length - (intOf i).toNat)
  case atStart => exact ⟨0, 0, w1.heap.size, 0, by omega, by omega, rfl, rfl, rfl, OWN0.out, ST1'.out, ST2.out, fun h => NE1.out h.symm, fun h0 h => NE2.out h0 h.symm, bel0⟩
  case round =>
    obtain ⟨k, m, go, c, hk, hmk, rfl, rfl, hml, hown, hs1, hs2, hg1, hg2, hbel⟩ := hrel
    have HML := Lib.hid hml; have HO := Lib.hid hown; have HS1 := Lib.hid hs1; have HS2 := Lib.hid hs2; have HG1 := Lib.hid hg1; have HG2 := Lib.hid hg2
    have hszr := hbel.size
    clear hml hown hs1 hs2 hg1 hg2
    by_cases hlt : k < xs.length
    · obtain ⟨x, hx⟩ := some_of_lt hlt
      have hcell := HS2.out.2.2.2 k x hx
      have hat := binS_any ys x g1 c1 wr (by omega) HYS.out HS1.out
      have hg2' := HG2.out (by omega)
      cases hp : hasS ys x
      · have hfl := filt_no (p := hasS ys) hx hp
        rw [hp] at hat
        have HAT := Lib.hid hat
        have HFL := Lib.hid hfl
        clear hat hp hfl hx
        go_wp2_with fail
        refine HAT.out.mono ?_
        rintro e w3 ⟨r3, rfl, d3⟩
        have b3 := d3.below (B := wr.heap.size)
        go_wp2_with fail
        go_roundw
        case rel => exact ⟨k + 1, m, go, c, by omega, by omega, by go_num, rfl, by rw [HFL.out]; exact HML.out, by rw [HFL.out]; exact HO.out.dr d3, HS1.out.below b3, HS2.out.below b3, HG1.out, HG2.out, hbel.trans d3.below⟩
        case measure => simp [intOf]; omega
      · have hfl := filt_yes (p := hasS ys) hx hp
        rw [hp] at hat
        have HAT := Lib.hid hat
        have HFL := Lib.hid hfl
        clear hat hp hfl hx
        go_wp2_with fail
        refine HAT.out.mono ?_
        rintro e w3 ⟨r3, rfl, d3⟩
        have b3 := d3.below (B := wr.heap.size)
        have z3 := b3.size
        have ho3 := HO.out.dr d3
        have hs13 := HS1.out.below b3; have hs23 := HS2.out.below b3
        have hl3 : (((xs.take k).filter (hasS ys)).map Value.string).length = m := by rw [List.length_map]; exact HML.out
        have hm9 : m < 4294967296 := by omega
        have hz9 : w.heap.size ≤ w3.heap.size := by omega
        have HO3 := Lib.hid ho3; have HS13 := Lib.hid hs13; have HS23 := Lib.hid hs23; have HL3 := Lib.hid hl3
        clear ho3 hs13 hs23 hl3
        go_wp2_with (at_builtin; refine wp_append3 rfl (.tmp 42) (.tmp 44) 36 rfl _ 16 Try.underlying36 info_string rfl m c rfl HO3.out _ rfl rfl HL3.out hm9 (by decide) hz9 ?_)
        intro g' c' w4 hown4 hbel4 hz4 hstay
        have hown5 : Own w4 w.heap.size 9 (.slice (some ⟨g', 0, none⟩) (m + 1) c') (((xs.take (k + 1)).filter (hasS ys)).map Value.string) := by rw [HFL.out, List.map_append]; exact hown4
        have hq1 := hstay g1 c1 ys HS13.out HG1.out
        have hq2 := hstay g2 c2 xs HS23.out hg2'
        have HO5 := Lib.hid hown5; have HQ1 := Lib.hid hq1; have HQ2 := Lib.hid hq2
        clear hown4 hown5 hstay hq1 hq2
        go_wp2_with fail
        go_roundw
        case rel => exact ⟨k + 1, m + 1, g', c', by omega, by omega, by go_num, rfl, by rw [HFL.out, List.length_append, HML.out]; rfl, HO5.out, HQ1.out.1, HQ2.out.1, HQ1.out.2, fun _ => HQ2.out.2, (hbel.trans d3.below).trans hbel4⟩
        case measure => simp [intOf]; omega
    · have hkl : xs.take k = xs := List.take_of_length_le (by omega)
      have hfin : (xs.take k).filter (hasS ys) = r := by rw [hkl]; exact HR.out
      have hrl : r.length = m := by rw [← hfin]; exact HML.out
      have HFIN := Lib.hid hfin; have HRL := Lib.hid hrl
      clear hkl hfin hrl
      go_wp2_with fail
      go_ret
      exact ⟨_, _, by rw [HRL.out]; rfl, by rw [HRL.out, ← HFIN.out]; exact HO.out, hbel⟩
theorem iShared_no (s t : ByteArray) (a : Int) (hs : s.size ≤ maxLen) (ht : t.size ≤ maxLen) (h : shOk s t a = false) (w : World) :
    Calls Try.prog 32 #[.string s, .string t, .int .i64 a] w fun e w' => e = .returned (.slice none 0 0) ∧ w = w' := by
  unfold shOk at h
  cases h1 : (isW (L s) && decide (1 ≤ a ∧ a ≤ 400))
  · have H1 := Lib.hid h1; clear h h1
    go_enter Try.func32, Try.ntmps32
    go_wp2_with (go_at_call 62; with_reducible refine (isLen_is s _ false hs H1.out _).mono ?_; rintro e w' ⟨rfl, rfl⟩)
    go_ret
    exact ⟨rfl, rfl⟩
  · have h2 : (isW (L t) && decide (1 ≤ a ∧ a ≤ 400)) = false := by
      simp only [Bool.and_eq_true] at h1
      rw [h1.1, h1.2] at h
      rw [h1.2]
      simpa using h
    have H1 := Lib.hid h1; have H2 := Lib.hid h2; clear h h1 h2
    go_enter Try.func32, Try.ntmps32
    go_wp2_with (first
      | (go_at_call 62; with_reducible refine (isLen_is s _ true hs H1.out _).mono ?_; rintro e w' ⟨rfl, rfl⟩)
      | (go_at_call 62; with_reducible refine (isLen_is t _ false ht H2.out _).mono ?_; rintro e w' ⟨rfl, rfl⟩))
    go_ret
    exact ⟨rfl, rfl⟩
theorem iShared_any (s t : ByteArray) (a : Int) (hs : s.size ≤ maxLen) (ht : t.size ≤ maxLen) (w : World) :
    Calls Try.prog 32 #[.string s, .string t, .int .i64 a] w fun e w' => ∃ A c, e = .returned (.slice A (shV s t a).length c) ∧ Own w' w.heap.size 9 (.slice A (shV s t a).length c) ((shV s t a).map Value.string) ∧ Below w.heap.size w w' := by
  unfold shV
  cases h : shOk s t a
  · exact (iShared_no s t a hs ht h w).mono fun e w' he => by
      obtain ⟨rfl, rfl⟩ := he
      exact ⟨none, 0, rfl, Own.nil, Below.refl _ _⟩
  · exact iShared_yes s t a hs ht h w
end Go.Proofs.Ytfjmopiofcbpgaa
