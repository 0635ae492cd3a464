/- LeastBan of the reference, walked. Asks the shelf's text. No condition but the bounds. -/
import Derived.Test.YtcgomfbbbnfmnaaL17
import Derived.Test.YtcgomfbbbnfmnaaIns
import Derived.Test.YtcgomfbbbnfmnaaStr
import Derived.Laws.RangeString
namespace Go.Proofs.Ytcgomfbbbnfmnaa
open Go.RowKit
set_option linter.unusedVariables false

def lbV (s : ByteArray) : List ByteArray := if isW (L s) = true ∧ s.size ≠ 0 then lbL s else []
/-- The least eight of what was seen of the words. -/
def lbK (s : ByteArray) (k : Nat) : List ByteArray := (insL (((lays 4).take k).filter (lbP s))).take 8
theorem lbK_ss (s : ByteArray) (k : Nat) : SS (lbK s k) := ss_take (insL_ss _) 8
theorem lbK_len (s : ByteArray) (k : Nat) : (lbK s k).length ≤ 8 := by rw [lbK, List.length_take]; omega
theorem lbK_end (s : ByteArray) (k : Nat) (hk : (lays 4).length ≤ k) : lbK s k = lbL s := by rw [lbK, List.take_of_length_le hk]; rfl
theorem lbK_no {s f : ByteArray} {k : Nat} (h : (lays 4)[k]? = some f) (hp : lbP s f = false) : lbK s (k + 1) = lbK s k := by
  have e : (lays 4).take (k + 1) = (lays 4).take k ++ [f] := by rw [List.take_add_one, h]; rfl
  rw [lbK, e, List.filter_append]; simp [hp, lbK]
theorem lbK_yes {s f : ByteArray} {k : Nat} (h : (lays 4)[k]? = some f) (hp : lbP s f = true) : lbK s (k + 1) = (insB (lbK s k) f).take 8 := by
  have e : (lays 4).take (k + 1) = (lays 4).take k ++ [f] := by rw [List.take_add_one, h]; rfl
  rw [lbK, e, List.filter_append, lbK, insB_take f 8 (insL_ss _)]
  congr 1
  simp [hp, insL]
theorem lbK_far {s f z : ByteArray} {k : Nat} (h : (lays 4)[k]? = some f) (h8 : (lbK s k).length = 8) (hz : (lbK s k)[7]? = some z) (hzf : L z < L f) : lbK s (k + 1) = lbK s k := by
  cases hp : lbP s f
  · exact lbK_no h hp
  · rw [lbK_yes h hp, insB_take f 8 (lbK_ss s k) |>.symm, List.take_of_length_le (l := lbK s k) (by omega)]
    rw [insB_far f 8 (lbK_ss s k) (by omega)]
    · exact List.take_of_length_le (by omega)
    · intro y hy
      rw [List.take_of_length_le (by omega)] at hy
      obtain ⟨j, hj, hjy⟩ := List.getElem_of_mem hy
      rcases Nat.lt_or_ge j 7 with h7 | h7
      · exact List.lt_trans (ss_lt (lbK_ss s k) (by rw [List.getElem?_eq_getElem hj, hjy]) hz h7) hzf
      · have : j = 7 := by omega
        subst this
        rw [List.getElem?_eq_getElem hj, hjy] at hz
        injection hz with hz
        rw [hz]; exact hzf
theorem lbP_h1 {s f : ByteArray} (h : hasF s f = true) : lbP s f = false := by rw [lbP, lbQ, h]; simp
theorem lbP_h2 {s f : ByteArray} (h : hasF s (f.extract 1 f.size) = false) : lbP s f = false := by rw [lbP, lbQ, h]; simp
theorem lbP_h3 {s f : ByteArray} (h : hasF s (f.extract 0 (f.size - 1)) = false) : lbP s f = false := by rw [lbP, lbQ, h]; simp
theorem lbP_h4 {s f : ByteArray} (h0 : f.size ≠ 0) (h1 : hasF s f = false) (h2 : hasF s (f.extract 1 f.size) = true) (h3 : hasF s (f.extract 0 (f.size - 1)) = true) : lbP s f = allIn s (L f) := by
  rw [lbP, lbQ, h1, h2, h3, decide_eq_true h0]; simp
theorem lbP_h0 {s f : ByteArray} (h0 : f.size = 0) : lbP s f = false := by rw [lbP, decide_eq_false (by omega)]; simp
theorem lays_size : ∀ n x, x ∈ lays n → x.size ≤ n
  | 0, x, h => by rw [lays, lay, List.mem_singleton] at h; subst h; exact Nat.le_refl 0
  | n + 1, x, h => by
    rw [lays, List.mem_append] at h
    rcases h with h | h
    · have := lays_size n x h; omega
    · rw [lay_size _ x h]; omega
def okL (x : List UInt8) : Bool := x.all fun c => decide (c.toNat < 128)
theorem lay_ascii : ∀ n x, x ∈ lay n → okL (L x) = true
  | 0, x, h => by rw [lay, List.mem_singleton] at h; subst h; rfl
  | n + 1, x, h => by
    rw [lay, spr, List.mem_flatMap] at h
    obtain ⟨v, hv, h2⟩ := h
    obtain ⟨i, hi, rfl⟩ := List.mem_map.1 h2
    have h3 := lay_ascii n v hv
    rw [L_app, okL, List.all_append, ← okL, h3, strOf_L]
    have : i < 4 := List.mem_range.1 hi
    match i, this with
    | 0, _ => rfl
    | 1, _ => rfl
    | 2, _ => rfl
    | 3, _ => rfl
theorem lays_ascii : ∀ n x, x ∈ lays n → okL (L x) = true
  | 0, x, h => lay_ascii 0 x h
  | n + 1, x, h => by
    rw [lays, List.mem_append] at h
    exact h.elim (lays_ascii n x) (lay_ascii _ x)
theorem okL_at {f : ByteArray} (h : okL (L f) = true) (k : Nat) (hk : k < f.size) : (f[k]'hk).toNat < 128 := by
  have := List.all_eq_true.1 h f[k] (List.getElem_mem (l := L f) (n := k) (by rw [L_len]; exact hk))
  simpa using this
/-- Where an iterator along a string, laid last, stands. -/
def posOf (w : World) : Nat := match w.heap[w.heap.size - 1]? with | some (.stringIter _ p) => p | _ => 0
theorem posOf_iter (w : World) (s : ByteArray) (p : Nat) : posOf (w.iter s p) = p := by
  have h : (w.iter s p).heap.size - 1 = w.heap.size := by simp [World.iter]
  rw [posOf, h, World.iter_heap]
theorem StrAt.take {w : World} {g c : Nat} {ss : List ByteArray} (h : StrAt w g c ss) (n : Nat) : StrAt w g c (ss.take n) :=
  ⟨by have := h.1; rw [List.length_take]; omega, h.2.1, h.2.2.1, fun j s hj => h.2.2.2 j s (by
    have hl := (List.getElem?_eq_some_iff.1 hj).1
    rw [List.length_take] at hl
    rwa [List.getElem?_take_of_lt (by omega)] at hj)⟩
theorem ext_one (f : ByteArray) (p : Nat) (h : p < f.size) : f.extract p (p + 1) = strOf [f[p]] := by
  apply ba_eq
  rw [L_extract, strOf_L, List.drop_take, show p + 1 - p = 1 by omega, drop_at f p h]; rfl
set_option maxRecDepth 4000 in
set_option maxHeartbeats 2000000 in
theorem sLeast_yes (s : ByteArray) (hs : s.size ≤ maxLen) (h0 : isW (L s) = true) (h1 : s.size ≠ 0) (w : World) :
    Calls Try.prog 16 #[.string s] w fun e w' => ∃ g c, e = .returned (.slice (some ⟨g, 0, none⟩) (lbL s).length c) ∧ StrAt w' g c (lbL s) ∧ Below w.heap.size w w' := by
  have h4 := isW_size h0
  have hne : s.toList.isEmpty = false := by
    rw [ByteArray.toList_eq]
    cases hc : s.data.toList with
    | nil => have := L_len s; rw [L, hc] at this; exact absurd this.symm h1
    | cons a b => rfl
  obtain ⟨r, hr⟩ : ∃ r, lbL s = r := ⟨_, rfl⟩
  rw [hr]
  have hlh := fun (g : ByteArray) (hg : g.size ≤ 400) (w : World) => l02Has_any s g (by omega) (by omega) w
  have HR := Lib.hid hr; have H0 := Lib.hid h0; have HLH := Lib.hid hlh
  clear hr h0 hlh
  go_enter Try.func16, Try.ntmps16
  go_wp2_with (go_at_call 35; with_reducible refine (sWordOk_is s _ hs H0.out _).mono ?_; rintro e w' ⟨rfl, rfl⟩)
  refine (l17Words_any 4 (by omega) _).mono ?_
  rintro e w1 ⟨g1, c1, rfl, o1, b1⟩
  have hst := o1.str rfl
  have hn := lays_len 4 (by omega)
  obtain ⟨n, hnn⟩ : ∃ n, (lays 4).length = n := ⟨_, rfl⟩
  rw [hnn] at hn
  have z1 := b1.size
  have HST := Lib.hid hst; have HN := Lib.hid hnn
  rw [hnn]
  clear hst o1 hnn
  go_wp2_with fail
  go_loopw [3, 5, 6, 7, 18] (fun v _ _ _ i wr => ∃ k m g c : Nat, k ≤ n ∧ m ≤ 8 ∧ i = .int .i64 k ∧ v = .slice (some ⟨g, 0, none⟩) m c ∧ (lbK s k).length = m ∧ StrAt wr g c (lbK s k) ∧ StrAt wr g1 c1 (lays 4) ∧ Below w.heap.size w wr) (fun _ _ _ _ i _ => n - (intOf i).toNat)
  case atStart =>
    exact ⟨0, 0, w.heap.size, 0, by omega, by omega, rfl, rfl, rfl, ⟨Nat.le_refl _, Nat.zero_le _, by simp at z1 ⊢; omega, fun j s h => by simp [lbK, insL] at h⟩, HST.out, ((Below.refl _ _).alloc (Nat.le_refl _) _).trans (b1.mono (by simp))⟩
  case round =>
    obtain ⟨k, m, g, c, hk, hm8, rfl, rfl, hml, hst, hst1, hbel⟩ := hrel
    have HML := Lib.hid hml; have HS := Lib.hid hst; have HS1 := Lib.hid hst1
    have hzr := hbel.size
    clear hml hst hst1
    by_cases hlt : k < n
    · obtain ⟨f, hf⟩ := some_of_lt (l := lays 4) (k := k) (by rw [HN.out]; exact hlt)
      have hc := HS1.out.2.2.2 k f hf
      have hfz := lays_size 4 f (List.mem_of_getElem? hf)
      have hfa := lays_ascii 4 f (List.mem_of_getElem? hf)
      have HF := Lib.hid hf; have HFA := Lib.hid hfa
      clear hf hfa
      by_cases hf0 : f.size = 0
      · have hfe : f.toList.isEmpty = true := by rw [ByteArray.toList_eq]; have : f.data.toList = [] := List.eq_nil_of_length_eq_zero (by rw [L_len]; exact hf0); rw [this]; rfl
        have hsame := lbK_no (s := s) HF.out (lbP_h0 hf0)
        have HSM := Lib.hid hsame
        clear hf0 hsame
        go_wp2_with fail
        go_roundw
        case rel => exact ⟨k + 1, _, g, c, by omega, by omega, by go_num, rfl, by rw [HSM.out]; exact HML.out, by rw [HSM.out]; exact HS.out, HS1.out, hbel⟩
        case measure => simp [intOf]; omega
      · have hfe : f.toList.isEmpty = false := by
          rw [ByteArray.toList_eq]
          cases hc : f.data.toList with
          | nil => have := L_len f; rw [L, hc] at this; exact absurd this.symm hf0
          | cons a b => rfl
        by_cases hm : m = 8
        · subst hm
          obtain ⟨z, hz⟩ := some_of_lt (l := lbK s k) (k := 7) (by rw [HML.out]; omega)
          have hc7 := HS.out.2.2.2 7 z hz
          have hgt := gtS_iff f z
          have hsame := fun h => lbK_far HF.out HML.out hz h
          have HSF := Lib.hid hsame
          clear hz hsame
          unfold gtS at hgt
          by_cases hzf : L z < L f
          · rw [decide_eq_true hzf] at hgt
            have HSM := Lib.hid (HSF.out hzf)
            clear hzf
            go_wp2_with fail
            go_roundw
            case rel => exact ⟨k + 1, _, g, c, by omega, by omega, by go_num, rfl, by rw [HSM.out]; exact HML.out, by rw [HSM.out]; exact HS.out, HS1.out, hbel⟩
            case measure => simp [intOf]; omega
          · rw [decide_eq_false hzf] at hgt
            clear hzf
            cases hh1 : hasF s f
            · cases hh2 : hasF s (f.extract 1 f.size)
              · have HSM := Lib.hid (lbK_no HF.out (lbP_h2 hh2))
                go_wp2_with (go_at_call 47; refine (HLH.out _ (by first | omega | (simp only [ByteArray.size_extract]; omega)) _).mono ?_; rintro e w' ⟨rfl, rfl⟩)
                go_roundw
                case rel => exact ⟨k + 1, _, g, c, by omega, by omega, by go_num, rfl, by rw [HSM.out]; exact HML.out, by rw [HSM.out]; exact HS.out, HS1.out, hbel⟩
                case measure => simp [intOf]; omega
              · cases hh3 : hasF s (f.extract 0 (f.size - 1))
                · have HSM := Lib.hid (lbK_no HF.out (lbP_h3 hh3))
                  go_wp2_with (go_at_call 47; refine (HLH.out _ (by first | omega | (simp only [ByteArray.size_extract]; omega)) _).mono ?_; rintro e w' ⟨rfl, rfl⟩)
                  go_roundw
                  case rel => exact ⟨k + 1, _, g, c, by omega, by omega, by go_num, rfl, by rw [HSM.out]; exact HML.out, by rw [HSM.out]; exact HS.out, HS1.out, hbel⟩
                  case measure => simp [intOf]; omega
                · have hp4 := lbP_h4 hf0 hh1 hh2 hh3
                  have HP4 := Lib.hid hp4
                  clear hp4
                  go_wp2_with (go_at_call 47; refine (HLH.out _ (by first | omega | (simp only [ByteArray.size_extract]; omega)) _).mono ?_; rintro e w' ⟨rfl, rfl⟩)
                  go_loopw [6, 7] (fun a _ w2 => ∃ (p : Nat) (lb : Bool), p ≤ f.size ∧ w2 = wr.iter f p ∧ a = .bool lb ∧ (lb && allIn s ((L f).drop p)) = lbP s f) (fun _ _ w2 => f.size + 1 - posOf w2)
                  case atStart => exact ⟨0, true, by omega, rfl, rfl, by rw [HP4.out]; rfl⟩
                  case round =>
                    obtain ⟨p, lb, hp, rfl, rfl, hg⟩ := hrel
                    have HG := Lib.hid hg
                    clear hg
                    by_cases hpl : p < f.size
                    · have hnx := fun ty => run_next_ascii (P := Try.prog) wr f p ty hpl (okL_at HFA.out p hpl)
                      have hd : (L f).drop p = f[p] :: (L f).drop (p + 1) := drop_at f p hpl
                      have hx1 := ext_one f p hpl
                      have hstep : (lb && hasF s (f.extract p (p + 1)) && allIn s ((L f).drop (p + 1))) = lbP s f := by rw [← HG.out, hd, hx1]; simp only [allIn, List.all_cons, Bool.and_assoc]
                      have HSTP := Lib.hid hstep
                      clear hd hx1 hstep
                      cases lb
                      · have hz0 : (false && allIn s ((L f).drop (p + 1))) = lbP s f := by rw [← HSTP.out]; rfl
                        have HZ0 := Lib.hid hz0
                        clear hz0
                        go_wp2_with fail
                        go_roundw
                        case rel => exact ⟨p + 1, false, by omega, rfl, rfl, HZ0.out⟩
                        case measure => rw [posOf_iter, posOf_iter]; omega
                      · obtain ⟨q, hq⟩ : ∃ q, hasF s (f.extract p (p + 1)) = q := ⟨_, rfl⟩
                        rw [hq] at HSTP
                        have hcl := fun w => HLH.out (f.extract p (p + 1)) (by simp only [ByteArray.size_extract]; omega) w
                        rw [hq] at hcl
                        have HCL := Lib.hid hcl
                        clear hcl hq
                        go_wp2_with (go_at_call 47; refine (HCL.out _).mono ?_; rintro e w' ⟨rfl, rfl⟩)
                        go_roundw
                        case rel => exact ⟨p + 1, q, by omega, rfl, rfl, HSTP.out⟩
                        case measure => rw [posOf_iter, posOf_iter]; omega
                    · have hpe : p = f.size := by omega
                      subst hpe
                      have hnx := fun ty => run_next_end (P := Try.prog) wr f f.size ty (by omega)
                      have hlb : lbP s f = lb := by rw [← HG.out, List.drop_of_length_le (by rw [L_len]; omega)]; simp [allIn]
                      have bi : Below wr.heap.size wr (wr.iter f f.size) := (Below.refl _ _).alloc (Nat.le_refl _) _
                      cases lb
                      · have HSM := Lib.hid (lbK_no HF.out hlb)
                        clear hlb
                        go_wp2_with fail
                        go_roundw
                        case rel => exact ⟨k + 1, _, g, c, by omega, by omega, by go_num, rfl, by rw [HSM.out]; exact HML.out, by rw [HSM.out]; exact HS.out.below bi, HS1.out.below bi, hbel.trans (bi.mono hzr)⟩
                        case measure => simp [intOf]; omega
                      · have hci := l05Insert_any (lbK s k) f g c (wr.iter f f.size) (by rw [HML.out]; omega) (HS.out.below bi)
                        rw [HML.out] at hci
                        have hyes := lbK_yes HF.out hlb
                        have hil := insB_len (lbK s k) f
                        rw [HML.out] at hil
                        obtain ⟨y, hy⟩ : ∃ y, (insB (lbK s k) f).length = y := ⟨_, rfl⟩
                        rw [hy] at hci hil
                        have hmy : (lbK s (k + 1)).length = min y 8 := by rw [hyes, List.length_take, hy]; omega
                        have HY := Lib.hid hyes; have HCI := Lib.hid hci; have HMY := Lib.hid hmy; have HYL := Lib.hid hy
                        clear hlb hci hyes hmy hy
                        go_wp2_with fail
                        refine HCI.out.mono ?_
                        rintro e w3 ⟨g3, c3, rfl, st3, b3⟩
                        have ST3 := Lib.hid st3
                        have hy3 : y ≤ c3 := by have := st3.1; rw [HYL.out] at this; exact this
                        clear st3
                        by_cases hy8 : y ≤ 8
                        · have hmn : min (y : Int) 8 = (y : Int) := by omega
                          go_wp2_with fail
                          go_roundw
                          case rel => exact ⟨k + 1, y, g3, c3, by omega, hy8, by go_num, rfl, by rw [HMY.out]; omega, by rw [HY.out]; exact ST3.out.take 8, (HS1.out.below bi).below b3, (hbel.trans (bi.mono hzr)).trans (b3.mono (by have := bi.size; omega))⟩
                          case measure => simp [intOf]; omega
                        · have hmn : min (y : Int) 8 = 8 := by omega
                          go_wp2_with fail
                          go_roundw
                          case rel => exact ⟨k + 1, 8, g3, c3, by omega, by omega, by go_num, rfl, by rw [HMY.out]; omega, by rw [HY.out]; exact ST3.out.take 8, (HS1.out.below bi).below b3, (hbel.trans (bi.mono hzr)).trans (b3.mono (by have := bi.size; omega))⟩
                          case measure => simp [intOf]; omega
            · have HSM := Lib.hid (lbK_no HF.out (lbP_h1 hh1))
              go_wp2_with (go_at_call 47; refine (HLH.out _ (by first | omega | (simp only [ByteArray.size_extract]; omega)) _).mono ?_; rintro e w' ⟨rfl, rfl⟩)
              go_roundw
              case rel => exact ⟨k + 1, _, g, c, by omega, by omega, by go_num, rfl, by rw [HSM.out]; exact HML.out, by rw [HSM.out]; exact HS.out, HS1.out, hbel⟩
              case measure => simp [intOf]; omega
        · have hm8d : decide ((m : Int) = 8) = false := by simp; omega
          cases hh1 : hasF s f
          · cases hh2 : hasF s (f.extract 1 f.size)
            · have HSM := Lib.hid (lbK_no HF.out (lbP_h2 hh2))
              go_wp2_with (go_at_call 47; refine (HLH.out _ (by first | omega | (simp only [ByteArray.size_extract]; omega)) _).mono ?_; rintro e w' ⟨rfl, rfl⟩)
              go_roundw
              case rel => exact ⟨k + 1, _, g, c, by omega, by omega, by go_num, rfl, by rw [HSM.out]; exact HML.out, by rw [HSM.out]; exact HS.out, HS1.out, hbel⟩
              case measure => simp [intOf]; omega
            · cases hh3 : hasF s (f.extract 0 (f.size - 1))
              · have HSM := Lib.hid (lbK_no HF.out (lbP_h3 hh3))
                go_wp2_with (go_at_call 47; refine (HLH.out _ (by first | omega | (simp only [ByteArray.size_extract]; omega)) _).mono ?_; rintro e w' ⟨rfl, rfl⟩)
                go_roundw
                case rel => exact ⟨k + 1, _, g, c, by omega, by omega, by go_num, rfl, by rw [HSM.out]; exact HML.out, by rw [HSM.out]; exact HS.out, HS1.out, hbel⟩
                case measure => simp [intOf]; omega
              · have hp4 := lbP_h4 hf0 hh1 hh2 hh3
                have HP4 := Lib.hid hp4
                clear hp4
                go_wp2_with (go_at_call 47; refine (HLH.out _ (by first | omega | (simp only [ByteArray.size_extract]; omega)) _).mono ?_; rintro e w' ⟨rfl, rfl⟩)
                go_loopw [6, 7] (fun a _ w2 => ∃ (p : Nat) (lb : Bool), p ≤ f.size ∧ w2 = wr.iter f p ∧ a = .bool lb ∧ (lb && allIn s ((L f).drop p)) = lbP s f) (fun _ _ w2 => f.size + 1 - posOf w2)
                case atStart => exact ⟨0, true, by omega, rfl, rfl, by rw [HP4.out]; rfl⟩
                case round =>
                  obtain ⟨p, lb, hp, rfl, rfl, hg⟩ := hrel
                  have HG := Lib.hid hg
                  clear hg
                  by_cases hpl : p < f.size
                  · have hnx := fun ty => run_next_ascii (P := Try.prog) wr f p ty hpl (okL_at HFA.out p hpl)
                    have hd : (L f).drop p = f[p] :: (L f).drop (p + 1) := drop_at f p hpl
                    have hx1 := ext_one f p hpl
                    have hstep : (lb && hasF s (f.extract p (p + 1)) && allIn s ((L f).drop (p + 1))) = lbP s f := by rw [← HG.out, hd, hx1]; simp only [allIn, List.all_cons, Bool.and_assoc]
                    have HSTP := Lib.hid hstep
                    clear hd hx1 hstep
                    cases lb
                    · have hz0 : (false && allIn s ((L f).drop (p + 1))) = lbP s f := by rw [← HSTP.out]; rfl
                      have HZ0 := Lib.hid hz0
                      clear hz0
                      go_wp2_with fail
                      go_roundw
                      case rel => exact ⟨p + 1, false, by omega, rfl, rfl, HZ0.out⟩
                      case measure => rw [posOf_iter, posOf_iter]; omega
                    · obtain ⟨q, hq⟩ : ∃ q, hasF s (f.extract p (p + 1)) = q := ⟨_, rfl⟩
                      rw [hq] at HSTP
                      have hcl := fun w => HLH.out (f.extract p (p + 1)) (by simp only [ByteArray.size_extract]; omega) w
                      rw [hq] at hcl
                      have HCL := Lib.hid hcl
                      clear hcl hq
                      go_wp2_with (go_at_call 47; refine (HCL.out _).mono ?_; rintro e w' ⟨rfl, rfl⟩)
                      go_roundw
                      case rel => exact ⟨p + 1, q, by omega, rfl, rfl, HSTP.out⟩
                      case measure => rw [posOf_iter, posOf_iter]; omega
                  · have hpe : p = f.size := by omega
                    subst hpe
                    have hnx := fun ty => run_next_end (P := Try.prog) wr f f.size ty (by omega)
                    have hlb : lbP s f = lb := by rw [← HG.out, List.drop_of_length_le (by rw [L_len]; omega)]; simp [allIn]
                    have bi : Below wr.heap.size wr (wr.iter f f.size) := (Below.refl _ _).alloc (Nat.le_refl _) _
                    cases lb
                    · have HSM := Lib.hid (lbK_no HF.out hlb)
                      clear hlb
                      go_wp2_with fail
                      go_roundw
                      case rel => exact ⟨k + 1, _, g, c, by omega, by omega, by go_num, rfl, by rw [HSM.out]; exact HML.out, by rw [HSM.out]; exact HS.out.below bi, HS1.out.below bi, hbel.trans (bi.mono hzr)⟩
                      case measure => simp [intOf]; omega
                    · have hci := l05Insert_any (lbK s k) f g c (wr.iter f f.size) (by rw [HML.out]; omega) (HS.out.below bi)
                      rw [HML.out] at hci
                      have hyes := lbK_yes HF.out hlb
                      have hil := insB_len (lbK s k) f
                      rw [HML.out] at hil
                      obtain ⟨y, hy⟩ : ∃ y, (insB (lbK s k) f).length = y := ⟨_, rfl⟩
                      rw [hy] at hci hil
                      have hmy : (lbK s (k + 1)).length = min y 8 := by rw [hyes, List.length_take, hy]; omega
                      have HY := Lib.hid hyes; have HCI := Lib.hid hci; have HMY := Lib.hid hmy; have HYL := Lib.hid hy
                      clear hlb hci hyes hmy hy
                      go_wp2_with fail
                      refine HCI.out.mono ?_
                      rintro e w3 ⟨g3, c3, rfl, st3, b3⟩
                      have ST3 := Lib.hid st3
                      have hy3 : y ≤ c3 := by have := st3.1; rw [HYL.out] at this; exact this
                      clear st3
                      by_cases hy8 : y ≤ 8
                      · have hmn : min (y : Int) 8 = (y : Int) := by omega
                        go_wp2_with fail
                        go_roundw
                        case rel => exact ⟨k + 1, y, g3, c3, by omega, hy8, by go_num, rfl, by rw [HMY.out]; omega, by rw [HY.out]; exact ST3.out.take 8, (HS1.out.below bi).below b3, (hbel.trans (bi.mono hzr)).trans (b3.mono (by have := bi.size; omega))⟩
                        case measure => simp [intOf]; omega
                      · have hmn : min (y : Int) 8 = 8 := by omega
                        go_wp2_with fail
                        go_roundw
                        case rel => exact ⟨k + 1, 8, g3, c3, by omega, by omega, by go_num, rfl, by rw [HMY.out]; omega, by rw [HY.out]; exact ST3.out.take 8, (HS1.out.below bi).below b3, (hbel.trans (bi.mono hzr)).trans (b3.mono (by have := bi.size; omega))⟩
                        case measure => simp [intOf]; omega
          · have HSM := Lib.hid (lbK_no HF.out (lbP_h1 hh1))
            go_wp2_with (go_at_call 47; refine (HLH.out _ (by first | omega | (simp only [ByteArray.size_extract]; omega)) _).mono ?_; rintro e w' ⟨rfl, rfl⟩)
            go_roundw
            case rel => exact ⟨k + 1, _, g, c, by omega, by omega, by go_num, rfl, by rw [HSM.out]; exact HML.out, by rw [HSM.out]; exact HS.out, HS1.out, hbel⟩
            case measure => simp [intOf]; omega
    · have hfin := lbK_end s k (by rw [HN.out]; omega)
      rw [HR.out] at hfin
      have hrl : r.length = m := by rw [← hfin]; exact HML.out
      rw [hfin] at HS
      have HRL := Lib.hid hrl
      clear hfin hrl
      go_wp2_with fail
      go_ret
      exact ⟨g, c, by rw [HRL.out]; rfl, HS.out, hbel⟩
theorem lbV_no {s : ByteArray} (h : ¬ (isW (L s) = true ∧ s.size ≠ 0)) : lbV s = [] := by rw [lbV, if_neg h]
theorem lbV_len (s : ByteArray) : (lbV s).length ≤ 8 := by
  unfold lbV
  split
  · rw [lbL, List.length_take]; omega
  · simp
theorem sLeast_any (s : ByteArray) (hs : s.size ≤ maxLen) (w : World) :
    Calls Try.prog 16 #[.string s] w fun e w' => ∃ A c, e = .returned (.slice A (lbV s).length c) ∧ Rds w' w'.heap.size A ((lbV s).map Value.string) ∧ Below w.heap.size w w' := by
  cases h0 : isW (L s)
  · have hv := lbV_no (s := s) (by rw [h0]; simp)
    rw [hv]
    have H0 := Lib.hid h0
    clear h0 hv
    go_enter Try.func16, Try.ntmps16
    go_wp2_with (go_at_call 35; with_reducible refine (sWordOk_is s _ hs H0.out _).mono ?_; rintro e w' ⟨rfl, rfl⟩)
    go_ret
    exact ⟨none, 0, rfl, Rds.nil, Below.refl _ _⟩
  · by_cases h1 : s.size = 0
    · have hv := lbV_no (s := s) (by rw [h1]; simp)
      rw [hv]
      have hne : s.toList.isEmpty = true := by rw [ByteArray.toList_eq]; have : s.data.toList = [] := List.eq_nil_of_length_eq_zero (by rw [L_len]; exact h1); rw [this]; rfl
      have H0 := Lib.hid h0
      clear h0 hv
      go_enter Try.func16, Try.ntmps16
      go_wp2_with (go_at_call 35; with_reducible refine (sWordOk_is s _ hs H0.out _).mono ?_; rintro e w' ⟨rfl, rfl⟩)
      go_ret
      exact ⟨none, 0, rfl, Rds.nil, Below.refl _ _⟩
    · have hv : lbV s = lbL s := by rw [lbV, if_pos ⟨h0, h1⟩]
      rw [hv]
      refine (sLeast_yes s hs h0 h1 w).mono ?_
      rintro e w1 ⟨g, c, rfl, st, b⟩
      exact ⟨_, _, rfl, st.rds, b⟩
end Go.Proofs.Ytcgomfbbbnfmnaa
