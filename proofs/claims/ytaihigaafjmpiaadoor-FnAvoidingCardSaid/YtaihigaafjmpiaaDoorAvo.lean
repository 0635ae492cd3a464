/- Avoids, both: whether no word of a ban is a factor of a word. Asks the shelf's text (shelf.py SEAT Tryd.strings_Contains_shaped). -/
import Derived.Test.YtaihigaafjmpiaaDoorBan
import Derived.Test.YtaihigaafjmpiaaDoorShelf
namespace Go.Proofs.YtaihigaafjmpiaaDoor
open Go.RowKit
set_option linter.unusedVariables false

/-- Whether f is a factor of w. -/
def hasF (w f : ByteArray) : Bool := Lib.contains (L w) (L f)
def avoidsB (s : ByteArray) (ss : List ByteArray) : Bool := ss.all fun f => !hasF s f
theorem occ_ext (w f : ByteArray) (i : Nat) (h : i + f.size ≤ w.size) : Lib.occAt (L w) (L f) i = decide (w.extract i (i + f.size) = f) := by
  have hp : L (w.extract i (i + f.size)) = ((L w).drop i).take f.size := by
    rw [L_extract, List.drop_take]; congr 1; omega
  rw [Bool.eq_iff_iff, Lib.occAt, List.isPrefixOf_iff_prefix, List.prefix_iff_eq_take, decide_eq_true_iff, L_len, ← hp]
  constructor
  · intro h2; exact bytes_ext h2.symm
  · intro h2; rw [h2]
theorem occ_long (w f : ByteArray) (i : Nat) (h : w.size < i + f.size) (hi : i ≤ w.size) : Lib.occAt (L w) (L f) i = false := by
  cases h2 : Lib.occAt (L w) (L f) i
  · rfl
  · rw [Lib.occAt, List.isPrefixOf_iff_prefix] at h2
    have := h2.length_le
    rw [List.length_drop, L_len, L_len] at this
    omega
/-- The library's own variable (its greatest length of a quick search) holds some number. -/
def MlOk (w : World) : Prop := ∃ m, w.cell? ⟨Tryd.laysM144_ren.g 1, 0, none⟩ = some (.int .i64 m)
theorem MlOk.of {w : World} (h : w.ShapedOpen Tryd.prog) : MlOk w := Tryd.laysM144.s1_3 w h
theorem MlOk.below {w w' : World} (h : MlOk w) (hb : Below w.heap.size w w') : MlOk w' := by
  obtain ⟨m, hm⟩ := h
  refine ⟨m, ?_⟩
  rw [hb.cell (p := ⟨Tryd.laysM144_ren.g 1, 0, none⟩) ?_]
  · exact hm
  · rcases Nat.lt_or_ge (Tryd.laysM144_ren.g 1) w.heap.size with h2 | h2
    · exact h2
    · rw [World.cell?] at hm
      simp [Array.getElem?_eq_none h2] at hm
theorem MlOk.dr {w w' : World} (h : MlOk w) (hd : Dr w w') : MlOk w' := h.below hd.below
theorem contains_any (s f : ByteArray) (hs : s.size < 4294967281) (w : World) (h : MlOk w) :
    Calls Tryd.prog 31 #[.string s, .string f] w fun e w' => e = .returned (.bool (hasF s f)) ∧ w = w' := by
  obtain ⟨m, hm⟩ := h
  exact (Any.strings_Contains { Tryd.laysM144 with } s f m w hs hm).mono fun e w' q => ⟨q.1, q.2.symm⟩
set_option maxHeartbeats 400000 in
theorem avoids_any (s : ByteArray) (ss : List ByteArray) (A : Option Addr) (c B : Nat) (w : World) (hs : s.size ≤ 1048576) (hn : ss.length ≤ 4294967296) (hsz : ∀ s ∈ ss, s.size ≤ 1048576) (hrd : Rds w B A (ss.map Value.string)) (hml : MlOk w) :
    Calls Tryd.prog 25 #[.string s, .slice A ss.length c] w fun e w' => e = .returned (.bool (avoidsB s ss)) ∧ w = w' := by
  have HZ := Lib.hid hsz; clear hsz
  have HR := Lib.hid hrd; clear hrd
  have HM := Lib.hid hml; clear hml
  go_enter Tryd.func25, Tryd.ntmps25
  go_wp2_with fail
  go_loop [6, 9] (fun _ i => ∃ k : Nat, k ≤ ss.length ∧ i = .int .i64 k ∧ (ss.drop k).all (fun f => !hasF s f) = avoidsB s ss) (fun _ i => ss.length - (intOf i).toNat)
  case atStart => exact ⟨0, by omega, rfl, rfl⟩
  case round =>
    obtain ⟨k, hk, rfl, hg⟩ := hrel
    have HG := Lib.hid hg; clear hg
    by_cases hlt : k < ss.length
    · obtain ⟨f, hf⟩ := some_of_lt (l := ss) (k := k) hlt
      obtain ⟨ad, rfl, hc⟩ := HR.out.at_ (map_at Value.string hf)
      have hz := HZ.out f (List.mem_of_getElem? hf)
      have HD := Lib.hid (drop_at_list hf); clear hf
      cases hh : hasF s f
      · have HH := Lib.hid hh; clear hh
        go_wp2_with (go_at_call 31; refine (contains_any s f (by omega) _ HM.out).mono ?_; rw [HH.out]; rintro e w1 ⟨rfl, rfl⟩)
        go_round
        case rel => exact ⟨k + 1, by omega, by go_num, by rw [← HG.out, HD.out, List.all_cons, HH.out]; rfl⟩
        case measure => simp [intOf]; omega
      · have HH := Lib.hid hh; clear hh
        go_wp2_with (go_at_call 31; refine (contains_any s f (by omega) _ HM.out).mono ?_; rw [HH.out]; rintro e w1 ⟨rfl, rfl⟩)
        go_ret
        exact ⟨ret_bool (by rw [← HG.out, HD.out, List.all_cons, HH.out]; rfl), rfl⟩
    · have h0 : ss.drop k = [] := List.drop_eq_nil_of_le (by omega)
      have H0 := Lib.hid h0; clear h0
      go_wp2_with fail
      go_ret
      exact ⟨ret_bool (by rw [← HG.out, H0.out]; rfl), rfl⟩
theorem ban_size4 {ss : List ByteArray} (h : banOk ss = true) : ∀ s ∈ ss, s.size ≤ 1048576 := by
  intro s hs
  unfold banOk at h
  simp only [Bool.and_eq_true, List.all_eq_true] at h
  have := h.1 s hs
  unfold banW at this
  simp at this
  omega
def avoV (s : ByteArray) (ss : List ByteArray) : Bool := isW (L s) && banOk ss && avoidsB s ss
set_option maxHeartbeats 400000 in
theorem iAvoids_any (s : ByteArray) (ss : List ByteArray) (A : Option Addr) (c B : Nat) (w : World) (hs : s.size ≤ 1048576) (hn : ss.length ≤ 4294967296) (hsz : ∀ s ∈ ss, s.size ≤ maxLen) (hrd : Rds w B A (ss.map Value.string)) (hml : MlOk w) :
    Calls Tryd.prog 7 #[.string s, .slice A ss.length c] w fun e w' => e = .returned (.bool (avoV s ss)) ∧ Dr w w' := by
  have HZ := Lib.hid hsz; clear hsz
  have HR := Lib.hid hrd; clear hrd
  have HM := Lib.hid hml; clear hml
  have hs9 : s.size ≤ maxLen := by unfold maxLen; omega
  cases h1 : isW (L s)
  · have H1 := Lib.hid h1; clear h1
    go_enter Tryd.func7, Tryd.ntmps7
    go_wp2_with (go_at_call 24; refine (isWord_is s _ hs9 H1.out _).mono ?_; rintro e w' ⟨rfl, rfl⟩)
    go_ret
    exact ⟨ret_bool (by rw [avoV, H1.out]; rfl), Dr.refl _⟩
  · have H1 := Lib.hid h1; clear h1
    cases h2 : banOk ss
    · have H2 := Lib.hid h2; clear h2
      go_enter Tryd.func7, Tryd.ntmps7
      go_wp2_with (first
        | (go_at_call 24; refine (isWord_is s _ hs9 H1.out _).mono ?_; rintro e w' ⟨rfl, rfl⟩)
        | (go_at_call 11; refine (iBanOk_any ss A c B _ hn HZ.out HR.out).mono ?_; rw [H2.out]; rintro e w1 ⟨rfl, d1⟩))
      go_ret
      exact ⟨ret_bool (by rw [avoV, H1.out, H2.out]; rfl), d1⟩
    · have H2 := Lib.hid h2; clear h2
      go_enter Tryd.func7, Tryd.ntmps7
      go_wp2_with (first
        | (go_at_call 24; refine (isWord_is s _ hs9 H1.out _).mono ?_; rintro e w' ⟨rfl, rfl⟩)
        | (go_at_call 11; refine (iBanOk_any ss A c B _ hn HZ.out HR.out).mono ?_; rw [H2.out]; rintro e w1 ⟨rfl, d1⟩))
      refine (avoids_any s ss A c B _ hs hn (ban_size4 H2.out) (HR.out.dr d1) (HM.out.dr d1)).mono ?_
      rintro e w2 ⟨rfl, rfl⟩
      go_wp2_with fail
      go_ret
      exact ⟨ret_bool (by rw [avoV, H1.out, H2.out]; rfl), d1⟩
end Go.Proofs.YtaihigaafjmpiaaDoor
