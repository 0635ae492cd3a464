/- Texts split at one byte: the library's Split and the reference's SplitAny. Asks the shelf's text (strings.Split). No condition but the bounds. -/
import Derived.Test.YtbegecoocgkbiaaGreatDoorBan
import Derived.Test.YtbegecoocgkbiaaGreatDoorShelf
import Derived.Test.YtbegecoocgkbiaaGreatDoorM1
import Derived.Test.YtbegecoocgkbiaaGreatDoorM17
import Derived.Lib.SplitLaws
import Derived.Lib.CountLaws
namespace Go.Proofs.YtbegecoocgkbiaaGreatDoor
open Go.RowKit
set_option linter.unusedVariables false

/-- The pieces of a list split at c; cur is the piece begun. -/
def splA (c : UInt8) : List UInt8 → List UInt8 → List (List UInt8)
  | cur, [] => [cur]
  | cur, x :: r => if x = c then cur :: splA c [] r else splA c (cur ++ [x]) r
def onHead (cur : List UInt8) : List (List UInt8) → List (List UInt8)
  | [] => []
  | h :: t => (cur ++ h) :: t
theorem splA_cur (c : UInt8) : ∀ (l cur pre : List UInt8), splA c (pre ++ cur) l = onHead pre (splA c cur l)
  | [], cur, pre => rfl
  | x :: l, cur, pre => by
    rw [splA, splA]
    split
    · rfl
    · rw [List.append_assoc]; exact splA_cur c l (cur ++ [x]) pre
theorem splK_cons {c x : UInt8} (h : x ≠ c) (l : List UInt8) : ∀ k, k = Lib.count l [c] → Lib.splitK [c] 0 k (x :: l) = onHead [x] (Lib.splitK [c] 0 k l)
  | 0, _ => rfl
  | k + 1, hk => by
    have hp : ([c] : List UInt8).isPrefixOf (x :: l) = false := by simp [List.isPrefixOf, Ne.symm h]
    have hix : Lib.index (x :: l) [c] = if Lib.index l [c] == -1 then -1 else Lib.index l [c] + 1 := by rw [Lib.index, hp]; simp
    by_cases hm : Lib.index l [c] = -1
    · rw [Lib.count_miss hm] at hk; omega
    · have hge := Lib.index_ge l [c]
      obtain ⟨j, hj⟩ : ∃ j : Nat, Lib.index l [c] = j := ⟨(Lib.index l [c]).toNat, by omega⟩
      have hix2 : Lib.index (x :: l) [c] = ((j + 1 : Nat) : Int) := by rw [hix, if_neg (fun e => hm (beq_iff_eq.1 e)), hj]; omega
      have n1 : ¬ ((((j + 1 : Nat) : Int) == -1) = true) := fun e => by have := beq_iff_eq.1 e; omega
      have n2 : ¬ (((j : Int) == -1) = true) := fun e => by have := beq_iff_eq.1 e; omega
      rw [Lib.splitK, Lib.splitK, hix2, hj, if_neg n1, if_neg n2]
      simp [onHead]
theorem splK_eq (c : UInt8) : ∀ l : List UInt8, Lib.splitK [c] 0 (Lib.count l [c]) l = splA c [] l
  | [] => by
    have : Lib.count ([] : List UInt8) [c] = 0 := by rw [Lib.count_one]; rfl
    rw [this]; rfl
  | x :: l => by
    have ih := splK_eq c l
    by_cases h : x = c
    · subst h
      have hix : Lib.index (x :: l) [x] = ((0 : Nat) : Int) := by rw [Lib.index]; simp [List.isPrefixOf]
      rw [Lib.count_cons_eq, Nat.add_comm, Lib.splitK, hix, splA, if_pos rfl]
      simp [ih]
    · rw [Lib.count_cons_ne x c l h, splK_cons h l _ rfl, ih, splA, if_neg h, ← splA_cur c l [] [x]]
      simp
/-- The pieces of a string split at c. -/
def splS (c : UInt8) (s : ByteArray) : List ByteArray := (splA c [] (L s)).map strOf
theorem strOf_of_L (s : ByteArray) : strOf (L s) = s := bytes_ext (strOf_L _)
theorem splB_eq (c : UInt8) (s : ByteArray) : Lib.splitB ⟨#[c]⟩ 0 (Lib.countB s ⟨#[c]⟩) s = splS c s := by
  have h := Lib.splitB_data ⟨#[c]⟩ 0 (Lib.countB s ⟨#[c]⟩) s
  have h2 : Lib.splitK [c] 0 (Lib.count (L s) [c]) (L s) = splA c [] (L s) := splK_eq c (L s)
  rw [splS, ← h2]
  have h3 : (Lib.splitB ⟨#[c]⟩ 0 (Lib.countB s ⟨#[c]⟩) s).map (fun x => x.data.toList) = Lib.splitK [c] 0 (Lib.count (L s) [c]) (L s) := h
  rw [← h3, List.map_map]
  exact (List.map_id'' (fun x => strOf_of_L x) _).symm
theorem splA_length (c : UInt8) : ∀ (l cur : List UInt8), (splA c cur l).length = l.count c + 1
  | [], cur => rfl
  | x :: l, cur => by
    rw [splA]
    by_cases h : x = c
    · rw [if_pos h, List.length_cons, splA_length c l, h, List.count_cons_self]
    · rw [if_neg h, splA_length c l, List.count_cons_of_ne h]
theorem splS_len (c : UInt8) (s : ByteArray) : (splS c s).length = Lib.countB s ⟨#[c]⟩ + 1 := by
  rw [splS, List.length_map, splA_length]
  show _ = Lib.count (L s) [c] + 1
  rw [Lib.count_one]
theorem splS_le (c : UInt8) (s : ByteArray) : (splS c s).length ≤ s.size + 1 := by
  rw [splS, List.length_map, splA_length]
  have := List.count_le_length (a := c) (l := L s)
  rw [L_len] at this; omega
theorem splA_size (c : UInt8) : ∀ (l cur : List UInt8), ∀ x ∈ splA c cur l, x.length ≤ cur.length + l.length
  | [], cur, x, h => by
    rw [splA, List.mem_singleton] at h
    rw [h]; simp
  | y :: l, cur, x, h => by
    rw [splA] at h
    split at h
    · rcases List.mem_cons.1 h with h | h
      · rw [h, List.length_cons]; omega
      · have := splA_size c l [] x h
        simp at this ⊢; omega
    · have := splA_size c l (cur ++ [y]) x h
      simp at this ⊢; omega
theorem splS_size (c : UInt8) (s : ByteArray) : ∀ x ∈ splS c s, x.size ≤ s.size := fun x hx => by
  rw [splS, List.mem_map] at hx
  obtain ⟨l, hl, rfl⟩ := hx
  have := splA_size c _ _ l hl
  rw [strOf_size]
  rw [L_len] at this
  simpa using this
/-- The library's own variable holds some number (as MlOk, at this function's numbers). -/
def MlS (w : World) : Prop := ∃ m, w.cell? ⟨Tryz.laysM146_ren.g 1, 0, none⟩ = some (.int .i64 m)
theorem MlS.of {w : World} (h : w.ShapedOpen Tryz.prog) : MlS w := Tryz.laysM146.s1_3 w h
theorem MlS.below {w w' : World} (h : MlS w) (hb : Below w.heap.size w w') : MlS w' := by
  obtain ⟨m, hm⟩ := h
  refine ⟨m, ?_⟩
  rw [hb.cell (p := ⟨Tryz.laysM146_ren.g 1, 0, none⟩) ?_]
  · exact hm
  · rcases Nat.lt_or_ge (Tryz.laysM146_ren.g 1) w.heap.size with h2 | h2
    · exact h2
    · rw [World.cell?] at hm
      simp [Array.getElem?_eq_none h2] at hm
theorem MlS.dr {w w' : World} (h : MlS w) (hd : Dr w w') : MlS w' := h.below hd.below
theorem split_any (s : ByteArray) (c : UInt8) (hs : s.size < 4294967281) (w : World) (h : MlS w) :
    Calls Tryz.prog 96 #[.string s, .string ⟨#[c]⟩] w fun e w' => ∃ g, e = .returned (.slice (some ⟨g, 0, none⟩) (splS c s).length (splS c s).length) ∧ Own w' w.heap.size 9 (.slice (some ⟨g, 0, none⟩) (splS c s).length (splS c s).length) ((splS c s).map Value.string) ∧ Below w.heap.size w w' := by
  obtain ⟨m, hm⟩ := h
  refine (Any.strings_Split { Tryz.laysM146 with } (by kernel_rfl) s ⟨#[c]⟩ m w hs hm (Nat.le_refl 1)).mono ?_
  rintro e w' ⟨rfl, rfl⟩
  refine ⟨w.heap.size, by rw [splS_len], ?_, (Below.refl _ _).alloc (Nat.le_refl _) _⟩
  rw [splB_eq]
  have h2 := World.ownsRow_lit (base := w.heap.size) (e := 9) (size := 1) w ((splS c s).map Value.string).toArray (splS c s).length (Nat.le_refl _) (by have := splS_le c s; unfold maxLen; omega) (by simp)
  unfold Own
  rw [List.length_map]
  exact h2
/-- What is still to come: the pieces laid, the piece begun at 'fr', the rest from k on. -/
def splT (c : UInt8) (s : ByteArray) (ps : List ByteArray) (fr k : Nat) : List ByteArray := ps ++ (splA c (((L s).take k).drop fr) ((L s).drop k)).map strOf
theorem splT_start (c : UInt8) (s : ByteArray) : splT c s [] 0 0 = splS c s := rfl
theorem splT_hit {c : UInt8} {s : ByteArray} {ps : List ByteArray} {fr k : Nat} (hk : k < s.size) (h : s[k] = c) : splT c s ps fr k = splT c s (ps ++ [s.extract fr k]) (k + 1) (k + 1) := by
  have h1 : strOf (((L s).take k).drop fr) = s.extract fr k := bytes_ext (by show L _ = L _; rw [L_extract, strOf_L])
  have h2 : ((L s).take (k + 1)).drop (k + 1) = [] := List.drop_of_length_le (by rw [List.length_take]; omega)
  rw [splT, splT, drop_at s k hk, splA, if_pos h, h2, List.map_cons, h1, List.append_assoc]; rfl
theorem splT_miss {c : UInt8} {s : ByteArray} {ps : List ByteArray} {fr k : Nat} (hk : k < s.size) (hf : fr ≤ k) (h : ¬ s[k] = c) : splT c s ps fr k = splT c s ps fr (k + 1) := by
  rw [splT, splT, drop_at s k hk, splA, if_neg h]
  congr 3
  have h2 : (L s).take (k + 1) = (L s).take k ++ [s[k]] := by
    rw [List.take_add_one]
    congr 1
    rw [List.getElem?_eq_getElem (by rw [L_len]; exact hk)]; rfl
  rw [h2, List.drop_append_of_le_length (by rw [List.length_take, L_len]; omega)]
theorem splT_end (c : UInt8) (s : ByteArray) (ps : List ByteArray) (fr : Nat) : splT c s ps fr s.size = ps ++ [s.extract fr s.size] := by
  have h1 : strOf (((L s).take s.size).drop fr) = s.extract fr s.size := bytes_ext (by show L _ = L _; rw [L_extract, strOf_L])
  have h2 : (L s).drop s.size = [] := List.drop_of_length_le (by rw [L_len]; exact Nat.le_refl _)
  rw [splT, h2, splA, List.map_cons, h1]; rfl
theorem splT_len {c : UInt8} {s : ByteArray} {ps : List ByteArray} {fr k : Nat} {R : List ByteArray} (h : splT c s ps fr k = R) : ps.length + 1 ≤ R.length := by
  rw [← h, splT, List.length_append, List.length_map, splA_length]; omega
set_option maxRecDepth 4000 in
set_option maxHeartbeats 1000000 in
theorem sSplitAny_any (s : ByteArray) (c : UInt8) (hs : s.size ≤ 1048576) (w : World) :
    Calls Tryz.prog 196 #[.string s, .string ⟨#[c]⟩] w fun e w' => ∃ g c', e = .returned (.slice (some ⟨g, 0, none⟩) (splS c s).length c') ∧ Own w' w.heap.size 9 (.slice (some ⟨g, 0, none⟩) (splS c s).length c') ((splS c s).map Value.string) ∧ Below w.heap.size w w' := by
  have hle := splS_le c s
  have hst := splT_start c s
  obtain ⟨R, hR⟩ : ∃ R, splS c s = R := ⟨_, rfl⟩
  obtain ⟨by1, hby⟩ : ∃ b : ByteArray, (⟨#[c]⟩ : ByteArray) = b := ⟨_, rfl⟩
  have hbz : by1.size ≤ 1 := by rw [← hby]; exact Nat.le_refl _
  have hbz2 : 0 < by1.size := by rw [← hby]; exact Nat.zero_lt_one
  have hb0 : by1[0] = c := by subst hby; rfl
  rw [hR] at hle hst ⊢
  rw [hby]
  have HST := Lib.hid hst; have HB0 := Lib.hid hb0
  clear hR hby hst
  go_enter Tryz.func196, Tryz.ntmps196
  go_wp2_with fail
  go_loopw [5, 6, 7, 8] (fun v f i _ wr => ∃ (k fr g m ca : Nat) (ps : List ByteArray), k ≤ s.size ∧ fr ≤ k ∧ i = .int .i64 k ∧ f = .int .i64 fr ∧ v = .slice (some ⟨g, 0, none⟩) m ca ∧ ps.length = m ∧ splT c s ps fr k = R ∧ Own wr w.heap.size 9 (.slice (some ⟨g, 0, none⟩) m ca) (ps.map Value.string) ∧ Below w.heap.size w wr) (fun _ _ i _ _ => s.size - (intOf i).toNat)
  case atStart => exact ⟨0, 0, w.heap.size, 0, 0, [], by omega, by omega, rfl, rfl, rfl, rfl, HST.out, Own.empty (Nat.le_refl _), (Below.refl _ _).alloc (Nat.le_refl _) _⟩
  case round =>
    obtain ⟨k, fr, g, m, ca, ps, hk, hfr, rfl, rfl, rfl, hm, ht, hown, hbel⟩ := hrel
    have hml := splT_len ht
    rw [hm] at hml
    have HM := Lib.hid hm; have HT := Lib.hid ht; have HO := Lib.hid hown
    have hz := hbel.size
    have hm9 : m < 4294967296 := by omega
    have hl5 : (ps.map Value.string).length = m := by rw [List.length_map]; exact hm
    have HL5 := Lib.hid hl5
    clear hm ht hown hl5
    by_cases hlt : k < s.size
    · have hlt2 : (k : Int) < (s.size : Int) := by omega
      have hfr2 : (fr : Int) ≤ (k : Int) := by omega
      have hk2 : (k : Int) ≤ (s.size : Int) := by omega
      have hbz3 : (0 : Int) < (by1.size : Int) := by omega
      obtain ⟨wo, hwo⟩ : ∃ x, x = wr := ⟨_, rfl⟩
      subst hwo
      by_cases hc : s[k] = c
      · have heq : ((s[k].toNat : Int) == (c.toNat : Int)) = true := by rw [hc]; simp
        have hn := splT_hit (ps := ps) (fr := fr) hlt hc
        rw [HT.out] at hn
        have HN := Lib.hid hn
        clear hn hc
        go_wp2_with fail
        go_loopw [5, 6, 8] (fun v f i w3 => v = .slice (some ⟨g, 0, none⟩) m ca ∧ f = .int .i64 fr ∧ i = .int .i64 0 ∧ w3 = wo) (fun _ _ _ _ => 0)
        case atStart => exact ⟨rfl, rfl, rfl, rfl⟩
        case round =>
          obtain ⟨rfl, rfl, rfl, rfl⟩ := hrel
          go_wp2_with fail
          go_quiet (fail)
          go_wp2_with (at_builtin; refine wp_append4 rfl (.tmp 29) (.tmp 34) 23 rfl _ 16 Tryz.underlying23 info_string rfl m ca rfl (HO.out.dr ⟨_, rfl⟩) _ rfl rfl HL5.out hm9 (by decide) hz ?_)
          intro g4 c4 w4 ha4
          have hown4 := ha4.own
          rw [show ps.map Value.string ++ [Value.string (s.extract fr k)] = (ps ++ [s.extract fr k]).map Value.string from by rw [List.map_append]; rfl] at hown4
          have hbel4 : Below w.heap.size w w4 := (hbel.trans ((Dr.refl _).drewN _).below).trans ha4.bel
          have HO4 := Lib.hid hown4
          clear ha4 hown4
          go_wp2_with fail
          go_roundw
          case rel => exact ⟨k + 1, k + 1, g4, m + 1, c4, ps ++ [s.extract fr k], by omega, by omega, by go_num, by go_num, rfl, by rw [List.length_append, HM.out]; rfl, HN.out.symm, HO4.out, hbel4⟩
          case measure => simp [intOf]; omega
      · have heq : ((s[k].toNat : Int) == (c.toNat : Int)) = false := by
          rw [beq_eq_false_iff_ne]
          intro h
          exact hc (UInt8.toNat_inj.1 (by omega))
        have hn := splT_miss (ps := ps) (fr := fr) hlt hfr hc
        rw [HT.out] at hn
        have HN := Lib.hid hn
        clear hn hc
        go_wp2_with fail
        go_loopw [5, 6, 8] (fun v f i w3 => ∃ j : Nat, j ≤ 1 ∧ v = .slice (some ⟨g, 0, none⟩) m ca ∧ f = .int .i64 fr ∧ i = .int .i64 j ∧ Dr wo w3) (fun _ _ i _ => 1 - (intOf i).toNat)
        case atStart => exact ⟨0, by omega, rfl, rfl, rfl, Dr.refl _⟩
        case round =>
          obtain ⟨j, hj, rfl, rfl, rfl, hdr⟩ := hrel
          by_cases hj0 : j = 0
          · subst hj0
            go_wp2_with fail
            go_quiet (fail)
            go_wp2_with fail
            go_roundw
            case rel => exact ⟨1, by omega, rfl, rfl, rfl, hdr.drewN _⟩
            case measure => simp [intOf]
          · have hj1 : j = 1 := by omega
            subst hj1
            have hd1 : decide ((1 : Int) < (by1.size : Int)) = false := decide_eq_false (by omega)
            go_wp2_with fail
            go_roundw
            case rel => exact ⟨k + 1, fr, g, m, ca, ps, by omega, by omega, by go_num, rfl, rfl, HM.out, HN.out.symm, HO.out.dr hdr, hbel.trans hdr.below⟩
            case measure => simp [intOf]; omega
    · have hk3 : k = s.size := by omega
      have hlt9 : decide ((k : Int) < (s.size : Int)) = false := decide_eq_false (by omega)
      have hfr2 : (fr : Int) ≤ (s.size : Int) := by omega
      have hend := splT_end c s ps fr
      rw [← hk3, HT.out, hk3] at hend
      have HE := Lib.hid hend
      clear hend hk3
      go_wp2_with (at_builtin; refine wp_append4 rfl (.tmp 38) (.tmp 42) 23 rfl _ 16 Tryz.underlying23 info_string rfl m ca rfl HO.out _ rfl rfl HL5.out hm9 (by decide) hz ?_)
      intro g4 c4 w4 ha4
      have hown4 := ha4.own
      rw [show ps.map Value.string ++ [Value.string (s.extract fr s.size)] = R.map Value.string from by rw [HE.out, List.map_append]; rfl] at hown4
      have hbel4 : Below w.heap.size w w4 := hbel.trans ha4.bel
      have hlR : R.length = m + 1 := by rw [HE.out, List.length_append, HM.out]; rfl
      have HO4 := Lib.hid hown4; have HLR := Lib.hid hlR
      clear ha4 hown4 hlR
      go_wp2_with fail
      go_ret
      exact ⟨g4, c4, by rw [HLR.out]; rfl, by rw [HLR.out]; exact HO4.out, hbel4⟩
end Go.Proofs.YtbegecoocgkbiaaGreatDoor
