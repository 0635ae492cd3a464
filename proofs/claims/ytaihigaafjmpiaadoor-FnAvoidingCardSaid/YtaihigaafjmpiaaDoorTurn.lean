/- TurnBan, both: the words of a ban, each turned. -/
import Derived.Test.YtaihigaafjmpiaaDoorBan
import Derived.Test.YtaihigaafjmpiaaDoorByt
namespace Go.Proofs.YtaihigaafjmpiaaDoor
open Go.RowKit
set_option linter.unusedVariables false

def rv (s : ByteArray) : List UInt8 := (L s).reverse
def trn (s : ByteArray) : ByteArray := strOf (rv s)
theorem rv_length (s : ByteArray) : (rv s).length = s.size := by rw [rv, List.length_reverse, L_len]
theorem rv_at (s : ByteArray) (j : Nat) (h : j < s.size) : (rv s)[j]? = some (s[s.size - 1 - j]'(by omega)) := by
  rw [rv, List.getElem?_reverse (by rw [L_len]; exact h), L_len]
  have : s.size - 1 - j < (L s).length := by rw [L_len]; omega
  rw [List.getElem?_eq_getElem this]; rfl
theorem rv_take_succ (s : ByteArray) (j : Nat) (b : UInt8) (h : (rv s)[j]? = some b) : (rv s).take (j + 1) = (rv s).take j ++ [b] := by
  rw [List.take_add_one, h]; rfl
set_option maxRecDepth 4000 in
set_option maxHeartbeats 400000 in
theorem flip_any (s : ByteArray) (hs : s.size ≤ 1000000) (w : World) :
    Calls Tryd.prog 15 #[.string s] w fun e w' => e = .returned (.string (trn s)) ∧ Below w.heap.size w w' := by
  have HL := Lib.hid (rv_length s)
  go_enter Tryd.func15, Tryd.ntmps15
  go_wp2_with fail
  go_loopw [3, 4] (fun v i wr => ∃ j : Nat, ∃ x : Int, ∃ A c, j ≤ s.size ∧ x = (s.size : Int) - 1 - j ∧ i = .int .i64 x ∧ v = .slice A j c ∧ Own wr w.heap.size 5 (.slice A j c) (byV ((rv s).take j)) ∧ Below w.heap.size w wr) (fun _ i _ => (intOf i + 1).toNat)
  case atStart => exact ⟨0, (s.size : Int) - 1, _, _, by omega, by omega, rfl, rfl, Own.empty (Nat.le_refl _), (Below.refl _ _).alloc (Nat.le_refl _) _⟩
  case round =>
    obtain ⟨j, x, A, c, hj, hx, rfl, rfl, hown, hbel⟩ := hrel
    have x1 : x + j + 1 ≤ s.size := by omega
    have x2 : (s.size : Int) ≤ x + j + 1 := by omega
    have x3 : x < (s.size : Int) := by omega
    have HX := Lib.hid hx; clear hx
    have HO := Lib.hid hown; clear hown
    by_cases hlt : 0 ≤ x
    · have hjs : j < s.size := by omega
      obtain ⟨b, hb⟩ : ∃ b, s[x.toNat]'(by omega) = b := ⟨_, rfl⟩
      have hat : (rv s)[j]? = some b := by
        rw [rv_at s j hjs, ← hb]; congr 1; congr 1; omega
      have HT := Lib.hid (rv_take_succ s j b hat); clear hat
      have hdl : ((rv s).take j).length = j := by rw [List.length_take, HL.out]; omega
      have HDL := Lib.hid hdl; clear hdl
      go_wp2_with (at_builtin; refine wp_append1 rfl (.tmp 13) (.tmp 17) 22 rfl _ 1 Tryd.underlying22 info_u8 rfl rfl HO.out _ rfl rfl j ?n1 ?n2 ?n3 ?n4 ?_)
      case n1 => rw [byV_length, HDL.out]
      case n2 => omega
      case n3 => decide
      case n4 => exact hbel.size
      intro A' c' w2 hown2 hbel2 hsz2
      rw [byV_snoc, ← HT.out] at hown2
      have HO2 := Lib.hid hown2; clear hown2
      go_wp2_with fail
      go_roundw
      case rel => exact ⟨j + 1, x - 1, A', c', by omega, by omega, by go_num, rfl, HO2.out, hbel.trans hbel2⟩
      case measure => simp [intOf]; omega
    · have hjs : j = s.size := by omega
      have h1 : (rv s).take j = rv s := List.take_of_length_le (by rw [HL.out]; omega)
      have HO2 := HO.out
      rw [h1] at HO2
      have hcv := HO2.reads.conv (P := Tryd.prog) (HL.out.trans hjs.symm) 22 9 5 c Tryd.underlying22 Tryd.underlying5 Tryd.underlying9
      clear HO2 h1 hjs x1 x2 x3
      go_wp2_with fail
      go_ret
      exact ⟨rfl, hbel⟩
theorem tr_step (l : List UInt8) (n k : Nat) (b : UInt8) (hl : l.length = n) (hk : k < n) (hb : l[n - 1 - k]? = some b) :
    (List.replicate (n - k) (0 : UInt8) ++ l.drop (n - k)).set (n - 1 - k) b = List.replicate (n - (k + 1)) 0 ++ l.drop (n - (k + 1)) := by
  obtain ⟨m, hm⟩ : ∃ m, n - k = m + 1 := ⟨n - k - 1, by omega⟩
  have e1 : n - 1 - k = m := by omega
  have e2 : n - (k + 1) = m := by omega
  rw [e1] at hb
  rw [hm, e1, e2]
  rw [List.replicate_succ', List.append_assoc, List.set_append_right _ _ (by simp), List.length_replicate, Nat.sub_self, List.singleton_append, List.set_cons_zero]
  congr 1
  obtain ⟨hlt, he⟩ := List.getElem?_eq_some_iff.1 hb
  rw [List.drop_eq_getElem_cons hlt, he]
set_option maxRecDepth 4000 in
set_option maxHeartbeats 400000 in
theorem turned_any (s : ByteArray) (hs : s.size ≤ 1000000) (w : World) :
    Calls Tryd.prog 33 #[.string s] w fun e w' => e = .returned (.string (trn s)) ∧ Below w.heap.size w w' := by
  have HL := Lib.hid (rv_length s)
  have hmk := run_make_row' (P := Tryd.prog) 22 5 _ 1 Tryd.underlying22 info_u8 rfl .i64 .i64 s.size (by omega) (by omega)
  go_enter Tryd.func33, Tryd.ntmps33
  go_wp2_with fail
  go_loopw [4, 10] (fun _ i wr => ∃ k : Nat, k ≤ s.size ∧ i = .int .i64 k ∧ Own wr w.heap.size 5 (.slice (some ⟨w.heap.size, 0, none⟩) s.size s.size) (byV (List.replicate (s.size - k) 0 ++ (rv s).drop (s.size - k))) ∧ Below w.heap.size w wr) (fun _ i _ => s.size - (intOf i).toNat)
  case atStart =>
    refine ⟨0, by omega, rfl, ?_, (Below.refl _ _).alloc (Nat.le_refl _) _⟩
    have h1 : byV (List.replicate (s.size - 0) 0 ++ (rv s).drop (s.size - 0)) = List.replicate s.size (Value.int .u8 0) := by
      rw [List.drop_eq_nil_of_le (by rw [HL.out]; omega)]; simp [byV]
    rw [h1]
    exact Own.made (Nat.le_refl _) (by unfold maxLen; omega)
  case round =>
    obtain ⟨k, hk, rfl, hown, hbel⟩ := hrel
    by_cases hlt : k < s.size
    · obtain ⟨b, hb⟩ : ∃ b, s[k]'hlt = b := ⟨_, rfl⟩
      have hat : (rv s)[s.size - 1 - k]? = some b := by
        rw [rv_at s _ (by omega), ← hb]; congr 1; congr 1; omega
      have hlen : (byV (List.replicate (s.size - k) 0 ++ (rv s).drop (s.size - k))).length = s.size := by rw [byV_length]; simp [HL.out]
      obtain ⟨g, hg, hBg, hgs, hcell, hfr, hst⟩ := hown.store (k := s.size - 1 - k) (by rw [hlen]; omega)
      injection hg with hg
      injection hg with hg
      subst hg
      obtain ⟨old, hold⟩ := some_of_lt (l := byV (List.replicate (s.size - k) 0 ++ (rv s).drop (s.size - k))) (k := s.size - 1 - k) (by rw [hlen]; omega)
      rw [hold] at hcell
      have hst1 := hst (.int .u8 b.toNat)
      have hset : (byV (List.replicate (s.size - k) 0 ++ (rv s).drop (s.size - k))).set (s.size - 1 - k) (.int .u8 b.toNat) = byV (List.replicate (s.size - (k + 1)) 0 ++ (rv s).drop (s.size - (k + 1))) := by
        rw [byV, ← tr_step (rv s) s.size k b HL.out hlt hat, byV, List.map_set]
      rw [hset] at hst1
      have HST := Lib.hid hst1
      have hp1 : IntKind.i64.wrap ((s.size : Int) - 1) = (s.size : Int) - 1 := IntWalk.i64_in _ (by omega)
      have hp2 : IntKind.i64.wrap ((s.size : Int) - 1 - k) = ((s.size - 1 - k : Nat) : Int) := by rw [IntWalk.i64_in _ (by omega)]; omega
      have hp3 : (s.size : Int) - 1 - k = ((s.size - 1 - k : Nat) : Int) := by omega
      have hp4 : s.size - 1 - k < s.size := by omega
      clear hst hst1 hset hlen hown hold hat
      go_wp2_with fail
      go_roundw
      case rel => exact ⟨k + 1, by omega, by go_num, HST.out.1, hbel.trans HST.out.2.1⟩
      case measure => simp [intOf]; omega
    · have hkn : k = s.size := by omega
      have h1 : List.replicate (s.size - k) (0 : UInt8) ++ (rv s).drop (s.size - k) = rv s := by rw [hkn]; simp
      rw [h1] at hown
      have hcv := hown.reads.conv (P := Tryd.prog) HL.out 22 9 5 s.size Tryd.underlying22 Tryd.underlying5 Tryd.underlying9
      clear hown h1 hkn
      go_wp2_with fail
      go_ret
      exact ⟨rfl, hbel⟩
/-- What TurnBan returns. -/
def turnL (ss : List ByteArray) : List ByteArray := if banOk ss = true then ss.map trn else []
theorem tbOk_len {ss : List ByteArray} (h : banOk ss = true) : ss.length ≤ 8 := by
  unfold banOk at h; simp at h; exact h.2
theorem tbOk_size {ss : List ByteArray} (h : banOk ss = true) : ∀ s ∈ ss, s.size ≤ 4 := by
  intro s hs
  unfold banOk at h
  simp only [Bool.and_eq_true, List.all_eq_true] at h
  have := h.1 s hs
  unfold banW at this
  simp at this
  exact this.2.2
theorem turnL_len (ss : List ByteArray) : (turnL ss).length ≤ 8 := by
  unfold turnL; split
  · rename_i h; rw [List.length_map]; exact tbOk_len h
  · simp
theorem trn_take {ss : List ByteArray} {k : Nat} {s : ByteArray} (h : ss[k]? = some s) : (ss.take (k + 1)).map trn = (ss.take k).map trn ++ [trn s] := by
  rw [List.take_add_one, h]; simp
set_option maxHeartbeats 400000 in
theorem iTurnBan_any (ss : List ByteArray) (A : Option Addr) (c B : Nat) (w : World) (hB : B ≤ w.heap.size) (hn : ss.length ≤ 4294967296) (hsz : ∀ s ∈ ss, s.size ≤ maxLen) (hrd : Rds w B A (ss.map Value.string)) :
    Calls Tryd.prog 10 #[.slice A ss.length c] w fun e w' => ∃ A' c', e = .returned (.slice A' (turnL ss).length c') ∧ Own w' w.heap.size 9 (.slice A' (turnL ss).length c') ((turnL ss).map Value.string) ∧ Below w.heap.size w w' := by
  have HZ := Lib.hid hsz; clear hsz
  have HR := Lib.hid hrd; clear hrd
  cases hb : banOk ss
  · have hl : turnL ss = [] := by rw [turnL, hb]; rfl
    rw [hl]
    have HB := Lib.hid hb; clear hb hl
    go_enter Tryd.func10, Tryd.ntmps10
    go_wp2_with fail
    refine (iBanOk_any ss A c B _ hn HZ.out HR.out).mono ?_
    rw [HB.out]
    rintro e w1 ⟨rfl, d1⟩
    go_wp2_with fail
    go_ret
    exact ⟨none, 0, rfl, Own.nil, d1.below⟩
  · have hl : turnL ss = ss.map trn := by rw [turnL, hb]; rfl
    have h8 := tbOk_len hb
    have HS := Lib.hid (tbOk_size hb)
    have HB := Lib.hid hb; clear hb
    rw [hl, List.length_map]
    clear hl
    go_enter Tryd.func10, Tryd.ntmps10
    go_wp2_with fail
    refine (iBanOk_any ss A c B _ hn HZ.out HR.out).mono ?_
    rw [HB.out]
    rintro e w1 ⟨rfl, d1⟩
    have e1 := (d1.below (B := 0)).size
    go_wp2_with fail
    go_loopw [3, 5, 12] (fun v _ i wr => ∃ k : Nat, ∃ A c, k ≤ ss.length ∧ i = .int .i64 k ∧ v = .slice A k c ∧ Own wr w.heap.size 9 (.slice A k c) (((ss.take k).map trn).map Value.string) ∧ Below w.heap.size w wr) (fun _ _ i _ => ss.length - (intOf i).toNat)
    case atStart => exact ⟨0, _, _, by omega, rfl, rfl, Own.empty e1, d1.below.trans ((Below.refl _ _).alloc e1 _)⟩
    case round =>
      clear d1 e1
      obtain ⟨k, A1, c1, hk, rfl, rfl, hown, hbel⟩ := hrel
      have HO := Lib.hid hown; clear hown
      by_cases hlt : k < ss.length
      · obtain ⟨s, hs⟩ := some_of_lt (l := ss) (k := k) hlt
        have hs4 := HS.out s (List.mem_of_getElem? hs)
        obtain ⟨ad, rfl, hc⟩ := (HR.out.below hbel hB).at_ (map_at Value.string hs)
        have HT := Lib.hid (trn_take hs); clear hs
        have hB2 := hbel.size
        go_wp2_with fail
        refine (turned_any s (by omega) _).mono ?_
        rintro e w2 ⟨rfl, b2⟩
        have hown1 := HO.out.below b2
        have HO1 := Lib.hid hown1; clear hown1 HO
        have hbel1 : Below w.heap.size w w2 := hbel.trans (b2.mono hB2)
        clear hbel b2 hc
        go_wp2_with (at_builtin; refine wp_append1 rfl (.tmp 16) (.tmp 19) 23 rfl _ 16 Tryd.underlying23 info_string rfl rfl HO1.out _ rfl rfl k ?n1 ?n2 ?n3 ?n4 ?_)
        case n1 => simp; omega
        case n2 => omega
        case n3 => decide
        case n4 => exact hbel1.size
        intro A' c' w3 hown3 hbel3 hsz3
        have hown4 : Own w3 w.heap.size 9 (.slice A' (k + 1) c') (((ss.take (k + 1)).map trn).map Value.string) := by
          rw [HT.out, List.map_append]; simpa using hown3
        have HO2 := Lib.hid hown4; clear hown3 hown4
        go_wp2_with fail
        go_roundw
        case rel => exact ⟨k + 1, A', c', by omega, by go_num, rfl, HO2.out, hbel1.trans hbel3⟩
        case measure => simp [intOf]; omega
      · have hkn : k = ss.length := by omega
        subst hkn
        rw [List.take_length] at HO
        go_wp2_with fail
        go_ret
        exact ⟨A1, c1, rfl, HO.out, hbel⟩
end Go.Proofs.YtaihigaafjmpiaaDoor
