/- Substitutions out of texts: ParseSubst, NamedSubst, FormatSubst of the reference. Asks the shelf's text (strings.Split). No condition but the bounds. -/
import Derived.Test.YtbegecoocgkbiaaGreatDoorBok
import Derived.Test.YtbegecoocgkbiaaGreatDoorSpl
import Derived.Test.YtbegecoocgkbiaaGreatDoorJon
import Derived.Test.YtbegecoocgkbiaaGreatDoorFsb
import Derived.Laws.ResultCell
namespace Go.Proofs.YtbegecoocgkbiaaGreatDoor
open Go.RowKit
set_option linter.unusedVariables false

theorem splA_ne (c : UInt8) : ∀ (l cur : List UInt8), splA c cur l ≠ []
  | [], cur => by simp [splA]
  | x :: l, cur => by
    rw [splA]
    split
    · simp
    · exact splA_ne c l _
theorem splA_join (c : UInt8) : ∀ (l cur : List UInt8), Lib.join (splA c cur l) [c] = cur ++ l
  | [], cur => by rw [splA, Lib.join_one, List.append_nil]
  | x :: l, cur => by
    rw [splA]
    split
    · rename_i h
      have ih := splA_join c l []
      have hne := splA_ne c l []
      cases hs : splA c [] l with
      | nil => exact absurd hs hne
      | cons y r =>
        rw [hs, Lib.join_cons] at ih
        rw [Lib.join_cons, Lib.joinTail, List.map_cons, List.flatten_cons, ← Lib.joinTail, h]
        simp only [List.nil_append] at ih
        rw [List.append_assoc, ih]; rfl
    · rw [splA_join c l _]; simp
theorem splS_join (c : UInt8) (s : ByteArray) : jnS c (splS c s) = L s := by
  rw [jnS, splS, List.map_map, show (L ∘ strOf) = id from by funext l; exact strOf_L l, List.map_id, splA_join]; rfl
/-- The substitution that a text says. -/
def psV (s : ByteArray) : Option (List ByteArray) := if suOk (splS 44 s) then some (splS 44 s) else none
def psL (s : ByteArray) : List ByteArray := (psV s).getD []
theorem psV_no {s : ByteArray} (h : suOk (splS 44 s) = false) : psV s = none := by rw [psV, h]; rfl
theorem psV_yes {s : ByteArray} (h : suOk (splS 44 s) = true) : psV s = some (splS 44 s) := by rw [psV, if_pos h]
theorem psV_long {s : ByteArray} (h : 40 < s.size) : psV s = none := by
  apply psV_no
  cases h2 : suOk (splS 44 s)
  · rfl
  · obtain ⟨h3, h4⟩ := su_img h2
    have h5 := jnS_length 44 _ 8 h4
    rw [splS_join, L_len] at h5
    have : (splS 44 s).length * (8 + 1) ≤ 4 * (8 + 1) := Nat.mul_le_mul_right _ h3
    omega
theorem results_cell_tmp_row {P : Program} {fn : Func} {p u : Tmp} {ty : TypeId} (h : fn.results = #[.cell p ty, .tmp u]) (tmps : Array Value) (w : World) (g : Nat) (t : TypeId) (cs : Array Value) (fr : Nat × Nat) (d : TypeDesc)
    (hp : tmps.getD p undef = .pointer (some ⟨g, 0, none⟩)) (hg : w.heap[g]? = some (.cells cs t fr))
    (hu : P.underlying ty = some d) (hd : (match d with | .struct _ | .array _ _ => true | _ => false) = true) (hi : (P.info? ty).map (·.size) = some cs.size) :
    (results fn tmps).run P w = .ok (.tuple #[.agg cs, tmps.getD u undef]) w := by
  rw [results_cell_tmp h, hp]
  simp [asAddr, Result.andThen, run_loadVar_row w g t ty cs fr d hg hu hd hi]
set_option maxRecDepth 4000 in
set_option maxHeartbeats 1000000 in
theorem iParseSubst_any (s : ByteArray) (hs : s.size ≤ 1048576) (w : World) (hml : MlS w) :
    Calls Tryz.prog 58 #[.string s] w fun e w' => ∃ A c, e = .returned (.tuple #[.agg #[.slice A (psL s).length c], .bool (psV s).isSome]) ∧ Own w' w.heap.size 9 (.slice A (psL s).length c) ((psL s).map Value.string) ∧ Below w.heap.size w w' := by
  have hps : ∀ p ∈ splS 44 s, p.size ≤ 1048576 := fun p hp => Nat.le_trans (splS_size 44 s p hp) hs
  have hnl := splS_le 44 s
  have bA : Below w.heap.size w (w.alloc (.cells #[.slice none 0 0] 25)) := (Below.refl _ _).alloc (Nat.le_refl _) _
  have hsp := split_any s 44 (by omega) _ (hml.below bA)
  have hno := psV_no (s := s)
  have hyes := psV_yes (s := s)
  obtain ⟨ps, hpp⟩ : ∃ ps, splS 44 s = ps := ⟨_, rfl⟩
  rw [hpp] at hsp hps hnl hno hyes
  obtain ⟨n, hn⟩ : ∃ n, ps.length = n := ⟨_, rfl⟩
  have hso := fun A c B w' hB hr => iSubstOk_any ps A c B w' hB (by omega) (fun x hx => by have := hps x hx; unfold maxLen; omega) hr
  rw [hn] at hsp hnl hso
  have HSP := Lib.hid hsp; have HSO := Lib.hid hso; have HNO := Lib.hid hno; have HYES := Lib.hid hyes; have HN := Lib.hid hn
  have h0 := heap_alloc_new w (.cells #[.slice none 0 0] 25)
  have H0 := Lib.hid h0
  clear hsp hso hno hyes hn hps hpp hml h0 bA
  go_enter Tryz.func58, Tryz.ntmps58
  go_wp2_with fail
  refine HSP.out.mono ?_
  rintro e w1 ⟨gs, rfl, o1, b1⟩
  have z0 : (w.alloc (.cells #[.slice none 0 0] 25)).heap.size = w.heap.size + 1 := by simp
  have z1 := b1.size
  rw [z0] at z1 o1
  have bB : Below w1.heap.size w1 (w1.alloc (.cells #[.slice (some ⟨gs, 0, none⟩) n n] 25)) := (Below.refl _ _).alloc (Nat.le_refl _) _
  have hso := HSO.out (some ⟨gs, 0, none⟩) n _ _ bB.size (o1.reads.below bB (Nat.le_refl _))
  have HSO2 := Lib.hid hso; have O1 := Lib.hid o1; have B1 := Lib.hid b1; have BB := Lib.hid bB; have Z0 := Lib.hid z0
  clear hso o1 b1 bB z0
  cases hok : suOk ps
  · rw [hok] at HSO2
    have HV := Lib.hid (HNO.out hok)
    clear hok
    go_wp2_with (go_at_call 59; refine HSO2.out.mono ?_; rintro e w2 ⟨rfl, b2⟩; have q1 := (b2.block w.heap.size (by have := BB.out.size; omega)).trans ((BB.out.block w.heap.size (by omega)).trans ((B1.out.block w.heap.size (by rw [Z0.out]; omega)).trans H0.out)); have k1 := cell_of_row _ _ 0 _ _ (0, 0) q1; have f1 := frozen_of_row _ _ 0 _ _ q1)
    refine bodyPost_ret (results_cell_tmp_row rfl _ _ w.heap.size 25 _ (0, 0) _ rfl (box_set (k := 0) q1 (.slice none 0 0)) Tryz.underlying25 rfl (by kernel_rfl)) rfl ?_
    refine ⟨none, 0, by rw [psL, HV.out]; rfl, by rw [psL, HV.out]; exact Own.nil, ?_⟩
    have hw2 : Below w.heap.size w w2 := (((Below.refl _ _).alloc (Nat.le_refl _) _).trans (B1.out.mono (by rw [Z0.out]; omega))).trans ((BB.out.mono (by omega)).trans (b2.mono (by have := BB.out.size; omega)))
    exact hw2.setCell (Nat.le_refl _) _
  · rw [hok] at HSO2
    have HV := Lib.hid (HYES.out hok)
    clear hok
    go_wp2_with (go_at_call 59; refine HSO2.out.mono ?_; rintro e w2 ⟨rfl, b2⟩; have q1 := (b2.block w.heap.size (by have := BB.out.size; omega)).trans ((BB.out.block w.heap.size (by omega)).trans ((B1.out.block w.heap.size (by rw [Z0.out]; omega)).trans H0.out)); have k1 := cell_of_row _ _ 0 _ _ (0, 0) q1; have f1 := frozen_of_row _ _ 0 _ _ q1; have k2 := (b2.cell (p := ⟨w1.heap.size, 0, none⟩) (by simp)).trans (cell_of_row _ _ 0 _ _ (0, 0) (heap_alloc_new w1 (.cells #[.slice (some ⟨gs, 0, none⟩) n n] 25))))
    refine bodyPost_ret (results_cell_tmp_row rfl _ _ w.heap.size 25 _ (0, 0) _ rfl (box_set (k := 0) q1 (.slice (some ⟨gs, 0, none⟩) n n)) Tryz.underlying25 rfl (by kernel_rfl)) rfl ?_
    have hw2 : Below w.heap.size w w2 := (((Below.refl _ _).alloc (Nat.le_refl _) _).trans (B1.out.mono (by rw [Z0.out]; omega))).trans ((BB.out.mono (by omega)).trans (b2.mono (by have := BB.out.size; omega)))
    have ho := (((O1.out.below BB.out).below b2).far_set (g := w.heap.size) (k := 0) (by omega) (.slice (some ⟨gs, 0, none⟩) n n)).lower (B' := w.heap.size) (by omega)
    exact ⟨some ⟨gs, 0, none⟩, n, by rw [psL, HV.out]; show _ = Ending.returned (.tuple #[.agg #[.slice _ ps.length n], _]); rw [HN.out]; rfl, by rw [psL, HV.out]; show Own _ _ _ (.slice _ ps.length n) _; rw [HN.out]; exact ho, hw2.setCell (Nat.le_refl _) _⟩
set_option maxRecDepth 4000 in
set_option maxHeartbeats 1000000 in
theorem sParseSubst_any (s : ByteArray) (hs : s.size ≤ 1048576) (w : World) :
    Calls Tryz.prog 162 #[.string s] w fun e w' => ∃ A c, e = .returned (.tuple #[.agg #[.slice A (psL s).length c], .bool (psV s).isSome]) ∧ Own w' w.heap.size 9 (.slice A (psL s).length c) ((psL s).map Value.string) ∧ Below w.heap.size w w' := by
  have hps : ∀ p ∈ splS 44 s, p.size ≤ 1048576 := fun p hp => Nat.le_trans (splS_size 44 s p hp) hs
  have hnl := splS_le 44 s
  have bA : Below w.heap.size w (w.alloc (.cells #[.slice none 0 0] 25)) := (Below.refl _ _).alloc (Nat.le_refl _) _
  have h0 := heap_alloc_new w (.cells #[.slice none 0 0] 25)
  by_cases h40 : 40 < s.size
  · have HV := Lib.hid (psV_long h40)
    have h41 : (40 : Int) < (s.size : Int) := by omega
    have k1 := cell_of_row _ _ 0 _ _ (0, 0) h0
    have f1 := frozen_of_row _ _ 0 _ _ h0
    go_enter Tryz.func162, Tryz.ntmps162
    go_wp2_with fail
    refine bodyPost_ret (results_cell_tmp_row rfl _ _ w.heap.size 25 _ (0, 0) _ rfl h0 Tryz.underlying25 rfl (by kernel_rfl)) rfl ?_
    exact ⟨none, 0, by rw [psL, HV.out]; rfl, by rw [psL, HV.out]; exact Own.nil, bA⟩
  have h41 : decide ((40 : Int) < (s.size : Int)) = false := decide_eq_false (by omega)
  have h42 : decide (40 < s.size) = false := decide_eq_false h40
  have hsp := sSplitAny_any s 44 hs (w.alloc (.cells #[.slice none 0 0] 25))
  have hno := psV_no (s := s)
  have hyes := psV_yes (s := s)
  have hfj : suOk (splS 44 s) = true → fsV (splS 44 s) = s := fun h => by rw [fsV, if_pos h, splS_join, strOf_of_L]
  obtain ⟨ps, hpp⟩ : ∃ ps, splS 44 s = ps := ⟨_, rfl⟩
  rw [hpp] at hsp hps hnl hno hyes hfj
  obtain ⟨n, hn⟩ : ∃ n, ps.length = n := ⟨_, rfl⟩
  have hso := fun A c B w' hB hr => sSubstOk_any ps A c B w' hB (by omega) (fun x hx => by have := hps x hx; unfold maxLen; omega) hr
  have hfs := fun A c B w' hB hr => sFormatSubst_any ps A n c B w' hn hB (by omega) (fun x hx => by have := hps x hx; unfold maxLen; omega) hr
  rw [hn] at hsp hnl hso
  have HSP := Lib.hid hsp; have HSO := Lib.hid hso; have HNO := Lib.hid hno; have HYES := Lib.hid hyes; have HN := Lib.hid hn; have HFS := Lib.hid hfs; have HFJ := Lib.hid hfj
  have H0 := Lib.hid h0
  clear hsp hso hno hyes hn hps hpp h0 bA hfs hfj h40
  go_enter Tryz.func162, Tryz.ntmps162
  go_wp2_with fail
  refine HSP.out.mono ?_
  rintro e w1 ⟨gs, cs, rfl, o1, b1⟩
  have z0 : (w.alloc (.cells #[.slice none 0 0] 25)).heap.size = w.heap.size + 1 := by simp
  have z1 := b1.size
  rw [z0] at z1 o1
  have bB : Below w1.heap.size w1 (w1.alloc (.cells #[.slice (some ⟨gs, 0, none⟩) n cs] 25)) := (Below.refl _ _).alloc (Nat.le_refl _) _
  have hrB := o1.reads.below bB (Nat.le_refl _)
  have hso := HSO.out (some ⟨gs, 0, none⟩) cs _ _ bB.size hrB
  have HSO2 := Lib.hid hso; have O1 := Lib.hid o1; have B1 := Lib.hid b1; have BB := Lib.hid bB; have Z0 := Lib.hid z0; have HRB := Lib.hid hrB
  clear hso o1 b1 bB z0 hrB
  cases hok : suOk ps
  · rw [hok] at HSO2
    have HV := Lib.hid (HNO.out hok)
    clear hok
    go_wp2_with (go_at_call 197; refine HSO2.out.mono ?_; rintro e w2 ⟨rfl, b2⟩; have q1 := (b2.block w.heap.size (by have := BB.out.size; omega)).trans ((BB.out.block w.heap.size (by omega)).trans ((B1.out.block w.heap.size (by rw [Z0.out]; omega)).trans H0.out)); have k1 := cell_of_row _ _ 0 _ _ (0, 0) q1; have f1 := frozen_of_row _ _ 0 _ _ q1)
    refine bodyPost_ret (results_cell_tmp_row rfl _ _ w.heap.size 25 _ (0, 0) _ rfl (box_set (k := 0) q1 (.slice none 0 0)) Tryz.underlying25 rfl (by kernel_rfl)) rfl ?_
    refine ⟨none, 0, by rw [psL, HV.out]; rfl, by rw [psL, HV.out]; exact Own.nil, ?_⟩
    have hw2 : Below w.heap.size w w2 := (((Below.refl _ _).alloc (Nat.le_refl _) _).trans (B1.out.mono (by rw [Z0.out]; omega))).trans ((BB.out.mono (by omega)).trans (b2.mono (by have := BB.out.size; omega)))
    exact hw2.setCell (Nat.le_refl _) _
  · rw [hok] at HSO2
    have HV := Lib.hid (HYES.out hok)
    have hfs := fun w' hB hr => HFS.out (some ⟨gs, 0, none⟩) cs w1.heap.size w' hB hr
    simp only [HFJ.out hok] at hfs
    have HFS2 := Lib.hid hfs
    clear hok hfs
    go_wp2_with (first
      | (go_at_call 197; refine HSO2.out.mono ?_; rintro e w2 ⟨rfl, b2⟩; have k2 := (b2.cell (p := ⟨w1.heap.size, 0, none⟩) (by simp)).trans (cell_of_row _ _ 0 _ _ (0, 0) (heap_alloc_new w1 (.cells #[.slice (some ⟨gs, 0, none⟩) n cs] 25))))
      | (go_at_call 198; refine (HFS2.out _ (Nat.le_trans BB.out.size b2.size) (HRB.out.below b2 BB.out.size)).mono ?_; rintro e w3 ⟨rfl, b3⟩; have b23 := b2.trans (b3.mono b2.size); have q1 := (b23.block w.heap.size (by have := BB.out.size; omega)).trans ((BB.out.block w.heap.size (by omega)).trans ((B1.out.block w.heap.size (by rw [Z0.out]; omega)).trans H0.out)); have k1 := cell_of_row _ _ 0 _ _ (0, 0) q1; have f1 := frozen_of_row _ _ 0 _ _ q1; have k3 := (b3.cell (p := ⟨w1.heap.size, 0, none⟩) (Nat.lt_of_lt_of_le (by simp) b2.size)).trans k2))
    refine bodyPost_ret (results_cell_tmp_row rfl _ _ w.heap.size 25 _ (0, 0) _ rfl (box_set (k := 0) q1 (.slice (some ⟨gs, 0, none⟩) n cs)) Tryz.underlying25 rfl (by kernel_rfl)) rfl ?_
    have hw2 : Below w.heap.size w w3 := (((Below.refl _ _).alloc (Nat.le_refl _) _).trans (B1.out.mono (by rw [Z0.out]; omega))).trans ((BB.out.mono (by omega)).trans (b23.mono (by have := BB.out.size; omega)))
    have ho := (((O1.out.below BB.out).below b23).far_set (g := w.heap.size) (k := 0) (by omega) (.slice (some ⟨gs, 0, none⟩) n cs)).lower (B' := w.heap.size) (by omega)
    exact ⟨some ⟨gs, 0, none⟩, cs, by rw [psL, HV.out]; show _ = Ending.returned (.tuple #[.agg #[.slice _ ps.length cs], _]); rw [HN.out]; rfl, by rw [psL, HV.out]; show Own _ _ _ (.slice _ ps.length cs) _; rw [HN.out]; exact ho, hw2.setCell (Nat.le_refl _) _⟩
end Go.Proofs.YtbegecoocgkbiaaGreatDoor
