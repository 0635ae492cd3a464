/- ParseNumbers, both, walked. Asks the shelf's text. No condition but the bounds. -/
import Derived.Test.YtbegecoocgkbiaaGreatDoorM7
import Derived.Test.YtbegecoocgkbiaaGreatDoorSpl
namespace Go.Proofs.YtbegecoocgkbiaaGreatDoor
open Go.RowKit
set_option linter.unusedVariables false

/-- The numbers of the words, if all are numbers. -/
def pg : List ByteArray → List Int → Option (List Int)
  | [], zs => some zs
  | p :: r, zs => match iP p with
    | none => none
    | some v => pg r (zs ++ [v])
theorem pg_no {p : ByteArray} {r : List ByteArray} {zs : List Int} (h : iP p = none) : pg (p :: r) zs = none := by rw [pg, h]
theorem pg_yes {p : ByteArray} {r : List ByteArray} {zs : List Int} {v : Int} (h : iP p = some v) : pg (p :: r) zs = pg r (zs ++ [v]) := by rw [pg, h]
theorem pg_len : ∀ (ps : List ByteArray) (zs l : List Int), pg ps zs = some l → l.length = zs.length + ps.length
  | [], zs, l, h => by
    rw [pg] at h
    injection h with h
    rw [← h]; simp
  | p :: r, zs, l, h => by
    rw [pg] at h
    split at h
    · cases h
    · have := pg_len r _ l h
      rw [List.length_append] at this
      simp at this ⊢; omega
/-- What ParseNumbers returns. -/
def pnV (s : ByteArray) : List Int × Bool :=
  if s = { data := #[45] } then ([], true)
  else match pg (splS 44 s) [] with
    | none => ([], false)
    | some l => if 60 < l.length then ([], false) else (l, true)
theorem pnV_dash : pnV { data := #[45] } = ([], true) := by rw [pnV, if_pos rfl]
theorem pnV_none {s : ByteArray} (h0 : ¬ s = { data := #[45] }) (h : pg (splS 44 s) [] = none) : pnV s = ([], false) := by rw [pnV, if_neg h0, h]
theorem pnV_long {s : ByteArray} {l : List Int} (h0 : ¬ s = { data := #[45] }) (h : pg (splS 44 s) [] = some l) (h2 : 60 < l.length) : pnV s = ([], false) := by
  rw [pnV, if_neg h0, h]; simp only [if_pos h2]
theorem pnV_ok {s : ByteArray} {l : List Int} (h0 : ¬ s = { data := #[45] }) (h : pg (splS 44 s) [] = some l) (h2 : ¬ 60 < l.length) : pnV s = (l, true) := by
  rw [pnV, if_neg h0, h]; simp only [if_neg h2]
theorem pnV_len (s : ByteArray) : (pnV s).1.length ≤ 60 := by
  unfold pnV
  split
  · simp
  · split
    · simp
    · split
      · simp
      · simp only; omega
theorem pg_take {ps : List ByteArray} {k : Nat} {p : ByteArray} {zs : List Int} (h : ps[k]? = some p) : pg (ps.drop k) zs = pg (p :: ps.drop (k + 1)) zs := by rw [drop_at_list h]
set_option maxRecDepth 4000 in
set_option maxHeartbeats 1000000 in
theorem iPn_any (s : ByteArray) (hs : s.size ≤ 1048576) (w : World) (ht : TB w) (hes : ES w) (heg : EG w) (hml : MlS w) :
    Calls Tryz.prog 34 #[.string s] w fun e w' => ∃ A c, e = .returned (.tuple #[.slice A (pnV s).1.length c, .bool (pnV s).2]) ∧ Own w' w.heap.size 3 (.slice A (pnV s).1.length c) ((pnV s).1.map (Value.int .i64)) ∧ Below w.heap.size w w' := by
  by_cases h0 : s = { data := #[45] }
  · subst h0
    rw [pnV_dash]
    clear ht hes heg hml
    go_enter Tryz.func34, Tryz.ntmps34
    go_wp2_with fail
    go_ret2
    exact ⟨none, 0, rfl, Own.nil, Below.refl _ _⟩
  · have hne := str_ne h0
    rw [show ({ data := #[45] } : ByteArray).toList = [45] from by rw [ByteArray.toList_eq]] at hne
    have hps : ∀ p ∈ splS 44 s, p.size ≤ 1048576 := fun p hp => Nat.le_trans (splS_size 44 s p hp) hs
    have hpi := fun (p : ByteArray) (hp : p.size ≤ 1048576) w' h1 h2 h3 => iParseInt_any p (by omega) w' h1 h2 h3
    have hnl := splS_le 44 s
    have hnone := pnV_none h0
    have hlong := fun l => pnV_long (l := l) h0
    have hokk := fun l => pnV_ok (l := l) h0
    obtain ⟨ps, hpp⟩ : ∃ ps, splS 44 s = ps := ⟨_, rfl⟩
    have hsp := fun w' h => split_any s 44 (by omega) w' h
    simp only [hpp] at hsp
    rw [hpp] at hps hnl hnone hlong hokk
    obtain ⟨n, hn⟩ : ∃ n, ps.length = n := ⟨_, rfl⟩
    simp only [hn] at hsp
    rw [hn] at hnl
    have hn9 : n ≤ 1048577 := by omega
    obtain ⟨V, hV⟩ : ∃ V, pnV s = V := ⟨_, rfl⟩
    rw [hV] at hnone hlong hokk ⊢
    have HPS := Lib.hid hps; have HPI := Lib.hid hpi; have HNO := Lib.hid hnone; have HLO := Lib.hid hlong; have HOK := Lib.hid hokk; have HSP := Lib.hid hsp; have HN := Lib.hid hn; have HT := Lib.hid ht; have HES := Lib.hid hes; have HEG := Lib.hid heg; have HML := Lib.hid hml
    clear hps hpi hnone hlong hokk hsp hn ht hes heg hml hpp hV h0 hnl
    have bA : Below w.heap.size w (w.alloc (.cells #[] 3)) := (Below.refl _ _).alloc (Nat.le_refl _) _
    have hsp := HSP.out _ (HML.out.below bA)
    have HSP2 := Lib.hid hsp
    clear hsp
    go_enter Tryz.func34, Tryz.ntmps34
    go_wp2_with fail
    refine HSP2.out.mono ?_
    rintro e w1 ⟨gs, rfl, o1, b1⟩
    have b01 := bA.trans (b1.mono bA.size)
    have h0 := (Own.empty (w := w) (E := 3) (Nat.le_refl w.heap.size)).below b1
    have hap : Ap (.slice (some ⟨w.heap.size, 0, none⟩) 0 0) (.slice (some ⟨gs, 0, none⟩) n n) := fun q h1 h2 => by
      have h3 := (World.ownsRow.lt o1 q h2).1
      have h4 : w.heap.size = q := by simpa [Value.ownBlock] using h1
      have h5 := (Own.empty (w := w) (E := 3) (Nat.le_refl w.heap.size)).lt w.heap.size rfl
      omega
    have O1 := Lib.hid (o1.lower bA.size); have H0 := Lib.hid h0; have HAP := Lib.hid hap
    clear o1 h0 hap b1
    go_wp2_with fail
    go_loopw [4, 6, 7, 8, 15] (fun v _ _ _ i wr => ∃ (k g m c : Nat) (zs : List Int), k ≤ n ∧ m ≤ k ∧ i = .int .i64 k ∧ v = .slice (some ⟨g, 0, none⟩) m c ∧ zs.length = m ∧ pg (ps.drop k) zs = pg ps [] ∧ Ap (.slice (some ⟨g, 0, none⟩) m c) (.slice (some ⟨gs, 0, none⟩) n n) ∧ Own wr w.heap.size 3 (.slice (some ⟨g, 0, none⟩) m c) (zs.map (Value.int .i64)) ∧ Own wr w.heap.size 9 (.slice (some ⟨gs, 0, none⟩) n n) (ps.map Value.string) ∧ Below w.heap.size w wr) (fun _ _ _ _ i _ => n - (intOf i).toNat)
    case atStart => exact ⟨0, w.heap.size, 0, 0, [], by omega, by omega, rfl, rfl, rfl, rfl, HAP.out, H0.out, O1.out, b01⟩
    case round =>
      clear HAP H0 O1 b01
      obtain ⟨k, g, m, c, zs, hk, hmk, rfl, rfl, hm, hg, hap, hown, hsrc, hbel⟩ := hrel
      have HM := Lib.hid hm; have HG := Lib.hid hg; have HAP := Lib.hid hap; have HO := Lib.hid hown; have HSR := Lib.hid hsrc
      clear hm hg hap hown hsrc
      have hz := hbel.size
      by_cases hlt : k < n
      · obtain ⟨p, hp⟩ := some_of_lt (l := ps) (k := k) (by rw [HN.out]; exact hlt)
        obtain ⟨ad, hA, hc⟩ := HSR.out.reads.at_ (map_at Value.string hp)
        injection hA with hA
        subst hA
        have hc2 : wr.cell? ⟨gs, k, none⟩ = some (.string p) := by
          rcases Nat.eq_zero_or_pos k with h0 | h0
          · subst h0; simpa [Addr.add] using hc
          · simpa [Addr.add, show k ≠ 0 by omega] using hc
        clear hc
        have hpz := HPS.out p (List.mem_of_getElem? hp)
        have hpt := pg_take (zs := zs) hp
        have hpi := HPI.out p hpz wr (HT.out.below hbel) (HES.out.below hbel) (HEG.out.below hbel)
        cases hip : iP p with
        | none =>
          rw [hip] at hpi
          have HV := Lib.hid (HNO.out (by rw [← HG.out, hpt, pg_no hip]))
          have HPI2 := Lib.hid hpi
          clear hpi hip hpt hp
          go_wp2_with (go_at_call 97; refine HPI2.out.mono ?_; rintro e w2 ⟨rfl, b2⟩)
          go_ret2
          exact ⟨none, 0, by rw [HV.out]; rfl, by rw [HV.out]; exact Own.nil, hbel.trans (b2.mono hz)⟩
        | some v =>
          rw [hip] at hpi
          have hg2 : pg (ps.drop (k + 1)) (zs ++ [v]) = pg ps [] := by rw [← HG.out, hpt, pg_yes hip]
          have HG2 := Lib.hid hg2; have HPI2 := Lib.hid hpi
          have hm9 : m < 4294967296 := by omega
          have hl5 : (zs.map (Value.int .i64)).length = m := by rw [List.length_map]; exact HM.out
          have HL5 := Lib.hid hl5
          clear hpi hip hpt hp hg2 hl5
          go_wp2_with (first
            | (go_at_call 97; refine HPI2.out.mono ?_; rintro e w2 ⟨rfl, b2⟩)
            | (at_builtin; refine wp_append4 rfl (.tmp 26) (.tmp 28) 34 rfl _ 8 Tryz.underlying34 info_int rfl m c rfl (HO.out.below b2) _ rfl rfl HL5.out hm9 (by decide) (Nat.le_trans hz b2.size) ?_))
          intro g4 c4 w4 ha4
          have hown4 := ha4.own
          have hbs := ha4.beside _ _ _ _ (HSR.out.below b2) HAP.out
          rw [show zs.map (Value.int .i64) ++ [Value.int .i64 v] = (zs ++ [v]).map (Value.int .i64) from by rw [List.map_append]; rfl] at hown4
          have hbel4 := (hbel.trans (b2.mono hz)).trans ha4.bel
          have HO4 := Lib.hid hown4; have HB1 := Lib.hid hbs.1; have HB2 := Lib.hid hbs.2
          clear ha4 hown4 hbs b2
          go_wp2_with fail
          go_roundw
          case rel => exact ⟨k + 1, g4, m + 1, c4, zs ++ [v], by omega, by omega, by go_num, rfl, by rw [List.length_append, HM.out]; rfl, HG2.out, HB2.out, HO4.out, HB1.out, hbel4⟩
          case measure => simp [intOf]; omega
      · have hkn : ps.drop k = [] := List.drop_of_length_le (by rw [HN.out]; omega)
        have hfin : pg ps [] = some zs := by rw [← HG.out, hkn]; rfl
        by_cases h60 : 60 < m
        · have HV := Lib.hid (HLO.out zs hfin (by rw [HM.out]; exact h60))
          have h61 : (60 : Int) < (m : Int) := by omega
          clear hkn hfin
          go_wp2_with fail
          go_ret2
          exact ⟨none, 0, by rw [HV.out]; rfl, by rw [HV.out]; exact Own.nil, hbel⟩
        · have HV := Lib.hid (HOK.out zs hfin (by rw [HM.out]; exact h60))
          have h61 : decide ((60 : Int) < (m : Int)) = false := decide_eq_false (by omega)
          have h62 : decide (60 < m) = false := decide_eq_false h60
          clear hkn hfin h60
          go_wp2_with fail
          go_ret2
          exact ⟨some ⟨g, 0, none⟩, c, by rw [HV.out]; show _ = Ending.returned (.tuple #[.slice _ zs.length c, _]); rw [HM.out]; rfl, by rw [HV.out]; show Own wr _ _ (.slice _ zs.length c) _; rw [HM.out]; exact HO.out, hbel⟩
end Go.Proofs.YtbegecoocgkbiaaGreatDoor
