/- ReducedBan, both. Asks the shelf's text. No condition but the bounds. -/
import Derived.Test.YtaihigaafjmpiaaDoorAvo
import Derived.Test.YtaihigaafjmpiaaDoorSrt
import Derived.Test.YtaihigaafjmpiaaDoorApp3
namespace Go.Proofs.YtaihigaafjmpiaaDoor
open Go.RowKit Go.Sort
set_option linter.unusedVariables false

def rbP (f g : ByteArray) : Bool := decide (g = f) || !hasF f g
def rbK (ss : List ByteArray) (f : ByteArray) : Bool := ss.all (rbP f)
/-- The words of a ban that no other word of it lies in, in order, each once. -/
def rbL (ss : List ByteArray) : List ByteArray := insL (ss.filter (rbK ss))
def rbV (ss : List ByteArray) : List ByteArray := if banOk ss then rbL ss else []
theorem rdbOk_len {ss : List ByteArray} (h : banOk ss = true) : ss.length ≤ 8 := by
  unfold banOk at h; simp at h; exact h.2
theorem rdbOk_size {ss : List ByteArray} (h : banOk ss = true) : ∀ s ∈ ss, s.size ≤ 4 := by
  intro s hs
  unfold banOk at h
  simp only [Bool.and_eq_true, List.all_eq_true] at h
  have := h.1 s hs
  unfold banW at this
  simp at this
  omega
theorem fil_yes {xs : List ByteArray} {k : Nat} {x : ByteArray} {p : ByteArray → Bool} (hx : xs[k]? = some x) (hp : p x = true) : (xs.take (k + 1)).filter p = (xs.take k).filter p ++ [x] := by
  rw [List.take_add_one, hx, List.filter_append]; simp [hp]
theorem fil_no {xs : List ByteArray} {k : Nat} {x : ByteArray} {p : ByteArray → Bool} (hx : xs[k]? = some x) (hp : p x = false) : (xs.take (k + 1)).filter p = (xs.take k).filter p := by
  rw [List.take_add_one, hx, List.filter_append]; simp [hp]
theorem fil_len (xs : List ByteArray) (p : ByteArray → Bool) (k : Nat) : ((xs.take k).filter p).length ≤ k := by
  have h1 := List.length_filter_le p (xs.take k)
  rw [List.length_take] at h1; omega
theorem rb_len {ss : List ByteArray} (h : banOk ss = true) (k : Nat) : (insL ((ss.take k).filter (rbK ss))).length ≤ 8 := by
  have h1 := insL_len ((ss.take k).filter (rbK ss))
  have h2 := List.length_filter_le (rbK ss) (ss.take k)
  have h3 := rdbOk_len h
  rw [List.length_take] at h2; omega
theorem Own.prefix_ {w : World} {B g n m c : Nat} {T : TypeId} {xs : List Value} (h : Own w B T (.slice (some ⟨g, 0, none⟩) n c) xs) (hx : xs.length = n) (hm : m ≤ n) : Own w B T (.slice (some ⟨g, 0, none⟩) m c) (xs.take m) := by
  subst hx
  have hml : (xs.take m).length = m := by rw [List.length_take]; omega
  refine ⟨by rw [hml, Nat.mul_one], ?_⟩
  rcases h.2 with ⟨h0, _⟩ | ⟨g', cap, cur, hv, hB, hg, hn, hmx, hcs, ht⟩
  · cases h0
  · injection hv with e1 e2 e3
    injection e1 with e1
    injection e1 with e1
    subst e1 e3
    refine .inr ⟨g, c, cur, by rw [hml], hB, hg, by rw [hml]; omega, hmx, hcs, ?_⟩
    rw [hml, Nat.mul_one]
    have ht' := congrArg (List.take m) ht
    rw [List.take_take, Nat.mul_one, Nat.min_eq_left hm] at ht'
    exact ht'
/-- A sorted slice of the call's own, each element once: the call's own too. -/
theorem compact_own2 (l : List ByteArray) (g c B : Nat) (w : World) (hl : l.length ≤ 1000000) (h : Own w B 9 (.slice (some ⟨g, 0, none⟩) l.length c) ((srt l).map encStr)) :
    Calls Tryd.prog 43 #[.slice (some ⟨g, 0, none⟩) l.length c] w fun e w' => e = .returned (.slice (some ⟨g, 0, none⟩) (insL l).length c) ∧ Own w' B 9 (.slice (some ⟨g, 0, none⟩) (insL l).length c) ((insL l).map Value.string) ∧ Below B w w' := by
  have h1 : Own w B 9 (.slice (some ⟨g, 0, none⟩) (srt l).length c) ((srt l).map encStr) := by rw [srt_len]; exact h
  obtain ⟨A', c', hv, hc1, hc2, _⟩ := h1.shape
  injection hv with e1 e2 e3
  subst e3
  rw [List.length_map] at hc1
  have hc := Tryd.slices_Compact_string g 0 c (srt l) w (own_holds h1) (by rw [srt_len]; omega) hc1
  rw [srt_len] at hc
  refine hc.mono ?_
  rintro e w' ⟨rfl, q, rfl⟩
  have hcl := Lib.compact_length_le (srt l)
  rw [srt_len] at hcl
  have hr := h.row (by rw [List.length_map, srt_len]) (Lib.compact (srt l) ++ List.replicate (l.length - (Lib.compact (srt l)).length) []).toArray (by simp; omega) q #[]
  rw [grow_empty] at hr
  have hol : (Lib.compact (srt l)).length = (insL l).length := by rw [← ord_ins, ordL, List.length_map]
  refine ⟨by rw [hol], ?_, hr.2⟩
  have hp := hr.1.prefix_ (m := (insL l).length) (by simp; omega) (by omega)
  have hle : List.take (insL l).length (List.map encStr (Lib.compact (srt l) ++ List.replicate (l.length - (Lib.compact (srt l)).length) []).toArray.toList) = (insL l).map Value.string := by
    rw [List.toList_toArray, List.map_append, ← hol, List.take_append_of_le_length (by rw [List.length_map]; omega), List.take_of_length_le (by rw [List.length_map]; omega), ← ord_ins, ordL, List.map_map]
    rfl
  rw [hle] at hp
  exact hp
set_option maxRecDepth 4000 in
theorem ordered_own (l : List ByteArray) (g c B : Nat) (w : World) (hl : l.length ≤ 1000000) (h : Own w B 9 (.slice (some ⟨g, 0, none⟩) l.length c) (l.map Value.string)) :
    Calls Tryd.prog 32 #[.slice (some ⟨g, 0, none⟩) l.length c] w fun e w' => e = .returned (.slice (some ⟨g, 0, none⟩) (insL l).length c) ∧ Own w' B 9 (.slice (some ⟨g, 0, none⟩) (insL l).length c) ((insL l).map Value.string) ∧ Below B w w' := by
  go_enter Tryd.func32, Tryd.ntmps32
  go_wp2_with fail
  refine (sort_own l g c B _ hl h).mono ?_
  rintro e w2 ⟨rfl, ho2, b2⟩
  go_wp2_with fail
  refine (compact_own2 l g c B _ hl ho2).mono ?_
  rintro e w3 ⟨rfl, ho3, b3⟩
  go_wp2_with fail
  go_ret
  exact ⟨rfl, ho3, b2.trans b3⟩
set_option maxRecDepth 4000 in
theorem redClo_any (f g : ByteArray) (hf : f.size ≤ 4) (b : Nat) (w : World) (hc : w.cell? ⟨b, 0, none⟩ = some (.string f)) (hml : MlOk w) :
    Calls Tryd.prog 30 #[.string g, .pointer (some ⟨b, 0, none⟩)] w fun e w' => e = .returned (.bool (!(rbP f g))) ∧ Dr w w' := by
  have HM := Lib.hid hml; clear hml
  by_cases hgf : g = f
  · have heq : (g.toList == f.toList) = true := by rw [hgf]; simp
    have hfin : rbP f g = true := by rw [rbP, decide_eq_true hgf]; rfl
    rw [hfin]
    clear hfin hgf
    go_enter Tryd.func30, Tryd.ntmps30
    go_wp2_with fail
    go_ret
    exact ⟨rfl, by first | exact Dr.refl _ | exact (Dr.refl _).drew | exact (Dr.refl _).drewN _⟩
  · have heq : (g.toList == f.toList) = false := str_ne hgf
    obtain ⟨q, hq⟩ : ∃ q, hasF f g = q := ⟨_, rfl⟩
    have hfin : rbP f g = !q := by rw [rbP, decide_eq_false hgf, hq]; rfl
    rw [hfin, Bool.not_not]
    have hlh := fun w h => contains_any f g (by omega) w h
    rw [hq] at hlh
    have HLH := Lib.hid hlh
    clear hfin hgf hq hlh
    go_enter Tryd.func30, Tryd.ntmps30
    go_wp2_with (go_at_call 31; refine (HLH.out _ (by first | exact HM.out | exact HM.out.dr (Dr.refl _).drew | exact HM.out.dr ((Dr.refl _).drewN _))).mono ?_; rintro e w' ⟨rfl, rfl⟩)
    go_ret
    exact ⟨rfl, by first | exact Dr.refl _ | exact (Dr.refl _).drew | exact (Dr.refl _).drewN _⟩
set_option maxRecDepth 4000 in
set_option maxHeartbeats 1000000 in
theorem redIdx_any (ss : List ByteArray) (f : ByteArray) (A : Option Addr) (c b B : Nat) (w : World) (hf : f.size ≤ 4) (hn : ss.length ≤ 8) (hb : B ≤ w.heap.size) (hbw : b < w.heap.size) (hrd : Rds w B A (ss.map Value.string)) (hc : w.cell? ⟨b, 0, none⟩ = some (.string f)) (hml : MlOk w) :
    Calls Tryd.prog 41 #[.slice A ss.length c, .func (.func 30) #[] #[.pointer (some ⟨b, 0, none⟩)]] w fun e w' => ∃ i : Int, e = .returned (.int .i64 i) ∧ decide (0 ≤ i) = (!rbK ss f) ∧ Dr w w' := by
  have hclo := fun g W (hd : Dr w W) => redClo_any f g hf b W (((hd.below (B := w.heap.size)).cell (p := ⟨b, 0, none⟩) hbw).trans hc) (hml.dr hd)
  obtain ⟨n, hl⟩ : ∃ n, ss.length = n := ⟨_, rfl⟩
  obtain ⟨K, hK⟩ : ∃ K, rbK ss f = K := ⟨_, rfl⟩
  rw [hl] at hn ⊢
  rw [hK]
  have HL := Lib.hid hl; have HK := Lib.hid hK; have HR := Lib.hid hrd; have HC := Lib.hid hclo
  clear hl hK hrd hclo hc hml
  go_enter Tryd.func41, Tryd.ntmps41
  go_wp2_with fail
  go_loopw [5, 8] (fun _ i wr => ∃ k : Nat, k ≤ n ∧ i = .int .i64 k ∧ (ss.drop k).all (rbP f) = K ∧ Dr w wr) (fun _ i _ => n - (intOf i).toNat)
  case atStart => exact ⟨0, by omega, rfl, HK.out, Dr.refl _⟩
  case round =>
    obtain ⟨k, hk, rfl, hg, hd⟩ := hrel
    have HG := Lib.hid hg; clear hg
    by_cases hlt : k < n
    · obtain ⟨g, hg⟩ := some_of_lt (l := ss) (k := k) (by rw [HL.out]; exact hlt)
      obtain ⟨ad, rfl, hc⟩ := (HR.out.dr hd).at_ (map_at Value.string hg)
      have HD := Lib.hid (drop_at_list hg)
      have hcl := HC.out g
      clear hg
      cases hq : rbP f g
      · rw [hq] at hcl
        have HCL := Lib.hid hcl
        have hfin : K = false := by rw [← HG.out, HD.out, List.all_cons, hq]; rfl
        have HF := Lib.hid hfin
        clear hcl hfin hq
        go_wp2_with fail
        refine (HCL.out _ (by first | exact hd | exact hd.drew | exact hd.drewN _)).mono ?_
        rintro e w' ⟨rfl, d2⟩
        go_wp2_with fail
        go_ret
        exact ⟨_, rfl, by rw [HF.out]; simp, by first | exact hd.trans d2 | exact hd.drew.trans d2 | exact (hd.drewN _).trans d2⟩
      · rw [hq] at hcl
        have HCL := Lib.hid hcl
        have hfin : (ss.drop (k + 1)).all (rbP f) = K := by rw [← HG.out, HD.out, List.all_cons, hq]; rfl
        have HF := Lib.hid hfin
        clear hcl hfin hq
        go_wp2_with fail
        refine (HCL.out _ (by first | exact hd | exact hd.drew | exact hd.drewN _)).mono ?_
        rintro e w' ⟨rfl, d2⟩
        go_wp2_with fail
        go_roundw
        case rel => exact ⟨k + 1, by omega, by go_num, HF.out, by first | exact hd.trans d2 | exact hd.drew.trans d2 | exact (hd.drewN _).trans d2⟩
        case measure => simp [intOf]; omega
    · have h0 : ss.drop k = [] := List.drop_eq_nil_of_le (by rw [HL.out]; omega)
      have hfin : K = true := by rw [← HG.out, h0]; rfl
      have HF := Lib.hid hfin
      clear h0 hfin
      go_wp2_with fail
      go_ret
      exact ⟨_, rfl, by rw [HF.out]; rfl, by first | exact hd | exact hd.drew | exact hd.drewN _⟩
theorem redCon_any (ss : List ByteArray) (f : ByteArray) (A : Option Addr) (c b B : Nat) (w : World) (hf : f.size ≤ 4) (hn : ss.length ≤ 8) (hb : B ≤ w.heap.size) (hbw : b < w.heap.size) (hrd : Rds w B A (ss.map Value.string)) (hc : w.cell? ⟨b, 0, none⟩ = some (.string f)) (hml : MlOk w) :
    Calls Tryd.prog 29 #[.slice A ss.length c, .func (.func 30) #[] #[.pointer (some ⟨b, 0, none⟩)]] w fun e w' => e = .returned (.bool (!rbK ss f)) ∧ Dr w w' := by
  have HX := Lib.hid (redIdx_any ss f A c b B w hf hn hb hbw hrd hc hml)
  clear hrd hc hml
  go_enter Tryd.func29, Tryd.ntmps29
  go_wp2_with fail
  refine HX.out.mono ?_
  rintro e w' ⟨i, rfl, hi, d⟩
  go_wp2_with fail
  go_ret
  exact ⟨rfl, d⟩
set_option maxRecDepth 4000 in
set_option maxHeartbeats 1000000 in
theorem iReduced_yes (ss : List ByteArray) (A : Option Addr) (c B : Nat) (w : World) (hB : B ≤ w.heap.size) (hb : banOk ss = true) (hrd : Rds w B A (ss.map Value.string)) (hml : MlOk w) :
    Calls Tryd.prog 9 #[.slice A ss.length c] w fun e w' => ∃ A' c', e = .returned (.slice A' (rbL ss).length c') ∧ Own w' w.heap.size 9 (.slice A' (rbL ss).length c') ((rbL ss).map Value.string) ∧ Below w.heap.size w w' := by
  have h8 := rdbOk_len hb
  have h4 := rdbOk_size hb
  have hbc := iBanOk_any ss A c B w (by omega) (fun s hs => by have := h4 s hs; unfold maxLen; omega) hrd
  rw [hb] at hbc
  obtain ⟨r, hr⟩ : ∃ r, rbL ss = r := ⟨_, rfl⟩
  rw [hr]
  have HBC := Lib.hid hbc; have HRD := Lib.hid hrd; have H4 := Lib.hid h4; have HR := Lib.hid hr; have HM := Lib.hid hml
  obtain ⟨n, hn⟩ : ∃ n, ss.length = n := ⟨_, rfl⟩
  rw [hn] at HBC h8
  rw [hn]
  have HN := Lib.hid hn
  clear hbc hrd h4 hr hb hn hml
  go_enter Tryd.func9, Tryd.ntmps9
  go_wp2_with fail
  refine HBC.out.mono ?_
  rintro e w1 ⟨rfl, d1⟩
  have b1 := d1.below (B := w.heap.size)
  have z1 := b1.size
  go_wp2_with fail
  go_loopw [3, 5, 12] (fun v _ i wr => ∃ k m g c : Nat, k ≤ n ∧ m ≤ 8 ∧ i = .int .i64 k ∧ v = .slice (some ⟨g, 0, none⟩) m c ∧ ((ss.take k).filter (rbK ss)).length = m ∧ Own wr w.heap.size 9 (.slice (some ⟨g, 0, none⟩) m c) (((ss.take k).filter (rbK ss)).map Value.string) ∧ Below w.heap.size w wr) (fun _ _ i _ => n - (intOf i).toNat)
  case atStart =>
    exact ⟨0, 0, w1.heap.size, 0, by omega, by omega, rfl, rfl, rfl, Own.empty z1, b1.trans ((Below.refl _ _).alloc z1 _)⟩
  case round =>
    obtain ⟨k, m, g, c9, hk, hm8, rfl, rfl, hml, hown, hbel⟩ := hrel
    have HML := Lib.hid hml; have HO := Lib.hid hown
    clear hml hown
    have hzr := hbel.size
    have hrd := HRD.out.below hbel hB
    have HRDR := Lib.hid hrd
    have hmr := HM.out.below hbel
    have HMR := Lib.hid hmr
    clear hrd hmr
    by_cases hlt : k < n
    · obtain ⟨f, hf⟩ := some_of_lt (l := ss) (k := k) (by rw [HN.out]; exact hlt)
      obtain ⟨ad, rfl, hc⟩ := HRDR.out.at_ (map_at Value.string hf)
      have hfz := H4.out f (List.mem_of_getElem? hf)
      have HF := Lib.hid hf
      clear hf
      have bA : Below wr.heap.size wr (wr.alloc (.cells #[Value.string f] 9)) := (Below.refl _ _).alloc (Nat.le_refl _) _
      have zA : (wr.alloc (.cells #[Value.string f] 9)).heap.size = wr.heap.size + 1 := by simp
      obtain ⟨wb, hwb⟩ : ∃ wb, wr.alloc (.cells #[Value.string f] 9) = wb := ⟨_, rfl⟩
      have hcb : wb.cell? ⟨wr.heap.size, 0, none⟩ = some (.string f) := by rw [← hwb]; simp
      rw [hwb] at bA zA
      have hrc := redCon_any ss f (some ad) c wr.heap.size B wb hfz (by rw [HN.out]; exact h8) (by omega) (by omega) (HRD.out.below (hbel.trans (bA.mono hzr)) hB) hcb (HMR.out.below bA)
      rw [HN.out] at hrc
      have hob := HO.out.below bA
      have HOB := Lib.hid hob; have HCB := Lib.hid hcb; have HWB := Lib.hid hwb
      clear hob hcb
      cases hK : rbK ss f
      · rw [hK] at hrc
        have HRC := Lib.hid hrc
        have hfl := fil_no (p := rbK ss) HF.out hK
        have HFL := Lib.hid hfl
        clear hrc hfl hK hwb
        go_wp2_with fail
        rw [HWB.out]
        refine HRC.out.mono ?_
        rintro e w3 ⟨rfl, d3⟩
        go_wp2_with fail
        go_roundw
        case rel => exact ⟨k + 1, m, g, c9, by omega, by omega, by go_num, rfl, by rw [HFL.out]; exact HML.out, by rw [HFL.out]; exact HOB.out.dr d3, (hbel.trans (bA.mono hzr)).trans d3.below⟩
        case measure => simp [intOf]; omega
      · rw [hK] at hrc
        have HRC := Lib.hid hrc
        have hfl := fil_yes (p := rbK ss) HF.out hK
        have HFL := Lib.hid hfl
        clear hrc hfl hK hwb
        go_wp2_with fail
        rw [HWB.out]
        refine HRC.out.mono ?_
        rintro e w3 ⟨rfl, d3⟩
        have z3 := (d3.below (B := 0)).size
        have hc3 : w3.cell? ⟨wr.heap.size, 0, none⟩ = some (.string f) := ((d3.below (B := wb.heap.size)).cell (p := ⟨wr.heap.size, 0, none⟩) (show wr.heap.size < wb.heap.size by omega)).trans HCB.out
        have hl3 : (((ss.take k).filter (rbK ss)).map Value.string).length = m := by rw [List.length_map]; exact HML.out
        have hm9 : m < 4294967296 := by omega
        have hz9 : w.heap.size ≤ w3.heap.size := by omega
        have ho3 := HOB.out.dr d3
        have HO3 := Lib.hid ho3; have HL3 := Lib.hid hl3
        clear ho3 hl3
        go_wp2_with (at_builtin; refine wp_append3 rfl (.tmp 20) (.tmp 22) 23 rfl _ 16 Tryd.underlying23 info_string rfl m c9 rfl HO3.out _ rfl rfl HL3.out hm9 (by decide) hz9 ?_)
        intro g4 c4 w4 hown4 hbel4 hsz4 hstay
        rw [show ((ss.take k).filter (rbK ss)).map Value.string ++ [Value.string f] = ((ss.take (k + 1)).filter (rbK ss)).map Value.string from by rw [HFL.out, List.map_append]; rfl] at hown4
        have HO4 := Lib.hid hown4
        have hm2 := fil_len ss (rbK ss) (k + 1)
        have hml2 : ((ss.take (k + 1)).filter (rbK ss)).length = m + 1 := by rw [HFL.out, List.length_append, HML.out]; rfl
        rw [hml2] at hm2
        have HML2 := Lib.hid hml2
        clear hown4 hstay hml2
        go_wp2_with fail
        go_roundw
        case rel => exact ⟨k + 1, m + 1, g4, c4, by omega, by omega, by go_num, rfl, HML2.out, HO4.out, ((hbel.trans (bA.mono hzr)).trans d3.below).trans hbel4⟩
        case measure => simp [intOf]; omega
    · have hkl : ss.take k = ss := List.take_of_length_le (by rw [HN.out]; omega)
      have hfin : insL ((ss.take k).filter (rbK ss)) = r := by rw [hkl]; exact HR.out
      have ho := ordered_own ((ss.take k).filter (rbK ss)) g c9 w.heap.size wr (by rw [HML.out]; omega) (by rw [HML.out]; exact HO.out)
      rw [hfin, HML.out] at ho
      have HOO := Lib.hid ho
      clear hkl hfin ho
      go_wp2_with fail
      refine HOO.out.mono ?_
      rintro e w3 ⟨rfl, ho3, b3⟩
      have HO3 := Lib.hid ho3; clear ho3
      go_wp2_with fail
      go_ret
      exact ⟨_, _, rfl, HO3.out, hbel.trans b3⟩
theorem iReduced_any (ss : List ByteArray) (A : Option Addr) (c B : Nat) (w : World) (hB : B ≤ w.heap.size) (hn : ss.length ≤ 4294967296) (hsz : ∀ s ∈ ss, s.size ≤ maxLen) (hrd : Rds w B A (ss.map Value.string)) (hml : MlOk w) :
    Calls Tryd.prog 9 #[.slice A ss.length c] w fun e w' => ∃ A' c', e = .returned (.slice A' (rbV ss).length c') ∧ Own w' w.heap.size 9 (.slice A' (rbV ss).length c') ((rbV ss).map Value.string) ∧ Below w.heap.size w w' := by
  unfold rbV
  cases hb : banOk ss
  · have hbc := iBanOk_any ss A c B w hn hsz hrd
    rw [hb] at hbc
    have HBC := Lib.hid hbc
    clear hbc hb hrd hsz hml
    go_enter Tryd.func9, Tryd.ntmps9
    go_wp2_with fail
    refine HBC.out.mono ?_
    rintro e w1 ⟨rfl, d1⟩
    go_wp2_with fail
    go_ret
    exact ⟨none, 0, rfl, Own.nil, d1.below⟩
  · exact iReduced_yes ss A c B w hB hb hrd hml
theorem rbV_len (ss : List ByteArray) : (rbV ss).length ≤ 8 := by
  unfold rbV
  split
  · rename_i h
    have := rb_len h ss.length
    rw [List.take_length] at this
    exact this
  · simp
/-- A slice of the call's own is written to: what lay before it reads as before. -/
theorem Own.rds_kept {w w0 w1 : World} {B B' : Nat} {E : TypeId} {v : Value} {xs ys : List Value} {A : Option Addr} (h : Own w B E v xs) (hg : w0.grownBy w1 v.ownBlock) (hr : Rds w0 B' A ys) (hB : B' ≤ B) (hs : B' ≤ w0.heap.size) : Rds w1 B' A ys :=
  hr.keep fun p hp => hg.cell_far p (by omega) (fun he => by
    have h1 := (World.ownsRow.lt h p.block he.symm).1
    omega)
end Go.Proofs.YtaihigaafjmpiaaDoor
