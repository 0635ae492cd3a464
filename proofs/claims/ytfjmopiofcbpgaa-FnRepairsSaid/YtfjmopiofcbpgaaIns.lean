/- l05Insert, l05Factors: words in order, each once, by insertion. No condition but the bounds. -/
import Derived.Test.YtfjmopiofcbpgaaOrd
namespace Go.Proofs.Ytfjmopiofcbpgaa
open Go.RowKit
set_option linter.unusedVariables false

/-- The slice at block g, of capacity c, reads as the words ss. -/
def StrAt (w : World) (g c : Nat) (ss : List ByteArray) : Prop := ss.length ≤ c ∧ c ≤ maxLen ∧ g < w.heap.size ∧ ∀ j s, ss[j]? = some s → w.cell? ⟨g, j, none⟩ = some (.string s)
theorem StrAt.below {w w' : World} {g c : Nat} {ss : List ByteArray} (h : StrAt w g c ss) (hb : Below w.heap.size w w') : StrAt w' g c ss :=
  ⟨h.1, h.2.1, Nat.lt_of_lt_of_le h.2.2.1 hb.size, fun j s hs => (hb.cell (p := ⟨g, j, none⟩) h.2.2.1).trans (h.2.2.2 j s hs)⟩
theorem StrAt.rds {w : World} {g c : Nat} {ss : List ByteArray} (h : StrAt w g c ss) : Rds w w.heap.size (some ⟨g, 0, none⟩) (ss.map Value.string) := fun k u hu => by
  rw [List.getElem?_map] at hu
  cases hs : ss[k]? with
  | none => rw [hs] at hu; simp at hu
  | some s =>
    rw [hs] at hu
    refine ⟨_, rfl, h.2.2.1, ?_⟩
    have ha : (⟨g, 0, none⟩ : Addr).add k = ⟨g, k, none⟩ := by unfold Addr.add; split <;> simp_all
    rw [ha, h.2.2.2 k s hs]; simpa using hu
theorem Own.strAt {w : World} {B c : Nat} {A : Option Addr} {E : TypeId} {ss : List ByteArray} (h : Own w B E (.slice A ss.length c) (ss.map Value.string)) (h0 : ss ≠ []) : ∃ g, A = some ⟨g, 0, none⟩ ∧ StrAt w g c ss := by
  have hl : 0 < ss.length := by cases ss with | nil => exact absurd rfl h0 | cons a b => simp
  obtain ⟨g, rfl, _, hg, _, _, _⟩ := h.store (k := 0) (by rw [List.length_map]; exact hl)
  obtain ⟨A', c', hv, hc1, hc2, _⟩ := h.shape
  injection hv with e1 e2 e3
  subst e3
  rw [List.length_map] at hc1
  refine ⟨g, rfl, hc1, hc2, hg, fun j s hs => ?_⟩
  have hj := (List.getElem?_eq_some_iff.1 hs).1
  have h2 := World.ownsRow.cellAt (g := g) (n := (ss.map Value.string).length) (by
    have h3 := h
    unfold Own at h3
    rw [List.length_map] at h3 ⊢
    exact h3) j (by rw [List.length_map]; omega)
  rw [h2]; exact map_at Value.string hs
section
variable {P : Program} {w : World} {B : Nat} {E : TypeId} {v : Value} {xs : List Value}
/-- 'out = append(out, l...)'. -/
theorem wp_appendN {ops : Array Oper} {rest : List Oper} {o : Oper} {a : Act} {Q : Exit → Act → World → Prop} (hgd : o.guard = none) (s x : Operand) (t : TypeId)
    (ho : o.op = .call { callee := .builtin .append, args := #[s, x], argTypes := #[t, t] })
    (z : Value) (bytes : Nat) (ht : P.underlying t = some (.slice E)) (hinfo : (P.info? E).map (fun i => (i.zero, i.size, i.bytes)) = some (some z, 1, bytes)) (hzs : z.cells.size = 1)
    (hs : a.eval s = v) (hown : Own w B E v xs) (ys : List Value) (hu : ∀ u ∈ ys, u.oneCell' = true) (ad : Addr) (m c : Nat)
    (hx : a.eval x = .slice (some ad) m c) (hm : ys.length = m) (hys : ∀ j u, ys[j]? = some u → w.cell? (ad.add j) = some u) (n : Nat)
    (hl : xs.length = n) (hn : n + m < 4294967296) (hb16 : bytes ≤ 1024) (hB : B ≤ w.heap.size)
    (h : ∀ A c w', Own w' B E (.slice A (n + m) c) (xs ++ ys) → Below B w w' → wpList P ops Q rest (a.put o.dst (.slice A (n + m) c)) w') :
    wpList P ops Q (o :: rest) a w := by
  obtain ⟨i, hi, hz, hsize, hby⟩ := info_parts hinfo
  subst hl hm
  refine wpList_append_own w hgd s x t ho B E i z 1 bytes ht hi hz hsize hby hzs (by decide) v xs.length xs hs hown ad ys.length c ys hx (by omega) hys hu (by unfold maxLen; omega) ?_ hB ?_
  · calc (xs.length + ys.length) * bytes ≤ 4294967296 * 1024 := Nat.mul_le_mul (by omega) hb16
      _ ≤ 140737488355328 := by decide
  · intro v' w1 hown' hgrow _
    have hown2 : Own w1 B E v' (xs ++ ys) := by
      unfold Own; simpa using hown'
    have hbel : Below B w w1 := (Below.refl B w).grown hgrow hB (fun k hk => (World.ownsRow.lt hown k hk).1)
    obtain ⟨A, c', hv, _⟩ := hown2.shape
    have hl : (xs ++ ys).length = xs.length + ys.length := by simp
    rw [hl] at hv
    rw [hv]
    rw [hv] at hown2
    exact h A c' w1 hown2 hbel
end
set_option maxRecDepth 4000 in
set_option maxHeartbeats 1000000 in
theorem l05Insert_any (ss : List ByteArray) (x : ByteArray) (g c : Nat) (w : World) (hn : ss.length ≤ 1000) (hst : StrAt w g c ss) :
    Calls Try.prog 64 #[.slice (some ⟨g, 0, none⟩) ss.length c, .string x] w fun e w' => ∃ g' c', e = .returned (.slice (some ⟨g', 0, none⟩) (insB ss x).length c') ∧ StrAt w' g' c' (insB ss x) ∧ Below w.heap.size w w' := by
  obtain ⟨n, hnn⟩ : ∃ n, ss.length = n := ⟨_, rfl⟩
  obtain ⟨r, hr⟩ : ∃ r, insB ss x = r := ⟨_, rfl⟩
  obtain ⟨k0, hk0⟩ : ∃ k0, kp ss x n = k0 := ⟨_, rfl⟩
  have hrr : r = if k0 ≠ 0 ∧ ss.getD (k0 - 1) ⟨#[]⟩ = x then ss else ss.take k0 ++ x :: ss.drop k0 := by rw [← hr, insB, hnn, hk0]
  have hk0n : k0 ≤ n := by rw [← hk0]; exact kp_le ss x n
  rw [hnn] at hn ⊢
  rw [hr]
  have HS := Lib.hid hst; have HN := Lib.hid hnn; have HR := Lib.hid hrr; have HK := Lib.hid hk0
  have hcn : n ≤ c := by rw [← hnn]; exact hst.1
  have hcm := hst.2.1
  unfold maxLen at hcm
  clear hst hnn hr hrr hk0
  go_enter Try.func64, Try.ntmps64
  go_wp2_with fail
  go_loop [5] (fun i => ∃ k : Nat, k ≤ n ∧ i = .int .i64 k ∧ kp ss x k = k0) (fun i => (intOf i).toNat)
  case atStart => exact ⟨n, by omega, rfl, HK.out⟩
  case round =>
    obtain ⟨k, hk, rfl, hg⟩ := hrel
    have HG := Lib.hid hg; clear hg
    by_cases hk0' : 0 < k
    · have hkn1 : k - 1 < ss.length := by rw [HN.out]; omega
      obtain ⟨y, hy⟩ := some_of_lt (l := ss) (k := k - 1) hkn1
      have hyd : ss.getD (k - 1) ⟨#[]⟩ = y := by rw [List.getD_eq_getElem?_getD, hy]; rfl
      have hcell := HS.out.2.2.2 (k - 1) y hy
      have hgt := gtS_iff y x
      by_cases hlt : L x < L y
      · have hg1 : gtS y x = true := by rw [hgt, decide_eq_true hlt]
        have hkp : kp ss x (k - 1) = k0 := by
          rw [← HG.out]
          obtain ⟨q, rfl⟩ : ∃ q, k = q + 1 := ⟨k - 1, by omega⟩
          rw [Nat.add_sub_cancel] at hyd ⊢
          rw [kp, hyd, hg1]; rfl
        have HKP := Lib.hid hkp
        have hb1 : Op.bytesLess y.toList x.toList = false := by
          unfold gtS at hg1
          cases hq : Op.bytesLess y.toList x.toList
          · rfl
          · rw [hq] at hg1; simp at hg1
        have hb2 : (y.toList == x.toList) = false := by
          unfold gtS at hg1
          cases hq : (y.toList == x.toList)
          · rfl
          · rw [hq, Bool.or_true] at hg1; simp at hg1
        clear hgt hlt hg1 hkp hyd hy
        go_wp2_with fail
        go_round
        case rel => exact ⟨k - 1, by omega, by go_num, HKP.out⟩
        case measure => simp [intOf]; omega
      · have hg1 : gtS y x = false := by rw [hgt, decide_eq_false hlt]
        have hkp : k = k0 := by
          rw [← HG.out]
          obtain ⟨q, rfl⟩ : ∃ q, k = q + 1 := ⟨k - 1, by omega⟩
          rw [Nat.add_sub_cancel] at hyd
          rw [kp, hyd, hg1]; rfl
        subst hkp
        have hkp1 : decide (0 < (k : Int)) = true := by simp; omega
        by_cases hyx : y = x
        · have hb1 : Op.bytesLess y.toList x.toList = false := by
            rw [ByteArray.toList_eq, ByteArray.toList_eq, bytesLess_eq, hyx]; exact decide_eq_false (List.lt_irrefl _)
          have hb2 : (y.toList == x.toList) = true := by rw [hyx]; simp
          have hfin : r = ss := by rw [HR.out, if_pos ⟨by omega, by rw [hyd]; exact hyx⟩]
          have hrl : r.length = n := by rw [hfin]; exact HN.out
          have HF := Lib.hid hfin; have HRL := Lib.hid hrl
          clear hgt hlt hg1 hyd hy hyx hfin hrl
          go_wp2_with fail
          go_ret
          exact ⟨g, c, by rw [HRL.out]; rfl, by rw [HF.out]; exact HS.out, Below.refl _ _⟩
        · have hb2 : (y.toList == x.toList) = false := str_ne hyx
          have hb1 : Op.bytesLess y.toList x.toList = true := by
            rw [ByteArray.toList_eq, ByteArray.toList_eq, bytesLess_eq]
            rcases Classical.em (L y < L x) with e | e
            · exact decide_eq_true e
            · exact absurd (ba_eq (List.le_antisymm hlt e)) hyx
          have hfin : r = ss.take k ++ x :: ss.drop k := by rw [HR.out, if_neg (fun h => hyx (hyd.symm.trans h.2))]
          have HF := Lib.hid hfin
          clear hgt hlt hg1 hyd hy hyx hfin
          have hsa : StrAt (w.alloc (.cells #[] 9)) g c ss := HS.out.below ((Below.refl _ _).alloc (Nat.le_refl _) _)
          have he0 : Own (w.alloc (.cells #[] 9)) w.heap.size 9 (.slice (some ⟨w.heap.size, 0, none⟩) 0 0) [] := Own.empty (Nat.le_refl _)
          have hb01 : Below w.heap.size w (w.alloc (.cells #[] 9)) := (Below.refl _ _).alloc (Nat.le_refl _) _
          have hsz1 : w.heap.size ≤ (w.alloc (.cells #[] 9)).heap.size := by simp
          have hys1 : ∀ j u, ((ss.take k).map Value.string)[j]? = some u → (w.alloc (.cells #[] 9)).cell? ((⟨g, 0, none⟩ : Addr).add j) = some u := fun j u hu => by
            obtain ⟨ad, hae, _, hc⟩ := hsa.rds j u (by
              rw [List.getElem?_map] at hu ⊢
              rw [List.getElem?_take] at hu
              split at hu
              · exact hu
              · simp at hu)
            injection hae with hae
            subst hae
            exact hc
          have hm1 : ((ss.take k).map Value.string).length = k := by rw [List.length_map, List.length_take, HN.out]; omega
          have hu1 : ∀ u ∈ (ss.take k).map Value.string, u.oneCell' = true := fun u hu => by
            obtain ⟨s, _, rfl⟩ := List.mem_map.1 hu; rfl
          have HY1 := Lib.hid hys1; have HM1 := Lib.hid hm1; have HU1 := Lib.hid hu1; have HE0 := Lib.hid he0; have HSA := Lib.hid hsa
          have hn9 : 0 + k < 4294967296 := by omega
          clear hsa he0 hys1 hm1 hu1
          go_wp2_with (at_builtin; refine wp_appendN rfl (.tmp 34) (.tmp 37) 36 rfl _ 16 Try.underlying36 info_string rfl rfl HE0.out ((ss.take k).map Value.string) HU1.out ⟨g, 0, none⟩ k c rfl HM1.out HY1.out 0 rfl hn9 (by decide) hsz1 ?_)
          intro A1 c1 w1 hown1 hbel1
          have hown1' : Own w1 w.heap.size 9 (.slice A1 k c1) ((ss.take k).map Value.string) := by simpa using hown1
          have hbw1 : Below w.heap.size w w1 := hb01.trans hbel1
          have hsz2 := hbw1.size
          have HO1 := Lib.hid hown1'
          have hk9 : k < 4294967296 := by omega
          clear hown1 hown1' hbel1
          go_wp2_with (at_builtin; refine wp_append1 rfl (.tmp 39) (.tmp 41) 36 rfl _ 16 Try.underlying36 info_string rfl rfl HO1.out _ rfl rfl k HM1.out hk9 (by decide) hsz2 ?_)
          intro A2 c2 w2 hown2 hbel2 hsz3
          have hbw2 : Below w.heap.size w w2 := hbw1.trans hbel2
          have hown2' : Own w2 w.heap.size 9 (.slice A2 (k + 1) c2) ((ss.take k ++ [x]).map Value.string) := by simpa using hown2
          have HO2 := Lib.hid hown2'; have HS2 := Lib.hid (HS.out.below hbw2)
          clear hown2 hown2' hbel2
          have hu3 : ∀ u ∈ (ss.drop k).map Value.string, u.oneCell' = true := fun u hu => by
            obtain ⟨s, _, rfl⟩ := List.mem_map.1 hu; rfl
          have hm3 : ((ss.drop k).map Value.string).length = n - k := by rw [List.length_map, List.length_drop, HN.out]
          have hm2 : ((ss.take k ++ [x]).map Value.string).length = k + 1 := by rw [List.length_map, List.length_append, List.length_take, HN.out]; first | (simp; done) | (simp; omega)
          have hn10 : k + 1 + (n - k) < 4294967296 := by omega
          have hsz4 := hbw2.size
          have hrl : r.length = k + 1 + (n - k) := by rw [HF.out, List.length_append, List.length_cons, List.length_take, List.length_drop, HN.out]; omega
          have hrm : (ss.take k ++ [x]).map Value.string ++ (ss.drop k).map Value.string = r.map Value.string := by rw [HF.out, ← List.map_append, List.append_assoc]; rfl
          have hrne : r ≠ [] := fun h => by rw [h] at hrl; simp at hrl; omega
          have HU3 := Lib.hid hu3; have HM3 := Lib.hid hm3; have HM2 := Lib.hid hm2; have HRL := Lib.hid hrl; have HRM := Lib.hid hrm; have HNE := Lib.hid hrne
          clear hu3 hm3 hm2 hrl hrm hrne
          by_cases hck : c = k
          · have hnk : k = n := by omega
            have hkc : k = c := hck.symm
            clear hck
            have hd0 : ss.drop k = [] := List.drop_eq_nil_of_le (by rw [HN.out]; omega)
            have hys3 : ∀ j u, ((ss.drop k).map Value.string)[j]? = some u → w2.cell? ((⟨g, 0, none⟩ : Addr).add j) = some u := fun j u hu => by rw [hd0] at hu; simp at hu
            have hm0 : ((ss.drop k).map Value.string).length = 0 := by rw [hd0]; rfl
            have HM0 := Lib.hid hm0
            have HY3 := Lib.hid hys3
            have hn11 : k + 1 + 0 < 4294967296 := by omega
            clear hys3 hd0 hm0
            subst hkc; subst hnk
            go_wp2_with (at_builtin; refine wp_appendN rfl (.tmp 43) (.tmp 46) 36 rfl _ 16 Try.underlying36 info_string rfl rfl HO2.out _ HU3.out ⟨g, 0, none⟩ 0 _ rfl HM0.out HY3.out _ HM2.out hn11 (by decide) hsz4 ?_)
            intro A3 c3 w3 hown3 hbel3
            have hown4 : Own w3 w.heap.size 9 (.slice A3 r.length c3) (r.map Value.string) := by
              have h1 := HRM.out
              have h2 := HRL.out
              rw [h2, ← h1]
              simpa using hown3
            obtain ⟨g', hA3, hst3⟩ := hown4.strAt HNE.out
            subst hA3
            have HST3 := Lib.hid hst3
            have hbw3 : Below w.heap.size w w3 := hbw2.trans hbel3
            clear hown3 hown4 hst3 hbel3
            go_wp2_with fail
            go_ret
            exact ⟨g', c3, by rw [HRL.out]; simp; try omega, HST3.out, hbw3⟩
          · have hlt9 : k < c := by omega
            have hys3 : ∀ j u, ((ss.drop k).map Value.string)[j]? = some u → w2.cell? ((⟨g, k, none⟩ : Addr).add j) = some u := fun j u hu => by
              rw [List.getElem?_map, List.getElem?_drop] at hu
              cases hs : ss[k + j]? with
              | none => rw [hs] at hu; simp at hu
              | some s =>
                rw [hs] at hu
                have ha : (⟨g, k, none⟩ : Addr).add j = ⟨g, k + j, none⟩ := by unfold Addr.add; split <;> simp_all
                rw [ha, HS2.out.2.2.2 (k + j) s hs]; simpa using hu
            have HY3 := Lib.hid hys3
            clear hys3 hck
            go_wp2_with (at_builtin; refine wp_appendN rfl (.tmp 43) (.tmp 46) 36 rfl _ 16 Try.underlying36 info_string rfl rfl HO2.out _ HU3.out ⟨g, k, none⟩ _ _ rfl HM3.out HY3.out _ HM2.out hn10 (by decide) hsz4 ?_)
            intro A3 c3 w3 hown3 hbel3
            have hown4 : Own w3 w.heap.size 9 (.slice A3 r.length c3) (r.map Value.string) := by
              have h1 := HRM.out
              have h2 := HRL.out
              rw [h2, ← h1]
              simpa using hown3
            obtain ⟨g', hA3, hst3⟩ := hown4.strAt HNE.out
            subst hA3
            have HST3 := Lib.hid hst3
            have hbw3 : Below w.heap.size w w3 := hbw2.trans hbel3
            clear hown3 hown4 hst3 hbel3
            go_wp2_with fail
            go_ret
            exact ⟨g', c3, by rw [HRL.out]; simp; try omega, HST3.out, hbw3⟩
    · have hk00 : k = 0 := by omega
      subst hk00
      have hk00 : (0 : Nat) = k0 := HG.out
      subst hk00
      have hfin : r = ss.take 0 ++ x :: ss.drop 0 := by rw [HR.out, if_neg (fun h => h.1 rfl)]
      have HF := Lib.hid hfin
      clear hfin
      have hsa : StrAt (w.alloc (.cells #[] 9)) g c ss := HS.out.below ((Below.refl _ _).alloc (Nat.le_refl _) _)
      have he0 : Own (w.alloc (.cells #[] 9)) w.heap.size 9 (.slice (some ⟨w.heap.size, 0, none⟩) 0 0) [] := Own.empty (Nat.le_refl _)
      have hb01 : Below w.heap.size w (w.alloc (.cells #[] 9)) := (Below.refl _ _).alloc (Nat.le_refl _) _
      have hsz1 : w.heap.size ≤ (w.alloc (.cells #[] 9)).heap.size := by simp
      have hys1 : ∀ j u, ((ss.take 0).map Value.string)[j]? = some u → (w.alloc (.cells #[] 9)).cell? ((⟨g, 0, none⟩ : Addr).add j) = some u := fun j u hu => by
        obtain ⟨ad, hae, _, hc⟩ := hsa.rds j u (by
          rw [List.getElem?_map] at hu ⊢
          rw [List.getElem?_take] at hu
          split at hu
          · exact hu
          · simp at hu)
        injection hae with hae
        subst hae
        exact hc
      have hm1 : ((ss.take 0).map Value.string).length = 0 := by rw [List.length_map, List.length_take, HN.out]; omega
      have hu1 : ∀ u ∈ (ss.take 0).map Value.string, u.oneCell' = true := fun u hu => by
        obtain ⟨s, _, rfl⟩ := List.mem_map.1 hu; rfl
      have HY1 := Lib.hid hys1; have HM1 := Lib.hid hm1; have HU1 := Lib.hid hu1; have HE0 := Lib.hid he0; have HSA := Lib.hid hsa
      have hn9 : 0 + 0 < 4294967296 := by omega
      clear hsa he0 hys1 hm1 hu1
      go_wp2_with (at_builtin; refine wp_appendN rfl (.tmp 34) (.tmp 37) 36 rfl _ 16 Try.underlying36 info_string rfl rfl HE0.out ((ss.take 0).map Value.string) HU1.out ⟨g, 0, none⟩ 0 c rfl HM1.out HY1.out 0 rfl hn9 (by decide) hsz1 ?_)
      intro A1 c1 w1 hown1 hbel1
      have hown1' : Own w1 w.heap.size 9 (.slice A1 0 c1) ((ss.take 0).map Value.string) := by simpa using hown1
      have hbw1 : Below w.heap.size w w1 := hb01.trans hbel1
      have hsz2 := hbw1.size
      have HO1 := Lib.hid hown1'
      have hk9 : 0 < 4294967296 := by omega
      clear hown1 hown1' hbel1
      go_wp2_with (at_builtin; refine wp_append1 rfl (.tmp 39) (.tmp 41) 36 rfl _ 16 Try.underlying36 info_string rfl rfl HO1.out _ rfl rfl 0 HM1.out hk9 (by decide) hsz2 ?_)
      intro A2 c2 w2 hown2 hbel2 hsz3
      have hbw2 : Below w.heap.size w w2 := hbw1.trans hbel2
      have hown2' : Own w2 w.heap.size 9 (.slice A2 (0 + 1) c2) ((ss.take 0 ++ [x]).map Value.string) := by simpa using hown2
      have HO2 := Lib.hid hown2'; have HS2 := Lib.hid (HS.out.below hbw2)
      clear hown2 hown2' hbel2
      have hu3 : ∀ u ∈ (ss.drop 0).map Value.string, u.oneCell' = true := fun u hu => by
        obtain ⟨s, _, rfl⟩ := List.mem_map.1 hu; rfl
      have hm3 : ((ss.drop 0).map Value.string).length = n - 0 := by rw [List.length_map, List.length_drop, HN.out]
      have hm2 : ((ss.take 0 ++ [x]).map Value.string).length = 0 + 1 := by rw [List.length_map, List.length_append, List.length_take, HN.out]; first | (simp; done) | (simp; omega)
      have hn10 : 0 + 1 + (n - 0) < 4294967296 := by omega
      have hsz4 := hbw2.size
      have hrl : r.length = 0 + 1 + (n - 0) := by rw [HF.out, List.length_append, List.length_cons, List.length_take, List.length_drop, HN.out]; omega
      have hrm : (ss.take 0 ++ [x]).map Value.string ++ (ss.drop 0).map Value.string = r.map Value.string := by rw [HF.out, ← List.map_append, List.append_assoc]; rfl
      have hrne : r ≠ [] := fun h => by rw [h] at hrl; simp at hrl; omega
      have HU3 := Lib.hid hu3; have HM3 := Lib.hid hm3; have HM2 := Lib.hid hm2; have HRL := Lib.hid hrl; have HRM := Lib.hid hrm; have HNE := Lib.hid hrne
      clear hu3 hm3 hm2 hrl hrm hrne
      by_cases hck : c = 0
      · have hnk : 0 = n := by omega
        have hkc : 0 = c := hck.symm
        clear hck
        have hd0 : ss.drop 0 = [] := List.drop_eq_nil_of_le (by rw [HN.out]; omega)
        have hys3 : ∀ j u, ((ss.drop 0).map Value.string)[j]? = some u → w2.cell? ((⟨g, 0, none⟩ : Addr).add j) = some u := fun j u hu => by rw [hd0] at hu; simp at hu
        have hm0 : ((ss.drop 0).map Value.string).length = 0 := by rw [hd0]; rfl
        have HM0 := Lib.hid hm0
        have HY3 := Lib.hid hys3
        have hn11 : 0 + 1 + 0 < 4294967296 := by omega
        clear hys3 hd0 hm0
        subst hkc; subst hnk
        go_wp2_with (at_builtin; refine wp_appendN rfl (.tmp 43) (.tmp 46) 36 rfl _ 16 Try.underlying36 info_string rfl rfl HO2.out _ HU3.out ⟨g, 0, none⟩ 0 _ rfl HM0.out HY3.out _ HM2.out hn11 (by decide) hsz4 ?_)
        intro A3 c3 w3 hown3 hbel3
        have hown4 : Own w3 w.heap.size 9 (.slice A3 r.length c3) (r.map Value.string) := by
          have h1 := HRM.out
          have h2 := HRL.out
          rw [h2, ← h1]
          simpa using hown3
        obtain ⟨g', hA3, hst3⟩ := hown4.strAt HNE.out
        subst hA3
        have HST3 := Lib.hid hst3
        have hbw3 : Below w.heap.size w w3 := hbw2.trans hbel3
        clear hown3 hown4 hst3 hbel3
        go_wp2_with fail
        go_ret
        exact ⟨g', c3, by rw [HRL.out]; simp; try omega, HST3.out, hbw3⟩
      · have hlt9 : 0 < c := by omega
        have hys3 : ∀ j u, ((ss.drop 0).map Value.string)[j]? = some u → w2.cell? ((⟨g, 0, none⟩ : Addr).add j) = some u := fun j u hu => by
          rw [List.getElem?_map, List.getElem?_drop] at hu
          cases hs : ss[0 + j]? with
          | none => rw [hs] at hu; simp at hu
          | some s =>
            rw [hs] at hu
            have ha : (⟨g, 0, none⟩ : Addr).add j = ⟨g, 0 + j, none⟩ := by unfold Addr.add; split <;> simp_all
            rw [ha, HS2.out.2.2.2 (0 + j) s hs]; simpa using hu
        have HY3 := Lib.hid hys3
        clear hys3 hck
        go_wp2_with (at_builtin; refine wp_appendN rfl (.tmp 43) (.tmp 46) 36 rfl _ 16 Try.underlying36 info_string rfl rfl HO2.out _ HU3.out ⟨g, 0, none⟩ _ _ rfl HM3.out HY3.out _ HM2.out hn10 (by decide) hsz4 ?_)
        intro A3 c3 w3 hown3 hbel3
        have hown4 : Own w3 w.heap.size 9 (.slice A3 r.length c3) (r.map Value.string) := by
          have h1 := HRM.out
          have h2 := HRL.out
          rw [h2, ← h1]
          simpa using hown3
        obtain ⟨g', hA3, hst3⟩ := hown4.strAt HNE.out
        subst hA3
        have HST3 := Lib.hid hst3
        have hbw3 : Below w.heap.size w w3 := hbw2.trans hbel3
        clear hown3 hown4 hst3 hbel3
        go_wp2_with fail
        go_ret
        exact ⟨g', c3, by rw [HRL.out]; simp; try omega, HST3.out, hbw3⟩
end Go.Proofs.Ytfjmopiofcbpgaa
