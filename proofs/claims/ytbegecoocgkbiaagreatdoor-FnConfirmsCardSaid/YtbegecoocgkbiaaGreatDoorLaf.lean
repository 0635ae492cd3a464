/- CountAfter for two letters, LengthAfter of fibonacci and thue. Asks the shelf's text (strings.Count). No condition but the bounds. -/
import Derived.Test.YtbegecoocgkbiaaGreatDoorM48
import Derived.Test.YtbegecoocgkbiaaGreatDoorDtm
import Derived.Test.YtbegecoocgkbiaaGreatDoorFsb
import Derived.Test.YtbegecoocgkbiaaGreatDoorPrm
import Derived.Deep.RegionLaw
import Derived.Deep.CutRange
import Derived.Deep.DrawnRows
namespace Go.Proofs.YtbegecoocgkbiaaGreatDoor
open Go.RowKit
set_option linter.unusedVariables false

def dotT (r v : List Int) : Nat → Int
  | 0 => 0
  | k + 1 => dotT r v k + r.getD k 0 * v.getD k 0
/-- The next counts, i of them whole, the next one begun. -/
def nxA (m : List (List Int)) (v : List Int) (i k : Nat) : List Int := (List.range 2).map fun a => if a < i then dotT (m.getD a []) v 2 else if a = i then dotT (m.getD a []) v k else 0
def vI (m : List (List Int)) (v : List Int) : Nat → List Int
  | 0 => v
  | j + 1 => nxA m (vI m v j) 2 0
theorem nxA_len (m : List (List Int)) (v : List Int) (i k : Nat) : (nxA m v i k).length = 2 := by simp [nxA]
theorem nxA_at {m : List (List Int)} {v : List Int} {i : Nat} (k : Nat) (h : i < 2) : (nxA m v i k)[i]? = some (dotT (m.getD i []) v k) := by
  rw [nxA, List.getElem?_map, List.getElem?_range h]
  simp
theorem nxA_set {m : List (List Int)} {v : List Int} {i k : Nat} (h : i < 2) : (ints (nxA m v i k)).set i (.int .i64 (dotT (m.getD i []) v (k + 1))) = ints (nxA m v i (k + 1)) := by
  match i, h with
  | 0, _ => rfl
  | 1, _ => rfl
theorem nxA_end {m : List (List Int)} {v : List Int} {i : Nat} (h : i < 2) : nxA m v i 2 = nxA m v (i + 1) 0 := by
  match i, h with
  | 0, _ => rfl
  | 1, _ => rfl
theorem nxA_zero (m : List (List Int)) (v : List Int) : nxA m v 0 0 = [0, 0] := rfl
theorem vI_len {m : List (List Int)} {v : List Int} (h : v.length = 2) : ∀ j, (vI m v j).length = 2
  | 0 => h
  | j + 1 => nxA_len _ _ _ _
/-- 'append(s, xs...)' where s has no room: a block of its own, all else as it was. -/
theorem step_append0 {P : Program} {W : World} {ops : Array Oper} {o : Oper} {a : Act} {K : Act → World → Prop} {Q : Exit → Act → World → Prop} {R : Prop} {E : TypeId} (hg : o.guard = none) (s x : Operand) (t : TypeId)
    (ho : o.op = .call { callee := .builtin .append, args := #[s, x], argTypes := #[t, t] })
    (z : Value) (bytes : Nat) (ht : P.underlying t = some (.slice E)) (hinfo : (P.info? E).map (fun i => (i.zero, i.size, i.bytes)) = some (some z, 1, bytes))
    (b : Addr) (hs : a.eval s = .slice (some b) 0 0) (ad : Addr) (k c2 : Nat) (news : List Value) (hx : a.eval x = .slice (some ad) k c2)
    (hl : news.length = k) (hnews : ∀ j u, news[j]? = some u → W.cell? (ad.add j) = some u) (h0 : 0 < k) (hk : k ≤ 1000) (hb16 : bytes ≤ 1024)
    (h : ∀ p c' w', (∀ j u, news[j]? = some u → w'.cell? ⟨p, j, none⟩ = some u) → W.heap.size ≤ p → p < w'.heap.size → Below W.heap.size W w' → K (a.put o.dst (.slice (some ⟨p, 0, none⟩) k c')) w') :
    if Region.wanted o (yielded ops a.tmps) = true then Oper.wp P o a W K Q else R := by
  obtain ⟨i, hi, hz, hsize, hby⟩ := info_parts hinfo
  have hw : Region.wanted o (yielded ops a.tmps) = true := by simp [Region.wanted, hg]
  rw [if_pos hw]
  have hr := run_append_grow (P := P) (w := W) t o.type E i z ht hi hz b 0 0 [] (by simp) (fun j v hj => by simp at hj) ad k c2 news (by rw [hsize, Nat.mul_one]; exact hl) hnews (by omega) (by omega)
    (growslice_fits (by omega) (by rw [hby]; calc (0 + k) * bytes ≤ 1000 * 1024 := Nat.mul_le_mul (by omega) hb16
      _ ≤ 140737488355328 := by decide))
  rw [Nat.zero_add] at hr
  have bA : Below W.heap.size W (W.drew.alloc (.cells (([] : List Value).toArray ++ news.toArray ++ Builtin.zeroCells z.cells (grownCap W k 0 E - k)) E)) := ((Below.refl W.heap.size W).drew).alloc (by simp) _
  have hq := heap_alloc_new W.drew (.cells (([] : List Value).toArray ++ news.toArray ++ Builtin.zeroCells z.cells (grownCap W k 0 E - k)) E)
  unfold Oper.wp execOp
  simp only [ho, resolve, invoke, builtin, Sem.run_bind, Sem.run_pure, Result.andThen_ok, List.map_toArray, List.map_cons, List.map_nil, hs, hx, hr]
  refine h W.heap.size _ _ (fun j u hj => ?_) (Nat.le_refl _) (by simp) bA
  have hjl := (List.getElem?_eq_some_iff.1 hj).1
  have h1 := cell_of_row _ _ j _ _ (0, 0) hq
  have h2 : (([] : List Value).toArray ++ news.toArray ++ Builtin.zeroCells z.cells (grownCap W k 0 E - k))[j]? = some u := by
    rw [Array.getElem?_append_left (by simp; omega)]
    simpa using hj
  rw [h2] at h1
  exact h1
set_option maxRecDepth 8000 in
set_option maxHeartbeats 4000000 in
theorem cntA_2 (zs : List ByteArray) (g cz B gc n : Nat) (v : List Int) (w : World) (hl : zs.length = 2) (hsu : suOk zs = true) (hrd : Rds w B (some ⟨g, 0, none⟩) (zs.map Value.string)) (hB : B ≤ w.heap.size)
    (hvl : v.length = 2) (hv : ∀ k x, v[k]? = some x → (0 ≤ x ∧ x ≤ 1000) ∧ w.cell? ⟨gc, k, none⟩ = some (.int .i64 x)) (hgc : gc < w.heap.size) (hn : n ≤ 40)
    (hbd : ∀ j i k, j ≤ n → i < 2 → k ≤ 2 → 0 ≤ dotT ((mtL zs).getD i []) (vI (mtL zs) v j) k ∧ dotT ((mtL zs).getD i []) (vI (mtL zs) v j) k ≤ 100000) :
    Calls Tryz.prog 64 #[.agg #[.slice (some ⟨g, 0, none⟩) 2 cz], .slice (some ⟨gc, 0, none⟩) 2 2, .int .i64 n] w fun e w' => ∃ p c, e = .returned (.tuple #[.slice (some ⟨p, 0, none⟩) 2 c, .bool true]) ∧ p < w'.heap.size ∧ (∀ k x, (vI (mtL zs) v n)[k]? = some x → w'.cell? ⟨p, k, none⟩ = some (.int .i64 x)) ∧ Below w.heap.size w w' := by
  have h8 := (su_img hsu).2
  have bA : Below w.heap.size w (w.alloc (.cells #[.slice (some ⟨g, 0, none⟩) 2 cz] 25)) := (Below.refl _ _).alloc (Nat.le_refl _) _
  have zA : (w.alloc (.cells #[.slice (some ⟨g, 0, none⟩) 2 cz] 25)).heap.size = w.heap.size + 1 := by simp
  have h0 := cell_of_row _ _ 0 _ _ (0, 0) (heap_alloc_new w (.cells #[.slice (some ⟨g, 0, none⟩) 2 cz] 25))
  have hso := iSubstOk_any zs (some ⟨g, 0, none⟩) cz B (w.alloc (.cells #[.slice (some ⟨g, 0, none⟩) 2 cz] 25)) (by omega) (by omega) (fun x hx => by have := h8 x hx; unfold maxLen; omega) (hrd.below bA hB)
  rw [hl, hsu] at hso
  have hmx := fun u r hb => iMatrix_any zs (some ⟨g, 0, none⟩) 2 cz B u hl (by omega) h8 r hb
  have hwi := fun (x : Int) (h : 0 ≤ x ∧ x ≤ 1000) u => within_yes x 0 1000 h u
  have hwn := fun u => within_yes (n : Int) 0 40 ⟨by omega, by omega⟩ u
  have hsqm := mt_sq h8
  rw [hl] at hsqm
  have HSO := Lib.hid hso; have HMX := Lib.hid hmx; have HWI := Lib.hid hwi; have HWN := Lib.hid hwn; have HRD := Lib.hid hrd; have H0 := Lib.hid h0; have HV := Lib.hid hv; have HBD := Lib.hid hbd; have HSQ := Lib.hid hsqm; have HVL := Lib.hid hvl
  clear hso hmx hwi hwn hrd h0 hv hbd hsqm hvl h8 hsu hl
  go_enter Tryz.func64, Tryz.ntmps64
  go_wp2_with fail
  refine HSO.out.mono ?_
  rintro e w1 ⟨rfl, b1⟩
  rw [zA] at b1
  have bw1 : Below w.heap.size w w1 := bA.trans (b1.mono (by omega))
  have z1 := b1.size
  rw [zA] at z1
  have k1 : w1.cell? ⟨w.heap.size, 0, none⟩ = some (.slice (some ⟨g, 0, none⟩) 2 cz) := (b1.cell (p := ⟨w.heap.size, 0, none⟩) (by show w.heap.size < w.heap.size + 1; omega)).trans H0.out
  clear b1 HSO H0 bA zA
  go_wp2_with (go_at_call 61; refine (HWN.out _).mono ?_; rintro e w' ⟨rfl, rfl⟩)
  go_loopw [9, 35] (fun _ i wr => ∃ k : Nat, k ≤ 2 ∧ i = .int .i64 k ∧ wr = w1) (fun _ i _ => 3 - (intOf i).toNat)
  case atStart => exact ⟨0, by omega, rfl, rfl⟩
  case round =>
    obtain ⟨k, hk, rfl, hwe⟩ := hrel
    subst hwe
    by_cases hlt : k < 2
    · obtain ⟨x, hx⟩ := some_of_lt (l := v) (k := k) (by rw [HVL.out]; exact hlt)
      obtain ⟨hx1, hx2⟩ := HV.out k x hx
      have hc := (bw1.cell (p := ⟨gc, k, none⟩) hgc).trans hx2
      have hlt2 : (k : Int) < 2 := by omega
      clear hx hx2
      go_wp2_with (go_at_call 61; refine (HWI.out x hx1 _).mono ?_; rintro e w' ⟨rfl, rfl⟩)
      go_roundw
      case rel => exact ⟨k + 1, by omega, by go_num, by trivial⟩
      case measure => simp [intOf]; omega
    · have hk2 : k = 2 := by omega
      subst hk2
      have hzr := bw1.size
      have hct : ∀ u, Below wr.heap.size wr u → ∀ (j : Nat) (y : Value), (ints v)[j]? = some y → u.cell? ((⟨gc, 0, none⟩ : Addr).add j) = some y := fun u hu j y hy => by
        rw [ints, List.getElem?_map] at hy
        cases hx : v[j]? with
        | none => rw [hx] at hy; cases hy
        | some x =>
          rw [hx] at hy
          have e1 : Value.int .i64 x = y := by simpa using hy
          subst e1
          rw [show (⟨gc, 0, none⟩ : Addr).add j = ⟨gc, j, none⟩ from by unfold Addr.add; split <;> simp_all]
          exact (hu.cell (p := ⟨gc, j, none⟩) (by show gc < wr.heap.size; omega)).trans ((bw1.cell (p := ⟨gc, j, none⟩) hgc).trans (HV.out j x hx).2)
      have CT := Lib.hid hct
      have RD : Hid (∀ u, Below wr.heap.size wr u → B ≤ u.heap.size ∧ Rds u B (some ⟨g, 0, none⟩) (zs.map Value.string)) := Lib.hid (fun u hu => ⟨by have := hu.size; omega, HRD.out.below (bw1.trans (hu.mono hzr)) hB⟩)
      have KC : Hid (∀ u, Below wr.heap.size wr u → u.cell? ⟨w.heap.size, 0, none⟩ = some (.slice (some ⟨g, 0, none⟩) 2 cz)) := Lib.hid (fun u hu => (hu.cell (p := ⟨w.heap.size, 0, none⟩) (by show w.heap.size < wr.heap.size; omega)).trans k1)
      have K0 : Below wr.heap.size wr wr.drew := (Dr.refl wr).drew.below
      have K0a : Below wr.heap.size wr (wr.alloc (.cells #[] 3)).drew := ((Below.refl _ _).alloc (Nat.le_refl _) _).drew
      have k0a : (wr.alloc (.cells #[] 3)).cell? ⟨w.heap.size, 0, none⟩ = some (.slice (some ⟨g, 0, none⟩) 2 cz) := KC.out _ ((Below.refl _ _).alloc (Nat.le_refl _) _)
      have HVI := Lib.hid (show (ints v).length = 2 by rw [ints_len, HVL.out])
      clear hct
      have HSZ2 := HSQ.out.1
      go_upto_region 9 with fail
      go_cut [10, 11] from 43 to 47 (fun s10 s11 wx => ∃ p c gm cm, s10 = .slice (some ⟨p, 0, none⟩) 2 c ∧ s11 = .slice (some ⟨gm, 0, none⟩) 2 cm ∧ p < wx.heap.size ∧ Gr wx wx.heap.size gm (mtL zs) ∧ (∀ (j : Nat) (u : Value), (ints v)[j]? = some u → wx.cell? ⟨p, j, none⟩ = some u) ∧ Below wr.heap.size wr wx)
      case first => as_aux_lemma =>
        go_region_law
          (first
            | (refine step_append0 rfl (.tmp 43) (.tmp 44) 34 rfl _ 8 Tryz.underlying34 info_int _ (by rfl) ⟨gc, 0, none⟩ 2 2 (ints v) (by rfl) HVI.out (CT.out _ (KMA.out _)) (by decide) (by decide) (by decide) ?_; intro p c' wa hcell hp1 hp2 hba; have hbb := ((Below.refl wm.heap.size wm).alloc (Nat.le_refl _) _).trans (hba.mono (by simp)); have KF := KM.trans (hbb.mono KM.size); have GMF := Lib.hid (hbm.below hbb).gr; have NCF := Lib.hid hcell; have hpF := hp2; obtain ⟨wf, rfl⟩ : ∃ z : World, z = wa := ⟨_, rfl⟩)
            | (refine step_append0 rfl (.tmp 43) (.tmp 44) 34 rfl _ 8 Tryz.underlying34 info_int _ (by rfl) ⟨gc, 0, none⟩ 2 2 (ints v) (by rfl) HVI.out (CT.out _ KM) (by decide) (by decide) (by decide) ?_; intro p c' wa hcell hp1 hp2 hba; have KF := KM.trans (hba.mono KM.size); have GMF := Lib.hid (hbm.below hba).gr; have NCF := Lib.hid hcell; have hpF := hp2; obtain ⟨wf, rfl⟩ : ∃ z : World, z = wa := ⟨_, rfl⟩)
            | (refine step_append0 rfl (.tmp 43) (.tmp 44) 34 rfl _ 8 Tryz.underlying34 info_int _ (by rfl) ⟨gc, 0, none⟩ 2 2 (ints v) (by rfl) HVI.out (CT.out _ K0a) (by decide) (by decide) (by decide) ?_; intro p c' wa hcell hp1 hp2 hba; have KA := K0a.trans (hba.mono K0a.size); have ka := KC.out _ KA)
            | (go_simp; go_wp2_with (go_at_call 74; first
              | (with_reducible refine (HMX.out _ (RD.out _ KA).2 (RD.out _ KA).1).mono ?_; rintro e wm ⟨gm, cm, vm, rfl, hbm, b6⟩; have KF := KA.trans (b6.mono KA.size); have GMF := Lib.hid hbm.gr; have NCF : Hid (∀ (j : Nat) (u : Value), (ints v)[j]? = some u → wm.cell? ⟨p, j, none⟩ = some u) := Lib.hid (fun j u hj => (b6.cell (p := ⟨p, j, none⟩) hp2).trans (hcell j u hj)); have hpF : p < wm.heap.size := Nat.lt_of_lt_of_le hp2 b6.size; obtain ⟨wf, rfl⟩ : ∃ z : World, z = wm := ⟨_, rfl⟩)
              | (with_reducible refine (HMX.out _ (RD.out _ K0a).2 (RD.out _ K0a).1).mono ?_; rintro e wm ⟨gm, cm, vm, rfl, hbm, b6⟩; have KM := K0a.trans (b6.mono K0a.size); have KMA : Hid (∀ o, Below wr.heap.size wr (wm.alloc o)) := Lib.hid (fun o => KM.alloc KM.size o))
              | (with_reducible refine (HMX.out _ (RD.out _ K0).2 (RD.out _ K0).1).mono ?_; rintro e wm ⟨gm, cm, vm, rfl, hbm, b6⟩; have KM := K0.trans (b6.mono K0.size); have KMA : Hid (∀ o, Below wr.heap.size wr (wm.alloc o)) := Lib.hid (fun o => KM.alloc KM.size o)))))
        all_goals
          clear hbm
          go_wp2_with fail
          go_meet
          case rel => exact ⟨p, c', gm, cm, rfl, rfl, hpF, GMF.out, NCF.out, KF⟩
      case rest =>
      obtain ⟨p0, c0, gm, cm, rfl, rfl, hp0, hgm, hnc, hK⟩ := hcut
      obtain ⟨wf, rfl⟩ : ∃ z : World, z = wc := ⟨_, rfl⟩
      have bwf : Below w.heap.size w wf := bw1.trans (hK.mono hzr)
      have zwf := bwf.size
      have hgml : gm < wf.heap.size := hgm.1
      have hat0 : ∀ (k : Nat) (x : Int), (vI (mtL zs) v 0)[k]? = some x → wf.cell? ⟨p0, k, none⟩ = some (.int .i64 x) := fun k x hx => hnc k _ (ints_at hx)
      have HGM := Lib.hid hgm; have HAT := Lib.hid hat0
      clear hgm hnc hK hat0 CT RD KC K0 K0a k0a HVI k1 bw1 hzr HV HRD HMX HWI HWN
      go_wp2_with fail
      go_loopw [10, 49] (fun nw i wr => ∃ (j p c : Nat), j ≤ n ∧ i = .int .i64 j ∧ nw = .slice (some ⟨p, 0, none⟩) 2 c ∧ p < wr.heap.size ∧ (∀ (k : Nat) (x : Int), (vI (mtL zs) v j)[k]? = some x → wr.cell? ⟨p, k, none⟩ = some (.int .i64 x)) ∧ Below wf.heap.size wf wr) (fun _ i _ => n + 1 - (intOf i).toNat)
      case atStart => exact ⟨0, p0, c0, by omega, rfl, rfl, hp0, HAT.out, Below.refl _ _⟩
      case round =>
        clear HAT
        obtain ⟨j, p, c, hj, rfl, rfl, hp, hat, hbe⟩ := hrel
        have hzr := hbe.size
        have HAT := Lib.hid hat
        clear hat
        by_cases hjn : j < n
        · have hjn2 : (j : Int) < (n : Int) := by omega
          obtain ⟨vj, hvj⟩ : ∃ vj, vI (mtL zs) v j = vj := ⟨_, rfl⟩
          have hnx : vI (mtL zs) v (j + 1) = nxA (mtL zs) vj 2 0 := by rw [vI, hvj]
          have hvl := vI_len HVL.out (m := mtL zs) j
          have hbj := fun i k h1 h2 => HBD.out j i k (by omega) h1 h2
          rw [hvj] at hvl hbj HAT
          have hmk : ∀ w : World, (Instr.makeSlice 34 (.int .i64 2) (.int .i64 2)).run Tryz.prog w = .ok (.slice (some ⟨w.heap.size, 0, none⟩) 2 2) (w.alloc (.cells (madeCells #[.int .i64 0] 2) 3)) := fun w => run_make_row' (P := Tryz.prog) 34 3 _ 8 Tryz.underlying34 info_int rfl .i64 .i64 2 (by omega) (by omega) w
          have hmd := Own.made (w := wr) (B := wr.heap.size) (E := 3) (z := .int .i64 0) (n := 2) (Nat.le_refl _) (by unfold maxLen; omega)
          have bM : Below wr.heap.size wr (wr.alloc (.cells (madeCells #[Value.int .i64 0] 2) 3)) := (Below.refl _ _).alloc (Nat.le_refl _) _
          have hmd2 : Own (wr.alloc (.cells (madeCells #[Value.int .i64 0] 2) 3)) wr.heap.size 3 (.slice (some ⟨wr.heap.size, 0, none⟩) 2 2) (ints (nxA (mtL zs) vj 0 0)) := hmd
          have HNX := Lib.hid hnx; have HVJ := Lib.hid hvl; have HBJ := Lib.hid hbj; have HMD := Lib.hid hmd2
          clear hnx hvl hbj hmd hmd2 hvj
          go_wp2_with fail
          clear hmk
          obtain ⟨w5, rfl⟩ : ∃ z : World, z = wr := ⟨_, rfl⟩
          go_loopw [13, 14, 56] (fun _ _ i wu => ∃ ii : Nat, ii ≤ 2 ∧ i = .int .i64 ii ∧ Own wu w5.heap.size 3 (.slice (some ⟨w5.heap.size, 0, none⟩) 2 2) (ints (nxA (mtL zs) vj ii 0)) ∧ Below w5.heap.size w5 wu) (fun _ _ i _ => 3 - (intOf i).toNat)
          case atStart => exact ⟨0, by omega, rfl, HMD.out, bM⟩
          case round =>
            clear HMD bM
            obtain ⟨ii, hii, rfl, how, hb5⟩ := hrel
            by_cases hil : ii < 2
            · obtain ⟨y, hy⟩ := some_of_lt (l := mtL zs) (k := ii) (by rw [HSZ2]; exact hil)
              have hyl := (HSQ.out.2 y (List.mem_of_getElem? hy)).1
              have hyd : (mtL zs).getD ii [] = y := by rw [List.getD_eq_getElem?_getD, hy]; rfl
              have hgw := HGM.out.below (hbe.trans (hb5.mono hzr)) (Nat.le_refl _)
              obtain ⟨qm, cqm, hcm1, _, _, hqml, hqm⟩ := hgw.row hy
              rw [hyl] at hcm1
              have hil2 : (ii : Int) < 2 := by omega
              have HO := Lib.hid how; have HY := Lib.hid hyd; have HYL := Lib.hid hyl
              have HQM : Hid (∀ (k : Nat) (x : Int) (u : World), y[k]? = some x → Below w5.heap.size wr u → u.cell? ⟨qm, k, none⟩ = some (.int .i64 x)) := Lib.hid (fun k x u hx hu => (hu.cell (p := ⟨qm, k, none⟩) (by show qm < w5.heap.size; omega)).trans (hqm k x hx))
              clear how hyd hyl hy hgw hqm
              go_wp2_with fail
              obtain ⟨w6, rfl⟩ : ∃ z : World, z = wr := ⟨_, rfl⟩
              go_loopw [15, 16, 63] (fun _ _ i wz => ∃ kk : Nat, kk ≤ 2 ∧ i = .int .i64 kk ∧ Own wz w5.heap.size 3 (.slice (some ⟨w5.heap.size, 0, none⟩) 2 2) (ints (nxA (mtL zs) vj ii kk)) ∧ Below w5.heap.size w6 wz) (fun _ _ i _ => 3 - (intOf i).toNat)
              case atStart => exact ⟨0, by omega, rfl, HO.out, Below.refl _ _⟩
              case round =>
                clear HO
                obtain ⟨kk, hkk, rfl, how, hb6⟩ := hrel
                have hst := how.store (k := ii) (by rw [ints_len, nxA_len]; exact hil)
                obtain ⟨g0, hg0, hBg, hgs, hcell0, hfr, hst⟩ := hst
                injection hg0 with hg0
                injection hg0 with hg0
                subst hg0
                rw [ints_at (nxA_at kk hil)] at hcell0
                by_cases hkl : kk < 2
                · obtain ⟨z, hz⟩ := some_of_lt (l := y) (k := kk) (by rw [HYL.out]; exact hkl)
                  obtain ⟨x, hx⟩ := some_of_lt (l := vj) (k := kk) (by rw [HVJ.out]; exact hkl)
                  have hcz := HQM.out kk z wr hz hb6
                  have hcx := ((hb5.trans hb6).cell (p := ⟨p, kk, none⟩) hp).trans (HAT.out kk x hx)
                  have hd : dotT ((mtL zs).getD ii []) vj (kk + 1) = dotT ((mtL zs).getD ii []) vj kk + z * x := by
                    rw [dotT, HY.out, List.getD_eq_getElem?_getD, hz, List.getD_eq_getElem?_getD, hx]; rfl
                  obtain ⟨q1, q2⟩ := HBJ.out ii kk hil (by omega)
                  obtain ⟨q3, q4⟩ := HBJ.out ii (kk + 1) hil (by omega)
                  have hset := nxA_set (m := mtL zs) (v := vj) (k := kk) hil
                  have hst1 := hst (.int .i64 (dotT ((mtL zs).getD ii []) vj (kk + 1)))
                  rw [hset] at hst1
                  obtain ⟨a, ha⟩ : ∃ a, dotT ((mtL zs).getD ii []) vj kk = a := ⟨_, rfl⟩
                  obtain ⟨b, hb⟩ : ∃ b, dotT ((mtL zs).getD ii []) vj (kk + 1) = b := ⟨_, rfl⟩
                  obtain ⟨m9, hm9⟩ : ∃ m9, z * x = m9 := ⟨_, rfl⟩
                  rw [ha, hb, hm9] at hd
                  rw [ha] at q1 q2 hcell0
                  rw [hb] at q3 q4 hst1
                  have e1 : IntKind.i64.wrap (z * x) = m9 := by rw [hm9, IntWalk.i64_in _ (by omega)]
                  have e2 : IntKind.i64.wrap (a + m9) = b := by rw [← hd, IntWalk.i64_in _ (by omega)]
                  have hkl2 : (kk : Int) < 2 := by omega
                  have HST := Lib.hid hst1
                  clear hst hst1 hset ha hb hm9 hd hz hx how
                  go_wp2_with fail
                  go_region
                  all_goals
                    go_wp2_with fail
                    go_roundw
                    case rel =>
                      repeat apply Exists.intro
                      exact ⟨⟨kk + 1, by omega, by go_num, HST.out.1.dr (Dr.refl _).drew, (hb6.trans HST.out.2.1).drew⟩, rfl⟩
                    case measure => simp [intOf]; omega
                · have hk2 : kk = 2 := by omega
                  subst hk2
                  obtain ⟨q1, q2⟩ := HBJ.out ii 2 hil (by omega)
                  obtain ⟨a, ha⟩ : ∃ a, dotT ((mtL zs).getD ii []) vj 2 = a := ⟨_, rfl⟩
                  rw [ha] at q1 q2 hcell0
                  rw [nxA_end hil] at how
                  have e3 : ¬ (1000000000000 : Int) < a := by omega
                  have HO := Lib.hid how
                  clear how hst ha
                  go_wp2_with fail
                  go_roundw
                  case rel => exact ⟨ii + 1, by omega, by go_num, HO.out, hb5.trans hb6⟩
                  case measure => simp [intOf]; omega
            · have hi2 : ii = 2 := by omega
              subst hi2
              have hz5 := hb5.size
              have hnew : ∀ (k : Nat) (x : Int), (vI (mtL zs) v (j + 1))[k]? = some x → wr.cell? ⟨w5.heap.size, k, none⟩ = some (.int .i64 x) := fun k x hx => by
                rw [HNX.out] at hx
                exact rds_cell how.reads (ints_at hx)
              have hlt5 : w5.heap.size < wr.heap.size := (World.ownsRow.lt how w5.heap.size rfl).2
              have HNEW := Lib.hid hnew
              clear how hnew
              go_wp2_with fail
              go_roundw
              case rel => exact ⟨j + 1, w5.heap.size, 2, by omega, by go_num, rfl, hlt5, HNEW.out, hbe.trans (hb5.mono hzr)⟩
              case measure => simp [intOf]; omega
        · have hjn2 : j = n := by omega
          subst hjn2
          go_wp2_with fail
          go_ret2
          exact ⟨p, c, rfl, hp, HAT.out, bwf.trans (hbe.mono zwf)⟩
theorem bdF : ∀ j, j < 11 → ∀ i, i < 2 → ∀ k, k < 3 → 0 ≤ dotT ((mtL zF).getD i []) (vI (mtL zF) [1, 0] j) k ∧ dotT ((mtL zF).getD i []) (vI (mtL zF) [1, 0] j) k ≤ 100000 := by decide +kernel
theorem bdT : ∀ j, j < 8 → ∀ i, i < 2 → ∀ k, k < 3 → 0 ≤ dotT ((mtL zT).getD i []) (vI (mtL zT) [0, 1] j) k ∧ dotT ((mtL zT).getD i []) (vI (mtL zT) [0, 1] j) k ≤ 100000 := by decide +kernel
set_option maxRecDepth 4000 in
set_option maxHeartbeats 2000000 in
theorem laf_F (g cz B : Nat) (w : World) (hrd : Rds w B (some ⟨g, 0, none⟩) (zF.map Value.string)) (hB : B ≤ w.heap.size) :
    Calls Tryz.prog 7 #[.agg #[.slice (some ⟨g, 0, none⟩) 2 cz], .string { data := #[97] }, .int .i64 10] w fun e w' => e = .returned (.int .i64 144) ∧ Below w.heap.size w w' := by
  have bA : Below w.heap.size w (w.alloc (.cells #[.slice (some ⟨g, 0, none⟩) 2 cz] 25)) := (Below.refl _ _).alloc (Nat.le_refl _) _
  have zA : (w.alloc (.cells #[.slice (some ⟨g, 0, none⟩) 2 cz] 25)).heap.size = w.heap.size + 1 := by simp
  have h0 := cell_of_row _ _ 0 _ _ (0, 0) (heap_alloc_new w (.cells #[.slice (some ⟨g, 0, none⟩) 2 cz] 25))
  have hso := iSubstOk_any zF (some ⟨g, 0, none⟩) cz B (w.alloc (.cells #[.slice (some ⟨g, 0, none⟩) 2 cz] 25)) (by omega) (by decide) (fun x hx => by have := (su_img su_F).2 x hx; unfold maxLen; omega) (hrd.below bA hB)
  rw [show zF.length = 2 from rfl, su_F] at hso
  have hhi := fun u => hasImage_any (some ⟨g, 0, none⟩) 2 cz { data := #[97] } (by unfold maxLen; decide) (by decide) u
  rw [show imB 2 { data := #[97] } = true by decide +kernel] at hhi
  have hca := fun gc u hv hr hb hgc => cntA_2 zF g cz B gc 10 [1, 0] u rfl su_F hr hb rfl hv hgc (by decide) (fun j i k h1 h2 h3 => bdF j (by omega) i h2 k (by omega))
  have hmk : ∀ w : World, (Instr.makeSlice 34 (.int .i64 2) (.int .i64 2)).run Tryz.prog w = .ok (.slice (some ⟨w.heap.size, 0, none⟩) 2 2) (w.alloc (.cells #[.int .i64 0, .int .i64 0] 3)) := fun w => by
    have hm2 : madeCells #[Value.int .i64 0] 2 = #[.int .i64 0, .int .i64 0] := by apply Array.ext'; rw [toList_madeCells_one]; rfl
    rw [← hm2]
    exact run_make_row' (P := Tryz.prog) 34 3 _ 8 Tryz.underlying34 info_int rfl .i64 .i64 2 (by omega) (by omega) w
  have HSO := Lib.hid hso; have HHI := Lib.hid hhi; have HCA := Lib.hid hca; have HRD := Lib.hid hrd; have H0 := Lib.hid h0; have HMK := Lib.hid hmk
  clear hso hhi hca hrd h0 hmk
  go_enter Tryz.func7, Tryz.ntmps7
  go_wp2_with fail
  refine HSO.out.mono ?_
  rintro e w1 ⟨rfl, b1⟩
  rw [zA] at b1
  have bw1 : Below w.heap.size w w1 := bA.trans (b1.mono (by omega))
  have z1 := b1.size
  rw [zA] at z1
  have k1 : w1.cell? ⟨w.heap.size, 0, none⟩ = some (.slice (some ⟨g, 0, none⟩) 2 cz) := (b1.cell (p := ⟨w.heap.size, 0, none⟩) (by show w.heap.size < w.heap.size + 1; omega)).trans H0.out
  clear b1 HSO H0 bA zA
  go_wp2_with fail
  refine (HHI.out _).mono ?_
  rintro e w2 ⟨rfl, b2⟩
  have bw2 : Below w.heap.size w w2 := bw1.trans (b2.mono (by omega))
  have z2 := b2.size
  have k2 := (b2.cell (p := ⟨w.heap.size, 0, none⟩) (by show w.heap.size < w1.heap.size; omega)).trans k1
  clear b2 bw1 k1 HHI
  have hmk := HMK.out
  have ex : (({ data := #[97] } : ByteArray)[0]'(by decide)).toNat = 97 := rfl
  have bM : Below w2.heap.size w2 (w2.alloc (.cells #[.int .i64 1, .int .i64 0] 3)) := (Below.refl _ _).alloc (Nat.le_refl _) _
  have zM : (w2.alloc (.cells #[.int .i64 1, .int .i64 0] 3)).heap.size = w2.heap.size + 1 := by simp
  have qM := heap_alloc_new w2 (.cells #[.int .i64 1, .int .i64 0] 3)
  have k2a := (bM.cell (p := ⟨w.heap.size, 0, none⟩) (by show w.heap.size < w2.heap.size; omega)).trans k2
  have hbw3 : Below w.heap.size w (w2.alloc (.cells #[.int .i64 1, .int .i64 0] 3)) := bw2.trans (bM.mono (by omega))
  have hcnt : ∀ k x, ([1, 0] : List Int)[k]? = some x → (0 ≤ x ∧ x ≤ 1000) ∧ (w2.alloc (.cells #[.int .i64 1, .int .i64 0] 3)).cell? ⟨w2.heap.size, k, none⟩ = some (.int .i64 x) := fun k x hx => by
    match k, hx with
    | 0, hx => simp at hx; subst hx; exact ⟨by omega, cell_of_row _ _ 0 _ _ (0, 0) qM⟩
    | 1, hx => simp at hx; subst hx; exact ⟨by omega, cell_of_row _ _ 1 _ _ (0, 0) qM⟩
    | k + 2, hx => simp at hx
  have HC3 := Lib.hid (HCA.out w2.heap.size _ hcnt (HRD.out.below hbw3 hB) (by rw [zM]; omega) (by rw [zM]; omega))
  clear hcnt HCA HMK qM
  go_wp2_with fail
  refine HC3.out.mono ?_
  rintro e w4 ⟨p, c, rfl, hp, hat, b4⟩
  have bw4 := hbw3.trans (b4.mono (by rw [zM]; omega))
  have c0 := hat 0 89 (by decide +kernel)
  have c1 := hat 1 55 (by decide +kernel)
  clear hat hbw3 HC3 k2 k2a b4 bM ex
  go_wp2_with fail
  go_loopw [10, 12, 42] (fun s _ i wr => ((i = .int .i64 0 ∧ s = .int .i64 0) ∨ (i = .int .i64 1 ∧ s = .int .i64 89) ∨ (i = .int .i64 2 ∧ s = .int .i64 144)) ∧ wr = w4) (fun _ _ i _ => 3 - (intOf i).toNat)
  case atStart => exact ⟨by simp, rfl⟩
  case round =>
    obtain ⟨hs, hw⟩ := hrel
    subst hw
    rcases hs with ⟨rfl, rfl⟩ | ⟨rfl, rfl⟩ | ⟨rfl, rfl⟩
    · go_wp2_with fail
      go_roundw
      case rel => exact ⟨by simp, by first | trivial | rfl⟩
      case measure => decide
    · go_wp2_with fail
      go_roundw
      case rel => exact ⟨by simp, by first | trivial | rfl⟩
      case measure => decide
    · go_wp2_with fail
      go_ret
      exact ⟨rfl, bw4⟩
set_option maxRecDepth 4000 in
set_option maxHeartbeats 2000000 in
theorem laf_T (g cz B : Nat) (w : World) (hrd : Rds w B (some ⟨g, 0, none⟩) (zT.map Value.string)) (hB : B ≤ w.heap.size) :
    Calls Tryz.prog 7 #[.agg #[.slice (some ⟨g, 0, none⟩) 2 cz], .string { data := #[98] }, .int .i64 7] w fun e w' => e = .returned (.int .i64 128) ∧ Below w.heap.size w w' := by
  have bA : Below w.heap.size w (w.alloc (.cells #[.slice (some ⟨g, 0, none⟩) 2 cz] 25)) := (Below.refl _ _).alloc (Nat.le_refl _) _
  have zA : (w.alloc (.cells #[.slice (some ⟨g, 0, none⟩) 2 cz] 25)).heap.size = w.heap.size + 1 := by simp
  have h0 := cell_of_row _ _ 0 _ _ (0, 0) (heap_alloc_new w (.cells #[.slice (some ⟨g, 0, none⟩) 2 cz] 25))
  have hso := iSubstOk_any zT (some ⟨g, 0, none⟩) cz B (w.alloc (.cells #[.slice (some ⟨g, 0, none⟩) 2 cz] 25)) (by omega) (by decide) (fun x hx => by have := (su_img su_T).2 x hx; unfold maxLen; omega) (hrd.below bA hB)
  rw [show zT.length = 2 from rfl, su_T] at hso
  have hhi := fun u => hasImage_any (some ⟨g, 0, none⟩) 2 cz { data := #[98] } (by unfold maxLen; decide) (by decide) u
  rw [show imB 2 { data := #[98] } = true by decide +kernel] at hhi
  have hca := fun gc u hv hr hb hgc => cntA_2 zT g cz B gc 7 [0, 1] u rfl su_T hr hb rfl hv hgc (by decide) (fun j i k h1 h2 h3 => bdT j (by omega) i h2 k (by omega))
  have hmk : ∀ w : World, (Instr.makeSlice 34 (.int .i64 2) (.int .i64 2)).run Tryz.prog w = .ok (.slice (some ⟨w.heap.size, 0, none⟩) 2 2) (w.alloc (.cells #[.int .i64 0, .int .i64 0] 3)) := fun w => by
    have hm2 : madeCells #[Value.int .i64 0] 2 = #[.int .i64 0, .int .i64 0] := by apply Array.ext'; rw [toList_madeCells_one]; rfl
    rw [← hm2]
    exact run_make_row' (P := Tryz.prog) 34 3 _ 8 Tryz.underlying34 info_int rfl .i64 .i64 2 (by omega) (by omega) w
  have HSO := Lib.hid hso; have HHI := Lib.hid hhi; have HCA := Lib.hid hca; have HRD := Lib.hid hrd; have H0 := Lib.hid h0; have HMK := Lib.hid hmk
  clear hso hhi hca hrd h0 hmk
  go_enter Tryz.func7, Tryz.ntmps7
  go_wp2_with fail
  refine HSO.out.mono ?_
  rintro e w1 ⟨rfl, b1⟩
  rw [zA] at b1
  have bw1 : Below w.heap.size w w1 := bA.trans (b1.mono (by omega))
  have z1 := b1.size
  rw [zA] at z1
  have k1 : w1.cell? ⟨w.heap.size, 0, none⟩ = some (.slice (some ⟨g, 0, none⟩) 2 cz) := (b1.cell (p := ⟨w.heap.size, 0, none⟩) (by show w.heap.size < w.heap.size + 1; omega)).trans H0.out
  clear b1 HSO H0 bA zA
  go_wp2_with fail
  refine (HHI.out _).mono ?_
  rintro e w2 ⟨rfl, b2⟩
  have bw2 : Below w.heap.size w w2 := bw1.trans (b2.mono (by omega))
  have z2 := b2.size
  have k2 := (b2.cell (p := ⟨w.heap.size, 0, none⟩) (by show w.heap.size < w1.heap.size; omega)).trans k1
  clear b2 bw1 k1 HHI
  have hmk := HMK.out
  have ex : (({ data := #[98] } : ByteArray)[0]'(by decide)).toNat = 98 := rfl
  have bM : Below w2.heap.size w2 (w2.alloc (.cells #[.int .i64 0, .int .i64 1] 3)) := (Below.refl _ _).alloc (Nat.le_refl _) _
  have zM : (w2.alloc (.cells #[.int .i64 0, .int .i64 1] 3)).heap.size = w2.heap.size + 1 := by simp
  have qM := heap_alloc_new w2 (.cells #[.int .i64 0, .int .i64 1] 3)
  have k2a := (bM.cell (p := ⟨w.heap.size, 0, none⟩) (by show w.heap.size < w2.heap.size; omega)).trans k2
  have hbw3 : Below w.heap.size w (w2.alloc (.cells #[.int .i64 0, .int .i64 1] 3)) := bw2.trans (bM.mono (by omega))
  have hcnt : ∀ k x, ([0, 1] : List Int)[k]? = some x → (0 ≤ x ∧ x ≤ 1000) ∧ (w2.alloc (.cells #[.int .i64 0, .int .i64 1] 3)).cell? ⟨w2.heap.size, k, none⟩ = some (.int .i64 x) := fun k x hx => by
    match k, hx with
    | 0, hx => simp at hx; subst hx; exact ⟨by omega, cell_of_row _ _ 0 _ _ (0, 0) qM⟩
    | 1, hx => simp at hx; subst hx; exact ⟨by omega, cell_of_row _ _ 1 _ _ (0, 0) qM⟩
    | k + 2, hx => simp at hx
  have HC3 := Lib.hid (HCA.out w2.heap.size _ hcnt (HRD.out.below hbw3 hB) (by rw [zM]; omega) (by rw [zM]; omega))
  clear hcnt HCA HMK qM
  go_wp2_with fail
  refine HC3.out.mono ?_
  rintro e w4 ⟨p, c, rfl, hp, hat, b4⟩
  have bw4 := hbw3.trans (b4.mono (by rw [zM]; omega))
  have c0 := hat 0 64 (by decide +kernel)
  have c1 := hat 1 64 (by decide +kernel)
  clear hat hbw3 HC3 k2 k2a b4 bM ex
  go_wp2_with fail
  go_loopw [10, 12, 42] (fun s _ i wr => ((i = .int .i64 0 ∧ s = .int .i64 0) ∨ (i = .int .i64 1 ∧ s = .int .i64 64) ∨ (i = .int .i64 2 ∧ s = .int .i64 128)) ∧ wr = w4) (fun _ _ i _ => 3 - (intOf i).toNat)
  case atStart => exact ⟨by simp, rfl⟩
  case round =>
    obtain ⟨hs, hw⟩ := hrel
    subst hw
    rcases hs with ⟨rfl, rfl⟩ | ⟨rfl, rfl⟩ | ⟨rfl, rfl⟩
    · go_wp2_with fail
      go_roundw
      case rel => exact ⟨by simp, by first | trivial | rfl⟩
      case measure => decide
    · go_wp2_with fail
      go_roundw
      case rel => exact ⟨by simp, by first | trivial | rfl⟩
      case measure => decide
    · go_wp2_with fail
      go_ret
      exact ⟨rfl, bw4⟩
end Go.Proofs.YtbegecoocgkbiaaGreatDoor
