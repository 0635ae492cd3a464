/- ParseInt, both, walked. Asks the shelf's text (strconv.Atoi, strconv.Itoa). No condition but the bounds. -/
import Derived.Test.YtfkdkcipnkkplaaDoorPip
import Derived.Shelf.Strconv.AtoiAll
namespace Go.Proofs.YtfkdkcipnkkplaaDoor
open Go.RowKit
set_option linter.unusedVariables false

/-- The library's two errors lie in their variables. -/
def ES (w : World) : Prop := ∃ tp p, w.cell? ⟨Tryd.laysC172_ren.g 15, 0, none⟩ = some (.iface tp p)
def EG (w : World) : Prop := ∃ tp p, w.cell? ⟨Tryd.laysC172_ren.g 16, 0, none⟩ = some (.iface tp p)
theorem cell_below {w w' : World} {a : Addr} {v : Value} (h : w.cell? a = some v) (hb : Below w.heap.size w w') : w'.cell? a = some v := by
  rw [hb.cell (p := a) ?_]
  · exact h
  · rcases Nat.lt_or_ge a.block w.heap.size with h2 | h2
    · exact h2
    · rw [World.cell?] at h
      simp [Array.getElem?_eq_none h2] at h
theorem ES.below {w w' : World} (h : ES w) (hb : Below w.heap.size w w') : ES w' := let ⟨tp, p, hc⟩ := h; ⟨tp, p, cell_below hc hb⟩
theorem EG.below {w w' : World} (h : EG w) (hb : Below w.heap.size w w') : EG w' := let ⟨tp, p, hc⟩ := h; ⟨tp, p, cell_below hc hb⟩
theorem atoi_fail (s : ByteArray) (hs : s.size ≤ 281474976710656) (h : ∀ v, Lib.atoiAll (L s) ≠ .ok v) (w : World) (hes : ES w) (heg : EG w) :
    Calls Tryd.prog 68 #[.string s] w fun e w' => ∃ z T N, e = .returned (.tuple #[.int .i64 z, .iface T (.pointer (some ⟨N, 0, none⟩))]) ∧ Below w.heap.size w w' := by
  obtain ⟨tp, p, hc1⟩ := hes
  obtain ⟨tq, q, hc2⟩ := heg
  rcases hh : Lib.atoiAll (L s) with v | _ | _
  · exact absurd hh (h v)
  · refine (Any.strconv_Atoi_syntax { Tryd.laysC172 with } s hs hh _ w hc1 (.inr ⟨tp, p, rfl⟩)).mono ?_
    rintro e w' ⟨N, he, _, _, hb⟩
    exact ⟨_, _, N, he, hb⟩
  · refine (Any.strconv_Atoi_range { Tryd.laysC172 with } s hs hh _ w hc2 (.inr ⟨tq, q, rfl⟩)).mono ?_
    rintro e w' ⟨N, he, _, _, hb⟩
    exact ⟨_, _, N, he, hb⟩
theorem atoi_is (s : ByteArray) (hs : s.size ≤ 281474976710656) (v : Int) (h : Lib.atoiAll (L s) = .ok v) (w : World) :
    Calls Tryd.prog 68 #[.string s] w fun e w' => e = .returned (.tuple #[.int .i64 v, .nilIface]) ∧ Below w.heap.size w w' := by
  refine (Any.strconv_Atoi_ok { Tryd.laysC172 with } s (by omega) v h w).mono ?_
  rintro e w' ⟨he, rfl | ⟨t, rfl⟩⟩
  · exact ⟨he, Below.refl _ _⟩
  · exact ⟨he, Lib.bytesWorld_below _ _ _⟩
def piB (s : ByteArray) : Value := .tuple #[.int .i64 ((iP s).getD 0), .bool (iP s).isSome]
theorem iParseInt_any (s : ByteArray) (hs : s.size ≤ 281474976710656) (w : World) (ht : TB w) (hes : ES w) (heg : EG w) :
    Calls Tryd.prog 43 #[.string s] w fun e w' => e = .returned (.tuple #[.int .i64 ((iP s).getD 0), .bool (iP s).isSome]) ∧ Below w.heap.size w w' := by
  have ht2 := fun w' hb => TB.below (w' := w') ht hb
  by_cases hok : ∃ v, Lib.atoiAll (L s) = .ok v
  · obtain ⟨v, hv⟩ := hok
    have hat := atoi_is s hs v hv w
    have hb := Lib.atoiAll_bounds hv
    have hit := fun w' h => Tryd.strconv_Itoa v hb.1 hb.2 w' h
    by_cases he : Lib.itoa v = L s
    · have hp : iP s = some v := by rw [iP, hv]; simp only [if_pos he]
      have hse : (⟨(Lib.itoa v).toArray⟩ : ByteArray) = s := by rw [he]
      rw [hp]
      simp only [hse] at hit
      have HAT := Lib.hid hat; have HIT := Lib.hid hit; have HT2 := Lib.hid ht2
      clear hat hit hv hp hse he ht2 ht hes heg
      go_enter Tryd.func43, Tryd.ntmps43
      go_wp2_with (first
        | (go_at_call 68; refine HAT.out.mono ?_; rintro e w1 ⟨rfl, b1⟩)
        | (go_at_call 62; refine (HIT.out _ (HT2.out _ b1)).mono ?_; rintro e w2 ⟨rfl, k, os, rfl⟩))
      go_ret2
      exact ⟨rfl, b1.trans ((below_gr _ k os).mono b1.size)⟩
    · have hp : iP s = none := by rw [iP, hv]; simp only [if_neg he]
      rw [hp]
      obtain ⟨F, hF⟩ : ∃ F : ByteArray, (⟨(Lib.itoa v).toArray⟩ : ByteArray) = F := ⟨_, rfl⟩
      have hne : (F.toList == s.toList) = false := str_ne fun h2 => he (by rw [← h2, ← hF])
      simp only [hF] at hit
      have HAT := Lib.hid hat; have HIT := Lib.hid hit; have HT2 := Lib.hid ht2
      clear hat hit hv hp he ht2 ht hes heg hF
      go_enter Tryd.func43, Tryd.ntmps43
      go_wp2_with (first
        | (go_at_call 68; refine HAT.out.mono ?_; rintro e w1 ⟨rfl, b1⟩)
        | (go_at_call 62; refine (HIT.out _ (HT2.out _ b1)).mono ?_; rintro e w2 ⟨rfl, k, os, rfl⟩))
      go_ret2
      exact ⟨rfl, b1.trans ((below_gr _ k os).mono b1.size)⟩
  · have hno : ∀ v, Lib.atoiAll (L s) ≠ .ok v := fun v h => hok ⟨v, h⟩
    have hat := atoi_fail s hs hno w hes heg
    have hp : iP s = none := by
      unfold iP
      split
      · rename_i v hv; exact absurd hv (hno v)
      · rfl
    rw [hp]
    have HAT := Lib.hid hat
    clear hat hp ht2 ht hes heg hno hok
    go_enter Tryd.func43, Tryd.ntmps43
    go_wp2_with (go_at_call 68; refine HAT.out.mono ?_; rintro e w1 ⟨z, T, N, rfl, b1⟩)
    go_ret2
    exact ⟨rfl, b1⟩
set_option maxHeartbeats 400000 in
theorem sIsDigits_any (s : ByteArray) (hs : s.size ≤ 281474976710656) (w : World) :
    Calls Tryd.prog 66 #[.string s] w fun e w' => e = .returned (.bool (isDs (L s))) ∧ w = w' := by
  go_enter Tryd.func66, Tryd.ntmps66
  go_wp2_with fail
  go_loop [3] (fun i => ∃ k : Nat, k ≤ s.size ∧ i = .int .i64 k ∧ ((L s).drop k).all (fun c => decide (48 ≤ c.toNat ∧ c.toNat ≤ 57)) = (L s).all (fun c => decide (48 ≤ c.toNat ∧ c.toNat ≤ 57))) (fun i => s.size - (intOf i).toNat)
  case atStart => exact ⟨0, by omega, rfl, rfl⟩
  case round =>
    obtain ⟨k, hk, rfl, hg⟩ := hrel
    have HG := Lib.hid hg; clear hg
    by_cases hlt : k < s.size
    · have hd := drop_at s k hlt
      have hlt2 : (k : Int) < (s.size : Int) := by omega
      obtain ⟨c, hc⟩ : ∃ c, s[k] = c := ⟨_, rfl⟩
      rw [hc] at hd
      have HD := Lib.hid hd; clear hd
      by_cases h1 : 48 ≤ c.toNat
      · by_cases h2 : c.toNat ≤ 57
        · have hl1 : decide ((c.toNat : Int) < 48) = false := decide_eq_false (by omega)
          have hl2 : decide ((57 : Int) < (c.toNat : Int)) = false := decide_eq_false (by omega)
          have HB : Hid (decide (48 ≤ c.toNat ∧ c.toNat ≤ 57) = true) := Lib.hid (decide_eq_true ⟨h1, h2⟩)
          go_wp2_with fail
          go_round
          case rel => exact ⟨k + 1, by omega, by go_num, by rw [← HG.out, HD.out, List.all_cons, HB.out]; rfl⟩
          case measure => simp [intOf]; omega
        · have hl1 : decide ((c.toNat : Int) < 48) = false := decide_eq_false (by omega)
          have hl2 : (57 : Int) < (c.toNat : Int) := by omega
          have HB : Hid (decide (48 ≤ c.toNat ∧ c.toNat ≤ 57) = false) := Lib.hid (decide_eq_false (by omega))
          go_wp2_with fail
          go_ret
          exact ⟨ret_bool (by rw [isDs, ← HG.out, HD.out, List.all_cons, HB.out]; rfl), rfl⟩
      · have hl1 : (c.toNat : Int) < 48 := by omega
        have HB : Hid (decide (48 ≤ c.toNat ∧ c.toNat ≤ 57) = false) := Lib.hid (decide_eq_false (by omega))
        go_wp2_with fail
        go_ret
        exact ⟨ret_bool (by rw [isDs, ← HG.out, HD.out, List.all_cons, HB.out]; rfl), rfl⟩
    · have hk2 : k = s.size := by omega
      subst hk2
      have hres : decide (0 < s.size) = isDs (L s) := by
        rw [isDs, ← HG.out, List.drop_of_length_le (by rw [L_len]; exact Nat.le_refl _)]
        cases hl : L s with
        | nil => have := L_len s; rw [hl] at this; rw [← this]; rfl
        | cons a b => have := L_len s; rw [hl, List.length_cons] at this; rw [← this]; simp
      have HR := Lib.hid hres
      clear hres
      go_wp2_with fail
      go_ret
      exact ⟨ret_bool (by rw [← HR.out]; try simp), rfl⟩
theorem sP_bad {s : ByteArray} (h : (isDs (bodyS s) && decide ((bodyS s).length ≤ 19)) = false) : sP s = none := by rw [sP, h]; rfl
theorem sP_none {s : ByteArray} (h : spGo (bodyS s) 0 = none) : sP s = none := by
  rw [sP, h]; split <;> rfl
theorem sP_some {s : ByteArray} {n : Int} (h : (isDs (bodyS s) && decide ((bodyS s).length ≤ 19)) = true) (h2 : spGo (bodyS s) 0 = some n) : sP s = match signS (negB s) n with
      | none => none
      | some v => if Lib.itoa v = L s then some v else none := by
  rw [sP, if_pos h, h2]
  rfl
set_option maxRecDepth 4000 in
set_option maxHeartbeats 1000000 in
theorem sParseInt_any (s : ByteArray) (hs : s.size ≤ 281474976710656) (w : World) :
    Calls Tryd.prog 41 #[.string s] w fun e w' => e = .returned (.tuple #[.int .i64 ((iP s).getD 0), .bool (iP s).isSome]) ∧ Below w.heap.size w w' := by
  rw [iP_eq]
  cases hneg : negB s
  · have HTB : Hid (L s = bodyS s) := Lib.hid (by rw [bodyS, hneg]; rfl)
    have HNEG := Lib.hid hneg
    by_cases h0 : s.size = 0
    · have hgt : decide (0 < s.size) = false := decide_eq_false (by omega)
      have hs0 : s.size ≤ 0 := by omega
      clear hneg h0
      cases hd : isDs (L s)
      · have HV : Hid (sP s = none) := Lib.hid (sP_bad (by rw [← HTB.out, hd]; rfl))
        have hdg := sIsDigits_any s (by omega)
        rw [hd] at hdg
        have HDG := Lib.hid hdg
        clear hd hdg
        go_enter Tryd.func41, Tryd.ntmps41
        go_wp2_with (go_at_call 66; refine (HDG.out _).mono ?_; rintro e w' ⟨rfl, rfl⟩)
        go_ret2
        exact ⟨by rw [HV.out]; rfl, Below.refl _ _⟩
      · have hdg := sIsDigits_any s (by omega)
        rw [hd] at hdg
        have HDG := Lib.hid hdg
        clear hdg
        by_cases hl19 : s.size ≤ 19
        · have hok : (isDs (bodyS s) && decide ((bodyS s).length ≤ 19)) = true := by rw [← HTB.out, hd, L_len, decide_eq_true hl19]; rfl
          have HOK := Lib.hid hok
          have hall : ∀ (k : Nat) (h : k < s.size), 48 ≤ s[k].toNat ∧ s[k].toNat ≤ 57 := fun k h => by
            rw [isDs, Bool.and_eq_true, List.all_eq_true] at hd
            exact of_decide_eq_true (hd.1 s[k] (by have := drop_at s k h; exact List.mem_of_mem_drop (by rw [this]; exact List.mem_cons_self)))
          have HALL := Lib.hid hall
          have hl20 : decide ((s.size : Int) > 19) = false := decide_eq_false (by omega)
          have hl21 : decide (19 < s.size) = false := decide_eq_false (by omega)
          clear hd hok hall
          go_enter Tryd.func41, Tryd.ntmps41
          go_wp2_with (go_at_call 66; refine (HDG.out _).mono ?_; rintro e w' ⟨rfl, rfl⟩)
          go_loop [6, 7, 8] (fun x i _ => ∃ k : Nat, ∃ n : Int, k ≤ s.size ∧ i = .int .i64 k ∧ x = .int .i64 n ∧ spGo ((L s).drop k) n = spGo (L s) 0 ∧ -9223372036854775808 ≤ n ∧ n ≤ 0) (fun _ i _ => s.size - (intOf i).toNat)
          case atStart => exact ⟨0, 0, by omega, rfl, rfl, rfl, by omega, by omega⟩
          case round =>
            obtain ⟨k, n, hk, rfl, rfl, hg, hn1, hn2⟩ := hrel
            have HG := Lib.hid hg; clear hg
            by_cases hlt : k < s.size
            · have hd := drop_at s k hlt
              have hlt2 : (k : Int) < (s.size : Int) := by omega
              have hc := HALL.out k hlt
              obtain ⟨c, hcc⟩ : ∃ c, s[k] = c := ⟨_, rfl⟩
              rw [hcc] at hd hc
              obtain ⟨hc1, hc2⟩ := hc
              obtain ⟨q, hq⟩ : ∃ q : Int, (-9223372036854775808 + ((c.toNat : Int) - 48)).tdiv 10 = q := ⟨_, rfl⟩
              have e1 : (-9223372036854775808 + ((c.toNat : Int) - 48)) = -((9223372036854775808 - (c.toNat - 48) : Nat) : Int) := by omega
              have hq2 := hq
              rw [e1, tdiv_neg10] at hq2
              have hq3 : -9223372036854775808 + ((c.toNat : Int) - 48) ≤ q * 10 := by omega
              have hq4 : q ≤ 0 := by omega
              have hgo : spGo ((L s).drop k) n = if n < q then none else spGo ((L s).drop (k + 1)) (n * 10 - ((c.toNat : Int) - 48)) := by rw [hd, spGo, hq]
              have HGO := Lib.hid hgo
              clear hd e1 hq2 hgo
              by_cases hnq : n < q
              · have HV : Hid (sP s = none) := Lib.hid (sP_none (by rw [← HTB.out, ← HG.out, HGO.out, if_pos hnq]))
                go_wp2_with fail
                go_ret2
                exact ⟨by rw [HV.out]; rfl, Below.refl _ _⟩
              · have hnq2 : decide (n < q) = false := decide_eq_false hnq
                go_wp2_with fail
                go_round
                case rel => exact ⟨k + 1, n * 10 - ((c.toNat : Int) - 48), by omega, by go_num, rfl, by rw [← HG.out, HGO.out, if_neg hnq], by omega, by omega⟩
                case measure => simp [intOf]; omega
            · have hfin : spGo (bodyS s) 0 = some n := by
                rw [← HTB.out, ← HG.out, List.drop_of_length_le (by rw [L_len]; omega)]; rfl
              have hsp := sP_some HOK.out hfin
              have hlt9 : decide ((k : Int) < (s.size : Int)) = false := decide_eq_false (by omega)
              rw [HNEG.out] at hsp
              by_cases hmin : n = -9223372036854775808
              · have HV : Hid (sP s = none) := Lib.hid (by rw [hsp, signS, hmin]; rfl)
                subst hmin
                clear hsp hfin
                go_wp2_with fail
                go_ret2
                exact ⟨by rw [HV.out]; rfl, Below.refl _ _⟩
              · rw [show signS false n = some (-n) from by rw [signS, if_neg (by simp), if_neg hmin]] at hsp
                have hmin2 : (n == -9223372036854775808) = false := by rw [beq_eq_false_iff_ne]; exact hmin
                simp only at hsp
                have hfm := fun w' => sFormatInt_any (-n) ⟨by omega, by omega⟩ w'
                by_cases he : Lib.itoa (-n) = L s
                · have HV : Hid (sP s = some (-n)) := Lib.hid (by rw [hsp]; simp only [if_pos he])
                  have hse : strOf (Lib.itoa (-n)) = s := by rw [he]; rfl
                  simp only [hse] at hfm
                  have HFM := Lib.hid hfm
                  clear hfm he hse hsp hfin
                  go_wp2_with (go_at_call 28; refine (HFM.out _).mono ?_; rintro e w1 ⟨rfl, b1⟩)
                  go_ret2
                  exact ⟨by rw [HV.out]; rfl, b1⟩
                · have HV : Hid (sP s = none) := Lib.hid (by rw [hsp]; simp only [if_neg he])
                  obtain ⟨F, hF⟩ : ∃ F : ByteArray, strOf (Lib.itoa (-n)) = F := ⟨_, rfl⟩
                  have hne : (F.toList == s.toList) = false := str_ne fun h2 => he (by rw [← h2, ← hF, strOf_L])
                  simp only [hF] at hfm
                  have HFM := Lib.hid hfm
                  clear hfm he hF hsp hfin
                  go_wp2_with (go_at_call 28; refine (HFM.out _).mono ?_; rintro e w1 ⟨rfl, b1⟩)
                  go_ret2
                  exact ⟨by rw [HV.out]; rfl, b1⟩
        · have HV : Hid (sP s = none) := Lib.hid (sP_bad (by rw [← HTB.out, hd, L_len, decide_eq_false hl19]; rfl))
          have hl20 : (19 : Int) < (s.size : Int) := by omega
          clear hd
          go_enter Tryd.func41, Tryd.ntmps41
          go_wp2_with (go_at_call 66; refine (HDG.out _).mono ?_; rintro e w' ⟨rfl, rfl⟩)
          go_ret2
          exact ⟨by rw [HV.out]; rfl, Below.refl _ _⟩
    · have hgt : 0 < s.size := by omega
      have hgt2 : (0 : Int) < (s.size : Int) := by omega
      have hc0 : ((s[0].toNat : Int) == 45) = false := by
        rw [beq_eq_false_iff_ne]
        intro h
        have h2 := drop_at s 0 hgt
        rw [List.drop_zero] at h2
        rw [negB, h2] at hneg
        have := of_decide_eq_false hneg
        apply this
        show some s[0] = some 45
        congr 1
        apply UInt8.toNat_inj.1
        show s[0].toNat = 45
        omega
      clear hneg h0
      cases hd : isDs (L s)
      · have HV : Hid (sP s = none) := Lib.hid (sP_bad (by rw [← HTB.out, hd]; rfl))
        have hdg := sIsDigits_any s (by omega)
        rw [hd] at hdg
        have HDG := Lib.hid hdg
        clear hd hdg
        go_enter Tryd.func41, Tryd.ntmps41
        go_wp2_with (go_at_call 66; refine (HDG.out _).mono ?_; rintro e w' ⟨rfl, rfl⟩)
        go_ret2
        exact ⟨by rw [HV.out]; rfl, Below.refl _ _⟩
      · have hdg := sIsDigits_any s (by omega)
        rw [hd] at hdg
        have HDG := Lib.hid hdg
        clear hdg
        by_cases hl19 : s.size ≤ 19
        · have hok : (isDs (bodyS s) && decide ((bodyS s).length ≤ 19)) = true := by rw [← HTB.out, hd, L_len, decide_eq_true hl19]; rfl
          have HOK := Lib.hid hok
          have hall : ∀ (k : Nat) (h : k < s.size), 48 ≤ s[k].toNat ∧ s[k].toNat ≤ 57 := fun k h => by
            rw [isDs, Bool.and_eq_true, List.all_eq_true] at hd
            exact of_decide_eq_true (hd.1 s[k] (by have := drop_at s k h; exact List.mem_of_mem_drop (by rw [this]; exact List.mem_cons_self)))
          have HALL := Lib.hid hall
          have hl20 : decide ((s.size : Int) > 19) = false := decide_eq_false (by omega)
          have hl21 : decide (19 < s.size) = false := decide_eq_false (by omega)
          clear hd hok hall
          go_enter Tryd.func41, Tryd.ntmps41
          go_wp2_with (go_at_call 66; refine (HDG.out _).mono ?_; rintro e w' ⟨rfl, rfl⟩)
          go_loop [6, 7, 8] (fun x i _ => ∃ k : Nat, ∃ n : Int, k ≤ s.size ∧ i = .int .i64 k ∧ x = .int .i64 n ∧ spGo ((L s).drop k) n = spGo (L s) 0 ∧ -9223372036854775808 ≤ n ∧ n ≤ 0) (fun _ i _ => s.size - (intOf i).toNat)
          case atStart => exact ⟨0, 0, by omega, rfl, rfl, rfl, by omega, by omega⟩
          case round =>
            obtain ⟨k, n, hk, rfl, rfl, hg, hn1, hn2⟩ := hrel
            have HG := Lib.hid hg; clear hg
            by_cases hlt : k < s.size
            · have hd := drop_at s k hlt
              have hlt2 : (k : Int) < (s.size : Int) := by omega
              have hc := HALL.out k hlt
              obtain ⟨c, hcc⟩ : ∃ c, s[k] = c := ⟨_, rfl⟩
              rw [hcc] at hd hc
              obtain ⟨hc1, hc2⟩ := hc
              obtain ⟨q, hq⟩ : ∃ q : Int, (-9223372036854775808 + ((c.toNat : Int) - 48)).tdiv 10 = q := ⟨_, rfl⟩
              have e1 : (-9223372036854775808 + ((c.toNat : Int) - 48)) = -((9223372036854775808 - (c.toNat - 48) : Nat) : Int) := by omega
              have hq2 := hq
              rw [e1, tdiv_neg10] at hq2
              have hq3 : -9223372036854775808 + ((c.toNat : Int) - 48) ≤ q * 10 := by omega
              have hq4 : q ≤ 0 := by omega
              have hgo : spGo ((L s).drop k) n = if n < q then none else spGo ((L s).drop (k + 1)) (n * 10 - ((c.toNat : Int) - 48)) := by rw [hd, spGo, hq]
              have HGO := Lib.hid hgo
              clear hd e1 hq2 hgo
              by_cases hnq : n < q
              · have HV : Hid (sP s = none) := Lib.hid (sP_none (by rw [← HTB.out, ← HG.out, HGO.out, if_pos hnq]))
                go_wp2_with fail
                go_ret2
                exact ⟨by rw [HV.out]; rfl, Below.refl _ _⟩
              · have hnq2 : decide (n < q) = false := decide_eq_false hnq
                go_wp2_with fail
                go_round
                case rel => exact ⟨k + 1, n * 10 - ((c.toNat : Int) - 48), by omega, by go_num, rfl, by rw [← HG.out, HGO.out, if_neg hnq], by omega, by omega⟩
                case measure => simp [intOf]; omega
            · have hfin : spGo (bodyS s) 0 = some n := by
                rw [← HTB.out, ← HG.out, List.drop_of_length_le (by rw [L_len]; omega)]; rfl
              have hsp := sP_some HOK.out hfin
              have hlt9 : decide ((k : Int) < (s.size : Int)) = false := decide_eq_false (by omega)
              rw [HNEG.out] at hsp
              by_cases hmin : n = -9223372036854775808
              · have HV : Hid (sP s = none) := Lib.hid (by rw [hsp, signS, hmin]; rfl)
                subst hmin
                clear hsp hfin
                go_wp2_with fail
                go_ret2
                exact ⟨by rw [HV.out]; rfl, Below.refl _ _⟩
              · rw [show signS false n = some (-n) from by rw [signS, if_neg (by simp), if_neg hmin]] at hsp
                have hmin2 : (n == -9223372036854775808) = false := by rw [beq_eq_false_iff_ne]; exact hmin
                simp only at hsp
                have hfm := fun w' => sFormatInt_any (-n) ⟨by omega, by omega⟩ w'
                by_cases he : Lib.itoa (-n) = L s
                · have HV : Hid (sP s = some (-n)) := Lib.hid (by rw [hsp]; simp only [if_pos he])
                  have hse : strOf (Lib.itoa (-n)) = s := by rw [he]; rfl
                  simp only [hse] at hfm
                  have HFM := Lib.hid hfm
                  clear hfm he hse hsp hfin
                  go_wp2_with (go_at_call 28; refine (HFM.out _).mono ?_; rintro e w1 ⟨rfl, b1⟩)
                  go_ret2
                  exact ⟨by rw [HV.out]; rfl, b1⟩
                · have HV : Hid (sP s = none) := Lib.hid (by rw [hsp]; simp only [if_neg he])
                  obtain ⟨F, hF⟩ : ∃ F : ByteArray, strOf (Lib.itoa (-n)) = F := ⟨_, rfl⟩
                  have hne : (F.toList == s.toList) = false := str_ne fun h2 => he (by rw [← h2, ← hF, strOf_L])
                  simp only [hF] at hfm
                  have HFM := Lib.hid hfm
                  clear hfm he hF hsp hfin
                  go_wp2_with (go_at_call 28; refine (HFM.out _).mono ?_; rintro e w1 ⟨rfl, b1⟩)
                  go_ret2
                  exact ⟨by rw [HV.out]; rfl, b1⟩
        · have HV : Hid (sP s = none) := Lib.hid (sP_bad (by rw [← HTB.out, hd, L_len, decide_eq_false hl19]; rfl))
          have hl20 : (19 : Int) < (s.size : Int) := by omega
          clear hd
          go_enter Tryd.func41, Tryd.ntmps41
          go_wp2_with (go_at_call 66; refine (HDG.out _).mono ?_; rintro e w' ⟨rfl, rfl⟩)
          go_ret2
          exact ⟨by rw [HV.out]; rfl, Below.refl _ _⟩
  · have hgt : 0 < s.size := by
      rcases Nat.eq_zero_or_pos s.size with h | h
      · have hn : L s = [] := List.eq_nil_of_length_eq_zero (by rw [L_len]; exact h)
        rw [negB, hn] at hneg
        exact absurd (of_decide_eq_true hneg) (by simp)
      · exact h
    have hgt2 : (0 : Int) < (s.size : Int) := by omega
    have hc0 : ((s[0].toNat : Int) == 45) = true := by
      have h2 := drop_at s 0 hgt
      rw [List.drop_zero] at h2
      rw [negB, h2] at hneg
      have h3 : some s[0] = some 45 := of_decide_eq_true hneg
      injection h3 with h3
      rw [h3]; rfl
    obtain ⟨T, hT⟩ : ∃ T, s.extract 1 s.size = T := ⟨_, rfl⟩
    have hTs : T.size ≤ s.size := by rw [← hT, ByteArray.size_extract]; omega
    have HTB : Hid (L T = bodyS s) := Lib.hid (by
      rw [bodyS, hneg, if_pos rfl, ← hT, L_extract, List.take_of_length_le (by rw [L_len]; exact Nat.le_refl _)])
    have HNEG := Lib.hid hneg
    have hgt3 : (1 : Int) ≤ (s.size : Int) := by omega
    clear hneg
    cases hd : isDs (L T)
    · have HV : Hid (sP s = none) := Lib.hid (sP_bad (by rw [← HTB.out, hd]; rfl))
      have hdg := sIsDigits_any T (by omega)
      rw [hd] at hdg
      have HDG := Lib.hid hdg
      clear hd hdg
      go_enter Tryd.func41, Tryd.ntmps41
      go_wp2_with (go_at_call 66; refine (HDG.out _).mono ?_; rintro e w' ⟨rfl, rfl⟩)
      go_ret2
      exact ⟨by rw [HV.out]; rfl, Below.refl _ _⟩
    · have hdg := sIsDigits_any T (by omega)
      rw [hd] at hdg
      have HDG := Lib.hid hdg
      clear hdg
      by_cases hl19 : T.size ≤ 19
      · have hok : (isDs (bodyS s) && decide ((bodyS s).length ≤ 19)) = true := by rw [← HTB.out, hd, L_len, decide_eq_true hl19]; rfl
        have HOK := Lib.hid hok
        have hall : ∀ (k : Nat) (h : k < T.size), 48 ≤ T[k].toNat ∧ T[k].toNat ≤ 57 := fun k h => by
          rw [isDs, Bool.and_eq_true, List.all_eq_true] at hd
          exact of_decide_eq_true (hd.1 T[k] (by have := drop_at T k h; exact List.mem_of_mem_drop (by rw [this]; exact List.mem_cons_self)))
        have HALL := Lib.hid hall
        have hl20 : decide ((T.size : Int) > 19) = false := decide_eq_false (by omega)
        have hl21 : decide (19 < T.size) = false := decide_eq_false (by omega)
        clear hd hok hall
        go_enter Tryd.func41, Tryd.ntmps41
        go_wp2_with (go_at_call 66; refine (HDG.out _).mono ?_; rintro e w' ⟨rfl, rfl⟩)
        go_loop [6, 7, 8] (fun x i _ => ∃ k : Nat, ∃ n : Int, k ≤ T.size ∧ i = .int .i64 k ∧ x = .int .i64 n ∧ spGo ((L T).drop k) n = spGo (L T) 0 ∧ -9223372036854775808 ≤ n ∧ n ≤ 0) (fun _ i _ => T.size - (intOf i).toNat)
        case atStart => exact ⟨0, 0, by omega, rfl, rfl, rfl, by omega, by omega⟩
        case round =>
          obtain ⟨k, n, hk, rfl, rfl, hg, hn1, hn2⟩ := hrel
          have HG := Lib.hid hg; clear hg
          by_cases hlt : k < T.size
          · have hd := drop_at T k hlt
            have hlt2 : (k : Int) < (T.size : Int) := by omega
            have hc := HALL.out k hlt
            obtain ⟨c, hcc⟩ : ∃ c, T[k] = c := ⟨_, rfl⟩
            rw [hcc] at hd hc
            obtain ⟨hc1, hc2⟩ := hc
            obtain ⟨q, hq⟩ : ∃ q : Int, (-9223372036854775808 + ((c.toNat : Int) - 48)).tdiv 10 = q := ⟨_, rfl⟩
            have e1 : (-9223372036854775808 + ((c.toNat : Int) - 48)) = -((9223372036854775808 - (c.toNat - 48) : Nat) : Int) := by omega
            have hq2 := hq
            rw [e1, tdiv_neg10] at hq2
            have hq3 : -9223372036854775808 + ((c.toNat : Int) - 48) ≤ q * 10 := by omega
            have hq4 : q ≤ 0 := by omega
            have hgo : spGo ((L T).drop k) n = if n < q then none else spGo ((L T).drop (k + 1)) (n * 10 - ((c.toNat : Int) - 48)) := by rw [hd, spGo, hq]
            have HGO := Lib.hid hgo
            clear hd e1 hq2 hgo
            by_cases hnq : n < q
            · have HV : Hid (sP s = none) := Lib.hid (sP_none (by rw [← HTB.out, ← HG.out, HGO.out, if_pos hnq]))
              go_wp2_with fail
              go_ret2
              exact ⟨by rw [HV.out]; rfl, Below.refl _ _⟩
            · have hnq2 : decide (n < q) = false := decide_eq_false hnq
              go_wp2_with fail
              go_round
              case rel => exact ⟨k + 1, n * 10 - ((c.toNat : Int) - 48), by omega, by go_num, rfl, by rw [← HG.out, HGO.out, if_neg hnq], by omega, by omega⟩
              case measure => simp [intOf]; omega
          · have hfin : spGo (bodyS s) 0 = some n := by
              rw [← HTB.out, ← HG.out, List.drop_of_length_le (by rw [L_len]; omega)]; rfl
            have hsp := sP_some HOK.out hfin
            have hlt9 : decide ((k : Int) < (T.size : Int)) = false := decide_eq_false (by omega)
            rw [HNEG.out] at hsp
            rw [show signS true n = some n from by rw [signS, if_pos rfl]] at hsp
            simp only at hsp
            have hfm := fun w' => sFormatInt_any n ⟨by omega, by omega⟩ w'
            by_cases he : Lib.itoa n = L s
            · have HV : Hid (sP s = some n) := Lib.hid (by rw [hsp]; simp only [if_pos he])
              have hse : strOf (Lib.itoa n) = s := by rw [he]; rfl
              simp only [hse] at hfm
              have HFM := Lib.hid hfm
              clear hfm he hse hsp hfin
              go_wp2_with (go_at_call 28; refine (HFM.out _).mono ?_; rintro e w1 ⟨rfl, b1⟩)
              go_ret2
              exact ⟨by rw [HV.out]; rfl, b1⟩
            · have HV : Hid (sP s = none) := Lib.hid (by rw [hsp]; simp only [if_neg he])
              obtain ⟨F, hF⟩ : ∃ F : ByteArray, strOf (Lib.itoa n) = F := ⟨_, rfl⟩
              have hne : (F.toList == s.toList) = false := str_ne fun h2 => he (by rw [← h2, ← hF, strOf_L])
              simp only [hF] at hfm
              have HFM := Lib.hid hfm
              clear hfm he hF hsp hfin
              go_wp2_with (go_at_call 28; refine (HFM.out _).mono ?_; rintro e w1 ⟨rfl, b1⟩)
              go_ret2
              exact ⟨by rw [HV.out]; rfl, b1⟩
      · have HV : Hid (sP s = none) := Lib.hid (sP_bad (by rw [← HTB.out, hd, L_len, decide_eq_false hl19]; rfl))
        have hl20 : (19 : Int) < (T.size : Int) := by omega
        clear hd
        go_enter Tryd.func41, Tryd.ntmps41
        go_wp2_with (go_at_call 66; refine (HDG.out _).mono ?_; rintro e w' ⟨rfl, rfl⟩)
        go_ret2
        exact ⟨by rw [HV.out]; rfl, Below.refl _ _⟩
end Go.Proofs.YtfkdkcipnkkplaaDoor
