/- ReturnLine, both. No condition but the bounds. -/
import Derived.Test.YtbegecoocgkbiaaGreatDoorRtm
namespace Go.Proofs.YtbegecoocgkbiaaGreatDoor
open Go.RowKit
set_option linter.unusedVariables false

theorem iJoin_own (l : List ByteArray) (A : Option Addr) (n c B : Nat) (w : World) (hn : l.length = n) (h0 : n ≠ 0) (hl : l.length ≤ 1000) (hz : ∀ x ∈ l, x.size ≤ 400) (ho : Own w B 9 (.slice A n c) (l.map Value.string)) :
    Calls Tryz.prog 95 #[.slice A n c, .string { data := #[46] }] w fun e w' => e = .returned (.string (strOf (jnL l))) ∧ Below w.heap.size w w' := by
  subst hn
  obtain ⟨g, rfl, _, hgs, _, _, _⟩ := ho.store (k := 0) (by rw [List.length_map]; omega)
  obtain ⟨A', c', hv, hc1, _, _⟩ := ho.shape
  injection hv with e1 e2 e3
  subst e3
  rw [List.length_map] at hc1
  have hjl := jn_len l hz
  refine Tryz.strings_Join g 0 c l { data := #[46] } w (fun j x hx => ?_) hgs (by omega) hc1 (by
    show (jnL l).length ≤ _
    omega)
  rw [Nat.zero_add]
  have h := World.ownsRow.cellAt (g := g) (n := (l.map Value.string).length) (by
    have := ho
    unfold Own at this
    rw [List.length_map] at this ⊢
    exact this) j (by rw [List.length_map]; have := (List.getElem?_eq_some_iff.1 hx).1; omega)
  rw [h]; exact map_at Value.string hx
theorem fs_size {s f x : ByteArray} (hs : s.size ≤ 400) (h : x ∈ fsL (retA s f)) : x.size ≤ 400 := by
  rcases fsL_mem (retA s f) [] x h with h | h
  · simp at h
  · have := retA_size h; omega
theorem orS_size {s : ByteArray} (h : s.size ≤ 400) : (orS s).size ≤ 400 := by
  unfold orS; split
  · decide
  · exact h
theorem drS_size (s f : ByteArray) : (drS s f).size ≤ 400 := by
  unfold drS; split
  · rw [strOf_size, drL_len]; exact retA_len s f
  · decide
theorem dr_placed {s f : ByteArray} (h : drB s f = true) : s.size ≤ 400 := by
  unfold drB at h
  simp only [Bool.and_eq_true, decide_eq_true_eq] at h
  exact ret_word h.1
set_option maxRecDepth 4000 in
set_option maxHeartbeats 400000 in
theorem iReturnLine_any (s f : ByteArray) (hs : s.size ≤ maxLen) (hf : f.size ≤ maxLen) (w : World) :
    Calls Tryz.prog 57 #[.string s, .string f] w fun e w' => e = .returned (.string (rlS s f)) ∧ Below w.heap.size w w' := by
  cases hb : drB s f
  · have hrl : rlS s f = { data := #[110, 111, 110, 101] } := by rw [rlS, hb, if_neg (by simp)]
    have HRL := Lib.hid hrl; have HB := Lib.hid hb
    clear hrl hb
    go_enter Tryz.func57, Tryz.ntmps57
    go_wp2_with fail
    refine (iDerivedWord_any s f hs hf _).mono ?_
    rw [HB.out]
    rintro e w1 ⟨rfl, b1⟩
    go_wp2_with fail
    refine (iReturnWords_any s f hs hf _).mono ?_
    rintro e w2 ⟨A, c, rfl, o2, b2⟩
    clear o2
    go_wp2_with fail
    go_ret
    exact ⟨by rw [HRL.out]; rfl, b1.trans (b2.mono b1.size)⟩
  · have hs4 := dr_placed hb
    obtain ⟨m, hm⟩ : ∃ m, (fsL (retA s f)).length = m := ⟨_, rfl⟩
    have hrw := fun w => iReturnWords_any s f hs hf w
    rw [hm] at hrw
    by_cases h0 : m = 0
    · have hrl : rlS s f = { data := #[110, 111, 110, 101] } := by rw [rlS, hm, h0, if_neg (by simp)]
      have HRL := Lib.hid hrl; have HB := Lib.hid hb; have HRW := Lib.hid hrw
      subst h0
      clear hrl hb hrw hm
      go_enter Tryz.func57, Tryz.ntmps57
      go_wp2_with fail
      refine (iDerivedWord_any s f hs hf _).mono ?_
      rw [HB.out]
      rintro e w1 ⟨rfl, b1⟩
      go_wp2_with fail
      refine (HRW.out _).mono ?_
      rintro e w2 ⟨A, c, rfl, o2, b2⟩
      clear o2
      go_wp2_with fail
      go_ret
      exact ⟨by rw [HRL.out]; rfl, b1.trans (b2.mono b1.size)⟩
    · have hmb : ((m : Int) == 0) = false := by simp; omega
      have hm4 : m ≤ 400 := by rw [← hm]; exact Nat.le_trans (fsL_len _) (retA_len s f)
      have hz : ∀ x ∈ fsL (retA s f), x.size ≤ 400 := fun x hx => fs_size hs4 hx
      have hjl := jn_len (fsL (retA s f)) hz
      rw [hm] at hjl
      obtain ⟨jn, hjn⟩ : ∃ jn, strOf (jnL (fsL (retA s f))) = jn := ⟨_, rfl⟩
      have hjs : jn.size ≤ 160400 := by rw [← hjn, strOf_size]; omega
      have hrl : rlS s f = jn ++ { data := #[32] } ++ orS (drS s f) := by rw [rlS, if_pos ⟨hb, by rw [hm]; exact h0⟩, hjn]
      obtain ⟨od, hod⟩ : ∃ od, orS (drS s f) = od := ⟨_, rfl⟩
      have hos : od.size ≤ 400 := by rw [← hod]; exact orS_size (drS_size s f)
      have hsp : (jn ++ ({ data := #[32] } : ByteArray)).size = jn.size + 1 := by rw [ByteArray.size_append]; rfl
      have hor := fun w => orDash_any (drS s f) w
      rw [hod] at hrl hor
      have HRL := Lib.hid hrl; have HB := Lib.hid hb; have HRW := Lib.hid hrw; have HZ := Lib.hid hz; have HM := Lib.hid hm; have HOR := Lib.hid hor; have HJN := Lib.hid hjn
      clear hrl hb hrw hz hm hor hjn hjl hod
      go_enter Tryz.func57, Tryz.ntmps57
      go_wp2_with fail
      refine (iDerivedWord_any s f hs hf _).mono ?_
      rw [HB.out]
      rintro e w1 ⟨rfl, b1⟩
      go_wp2_with fail
      refine (HRW.out _).mono ?_
      rintro e w2 ⟨A, c, rfl, o2, b2⟩
      have HO2 := Lib.hid o2
      clear o2
      go_wp2_with fail
      have hjc := iJoin_own (fsL (retA s f)) A m c _ w2 HM.out h0 (by rw [HM.out]; omega) HZ.out HO2.out
      rw [HJN.out] at hjc
      refine hjc.mono ?_
      rintro e w3 ⟨rfl, b3⟩
      go_wp2_with fail
      refine (HOR.out _).mono ?_
      rintro e w4 ⟨rfl, rfl⟩
      go_wp2_with fail
      go_ret
      exact ⟨by rw [HRL.out]; rfl, ((b1.trans (b2.mono b1.size)).trans (b3.mono (by have := b1.size; have := b2.size; omega)))⟩
end Go.Proofs.YtbegecoocgkbiaaGreatDoor
