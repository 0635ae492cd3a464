/- MakeBan: a ban of at most four words. No condition but the bounds. -/
import Derived.Test.YtaihigaafjmpiaaDoorDrx
import Derived.Test.YtaihigaafjmpiaaDoorBan
import Derived.Test.YtaihigaafjmpiaaDoorMem
namespace Go.Proofs.YtaihigaafjmpiaaDoor
open Go.RowKit
set_option linter.unusedVariables false

theorem Own.grown {w w' : World} {B p : Nat} {E : TypeId} {v : Value} {xs : List Value} (h : Own w B E v xs) (hg : w.grownBy w' (some p)) (hp : p < B) : Own w' B E v xs := by
  refine World.ownsRow.kept h hg ?_
  cases hv : v.ownBlock with
  | none => exact .inl rfl
  | some g =>
    right
    intro he
    have h3 := (World.ownsRow.lt h g hv).1
    injection he with he
    omega
/-- What may be drawn into a ban. -/
def banG (s : ByteArray) : Prop := 1 ≤ s.size ∧ s.size ≤ 4 ∧ lets 3 (L s)
theorem ban_of {ss : List ByteArray} (h : ss.length ≤ 4) (hg : ∀ s ∈ ss, banG s) : banOk ss = true := by
  unfold banOk
  rw [Bool.and_eq_true, List.all_eq_true, decide_eq_true_eq]
  refine ⟨fun s hs => ?_, by omega⟩
  obtain ⟨h1, h2, h3⟩ := hg s hs
  unfold banW
  rw [lets_isW (by decide) h3 (by rw [L_len]; omega), decide_eq_true ⟨h1, h2⟩]; rfl
set_option maxRecDepth 4000 in
set_option maxHeartbeats 2000000 in
theorem l28Draw_any (p B : Nat) (A : Option Addr) (n c : Nat) (l : List UInt8) (w : World) (hl : l.length = n) (hn : n ≤ 1048576) (hc : CurAt w p A n c) (hrd : Rds w B A (byV l)) (hB : B ≤ p) :
    Calls Tryd.prog 20 #[.pointer (some ⟨p, 0, none⟩)] w fun e w' => ∃ (ss : List ByteArray) (A' : Option Addr) (c' : Nat), ss.length ≤ 4 ∧ (∀ s ∈ ss, banG s) ∧ e = .returned (.slice A' ss.length c') ∧ Own w' w.heap.size 9 (.slice A' ss.length c') (ss.map Value.string) ∧ Below p w w' := by
  have hpw : p < w.heap.size := hc.1
  have hb5 := fun v m h0 hm hc r => l01Below_any p B A n c m l v h0 hm hl hn hc r hB
  have hwd := fun v m k hm h0 hk hc r => l02Word_any p B A n c m k l v hm h0 hk hl hn hc r hB
  have HB5 := Lib.hid hb5; have HWD := Lib.hid hwd; have HR := Lib.hid hrd; have HC := Lib.hid hc
  clear hb5 hwd hrd hc hl
  go_enter Tryd.func20, Tryd.ntmps20
  go_wp2_with fail
  have ba : Below w.heap.size w (w.alloc (.cells #[] 9)) := (Below.refl _ _).alloc (Nat.le_refl _) _
  have c1 := HC.out.below ba
  have o1 : Own (w.alloc (.cells #[] 9)) w.heap.size 9 (.slice (some ⟨w.heap.size, 0, none⟩) 0 0) [] := Own.empty (Nat.le_refl _)
  have b1 : Below p w (w.alloc (.cells #[] 9)) := ba.mono (by omega)
  have s1 : w.heap.size ≤ (w.alloc (.cells #[] 9)).heap.size := by simp
  generalize w.alloc (.cells #[] 9) = w1 at c1 o1 b1 s1 ⊢
  clear ba HC
  refine (HB5.out w1 5 (by omega) (by omega) c1 (HR.out.below b1 hB)).mono ?_
  rintro e w2 ⟨x, hx, rfl, c2, b2, g2⟩
  have o2 := o1.grown g2 hpw
  have b3 := b1.trans b2
  have s2 := Nat.le_trans s1 b2.size
  have C2 := Lib.hid c2; have O2 := Lib.hid o2
  clear o1 o2 c1 c2 b1 b2 g2 s1
  go_wp2_with fail
  go_loopw [3, 4] (fun v i wr => ∃ (k m : Nat) (A' : Option Addr) (c' : Nat) (ss : List ByteArray), m + k ≤ 4 ∧ i = .int .i64 k ∧ ss.length = m ∧ v = .slice A' m c' ∧ Own wr w.heap.size 9 (.slice A' m c') (ss.map Value.string) ∧ (∀ s ∈ ss, banG s) ∧ CurAt wr p A n c ∧ Below p w wr ∧ w.heap.size ≤ wr.heap.size) (fun _ i _ => (intOf i).toNat)
  case atStart => exact ⟨x, 0, _, _, [], by omega, rfl, rfl, rfl, O2.out, (fun s hs => by cases hs), C2.out, b3, s2⟩
  case round =>
    clear O2 C2 b3 s2
    obtain ⟨k, m, A', c', ss, hmk, rfl, hm, rfl, ho, hbg, hc, hb, hs⟩ := hrel
    have HO := Lib.hid ho; have HG := Lib.hid hbg; have HM := Lib.hid hm; have HC := Lib.hid hc
    clear ho hbg hm hc
    by_cases hlt : 0 < k
    · go_wp2_with fail
      refine (HB5.out _ 4 (by omega) (by omega) HC.out (HR.out.below hb hB)).mono ?_
      rintro e w3 ⟨a, ha, rfl, c3, b3, g3⟩
      have o3 := HO.out.grown g3 hpw
      have hb3 := hb.trans b3
      have hs3 := Nat.le_trans hs b3.size
      have HO3 := Lib.hid o3; have HC3 := Lib.hid c3
      clear o3 c3 b3 g3 HO HC hb hs
      go_wp2_with fail
      refine (HB5.out _ 3 (by omega) (by omega) HC3.out (HR.out.below hb3 hB)).mono ?_
      rintro e w4 ⟨b, hbb, rfl, c4, b4, g4⟩
      have o4 := HO3.out.grown g4 hpw
      have hb4 := hb3.trans b4
      have hs4 := Nat.le_trans hs3 b4.size
      have HO4 := Lib.hid o4; have HC4 := Lib.hid c4
      clear o4 c4 b4 g4 HO3 HC3 hb3 hs3
      go_wp2_with fail
      rw [show (1 : Int) + (a : Int) = ((1 + a : Nat) : Int) by omega, show (1 : Int) + (b : Int) = ((1 + b : Nat) : Int) by omega]
      refine (HWD.out _ (1 + a) (1 + b) (by omega) (by omega) (by omega) HC4.out (HR.out.below hb4 hB)).mono ?_
      rintro e w5 ⟨yl, hy1, hyl, rfl, c5, b5, g5⟩
      obtain ⟨y, hy⟩ : ∃ y, strOf yl = y := ⟨_, rfl⟩
      have hyg : banG y := by
        have hyL : L y = yl := by rw [← hy, strOf_L]
        have hyz : y.size = 1 + a := by rw [← L_len, hyL, hy1]
        refine ⟨by omega, by omega, fun d hd => ?_⟩
        rw [hyL] at hd
        have := hyl d hd
        omega
      have o5 := HO4.out.grown g5 hpw
      have hb5 := hb4.trans b5
      have hs5 := Nat.le_trans hs4 b5.size
      have HO5 := Lib.hid o5; have HC5 := Lib.hid c5; have HYG := Lib.hid hyg
      rw [hy]
      clear o5 c5 b5 g5 HO4 HC4 hb4 hs4 hyg hyl hy1 hy
      have hdl : (ss.map Value.string).length = m := by rw [List.length_map]; exact HM.out
      have HDL := Lib.hid hdl
      have hm9 : m < 4294967296 := by omega
      clear hdl
      go_wp2_with (at_builtin; refine wp_append1 rfl (.tmp 12) (.tmp 21) 23 rfl _ 16 Tryd.underlying23 info_string rfl rfl HO5.out _ rfl rfl m HDL.out hm9 (by decide) hs5 ?_)
      intro A2 c2 w6 o6 bel6 hs6
      rw [show ss.map Value.string ++ [Value.string y] = (ss ++ [y]).map Value.string by simp] at o6
      have c6 := HC5.out.low (B := w.heap.size) hpw bel6
      have hb6 := hb5.trans (bel6.mono (by omega))
      have HO6 := Lib.hid o6; have HC6 := Lib.hid c6
      clear o6 c6 bel6
      go_wp2_with fail
      go_roundw
      case rel => exact ⟨k - 1, m + 1, A2, c2, ss ++ [y], by omega, by go_num, by rw [List.length_append, HM.out]; rfl, rfl, HO6.out, fun s hs => (List.mem_append.1 hs).elim (HG.out s) (fun h => by rw [List.mem_singleton] at h; rw [h]; exact HYG.out), HC6.out, hb6, by omega⟩
      case measure => simp [intOf]; omega
    · go_wp2_with fail
      go_ret
      exact ⟨ss, A', c', by have := HM.out; omega, HG.out, by rw [HM.out]; rfl, by rw [HM.out]; exact HO.out, hb⟩
theorem makeBan_any (A : Option Addr) (n c B m : Nat) (l : List UInt8) (w : World) (hm : m ≤ 100000) (hl : l.length = n) (hn : n ≤ 1048576) (hrd : Rds w B A (byV l)) (hB : B ≤ w.heap.size) :
    Calls Tryd.prog 4 #[.slice A n c, .int .i64 m] w fun e w' => ∃ (ss : List ByteArray) (A' : Option Addr) (c' : Nat), ss.length ≤ 4 ∧ (∀ s ∈ ss, banG s) ∧ e = .returned (.slice A' ss.length c') ∧ Own w' w.heap.size 9 (.slice A' ss.length c') (ss.map Value.string) ∧ Below w.heap.size w w' := by
  have hnw := l31New_any A n c B m l w hm hl hn hrd hB
  have hd := fun w' hc r => l28Draw_any w.heap.size B A n c l w' hl hn hc r hB
  have HN := Lib.hid hnw; have HD := Lib.hid hd; have HR := Lib.hid hrd
  clear hnw hd hl hrd
  go_enter Tryd.func4, Tryd.ntmps4
  go_wp2_with fail
  refine HN.out.mono ?_
  rintro e w1 ⟨rfl, c1, b1⟩
  go_wp2_with fail
  refine (HD.out w1 c1 (HR.out.below b1 hB)).mono ?_
  rintro e w2 ⟨ss, A', c', h1, h2, rfl, o2, b2⟩
  obtain ⟨z, hz⟩ : ∃ z, ss.length = z := ⟨_, rfl⟩
  rw [hz] at o2 ⊢
  have o3 := o2.lower (Nat.le_of_lt c1.1)
  have HO := Lib.hid o3; have HZ := Lib.hid hz
  have h1' : z ≤ 4 := by omega
  clear o2 o3 hz c1 HN HD h1
  go_wp2_with fail
  go_ret
  exact ⟨ss, A', c', by rw [HZ.out]; exact h1', h2, by rw [HZ.out]; rfl, by rw [HZ.out]; exact HO.out, b1.trans b2⟩
end Go.Proofs.YtaihigaafjmpiaaDoor
