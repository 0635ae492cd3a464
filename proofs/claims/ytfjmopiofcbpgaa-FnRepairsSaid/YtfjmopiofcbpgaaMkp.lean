/- MakePairs: pairs in order, each once. No condition but the bounds. -/
import Derived.Test.YtfjmopiofcbpgaaDrx
import Derived.Test.YtfjmopiofcbpgaaIns
import Derived.Test.YtfjmopiofcbpgaaPair
import Derived.Deep.RegionWith
namespace Go.Proofs.Ytfjmopiofcbpgaa
open Go.RowKit
set_option linter.unusedVariables false

theorem StrAt.grown {w w' : World} {g c p : Nat} {ss : List ByteArray} (h : StrAt w g c ss) (hg : w.grownBy w' (some p)) (hne : g ≠ p) : StrAt w' g c ss :=
  ⟨h.1, h.2.1, Nat.lt_of_lt_of_le h.2.2.1 hg.size, fun j s hj => by
    have := h.2.2.2 j s hj
    rw [← this]
    unfold World.cell?
    rw [hg.block g h.2.2.1 (fun e => hne (by injection e))]⟩
theorem prGo_of : ∀ (ss : List ByteArray) (p : Option ByteArray), SS ss → (∀ s ∈ ss, pairW s = true) → (∀ q, p = some q → ∀ s ∈ ss, L q < L s) → prGo p ss = true
  | [], p, _, _, _ => by cases p <;> rfl
  | s :: r, p, h1, h2, h3 => by
    obtain ⟨ha, hb⟩ := List.pairwise_cons.1 h1
    rw [prGo_cons, h2 s (by simp), Bool.true_and]
    have hr := prGo_of r (some s) hb (fun x hx => h2 x (List.mem_cons_of_mem _ hx)) (fun q hq x hx => by injection hq with hq; subst hq; exact ha x hx)
    rw [hr, Bool.and_true]
    cases p with
    | none => rfl
    | some q =>
      have hlt := h3 q rfl s (by simp)
      have := gtS_iff s q
      rw [decide_eq_true hlt] at this
      unfold gtS at this
      unfold sLe
      exact this
/-- Pairs put in order, each once. -/
theorem pairs_ss {ss : List ByteArray} (h1 : SS ss) (h2 : ∀ s ∈ ss, pairW s = true) : pairsOk ss = true := prGo_of ss none h1 h2 (fun q hq => by cases hq)
set_option maxRecDepth 4000 in
set_option maxHeartbeats 2000000 in
theorem makePairs_any (A : Option Addr) (n c B m : Nat) (l : List UInt8) (w : World) (hm : m ≤ 100000) (hl : l.length = n) (hn : n ≤ 1048576) (hrd : Rds w B A (byV l)) (hB : B ≤ w.heap.size) :
    Calls Try.prog 37 #[.slice A n c, .int .i64 m] w fun e w' => ∃ (ss : List ByteArray) (g c' : Nat), ss.length ≤ 8 ∧ pairsOk ss = true ∧ e = .returned (.slice (some ⟨g, 0, none⟩) ss.length c') ∧ StrAt w' g c' ss ∧ Below w.heap.size w w' := by
  have hnw := l31New_any A n c B m l w hm hl hn hrd hB
  have hbl := fun w' hc r => l01Below_any w.heap.size B A n c 9 l w' (by decide) (by decide) hl hn hc r hB
  have hwd := fun w' hc r => l02Word_any w.heap.size B A n c 2 4 l w' (by decide) (by decide) (by decide) hl hn hc r hB
  have HN := Lib.hid hnw; have HBL := Lib.hid hbl; have HWD := Lib.hid hwd; have HR := Lib.hid hrd
  clear hnw hbl hwd hl hrd
  go_enter Try.func37, Try.ntmps37
  go_wp2_with fail
  refine HN.out.mono ?_
  rintro e w1 ⟨rfl, c1, b1⟩
  have hs1 : w.heap.size < w1.heap.size := c1.1
  go_wp2_with fail
  have ba : Below w1.heap.size w1 (w1.alloc (.cells #[] 9)) := (Below.refl _ _).alloc (Nat.le_refl _) _
  have c2 := c1.below ba
  have b2 := b1.trans (ba.mono b1.size)
  have st0 : StrAt (w1.alloc (.cells #[] 9)) w1.heap.size 0 [] := ⟨Nat.le_refl _, Nat.zero_le _, by simp, fun j s hj => by simp at hj⟩
  have hne0 : w1.heap.size ≠ w.heap.size := by omega
  generalize w1.heap.size = g0 at st0 hne0 ⊢
  generalize w1.alloc (.cells #[] 9) = w2 at c2 b2 st0 ⊢
  clear c1 b1 ba hs1
  refine (HBL.out _ c2 (HR.out.below b2 hB)).mono ?_
  rintro e w3 ⟨x, hx, rfl, c3, b3, g3⟩
  have st3 := st0.grown g3 hne0
  have b4 := b2.trans b3
  have ST3 := Lib.hid st3; have C3 := Lib.hid c3
  clear st0 st3 b2 b3 g3 c2 c3
  go_wp2_with fail
  go_loopw [6, 7] (fun v i wr => ∃ (k m2 g c2 : Nat) (ss : List ByteArray), k ≤ x ∧ i = .int .i64 k ∧ ss.length = m2 ∧ m2 + k ≤ x ∧ v = .slice (some ⟨g, 0, none⟩) m2 c2 ∧ StrAt wr g c2 ss ∧ g ≠ w.heap.size ∧ SS ss ∧ (∀ s ∈ ss, pairW s = true) ∧ CurAt wr w.heap.size A n c ∧ Below w.heap.size w wr) (fun _ i _ => (intOf i).toNat)
  case atStart => exact ⟨x, 0, g0, 0, [], by omega, rfl, rfl, by omega, rfl, ST3.out, hne0, List.Pairwise.nil, (fun s hs => by cases hs), C3.out, b4⟩
  case round =>
    clear C3 ST3 b4
    obtain ⟨k, m2, g, c2, ss, hk, rfl, hm2, hmk, rfl, hst, hgn, hss, hpw, hc, hb⟩ := hrel
    have HST := Lib.hid hst; have HSS := Lib.hid hss; have HPW := Lib.hid hpw; have HC := Lib.hid hc; have HM := Lib.hid hm2
    clear hst hss hpw hc hm2
    by_cases hlt : 0 < k
    · go_wp2_with fail
      refine (HWD.out _ HC.out (HR.out.below hb hB)).mono ?_
      rintro e w5 ⟨yl, hy1, hyl, rfl, c5, b5, g5⟩
      obtain ⟨y, hy⟩ : ∃ y, strOf yl = y := ⟨_, rfl⟩
      have hyL : L y = yl := by rw [← hy, strOf_L]
      have hyz : y.size = 2 := by rw [← L_len, hyL, hy1]
      rw [← hyL] at hyl
      rw [hy]
      have st5 := HST.out.grown g5 hgn
      have hins := l05Insert_any ss y g c2 w5 (by have := HM.out; omega) st5
      rw [HM.out] at hins
      have hyw : pairW y = true := by
        unfold pairW
        rw [lets_isW (by decide) hyl (by rw [L_len]; omega), decide_eq_true hyz]; rfl
      obtain ⟨hss2, hmem⟩ := insB_ok y HSS.out
      have hlen := insB_len ss y
      rw [HM.out] at hlen
      have hb5 := hb.trans b5
      obtain ⟨r, hr⟩ : ∃ r, insB ss y = r := ⟨_, rfl⟩
      rw [hr] at hins hss2 hmem hlen
      have HI := Lib.hid hins; have HS2 := Lib.hid hss2; have HM2 := Lib.hid hmem; have C5 := Lib.hid c5; have HYW := Lib.hid hyw
      clear hins hss2 hmem st5 g5 b5 hr hyl c5 hyw hy1 hy hyL hyz
      go_wp2_with fail
      refine HI.out.mono ?_
      rintro e w6 ⟨g', c', rfl, st6, b6⟩
      obtain ⟨m3, hm3⟩ : ∃ m3, r.length = m3 := ⟨_, rfl⟩
      rw [hm3] at hlen ⊢
      have c6 := C5.out.below b6
      have hg' : g' ≠ w.heap.size := fun e => by
        have hyr := (HM2.out y).2 (.inr rfl)
        obtain ⟨z, hz⟩ := some_of_lt (l := r) (k := 0) (List.length_pos_of_mem hyr)
        have h1 := st6.2.2.2 0 z hz
        rw [e, c6.2.1] at h1
        cases h1
      have hb6 := hb5.trans (b6.mono hb5.size)
      have ST6 := Lib.hid st6; have C6 := Lib.hid c6; have HM3 := Lib.hid hm3
      clear st6 c6 b6 hb5 hm3
      go_wp2_with fail
      go_roundw
      case rel => exact ⟨k - 1, m3, g', c', r, by omega, by go_num, HM3.out, by omega, rfl, ST6.out, hg', HS2.out, fun s hs => (HM2.out s |>.1 hs).elim (HPW.out s) (fun e => by rw [e]; exact HYW.out), C6.out, hb6⟩
      case measure => simp [intOf]; omega
    · go_wp2_with fail
      go_ret
      exact ⟨ss, g, c2, by have := HM.out; omega, pairs_ss HSS.out HPW.out, by rw [HM.out]; rfl, HST.out, hb⟩
end Go.Proofs.Ytfjmopiofcbpgaa
