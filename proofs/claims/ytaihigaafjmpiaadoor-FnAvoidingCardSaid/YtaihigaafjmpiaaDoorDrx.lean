/- Words that are drawn. No condition but the bounds. -/
import Derived.Test.YtaihigaafjmpiaaDoorDrw
import Derived.Test.YtaihigaafjmpiaaDoorByt
import Derived.Test.YtaihigaafjmpiaaDoorStr
namespace Go.Proofs.YtaihigaafjmpiaaDoor
open Go.RowKit
set_option linter.unusedVariables false

theorem CurAt.low {w w' : World} {p B : Nat} {A : Option Addr} {n c : Nat} (h : CurAt w p A n c) (hp : p < B) (hb : Below B w w') : CurAt w' p A n c := by
  obtain ⟨c0, c1, ⟨i, hi, c2⟩, ⟨x, c3⟩, f1, f2⟩ := h
  have hf : ∀ a : Addr, a.block < B → w'.frozen? a = w.frozen? a := fun a ha => by
    unfold World.frozen?
    rw [hb.block a.block ha]
  exact ⟨Nat.lt_of_lt_of_le c0 hb.size, (hb.cell (p := ⟨p, 0, none⟩) hp).trans c1, ⟨i, hi, (hb.cell (p := ⟨p, 1, none⟩) hp).trans c2⟩, ⟨x, (hb.cell (p := ⟨p, 2, none⟩) hp).trans c3⟩, (hf ⟨p, 1, none⟩ hp).trans f1, (hf ⟨p, 2, none⟩ hp).trans f2⟩
theorem gb_low {w w1 w2 : World} {row : Option Nat} (h : w.grownBy w1 row) (hb : Below w.heap.size w1 w2) : w.grownBy w2 row :=
  ⟨hb.os.trans h.os, hb.tape.trans h.tape, hb.output.trans h.output, Nat.le_trans h.size hb.size, fun k hk hne => (hb.block k hk).trans (h.block k hk hne)⟩
/-- The first k letters. -/
def lets (k : Nat) (l : List UInt8) : Prop := ∀ d ∈ l, 97 ≤ d.toNat ∧ d.toNat < 97 + k
set_option maxRecDepth 4000 in
set_option maxHeartbeats 1000000 in
theorem l02Word_any (p B : Nat) (A : Option Addr) (n c m k : Nat) (l : List UInt8) (w : World) (hm : m ≤ 1000) (h0 : 1 ≤ k) (hk : k ≤ 4) (hl : l.length = n) (hn : n ≤ 1048576) (hc : CurAt w p A n c) (hrd : Rds w B A (byV l)) (hB : B ≤ p) :
    Calls Tryd.prog 37 #[.pointer (some ⟨p, 0, none⟩), .int .i64 m, .int .i64 k] w fun e w' => ∃ x : List UInt8, x.length = m ∧ lets k x ∧ e = .returned (.string (strOf x)) ∧ CurAt w' p A n c ∧ Below p w w' ∧ w.grownBy w' (some p) := by
  have hpw : p < w.heap.size := hc.1
  have hbl := fun wr hcr hrr => l01Below_any p B A n c k l wr h0 (by omega) hl hn hcr hrr hB
  have HBL := Lib.hid hbl; have HC := Lib.hid hc; have HRD := Lib.hid hrd
  clear hbl hc hrd hl
  go_enter Tryd.func37, Tryd.ntmps37
  go_wp2_with fail
  go_loopw [7, 8] (fun b i wr => ∃ (j : Nat) (A' : Option Addr) (c' : Nat) (x : List UInt8), j ≤ m ∧ i = .int .i64 j ∧ b = .slice A' j c' ∧ x.length = j ∧ lets k x ∧ Own wr w.heap.size 5 (.slice A' j c') (byV x) ∧ CurAt wr p A n c ∧ Below p w wr ∧ w.grownBy wr (some p)) (fun _ i _ => m - (intOf i).toNat)
  case atStart =>
    have ba := (Below.refl w.heap.size w).alloc (Nat.le_refl _) (.cells #[] 5)
    exact ⟨0, _, _, [], by omega, rfl, rfl, rfl, (fun d hd => by cases hd), Own.empty (Nat.le_refl _), HC.out.low hpw ba, ba.mono (by omega), gb_low (gb_dr (Dr.refl w) _) ba⟩
  case round =>
    obtain ⟨j, A', c', x, hj, rfl, rfl, hxl, hlx, hown, hcr, hbr, hgr⟩ := hrel
    have HO := Lib.hid hown; have HCR := Lib.hid hcr; have HL := Lib.hid hlx; have HX := Lib.hid hxl
    clear hown hcr hlx hxl
    by_cases hlt : j < m
    · have hlt2 : (j : Int) < (m : Int) := by omega
      have hb := HBL.out wr HCR.out (HRD.out.below (hbr.mono hB) (Nat.le_refl _))
      have HB := Lib.hid hb
      clear hb
      go_wp2_with fail
      refine HB.out.mono ?_
      rintro e w1 ⟨y, hy, rfl, c1, b1, g1⟩
      have o1 : Own w1 w.heap.size 5 (.slice A' j c') (byV x) := by
        refine World.ownsRow.kept HO.out g1 ?_
        rcases ho : (Value.slice A' j c').ownBlock with _ | q
        · exact .inl rfl
        · right
          have := (World.ownsRow.lt HO.out q ho).1
          intro he
          injection he with he
          omega
      have hbw1 := hbr.trans b1
      have hgw1 := hgr.trans g1
      have hu : IntKind.u8.wrap (97 + (y : Int)) = ((UInt8.ofNat (97 + y)).toNat : Int) := by
        rw [IntWalk.u8_in _ (by omega), UInt8.toNat_ofNat']; omega
      have hdt : (UInt8.ofNat (97 + y)).toNat = 97 + y := by rw [UInt8.toNat_ofNat']; omega
      obtain ⟨d, hd⟩ : ∃ d, UInt8.ofNat (97 + y) = d := ⟨_, rfl⟩
      rw [hd] at hu hdt
      have HO1 := Lib.hid o1; have C1 := Lib.hid c1; have HDT := Lib.hid hdt
      have hsw := hgw1.size
      clear o1 c1 b1 g1 hbr hgr HB HO HCR hd hdt
      go_wp2_with (at_builtin; refine wp_append1 rfl (.tmp 15) (.tmp 21) 22 rfl _ 1 Tryd.underlying22 info_u8 rfl rfl HO1.out _ rfl rfl j ?n1 ?n2 ?n3 ?n4 ?_)
      case n1 => rw [byV_length, HX.out]
      case n2 => omega
      case n3 => decide
      case n4 => exact hsw
      intro A2 c2 w2 hown2 hbel2 hsz2
      rw [byV_snoc] at hown2
      have HO2 := Lib.hid hown2; clear hown2
      go_wp2_with fail
      go_roundw
      case rel =>
        refine ⟨j + 1, A2, c2, x ++ [d], by omega, by go_num, rfl, by rw [List.length_append, HX.out]; rfl, ?_, HO2.out, C1.out.low hpw hbel2, hbw1.trans (hbel2.mono (by omega)), gb_low hgw1 hbel2⟩
        intro z hz
        rcases List.mem_append.1 hz with h | h
        · exact HL.out z h
        · have : z = d := by simpa using h
          rw [this, HDT.out]; omega
      case measure => simp [intOf]; omega
    · have hjm : j = m := by omega
      subst hjm
      have hcv := HO.out.reads.conv (P := Tryd.prog) (by rw [HX.out]) 22 9 5 c' Tryd.underlying22 Tryd.underlying5 Tryd.underlying9
      have hlt2 : decide ((j : Int) < (j : Int)) = false := decide_eq_false (by omega)
      clear HO hlt hj
      go_wp2_with fail
      go_ret
      exact ⟨x, HX.out, HL.out, rfl, HCR.out, hbr, hgr⟩
theorem l01Once_any (p B : Nat) (A : Option Addr) (n c m : Nat) (l : List UInt8) (w : World) (h0 : 1 ≤ m) (hm : m ≤ 256) (hl : l.length = n) (hn : n ≤ 1048576) (hc : CurAt w p A n c) (hrd : Rds w B A (byV l)) (hB : B ≤ p) :
    Calls Tryd.prog 44 #[.pointer (some ⟨p, 0, none⟩), .int .i64 m] w fun e w' => ∃ b : Bool, e = .returned (.bool b) ∧ CurAt w' p A n c ∧ Below p w w' ∧ w.grownBy w' (some p) := by
  have hb := l01Below_any p B A n c m l w h0 hm hl hn hc hrd hB
  have HB := Lib.hid hb
  clear hb hc hrd hl
  go_enter Tryd.func44, Tryd.ntmps44
  go_wp2_with (go_at_call 22; refine HB.out.mono ?_; rintro e w1 ⟨x, hx, rfl, c1, b1⟩)
  go_ret
  exact ⟨_, rfl, c1, b1.1, b1.2⟩
theorem lets_isW {k : Nat} {l : List UInt8} (hk : k ≤ 4) (h : lets k l) (hl : l.length ≤ 400) : isW l = true := by
  rw [isW, Bool.and_eq_true, List.all_eq_true, decide_eq_true_eq]
  refine ⟨fun d hd => ?_, hl⟩
  have := h d hd
  rw [okc, decide_eq_true_eq]; omega
theorem lets_mono {j k : Nat} {l : List UInt8} (h : lets j l) (hjk : j ≤ k) : lets k l := fun d hd => by have := h d hd; omega
theorem lets_L_extract {k : Nat} {s : ByteArray} (h : lets k (L s)) (a b : Nat) : lets k (L (s.extract a b)) := by
  intro d hd
  rw [L_extract] at hd
  exact h d (List.mem_of_mem_take (List.mem_of_mem_drop hd))
theorem lets_app {k : Nat} {s t : ByteArray} (h : lets k (L s)) (g : lets k (L t)) : lets k (L (s ++ t)) := by
  intro d hd
  rw [show L (s ++ t) = L s ++ L t by simp [L]] at hd
  exact (List.mem_append.1 hd).elim (h d) (g d)
set_option maxRecDepth 4000 in
set_option maxHeartbeats 1000000 in
theorem l02Draw_any (p B : Nat) (A : Option Addr) (n c m : Nat) (l : List UInt8) (w : World) (hm2 : 2 ≤ m) (hm : m ≤ 200) (hl : l.length = n) (hn : n ≤ 1048576) (hc : CurAt w p A n c) (hrd : Rds w B A (byV l)) (hB : B ≤ p) :
    Calls Tryd.prog 35 #[.pointer (some ⟨p, 0, none⟩), .int .i64 m] w fun e w' => ∃ x : ByteArray, x.size ≤ m ∧ lets 3 (L x) ∧ e = .returned (.string x) ∧ CurAt w' p A n c ∧ Below p w w' ∧ w.grownBy w' (some p) := by
  have h1 := l01Below_any p B A n c 3 l w (by omega) (by omega) hl hn hc hrd hB
  have h2 := fun wr hcr hrr => l01Below_any p B A n c (m + 1) l wr (by omega) (by omega) hl hn hcr hrr hB
  have h3 := fun wr j k hj h0 hk hcr hrr => l02Word_any p B A n c j k l wr hj h0 hk hl hn hcr hrr hB
  have h4 := fun wr j h0 hm hcr hrr => l01Once_any p B A n c j l wr h0 hm hl hn hcr hrr hB
  have H1 := Lib.hid h1; have H2 := Lib.hid h2; have H3 := Lib.hid h3; have H4 := Lib.hid h4; have HRD := Lib.hid hrd
  clear h1 h2 h3 h4 hrd hl hc
  go_enter Tryd.func35, Tryd.ntmps35
  go_wp2_with fail
  refine H1.out.mono ?_
  rintro e w1 ⟨k, hk, rfl, c1, b1, g1⟩
  go_wp2_with fail
  refine (H2.out w1 c1 (HRD.out.below (b1.mono hB) (Nat.le_refl _))).mono ?_
  rintro e w2 ⟨j, hj, rfl, c2, b2, g2⟩
  have b2 := b1.trans b2
  have g2 := g1.trans g2
  clear b1 g1 c1
  have e1 : 1 + (k : Int) = ((1 + k : Nat) : Int) := by omega
  obtain ⟨k1, hk1⟩ : ∃ k1, 1 + k = k1 := ⟨_, rfl⟩
  rw [hk1] at e1
  go_wp2_with fail
  refine (H3.out w2 j k1 (by omega) (by omega) (by omega) c2 (HRD.out.below (b2.mono hB) (Nat.le_refl _))).mono ?_
  rintro e w3 ⟨x, hxl, hlx, rfl, c3, b3, g3⟩
  have b3 := b2.trans b3
  have g3 := g2.trans g3
  have hlx := lets_mono hlx (show k1 ≤ 3 by omega)
  clear b2 g2 c2
  go_wp2_with fail
  refine (H4.out w3 4 (by omega) (by omega) c3 (HRD.out.below (b3.mono hB) (Nat.le_refl _))).mono ?_
  rintro e w4 ⟨o4, rfl, c4, b4, g4⟩
  have b4 := b3.trans b4
  have g4 := g3.trans g4
  clear b3 g3 c3
  obtain ⟨s, hs⟩ : ∃ s, strOf x = s := ⟨_, rfl⟩
  have hsz : s.size = j := by rw [← hs, strOf_size, hxl]
  have hls : lets 3 (L s) := by rw [← hs, strOf_L]; exact hlx
  rw [hs]
  have hsd : (0 : Int) ≤ (s.size : Int) := by omega
  have hq : (s.size : Int) / 2 = ((s.size / 2 : Nat) : Int) := by omega
  have hqs : ((s.size / 2 : Nat) : Int) ≤ (s.size : Int) := by omega
  have key : (o4 = true ∧ 1 < s.size) ∨ (o4 = false) ∨ (o4 = true ∧ ¬ 1 < s.size) := by
    cases o4 <;> simp <;> omega
  rcases key with ⟨ho, h1s⟩ | ho | ⟨ho, h1s⟩
  case' inl =>
    subst ho
    have h1s2 : (1 : Int) < (s.size : Int) := by omega
    go_wp2_with fail
    go_quiet (fail)
    go_wp2_with fail
    obtain ⟨s1, hs1⟩ : ∃ s1, s.extract 0 (j / 2) ++ s.extract 0 (j / 2) = s1 := ⟨_, rfl⟩
    have hz1 : s1.size ≤ m := by rw [← hs1, ByteArray.size_append, ByteArray.size_extract]; omega
    have hl1 : lets 3 (L s1) := by rw [← hs1]; exact lets_app (lets_L_extract hls _ _) (lets_L_extract hls _ _)
    rw [hs1]
    refine (H4.out _ 6 (by omega) (by omega) (c4.dr ((Dr.refl w4).drewN _)) ((HRD.out.below (b4.mono hB) (Nat.le_refl _)).dr ((Dr.refl w4).drewN _))).mono ?_
    rintro e w5 ⟨o5, rfl, c5, b5, g5⟩
    have b5 := (b4.trans ((Dr.refl w4).drewN _).below).trans b5
    have g5 := (g4.trans (gb_dr ((Dr.refl w4).drewN _) _)).trans g5
  case' inr.inl =>
    subst ho
    have hz1 : s.size ≤ m := by omega
    have hl1 := hls
    go_wp2_with fail
    refine (H4.out w4 6 (by omega) (by omega) c4 (HRD.out.below (b4.mono hB) (Nat.le_refl _))).mono ?_
    rintro e w5 ⟨o5, rfl, c5, b5, g5⟩
    have b5 := b4.trans b5
    have g5 := g4.trans g5
  case' inr.inr =>
    subst ho
    have hz1 : s.size ≤ m := by omega
    have hl1 := hls
    have h1s2 : decide ((1 : Int) < (s.size : Int)) = false := decide_eq_false (by omega)
    go_wp2_with fail
    refine (H4.out w4 6 (by omega) (by omega) c4 (HRD.out.below (b4.mono hB) (Nat.le_refl _))).mono ?_
    rintro e w5 ⟨o5, rfl, c5, b5, g5⟩
    have b5 := b4.trans b5
    have g5 := g4.trans g5
  all_goals
    cases o5
    · go_wp2_with fail
      go_ret
      first
        | exact ⟨s1, hz1, hl1, rfl, c5, b5, g5⟩
        | exact ⟨s, hz1, hl1, rfl, c5, b5, g5⟩
    · clear hq hqs hsd hls hsz hz1 hl1 b4 g4 c4
      go_wp2_with fail
      go_loop [7] (fun v => ∃ x : ByteArray, v = .string x ∧ 2 ≤ x.size ∧ x.size ≤ 2 * m ∧ lets 3 (L x)) (fun v => 2 * m - (match v with | .string x => x.size | _ => 0))
      case atStart => exact ⟨{ data := #[97, 98] }, rfl, by decide, by show 2 ≤ 2 * m; omega, by unfold lets; decide⟩
      case round =>
        obtain ⟨x, rfl, hx2, hxm, hxl⟩ := hrel
        have hx0 : (0 : Int) ≤ (x.size : Int) := by omega
        have hqs : (x.size : Int) / 2 + 1 ≤ (x.size : Int) := by omega
        have hq0 : (0 : Int) ≤ (x.size : Int) / 2 + 1 := by omega
        by_cases hlt : x.size < m
        · have hlt2 : (x.size : Int) < (m : Int) := by omega
          go_wp2_with fail
          have hzz : (x ++ x.extract 0 (x.size / 2 + 1)).size = x.size + (x.size / 2 + 1) := by rw [ByteArray.size_append, ByteArray.size_extract]; omega
          refine ⟨⟨_, rfl, by omega, by omega, lets_app hxl (lets_L_extract hxl _ _)⟩, ?_⟩
          show 2 * m - (x ++ x.extract 0 (x.size / 2 + 1)).size < 2 * m - x.size
          omega
        · have hlt2 : decide ((x.size : Int) < (m : Int)) = false := decide_eq_false (by omega)
          rcases Nat.lt_or_ge m x.size with hmx | hmx
          · have hmx2 : (m : Int) < (x.size : Int) := by omega
            go_wp2_with fail
            go_ret
            exact ⟨x.extract 0 m, by rw [ByteArray.size_extract]; omega, lets_L_extract hxl _ _, (by first | rfl | (have hmn : (min (x.size : Int) (m : Int)).toNat = m := (by omega); rw [hmn]; first | done | rfl)), c5, b5, g5⟩
          · have hmx2 : x.size = m := by omega
            subst hmx2
            go_wp2_with fail
            go_ret
            exact ⟨x, hmx, hxl, rfl, c5, b5, g5⟩
theorem makeWord_any (A : Option Addr) (n c B m most : Nat) (l : List UInt8) (w : World) (hm : m ≤ 100000) (h2 : 2 ≤ most) (h200 : most ≤ 200) (hl : l.length = n) (hn : n ≤ 1048576) (hrd : Rds w B A (byV l)) (hB : B ≤ w.heap.size) :
    Calls Tryd.prog 17 #[.slice A n c, .int .i64 m, .int .i64 most] w fun e w' => ∃ x : ByteArray, x.size ≤ most ∧ lets 3 (L x) ∧ isW (L x) = true ∧ e = .returned (.string x) ∧ Below w.heap.size w w' := by
  have hnw := l31New_any A n c B m l w hm hl hn hrd hB
  have hd := fun w' hc r => l02Draw_any w.heap.size B A n c most l w' h2 h200 hl hn hc r hB
  have HN := Lib.hid hnw; have HD := Lib.hid hd; have HR := Lib.hid hrd
  clear hnw hd hl hrd
  go_enter Tryd.func17, Tryd.ntmps17
  go_wp2_with fail
  refine HN.out.mono ?_
  rintro e w1 ⟨rfl, c1, b1⟩
  go_wp2_with fail
  refine (HD.out w1 c1 (HR.out.below b1 hB)).mono ?_
  rintro e w2 ⟨x, hx, hlx, rfl, c2, b2, _⟩
  go_wp2_with fail
  go_ret
  exact ⟨x, hx, hlx, lets_isW (by omega) hlx (by rw [L_len]; omega), rfl, b1.trans b2⟩
end Go.Proofs.YtaihigaafjmpiaaDoor
