/- FromRuns at two letters; RunsOf. Asks the shelf's text (Try.strings_Repeat). No condition but the bounds. -/
import Derived.Test.YtfjmopiofcbpgaaRnp
import Derived.Test.YtfjmopiofcbpgaaSmw
import Derived.Test.YtfjmopiofcbpgaaBrw
import Derived.Deep.RegionLaw
import Derived.Deep.RegionWith
namespace Go.Proofs.Ytfjmopiofcbpgaa
open Go.RowKit
set_option linter.unusedVariables false

theorem rep_one (c : UInt8) (n : Nat) : (⟨(Lib.repeatL [c] n).toArray⟩ : ByteArray) = strOf (List.replicate n c) := by
  have : Lib.repeatL [c] n = List.replicate n c := by
    induction n with
    | zero => rfl
    | succ n ih => rw [Lib.repeatL, ih, List.replicate_succ]; rfl
  rw [this]; rfl
def alC (c : UInt8) (k : Nat) : UInt8 := if k % 2 = 0 then c else swC c
theorem alC_next {c : UInt8} (h1 : 97 ≤ c.toNat) (h2 : c.toNat ≤ 98) (k : Nat) : swC (alC c k) = alC c (k + 1) := by
  unfold alC
  by_cases h : k % 2 = 0
  · rw [if_pos h, if_neg (by omega)]
  · rw [if_neg h, if_pos (by omega)]
    have e1 := swC_nat h1 h2
    have e2 := swC_nat (b := swC c) (by omega) (by omega)
    exact UInt8.toNat_inj.1 (by omega)
theorem sum_pos : ∀ {l : List Int}, (∀ x ∈ l, 1 ≤ x) → 0 ≤ l.sum
  | [], _ => by simp
  | x :: l, h => by
    have h1 := h x (by simp)
    have h2 := sum_pos (l := l) fun y hy => h y (List.mem_cons_of_mem _ hy)
    simp only [List.sum_cons]; omega
set_option maxRecDepth 4000 in
set_option maxHeartbeats 2000000 in
theorem iFromRuns_yes (c0 : UInt8) (s : ByteArray) (hs : s = ⟨#[c0, swC c0]⟩) (h97 : 97 ≤ c0.toNat) (h98 : c0.toNat ≤ 98) (zs : List Int) (hz : ∀ x ∈ zs, 1 ≤ x) (hsum : zs.sum ≤ 100) (A : Option Addr) (nz cz B : Nat) (w : World) (hnz : zs.length = nz) (hrd : Rds w B A (zs.map (Value.int .i64))) (hB : B ≤ w.heap.size) :
    Calls Try.prog 18 #[.slice A nz cz, .string s] w fun e w' => e = .returned (.tuple #[.string (strOf (alt c0 zs)), .bool true]) ∧ Below w.heap.size w w' := by
  have hsz : s.size = 2 := by rw [hs]; rfl
  have hsn := swC_nat h97 h98
  have hW : isW (L s) = true := by
    rw [hs]
    show isW [c0, swC c0] = true
    unfold isW okc
    simp only [List.all_cons, List.all_nil, Bool.and_true, Bool.and_eq_true, decide_eq_true_eq, List.length_cons, List.length_nil]
    omega
  have hH := fun w => isWord_is s true (by unfold maxLen; omega) hW w
  have hat : ∀ k : Nat, s.extract (k % 2) (k % 2 + 1) = ⟨#[alC c0 k]⟩ := fun k => by
    rw [hs]
    unfold alC
    rcases Nat.mod_two_eq_zero_or_one k with h | h
    · rw [h, if_pos rfl]; rfl
    · rw [h, if_neg (by decide)]; rfl
  have hrp : ∀ (k m : Nat) (v : World), m ≤ 400 → Calls Try.prog 54 #[.string (s.extract (k % 2) (k % 2 + 1)), .int .i64 m] v fun e w' => e = .returned (.string (strOf (List.replicate m (alC c0 k)))) ∧ Below v.heap.size v w' := fun k m v hm => by
    rw [hat k, ← rep_one]
    exact Try.strings_Repeat ⟨#[alC c0 k]⟩ m v (by omega) (by show 1 * m ≤ _; omega)
  have hg0 : (s[0]'(by omega)) ≠ (s[1]'(by omega)) := by
    subst hs
    show c0 ≠ swC c0
    intro e; rw [← e] at hsn; omega
  have g1 : (((s[0]'(by omega)).toNat : Int) == ((s[1]'(by omega)).toNat : Int)) = false := beq_eq_false_iff_ne.2 fun e => hg0 (UInt8.toNat_inj.1 (by omega))
  have g2 : (((s[1]'(by omega)).toNat : Int) == ((s[0]'(by omega)).toNat : Int)) = false := beq_eq_false_iff_ne.2 fun e => hg0 (UInt8.toNat_inj.1 (by omega))
  have hnx := fun k => alC_next h97 h98 k
  have hnz9 : nz ≤ 100 := by have := sum_ge hz; omega
  have HH := Lib.hid hH; have HRP := Lib.hid hrp; have HZ := Lib.hid hz; have HSU := Lib.hid hsum; have HN := Lib.hid hnz; have HR := Lib.hid hrd; have HNX := Lib.hid hnx
  have hsz1 : s.size ≤ 2 := by omega
  have hsz2 : 2 ≤ s.size := by omega
  clear hH hrp hz hsum hnz hrd hat hW hg0 hsn hs hnx
  go_enter Try.func18, Try.ntmps18
  go_wp2_with fail
  refine (HH.out _).mono ?_
  rintro e w1 ⟨rfl, rfl⟩
  go_wp2_with fail
  go_loopw [6, 21] (fun _ i wr => ∃ k : Nat, k ≤ 2 ∧ i = .int .i64 k ∧ Dr w wr) (fun _ i _ => 2 - (intOf i).toNat)
  case atStart => exact ⟨0, by omega, rfl, Dr.refl _⟩
  case round =>
    obtain ⟨k, hk, rfl, hd⟩ := hrel
    rcases show k = 0 ∨ k = 1 ∨ k = 2 by omega with rfl | rfl | rfl
    · have q0 : (0 : Int) < (s.size : Int) := by omega
      have q1 : (1 : Int) < (s.size : Int) := by omega
      have q2 : (1 : Int) % (s.size : Int) = 1 := by rw [show (s.size : Int) = 2 by omega]; rfl
      have q3 : Int.tmod 1 (s.size : Int) = 1 := by rw [show (s.size : Int) = 2 by omega]; rfl
      go_wp2_with fail
      go_quiet (fail)
      go_wp2_with fail
      go_roundw
      case rel => exact ⟨1, by omega, by go_num, hd.drewN _⟩
      case measure => simp [intOf]
    · have q0 : (0 : Int) < (s.size : Int) := by omega
      have q1 : (1 : Int) < (s.size : Int) := by omega
      have q2 : (2 : Int) % (s.size : Int) = 0 := by rw [show (s.size : Int) = 2 by omega]; rfl
      have q3 : Int.tmod 2 (s.size : Int) = 0 := by rw [show (s.size : Int) = 2 by omega]; rfl
      go_wp2_with fail
      go_quiet (fail)
      go_wp2_with fail
      go_roundw
      case rel => exact ⟨2, by omega, by go_num, hd.drewN _⟩
      case measure => simp [intOf]
    · clear g1 g2
      go_wp2_with fail
      have bd : Below w.heap.size w wr := hd.below
      have bd2 : Below w.heap.size w (wr.alloc (.cells #[] 5)) := bd.alloc bd.size _
      have br0 : BR (wr.alloc (.cells #[] 5)) w.heap.size 5 wr.heap.size 0 [] := BR.ofOwn (v := .bool true) (n := 0) ((Own.empty (w := wr) (E := 5) (Nat.le_refl _)).lower bd.size) rfl
      have BR0 := Lib.hid br0; have BD2 := Lib.hid bd2
      clear bd bd2 br0 hd
      obtain ⟨g0, hg0⟩ : ∃ g, wr.heap.size = g := ⟨_, rfl⟩
      rw [hg0] at BR0 ⊢
      clear hg0
      go_loopw [7, 8, 9, 10, 39] (fun o z _ _ i wv => ∃ (k m g c : Nat) (l : List UInt8), k ≤ nz ∧ i = .int .i64 k ∧ l.length = m ∧ m ≤ 100 ∧ z = .int .i64 m ∧ o = .slice (some ⟨g, 0, none⟩) m c ∧ BR wv w.heap.size 5 g c l ∧ l ++ alt (alC c0 k) (zs.drop k) = alt c0 zs ∧ (m : Int) + (zs.drop k).sum = zs.sum ∧ Below w.heap.size w wv) (fun _ _ _ _ i _ => nz - (intOf i).toNat)
      case atStart => exact ⟨0, 0, _, _, [], by omega, rfl, rfl, by omega, rfl, rfl, BR0.out, rfl, by simp, BD2.out⟩
      case round =>
        clear BR0 BD2
        obtain ⟨k, m, g, c, l, hk, rfl, hm, hm2, rfl, rfl, hbr, hal, hsm, hbel⟩ := hrel
        by_cases hlt : k < nz
        · obtain ⟨x, hx⟩ := some_of_lt (l := zs) (k := k) (by have := HN.out; omega)
          have hdr := drop_at_list hx
          have hx1 := HZ.out x (List.mem_of_getElem? hx)
          rw [hdr] at hal hsm
          rw [List.sum_cons] at hsm
          have hsp := sum_pos (l := zs.drop (k + 1)) fun y hy => HZ.out y (List.mem_of_mem_drop hy)
          have hx2 : (m : Int) + x ≤ 100 := by have := HSU.out; omega
          rw [alt, HNX.out] at hal
          obtain ⟨X, rfl⟩ := Int.eq_ofNat_of_zero_le (show 0 ≤ x by omega)
          rw [Int.toNat_natCast] at hal
          obtain ⟨ad, rfl, hc⟩ := (HR.out.below hbel hB).at_ (map_at (Value.int .i64) hx)
          obtain ⟨q, hq⟩ : ∃ q, k % 2 = q := ⟨_, rfl⟩
          have hq1 : q ≤ 1 := by omega
          have q1 : (k : Int) % (s.size : Int) = (q : Int) := by rw [show (s.size : Int) = 2 by omega]; omega
          have t1 : (k : Int).tmod 2 = (q : Int) := by rw [Int.tmod_eq_emod_of_nonneg (by omega)]; omega
          have t2 : IntKind.i64.wrap ((q : Int) + 1) = ((q + 1 : Nat) : Int) := by rw [IntWalk.i64_in _ (by omega)]; omega
          have u1 : (0 : Int) ≤ (q : Int) + 1 := by omega
          have u2 : (q : Int) + 1 ≤ 2 := by omega
          have u3 : (q : Int) ≤ (q : Int) + 1 := by omega
          have hcl := fun v => HRP.out k X v (by omega)
          rw [hq] at hcl
          have hsz3 : w.heap.size ≤ wr.heap.size := hbel.size
          obtain ⟨y, hy⟩ : ∃ y, strOf (List.replicate X (alC c0 k)) = y := ⟨_, rfl⟩
          have hyz : y.size = X := by rw [← hy, strOf_size, List.length_replicate]
          have hyL : L y = List.replicate X (alC c0 k) := by rw [← hy, strOf_L]
          rw [hy] at hcl
          rw [← hyL, ← List.append_assoc] at hal
          have hys : m + y.size ≤ 4294967296 := by omega
          have hyz1 : y.size ≤ X := by omega
          have hyz2 : X ≤ y.size := by omega
          have HCL := Lib.hid hcl; have HBR := Lib.hid (hbr.dr (Dr.refl wr).drew); have HAL := Lib.hid hal; have HSM := Lib.hid hsm; have HM := Lib.hid hm; have HYZ := Lib.hid hyz; have HB := Lib.hid hbel
          clear hcl hbr hal hsm hm hx hdr hsp hy hyz hyL hq hbel
          go_wp2_with (go_at_call 45; refine (within_yes _ _ _ ⟨by omega, by omega⟩ _).mono ?_; rintro e w' ⟨rfl, rfl⟩)
          clear hc
          go_region_law (first
            | (refine step_append_brs rfl (.tmp 52) (.tmp 65) 22 9 rfl Try.underlying22 Try.underlying9 info_u8 m (by rfl) (HBR.out.below b4) y (by rfl) HM.out hys (Nat.le_trans hsz3 b4.size) ?_; intro g' c' w5 br5 bl5)
            | (rw [if_pos (by rfl)]; go_wp2_with (go_at_call 54; refine (HCL.out _).mono ?_; rintro e w4 ⟨rfl, b4⟩)))
          all_goals
            have BR5 := Lib.hid br5
            have BL5 : Hid (Below w.heap.size w w5) := Lib.hid (HB.out.trans ((((Dr.refl wr).drew.below).trans (b4.mono hsz3)).trans bl5))
            clear br5 bl5 b4
            go_wp2_with fail
            go_roundw
            case rel =>
              repeat apply Exists.intro
              exact ⟨⟨k + 1, m + y.size, g', c', l ++ L y, by omega, by go_num, by rw [List.length_append, HM.out, L_len], by omega, by go_num, rfl, BR5.out, HAL.out, by have := HSM.out; have := HYZ.out; omega, BL5.out⟩, rfl⟩
            case measure => simp [intOf]; omega
        · have hkn : k = nz := by omega
          subst hkn
          have hd0 : zs.drop k = [] := List.drop_eq_nil_of_le (by have := HN.out; omega)
          rw [hd0, alt, List.append_nil] at hal
          have hcv := hbr.reads.conv (P := Try.prog) hm 22 9 5 c Try.underlying22 Try.underlying5 Try.underlying9
          rw [hal] at hcv
          clear hbr hal hsm hm hd0
          go_wp2_with fail
          go_ret2
          exact ⟨rfl, hbel⟩
theorem iRunsOf_yes (s : ByteArray) (h0 : isW (L s) = true) (w : World) :
    Calls Try.prog 7 #[.string s] w fun e w' => ∃ A c, e = .returned (.slice A (runsOf (L s)).length c) ∧ Own w' w.heap.size 3 (.slice A (runsOf (L s)).length c) ((runsOf (L s)).map (Value.int .i64)) ∧ Below w.heap.size w w' := by
  have h4 := isW_size h0
  have H0 := Lib.hid (fun w => isWord_is s true (by unfold maxLen; omega) h0 w)
  have HR := Lib.hid (fun w => runs_any s (by omega) w)
  clear h0
  go_enter Try.func7, Try.ntmps7
  go_wp2_with fail
  refine (H0.out _).mono ?_
  rintro e w1 ⟨rfl, rfl⟩
  go_wp2_with fail
  refine (HR.out _).mono ?_
  rintro e w2 ⟨A, c, rfl, o, b⟩
  have HO := Lib.hid o; clear o
  go_wp2_with fail
  go_ret
  exact ⟨A, c, rfl, HO.out, b⟩
end Go.Proofs.Ytfjmopiofcbpgaa
