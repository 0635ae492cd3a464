/- Patches turned about, both. No condition but the bounds. -/
import Derived.Test.YtbegecoocgkbiaaGreatDoorPch
import Derived.Test.YtbegecoocgkbiaaGreatDoorM16
import Derived.Test.YtbegecoocgkbiaaGreatDoorM1
import Derived.Lib.OthersKept
namespace Go.Proofs.YtbegecoocgkbiaaGreatDoor
open Go.RowKit
set_option linter.unusedVariables false

def colL (ps : List ByteArray) (x : Nat) : List UInt8 := ps.map fun s => (L s).getD x 0
def flpT (ps : List ByteArray) (n : Nat) : List ByteArray := (List.range n).map fun x => strOf (colL ps x)
def flp (ps : List ByteArray) : List ByteArray := flpT ps (hd0 ps).size
theorem colL_take {ps : List ByteArray} {k x : Nat} {s : ByteArray} (h : ps[k]? = some s) : colL (ps.take (k + 1)) x = colL (ps.take k) x ++ [(L s).getD x 0] := by
  rw [colL, List.take_add_one, h, List.map_append]; rfl
theorem colL_len (ps : List ByteArray) (x : Nat) : (colL ps x).length = ps.length := by simp [colL]
theorem flpT_succ (ps : List ByteArray) (n : Nat) : flpT ps (n + 1) = flpT ps n ++ [strOf (colL ps n)] := by simp [flpT, List.range_succ]
theorem flpT_len (ps : List ByteArray) (n : Nat) : (flpT ps n).length = n := by simp [flpT]
theorem patOk_row {ps : List ByteArray} (h : patOk ps = true) {s : ByteArray} (hs : s ∈ ps) : isW (L s) = true ∧ s.size = (hd0 ps).size := by
  unfold patOk pat1 at h
  simp only [Bool.and_eq_true, decide_eq_true_eq, List.all_eq_true] at h
  exact h.2 s hs
theorem patOk_dim {ps : List ByteArray} (h : patOk ps = true) : (1 ≤ ps.length ∧ ps.length ≤ 32) ∧ (1 ≤ (hd0 ps).size ∧ (hd0 ps).size ≤ 32) := by
  unfold patOk at h
  simp only [Bool.and_eq_true, decide_eq_true_eq] at h
  exact h.1
theorem getD_ix (s : ByteArray) (k : Nat) (h : k < s.size) : (L s).getD k 0 = s[k]'h := by
  rw [List.getD_eq_getElem?_getD, List.getElem?_eq_getElem (by rw [L_len]; exact h)]; rfl
theorem Own.alloc1 {w : World} {B : Nat} {E : TypeId} {v : Value} {xs : List Value} (h : Own w B E v xs) (o : Obj) : Own (w.alloc o) B E v xs := h.below ((Below.refl _ w).alloc (Nat.le_refl _) o)
set_option maxRecDepth 4000 in
set_option maxHeartbeats 2000000 in
theorem iFlip_yes (ps : List ByteArray) (A : Option Addr) (c B : Nat) (w : World) (hB : B ≤ w.heap.size) (hok : patOk ps = true) (hrd : Rds w B A (ps.map Value.string)) :
    Calls Tryz.prog 144 #[.slice A ps.length c] w fun e w' => ∃ g c', e = .returned (.slice (some ⟨g, 0, none⟩) (flp ps).length c') ∧ Own w' w.heap.size 9 (.slice (some ⟨g, 0, none⟩) (flp ps).length c') ((flp ps).map Value.string) ∧ Below w.heap.size w w' := by
  have hdim := patOk_dim hok
  have hrows := fun s (hs : s ∈ ps) => patOk_row hok hs
  have h0 := hd0_at (ps := ps) (by omega)
  obtain ⟨ad, hA, hc0⟩ := (hrd.below ((Below.refl w.heap.size w).alloc (Nat.le_refl _) (.cells #[] 9)) hB).at_ (map_at Value.string h0)
  subst hA
  have hc00 : (w.alloc (.cells #[] 9)).cell? ad = some (.string (hd0 ps)) := by simpa [Addr.add] using hc0
  obtain ⟨h00, hh00⟩ : ∃ h, hd0 ps = h := ⟨_, rfl⟩
  obtain ⟨n0, hn0⟩ : ∃ n, (hd0 ps).size = n := ⟨_, rfl⟩
  obtain ⟨rr, hrr⟩ : ∃ rr, flp ps = rr := ⟨_, rfl⟩
  rw [hrr]
  have hz0 : (h00.size : Int) = (n0 : Int) := by rw [← hh00, hn0]
  have hfl : flpT ps n0 = rr := by rw [← hrr, flp, hn0]
  have hrl : rr.length = n0 := by rw [← hfl, flpT_len]
  obtain ⟨n, hn⟩ : ∃ n, ps.length = n := ⟨_, rfl⟩
  rw [hn] at hdim ⊢
  rw [hn0] at hdim
  rw [hh00] at hc00
  have HN := Lib.hid hn; have HN0 := Lib.hid hn0; have HRD := Lib.hid hrd; have HROWS := Lib.hid hrows; have HFL := Lib.hid hfl; have HRL := Lib.hid hrl
  obtain ⟨⟨hd1, hd2⟩, hd3, hd4⟩ := hdim
  clear hok hrows h0 hc0 hh00 hn0 hrr hfl hrl hn hrd
  go_enter Tryz.func144, Tryz.ntmps144
  go_wp2_with fail
  go_loopw [3, 4, 5, 7, 13] (fun v _ _ _ i wr => ∃ k g c2 : Nat, k ≤ n0 ∧ i = .int .i64 k ∧ v = .slice (some ⟨g, 0, none⟩) k c2 ∧ Own wr w.heap.size 9 (.slice (some ⟨g, 0, none⟩) k c2) ((flpT ps k).map Value.string) ∧ Below w.heap.size w wr) (fun _ _ _ _ i _ => n0 - (intOf i).toNat)
  case atStart => exact ⟨0, w.heap.size, 0, by omega, rfl, rfl, Own.empty (Nat.le_refl _), (Below.refl _ _).alloc (Nat.le_refl _) _⟩
  case round =>
    obtain ⟨k, g, c2, hk, rfl, rfl, hown, hbel⟩ := hrel
    have HO := Lib.hid hown
    have hzr := hbel.size
    clear hown
    by_cases hlt : k < n0
    · have bA : Below wr.heap.size wr (wr.alloc (.cells #[] 5)) := (Below.refl _ _).alloc (Nat.le_refl _) _
      have hout := HO.out.below bA
      have hnew : Own (wr.alloc (.cells #[] 5)) w.heap.size 5 (.slice (some ⟨wr.heap.size, 0, none⟩) 0 0) [] := (Own.empty (Nat.le_refl _)).lower hzr
      have hapn : Ap (.slice (some ⟨wr.heap.size, 0, none⟩) 0 0) (.slice (some ⟨g, 0, none⟩) k c2) := (ap_new HO.out).symm
      have hbelN := hbel.trans (bA.mono hzr)
      have HOUT := Lib.hid hout; have HNEW := Lib.hid hnew; have HAPN := Lib.hid hapn
      clear hout hnew hapn
      go_wp2_with fail
      go_loopw [5, 7, 19] (fun v _ i w3 => ∃ j gr cr : Nat, j ≤ n ∧ i = .int .i64 j ∧ v = .slice (some ⟨gr, 0, none⟩) j cr ∧ Ap (.slice (some ⟨gr, 0, none⟩) j cr) (.slice (some ⟨g, 0, none⟩) k c2) ∧ Own w3 w.heap.size 5 (.slice (some ⟨gr, 0, none⟩) j cr) (byV (colL (ps.take j) k)) ∧ Own w3 w.heap.size 9 (.slice (some ⟨g, 0, none⟩) k c2) ((flpT ps k).map Value.string) ∧ Below w.heap.size w w3) (fun _ _ i _ => n - (intOf i).toNat)
      case atStart => exact ⟨0, wr.heap.size, 0, by omega, rfl, rfl, HAPN.out, HNEW.out, HOUT.out, hbelN⟩
      case round =>
        obtain ⟨j, gr, cr, hj, rfl, rfl, hap, hrow, hout, hbel3⟩ := hrel
        have HROW := Lib.hid hrow; have HOU := Lib.hid hout; have HAP := Lib.hid hap
        clear hrow hout hap
        by_cases hjl : j < n
        · obtain ⟨s, hs⟩ := some_of_lt (l := ps) (k := j) (by rw [HN.out]; exact hjl)
          obtain ⟨ad', hA', hc⟩ := (HRD.out.below hbel3 hB).at_ (map_at Value.string hs)
          injection hA' with hA'
          subst hA'
          have hsz : s.size = n0 := by rw [← HN0.out]; exact (HROWS.out s (List.mem_of_getElem? hs)).2
          have hks : k < s.size := by omega
          have hct := colL_take (x := k) hs
          rw [getD_ix s k hks] at hct
          obtain ⟨b, hb⟩ : ∃ b, s[k]'hks = b := ⟨_, rfl⟩
          rw [hb] at hct
          have HCT := Lib.hid hct
          have hl3 : (byV (colL (ps.take j) k)).length = j := by rw [byV_length, colL_len, List.length_take, HN.out]; omega
          have HL3 := Lib.hid hl3
          have hm9 : j < 4294967296 := by omega
          have hsz3 := hbel3.size
          have hki : (k : Int) < (s.size : Int) := by omega
          clear hs hct hl3 hsz
          go_wp2_with (at_builtin; refine wp_append4 rfl (.tmp 23) (.tmp 27) 22 rfl _ 1 Tryz.underlying22 info_u8 rfl j cr rfl HROW.out _ rfl rfl HL3.out hm9 (by decide) hsz3 ?_)
          intro g4 c4 w4 ha4
          have hown4 := ha4.own
          rw [show byV (colL (ps.take j) k) ++ [Value.int .u8 (b.toNat : Int)] = byV (colL (ps.take (j + 1)) k) from by rw [byV_snoc, HCT.out]] at hown4
          have hbs := ha4.beside _ _ _ _ HOU.out HAP.out
          have hbel4 := hbel3.trans ha4.bel
          skip
          have HO4 := Lib.hid hown4; have HB4 := Lib.hid hbs
          clear ha4 hown4 hbs
          go_wp2_with fail
          go_roundw
          case rel => exact ⟨j + 1, g4, c4, by omega, by go_num, rfl, HB4.out.2, HO4.out, HB4.out.1, hbel4⟩
          case measure => simp [intOf]; omega
        · have hje : j = n := by omega
          subst hje
          have htk : ps.take j = ps := List.take_of_length_le (by rw [HN.out]; omega)
          rw [htk] at HROW
          have hcv := Rds.conv (HROW.out.reads) (by rw [colL_len, HN.out]) 22 9 5 cr Tryz.underlying22 Tryz.underlying5 Tryz.underlying9
          have hcv2 := Rds.conv (w := wr.alloc (.cells #[Value.string (strOf (colL ps k))] 9)) ((HROW.out.alloc1 _).reads) (by rw [colL_len, HN.out]) 22 9 5 cr Tryz.underlying22 Tryz.underlying5 Tryz.underlying9
          have hl3 : ((flpT ps k).map Value.string).length = k := by rw [List.length_map, flpT_len]
          have HL3 := Lib.hid hl3
          have hm9 : k < 4294967296 := by omega
          have hsz3 := hbel3.size
          clear htk hl3
          go_wp2_with (at_builtin; refine wp_append4 rfl (.tmp 30) (.tmp 33) 23 rfl _ 16 Tryz.underlying23 info_string rfl k c2 rfl HOU.out _ rfl rfl HL3.out hm9 (by decide) hsz3 ?_)
          intro g4 c4 w4 ha4
          have hown4 := ha4.own
          rw [show (flpT ps k).map Value.string ++ [Value.string (strOf (colL ps k))] = (flpT ps (k + 1)).map Value.string from by rw [flpT_succ, List.map_append]; rfl] at hown4
          have hbel4 := hbel3.trans ha4.bel
          skip
          have HO4 := Lib.hid hown4
          clear ha4 hown4
          go_wp2_with fail
          go_roundw
          case rel => exact ⟨k + 1, g4, c4, by omega, by go_num,rfl, HO4.out, hbel4⟩
          case measure => simp [intOf]; omega
    · have hke : k = n0 := by omega
      subst hke
      rw [HFL.out] at HO
      go_wp2_with fail
      go_ret
      exact ⟨g, c2, by rw [HRL.out]; rfl, by rw [HRL.out]; exact HO.out, hbel⟩
end Go.Proofs.YtbegecoocgkbiaaGreatDoor
