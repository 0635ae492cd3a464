/- FormatNumbers, both. Asks the shelf's text. No condition but the bounds. -/
import Derived.Test.YtbegecoocgkbiaaGreatDoorFmt
import Derived.Test.YtbegecoocgkbiaaGreatDoorJon
import Derived.Test.YtbegecoocgkbiaaGreatDoorM17
namespace Go.Proofs.YtbegecoocgkbiaaGreatDoor
open Go.RowKit
set_option linter.unusedVariables false

def fmtI (z : Int) : ByteArray := strOf (Lib.itoa z)
theorem fmtI_size {z : Int} (h : I64 z) : (fmtI z).size ≤ 400 := by
  have := itoa_len h
  rw [fmtI, strOf_size]; omega
theorem itoa_ne (z : Int) : Lib.itoa z ≠ [] := by
  unfold Lib.itoa
  split
  · simp
  · rw [Lib.decDigits]; split <;> simp
def fmL (zs : List Int) : List ByteArray := zs.map fmtI
theorem fmL_len (zs : List Int) : (fmL zs).length = zs.length := List.length_map ..
theorem fmt_map_take {zs : List Int} {k : Nat} {z : Int} (h : zs[k]? = some z) : fmL (zs.take (k + 1)) = fmL (zs.take k) ++ [fmtI z] := by
  rw [fmL, List.take_add_one, h, List.map_append]; rfl
/-- What FormatNumbers returns. -/
def fnmV (zs : List Int) : ByteArray := if 60 < zs.length then { data := #[] } else if zs.length = 0 then { data := #[45] } else strOf (jnS 44 (fmL zs))
theorem jnS_pos {sp : UInt8} {y : ByteArray} {l : List ByteArray} (h : 0 < y.size) : 0 < (jnS sp (y :: l)).length := by
  have h1 : 0 < (L y).length := by rw [L_len]; exact h
  cases l with
  | nil => simpa [jnS, Lib.join, List.intercalate] using h1
  | cons z l =>
    have : 0 < y.size + (jnS sp (z :: l)).length + 1 := by omega
    simp [jnS, Lib.join, List.intercalate]; omega
set_option maxRecDepth 4000 in
set_option maxHeartbeats 1000000 in
theorem iFnm_any (zs : List Int) (A : Option Addr) (c B : Nat) (w : World) (hB : B ≤ w.heap.size) (hzs : ∀ z ∈ zs, I64 z) (hrd : Rds w B A (zs.map (Value.int .i64))) (hn : zs.length ≤ 9223372036854775807) (ht : TB w) :
    Calls Tryz.prog 33 #[.slice A zs.length c] w fun e w' => e = .returned (.string (fnmV zs)) ∧ Below w.heap.size w w' := by
  have HR := Lib.hid hrd; have HZ := Lib.hid hzs; have HT := Lib.hid ht
  clear hrd hzs ht
  by_cases h60 : 60 < zs.length
  · have hv : fnmV zs = { data := #[] } := by rw [fnmV, if_pos h60]
    rw [hv]; clear hv
    go_enter Tryz.func33, Tryz.ntmps33
    go_wp2_with fail
    go_ret
    exact ⟨rfl, Below.refl _ _⟩
  · go_enter Tryz.func33, Tryz.ntmps33
    go_wp2_with fail
    go_loopw [3, 5, 12] (fun v _ i wr => ∃ k g c : Nat, k ≤ zs.length ∧ i = .int .i64 k ∧ v = .slice (some ⟨g, 0, none⟩) k c ∧ Own wr w.heap.size 9 (.slice (some ⟨g, 0, none⟩) k c) ((fmL (zs.take k)).map Value.string) ∧ Below w.heap.size w wr) (fun _ _ i _ => zs.length - (intOf i).toNat)
    case atStart => exact ⟨0, w.heap.size, 0, by omega, rfl, rfl, Own.empty (Nat.le_refl _), (Below.refl _ _).alloc (Nat.le_refl _) _⟩
    case round =>
      obtain ⟨k, g, c2, hk, rfl, rfl, hown, hbel⟩ := hrel
      have HO := Lib.hid hown
      have hzr := hbel.size
      clear hown
      by_cases hlt : k < zs.length
      · obtain ⟨z, hz⟩ := some_of_lt (l := zs) (k := k) hlt
        obtain ⟨ad, rfl, hc⟩ := (HR.out.below hbel hB).at_ (map_at (Value.int .i64) hz)
        have hzi := HZ.out z (List.mem_of_getElem? hz)
        have hmt := fmt_map_take hz
        have hcf := iFormatInt_any z hzi wr (HT.out.below hbel)
        have HMT := Lib.hid hmt; have HCF := Lib.hid hcf
        have hl3 : ((fmL (zs.take k)).map Value.string).length = k := by rw [List.length_map, fmL_len, List.length_take]; omega
        have HL3 := Lib.hid hl3
        have hm9 : k < 4294967296 := by omega
        clear hz hmt hcf hl3
        go_wp2_with fail
        refine HCF.out.mono ?_
        rintro e w2 ⟨rfl, b2⟩
        have HO2 := Lib.hid (HO.out.below b2)
        have hsz : w.heap.size ≤ w2.heap.size := by have := b2.size; omega
        go_wp2_with (at_builtin; refine wp_append4 rfl (.tmp 16) (.tmp 19) 23 rfl _ 16 Tryz.underlying23 info_string rfl k c2 rfl HO2.out _ rfl rfl HL3.out hm9 (by decide) hsz ?_)
        intro g4 c4 w4 ha4
        have hown4 := ha4.own
        rw [show (fmL (zs.take k)).map Value.string ++ [Value.string (strOf (Lib.itoa z))] = (fmL (zs.take (k + 1))).map Value.string from by rw [HMT.out, List.map_append]; rfl] at hown4
        have hbel4 := (hbel.trans (b2.mono hzr)).trans ha4.bel
        have HO4 := Lib.hid hown4
        clear ha4 hown4
        go_wp2_with fail
        go_roundw
        case rel => exact ⟨k + 1, g4, c4, by omega, by go_num, rfl, HO4.out, hbel4⟩
        case measure => simp [intOf]; omega
      · have hkl : k = zs.length := by omega
        have hzl : zs.take k = zs := List.take_of_length_le (by omega)
        rw [hzl] at HO
        subst hkl
        have hjz : ∀ x ∈ fmL zs, x.size ≤ 400 := fun x hx => by
          obtain ⟨z, hz, rfl⟩ := List.mem_map.1 hx
          exact fmtI_size (HZ.out z hz)
        have HJZ := Lib.hid hjz
        clear hzl hjz
        have hcj := iJoinS_any 44 (fmL zs) (some ⟨g, 0, none⟩) zs.length c2 w.heap.size wr (fmL_len zs) (by rw [fmL_len]; omega) HJZ.out HO.out
        have hjs := js_len 44 (fmL zs) HJZ.out
        rw [fmL_len] at hjs
        have hfin : orD (strOf (jnS 44 (fmL zs))) = fnmV zs := by
          rw [fnmV, if_neg h60]
          by_cases h0 : zs.length = 0
          · rw [if_pos h0]
            have : zs = [] := List.eq_nil_of_length_eq_zero h0
            subst this; exact (by decide +kernel)
          · rw [if_neg h0]
            obtain ⟨y, l, rfl⟩ : ∃ y l, zs = y :: l := by
              cases zs with
              | nil => exact absurd rfl h0
              | cons y l => exact ⟨y, l, rfl⟩
            have hp : 0 < (jnS 44 (fmL (y :: l))).length := jnS_pos (by rw [fmtI, strOf_size]; exact List.length_pos_iff.2 (itoa_ne y))
            rw [orD, if_neg (by rw [strOf_size]; omega)]
        have hco := orDashD_any (strOf (jnS 44 (fmL zs)))
        rw [hfin] at hco
        have HCJ := Lib.hid hcj; have HCO := Lib.hid hco
        clear hcj hfin hco hjs
        go_wp2_with fail
        refine HCJ.out.mono ?_
        rintro e w3 ⟨rfl, b3⟩
        go_wp2_with fail
        refine (HCO.out _).mono ?_
        rintro e w4 ⟨rfl, rfl⟩
        go_wp2_with fail
        go_ret
        exact ⟨rfl, hbel.trans (b3.mono hzr)⟩
end Go.Proofs.YtbegecoocgkbiaaGreatDoor
