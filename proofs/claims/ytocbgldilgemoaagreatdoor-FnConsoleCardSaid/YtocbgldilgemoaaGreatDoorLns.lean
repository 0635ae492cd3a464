/- Lines without a line feed (plain). No condition. -/
import Derived.Test.YtocbgldilgemoaaGreatDoorRss
import Derived.Test.YtocbgldilgemoaaGreatDoorM3
namespace Go.Proofs.YtocbgldilgemoaaGreatDoor
open Go.RowKit
set_option linter.unusedVariables false
def LnK (m:Nat) (s:ByteArray):Prop:=s.size≤m∧(10:UInt8) ∉ L s
theorem LnK.app {m k:Nat} {s t:ByteArray} (h:LnK m s) (g:LnK k t):LnK (m+k) (s++t):=by
 refine⟨by rw[ByteArray.size_append];have:=h.1;have:=g.1;omega,?_⟩
 rw[show L (s++t)=L s++L t by simp[L]]
 intro hm
 exact (List.mem_append.1 hm).elim h.2 g.2
theorem LnK.mono {m k:Nat} {s:ByteArray} (h:LnK m s) (hk:m≤k):LnK k s:=⟨Nat.le_trans h.1 hk,h.2⟩
theorem Yl {n:Int} (h:I64 n):LnK 21 (Zd (Lib.itoa n)):=by
 refine⟨by rw[Zh];exact Jq h,fun hm=>?_⟩
 rw[Zy] at hm
 rcases Ze9 h 10 hm with h|h
 ·exact absurd h (by decide)
 ·exact absurd h.1 (by decide)
theorem ZeS {zs:List ByteArray} (h:Zf zs=true):LnK 40 (fsV zs):=by
 refine⟨?_,fun hm=>?_⟩
 ·rw[fsV,if_pos h,Zh]
  obtain⟨h4,h8⟩:=ZE h
  have:=VR 44 zs 8 (fun x hx=>(h8 x hx).2.1)
  have:zs.length * (8+1)≤4 * 9:=Nat.mul_le_mul_right 9 h4
  omega
 ·rcases WV h 10 hm with h|h
  ·exact absurd h (by decide)
  ·exact absurd h.1 (by decide)
theorem Zdz {k m:Nat} {s:ByteArray} (h:Vg k (L s)) (hs:s.size≤m):LnK m s:=⟨hs,fun hm=>absurd (h 10 hm).1 (by decide)⟩
theorem Jk {m:Nat} {xs:List ByteArray} (h:(xs.all fun s=>decide (s.size≤m)&&!(L s).contains 10)=true):∀ s∈xs,LnK m s:=fun s hs=>by
 have:=List.all_eq_true.1 h s hs
 rw[Bool.and_eq_true,decide_eq_true_eq,Bool.not_eq_true',List.contains_eq_mem,decide_eq_false_iff_not] at this
 exact this
end Go.Proofs.YtocbgldilgemoaaGreatDoor
