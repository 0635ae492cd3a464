/- What FnReports asks, plain: numbers written and read again; a hyphen for no part; numerals. No condition. -/
import Derived.Test.YtocbgldilgemoaaGreatDoorNml
namespace Go.Proofs.YtocbgldilgemoaaGreatDoor
open Go.RowKit
set_option linter.unusedVariables false
theorem Zcm (c:UInt8):∀ (l cur:List UInt8),c ∉ l→Qx c cur l=[cur++l]
 | [],cur,_=>by simp[Qx]
 | x :: l,cur,h=>by
  rw[List.mem_cons,not_or] at h
  rw[Qx,if_neg (fun e=>h.1 e.symm),Zcm c l _ h.2];simp
theorem Y2 (c:UInt8):∀ (l cur r:List UInt8),c ∉ l→Qx c cur (l++c :: r)=(cur++l) :: Qx c [] r
 | [],cur,r,_=>by simp[Qx]
 | x :: l,cur,r,h=>by
  rw[List.mem_cons,not_or] at h
  rw[List.cons_append,Qx,if_neg (fun e=>h.1 e.symm),Y2 c l _ r h.2];simp
theorem ZjU (sp:UInt8) (y:ByteArray) {m:List ByteArray} (hm:m≠[]):jnS sp (y :: m)=L y++sp :: jnS sp m:=by
 cases m with
 | nil=>exact absurd rfl hm
 | cons a b=>simp[jnS,Lib.join,List.intercalate]
theorem ZjV (c:UInt8):∀ (l:List ByteArray),l≠[]→(∀ x∈l,c ∉ L x)→Qx c [] (jnS c l)=l.map L
 | [],h,_=>absurd rfl h
 | [x],_,h=>by
  have h1:jnS c [x]=L x:=by simp[jnS,Lib.join,List.intercalate]
  rw[h1,Zcm c _ _ (h x List.mem_cons_self)];rfl
 | x :: y :: l,_,h=>by
  rw[ZjU c x (by simp),Y2 c _ _ _ (h x List.mem_cons_self),ZjV c (y :: l) (by simp) fun z hz=>h z (List.mem_cons_of_mem _ hz)]
  rfl
theorem Ze9 {z:Int} (hz:I64 z):∀ c∈Lib.itoa z,c=45∨(48≤c.toNat∧c.toNat≤57):=by
 intro c hc
 unfold I64 at hz
 by_cases h:0≤z
 ·obtain⟨u,rfl⟩:∃ u:Nat,z=(u:Int):=⟨z.toNat,by omega⟩
  rw[Lib.itoa_nonneg] at hc
  exact .inr (WJ u c hc)
 ·obtain⟨u,rfl⟩:∃ u:Nat,z=-(u:Int):=⟨(-z).toNat,by omega⟩
  rw[Lib.itoa_neg u (by omega),List.mem_cons] at hc
  rcases hc with hc|hc
  ·exact .inl hc
  ·exact .inr (WJ u c hc)
end Go.Proofs.YtocbgldilgemoaaGreatDoor
