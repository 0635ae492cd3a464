/- The laws' marks of strings: the text of a mark; marks laid, marks held. No condition but the bounds. -/
import Derived.Test.YtocbgldilgemoaaGreatDoorM1
namespace Go.Proofs.YtocbgldilgemoaaGreatDoor
set_option maxRecDepth 4000
set_option maxHeartbeats 400000
open Go.RowKit
set_option linter.unusedVariables false
def ZaA (k:Nat):List UInt8:=if h:k=0 then [] else ZaA (k / 10)++[UInt8.ofNat (48+k % 10)]
termination_by k
decreasing_by omega
theorem ZaR:ZaA 0=[]:=by rw[ZaA];rfl
theorem ZdH {k:Nat} (h:k≠0):ZaA k=ZaA (k / 10)++[UInt8.ofNat (48+k % 10)]:=by rw[ZaA,dif_neg h]
theorem ZiN (k:Nat):(ZaA k).length≤k:=by
 induction k using Nat.strongRecOn with
 | ind k ih =>
  by_cases h:k=0
  ·subst h;rw[ZaR];simp
  ·rw[ZdH h]
   have:=ih (k / 10) (by omega)
   simp;omega
def Wy (k:Nat):ByteArray:=Zd (109 :: ZaA k)
theorem Yn (a b:List UInt8):Zd a++Zd b=Zd (a++b):=by
 apply ZH
 simp[Zd]
theorem Yo (k:Nat) (h1:1≤k) (h2:k≤1099511627776) (w:World) :
  Calls Tryz.prog 184 #[.int .i64 k] w fun e w'=>e=.returned (.string (Wy k))∧Below w.heap.size w w':=by
 go_enter Tryz.func184,Tryz.ntmps184
 go_wp2_with fail
 go_loopw [0,3] (fun x o wr=>∃ j:Nat,∃ l:List UInt8,j≤k∧x=.int .i64 j∧o=.string (Zd l)∧ZaA j++l=ZaA k∧Below w.heap.size w wr) (fun x _ _=>(intOf x).toNat)
 case atStart=>exact⟨k,[],by omega,rfl,rfl,by simp,Below.refl _ _⟩
 case round =>
  obtain⟨j,l,hj,rfl,rfl,hd,hbel⟩:=hrel
  have hsl:(Zd l).size≤1099511627776:=by
   have h1:=ZiN k
   rw[← hd,List.length_append] at h1
   rw[Zh];omega
  have hsm:(⟨#[109]⟩:ByteArray).size=1:=rfl
  have HD:=Hd hd;clear hd
  by_cases h0:j=0
  ·subst h0
   go_wp2_with fail
   go_ret
   refine⟨?_,hbel⟩
   rw[Wy,← HD.o,ZaR]
   have:=Yn [109] l
   simpa[Zd] using this
  ·have hpos:0<j:=by omega
   have HP:=Hd (ZdH h0);clear h0
   have hdv:((UInt8.ofNat (48+j % 10)).toNat:Int)=48+(j:Int) % 10:=by
    rw[UInt8.toNat_ofNat'];omega
   obtain⟨d,hdd⟩:∃ d,UInt8.ofNat (48+j % 10)=d:=⟨_,rfl⟩
   rw[hdd] at hdv HP
   have hcv:(convert 22 9 (.slice (some ⟨wr.heap.size,0,none⟩) 1 1)).run Tryz.prog (wr.alloc (.cells #[.int .u8 d.toNat] 5))=.ok (.string (Zd [d])) (wr.alloc (.cells #[.int .u8 d.toNat] 5)) :=
    Rds.conv (l:=[d]) (Own.one (B:=0) (E:=5) (w:=wr) (Nat.zero_le _)).reads rfl 22 9 5 1 Tryz.underlying22 Tryz.underlying5 Tryz.underlying9
   have q1:Int.tmod (j:Int) 10=(j:Int) % 10:=by rw[Int.tmod_eq_emod_of_nonneg (by omega)]
   have q2:Int.tdiv (j:Int) 10=((j / 10:Nat):Int):=by rw[Int.tdiv_eq_ediv_of_nonneg (by omega)];omega
   have q3:IntKind.i64.wrap (48+(j:Int) % 10)=48+(j:Int) % 10:=IntWalk.i64_in _ (by omega)
   have q4:IntKind.u8.wrap (48+(j:Int) % 10)=(d.toNat:Int):=by rw[IntWalk.u8_in _ (by omega)];omega
   have hsd:(Zd [d]).size=1:=rfl
   have HDD:=Hd hdd;clear hdd hdv
   go_wp2_with fail
   go_roundw
   case rel=>exact⟨j / 10,d :: l,by omega,by rw[show ((j / 10:Nat):Int)=(j:Int) / 10 from by omega],by rw[Yn];rfl,by rw[← HD.o,HP.o,List.append_assoc];rfl,hbel.trans ((Below.refl _ _).alloc hbel.size _)⟩
   case measure=>simp[intOf];omega
def mtx (m n:Nat):List ByteArray:=(List.range n).map fun i=>Wy (m+i)
theorem Wz (m n:Nat):(mtx m n).length=n:=by simp[mtx]
theorem ZiO (m n i:Nat) (h:i<n):(mtx m n)[i]? = some (Wy (m+i)):=by simp[mtx,h]
theorem ZiP (xs:List ByteArray) (m:Nat) (k:Nat) (hlt:k<xs.length):((mtx m xs.length).take k++xs.drop k).set k (Wy (m+k))=(mtx m xs.length).take (k+1)++xs.drop (k+1):=by
 have hl:((mtx m xs.length).take k).length=k:=by simp[Wz];omega
 rw[List.set_append_right _ _ (by omega),hl,Nat.sub_self,List.take_add_one,ZiO _ _ _ hlt,List.drop_eq_getElem_cons hlt,List.set_cons_zero]
 rw[Option.toList_some,List.append_assoc,List.singleton_append]
theorem Xx (xs:List ByteArray) (A:Option Addr) (c B m:Nat) (w:World) (hn:xs.length≤4294967296) (hm1:1≤m) (hm:m≤4294967296) (hown:Own w B 9 (.slice A xs.length c) (xs.map Value.string)) (hBw:B≤w.heap.size) :
  Calls Tryz.prog 107 #[.slice A xs.length c,.int .i64 m] w fun e w'=>e=.returned (.int .i64 ((m+xs.length:Nat):Int))∧Own w' B 9 (.slice A xs.length c) ((mtx m xs.length).map Value.string)∧Below B w w'∧w.grownBy w' (Value.slice A xs.length c).ownBlock:=by
 have hml:=Wz m xs.length
 have HM:=Hd hml;clear hml
 have HO:=Hd hown;clear hown
 go_enter Tryz.func107,Tryz.ntmps107
 go_wp2_with fail
 go_loopw [1,5] (fun x i wr=>∃ k:Nat,k≤xs.length∧i=.int .i64 k∧x=.int .i64 ((m:Int)+k)∧Own wr B 9 (.slice A xs.length c) (((mtx m xs.length).take k++xs.drop k).map Value.string)∧Below B w wr∧w.grownBy wr (Value.slice A xs.length c).ownBlock) (fun _ i _=>xs.length - (intOf i).toNat)
 case atStart=>exact⟨0,by omega,rfl,by go_num,by simpa using HO.o,Below.refl _ _,World.grownBy.refl _ _⟩
 case round =>
  obtain⟨k,hk,rfl,rfl,hown,hbel,hgr⟩:=hrel
  by_cases hlt:k<xs.length
  ·have hB2:=hbel.size
   have HO2:=Hd hown;clear hown
   go_wp2_with fail
   refine (show Calls Tryz.prog 184 #[.int .i64 ((m:Int)+k)] wr _ from ((by rw[show ((m:Int)+k)=((m+k:Nat):Int) from by omega];exact Yo (m+k) (by omega) (by omega) wr:Calls Tryz.prog 184 #[.int .i64 ((m:Int)+k)] wr (fun e w'=>e=.returned (.string (Wy (m+k)))∧Below wr.heap.size wr w')).mono ?_))
   rintro e w2 ⟨rfl,b2⟩
   have hown2:=HO2.o.below b2
   have hlen:(((mtx m xs.length).take k++xs.drop k).map Value.string).length=xs.length:=by simp[HM.o];omega
   obtain⟨g,rfl,hBg,hgs,hcell,hfr,hst⟩:=hown2.store (k:=k) (by rw[hlen];exact hlt)
   obtain⟨old,hold⟩:=Zc (l:=(((mtx m xs.length).take k++xs.drop k).map Value.string)) (k:=k) (by rw[hlen];exact hlt)
   rw[hold] at hcell
   have hst1:=hst (.string (Wy (m+k)))
   have hset:(((mtx m xs.length).take k++xs.drop k).map Value.string).set k (.string (Wy (m+k)))=((mtx m xs.length).take (k+1)++xs.drop (k+1)).map Value.string:=by
    rw[← List.map_set,ZiP xs m k hlt]
   rw[hset] at hst1
   have HST:=Hd hst1
   clear hst hst1 hset hlen hown2 hold
   go_wp2_with fail
   go_roundw
   case rel=>exact⟨k+1,by omega,by go_num,by go_num,HST.o.1,(hbel.trans (b2.mono (by omega))).trans HST.o.2.1,QF (QF hgr ⟨b2.os,b2.tape,b2.output,b2.size,fun i hi _=>b2.block i hi⟩) HST.o.2.2⟩
   case measure=>simp[intOf];omega
  ·have hkn:xs.length≤k:=by omega
   have hkn2:k≤xs.length:=by omega
   have h1:(mtx m xs.length).take k++xs.drop k=mtx m xs.length:=by
    rw[List.take_of_length_le (by rw[HM.o];omega),List.drop_eq_nil_of_le (by omega),List.append_nil]
   rw[h1] at hown
   clear h1
   go_wp2_with fail
   go_ret
   exact⟨Qp (by omega),hown,hbel,hgr⟩
theorem Xy (n:Nat) (A:Option Addr) (c B m:Nat) (w:World) (hn:n≤4294967296) (hm1:1≤m) (hm:m≤4294967296) (hBw:B≤w.heap.size) (hrd:Rds w B A ((mtx m n).map Value.string)) :
  Calls Tryz.prog 108 #[.slice A n c,.int .i64 m] w fun e w'=>e=.returned (.int .i64 ((m+n:Nat):Int))∧Below w.heap.size w w':=by
 have HR:=Hd hrd;clear hrd
 go_enter Tryz.func108,Tryz.ntmps108
 go_wp2_with fail
 go_loopw [1,5] (fun x i wr=>∃ k:Nat,k≤n∧i=.int .i64 k∧x=.int .i64 ((m:Int)+k)∧Below w.heap.size w wr) (fun _ i _=>n - (intOf i).toNat)
 case atStart=>exact⟨0,by omega,rfl,by go_num,Below.refl _ _⟩
 case round =>
  obtain⟨k,hk,rfl,rfl,hbel⟩:=hrel
  by_cases hlt:k<n
  ·have hB2:=hbel.size
   obtain⟨ad,hA,hb,hc⟩:=(HR.o.below hbel hBw) k _ (Zs Value.string (ZiO m n k hlt))
   subst hA
   have hee:((Wy (m+k)).toList==(Wy (m+k)).toList)=true:=by simp
   have HB:=Hd hb;clear hb
   have HC:∀ w0,Calls Tryz.prog 184 #[.int .i64 ((m:Int)+k)] w0 (fun e w'=>e=.returned (.string (Wy (m+k)))∧Below w0.heap.size w0 w'):=by
    intro w0
    rw[show ((m:Int)+k)=((m+k:Nat):Int) from by omega];exact Yo (m+k) (by omega) (by omega) w0
   have HCC:=Hd HC;clear HC
   go_wp2_with fail
   go_region_with (go_at_call 184;refine (HCC.o _).mono ?_;rintro e w2 ⟨rfl,b2⟩;have hc2:=(b2.cell (p:=ad.add k) (by rw[Vx];have:=HB.o;simp;omega)).trans hc)
   all_goals
    have bb:Below w.heap.size wr w2:=(((Dr.refl wr).drew).below).trans (b2.mono (by simp;omega))
    clear hc hc2 b2
    go_wp2_with fail
    go_roundw
    case rel=>exact⟨k+1,by omega,by go_num,by go_num,hbel.trans bb⟩
    case measure=>simp[intOf];omega
  ·have hkn:n≤k:=by omega
   have hkn2:k≤n:=by omega
   go_wp2_with fail
   go_ret
   exact⟨Qp (by omega),hbel⟩
end Go.Proofs.YtocbgldilgemoaaGreatDoor
