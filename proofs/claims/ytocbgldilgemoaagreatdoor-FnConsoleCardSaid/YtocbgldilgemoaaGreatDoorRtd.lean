/- Return words of the reference; the derived word, both. No condition but the bounds. -/
import Derived.Test.YtocbgldilgemoaaGreatDoorRtw
namespace Go.Proofs.YtocbgldilgemoaaGreatDoor
open Go.RowKit
set_option linter.unusedVariables false
set_option maxRecDepth 4000 in
set_option maxHeartbeats 2000000 in
theorem YD (s f:ByteArray) (hs:s.size≤maxLen) (hf:f.size≤maxLen) (w:World) :
  Calls Tryz.prog 173 #[.string s,.string f] w fun e w'=>∃ A c A2 c2,e=.returned (.tuple #[.slice A (ZV s f).length c,.slice A2 (fsL (ZV s f)).length c2])∧Own w' w.heap.size 9 (.slice A (ZV s f).length c) ((ZV s f).map Value.string)∧Own w' w.heap.size 9 (.slice A2 (fsL (ZV s f)).length c2) ((fsL (ZV s f)).map Value.string)∧Below w.heap.size w w':=by
 obtain⟨a,ha⟩:∃ a,Qq s f=a:=⟨_,rfl⟩
 have hpc:=VN s f hs hf w
 rw[ha] at hpc
 have hal:a.length≤401:=by rw[← ha];exact WX s f
 have hat:∀ j x,a[j]? = some x→x≤s.size:=fun j x h=>Zgu (by rw[ha];exact h)
 have halt:∀ j x y,a[j]? = some x→a[j+1]? = some y→x<y:=fun j x y h1 h2=>Zgv (by rw[ha];exact h1) (by rw[ha];exact h2)
 have hra:ZV s f=Zch s a:=by rw[ZV,ha]
 obtain⟨rr,hrr⟩:∃ rr,Zch s a=rr:=⟨_,rfl⟩
 obtain⟨r2,hr2⟩:∃ r2,fsL rr=r2:=⟨_,rfl⟩
 rw[hra,hrr,hr2]
 have HRR:=Hd hrr;have HR2:=Hd hr2;have HAT:=Hd hat;have HLT:=Hd halt;have HPC:=Hd hpc
 obtain⟨n,hn⟩:∃ n,a.length=n:=⟨_,rfl⟩
 rw[hn] at hal
 have HN:=Hd hn
 have hs9:=hs
 unfold maxLen at hs9
 clear hra hrr hr2 hat halt hpc ha hn
 go_enter Tryz.func173,Tryz.ntmps173
 go_wp2_with fail
 refine HPC.o.mono ?_
 rw[HN.o]
 rintro e w1 ⟨A1,c1,rfl,hown,b1⟩
 have z1:=b1.size
 have HO1:=Hd hown
 have hall:=Own.empty (E:=9) (Nat.le_refl w1.heap.size)
 have hall2:Own ((w1.alloc (.cells #[] 9)).alloc (.cells #[] 9)) w.heap.size 9 (.slice (some ⟨w1.heap.size,0,none⟩) 0 0) []:=(hall.lower z1).below ((Below.refl _ _).alloc nlr _)
 have honce:Own ((w1.alloc (.cells #[] 9)).alloc (.cells #[] 9)) w.heap.size 9 (.slice (some ⟨w1.heap.size+1,0,none⟩) 0 0) []:=by
  have h:=Own.empty (w:=w1.alloc (.cells #[] 9)) (E:=9) (B:=w.heap.size) (by simp;omega)
  simpa using h
 have hat2:Own ((w1.alloc (.cells #[] 9)).alloc (.cells #[] 9)) w.heap.size 3 (.slice A1 n c1) (Vp a):=hown.below (((Below.refl _ _).alloc nlr _).alloc (by simp) _)
 have hap1:Ap (.slice (some ⟨w1.heap.size,0,none⟩) 0 0) (.slice A1 n c1):=(Zef hown).symm
 have hap2:Ap (.slice (some ⟨w1.heap.size+1,0,none⟩) 0 0) (.slice A1 n c1):=by
  have h:=(Zef (n:=0) (c:=0) (hown.below ((Below.refl _ _).alloc nlr (.cells #[] 9)))).symm
  simpa using h
 have hap3:Ap (.slice (some ⟨w1.heap.size,0,none⟩) 0 0) (.slice (some ⟨w1.heap.size+1,0,none⟩) 0 0):=by
  have h:=Zef (n:=0) (c:=0) hall
  simpa using h
 have b1':Below w.heap.size w ((w1.alloc (.cells #[] 9)).alloc (.cells #[] 9)):=b1.trans (((Below.refl _ _).alloc z1 _).alloc (by simp;omega) _)
 have H1:=Hd hall2;have H2:=Hd honce;have H3:=Hd hat2;have H4:=Hd hap1;have H5:=Hd hap2;have H6:=Hd hap3
 clear hown hall hall2 honce hat2 hap1 hap2 hap3 b1
 go_wp2_with fail
 go_loopw [7,8,9,10] (fun v v2 i _ wr=>∃ j k m:Nat,∃ A c A2 c2,1≤j∧j≤k+1∧k+1≤j∧(j≤n∨j=1)∧m≤k∧i=.int .i64 j∧v=.slice A k c∧v2=.slice A2 m c2∧(fsL (wdT s a k)).length=m∧Own wr w.heap.size 9 (.slice A k c) ((wdT s a k).map Value.string)∧Own wr w.heap.size 9 (.slice A2 m c2) ((fsL (wdT s a k)).map Value.string)∧Own wr w.heap.size 3 (.slice A1 n c1) (Vp a)∧Ap (.slice A k c) (.slice A1 n c1)∧Ap (.slice A2 m c2) (.slice A1 n c1)∧Ap (.slice A k c) (.slice A2 m c2)∧Below w.heap.size w wr) (fun _ _ i _ _=>500 - (intOf i).toNat)
 case atStart=>exact⟨1,0,0,_,_,_,_,by omega,by omega,by omega,.inr rfl,by omega,rfl,rfl,rfl,rfl,H1.o,H2.o,H3.o,H4.o,H5.o,H6.o,b1'⟩
 case round =>
  clear b1' z1 HO1 H1 H2 H3 H4 H5 H6
  obtain⟨j,k,m,A,c,A2,c2,hj1,hjk,hkj,hjn,hmk,rfl,rfl,rfl,hlm,hall,honce,hoa,hap1,hap2,hap3,hbel⟩:=hrel
  have HO:=Hd hall;have HO2:=Hd honce;have HOA:=Hd hoa;have HAP1:=Hd hap1;have HAP2:=Hd hap2;have HAP3:=Hd hap3;have HLM:=Hd hlm
  clear hall honce hoa hap1 hap2 hap3 hlm
  by_cases hlt:j<n
  ·obtain⟨x,hx⟩:=Zc (l:=a) (k:=k) (by rw[HN.o];omega)
   obtain⟨y,hy⟩:=Zc (l:=a) (k:=k+1) (by rw[HN.o];omega)
   have hxy:=HLT.o k x y hx hy
   have hys:=HAT.o (k+1) y hy
   obtain⟨ga,rfl,_,_,hcx,_,_⟩:=HOA.o.store (k:=k) (by rw[QM,HN.o];omega)
   obtain⟨ga',hga,_,_,hcy,_,_⟩:=HOA.o.store (k:=k+1) (by rw[QM,HN.o];omega)
   injection hga with hga
   injection hga with hga
   subst hga
   rw[XO hx] at hcx
   rw[XO hy] at hcy
   have hjq:k+1=j:=by omega
   have m1:IntKind.i64.wrap ((j:Int) - 1)=(k:Int):=by rw[IntWalk.i64_in _ (by omega)];omega
   have m2:(k:Int)<(n:Int):=by omega
   rw[hjq] at hcy
   have HW:=Hd (WQ (w:=s) hx hy)
   have hfs:fsL (wdT s a (k+1))=fsS (fsL (wdT s a k)) (s.extract x y):=by rw[WQ hx hy,ZdX]
   have HFS:=Hd hfs
   have g1:(x:Int)≤(y:Int):=by omega
   have g2:(y:Int)≤(s.size:Int):=by omega
   have hl3:((wdT s a k).map Value.string).length=k:=by rw[List.length_map,Yw]
   have HL3:=Hd hl3
   have hk9:k<4294967296:=by omega
   clear hx hy hjq hl3 hfs
   go_wp2_with fail
   go_quiet (fail)
   have HOQ:=Hd (HO.o.dr ((Dr.refl _).drewN nq))
   have HOQ2:=Hd (HO2.o.dr ((Dr.refl _).drewN nq))
   have HOQA:=Hd (HOA.o.dr ((Dr.refl _).drewN nq))
   have hbelq:=hbel.trans ((Dr.refl _).drewN nq).below
   have hsz:=hbelq.size
   clear m1 m2 hcx hcy
   go_wp2_with (at_builtin;refine VP rfl (.tmp 33) (.tmp 35) 23 rfl _ 16 Tryz.underlying23 Zn rfl rfl HOQ.o _ rfl rfl k HL3.o hk9 (by decide) hsz ?_)
   intro A' c' w3 hown3 hbel3 hsz3 hbes3
   rw[show (wdT s a k).map Value.string++[Value.string (s.extract x y)]=(wdT s a (k+1)).map Value.string from by rw[HW.o,List.map_append];rfl] at hown3
   have HO3:=Hd hown3
   have HB1:=Hd (hbes3 _ _ _ _ HOQ2.o HAP3.o)
   have HB2:=Hd (hbes3 _ _ _ _ HOQA.o HAP1.o)
   have hbel4:=hbelq.trans hbel3
   clear hown3 hbes3
   have hct:=ZaT (fsL (wdT s a k)) (s.extract x y) A2 c2 _ w3 (by rw[HLM.o];omega) HB1.o.1.reads
   rw[HLM.o] at hct
   obtain⟨z,hz⟩:∃ z,Yr (fsL (wdT s a k)) (s.extract x y)=z:=⟨_,rfl⟩
   rw[hz] at hct
   have hzh:Zhd (fsL (wdT s a k)) (s.extract x y)=decide (0≤z):=by rw[← hz];rfl
   have HZH:=Hd hzh;have HCT:=Hd hct
   clear hct hz hzh
   by_cases hz0:0≤z
   ·have ht:fsL (wdT s a (k+1))=fsL (wdT s a k):=by rw[HFS.o,fsS,HZH.o,if_pos (decide_eq_true hz0)]
    have HT:=Hd ht
    clear ht
    go_wp2_with fail
    refine HCT.o.mono ?_
    rintro e w4 ⟨rfl,d4⟩
    go_wp2_with fail
    go_roundw
    case rel=>exact⟨j+1,k+1,m,A',c',A2,c2,by omega,by omega,by omega,.inl (by omega),by omega,by go_num,rfl,rfl,by rw[HT.o];exact HLM.o,HO3.o.dr d4,by rw[HT.o];exact HB1.o.1.dr d4,HB2.o.1.dr d4,HB2.o.2,HAP2.o,HB1.o.2,hbel4.trans d4.below⟩
    case measure=>simp[intOf];omega
   ·have ht:fsL (wdT s a (k+1))=fsL (wdT s a k)++[s.extract x y]:=by rw[HFS.o,fsS,HZH.o,decide_eq_false hz0];rfl
    have HT:=Hd ht
    have hzb:decide (z<0)=true:=decide_eq_true (by omega)
    have hl5:((fsL (wdT s a k)).map Value.string).length=m:=by rw[List.length_map,HLM.o]
    have HL5:=Hd hl5
    have hm9:m<4294967296:=by omega
    clear ht hl5
    go_wp2_with fail
    refine HCT.o.mono ?_
    rintro e w4 ⟨rfl,d4⟩
    have hbel5:=hbel4.trans d4.below
    have hsz5:=hbel5.size
    have HQ2:=Hd (HB1.o.1.dr d4)
    go_wp2_with (at_builtin;refine VP rfl (.tmp 41) (.tmp 43) 23 rfl _ 16 Tryz.underlying23 Zn rfl rfl HQ2.o _ rfl rfl m HL5.o hm9 (by decide) hsz5 ?_)
    intro A6 c6 w6 hown6 hbel6 hsz6 hbes6
    rw[← List.map_singleton,← List.map_append,← HT.o] at hown6
    have HO6:=Hd hown6
    have HB3:=Hd (hbes6 _ _ _ _ (HO3.o.dr d4) HB1.o.2.symm)
    have HB4:=Hd (hbes6 _ _ _ _ (HB2.o.1.dr d4) HAP2.o)
    clear hown6 hbes6
    go_wp2_with fail
    go_roundw
    case rel=>exact⟨j+1,k+1,m+1,A',c',A6,c6,by omega,by omega,by omega,.inl (by omega),by omega,by go_num,rfl,rfl,by rw[HT.o,List.length_append,HLM.o];rfl,HB3.o.1,HO6.o,HB4.o.1,HB2.o.2,HB4.o.2,HB3.o.2.symm,hbel5.trans hbel6⟩
    case measure=>simp[intOf];omega
  ·have hkn:k=n - 1:=by omega
   have hfin:wdT s a k=rr:=by rw[← HRR.o,Zch,HN.o,hkn]
   have hrl:rr.length=k:=by rw[← hfin,Yw]
   have hr2:fsL (wdT s a k)=r2:=by rw[hfin,HR2.o]
   have hr2l:r2.length=m:=by rw[← hr2];exact HLM.o
   have HF:=Hd hfin;have HRL:=Hd hrl;have HF2:=Hd hr2;have HRL2:=Hd hr2l
   have hjb:decide ((j:Int)<(n:Int))=false:=by simp;omega
   clear hfin hrl hkn hr2 hr2l
   go_wp2_with fail
   go_ret2
   exact⟨A,c,A2,c2,by rw[HRL.o,HRL2.o];rfl,by rw[HRL.o,← HF.o];exact HO.o,by rw[HRL2.o,← HF2.o];exact HO2.o,hbel⟩
theorem JW (s f:ByteArray) (hs:s.size≤maxLen) (hf:f.size≤maxLen) (w:World) :
  Calls Tryz.prog 160 #[.string s,.string f] w fun e w'=>∃ A c,e=.returned (.slice A (fsL (ZV s f)).length c)∧Own w' w.heap.size 9 (.slice A (fsL (ZV s f)).length c) ((fsL (ZV s f)).map Value.string)∧Below w.heap.size w w':=by
 go_enter Tryz.func160,Tryz.ntmps160
 go_wp2_with fail
 refine (YD s f hs hf _).mono ?_
 rintro e w1 ⟨A,c,A2,c2,rfl,o1,o2,b1⟩
 have HO:=Hd o2;clear o1 o2
 go_wp2_with fail
 go_ret
 exact⟨A2,c2,rfl,HO.o,b1⟩
end Go.Proofs.YtocbgldilgemoaaGreatDoor
