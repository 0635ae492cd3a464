/- Return words, both: the walks. No condition but the bounds. -/
import Derived.Test.YtocbgldilgemoaaGreatDoorRet
namespace Go.Proofs.YtocbgldilgemoaaGreatDoor
set_option maxRecDepth 4000
set_option maxHeartbeats 1000000
open Go.RowKit
set_option linter.unusedVariables false
theorem Zk5 {s f:ByteArray} (h:VJ s f=true):Qq s f=pls s f:=by rw[Qq,if_pos h]
theorem WX (s f:ByteArray):(Qq s f).length≤401:=by
 unfold Qq
 split
 ·rename_i h
  unfold VJ at h
  simp only[Bool.and_eq_true] at h
  have:=ZkU s f
  have:=Zb h.1.1
  omega
 ·simp
theorem Zgu {s f:ByteArray} {j x:Nat} (h:(Qq s f)[j]? = some x):x≤s.size:=by
 unfold Qq at h
 split at h
 ·exact ZlI h
 ·simp at h
theorem Zgv {s f:ByteArray} {j x y:Nat} (hx:(Qq s f)[j]? = some x) (hy:(Qq s f)[j+1]? = some y):x<y:=by
 unfold Qq at hx hy
 split at hx
 ·rename_i h
  rw[if_pos h] at hy
  exact ZlJ hx hy
 ·simp at hx
def ZV (s f:ByteArray):List ByteArray:=Zch s (Qq s f)
theorem Jv (s f:ByteArray):(ZV s f).length≤400:=by
 have:=WX s f
 unfold ZV Zch;rw[Yw];omega
theorem Zhw {s f x:ByteArray} (h:x∈ZV s f):x.size≤s.size:=ZjH h
theorem VO (s f:ByteArray) (hok:VJ s f=true) (w:World) :
  Calls Tryz.prog 202 #[.string s,.string f] w fun e w'=>∃ A c,e=.returned (.slice A (ZV s f).length c)∧Own w' w.heap.size 9 (.slice A (ZV s f).length c) ((ZV s f).map Value.string)∧Below w.heap.size w w':=by
 have hok2:=hok
 unfold VJ at hok2
 simp only[Bool.and_eq_true,Bool.not_eq_true',decide_eq_false_iff_not] at hok2
 have hs4:=Zb hok2.1.1
 have hf4:=Zb hok2.1.2
 have hf1:1≤f.size:=by have:=hok2.2;omega
 obtain⟨a,ha⟩:∃ a,Qq s f=a:=⟨_,rfl⟩
 have hpc:=Yx s f (by omega) (by omega) hf1 (w.alloc (.cells #[] 9))
 rw[← Zk5 hok,ha] at hpc
 have hal:a.length≤401:=by rw[← ha];exact WX s f
 have hat:∀ j x,a[j]? = some x→x≤s.size:=fun j x h=>Zgu (by rw[ha];exact h)
 have halt:∀ j x y,a[j]? = some x→a[j+1]? = some y→x<y:=fun j x y h1 h2=>Zgv (by rw[ha];exact h1) (by rw[ha];exact h2)
 have hra:ZV s f=Zch s a:=by rw[ZV,ha]
 obtain⟨rr,hrr⟩:∃ rr,Zch s a=rr:=⟨_,rfl⟩
 rw[hra,hrr]
 have HRR:=Hd hrr;have HAT:=Hd hat;have HLT:=Hd halt;have HPC:=Hd hpc
 obtain⟨n,hn⟩:∃ n,a.length=n:=⟨_,rfl⟩
 rw[hn] at hal
 have HN:=Hd hn
 clear hra hrr hat halt hpc ha hok hok2 hn
 go_enter Tryz.func202,Tryz.ntmps202
 go_wp2_with fail
 refine HPC.o.mono ?_
 rw[HN.o]
 rintro e w1 ⟨A1,c1,rfl,hown,b1⟩
 have b1':Below w.heap.size w w1:=((Below.refl _ _).alloc nlr _).trans (b1.mono (by simp))
 have hz1:w.heap.size<w1.heap.size:=by have:=b1.size;simp at this;omega
 have HO1:=Hd hown
 have ho0:Own w1 w.heap.size 9 (.slice (some ⟨w.heap.size,0,none⟩) 0 0) []:=(Own.empty nlr).below b1
 have hap0:Ap (.slice (some ⟨w.heap.size,0,none⟩) 0 0) (.slice A1 n c1):=ZhE hown (by simp)
 have HO0:=Hd ho0;have HAP0:=Hd hap0
 clear hown ho0 hap0 b1
 go_wp2_with fail
 go_loopw [5,7] (fun v i wr=>∃ j k:Nat,∃ A c,1≤j∧j≤k+1∧k+1≤j∧(j≤n∨j=1)∧i=.int .i64 j∧v=.slice A k c∧Own wr w.heap.size 9 (.slice A k c) ((wdT s a k).map Value.string)∧Own wr (w.heap.size+1) 3 (.slice A1 n c1) (Vp a)∧Ap (.slice A k c) (.slice A1 n c1)∧Below w.heap.size w wr) (fun _ i _=>500 - (intOf i).toNat)
 case atStart=>exact⟨1,0,_,_,by omega,by omega,by omega,.inr rfl,rfl,rfl,HO0.o,by have:=HO1.o;simpa using this,HAP0.o,b1'⟩
 case round =>
  clear b1' hz1
  obtain⟨j,k,A,c,hj1,hjk,hkj,hjn,rfl,rfl,hown,hoa,hap,hbel⟩:=hrel
  have HO:=Hd hown;have HOA:=Hd hoa;have HAP:=Hd hap
  clear hown hoa hap
  by_cases hlt:j<n
  ·obtain⟨x,hx⟩:=Zc (l:=a) (k:=k) (by rw[HN.o];omega)
   obtain⟨y,hy⟩:=Zc (l:=a) (k:=k+1) (by rw[HN.o];omega)
   have hxy:=HLT.o k x y hx hy
   have hys:=HAT.o (k+1) y hy
   obtain⟨ga,rfl,_,_,hcx,_,_⟩:=HOA.o.store (k:=k) (by rw[QM,HN.o];omega)
   obtain⟨ga',hga,_,_,hcy,_,_⟩:=HOA.o.store (k:=k+1) (by rw[QM,HN.o];omega)
   injection hga with hga
   injection hga with hga
   subst hga
   rw[XO hx] at hcx
   rw[XO hy] at hcy
   have hjq:k+1=j:=by omega
   have m1:IntKind.i64.wrap ((j:Int) - 1)=(k:Int):=by rw[IntWalk.i64_in _ (by omega)];omega
   have m2:(k:Int)<(n:Int):=by omega
   rw[hjq] at hcy
   have HW:=Hd (WQ (w:=s) hx hy)
   have g1:(x:Int)≤(y:Int):=by omega
   have g2:(y:Int)≤(s.size:Int):=by omega
   have hl3:((wdT s a k).map Value.string).length=k:=by rw[List.length_map,Yw]
   have HL3:=Hd hl3
   have hk9:k<4294967296:=by omega
   have hsz:=hbel.size
   clear hx hy hjq hl3
   go_wp2_with fail
   go_region_law (refine Za7 rfl (.tmp 18) (.tmp 30) 23 rfl _ 16 Tryz.underlying23 Zn rfl (by rfl) HO.o rfl (by rfl) k HL3.o hk9 (by decide) hsz ?_;intro A3 c3 w4 hown4 hbel4 hsz4 hbes)
   all_goals
    clear m1 m2
    rw[show (wdT s a k).map Value.string++[Value.string (s.extract x y)]=(wdT s a (k+1)).map Value.string from by rw[HW.o,List.map_append];rfl] at hown4
    have HO4:=Hd hown4
    have hb:=hbes _ _ _ _ HOA.o HAP.o
    have HB1:=Hd hb
    clear hown4 hb hbes
    go_wp2_with fail
    go_roundw
    case rel=>exact⟨j+1,k+1,A3,c3,by omega,by omega,by omega,.inl (by omega),by go_num,rfl,HO4.o,HB1.o.1,HB1.o.2,hbel.trans hbel4⟩
    case measure=>simp[intOf];omega
  ·have hkn:k=n - 1:=by omega
   have hfin:wdT s a k=rr:=by rw[← HRR.o,Zch,HN.o,hkn]
   have hrl:rr.length=k:=by rw[← hfin,Yw]
   have HF:=Hd hfin;have HRL:=Hd hrl
   have hjb:decide ((j:Int)<(n:Int))=false:=by simp;omega
   clear hfin hrl hkn
   go_wp2_with fail
   go_ret
   exact⟨A,c,by rw[HRL.o];rfl,by rw[HRL.o,← HF.o];exact HO.o,hbel⟩
theorem Zff (l:List ByteArray) (A:Option Addr) (c B:Nat) (w:World) (hB:B≤w.heap.size) (hl:l.length≤1000000) (hrd:Rds w B A (l.map Value.string)) :
  Calls Tryz.prog 253 #[.slice A l.length c] w fun e w'=>∃ A' c',e=.returned (.slice A' (fsL l).length c')∧Own w' w.heap.size 9 (.slice A' (fsL l).length c') ((fsL l).map Value.string)∧Below w.heap.size w w':=by
 obtain⟨rr,hrr⟩:∃ rr,fsL l=rr:=⟨_,rfl⟩
 have HRR:=Hd hrr;have HR:=Hd hrd
 rw[hrr];clear hrr hrd
 go_enter Tryz.func253,Tryz.ntmps253
 go_wp2_with fail
 go_loopw [3,5,9] (fun v _ i wr=>∃ k n:Nat,∃ A c,k≤l.length∧n≤k∧i=.int .i64 k∧(fsL (l.take k)).length=n∧v=.slice A n c∧Own wr w.heap.size 9 (.slice A n c) ((fsL (l.take k)).map Value.string)∧Below w.heap.size w wr) (fun _ _ i _=>l.length - (intOf i).toNat)
 case atStart=>exact⟨0,0,_,_,by omega,by omega,rfl,rfl,rfl,Own.empty nlr,(Below.refl _ _).alloc nlr _⟩
 case round =>
  obtain⟨k,n,A1,c1,hk,hnk,rfl,hln,rfl,hown,hbel⟩:=hrel
  have HO:=Hd hown;have HLN:=Hd hln;clear hown hln
  by_cases hlt:k<l.length
  ·obtain⟨x,hx⟩:=Zc (l:=l) (k:=k) hlt
   obtain⟨ad,rfl,hc⟩:=(HR.o.below hbel hB).at_ (Zs Value.string hx)
   have HT:=Hd (ZjI hx)
   have hct:=ZaC (fsL (l.take k)) x A1 c1 _ wr (by rw[HLN.o];omega) HO.o.reads
   rw[HLN.o] at hct
   clear hx
   cases hh:Zhd (fsL (l.take k)) x
   ·rw[hh] at hct
    have HCT:=Hd hct
    have ht:fsL (l.take (k+1))=fsL (l.take k)++[x]:=by rw[HT.o,fsS,hh];rfl
    have HT2:=Hd ht
    clear hct hh ht
    have hn9:n<4294967296:=by omega
    have hl3:((fsL (l.take k)).map Value.string).length=n:=by rw[List.length_map,HLN.o]
    have HL3:=Hd hl3;clear hl3
    go_wp2_with fail
    refine HCT.o.mono ?_
    rintro e w2 ⟨rfl,d2⟩
    have HO1:=Hd (HO.o.dr d2)
    have hbel1:=hbel.trans d2.below
    have hsz:=hbel1.size
    go_wp2_with (at_builtin;refine Zp rfl (.tmp 17) (.tmp 19) 23 rfl _ 16 Tryz.underlying23 Zn rfl rfl HO1.o _ rfl rfl n HL3.o hn9 (by decide) hsz ?_)
    intro A' c' w3 hown3 hbel3 hsz3
    rw[← List.map_singleton,← List.map_append,← HT2.o] at hown3
    have HO3:=Hd hown3;clear hown3
    go_wp2_with fail
    go_roundw
    case rel=>exact⟨k+1,n+1,A',c',by omega,by omega,by go_num,by rw[HT2.o,List.length_append,HLN.o];rfl,rfl,HO3.o,hbel1.trans hbel3⟩
    case measure=>simp[intOf];omega
   ·rw[hh] at hct
    have HCT:=Hd hct
    have ht:fsL (l.take (k+1))=fsL (l.take k):=by rw[HT.o,fsS,hh];rfl
    have HT2:=Hd ht
    clear hct hh ht
    go_wp2_with fail
    refine HCT.o.mono ?_
    rintro e w2 ⟨rfl,d2⟩
    go_wp2_with fail
    go_roundw
    case rel=>exact⟨k+1,n,A1,c1,by omega,by omega,by go_num,by rw[HT2.o];exact HLN.o,rfl,by rw[HT2.o];exact HO.o.dr d2,hbel.trans d2.below⟩
    case measure=>simp[intOf];omega
  ·have hkl:l.take k=l:=List.take_of_length_le (by omega)
   rw[hkl,HRR.o] at HO HLN
   clear hkl
   go_wp2_with fail
   go_ret
   exact⟨A1,c1,by rw[HLN.o];rfl,by rw[HLN.o];exact HO.o,hbel⟩
theorem Y3 {s f:ByteArray} (h:0<(Qq s f).length):VJ s f=true:=by
 unfold Qq at h
 split at h
 ·assumption
 ·simp at h
theorem Zfg {s f:ByteArray} (h:¬ 0<(Qq s f).length):ZV s f=[]:=by
 have:Qq s f=[]:=List.eq_nil_of_length_eq_zero (by omega)
 unfold ZV Zch;rw[this];rfl
theorem Q6 (s f:ByteArray) (hs:s.size≤maxLen) (hf:f.size≤maxLen) (w:World) :
  Calls Tryz.prog 200 #[.string s,.string f] w fun e w'=>∃ A c,e=.returned (.slice A (fsL (ZV s f)).length c)∧Own w' w.heap.size 9 (.slice A (fsL (ZV s f)).length c) ((fsL (ZV s f)).map Value.string)∧Below w.heap.size w w':=by
 have hc:=Yy s f hs hf w
 by_cases h:0<(Qq s f).length
 ·rw[decide_eq_true h] at hc
  have hok:=Y3 h
  have HC:=Hd hc;clear hc h
  have hrl:=Jv s f
  go_enter Tryz.func200,Tryz.ntmps200
  go_wp2_with fail
  refine HC.o.mono ?_
  rintro e w1 ⟨rfl,b1⟩
  go_wp2_with fail
  refine (VO s f hok _).mono ?_
  rintro e w2 ⟨A2,c2,rfl,o2,b2⟩
  have HO2:=Hd o2;clear o2
  go_wp2_with fail
  refine (Zff (ZV s f) A2 c2 _ _ nlr (by omega) HO2.o.reads).mono ?_
  rintro e w3 ⟨A3,c3,rfl,o3,b3⟩
  have HO3:=Hd o3;clear o3
  go_wp2_with fail
  go_ret
  have z1:=b1.size
  have z2:=b2.size
  exact⟨A3,c3,rfl,HO3.o.lower (by omega),(b1.trans (b2.mono z1)).trans (b3.mono (by omega))⟩
 ·rw[decide_eq_false h] at hc
  have HN:=Hd (Zfg h)
  have HC:=Hd hc;clear hc h
  go_enter Tryz.func200,Tryz.ntmps200
  go_wp2_with fail
  refine HC.o.mono ?_
  rintro e w1 ⟨rfl,b1⟩
  go_wp2_with fail
  go_ret
  exact⟨none,0,by rw[HN.o];rfl,by rw[HN.o];exact Own.nil,b1⟩
end Go.Proofs.YtocbgldilgemoaaGreatDoor
