/- Texts of this claim, one behind the other: Grw, Dto, Rtl, Apy, Rtm, Pap, Cps, Mec, Rtn. No condition but what each says. -/
import Derived.Test.YtocbgldilgemoaaGreatDoorFxp
import Derived.Test.YtocbgldilgemoaaGreatDoorDtm
import Derived.Test.YtocbgldilgemoaaGreatDoorRtd
namespace Go.Proofs.YtocbgldilgemoaaGreatDoor
open Go.RowKit
set_option maxRecDepth 4000
set_option maxHeartbeats 1000000
set_option linter.unusedVariables false
def lx (k:Nat):ByteArray:=({ data:=#[97,98,99,100] }:ByteArray).extract k (k+1)
theorem Vw {k:Nat} (h:k<4):(lx k).size=1:=by
 match k,h with
 | 0,_=>rfl
 | 1,_=>rfl
 | 2,_=>rfl
 | 3,_=>rfl
theorem ZgX {k:Nat} (h:k<4):L (lx k)=[UInt8.ofNat (97+k)]:=by
 match k,h with
 | 0,_=>rfl
 | 1,_=>rfl
 | 2,_=>rfl
 | 3,_=>rfl
theorem ZlW {k n:Nat} (h:k<4) (hn:k<n):imB n (lx k)=true:=by
 have hw:isW (L (lx k))=true:=by
  rw[ZgX h]
  match k,h with
  | 0,_=>rfl
  | 1,_=>rfl
  | 2,_=>rfl
  | 3,_=>rfl
 have h2:(UInt8.ofNat (97+k)).toNat=97+k:=by rw[UInt8.toNat_ofNat'];omega
 rw[imB,YN,Vw h,hw,ZgX h,Qr,List.all_cons,List.all_nil]
 simp only[decide_true,Bool.true_and,Bool.and_true,decide_eq_true_eq]
 omega
def grA (zs:List ByteArray):Nat→ByteArray
 | 0=>{ data:=#[] }
 | k+1=>if Qb zs (lx k)=true then grA zs k++lx k else grA zs k
theorem JQ (zs:List ByteArray):∀ k,k≤4→(grA zs k).size≤k
 | 0,_=>by simp[grA];rfl
 | k+1,h=>by
  have:=JQ zs k (by omega)
  rw[grA]
  split
  ·rw[ByteArray.size_append,Vw (by omega)];omega
  ·omega
def grV (zs:List ByteArray):ByteArray:=grA zs zs.length
theorem ZlX {zs:List ByteArray} {k:Nat} {x:ByteArray} (h:zs[k]? = some x) (hk:k<4):Qb zs (lx k)=(decide (1<x.size)&&decide ((L x).headD 0=UInt8.ofNat (97+k))):=by
 have hkn:=(List.getElem?_eq_some_iff.1 h).1
 have h2:(UInt8.ofNat (97+k)).toNat=97+k:=by rw[UInt8.toNat_ofNat'];omega
 have hg:QO zs ((L (lx k)).headD 0)=x:=by
  rw[ZgX hk]
  show zs.getD ((UInt8.ofNat (97+k)).toNat - 97) _=x
  rw[h2,show 97+k - 97=k by omega,List.getD_eq_getElem?_getD,h];rfl
 rw[Qb,ZlW hk hkn,hg,ZgX hk];rfl
theorem ZgY (zs:List ByteArray) (A:Option Addr) (nz cz B:Nat) (w:World) (hl:zs.length=nz) (hsu:Zf zs=true) (hrd:Rds w B A (zs.map Value.string)) (hB:B≤w.heap.size) :
  Calls Tryz.prog 31 #[.agg #[.slice A nz cz]] w fun e w'=>e=.returned (.string (grV zs))∧Below w.heap.size w w':=by
 have bA:Below w.heap.size w (w.alloc (.cells #[.slice A nz cz] 26)):=(Below.refl _ _).alloc nlr _
 have zA:(w.alloc (.cells #[.slice A nz cz] 26)).heap.size=w.heap.size+1:=by simp
 have h0:=cell_of_row _ _ 0 _ _ (0,0) (heap_alloc_new w (.cells #[.slice A nz cz] 26))
 have h4:=(ZE hsu).1
 have h8:∀ x∈zs,x.size≤8:=fun x hx=>((ZE hsu).2 x hx).2.1
 have hc1:=Zz zs A cz B _ (by omega) (by omega) (fun x hx=>by have:=h8 x hx;unfold maxLen;omega) (hrd.below bA hB)
 rw[hl,hsu] at hc1
 have hc2:=fun k (hk:k<4) v hv hr=>JE zs A nz cz B (lx k) v hl (by rw[Vw hk];unfold maxLen;omega) (by omega) (fun x hx=>by have:=h8 x hx;omega) hr hv
 obtain⟨V,hV⟩:∃ V,grV zs=V:=⟨_,rfl⟩
 rw[hV]
 have HC1:=Hd hc1;have HC2:=Hd hc2;have HRD:=Hd hrd;have H0:=Hd h0;have HL:=Hd hl;have HV:=Hd hV
 clear hc1 hc2 hrd h0 h8 hsu hV
 rw[hl] at h4
 clear hl
 go_enter Tryz.func31,Tryz.ntmps31
 go_wp2_with fail
 refine HC1.o.mono ?_
 rintro e w1 ⟨rfl,b1⟩
 have bw1:Below w.heap.size w w1:=bA.trans (b1.mono (by omega))
 have z1:=b1.size
 rw[zA] at z1
 have k1:w1.cell? ⟨w.heap.size,0,none⟩=some (.slice A nz cz):=(b1.cell (p:=⟨w.heap.size,0,none⟩) (by show w.heap.size<(w.alloc _).heap.size;omega)).trans H0.o
 go_wp2_with fail
 go_loopw [3,4,5,12] (fun out _ _ i wr=>∃ (k:Nat) (o:ByteArray),k≤nz∧i=.int .i64 k∧out=.string o∧o=grA zs k∧o.size≤4∧Below w1.heap.size w1 wr) (fun _ _ _ i _=>nz - (intOf i).toNat)
 case atStart=>exact⟨0,_,by omega,rfl,rfl,rfl,by decide,Below.refl _ _⟩
 case round =>
  obtain⟨k,o,hk,rfl,rfl,ho,hos,hbel⟩:=hrel
  by_cases hlt:k<nz
  ·have hbw:=bw1.trans (hbel.mono (Nat.le_trans (by omega) z1))
   have hz:=hbel.size
   have kr:wr.cell? ⟨w.heap.size,0,none⟩=some (.slice A nz cz):=(hbel.cell (p:=⟨w.heap.size,0,none⟩) (by show w.heap.size<w1.heap.size;omega)).trans k1
   have hcg:=HC2.o k (by omega) wr (by omega) (HRD.o.below hbw hB)
   have hoz:=JQ zs k (by omega)
   rw[← ho] at hoz
   have hg:grA zs (k+1)=if Qb zs (lx k)=true then o++lx k else o:=by rw[grA,ho]
   have hlt2:(k:Int)<(nz:Int):=by omega
   have hx1:=Vw (show k<4 by omega)
   obtain⟨gb,hgb⟩:∃ gb,Qb zs (lx k)=gb:=⟨_,rfl⟩
   rw[hgb] at hcg hg
   unfold lx at hcg
   have HCG:=Hd hcg;have HG:=Hd hg
   clear hcg hg ho hgb
   go_wp2_with fail
   refine HCG.o.mono ?_
   rintro e w2 ⟨rfl,b2⟩
   have hbe2:=hbel.trans (b2.mono hz)
   unfold lx at hx1
   cases gb with
   | true =>
    go_wp2_with fail
    go_roundw
    case rel=>exact⟨k+1,_,by omega,by go_num,rfl,by rw[HG.o];rfl,by rw[ByteArray.size_append,hx1];omega,hbe2⟩
    case measure=>simp[intOf];omega
   | false =>
    go_wp2_with fail
    go_roundw
    case rel=>exact⟨k+1,o,by omega,by go_num,rfl,by rw[HG.o];rfl,hos,hbe2⟩
    case measure=>simp[intOf];omega
  ·have hke:k=nz:=by omega
   subst hke
   have hfin:o=V:=by rw[← HV.o,grV,HL.o,ho]
   clear ho
   subst hfin
   go_wp2_with fail
   go_ret
   exact⟨rfl,bw1.trans (hbel.mono (Nat.le_trans (by omega) z1))⟩
theorem VS (zs:List ByteArray) (A:Option Addr) (nz cz B k:Nat) (x:ByteArray) (w:World) (hl:zs.length=nz) (hk:zs[k]? = some x) (hk4:k<4) (h1:1≤x.size) (h8:x.size≤8) (hlt:Qs 4 (L x)) (hrd:Rds w B A (zs.map Value.string)) (hB:B≤w.heap.size) :
  Calls Tryz.prog 230 #[.agg #[.slice A nz cz],.int .i64 k] w fun e w'=>e=.returned (.bool (Qb zs (lx k)))∧Below w.heap.size w w':=by
 have bA:Below w.heap.size w (w.alloc (.cells #[.slice A nz cz] 26)):=(Below.refl _ _).alloc nlr _
 have hkn:k<nz:=by have:=(List.getElem?_eq_some_iff.1 hk).1;omega
 have hkn2:(k:Int)<(nz:Int):=by omega
 obtain⟨ad,rfl,hc⟩:=(hrd.below bA hB).at_ (Zs Value.string hk)
 have hg:=ZlX hk hk4
 have hx0:0<x.size:=h1
 have hx00:(0:Int)<(x.size:Int):=by omega
 have hxh:=JM hx0
 obtain⟨d,hd⟩:∃ d,x[0]=d:=⟨_,rfl⟩
 rw[hd] at hxh
 have hdl:=hlt d (by rw[← hxh];have h3:=Zj x;cases h4:L x with
  | nil=>rw[h4] at h3;simp at h3;omega
  | cons a b=>simp[List.headD])
 have hw:IntKind.u8.wrap ((d.toNat:Int) - 97)=(d.toNat:Int) - 97:=IntWalk.u8_in _ (by omega)
 have h2:(UInt8.ofNat (97+k)).toNat=97+k:=by rw[UInt8.toNat_ofNat'];omega
 rw[hxh] at hg
 have hdk:((d.toNat:Int) - 97==(k:Int))=decide (d=UInt8.ofNat (97+k)):=by
  rw[Bool.eq_iff_iff,beq_iff_eq,decide_eq_true_eq]
  exact⟨fun h=>UInt8.toNat_inj.1 (by omega),fun h=>by rw[h,h2];omega⟩
 obtain⟨q,hq⟩:∃ q,decide (d=UInt8.ofNat (97+k))=q:=⟨_,rfl⟩
 rw[hq] at hdk hg
 have HG:=Hd hg
 clear hrd hk hg hq hxh
 go_enter Tryz.func230,Tryz.ntmps230
 by_cases hx1:1<x.size
 ·have hx11:(1:Int)<(x.size:Int):=by omega
  have HG2:Hid (Qb zs (lx k)=q):=Hd (by rw[HG.o,decide_eq_true hx1,Bool.true_and])
  go_wp2_with fail
  go_ret
  exact⟨Zk HG2.o.symm,bA⟩
 ·have hx12:¬ (1:Int)<(x.size:Int):=by omega
  have HG2:Hid (Qb zs (lx k)=false):=Hd (by rw[HG.o,decide_eq_false hx1,Bool.false_and])
  go_wp2_with fail
  go_ret
  exact⟨Zk HG2.o.symm,bA⟩
theorem ZgZ (zs:List ByteArray) (A:Option Addr) (nz cz B:Nat) (w:World) (hl:zs.length=nz) (hsu:Zf zs=true) (hrd:Rds w B A (zs.map Value.string)) (hB:B≤w.heap.size) :
  Calls Tryz.prog 155 #[.agg #[.slice A nz cz]] w fun e w'=>e=.returned (.string (grV zs))∧Below w.heap.size w w':=by
 have bA:Below w.heap.size w (w.alloc (.cells #[.slice A nz cz] 26)):=(Below.refl _ _).alloc nlr _
 have zA:(w.alloc (.cells #[.slice A nz cz] 26)).heap.size=w.heap.size+1:=by simp
 have h0:=cell_of_row _ _ 0 _ _ (0,0) (heap_alloc_new w (.cells #[.slice A nz cz] 26))
 have h4:=(ZE hsu).1
 have hg:=(ZE hsu).2
 have hc1:=ZB zs A cz B _ (by omega) (by omega) (fun x hx=>by have:=(hg x hx).2.1;unfold maxLen;omega) (hrd.below bA hB)
 rw[hl,hsu] at hc1
 have hc2:=fun k x (hk:zs[k]? = some x) (hk4:k<4) v hv hr=>VS zs A nz cz B k x v hl hk hk4 (hg x (List.mem_of_getElem? hk)).1 (hg x (List.mem_of_getElem? hk)).2.1 (fun d hd=>by have:=(hg x (List.mem_of_getElem? hk)).2.2 d hd;omega) hr hv
 obtain⟨V,hV⟩:∃ V,grV zs=V:=⟨_,rfl⟩
 rw[hV]
 have HC1:=Hd hc1;have HC2:=Hd hc2;have HRD:=Hd hrd;have H0:=Hd h0;have HL:=Hd hl;have HV:=Hd hV
 clear hc1 hc2 hrd h0 hg hsu hV
 rw[hl] at h4
 clear hl
 go_enter Tryz.func155,Tryz.ntmps155
 go_wp2_with fail
 refine HC1.o.mono ?_
 rintro e w1 ⟨rfl,b1⟩
 have bw1:Below w.heap.size w w1:=bA.trans (b1.mono (by omega))
 have z1:=b1.size
 rw[zA] at z1
 have k1:w1.cell? ⟨w.heap.size,0,none⟩=some (.slice A nz cz):=(b1.cell (p:=⟨w.heap.size,0,none⟩) (by show w.heap.size<(w.alloc _).heap.size;omega)).trans H0.o
 go_wp2_with fail
 go_loopw [3,4,11] (fun out _ i wr=>∃ (k:Nat) (o:ByteArray),k≤nz∧i=.int .i64 k∧out=.string o∧o=grA zs k∧o.size≤4∧Below w1.heap.size w1 wr) (fun _ _ i _=>nz - (intOf i).toNat)
 case atStart=>exact⟨0,_,by omega,rfl,rfl,rfl,by decide,Below.refl _ _⟩
 case round =>
  obtain⟨k,o,hk,rfl,rfl,ho,hos,hbel⟩:=hrel
  by_cases hlt:k<nz
  ·have hbw:=bw1.trans (hbel.mono (Nat.le_trans (by omega) z1))
   have hz:=hbel.size
   have kr:wr.cell? ⟨w.heap.size,0,none⟩=some (.slice A nz cz):=(hbel.cell (p:=⟨w.heap.size,0,none⟩) (by show w.heap.size<w1.heap.size;omega)).trans k1
   obtain⟨x,hx⟩:=Zc (l:=zs) (k:=k) (by rw[HL.o];exact hlt)
   have hcg:=HC2.o k x hx (by omega) wr (by omega) (HRD.o.below hbw hB)
   have hoz:=JQ zs k (by omega)
   rw[← ho] at hoz
   have hg:grA zs (k+1)=if Qb zs (lx k)=true then o++lx k else o:=by rw[grA,ho]
   have hlt2:(k:Int)<(nz:Int):=by omega
   have hx1:=Vw (show k<4 by omega)
   obtain⟨gb,hgb⟩:∃ gb,Qb zs (lx k)=gb:=⟨_,rfl⟩
   rw[hgb] at hcg hg
   have HCG:=Hd hcg;have HG:=Hd hg
   clear hcg hg ho hgb hx
   go_wp2_with fail
   refine HCG.o.mono ?_
   rintro e w2 ⟨rfl,b2⟩
   have hbe2:=hbel.trans (b2.mono hz)
   unfold lx at hx1
   cases gb with
   | true =>
    go_wp2_with fail
    go_roundw
    case rel=>exact⟨k+1,_,by omega,by go_num,rfl,by rw[HG.o];rfl,by rw[ByteArray.size_append,hx1];omega,hbe2⟩
    case measure=>simp[intOf];omega
   | false =>
    go_wp2_with fail
    go_roundw
    case rel=>exact⟨k+1,o,by omega,by go_num,rfl,by rw[HG.o];rfl,hos,hbe2⟩
    case measure=>simp[intOf];omega
  ·have hke:k=nz:=by omega
   subst hke
   have hfin:o=V:=by rw[← HV.o,grV,HL.o,ho]
   clear ho
   subst hfin
   go_wp2_with fail
   go_ret
   exact⟨rfl,bw1.trans (hbel.mono (Nat.le_trans (by omega) z1))⟩
theorem ZbD (n:Nat) (m:List (List Int)) (h1:1≤n) (h4:n≤4) (hsq:sqM n m) (g c B:Nat) (w:World) (hg:Gr w B g m) :
  Calls Tryz.prog 73 #[.slice (some ⟨g,0,none⟩) n c] w fun e w'=>e=.returned (.bool true)∧w=w':=by
 have HG:=Hd hg;have HS:=Hd hsq
 clear hg hsq
 go_enter Tryz.func73,Tryz.ntmps73
 go_wp2_with fail
 go_loopw [4,6,9] (fun _ _ i wr=>∃ k:Nat,k≤n∧i=.int .i64 k∧wr=w) (fun _ _ i _=>n - (intOf i).toNat)
 case atStart=>exact⟨0,by omega,rfl,rfl⟩
 case round =>
  obtain⟨k,hk,rfl,rfl⟩:=hrel
  by_cases hlt:k<n
  ·obtain⟨r,hr⟩:=Zc (l:=m) (k:=k) (by rw[HS.o.1];exact hlt)
   obtain⟨q,cq,hcell,_,_,_,hq⟩:=HG.o.row hr
   have hrl:=(HS.o.2 r (List.mem_of_getElem? hr)).1
   have hrx:=(HS.o.2 r (List.mem_of_getElem? hr)).2
   rw[hrl] at hcell
   have hlt2:(k:Int)<(n:Int):=by omega
   have HQ:=Hd hq;have HRL:=Hd hrl;have HRX:=Hd hrx
   clear hq hrl hrx hr
   go_wp2_with fail
   obtain⟨wo,rfl⟩:∃ z:World,z=wr:=⟨_,rfl⟩
   go_loopw [6,20] (fun _ i wv=>∃ j:Nat,j≤n∧i=.int .i64 j∧wv=wo) (fun _ i _=>n - (intOf i).toNat)
   case atStart=>exact⟨0,by omega,rfl,rfl⟩
   case round =>
    obtain⟨j,hj,rfl,rfl⟩:=hrel
    by_cases hjl:j<n
    ·obtain⟨x,hx⟩:=Zc (l:=r) (k:=j) (by rw[HRL.o];exact hjl)
     have hcx:=HQ.o j x hx
     have hxb:=HRX.o x (List.mem_of_getElem? hx)
     have hx1:=hxb.1
     have hx2:=hxb.2
     have hjl2:(j:Int)<(n:Int):=by omega
     clear hx hxb
     go_wp2_with (go_at_call 65;refine (Zo _ _ _ ⟨hx1,hx2⟩ _).mono ?_;rintro e w' ⟨rfl,rfl⟩)
     go_roundw
     case rel=>exact⟨j+1,by omega,by go_num,by first|trivial|rfl⟩
     case measure=>simp[intOf];omega
    ·go_wp2_with fail
     go_roundw
     case rel=>exact⟨k+1,by omega,by go_num,by first|trivial|rfl⟩
     case measure=>simp[intOf];omega
  ·go_wp2_with (go_at_call 65;refine (Zo _ _ _ ⟨by omega,by omega⟩ _).mono ?_;rintro e w' ⟨rfl,rfl⟩)
   go_ret
   exact⟨rfl,rfl⟩
theorem ZeH (n:Nat) (m:List (List Int)) (h1:1≤n) (h4:n≤4) (hsq:sqM n m) (g c B:Nat) (w:World) (hg:Gr w B g m) (hc:n≤c) (hB:B≤w.heap.size) :
  Calls Tryz.prog 33 #[.slice (some ⟨g,0,none⟩) n c] w fun e w'=>e=.returned (.int .i64 (dtF n m))∧Below w.heap.size w w':=by
 have hm:=ZbD n m h1 h4 hsq g c B w hg
 have hd:=Zik n m h4 hsq g c B w hg hc hB
 have HM:=Hd hm;have HD:=Hd hd
 clear hm hd hg hsq
 go_enter Tryz.func33,Tryz.ntmps33
 go_wp2_with fail
 refine HM.o.mono ?_
 rintro e w1 ⟨rfl,rfl⟩
 go_wp2_with fail
 refine HD.o.mono ?_
 rintro e w2 ⟨rfl,b2⟩
 go_wp2_with fail
 go_ret
 exact⟨rfl,b2⟩
theorem Zam (zs:List ByteArray) (A:Option Addr) (nz cz B:Nat) (w:World) (hl:zs.length=nz) (hsu:Zf zs=true) (hrd:Rds w B A (zs.map Value.string)) (hB:B≤w.heap.size) :
  Calls Tryz.prog 34 #[.agg #[.slice A nz cz]] w fun e w'=>∃ g c vs,e=.returned (.slice (some ⟨g,0,none⟩) nz c)∧Bld w' w.heap.size 83 g nz c vs (mtL zs)∧Below w.heap.size w w':=by
 have bA:Below w.heap.size w (w.alloc (.cells #[.slice A nz cz] 26)):=(Below.refl _ _).alloc nlr _
 have zA:(w.alloc (.cells #[.slice A nz cz] 26)).heap.size=w.heap.size+1:=by simp
 have h0:=cell_of_row _ _ 0 _ _ (0,0) (heap_alloc_new w (.cells #[.slice A nz cz] 26))
 have h4:=(ZE hsu).1
 have h8:∀ x∈zs,x.size≤8:=fun x hx=>((ZE hsu).2 x hx).2.1
 have hc1:=Zz zs A cz B _ (by omega) (by omega) (fun x hx=>by have:=h8 x hx;unfold maxLen;omega) (hrd.below bA hB)
 rw[hl,hsu] at hc1
 have hc2:=fun v hr hv=>Xe zs A nz cz B v hl (by omega) h8 hr hv
 have HC1:=Hd hc1;have HC2:=Hd hc2;have HRD:=Hd hrd;have H0:=Hd h0
 clear hc1 hc2 hrd h0 h8 hsu hl h4
 go_enter Tryz.func34,Tryz.ntmps34
 go_wp2_with fail
 refine HC1.o.mono ?_
 rintro e w1 ⟨rfl,b1⟩
 have bw1:Below w.heap.size w w1:=bA.trans (b1.mono (by omega))
 have z1:=b1.size
 rw[zA] at z1
 have k1:w1.cell? ⟨w.heap.size,0,none⟩=some (.slice A nz cz):=(b1.cell (p:=⟨w.heap.size,0,none⟩) (by show w.heap.size<(w.alloc _).heap.size;omega)).trans H0.o
 go_wp2_with fail
 refine (HC2.o w1 (HRD.o.below bw1 hB) (by omega)).mono ?_
 rintro e w2 ⟨g,c,vs,rfl,hb,b2⟩
 go_wp2_with fail
 go_ret
 exact⟨g,c,vs,rfl,hb.lower (by omega),bw1.trans (b2.mono (by omega))⟩
def drL (s f:ByteArray):List UInt8:=(ZV s f).map fun x=>ltr (Yr (fsL (ZV s f)) x).toNat
def drB (s f:ByteArray):Bool:=decide (0<(Qq s f).length)&&decide ((fsL (ZV s f)).length≤4)
def drS (s f:ByteArray):ByteArray:=if drB s f=true then Zd (drL s f) else ⟨#[]⟩
theorem VC (s f:ByteArray):(drL s f).length=(ZV s f).length:=by simp[drL]
theorem Zd1 {s f x:ByteArray} {k:Nat} (h:(ZV s f)[k]? = some x):(drL s f).take (k+1)=(drL s f).take k++[ltr (Yr (fsL (ZV s f)) x).toNat]:=by
 rw[List.take_add_one]
 unfold drL
 rw[List.getElem?_map,h];rfl
theorem Zcn {s f:ByteArray} (h:drB s f=false):drS s f=⟨#[]⟩:=by rw[drS,h];rfl
theorem Zgs {s f:ByteArray} (h:drB s f=true):drS s f=Zd (drL s f):=by rw[drS,h];rfl
def jnL (l:List ByteArray):List UInt8:=Lib.join (l.map L) [46]
theorem Zgt (l:List ByteArray) (x:ByteArray):jnL (l++[x])=if l=[] then L x else jnL l++[46]++L x:=by
 induction l with
 | nil=>simp[jnL,Lib.join,List.intercalate]
 | cons y l ih =>
  rw[if_neg (by simp)]
  cases l with
  | nil=>simp[jnL,Lib.join,List.intercalate]
  | cons z l =>
   rw[if_neg (by simp)] at ih
   have h1:∀ m:List ByteArray,m≠[]→jnL (y :: m)=L y++[46]++jnL m:=fun m hm=>by
    cases m with
    | nil=>exact absurd rfl hm
    | cons a b=>simp[jnL,Lib.join,List.intercalate]
   rw[List.cons_append,h1 _ (by simp),ih,h1 _ (by simp)]
   simp
theorem Zco (l:List ByteArray) (h:∀ x∈l,x.size≤400):∀ k,k≤l.length→(jnL (l.take k)).length≤401 * k
 | 0,_=>by simp[jnL,Lib.join,List.intercalate]
 | k+1,hk=>by
  have h1:=Zco l h k (by omega)
  obtain⟨x,hx⟩:=Zc (l:=l) (k:=k) (by omega)
  have h2:=h x (List.mem_of_getElem? hx)
  have he:jnL (l.take (k+1))=if l.take k=[] then L x else jnL (l.take k)++[46]++L x:=by rw[List.take_add_one,hx];exact Zgt _ _
  rw[he]
  split
  ·rw[Zj];omega
  ·simp only[List.length_append,List.length_singleton,Zj];omega
theorem Zcp (l:List ByteArray) (h:∀ x∈l,x.size≤400):(jnL l).length≤401 * l.length:=by
 have:=Zco l h l.length nlr
 rwa[List.take_length] at this
def orS (s:ByteArray):ByteArray:=if s.size=0 then { data:=#[45] } else s
def rlS (s f:ByteArray):ByteArray:=if drB s f=true∧(fsL (ZV s f)).length≠0 then Zd (jnL (fsL (ZV s f)))++{ data:=#[32] }++orS (drS s f) else { data:=#[110,111,110,101] }
theorem Zht (s:ByteArray) (w:World):Calls Tryz.prog 44 #[.string s] w fun e w'=>e=.returned (.string (orS s))∧w=w':=by
 by_cases h:s.size=0
 ·have hemp:s.toList.isEmpty=true:=by rw[ByteArray.toList_eq];have:s.data.toList=[]:=List.eq_nil_of_length_eq_zero (by rw[Zj];exact h);rw[this];rfl
  have H:=Hd h;clear h
  go_enter Tryz.func44,Tryz.ntmps44
  go_wp2_with fail
  go_ret
  exact⟨by rw[orS,if_pos H.o];rfl,rfl⟩
 ·have hemp:s.toList.isEmpty=false:=by
   rw[ByteArray.toList_eq]
   cases hq:s.data.toList with
   | nil=>exact absurd (by rw[← Zj];show s.data.toList.length=0;rw[hq];rfl) h
   | cons a b=>rfl
  have H:=Hd h;clear h
  go_enter Tryz.func44,Tryz.ntmps44
  go_wp2_with fail
  go_ret
  exact⟨by rw[orS,if_neg H.o];rfl,rfl⟩
theorem Zfe (s:ByteArray) (w:World):Calls Tryz.prog 30 #[.string s] w fun e w'=>e=.returned (.string (orS s))∧w=w':=by
 by_cases h:s.size=0
 ·have hemp:s.toList.isEmpty=true:=by rw[ByteArray.toList_eq];have:s.data.toList=[]:=List.eq_nil_of_length_eq_zero (by rw[Zj];exact h);rw[this];rfl
  have H:=Hd h;clear h
  go_enter Tryz.func30,Tryz.ntmps30
  go_wp2_with fail
  go_ret
  exact⟨by rw[orS,if_pos H.o];rfl,rfl⟩
 ·have hemp:s.toList.isEmpty=false:=by
   rw[ByteArray.toList_eq]
   cases hq:s.data.toList with
   | nil=>exact absurd (by rw[← Zj];show s.data.toList.length=0;rw[hq];rfl) h
   | cons a b=>rfl
  have H:=Hd h;clear h
  go_enter Tryz.func30,Tryz.ntmps30
  go_wp2_with fail
  go_ret
  exact⟨by rw[orS,if_neg H.o];rfl,rfl⟩
set_option maxRecDepth 4000 in
set_option maxHeartbeats 400000 in
theorem Zhu (l:List ByteArray) (A:Option Addr) (c B:Nat) (w:World) (hl:l.length≤1000) (hz:∀ x∈l,x.size≤400) (hrd:Rds w B A (l.map Value.string)) :
  Calls Tryz.prog 109 #[.slice A l.length c,.string { data:=#[46] }] w fun e w'=>e=.returned (.string (Zd (jnL l)))∧w=w':=by
 have HR:=Hd hrd;have HZ:=Hd hz
 clear hrd hz
 go_enter Tryz.func109,Tryz.ntmps109
 go_wp2_with fail
 go_loop [5,6,7,10] (fun v _ _ i=>∃ k:Nat,k≤l.length∧i=.int .i64 k∧∃ acc:ByteArray,v=.string acc∧acc=Zd (jnL (l.take k))) (fun _ _ _ i=>l.length - (intOf i).toNat)
 case atStart=>exact⟨0,by omega,rfl,_,rfl,rfl⟩
 case round =>
  obtain⟨k,hk,rfl,acc,rfl,hacc⟩:=hrel
  have HACC:=Hd hacc
  by_cases hlt:k<l.length
  ·obtain⟨x,hx⟩:=Zc (l:=l) (k:=k) hlt
   obtain⟨ad,rfl,hc⟩:=HR.o.at_ (Zs Value.string hx)
   have hxs:=HZ.o x (List.mem_of_getElem? hx)
   have hjn:jnL (l.take (k+1))=if l.take k=[] then L x else jnL (l.take k)++[46]++L x:=by rw[List.take_add_one,hx];exact Zgt _ _
   have hjl:=Zco l HZ.o k hk
   obtain⟨sz,hsz⟩:∃ sz,(jnL (l.take k)).length=sz:=⟨_,rfl⟩
   have hs1:acc.size=sz:=by rw[hacc,Zh,hsz]
   have hsb:sz≤401000:=by rw[← hsz];omega
   have hxL:Zd (L x)=x:=ZH (by rw[show (Zd (L x)).data.toList=L (Zd (L x)) from rfl,Zy])
   clear hx hjl hsz hacc
   by_cases hk0:k=0
   ·subst hk0
    have hfin:Zd (jnL (l.take (0+1)))=acc++x:=by
     rw[HACC.o,hjn,if_pos (by simp),hxL]
     show x=Zd []++x
     apply ZH;simp[Zd,ByteArray.data_append]
    have HF:=Hd hfin
    have hc0:w.cell? ad=some (.string x):=by simpa[Addr.add] using hc
    clear hjn hfin hxL
    go_wp2_with fail
    go_round
    case rel=>exact⟨0+1,by omega,by go_num,_,rfl,HF.o.symm⟩
    case measure=>simp[intOf];omega
   ·have hne:¬ l.take k=[]:=by intro h;have:=congrArg List.length h;rw[List.length_take,List.length_nil] at this;omega
    have hfin:Zd (jnL (l.take (k+1)))=acc++{ data:=#[46] }++x:=by
     rw[HACC.o,hjn,if_neg hne]
     conv=>rhs;rw[← hxL]
     show _=Zd (jnL (l.take k))++Zd [46]++Zd (L x)
     rw[YK,YK]
    have hs2:(acc++({ data:=#[46] }:ByteArray)).size=sz+1:=by
     rw[ByteArray.size_append,hs1];rfl
    have hkp:decide (0<(k:Int))=true:=by simp;omega
    have HF:=Hd hfin
    clear hjn hfin hxL hne
    go_wp2_with fail
    go_round
    case rel=>exact⟨k+1,by omega,by go_num,_,rfl,HF.o.symm⟩
    case measure=>simp[intOf];omega
  ·have hkl:l.take k=l:=List.take_of_length_le (by omega)
   have HFI:=Hd (by rw[hacc,hkl]:acc=Zd (jnL l));clear hkl hacc
   go_wp2_with fail
   go_ret
   exact⟨by rw[← HFI.o];rfl,rfl⟩
def apL (zs:List ByteArray) (l:List UInt8):List UInt8:=(l.map fun d=>L (QO zs d)).flatten
theorem Za9 (zs:List ByteArray):apL zs []=[]:=rfl
theorem VX (zs:List ByteArray) (d:UInt8) (l:List UInt8):apL zs (d :: l)=L (QO zs d)++apL zs l:=by simp[apL]
theorem XS {n:Nat} {d:UInt8} {l:List UInt8}:Qs n (d :: l)↔(97≤d.toNat∧d.toNat<97+n)∧Qs n l:=by simp[Qs]
theorem Zgy {n:Nat}:Qs n []:=fun d h=>by cases h
theorem Zba {n:Nat} {l k:List UInt8}:Qs n (l++k)↔Qs n l∧Qs n k:=by
 simp only[Qs,List.mem_append]
 exact⟨fun h=>⟨fun d hd=>h d (.inl hd),fun d hd=>h d (.inr hd)⟩,fun h d hd=>hd.elim (h.1 d) (h.2 d)⟩
theorem VY {n:Nat} {l:List UInt8} (h1:isW l=true) (h2:Qr n l=true):Qs n l:=fun d hd=>by
 obtain⟨k,hk⟩:=List.mem_iff_getElem?.1 hd
 have h3:=(Q7 h1 hk).1
 rw[Qr,List.all_eq_true] at h2
 have h4:=h2 d hd
 rw[decide_eq_true_eq] at h4
 exact⟨h3,h4⟩
theorem Zgz {n:Nat} {l:List UInt8} (h:Qs n l) (hn:n≤4):isW l=decide (l.length≤400):=by
 have:l.all okc=true:=by
  rw[List.all_eq_true]
  intro d hd
  have:=h d hd
  exact decide_eq_true (by omega)
 rw[isW,this,Bool.true_and]
theorem Zfp {zs:List ByteArray} (h:Zf zs=true) {d:UInt8} (h1:97≤d.toNat) (h2:d.toNat<97+zs.length):QO zs d∈zs:=by
 obtain⟨k,_,hz⟩:=JA h1 h2
 exact List.mem_of_getElem? hz
theorem Zbb {zs:List ByteArray} (h:Zf zs=true):∀ {l:List UInt8},Qs zs.length l→Qs zs.length (apL zs l)
 | [],_=>Zgy
 | d :: l,hl=>by
  rw[XS] at hl
  rw[VX,Zba]
  exact⟨((ZE h).2 _ (Zfp h hl.1.1 hl.1.2)).2.2,Zbb h hl.2⟩
theorem Zbc {zs:List ByteArray} (h:Zf zs=true):∀ {l:List UInt8},Qs zs.length l→l.length≤(apL zs l).length∧(apL zs l).length≤8 * l.length
 | [],_=>⟨Nat.le_refl _,Nat.zero_le _⟩
 | d :: l,hl=>by
  rw[XS] at hl
  have h1:=(ZE h).2 _ (Zfp h hl.1.1 hl.1.2)
  have h2:=Zbc h hl.2
  rw[VX,List.length_append,Zj,List.length_cons]
  omega
def itL (zs:List ByteArray):Nat→List UInt8→Option (List UInt8)
 | 0,l=>some l
 | n+1,l=>if (apL zs l).length≤400 then itL zs n (apL zs l) else none
def Vk (zs:List ByteArray) (s:ByteArray) (n:Int):Bool:=Zf zs&&((isW (L s)&&Qr zs.length (L s))&&decide (0≤n∧n≤20))
def itV (zs:List ByteArray) (s:ByteArray) (n:Int):Option ByteArray:=if Vk zs s n=true then (itL zs n.toNat (L s)).map Zd else none
def okS (o:Option ByteArray):Value:=.tuple #[.string (o.getD { data:=#[] }),.bool o.isSome]
theorem Zeg {zs:List ByteArray} {s:ByteArray} {n:Int} (h:Vk zs s n=true):Zf zs=true∧isW (L s)=true∧Qr zs.length (L s)=true∧Qs zs.length (L s)∧0≤n∧n≤20:=by
 rw[Vk,Bool.and_eq_true,Bool.and_eq_true,Bool.and_eq_true,decide_eq_true_eq] at h
 exact⟨h.1,h.2.1.1,h.2.1.2,VY h.2.1.1 h.2.1.2,h.2.2.1,h.2.2.2⟩
theorem XT {zs:List ByteArray} {s:ByteArray} {n:Int} (h:Vk zs s n=false):itV zs s n=none:=by rw[itV,h];rfl
theorem Zbd {zs:List ByteArray} {s:ByteArray} {n:Int} (h:Vk zs s n=true):itV zs s n=(itL zs n.toNat (L s)).map Zd:=by rw[itV,if_pos h]
theorem Zj0 {s f:ByteArray} (h:0<(Qq s f).length):s.size≤400:=by
 have:=Y3 h
 unfold VJ at this
 simp only[Bool.and_eq_true] at this
 exact Zb this.1.1
theorem QB (s f:ByteArray) (hs:s.size≤maxLen) (hf:f.size≤maxLen) (w:World) :
  Calls Tryz.prog 93 #[.string s,.string f] w fun e w'=>e=.returned (.tuple #[.string (drS s f),.bool (drB s f)])∧Below w.heap.size w w':=by
 obtain⟨n,hn⟩:∃ n,(Qq s f).length=n:=⟨_,rfl⟩
 obtain⟨m,hm⟩:∃ m,(fsL (ZV s f)).length=m:=⟨_,rfl⟩
 obtain⟨q,hq⟩:∃ q,(ZV s f).length=q:=⟨_,rfl⟩
 have hq4:=Jv s f
 rw[hq] at hq4
 have hc:=YD s f hs hf w
 rw[hm,hq] at hc
 have hp:=fun w=>VN s f hs hf w
 rw[hn] at hp
 have hdb:drB s f=(decide (0<n)&&decide (m≤4)):=by rw[drB,hn,hm]
 have HDB:=Hd hdb;have HC:=Hd hc;have HP:=Hd hp;have HM:=Hd hm;have HQ:=Hd hq
 clear hdb hc hp hm hn hq
 by_cases h0:n=0
 ·have hno:drB s f=false:=by rw[HDB.o,h0];rfl
  have HS:=Hd (Zcn hno);have HNO:=Hd hno
  subst h0
  clear hno
  go_enter Tryz.func93,Tryz.ntmps93
  go_wp2_with fail
  refine HC.o.mono ?_
  rintro e w1 ⟨A,c,A2,c2,rfl,o1,o2,b1⟩
  clear o1 o2
  go_wp2_with fail
  refine (HP.o _).mono ?_
  rintro e w2 ⟨A3,c3,rfl,o3,b2⟩
  clear o3
  go_wp2_with fail
  go_ret2
  exact⟨by rw[HS.o,HNO.o];rfl,b1.trans (b2.mono b1.size)⟩
 ·have hn0:0<n:=by omega
  have hnb:((n:Int)==0)=false:=by simp;omega
  by_cases h4:4<m
  ·have hno:drB s f=false:=by rw[HDB.o,decide_eq_false (show ¬ m≤4 by omega),Bool.and_false]
   have HS:=Hd (Zcn hno);have HNO:=Hd hno
   clear hno
   go_enter Tryz.func93,Tryz.ntmps93
   go_wp2_with fail
   refine HC.o.mono ?_
   rintro e w1 ⟨A,c,A2,c2,rfl,o1,o2,b1⟩
   clear o1 o2
   go_wp2_with fail
   refine (HP.o _).mono ?_
   rintro e w2 ⟨A3,c3,rfl,o3,b2⟩
   clear o3
   go_wp2_with fail
   go_ret2
   exact⟨by rw[HS.o,HNO.o];rfl,b1.trans (b2.mono b1.size)⟩
  ·have hyes:drB s f=true:=by rw[HDB.o,decide_eq_true hn0,decide_eq_true (show m≤4 by omega)];rfl
   have HS:=Hd (Zgs hyes);have HYES:=Hd hyes
   clear hyes h0
   go_enter Tryz.func93,Tryz.ntmps93
   go_wp2_with fail
   refine HC.o.mono ?_
   rintro e w1 ⟨A,c,A2,c2,rfl,o1,o2,b1⟩
   have HO1:=Hd o1;have HO2:=Hd o2;clear o1 o2
   go_wp2_with fail
   refine (HP.o _).mono ?_
   rintro e w2 ⟨A3,c3,rfl,o3,b2⟩
   have HR1:=Hd (HO1.o.below b2).reads;have HR2:=Hd (HO2.o.below b2).reads;clear o3
   have b12:=b1.trans (b2.mono b1.size)
   clear b1 b2 HO1 HO2
   go_wp2_with fail
   go_loopw [8,10,11,30] (fun v _ _ i wr=>∃ k:Nat,∃ acc:ByteArray,k≤q∧i=.int .i64 k∧v=.string acc∧acc=Zd ((drL s f).take k)∧Dr w2 wr) (fun _ _ _ i _=>q - (intOf i).toNat)
   case atStart=>exact⟨0,_,by omega,rfl,rfl,rfl,Dr.refl _⟩
   case round =>
    obtain⟨k,acc,hk,rfl,rfl,hacc,hd⟩:=hrel
    have HACC:=Hd hacc
    by_cases hlt:k<q
    ·obtain⟨x,hx⟩:=Zc (l:=ZV s f) (k:=k) (by rw[HQ.o];exact hlt)
     obtain⟨ad,rfl,hcell⟩:=(HR1.o.dr hd).at_ (Zs Value.string hx)
     have hix:=ZjJ (List.mem_of_getElem? hx)
     rw[HM.o] at hix
     have htk:=Zd1 hx
     have hct:=ZaT (fsL (ZV s f)) x A2 c2 _ wr (by rw[HM.o];omega) (HR2.o.dr hd)
     rw[HM.o] at hct
     obtain⟨z,hz⟩:∃ z,Yr (fsL (ZV s f)) x=z:=⟨_,rfl⟩
     rw[hz] at hct hix htk
     obtain⟨j,rfl⟩:=Int.eq_ofNat_of_zero_le hix.1
     have hj4:j<4:=by omega
     rw[Int.toNat_natCast] at htk
     have hs1:acc.size=k:=by rw[hacc,Zh,List.length_take,VC,HQ.o];omega
     have hs2:(({ data:=#[97,98,99,100] }:ByteArray).extract j (j+1)).size=1:=by
      have:=congrArg ByteArray.size (ZhD j hj4);rw[Zh] at this;exact this
     have hfin:acc++({ data:=#[97,98,99,100] }:ByteArray).extract j (j+1)=Zd ((drL s f).take (k+1)):=by
      rw[hacc,ZhD j hj4,YK,htk]
     have HF:=Hd hfin;have HCT:=Hd hct
     clear hx hix htk hct hz hacc hfin
     go_wp2_with fail
     refine HCT.o.mono ?_
     rintro e w4 ⟨rfl,d4⟩
     go_wp2_with fail
     go_roundw
     case rel=>exact⟨k+1,_,by omega,by go_num,rfl,HF.o,hd.trans d4⟩
     case measure=>simp[intOf];omega
    ·have hfin:acc=drS s f:=by rw[hacc,HS.o,List.take_of_length_le (by rw[VC,HQ.o];omega)]
     have HF:=Hd hfin;clear hacc hfin
     go_wp2_with fail
     go_ret2
     exact⟨by rw[HYES.o,← HF.o];rfl,b12.trans (hd.below.mono b12.size)⟩
theorem QC (s f:ByteArray) (hs:s.size≤maxLen) (hf:f.size≤maxLen) (w:World) :
  Calls Tryz.prog 123 #[.string s,.string f] w fun e w'=>e=.returned (.tuple #[.string (drS s f),.bool (drB s f)])∧Below w.heap.size w w':=by
 obtain⟨m,hm⟩:∃ m,(fsL (ZV s f)).length=m:=⟨_,rfl⟩
 obtain⟨q,hq⟩:∃ q,(ZV s f).length=q:=⟨_,rfl⟩
 have hq4:=Jv s f
 rw[hq] at hq4
 have hc:=Q6 s f hs hf w
 rw[hm] at hc
 have hp:=fun w=>Yy s f hs hf w
 obtain⟨pb,hpb⟩:∃ pb,decide (0<(Qq s f).length)=pb:=⟨_,rfl⟩
 have hok:pb=true→VJ s f=true:=fun h=>Y3 (of_decide_eq_true (hpb.trans h))
 have hdb:drB s f=(pb&&decide (m≤4)):=by rw[drB,hpb,hm]
 rw[hpb] at hp
 have HDB:=Hd hdb;have HC:=Hd hc;have HP:=Hd hp;have HM:=Hd hm;have HQ:=Hd hq;have HOK:=Hd hok
 clear hdb hc hp hm hq hok hpb
 cases pb
 ·have hno:drB s f=false:=by rw[HDB.o];rfl
  have HS:=Hd (Zcn hno);have HNO:=Hd hno
  clear hno
  go_enter Tryz.func123,Tryz.ntmps123
  go_wp2_with fail
  refine HC.o.mono ?_
  rintro e w1 ⟨A,c,rfl,o1,b1⟩
  clear o1
  go_wp2_with fail
  refine (HP.o _).mono ?_
  rintro e w2 ⟨rfl,b2⟩
  go_wp2_with fail
  go_ret2
  exact⟨by rw[HS.o,HNO.o];rfl,b1.trans (b2.mono b1.size)⟩
 ·by_cases h4:4<m
  ·have hno:drB s f=false:=by rw[HDB.o,decide_eq_false (show ¬ m≤4 by omega),Bool.and_false]
   have HS:=Hd (Zcn hno);have HNO:=Hd hno
   clear hno
   go_enter Tryz.func123,Tryz.ntmps123
   go_wp2_with fail
   refine HC.o.mono ?_
   rintro e w1 ⟨A,c,rfl,o1,b1⟩
   clear o1
   go_wp2_with fail
   refine (HP.o _).mono ?_
   rintro e w2 ⟨rfl,b2⟩
   go_wp2_with fail
   go_ret2
   exact⟨by rw[HS.o,HNO.o];rfl,b1.trans (b2.mono b1.size)⟩
  ·have hyes:drB s f=true:=by rw[HDB.o,decide_eq_true (show m≤4 by omega)];rfl
   have HS:=Hd (Zgs hyes);have HYES:=Hd hyes
   have hro:=fun w=>VO s f (HOK.o rfl) w
   rw[HQ.o] at hro
   have HRO:=Hd hro
   clear hyes hro
   go_enter Tryz.func123,Tryz.ntmps123
   go_wp2_with fail
   refine HC.o.mono ?_
   rintro e w1 ⟨A,c,rfl,o1,b1⟩
   have HO1:=Hd o1;clear o1
   go_wp2_with fail
   refine (HP.o _).mono ?_
   rintro e w2 ⟨rfl,b2⟩
   have HK:=Hd (HO1.o.below b2).reads
   have b12:=b1.trans (b2.mono b1.size)
   have z2:=b12.size
   clear b1 b2 HO1
   go_wp2_with fail
   refine (HRO.o _).mono ?_
   rintro e w3 ⟨A3,c3,rfl,o3,b3⟩
   have b23:Below w2.heap.size w2 w3:=((Below.refl _ _).alloc nlr _).trans (b3.mono (by simp))
   have hout:Own w3 w2.heap.size 5 (.slice (some ⟨w2.heap.size,0,none⟩) 0 0) (byV []):=(Own.empty nlr).below b3
   have hapo:Ap (.slice (some ⟨w2.heap.size,0,none⟩) 0 0) (.slice A3 q c3):=ZhE o3 (by simp)
   have HO3:=Hd (o3.lower (B':=w2.heap.size) (by simp));have HOUT:=Hd hout;have HAP:=Hd hapo
   clear o3 hout hapo b3
   go_wp2_with fail
   go_loopw [7,9,27] (fun v _ i wr=>∃ k:Nat,∃ A c,k≤q∧i=.int .i64 k∧v=.slice A k c∧Own wr w2.heap.size 5 (.slice A k c) (byV ((drL s f).take k))∧Own wr w2.heap.size 9 (.slice A3 q c3) ((ZV s f).map Value.string)∧Ap (.slice A k c) (.slice A3 q c3)∧Below w2.heap.size w2 wr) (fun _ _ i _=>q - (intOf i).toNat)
   case atStart=>exact⟨0,_,_,by omega,rfl,rfl,HOUT.o,HO3.o,HAP.o,b23⟩
   case round =>
    clear b23 HOUT HAP
    obtain⟨k,Ao,co,hk,rfl,rfl,hown,hoa,hap,hbel⟩:=hrel
    have HO:=Hd hown;have HOA:=Hd hoa;have HA2:=Hd hap
    clear hown hoa hap
    by_cases hlt:k<q
    ·obtain⟨x,hx⟩:=Zc (l:=ZV s f) (k:=k) (by rw[HQ.o];exact hlt)
     obtain⟨ad,hae,hcell⟩:=HOA.o.reads.at_ (Zs Value.string hx)
     subst hae
     have hix:=ZjJ (List.mem_of_getElem? hx)
     rw[HM.o] at hix
     have htk:=Zd1 hx
     have hct:=WI (fsL (ZV s f)) x A c _ wr (by rw[HM.o];omega) (HK.o.below hbel nlr)
     rw[HM.o] at hct
     obtain⟨z,hz⟩:∃ z,Yr (fsL (ZV s f)) x=z:=⟨_,rfl⟩
     rw[hz] at hct hix htk
     obtain⟨j,rfl⟩:=Int.eq_ofNat_of_zero_le hix.1
     have hj4:j<4:=by omega
     have hj4':(j:Int)<4:=by omega
     rw[Int.toNat_natCast] at htk
     have hab:(({ data:=#[97,98,99,100] }:ByteArray))[j]'hj4=ltr j:=Zlo j hj4
     have hl3:(byV ((drL s f).take k)).length=k:=by rw[Zm,List.length_take,VC,HQ.o];omega
     have HL3:=Hd hl3;have HTK:=Hd htk;have HCT:=Hd hct
     have hk9:k<4294967296:=by omega
     clear hx hix htk hct hz hl3
     go_wp2_with fail
     refine HCT.o.mono ?_
     rintro e w4 ⟨rfl,d4⟩
     have HOQ:=Hd (HO.o.dr d4);have HOQA:=Hd (HOA.o.dr d4)
     have hbel4:=hbel.trans d4.below
     have hsz:=hbel4.size
     go_wp2_with (at_builtin;refine VP rfl (.tmp 31) (.tmp 36) 22 rfl _ 1 Tryz.underlying22 ZQ rfl rfl HOQ.o _ rfl rfl k HL3.o hk9 (by decide) hsz ?_)
     intro A' c' w5 hown5 hbel5 hsz5 hbes
     rw[ZP,← HTK.o] at hown5
     have HO5:=Hd hown5
     have HB1:=Hd (hbes _ _ _ _ HOQA.o HA2.o)
     clear hown5 hbes
     go_wp2_with fail
     go_roundw
     case rel=>exact⟨k+1,A',c',by omega,by go_num,rfl,HO5.o,HB1.o.1,HB1.o.2,hbel4.trans hbel5⟩
     case measure=>simp[intOf];omega
    ·have hkq:k=q:=by omega
     have h1:(drL s f).take k=drL s f:=List.take_of_length_le (by rw[VC,HQ.o];omega)
     have HO2:=HO.o
     rw[h1] at HO2
     have hcv:=HO2.reads.conv (P:=Tryz.prog) ((VC s f).trans (HQ.o.trans hkq.symm)) 22 9 5 co Tryz.underlying22 Tryz.underlying5 Tryz.underlying9
     clear HO2 h1 hkq
     go_wp2_with fail
     go_ret2
     exact⟨by rw[HS.o,HYES.o];rfl,b12.trans (hbel.mono z2)⟩
def JS (x:ByteArray) (l:List UInt8):Bool:=(L x).isPrefixOf l
def wyA (l:List UInt8) (r:List Nat) (a:Nat) (x:ByteArray):Nat:=if JS x l then min (a+r.getD (x.size - 1) 0) 1000000 else a
def wyL (zs:List ByteArray):List UInt8→List Nat
 | []=>[1]
 | d :: l=>zs.foldl (wyA (d :: l) (wyL zs l)) 0 :: wyL zs l
def wyN (zs:List ByteArray) (l:List UInt8):Nat:=(wyL zs l).headD 0
theorem Ys (zs:List ByteArray):∀ l:List UInt8,(wyL zs l).length=l.length+1
 | []=>rfl
 | d :: l=>by rw[wyL,List.length_cons,Ys zs l,List.length_cons]
theorem ZdM (zs:List ByteArray):∀ (j:Nat) (l:List UInt8),j≤l.length→(wyL zs l).drop j=wyL zs (l.drop j)
 | 0,l,_=>rfl
 | j+1,[],h=>by simp at h
 | j+1,d :: l,h=>by
  rw[wyL,List.drop_succ_cons,List.drop_succ_cons]
  exact ZdM zs j l (by rw[List.length_cons] at h;omega)
theorem Ze1 (zs:List ByteArray) (j:Nat) (l:List UInt8) (h:j≤l.length):(wyL zs l)[j]? = some (wyN zs (l.drop j)):=by
 have h1:=ZdM zs j l h
 have h2:=Ys zs (l.drop j)
 rw[wyN,← h1]
 rw[← h1] at h2
 have hl:=Ys zs l
 rw[List.drop_eq_getElem_cons (by omega)]
 rw[List.getElem?_eq_getElem (by omega)]
 rfl
theorem Zje (zs:List ByteArray) (j:Nat) (l:List UInt8) (h:j≤l.length):(wyL zs l).getD j 0=wyN zs (l.drop j):=by
 rw[List.getD_eq_getElem?_getD,Ze1 zs j l h];rfl
theorem ZlD (l:List UInt8) (r:List Nat) (a:Nat) (x:ByteArray) (h:a≤1000000):wyA l r a x≤1000000:=by
 unfold wyA;split
 ·exact Nat.min_le_right _ _
 ·exact h
theorem Zjf (l:List UInt8) (r:List Nat):∀ (zs:List ByteArray) (a:Nat),a≤1000000→zs.foldl (wyA l r) a≤1000000
 | [],a,h=>h
 | x :: zs,a,h=>Zjf l r zs _ (ZlD l r a x h)
theorem Ze2 (zs:List ByteArray):∀ (l:List UInt8),∀ n∈wyL zs l,n≤1000000
 | [],n,h=>by rw[wyL,List.mem_singleton] at h;omega
 | d :: l,n,h=>by
  rw[wyL,List.mem_cons] at h
  rcases h with h|h
  ·rw[h];exact Zjf _ _ zs 0 (Nat.zero_le _)
  ·exact Ze2 zs l n h
theorem Zjg (zs:List ByteArray) (d:UInt8) (l:List UInt8):wyN zs (d :: l)=zs.foldl (wyA (d :: l) (wyL zs l)) 0:=rfl
theorem VA {x:ByteArray} {l:List UInt8} (h:JS x l=true):x.size≤l.length:=by
 have:=(List.isPrefixOf_iff_prefix.1 h).length_le
 rwa[Zj] at this
theorem Zf4 {x:ByteArray} {l:List UInt8}:JS x l=true↔l.take x.size=L x:=by
 rw[JS,List.isPrefixOf_iff_prefix,List.prefix_iff_eq_take,Zj]
 exact eq_comm
theorem ZlE (zs:List ByteArray) {d:UInt8} {l:List UInt8} (a:Nat) {x:ByteArray} (hx:1≤x.size) (h:JS x (d :: l)=true):wyA (d :: l) (wyL zs l) a x=min (a+wyN zs ((d :: l).drop x.size)) 1000000:=by
 have hl:=VA h
 rw[List.length_cons] at hl
 rw[wyA,if_pos h,Zje zs _ l (by omega)]
 obtain⟨m,hm⟩:∃ m,x.size=m+1:=⟨x.size - 1,by omega⟩
 rw[hm];rfl
def paB (zs:List ByteArray) (l:List UInt8) (x:ByteArray):Bool:=JS x l&&decide (0<wyN zs (l.drop x.size))
theorem Zf5 (zs:List ByteArray) {d:UInt8} {l:List UInt8}:∀ (ys:List ByteArray) (a:Nat),(∀ x∈ys,1≤x.size)→0<ys.foldl (wyA (d :: l) (wyL zs l)) a→0<a∨∃ x∈ys,paB zs (d :: l) x=true
 | [],a,_,h=>.inl h
 | x :: ys,a,hy,h=>by
  rw[List.foldl_cons] at h
  rcases Zf5 zs ys _ (fun z hz=>hy z (List.mem_cons_of_mem _ hz)) h with h1|⟨z,hz,h1⟩
  ·cases hp:JS x (d :: l)
   ·rw[wyA,hp] at h1;exact .inl h1
   ·rw[ZlE zs a (hy x List.mem_cons_self) hp] at h1
    by_cases ha:0<a
    ·exact .inl ha
    ·refine .inr ⟨x,List.mem_cons_self,?_⟩
     rw[paB,hp,Bool.true_and,decide_eq_true_eq]
     omega
  ·exact .inr ⟨z,List.mem_cons_of_mem _ hz,h1⟩
theorem Zjh {zs:List ByteArray} (h1:∀ x∈zs,1≤x.size) {d:UInt8} {l:List UInt8} (h:0<wyN zs (d :: l)):∃ x∈zs,paB zs (d :: l) x=true:=by
 rw[Zjg] at h
 rcases Zf5 zs zs 0 h1 h with h|h
 ·omega
 ·exact h
def paK (zs:List ByteArray) (l:List UInt8):Nat:=zs.findIdx (paB zs l)
def paG (zs:List ByteArray):Nat→List UInt8→List UInt8
 | 0,_=>[]
 | f+1,l=>if l.length=0 then [] else UInt8.ofNat (97+paK zs l) :: paG zs f (l.drop (zs.getD (paK zs l) ⟨#[]⟩).size)
def paL (zs:List ByteArray) (l:List UInt8):List UInt8:=paG zs l.length l
theorem ZdN {zs:List ByteArray} (h1:∀ x∈zs,1≤x.size):∀ (f g:Nat) (l:List UInt8),l.length≤f→l.length≤g→0<wyN zs l→paG zs f l=paG zs g l
 | 0,g,l,hf,hg,_=>by
  cases g with
  | zero=>rfl
  | succ g=>rw[paG,paG,if_pos (by omega)]
 | f+1,0,l,hf,hg,_=>by rw[paG,paG,if_pos (by omega)]
 | f+1,g+1,l,hf,hg,hw=>by
  rw[paG,paG]
  cases l with
  | nil=>rfl
  | cons d l =>
   rw[if_neg (by simp),if_neg (by simp)]
   congr 1
   obtain⟨x,hx,hp⟩:=Zjh h1 hw
   have hk:paK zs (d :: l)<zs.length:=List.findIdx_lt_length.2 ⟨x,hx,hp⟩
   have hpk:paB zs (d :: l) (zs[paK zs (d :: l)]'hk)=true:=List.findIdx_getElem (w:=hk)
   have hgd:zs.getD (paK zs (d :: l)) ⟨#[]⟩=zs[paK zs (d :: l)]'hk:=by rw[List.getD_eq_getElem?_getD,List.getElem?_eq_getElem hk];rfl
   have hz:=h1 _ (List.getElem_mem hk)
   rw[hgd]
   rw[paB,Bool.and_eq_true,decide_eq_true_eq] at hpk
   refine ZdN h1 f g _ ?_ ?_ hpk.2
   ·rw[List.length_drop];omega
   ·rw[List.length_drop];omega
theorem Zf6 (zs:List ByteArray):paL zs []=[]:=rfl
theorem ZdO {zs:List ByteArray} (h1:∀ x∈zs,1≤x.size) {l:List UInt8} (hl:0<l.length) (hw:0<wyN zs l) :
  ∃ k x,zs[k]? = some x∧paB zs l x=true∧(∀ j y,j<k→zs[j]? = some y→paB zs l y=false)∧paL zs l=UInt8.ofNat (97+k) :: paL zs (l.drop x.size)∧0<wyN zs (l.drop x.size)∧1≤x.size∧x.size≤l.length:=by
 cases l with
 | nil=>cases hl
 | cons d l =>
  obtain⟨y,hy,hp⟩:=Zjh h1 hw
  have hk:paK zs (d :: l)<zs.length:=List.findIdx_lt_length.2 ⟨y,hy,hp⟩
  have hpk:paB zs (d :: l) (zs[paK zs (d :: l)]'hk)=true:=List.findIdx_getElem (w:=hk)
  have hgd:zs.getD (paK zs (d :: l)) ⟨#[]⟩=zs[paK zs (d :: l)]'hk:=by rw[List.getD_eq_getElem?_getD,List.getElem?_eq_getElem hk];rfl
  have hz:=h1 _ (List.getElem_mem hk)
  have hpk2:=hpk
  rw[paB,Bool.and_eq_true,decide_eq_true_eq] at hpk2
  refine⟨paK zs (d :: l),zs[paK zs (d :: l)]'hk,List.getElem?_eq_getElem hk,hpk,fun j y hj hjy=>?_,?_,hpk2.2,hz,VA hpk2.1⟩
  ·have:=List.not_of_lt_findIdx (p:=paB zs (d :: l)) (xs:=zs) hj
   obtain⟨hj2,rfl⟩:=List.getElem?_eq_some_iff.1 hjy
   simpa using this
  ·rw[paL,List.length_cons,paG,if_neg (by simp),hgd]
   congr 1
   refine ZdN h1 _ _ _ ?_ ?_ hpk2.2
   ·rw[List.length_drop,List.length_cons];omega
   ·exact Nat.le_refl _
theorem Zf7 {zs:List ByteArray}:∀ (f:Nat) (l:List UInt8),(paG zs f l).length≤f
 | 0,l=>Nat.le_refl _
 | f+1,l=>by
  rw[paG];split
  ·exact Nat.zero_le _
  ·rw[List.length_cons];have:=Zf7 (zs:=zs) f (l.drop (zs.getD (paK zs l) ⟨#[]⟩).size);omega
theorem ZkN (zs:List ByteArray) (l:List UInt8):(paL zs l).length≤l.length:=Zf7 _ _
def Zhe (zs:List ByteArray) (s:ByteArray):Bool:=Zf zs&&isW (L s)
def paV (zs:List ByteArray) (s:ByteArray):Option ByteArray:=if Zhe zs s=true then (if 0<wyN zs (L s) then some (Zd (paL zs (L s))) else none) else none
def apS (zs:List ByteArray) (x:ByteArray):ByteArray:=Zd (apL zs (L x))
def tsV (zs:List ByteArray):Option (List ByteArray):=if Zf zs=true then some (zs.map trn) else none
def cmV (zs ys:List ByteArray):Option (List ByteArray):=if Zf zs=true∧Zf ys=true∧zs.length=ys.length∧Zf (zs.map (apS ys))=true then some (zs.map (apS ys)) else none
theorem Zkj (l:List UInt8):isW l.reverse=isW l:=by rw[isW,isW,List.all_reverse,List.length_reverse]
theorem ZhV (n:Nat) (l:List UInt8):Qr n l.reverse=Qr n l:=by rw[Qr,Qr,List.all_reverse]
theorem Zkk (n:Nat) (x:ByteArray):Qa n (trn x)=Qa n x:=by
 rw[Qa,Qa,trn,Zh,VB,Zy,rv,Zkj,ZhV]
theorem Zew (zs:List ByteArray):Zf (zs.map trn)=Zf zs:=by
 rw[Zf,Zf,List.all_map,List.length_map]
 congr 2
 funext x
 exact Zkk _ x
theorem Zls {zs ys:List ByteArray} (h:tsV zs=some ys):Zf ys=true:=by
 unfold tsV at h
 split at h
 ·injection h with h;rw[← h,Zew];assumption
 ·cases h
theorem Zex {zs ys xs:List ByteArray} (h:cmV zs ys=some xs):Zf xs=true:=by
 unfold cmV at h
 split at h
 ·rename_i h2;injection h with h;rw[← h];exact h2.2.2.2
 ·cases h
theorem ZhW {s:ByteArray} {ys:List ByteArray} (h:psV s=some ys):Zf ys=true:=by
 unfold psV at h
 split at h
 ·injection h with h;rw[← h];assumption
 ·cases h
theorem Zle {p q i:Nat} (h:i * p / q<(i+1) * p / q):mcC p q i=98:=if_pos h
theorem Zlf {p q i:Nat} (h:¬ i * p / q<(i+1) * p / q):mcC p q i=97:=if_neg h
theorem ZfV {p q n:Int} (h:Zaq p q n=true):mcV p q n=some (Zd (mcL p.toNat q.toNat n.toNat)):=if_pos h
theorem ZiQ {p q n:Int} (h:¬ Zaq p q n=true):mcV p q n=none:=if_neg h
theorem Yp {p q n:Int}:Zaq p q n=true↔(1≤q∧q≤100)∧(0≤p∧p≤q)∧0≤n∧n≤400:=by
 rw[Zaq,Bool.and_eq_true,Bool.and_eq_true,decide_eq_true_eq,decide_eq_true_eq,decide_eq_true_eq]
theorem Zg6 (p q n:Nat) (hq:1≤q) (hq2:q≤100) (hp:p≤q) (hn:n≤400) (w:World) :
  Calls Tryz.prog 131 #[.int .i64 p,.int .i64 q,.int .i64 0,.int .i64 n] w fun e w'=>e=.returned (.tuple #[.string (Zd (mcL p q n)),.bool true])∧Below w.heap.size w w':=by
 go_enter Tryz.func131,Tryz.ntmps131
 go_wp2_with (go_at_call 65;refine (Zo _ _ _ (by omega) _).mono ?_;rintro e w' ⟨rfl,rfl⟩)
 go_loopw [10,11,35] (fun b _ i wr=>∃ k:Nat,∃ A c,k≤n∧i=.int .i64 k∧b=.slice A k c∧Own wr w.heap.size 5 (.slice A k c) (byV (mcL p q k))∧Below w.heap.size w wr) (fun _ _ i _=>n - (intOf i).toNat)
 case atStart=>exact⟨0,_,_,by omega,rfl,rfl,Own.empty nlr,(Below.refl _ _).alloc nlr _⟩
 case round =>
  obtain⟨k,A,c,hk,rfl,rfl,hown,hbel⟩:=hrel
  have HO:=Hd hown;clear hown
  by_cases hlt:k<n
  ·obtain⟨u,hu⟩:∃ u:Nat,k * p=u:=⟨_,rfl⟩
   obtain⟨v,hv⟩:∃ v:Nat,(k+1) * p=v:=⟨_,rfl⟩
   have hu2:u≤40000:=by rw[← hu];exact Nat.le_trans (Nat.mul_le_mul (show k≤400 by omega) (show p≤100 by omega)) (by decide)
   have hv2:v≤40100:=by rw[← hv];exact Nat.le_trans (Nat.mul_le_mul (show k+1≤401 by omega) (show p≤100 by omega)) (by decide)
   have e1:(k:Int) * (p:Int)=(u:Int):=by rw[← hu];simp
   have e2:((k:Int)+1) * (p:Int)=(v:Int):=by rw[← hv];simp
   obtain⟨x,hx⟩:∃ x:Nat,u / q=x:=⟨_,rfl⟩
   obtain⟨y,hy⟩:∃ y:Nat,v / q=y:=⟨_,rfl⟩
   have hx2:x≤40000:=by rw[← hx];exact Nat.le_trans (Nat.div_le_self _ _) hu2
   have hy2:y≤40100:=by rw[← hy];exact Nat.le_trans (Nat.div_le_self _ _) hv2
   have e3:(u:Int) / (q:Int)=(x:Int):=by rw[← hx];simp
   have e4:(v:Int) / (q:Int)=(y:Int):=by rw[← hy];simp
   have hq0:¬ (q:Int)=0:=by omega
   have hq00:((q:Int)==0)=false:=beq_eq_false_iff_ne.2 hq0
   have hq1:(0:Int)<(q:Int):=by omega
   have hu0:(0:Int)≤(u:Int):=by omega
   have hv0:(0:Int)≤(v:Int):=by omega
   by_cases hxy:x<y
   ·have hat:mcC p q k=98:=Zle (by rw[hu,hv,hx,hy];exact hxy)
    have HAT:=Hd hat;clear hat hu hv hx hy
    go_wp2_with fail
    go_quiet (fail)
    have HO1:=Hd (HO.o.dr ((Dr.refl wr).drewN nq));clear HO
    have hb1:=hbel.trans ((Dr.refl wr).drewN nq).below
    have hsl:=hb1.size
    go_wp2_with (at_builtin;refine Zp rfl (.tmp 54) (.tmp 55) 22 rfl _ 1 Tryz.underlying22 ZQ rfl rfl HO1.o _ rfl rfl k ?n1 ?n2 ?n3 ?n4 ?_)
    case n1=>rw[Zm,Vv]
    case n2=>omega
    case n3=>decide
    case n4=>exact hsl
    intro A' c' w2 hown2 hbel2 hsz2
    rw[show byV (mcL p q k)++[Value.int .u8 98]=byV (mcL p q (k+1)) from by rw[Yi,HAT.o,← ZP];rfl] at hown2
    have HO2:=Hd hown2;clear hown2
    go_wp2_with fail
    go_roundw
    case rel=>exact⟨k+1,A',c',by omega,by go_num,rfl,HO2.o,hb1.trans hbel2⟩
    case measure=>simp[intOf];omega
   ·have hxy2:¬ ((x:Int)<(y:Int)):=by omega
    have hat:mcC p q k=97:=Zlf (by rw[hu,hv,hx,hy];exact hxy)
    have HAT:=Hd hat;clear hat hu hv hx hy
    go_wp2_with fail
    go_quiet (fail)
    have HO1:=Hd (HO.o.dr ((Dr.refl wr).drewN nq));clear HO
    have hb1:=hbel.trans ((Dr.refl wr).drewN nq).below
    have hsl:=hb1.size
    go_wp2_with (at_builtin;refine Zp rfl (.tmp 57) (.tmp 58) 22 rfl _ 1 Tryz.underlying22 ZQ rfl rfl HO1.o _ rfl rfl k ?n1 ?n2 ?n3 ?n4 ?_)
    case n1=>rw[Zm,Vv]
    case n2=>omega
    case n3=>decide
    case n4=>exact hsl
    intro A' c' w2 hown2 hbel2 hsz2
    rw[show byV (mcL p q k)++[Value.int .u8 97]=byV (mcL p q (k+1)) from by rw[Yi,HAT.o,← ZP];rfl] at hown2
    have HO2:=Hd hown2;clear hown2
    go_wp2_with fail
    go_roundw
    case rel=>exact⟨k+1,A',c',by omega,by go_num,rfl,HO2.o,hb1.trans hbel2⟩
    case measure=>simp[intOf];omega
  ·have hkn:k=n:=by omega
   subst hkn
   have hcv:=HO.o.reads.conv (P:=Tryz.prog) (Vv p q k) 22 9 5 c Tryz.underlying22 Tryz.underlying5 Tryz.underlying9
   clear hlt
   go_wp2_with fail
   go_ret2
   exact⟨rfl,hbel⟩
theorem ZdI (p q n:Nat) (hq:1≤q) (hq2:q≤100) (hp:p≤q) (hn:n≤400) (w:World) :
  Calls Tryz.prog 183 #[.int .i64 p,.int .i64 q,.int .i64 0,.int .i64 n] w fun e w'=>e=.returned (.string (Zd (mcL p q n)))∧Below w.heap.size w w':=by
 go_enter Tryz.func183,Tryz.ntmps183
 go_wp2_with fail
 go_loopw [9,10] (fun b i wr=>∃ k:Nat,∃ A c,k≤n∧i=.int .i64 k∧b=.slice A k c∧Own wr w.heap.size 5 (.slice A k c) (byV (mcL p q k))∧Below w.heap.size w wr) (fun _ i _=>n - (intOf i).toNat)
 case atStart=>exact⟨0,_,_,by omega,rfl,rfl,Own.empty nlr,(Below.refl _ _).alloc nlr _⟩
 case round =>
  obtain⟨k,A,c,hk,rfl,rfl,hown,hbel⟩:=hrel
  have HO:=Hd hown;clear hown
  by_cases hlt:k<n
  ·obtain⟨u,hu⟩:∃ u:Nat,k * p=u:=⟨_,rfl⟩
   obtain⟨v,hv⟩:∃ v:Nat,(k+1) * p=v:=⟨_,rfl⟩
   have hu2:u≤40000:=by rw[← hu];exact Nat.le_trans (Nat.mul_le_mul (show k≤400 by omega) (show p≤100 by omega)) (by decide)
   have hv2:v≤40100:=by rw[← hv];exact Nat.le_trans (Nat.mul_le_mul (show k+1≤401 by omega) (show p≤100 by omega)) (by decide)
   have e1:(k:Int) * (p:Int)=(u:Int):=by rw[← hu];simp
   have e2:((k:Int)+1) * (p:Int)=(v:Int):=by rw[← hv];simp
   obtain⟨x,hx⟩:∃ x:Nat,u / q=x:=⟨_,rfl⟩
   obtain⟨y,hy⟩:∃ y:Nat,v / q=y:=⟨_,rfl⟩
   have hx2:x≤40000:=by rw[← hx];exact Nat.le_trans (Nat.div_le_self _ _) hu2
   have hy2:y≤40100:=by rw[← hy];exact Nat.le_trans (Nat.div_le_self _ _) hv2
   have e3:(u:Int) / (q:Int)=(x:Int):=by rw[← hx];simp
   have e4:(v:Int) / (q:Int)=(y:Int):=by rw[← hy];simp
   have hq0:¬ (q:Int)=0:=by omega
   have hq00:((q:Int)==0)=false:=beq_eq_false_iff_ne.2 hq0
   have hq1:(0:Int)<(q:Int):=by omega
   have hu0:(0:Int)≤(u:Int):=by omega
   have hv0:(0:Int)≤(v:Int):=by omega
   by_cases hxy:x<y
   ·have hat:mcC p q k=98:=Zle (by rw[hu,hv,hx,hy];exact hxy)
    have HAT:=Hd hat;clear hat hu hv hx hy
    go_wp2_with fail
    go_quiet (fail)
    have HO1:=Hd (HO.o.dr ((Dr.refl wr).drewN nq));clear HO
    have hb1:=hbel.trans ((Dr.refl wr).drewN nq).below
    have hsl:=hb1.size
    go_wp2_with (at_builtin;refine Zp rfl (.tmp 33) (.tmp 34) 22 rfl _ 1 Tryz.underlying22 ZQ rfl rfl HO1.o _ rfl rfl k ?n1 ?n2 ?n3 ?n4 ?_)
    case n1=>rw[Zm,Vv]
    case n2=>omega
    case n3=>decide
    case n4=>exact hsl
    intro A' c' w2 hown2 hbel2 hsz2
    rw[show byV (mcL p q k)++[Value.int .u8 98]=byV (mcL p q (k+1)) from by rw[Yi,HAT.o,← ZP];rfl] at hown2
    have HO2:=Hd hown2;clear hown2
    go_wp2_with fail
    go_roundw
    case rel=>exact⟨k+1,A',c',by omega,by go_num,rfl,HO2.o,hb1.trans hbel2⟩
    case measure=>simp[intOf];omega
   ·have hxy2:¬ ((x:Int)<(y:Int)):=by omega
    have hat:mcC p q k=97:=Zlf (by rw[hu,hv,hx,hy];exact hxy)
    have HAT:=Hd hat;clear hat hu hv hx hy
    go_wp2_with fail
    go_quiet (fail)
    have HO1:=Hd (HO.o.dr ((Dr.refl wr).drewN nq));clear HO
    have hb1:=hbel.trans ((Dr.refl wr).drewN nq).below
    have hsl:=hb1.size
    go_wp2_with (at_builtin;refine Zp rfl (.tmp 36) (.tmp 37) 22 rfl _ 1 Tryz.underlying22 ZQ rfl rfl HO1.o _ rfl rfl k ?n1 ?n2 ?n3 ?n4 ?_)
    case n1=>rw[Zm,Vv]
    case n2=>omega
    case n3=>decide
    case n4=>exact hsl
    intro A' c' w2 hown2 hbel2 hsz2
    rw[show byV (mcL p q k)++[Value.int .u8 97]=byV (mcL p q (k+1)) from by rw[Yi,HAT.o,← ZP];rfl] at hown2
    have HO2:=Hd hown2;clear hown2
    go_wp2_with fail
    go_roundw
    case rel=>exact⟨k+1,A',c',by omega,by go_num,rfl,HO2.o,hb1.trans hbel2⟩
    case measure=>simp[intOf];omega
  ·have hkn:k=n:=by omega
   subst hkn
   have hcv:=HO.o.reads.conv (P:=Tryz.prog) (Vv p q k) 22 9 5 c Tryz.underlying22 Tryz.underlying5 Tryz.underlying9
   clear hlt
   go_wp2_with fail
   go_ret
   exact⟨rfl,hbel⟩
theorem Zg7 (p q n:Nat) (hq:1≤q) (hq2:q≤100) (hp:p≤q) (hn:n≤400) (w:World) :
  Calls Tryz.prog 104 #[.int .i64 p,.int .i64 q,.int .i64 0,.int .i64 n] w fun e w'=>e=.returned (.tuple #[.string (Zd (mcL p q n)),.bool true])∧Below w.heap.size w w':=by
 have HM:=Hd (fun w=>ZdI p q n hq hq2 hp hn w)
 go_enter Tryz.func104,Tryz.ntmps104
 go_wp2_with (go_at_call 146;refine (Zw _ _ _ (by omega) _).mono ?_;rintro e w' ⟨rfl,rfl⟩)
 refine (HM.o _).mono ?_
 rintro e w1 ⟨rfl,b1⟩
 go_wp2_with fail
 go_ret2
 exact⟨rfl,b1⟩
theorem ZiR (p q n:Int) (hp:I64 p) (hq:I64 q) (hn:I64 n) (h:¬ Zaq p q n=true) (w:World) :
  Calls Tryz.prog 131 #[.int .i64 p,.int .i64 q,.int .i64 0,.int .i64 n] w fun e w'=>e=.returned (.tuple #[.string { data:=#[] },.bool false])∧w=w':=by
 rw[Yp] at h
 unfold I64 at hp hq hn
 by_cases h1:1≤q∧q≤100
 ·by_cases h2:0≤p∧p≤q
  ·have h3:¬ (0≤n∧n≤400):=fun h3=>h ⟨h1,h2,h3⟩
   have h4:(0:Int)≤0∧(0:Int)≤q - 1:=by omega
   clear h
   go_enter Tryz.func131,Tryz.ntmps131
   go_wp2_with (go_at_call 65;first|(refine (Zo _ _ _ (by omega) _).mono ?_;rintro e w' ⟨rfl,rfl⟩)|(refine (ZK _ _ _ (by omega) _).mono ?_;rintro e w' ⟨rfl,rfl⟩))
   go_ret2
   exact⟨rfl,rfl⟩
  ·clear h
   go_enter Tryz.func131,Tryz.ntmps131
   go_wp2_with (go_at_call 65;first|(refine (Zo _ _ _ (by omega) _).mono ?_;rintro e w' ⟨rfl,rfl⟩)|(refine (ZK _ _ _ (by omega) _).mono ?_;rintro e w' ⟨rfl,rfl⟩))
   go_ret2
   exact⟨rfl,rfl⟩
 ·clear h
  go_enter Tryz.func131,Tryz.ntmps131
  go_wp2_with (go_at_call 65;refine (ZK _ _ _ h1 _).mono ?_;rintro e w' ⟨rfl,rfl⟩)
  go_ret2
  exact⟨rfl,rfl⟩
theorem Zg8 (p q n:Int) (hp:I64 p) (hq:I64 q) (hn:I64 n) (w:World) :
  Calls Tryz.prog 131 #[.int .i64 p,.int .i64 q,.int .i64 0,.int .i64 n] w fun e w'=>e=.returned (okS (mcV p q n))∧Below w.heap.size w w':=by
 by_cases h:Zaq p q n=true
 ·rw[ZfV h]
  obtain⟨h1,h2,h3⟩:=Yp.1 h
  obtain⟨P,rfl⟩:=Int.eq_ofNat_of_zero_le h2.1
  obtain⟨Q,rfl⟩:=Int.eq_ofNat_of_zero_le (show 0≤q by omega)
  obtain⟨N,rfl⟩:=Int.eq_ofNat_of_zero_le h3.1
  exact Zg6 P Q N (by omega) (by omega) (by omega) (by omega) w
 ·rw[ZiQ h]
  refine (ZiR p q n hp hq hn h w).mono ?_
  rintro e w' ⟨rfl,rfl⟩
  exact⟨rfl,Below.refl _ _⟩
theorem ZiS (p q n:Int) (hp:I64 p) (hq:I64 q) (hn:I64 n) (h:¬ Zaq p q n=true) (w:World) :
  Calls Tryz.prog 104 #[.int .i64 p,.int .i64 q,.int .i64 0,.int .i64 n] w fun e w'=>e=.returned (.tuple #[.string { data:=#[] },.bool false])∧w=w':=by
 rw[Yp] at h
 unfold I64 at hp hq hn
 by_cases h1:1≤q∧q≤100
 ·by_cases h2:0≤p∧p≤q
  ·have h3:¬ (0≤n∧n≤400):=fun h3=>h ⟨h1,h2,h3⟩
   have h4:(0:Int)≤0∧(0:Int)≤q - 1:=by omega
   clear h
   go_enter Tryz.func104,Tryz.ntmps104
   go_wp2_with (go_at_call 146;first|(refine (Zw _ _ _ (by omega) _).mono ?_;rintro e w' ⟨rfl,rfl⟩)|(refine (ZU _ _ _ (by omega) _).mono ?_;rintro e w' ⟨rfl,rfl⟩))
   go_ret2
   exact⟨rfl,rfl⟩
  ·clear h
   go_enter Tryz.func104,Tryz.ntmps104
   go_wp2_with (go_at_call 146;first|(refine (Zw _ _ _ (by omega) _).mono ?_;rintro e w' ⟨rfl,rfl⟩)|(refine (ZU _ _ _ (by omega) _).mono ?_;rintro e w' ⟨rfl,rfl⟩))
   go_ret2
   exact⟨rfl,rfl⟩
 ·clear h
  go_enter Tryz.func104,Tryz.ntmps104
  go_wp2_with (go_at_call 146;refine (ZU _ _ _ h1 _).mono ?_;rintro e w' ⟨rfl,rfl⟩)
  go_ret2
  exact⟨rfl,rfl⟩
theorem Zg9 (p q n:Int) (hp:I64 p) (hq:I64 q) (hn:I64 n) (w:World) :
  Calls Tryz.prog 104 #[.int .i64 p,.int .i64 q,.int .i64 0,.int .i64 n] w fun e w'=>e=.returned (okS (mcV p q n))∧Below w.heap.size w w':=by
 by_cases h:Zaq p q n=true
 ·rw[ZfV h]
  obtain⟨h1,h2,h3⟩:=Yp.1 h
  obtain⟨P,rfl⟩:=Int.eq_ofNat_of_zero_le h2.1
  obtain⟨Q,rfl⟩:=Int.eq_ofNat_of_zero_le (show 0≤q by omega)
  obtain⟨N,rfl⟩:=Int.eq_ofNat_of_zero_le h3.1
  exact Zg7 P Q N (by omega) (by omega) (by omega) (by omega) w
 ·rw[ZiQ h]
  refine (ZiS p q n hp hq hn h w).mono ?_
  rintro e w' ⟨rfl,rfl⟩
  exact⟨rfl,Below.refl _ _⟩
theorem Zhv (l:List ByteArray) (A:Option Addr) (n c B:Nat) (w:World) (hn:l.length=n) (h0:n≠0) (hl:l.length≤1000) (hz:∀ x∈l,x.size≤400) (ho:Own w B 9 (.slice A n c) (l.map Value.string)) :
  Calls Tryz.prog 28 #[.slice A n c,.string { data:=#[46] }] w fun e w'=>e=.returned (.string (Zd (jnL l)))∧Below w.heap.size w w':=by
 subst hn
 obtain⟨g,rfl,_,hgs,_,_,_⟩:=ho.store (k:=0) (by rw[List.length_map];omega)
 obtain⟨A',c',hv,hc1,_,_⟩:=ho.shape
 injection hv with e1 e2 e3
 subst e3
 rw[List.length_map] at hc1
 have hjl:=Zcp l hz
 refine Tryz.strings_Join g 0 c l { data:=#[46] } w (fun j x hx=>?_) hgs (by omega) hc1 (by
  show (jnL l).length≤_
  omega)
 rw[Nat.zero_add]
 have h:=World.ownsRow.cellAt (g:=g) (n:=(l.map Value.string).length) (by
  have:=ho
  unfold Own at this
  rw[List.length_map] at this ⊢
  exact this) j (by rw[List.length_map];have:=(List.getElem?_eq_some_iff.1 hx).1;omega)
 rw[h];exact Zs Value.string hx
theorem Zcq {s f x:ByteArray} (hs:s.size≤400) (h:x∈fsL (ZV s f)):x.size≤400:=by
 rcases Zgn (ZV s f) [] x h with h|h
 ·simp at h
 ·have:=Zhw h;omega
theorem WW {s:ByteArray} (h:s.size≤400):(orS s).size≤400:=by
 unfold orS;split
 ·decide
 ·exact h
theorem Vr (s f:ByteArray):(drS s f).size≤400:=by
 unfold drS;split
 ·rw[Zh,VC];exact Jv s f
 ·decide
theorem Za0 {s f:ByteArray} (h:drB s f=true):s.size≤400:=by
 unfold drB at h
 simp only[Bool.and_eq_true,decide_eq_true_eq] at h
 exact Zj0 h.1
theorem XD (s f:ByteArray) (hs:s.size≤maxLen) (hf:f.size≤maxLen) (w:World) :
  Calls Tryz.prog 124 #[.string s,.string f] w fun e w'=>e=.returned (.string (rlS s f))∧Below w.heap.size w w':=by
 cases hb:drB s f
 ·have hrl:rlS s f={ data:=#[110,111,110,101] }:=by rw[rlS,hb,if_neg (by simp)]
  have HRL:=Hd hrl;have HB:=Hd hb
  clear hrl hb
  go_enter Tryz.func124,Tryz.ntmps124
  go_wp2_with fail
  refine (QC s f hs hf _).mono ?_
  rw[HB.o]
  rintro e w1 ⟨rfl,b1⟩
  go_wp2_with fail
  refine (Q6 s f hs hf _).mono ?_
  rintro e w2 ⟨A,c,rfl,o2,b2⟩
  clear o2
  go_wp2_with fail
  go_ret
  exact⟨by rw[HRL.o];rfl,b1.trans (b2.mono b1.size)⟩
 ·have hs4:=Za0 hb
  obtain⟨m,hm⟩:∃ m,(fsL (ZV s f)).length=m:=⟨_,rfl⟩
  have hrw:=fun w=>Q6 s f hs hf w
  rw[hm] at hrw
  by_cases h0:m=0
  ·have hrl:rlS s f={ data:=#[110,111,110,101] }:=by rw[rlS,hm,h0,if_neg (by simp)]
   have HRL:=Hd hrl;have HB:=Hd hb;have HRW:=Hd hrw
   subst h0
   clear hrl hb hrw hm
   go_enter Tryz.func124,Tryz.ntmps124
   go_wp2_with fail
   refine (QC s f hs hf _).mono ?_
   rw[HB.o]
   rintro e w1 ⟨rfl,b1⟩
   go_wp2_with fail
   refine (HRW.o _).mono ?_
   rintro e w2 ⟨A,c,rfl,o2,b2⟩
   clear o2
   go_wp2_with fail
   go_ret
   exact⟨by rw[HRL.o];rfl,b1.trans (b2.mono b1.size)⟩
  ·have hmb:((m:Int)==0)=false:=by simp;omega
   have hm4:m≤400:=by rw[← hm];exact Nat.le_trans (Zci _) (Jv s f)
   have hz:∀ x∈fsL (ZV s f),x.size≤400:=fun x hx=>Zcq hs4 hx
   have hjl:=Zcp (fsL (ZV s f)) hz
   rw[hm] at hjl
   obtain⟨jn,hjn⟩:∃ jn,Zd (jnL (fsL (ZV s f)))=jn:=⟨_,rfl⟩
   have hjs:jn.size≤160400:=by rw[← hjn,Zh];omega
   have hrl:rlS s f=jn++{ data:=#[32] }++orS (drS s f):=by rw[rlS,if_pos ⟨hb,by rw[hm];exact h0⟩,hjn]
   obtain⟨od,hod⟩:∃ od,orS (drS s f)=od:=⟨_,rfl⟩
   have hos:od.size≤400:=by rw[← hod];exact WW (Vr s f)
   have hsp:(jn++({ data:=#[32] }:ByteArray)).size=jn.size+1:=by rw[ByteArray.size_append];rfl
   have hor:=fun w=>Zfe (drS s f) w
   rw[hod] at hrl hor
   have HRL:=Hd hrl;have HB:=Hd hb;have HRW:=Hd hrw;have HZ:=Hd hz;have HM:=Hd hm;have HOR:=Hd hor;have HJN:=Hd hjn
   clear hrl hb hrw hz hm hor hjn hjl hod
   go_enter Tryz.func124,Tryz.ntmps124
   go_wp2_with fail
   refine (QC s f hs hf _).mono ?_
   rw[HB.o]
   rintro e w1 ⟨rfl,b1⟩
   go_wp2_with fail
   refine (HRW.o _).mono ?_
   rintro e w2 ⟨A,c,rfl,o2,b2⟩
   have HO2:=Hd o2
   clear o2
   go_wp2_with fail
   have hjc:=Zhv (fsL (ZV s f)) A m c _ w2 HM.o h0 (by rw[HM.o];omega) HZ.o HO2.o
   rw[HJN.o] at hjc
   refine hjc.mono ?_
   rintro e w3 ⟨rfl,b3⟩
   go_wp2_with fail
   refine (HOR.o _).mono ?_
   rintro e w4 ⟨rfl,rfl⟩
   go_wp2_with fail
   go_ret
   exact⟨by rw[HRL.o];rfl,((b1.trans (b2.mono b1.size)).trans (b3.mono (by have:=b1.size;have:=b2.size;omega)))⟩
theorem XG (s f:ByteArray) (hs:s.size≤maxLen) (hf:f.size≤maxLen) (w:World) :
  Calls Tryz.prog 82 #[.string s,.string f] w fun e w'=>e=.returned (.string (rlS s f))∧Below w.heap.size w w':=by
 cases hb:drB s f
 ·have hrl:rlS s f={ data:=#[110,111,110,101] }:=by rw[rlS,hb,if_neg (by simp)]
  have HRL:=Hd hrl;have HB:=Hd hb
  clear hrl hb
  go_enter Tryz.func82,Tryz.ntmps82
  go_wp2_with fail
  refine (QB s f hs hf _).mono ?_
  rw[HB.o]
  rintro e w1 ⟨rfl,b1⟩
  go_wp2_with fail
  refine (JW s f hs hf _).mono ?_
  rintro e w2 ⟨A,c,rfl,o2,b2⟩
  clear o2
  go_wp2_with fail
  go_ret
  exact⟨by rw[HRL.o];rfl,b1.trans (b2.mono b1.size)⟩
 ·have hs4:=Za0 hb
  obtain⟨m,hm⟩:∃ m,(fsL (ZV s f)).length=m:=⟨_,rfl⟩
  have hrw:=fun w=>JW s f hs hf w
  rw[hm] at hrw
  by_cases h0:m=0
  ·have hrl:rlS s f={ data:=#[110,111,110,101] }:=by rw[rlS,hm,h0,if_neg (by simp)]
   have HRL:=Hd hrl;have HB:=Hd hb;have HRW:=Hd hrw
   subst h0
   clear hrl hb hrw hm
   go_enter Tryz.func82,Tryz.ntmps82
   go_wp2_with fail
   refine (QB s f hs hf _).mono ?_
   rw[HB.o]
   rintro e w1 ⟨rfl,b1⟩
   go_wp2_with fail
   refine (HRW.o _).mono ?_
   rintro e w2 ⟨A,c,rfl,o2,b2⟩
   clear o2
   go_wp2_with fail
   go_ret
   exact⟨by rw[HRL.o];rfl,b1.trans (b2.mono b1.size)⟩
  ·have hmb:((m:Int)==0)=false:=by simp;omega
   have hm4:m≤400:=by rw[← hm];exact Nat.le_trans (Zci _) (Jv s f)
   have hz:∀ x∈fsL (ZV s f),x.size≤400:=fun x hx=>Zcq hs4 hx
   have hjl:=Zcp (fsL (ZV s f)) hz
   rw[hm] at hjl
   obtain⟨jn,hjn⟩:∃ jn,Zd (jnL (fsL (ZV s f)))=jn:=⟨_,rfl⟩
   have hjs:jn.size≤160400:=by rw[← hjn,Zh];omega
   have hrl:rlS s f=jn++{ data:=#[32] }++orS (drS s f):=by rw[rlS,if_pos ⟨hb,by rw[hm];exact h0⟩,hjn]
   obtain⟨od,hod⟩:∃ od,orS (drS s f)=od:=⟨_,rfl⟩
   have hos:od.size≤400:=by rw[← hod];exact WW (Vr s f)
   have hsp:(jn++({ data:=#[32] }:ByteArray)).size=jn.size+1:=by rw[ByteArray.size_append];rfl
   have hor:=fun w=>Zht (drS s f) w
   rw[hod] at hrl hor
   have HRL:=Hd hrl;have HB:=Hd hb;have HRW:=Hd hrw;have HZ:=Hd hz;have HM:=Hd hm;have HOR:=Hd hor;have HJN:=Hd hjn
   clear hrl hb hrw hz hm hor hjn hjl hod
   go_enter Tryz.func82,Tryz.ntmps82
   go_wp2_with fail
   refine (QB s f hs hf _).mono ?_
   rw[HB.o]
   rintro e w1 ⟨rfl,b1⟩
   go_wp2_with fail
   refine (HRW.o _).mono ?_
   rintro e w2 ⟨A,c,rfl,o2,b2⟩
   have HO2:=Hd o2
   clear o2
   go_wp2_with fail
   have hjc:=Zhu (fsL (ZV s f)) A c _ w2 (by rw[HM.o];omega) HZ.o HO2.o.reads
   rw[HJN.o,HM.o] at hjc
   refine hjc.mono ?_
   rintro e w3 ⟨rfl,rfl⟩
   go_wp2_with fail
   refine (HOR.o _).mono ?_
   rintro e w4 ⟨rfl,rfl⟩
   go_wp2_with fail
   go_ret
   exact⟨by rw[HRL.o];rfl,(b1.trans (b2.mono b1.size))⟩
end Go.Proofs.YtocbgldilgemoaaGreatDoor
