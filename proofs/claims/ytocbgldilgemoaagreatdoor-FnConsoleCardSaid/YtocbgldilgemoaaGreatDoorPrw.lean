/- IsPrimitiveSubst, both, at valid substitutions. No condition but the bounds. -/
import Derived.Test.YtocbgldilgemoaaGreatDoorM12
import Derived.Test.YtocbgldilgemoaaGreatDoorFxp
namespace Go.Proofs.YtocbgldilgemoaaGreatDoor
set_option maxRecDepth 8000
set_option maxHeartbeats 2000000
open Go.RowKit
set_option linter.unusedVariables false
theorem Zhj (zs:List ByteArray) (A:Option Addr) (nz cz B:Nat) (w:World) (hl:zs.length=nz) (hsu:Zf zs=true) (hrd:Rds w B A (zs.map Value.string)) (hB:B≤w.heap.size) :
  Calls Tryz.prog 35 #[.agg #[.slice A nz cz]] w fun e w'=>e=.returned (.bool (prV zs))∧Below w.heap.size w w':=by
 have bA:Below w.heap.size w (w.alloc (.cells #[.slice A nz cz] 26)):=(Below.refl _ _).alloc nlr _
 have zA:(w.alloc (.cells #[.slice A nz cz] 26)).heap.size=w.heap.size+1:=by simp
 have h0:=cell_of_row _ _ 0 _ _ (0,0) (heap_alloc_new w (.cells #[.slice A nz cz] 26))
 have h4:=(ZE hsu).1
 have h8:∀ x∈zs,x.size≤8:=fun x hx=>((ZE hsu).2 x hx).2.1
 have hc1:=Zz zs A cz B _ (by omega) (by omega) (fun x hx=>by have:=h8 x hx;unfold maxLen;omega) (hrd.below bA hB)
 rw[hl,hsu] at hc1
 have hc2:=fun v hr hv=>Xe zs A nz cz B v hl (by omega) h8 hr hv
 have hms:=Zc1 h8
 obtain⟨V,hV⟩:∃ V,prV zs=V:=⟨_,rfl⟩
 rw[hV]
 rw[prV,hl] at hV
 rw[hl] at hms
 have HC1:=Hd hc1;have HC2:=Hd hc2;have HRD:=Hd hrd;have H0:=Hd h0;have HV:=Hd hV;have HMS:=Hd hms
 rw[hl] at h4
 clear hc1 hc2 hrd h0 h8 hsu hl hV hms
 go_enter Tryz.func35,Tryz.ntmps35
 go_wp2_with fail
 refine HC1.o.mono ?_
 rintro e w1 ⟨rfl,b1⟩
 have bw1:Below w.heap.size w w1:=bA.trans (b1.mono (by omega))
 have z1:=b1.size
 rw[zA] at z1
 have k1:w1.cell? ⟨w.heap.size,0,none⟩=some (.slice A nz cz):=(b1.cell (p:=⟨w.heap.size,0,none⟩) (by show w.heap.size<(w.alloc _).heap.size;omega)).trans H0.o
 go_wp2_with fail
 refine (HC2.o w1 (HRD.o.below bw1 hB) (by omega)).mono ?_
 rintro e w2 ⟨gm,cm,vm,rfl,hbm,b2⟩
 have bw2:Below w.heap.size w w2:=bw1.trans (b2.mono (by omega))
 have hgm:=hbm.gr
 have hcm:=hbm.cap.1
 have hgml:=hbm.lt.2
 have hw2:w.heap.size≤w2.heap.size:=by have:=b2.size;omega
 have HGM:=Hd hgm
 clear hbm b1 b2 k1 HC1 HC2 H0 HRD hgm bA zA
 go_wp2_with fail
 go_loopw [4,5,7,9,10,12,13,14,15,16,23] (fun pw _ _ _ _ _ _ _ _ _ i wr=>∃ (t gp cp:Nat) (p:List (List Int)),t≤16∧i=.int .i64 t∧pw=.slice (some ⟨gp,0,none⟩) nz cp∧nz≤cp∧Gr wr wr.heap.size gp p∧sqM nz p∧prG (mtL zs) nz (16 - t) p=V∧Below w2.heap.size w2 wr) (fun _ _ _ _ _ _ _ _ _ _ i _=>16 - (intOf i).toNat)
 case atStart=>exact⟨0,gm,cm,mtL zs,by omega,rfl,rfl,hcm,HGM.o,HMS.o,HV.o,Below.refl _ _⟩
 case round =>
  clear HV
  obtain⟨t,gp,cp,p,ht,rfl,rfl,hcp,hgp,hsq,hpg,hbel⟩:=hrel
  by_cases hlt:t<16
  ·obtain⟨f,hf⟩:∃ f,16 - t=f+1:=⟨15 - t,by omega⟩
   rw[hf] at hpg
   have hf1:16 - (t+1)≤f:=by omega
   have hf2:f≤16 - (t+1):=by omega
   have hlt2:(t:Int)<16:=by omega
   have HGP:=Hd hgp;have HSQ:=Hd hsq;have HPG:=Hd hpg
   clear hgp hsq hpg hf
   go_wp2_with fail
   obtain⟨wo,rfl⟩:∃ z:World,z=wr:=⟨_,rfl⟩
   go_loopw [5,7,9,27] (fun fu _ _ i wv=>∃ k:Nat,k≤nz∧i=.int .i64 k∧fu=.bool (Vc (p.take k))∧wv=wo) (fun _ _ _ i _=>nz - (intOf i).toNat)
   case atStart=>exact⟨0,by omega,rfl,rfl,rfl⟩
   case round =>
    obtain⟨k,hk,rfl,rfl,rfl⟩:=hrel
    by_cases hkl:k<nz
    ·obtain⟨r,hr⟩:=Zc (l:=p) (k:=k) (by rw[HSQ.o.1];exact hkl)
     obtain⟨q,cq,hcell,_,_,_,hq⟩:=HGP.o.row hr
     have hrl:=(HSQ.o.2 r (List.mem_of_getElem? hr)).1
     rw[hrl] at hcell
     have hkl2:(k:Int)<(nz:Int):=by omega
     have hfn:=ZaW hr
     obtain⟨b0,hb0⟩:∃ b0,Vc (p.take k)=b0:=⟨_,rfl⟩
     rw[hb0] at hfn ⊢
     have HQ:=Hd hq;have HRL:=Hd hrl;have HFN:=Hd hfn
     clear hq hrl hr hfn hb0
     go_wp2_with fail
     obtain⟨wo2,rfl⟩:∃ z:World,z=wr:=⟨_,rfl⟩
     go_loopw [5,9,33] (fun fu _ i wv=>∃ j:Nat,j≤nz∧i=.int .i64 j∧fu=.bool (b0&&(r.take j).all QZ)∧wv=wo2) (fun _ _ i _=>nz - (intOf i).toNat)
     case atStart=>exact⟨0,by omega,rfl,by simp,rfl⟩
     case round =>
      obtain⟨j,hj,rfl,rfl,rfl⟩:=hrel
      by_cases hjl:j<nz
      ·obtain⟨x,hx⟩:=Zc (l:=r) (k:=j) (by rw[HRL.o];exact hjl)
       have hcx:=HQ.o j x hx
       have hjl2:(j:Int)<(nz:Int):=by omega
       have han:=ZdU hx
       obtain⟨b1,hb1⟩:∃ b1,(r.take j).all QZ=b1:=⟨_,rfl⟩
       rw[hb1] at han ⊢
       obtain⟨b2,hb2⟩:∃ b2,(b0&&b1)=b2:=⟨_,rfl⟩
       have hnx:(b0&&(r.take (j+1)).all QZ)=(b2&&QZ x):=by rw[han,← Bool.and_assoc,hb2]
       rw[hb2]
       have HNX:=Hd hnx
       clear hx han hb1 hb2 hnx
       cases b2 with
       | false =>
        go_wp2_with fail
        go_roundw
        case rel=>exact⟨j+1,by omega,by go_num,by rw[HNX.o];rfl,by first|trivial|rfl⟩
        case measure=>simp[intOf];omega
       | true =>
        go_wp2_with fail
        go_roundw
        case rel=>exact⟨j+1,by omega,by go_num,by rw[HNX.o,Bool.true_and];rfl,by first|trivial|rfl⟩
        case measure=>simp[intOf];omega
      ·have hje:r.take j=r:=List.take_of_length_le (by rw[HRL.o];omega)
       rw[hje]
       go_wp2_with fail
       go_roundw
       case rel=>exact⟨k+1,by omega,by go_num,by rw[HFN.o],by first|trivial|rfl⟩
       case measure=>simp[intOf];omega
    ·have hke:p.take k=p:=List.take_of_length_le (by rw[HSQ.o.1];omega)
     rw[hke]
     obtain⟨b,hb⟩:∃ b,Vc p=b:=⟨_,rfl⟩
     rw[hb]
     cases b with
     | true =>
      have hV:V=true:=by rw[← HPG.o,Zgh hb]
      subst hV
      clear hb
      go_wp2_with fail
      go_ret
      exact⟨rfl,bw2.trans (hbel.mono hw2)⟩
     | false =>
      have hnx:=Zjx (m:=mtL zs) (n:=nz) (f:=f) hb
      rw[hnx] at HPG
      clear hb hnx
      have hgl:=HGP.o.1
      have hz2:=hbel.size
      go_wp2_with fail
      obtain⟨wo,rfl⟩:∃ z:World,z=wr:=⟨_,rfl⟩
      go_loopw [10,12,13,14,15,16,48] (fun nx _ _ _ _ _ i wv=>∃ (k gn cn:Nat) (vs:List Value),k≤nz∧i=.int .i64 k∧nx=.slice (some ⟨gn,0,none⟩) k cn∧Bld wv wo.heap.size 83 gn k cn vs ((sgM (mtL zs) nz p).take k)∧Below wo.heap.size wo wv) (fun _ _ _ _ _ _ i _=>nz - (intOf i).toNat)
      case atStart=>exact⟨0,_,0,[],by omega,rfl,rfl,Bld.empty wo nlr,(Below.refl _ _).alloc nlr _⟩
      case round =>
       obtain⟨k,gn,cn,vs,hk,rfl,rfl,hbd,hbe⟩:=hrel
       by_cases hkl:k<nz
       ·obtain⟨r,hr⟩:=Zc (l:=p) (k:=k) (by rw[HSQ.o.1];exact hkl)
        have hgw:=HGP.o.below hbe nlr
        obtain⟨q,cq,hcell,_,_,hqB,hq⟩:=hgw.row hr
        have hrl:=(HSQ.o.2 r (List.mem_of_getElem? hr)).1
        rw[hrl] at hcell
        have hsn:=Zgg (m:=mtL zs) (n:=nz) hr
        have hkl2:(k:Int)<(nz:Int):=by omega
        have hz3:=hbe.size
        have hmk:=run_make_row' (P:=Tryz.prog) 83 3 _ 8 Tryz.underlying83 Zu rfl .i64 .i64 nz (by omega) (by omega)
        have hmd:=Own.made (w:=wr) (B:=wr.heap.size) (E:=3) (z:=.int .i64 0) (n:=nz) nlr (by unfold maxLen;omega)
        have bM:Below wr.heap.size wr (wr.alloc (.cells (madeCells #[Value.int .i64 0] nz) 3)):=(Below.refl _ _).alloc nlr _
        have hmd2:Own (wr.alloc (.cells (madeCells #[Value.int .i64 0] nz) 3)) wr.heap.size 3 (.slice (some ⟨wr.heap.size,0,none⟩) nz nz) (Z9 (sgL (mtL zs) r nz 0 0)):=by
         rw[Zju,Z9,List.map_replicate];exact hmd
        have HQ:=Hd hq;have HRL:=Hd hrl;have HSN:=Hd hsn;have HMD:=Hd hmd2;have HBD:=Hd hbd
        clear hq hrl hr hsn hmd hmd2 hgw hbd
        go_wp2_with fail
        clear hmk
        obtain⟨w5,rfl⟩:∃ z:World,z=wr:=⟨_,rfl⟩
        go_loopw [14,15,16,57] (fun _ _ _ i wu=>∃ ii:Nat,ii≤nz∧i=.int .i64 ii∧Own wu w5.heap.size 3 (.slice (some ⟨w5.heap.size,0,none⟩) nz nz) (Z9 (sgL (mtL zs) r nz ii 0))∧Below w5.heap.size w5 wu) (fun _ _ _ i _=>nz - (intOf i).toNat)
        case atStart=>exact⟨0,by omega,rfl,HMD.o,bM⟩
        case round =>
         clear HMD bM
         obtain⟨ii,hii,rfl,how,hb5⟩:=hrel
         by_cases hil:ii<nz
         ·obtain⟨x,hx⟩:=Zc (l:=r) (k:=ii) (by rw[HRL.o];exact hil)
          have hcx:=(hb5.cell (p:=⟨q,ii,none⟩) (by show q<w5.heap.size;omega)).trans (HQ.o ii x hx)
          have hil2:(ii:Int)<(nz:Int):=by omega
          have HO:=Hd how;have HX:=Hd hx
          clear how hx
          go_wp2_with fail
          obtain⟨w6,rfl⟩:∃ z:World,z=wr:=⟨_,rfl⟩
          go_loopw [16,64] (fun _ i wz=>∃ kk:Nat,kk≤nz∧i=.int .i64 kk∧Own wz w5.heap.size 3 (.slice (some ⟨w5.heap.size,0,none⟩) nz nz) (Z9 (sgL (mtL zs) r nz ii kk))∧Below w5.heap.size w5 wz) (fun _ i _=>nz - (intOf i).toNat)
          case atStart=>exact⟨0,by omega,rfl,HO.o,hb5⟩
          case round =>
           clear HO hb5 hcx
           obtain⟨kk,hkk,rfl,how,hb6⟩:=hrel
           by_cases hkkl:kk<nz
           ·obtain⟨y,hy⟩:=Zc (l:=mtL zs) (k:=ii) (by rw[HMS.o.1];exact hil)
            have hyl:=(HMS.o.2 y (List.mem_of_getElem? hy)).1
            obtain⟨z,hz⟩:=Zc (l:=y) (k:=kk) (by rw[hyl];exact hkkl)
            have hgmw:=(HGM.o.below hbel nlr).below (hbe.trans (hb6.mono hz3)) hz2
            obtain⟨qm,cqm,hcm1,_,_,_,hqm⟩:=hgmw.row hy
            have hcz:=hqm kk z hz
            rw[hyl] at hcm1
            have hsT:=Zjy HX.o hy hz
            have hkkl2:(kk:Int)<(nz:Int):=by omega
            have hlen:(Z9 (sgL (mtL zs) r nz ii kk)).length=nz:=by rw[Qt,XN]
            obtain⟨g0,hg0,hBg,hgs,hcell0,hfr,hst⟩:=how.store (k:=kk) (by rw[hlen];exact hkkl)
            injection hg0 with hg0
            injection hg0 with hg0
            subst hg0
            obtain⟨old,hold⟩:=Zc (l:=Z9 (sgL (mtL zs) r nz ii kk)) (k:=kk) (by rw[hlen];exact hkkl)
            rw[hold] at hcell0
            have hst1:=hst (.int .i64 1)
            have HO:=Hd how;have HST:=Hd hst1;have HT:=Hd hsT
            clear how hst hst1 hsT hold hlen hyl hz hy hqm hgmw
            by_cases hx0:0<x
            ·by_cases hz0:0<z
             ·have hT:sgT (mtL zs) r kk ii=true:=by rw[HT.o,QZ,QZ,decide_eq_true hx0,decide_eq_true hz0];rfl
              have hset:(Z9 (sgL (mtL zs) r nz ii kk)).set kk (.int .i64 1)=Z9 (sgL (mtL zs) r nz ii (kk+1)):=by
               rw[ZkS hT hkkl,Z9,Z9,List.map_set]
              have HSET:=Hd hset
              clear hT hset
              go_wp2_with fail
              go_roundw
              case rel=>exact⟨kk+1,by omega,by go_num,by rw[← HSET.o];exact HST.o.1,hb6.trans HST.o.2.1⟩
              case measure=>simp[intOf];omega
             ·have hT:sgT (mtL zs) r kk ii=false:=by rw[HT.o,QZ,QZ,decide_eq_false hz0,Bool.and_false]
              have hset:=Zjv (n:=nz) hT
              have HSET:=Hd hset
              clear hT hset
              go_wp2_with fail
              go_roundw
              case rel=>exact⟨kk+1,by omega,by go_num,by rw[HSET.o];exact HO.o,hb6⟩
              case measure=>simp[intOf];omega
            ·have hT:sgT (mtL zs) r kk ii=false:=by rw[HT.o,QZ,decide_eq_false hx0,Bool.false_and]
             have hset:=Zjv (n:=nz) hT
             have HSET:=Hd hset
             clear hT hset
             go_wp2_with fail
             go_roundw
             case rel=>exact⟨kk+1,by omega,by go_num,by rw[HSET.o];exact HO.o,hb6⟩
             case measure=>simp[intOf];omega
           ·have hke:kk=nz:=by omega
            subst hke
            rw[ZkQ] at how
            have HO:=Hd how
            clear how
            go_wp2_with fail
            go_roundw
            case rel=>exact⟨ii+1,by omega,by go_num,HO.o,hb6⟩
            case measure=>simp[intOf];omega
         ·have hie:ii=nz:=by omega
          subst hie
          rw[ZkR] at how
          have hrv:=RowV.ofOwn (go:=gn) how (Yu _ _ _) HBD.o.lt.2
          have hbd:=HBD.o.below hb5
          have hz4:wo.heap.size≤wr.heap.size:=Nat.le_trans hz3 hb5.size
          have hm9:k<4294967296:=by omega
          have HBD2:=Hd hbd;have HRV:=Hd hrv
          clear how hrv hbd HBD
          go_wp2_with (at_builtin;refine Zx rfl (.tmp 84) (.tmp 86) 60 rfl _ 24 Tryz.underlying60 Jn rfl k cn rfl HBD2.o.own _ rfl rfl HBD2.o.vlen hm9 (by decide) hz4 ?_)
          intro g4 c4 w4 ha4
          have hb4:=HBD2.o.add4 HRV.o ha4
          rw[← HSN.o] at hb4
          have HB4:=Hd hb4
          have hbe4:Below wo.heap.size wo w4:=(hbe.trans (hb5.mono hz3)).trans ha4.bel
          clear ha4 hb4
          go_wp2_with fail
          go_roundw
          case rel=>exact⟨k+1,g4,c4,_,by omega,by go_num,rfl,HB4.o,hbe4⟩
          case measure=>simp[intOf];omega
       ·have hke:k=nz:=by omega
        subst hke
        have htk:(sgM (mtL zs) k p).take k=sgM (mtL zs) k p:=List.take_of_length_le (by rw[sgM,List.length_map,HSQ.o.1];exact Nat.le_refl _)
        rw[htk] at hbd
        have hfin:=hbd.gr
        have hcap:=hbd.cap.1
        have hsq2:=Zlk (m:=mtL zs) HSQ.o.1
        have HF:=Hd hfin;have HS2:=Hd hsq2
        clear hbd hfin hsq2 htk
        go_wp2_with fail
        go_roundw
        case rel=>exact⟨t+1,gn,cn,sgM (mtL zs) k p,by omega,by go_num,rfl,hcap,HF.o,HS2.o,by rw[show 16 - (t+1)=f by omega];exact HPG.o,hbel.trans (hbe.mono hz2)⟩
        case measure=>simp[intOf];omega
  ·have hte:t=16:=by omega
   subst hte
   have hV:V=false:=by rw[← hpg];rw[prG]
   subst hV
   clear hpg hgp hsq
   go_wp2_with fail
   go_ret
   exact⟨rfl,bw2.trans (hbel.mono hw2)⟩
theorem Ze6 (m p:List (List Int)) (n:Nat) (h4:n≤4) (hm:sqM n m) (hp:sqM n p) (gp cp gm cm B:Nat) (w:World) (hgp:Gr w B gp p) (hgm:Gr w B gm m) (hcp:n≤cp) (hcm:n≤cm) (hB:B≤w.heap.size) :
  Calls Tryz.prog 232 #[.slice (some ⟨gp,0,none⟩) n cp,.slice (some ⟨gm,0,none⟩) n cm] w fun e w'=>∃ g c vs,e=.returned (.slice (some ⟨g,0,none⟩) n c)∧Bld w' w.heap.size 83 g n c vs (sgM m n p)∧Below w.heap.size w w':=by
 have HM:=Hd hm;have HP:=Hd hp;have HGP:=Hd hgp;have HGM:=Hd hgm
 have hgB1:=hgp.1
 have hgB2:=hgm.1
 clear hm hp hgp hgm
 go_enter Tryz.func232,Tryz.ntmps232
 go_wp2_with fail
 go_loopw [5,7,8,9,10,11,12,16] (fun nx _ _ _ _ _ _ i wv=>∃ (k gn cn:Nat) (vs:List Value),k≤n∧i=.int .i64 k∧nx=.slice (some ⟨gn,0,none⟩) k cn∧Bld wv w.heap.size 83 gn k cn vs ((sgM m n p).take k)∧Below w.heap.size w wv) (fun _ _ _ _ _ _ _ i _=>n - (intOf i).toNat)
 case atStart=>exact⟨0,_,0,[],by omega,rfl,rfl,Bld.empty w nlr,(Below.refl _ _).alloc nlr _⟩
 case round =>
  obtain⟨k,gn,cn,vs,hk,rfl,rfl,hbd,hbe⟩:=hrel
  by_cases hkl:k<n
  ·obtain⟨r,hr⟩:=Zc (l:=p) (k:=k) (by rw[HP.o.1];exact hkl)
   have hgw:=HGP.o.below hbe hB
   obtain⟨q,cq,hcell,_,_,hqB,hq⟩:=hgw.row hr
   have hrl:=(HP.o.2 r (List.mem_of_getElem? hr)).1
   rw[hrl] at hcell
   have hsn:=Zgg (m:=m) (n:=n) hr
   have hkl2:(k:Int)<(n:Int):=by omega
   have hz3:=hbe.size
   have HQ:=Hd hq;have HRL:=Hd hrl;have HSN:=Hd hsn;have HBD:=Hd hbd
   clear hq hrl hr hsn hgw hbd
   go_wp2_with fail
   obtain⟨w5,rfl⟩:∃ z:World,z=wr:=⟨_,rfl⟩
   go_loopw [8,9,10,11,12,23] (fun row _ _ _ _ i wu=>∃ (kk qo co:Nat),kk≤n∧i=.int .i64 kk∧row=.slice (some ⟨qo,0,none⟩) kk co∧Own wu w5.heap.size 3 (.slice (some ⟨qo,0,none⟩) kk co) (Z9 ((sgR m n r).take kk))∧Below w5.heap.size w5 wu) (fun _ _ _ _ _ i _=>n - (intOf i).toNat)
   case atStart=>exact⟨0,w5.heap.size,0,by omega,rfl,rfl,Own.empty nlr,(Below.refl _ _).alloc nlr _⟩
   case round =>
    obtain⟨kk,qo,co,hkk,rfl,rfl,how,hb5⟩:=hrel
    by_cases hkkl:kk<n
    ·have hkkl2:(kk:Int)<(n:Int):=by omega
     have HO:=Hd how
     clear how
     go_wp2_with fail
     obtain⟨w6,rfl⟩:∃ z:World,z=wr:=⟨_,rfl⟩
     go_loopw [10,11,12,28] (fun xv _ _ i wz=>∃ j:Nat,j≤n∧i=.int .i64 j∧xv=.int .i64 (b2i (sgP m r kk j))∧wz=w6) (fun _ _ _ i _=>n - (intOf i).toNat)
     case atStart=>exact⟨0,by omega,rfl,by rw[show b2i (sgP m r kk 0)=0 by unfold sgP b2i;rfl],rfl⟩
     case round =>
      obtain⟨j,hj,rfl,rfl,rfl⟩:=hrel
      by_cases hjl:j<n
      ·obtain⟨x,hx⟩:=Zc (l:=r) (k:=j) (by rw[HRL.o];exact hjl)
       have hcx:=(hb5.cell (p:=⟨q,j,none⟩) (by show q<w5.heap.size;omega)).trans (HQ.o j x hx)
       have hjl2:(j:Int)<(n:Int):=by omega
       obtain⟨y,hy⟩:=Zc (l:=m) (k:=j) (by rw[HM.o.1];exact hjl)
       have hyl:=(HM.o.2 y (List.mem_of_getElem? hy)).1
       obtain⟨z,hz⟩:=Zc (l:=y) (k:=kk) (by rw[hyl];exact hkkl)
       have hgmw:=(HGM.o.below hbe hB).below (hb5.mono (Nat.le_trans hB hz3)) nlr
       obtain⟨qm,cqm,hcm1,_,_,_,hqm⟩:=hgmw.row hy
       have hcz:=hqm kk z hz
       rw[hyl] at hcm1
       have hsT:=Zjy hx hy hz
       have HT:=Hd hsT
       clear hsT hx hy hz hyl hgmw hqm
       by_cases hx0:0<x
       ·by_cases hz0:0<z
        ·have hT:=ZkT (m:=m) (r:=r) (k:=kk) (j:=j) (by rw[HT.o,QZ,QZ,decide_eq_true hx0,decide_eq_true hz0];rfl)
         have HB:=Hd hT
         clear hT
         go_wp2_with fail
         go_roundw
         case rel=>exact⟨j+1,by omega,by go_num,by rw[HB.o],by first|trivial|rfl⟩
         case measure=>simp[intOf];omega
        ·have hT:=Zjz (m:=m) (r:=r) (k:=kk) (j:=j) (by rw[HT.o,QZ,QZ,decide_eq_false hz0,Bool.and_false])
         have HB:=Hd hT
         clear hT
         go_wp2_with fail
         go_roundw
         case rel=>exact⟨j+1,by omega,by go_num,by rw[HB.o],by first|trivial|rfl⟩
         case measure=>simp[intOf];omega
       ·have hT:=Zjz (m:=m) (r:=r) (k:=kk) (j:=j) (by rw[HT.o,QZ,decide_eq_false hx0,Bool.false_and])
        have HB:=Hd hT
        clear hT
        go_wp2_with fail
        go_roundw
        case rel=>exact⟨j+1,by omega,by go_num,by rw[HB.o],by first|trivial|rfl⟩
        case measure=>simp[intOf];omega
      ·have hje:j=n:=by omega
       subst hje
       have hnx:=Zjw (m:=m) (n:=j) (r:=r) hkkl
       have hl3:(Z9 ((sgR m j r).take kk)).length=kk:=by rw[Qt,List.length_take,Yu];omega
       have hz5:=hb5.size
       have hm9:kk<4294967296:=by omega
       obtain⟨bv,hbv⟩:∃ bv,b2i (sgP m r kk j)=bv:=⟨_,rfl⟩
       rw[hbv] at hnx ⊢
       have HNX:=Hd hnx;have HL3:=Hd hl3
       clear hnx hl3 hbv
       go_wp2_with (at_builtin;refine Zx rfl (.tmp 46) (.tmp 48) 83 rfl _ 8 Tryz.underlying83 Zu rfl kk co rfl HO.o _ rfl rfl HL3.o hm9 (by decide) hz5 ?_)
       intro g4 c4 w4 ha4
       have hown4:=ha4.own
       rw[← HNX.o] at hown4
       have hbe4:=hb5.trans ha4.bel
       have HO4:=Hd hown4
       clear ha4 hown4
       go_wp2_with fail
       go_roundw
       case rel=>exact⟨kk+1,g4,c4,by omega,by go_num,rfl,HO4.o,hbe4⟩
       case measure=>simp[intOf];omega
    ·have hke:kk=n:=by omega
     subst hke
     rw[List.take_of_length_le (by rw[Yu];exact Nat.le_refl _)] at how
     have hrv:=RowV.ofOwn (go:=gn) how (Yu _ _ _) HBD.o.lt.2
     have hbd:=HBD.o.below hb5
     have hz4:w.heap.size≤wr.heap.size:=Nat.le_trans hz3 hb5.size
     have hm9:k<4294967296:=by omega
     have HBD2:=Hd hbd;have HRV:=Hd hrv
     clear how hrv hbd HBD
     go_wp2_with (at_builtin;refine Zx rfl (.tmp 51) (.tmp 53) 60 rfl _ 24 Tryz.underlying60 Jn rfl k cn rfl HBD2.o.own _ rfl rfl HBD2.o.vlen hm9 (by decide) hz4 ?_)
     intro g4 c4 w4 ha4
     have hb4:=HBD2.o.add4 HRV.o ha4
     rw[← HSN.o] at hb4
     have HB4:=Hd hb4
     have hbe4:Below w.heap.size w w4:=(hbe.trans (hb5.mono hz3)).trans ha4.bel
     clear ha4 hb4
     go_wp2_with fail
     go_roundw
     case rel=>exact⟨k+1,g4,c4,_,by omega,by go_num,rfl,HB4.o,hbe4⟩
     case measure=>simp[intOf];omega
  ·have hke:k=n:=by omega
   subst hke
   have htk:(sgM m k p).take k=sgM m k p:=List.take_of_length_le (by rw[sgM,List.length_map,HP.o.1];exact Nat.le_refl _)
   rw[htk] at hbd
   have HB2:=Hd hbd
   clear hbd htk
   go_wp2_with fail
   go_ret
   exact⟨gn,cn,vs,rfl,HB2.o,hbe⟩
theorem Zhk (zs:List ByteArray) (A:Option Addr) (nz cz B:Nat) (w:World) (hl:zs.length=nz) (hsu:Zf zs=true) (hrd:Rds w B A (zs.map Value.string)) (hB:B≤w.heap.size) :
  Calls Tryz.prog 158 #[.agg #[.slice A nz cz]] w fun e w'=>e=.returned (.bool (prV zs))∧Below w.heap.size w w':=by
 have bA:Below w.heap.size w (w.alloc (.cells #[.slice A nz cz] 26)):=(Below.refl _ _).alloc nlr _
 have zA:(w.alloc (.cells #[.slice A nz cz] 26)).heap.size=w.heap.size+1:=by simp
 have h0:=cell_of_row _ _ 0 _ _ (0,0) (heap_alloc_new w (.cells #[.slice A nz cz] 26))
 have h4:=(ZE hsu).1
 have h8:∀ x∈zs,x.size≤8:=fun x hx=>((ZE hsu).2 x hx).2.1
 have hc1:=ZB zs A cz B _ (by omega) (by omega) (fun x hx=>by have:=h8 x hx;unfold maxLen;omega) (hrd.below bA hB)
 rw[hl,hsu] at hc1
 have hc2:=fun v hr hv=>Xf zs A nz cz B v hl (by omega) h8 hr hv
 have hms:=Zc1 h8
 obtain⟨V,hV⟩:∃ V,prV zs=V:=⟨_,rfl⟩
 rw[hV]
 rw[prV,hl] at hV
 rw[hl] at hms
 have HC1:=Hd hc1;have HC2:=Hd hc2;have HRD:=Hd hrd;have H0:=Hd h0;have HV:=Hd hV;have HMS:=Hd hms
 rw[hl] at h4
 clear hc1 hc2 hrd h0 h8 hsu hl hV hms
 go_enter Tryz.func158,Tryz.ntmps158
 go_wp2_with fail
 refine HC1.o.mono ?_
 rintro e w1 ⟨rfl,b1⟩
 have bw1:Below w.heap.size w w1:=bA.trans (b1.mono (by omega))
 have z1:=b1.size
 rw[zA] at z1
 have k1:w1.cell? ⟨w.heap.size,0,none⟩=some (.slice A nz cz):=(b1.cell (p:=⟨w.heap.size,0,none⟩) (by show w.heap.size<(w.alloc _).heap.size;omega)).trans H0.o
 go_wp2_with fail
 refine (HC2.o w1 (HRD.o.below bw1 hB) (by omega)).mono ?_
 rintro e w2 ⟨gm,cm,vm,rfl,hbm,b2⟩
 have bw2:Below w.heap.size w w2:=bw1.trans (b2.mono (by omega))
 have hgm:=hbm.gr
 have hcm:=hbm.cap.1
 have hgml:=hbm.lt.2
 have hw2:w.heap.size≤w2.heap.size:=by have:=b2.size;omega
 have HGM:=Hd hgm
 clear hbm b1 b2 k1 HC1 HC2 H0 HRD hgm bA zA
 go_wp2_with fail
 go_loopw [4,5,6,8,10] (fun pw i _ _ _ wr=>∃ (t gp cp:Nat) (p:List (List Int)),t≤16∧i=.int .i64 t∧pw=.slice (some ⟨gp,0,none⟩) nz cp∧nz≤cp∧Gr wr wr.heap.size gp p∧sqM nz p∧prG (mtL zs) nz (16 - t) p=V∧Below w2.heap.size w2 wr) (fun _ i _ _ _ _=>16 - (intOf i).toNat)
 case atStart=>exact⟨0,gm,cm,mtL zs,by omega,rfl,rfl,hcm,HGM.o,HMS.o,HV.o,Below.refl _ _⟩
 case round =>
  clear HV
  obtain⟨t,gp,cp,p,ht,rfl,rfl,hcp,hgp,hsq,hpg,hbel⟩:=hrel
  by_cases hlt:t<16
  ·obtain⟨f,hf⟩:∃ f,16 - t=f+1:=⟨15 - t,by omega⟩
   rw[hf] at hpg
   have hf1:16 - (t+1)≤f:=by omega
   have hf2:f≤16 - (t+1):=by omega
   have hlt2:(t:Int)<16:=by omega
   have HGP:=Hd hgp;have HSQ:=Hd hsq;have HPG:=Hd hpg
   clear hgp hsq hpg hf
   go_wp2_with fail
   obtain⟨wo,rfl⟩:∃ z:World,z=wr:=⟨_,rfl⟩
   go_loopw [6,8,10,23] (fun fu _ _ i wv=>∃ k:Nat,k≤nz∧i=.int .i64 k∧fu=.bool (Vc (p.take k))∧wv=wo) (fun _ _ _ i _=>nz - (intOf i).toNat)
   case atStart=>exact⟨0,by omega,rfl,rfl,rfl⟩
   case round =>
    obtain⟨k,hk,rfl,rfl,rfl⟩:=hrel
    by_cases hkl:k<nz
    ·obtain⟨r,hr⟩:=Zc (l:=p) (k:=k) (by rw[HSQ.o.1];exact hkl)
     obtain⟨q,cq,hcell,_,_,_,hq⟩:=HGP.o.row hr
     have hrl:=(HSQ.o.2 r (List.mem_of_getElem? hr)).1
     rw[hrl] at hcell
     have hkl2:(k:Int)<(nz:Int):=by omega
     have hfn:=ZaW hr
     obtain⟨b0,hb0⟩:∃ b0,Vc (p.take k)=b0:=⟨_,rfl⟩
     rw[hb0] at hfn ⊢
     have HQ:=Hd hq;have HRL:=Hd hrl;have HFN:=Hd hfn
     clear hq hrl hr hfn hb0
     go_wp2_with fail
     obtain⟨wo2,rfl⟩:∃ z:World,z=wr:=⟨_,rfl⟩
     go_loopw [6,10,29] (fun fu _ i wv=>∃ j:Nat,j≤nz∧i=.int .i64 j∧fu=.bool (b0&&(r.take j).all QZ)∧wv=wo2) (fun _ _ i _=>nz - (intOf i).toNat)
     case atStart=>exact⟨0,by omega,rfl,by simp,rfl⟩
     case round =>
      obtain⟨j,hj,rfl,rfl,rfl⟩:=hrel
      by_cases hjl:j<nz
      ·obtain⟨x,hx⟩:=Zc (l:=r) (k:=j) (by rw[HRL.o];exact hjl)
       have hcx:=HQ.o j x hx
       have hjl2:(j:Int)<(nz:Int):=by omega
       have han:=ZdU hx
       obtain⟨b1,hb1⟩:∃ b1,(r.take j).all QZ=b1:=⟨_,rfl⟩
       rw[hb1] at han ⊢
       obtain⟨b2,hb2⟩:∃ b2,(b0&&b1)=b2:=⟨_,rfl⟩
       have hnx:(b0&&(r.take (j+1)).all QZ)=(b2&&QZ x):=by rw[han,← Bool.and_assoc,hb2]
       rw[hb2]
       have HNX:=Hd hnx
       clear hx han hb1 hb2 hnx
       cases b2 with
       | false =>
        go_wp2_with fail
        go_roundw
        case rel=>exact⟨j+1,by omega,by go_num,by rw[HNX.o];rfl,by first|trivial|rfl⟩
        case measure=>simp[intOf];omega
       | true =>
        go_wp2_with fail
        go_roundw
        case rel=>exact⟨j+1,by omega,by go_num,by rw[HNX.o,Bool.true_and];rfl,by first|trivial|rfl⟩
        case measure=>simp[intOf];omega
      ·have hje:r.take j=r:=List.take_of_length_le (by rw[HRL.o];omega)
       rw[hje]
       go_wp2_with fail
       go_roundw
       case rel=>exact⟨k+1,by omega,by go_num,by rw[HFN.o],by first|trivial|rfl⟩
       case measure=>simp[intOf];omega
    ·have hke:p.take k=p:=List.take_of_length_le (by rw[HSQ.o.1];omega)
     rw[hke]
     obtain⟨b,hb⟩:∃ b,Vc p=b:=⟨_,rfl⟩
     rw[hb]
     cases b with
     | true =>
      have hV:V=true:=by rw[← HPG.o,Zgh hb]
      subst hV
      clear hb
      go_wp2_with fail
      go_ret
      exact⟨rfl,bw2.trans (hbel.mono hw2)⟩
     | false =>
      have hnx:=Zjx (m:=mtL zs) (n:=nz) (f:=f) hb
      rw[hnx] at HPG
      clear hb hnx
      have hgl:=HGP.o.1
      have hz2:=hbel.size
      have hsg:=Ze6 (mtL zs) p nz h4 HMS.o HSQ.o gp cp gm cm wr.heap.size wr HGP.o ((HGM.o.below hbel nlr).more hz2) hcp hcm nlr
      have HSG:=Hd hsg
      clear hsg
      go_wp2_with fail
      refine HSG.o.mono ?_
      rintro e w3 ⟨gn,cn,vs,rfl,hbd,b3⟩
      have hfin:=hbd.gr
      have hcap:=hbd.cap.1
      have hsq2:=Zlk (m:=mtL zs) HSQ.o.1
      have HF:=Hd hfin;have HS2:=Hd hsq2
      clear hbd hfin hsq2
      go_wp2_with fail
      go_roundw
      case rel=>exact⟨t+1,gn,cn,sgM (mtL zs) nz p,by omega,by go_num,rfl,hcap,HF.o,HS2.o,by rw[show 16 - (t+1)=f by omega];exact HPG.o,hbel.trans (b3.mono hz2)⟩
      case measure=>simp[intOf];omega
  ·have hte:t=16:=by omega
   subst hte
   have hV:V=false:=by rw[← hpg];rw[prG]
   subst hV
   clear hpg hgp hsq
   go_wp2_with fail
   go_ret
   exact⟨rfl,bw2.trans (hbel.mono hw2)⟩
end Go.Proofs.YtocbgldilgemoaaGreatDoor
