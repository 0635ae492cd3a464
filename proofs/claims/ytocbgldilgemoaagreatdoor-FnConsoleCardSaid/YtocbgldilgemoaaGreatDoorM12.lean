/- Texts of this claim, one behind the other: Mtx, Fnm, Pip, Bmk, Prm, Cpx, Gln, Piw, Err. No condition but what each says. -/
import Derived.Test.YtocbgldilgemoaaGreatDoorFix
import Derived.Test.YtocbgldilgemoaaGreatDoorFmt
import Derived.Test.YtocbgldilgemoaaGreatDoorMark
import Derived.Lib.QuietBelow
import Derived.Stop.LaidErr
namespace Go.Proofs.YtocbgldilgemoaaGreatDoor
open Go.RowKit
set_option maxRecDepth 4000
set_option maxHeartbeats 1000000
set_option linter.unusedVariables false
theorem Jn:(Tryz.prog.info? 83).map (fun i=>(i.zero,i.size,i.bytes))=some (some (.slice none 0 0),1,24):=by kernel_rfl
theorem Zl0 (k:Nat) (hk:k<4):(UInt8.ofNat (97+k)).toNat=97+k:=by rw[UInt8.toNat_ofNat'];omega
theorem ZiX {zs:List ByteArray} {k j:Nat} {y:ByteArray} (h:zs[j]? = some y):(mtR zs k)[j]? = some (ctC k y):=Zs _ h
theorem YT {r:List Int} {j:Nat} {x:Int} (h:r[j]? = some x):Z9 (r.take (j+1))=Z9 (r.take j)++[Value.int .i64 x]:=by
 rw[List.take_add_one,h,Zdu];rfl
theorem ZfY {zs:List ByteArray} {k:Nat} (h:k<zs.length):(mtL zs).take (k+1)=(mtL zs).take k++[mtR zs k]:=by
 rw[List.take_add_one,Zlt h];rfl
theorem ZiY (zs:List ByteArray):(mtL zs).length=zs.length:=by simp[mtL]
theorem Vy (zs:List ByteArray) (k:Nat):(mtR zs k).length=zs.length:=by simp[mtR]
theorem Zha (y:ByteArray) (k:Nat) (hk:k<4) (w:World) :
  Calls Tryz.prog 144 #[.string y,.string (({ data:=#[97,98,99,100] }:ByteArray).extract k (k+1))] w fun e w'=>e=.returned (.int .i64 (ctC k y))∧w=w':=by
 match k,hk with
 | 0,_=>exact (Tryz.strings_Count_one y 97 w).mono fun e w' h=>⟨h.1,h.2.symm⟩
 | 1,_=>exact (Tryz.strings_Count_one y 98 w).mono fun e w' h=>⟨h.1,h.2.symm⟩
 | 2,_=>exact (Tryz.strings_Count_one y 99 w).mono fun e w' h=>⟨h.1,h.2.symm⟩
 | 3,_=>exact (Tryz.strings_Count_one y 100 w).mono fun e w' h=>⟨h.1,h.2.symm⟩
theorem Zb2 (s:ByteArray) (d:UInt8) (hs:s.size≤400) (w:World) :
  Calls Tryz.prog 231 #[.string s,.int .u8 (d.toNat:Int)] w fun e w'=>e=.returned (.int .i64 ((L s).count d:Nat))∧w=w':=by
 obtain⟨v,hv⟩:∃ v,(L s).count d=v:=⟨_,rfl⟩
 rw[hv]
 have HV:=Hd hv
 clear hv
 go_enter Tryz.func231,Tryz.ntmps231
 go_wp2_with fail
 go_loop [5,6] (fun a i=>∃ k m:Nat,k≤s.size∧m≤k∧a=.int .i64 m∧i=.int .i64 k∧m+((L s).drop k).count d=v) (fun _ i=>s.size - (intOf i).toNat)
 case atStart=>exact⟨0,0,by omega,by omega,rfl,rfl,by rw[← HV.o];simp⟩
 case round =>
  obtain⟨k,m,hk,hm,rfl,rfl,hg⟩:=hrel
  have HG:=Hd hg
  clear hg
  by_cases hlt:k<s.size
  ·have hlti:(k:Int)<(s.size:Int):=by omega
   have hd:=ZS s k hlt
   obtain⟨x,hx⟩:∃ x,s[k]'hlt=x:=⟨_,rfl⟩
   rw[hx] at hd
   have HD:=Hd hd
   clear hd
   by_cases hc:x=d
   ·subst hc
    go_wp2_with fail
    go_round
    case rel=>exact⟨k+1,m+1,by omega,by omega,by go_num,by go_num,by rw[← HG.o,HD.o,List.count_cons_self];omega⟩
    case measure=>simp[intOf];omega
   ·have hn2:¬ (x.toNat:Int)=(d.toNat:Int):=fun h=>hc (UInt8.toNat_inj.1 (by omega))
    have hne:((x.toNat:Int)==(d.toNat:Int))=false:=beq_eq_false_iff_ne.2 hn2
    have HC:=Hd hc
    clear hc
    go_wp2_with fail
    go_round
    case rel=>exact⟨k+1,m,by omega,by omega,rfl,by go_num,by rw[← HG.o,HD.o,List.count_cons_of_ne HC.o]⟩
    case measure=>simp[intOf];omega
  ·have hke:m=v:=by rw[← HG.o,QP s k hlt];rfl
   subst hke
   go_wp2_with fail
   go_ret
   exact⟨rfl,rfl⟩
theorem Zb3 (y:ByteArray) (k:Nat) (hk:k<4) (hs:y.size≤400) (w:World) :
  Calls Tryz.prog 231 #[.string y,.int .u8 ((97+k:Nat):Int)] w fun e w'=>e=.returned (.int .i64 (ctC k y))∧w=w':=by
 have h:=Zb2 y (UInt8.ofNat (97+k)) hs w
 rw[Zl0 k hk] at h
 exact h
theorem Xe (zs:List ByteArray) (A:Option Addr) (nz cz B:Nat) (w:World) (hl:zs.length=nz) (h4:nz≤4) (hsz:∀ x∈zs,x.size≤8) (hrd:Rds w B A (zs.map Value.string)) (hB:B≤w.heap.size) :
  Calls Tryz.prog 75 #[.agg #[.slice A nz cz]] w fun e w'=>∃ g c vs,e=.returned (.slice (some ⟨g,0,none⟩) nz c)∧Bld w' w.heap.size 83 g nz c vs (mtL zs)∧Below w.heap.size w w':=by
 have bA:Below w.heap.size w (w.alloc (.cells #[.slice A nz cz] 26)):=(Below.refl _ _).alloc nlr _
 have zA:(w.alloc (.cells #[.slice A nz cz] 26)).heap.size=w.heap.size+1:=by simp
 have h0:=cell_of_row _ _ 0 _ _ (0,0) (heap_alloc_new w (.cells #[.slice A nz cz] 26))
 have hE:=Bld.empty (B:=w.heap.size+1) (E:=83) (w.alloc (.cells #[.slice A nz cz] 26)) (by omega)
 have bE:Below (w.heap.size+1) (w.alloc (.cells #[.slice A nz cz] 26)) ((w.alloc (.cells #[.slice A nz cz] 26)).alloc (.cells #[] 83)):=(Below.refl _ _).alloc (by omega) _
 rw[zA] at hE
 have HRD:=Hd hrd;have H0:=Hd h0;have HE:=Hd hE;have HZ:=Hd hsz;have HL:=Hd hl
 clear hrd h0 hE hsz hl
 go_enter Tryz.func75,Tryz.ntmps75
 go_wp2_with fail
 generalize hw1:w.alloc (.cells #[.slice A nz cz] 26)=w1 at *
 clear hw1
 go_loopw [3,4,5,7,12] (fun out _ _ _ i wr=>∃ (k g c:Nat) (vs:List Value),k≤nz∧i=.int .i64 k∧out=.slice (some ⟨g,0,none⟩) k c∧Bld wr (w.heap.size+1) 83 g k c vs ((mtL zs).take k)∧Below (w.heap.size+1) w1 wr) (fun _ _ _ _ i _=>nz - (intOf i).toNat)
 case atStart=>exact⟨0,_,0,[],by omega,rfl,rfl,HE.o,bE⟩
 case round =>
  clear bE HE
  obtain⟨k,g,c,vs,hk,rfl,rfl,hb,hbel⟩:=hrel
  have hbw:Below w.heap.size w wr:=bA.trans (hbel.mono (by omega))
  have hz:=hbel.size
  by_cases hlt:k<nz
  ·have hbox:wr.cell? ⟨w.heap.size,0,none⟩=some (.slice A nz cz):=(hbel.cell (p:=⟨w.heap.size,0,none⟩) (by show w.heap.size<w.heap.size+1;omega)).trans H0.o
   have hbox2:(wr.alloc (.cells #[] 3)).cell? ⟨w.heap.size,0,none⟩=some (.slice A nz cz):=(((Below.refl wr.heap.size wr).alloc nlr (.cells #[] 3)).cell (p:=⟨w.heap.size,0,none⟩) (by show w.heap.size<wr.heap.size;omega)).trans hbox
   have hlt2:(k:Int)<(nz:Int):=by omega
   have HBD:=Hd hb
   clear hb
   go_wp2_with fail
   obtain⟨wo,rfl⟩:∃ z:World,z=wr:=⟨_,rfl⟩
   go_loopw [5,7,19] (fun row _ i wv=>∃ (j q cq:Nat),j≤nz∧i=.int .i64 j∧row=.slice (some ⟨q,0,none⟩) j cq∧Own wv wo.heap.size 3 (.slice (some ⟨q,0,none⟩) j cq) (Z9 ((mtR zs k).take j))∧Below wo.heap.size wo wv) (fun _ _ i _=>nz - (intOf i).toNat)
   case atStart=>exact⟨0,wo.heap.size,0,by omega,rfl,rfl,Own.empty nlr,(Below.refl _ _).alloc nlr _⟩
   case round =>
    obtain⟨j,q,cq,hj,rfl,rfl,hown,hbe2⟩:=hrel
    have hz2:=hbe2.size
    have HO:=Hd hown
    clear hown
    by_cases hjl:j<nz
    ·have hjl2:(j:Int)<(nz:Int):=by omega
     obtain⟨y,hy⟩:=Zc (l:=zs) (k:=j) (by rw[HL.o];exact hjl)
     have hbw2:Below w.heap.size w wr:=hbw.trans (hbe2.mono (by omega))
     obtain⟨ad,rfl,hc⟩:=(HRD.o.below hbw2 hB).at_ (Zs Value.string hy)
     have hnx:=YT (ZiX (k:=k) hy)
     have hl3:(Z9 ((mtR zs k).take j)).length=j:=by rw[Qt,List.length_take,Vy,HL.o];omega
     have hy8:=HZ.o y (List.mem_of_getElem? hy)
     have hcf:=Zha y k (by omega) wr
     have hcb:=ZeD (i:=k) hy8
     have HNX:=Hd hnx;have HL3:=Hd hl3;have HCF:=Hd hcf
     have hm9:j<4294967296:=by omega
     skip
     obtain⟨ct,hct⟩:∃ ct,ctC k y=ct:=⟨_,rfl⟩
     rw[hct] at HCF HNX hcb
     clear hy hnx hl3 hcf hct hbw2
     go_wp2_with fail
     refine HCF.o.mono ?_
     rintro e w2 ⟨rfl,rfl⟩
     go_wp2_with (at_builtin;refine Zx rfl (.tmp 23) (.tmp 30) 83 rfl _ 8 Tryz.underlying83 Zu rfl j cq rfl HO.o _ rfl rfl HL3.o hm9 (by decide) hz2 ?_)
     intro g4 c4 w4 ha4
     have hown4:=ha4.own
     rw[← HNX.o] at hown4
     have hbe4:=hbe2.trans ha4.bel
     have HO4:=Hd hown4
     clear ha4 hown4
     go_wp2_with fail
     go_roundw
     case rel=>exact⟨j+1,g4,c4,by omega,by go_num,rfl,HO4.o,hbe4⟩
     case measure=>simp[intOf];omega
    ·have hje:j=nz:=by omega
     subst hje
     have htk:(mtR zs k).take zs.length=mtR zs k:=List.take_of_length_le (by rw[Vy];omega)
     have hown:=HO.o
     rw[← HL.o,htk] at hown
     have hrv:=RowV.ofOwn (go:=g) hown (Vy zs k) HBD.o.lt.2
     rw[HL.o] at hrv
     have hbd:=HBD.o.below hbe2
     have hnx:=ZfY (zs:=zs) (k:=k) (by rw[HL.o];exact hlt)
     have HBD2:=Hd hbd;have HRV:=Hd hrv;have HNX:=Hd hnx
     have hz3:w.heap.size+1≤wr.heap.size:=by omega
     have hm9:k<4294967296:=by omega
     clear hown hrv hbd hnx htk HO HBD
     go_wp2_with (at_builtin;refine Zx rfl (.tmp 33) (.tmp 35) 60 rfl _ 24 Tryz.underlying60 Jn rfl k c rfl HBD2.o.own _ rfl rfl HBD2.o.vlen hm9 (by decide) hz3 ?_)
     intro g4 c4 w4 ha4
     have hb4:=HBD2.o.add4 HRV.o ha4
     rw[← HNX.o] at hb4
     have HB4:=Hd hb4
     have hbe4:Below (w.heap.size+1) w1 w4:=(hbel.trans (hbe2.mono (by omega))).trans ha4.bel
     clear ha4 hb4
     go_wp2_with fail
     go_roundw
     case rel=>exact⟨k+1,g4,c4,_,by omega,by go_num,rfl,HB4.o,hbe4⟩
     case measure=>simp[intOf];omega
  ·have hke:k=nz:=by omega
   subst hke
   have htk:(mtL zs).take zs.length=mtL zs:=List.take_of_length_le (by rw[ZiY];omega)
   have hb2:=hb
   rw[← HL.o,htk] at hb2
   rw[HL.o] at hb2
   have HB2:=Hd hb2
   clear hb hb2 htk
   go_wp2_with fail
   go_ret
   exact⟨g,c,vs,rfl,HB2.o.lower (by omega),hbw⟩
theorem Xf (zs:List ByteArray) (A:Option Addr) (nz cz B:Nat) (w:World) (hl:zs.length=nz) (h4:nz≤4) (hsz:∀ x∈zs,x.size≤8) (hrd:Rds w B A (zs.map Value.string)) (hB:B≤w.heap.size) :
  Calls Tryz.prog 157 #[.agg #[.slice A nz cz]] w fun e w'=>∃ g c vs,e=.returned (.slice (some ⟨g,0,none⟩) nz c)∧Bld w' w.heap.size 83 g nz c vs (mtL zs)∧Below w.heap.size w w':=by
 have bA:Below w.heap.size w (w.alloc (.cells #[.slice A nz cz] 26)):=(Below.refl _ _).alloc nlr _
 have zA:(w.alloc (.cells #[.slice A nz cz] 26)).heap.size=w.heap.size+1:=by simp
 have h0:=cell_of_row _ _ 0 _ _ (0,0) (heap_alloc_new w (.cells #[.slice A nz cz] 26))
 have hE:=Bld.empty (B:=w.heap.size+1) (E:=83) (w.alloc (.cells #[.slice A nz cz] 26)) (by omega)
 have bE:Below (w.heap.size+1) (w.alloc (.cells #[.slice A nz cz] 26)) ((w.alloc (.cells #[.slice A nz cz] 26)).alloc (.cells #[] 83)):=(Below.refl _ _).alloc (by omega) _
 rw[zA] at hE
 have HRD:=Hd hrd;have H0:=Hd h0;have HE:=Hd hE;have HZ:=Hd hsz;have HL:=Hd hl
 clear hrd h0 hE hsz hl
 go_enter Tryz.func157,Tryz.ntmps157
 go_wp2_with fail
 generalize hw1:w.alloc (.cells #[.slice A nz cz] 26)=w1 at *
 clear hw1
 go_loopw [3,4,5,7,12] (fun out _ _ _ i wr=>∃ (k g c:Nat) (vs:List Value),k≤nz∧i=.int .i64 k∧out=.slice (some ⟨g,0,none⟩) k c∧Bld wr (w.heap.size+1) 83 g k c vs ((mtL zs).take k)∧Below (w.heap.size+1) w1 wr) (fun _ _ _ _ i _=>nz - (intOf i).toNat)
 case atStart=>exact⟨0,_,0,[],by omega,rfl,rfl,HE.o,bE⟩
 case round =>
  clear bE HE
  obtain⟨k,g,c,vs,hk,rfl,rfl,hb,hbel⟩:=hrel
  have hbw:Below w.heap.size w wr:=bA.trans (hbel.mono (by omega))
  have hz:=hbel.size
  by_cases hlt:k<nz
  ·have hbox:wr.cell? ⟨w.heap.size,0,none⟩=some (.slice A nz cz):=(hbel.cell (p:=⟨w.heap.size,0,none⟩) (by show w.heap.size<w.heap.size+1;omega)).trans H0.o
   have hbox2:(wr.alloc (.cells #[] 3)).cell? ⟨w.heap.size,0,none⟩=some (.slice A nz cz):=(((Below.refl wr.heap.size wr).alloc nlr (.cells #[] 3)).cell (p:=⟨w.heap.size,0,none⟩) (by show w.heap.size<wr.heap.size;omega)).trans hbox
   have hlt2:(k:Int)<(nz:Int):=by omega
   have HBD:=Hd hb
   clear hb
   go_wp2_with fail
   obtain⟨wo,rfl⟩:∃ z:World,z=wr:=⟨_,rfl⟩
   go_loopw [5,7,19] (fun row _ i wv=>∃ (j q cq:Nat),j≤nz∧i=.int .i64 j∧row=.slice (some ⟨q,0,none⟩) j cq∧Own wv wo.heap.size 3 (.slice (some ⟨q,0,none⟩) j cq) (Z9 ((mtR zs k).take j))∧Below wo.heap.size wo wv) (fun _ _ i _=>nz - (intOf i).toNat)
   case atStart=>exact⟨0,wo.heap.size,0,by omega,rfl,rfl,Own.empty nlr,(Below.refl _ _).alloc nlr _⟩
   case round =>
    obtain⟨j,q,cq,hj,rfl,rfl,hown,hbe2⟩:=hrel
    have hz2:=hbe2.size
    have HO:=Hd hown
    clear hown
    by_cases hjl:j<nz
    ·have hjl2:(j:Int)<(nz:Int):=by omega
     obtain⟨y,hy⟩:=Zc (l:=zs) (k:=j) (by rw[HL.o];exact hjl)
     have hbw2:Below w.heap.size w wr:=hbw.trans (hbe2.mono (by omega))
     obtain⟨ad,rfl,hc⟩:=(HRD.o.below hbw2 hB).at_ (Zs Value.string hy)
     have hnx:=YT (ZiX (k:=k) hy)
     have hl3:(Z9 ((mtR zs k).take j)).length=j:=by rw[Qt,List.length_take,Vy,HL.o];omega
     have hy8:=HZ.o y (List.mem_of_getElem? hy)
     have hcf:=Zb3 y k (by omega) (by omega) wr
     have hcb:=ZeD (i:=k) hy8
     have HNX:=Hd hnx;have HL3:=Hd hl3;have HCF:=Hd hcf
     have hm9:j<4294967296:=by omega
     have hcv:IntKind.u8.wrap (97+(k:Int))=((97+k:Nat):Int):=by rw[IntWalk.u8_in _ (by omega)];omega
     obtain⟨ct,hct⟩:∃ ct,ctC k y=ct:=⟨_,rfl⟩
     rw[hct] at HCF HNX hcb
     clear hy hnx hl3 hcf hct hbw2
     go_wp2_with fail
     refine HCF.o.mono ?_
     rintro e w2 ⟨rfl,rfl⟩
     go_wp2_with (at_builtin;refine Zx rfl (.tmp 23) (.tmp 29) 83 rfl _ 8 Tryz.underlying83 Zu rfl j cq rfl HO.o _ rfl rfl HL3.o hm9 (by decide) hz2 ?_)
     intro g4 c4 w4 ha4
     have hown4:=ha4.own
     rw[← HNX.o] at hown4
     have hbe4:=hbe2.trans ha4.bel
     have HO4:=Hd hown4
     clear ha4 hown4
     go_wp2_with fail
     go_roundw
     case rel=>exact⟨j+1,g4,c4,by omega,by go_num,rfl,HO4.o,hbe4⟩
     case measure=>simp[intOf];omega
    ·have hje:j=nz:=by omega
     subst hje
     have htk:(mtR zs k).take zs.length=mtR zs k:=List.take_of_length_le (by rw[Vy];omega)
     have hown:=HO.o
     rw[← HL.o,htk] at hown
     have hrv:=RowV.ofOwn (go:=g) hown (Vy zs k) HBD.o.lt.2
     rw[HL.o] at hrv
     have hbd:=HBD.o.below hbe2
     have hnx:=ZfY (zs:=zs) (k:=k) (by rw[HL.o];exact hlt)
     have HBD2:=Hd hbd;have HRV:=Hd hrv;have HNX:=Hd hnx
     have hz3:w.heap.size+1≤wr.heap.size:=by omega
     have hm9:k<4294967296:=by omega
     clear hown hrv hbd hnx htk HO HBD
     go_wp2_with (at_builtin;refine Zx rfl (.tmp 32) (.tmp 34) 60 rfl _ 24 Tryz.underlying60 Jn rfl k c rfl HBD2.o.own _ rfl rfl HBD2.o.vlen hm9 (by decide) hz3 ?_)
     intro g4 c4 w4 ha4
     have hb4:=HBD2.o.add4 HRV.o ha4
     rw[← HNX.o] at hb4
     have HB4:=Hd hb4
     have hbe4:Below (w.heap.size+1) w1 w4:=(hbel.trans (hbe2.mono (by omega))).trans ha4.bel
     clear ha4 hb4
     go_wp2_with fail
     go_roundw
     case rel=>exact⟨k+1,g4,c4,_,by omega,by go_num,rfl,HB4.o,hbe4⟩
     case measure=>simp[intOf];omega
  ·have hke:k=nz:=by omega
   subst hke
   have htk:(mtL zs).take zs.length=mtL zs:=List.take_of_length_le (by rw[ZiY];omega)
   have hb2:=hb
   rw[← HL.o,htk] at hb2
   rw[HL.o] at hb2
   have HB2:=Hd hb2
   clear hb hb2 htk
   go_wp2_with fail
   go_ret
   exact⟨g,c,vs,rfl,HB2.o.lower (by omega),hbw⟩
def QD (z:Int):ByteArray:=Zd (Lib.itoa z)
theorem QA {z:Int} (h:I64 z):(QD z).size≤400:=by
 have:=Jq h
 rw[QD,Zh];omega
theorem ZfL (z:Int):Lib.itoa z≠[]:=by
 unfold Lib.itoa
 split
 ·simp
 ·rw[Lib.decDigits];split<;>simp
def fmL (zs:List Int):List ByteArray:=zs.map QD
theorem Jz (zs:List Int):(fmL zs).length=zs.length:=List.length_map ..
theorem Yb {zs:List Int} {k:Nat} {z:Int} (h:zs[k]? = some z):fmL (zs.take (k+1))=fmL (zs.take k)++[QD z]:=by
 rw[fmL,List.take_add_one,h,List.map_append];rfl
def JF (zs:List Int):ByteArray:=if 60<zs.length then { data:=#[] } else if zs.length=0 then { data:=#[45] } else Zd (jnS 44 (fmL zs))
theorem ZfM {sp:UInt8} {y:ByteArray} {l:List ByteArray} (h:0<y.size):0<(jnS sp (y :: l)).length:=by
 have h1:0<(L y).length:=by rw[Zj];exact h
 cases l with
 | nil=>simpa[jnS,Lib.join,List.intercalate] using h1
 | cons z l =>
  have:0<y.size+(jnS sp (z :: l)).length+1:=by omega
  simp[jnS,Lib.join,List.intercalate];omega
theorem Zc9 (zs:List Int) (A:Option Addr) (c B:Nat) (w:World) (hB:B≤w.heap.size) (hzs:∀ z∈zs,I64 z) (hrd:Rds w B A (zs.map (Value.int .i64))) (hn:zs.length≤9223372036854775807) (ht:TB w) :
  Calls Tryz.prog 208 #[.slice A zs.length c] w fun e w'=>e=.returned (.string (JF zs))∧Below w.heap.size w w':=by
 have HR:=Hd hrd;have HZ:=Hd hzs;have HT:=Hd ht
 clear hrd hzs ht
 by_cases h60:60<zs.length
 ·have hv:JF zs={ data:=#[] }:=by rw[JF,if_pos h60]
  rw[hv];clear hv
  go_enter Tryz.func208,Tryz.ntmps208
  go_wp2_with fail
  go_ret
  exact⟨rfl,Below.refl _ _⟩
 ·go_enter Tryz.func208,Tryz.ntmps208
  go_wp2_with fail
  go_loopw [3,5,12] (fun v _ i wr=>∃ k g c:Nat,k≤zs.length∧i=.int .i64 k∧v=.slice (some ⟨g,0,none⟩) k c∧Own wr w.heap.size 9 (.slice (some ⟨g,0,none⟩) k c) ((fmL (zs.take k)).map Value.string)∧Below w.heap.size w wr) (fun _ _ i _=>zs.length - (intOf i).toNat)
  case atStart=>exact⟨0,w.heap.size,0,by omega,rfl,rfl,Own.empty nlr,(Below.refl _ _).alloc nlr _⟩
  case round =>
   obtain⟨k,g,c2,hk,rfl,rfl,hown,hbel⟩:=hrel
   have HO:=Hd hown
   have hzr:=hbel.size
   clear hown
   by_cases hlt:k<zs.length
   ·obtain⟨z,hz⟩:=Zc (l:=zs) (k:=k) hlt
    obtain⟨ad,rfl,hc⟩:=(HR.o.below hbel hB).at_ (Zs (Value.int .i64) hz)
    have hzi:=HZ.o z (List.mem_of_getElem? hz)
    have hmt:=Yb hz
    have hcf:=Qc z hzi wr (HT.o.below hbel)
    have HMT:=Hd hmt;have HCF:=Hd hcf
    have hl3:((fmL (zs.take k)).map Value.string).length=k:=by rw[List.length_map,Jz,List.length_take];omega
    have HL3:=Hd hl3
    have hm9:k<4294967296:=by omega
    clear hz hmt hcf hl3
    go_wp2_with fail
    refine HCF.o.mono ?_
    rintro e w2 ⟨rfl,b2⟩
    have HO2:=Hd (HO.o.below b2)
    have hsz:w.heap.size≤w2.heap.size:=by have:=b2.size;omega
    go_wp2_with (at_builtin;refine Zx rfl (.tmp 16) (.tmp 19) 23 rfl _ 16 Tryz.underlying23 Zn rfl k c2 rfl HO2.o _ rfl rfl HL3.o hm9 (by decide) hsz ?_)
    intro g4 c4 w4 ha4
    have hown4:=ha4.own
    rw[show (fmL (zs.take k)).map Value.string++[Value.string (Zd (Lib.itoa z))]=(fmL (zs.take (k+1))).map Value.string from by rw[HMT.o,List.map_append];rfl] at hown4
    have hbel4:=(hbel.trans (b2.mono hzr)).trans ha4.bel
    have HO4:=Hd hown4
    clear ha4 hown4
    go_wp2_with fail
    go_roundw
    case rel=>exact⟨k+1,g4,c4,by omega,by go_num,rfl,HO4.o,hbel4⟩
    case measure=>simp[intOf];omega
   ·have hkl:k=zs.length:=by omega
    have hzl:zs.take k=zs:=List.take_of_length_le (by omega)
    rw[hzl] at HO
    subst hkl
    have hjz:∀ x∈fmL zs,x.size≤400:=fun x hx=>by
     obtain⟨z,hz,rfl⟩:=List.mem_map.1 hx
     exact QA (HZ.o z hz)
    have HJZ:=Hd hjz
    clear hzl hjz
    have hcj:=Wv 44 (fmL zs) (some ⟨g,0,none⟩) zs.length c2 w.heap.size wr (Jz zs) (by rw[Jz];omega) HJZ.o HO.o
    have hjs:=Wu 44 (fmL zs) HJZ.o
    rw[Jz] at hjs
    have hfin:orD (Zd (jnS 44 (fmL zs)))=JF zs:=by
     rw[JF,if_neg h60]
     by_cases h0:zs.length=0
     ·rw[if_pos h0]
      have:zs=[]:=List.eq_nil_of_length_eq_zero h0
      subst this;exact (by decide +kernel)
     ·rw[if_neg h0]
      obtain⟨y,l,rfl⟩:∃ y l,zs=y :: l:=by
       cases zs with
       | nil=>exact absurd rfl h0
       | cons y l=>exact⟨y,l,rfl⟩
      have hp:0<(jnS 44 (fmL (y :: l))).length:=ZfM (by rw[QD,Zh];exact List.length_pos_iff.2 (ZfL y))
      rw[orD,if_neg (by rw[Zh];omega)]
    have hco:=Jd (Zd (jnS 44 (fmL zs)))
    rw[hfin] at hco
    have HCJ:=Hd hcj;have HCO:=Hd hco
    clear hcj hfin hco hjs
    go_wp2_with fail
    refine HCJ.o.mono ?_
    rintro e w3 ⟨rfl,b3⟩
    go_wp2_with fail
    refine (HCO.o _).mono ?_
    rintro e w4 ⟨rfl,rfl⟩
    go_wp2_with fail
    go_ret
    exact⟨rfl,hbel.trans (b3.mono hzr)⟩
theorem Zda (zs:List Int) (A:Option Addr) (c B:Nat) (w:World) (hB:B≤w.heap.size) (hzs:∀ z∈zs,I64 z) (hrd:Rds w B A (zs.map (Value.int .i64))) (hn:zs.length≤9223372036854775807) :
  Calls Tryz.prog 162 #[.slice A zs.length c] w fun e w'=>e=.returned (.string (JF zs))∧Below w.heap.size w w':=by
 have HR:=Hd hrd;have HZ:=Hd hzs
 clear hrd hzs
 by_cases h60:60<zs.length
 ·have hv:JF zs={ data:=#[] }:=by rw[JF,if_pos h60]
  rw[hv];clear hv
  go_enter Tryz.func162,Tryz.ntmps162
  go_wp2_with fail
  go_ret
  exact⟨rfl,Below.refl _ _⟩
 ·go_enter Tryz.func162,Tryz.ntmps162
  go_wp2_with fail
  go_loopw [3,5,12] (fun v _ i wr=>∃ k g c:Nat,k≤zs.length∧i=.int .i64 k∧v=.slice (some ⟨g,0,none⟩) k c∧Own wr w.heap.size 9 (.slice (some ⟨g,0,none⟩) k c) ((fmL (zs.take k)).map Value.string)∧Below w.heap.size w wr) (fun _ _ i _=>zs.length - (intOf i).toNat)
  case atStart=>exact⟨0,w.heap.size,0,by omega,rfl,rfl,Own.empty nlr,(Below.refl _ _).alloc nlr _⟩
  case round =>
   obtain⟨k,g,c2,hk,rfl,rfl,hown,hbel⟩:=hrel
   have HO:=Hd hown
   have hzr:=hbel.size
   clear hown
   by_cases hlt:k<zs.length
   ·obtain⟨z,hz⟩:=Zc (l:=zs) (k:=k) hlt
    obtain⟨ad,rfl,hc⟩:=(HR.o.below hbel hB).at_ (Zs (Value.int .i64) hz)
    have hzi:=HZ.o z (List.mem_of_getElem? hz)
    have hmt:=Yb hz
    have hcf:=ZJ z hzi wr
    have HMT:=Hd hmt;have HCF:=Hd hcf
    have hl3:((fmL (zs.take k)).map Value.string).length=k:=by rw[List.length_map,Jz,List.length_take];omega
    have HL3:=Hd hl3
    have hm9:k<4294967296:=by omega
    clear hz hmt hcf hl3
    go_wp2_with fail
    refine HCF.o.mono ?_
    rintro e w2 ⟨rfl,b2⟩
    have HO2:=Hd (HO.o.below b2)
    have hsz:w.heap.size≤w2.heap.size:=by have:=b2.size;omega
    go_wp2_with (at_builtin;refine Zx rfl (.tmp 16) (.tmp 19) 23 rfl _ 16 Tryz.underlying23 Zn rfl k c2 rfl HO2.o _ rfl rfl HL3.o hm9 (by decide) hsz ?_)
    intro g4 c4 w4 ha4
    have hown4:=ha4.own
    rw[show (fmL (zs.take k)).map Value.string++[Value.string (Zd (Lib.itoa z))]=(fmL (zs.take (k+1))).map Value.string from by rw[HMT.o,List.map_append];rfl] at hown4
    have hbel4:=(hbel.trans (b2.mono hzr)).trans ha4.bel
    have HO4:=Hd hown4
    clear ha4 hown4
    go_wp2_with fail
    go_roundw
    case rel=>exact⟨k+1,g4,c4,by omega,by go_num,rfl,HO4.o,hbel4⟩
    case measure=>simp[intOf];omega
   ·have hkl:k=zs.length:=by omega
    have hzl:zs.take k=zs:=List.take_of_length_le (by omega)
    rw[hzl] at HO
    subst hkl
    have hjz:∀ x∈fmL zs,x.size≤400:=fun x hx=>by
     obtain⟨z,hz,rfl⟩:=List.mem_map.1 hx
     exact QA (HZ.o z hz)
    have HJZ:=Hd hjz
    clear hzl hjz
    by_cases h0:zs.length=0
    ·have hfin:JF zs={ data:=#[45] }:=by rw[JF,if_neg h60,if_pos h0]
     have HF:=Hd hfin
     clear hfin
     go_wp2_with fail
     go_ret
     exact⟨by rw[HF.o];rfl,hbel⟩
    ·have hfin:JF zs=Zd (jnS 44 (fmL zs)):=by rw[JF,if_neg h60,if_neg h0]
     have HF:=Hd hfin
     have hcj:=VT 44 (fmL zs) (some ⟨g,0,none⟩) c2 _ wr (by rw[Jz];omega) HJZ.o (Own.reads HO.o)
     rw[Jz] at hcj
     have HCJ:=Hd hcj
     have hk0:¬ (zs.length:Int)=0:=by omega
     clear hfin hcj
     go_wp2_with fail
     refine HCJ.o.mono ?_
     rintro e w3 ⟨rfl,rfl⟩
     go_wp2_with fail
     go_ret
     exact⟨by rw[HF.o];rfl,hbel⟩
theorem YW {d:Nat} (h:d<10):(UInt8.ofNat (48+d)).toNat=48+d:=by
 rw[UInt8.toNat_ofNat'];omega
theorem Zgc:∀ (l:List UInt8) (acc a:Nat) (c:UInt8),Lib.parseUint10 acc l=.ok a→Lib.parseUint10 acc (l++[c])=Lib.parseUint10 a [c]
 | [],acc,a,c,h=>by
  simp only[Lib.parseUint10] at h
  injection h with h
  rw[h];rfl
 | x :: l,acc,a,c,h=>by
  rw[Lib.parseUint10] at h
  rw[List.cons_append,Lib.parseUint10]
  split at h
  ·rename_i h1
   rw[if_pos h1]
   split at h
   ·cases h
   ·rename_i h2
    rw[if_neg h2]
    split at h
    ·cases h
    ·rename_i h3
     rw[if_neg h3]
     exact Zgc l _ a c h
  ·cases h
theorem Zli (u:Nat):u<18446744073709551616→Lib.parseUint10 0 (Lib.decDigits u)=.ok u:=by
 induction u using Nat.strongRecOn with
 | ind u ih =>
  intro hu
  by_cases h:u<10
  ·rw[JN h,Lib.parseUint10,YW h,if_pos (by omega),if_neg (by omega),if_neg (by omega),Lib.parseUint10]
   congr 1;omega
  ·rw[YO h,Zgc _ _ _ _ (ih (u / 10) (by omega) (by omega)),Lib.parseUint10,YW (by omega),if_pos (by omega),if_neg (by omega),if_neg (by omega),Lib.parseUint10]
   congr 1;omega
theorem Zjs (u:Nat):Lib.decDigits u≠[]:=by
 by_cases h:u<10
 ·rw[JN h];simp
 ·rw[YO h];simp
theorem WJ (u:Nat):∀ c∈Lib.decDigits u,48≤c.toNat∧c.toNat≤57:=by
 induction u using Nat.strongRecOn with
 | ind u ih =>
  intro c hc
  by_cases h:u<10
  ·rw[JN h] at hc
   rw[List.mem_singleton.1 hc,YW h];omega
  ·rw[YO h,List.mem_append,List.mem_singleton] at hc
   rcases hc with hc|hc
   ·exact ih (u / 10) (by omega) c hc
   ·rw[hc,YW (by omega)];omega
theorem Zhh {v:Int} (hv:I64 v):Lib.atoiAll (Lib.itoa v)=.ok v:=by
 unfold I64 at hv
 by_cases h:0≤v
 ·obtain⟨u,rfl⟩:∃ u:Nat,v=(u:Int):=⟨v.toNat,by omega⟩
  rw[Lib.itoa_nonneg]
  have hp:=Zli u (by omega)
  have hd:=WJ u
  cases hl:Lib.decDigits u with
  | nil=>exact absurd hl (Zjs u)
  | cons c r =>
   rw[hl] at hp hd
   have hc:=hd c List.mem_cons_self
   have hpm:Lib.parseMag (c :: r)=.ok u:=by rw[Lib.parseMag,if_neg (by simp),hp]
   rw[Lib.atoiAll]
   simp only[if_neg (show ¬ (c.toNat=43∨c.toNat=45) by omega),hpm]
   rw[if_neg (by omega),if_neg (by omega),if_neg (by omega)]
 ·obtain⟨u,rfl⟩:∃ u:Nat,v=-(u:Int):=⟨(-v).toNat,by omega⟩
  rw[Lib.itoa_neg u (by omega)]
  have hp:=Zli u (by omega)
  have hpm:Lib.parseMag (Lib.decDigits u)=.ok u:=by rw[Lib.parseMag,if_neg (Zjs u),hp]
  rw[Lib.atoiAll]
  simp only[if_pos (show ((45:UInt8).toNat=43∨(45:UInt8).toNat=45) from .inr rfl),hpm]
  have h45:(45:UInt8).toNat=45:=rfl
  rw[if_neg (by omega),if_neg (by omega),if_pos h45]
def iP (s:ByteArray):Option Int:=match Lib.atoiAll (L s) with
 | .ok v=>if Lib.itoa v=L s then some v else none
 | _=>none
theorem Zcd (s:ByteArray) (v:Int):iP s=some v↔I64 v∧L s=Lib.itoa v:=by
 constructor
 ·intro h
  unfold iP at h
  split at h
  ·rename_i x hx
   split at h
   ·rename_i h2
    injection h with h
    subst h
    have:=Lib.atoiAll_bounds hx
    exact⟨⟨by omega,by omega⟩,h2.symm⟩
   ·cases h
  ·cases h
 ·rintro ⟨h1,h2⟩
  rw[iP,h2,Zhh h1]
  simp
def Qw:List UInt8→Int→Option Int
 | [],n=>some n
 | c :: r,n=>if n<(-9223372036854775808+((c.toNat:Int) - 48)).tdiv 10 then none else Qw r (n * 10 - ((c.toNat:Int) - 48))
theorem Zgd:∀ (l:List UInt8) (n a:Int) (c:UInt8),Qw l n=some a→Qw (l++[c]) n=Qw [c] a
 | [],n,a,c,h=>by
  simp only[Qw] at h
  injection h with h
  rw[h];rfl
 | x :: l,n,a,c,h=>by
  rw[Qw] at h
  rw[List.cons_append,Qw]
  split at h
  ·cases h
  ·rename_i h1
   rw[if_neg h1]
   exact Zgd l _ a c h
theorem QY (m:Nat):(-(m:Int)).tdiv 10=-((m / 10:Nat):Int):=by
 rw[Int.neg_tdiv]
 rfl
theorem Zlj (u:Nat):u≤9223372036854775808→Qw (Lib.decDigits u) 0=some (-(u:Int)):=by
 induction u using Nat.strongRecOn with
 | ind u ih =>
  intro hu
  by_cases h:u<10
  ·have e1:(-9223372036854775808+(((48+u:Nat):Int) - 48))=-((9223372036854775808 - u:Nat):Int):=by omega
   rw[JN h,Qw,YW h,e1,QY,if_neg (by omega),Qw]
   congr 1;omega
  ·have e1:(-9223372036854775808+(((48+u % 10:Nat):Int) - 48))=-((9223372036854775808 - u % 10:Nat):Int):=by omega
   rw[YO h,Zgd _ _ _ _ (ih (u / 10) (by omega) (by omega)),Qw,YW (by omega),e1,QY,if_neg (by omega),Qw]
   congr 1;omega
def WK (s:ByteArray):Bool:=decide ((L s).head? = some 45)
def Qo (s:ByteArray):List UInt8:=if WK s then (L s).drop 1 else L s
def JT (l:List UInt8):Bool:=l.all (fun c=>decide (48≤c.toNat∧c.toNat≤57))&&!l.isEmpty
def JU (neg:Bool) (n:Int):Option Int:=if neg then some n else if n=-9223372036854775808 then none else some (-n)
def sP (s:ByteArray):Option Int :=
 if JT (Qo s)&&decide ((Qo s).length≤19) then
  match Qw (Qo s) 0 with
  | none=>none
  | some n=>match JU (WK s) n with
   | none=>none
   | some v=>if Lib.itoa v=L s then some v else none
 else none
theorem Zge (u:Nat):JT (Lib.decDigits u)=true:=by
 rw[JT,Bool.and_eq_true,List.all_eq_true]
 refine⟨fun c hc=>decide_eq_true (WJ u c hc),?_⟩
 have:=Zjs u
 cases h:Lib.decDigits u with
 | nil=>exact absurd h this
 | cons a l=>rfl
theorem WL:∀ (l:List UInt8) (n v:Int),(∀ c∈l,48≤c.toNat∧c.toNat≤57)→(-9223372036854775808≤n∧n≤0)→Qw l n=some v→-9223372036854775808≤v∧v≤0
 | [],n,v,_,hn,h=>by
  simp only[Qw] at h
  injection h with h
  rw[← h];exact hn
 | c :: l,n,v,hl,hn,h=>by
  rw[Qw] at h
  have hc:=hl c List.mem_cons_self
  have e1:(-9223372036854775808+((c.toNat:Int) - 48))=-((9223372036854775808 - (c.toNat - 48):Nat):Int):=by omega
  rw[e1,QY] at h
  split at h
  ·cases h
  ·exact WL l _ v (fun x hx=>hl x (List.mem_cons_of_mem _ hx)) (by omega) h
theorem Zjt (s:ByteArray) (v:Int):sP s=some v↔I64 v∧L s=Lib.itoa v:=by
 constructor
 ·intro h
  unfold sP at h
  split at h
  ·rename_i hd
   rw[Bool.and_eq_true,JT,Bool.and_eq_true,List.all_eq_true] at hd
   split at h
   ·cases h
   ·rename_i n hn
    have hb:=WL _ 0 n (fun c hc=>of_decide_eq_true (hd.1.1 c hc)) (by omega) hn
    split at h
    ·cases h
    ·rename_i v2 hv2
     split at h
     ·rename_i h3
      injection h with h
      subst h
      refine⟨?_,h3.symm⟩
      unfold JU at hv2
      split at hv2
      ·injection hv2 with hv2;subst hv2;exact⟨by omega,by omega⟩
      ·split at hv2
       ·cases hv2
       ·injection hv2 with hv2;subst hv2;exact⟨by omega,by omega⟩
     ·cases h
  ·cases h
 ·rintro ⟨h1,h2⟩
  unfold I64 at h1
  by_cases h:0≤v
  ·obtain⟨u,rfl⟩:∃ u:Nat,v=(u:Int):=⟨v.toNat,by omega⟩
   rw[Lib.itoa_nonneg] at h2
   have hneg:WK s=false:=by
    rw[WK,h2]
    refine decide_eq_false fun h3=>?_
    have h4:=List.mem_of_mem_head? (Option.mem_def.2 h3)
    have h5:=WJ u 45 h4
    exact absurd h5.1 (by decide)
   have hb:Qo s=Lib.decDigits u:=by rw[Qo,hneg,h2];rfl
   have hlen:=ZbH 19 u (by omega) (by omega)
   rw[sP,hb,Zge,decide_eq_true hlen,Zlj u (by omega),hneg]
   simp only[Bool.and_self,if_true]
   rw[JU,if_neg (by simp),if_neg (by omega)]
   simp only[Int.neg_neg]
   rw[Lib.itoa_nonneg,if_pos h2.symm]
  ·obtain⟨u,rfl⟩:∃ u:Nat,v=-(u:Int):=⟨(-v).toNat,by omega⟩
   have hi:=Lib.itoa_neg u (by omega)
   rw[hi] at h2
   have hneg:WK s=true:=by rw[WK,h2];rfl
   have hb:Qo s=Lib.decDigits u:=by rw[Qo,hneg,h2];rfl
   have hlen:=ZbH 19 u (by omega) (by omega)
   rw[sP,hb,Zge,decide_eq_true hlen,Zlj u (by omega),hneg]
   simp only[Bool.and_self,if_true]
   rw[JU,if_pos rfl]
   simp only
   rw[hi,if_pos h2.symm]
theorem Zl1 (s:ByteArray):iP s=sP s:=by
 cases h:iP s with
 | none =>
  cases h2:sP s with
  | none=>rfl
  | some v=>rw[(Zcd s v).2 ((Zjt s v).1 h2)] at h;cases h
 | some v=>rw[(Zjt s v).2 ((Zcd s v).1 h)]
theorem W9 (xs:List ByteArray) (A:Option Addr) (n c B m:Nat) (w:World) (hl:xs.length=n) (hn:n≤4294967296) (hm1:1≤m) (hm:m≤4294967296) (hown:Own w B 9 (.slice A n c) (xs.map Value.string)) (hBw:B≤w.heap.size) :
  Calls Tryz.prog 47 #[.agg #[.slice A n c],.int .i64 m] w fun e w'=>e=.returned (.int .i64 ((m+n:Nat):Int))∧Own w' B 9 (.slice A n c) ((mtx m n).map Value.string)∧Below B w w'∧w.grownBy w' (Value.slice A n c).ownBlock:=by
 subst hl
 have bA:Below w.heap.size w (w.alloc (.cells #[.slice A xs.length c] 26)):=(Below.refl _ _).alloc nlr _
 have hc:=Xx xs A c B m _ hn hm1 hm (hown.below bA) (Nat.le_trans hBw bA.size)
 have HC:=Hd hc;have BA:=Hd bA
 clear hc bA hown
 go_enter Tryz.func47,Tryz.ntmps47
 go_wp2_with (go_at_call 107;refine HC.o.mono ?_;rintro e w1 ⟨rfl,o1,b1,g1⟩)
 go_ret
 exact⟨rfl,o1,(BA.out.mono hBw).trans b1,QF ⟨BA.out.os,BA.out.tape,BA.out.output,BA.out.size,fun k hk _=>BA.out.block k hk⟩ g1⟩
theorem VK (xs:List ByteArray) (s:ByteArray) (A:Option Addr) (n c B m:Nat) (w:World) (hl:xs.length=n) (hn:n≤4294967296) (hm1:1≤m) (hm:m≤4294967296) (hown:Own w B 9 (.slice A n c) (xs.map Value.string)) (hBw:B≤w.heap.size) :
  Calls Tryz.prog 18 #[.agg #[.slice A n c,.string s],.int .i64 m] w fun e w'=>e=.returned (.int .i64 ((m+n:Nat):Int))∧Own w' B 9 (.slice A n c) ((mtx m n).map Value.string)∧Below B w w'∧w.grownBy w' (Value.slice A n c).ownBlock:=by
 have bA:Below w.heap.size w (w.alloc (.cells #[.slice A n c,.string s] 28)):=(Below.refl _ _).alloc nlr _
 have hc:=W9 xs A n c B m _ hl hn hm1 hm (hown.below bA) (Nat.le_trans hBw bA.size)
 have HC:=Hd hc;have BA:=Hd bA
 clear hc bA hown
 go_enter Tryz.func18,Tryz.ntmps18
 go_wp2_with (go_at_call 47;refine HC.o.mono ?_;rintro e w1 ⟨rfl,o1,b1,g1⟩)
 go_ret
 exact⟨rfl,o1,(BA.out.mono hBw).trans b1,QF ⟨BA.out.os,BA.out.tape,BA.out.output,BA.out.size,fun k hk _=>BA.out.block k hk⟩ g1⟩
theorem Zaa (A:Option Addr) (n c B m:Nat) (w:World) (hn:n≤4294967296) (hm1:1≤m) (hm:m≤4294967296) (hBw:B≤w.heap.size) (hrd:Rds w B A ((mtx m n).map Value.string)) :
  Calls Tryz.prog 48 #[.agg #[.slice A n c],.int .i64 m] w fun e w'=>e=.returned (.int .i64 ((m+n:Nat):Int))∧Below w.heap.size w w':=by
 have bA:Below w.heap.size w (w.alloc (.cells #[.slice A n c] 26)):=(Below.refl _ _).alloc nlr _
 have hc:=Xy n A c B m _ hn hm1 hm (Nat.le_trans hBw bA.size) (hrd.below bA hBw)
 obtain⟨q,hq⟩:∃ q,m+n=q:=⟨_,rfl⟩
 rw[hq] at hc ⊢
 have HC:=Hd hc;have BA:=Hd bA
 have hq0:decide ((q:Int)<0)=false:=decide_eq_false (by omega)
 clear hc bA hrd hq
 go_enter Tryz.func48,Tryz.ntmps48
 go_wp2_with (go_at_call 108;refine HC.o.mono ?_;rintro e w1 ⟨rfl,b1⟩)
 go_ret
 exact⟨rfl,BA.out.trans (b1.mono BA.out.size)⟩
theorem Zab (s:ByteArray) (A:Option Addr) (n c B m:Nat) (w:World) (hn:n≤4294967296) (hm1:1≤m) (hm:m≤4294967296) (hBw:B≤w.heap.size) (hrd:Rds w B A ((mtx m n).map Value.string)) :
  Calls Tryz.prog 19 #[.agg #[.slice A n c,.string s],.int .i64 m] w fun e w'=>e=.returned (.int .i64 ((m+n:Nat):Int))∧Below w.heap.size w w':=by
 have bA:Below w.heap.size w (w.alloc (.cells #[.slice A n c,.string s] 28)):=(Below.refl _ _).alloc nlr _
 have hc:=Zaa A n c B m _ hn hm1 hm (Nat.le_trans hBw bA.size) (hrd.below bA hBw)
 obtain⟨q,hq⟩:∃ q,m+n=q:=⟨_,rfl⟩
 rw[hq] at hc ⊢
 have HC:=Hd hc;have BA:=Hd bA
 have hq0:decide ((q:Int)<0)=false:=decide_eq_false (by omega)
 clear hc bA hrd hq
 go_enter Tryz.func19,Tryz.ntmps19
 go_wp2_with (go_at_call 48;refine HC.o.mono ?_;rintro e w1 ⟨rfl,b1⟩)
 go_ret
 exact⟨rfl,BA.out.trans (b1.mono BA.out.size)⟩
end Go.Proofs.YtocbgldilgemoaaGreatDoor
namespace Go.Proofs.YtocbgldilgemoaaGreatDoor
set_option linter.unusedVariables false
def QZ (x:Int):Bool:=decide (0<x)
def Vc (m:List (List Int)):Bool:=m.all fun r=>r.all QZ
theorem ZaW {m:List (List Int)} {k:Nat} {r:List Int} (h:m[k]? = some r):Vc (m.take (k+1))=(Vc (m.take k)&&r.all QZ):=by
 unfold Vc
 rw[List.take_add_one,h,List.all_append];simp
theorem ZdU {r:List Int} {j:Nat} {x:Int} (h:r[j]? = some x):(r.take (j+1)).all QZ=((r.take j).all QZ&&QZ x):=by
 rw[List.take_add_one,h,List.all_append];simp
def sgT (m:List (List Int)) (r:List Int) (k i:Nat):Bool:=QZ (r.getD i 0)&&QZ ((m.getD i []).getD k 0)
def sgP (m:List (List Int)) (r:List Int) (k:Nat):Nat→Bool
 | 0=>false
 | i+1=>sgP m r k i||sgT m r k i
def b2i (b:Bool):Int:=if b then 1 else 0
def sgR (m:List (List Int)) (n:Nat) (r:List Int):List Int:=(List.range n).map fun k=>b2i (sgP m r k n)
def sgM (m:List (List Int)) (n:Nat) (p:List (List Int)):List (List Int):=p.map (sgR m n)
def sgL (m:List (List Int)) (r:List Int) (n i k:Nat):List Int:=(List.range n).map fun q=>b2i (sgP m r q (if q<k then i+1 else i))
theorem XN (m:List (List Int)) (r:List Int) (n i k:Nat):(sgL m r n i k).length=n:=by simp[sgL]
theorem Yu (m:List (List Int)) (n:Nat) (r:List Int):(sgR m n r).length=n:=by simp[sgR]
theorem Zju (m:List (List Int)) (r:List Int) (n:Nat):sgL m r n 0 0=List.replicate n 0:=by
 apply List.ext_getElem?
 intro q
 unfold sgL
 rw[List.getElem?_map,List.getElem?_replicate]
 by_cases h:q<n
 ·rw[List.getElem?_range h,if_pos h];simp[sgP,b2i]
 ·rw[List.getElem?_eq_none (by simp;omega),if_neg h];rfl
theorem ZkQ (m:List (List Int)) (r:List Int) (n i:Nat):sgL m r n i n=sgL m r n (i+1) 0:=by
 unfold sgL
 refine List.map_congr_left fun q hq=>?_
 have:=List.mem_range.1 hq
 rw[if_pos this,if_neg (by omega)]
theorem ZkR (m:List (List Int)) (r:List Int) (n:Nat):sgL m r n n 0=sgR m n r:=by
 unfold sgL sgR
 refine List.map_congr_left fun q hq=>?_
 rw[if_neg (by omega)]
theorem Zjv {m:List (List Int)} {r:List Int} {n i k:Nat} (h:sgT m r k i=false):sgL m r n i (k+1)=sgL m r n i k:=by
 unfold sgL
 refine List.map_congr_left fun q hq=>?_
 by_cases h1:q<k
 ·rw[if_pos h1,if_pos (by omega)]
 ·by_cases h2:q=k
  ·subst h2
   rw[if_pos (by omega),if_neg h1,sgP,h,Bool.or_false]
  ·rw[if_neg h1,if_neg (by omega)]
theorem ZkS {m:List (List Int)} {r:List Int} {n i k:Nat} (h:sgT m r k i=true) (hk:k<n):sgL m r n i (k+1)=(sgL m r n i k).set k 1:=by
 apply List.ext_getElem?
 intro q
 rw[List.getElem?_set,XN]
 by_cases hq:q<n
 ·unfold sgL
  rw[List.getElem?_map,List.getElem?_map,List.getElem?_range hq]
  simp only[Option.map_some]
  by_cases h2:k=q
  ·subst h2
   rw[if_pos (by omega),if_pos rfl,if_pos hk,sgP,h,Bool.or_true];rfl
  ·rw[if_neg h2]
   by_cases h1:q<k
   ·rw[if_pos h1,if_pos (by omega)]
   ·rw[if_neg h1,if_neg (by omega)]
 ·rw[List.getElem?_eq_none (by rw[XN];omega),List.getElem?_eq_none (by rw[XN];omega)]
  by_cases h2:k=q
  ·omega
  ·rw[if_neg h2]
theorem Zlk {m p:List (List Int)} {n:Nat} (h:p.length=n):sqM n (sgM m n p):=by
 refine⟨by rw[sgM,List.length_map,h],fun r hr=>?_⟩
 obtain⟨y,_,rfl⟩:=List.mem_map.1 hr
 refine⟨Yu m n y,fun x hx=>?_⟩
 obtain⟨k,_,rfl⟩:=List.mem_map.1 hx
 unfold b2i;split<;>omega
theorem Zgg {m p:List (List Int)} {n k:Nat} {r:List Int} (h:p[k]? = some r):(sgM m n p).take (k+1)=(sgM m n p).take k++[sgR m n r]:=by
 rw[List.take_add_one,sgM,List.getElem?_map,h];rfl
theorem Zjw {m:List (List Int)} {n k:Nat} {r:List Int} (h:k<n):Z9 ((sgR m n r).take (k+1))=Z9 ((sgR m n r).take k)++[Value.int .i64 (b2i (sgP m r k n))]:=by
 refine YT ?_
 unfold sgR
 rw[List.getElem?_map,List.getElem?_range h];rfl
def prG (m:List (List Int)) (n:Nat):Nat→List (List Int)→Bool
 | 0,_=>false
 | f+1,p=>if Vc p=true then true else prG m n f (sgM m n p)
theorem Zgh {m p:List (List Int)} {n f:Nat} (h:Vc p=true):prG m n (f+1) p=true:=by rw[prG,if_pos h]
theorem Zjx {m p:List (List Int)} {n f:Nat} (h:Vc p=false):prG m n (f+1) p=prG m n f (sgM m n p):=by rw[prG,if_neg (by rw[h];decide)]
def prV (zs:List ByteArray):Bool:=prG (mtL zs) zs.length 16 (mtL zs)
theorem Zjy {m:List (List Int)} {r y:List Int} {k i:Nat} {x z:Int} (h1:r[i]? = some x) (h2:m[i]? = some y) (h3:y[k]? = some z):sgT m r k i=(QZ x&&QZ z):=by
 rw[sgT,List.getD_eq_getElem?_getD,List.getD_eq_getElem?_getD,List.getD_eq_getElem?_getD,h1,h2]
 simp[h3]
theorem ZkT {m:List (List Int)} {r:List Int} {k j:Nat} (h:sgT m r k j=true):b2i (sgP m r k (j+1))=1:=by rw[sgP,h,Bool.or_true];rfl
theorem Zjz {m:List (List Int)} {r:List Int} {k j:Nat} (h:sgT m r k j=false):b2i (sgP m r k (j+1))=b2i (sgP m r k j):=by rw[sgP,h,Bool.or_false]
attribute [irreducible] prG sgP b2i
end Go.Proofs.YtocbgldilgemoaaGreatDoor
namespace Go.Proofs.YtocbgldilgemoaaGreatDoor
open Go.RowKit
set_option maxRecDepth 4000
set_option maxHeartbeats 1000000
set_option linter.unusedVariables false
theorem ZhX (s:ByteArray) (n:Nat) (h0:isW (L s)=true) (h1:1≤n) (h2:n≤400) (w:World) :
  Calls Tryz.prog 161 #[.string s,.int .i64 n] w fun e w'=>e=.returned (.int .i64 (cpx s n))∧Below w.heap.size w w':=by
 have h4:=Zb h0
 have hs9:s.size≤maxLen:=by unfold maxLen;omega
 have H0:=Hd h0
 have H2:=Hd (fun w=>Zw (n:Int) 1 400 ⟨by omega,by omega⟩ w)
 have HF:=Hd (fun w=>Wf s n h4 (by omega) w)
 clear h0
 go_enter Tryz.func161,Tryz.ntmps161
 go_wp2_with (first
  | (go_at_call 43;with_reducible refine (Zi s _ hs9 H0.o _).mono ?_;rintro e w' ⟨rfl,rfl⟩)
  | (go_at_call 146;with_reducible refine (H2.o _).mono ?_;rintro e w' ⟨rfl,rfl⟩))
 refine (HF.o _).mono ?_
 rintro e w2 ⟨g,c,rfl,st,b2⟩
 go_wp2_with fail
 go_ret
 exact⟨rfl,b2⟩
def cpL (s:ByteArray) (n:Nat):List Int:=(List.range n).map fun k=>(cpx s (k+1):Int)
theorem Jy (s:ByteArray) (n:Nat):(cpL s n).length=n:=by simp[cpL]
theorem ZcX (s:ByteArray) (n:Nat):cpL s (n+1)=cpL s n++[(cpx s (n+1):Int)]:=by simp[cpL,List.range_succ]
theorem ZhY {s:ByteArray} (hs:s.size≤400) (n:Nat):∀ z∈cpL s n,I64 z:=fun z hz=>by
 rw[cpL,List.mem_map] at hz
 obtain⟨k,_,rfl⟩:=hz
 have:=ZbA s (k+1) (by omega)
 unfold I64;omega
def VG (s:ByteArray) (n:Int):ByteArray:=if isW (L s)=true∧(1≤n∧n≤20) then JF (cpL s n.toNat) else { data:=#[110,111,110,101] }
theorem ZhZ (s:ByteArray) (n:Nat) (h0:isW (L s)=true) (h1:1≤n) (h2:n≤20) (w:World) (ht:TB w) :
  Calls Tryz.prog 132 #[.string s,.int .i64 n] w fun e w'=>e=.returned (.string (JF (cpL s n)))∧Below w.heap.size w w':=by
 have h4:=Zb h0
 have hs9:s.size≤maxLen:=by unfold maxLen;omega
 have H0:=Hd h0;have HT:=Hd ht
 have H2:=Hd (fun w=>Zo (n:Int) 1 20 ⟨by omega,by omega⟩ w)
 have HC:=Hd (fun k (h1:1≤k) (h2:k≤400) w=>ZhU s k h0 h1 h2 w)
 clear h0 ht
 go_enter Tryz.func132,Tryz.ntmps132
 go_wp2_with (first
  | (go_at_call 27;with_reducible refine (Zl s _ hs9 H0.o _).mono ?_;rintro e w' ⟨rfl,rfl⟩)
  | (go_at_call 65;with_reducible refine (H2.o _).mono ?_;rintro e w' ⟨rfl,rfl⟩))
 go_loopw [5,6] (fun v i wr=>∃ k g c:Nat,k≤n∧i=.int .i64 ((k:Int)+1)∧v=.slice (some ⟨g,0,none⟩) k c∧Own wr w.heap.size 3 (.slice (some ⟨g,0,none⟩) k c) ((cpL s k).map (Value.int .i64))∧Below w.heap.size w wr) (fun _ i _=>n+1 - (intOf i).toNat)
 case atStart=>exact⟨0,w.heap.size,0,by omega,rfl,rfl,Own.empty nlr,(Below.refl _ _).alloc nlr _⟩
 case round =>
  obtain⟨k,g,c,hk,rfl,rfl,hown,hbel⟩:=hrel
  have HO:=Hd hown
  have hsz:=hbel.size
  clear hown
  by_cases hlt:k<n
  ·have hlt1:(k:Int)+1≤(n:Int):=by omega
   have hcp:=ZbA s (k+1) (by omega)
   go_wp2_with fail
   refine (HC.o (k+1) (by omega) (by omega) _).mono ?_
   rintro e w2 ⟨rfl,hb2⟩
   have hown2:=HO.o.below hb2
   have HO2:=Hd hown2
   have hsz2:=hb2.size
   have hbel2:=hbel.trans (hb2.mono hsz)
   have hsz3:=hbel2.size
   have hl3:((cpL s k).map (Value.int .i64)).length=k:=by rw[List.length_map,Jy]
   have HL3:=Hd hl3
   have hm9:k<4294967296:=by omega
   clear hown2 hl3
   go_wp2_with (at_builtin;refine Zx rfl (.tmp 21) (.tmp 25) 83 rfl _ 8 Tryz.underlying83 Zu rfl k c rfl HO2.o _ rfl rfl HL3.o hm9 (by decide) hsz3 ?_)
   intro g4 c4 w4 ha4
   have hown4:=ha4.own
   rw[show (cpL s k).map (Value.int .i64)++[Value.int .i64 (cpx s (k+1):Int)]=(cpL s (k+1)).map (Value.int .i64) from by rw[ZcX,List.map_append];rfl] at hown4
   have HO4:=Hd hown4
   have hbel4:=hbel2.trans ha4.bel
   clear ha4 hown4
   go_wp2_with fail
   go_roundw
   case rel=>exact⟨k+1,g4,c4,by omega,by go_num,rfl,HO4.o,hbel4⟩
   case measure=>simp[intOf];omega
  ·have hke:k=n:=by omega
   subst hke
   have hge:¬ (k:Int)+1≤(k:Int):=by omega
   have hfm:=Zc9 (cpL s k) (some ⟨g,0,none⟩) c wr.heap.size wr nlr (ZhY h4 k) HO.o.reads (by rw[Jy];omega) (HT.o.below hbel)
   rw[Jy] at hfm
   have HFM:=Hd hfm
   clear hfm
   go_wp2_with fail
   refine HFM.o.mono ?_
   rintro e w2 ⟨rfl,hb2⟩
   go_wp2_with fail
   go_ret
   exact⟨rfl,hbel.trans (hb2.mono hsz)⟩
theorem Zh0 (s:ByteArray) (n:Nat) (h0:isW (L s)=true) (h1:1≤n) (h2:n≤20) (w:World) :
  Calls Tryz.prog 84 #[.string s,.int .i64 n] w fun e w'=>e=.returned (.string (JF (cpL s n)))∧Below w.heap.size w w':=by
 have h4:=Zb h0
 have hs9:s.size≤maxLen:=by unfold maxLen;omega
 have H0:=Hd h0
 have H2:=Hd (fun w=>Zw (n:Int) 1 20 ⟨by omega,by omega⟩ w)
 have HC:=Hd (fun k (h1:1≤k) (h2:k≤400) w=>ZhX s k h0 h1 h2 w)
 clear h0
 go_enter Tryz.func84,Tryz.ntmps84
 go_wp2_with (first
  | (go_at_call 43;with_reducible refine (Zi s _ hs9 H0.o _).mono ?_;rintro e w' ⟨rfl,rfl⟩)
  | (go_at_call 146;with_reducible refine (H2.o _).mono ?_;rintro e w' ⟨rfl,rfl⟩))
 go_loopw [5,6] (fun v i wr=>∃ k g c:Nat,k≤n∧i=.int .i64 ((k:Int)+1)∧v=.slice (some ⟨g,0,none⟩) k c∧Own wr w.heap.size 3 (.slice (some ⟨g,0,none⟩) k c) ((cpL s k).map (Value.int .i64))∧Below w.heap.size w wr) (fun _ i _=>n+1 - (intOf i).toNat)
 case atStart=>exact⟨0,w.heap.size,0,by omega,rfl,rfl,Own.empty nlr,(Below.refl _ _).alloc nlr _⟩
 case round =>
  obtain⟨k,g,c,hk,rfl,rfl,hown,hbel⟩:=hrel
  have HO:=Hd hown
  have hsz:=hbel.size
  clear hown
  by_cases hlt:k<n
  ·have hlt1:(k:Int)+1≤(n:Int):=by omega
   have hcp:=ZbA s (k+1) (by omega)
   go_wp2_with fail
   refine (HC.o (k+1) (by omega) (by omega) _).mono ?_
   rintro e w2 ⟨rfl,hb2⟩
   have hown2:=HO.o.below hb2
   have HO2:=Hd hown2
   have hsz2:=hb2.size
   have hbel2:=hbel.trans (hb2.mono hsz)
   have hsz3:=hbel2.size
   have hl3:((cpL s k).map (Value.int .i64)).length=k:=by rw[List.length_map,Jy]
   have HL3:=Hd hl3
   have hm9:k<4294967296:=by omega
   clear hown2 hl3
   go_wp2_with (at_builtin;refine Zx rfl (.tmp 21) (.tmp 25) 83 rfl _ 8 Tryz.underlying83 Zu rfl k c rfl HO2.o _ rfl rfl HL3.o hm9 (by decide) hsz3 ?_)
   intro g4 c4 w4 ha4
   have hown4:=ha4.own
   rw[show (cpL s k).map (Value.int .i64)++[Value.int .i64 (cpx s (k+1):Int)]=(cpL s (k+1)).map (Value.int .i64) from by rw[ZcX,List.map_append];rfl] at hown4
   have HO4:=Hd hown4
   have hbel4:=hbel2.trans ha4.bel
   clear ha4 hown4
   go_wp2_with fail
   go_roundw
   case rel=>exact⟨k+1,g4,c4,by omega,by go_num,rfl,HO4.o,hbel4⟩
   case measure=>simp[intOf];omega
  ·have hke:k=n:=by omega
   subst hke
   have hge:¬ (k:Int)+1≤(k:Int):=by omega
   have hfm:=Zda (cpL s k) (some ⟨g,0,none⟩) c wr.heap.size wr nlr (ZhY h4 k) HO.o.reads (by rw[Jy];omega)
   rw[Jy] at hfm
   have HFM:=Hd hfm
   clear hfm
   go_wp2_with fail
   refine HFM.o.mono ?_
   rintro e w2 ⟨rfl,hb2⟩
   go_wp2_with fail
   go_ret
   exact⟨rfl,hbel.trans (hb2.mono hsz)⟩
theorem Zh1 (s:ByteArray) (n:Int) (hs:s.size≤maxLen) (w:World) (ht:TB w) :
  Calls Tryz.prog 132 #[.string s,.int .i64 n] w fun e w'=>e=.returned (.string (VG s n))∧Below w.heap.size w w':=by
 by_cases h:isW (L s)=true∧(1≤n∧n≤20)
 ·obtain⟨m,rfl⟩:=Int.eq_ofNat_of_zero_le (show 0≤n by omega)
  rw[VG,if_pos h]
  exact ZhZ s m h.1 (by omega) (by omega) w ht
 ·rw[VG,if_neg h]
  cases h0:isW (L s)
  ·have H0:=Hd h0
   clear h0 h
   go_enter Tryz.func132,Tryz.ntmps132
   go_wp2_with (go_at_call 27;with_reducible refine (Zl s _ hs H0.o _).mono ?_;rintro e w' ⟨rfl,rfl⟩)
   go_ret
   exact⟨rfl,Below.refl _ _⟩
  ·have H0:=Hd h0
   have H2:=Hd (fun w=>ZK n 1 20 (fun h2=>h ⟨h0,h2⟩) w)
   clear h0 h
   go_enter Tryz.func132,Tryz.ntmps132
   go_wp2_with (first
    | (go_at_call 27;with_reducible refine (Zl s _ hs H0.o _).mono ?_;rintro e w' ⟨rfl,rfl⟩)
    | (go_at_call 65;with_reducible refine (H2.o _).mono ?_;rintro e w' ⟨rfl,rfl⟩))
   go_ret
   exact⟨rfl,Below.refl _ _⟩
theorem Zh2 (s:ByteArray) (n:Int) (hs:s.size≤maxLen) (w:World) :
  Calls Tryz.prog 84 #[.string s,.int .i64 n] w fun e w'=>e=.returned (.string (VG s n))∧Below w.heap.size w w':=by
 by_cases h:isW (L s)=true∧(1≤n∧n≤20)
 ·obtain⟨m,rfl⟩:=Int.eq_ofNat_of_zero_le (show 0≤n by omega)
  rw[VG,if_pos h]
  exact Zh0 s m h.1 (by omega) (by omega) w
 ·rw[VG,if_neg h]
  cases h0:isW (L s)
  ·have H0:=Hd h0
   clear h0 h
   go_enter Tryz.func84,Tryz.ntmps84
   go_wp2_with (go_at_call 43;with_reducible refine (Zi s _ hs H0.o _).mono ?_;rintro e w' ⟨rfl,rfl⟩)
   go_ret
   exact⟨rfl,Below.refl _ _⟩
  ·have H0:=Hd h0
   have H2:=Hd (fun w=>ZU n 1 20 (fun h2=>h ⟨h0,h2⟩) w)
   clear h0 h
   go_enter Tryz.func84,Tryz.ntmps84
   go_wp2_with (first
    | (go_at_call 43;with_reducible refine (Zi s _ hs H0.o _).mono ?_;rintro e w' ⟨rfl,rfl⟩)
    | (go_at_call 146;with_reducible refine (H2.o _).mono ?_;rintro e w' ⟨rfl,rfl⟩))
   go_ret
   exact⟨rfl,Below.refl _ _⟩
end Go.Proofs.YtocbgldilgemoaaGreatDoor
namespace Go.Proofs.YtocbgldilgemoaaGreatDoor
open Go.RowKit Go.Sort
set_option maxRecDepth 4000
set_option maxHeartbeats 2000000
set_option linter.unusedVariables false
def inG (a:Int):Prop:=-1000000≤a∧a≤1000000
instance (a:Int):Decidable (inG a):=by unfold inG;infer_instance
theorem JZ {a b m:Int} (h1:-m≤a) (h2:a≤m) (h3:-m≤b) (h4:b≤m):-(m * m)≤a * b∧a * b≤m * m:=by
 obtain⟨k,rfl⟩:∃ k:Nat,m=k:=⟨m.toNat,by omega⟩
 have ha:a.natAbs≤k:=by omega
 have hb:b.natAbs≤k:=by omega
 have h:=Nat.mul_le_mul ha hb
 rw[← Int.natAbs_mul] at h
 have:((k * k:Nat):Int)=(k:Int) * k:=by simp
 omega
def nrm (a b:Int):Int:=a * a+a * b - b * b
theorem Zlu {a b:Int} (ha:inG a) (hb:inG b):-4000000000000≤nrm a b∧nrm a b≤4000000000000:=by
 have h1:=JZ ha.1 ha.2 ha.1 ha.2
 have h2:=JZ ha.1 ha.2 hb.1 hb.2
 have h3:=JZ hb.1 hb.2 hb.1 hb.2
 unfold nrm;omega
theorem Wj (a b:Int) (ha:inG a) (hb:inG b) (w:World) :
  Calls Tryz.prog 212 #[.agg #[.int .i64 a,.int .i64 b]] w fun e w'=>e=.returned (.bool true)∧Below w.heap.size w w':=by
 have h1:=fun w=>Zo a (-1000000) 1000000 ha w
 have h2:=fun w=>Zo b (-1000000) 1000000 hb w
 have H1:=Hd h1;have H2:=Hd h2
 clear h1 h2 ha hb
 go_enter Tryz.func212,Tryz.ntmps212
 go_wp2_with (first
  | (go_at_call 65;with_reducible refine (H1.o _).mono ?_;rintro e w1 ⟨rfl,rfl⟩)
  | (go_at_call 65;with_reducible refine (H2.o _).mono ?_;rintro e w1 ⟨rfl,rfl⟩))
 go_ret
 exact⟨rfl,(Below.refl _ _).alloc nlr _⟩
theorem Zkw (a b:Int) (h:¬ (inG a∧inG b)) (w:World) :
  Calls Tryz.prog 212 #[.agg #[.int .i64 a,.int .i64 b]] w fun e w'=>e=.returned (.bool false)∧Below w.heap.size w w':=by
 by_cases ha:inG a
 ·have hb:¬ inG b:=fun hb=>h ⟨ha,hb⟩
  have h1:=fun w=>Zo a (-1000000) 1000000 ha w
  have h2:=fun w=>ZK b (-1000000) 1000000 hb w
  have H1:=Hd h1;have H2:=Hd h2
  clear h1 h2 ha hb h
  go_enter Tryz.func212,Tryz.ntmps212
  go_wp2_with (first
   | (go_at_call 65;with_reducible refine (H1.o _).mono ?_;rintro e w1 ⟨rfl,rfl⟩)
   | (go_at_call 65;with_reducible refine (H2.o _).mono ?_;rintro e w1 ⟨rfl,rfl⟩))
  go_ret
  exact⟨rfl,(Below.refl _ _).alloc nlr _⟩
 ·have h1:=fun w=>ZK a (-1000000) 1000000 ha w
  have H1:=Hd h1
  clear h1 ha h
  go_enter Tryz.func212,Tryz.ntmps212
  go_wp2_with (go_at_call 65;with_reducible refine (H1.o _).mono ?_;rintro e w1 ⟨rfl,rfl⟩)
  go_ret
  exact⟨rfl,(Below.refl _ _).alloc nlr _⟩
theorem Wk (a b:Int) (ha:inG a) (hb:inG b) (w:World) :
  Calls Tryz.prog 166 #[.agg #[.int .i64 a,.int .i64 b]] w fun e w'=>e=.returned (.bool true)∧Below w.heap.size w w':=by
 have h1:=fun w=>Zw a (-1000000) 1000000 ha w
 have h2:=fun w=>Zw b (-1000000) 1000000 hb w
 have H1:=Hd h1;have H2:=Hd h2
 clear h1 h2 ha hb
 go_enter Tryz.func166,Tryz.ntmps166
 go_wp2_with (first
  | (go_at_call 146;with_reducible refine (H1.o _).mono ?_;rintro e w1 ⟨rfl,rfl⟩)
  | (go_at_call 146;with_reducible refine (H2.o _).mono ?_;rintro e w1 ⟨rfl,rfl⟩))
 go_ret
 exact⟨rfl,(Below.refl _ _).alloc nlr _⟩
theorem Zkx (a b:Int) (h:¬ (inG a∧inG b)) (w:World) :
  Calls Tryz.prog 166 #[.agg #[.int .i64 a,.int .i64 b]] w fun e w'=>e=.returned (.bool false)∧Below w.heap.size w w':=by
 by_cases ha:inG a
 ·have hb:¬ inG b:=fun hb=>h ⟨ha,hb⟩
  have h1:=fun w=>Zw a (-1000000) 1000000 ha w
  have h2:=fun w=>ZU b (-1000000) 1000000 hb w
  have H1:=Hd h1;have H2:=Hd h2
  clear h1 h2 ha hb h
  go_enter Tryz.func166,Tryz.ntmps166
  go_wp2_with (first
   | (go_at_call 146;with_reducible refine (H1.o _).mono ?_;rintro e w1 ⟨rfl,rfl⟩)
   | (go_at_call 146;with_reducible refine (H2.o _).mono ?_;rintro e w1 ⟨rfl,rfl⟩))
  go_ret
  exact⟨rfl,(Below.refl _ _).alloc nlr _⟩
 ·have h1:=fun w=>ZU a (-1000000) 1000000 ha w
  have H1:=Hd h1
  clear h1 ha h
  go_enter Tryz.func166,Tryz.ntmps166
  go_wp2_with (go_at_call 146;with_reducible refine (H1.o _).mono ?_;rintro e w1 ⟨rfl,rfl⟩)
  go_ret
  exact⟨rfl,(Below.refl _ _).alloc nlr _⟩
theorem ZgR (a b:Int) (ha:inG a) (hb:inG b) (w:World) :
  Calls Tryz.prog 269 #[.agg #[.int .i64 a,.int .i64 b]] w fun e w'=>e=.returned (.int .i64 (nrm a b))∧Below w.heap.size w w':=by
 have h1:=JZ ha.1 ha.2 ha.1 ha.2
 have h2:=JZ ha.1 ha.2 hb.1 hb.2
 have h3:=JZ hb.1 hb.2 hb.1 hb.2
 obtain⟨h11,h12⟩:=h1
 obtain⟨h21,h22⟩:=h2
 obtain⟨h31,h32⟩:=h3
 have q1:IntKind.i64.wrap (a * a)=a * a:=IntWalk.i64_in _ (by omega)
 have q2:IntKind.i64.wrap (a * b)=a * b:=IntWalk.i64_in _ (by omega)
 have q3:IntKind.i64.wrap (b * b)=b * b:=IntWalk.i64_in _ (by omega)
 have q4:IntKind.i64.wrap (a * a+a * b)=a * a+a * b:=IntWalk.i64_in _ (by omega)
 have q5:IntKind.i64.wrap (a * a+a * b - b * b)=a * a+a * b - b * b:=IntWalk.i64_in _ (by omega)
 clear ha hb
 go_enter Tryz.func269,Tryz.ntmps269
 go_wp2_with fail
 try go_quiet (fail)
 try go_wp2_with fail
 go_ret
 refine⟨rfl,?_⟩
 first|exact (Below.refl _ _).alloc nlr _|exact QL ((Below.refl _ _).alloc nlr _) _
theorem ZgS (a b:Int) (ha:inG a) (hb:inG b) (w:World) :
  Calls Tryz.prog 238 #[.agg #[.int .i64 a,.int .i64 b]] w fun e w'=>e=.returned (.int .i64 (nrm a b))∧Below w.heap.size w w':=by
 have h1:=JZ ha.1 ha.2 ha.1 ha.2
 have h2:=JZ ha.1 ha.2 hb.1 hb.2
 have h3:=JZ hb.1 hb.2 hb.1 hb.2
 obtain⟨h11,h12⟩:=h1
 obtain⟨h21,h22⟩:=h2
 obtain⟨h31,h32⟩:=h3
 have q1:IntKind.i64.wrap (a * a)=a * a:=IntWalk.i64_in _ (by omega)
 have q2:IntKind.i64.wrap (a * b)=a * b:=IntWalk.i64_in _ (by omega)
 have q3:IntKind.i64.wrap (b * b)=b * b:=IntWalk.i64_in _ (by omega)
 have q4:IntKind.i64.wrap (a * a+a * b)=a * a+a * b:=IntWalk.i64_in _ (by omega)
 have q5:IntKind.i64.wrap (a * a+a * b - b * b)=a * a+a * b - b * b:=IntWalk.i64_in _ (by omega)
 clear ha hb
 go_enter Tryz.func238,Tryz.ntmps238
 go_wp2_with fail
 try go_quiet (fail)
 try go_wp2_with fail
 go_ret
 refine⟨rfl,?_⟩
 first|exact (Below.refl _ _).alloc nlr _|exact QL ((Below.refl _ _).alloc nlr _) _
theorem Zdd (a b:Int) (ha:inG a) (hb:inG b) (w:World) :
  Calls Tryz.prog 213 #[.agg #[.int .i64 a,.int .i64 b]] w fun e w'=>e=.returned (.int .i64 (nrm a b))∧Below w.heap.size w w':=by
 have H1:=Hd (fun w=>Wj a b ha hb w)
 have H2:=Hd (fun w=>ZgR a b ha hb w)
 clear ha hb
 go_enter Tryz.func213,Tryz.ntmps213
 go_wp2_with fail
 have bA:Below w.heap.size w (w.alloc (.cells #[Value.int IntKind.i64 a,Value.int IntKind.i64 b] 105)):=(Below.refl _ _).alloc nlr _
 have c0:(w.alloc (.cells #[Value.int IntKind.i64 a,Value.int IntKind.i64 b] 105)).cell? ⟨w.heap.size,0,none⟩=some (.int .i64 a):=by simp
 have c1:(w.alloc (.cells #[Value.int IntKind.i64 a,Value.int IntKind.i64 b] 105)).cell? ⟨w.heap.size,1,none⟩=some (.int .i64 b):=by simp
 refine (H1.o _).mono ?_
 rintro e w1 ⟨rfl,b1⟩
 have d0:=(b1.cell (p:=⟨w.heap.size,0,none⟩) (by simp)).trans c0
 have d1:=(b1.cell (p:=⟨w.heap.size,1,none⟩) (by simp)).trans c1
 go_wp2_with fail
 refine (H2.o _).mono ?_
 rintro e w2 ⟨rfl,b2⟩
 go_wp2_with fail
 go_ret
 exact⟨rfl,(bA.trans (b1.mono (by simp))).trans (b2.mono (by have:=b1.size;simp at this;omega))⟩
theorem Zde (a b:Int) (ha:inG a) (hb:inG b) (w:World) :
  Calls Tryz.prog 167 #[.agg #[.int .i64 a,.int .i64 b]] w fun e w'=>e=.returned (.int .i64 (nrm a b))∧Below w.heap.size w w':=by
 have H1:=Hd (fun w=>Wk a b ha hb w)
 have H2:=Hd (fun w=>ZgS a b ha hb w)
 clear ha hb
 go_enter Tryz.func167,Tryz.ntmps167
 go_wp2_with fail
 have bA:Below w.heap.size w (w.alloc (.cells #[Value.int IntKind.i64 a,Value.int IntKind.i64 b] 105)):=(Below.refl _ _).alloc nlr _
 have c0:(w.alloc (.cells #[Value.int IntKind.i64 a,Value.int IntKind.i64 b] 105)).cell? ⟨w.heap.size,0,none⟩=some (.int .i64 a):=by simp
 have c1:(w.alloc (.cells #[Value.int IntKind.i64 a,Value.int IntKind.i64 b] 105)).cell? ⟨w.heap.size,1,none⟩=some (.int .i64 b):=by simp
 refine (H1.o _).mono ?_
 rintro e w1 ⟨rfl,b1⟩
 have d0:=(b1.cell (p:=⟨w.heap.size,0,none⟩) (by simp)).trans c0
 have d1:=(b1.cell (p:=⟨w.heap.size,1,none⟩) (by simp)).trans c1
 go_wp2_with fail
 refine (H2.o _).mono ?_
 rintro e w2 ⟨rfl,b2⟩
 go_wp2_with fail
 go_ret
 exact⟨rfl,(bA.trans (b1.mono (by simp))).trans (b2.mono (by have:=b1.size;simp at this;omega))⟩
theorem ZbL (a b:Int) (ha:inG a) (hb:inG b) (w:World) :
  Calls Tryz.prog 214 #[.agg #[.int .i64 a,.int .i64 b]] w fun e w'=>e=.returned (.int .i64 (flr a b))∧Below w.heap.size w w':=by
 have H1:=Hd (fun w=>Wj a b ha hb w)
 have H2:=Hd (fun w=>Wo a b (flr a b) ha.1 ha.2 hb.1 hb.2 (YQ a b ha.1 ha.2 hb.1 hb.2) w)
 clear ha hb
 go_enter Tryz.func214,Tryz.ntmps214
 go_wp2_with fail
 have bA:Below w.heap.size w (w.alloc (.cells #[Value.int IntKind.i64 a,Value.int IntKind.i64 b] 105)):=(Below.refl _ _).alloc nlr _
 have c0:(w.alloc (.cells #[Value.int IntKind.i64 a,Value.int IntKind.i64 b] 105)).cell? ⟨w.heap.size,0,none⟩=some (.int .i64 a):=by simp
 have c1:(w.alloc (.cells #[Value.int IntKind.i64 a,Value.int IntKind.i64 b] 105)).cell? ⟨w.heap.size,1,none⟩=some (.int .i64 b):=by simp
 refine (H1.o _).mono ?_
 rintro e w1 ⟨rfl,b1⟩
 have d0:=(b1.cell (p:=⟨w.heap.size,0,none⟩) (by simp)).trans c0
 have d1:=(b1.cell (p:=⟨w.heap.size,1,none⟩) (by simp)).trans c1
 go_wp2_with fail
 refine (H2.o _).mono ?_
 rintro e w2 ⟨rfl,b2⟩
 go_wp2_with fail
 go_ret
 exact⟨rfl,(bA.trans (b1.mono (by simp))).trans (b2.mono (by have:=b1.size;simp at this;omega))⟩
theorem ZbM (a b:Int) (ha:inG a) (hb:inG b) (w:World) :
  Calls Tryz.prog 168 #[.agg #[.int .i64 a,.int .i64 b]] w fun e w'=>e=.returned (.int .i64 (flr a b))∧Below w.heap.size w w':=by
 have H1:=Hd (fun w=>Wk a b ha hb w)
 have H2:=Hd (fun w=>Wp a b (flr a b) ha.1 ha.2 hb.1 hb.2 (YQ a b ha.1 ha.2 hb.1 hb.2) w)
 clear ha hb
 go_enter Tryz.func168,Tryz.ntmps168
 go_wp2_with fail
 have bA:Below w.heap.size w (w.alloc (.cells #[Value.int IntKind.i64 a,Value.int IntKind.i64 b] 105)):=(Below.refl _ _).alloc nlr _
 have c0:(w.alloc (.cells #[Value.int IntKind.i64 a,Value.int IntKind.i64 b] 105)).cell? ⟨w.heap.size,0,none⟩=some (.int .i64 a):=by simp
 have c1:(w.alloc (.cells #[Value.int IntKind.i64 a,Value.int IntKind.i64 b] 105)).cell? ⟨w.heap.size,1,none⟩=some (.int .i64 b):=by simp
 refine (H1.o _).mono ?_
 rintro e w1 ⟨rfl,b1⟩
 have d0:=(b1.cell (p:=⟨w.heap.size,0,none⟩) (by simp)).trans c0
 have d1:=(b1.cell (p:=⟨w.heap.size,1,none⟩) (by simp)).trans c1
 go_wp2_with fail
 refine (H2.o _).mono ?_
 rintro e w2 ⟨rfl,b2⟩
 go_wp2_with fail
 go_ret
 exact⟨rfl,(bA.trans (b1.mono (by simp))).trans (b2.mono (by have:=b1.size;simp at this;omega))⟩
noncomputable def ZgT (a b:Int):ByteArray:=QD a++{ data:=#[32] }++QD b++{ data:=#[32,110,111,114,109,32] }++QD (nrm a b)++{ data:=#[32,102,108,111,111,114,32] }++QD (flr a b)
noncomputable def JP (a b:Int):ByteArray:=if inG a∧inG b then ZgT a b else { data:=#[110,111,110,101] }
theorem QG {z:Int} (h:I64 z):(QD z).size≤21:=by
 rw[QD,Zh];exact Jq h
theorem JG {a:Int} (h:inG a):I64 a:=by unfold inG at h;unfold I64;omega
theorem Wl {a b:Int} (ha:inG a) (hb:inG b):I64 (nrm a b):=by have:=Zlu ha hb;unfold I64;omega
theorem Wm {a b:Int} (ha:inG a) (hb:inG b):I64 (flr a b):=by have:=YQ a b ha.1 ha.2 hb.1 hb.2;unfold I64;have h1:=this.2.2.1;have h2:=this.2.2.2;omega
theorem Zir (a b:Int) (w:World) (ht:TB w) :
  Calls Tryz.prog 134 #[.agg #[.int .i64 a,.int .i64 b]] w fun e w'=>e=.returned (.string (JP a b))∧Below w.heap.size w w':=by
 by_cases hok:inG a∧inG b
 ·have hv:JP a b=ZgT a b:=by rw[JP,if_pos hok]
  rw[hv,ZgT]
  obtain⟨ha,hb⟩:=hok
  have hfm:=fun (z:Int) (hz:I64 z) (W:World) (hW:Below w.heap.size w W)=>Qc z hz W (ht.below hW)
  have f1:=fun (W:World) (hW:Below w.heap.size w W)=>hfm a (JG ha) W hW
  have f2:=fun (W:World) (hW:Below w.heap.size w W)=>hfm b (JG hb) W hW
  have f3:=fun (W:World) (hW:Below w.heap.size w W)=>hfm (nrm a b) (Wl ha hb) W hW
  have f4:=fun (W:World) (hW:Below w.heap.size w W)=>hfm (flr a b) (Wm ha hb) W hW
  have z1:=QG (JG ha)
  have z2:=QG (JG hb)
  have z3:=QG (Wl ha hb)
  have z4:=QG (Wm ha hb)
  have g1:=fun W=>Wj a b ha hb W
  have g3:=fun W=>Zdd a b ha hb W
  have g4:=fun W=>ZbL a b ha hb W
  simp only[← QD.eq_1] at f1 f2 f3 f4
  obtain⟨x1,hx1⟩:∃ x,QD a=x:=⟨_,rfl⟩
  obtain⟨x2,hx2⟩:∃ x,QD b=x:=⟨_,rfl⟩
  obtain⟨x3,hx3⟩:∃ x,QD (nrm a b)=x:=⟨_,rfl⟩
  obtain⟨x4,hx4⟩:∃ x,QD (flr a b)=x:=⟨_,rfl⟩
  obtain⟨y3,hy3⟩:∃ x,nrm a b=x:=⟨_,rfl⟩
  obtain⟨y4,hy4⟩:∃ x,flr a b=x:=⟨_,rfl⟩
  rw[hx1] at f1 z1 ⊢
  rw[hx2] at f2 z2 ⊢
  rw[hx3] at f3 z3 ⊢
  rw[hx4] at f4 z4 ⊢
  rw[hy3] at f3 g3
  rw[hy4] at f4 g4
  have G1:=Hd g1;have G3:=Hd g3;have G4:=Hd g4;have F1:=Hd f1;have F2:=Hd f2;have F3:=Hd f3;have F4:=Hd f4
  clear hx1 hx2 hx3 hx4 hy3 hy4 f1 f2 f3 f4 g1 g3 g4 hv ha hb hfm
  have bA:Below w.heap.size w (w.alloc (.cells #[Value.int IntKind.i64 a,Value.int IntKind.i64 b] 105)):=(Below.refl _ _).alloc nlr _
  have c0:(w.alloc (.cells #[Value.int IntKind.i64 a,Value.int IntKind.i64 b] 105)).cell? ⟨w.heap.size,0,none⟩=some (.int .i64 a):=by simp
  have c1:(w.alloc (.cells #[Value.int IntKind.i64 a,Value.int IntKind.i64 b] 105)).cell? ⟨w.heap.size,1,none⟩=some (.int .i64 b):=by simp
  have hzA:(w.alloc (.cells #[Value.int IntKind.i64 a,Value.int IntKind.i64 b] 105)).heap.size=w.heap.size+1:=by simp
  go_enter Tryz.func134,Tryz.ntmps134
  go_wp2_with fail
  refine (G1.out _).mono ?_
  rintro e w1 ⟨rfl,b1⟩
  have d0:=(b1.cell (p:=⟨w.heap.size,0,none⟩) (by rw[hzA];exact Nat.lt_succ_self _)).trans c0
  have d1:=(b1.cell (p:=⟨w.heap.size,1,none⟩) (by rw[hzA];exact Nat.lt_succ_self _)).trans c1
  have bw1:Below w.heap.size w w1:=bA.trans (b1.mono (by rw[hzA];exact Nat.le_succ _))
  have k0:=cell_regrown d0
  have k1:=cell_regrown d1
  have hbw:=fun d os=>bw1.trans ((below_regrown w1 d os).mono bw1.size)
  have cf1:=fun d os=>Calls.regrown_of (F1.out _ (hbw d os))
  have cf2:=fun d os=>Calls.regrown_of (F2.out _ (hbw d os))
  have cf3:=fun d os=>Calls.regrown_of (F3.out _ (hbw d os))
  have cf4:=fun d os=>Calls.regrown_of (F4.out _ (hbw d os))
  have cg3:=fun d os=>Calls.regrown_of (w:=w1) (d:=d) (os:=os) (G3.out _)
  have cg4:=fun d os=>Calls.regrown_of (w:=w1) (d:=d) (os:=os) (G4.out _)
  have n1:¬ 9223372036854775807<x1.size+1:=by omega
  have n2:¬ 9223372036854775807<x1.size+1+x2.size:=by omega
  have n3:¬ 9223372036854775807<x1.size+1+x2.size+6:=by omega
  have n4:¬ 9223372036854775807<x1.size+1+x2.size+6+x3.size:=by omega
  have n5:¬ 9223372036854775807<x1.size+1+x2.size+6+x3.size+7:=by omega
  have n6:¬ 9223372036854775807<x1.size+1+x2.size+6+x3.size+7+x4.size:=by omega
  clear c0 c1 b1
  go_wp2_with fail
  refine wp_region_quiet_below (by kernel_rfl) (by kernel_rfl) ?_
  repeat (quiet_step (first|with_reducible exact cf1 _ _|with_reducible exact cf2 _ _|with_reducible exact cf3 _ _|with_reducible exact cf4 _ _|with_reducible exact cg3 _ _|with_reducible exact cg4 _ _))
  refine wpQuiet_nil ?_
  intro _ hw'
  obtain⟨⟨dq,osq⟩,hw''⟩:=hw'
  subst hw''
  go_wp2_with fail
  go_ret
  exact⟨rfl,hbw dq osq⟩
 ·have hv:JP a b={ data:=#[110,111,110,101] }:=by rw[JP,if_neg hok]
  rw[hv]
  have G1:=Hd (fun W=>Zkw a b hok W)
  clear hv hok
  have bA:Below w.heap.size w (w.alloc (.cells #[Value.int IntKind.i64 a,Value.int IntKind.i64 b] 105)):=(Below.refl _ _).alloc nlr _
  go_enter Tryz.func134,Tryz.ntmps134
  go_wp2_with fail
  refine (G1.out _).mono ?_
  rintro e w1 ⟨rfl,b1⟩
  go_wp2_with fail
  go_ret
  exact⟨rfl,bA.trans (b1.mono (by simp))⟩
theorem Zis (a b:Int) (w:World)  :
  Calls Tryz.prog 86 #[.agg #[.int .i64 a,.int .i64 b]] w fun e w'=>e=.returned (.string (JP a b))∧Below w.heap.size w w':=by
 by_cases hok:inG a∧inG b
 ·have hv:JP a b=ZgT a b:=by rw[JP,if_pos hok]
  rw[hv,ZgT]
  obtain⟨ha,hb⟩:=hok
  have hfm:=fun (z:Int) (hz:I64 z) (W:World) (hW:Below w.heap.size w W)=>ZJ z hz W
  have f1:=fun (W:World) (hW:Below w.heap.size w W)=>hfm a (JG ha) W hW
  have f2:=fun (W:World) (hW:Below w.heap.size w W)=>hfm b (JG hb) W hW
  have f3:=fun (W:World) (hW:Below w.heap.size w W)=>hfm (nrm a b) (Wl ha hb) W hW
  have f4:=fun (W:World) (hW:Below w.heap.size w W)=>hfm (flr a b) (Wm ha hb) W hW
  have z1:=QG (JG ha)
  have z2:=QG (JG hb)
  have z3:=QG (Wl ha hb)
  have z4:=QG (Wm ha hb)
  have g1:=fun W=>Wk a b ha hb W
  have g3:=fun W=>Zde a b ha hb W
  have g4:=fun W=>ZbM a b ha hb W
  simp only[← QD.eq_1] at f1 f2 f3 f4
  obtain⟨x1,hx1⟩:∃ x,QD a=x:=⟨_,rfl⟩
  obtain⟨x2,hx2⟩:∃ x,QD b=x:=⟨_,rfl⟩
  obtain⟨x3,hx3⟩:∃ x,QD (nrm a b)=x:=⟨_,rfl⟩
  obtain⟨x4,hx4⟩:∃ x,QD (flr a b)=x:=⟨_,rfl⟩
  obtain⟨y3,hy3⟩:∃ x,nrm a b=x:=⟨_,rfl⟩
  obtain⟨y4,hy4⟩:∃ x,flr a b=x:=⟨_,rfl⟩
  rw[hx1] at f1 z1 ⊢
  rw[hx2] at f2 z2 ⊢
  rw[hx3] at f3 z3 ⊢
  rw[hx4] at f4 z4 ⊢
  rw[hy3] at f3 g3
  rw[hy4] at f4 g4
  have G1:=Hd g1;have G3:=Hd g3;have G4:=Hd g4;have F1:=Hd f1;have F2:=Hd f2;have F3:=Hd f3;have F4:=Hd f4
  clear hx1 hx2 hx3 hx4 hy3 hy4 f1 f2 f3 f4 g1 g3 g4 hv ha hb hfm
  have bA:Below w.heap.size w (w.alloc (.cells #[Value.int IntKind.i64 a,Value.int IntKind.i64 b] 105)):=(Below.refl _ _).alloc nlr _
  have c0:(w.alloc (.cells #[Value.int IntKind.i64 a,Value.int IntKind.i64 b] 105)).cell? ⟨w.heap.size,0,none⟩=some (.int .i64 a):=by simp
  have c1:(w.alloc (.cells #[Value.int IntKind.i64 a,Value.int IntKind.i64 b] 105)).cell? ⟨w.heap.size,1,none⟩=some (.int .i64 b):=by simp
  have hzA:(w.alloc (.cells #[Value.int IntKind.i64 a,Value.int IntKind.i64 b] 105)).heap.size=w.heap.size+1:=by simp
  go_enter Tryz.func86,Tryz.ntmps86
  go_wp2_with fail
  refine (G1.out _).mono ?_
  rintro e w1 ⟨rfl,b1⟩
  have d0:=(b1.cell (p:=⟨w.heap.size,0,none⟩) (by rw[hzA];exact Nat.lt_succ_self _)).trans c0
  have d1:=(b1.cell (p:=⟨w.heap.size,1,none⟩) (by rw[hzA];exact Nat.lt_succ_self _)).trans c1
  have bw1:Below w.heap.size w w1:=bA.trans (b1.mono (by rw[hzA];exact Nat.le_succ _))
  have k0:=cell_regrown d0
  have k1:=cell_regrown d1
  have hbw:=fun d os=>bw1.trans ((below_regrown w1 d os).mono bw1.size)
  have cf1:=fun d os=>Calls.regrown_of (F1.out _ (hbw d os))
  have cf2:=fun d os=>Calls.regrown_of (F2.out _ (hbw d os))
  have cf3:=fun d os=>Calls.regrown_of (F3.out _ (hbw d os))
  have cf4:=fun d os=>Calls.regrown_of (F4.out _ (hbw d os))
  have cg3:=fun d os=>Calls.regrown_of (w:=w1) (d:=d) (os:=os) (G3.out _)
  have cg4:=fun d os=>Calls.regrown_of (w:=w1) (d:=d) (os:=os) (G4.out _)
  have n1:¬ 9223372036854775807<x1.size+1:=by omega
  have n2:¬ 9223372036854775807<x1.size+1+x2.size:=by omega
  have n3:¬ 9223372036854775807<x1.size+1+x2.size+6:=by omega
  have n4:¬ 9223372036854775807<x1.size+1+x2.size+6+x3.size:=by omega
  have n5:¬ 9223372036854775807<x1.size+1+x2.size+6+x3.size+7:=by omega
  have n6:¬ 9223372036854775807<x1.size+1+x2.size+6+x3.size+7+x4.size:=by omega
  clear c0 c1 b1
  go_wp2_with fail
  refine wp_region_quiet_below (by kernel_rfl) (by kernel_rfl) ?_
  repeat (quiet_step (first|with_reducible exact cf1 _ _|with_reducible exact cf2 _ _|with_reducible exact cf3 _ _|with_reducible exact cf4 _ _|with_reducible exact cg3 _ _|with_reducible exact cg4 _ _))
  refine wpQuiet_nil ?_
  intro _ hw'
  obtain⟨⟨dq,osq⟩,hw''⟩:=hw'
  subst hw''
  go_wp2_with fail
  go_ret
  exact⟨rfl,hbw dq osq⟩
 ·have hv:JP a b={ data:=#[110,111,110,101] }:=by rw[JP,if_neg hok]
  rw[hv]
  have G1:=Hd (fun W=>Zkx a b hok W)
  clear hv hok
  have bA:Below w.heap.size w (w.alloc (.cells #[Value.int IntKind.i64 a,Value.int IntKind.i64 b] 105)):=(Below.refl _ _).alloc nlr _
  go_enter Tryz.func86,Tryz.ntmps86
  go_wp2_with fail
  refine (G1.out _).mono ?_
  rintro e w1 ⟨rfl,b1⟩
  go_wp2_with fail
  go_ret
  exact⟨rfl,bA.trans (b1.mono (by simp))⟩
end Go.Proofs.YtocbgldilgemoaaGreatDoor
namespace Go.Proofs.YtocbgldilgemoaaGreatDoor
open Go.RowKit
set_option maxHeartbeats 1000000
set_option maxRecDepth 4000
set_option linter.unusedVariables false
def ES (w:World):Prop:=∃ tp p,w.cell? ⟨Tryz.laysC172_ren.g 15,0,none⟩=some (.iface tp p)
def EG (w:World):Prop:=∃ tp p,w.cell? ⟨Tryz.laysC172_ren.g 16,0,none⟩=some (.iface tp p)
theorem WM {w w':World} {a:Addr} {v:Value} (h:w.cell? a=some v) (hb:Below w.heap.size w w'):w'.cell? a=some v:=by
 rw[hb.cell (p:=a) ?_]
 ·exact h
 ·rcases Nat.lt_or_ge a.block w.heap.size with h2|h2
  ·exact h2
  ·rw[World.cell?] at h
   simp[Array.getElem?_eq_none h2] at h
theorem ES.below {w w':World} (h:ES w) (hb:Below w.heap.size w w'):ES w':=let ⟨tp,p,hc⟩:=h;⟨tp,p,WM hc hb⟩
theorem EG.below {w w':World} (h:EG w) (hb:Below w.heap.size w w'):EG w':=let ⟨tp,p,hc⟩:=h;⟨tp,p,WM hc hb⟩
theorem Zhi (s:ByteArray) (hs:s.size≤281474976710656) (h:∀ v,Lib.atoiAll (L s)≠.ok v) (w:World) (hes:ES w) (heg:EG w) :
  Calls Tryz.prog 125 #[.string s] w fun e w'=>∃ z T N,e=.returned (.tuple #[.int .i64 z,.iface T (.pointer (some ⟨N,0,none⟩))])∧Below w.heap.size w w':=by
 obtain⟨tp,p,hc1⟩:=hes
 obtain⟨tq,q,hc2⟩:=heg
 rcases hh:Lib.atoiAll (L s) with v|_|_
 ·exact absurd hh (h v)
 ·refine (Any.strconv_Atoi_syntax { Tryz.laysC172 with } s hs hh _ w hc1 (.inr ⟨tp,p,rfl⟩)).mono ?_
  rintro e w' ⟨N,he,_,_,hb⟩
  exact⟨_,_,N,he,hb⟩
 ·refine (Any.strconv_Atoi_range { Tryz.laysC172 with } s hs hh _ w hc2 (.inr ⟨tq,q,rfl⟩)).mono ?_
  rintro e w' ⟨N,he,_,_,hb⟩
  exact⟨_,_,N,he,hb⟩
theorem ZkP (s:ByteArray) (hs:s.size≤281474976710656) (v:Int) (h:Lib.atoiAll (L s)=.ok v) (w:World) :
  Calls Tryz.prog 125 #[.string s] w fun e w'=>e=.returned (.tuple #[.int .i64 v,.nilIface])∧Below w.heap.size w w':=by
 refine (Any.strconv_Atoi_ok { Tryz.laysC172 with } s (by omega) v h w).mono ?_
 rintro e w' ⟨he,rfl|⟨t,rfl⟩⟩
 ·exact⟨he,Below.refl _ _⟩
 ·exact⟨he,Lib.bytesWorld_below _ _ _⟩
theorem JI (s:ByteArray) (hs:s.size≤281474976710656) (w:World) (ht:TB w) (hes:ES w) (heg:EG w) :
  Calls Tryz.prog 60 #[.string s] w fun e w'=>e=.returned (.tuple #[.int .i64 ((iP s).getD 0),.bool (iP s).isSome])∧Below w.heap.size w w':=by
 have ht2:=fun w' hb=>TB.below (w':=w') ht hb
 by_cases hok:∃ v,Lib.atoiAll (L s)=.ok v
 ·obtain⟨v,hv⟩:=hok
  have hat:=ZkP s hs v hv w
  have hb:=Lib.atoiAll_bounds hv
  have hit:=fun w' h=>Tryz.strconv_Itoa v hb.1 hb.2 w' h
  by_cases he:Lib.itoa v=L s
  ·have hp:iP s=some v:=by rw[iP,hv];simp only[if_pos he]
   have hse:(⟨(Lib.itoa v).toArray⟩:ByteArray)=s:=by rw[he]
   rw[hp]
   simp only[hse] at hit
   have HAT:=Hd hat;have HIT:=Hd hit;have HT2:=Hd ht2
   clear hat hit hv hp hse he ht2 ht hes heg
   go_enter Tryz.func60,Tryz.ntmps60
   go_wp2_with (first
    | (go_at_call 125;refine HAT.o.mono ?_;rintro e w1 ⟨rfl,b1⟩)
    | (go_at_call 72;refine (HIT.o _ (HT2.o _ b1)).mono ?_;rintro e w2 ⟨rfl,k,os,rfl⟩))
   go_ret2
   exact⟨rfl,b1.trans ((Wi _ k os).mono b1.size)⟩
  ·have hp:iP s=none:=by rw[iP,hv];simp only[if_neg he]
   rw[hp]
   obtain⟨F,hF⟩:∃ F:ByteArray,(⟨(Lib.itoa v).toArray⟩:ByteArray)=F:=⟨_,rfl⟩
   have hne:(F.toList==s.toList)=false:=Zr fun h2=>he (by rw[← h2,← hF])
   simp only[hF] at hit
   have HAT:=Hd hat;have HIT:=Hd hit;have HT2:=Hd ht2
   clear hat hit hv hp he ht2 ht hes heg hF
   go_enter Tryz.func60,Tryz.ntmps60
   go_wp2_with (first
    | (go_at_call 125;refine HAT.o.mono ?_;rintro e w1 ⟨rfl,b1⟩)
    | (go_at_call 72;refine (HIT.o _ (HT2.o _ b1)).mono ?_;rintro e w2 ⟨rfl,k,os,rfl⟩))
   go_ret2
   exact⟨rfl,b1.trans ((Wi _ k os).mono b1.size)⟩
 ·have hno:∀ v,Lib.atoiAll (L s)≠.ok v:=fun v h=>hok ⟨v,h⟩
  have hat:=Zhi s hs hno w hes heg
  have hp:iP s=none:=by
   unfold iP
   split
   ·rename_i v hv;exact absurd hv (hno v)
   ·rfl
  rw[hp]
  have HAT:=Hd hat
  clear hat hp ht2 ht hes heg hno hok
  go_enter Tryz.func60,Tryz.ntmps60
  go_wp2_with (go_at_call 125;refine HAT.o.mono ?_;rintro e w1 ⟨z,T,N,rfl,b1⟩)
  go_ret2
  exact⟨rfl,b1⟩
theorem Qu (s:ByteArray) (hs:s.size≤281474976710656) (w:World) :
  Calls Tryz.prog 179 #[.string s] w fun e w'=>e=.returned (.bool (JT (L s)))∧w=w':=by
 go_enter Tryz.func179,Tryz.ntmps179
 go_wp2_with fail
 go_loop [3] (fun i=>∃ k:Nat,k≤s.size∧i=.int .i64 k∧((L s).drop k).all (fun c=>decide (48≤c.toNat∧c.toNat≤57))=(L s).all (fun c=>decide (48≤c.toNat∧c.toNat≤57))) (fun i=>s.size - (intOf i).toNat)
 case atStart=>exact⟨0,by omega,rfl,rfl⟩
 case round =>
  obtain⟨k,hk,rfl,hg⟩:=hrel
  have HG:=Hd hg;clear hg
  by_cases hlt:k<s.size
  ·have hd:=ZS s k hlt
   have hlt2:(k:Int)<(s.size:Int):=by omega
   obtain⟨c,hc⟩:∃ c,s[k]=c:=⟨_,rfl⟩
   rw[hc] at hd
   have HD:=Hd hd;clear hd
   by_cases h1:48≤c.toNat
   ·by_cases h2:c.toNat≤57
    ·have hl1:decide ((c.toNat:Int)<48)=false:=decide_eq_false (by omega)
     have hl2:decide ((57:Int)<(c.toNat:Int))=false:=decide_eq_false (by omega)
     have HB:Hid (decide (48≤c.toNat∧c.toNat≤57)=true):=Hd (decide_eq_true ⟨h1,h2⟩)
     go_wp2_with fail
     go_round
     case rel=>exact⟨k+1,by omega,by go_num,by rw[← HG.o,HD.o,List.all_cons,HB.o];rfl⟩
     case measure=>simp[intOf];omega
    ·have hl1:decide ((c.toNat:Int)<48)=false:=decide_eq_false (by omega)
     have hl2:(57:Int)<(c.toNat:Int):=by omega
     have HB:Hid (decide (48≤c.toNat∧c.toNat≤57)=false):=Hd (decide_eq_false (by omega))
     go_wp2_with fail
     go_ret
     exact⟨Zk (by rw[JT,← HG.o,HD.o,List.all_cons,HB.o];rfl),rfl⟩
   ·have hl1:(c.toNat:Int)<48:=by omega
    have HB:Hid (decide (48≤c.toNat∧c.toNat≤57)=false):=Hd (decide_eq_false (by omega))
    go_wp2_with fail
    go_ret
    exact⟨Zk (by rw[JT,← HG.o,HD.o,List.all_cons,HB.o];rfl),rfl⟩
  ·have hk2:k=s.size:=by omega
   subst hk2
   have hres:decide (0<s.size)=JT (L s):=by
    rw[JT,← HG.o,List.drop_of_length_le (by rw[Zj];exact Nat.le_refl _)]
    cases hl:L s with
    | nil=>have:=Zj s;rw[hl] at this;rw[← this];rfl
    | cons a b=>have:=Zj s;rw[hl,List.length_cons] at this;rw[← this];simp
   have HR:=Hd hres
   clear hres
   go_wp2_with fail
   go_ret
   exact⟨Zk (by rw[← HR.o];try simp),rfl⟩
theorem YX {s:ByteArray} (h:(JT (Qo s)&&decide ((Qo s).length≤19))=false):sP s=none:=by rw[sP,h];rfl
theorem Zce {s:ByteArray} (h:Qw (Qo s) 0=none):sP s=none:=by
 rw[sP,h];split<;>rfl
theorem Zcf {s:ByteArray} {n:Int} (h:(JT (Qo s)&&decide ((Qo s).length≤19))=true) (h2:Qw (Qo s) 0=some n):sP s=match JU (WK s) n with
   | none=>none
   | some v=>if Lib.itoa v=L s then some v else none:=by
 rw[sP,if_pos h,h2]
 first|done|rfl
theorem JJ (s:ByteArray) (hs:s.size≤281474976710656) (w:World) :
  Calls Tryz.prog 98 #[.string s] w fun e w'=>e=.returned (.tuple #[.int .i64 ((iP s).getD 0),.bool (iP s).isSome])∧Below w.heap.size w w':=by
 rw[Zl1]
 cases hneg:WK s
 ·have HTB:Hid (L s=Qo s):=Hd (by rw[Qo,hneg];rfl)
  have HNEG:=Hd hneg
  by_cases h0:s.size=0
  ·have hgt:decide (0<s.size)=false:=decide_eq_false (by omega)
   have hs0:s.size≤0:=by omega
   clear hneg h0
   cases hd:JT (L s)
   ·have HV:Hid (sP s=none):=Hd (YX (by rw[← HTB.o,hd];rfl))
    have hdg:=Qu s (by omega)
    rw[hd] at hdg
    have HDG:=Hd hdg
    clear hd hdg
    go_enter Tryz.func98,Tryz.ntmps98
    go_wp2_with (go_at_call 179;refine (HDG.o _).mono ?_;rintro e w' ⟨rfl,rfl⟩)
    go_ret2
    exact⟨by rw[HV.o];rfl,Below.refl _ _⟩
   ·have hdg:=Qu s (by omega)
    rw[hd] at hdg
    have HDG:=Hd hdg
    clear hdg
    by_cases hl19:s.size≤19
    ·have hok:(JT (Qo s)&&decide ((Qo s).length≤19))=true:=by rw[← HTB.o,hd,Zj,decide_eq_true hl19];rfl
     have HOK:=Hd hok
     have hall:∀ (k:Nat) (h:k<s.size),48≤s[k].toNat∧s[k].toNat≤57:=fun k h=>by
      rw[JT,Bool.and_eq_true,List.all_eq_true] at hd
      exact of_decide_eq_true (hd.1 s[k] (by have:=ZS s k h;exact List.mem_of_mem_drop (by rw[this];exact List.mem_cons_self)))
     have HALL:=Hd hall
     have hl20:decide ((s.size:Int) > 19)=false:=decide_eq_false (by omega)
     have hl21:decide (19<s.size)=false:=decide_eq_false (by omega)
     clear hd hok hall
     go_enter Tryz.func98,Tryz.ntmps98
     go_wp2_with (go_at_call 179;refine (HDG.o _).mono ?_;rintro e w' ⟨rfl,rfl⟩)
     go_loop [6,7,8] (fun x i _=>∃ k:Nat,∃ n:Int,k≤s.size∧i=.int .i64 k∧x=.int .i64 n∧Qw ((L s).drop k) n=Qw (L s) 0∧-9223372036854775808≤n∧n≤0) (fun _ i _=>s.size - (intOf i).toNat)
     case atStart=>exact⟨0,0,by omega,rfl,rfl,rfl,by omega,by omega⟩
     case round =>
      obtain⟨k,n,hk,rfl,rfl,hg,hn1,hn2⟩:=hrel
      have HG:=Hd hg;clear hg
      by_cases hlt:k<s.size
      ·have hd:=ZS s k hlt
       have hlt2:(k:Int)<(s.size:Int):=by omega
       have hc:=HALL.o k hlt
       obtain⟨c,hcc⟩:∃ c,s[k]=c:=⟨_,rfl⟩
       rw[hcc] at hd hc
       obtain⟨hc1,hc2⟩:=hc
       obtain⟨q,hq⟩:∃ q:Int,(-9223372036854775808+((c.toNat:Int) - 48)).tdiv 10=q:=⟨_,rfl⟩
       have e1:(-9223372036854775808+((c.toNat:Int) - 48))=-((9223372036854775808 - (c.toNat - 48):Nat):Int):=by omega
       have hq2:=hq
       rw[e1,QY] at hq2
       have hq3:-9223372036854775808+((c.toNat:Int) - 48)≤q * 10:=by omega
       have hq4:q≤0:=by omega
       have hgo:Qw ((L s).drop k) n=if n<q then none else Qw ((L s).drop (k+1)) (n * 10 - ((c.toNat:Int) - 48)):=by rw[hd,Qw,hq]
       have HGO:=Hd hgo
       clear hd e1 hq2 hgo
       by_cases hnq:n<q
       ·have HV:Hid (sP s=none):=Hd (Zce (by rw[← HTB.o,← HG.o,HGO.o,if_pos hnq]))
        go_wp2_with fail
        go_ret2
        exact⟨by rw[HV.o];rfl,Below.refl _ _⟩
       ·have hnq2:decide (n<q)=false:=decide_eq_false hnq
        go_wp2_with fail
        go_round
        case rel=>exact⟨k+1,n * 10 - ((c.toNat:Int) - 48),by omega,by go_num,rfl,by rw[← HG.o,HGO.o,if_neg hnq],by omega,by omega⟩
        case measure=>simp[intOf];omega
      ·have hfin:Qw (Qo s) 0=some n:=by
        rw[← HTB.o,← HG.o,List.drop_of_length_le (by rw[Zj];omega)];rfl
       have hsp:=Zcf HOK.o hfin
       have hlt9:decide ((k:Int)<(s.size:Int))=false:=decide_eq_false (by omega)
       rw[HNEG.o] at hsp
       by_cases hmin:n=-9223372036854775808
       ·have HV:Hid (sP s=none):=Hd (by rw[hsp,JU,hmin];rfl)
        subst hmin
        clear hsp hfin
        go_wp2_with fail
        go_ret2
        exact⟨by rw[HV.o];rfl,Below.refl _ _⟩
       ·rw[show JU false n=some (-n) from by rw[JU,if_neg (by simp),if_neg hmin]] at hsp
        have hmin2:(n==-9223372036854775808)=false:=by rw[beq_eq_false_iff_ne];exact hmin
        simp only at hsp
        have hfm:=fun w'=>ZJ (-n) ⟨by omega,by omega⟩ w'
        by_cases he:Lib.itoa (-n)=L s
        ·have HV:Hid (sP s=some (-n)):=Hd (by rw[hsp];simp only[if_pos he])
         have hse:Zd (Lib.itoa (-n))=s:=by rw[he];rfl
         simp only[hse] at hfm
         have HFM:=Hd hfm
         clear hfm he hse hsp hfin
         go_wp2_with (go_at_call 50;refine (HFM.o _).mono ?_;rintro e w1 ⟨rfl,b1⟩)
         go_ret2
         exact⟨by rw[HV.o];rfl,b1⟩
        ·have HV:Hid (sP s=none):=Hd (by rw[hsp];simp only[if_neg he])
         obtain⟨F,hF⟩:∃ F:ByteArray,Zd (Lib.itoa (-n))=F:=⟨_,rfl⟩
         have hne:(F.toList==s.toList)=false:=Zr fun h2=>he (by rw[← h2,← hF,Zy])
         simp only[hF] at hfm
         have HFM:=Hd hfm
         clear hfm he hF hsp hfin
         go_wp2_with (go_at_call 50;refine (HFM.o _).mono ?_;rintro e w1 ⟨rfl,b1⟩)
         go_ret2
         exact⟨by rw[HV.o];rfl,b1⟩
    ·have HV:Hid (sP s=none):=Hd (YX (by rw[← HTB.o,hd,Zj,decide_eq_false hl19];rfl))
     have hl20:(19:Int)<(s.size:Int):=by omega
     clear hd
     go_enter Tryz.func98,Tryz.ntmps98
     go_wp2_with (go_at_call 179;refine (HDG.o _).mono ?_;rintro e w' ⟨rfl,rfl⟩)
     go_ret2
     exact⟨by rw[HV.o];rfl,Below.refl _ _⟩
  ·have hgt:0<s.size:=by omega
   have hgt2:(0:Int)<(s.size:Int):=by omega
   have hc0:((s[0].toNat:Int)==45)=false:=by
    rw[beq_eq_false_iff_ne]
    intro h
    have h2:=ZS s 0 hgt
    rw[List.drop_zero] at h2
    rw[WK,h2] at hneg
    have:=of_decide_eq_false hneg
    apply this
    show some s[0]=some 45
    congr 1
    apply UInt8.toNat_inj.1
    show s[0].toNat=45
    omega
   clear hneg h0
   cases hd:JT (L s)
   ·have HV:Hid (sP s=none):=Hd (YX (by rw[← HTB.o,hd];rfl))
    have hdg:=Qu s (by omega)
    rw[hd] at hdg
    have HDG:=Hd hdg
    clear hd hdg
    go_enter Tryz.func98,Tryz.ntmps98
    go_wp2_with (go_at_call 179;refine (HDG.o _).mono ?_;rintro e w' ⟨rfl,rfl⟩)
    go_ret2
    exact⟨by rw[HV.o];rfl,Below.refl _ _⟩
   ·have hdg:=Qu s (by omega)
    rw[hd] at hdg
    have HDG:=Hd hdg
    clear hdg
    by_cases hl19:s.size≤19
    ·have hok:(JT (Qo s)&&decide ((Qo s).length≤19))=true:=by rw[← HTB.o,hd,Zj,decide_eq_true hl19];rfl
     have HOK:=Hd hok
     have hall:∀ (k:Nat) (h:k<s.size),48≤s[k].toNat∧s[k].toNat≤57:=fun k h=>by
      rw[JT,Bool.and_eq_true,List.all_eq_true] at hd
      exact of_decide_eq_true (hd.1 s[k] (by have:=ZS s k h;exact List.mem_of_mem_drop (by rw[this];exact List.mem_cons_self)))
     have HALL:=Hd hall
     have hl20:decide ((s.size:Int) > 19)=false:=decide_eq_false (by omega)
     have hl21:decide (19<s.size)=false:=decide_eq_false (by omega)
     clear hd hok hall
     go_enter Tryz.func98,Tryz.ntmps98
     go_wp2_with (go_at_call 179;refine (HDG.o _).mono ?_;rintro e w' ⟨rfl,rfl⟩)
     go_loop [6,7,8] (fun x i _=>∃ k:Nat,∃ n:Int,k≤s.size∧i=.int .i64 k∧x=.int .i64 n∧Qw ((L s).drop k) n=Qw (L s) 0∧-9223372036854775808≤n∧n≤0) (fun _ i _=>s.size - (intOf i).toNat)
     case atStart=>exact⟨0,0,by omega,rfl,rfl,rfl,by omega,by omega⟩
     case round =>
      obtain⟨k,n,hk,rfl,rfl,hg,hn1,hn2⟩:=hrel
      have HG:=Hd hg;clear hg
      by_cases hlt:k<s.size
      ·have hd:=ZS s k hlt
       have hlt2:(k:Int)<(s.size:Int):=by omega
       have hc:=HALL.o k hlt
       obtain⟨c,hcc⟩:∃ c,s[k]=c:=⟨_,rfl⟩
       rw[hcc] at hd hc
       obtain⟨hc1,hc2⟩:=hc
       obtain⟨q,hq⟩:∃ q:Int,(-9223372036854775808+((c.toNat:Int) - 48)).tdiv 10=q:=⟨_,rfl⟩
       have e1:(-9223372036854775808+((c.toNat:Int) - 48))=-((9223372036854775808 - (c.toNat - 48):Nat):Int):=by omega
       have hq2:=hq
       rw[e1,QY] at hq2
       have hq3:-9223372036854775808+((c.toNat:Int) - 48)≤q * 10:=by omega
       have hq4:q≤0:=by omega
       have hgo:Qw ((L s).drop k) n=if n<q then none else Qw ((L s).drop (k+1)) (n * 10 - ((c.toNat:Int) - 48)):=by rw[hd,Qw,hq]
       have HGO:=Hd hgo
       clear hd e1 hq2 hgo
       by_cases hnq:n<q
       ·have HV:Hid (sP s=none):=Hd (Zce (by rw[← HTB.o,← HG.o,HGO.o,if_pos hnq]))
        go_wp2_with fail
        go_ret2
        exact⟨by rw[HV.o];rfl,Below.refl _ _⟩
       ·have hnq2:decide (n<q)=false:=decide_eq_false hnq
        go_wp2_with fail
        go_round
        case rel=>exact⟨k+1,n * 10 - ((c.toNat:Int) - 48),by omega,by go_num,rfl,by rw[← HG.o,HGO.o,if_neg hnq],by omega,by omega⟩
        case measure=>simp[intOf];omega
      ·have hfin:Qw (Qo s) 0=some n:=by
        rw[← HTB.o,← HG.o,List.drop_of_length_le (by rw[Zj];omega)];rfl
       have hsp:=Zcf HOK.o hfin
       have hlt9:decide ((k:Int)<(s.size:Int))=false:=decide_eq_false (by omega)
       rw[HNEG.o] at hsp
       by_cases hmin:n=-9223372036854775808
       ·have HV:Hid (sP s=none):=Hd (by rw[hsp,JU,hmin];rfl)
        subst hmin
        clear hsp hfin
        go_wp2_with fail
        go_ret2
        exact⟨by rw[HV.o];rfl,Below.refl _ _⟩
       ·rw[show JU false n=some (-n) from by rw[JU,if_neg (by simp),if_neg hmin]] at hsp
        have hmin2:(n==-9223372036854775808)=false:=by rw[beq_eq_false_iff_ne];exact hmin
        simp only at hsp
        have hfm:=fun w'=>ZJ (-n) ⟨by omega,by omega⟩ w'
        by_cases he:Lib.itoa (-n)=L s
        ·have HV:Hid (sP s=some (-n)):=Hd (by rw[hsp];simp only[if_pos he])
         have hse:Zd (Lib.itoa (-n))=s:=by rw[he];rfl
         simp only[hse] at hfm
         have HFM:=Hd hfm
         clear hfm he hse hsp hfin
         go_wp2_with (go_at_call 50;refine (HFM.o _).mono ?_;rintro e w1 ⟨rfl,b1⟩)
         go_ret2
         exact⟨by rw[HV.o];rfl,b1⟩
        ·have HV:Hid (sP s=none):=Hd (by rw[hsp];simp only[if_neg he])
         obtain⟨F,hF⟩:∃ F:ByteArray,Zd (Lib.itoa (-n))=F:=⟨_,rfl⟩
         have hne:(F.toList==s.toList)=false:=Zr fun h2=>he (by rw[← h2,← hF,Zy])
         simp only[hF] at hfm
         have HFM:=Hd hfm
         clear hfm he hF hsp hfin
         go_wp2_with (go_at_call 50;refine (HFM.o _).mono ?_;rintro e w1 ⟨rfl,b1⟩)
         go_ret2
         exact⟨by rw[HV.o];rfl,b1⟩
    ·have HV:Hid (sP s=none):=Hd (YX (by rw[← HTB.o,hd,Zj,decide_eq_false hl19];rfl))
     have hl20:(19:Int)<(s.size:Int):=by omega
     clear hd
     go_enter Tryz.func98,Tryz.ntmps98
     go_wp2_with (go_at_call 179;refine (HDG.o _).mono ?_;rintro e w' ⟨rfl,rfl⟩)
     go_ret2
     exact⟨by rw[HV.o];rfl,Below.refl _ _⟩
 ·have hgt:0<s.size:=by
   rcases Nat.eq_zero_or_pos s.size with h|h
   ·have hn:L s=[]:=List.eq_nil_of_length_eq_zero (by rw[Zj];exact h)
    rw[WK,hn] at hneg
    exact absurd (of_decide_eq_true hneg) (by simp)
   ·exact h
  have hgt2:(0:Int)<(s.size:Int):=by omega
  have hc0:((s[0].toNat:Int)==45)=true:=by
   have h2:=ZS s 0 hgt
   rw[List.drop_zero] at h2
   rw[WK,h2] at hneg
   have h3:some s[0]=some 45:=of_decide_eq_true hneg
   injection h3 with h3
   rw[h3];rfl
  obtain⟨T,hT⟩:∃ T,s.extract 1 s.size=T:=⟨_,rfl⟩
  have hTs:T.size≤s.size:=by rw[← hT,ByteArray.size_extract];omega
  have HTB:Hid (L T=Qo s):=Hd (by
   rw[Qo,hneg,if_pos rfl,← hT,ZI,List.take_of_length_le (by rw[Zj];exact Nat.le_refl _)])
  have HNEG:=Hd hneg
  have hgt3:(1:Int)≤(s.size:Int):=by omega
  clear hneg
  cases hd:JT (L T)
  ·have HV:Hid (sP s=none):=Hd (YX (by rw[← HTB.o,hd];rfl))
   have hdg:=Qu T (by omega)
   rw[hd] at hdg
   have HDG:=Hd hdg
   clear hd hdg
   go_enter Tryz.func98,Tryz.ntmps98
   go_wp2_with (go_at_call 179;refine (HDG.o _).mono ?_;rintro e w' ⟨rfl,rfl⟩)
   go_ret2
   exact⟨by rw[HV.o];rfl,Below.refl _ _⟩
  ·have hdg:=Qu T (by omega)
   rw[hd] at hdg
   have HDG:=Hd hdg
   clear hdg
   by_cases hl19:T.size≤19
   ·have hok:(JT (Qo s)&&decide ((Qo s).length≤19))=true:=by rw[← HTB.o,hd,Zj,decide_eq_true hl19];rfl
    have HOK:=Hd hok
    have hall:∀ (k:Nat) (h:k<T.size),48≤T[k].toNat∧T[k].toNat≤57:=fun k h=>by
     rw[JT,Bool.and_eq_true,List.all_eq_true] at hd
     exact of_decide_eq_true (hd.1 T[k] (by have:=ZS T k h;exact List.mem_of_mem_drop (by rw[this];exact List.mem_cons_self)))
    have HALL:=Hd hall
    have hl20:decide ((T.size:Int) > 19)=false:=decide_eq_false (by omega)
    have hl21:decide (19<T.size)=false:=decide_eq_false (by omega)
    clear hd hok hall
    go_enter Tryz.func98,Tryz.ntmps98
    go_wp2_with (go_at_call 179;refine (HDG.o _).mono ?_;rintro e w' ⟨rfl,rfl⟩)
    go_loop [6,7,8] (fun x i _=>∃ k:Nat,∃ n:Int,k≤T.size∧i=.int .i64 k∧x=.int .i64 n∧Qw ((L T).drop k) n=Qw (L T) 0∧-9223372036854775808≤n∧n≤0) (fun _ i _=>T.size - (intOf i).toNat)
    case atStart=>exact⟨0,0,by omega,rfl,rfl,rfl,by omega,by omega⟩
    case round =>
     obtain⟨k,n,hk,rfl,rfl,hg,hn1,hn2⟩:=hrel
     have HG:=Hd hg;clear hg
     by_cases hlt:k<T.size
     ·have hd:=ZS T k hlt
      have hlt2:(k:Int)<(T.size:Int):=by omega
      have hc:=HALL.o k hlt
      obtain⟨c,hcc⟩:∃ c,T[k]=c:=⟨_,rfl⟩
      rw[hcc] at hd hc
      obtain⟨hc1,hc2⟩:=hc
      obtain⟨q,hq⟩:∃ q:Int,(-9223372036854775808+((c.toNat:Int) - 48)).tdiv 10=q:=⟨_,rfl⟩
      have e1:(-9223372036854775808+((c.toNat:Int) - 48))=-((9223372036854775808 - (c.toNat - 48):Nat):Int):=by omega
      have hq2:=hq
      rw[e1,QY] at hq2
      have hq3:-9223372036854775808+((c.toNat:Int) - 48)≤q * 10:=by omega
      have hq4:q≤0:=by omega
      have hgo:Qw ((L T).drop k) n=if n<q then none else Qw ((L T).drop (k+1)) (n * 10 - ((c.toNat:Int) - 48)):=by rw[hd,Qw,hq]
      have HGO:=Hd hgo
      clear hd e1 hq2 hgo
      by_cases hnq:n<q
      ·have HV:Hid (sP s=none):=Hd (Zce (by rw[← HTB.o,← HG.o,HGO.o,if_pos hnq]))
       go_wp2_with fail
       go_ret2
       exact⟨by rw[HV.o];rfl,Below.refl _ _⟩
      ·have hnq2:decide (n<q)=false:=decide_eq_false hnq
       go_wp2_with fail
       go_round
       case rel=>exact⟨k+1,n * 10 - ((c.toNat:Int) - 48),by omega,by go_num,rfl,by rw[← HG.o,HGO.o,if_neg hnq],by omega,by omega⟩
       case measure=>simp[intOf];omega
     ·have hfin:Qw (Qo s) 0=some n:=by
       rw[← HTB.o,← HG.o,List.drop_of_length_le (by rw[Zj];omega)];rfl
      have hsp:=Zcf HOK.o hfin
      have hlt9:decide ((k:Int)<(T.size:Int))=false:=decide_eq_false (by omega)
      rw[HNEG.o] at hsp
      rw[show JU true n=some n from by rw[JU,if_pos rfl]] at hsp
      simp only at hsp
      have hfm:=fun w'=>ZJ n ⟨by omega,by omega⟩ w'
      by_cases he:Lib.itoa n=L s
      ·have HV:Hid (sP s=some n):=Hd (by rw[hsp];simp only[if_pos he])
       have hse:Zd (Lib.itoa n)=s:=by rw[he];rfl
       simp only[hse] at hfm
       have HFM:=Hd hfm
       clear hfm he hse hsp hfin
       go_wp2_with (go_at_call 50;refine (HFM.o _).mono ?_;rintro e w1 ⟨rfl,b1⟩)
       go_ret2
       exact⟨by rw[HV.o];rfl,b1⟩
      ·have HV:Hid (sP s=none):=Hd (by rw[hsp];simp only[if_neg he])
       obtain⟨F,hF⟩:∃ F:ByteArray,Zd (Lib.itoa n)=F:=⟨_,rfl⟩
       have hne:(F.toList==s.toList)=false:=Zr fun h2=>he (by rw[← h2,← hF,Zy])
       simp only[hF] at hfm
       have HFM:=Hd hfm
       clear hfm he hF hsp hfin
       go_wp2_with (go_at_call 50;refine (HFM.o _).mono ?_;rintro e w1 ⟨rfl,b1⟩)
       go_ret2
       exact⟨by rw[HV.o];rfl,b1⟩
   ·have HV:Hid (sP s=none):=Hd (YX (by rw[← HTB.o,hd,Zj,decide_eq_false hl19];rfl))
    have hl20:(19:Int)<(T.size:Int):=by omega
    clear hd
    go_enter Tryz.func98,Tryz.ntmps98
    go_wp2_with (go_at_call 179;refine (HDG.o _).mono ?_;rintro e w' ⟨rfl,rfl⟩)
    go_ret2
    exact⟨by rw[HV.o];rfl,Below.refl _ _⟩
theorem ZeI:(Rows.laid_internal_strconv_uint64pow10:DataW Unit)=Lib.tabData .u64 Lib.pow10Tab:=rfl
theorem TB.of_head {r : List (String × DataW Unit)} {w : World} (h : laidMet Tryz.prog (("internal/strconv.uint64pow10", Rows.laid_internal_strconv_uint64pow10) :: r) w) : TB w := by
 rw[ZeI] at h
 exact Lib.tabIs_of_head (g := (Tryz.prog.globalNamed "internal/strconv.uint64pow10").getD 0) (t := ((Tryz.prog.globals[(Tryz.prog.globalNamed "internal/strconv.uint64pow10").getD 0]?).map (·.type)).getD 0) (n := 20) (e := 177) (by kernel_rfl) (by kernel_rfl) (by kernel_rfl) (by kernel_rfl) (by kernel_rfl) (by kernel_rfl) h
theorem Zc6 : "*" ++ "errors.errorString" = "*errors.errorString" := by decide
theorem ZfG (u : TypeId) (h : Tryz.prog.typeName? 3 u = some "*errors.errorString") : u = 214 :=
 typeName_ptr_named (nm := "errors.errorString") (by rw [Zc6]; kernel_rfl) (by kernel_rfl) (by decide) u (by rw [Zc6]; exact h)
theorem ES.of {r : List (String × DataW Unit)} {w : World} (h : laidMet Tryz.prog (("strconv.ErrSyntax", Rows.laid_strconv_ErrSyntax) :: r) w) : ES w := by
 have hg : Tryz.prog.globalNamed "strconv.ErrSyntax" = some (Tryz.laysC172_ren.g 15) := by kernel_rfl
 obtain⟨a,s,hv,_,_,_⟩:=laid_sentinel h hg (by kernel_rfl) Tryz.underlying93 ZfG Tryz.underlying214 Tryz.underlying216 rfl rfl Tryz.underlying9 (by kernel_rfl) (by kernel_rfl)
 exact⟨_,_,by have h0:=World.var?_cell hg hv 0;simpa using h0⟩
theorem EG.of {r : List (String × DataW Unit)} {w : World} (h : laidMet Tryz.prog (("strconv.ErrRange", Rows.laid_strconv_ErrRange) :: r) w) : EG w := by
 have hg : Tryz.prog.globalNamed "strconv.ErrRange" = some (Tryz.laysC172_ren.g 16) := by kernel_rfl
 obtain⟨a,s,hv,_,_,_⟩:=laid_sentinel h hg (by kernel_rfl) Tryz.underlying93 ZfG Tryz.underlying214 Tryz.underlying216 rfl rfl Tryz.underlying9 (by kernel_rfl) (by kernel_rfl)
 exact⟨_,_,by have h0:=World.var?_cell hg hv 0;simpa using h0⟩
end Go.Proofs.YtocbgldilgemoaaGreatDoor
