/- SubstLine, both, at whatever substitution. Asks the shelf's text. No condition but the bounds. -/
import Derived.Test.YtocbgldilgemoaaGreatDoorM21
import Derived.Test.YtocbgldilgemoaaGreatDoorPrw
namespace Go.Proofs.YtocbgldilgemoaaGreatDoor
set_option maxRecDepth 8000
set_option maxHeartbeats 2000000
open Go.RowKit
set_option linter.unusedVariables false
def slB (zs:List ByteArray):ByteArray:=fsV zs++{ data:=#[32,103,114,111,119,105,110,103,32] }++orD (grV zs)++{ data:=#[32,100,101,116,101,114,109,105,110,97,110,116,32] }++Zd (Lib.itoa (suD zs))
def slV (zs:List ByteArray):ByteArray :=
 if Zf zs=true then (if prV zs=true then slB zs++{ data:=#[32,112,114,105,109,105,116,105,118,101] } else slB zs) else { data:=#[110,111,110,101] }
theorem WY {zs:List ByteArray} (h:Zf zs=true):(fsV zs).size≤36:=by
 obtain⟨h4,h8⟩:=Jr h
 have:=VR 44 zs 8 h8
 rw[fsV,if_pos h,Zh]
 omega
theorem Zfh {zs:List ByteArray} (h:Zf zs=true):I64 (suD zs):=by
 obtain⟨h4,h8⟩:=Jr h
 have h1:=ZfA zs.length (mtL zs) (Zc1 h8)
 have h2:=Zkt h4
 unfold suD I64
 omega
theorem Y4 {s:ByteArray} (h:s.size≤4):(orD s).size≤4:=by
 unfold orD;split
 ·decide
 ·exact h
theorem WZ (zs:List ByteArray) (g nz cz B:Nat) (w:World) (hl:zs.length=nz) (hc:nz≤cz) (hB:B≤w.heap.size) (hn:nz≤4294967296) (hsz:∀ s∈zs,s.size≤maxLen) (hrd:Rds w B (some ⟨g,0,none⟩) (zs.map Value.string)) (htb:TB w) :
  Calls Tryz.prog 12 #[.agg #[.slice (some ⟨g,0,none⟩) nz cz]] w fun e w'=>e=.returned (.string (slV zs))∧Below w.heap.size w w':=by
 have bA:Below w.heap.size w (w.alloc (.cells #[.slice (some ⟨g,0,none⟩) nz cz] 26)):=(Below.refl _ _).alloc nlr _
 have zA:(w.alloc (.cells #[.slice (some ⟨g,0,none⟩) nz cz] 26)).heap.size=w.heap.size+1:=by simp
 have h0:(w.alloc (.cells #[.slice (some ⟨g,0,none⟩) nz cz] 26)).cell? ⟨w.heap.size,0,none⟩=some (.slice (some ⟨g,0,none⟩) nz cz):=cell_of_row _ _ 0 _ _ (0,0) (heap_alloc_new w (.cells #[.slice (some ⟨g,0,none⟩) nz cz] 26))
 have hc1:=Zz zs (some ⟨g,0,none⟩) cz B _ (by omega) (by omega) hsz (hrd.below bA hB)
 rw[hl] at hc1
 cases hsu:Zf zs with
 | false =>
  rw[hsu] at hc1
  have hv:slV zs={ data:=#[110,111,110,101] }:=by rw[slV,if_neg (by rw[hsu];decide)]
  have HC1:=Hd hc1;have HV:=Hd hv
  clear hc1 hrd h0 hsu hv hsz hl
  go_enter Tryz.func12,Tryz.ntmps12
  go_wp2_with fail
  refine HC1.o.mono ?_
  rintro e w1 ⟨rfl,b1⟩
  go_wp2_with fail
  go_ret
  exact⟨by rw[HV.o];rfl,bA.trans (b1.mono (by omega))⟩
 | true =>
  rw[hsu] at hc1
  have h4:nz≤4:=by have:=(Jr hsu).1;omega
  have h1:1≤nz:=by have h:=hsu;rw[Zf,Bool.and_eq_true,decide_eq_true_eq] at h;omega
  have h8:=(Jr hsu).2
  have hsq:=Zc1 h8
  have hdb:=Zfh hsu
  have hd:suD zs=dtF nz (mtL zs):=by rw[suD,hl]
  rw[hl] at hsq
  obtain⟨D,hD⟩:∃ D,suD zs=D:=⟨_,rfl⟩
  rw[hD] at hdb hd
  obtain⟨p,hp⟩:∃ p,prV zs=p:=⟨_,rfl⟩
  have hv:slV zs=if p=true then slB zs++{ data:=#[32,112,114,105,109,105,116,105,118,101] } else slB zs:=by rw[slV,if_pos hsu,hp]
  have hvb:slB zs=fsV zs++{ data:=#[32,103,114,111,119,105,110,103,32] }++orD (grV zs)++{ data:=#[32,100,101,116,101,114,109,105,110,97,110,116,32] }++Zd (Lib.itoa D):=by rw[slB,hD]
  have hs1:=WY hsu
  have hs2:=Y4 (Nat.le_trans (JQ zs zs.length (by omega)) (show zs.length≤4 by omega))
  have hs3:(Zd (Lib.itoa D)).size≤21:=by rw[Zh];exact Jq hdb
  change (orD (grV zs)).size≤4 at hs2
  have cF:=fun v hv (r:Rds v B (some ⟨g,0,none⟩) (zs.map Value.string))=>JO zs g nz cz B v hl hc hv hsu r
  have cG:=fun v hv r=>ZgY zs (some ⟨g,0,none⟩) nz cz B v hl hsu r hv
  have cM:=fun v hv r=>Zam zs (some ⟨g,0,none⟩) nz cz B v hl hsu r hv
  have cP:=fun v hv r=>Zhj zs (some ⟨g,0,none⟩) nz cz B v hl hsu r hv
  rw[hp] at cP
  obtain⟨F,hF⟩:∃ F,fsV zs=F:=⟨_,rfl⟩
  obtain⟨O,hO⟩:∃ O,orD (grV zs)=O:=⟨_,rfl⟩
  obtain⟨I,hI⟩:∃ I,Zd (Lib.itoa D)=I:=⟨_,rfl⟩
  obtain⟨R,hR⟩:∃ R,grV zs=R:=⟨_,rfl⟩
  have cO:=fun v=>Jd (grV zs) v
  have cI:=fun v (ht:TB v)=>Qc D hdb v ht
  rw[hF,hO,hI] at hvb
  rw[hO,hR] at cO
  rw[hF] at hs1 cF
  rw[hO] at hs2
  rw[hI] at hs3 cI
  rw[hR] at cG
  have n1:¬ 9223372036854775807<F.size+9:=by omega
  have n2:¬ 9223372036854775807<F.size+9+O.size:=by omega
  have n3:¬ 9223372036854775807<F.size+9+O.size+13:=by omega
  have n4:¬ 9223372036854775807<F.size+9+O.size+13+I.size:=by omega
  have HC1:=Hd hc1;have HRD:=Hd hrd;have H0:=Hd h0;have HV:=Hd hv;have HVB:=Hd hvb;have CF:=Hd cF;have CG:=Hd cG;have CM:=Hd cM;have CP:=Hd cP;have CO:=Hd cO;have CI:=Hd cI;have HSQ:=Hd hsq;have HD:=Hd hd
  clear hc1 hrd h0 h8 hsu hv hvb cF cG cM cP cO cI hp hD hF hO hI hR hl hsz hsq hd hdb
  go_enter Tryz.func12,Tryz.ntmps12
  go_wp2_with fail
  refine HC1.o.mono ?_
  rintro e w1 ⟨rfl,b1⟩
  have bw1:Below w.heap.size w w1:=bA.trans (b1.mono (by omega))
  have z1:=b1.size
  rw[zA] at z1
  have zw:w.heap.size≤w1.heap.size:=by omega
  have k1:w1.cell? ⟨w.heap.size,0,none⟩=some (.slice (some ⟨g,0,none⟩) nz cz):=(b1.cell (p:=⟨w.heap.size,0,none⟩) (by show w.heap.size<(w.alloc _).heap.size;omega)).trans H0.o
  have KC:Hid (∀ v,Below w1.heap.size w1 v→v.cell? ⟨w.heap.size,0,none⟩=some (.slice (some ⟨g,0,none⟩) nz cz)):=Hd (fun v hv=>(hv.cell (p:=⟨w.heap.size,0,none⟩) (by show w.heap.size<w1.heap.size;omega)).trans k1)
  have RD:Hid (∀ v,Below w1.heap.size w1 v→B≤v.heap.size∧Rds v B (some ⟨g,0,none⟩) (zs.map Value.string)):=Hd (fun v hv=>⟨by have:=hv.size;omega,HRD.o.below (bw1.trans (hv.mono zw)) hB⟩)
  have K0:Below w1.heap.size w1 w1.drew:=(Dr.refl w1).drew.below
  have k0:=KC.out _ K0
  clear b1 HC1 H0 HRD
  have HTB:Hid (∀ v,Below w1.heap.size w1 v→TB v):=Hd (fun v hv=>htb.below (bw1.trans (hv.mono zw)))
  go_wp2_with fail
  go_region_held3 (fun w'=>w'.cell? ⟨w.heap.size,0,none⟩=some (.slice (some ⟨g,0,none⟩) nz cz)) (first|exact KC.out _ K5|exact KC.out _ K4|exact KC.out _ K3|exact KC.out _ K2|exact KC.out _ K1|exact KC.out _ K0)
   (first
    | (go_at_call 10;refine (CF.out _ (RD.out _ K0).1 (RD.out _ K0).2).mono ?_;rintro e w3 ⟨rfl,b3⟩;have K1:=K0.trans (b3.mono K0.size))
    | (go_at_call 31;refine (CG.out _ (RD.out _ K1).1 (RD.out _ K1).2).mono ?_;rintro e w4 ⟨rfl,b4⟩;have K2:=K1.trans (b4.mono K1.size))
    | (go_at_call 30;refine (CO.out _).mono ?_;rintro e w5 ⟨rfl,rfl⟩)
    | (go_at_call 34;refine (CM.out _ (RD.out _ K2).1 (RD.out _ K2).2).mono ?_;rintro e w6 ⟨gm,cm,vm,rfl,hbm,b6⟩;have K3:=K2.trans (b6.mono K2.size))
    | (go_at_call 33;refine (ZeH nz (mtL zs) h1 h4 HSQ.o gm cm _ _ hbm.gr hbm.cap.1 nlr).mono ?_;rintro e w7 ⟨rfl,b7⟩;rw[← HD.o];have K4:=K3.trans (b7.mono K3.size))
    | (go_at_call 32;refine (CI.out _ (HTB.o _ K4)).mono ?_;rintro e w8 ⟨rfl,b8⟩;have K5:=K4.trans (b8.mono K4.size)))
  all_goals
   have k5:=KC.out _ K5
   clear b3 b4 b6 b7 b8 hbm
   go_wp2_with fail
   refine (CP.out _ (RD.out _ K5).1 (RD.out _ K5).2).mono ?_
   rintro e w9 ⟨rfl,b9⟩
   have K6:=K5.trans (b9.mono K5.size)
   have K7:=bw1.trans (K6.mono zw)
   have HV2:=HV.o
   rw[HVB.o] at HV2
   have HV3:=Hd HV2
   clear HV HVB HV2 b9
   cases p with
   | true =>
    go_wp2_with fail
    go_ret
    exact⟨by rw[HV3.o];rfl,K7⟩
   | false =>
    go_wp2_with fail
    go_ret
    exact⟨by rw[HV3.o];rfl,K7⟩
theorem XH (zs:List ByteArray) (A:Option Addr) (nz cz B:Nat) (w:World) (hl:zs.length=nz) (hB:B≤w.heap.size) (hn:nz≤4294967296) (hsz:∀ s∈zs,s.size≤maxLen) (hrd:Rds w B A (zs.map Value.string)) (hsu:Zf zs=false) :
  Calls Tryz.prog 12 #[.agg #[.slice A nz cz]] w fun e w'=>e=.returned (.string (slV zs))∧Below w.heap.size w w':=by
 have bA:Below w.heap.size w (w.alloc (.cells #[.slice A nz cz] 26)):=(Below.refl _ _).alloc nlr _
 have zA:(w.alloc (.cells #[.slice A nz cz] 26)).heap.size=w.heap.size+1:=by simp
 have hc1:=Zz zs A cz B _ (by omega) (by omega) hsz (hrd.below bA hB)
 rw[hl,hsu] at hc1
 have hv:slV zs={ data:=#[110,111,110,101] }:=by rw[slV,if_neg (by rw[hsu];decide)]
 have HC1:=Hd hc1;have HV:=Hd hv
 clear hc1 hrd hsu hv hsz hl
 go_enter Tryz.func12,Tryz.ntmps12
 go_wp2_with fail
 refine HC1.o.mono ?_
 rintro e w1 ⟨rfl,b1⟩
 go_wp2_with fail
 go_ret
 exact⟨by rw[HV.o];rfl,bA.trans (b1.mono (by omega))⟩
theorem Ji (zs:List ByteArray) (A:Option Addr) (nz cz B:Nat) (w:World) (hl:zs.length=nz) (hn:nz≤4294967296) (hsz:∀ s∈zs,s.size≤maxLen) (ho:Own w B 9 (.slice A nz cz) (zs.map Value.string)) (htb:TB w) :
  Calls Tryz.prog 12 #[.agg #[.slice A nz cz]] w fun e w'=>e=.returned (.string (slV zs))∧Below w.heap.size w w':=by
 rcases Nat.eq_zero_or_pos nz with h0|h0
 ·have hz:zs=[]:=List.eq_nil_of_length_eq_zero (by omega)
  exact XH zs A nz cz _ w hl nlr hn hsz ho.reads (by subst hz;rfl)
 ·obtain⟨g,rfl⟩:=Vz ho h0
  obtain⟨A',c',hv,hc,_,_⟩:=ho.shape
  injection hv with e1 e2 e3
  have:=congrArg List.length (rfl:zs.map Value.string=zs.map Value.string)
  exact WZ zs g nz cz _ w hl (by rw[e3,← hl];simpa using hc) nlr hn hsz ho.reads htb
theorem W0 (zs:List ByteArray) (g nz cz B:Nat) (w:World) (hl:zs.length=nz) (hc:nz≤cz) (hB:B≤w.heap.size) (hn:nz≤4294967296) (hsz:∀ s∈zs,s.size≤maxLen) (hrd:Rds w B (some ⟨g,0,none⟩) (zs.map Value.string))  :
  Calls Tryz.prog 80 #[.agg #[.slice (some ⟨g,0,none⟩) nz cz]] w fun e w'=>e=.returned (.string (slV zs))∧Below w.heap.size w w':=by
 have bA:Below w.heap.size w (w.alloc (.cells #[.slice (some ⟨g,0,none⟩) nz cz] 26)):=(Below.refl _ _).alloc nlr _
 have zA:(w.alloc (.cells #[.slice (some ⟨g,0,none⟩) nz cz] 26)).heap.size=w.heap.size+1:=by simp
 have h0:(w.alloc (.cells #[.slice (some ⟨g,0,none⟩) nz cz] 26)).cell? ⟨w.heap.size,0,none⟩=some (.slice (some ⟨g,0,none⟩) nz cz):=cell_of_row _ _ 0 _ _ (0,0) (heap_alloc_new w (.cells #[.slice (some ⟨g,0,none⟩) nz cz] 26))
 have hc1:=ZB zs (some ⟨g,0,none⟩) cz B _ (by omega) (by omega) hsz (hrd.below bA hB)
 rw[hl] at hc1
 cases hsu:Zf zs with
 | false =>
  rw[hsu] at hc1
  have hv:slV zs={ data:=#[110,111,110,101] }:=by rw[slV,if_neg (by rw[hsu];decide)]
  have HC1:=Hd hc1;have HV:=Hd hv
  clear hc1 hrd h0 hsu hv hsz hl
  go_enter Tryz.func80,Tryz.ntmps80
  go_wp2_with fail
  refine HC1.o.mono ?_
  rintro e w1 ⟨rfl,b1⟩
  go_wp2_with fail
  go_ret
  exact⟨by rw[HV.o];rfl,bA.trans (b1.mono (by omega))⟩
 | true =>
  rw[hsu] at hc1
  have h4:nz≤4:=by have:=(Jr hsu).1;omega
  have h1:1≤nz:=by have h:=hsu;rw[Zf,Bool.and_eq_true,decide_eq_true_eq] at h;omega
  have h8:=(Jr hsu).2
  have hsq:=Zc1 h8
  have hdb:=Zfh hsu
  have hd:suD zs=dtF nz (mtL zs):=by rw[suD,hl]
  rw[hl] at hsq
  obtain⟨D,hD⟩:∃ D,suD zs=D:=⟨_,rfl⟩
  rw[hD] at hdb hd
  obtain⟨p,hp⟩:∃ p,prV zs=p:=⟨_,rfl⟩
  have hv:slV zs=if p=true then slB zs++{ data:=#[32,112,114,105,109,105,116,105,118,101] } else slB zs:=by rw[slV,if_pos hsu,hp]
  have hvb:slB zs=fsV zs++{ data:=#[32,103,114,111,119,105,110,103,32] }++orD (grV zs)++{ data:=#[32,100,101,116,101,114,109,105,110,97,110,116,32] }++Zd (Lib.itoa D):=by rw[slB,hD]
  have hs1:=WY hsu
  have hs2:=Y4 (Nat.le_trans (JQ zs zs.length (by omega)) (show zs.length≤4 by omega))
  have hs3:(Zd (Lib.itoa D)).size≤21:=by rw[Zh];exact Jq hdb
  change (orD (grV zs)).size≤4 at hs2
  have cF:=fun v hv (r:Rds v B (some ⟨g,0,none⟩) (zs.map Value.string))=>QW zs (some ⟨g,0,none⟩) nz cz B v hl hv (by omega) hsz r
  have cG:=fun v hv r=>ZgZ zs (some ⟨g,0,none⟩) nz cz B v hl hsu r hv
  have cM:=fun v hv r=>Xf zs (some ⟨g,0,none⟩) nz cz B v hl h4 h8 r hv
  have cP:=fun v hv r=>Zhk zs (some ⟨g,0,none⟩) nz cz B v hl hsu r hv
  rw[hp] at cP
  obtain⟨F,hF⟩:∃ F,fsV zs=F:=⟨_,rfl⟩
  obtain⟨O,hO⟩:∃ O,orD (grV zs)=O:=⟨_,rfl⟩
  obtain⟨I,hI⟩:∃ I,Zd (Lib.itoa D)=I:=⟨_,rfl⟩
  obtain⟨R,hR⟩:∃ R,grV zs=R:=⟨_,rfl⟩
  have cO:=fun v=>J3 (grV zs) v
  have cI:=fun v =>ZJ D hdb v
  rw[hF,hO,hI] at hvb
  rw[hO,hR] at cO
  rw[hF] at hs1 cF
  rw[hO] at hs2
  rw[hI] at hs3 cI
  rw[hR] at cG
  have n1:¬ 9223372036854775807<F.size+9:=by omega
  have n2:¬ 9223372036854775807<F.size+9+O.size:=by omega
  have n3:¬ 9223372036854775807<F.size+9+O.size+13:=by omega
  have n4:¬ 9223372036854775807<F.size+9+O.size+13+I.size:=by omega
  have HC1:=Hd hc1;have HRD:=Hd hrd;have H0:=Hd h0;have HV:=Hd hv;have HVB:=Hd hvb;have CF:=Hd cF;have CG:=Hd cG;have CM:=Hd cM;have CP:=Hd cP;have CO:=Hd cO;have CI:=Hd cI;have HSQ:=Hd hsq;have HD:=Hd hd
  clear hc1 hrd h0 h8 hsu hv hvb cF cG cM cP cO cI hp hD hF hO hI hR hl hsz hsq hd hdb
  go_enter Tryz.func80,Tryz.ntmps80
  go_wp2_with fail
  refine HC1.o.mono ?_
  rintro e w1 ⟨rfl,b1⟩
  have bw1:Below w.heap.size w w1:=bA.trans (b1.mono (by omega))
  have z1:=b1.size
  rw[zA] at z1
  have zw:w.heap.size≤w1.heap.size:=by omega
  have k1:w1.cell? ⟨w.heap.size,0,none⟩=some (.slice (some ⟨g,0,none⟩) nz cz):=(b1.cell (p:=⟨w.heap.size,0,none⟩) (by show w.heap.size<(w.alloc _).heap.size;omega)).trans H0.o
  have KC:Hid (∀ v,Below w1.heap.size w1 v→v.cell? ⟨w.heap.size,0,none⟩=some (.slice (some ⟨g,0,none⟩) nz cz)):=Hd (fun v hv=>(hv.cell (p:=⟨w.heap.size,0,none⟩) (by show w.heap.size<w1.heap.size;omega)).trans k1)
  have RD:Hid (∀ v,Below w1.heap.size w1 v→B≤v.heap.size∧Rds v B (some ⟨g,0,none⟩) (zs.map Value.string)):=Hd (fun v hv=>⟨by have:=hv.size;omega,HRD.o.below (bw1.trans (hv.mono zw)) hB⟩)
  have K0:Below w1.heap.size w1 w1.drew:=(Dr.refl w1).drew.below
  have k0:=KC.out _ K0
  clear b1 HC1 H0 HRD
  skip
  go_wp2_with fail
  go_region_held3 (fun w'=>w'.cell? ⟨w.heap.size,0,none⟩=some (.slice (some ⟨g,0,none⟩) nz cz)) (first|exact KC.out _ K5|exact KC.out _ K4|exact KC.out _ K3|exact KC.out _ K2|exact KC.out _ K1|exact KC.out _ K0)
   (first
    | (go_at_call 51;refine (CF.out _ (RD.out _ K0).1 (RD.out _ K0).2).mono ?_;rintro e w3 ⟨rfl,b3⟩;have K1:=K0.trans (b3.mono K0.size))
    | (go_at_call 155;refine (CG.out _ (RD.out _ K1).1 (RD.out _ K1).2).mono ?_;rintro e w4 ⟨rfl,b4⟩;have K2:=K1.trans (b4.mono K1.size))
    | (go_at_call 44;refine (CO.out _).mono ?_;rintro e w5 ⟨rfl,rfl⟩)
    | (go_at_call 157;refine (CM.out _ (RD.out _ K2).1 (RD.out _ K2).2).mono ?_;rintro e w6 ⟨gm,cm,vm,rfl,hbm,b6⟩;have K3:=K2.trans (b6.mono K2.size))
    | (go_at_call 156;refine (Zil nz (mtL zs) h4 HSQ.o gm cm _ _ hbm.gr hbm.cap.1 nlr).mono ?_;rintro e w7 ⟨rfl,b7⟩;rw[← HD.o];have K4:=K3.trans (b7.mono K3.size))
    | (go_at_call 50;refine (CI.out _ ).mono ?_;rintro e w8 ⟨rfl,b8⟩;have K5:=K4.trans (b8.mono K4.size)))
  all_goals
   have k5:=KC.out _ K5
   clear b3 b4 b6 b7 b8 hbm
   go_wp2_with fail
   refine (CP.out _ (RD.out _ K5).1 (RD.out _ K5).2).mono ?_
   rintro e w9 ⟨rfl,b9⟩
   have K6:=K5.trans (b9.mono K5.size)
   have K7:=bw1.trans (K6.mono zw)
   have HV2:=HV.o
   rw[HVB.o] at HV2
   have HV3:=Hd HV2
   clear HV HVB HV2 b9
   cases p with
   | true =>
    go_wp2_with fail
    go_ret
    exact⟨by rw[HV3.o];rfl,K7⟩
   | false =>
    go_wp2_with fail
    go_ret
    exact⟨by rw[HV3.o];rfl,K7⟩
theorem XI (zs:List ByteArray) (A:Option Addr) (nz cz B:Nat) (w:World) (hl:zs.length=nz) (hB:B≤w.heap.size) (hn:nz≤4294967296) (hsz:∀ s∈zs,s.size≤maxLen) (hrd:Rds w B A (zs.map Value.string)) (hsu:Zf zs=false) :
  Calls Tryz.prog 80 #[.agg #[.slice A nz cz]] w fun e w'=>e=.returned (.string (slV zs))∧Below w.heap.size w w':=by
 have bA:Below w.heap.size w (w.alloc (.cells #[.slice A nz cz] 26)):=(Below.refl _ _).alloc nlr _
 have zA:(w.alloc (.cells #[.slice A nz cz] 26)).heap.size=w.heap.size+1:=by simp
 have hc1:=ZB zs A cz B _ (by omega) (by omega) hsz (hrd.below bA hB)
 rw[hl,hsu] at hc1
 have hv:slV zs={ data:=#[110,111,110,101] }:=by rw[slV,if_neg (by rw[hsu];decide)]
 have HC1:=Hd hc1;have HV:=Hd hv
 clear hc1 hrd hsu hv hsz hl
 go_enter Tryz.func80,Tryz.ntmps80
 go_wp2_with fail
 refine HC1.o.mono ?_
 rintro e w1 ⟨rfl,b1⟩
 go_wp2_with fail
 go_ret
 exact⟨by rw[HV.o];rfl,bA.trans (b1.mono (by omega))⟩
theorem QH (zs:List ByteArray) (A:Option Addr) (nz cz B:Nat) (w:World) (hl:zs.length=nz) (hn:nz≤4294967296) (hsz:∀ s∈zs,s.size≤maxLen) (ho:Own w B 9 (.slice A nz cz) (zs.map Value.string))  :
  Calls Tryz.prog 80 #[.agg #[.slice A nz cz]] w fun e w'=>e=.returned (.string (slV zs))∧Below w.heap.size w w':=by
 rcases Nat.eq_zero_or_pos nz with h0|h0
 ·have hz:zs=[]:=List.eq_nil_of_length_eq_zero (by omega)
  exact XI zs A nz cz _ w hl nlr hn hsz ho.reads (by subst hz;rfl)
 ·obtain⟨g,rfl⟩:=Vz ho h0
  obtain⟨A',c',hv,hc,_,_⟩:=ho.shape
  injection hv with e1 e2 e3
  have:=congrArg List.length (rfl:zs.map Value.string=zs.map Value.string)
  exact W0 zs g nz cz _ w hl (by rw[e3,← hl];simpa using hc) nlr hn hsz ho.reads
end Go.Proofs.YtocbgldilgemoaaGreatDoor
