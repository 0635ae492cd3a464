/- MakeSubst and MakeGold: a substitution, a golden number of small parts. No condition but the bounds. -/
import Derived.Test.YtocbgldilgemoaaGreatDoorM3
import Derived.Test.YtocbgldilgemoaaGreatDoorDtm
import Derived.Deep.RegionHeldLaw
namespace Go.Proofs.YtocbgldilgemoaaGreatDoor
set_option maxHeartbeats 20000000
set_option maxRecDepth 4000
open Go.RowKit
set_option linter.unusedVariables false
def ZiU:List ByteArray:=[{ data:=#[102,105,98,111,110,97,99,99,105] },{ data:=#[116,104,117,101] },{ data:=#[100,111,117,98,108,105,110,103] },{ data:=#[116,114,105,98,111,110,97,99,99,105] },{ data:=#[115,105,108,118,101,114] },{ data:=#[115,113,117,97,114,101,102,114,101,101] },{ data:=#[114,117,100,105,110] }]
theorem ZiV:∀ s∈ZiU,Zf (psL (nmT s))=true:=by decide +kernel
theorem ZiW {n:Nat} {l:List UInt8} (hn:n≤4) (h:Vg n l) (h1:1≤l.length) (h2:l.length≤8):Qa n (Zd l)=true:=by
 rw[Qa,Zh,Zy,decide_eq_true (And.intro h1 h2),Zii hn h (by omega),Bool.true_and,Bool.true_and,Qr,List.all_eq_true]
 intro d hd
 have:=h d hd
 simp;omega
theorem Own.gr {w w':World} {B p:Nat} {E:TypeId} {v:Value} {xs:List Value} (h:Own w B E v xs) (hg:w.grownBy w' (some p)) (hp:p<B):Own w' B E v xs:=by
 refine World.ownsRow.kept h hg ?_
 cases hv:v.ownBlock with
 | none=>exact .inl rfl
 | some q =>
  right;intro he
  have h1:=(World.ownsRow.lt h q hv).1
  have:q=p:=by simpa using he
  omega
theorem ZfX {w w':World} {B q:Nat} {E:TypeId} {v:Value} {xs:List Value} (h:Own w B E v xs) (hg:w.grownBy w' v.ownBlock) (hq:q<B) (hs:q<w.heap.size):w'.heap[q]? = w.heap[q]?:=by
 refine hg.block q hs fun e=>?_
 cases hv:v.ownBlock with
 | none=>rw[hv] at e;cases e
 | some r =>
  have h1:=(World.ownsRow.lt h r hv).1
  rw[hv] at e
  injection e with e
  omega
theorem ZlC (w:World) (v:Value) (E:TypeId):∀ (j:Nat) (u:Value),[v][j]? = some u→(w.alloc (.cells #[v] E)).cell? ((⟨w.heap.size,0,none⟩:Addr).add j)=some u:=fun j u hu=>by
 match j,hu with
 | 0,hu=>simp at hu;subst hu;simp[Addr.add]
theorem WA (p B g k c2:Nat) (A:Option Addr) (n c:Nat) (l:List UInt8) (xs:List ByteArray) (w:World) (hk:xs.length=k) (h0:1≤k) (hm:k≤256) (hl:l.length=n) (hn:n≤1048576) (hc:CurAt w p A n c) (hrd:Rds w B A (byV l)) (hB:B≤p)
  (hx:∀ w',w.grownBy w' (some p)→∀ j s,xs[j]? = some s→w'.cell? ⟨g,j,none⟩=some (.string s)) :
  Calls Tryz.prog 53 #[.pointer (some ⟨p,0,none⟩),.slice (some ⟨g,0,none⟩) k c2] w fun e w'=>∃ s,s∈xs∧e=.returned (.string s)∧CurAt w' p A n c∧Below p w w'∧w.grownBy w' (some p):=by
 have h1:=Qj p B A n c k l w h0 hm hl hn hc hrd hB
 have H1:=Hd h1;have HX:=Hd hx
 clear h1 hx hc hrd hl
 go_enter Tryz.func53,Tryz.ntmps53
 go_wp2_with fail
 refine H1.o.mono ?_
 rintro e w1 ⟨j,hj,rfl,c1,b1,g1⟩
 obtain⟨s,hs⟩:=Zc (l:=xs) (k:=j) (by omega)
 have hcell:=HX.o w1 g1 j s hs
 have hmem:=List.mem_of_getElem? hs
 have C1:=Hd c1;have HM:=Hd hmem
 clear hs c1 hmem hk
 go_wp2_with fail
 go_ret
 exact⟨s,HM.o,rfl,C1.out,b1,g1⟩
theorem ZdK (p B:Nat) (A:Option Addr) (n c:Nat) (l:List UInt8) (w:World) (hl:l.length=n) (hn:n≤1048576) (hc:CurAt w p A n c) (hrd:Rds w B A (byV l)) (hB:B≤p) :
  Calls Tryz.prog 52 #[.pointer (some ⟨p,0,none⟩)] w fun e w'=>∃ (zs:List ByteArray) (A':Option Addr) (k c':Nat),zs.length=k∧Zf zs=true∧e=.returned (.agg #[.slice A' k c'])∧Own w' w.heap.size 9 (.slice A' k c') (zs.map Value.string)∧Below p w w'∧CurAt w' p A n c∧w.grownBy w' (some p):=by
 have hp:p<w.heap.size:=hc.1
 have bA:Below w.heap.size w (w.alloc (.cells #[.slice none 0 0] 26)):=(Below.refl _ _).alloc nlr _
 have h0:=heap_alloc_new w (.cells #[.slice none 0 0] 26)
 have z0:(w.alloc (.cells #[.slice none 0 0] 26)).heap.size=w.heap.size+1:=by simp
 have hon:=fun v hcv hrv=>Xc p B A n c 2 l v (by decide) (by decide) hl hn hcv hrv hB
 have hst:=fun g c2 v hcv hrv hx=>WA p B g 7 c2 A n c l ZiU v rfl (by decide) (by decide) hl hn hcv hrv hB hx
 have hbl:=fun v m h1 h2 hcv hrv=>Qj p B A n c m l v h1 h2 hl hn hcv hrv hB
 have hwd:∀ (v:World) (y k:Nat),y≤900→1≤k→k≤4→CurAt v p A n c→Rds v B A (byV l)→Calls Tryz.prog 111 #[.pointer (some ⟨p,0,none⟩),.int .i64 (IntKind.i64.wrap (1+(y:Int))),.int .i64 k] v fun e w'=>∃ x:List UInt8,x.length=1+y∧Vg k x∧e=.returned (.string (Zd x))∧CurAt w' p A n c∧Below p v w'∧v.grownBy w' (some p):=fun v y k h1 h2 h3 hcv hrv=>by
  have h:=Xb p B A n c (1+y) k l v (by omega) h2 h3 hl hn hcv hrv hB
  rw[show IntKind.i64.wrap (1+(y:Int))=((1+y:Nat):Int) from by rw[IntWalk.i64_in _ (by omega)];omega]
  exact h
 have HON:=Hd hon;have HST:=Hd hst;have HBL:=Hd hbl;have HWD:=Hd hwd;have HC:=Hd (hc.below bA);have HR:=Hd hrd;have H0:=Hd h0;have BA:=Hd bA;have Z0:=Hd z0
 have HS7:=Hd ZiV
 clear hon hst hbl hwd hc hrd h0 bA hl z0
 go_enter Tryz.func52,Tryz.ntmps52
 go_wp2_with fail
 refine (HON.o _ HC.o (HR.o.below BA.out (by omega))).mono ?_
 rintro e w1 ⟨b,rfl,c1,b1,g1⟩
 have bw1:Below p w w1:=(BA.out.mono (Nat.le_of_lt hp)).trans b1
 have q1:=(g1.block w.heap.size (by rw[Z0.out];omega) (fun e=>by injection e with e;omega)).trans H0.o
 have z1:=g1.size
 rw[Z0.out] at z1
 have gw1:=(ZZ (ZaK (Dr.refl w) (some p)) BA.out).trans g1
 have C1:=Hd c1;have Q1:=Hd q1;have GW1:=Hd gw1
 clear c1 b1 g1 q1 gw1
 cases b with
 | true =>
  go_wp2_with fail
  have bB:Below w1.heap.size w1 (w1.alloc (.cells #[.string { data:=#[102,105,98,111,110,97,99,99,105] },.string { data:=#[116,104,117,101] },.string { data:=#[100,111,117,98,108,105,110,103] },.string { data:=#[116,114,105,98,111,110,97,99,99,105] },.string { data:=#[115,105,108,118,101,114] },.string { data:=#[115,113,117,97,114,101,102,114,101,101] },.string { data:=#[114,117,100,105,110] }] 9)):=(Below.refl _ _).alloc nlr _
  have hB1:=heap_alloc_new w1 (.cells #[.string { data:=#[102,105,98,111,110,97,99,99,105] },.string { data:=#[116,104,117,101] },.string { data:=#[100,111,117,98,108,105,110,103] },.string { data:=#[116,114,105,98,111,110,97,99,99,105] },.string { data:=#[115,105,108,118,101,114] },.string { data:=#[115,113,117,97,114,101,102,114,101,101] },.string { data:=#[114,117,100,105,110] }] 9)
  have zB:(w1.alloc (.cells #[.string { data:=#[102,105,98,111,110,97,99,99,105] },.string { data:=#[116,104,117,101] },.string { data:=#[100,111,117,98,108,105,110,103] },.string { data:=#[116,114,105,98,111,110,97,99,99,105] },.string { data:=#[115,105,108,118,101,114] },.string { data:=#[115,113,117,97,114,101,102,114,101,101] },.string { data:=#[114,117,100,105,110] }] 9)).heap.size=w1.heap.size+1:=by simp
  generalize w1.alloc (.cells #[.string { data:=#[102,105,98,111,110,97,99,99,105] },.string { data:=#[116,104,117,101] },.string { data:=#[100,111,117,98,108,105,110,103] },.string { data:=#[116,114,105,98,111,110,97,99,99,105] },.string { data:=#[115,105,108,118,101,114] },.string { data:=#[115,113,117,97,114,101,102,114,101,101] },.string { data:=#[114,117,100,105,110] }] 9)=w2 at bB hB1 zB ⊢
  refine (HST.o w1.heap.size 7 w2 (C1.out.below bB) ((HR.o.below (bw1.mono hB) nlr).below bB (by omega)) ?_).mono ?_
  ·intro w' hg j s hs
   have hq:=(hg.block w1.heap.size (by omega) (fun e=>by injection e with e;omega)).trans hB1
   match j,hs with
   | 0,hs=>injection hs with hs;rw[← hs];exact cell_of_row _ _ 0 _ _ (0,0) hq
   | 1,hs=>injection hs with hs;rw[← hs];exact cell_of_row _ _ 1 _ _ (0,0) hq
   | 2,hs=>injection hs with hs;rw[← hs];exact cell_of_row _ _ 2 _ _ (0,0) hq
   | 3,hs=>injection hs with hs;rw[← hs];exact cell_of_row _ _ 3 _ _ (0,0) hq
   | 4,hs=>injection hs with hs;rw[← hs];exact cell_of_row _ _ 4 _ _ (0,0) hq
   | 5,hs=>injection hs with hs;rw[← hs];exact cell_of_row _ _ 5 _ _ (0,0) hq
   | 6,hs=>injection hs with hs;rw[← hs];exact cell_of_row _ _ 6 _ _ (0,0) hq
   | j+7,hs=>rw[List.getElem?_eq_none (by show 7≤_;omega)] at hs;cases hs
  ·rintro e w3 ⟨s,hsm,rfl,c3,b3,g3⟩
   have hsu:=HS7.o s hsm
   obtain⟨zs,hzs⟩:∃ zs,psL (nmT s)=zs:=⟨_,rfl⟩
   have hcl:=VU s w3
   obtain⟨ok,hok⟩:∃ ok,(psV (nmT s)).isSome=ok:=⟨_,rfl⟩
   rw[hzs,hok] at hcl
   rw[hzs] at hsu
   have q3:=(g3.block w.heap.size (by omega) (fun e=>by injection e with e;omega)).trans ((bB.block w.heap.size (by omega)).trans Q1.out)
   have z3:=g3.size
   have bw3:Below p w w3:=bw1.trans ((bB.mono (by omega)).trans b3)
   have gw3:=(ZZ GW1.out (bB.mono (by omega))).trans g3
   have HCL:=Hd hcl;have HSU:=Hd hsu;have Q3:=Hd q3;have GW3:=Hd gw3;have C3:=Hd c3
   clear hcl hsu q3 g3 c3 b3 bB hB1 hzs hok hsm bw1 C1 Q1 GW1 gw3
   go_wp2_with fail
   refine HCL.o.mono ?_
   rintro e w4 ⟨A',c',rfl,o4,b4⟩
   obtain⟨k,hk⟩:∃ k,zs.length=k:=⟨_,rfl⟩
   rw[hk] at o4 ⊢
   have q4:=(b4.block w.heap.size (by omega)).trans Q3.out
   have z4:=b4.size
   have bC:Below w4.heap.size w4 (w4.alloc (.cells #[.slice A' k c'] 26)):=(Below.refl _ _).alloc nlr _
   have q5:=(bC.block w.heap.size (by omega)).trans q4
   have c0:=cell_of_row _ _ 0 _ _ (0,0) q5
   have f0:=frozen_of_row _ _ 0 _ _ q5
   have bw5:Below p w (w4.alloc (.cells #[.slice A' k c'] 26)):=(bw3.trans (b4.mono (by omega))).trans (bC.mono (by omega))
   have o5:=o4.below bC
   have gw5:=ZZ (ZZ GW3.out (b4.mono (by omega))) (bC.mono (by omega))
   have c5:=(C3.out.below b4).below bC
   have Q5:=Hd q5;have O5:=Hd o5;have HK:=Hd hk;have GW5:=Hd gw5;have C5:=Hd c5
   clear q4 q5 o4 o5 bC b4 hk gw5 c5
   go_wp2_with fail
   have q6:=Zg (k:=0) Q5.out (.slice A' k c')
   refine bodyPost_ret (v:=.agg #[.slice A' k c']) (results_cell_row rfl _ _ w.heap.size 26 _ (0,0) _ rfl q6 Tryz.underlying26 rfl (by kernel_rfl)) rfl ⟨zs,A',k,c',HK.o,HSU.o,rfl,?_,?_,?_,?_⟩
   ·exact (O5.out.far_set (g:=w.heap.size) (k:=0) (by omega) (.slice A' k c')).lower (by omega)
   ·exact bw5.setCell (Nat.le_of_lt hp) _
   ·exact C5.out.low (B:=w.heap.size) hp ((Below.refl _ _).setCell (p:=⟨w.heap.size,0,none⟩) nlr _)
   ·exact ZZ GW5.out ((Below.refl _ _).setCell (p:=⟨w.heap.size,0,none⟩) nlr _)
 | false =>
  go_wp2_with fail
  refine (HBL.o _ 3 (by decide) (by decide) C1.out (HR.o.below (bw1.mono hB) nlr)).mono ?_
  rintro e w2 ⟨x,hx,rfl,c2,b2,g2⟩
  have q2:=(g2.block w.heap.size (by omega) (fun e=>by injection e with e;omega)).trans Q1.out
  have z2:=g2.size
  have bw2:=bw1.trans b2
  have bC:Below w2.heap.size w2 (w2.alloc (.cells #[.slice none 0 0] 26)):=(Below.refl _ _).alloc nlr _
  have r2:=heap_alloc_new w2 (.cells #[.slice none 0 0] 26)
  have q3:=(bC.block w.heap.size (by omega)).trans q2
  have c3:=c2.below bC
  have bw3:Below p w (w2.alloc (.cells #[.slice none 0 0] 26)):=bw2.trans (bC.mono (by omega))
  have zC:(w2.alloc (.cells #[.slice none 0 0] 26)).heap.size=w2.heap.size+1:=by simp
  have e1:1+(x:Int)=((1+x:Nat):Int):=by omega
  obtain⟨m,hm⟩:∃ m,1+x=m:=⟨_,rfl⟩
  rw[hm] at e1
  have hm1:1≤m:=by omega
  have hm3:m≤3:=by omega
  have gw3:=ZZ (GW1.out.trans g2) (bC.mono (by omega))
  have Q3:=Hd q3;have R2:=Hd r2;have C3:=Hd c3;have BW3:=Hd bw3;have ZC:=Hd zC;have GW3:=Hd gw3
  clear gw3 GW1 c2 b2 g2 bC r2 q2 q3 c3 bw3 bw2 bw1 C1 Q1 hx hm zC
  go_wp2_with fail
  try rw[e1]
  go_loopw [7,22] (fun i _ wr=>∃ (k c':Nat) (A':Option Addr) (zs:List ByteArray),k≤m∧i=.int .i64 k∧zs.length=k∧(∀ z∈zs,Qa m z=true)∧wr.heap[w2.heap.size]? = some (.cells #[.slice A' k c'] 26 (0,0))∧Own wr (w2.heap.size+1) 9 (.slice A' k c') (zs.map Value.string)∧wr.heap[w.heap.size]? = some (.cells #[.slice none 0 0] 26 (0,0))∧CurAt wr p A n c∧Below p w wr∧w2.heap.size+1≤wr.heap.size∧w.grownBy wr (some p)) (fun i _ _=>m - (intOf i).toNat)
  case atStart=>exact⟨0,0,none,[],by omega,rfl,rfl,(fun z hz=>by cases hz),R2.out,Own.nil,Q3.out,C3.out,BW3.out,(by rw[ZC.out];exact Nat.le_refl _),GW3.out⟩
  case round =>
   clear Q3 R2 C3 BW3 GW3
   obtain⟨k,c',A',zs,hk,rfl,hzl,hzi,hbx,how,hq,hcu,hbe,hsz,hge⟩:=hrel
   have HZL:=Hd hzl;have HZI:=Hd hzi;have HBX:=Hd hbx;have HOW:=Hd how;have HQ:=Hd hq;have HCU:=Hd hcu;have HBE:=Hd hbe;have HGE:=Hd hge
   clear hzl hzi hbx how hq hcu hbe hge
   have hcb:wr.cell? ⟨w2.heap.size,0,none⟩=some (.slice A' k c'):=cell_of_row _ _ 0 _ _ (0,0) HBX.o
   have hfb:wr.frozen? ⟨w2.heap.size,0,none⟩=false:=frozen_of_row _ _ 0 _ _ HBX.o
   by_cases hlt:k<m
   ·have hcu0:=HCU.o.dr (Dr.refl wr).drew
    have hr0:=HR.o.below ((HBE.o.drew).mono hB) nlr
    have how0:=HOW.o.dr (Dr.refl wr).drew
    have hbx0:wr.drew.heap[w2.heap.size]? = some (.cells #[.slice A' k c'] 26 (0,0)):=HBX.o
    have hq0:wr.drew.heap[w.heap.size]? = some (.cells #[.slice none 0 0] 26 (0,0)):=HQ.o
    have hbe0:=HBE.o.drew
    have hge0:=HGE.o.trans (ZaK (Dr.refl wr).drew (some p))
    have hz0:wr.drew.heap.size=wr.heap.size:=by simp
    have CU0:=Hd hcu0;have R0:=Hd hr0;have OW0:=Hd how0;have BX0:=Hd hbx0;have Q0:=Hd hq0;have BE0:=Hd hbe0;have GE0:=Hd hge0
    clear hcu0 hr0 how0 hbx0 hq0 hbe0 hge0
    have HKB:Hid (∀ v:World,v.heap[w2.heap.size]? = some (.cells #[.slice A' k c'] 26 (0,0))→v.cell? ⟨w2.heap.size,0,none⟩=some (.slice A' k c')):=Hd fun v h=>cell_of_row _ _ 0 _ _ (0,0) h
    have hcb0:=HKB.o _ BX0.out
    have hzm:(zs.map Value.string).length=k:=by rw[List.length_map,HZL.o]
    have HZM:=Hd hzm;clear hzm
    have hk1:k+1<4294967296:=by omega
    go_wp2_with fail
    go_region_law
     (first
      | (refine Qh rfl (.tmp 28) (.tmp 35) 23 rfl _ 16 Tryz.underlying23 Zn rfl (w2.heap.size+1) k HZM.o (by rfl) (((OW0.out.gr g3 (by omega)).gr g4 (by omega)).below ((Below.refl _ _).alloc nlr _)) ⟨w4.heap.size,0,none⟩ 1 1 [.string (Zd x)] (by rfl) rfl (ZlC w4 _ _) (fun u hu=>by simp at hu;subst hu;rfl) (k+1) rfl hk1 (by decide) (by have:=g3.size;have:=g4.size;simp;omega) ?_;intro A5 cc w5 o5 g5 a5 n5;have Q5:=Hd ((ZfX (((OW0.out.gr g3 (by omega)).gr g4 (by omega)).below ((Below.refl _ _).alloc nlr _)) g5 (q:=w2.heap.size) (by omega) (by have:=g3.size;have:=g4.size;simp;omega)).trans ((((Below.refl w4.heap.size w4).alloc nlr (.cells #[.string (Zd x)] 9)).block w2.heap.size (by have:=g3.size;have:=g4.size;omega)).trans BX3.out));have f5:=frozen_of_row _ _ 0 _ _ Q5.out;have k5:=cell_of_row _ _ 0 _ _ (0,0) Q5.out)
      | (go_simp;go_wp2_with (first|(go_at_call 21;refine (HBL.o _ 4 (by decide) (by decide) CU0.out R0.out).mono ?_;rintro e w3 ⟨y,hy,rfl,c3,b3,g3⟩;have BX1:=Hd ((g3.block w2.heap.size (by omega) (fun e=>by injection e with e;omega)).trans BX0.out);have k3:=HKB.o _ BX1.out)|(go_at_call 111;refine (HWD.o _ y m (by omega) hm1 (by omega) c3 (HR.o.below ((BE0.out.trans b3).mono hB) nlr)).mono ?_;rintro e w4 ⟨x,hxl,hxt,rfl,c4,b4,g4⟩;have BX3:=Hd ((g4.block w2.heap.size (by have:=g3.size;omega) (fun e=>by injection e with e;omega)).trans BX1.out);have k4:=HKB.o _ BX3.out;have k4a:(w4.alloc (.cells #[.string (Zd x)] 9)).cell? ⟨w2.heap.size,0,none⟩=some (.slice A' k c'):=(((Below.refl w4.heap.size w4).alloc nlr _).cell (p:=⟨w2.heap.size,0,none⟩) (by show w2.heap.size<w4.heap.size;have:=g3.size;have:=g4.size;omega)).trans k4))))
    all_goals
     have s3:=g3.size
     have s4:=g4.size
     have hOA:=((OW0.out.gr g3 (by omega)).gr g4 (by omega)).below ((Below.refl w4.heap.size w4).alloc nlr (.cells #[.string (Zd x)] 9))
     have bAl:=(Below.refl w4.heap.size w4).alloc nlr (.cells #[.string (Zd x)] 9)
     have zAl:(w4.alloc (.cells #[.string (Zd x)] 9)).heap.size=w4.heap.size+1:=by simp
     have s5:=g5.size
     rw[zAl] at s5
     have hq5:=(ZfX hOA g5 (q:=w.heap.size) (by omega) (by omega)).trans ((bAl.block w.heap.size (by omega)).trans ((g4.block w.heap.size (by omega) (fun e=>by injection e with e;omega)).trans ((g3.block w.heap.size (by omega) (fun e=>by injection e with e;omega)).trans Q0.out)))
     have b45:Below (w2.heap.size+1) w4 w5:=Qy (bAl.mono (by omega)) (by omega) hOA g5
     have c5:=c4.low (by omega) b45
     have be5:Below p w w5:=((BE0.out.trans b3).trans b4).trans (b45.mono (by omega))
     have ge5:=ZZ ((GE0.out.trans g3).trans g4) (b45.mono (show w.heap.size≤w2.heap.size+1 by omega))
     rw[show zs.map Value.string++[Value.string (Zd x)]=(zs++[Zd x]).map Value.string by rw[List.map_append];rfl] at o5
     have hzl2:(zs++[Zd x]).length=k+1:=by rw[List.length_append,HZL.o];rfl
     have hzi2:∀ z∈zs++[Zd x],Qa m z=true:=fun z hz=>by
      rcases List.mem_append.1 hz with h|h
      ·exact HZI.o z h
      ·rw[List.mem_singleton.1 h];exact ZiW (by omega) hxt (by omega) (by omega)
     have HB5:=Hd (Zg (k:=0) Q5.out (.slice A5 (k+1) cc))
     have HQ5:=Hd (Q9 (g':=w2.heap.size) (k:=0) hq5 (by omega) (.slice A5 (k+1) cc))
     have HO5:=Hd (o5.far_set (g:=w2.heap.size) (k:=0) (by omega) (.slice A5 (k+1) cc))
     have HGG:=Hd (ZZ ge5 ((Below.refl w.heap.size w5).setCell (show w.heap.size≤w2.heap.size by omega) (p:=⟨w2.heap.size,0,none⟩) (.slice A5 (k+1) cc)))
     have HBB:=Hd (be5.setCell (show p≤w2.heap.size by omega) (p:=⟨w2.heap.size,0,none⟩) (.slice A5 (k+1) cc))
     have HC5:=Hd (c5.low (B:=p+1) (by omega) ((Below.refl (p+1) w5).setCell (show p+1≤w2.heap.size by omega) (p:=⟨w2.heap.size,0,none⟩) (.slice A5 (k+1) cc)))
     have HL2:=Hd hzl2;have HI2:=Hd hzi2
     clear hOA bAl hq5 b45 c5 be5 ge5 o5 hzl2 hzi2 g5 a5 n5 f5 k5 k4 k4a k3 c4 b4 g4 c3 b3 g3
     go_wp2_with fail
     go_roundw
     case rel=>exact⟨k+1,cc,A5,zs++[Zd x],by omega,by go_num,HL2.o,HI2.o,HB5.o,HO5.o,HQ5.o,HC5.o,HBB.o,(by rw[World.size_setCell];omega),HGG.o⟩
     case measure=>simp[intOf];omega
   ·have hkm:k=m:=by omega
    subst hkm
    have hq0:=cell_of_row _ _ 0 _ _ (0,0) HQ.o
    have fq0:=frozen_of_row _ _ 0 _ _ HQ.o
    go_wp2_with fail
    have q6:=Zg (k:=0) HQ.o (.slice A' k c')
    refine bodyPost_ret (v:=.agg #[.slice A' k c']) (results_cell_row rfl _ _ w.heap.size 26 _ (0,0) _ rfl q6 Tryz.underlying26 rfl (by kernel_rfl)) rfl ⟨zs,A',k,c',HZL.o,?_,rfl,?_,?_,?_,?_⟩
    ·rw[Zf,Bool.and_eq_true,List.all_eq_true,decide_eq_true_eq,HZL.o]
     exact⟨HZI.o,by omega⟩
    ·exact (HOW.o.far_set (g:=w.heap.size) (k:=0) (by omega) (.slice A' k c')).lower (by omega)
    ·exact HBE.o.setCell (Nat.le_of_lt hp) _
    ·exact HCU.o.low (B:=w.heap.size) hp ((Below.refl _ _).setCell (p:=⟨w.heap.size,0,none⟩) nlr _)
    ·exact ZZ HGE.o ((Below.refl _ _).setCell (p:=⟨w.heap.size,0,none⟩) nlr _)
end Go.Proofs.YtocbgldilgemoaaGreatDoor
