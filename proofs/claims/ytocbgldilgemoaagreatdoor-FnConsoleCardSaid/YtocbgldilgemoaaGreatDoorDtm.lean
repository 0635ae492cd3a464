/- Determinants, both, at square tables of small numbers. No condition but the bounds. -/
import Derived.Test.YtocbgldilgemoaaGreatDoorM12
import Derived.Deep.DrawnRows
namespace Go.Proofs.YtocbgldilgemoaaGreatDoor
set_option maxRecDepth 4000
set_option maxHeartbeats 1000000
open Go.RowKit
set_option linter.unusedVariables false
theorem ZfC (r:List Int) (k:Nat):Z9 (Qv k r)=Z9 (r.take k)++Z9 (r.drop (k+1)):=Zdu _ _
theorem Zc4 {rs:List (List Int)} {j k:Nat} {y:List Int} (h:rs[j]? = some y):(rs.take (j+1)).map (Qv k)=(rs.take j).map (Qv k)++[Qv k y]:=by
 rw[List.take_add_one,h,List.map_append];rfl
theorem We {w:World} {B go:Nat} {E:TypeId} {v:Value} {r:List Int} (h:Own w B E v (Z9 r)) (hne:v≠.slice none 0 0) (hg:go<B):RowV w w.heap.size go v r:=by
 rcases h.2 with ⟨e,_⟩|⟨q,cap,cur,rfl,_⟩
 ·exact absurd e hne
 ·have h2:=RowV.ofOwn (go:=go) (n:=(Z9 r).length) h (Qt r).symm hg
  exact h2
theorem Qy {w w1 w2:World} {B:Nat} {E:TypeId} {v:Value} {xs:List Value} (hb:Below B w w1) (hB:B≤w1.heap.size) (ho:Own w1 B E v xs) (hg:w1.grownBy w2 v.ownBlock):Below B w w2 :=
 hb.grown hg hB (fun k hk=>(World.ownsRow.lt ho k hk).1)
theorem V7 {w w1 w2:World} {B:Nat} {E:TypeId} {v:Value} {xs:List Value} (hb:Below w.heap.size w w1) (hs:w.heap.size≤B) (hB:B≤w1.heap.size) (ho:Own w1 B E v xs) (hg:w1.grownBy w2 v.ownBlock):Below w.heap.size w w2 :=
 hb.grown hg (Nat.le_trans hs hB) (fun k hk=>Nat.le_trans hs (World.ownsRow.lt ho k hk).1)
theorem ZgK {w w1 w2 w3:World} {E1 E2 E3:TypeId} {v1 v2 u:Value} {xs ys:List Value} (hb:Below w.heap.size w w1) (hB:w.heap.size≤w1.heap.size) (o1:Own w1 w.heap.size E1 v1 xs) (g1:w1.grownBy w2 v1.ownBlock) (o2:Own w2 w.heap.size E2 v2 ys) (g2:w2.grownBy w3 v2.ownBlock):Below w.heap.size w (w3.alloc (.cells #[u] E3)) :=
 (Qy (Qy hb hB o1 g1) (Nat.le_trans hB g1.size) o2 g2).alloc (Nat.le_trans hB (Nat.le_trans g1.size g2.size)) _
theorem ZfD {wo wr w1 w2 w3:World} {r1 r2:Option Nat} {o:Obj} (h:wo.heap.size≤wr.heap.size) (hB:wr.heap.size≤w1.heap.size) (g1:w1.grownBy w2 r1) (g2:w2.grownBy w3 r2):wo.heap.size≤(w3.alloc o).heap.size:=by
 have:=g1.size;have:=g2.size;simp;omega
theorem Zc5 (w:World) (v:Value) (E:TypeId):∀ (j:Nat) (u:Value),[v][j]? = some u→(w.alloc (.cells #[v] E)).cell? ((⟨w.heap.size,0,none⟩:Addr).add j)=some u:=fun j u hu=>by
 match j,hu with
 | 0,hu=>simp at hu;subst hu;simp[Addr.add]
theorem Zij {v:Value} (h:v.oneCell'=true):∀ u∈[v],u.oneCell'=true:=fun u hu=>by simp at hu;subst hu;exact h
theorem ZfE {w:World} {q k N cy:Nat} {y:List Int} (hl:y.length=N) (hk:k<N) (hN:N≤cy) (hc:∀ (j:Nat) (x:Int),y[j]? = some x→w.cell? ⟨q,j,none⟩=some (.int .i64 x)) :
  ∃ ad:Addr,(if cy=k+1 then some (⟨q,0,none⟩:Addr) else some ⟨q,k+1,none⟩)=some ad∧ad.block=q∧∀ (j:Nat) (u:Value),(Z9 (y.drop (k+1)))[j]? = some u→w.cell? (ad.add j)=some u:=by
 by_cases h:cy=k+1
 ·refine⟨⟨q,0,none⟩,by rw[if_pos h],rfl,fun j u hu=>?_⟩
  have:=(List.getElem?_eq_some_iff.1 hu).1
  rw[Qt,List.length_drop] at this;omega
 ·refine⟨⟨q,k+1,none⟩,by rw[if_neg h],rfl,fun j u hu=>?_⟩
  unfold Z9 at hu
  rw[List.getElem?_map] at hu
  obtain⟨x,hx,rfl⟩:=Option.map_eq_some_iff.1 hu
  rw[List.getElem?_drop] at hx
  have:=hc (k+1+j) x hx
  rw[← this,show (⟨q,k+1,none⟩:Addr).add j=⟨q,k+1+j,none⟩ from by unfold Addr.add;split<;>simp_all]
theorem ZfF {w:World} {q k:Nat} {y:List Int} (hc:∀ (j:Nat) (x:Int),y[j]? = some x→w.cell? ⟨q,j,none⟩=some (.int .i64 x)) :
  ∀ (j:Nat) (u:Value),(Z9 (y.take k))[j]? = some u→w.cell? ((⟨q,0,none⟩:Addr).add j)=some u:=fun j u hu=>by
 unfold Z9 at hu
 rw[List.getElem?_map] at hu
 obtain⟨x,hx,rfl⟩:=Option.map_eq_some_iff.1 hu
 have hxy:y[j]? = some x:=by
  rw[List.getElem?_take] at hx
  split at hx
  ·exact hx
  ·cases hx
 have:=hc j x hxy
 rw[← this,show (⟨q,0,none⟩:Addr).add j=⟨q,j,none⟩ from by unfold Addr.add;split<;>simp_all]
theorem Zik (n:Nat):∀ (m:List (List Int)),n≤4→sqM n m→∀ (g c B:Nat) (w:World),Gr w B g m→n≤c→B≤w.heap.size →
  Calls Tryz.prog 74 #[.slice (some ⟨g,0,none⟩) n c] w fun e w'=>e=.returned (.int .i64 (dtF n m))∧Below w.heap.size w w':=by
 induction n with
 | zero =>
  intro m h4 hsq g c B w hg hc hB
  go_enter Tryz.func74,Tryz.ntmps74
  go_wp2_with fail
  go_ret
  exact⟨rfl,Below.refl _ _⟩
 | succ n ih =>
  intro m h4 hsq g c B w hg hc hB
  match m,hsq,hg with
  | [],hsq,hg=>exact absurd hsq.1 (by simp)
  | r :: rs,hsq,hg =>
  obtain⟨D,hD⟩:∃ D,dtF (n+1) (r :: rs)=D:=⟨_,rfl⟩
  rw[hD]
  have hD2:dtS (dtF n) rs (r.drop 0) 0 1 0=D:=hD
  have hr:=(hsq.2 r (by simp)).1
  have hrx:=(hsq.2 r (by simp)).2
  have hrl:rs.length=n:=by have:=hsq.1;simpa using this
  have hrn:∀ y∈rs,y.length=n+1:=fun y hy=>(hsq.2 y (List.mem_cons_of_mem _ hy)).1
  have hdb:∀ k,k<n+1→(dtF n (rs.map (Qv k))).natAbs≤6000000:=fun k hk=>Nat.le_trans (ZfA n _ (Vl hsq hk)) (Zih (by omega))
  have hih:=fun k (hk:k<n+1)=>ih (rs.map (Qv k)) (by omega) (Vl hsq hk)
  obtain⟨q0,c0,hcell0,hq1,hq2,hq3,hq4⟩:=hg.row (i:=0) (r:=r) rfl
  rw[hr] at hcell0 hq1
  have hgB:=hg.1
  obtain⟨N,hN⟩:∃ N,n+1=N:=⟨_,rfl⟩
  rw[hN] at hcell0 hq1 hr h4 hdb hih hc hrn ⊢
  have hN1:n+1≤N:=by omega
  have hN2:N≤n+1:=by omega
  have HD:=Hd hD2;have HR:=Hd hr;have HRX:=Hd hrx;have HRL:=Hd hrl;have HRN:=Hd hrn;have HDB:=Hd hdb;have HIH:=Hd hih;have HQ4:=Hd hq4;have HG:=Hd hg
  clear hD hD2 hr hrx hrl hrn hdb hih hq4 hsq ih hg hN
  have hN0:((N:Int)==0)=false:=beq_eq_false_iff_ne.2 (by omega)
  have hN3:(0:Int)<(N:Int):=by omega
  obtain⟨A1,hA1⟩:∃ A1:Option Addr,(if c=1 then some (⟨g,0,none⟩:Addr) else some ⟨g,1,none⟩)=A1:=⟨_,rfl⟩
  have hA2:0<n→A1=some ⟨g,1,none⟩:=fun h=>by rw[← hA1,if_neg (by omega)]
  have hN4:(1:Int)≤(N:Int):=by omega
  have HA2:=Hd hA2
  clear hA2
  go_enter Tryz.func74,Tryz.ntmps74
  go_wp2_with fail
  go_loopw [3,4,5,6,7,9,17] (fun s sg _ _ _ _ i wr=>∃ (k:Nat) (sv gv:Int),k≤N∧i=.int .i64 k∧s=.int .i64 sv∧sg=.int .i64 gv∧(gv=1∨gv=-1)∧-(k * 600000000)≤sv∧sv≤k * 600000000∧dtS (dtF n) rs (r.drop k) k gv sv=D∧Below w.heap.size w wr) (fun _ _ _ _ _ _ i _=>N - (intOf i).toNat)
  case atStart=>exact⟨0,0,1,by omega,rfl,rfl,rfl,.inl rfl,by omega,by omega,HD.o,Below.refl _ _⟩
  case round =>
   clear HD
   obtain⟨k,sv,gv,hk,rfl,rfl,rfl,hgv,hs1,hs2,hdt,hbel⟩:=hrel
   by_cases hlt:k<N
   ·obtain⟨x,hx⟩:=Zc (l:=r) (k:=k) (by rw[HR.o];exact hlt)
    have hlt2:(k:Int)<(N:Int):=by omega
    have hcx:=(hbel.cell (p:=⟨q0,k,none⟩) (by show q0<w.heap.size;omega)).trans (HQ4.o k x hx)
    rw[Zc0 hx] at hdt
    have hxb:=HRX.o x (List.mem_of_getElem? hx)
    have HDT:=Hd hdt
    clear hdt hx
    go_wp2_with fail
    obtain⟨wo,rfl⟩:∃ z:World,z=wr:=⟨_,rfl⟩
    have hz0:=hbel.size
    rw[show N - 1=n by omega]
    go_loopw [7,9,26] (fun v _ i wv=>∃ (j gm cm:Nat) (vs:List Value),j≤n∧i=.int .i64 j∧v=.slice (some ⟨gm,0,none⟩) j cm∧Bld wv wo.heap.size 83 gm j cm vs ((rs.take j).map (Qv k))∧Below wo.heap.size wo wv) (fun _ _ i _=>n - (intOf i).toNat)
    case atStart=>exact⟨0,_,0,[],by omega,rfl,rfl,Bld.empty wo nlr,(Below.refl _ _).alloc nlr _⟩
    case round =>
     obtain⟨j,gm,cm,vs,hj,rfl,rfl,hbd,hbe2⟩:=hrel
     have hz2:=hbe2.size
     by_cases hjl:j<n
     ·obtain⟨y,hy⟩:=Zc (l:=rs) (k:=j) (by rw[HRL.o];exact hjl)
      have hyl:=HRN.o y (List.mem_of_getElem? hy)
      have hA1e:=HA2.o (by omega)
      obtain⟨q,cy,hcell,hy1,hy2,hy3,hy4⟩:=HG.o.row (i:=j+1) (r:=y) (by simpa using hy)
      rw[hyl] at hcell hy1
      have hbw:Below w.heap.size w wr:=hbel.trans (hbe2.mono hz0)
      have hgB2:=HG.o.1
      have hcw:wr.cell? ⟨g,1+j,none⟩=some (.slice (some ⟨q,0,none⟩) N cy):=by
       rw[Nat.add_comm];exact (hbw.cell (p:=⟨g,j+1,none⟩) (by show g<w.heap.size;omega)).trans hcell
      have hyw:∀ W,Below w.heap.size w W→∀ (i:Nat) (x:Int),y[i]? = some x→W.cell? ⟨q,i,none⟩=some (.int .i64 x):=fun W hW i x hx=>(hW.cell (p:=⟨q,i,none⟩) (by show q<w.heap.size;omega)).trans (hy4 i x hx)
      obtain⟨ad,had,hadb,hadc⟩:=ZfE hyl hlt hy1 hy4
      have hdw:∀ W,Below w.heap.size w W→∀ (i:Nat) (u:Value),(Z9 (y.drop (k+1)))[i]? = some u→W.cell? (ad.add i)=some u:=fun W hW i u hu=>(hW.cell (p:=ad.add i) (by rw[Vx,hadb];omega)).trans (hadc i u hu)
      have hl1:(Z9 (y.take k)).length=k:=by rw[Qt,List.length_take];omega
      have hl2:(Z9 (y.drop (k+1))).length=N - (k+1):=by rw[Qt,List.length_drop];omega
      have hnx:=Zc4 (k:=k) hy
      have f1:(0:Int)≤(k:Int):=by omega
      have f2:(k:Int)≤(cy:Int):=by omega
      have f3:(0:Int)≤(k:Int)+1:=by omega
      have f4:(k:Int)+1≤(N:Int):=by omega
      have f5:IntKind.i64.wrap ((k:Int)+1)=(k:Int)+1:=IntWalk.i64_in _ (by omega)
      have hsz:N≤4:=h4
      have bw1:Below w.heap.size w (wr.alloc (.cells #[] 3)).drew:=(hbw.alloc (by omega) _).drew
      have br1:Below wr.heap.size wr (wr.alloc (.cells #[] 3)).drew:=((Below.refl _ _).alloc nlr _).drew
      have ow1:Own (wr.alloc (.cells #[] 3)).drew wr.heap.size 3 (.slice (some ⟨wr.heap.size,0,none⟩) 0 0) []:=(Own.empty nlr).dr (Dr.refl _).drew
      have hjs:(j:Int)<(n:Int):=by omega
      have hn1:k<4294967296:=by omega
      have hk0:0+k=k:=Nat.zero_add k
      have hn2:n<4294967296:=by omega
      have hkn:k+(N - (k+1))=n:=by omega
      have HL0:=Hd (show ([]++Z9 (y.take k)).length=k by rw[List.nil_append,hl1])
      have hn3:j+1<4294967296:=by omega
      have hB1:wr.heap.size≤(wr.alloc (.cells #[] 3)).drew.heap.size:=by simp
      have hzw:w.heap.size≤wr.heap.size:=Nat.le_trans hz0 hz2
      have HBD:=Hd hbd;have HYW:=Hd (hyw _ bw1);have HDW:=Hd hdw;have HL1:=Hd hl1;have HL2:=Hd hl2;have HNX:=Hd hnx;have HBW1:=Hd bw1;have HBR1:=Hd br1;have HOW1:=Hd ow1
      clear hbd hyw hdw hl1 hl2 hnx hy hcell hy4 hadc bw1 br1 ow1 hA1
      subst hA1e
      go_wp2_with fail
      go_region_held3 (fun _=>True) (trivial)
       (first
        | (refine Qh rfl (.tmp 31) (.tmp 34) 83 rfl _ 8 Tryz.underlying83 Zu rfl wr.heap.size 0 rfl (by rfl) HOW1.o ⟨q,0,none⟩ k cy (Z9 (y.take k)) (by rfl) HL1.o (ZfF HYW.o) (Yk _) k hk0 hn1 (by decide) hB1 ?_;intro A1 c1 w1 o1 g1 a1 n1)
        | (refine Qh rfl (.tmp 35) (.tmp 39) 83 rfl _ 8 Tryz.underlying83 Zu rfl wr.heap.size k HL0.o (by rfl) o1 ad (N - (k+1)) (cy - (k+1)) (Z9 (y.drop (k+1))) (by rfl) HL2.o (HDW.o _ (V7 HBW1.o hzw hB1 HOW1.o g1)) (Yk _) n hkn hn2 (by decide) (Nat.le_trans hB1 g1.size) ?_;intro A2 c2 w2 o2 g2 a2 n2)
        | (refine Qh rfl (.tmp 30) (.tmp 41) 60 rfl _ 24 Tryz.underlying60 Jn rfl wo.heap.size j HBD.o.vlen (by rfl) (Own.below HBD.o.own (ZgK HBR1.o hB1 HOW1.o g1 o1 g2)) ⟨w2.heap.size,0,none⟩ 1 1 [.slice A2 n c2] (by rfl) rfl (Zc5 w2 _ _) (Zij rfl) (j+1) rfl hn3 (by decide) (ZfD hz2 hB1 g1 g2) ?_;intro A3 c3 w3 o3 g3 a3 n3))
      all_goals
       have hrow:RowV (w2.alloc (.cells #[.slice A2 n c2] 83)) (w2.alloc (.cells #[.slice A2 n c2] 83)).heap.size gm (.slice A2 n c2) (Qv k y):=by
        have ho:=o2.below ((Below.refl w2.heap.size w2).alloc nlr (.cells #[.slice A2 n c2] 83))
        rw[List.nil_append,← ZfC] at ho
        exact We ho (fun e=>by have h1:=n2.1 e;have h2:=n1.1 h1.1;cases h2.1) (HBD.o.lt.2)
       obtain⟨g',c',he,hb'⟩:=(HBD.o.below (ZgK (u:=.slice A2 n c2) (E3:=83) HBR1.o hB1 HOW1.o g1 o1 g2)).add hrow o3 g3 a3
       rw[← HNX.o] at hb'
       have hbe4:Below wo.heap.size wo w3:=(hbe2.trans ((ZgK (u:=.slice A2 n c2) (E3:=83) HBR1.o hB1 HOW1.o g1 o1 g2).mono hz2)).grown g3 (ZfD hz2 hB1 g1 g2) (fun q hq=>by have hq2:some gm=some q:=hq;injection hq2 with e;have:=HBD.o.lt.1;omega)
       have HB4:=Hd hb'
       have HE:=Hd he
       clear hrow hb' he o1 o2 o3 g1 g2 g3 a1 a2 a3 n1 n2 n3
       rw[HE.o]
       go_wp2_with fail
       go_roundw
       case rel=>exact⟨j+1,g',c',_,by omega,by go_num,rfl,HB4.o,hbe4⟩
       case measure=>simp[intOf];omega
     ·have hje:j=n:=by omega
      subst hje
      have htk:rs.take j=rs:=List.take_of_length_le (by rw[HRL.o];exact Nat.le_refl _)
      have hbd2:=hbd
      rw[htk] at hbd2
      have hcall:=HIH.o k hlt gm cm wr.heap.size wr hbd2.gr hbd2.cap.1 nlr
      have hdb:=HDB.o k hlt
      obtain⟨y,hy⟩:∃ y,dtF j (rs.map (Qv k))=y:=⟨_,rfl⟩
      have hdt:=HDT.o
      rw[hy] at hcall hdb hdt
      have hgx:-100≤gv * x∧gv * x≤100:=by rcases hgv with e|e<;>rw[e]<;>omega
      obtain⟨gx,hgxe⟩:∃ gx,gv * x=gx:=⟨_,rfl⟩
      rw[hgxe] at hgx hdt
      have hty:=ZbC (g:=1) (x:=gx) (y:=y) (D:=6000000) (by decide) hgx hdb
      rw[Int.one_mul] at hty
      obtain⟨ty,htye⟩:∃ ty,gx * y=ty:=⟨_,rfl⟩
      rw[htye] at hty hdt
      have ht1:-600000000≤ty:=by omega
      have ht2:ty≤600000000:=by omega
      have hgv2:-gv=1∨-gv=-1:=by omega
      have hg1:-1≤gv:=by omega
      have hg2:gv≤1:=by omega
      have hx1:=hgx.1
      have hx2:=hgx.2
      have HC:=Hd hcall;have HDT2:=Hd hdt;have HGV:=Hd hgv2
      clear hcall hdt hy hdb hty htk hbd hbd2 hgv hgv2 hgx HDT
      go_wp2_with fail
      refine HC.o.mono ?_
      rintro e w5 ⟨rfl,b5⟩
      have hbe5:=hbel.trans ((hbe2.mono hz0).trans (b5.mono (Nat.le_trans hz0 hz2)))
      clear b5 HC
      go_wp2_with fail
      go_roundw
      case rel=>exact⟨k+1,sv+ty,-gv,by omega,by go_num,by first|rfl|go_num,by first|rfl|go_num,HGV.o,by omega,by omega,HDT2.o,hbe5⟩
      case measure=>simp[intOf];omega
   ·have hke:k=N:=by omega
    subst hke
    rw[ZfB (by rw[HR.o];exact Nat.le_refl _)] at hdt
    subst hdt
    go_wp2_with fail
    go_ret
    exact⟨rfl,hbel⟩
theorem Zil (n:Nat):∀ (m:List (List Int)),n≤4→sqM n m→∀ (g c B:Nat) (w:World),Gr w B g m→n≤c→B≤w.heap.size →
  Calls Tryz.prog 156 #[.slice (some ⟨g,0,none⟩) n c] w fun e w'=>e=.returned (.int .i64 (dtF n m))∧Below w.heap.size w w':=by
 induction n with
 | zero =>
  intro m h4 hsq g c B w hg hc hB
  go_enter Tryz.func156,Tryz.ntmps156
  go_wp2_with fail
  go_ret
  exact⟨rfl,Below.refl _ _⟩
 | succ n ih =>
  intro m h4 hsq g c B w hg hc hB
  match m,hsq,hg with
  | [],hsq,hg=>exact absurd hsq.1 (by simp)
  | r :: rs,hsq,hg =>
  obtain⟨D,hD⟩:∃ D,dtF (n+1) (r :: rs)=D:=⟨_,rfl⟩
  rw[hD]
  have hD2:dtS (dtF n) rs (r.drop 0) 0 1 0=D:=hD
  have hr:=(hsq.2 r (by simp)).1
  have hrx:=(hsq.2 r (by simp)).2
  have hrl:rs.length=n:=by have:=hsq.1;simpa using this
  have hrn:∀ y∈rs,y.length=n+1:=fun y hy=>(hsq.2 y (List.mem_cons_of_mem _ hy)).1
  have hdb:∀ k,k<n+1→(dtF n (rs.map (Qv k))).natAbs≤6000000:=fun k hk=>Nat.le_trans (ZfA n _ (Vl hsq hk)) (Zih (by omega))
  have hih:=fun k (hk:k<n+1)=>ih (rs.map (Qv k)) (by omega) (Vl hsq hk)
  obtain⟨q0,c0,hcell0,hq1,hq2,hq3,hq4⟩:=hg.row (i:=0) (r:=r) rfl
  rw[hr] at hcell0 hq1
  have hgB:=hg.1
  obtain⟨N,hN⟩:∃ N,n+1=N:=⟨_,rfl⟩
  rw[hN] at hcell0 hq1 hr h4 hdb hih hc hrn ⊢
  have hN1:n+1≤N:=by omega
  have hN2:N≤n+1:=by omega
  have HD:=Hd hD2;have HR:=Hd hr;have HRX:=Hd hrx;have HRL:=Hd hrl;have HRN:=Hd hrn;have HDB:=Hd hdb;have HIH:=Hd hih;have HQ4:=Hd hq4;have HG:=Hd hg
  clear hD hD2 hr hrx hrl hrn hdb hih hq4 hsq ih hg hN
  have hN0:((N:Int)==0)=false:=beq_eq_false_iff_ne.2 (by omega)
  have hN3:(0:Int)<(N:Int):=by omega
  obtain⟨A1,hA1⟩:∃ A1:Option Addr,(if c=1 then some (⟨g,0,none⟩:Addr) else some ⟨g,1,none⟩)=A1:=⟨_,rfl⟩
  have hA2:0<n→A1=some ⟨g,1,none⟩:=fun h=>by rw[← hA1,if_neg (by omega)]
  have hN4:(1:Int)≤(N:Int):=by omega
  have HA2:=Hd hA2
  clear hA2
  go_enter Tryz.func156,Tryz.ntmps156
  go_wp2_with fail
  go_loopw [3,4,5,6,7,9,17] (fun s sg _ _ _ _ i wr=>∃ (k:Nat) (sv gv:Int),k≤N∧i=.int .i64 k∧s=.int .i64 sv∧sg=.int .i64 gv∧(gv=1∨gv=-1)∧-(k * 600000000)≤sv∧sv≤k * 600000000∧dtS (dtF n) rs (r.drop k) k gv sv=D∧Below w.heap.size w wr) (fun _ _ _ _ _ _ i _=>N - (intOf i).toNat)
  case atStart=>exact⟨0,0,1,by omega,rfl,rfl,rfl,.inl rfl,by omega,by omega,HD.o,Below.refl _ _⟩
  case round =>
   clear HD
   obtain⟨k,sv,gv,hk,rfl,rfl,rfl,hgv,hs1,hs2,hdt,hbel⟩:=hrel
   by_cases hlt:k<N
   ·obtain⟨x,hx⟩:=Zc (l:=r) (k:=k) (by rw[HR.o];exact hlt)
    have hlt2:(k:Int)<(N:Int):=by omega
    have hcx:=(hbel.cell (p:=⟨q0,k,none⟩) (by show q0<w.heap.size;omega)).trans (HQ4.o k x hx)
    rw[Zc0 hx] at hdt
    have hxb:=HRX.o x (List.mem_of_getElem? hx)
    have HDT:=Hd hdt
    clear hdt hx
    go_wp2_with fail
    obtain⟨wo,rfl⟩:∃ z:World,z=wr:=⟨_,rfl⟩
    have hz0:=hbel.size
    rw[show N - 1=n by omega]
    go_loopw [7,9,26] (fun v _ i wv=>∃ (j gm cm:Nat) (vs:List Value),j≤n∧i=.int .i64 j∧v=.slice (some ⟨gm,0,none⟩) j cm∧Bld wv wo.heap.size 83 gm j cm vs ((rs.take j).map (Qv k))∧Below wo.heap.size wo wv) (fun _ _ i _=>n - (intOf i).toNat)
    case atStart=>exact⟨0,_,0,[],by omega,rfl,rfl,Bld.empty wo nlr,(Below.refl _ _).alloc nlr _⟩
    case round =>
     obtain⟨j,gm,cm,vs,hj,rfl,rfl,hbd,hbe2⟩:=hrel
     have hz2:=hbe2.size
     by_cases hjl:j<n
     ·obtain⟨y,hy⟩:=Zc (l:=rs) (k:=j) (by rw[HRL.o];exact hjl)
      have hyl:=HRN.o y (List.mem_of_getElem? hy)
      have hA1e:=HA2.o (by omega)
      obtain⟨q,cy,hcell,hy1,hy2,hy3,hy4⟩:=HG.o.row (i:=j+1) (r:=y) (by simpa using hy)
      rw[hyl] at hcell hy1
      have hbw:Below w.heap.size w wr:=hbel.trans (hbe2.mono hz0)
      have hgB2:=HG.o.1
      have hcw:wr.cell? ⟨g,1+j,none⟩=some (.slice (some ⟨q,0,none⟩) N cy):=by
       rw[Nat.add_comm];exact (hbw.cell (p:=⟨g,j+1,none⟩) (by show g<w.heap.size;omega)).trans hcell
      have hyw:∀ W,Below w.heap.size w W→∀ (i:Nat) (x:Int),y[i]? = some x→W.cell? ⟨q,i,none⟩=some (.int .i64 x):=fun W hW i x hx=>(hW.cell (p:=⟨q,i,none⟩) (by show q<w.heap.size;omega)).trans (hy4 i x hx)
      obtain⟨ad,had,hadb,hadc⟩:=ZfE hyl hlt hy1 hy4
      have hdw:∀ W,Below w.heap.size w W→∀ (i:Nat) (u:Value),(Z9 (y.drop (k+1)))[i]? = some u→W.cell? (ad.add i)=some u:=fun W hW i u hu=>(hW.cell (p:=ad.add i) (by rw[Vx,hadb];omega)).trans (hadc i u hu)
      have hl1:(Z9 (y.take k)).length=k:=by rw[Qt,List.length_take];omega
      have hl2:(Z9 (y.drop (k+1))).length=N - (k+1):=by rw[Qt,List.length_drop];omega
      have hnx:=Zc4 (k:=k) hy
      have f1:(0:Int)≤(k:Int):=by omega
      have f2:(k:Int)≤(cy:Int):=by omega
      have f3:(0:Int)≤(k:Int)+1:=by omega
      have f4:(k:Int)+1≤(N:Int):=by omega
      have f5:IntKind.i64.wrap ((k:Int)+1)=(k:Int)+1:=IntWalk.i64_in _ (by omega)
      have hsz:N≤4:=h4
      have bw1:Below w.heap.size w (wr.alloc (.cells #[] 3)).drew:=(hbw.alloc (by omega) _).drew
      have br1:Below wr.heap.size wr (wr.alloc (.cells #[] 3)).drew:=((Below.refl _ _).alloc nlr _).drew
      have ow1:Own (wr.alloc (.cells #[] 3)).drew wr.heap.size 3 (.slice (some ⟨wr.heap.size,0,none⟩) 0 0) []:=(Own.empty nlr).dr (Dr.refl _).drew
      have hjs:(j:Int)<(n:Int):=by omega
      have hn1:k<4294967296:=by omega
      have hk0:0+k=k:=Nat.zero_add k
      have hn2:n<4294967296:=by omega
      have hkn:k+(N - (k+1))=n:=by omega
      have HL0:=Hd (show ([]++Z9 (y.take k)).length=k by rw[List.nil_append,hl1])
      have hn3:j+1<4294967296:=by omega
      have hB1:wr.heap.size≤(wr.alloc (.cells #[] 3)).drew.heap.size:=by simp
      have hzw:w.heap.size≤wr.heap.size:=Nat.le_trans hz0 hz2
      have HBD:=Hd hbd;have HYW:=Hd (hyw _ bw1);have HDW:=Hd hdw;have HL1:=Hd hl1;have HL2:=Hd hl2;have HNX:=Hd hnx;have HBW1:=Hd bw1;have HBR1:=Hd br1;have HOW1:=Hd ow1
      clear hbd hyw hdw hl1 hl2 hnx hy hcell hy4 hadc bw1 br1 ow1 hA1
      subst hA1e
      go_wp2_with fail
      go_region_held3 (fun _=>True) (trivial)
       (first
        | (refine Qh rfl (.tmp 31) (.tmp 34) 83 rfl _ 8 Tryz.underlying83 Zu rfl wr.heap.size 0 rfl (by rfl) HOW1.o ⟨q,0,none⟩ k cy (Z9 (y.take k)) (by rfl) HL1.o (ZfF HYW.o) (Yk _) k hk0 hn1 (by decide) hB1 ?_;intro A1 c1 w1 o1 g1 a1 n1)
        | (refine Qh rfl (.tmp 35) (.tmp 39) 83 rfl _ 8 Tryz.underlying83 Zu rfl wr.heap.size k HL0.o (by rfl) o1 ad (N - (k+1)) (cy - (k+1)) (Z9 (y.drop (k+1))) (by rfl) HL2.o (HDW.o _ (V7 HBW1.o hzw hB1 HOW1.o g1)) (Yk _) n hkn hn2 (by decide) (Nat.le_trans hB1 g1.size) ?_;intro A2 c2 w2 o2 g2 a2 n2)
        | (refine Qh rfl (.tmp 30) (.tmp 41) 60 rfl _ 24 Tryz.underlying60 Jn rfl wo.heap.size j HBD.o.vlen (by rfl) (Own.below HBD.o.own (ZgK HBR1.o hB1 HOW1.o g1 o1 g2)) ⟨w2.heap.size,0,none⟩ 1 1 [.slice A2 n c2] (by rfl) rfl (Zc5 w2 _ _) (Zij rfl) (j+1) rfl hn3 (by decide) (ZfD hz2 hB1 g1 g2) ?_;intro A3 c3 w3 o3 g3 a3 n3))
      all_goals
       have hrow:RowV (w2.alloc (.cells #[.slice A2 n c2] 83)) (w2.alloc (.cells #[.slice A2 n c2] 83)).heap.size gm (.slice A2 n c2) (Qv k y):=by
        have ho:=o2.below ((Below.refl w2.heap.size w2).alloc nlr (.cells #[.slice A2 n c2] 83))
        rw[List.nil_append,← ZfC] at ho
        exact We ho (fun e=>by have h1:=n2.1 e;have h2:=n1.1 h1.1;cases h2.1) (HBD.o.lt.2)
       obtain⟨g',c',he,hb'⟩:=(HBD.o.below (ZgK (u:=.slice A2 n c2) (E3:=83) HBR1.o hB1 HOW1.o g1 o1 g2)).add hrow o3 g3 a3
       rw[← HNX.o] at hb'
       have hbe4:Below wo.heap.size wo w3:=(hbe2.trans ((ZgK (u:=.slice A2 n c2) (E3:=83) HBR1.o hB1 HOW1.o g1 o1 g2).mono hz2)).grown g3 (ZfD hz2 hB1 g1 g2) (fun q hq=>by have hq2:some gm=some q:=hq;injection hq2 with e;have:=HBD.o.lt.1;omega)
       have HB4:=Hd hb'
       have HE:=Hd he
       clear hrow hb' he o1 o2 o3 g1 g2 g3 a1 a2 a3 n1 n2 n3
       rw[HE.o]
       go_wp2_with fail
       go_roundw
       case rel=>exact⟨j+1,g',c',_,by omega,by go_num,rfl,HB4.o,hbe4⟩
       case measure=>simp[intOf];omega
     ·have hje:j=n:=by omega
      subst hje
      have htk:rs.take j=rs:=List.take_of_length_le (by rw[HRL.o];exact Nat.le_refl _)
      have hbd2:=hbd
      rw[htk] at hbd2
      have hcall:=HIH.o k hlt gm cm wr.heap.size wr hbd2.gr hbd2.cap.1 nlr
      have hdb:=HDB.o k hlt
      obtain⟨y,hy⟩:∃ y,dtF j (rs.map (Qv k))=y:=⟨_,rfl⟩
      have hdt:=HDT.o
      rw[hy] at hcall hdb hdt
      have hgx:-100≤gv * x∧gv * x≤100:=by rcases hgv with e|e<;>rw[e]<;>omega
      obtain⟨gx,hgxe⟩:∃ gx,gv * x=gx:=⟨_,rfl⟩
      rw[hgxe] at hgx hdt
      have hty:=ZbC (g:=1) (x:=gx) (y:=y) (D:=6000000) (by decide) hgx hdb
      rw[Int.one_mul] at hty
      obtain⟨ty,htye⟩:∃ ty,gx * y=ty:=⟨_,rfl⟩
      rw[htye] at hty hdt
      have ht1:-600000000≤ty:=by omega
      have ht2:ty≤600000000:=by omega
      have hgv2:-gv=1∨-gv=-1:=by omega
      have hg1:-1≤gv:=by omega
      have hg2:gv≤1:=by omega
      have hx1:=hgx.1
      have hx2:=hgx.2
      have HC:=Hd hcall;have HDT2:=Hd hdt;have HGV:=Hd hgv2
      clear hcall hdt hy hdb hty htk hbd hbd2 hgv hgv2 hgx HDT
      go_wp2_with fail
      refine HC.o.mono ?_
      rintro e w5 ⟨rfl,b5⟩
      have hbe5:=hbel.trans ((hbe2.mono hz0).trans (b5.mono (Nat.le_trans hz0 hz2)))
      clear b5 HC
      go_wp2_with fail
      go_roundw
      case rel=>exact⟨k+1,sv+ty,-gv,by omega,by go_num,by first|rfl|go_num,by first|rfl|go_num,HGV.o,by omega,by omega,HDT2.o,hbe5⟩
      case measure=>simp[intOf];omega
   ·have hke:k=N:=by omega
    subst hke
    rw[ZfB (by rw[HR.o];exact Nat.le_refl _)] at hdt
    subst hdt
    go_wp2_with fail
    go_ret
    exact⟨rfl,hbel⟩
end Go.Proofs.YtocbgldilgemoaaGreatDoor
