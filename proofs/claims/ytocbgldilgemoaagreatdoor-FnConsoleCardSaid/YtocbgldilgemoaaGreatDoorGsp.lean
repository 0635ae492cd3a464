/- GapLengths of the reference. No condition but the bounds. -/
import Derived.Test.YtocbgldilgemoaaGreatDoorGpi
namespace Go.Proofs.YtocbgldilgemoaaGreatDoor
set_option maxRecDepth 4000
set_option maxHeartbeats 1000000
open Go.RowKit
set_option linter.unusedVariables false
def IntAt (w:World) (g c:Nat) (ss:List Int):Prop:=ss.length≤c∧c≤maxLen∧g<w.heap.size∧∀ j s,ss[j]? = some s→w.cell? ⟨g,j,none⟩=some (.int .i64 s)
theorem IntAt.below {w w':World} {g c:Nat} {ss:List Int} (h:IntAt w g c ss) (hb:Below w.heap.size w w'):IntAt w' g c ss :=
 ⟨h.1,h.2.1,Nat.lt_of_lt_of_le h.2.2.1 hb.size,fun j s hs=>(hb.cell (p:=⟨g,j,none⟩) h.2.2.1).trans (h.2.2.2 j s hs)⟩
theorem IntAt.rds {w:World} {g c:Nat} {ss:List Int} (h:IntAt w g c ss):Rds w w.heap.size (some ⟨g,0,none⟩) (ss.map (Value.int .i64)):=fun k u hu=>by
 rw[List.getElem?_map] at hu
 cases hs:ss[k]? with
 | none=>rw[hs] at hu;simp at hu
 | some s =>
  rw[hs] at hu
  refine⟨_,rfl,h.2.2.1,?_⟩
  have ha:(⟨g,0,none⟩:Addr).add k=⟨g,k,none⟩:=by unfold Addr.add;split<;>simp_all
  rw[ha,h.2.2.2 k s hs];simpa using hu
theorem Own.intAt {w:World} {B c:Nat} {A:Option Addr} {E:TypeId} {ss:List Int} (h:Own w B E (.slice A ss.length c) (ss.map (Value.int .i64))) (h0:ss≠[]):∃ g,A=some ⟨g,0,none⟩∧IntAt w g c ss:=by
 have hl:0<ss.length:=by cases ss with|nil=>exact absurd rfl h0|cons a b=>simp
 obtain⟨g,rfl,_,hg,_,_,_⟩:=h.store (k:=0) (by rw[List.length_map];exact hl)
 obtain⟨A',c',hv,hc1,hc2,_⟩:=h.shape
 injection hv with e1 e2 e3
 subst e3
 rw[List.length_map] at hc1
 refine⟨g,rfl,hc1,hc2,hg,fun j s hs=>?_⟩
 have hj:=(List.getElem?_eq_some_iff.1 hs).1
 have h2:=World.ownsRow.cellAt (g:=g) (n:=(ss.map (Value.int .i64)).length) (by
  have h3:=h
  unfold Own at h3
  rw[List.length_map] at h3 ⊢
  exact h3) j (by rw[List.length_map];omega)
 rw[h2];exact Zs (Value.int .i64) hs
theorem Zar (ss:List Int) (x:Int) (g c:Nat) (w:World) (hn:ss.length≤1000) (hst:IntAt w g c ss) :
  Calls Tryz.prog 170 #[.slice (some ⟨g,0,none⟩) ss.length c,.int .i64 x] w fun e w'=>∃ g' c',e=.returned (.slice (some ⟨g',0,none⟩) (J1 ss x).length c')∧IntAt w' g' c' (J1 ss x)∧Below w.heap.size w w':=by
 obtain⟨n,hnn⟩:∃ n,ss.length=n:=⟨_,rfl⟩
 obtain⟨r,hr⟩:∃ r,J1 ss x=r:=⟨_,rfl⟩
 obtain⟨k0,hk0⟩:∃ k0,kpI ss x n=k0:=⟨_,rfl⟩
 have hrr:r=if k0≠0∧ss.getD (k0 - 1) 0=x then ss else ss.take k0++x :: ss.drop k0:=by rw[← hr,J1,hnn,hk0]
 have hk0n:k0≤n:=by rw[← hk0];exact ZbR ss x n
 rw[hnn] at hn ⊢
 rw[hr]
 have HS:=Hd hst;have HN:=Hd hnn;have HR:=Hd hrr;have HK:=Hd hk0
 have hcn:n≤c:=by rw[← hnn];exact hst.1
 have hcm:=hst.2.1
 unfold maxLen at hcm
 clear hst hnn hr hrr hk0
 go_enter Tryz.func170,Tryz.ntmps170
 go_wp2_with fail
 go_loop [5] (fun i=>∃ k:Nat,k≤n∧i=.int .i64 k∧kpI ss x k=k0) (fun i=>(intOf i).toNat)
 case atStart=>exact⟨n,by omega,rfl,HK.o⟩
 case round =>
  obtain⟨k,hk,rfl,hg⟩:=hrel
  have HG:=Hd hg;clear hg
  by_cases hk0':0<k
  ·have hkn1:k - 1<ss.length:=by rw[HN.o];omega
   obtain⟨y,hy⟩:=Zc (l:=ss) (k:=k - 1) hkn1
   have hyd:ss.getD (k - 1) 0=y:=by rw[List.getD_eq_getElem?_getD,hy];rfl
   have hcell:=HS.o.2.2.2 (k - 1) y hy
   by_cases hlt:x<y
   ·have hkp:kpI ss x (k - 1)=k0:=by
     rw[← HG.o]
     obtain⟨q,rfl⟩:∃ q,k=q+1:=⟨k - 1,by omega⟩
     rw[Nat.add_sub_cancel] at hyd ⊢
     rw[kpI,hyd,if_pos hlt]
    have HKP:=Hd hkp
    clear hkp hyd hy
    go_wp2_with fail
    go_round
    case rel=>exact⟨k - 1,by omega,by go_num,HKP.o⟩
    case measure=>simp[intOf];omega
   ·have hkp:k=k0:=by
     rw[← HG.o]
     obtain⟨q,rfl⟩:∃ q,k=q+1:=⟨k - 1,by omega⟩
     rw[Nat.add_sub_cancel] at hyd
     rw[kpI,hyd,if_neg hlt]
    subst hkp
    have hkp1:decide (0<(k:Int))=true:=by simp;omega
    have hlt0:decide (x<y)=false:=decide_eq_false hlt
    by_cases hyx:y=x
    ·have hb2:(y==x)=true:=beq_iff_eq.2 hyx
     have hfin:r=ss:=by rw[HR.o,if_pos ⟨by omega,by rw[hyd];exact hyx⟩]
     have hrl:r.length=n:=by rw[hfin];exact HN.o
     have HF:=Hd hfin;have HRL:=Hd hrl
     clear hyd hy hfin hrl hyx
     go_wp2_with fail
     go_ret
     exact⟨g,c,by rw[HRL.o];rfl,by rw[HF.o];exact HS.o,Below.refl _ _⟩
    ·have hb2:(y==x)=false:=beq_eq_false_iff_ne.2 hyx
     have hfin:r=ss.take k++x :: ss.drop k:=by rw[HR.o,if_neg (fun h=>hyx (hyd.symm.trans h.2))]
     have HF:=Hd hfin
     clear hyd hy hyx hfin
     have hsa:IntAt (w.alloc (.cells #[] 3)) g c ss:=HS.o.below ((Below.refl _ _).alloc nlr _)
     have he0:Own (w.alloc (.cells #[] 3)) w.heap.size 3 (.slice (some ⟨w.heap.size,0,none⟩) 0 0) []:=Own.empty nlr
     have hb01:Below w.heap.size w (w.alloc (.cells #[] 3)):=(Below.refl _ _).alloc nlr _
     have hsz1:w.heap.size≤(w.alloc (.cells #[] 3)).heap.size:=by simp
     have hys1:∀ j u,((ss.take k).map (Value.int .i64))[j]? = some u→(w.alloc (.cells #[] 3)).cell? ((⟨g,0,none⟩:Addr).add j)=some u:=fun j u hu=>by
      obtain⟨ad,hae,_,hc⟩:=hsa.rds j u (by
       rw[List.getElem?_map] at hu ⊢
       rw[List.getElem?_take] at hu
       split at hu
       ·exact hu
       ·simp at hu)
      injection hae with hae
      subst hae
      exact hc
     have hm1:((ss.take k).map (Value.int .i64)).length=k:=by rw[List.length_map,List.length_take,HN.o];omega
     have hu1:∀ u∈(ss.take k).map (Value.int .i64),u.oneCell'=true:=fun u hu=>by
      obtain⟨s,_,rfl⟩:=List.mem_map.1 hu;rfl
     have HY1:=Hd hys1;have HM1:=Hd hm1;have HU1:=Hd hu1;have HE0:=Hd he0;have HSA:=Hd hsa
     have hn9:0+k<4294967296:=by omega
     clear hsa he0 hys1 hm1 hu1
     go_wp2_with (at_builtin;refine Z8 rfl (.tmp 34) (.tmp 37) 83 rfl _ 8 Tryz.underlying83 Zu rfl rfl HE0.o ((ss.take k).map (Value.int .i64)) HU1.o ⟨g,0,none⟩ k c rfl HM1.o HY1.o 0 rfl hn9 (by decide) hsz1 ?_)
     intro A1 c1 w1 hown1 hbel1
     have hown1':Own w1 w.heap.size 3 (.slice A1 k c1) ((ss.take k).map (Value.int .i64)):=by simpa using hown1
     have hbw1:Below w.heap.size w w1:=hb01.trans hbel1
     have hsz2:=hbw1.size
     have HO1:=Hd hown1'
     have hk9:k<4294967296:=by omega
     clear hown1 hown1' hbel1
     go_wp2_with (at_builtin;refine Zp rfl (.tmp 39) (.tmp 41) 83 rfl _ 8 Tryz.underlying83 Zu rfl rfl HO1.o _ rfl rfl k HM1.o hk9 (by decide) hsz2 ?_)
     intro A2 c2 w2 hown2 hbel2 hsz3
     have hbw2:Below w.heap.size w w2:=hbw1.trans hbel2
     have hown2':Own w2 w.heap.size 3 (.slice A2 (k+1) c2) ((ss.take k++[x]).map (Value.int .i64)):=by simpa using hown2
     have HO2:=Hd hown2';have HS2:=Hd (HS.o.below hbw2)
     clear hown2 hown2' hbel2
     have hu3:∀ u∈(ss.drop k).map (Value.int .i64),u.oneCell'=true:=fun u hu=>by
      obtain⟨s,_,rfl⟩:=List.mem_map.1 hu;rfl
     have hm3:((ss.drop k).map (Value.int .i64)).length=n - k:=by rw[List.length_map,List.length_drop,HN.o]
     have hm2:((ss.take k++[x]).map (Value.int .i64)).length=k+1:=by rw[List.length_map,List.length_append,List.length_take,HN.o];first|(simp;done)|(simp;omega)
     have hn10:k+1+(n - k)<4294967296:=by omega
     have hsz4:=hbw2.size
     have hrl:r.length=k+1+(n - k):=by rw[HF.o,List.length_append,List.length_cons,List.length_take,List.length_drop,HN.o];omega
     have hrm:(ss.take k++[x]).map (Value.int .i64)++(ss.drop k).map (Value.int .i64)=r.map (Value.int .i64):=by rw[HF.o,← List.map_append,List.append_assoc];rfl
     have hrne:r≠[]:=fun h=>by rw[h] at hrl;simp at hrl;omega
     have HU3:=Hd hu3;have HM3:=Hd hm3;have HM2:=Hd hm2;have HRL:=Hd hrl;have HRM:=Hd hrm;have HNE:=Hd hrne
     clear hu3 hm3 hm2 hrl hrm hrne
     by_cases hck:c=k
     ·have hnk:k=n:=by omega
      have hkc:k=c:=hck.symm
      clear hck
      have hd0:ss.drop k=[]:=List.drop_eq_nil_of_le (by rw[HN.o];omega)
      have hys3:∀ j u,((ss.drop k).map (Value.int .i64))[j]? = some u→w2.cell? ((⟨g,0,none⟩:Addr).add j)=some u:=fun j u hu=>by rw[hd0] at hu;simp at hu
      have hm0:((ss.drop k).map (Value.int .i64)).length=0:=by rw[hd0];rfl
      have HM0:=Hd hm0
      have HY3:=Hd hys3
      have hn11:k+1+0<4294967296:=by omega
      clear hys3 hd0 hm0
      subst hkc;subst hnk
      go_wp2_with (at_builtin;refine Z8 rfl (.tmp 43) (.tmp 46) 83 rfl _ 8 Tryz.underlying83 Zu rfl rfl HO2.o _ HU3.o ⟨g,0,none⟩ 0 _ rfl HM0.o HY3.o _ HM2.o hn11 (by decide) hsz4 ?_)
      intro A3 c3 w3 hown3 hbel3
      have hown4:Own w3 w.heap.size 3 (.slice A3 r.length c3) (r.map (Value.int .i64)):=by
       have h1:=HRM.o
       have h2:=HRL.o
       rw[h2,← h1]
       simpa using hown3
      obtain⟨g',hA3,hst3⟩:=hown4.intAt HNE.o
      subst hA3
      have HST3:=Hd hst3
      have hbw3:Below w.heap.size w w3:=hbw2.trans hbel3
      clear hown3 hown4 hst3 hbel3
      go_wp2_with fail
      go_ret
      exact⟨g',c3,by rw[HRL.o];simp;try omega,HST3.o,hbw3⟩
     ·have hlt9:k<c:=by omega
      have hys3:∀ j u,((ss.drop k).map (Value.int .i64))[j]? = some u→w2.cell? ((⟨g,k,none⟩:Addr).add j)=some u:=fun j u hu=>by
       rw[List.getElem?_map,List.getElem?_drop] at hu
       cases hs:ss[k+j]? with
       | none=>rw[hs] at hu;simp at hu
       | some s =>
        rw[hs] at hu
        have ha:(⟨g,k,none⟩:Addr).add j=⟨g,k+j,none⟩:=by unfold Addr.add;split<;>simp_all
        rw[ha,HS2.o.2.2.2 (k+j) s hs];simpa using hu
      have HY3:=Hd hys3
      clear hys3 hck
      go_wp2_with (at_builtin;refine Z8 rfl (.tmp 43) (.tmp 46) 83 rfl _ 8 Tryz.underlying83 Zu rfl rfl HO2.o _ HU3.o ⟨g,k,none⟩ _ _ rfl HM3.o HY3.o _ HM2.o hn10 (by decide) hsz4 ?_)
      intro A3 c3 w3 hown3 hbel3
      have hown4:Own w3 w.heap.size 3 (.slice A3 r.length c3) (r.map (Value.int .i64)):=by
       have h1:=HRM.o
       have h2:=HRL.o
       rw[h2,← h1]
       simpa using hown3
      obtain⟨g',hA3,hst3⟩:=hown4.intAt HNE.o
      subst hA3
      have HST3:=Hd hst3
      have hbw3:Below w.heap.size w w3:=hbw2.trans hbel3
      clear hown3 hown4 hst3 hbel3
      go_wp2_with fail
      go_ret
      exact⟨g',c3,by rw[HRL.o];simp;try omega,HST3.o,hbw3⟩
  ·have hk00:k=0:=by omega
   subst hk00
   have hk00:(0:Nat)=k0:=HG.o
   subst hk00
   have hfin:r=ss.take 0++x :: ss.drop 0:=by rw[HR.o,if_neg (fun h=>h.1 rfl)]
   have HF:=Hd hfin
   clear hfin
   have hsa:IntAt (w.alloc (.cells #[] 3)) g c ss:=HS.o.below ((Below.refl _ _).alloc nlr _)
   have he0:Own (w.alloc (.cells #[] 3)) w.heap.size 3 (.slice (some ⟨w.heap.size,0,none⟩) 0 0) []:=Own.empty nlr
   have hb01:Below w.heap.size w (w.alloc (.cells #[] 3)):=(Below.refl _ _).alloc nlr _
   have hsz1:w.heap.size≤(w.alloc (.cells #[] 3)).heap.size:=by simp
   have hys1:∀ j u,((ss.take 0).map (Value.int .i64))[j]? = some u→(w.alloc (.cells #[] 3)).cell? ((⟨g,0,none⟩:Addr).add j)=some u:=fun j u hu=>by
    obtain⟨ad,hae,_,hc⟩:=hsa.rds j u (by
     rw[List.getElem?_map] at hu ⊢
     rw[List.getElem?_take] at hu
     split at hu
     ·exact hu
     ·simp at hu)
    injection hae with hae
    subst hae
    exact hc
   have hm1:((ss.take 0).map (Value.int .i64)).length=0:=by rw[List.length_map,List.length_take,HN.o];omega
   have hu1:∀ u∈(ss.take 0).map (Value.int .i64),u.oneCell'=true:=fun u hu=>by
    obtain⟨s,_,rfl⟩:=List.mem_map.1 hu;rfl
   have HY1:=Hd hys1;have HM1:=Hd hm1;have HU1:=Hd hu1;have HE0:=Hd he0;have HSA:=Hd hsa
   have hn9:0+0<4294967296:=by omega
   clear hsa he0 hys1 hm1 hu1
   go_wp2_with (at_builtin;refine Z8 rfl (.tmp 34) (.tmp 37) 83 rfl _ 8 Tryz.underlying83 Zu rfl rfl HE0.o ((ss.take 0).map (Value.int .i64)) HU1.o ⟨g,0,none⟩ 0 c rfl HM1.o HY1.o 0 rfl hn9 (by decide) hsz1 ?_)
   intro A1 c1 w1 hown1 hbel1
   have hown1':Own w1 w.heap.size 3 (.slice A1 0 c1) ((ss.take 0).map (Value.int .i64)):=by simpa using hown1
   have hbw1:Below w.heap.size w w1:=hb01.trans hbel1
   have hsz2:=hbw1.size
   have HO1:=Hd hown1'
   have hk9:0<4294967296:=by omega
   clear hown1 hown1' hbel1
   go_wp2_with (at_builtin;refine Zp rfl (.tmp 39) (.tmp 41) 83 rfl _ 8 Tryz.underlying83 Zu rfl rfl HO1.o _ rfl rfl 0 HM1.o hk9 (by decide) hsz2 ?_)
   intro A2 c2 w2 hown2 hbel2 hsz3
   have hbw2:Below w.heap.size w w2:=hbw1.trans hbel2
   have hown2':Own w2 w.heap.size 3 (.slice A2 (0+1) c2) ((ss.take 0++[x]).map (Value.int .i64)):=by simpa using hown2
   have HO2:=Hd hown2';have HS2:=Hd (HS.o.below hbw2)
   clear hown2 hown2' hbel2
   have hu3:∀ u∈(ss.drop 0).map (Value.int .i64),u.oneCell'=true:=fun u hu=>by
    obtain⟨s,_,rfl⟩:=List.mem_map.1 hu;rfl
   have hm3:((ss.drop 0).map (Value.int .i64)).length=n - 0:=by rw[List.length_map,List.length_drop,HN.o]
   have hm2:((ss.take 0++[x]).map (Value.int .i64)).length=0+1:=by rw[List.length_map,List.length_append,List.length_take,HN.o];first|(simp;done)|(simp;omega)
   have hn10:0+1+(n - 0)<4294967296:=by omega
   have hsz4:=hbw2.size
   have hrl:r.length=0+1+(n - 0):=by rw[HF.o,List.length_append,List.length_cons,List.length_take,List.length_drop,HN.o];omega
   have hrm:(ss.take 0++[x]).map (Value.int .i64)++(ss.drop 0).map (Value.int .i64)=r.map (Value.int .i64):=by rw[HF.o,← List.map_append,List.append_assoc];rfl
   have hrne:r≠[]:=fun h=>by rw[h] at hrl;simp at hrl;omega
   have HU3:=Hd hu3;have HM3:=Hd hm3;have HM2:=Hd hm2;have HRL:=Hd hrl;have HRM:=Hd hrm;have HNE:=Hd hrne
   clear hu3 hm3 hm2 hrl hrm hrne
   by_cases hck:c=0
   ·have hnk:0=n:=by omega
    have hkc:0=c:=hck.symm
    clear hck
    have hd0:ss.drop 0=[]:=List.drop_eq_nil_of_le (by rw[HN.o];omega)
    have hys3:∀ j u,((ss.drop 0).map (Value.int .i64))[j]? = some u→w2.cell? ((⟨g,0,none⟩:Addr).add j)=some u:=fun j u hu=>by rw[hd0] at hu;simp at hu
    have hm0:((ss.drop 0).map (Value.int .i64)).length=0:=by rw[hd0];rfl
    have HM0:=Hd hm0
    have HY3:=Hd hys3
    have hn11:0+1+0<4294967296:=by omega
    clear hys3 hd0 hm0
    subst hkc;subst hnk
    go_wp2_with (at_builtin;refine Z8 rfl (.tmp 43) (.tmp 46) 83 rfl _ 8 Tryz.underlying83 Zu rfl rfl HO2.o _ HU3.o ⟨g,0,none⟩ 0 _ rfl HM0.o HY3.o _ HM2.o hn11 (by decide) hsz4 ?_)
    intro A3 c3 w3 hown3 hbel3
    have hown4:Own w3 w.heap.size 3 (.slice A3 r.length c3) (r.map (Value.int .i64)):=by
     have h1:=HRM.o
     have h2:=HRL.o
     rw[h2,← h1]
     simpa using hown3
    obtain⟨g',hA3,hst3⟩:=hown4.intAt HNE.o
    subst hA3
    have HST3:=Hd hst3
    have hbw3:Below w.heap.size w w3:=hbw2.trans hbel3
    clear hown3 hown4 hst3 hbel3
    go_wp2_with fail
    go_ret
    exact⟨g',c3,by rw[HRL.o];simp;try omega,HST3.o,hbw3⟩
   ·have hlt9:0<c:=by omega
    have hys3:∀ j u,((ss.drop 0).map (Value.int .i64))[j]? = some u→w2.cell? ((⟨g,0,none⟩:Addr).add j)=some u:=fun j u hu=>by
     rw[List.getElem?_map,List.getElem?_drop] at hu
     cases hs:ss[0+j]? with
     | none=>rw[hs] at hu;simp at hu
     | some s =>
      rw[hs] at hu
      have ha:(⟨g,0,none⟩:Addr).add j=⟨g,0+j,none⟩:=by unfold Addr.add;split<;>simp_all
      rw[ha,HS2.o.2.2.2 (0+j) s hs];simpa using hu
    have HY3:=Hd hys3
    clear hys3 hck
    go_wp2_with (at_builtin;refine Z8 rfl (.tmp 43) (.tmp 46) 83 rfl _ 8 Tryz.underlying83 Zu rfl rfl HO2.o _ HU3.o ⟨g,0,none⟩ _ _ rfl HM3.o HY3.o _ HM2.o hn10 (by decide) hsz4 ?_)
    intro A3 c3 w3 hown3 hbel3
    have hown4:Own w3 w.heap.size 3 (.slice A3 r.length c3) (r.map (Value.int .i64)):=by
     have h1:=HRM.o
     have h2:=HRL.o
     rw[h2,← h1]
     simpa using hown3
    obtain⟨g',hA3,hst3⟩:=hown4.intAt HNE.o
    subst hA3
    have HST3:=Hd hst3
    have hbw3:Below w.heap.size w w3:=hbw2.trans hbel3
    clear hown3 hown4 hst3 hbel3
    go_wp2_with fail
    go_ret
    exact⟨g',c3,by rw[HRL.o];simp;try omega,HST3.o,hbw3⟩
theorem Zg0 (p q n:Int) (h:Vh p q n=true) (w:World) :
  Calls Tryz.prog 282 #[.int .i64 p,.int .i64 q,.int .i64 n] w fun e w'=>e=.returned (.bool true)∧w=w':=by
 obtain⟨hq,hp,hn⟩:=QE.1 h
 clear h
 go_enter Tryz.func282,Tryz.ntmps282
 go_wp2_with (go_at_call 146;refine (Zw _ _ _ (by omega) _).mono ?_;rintro e w' ⟨rfl,rfl⟩)
 go_ret
 exact⟨rfl,rfl⟩
theorem ZiD (p q n:Int) (hp:I64 p) (hq:I64 q) (hn:I64 n) (h:¬ Vh p q n=true) (w:World) :
  Calls Tryz.prog 282 #[.int .i64 p,.int .i64 q,.int .i64 n] w fun e w'=>e=.returned (.bool false)∧w=w':=by
 rw[QE] at h
 unfold I64 at hp hq hn
 by_cases h1:1≤q∧q≤1000
 ·by_cases h2:0≤p∧p≤q - 1
  ·have h3:¬ (1≤n∧n≤400):=fun h3=>h ⟨h1,h2,h3⟩
   clear h
   go_enter Tryz.func282,Tryz.ntmps282
   go_wp2_with (go_at_call 146;first|(refine (Zw _ _ _ (by omega) _).mono ?_;rintro e w' ⟨rfl,rfl⟩)|(refine (ZU _ _ _ (by omega) _).mono ?_;rintro e w' ⟨rfl,rfl⟩))
   go_ret
   exact⟨rfl,rfl⟩
  ·clear h
   go_enter Tryz.func282,Tryz.ntmps282
   go_wp2_with (go_at_call 146;first|(refine (Zw _ _ _ (by omega) _).mono ?_;rintro e w' ⟨rfl,rfl⟩)|(refine (ZU _ _ _ (by omega) _).mono ?_;rintro e w' ⟨rfl,rfl⟩))
   go_ret
   exact⟨rfl,rfl⟩
 ·clear h
  go_enter Tryz.func282,Tryz.ntmps282
  go_wp2_with (go_at_call 146;refine (ZU _ _ _ h1 _).mono ?_;rintro e w' ⟨rfl,rfl⟩)
  go_ret
  exact⟨rfl,rfl⟩
theorem Zg1:(Tryz.prog.info? 4).map (fun i=>(i.zero,i.size,i.bytes))=some (some (.bool false),1,1):=by kernel_rfl
def inL (p q n:Nat):List Value:=(List.range q).map fun x=>Value.bool (inP p q n x)
theorem ZkC (p q n:Nat):(inL p q n).length=q:=by simp[inL]
theorem ZiE (p q:Nat):inL p q 0=List.replicate q (Value.bool false):=by
 apply List.ext_getElem
 ·simp[inL]
 ·intro i h1 h2;simp[inL,Ziw]
theorem ZkD (p q n:Nat) (hq:0<q):(inL p q n).set (n * p % q) (.bool true)=inL p q (n+1):=by
 apply List.ext_getElem
 ·simp[inL]
 ·intro i h1 h2
  rw[List.getElem_set]
  simp only[inL,List.getElem_map,List.getElem_range,Zix]
  split
  ·rename_i h;rw[h];simp
  ·rename_i h;rw[beq_eq_false_iff_ne.2 h,Bool.or_false]
theorem ZiF {p q n x:Nat} (h:x<q):(inL p q n)[x]? = some (.bool (inP p q n x)):=by
 simp[inL,List.getElem?_map,List.getElem?_range h]
theorem Zas (p q n:Nat) (hg:Vh p q n=true) (w:World) :
  Calls Tryz.prog 240 #[.int .i64 p,.int .i64 q,.int .i64 n] w fun e w'=>∃ A c,e=.returned (.slice A (ptL p q n).length c)∧Own w' w.heap.size 3 (.slice A (ptL p q n).length c) ((ptL p q n).map (Value.int .i64))∧Below w.heap.size w w':=by
 obtain⟨hq,hp,hn⟩:=QE.1 hg
 have hq1:1≤q:=by omega
 have hq2:q≤1000:=by omega
 have hn2:n≤400:=by omega
 have hp2:p≤1000:=by omega
 have hpi:=Zlv (p:=p) (n:=n) (show 0<q by omega)
 have HGA:=Hd (fun v=>Zg0 p q n hg v)
 have HPI:=Hd hpi
 have hmk:=run_make_row' (P:=Tryz.prog) 184 4 _ 1 Tryz.underlying184 Zg1 rfl .i64 .i64 q (by omega) (by omega)
 clear hpi hg hq hp hn
 go_enter Tryz.func240,Tryz.ntmps240
 go_wp2_with fail
 refine (HGA.o _).mono ?_
 rintro e w' ⟨rfl,rfl⟩
 go_wp2_with fail
 go_loopw [8] (fun i wr=>∃ k:Nat,k≤n∧i=.int .i64 k∧Own wr w.heap.size 4 (.slice (some ⟨w.heap.size,0,none⟩) q q) (inL p q k)∧Below w.heap.size w wr) (fun i _=>n - (intOf i).toNat)
 case atStart=>exact⟨0,by omega,rfl,by rw[ZiE];exact Own.made nlr (by unfold maxLen;omega),(Below.refl _ _).alloc nlr _⟩
 case round =>
  obtain⟨k,hk,rfl,hown,hbel⟩:=hrel
  by_cases hlt:k<n
  ·obtain⟨u,hu⟩:∃ u:Nat,k * p=u:=⟨_,rfl⟩
   have hu2:u≤400000:=by rw[← hu];exact Nat.le_trans (Nat.mul_le_mul (show k≤400 by omega) hp2) (by decide)
   have e1:(k:Int) * (p:Int)=(u:Int):=by rw[← hu];simp
   obtain⟨x,hx⟩:∃ x:Nat,u % q=x:=⟨_,rfl⟩
   have hxq:x<q:=by rw[← hx];exact Nat.mod_lt _ (by omega)
   have e3:(u:Int) % (q:Int)=(x:Int):=by rw[← hx];simp
   have hset:=ZkD p q k (by omega)
   rw[hu,hx] at hset
   have hlen:=ZkC p q k
   obtain⟨g,hg,hBg,hgs,hcell,hfr,hst⟩:=hown.store (k:=x) (by rw[hlen];omega)
   injection hg with hg
   injection hg with hg
   subst hg
   rw[ZiF hxq] at hcell
   have hst1:=hst (.bool true)
   rw[hset] at hst1
   have HST:=Hd hst1
   have hq0:¬ (q:Int)=0:=by omega
   have hq00:((q:Int)==0)=false:=beq_eq_false_iff_ne.2 hq0
   have hq3:(0:Int)<(q:Int):=by omega
   have hu0:(0:Int)≤(u:Int):=by omega
   have hxq2:(x:Int)<(q:Int):=by omega
   clear hst hst1 hset hlen hown hu hx hmk
   go_wp2_with fail
   go_roundw
   case rel=>exact⟨k+1,by omega,by go_num,HST.o.1,hbel.trans HST.o.2.1⟩
   case measure=>simp[intOf];omega
  ·have hkn:k=n:=by omega
   subst hkn
   have HO:=Hd hown
   have hz0:=hbel.size
   have bA:Below wr.heap.size wr (wr.alloc (.cells #[] 3)):=(Below.refl _ _).alloc nlr _
   have HB:=Hd hbel
   clear hown hmk hlt hbel
   go_wp2_with fail
   obtain⟨wo,hwo⟩:∃ x,x=wr:=⟨_,rfl⟩
   subst hwo
   go_loopw [9,10,11,34] (fun v _ _ i wr=>∃ (j m:Nat) (A:Option Addr) (c:Nat),j≤q∧m≤j∧i=.int .i64 j∧v=.slice A m c∧(piL p q k j).length=m∧Own wr wo.heap.size 3 (.slice A m c) ((piL p q k j).map (Value.int .i64))∧Below wo.heap.size wo wr) (fun _ _ _ i _=>q - (intOf i).toNat)
   case atStart=>exact⟨0,0,_,_,by omega,by omega,rfl,rfl,rfl,Own.empty nlr,bA⟩
   case round =>
    obtain⟨j,m,A,c,hj,hmj,rfl,rfl,hml,hown,hbel⟩:=hrel
    have HO2:=Hd hown;have HML:=Hd hml
    clear hown hml bA
    by_cases hjq:j<q
    ·have hjq2:(j:Int)<(q:Int):=by omega
     have hrd:=HO.o.reads.below hbel nlr
     obtain⟨ad,had,hcell⟩:=hrd.at_ (ZiF hjq)
     injection had with had
     subst had
     rw[show (⟨w.heap.size,0,none⟩:Addr).add j=⟨w.heap.size,j,none⟩ from by unfold Addr.add;split<;>simp_all] at hcell
     have hsu:=Zdo p q k j
     have hsl:=hbel.size
     cases hb:inP p q k j with
     | true =>
      rw[hb] at hsu hcell
      simp only[if_true] at hsu
      have hst:(piL p q k j).map (Value.int .i64)++[Value.int .i64 (j:Int)]=(piL p q k (j+1)).map (Value.int .i64):=by rw[hsu,List.map_append];rfl
      have hl2:(piL p q k (j+1)).length=m+1:=by rw[hsu,List.length_append,HML.o];rfl
      have HST:=Hd hst;have HL2:=Hd hl2
      clear hst hl2 hsu hb hrd
      go_wp2_with (at_builtin;refine Zp rfl (.tmp 40) (.tmp 42) 83 rfl _ 8 Tryz.underlying83 Zu rfl rfl HO2.o _ rfl rfl m ?n1 ?n2 ?n3 ?n4 ?_)
      case n1=>rw[List.length_map,HML.o]
      case n2=>omega
      case n3=>decide
      case n4=>exact hsl
      intro A2 c2 w2 hown2 hbel2 hsz2
      rw[HST.o] at hown2
      have HO3:=Hd hown2;clear hown2
      go_wp2_with fail
      go_roundw
      case rel=>exact⟨j+1,m+1,A2,c2,by omega,by omega,by go_num,rfl,HL2.o,HO3.o,hbel.trans hbel2⟩
      case measure=>simp[intOf];omega
     | false =>
      rw[hb] at hsu hcell
      have hsu2:piL p q k (j+1)=piL p q k j:=by rw[hsu];rfl
      have HSU:=Hd hsu2
      clear hsu hsu2 hb hrd
      go_wp2_with fail
      go_roundw
      case rel=>exact⟨j+1,m,A,c,by omega,by omega,by go_num,rfl,by rw[HSU.o];exact HML.o,by rw[HSU.o];exact HO2.o,hbel⟩
      case measure=>simp[intOf];omega
    ·have hjq2:j=q:=by omega
     subst hjq2
     have hO:=HO2.o
     have hM:=HML.o
     rw[HPI.o] at hO hM
     subst hM
     have HO3:=Hd hO
     clear hO HO2 HML
     go_wp2_with fail
     go_ret
     exact⟨A,c,rfl,HO3.o.lower hz0,HB.o.trans (hbel.mono hz0)⟩
theorem ZbV (p q n:Int) (hp:I64 p) (hq:I64 q) (hn:I64 n) (h:¬ Vh p q n=true) (w:World) :
  Calls Tryz.prog 240 #[.int .i64 p,.int .i64 q,.int .i64 n] w fun e w'=>e=.returned (.slice none 0 0)∧w=w':=by
 have HGA:=Hd (fun v=>ZiD p q n hp hq hn h v)
 clear h
 go_enter Tryz.func240,Tryz.ntmps240
 go_wp2_with fail
 refine (HGA.o _).mono ?_
 rintro e w' ⟨rfl,rfl⟩
 go_wp2_with fail
 go_ret
 exact⟨rfl,rfl⟩
theorem Wr (p q n:Int) (hq:0≤q→q≤1000→True) (l:List Int) (hl:l.length≤400) (hbd:∀ x∈l,0≤x∧x<q∧q≤1000) (w:World)
  (hpt:Calls Tryz.prog 240 #[.int .i64 p,.int .i64 q,.int .i64 n] w fun e w'=>∃ A c,e=.returned (.slice A l.length c)∧Own w' w.heap.size 3 (.slice A l.length c) (l.map (Value.int .i64))∧Below w.heap.size w w') :
  Calls Tryz.prog 169 #[.int .i64 p,.int .i64 q,.int .i64 n] w fun e w'=>∃ A c,e=.returned (.slice A (gpL l q).length c)∧Own w' w.heap.size 3 (.slice A (gpL l q).length c) ((gpL l q).map (Value.int .i64))∧Below w.heap.size w w':=by
 have HPT:=Hd hpt;have HBD:=Hd hbd
 clear hpt hbd hq
 obtain⟨m,hm⟩:∃ m,l.length=m:=⟨_,rfl⟩
 rw[hm] at HPT hl
 have hgl:(gpL l q).length=m:=by rw[gpL,JB,hm]
 have HM:=Hd hm
 rw[hgl]
 have hgp:gpL l q=gpT l q m:=by rw[gpL,hm]
 rw[hgp]
 clear hm hgl hgp
 go_enter Tryz.func169,Tryz.ntmps169
 go_wp2_with fail
 refine HPT.o.mono ?_
 rintro e w1 ⟨A0,c0,rfl,o1,b1⟩
 have hr1:=o1.reads
 have HR1:=Hd hr1
 have z1:=b1.size
 clear o1 hr1
 go_wp2_with fail
 go_loopw [8,9,10,18] (fun v _ _ i wr=>∃ (k:Nat) (A:Option Addr) (c:Nat),k≤m∧i=.int .i64 k∧v=.slice A k c∧Own wr w1.heap.size 3 (.slice A k c) ((gpT l q k).map (Value.int .i64))∧Below w1.heap.size w1 wr) (fun _ _ _ i _=>m - (intOf i).toNat)
 case atStart=>exact⟨0,_,_,by omega,rfl,rfl,Own.empty nlr,(Below.refl _ _).alloc nlr _⟩
 case round =>
  obtain⟨k,A,c,hk,rfl,rfl,hown,hbel⟩:=hrel
  have HO:=Hd hown;clear hown
  by_cases hlt:k<m
  ·obtain⟨x,hx⟩:=Zc (l:=l) (k:=k) (by have:=HM.o;omega)
   obtain⟨y,hy⟩:=Zc (l:=l) (k:=0) (by have:=HM.o;omega)
   have hxb:=HBD.o x (List.mem_of_getElem? hx)
   have hyb:=HBD.o y (List.mem_of_getElem? hy)
   obtain⟨hx0,hx1,hq9⟩:=hxb
   obtain⟨hy0,hy1,_⟩:=hyb
   have hrd:=HR1.o.below hbel nlr
   obtain⟨ad,hA0,hcx⟩:=hrd.at_ (Zs (Value.int .i64) hx)
   obtain⟨ad2,hA02,hcy⟩:=hrd.at_ (Zs (Value.int .i64) hy)
   rw[hA0] at hA02
   injection hA02 with hA02
   subst hA02
   have hxd:l.getD k 0=x:=by rw[List.getD_eq_getElem?_getD,hx];rfl
   have hyd:l.getD 0 0=y:=by rw[List.getD_eq_getElem?_getD,hy];rfl
   have hsl:=hbel.size
   have hsuc:=Yg l q k
   unfold gpA at hsuc
   rw[HM.o,hxd,hyd] at hsuc
   by_cases hk1:k+1<m
   ·obtain⟨z,hz⟩:=Zc (l:=l) (k:=k+1) (by have:=HM.o;omega)
    obtain⟨hz0,hz1,_⟩:=HBD.o z (List.mem_of_getElem? hz)
    obtain⟨ad3,hA03,hcz⟩:=hrd.at_ (Zs (Value.int .i64) hz)
    rw[hA0] at hA03
    injection hA03 with hA03
    subst hA03
    have hzd:l.getD (k+1) 0=z:=by rw[List.getD_eq_getElem?_getD,hz];rfl
    rw[if_pos hk1,hzd] at hsuc
    have hst:(gpT l q k).map (Value.int .i64)++[Value.int .i64 (z - x)]=(gpT l q (k+1)).map (Value.int .i64):=by rw[hsuc,List.map_append];rfl
    have HST:=Hd hst
    have hk2:(k:Int)+1<(m:Int):=by omega
    have hki:((k+1:Nat):Int)=(k:Int)+1:=by omega
    have hk8:(0:Int)≤(k:Int)+1:=by omega
    have hadd:ad.add (k+1)=⟨ad.block,ad.off+(k+1),none⟩:=by simp[Addr.add]
    have hc1:wr.cell? ⟨ad.block,ad.off+(k+1),none⟩=some (.int .i64 z):=by rw[← hadd];exact hcz
    subst hA0
    clear hst hsuc hxd hyd hzd hrd hx hy hz hadd
    have hlen:((gpT l q k).map (Value.int .i64)).length=k:=by rw[List.length_map,JB]
    have HLE:=Hd hlen;clear hlen
    have hk9:k<4294967296:=by omega
    go_wp2_with (at_builtin;refine Zp rfl (.tmp 28) (.tmp 36) 83 rfl _ 8 Tryz.underlying83 Zu rfl rfl HO.o _ rfl rfl k HLE.o hk9 (by decide) hsl ?_)
    intro A2 c2 w2 hown2 hbel2 hsz2
    rw[HST.o] at hown2
    have HO2:=Hd hown2;clear hown2
    go_wp2_with fail
    go_roundw
    case rel=>exact⟨k+1,A2,c2,by omega,by go_num,rfl,HO2.o,hbel.trans hbel2⟩
    case measure=>simp[intOf];omega
   ·rw[if_neg hk1] at hsuc
    have hst:(gpT l q k).map (Value.int .i64)++[Value.int .i64 (q - x+y)]=(gpT l q (k+1)).map (Value.int .i64):=by rw[hsuc,List.map_append,show y+q - x=q - x+y by omega];rfl
    have HST:=Hd hst
    have hk2:¬ ((k:Int)+1<(m:Int)):=by omega
    have hm0:(0:Int)<(m:Int):=by omega
    have hc1:wr.cell? ad=some (.int .i64 y):=by have h:=hcy;rwa[show ad.add 0=ad from by simp[Addr.add]] at h
    subst hA0
    clear hst hsuc hxd hyd hrd hx hy
    have hlen:((gpT l q k).map (Value.int .i64)).length=k:=by rw[List.length_map,JB]
    have HLE:=Hd hlen;clear hlen
    have hk9:k<4294967296:=by omega
    go_wp2_with (at_builtin;refine Zp rfl (.tmp 38) (.tmp 46) 83 rfl _ 8 Tryz.underlying83 Zu rfl rfl HO.o _ rfl rfl k HLE.o hk9 (by decide) hsl ?_)
    intro A2 c2 w2 hown2 hbel2 hsz2
    rw[HST.o] at hown2
    have HO2:=Hd hown2;clear hown2
    go_wp2_with fail
    go_roundw
    case rel=>exact⟨k+1,A2,c2,by omega,by go_num,rfl,HO2.o,hbel.trans hbel2⟩
    case measure=>simp[intOf];omega
  ·have hkm:k=m:=by omega
   subst hkm
   go_wp2_with fail
   go_ret
   exact⟨A,c,rfl,HO.o.lower z1,b1.trans (hbel.mono z1)⟩
theorem ZkE (p q n:Int):(gaG p q n).length≤400:=by
 by_cases h:Vh p q n=true
 ·rw[show gaG p q n=gpL (ptL p.toNat q.toNat n.toNat) q from if_pos h,gpL,JB,ptL]
  obtain⟨h1,h2,h3⟩:=QE.1 h
  exact Nat.le_trans (Yf _) (by rw[Jj];omega)
 ·rw[show gaG p q n=[] from if_neg h];exact Nat.zero_le _
theorem Zdv (p q n:Int) (hp:I64 p) (hq:I64 q) (hn:I64 n) (w:World) :
  Calls Tryz.prog 169 #[.int .i64 p,.int .i64 q,.int .i64 n] w fun e w'=>∃ A c,e=.returned (.slice A (gaG p q n).length c)∧Own w' w.heap.size 3 (.slice A (gaG p q n).length c) ((gaG p q n).map (Value.int .i64))∧Below w.heap.size w w':=by
 by_cases h:Vh p q n=true
 ·obtain⟨h1,h2,h3⟩:=QE.1 h
  obtain⟨P,rfl⟩:=Int.eq_ofNat_of_zero_le h2.1
  obtain⟨Q,rfl⟩:=Int.eq_ofNat_of_zero_le (show 0≤q by omega)
  obtain⟨N,rfl⟩:=Int.eq_ofNat_of_zero_le (show 0≤n by omega)
  have hv:gaG P Q N=gpL (ptL P Q N) Q:=if_pos h
  rw[hv]
  have hb:=ZbS (p:=P) (q:=Q) (n:=N) (by omega)
  exact Wr P Q N (fun _ _=>trivial) (ptL P Q N) (Nat.le_trans (Yf _) (by rw[Jj];omega)) (fun x hx=>⟨(hb x hx).1,(hb x hx).2,by omega⟩) w (Zas P Q N h w)
 ·have hv:gaG p q n=gpL [] q:=by rw[show gaG p q n=[] from if_neg h];rfl
  rw[hv]
  refine Wr p q n (fun _ _=>trivial) [] (by decide) (fun x hx=>by cases hx) w ?_
  refine (ZbV p q n hp hq hn h w).mono ?_
  rintro e w' ⟨rfl,rfl⟩
  exact⟨none,0,rfl,Own.nil,Below.refl _ _⟩
theorem Xw (p q n:Int) (hp:I64 p) (hq:I64 q) (hn:I64 n) (w:World) :
  Calls Tryz.prog 89 #[.int .i64 p,.int .i64 q,.int .i64 n] w fun e w'=>∃ g c,e=.returned (.slice (some ⟨g,0,none⟩) (gaV p q n).length c)∧IntAt w' g c (gaV p q n)∧Below w.heap.size w w':=by
 have hgo:=fun v=>Zdv p q n hp hq hn v
 have hlen:=ZkE p q n
 rw[gaV,← Zdl]
 obtain⟨l,hl⟩:∃ l,gaG p q n=l:=⟨_,rfl⟩
 rw[hl] at hgo hlen ⊢
 have HG:=Hd hgo
 clear hgo hl
 obtain⟨m,hm⟩:∃ m,l.length=m:=⟨_,rfl⟩
 have HM:=Hd hm
 rw[hm] at HG hlen
 obtain⟨R,hR⟩:∃ R,l.foldl J1 []=R:=⟨_,rfl⟩
 rw[hR]
 have hrel0:(l.drop 0).foldl J1 []=R:=by rw[List.drop_zero];exact hR
 have HR0:=Hd hrel0
 clear hm hR hrel0
 have h0:IntAt (w.alloc (.cells #[] 3)) w.heap.size 0 []:=⟨Nat.le_refl _,by decide,by simp,fun j s h=>by simp at h⟩
 have b0:Below w.heap.size w (w.alloc (.cells #[] 3)):=(Below.refl _ _).alloc nlr _
 have z0:(w.alloc (.cells #[] 3)).heap.size=w.heap.size+1:=by simp
 have HH0:=Hd h0
 clear h0
 go_enter Tryz.func89,Tryz.ntmps89
 go_wp2_with fail
 refine (HG.o _).mono ?_
 rintro e w1 ⟨A,c,rfl,o1,b1⟩
 have hr1:=o1.reads
 have h1:=HH0.o.below b1
 have bw1:Below w.heap.size w w1:=b0.trans (b1.mono (by omega))
 have z1:=b1.size
 have HR1:=Hd hr1;have HH1:=Hd h1;have BW1:=Hd bw1
 clear o1 hr1 h1 bw1 HH0
 go_wp2_with fail
 go_loopw [7,9,16] (fun v _ i wr=>∃ (k n:Nat) (g c:Nat) (xs:List Int),k≤m∧n≤k∧i=.int .i64 k∧v=.slice (some ⟨g,0,none⟩) n c∧xs.length=n∧IntAt wr g c xs∧(l.drop k).foldl J1 xs=R∧Below w1.heap.size w1 wr) (fun _ _ i _=>m - (intOf i).toNat)
 case atStart=>exact⟨0,0,_,_,[],by omega,by omega,rfl,rfl,rfl,HH1.o,HR0.o,Below.refl _ _⟩
 case round =>
  obtain⟨k,j,g,c2,xs,hk,hjk,rfl,rfl,hxl,hat,hfo,hbel⟩:=hrel
  have HXL:=Hd hxl;have HAT:=Hd hat;have HFO:=Hd hfo
  clear hxl hat hfo
  by_cases hlt:k<m
  ·obtain⟨x,hx⟩:=Zc (l:=l) (k:=k) (by have:=HM.o;omega)
   obtain⟨ad,rfl,hcx⟩:=(HR1.o.below hbel nlr).at_ (Zs (Value.int .i64) hx)
   have hfo2:(l.drop (k+1)).foldl J1 (J1 xs x)=R:=by rw[← HFO.o,ZT hx,List.foldl_cons]
   have hin:=Zar xs x g c2 wr (by rw[HXL.o];omega) HAT.o
   have hil:=Ziu xs x
   rw[HXL.o] at hin hil
   obtain⟨ys,hys⟩:∃ ys,J1 xs x=ys:=⟨_,rfl⟩
   obtain⟨j2,hj2⟩:∃ j2,ys.length=j2:=⟨_,rfl⟩
   rw[hys] at hin hil hfo2
   rw[hj2] at hin hil
   have HIN:=Hd hin;have HF2:=Hd hfo2;have HJ2:=Hd hj2
   clear hin hfo2 hx hys hj2
   go_wp2_with fail
   refine HIN.o.mono ?_
   rintro e w2 ⟨g2,c3,rfl,hat2,b2⟩
   have HA2:=Hd hat2
   clear hat2
   go_wp2_with fail
   go_roundw
   case rel=>exact⟨k+1,j2,g2,c3,ys,by omega,by omega,by go_num,rfl,HJ2.o,HA2.o,HF2.o,hbel.trans (b2.mono hbel.size)⟩
   case measure=>simp[intOf];omega
  ·have hkm:k=m:=by omega
   subst hkm
   have hd:l.drop k=[]:=List.drop_eq_nil_of_le (by have:=HM.o;omega)
   have hfin:xs=R:=by rw[← HFO.o,hd];rfl
   have HF:=Hd hfin
   clear hd hfin
   go_wp2_with fail
   go_ret
   exact⟨g,c2,by rw[← HF.o,HXL.o];rfl,by rw[← HF.o];exact HAT.o,BW1.out.trans (hbel.mono (by omega))⟩
end Go.Proofs.YtocbgldilgemoaaGreatDoor
