/- Sums of Fibonacci numbers (numerals), classes by digits, both. No condition but the bounds. -/
import Derived.Test.YtocbgldilgemoaaGreatDoorM1
namespace Go.Proofs.YtocbgldilgemoaaGreatDoor
set_option maxRecDepth 4000
set_option maxHeartbeats 2000000
open Go.RowKit
set_option linter.unusedVariables false
def wp2:Nat→Nat × Nat
 | 0=>(1,2)
 | n+1=>((wp2 n).2,(wp2 n).1+(wp2 n).2)
def wt (n:Nat):Nat:=(wp2 n).1
theorem Zcv (n:Nat):wt (n+2)=wt n+wt (n+1):=rfl
theorem Zln:∀ n,wt n≤2 ^ (n+1)∧wt (n+1)≤2 ^ (n+2)
 | 0=>by decide
 | n+1=>by
  have:=Zln n
  rw[Zcv]
  refine⟨this.2,?_⟩
  rw[Nat.pow_succ 2 (n+2)]
  have h2:2 ^ (n+1)≤2 ^ (n+2):=Nat.pow_le_pow_right (by decide) (by omega)
  omega
theorem Xn {n:Nat} (h:n≤61):wt n≤4611686018427387904:=by
 refine Nat.le_trans (Zln n).1 ?_
 calc 2 ^ (n+1)≤2 ^ 62:=Nat.pow_le_pow_right (by decide) (by omega)
  _=4611686018427387904:=by decide
theorem Zfo:∀ n,0<wt n∧0<wt (n+1)
 | 0=>by decide
 | n+1=>by have:=Zfo n;rw[Zcv];omega
theorem Zl8:1000000000000<wt 60:=by decide +kernel
def wtL (n:Nat):List Int:=(List.range n).map fun i=>(wt i:Int)
theorem YG (n:Nat):(wtL n).length=n:=by simp[wtL]
theorem Zcw {n k:Nat} (h:k<n):(wtL n)[k]? = some (wt k:Int):=by simp[wtL,h]
theorem Zee (n:Nat):wtL (n+1)=wtL n++[(wt n:Int)]:=by simp[wtL,List.range_succ]
def nm:Nat→Nat→List UInt8→List UInt8
 | 0,_,acc=>acc
 | i+1,n,acc=>if wt i≤n then nm i (n - wt i) (acc++[49]) else nm i n (if acc.length=0 then acc else acc++[48])
def Jm (n:Nat):List UInt8:=nm 60 n []
theorem Zk9 {n:Nat} (h:n≤1000000000000):nm 61 n []=Jm n:=by
 have:=Zl8
 rw[nm,if_neg (by omega)];rfl
theorem Zcx:∀ i n acc,(nm i n acc).length≤acc.length+i
 | 0,n,acc=>by simp[nm]
 | i+1,n,acc=>by
  unfold nm
  split
  ·have:=Zcx i (n - wt i) (acc++[49]);simp at this ⊢;omega
  ·split
   ·have:=Zcx i n acc;omega
   ·have:=Zcx i n (acc++[48]);simp at this ⊢;omega
def ZlV:Value→Nat
 | .slice _ n _=>n
 | _=>0
theorem Zcy (w:World) :
  Calls Tryz.prog 298 #[.int .i64 61] w fun e w'=>∃ g c,e=.returned (.slice (some ⟨g,0,none⟩) 61 c)∧Own w' w.heap.size 3 (.slice (some ⟨g,0,none⟩) 61 c) ((wtL 61).map (Value.int .i64))∧Below w.heap.size w w':=by
 go_enter Tryz.func298,Tryz.ntmps298
 go_wp2_with fail
 go_loopw [3] (fun v wr=>∃ m g c:Nat,2≤m∧m≤61∧v=.slice (some ⟨g,0,none⟩) m c∧Own wr w.heap.size 3 (.slice (some ⟨g,0,none⟩) m c) ((wtL m).map (Value.int .i64))∧Below w.heap.size w wr) (fun v _=>61 - ZlV v)
 case atStart =>
  refine⟨2,w.heap.size,2,by omega,by omega,rfl,?_,(Below.refl _ _).alloc nlr _⟩
  have h:=World.ownsRow_lit (base:=w.heap.size) (e:=3) (size:=1) w #[.int .i64 1,.int .i64 2] 2 nlr (by unfold maxLen;omega) rfl
  exact h
 case round =>
  obtain⟨m,g,c,hm2,hm,rfl,hown,hbel⟩:=hrel
  have HO:=Hd hown
  have hsz:=hbel.size
  clear hown
  by_cases hlt:m<61
  ·obtain⟨k1,hk1⟩:∃ k,k+1=m:=⟨m - 1,by omega⟩
   obtain⟨k2,hk2⟩:∃ k,k+2=m:=⟨m - 2,by omega⟩
   have q1:IntKind.i64.wrap ((m:Int) - 1)=(k1:Int):=by rw[IntWalk.i64_in _ (by omega)];omega
   have q2:IntKind.i64.wrap ((m:Int) - 2)=(k2:Int):=by rw[IntWalk.i64_in _ (by omega)];omega
   have l1:k1<m:=by omega
   have l2:k2<m:=by omega
   obtain⟨ga,hga,_,_,hca,_,_⟩:=HO.o.store (k:=k1) (by rw[List.length_map,YG];exact l1)
   obtain⟨gb,hgb,_,_,hcb,_,_⟩:=HO.o.store (k:=k2) (by rw[List.length_map,YG];exact l2)
   injection hga with hga
   injection hga with hga
   subst hga
   injection hgb with hgb
   injection hgb with hgb
   subst hgb
   rw[Zs (Value.int .i64) (Zcw l1)] at hca
   rw[Zs (Value.int .i64) (Zcw l2)] at hcb
   have hsum:wt m=wt k2+wt k1:=by rw[← hk2,Zcv];congr 2;omega
   have b1:=Xn (n:=k1) (by omega)
   have b2:=Xn (n:=k2) (by omega)
   have bm:=Xn (n:=m) (by omega)
   obtain⟨x1,hx1⟩:∃ x,wt k1=x:=⟨_,rfl⟩
   obtain⟨x2,hx2⟩:∃ x,wt k2=x:=⟨_,rfl⟩
   obtain⟨x3,hx3⟩:∃ x,wt m=x:=⟨_,rfl⟩
   rw[hx1] at hca hsum b1
   rw[hx2] at hcb hsum b2
   rw[hx3] at hsum bm
   have q3:IntKind.i64.wrap ((x1:Int)+(x2:Int))=(x3:Int):=by rw[IntWalk.i64_in _ (by omega)];omega
   have HX3:=Hd hx3
   have hl3:((wtL m).map (Value.int .i64)).length=m:=by rw[List.length_map,YG]
   have HL3:=Hd hl3
   have hm9:m<4294967296:=by omega
   have i1:(k1:Int)<(m:Int):=by omega
   have i2:(k2:Int)<(m:Int):=by omega
   clear hx1 hx2 hx3 hsum hl3 hk1 hk2
   go_wp2_with fail
   go_region_law (refine Za8 rfl (.tmp 9) (.tmp 23) 83 rfl _ 8 Tryz.underlying83 Zu rfl m c rfl HO.o rfl (by rfl) HL3.o hm9 (by decide) hsz ?_;intro g4 c4 w4 ha4)
   all_goals
    have hown4:=ha4.own
    rw[show (wtL m).map (Value.int .i64)++[Value.int .i64 (x3:Int)]=(wtL (m+1)).map (Value.int .i64) from by rw[Zee,HX3.o,List.map_append];rfl] at hown4
    have HO4:=Hd hown4
    have hbel4:=hbel.trans ha4.bel
    clear ha4 hown4
    go_wp2_with fail
    refine⟨⟨_,_,_,_,_,_,_,_,_,_,_,_,_,_,_,_,_,_,_,_,_,⟨m+1,g4,c4,by omega,by omega,rfl,HO4.o,hbel4⟩,rfl⟩,?_⟩
    show 61 - (m+1)<61 - m
    omega
  ·have hme:m=61:=by omega
   subst hme
   have hcl:61≤c:=by
    obtain⟨_,_,hv,h1,_,_⟩:=HO.o.shape
    injection hv with e1 e2 e3
    rw[List.length_map,YG] at h1
    omega
   go_wp2_with fail
   go_ret
   exact⟨g,c,rfl,HO.o,hbel⟩
theorem Zcz (w:World) :
  Calls Tryz.prog 280 #[.int .i64 60] w fun e w'=>∃ g c,e=.returned (.slice (some ⟨g,0,none⟩) 60 c)∧Own w' w.heap.size 3 (.slice (some ⟨g,0,none⟩) 60 c) ((wtL 60).map (Value.int .i64))∧Below w.heap.size w w':=by
 go_enter Tryz.func280,Tryz.ntmps280
 go_wp2_with fail
 go_loopw [3,4,5,6,7] (fun v a b i _ wr=>∃ m g c:Nat,m≤60∧i=.int .i64 m∧v=.slice (some ⟨g,0,none⟩) m c∧a=.int .i64 (wt m)∧b=.int .i64 (wt (m+1))∧Own wr w.heap.size 3 (.slice (some ⟨g,0,none⟩) m c) ((wtL m).map (Value.int .i64))∧Below w.heap.size w wr) (fun _ _ _ i _ _=>60 - (intOf i).toNat)
 case atStart=>exact⟨0,w.heap.size,0,by omega,rfl,rfl,rfl,rfl,Own.empty nlr,(Below.refl _ _).alloc nlr _⟩
 case round =>
  obtain⟨m,g,c,hm,rfl,rfl,rfl,rfl,hown,hbel⟩:=hrel
  have HO:=Hd hown
  have hsz:=hbel.size
  clear hown
  by_cases hlt:m<60
  ·have b1:=Xn (n:=m) (by omega)
   have b2:=Xn (n:=m+1) (by omega)
   have hrec:=Zcv m
   have b3:=Xn (n:=m+2) (by omega)
   rw[hrec] at b3
   obtain⟨x1,hx1⟩:∃ x,wt m=x:=⟨_,rfl⟩
   obtain⟨x2,hx2⟩:∃ x,wt (m+1)=x:=⟨_,rfl⟩
   rw[hx1,hx2] at hrec
   rw[hx1,hx2] at b3
   rw[hx1] at b1
   rw[hx2] at b2
   rw[hx1,hx2]
   have q3:IntKind.i64.wrap ((x1:Int)+(x2:Int))=(x1:Int)+(x2:Int):=IntWalk.i64_in _ (by omega)
   have HX1:=Hd hx1;have HX2:=Hd hx2;have HREC:=Hd hrec
   have hl3:((wtL m).map (Value.int .i64)).length=m:=by rw[List.length_map,YG]
   have HL3:=Hd hl3
   have hm9:m<4294967296:=by omega
   clear hx1 hx2 hrec hl3
   go_wp2_with (at_builtin;refine Zx rfl (.tmp 14) (.tmp 16) 83 rfl _ 8 Tryz.underlying83 Zu rfl m c rfl HO.o _ rfl rfl HL3.o hm9 (by decide) hsz ?_)
   intro g4 c4 w4 ha4
   have hown4:=ha4.own
   rw[show (wtL m).map (Value.int .i64)++[Value.int .i64 (x1:Int)]=(wtL (m+1)).map (Value.int .i64) from by rw[Zee,HX1.o,List.map_append];rfl] at hown4
   have HO4:=Hd hown4
   have hbel4:=hbel.trans ha4.bel
   clear ha4 hown4
   go_wp2_with fail
   go_roundw
   case rel=>exact⟨m+1,g4,c4,by omega,by go_num,rfl,by rw[HX2.o],by rw[HREC.o];rfl,HO4.o,hbel4⟩
   case measure=>simp[intOf];omega
  ·have hme:m=60:=by omega
   subst hme
   go_wp2_with fail
   go_ret
   exact⟨g,c,rfl,HO.o,hbel⟩
theorem Zj6 (n:Nat) (hn:n≤1000000000000) (w:World) :
  Calls Tryz.prog 265 #[.int .i64 n] w fun e w'=>e=.returned (.string (Zd (Jm n)))∧Below w.heap.size w w':=by
 obtain⟨rr,hrr⟩:∃ rr,Jm n=rr:=⟨_,rfl⟩
 rw[hrr]
 rw[← Zk9 hn] at hrr
 have HRR:=Hd hrr
 clear hrr
 go_enter Tryz.func265,Tryz.ntmps265
 go_wp2_with fail
 refine (Zcy _).mono ?_
 rintro e w1 ⟨gw,cw,rfl,ow,hb1⟩
 have hz1:=hb1.size
 have hrd:=ow.reads
 have HW:=Hd hrd
 clear ow hrd
 go_wp2_with fail
 go_loopw [0,4,5,12,28] (fun x v i _ _ wr=>∃ k j m g c:Nat,∃ acc:List UInt8,k≤61∧m≤61 - k∧j≤1000000000000∧x=.int .i64 j∧i=.int .i64 ((k:Int) - 1)∧v=.slice (some ⟨g,0,none⟩) m c∧acc.length=m∧nm k j acc=rr∧Own wr w1.heap.size 5 (.slice (some ⟨g,0,none⟩) m c) (byV acc)∧Below w1.heap.size w1 wr) (fun _ _ i _ _ _=>(intOf i+1).toNat)
 case atStart=>exact⟨61,n,0,w1.heap.size,0,[],by omega,by omega,hn,rfl,rfl,rfl,rfl,HRR.o,Own.empty nlr,(Below.refl _ _).alloc nlr _⟩
 case round =>
  obtain⟨k,j,m,g,c,acc,hk,hmk,hj,rfl,rfl,rfl,hacc,hg,hown,hbel⟩:=hrel
  have HO:=Hd hown;have HA:=Hd hacc
  have hsz:=hbel.size
  clear hown hacc
  by_cases hk0:k=0
  ·subst hk0
   have hfin:acc=rr:=hg
   subst hfin
   have hcv:=Rds.conv (HO.o.reads) HA.o 22 9 5 c Tryz.underlying22 Tryz.underlying5 Tryz.underlying9
   clear hg
   go_wp2_with fail
   go_ret
   exact⟨rfl,hb1.trans (hbel.mono hz1)⟩
  ·obtain⟨q,rfl⟩:∃ q,k=q+1:=⟨k - 1,by omega⟩
   have hq1:((q+1:Nat):Int) - 1=(q:Int):=by omega
   rw[hq1]
   unfold nm at hg
   have hql:(wtL 61)[q]? = some (wt q:Int):=Zcw (by omega)
   obtain⟨ga,hga,hcw⟩:=(HW.o.below hbel nlr).at_ (Zs (Value.int .i64) hql)
   have hqb:=Xn (n:=q) (by omega)
   have hqp:=(Zfo q).1
   have hqt:q<61:=by omega
   injection hga with hga
   subst hga
   rw[show (⟨gw,0,none⟩:Addr).add q=⟨gw,q,none⟩ from by unfold Addr.add;split<;>simp_all] at hcw
   have hl3:(byV acc).length=m:=by rw[Zm,HA.o]
   have HL3:=Hd hl3
   have hm9:m<4294967296:=by omega
   clear hl3 hql
   by_cases hwn:wt q≤j
   ·rw[if_pos hwn] at hg
    obtain⟨x,hx⟩:∃ x,wt q=x:=⟨_,rfl⟩
    rw[hx] at hg hwn hqb hqp hcw
    have hdif:((j - x:Nat):Int)=(j:Int) - (x:Int):=by omega
    have hge:(x:Int)≤(j:Int):=by omega
    have HG:=Hd hg
    clear hg hx
    go_wp2_with (at_builtin;refine Zx rfl (.tmp 25) (.tmp 26) 22 rfl _ 1 Tryz.underlying22 ZQ rfl m c rfl HO.o _ rfl rfl HL3.o hm9 (by decide) hsz ?_)
    intro g4 c4 w4 ha4
    have hown4:=ha4.own
    rw[show byV acc++[Value.int .u8 49]=byV (acc++[49]) from ZP acc 49] at hown4
    have HO4:=Hd hown4
    have hbel4:=hbel.trans ha4.bel
    clear ha4 hown4
    go_wp2_with fail
    go_roundw
    case rel=>exact⟨q,j - x,m+1,g4,c4,acc++[49],by omega,by omega,by omega,by rw[hdif],by go_num,rfl,by rw[List.length_append,HA.o];rfl,HG.o,HO4.o,hbel4⟩
    case measure=>simp[intOf]<;>omega
   ·rw[if_neg hwn] at hg
    obtain⟨x,hx⟩:∃ x,wt q=x:=⟨_,rfl⟩
    rw[hx] at hwn hqb hqp hcw
    have hge:¬ (x:Int)≤(j:Int):=by omega
    clear hx
    by_cases hm0:m=0
    ·subst hm0
     rw[if_pos HA.o] at hg
     have HG:=Hd hg
     clear hg
     go_wp2_with fail
     go_roundw
     case rel=>exact⟨q,j,0,g,c,acc,by omega,by omega,hj,rfl,by go_num,rfl,HA.o,HG.o,HO.o,hbel⟩
     case measure=>simp[intOf]<;>omega
    ·rw[if_neg (by rw[HA.o];exact hm0)] at hg
     have HG:=Hd hg
     have hmp:(0:Int)<(m:Int):=by omega
     clear hg
     go_wp2_with (at_builtin;refine Zx rfl (.tmp 32) (.tmp 33) 22 rfl _ 1 Tryz.underlying22 ZQ rfl m c rfl HO.o _ rfl rfl HL3.o hm9 (by decide) hsz ?_)
     intro g4 c4 w4 ha4
     have hown4:=ha4.own
     rw[show byV acc++[Value.int .u8 48]=byV (acc++[48]) from ZP acc 48] at hown4
     have HO4:=Hd hown4
     have hbel4:=hbel.trans ha4.bel
     clear ha4 hown4
     go_wp2_with fail
     go_roundw
     case rel=>exact⟨q,j,m+1,g4,c4,acc++[48],by omega,by omega,hj,rfl,by go_num,rfl,by rw[List.length_append,HA.o];rfl,HG.o,HO4.o,hbel4⟩
     case measure=>simp[intOf]<;>omega
theorem Zj7 (n:Nat) (hn:n≤1000000000000) (w:World) :
  Calls Tryz.prog 235 #[.int .i64 n] w fun e w'=>e=.returned (.string (Zd (Jm n)))∧Below w.heap.size w w':=by
 obtain⟨rr,hrr⟩:∃ rr,Jm n=rr:=⟨_,rfl⟩
 rw[hrr]
 have HRR:=Hd hrr
 clear hrr
 go_enter Tryz.func235,Tryz.ntmps235
 go_wp2_with fail
 refine (Zcz _).mono ?_
 rintro e w1 ⟨gw,cw,rfl,ow,hb1⟩
 have hz1:=hb1.size
 have hrd:=ow.reads
 have HW:=Hd hrd
 clear ow hrd
 go_wp2_with fail
 go_loopw [0,4,5] (fun x v i wr=>∃ k j m g c:Nat,∃ acc:List UInt8,k≤60∧m≤60 - k∧j≤1000000000000∧x=.int .i64 j∧i=.int .i64 ((k:Int) - 1)∧v=.slice (some ⟨g,0,none⟩) m c∧acc.length=m∧nm k j acc=rr∧Own wr w1.heap.size 5 (.slice (some ⟨g,0,none⟩) m c) (byV acc)∧Below w1.heap.size w1 wr) (fun _ _ i _=>(intOf i+1).toNat)
 case atStart=>exact⟨60,n,0,w1.heap.size,0,[],by omega,by omega,hn,rfl,rfl,rfl,rfl,HRR.o,Own.empty nlr,(Below.refl _ _).alloc nlr _⟩
 case round =>
  obtain⟨k,j,m,g,c,acc,hk,hmk,hj,rfl,rfl,rfl,hacc,hg,hown,hbel⟩:=hrel
  have HO:=Hd hown;have HA:=Hd hacc
  have hsz:=hbel.size
  clear hown hacc
  by_cases hk0:k=0
  ·subst hk0
   have hfin:acc=rr:=hg
   subst hfin
   have hcv:=Rds.conv (HO.o.reads) HA.o 22 9 5 c Tryz.underlying22 Tryz.underlying5 Tryz.underlying9
   clear hg
   go_wp2_with fail
   go_ret
   exact⟨rfl,hb1.trans (hbel.mono hz1)⟩
  ·obtain⟨q,rfl⟩:∃ q,k=q+1:=⟨k - 1,by omega⟩
   have hq1:((q+1:Nat):Int) - 1=(q:Int):=by omega
   rw[hq1]
   unfold nm at hg
   have hql:(wtL 60)[q]? = some (wt q:Int):=Zcw (by omega)
   obtain⟨ga,hga,hcw⟩:=(HW.o.below hbel nlr).at_ (Zs (Value.int .i64) hql)
   have hqb:=Xn (n:=q) (by omega)
   have hqp:=(Zfo q).1
   have hqt:q<60:=by omega
   injection hga with hga
   subst hga
   rw[show (⟨gw,0,none⟩:Addr).add q=⟨gw,q,none⟩ from by unfold Addr.add;split<;>simp_all] at hcw
   have hl3:(byV acc).length=m:=by rw[Zm,HA.o]
   have HL3:=Hd hl3
   have hm9:m<4294967296:=by omega
   clear hl3 hql
   by_cases hwn:wt q≤j
   ·rw[if_pos hwn] at hg
    obtain⟨x,hx⟩:∃ x,wt q=x:=⟨_,rfl⟩
    rw[hx] at hg hwn hqb hqp hcw
    have hdif:((j - x:Nat):Int)=(j:Int) - (x:Int):=by omega
    have hge:(x:Int)≤(j:Int):=by omega
    have HG:=Hd hg
    clear hg hx
    go_wp2_with (at_builtin;refine Zx rfl (.tmp 24) (.tmp 25) 22 rfl _ 1 Tryz.underlying22 ZQ rfl m c rfl HO.o _ rfl rfl HL3.o hm9 (by decide) hsz ?_)
    intro g4 c4 w4 ha4
    have hown4:=ha4.own
    rw[show byV acc++[Value.int .u8 49]=byV (acc++[49]) from ZP acc 49] at hown4
    have HO4:=Hd hown4
    have hbel4:=hbel.trans ha4.bel
    clear ha4 hown4
    go_wp2_with fail
    go_roundw
    case rel=>exact⟨q,j - x,m+1,g4,c4,acc++[49],by omega,by omega,by omega,by rw[hdif],by go_num,rfl,by rw[List.length_append,HA.o];rfl,HG.o,HO4.o,hbel4⟩
    case measure=>simp[intOf]<;>omega
   ·rw[if_neg hwn] at hg
    obtain⟨x,hx⟩:∃ x,wt q=x:=⟨_,rfl⟩
    rw[hx] at hwn hqb hqp hcw
    have hge:¬ (x:Int)≤(j:Int):=by omega
    clear hx
    by_cases hm0:m=0
    ·subst hm0
     rw[if_pos HA.o] at hg
     have HG:=Hd hg
     clear hg
     go_wp2_with fail
     go_roundw
     case rel=>exact⟨q,j,0,g,c,acc,by omega,by omega,hj,rfl,by go_num,rfl,HA.o,HG.o,HO.o,hbel⟩
     case measure=>simp[intOf]<;>omega
    ·rw[if_neg (by rw[HA.o];exact hm0)] at hg
     have HG:=Hd hg
     have hmp:(0:Int)<(m:Int):=by omega
     clear hg
     go_wp2_with (at_builtin;refine Zx rfl (.tmp 30) (.tmp 31) 22 rfl _ 1 Tryz.underlying22 ZQ rfl m c rfl HO.o _ rfl rfl HL3.o hm9 (by decide) hsz ?_)
     intro g4 c4 w4 ha4
     have hown4:=ha4.own
     rw[show byV acc++[Value.int .u8 48]=byV (acc++[48]) from ZP acc 48] at hown4
     have HO4:=Hd hown4
     have hbel4:=hbel.trans ha4.bel
     clear ha4 hown4
     go_wp2_with fail
     go_roundw
     case rel=>exact⟨q,j,m+1,g4,c4,acc++[48],by omega,by omega,hj,rfl,by go_num,rfl,by rw[List.length_append,HA.o];rfl,HG.o,HO4.o,hbel4⟩
     case measure=>simp[intOf]<;>omega
end Go.Proofs.YtocbgldilgemoaaGreatDoor
