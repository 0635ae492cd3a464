/- GapLengths, the program's. Asks the shelf's text. No condition but the bounds. -/
import Derived.Test.YtocbgldilgemoaaGreatDoorM4
namespace Go.Proofs.YtocbgldilgemoaaGreatDoor
set_option maxHeartbeats 1000000
open Go.RowKit
set_option linter.unusedVariables false
theorem QE {p q n:Int}:Vh p q n=true↔(1≤q∧q≤1000)∧(0≤p∧p≤q - 1)∧1≤n∧n≤400:=by
 rw[Vh,Bool.and_eq_true,Bool.and_eq_true,decide_eq_true_eq,decide_eq_true_eq,decide_eq_true_eq]
theorem Zdh (p q n:Int) (h:Vh p q n=true) (w:World) :
  Calls Tryz.prog 271 #[.int .i64 p,.int .i64 q,.int .i64 n] w fun e w'=>e=.returned (.bool true)∧w=w':=by
 obtain⟨hq,hp,hn⟩:=QE.1 h
 clear h
 go_enter Tryz.func271,Tryz.ntmps271
 go_wp2_with (go_at_call 65;refine (Zo _ _ _ (by omega) _).mono ?_;rintro e w' ⟨rfl,rfl⟩)
 go_ret
 exact⟨rfl,rfl⟩
theorem ZeO (p q n:Int) (hp:I64 p) (hq:I64 q) (hn:I64 n) (h:¬ Vh p q n=true) (w:World) :
  Calls Tryz.prog 271 #[.int .i64 p,.int .i64 q,.int .i64 n] w fun e w'=>e=.returned (.bool false)∧w=w':=by
 rw[QE] at h
 by_cases h1:1≤q∧q≤1000
 ·by_cases h2:0≤p∧p≤q - 1
  ·have h3:¬ (1≤n∧n≤400):=fun h3=>h ⟨h1,h2,h3⟩
   clear h
   go_enter Tryz.func271,Tryz.ntmps271
   go_wp2_with (go_at_call 65;first|(refine (Zo _ _ _ (by omega) _).mono ?_;rintro e w' ⟨rfl,rfl⟩)|(refine (ZK _ _ _ (by omega) _).mono ?_;rintro e w' ⟨rfl,rfl⟩))
   go_ret
   exact⟨rfl,rfl⟩
  ·clear h
   go_enter Tryz.func271,Tryz.ntmps271
   go_wp2_with (go_at_call 65;first|(refine (Zo _ _ _ (by omega) _).mono ?_;rintro e w' ⟨rfl,rfl⟩)|(refine (ZK _ _ _ (by omega) _).mono ?_;rintro e w' ⟨rfl,rfl⟩))
   go_ret
   exact⟨rfl,rfl⟩
 ·clear h
  go_enter Tryz.func271,Tryz.ntmps271
  go_wp2_with (go_at_call 65;first|(refine (Zo _ _ _ (by omega) _).mono ?_;rintro e w' ⟨rfl,rfl⟩)|(refine (ZK _ _ _ (by omega) _).mono ?_;rintro e w' ⟨rfl,rfl⟩))
  go_ret
  exact⟨rfl,rfl⟩
theorem ZbP (p q n:Nat) (hq1:1≤q) (hq:q≤1000) (hp:p≤q) (hn:n≤400) (w:World) :
  Calls Tryz.prog 272 #[.int .i64 p,.int .i64 q,.int .i64 n] w fun e w'=>∃ A c,e=.returned (.slice A (ptL p q n).length c)∧Own w' w.heap.size 3 (.slice A (ptL p q n).length c) ((ptL p q n).map (Value.int .i64))∧Below w.heap.size w w':=by
 go_enter Tryz.func272,Tryz.ntmps272
 go_wp2_with fail
 go_loopw [7,8,11] (fun v _ i wr=>∃ (k:Nat) (A:Option Addr) (c:Nat),k≤n∧i=.int .i64 k∧v=.slice A k c∧Own wr w.heap.size 3 (.slice A k c) ((stL p q k).map (Value.int .i64))∧Below w.heap.size w wr) (fun _ _ i _=>n - (intOf i).toNat)
 case atStart=>exact⟨0,_,_,by omega,rfl,rfl,Own.empty nlr,(Below.refl _ _).alloc nlr _⟩
 case round =>
  obtain⟨k,A,c,hk,rfl,rfl,hown,hbel⟩:=hrel
  have HO:=Hd hown;clear hown
  by_cases hlt:k<n
  ·obtain⟨u,hu⟩:∃ u:Nat,k * p=u:=⟨_,rfl⟩
   have hu2:u≤400000:=by rw[← hu];exact Nat.le_trans (Nat.mul_le_mul (show k≤400 by omega) (show p≤1000 by omega)) (by decide)
   have e1:(k:Int) * (p:Int)=(u:Int):=by rw[← hu];simp
   obtain⟨x,hx⟩:∃ x:Nat,u % q=x:=⟨_,rfl⟩
   have hxq:x<q:=by rw[← hx];exact Nat.mod_lt _ (by omega)
   have e3:(u:Int) % (q:Int)=(x:Int):=by rw[← hx];simp
   have hq0:¬ (q:Int)=0:=by omega
   have hq00:((q:Int)==0)=false:=beq_eq_false_iff_ne.2 hq0
   have hq2:(0:Int)<(q:Int):=by omega
   have hu0:(0:Int)≤(u:Int):=by omega
   have hst:(stL p q k).map (Value.int .i64)++[Value.int .i64 (x:Int)]=(stL p q (k+1)).map (Value.int .i64):=by rw[Ziv,List.map_append,hu,hx];rfl
   have HST:=Hd hst
   have hsl:=hbel.size
   clear hst hu hx
   go_wp2_with (at_builtin;refine Zp rfl (.tmp 14) (.tmp 20) 83 rfl _ 8 Tryz.underlying83 Zu rfl rfl HO.o _ rfl rfl k ?n1 ?n2 ?n3 ?n4 ?_)
   case n1=>rw[List.length_map,Jj]
   case n2=>omega
   case n3=>decide
   case n4=>exact hsl
   intro A2 c2 w2 hown2 hbel2 hsz2
   rw[HST.o] at hown2
   have HO2:=Hd hown2;clear hown2
   go_wp2_with fail
   go_roundw
   case rel=>exact⟨k+1,A2,c2,by omega,by go_num,rfl,HO2.o,hbel.trans hbel2⟩
   case measure=>simp[intOf];omega
  ·have hkn:k=n:=by omega
   subst hkn
   have hso:=Za4 (stL p q k) A k c w.heap.size wr (Jj p q k) (by omega) HO.o
   have hco:=fun v h=>YF (stL p q k) A k c w.heap.size v (Jj p q k) (by omega) h
   have HSO:=Hd hso;have HCO:=Hd hco
   clear hso hco HO hlt
   go_wp2_with fail
   refine HSO.o.mono ?_
   rintro e w1 ⟨rfl,o1,b1⟩
   go_wp2_with fail
   refine (HCO.o _ o1).mono ?_
   rintro e w2 ⟨rfl,o2,b2⟩
   have HO2:=Hd o2
   clear o2 o1
   go_wp2_with fail
   go_ret
   exact⟨A,c,rfl,HO2.o,(hbel.trans b1).trans b2⟩
theorem Zdi (p q n:Nat) (hg:Vh p q n=true) (w:World) :
  Calls Tryz.prog 215 #[.int .i64 p,.int .i64 q,.int .i64 n] w fun e w'=>∃ A c,e=.returned (.slice A (gpL (ptL p q n) q).length c)∧Own w' w.heap.size 3 (.slice A (gpL (ptL p q n) q).length c) ((gpL (ptL p q n) q).map (Value.int .i64))∧Below w.heap.size w w':=by
 obtain⟨hq,hp,hn⟩:=QE.1 hg
 have hpt:=fun v=>ZbP p q n (by omega) (by omega) (by omega) (by omega) v
 have hbd:=ZbS (p:=p) (n:=n) (show 0<q by omega)
 have hln:(ptL p q n).length≤n:=by rw[ptL];exact Nat.le_trans (Yf _) (by rw[Jj];exact Nat.le_refl _)
 have hps:0<(ptL p q n).length:=Zdn (by rw[Jj];omega)
 obtain⟨l,hl⟩:∃ l,ptL p q n=l:=⟨_,rfl⟩
 rw[hl] at hpt hbd hln hps ⊢
 have hga:=fun v=>Zdh p q n hg v
 have HPT:=Hd hpt;have HBD:=Hd hbd;have HGA:=Hd hga
 clear hpt hbd hga hg hl
 obtain⟨m,hm⟩:∃ m,l.length=m:=⟨_,rfl⟩
 rw[hm] at HPT hln hps
 have hgl:(gpL l q).length=m:=by rw[gpL,JB,hm]
 have HM:=Hd hm
 rw[hgl]
 have hgp:gpL l q=gpT l q m:=by rw[gpL,hm]
 rw[hgp]
 clear hm hgl hgp
 go_enter Tryz.func215,Tryz.ntmps215
 go_wp2_with fail
 refine (HGA.o _).mono ?_
 rintro e w' ⟨rfl,rfl⟩
 go_wp2_with fail
 refine (HPT.o _).mono ?_
 rintro e w1 ⟨A0,c0,rfl,o1,b1⟩
 have hr1:=o1.reads
 have HR1:=Hd hr1
 have z1:=b1.size
 clear o1 hr1
 go_wp2_with fail
 go_loopw [8,9,22] (fun v _ i wr=>∃ (k:Nat) (A:Option Addr) (c:Nat),k≤m∧i=.int .i64 k∧v=.slice A k c∧Own wr w1.heap.size 3 (.slice A k c) ((gpT l q k).map (Value.int .i64))∧Below w1.heap.size w1 wr) (fun _ _ i _=>m - (intOf i).toNat)
 case atStart=>exact⟨0,_,_,by omega,rfl,rfl,Own.empty nlr,(Below.refl _ _).alloc nlr _⟩
 case round =>
  obtain⟨k,A,c,hk,rfl,rfl,hown,hbel⟩:=hrel
  have HO:=Hd hown;clear hown
  by_cases hlt:k<m
  ·obtain⟨x,hx⟩:=Zc (l:=l) (k:=k) (by have:=HM.o;omega)
   obtain⟨y,hy⟩:=Zc (l:=l) (k:=0) (by have:=HM.o;omega)
   have hxb:=HBD.o x (List.mem_of_getElem? hx)
   have hyb:=HBD.o y (List.mem_of_getElem? hy)
   obtain⟨hx0,hx1⟩:=hxb
   obtain⟨hy0,hy1⟩:=hyb
   have hrd:=HR1.o.below hbel nlr
   obtain⟨ad,hA0,hcx⟩:=hrd.at_ (Zs (Value.int .i64) hx)
   obtain⟨ad2,hA02,hcy⟩:=hrd.at_ (Zs (Value.int .i64) hy)
   rw[hA0] at hA02
   injection hA02 with hA02
   subst hA02
   have hxd:l.getD k 0=x:=by rw[List.getD_eq_getElem?_getD,hx];rfl
   have hyd:l.getD 0 0=y:=by rw[List.getD_eq_getElem?_getD,hy];rfl
   have hsl:=hbel.size
   have hsuc:=Yg l q k
   unfold gpA at hsuc
   rw[HM.o,hxd,hyd] at hsuc
   by_cases hk1:k+1<m
   ·obtain⟨z,hz⟩:=Zc (l:=l) (k:=k+1) (by have:=HM.o;omega)
    obtain⟨hz0,hz1⟩:=HBD.o z (List.mem_of_getElem? hz)
    obtain⟨ad3,hA03,hcz⟩:=hrd.at_ (Zs (Value.int .i64) hz)
    rw[hA0] at hA03
    injection hA03 with hA03
    subst hA03
    have hzd:l.getD (k+1) 0=z:=by rw[List.getD_eq_getElem?_getD,hz];rfl
    rw[if_pos hk1,hzd] at hsuc
    have hst:(gpT l q k).map (Value.int .i64)++[Value.int .i64 (z - x)]=(gpT l q (k+1)).map (Value.int .i64):=by rw[hsuc,List.map_append];rfl
    have HST:=Hd hst
    have hk2:(k:Int)+1<(m:Int):=by omega
    have hki:((k+1:Nat):Int)=(k:Int)+1:=by omega
    subst hA0
    clear hst hsuc hxd hyd hzd hrd hx hy hz
    have hlen:((gpT l q k).map (Value.int .i64)).length=k:=by rw[List.length_map,JB]
    have hw1:IntKind.i64.wrap (z - x)=z - x:=IntWalk.i64_in _ (by omega)
    have hk3:IntKind.i64.wrap ((k:Int)+1)=((k+1:Nat):Int):=by rw[IntWalk.i64_in _ (by omega)];omega
    have hk4:((k+1:Nat):Int)<(m:Int):=by omega
    have hk5:(0:Int)≤((k+1:Nat):Int):=by omega
    have hk6:(k:Int)<(m:Int):=by omega
    have hk7:(0:Int)≤(k:Int):=by omega
    have hk8:(0:Int)≤(k:Int)+1:=by omega
    have hadd:ad.add (k+1)=⟨ad.block,ad.off+(k+1),none⟩:=by simp[Addr.add]
    have hc1:wr.drew.cell? ⟨ad.block,ad.off+(k+1),none⟩=some (.int .i64 z):=by rw[← hadd];exact hcz
    have hc2:wr.drew.cell? (ad.add k)=some (.int .i64 x):=hcx
    have HLE:=Hd hlen;clear hlen
    have hk9:k<4294967296:=by omega
    go_wp2_with fail
    go_region_law (refine V8 rfl (.tmp 30) (.tmp 41) 83 rfl _ 8 Tryz.underlying83 Zu rfl (by rfl) HO.o rfl (by rfl) k HLE.o hk9 (by decide) hsl ?_;intro A2 c2 w2 hown2 hbel2 hsz2)
    all_goals
     try rw[hw1] at hown2
     rw[HST.o] at hown2
     have HO2:=Hd hown2;clear hown2
     go_wp2_with fail
     go_roundw
     case rel=>exact⟨k+1,A2,c2,by omega,by go_num,rfl,HO2.o,hbel.trans hbel2⟩
     case measure=>simp[intOf];omega
   ·rw[if_neg hk1] at hsuc
    have hst:(gpT l q k).map (Value.int .i64)++[Value.int .i64 (y+q - x)]=(gpT l q (k+1)).map (Value.int .i64):=by rw[hsuc,List.map_append];rfl
    have HST:=Hd hst
    have hk2:¬ ((k:Int)+1<(m:Int)):=by omega
    have hm0:(0:Int)<(m:Int):=by omega
    subst hA0
    clear hst hsuc hxd hyd hrd hx hy
    have hlen:((gpT l q k).map (Value.int .i64)).length=k:=by rw[List.length_map,JB]
    have hw1:IntKind.i64.wrap (y+q - x)=y+q - x:=IntWalk.i64_in _ (by omega)
    have hw2:IntKind.i64.wrap (y+(q:Int))=y+q:=IntWalk.i64_in _ (by omega)
    have hk6:(k:Int)<(m:Int):=by omega
    have hk7:(0:Int)≤(k:Int):=by omega
    have hc1:wr.cell? ad=some (.int .i64 y):=by have h:=hcy;rwa[show ad.add 0=ad from by simp[Addr.add]] at h
    have hc2:wr.drew.cell? (ad.add k)=some (.int .i64 x):=hcx
    have HLE:=Hd hlen;clear hlen
    have hk9:k<4294967296:=by omega
    go_wp2_with fail
    go_region_law (refine V8 rfl (.tmp 43) (.tmp 54) 83 rfl _ 8 Tryz.underlying83 Zu rfl (by rfl) HO.o rfl (by rfl) k HLE.o hk9 (by decide) hsl ?_;intro A2 c2 w2 hown2 hbel2 hsz2)
    all_goals
     try rw[hw1] at hown2
     rw[HST.o] at hown2
     have HO2:=Hd hown2;clear hown2
     go_wp2_with fail
     go_roundw
     case rel=>exact⟨k+1,A2,c2,by omega,by go_num,rfl,HO2.o,hbel.trans hbel2⟩
     case measure=>simp[intOf];omega
  ·have hkm:k=m:=by omega
   subst hkm
   go_wp2_with fail
   go_ret
   exact⟨A,c,rfl,HO.o.lower z1,b1.trans (hbel.mono z1)⟩
theorem ZeP (p q n:Int) (hp:I64 p) (hq:I64 q) (hn:I64 n) (h:¬ Vh p q n=true) (w:World) :
  Calls Tryz.prog 215 #[.int .i64 p,.int .i64 q,.int .i64 n] w fun e w'=>e=.returned (.slice none 0 0)∧Below w.heap.size w w':=by
 have HGA:=Hd (fun v=>ZeO p q n hp hq hn h v)
 clear h
 go_enter Tryz.func215,Tryz.ntmps215
 go_wp2_with fail
 refine (HGA.o _).mono ?_
 rintro e w' ⟨rfl,rfl⟩
 go_wp2_with fail
 go_ret
 exact⟨rfl,Below.refl _ _⟩
theorem Xu (p q n:Int) (hp:I64 p) (hq:I64 q) (hn:I64 n) (w:World) :
  Calls Tryz.prog 137 #[.int .i64 p,.int .i64 q,.int .i64 n] w fun e w'=>∃ A c,e=.returned (.slice A (gaV p q n).length c)∧Own w' w.heap.size 3 (.slice A (gaV p q n).length c) ((gaV p q n).map (Value.int .i64))∧Below w.heap.size w w':=by
 have hgo:Calls Tryz.prog 215 #[.int .i64 p,.int .i64 q,.int .i64 n] w fun e w'=>∃ A c,e=.returned (.slice A (gaG p q n).length c)∧Own w' w.heap.size 3 (.slice A (gaG p q n).length c) ((gaG p q n).map (Value.int .i64))∧Below w.heap.size w w':=by
  by_cases h:Vh p q n=true
  ·obtain⟨h1,h2,h3⟩:=QE.1 h
   obtain⟨P,rfl⟩:=Int.eq_ofNat_of_zero_le h2.1
   obtain⟨Q,rfl⟩:=Int.eq_ofNat_of_zero_le (show 0≤q by omega)
   obtain⟨N,rfl⟩:=Int.eq_ofNat_of_zero_le (show 0≤n by omega)
   have hv:gaG P Q N=gpL (ptL P Q N) Q:=if_pos h
   rw[hv]
   exact Zdi P Q N h w
  ·have hv:gaG p q n=[]:=if_neg h
   rw[hv]
   refine (ZeP p q n hp hq hn h w).mono ?_
   rintro e w' ⟨rfl,b⟩
   exact⟨none,0,rfl,Own.nil,b⟩
 have hlen:(gaG p q n).length≤400:=by
  by_cases h:Vh p q n=true
  ·rw[show gaG p q n=gpL (ptL p.toNat q.toNat n.toNat) q from if_pos h,gpL,JB,ptL]
   obtain⟨h1,h2,h3⟩:=QE.1 h
   exact Nat.le_trans (Yf _) (by rw[Jj];omega)
  ·rw[show gaG p q n=[] from if_neg h];exact Nat.zero_le _
 rw[gaV]
 obtain⟨l,hl⟩:∃ l,gaG p q n=l:=⟨_,rfl⟩
 rw[hl] at hgo hlen ⊢
 have HG:=Hd hgo
 clear hgo hl
 go_enter Tryz.func137,Tryz.ntmps137
 go_wp2_with fail
 refine HG.o.mono ?_
 rintro e w1 ⟨A,c,rfl,o1,b1⟩
 have hso:=Za4 l A l.length c w.heap.size w1 rfl (by omega) o1
 have hco:=fun v h=>YF l A l.length c w.heap.size v rfl (by omega) h
 have HSO:=Hd hso;have HCO:=Hd hco
 clear hso hco o1
 go_wp2_with fail
 refine HSO.o.mono ?_
 rintro e w2 ⟨rfl,o2,b2⟩
 go_wp2_with fail
 refine (HCO.o _ o2).mono ?_
 rintro e w3 ⟨rfl,o3,b3⟩
 have HO3:=Hd o3
 clear o2 o3
 go_wp2_with fail
 go_ret
 exact⟨A,c,rfl,HO3.o,(b1.trans b2).trans b3⟩
end Go.Proofs.YtocbgldilgemoaaGreatDoor
