/- Texts of this claim, one behind the other: Drw, Byi, Drx. No condition but what each says. -/
import Derived.Test.YtocbgldilgemoaaGreatDoorM1
namespace Go.Proofs.YtocbgldilgemoaaGreatDoor
open Go.RowKit
set_option maxRecDepth 4000
set_option maxHeartbeats 1000000
set_option linter.unusedVariables false
theorem ZeE (a:Int) (m:Nat) (hm:m<4611686018427387904):∃ k:Nat,bits .and .i64 a (m:Int)=(k:Int)∧k≤m:=by
 have h2:(BitVec.ofInt 64 (m:Int)).toNat=m:=by
  rw[BitVec.ofInt_natCast,BitVec.toNat_ofNat];exact Nat.mod_eq_of_lt (by omega)
 refine⟨(BitVec.ofInt 64 a &&& BitVec.ofInt 64 (m:Int)).toNat,?_,by rw[BitVec.toNat_and,h2];exact Nat.and_le_right⟩
 show IntKind.i64.wrap ((BitVec.ofInt 64 a &&& BitVec.ofInt 64 (m:Int)).toNat:Int)=_
 have h3:(BitVec.ofInt 64 a &&& BitVec.ofInt 64 (m:Int)).toNat≤m:=by rw[BitVec.toNat_and,h2];exact Nat.and_le_right
 exact IntWalk.i64_in _ (by omega)
def CurAt (w:World) (p:Nat) (A:Option Addr) (n c:Nat):Prop :=
 p<w.heap.size∧w.cell? ⟨p,0,none⟩=some (.slice A n c)∧(∃ i:Nat,i≤n∧w.cell? ⟨p,1,none⟩=some (.int .i64 i))∧(∃ h:Int,w.cell? ⟨p,2,none⟩=some (.int .i64 h))∧w.frozen? ⟨p,1,none⟩=false∧w.frozen? ⟨p,2,none⟩=false
theorem CurAt.dr {w w':World} {p:Nat} {A:Option Addr} {n c:Nat} (h:CurAt w p A n c) (hd:Dr w w'):CurAt w' p A n c:=by
 obtain⟨k,rfl⟩:=hd
 exact h
theorem CurAt.set2 {w:World} {p:Nat} {A:Option Addr} {n c:Nat} (h:CurAt w p A n c) (g:Int):CurAt (w.setCell ⟨p,2,none⟩ (.int .i64 g)) p A n c:=by
 obtain⟨c0,c1,⟨i,hi,c2⟩,⟨x,c3⟩,f1,f2⟩:=h
 refine⟨by simpa using c0,?_,⟨i,hi,?_⟩,⟨g,?_⟩,?_,?_⟩
 ·rw[World.cell?_setCell_other _ _ _ _ (by simp)];exact c1
 ·rw[World.cell?_setCell_other _ _ _ _ (by simp)];exact c2
 ·exact World.cell?_setCell_same _ _ _ c3
 ·rw[World.frozen?_setCell];exact f1
 ·rw[World.frozen?_setCell];exact f2
theorem CurAt.set1 {w:World} {p:Nat} {A:Option Addr} {n c:Nat} (h:CurAt w p A n c) (k:Nat) (hk:k≤n):CurAt (w.setCell ⟨p,1,none⟩ (.int .i64 k)) p A n c:=by
 obtain⟨c0,c1,⟨i,hi,c2⟩,⟨x,c3⟩,f1,f2⟩:=h
 refine⟨by simpa using c0,?_,⟨k,hk,?_⟩,⟨x,?_⟩,?_,?_⟩
 ·rw[World.cell?_setCell_other _ _ _ _ (by simp)];exact c1
 ·exact World.cell?_setCell_same _ _ _ c2
 ·rw[World.cell?_setCell_other _ _ _ _ (by simp)];exact c3
 ·rw[World.frozen?_setCell];exact f1
 ·rw[World.frozen?_setCell];exact f2
theorem CurAt.below {w w':World} {p:Nat} {A:Option Addr} {n c:Nat} (h:CurAt w p A n c) (hb:Below w.heap.size w w'):CurAt w' p A n c:=by
 obtain⟨c0,c1,⟨i,hi,c2⟩,⟨x,c3⟩,f1,f2⟩:=h
 have hf:∀ a:Addr,a.block<w.heap.size→w'.frozen? a=w.frozen? a:=fun a ha=>by
  unfold World.frozen?
  rw[hb.block a.block ha]
 refine⟨Nat.lt_of_lt_of_le c0 hb.size,(hb.cell (p:=⟨p,0,none⟩) c0).trans c1,⟨i,hi,(hb.cell (p:=⟨p,1,none⟩) c0).trans c2⟩,⟨x,(hb.cell (p:=⟨p,2,none⟩) c0).trans c3⟩,(hf ⟨p,1,none⟩ c0).trans f1,(hf ⟨p,2,none⟩ c0).trans f2⟩
theorem CurAt.new {w:World} {A:Option Addr} {n c:Nat} {x:Int} {T:TypeId}:CurAt (w.alloc (.cells #[.slice A n c,.int .i64 0,.int .i64 x] T)) w.heap.size A n c:=by
 have h:=heap_alloc_new w (.cells #[.slice A n c,.int .i64 0,.int .i64 x] T)
 exact⟨by simp,cell_of_row _ _ 0 _ _ (0,0) h,⟨0,by omega,cell_of_row _ _ 1 _ _ (0,0) h⟩,⟨x,cell_of_row _ _ 2 _ _ (0,0) h⟩,frozen_of_row _ _ 1 _ _ h,frozen_of_row _ _ 2 _ _ h⟩
theorem ZeF (w:World) (p j:Nat) (v:Value):w.grownBy (w.setCell ⟨p,j,none⟩ v) (some p) :=
 ⟨rfl,rfl,rfl,by simp[World.setCell],fun k hk hne=>Below.heap_setCell _ _ _ _ (fun e=>hne (by simp[e]))⟩
theorem ZaK {w w':World} (h:Dr w w') (row:Option Nat):w.grownBy w' row :=
 have hb:Below w.heap.size w w':=h.below
 ⟨hb.os,hb.tape,hb.output,hb.size,fun k hk _=>hb.block k hk⟩
theorem Xa (p B:Nat) (A:Option Addr) (n c:Nat) (l:List UInt8) (w:World) (hl:l.length=n) (hn:n≤1048576) (hc:CurAt w p A n c) (hrd:Rds w B A (byV l)) (hB:B≤p) :
  Calls Tryz.prog 49 #[.pointer (some ⟨p,0,none⟩)] w fun e w'=>∃ x:Nat,x≤255∧e=.returned (.int .i64 x)∧CurAt w' p A n c∧Below p w w'∧w.grownBy w' (some p):=by
 have HC:=Hd hc
 obtain⟨c0,c1,⟨i,hi,c2⟩,⟨h,c3⟩,f1,f2⟩:=hc
 obtain⟨g,hg⟩:∃ g,wrap64 (wrap64 (h * 6364136223846793005)+1442695040888963407)=g:=⟨_,rfl⟩
 obtain⟨x,hx,hx2⟩:=ZeE (bits .xor .i64 (g / 8589934592) (g / 35184372088832)) 255 (by decide)
 have hx':bits .and .i64 (bits .xor .i64 (g / 8589934592) (g / 35184372088832)) 255=(x:Int):=hx
 have hbw:Below p w (w.setCell ⟨p,2,none⟩ (.int .i64 g)):=(Below.refl p w).setCell (show p≤(⟨p,2,none⟩:Addr).block from Nat.le_refl p) _
 clear hx
 by_cases hin:i<n
 ·obtain⟨b,hb⟩:=Zc (l:=l) (k:=i) (by omega)
  obtain⟨ad,rfl,hcb⟩:=(hrd.below hbw hB).at_ (k:=i) (u:=.int .u8 (b.toNat:Int)) (by rw[byV,List.getElem?_map,hb];rfl)
  obtain⟨y,hy,hy2⟩:=ZeE ((x:Int)+(b.toNat:Int)) 255 (by decide)
  have hy':bits .and .i64 ((x:Int)+(b.toNat:Int)) 255=(y:Int):=hy
  have hb9:b.toNat<256:=b.toNat_lt
  have hin2:(i:Int)<(n:Int):=by omega
  have HRD:=Hd hrd
  clear hrd hy hb hl
  go_enter Tryz.func49,Tryz.ntmps49
  go_wp2_with fail
  go_quiet (fail)
  go_wp2_with fail
  go_quiet (fail)
  go_wp2_with fail
  go_quiet (fail)
  go_wp2_with fail
  go_ret
  exact⟨y,hy2,rfl,((HC.o.set2 g).dr ((Dr.refl _).drewN _)).set1 (i+1) (by omega),(hbw.trans ((Dr.refl _).drewN _).below).setCell (show p≤(⟨p,1,none⟩:Addr).block from Nat.le_refl p) _,((ZeF w p 2 _).trans (ZaK ((Dr.refl _).drewN _) _)).trans (ZeF _ p 1 _)⟩
 ·have hin2:decide ((i:Int)<(n:Int))=false:=decide_eq_false (by omega)
  clear hrd hl
  go_enter Tryz.func49,Tryz.ntmps49
  go_wp2_with fail
  go_quiet (fail)
  go_wp2_with fail
  go_quiet (fail)
  go_wp2_with fail
  go_ret
  exact⟨x,hx2,rfl,((HC.o.set2 g).dr ((Dr.refl _).drewN _)).dr ((Dr.refl _).drewN _),hbw.trans (((Dr.refl _).drewN _).drewN _).below,(ZeF w p 2 _).trans (ZaK (((Dr.refl _).drewN _).drewN _) _)⟩
theorem Qj (p B:Nat) (A:Option Addr) (n c m:Nat) (l:List UInt8) (w:World) (h0:1≤m) (hm:m≤256) (hl:l.length=n) (hn:n≤1048576) (hc:CurAt w p A n c) (hrd:Rds w B A (byV l)) (hB:B≤p) :
  Calls Tryz.prog 21 #[.pointer (some ⟨p,0,none⟩),.int .i64 m] w fun e w'=>∃ x:Nat,x<m∧e=.returned (.int .i64 x)∧CurAt w' p A n c∧Below p w w'∧w.grownBy w' (some p):=by
 have hb:=Xa p B A n c l w hl hn hc hrd hB
 have HB:=Hd hb
 clear hb hc hrd hl
 go_enter Tryz.func21,Tryz.ntmps21
 go_wp2_with (go_at_call 49;refine HB.o.mono ?_;rintro e w1 ⟨x,hx,rfl,c1,b1⟩)
 go_ret
 exact⟨x % m,Nat.mod_lt _ (by omega),rfl,c1,b1.1,b1.2⟩
theorem ZeG (A:Option Addr) (n c B:Nat) (l:List UInt8) (w:World) (hl:l.length=n) (hn:n≤1048576) (hrd:Rds w B A (byV l)) :
  Calls Tryz.prog 20 #[.slice A n c] w fun e w'=>e=.returned (.pointer (some ⟨w.heap.size,0,none⟩))∧CurAt w' w.heap.size A n c∧Below w.heap.size w w':=by
 have HL:=Hd hl;have HR:=Hd hrd
 clear hl hrd
 go_enter Tryz.func20,Tryz.ntmps20
 go_wp2_with fail
 go_loop [3,4] (fun h i=>∃ k:Nat,k≤n∧i=.int .i64 k∧∃ x:Int,h=.int .i64 x∧0≤x∧x≤1073741823) (fun _ i=>n - (intOf i).toNat)
 case atStart=>exact⟨0,by omega,rfl,_,rfl,by omega,by omega⟩
 case round =>
  obtain⟨k,hk,rfl,x,rfl,hx1,hx2⟩:=hrel
  by_cases hlt:k<n
  ·have hlt2:(k:Int)<(n:Int):=by omega
   by_cases hl4:k<4000
   ·have hl5:(k:Int)<4000:=by omega
    obtain⟨b,hb⟩:=Zc (l:=l) (k:=k) (by rw[HL.o];exact hlt)
    obtain⟨ad,rfl,hcb⟩:=HR.o.at_ (k:=k) (u:=.int .u8 (b.toNat:Int)) (by rw[byV,List.getElem?_map,hb];rfl)
    have hb9:b.toNat<256:=b.toNat_lt
    obtain⟨y,hy,hy2⟩:=ZeE (x * 181+(b.toNat:Int)+7) 1073741823 (by decide)
    have hy':bits .and .i64 (x * 181+(b.toNat:Int)+7) 1073741823=(y:Int):=hy
    clear hy hb
    go_wp2_with fail
    go_round
    case rel=>exact⟨k+1,by omega,by go_num,y,rfl,by omega,by omega⟩
    case measure=>simp[intOf];omega
   ·have hl5:decide ((k:Int)<4000)=false:=decide_eq_false (by omega)
    have hl6:decide (k<4000)=false:=decide_eq_false hl4
    go_wp2_with fail
    go_ret
    exact⟨rfl,CurAt.new,(Below.refl _ _).alloc nlr _⟩
  ·have hlt2:decide ((k:Int)<(n:Int))=false:=decide_eq_false (by omega)
   go_wp2_with fail
   go_ret
   exact⟨rfl,CurAt.new,(Below.refl _ _).alloc nlr _⟩
end Go.Proofs.YtocbgldilgemoaaGreatDoor
namespace Go.Proofs.YtocbgldilgemoaaGreatDoor
open Go.RowKit Go.ChangeShapes Go.WideShapes Go.ChangeAt
set_option linter.unusedVariables false
def Zbh (w:World) (A:Option Addr) (n c:Nat) (l:List UInt8):Prop :=
 l.length=n∧n≤c∧c≤maxLen∧Rds w w.heap.size A (byV l)
variable {H:Type} {enc:TypeId × Value→H} {W:World} {t e:TypeId} {A:Option Addr} {n c:Nat} {d:DataW H} {ps:List MemPlace}
theorem ZhK {z:Int} (h:(Lit.int .u8 z).wf=true):(((UInt8.ofNat z.toNat).toNat:Nat):Int)=z:=by
 have h2:0≤z∧z≤255:=by
  simp[Lit.wf,IntKind.min,IntKind.max,IntKind.signed,IntKind.bits] at h
  omega
 rw[UInt8.toNat_ofNat']
 omega
theorem ZhL (ht:Tryz.prog.underlying t=some (.slice e)) (he:Tryz.prog.underlying e=some (.int .u8)) (hc:Tryz.prog.cellsOf e=1)
  (h:DataW.Trod enc Tryz.prog W 0 (fun _=>true) true t (.slice A n c) d ps) (hlt:∀ x∈ps,x.block<W.heap.size):∃ l,Zbh W A n c l:=by
 obtain⟨fuel,hf⟩:=h
 rcases open_ints ht he hc hf with ⟨hcs,_⟩|⟨x,l,cap,zs,hcs,_,hl,hm,hz,hx,hcell,hwz⟩
 ·simp[Value.cells] at hcs
  obtain⟨rfl,rfl,rfl⟩:=hcs
  exact⟨[],rfl,Nat.le_refl _,Nat.zero_le _,Rds.nil⟩
 ·simp[Value.cells] at hcs
  obtain⟨rfl,rfl,rfl⟩:=hcs
  simp only[if_true] at hz
  have hps:ps=MemPlace.row x zs.length:=by injection hx
  refine⟨(zs.take n).map fun z=>UInt8.ofNat z.toNat,by simp;omega,hl,hm,?_⟩
  intro k u hu
  have hk:k<n∧k<zs.length:=by
   have:=(List.getElem?_eq_some_iff.1 hu).1
   simp[byV] at this;omega
  refine⟨x,rfl,ZiT (m:=zs.length) (by omega) (by rw[← hps];exact hlt),?_⟩
  rw[hcell k hk.2]
  rw[byV,List.getElem?_map,List.getElem?_map,List.getElem?_take_of_lt hk.1,List.getElem?_eq_getElem hk.2] at hu
  simp only[Option.map_some,Option.some.injEq] at hu
  rw[← hu,List.getD_eq_getElem?_getD,List.getElem?_eq_getElem hk.2,ZhK (hwz _ (List.getElem_mem hk.2))]
  rfl
end Go.Proofs.YtocbgldilgemoaaGreatDoor
namespace Go.Proofs.YtocbgldilgemoaaGreatDoor
open Go.RowKit
set_option maxRecDepth 4000
set_option maxHeartbeats 1000000
set_option linter.unusedVariables false
theorem CurAt.low {w w':World} {p B:Nat} {A:Option Addr} {n c:Nat} (h:CurAt w p A n c) (hp:p<B) (hb:Below B w w'):CurAt w' p A n c:=by
 obtain⟨c0,c1,⟨i,hi,c2⟩,⟨x,c3⟩,f1,f2⟩:=h
 have hf:∀ a:Addr,a.block<B→w'.frozen? a=w.frozen? a:=fun a ha=>by
  unfold World.frozen?
  rw[hb.block a.block ha]
 exact⟨Nat.lt_of_lt_of_le c0 hb.size,(hb.cell (p:=⟨p,0,none⟩) hp).trans c1,⟨i,hi,(hb.cell (p:=⟨p,1,none⟩) hp).trans c2⟩,⟨x,(hb.cell (p:=⟨p,2,none⟩) hp).trans c3⟩,(hf ⟨p,1,none⟩ hp).trans f1,(hf ⟨p,2,none⟩ hp).trans f2⟩
theorem ZZ {w w1 w2:World} {row:Option Nat} (h:w.grownBy w1 row) (hb:Below w.heap.size w1 w2):w.grownBy w2 row :=
 ⟨hb.os.trans h.os,hb.tape.trans h.tape,hb.output.trans h.output,Nat.le_trans h.size hb.size,fun k hk hne=>(hb.block k hk).trans (h.block k hk hne)⟩
def Vg (k:Nat) (l:List UInt8):Prop:=∀ d∈l,97≤d.toNat∧d.toNat<97+k
theorem Xb (p B:Nat) (A:Option Addr) (n c m k:Nat) (l:List UInt8) (w:World) (hm:m≤1000) (h0:1≤k) (hk:k≤4) (hl:l.length=n) (hn:n≤1048576) (hc:CurAt w p A n c) (hrd:Rds w B A (byV l)) (hB:B≤p) :
  Calls Tryz.prog 111 #[.pointer (some ⟨p,0,none⟩),.int .i64 m,.int .i64 k] w fun e w'=>∃ x:List UInt8,x.length=m∧Vg k x∧e=.returned (.string (Zd x))∧CurAt w' p A n c∧Below p w w'∧w.grownBy w' (some p):=by
 have hpw:p<w.heap.size:=hc.1
 have hbl:=fun wr hcr hrr=>Qj p B A n c k l wr h0 (by omega) hl hn hcr hrr hB
 have HBL:=Hd hbl;have HC:=Hd hc;have HRD:=Hd hrd
 clear hbl hc hrd hl
 go_enter Tryz.func111,Tryz.ntmps111
 go_wp2_with fail
 go_loopw [7,8] (fun b i wr=>∃ (j:Nat) (A':Option Addr) (c':Nat) (x:List UInt8),j≤m∧i=.int .i64 j∧b=.slice A' j c'∧x.length=j∧Vg k x∧Own wr w.heap.size 5 (.slice A' j c') (byV x)∧CurAt wr p A n c∧Below p w wr∧w.grownBy wr (some p)) (fun _ i _=>m - (intOf i).toNat)
 case atStart =>
  have ba:=(Below.refl w.heap.size w).alloc nlr (.cells #[] 5)
  exact⟨0,_,_,[],by omega,rfl,rfl,rfl,(fun d hd=>by cases hd),Own.empty nlr,HC.o.low hpw ba,ba.mono (by omega),ZZ (ZaK (Dr.refl w) _) ba⟩
 case round =>
  obtain⟨j,A',c',x,hj,rfl,rfl,hxl,hlx,hown,hcr,hbr,hgr⟩:=hrel
  have HO:=Hd hown;have HCR:=Hd hcr;have HL:=Hd hlx;have HX:=Hd hxl
  clear hown hcr hlx hxl
  by_cases hlt:j<m
  ·have hlt2:(j:Int)<(m:Int):=by omega
   have hb:=HBL.o wr HCR.o (HRD.o.below (hbr.mono hB) nlr)
   have HB:=Hd hb
   clear hb
   go_wp2_with fail
   refine HB.o.mono ?_
   rintro e w1 ⟨y,hy,rfl,c1,b1,g1⟩
   have o1:Own w1 w.heap.size 5 (.slice A' j c') (byV x):=by
    refine World.ownsRow.kept HO.o g1 ?_
    rcases ho:(Value.slice A' j c').ownBlock with _|q
    ·exact .inl rfl
    ·right
     have:=(World.ownsRow.lt HO.o q ho).1
     intro he
     injection he with he
     omega
   have hbw1:=hbr.trans b1
   have hgw1:=hgr.trans g1
   have hu:IntKind.u8.wrap (97+(y:Int))=((UInt8.ofNat (97+y)).toNat:Int):=by
    rw[IntWalk.u8_in _ (by omega),UInt8.toNat_ofNat'];omega
   have hdt:(UInt8.ofNat (97+y)).toNat=97+y:=by rw[UInt8.toNat_ofNat'];omega
   obtain⟨d,hd⟩:∃ d,UInt8.ofNat (97+y)=d:=⟨_,rfl⟩
   rw[hd] at hu hdt
   have HO1:=Hd o1;have C1:=Hd c1;have HDT:=Hd hdt
   have hsw:=hgw1.size
   clear o1 c1 b1 g1 hbr hgr HB HO HCR hd hdt
   go_wp2_with (at_builtin;refine Zp rfl (.tmp 15) (.tmp 21) 22 rfl _ 1 Tryz.underlying22 ZQ rfl rfl HO1.o _ rfl rfl j ?n1 ?n2 ?n3 ?n4 ?_)
   case n1=>rw[Zm,HX.o]
   case n2=>omega
   case n3=>decide
   case n4=>exact hsw
   intro A2 c2 w2 hown2 hbel2 hsz2
   rw[ZP] at hown2
   have HO2:=Hd hown2;clear hown2
   go_wp2_with fail
   go_roundw
   case rel =>
    refine⟨j+1,A2,c2,x++[d],by omega,by go_num,rfl,by rw[List.length_append,HX.o];rfl,?_,HO2.o,C1.out.low hpw hbel2,hbw1.trans (hbel2.mono (by omega)),ZZ hgw1 hbel2⟩
    intro z hz
    rcases List.mem_append.1 hz with h|h
    ·exact HL.o z h
    ·have:z=d:=by simpa using h
     rw[this,HDT.o];omega
   case measure=>simp[intOf];omega
  ·have hjm:j=m:=by omega
   subst hjm
   have hcv:=HO.o.reads.conv (P:=Tryz.prog) (by rw[HX.o]) 22 9 5 c' Tryz.underlying22 Tryz.underlying5 Tryz.underlying9
   have hlt2:decide ((j:Int)<(j:Int))=false:=decide_eq_false (by omega)
   clear HO hlt hj
   go_wp2_with fail
   go_ret
   exact⟨x,HX.o,HL.o,rfl,HCR.o,hbr,hgr⟩
theorem Xc (p B:Nat) (A:Option Addr) (n c m:Nat) (l:List UInt8) (w:World) (h0:1≤m) (hm:m≤256) (hl:l.length=n) (hn:n≤1048576) (hc:CurAt w p A n c) (hrd:Rds w B A (byV l)) (hB:B≤p) :
  Calls Tryz.prog 110 #[.pointer (some ⟨p,0,none⟩),.int .i64 m] w fun e w'=>∃ b:Bool,e=.returned (.bool b)∧CurAt w' p A n c∧Below p w w'∧w.grownBy w' (some p):=by
 have hb:=Qj p B A n c m l w h0 hm hl hn hc hrd hB
 have HB:=Hd hb
 clear hb hc hrd hl
 go_enter Tryz.func110,Tryz.ntmps110
 go_wp2_with (go_at_call 21;refine HB.o.mono ?_;rintro e w1 ⟨x,hx,rfl,c1,b1⟩)
 go_ret
 exact⟨_,rfl,c1,b1.1,b1.2⟩
theorem Zii {k:Nat} {l:List UInt8} (hk:k≤4) (h:Vg k l) (hl:l.length≤400):isW l=true:=by
 rw[isW,Bool.and_eq_true,List.all_eq_true,decide_eq_true_eq]
 refine⟨fun d hd=>?_,hl⟩
 have:=h d hd
 rw[okc,decide_eq_true_eq];omega
theorem ZgJ {j k:Nat} {l:List UInt8} (h:Vg j l) (hjk:j≤k):Vg k l:=fun d hd=>by have:=h d hd;omega
theorem QQ {k:Nat} {s:ByteArray} (h:Vg k (L s)) (a b:Nat):Vg k (L (s.extract a b)):=by
 intro d hd
 rw[ZI] at hd
 exact h d (List.mem_of_mem_take (List.mem_of_mem_drop hd))
theorem Zc2 {k:Nat} {s t:ByteArray} (h:Vg k (L s)) (g:Vg k (L t)):Vg k (L (s++t)):=by
 intro d hd
 rw[show L (s++t)=L s++L t by simp[L]] at hd
 exact (List.mem_append.1 hd).elim (h d) (g d)
theorem Zc3 (p B:Nat) (A:Option Addr) (n c m:Nat) (l:List UInt8) (w:World) (hm2:2≤m) (hm:m≤200) (hl:l.length=n) (hn:n≤1048576) (hc:CurAt w p A n c) (hrd:Rds w B A (byV l)) (hB:B≤p) :
  Calls Tryz.prog 54 #[.pointer (some ⟨p,0,none⟩),.int .i64 m] w fun e w'=>∃ x:ByteArray,x.size≤m∧Vg 3 (L x)∧e=.returned (.string x)∧CurAt w' p A n c∧Below p w w'∧w.grownBy w' (some p):=by
 have h1:=Qj p B A n c 3 l w (by omega) (by omega) hl hn hc hrd hB
 have h2:=fun wr hcr hrr=>Qj p B A n c (m+1) l wr (by omega) (by omega) hl hn hcr hrr hB
 have h3:=fun wr j k hj h0 hk hcr hrr=>Xb p B A n c j k l wr hj h0 hk hl hn hcr hrr hB
 have h4:=fun wr j h0 hm hcr hrr=>Xc p B A n c j l wr h0 hm hl hn hcr hrr hB
 have H1:=Hd h1;have H2:=Hd h2;have H3:=Hd h3;have H4:=Hd h4;have HRD:=Hd hrd
 clear h1 h2 h3 h4 hrd hl hc
 go_enter Tryz.func54,Tryz.ntmps54
 go_wp2_with fail
 refine H1.o.mono ?_
 rintro e w1 ⟨k,hk,rfl,c1,b1,g1⟩
 go_wp2_with fail
 refine (H2.o w1 c1 (HRD.o.below (b1.mono hB) nlr)).mono ?_
 rintro e w2 ⟨j,hj,rfl,c2,b2,g2⟩
 have b2:=b1.trans b2
 have g2:=g1.trans g2
 clear b1 g1 c1
 have e1:1+(k:Int)=((1+k:Nat):Int):=by omega
 obtain⟨k1,hk1⟩:∃ k1,1+k=k1:=⟨_,rfl⟩
 rw[hk1] at e1
 go_wp2_with fail
 refine (H3.o w2 j k1 (by omega) (by omega) (by omega) c2 (HRD.o.below (b2.mono hB) nlr)).mono ?_
 rintro e w3 ⟨x,hxl,hlx,rfl,c3,b3,g3⟩
 have b3:=b2.trans b3
 have g3:=g2.trans g3
 have hlx:=ZgJ hlx (show k1≤3 by omega)
 clear b2 g2 c2
 go_wp2_with fail
 refine (H4.o w3 4 (by omega) (by omega) c3 (HRD.o.below (b3.mono hB) nlr)).mono ?_
 rintro e w4 ⟨o4,rfl,c4,b4,g4⟩
 have b4:=b3.trans b4
 have g4:=g3.trans g4
 clear b3 g3 c3
 obtain⟨s,hs⟩:∃ s,Zd x=s:=⟨_,rfl⟩
 have hsz:s.size=j:=by rw[← hs,Zh,hxl]
 have hls:Vg 3 (L s):=by rw[← hs,Zy];exact hlx
 rw[hs]
 have hsd:(0:Int)≤(s.size:Int):=by omega
 have hq:(s.size:Int) / 2=((s.size / 2:Nat):Int):=by omega
 have hqs:((s.size / 2:Nat):Int)≤(s.size:Int):=by omega
 have key:(o4=true∧1<s.size)∨(o4=false)∨(o4=true∧¬ 1<s.size):=by
  cases o4<;>simp<;>omega
 rcases key with ⟨ho,h1s⟩|ho|⟨ho,h1s⟩
 case' inl =>
  subst ho
  have h1s2:(1:Int)<(s.size:Int):=by omega
  go_wp2_with fail
  go_quiet (fail)
  go_wp2_with fail
  obtain⟨s1,hs1⟩:∃ s1,s.extract 0 (j / 2)++s.extract 0 (j / 2)=s1:=⟨_,rfl⟩
  have hz1:s1.size≤m:=by rw[← hs1,ByteArray.size_append,ByteArray.size_extract];omega
  have hl1:Vg 3 (L s1):=by rw[← hs1];exact Zc2 (QQ hls _ _) (QQ hls _ _)
  rw[hs1]
  refine (H4.o _ 6 (by omega) (by omega) (c4.dr ((Dr.refl w4).drewN _)) ((HRD.o.below (b4.mono hB) nlr).dr ((Dr.refl w4).drewN _))).mono ?_
  rintro e w5 ⟨o5,rfl,c5,b5,g5⟩
  have b5:=(b4.trans ((Dr.refl w4).drewN _).below).trans b5
  have g5:=(g4.trans (ZaK ((Dr.refl w4).drewN _) _)).trans g5
 case' inr.inl =>
  subst ho
  have hz1:s.size≤m:=by omega
  have hl1:=hls
  go_wp2_with fail
  refine (H4.o w4 6 (by omega) (by omega) c4 (HRD.o.below (b4.mono hB) nlr)).mono ?_
  rintro e w5 ⟨o5,rfl,c5,b5,g5⟩
  have b5:=b4.trans b5
  have g5:=g4.trans g5
 case' inr.inr =>
  subst ho
  have hz1:s.size≤m:=by omega
  have hl1:=hls
  have h1s2:decide ((1:Int)<(s.size:Int))=false:=decide_eq_false (by omega)
  go_wp2_with fail
  refine (H4.o w4 6 (by omega) (by omega) c4 (HRD.o.below (b4.mono hB) nlr)).mono ?_
  rintro e w5 ⟨o5,rfl,c5,b5,g5⟩
  have b5:=b4.trans b5
  have g5:=g4.trans g5
 all_goals
  cases o5
  ·go_wp2_with fail
   go_ret
   first
    | exact⟨s1,hz1,hl1,rfl,c5,b5,g5⟩
    | exact⟨s,hz1,hl1,rfl,c5,b5,g5⟩
  ·clear hq hqs hsd hls hsz hz1 hl1 b4 g4 c4
   go_wp2_with fail
   go_loop [7] (fun v=>∃ x:ByteArray,v=.string x∧2≤x.size∧x.size≤2 * m∧Vg 3 (L x)) (fun v=>2 * m - (match v with|.string x=>x.size|_=>0))
   case atStart=>exact⟨{ data:=#[97,98] },rfl,by decide,by show 2≤2 * m;omega,by unfold Vg;decide⟩
   case round =>
    obtain⟨x,rfl,hx2,hxm,hxl⟩:=hrel
    have hx0:(0:Int)≤(x.size:Int):=by omega
    have hqs:(x.size:Int) / 2+1≤(x.size:Int):=by omega
    have hq0:(0:Int)≤(x.size:Int) / 2+1:=by omega
    by_cases hlt:x.size<m
    ·have hlt2:(x.size:Int)<(m:Int):=by omega
     go_wp2_with fail
     have hzz:(x++x.extract 0 (x.size / 2+1)).size=x.size+(x.size / 2+1):=by rw[ByteArray.size_append,ByteArray.size_extract];omega
     refine⟨⟨_,rfl,by omega,by omega,Zc2 hxl (QQ hxl _ _)⟩,?_⟩
     show 2 * m - (x++x.extract 0 (x.size / 2+1)).size<2 * m - x.size
     omega
    ·have hlt2:decide ((x.size:Int)<(m:Int))=false:=decide_eq_false (by omega)
     rcases Nat.lt_or_ge m x.size with hmx|hmx
     ·have hmx2:(m:Int)<(x.size:Int):=by omega
      go_wp2_with fail
      go_ret
      exact⟨x.extract 0 m,by rw[ByteArray.size_extract];omega,QQ hxl _ _,(by first|rfl|(have hmn:(min (x.size:Int) (m:Int)).toNat=m:=(by omega);rw[hmn];first|done|rfl)),c5,b5,g5⟩
     ·have hmx2:x.size=m:=by omega
      subst hmx2
      go_wp2_with fail
      go_ret
      exact⟨x,hmx,hxl,rfl,c5,b5,g5⟩
end Go.Proofs.YtocbgldilgemoaaGreatDoor
