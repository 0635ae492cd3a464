/- For every bench and every string the law FnExactRunLine returns true and leaves its arguments as they were; no condition; the listed variables are the library's own, tied. -/
import Derived.Test.YtocbgldilgemoaaGreatDoorCpy
import Derived.Test.YtocbgldilgemoaaGreatDoorRlq
import Derived.Test.YtocbgldilgemoaaGreatDoorTie
import Derived.Test.YtocbgldilgemoaaGreatDoorCards
import Derived.Lay
import Derived.LaidMore
namespace Go.Proofs.YtocbgldilgemoaaGreatDoor.fnExactRunLine
set_option maxRecDepth 100000
set_option maxHeartbeats 4000000
open Go.ChangeShapes Go.WideShapes Go.ChangeAt Go.RowKit
open Go.ChangeMaps (open_string shut_string)
set_option linter.unusedVariables false
theorem al_below (w:World) (o:Obj):Below w.heap.size w (w.alloc o):=(Below.refl _ _).alloc nlr _
theorem al_size (w:World) (o:Obj):(w.alloc o).heap.size=w.heap.size+1:=by simp
theorem box_c0 {w:World} {g:Nat} {a b:Value} {t:TypeId} (h:w.heap[g]? = some (.cells #[a,b] t (0,0))):w.cell? ⟨g,0,none⟩=some a:=cell_of_row _ _ 0 _ _ (0,0) h
theorem box_c1 {w:World} {g:Nat} {a b:Value} {t:TypeId} (h:w.heap[g]? = some (.cells #[a,b] t (0,0))):w.cell? ⟨g,1,none⟩=some b:=cell_of_row _ _ 1 _ _ (0,0) h
theorem walk (A:Option Addr) (n c:Nat) (zs:List ByteArray) (s line:ByteArray) (w:World) (h:StrsIn w A n c zs) (hs:s.size≤maxLen) (hline:line.size≤maxLen) (hsh:w.ShapedOpen Tryz.prog) (hL:laidMet Tryz.prog Rows.fnExactRunLineRow.laid w) :
  Calls Tryz.prog 5 #[.agg #[.slice A n c,.string s],.string line] w fun e w'=>e=.returned (.bool true)∧Below w.heap.size w w':=by
 have m0:=Hd (MlS.of hsh)
 clear hsh
 have t0:=Hd (TB.of_head hL.tail.tail)
 have r0:=Hd (EG.of hL.tail.tail.tail.tail)
 have x0:=Hd (ES.of hL.tail.tail.tail.tail.tail)
 clear hL
 by_cases hlz:1048576<line.size
 ·go_enter Tryz.func5,Tryz.ntmps5
  go_wp2_with fail
  go_ret
  exact⟨rfl,(Below.refl _ _).alloc nlr _⟩
 have hb0:Below w.heap.size w (w.alloc (.cells #[.slice A n c,.string s] 40)):=(Below.refl _ _).alloc nlr _
 have h0:=heap_alloc_new w (.cells #[.slice A n c,.string s] 40)
 have HB0:=Hd hb0;have HQ:=Hd h0;have HH:=Hd (h.later hb0)
 clear hb0 h0
 go_enter Tryz.func5,Tryz.ntmps5
 go_wp2_with fail
 refine (ZcF zs s A n c _ hs HH.o).mono ?_
 rintro e w1 ⟨r,rfl,hr,b1⟩
 have z0:(w.alloc (.cells #[.slice A n c,.string s] 40)).heap.size=w.heap.size+1:=by simp
 rw[z0] at b1
 have z1:=b1.size
 rw[z0] at z1
 have q1:=(b1.block w.heap.size (by omega)).trans HQ.o
 have bb1:Below w.heap.size w w1:=HB0.o.trans (b1.mono (by omega))
 have hst1:=h.later bb1
 by_cases hz:r<0
 ·clear q1
  go_wp2_with fail
  go_ret
  exact⟨rfl,bb1⟩
 have hn1:=(hr (by omega)).1
 have hl:zs.length=n:=h.1
 have hsz:=h.2.2.2.1
 have hlb:line.size≤1048576:=by omega
 -- what the line does
 have hsp:=fun A2 c2 B2 w' (o:Own w' B2 9 (.slice A2 zs.length c2) (zs.map Value.string))=>YA zs s line A2 c2 B2 w' (by omega) hsz hs hlb o
 have him:=fun A2 c2 B2 w' (o:Own w' B2 9 (.slice A2 zs.length c2) (zs.map Value.string)) t m e g=>JX zs s line A2 c2 B2 w' (by omega) hsz hs hlb o t m e g
 have hm4:(RLb zs s line).1.1.length≤1048576:=by
  by_cases hb:Vf zs s=true
  ·have hsw:=hb
   rw[Vf,Bool.and_eq_true] at hsw
   have hg:=XQ line hsw.1 hsw.2
   rw[RLb,if_pos hb]
   have:=(ZE hg.1).1
   show (RL zs s line).1.length≤1048576
   omega
  ·rw[RLb,if_neg hb];show zs.length≤1048576;omega
 obtain⟨R,hR⟩:∃ R,RLb zs s line=R:=⟨_,rfl⟩
 unfold BnL at hsp him
 simp only[hR,hl] at hsp him
 rw[hR] at hm4
 obtain⟨⟨ys,u,t⟩,ok⟩:=R
 simp only at hsp him hm4
 obtain⟨m,hm⟩:∃ m,ys.length=m:=⟨_,rfl⟩
 simp only[hm] at hsp him hm4
 have heq:=fun A3 A4 c3 c4 B3 B4 w' h1 h2 h3 h4=>VZ ys u A3 A4 c3 c4 B3 B4 w' h1 h2 h3 h4 (by omega)
 rw[hm] at heq
 have heqx:=fun A3 A4 c3 c4 B3 B4 w' h1 h2 h3 h4=>VZ zs s A3 A4 c3 c4 B3 B4 w' h1 h2 h3 h4 (by omega)
 rw[hl] at heqx
 have hmkx:=fun A3 c3 B3 w' h1 h2=>VK zs s A3 n c3 B3 1 w' hl (by omega) (by omega) (by omega) h1 h2
 have hmk:=fun A3 c3 B3 w' h1 h2=>VK ys u A3 m c3 B3 1 w' hm (by omega) (by omega) (by omega) h1 h2
 have hhd:=fun A3 c3 B3 w' h1 h2=>Zab u A3 m c3 B3 1 w' (by omega) (by omega) (by omega) h1 h2
 have hto:=fun w' h=>ZcH zs s A n c w' hn1 h
 have HSP:=Hd hsp;have HIM:=Hd him;have HEQ:=Hd heq;have HEX:=Hd heqx;have HMX:=Hd hmkx;have HMK:=Hd hmk;have HHD:=Hd hhd;have HTO:=Hd hto
 have HST1:=Hd hst1;have HQ1:=Hd q1;have BB1:=Hd bb1
 have hM1:m≤1048576:=hm4
 have k0:w1.cell? ⟨w.heap.size,0,none⟩=some (.slice A n c):=cell_of_row _ _ 0 _ _ (0,0) q1
 have k1:w1.cell? ⟨w.heap.size,1,none⟩=some (.string s):=cell_of_row _ _ 1 _ _ (0,0) q1
 clear hsp him heq heqx hmkx hmk hhd hto hst1 q1 bb1 b1 h hr hsz hR hm hl hm4 HB0 HQ HH z0
 have hWS:w.heap.size+1≤w1.heap.size:=z1
 clear z1
 have htbA:=fun w' (b:Below w1.heap.size w1 w')=>t0.out.below (BB1.out.trans (b.mono (by omega)))
 have hmlA:=fun w' (b:Below w1.heap.size w1 w')=>m0.out.below (BB1.out.trans (b.mono (by omega)))
 have hesA:=fun w' (b:Below w1.heap.size w1 w')=>x0.out.below (BB1.out.trans (b.mono (by omega)))
 have hegA:=fun w' (b:Below w1.heap.size w1 w')=>r0.out.below (BB1.out.trans (b.mono (by omega)))
 have hkA:=fun w' (b:Below w1.heap.size w1 w')=>(b.block w.heap.size (by omega)).trans HQ1.o
 have TBA:=Hd htbA;have MLA:=Hd hmlA;have ESA:=Hd hesA;have EGA:=Hd hegA;have KA:=Hd hkA
 clear htbA hmlA hesA hegA hkA
 -- the reference
 go_wp2_with fail
 refine (HTO.o _ HST1.o).mono ?_
 rintro e w2 ⟨A2,c2,rfl,o2,b2⟩
 have O2:=Hd o2;have B2:=Hd b2;have s2:=b2.size
 clear o2 b2
 go_wp2_with fail
 refine (HSP.o A2 c2 _ w2 O2.out).mono ?_
 rintro e w3 ⟨A3,c3,rfl,o3,b3⟩
 have s3:=b3.size
 have a4:=al_below w3 (.cells #[.slice A3 m c3,.string u] 28)
 have z4:=al_size w3 (.cells #[.slice A3 m c3,.string u] 28)
 have p4:=heap_alloc_new w3 (.cells #[.slice A3 m c3,.string u] 28)
 obtain⟨w4,hw4⟩:∃ z,w3.alloc (.cells #[.slice A3 m c3,.string u] 28)=z:=⟨_,rfl⟩
 rw[hw4] at a4 z4 p4
 have B14:=Hd ((B2.out.trans (b3.mono s2)).trans (a4.mono (by omega)))
 have R4:=Hd (((o3.below a4).reads:Rds w4 w4.heap.size A3 (ys.map Value.string)))
 have q4:=KA.out _ B14.out
 have k0:=box_c0 q4;have k1:=box_c1 q4
 have P4:=Hd p4
 clear o3 b3 a4 q4 p4 O2 B2
 -- the argument, copied
 go_wp2_with fail
 clear hw4
 refine (HTO.o _ (HST1.o.later B14.out)).mono ?_
 rintro e w5 ⟨A5,c5,rfl,o5,b5⟩
 clear k0 k1
 have s5:=b5.size
 have a6:=al_below w5 (.cells #[.slice A5 n c5,.string s] 28)
 have z6:=al_size w5 (.cells #[.slice A5 n c5,.string s] 28)
 have p6:=heap_alloc_new w5 (.cells #[.slice A5 n c5,.string s] 28)
 obtain⟨w6,hw6⟩:∃ z,w5.alloc (.cells #[.slice A5 n c5,.string s] 28)=z:=⟨_,rfl⟩
 rw[hw6] at a6 z6 p6
 have B46:=Hd (b5.trans (a6.mono (by omega)))
 have B16:=Hd (B14.out.trans (B46.out.mono (by omega)))
 have O5:=Hd o5;have LT5:=Hd (fun g h=>(World.ownsRow.lt o5 g h).2);have O6:=Hd (o5.below a6);have P6:=Hd p6
 clear o5 b5 a6 p6
 -- the program
 have v0:=box_c0 P6.out;have v1:=box_c1 P6.out
 go_wp2_with fail
 clear hw6 v0 v1
 refine (HIM.o A5 c5 _ w6 O6.out (TBA.out _ B16.out) (MLA.out _ B16.out) (ESA.out _ B16.out) (EGA.out _ B16.out)).mono ?_
 rintro e w7 ⟨A7,c7,rfl,o7,b7⟩
 have s7:=b7.size
 have a8:=al_below w7 (.cells #[.slice A7 m c7,.string u] 28)
 have z8:=al_size w7 (.cells #[.slice A7 m c7,.string u] 28)
 have p8:=heap_alloc_new w7 (.cells #[.slice A7 m c7,.string u] 28)
 obtain⟨w8,hw8⟩:∃ z,w7.alloc (.cells #[.slice A7 m c7,.string u] 28)=z:=⟨_,rfl⟩
 rw[hw8] at a8 z8 p8
 have B68:=Hd (b7.trans (a8.mono (by omega)))
 have B48:=Hd (B46.out.trans (B68.out.mono (by omega)))
 have B18:=Hd (B14.out.trans (B48.out.mono (by omega)))
 have LT7:=Hd (fun g h=>(World.ownsRow.lt o7 g h).2);have O8:=Hd (o7.below a8);have P8:=Hd p8
 have r8:=(B48.out.block w3.heap.size (by omega)).trans P4.out
 have j0:=box_c0 r8;have j1:=box_c1 r8
 have g0:=box_c0 p8;have g1:=box_c1 p8
 clear o7 b7 a8 p8 r8
 -- the same
 go_wp2_with fail
 clear hw8
 refine (HEQ.o A7 A3 c7 c3 _ _ w8 nlr (by have:=B48.out.size;omega) O8.out.reads (R4.out.below B48.out nlr)).mono ?_
 rintro e w9 ⟨rfl,b9⟩
 have s9:=b9.size
 clear j0 j1 g0 g1
 have B89:=Hd b9
 have B69:=Hd (B68.out.trans (b9.mono (by have:=B68.out.size;omega)))
 have B49:=Hd (B48.out.trans (b9.mono (by have:=B48.out.size;omega)))
 have B19:=Hd (B18.out.trans (b9.mono (by have:=B18.out.size;omega)))
 have q9:=KA.out _ B19.out
 have k0:=box_c0 q9;have k1:=box_c1 q9
 have x9:=(B69.out.block w5.heap.size (by omega)).trans P6.out
 have j0:=box_c0 x9;have j1:=box_c1 x9
 have hto9:=HTO.o w9.drew (HST1.o.later B19.out.drew)
 have htoN:=HTO.o w9 (HST1.o.later B19.out)
 have hex9:=fun A10 c10 (w10:World) (o:Own w10 w9.heap.size 9 (.slice A10 n c10) (zs.map Value.string)) (b:Below w9.heap.size w9 w10)=>HEX.o A5 A10 c5 c10 _ _ w10 nlr nlr ((O6.out.below (B69.out.trans (b.mono (by have:=B69.out.size;omega)))).reads) o.reads
 have HT9:=Hd hto9;have HTN:=Hd htoN;have HE9:=Hd hex9;have X9:=Hd x9
 clear q9 x9 hto9 htoN hex9 b9
 have hx9:w5.heap.size<w9.heap.size:=by have:=B69.out.size;omega
 go_wp2_with fail
 go_region_with (first
  | (go_at_call 16;(first|(refine HT9.o.mono ?_;rintro e w10 ⟨A10,c10,rfl,o10,b10⟩;have b10:=(Below.refl w9.heap.size w9).drew.trans b10)|(refine HTN.o.mono ?_;rintro e w10 ⟨A10,c10,rfl,o10,b10⟩));have i0:=(b10.cell (p:=⟨w5.heap.size,0,none⟩) hx9).trans j0;have i1:=(b10.cell (p:=⟨w5.heap.size,1,none⟩) hx9).trans j1)
  | (go_at_call 17;refine (HE9.o _ _ _ o10 b10).mono ?_;rintro e w11 ⟨rfl,b11⟩))
 all_goals
  as_aux_lemma =>
  clear k0 k1 j0 j1 i0 i1
  have b9b:Below w9.heap.size w9 w11:=b10.trans (b11.mono b10.size)
  have s11:=b9b.size
  have B6b:=Hd (B69.out.trans (b9b.mono (by have:=B69.out.size;omega)))
  have B4b:=Hd (B49.out.trans (b9b.mono (by have:=B49.out.size;omega)))
  have B1b:=Hd (B19.out.trans (b9b.mono (by have:=B19.out.size;omega)))
  have B8b:=Hd (B89.out.trans (b9b.mono s9))
  have x11:=(b9b.block w5.heap.size hx9).trans X9.out
  have j0:=box_c0 x11;have j1:=box_c1 x11
  have hmx:=HMX.o A5 c5 w4.heap.size w11 (O6.out.below B6b.out) (by have:=B4b.out.size;omega)
  have HM12:=Hd hmx
  clear hmx x11 b9b o10 b10 b11
  go_wp2_with fail
  refine HM12.o.mono ?_
  rintro e w12 ⟨rfl,o12,b12,g12⟩
  clear j0 j1
  have s12:=b12.size
  have O12:=Hd (Own.apart O5.out (O8.out.below B8b.out) (by omega:w5.heap.size≤w6.heap.size) g12)
  have B4c:=Hd (B4b.out.trans b12)
  have p12:=(g12.block w7.heap.size (by have:=B8b.out.size;omega) (fun e=>by have:=LT5.out _ e.symm;omega)).trans ((B8b.out.block w7.heap.size (by omega)).trans P8.out)
  have P12:=Hd p12
  have r12:=(B4c.out.block w3.heap.size (by omega)).trans P4.out
  have j0:=box_c0 r12;have j1:=box_c1 r12
  have g0:=box_c0 p12;have g1:=box_c1 p12
  have heq13:=HEQ.o A7 A3 c7 c3 _ _ w12 nlr (by have:=B4c.out.size;omega) O12.out.reads (R4.out.below B4c.out nlr)
  have HE13:=Hd heq13
  clear heq13 p12 r12 o12 b12 g12
  go_wp2_with fail
  refine HE13.o.mono ?_
  rintro e w13 ⟨rfl,b13⟩
  clear j0 j1 g0 g1
  have s13:=b13.size
  have p13:=(b13.block w7.heap.size (by have:=B8b.out.size;omega)).trans P12.out
  have g0:=box_c0 p13;have g1:=box_c1 p13
  have P13:=Hd p13
  have B4d:=Hd (B4c.out.trans (b13.mono (by have:=B4c.out.size;omega)))
  have hmk14:=HMK.o A7 c7 w6.heap.size w13 (O12.out.below b13) (by have:=B6b.out.size;omega)
  have HM14:=Hd hmk14
  clear hmk14 p13 b13
  go_wp2_with fail
  refine HM14.o.mono ?_
  rintro e w14 ⟨rfl,o14,b14,g14⟩
  clear g0 g1
  have s14:=b14.size
  have p14:=(g14.block w7.heap.size (by have:=B8b.out.size;omega) (fun e=>by have:=LT7.out _ e.symm;omega)).trans P13.out
  have g0:=box_c0 p14;have g1:=box_c1 p14
  have P14:=Hd p14;have O14:=Hd o14
  have B4e:=Hd (B4d.out.trans (b14.mono (by have:=B46.out.size;omega)))
  have hh15:=HHD.o A7 c7 _ w14 nlr o14.reads
  have HH15:=Hd hh15
  clear hh15 p14 o14 b14 g14
  go_wp2_with fail
  refine HH15.o.mono ?_
  rintro e w15 ⟨rfl,b15⟩
  clear g0 g1
  have s15:=b15.size
  have P15:=Hd ((b15.block w7.heap.size (by have:=B8b.out.size;omega)).trans P14.out)
  have O15:=Hd (O14.out.below b15)
  have B4f:=Hd (B4e.out.trans (b15.mono (by have:=B4e.out.size;omega)))
  have B1f:=Hd (B14.out.trans (B4f.out.mono (by omega)))
  have q15:=KA.out _ B1f.out
  have k0:=box_c0 q15;have k1:=box_c1 q15
  clear q15 b15
  go_wp2_with fail
  refine (HTO.o _ (HST1.o.later B1f.out)).mono ?_
  rintro e w16 ⟨A16,c16,rfl,o16,b16⟩
  clear k0 k1
  have s16:=b16.size
  have B1g:=Hd (B1f.out.trans (b16.mono (by have:=B1f.out.size;omega)))
  have HI17:=Hd (HIM.o A16 c16 _ w16 o16 (TBA.out _ B1g.out) (MLA.out _ B1g.out) (ESA.out _ B1g.out) (EGA.out _ B1g.out))
  have B16h:=Hd b16
  clear o16 b16
  go_wp2_with fail
  refine HI17.o.mono ?_
  rintro e w17 ⟨A17,c17,rfl,o17,b17⟩
  have s17:=b17.size
  have a18:=al_below w17 (.cells #[.slice A17 m c17,.string u] 28)
  have z18:=al_size w17 (.cells #[.slice A17 m c17,.string u] 28)
  have p18:=heap_alloc_new w17 (.cells #[.slice A17 m c17,.string u] 28)
  obtain⟨w18,hw18⟩:∃ z,w17.alloc (.cells #[.slice A17 m c17,.string u] 28)=z:=⟨_,rfl⟩
  rw[hw18] at a18 z18 p18
  have BFh:=Hd ((B16h.out.trans (b17.mono s16)).trans (a18.mono (by omega)))
  have B4h:=Hd (B4f.out.trans (BFh.out.mono (by have:=B4f.out.size;omega)))
  have r18:=(B4h.out.block w3.heap.size (by omega)).trans P4.out
  have j0:=box_c0 r18;have j1:=box_c1 r18
  have g0:=box_c0 p18;have g1:=box_c1 p18
  have heq19:=HEQ.o A17 A3 c17 c3 _ _ w18 nlr (by have:=B4h.out.size;omega) (o17.below a18).reads (R4.out.below B4h.out nlr)
  have HE19:=Hd heq19
  clear heq19 r18 p18 o17 b17 a18
  go_wp2_with fail
  clear hw18
  refine HE19.o.mono ?_
  rintro e w19 ⟨rfl,b19⟩
  clear j0 j1 g0 g1
  have s19:=b19.size
  have BFi:=Hd (BFh.out.trans (b19.mono (by have:=BFh.out.size;omega)))
  have p19:=(BFi.out.block w7.heap.size (by have:=B8b.out.size;omega)).trans P15.out
  have g0:=box_c0 p19;have g1:=box_c1 p19
  have hh20:=HHD.o A7 c7 _ w19 nlr (O15.out.below BFi.out).reads
  have HH20:=Hd hh20
  clear hh20 p19 b19
  go_wp2_with fail
  refine HH20.o.mono ?_
  rintro e w20 ⟨rfl,b20⟩
  clear g0 g1
  go_wp2_with fail
  go_ret
  refine⟨rfl,?_⟩
  have B1i:=B1f.out.trans (BFi.out.mono (by have:=B1f.out.size;omega))
  exact BB1.out.trans ((B1i.trans (b20.mono (by have:=B1i.size;omega))).mono (by omega))
theorem lifted (os:Os) (started:os.Started) (H:Type) (enc:TypeId × Value→H) :
  ReturnsInHanded {} Tryz.checked os 5 .any (fun w args=>(Rows.fnExactRunLineSpec.pre enc Tryz.prog Tryz.f5 [] false w args∧laidMetH Tryz.prog Rows.fnExactRunLineRow.laid w)∧sizedMet enc Tryz.prog Tryz.f5 (OpenSpec.ofChange Rows.fnExactRunLineSpec) false w args) (Rows.fnExactRunLineSpec.post enc Tryz.prog Tryz.f5 false true false false):=by
 refine QR (C:=Tryz.checked) (X:=fun w _=>laidMetH Tryz.prog Rows.fnExactRunLineRow.laid w) (fun _ _ _ hh h=>h.of_heap hh) own started (by kernel_rfl) Tryz.func5
  (ChangeSpec.witness_shaped (enc:=enc) (C:=Tryz.checked) (os:=os) (X:=fun w _=>laidMetH Tryz.prog Rows.fnExactRunLineRow.laid w) false (World.laidAll Tryz.prog os Rows.fnExactRunLineRow.laid) #[.agg #[.slice none 0 0,.string ByteArray.empty],.string ByteArray.empty] 8 (World.laidAll_os _ _ _)
   (World.shaped_of_ZipB (by kernel_rfl) (by kernel_rfl)) (by kernel_rfl) (by kernel_rfl) (by kernel_rfl)
   (by rw[MakeChecks.laidMetH_plain _ _ _ (by kernel_rfl)];exact laidMet_laidAll _ (by kernel_rfl) (by kernel_rfl))) ?_
 intro W base args ds gs before hval0 hW hL hsh
 rw[MakeChecks.laidMetH_plain _ _ _ (by kernel_rfl)] at hL
 have hval:∀ (j:Nat) t v,Tryz.f5.params[j]? = some t→args[j]? = some v→Value.okWide Tryz.prog W .any base t v:=hval0
 have hW':=hW
 obtain⟨p,q,hA0,hV,rfl,hfz,hnd⟩:=hW
 have hA:DataW.TrodAll enc Tryz.prog W 0 (fun _=>true) true Tryz.f5.params.toList args.toList ds p:=hA0
 rw[Tryz.params5] at hA hval
 obtain⟨v0,vs0,d0,ds0,p0,q0,hargs,rfl,rfl,h0,r0⟩:=trodAll_cons hA
 obtain⟨v1,vs1,d1,ds1,p1,q1,rfl,rfl,rfl,h1,r1⟩:=trodAll_cons r0
 obtain⟨rfl,rfl,rfl⟩:=trodAll_nil r1
 obtain rfl:args=#[v0,v1]:=by cases args;simp_all
 obtain⟨rfl,rfl⟩:=trodVars_none hV
 have k0:=h0
 have lt0:∀ x∈p0,x.block<W.heap.size:=by obtain⟨m,hm⟩:=k0;exact DataW.trod_lt m _ _ _ hm
 obtain⟨s0,len0,cap0,z0,x0,rfl,w0,y0⟩:=ZhF (hval 0 40 v0 rfl rfl) h0 lt0
 obtain⟨a1,rfl,rfl,rfl,w1⟩:=open_string Tryz.underlying9 (hval 1 9 v1 rfl rfl) h1
 clear hA0 hval0
 refine (walk s0 len0 cap0 z0 x0 a1 W w0 y0 w1 hsh hL).mono fun e W' ⟨he,bel⟩=>?_
 subst he
 exact⟨_,rfl,_,_,_,[],_,[],hW',trodAll_mk1 (shut_bool Tryz.underlying4 _),(trodAll_cons_mk (Below.trod Zfq (by kernel_rfl) (of_decide_eq_true (by kernel_rfl)) k0 bel lt0) (trodAll_cons_mk (shut_string Tryz.underlying9 w1) trodAll_mk0)),rfl,bel.frame _,fun h=>by cases h⟩
theorem closed:joinedFacts Tryz.pinned.checked.prog 5 Tryz.f5 Rows.fnExactRunLineSpec Rows.fnExactRunLineRow=true:=by
 unfold joinedFacts
 simp only[Bool.and_eq_true]
 repeat' apply And.intro
 all_goals (as_aux_lemma=>kernel_rfl)
theorem over:Rows.fnExactRunLineRow.holds Tryz.pinned (OpenSpec.ofChange Rows.fnExactRunLineSpec) :=
 OpenClaim.holds_of_wide 5 Tryz.f5 rfl rfl rfl rfl rfl rfl rfl ⟨rfl,rfl,rfl,rfl,rfl⟩ rfl rfl rfl rfl rfl (by as_aux_lemma=>kernel_rfl) Tryz.func5 closed
  (of_decide_eq_true (by kernel_rfl)) (by unfold Func.isWrapper;first|(rw[if_pos (by decide +kernel)];kernel_rfl)|(rw[if_neg (by decide +kernel)];exact⟨rfl,rfl⟩))
  (fun os started H enc _=>lifted os started H enc)
theorem proved:Rows.FnExactRunLineCardSaid :=
 Claim7.holds_tied_plain_at .later [] _ true _ _ over (fun _ h=>by cases h) (by as_aux_lemma=>kernel_rfl) (fun _ h=>by cases h) fnExactRunLine_row_tie rfl ⟨rfl,rfl⟩ (by as_aux_lemma=>kernel_rfl) rfl
  (fun f fn hf hfn=>by
   obtain rfl : f = 5 := Option.some.inj ((show Tryz.prog.funcNamed "loop.example/g03209/laws.FnExactRunLine" = some 5 by as_aux_lemma => kernel_rfl).symm.trans hf) |>.symm
   obtain rfl:fn=Tryz.f5:=(Option.some.inj (Tryz.func5.symm.trans hfn)).symm
   exact⟨by as_aux_lemma=>kernel_rfl,fun j t ht=>by
    rw[Tryz.params5] at ht
    have hm:t∈[40,9]:=by simpa using Array.mem_of_getElem? ht
    have hall:([40,9].all fun u=>!Tryz.prog.wantsStandIn u)=true:=by as_aux_lemma=>kernel_rfl
    exact (show Tryz.prog.wantsStandIn t=false by simpa using List.all_eq_true.1 hall t hm)⟩)
  (by as_aux_lemma=>kernel_rfl)
#print axioms proved
end Go.Proofs.YtocbgldilgemoaaGreatDoor.fnExactRunLine
