/- Lines that change the substitution (the reference's). No condition but the bounds. -/
import Derived.Test.YtocbgldilgemoaaGreatDoorCow
import Derived.Test.YtocbgldilgemoaaGreatDoorRls
namespace Go.Proofs.YtocbgldilgemoaaGreatDoor
set_option maxRecDepth 8000
set_option maxHeartbeats 8000000
open Go.RowKit
set_option linter.unusedVariables false
theorem ZbB {w:World} {B:Nat} {E t:TypeId} {s:Value} {xs:List Value} {g:Nat} {cs:Array Value} {fr:Nat × Nat} (h:Own w B E s xs) (hg:w.heap[g]? = some (.cells cs t fr)) (hne:t≠E):s.ownBlock≠some g:=by
 rcases h.2 with ⟨rfl,_⟩|⟨g2,cap,cur,rfl,_,hg2,_⟩
 ·simp[Value.ownBlock]
 ·intro he
  simp only[Value.ownBlock,Option.some.injEq] at he
  subst he
  rw[hg] at hg2
  injection hg2 with hg2
  injection hg2 with h1 h2 h3
  exact hne h2
structure BZ (w w':World) (A:Option Addr) (n c:Nat) (v:ByteArray) (sv:Value):Prop where
 r0:w'.heap[w.heap.size]? = some (.cells #[.slice A n c,.string v] 28 (0,0))
 r1:w'.heap[w.heap.size+1]? = some (.cells #[.slice none 0 0,.string { data:=#[] }] 28 (0,0))
 r2:w'.heap[w.heap.size+1+1]? = some (.cells #[sv] 26 (0,0))
 bel:Below w.heap.size w w'
 size:w.heap.size+3≤w'.heap.size
section
variable {w w' w'':World} {A:Option Addr} {n c:Nat} {v:ByteArray} {sv:Value}
theorem BZ.new (w:World) (A:Option Addr) (n c:Nat) (v:ByteArray):BZ w (((w.alloc (.cells #[.slice A n c,.string v] 28)).alloc (.cells #[.slice none 0 0,.string { data:=#[] }] 28)).alloc (.cells #[.slice none 0 0] 26)) A n c v (.slice none 0 0) where
 r0:=((((Below.refl (w.heap.size+1) _).alloc (by simp) _).alloc (by first|(simp;done)|(simp;omega)) _).block w.heap.size (by omega)).trans (heap_alloc_new w _)
 r1:=(((Below.refl (w.heap.size+2) _).alloc (by simp) _).block (w.heap.size+1) (by omega)).trans (ZW w _ _)
 r2:=VD w _ _ _
 bel:=VE w _ _ _
 size:=by simp
theorem BZ.step (h:BZ w w' A n c v sv) (hb:Below w'.heap.size w' w''):BZ w w'' A n c v sv where
 r0:=(hb.block _ (by have:=h.size;omega)).trans h.r0
 r1:=(hb.block _ (by have:=h.size;omega)).trans h.r1
 r2:=(hb.block _ (by have:=h.size;omega)).trans h.r2
 bel:=h.bel.trans (hb.mono (by have:=h.size;omega))
 size:=Nat.le_trans h.size hb.size
theorem BZ.set (h:BZ w w' A n c v sv) (x:Value):BZ w (w'.setCell ⟨w.heap.size+1+1,0,none⟩ x) A n c v x where
 r0:=Q9 h.r0 (by omega) x
 r1:=Q9 h.r1 (by omega) x
 r2:=Zg (k:=0) h.r2 x
 bel:=h.bel.setCell (p:=⟨w.heap.size+1+1,0,none⟩) (by show w.heap.size≤w.heap.size+1+1;omega) x
 size:=Nat.le_trans h.size (((Below.refl 0 w').setCell (p:=⟨w.heap.size+1+1,0,none⟩) (Nat.zero_le _) x).size)
theorem BZ.dr (h:BZ w w' A n c v sv):BZ w w'.drew A n c v sv:=h.step (Below.refl _ _).drew
theorem BZ.c0 (h:BZ w w' A n c v sv):w'.cell? ⟨w.heap.size,0,none⟩=some (.slice A n c):=cell_of_row _ _ 0 _ _ (0,0) h.r0
theorem BZ.c1 (h:BZ w w' A n c v sv):w'.cell? ⟨w.heap.size,1,none⟩=some (.string v):=cell_of_row _ _ 1 _ _ (0,0) h.r0
theorem BZ.d0 (h:BZ w w' A n c v sv):w'.cell? ⟨w.heap.size+1,0,none⟩=some (.slice none 0 0):=cell_of_row _ _ 0 _ _ (0,0) h.r1
theorem BZ.d1 (h:BZ w w' A n c v sv):w'.cell? ⟨w.heap.size+1,1,none⟩=some (.string { data:=#[] }):=cell_of_row _ _ 1 _ _ (0,0) h.r1
theorem BZ.f0 (h:BZ w w' A n c v sv):w'.frozen? ⟨w.heap.size+1,0,none⟩=false:=frozen_of_row _ _ 0 _ _ h.r1
theorem BZ.f1 (h:BZ w w' A n c v sv):w'.frozen? ⟨w.heap.size+1,1,none⟩=false:=frozen_of_row _ _ 1 _ _ h.r1
theorem BZ.g0 (h:BZ w w' A n c v sv):w'.cell? ⟨w.heap.size+1+1,0,none⟩=some sv:=cell_of_row _ _ 0 _ _ (0,0) h.r2
theorem BZ.i0 (h:BZ w w' A n c v sv):w'.frozen? ⟨w.heap.size+1+1,0,none⟩=false:=frozen_of_row _ _ 0 _ _ h.r2
theorem BZ.fs (h:BZ w w' A n c v sv):(w'.cell? ⟨w.heap.size,0,none⟩=some (.slice A n c))∧(w'.cell? ⟨w.heap.size,1,none⟩=some (.string v))∧(w'.cell? ⟨w.heap.size+1,0,none⟩=some (.slice none 0 0))∧(w'.cell? ⟨w.heap.size+1,1,none⟩=some (.string { data:=#[] }))∧(w'.frozen? ⟨w.heap.size+1,0,none⟩=false)∧(w'.frozen? ⟨w.heap.size+1,1,none⟩=false):=⟨h.c0,h.c1,h.d0,h.d1,h.f0,h.f1⟩
theorem BZ.fin (h:BZ w w' A n c v sv) (x y:Value):Below w.heap.size w ((w'.setCell ⟨w.heap.size+1,0,none⟩ x).setCell ⟨w.heap.size+1,1,none⟩ y) :=
 (h.bel.setCell (p:=⟨w.heap.size+1,0,none⟩) (by show w.heap.size≤w.heap.size+1;omega) x).setCell (p:=⟨w.heap.size+1,1,none⟩) (by show w.heap.size≤w.heap.size+1;omega) y
theorem BZ.row (h:BZ w w' A n c v sv) (x y:Value):((w'.setCell ⟨w.heap.size+1,0,none⟩ x).setCell ⟨w.heap.size+1,1,none⟩ y).heap[w.heap.size+1]? = some (.cells #[x,y] 28 (0,0)):=Zg (k:=1) (Zg (k:=0) h.r1 x) y
end
theorem Zez (zs:List ByteArray) (v:ByteArray) (gl cl:Nat) (A:Option Addr) (c B:Nat) (w:World) (x:ByteArray) (hx:x=({ data:=#[109,105,114,114,111,114] }:ByteArray)) (hsu:Zf zs=true) (hw:isW (L v)=true) (q:StrAt w gl cl [x]) (ho:Own w B 9 (.slice A zs.length c) (zs.map Value.string)) (hB:B≤w.heap.size) :
  Calls Tryz.prog 41 #[.agg #[.slice A zs.length c,.string v],.slice (some ⟨gl,0,none⟩) 1 cl] w fun e w'=>BnW B w (some (zs.map trn,v,slV (zs.map trn))) e w':=by
 have hB2:=ho.lt
 have X0:=BZ.new w A zs.length c v
 have hx4:=Zb hw
 obtain⟨w2,hw2⟩:∃ w2,((w.alloc (.cells #[.slice A zs.length c,.string v] 28)).alloc (.cells #[.slice none 0 0,.string { data:=#[] }] 28)).alloc (.cells #[.slice none 0 0] 26)=w2:=⟨_,rfl⟩
 rw[hw2] at X0
 have r0:=X0.g0;have r1:=X0.i0
 replace X0:=X0.set (.slice none 0 0)
 obtain⟨w3,hw3⟩:∃ z,w2.setCell ⟨w.heap.size+1+1,0,none⟩ (.slice none 0 0)=z:=⟨_,rfl⟩
 rw[hw3] at X0
 obtain⟨c0,c1,d0,d1,f0,f1⟩:=X0.fs;have g0:=X0.g0;have i0:=X0.i0
 have hoX:=fun w' sv (X:BZ w w' A zs.length c v sv)=>ho.below X.bel
 have hne:=ZF ho (g:=w.heap.size+1) (by omega)
 have HOX:=Hd hoX;have HNE:=Hd hne
 have HX0:=Hd X0
 have HRD:=Hd (fun w' sv (X:BZ w w' A zs.length c v sv)=>(hoX w' sv X).reads)
 have HQ:=Hd (fun w' (b:Below w.heap.size w w')=>q.below b)
 have k0:=(HQ.o _ HX0.o.bel).2.2.2 0 _ rfl
 have e0:(x.toList==[115,117,98,115,116])=false:=by rw[hx,ByteArray.toList_eq];rfl
 have e1:(x.toList==[97,102,116,101,114])=false:=by rw[hx,ByteArray.toList_eq];rfl
 have e2:(x.toList==[109,105,114,114,111,114])=true:=by rw[hx,ByteArray.toList_eq];rfl
 have hcl:=fun w' sv (X:BZ w w' A zs.length c v sv)=>W5 zs A c _ w' hsu (HRD.o _ _ X) nlr
 have hsl:=fun A2 c2 B2 w' (o:Own w' B2 9 (.slice A2 zs.length c2) ((zs.map trn).map Value.string))=>QH (B:=B2) (zs.map trn) A2 zs.length c2 w' (by simp) (by have:=(ZE hsu).1;omega) (fun y hy=>by have:=((ZE (show Zf (zs.map trn)=true by rw[Zew];exact hsu)).2 y hy).2.1;unfold maxLen;omega) o
 have HCL:=Hd hcl;have HSL:=Hd hsl
 clear hcl hsl hsu hw ho q hx
 go_enter Tryz.func41,Tryz.ntmps41
 go_wp2_with (go_at_call 92;refine (HCL.o _ _ HX0.o).mono ?_;rintro e w4 ⟨A4,c4,rfl,o4,b4⟩;clear hw2 hw3 r0 r1;have X4:=HX0.o.step b4;obtain⟨w5,hw5⟩:∃ z,w4.setCell ⟨w.heap.size+1+1,0,none⟩ (.slice A4 zs.length c4)=z:=⟨_,rfl⟩;have X5:=X4.set (.slice A4 zs.length c4);rw[hw5] at X5;obtain⟨c0,c1,d0,d1,f0,f1⟩:=X4.fs;have g0:=X4.g0;have i0:=X4.i0;have c05:=X5.c0;have c15:=X5.c1;have d05:=X5.d0;have d15:=X5.d1;have f05:=X5.f0;have f15:=X5.f1;have g05:=X5.g0;have i05:=X5.i0;have O5:=Hd ((o4.far_set (g:=w.heap.size+1+1) (k:=0) (by have:=HX0.o.size;omega) (.slice A4 zs.length c4)).lower (B':=w.heap.size) (by have:=HX0.o.size;omega));rw[hw5] at O5;have HX5d:=Hd X5.dr;have HX5:=Hd X5;clear o4 X5)
 go_region_with (go_at_call 80;refine (HSL.o A4 c4 _ _ (O5.out.below (Below.refl _ _).drew)).mono ?_;rintro e w6 ⟨rfl,b6⟩;clear hw5;have X6:=HX5d.o.step b6;obtain⟨c0,c1,d0,d1,f0,f1⟩:=X6.fs;have g0:=X6.g0;have i0:=X6.i0;have O6:=Hd ((O5.out.below (Below.refl _ _).drew).below b6))
 all_goals
  go_wp2_with fail
  refine bodyPost_ret (Ze rfl _ _ (w.heap.size+1) 28 _ (0,0) _ rfl (X6.row _ _) Tryz.underlying28 rfl (by kernel_rfl)) rfl ?_
  have hO:=(O6.out.far2 (g:=w.heap.size+1) (.inr ⟨by rw[X6.r1];simp,ZbB O6.out X6.r1 (by decide)⟩) (.slice A4 zs.length c4) (.string v)).lower (B':=B) hB
  have hl:(zs.map trn).length=zs.length:=List.length_map ..
  exact⟨(zs.map trn,v,slV (zs.map trn)),A4,zs.length,c4,rfl,X6.fin _ _,fun q hq=>by injection hq with hq;exact⟨hq,hl.symm,by rw[hl];exact hO⟩⟩
theorem Zh3 (zs:List ByteArray) (v:ByteArray) (gl cl:Nat) (A:Option Addr) (c B:Nat) (w:World) (x t:ByteArray) (hx:x=({ data:=#[115,117,98,115,116] }:ByteArray)) (hts:t.size≤1048576) (hv:suT t=none) (hsu:Zf zs=true) (hw:isW (L v)=true) (q:StrAt w gl cl [x,t]) (ho:Own w B 9 (.slice A zs.length c) (zs.map Value.string)) (hB:B≤w.heap.size) :
  Calls Tryz.prog 41 #[.agg #[.slice A zs.length c,.string v],.slice (some ⟨gl,0,none⟩) 2 cl] w fun e w'=>BnW B w (some (zs,v,ZY)) e w':=by
 have hB2:=ho.lt
 have X0:=BZ.new w A zs.length c v
 have hx4:=Zb hw
 obtain⟨w2,hw2⟩:∃ w2,((w.alloc (.cells #[.slice A zs.length c,.string v] 28)).alloc (.cells #[.slice none 0 0,.string { data:=#[] }] 28)).alloc (.cells #[.slice none 0 0] 26)=w2:=⟨_,rfl⟩
 rw[hw2] at X0
 have r0:=X0.g0;have r1:=X0.i0
 replace X0:=X0.set (.slice none 0 0)
 obtain⟨w3,hw3⟩:∃ z,w2.setCell ⟨w.heap.size+1+1,0,none⟩ (.slice none 0 0)=z:=⟨_,rfl⟩
 rw[hw3] at X0
 obtain⟨c0,c1,d0,d1,f0,f1⟩:=X0.fs;have g0:=X0.g0;have i0:=X0.i0
 have hoX:=fun w' sv (X:BZ w w' A zs.length c v sv)=>ho.below X.bel
 have hne:=ZF ho (g:=w.heap.size+1) (by omega)
 have HOX:=Hd hoX;have HNE:=Hd hne
 have HX0:=Hd X0
 have HRD:=Hd (fun w' sv (X:BZ w w' A zs.length c v sv)=>(hoX w' sv X).reads)
 have HQ:=Hd (fun w' (b:Below w.heap.size w w')=>q.below b)
 have e0:(x.toList==[115,117,98,115,116])=true:=by rw[hx,ByteArray.toList_eq];rfl
 have e1:(x.toList==[97,102,116,101,114])=false:=by rw[hx,ByteArray.toList_eq];rfl
 have e2:(x.toList==[109,105,114,114,111,114])=false:=by rw[hx,ByteArray.toList_eq];rfl
 have k0:=(HQ.o _ HX0.o.bel).2.2.2 0 _ rfl
 have k1:=(HQ.o _ HX0.o.bel).2.2.2 1 _ rfl
 have hcs:=fun w'=>QU t hts w'
 rw[hv] at hcs
 simp only[Option.getD_none,Option.isSome_none,List.length_nil,List.map_nil] at hcs
 have HCS:=Hd hcs
 clear hcs hv hts hx hsu hw ho q
 go_enter Tryz.func41,Tryz.ntmps41
 go_wp2_with (go_at_call 90;refine (HCS.o _).mono ?_;rintro e w4 ⟨A4,c4,rfl,o4,b4⟩;clear hw2 hw3 r0 r1;have X4:=HX0.o.step b4;obtain⟨w5,hw5⟩:∃ z,w4.setCell ⟨w.heap.size+1+1,0,none⟩ (.slice A4 0 c4)=z:=⟨_,rfl⟩;have X5:=X4.set (.slice A4 0 c4);rw[hw5] at X5;obtain⟨c0,c1,d0,d1,f0,f1⟩:=X4.fs;have g0:=X4.g0;have i0:=X4.i0;have c05:=X5.c0;have c15:=X5.c1;have d05:=X5.d0;have d15:=X5.d1;have f05:=X5.f0;have f15:=X5.f1;have g05:=X5.g0;have i05:=X5.i0;have HX5:=Hd X5;clear o4 X5)
 refine bodyPost_ret (Ze rfl _ _ (w.heap.size+1) 28 _ (0,0) _ rfl (HX5.o.row _ _) Tryz.underlying28 rfl (by kernel_rfl)) rfl ?_
 have hO:=(HOX.o _ _ HX5.o).far2 (g:=w.heap.size+1) (.inr ⟨by rw[HX5.o.r1];simp,HNE.o⟩) (.slice A zs.length c) (.string v)
 exact⟨(zs,v,ZY),A,zs.length,c,rfl,HX5.o.fin _ _,fun q hq=>by injection hq with hq;exact⟨hq,rfl,hO⟩⟩
theorem Zh4 (zs:List ByteArray) (v:ByteArray) (gl cl:Nat) (A:Option Addr) (c B:Nat) (w:World) (x t:ByteArray) (hx:x=({ data:=#[115,117,98,115,116] }:ByteArray)) (hts:t.size≤1048576) (ys:List ByteArray) (hv:suT t=some ys) (hsu:Zf zs=true) (hw:isW (L v)=true) (q:StrAt w gl cl [x,t]) (ho:Own w B 9 (.slice A zs.length c) (zs.map Value.string)) (hB:B≤w.heap.size) :
  Calls Tryz.prog 41 #[.agg #[.slice A zs.length c,.string v],.slice (some ⟨gl,0,none⟩) 2 cl] w fun e w'=>BnW B w (some (ys,v,slV ys)) e w':=by
 have hB2:=ho.lt
 have X0:=BZ.new w A zs.length c v
 have hx4:=Zb hw
 obtain⟨w2,hw2⟩:∃ w2,((w.alloc (.cells #[.slice A zs.length c,.string v] 28)).alloc (.cells #[.slice none 0 0,.string { data:=#[] }] 28)).alloc (.cells #[.slice none 0 0] 26)=w2:=⟨_,rfl⟩
 rw[hw2] at X0
 have r0:=X0.g0;have r1:=X0.i0
 replace X0:=X0.set (.slice none 0 0)
 obtain⟨w3,hw3⟩:∃ z,w2.setCell ⟨w.heap.size+1+1,0,none⟩ (.slice none 0 0)=z:=⟨_,rfl⟩
 rw[hw3] at X0
 obtain⟨c0,c1,d0,d1,f0,f1⟩:=X0.fs;have g0:=X0.g0;have i0:=X0.i0
 have hoX:=fun w' sv (X:BZ w w' A zs.length c v sv)=>ho.below X.bel
 have hne:=ZF ho (g:=w.heap.size+1) (by omega)
 have HOX:=Hd hoX;have HNE:=Hd hne
 have HX0:=Hd X0
 have HRD:=Hd (fun w' sv (X:BZ w w' A zs.length c v sv)=>(hoX w' sv X).reads)
 have HQ:=Hd (fun w' (b:Below w.heap.size w w')=>q.below b)
 have e0:(x.toList==[115,117,98,115,116])=true:=by rw[hx,ByteArray.toList_eq];rfl
 have e1:(x.toList==[97,102,116,101,114])=false:=by rw[hx,ByteArray.toList_eq];rfl
 have e2:(x.toList==[109,105,114,114,111,114])=false:=by rw[hx,ByteArray.toList_eq];rfl
 have k0:=(HQ.o _ HX0.o.bel).2.2.2 0 _ rfl
 have k1:=(HQ.o _ HX0.o.bel).2.2.2 1 _ rfl
 have hcs:=fun w'=>QU t hts w'
 have hys:=Y1 hv
 rw[hv] at hcs
 simp only[Option.getD_some,Option.isSome_some] at hcs
 have hsl:=fun A2 c2 B2 w' (o:Own w' B2 9 (.slice A2 ys.length c2) (ys.map Value.string))=>QH (B:=B2) ys A2 ys.length c2 w' rfl (by have:=(ZE hys).1;omega) (fun y hy=>by have:=((ZE hys).2 y hy).2.1;unfold maxLen;omega) o
 have HCS:=Hd hcs;have HSL:=Hd hsl
 clear hcs hsl hys hv hts hx hsu hw ho q
 go_enter Tryz.func41,Tryz.ntmps41
 go_wp2_with (go_at_call 90;refine (HCS.o _).mono ?_;rintro e w4 ⟨A4,c4,rfl,o4,b4⟩;clear hw2 hw3 r0 r1;have X4:=HX0.o.step b4;obtain⟨w5,hw5⟩:∃ z,w4.setCell ⟨w.heap.size+1+1,0,none⟩ (.slice A4 ys.length c4)=z:=⟨_,rfl⟩;have X5:=X4.set (.slice A4 ys.length c4);rw[hw5] at X5;obtain⟨c0,c1,d0,d1,f0,f1⟩:=X4.fs;have g0:=X4.g0;have i0:=X4.i0;have c05:=X5.c0;have c15:=X5.c1;have d05:=X5.d0;have d15:=X5.d1;have f05:=X5.f0;have f15:=X5.f1;have g05:=X5.g0;have i05:=X5.i0;have O5:=Hd ((o4.far_set (g:=w.heap.size+1+1) (k:=0) (by have:=HX0.o.size;omega) (.slice A4 ys.length c4)).lower (B':=w.heap.size) (by have:=HX0.o.size;omega));rw[hw5] at O5;have HX5d:=Hd X5.dr;have HX5:=Hd X5;clear o4 X5)
 go_region_with (go_at_call 80;refine (HSL.o A4 c4 _ _ (O5.out.below (Below.refl _ _).drew)).mono ?_;rintro e w6 ⟨rfl,b6⟩;clear hw5;have X6:=HX5d.o.step b6;obtain⟨c0,c1,d0,d1,f0,f1⟩:=X6.fs;have g0:=X6.g0;have i0:=X6.i0;have O6:=Hd ((O5.out.below (Below.refl _ _).drew).below b6))
 all_goals
  go_wp2_with fail
  refine bodyPost_ret (Ze rfl _ _ (w.heap.size+1) 28 _ (0,0) _ rfl (X6.row _ _) Tryz.underlying28 rfl (by kernel_rfl)) rfl ?_
  have hO:=(O6.out.far2 (g:=w.heap.size+1) (.inr ⟨by rw[X6.r1];simp,ZbB O6.out X6.r1 (by decide)⟩) (.slice A4 ys.length c4) (.string v)).lower (B':=B) hB
  exact⟨(ys,v,slV ys),A4,ys.length,c4,rfl,X6.fin _ _,fun q hq=>by injection hq with hq;exact⟨hq,rfl,hO⟩⟩
theorem Zh5 (zs:List ByteArray) (v:ByteArray) (gl cl:Nat) (A:Option Addr) (c B:Nat) (w:World) (x t:ByteArray) (hx:x=({ data:=#[97,102,116,101,114] }:ByteArray)) (hts:t.size≤1048576) (hv:suT t=none) (hsu:Zf zs=true) (hw:isW (L v)=true) (q:StrAt w gl cl [x,t]) (ho:Own w B 9 (.slice A zs.length c) (zs.map Value.string)) (hB:B≤w.heap.size) :
  Calls Tryz.prog 41 #[.agg #[.slice A zs.length c,.string v],.slice (some ⟨gl,0,none⟩) 2 cl] w fun e w'=>BnW B w (some (zs,v,ZY)) e w':=by
 have hB2:=ho.lt
 have X0:=BZ.new w A zs.length c v
 have hx4:=Zb hw
 obtain⟨w2,hw2⟩:∃ w2,((w.alloc (.cells #[.slice A zs.length c,.string v] 28)).alloc (.cells #[.slice none 0 0,.string { data:=#[] }] 28)).alloc (.cells #[.slice none 0 0] 26)=w2:=⟨_,rfl⟩
 rw[hw2] at X0
 have r0:=X0.g0;have r1:=X0.i0
 replace X0:=X0.set (.slice none 0 0)
 obtain⟨w3,hw3⟩:∃ z,w2.setCell ⟨w.heap.size+1+1,0,none⟩ (.slice none 0 0)=z:=⟨_,rfl⟩
 rw[hw3] at X0
 obtain⟨c0,c1,d0,d1,f0,f1⟩:=X0.fs;have g0:=X0.g0;have i0:=X0.i0
 have hoX:=fun w' sv (X:BZ w w' A zs.length c v sv)=>ho.below X.bel
 have hne:=ZF ho (g:=w.heap.size+1) (by omega)
 have HOX:=Hd hoX;have HNE:=Hd hne
 have HX0:=Hd X0
 have HRD:=Hd (fun w' sv (X:BZ w w' A zs.length c v sv)=>(hoX w' sv X).reads)
 have HQ:=Hd (fun w' (b:Below w.heap.size w w')=>q.below b)
 have e0:(x.toList==[115,117,98,115,116])=false:=by rw[hx,ByteArray.toList_eq];rfl
 have e1:(x.toList==[97,102,116,101,114])=true:=by rw[hx,ByteArray.toList_eq];rfl
 have e2:(x.toList==[109,105,114,114,111,114])=false:=by rw[hx,ByteArray.toList_eq];rfl
 have k0:=(HQ.o _ HX0.o.bel).2.2.2 0 _ rfl
 have k1:=(HQ.o _ HX0.o.bel).2.2.2 1 _ rfl
 have hcs:=fun w'=>QU t hts w'
 rw[hv] at hcs
 simp only[Option.getD_none,Option.isSome_none,List.length_nil,List.map_nil] at hcs
 have HCS:=Hd hcs
 clear hcs hv hts hx hsu hw ho q
 go_enter Tryz.func41,Tryz.ntmps41
 go_wp2_with (go_at_call 90;refine (HCS.o _).mono ?_;rintro e w3b ⟨A3,c3,rfl,o3,b3⟩;clear hw2 hw3 r0 r1;have X3:=HX0.o.step b3;have b5:=(Below.refl w3b.heap.size w3b).alloc nlr (.cells #[.slice A3 0 c3] 26);obtain⟨w5,hw5⟩:∃ z,w3b.alloc (.cells #[.slice A3 0 c3] 26)=z:=⟨_,rfl⟩;rw[hw5] at b5;have X5:=X3.step b5;obtain⟨c0,c1,d0,d1,f0,f1⟩:=X5.fs;have g0:=X5.g0;have i0:=X5.i0;have HX5:=Hd X5;clear o3 X5 X3)
 refine bodyPost_ret (Ze rfl _ _ (w.heap.size+1) 28 _ (0,0) _ rfl (HX5.o.row _ _) Tryz.underlying28 rfl (by kernel_rfl)) rfl ?_
 have hO:=(HOX.o _ _ HX5.o).far2 (g:=w.heap.size+1) (.inr ⟨by rw[HX5.o.r1];simp,HNE.o⟩) (.slice A zs.length c) (.string v)
 exact⟨(zs,v,ZY),A,zs.length,c,rfl,HX5.o.fin _ _,fun q hq=>by injection hq with hq;exact⟨hq,rfl,hO⟩⟩
theorem Zh6 (zs:List ByteArray) (v:ByteArray) (gl cl:Nat) (A:Option Addr) (c B:Nat) (w:World) (x t:ByteArray) (hx:x=({ data:=#[97,102,116,101,114] }:ByteArray)) (hts:t.size≤1048576) (xs:List ByteArray) (hv:suT t=some xs) (hc:cmV zs xs=none) (hsu:Zf zs=true) (hw:isW (L v)=true) (q:StrAt w gl cl [x,t]) (ho:Own w B 9 (.slice A zs.length c) (zs.map Value.string)) (hB:B≤w.heap.size) :
  Calls Tryz.prog 41 #[.agg #[.slice A zs.length c,.string v],.slice (some ⟨gl,0,none⟩) 2 cl] w fun e w'=>BnW B w (some (zs,v,ZY)) e w':=by
 have hB2:=ho.lt
 have X0:=BZ.new w A zs.length c v
 have hx4:=Zb hw
 obtain⟨w2,hw2⟩:∃ w2,((w.alloc (.cells #[.slice A zs.length c,.string v] 28)).alloc (.cells #[.slice none 0 0,.string { data:=#[] }] 28)).alloc (.cells #[.slice none 0 0] 26)=w2:=⟨_,rfl⟩
 rw[hw2] at X0
 have r0:=X0.g0;have r1:=X0.i0
 replace X0:=X0.set (.slice none 0 0)
 obtain⟨w3,hw3⟩:∃ z,w2.setCell ⟨w.heap.size+1+1,0,none⟩ (.slice none 0 0)=z:=⟨_,rfl⟩
 rw[hw3] at X0
 obtain⟨c0,c1,d0,d1,f0,f1⟩:=X0.fs;have g0:=X0.g0;have i0:=X0.i0
 have hoX:=fun w' sv (X:BZ w w' A zs.length c v sv)=>ho.below X.bel
 have hne:=ZF ho (g:=w.heap.size+1) (by omega)
 have HOX:=Hd hoX;have HNE:=Hd hne
 have HX0:=Hd X0
 have HRD:=Hd (fun w' sv (X:BZ w w' A zs.length c v sv)=>(hoX w' sv X).reads)
 have HQ:=Hd (fun w' (b:Below w.heap.size w w')=>q.below b)
 have e0:(x.toList==[115,117,98,115,116])=false:=by rw[hx,ByteArray.toList_eq];rfl
 have e1:(x.toList==[97,102,116,101,114])=true:=by rw[hx,ByteArray.toList_eq];rfl
 have e2:(x.toList==[109,105,114,114,111,114])=false:=by rw[hx,ByteArray.toList_eq];rfl
 have k0:=(HQ.o _ HX0.o.bel).2.2.2 0 _ rfl
 have k1:=(HQ.o _ HX0.o.bel).2.2.2 1 _ rfl
 have hcs:=fun w'=>QU t hts w'
 have hxs:=Y1 hv
 rw[hv] at hcs
 simp only[Option.getD_some,Option.isSome_some] at hcs
 have hcc:=fun A3 c3 w' sv (X:BZ w w' A zs.length c v sv) (r:Rds w' w'.heap.size A3 (xs.map Value.string))=>YH zs xs A A3 c c3 _ w' hsu hxs (HRD.o _ _ X) r nlr
 simp only[hc,Option.getD_none,Option.isSome_none,List.length_nil,List.map_nil] at hcc
 have HCS:=Hd hcs;have HCC:=Hd (fun A3 c3 w' (X:BZ w w' A zs.length c v (.slice none 0 0)) r=>hcc A3 c3 w' _ X r)
 clear hcs hcc hc hxs hv hts hx hsu hw ho q
 go_enter Tryz.func41,Tryz.ntmps41
 go_wp2_with (first|(go_at_call 90;refine (HCS.o _).mono ?_;rintro e w3b ⟨A3,c3,rfl,o3,b3⟩;clear hw2 hw3 r0 r1;have X3:=HX0.o.step b3;have b5:=(Below.refl w3b.heap.size w3b).alloc nlr (.cells #[.slice A3 xs.length c3] 26);have h9:=heap_alloc_new w3b (.cells #[.slice A3 xs.length c3] 26);obtain⟨w3c,hw3c⟩:∃ z,w3b.alloc (.cells #[.slice A3 xs.length c3] 26)=z:=⟨_,rfl⟩;rw[hw3c] at b5 h9;have p9:=cell_of_row _ _ 0 _ _ (0,0) h9;have X5:=X3.step b5;obtain⟨c0,c1,d0,d1,f0,f1⟩:=X5.fs;have g0:=X5.g0;have i0:=X5.i0;have HX5a:=Hd X5;have O3:=Hd (o3.below b5).reads;clear o3 X5 X3 h9)|(go_at_call 91;refine (HCC.o A3 c3 _ HX5a.o O3.out).mono ?_;rintro e w4 ⟨A4,c4,rfl,o4,b4⟩;clear hw3c;have X4:=HX5a.o.step b4;obtain⟨w5,hw5⟩:∃ z,w4.setCell ⟨w.heap.size+1+1,0,none⟩ (.slice A4 0 c4)=z:=⟨_,rfl⟩;have X5:=X4.set (.slice A4 0 c4);rw[hw5] at X5;obtain⟨c0,c1,d0,d1,f0,f1⟩:=X4.fs;have g0:=X4.g0;have i0:=X4.i0;have c05:=X5.c0;have c15:=X5.c1;have d05:=X5.d0;have d15:=X5.d1;have f05:=X5.f0;have f15:=X5.f1;have g05:=X5.g0;have i05:=X5.i0;have HX5:=Hd X5;clear o4 X5))
 refine bodyPost_ret (Ze rfl _ _ (w.heap.size+1) 28 _ (0,0) _ rfl (HX5.o.row _ _) Tryz.underlying28 rfl (by kernel_rfl)) rfl ?_
 have hO:=(HOX.o _ _ HX5.o).far2 (g:=w.heap.size+1) (.inr ⟨by rw[HX5.o.r1];simp,HNE.o⟩) (.slice A zs.length c) (.string v)
 exact⟨(zs,v,ZY),A,zs.length,c,rfl,HX5.o.fin _ _,fun q hq=>by injection hq with hq;exact⟨hq,rfl,hO⟩⟩
theorem Zh7 (zs:List ByteArray) (v:ByteArray) (gl cl:Nat) (A:Option Addr) (c B:Nat) (w:World) (x t:ByteArray) (hx:x=({ data:=#[97,102,116,101,114] }:ByteArray)) (hts:t.size≤1048576) (xs ys:List ByteArray) (hv:suT t=some xs) (hc:cmV zs xs=some ys) (hys:Zf ys=true) (hsu:Zf zs=true) (hw:isW (L v)=true) (q:StrAt w gl cl [x,t]) (ho:Own w B 9 (.slice A zs.length c) (zs.map Value.string)) (hB:B≤w.heap.size) :
  Calls Tryz.prog 41 #[.agg #[.slice A zs.length c,.string v],.slice (some ⟨gl,0,none⟩) 2 cl] w fun e w'=>BnW B w (some (ys,v,slV ys)) e w':=by
 have hB2:=ho.lt
 have X0:=BZ.new w A zs.length c v
 have hx4:=Zb hw
 obtain⟨w2,hw2⟩:∃ w2,((w.alloc (.cells #[.slice A zs.length c,.string v] 28)).alloc (.cells #[.slice none 0 0,.string { data:=#[] }] 28)).alloc (.cells #[.slice none 0 0] 26)=w2:=⟨_,rfl⟩
 rw[hw2] at X0
 have r0:=X0.g0;have r1:=X0.i0
 replace X0:=X0.set (.slice none 0 0)
 obtain⟨w3,hw3⟩:∃ z,w2.setCell ⟨w.heap.size+1+1,0,none⟩ (.slice none 0 0)=z:=⟨_,rfl⟩
 rw[hw3] at X0
 obtain⟨c0,c1,d0,d1,f0,f1⟩:=X0.fs;have g0:=X0.g0;have i0:=X0.i0
 have hoX:=fun w' sv (X:BZ w w' A zs.length c v sv)=>ho.below X.bel
 have hne:=ZF ho (g:=w.heap.size+1) (by omega)
 have HOX:=Hd hoX;have HNE:=Hd hne
 have HX0:=Hd X0
 have HRD:=Hd (fun w' sv (X:BZ w w' A zs.length c v sv)=>(hoX w' sv X).reads)
 have HQ:=Hd (fun w' (b:Below w.heap.size w w')=>q.below b)
 have e0:(x.toList==[115,117,98,115,116])=false:=by rw[hx,ByteArray.toList_eq];rfl
 have e1:(x.toList==[97,102,116,101,114])=true:=by rw[hx,ByteArray.toList_eq];rfl
 have e2:(x.toList==[109,105,114,114,111,114])=false:=by rw[hx,ByteArray.toList_eq];rfl
 have k0:=(HQ.o _ HX0.o.bel).2.2.2 0 _ rfl
 have k1:=(HQ.o _ HX0.o.bel).2.2.2 1 _ rfl
 have hcs:=fun w'=>QU t hts w'
 have hxs:=Y1 hv
 rw[hv] at hcs
 simp only[Option.getD_some,Option.isSome_some] at hcs
 have hcc:=fun A3 c3 w' sv (X:BZ w w' A zs.length c v sv) (r:Rds w' w'.heap.size A3 (xs.map Value.string))=>YH zs xs A A3 c c3 _ w' hsu hxs (HRD.o _ _ X) r nlr
 simp only[hc,Option.getD_some,Option.isSome_some] at hcc
 have hsl:=fun A2 c2 B2 w' (o:Own w' B2 9 (.slice A2 ys.length c2) (ys.map Value.string))=>QH (B:=B2) ys A2 ys.length c2 w' rfl (by have:=(ZE hys).1;omega) (fun y hy=>by have:=((ZE hys).2 y hy).2.1;unfold maxLen;omega) o
 have HCS:=Hd hcs;have HCC:=Hd (fun A3 c3 w' (X:BZ w w' A zs.length c v (.slice none 0 0)) r=>hcc A3 c3 w' _ X r);have HSL:=Hd hsl
 clear hcs hcc hsl hc hys hxs hv hts hx hsu hw ho q
 go_enter Tryz.func41,Tryz.ntmps41
 go_wp2_with (first|(go_at_call 90;refine (HCS.o _).mono ?_;rintro e w3b ⟨A3,c3,rfl,o3,b3⟩;clear hw2 hw3 r0 r1;have X3:=HX0.o.step b3;have b5:=(Below.refl w3b.heap.size w3b).alloc nlr (.cells #[.slice A3 xs.length c3] 26);have h9:=heap_alloc_new w3b (.cells #[.slice A3 xs.length c3] 26);obtain⟨w3c,hw3c⟩:∃ z,w3b.alloc (.cells #[.slice A3 xs.length c3] 26)=z:=⟨_,rfl⟩;rw[hw3c] at b5 h9;have p9:=cell_of_row _ _ 0 _ _ (0,0) h9;have X5:=X3.step b5;obtain⟨c0,c1,d0,d1,f0,f1⟩:=X5.fs;have g0:=X5.g0;have i0:=X5.i0;have HX5a:=Hd X5;have O3:=Hd (o3.below b5).reads;clear o3 X5 X3 h9)|(go_at_call 91;refine (HCC.o A3 c3 _ HX5a.o O3.out).mono ?_;rintro e w4 ⟨A4,c4,rfl,o4,b4⟩;clear hw3c;have X4:=HX5a.o.step b4;obtain⟨w5,hw5⟩:∃ z,w4.setCell ⟨w.heap.size+1+1,0,none⟩ (.slice A4 ys.length c4)=z:=⟨_,rfl⟩;have X5:=X4.set (.slice A4 ys.length c4);rw[hw5] at X5;obtain⟨c0,c1,d0,d1,f0,f1⟩:=X4.fs;have g0:=X4.g0;have i0:=X4.i0;have c05:=X5.c0;have c15:=X5.c1;have d05:=X5.d0;have d15:=X5.d1;have f05:=X5.f0;have f15:=X5.f1;have g05:=X5.g0;have i05:=X5.i0;have O5:=Hd ((o4.far_set (g:=w.heap.size+1+1) (k:=0) (by have:=HX5a.o.size;omega) (.slice A4 ys.length c4)).lower (B':=w.heap.size) (by have:=HX5a.o.size;omega));rw[hw5] at O5;have HX5d:=Hd X5.dr;have HX5:=Hd X5;clear o4 X5))
 go_region_with (go_at_call 80;refine (HSL.o A4 c4 _ _ (O5.out.below (Below.refl _ _).drew)).mono ?_;rintro e w6 ⟨rfl,b6⟩;clear hw5;have X6:=HX5d.o.step b6;obtain⟨c0,c1,d0,d1,f0,f1⟩:=X6.fs;have g0:=X6.g0;have i0:=X6.i0;have O6:=Hd ((O5.out.below (Below.refl _ _).drew).below b6))
 all_goals
  go_wp2_with fail
  refine bodyPost_ret (Ze rfl _ _ (w.heap.size+1) 28 _ (0,0) _ rfl (X6.row _ _) Tryz.underlying28 rfl (by kernel_rfl)) rfl ?_
  have hO:=(O6.out.far2 (g:=w.heap.size+1) (.inr ⟨by rw[X6.r1];simp,ZbB O6.out X6.r1 (by decide)⟩) (.slice A4 ys.length c4) (.string v)).lower (B':=B) hB
  exact⟨(ys,v,slV ys),A4,ys.length,c4,rfl,X6.fin _ _,fun q hq=>by injection hq with hq;exact⟨hq,rfl,hO⟩⟩
theorem Wd (zs:List ByteArray) (v:ByteArray) (gl cl:Nat) (A:Option Addr) (c B:Nat) (w:World) (x:ByteArray) (rs:List ByteArray) (n:Nat) (hn:rs.length+1=n) (q0:x=({ data:=#[115,117,98,115,116] }:ByteArray)→n≠2) (q1:x=({ data:=#[97,102,116,101,114] }:ByteArray)→n≠2) (q2:x=({ data:=#[109,105,114,114,111,114] }:ByteArray)→n≠1) (hsu:Zf zs=true) (hw:isW (L v)=true) (q:StrAt w gl cl (x :: rs)) (ho:Own w B 9 (.slice A zs.length c) (zs.map Value.string)) (hB:B≤w.heap.size) :
  Calls Tryz.prog 41 #[.agg #[.slice A zs.length c,.string v],.slice (some ⟨gl,0,none⟩) n cl] w fun e w'=>BnW B w (none) e w':=by
 have hB2:=ho.lt
 have X0:=BZ.new w A zs.length c v
 have hx4:=Zb hw
 obtain⟨w2,hw2⟩:∃ w2,((w.alloc (.cells #[.slice A zs.length c,.string v] 28)).alloc (.cells #[.slice none 0 0,.string { data:=#[] }] 28)).alloc (.cells #[.slice none 0 0] 26)=w2:=⟨_,rfl⟩
 rw[hw2] at X0
 have r0:=X0.g0;have r1:=X0.i0
 replace X0:=X0.set (.slice none 0 0)
 obtain⟨w3,hw3⟩:∃ z,w2.setCell ⟨w.heap.size+1+1,0,none⟩ (.slice none 0 0)=z:=⟨_,rfl⟩
 rw[hw3] at X0
 obtain⟨c0,c1,d0,d1,f0,f1⟩:=X0.fs;have g0:=X0.g0;have i0:=X0.i0
 have hoX:=fun w' sv (X:BZ w w' A zs.length c v sv)=>ho.below X.bel
 have hne:=ZF ho (g:=w.heap.size+1) (by omega)
 have HOX:=Hd hoX;have HNE:=Hd hne
 have HX0:=Hd X0
 have HRD:=Hd (fun w' sv (X:BZ w w' A zs.length c v sv)=>(hoX w' sv X).reads)
 have HQ:=Hd (fun w' (b:Below w.heap.size w w')=>q.below b)
 have k0:=(HQ.o _ HX0.o.bel).2.2.2 0 _ rfl
 have hn0:(0:Int)<(n:Int):=by omega
 have hn2:1≤n:=by omega
 clear hn hsu hw ho q
 by_cases hx0:x=({ data:=#[115,117,98,115,116] }:ByteArray)
 ·have hx:=hx0
  as_aux_lemma =>
   have e0:(x.toList==[115,117,98,115,116])=true:=by rw[hx,ByteArray.toList_eq];rfl
   have e1:(x.toList==[97,102,116,101,114])=false:=by rw[hx,ByteArray.toList_eq];rfl
   have e2:(x.toList==[109,105,114,114,111,114])=false:=by rw[hx,ByteArray.toList_eq];rfl
   have ya:¬ n=2:=q0 hx
   have yb:¬ (n:Int)=2:=by omega
   have yc:((n:Int)==2)=false:=by simp;omega
   clear q0 q1 q2 hx0 hx
   go_enter Tryz.func41,Tryz.ntmps41
   go_wp2_with fail
   refine bodyPost_ret (Ze rfl _ _ (w.heap.size+1) 28 _ (0,0) _ rfl (HX0.o.row _ _) Tryz.underlying28 rfl (by kernel_rfl)) rfl ?_
   have hO:=(HOX.o _ _ HX0.o).far2 (g:=w.heap.size+1) (.inr ⟨by rw[HX0.o.r1];simp,HNE.o⟩) (.slice A zs.length c) (.string v)
   exact⟨(zs,v,{ data:=#[] }),A,zs.length,c,rfl,HX0.o.fin _ _,fun q hq=>by cases hq⟩
 by_cases hx1:x=({ data:=#[97,102,116,101,114] }:ByteArray)
 ·have hx:=hx1
  as_aux_lemma =>
   have e0:(x.toList==[115,117,98,115,116])=false:=by rw[hx,ByteArray.toList_eq];rfl
   have e1:(x.toList==[97,102,116,101,114])=true:=by rw[hx,ByteArray.toList_eq];rfl
   have e2:(x.toList==[109,105,114,114,111,114])=false:=by rw[hx,ByteArray.toList_eq];rfl
   have ya:¬ n=2:=q1 hx
   have yb:¬ (n:Int)=2:=by omega
   have yc:((n:Int)==2)=false:=by simp;omega
   clear q0 q1 q2 hx0 hx1 hx
   go_enter Tryz.func41,Tryz.ntmps41
   go_wp2_with fail
   refine bodyPost_ret (Ze rfl _ _ (w.heap.size+1) 28 _ (0,0) _ rfl (HX0.o.row _ _) Tryz.underlying28 rfl (by kernel_rfl)) rfl ?_
   have hO:=(HOX.o _ _ HX0.o).far2 (g:=w.heap.size+1) (.inr ⟨by rw[HX0.o.r1];simp,HNE.o⟩) (.slice A zs.length c) (.string v)
   exact⟨(zs,v,{ data:=#[] }),A,zs.length,c,rfl,HX0.o.fin _ _,fun q hq=>by cases hq⟩
 by_cases hx2:x=({ data:=#[109,105,114,114,111,114] }:ByteArray)
 ·have hx:=hx2
  as_aux_lemma =>
   have e0:(x.toList==[115,117,98,115,116])=false:=by rw[hx,ByteArray.toList_eq];rfl
   have e1:(x.toList==[97,102,116,101,114])=false:=by rw[hx,ByteArray.toList_eq];rfl
   have e2:(x.toList==[109,105,114,114,111,114])=true:=by rw[hx,ByteArray.toList_eq];rfl
   have ya:¬ n=1:=q2 hx
   have yb:¬ (n:Int)=1:=by omega
   have yc:((n:Int)==1)=false:=by simp;omega
   clear q0 q1 q2 hx0 hx1 hx2 hx
   go_enter Tryz.func41,Tryz.ntmps41
   go_wp2_with fail
   refine bodyPost_ret (Ze rfl _ _ (w.heap.size+1) 28 _ (0,0) _ rfl (HX0.o.row _ _) Tryz.underlying28 rfl (by kernel_rfl)) rfl ?_
   have hO:=(HOX.o _ _ HX0.o).far2 (g:=w.heap.size+1) (.inr ⟨by rw[HX0.o.r1];simp,HNE.o⟩) (.slice A zs.length c) (.string v)
   exact⟨(zs,v,{ data:=#[] }),A,zs.length,c,rfl,HX0.o.fin _ _,fun q hq=>by cases hq⟩
 have e0:(x.toList==[115,117,98,115,116])=false:=by have:=Zr hx0;rwa[show (({ data:=#[115,117,98,115,116] }:ByteArray)).toList=[115,117,98,115,116] from by rw[ByteArray.toList_eq]] at this
 have e1:(x.toList==[97,102,116,101,114])=false:=by have:=Zr hx1;rwa[show (({ data:=#[97,102,116,101,114] }:ByteArray)).toList=[97,102,116,101,114] from by rw[ByteArray.toList_eq]] at this
 have e2:(x.toList==[109,105,114,114,111,114])=false:=by have:=Zr hx2;rwa[show (({ data:=#[109,105,114,114,111,114] }:ByteArray)).toList=[109,105,114,114,111,114] from by rw[ByteArray.toList_eq]] at this
 clear q0 q1 q2 hx0 hx1 hx2
 go_enter Tryz.func41,Tryz.ntmps41
 go_wp2_with fail
 refine bodyPost_ret (Ze rfl _ _ (w.heap.size+1) 28 _ (0,0) _ rfl (HX0.o.row _ _) Tryz.underlying28 rfl (by kernel_rfl)) rfl ?_
 have hO:=(HOX.o _ _ HX0.o).far2 (g:=w.heap.size+1) (.inr ⟨by rw[HX0.o.r1];simp,HNE.o⟩) (.slice A zs.length c) (.string v)
 exact⟨(zs,v,{ data:=#[] }),A,zs.length,c,rfl,HX0.o.fin _ _,fun q hq=>by cases hq⟩
theorem ZeA (zs:List ByteArray) (v:ByteArray) (ps:List ByteArray) (gl cl:Nat) (A:Option Addr) (c B:Nat) (w:World) (h0:ps≠[]) (hps:∀ p∈ps,p.size≤1048576) (hsu:Zf zs=true) (hw:isW (L v)=true) (q:StrAt w gl cl ps) (ho:Own w B 9 (.slice A zs.length c) (zs.map Value.string)) (hB:B≤w.heap.size) :
  Calls Tryz.prog 41 #[.agg #[.slice A zs.length c,.string v],.slice (some ⟨gl,0,none⟩) ps.length cl] w fun e w'=>BnW B w ((QV zs v ps).map (Jl zs v)) e w':=by
 match ps,h0,hps,q with
 | [x],_,hps,q =>
  by_cases hx:x=({ data:=#[109,105,114,114,111,114] }:ByteArray)
  ·have hv:(QV zs v [x]).map (Jl zs v)=some (zs.map trn,v,slV (zs.map trn)):=by subst hx;show some (Jl zs v (tsV zs))=_;rw[show tsV zs=some (zs.map trn) from if_pos hsu];rfl
   rw[hv]
   exact Zez zs v gl cl A c B w x hx hsu hw q ho hB
  have hv:(QV zs v [x]).map (Jl zs v)=none:=by simp only[QV];rw[if_neg hx];rfl
  rw[hv]
  exact Wd zs v gl cl A c B w x [] 1 rfl (fun _=>by decide) (fun _=>by decide) (fun h=>absurd h hx) hsu hw q ho hB
 | [x,t],_,hps,q =>
  have ht:=hps t (by simp)
  by_cases hx:x=({ data:=#[115,117,98,115,116] }:ByteArray)
  ·have hv:(QV zs v [x,t]).map (Jl zs v)=some (Jl zs v (suT t)):=by subst hx;rfl
   rw[hv]
   cases hs:suT t with
   | none=>exact Zh3 zs v gl cl A c B w x t hx ht hs hsu hw q ho hB
   | some ys=>exact Zh4 zs v gl cl A c B w x t hx ht ys hs hsu hw q ho hB
  by_cases hy:x=({ data:=#[97,102,116,101,114] }:ByteArray)
  ·have hv:(QV zs v [x,t]).map (Jl zs v)=some (Jl zs v ((suT t).bind (cmV zs))):=by subst hy;rfl
   rw[hv]
   cases hs:suT t with
   | none=>exact Zh5 zs v gl cl A c B w x t hy ht hs hsu hw q ho hB
   | some xs =>
    show Calls _ _ _ _ fun e w'=>BnW B w (some (Jl zs v (cmV zs xs))) e w'
    cases hc:cmV zs xs with
    | none=>exact Zh6 zs v gl cl A c B w x t hy ht xs hs hc hsu hw q ho hB
    | some ys=>exact Zh7 zs v gl cl A c B w x t hy ht xs ys hs hc (Zex hc) hsu hw q ho hB
  have hv:(QV zs v [x,t]).map (Jl zs v)=none:=by simp only[QV];rw[if_neg hx,if_neg hy];rfl
  rw[hv]
  exact Wd zs v gl cl A c B w x [t] 2 rfl (fun h=>absurd h hx) (fun h=>absurd h hy) (fun _=>by decide) hsu hw q ho hB
 | x :: t :: m :: l,_,hps,q =>
  have hv:(QV zs v (x :: t :: m :: l)).map (Jl zs v)=none:=rfl
  rw[hv]
  exact Wd zs v gl cl A c B w x (t :: m :: l) (l.length+1+1+1) rfl (fun _=>by omega) (fun _=>by omega) (fun _=>by omega) hsu hw q ho hB
end Go.Proofs.YtocbgldilgemoaaGreatDoor
