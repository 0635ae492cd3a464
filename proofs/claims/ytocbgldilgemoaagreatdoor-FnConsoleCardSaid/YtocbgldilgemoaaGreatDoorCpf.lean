/- A line of the program's console. Asks the shelf's text. No condition but the bounds. -/
import Derived.Test.YtocbgldilgemoaaGreatDoorCow
import Derived.Test.YtocbgldilgemoaaGreatDoorCnu
import Derived.Test.YtocbgldilgemoaaGreatDoorStl
namespace Go.Proofs.YtocbgldilgemoaaGreatDoor
set_option maxRecDepth 8000
set_option maxHeartbeats 8000000
open Go.RowKit
set_option linter.unusedVariables false
theorem BX.step2 {w w' w'':World} {A:Option Addr} {n c:Nat} {v:ByteArray} (h:BX w w' A n c v) (hb:Below (w.heap.size+2) w' w''):BX w w'' A n c v where
 r0:=(hb.block _ (by omega)).trans h.r0
 r1:=(hb.block _ (by omega)).trans h.r1
 bel:=h.bel.trans (hb.mono (by omega))
 size:=Nat.le_trans h.size hb.size
theorem ZcU (zs:List ByteArray) (v line:ByteArray) (A:Option Addr) (c B:Nat) (w:World) (x:ByteArray) (hps:ZD 32 line=[x]) (hsu:Zf zs=true) (hw:isW (L v)=true) (hl:line.size≤1048576) (ho:Own w B 9 (.slice A zs.length c) (zs.map Value.string)) (hB:B≤w.heap.size) (htb:TB w) (hml:MlS w) (hes:ES w) (heg:EG w) :
  Calls Tryz.prog 25 #[.agg #[.slice A zs.length c,.string v],.string line] w fun e w'=>BnR B w (rl1 zs v x) e w':=by
 have hB2:=ho.lt
 have X0:=BX.new w A zs.length c v
 have hx4:=Zb hw
 obtain⟨w2,hw2⟩:∃ w2,(w.alloc (.cells #[.slice A zs.length c,.string v] 28)).alloc (.cells #[.slice none 0 0,.string { data:=#[] }] 28)=w2:=⟨_,rfl⟩
 rw[hw2] at X0
 have X1:=X0.dr
 obtain⟨c0,c1,d0,d1,f0,f1⟩:=X0.fs
 have hoX:=fun w' (X:BX w w' A zs.length c v)=>ho.below X.bel
 have hne:=ZF ho (g:=w.heap.size+1) (by omega)
 have HOX:=Hd hoX;have HNE:=Hd hne;have HTB:=Hd (fun w' (X:BX w w' A zs.length c v)=>htb.below X.bel)
 have HML:=Hd (fun w' (X:BX w w' A zs.length c v)=>hml.below X.bel)
 have HES:=Hd (fun w' (X:BX w w' A zs.length c v)=>hes.below X.bel)
 have HEG:=Hd (fun w' (X:BX w w' A zs.length c v)=>heg.below X.bel)
 have HX0:=Hd X0;have HX1:=Hd X1
 have HRD:=Hd (fun w' (X:BX w w' A zs.length c v)=>(hoX w' X).reads)
 clear X0 hoX hne ho htb hml hes heg
 have hps2:∀ p∈ZD 32 line,p.size≤1048576:=fun p hp=>Nat.le_trans (Z6 32 line p hp) hl
 have hle:=Qf 32 line
 have hsp:Calls Tryz.prog 57 #[.string line,.string ⟨#[32]⟩] w2 fun e w'=>∃ g,e=.returned (.slice (some ⟨g,0,none⟩) 1 1)∧Own w' w2.heap.size 9 (.slice (some ⟨g,0,none⟩) 1 1) (([x]).map Value.string)∧Below w2.heap.size w2 w':=by
  have h:=Qn line 32 (by omega) w2 (HML.o _ HX0.o)
  rw[hps] at h
  first|exact h|(rw[hn] at h;exact h)
 rw[hps] at hps2 hle
 have HSP:=Hd hsp
 obtain⟨r,hr⟩:∃ r,rl1 zs v x=r:=⟨_,rfl⟩
 have hcl:=fun w' (X:BX w w' A zs.length c v)=>Zet zs v x A c B w' hsu hw (HOX.o _ X) (by have:=X.size;omega) (HTB.o _ X)
 rw[hr] at hcl
 have HCL:=Hd hcl
 rw[hr]
 clear hcl hr hsp hps hps2 hle hsu hw
 go_enter Tryz.func25,Tryz.ntmps25
 go_wp2_with (go_at_call 57;refine HSP.o.mono ?_;rintro e w3 ⟨gs,rfl,o3,b3⟩;clear hw2;have X3:=HX0.o.step b3;obtain⟨c0,c1,d0,d1,f0,f1⟩:=X3.fs;have q:=Own.str (ss:=[x]) o3 (by first|rfl|assumption);have k0:=q.2.2.2 0 _ rfl;have HQ:=Hd (fun w' (b:Below w3.heap.size w3 w')=>q.below b);have Z3:=Hd b3.size;clear o3 q)
 have X3d:=X3.dr
 have HX3d:=Hd X3d
 clear X3d
 go_region_with (go_at_call 58;refine (HCL.o _ HX3d.o).mono ?_;rintro e w4 ⟨A4,c4,rfl,o4,b4⟩;have X4:=HX3d.o.step b4;obtain⟨c0,c1,d0,d1,f0,f1⟩:=X4.fs;have O4:=Hd o4;clear o4)
 all_goals
  go_wp2_with fail
  refine bodyPost_ret (Za rfl _ _ (w.heap.size+1) 28 _ (0,0) _ rfl (X4.row _ _) Tryz.underlying28 rfl (by kernel_rfl)) rfl ?_
  have hO:=O4.out.far2 (g:=w.heap.size+1) (.inr ⟨by rw[X4.r1];simp,Vs O4.out X4.r1 (by decide)⟩) (.slice A4 r.1.length c4) (.string r.2.1)
  exact⟨A4,c4,rfl,hO,X4.fin _ _⟩
theorem ZcV (zs:List ByteArray) (v line:ByteArray) (A:Option Addr) (c B:Nat) (w:World) (x t:ByteArray) (hps:ZD 32 line=[x,t]) (hsu:Zf zs=true) (hw:isW (L v)=true) (hl:line.size≤1048576) (ho:Own w B 9 (.slice A zs.length c) (zs.map Value.string)) (hB:B≤w.heap.size) (htb:TB w) (hml:MlS w) (hes:ES w) (heg:EG w) :
  Calls Tryz.prog 25 #[.agg #[.slice A zs.length c,.string v],.string line] w fun e w'=>BnR B w (match rl2 zs v x t with|some r=>r|none=>rl3 zs v x [t]) e w':=by
 have hB2:=ho.lt
 have X0:=BX.new w A zs.length c v
 have hx4:=Zb hw
 obtain⟨w2,hw2⟩:∃ w2,(w.alloc (.cells #[.slice A zs.length c,.string v] 28)).alloc (.cells #[.slice none 0 0,.string { data:=#[] }] 28)=w2:=⟨_,rfl⟩
 rw[hw2] at X0
 have X1:=X0.dr
 obtain⟨c0,c1,d0,d1,f0,f1⟩:=X0.fs
 have hoX:=fun w' (X:BX w w' A zs.length c v)=>ho.below X.bel
 have hne:=ZF ho (g:=w.heap.size+1) (by omega)
 have HOX:=Hd hoX;have HNE:=Hd hne;have HTB:=Hd (fun w' (X:BX w w' A zs.length c v)=>htb.below X.bel)
 have HML:=Hd (fun w' (X:BX w w' A zs.length c v)=>hml.below X.bel)
 have HES:=Hd (fun w' (X:BX w w' A zs.length c v)=>hes.below X.bel)
 have HEG:=Hd (fun w' (X:BX w w' A zs.length c v)=>heg.below X.bel)
 have HX0:=Hd X0;have HX1:=Hd X1
 have HRD:=Hd (fun w' (X:BX w w' A zs.length c v)=>(hoX w' X).reads)
 clear X0 hoX hne ho htb hml hes heg
 have hps2:∀ p∈ZD 32 line,p.size≤1048576:=fun p hp=>Nat.le_trans (Z6 32 line p hp) hl
 have hle:=Qf 32 line
 have hsp:Calls Tryz.prog 57 #[.string line,.string ⟨#[32]⟩] w2 fun e w'=>∃ g,e=.returned (.slice (some ⟨g,0,none⟩) 2 2)∧Own w' w2.heap.size 9 (.slice (some ⟨g,0,none⟩) 2 2) (([x,t]).map Value.string)∧Below w2.heap.size w2 w':=by
  have h:=Qn line 32 (by omega) w2 (HML.o _ HX0.o)
  rw[hps] at h
  first|exact h|(rw[hn] at h;exact h)
 rw[hps] at hps2 hle
 have HSP:=Hd hsp
 have htz:t.size≤1048576:=hps2 t (by simp)
 have hcl:=fun w' (X:BX w w' A zs.length c v)=>Zeu zs v x t A c B w' hsu hw htz (HOX.o _ X) (by have:=X.size;omega) (HTB.o _ X) (HML.o _ X)
 obtain⟨o,hr⟩:∃ o,rl2 zs v x t=o:=⟨_,rfl⟩
 rw[hr] at hcl ⊢
 obtain⟨R,hR⟩:∃ R,(match o with|some r=>r|none=>rl3 zs v x [t])=R:=⟨_,rfl⟩
 rw[hR]
 have HRR:=Hd hR
 clear hR
 have HCL:=Hd hcl;have HPS:=Hd hps;have HL:=Hd hl;have HP2:=Hd hps2;have HSU:=Hd hsu;have HWW:=Hd hw
 clear hcl hr hsp hps hps2 hle hsu hw htz
 go_enter Tryz.func25,Tryz.ntmps25
 go_upto_region 5 with (go_at_call 57;refine HSP.o.mono ?_;rintro e w3 ⟨gs,rfl,o3,b3⟩;clear hw2;have X3:=HX0.o.step b3;obtain⟨c0,c1,d0,d1,f0,f1⟩:=X3.fs;have q:=Own.str (ss:=[x,t]) o3 (by first|rfl|assumption);have k0:=q.2.2.2 0 _ rfl;have k1:=q.2.2.2 1 _ rfl;have HQ:=Hd (fun w' (b:Below w3.heap.size w3 w')=>q.below b);have Z3:=Hd b3.size;clear o3 q)
 go_cut [7,8,9] from 29 to 41 (fun s7 s8 s9 wx=>∃ (r:Rz) (bx:Nat) (A4:Option Addr) (n4 c4:Nat),s7=.pointer (some ⟨bx,0,none⟩)∧s8=.string r.2.2∧s9=.bool o.isSome∧BX w wx A zs.length c v∧Below w3.heap.size w3 wx∧wx.heap[bx]? = some (.cells #[.slice A4 n4 c4,.string r.2.1] 28 (0,0))∧∀ q,o=some q→r=q∧n4=r.1.length∧Own wx B 9 (.slice A4 r.1.length c4) (r.1.map Value.string))
 case first=>as_aux_lemma =>
  have z3a:(w3.alloc (.cells #[.slice none 0 0,.string { data:=#[] }] 28)).heap.size=w3.heap.size+1:=(by simp)
  have r3:=heap_alloc_new w3 (.cells #[.slice none 0 0,.string { data:=#[] }] 28)
  have b3a:=(Below.refl w3.heap.size w3).alloc nlr (.cells #[.slice none 0 0,.string { data:=#[] }] 28)
  have X3c:=X3.dr
  have HX3c:=Hd X3c
  clear X3c
  have X3e:=X3.step b3a;have y0:=X3e.c0;have y1:=X3e.c1;have y2:=X3e.d0;have y3:=X3e.d1;have y4:=X3e.f0;have y5:=X3e.f1;have y6:=(HQ.o _ b3a).2.2.2 0 _ rfl;have y7:=(HQ.o _ b3a).2.2.2 1 _ rfl
  clear X3e
  have X3d:=(X3.step b3a).dr
  have HX3d:=Hd X3d;have R3:=Hd r3;have Z3a:=Hd z3a;have S3:=Hd X3.size;have B3A:=Hd b3a.drew
  clear X3d b3a r3 z3a
  go_region_with (go_at_call 59;first|(refine (HCL.o _ HX3c.o).mono ?_;rintro e w4 ⟨r4,A4,n4,c4,rfl,b4,h4⟩;have X4:=HX3c.o.step b4;obtain⟨c0,c1,d0,d1,f0,f1⟩:=X4.fs;have H4:=Hd h4;clear h4;have B4:=Hd b4)|(refine (HCL.o _ HX3d.o).mono ?_;rintro e w4 ⟨r4,A4,n4,c4,rfl,b4,h4⟩;have X4:=HX3d.o.step b4;obtain⟨c0,c1,d0,d1,f0,f1⟩:=X4.fs;have H4:=Hd h4;clear h4;have r4b:=(b4.block w3.heap.size (by show w3.heap.size<(w3.alloc _).heap.size;have:=Z3a.out;omega)).trans R3.out;have p0:=cell_of_row _ _ 0 _ _ (0,0) r4b;have p1:=cell_of_row _ _ 1 _ _ (0,0) r4b;have q0:=frozen_of_row _ _ 0 _ _ r4b;have q1:=frozen_of_row _ _ 1 _ _ r4b;have R4:=Hd r4b;clear r4b;have B4:=Hd b4))
  all_goals
   go_wp2_with fail
   go_meet
   case rel =>
    first
    | (have b5:=(Below.refl w4.heap.size w4).alloc nlr (.cells #[.slice A4 n4 c4,.string r4.2.1] 28);exact⟨r4,w4.heap.size,A4,n4,c4,rfl,rfl,rfl,X4.step b5,((Below.refl _ _).drew.trans B4.out).trans (b5.mono B4.out.size),heap_alloc_new w4 _,fun q hq=>⟨(H4.o q hq).1,(H4.o q hq).2.1,(H4.o q hq).2.2.below b5⟩⟩)
    | (have b5:=((Below.refl w3.heap.size w4).setCell (p:=⟨w3.heap.size,0,none⟩) nlr (.slice A4 n4 c4)).setCell (p:=⟨w3.heap.size,1,none⟩) nlr (.string r4.2.1);exact⟨r4,w3.heap.size,A4,n4,c4,rfl,rfl,rfl,X4.step2 (b5.mono S3.out),(B3A.out.trans (B4.out.mono (by show w3.heap.size≤(w3.alloc _).heap.size;have:=Z3a.out;omega))).trans b5,Zg (k:=1) (Zg (k:=0) R4.out _) _,fun q hq=>⟨(H4.o q hq).1,(H4.o q hq).2.1,(H4.o q hq).2.2.far2 (.inr ⟨by rw[R4.out];simp,Vs (H4.o q hq).2.2 R4.out (by decide)⟩) _ _⟩⟩)
 case rest =>
 obtain⟨r4,bx,A4,n4,c4,rfl,rfl,rfl,X5,b35,r5,h5⟩:=hcut
 obtain⟨w5,rfl⟩:∃ z:World,z=wc:=⟨_,rfl⟩
 obtain⟨c0,c1,d0,d1,f0,f1⟩:=X5.fs;have p0:=cell_of_row _ _ 0 _ _ (0,0) r5;have p1:=cell_of_row _ _ 1 _ _ (0,0) r5
 have k0:=(HQ.o _ b35).2.2.2 0 _ rfl;have k1:=(HQ.o _ b35).2.2.2 1 _ rfl
 have B35:=Hd b35;have HX5:=Hd X5
 clear X5 b35 r5
 cases o with
 | some q =>
  obtain⟨rfl,rfl,o5⟩:=h5 _ rfl
  have O5:=Hd o5
  clear h5 o5
  go_wp2_with fail
  refine bodyPost_ret (Za rfl _ _ (w.heap.size+1) 28 _ (0,0) _ rfl (HX5.o.row _ _) Tryz.underlying28 rfl (by kernel_rfl)) rfl ?_
  rw[← HRR.o]
  have hO:=O5.out.far2 (g:=w.heap.size+1) (.inr ⟨by rw[HX5.o.r1];simp,Vs O5.out HX5.o.r1 (by decide)⟩) (.slice A4 r4.1.length c4) (.string r4.2.1)
  exact⟨A4,c4,rfl,hO,HX5.o.fin _ _⟩
 | none =>
  clear h5
  have hnz:∀ p∈[t],p.size≤1048576:=fun p hp=>HP2.o p (List.mem_cons_of_mem _ hp)
  have hnu:=fun gs c0 w' (r:Rds w' w'.heap.size (some ⟨gs,1,none⟩) ([t].map Value.string)) u1 u2 u3=>Qk [t] (some ⟨gs,1,none⟩) c0 w'.heap.size w' (by simp) hnz r nlr u1 u2 u3
  rw[show [t].length=1 from rfl] at hnu
  cases hns:Zt [t] with
  | none =>
   rw[hns] at hnu
   simp only[Option.getD_none,Option.isSome_none,List.length_nil,List.map_nil] at hnu
   have hv:R=(zs,v,QJ):=by rw[← HRR.o];show rl3 zs v x [t]=_;rw[rl3,hns]
   have HNU:=Hd hnu;have HV:=Hd hv
   clear hnu hv hns hnz
   cases hfx:(x.toList==[102,105,120,101,100])
   all_goals
    go_wp2_with (go_at_call 63;refine (HNU.o gs _ w5 ((HQ.o _ B35.out).tail) (HTB.o _ HX5.o) (HES.o _ HX5.o) (HEG.o _ HX5.o)).mono ?_;rintro e w6 ⟨A6,c6,rfl,o6,b6⟩;have X6:=HX5.o.step b6;obtain⟨c0,c1,d0,d1,f0,f1⟩:=X6.fs;clear o6)
    refine bodyPost_ret (Za rfl _ _ (w.heap.size+1) 28 _ (0,0) _ rfl (X6.row _ _) Tryz.underlying28 rfl (by kernel_rfl)) rfl ?_
    have hO:=(HOX.o _ X6).far2 (.inr ⟨by rw[X6.r1];simp,HNE.o⟩) (.slice A zs.length c) (.string v)
    rw[HV.o]
    exact⟨A,c,rfl,hO,X6.fin _ _⟩
  | some ns =>
   rw[hns] at hnu
   simp only[Option.getD_some,Option.isSome_some] at hnu
   have hv:R=rlN zs v x ns:=by rw[← HRR.o];show rl3 zs v x [t]=_;rw[rl3,hns]
   have hnsl:=ZL hns
   have h64:=Qe hns
   have hnl2:ns.length≤2000000:=by rw[hnsl];simp
   have hcl:=fun Ai cn w' hi (X:BX w w' A zs.length c v)=>Jx zs v x ns Ai cn A c B w' hnl2 hi h64 HSU.o HWW.o (HOX.o _ X) (by have:=X.size;omega) (HTB.o _ X) (HML.o _ X)
   obtain⟨r,hr⟩:∃ r,rlN zs v x ns=r:=⟨_,rfl⟩
   rw[hr] at hv hcl
   have HNU:=Hd hnu;have HV:=Hd hv;have HCM:=Hd hcl
   clear hnu hv hns hnz hcl hr hnsl h64 hnl2
   cases hfx:(x.toList==[102,105,120,101,100])
   all_goals
    go_wp2_with (go_at_call 63;refine (HNU.o gs _ w5 ((HQ.o _ B35.out).tail) (HTB.o _ HX5.o) (HES.o _ HX5.o) (HEG.o _ HX5.o)).mono ?_;rintro e w6 ⟨A6,c6,rfl,o6,b6⟩;have X6:=HX5.o.step b6;obtain⟨c0,c1,d0,d1,f0,f1⟩:=X6.fs;have X6d:=X6.dr;have HX6d:=Hd X6d;clear X6d;have O6:=Hd o6;clear o6;have k0:=((HQ.o _ B35.out).below b6).2.2.2 0 _ rfl)
    go_region_with (go_at_call 64;refine (HCM.o A6 c6 _ (fun hne=>(O6.out.below (Below.refl _ _).drew).intAt hne) HX6d.o).mono ?_;rintro e w7 ⟨A7,c7,rfl,o7,b7⟩;have X7:=HX6d.o.step b7;obtain⟨c0,c1,d0,d1,f0,f1⟩:=X7.fs;have O7:=Hd o7;clear o7)
    all_goals
     go_wp2_with fail
     refine bodyPost_ret (Za rfl _ _ (w.heap.size+1) 28 _ (0,0) _ rfl (X7.row _ _) Tryz.underlying28 rfl (by kernel_rfl)) rfl ?_
     have hO:=O7.out.far2 (g:=w.heap.size+1) (.inr ⟨by rw[X7.r1];simp,Vs O7.out X7.r1 (by decide)⟩) (.slice A7 (r).1.length c7) (.string (r).2.1)
     rw[HV.o]
     exact⟨A7,c7,rfl,hO,X7.fin _ _⟩
theorem Zbw (zs:List ByteArray) (v line:ByteArray) (A:Option Addr) (c B:Nat) (w:World) (x t m:ByteArray) (hfx:(x.toList==[102,105,120,101,100])=false) (hns:Zt ([t,m])=none) (hps:ZD 32 line=[x,t,m]) (hsu:Zf zs=true) (hw:isW (L v)=true) (hl:line.size≤1048576) (ho:Own w B 9 (.slice A zs.length c) (zs.map Value.string)) (hB:B≤w.heap.size) (htb:TB w) (hml:MlS w) (hes:ES w) (heg:EG w) :
  Calls Tryz.prog 25 #[.agg #[.slice A zs.length c,.string v],.string line] w fun e w'=>BnR B w (rl3 zs v x ([t,m])) e w':=by
 have hB2:=ho.lt
 have X0:=BX.new w A zs.length c v
 have hx4:=Zb hw
 obtain⟨w2,hw2⟩:∃ w2,(w.alloc (.cells #[.slice A zs.length c,.string v] 28)).alloc (.cells #[.slice none 0 0,.string { data:=#[] }] 28)=w2:=⟨_,rfl⟩
 rw[hw2] at X0
 have X1:=X0.dr
 obtain⟨c0,c1,d0,d1,f0,f1⟩:=X0.fs
 have hoX:=fun w' (X:BX w w' A zs.length c v)=>ho.below X.bel
 have hne:=ZF ho (g:=w.heap.size+1) (by omega)
 have HOX:=Hd hoX;have HNE:=Hd hne;have HTB:=Hd (fun w' (X:BX w w' A zs.length c v)=>htb.below X.bel)
 have HML:=Hd (fun w' (X:BX w w' A zs.length c v)=>hml.below X.bel)
 have HES:=Hd (fun w' (X:BX w w' A zs.length c v)=>hes.below X.bel)
 have HEG:=Hd (fun w' (X:BX w w' A zs.length c v)=>heg.below X.bel)
 have HX0:=Hd X0;have HX1:=Hd X1
 have HRD:=Hd (fun w' (X:BX w w' A zs.length c v)=>(hoX w' X).reads)
 clear X0 hoX hne ho htb hml hes heg
 have hps2:∀ p∈ZD 32 line,p.size≤1048576:=fun p hp=>Nat.le_trans (Z6 32 line p hp) hl
 have hle:=Qf 32 line
 have hsp:Calls Tryz.prog 57 #[.string line,.string ⟨#[32]⟩] w2 fun e w'=>∃ g,e=.returned (.slice (some ⟨g,0,none⟩) 3 3)∧Own w' w2.heap.size 9 (.slice (some ⟨g,0,none⟩) 3 3) (([x,t,m]).map Value.string)∧Below w2.heap.size w2 w':=by
  have h:=Qn line 32 (by omega) w2 (HML.o _ HX0.o)
  rw[hps] at h
  first|exact h|(rw[hn] at h;exact h)
 rw[hps] at hps2 hle
 have HSP:=Hd hsp
 have hnl:([t,m]).length≤1048577:=by have h1:([x,t,m]).length=([t,m]).length+1:=rfl;omega
 have hnz:∀ p∈[t,m],p.size≤1048576:=fun p hp=>hps2 p (List.mem_cons_of_mem _ hp)
 have hnu:=fun gs c0 w' (r:Rds w' w'.heap.size (some ⟨gs,1,none⟩) (([t,m]).map Value.string)) u1 u2 u3=>Qk ([t,m]) (some ⟨gs,1,none⟩) c0 w'.heap.size w' hnl hnz r nlr u1 u2 u3
 rw[hns] at hnu
 have hv:rl3 zs v x ([t,m])=(zs,v,QJ):=by rw[rl3,hns]
 simp only[Option.getD_none,Option.isSome_none,List.length_nil,List.map_nil] at hnu
 have hrl:([t,m]).length=2:=by first|rfl|omega
 rw[hrl] at hnu
 have HNU:=Hd hnu;have HV:=Hd hv
 clear hnu hv hsp hps hps2 hle hsu hw hnl hnz hns hrl
 go_enter Tryz.func25,Tryz.ntmps25
 go_wp2_with (first|(go_at_call 57;refine HSP.o.mono ?_;rintro e w3 ⟨gs,rfl,o3,b3⟩;clear hw2;have X3:=HX0.o.step b3;obtain⟨c0,c1,d0,d1,f0,f1⟩:=X3.fs;have q:=Own.str (ss:=[x,t,m]) o3 (by first|rfl|assumption);have k0:=q.2.2.2 0 _ rfl;have k1:=q.2.2.2 1 _ rfl;have k2:=q.2.2.2 2 _ rfl;have HQ:=Hd (fun w' (b:Below w3.heap.size w3 w')=>q.below b);have Z3:=Hd b3.size;clear o3 q)|(go_at_call 63;refine (HNU.o gs _ w3 ((HQ.o _ (Below.refl _ _)).tail) (HTB.o _ X3) (HES.o _ X3) (HEG.o _ X3)).mono ?_;rintro e w6 ⟨A6,c6,rfl,o6,b6⟩;have X6:=X3.step b6;obtain⟨c0,c1,d0,d1,f0,f1⟩:=X6.fs;clear o6))
 refine bodyPost_ret (Za rfl _ _ (w.heap.size+1) 28 _ (0,0) _ rfl (X6.row _ _) Tryz.underlying28 rfl (by kernel_rfl)) rfl ?_
 have hO:=(HOX.o _ X6).far2 (.inr ⟨by rw[X6.r1];simp,HNE.o⟩) (.slice A zs.length c) (.string v)
 rw[HV.o]
 exact⟨A,c,rfl,hO,X6.fin _ _⟩
theorem Zbx (zs:List ByteArray) (v line:ByteArray) (A:Option Addr) (c B:Nat) (w:World) (x t m:ByteArray) (hfx:(x.toList==[102,105,120,101,100])=false) (ns:List Int) (hns:Zt ([t,m])=some ns) (hps:ZD 32 line=[x,t,m]) (hsu:Zf zs=true) (hw:isW (L v)=true) (hl:line.size≤1048576) (ho:Own w B 9 (.slice A zs.length c) (zs.map Value.string)) (hB:B≤w.heap.size) (htb:TB w) (hml:MlS w) (hes:ES w) (heg:EG w) :
  Calls Tryz.prog 25 #[.agg #[.slice A zs.length c,.string v],.string line] w fun e w'=>BnR B w (rl3 zs v x ([t,m])) e w':=by
 have hB2:=ho.lt
 have X0:=BX.new w A zs.length c v
 have hx4:=Zb hw
 obtain⟨w2,hw2⟩:∃ w2,(w.alloc (.cells #[.slice A zs.length c,.string v] 28)).alloc (.cells #[.slice none 0 0,.string { data:=#[] }] 28)=w2:=⟨_,rfl⟩
 rw[hw2] at X0
 have X1:=X0.dr
 obtain⟨c0,c1,d0,d1,f0,f1⟩:=X0.fs
 have hoX:=fun w' (X:BX w w' A zs.length c v)=>ho.below X.bel
 have hne:=ZF ho (g:=w.heap.size+1) (by omega)
 have HOX:=Hd hoX;have HNE:=Hd hne;have HTB:=Hd (fun w' (X:BX w w' A zs.length c v)=>htb.below X.bel)
 have HML:=Hd (fun w' (X:BX w w' A zs.length c v)=>hml.below X.bel)
 have HES:=Hd (fun w' (X:BX w w' A zs.length c v)=>hes.below X.bel)
 have HEG:=Hd (fun w' (X:BX w w' A zs.length c v)=>heg.below X.bel)
 have HX0:=Hd X0;have HX1:=Hd X1
 have HRD:=Hd (fun w' (X:BX w w' A zs.length c v)=>(hoX w' X).reads)
 clear X0 hoX hne ho htb hml hes heg
 have hps2:∀ p∈ZD 32 line,p.size≤1048576:=fun p hp=>Nat.le_trans (Z6 32 line p hp) hl
 have hle:=Qf 32 line
 have hsp:Calls Tryz.prog 57 #[.string line,.string ⟨#[32]⟩] w2 fun e w'=>∃ g,e=.returned (.slice (some ⟨g,0,none⟩) 3 3)∧Own w' w2.heap.size 9 (.slice (some ⟨g,0,none⟩) 3 3) (([x,t,m]).map Value.string)∧Below w2.heap.size w2 w':=by
  have h:=Qn line 32 (by omega) w2 (HML.o _ HX0.o)
  rw[hps] at h
  first|exact h|(rw[hn] at h;exact h)
 rw[hps] at hps2 hle
 have HSP:=Hd hsp
 have hnl:([t,m]).length≤1048577:=by have h1:([x,t,m]).length=([t,m]).length+1:=rfl;omega
 have hnz:∀ p∈[t,m],p.size≤1048576:=fun p hp=>hps2 p (List.mem_cons_of_mem _ hp)
 have hnu:=fun gs c0 w' (r:Rds w' w'.heap.size (some ⟨gs,1,none⟩) (([t,m]).map Value.string)) u1 u2 u3=>Qk ([t,m]) (some ⟨gs,1,none⟩) c0 w'.heap.size w' hnl hnz r nlr u1 u2 u3
 rw[hns] at hnu
 have hv:rl3 zs v x ([t,m])=rlN zs v x ns:=by rw[rl3,hns]
 simp only[Option.getD_some,Option.isSome_some] at hnu
 have hnsl:=ZL hns
 have h64:=Qe hns
 have hcl:=fun Ai cn w' hi (X:BX w w' A zs.length c v)=>Jx zs v x ns Ai cn A c B w' (by omega) hi h64 hsu hw (HOX.o _ X) (by have:=X.size;omega) (HTB.o _ X) (HML.o _ X)
 obtain⟨r,hr⟩:∃ r,rlN zs v x ns=r:=⟨_,rfl⟩
 rw[hr] at hv hcl
 have HCL:=Hd hcl
 clear hcl hr hnsl h64
 have hrl:([t,m]).length=2:=by first|rfl|omega
 rw[hrl] at hnu
 have HNU:=Hd hnu;have HV:=Hd hv
 clear hnu hv hsp hps hps2 hle hsu hw hnl hnz hns hrl
 go_enter Tryz.func25,Tryz.ntmps25
 go_wp2_with (first|(go_at_call 57;refine HSP.o.mono ?_;rintro e w3 ⟨gs,rfl,o3,b3⟩;clear hw2;have X3:=HX0.o.step b3;obtain⟨c0,c1,d0,d1,f0,f1⟩:=X3.fs;have q:=Own.str (ss:=[x,t,m]) o3 (by first|rfl|assumption);have k0:=q.2.2.2 0 _ rfl;have k1:=q.2.2.2 1 _ rfl;have k2:=q.2.2.2 2 _ rfl;have HQ:=Hd (fun w' (b:Below w3.heap.size w3 w')=>q.below b);have Z3:=Hd b3.size;clear o3 q)|(go_at_call 63;refine (HNU.o gs _ w3 ((HQ.o _ (Below.refl _ _)).tail) (HTB.o _ X3) (HES.o _ X3) (HEG.o _ X3)).mono ?_;rintro e w6 ⟨A6,c6,rfl,o6,b6⟩;have X6:=X3.step b6;obtain⟨c0,c1,d0,d1,f0,f1⟩:=X6.fs;have X6d:=X6.dr;have HX6d:=Hd X6d;clear X6d;have O6:=Hd o6;clear o6;have k0:=((HQ.o _ (Below.refl _ _)).below b6).2.2.2 0 _ rfl))
 go_region_with (go_at_call 64;refine (HCL.o A6 c6 _ (fun hne=>(O6.out.below (Below.refl _ _).drew).intAt hne) HX6d.o).mono ?_;rintro e w7 ⟨A7,c7,rfl,o7,b7⟩;have X7:=HX6d.o.step b7;obtain⟨c0,c1,d0,d1,f0,f1⟩:=X7.fs;have O7:=Hd o7;clear o7)
 all_goals
  go_wp2_with fail
  refine bodyPost_ret (Za rfl _ _ (w.heap.size+1) 28 _ (0,0) _ rfl (X7.row _ _) Tryz.underlying28 rfl (by kernel_rfl)) rfl ?_
  have hO:=O7.out.far2 (g:=w.heap.size+1) (.inr ⟨by rw[X7.r1];simp,Vs O7.out X7.r1 (by decide)⟩) (.slice A7 (r).1.length c7) (.string (r).2.1)
  rw[HV.o]
  exact⟨A7,c7,rfl,hO,X7.fin _ _⟩
theorem Zai (zs:List ByteArray) (v line:ByteArray) (A:Option Addr) (c B:Nat) (w:World) (x:ByteArray) (hfx:(x.toList==[102,105,120,101,100])=true) (rs:List ByteArray) (n:Nat) (hn:(x :: rs).length=n) (hn4:4≤n) (hns:Zt (rs)=none) (hps:ZD 32 line=x :: rs) (hsu:Zf zs=true) (hw:isW (L v)=true) (hl:line.size≤1048576) (ho:Own w B 9 (.slice A zs.length c) (zs.map Value.string)) (hB:B≤w.heap.size) (htb:TB w) (hml:MlS w) (hes:ES w) (heg:EG w) :
  Calls Tryz.prog 25 #[.agg #[.slice A zs.length c,.string v],.string line] w fun e w'=>BnR B w (rl3 zs v x (rs)) e w':=by
 have hB2:=ho.lt
 have X0:=BX.new w A zs.length c v
 have hx4:=Zb hw
 obtain⟨w2,hw2⟩:∃ w2,(w.alloc (.cells #[.slice A zs.length c,.string v] 28)).alloc (.cells #[.slice none 0 0,.string { data:=#[] }] 28)=w2:=⟨_,rfl⟩
 rw[hw2] at X0
 have X1:=X0.dr
 obtain⟨c0,c1,d0,d1,f0,f1⟩:=X0.fs
 have hoX:=fun w' (X:BX w w' A zs.length c v)=>ho.below X.bel
 have hne:=ZF ho (g:=w.heap.size+1) (by omega)
 have HOX:=Hd hoX;have HNE:=Hd hne;have HTB:=Hd (fun w' (X:BX w w' A zs.length c v)=>htb.below X.bel)
 have HML:=Hd (fun w' (X:BX w w' A zs.length c v)=>hml.below X.bel)
 have HES:=Hd (fun w' (X:BX w w' A zs.length c v)=>hes.below X.bel)
 have HEG:=Hd (fun w' (X:BX w w' A zs.length c v)=>heg.below X.bel)
 have HX0:=Hd X0;have HX1:=Hd X1
 have HRD:=Hd (fun w' (X:BX w w' A zs.length c v)=>(hoX w' X).reads)
 clear X0 hoX hne ho htb hml hes heg
 have hps2:∀ p∈ZD 32 line,p.size≤1048576:=fun p hp=>Nat.le_trans (Z6 32 line p hp) hl
 have hle:=Qf 32 line
 have hsp:Calls Tryz.prog 57 #[.string line,.string ⟨#[32]⟩] w2 fun e w'=>∃ g,e=.returned (.slice (some ⟨g,0,none⟩) n n)∧Own w' w2.heap.size 9 (.slice (some ⟨g,0,none⟩) n n) ((x :: rs).map Value.string)∧Below w2.heap.size w2 w':=by
  have h:=Qn line 32 (by omega) w2 (HML.o _ HX0.o)
  rw[hps] at h
  first|exact h|(rw[hn] at h;exact h)
 rw[hps] at hps2 hle
 have HSP:=Hd hsp
 have hn2:rs.length+1=n:=hn
 have k1:¬ n=1:=by omega
 have k2:¬ n=2:=by omega
 have k3:¬ n=3:=by omega
 have kk1:((n:Int)==1)=false:=by simp;omega
 have kk2:((n:Int)==2)=false:=by simp;omega
 have kk3:((n:Int)==3)=false:=by simp;omega
 have kj1:¬ (n:Int)=1:=by omega
 have kj2:¬ (n:Int)=2:=by omega
 have kj3:¬ (n:Int)=3:=by omega
 have hnl:(rs).length≤1048577:=by have h1:(x :: rs).length=(rs).length+1:=rfl;omega
 have hnz:∀ p∈rs,p.size≤1048576:=fun p hp=>hps2 p (List.mem_cons_of_mem _ hp)
 have hnu:=fun gs c0 w' (r:Rds w' w'.heap.size (some ⟨gs,1,none⟩) ((rs).map Value.string)) u1 u2 u3=>Qk (rs) (some ⟨gs,1,none⟩) c0 w'.heap.size w' hnl hnz r nlr u1 u2 u3
 rw[hns] at hnu
 have hv:rl3 zs v x (rs)=(zs,v,QJ):=by rw[rl3,hns]
 simp only[Option.getD_none,Option.isSome_none,List.length_nil,List.map_nil] at hnu
 have hrl:(rs).length=n - 1:=by first|rfl|omega
 rw[hrl] at hnu
 have HNU:=Hd hnu;have HV:=Hd hv
 clear hnu hv hsp hps hps2 hle hsu hw hnl hnz hns hrl
 go_enter Tryz.func25,Tryz.ntmps25
 go_wp2_with (first|(go_at_call 57;refine HSP.o.mono ?_;rintro e w3 ⟨gs,rfl,o3,b3⟩;clear hw2;have X3:=HX0.o.step b3;obtain⟨c0,c1,d0,d1,f0,f1⟩:=X3.fs;have q:=Own.str (ss:=x :: rs) o3 (by first|rfl|assumption);have k0:=q.2.2.2 0 _ rfl;have HQ:=Hd (fun w' (b:Below w3.heap.size w3 w')=>q.below b);have Z3:=Hd b3.size;clear o3 q)|(go_at_call 63;refine (HNU.o gs _ w3 ((HQ.o _ (Below.refl _ _)).tail) (HTB.o _ X3) (HES.o _ X3) (HEG.o _ X3)).mono ?_;rintro e w6 ⟨A6,c6,rfl,o6,b6⟩;have X6:=X3.step b6;obtain⟨c0,c1,d0,d1,f0,f1⟩:=X6.fs;clear o6))
 refine bodyPost_ret (Za rfl _ _ (w.heap.size+1) 28 _ (0,0) _ rfl (X6.row _ _) Tryz.underlying28 rfl (by kernel_rfl)) rfl ?_
 have hO:=(HOX.o _ X6).far2 (.inr ⟨by rw[X6.r1];simp,HNE.o⟩) (.slice A zs.length c) (.string v)
 rw[HV.o]
 exact⟨A,c,rfl,hO,X6.fin _ _⟩
theorem Zaj (zs:List ByteArray) (v line:ByteArray) (A:Option Addr) (c B:Nat) (w:World) (x:ByteArray) (hfx:(x.toList==[102,105,120,101,100])=true) (rs:List ByteArray) (n:Nat) (hn:(x :: rs).length=n) (hn4:4≤n) (ns:List Int) (hns:Zt (rs)=some ns) (hps:ZD 32 line=x :: rs) (hsu:Zf zs=true) (hw:isW (L v)=true) (hl:line.size≤1048576) (ho:Own w B 9 (.slice A zs.length c) (zs.map Value.string)) (hB:B≤w.heap.size) (htb:TB w) (hml:MlS w) (hes:ES w) (heg:EG w) :
  Calls Tryz.prog 25 #[.agg #[.slice A zs.length c,.string v],.string line] w fun e w'=>BnR B w (rl3 zs v x (rs)) e w':=by
 have hB2:=ho.lt
 have X0:=BX.new w A zs.length c v
 have hx4:=Zb hw
 obtain⟨w2,hw2⟩:∃ w2,(w.alloc (.cells #[.slice A zs.length c,.string v] 28)).alloc (.cells #[.slice none 0 0,.string { data:=#[] }] 28)=w2:=⟨_,rfl⟩
 rw[hw2] at X0
 have X1:=X0.dr
 obtain⟨c0,c1,d0,d1,f0,f1⟩:=X0.fs
 have hoX:=fun w' (X:BX w w' A zs.length c v)=>ho.below X.bel
 have hne:=ZF ho (g:=w.heap.size+1) (by omega)
 have HOX:=Hd hoX;have HNE:=Hd hne;have HTB:=Hd (fun w' (X:BX w w' A zs.length c v)=>htb.below X.bel)
 have HML:=Hd (fun w' (X:BX w w' A zs.length c v)=>hml.below X.bel)
 have HES:=Hd (fun w' (X:BX w w' A zs.length c v)=>hes.below X.bel)
 have HEG:=Hd (fun w' (X:BX w w' A zs.length c v)=>heg.below X.bel)
 have HX0:=Hd X0;have HX1:=Hd X1
 have HRD:=Hd (fun w' (X:BX w w' A zs.length c v)=>(hoX w' X).reads)
 clear X0 hoX hne ho htb hml hes heg
 have hps2:∀ p∈ZD 32 line,p.size≤1048576:=fun p hp=>Nat.le_trans (Z6 32 line p hp) hl
 have hle:=Qf 32 line
 have hsp:Calls Tryz.prog 57 #[.string line,.string ⟨#[32]⟩] w2 fun e w'=>∃ g,e=.returned (.slice (some ⟨g,0,none⟩) n n)∧Own w' w2.heap.size 9 (.slice (some ⟨g,0,none⟩) n n) ((x :: rs).map Value.string)∧Below w2.heap.size w2 w':=by
  have h:=Qn line 32 (by omega) w2 (HML.o _ HX0.o)
  rw[hps] at h
  first|exact h|(rw[hn] at h;exact h)
 rw[hps] at hps2 hle
 have HSP:=Hd hsp
 have hn2:rs.length+1=n:=hn
 have k1:¬ n=1:=by omega
 have k2:¬ n=2:=by omega
 have k3:¬ n=3:=by omega
 have kk1:((n:Int)==1)=false:=by simp;omega
 have kk2:((n:Int)==2)=false:=by simp;omega
 have kk3:((n:Int)==3)=false:=by simp;omega
 have kj1:¬ (n:Int)=1:=by omega
 have kj2:¬ (n:Int)=2:=by omega
 have kj3:¬ (n:Int)=3:=by omega
 have hnl:(rs).length≤1048577:=by have h1:(x :: rs).length=(rs).length+1:=rfl;omega
 have hnz:∀ p∈rs,p.size≤1048576:=fun p hp=>hps2 p (List.mem_cons_of_mem _ hp)
 have hnu:=fun gs c0 w' (r:Rds w' w'.heap.size (some ⟨gs,1,none⟩) ((rs).map Value.string)) u1 u2 u3=>Qk (rs) (some ⟨gs,1,none⟩) c0 w'.heap.size w' hnl hnz r nlr u1 u2 u3
 rw[hns] at hnu
 have hv:rl3 zs v x (rs)=rlN zs v x ns:=by rw[rl3,hns]
 simp only[Option.getD_some,Option.isSome_some] at hnu
 have hnsl:=ZL hns
 have h64:=Qe hns
 have hcl:=fun Ai cn w' hi (X:BX w w' A zs.length c v)=>Jx zs v x ns Ai cn A c B w' (by omega) hi h64 hsu hw (HOX.o _ X) (by have:=X.size;omega) (HTB.o _ X) (HML.o _ X)
 obtain⟨r,hr⟩:∃ r,rlN zs v x ns=r:=⟨_,rfl⟩
 rw[hr] at hv hcl
 have HCL:=Hd hcl
 clear hcl hr hnsl h64
 have hrl:(rs).length=n - 1:=by first|rfl|omega
 rw[hrl] at hnu
 have HNU:=Hd hnu;have HV:=Hd hv
 clear hnu hv hsp hps hps2 hle hsu hw hnl hnz hns hrl
 go_enter Tryz.func25,Tryz.ntmps25
 go_wp2_with (first|(go_at_call 57;refine HSP.o.mono ?_;rintro e w3 ⟨gs,rfl,o3,b3⟩;clear hw2;have X3:=HX0.o.step b3;obtain⟨c0,c1,d0,d1,f0,f1⟩:=X3.fs;have q:=Own.str (ss:=x :: rs) o3 (by first|rfl|assumption);have k0:=q.2.2.2 0 _ rfl;have HQ:=Hd (fun w' (b:Below w3.heap.size w3 w')=>q.below b);have Z3:=Hd b3.size;clear o3 q)|(go_at_call 63;refine (HNU.o gs _ w3 ((HQ.o _ (Below.refl _ _)).tail) (HTB.o _ X3) (HES.o _ X3) (HEG.o _ X3)).mono ?_;rintro e w6 ⟨A6,c6,rfl,o6,b6⟩;have X6:=X3.step b6;obtain⟨c0,c1,d0,d1,f0,f1⟩:=X6.fs;have X6d:=X6.dr;have HX6d:=Hd X6d;clear X6d;have O6:=Hd o6;clear o6;have k0:=((HQ.o _ (Below.refl _ _)).below b6).2.2.2 0 _ rfl))
 go_region_with (go_at_call 64;refine (HCL.o A6 c6 _ (fun hne=>(O6.out.below (Below.refl _ _).drew).intAt hne) HX6d.o).mono ?_;rintro e w7 ⟨A7,c7,rfl,o7,b7⟩;have X7:=HX6d.o.step b7;obtain⟨c0,c1,d0,d1,f0,f1⟩:=X7.fs;have O7:=Hd o7;clear o7)
 all_goals
  go_wp2_with fail
  refine bodyPost_ret (Za rfl _ _ (w.heap.size+1) 28 _ (0,0) _ rfl (X7.row _ _) Tryz.underlying28 rfl (by kernel_rfl)) rfl ?_
  have hO:=O7.out.far2 (g:=w.heap.size+1) (.inr ⟨by rw[X7.r1];simp,Vs O7.out X7.r1 (by decide)⟩) (.slice A7 (r).1.length c7) (.string (r).2.1)
  rw[HV.o]
  exact⟨A7,c7,rfl,hO,X7.fin _ _⟩
theorem Zak (zs:List ByteArray) (v line:ByteArray) (A:Option Addr) (c B:Nat) (w:World) (x:ByteArray) (hfx:(x.toList==[102,105,120,101,100])=false) (rs:List ByteArray) (n:Nat) (hn:(x :: rs).length=n) (hn4:4≤n) (hns:Zt (rs)=none) (hps:ZD 32 line=x :: rs) (hsu:Zf zs=true) (hw:isW (L v)=true) (hl:line.size≤1048576) (ho:Own w B 9 (.slice A zs.length c) (zs.map Value.string)) (hB:B≤w.heap.size) (htb:TB w) (hml:MlS w) (hes:ES w) (heg:EG w) :
  Calls Tryz.prog 25 #[.agg #[.slice A zs.length c,.string v],.string line] w fun e w'=>BnR B w (rl3 zs v x (rs)) e w':=by
 have hB2:=ho.lt
 have X0:=BX.new w A zs.length c v
 have hx4:=Zb hw
 obtain⟨w2,hw2⟩:∃ w2,(w.alloc (.cells #[.slice A zs.length c,.string v] 28)).alloc (.cells #[.slice none 0 0,.string { data:=#[] }] 28)=w2:=⟨_,rfl⟩
 rw[hw2] at X0
 have X1:=X0.dr
 obtain⟨c0,c1,d0,d1,f0,f1⟩:=X0.fs
 have hoX:=fun w' (X:BX w w' A zs.length c v)=>ho.below X.bel
 have hne:=ZF ho (g:=w.heap.size+1) (by omega)
 have HOX:=Hd hoX;have HNE:=Hd hne;have HTB:=Hd (fun w' (X:BX w w' A zs.length c v)=>htb.below X.bel)
 have HML:=Hd (fun w' (X:BX w w' A zs.length c v)=>hml.below X.bel)
 have HES:=Hd (fun w' (X:BX w w' A zs.length c v)=>hes.below X.bel)
 have HEG:=Hd (fun w' (X:BX w w' A zs.length c v)=>heg.below X.bel)
 have HX0:=Hd X0;have HX1:=Hd X1
 have HRD:=Hd (fun w' (X:BX w w' A zs.length c v)=>(hoX w' X).reads)
 clear X0 hoX hne ho htb hml hes heg
 have hps2:∀ p∈ZD 32 line,p.size≤1048576:=fun p hp=>Nat.le_trans (Z6 32 line p hp) hl
 have hle:=Qf 32 line
 have hsp:Calls Tryz.prog 57 #[.string line,.string ⟨#[32]⟩] w2 fun e w'=>∃ g,e=.returned (.slice (some ⟨g,0,none⟩) n n)∧Own w' w2.heap.size 9 (.slice (some ⟨g,0,none⟩) n n) ((x :: rs).map Value.string)∧Below w2.heap.size w2 w':=by
  have h:=Qn line 32 (by omega) w2 (HML.o _ HX0.o)
  rw[hps] at h
  first|exact h|(rw[hn] at h;exact h)
 rw[hps] at hps2 hle
 have HSP:=Hd hsp
 have hn2:rs.length+1=n:=hn
 have k1:¬ n=1:=by omega
 have k2:¬ n=2:=by omega
 have k3:¬ n=3:=by omega
 have kk1:((n:Int)==1)=false:=by simp;omega
 have kk2:((n:Int)==2)=false:=by simp;omega
 have kk3:((n:Int)==3)=false:=by simp;omega
 have kj1:¬ (n:Int)=1:=by omega
 have kj2:¬ (n:Int)=2:=by omega
 have kj3:¬ (n:Int)=3:=by omega
 have hnl:(rs).length≤1048577:=by have h1:(x :: rs).length=(rs).length+1:=rfl;omega
 have hnz:∀ p∈rs,p.size≤1048576:=fun p hp=>hps2 p (List.mem_cons_of_mem _ hp)
 have hnu:=fun gs c0 w' (r:Rds w' w'.heap.size (some ⟨gs,1,none⟩) ((rs).map Value.string)) u1 u2 u3=>Qk (rs) (some ⟨gs,1,none⟩) c0 w'.heap.size w' hnl hnz r nlr u1 u2 u3
 rw[hns] at hnu
 have hv:rl3 zs v x (rs)=(zs,v,QJ):=by rw[rl3,hns]
 simp only[Option.getD_none,Option.isSome_none,List.length_nil,List.map_nil] at hnu
 have hrl:(rs).length=n - 1:=by first|rfl|omega
 rw[hrl] at hnu
 have HNU:=Hd hnu;have HV:=Hd hv
 clear hnu hv hsp hps hps2 hle hsu hw hnl hnz hns hrl
 go_enter Tryz.func25,Tryz.ntmps25
 go_wp2_with (first|(go_at_call 57;refine HSP.o.mono ?_;rintro e w3 ⟨gs,rfl,o3,b3⟩;clear hw2;have X3:=HX0.o.step b3;obtain⟨c0,c1,d0,d1,f0,f1⟩:=X3.fs;have q:=Own.str (ss:=x :: rs) o3 (by first|rfl|assumption);have k0:=q.2.2.2 0 _ rfl;have HQ:=Hd (fun w' (b:Below w3.heap.size w3 w')=>q.below b);have Z3:=Hd b3.size;clear o3 q)|(go_at_call 63;refine (HNU.o gs _ w3 ((HQ.o _ (Below.refl _ _)).tail) (HTB.o _ X3) (HES.o _ X3) (HEG.o _ X3)).mono ?_;rintro e w6 ⟨A6,c6,rfl,o6,b6⟩;have X6:=X3.step b6;obtain⟨c0,c1,d0,d1,f0,f1⟩:=X6.fs;clear o6))
 refine bodyPost_ret (Za rfl _ _ (w.heap.size+1) 28 _ (0,0) _ rfl (X6.row _ _) Tryz.underlying28 rfl (by kernel_rfl)) rfl ?_
 have hO:=(HOX.o _ X6).far2 (.inr ⟨by rw[X6.r1];simp,HNE.o⟩) (.slice A zs.length c) (.string v)
 rw[HV.o]
 exact⟨A,c,rfl,hO,X6.fin _ _⟩
theorem Zal (zs:List ByteArray) (v line:ByteArray) (A:Option Addr) (c B:Nat) (w:World) (x:ByteArray) (hfx:(x.toList==[102,105,120,101,100])=false) (rs:List ByteArray) (n:Nat) (hn:(x :: rs).length=n) (hn4:4≤n) (ns:List Int) (hns:Zt (rs)=some ns) (hps:ZD 32 line=x :: rs) (hsu:Zf zs=true) (hw:isW (L v)=true) (hl:line.size≤1048576) (ho:Own w B 9 (.slice A zs.length c) (zs.map Value.string)) (hB:B≤w.heap.size) (htb:TB w) (hml:MlS w) (hes:ES w) (heg:EG w) :
  Calls Tryz.prog 25 #[.agg #[.slice A zs.length c,.string v],.string line] w fun e w'=>BnR B w (rl3 zs v x (rs)) e w':=by
 have hB2:=ho.lt
 have X0:=BX.new w A zs.length c v
 have hx4:=Zb hw
 obtain⟨w2,hw2⟩:∃ w2,(w.alloc (.cells #[.slice A zs.length c,.string v] 28)).alloc (.cells #[.slice none 0 0,.string { data:=#[] }] 28)=w2:=⟨_,rfl⟩
 rw[hw2] at X0
 have X1:=X0.dr
 obtain⟨c0,c1,d0,d1,f0,f1⟩:=X0.fs
 have hoX:=fun w' (X:BX w w' A zs.length c v)=>ho.below X.bel
 have hne:=ZF ho (g:=w.heap.size+1) (by omega)
 have HOX:=Hd hoX;have HNE:=Hd hne;have HTB:=Hd (fun w' (X:BX w w' A zs.length c v)=>htb.below X.bel)
 have HML:=Hd (fun w' (X:BX w w' A zs.length c v)=>hml.below X.bel)
 have HES:=Hd (fun w' (X:BX w w' A zs.length c v)=>hes.below X.bel)
 have HEG:=Hd (fun w' (X:BX w w' A zs.length c v)=>heg.below X.bel)
 have HX0:=Hd X0;have HX1:=Hd X1
 have HRD:=Hd (fun w' (X:BX w w' A zs.length c v)=>(hoX w' X).reads)
 clear X0 hoX hne ho htb hml hes heg
 have hps2:∀ p∈ZD 32 line,p.size≤1048576:=fun p hp=>Nat.le_trans (Z6 32 line p hp) hl
 have hle:=Qf 32 line
 have hsp:Calls Tryz.prog 57 #[.string line,.string ⟨#[32]⟩] w2 fun e w'=>∃ g,e=.returned (.slice (some ⟨g,0,none⟩) n n)∧Own w' w2.heap.size 9 (.slice (some ⟨g,0,none⟩) n n) ((x :: rs).map Value.string)∧Below w2.heap.size w2 w':=by
  have h:=Qn line 32 (by omega) w2 (HML.o _ HX0.o)
  rw[hps] at h
  first|exact h|(rw[hn] at h;exact h)
 rw[hps] at hps2 hle
 have HSP:=Hd hsp
 have hn2:rs.length+1=n:=hn
 have k1:¬ n=1:=by omega
 have k2:¬ n=2:=by omega
 have k3:¬ n=3:=by omega
 have kk1:((n:Int)==1)=false:=by simp;omega
 have kk2:((n:Int)==2)=false:=by simp;omega
 have kk3:((n:Int)==3)=false:=by simp;omega
 have kj1:¬ (n:Int)=1:=by omega
 have kj2:¬ (n:Int)=2:=by omega
 have kj3:¬ (n:Int)=3:=by omega
 have hnl:(rs).length≤1048577:=by have h1:(x :: rs).length=(rs).length+1:=rfl;omega
 have hnz:∀ p∈rs,p.size≤1048576:=fun p hp=>hps2 p (List.mem_cons_of_mem _ hp)
 have hnu:=fun gs c0 w' (r:Rds w' w'.heap.size (some ⟨gs,1,none⟩) ((rs).map Value.string)) u1 u2 u3=>Qk (rs) (some ⟨gs,1,none⟩) c0 w'.heap.size w' hnl hnz r nlr u1 u2 u3
 rw[hns] at hnu
 have hv:rl3 zs v x (rs)=rlN zs v x ns:=by rw[rl3,hns]
 simp only[Option.getD_some,Option.isSome_some] at hnu
 have hnsl:=ZL hns
 have h64:=Qe hns
 have hcl:=fun Ai cn w' hi (X:BX w w' A zs.length c v)=>Jx zs v x ns Ai cn A c B w' (by omega) hi h64 hsu hw (HOX.o _ X) (by have:=X.size;omega) (HTB.o _ X) (HML.o _ X)
 obtain⟨r,hr⟩:∃ r,rlN zs v x ns=r:=⟨_,rfl⟩
 rw[hr] at hv hcl
 have HCL:=Hd hcl
 clear hcl hr hnsl h64
 have hrl:(rs).length=n - 1:=by first|rfl|omega
 rw[hrl] at hnu
 have HNU:=Hd hnu;have HV:=Hd hv
 clear hnu hv hsp hps hps2 hle hsu hw hnl hnz hns hrl
 go_enter Tryz.func25,Tryz.ntmps25
 go_wp2_with (first|(go_at_call 57;refine HSP.o.mono ?_;rintro e w3 ⟨gs,rfl,o3,b3⟩;clear hw2;have X3:=HX0.o.step b3;obtain⟨c0,c1,d0,d1,f0,f1⟩:=X3.fs;have q:=Own.str (ss:=x :: rs) o3 (by first|rfl|assumption);have k0:=q.2.2.2 0 _ rfl;have HQ:=Hd (fun w' (b:Below w3.heap.size w3 w')=>q.below b);have Z3:=Hd b3.size;clear o3 q)|(go_at_call 63;refine (HNU.o gs _ w3 ((HQ.o _ (Below.refl _ _)).tail) (HTB.o _ X3) (HES.o _ X3) (HEG.o _ X3)).mono ?_;rintro e w6 ⟨A6,c6,rfl,o6,b6⟩;have X6:=X3.step b6;obtain⟨c0,c1,d0,d1,f0,f1⟩:=X6.fs;have X6d:=X6.dr;have HX6d:=Hd X6d;clear X6d;have O6:=Hd o6;clear o6;have k0:=((HQ.o _ (Below.refl _ _)).below b6).2.2.2 0 _ rfl))
 go_region_with (go_at_call 64;refine (HCL.o A6 c6 _ (fun hne=>(O6.out.below (Below.refl _ _).drew).intAt hne) HX6d.o).mono ?_;rintro e w7 ⟨A7,c7,rfl,o7,b7⟩;have X7:=HX6d.o.step b7;obtain⟨c0,c1,d0,d1,f0,f1⟩:=X7.fs;have O7:=Hd o7;clear o7)
 all_goals
  go_wp2_with fail
  refine bodyPost_ret (Za rfl _ _ (w.heap.size+1) 28 _ (0,0) _ rfl (X7.row _ _) Tryz.underlying28 rfl (by kernel_rfl)) rfl ?_
  have hO:=O7.out.far2 (g:=w.heap.size+1) (.inr ⟨by rw[X7.r1];simp,Vs O7.out X7.r1 (by decide)⟩) (.slice A7 (r).1.length c7) (.string (r).2.1)
  rw[HV.o]
  exact⟨A7,c7,rfl,hO,X7.fin _ _⟩
theorem Zby (zs:List ByteArray) (v line:ByteArray) (A:Option Addr) (c B:Nat) (w:World) (x t m:ByteArray) (hfx:(x.toList==[102,105,120,101,100])=true) (hi:iP m=none) (hps:ZD 32 line=[x,t,m]) (hsu:Zf zs=true) (hw:isW (L v)=true) (hl:line.size≤1048576) (ho:Own w B 9 (.slice A zs.length c) (zs.map Value.string)) (hB:B≤w.heap.size) (htb:TB w) (hml:MlS w) (hes:ES w) (heg:EG w) :
  Calls Tryz.prog 25 #[.agg #[.slice A zs.length c,.string v],.string line] w fun e w'=>BnR B w ((zs,v,QJ)) e w':=by
 have hB2:=ho.lt
 have X0:=BX.new w A zs.length c v
 have hx4:=Zb hw
 obtain⟨w2,hw2⟩:∃ w2,(w.alloc (.cells #[.slice A zs.length c,.string v] 28)).alloc (.cells #[.slice none 0 0,.string { data:=#[] }] 28)=w2:=⟨_,rfl⟩
 rw[hw2] at X0
 have X1:=X0.dr
 obtain⟨c0,c1,d0,d1,f0,f1⟩:=X0.fs
 have hoX:=fun w' (X:BX w w' A zs.length c v)=>ho.below X.bel
 have hne:=ZF ho (g:=w.heap.size+1) (by omega)
 have HOX:=Hd hoX;have HNE:=Hd hne;have HTB:=Hd (fun w' (X:BX w w' A zs.length c v)=>htb.below X.bel)
 have HML:=Hd (fun w' (X:BX w w' A zs.length c v)=>hml.below X.bel)
 have HES:=Hd (fun w' (X:BX w w' A zs.length c v)=>hes.below X.bel)
 have HEG:=Hd (fun w' (X:BX w w' A zs.length c v)=>heg.below X.bel)
 have HX0:=Hd X0;have HX1:=Hd X1
 have HRD:=Hd (fun w' (X:BX w w' A zs.length c v)=>(hoX w' X).reads)
 clear X0 hoX hne ho htb hml hes heg
 have hps2:∀ p∈ZD 32 line,p.size≤1048576:=fun p hp=>Nat.le_trans (Z6 32 line p hp) hl
 have hle:=Qf 32 line
 have hsp:Calls Tryz.prog 57 #[.string line,.string ⟨#[32]⟩] w2 fun e w'=>∃ g,e=.returned (.slice (some ⟨g,0,none⟩) 3 3)∧Own w' w2.heap.size 9 (.slice (some ⟨g,0,none⟩) 3 3) (([x,t,m]).map Value.string)∧Below w2.heap.size w2 w':=by
  have h:=Qn line 32 (by omega) w2 (HML.o _ HX0.o)
  rw[hps] at h
  first|exact h|(rw[hn] at h;exact h)
 rw[hps] at hps2 hle
 have HSP:=Hd hsp
 have hms:m.size≤1048576:=hps2 m (by simp)
 have hpi:=fun w' (X:BX w w' A zs.length c v)=>JI m (by omega) w' (HTB.o _ X) (HES.o _ X) (HEG.o _ X)
 rw[hi] at hpi
 have HPI:=Hd hpi
 clear hpi hi hsp hps hps2 hle hsu hw hms
 go_enter Tryz.func25,Tryz.ntmps25
 go_wp2_with (first|(go_at_call 57;refine HSP.o.mono ?_;rintro e w3 ⟨gs,rfl,o3,b3⟩;clear hw2;have X3:=HX0.o.step b3;obtain⟨c0,c1,d0,d1,f0,f1⟩:=X3.fs;have q:=Own.str (ss:=[x,t,m]) o3 (by first|rfl|assumption);have k0:=q.2.2.2 0 _ rfl;have k1:=q.2.2.2 1 _ rfl;have k2:=q.2.2.2 2 _ rfl;have HQ:=Hd (fun w' (b:Below w3.heap.size w3 w')=>q.below b);have Z3:=Hd b3.size;clear o3 q)|(go_at_call 60;refine (HPI.o _ X3).mono ?_;rintro e w4 ⟨rfl,b4⟩;have X4:=X3.step b4;obtain⟨c0,c1,d0,d1,f0,f1⟩:=X4.fs))
 refine bodyPost_ret (Za rfl _ _ (w.heap.size+1) 28 _ (0,0) _ rfl (X4.row _ _) Tryz.underlying28 rfl (by kernel_rfl)) rfl ?_
 have hO:=(HOX.o _ X4).far2 (.inr ⟨by rw[X4.r1];simp,HNE.o⟩) (.slice A zs.length c) (.string v)
 exact⟨A,c,rfl,hO,X4.fin _ _⟩
theorem Zbz (zs:List ByteArray) (v line:ByteArray) (A:Option Addr) (c B:Nat) (w:World) (x t m:ByteArray) (n:Int) (hfx:(x.toList==[102,105,120,101,100])=true) (hi:iP m=some n) (hps:ZD 32 line=[x,t,m]) (hsu:Zf zs=true) (hw:isW (L v)=true) (hl:line.size≤1048576) (ho:Own w B 9 (.slice A zs.length c) (zs.map Value.string)) (hB:B≤w.heap.size) (htb:TB w) (hml:MlS w) (hes:ES w) (heg:EG w) :
  Calls Tryz.prog 25 #[.agg #[.slice A zs.length c,.string v],.string line] w fun e w'=>BnR B w (ZG zs v (fxV zs t n)) e w':=by
 have hB2:=ho.lt
 have X0:=BX.new w A zs.length c v
 have hx4:=Zb hw
 obtain⟨w2,hw2⟩:∃ w2,(w.alloc (.cells #[.slice A zs.length c,.string v] 28)).alloc (.cells #[.slice none 0 0,.string { data:=#[] }] 28)=w2:=⟨_,rfl⟩
 rw[hw2] at X0
 have X1:=X0.dr
 obtain⟨c0,c1,d0,d1,f0,f1⟩:=X0.fs
 have hoX:=fun w' (X:BX w w' A zs.length c v)=>ho.below X.bel
 have hne:=ZF ho (g:=w.heap.size+1) (by omega)
 have HOX:=Hd hoX;have HNE:=Hd hne;have HTB:=Hd (fun w' (X:BX w w' A zs.length c v)=>htb.below X.bel)
 have HML:=Hd (fun w' (X:BX w w' A zs.length c v)=>hml.below X.bel)
 have HES:=Hd (fun w' (X:BX w w' A zs.length c v)=>hes.below X.bel)
 have HEG:=Hd (fun w' (X:BX w w' A zs.length c v)=>heg.below X.bel)
 have HX0:=Hd X0;have HX1:=Hd X1
 have HRD:=Hd (fun w' (X:BX w w' A zs.length c v)=>(hoX w' X).reads)
 clear X0 hoX hne ho htb hml hes heg
 have hps2:∀ p∈ZD 32 line,p.size≤1048576:=fun p hp=>Nat.le_trans (Z6 32 line p hp) hl
 have hle:=Qf 32 line
 have hsp:Calls Tryz.prog 57 #[.string line,.string ⟨#[32]⟩] w2 fun e w'=>∃ g,e=.returned (.slice (some ⟨g,0,none⟩) 3 3)∧Own w' w2.heap.size 9 (.slice (some ⟨g,0,none⟩) 3 3) (([x,t,m]).map Value.string)∧Below w2.heap.size w2 w':=by
  have h:=Qn line 32 (by omega) w2 (HML.o _ HX0.o)
  rw[hps] at h
  first|exact h|(rw[hn] at h;exact h)
 rw[hps] at hps2 hle
 have HSP:=Hd hsp
 have hms:m.size≤1048576:=hps2 m (by simp)
 have hpi:=fun w' (X:BX w w' A zs.length c v)=>JI m (by omega) w' (HTB.o _ X) (HES.o _ X) (HEG.o _ X)
 have htz:t.size≤1048576:=hps2 t (by simp)
 have hfp:=fun w' (X:BX w w' A zs.length c v)=>Xs zs A c _ t n w' (by unfold maxLen;omega) hsu (HRD.o _ X) nlr
 have hsz:∀ u,fxV zs t n=some u→u.size≤maxLen:=fun u h=>Zed h
 obtain⟨o,ho⟩:∃ o,fxV zs t n=o:=⟨_,rfl⟩
 rw[ho] at hfp hsz ⊢
 have hww:=fun w'=>ZN zs v o A c w' hsz
 have hr1:=QI zs v o
 obtain⟨r,hr⟩:∃ r,ZG zs v o=r:=⟨_,rfl⟩
 rw[hr] at hr1 ⊢
 simp only[hr] at hww
 unfold okS at hfp
 rw[hi] at hpi
 have HPI:=Hd hpi;have HFP:=Hd hfp;have HWW:=Hd hww;have HR1:=Hd hr1
 clear hpi hfp hww hr1 hr ho hsz hi hsp hps hps2 hle hsu hw hms htz
 go_enter Tryz.func25,Tryz.ntmps25
 go_wp2_with (first|(go_at_call 57;refine HSP.o.mono ?_;rintro e w3 ⟨gs,rfl,o3,b3⟩;clear hw2;have X3:=HX0.o.step b3;obtain⟨c0,c1,d0,d1,f0,f1⟩:=X3.fs;have q:=Own.str (ss:=[x,t,m]) o3 (by first|rfl|assumption);have k0:=q.2.2.2 0 _ rfl;have k1:=q.2.2.2 1 _ rfl;have k2:=q.2.2.2 2 _ rfl;have HQ:=Hd (fun w' (b:Below w3.heap.size w3 w')=>q.below b);have Z3:=Hd b3.size;clear o3 q)|(go_at_call 60;refine (HPI.o _ X3).mono ?_;rintro e w4 ⟨rfl,b4⟩;have X4:=X3.step b4;obtain⟨c0,c1,d0,d1,f0,f1⟩:=X4.fs;have k1:=(b4.cell (p:=⟨gs,1,none⟩) (HQ.o _ (Below.refl _ _)).2.2.1).trans k1;have X4d:=X4.dr;have HX4d:=Hd X4d;clear X4d))
 go_region_with (first|(go_at_call 62;refine (HFP.o _ HX4d.o).mono ?_;rintro e w5 ⟨rfl,b5⟩;have X5:=HX4d.o.step b5;obtain⟨c0,c1,d0,d1,f0,f1⟩:=X5.fs)|(go_at_call 61;refine (HWW.o _).mono ?_;rintro e w6 ⟨rfl,b6⟩;have X6:=X5.step b6;obtain⟨c0,c1,d0,d1,f0,f1⟩:=X6.fs))
 all_goals
  go_wp2_with fail
  refine bodyPost_ret (Za rfl _ _ (w.heap.size+1) 28 _ (0,0) _ rfl (X6.row _ _) Tryz.underlying28 rfl (by kernel_rfl)) rfl ?_
  have hO:=(HOX.o _ X6).far2 (.inr ⟨by rw[X6.r1];simp,HNE.o⟩) (.slice A zs.length c) (.string r.2.1)
  exact⟨A,c,by rw[HR1.o];rfl,by rw[HR1.o];exact hO,X6.fin _ _⟩
theorem ZcW (zs:List ByteArray) (v line:ByteArray) (A:Option Addr) (c B:Nat) (w:World) (hsu:Zf zs=true) (hw:isW (L v)=true) (hl:line.size≤1048576) (ho:Own w B 9 (.slice A zs.length c) (zs.map Value.string)) (hB:B≤w.heap.size) (htb:TB w) (hml:MlS w) (hes:ES w) (heg:EG w) :
  Calls Tryz.prog 25 #[.agg #[.slice A zs.length c,.string v],.string line] w fun e w'=>BnR B w (RL zs v line) e w':=by
 have hlen:=W1 32 line
 unfold RL
 have hfT:∀ x:ByteArray,x=({ data:=#[102,105,120,101,100] }:ByteArray)→(x.toList==[102,105,120,101,100])=true:=fun x hx=>by rw[hx,ByteArray.toList_eq];rfl
 have hfF:∀ x:ByteArray,¬ x=({ data:=#[102,105,120,101,100] }:ByteArray)→(x.toList==[102,105,120,101,100])=false:=fun x hx=>by have:=Zr hx;rwa[show (({ data:=#[102,105,120,101,100] }:ByteArray)).toList=[102,105,120,101,100] from by rw[ByteArray.toList_eq]] at this
 match hps:ZD 32 line,hlen with
 | [],hlen=>simp at hlen
 | [x],_=>exact ZcU zs v line A c B w x hps hsu hw hl ho hB htb hml hes heg
 | [x,t],_ =>
  exact ZcV zs v line A c B w x t hps hsu hw hl ho hB htb hml hes heg
 | [x,t,m],_ =>
  show Calls _ _ _ _ fun e w'=>BnR B w (if x=({ data:=#[102,105,120,101,100] }:ByteArray) then (match iP m with|none=>(zs,v,QJ)|some n=>ZG zs v (fxV zs t n)) else rl3 zs v x [t,m]) e w'
  by_cases hx:x=({ data:=#[102,105,120,101,100] }:ByteArray)
  ·rw[if_pos hx]
   cases hi:iP m with
   | none=>exact Zby zs v line A c B w x t m (hfT x hx) hi hps hsu hw hl ho hB htb hml hes heg
   | some n=>exact Zbz zs v line A c B w x t m n (hfT x hx) hi hps hsu hw hl ho hB htb hml hes heg
  ·rw[if_neg hx]
   cases hns:Zt [t,m] with
   | none=>exact Zbw zs v line A c B w x t m (hfF x hx) hns hps hsu hw hl ho hB htb hml hes heg
   | some ns=>exact Zbx zs v line A c B w x t m (hfF x hx) ns hns hps hsu hw hl ho hB htb hml hes heg
 | x :: t :: m :: y :: l,_ =>
  show Calls _ _ _ _ fun e w'=>BnR B w (rl3 zs v x (t :: m :: y :: l)) e w'
  cases hns:Zt (t :: m :: y :: l) with
  | none =>
   cases hfx:(x.toList==[102,105,120,101,100]) with
   | true=>exact Zai zs v line A c B w x hfx (t :: m :: y :: l) _ rfl (by simp) hns hps hsu hw hl ho hB htb hml hes heg
   | false=>exact Zak zs v line A c B w x hfx (t :: m :: y :: l) _ rfl (by simp) hns hps hsu hw hl ho hB htb hml hes heg
  | some ns =>
   cases hfx:(x.toList==[102,105,120,101,100]) with
   | true=>exact Zaj zs v line A c B w x hfx (t :: m :: y :: l) _ rfl (by simp) ns hns hps hsu hw hl ho hB htb hml hes heg
   | false=>exact Zal zs v line A c B w x hfx (t :: m :: y :: l) _ rfl (by simp) ns hns hps hsu hw hl ho hB htb hml hes heg
end Go.Proofs.YtocbgldilgemoaaGreatDoor
