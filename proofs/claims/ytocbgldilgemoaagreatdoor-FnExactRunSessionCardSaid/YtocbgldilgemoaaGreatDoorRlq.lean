/- A line of the reference's session. No condition but the bounds. -/
import Derived.Test.YtocbgldilgemoaaGreatDoorRlqh
import Derived.Test.YtocbgldilgemoaaGreatDoorCnh
import Derived.Test.YtocbgldilgemoaaGreatDoorCss
import Derived.Test.YtocbgldilgemoaaGreatDoorCak
import Derived.Test.YtocbgldilgemoaaGreatDoorCwd
namespace Go.Proofs.YtocbgldilgemoaaGreatDoor
open Go.RowKit
set_option linter.unusedVariables false
theorem Zl4 {zs:List ByteArray} {v:ByteArray} {ps:List ByteArray} {u:ByteArray × Bool} (hw:isW (L v)=true) (hps:∀ p∈ps,p.size≤1048576) (h:wdV zs v ps=some u):u.1.size≤maxLen:=by
 have hok:∀ {o:Option ByteArray},(∀ x,o=some x→x.size≤maxLen)→(okW o).1.size≤maxLen:=fun {o} ho=>by
  cases o with
  | none=>exact (by decide:(0:Nat)≤maxLen)
  | some x=>exact ho x rfl
 have hnum:∀ (x:ByteArray) (n:List Int),wdN zs v x n=some u→u.1.size≤maxLen:=by
  intro x n hx
  match n,hx with
  | [],hx=>cases hx
  | [a],hx =>
   simp only[wdN] at hx
   split at hx
   ·injection hx with hx;rw[← hx];exact hok fun y hy=>V5 hy
   split at hx
   ·injection hx with hx;rw[← hx];exact ZcQ hw
   split at hx
   ·injection hx with hx;rw[← hx];exact hok fun y hy=>ZcN hy
   split at hx
   ·injection hx with hx;rw[← hx];exact hok fun y hy=>ZcO hy
   ·cases hx
  | [a,b],hx=>cases hx
  | [a,b,d],hx =>
   simp only[wdN] at hx
   split at hx
   ·injection hx with hx;rw[← hx];exact hok fun y hy=>ZcP hy
   ·cases hx
  | a :: b :: d :: e :: l,hx=>cases hx
 have hmany:∀ (x:ByteArray) (r:List ByteArray),wdM zs v x r=some u→u.1.size≤maxLen:=by
  intro x r hx
  rw[wdM] at hx
  cases hn:Zt r with
  | none=>rw[hn] at hx;cases hx
  | some n=>rw[hn] at hx;exact hnum x n hx
 match ps,hps,h with
 | [],hps,h=>cases h
 | [x],hps,h =>
  simp only[wdV] at h
  split at h
  ·injection h with h;rw[← h];exact hok fun y hy=>V5 hy
  split at h
  ·injection h with h;rw[← h];exact hok fun y hy=>ZcR hy
  split at h
  ·injection h with h;rw[← h];exact ZcS hw
  split at h
  ·injection h with h;rw[← h];exact ZcT hw
  ·cases h
 | [x,t],hps,h =>
  have ht:=hps t (by simp)
  simp only[wdV] at h
  split at h
  ·injection h with h;rw[← h];show t.size≤maxLen;unfold maxLen;omega
  split at h
  ·injection h with h;rw[← h];exact Nat.le_trans (Vr v t) (by unfold maxLen;omega)
  ·exact hmany x [t] h
 | [x,t,m],hps,h =>
  simp only[wdV] at h
  split at h
  ·cases hm:iP m with
   | none=>rw[hm] at h;cases h
   | some n=>rw[hm] at h;injection h with h;rw[← h];exact hok fun y hy=>Zed hy
  ·exact hmany x [t,m] h
 | x :: t :: m :: y :: l,hps,h=>exact hmany x (t :: m :: y :: l) h
set_option maxRecDepth 8000 in
set_option maxHeartbeats 8000000 in
theorem YA (zs:List ByteArray) (v line:ByteArray) (A:Option Addr) (c B:Nat) (w:World) (hn:zs.length≤1048576) (hz:∀ s∈zs,s.size≤maxLen) (hv:v.size≤maxLen) (hl:line.size≤1048576) (ho:Own w B 9 (.slice A zs.length c) (zs.map Value.string)) :
  Calls Tryz.prog 15 #[.agg #[.slice A zs.length c,.string v],.string line] w fun e w'=>BnL w.heap.size w (RLb zs v line) e w':=by
 have X0:=BX.new w A zs.length c v
 obtain⟨w2,hw2⟩:∃ w2,(w.alloc (.cells #[.slice A zs.length c,.string v] 28)).alloc (.cells #[.slice none 0 0,.string { data:=#[] }] 28)=w2:=⟨_,rfl⟩
 rw[hw2] at X0
 obtain⟨c0,c1,d0,d1,f0,f1⟩:=X0.fs
 have hoX:=fun w' (X:BX w w' A zs.length c v)=>ho.below X.bel
 have HX0:=Hd X0;have HOX:=Hd hoX;have HZ:=Hd hz;have HV:=Hd hv;have HL:=Hd hl;have HN:=Hd hn
 have hn4:zs.length<4294967296:=by omega
 have hlm:(zs.map Value.string).length=zs.length:=List.length_map ..
 have HLM:=Hd hlm
 clear X0 hoX ho hz hv hl hlm hn
 go_enter Tryz.func15,Tryz.ntmps15
 go_upto_region 1 with fail
 go_cut [7] from 17 to 25 (fun s7 wx=>∃ (bx:Nat) (A3:Option Addr) (c3:Nat),s7=.pointer (some ⟨bx,0,none⟩)∧BN w wx bx A3 zs c3 v)
 case first=>as_aux_lemma =>
  clear hw2
  have AE:=fun (z:World) (X:BX w z A zs.length c v)=>X.step ((Below.refl z.heap.size z).alloc nlr (.cells #[] 9))
  have AB:=fun (z:World) (X:BX w z A zs.length c v)=>X.step ((Below.refl z.heap.size z).alloc nlr (.cells #[.slice none 0 0,.string { data:=#[] }] 28))
  have XE:=AE _ HX0.o;have XB:=AB _ HX0.o;have XEB:=AB _ XE;have XBE:=AE _ XB
  have a0:=XE.c0;have a1:=XE.c1;have b0:=XB.c0;have b1:=XB.c1;have a2:=XEB.c0;have a3:=XEB.c1;have b2:=XBE.c0;have b3:=XBE.c1
  have bE:Below w2.heap.size w2 (w2.alloc (.cells #[] 9)):=(Below.refl _ _).alloc nlr _
  have O1:Own (w2.alloc (.cells #[] 9)) (w.heap.size+2) 9 (.slice (some ⟨w2.heap.size,0,none⟩) 0 0) []:=Own.empty HX0.o.size
  have O2:=O1.below ((Below.refl (w2.alloc (.cells #[] 9)).heap.size (w2.alloc (.cells #[] 9))).alloc nlr (.cells #[.slice none 0 0,.string { data:=#[] }] 28))
  have O3:Own ((w2.alloc (.cells #[.slice none 0 0,.string { data:=#[] }] 28)).alloc (.cells #[] 9)) (w.heap.size+2) 9 (.slice (some ⟨(w2.alloc (.cells #[.slice none 0 0,.string { data:=#[] }] 28)).heap.size,0,none⟩) 0 0) []:=Own.empty XB.size
  have O4:=O3;rw[show (w2.alloc (.cells #[.slice none 0 0,.string { data:=#[] }] 28)).heap.size=w2.heap.size+1 by simp] at O4
  have P1:=HOX.o _ XE;have P2:=HOX.o _ XEB;have P3:=HOX.o _ XBE
  have S1:=XE.size;have S2:=XEB.size;have S3:=XBE.size
  have Q2:((w2.alloc (.cells #[] 9)).alloc (.cells #[.slice none 0 0,.string { data:=#[] }] 28)).heap[w2.heap.size+1]? = some (.cells #[.slice none 0 0,.string { data:=#[] }] 28):=by have:=heap_alloc_new (w2.alloc (.cells #[] 9)) (.cells #[.slice none 0 0,.string { data:=#[] }] 28);rwa[show (w2.alloc (.cells #[] 9)).heap.size=w2.heap.size+1 by simp] at this
  have Q3:((w2.alloc (.cells #[.slice none 0 0,.string { data:=#[] }] 28)).alloc (.cells #[] 9)).heap[w2.heap.size]? = some (.cells #[.slice none 0 0,.string { data:=#[] }] 28):=(((Below.refl (w2.alloc (.cells #[.slice none 0 0,.string { data:=#[] }] 28)).heap.size _).alloc nlr _).block w2.heap.size (by simp)).trans (heap_alloc_new w2 (.cells #[.slice none 0 0,.string { data:=#[] }] 28))
  have HQ2:=Hd Q2;have HQ3:=Hd Q3;clear Q2 Q3
  have H1:=Hd XE;have H2:=Hd XEB;have H3:=Hd XBE;have HS:=Hd HX0.o.size
  have HO1:=Hd O1;have HO2:=Hd O2;have HO3:=Hd O3;have HO4:=Hd O4;have HP1:=Hd P1;have HP2:=Hd P2;have HP3:=Hd P3
  have HS1:=Hd S1;have HS2:=Hd S2;have HS3:=Hd S3
  clear bE O1 O2 O3 O4 P1 P2 P3 S1 S2 S3 AE AB XE XB XEB XBE
  go_region_law (refine Zhr rfl (.tmp 17) (.tmp 20) 23 rfl _ 16 Tryz.underlying23 Zn rfl (w.heap.size+2) (by rfl) (by first|exact HO1.o|exact HO2.o|exact HO3.o|exact HO4.o) A zs.length c B (by rfl) (by first|exact HP1.o|exact HP2.o|exact HP3.o) HLM.o (fun u hu=>by obtain⟨y,_,rfl⟩:=List.mem_map.1 hu;rfl) hn4 (by decide) (by first|exact HS1.o|exact HS2.o|exact HS3.o) ?_;intro A5 cc w5 o5 g5;have X5:BX w w5 A zs.length c v:=(by first|exact H1.o.dr.gr g5 HS.o|exact H2.o.dr.gr g5 HS.o|exact H3.o.dr.gr g5 (by have:=HS.o;simp;omega)|exact H1.o.gr g5 HS.o|exact H2.o.gr g5 HS.o|exact H3.o.gr g5 (by have:=HS.o;simp;omega));have k0:=X5.c0;have k1:=X5.c1;have X5a:=X5.step ((Below.refl w5.heap.size w5).alloc nlr (.cells #[.slice none 0 0,.string { data:=#[] }] 28));have k2:=X5a.c0;have k3:=X5a.c1;first|(have R5:=(g5.block (w2.heap.size+1) (by simp) (fun e=>by injection e with e;omega)).trans HQ2.o;have m0:=cell_of_row _ _ 0 _ _ (0,0) R5;have m1:=cell_of_row _ _ 1 _ _ (0,0) R5;have m2:=frozen_of_row _ _ 0 _ _ R5;have m3:=frozen_of_row _ _ 1 _ _ R5;have HR5:=Hd R5)|(have R5:=(g5.block w2.heap.size (by simp;omega) (fun e=>by injection e with e;simp at e)).trans HQ3.o;have m0:=cell_of_row _ _ 0 _ _ (0,0) R5;have m1:=cell_of_row _ _ 1 _ _ (0,0) R5;have m2:=frozen_of_row _ _ 0 _ _ R5;have m3:=frozen_of_row _ _ 1 _ _ R5;have HR5:=Hd R5)|skip)
  all_goals
   go_wp2_with fail
   go_meet
   case rel =>
    first
     | exact⟨w5.heap.size,A5,cc,rfl,BN.ofAlloc X5 o5⟩
     | exact⟨w2.heap.size+1,A5,cc,rfl,BN.ofSet X5 o5 HR5.o (by have:=HS.o;omega)⟩
     | exact⟨w2.heap.size,A5,cc,rfl,BN.ofSet X5 o5 HR5.o HS.o⟩
 case rest =>
  obtain⟨bx,A3,c3,rfl,N0⟩:=hcut
  clear c0 c1 d0 d1 f0 f1 hw2 HX0 HOX
  obtain⟨w3,rfl⟩:∃ z:World,z=wc:=⟨_,rfl⟩
  obtain⟨d0,d1,f0,f1,p0,p1⟩:=N0.fs
  have HN0:=Hd N0;have hbs:=N0.hbx;have HBS:=Hd hbs
  have hok:=Zbf zs v A3 c3 _ w3 nlr HV.o (by omega) HZ.o N0.own.reads
  have hlz:=HL.o
  clear N0 hbs
  cases hb:Vf zs v with
  | false =>
   as_aux_lemma =>
    rw[hb] at hok
    have hv2:RLb zs v line=((zs,v,{ data:=#[] }),false):=if_neg (by rw[hb];decide)
    have HOK:=Hd hok;have HV2:=Hd hv2
    clear hok hv2 hb hlz
    go_wp2_with (go_at_call 39;refine HOK.o.mono ?_;rintro e w4 ⟨rfl,b4⟩;have N4:=HN0.o.step b4;obtain⟨d0,d1,f0,f1,p0,p1⟩:=N4.fs;have HN4:=Hd N4;clear N4)
    refine bodyPost_ret (Ze rfl _ _ (w.heap.size+1) 28 _ (0,0) _ rfl (HN4.o.row _ _) Tryz.underlying28 rfl (by kernel_rfl)) rfl ?_
    rw[HV2.o]
    exact⟨A3,c3,rfl,HN4.o.keep _ _,HN4.o.fin _ _⟩
  | true =>
   rw[hb] at hok
   have hsw:Zf zs=true∧isW (L v)=true:=by rw[Vf,Bool.and_eq_true] at hb;exact hb
   have hsp:=fun w'=>JL line 32 hlz w'
   have hps2:∀ p∈ZD 32 line,p.size≤1048576:=fun p hp=>Nat.le_trans (Z6 32 line p hp) hlz
   have hle:(ZD 32 line).length≤1048577:=by have:=Qf 32 line;omega
   have hp0:ZD 32 line≠[]:=by have:=W1 32 line;intro h;rw[h] at this;simp at this
   have hv2:RLb zs v line=(rlR zs v (ZD 32 line),true):=by rw[RLb,if_pos hb,RL];rw[ZlS]
   obtain⟨ps,hps⟩:∃ ps,ZD 32 line=ps:=⟨_,rfl⟩
   rw[hps] at hps2 hle hp0 hv2
   simp only[hps] at hsp
   have HOK:=Hd hok;have HV2:=Hd hv2;have HSP:=Hd hsp;have HPS:=Hd hps2;have HLE:=Hd hle;have HP0:=Hd hp0;have HSW:=Hd hsw
   clear hok hv2 hb hlz hsp hps2 hle hp0 hps hsw
   go_wp2_with fail
   refine HOK.o.mono ?_
   rintro e w4 ⟨rfl,b4⟩
   have N4:=HN0.o.step b4
   obtain⟨d0,d1,f0,f1,p0,p1⟩:=N4.fs
   have HN4:=Hd N4;clear N4 b4
   go_wp2_with fail
   refine (HSP.o _).mono ?_
   rintro e w5 ⟨gl,cl,rfl,o5,b5⟩
   have N5:=HN4.o.step b5
   obtain⟨d0,d1,f0,f1,p0,p1⟩:=N5.fs
   have HQ:=Hd (fun w' (b:Below w5.heap.size w5 w')=>(Own.str (ss:=ps) o5 rfl).below b)
   have HN5:=Hd N5;have hsz5:w.heap.size+2≤w5.heap.size:=by have:=N5.size;have:=N5.hbx;omega
   have hask:=Zer zs v ps gl cl A3 c3 (w.heap.size+2) w5 HP0.o HLE.o HPS.o HSW.o.1 HSW.o.2 (HQ.o _ (Below.refl _ _)) N5.own hsz5
   clear N5 b5 o5
   cases ha:QK zs v ps with
   | some s =>
    as_aux_lemma =>
     rw[ha] at hask
     simp only[Option.getD_some,Option.isSome_some] at hask
     have hv3:rlR zs v ps=(zs,v,s):=by rw[rlR,ha]
     have HASK:=Hd hask;have HV3:=Hd hv3
     clear hask hv3 ha
     go_wp2_with (go_at_call 40;refine HASK.o.mono ?_;rintro e w6 ⟨rfl,b6⟩;have N6:=HN5.o.step b6;obtain⟨d0,d1,f0,f1,p0,p1⟩:=N6.fs;have HN6:=Hd N6;clear N6)
     refine bodyPost_ret (Ze rfl _ _ (w.heap.size+1) 28 _ (0,0) _ rfl (HN6.o.row _ _) Tryz.underlying28 rfl (by kernel_rfl)) rfl ?_
     rw[HV2.o,HV3.o]
     exact⟨A3,c3,rfl,HN6.o.keep _ _,HN6.o.fin _ _⟩
   | none =>
    rw[ha] at hask
    simp only[Option.getD_none,Option.isSome_none] at hask
    have HA:=Hd ha;have HASK:=Hd hask
    clear hask ha
    go_wp2_with fail
    refine HASK.o.mono ?_
    rintro e w6 ⟨rfl,b6⟩
    have N6:=HN5.o.step b6
    obtain⟨d0,d1,f0,f1,p0,p1⟩:=N6.fs
    have HB6:=Hd b6
    have hset:=ZeA zs v ps gl cl A3 c3 (w.heap.size+2) w6 HP0.o HPS.o HSW.o.1 HSW.o.2 (HQ.o _ b6) N6.own (Nat.le_trans hsz5 b6.size)
    have HN6:=Hd N6
    clear N6 b6
    cases hs:QV zs v ps with
    | some o =>
     as_aux_lemma =>
      rw[hs,Option.map_some] at hset
      have hv3:rlR zs v ps=Jl zs v o:=by rw[rlR,HA.o,hs]
      obtain⟨q,hq⟩:∃ q,Jl zs v o=q:=⟨_,rfl⟩
      rw[hq] at hset hv3
      have HSET:=Hd hset;have HV3:=Hd hv3
      clear hset hv3 hs hq
      go_wp2_with (go_at_call 41;refine HSET.o.mono ?_;rintro e w7 ⟨r7,A7,n7,c7,rfl,b7,h7⟩;obtain⟨rfl,rfl,o7⟩:=h7 _ rfl;clear h7;have b8:=(Below.refl w7.heap.size w7).alloc nlr (.cells #[.slice A7 r7.1.length c7,.string r7.2.1] 28);have k9:=heap_alloc_new w7 (.cells #[.slice A7 r7.1.length c7,.string r7.2.1] 28);obtain⟨w8,hw8⟩:∃ z,w7.alloc (.cells #[.slice A7 r7.1.length c7,.string r7.2.1] 28)=z:=⟨_,rfl⟩;rw[hw8] at b8 k9;have N8:=(HN6.o.step b7).step b8;obtain⟨d0,d1,f0,f1,p0,p1⟩:=N8.fs;have q0:=cell_of_row _ _ 0 _ _ (0,0) k9;have q1:=cell_of_row _ _ 1 _ _ (0,0) k9;have O8:=Hd (o7.below b8);have HN8:=Hd N8;clear N8 o7 b8 k9)
      refine bodyPost_ret (Ze rfl _ _ (w.heap.size+1) 28 _ (0,0) _ rfl (HN8.o.row _ _) Tryz.underlying28 rfl (by kernel_rfl)) rfl ?_
      rw[HV2.o,HV3.o]
      have hO:=(O8.out.far2 (g:=w.heap.size+1) (.inl (by omega)) (.slice A7 r7.1.length c7) (.string r7.2.1)).lower (B':=w.heap.size) (by omega)
      exact⟨A7,c7,rfl,hO,HN8.o.fin _ _⟩
    | none =>
     rw[hs,Option.map_none] at hset
     have HS:=Hd hs;have HSET:=Hd hset
     clear hset hs
     go_wp2_with fail
     refine HSET.o.mono ?_
     rintro e w7 ⟨r7,A7,n7,c7,rfl,b7,h7⟩
     have b8:=(Below.refl w7.heap.size w7).alloc nlr (.cells #[.slice A7 n7 c7,.string r7.2.1] 28)
     have b68:=(HB6.o.trans (b7.mono HB6.o.size)).trans (b8.mono (Nat.le_trans HB6.o.size b7.size))
     have N8:=(HN6.o.step b7).step b8
     obtain⟨w8,hw8⟩:∃ z,w7.alloc (.cells #[.slice A7 n7 c7,.string r7.2.1] 28)=z:=⟨_,rfl⟩
     rw[hw8] at N8 b68
     obtain⟨d0,d1,f0,f1,p0,p1⟩:=N8.fs
     have hwd:=ZcZ zs v ps gl cl A3 c3 (w.heap.size+2) w8 HP0.o HLE.o HPS.o HSW.o.1 HSW.o.2 (HQ.o _ b68) N8.own (Nat.le_trans hsz5 b68.size)
     have HN8:=Hd N8
     clear N8 b8 b7 b68 h7
     cases hd:wdV zs v ps with
     | none =>
      as_aux_lemma =>
       rw[hd] at hwd
       simp only[Option.getD_none,Option.isSome_none] at hwd
       have hv3:rlR zs v ps=(zs,v,QJ):=by rw[rlR,HA.o,HS.o,hd]
       have HWD:=Hd hwd;have HV3:=Hd hv3
       clear hwd hv3 hd
       go_wp2_with (go_at_call 42;refine HWD.o.mono ?_;rintro e w9 ⟨rfl,b9⟩;have N9:=HN8.o.step b9;obtain⟨d0,d1,f0,f1,p0,p1⟩:=N9.fs;have HN9:=Hd N9;clear N9)
       refine bodyPost_ret (Ze rfl _ _ (w.heap.size+1) 28 _ (0,0) _ rfl (HN9.o.row _ _) Tryz.underlying28 rfl (by kernel_rfl)) rfl ?_
       rw[HV2.o,HV3.o]
       exact⟨A3,c3,rfl,HN9.o.keep _ _,HN9.o.fin _ _⟩
     | some uu =>
      have husz:=Zl4 HSW.o.2 HPS.o hd
      obtain⟨u,ok⟩:=uu
      rw[hd] at hwd
      simp only[Option.getD_some,Option.isSome_some] at hwd
      have hv3:rlR zs v ps=fnW zs v (u,ok):=by rw[rlR,HA.o,HS.o,hd]
      have husz2:u.size≤maxLen:=husz
      have hwo:=fun b (hb:isW (L u)=b) w'=>Zi u b husz2 hb w'
      have HWD:=Hd hwd;have HV3:=Hd hv3;have HWO:=Hd hwo
      clear hwd hv3 hd husz husz2 hwo
      cases ok with
      | false =>
       as_aux_lemma =>
        have hv4:fnW zs v (u,false)=(zs,v,ZY):=rfl
        have HV4:=Hd hv4;clear hv4
        go_wp2_with (go_at_call 42;refine HWD.o.mono ?_;rintro e w9 ⟨rfl,b9⟩;have N9:=HN8.o.step b9;obtain⟨d0,d1,f0,f1,p0,p1⟩:=N9.fs;have HN9:=Hd N9;clear N9)
        refine bodyPost_ret (Ze rfl _ _ (w.heap.size+1) 28 _ (0,0) _ rfl (HN9.o.row _ _) Tryz.underlying28 rfl (by kernel_rfl)) rfl ?_
        rw[HV2.o,HV3.o,HV4.o]
        exact⟨A3,c3,rfl,HN9.o.keep _ _,HN9.o.fin _ _⟩
      | true =>
       cases hiw:isW (L u) with
       | false =>
        as_aux_lemma =>
         have hv4:fnW zs v (u,true)=(zs,v,ZY):=by rw[fnW,if_neg];rw[J7,hiw];simp
         have hwo:=fun w'=>HWO.o false hiw w'
         have HV4:=Hd hv4;have HWO2:=Hd hwo;clear hv4 hwo hiw
         go_wp2_with (first|(go_at_call 42;refine HWD.o.mono ?_;rintro e w9 ⟨rfl,b9⟩;have N9:=HN8.o.step b9;obtain⟨d0,d1,f0,f1,p0,p1⟩:=N9.fs;have HN9:=Hd N9;clear N9)|(go_at_call 43;refine (HWO2.o _).mono ?_;rintro e w10 ⟨rfl,rfl⟩))
         refine bodyPost_ret (Ze rfl _ _ (w.heap.size+1) 28 _ (0,0) _ rfl (HN9.o.row _ _) Tryz.underlying28 rfl (by kernel_rfl)) rfl ?_
         rw[HV2.o,HV3.o,HV4.o]
         exact⟨A3,c3,rfl,HN9.o.keep _ _,HN9.o.fin _ _⟩
       | true =>
        have hwo:=fun w'=>HWO.o true hiw w'
        have HWO2:=Hd hwo;clear hwo
        by_cases hbad:u.size=0∧v.size≠0
        ·as_aux_lemma =>
          have hv4:fnW zs v (u,true)=(zs,v,ZY):=by rw[fnW,if_neg];rw[J7,hiw,decide_eq_true hbad.1,decide_eq_false hbad.2];simp
          have he1:=J8 hbad.1;have he2:=Jw hbad.2
          have HV4:=Hd hv4;clear hv4 hbad hiw
          go_wp2_with (first|(go_at_call 42;refine HWD.o.mono ?_;rintro e w9 ⟨rfl,b9⟩;have N9:=HN8.o.step b9;obtain⟨d0,d1,f0,f1,p0,p1⟩:=N9.fs;have HN9:=Hd N9;clear N9)|(go_at_call 43;refine (HWO2.o _).mono ?_;rintro e w10 ⟨rfl,rfl⟩))
          refine bodyPost_ret (Ze rfl _ _ (w.heap.size+1) 28 _ (0,0) _ rfl (HN9.o.row _ _) Tryz.underlying28 rfl (by kernel_rfl)) rfl ?_
          rw[HV2.o,HV3.o,HV4.o]
          exact⟨A3,c3,rfl,HN9.o.keep _ _,HN9.o.fin _ _⟩
        have hv4:fnW zs v (u,true)=(zs,u,orD u):=by
         rw[fnW,if_pos]
         rw[J7,hiw]
         by_cases h0:u.size=0
         ·have h1:v.size=0:=Classical.not_not.1 fun h=>hbad ⟨h0,h⟩
          rw[decide_eq_true h0,decide_eq_true h1];rfl
         ·rw[decide_eq_false h0];rfl
        have hor:=fun w'=>J3 u w'
        obtain⟨ou,hou⟩:∃ s,orD u=s:=⟨_,rfl⟩
        rw[hou] at hv4
        simp only[hou] at hor
        have HV4:=Hd hv4;have HOR:=Hd hor
        clear hv4 hor hou hiw
        have key:(u.toList.isEmpty=true∧v.toList.isEmpty=true)∨u.toList.isEmpty=false:=by
         by_cases h0:u.size=0
         ·exact .inl ⟨J8 h0,J8 (Classical.not_not.1 fun h=>hbad ⟨h0,h⟩)⟩
         ·exact .inr (Jw h0)
        clear hbad
        rcases key with ⟨he1,he2⟩|he1
        all_goals
         go_wp2_with (first|(go_at_call 42;refine HWD.o.mono ?_;rintro e w9 ⟨rfl,b9⟩;have N9:=HN8.o.step b9;obtain⟨d0,d1,f0,f1,p0,p1⟩:=N9.fs;have HN9d:=Hd N9.dr;clear N9)|(go_at_call 43;refine (HWO2.o _).mono ?_;rintro e w10 ⟨rfl,rfl⟩))
         go_region_with (go_at_call 44;refine (HOR.o _).mono ?_;rintro e w11 ⟨rfl,rfl⟩;obtain⟨d0,d1,f0,f1,p0,p1⟩:=HN9d.o.fs)
         all_goals
          go_wp2_with fail
          refine bodyPost_ret (Ze rfl _ _ (w.heap.size+1) 28 _ (0,0) _ rfl (HN9d.o.row _ _) Tryz.underlying28 rfl (by kernel_rfl)) rfl ?_
          rw[HV2.o,HV3.o,HV4.o]
          have hO:=(HN9d.o.own.far2 (g:=w.heap.size+1) (.inl (by omega)) (.slice A3 zs.length c3) (.string u)).lower (B':=w.heap.size) (by omega)
          exact⟨A3,c3,rfl,hO,HN9d.o.fin _ _⟩
end Go.Proofs.YtocbgldilgemoaaGreatDoor
