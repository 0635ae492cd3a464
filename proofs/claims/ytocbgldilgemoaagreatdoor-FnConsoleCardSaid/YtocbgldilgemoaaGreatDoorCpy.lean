/- A bench copied, and a line of the program's session. Asks the shelf's text. No condition but the bounds. -/
import Derived.Test.YtocbgldilgemoaaGreatDoorCpf
namespace Go.Proofs.YtocbgldilgemoaaGreatDoor
set_option maxRecDepth 4000
set_option maxHeartbeats 4000000
open Go.RowKit
set_option linter.unusedVariables false
theorem ZgD (zs:List ByteArray) (A:Option Addr) (c B:Nat) (w:World) (hn:zs.length≤1048576) (ho:Own w B 9 (.slice A zs.length c) (zs.map Value.string)) :
  Calls Tryz.prog 56 #[.slice A zs.length c] w fun e w'=>∃ A' c',e=.returned (.slice A' zs.length c')∧Own w' w.heap.size 9 (.slice A' zs.length c') (zs.map Value.string)∧Below w.heap.size w w':=by
 rcases Nat.eq_zero_or_pos zs.length with h0|h0
 ·have hz:zs=[]:=List.eq_nil_of_length_eq_zero h0
  subst hz
  cases A with
  | none =>
   refine (Tryz.slices_Clone_string_nil _ _ w).mono ?_
   rintro e w' ⟨rfl,rfl⟩
   exact⟨none,0,rfl,Own.nil,Below.refl _ _⟩
  | some a =>
   refine (Tryz.slices_Clone_string_zero a c w).mono ?_
   rintro e w' ⟨v',rfl,o,_,b⟩
   have o2:Own w' w.heap.size 9 v' []:=o
   obtain⟨A',c',rfl,_⟩:=o2.shape
   exact⟨A',c',rfl,o2,b⟩
 ·have hne:zs≠[]:=fun h=>by rw[h] at h0;exact absurd h0 (by decide)
  obtain⟨g,rfl,q1,q2,q3,q4⟩:=ho.strAt hne
  refine (Tryz.slices_Clone_string g 0 zs.length c zs w nlr (by omega) (fun j hj=>?_)).mono ?_
  ·rw[Nat.zero_add]
   have:=q4 j (zs.getD j ByteArray.empty) (by rw[List.getD_eq_getElem?_getD,List.getElem?_eq_getElem hj];rfl)
   exact this
  ·rintro e w' ⟨v',rfl,o,_,b⟩
   rw[List.take_of_length_le nlr] at o
   have o2:Own w' w.heap.size 9 v' (zs.map Value.string):=by
    have:=o
    unfold Own
    rw[List.length_map]
    exact o
   obtain⟨A',c',rfl,_⟩:=o2.shape
   rw[List.length_map] at o2 ⊢
   exact⟨A',c',rfl,o2,b⟩
theorem Zey (zs:List ByteArray) (v:ByteArray) (A:Option Addr) (c B:Nat) (w:World) (hn:zs.length≤1048576) (ho:Own w B 9 (.slice A zs.length c) (zs.map Value.string)) :
  Calls Tryz.prog 24 #[.agg #[.slice A zs.length c,.string v]] w fun e w'=>∃ A' c',e=.returned (.agg #[.slice A' zs.length c',.string v])∧Own w' w.heap.size 9 (.slice A' zs.length c') (zs.map Value.string)∧Below w.heap.size w w':=by
 have X0:=BX.new w A zs.length c v
 obtain⟨w2,hw2⟩:∃ w2,(w.alloc (.cells #[.slice A zs.length c,.string v] 28)).alloc (.cells #[.slice none 0 0,.string { data:=#[] }] 28)=w2:=⟨_,rfl⟩
 rw[hw2] at X0
 have X1:=X0.dr
 obtain⟨c0,c1,d0,d1,f0,f1⟩:=X0.fs
 have hcl:=ZgD zs A c B w2.drew hn (ho.below X1.bel)
 have HCL:=Hd hcl;have HX1:=Hd X1
 clear hcl X1 X0 hn ho
 go_enter Tryz.func24,Tryz.ntmps24
 go_wp2_with fail
 clear hw2
 go_region_with (go_at_call 56;refine HCL.o.mono ?_;rintro e w4 ⟨A4,c4,rfl,o4,b4⟩;have X4:=HX1.o.step b4;obtain⟨c0,c1,d0,d1,f0,f1⟩:=X4.fs;have O4:=Hd o4;clear o4)
 all_goals
  go_wp2_with fail
  refine bodyPost_ret (results_cell_row rfl _ _ (w.heap.size+1) 28 _ (0,0) _ rfl (X4.row _ _) Tryz.underlying28 rfl (by kernel_rfl)) rfl ?_
  have hO:=(O4.out.far2 (g:=w.heap.size+1) (.inl (by have:=HX1.o.size;omega)) (.slice A4 zs.length c4) (.string v)).lower (B':=w.heap.size) (by have:=HX1.o.size;omega)
  exact⟨A4,c4,rfl,hO,X4.fin _ _⟩
theorem JX (zs:List ByteArray) (v line:ByteArray) (A:Option Addr) (c B:Nat) (w:World) (hn:zs.length≤1048576) (hz:∀ s∈zs,s.size≤maxLen) (hv:v.size≤maxLen) (hl:line.size≤1048576) (ho:Own w B 9 (.slice A zs.length c) (zs.map Value.string)) (htb:TB w) (hml:MlS w) (hes:ES w) (heg:EG w) :
  Calls Tryz.prog 8 #[.agg #[.slice A zs.length c,.string v],.string line] w fun e w'=>BnL w.heap.size w (RLb zs v line) e w':=by
 have X0:=BX.new w A zs.length c v
 obtain⟨w2,hw2⟩:∃ w2,(w.alloc (.cells #[.slice A zs.length c,.string v] 28)).alloc (.cells #[.slice none 0 0,.string { data:=#[] }] 28)=w2:=⟨_,rfl⟩
 rw[hw2] at X0
 obtain⟨c0,c1,d0,d1,f0,f1⟩:=X0.fs
 have hoX:=fun w' (X:BX w w' A zs.length c v)=>ho.below X.bel
 have hok:=V0 zs v A c w2.heap.size w2 nlr hv (by omega) hz (hoX _ X0).reads
 have hcp:=fun w' (X:BX w w' A zs.length c v)=>Zey zs v A c B w' hn (hoX _ X)
 have HTB:=Hd (fun w' (X:BX w w' A zs.length c v)=>htb.below X.bel)
 have HML:=Hd (fun w' (X:BX w w' A zs.length c v)=>hml.below X.bel)
 have HES:=Hd (fun w' (X:BX w w' A zs.length c v)=>hes.below X.bel)
 have HEG:=Hd (fun w' (X:BX w w' A zs.length c v)=>heg.below X.bel)
 have HX0:=Hd X0;have HCP:=Hd hcp
 clear X0 hoX ho htb hml hes heg hcp hn hz hv
 cases hb:Vf zs v with
 | false =>
  rw[hb] at hok
  have hv:RLb zs v line=((zs,v,{ data:=#[] }),false):=if_neg (by rw[hb];decide)
  have HOK:=Hd hok;have HV:=Hd hv
  clear hok hv hb hl
  go_enter Tryz.func8,Tryz.ntmps8
  go_wp2_with (go_at_call 9;refine HOK.o.mono ?_;rintro e w3 ⟨rfl,b3⟩;clear hw2;have X3:=HX0.o.step b3;obtain⟨c0,c1,d0,d1,f0,f1⟩:=X3.fs)
  go_wp2_with (go_at_call 24;refine (HCP.o _ X3).mono ?_;rintro e w4 ⟨A4,c4,rfl,o4,b4⟩;have X4:=X3.step b4;obtain⟨c0,c1,d0,d1,f0,f1⟩:=X4.fs;have O4:=Hd o4;have B3:=Hd X3.size;clear o4)
  refine bodyPost_ret (Ze rfl _ _ (w.heap.size+1) 28 _ (0,0) _ rfl (X4.row _ _) Tryz.underlying28 rfl (by kernel_rfl)) rfl ?_
  have hO:=(O4.out.far2 (g:=w.heap.size+1) (.inl (by have:=B3.out;omega)) (.slice A4 zs.length c4) (.string v)).lower (B':=w.heap.size) (by have:=B3.out;omega)
  rw[HV.o]
  exact⟨A4,c4,rfl,hO,X4.fin _ _⟩
 | true =>
  rw[hb] at hok
  have hv:RLb zs v line=(RL zs v line,true):=if_pos hb
  have hsw:Zf zs=true∧isW (L v)=true:=by rw[Vf,Bool.and_eq_true] at hb;exact hb
  have hpf:=fun A2 c2 B2 w' o hB t m e g=>ZcW zs v line A2 c2 B2 w' hsw.1 hsw.2 hl o hB t m e g
  obtain⟨r,hr⟩:∃ r,RL zs v line=r:=⟨_,rfl⟩
  rw[hr] at hv hpf
  have HOK:=Hd hok;have HV:=Hd hv;have HPF:=Hd hpf
  clear hok hv hb hl hsw hpf hr
  go_enter Tryz.func8,Tryz.ntmps8
  go_wp2_with (go_at_call 9;refine HOK.o.mono ?_;rintro e w3 ⟨rfl,b3⟩;clear hw2;have X3:=HX0.o.step b3;obtain⟨c0,c1,d0,d1,f0,f1⟩:=X3.fs)
  go_wp2_with (go_at_call 24;refine (HCP.o _ X3).mono ?_;rintro e w4 ⟨A4,c4,rfl,o4,b4⟩;have X4:=X3.step b4;obtain⟨c0,c1,d0,d1,f0,f1⟩:=X4.fs;have O4:=Hd o4;have B3:=Hd X3.size;have HX4:=Hd X4;have Z4:=Hd b4.size;clear o4)
  go_wp2_with (go_at_call 25;refine (HPF.o A4 c4 w3.heap.size w4 O4.out Z4.out (HTB.o _ HX4.o) (HML.o _ HX4.o) (HES.o _ HX4.o) (HEG.o _ HX4.o)).mono ?_;rintro e w5 ⟨A5,c5,rfl,o5,b5⟩;have X5:=HX4.o.step b5;have b6:=(Below.refl w5.heap.size w5).alloc nlr (.cells #[.slice A5 r.1.length c5,.string r.2.1] 28);have k9:=heap_alloc_new w5 (.cells #[.slice A5 r.1.length c5,.string r.2.1] 28);obtain⟨w6,hw6⟩:∃ w6,w5.alloc (.cells #[.slice A5 r.1.length c5,.string r.2.1] 28)=w6:=⟨_,rfl⟩;rw[hw6] at b6 k9;have X6:=X5.step b6;have O6:=Hd (o5.below b6);obtain⟨c0,c1,d0,d1,f0,f1⟩:=X6.fs;have k0:=cell_of_row _ _ 0 _ _ (0,0) k9;have k1:=cell_of_row _ _ 1 _ _ (0,0) k9;have HX6:=Hd X6;clear o5 X6 b6 k9)
  refine bodyPost_ret (Ze rfl _ _ (w.heap.size+1) 28 _ (0,0) _ rfl (HX6.o.row _ _) Tryz.underlying28 rfl (by kernel_rfl)) rfl ?_
  have hO:=(O6.out.far2 (g:=w.heap.size+1) (.inl (by have:=B3.out;omega)) (.slice A5 r.1.length c5) (.string r.2.1)).lower (B':=w.heap.size) (by have:=B3.out;omega)
  rw[HV.o]
  exact⟨A5,c5,rfl,hO,HX6.o.fin _ _⟩
end Go.Proofs.YtocbgldilgemoaaGreatDoor
