/- Lines of a name and numbers of the program's console. Asks the shelf's text. No condition but the bounds. -/
import Derived.Test.YtocbgldilgemoaaGreatDoorCnh
namespace Go.Proofs.YtocbgldilgemoaaGreatDoor
set_option maxRecDepth 8000
set_option maxHeartbeats 8000000
open Go.RowKit
set_option linter.unusedVariables false
theorem Zbq (zs:List ByteArray) (v x:ByteArray) (a0 a1:Int) (g cn:Nat) (A:Option Addr) (c B:Nat) (w:World) (hx:x=({ data:=#[103,111,108,100] }:ByteArray)) (hg:g<w.heap.size) (m0:w.cell? ⟨g,0,none⟩=some (.int .i64 a0)) (m1:w.cell? ⟨g,1,none⟩=some (.int .i64 a1)) (i0:I64 a0) (i1:I64 a1) (hsu:Zf zs=true) (hw:isW (L v)=true) (ho:Own w B 9 (.slice A zs.length c) (zs.map Value.string)) (hB:B≤w.heap.size) (htb:TB w) (hml:MlS w) :
  Calls Tryz.prog 64 #[.agg #[.slice A zs.length c,.string v],.string x,.slice (some ⟨g,0,none⟩) 2 cn] w fun e w'=>BnR B w (rlN zs v x [a0,a1]) e w':=by
 have hB2:=ho.lt
 have X0:=BX.new w A zs.length c v
 have hx4:=Zb hw
 obtain⟨w2,hw2⟩:∃ w2,(w.alloc (.cells #[.slice A zs.length c,.string v] 28)).alloc (.cells #[.slice none 0 0,.string { data:=#[] }] 28)=w2:=⟨_,rfl⟩
 rw[hw2] at X0
 have X1:=X0.dr
 obtain⟨c0,c1,d0,d1,f0,f1⟩:=X0.fs
 have hoX:=fun w' (X:BX w w' A zs.length c v)=>ho.below X.bel
 have hne:=ZF ho (g:=w.heap.size+1) (by omega)
 have HOX:=Hd hoX;have HNE:=Hd hne;have HTB:=Hd (fun w' (X:BX w w' A zs.length c v)=>htb.below X.bel)
 have HML:=Hd (fun w' (X:BX w w' A zs.length c v)=>hml.below X.bel)
 have HX0:=Hd X0;have HX1:=Hd X1
 have HRD:=Hd (fun w' (X:BX w w' A zs.length c v)=>(hoX w' X).reads)
 have l0:w2.cell? ⟨g,0,none⟩=some (.int .i64 a0):=(X0.bel.cell (p:=⟨g,0,none⟩) hg).trans m0
 have l1:w2.cell? ⟨g,1,none⟩=some (.int .i64 a1):=(X0.bel.cell (p:=⟨g,1,none⟩) hg).trans m1
 clear X0 hoX hne ho htb hml m0 m1
 have e7:(x.toList==[103,111,108,100])=true:=by rw[hx,ByteArray.toList_eq];rfl
 have e0:(x.toList==[103,114,111,119])=false:=by rw[hx,ByteArray.toList_eq];rfl
 have e1:(x.toList==[115,104,105,102,116])=false:=by rw[hx,ByteArray.toList_eq];rfl
 have e2:(x.toList==[115,101,108,102])=false:=by rw[hx,ByteArray.toList_eq];rfl
 have e3:(x.toList==[102,111,108,100])=false:=by rw[hx,ByteArray.toList_eq];rfl
 have e4:(x.toList==[115,108,111,112,101])=false:=by rw[hx,ByteArray.toList_eq];rfl
 have e5:(x.toList==[102,97,99,116,111,114,115])=false:=by rw[hx,ByteArray.toList_eq];rfl
 have e6:(x.toList==[110,117,109,98,101,114])=false:=by rw[hx,ByteArray.toList_eq];rfl
 have e8:(x.toList==[113,117,111,116,105,101,110,116,115])=false:=by rw[hx,ByteArray.toList_eq];rfl
 have e9:(x.toList==[103,97,112,115])=false:=by rw[hx,ByteArray.toList_eq];rfl
 have hv:rlN zs v x [a0,a1]=(zs,v,JP a0 a1):=by rw[hx];rfl
 have hcl:=Zir a0 a1 w2.drew (HTB.o _ HX1.o)
 obtain⟨o,ho⟩:∃ o,JP a0 a1=o:=⟨_,rfl⟩
 rw[ho] at hv hcl
 have HCL:=Hd hcl;have HV:=Hd hv
 clear hcl hv ho hsu hw hx hg
 go_enter Tryz.func64,Tryz.ntmps64
 go_wp2_with fail
 clear hw2
 go_region_with (go_at_call 134;refine HCL.o.mono ?_;rintro e w4 ⟨rfl,b4⟩;have X5:=HX1.o.step b4;obtain⟨c0,c1,d0,d1,f0,f1⟩:=X5.fs)
 all_goals
  go_wp2_with fail
  refine bodyPost_ret (Za rfl _ _ (w.heap.size+1) 28 _ (0,0) _ rfl (X5.row _ _) Tryz.underlying28 rfl (by kernel_rfl)) rfl ?_
  have hO:=(HOX.o _ X5).far2 (.inr ⟨by rw[X5.r1];simp,HNE.o⟩) (.slice A zs.length c) (.string v)
  rw[HV.o]
  exact⟨A,c,rfl,hO,X5.fin _ _⟩
theorem V4 (zs:List ByteArray) (v x:ByteArray) (a0 a1:Int) (g cn:Nat) (A:Option Addr) (c B:Nat) (w:World) (hx:x=({ data:=#[113,117,111,116,105,101,110,116,115] }:ByteArray)) (hg:g<w.heap.size) (m0:w.cell? ⟨g,0,none⟩=some (.int .i64 a0)) (m1:w.cell? ⟨g,1,none⟩=some (.int .i64 a1)) (i0:I64 a0) (i1:I64 a1) (hsu:Zf zs=true) (hw:isW (L v)=true) (ho:Own w B 9 (.slice A zs.length c) (zs.map Value.string)) (hB:B≤w.heap.size) (htb:TB w) (hml:MlS w) :
  Calls Tryz.prog 64 #[.agg #[.slice A zs.length c,.string v],.string x,.slice (some ⟨g,0,none⟩) 2 cn] w fun e w'=>BnR B w (rlN zs v x [a0,a1]) e w':=by
 have hB2:=ho.lt
 have X0:=BX.new w A zs.length c v
 have hx4:=Zb hw
 obtain⟨w2,hw2⟩:∃ w2,(w.alloc (.cells #[.slice A zs.length c,.string v] 28)).alloc (.cells #[.slice none 0 0,.string { data:=#[] }] 28)=w2:=⟨_,rfl⟩
 rw[hw2] at X0
 have X1:=X0.dr
 obtain⟨c0,c1,d0,d1,f0,f1⟩:=X0.fs
 have hoX:=fun w' (X:BX w w' A zs.length c v)=>ho.below X.bel
 have hne:=ZF ho (g:=w.heap.size+1) (by omega)
 have HOX:=Hd hoX;have HNE:=Hd hne;have HTB:=Hd (fun w' (X:BX w w' A zs.length c v)=>htb.below X.bel)
 have HML:=Hd (fun w' (X:BX w w' A zs.length c v)=>hml.below X.bel)
 have HX0:=Hd X0;have HX1:=Hd X1
 have HRD:=Hd (fun w' (X:BX w w' A zs.length c v)=>(hoX w' X).reads)
 have l0:w2.cell? ⟨g,0,none⟩=some (.int .i64 a0):=(X0.bel.cell (p:=⟨g,0,none⟩) hg).trans m0
 have l1:w2.cell? ⟨g,1,none⟩=some (.int .i64 a1):=(X0.bel.cell (p:=⟨g,1,none⟩) hg).trans m1
 clear X0 hoX hne ho htb hml m0 m1
 have e8:(x.toList==[113,117,111,116,105,101,110,116,115])=true:=by rw[hx,ByteArray.toList_eq];rfl
 have e0:(x.toList==[103,114,111,119])=false:=by rw[hx,ByteArray.toList_eq];rfl
 have e1:(x.toList==[115,104,105,102,116])=false:=by rw[hx,ByteArray.toList_eq];rfl
 have e2:(x.toList==[115,101,108,102])=false:=by rw[hx,ByteArray.toList_eq];rfl
 have e3:(x.toList==[102,111,108,100])=false:=by rw[hx,ByteArray.toList_eq];rfl
 have e4:(x.toList==[115,108,111,112,101])=false:=by rw[hx,ByteArray.toList_eq];rfl
 have e5:(x.toList==[102,97,99,116,111,114,115])=false:=by rw[hx,ByteArray.toList_eq];rfl
 have e6:(x.toList==[110,117,109,98,101,114])=false:=by rw[hx,ByteArray.toList_eq];rfl
 have e7:(x.toList==[103,111,108,100])=false:=by rw[hx,ByteArray.toList_eq];rfl
 have e9:(x.toList==[103,97,112,115])=false:=by rw[hx,ByteArray.toList_eq];rfl
 have hv:rlN zs v x [a0,a1]=(zs,v,lsS (quV a0 a1)):=by rw[hx];rfl
 have hcl:=Zhn a0 a1 w2.drew
 obtain⟨o,ho⟩:∃ o,quV a0 a1=o:=⟨_,rfl⟩
 have hz1:∀ z∈quV a0 a1,I64 z:=(Y0 a0 a1).2
 have hz2:(quV a0 a1).length≤9223372036854775807:=(by have:=(Y0 a0 a1).1;omega)
 rw[ho] at hv hcl hz1 hz2
 have hls:=fun A2 c2 w' (r:Rds w' w'.heap.size A2 (o.map (Value.int .i64))) t=>Xj o A2 c2 w'.heap.size w' nlr hz1 r hz2 t
 obtain⟨s,hs⟩:∃ s,lsS o=s:=⟨_,rfl⟩
 rw[hs] at hv hls
 have HCL:=Hd hcl;have HV:=Hd hv;have HLS:=Hd hls
 clear hcl hv hls hs ho hz1 hz2 hsu hw hx hg
 go_enter Tryz.func64,Tryz.ntmps64
 go_wp2_with fail
 clear hw2
 go_region_with (first|(go_at_call 136;refine HCL.o.mono ?_;rintro e w4 ⟨A4,c4,rfl,o4,b4⟩;have X4:=HX1.o.step b4;obtain⟨c0,c1,d0,d1,f0,f1⟩:=X4.fs;have O4:=Hd o4;clear o4)|(go_at_call 135;refine (HLS.o A4 c4 w4 O4.out.reads (HTB.o _ X4)).mono ?_;rintro e w5 ⟨rfl,b5⟩;have X5:=X4.step b5;obtain⟨c0,c1,d0,d1,f0,f1⟩:=X5.fs))
 all_goals
  go_wp2_with fail
  refine bodyPost_ret (Za rfl _ _ (w.heap.size+1) 28 _ (0,0) _ rfl (X5.row _ _) Tryz.underlying28 rfl (by kernel_rfl)) rfl ?_
  have hO:=(HOX.o _ X5).far2 (.inr ⟨by rw[X5.r1];simp,HNE.o⟩) (.slice A zs.length c) (.string v)
  rw[HV.o]
  exact⟨A,c,rfl,hO,X5.fin _ _⟩
end Go.Proofs.YtocbgldilgemoaaGreatDoor
