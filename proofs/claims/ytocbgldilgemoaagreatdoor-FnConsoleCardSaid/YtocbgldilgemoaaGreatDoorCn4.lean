/- Lines of a name and numbers of the program's console. Asks the shelf's text. No condition but the bounds. -/
import Derived.Test.YtocbgldilgemoaaGreatDoorCnh
namespace Go.Proofs.YtocbgldilgemoaaGreatDoor
set_option maxRecDepth 8000
set_option maxHeartbeats 8000000
open Go.RowKit
set_option linter.unusedVariables false
theorem Zbr (zs:List ByteArray) (v x:ByteArray) (a0:Int) (g cn:Nat) (A:Option Addr) (c B:Nat) (w:World) (hx:x=({ data:=#[103,114,111,119] }:ByteArray)) (hg:g<w.heap.size) (m0:w.cell? ⟨g,0,none⟩=some (.int .i64 a0)) (i0:I64 a0) (hsu:Zf zs=true) (hw:isW (L v)=true) (ho:Own w B 9 (.slice A zs.length c) (zs.map Value.string)) (hB:B≤w.heap.size) (htb:TB w) (hml:MlS w) :
  Calls Tryz.prog 64 #[.agg #[.slice A zs.length c,.string v],.string x,.slice (some ⟨g,0,none⟩) 1 cn] w fun e w'=>BnR B w (rlN zs v x [a0]) e w':=by
 have hB2:=ho.lt
 have X0:=BX.new w A zs.length c v
 have hx4:=Zb hw
 obtain⟨w2,hw2⟩:∃ w2,(w.alloc (.cells #[.slice A zs.length c,.string v] 28)).alloc (.cells #[.slice none 0 0,.string { data:=#[] }] 28)=w2:=⟨_,rfl⟩
 rw[hw2] at X0
 have X1:=X0.dr
 obtain⟨c0,c1,d0,d1,f0,f1⟩:=X0.fs
 have hoX:=fun w' (X:BX w w' A zs.length c v)=>ho.below X.bel
 have hne:=ZF ho (g:=w.heap.size+1) (by omega)
 have HOX:=Hd hoX;have HNE:=Hd hne;have HTB:=Hd (fun w' (X:BX w w' A zs.length c v)=>htb.below X.bel)
 have HML:=Hd (fun w' (X:BX w w' A zs.length c v)=>hml.below X.bel)
 have HX0:=Hd X0;have HX1:=Hd X1
 have HRD:=Hd (fun w' (X:BX w w' A zs.length c v)=>(hoX w' X).reads)
 have l0:w2.cell? ⟨g,0,none⟩=some (.int .i64 a0):=(X0.bel.cell (p:=⟨g,0,none⟩) hg).trans m0
 clear X0 hoX hne ho htb hml m0
 have e0:(x.toList==[103,114,111,119])=true:=by rw[hx,ByteArray.toList_eq];rfl
 have e1:(x.toList==[115,104,105,102,116])=false:=by rw[hx,ByteArray.toList_eq];rfl
 have e2:(x.toList==[115,101,108,102])=false:=by rw[hx,ByteArray.toList_eq];rfl
 have e3:(x.toList==[102,111,108,100])=false:=by rw[hx,ByteArray.toList_eq];rfl
 have e4:(x.toList==[115,108,111,112,101])=false:=by rw[hx,ByteArray.toList_eq];rfl
 have e5:(x.toList==[102,97,99,116,111,114,115])=false:=by rw[hx,ByteArray.toList_eq];rfl
 have e6:(x.toList==[110,117,109,98,101,114])=false:=by rw[hx,ByteArray.toList_eq];rfl
 have e7:(x.toList==[103,111,108,100])=false:=by rw[hx,ByteArray.toList_eq];rfl
 have e8:(x.toList==[113,117,111,116,105,101,110,116,115])=false:=by rw[hx,ByteArray.toList_eq];rfl
 have e9:(x.toList==[103,97,112,115])=false:=by rw[hx,ByteArray.toList_eq];rfl
 have hv:rlN zs v x [a0]=ZG zs v (itV zs v a0):=by rw[hx];rfl
 have hcl:=ZaO zs A c _ v a0 w2.drew hsu hw (HRD.o _ HX1.o) nlr
 have hsz:∀ u,itV zs v a0=some u→u.size≤maxLen:=fun u h=>V5 h
 obtain⟨o,ho⟩:∃ o,itV zs v a0=o:=⟨_,rfl⟩
 rw[ho] at hv hcl hsz
 have hww:=fun w'=>ZN zs v o A c w' hsz
 have hr1:=QI zs v o
 obtain⟨r,hr⟩:∃ r,ZG zs v o=r:=⟨_,rfl⟩
 rw[hr] at hv hr1
 simp only[hr] at hww
 unfold okS at hcl
 have HCL:=Hd hcl;have HV:=Hd hv;have HWW:=Hd hww;have HR1:=Hd hr1
 clear hcl hv hww hr1 hr ho hsz hsu hw hx hg
 go_enter Tryz.func64,Tryz.ntmps64
 go_wp2_with fail
 clear hw2
 go_region_with (first|(go_at_call 127;refine HCL.o.mono ?_;rintro e w4 ⟨rfl,b4⟩;have X4:=HX1.o.step b4;obtain⟨c0,c1,d0,d1,f0,f1⟩:=X4.fs)|(go_at_call 61;refine (HWW.o _).mono ?_;rintro e w5 ⟨rfl,b5⟩;have X5:=X4.step b5;obtain⟨c0,c1,d0,d1,f0,f1⟩:=X5.fs))
 all_goals
  go_wp2_with fail
  refine bodyPost_ret (Za rfl _ _ (w.heap.size+1) 28 _ (0,0) _ rfl (X5.row _ _) Tryz.underlying28 rfl (by kernel_rfl)) rfl ?_
  have hO:=(HOX.o _ X5).far2 (.inr ⟨by rw[X5.r1];simp,HNE.o⟩) (.slice A zs.length c) (.string r.2.1)
  rw[HV.o]
  exact⟨A,c,by rw[HR1.o];rfl,by rw[HR1.o];exact hO,X5.fin _ _⟩
theorem Zag (zs:List ByteArray) (v x:ByteArray) (a0:Int) (g cn:Nat) (A:Option Addr) (c B:Nat) (w:World) (hx:x=({ data:=#[115,104,105,102,116] }:ByteArray)) (hg:g<w.heap.size) (m0:w.cell? ⟨g,0,none⟩=some (.int .i64 a0)) (i0:I64 a0) (hsu:Zf zs=true) (hw:isW (L v)=true) (ho:Own w B 9 (.slice A zs.length c) (zs.map Value.string)) (hB:B≤w.heap.size) (htb:TB w) (hml:MlS w) :
  Calls Tryz.prog 64 #[.agg #[.slice A zs.length c,.string v],.string x,.slice (some ⟨g,0,none⟩) 1 cn] w fun e w'=>BnR B w (rlN zs v x [a0]) e w':=by
 have hB2:=ho.lt
 have X0:=BX.new w A zs.length c v
 have hx4:=Zb hw
 obtain⟨w2,hw2⟩:∃ w2,(w.alloc (.cells #[.slice A zs.length c,.string v] 28)).alloc (.cells #[.slice none 0 0,.string { data:=#[] }] 28)=w2:=⟨_,rfl⟩
 rw[hw2] at X0
 have X1:=X0.dr
 obtain⟨c0,c1,d0,d1,f0,f1⟩:=X0.fs
 have hoX:=fun w' (X:BX w w' A zs.length c v)=>ho.below X.bel
 have hne:=ZF ho (g:=w.heap.size+1) (by omega)
 have HOX:=Hd hoX;have HNE:=Hd hne;have HTB:=Hd (fun w' (X:BX w w' A zs.length c v)=>htb.below X.bel)
 have HML:=Hd (fun w' (X:BX w w' A zs.length c v)=>hml.below X.bel)
 have HX0:=Hd X0;have HX1:=Hd X1
 have HRD:=Hd (fun w' (X:BX w w' A zs.length c v)=>(hoX w' X).reads)
 have l0:w2.cell? ⟨g,0,none⟩=some (.int .i64 a0):=(X0.bel.cell (p:=⟨g,0,none⟩) hg).trans m0
 clear X0 hoX hne ho htb hml m0
 have e1:(x.toList==[115,104,105,102,116])=true:=by rw[hx,ByteArray.toList_eq];rfl
 have e0:(x.toList==[103,114,111,119])=false:=by rw[hx,ByteArray.toList_eq];rfl
 have e2:(x.toList==[115,101,108,102])=false:=by rw[hx,ByteArray.toList_eq];rfl
 have e3:(x.toList==[102,111,108,100])=false:=by rw[hx,ByteArray.toList_eq];rfl
 have e4:(x.toList==[115,108,111,112,101])=false:=by rw[hx,ByteArray.toList_eq];rfl
 have e5:(x.toList==[102,97,99,116,111,114,115])=false:=by rw[hx,ByteArray.toList_eq];rfl
 have e6:(x.toList==[110,117,109,98,101,114])=false:=by rw[hx,ByteArray.toList_eq];rfl
 have e7:(x.toList==[103,111,108,100])=false:=by rw[hx,ByteArray.toList_eq];rfl
 have e8:(x.toList==[113,117,111,116,105,101,110,116,115])=false:=by rw[hx,ByteArray.toList_eq];rfl
 have e9:(x.toList==[103,97,112,115])=false:=by rw[hx,ByteArray.toList_eq];rfl
 have hv:rlN zs v x [a0]=ZG zs v (some (shW v a0)):=by rw[hx];rfl
 have hcl:=Zd5 v a0 hw w2.drew
 have hsz:(shW v a0).size≤maxLen:=ZcQ hw
 obtain⟨o,ho⟩:∃ o,shW v a0=o:=⟨_,rfl⟩
 rw[ho] at hv hcl hsz
 have hww:=fun w'=>ZN zs v (some o) A c w' (fun u h=>by injection h with h;rw[← h];exact hsz)
 have hr1:=QI zs v (some o)
 obtain⟨r,hr⟩:∃ r,ZG zs v (some o)=r:=⟨_,rfl⟩
 rw[hr] at hv hr1
 simp only[hr,Option.getD_some,Option.isSome_some] at hww
 have HCL:=Hd hcl;have HV:=Hd hv;have HWW:=Hd hww;have HR1:=Hd hr1
 clear hcl hv hww hr1 hr ho hsz hsu hw hx hg
 go_enter Tryz.func64,Tryz.ntmps64
 go_wp2_with fail
 clear hw2
 go_region_with (first|(go_at_call 128;refine HCL.o.mono ?_;rintro e w4 ⟨rfl,b4⟩;have X4:=HX1.o.step b4;obtain⟨c0,c1,d0,d1,f0,f1⟩:=X4.fs)|(go_at_call 61;refine (HWW.o _).mono ?_;rintro e w5 ⟨rfl,b5⟩;have X5:=X4.step b5;obtain⟨c0,c1,d0,d1,f0,f1⟩:=X5.fs))
 all_goals
  go_wp2_with fail
  refine bodyPost_ret (Za rfl _ _ (w.heap.size+1) 28 _ (0,0) _ rfl (X5.row _ _) Tryz.underlying28 rfl (by kernel_rfl)) rfl ?_
  have hO:=(HOX.o _ X5).far2 (.inr ⟨by rw[X5.r1];simp,HNE.o⟩) (.slice A zs.length c) (.string r.2.1)
  rw[HV.o]
  exact⟨A,c,by rw[HR1.o];rfl,by rw[HR1.o];exact hO,X5.fin _ _⟩
theorem Zbs (zs:List ByteArray) (v x:ByteArray) (a0:Int) (g cn:Nat) (A:Option Addr) (c B:Nat) (w:World) (hx:x=({ data:=#[115,101,108,102] }:ByteArray)) (hg:g<w.heap.size) (m0:w.cell? ⟨g,0,none⟩=some (.int .i64 a0)) (i0:I64 a0) (hsu:Zf zs=true) (hw:isW (L v)=true) (ho:Own w B 9 (.slice A zs.length c) (zs.map Value.string)) (hB:B≤w.heap.size) (htb:TB w) (hml:MlS w) :
  Calls Tryz.prog 64 #[.agg #[.slice A zs.length c,.string v],.string x,.slice (some ⟨g,0,none⟩) 1 cn] w fun e w'=>BnR B w (rlN zs v x [a0]) e w':=by
 have hB2:=ho.lt
 have X0:=BX.new w A zs.length c v
 have hx4:=Zb hw
 obtain⟨w2,hw2⟩:∃ w2,(w.alloc (.cells #[.slice A zs.length c,.string v] 28)).alloc (.cells #[.slice none 0 0,.string { data:=#[] }] 28)=w2:=⟨_,rfl⟩
 rw[hw2] at X0
 have X1:=X0.dr
 obtain⟨c0,c1,d0,d1,f0,f1⟩:=X0.fs
 have hoX:=fun w' (X:BX w w' A zs.length c v)=>ho.below X.bel
 have hne:=ZF ho (g:=w.heap.size+1) (by omega)
 have HOX:=Hd hoX;have HNE:=Hd hne;have HTB:=Hd (fun w' (X:BX w w' A zs.length c v)=>htb.below X.bel)
 have HML:=Hd (fun w' (X:BX w w' A zs.length c v)=>hml.below X.bel)
 have HX0:=Hd X0;have HX1:=Hd X1
 have HRD:=Hd (fun w' (X:BX w w' A zs.length c v)=>(hoX w' X).reads)
 have l0:w2.cell? ⟨g,0,none⟩=some (.int .i64 a0):=(X0.bel.cell (p:=⟨g,0,none⟩) hg).trans m0
 clear X0 hoX hne ho htb hml m0
 have e2:(x.toList==[115,101,108,102])=true:=by rw[hx,ByteArray.toList_eq];rfl
 have e0:(x.toList==[103,114,111,119])=false:=by rw[hx,ByteArray.toList_eq];rfl
 have e1:(x.toList==[115,104,105,102,116])=false:=by rw[hx,ByteArray.toList_eq];rfl
 have e3:(x.toList==[102,111,108,100])=false:=by rw[hx,ByteArray.toList_eq];rfl
 have e4:(x.toList==[115,108,111,112,101])=false:=by rw[hx,ByteArray.toList_eq];rfl
 have e5:(x.toList==[102,97,99,116,111,114,115])=false:=by rw[hx,ByteArray.toList_eq];rfl
 have e6:(x.toList==[110,117,109,98,101,114])=false:=by rw[hx,ByteArray.toList_eq];rfl
 have e7:(x.toList==[103,111,108,100])=false:=by rw[hx,ByteArray.toList_eq];rfl
 have e8:(x.toList==[113,117,111,116,105,101,110,116,115])=false:=by rw[hx,ByteArray.toList_eq];rfl
 have e9:(x.toList==[103,97,112,115])=false:=by rw[hx,ByteArray.toList_eq];rfl
 have hv:rlN zs v x [a0]=ZG zs v (sgV a0):=by rw[hx];rfl
 have hcl:=Zhz a0 w2.drew
 have hsz:∀ u,sgV a0=some u→u.size≤maxLen:=fun u h=>ZcN h
 obtain⟨o,ho⟩:∃ o,sgV a0=o:=⟨_,rfl⟩
 rw[ho] at hv hcl hsz
 have hww:=fun w'=>ZN zs v o A c w' hsz
 have hr1:=QI zs v o
 obtain⟨r,hr⟩:∃ r,ZG zs v o=r:=⟨_,rfl⟩
 rw[hr] at hv hr1
 simp only[hr] at hww
 have HCL:=Hd hcl;have HV:=Hd hv;have HWW:=Hd hww;have HR1:=Hd hr1
 clear hcl hv hww hr1 hr ho hsz hsu hw hx hg
 go_enter Tryz.func64,Tryz.ntmps64
 go_wp2_with fail
 clear hw2
 go_region_with (first|(go_at_call 129;refine HCL.o.mono ?_;rintro e w4 ⟨rfl,b4⟩;have X4:=HX1.o.step b4;obtain⟨c0,c1,d0,d1,f0,f1⟩:=X4.fs)|(go_at_call 61;refine (HWW.o _).mono ?_;rintro e w5 ⟨rfl,b5⟩;have X5:=X4.step b5;obtain⟨c0,c1,d0,d1,f0,f1⟩:=X5.fs))
 all_goals
  go_wp2_with fail
  refine bodyPost_ret (Za rfl _ _ (w.heap.size+1) 28 _ (0,0) _ rfl (X5.row _ _) Tryz.underlying28 rfl (by kernel_rfl)) rfl ?_
  have hO:=(HOX.o _ X5).far2 (.inr ⟨by rw[X5.r1];simp,HNE.o⟩) (.slice A zs.length c) (.string r.2.1)
  rw[HV.o]
  exact⟨A,c,by rw[HR1.o];rfl,by rw[HR1.o];exact hO,X5.fin _ _⟩
theorem Zbt (zs:List ByteArray) (v x:ByteArray) (a0:Int) (g cn:Nat) (A:Option Addr) (c B:Nat) (w:World) (hx:x=({ data:=#[102,111,108,100] }:ByteArray)) (hg:g<w.heap.size) (m0:w.cell? ⟨g,0,none⟩=some (.int .i64 a0)) (i0:I64 a0) (hsu:Zf zs=true) (hw:isW (L v)=true) (ho:Own w B 9 (.slice A zs.length c) (zs.map Value.string)) (hB:B≤w.heap.size) (htb:TB w) (hml:MlS w) :
  Calls Tryz.prog 64 #[.agg #[.slice A zs.length c,.string v],.string x,.slice (some ⟨g,0,none⟩) 1 cn] w fun e w'=>BnR B w (rlN zs v x [a0]) e w':=by
 have hB2:=ho.lt
 have X0:=BX.new w A zs.length c v
 have hx4:=Zb hw
 obtain⟨w2,hw2⟩:∃ w2,(w.alloc (.cells #[.slice A zs.length c,.string v] 28)).alloc (.cells #[.slice none 0 0,.string { data:=#[] }] 28)=w2:=⟨_,rfl⟩
 rw[hw2] at X0
 have X1:=X0.dr
 obtain⟨c0,c1,d0,d1,f0,f1⟩:=X0.fs
 have hoX:=fun w' (X:BX w w' A zs.length c v)=>ho.below X.bel
 have hne:=ZF ho (g:=w.heap.size+1) (by omega)
 have HOX:=Hd hoX;have HNE:=Hd hne;have HTB:=Hd (fun w' (X:BX w w' A zs.length c v)=>htb.below X.bel)
 have HML:=Hd (fun w' (X:BX w w' A zs.length c v)=>hml.below X.bel)
 have HX0:=Hd X0;have HX1:=Hd X1
 have HRD:=Hd (fun w' (X:BX w w' A zs.length c v)=>(hoX w' X).reads)
 have l0:w2.cell? ⟨g,0,none⟩=some (.int .i64 a0):=(X0.bel.cell (p:=⟨g,0,none⟩) hg).trans m0
 clear X0 hoX hne ho htb hml m0
 have e3:(x.toList==[102,111,108,100])=true:=by rw[hx,ByteArray.toList_eq];rfl
 have e0:(x.toList==[103,114,111,119])=false:=by rw[hx,ByteArray.toList_eq];rfl
 have e1:(x.toList==[115,104,105,102,116])=false:=by rw[hx,ByteArray.toList_eq];rfl
 have e2:(x.toList==[115,101,108,102])=false:=by rw[hx,ByteArray.toList_eq];rfl
 have e4:(x.toList==[115,108,111,112,101])=false:=by rw[hx,ByteArray.toList_eq];rfl
 have e5:(x.toList==[102,97,99,116,111,114,115])=false:=by rw[hx,ByteArray.toList_eq];rfl
 have e6:(x.toList==[110,117,109,98,101,114])=false:=by rw[hx,ByteArray.toList_eq];rfl
 have e7:(x.toList==[103,111,108,100])=false:=by rw[hx,ByteArray.toList_eq];rfl
 have e8:(x.toList==[113,117,111,116,105,101,110,116,115])=false:=by rw[hx,ByteArray.toList_eq];rfl
 have e9:(x.toList==[103,97,112,115])=false:=by rw[hx,ByteArray.toList_eq];rfl
 have hv:rlN zs v x [a0]=ZG zs v (fdV a0):=by rw[hx];rfl
 have hcl:=ZgO a0 w2.drew (HML.o _ HX1.o)
 have hsz:∀ u,fdV a0=some u→u.size≤maxLen:=fun u h=>ZcO h
 obtain⟨o,ho⟩:∃ o,fdV a0=o:=⟨_,rfl⟩
 rw[ho] at hv hcl hsz
 have hww:=fun w'=>ZN zs v o A c w' hsz
 have hr1:=QI zs v o
 obtain⟨r,hr⟩:∃ r,ZG zs v o=r:=⟨_,rfl⟩
 rw[hr] at hv hr1
 simp only[hr] at hww
 unfold okS at hcl
 have HCL:=Hd hcl;have HV:=Hd hv;have HWW:=Hd hww;have HR1:=Hd hr1
 clear hcl hv hww hr1 hr ho hsz hsu hw hx hg
 go_enter Tryz.func64,Tryz.ntmps64
 go_wp2_with fail
 clear hw2
 go_region_with (first|(go_at_call 130;refine HCL.o.mono ?_;rintro e w4 ⟨rfl,b4⟩;have X4:=HX1.o.step b4;obtain⟨c0,c1,d0,d1,f0,f1⟩:=X4.fs)|(go_at_call 61;refine (HWW.o _).mono ?_;rintro e w5 ⟨rfl,b5⟩;have X5:=X4.step b5;obtain⟨c0,c1,d0,d1,f0,f1⟩:=X5.fs))
 all_goals
  go_wp2_with fail
  refine bodyPost_ret (Za rfl _ _ (w.heap.size+1) 28 _ (0,0) _ rfl (X5.row _ _) Tryz.underlying28 rfl (by kernel_rfl)) rfl ?_
  have hO:=(HOX.o _ X5).far2 (.inr ⟨by rw[X5.r1];simp,HNE.o⟩) (.slice A zs.length c) (.string r.2.1)
  rw[HV.o]
  exact⟨A,c,by rw[HR1.o];rfl,by rw[HR1.o];exact hO,X5.fin _ _⟩
theorem Xq (zs:List ByteArray) (v x:ByteArray) (a0:Int) (g cn:Nat) (A:Option Addr) (c B:Nat) (w:World) (hx:x=({ data:=#[102,97,99,116,111,114,115] }:ByteArray)) (hg:g<w.heap.size) (m0:w.cell? ⟨g,0,none⟩=some (.int .i64 a0)) (i0:I64 a0) (hsu:Zf zs=true) (hw:isW (L v)=true) (ho:Own w B 9 (.slice A zs.length c) (zs.map Value.string)) (hB:B≤w.heap.size) (htb:TB w) (hml:MlS w) :
  Calls Tryz.prog 64 #[.agg #[.slice A zs.length c,.string v],.string x,.slice (some ⟨g,0,none⟩) 1 cn] w fun e w'=>BnR B w (rlN zs v x [a0]) e w':=by
 have hB2:=ho.lt
 have X0:=BX.new w A zs.length c v
 have hx4:=Zb hw
 obtain⟨w2,hw2⟩:∃ w2,(w.alloc (.cells #[.slice A zs.length c,.string v] 28)).alloc (.cells #[.slice none 0 0,.string { data:=#[] }] 28)=w2:=⟨_,rfl⟩
 rw[hw2] at X0
 have X1:=X0.dr
 obtain⟨c0,c1,d0,d1,f0,f1⟩:=X0.fs
 have hoX:=fun w' (X:BX w w' A zs.length c v)=>ho.below X.bel
 have hne:=ZF ho (g:=w.heap.size+1) (by omega)
 have HOX:=Hd hoX;have HNE:=Hd hne;have HTB:=Hd (fun w' (X:BX w w' A zs.length c v)=>htb.below X.bel)
 have HML:=Hd (fun w' (X:BX w w' A zs.length c v)=>hml.below X.bel)
 have HX0:=Hd X0;have HX1:=Hd X1
 have HRD:=Hd (fun w' (X:BX w w' A zs.length c v)=>(hoX w' X).reads)
 have l0:w2.cell? ⟨g,0,none⟩=some (.int .i64 a0):=(X0.bel.cell (p:=⟨g,0,none⟩) hg).trans m0
 clear X0 hoX hne ho htb hml m0
 have e5:(x.toList==[102,97,99,116,111,114,115])=true:=by rw[hx,ByteArray.toList_eq];rfl
 have e0:(x.toList==[103,114,111,119])=false:=by rw[hx,ByteArray.toList_eq];rfl
 have e1:(x.toList==[115,104,105,102,116])=false:=by rw[hx,ByteArray.toList_eq];rfl
 have e2:(x.toList==[115,101,108,102])=false:=by rw[hx,ByteArray.toList_eq];rfl
 have e3:(x.toList==[102,111,108,100])=false:=by rw[hx,ByteArray.toList_eq];rfl
 have e4:(x.toList==[115,108,111,112,101])=false:=by rw[hx,ByteArray.toList_eq];rfl
 have e6:(x.toList==[110,117,109,98,101,114])=false:=by rw[hx,ByteArray.toList_eq];rfl
 have e7:(x.toList==[103,111,108,100])=false:=by rw[hx,ByteArray.toList_eq];rfl
 have e8:(x.toList==[113,117,111,116,105,101,110,116,115])=false:=by rw[hx,ByteArray.toList_eq];rfl
 have e9:(x.toList==[103,97,112,115])=false:=by rw[hx,ByteArray.toList_eq];rfl
 have hv:rlN zs v x [a0]=(zs,v,VG v a0):=by rw[hx];rfl
 have hcl:=Zh1 v a0 (by unfold maxLen;omega) w2.drew (HTB.o _ HX1.o)
 obtain⟨o,ho⟩:∃ o,VG v a0=o:=⟨_,rfl⟩
 rw[ho] at hv hcl
 have HCL:=Hd hcl;have HV:=Hd hv
 clear hcl hv ho hsu hw hx hg
 go_enter Tryz.func64,Tryz.ntmps64
 go_wp2_with fail
 clear hw2
 go_region_with (go_at_call 132;refine HCL.o.mono ?_;rintro e w4 ⟨rfl,b4⟩;have X5:=HX1.o.step b4;obtain⟨c0,c1,d0,d1,f0,f1⟩:=X5.fs)
 all_goals
  go_wp2_with fail
  refine bodyPost_ret (Za rfl _ _ (w.heap.size+1) 28 _ (0,0) _ rfl (X5.row _ _) Tryz.underlying28 rfl (by kernel_rfl)) rfl ?_
  have hO:=(HOX.o _ X5).far2 (.inr ⟨by rw[X5.r1];simp,HNE.o⟩) (.slice A zs.length c) (.string v)
  rw[HV.o]
  exact⟨A,c,rfl,hO,X5.fin _ _⟩
theorem Wb (zs:List ByteArray) (v x:ByteArray) (a0:Int) (g cn:Nat) (A:Option Addr) (c B:Nat) (w:World) (hx:x=({ data:=#[110,117,109,98,101,114] }:ByteArray)) (hg:g<w.heap.size) (m0:w.cell? ⟨g,0,none⟩=some (.int .i64 a0)) (i0:I64 a0) (hsu:Zf zs=true) (hw:isW (L v)=true) (ho:Own w B 9 (.slice A zs.length c) (zs.map Value.string)) (hB:B≤w.heap.size) (htb:TB w) (hml:MlS w) :
  Calls Tryz.prog 64 #[.agg #[.slice A zs.length c,.string v],.string x,.slice (some ⟨g,0,none⟩) 1 cn] w fun e w'=>BnR B w (rlN zs v x [a0]) e w':=by
 have hB2:=ho.lt
 have X0:=BX.new w A zs.length c v
 have hx4:=Zb hw
 obtain⟨w2,hw2⟩:∃ w2,(w.alloc (.cells #[.slice A zs.length c,.string v] 28)).alloc (.cells #[.slice none 0 0,.string { data:=#[] }] 28)=w2:=⟨_,rfl⟩
 rw[hw2] at X0
 have X1:=X0.dr
 obtain⟨c0,c1,d0,d1,f0,f1⟩:=X0.fs
 have hoX:=fun w' (X:BX w w' A zs.length c v)=>ho.below X.bel
 have hne:=ZF ho (g:=w.heap.size+1) (by omega)
 have HOX:=Hd hoX;have HNE:=Hd hne;have HTB:=Hd (fun w' (X:BX w w' A zs.length c v)=>htb.below X.bel)
 have HML:=Hd (fun w' (X:BX w w' A zs.length c v)=>hml.below X.bel)
 have HX0:=Hd X0;have HX1:=Hd X1
 have HRD:=Hd (fun w' (X:BX w w' A zs.length c v)=>(hoX w' X).reads)
 have l0:w2.cell? ⟨g,0,none⟩=some (.int .i64 a0):=(X0.bel.cell (p:=⟨g,0,none⟩) hg).trans m0
 clear X0 hoX hne ho htb hml m0
 have e6:(x.toList==[110,117,109,98,101,114])=true:=by rw[hx,ByteArray.toList_eq];rfl
 have e0:(x.toList==[103,114,111,119])=false:=by rw[hx,ByteArray.toList_eq];rfl
 have e1:(x.toList==[115,104,105,102,116])=false:=by rw[hx,ByteArray.toList_eq];rfl
 have e2:(x.toList==[115,101,108,102])=false:=by rw[hx,ByteArray.toList_eq];rfl
 have e3:(x.toList==[102,111,108,100])=false:=by rw[hx,ByteArray.toList_eq];rfl
 have e4:(x.toList==[115,108,111,112,101])=false:=by rw[hx,ByteArray.toList_eq];rfl
 have e5:(x.toList==[102,97,99,116,111,114,115])=false:=by rw[hx,ByteArray.toList_eq];rfl
 have e7:(x.toList==[103,111,108,100])=false:=by rw[hx,ByteArray.toList_eq];rfl
 have e8:(x.toList==[113,117,111,116,105,101,110,116,115])=false:=by rw[hx,ByteArray.toList_eq];rfl
 have e9:(x.toList==[103,97,112,115])=false:=by rw[hx,ByteArray.toList_eq];rfl
 have hv:rlN zs v x [a0]=(zs,v,JR a0):=by rw[hx];rfl
 have hcl:=Zi7 a0 w2.drew (HTB.o _ HX1.o)
 obtain⟨o,ho⟩:∃ o,JR a0=o:=⟨_,rfl⟩
 rw[ho] at hv hcl
 have HCL:=Hd hcl;have HV:=Hd hv
 clear hcl hv ho hsu hw hx hg
 go_enter Tryz.func64,Tryz.ntmps64
 go_wp2_with fail
 clear hw2
 go_region_with (go_at_call 133;refine HCL.o.mono ?_;rintro e w4 ⟨rfl,b4⟩;have X5:=HX1.o.step b4;obtain⟨c0,c1,d0,d1,f0,f1⟩:=X5.fs)
 all_goals
  go_wp2_with fail
  refine bodyPost_ret (Za rfl _ _ (w.heap.size+1) 28 _ (0,0) _ rfl (X5.row _ _) Tryz.underlying28 rfl (by kernel_rfl)) rfl ?_
  have hO:=(HOX.o _ X5).far2 (.inr ⟨by rw[X5.r1];simp,HNE.o⟩) (.slice A zs.length c) (.string v)
  rw[HV.o]
  exact⟨A,c,rfl,hO,X5.fin _ _⟩
end Go.Proofs.YtocbgldilgemoaaGreatDoor
