/- Lines that change the word (the reference's). No condition but the bounds. -/
import Derived.Test.YtocbgldilgemoaaGreatDoorStl
import Derived.Test.YtocbgldilgemoaaGreatDoorRls
import Derived.Test.YtocbgldilgemoaaGreatDoorFdp
namespace Go.Proofs.YtocbgldilgemoaaGreatDoor
set_option maxRecDepth 8000
set_option maxHeartbeats 8000000
open Go.RowKit
set_option linter.unusedVariables false
theorem Zfu {x:ByteArray} (hx:x=({ data:=#[119,111,114,100] }:ByteArray)):(x.toList==[119,111,114,100])=true∧(x.toList==[100,101,114,105,118,101])=false∧(x.toList==[97,112,112,108,121])=false∧(x.toList==[112,97,114,101,110,116])=false∧(x.toList==[116,117,114,110])=false∧(x.toList==[99,108,111,115,101])=false∧(x.toList==[102,105,120,101,100])=false∧(x.toList==[103,114,111,119])=false∧(x.toList==[115,104,105,102,116])=false∧(x.toList==[115,101,108,102])=false∧(x.toList==[102,111,108,100])=false∧(x.toList==[115,108,111,112,101])=false:=by rw[hx,ByteArray.toList_eq];exact⟨rfl,rfl,rfl,rfl,rfl,rfl,rfl,rfl,rfl,rfl,rfl,rfl⟩
theorem Zfv {x:ByteArray} (hx:x=({ data:=#[100,101,114,105,118,101] }:ByteArray)):(x.toList==[119,111,114,100])=false∧(x.toList==[100,101,114,105,118,101])=true∧(x.toList==[97,112,112,108,121])=false∧(x.toList==[112,97,114,101,110,116])=false∧(x.toList==[116,117,114,110])=false∧(x.toList==[99,108,111,115,101])=false∧(x.toList==[102,105,120,101,100])=false∧(x.toList==[103,114,111,119])=false∧(x.toList==[115,104,105,102,116])=false∧(x.toList==[115,101,108,102])=false∧(x.toList==[102,111,108,100])=false∧(x.toList==[115,108,111,112,101])=false:=by rw[hx,ByteArray.toList_eq];exact⟨rfl,rfl,rfl,rfl,rfl,rfl,rfl,rfl,rfl,rfl,rfl,rfl⟩
theorem Zfw {x:ByteArray} (hx:x=({ data:=#[97,112,112,108,121] }:ByteArray)):(x.toList==[119,111,114,100])=false∧(x.toList==[100,101,114,105,118,101])=false∧(x.toList==[97,112,112,108,121])=true∧(x.toList==[112,97,114,101,110,116])=false∧(x.toList==[116,117,114,110])=false∧(x.toList==[99,108,111,115,101])=false∧(x.toList==[102,105,120,101,100])=false∧(x.toList==[103,114,111,119])=false∧(x.toList==[115,104,105,102,116])=false∧(x.toList==[115,101,108,102])=false∧(x.toList==[102,111,108,100])=false∧(x.toList==[115,108,111,112,101])=false:=by rw[hx,ByteArray.toList_eq];exact⟨rfl,rfl,rfl,rfl,rfl,rfl,rfl,rfl,rfl,rfl,rfl,rfl⟩
theorem Zfx {x:ByteArray} (hx:x=({ data:=#[112,97,114,101,110,116] }:ByteArray)):(x.toList==[119,111,114,100])=false∧(x.toList==[100,101,114,105,118,101])=false∧(x.toList==[97,112,112,108,121])=false∧(x.toList==[112,97,114,101,110,116])=true∧(x.toList==[116,117,114,110])=false∧(x.toList==[99,108,111,115,101])=false∧(x.toList==[102,105,120,101,100])=false∧(x.toList==[103,114,111,119])=false∧(x.toList==[115,104,105,102,116])=false∧(x.toList==[115,101,108,102])=false∧(x.toList==[102,111,108,100])=false∧(x.toList==[115,108,111,112,101])=false:=by rw[hx,ByteArray.toList_eq];exact⟨rfl,rfl,rfl,rfl,rfl,rfl,rfl,rfl,rfl,rfl,rfl,rfl⟩
theorem Zfy {x:ByteArray} (hx:x=({ data:=#[116,117,114,110] }:ByteArray)):(x.toList==[119,111,114,100])=false∧(x.toList==[100,101,114,105,118,101])=false∧(x.toList==[97,112,112,108,121])=false∧(x.toList==[112,97,114,101,110,116])=false∧(x.toList==[116,117,114,110])=true∧(x.toList==[99,108,111,115,101])=false∧(x.toList==[102,105,120,101,100])=false∧(x.toList==[103,114,111,119])=false∧(x.toList==[115,104,105,102,116])=false∧(x.toList==[115,101,108,102])=false∧(x.toList==[102,111,108,100])=false∧(x.toList==[115,108,111,112,101])=false:=by rw[hx,ByteArray.toList_eq];exact⟨rfl,rfl,rfl,rfl,rfl,rfl,rfl,rfl,rfl,rfl,rfl,rfl⟩
theorem Zfz {x:ByteArray} (hx:x=({ data:=#[99,108,111,115,101] }:ByteArray)):(x.toList==[119,111,114,100])=false∧(x.toList==[100,101,114,105,118,101])=false∧(x.toList==[97,112,112,108,121])=false∧(x.toList==[112,97,114,101,110,116])=false∧(x.toList==[116,117,114,110])=false∧(x.toList==[99,108,111,115,101])=true∧(x.toList==[102,105,120,101,100])=false∧(x.toList==[103,114,111,119])=false∧(x.toList==[115,104,105,102,116])=false∧(x.toList==[115,101,108,102])=false∧(x.toList==[102,111,108,100])=false∧(x.toList==[115,108,111,112,101])=false:=by rw[hx,ByteArray.toList_eq];exact⟨rfl,rfl,rfl,rfl,rfl,rfl,rfl,rfl,rfl,rfl,rfl,rfl⟩
theorem ZcY {x:ByteArray} (hx:x=({ data:=#[102,105,120,101,100] }:ByteArray)):(x.toList==[119,111,114,100])=false∧(x.toList==[100,101,114,105,118,101])=false∧(x.toList==[97,112,112,108,121])=false∧(x.toList==[112,97,114,101,110,116])=false∧(x.toList==[116,117,114,110])=false∧(x.toList==[99,108,111,115,101])=false∧(x.toList==[102,105,120,101,100])=true∧(x.toList==[103,114,111,119])=false∧(x.toList==[115,104,105,102,116])=false∧(x.toList==[115,101,108,102])=false∧(x.toList==[102,111,108,100])=false∧(x.toList==[115,108,111,112,101])=false:=by rw[hx,ByteArray.toList_eq];exact⟨rfl,rfl,rfl,rfl,rfl,rfl,rfl,rfl,rfl,rfl,rfl,rfl⟩
theorem Zh8 {x:ByteArray} (hx:x=({ data:=#[103,114,111,119] }:ByteArray)):(x.toList==[119,111,114,100])=false∧(x.toList==[100,101,114,105,118,101])=false∧(x.toList==[97,112,112,108,121])=false∧(x.toList==[112,97,114,101,110,116])=false∧(x.toList==[116,117,114,110])=false∧(x.toList==[99,108,111,115,101])=false∧(x.toList==[102,105,120,101,100])=false∧(x.toList==[103,114,111,119])=true∧(x.toList==[115,104,105,102,116])=false∧(x.toList==[115,101,108,102])=false∧(x.toList==[102,111,108,100])=false∧(x.toList==[115,108,111,112,101])=false:=by rw[hx,ByteArray.toList_eq];exact⟨rfl,rfl,rfl,rfl,rfl,rfl,rfl,rfl,rfl,rfl,rfl,rfl⟩
theorem Zh9 {x:ByteArray} (hx:x=({ data:=#[115,104,105,102,116] }:ByteArray)):(x.toList==[119,111,114,100])=false∧(x.toList==[100,101,114,105,118,101])=false∧(x.toList==[97,112,112,108,121])=false∧(x.toList==[112,97,114,101,110,116])=false∧(x.toList==[116,117,114,110])=false∧(x.toList==[99,108,111,115,101])=false∧(x.toList==[102,105,120,101,100])=false∧(x.toList==[103,114,111,119])=false∧(x.toList==[115,104,105,102,116])=true∧(x.toList==[115,101,108,102])=false∧(x.toList==[102,111,108,100])=false∧(x.toList==[115,108,111,112,101])=false:=by rw[hx,ByteArray.toList_eq];exact⟨rfl,rfl,rfl,rfl,rfl,rfl,rfl,rfl,rfl,rfl,rfl,rfl⟩
theorem Zia {x:ByteArray} (hx:x=({ data:=#[115,101,108,102] }:ByteArray)):(x.toList==[119,111,114,100])=false∧(x.toList==[100,101,114,105,118,101])=false∧(x.toList==[97,112,112,108,121])=false∧(x.toList==[112,97,114,101,110,116])=false∧(x.toList==[116,117,114,110])=false∧(x.toList==[99,108,111,115,101])=false∧(x.toList==[102,105,120,101,100])=false∧(x.toList==[103,114,111,119])=false∧(x.toList==[115,104,105,102,116])=false∧(x.toList==[115,101,108,102])=true∧(x.toList==[102,111,108,100])=false∧(x.toList==[115,108,111,112,101])=false:=by rw[hx,ByteArray.toList_eq];exact⟨rfl,rfl,rfl,rfl,rfl,rfl,rfl,rfl,rfl,rfl,rfl,rfl⟩
theorem ZeB {x:ByteArray} (hx:x=({ data:=#[102,111,108,100] }:ByteArray)):(x.toList==[119,111,114,100])=false∧(x.toList==[100,101,114,105,118,101])=false∧(x.toList==[97,112,112,108,121])=false∧(x.toList==[112,97,114,101,110,116])=false∧(x.toList==[116,117,114,110])=false∧(x.toList==[99,108,111,115,101])=false∧(x.toList==[102,105,120,101,100])=false∧(x.toList==[103,114,111,119])=false∧(x.toList==[115,104,105,102,116])=false∧(x.toList==[115,101,108,102])=false∧(x.toList==[102,111,108,100])=true∧(x.toList==[115,108,111,112,101])=false:=by rw[hx,ByteArray.toList_eq];exact⟨rfl,rfl,rfl,rfl,rfl,rfl,rfl,rfl,rfl,rfl,rfl,rfl⟩
theorem ZeC {x:ByteArray} (hx:x=({ data:=#[115,108,111,112,101] }:ByteArray)):(x.toList==[119,111,114,100])=false∧(x.toList==[100,101,114,105,118,101])=false∧(x.toList==[97,112,112,108,121])=false∧(x.toList==[112,97,114,101,110,116])=false∧(x.toList==[116,117,114,110])=false∧(x.toList==[99,108,111,115,101])=false∧(x.toList==[102,105,120,101,100])=false∧(x.toList==[103,114,111,119])=false∧(x.toList==[115,104,105,102,116])=false∧(x.toList==[115,101,108,102])=false∧(x.toList==[102,111,108,100])=false∧(x.toList==[115,108,111,112,101])=true:=by rw[hx,ByteArray.toList_eq];exact⟨rfl,rfl,rfl,rfl,rfl,rfl,rfl,rfl,rfl,rfl,rfl,rfl⟩
theorem Zkl (zs:List ByteArray) (v:ByteArray) (gl cl:Nat) (A:Option Addr) (c B:Nat) (w:World) (x t:ByteArray) (hx:x=({ data:=#[119,111,114,100] }:ByteArray)) (hts:t.size≤1048576) (hsu:Zf zs=true) (hw:isW (L v)=true) (q:StrAt w gl cl ([x,t])) (ho:Own w B 9 (.slice A zs.length c) (zs.map Value.string)) (hB:B≤w.heap.size) :
  Calls Tryz.prog 42 #[.agg #[.slice A zs.length c,.string v],.slice (some ⟨gl,0,none⟩) 2 cl] w fun e w'=>e=.returned (.tuple #[.string (t),.bool (isW (L t)),.bool true])∧Below w.heap.size w w':=by
 have X0:=BO.new w A zs.length c v
 have hx4:=Zb hw
 obtain⟨hz4,hz⟩:=ZE hsu
 obtain⟨w2,hw2⟩:∃ w2,w.alloc (.cells #[.slice A zs.length c,.string v] 28)=w2:=⟨_,rfl⟩
 rw[hw2] at X0
 have c0:=X0.c0;have c1:=X0.c1
 have X1:=X0.dr
 have HX0:=Hd X0;have HX1:=Hd X1
 have HRD:=Hd (fun w' (X:BO w w' A zs.length c v)=>(ho.below X.bel).reads)
 have HQ:=Hd (fun w' (X:BO w w' A zs.length c v)=>q.below X.bel)
 obtain⟨e0,e1,e2,e3,e4,e5,e6,e7,e8,e9,e10,e11⟩:=Zfu hx
 have k0:=(HQ.o _ HX0.o).2.2.2 0 _ rfl
 have k1:=(HQ.o _ HX0.o).2.2.2 1 _ rfl
 have hcl:=fun w'=>Xm t (by unfold maxLen;omega) w'
 obtain⟨b,hb⟩:∃ b,isW (L t)=b:=⟨_,rfl⟩
 rw[hb]
 simp only[hb] at hcl
 have HCL:=Hd hcl
 clear hcl hb hts
 clear hx hsu hw q ho hz hx4 hz4 X0 X1
 go_enter Tryz.func42,Tryz.ntmps42
 go_wp2_with fail
 go_region_with (go_at_call 43;refine (HCL.o _).mono ?_;rintro e w4 ⟨rfl,rfl⟩;have B4:=Hd HX1.o.bel)
 all_goals
  go_wp2_with fail
  go_ret3
  exact⟨rfl,B4.out⟩
theorem ZgE (zs:List ByteArray) (v:ByteArray) (gl cl:Nat) (A:Option Addr) (c B:Nat) (w:World) (x t:ByteArray) (hx:x=({ data:=#[100,101,114,105,118,101] }:ByteArray)) (hts:t.size≤1048576) (hsu:Zf zs=true) (hw:isW (L v)=true) (q:StrAt w gl cl ([x,t])) (ho:Own w B 9 (.slice A zs.length c) (zs.map Value.string)) (hB:B≤w.heap.size) :
  Calls Tryz.prog 42 #[.agg #[.slice A zs.length c,.string v],.slice (some ⟨gl,0,none⟩) 2 cl] w fun e w'=>e=.returned (.tuple #[.string (drS v t),.bool (drB v t),.bool true])∧Below w.heap.size w w':=by
 have X0:=BO.new w A zs.length c v
 have hx4:=Zb hw
 obtain⟨hz4,hz⟩:=ZE hsu
 obtain⟨w2,hw2⟩:∃ w2,w.alloc (.cells #[.slice A zs.length c,.string v] 28)=w2:=⟨_,rfl⟩
 rw[hw2] at X0
 have c0:=X0.c0;have c1:=X0.c1
 have X1:=X0.dr
 have HX0:=Hd X0;have HX1:=Hd X1
 have HRD:=Hd (fun w' (X:BO w w' A zs.length c v)=>(ho.below X.bel).reads)
 have HQ:=Hd (fun w' (X:BO w w' A zs.length c v)=>q.below X.bel)
 obtain⟨e0,e1,e2,e3,e4,e5,e6,e7,e8,e9,e10,e11⟩:=Zfv hx
 have k0:=(HQ.o _ HX0.o).2.2.2 0 _ rfl
 have k1:=(HQ.o _ HX0.o).2.2.2 1 _ rfl
 have hcl:=fun w'=>QB v t (by unfold maxLen;omega) (by unfold maxLen;omega) w'
 obtain⟨b,hb⟩:∃ b,drB v t=b:=⟨_,rfl⟩
 obtain⟨u,hu⟩:∃ u,drS v t=u:=⟨_,rfl⟩
 rw[hb,hu]
 simp only[hb,hu] at hcl
 have HCL:=Hd hcl
 clear hcl hb hu hts
 clear hx hsu hw q ho hz hx4 hz4 X0 X1
 go_enter Tryz.func42,Tryz.ntmps42
 go_wp2_with fail
 go_region_with (go_at_call 93;refine (HCL.o _).mono ?_;rintro e w4 ⟨rfl,b4⟩;have X4:=HX1.o.step b4;have c0:=X4.c0;have c1:=X4.c1;have k0:=(HQ.o _ X4).2.2.2 0 _ rfl;have B4:=Hd X4.bel)
 all_goals
  go_wp2_with fail
  go_ret3
  exact⟨rfl,B4.out⟩
theorem Zib (zs:List ByteArray) (v:ByteArray) (gl cl:Nat) (A:Option Addr) (c B:Nat) (w:World) (x:ByteArray) (hx:x=({ data:=#[97,112,112,108,121] }:ByteArray)) (hsu:Zf zs=true) (hw:isW (L v)=true) (q:StrAt w gl cl ([x])) (ho:Own w B 9 (.slice A zs.length c) (zs.map Value.string)) (hB:B≤w.heap.size) :
  Calls Tryz.prog 42 #[.agg #[.slice A zs.length c,.string v],.slice (some ⟨gl,0,none⟩) 1 cl] w fun e w'=>e=.returned (.tuple #[.string ((okW (itV zs v 1)).1),.bool ((okW (itV zs v 1)).2),.bool true])∧Below w.heap.size w w':=by
 have X0:=BO.new w A zs.length c v
 have hx4:=Zb hw
 obtain⟨hz4,hz⟩:=ZE hsu
 obtain⟨w2,hw2⟩:∃ w2,w.alloc (.cells #[.slice A zs.length c,.string v] 28)=w2:=⟨_,rfl⟩
 rw[hw2] at X0
 have c0:=X0.c0;have c1:=X0.c1
 have X1:=X0.dr
 have HX0:=Hd X0;have HX1:=Hd X1
 have HRD:=Hd (fun w' (X:BO w w' A zs.length c v)=>(ho.below X.bel).reads)
 have HQ:=Hd (fun w' (X:BO w w' A zs.length c v)=>q.below X.bel)
 obtain⟨e0,e1,e2,e3,e4,e5,e6,e7,e8,e9,e10,e11⟩:=Zfw hx
 have k0:=(HQ.o _ HX0.o).2.2.2 0 _ rfl
 have hcl:=fun w' (X:BO w w' A zs.length c v)=>ZeQ zs A c _ v w' hsu hw (HRD.o _ X) nlr
 obtain⟨o,hov⟩:∃ o,itV zs v 1=o:=⟨_,rfl⟩
 rw[hov]
 simp only[hov] at hcl
 unfold okS at hcl
 unfold okW
 have HCL:=Hd hcl
 clear hcl hov
 clear hx hsu hw q ho hz hx4 hz4 X0 X1
 go_enter Tryz.func42,Tryz.ntmps42
 go_wp2_with (go_at_call 94;refine (HCL.o _ HX0.o).mono ?_;rintro e w4 ⟨rfl,b4⟩;have X4:=HX0.o.step b4;have c0:=X4.c0;have c1:=X4.c1;have k0:=(HQ.o _ X4).2.2.2 0 _ rfl;have B4:=Hd X4.bel)
 go_ret3
 exact⟨rfl,B4.out⟩
theorem ZgF (zs:List ByteArray) (v:ByteArray) (gl cl:Nat) (A:Option Addr) (c B:Nat) (w:World) (x:ByteArray) (hx:x=({ data:=#[112,97,114,101,110,116] }:ByteArray)) (hsu:Zf zs=true) (hw:isW (L v)=true) (q:StrAt w gl cl ([x])) (ho:Own w B 9 (.slice A zs.length c) (zs.map Value.string)) (hB:B≤w.heap.size) :
  Calls Tryz.prog 42 #[.agg #[.slice A zs.length c,.string v],.slice (some ⟨gl,0,none⟩) 1 cl] w fun e w'=>e=.returned (.tuple #[.string ((okW (paV zs v)).1),.bool ((okW (paV zs v)).2),.bool true])∧Below w.heap.size w w':=by
 have X0:=BO.new w A zs.length c v
 have hx4:=Zb hw
 obtain⟨hz4,hz⟩:=ZE hsu
 obtain⟨w2,hw2⟩:∃ w2,w.alloc (.cells #[.slice A zs.length c,.string v] 28)=w2:=⟨_,rfl⟩
 rw[hw2] at X0
 have c0:=X0.c0;have c1:=X0.c1
 have X1:=X0.dr
 have HX0:=Hd X0;have HX1:=Hd X1
 have HRD:=Hd (fun w' (X:BO w w' A zs.length c v)=>(ho.below X.bel).reads)
 have HQ:=Hd (fun w' (X:BO w w' A zs.length c v)=>q.below X.bel)
 obtain⟨e0,e1,e2,e3,e4,e5,e6,e7,e8,e9,e10,e11⟩:=Zfx hx
 have k0:=(HQ.o _ HX0.o).2.2.2 0 _ rfl
 have hcl:=fun w' (X:BO w w' A zs.length c v)=>ZdS zs A c _ v w' hsu hw (HRD.o _ X) nlr
 obtain⟨o,hov⟩:∃ o,paV zs v=o:=⟨_,rfl⟩
 rw[hov]
 simp only[hov] at hcl
 unfold okS at hcl
 unfold okW
 have HCL:=Hd hcl
 clear hcl hov
 clear hx hsu hw q ho hz hx4 hz4 X0 X1
 go_enter Tryz.func42,Tryz.ntmps42
 go_wp2_with (go_at_call 95;refine (HCL.o _ HX0.o).mono ?_;rintro e w4 ⟨rfl,b4⟩;have X4:=HX0.o.step b4;have c0:=X4.c0;have c1:=X4.c1;have k0:=(HQ.o _ X4).2.2.2 0 _ rfl;have B4:=Hd X4.bel)
 go_ret3
 exact⟨rfl,B4.out⟩
theorem Zkm (zs:List ByteArray) (v:ByteArray) (gl cl:Nat) (A:Option Addr) (c B:Nat) (w:World) (x:ByteArray) (hx:x=({ data:=#[116,117,114,110] }:ByteArray)) (hsu:Zf zs=true) (hw:isW (L v)=true) (q:StrAt w gl cl ([x])) (ho:Own w B 9 (.slice A zs.length c) (zs.map Value.string)) (hB:B≤w.heap.size) :
  Calls Tryz.prog 42 #[.agg #[.slice A zs.length c,.string v],.slice (some ⟨gl,0,none⟩) 1 cl] w fun e w'=>e=.returned (.tuple #[.string (trW v),.bool (true),.bool true])∧Below w.heap.size w w':=by
 have X0:=BO.new w A zs.length c v
 have hx4:=Zb hw
 obtain⟨hz4,hz⟩:=ZE hsu
 obtain⟨w2,hw2⟩:∃ w2,w.alloc (.cells #[.slice A zs.length c,.string v] 28)=w2:=⟨_,rfl⟩
 rw[hw2] at X0
 have c0:=X0.c0;have c1:=X0.c1
 have X1:=X0.dr
 have HX0:=Hd X0;have HX1:=Hd X1
 have HRD:=Hd (fun w' (X:BO w w' A zs.length c v)=>(ho.below X.bel).reads)
 have HQ:=Hd (fun w' (X:BO w w' A zs.length c v)=>q.below X.bel)
 obtain⟨e0,e1,e2,e3,e4,e5,e6,e7,e8,e9,e10,e11⟩:=Zfy hx
 have k0:=(HQ.o _ HX0.o).2.2.2 0 _ rfl
 have hcl:=fun w'=>Zfl v hw w'
 obtain⟨u,hu⟩:∃ u,trW v=u:=⟨_,rfl⟩
 rw[hu]
 simp only[hu] at hcl
 have HCL:=Hd hcl
 clear hcl hu
 clear hx hsu hw q ho hz hx4 hz4 X0 X1
 go_enter Tryz.func42,Tryz.ntmps42
 go_wp2_with (go_at_call 96;refine (HCL.o _).mono ?_;rintro e w4 ⟨rfl,b4⟩;have X4:=HX0.o.step b4;have B4:=Hd X4.bel)
 go_ret3
 exact⟨rfl,B4.out⟩
theorem Zic (zs:List ByteArray) (v:ByteArray) (gl cl:Nat) (A:Option Addr) (c B:Nat) (w:World) (x:ByteArray) (hx:x=({ data:=#[99,108,111,115,101] }:ByteArray)) (hsu:Zf zs=true) (hw:isW (L v)=true) (q:StrAt w gl cl ([x])) (ho:Own w B 9 (.slice A zs.length c) (zs.map Value.string)) (hB:B≤w.heap.size) :
  Calls Tryz.prog 42 #[.agg #[.slice A zs.length c,.string v],.slice (some ⟨gl,0,none⟩) 1 cl] w fun e w'=>e=.returned (.tuple #[.string (clV v),.bool (true),.bool true])∧Below w.heap.size w w':=by
 have X0:=BO.new w A zs.length c v
 have hx4:=Zb hw
 obtain⟨hz4,hz⟩:=ZE hsu
 obtain⟨w2,hw2⟩:∃ w2,w.alloc (.cells #[.slice A zs.length c,.string v] 28)=w2:=⟨_,rfl⟩
 rw[hw2] at X0
 have c0:=X0.c0;have c1:=X0.c1
 have X1:=X0.dr
 have HX0:=Hd X0;have HX1:=Hd X1
 have HRD:=Hd (fun w' (X:BO w w' A zs.length c v)=>(ho.below X.bel).reads)
 have HQ:=Hd (fun w' (X:BO w w' A zs.length c v)=>q.below X.bel)
 obtain⟨e0,e1,e2,e3,e4,e5,e6,e7,e8,e9,e10,e11⟩:=Zfz hx
 have k0:=(HQ.o _ HX0.o).2.2.2 0 _ rfl
 have hcl:=fun w'=>Wa v (by unfold maxLen;omega) w'
 obtain⟨u,hu⟩:∃ u,clV v=u:=⟨_,rfl⟩
 rw[hu]
 simp only[hu] at hcl
 have HCL:=Hd hcl
 clear hcl hu
 clear hx hsu hw q ho hz hx4 hz4 X0 X1
 go_enter Tryz.func42,Tryz.ntmps42
 go_wp2_with (go_at_call 97;refine (HCL.o _).mono ?_;rintro e w4 ⟨rfl,b4⟩;have X4:=HX0.o.step b4;have B4:=Hd X4.bel)
 go_ret3
 exact⟨rfl,B4.out⟩
theorem Zkn (zs:List ByteArray) (v:ByteArray) (gl cl:Nat) (A:Option Addr) (c B:Nat) (w:World) (x t m:ByteArray) (hx:x=({ data:=#[102,105,120,101,100] }:ByteArray)) (hts:t.size≤1048576) (hms:m.size≤1048576) (hi:iP m=none) (hsu:Zf zs=true) (hw:isW (L v)=true) (q:StrAt w gl cl ([x,t,m])) (ho:Own w B 9 (.slice A zs.length c) (zs.map Value.string)) (hB:B≤w.heap.size) :
  Calls Tryz.prog 42 #[.agg #[.slice A zs.length c,.string v],.slice (some ⟨gl,0,none⟩) 3 cl] w fun e w'=>e=.returned (.tuple #[.string ({ data:=#[] }),.bool (false),.bool false])∧Below w.heap.size w w':=by
 have X0:=BO.new w A zs.length c v
 have hx4:=Zb hw
 obtain⟨hz4,hz⟩:=ZE hsu
 obtain⟨w2,hw2⟩:∃ w2,w.alloc (.cells #[.slice A zs.length c,.string v] 28)=w2:=⟨_,rfl⟩
 rw[hw2] at X0
 have c0:=X0.c0;have c1:=X0.c1
 have X1:=X0.dr
 have HX0:=Hd X0;have HX1:=Hd X1
 have HRD:=Hd (fun w' (X:BO w w' A zs.length c v)=>(ho.below X.bel).reads)
 have HQ:=Hd (fun w' (X:BO w w' A zs.length c v)=>q.below X.bel)
 obtain⟨e0,e1,e2,e3,e4,e5,e6,e7,e8,e9,e10,e11⟩:=ZcY hx
 have k0:=(HQ.o _ HX0.o).2.2.2 0 _ rfl
 have k1:=(HQ.o _ HX0.o).2.2.2 1 _ rfl
 have k2:=(HQ.o _ HX0.o).2.2.2 2 _ rfl
 have hpi:=fun w'=>JJ m (by omega) w'
 rw[hi] at hpi
 simp only[Option.getD_none,Option.isSome_none] at hpi
 have HPI:=Hd hpi
 clear hpi hi hts hms
 clear hx hsu hw q ho hz hx4 hz4 X0 X1
 go_enter Tryz.func42,Tryz.ntmps42
 go_wp2_with (go_at_call 98;refine (HPI.o _).mono ?_;rintro e w4 ⟨rfl,b4⟩;have X4:=HX0.o.step b4;have c0:=X4.c0;have c1:=X4.c1;have k0:=(HQ.o _ X4).2.2.2 0 _ rfl;have k1:=(HQ.o _ X4).2.2.2 1 _ rfl;have k2:=(HQ.o _ X4).2.2.2 2 _ rfl;have B4:=Hd X4.bel;have HX4d:=Hd X4.dr)
 go_ret3
 exact⟨rfl,B4.out⟩
theorem Zko (zs:List ByteArray) (v:ByteArray) (gl cl:Nat) (A:Option Addr) (c B:Nat) (w:World) (x t m:ByteArray) (a0:Int) (hx:x=({ data:=#[102,105,120,101,100] }:ByteArray)) (hts:t.size≤1048576) (hms:m.size≤1048576) (hi:iP m=some a0) (hsu:Zf zs=true) (hw:isW (L v)=true) (q:StrAt w gl cl ([x,t,m])) (ho:Own w B 9 (.slice A zs.length c) (zs.map Value.string)) (hB:B≤w.heap.size) :
  Calls Tryz.prog 42 #[.agg #[.slice A zs.length c,.string v],.slice (some ⟨gl,0,none⟩) 3 cl] w fun e w'=>e=.returned (.tuple #[.string ((okW (fxV zs t a0)).1),.bool ((okW (fxV zs t a0)).2),.bool true])∧Below w.heap.size w w':=by
 have X0:=BO.new w A zs.length c v
 have hx4:=Zb hw
 obtain⟨hz4,hz⟩:=ZE hsu
 obtain⟨w2,hw2⟩:∃ w2,w.alloc (.cells #[.slice A zs.length c,.string v] 28)=w2:=⟨_,rfl⟩
 rw[hw2] at X0
 have c0:=X0.c0;have c1:=X0.c1
 have X1:=X0.dr
 have HX0:=Hd X0;have HX1:=Hd X1
 have HRD:=Hd (fun w' (X:BO w w' A zs.length c v)=>(ho.below X.bel).reads)
 have HQ:=Hd (fun w' (X:BO w w' A zs.length c v)=>q.below X.bel)
 obtain⟨e0,e1,e2,e3,e4,e5,e6,e7,e8,e9,e10,e11⟩:=ZcY hx
 have k0:=(HQ.o _ HX0.o).2.2.2 0 _ rfl
 have k1:=(HQ.o _ HX0.o).2.2.2 1 _ rfl
 have k2:=(HQ.o _ HX0.o).2.2.2 2 _ rfl
 have hpi:=fun w'=>JJ m (by omega) w'
 rw[hi] at hpi
 simp only[Option.getD_some,Option.isSome_some] at hpi
 have HPI:=Hd hpi
 have hcl:=fun w' (X:BO w w' A zs.length c v)=>Xt zs A c _ t a0 w' (by unfold maxLen;omega) hsu (HRD.o _ X) nlr
 obtain⟨o,hov⟩:∃ o,fxV zs t a0=o:=⟨_,rfl⟩
 rw[hov]
 simp only[hov] at hcl
 unfold okS at hcl
 unfold okW
 have HCL:=Hd hcl
 clear hcl hov hpi hi hts hms
 clear hx hsu hw q ho hz hx4 hz4 X0 X1
 go_enter Tryz.func42,Tryz.ntmps42
 go_wp2_with (go_at_call 98;refine (HPI.o _).mono ?_;rintro e w4 ⟨rfl,b4⟩;have X4:=HX0.o.step b4;have c0:=X4.c0;have c1:=X4.c1;have k0:=(HQ.o _ X4).2.2.2 0 _ rfl;have k1:=(HQ.o _ X4).2.2.2 1 _ rfl;have k2:=(HQ.o _ X4).2.2.2 2 _ rfl;have B4:=Hd X4.bel;have HX4d:=Hd X4.dr)
 go_region_with (go_at_call 99;refine (HCL.o _ HX4d.o).mono ?_;rintro e w5 ⟨rfl,b5⟩;have X5:=HX4d.o.step b5;have c0:=X5.c0;have c1:=X5.c1;have k0:=(HQ.o _ X5).2.2.2 0 _ rfl;have B5:=Hd X5.bel)
 all_goals
  go_wp2_with fail
  go_ret3
  exact⟨rfl,B5.out⟩
theorem Zkp (zs:List ByteArray) (v:ByteArray) (gl cl:Nat) (A:Option Addr) (c B:Nat) (w:World) (x:ByteArray) (rs:List ByteArray) (n:Nat) (hn:rs.length+1=n) (hn9:n≤1048577) (hps:∀ p∈rs,p.size≤1048576) (hr0:2≤n) (hns:Zt rs=none) (q0:x=({ data:=#[119,111,114,100] }:ByteArray)→n≠2) (q1:x=({ data:=#[100,101,114,105,118,101] }:ByteArray)→n≠2) (q2:x=({ data:=#[97,112,112,108,121] }:ByteArray)→n≠1) (q3:x=({ data:=#[112,97,114,101,110,116] }:ByteArray)→n≠1) (q4:x=({ data:=#[116,117,114,110] }:ByteArray)→n≠1) (q5:x=({ data:=#[99,108,111,115,101] }:ByteArray)→n≠1) (q6:x=({ data:=#[102,105,120,101,100] }:ByteArray)→n≠3) (hsu:Zf zs=true) (hw:isW (L v)=true) (q:StrAt w gl cl (x :: rs)) (ho:Own w B 9 (.slice A zs.length c) (zs.map Value.string)) (hB:B≤w.heap.size) :
  Calls Tryz.prog 42 #[.agg #[.slice A zs.length c,.string v],.slice (some ⟨gl,0,none⟩) n cl] w fun e w'=>e=.returned (.tuple #[.string ({ data:=#[] }),.bool (false),.bool false])∧Below w.heap.size w w':=by
 have X0:=BO.new w A zs.length c v
 have hx4:=Zb hw
 obtain⟨hz4,hz⟩:=ZE hsu
 obtain⟨w2,hw2⟩:∃ w2,w.alloc (.cells #[.slice A zs.length c,.string v] 28)=w2:=⟨_,rfl⟩
 rw[hw2] at X0
 have c0:=X0.c0;have c1:=X0.c1
 have X1:=X0.dr
 have HX0:=Hd X0;have HX1:=Hd X1
 have HRD:=Hd (fun w' (X:BO w w' A zs.length c v)=>(ho.below X.bel).reads)
 have HQ:=Hd (fun w' (X:BO w w' A zs.length c v)=>q.below X.bel)
 have k0:=(HQ.o _ HX0.o).2.2.2 0 _ rfl
 have hc1:¬ cl=1:=by have:=q.1;rw[List.length_cons] at this;omega
 have hn0:(0:Int)<(n:Int):=by omega
 have hn1:(1:Int)≤(n:Int):=by omega
 have hn2:1≤n:=by omega
 have hrz:rs.length+1=n:=hn
 obtain⟨m,hm⟩:∃ m,n - 1=m:=⟨_,rfl⟩
 have hrm:rs.length=m:=by omega
 have hnu:=fun w' A0 c0 (r:Rds w' w'.heap.size A0 (rs.map Value.string))=>Zv rs A0 c0 w'.heap.size w' (by omega) hps r nlr
 rw[hrm,hns] at hnu
 simp only[Option.getD_none,Option.isSome_none,List.length_nil,List.map_nil] at hnu
 have HNU:=Hd hnu
 clear hnu hns hps hrz hrm hsu hw q ho hz hx4 hz4 X0 X1
 by_cases hx0:x=({ data:=#[119,111,114,100] }:ByteArray)
 ·have hx:=hx0
  as_aux_lemma =>
   obtain⟨e0,e1,e2,e3,e4,e5,e6,e7,e8,e9,e10,e11⟩:=Zfu hx
   have ya:¬ n=2:=q0 hx
   have yb:¬ (n:Int)=2:=by omega
   have yc:((n:Int)==2)=false:=by simp;omega
   clear q0 q1 q2 q3 q4 q5 q6 hx0 hx
   go_enter Tryz.func42,Tryz.ntmps42
   go_wp2_with (go_at_call 83;refine (HNU.o _ _ _ (HQ.o _ HX0.o).tail).mono ?_;rintro e w6 ⟨A6,c6,rfl,o6,b6⟩;have X6:=HX0.o.step b6;have c0:=X6.c0;have c1:=X6.c1;have k0:=(HQ.o _ X6).2.2.2 0 _ rfl;have B6:=Hd X6.bel;clear o6)
   go_ret3
   exact⟨rfl,B6.out⟩
 by_cases hx1:x=({ data:=#[100,101,114,105,118,101] }:ByteArray)
 ·have hx:=hx1
  as_aux_lemma =>
   obtain⟨e0,e1,e2,e3,e4,e5,e6,e7,e8,e9,e10,e11⟩:=Zfv hx
   have ya:¬ n=2:=q1 hx
   have yb:¬ (n:Int)=2:=by omega
   have yc:((n:Int)==2)=false:=by simp;omega
   clear q0 q1 q2 q3 q4 q5 q6 hx0 hx1 hx
   go_enter Tryz.func42,Tryz.ntmps42
   go_wp2_with (go_at_call 83;refine (HNU.o _ _ _ (HQ.o _ HX0.o).tail).mono ?_;rintro e w6 ⟨A6,c6,rfl,o6,b6⟩;have X6:=HX0.o.step b6;have c0:=X6.c0;have c1:=X6.c1;have k0:=(HQ.o _ X6).2.2.2 0 _ rfl;have B6:=Hd X6.bel;clear o6)
   go_ret3
   exact⟨rfl,B6.out⟩
 by_cases hx2:x=({ data:=#[97,112,112,108,121] }:ByteArray)
 ·have hx:=hx2
  as_aux_lemma =>
   obtain⟨e0,e1,e2,e3,e4,e5,e6,e7,e8,e9,e10,e11⟩:=Zfw hx
   have ya:¬ n=1:=q2 hx
   have yb:¬ (n:Int)=1:=by omega
   have yc:((n:Int)==1)=false:=by simp;omega
   clear q0 q1 q2 q3 q4 q5 q6 hx0 hx1 hx2 hx
   go_enter Tryz.func42,Tryz.ntmps42
   go_wp2_with (go_at_call 83;refine (HNU.o _ _ _ (HQ.o _ HX0.o).tail).mono ?_;rintro e w6 ⟨A6,c6,rfl,o6,b6⟩;have X6:=HX0.o.step b6;have c0:=X6.c0;have c1:=X6.c1;have k0:=(HQ.o _ X6).2.2.2 0 _ rfl;have B6:=Hd X6.bel;clear o6)
   go_ret3
   exact⟨rfl,B6.out⟩
 by_cases hx3:x=({ data:=#[112,97,114,101,110,116] }:ByteArray)
 ·have hx:=hx3
  as_aux_lemma =>
   obtain⟨e0,e1,e2,e3,e4,e5,e6,e7,e8,e9,e10,e11⟩:=Zfx hx
   have ya:¬ n=1:=q3 hx
   have yb:¬ (n:Int)=1:=by omega
   have yc:((n:Int)==1)=false:=by simp;omega
   clear q0 q1 q2 q3 q4 q5 q6 hx0 hx1 hx2 hx3 hx
   go_enter Tryz.func42,Tryz.ntmps42
   go_wp2_with (go_at_call 83;refine (HNU.o _ _ _ (HQ.o _ HX0.o).tail).mono ?_;rintro e w6 ⟨A6,c6,rfl,o6,b6⟩;have X6:=HX0.o.step b6;have c0:=X6.c0;have c1:=X6.c1;have k0:=(HQ.o _ X6).2.2.2 0 _ rfl;have B6:=Hd X6.bel;clear o6)
   go_ret3
   exact⟨rfl,B6.out⟩
 by_cases hx4:x=({ data:=#[116,117,114,110] }:ByteArray)
 ·have hx:=hx4
  as_aux_lemma =>
   obtain⟨e0,e1,e2,e3,e4,e5,e6,e7,e8,e9,e10,e11⟩:=Zfy hx
   have ya:¬ n=1:=q4 hx
   have yb:¬ (n:Int)=1:=by omega
   have yc:((n:Int)==1)=false:=by simp;omega
   clear q0 q1 q2 q3 q4 q5 q6 hx0 hx1 hx2 hx3 hx4 hx
   go_enter Tryz.func42,Tryz.ntmps42
   go_wp2_with (go_at_call 83;refine (HNU.o _ _ _ (HQ.o _ HX0.o).tail).mono ?_;rintro e w6 ⟨A6,c6,rfl,o6,b6⟩;have X6:=HX0.o.step b6;have c0:=X6.c0;have c1:=X6.c1;have k0:=(HQ.o _ X6).2.2.2 0 _ rfl;have B6:=Hd X6.bel;clear o6)
   go_ret3
   exact⟨rfl,B6.out⟩
 by_cases hx5:x=({ data:=#[99,108,111,115,101] }:ByteArray)
 ·have hx:=hx5
  as_aux_lemma =>
   obtain⟨e0,e1,e2,e3,e4,e5,e6,e7,e8,e9,e10,e11⟩:=Zfz hx
   have ya:¬ n=1:=q5 hx
   have yb:¬ (n:Int)=1:=by omega
   have yc:((n:Int)==1)=false:=by simp;omega
   clear q0 q1 q2 q3 q4 q5 q6 hx0 hx1 hx2 hx3 hx4 hx5 hx
   go_enter Tryz.func42,Tryz.ntmps42
   go_wp2_with (go_at_call 83;refine (HNU.o _ _ _ (HQ.o _ HX0.o).tail).mono ?_;rintro e w6 ⟨A6,c6,rfl,o6,b6⟩;have X6:=HX0.o.step b6;have c0:=X6.c0;have c1:=X6.c1;have k0:=(HQ.o _ X6).2.2.2 0 _ rfl;have B6:=Hd X6.bel;clear o6)
   go_ret3
   exact⟨rfl,B6.out⟩
 by_cases hx6:x=({ data:=#[102,105,120,101,100] }:ByteArray)
 ·have hx:=hx6
  as_aux_lemma =>
   obtain⟨e0,e1,e2,e3,e4,e5,e6,e7,e8,e9,e10,e11⟩:=ZcY hx
   have ya:¬ n=3:=q6 hx
   have yb:¬ (n:Int)=3:=by omega
   have yc:((n:Int)==3)=false:=by simp;omega
   clear q0 q1 q2 q3 q4 q5 q6 hx0 hx1 hx2 hx3 hx4 hx5 hx6 hx
   go_enter Tryz.func42,Tryz.ntmps42
   go_wp2_with (go_at_call 83;refine (HNU.o _ _ _ (HQ.o _ HX0.o).tail).mono ?_;rintro e w6 ⟨A6,c6,rfl,o6,b6⟩;have X6:=HX0.o.step b6;have c0:=X6.c0;have c1:=X6.c1;have k0:=(HQ.o _ X6).2.2.2 0 _ rfl;have B6:=Hd X6.bel;clear o6)
   go_ret3
   exact⟨rfl,B6.out⟩
 have e0:(x.toList==[119,111,114,100])=false:=Zq hx0 (by rw[ByteArray.toList_eq])
 have e1:(x.toList==[100,101,114,105,118,101])=false:=Zq hx1 (by rw[ByteArray.toList_eq])
 have e2:(x.toList==[97,112,112,108,121])=false:=Zq hx2 (by rw[ByteArray.toList_eq])
 have e3:(x.toList==[112,97,114,101,110,116])=false:=Zq hx3 (by rw[ByteArray.toList_eq])
 have e4:(x.toList==[116,117,114,110])=false:=Zq hx4 (by rw[ByteArray.toList_eq])
 have e5:(x.toList==[99,108,111,115,101])=false:=Zq hx5 (by rw[ByteArray.toList_eq])
 have e6:(x.toList==[102,105,120,101,100])=false:=Zq hx6 (by rw[ByteArray.toList_eq])
 clear q0 q1 q2 q3 q4 q5 q6 hx0 hx1 hx2 hx3 hx4 hx5 hx6
 go_enter Tryz.func42,Tryz.ntmps42
 go_wp2_with (go_at_call 83;refine (HNU.o _ _ _ (HQ.o _ HX0.o).tail).mono ?_;rintro e w6 ⟨A6,c6,rfl,o6,b6⟩;have X6:=HX0.o.step b6;have c0:=X6.c0;have c1:=X6.c1;have k0:=(HQ.o _ X6).2.2.2 0 _ rfl;have B6:=Hd X6.bel;clear o6)
 go_ret3
 exact⟨rfl,B6.out⟩
theorem XJ (zs:List ByteArray) (v:ByteArray) (gl cl:Nat) (A:Option Addr) (c B:Nat) (w:World) (x:ByteArray) (rs:List ByteArray) (n:Nat) (hn:rs.length+1=n) (hn9:n≤1048577) (hps:∀ p∈rs,p.size≤1048576) (hr0:2≤n) (ns:List Int) (hns:Zt rs=some ns) (u:Nat) (hu:ns.length=u) (q0:x=({ data:=#[119,111,114,100] }:ByteArray)→n≠2) (q1:x=({ data:=#[100,101,114,105,118,101] }:ByteArray)→n≠2) (q2:x=({ data:=#[97,112,112,108,121] }:ByteArray)→n≠1) (q3:x=({ data:=#[112,97,114,101,110,116] }:ByteArray)→n≠1) (q4:x=({ data:=#[116,117,114,110] }:ByteArray)→n≠1) (q5:x=({ data:=#[99,108,111,115,101] }:ByteArray)→n≠1) (q6:x=({ data:=#[102,105,120,101,100] }:ByteArray)→n≠3) (p0:x=({ data:=#[103,114,111,119] }:ByteArray)→u≠1) (p1:x=({ data:=#[115,104,105,102,116] }:ByteArray)→u≠1) (p2:x=({ data:=#[115,101,108,102] }:ByteArray)→u≠1) (p3:x=({ data:=#[102,111,108,100] }:ByteArray)→u≠1) (p4:x=({ data:=#[115,108,111,112,101] }:ByteArray)→u≠3) (hsu:Zf zs=true) (hw:isW (L v)=true) (q:StrAt w gl cl (x :: rs)) (ho:Own w B 9 (.slice A zs.length c) (zs.map Value.string)) (hB:B≤w.heap.size) :
  Calls Tryz.prog 42 #[.agg #[.slice A zs.length c,.string v],.slice (some ⟨gl,0,none⟩) n cl] w fun e w'=>e=.returned (.tuple #[.string ({ data:=#[] }),.bool (false),.bool false])∧Below w.heap.size w w':=by
 have X0:=BO.new w A zs.length c v
 have hx4:=Zb hw
 obtain⟨hz4,hz⟩:=ZE hsu
 obtain⟨w2,hw2⟩:∃ w2,w.alloc (.cells #[.slice A zs.length c,.string v] 28)=w2:=⟨_,rfl⟩
 rw[hw2] at X0
 have c0:=X0.c0;have c1:=X0.c1
 have X1:=X0.dr
 have HX0:=Hd X0;have HX1:=Hd X1
 have HRD:=Hd (fun w' (X:BO w w' A zs.length c v)=>(ho.below X.bel).reads)
 have HQ:=Hd (fun w' (X:BO w w' A zs.length c v)=>q.below X.bel)
 have k0:=(HQ.o _ HX0.o).2.2.2 0 _ rfl
 have hc1:¬ cl=1:=by have:=q.1;rw[List.length_cons] at this;omega
 have hn0:(0:Int)<(n:Int):=by omega
 have hn1:(1:Int)≤(n:Int):=by omega
 have hn2:1≤n:=by omega
 have hu9:u≤1048577:=by rw[← hu,ZL hns];omega
 have hrz:rs.length+1=n:=hn
 obtain⟨m,hm⟩:∃ m,n - 1=m:=⟨_,rfl⟩
 have hrm:rs.length=m:=by omega
 have hnu:=fun w' A0 c0 (r:Rds w' w'.heap.size A0 (rs.map Value.string))=>Zv rs A0 c0 w'.heap.size w' (by omega) hps r nlr
 rw[hrm,hns] at hnu
 simp only[Option.getD_some,Option.isSome_some] at hnu
 rw[hu] at hnu
 have HNU:=Hd hnu
 clear hnu hns hu hps hrz hrm hsu hw q ho hz hx4 hz4 X0 X1
 by_cases hx0:x=({ data:=#[119,111,114,100] }:ByteArray)
 ·have hx:=hx0
  as_aux_lemma =>
   obtain⟨e0,e1,e2,e3,e4,e5,e6,e7,e8,e9,e10,e11⟩:=Zfu hx
   have ya:¬ n=2:=q0 hx
   have yb:¬ (n:Int)=2:=by omega
   have yc:((n:Int)==2)=false:=by simp;omega
   clear q0 q1 q2 q3 q4 q5 q6 p0 p1 p2 p3 p4 hx0 hx
   go_enter Tryz.func42,Tryz.ntmps42
   go_wp2_with (go_at_call 83;refine (HNU.o _ _ _ (HQ.o _ HX0.o).tail).mono ?_;rintro e w6 ⟨A6,c6,rfl,o6,b6⟩;have X6:=HX0.o.step b6;have c0:=X6.c0;have c1:=X6.c1;have k0:=(HQ.o _ X6).2.2.2 0 _ rfl;have B6:=Hd X6.bel;clear o6)
   go_ret3
   exact⟨rfl,B6.out⟩
 by_cases hx1:x=({ data:=#[100,101,114,105,118,101] }:ByteArray)
 ·have hx:=hx1
  as_aux_lemma =>
   obtain⟨e0,e1,e2,e3,e4,e5,e6,e7,e8,e9,e10,e11⟩:=Zfv hx
   have ya:¬ n=2:=q1 hx
   have yb:¬ (n:Int)=2:=by omega
   have yc:((n:Int)==2)=false:=by simp;omega
   clear q0 q1 q2 q3 q4 q5 q6 p0 p1 p2 p3 p4 hx0 hx1 hx
   go_enter Tryz.func42,Tryz.ntmps42
   go_wp2_with (go_at_call 83;refine (HNU.o _ _ _ (HQ.o _ HX0.o).tail).mono ?_;rintro e w6 ⟨A6,c6,rfl,o6,b6⟩;have X6:=HX0.o.step b6;have c0:=X6.c0;have c1:=X6.c1;have k0:=(HQ.o _ X6).2.2.2 0 _ rfl;have B6:=Hd X6.bel;clear o6)
   go_ret3
   exact⟨rfl,B6.out⟩
 by_cases hx2:x=({ data:=#[97,112,112,108,121] }:ByteArray)
 ·have hx:=hx2
  as_aux_lemma =>
   obtain⟨e0,e1,e2,e3,e4,e5,e6,e7,e8,e9,e10,e11⟩:=Zfw hx
   have ya:¬ n=1:=q2 hx
   have yb:¬ (n:Int)=1:=by omega
   have yc:((n:Int)==1)=false:=by simp;omega
   clear q0 q1 q2 q3 q4 q5 q6 p0 p1 p2 p3 p4 hx0 hx1 hx2 hx
   go_enter Tryz.func42,Tryz.ntmps42
   go_wp2_with (go_at_call 83;refine (HNU.o _ _ _ (HQ.o _ HX0.o).tail).mono ?_;rintro e w6 ⟨A6,c6,rfl,o6,b6⟩;have X6:=HX0.o.step b6;have c0:=X6.c0;have c1:=X6.c1;have k0:=(HQ.o _ X6).2.2.2 0 _ rfl;have B6:=Hd X6.bel;clear o6)
   go_ret3
   exact⟨rfl,B6.out⟩
 by_cases hx3:x=({ data:=#[112,97,114,101,110,116] }:ByteArray)
 ·have hx:=hx3
  as_aux_lemma =>
   obtain⟨e0,e1,e2,e3,e4,e5,e6,e7,e8,e9,e10,e11⟩:=Zfx hx
   have ya:¬ n=1:=q3 hx
   have yb:¬ (n:Int)=1:=by omega
   have yc:((n:Int)==1)=false:=by simp;omega
   clear q0 q1 q2 q3 q4 q5 q6 p0 p1 p2 p3 p4 hx0 hx1 hx2 hx3 hx
   go_enter Tryz.func42,Tryz.ntmps42
   go_wp2_with (go_at_call 83;refine (HNU.o _ _ _ (HQ.o _ HX0.o).tail).mono ?_;rintro e w6 ⟨A6,c6,rfl,o6,b6⟩;have X6:=HX0.o.step b6;have c0:=X6.c0;have c1:=X6.c1;have k0:=(HQ.o _ X6).2.2.2 0 _ rfl;have B6:=Hd X6.bel;clear o6)
   go_ret3
   exact⟨rfl,B6.out⟩
 by_cases hx4:x=({ data:=#[116,117,114,110] }:ByteArray)
 ·have hx:=hx4
  as_aux_lemma =>
   obtain⟨e0,e1,e2,e3,e4,e5,e6,e7,e8,e9,e10,e11⟩:=Zfy hx
   have ya:¬ n=1:=q4 hx
   have yb:¬ (n:Int)=1:=by omega
   have yc:((n:Int)==1)=false:=by simp;omega
   clear q0 q1 q2 q3 q4 q5 q6 p0 p1 p2 p3 p4 hx0 hx1 hx2 hx3 hx4 hx
   go_enter Tryz.func42,Tryz.ntmps42
   go_wp2_with (go_at_call 83;refine (HNU.o _ _ _ (HQ.o _ HX0.o).tail).mono ?_;rintro e w6 ⟨A6,c6,rfl,o6,b6⟩;have X6:=HX0.o.step b6;have c0:=X6.c0;have c1:=X6.c1;have k0:=(HQ.o _ X6).2.2.2 0 _ rfl;have B6:=Hd X6.bel;clear o6)
   go_ret3
   exact⟨rfl,B6.out⟩
 by_cases hx5:x=({ data:=#[99,108,111,115,101] }:ByteArray)
 ·have hx:=hx5
  as_aux_lemma =>
   obtain⟨e0,e1,e2,e3,e4,e5,e6,e7,e8,e9,e10,e11⟩:=Zfz hx
   have ya:¬ n=1:=q5 hx
   have yb:¬ (n:Int)=1:=by omega
   have yc:((n:Int)==1)=false:=by simp;omega
   clear q0 q1 q2 q3 q4 q5 q6 p0 p1 p2 p3 p4 hx0 hx1 hx2 hx3 hx4 hx5 hx
   go_enter Tryz.func42,Tryz.ntmps42
   go_wp2_with (go_at_call 83;refine (HNU.o _ _ _ (HQ.o _ HX0.o).tail).mono ?_;rintro e w6 ⟨A6,c6,rfl,o6,b6⟩;have X6:=HX0.o.step b6;have c0:=X6.c0;have c1:=X6.c1;have k0:=(HQ.o _ X6).2.2.2 0 _ rfl;have B6:=Hd X6.bel;clear o6)
   go_ret3
   exact⟨rfl,B6.out⟩
 by_cases hx6:x=({ data:=#[102,105,120,101,100] }:ByteArray)
 ·have hx:=hx6
  as_aux_lemma =>
   obtain⟨e0,e1,e2,e3,e4,e5,e6,e7,e8,e9,e10,e11⟩:=ZcY hx
   have ya:¬ n=3:=q6 hx
   have yb:¬ (n:Int)=3:=by omega
   have yc:((n:Int)==3)=false:=by simp;omega
   clear q0 q1 q2 q3 q4 q5 q6 p0 p1 p2 p3 p4 hx0 hx1 hx2 hx3 hx4 hx5 hx6 hx
   go_enter Tryz.func42,Tryz.ntmps42
   go_wp2_with (go_at_call 83;refine (HNU.o _ _ _ (HQ.o _ HX0.o).tail).mono ?_;rintro e w6 ⟨A6,c6,rfl,o6,b6⟩;have X6:=HX0.o.step b6;have c0:=X6.c0;have c1:=X6.c1;have k0:=(HQ.o _ X6).2.2.2 0 _ rfl;have B6:=Hd X6.bel;clear o6)
   go_ret3
   exact⟨rfl,B6.out⟩
 by_cases hx7:x=({ data:=#[103,114,111,119] }:ByteArray)
 ·have hx:=hx7
  as_aux_lemma =>
   obtain⟨e0,e1,e2,e3,e4,e5,e6,e7,e8,e9,e10,e11⟩:=Zh8 hx
   have ya:¬ u=1:=p0 hx
   have yb:¬ (u:Int)=1:=by omega
   have yc:((u:Int)==1)=false:=by simp;omega
   clear q0 q1 q2 q3 q4 q5 q6 p0 p1 p2 p3 p4 hx0 hx1 hx2 hx3 hx4 hx5 hx6 hx7 hx
   go_enter Tryz.func42,Tryz.ntmps42
   go_wp2_with (go_at_call 83;refine (HNU.o _ _ _ (HQ.o _ HX0.o).tail).mono ?_;rintro e w6 ⟨A6,c6,rfl,o6,b6⟩;have X6:=HX0.o.step b6;have c0:=X6.c0;have c1:=X6.c1;have k0:=(HQ.o _ X6).2.2.2 0 _ rfl;have B6:=Hd X6.bel;clear o6)
   go_ret3
   exact⟨rfl,B6.out⟩
 by_cases hx8:x=({ data:=#[115,104,105,102,116] }:ByteArray)
 ·have hx:=hx8
  as_aux_lemma =>
   obtain⟨e0,e1,e2,e3,e4,e5,e6,e7,e8,e9,e10,e11⟩:=Zh9 hx
   have ya:¬ u=1:=p1 hx
   have yb:¬ (u:Int)=1:=by omega
   have yc:((u:Int)==1)=false:=by simp;omega
   clear q0 q1 q2 q3 q4 q5 q6 p0 p1 p2 p3 p4 hx0 hx1 hx2 hx3 hx4 hx5 hx6 hx7 hx8 hx
   go_enter Tryz.func42,Tryz.ntmps42
   go_wp2_with (go_at_call 83;refine (HNU.o _ _ _ (HQ.o _ HX0.o).tail).mono ?_;rintro e w6 ⟨A6,c6,rfl,o6,b6⟩;have X6:=HX0.o.step b6;have c0:=X6.c0;have c1:=X6.c1;have k0:=(HQ.o _ X6).2.2.2 0 _ rfl;have B6:=Hd X6.bel;clear o6)
   go_ret3
   exact⟨rfl,B6.out⟩
 by_cases hx9:x=({ data:=#[115,101,108,102] }:ByteArray)
 ·have hx:=hx9
  as_aux_lemma =>
   obtain⟨e0,e1,e2,e3,e4,e5,e6,e7,e8,e9,e10,e11⟩:=Zia hx
   have ya:¬ u=1:=p2 hx
   have yb:¬ (u:Int)=1:=by omega
   have yc:((u:Int)==1)=false:=by simp;omega
   clear q0 q1 q2 q3 q4 q5 q6 p0 p1 p2 p3 p4 hx0 hx1 hx2 hx3 hx4 hx5 hx6 hx7 hx8 hx9 hx
   go_enter Tryz.func42,Tryz.ntmps42
   go_wp2_with (go_at_call 83;refine (HNU.o _ _ _ (HQ.o _ HX0.o).tail).mono ?_;rintro e w6 ⟨A6,c6,rfl,o6,b6⟩;have X6:=HX0.o.step b6;have c0:=X6.c0;have c1:=X6.c1;have k0:=(HQ.o _ X6).2.2.2 0 _ rfl;have B6:=Hd X6.bel;clear o6)
   go_ret3
   exact⟨rfl,B6.out⟩
 by_cases hx10:x=({ data:=#[102,111,108,100] }:ByteArray)
 ·have hx:=hx10
  as_aux_lemma =>
   obtain⟨e0,e1,e2,e3,e4,e5,e6,e7,e8,e9,e10,e11⟩:=ZeB hx
   have ya:¬ u=1:=p3 hx
   have yb:¬ (u:Int)=1:=by omega
   have yc:((u:Int)==1)=false:=by simp;omega
   clear q0 q1 q2 q3 q4 q5 q6 p0 p1 p2 p3 p4 hx0 hx1 hx2 hx3 hx4 hx5 hx6 hx7 hx8 hx9 hx10 hx
   go_enter Tryz.func42,Tryz.ntmps42
   go_wp2_with (go_at_call 83;refine (HNU.o _ _ _ (HQ.o _ HX0.o).tail).mono ?_;rintro e w6 ⟨A6,c6,rfl,o6,b6⟩;have X6:=HX0.o.step b6;have c0:=X6.c0;have c1:=X6.c1;have k0:=(HQ.o _ X6).2.2.2 0 _ rfl;have B6:=Hd X6.bel;clear o6)
   go_ret3
   exact⟨rfl,B6.out⟩
 by_cases hx11:x=({ data:=#[115,108,111,112,101] }:ByteArray)
 ·have hx:=hx11
  as_aux_lemma =>
   obtain⟨e0,e1,e2,e3,e4,e5,e6,e7,e8,e9,e10,e11⟩:=ZeC hx
   have ya:¬ u=3:=p4 hx
   have yb:¬ (u:Int)=3:=by omega
   have yc:((u:Int)==3)=false:=by simp;omega
   clear q0 q1 q2 q3 q4 q5 q6 p0 p1 p2 p3 p4 hx0 hx1 hx2 hx3 hx4 hx5 hx6 hx7 hx8 hx9 hx10 hx11 hx
   go_enter Tryz.func42,Tryz.ntmps42
   go_wp2_with (go_at_call 83;refine (HNU.o _ _ _ (HQ.o _ HX0.o).tail).mono ?_;rintro e w6 ⟨A6,c6,rfl,o6,b6⟩;have X6:=HX0.o.step b6;have c0:=X6.c0;have c1:=X6.c1;have k0:=(HQ.o _ X6).2.2.2 0 _ rfl;have B6:=Hd X6.bel;clear o6)
   go_ret3
   exact⟨rfl,B6.out⟩
 have e0:(x.toList==[119,111,114,100])=false:=Zq hx0 (by rw[ByteArray.toList_eq])
 have e1:(x.toList==[100,101,114,105,118,101])=false:=Zq hx1 (by rw[ByteArray.toList_eq])
 have e2:(x.toList==[97,112,112,108,121])=false:=Zq hx2 (by rw[ByteArray.toList_eq])
 have e3:(x.toList==[112,97,114,101,110,116])=false:=Zq hx3 (by rw[ByteArray.toList_eq])
 have e4:(x.toList==[116,117,114,110])=false:=Zq hx4 (by rw[ByteArray.toList_eq])
 have e5:(x.toList==[99,108,111,115,101])=false:=Zq hx5 (by rw[ByteArray.toList_eq])
 have e6:(x.toList==[102,105,120,101,100])=false:=Zq hx6 (by rw[ByteArray.toList_eq])
 have e7:(x.toList==[103,114,111,119])=false:=Zq hx7 (by rw[ByteArray.toList_eq])
 have e8:(x.toList==[115,104,105,102,116])=false:=Zq hx8 (by rw[ByteArray.toList_eq])
 have e9:(x.toList==[115,101,108,102])=false:=Zq hx9 (by rw[ByteArray.toList_eq])
 have e10:(x.toList==[102,111,108,100])=false:=Zq hx10 (by rw[ByteArray.toList_eq])
 have e11:(x.toList==[115,108,111,112,101])=false:=Zq hx11 (by rw[ByteArray.toList_eq])
 clear q0 q1 q2 q3 q4 q5 q6 p0 p1 p2 p3 p4 hx0 hx1 hx2 hx3 hx4 hx5 hx6 hx7 hx8 hx9 hx10 hx11
 go_enter Tryz.func42,Tryz.ntmps42
 go_wp2_with (go_at_call 83;refine (HNU.o _ _ _ (HQ.o _ HX0.o).tail).mono ?_;rintro e w6 ⟨A6,c6,rfl,o6,b6⟩;have X6:=HX0.o.step b6;have c0:=X6.c0;have c1:=X6.c1;have k0:=(HQ.o _ X6).2.2.2 0 _ rfl;have B6:=Hd X6.bel;clear o6)
 go_ret3
 exact⟨rfl,B6.out⟩
theorem Zid (zs:List ByteArray) (v:ByteArray) (gl cl:Nat) (A:Option Addr) (c B:Nat) (w:World) (x:ByteArray) (q0:x=({ data:=#[119,111,114,100] }:ByteArray)→1≠2) (q1:x=({ data:=#[100,101,114,105,118,101] }:ByteArray)→1≠2) (q2:x=({ data:=#[97,112,112,108,121] }:ByteArray)→1≠1) (q3:x=({ data:=#[112,97,114,101,110,116] }:ByteArray)→1≠1) (q4:x=({ data:=#[116,117,114,110] }:ByteArray)→1≠1) (q5:x=({ data:=#[99,108,111,115,101] }:ByteArray)→1≠1) (q6:x=({ data:=#[102,105,120,101,100] }:ByteArray)→1≠3) (hsu:Zf zs=true) (hw:isW (L v)=true) (q:StrAt w gl cl ([x])) (ho:Own w B 9 (.slice A zs.length c) (zs.map Value.string)) (hB:B≤w.heap.size) :
  Calls Tryz.prog 42 #[.agg #[.slice A zs.length c,.string v],.slice (some ⟨gl,0,none⟩) 1 cl] w fun e w'=>e=.returned (.tuple #[.string ({ data:=#[] }),.bool (false),.bool false])∧Below w.heap.size w w':=by
 have X0:=BO.new w A zs.length c v
 have hx4:=Zb hw
 obtain⟨hz4,hz⟩:=ZE hsu
 obtain⟨w2,hw2⟩:∃ w2,w.alloc (.cells #[.slice A zs.length c,.string v] 28)=w2:=⟨_,rfl⟩
 rw[hw2] at X0
 have c0:=X0.c0;have c1:=X0.c1
 have X1:=X0.dr
 have HX0:=Hd X0;have HX1:=Hd X1
 have HRD:=Hd (fun w' (X:BO w w' A zs.length c v)=>(ho.below X.bel).reads)
 have HQ:=Hd (fun w' (X:BO w w' A zs.length c v)=>q.below X.bel)
 have k0:=(HQ.o _ HX0.o).2.2.2 0 _ rfl
 have hnu:=fun w' A0 c0 (r:Rds w' w'.heap.size A0 (([]:List ByteArray).map Value.string))=>Zv [] A0 c0 w'.heap.size w' (by decide) (fun p hp=>by cases hp) r nlr
 simp only[Zt,Option.getD_some,Option.isSome_some,List.length_nil,List.map_nil] at hnu
 have HNU:=Hd hnu
 clear hnu hsu hw q ho hz hx4 hz4 X0 X1
 by_cases hx0:x=({ data:=#[119,111,114,100] }:ByteArray)
 ·have hx:=hx0
  as_aux_lemma =>
   obtain⟨e0,e1,e2,e3,e4,e5,e6,e7,e8,e9,e10,e11⟩:=Zfu hx
   clear q0 q1 q2 q3 q4 q5 q6 hx0 hx
   by_cases hc1:cl=1
   ·subst hc1
    go_enter Tryz.func42,Tryz.ntmps42
    go_wp2_with (go_at_call 83;refine (HNU.o _ _ _ (fun k u hu=>by simp at hu)).mono ?_;rintro e w6 ⟨A6,c6,rfl,o6,b6⟩;have X6:=HX0.o.step b6;have c0:=X6.c0;have c1:=X6.c1;have k0:=(HQ.o _ X6).2.2.2 0 _ rfl;have B6:=Hd X6.bel;clear o6)
    go_ret3
    exact⟨rfl,B6.out⟩
   ·go_enter Tryz.func42,Tryz.ntmps42
    go_wp2_with (go_at_call 83;refine (HNU.o _ _ _ (fun k u hu=>by simp at hu)).mono ?_;rintro e w6 ⟨A6,c6,rfl,o6,b6⟩;have X6:=HX0.o.step b6;have c0:=X6.c0;have c1:=X6.c1;have k0:=(HQ.o _ X6).2.2.2 0 _ rfl;have B6:=Hd X6.bel;clear o6)
    go_ret3
    exact⟨rfl,B6.out⟩
 by_cases hx1:x=({ data:=#[100,101,114,105,118,101] }:ByteArray)
 ·have hx:=hx1
  as_aux_lemma =>
   obtain⟨e0,e1,e2,e3,e4,e5,e6,e7,e8,e9,e10,e11⟩:=Zfv hx
   clear q0 q1 q2 q3 q4 q5 q6 hx0 hx1 hx
   by_cases hc1:cl=1
   ·subst hc1
    go_enter Tryz.func42,Tryz.ntmps42
    go_wp2_with (go_at_call 83;refine (HNU.o _ _ _ (fun k u hu=>by simp at hu)).mono ?_;rintro e w6 ⟨A6,c6,rfl,o6,b6⟩;have X6:=HX0.o.step b6;have c0:=X6.c0;have c1:=X6.c1;have k0:=(HQ.o _ X6).2.2.2 0 _ rfl;have B6:=Hd X6.bel;clear o6)
    go_ret3
    exact⟨rfl,B6.out⟩
   ·go_enter Tryz.func42,Tryz.ntmps42
    go_wp2_with (go_at_call 83;refine (HNU.o _ _ _ (fun k u hu=>by simp at hu)).mono ?_;rintro e w6 ⟨A6,c6,rfl,o6,b6⟩;have X6:=HX0.o.step b6;have c0:=X6.c0;have c1:=X6.c1;have k0:=(HQ.o _ X6).2.2.2 0 _ rfl;have B6:=Hd X6.bel;clear o6)
    go_ret3
    exact⟨rfl,B6.out⟩
 by_cases hx2:x=({ data:=#[97,112,112,108,121] }:ByteArray)
 ·have hx:=hx2
  as_aux_lemma =>
   obtain⟨e0,e1,e2,e3,e4,e5,e6,e7,e8,e9,e10,e11⟩:=Zfw hx
   exact absurd rfl (q2 hx)
 by_cases hx3:x=({ data:=#[112,97,114,101,110,116] }:ByteArray)
 ·have hx:=hx3
  as_aux_lemma =>
   obtain⟨e0,e1,e2,e3,e4,e5,e6,e7,e8,e9,e10,e11⟩:=Zfx hx
   exact absurd rfl (q3 hx)
 by_cases hx4:x=({ data:=#[116,117,114,110] }:ByteArray)
 ·have hx:=hx4
  as_aux_lemma =>
   obtain⟨e0,e1,e2,e3,e4,e5,e6,e7,e8,e9,e10,e11⟩:=Zfy hx
   exact absurd rfl (q4 hx)
 by_cases hx5:x=({ data:=#[99,108,111,115,101] }:ByteArray)
 ·have hx:=hx5
  as_aux_lemma =>
   obtain⟨e0,e1,e2,e3,e4,e5,e6,e7,e8,e9,e10,e11⟩:=Zfz hx
   exact absurd rfl (q5 hx)
 by_cases hx6:x=({ data:=#[102,105,120,101,100] }:ByteArray)
 ·have hx:=hx6
  as_aux_lemma =>
   obtain⟨e0,e1,e2,e3,e4,e5,e6,e7,e8,e9,e10,e11⟩:=ZcY hx
   clear q0 q1 q2 q3 q4 q5 q6 hx0 hx1 hx2 hx3 hx4 hx5 hx6 hx
   by_cases hc1:cl=1
   ·subst hc1
    go_enter Tryz.func42,Tryz.ntmps42
    go_wp2_with (go_at_call 83;refine (HNU.o _ _ _ (fun k u hu=>by simp at hu)).mono ?_;rintro e w6 ⟨A6,c6,rfl,o6,b6⟩;have X6:=HX0.o.step b6;have c0:=X6.c0;have c1:=X6.c1;have k0:=(HQ.o _ X6).2.2.2 0 _ rfl;have B6:=Hd X6.bel;clear o6)
    go_ret3
    exact⟨rfl,B6.out⟩
   ·go_enter Tryz.func42,Tryz.ntmps42
    go_wp2_with (go_at_call 83;refine (HNU.o _ _ _ (fun k u hu=>by simp at hu)).mono ?_;rintro e w6 ⟨A6,c6,rfl,o6,b6⟩;have X6:=HX0.o.step b6;have c0:=X6.c0;have c1:=X6.c1;have k0:=(HQ.o _ X6).2.2.2 0 _ rfl;have B6:=Hd X6.bel;clear o6)
    go_ret3
    exact⟨rfl,B6.out⟩
 by_cases hx7:x=({ data:=#[103,114,111,119] }:ByteArray)
 ·have hx:=hx7
  as_aux_lemma =>
   obtain⟨e0,e1,e2,e3,e4,e5,e6,e7,e8,e9,e10,e11⟩:=Zh8 hx
   clear q0 q1 q2 q3 q4 q5 q6 hx0 hx1 hx2 hx3 hx4 hx5 hx6 hx7 hx
   by_cases hc1:cl=1
   ·subst hc1
    go_enter Tryz.func42,Tryz.ntmps42
    go_wp2_with (go_at_call 83;refine (HNU.o _ _ _ (fun k u hu=>by simp at hu)).mono ?_;rintro e w6 ⟨A6,c6,rfl,o6,b6⟩;have X6:=HX0.o.step b6;have c0:=X6.c0;have c1:=X6.c1;have k0:=(HQ.o _ X6).2.2.2 0 _ rfl;have B6:=Hd X6.bel;clear o6)
    go_ret3
    exact⟨rfl,B6.out⟩
   ·go_enter Tryz.func42,Tryz.ntmps42
    go_wp2_with (go_at_call 83;refine (HNU.o _ _ _ (fun k u hu=>by simp at hu)).mono ?_;rintro e w6 ⟨A6,c6,rfl,o6,b6⟩;have X6:=HX0.o.step b6;have c0:=X6.c0;have c1:=X6.c1;have k0:=(HQ.o _ X6).2.2.2 0 _ rfl;have B6:=Hd X6.bel;clear o6)
    go_ret3
    exact⟨rfl,B6.out⟩
 by_cases hx8:x=({ data:=#[115,104,105,102,116] }:ByteArray)
 ·have hx:=hx8
  as_aux_lemma =>
   obtain⟨e0,e1,e2,e3,e4,e5,e6,e7,e8,e9,e10,e11⟩:=Zh9 hx
   clear q0 q1 q2 q3 q4 q5 q6 hx0 hx1 hx2 hx3 hx4 hx5 hx6 hx7 hx8 hx
   by_cases hc1:cl=1
   ·subst hc1
    go_enter Tryz.func42,Tryz.ntmps42
    go_wp2_with (go_at_call 83;refine (HNU.o _ _ _ (fun k u hu=>by simp at hu)).mono ?_;rintro e w6 ⟨A6,c6,rfl,o6,b6⟩;have X6:=HX0.o.step b6;have c0:=X6.c0;have c1:=X6.c1;have k0:=(HQ.o _ X6).2.2.2 0 _ rfl;have B6:=Hd X6.bel;clear o6)
    go_ret3
    exact⟨rfl,B6.out⟩
   ·go_enter Tryz.func42,Tryz.ntmps42
    go_wp2_with (go_at_call 83;refine (HNU.o _ _ _ (fun k u hu=>by simp at hu)).mono ?_;rintro e w6 ⟨A6,c6,rfl,o6,b6⟩;have X6:=HX0.o.step b6;have c0:=X6.c0;have c1:=X6.c1;have k0:=(HQ.o _ X6).2.2.2 0 _ rfl;have B6:=Hd X6.bel;clear o6)
    go_ret3
    exact⟨rfl,B6.out⟩
 by_cases hx9:x=({ data:=#[115,101,108,102] }:ByteArray)
 ·have hx:=hx9
  as_aux_lemma =>
   obtain⟨e0,e1,e2,e3,e4,e5,e6,e7,e8,e9,e10,e11⟩:=Zia hx
   clear q0 q1 q2 q3 q4 q5 q6 hx0 hx1 hx2 hx3 hx4 hx5 hx6 hx7 hx8 hx9 hx
   by_cases hc1:cl=1
   ·subst hc1
    go_enter Tryz.func42,Tryz.ntmps42
    go_wp2_with (go_at_call 83;refine (HNU.o _ _ _ (fun k u hu=>by simp at hu)).mono ?_;rintro e w6 ⟨A6,c6,rfl,o6,b6⟩;have X6:=HX0.o.step b6;have c0:=X6.c0;have c1:=X6.c1;have k0:=(HQ.o _ X6).2.2.2 0 _ rfl;have B6:=Hd X6.bel;clear o6)
    go_ret3
    exact⟨rfl,B6.out⟩
   ·go_enter Tryz.func42,Tryz.ntmps42
    go_wp2_with (go_at_call 83;refine (HNU.o _ _ _ (fun k u hu=>by simp at hu)).mono ?_;rintro e w6 ⟨A6,c6,rfl,o6,b6⟩;have X6:=HX0.o.step b6;have c0:=X6.c0;have c1:=X6.c1;have k0:=(HQ.o _ X6).2.2.2 0 _ rfl;have B6:=Hd X6.bel;clear o6)
    go_ret3
    exact⟨rfl,B6.out⟩
 by_cases hx10:x=({ data:=#[102,111,108,100] }:ByteArray)
 ·have hx:=hx10
  as_aux_lemma =>
   obtain⟨e0,e1,e2,e3,e4,e5,e6,e7,e8,e9,e10,e11⟩:=ZeB hx
   clear q0 q1 q2 q3 q4 q5 q6 hx0 hx1 hx2 hx3 hx4 hx5 hx6 hx7 hx8 hx9 hx10 hx
   by_cases hc1:cl=1
   ·subst hc1
    go_enter Tryz.func42,Tryz.ntmps42
    go_wp2_with (go_at_call 83;refine (HNU.o _ _ _ (fun k u hu=>by simp at hu)).mono ?_;rintro e w6 ⟨A6,c6,rfl,o6,b6⟩;have X6:=HX0.o.step b6;have c0:=X6.c0;have c1:=X6.c1;have k0:=(HQ.o _ X6).2.2.2 0 _ rfl;have B6:=Hd X6.bel;clear o6)
    go_ret3
    exact⟨rfl,B6.out⟩
   ·go_enter Tryz.func42,Tryz.ntmps42
    go_wp2_with (go_at_call 83;refine (HNU.o _ _ _ (fun k u hu=>by simp at hu)).mono ?_;rintro e w6 ⟨A6,c6,rfl,o6,b6⟩;have X6:=HX0.o.step b6;have c0:=X6.c0;have c1:=X6.c1;have k0:=(HQ.o _ X6).2.2.2 0 _ rfl;have B6:=Hd X6.bel;clear o6)
    go_ret3
    exact⟨rfl,B6.out⟩
 by_cases hx11:x=({ data:=#[115,108,111,112,101] }:ByteArray)
 ·have hx:=hx11
  as_aux_lemma =>
   obtain⟨e0,e1,e2,e3,e4,e5,e6,e7,e8,e9,e10,e11⟩:=ZeC hx
   clear q0 q1 q2 q3 q4 q5 q6 hx0 hx1 hx2 hx3 hx4 hx5 hx6 hx7 hx8 hx9 hx10 hx11 hx
   by_cases hc1:cl=1
   ·subst hc1
    go_enter Tryz.func42,Tryz.ntmps42
    go_wp2_with (go_at_call 83;refine (HNU.o _ _ _ (fun k u hu=>by simp at hu)).mono ?_;rintro e w6 ⟨A6,c6,rfl,o6,b6⟩;have X6:=HX0.o.step b6;have c0:=X6.c0;have c1:=X6.c1;have k0:=(HQ.o _ X6).2.2.2 0 _ rfl;have B6:=Hd X6.bel;clear o6)
    go_ret3
    exact⟨rfl,B6.out⟩
   ·go_enter Tryz.func42,Tryz.ntmps42
    go_wp2_with (go_at_call 83;refine (HNU.o _ _ _ (fun k u hu=>by simp at hu)).mono ?_;rintro e w6 ⟨A6,c6,rfl,o6,b6⟩;have X6:=HX0.o.step b6;have c0:=X6.c0;have c1:=X6.c1;have k0:=(HQ.o _ X6).2.2.2 0 _ rfl;have B6:=Hd X6.bel;clear o6)
    go_ret3
    exact⟨rfl,B6.out⟩
 have e0:(x.toList==[119,111,114,100])=false:=Zq hx0 (by rw[ByteArray.toList_eq])
 have e1:(x.toList==[100,101,114,105,118,101])=false:=Zq hx1 (by rw[ByteArray.toList_eq])
 have e2:(x.toList==[97,112,112,108,121])=false:=Zq hx2 (by rw[ByteArray.toList_eq])
 have e3:(x.toList==[112,97,114,101,110,116])=false:=Zq hx3 (by rw[ByteArray.toList_eq])
 have e4:(x.toList==[116,117,114,110])=false:=Zq hx4 (by rw[ByteArray.toList_eq])
 have e5:(x.toList==[99,108,111,115,101])=false:=Zq hx5 (by rw[ByteArray.toList_eq])
 have e6:(x.toList==[102,105,120,101,100])=false:=Zq hx6 (by rw[ByteArray.toList_eq])
 have e7:(x.toList==[103,114,111,119])=false:=Zq hx7 (by rw[ByteArray.toList_eq])
 have e8:(x.toList==[115,104,105,102,116])=false:=Zq hx8 (by rw[ByteArray.toList_eq])
 have e9:(x.toList==[115,101,108,102])=false:=Zq hx9 (by rw[ByteArray.toList_eq])
 have e10:(x.toList==[102,111,108,100])=false:=Zq hx10 (by rw[ByteArray.toList_eq])
 have e11:(x.toList==[115,108,111,112,101])=false:=Zq hx11 (by rw[ByteArray.toList_eq])
 clear q0 q1 q2 q3 q4 q5 q6 hx0 hx1 hx2 hx3 hx4 hx5 hx6 hx7 hx8 hx9 hx10 hx11
 by_cases hc1:cl=1
 ·subst hc1
  go_enter Tryz.func42,Tryz.ntmps42
  go_wp2_with (go_at_call 83;refine (HNU.o _ _ _ (fun k u hu=>by simp at hu)).mono ?_;rintro e w6 ⟨A6,c6,rfl,o6,b6⟩;have X6:=HX0.o.step b6;have c0:=X6.c0;have c1:=X6.c1;have k0:=(HQ.o _ X6).2.2.2 0 _ rfl;have B6:=Hd X6.bel;clear o6)
  go_ret3
  exact⟨rfl,B6.out⟩
 ·go_enter Tryz.func42,Tryz.ntmps42
  go_wp2_with (go_at_call 83;refine (HNU.o _ _ _ (fun k u hu=>by simp at hu)).mono ?_;rintro e w6 ⟨A6,c6,rfl,o6,b6⟩;have X6:=HX0.o.step b6;have c0:=X6.c0;have c1:=X6.c1;have k0:=(HQ.o _ X6).2.2.2 0 _ rfl;have B6:=Hd X6.bel;clear o6)
  go_ret3
  exact⟨rfl,B6.out⟩
theorem Zkq (zs:List ByteArray) (v:ByteArray) (gl cl:Nat) (A:Option Addr) (c B:Nat) (w:World) (x:ByteArray) (rs:List ByteArray) (a0:Int) (hx:x=({ data:=#[103,114,111,119] }:ByteArray)) (hps:∀ p∈rs,p.size≤1048576) (hns:Zt rs=some [a0]) (hsu:Zf zs=true) (hw:isW (L v)=true) (q:StrAt w gl cl (x :: rs)) (ho:Own w B 9 (.slice A zs.length c) (zs.map Value.string)) (hB:B≤w.heap.size) :
  Calls Tryz.prog 42 #[.agg #[.slice A zs.length c,.string v],.slice (some ⟨gl,0,none⟩) 2 cl] w fun e w'=>e=.returned (.tuple #[.string ((okW (itV zs v a0)).1),.bool ((okW (itV zs v a0)).2),.bool true])∧Below w.heap.size w w':=by
 have X0:=BO.new w A zs.length c v
 have hx4:=Zb hw
 obtain⟨hz4,hz⟩:=ZE hsu
 obtain⟨w2,hw2⟩:∃ w2,w.alloc (.cells #[.slice A zs.length c,.string v] 28)=w2:=⟨_,rfl⟩
 rw[hw2] at X0
 have c0:=X0.c0;have c1:=X0.c1
 have X1:=X0.dr
 have HX0:=Hd X0;have HX1:=Hd X1
 have HRD:=Hd (fun w' (X:BO w w' A zs.length c v)=>(ho.below X.bel).reads)
 have HQ:=Hd (fun w' (X:BO w w' A zs.length c v)=>q.below X.bel)
 obtain⟨e0,e1,e2,e3,e4,e5,e6,e7,e8,e9,e10,e11⟩:=Zh8 hx
 have k0:=(HQ.o _ HX0.o).2.2.2 0 _ rfl
 have hrm:rs.length=1:=by rw[← ZL hns];rfl
 have hc1:¬ cl=1:=by have:=q.1;rw[List.length_cons] at this;omega
 have hnu:=fun w' A0 c0 (r:Rds w' w'.heap.size A0 (rs.map Value.string))=>Zv rs A0 c0 w'.heap.size w' (by omega) hps r nlr
 have h64:=Qe hns
 rw[hrm,hns] at hnu
 simp only[Option.getD_some,Option.isSome_some,List.length_cons,List.length_nil,Nat.zero_add] at hnu
 have hcl:=fun w' (X:BO w w' A zs.length c v)=>Zg2 zs A c _ v a0 w' hsu hw (HRD.o _ X) nlr
 obtain⟨o,hov⟩:∃ o,itV zs v a0=o:=⟨_,rfl⟩
 rw[hov]
 simp only[hov] at hcl
 unfold okS at hcl
 unfold okW
 have HCL:=Hd hcl;have HNU:=Hd hnu
 clear hcl hnu hns hps hrm h64 hov
 clear hx hsu hw q ho hz hx4 hz4 X0 X1
 go_enter Tryz.func42,Tryz.ntmps42
 go_wp2_with (go_at_call 83;refine (HNU.o _ _ _ (HQ.o _ HX0.o).tail).mono ?_;rintro e w6 ⟨A6,c6,rfl,o6,b6⟩;have X6:=HX0.o.step b6;have c0:=X6.c0;have c1:=X6.c1;have k0:=(HQ.o _ X6).2.2.2 0 _ rfl;have B6:=Hd X6.bel;obtain⟨g6,rfl,i6⟩:=Own.intAt (ss:=[a0]) o6 (by simp);have m0:=i6.2.2.2 0 _ rfl;have HX6:=Hd X6;have HX6d:=Hd X6.dr;clear o6 i6)
 go_region_with (go_at_call 100;refine (HCL.o _ HX6d.o).mono ?_;rintro e w7 ⟨rfl,b7⟩;have X7:=HX6d.o.step b7;have c0:=X7.c0;have c1:=X7.c1;have k0:=(HQ.o _ X7).2.2.2 0 _ rfl;have B7:=Hd X7.bel)
 all_goals
  go_wp2_with fail
  go_ret3
  exact⟨rfl,B7.out⟩
theorem Zie (zs:List ByteArray) (v:ByteArray) (gl cl:Nat) (A:Option Addr) (c B:Nat) (w:World) (x:ByteArray) (rs:List ByteArray) (a0:Int) (hx:x=({ data:=#[115,104,105,102,116] }:ByteArray)) (hps:∀ p∈rs,p.size≤1048576) (hns:Zt rs=some [a0]) (hsu:Zf zs=true) (hw:isW (L v)=true) (q:StrAt w gl cl (x :: rs)) (ho:Own w B 9 (.slice A zs.length c) (zs.map Value.string)) (hB:B≤w.heap.size) :
  Calls Tryz.prog 42 #[.agg #[.slice A zs.length c,.string v],.slice (some ⟨gl,0,none⟩) 2 cl] w fun e w'=>e=.returned (.tuple #[.string (shW v a0),.bool (true),.bool true])∧Below w.heap.size w w':=by
 have X0:=BO.new w A zs.length c v
 have hx4:=Zb hw
 obtain⟨hz4,hz⟩:=ZE hsu
 obtain⟨w2,hw2⟩:∃ w2,w.alloc (.cells #[.slice A zs.length c,.string v] 28)=w2:=⟨_,rfl⟩
 rw[hw2] at X0
 have c0:=X0.c0;have c1:=X0.c1
 have X1:=X0.dr
 have HX0:=Hd X0;have HX1:=Hd X1
 have HRD:=Hd (fun w' (X:BO w w' A zs.length c v)=>(ho.below X.bel).reads)
 have HQ:=Hd (fun w' (X:BO w w' A zs.length c v)=>q.below X.bel)
 obtain⟨e0,e1,e2,e3,e4,e5,e6,e7,e8,e9,e10,e11⟩:=Zh9 hx
 have k0:=(HQ.o _ HX0.o).2.2.2 0 _ rfl
 have hrm:rs.length=1:=by rw[← ZL hns];rfl
 have hc1:¬ cl=1:=by have:=q.1;rw[List.length_cons] at this;omega
 have hnu:=fun w' A0 c0 (r:Rds w' w'.heap.size A0 (rs.map Value.string))=>Zv rs A0 c0 w'.heap.size w' (by omega) hps r nlr
 have h64:=Qe hns
 rw[hrm,hns] at hnu
 simp only[Option.getD_some,Option.isSome_some,List.length_cons,List.length_nil,Nat.zero_add] at hnu
 have hcl:=fun w'=>Zd6 v a0 hw w'
 obtain⟨u,hov⟩:∃ u,shW v a0=u:=⟨_,rfl⟩
 rw[hov]
 simp only[hov] at hcl
 have HCL:=Hd hcl;have HNU:=Hd hnu
 clear hcl hnu hns hps hrm h64 hov
 clear hx hsu hw q ho hz hx4 hz4 X0 X1
 go_enter Tryz.func42,Tryz.ntmps42
 go_wp2_with (go_at_call 83;refine (HNU.o _ _ _ (HQ.o _ HX0.o).tail).mono ?_;rintro e w6 ⟨A6,c6,rfl,o6,b6⟩;have X6:=HX0.o.step b6;have c0:=X6.c0;have c1:=X6.c1;have k0:=(HQ.o _ X6).2.2.2 0 _ rfl;have B6:=Hd X6.bel;obtain⟨g6,rfl,i6⟩:=Own.intAt (ss:=[a0]) o6 (by simp);have m0:=i6.2.2.2 0 _ rfl;have HX6:=Hd X6;have HX6d:=Hd X6.dr;clear o6 i6)
 go_region_with (go_at_call 101;refine (HCL.o _).mono ?_;rintro e w7 ⟨rfl,b7⟩;have X7:=HX6d.o.step b7;have c0:=X7.c0;have c1:=X7.c1;have k0:=(HQ.o _ X7).2.2.2 0 _ rfl;have B7:=Hd X7.bel)
 all_goals
  go_wp2_with fail
  go_ret3
  exact⟨rfl,B7.out⟩
theorem Zkr (zs:List ByteArray) (v:ByteArray) (gl cl:Nat) (A:Option Addr) (c B:Nat) (w:World) (x:ByteArray) (rs:List ByteArray) (a0:Int) (hx:x=({ data:=#[115,101,108,102] }:ByteArray)) (hps:∀ p∈rs,p.size≤1048576) (hns:Zt rs=some [a0]) (hsu:Zf zs=true) (hw:isW (L v)=true) (q:StrAt w gl cl (x :: rs)) (ho:Own w B 9 (.slice A zs.length c) (zs.map Value.string)) (hB:B≤w.heap.size) :
  Calls Tryz.prog 42 #[.agg #[.slice A zs.length c,.string v],.slice (some ⟨gl,0,none⟩) 2 cl] w fun e w'=>e=.returned (.tuple #[.string ((okW (sgV a0)).1),.bool ((okW (sgV a0)).2),.bool true])∧Below w.heap.size w w':=by
 have X0:=BO.new w A zs.length c v
 have hx4:=Zb hw
 obtain⟨hz4,hz⟩:=ZE hsu
 obtain⟨w2,hw2⟩:∃ w2,w.alloc (.cells #[.slice A zs.length c,.string v] 28)=w2:=⟨_,rfl⟩
 rw[hw2] at X0
 have c0:=X0.c0;have c1:=X0.c1
 have X1:=X0.dr
 have HX0:=Hd X0;have HX1:=Hd X1
 have HRD:=Hd (fun w' (X:BO w w' A zs.length c v)=>(ho.below X.bel).reads)
 have HQ:=Hd (fun w' (X:BO w w' A zs.length c v)=>q.below X.bel)
 obtain⟨e0,e1,e2,e3,e4,e5,e6,e7,e8,e9,e10,e11⟩:=Zia hx
 have k0:=(HQ.o _ HX0.o).2.2.2 0 _ rfl
 have hrm:rs.length=1:=by rw[← ZL hns];rfl
 have hc1:¬ cl=1:=by have:=q.1;rw[List.length_cons] at this;omega
 have hnu:=fun w' A0 c0 (r:Rds w' w'.heap.size A0 (rs.map Value.string))=>Zv rs A0 c0 w'.heap.size w' (by omega) hps r nlr
 have h64:=Qe hns
 rw[hrm,hns] at hnu
 simp only[Option.getD_some,Option.isSome_some,List.length_cons,List.length_nil,Nat.zero_add] at hnu
 have hcl:=fun w'=>ZhA a0 w'
 obtain⟨o,hov⟩:∃ o,sgV a0=o:=⟨_,rfl⟩
 rw[hov]
 simp only[hov] at hcl
 unfold okW
 have HCL:=Hd hcl;have HNU:=Hd hnu
 clear hcl hnu hns hps hrm h64 hov
 clear hx hsu hw q ho hz hx4 hz4 X0 X1
 go_enter Tryz.func42,Tryz.ntmps42
 go_wp2_with (first|(go_at_call 83;refine (HNU.o _ _ _ (HQ.o _ HX0.o).tail).mono ?_;rintro e w6 ⟨A6,c6,rfl,o6,b6⟩;have X6:=HX0.o.step b6;have c0:=X6.c0;have c1:=X6.c1;have k0:=(HQ.o _ X6).2.2.2 0 _ rfl;have B6:=Hd X6.bel;obtain⟨g6,rfl,i6⟩:=Own.intAt (ss:=[a0]) o6 (by simp);have m0:=i6.2.2.2 0 _ rfl;have HX6:=Hd X6;have HX6d:=Hd X6.dr;clear o6 i6)|(go_at_call 102;refine (HCL.o _).mono ?_;rintro e w7 ⟨rfl,b7⟩;have X7:=HX6.o.step b7;have c0:=X7.c0;have c1:=X7.c1;have k0:=(HQ.o _ X7).2.2.2 0 _ rfl;have B7:=Hd X7.bel))
 go_ret3
 exact⟨rfl,B7.out⟩
theorem Zks (zs:List ByteArray) (v:ByteArray) (gl cl:Nat) (A:Option Addr) (c B:Nat) (w:World) (x:ByteArray) (rs:List ByteArray) (a0:Int) (hx:x=({ data:=#[102,111,108,100] }:ByteArray)) (hps:∀ p∈rs,p.size≤1048576) (hns:Zt rs=some [a0]) (hsu:Zf zs=true) (hw:isW (L v)=true) (q:StrAt w gl cl (x :: rs)) (ho:Own w B 9 (.slice A zs.length c) (zs.map Value.string)) (hB:B≤w.heap.size) :
  Calls Tryz.prog 42 #[.agg #[.slice A zs.length c,.string v],.slice (some ⟨gl,0,none⟩) 2 cl] w fun e w'=>e=.returned (.tuple #[.string ((okW (fdV a0)).1),.bool ((okW (fdV a0)).2),.bool true])∧Below w.heap.size w w':=by
 have X0:=BO.new w A zs.length c v
 have hx4:=Zb hw
 obtain⟨hz4,hz⟩:=ZE hsu
 obtain⟨w2,hw2⟩:∃ w2,w.alloc (.cells #[.slice A zs.length c,.string v] 28)=w2:=⟨_,rfl⟩
 rw[hw2] at X0
 have c0:=X0.c0;have c1:=X0.c1
 have X1:=X0.dr
 have HX0:=Hd X0;have HX1:=Hd X1
 have HRD:=Hd (fun w' (X:BO w w' A zs.length c v)=>(ho.below X.bel).reads)
 have HQ:=Hd (fun w' (X:BO w w' A zs.length c v)=>q.below X.bel)
 obtain⟨e0,e1,e2,e3,e4,e5,e6,e7,e8,e9,e10,e11⟩:=ZeB hx
 have k0:=(HQ.o _ HX0.o).2.2.2 0 _ rfl
 have hrm:rs.length=1:=by rw[← ZL hns];rfl
 have hc1:¬ cl=1:=by have:=q.1;rw[List.length_cons] at this;omega
 have hnu:=fun w' A0 c0 (r:Rds w' w'.heap.size A0 (rs.map Value.string))=>Zv rs A0 c0 w'.heap.size w' (by omega) hps r nlr
 have h64:=Qe hns
 rw[hrm,hns] at hnu
 simp only[Option.getD_some,Option.isSome_some,List.length_cons,List.length_nil,Nat.zero_add] at hnu
 have hcl:=fun w'=>ZgP a0 w'
 obtain⟨o,hov⟩:∃ o,fdV a0=o:=⟨_,rfl⟩
 rw[hov]
 simp only[hov] at hcl
 unfold okS at hcl
 unfold okW
 have HCL:=Hd hcl;have HNU:=Hd hnu
 clear hcl hnu hns hps hrm h64 hov
 clear hx hsu hw q ho hz hx4 hz4 X0 X1
 go_enter Tryz.func42,Tryz.ntmps42
 go_wp2_with (first|(go_at_call 83;refine (HNU.o _ _ _ (HQ.o _ HX0.o).tail).mono ?_;rintro e w6 ⟨A6,c6,rfl,o6,b6⟩;have X6:=HX0.o.step b6;have c0:=X6.c0;have c1:=X6.c1;have k0:=(HQ.o _ X6).2.2.2 0 _ rfl;have B6:=Hd X6.bel;obtain⟨g6,rfl,i6⟩:=Own.intAt (ss:=[a0]) o6 (by simp);have m0:=i6.2.2.2 0 _ rfl;have HX6:=Hd X6;have HX6d:=Hd X6.dr;clear o6 i6)|(go_at_call 103;refine (HCL.o _).mono ?_;rintro e w7 ⟨rfl,b7⟩;have X7:=HX6.o.step b7;have c0:=X7.c0;have c1:=X7.c1;have k0:=(HQ.o _ X7).2.2.2 0 _ rfl;have B7:=Hd X7.bel))
 go_ret3
 exact⟨rfl,B7.out⟩
theorem Zif (zs:List ByteArray) (v:ByteArray) (gl cl:Nat) (A:Option Addr) (c B:Nat) (w:World) (x:ByteArray) (rs:List ByteArray) (a0 a1 a2:Int) (hx:x=({ data:=#[115,108,111,112,101] }:ByteArray)) (hps:∀ p∈rs,p.size≤1048576) (hns:Zt rs=some [a0,a1,a2]) (hsu:Zf zs=true) (hw:isW (L v)=true) (q:StrAt w gl cl (x :: rs)) (ho:Own w B 9 (.slice A zs.length c) (zs.map Value.string)) (hB:B≤w.heap.size) :
  Calls Tryz.prog 42 #[.agg #[.slice A zs.length c,.string v],.slice (some ⟨gl,0,none⟩) 4 cl] w fun e w'=>e=.returned (.tuple #[.string ((okW (mcV a0 a1 a2)).1),.bool ((okW (mcV a0 a1 a2)).2),.bool true])∧Below w.heap.size w w':=by
 have X0:=BO.new w A zs.length c v
 have hx4:=Zb hw
 obtain⟨hz4,hz⟩:=ZE hsu
 obtain⟨w2,hw2⟩:∃ w2,w.alloc (.cells #[.slice A zs.length c,.string v] 28)=w2:=⟨_,rfl⟩
 rw[hw2] at X0
 have c0:=X0.c0;have c1:=X0.c1
 have X1:=X0.dr
 have HX0:=Hd X0;have HX1:=Hd X1
 have HRD:=Hd (fun w' (X:BO w w' A zs.length c v)=>(ho.below X.bel).reads)
 have HQ:=Hd (fun w' (X:BO w w' A zs.length c v)=>q.below X.bel)
 obtain⟨e0,e1,e2,e3,e4,e5,e6,e7,e8,e9,e10,e11⟩:=ZeC hx
 have k0:=(HQ.o _ HX0.o).2.2.2 0 _ rfl
 have hrm:rs.length=3:=by rw[← ZL hns];rfl
 have hc1:¬ cl=1:=by have:=q.1;rw[List.length_cons] at this;omega
 have hnu:=fun w' A0 c0 (r:Rds w' w'.heap.size A0 (rs.map Value.string))=>Zv rs A0 c0 w'.heap.size w' (by omega) hps r nlr
 have h64:=Qe hns
 rw[hrm,hns] at hnu
 simp only[Option.getD_some,Option.isSome_some,List.length_cons,List.length_nil,Nat.zero_add,Nat.reduceAdd] at hnu
 have hcl:=fun w'=>Zg9 a0 a1 a2 (h64 _ (by simp)) (h64 _ (by simp)) (h64 _ (by simp)) w'
 obtain⟨o,hov⟩:∃ o,mcV a0 a1 a2=o:=⟨_,rfl⟩
 rw[hov]
 simp only[hov] at hcl
 unfold okS at hcl
 unfold okW
 have HCL:=Hd hcl;have HNU:=Hd hnu
 clear hcl hnu hns hps hrm h64 hov
 clear hx hsu hw q ho hz hx4 hz4 X0 X1
 go_enter Tryz.func42,Tryz.ntmps42
 go_wp2_with (go_at_call 83;refine (HNU.o _ _ _ (HQ.o _ HX0.o).tail).mono ?_;rintro e w6 ⟨A6,c6,rfl,o6,b6⟩;have X6:=HX0.o.step b6;have c0:=X6.c0;have c1:=X6.c1;have k0:=(HQ.o _ X6).2.2.2 0 _ rfl;have B6:=Hd X6.bel;obtain⟨g6,rfl,i6⟩:=Own.intAt (ss:=[a0,a1,a2]) o6 (by simp);have m0:=i6.2.2.2 0 _ rfl;have m1:=i6.2.2.2 1 _ rfl;have m2:=i6.2.2.2 2 _ rfl;have HX6:=Hd X6;have HX6d:=Hd X6.dr;clear o6 i6)
 go_region_with (go_at_call 104;refine (HCL.o _).mono ?_;rintro e w7 ⟨rfl,b7⟩;have X7:=HX6d.o.step b7;have c0:=X7.c0;have c1:=X7.c1;have k0:=(HQ.o _ X7).2.2.2 0 _ rfl;have B7:=Hd X7.bel)
 all_goals
  go_wp2_with fail
  go_ret3
  exact⟨rfl,B7.out⟩
theorem XK (zs:List ByteArray) (v:ByteArray) (gl cl:Nat) (A:Option Addr) (c B:Nat) (w:World) (x:ByteArray) (rs:List ByteArray) (n:Nat) (hn:rs.length+1=n) (hn9:n≤1048577) (hps:∀ p∈rs,p.size≤1048576) (q0:x=({ data:=#[119,111,114,100] }:ByteArray)→n≠2) (q1:x=({ data:=#[100,101,114,105,118,101] }:ByteArray)→n≠2) (q2:x=({ data:=#[97,112,112,108,121] }:ByteArray)→n≠1) (q3:x=({ data:=#[112,97,114,101,110,116] }:ByteArray)→n≠1) (q4:x=({ data:=#[116,117,114,110] }:ByteArray)→n≠1) (q5:x=({ data:=#[99,108,111,115,101] }:ByteArray)→n≠1) (q6:x=({ data:=#[102,105,120,101,100] }:ByteArray)→n≠3) (hsu:Zf zs=true) (hw:isW (L v)=true) (q:StrAt w gl cl (x :: rs)) (ho:Own w B 9 (.slice A zs.length c) (zs.map Value.string)) (hB:B≤w.heap.size) :
  Calls Tryz.prog 42 #[.agg #[.slice A zs.length c,.string v],.slice (some ⟨gl,0,none⟩) n cl] w fun e w'=>e=.returned (.tuple #[.string ((wdM zs v x rs).getD (({ data:=#[] },false):ByteArray × Bool)).1,.bool ((wdM zs v x rs).getD (({ data:=#[] },false):ByteArray × Bool)).2,.bool (wdM zs v x rs).isSome])∧Below w.heap.size w w':=by
 cases hns:Zt rs with
 | none =>
  have hv:wdM zs v x rs=none:=by rw[wdM,hns];rfl
  rw[hv]
  exact Zkp zs v gl cl A c B w x rs n hn hn9 hps (by cases rs with|nil=>cases hns|cons a b=>rw[List.length_cons] at hn;omega) hns q0 q1 q2 q3 q4 q5 q6 hsu hw q ho hB
 | some ns =>
  have hv:wdM zs v x rs=wdN zs v x ns:=by rw[wdM,hns];rfl
  have hl:=ZL hns
  rw[hv]
  match ns,hns,hl with
  | [],hns,hl =>
   obtain rfl:rs=[]:=List.eq_nil_of_length_eq_zero hl.symm
   obtain rfl:n=1:=hn.symm
   exact Zid zs v gl cl A c B w x q0 q1 q2 q3 q4 q5 q6 hsu hw q ho hB
  | [a0],hns,hl =>
   obtain rfl:n=2:=by simp at hl;omega
   by_cases hy0:x=({ data:=#[103,114,111,119] }:ByteArray)
   ·have hv:wdN zs v x [a0]=some (okW (itV zs v a0)):=by subst hy0;rfl
    rw[hv]
    exact Zkq zs v gl cl A c B w x rs a0 hy0 hps hns hsu hw q ho hB
   by_cases hy1:x=({ data:=#[115,104,105,102,116] }:ByteArray)
   ·have hv:wdN zs v x [a0]=some ((shW v a0,true)):=by subst hy1;rfl
    rw[hv]
    exact Zie zs v gl cl A c B w x rs a0 hy1 hps hns hsu hw q ho hB
   by_cases hy2:x=({ data:=#[115,101,108,102] }:ByteArray)
   ·have hv:wdN zs v x [a0]=some (okW (sgV a0)):=by subst hy2;rfl
    rw[hv]
    exact Zkr zs v gl cl A c B w x rs a0 hy2 hps hns hsu hw q ho hB
   by_cases hy3:x=({ data:=#[102,111,108,100] }:ByteArray)
   ·have hv:wdN zs v x [a0]=some (okW (fdV a0)):=by subst hy3;rfl
    rw[hv]
    exact Zks zs v gl cl A c B w x rs a0 hy3 hps hns hsu hw q ho hB
   have hv:wdN zs v x [a0]=none:=by simp only[wdN];rw[if_neg hy0,if_neg hy1,if_neg hy2,if_neg hy3]
   rw[hv]
   exact XJ zs v gl cl A c B w x rs 2 hn hn9 hps (by decide) [a0] hns 1 rfl q0 q1 q2 q3 q4 q5 q6 (fun h=>absurd h hy0) (fun h=>absurd h hy1) (fun h=>absurd h hy2) (fun h=>absurd h hy3) (fun _=>by decide) hsu hw q ho hB
  | [a0,a1],hns,hl =>
   obtain rfl:n=3:=by simp at hl;omega
   have hv:wdN zs v x [a0,a1]=none:=rfl
   rw[hv]
   exact XJ zs v gl cl A c B w x rs 3 hn hn9 hps (by decide) [a0,a1] hns 2 rfl q0 q1 q2 q3 q4 q5 q6 (fun _=>by decide) (fun _=>by decide) (fun _=>by decide) (fun _=>by decide) (fun _=>by decide) hsu hw q ho hB
  | [a0,a1,a2],hns,hl =>
   obtain rfl:n=4:=by simp at hl;omega
   by_cases hy4:x=({ data:=#[115,108,111,112,101] }:ByteArray)
   ·have hv:wdN zs v x [a0,a1,a2]=some (okW (mcV a0 a1 a2)):=by subst hy4;rfl
    rw[hv]
    exact Zif zs v gl cl A c B w x rs a0 a1 a2 hy4 hps hns hsu hw q ho hB
   have hv:wdN zs v x [a0,a1,a2]=none:=by simp only[wdN];rw[if_neg hy4]
   rw[hv]
   exact XJ zs v gl cl A c B w x rs 4 hn hn9 hps (by decide) [a0,a1,a2] hns 3 rfl q0 q1 q2 q3 q4 q5 q6 (fun _=>by decide) (fun _=>by decide) (fun _=>by decide) (fun _=>by decide) (fun h=>absurd h hy4) hsu hw q ho hB
  | a :: b :: d :: e :: l,hns,hl=>exact XJ zs v gl cl A c B w x rs n hn hn9 hps (by simp at hl;omega) (a :: b :: d :: e :: l) hns _ rfl q0 q1 q2 q3 q4 q5 q6 (fun _=>by simp) (fun _=>by simp) (fun _=>by simp) (fun _=>by simp) (fun _=>by simp) hsu hw q ho hB
theorem ZcZ (zs:List ByteArray) (v:ByteArray) (ps:List ByteArray) (gl cl:Nat) (A:Option Addr) (c B:Nat) (w:World) (h0:ps≠[]) (hn9:ps.length≤1048577) (hps:∀ p∈ps,p.size≤1048576) (hsu:Zf zs=true) (hw:isW (L v)=true) (q:StrAt w gl cl ps) (ho:Own w B 9 (.slice A zs.length c) (zs.map Value.string)) (hB:B≤w.heap.size) :
  Calls Tryz.prog 42 #[.agg #[.slice A zs.length c,.string v],.slice (some ⟨gl,0,none⟩) ps.length cl] w fun e w'=>e=.returned (.tuple #[.string ((wdV zs v ps).getD (({ data:=#[] },false):ByteArray × Bool)).1,.bool ((wdV zs v ps).getD (({ data:=#[] },false):ByteArray × Bool)).2,.bool (wdV zs v ps).isSome])∧Below w.heap.size w w':=by
 match ps,h0,hn9,hps,q with
 | [x],_,hn9,hps,q =>
  by_cases hx2:x=({ data:=#[97,112,112,108,121] }:ByteArray)
  ·have hv:wdV zs v [x]=some (okW (itV zs v 1)):=by subst hx2;rfl
   rw[hv]
   exact Zib zs v gl cl A c B w x hx2 hsu hw q ho hB
  by_cases hx3:x=({ data:=#[112,97,114,101,110,116] }:ByteArray)
  ·have hv:wdV zs v [x]=some (okW (paV zs v)):=by subst hx3;rfl
   rw[hv]
   exact ZgF zs v gl cl A c B w x hx3 hsu hw q ho hB
  by_cases hx4:x=({ data:=#[116,117,114,110] }:ByteArray)
  ·have hv:wdV zs v [x]=some ((trW v,true)):=by subst hx4;rfl
   rw[hv]
   exact Zkm zs v gl cl A c B w x hx4 hsu hw q ho hB
  by_cases hx5:x=({ data:=#[99,108,111,115,101] }:ByteArray)
  ·have hv:wdV zs v [x]=some ((clV v,true)):=by subst hx5;rfl
   rw[hv]
   exact Zic zs v gl cl A c B w x hx5 hsu hw q ho hB
  have hv:wdV zs v [x]=wdM zs v x []:=by
   have h2:wdM zs v x []=none:=rfl
   rw[h2];simp only[wdV];rw[if_neg hx2,if_neg hx3,if_neg hx4,if_neg hx5]
  rw[hv]
  exact XK zs v gl cl A c B w x [] 1 rfl (by decide) (fun p hp=>by cases hp) (fun _=>by decide) (fun _=>by decide) (fun h=>absurd h hx2) (fun h=>absurd h hx3) (fun h=>absurd h hx4) (fun h=>absurd h hx5) (fun _=>by decide) hsu hw q ho hB
 | [x,t],_,hn9,hps,q =>
  by_cases hx0:x=({ data:=#[119,111,114,100] }:ByteArray)
  ·have hv:wdV zs v [x,t]=some (t,isW (L t)):=by subst hx0;rfl
   rw[hv]
   exact Zkl zs v gl cl A c B w x t hx0 (hps t (by simp)) hsu hw q ho hB
  by_cases hx1:x=({ data:=#[100,101,114,105,118,101] }:ByteArray)
  ·have hv:wdV zs v [x,t]=some (drS v t,drB v t):=by subst hx1;rfl
   rw[hv]
   exact ZgE zs v gl cl A c B w x t hx1 (hps t (by simp)) hsu hw q ho hB
  have hv:wdV zs v [x,t]=wdM zs v x [t]:=by simp only[wdV];rw[if_neg hx0,if_neg hx1]
  rw[hv]
  exact XK zs v gl cl A c B w x [t] 2 rfl (by decide) (fun p hp=>hps p (List.mem_cons_of_mem _ hp)) (fun h=>absurd h hx0) (fun h=>absurd h hx1) (fun _=>by decide) (fun _=>by decide) (fun _=>by decide) (fun _=>by decide) (fun _=>by decide) hsu hw q ho hB
 | [x,t,m],_,hn9,hps,q =>
  by_cases hx6:x=({ data:=#[102,105,120,101,100] }:ByteArray)
  ·have hv:wdV zs v [x,t,m]=(iP m).bind fun n=>some (okW (fxV zs t n)):=by subst hx6;rfl
   rw[hv]
   cases hi:iP m with
   | none=>exact Zkn zs v gl cl A c B w x t m hx6 (hps t (by simp)) (hps m (by simp)) hi hsu hw q ho hB
   | some a0=>exact Zko zs v gl cl A c B w x t m a0 hx6 (hps t (by simp)) (hps m (by simp)) hi hsu hw q ho hB
  have hv:wdV zs v [x,t,m]=wdM zs v x [t,m]:=by simp only[wdV];rw[if_neg hx6]
  rw[hv]
  exact XK zs v gl cl A c B w x [t,m] 3 rfl (by decide) (fun p hp=>hps p (List.mem_cons_of_mem _ hp)) (fun _=>by decide) (fun _=>by decide) (fun _=>by decide) (fun _=>by decide) (fun _=>by decide) (fun _=>by decide) (fun h=>absurd h hx6) hsu hw q ho hB
 | x :: t :: m :: y :: l,_,hn9,hps,q =>
  exact XK zs v gl cl A c B w x (t :: m :: y :: l) (l.length+1+1+1+1) rfl hn9 (fun p hp=>hps p (List.mem_cons_of_mem _ hp)) (fun _=>by omega) (fun _=>by omega) (fun _=>by omega) (fun _=>by omega) (fun _=>by omega) (fun _=>by omega) (fun _=>by omega) hsu hw q ho hB
end Go.Proofs.YtocbgldilgemoaaGreatDoor
