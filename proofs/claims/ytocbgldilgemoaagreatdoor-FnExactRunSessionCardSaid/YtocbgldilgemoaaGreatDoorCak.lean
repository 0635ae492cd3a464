/- Lines that ask (the reference's). No condition but the bounds. -/
import Derived.Test.YtocbgldilgemoaaGreatDoorStl
import Derived.Test.YtocbgldilgemoaaGreatDoorRls
namespace Go.Proofs.YtocbgldilgemoaaGreatDoor
set_option maxRecDepth 8000
set_option maxHeartbeats 8000000
open Go.RowKit
set_option linter.unusedVariables false
theorem Zbi {x:ByteArray} (hx:x=({ data:=#[115,104,111,119] }:ByteArray)):(x.toList==[115,104,111,119])=true∧(x.toList==[108,105,110,101])=false∧(x.toList==[115,117,98,115,116])=false∧(x.toList==[112,97,114,116,115])=false∧(x.toList==[114,101,116,117,114,110,115])=false∧(x.toList==[102,97,99,116,111,114,115])=false∧(x.toList==[110,117,109,98,101,114])=false∧(x.toList==[103,111,108,100])=false∧(x.toList==[113,117,111,116,105,101,110,116,115])=false∧(x.toList==[103,97,112,115])=false:=by rw[hx,ByteArray.toList_eq];exact⟨rfl,rfl,rfl,rfl,rfl,rfl,rfl,rfl,rfl,rfl⟩
theorem Zbj {x:ByteArray} (hx:x=({ data:=#[108,105,110,101] }:ByteArray)):(x.toList==[115,104,111,119])=false∧(x.toList==[108,105,110,101])=true∧(x.toList==[115,117,98,115,116])=false∧(x.toList==[112,97,114,116,115])=false∧(x.toList==[114,101,116,117,114,110,115])=false∧(x.toList==[102,97,99,116,111,114,115])=false∧(x.toList==[110,117,109,98,101,114])=false∧(x.toList==[103,111,108,100])=false∧(x.toList==[113,117,111,116,105,101,110,116,115])=false∧(x.toList==[103,97,112,115])=false:=by rw[hx,ByteArray.toList_eq];exact⟨rfl,rfl,rfl,rfl,rfl,rfl,rfl,rfl,rfl,rfl⟩
theorem Zbk {x:ByteArray} (hx:x=({ data:=#[115,117,98,115,116] }:ByteArray)):(x.toList==[115,104,111,119])=false∧(x.toList==[108,105,110,101])=false∧(x.toList==[115,117,98,115,116])=true∧(x.toList==[112,97,114,116,115])=false∧(x.toList==[114,101,116,117,114,110,115])=false∧(x.toList==[102,97,99,116,111,114,115])=false∧(x.toList==[110,117,109,98,101,114])=false∧(x.toList==[103,111,108,100])=false∧(x.toList==[113,117,111,116,105,101,110,116,115])=false∧(x.toList==[103,97,112,115])=false:=by rw[hx,ByteArray.toList_eq];exact⟨rfl,rfl,rfl,rfl,rfl,rfl,rfl,rfl,rfl,rfl⟩
theorem Zbl {x:ByteArray} (hx:x=({ data:=#[112,97,114,116,115] }:ByteArray)):(x.toList==[115,104,111,119])=false∧(x.toList==[108,105,110,101])=false∧(x.toList==[115,117,98,115,116])=false∧(x.toList==[112,97,114,116,115])=true∧(x.toList==[114,101,116,117,114,110,115])=false∧(x.toList==[102,97,99,116,111,114,115])=false∧(x.toList==[110,117,109,98,101,114])=false∧(x.toList==[103,111,108,100])=false∧(x.toList==[113,117,111,116,105,101,110,116,115])=false∧(x.toList==[103,97,112,115])=false:=by rw[hx,ByteArray.toList_eq];exact⟨rfl,rfl,rfl,rfl,rfl,rfl,rfl,rfl,rfl,rfl⟩
theorem Zbm {x:ByteArray} (hx:x=({ data:=#[114,101,116,117,114,110,115] }:ByteArray)):(x.toList==[115,104,111,119])=false∧(x.toList==[108,105,110,101])=false∧(x.toList==[115,117,98,115,116])=false∧(x.toList==[112,97,114,116,115])=false∧(x.toList==[114,101,116,117,114,110,115])=true∧(x.toList==[102,97,99,116,111,114,115])=false∧(x.toList==[110,117,109,98,101,114])=false∧(x.toList==[103,111,108,100])=false∧(x.toList==[113,117,111,116,105,101,110,116,115])=false∧(x.toList==[103,97,112,115])=false:=by rw[hx,ByteArray.toList_eq];exact⟨rfl,rfl,rfl,rfl,rfl,rfl,rfl,rfl,rfl,rfl⟩
theorem Zel {x:ByteArray} (hx:x=({ data:=#[102,97,99,116,111,114,115] }:ByteArray)):(x.toList==[115,104,111,119])=false∧(x.toList==[108,105,110,101])=false∧(x.toList==[115,117,98,115,116])=false∧(x.toList==[112,97,114,116,115])=false∧(x.toList==[114,101,116,117,114,110,115])=false∧(x.toList==[102,97,99,116,111,114,115])=true∧(x.toList==[110,117,109,98,101,114])=false∧(x.toList==[103,111,108,100])=false∧(x.toList==[113,117,111,116,105,101,110,116,115])=false∧(x.toList==[103,97,112,115])=false:=by rw[hx,ByteArray.toList_eq];exact⟨rfl,rfl,rfl,rfl,rfl,rfl,rfl,rfl,rfl,rfl⟩
theorem Zem {x:ByteArray} (hx:x=({ data:=#[110,117,109,98,101,114] }:ByteArray)):(x.toList==[115,104,111,119])=false∧(x.toList==[108,105,110,101])=false∧(x.toList==[115,117,98,115,116])=false∧(x.toList==[112,97,114,116,115])=false∧(x.toList==[114,101,116,117,114,110,115])=false∧(x.toList==[102,97,99,116,111,114,115])=false∧(x.toList==[110,117,109,98,101,114])=true∧(x.toList==[103,111,108,100])=false∧(x.toList==[113,117,111,116,105,101,110,116,115])=false∧(x.toList==[103,97,112,115])=false:=by rw[hx,ByteArray.toList_eq];exact⟨rfl,rfl,rfl,rfl,rfl,rfl,rfl,rfl,rfl,rfl⟩
theorem Zen {x:ByteArray} (hx:x=({ data:=#[103,111,108,100] }:ByteArray)):(x.toList==[115,104,111,119])=false∧(x.toList==[108,105,110,101])=false∧(x.toList==[115,117,98,115,116])=false∧(x.toList==[112,97,114,116,115])=false∧(x.toList==[114,101,116,117,114,110,115])=false∧(x.toList==[102,97,99,116,111,114,115])=false∧(x.toList==[110,117,109,98,101,114])=false∧(x.toList==[103,111,108,100])=true∧(x.toList==[113,117,111,116,105,101,110,116,115])=false∧(x.toList==[103,97,112,115])=false:=by rw[hx,ByteArray.toList_eq];exact⟨rfl,rfl,rfl,rfl,rfl,rfl,rfl,rfl,rfl,rfl⟩
theorem Zeo {x:ByteArray} (hx:x=({ data:=#[113,117,111,116,105,101,110,116,115] }:ByteArray)):(x.toList==[115,104,111,119])=false∧(x.toList==[108,105,110,101])=false∧(x.toList==[115,117,98,115,116])=false∧(x.toList==[112,97,114,116,115])=false∧(x.toList==[114,101,116,117,114,110,115])=false∧(x.toList==[102,97,99,116,111,114,115])=false∧(x.toList==[110,117,109,98,101,114])=false∧(x.toList==[103,111,108,100])=false∧(x.toList==[113,117,111,116,105,101,110,116,115])=true∧(x.toList==[103,97,112,115])=false:=by rw[hx,ByteArray.toList_eq];exact⟨rfl,rfl,rfl,rfl,rfl,rfl,rfl,rfl,rfl,rfl⟩
theorem Zep {x:ByteArray} (hx:x=({ data:=#[103,97,112,115] }:ByteArray)):(x.toList==[115,104,111,119])=false∧(x.toList==[108,105,110,101])=false∧(x.toList==[115,117,98,115,116])=false∧(x.toList==[112,97,114,116,115])=false∧(x.toList==[114,101,116,117,114,110,115])=false∧(x.toList==[102,97,99,116,111,114,115])=false∧(x.toList==[110,117,109,98,101,114])=false∧(x.toList==[103,111,108,100])=false∧(x.toList==[113,117,111,116,105,101,110,116,115])=false∧(x.toList==[103,97,112,115])=true:=by rw[hx,ByteArray.toList_eq];exact⟨rfl,rfl,rfl,rfl,rfl,rfl,rfl,rfl,rfl,rfl⟩
theorem ZhM (zs:List ByteArray) (v:ByteArray) (gl cl:Nat) (A:Option Addr) (c B:Nat) (w:World) (x:ByteArray) (hx:x=({ data:=#[115,104,111,119] }:ByteArray)) (hsu:Zf zs=true) (hw:isW (L v)=true) (q:StrAt w gl cl ([x])) (ho:Own w B 9 (.slice A zs.length c) (zs.map Value.string)) (hB:B≤w.heap.size) :
  Calls Tryz.prog 40 #[.agg #[.slice A zs.length c,.string v],.slice (some ⟨gl,0,none⟩) 1 cl] w fun e w'=>e=.returned (.tuple #[.string (orD v),.bool true])∧Below w.heap.size w w':=by
 have X0:=BO.new w A zs.length c v
 have hx4:=Zb hw
 obtain⟨hz4,hz⟩:=ZE hsu
 obtain⟨w2,hw2⟩:∃ w2,w.alloc (.cells #[.slice A zs.length c,.string v] 28)=w2:=⟨_,rfl⟩
 rw[hw2] at X0
 have c0:=X0.c0;have c1:=X0.c1
 have X1:=X0.dr
 have HX0:=Hd X0;have HX1:=Hd X1
 have HOX:=Hd (fun w' (X:BO w w' A zs.length c v)=>ho.below X.bel)
 have HQ:=Hd (fun w' (X:BO w w' A zs.length c v)=>q.below X.bel)
 obtain⟨e0,e1,e2,e3,e4,e5,e6,e7,e8,e9⟩:=Zbi hx
 have hcl:=fun w'=>J3 v w'
 have k0:=(HQ.o _ HX0.o).2.2.2 0 _ rfl
 obtain⟨S,hS⟩:∃ S,orD v=S:=⟨_,rfl⟩
 rw[hS]
 simp only[hS] at hcl
 have HCL:=Hd hcl
 clear hcl hS hx hsu hw q ho hz
 go_enter Tryz.func40,Tryz.ntmps40
 go_wp2_with (go_at_call 44;(first|refine (HCL.o _ ).mono ?_|refine (HCL.o _ ).mono ?_);rintro e w4 ⟨rfl,rfl⟩;have B4:=Hd HX0.o.bel)
 go_ret2
 exact⟨rfl,B4.out⟩
theorem ZhN (zs:List ByteArray) (v:ByteArray) (gl cl:Nat) (A:Option Addr) (c B:Nat) (w:World) (x:ByteArray) (hx:x=({ data:=#[108,105,110,101] }:ByteArray)) (hsu:Zf zs=true) (hw:isW (L v)=true) (q:StrAt w gl cl ([x])) (ho:Own w B 9 (.slice A zs.length c) (zs.map Value.string)) (hB:B≤w.heap.size) :
  Calls Tryz.prog 40 #[.agg #[.slice A zs.length c,.string v],.slice (some ⟨gl,0,none⟩) 1 cl] w fun e w'=>e=.returned (.tuple #[.string (wlV v),.bool true])∧Below w.heap.size w w':=by
 have X0:=BO.new w A zs.length c v
 have hx4:=Zb hw
 obtain⟨hz4,hz⟩:=ZE hsu
 obtain⟨w2,hw2⟩:∃ w2,w.alloc (.cells #[.slice A zs.length c,.string v] 28)=w2:=⟨_,rfl⟩
 rw[hw2] at X0
 have c0:=X0.c0;have c1:=X0.c1
 have X1:=X0.dr
 have HX0:=Hd X0;have HX1:=Hd X1
 have HOX:=Hd (fun w' (X:BO w w' A zs.length c v)=>ho.below X.bel)
 have HQ:=Hd (fun w' (X:BO w w' A zs.length c v)=>q.below X.bel)
 obtain⟨e0,e1,e2,e3,e4,e5,e6,e7,e8,e9⟩:=Zbj hx
 have hcl:=fun w'=>Zkb v (by unfold maxLen;omega) w'
 have k0:=(HQ.o _ HX0.o).2.2.2 0 _ rfl
 obtain⟨S,hS⟩:∃ S,wlV v=S:=⟨_,rfl⟩
 rw[hS]
 simp only[hS] at hcl
 have HCL:=Hd hcl
 clear hcl hS hx hsu hw q ho hz
 go_enter Tryz.func40,Tryz.ntmps40
 go_wp2_with (go_at_call 79;(first|refine (HCL.o _ ).mono ?_|refine (HCL.o _ ).mono ?_);rintro e w4 ⟨rfl,b4⟩;have B4:=Hd (HX0.o.step b4).bel)
 go_ret2
 exact⟨rfl,B4.out⟩
theorem ZgA (zs:List ByteArray) (v:ByteArray) (gl cl:Nat) (A:Option Addr) (c B:Nat) (w:World) (x:ByteArray) (hx:x=({ data:=#[115,117,98,115,116] }:ByteArray)) (hsu:Zf zs=true) (hw:isW (L v)=true) (q:StrAt w gl cl ([x])) (ho:Own w B 9 (.slice A zs.length c) (zs.map Value.string)) (hB:B≤w.heap.size) :
  Calls Tryz.prog 40 #[.agg #[.slice A zs.length c,.string v],.slice (some ⟨gl,0,none⟩) 1 cl] w fun e w'=>e=.returned (.tuple #[.string (slV zs),.bool true])∧Below w.heap.size w w':=by
 have X0:=BO.new w A zs.length c v
 have hx4:=Zb hw
 obtain⟨hz4,hz⟩:=ZE hsu
 obtain⟨w2,hw2⟩:∃ w2,w.alloc (.cells #[.slice A zs.length c,.string v] 28)=w2:=⟨_,rfl⟩
 rw[hw2] at X0
 have c0:=X0.c0;have c1:=X0.c1
 have X1:=X0.dr
 have HX0:=Hd X0;have HX1:=Hd X1
 have HOX:=Hd (fun w' (X:BO w w' A zs.length c v)=>ho.below X.bel)
 have HQ:=Hd (fun w' (X:BO w w' A zs.length c v)=>q.below X.bel)
 obtain⟨e0,e1,e2,e3,e4,e5,e6,e7,e8,e9⟩:=Zbk hx
 have hcl:=fun w' (o:Own w' B 9 (.slice A zs.length c) (zs.map Value.string))=>QH (B:=B) zs A zs.length c w' rfl (by omega) (fun y hy=>by have:=(hz y hy).2.1;unfold maxLen;omega) o
 have k0:=(HQ.o _ HX0.o).2.2.2 0 _ rfl
 obtain⟨S,hS⟩:∃ S,slV zs=S:=⟨_,rfl⟩
 rw[hS]
 simp only[hS] at hcl
 have HCL:=Hd hcl
 clear hcl hS hx hsu hw q ho hz
 go_enter Tryz.func40,Tryz.ntmps40
 go_wp2_with (go_at_call 80;(first|refine (HCL.o _ (HOX.o _ HX0.o)).mono ?_|refine (HCL.o _ (HOX.o _ HX1.o)).mono ?_);rintro e w4 ⟨rfl,b4⟩;have B4:=Hd (HX0.o.step b4).bel)
 go_ret2
 exact⟨rfl,B4.out⟩
theorem ZgB (zs:List ByteArray) (v:ByteArray) (gl cl:Nat) (A:Option Addr) (c B:Nat) (w:World) (x:ByteArray) (hx:x=({ data:=#[112,97,114,116,115] }:ByteArray)) (hsu:Zf zs=true) (hw:isW (L v)=true) (q:StrAt w gl cl ([x])) (ho:Own w B 9 (.slice A zs.length c) (zs.map Value.string)) (hB:B≤w.heap.size) :
  Calls Tryz.prog 40 #[.agg #[.slice A zs.length c,.string v],.slice (some ⟨gl,0,none⟩) 1 cl] w fun e w'=>e=.returned (.tuple #[.string (JV v),.bool true])∧Below w.heap.size w w':=by
 have X0:=BO.new w A zs.length c v
 have hx4:=Zb hw
 obtain⟨hz4,hz⟩:=ZE hsu
 obtain⟨w2,hw2⟩:∃ w2,w.alloc (.cells #[.slice A zs.length c,.string v] 28)=w2:=⟨_,rfl⟩
 rw[hw2] at X0
 have c0:=X0.c0;have c1:=X0.c1
 have X1:=X0.dr
 have HX0:=Hd X0;have HX1:=Hd X1
 have HOX:=Hd (fun w' (X:BO w w' A zs.length c v)=>ho.below X.bel)
 have HQ:=Hd (fun w' (X:BO w w' A zs.length c v)=>q.below X.bel)
 obtain⟨e0,e1,e2,e3,e4,e5,e6,e7,e8,e9⟩:=Zbl hx
 have hcl:=fun w'=>ZjB v (by unfold maxLen;omega) w'
 have k0:=(HQ.o _ HX0.o).2.2.2 0 _ rfl
 obtain⟨S,hS⟩:∃ S,JV v=S:=⟨_,rfl⟩
 rw[hS]
 simp only[hS] at hcl
 have HCL:=Hd hcl
 clear hcl hS hx hsu hw q ho hz
 go_enter Tryz.func40,Tryz.ntmps40
 go_wp2_with (go_at_call 81;(first|refine (HCL.o _ ).mono ?_|refine (HCL.o _ ).mono ?_);rintro e w4 ⟨rfl,b4⟩;have B4:=Hd (HX0.o.step b4).bel)
 go_ret2
 exact⟨rfl,B4.out⟩
theorem ZcL (zs:List ByteArray) (v:ByteArray) (gl cl:Nat) (A:Option Addr) (c B:Nat) (w:World) (x t:ByteArray) (hx:x=({ data:=#[114,101,116,117,114,110,115] }:ByteArray)) (hts:t.size≤1048576) (hsu:Zf zs=true) (hw:isW (L v)=true) (q:StrAt w gl cl ([x,t])) (ho:Own w B 9 (.slice A zs.length c) (zs.map Value.string)) (hB:B≤w.heap.size) :
  Calls Tryz.prog 40 #[.agg #[.slice A zs.length c,.string v],.slice (some ⟨gl,0,none⟩) 2 cl] w fun e w'=>e=.returned (.tuple #[.string (rlS v t),.bool true])∧Below w.heap.size w w':=by
 have X0:=BO.new w A zs.length c v
 have hx4:=Zb hw
 obtain⟨hz4,hz⟩:=ZE hsu
 obtain⟨w2,hw2⟩:∃ w2,w.alloc (.cells #[.slice A zs.length c,.string v] 28)=w2:=⟨_,rfl⟩
 rw[hw2] at X0
 have c0:=X0.c0;have c1:=X0.c1
 have X1:=X0.dr
 have HX0:=Hd X0;have HX1:=Hd X1
 have HOX:=Hd (fun w' (X:BO w w' A zs.length c v)=>ho.below X.bel)
 have HQ:=Hd (fun w' (X:BO w w' A zs.length c v)=>q.below X.bel)
 obtain⟨e0,e1,e2,e3,e4,e5,e6,e7,e8,e9⟩:=Zbm hx
 have hcl:=fun w'=>XG v t (by unfold maxLen;omega) (by unfold maxLen;omega) w'
 have k0:=(HQ.o _ HX0.o).2.2.2 0 _ rfl
 have k1:=(HQ.o _ HX0.o).2.2.2 1 _ rfl
 obtain⟨S,hS⟩:∃ S,rlS v t=S:=⟨_,rfl⟩
 rw[hS]
 simp only[hS] at hcl
 have HCL:=Hd hcl
 clear hcl hS hx hsu hw q ho hz hts
 go_enter Tryz.func40,Tryz.ntmps40
 go_wp2_with fail
 go_region_with (go_at_call 82;refine (HCL.o _).mono ?_;rintro e w4 ⟨rfl,b4⟩;have B4:=Hd (HX1.o.step b4).bel)
 all_goals
  go_wp2_with fail
  go_ret2
  exact⟨rfl,B4.out⟩
theorem ZhO (zs:List ByteArray) (v:ByteArray) (gl cl:Nat) (A:Option Addr) (c B:Nat) (w:World) (x:ByteArray) (rs:List ByteArray) (n:Nat) (hn:rs.length+1=n) (hn9:n≤1048577) (hps:∀ p∈rs,p.size≤1048576) (hr0:2≤n) (hns:Zt rs=none) (q0:x=({ data:=#[115,104,111,119] }:ByteArray)→n≠1) (q1:x=({ data:=#[108,105,110,101] }:ByteArray)→n≠1) (q2:x=({ data:=#[115,117,98,115,116] }:ByteArray)→n≠1) (q3:x=({ data:=#[112,97,114,116,115] }:ByteArray)→n≠1) (q4:x=({ data:=#[114,101,116,117,114,110,115] }:ByteArray)→n≠2) (hsu:Zf zs=true) (hw:isW (L v)=true) (q:StrAt w gl cl (x :: rs)) (ho:Own w B 9 (.slice A zs.length c) (zs.map Value.string)) (hB:B≤w.heap.size) :
  Calls Tryz.prog 40 #[.agg #[.slice A zs.length c,.string v],.slice (some ⟨gl,0,none⟩) n cl] w fun e w'=>e=.returned (.tuple #[.string ({ data:=#[] }),.bool false])∧Below w.heap.size w w':=by
 have X0:=BO.new w A zs.length c v
 have hx4:=Zb hw
 obtain⟨hz4,hz⟩:=ZE hsu
 obtain⟨w2,hw2⟩:∃ w2,w.alloc (.cells #[.slice A zs.length c,.string v] 28)=w2:=⟨_,rfl⟩
 rw[hw2] at X0
 have c0:=X0.c0;have c1:=X0.c1
 have X1:=X0.dr
 have HX0:=Hd X0;have HX1:=Hd X1
 have HOX:=Hd (fun w' (X:BO w w' A zs.length c v)=>ho.below X.bel)
 have HQ:=Hd (fun w' (X:BO w w' A zs.length c v)=>q.below X.bel)
 have k0:=(HQ.o _ HX0.o).2.2.2 0 _ rfl
 have hc1:¬ cl=1:=by have:=q.1;rw[List.length_cons] at this;omega
 have hn0:(0:Int)<(n:Int):=by omega
 have hn1:(1:Int)≤(n:Int):=by omega
 have hn2:1≤n:=by omega
 have hrz:rs.length+1=n:=hn
 obtain⟨m,hm⟩:∃ m,n - 1=m:=⟨_,rfl⟩
 have hrm:rs.length=m:=by omega
 have hnu:=fun w' A0 c0 (r:Rds w' w'.heap.size A0 (rs.map Value.string))=>Zv rs A0 c0 w'.heap.size w' (by omega) hps r nlr
 rw[hrm,hns] at hnu
 simp only[Option.getD_none,Option.isSome_none,List.length_nil,List.map_nil] at hnu
 have HNU:=Hd hnu
 skip
 clear hnu hns hps hrz hrm hsu hw q ho hz hx4 hz4 X0 X1
 by_cases hx0:x=({ data:=#[115,104,111,119] }:ByteArray)
 ·have hx:=hx0
  as_aux_lemma =>
   obtain⟨e0,e1,e2,e3,e4,e5,e6,e7,e8,e9⟩:=Zbi hx
   have ya:¬ n=1:=q0 hx
   have yb:¬ (n:Int)=1:=by omega
   have yc:((n:Int)==1)=false:=by simp;omega
   clear q0 q1 q2 q3 q4 hx0 hx
   go_enter Tryz.func40,Tryz.ntmps40
   go_wp2_with (go_at_call 83;refine (HNU.o _ _ _ (HQ.o _ HX0.o).tail).mono ?_;rintro e w6 ⟨A6,c6,rfl,o6,b6⟩;have X6:=HX0.o.step b6;have c0:=X6.c0;have c1:=X6.c1;have k0:=(HQ.o _ X6).2.2.2 0 _ rfl;have B6:=Hd X6.bel;clear o6)
   go_ret2
   exact⟨rfl,B6.out⟩
 by_cases hx1:x=({ data:=#[108,105,110,101] }:ByteArray)
 ·have hx:=hx1
  as_aux_lemma =>
   obtain⟨e0,e1,e2,e3,e4,e5,e6,e7,e8,e9⟩:=Zbj hx
   have ya:¬ n=1:=q1 hx
   have yb:¬ (n:Int)=1:=by omega
   have yc:((n:Int)==1)=false:=by simp;omega
   clear q0 q1 q2 q3 q4 hx0 hx1 hx
   go_enter Tryz.func40,Tryz.ntmps40
   go_wp2_with (go_at_call 83;refine (HNU.o _ _ _ (HQ.o _ HX0.o).tail).mono ?_;rintro e w6 ⟨A6,c6,rfl,o6,b6⟩;have X6:=HX0.o.step b6;have c0:=X6.c0;have c1:=X6.c1;have k0:=(HQ.o _ X6).2.2.2 0 _ rfl;have B6:=Hd X6.bel;clear o6)
   go_ret2
   exact⟨rfl,B6.out⟩
 by_cases hx2:x=({ data:=#[115,117,98,115,116] }:ByteArray)
 ·have hx:=hx2
  as_aux_lemma =>
   obtain⟨e0,e1,e2,e3,e4,e5,e6,e7,e8,e9⟩:=Zbk hx
   have ya:¬ n=1:=q2 hx
   have yb:¬ (n:Int)=1:=by omega
   have yc:((n:Int)==1)=false:=by simp;omega
   clear q0 q1 q2 q3 q4 hx0 hx1 hx2 hx
   go_enter Tryz.func40,Tryz.ntmps40
   go_wp2_with (go_at_call 83;refine (HNU.o _ _ _ (HQ.o _ HX0.o).tail).mono ?_;rintro e w6 ⟨A6,c6,rfl,o6,b6⟩;have X6:=HX0.o.step b6;have c0:=X6.c0;have c1:=X6.c1;have k0:=(HQ.o _ X6).2.2.2 0 _ rfl;have B6:=Hd X6.bel;clear o6)
   go_ret2
   exact⟨rfl,B6.out⟩
 by_cases hx3:x=({ data:=#[112,97,114,116,115] }:ByteArray)
 ·have hx:=hx3
  as_aux_lemma =>
   obtain⟨e0,e1,e2,e3,e4,e5,e6,e7,e8,e9⟩:=Zbl hx
   have ya:¬ n=1:=q3 hx
   have yb:¬ (n:Int)=1:=by omega
   have yc:((n:Int)==1)=false:=by simp;omega
   clear q0 q1 q2 q3 q4 hx0 hx1 hx2 hx3 hx
   go_enter Tryz.func40,Tryz.ntmps40
   go_wp2_with (go_at_call 83;refine (HNU.o _ _ _ (HQ.o _ HX0.o).tail).mono ?_;rintro e w6 ⟨A6,c6,rfl,o6,b6⟩;have X6:=HX0.o.step b6;have c0:=X6.c0;have c1:=X6.c1;have k0:=(HQ.o _ X6).2.2.2 0 _ rfl;have B6:=Hd X6.bel;clear o6)
   go_ret2
   exact⟨rfl,B6.out⟩
 by_cases hx4:x=({ data:=#[114,101,116,117,114,110,115] }:ByteArray)
 ·have hx:=hx4
  as_aux_lemma =>
   obtain⟨e0,e1,e2,e3,e4,e5,e6,e7,e8,e9⟩:=Zbm hx
   have ya:¬ n=2:=q4 hx
   have yb:¬ (n:Int)=2:=by omega
   have yc:((n:Int)==2)=false:=by simp;omega
   clear q0 q1 q2 q3 q4 hx0 hx1 hx2 hx3 hx4 hx
   go_enter Tryz.func40,Tryz.ntmps40
   go_wp2_with (go_at_call 83;refine (HNU.o _ _ _ (HQ.o _ HX0.o).tail).mono ?_;rintro e w6 ⟨A6,c6,rfl,o6,b6⟩;have X6:=HX0.o.step b6;have c0:=X6.c0;have c1:=X6.c1;have k0:=(HQ.o _ X6).2.2.2 0 _ rfl;have B6:=Hd X6.bel;clear o6)
   go_ret2
   exact⟨rfl,B6.out⟩
 have e0:(x.toList==[115,104,111,119])=false:=Zq hx0 (by rw[ByteArray.toList_eq])
 have e1:(x.toList==[108,105,110,101])=false:=Zq hx1 (by rw[ByteArray.toList_eq])
 have e2:(x.toList==[115,117,98,115,116])=false:=Zq hx2 (by rw[ByteArray.toList_eq])
 have e3:(x.toList==[112,97,114,116,115])=false:=Zq hx3 (by rw[ByteArray.toList_eq])
 have e4:(x.toList==[114,101,116,117,114,110,115])=false:=Zq hx4 (by rw[ByteArray.toList_eq])
 clear q0 q1 q2 q3 q4 hx0 hx1 hx2 hx3 hx4
 go_enter Tryz.func40,Tryz.ntmps40
 go_wp2_with (go_at_call 83;refine (HNU.o _ _ _ (HQ.o _ HX0.o).tail).mono ?_;rintro e w6 ⟨A6,c6,rfl,o6,b6⟩;have X6:=HX0.o.step b6;have c0:=X6.c0;have c1:=X6.c1;have k0:=(HQ.o _ X6).2.2.2 0 _ rfl;have B6:=Hd X6.bel;clear o6)
 go_ret2
 exact⟨rfl,B6.out⟩
theorem V1 (zs:List ByteArray) (v:ByteArray) (gl cl:Nat) (A:Option Addr) (c B:Nat) (w:World) (x:ByteArray) (rs:List ByteArray) (n:Nat) (hn:rs.length+1=n) (hn9:n≤1048577) (hps:∀ p∈rs,p.size≤1048576) (hr0:2≤n) (ns:List Int) (hns:Zt rs=some ns) (u:Nat) (hu:ns.length=u) (q0:x=({ data:=#[115,104,111,119] }:ByteArray)→n≠1) (q1:x=({ data:=#[108,105,110,101] }:ByteArray)→n≠1) (q2:x=({ data:=#[115,117,98,115,116] }:ByteArray)→n≠1) (q3:x=({ data:=#[112,97,114,116,115] }:ByteArray)→n≠1) (q4:x=({ data:=#[114,101,116,117,114,110,115] }:ByteArray)→n≠2) (p0:x=({ data:=#[102,97,99,116,111,114,115] }:ByteArray)→u≠1) (p1:x=({ data:=#[110,117,109,98,101,114] }:ByteArray)→u≠1) (p2:x=({ data:=#[103,111,108,100] }:ByteArray)→u≠2) (p3:x=({ data:=#[113,117,111,116,105,101,110,116,115] }:ByteArray)→u≠2) (p4:x=({ data:=#[103,97,112,115] }:ByteArray)→u≠3) (hsu:Zf zs=true) (hw:isW (L v)=true) (q:StrAt w gl cl (x :: rs)) (ho:Own w B 9 (.slice A zs.length c) (zs.map Value.string)) (hB:B≤w.heap.size) :
  Calls Tryz.prog 40 #[.agg #[.slice A zs.length c,.string v],.slice (some ⟨gl,0,none⟩) n cl] w fun e w'=>e=.returned (.tuple #[.string ({ data:=#[] }),.bool false])∧Below w.heap.size w w':=by
 have X0:=BO.new w A zs.length c v
 have hx4:=Zb hw
 obtain⟨hz4,hz⟩:=ZE hsu
 obtain⟨w2,hw2⟩:∃ w2,w.alloc (.cells #[.slice A zs.length c,.string v] 28)=w2:=⟨_,rfl⟩
 rw[hw2] at X0
 have c0:=X0.c0;have c1:=X0.c1
 have X1:=X0.dr
 have HX0:=Hd X0;have HX1:=Hd X1
 have HOX:=Hd (fun w' (X:BO w w' A zs.length c v)=>ho.below X.bel)
 have HQ:=Hd (fun w' (X:BO w w' A zs.length c v)=>q.below X.bel)
 have k0:=(HQ.o _ HX0.o).2.2.2 0 _ rfl
 have hc1:¬ cl=1:=by have:=q.1;rw[List.length_cons] at this;omega
 have hn0:(0:Int)<(n:Int):=by omega
 have hn1:(1:Int)≤(n:Int):=by omega
 have hn2:1≤n:=by omega
 have hu9:u≤1048577:=by rw[← hu,ZL hns];omega
 have hrz:rs.length+1=n:=hn
 obtain⟨m,hm⟩:∃ m,n - 1=m:=⟨_,rfl⟩
 have hrm:rs.length=m:=by omega
 have hnu:=fun w' A0 c0 (r:Rds w' w'.heap.size A0 (rs.map Value.string))=>Zv rs A0 c0 w'.heap.size w' (by omega) hps r nlr
 rw[hrm,hns] at hnu
 simp only[Option.getD_some,Option.isSome_some] at hnu
 rw[hu] at hnu
 have HNU:=Hd hnu
 clear hnu hns hu hps hrz hrm hsu hw q ho hz hx4 hz4 X0 X1
 by_cases hx0:x=({ data:=#[115,104,111,119] }:ByteArray)
 ·have hx:=hx0
  as_aux_lemma =>
   obtain⟨e0,e1,e2,e3,e4,e5,e6,e7,e8,e9⟩:=Zbi hx
   have ya:¬ n=1:=q0 hx
   have yb:¬ (n:Int)=1:=by omega
   have yc:((n:Int)==1)=false:=by simp;omega
   clear q0 q1 q2 q3 q4 p0 p1 p2 p3 p4 hx0 hx
   go_enter Tryz.func40,Tryz.ntmps40
   go_wp2_with (go_at_call 83;refine (HNU.o _ _ _ (HQ.o _ HX0.o).tail).mono ?_;rintro e w6 ⟨A6,c6,rfl,o6,b6⟩;have X6:=HX0.o.step b6;have c0:=X6.c0;have c1:=X6.c1;have k0:=(HQ.o _ X6).2.2.2 0 _ rfl;have B6:=Hd X6.bel;clear o6)
   go_ret2
   exact⟨rfl,B6.out⟩
 by_cases hx1:x=({ data:=#[108,105,110,101] }:ByteArray)
 ·have hx:=hx1
  as_aux_lemma =>
   obtain⟨e0,e1,e2,e3,e4,e5,e6,e7,e8,e9⟩:=Zbj hx
   have ya:¬ n=1:=q1 hx
   have yb:¬ (n:Int)=1:=by omega
   have yc:((n:Int)==1)=false:=by simp;omega
   clear q0 q1 q2 q3 q4 p0 p1 p2 p3 p4 hx0 hx1 hx
   go_enter Tryz.func40,Tryz.ntmps40
   go_wp2_with (go_at_call 83;refine (HNU.o _ _ _ (HQ.o _ HX0.o).tail).mono ?_;rintro e w6 ⟨A6,c6,rfl,o6,b6⟩;have X6:=HX0.o.step b6;have c0:=X6.c0;have c1:=X6.c1;have k0:=(HQ.o _ X6).2.2.2 0 _ rfl;have B6:=Hd X6.bel;clear o6)
   go_ret2
   exact⟨rfl,B6.out⟩
 by_cases hx2:x=({ data:=#[115,117,98,115,116] }:ByteArray)
 ·have hx:=hx2
  as_aux_lemma =>
   obtain⟨e0,e1,e2,e3,e4,e5,e6,e7,e8,e9⟩:=Zbk hx
   have ya:¬ n=1:=q2 hx
   have yb:¬ (n:Int)=1:=by omega
   have yc:((n:Int)==1)=false:=by simp;omega
   clear q0 q1 q2 q3 q4 p0 p1 p2 p3 p4 hx0 hx1 hx2 hx
   go_enter Tryz.func40,Tryz.ntmps40
   go_wp2_with (go_at_call 83;refine (HNU.o _ _ _ (HQ.o _ HX0.o).tail).mono ?_;rintro e w6 ⟨A6,c6,rfl,o6,b6⟩;have X6:=HX0.o.step b6;have c0:=X6.c0;have c1:=X6.c1;have k0:=(HQ.o _ X6).2.2.2 0 _ rfl;have B6:=Hd X6.bel;clear o6)
   go_ret2
   exact⟨rfl,B6.out⟩
 by_cases hx3:x=({ data:=#[112,97,114,116,115] }:ByteArray)
 ·have hx:=hx3
  as_aux_lemma =>
   obtain⟨e0,e1,e2,e3,e4,e5,e6,e7,e8,e9⟩:=Zbl hx
   have ya:¬ n=1:=q3 hx
   have yb:¬ (n:Int)=1:=by omega
   have yc:((n:Int)==1)=false:=by simp;omega
   clear q0 q1 q2 q3 q4 p0 p1 p2 p3 p4 hx0 hx1 hx2 hx3 hx
   go_enter Tryz.func40,Tryz.ntmps40
   go_wp2_with (go_at_call 83;refine (HNU.o _ _ _ (HQ.o _ HX0.o).tail).mono ?_;rintro e w6 ⟨A6,c6,rfl,o6,b6⟩;have X6:=HX0.o.step b6;have c0:=X6.c0;have c1:=X6.c1;have k0:=(HQ.o _ X6).2.2.2 0 _ rfl;have B6:=Hd X6.bel;clear o6)
   go_ret2
   exact⟨rfl,B6.out⟩
 by_cases hx4:x=({ data:=#[114,101,116,117,114,110,115] }:ByteArray)
 ·have hx:=hx4
  as_aux_lemma =>
   obtain⟨e0,e1,e2,e3,e4,e5,e6,e7,e8,e9⟩:=Zbm hx
   have ya:¬ n=2:=q4 hx
   have yb:¬ (n:Int)=2:=by omega
   have yc:((n:Int)==2)=false:=by simp;omega
   clear q0 q1 q2 q3 q4 p0 p1 p2 p3 p4 hx0 hx1 hx2 hx3 hx4 hx
   go_enter Tryz.func40,Tryz.ntmps40
   go_wp2_with (go_at_call 83;refine (HNU.o _ _ _ (HQ.o _ HX0.o).tail).mono ?_;rintro e w6 ⟨A6,c6,rfl,o6,b6⟩;have X6:=HX0.o.step b6;have c0:=X6.c0;have c1:=X6.c1;have k0:=(HQ.o _ X6).2.2.2 0 _ rfl;have B6:=Hd X6.bel;clear o6)
   go_ret2
   exact⟨rfl,B6.out⟩
 by_cases hx5:x=({ data:=#[102,97,99,116,111,114,115] }:ByteArray)
 ·have hx:=hx5
  as_aux_lemma =>
   obtain⟨e0,e1,e2,e3,e4,e5,e6,e7,e8,e9⟩:=Zel hx
   have ya:¬ u=1:=p0 hx
   have yb:¬ (u:Int)=1:=by omega
   have yc:((u:Int)==1)=false:=by simp;omega
   clear q0 q1 q2 q3 q4 p0 p1 p2 p3 p4 hx0 hx1 hx2 hx3 hx4 hx5 hx
   go_enter Tryz.func40,Tryz.ntmps40
   go_wp2_with (go_at_call 83;refine (HNU.o _ _ _ (HQ.o _ HX0.o).tail).mono ?_;rintro e w6 ⟨A6,c6,rfl,o6,b6⟩;have X6:=HX0.o.step b6;have c0:=X6.c0;have c1:=X6.c1;have k0:=(HQ.o _ X6).2.2.2 0 _ rfl;have B6:=Hd X6.bel;clear o6)
   go_ret2
   exact⟨rfl,B6.out⟩
 by_cases hx6:x=({ data:=#[110,117,109,98,101,114] }:ByteArray)
 ·have hx:=hx6
  as_aux_lemma =>
   obtain⟨e0,e1,e2,e3,e4,e5,e6,e7,e8,e9⟩:=Zem hx
   have ya:¬ u=1:=p1 hx
   have yb:¬ (u:Int)=1:=by omega
   have yc:((u:Int)==1)=false:=by simp;omega
   clear q0 q1 q2 q3 q4 p0 p1 p2 p3 p4 hx0 hx1 hx2 hx3 hx4 hx5 hx6 hx
   go_enter Tryz.func40,Tryz.ntmps40
   go_wp2_with (go_at_call 83;refine (HNU.o _ _ _ (HQ.o _ HX0.o).tail).mono ?_;rintro e w6 ⟨A6,c6,rfl,o6,b6⟩;have X6:=HX0.o.step b6;have c0:=X6.c0;have c1:=X6.c1;have k0:=(HQ.o _ X6).2.2.2 0 _ rfl;have B6:=Hd X6.bel;clear o6)
   go_ret2
   exact⟨rfl,B6.out⟩
 by_cases hx7:x=({ data:=#[103,111,108,100] }:ByteArray)
 ·have hx:=hx7
  as_aux_lemma =>
   obtain⟨e0,e1,e2,e3,e4,e5,e6,e7,e8,e9⟩:=Zen hx
   have ya:¬ u=2:=p2 hx
   have yb:¬ (u:Int)=2:=by omega
   have yc:((u:Int)==2)=false:=by simp;omega
   clear q0 q1 q2 q3 q4 p0 p1 p2 p3 p4 hx0 hx1 hx2 hx3 hx4 hx5 hx6 hx7 hx
   go_enter Tryz.func40,Tryz.ntmps40
   go_wp2_with (go_at_call 83;refine (HNU.o _ _ _ (HQ.o _ HX0.o).tail).mono ?_;rintro e w6 ⟨A6,c6,rfl,o6,b6⟩;have X6:=HX0.o.step b6;have c0:=X6.c0;have c1:=X6.c1;have k0:=(HQ.o _ X6).2.2.2 0 _ rfl;have B6:=Hd X6.bel;clear o6)
   go_ret2
   exact⟨rfl,B6.out⟩
 by_cases hx8:x=({ data:=#[113,117,111,116,105,101,110,116,115] }:ByteArray)
 ·have hx:=hx8
  as_aux_lemma =>
   obtain⟨e0,e1,e2,e3,e4,e5,e6,e7,e8,e9⟩:=Zeo hx
   have ya:¬ u=2:=p3 hx
   have yb:¬ (u:Int)=2:=by omega
   have yc:((u:Int)==2)=false:=by simp;omega
   clear q0 q1 q2 q3 q4 p0 p1 p2 p3 p4 hx0 hx1 hx2 hx3 hx4 hx5 hx6 hx7 hx8 hx
   go_enter Tryz.func40,Tryz.ntmps40
   go_wp2_with (go_at_call 83;refine (HNU.o _ _ _ (HQ.o _ HX0.o).tail).mono ?_;rintro e w6 ⟨A6,c6,rfl,o6,b6⟩;have X6:=HX0.o.step b6;have c0:=X6.c0;have c1:=X6.c1;have k0:=(HQ.o _ X6).2.2.2 0 _ rfl;have B6:=Hd X6.bel;clear o6)
   go_ret2
   exact⟨rfl,B6.out⟩
 by_cases hx9:x=({ data:=#[103,97,112,115] }:ByteArray)
 ·have hx:=hx9
  as_aux_lemma =>
   obtain⟨e0,e1,e2,e3,e4,e5,e6,e7,e8,e9⟩:=Zep hx
   have ya:¬ u=3:=p4 hx
   have yb:¬ (u:Int)=3:=by omega
   have yc:((u:Int)==3)=false:=by simp;omega
   clear q0 q1 q2 q3 q4 p0 p1 p2 p3 p4 hx0 hx1 hx2 hx3 hx4 hx5 hx6 hx7 hx8 hx9 hx
   go_enter Tryz.func40,Tryz.ntmps40
   go_wp2_with (go_at_call 83;refine (HNU.o _ _ _ (HQ.o _ HX0.o).tail).mono ?_;rintro e w6 ⟨A6,c6,rfl,o6,b6⟩;have X6:=HX0.o.step b6;have c0:=X6.c0;have c1:=X6.c1;have k0:=(HQ.o _ X6).2.2.2 0 _ rfl;have B6:=Hd X6.bel;clear o6)
   go_ret2
   exact⟨rfl,B6.out⟩
 have e0:(x.toList==[115,104,111,119])=false:=Zq hx0 (by rw[ByteArray.toList_eq])
 have e1:(x.toList==[108,105,110,101])=false:=Zq hx1 (by rw[ByteArray.toList_eq])
 have e2:(x.toList==[115,117,98,115,116])=false:=Zq hx2 (by rw[ByteArray.toList_eq])
 have e3:(x.toList==[112,97,114,116,115])=false:=Zq hx3 (by rw[ByteArray.toList_eq])
 have e4:(x.toList==[114,101,116,117,114,110,115])=false:=Zq hx4 (by rw[ByteArray.toList_eq])
 have e5:(x.toList==[102,97,99,116,111,114,115])=false:=Zq hx5 (by rw[ByteArray.toList_eq])
 have e6:(x.toList==[110,117,109,98,101,114])=false:=Zq hx6 (by rw[ByteArray.toList_eq])
 have e7:(x.toList==[103,111,108,100])=false:=Zq hx7 (by rw[ByteArray.toList_eq])
 have e8:(x.toList==[113,117,111,116,105,101,110,116,115])=false:=Zq hx8 (by rw[ByteArray.toList_eq])
 have e9:(x.toList==[103,97,112,115])=false:=Zq hx9 (by rw[ByteArray.toList_eq])
 clear q0 q1 q2 q3 q4 p0 p1 p2 p3 p4 hx0 hx1 hx2 hx3 hx4 hx5 hx6 hx7 hx8 hx9
 go_enter Tryz.func40,Tryz.ntmps40
 go_wp2_with (go_at_call 83;refine (HNU.o _ _ _ (HQ.o _ HX0.o).tail).mono ?_;rintro e w6 ⟨A6,c6,rfl,o6,b6⟩;have X6:=HX0.o.step b6;have c0:=X6.c0;have c1:=X6.c1;have k0:=(HQ.o _ X6).2.2.2 0 _ rfl;have B6:=Hd X6.bel;clear o6)
 go_ret2
 exact⟨rfl,B6.out⟩
theorem ZgC (zs:List ByteArray) (v:ByteArray) (gl cl:Nat) (A:Option Addr) (c B:Nat) (w:World) (x:ByteArray) (q0:x=({ data:=#[115,104,111,119] }:ByteArray)→1≠1) (q1:x=({ data:=#[108,105,110,101] }:ByteArray)→1≠1) (q2:x=({ data:=#[115,117,98,115,116] }:ByteArray)→1≠1) (q3:x=({ data:=#[112,97,114,116,115] }:ByteArray)→1≠1) (q4:x=({ data:=#[114,101,116,117,114,110,115] }:ByteArray)→1≠2) (hsu:Zf zs=true) (hw:isW (L v)=true) (q:StrAt w gl cl ([x])) (ho:Own w B 9 (.slice A zs.length c) (zs.map Value.string)) (hB:B≤w.heap.size) :
  Calls Tryz.prog 40 #[.agg #[.slice A zs.length c,.string v],.slice (some ⟨gl,0,none⟩) 1 cl] w fun e w'=>e=.returned (.tuple #[.string ({ data:=#[] }),.bool false])∧Below w.heap.size w w':=by
 have X0:=BO.new w A zs.length c v
 have hx4:=Zb hw
 obtain⟨hz4,hz⟩:=ZE hsu
 obtain⟨w2,hw2⟩:∃ w2,w.alloc (.cells #[.slice A zs.length c,.string v] 28)=w2:=⟨_,rfl⟩
 rw[hw2] at X0
 have c0:=X0.c0;have c1:=X0.c1
 have X1:=X0.dr
 have HX0:=Hd X0;have HX1:=Hd X1
 have HOX:=Hd (fun w' (X:BO w w' A zs.length c v)=>ho.below X.bel)
 have HQ:=Hd (fun w' (X:BO w w' A zs.length c v)=>q.below X.bel)
 have k0:=(HQ.o _ HX0.o).2.2.2 0 _ rfl
 have hnu:=fun w' A0 c0 (r:Rds w' w'.heap.size A0 (([]:List ByteArray).map Value.string))=>Zv [] A0 c0 w'.heap.size w' (by decide) (fun p hp=>by cases hp) r nlr
 simp only[Zt,Option.getD_some,Option.isSome_some,List.length_nil,List.map_nil] at hnu
 have HNU:=Hd hnu
 clear hnu hsu hw q ho hz hx4 hz4 X0 X1
 by_cases hx0:x=({ data:=#[115,104,111,119] }:ByteArray)
 ·have hx:=hx0
  as_aux_lemma =>
   obtain⟨e0,e1,e2,e3,e4,e5,e6,e7,e8,e9⟩:=Zbi hx
   exact absurd rfl (q0 hx)
 by_cases hx1:x=({ data:=#[108,105,110,101] }:ByteArray)
 ·have hx:=hx1
  as_aux_lemma =>
   obtain⟨e0,e1,e2,e3,e4,e5,e6,e7,e8,e9⟩:=Zbj hx
   exact absurd rfl (q1 hx)
 by_cases hx2:x=({ data:=#[115,117,98,115,116] }:ByteArray)
 ·have hx:=hx2
  as_aux_lemma =>
   obtain⟨e0,e1,e2,e3,e4,e5,e6,e7,e8,e9⟩:=Zbk hx
   exact absurd rfl (q2 hx)
 by_cases hx3:x=({ data:=#[112,97,114,116,115] }:ByteArray)
 ·have hx:=hx3
  as_aux_lemma =>
   obtain⟨e0,e1,e2,e3,e4,e5,e6,e7,e8,e9⟩:=Zbl hx
   exact absurd rfl (q3 hx)
 by_cases hx4:x=({ data:=#[114,101,116,117,114,110,115] }:ByteArray)
 ·have hx:=hx4
  as_aux_lemma =>
   obtain⟨e0,e1,e2,e3,e4,e5,e6,e7,e8,e9⟩:=Zbm hx
   clear q0 q1 q2 q3 q4 hx0 hx1 hx2 hx3 hx4 hx
   by_cases hc1:cl=1
   ·subst hc1
    go_enter Tryz.func40,Tryz.ntmps40
    go_wp2_with (go_at_call 83;refine (HNU.o _ _ _ (fun k u hu=>by simp at hu)).mono ?_;rintro e w6 ⟨A6,c6,rfl,o6,b6⟩;have X6:=HX0.o.step b6;have c0:=X6.c0;have c1:=X6.c1;have k0:=(HQ.o _ X6).2.2.2 0 _ rfl;have B6:=Hd X6.bel;clear o6)
    go_ret2
    exact⟨rfl,B6.out⟩
   ·go_enter Tryz.func40,Tryz.ntmps40
    go_wp2_with (go_at_call 83;refine (HNU.o _ _ _ (fun k u hu=>by simp at hu)).mono ?_;rintro e w6 ⟨A6,c6,rfl,o6,b6⟩;have X6:=HX0.o.step b6;have c0:=X6.c0;have c1:=X6.c1;have k0:=(HQ.o _ X6).2.2.2 0 _ rfl;have B6:=Hd X6.bel;clear o6)
    go_ret2
    exact⟨rfl,B6.out⟩
 by_cases hx5:x=({ data:=#[102,97,99,116,111,114,115] }:ByteArray)
 ·have hx:=hx5
  as_aux_lemma =>
   obtain⟨e0,e1,e2,e3,e4,e5,e6,e7,e8,e9⟩:=Zel hx
   clear q0 q1 q2 q3 q4 hx0 hx1 hx2 hx3 hx4 hx5 hx
   by_cases hc1:cl=1
   ·subst hc1
    go_enter Tryz.func40,Tryz.ntmps40
    go_wp2_with (go_at_call 83;refine (HNU.o _ _ _ (fun k u hu=>by simp at hu)).mono ?_;rintro e w6 ⟨A6,c6,rfl,o6,b6⟩;have X6:=HX0.o.step b6;have c0:=X6.c0;have c1:=X6.c1;have k0:=(HQ.o _ X6).2.2.2 0 _ rfl;have B6:=Hd X6.bel;clear o6)
    go_ret2
    exact⟨rfl,B6.out⟩
   ·go_enter Tryz.func40,Tryz.ntmps40
    go_wp2_with (go_at_call 83;refine (HNU.o _ _ _ (fun k u hu=>by simp at hu)).mono ?_;rintro e w6 ⟨A6,c6,rfl,o6,b6⟩;have X6:=HX0.o.step b6;have c0:=X6.c0;have c1:=X6.c1;have k0:=(HQ.o _ X6).2.2.2 0 _ rfl;have B6:=Hd X6.bel;clear o6)
    go_ret2
    exact⟨rfl,B6.out⟩
 by_cases hx6:x=({ data:=#[110,117,109,98,101,114] }:ByteArray)
 ·have hx:=hx6
  as_aux_lemma =>
   obtain⟨e0,e1,e2,e3,e4,e5,e6,e7,e8,e9⟩:=Zem hx
   clear q0 q1 q2 q3 q4 hx0 hx1 hx2 hx3 hx4 hx5 hx6 hx
   by_cases hc1:cl=1
   ·subst hc1
    go_enter Tryz.func40,Tryz.ntmps40
    go_wp2_with (go_at_call 83;refine (HNU.o _ _ _ (fun k u hu=>by simp at hu)).mono ?_;rintro e w6 ⟨A6,c6,rfl,o6,b6⟩;have X6:=HX0.o.step b6;have c0:=X6.c0;have c1:=X6.c1;have k0:=(HQ.o _ X6).2.2.2 0 _ rfl;have B6:=Hd X6.bel;clear o6)
    go_ret2
    exact⟨rfl,B6.out⟩
   ·go_enter Tryz.func40,Tryz.ntmps40
    go_wp2_with (go_at_call 83;refine (HNU.o _ _ _ (fun k u hu=>by simp at hu)).mono ?_;rintro e w6 ⟨A6,c6,rfl,o6,b6⟩;have X6:=HX0.o.step b6;have c0:=X6.c0;have c1:=X6.c1;have k0:=(HQ.o _ X6).2.2.2 0 _ rfl;have B6:=Hd X6.bel;clear o6)
    go_ret2
    exact⟨rfl,B6.out⟩
 by_cases hx7:x=({ data:=#[103,111,108,100] }:ByteArray)
 ·have hx:=hx7
  as_aux_lemma =>
   obtain⟨e0,e1,e2,e3,e4,e5,e6,e7,e8,e9⟩:=Zen hx
   clear q0 q1 q2 q3 q4 hx0 hx1 hx2 hx3 hx4 hx5 hx6 hx7 hx
   by_cases hc1:cl=1
   ·subst hc1
    go_enter Tryz.func40,Tryz.ntmps40
    go_wp2_with (go_at_call 83;refine (HNU.o _ _ _ (fun k u hu=>by simp at hu)).mono ?_;rintro e w6 ⟨A6,c6,rfl,o6,b6⟩;have X6:=HX0.o.step b6;have c0:=X6.c0;have c1:=X6.c1;have k0:=(HQ.o _ X6).2.2.2 0 _ rfl;have B6:=Hd X6.bel;clear o6)
    go_ret2
    exact⟨rfl,B6.out⟩
   ·go_enter Tryz.func40,Tryz.ntmps40
    go_wp2_with (go_at_call 83;refine (HNU.o _ _ _ (fun k u hu=>by simp at hu)).mono ?_;rintro e w6 ⟨A6,c6,rfl,o6,b6⟩;have X6:=HX0.o.step b6;have c0:=X6.c0;have c1:=X6.c1;have k0:=(HQ.o _ X6).2.2.2 0 _ rfl;have B6:=Hd X6.bel;clear o6)
    go_ret2
    exact⟨rfl,B6.out⟩
 by_cases hx8:x=({ data:=#[113,117,111,116,105,101,110,116,115] }:ByteArray)
 ·have hx:=hx8
  as_aux_lemma =>
   obtain⟨e0,e1,e2,e3,e4,e5,e6,e7,e8,e9⟩:=Zeo hx
   clear q0 q1 q2 q3 q4 hx0 hx1 hx2 hx3 hx4 hx5 hx6 hx7 hx8 hx
   by_cases hc1:cl=1
   ·subst hc1
    go_enter Tryz.func40,Tryz.ntmps40
    go_wp2_with (go_at_call 83;refine (HNU.o _ _ _ (fun k u hu=>by simp at hu)).mono ?_;rintro e w6 ⟨A6,c6,rfl,o6,b6⟩;have X6:=HX0.o.step b6;have c0:=X6.c0;have c1:=X6.c1;have k0:=(HQ.o _ X6).2.2.2 0 _ rfl;have B6:=Hd X6.bel;clear o6)
    go_ret2
    exact⟨rfl,B6.out⟩
   ·go_enter Tryz.func40,Tryz.ntmps40
    go_wp2_with (go_at_call 83;refine (HNU.o _ _ _ (fun k u hu=>by simp at hu)).mono ?_;rintro e w6 ⟨A6,c6,rfl,o6,b6⟩;have X6:=HX0.o.step b6;have c0:=X6.c0;have c1:=X6.c1;have k0:=(HQ.o _ X6).2.2.2 0 _ rfl;have B6:=Hd X6.bel;clear o6)
    go_ret2
    exact⟨rfl,B6.out⟩
 by_cases hx9:x=({ data:=#[103,97,112,115] }:ByteArray)
 ·have hx:=hx9
  as_aux_lemma =>
   obtain⟨e0,e1,e2,e3,e4,e5,e6,e7,e8,e9⟩:=Zep hx
   clear q0 q1 q2 q3 q4 hx0 hx1 hx2 hx3 hx4 hx5 hx6 hx7 hx8 hx9 hx
   by_cases hc1:cl=1
   ·subst hc1
    go_enter Tryz.func40,Tryz.ntmps40
    go_wp2_with (go_at_call 83;refine (HNU.o _ _ _ (fun k u hu=>by simp at hu)).mono ?_;rintro e w6 ⟨A6,c6,rfl,o6,b6⟩;have X6:=HX0.o.step b6;have c0:=X6.c0;have c1:=X6.c1;have k0:=(HQ.o _ X6).2.2.2 0 _ rfl;have B6:=Hd X6.bel;clear o6)
    go_ret2
    exact⟨rfl,B6.out⟩
   ·go_enter Tryz.func40,Tryz.ntmps40
    go_wp2_with (go_at_call 83;refine (HNU.o _ _ _ (fun k u hu=>by simp at hu)).mono ?_;rintro e w6 ⟨A6,c6,rfl,o6,b6⟩;have X6:=HX0.o.step b6;have c0:=X6.c0;have c1:=X6.c1;have k0:=(HQ.o _ X6).2.2.2 0 _ rfl;have B6:=Hd X6.bel;clear o6)
    go_ret2
    exact⟨rfl,B6.out⟩
 have e0:(x.toList==[115,104,111,119])=false:=Zq hx0 (by rw[ByteArray.toList_eq])
 have e1:(x.toList==[108,105,110,101])=false:=Zq hx1 (by rw[ByteArray.toList_eq])
 have e2:(x.toList==[115,117,98,115,116])=false:=Zq hx2 (by rw[ByteArray.toList_eq])
 have e3:(x.toList==[112,97,114,116,115])=false:=Zq hx3 (by rw[ByteArray.toList_eq])
 have e4:(x.toList==[114,101,116,117,114,110,115])=false:=Zq hx4 (by rw[ByteArray.toList_eq])
 have e5:(x.toList==[102,97,99,116,111,114,115])=false:=Zq hx5 (by rw[ByteArray.toList_eq])
 have e6:(x.toList==[110,117,109,98,101,114])=false:=Zq hx6 (by rw[ByteArray.toList_eq])
 have e7:(x.toList==[103,111,108,100])=false:=Zq hx7 (by rw[ByteArray.toList_eq])
 have e8:(x.toList==[113,117,111,116,105,101,110,116,115])=false:=Zq hx8 (by rw[ByteArray.toList_eq])
 have e9:(x.toList==[103,97,112,115])=false:=Zq hx9 (by rw[ByteArray.toList_eq])
 clear q0 q1 q2 q3 q4 hx0 hx1 hx2 hx3 hx4 hx5 hx6 hx7 hx8 hx9
 by_cases hc1:cl=1
 ·subst hc1
  go_enter Tryz.func40,Tryz.ntmps40
  go_wp2_with (go_at_call 83;refine (HNU.o _ _ _ (fun k u hu=>by simp at hu)).mono ?_;rintro e w6 ⟨A6,c6,rfl,o6,b6⟩;have X6:=HX0.o.step b6;have c0:=X6.c0;have c1:=X6.c1;have k0:=(HQ.o _ X6).2.2.2 0 _ rfl;have B6:=Hd X6.bel;clear o6)
  go_ret2
  exact⟨rfl,B6.out⟩
 ·go_enter Tryz.func40,Tryz.ntmps40
  go_wp2_with (go_at_call 83;refine (HNU.o _ _ _ (fun k u hu=>by simp at hu)).mono ?_;rintro e w6 ⟨A6,c6,rfl,o6,b6⟩;have X6:=HX0.o.step b6;have c0:=X6.c0;have c1:=X6.c1;have k0:=(HQ.o _ X6).2.2.2 0 _ rfl;have B6:=Hd X6.bel;clear o6)
  go_ret2
  exact⟨rfl,B6.out⟩
theorem ZcM (zs:List ByteArray) (v:ByteArray) (gl cl:Nat) (A:Option Addr) (c B:Nat) (w:World) (x:ByteArray) (rs:List ByteArray) (a0:Int) (hx:x=({ data:=#[102,97,99,116,111,114,115] }:ByteArray)) (hps:∀ p∈rs,p.size≤1048576) (hns:Zt rs=some [a0]) (hsu:Zf zs=true) (hw:isW (L v)=true) (q:StrAt w gl cl (x :: rs)) (ho:Own w B 9 (.slice A zs.length c) (zs.map Value.string)) (hB:B≤w.heap.size) :
  Calls Tryz.prog 40 #[.agg #[.slice A zs.length c,.string v],.slice (some ⟨gl,0,none⟩) 2 cl] w fun e w'=>e=.returned (.tuple #[.string (VG v a0),.bool true])∧Below w.heap.size w w':=by
 have X0:=BO.new w A zs.length c v
 have hx4:=Zb hw
 obtain⟨hz4,hz⟩:=ZE hsu
 obtain⟨w2,hw2⟩:∃ w2,w.alloc (.cells #[.slice A zs.length c,.string v] 28)=w2:=⟨_,rfl⟩
 rw[hw2] at X0
 have c0:=X0.c0;have c1:=X0.c1
 have X1:=X0.dr
 have HX0:=Hd X0;have HX1:=Hd X1
 have HOX:=Hd (fun w' (X:BO w w' A zs.length c v)=>ho.below X.bel)
 have HQ:=Hd (fun w' (X:BO w w' A zs.length c v)=>q.below X.bel)
 obtain⟨e0,e1,e2,e3,e4,e5,e6,e7,e8,e9⟩:=Zel hx
 have k0:=(HQ.o _ HX0.o).2.2.2 0 _ rfl
 have hrm:rs.length=1:=by rw[← ZL hns];rfl
 have hc1:¬ cl=1:=by have:=q.1;rw[List.length_cons] at this;omega
 have hnu:=fun w' A0 c0 (r:Rds w' w'.heap.size A0 (rs.map Value.string))=>Zv rs A0 c0 w'.heap.size w' (by omega) hps r nlr
 have h64:=Qe hns
 rw[hrm,hns] at hnu
 simp only[Option.getD_some,Option.isSome_some,List.length_cons,List.length_nil,Nat.zero_add] at hnu
 have hcl:=fun w'=>Zh2 v a0 (by unfold maxLen;omega) w'
 obtain⟨S,hS⟩:∃ S,VG v a0=S:=⟨_,rfl⟩
 rw[hS]
 simp only[hS] at hcl
 clear hS
 have HCL:=Hd hcl;have HNU:=Hd hnu
 clear hcl hnu hns hps hrm h64 hx hsu hw q ho hz hx4 hz4 X0 X1
 go_enter Tryz.func40,Tryz.ntmps40
 go_wp2_with (go_at_call 83;refine (HNU.o _ _ _ (HQ.o _ HX0.o).tail).mono ?_;rintro e w6 ⟨A6,c6,rfl,o6,b6⟩;have X6:=HX0.o.step b6;have c0:=X6.c0;have c1:=X6.c1;have k0:=(HQ.o _ X6).2.2.2 0 _ rfl;have B6:=Hd X6.bel;obtain⟨g6,rfl,i6⟩:=Own.intAt (ss:=[a0]) o6 (by simp);have m0:=i6.2.2.2 0 _ rfl;have HX6:=Hd X6;have HX6d:=Hd X6.dr;clear o6 i6)
 go_region_with (go_at_call 84;refine (HCL.o _).mono ?_;rintro e w7 ⟨rfl,b7⟩;have B7:=Hd (HX6d.o.step b7).bel)
 all_goals
  go_wp2_with fail
  go_ret2
  exact⟨rfl,B7.out⟩
theorem Zeq (zs:List ByteArray) (v:ByteArray) (gl cl:Nat) (A:Option Addr) (c B:Nat) (w:World) (x:ByteArray) (rs:List ByteArray) (a0:Int) (hx:x=({ data:=#[110,117,109,98,101,114] }:ByteArray)) (hps:∀ p∈rs,p.size≤1048576) (hns:Zt rs=some [a0]) (hsu:Zf zs=true) (hw:isW (L v)=true) (q:StrAt w gl cl (x :: rs)) (ho:Own w B 9 (.slice A zs.length c) (zs.map Value.string)) (hB:B≤w.heap.size) :
  Calls Tryz.prog 40 #[.agg #[.slice A zs.length c,.string v],.slice (some ⟨gl,0,none⟩) 2 cl] w fun e w'=>e=.returned (.tuple #[.string (JR a0),.bool true])∧Below w.heap.size w w':=by
 have X0:=BO.new w A zs.length c v
 have hx4:=Zb hw
 obtain⟨hz4,hz⟩:=ZE hsu
 obtain⟨w2,hw2⟩:∃ w2,w.alloc (.cells #[.slice A zs.length c,.string v] 28)=w2:=⟨_,rfl⟩
 rw[hw2] at X0
 have c0:=X0.c0;have c1:=X0.c1
 have X1:=X0.dr
 have HX0:=Hd X0;have HX1:=Hd X1
 have HOX:=Hd (fun w' (X:BO w w' A zs.length c v)=>ho.below X.bel)
 have HQ:=Hd (fun w' (X:BO w w' A zs.length c v)=>q.below X.bel)
 obtain⟨e0,e1,e2,e3,e4,e5,e6,e7,e8,e9⟩:=Zem hx
 have k0:=(HQ.o _ HX0.o).2.2.2 0 _ rfl
 have hrm:rs.length=1:=by rw[← ZL hns];rfl
 have hc1:¬ cl=1:=by have:=q.1;rw[List.length_cons] at this;omega
 have hnu:=fun w' A0 c0 (r:Rds w' w'.heap.size A0 (rs.map Value.string))=>Zv rs A0 c0 w'.heap.size w' (by omega) hps r nlr
 have h64:=Qe hns
 rw[hrm,hns] at hnu
 simp only[Option.getD_some,Option.isSome_some,List.length_cons,List.length_nil,Nat.zero_add] at hnu
 have hcl:=fun w'=>Zi8 a0 w'
 obtain⟨S,hS⟩:∃ S,JR a0=S:=⟨_,rfl⟩
 rw[hS]
 simp only[hS] at hcl
 clear hS
 have HCL:=Hd hcl;have HNU:=Hd hnu
 clear hcl hnu hns hps hrm h64 hx hsu hw q ho hz hx4 hz4 X0 X1
 go_enter Tryz.func40,Tryz.ntmps40
 go_wp2_with (first|(go_at_call 83;refine (HNU.o _ _ _ (HQ.o _ HX0.o).tail).mono ?_;rintro e w6 ⟨A6,c6,rfl,o6,b6⟩;have X6:=HX0.o.step b6;have c0:=X6.c0;have c1:=X6.c1;have k0:=(HQ.o _ X6).2.2.2 0 _ rfl;have B6:=Hd X6.bel;obtain⟨g6,rfl,i6⟩:=Own.intAt (ss:=[a0]) o6 (by simp);have m0:=i6.2.2.2 0 _ rfl;have HX6:=Hd X6;have HX6d:=Hd X6.dr;clear o6 i6)|(go_at_call 85;refine (HCL.o _).mono ?_;rintro e w7 ⟨rfl,b7⟩;have B7:=Hd (HX6.o.step b7).bel))
 go_ret2
 exact⟨rfl,B7.out⟩
theorem ZhP (zs:List ByteArray) (v:ByteArray) (gl cl:Nat) (A:Option Addr) (c B:Nat) (w:World) (x:ByteArray) (rs:List ByteArray) (a0 a1:Int) (hx:x=({ data:=#[103,111,108,100] }:ByteArray)) (hps:∀ p∈rs,p.size≤1048576) (hns:Zt rs=some [a0,a1]) (hsu:Zf zs=true) (hw:isW (L v)=true) (q:StrAt w gl cl (x :: rs)) (ho:Own w B 9 (.slice A zs.length c) (zs.map Value.string)) (hB:B≤w.heap.size) :
  Calls Tryz.prog 40 #[.agg #[.slice A zs.length c,.string v],.slice (some ⟨gl,0,none⟩) 3 cl] w fun e w'=>e=.returned (.tuple #[.string (JP a0 a1),.bool true])∧Below w.heap.size w w':=by
 have X0:=BO.new w A zs.length c v
 have hx4:=Zb hw
 obtain⟨hz4,hz⟩:=ZE hsu
 obtain⟨w2,hw2⟩:∃ w2,w.alloc (.cells #[.slice A zs.length c,.string v] 28)=w2:=⟨_,rfl⟩
 rw[hw2] at X0
 have c0:=X0.c0;have c1:=X0.c1
 have X1:=X0.dr
 have HX0:=Hd X0;have HX1:=Hd X1
 have HOX:=Hd (fun w' (X:BO w w' A zs.length c v)=>ho.below X.bel)
 have HQ:=Hd (fun w' (X:BO w w' A zs.length c v)=>q.below X.bel)
 obtain⟨e0,e1,e2,e3,e4,e5,e6,e7,e8,e9⟩:=Zen hx
 have k0:=(HQ.o _ HX0.o).2.2.2 0 _ rfl
 have hrm:rs.length=2:=by rw[← ZL hns];rfl
 have hc1:¬ cl=1:=by have:=q.1;rw[List.length_cons] at this;omega
 have hnu:=fun w' A0 c0 (r:Rds w' w'.heap.size A0 (rs.map Value.string))=>Zv rs A0 c0 w'.heap.size w' (by omega) hps r nlr
 have h64:=Qe hns
 rw[hrm,hns] at hnu
 simp only[Option.getD_some,Option.isSome_some,List.length_cons,List.length_nil,Nat.zero_add,Nat.reduceAdd] at hnu
 have hcl:=fun w'=>Zis a0 a1 w'
 obtain⟨S,hS⟩:∃ S,JP a0 a1=S:=⟨_,rfl⟩
 rw[hS]
 simp only[hS] at hcl
 clear hS
 have HCL:=Hd hcl;have HNU:=Hd hnu
 clear hcl hnu hns hps hrm h64 hx hsu hw q ho hz hx4 hz4 X0 X1
 go_enter Tryz.func40,Tryz.ntmps40
 go_wp2_with (go_at_call 83;refine (HNU.o _ _ _ (HQ.o _ HX0.o).tail).mono ?_;rintro e w6 ⟨A6,c6,rfl,o6,b6⟩;have X6:=HX0.o.step b6;have c0:=X6.c0;have c1:=X6.c1;have k0:=(HQ.o _ X6).2.2.2 0 _ rfl;have B6:=Hd X6.bel;obtain⟨g6,rfl,i6⟩:=Own.intAt (ss:=[a0,a1]) o6 (by simp);have m0:=i6.2.2.2 0 _ rfl;have m1:=i6.2.2.2 1 _ rfl;have HX6:=Hd X6;have HX6d:=Hd X6.dr;clear o6 i6)
 go_region_with (go_at_call 86;refine (HCL.o _).mono ?_;rintro e w7 ⟨rfl,b7⟩;have B7:=Hd (HX6d.o.step b7).bel)
 all_goals
  go_wp2_with fail
  go_ret2
  exact⟨rfl,B7.out⟩
theorem Zae (zs:List ByteArray) (v:ByteArray) (gl cl:Nat) (A:Option Addr) (c B:Nat) (w:World) (x:ByteArray) (rs:List ByteArray) (a0 a1:Int) (hx:x=({ data:=#[113,117,111,116,105,101,110,116,115] }:ByteArray)) (hps:∀ p∈rs,p.size≤1048576) (hns:Zt rs=some [a0,a1]) (hsu:Zf zs=true) (hw:isW (L v)=true) (q:StrAt w gl cl (x :: rs)) (ho:Own w B 9 (.slice A zs.length c) (zs.map Value.string)) (hB:B≤w.heap.size) :
  Calls Tryz.prog 40 #[.agg #[.slice A zs.length c,.string v],.slice (some ⟨gl,0,none⟩) 3 cl] w fun e w'=>e=.returned (.tuple #[.string (lsS (quV a0 a1)),.bool true])∧Below w.heap.size w w':=by
 have X0:=BO.new w A zs.length c v
 have hx4:=Zb hw
 obtain⟨hz4,hz⟩:=ZE hsu
 obtain⟨w2,hw2⟩:∃ w2,w.alloc (.cells #[.slice A zs.length c,.string v] 28)=w2:=⟨_,rfl⟩
 rw[hw2] at X0
 have c0:=X0.c0;have c1:=X0.c1
 have X1:=X0.dr
 have HX0:=Hd X0;have HX1:=Hd X1
 have HOX:=Hd (fun w' (X:BO w w' A zs.length c v)=>ho.below X.bel)
 have HQ:=Hd (fun w' (X:BO w w' A zs.length c v)=>q.below X.bel)
 obtain⟨e0,e1,e2,e3,e4,e5,e6,e7,e8,e9⟩:=Zeo hx
 have k0:=(HQ.o _ HX0.o).2.2.2 0 _ rfl
 have hrm:rs.length=2:=by rw[← ZL hns];rfl
 have hc1:¬ cl=1:=by have:=q.1;rw[List.length_cons] at this;omega
 have hnu:=fun w' A0 c0 (r:Rds w' w'.heap.size A0 (rs.map Value.string))=>Zv rs A0 c0 w'.heap.size w' (by omega) hps r nlr
 have h64:=Qe hns
 rw[hrm,hns] at hnu
 simp only[Option.getD_some,Option.isSome_some,List.length_cons,List.length_nil,Nat.zero_add,Nat.reduceAdd] at hnu
 have hcl:=fun w'=>Zho a0 a1 w'
 have hz1:∀ z∈quV a0 a1,I64 z:=(Y0 a0 a1).2
 have hz2:(quV a0 a1).length≤9223372036854775807:=(by have:=(Y0 a0 a1).1;omega)
 obtain⟨l,hl⟩:∃ l,quV a0 a1=l:=⟨_,rfl⟩
 rw[hl]
 simp only[hl] at hcl hz1 hz2
 have hls:=fun w' A2 c2 (r:Rds w' w'.heap.size A2 (l.map (Value.int .i64)))=>Xk l A2 c2 w'.heap.size w' nlr hz1 r hz2
 obtain⟨S,hS⟩:∃ S,lsS l=S:=⟨_,rfl⟩
 rw[hS]
 simp only[hS] at hls
 have HLS:=Hd hls
 clear hls hz1 hz2 hl hS
 have HCL:=Hd hcl;have HNU:=Hd hnu
 clear hcl hnu hns hps hrm h64 hx hsu hw q ho hz hx4 hz4 X0 X1
 go_enter Tryz.func40,Tryz.ntmps40
 go_wp2_with (go_at_call 83;refine (HNU.o _ _ _ (HQ.o _ HX0.o).tail).mono ?_;rintro e w6 ⟨A6,c6,rfl,o6,b6⟩;have X6:=HX0.o.step b6;have c0:=X6.c0;have c1:=X6.c1;have k0:=(HQ.o _ X6).2.2.2 0 _ rfl;have B6:=Hd X6.bel;obtain⟨g6,rfl,i6⟩:=Own.intAt (ss:=[a0,a1]) o6 (by simp);have m0:=i6.2.2.2 0 _ rfl;have m1:=i6.2.2.2 1 _ rfl;have HX6:=Hd X6;have HX6d:=Hd X6.dr;clear o6 i6)
 go_region_with (first|(go_at_call 88;refine (HCL.o _).mono ?_;rintro e w7 ⟨A7,c7,rfl,o7,b7⟩;have X7:=HX6d.o.step b7;have R7:=Hd (o7.reads);clear o7)|(go_at_call 87;refine (HLS.o _ _ _ R7.out).mono ?_;rintro e w8 ⟨rfl,b8⟩;have B8:=Hd (X7.step b8).bel))
 all_goals
  go_wp2_with fail
  go_ret2
  exact⟨rfl,B8.out⟩
theorem ZhQ (zs:List ByteArray) (v:ByteArray) (gl cl:Nat) (A:Option Addr) (c B:Nat) (w:World) (x:ByteArray) (rs:List ByteArray) (a0 a1 a2:Int) (hx:x=({ data:=#[103,97,112,115] }:ByteArray)) (hps:∀ p∈rs,p.size≤1048576) (hns:Zt rs=some [a0,a1,a2]) (hsu:Zf zs=true) (hw:isW (L v)=true) (q:StrAt w gl cl (x :: rs)) (ho:Own w B 9 (.slice A zs.length c) (zs.map Value.string)) (hB:B≤w.heap.size) :
  Calls Tryz.prog 40 #[.agg #[.slice A zs.length c,.string v],.slice (some ⟨gl,0,none⟩) 4 cl] w fun e w'=>e=.returned (.tuple #[.string (lsS (gaV a0 a1 a2)),.bool true])∧Below w.heap.size w w':=by
 have X0:=BO.new w A zs.length c v
 have hx4:=Zb hw
 obtain⟨hz4,hz⟩:=ZE hsu
 obtain⟨w2,hw2⟩:∃ w2,w.alloc (.cells #[.slice A zs.length c,.string v] 28)=w2:=⟨_,rfl⟩
 rw[hw2] at X0
 have c0:=X0.c0;have c1:=X0.c1
 have X1:=X0.dr
 have HX0:=Hd X0;have HX1:=Hd X1
 have HOX:=Hd (fun w' (X:BO w w' A zs.length c v)=>ho.below X.bel)
 have HQ:=Hd (fun w' (X:BO w w' A zs.length c v)=>q.below X.bel)
 obtain⟨e0,e1,e2,e3,e4,e5,e6,e7,e8,e9⟩:=Zep hx
 have k0:=(HQ.o _ HX0.o).2.2.2 0 _ rfl
 have hrm:rs.length=3:=by rw[← ZL hns];rfl
 have hc1:¬ cl=1:=by have:=q.1;rw[List.length_cons] at this;omega
 have hnu:=fun w' A0 c0 (r:Rds w' w'.heap.size A0 (rs.map Value.string))=>Zv rs A0 c0 w'.heap.size w' (by omega) hps r nlr
 have h64:=Qe hns
 rw[hrm,hns] at hnu
 simp only[Option.getD_some,Option.isSome_some,List.length_cons,List.length_nil,Nat.zero_add,Nat.reduceAdd] at hnu
 have hcl:=fun w'=>Xw a0 a1 a2 (h64 _ (by simp)) (h64 _ (by simp)) (h64 _ (by simp)) w'
 have hz1:∀ z∈gaV a0 a1 a2,I64 z:=ZjP a0 a1 a2
 have hz2:(gaV a0 a1 a2).length≤9223372036854775807:=(Nat.le_trans (ZbU a0 a1 a2) (by decide))
 obtain⟨l,hl⟩:∃ l,gaV a0 a1 a2=l:=⟨_,rfl⟩
 rw[hl]
 simp only[hl] at hcl hz1 hz2
 have hls:=fun w' A2 c2 (r:Rds w' w'.heap.size A2 (l.map (Value.int .i64)))=>Xk l A2 c2 w'.heap.size w' nlr hz1 r hz2
 obtain⟨S,hS⟩:∃ S,lsS l=S:=⟨_,rfl⟩
 rw[hS]
 simp only[hS] at hls
 have HLS:=Hd hls
 clear hls hz1 hz2 hl hS
 have HCL:=Hd hcl;have HNU:=Hd hnu
 clear hcl hnu hns hps hrm h64 hx hsu hw q ho hz hx4 hz4 X0 X1
 go_enter Tryz.func40,Tryz.ntmps40
 go_wp2_with (go_at_call 83;refine (HNU.o _ _ _ (HQ.o _ HX0.o).tail).mono ?_;rintro e w6 ⟨A6,c6,rfl,o6,b6⟩;have X6:=HX0.o.step b6;have c0:=X6.c0;have c1:=X6.c1;have k0:=(HQ.o _ X6).2.2.2 0 _ rfl;have B6:=Hd X6.bel;obtain⟨g6,rfl,i6⟩:=Own.intAt (ss:=[a0,a1,a2]) o6 (by simp);have m0:=i6.2.2.2 0 _ rfl;have m1:=i6.2.2.2 1 _ rfl;have m2:=i6.2.2.2 2 _ rfl;have HX6:=Hd X6;have HX6d:=Hd X6.dr;clear o6 i6)
 go_region_with (first|(go_at_call 89;refine (HCL.o _).mono ?_;rintro e w7 ⟨g7,c7,rfl,i7,b7⟩;have X7:=HX6d.o.step b7;have R7:=Hd (i7.rds);clear i7)|(go_at_call 87;refine (HLS.o _ _ _ R7.out).mono ?_;rintro e w8 ⟨rfl,b8⟩;have B8:=Hd (X7.step b8).bel))
 all_goals
  go_wp2_with fail
  go_ret2
  exact⟨rfl,B8.out⟩
theorem XY (zs:List ByteArray) (v:ByteArray) (gl cl:Nat) (A:Option Addr) (c B:Nat) (w:World) (x:ByteArray) (rs:List ByteArray) (n:Nat) (hn:rs.length+1=n) (hn9:n≤1048577) (hps:∀ p∈rs,p.size≤1048576) (q0:x=({ data:=#[115,104,111,119] }:ByteArray)→n≠1) (q1:x=({ data:=#[108,105,110,101] }:ByteArray)→n≠1) (q2:x=({ data:=#[115,117,98,115,116] }:ByteArray)→n≠1) (q3:x=({ data:=#[112,97,114,116,115] }:ByteArray)→n≠1) (q4:x=({ data:=#[114,101,116,117,114,110,115] }:ByteArray)→n≠2) (hsu:Zf zs=true) (hw:isW (L v)=true) (q:StrAt w gl cl (x :: rs)) (ho:Own w B 9 (.slice A zs.length c) (zs.map Value.string)) (hB:B≤w.heap.size) :
  Calls Tryz.prog 40 #[.agg #[.slice A zs.length c,.string v],.slice (some ⟨gl,0,none⟩) n cl] w fun e w'=>e=.returned (.tuple #[.string ((Jt v x rs).getD { data:=#[] }),.bool (Jt v x rs).isSome])∧Below w.heap.size w w':=by
 cases hns:Zt rs with
 | none =>
  have hv:Jt v x rs=none:=by rw[Jt,hns];rfl
  rw[hv]
  exact ZhO zs v gl cl A c B w x rs n hn hn9 hps (by cases rs with|nil=>cases hns|cons a b=>rw[List.length_cons] at hn;omega) hns q0 q1 q2 q3 q4 hsu hw q ho hB
 | some ns =>
  have hv:Jt v x rs=Qd v x ns:=by rw[Jt,hns];rfl
  have hl:=ZL hns
  rw[hv]
  match ns,hns,hl with
  | [],hns,hl =>
   obtain rfl:rs=[]:=List.eq_nil_of_length_eq_zero hl.symm
   obtain rfl:n=1:=hn.symm
   exact ZgC zs v gl cl A c B w x q0 q1 q2 q3 q4 hsu hw q ho hB
  | [a0],hns,hl =>
   obtain rfl:n=2:=by simp at hl;omega
   by_cases hy0:x=({ data:=#[102,97,99,116,111,114,115] }:ByteArray)
   ·have hv:Qd v x [a0]=some (VG v a0):=by subst hy0;rfl
    rw[hv]
    exact ZcM zs v gl cl A c B w x rs a0 hy0 hps hns hsu hw q ho hB
   by_cases hy1:x=({ data:=#[110,117,109,98,101,114] }:ByteArray)
   ·have hv:Qd v x [a0]=some (JR a0):=by subst hy1;rfl
    rw[hv]
    exact Zeq zs v gl cl A c B w x rs a0 hy1 hps hns hsu hw q ho hB
   have hv:Qd v x [a0]=none:=by simp only[Qd];rw[if_neg hy0,if_neg hy1]
   rw[hv]
   exact V1 zs v gl cl A c B w x rs 2 hn hn9 hps (by decide) [a0] hns 1 rfl q0 q1 q2 q3 q4 (fun h=>absurd h hy0) (fun h=>absurd h hy1) (fun _=>by decide) (fun _=>by decide) (fun _=>by decide) hsu hw q ho hB
  | [a0,a1],hns,hl =>
   obtain rfl:n=3:=by simp at hl;omega
   by_cases hy2:x=({ data:=#[103,111,108,100] }:ByteArray)
   ·have hv:Qd v x [a0,a1]=some (JP a0 a1):=by subst hy2;rfl
    rw[hv]
    exact ZhP zs v gl cl A c B w x rs a0 a1 hy2 hps hns hsu hw q ho hB
   by_cases hy3:x=({ data:=#[113,117,111,116,105,101,110,116,115] }:ByteArray)
   ·have hv:Qd v x [a0,a1]=some (lsS (quV a0 a1)):=by subst hy3;rfl
    rw[hv]
    exact Zae zs v gl cl A c B w x rs a0 a1 hy3 hps hns hsu hw q ho hB
   have hv:Qd v x [a0,a1]=none:=by simp only[Qd];rw[if_neg hy2,if_neg hy3]
   rw[hv]
   exact V1 zs v gl cl A c B w x rs 3 hn hn9 hps (by decide) [a0,a1] hns 2 rfl q0 q1 q2 q3 q4 (fun _=>by decide) (fun _=>by decide) (fun h=>absurd h hy2) (fun h=>absurd h hy3) (fun _=>by decide) hsu hw q ho hB
  | [a0,a1,a2],hns,hl =>
   obtain rfl:n=4:=by simp at hl;omega
   by_cases hy4:x=({ data:=#[103,97,112,115] }:ByteArray)
   ·have hv:Qd v x [a0,a1,a2]=some (lsS (gaV a0 a1 a2)):=by subst hy4;rfl
    rw[hv]
    exact ZhQ zs v gl cl A c B w x rs a0 a1 a2 hy4 hps hns hsu hw q ho hB
   have hv:Qd v x [a0,a1,a2]=none:=by simp only[Qd];rw[if_neg hy4]
   rw[hv]
   exact V1 zs v gl cl A c B w x rs 4 hn hn9 hps (by decide) [a0,a1,a2] hns 3 rfl q0 q1 q2 q3 q4 (fun _=>by decide) (fun _=>by decide) (fun _=>by decide) (fun _=>by decide) (fun h=>absurd h hy4) hsu hw q ho hB
  | a :: b :: d :: e :: l,hns,hl=>exact V1 zs v gl cl A c B w x rs n hn hn9 hps (by simp at hl;omega) (a :: b :: d :: e :: l) hns _ rfl q0 q1 q2 q3 q4 (fun _=>by simp) (fun _=>by simp) (fun _=>by simp) (fun _=>by simp) (fun _=>by simp) hsu hw q ho hB
theorem Zer (zs:List ByteArray) (v:ByteArray) (ps:List ByteArray) (gl cl:Nat) (A:Option Addr) (c B:Nat) (w:World) (h0:ps≠[]) (hn9:ps.length≤1048577) (hps:∀ p∈ps,p.size≤1048576) (hsu:Zf zs=true) (hw:isW (L v)=true) (q:StrAt w gl cl ps) (ho:Own w B 9 (.slice A zs.length c) (zs.map Value.string)) (hB:B≤w.heap.size) :
  Calls Tryz.prog 40 #[.agg #[.slice A zs.length c,.string v],.slice (some ⟨gl,0,none⟩) ps.length cl] w fun e w'=>e=.returned (.tuple #[.string ((QK zs v ps).getD { data:=#[] }),.bool (QK zs v ps).isSome])∧Below w.heap.size w w':=by
 match ps,h0,hn9,hps,q with
 | [x],_,hn9,hps,q =>
  by_cases hx0:x=({ data:=#[115,104,111,119] }:ByteArray)
  ·have hv:QK zs v [x]=some (orD v):=by subst hx0;rfl
   rw[hv]
   exact ZhM zs v gl cl A c B w x hx0 hsu hw q ho hB
  by_cases hx1:x=({ data:=#[108,105,110,101] }:ByteArray)
  ·have hv:QK zs v [x]=some (wlV v):=by subst hx1;rfl
   rw[hv]
   exact ZhN zs v gl cl A c B w x hx1 hsu hw q ho hB
  by_cases hx2:x=({ data:=#[115,117,98,115,116] }:ByteArray)
  ·have hv:QK zs v [x]=some (slV zs):=by subst hx2;rfl
   rw[hv]
   exact ZgA zs v gl cl A c B w x hx2 hsu hw q ho hB
  by_cases hx3:x=({ data:=#[112,97,114,116,115] }:ByteArray)
  ·have hv:QK zs v [x]=some (JV v):=by subst hx3;rfl
   rw[hv]
   exact ZgB zs v gl cl A c B w x hx3 hsu hw q ho hB
  have hv:QK zs v [x]=Jt v x []:=by
   have h2:Jt v x []=none:=rfl
   rw[h2];simp only[QK];rw[if_neg hx0,if_neg hx1,if_neg hx2,if_neg hx3]
  rw[hv]
  exact XY zs v gl cl A c B w x [] 1 rfl (by decide) (fun p hp=>by cases hp) (fun h=>absurd h hx0) (fun h=>absurd h hx1) (fun h=>absurd h hx2) (fun h=>absurd h hx3) (fun _=>by decide) hsu hw q ho hB
 | [x,t],_,hn9,hps,q =>
  by_cases hx4:x=({ data:=#[114,101,116,117,114,110,115] }:ByteArray)
  ·have hv:QK zs v [x,t]=some (rlS v t):=by subst hx4;rfl
   rw[hv]
   exact ZcL zs v gl cl A c B w x t hx4 (hps t (by simp)) hsu hw q ho hB
  have hv:QK zs v [x,t]=Jt v x [t]:=by simp only[QK];rw[if_neg hx4]
  rw[hv]
  exact XY zs v gl cl A c B w x [t] 2 rfl (by decide) (fun p hp=>hps p (List.mem_cons_of_mem _ hp)) (fun _=>by decide) (fun _=>by decide) (fun _=>by decide) (fun _=>by decide) (fun h=>absurd h hx4) hsu hw q ho hB
 | x :: t :: m :: l,_,hn9,hps,q =>
  exact XY zs v gl cl A c B w x (t :: m :: l) (l.length+1+1+1) rfl hn9 (fun p hp=>hps p (List.mem_cons_of_mem _ hp)) (fun _=>by omega) (fun _=>by omega) (fun _=>by omega) (fun _=>by omega) (fun _=>by omega) hsu hw q ho hB
end Go.Proofs.YtocbgldilgemoaaGreatDoor
