/- Lines of a name and numbers of the program's console. Asks the shelf's text. No condition but the bounds. -/
import Derived.Test.YtocbgldilgemoaaGreatDoorCn1
import Derived.Test.YtocbgldilgemoaaGreatDoorCn2
import Derived.Test.YtocbgldilgemoaaGreatDoorCn3
import Derived.Test.YtocbgldilgemoaaGreatDoorCn4
namespace Go.Proofs.YtocbgldilgemoaaGreatDoor
open Go.RowKit
set_option linter.unusedVariables false
set_option maxRecDepth 8000 in
set_option maxHeartbeats 8000000 in
theorem Jb (zs:List ByteArray) (v x:ByteArray) (Ai:Option Addr) (n cn:Nat) (A:Option Addr) (c B:Nat) (w:World) (hn:n≤2000000) (q0:x=({ data:=#[103,114,111,119] }:ByteArray)→n≠1) (q1:x=({ data:=#[115,104,105,102,116] }:ByteArray)→n≠1) (q2:x=({ data:=#[115,101,108,102] }:ByteArray)→n≠1) (q3:x=({ data:=#[102,111,108,100] }:ByteArray)→n≠1) (q4:x=({ data:=#[115,108,111,112,101] }:ByteArray)→n≠3) (q5:x=({ data:=#[102,97,99,116,111,114,115] }:ByteArray)→n≠1) (q6:x=({ data:=#[110,117,109,98,101,114] }:ByteArray)→n≠1) (q7:x=({ data:=#[103,111,108,100] }:ByteArray)→n≠2) (q8:x=({ data:=#[113,117,111,116,105,101,110,116,115] }:ByteArray)→n≠2) (q9:x=({ data:=#[103,97,112,115] }:ByteArray)→n≠3) (ho:Own w B 9 (.slice A zs.length c) (zs.map Value.string)) (hB:B≤w.heap.size) :
  Calls Tryz.prog 64 #[.agg #[.slice A zs.length c,.string v],.string x,.slice Ai n cn] w fun e w'=>BnR B w (zs,v,QJ) e w':=by
 have hO2:Own ((w.alloc (.cells #[.slice A zs.length c,.string v] 28)).alloc (.cells #[.slice A zs.length c,.string v] 28)) B 9 (.slice A zs.length c) (zs.map Value.string):=ho.below (ZX w _ _)
 have HO2:=Hd hO2
 clear hO2 ho
 by_cases hx0:x=({ data:=#[103,114,111,119] }:ByteArray)
 ·have hx:=hx0
  as_aux_lemma =>
   have e0:(x.toList==[103,114,111,119])=true:=by rw[hx,ByteArray.toList_eq];rfl
   have e1:(x.toList==[115,104,105,102,116])=false:=by rw[hx,ByteArray.toList_eq];rfl
   have e2:(x.toList==[115,101,108,102])=false:=by rw[hx,ByteArray.toList_eq];rfl
   have e3:(x.toList==[102,111,108,100])=false:=by rw[hx,ByteArray.toList_eq];rfl
   have e4:(x.toList==[115,108,111,112,101])=false:=by rw[hx,ByteArray.toList_eq];rfl
   have e5:(x.toList==[102,97,99,116,111,114,115])=false:=by rw[hx,ByteArray.toList_eq];rfl
   have e6:(x.toList==[110,117,109,98,101,114])=false:=by rw[hx,ByteArray.toList_eq];rfl
   have e7:(x.toList==[103,111,108,100])=false:=by rw[hx,ByteArray.toList_eq];rfl
   have e8:(x.toList==[113,117,111,116,105,101,110,116,115])=false:=by rw[hx,ByteArray.toList_eq];rfl
   have e9:(x.toList==[103,97,112,115])=false:=by rw[hx,ByteArray.toList_eq];rfl
   have k1:¬ n=1:=q0 hx
   have k2:¬ (n:Int)=1:=by omega
   have k3:((n:Int)==1)=false:=by simp;omega
   clear hx hx0 q0 q1 q2 q3 q4 q5 q6 q7 q8 q9
   go_enter Tryz.func64,Tryz.ntmps64
   go_wp2_with fail
   refine bodyPost_ret (Za rfl _ _ (w.heap.size+1) 28 _ (0,0) _ rfl (ZW w _ _) Tryz.underlying28 rfl (by kernel_rfl)) rfl ?_
   exact⟨A,c,rfl,HO2.o,ZX w _ _⟩
 by_cases hx1:x=({ data:=#[115,104,105,102,116] }:ByteArray)
 ·have hx:=hx1
  as_aux_lemma =>
   have e1:(x.toList==[115,104,105,102,116])=true:=by rw[hx,ByteArray.toList_eq];rfl
   have e0:(x.toList==[103,114,111,119])=false:=by rw[hx,ByteArray.toList_eq];rfl
   have e2:(x.toList==[115,101,108,102])=false:=by rw[hx,ByteArray.toList_eq];rfl
   have e3:(x.toList==[102,111,108,100])=false:=by rw[hx,ByteArray.toList_eq];rfl
   have e4:(x.toList==[115,108,111,112,101])=false:=by rw[hx,ByteArray.toList_eq];rfl
   have e5:(x.toList==[102,97,99,116,111,114,115])=false:=by rw[hx,ByteArray.toList_eq];rfl
   have e6:(x.toList==[110,117,109,98,101,114])=false:=by rw[hx,ByteArray.toList_eq];rfl
   have e7:(x.toList==[103,111,108,100])=false:=by rw[hx,ByteArray.toList_eq];rfl
   have e8:(x.toList==[113,117,111,116,105,101,110,116,115])=false:=by rw[hx,ByteArray.toList_eq];rfl
   have e9:(x.toList==[103,97,112,115])=false:=by rw[hx,ByteArray.toList_eq];rfl
   have k1:¬ n=1:=q1 hx
   have k2:¬ (n:Int)=1:=by omega
   have k3:((n:Int)==1)=false:=by simp;omega
   clear hx hx0 hx1 q0 q1 q2 q3 q4 q5 q6 q7 q8 q9
   go_enter Tryz.func64,Tryz.ntmps64
   go_wp2_with fail
   refine bodyPost_ret (Za rfl _ _ (w.heap.size+1) 28 _ (0,0) _ rfl (ZW w _ _) Tryz.underlying28 rfl (by kernel_rfl)) rfl ?_
   exact⟨A,c,rfl,HO2.o,ZX w _ _⟩
 by_cases hx2:x=({ data:=#[115,101,108,102] }:ByteArray)
 ·have hx:=hx2
  as_aux_lemma =>
   have e2:(x.toList==[115,101,108,102])=true:=by rw[hx,ByteArray.toList_eq];rfl
   have e0:(x.toList==[103,114,111,119])=false:=by rw[hx,ByteArray.toList_eq];rfl
   have e1:(x.toList==[115,104,105,102,116])=false:=by rw[hx,ByteArray.toList_eq];rfl
   have e3:(x.toList==[102,111,108,100])=false:=by rw[hx,ByteArray.toList_eq];rfl
   have e4:(x.toList==[115,108,111,112,101])=false:=by rw[hx,ByteArray.toList_eq];rfl
   have e5:(x.toList==[102,97,99,116,111,114,115])=false:=by rw[hx,ByteArray.toList_eq];rfl
   have e6:(x.toList==[110,117,109,98,101,114])=false:=by rw[hx,ByteArray.toList_eq];rfl
   have e7:(x.toList==[103,111,108,100])=false:=by rw[hx,ByteArray.toList_eq];rfl
   have e8:(x.toList==[113,117,111,116,105,101,110,116,115])=false:=by rw[hx,ByteArray.toList_eq];rfl
   have e9:(x.toList==[103,97,112,115])=false:=by rw[hx,ByteArray.toList_eq];rfl
   have k1:¬ n=1:=q2 hx
   have k2:¬ (n:Int)=1:=by omega
   have k3:((n:Int)==1)=false:=by simp;omega
   clear hx hx0 hx1 hx2 q0 q1 q2 q3 q4 q5 q6 q7 q8 q9
   go_enter Tryz.func64,Tryz.ntmps64
   go_wp2_with fail
   refine bodyPost_ret (Za rfl _ _ (w.heap.size+1) 28 _ (0,0) _ rfl (ZW w _ _) Tryz.underlying28 rfl (by kernel_rfl)) rfl ?_
   exact⟨A,c,rfl,HO2.o,ZX w _ _⟩
 by_cases hx3:x=({ data:=#[102,111,108,100] }:ByteArray)
 ·have hx:=hx3
  as_aux_lemma =>
   have e3:(x.toList==[102,111,108,100])=true:=by rw[hx,ByteArray.toList_eq];rfl
   have e0:(x.toList==[103,114,111,119])=false:=by rw[hx,ByteArray.toList_eq];rfl
   have e1:(x.toList==[115,104,105,102,116])=false:=by rw[hx,ByteArray.toList_eq];rfl
   have e2:(x.toList==[115,101,108,102])=false:=by rw[hx,ByteArray.toList_eq];rfl
   have e4:(x.toList==[115,108,111,112,101])=false:=by rw[hx,ByteArray.toList_eq];rfl
   have e5:(x.toList==[102,97,99,116,111,114,115])=false:=by rw[hx,ByteArray.toList_eq];rfl
   have e6:(x.toList==[110,117,109,98,101,114])=false:=by rw[hx,ByteArray.toList_eq];rfl
   have e7:(x.toList==[103,111,108,100])=false:=by rw[hx,ByteArray.toList_eq];rfl
   have e8:(x.toList==[113,117,111,116,105,101,110,116,115])=false:=by rw[hx,ByteArray.toList_eq];rfl
   have e9:(x.toList==[103,97,112,115])=false:=by rw[hx,ByteArray.toList_eq];rfl
   have k1:¬ n=1:=q3 hx
   have k2:¬ (n:Int)=1:=by omega
   have k3:((n:Int)==1)=false:=by simp;omega
   clear hx hx0 hx1 hx2 hx3 q0 q1 q2 q3 q4 q5 q6 q7 q8 q9
   go_enter Tryz.func64,Tryz.ntmps64
   go_wp2_with fail
   refine bodyPost_ret (Za rfl _ _ (w.heap.size+1) 28 _ (0,0) _ rfl (ZW w _ _) Tryz.underlying28 rfl (by kernel_rfl)) rfl ?_
   exact⟨A,c,rfl,HO2.o,ZX w _ _⟩
 by_cases hx4:x=({ data:=#[115,108,111,112,101] }:ByteArray)
 ·have hx:=hx4
  as_aux_lemma =>
   have e4:(x.toList==[115,108,111,112,101])=true:=by rw[hx,ByteArray.toList_eq];rfl
   have e0:(x.toList==[103,114,111,119])=false:=by rw[hx,ByteArray.toList_eq];rfl
   have e1:(x.toList==[115,104,105,102,116])=false:=by rw[hx,ByteArray.toList_eq];rfl
   have e2:(x.toList==[115,101,108,102])=false:=by rw[hx,ByteArray.toList_eq];rfl
   have e3:(x.toList==[102,111,108,100])=false:=by rw[hx,ByteArray.toList_eq];rfl
   have e5:(x.toList==[102,97,99,116,111,114,115])=false:=by rw[hx,ByteArray.toList_eq];rfl
   have e6:(x.toList==[110,117,109,98,101,114])=false:=by rw[hx,ByteArray.toList_eq];rfl
   have e7:(x.toList==[103,111,108,100])=false:=by rw[hx,ByteArray.toList_eq];rfl
   have e8:(x.toList==[113,117,111,116,105,101,110,116,115])=false:=by rw[hx,ByteArray.toList_eq];rfl
   have e9:(x.toList==[103,97,112,115])=false:=by rw[hx,ByteArray.toList_eq];rfl
   have k1:¬ n=3:=q4 hx
   have k2:¬ (n:Int)=3:=by omega
   have k3:((n:Int)==3)=false:=by simp;omega
   clear hx hx0 hx1 hx2 hx3 hx4 q0 q1 q2 q3 q4 q5 q6 q7 q8 q9
   go_enter Tryz.func64,Tryz.ntmps64
   go_wp2_with fail
   refine bodyPost_ret (Za rfl _ _ (w.heap.size+1) 28 _ (0,0) _ rfl (ZW w _ _) Tryz.underlying28 rfl (by kernel_rfl)) rfl ?_
   exact⟨A,c,rfl,HO2.o,ZX w _ _⟩
 by_cases hx5:x=({ data:=#[102,97,99,116,111,114,115] }:ByteArray)
 ·have hx:=hx5
  as_aux_lemma =>
   have e5:(x.toList==[102,97,99,116,111,114,115])=true:=by rw[hx,ByteArray.toList_eq];rfl
   have e0:(x.toList==[103,114,111,119])=false:=by rw[hx,ByteArray.toList_eq];rfl
   have e1:(x.toList==[115,104,105,102,116])=false:=by rw[hx,ByteArray.toList_eq];rfl
   have e2:(x.toList==[115,101,108,102])=false:=by rw[hx,ByteArray.toList_eq];rfl
   have e3:(x.toList==[102,111,108,100])=false:=by rw[hx,ByteArray.toList_eq];rfl
   have e4:(x.toList==[115,108,111,112,101])=false:=by rw[hx,ByteArray.toList_eq];rfl
   have e6:(x.toList==[110,117,109,98,101,114])=false:=by rw[hx,ByteArray.toList_eq];rfl
   have e7:(x.toList==[103,111,108,100])=false:=by rw[hx,ByteArray.toList_eq];rfl
   have e8:(x.toList==[113,117,111,116,105,101,110,116,115])=false:=by rw[hx,ByteArray.toList_eq];rfl
   have e9:(x.toList==[103,97,112,115])=false:=by rw[hx,ByteArray.toList_eq];rfl
   have k1:¬ n=1:=q5 hx
   have k2:¬ (n:Int)=1:=by omega
   have k3:((n:Int)==1)=false:=by simp;omega
   clear hx hx0 hx1 hx2 hx3 hx4 hx5 q0 q1 q2 q3 q4 q5 q6 q7 q8 q9
   go_enter Tryz.func64,Tryz.ntmps64
   go_wp2_with fail
   refine bodyPost_ret (Za rfl _ _ (w.heap.size+1) 28 _ (0,0) _ rfl (ZW w _ _) Tryz.underlying28 rfl (by kernel_rfl)) rfl ?_
   exact⟨A,c,rfl,HO2.o,ZX w _ _⟩
 by_cases hx6:x=({ data:=#[110,117,109,98,101,114] }:ByteArray)
 ·have hx:=hx6
  as_aux_lemma =>
   have e6:(x.toList==[110,117,109,98,101,114])=true:=by rw[hx,ByteArray.toList_eq];rfl
   have e0:(x.toList==[103,114,111,119])=false:=by rw[hx,ByteArray.toList_eq];rfl
   have e1:(x.toList==[115,104,105,102,116])=false:=by rw[hx,ByteArray.toList_eq];rfl
   have e2:(x.toList==[115,101,108,102])=false:=by rw[hx,ByteArray.toList_eq];rfl
   have e3:(x.toList==[102,111,108,100])=false:=by rw[hx,ByteArray.toList_eq];rfl
   have e4:(x.toList==[115,108,111,112,101])=false:=by rw[hx,ByteArray.toList_eq];rfl
   have e5:(x.toList==[102,97,99,116,111,114,115])=false:=by rw[hx,ByteArray.toList_eq];rfl
   have e7:(x.toList==[103,111,108,100])=false:=by rw[hx,ByteArray.toList_eq];rfl
   have e8:(x.toList==[113,117,111,116,105,101,110,116,115])=false:=by rw[hx,ByteArray.toList_eq];rfl
   have e9:(x.toList==[103,97,112,115])=false:=by rw[hx,ByteArray.toList_eq];rfl
   have k1:¬ n=1:=q6 hx
   have k2:¬ (n:Int)=1:=by omega
   have k3:((n:Int)==1)=false:=by simp;omega
   clear hx hx0 hx1 hx2 hx3 hx4 hx5 hx6 q0 q1 q2 q3 q4 q5 q6 q7 q8 q9
   go_enter Tryz.func64,Tryz.ntmps64
   go_wp2_with fail
   refine bodyPost_ret (Za rfl _ _ (w.heap.size+1) 28 _ (0,0) _ rfl (ZW w _ _) Tryz.underlying28 rfl (by kernel_rfl)) rfl ?_
   exact⟨A,c,rfl,HO2.o,ZX w _ _⟩
 by_cases hx7:x=({ data:=#[103,111,108,100] }:ByteArray)
 ·have hx:=hx7
  as_aux_lemma =>
   have e7:(x.toList==[103,111,108,100])=true:=by rw[hx,ByteArray.toList_eq];rfl
   have e0:(x.toList==[103,114,111,119])=false:=by rw[hx,ByteArray.toList_eq];rfl
   have e1:(x.toList==[115,104,105,102,116])=false:=by rw[hx,ByteArray.toList_eq];rfl
   have e2:(x.toList==[115,101,108,102])=false:=by rw[hx,ByteArray.toList_eq];rfl
   have e3:(x.toList==[102,111,108,100])=false:=by rw[hx,ByteArray.toList_eq];rfl
   have e4:(x.toList==[115,108,111,112,101])=false:=by rw[hx,ByteArray.toList_eq];rfl
   have e5:(x.toList==[102,97,99,116,111,114,115])=false:=by rw[hx,ByteArray.toList_eq];rfl
   have e6:(x.toList==[110,117,109,98,101,114])=false:=by rw[hx,ByteArray.toList_eq];rfl
   have e8:(x.toList==[113,117,111,116,105,101,110,116,115])=false:=by rw[hx,ByteArray.toList_eq];rfl
   have e9:(x.toList==[103,97,112,115])=false:=by rw[hx,ByteArray.toList_eq];rfl
   have k1:¬ n=2:=q7 hx
   have k2:¬ (n:Int)=2:=by omega
   have k3:((n:Int)==2)=false:=by simp;omega
   clear hx hx0 hx1 hx2 hx3 hx4 hx5 hx6 hx7 q0 q1 q2 q3 q4 q5 q6 q7 q8 q9
   go_enter Tryz.func64,Tryz.ntmps64
   go_wp2_with fail
   refine bodyPost_ret (Za rfl _ _ (w.heap.size+1) 28 _ (0,0) _ rfl (ZW w _ _) Tryz.underlying28 rfl (by kernel_rfl)) rfl ?_
   exact⟨A,c,rfl,HO2.o,ZX w _ _⟩
 by_cases hx8:x=({ data:=#[113,117,111,116,105,101,110,116,115] }:ByteArray)
 ·have hx:=hx8
  as_aux_lemma =>
   have e8:(x.toList==[113,117,111,116,105,101,110,116,115])=true:=by rw[hx,ByteArray.toList_eq];rfl
   have e0:(x.toList==[103,114,111,119])=false:=by rw[hx,ByteArray.toList_eq];rfl
   have e1:(x.toList==[115,104,105,102,116])=false:=by rw[hx,ByteArray.toList_eq];rfl
   have e2:(x.toList==[115,101,108,102])=false:=by rw[hx,ByteArray.toList_eq];rfl
   have e3:(x.toList==[102,111,108,100])=false:=by rw[hx,ByteArray.toList_eq];rfl
   have e4:(x.toList==[115,108,111,112,101])=false:=by rw[hx,ByteArray.toList_eq];rfl
   have e5:(x.toList==[102,97,99,116,111,114,115])=false:=by rw[hx,ByteArray.toList_eq];rfl
   have e6:(x.toList==[110,117,109,98,101,114])=false:=by rw[hx,ByteArray.toList_eq];rfl
   have e7:(x.toList==[103,111,108,100])=false:=by rw[hx,ByteArray.toList_eq];rfl
   have e9:(x.toList==[103,97,112,115])=false:=by rw[hx,ByteArray.toList_eq];rfl
   have k1:¬ n=2:=q8 hx
   have k2:¬ (n:Int)=2:=by omega
   have k3:((n:Int)==2)=false:=by simp;omega
   clear hx hx0 hx1 hx2 hx3 hx4 hx5 hx6 hx7 hx8 q0 q1 q2 q3 q4 q5 q6 q7 q8 q9
   go_enter Tryz.func64,Tryz.ntmps64
   go_wp2_with fail
   refine bodyPost_ret (Za rfl _ _ (w.heap.size+1) 28 _ (0,0) _ rfl (ZW w _ _) Tryz.underlying28 rfl (by kernel_rfl)) rfl ?_
   exact⟨A,c,rfl,HO2.o,ZX w _ _⟩
 by_cases hx9:x=({ data:=#[103,97,112,115] }:ByteArray)
 ·have hx:=hx9
  as_aux_lemma =>
   have e9:(x.toList==[103,97,112,115])=true:=by rw[hx,ByteArray.toList_eq];rfl
   have e0:(x.toList==[103,114,111,119])=false:=by rw[hx,ByteArray.toList_eq];rfl
   have e1:(x.toList==[115,104,105,102,116])=false:=by rw[hx,ByteArray.toList_eq];rfl
   have e2:(x.toList==[115,101,108,102])=false:=by rw[hx,ByteArray.toList_eq];rfl
   have e3:(x.toList==[102,111,108,100])=false:=by rw[hx,ByteArray.toList_eq];rfl
   have e4:(x.toList==[115,108,111,112,101])=false:=by rw[hx,ByteArray.toList_eq];rfl
   have e5:(x.toList==[102,97,99,116,111,114,115])=false:=by rw[hx,ByteArray.toList_eq];rfl
   have e6:(x.toList==[110,117,109,98,101,114])=false:=by rw[hx,ByteArray.toList_eq];rfl
   have e7:(x.toList==[103,111,108,100])=false:=by rw[hx,ByteArray.toList_eq];rfl
   have e8:(x.toList==[113,117,111,116,105,101,110,116,115])=false:=by rw[hx,ByteArray.toList_eq];rfl
   have k1:¬ n=3:=q9 hx
   have k2:¬ (n:Int)=3:=by omega
   have k3:((n:Int)==3)=false:=by simp;omega
   clear hx hx0 hx1 hx2 hx3 hx4 hx5 hx6 hx7 hx8 hx9 q0 q1 q2 q3 q4 q5 q6 q7 q8 q9
   go_enter Tryz.func64,Tryz.ntmps64
   go_wp2_with fail
   refine bodyPost_ret (Za rfl _ _ (w.heap.size+1) 28 _ (0,0) _ rfl (ZW w _ _) Tryz.underlying28 rfl (by kernel_rfl)) rfl ?_
   exact⟨A,c,rfl,HO2.o,ZX w _ _⟩
 have e0:(x.toList==[103,114,111,119])=false:=by have:=Zr hx0;rwa[show (({ data:=#[103,114,111,119] }:ByteArray)).toList=[103,114,111,119] from by rw[ByteArray.toList_eq]] at this
 have e1:(x.toList==[115,104,105,102,116])=false:=by have:=Zr hx1;rwa[show (({ data:=#[115,104,105,102,116] }:ByteArray)).toList=[115,104,105,102,116] from by rw[ByteArray.toList_eq]] at this
 have e2:(x.toList==[115,101,108,102])=false:=by have:=Zr hx2;rwa[show (({ data:=#[115,101,108,102] }:ByteArray)).toList=[115,101,108,102] from by rw[ByteArray.toList_eq]] at this
 have e3:(x.toList==[102,111,108,100])=false:=by have:=Zr hx3;rwa[show (({ data:=#[102,111,108,100] }:ByteArray)).toList=[102,111,108,100] from by rw[ByteArray.toList_eq]] at this
 have e4:(x.toList==[115,108,111,112,101])=false:=by have:=Zr hx4;rwa[show (({ data:=#[115,108,111,112,101] }:ByteArray)).toList=[115,108,111,112,101] from by rw[ByteArray.toList_eq]] at this
 have e5:(x.toList==[102,97,99,116,111,114,115])=false:=by have:=Zr hx5;rwa[show (({ data:=#[102,97,99,116,111,114,115] }:ByteArray)).toList=[102,97,99,116,111,114,115] from by rw[ByteArray.toList_eq]] at this
 have e6:(x.toList==[110,117,109,98,101,114])=false:=by have:=Zr hx6;rwa[show (({ data:=#[110,117,109,98,101,114] }:ByteArray)).toList=[110,117,109,98,101,114] from by rw[ByteArray.toList_eq]] at this
 have e7:(x.toList==[103,111,108,100])=false:=by have:=Zr hx7;rwa[show (({ data:=#[103,111,108,100] }:ByteArray)).toList=[103,111,108,100] from by rw[ByteArray.toList_eq]] at this
 have e8:(x.toList==[113,117,111,116,105,101,110,116,115])=false:=by have:=Zr hx8;rwa[show (({ data:=#[113,117,111,116,105,101,110,116,115] }:ByteArray)).toList=[113,117,111,116,105,101,110,116,115] from by rw[ByteArray.toList_eq]] at this
 have e9:(x.toList==[103,97,112,115])=false:=by have:=Zr hx9;rwa[show (({ data:=#[103,97,112,115] }:ByteArray)).toList=[103,97,112,115] from by rw[ByteArray.toList_eq]] at this
 clear hx0 hx1 hx2 hx3 hx4 hx5 hx6 hx7 hx8 hx9 q0 q1 q2 q3 q4 q5 q6 q7 q8 q9
 go_enter Tryz.func64,Tryz.ntmps64
 go_wp2_with fail
 refine bodyPost_ret (Za rfl _ _ (w.heap.size+1) 28 _ (0,0) _ rfl (ZW w _ _) Tryz.underlying28 rfl (by kernel_rfl)) rfl ?_
 exact⟨A,c,rfl,HO2.o,ZX w _ _⟩
theorem Jx (zs:List ByteArray) (v x:ByteArray) (ns:List Int) (Ai:Option Addr) (cn:Nat) (A:Option Addr) (c B:Nat) (w:World) (hn:ns.length≤2000000) (hi:ns≠[]→∃ g,Ai=some ⟨g,0,none⟩∧IntAt w g cn ns) (h64:∀ z∈ns,I64 z) (hsu:Zf zs=true) (hw:isW (L v)=true) (ho:Own w B 9 (.slice A zs.length c) (zs.map Value.string)) (hB:B≤w.heap.size) (htb:TB w) (hml:MlS w) :
  Calls Tryz.prog 64 #[.agg #[.slice A zs.length c,.string v],.string x,.slice Ai ns.length cn] w fun e w'=>BnR B w (rlN zs v x ns) e w':=by
 match ns,hi,h64,hn with
 | [],hi,h64,hn =>
  exact Jb zs v x Ai 0 cn A c B w (by omega) (fun _=>by decide) (fun _=>by decide) (fun _=>by decide) (fun _=>by decide) (fun _=>by decide) (fun _=>by decide) (fun _=>by decide) (fun _=>by decide) (fun _=>by decide) (fun _=>by decide) ho hB
 | [a0],hi,h64,hn =>
  obtain⟨g,rfl,h1,h2,h3,h4⟩:=hi (by simp)
  by_cases hx0:x=({ data:=#[103,114,111,119] }:ByteArray)
  ·exact Zbr zs v x a0 g cn A c B w hx0 h3 (h4 0 _ rfl) (h64 _ (by simp)) hsu hw ho hB htb hml
  by_cases hx1:x=({ data:=#[115,104,105,102,116] }:ByteArray)
  ·exact Zag zs v x a0 g cn A c B w hx1 h3 (h4 0 _ rfl) (h64 _ (by simp)) hsu hw ho hB htb hml
  by_cases hx2:x=({ data:=#[115,101,108,102] }:ByteArray)
  ·exact Zbs zs v x a0 g cn A c B w hx2 h3 (h4 0 _ rfl) (h64 _ (by simp)) hsu hw ho hB htb hml
  by_cases hx3:x=({ data:=#[102,111,108,100] }:ByteArray)
  ·exact Zbt zs v x a0 g cn A c B w hx3 h3 (h4 0 _ rfl) (h64 _ (by simp)) hsu hw ho hB htb hml
  by_cases hx5:x=({ data:=#[102,97,99,116,111,114,115] }:ByteArray)
  ·exact Xq zs v x a0 g cn A c B w hx5 h3 (h4 0 _ rfl) (h64 _ (by simp)) hsu hw ho hB htb hml
  by_cases hx6:x=({ data:=#[110,117,109,98,101,114] }:ByteArray)
  ·exact Wb zs v x a0 g cn A c B w hx6 h3 (h4 0 _ rfl) (h64 _ (by simp)) hsu hw ho hB htb hml
  have hv:rlN zs v x [a0]=(zs,v,QJ):=by simp only[rlN];rw[if_neg hx0,if_neg hx1,if_neg hx2,if_neg hx3,if_neg hx5,if_neg hx6]
  rw[hv]
  exact Jb zs v x _ 1 cn A c B w (by omega) (fun h=>absurd h hx0) (fun h=>absurd h hx1) (fun h=>absurd h hx2) (fun h=>absurd h hx3) (fun _=>by decide) (fun h=>absurd h hx5) (fun h=>absurd h hx6) (fun _=>by decide) (fun _=>by decide) (fun _=>by decide) ho hB
 | [a0,a1],hi,h64,hn =>
  obtain⟨g,rfl,h1,h2,h3,h4⟩:=hi (by simp)
  by_cases hx7:x=({ data:=#[103,111,108,100] }:ByteArray)
  ·exact Zbq zs v x a0 a1 g cn A c B w hx7 h3 (h4 0 _ rfl) (h4 1 _ rfl) (h64 _ (by simp)) (h64 _ (by simp)) hsu hw ho hB htb hml
  by_cases hx8:x=({ data:=#[113,117,111,116,105,101,110,116,115] }:ByteArray)
  ·exact V4 zs v x a0 a1 g cn A c B w hx8 h3 (h4 0 _ rfl) (h4 1 _ rfl) (h64 _ (by simp)) (h64 _ (by simp)) hsu hw ho hB htb hml
  have hv:rlN zs v x [a0,a1]=(zs,v,QJ):=by simp only[rlN];rw[if_neg hx7,if_neg hx8]
  rw[hv]
  exact Jb zs v x _ 2 cn A c B w (by omega) (fun _=>by decide) (fun _=>by decide) (fun _=>by decide) (fun _=>by decide) (fun _=>by decide) (fun _=>by decide) (fun _=>by decide) (fun h=>absurd h hx7) (fun h=>absurd h hx8) (fun _=>by decide) ho hB
 | [a0,a1,a2],hi,h64,hn =>
  obtain⟨g,rfl,h1,h2,h3,h4⟩:=hi (by simp)
  by_cases hx4:x=({ data:=#[115,108,111,112,101] }:ByteArray)
  ·exact Zaf zs v x a0 a1 a2 g cn A c B w hx4 h3 (h4 0 _ rfl) (h4 1 _ rfl) (h4 2 _ rfl) (h64 _ (by simp)) (h64 _ (by simp)) (h64 _ (by simp)) hsu hw ho hB htb hml
  by_cases hx9:x=({ data:=#[103,97,112,115] }:ByteArray)
  ·exact Zbp zs v x a0 a1 a2 g cn A c B w hx9 h3 (h4 0 _ rfl) (h4 1 _ rfl) (h4 2 _ rfl) (h64 _ (by simp)) (h64 _ (by simp)) (h64 _ (by simp)) hsu hw ho hB htb hml
  have hv:rlN zs v x [a0,a1,a2]=(zs,v,QJ):=by simp only[rlN];rw[if_neg hx4,if_neg hx9]
  rw[hv]
  exact Jb zs v x _ 3 cn A c B w (by omega) (fun _=>by decide) (fun _=>by decide) (fun _=>by decide) (fun _=>by decide) (fun h=>absurd h hx4) (fun _=>by decide) (fun _=>by decide) (fun _=>by decide) (fun _=>by decide) (fun h=>absurd h hx9) ho hB
 | a :: b :: d :: e :: l,hi,h64,hn =>
  exact Jb zs v x Ai (l.length+1+1+1+1) cn A c B w (by simpa using hn) (fun _=>by omega) (fun _=>by omega) (fun _=>by omega) (fun _=>by omega) (fun _=>by omega) (fun _=>by omega) (fun _=>by omega) (fun _=>by omega) (fun _=>by omega) (fun _=>by omega) ho hB
end Go.Proofs.YtocbgldilgemoaaGreatDoor
