/- The reference's way through a line of a session (plain). No condition. -/
import Derived.Test.YtocbgldilgemoaaGreatDoorM30
namespace Go.Proofs.YtocbgldilgemoaaGreatDoor
open Go.RowKit
set_option linter.unusedVariables false
noncomputable section
def Qd (v x:ByteArray):List Int→Option ByteArray
 | [a]=>if x=({ data:=#[102,97,99,116,111,114,115] }:ByteArray) then some (VG v a) else if x=({ data:=#[110,117,109,98,101,114] }:ByteArray) then some (JR a) else none
 | [a,b]=>if x=({ data:=#[103,111,108,100] }:ByteArray) then some (JP a b) else if x=({ data:=#[113,117,111,116,105,101,110,116,115] }:ByteArray) then some (lsS (quV a b)) else none
 | [a,b,c]=>if x=({ data:=#[103,97,112,115] }:ByteArray) then some (lsS (gaV a b c)) else none
 | _=>none
def Jt (v x:ByteArray) (r:List ByteArray):Option ByteArray:=(Zt r).bind (Qd v x)
def QK (zs:List ByteArray) (v:ByteArray):List ByteArray→Option ByteArray
 | []=>none
 | [x]=>if x=({ data:=#[115,104,111,119] }:ByteArray) then some (orD v) else if x=({ data:=#[108,105,110,101] }:ByteArray) then some (wlV v) else if x=({ data:=#[115,117,98,115,116] }:ByteArray) then some (slV zs) else if x=({ data:=#[112,97,114,116,115] }:ByteArray) then some (JV v) else none
 | [x,t]=>if x=({ data:=#[114,101,116,117,114,110,115] }:ByteArray) then some (rlS v t) else Jt v x [t]
 | x :: r=>Jt v x r
def QV (zs:List ByteArray) (v:ByteArray):List ByteArray→Option (Option (List ByteArray))
 | [x]=>if x=({ data:=#[109,105,114,114,111,114] }:ByteArray) then some (tsV zs) else none
 | [x,t]=>if x=({ data:=#[115,117,98,115,116] }:ByteArray) then some (suT t) else if x=({ data:=#[97,102,116,101,114] }:ByteArray) then some ((suT t).bind (cmV zs)) else none
 | _=>none
def okW (o:Option ByteArray):ByteArray × Bool:=(o.getD { data:=#[] },o.isSome)
def wdN (zs:List ByteArray) (v x:ByteArray):List Int→Option (ByteArray × Bool)
 | [a]=>if x=({ data:=#[103,114,111,119] }:ByteArray) then some (okW (itV zs v a)) else if x=({ data:=#[115,104,105,102,116] }:ByteArray) then some (shW v a,true) else if x=({ data:=#[115,101,108,102] }:ByteArray) then some (okW (sgV a)) else if x=({ data:=#[102,111,108,100] }:ByteArray) then some (okW (fdV a)) else none
 | [a,b,c]=>if x=({ data:=#[115,108,111,112,101] }:ByteArray) then some (okW (mcV a b c)) else none
 | _=>none
def wdM (zs:List ByteArray) (v x:ByteArray) (r:List ByteArray):Option (ByteArray × Bool):=(Zt r).bind (wdN zs v x)
def wdV (zs:List ByteArray) (v:ByteArray):List ByteArray→Option (ByteArray × Bool)
 | []=>none
 | [x]=>if x=({ data:=#[97,112,112,108,121] }:ByteArray) then some (okW (itV zs v 1)) else if x=({ data:=#[112,97,114,101,110,116] }:ByteArray) then some (okW (paV zs v)) else if x=({ data:=#[116,117,114,110] }:ByteArray) then some (trW v,true) else if x=({ data:=#[99,108,111,115,101] }:ByteArray) then some (clV v,true) else none
 | [x,t]=>if x=({ data:=#[119,111,114,100] }:ByteArray) then some (t,isW (L t)) else if x=({ data:=#[100,101,114,105,118,101] }:ByteArray) then some (drS v t,drB v t) else wdM zs v x [t]
 | [x,t,m]=>if x=({ data:=#[102,105,120,101,100] }:ByteArray) then (iP m).bind fun n=>some (okW (fxV zs t n)) else wdM zs v x [t,m]
 | x :: r=>wdM zs v x r
def fnW (zs:List ByteArray) (v:ByteArray) (u:ByteArray × Bool):Rz:=if (u.2&&J7 v u.1)=true then (zs,u.1,orD u.1) else (zs,v,ZY)
def rlR (zs:List ByteArray) (v:ByteArray) (ps:List ByteArray):Rz :=
 match QK zs v ps with
 | some s=>(zs,v,s)
 | none=>match QV zs v ps with
  | some o=>Jl zs v o
  | none=>match wdV zs v ps with
   | some u=>fnW zs v u
   | none=>(zs,v,QJ)
theorem Qm (zs:List ByteArray) (v:ByteArray) (o:Option ByteArray):fnW zs v (okW o)=ZG zs v o:=by
 cases o with
 | none=>rw[fnW,okW,if_neg (by simp)];rfl
 | some u=>rw[fnW,okW,Option.isSome_some,Bool.true_and];rfl
theorem Z7 (zs:List ByteArray) (v u:ByteArray):fnW zs v (u,true)=ZG zs v (some u):=by
 rw[fnW,Bool.true_and];rfl
theorem YB (zs:List ByteArray) (v t:ByteArray):fnW zs v (t,isW (L t))=ZG zs v (some t):=by
 rw[fnW,ZG]
 have:(isW (L t)&&J7 v t)=J7 v t:=by
  rw[J7,← Bool.and_assoc,Bool.and_self]
 simp only[this]
theorem Zcl (zs:List ByteArray) (v t:ByteArray):fnW zs v (drS v t,drB v t)=ZG zs v (drV v t):=by
 rw[drV]
 by_cases h:drB v t=true
 ·rw[if_pos h,h];exact Z7 zs v _
 ·rw[if_neg h,fnW,Bool.eq_false_iff.2 h,Bool.false_and,if_neg (by decide)];rfl
theorem ZkZ (zs:List ByteArray) (v x:ByteArray):rlR zs v [x]=rlP zs v [x]:=by
 by_cases h0:x=({ data:=#[109,105,114,114,111,114] }:ByteArray)
 ·subst h0;simp (decide:=true) only [rlR,QK,QV,rlP,rl1,if_true,if_false]
 by_cases h1:x=({ data:=#[97,112,112,108,121] }:ByteArray)
 ·subst h1;simp (decide:=true) only [rlR,QK,QV,wdV,rlP,rl1,if_true,if_false,Qm]
 by_cases h2:x=({ data:=#[112,97,114,101,110,116] }:ByteArray)
 ·subst h2;simp (decide:=true) only [rlR,QK,QV,wdV,rlP,rl1,if_true,if_false,Qm]
 by_cases h3:x=({ data:=#[116,117,114,110] }:ByteArray)
 ·subst h3;simp (decide:=true) only [rlR,QK,QV,wdV,rlP,rl1,if_true,if_false,Z7]
 by_cases h4:x=({ data:=#[99,108,111,115,101] }:ByteArray)
 ·subst h4;simp (decide:=true) only [rlR,QK,QV,wdV,rlP,rl1,if_true,if_false,Z7]
 by_cases h5:x=({ data:=#[115,104,111,119] }:ByteArray)
 ·subst h5;simp (decide:=true) only [rlR,QK,rlP,rl1,if_true,if_false]
 by_cases h6:x=({ data:=#[108,105,110,101] }:ByteArray)
 ·subst h6;simp (decide:=true) only [rlR,QK,rlP,rl1,if_true,if_false]
 by_cases h7:x=({ data:=#[115,117,98,115,116] }:ByteArray)
 ·subst h7;simp (decide:=true) only [rlR,QK,rlP,rl1,if_true,if_false]
 by_cases h8:x=({ data:=#[112,97,114,116,115] }:ByteArray)
 ·subst h8;simp (decide:=true) only [rlR,QK,rlP,rl1,if_true,if_false]
 simp only[rlR,QK,QV,wdV,rlP,rl1,h0,h1,h2,h3,h4,h5,h6,h7,h8,if_false]
theorem Zk0 (zs:List ByteArray) (v x:ByteArray) (n:List Int):(match Qd v x n with|some s=>(zs,v,s)|none=>match wdN zs v x n with|some u=>fnW zs v u|none=>(zs,v,QJ))=rlN zs v x n:=by
 match n with
 | []=>rfl
 | [a] =>
  by_cases h0:x=({ data:=#[103,114,111,119] }:ByteArray)
  ·subst h0;simp (decide:=true) only [Qd,wdN,rlN,if_true,if_false,Qm]
  by_cases h1:x=({ data:=#[115,104,105,102,116] }:ByteArray)
  ·subst h1;simp (decide:=true) only [Qd,wdN,rlN,if_true,if_false,Z7]
  by_cases h2:x=({ data:=#[115,101,108,102] }:ByteArray)
  ·subst h2;simp (decide:=true) only [Qd,wdN,rlN,if_true,if_false,Qm]
  by_cases h3:x=({ data:=#[102,111,108,100] }:ByteArray)
  ·subst h3;simp (decide:=true) only [Qd,wdN,rlN,if_true,if_false,Qm]
  by_cases h4:x=({ data:=#[102,97,99,116,111,114,115] }:ByteArray)
  ·subst h4;simp (decide:=true) only [Qd,rlN,if_true,if_false]
  by_cases h5:x=({ data:=#[110,117,109,98,101,114] }:ByteArray)
  ·subst h5;simp (decide:=true) only [Qd,rlN,if_true,if_false]
  simp only[Qd,wdN,rlN,h0,h1,h2,h3,h4,h5,if_false]
 | [a,b] =>
  by_cases h0:x=({ data:=#[103,111,108,100] }:ByteArray)
  ·subst h0;simp (decide:=true) only [Qd,rlN,if_true,if_false]
  by_cases h1:x=({ data:=#[113,117,111,116,105,101,110,116,115] }:ByteArray)
  ·subst h1;simp (decide:=true) only [Qd,rlN,if_true,if_false]
  simp only[Qd,wdN,rlN,h0,h1,if_false]
 | [a,b,c] =>
  by_cases h0:x=({ data:=#[115,108,111,112,101] }:ByteArray)
  ·subst h0;simp (decide:=true) only [Qd,wdN,rlN,if_true,if_false,Qm]
  by_cases h1:x=({ data:=#[103,97,112,115] }:ByteArray)
  ·subst h1;simp (decide:=true) only [Qd,rlN,if_true,if_false]
  simp only[Qd,wdN,rlN,h0,h1,if_false]
 | _ :: _ :: _ :: _ :: _=>rfl
theorem WU (zs:List ByteArray) (v x:ByteArray) (r:List ByteArray):(match Jt v x r with|some s=>(zs,v,s)|none=>match wdM zs v x r with|some u=>fnW zs v u|none=>(zs,v,QJ))=rl3 zs v x r:=by
 unfold Jt wdM rl3
 cases hn:Zt r with
 | none=>rfl
 | some n=>exact Zk0 zs v x n
theorem Zk1 (zs:List ByteArray) (v x t:ByteArray):rlR zs v [x,t]=rlP zs v [x,t]:=by
 have hm:=WU zs v x [t]
 by_cases h0:x=({ data:=#[115,117,98,115,116] }:ByteArray)
 ·have ha:Jt v x [t]=none:=by
   subst h0;unfold Jt;cases Zt [t] with
   | none=>rfl
   | some n =>
    show Qd v _ n=none
    match n with
    | []=>rfl
    | [a]=>simp (decide:=true) only [Qd,if_false]
    | [a,b]=>simp (decide:=true) only [Qd,if_false]
    | [a,b,c]=>simp (decide:=true) only [Qd,if_false]
    | _ :: _ :: _ :: _ :: _=>rfl
  subst h0;simp (decide:=true) only [rlR,QK,QV,rlP,rl2,if_true,if_false,ha]
 by_cases h1:x=({ data:=#[97,102,116,101,114] }:ByteArray)
 ·have ha:Jt v x [t]=none:=by
   subst h1;unfold Jt;cases Zt [t] with
   | none=>rfl
   | some n =>
    show Qd v _ n=none
    match n with
    | []=>rfl
    | [a]=>simp (decide:=true) only [Qd,if_false]
    | [a,b]=>simp (decide:=true) only [Qd,if_false]
    | [a,b,c]=>simp (decide:=true) only [Qd,if_false]
    | _ :: _ :: _ :: _ :: _=>rfl
  subst h1;simp (decide:=true) only [rlR,QK,QV,rlP,rl2,if_true,if_false,ha]
 by_cases h2:x=({ data:=#[119,111,114,100] }:ByteArray)
 ·have ha:Jt v x [t]=none:=by
   subst h2;unfold Jt;cases Zt [t] with
   | none=>rfl
   | some n =>
    show Qd v _ n=none
    match n with
    | []=>rfl
    | [a]=>simp (decide:=true) only [Qd,if_false]
    | [a,b]=>simp (decide:=true) only [Qd,if_false]
    | [a,b,c]=>simp (decide:=true) only [Qd,if_false]
    | _ :: _ :: _ :: _ :: _=>rfl
  subst h2;simp (decide:=true) only [rlR,QK,QV,wdV,rlP,rl2,if_true,if_false,ha,YB]
 by_cases h3:x=({ data:=#[100,101,114,105,118,101] }:ByteArray)
 ·have ha:Jt v x [t]=none:=by
   subst h3;unfold Jt;cases Zt [t] with
   | none=>rfl
   | some n =>
    show Qd v _ n=none
    match n with
    | []=>rfl
    | [a]=>simp (decide:=true) only [Qd,if_false]
    | [a,b]=>simp (decide:=true) only [Qd,if_false]
    | [a,b,c]=>simp (decide:=true) only [Qd,if_false]
    | _ :: _ :: _ :: _ :: _=>rfl
  subst h3;simp (decide:=true) only [rlR,QK,QV,wdV,rlP,rl2,if_true,if_false,ha,Zcl]
 by_cases h4:x=({ data:=#[114,101,116,117,114,110,115] }:ByteArray)
 ·subst h4;simp (decide:=true) only [rlR,QK,rlP,rl2,if_true,if_false]
 simp only[rlR,QK,QV,wdV,rlP,rl2,h0,h1,h2,h3,h4,if_false]
 exact hm
theorem Zhs (zs:List ByteArray) (v x t m:ByteArray):rlR zs v [x,t,m]=rlP zs v [x,t,m]:=by
 have hm:=WU zs v x [t,m]
 by_cases h0:x=({ data:=#[102,105,120,101,100] }:ByteArray)
 ·have ha:Jt v x [t,m]=none:=by
   subst h0;unfold Jt;cases Zt [t,m] with
   | none=>rfl
   | some n =>
    show Qd v _ n=none
    match n with
    | []=>rfl
    | [a]=>simp (decide:=true) only [Qd,if_false]
    | [a,b]=>simp (decide:=true) only [Qd,if_false]
    | [a,b,c]=>simp (decide:=true) only [Qd,if_false]
    | _ :: _ :: _ :: _ :: _=>rfl
  simp only[rlR,QK,QV,wdV,rlP,h0,if_true]
  rw[h0] at ha
  rw[ha]
  cases iP m with
  | none=>rfl
  | some n=>exact Qm zs v _
 simp only[rlR,QK,QV,wdV,rlP,h0,if_false]
 exact hm
theorem ZlS (zs:List ByteArray) (v:ByteArray) (ps:List ByteArray):rlR zs v ps=rlP zs v ps:=by
 match ps with
 | []=>rfl
 | [x]=>exact ZkZ zs v x
 | [x,t]=>exact Zk1 zs v x t
 | [x,t,m]=>exact Zhs zs v x t m
 | x :: a :: b :: c :: r=>exact WU zs v x (a :: b :: c :: r)
end
end Go.Proofs.YtocbgldilgemoaaGreatDoor
