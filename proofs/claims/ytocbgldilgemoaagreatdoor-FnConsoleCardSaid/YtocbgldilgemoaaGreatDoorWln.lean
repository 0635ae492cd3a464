/- WordLine, both. Asks the shelf's text; tables: TB. -/
import Derived.Test.YtocbgldilgemoaaGreatDoorM4
import Derived.Test.YtocbgldilgemoaaGreatDoorFmt
namespace Go.Proofs.YtocbgldilgemoaaGreatDoor
set_option maxRecDepth 4000
set_option maxHeartbeats 4000000
open Go.RowKit
set_option linter.unusedVariables false
noncomputable def fW (n:Nat):ByteArray:=Zd (Lib.itoa (n:Int))
theorem YI {n:Nat} (h:n≤400):(fW n).size≤21:=by
 rw[fW,Zh];exact Jq (n:=(n:Int)) (by unfold I64;omega)
noncomputable def wl0 (s:ByteArray):ByteArray :=
 { data:=#[108,101,110,103,116,104,32] }++fW s.size++{ data:=#[32,112,101,114,105,111,100,32] }++fW (lpN s)++{ data:=#[32,114,117,110,32] }++fW (lrV s)
theorem W7 {s:ByteArray} (h:s.size≤400):(wl0 s).size≤100:=by
 have h1:=YI h
 have h2:=YI (n:=lpN s) (by have:=Ze5 s;omega)
 have h3:=YI (n:=lrV s) (by have:=ZeU s;omega)
 unfold wl0
 simp only[ByteArray.size_append]
 have e1:({ data:=#[108,101,110,103,116,104,32] }:ByteArray).size=7:=rfl
 have e2:({ data:=#[32,112,101,114,105,111,100,32] }:ByteArray).size=8:=rfl
 have e3:({ data:=#[32,114,117,110,32] }:ByteArray).size=5:=rfl
 omega
def wap (b:Bool) (x l:ByteArray):ByteArray:=if b=true then x++({ data:=#[32] }++l) else x
def wF (c1 c2 c3 c4 c5:Bool) (x:ByteArray):ByteArray :=
 wap c5 (wap c4 (wap c3 (wap c2 (wap c1 x { data:=#[112,97,108,105,110,100,114,111,109,101] }) { data:=#[115,113,117,97,114,101,102,114,101,101] }) { data:=#[111,118,101,114,108,97,112,102,114,101,101] }) { data:=#[98,97,108,97,110,99,101,100] }) { data:=#[108,121,110,100,111,110] }
noncomputable def wlV (s:ByteArray):ByteArray :=
 if isW (L s)=true then wF (Jg s) (!ZaE s 0) (!ZaE s 1) (VF s) (VH s) (wl0 s) else { data:=#[110,111,110,101] }
theorem Zj8 (s:ByteArray) (h0:isW (L s)=true) (w:World) :
  Calls Tryz.prog 79 #[.string s] w fun e w'=>e=.returned (.string (wF (Jg s) (!ZaE s 0) (!ZaE s 1) (VF s) (VH s) (wl0 s)))∧Below w.heap.size w w':=by
 have h4:=Zb h0
 have hs9:s.size≤maxLen:=by unfold maxLen;omega
 have H0:=Hd h0
 have p2:=Ze5 s
 have p3:=ZeU s
 have f1:=fun w=>ZJ (s.size:Int) (by unfold I64;omega) w
 have f2:=fun w=>ZJ (lpN s:Int) (by unfold I64;omega) w
 have f3:=fun w=>ZJ (lrV s:Int) (by unfold I64;omega) w
 have z1:=YI h4
 have z2:=YI (n:=lpN s) (by omega)
 have z3:=YI (n:=lrV s) (by omega)
 have z0:=W7 h4
 have g1:=fun w=>Zjr s h0 w
 have g2:=fun w=>ZkH s h0 w
 have q1:=fun w=>ZjL s h0 w
 have q2:=fun w=>Zjn s h0 w
 have q3:=fun w=>Zjo s h0 w
 have q4:=fun w=>ZhI s h0 w
 have q5:=fun w=>ZiK s h0 w
 have hw:wl0 s={ data:=#[108,101,110,103,116,104,32] }++fW s.size++{ data:=#[32,112,101,114,105,111,100,32] }++fW (lpN s)++{ data:=#[32,114,117,110,32] }++fW (lrV s):=rfl
 simp only[← fW.eq_1] at f1 f2 f3
 generalize wl0 s=y at hw z0 ⊢
 generalize fW s.size=x1 at hw z1 f1
 generalize fW (lpN s)=x2 at hw z2 f2
 generalize fW (lrV s)=x3 at hw z3 f3
 generalize lpN s=k2 at f2 g1 p2
 generalize lrV s=k3 at f3 g2 p3
 generalize Jg s=c1 at q1 ⊢
 generalize (!ZaE s 0)=c2 at q2 ⊢
 generalize (!ZaE s 1)=c3 at q3 ⊢
 generalize VF s=c4 at q4 ⊢
 generalize VH s=c5 at q5 ⊢
 have F1:=Hd f1;have F2:=Hd f2;have F3:=Hd f3;have G1:=Hd g1;have G2:=Hd g2
 have Q1:=Hd q1;have Q2:=Hd q2;have Q3:=Hd q3;have Q4:=Hd q4;have Q5:=Hd q5
 have HW:=Hd hw
 clear h0 f1 f2 f3 g1 g2 q1 q2 q3 q4 q5 hw
 have n1:¬ 9223372036854775807<7+x1.size:=by omega
 have n2:¬ 9223372036854775807<7+x1.size+8:=by omega
 have n3:¬ 9223372036854775807<7+x1.size+8+x2.size:=by omega
 have n4:¬ 9223372036854775807<7+x1.size+8+x2.size+5:=by omega
 have n5:¬ 9223372036854775807<7+x1.size+8+x2.size+5+x3.size:=by omega
 go_enter Tryz.func79,Tryz.ntmps79
 go_wp2_with (go_at_call 43;with_reducible refine (Zi s _ hs9 H0.o _).mono ?_;rintro e w' ⟨rfl,rfl⟩)
 refine (F1.out _).mono ?_
 rintro e w1 ⟨rfl,b1⟩
 go_wp2_with fail
 refine (G1.out _).mono ?_
 rintro e w2 ⟨rfl,d2⟩
 go_wp2_with fail
 refine (F2.out _).mono ?_
 rintro e w3 ⟨rfl,b3⟩
 go_wp2_with fail
 refine (G2.out _).mono ?_
 rintro e w4 ⟨rfl,b4⟩
 go_wp2_with fail
 refine (F3.out _).mono ?_
 rintro e w5 ⟨rfl,b5⟩
 have bb:=((((b1.trans (d2.below)).trans (b3.mono (by have:=b1.size;have:=(d2.below (B:=0)).size;omega))).trans (b4.mono (by have:=b1.size;have:=(d2.below (B:=0)).size;have:=b3.size;omega))).trans (b5.mono (by have:=b1.size;have:=(d2.below (B:=0)).size;have:=b3.size;have:=b4.size;omega)))
 clear b1 d2 b3 b4 b5
 go_wp2_with fail
 rw[← HW.o]
 clear HW n1 n2 n3 n4 n5 z1 z2 z3 F1 F2 F3 G1 G2
 refine (Q1.out _).mono ?_
 rintro e w6 ⟨rfl,b6⟩
 have bb6:=bb.trans (b6.mono bb.size)
 clear bb b6
 have bb:=bb6
 clear bb6
 cases c1
 ·obtain⟨y1,hy1⟩:∃ x,x=y:=⟨y,rfl⟩
  subst hy1
  have hz1:y1.size≤115:=by omega
  clear z0
  have HY1:=Hd (show wap false y1 { data:=#[112,97,108,105,110,100,114,111,109,101] }=y1 from rfl)
  go_wp2_with fail
  refine (Q2.out _).mono ?_
  rintro e w6 ⟨rfl,b6⟩
  have bb6:=bb.trans (b6.mono bb.size)
  clear bb b6
  have bb:=bb6
  clear bb6
  cases c2
  ·obtain⟨y2,hy2⟩:∃ x,x=y1:=⟨y1,rfl⟩
   subst hy2
   have hz2:y2.size≤130:=by omega
   clear hz1
   have HY2:=Hd (show wap false y2 { data:=#[115,113,117,97,114,101,102,114,101,101] }=y2 from rfl)
   go_wp2_with fail
   refine (Q3.out _).mono ?_
   rintro e w6 ⟨rfl,b6⟩
   have bb6:=bb.trans (b6.mono bb.size)
   clear bb b6
   have bb:=bb6
   clear bb6
   cases c3
   ·obtain⟨y3,hy3⟩:∃ x,x=y2:=⟨y2,rfl⟩
    subst hy3
    have hz3:y3.size≤145:=by omega
    clear hz2
    have HY3:=Hd (show wap false y3 { data:=#[111,118,101,114,108,97,112,102,114,101,101] }=y3 from rfl)
    go_wp2_with fail
    refine (Q4.out _).mono ?_
    rintro e w6 ⟨rfl,b6⟩
    have bb6:=bb.trans (b6.mono bb.size)
    clear bb b6
    have bb:=bb6
    clear bb6
    cases c4
    ·obtain⟨y4,hy4⟩:∃ x,x=y3:=⟨y3,rfl⟩
     subst hy4
     have hz4:y4.size≤160:=by omega
     clear hz3
     have HY4:=Hd (show wap false y4 { data:=#[98,97,108,97,110,99,101,100] }=y4 from rfl)
     go_wp2_with fail
     refine (Q5.out _).mono ?_
     rintro e w6 ⟨rfl,b6⟩
     have bb6:=bb.trans (b6.below.mono bb.size)
     clear bb b6
     have bb:=bb6
     clear bb6
     cases c5
     ·obtain⟨y5,hy5⟩:∃ x,x=y4:=⟨y4,rfl⟩
      subst hy5
      have hz5:y5.size≤175:=by omega
      clear hz4
      have HY5:=Hd (show wap false y5 { data:=#[108,121,110,100,111,110] }=y5 from rfl)
      go_wp2_with fail
      go_ret
      exact⟨by rw[wF,HY1.o,HY2.o,HY3.o,HY4.o,HY5.o]<;>rfl,bb⟩
     ·obtain⟨y5,hy5⟩:∃ x,y4++{ data:=#[32,108,121,110,100,111,110] }=x:=⟨_,rfl⟩
      have hz5:y5.size≤175:=by rw[← hy5,ByteArray.size_append,show ({ data:=#[32,108,121,110,100,111,110] }:ByteArray).size=7 from rfl];omega
      have HY5:=Hd (show wap true y4 { data:=#[108,121,110,100,111,110] }=y5 from by rw[← hy5,wap,if_pos rfl];rfl)
      have n6:¬ 9223372036854775807<y4.size+7:=by omega
      go_wp2_with fail
      try rw[hy5]
      clear hz4 hy5 n6
      go_ret
      exact⟨by rw[wF,HY1.o,HY2.o,HY3.o,HY4.o,HY5.o]<;>rfl,bb⟩
    ·obtain⟨y4,hy4⟩:∃ x,y3++{ data:=#[32,98,97,108,97,110,99,101,100] }=x:=⟨_,rfl⟩
     have hz4:y4.size≤160:=by rw[← hy4,ByteArray.size_append,show ({ data:=#[32,98,97,108,97,110,99,101,100] }:ByteArray).size=9 from rfl];omega
     have HY4:=Hd (show wap true y3 { data:=#[98,97,108,97,110,99,101,100] }=y4 from by rw[← hy4,wap,if_pos rfl];rfl)
     have n6:¬ 9223372036854775807<y3.size+9:=by omega
     go_wp2_with fail
     try rw[hy4]
     clear hz3 hy4 n6
     refine (Q5.out _).mono ?_
     rintro e w6 ⟨rfl,b6⟩
     have bb6:=bb.trans (b6.below.mono bb.size)
     clear bb b6
     have bb:=bb6
     clear bb6
     cases c5
     ·obtain⟨y5,hy5⟩:∃ x,x=y4:=⟨y4,rfl⟩
      subst hy5
      have hz5:y5.size≤175:=by omega
      clear hz4
      have HY5:=Hd (show wap false y5 { data:=#[108,121,110,100,111,110] }=y5 from rfl)
      go_wp2_with fail
      go_ret
      exact⟨by rw[wF,HY1.o,HY2.o,HY3.o,HY4.o,HY5.o]<;>rfl,bb⟩
     ·obtain⟨y5,hy5⟩:∃ x,y4++{ data:=#[32,108,121,110,100,111,110] }=x:=⟨_,rfl⟩
      have hz5:y5.size≤175:=by rw[← hy5,ByteArray.size_append,show ({ data:=#[32,108,121,110,100,111,110] }:ByteArray).size=7 from rfl];omega
      have HY5:=Hd (show wap true y4 { data:=#[108,121,110,100,111,110] }=y5 from by rw[← hy5,wap,if_pos rfl];rfl)
      have n6:¬ 9223372036854775807<y4.size+7:=by omega
      go_wp2_with fail
      try rw[hy5]
      clear hz4 hy5 n6
      go_ret
      exact⟨by rw[wF,HY1.o,HY2.o,HY3.o,HY4.o,HY5.o]<;>rfl,bb⟩
   ·obtain⟨y3,hy3⟩:∃ x,y2++{ data:=#[32,111,118,101,114,108,97,112,102,114,101,101] }=x:=⟨_,rfl⟩
    have hz3:y3.size≤145:=by rw[← hy3,ByteArray.size_append,show ({ data:=#[32,111,118,101,114,108,97,112,102,114,101,101] }:ByteArray).size=12 from rfl];omega
    have HY3:=Hd (show wap true y2 { data:=#[111,118,101,114,108,97,112,102,114,101,101] }=y3 from by rw[← hy3,wap,if_pos rfl];rfl)
    have n6:¬ 9223372036854775807<y2.size+12:=by omega
    go_wp2_with fail
    try rw[hy3]
    clear hz2 hy3 n6
    refine (Q4.out _).mono ?_
    rintro e w6 ⟨rfl,b6⟩
    have bb6:=bb.trans (b6.mono bb.size)
    clear bb b6
    have bb:=bb6
    clear bb6
    cases c4
    ·obtain⟨y4,hy4⟩:∃ x,x=y3:=⟨y3,rfl⟩
     subst hy4
     have hz4:y4.size≤160:=by omega
     clear hz3
     have HY4:=Hd (show wap false y4 { data:=#[98,97,108,97,110,99,101,100] }=y4 from rfl)
     go_wp2_with fail
     refine (Q5.out _).mono ?_
     rintro e w6 ⟨rfl,b6⟩
     have bb6:=bb.trans (b6.below.mono bb.size)
     clear bb b6
     have bb:=bb6
     clear bb6
     cases c5
     ·obtain⟨y5,hy5⟩:∃ x,x=y4:=⟨y4,rfl⟩
      subst hy5
      have hz5:y5.size≤175:=by omega
      clear hz4
      have HY5:=Hd (show wap false y5 { data:=#[108,121,110,100,111,110] }=y5 from rfl)
      go_wp2_with fail
      go_ret
      exact⟨by rw[wF,HY1.o,HY2.o,HY3.o,HY4.o,HY5.o]<;>rfl,bb⟩
     ·obtain⟨y5,hy5⟩:∃ x,y4++{ data:=#[32,108,121,110,100,111,110] }=x:=⟨_,rfl⟩
      have hz5:y5.size≤175:=by rw[← hy5,ByteArray.size_append,show ({ data:=#[32,108,121,110,100,111,110] }:ByteArray).size=7 from rfl];omega
      have HY5:=Hd (show wap true y4 { data:=#[108,121,110,100,111,110] }=y5 from by rw[← hy5,wap,if_pos rfl];rfl)
      have n6:¬ 9223372036854775807<y4.size+7:=by omega
      go_wp2_with fail
      try rw[hy5]
      clear hz4 hy5 n6
      go_ret
      exact⟨by rw[wF,HY1.o,HY2.o,HY3.o,HY4.o,HY5.o]<;>rfl,bb⟩
    ·obtain⟨y4,hy4⟩:∃ x,y3++{ data:=#[32,98,97,108,97,110,99,101,100] }=x:=⟨_,rfl⟩
     have hz4:y4.size≤160:=by rw[← hy4,ByteArray.size_append,show ({ data:=#[32,98,97,108,97,110,99,101,100] }:ByteArray).size=9 from rfl];omega
     have HY4:=Hd (show wap true y3 { data:=#[98,97,108,97,110,99,101,100] }=y4 from by rw[← hy4,wap,if_pos rfl];rfl)
     have n6:¬ 9223372036854775807<y3.size+9:=by omega
     go_wp2_with fail
     try rw[hy4]
     clear hz3 hy4 n6
     refine (Q5.out _).mono ?_
     rintro e w6 ⟨rfl,b6⟩
     have bb6:=bb.trans (b6.below.mono bb.size)
     clear bb b6
     have bb:=bb6
     clear bb6
     cases c5
     ·obtain⟨y5,hy5⟩:∃ x,x=y4:=⟨y4,rfl⟩
      subst hy5
      have hz5:y5.size≤175:=by omega
      clear hz4
      have HY5:=Hd (show wap false y5 { data:=#[108,121,110,100,111,110] }=y5 from rfl)
      go_wp2_with fail
      go_ret
      exact⟨by rw[wF,HY1.o,HY2.o,HY3.o,HY4.o,HY5.o]<;>rfl,bb⟩
     ·obtain⟨y5,hy5⟩:∃ x,y4++{ data:=#[32,108,121,110,100,111,110] }=x:=⟨_,rfl⟩
      have hz5:y5.size≤175:=by rw[← hy5,ByteArray.size_append,show ({ data:=#[32,108,121,110,100,111,110] }:ByteArray).size=7 from rfl];omega
      have HY5:=Hd (show wap true y4 { data:=#[108,121,110,100,111,110] }=y5 from by rw[← hy5,wap,if_pos rfl];rfl)
      have n6:¬ 9223372036854775807<y4.size+7:=by omega
      go_wp2_with fail
      try rw[hy5]
      clear hz4 hy5 n6
      go_ret
      exact⟨by rw[wF,HY1.o,HY2.o,HY3.o,HY4.o,HY5.o]<;>rfl,bb⟩
  ·obtain⟨y2,hy2⟩:∃ x,y1++{ data:=#[32,115,113,117,97,114,101,102,114,101,101] }=x:=⟨_,rfl⟩
   have hz2:y2.size≤130:=by rw[← hy2,ByteArray.size_append,show ({ data:=#[32,115,113,117,97,114,101,102,114,101,101] }:ByteArray).size=11 from rfl];omega
   have HY2:=Hd (show wap true y1 { data:=#[115,113,117,97,114,101,102,114,101,101] }=y2 from by rw[← hy2,wap,if_pos rfl];rfl)
   have n6:¬ 9223372036854775807<y1.size+11:=by omega
   go_wp2_with fail
   try rw[hy2]
   clear hz1 hy2 n6
   refine (Q3.out _).mono ?_
   rintro e w6 ⟨rfl,b6⟩
   have bb6:=bb.trans (b6.mono bb.size)
   clear bb b6
   have bb:=bb6
   clear bb6
   cases c3
   ·obtain⟨y3,hy3⟩:∃ x,x=y2:=⟨y2,rfl⟩
    subst hy3
    have hz3:y3.size≤145:=by omega
    clear hz2
    have HY3:=Hd (show wap false y3 { data:=#[111,118,101,114,108,97,112,102,114,101,101] }=y3 from rfl)
    go_wp2_with fail
    refine (Q4.out _).mono ?_
    rintro e w6 ⟨rfl,b6⟩
    have bb6:=bb.trans (b6.mono bb.size)
    clear bb b6
    have bb:=bb6
    clear bb6
    cases c4
    ·obtain⟨y4,hy4⟩:∃ x,x=y3:=⟨y3,rfl⟩
     subst hy4
     have hz4:y4.size≤160:=by omega
     clear hz3
     have HY4:=Hd (show wap false y4 { data:=#[98,97,108,97,110,99,101,100] }=y4 from rfl)
     go_wp2_with fail
     refine (Q5.out _).mono ?_
     rintro e w6 ⟨rfl,b6⟩
     have bb6:=bb.trans (b6.below.mono bb.size)
     clear bb b6
     have bb:=bb6
     clear bb6
     cases c5
     ·obtain⟨y5,hy5⟩:∃ x,x=y4:=⟨y4,rfl⟩
      subst hy5
      have hz5:y5.size≤175:=by omega
      clear hz4
      have HY5:=Hd (show wap false y5 { data:=#[108,121,110,100,111,110] }=y5 from rfl)
      go_wp2_with fail
      go_ret
      exact⟨by rw[wF,HY1.o,HY2.o,HY3.o,HY4.o,HY5.o]<;>rfl,bb⟩
     ·obtain⟨y5,hy5⟩:∃ x,y4++{ data:=#[32,108,121,110,100,111,110] }=x:=⟨_,rfl⟩
      have hz5:y5.size≤175:=by rw[← hy5,ByteArray.size_append,show ({ data:=#[32,108,121,110,100,111,110] }:ByteArray).size=7 from rfl];omega
      have HY5:=Hd (show wap true y4 { data:=#[108,121,110,100,111,110] }=y5 from by rw[← hy5,wap,if_pos rfl];rfl)
      have n6:¬ 9223372036854775807<y4.size+7:=by omega
      go_wp2_with fail
      try rw[hy5]
      clear hz4 hy5 n6
      go_ret
      exact⟨by rw[wF,HY1.o,HY2.o,HY3.o,HY4.o,HY5.o]<;>rfl,bb⟩
    ·obtain⟨y4,hy4⟩:∃ x,y3++{ data:=#[32,98,97,108,97,110,99,101,100] }=x:=⟨_,rfl⟩
     have hz4:y4.size≤160:=by rw[← hy4,ByteArray.size_append,show ({ data:=#[32,98,97,108,97,110,99,101,100] }:ByteArray).size=9 from rfl];omega
     have HY4:=Hd (show wap true y3 { data:=#[98,97,108,97,110,99,101,100] }=y4 from by rw[← hy4,wap,if_pos rfl];rfl)
     have n6:¬ 9223372036854775807<y3.size+9:=by omega
     go_wp2_with fail
     try rw[hy4]
     clear hz3 hy4 n6
     refine (Q5.out _).mono ?_
     rintro e w6 ⟨rfl,b6⟩
     have bb6:=bb.trans (b6.below.mono bb.size)
     clear bb b6
     have bb:=bb6
     clear bb6
     cases c5
     ·obtain⟨y5,hy5⟩:∃ x,x=y4:=⟨y4,rfl⟩
      subst hy5
      have hz5:y5.size≤175:=by omega
      clear hz4
      have HY5:=Hd (show wap false y5 { data:=#[108,121,110,100,111,110] }=y5 from rfl)
      go_wp2_with fail
      go_ret
      exact⟨by rw[wF,HY1.o,HY2.o,HY3.o,HY4.o,HY5.o]<;>rfl,bb⟩
     ·obtain⟨y5,hy5⟩:∃ x,y4++{ data:=#[32,108,121,110,100,111,110] }=x:=⟨_,rfl⟩
      have hz5:y5.size≤175:=by rw[← hy5,ByteArray.size_append,show ({ data:=#[32,108,121,110,100,111,110] }:ByteArray).size=7 from rfl];omega
      have HY5:=Hd (show wap true y4 { data:=#[108,121,110,100,111,110] }=y5 from by rw[← hy5,wap,if_pos rfl];rfl)
      have n6:¬ 9223372036854775807<y4.size+7:=by omega
      go_wp2_with fail
      try rw[hy5]
      clear hz4 hy5 n6
      go_ret
      exact⟨by rw[wF,HY1.o,HY2.o,HY3.o,HY4.o,HY5.o]<;>rfl,bb⟩
   ·obtain⟨y3,hy3⟩:∃ x,y2++{ data:=#[32,111,118,101,114,108,97,112,102,114,101,101] }=x:=⟨_,rfl⟩
    have hz3:y3.size≤145:=by rw[← hy3,ByteArray.size_append,show ({ data:=#[32,111,118,101,114,108,97,112,102,114,101,101] }:ByteArray).size=12 from rfl];omega
    have HY3:=Hd (show wap true y2 { data:=#[111,118,101,114,108,97,112,102,114,101,101] }=y3 from by rw[← hy3,wap,if_pos rfl];rfl)
    have n6:¬ 9223372036854775807<y2.size+12:=by omega
    go_wp2_with fail
    try rw[hy3]
    clear hz2 hy3 n6
    refine (Q4.out _).mono ?_
    rintro e w6 ⟨rfl,b6⟩
    have bb6:=bb.trans (b6.mono bb.size)
    clear bb b6
    have bb:=bb6
    clear bb6
    cases c4
    ·obtain⟨y4,hy4⟩:∃ x,x=y3:=⟨y3,rfl⟩
     subst hy4
     have hz4:y4.size≤160:=by omega
     clear hz3
     have HY4:=Hd (show wap false y4 { data:=#[98,97,108,97,110,99,101,100] }=y4 from rfl)
     go_wp2_with fail
     refine (Q5.out _).mono ?_
     rintro e w6 ⟨rfl,b6⟩
     have bb6:=bb.trans (b6.below.mono bb.size)
     clear bb b6
     have bb:=bb6
     clear bb6
     cases c5
     ·obtain⟨y5,hy5⟩:∃ x,x=y4:=⟨y4,rfl⟩
      subst hy5
      have hz5:y5.size≤175:=by omega
      clear hz4
      have HY5:=Hd (show wap false y5 { data:=#[108,121,110,100,111,110] }=y5 from rfl)
      go_wp2_with fail
      go_ret
      exact⟨by rw[wF,HY1.o,HY2.o,HY3.o,HY4.o,HY5.o]<;>rfl,bb⟩
     ·obtain⟨y5,hy5⟩:∃ x,y4++{ data:=#[32,108,121,110,100,111,110] }=x:=⟨_,rfl⟩
      have hz5:y5.size≤175:=by rw[← hy5,ByteArray.size_append,show ({ data:=#[32,108,121,110,100,111,110] }:ByteArray).size=7 from rfl];omega
      have HY5:=Hd (show wap true y4 { data:=#[108,121,110,100,111,110] }=y5 from by rw[← hy5,wap,if_pos rfl];rfl)
      have n6:¬ 9223372036854775807<y4.size+7:=by omega
      go_wp2_with fail
      try rw[hy5]
      clear hz4 hy5 n6
      go_ret
      exact⟨by rw[wF,HY1.o,HY2.o,HY3.o,HY4.o,HY5.o]<;>rfl,bb⟩
    ·obtain⟨y4,hy4⟩:∃ x,y3++{ data:=#[32,98,97,108,97,110,99,101,100] }=x:=⟨_,rfl⟩
     have hz4:y4.size≤160:=by rw[← hy4,ByteArray.size_append,show ({ data:=#[32,98,97,108,97,110,99,101,100] }:ByteArray).size=9 from rfl];omega
     have HY4:=Hd (show wap true y3 { data:=#[98,97,108,97,110,99,101,100] }=y4 from by rw[← hy4,wap,if_pos rfl];rfl)
     have n6:¬ 9223372036854775807<y3.size+9:=by omega
     go_wp2_with fail
     try rw[hy4]
     clear hz3 hy4 n6
     refine (Q5.out _).mono ?_
     rintro e w6 ⟨rfl,b6⟩
     have bb6:=bb.trans (b6.below.mono bb.size)
     clear bb b6
     have bb:=bb6
     clear bb6
     cases c5
     ·obtain⟨y5,hy5⟩:∃ x,x=y4:=⟨y4,rfl⟩
      subst hy5
      have hz5:y5.size≤175:=by omega
      clear hz4
      have HY5:=Hd (show wap false y5 { data:=#[108,121,110,100,111,110] }=y5 from rfl)
      go_wp2_with fail
      go_ret
      exact⟨by rw[wF,HY1.o,HY2.o,HY3.o,HY4.o,HY5.o]<;>rfl,bb⟩
     ·obtain⟨y5,hy5⟩:∃ x,y4++{ data:=#[32,108,121,110,100,111,110] }=x:=⟨_,rfl⟩
      have hz5:y5.size≤175:=by rw[← hy5,ByteArray.size_append,show ({ data:=#[32,108,121,110,100,111,110] }:ByteArray).size=7 from rfl];omega
      have HY5:=Hd (show wap true y4 { data:=#[108,121,110,100,111,110] }=y5 from by rw[← hy5,wap,if_pos rfl];rfl)
      have n6:¬ 9223372036854775807<y4.size+7:=by omega
      go_wp2_with fail
      try rw[hy5]
      clear hz4 hy5 n6
      go_ret
      exact⟨by rw[wF,HY1.o,HY2.o,HY3.o,HY4.o,HY5.o]<;>rfl,bb⟩
 ·obtain⟨y1,hy1⟩:∃ x,y++{ data:=#[32,112,97,108,105,110,100,114,111,109,101] }=x:=⟨_,rfl⟩
  have hz1:y1.size≤115:=by rw[← hy1,ByteArray.size_append,show ({ data:=#[32,112,97,108,105,110,100,114,111,109,101] }:ByteArray).size=11 from rfl];omega
  have HY1:=Hd (show wap true y { data:=#[112,97,108,105,110,100,114,111,109,101] }=y1 from by rw[← hy1,wap,if_pos rfl];rfl)
  have n6:¬ 9223372036854775807<y.size+11:=by omega
  go_wp2_with fail
  try rw[hy1]
  clear z0 hy1 n6
  refine (Q2.out _).mono ?_
  rintro e w6 ⟨rfl,b6⟩
  have bb6:=bb.trans (b6.mono bb.size)
  clear bb b6
  have bb:=bb6
  clear bb6
  cases c2
  ·obtain⟨y2,hy2⟩:∃ x,x=y1:=⟨y1,rfl⟩
   subst hy2
   have hz2:y2.size≤130:=by omega
   clear hz1
   have HY2:=Hd (show wap false y2 { data:=#[115,113,117,97,114,101,102,114,101,101] }=y2 from rfl)
   go_wp2_with fail
   refine (Q3.out _).mono ?_
   rintro e w6 ⟨rfl,b6⟩
   have bb6:=bb.trans (b6.mono bb.size)
   clear bb b6
   have bb:=bb6
   clear bb6
   cases c3
   ·obtain⟨y3,hy3⟩:∃ x,x=y2:=⟨y2,rfl⟩
    subst hy3
    have hz3:y3.size≤145:=by omega
    clear hz2
    have HY3:=Hd (show wap false y3 { data:=#[111,118,101,114,108,97,112,102,114,101,101] }=y3 from rfl)
    go_wp2_with fail
    refine (Q4.out _).mono ?_
    rintro e w6 ⟨rfl,b6⟩
    have bb6:=bb.trans (b6.mono bb.size)
    clear bb b6
    have bb:=bb6
    clear bb6
    cases c4
    ·obtain⟨y4,hy4⟩:∃ x,x=y3:=⟨y3,rfl⟩
     subst hy4
     have hz4:y4.size≤160:=by omega
     clear hz3
     have HY4:=Hd (show wap false y4 { data:=#[98,97,108,97,110,99,101,100] }=y4 from rfl)
     go_wp2_with fail
     refine (Q5.out _).mono ?_
     rintro e w6 ⟨rfl,b6⟩
     have bb6:=bb.trans (b6.below.mono bb.size)
     clear bb b6
     have bb:=bb6
     clear bb6
     cases c5
     ·obtain⟨y5,hy5⟩:∃ x,x=y4:=⟨y4,rfl⟩
      subst hy5
      have hz5:y5.size≤175:=by omega
      clear hz4
      have HY5:=Hd (show wap false y5 { data:=#[108,121,110,100,111,110] }=y5 from rfl)
      go_wp2_with fail
      go_ret
      exact⟨by rw[wF,HY1.o,HY2.o,HY3.o,HY4.o,HY5.o]<;>rfl,bb⟩
     ·obtain⟨y5,hy5⟩:∃ x,y4++{ data:=#[32,108,121,110,100,111,110] }=x:=⟨_,rfl⟩
      have hz5:y5.size≤175:=by rw[← hy5,ByteArray.size_append,show ({ data:=#[32,108,121,110,100,111,110] }:ByteArray).size=7 from rfl];omega
      have HY5:=Hd (show wap true y4 { data:=#[108,121,110,100,111,110] }=y5 from by rw[← hy5,wap,if_pos rfl];rfl)
      have n6:¬ 9223372036854775807<y4.size+7:=by omega
      go_wp2_with fail
      try rw[hy5]
      clear hz4 hy5 n6
      go_ret
      exact⟨by rw[wF,HY1.o,HY2.o,HY3.o,HY4.o,HY5.o]<;>rfl,bb⟩
    ·obtain⟨y4,hy4⟩:∃ x,y3++{ data:=#[32,98,97,108,97,110,99,101,100] }=x:=⟨_,rfl⟩
     have hz4:y4.size≤160:=by rw[← hy4,ByteArray.size_append,show ({ data:=#[32,98,97,108,97,110,99,101,100] }:ByteArray).size=9 from rfl];omega
     have HY4:=Hd (show wap true y3 { data:=#[98,97,108,97,110,99,101,100] }=y4 from by rw[← hy4,wap,if_pos rfl];rfl)
     have n6:¬ 9223372036854775807<y3.size+9:=by omega
     go_wp2_with fail
     try rw[hy4]
     clear hz3 hy4 n6
     refine (Q5.out _).mono ?_
     rintro e w6 ⟨rfl,b6⟩
     have bb6:=bb.trans (b6.below.mono bb.size)
     clear bb b6
     have bb:=bb6
     clear bb6
     cases c5
     ·obtain⟨y5,hy5⟩:∃ x,x=y4:=⟨y4,rfl⟩
      subst hy5
      have hz5:y5.size≤175:=by omega
      clear hz4
      have HY5:=Hd (show wap false y5 { data:=#[108,121,110,100,111,110] }=y5 from rfl)
      go_wp2_with fail
      go_ret
      exact⟨by rw[wF,HY1.o,HY2.o,HY3.o,HY4.o,HY5.o]<;>rfl,bb⟩
     ·obtain⟨y5,hy5⟩:∃ x,y4++{ data:=#[32,108,121,110,100,111,110] }=x:=⟨_,rfl⟩
      have hz5:y5.size≤175:=by rw[← hy5,ByteArray.size_append,show ({ data:=#[32,108,121,110,100,111,110] }:ByteArray).size=7 from rfl];omega
      have HY5:=Hd (show wap true y4 { data:=#[108,121,110,100,111,110] }=y5 from by rw[← hy5,wap,if_pos rfl];rfl)
      have n6:¬ 9223372036854775807<y4.size+7:=by omega
      go_wp2_with fail
      try rw[hy5]
      clear hz4 hy5 n6
      go_ret
      exact⟨by rw[wF,HY1.o,HY2.o,HY3.o,HY4.o,HY5.o]<;>rfl,bb⟩
   ·obtain⟨y3,hy3⟩:∃ x,y2++{ data:=#[32,111,118,101,114,108,97,112,102,114,101,101] }=x:=⟨_,rfl⟩
    have hz3:y3.size≤145:=by rw[← hy3,ByteArray.size_append,show ({ data:=#[32,111,118,101,114,108,97,112,102,114,101,101] }:ByteArray).size=12 from rfl];omega
    have HY3:=Hd (show wap true y2 { data:=#[111,118,101,114,108,97,112,102,114,101,101] }=y3 from by rw[← hy3,wap,if_pos rfl];rfl)
    have n6:¬ 9223372036854775807<y2.size+12:=by omega
    go_wp2_with fail
    try rw[hy3]
    clear hz2 hy3 n6
    refine (Q4.out _).mono ?_
    rintro e w6 ⟨rfl,b6⟩
    have bb6:=bb.trans (b6.mono bb.size)
    clear bb b6
    have bb:=bb6
    clear bb6
    cases c4
    ·obtain⟨y4,hy4⟩:∃ x,x=y3:=⟨y3,rfl⟩
     subst hy4
     have hz4:y4.size≤160:=by omega
     clear hz3
     have HY4:=Hd (show wap false y4 { data:=#[98,97,108,97,110,99,101,100] }=y4 from rfl)
     go_wp2_with fail
     refine (Q5.out _).mono ?_
     rintro e w6 ⟨rfl,b6⟩
     have bb6:=bb.trans (b6.below.mono bb.size)
     clear bb b6
     have bb:=bb6
     clear bb6
     cases c5
     ·obtain⟨y5,hy5⟩:∃ x,x=y4:=⟨y4,rfl⟩
      subst hy5
      have hz5:y5.size≤175:=by omega
      clear hz4
      have HY5:=Hd (show wap false y5 { data:=#[108,121,110,100,111,110] }=y5 from rfl)
      go_wp2_with fail
      go_ret
      exact⟨by rw[wF,HY1.o,HY2.o,HY3.o,HY4.o,HY5.o]<;>rfl,bb⟩
     ·obtain⟨y5,hy5⟩:∃ x,y4++{ data:=#[32,108,121,110,100,111,110] }=x:=⟨_,rfl⟩
      have hz5:y5.size≤175:=by rw[← hy5,ByteArray.size_append,show ({ data:=#[32,108,121,110,100,111,110] }:ByteArray).size=7 from rfl];omega
      have HY5:=Hd (show wap true y4 { data:=#[108,121,110,100,111,110] }=y5 from by rw[← hy5,wap,if_pos rfl];rfl)
      have n6:¬ 9223372036854775807<y4.size+7:=by omega
      go_wp2_with fail
      try rw[hy5]
      clear hz4 hy5 n6
      go_ret
      exact⟨by rw[wF,HY1.o,HY2.o,HY3.o,HY4.o,HY5.o]<;>rfl,bb⟩
    ·obtain⟨y4,hy4⟩:∃ x,y3++{ data:=#[32,98,97,108,97,110,99,101,100] }=x:=⟨_,rfl⟩
     have hz4:y4.size≤160:=by rw[← hy4,ByteArray.size_append,show ({ data:=#[32,98,97,108,97,110,99,101,100] }:ByteArray).size=9 from rfl];omega
     have HY4:=Hd (show wap true y3 { data:=#[98,97,108,97,110,99,101,100] }=y4 from by rw[← hy4,wap,if_pos rfl];rfl)
     have n6:¬ 9223372036854775807<y3.size+9:=by omega
     go_wp2_with fail
     try rw[hy4]
     clear hz3 hy4 n6
     refine (Q5.out _).mono ?_
     rintro e w6 ⟨rfl,b6⟩
     have bb6:=bb.trans (b6.below.mono bb.size)
     clear bb b6
     have bb:=bb6
     clear bb6
     cases c5
     ·obtain⟨y5,hy5⟩:∃ x,x=y4:=⟨y4,rfl⟩
      subst hy5
      have hz5:y5.size≤175:=by omega
      clear hz4
      have HY5:=Hd (show wap false y5 { data:=#[108,121,110,100,111,110] }=y5 from rfl)
      go_wp2_with fail
      go_ret
      exact⟨by rw[wF,HY1.o,HY2.o,HY3.o,HY4.o,HY5.o]<;>rfl,bb⟩
     ·obtain⟨y5,hy5⟩:∃ x,y4++{ data:=#[32,108,121,110,100,111,110] }=x:=⟨_,rfl⟩
      have hz5:y5.size≤175:=by rw[← hy5,ByteArray.size_append,show ({ data:=#[32,108,121,110,100,111,110] }:ByteArray).size=7 from rfl];omega
      have HY5:=Hd (show wap true y4 { data:=#[108,121,110,100,111,110] }=y5 from by rw[← hy5,wap,if_pos rfl];rfl)
      have n6:¬ 9223372036854775807<y4.size+7:=by omega
      go_wp2_with fail
      try rw[hy5]
      clear hz4 hy5 n6
      go_ret
      exact⟨by rw[wF,HY1.o,HY2.o,HY3.o,HY4.o,HY5.o]<;>rfl,bb⟩
  ·obtain⟨y2,hy2⟩:∃ x,y1++{ data:=#[32,115,113,117,97,114,101,102,114,101,101] }=x:=⟨_,rfl⟩
   have hz2:y2.size≤130:=by rw[← hy2,ByteArray.size_append,show ({ data:=#[32,115,113,117,97,114,101,102,114,101,101] }:ByteArray).size=11 from rfl];omega
   have HY2:=Hd (show wap true y1 { data:=#[115,113,117,97,114,101,102,114,101,101] }=y2 from by rw[← hy2,wap,if_pos rfl];rfl)
   have n6:¬ 9223372036854775807<y1.size+11:=by omega
   go_wp2_with fail
   try rw[hy2]
   clear hz1 hy2 n6
   refine (Q3.out _).mono ?_
   rintro e w6 ⟨rfl,b6⟩
   have bb6:=bb.trans (b6.mono bb.size)
   clear bb b6
   have bb:=bb6
   clear bb6
   cases c3
   ·obtain⟨y3,hy3⟩:∃ x,x=y2:=⟨y2,rfl⟩
    subst hy3
    have hz3:y3.size≤145:=by omega
    clear hz2
    have HY3:=Hd (show wap false y3 { data:=#[111,118,101,114,108,97,112,102,114,101,101] }=y3 from rfl)
    go_wp2_with fail
    refine (Q4.out _).mono ?_
    rintro e w6 ⟨rfl,b6⟩
    have bb6:=bb.trans (b6.mono bb.size)
    clear bb b6
    have bb:=bb6
    clear bb6
    cases c4
    ·obtain⟨y4,hy4⟩:∃ x,x=y3:=⟨y3,rfl⟩
     subst hy4
     have hz4:y4.size≤160:=by omega
     clear hz3
     have HY4:=Hd (show wap false y4 { data:=#[98,97,108,97,110,99,101,100] }=y4 from rfl)
     go_wp2_with fail
     refine (Q5.out _).mono ?_
     rintro e w6 ⟨rfl,b6⟩
     have bb6:=bb.trans (b6.below.mono bb.size)
     clear bb b6
     have bb:=bb6
     clear bb6
     cases c5
     ·obtain⟨y5,hy5⟩:∃ x,x=y4:=⟨y4,rfl⟩
      subst hy5
      have hz5:y5.size≤175:=by omega
      clear hz4
      have HY5:=Hd (show wap false y5 { data:=#[108,121,110,100,111,110] }=y5 from rfl)
      go_wp2_with fail
      go_ret
      exact⟨by rw[wF,HY1.o,HY2.o,HY3.o,HY4.o,HY5.o]<;>rfl,bb⟩
     ·obtain⟨y5,hy5⟩:∃ x,y4++{ data:=#[32,108,121,110,100,111,110] }=x:=⟨_,rfl⟩
      have hz5:y5.size≤175:=by rw[← hy5,ByteArray.size_append,show ({ data:=#[32,108,121,110,100,111,110] }:ByteArray).size=7 from rfl];omega
      have HY5:=Hd (show wap true y4 { data:=#[108,121,110,100,111,110] }=y5 from by rw[← hy5,wap,if_pos rfl];rfl)
      have n6:¬ 9223372036854775807<y4.size+7:=by omega
      go_wp2_with fail
      try rw[hy5]
      clear hz4 hy5 n6
      go_ret
      exact⟨by rw[wF,HY1.o,HY2.o,HY3.o,HY4.o,HY5.o]<;>rfl,bb⟩
    ·obtain⟨y4,hy4⟩:∃ x,y3++{ data:=#[32,98,97,108,97,110,99,101,100] }=x:=⟨_,rfl⟩
     have hz4:y4.size≤160:=by rw[← hy4,ByteArray.size_append,show ({ data:=#[32,98,97,108,97,110,99,101,100] }:ByteArray).size=9 from rfl];omega
     have HY4:=Hd (show wap true y3 { data:=#[98,97,108,97,110,99,101,100] }=y4 from by rw[← hy4,wap,if_pos rfl];rfl)
     have n6:¬ 9223372036854775807<y3.size+9:=by omega
     go_wp2_with fail
     try rw[hy4]
     clear hz3 hy4 n6
     refine (Q5.out _).mono ?_
     rintro e w6 ⟨rfl,b6⟩
     have bb6:=bb.trans (b6.below.mono bb.size)
     clear bb b6
     have bb:=bb6
     clear bb6
     cases c5
     ·obtain⟨y5,hy5⟩:∃ x,x=y4:=⟨y4,rfl⟩
      subst hy5
      have hz5:y5.size≤175:=by omega
      clear hz4
      have HY5:=Hd (show wap false y5 { data:=#[108,121,110,100,111,110] }=y5 from rfl)
      go_wp2_with fail
      go_ret
      exact⟨by rw[wF,HY1.o,HY2.o,HY3.o,HY4.o,HY5.o]<;>rfl,bb⟩
     ·obtain⟨y5,hy5⟩:∃ x,y4++{ data:=#[32,108,121,110,100,111,110] }=x:=⟨_,rfl⟩
      have hz5:y5.size≤175:=by rw[← hy5,ByteArray.size_append,show ({ data:=#[32,108,121,110,100,111,110] }:ByteArray).size=7 from rfl];omega
      have HY5:=Hd (show wap true y4 { data:=#[108,121,110,100,111,110] }=y5 from by rw[← hy5,wap,if_pos rfl];rfl)
      have n6:¬ 9223372036854775807<y4.size+7:=by omega
      go_wp2_with fail
      try rw[hy5]
      clear hz4 hy5 n6
      go_ret
      exact⟨by rw[wF,HY1.o,HY2.o,HY3.o,HY4.o,HY5.o]<;>rfl,bb⟩
   ·obtain⟨y3,hy3⟩:∃ x,y2++{ data:=#[32,111,118,101,114,108,97,112,102,114,101,101] }=x:=⟨_,rfl⟩
    have hz3:y3.size≤145:=by rw[← hy3,ByteArray.size_append,show ({ data:=#[32,111,118,101,114,108,97,112,102,114,101,101] }:ByteArray).size=12 from rfl];omega
    have HY3:=Hd (show wap true y2 { data:=#[111,118,101,114,108,97,112,102,114,101,101] }=y3 from by rw[← hy3,wap,if_pos rfl];rfl)
    have n6:¬ 9223372036854775807<y2.size+12:=by omega
    go_wp2_with fail
    try rw[hy3]
    clear hz2 hy3 n6
    refine (Q4.out _).mono ?_
    rintro e w6 ⟨rfl,b6⟩
    have bb6:=bb.trans (b6.mono bb.size)
    clear bb b6
    have bb:=bb6
    clear bb6
    cases c4
    ·obtain⟨y4,hy4⟩:∃ x,x=y3:=⟨y3,rfl⟩
     subst hy4
     have hz4:y4.size≤160:=by omega
     clear hz3
     have HY4:=Hd (show wap false y4 { data:=#[98,97,108,97,110,99,101,100] }=y4 from rfl)
     go_wp2_with fail
     refine (Q5.out _).mono ?_
     rintro e w6 ⟨rfl,b6⟩
     have bb6:=bb.trans (b6.below.mono bb.size)
     clear bb b6
     have bb:=bb6
     clear bb6
     cases c5
     ·obtain⟨y5,hy5⟩:∃ x,x=y4:=⟨y4,rfl⟩
      subst hy5
      have hz5:y5.size≤175:=by omega
      clear hz4
      have HY5:=Hd (show wap false y5 { data:=#[108,121,110,100,111,110] }=y5 from rfl)
      go_wp2_with fail
      go_ret
      exact⟨by rw[wF,HY1.o,HY2.o,HY3.o,HY4.o,HY5.o]<;>rfl,bb⟩
     ·obtain⟨y5,hy5⟩:∃ x,y4++{ data:=#[32,108,121,110,100,111,110] }=x:=⟨_,rfl⟩
      have hz5:y5.size≤175:=by rw[← hy5,ByteArray.size_append,show ({ data:=#[32,108,121,110,100,111,110] }:ByteArray).size=7 from rfl];omega
      have HY5:=Hd (show wap true y4 { data:=#[108,121,110,100,111,110] }=y5 from by rw[← hy5,wap,if_pos rfl];rfl)
      have n6:¬ 9223372036854775807<y4.size+7:=by omega
      go_wp2_with fail
      try rw[hy5]
      clear hz4 hy5 n6
      go_ret
      exact⟨by rw[wF,HY1.o,HY2.o,HY3.o,HY4.o,HY5.o]<;>rfl,bb⟩
    ·obtain⟨y4,hy4⟩:∃ x,y3++{ data:=#[32,98,97,108,97,110,99,101,100] }=x:=⟨_,rfl⟩
     have hz4:y4.size≤160:=by rw[← hy4,ByteArray.size_append,show ({ data:=#[32,98,97,108,97,110,99,101,100] }:ByteArray).size=9 from rfl];omega
     have HY4:=Hd (show wap true y3 { data:=#[98,97,108,97,110,99,101,100] }=y4 from by rw[← hy4,wap,if_pos rfl];rfl)
     have n6:¬ 9223372036854775807<y3.size+9:=by omega
     go_wp2_with fail
     try rw[hy4]
     clear hz3 hy4 n6
     refine (Q5.out _).mono ?_
     rintro e w6 ⟨rfl,b6⟩
     have bb6:=bb.trans (b6.below.mono bb.size)
     clear bb b6
     have bb:=bb6
     clear bb6
     cases c5
     ·obtain⟨y5,hy5⟩:∃ x,x=y4:=⟨y4,rfl⟩
      subst hy5
      have hz5:y5.size≤175:=by omega
      clear hz4
      have HY5:=Hd (show wap false y5 { data:=#[108,121,110,100,111,110] }=y5 from rfl)
      go_wp2_with fail
      go_ret
      exact⟨by rw[wF,HY1.o,HY2.o,HY3.o,HY4.o,HY5.o]<;>rfl,bb⟩
     ·obtain⟨y5,hy5⟩:∃ x,y4++{ data:=#[32,108,121,110,100,111,110] }=x:=⟨_,rfl⟩
      have hz5:y5.size≤175:=by rw[← hy5,ByteArray.size_append,show ({ data:=#[32,108,121,110,100,111,110] }:ByteArray).size=7 from rfl];omega
      have HY5:=Hd (show wap true y4 { data:=#[108,121,110,100,111,110] }=y5 from by rw[← hy5,wap,if_pos rfl];rfl)
      have n6:¬ 9223372036854775807<y4.size+7:=by omega
      go_wp2_with fail
      try rw[hy5]
      clear hz4 hy5 n6
      go_ret
      exact⟨by rw[wF,HY1.o,HY2.o,HY3.o,HY4.o,HY5.o]<;>rfl,bb⟩
def wnm:Nat→ByteArray
 | 0=>{ data:=#[112,97,108,105,110,100,114,111,109,101] }
 | 1=>{ data:=#[115,113,117,97,114,101,102,114,101,101] }
 | 2=>{ data:=#[111,118,101,114,108,97,112,102,114,101,101] }
 | 3=>{ data:=#[98,97,108,97,110,99,101,100] }
 | _=>{ data:=#[108,121,110,100,111,110] }
theorem W8 (k:Nat):(wnm k).size≤11:=by unfold wnm;split<;>decide
theorem sp1:({ data:=#[32] }:ByteArray).size=1:=rfl
def wfl (c1 c2 c3 c4 c5:Bool):Nat→Bool
 | 0=>c1
 | 1=>c2
 | 2=>c3
 | 3=>c4
 | _=>c5
def wR (f:Nat→Bool):Nat→Nat→ByteArray→ByteArray
 | 0,_,z=>z
 | n+1,k,z=>wR f n (k+1) (wap (f k) z (wnm k))
theorem Zl9 (c1 c2 c3 c4 c5:Bool) (x:ByteArray):wF c1 c2 c3 c4 c5 x=wR (wfl c1 c2 c3 c4 c5) 5 0 x:=rfl
theorem YJ (f:Nat→Bool) (n k:Nat) (z:ByteArray):wR f (n+1) k z=wR f n (k+1) (wap (f k) z (wnm k)):=rfl
theorem Zmd (f:Nat→Bool) (k:Nat) (z:ByteArray):wR f 0 k z=z:=rfl
attribute [irreducible] wR
theorem Zj9 (s:ByteArray) (h0:isW (L s)=true) (w:World) (ht:TB w) :
  Calls Tryz.prog 119 #[.string s] w fun e w'=>e=.returned (.string (wF (Jg s) (!ZaE s 0) (!ZaE s 1) (VF s) (VH s) (wl0 s)))∧Below w.heap.size w w':=by
 have h4:=Zb h0
 have hs9:s.size≤maxLen:=by unfold maxLen;omega
 have H0:=Hd h0
 have p2:=Ze5 s
 have p3:=ZeU s
 have f1:=fun (W:World) (hW:Below w.heap.size w W)=>Qc (s.size:Int) (by unfold I64;omega) W (ht.below hW)
 have f2:=fun (W:World) (hW:Below w.heap.size w W)=>Qc (lpN s:Int) (by unfold I64;omega) W (ht.below hW)
 have f3:=fun (W:World) (hW:Below w.heap.size w W)=>Qc (lrV s:Int) (by unfold I64;omega) W (ht.below hW)
 have z1:=YI h4
 have z2:=YI (n:=lpN s) (by omega)
 have z3:=YI (n:=lrV s) (by omega)
 have z0:=W7 h4
 have g1:=fun w=>Zjq s h0 w
 have g2:=fun w=>ZkG s h0 w
 have q1:=fun w=>ZjK s h0 w
 have q2:=fun w=>Zjl s h0 w
 have q3:=fun w=>Zjm s h0 w
 have q4:=fun w=>ZhH s h0 w
 have q5:=fun w=>ZiJ s h0 w
 have hw:wl0 s={ data:=#[108,101,110,103,116,104,32] }++fW s.size++{ data:=#[32,112,101,114,105,111,100,32] }++fW (lpN s)++{ data:=#[32,114,117,110,32] }++fW (lrV s):=rfl
 simp only[← fW.eq_1] at f1 f2 f3
 generalize wl0 s=y at hw z0 ⊢
 generalize fW s.size=x1 at hw z1 f1
 generalize fW (lpN s)=x2 at hw z2 f2
 generalize fW (lrV s)=x3 at hw z3 f3
 generalize lpN s=k2 at f2 g1 p2
 generalize lrV s=k3 at f3 g2 p3
 generalize Jg s=c1 at q1 ⊢
 generalize (!ZaE s 0)=c2 at q2 ⊢
 generalize (!ZaE s 1)=c3 at q3 ⊢
 generalize VF s=c4 at q4 ⊢
 generalize VH s=c5 at q5 ⊢
 have F1:=Hd f1;have F2:=Hd f2;have F3:=Hd f3;have G1:=Hd g1;have G2:=Hd g2
 have Q1:=Hd q1;have Q2:=Hd q2;have Q3:=Hd q3;have Q4:=Hd q4;have Q5:=Hd q5
 have HW:=Hd hw
 clear h0 f1 f2 f3 g1 g2 q1 q2 q3 q4 q5 hw
 have n1:¬ 9223372036854775807<7+x1.size:=by omega
 have n2:¬ 9223372036854775807<7+x1.size+8:=by omega
 have n3:¬ 9223372036854775807<7+x1.size+8+x2.size:=by omega
 have n4:¬ 9223372036854775807<7+x1.size+8+x2.size+5:=by omega
 have n5:¬ 9223372036854775807<7+x1.size+8+x2.size+5+x3.size:=by omega
 obtain⟨r,hr⟩:∃ r,wF c1 c2 c3 c4 c5 y=r:=⟨_,rfl⟩
 rw[hr]
 rw[Zl9] at hr
 have HR:=Hd hr
 clear hr
 clear ht
 go_enter Tryz.func119,Tryz.ntmps119
 go_wp2_with (go_at_call 27;with_reducible refine (Zl s _ hs9 H0.o _).mono ?_;rintro e w' ⟨rfl,rfl⟩)
 refine (F1.out _ (Below.refl _ _)).mono ?_
 rintro e w1 ⟨rfl,b1⟩
 go_wp2_with fail
 refine (G1.out _).mono ?_
 rintro e w2 ⟨rfl,d2⟩
 have bb:=b1.trans d2.below
 clear b1 d2
 go_wp2_with fail
 refine (F2.out _ bb).mono ?_
 rintro e w3 ⟨rfl,b3⟩
 have bb3:=bb.trans (b3.mono bb.size)
 clear bb b3
 go_wp2_with fail
 refine (G2.out _).mono ?_
 rintro e w4 ⟨rfl,d4⟩
 have bb:=bb3.trans d4.below
 clear bb3 d4
 go_wp2_with fail
 refine (F3.out _ bb).mono ?_
 rintro e w5 ⟨rfl,b5⟩
 have bb5:=bb.trans (b5.mono bb.size)
 clear bb b5
 go_wp2_with fail
 rw[← HW.o]
 clear HW n1 n2 n3 n4 n5 z1 z2 z3 F1 F2 F3 G1 G2
 refine (Q1.out _).mono ?_
 rintro e w6 ⟨rfl,b6⟩
 have bb6:=bb5.trans (b6.mono bb5.size)
 clear bb5 b6
 go_wp2_with fail
 refine (Q2.out _).mono ?_
 rintro e w7 ⟨rfl,b7⟩
 have bb7:=bb6.trans (b7.mono bb6.size)
 clear bb6 b7
 go_wp2_with fail
 refine (Q3.out _).mono ?_
 rintro e w8 ⟨rfl,b8⟩
 have bb8:=bb7.trans (b8.mono bb7.size)
 clear bb7 b8
 go_wp2_with fail
 refine (Q4.out _).mono ?_
 rintro e w9 ⟨rfl,b9⟩
 have bb9:=bb8.trans (b9.mono bb8.size)
 clear bb8 b9
 go_wp2_with fail
 refine (Q5.out _).mono ?_
 rintro e wa ⟨rfl,da⟩
 have bba:=bb9.trans da.below
 clear bb9 da Q1 Q2 Q3 Q4 Q5
 go_wp2_with fail
 obtain⟨wA,hwA⟩:∃ x,wa.alloc (.cells #[.string (wnm 0),.bool c1,.string (wnm 1),.bool c2,.string (wnm 2),.bool c3,.string (wnm 3),.bool c4,.string (wnm 4),.bool c5] 147)=x:=⟨_,rfl⟩
 have hc:∀ j,wA.cell? ⟨wa.heap.size,j,none⟩=#[.string (wnm 0),.bool c1,.string (wnm 1),.bool c2,.string (wnm 2),.bool c3,.string (wnm 3),.bool c4,.string (wnm 4),Value.bool c5][j]?:=fun j=>by rw[← hwA];simp
 have hzA:wA.heap.size=wa.heap.size+1:=by rw[← hwA];simp
 have bA:Below w.heap.size w wA:=by rw[← hwA];exact bba.alloc bba.size _
 simp only[wnm] at hwA
 rw[hwA]
 have HC:=Hd hc
 have hsa:=bba.size
 clear hwA hc bba
 go_loopw [3,5,40] (fun x _ i wr=>∃ (k:Nat) (z:ByteArray),k≤5∧x=.string z∧i=.int .i64 k∧z.size≤100+15 * k∧wR (wfl c1 c2 c3 c4 c5) (5 - k) k z=r∧Below wA.heap.size wA wr) (fun _ _ i _=>6 - (intOf i).toNat)
 case atStart=>exact⟨0,y,by omega,rfl,rfl,by omega,HR.o,Below.refl _ _⟩
 case round =>
  obtain⟨k,z,hk,rfl,rfl,hz,hg,hbel⟩:=hrel
  have HG:=Hd hg
  clear hg
  by_cases hlt:k<5
  ·match k,hlt with
   | 0,_ =>
    have e0:=(hbel.cell (p:=⟨wa.heap.size,0,none⟩) (by show wa.heap.size<_;omega)).trans (HC.o 0)
    have e1:=(hbel.cell (p:=⟨wa.heap.size,1,none⟩) (by show wa.heap.size<_;omega)).trans (HC.o 1)
    simp at e0 e1
    have hg1:wR (wfl c1 c2 c3 c4 c5) (4+1) 0 z=r:=HG.o
    rw[YJ,show wfl c1 c2 c3 c4 c5 0=c1 from rfl] at hg1
    clear HG
    cases c1
    ·rw[wap,if_neg (by decide)] at hg1
     have HG:=Hd hg1
     clear hg1
     go_wp2_with fail
     go_roundw
     case rel=>exact⟨1,z,by omega,rfl,rfl,by omega,HG.o,hbel.alloc hbel.size _⟩
     case measure=>simp[intOf]
    ·rw[wap,if_pos rfl] at hg1
     have HG:=Hd hg1
     clear hg1
     have hw9:=W8 0
     have n1:¬ 9223372036854775807<1+(wnm 0).size:=by omega
     have n2:¬ 9223372036854775807<z.size+(1+(wnm 0).size):=by omega
     have hzn:(z++({ data:=#[32] }++wnm 0)).size≤100+15 * 1:=by
      rw[ByteArray.size_append,ByteArray.size_append,sp1];omega
     have HZN:=Hd hzn
     clear hw9 hzn
     go_wp2_with fail
     go_roundw
     case rel=>exact⟨1,z++({ data:=#[32] }++wnm 0),by omega,rfl,rfl,HZN.o,HG.o,hbel.alloc hbel.size _⟩
     case measure=>simp[intOf]
   | 1,_ =>
    have e0:=(hbel.cell (p:=⟨wa.heap.size,2,none⟩) (by show wa.heap.size<_;omega)).trans (HC.o 2)
    have e1:=(hbel.cell (p:=⟨wa.heap.size,3,none⟩) (by show wa.heap.size<_;omega)).trans (HC.o 3)
    simp at e0 e1
    have hg1:wR (wfl c1 c2 c3 c4 c5) (3+1) 1 z=r:=HG.o
    rw[YJ,show wfl c1 c2 c3 c4 c5 1=c2 from rfl] at hg1
    clear HG
    cases c2
    ·rw[wap,if_neg (by decide)] at hg1
     have HG:=Hd hg1
     clear hg1
     go_wp2_with fail
     go_roundw
     case rel=>exact⟨2,z,by omega,rfl,rfl,by omega,HG.o,hbel.alloc hbel.size _⟩
     case measure=>simp[intOf]
    ·rw[wap,if_pos rfl] at hg1
     have HG:=Hd hg1
     clear hg1
     have hw9:=W8 1
     have n1:¬ 9223372036854775807<1+(wnm 1).size:=by omega
     have n2:¬ 9223372036854775807<z.size+(1+(wnm 1).size):=by omega
     have hzn:(z++({ data:=#[32] }++wnm 1)).size≤100+15 * 2:=by
      rw[ByteArray.size_append,ByteArray.size_append,sp1];omega
     have HZN:=Hd hzn
     clear hw9 hzn
     go_wp2_with fail
     go_roundw
     case rel=>exact⟨2,z++({ data:=#[32] }++wnm 1),by omega,rfl,rfl,HZN.o,HG.o,hbel.alloc hbel.size _⟩
     case measure=>simp[intOf]
   | 2,_ =>
    have e0:=(hbel.cell (p:=⟨wa.heap.size,4,none⟩) (by show wa.heap.size<_;omega)).trans (HC.o 4)
    have e1:=(hbel.cell (p:=⟨wa.heap.size,5,none⟩) (by show wa.heap.size<_;omega)).trans (HC.o 5)
    simp at e0 e1
    have hg1:wR (wfl c1 c2 c3 c4 c5) (2+1) 2 z=r:=HG.o
    rw[YJ,show wfl c1 c2 c3 c4 c5 2=c3 from rfl] at hg1
    clear HG
    cases c3
    ·rw[wap,if_neg (by decide)] at hg1
     have HG:=Hd hg1
     clear hg1
     go_wp2_with fail
     go_roundw
     case rel=>exact⟨3,z,by omega,rfl,rfl,by omega,HG.o,hbel.alloc hbel.size _⟩
     case measure=>simp[intOf]
    ·rw[wap,if_pos rfl] at hg1
     have HG:=Hd hg1
     clear hg1
     have hw9:=W8 2
     have n1:¬ 9223372036854775807<1+(wnm 2).size:=by omega
     have n2:¬ 9223372036854775807<z.size+(1+(wnm 2).size):=by omega
     have hzn:(z++({ data:=#[32] }++wnm 2)).size≤100+15 * 3:=by
      rw[ByteArray.size_append,ByteArray.size_append,sp1];omega
     have HZN:=Hd hzn
     clear hw9 hzn
     go_wp2_with fail
     go_roundw
     case rel=>exact⟨3,z++({ data:=#[32] }++wnm 2),by omega,rfl,rfl,HZN.o,HG.o,hbel.alloc hbel.size _⟩
     case measure=>simp[intOf]
   | 3,_ =>
    have e0:=(hbel.cell (p:=⟨wa.heap.size,6,none⟩) (by show wa.heap.size<_;omega)).trans (HC.o 6)
    have e1:=(hbel.cell (p:=⟨wa.heap.size,7,none⟩) (by show wa.heap.size<_;omega)).trans (HC.o 7)
    simp at e0 e1
    have hg1:wR (wfl c1 c2 c3 c4 c5) (1+1) 3 z=r:=HG.o
    rw[YJ,show wfl c1 c2 c3 c4 c5 3=c4 from rfl] at hg1
    clear HG
    cases c4
    ·rw[wap,if_neg (by decide)] at hg1
     have HG:=Hd hg1
     clear hg1
     go_wp2_with fail
     go_roundw
     case rel=>exact⟨4,z,by omega,rfl,rfl,by omega,HG.o,hbel.alloc hbel.size _⟩
     case measure=>simp[intOf]
    ·rw[wap,if_pos rfl] at hg1
     have HG:=Hd hg1
     clear hg1
     have hw9:=W8 3
     have n1:¬ 9223372036854775807<1+(wnm 3).size:=by omega
     have n2:¬ 9223372036854775807<z.size+(1+(wnm 3).size):=by omega
     have hzn:(z++({ data:=#[32] }++wnm 3)).size≤100+15 * 4:=by
      rw[ByteArray.size_append,ByteArray.size_append,sp1];omega
     have HZN:=Hd hzn
     clear hw9 hzn
     go_wp2_with fail
     go_roundw
     case rel=>exact⟨4,z++({ data:=#[32] }++wnm 3),by omega,rfl,rfl,HZN.o,HG.o,hbel.alloc hbel.size _⟩
     case measure=>simp[intOf]
   | 4,_ =>
    have e0:=(hbel.cell (p:=⟨wa.heap.size,8,none⟩) (by show wa.heap.size<_;omega)).trans (HC.o 8)
    have e1:=(hbel.cell (p:=⟨wa.heap.size,9,none⟩) (by show wa.heap.size<_;omega)).trans (HC.o 9)
    simp at e0 e1
    have hg1:wR (wfl c1 c2 c3 c4 c5) (0+1) 4 z=r:=HG.o
    rw[YJ,show wfl c1 c2 c3 c4 c5 4=c5 from rfl] at hg1
    clear HG
    cases c5
    ·rw[wap,if_neg (by decide)] at hg1
     have HG:=Hd hg1
     clear hg1
     go_wp2_with fail
     go_roundw
     case rel=>exact⟨5,z,by omega,rfl,rfl,by omega,HG.o,hbel.alloc hbel.size _⟩
     case measure=>simp[intOf]
    ·rw[wap,if_pos rfl] at hg1
     have HG:=Hd hg1
     clear hg1
     have hw9:=W8 4
     have n1:¬ 9223372036854775807<1+(wnm 4).size:=by omega
     have n2:¬ 9223372036854775807<z.size+(1+(wnm 4).size):=by omega
     have hzn:(z++({ data:=#[32] }++wnm 4)).size≤100+15 * 5:=by
      rw[ByteArray.size_append,ByteArray.size_append,sp1];omega
     have HZN:=Hd hzn
     clear hw9 hzn
     go_wp2_with fail
     go_roundw
     case rel=>exact⟨5,z++({ data:=#[32] }++wnm 4),by omega,rfl,rfl,HZN.o,HG.o,hbel.alloc hbel.size _⟩
     case measure=>simp[intOf]
  ·have hke:k=5:=by omega
   subst hke
   have hfin:z=r:=by have h:=HG.o;rw[show 5 - 5=0 from rfl,Zmd] at h;exact h
   subst hfin
   go_wp2_with fail
   go_ret
   exact⟨rfl,bA.trans (hbel.mono (by omega))⟩
theorem Zka (s:ByteArray) (hs:s.size≤maxLen) (w:World) (ht:TB w) :
  Calls Tryz.prog 119 #[.string s] w fun e w'=>e=.returned (.string (wlV s))∧Below w.heap.size w w':=by
 cases h0:isW (L s)
 ·have hv:wlV s={ data:=#[110,111,110,101] }:=by simp[wlV,h0]
  rw[hv]
  have H0:=Hd h0
  clear h0 hv
  go_enter Tryz.func119,Tryz.ntmps119
  go_wp2_with (go_at_call 27;with_reducible refine (Zl s _ hs H0.o _).mono ?_;rintro e w' ⟨rfl,rfl⟩)
  go_ret
  exact⟨rfl,Below.refl _ _⟩
 ·rw[wlV,if_pos h0]
  exact Zj9 s h0 w ht
theorem Zkb (s:ByteArray) (hs:s.size≤maxLen) (w:World) :
  Calls Tryz.prog 79 #[.string s] w fun e w'=>e=.returned (.string (wlV s))∧Below w.heap.size w w':=by
 cases h0:isW (L s)
 ·have hv:wlV s={ data:=#[110,111,110,101] }:=by simp[wlV,h0]
  rw[hv]
  have H0:=Hd h0
  clear h0 hv
  go_enter Tryz.func79,Tryz.ntmps79
  go_wp2_with (go_at_call 43;with_reducible refine (Zi s _ hs H0.o _).mono ?_;rintro e w' ⟨rfl,rfl⟩)
  go_ret
  exact⟨rfl,Below.refl _ _⟩
 ·rw[wlV,if_pos h0]
  exact Zj8 s h0 w
end Go.Proofs.YtocbgldilgemoaaGreatDoor
