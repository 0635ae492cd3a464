/- NumberLine, both. Asks the shelf's text. No condition. -/
import Derived.Test.YtocbgldilgemoaaGreatDoorSum
import Derived.Test.YtocbgldilgemoaaGreatDoorM12
namespace Go.Proofs.YtocbgldilgemoaaGreatDoor
set_option maxRecDepth 4000
set_option maxHeartbeats 2000000
open Go.RowKit
set_option linter.unusedVariables false
def ds (n:Nat):Nat:=if h:n=0 then 0 else n % 2+ds (n / 2)
termination_by n
decreasing_by omega
theorem Zb4:ds 0=0:=by rw[ds];rfl
theorem Ze0 {n:Nat} (h:n≠0):ds n=n % 2+ds (n / 2):=by rw[ds,dif_neg h]
theorem Zlg (n:Nat):ds n≤n:=by
 induction n using Nat.strongRecOn with
 | ind n ih =>
  by_cases h:n=0
  ·subst h;rw[Zb4];exact Nat.le_refl _
  ·rw[Ze0 h];have:=ih (n / 2) (by omega);omega
theorem Zi4 (n:Nat) (hn:n≤1000000000000) (w:World) :
  Calls Tryz.prog 268 #[.int .i64 n,.int .i64 2] w fun e w'=>e=.returned (.int .i64 (ds n % 2:Nat))∧w=w':=by
 obtain⟨t,ht⟩:∃ t,ds n=t:=⟨_,rfl⟩
 have htn:=Zlg n
 rw[ht] at htn ⊢
 have HT:=Hd ht
 clear ht
 go_enter Tryz.func268,Tryz.ntmps268
 go_wp2_with fail
 go_loop [0,5] (fun x s=>∃ j a:Nat,j≤1000000000000∧a≤t∧x=.int .i64 j∧s=.int .i64 a∧a+ds j=t) (fun x _=>(intOf x).toNat)
 case atStart=>exact⟨n,0,hn,by omega,rfl,rfl,by rw[HT.o,Nat.zero_add]⟩
 case round =>
  obtain⟨j,a,hj,ha,rfl,rfl,hg⟩:=hrel
  by_cases h0:j=0
  ·subst h0
   rw[Zb4,Nat.add_zero] at hg
   subst hg
   have q1:Int.tmod (a:Int) 2=((a % 2:Nat):Int):=by rw[Int.tmod_eq_emod_of_nonneg (by omega)];omega
   go_wp2_with fail
   go_ret
   exact⟨Qp rfl,rfl⟩
  ·rw[Ze0 h0] at hg
   obtain⟨r,hr⟩:∃ r,j % 2=r:=⟨_,rfl⟩
   obtain⟨q,hq⟩:∃ q,j / 2=q:=⟨_,rfl⟩
   rw[hr,hq] at hg
   have hr2:r<2:=by omega
   have hqj:q<j:=by omega
   have hp:(0:Int)<(j:Int):=by omega
   have q1:Int.tmod (j:Int) 2=(r:Int):=by rw[Int.tmod_eq_emod_of_nonneg (by omega)];omega
   have q2:Int.tdiv (j:Int) 2=(q:Int):=by rw[Int.tdiv_eq_ediv_of_nonneg (by omega)];omega
   have HG:=Hd hg
   have hat:a+r≤t:=by omega
   clear hg hr hq
   go_wp2_with fail
   go_round
   case rel=>exact⟨q,a+r,by omega,hat,rfl,by go_num,by rw[← HG.o,Nat.add_assoc]⟩
   case measure=>simp[intOf];omega
theorem Zi5 (n:Nat) (hn:n≤1000000000000) (w:World) :
  Calls Tryz.prog 237 #[.int .i64 n,.int .i64 2] w fun e w'=>e=.returned (.int .i64 (ds n % 2:Nat))∧w=w':=by
 obtain⟨t,ht⟩:∃ t,ds n=t:=⟨_,rfl⟩
 have htn:=Zlg n
 rw[ht] at htn ⊢
 have HT:=Hd ht
 clear ht
 go_enter Tryz.func237,Tryz.ntmps237
 go_wp2_with fail
 go_loop [0,5] (fun x s=>∃ j a:Nat,j≤1000000000000∧a≤t∧x=.int .i64 j∧s=.int .i64 a∧a+ds j=t) (fun x _=>(intOf x).toNat)
 case atStart=>exact⟨n,0,hn,by omega,rfl,rfl,by rw[HT.o,Nat.zero_add]⟩
 case round =>
  obtain⟨j,a,hj,ha,rfl,rfl,hg⟩:=hrel
  by_cases h0:j=0
  ·subst h0
   rw[Zb4,Nat.add_zero] at hg
   subst hg
   have q1:Int.tmod (a:Int) 2=((a % 2:Nat):Int):=by rw[Int.tmod_eq_emod_of_nonneg (by omega)];omega
   go_wp2_with fail
   go_ret
   exact⟨Qp rfl,rfl⟩
  ·rw[Ze0 h0] at hg
   obtain⟨r,hr⟩:∃ r,j % 2=r:=⟨_,rfl⟩
   obtain⟨q,hq⟩:∃ q,j / 2=q:=⟨_,rfl⟩
   rw[hr,hq] at hg
   have hr2:r<2:=by omega
   have hqj:q<j:=by omega
   have hp:(0:Int)<(j:Int):=by omega
   have q1:Int.tmod (j:Int) 2=(r:Int):=by rw[Int.tmod_eq_emod_of_nonneg (by omega)];omega
   have q2:Int.tdiv (j:Int) 2=(q:Int):=by rw[Int.tdiv_eq_ediv_of_nonneg (by omega)];omega
   have HG:=Hd hg
   have hat:a+r≤t:=by omega
   clear hg hr hq
   go_wp2_with fail
   go_round
   case rel=>exact⟨q,a+r,by omega,hat,rfl,by go_num,by rw[← HG.o,Nat.add_assoc]⟩
   case measure=>simp[intOf];omega
theorem Zi6 (w:World):Calls Tryz.prog 267 #[.int .i64 2] w fun e w'=>e=.returned (.bool true)∧w=w':=by
 have H2:=Hd (fun w=>Zo (2:Int) 2 4 ⟨by omega,by omega⟩ w)
 go_enter Tryz.func267,Tryz.ntmps267
 go_wp2_with (go_at_call 65;with_reducible refine (H2.o _).mono ?_;rintro e w1 ⟨rfl,rfl⟩)
 go_ret
 exact⟨rfl,rfl⟩
theorem Zhb (w:World):Calls Tryz.prog 234 #[] w fun e w'=>e=.returned (.int .i64 1000000000000)∧w=w':=by
 go_enter Tryz.func234,Tryz.ntmps234
 go_wp2_with fail
 go_ret
 exact⟨rfl,rfl⟩
theorem Zb5 (n:Nat) (hn:n≤1000000000000) (w:World) :
  Calls Tryz.prog 211 #[.int .i64 n,.int .i64 2] w fun e w'=>e=.returned (.int .i64 (ds n % 2:Nat))∧w=w':=by
 have H1:=Hd (fun w=>Zo (n:Int) 0 1000000000000 ⟨by omega,by omega⟩ w)
 have H2:=Hd (fun w=>Zo (2:Int) 2 4 ⟨by omega,by omega⟩ w)
 have H3:=Hd (fun w=>Zi4 n hn w)
 go_enter Tryz.func211,Tryz.ntmps211
 go_wp2_with (first
  | (go_at_call 65;with_reducible refine (H1.o _).mono ?_;rintro e w1 ⟨rfl,rfl⟩)
  | (go_at_call 267;with_reducible refine (Zi6 _).mono ?_;rintro e w1 ⟨rfl,rfl⟩)
  | (go_at_call 268;with_reducible refine (H3.o _).mono ?_;rintro e w1 ⟨rfl,rfl⟩))
 go_ret
 exact⟨rfl,rfl⟩
theorem Zb6 (n:Nat) (hn:n≤1000000000000) (w:World) :
  Calls Tryz.prog 165 #[.int .i64 n,.int .i64 2] w fun e w'=>e=.returned (.int .i64 (ds n % 2:Nat))∧w=w':=by
 have H1:=Hd (fun w=>Zw (n:Int) 0 1000000000000 ⟨by omega,by omega⟩ w)
 have H2:=Hd (fun w=>Zw (2:Int) 2 4 ⟨by omega,by omega⟩ w)
 have H3:=Hd (fun w=>Zi5 n hn w)
 go_enter Tryz.func165,Tryz.ntmps165
 go_wp2_with (first
  | (go_at_call 146;with_reducible refine (H1.o _).mono ?_;rintro e w1 ⟨rfl,rfl⟩)
  | (go_at_call 146;with_reducible refine (H2.o _).mono ?_;rintro e w1 ⟨rfl,rfl⟩)
  | (go_at_call 237;with_reducible refine (H3.o _).mono ?_;rintro e w1 ⟨rfl,rfl⟩))
 go_ret
 exact⟨rfl,rfl⟩
theorem WC (n:Nat) (hn:n≤1000000000000) (w:World) :
  Calls Tryz.prog 209 #[.int .i64 n] w fun e w'=>e=.returned (.string (Zd (Jm n)))∧Below w.heap.size w w':=by
 have H1:=Hd (fun w=>Zo (n:Int) 0 1000000000000 ⟨by omega,by omega⟩ w)
 have H3:=Hd (fun w=>Zj6 n hn w)
 go_enter Tryz.func209,Tryz.ntmps209
 go_wp2_with (go_at_call 65;with_reducible refine (H1.o _).mono ?_;rintro e w1 ⟨rfl,rfl⟩)
 refine (H3.o _).mono ?_
 rintro e w1 ⟨rfl,b1⟩
 go_wp2_with fail
 go_ret
 exact⟨rfl,b1⟩
theorem WD (n:Nat) (hn:n≤1000000000000) (w:World) :
  Calls Tryz.prog 163 #[.int .i64 n] w fun e w'=>e=.returned (.string (Zd (Jm n)))∧Below w.heap.size w w':=by
 have H1:=Hd (fun w=>Zw (n:Int) 0 1000000000000 ⟨by omega,by omega⟩ w)
 have H3:=Hd (fun w=>Zj7 n hn w)
 go_enter Tryz.func163,Tryz.ntmps163
 go_wp2_with (first
  | (go_at_call 234;with_reducible refine (Zhb _).mono ?_;rintro e w1 ⟨rfl,rfl⟩)
  | (go_at_call 146;with_reducible refine (H1.o _).mono ?_;rintro e w1 ⟨rfl,rfl⟩))
 refine (H3.o _).mono ?_
 rintro e w1 ⟨rfl,b1⟩
 go_wp2_with fail
 go_ret
 exact⟨rfl,b1⟩
def Zb7 (n:Nat):ByteArray:=if (Jm n).length=0 then { data:=#[48] } else Zd (Jm n)
noncomputable def Zhc (n:Nat):ByteArray:={ data:=#[110,117,109,101,114,97,108,32] }++Zb7 n++{ data:=#[32,108,111,119,101,114,32] }++QD (low n)++{ data:=#[32,99,108,97,115,115,32] }++QD (ds n % 2:Nat)
noncomputable def JR (n:Int):ByteArray:=if 0≤n∧n≤100000 then Zhc n.toNat else { data:=#[110,111,110,101] }
theorem YU (n:Nat):(Zb7 n).size≤60:=by
 unfold Zb7
 split
 ·decide
 ·have:=Zcx 60 n [];rw[Zh];simpa[Jm] using this
theorem Zi7 (n:Int) (w:World) (ht:TB w) :
  Calls Tryz.prog 133 #[.int .i64 n] w fun e w'=>e=.returned (.string (JR n))∧Below w.heap.size w w':=by
 by_cases hok:0≤n∧n≤100000
 ·have hv:JR n=Zhc n.toNat:=by rw[JR,if_pos hok]
  rw[hv]
  have H1:=Hd (fun w=>Zo n 0 100000 hok w)
  obtain⟨hn0,hn1⟩:=hok
  obtain⟨k,rfl⟩:∃ k:Nat,n=k:=⟨n.toNat,by omega⟩
  rw[Int.toNat_natCast] at hv ⊢
  have hk:k≤100000:=by omega
  have H2:=Hd (fun w=>WC k (by omega) w)
  have H3:=Hd (fun w=>Zbu (k:Int) hn0 hn1 w)
  have H4:=Hd (fun w=>Zb5 k (by omega) w)
  have hfm:=fun (z:Int) (hz:I64 z) (W:World) (hW:Below w.heap.size w W)=>Qc z hz W (ht.below hW)
  have hlb:=ZeN (k:Int) hn0 hn1
  have hl64:I64 (low k):=by unfold I64;omega
  have hc64:I64 ((ds k % 2:Nat):Int):=by unfold I64;omega
  have f1:=fun (W:World) (hW:Below w.heap.size w W)=>hfm (low k) hl64 W hW
  have f2:=fun (W:World) (hW:Below w.heap.size w W)=>hfm ((ds k % 2:Nat):Int) hc64 W hW
  have z1:=QA hl64
  have z2:=QA hc64
  have z0:=YU k
  simp only[← QD.eq_1] at f1 f2
  rw[Zhc]
  obtain⟨x1,hx1⟩:∃ x,QD (low k)=x:=⟨_,rfl⟩
  obtain⟨x2,hx2⟩:∃ x,QD ((ds k % 2:Nat):Int)=x:=⟨_,rfl⟩
  obtain⟨y1,hy1⟩:∃ y,low k=y:=⟨_,rfl⟩
  obtain⟨y2,hy2⟩:∃ y,((ds k % 2:Nat):Int)=y:=⟨_,rfl⟩
  rw[hx1] at f1 z1 ⊢
  rw[hx2] at f2 z2 ⊢
  rw[hy1] at f1 H3
  rw[hy2] at f2 H4
  have F1:=Hd f1;have F2:=Hd f2
  obtain⟨x0,hx0⟩:∃ x,Zb7 k=x:=⟨_,rfl⟩
  rw[hx0] at z0 ⊢
  have HX0:=Hd hx0
  clear hx0 hx1 hx2 hy1 hy2 f1 f2 hfm hv hl64 hc64 hlb
  have n1:¬ 9223372036854775807<8+x0.size:=by omega
  have n2:¬ 9223372036854775807<8+x0.size+7:=by omega
  have n3:¬ 9223372036854775807<8+x0.size+7+x1.size:=by omega
  have n4:¬ 9223372036854775807<8+x0.size+7+x1.size+7:=by omega
  have n5:¬ 9223372036854775807<8+x0.size+7+x1.size+7+x2.size:=by omega
  go_enter Tryz.func133,Tryz.ntmps133
  go_wp2_with (go_at_call 65;with_reducible refine (H1.o _).mono ?_;rintro e w1 ⟨rfl,rfl⟩)
  refine (H2.o _).mono ?_
  rintro e w1 ⟨rfl,b1⟩
  have z9:=b1.size
  by_cases h0:(Jm k).length=0
  ·have hemp:(Zd (Jm k)).toList.isEmpty=true:=by
    have:Jm k=[]:=List.eq_nil_of_length_eq_zero h0
    rw[this,ByteArray.toList_eq];rfl
   have hx:{ data:=#[48] }=x0:=by rw[← HX0.o,Zb7,if_pos h0]
   have HX:=Hd hx
   have hxs:x0.size=1:=by rw[← hx];rfl
   clear hx h0
   go_wp2_with fail
   rw[HX.o]
   go_wp2_with fail
   refine (H3.o _).mono ?_
   rintro e w2 ⟨rfl,b2⟩
   have b12:=b1.trans (b2.mono z9)
   go_wp2_with fail
   refine (F1.out _ b12).mono ?_
   rintro e w3 ⟨rfl,b3⟩
   have z3:=b2.size
   have b13:=b12.trans (b3.mono (by omega))
   go_wp2_with fail
   refine (H4.o _).mono ?_
   rintro e w4 ⟨rfl,rfl⟩
   go_wp2_with fail
   refine (F2.out _ b13).mono ?_
   rintro e w5 ⟨rfl,b5⟩
   have z5:=b3.size
   go_wp2_with fail
   go_ret
   exact⟨rfl,b13.trans (b5.mono (by omega))⟩
  ·have hemp:(Zd (Jm k)).toList.isEmpty=false:=by
    rw[ByteArray.toList_eq]
    show (L (Zd (Jm k))).isEmpty=false
    rw[Zy]
    cases hq:Jm k with
    | nil=>rw[hq] at h0;exact absurd rfl h0
    | cons a b=>rfl
   have hx:Zd (Jm k)=x0:=by rw[← HX0.o,Zb7,if_neg h0]
   rw[hx] at hemp ⊢
   clear hx h0
   go_wp2_with fail
   refine (H3.o _).mono ?_
   rintro e w2 ⟨rfl,b2⟩
   have b12:=b1.trans (b2.mono z9)
   go_wp2_with fail
   refine (F1.out _ b12).mono ?_
   rintro e w3 ⟨rfl,b3⟩
   have z3:=b2.size
   have b13:=b12.trans (b3.mono (by omega))
   go_wp2_with fail
   refine (H4.o _).mono ?_
   rintro e w4 ⟨rfl,rfl⟩
   go_wp2_with fail
   refine (F2.out _ b13).mono ?_
   rintro e w5 ⟨rfl,b5⟩
   have z5:=b3.size
   go_wp2_with fail
   go_ret
   exact⟨rfl,b13.trans (b5.mono (by omega))⟩
 ·have hv:JR n={ data:=#[110,111,110,101] }:=by rw[JR,if_neg hok]
  rw[hv]
  have H1:=Hd (fun w=>ZK n 0 100000 hok w)
  clear hv hok
  go_enter Tryz.func133,Tryz.ntmps133
  go_wp2_with (go_at_call 65;with_reducible refine (H1.o _).mono ?_;rintro e w1 ⟨rfl,rfl⟩)
  go_ret
  exact⟨rfl,Below.refl _ _⟩
theorem Zi8 (n:Int) (w:World)  :
  Calls Tryz.prog 85 #[.int .i64 n] w fun e w'=>e=.returned (.string (JR n))∧Below w.heap.size w w':=by
 by_cases hok:0≤n∧n≤100000
 ·have hv:JR n=Zhc n.toNat:=by rw[JR,if_pos hok]
  rw[hv]
  have H1:=Hd (fun w=>Zw n 0 100000 hok w)
  obtain⟨hn0,hn1⟩:=hok
  obtain⟨k,rfl⟩:∃ k:Nat,n=k:=⟨n.toNat,by omega⟩
  rw[Int.toNat_natCast] at hv ⊢
  have hk:k≤100000:=by omega
  have H2:=Hd (fun w=>WD k (by omega) w)
  have H3:=Hd (fun w=>Zbv (k:Int) hn0 hn1 w)
  have H4:=Hd (fun w=>Zb6 k (by omega) w)
  have hfm:=fun (z:Int) (hz:I64 z) (W:World) (hW:Below w.heap.size w W)=>ZJ z hz W
  have hlb:=ZeN (k:Int) hn0 hn1
  have hl64:I64 (low k):=by unfold I64;omega
  have hc64:I64 ((ds k % 2:Nat):Int):=by unfold I64;omega
  have f1:=fun (W:World) (hW:Below w.heap.size w W)=>hfm (low k) hl64 W hW
  have f2:=fun (W:World) (hW:Below w.heap.size w W)=>hfm ((ds k % 2:Nat):Int) hc64 W hW
  have z1:=QA hl64
  have z2:=QA hc64
  have z0:=YU k
  simp only[← QD.eq_1] at f1 f2
  rw[Zhc]
  obtain⟨x1,hx1⟩:∃ x,QD (low k)=x:=⟨_,rfl⟩
  obtain⟨x2,hx2⟩:∃ x,QD ((ds k % 2:Nat):Int)=x:=⟨_,rfl⟩
  obtain⟨y1,hy1⟩:∃ y,low k=y:=⟨_,rfl⟩
  obtain⟨y2,hy2⟩:∃ y,((ds k % 2:Nat):Int)=y:=⟨_,rfl⟩
  rw[hx1] at f1 z1 ⊢
  rw[hx2] at f2 z2 ⊢
  rw[hy1] at f1 H3
  rw[hy2] at f2 H4
  have F1:=Hd f1;have F2:=Hd f2
  obtain⟨x0,hx0⟩:∃ x,Zb7 k=x:=⟨_,rfl⟩
  rw[hx0] at z0 ⊢
  have HX0:=Hd hx0
  clear hx0 hx1 hx2 hy1 hy2 f1 f2 hfm hv hl64 hc64 hlb
  have n1:¬ 9223372036854775807<8+x0.size:=by omega
  have n2:¬ 9223372036854775807<8+x0.size+7:=by omega
  have n3:¬ 9223372036854775807<8+x0.size+7+x1.size:=by omega
  have n4:¬ 9223372036854775807<8+x0.size+7+x1.size+7:=by omega
  have n5:¬ 9223372036854775807<8+x0.size+7+x1.size+7+x2.size:=by omega
  go_enter Tryz.func85,Tryz.ntmps85
  go_wp2_with (go_at_call 146;with_reducible refine (H1.o _).mono ?_;rintro e w1 ⟨rfl,rfl⟩)
  refine (H2.o _).mono ?_
  rintro e w1 ⟨rfl,b1⟩
  have z9:=b1.size
  by_cases h0:(Jm k).length=0
  ·have hemp:(Zd (Jm k)).toList.isEmpty=true:=by
    have:Jm k=[]:=List.eq_nil_of_length_eq_zero h0
    rw[this,ByteArray.toList_eq];rfl
   have hx:{ data:=#[48] }=x0:=by rw[← HX0.o,Zb7,if_pos h0]
   have HX:=Hd hx
   have hxs:x0.size=1:=by rw[← hx];rfl
   clear hx h0
   go_wp2_with fail
   rw[HX.o]
   go_wp2_with fail
   refine (H3.o _).mono ?_
   rintro e w2 ⟨rfl,b2⟩
   have b12:=b1.trans (b2.mono z9)
   go_wp2_with fail
   refine (F1.out _ b12).mono ?_
   rintro e w3 ⟨rfl,b3⟩
   have z3:=b2.size
   have b13:=b12.trans (b3.mono (by omega))
   go_wp2_with fail
   refine (H4.o _).mono ?_
   rintro e w4 ⟨rfl,rfl⟩
   go_wp2_with fail
   refine (F2.out _ b13).mono ?_
   rintro e w5 ⟨rfl,b5⟩
   have z5:=b3.size
   go_wp2_with fail
   go_ret
   exact⟨rfl,b13.trans (b5.mono (by omega))⟩
  ·have hemp:(Zd (Jm k)).toList.isEmpty=false:=by
    rw[ByteArray.toList_eq]
    show (L (Zd (Jm k))).isEmpty=false
    rw[Zy]
    cases hq:Jm k with
    | nil=>rw[hq] at h0;exact absurd rfl h0
    | cons a b=>rfl
   have hx:Zd (Jm k)=x0:=by rw[← HX0.o,Zb7,if_neg h0]
   rw[hx] at hemp ⊢
   clear hx h0
   go_wp2_with fail
   refine (H3.o _).mono ?_
   rintro e w2 ⟨rfl,b2⟩
   have b12:=b1.trans (b2.mono z9)
   go_wp2_with fail
   refine (F1.out _ b12).mono ?_
   rintro e w3 ⟨rfl,b3⟩
   have z3:=b2.size
   have b13:=b12.trans (b3.mono (by omega))
   go_wp2_with fail
   refine (H4.o _).mono ?_
   rintro e w4 ⟨rfl,rfl⟩
   go_wp2_with fail
   refine (F2.out _ b13).mono ?_
   rintro e w5 ⟨rfl,b5⟩
   have z5:=b3.size
   go_wp2_with fail
   go_ret
   exact⟨rfl,b13.trans (b5.mono (by omega))⟩
 ·have hv:JR n={ data:=#[110,111,110,101] }:=by rw[JR,if_neg hok]
  rw[hv]
  have H1:=Hd (fun w=>ZU n 0 100000 hok w)
  clear hv hok
  go_enter Tryz.func85,Tryz.ntmps85
  go_wp2_with (go_at_call 146;with_reducible refine (H1.o _).mono ?_;rintro e w1 ⟨rfl,rfl⟩)
  go_ret
  exact⟨rfl,Below.refl _ _⟩
end Go.Proofs.YtocbgldilgemoaaGreatDoor
