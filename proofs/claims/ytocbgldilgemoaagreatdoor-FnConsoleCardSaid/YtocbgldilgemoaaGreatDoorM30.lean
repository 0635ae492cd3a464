/- Texts of this claim, one behind the other: Rll, Shw, Rlp, Rlb. No condition but what each says. -/
import Derived.Test.YtocbgldilgemoaaGreatDoorSbl
import Derived.Test.YtocbgldilgemoaaGreatDoorWln
import Derived.Test.YtocbgldilgemoaaGreatDoorNml
import Derived.Test.YtocbgldilgemoaaGreatDoorGsp
namespace Go.Proofs.YtocbgldilgemoaaGreatDoor
open Go.RowKit
set_option linter.unusedVariables false
noncomputable section
def ZY:ByteArray:={ data:=#[110,111,110,101] }
def QJ:ByteArray:={ data:=#[117,110,107,110,111,119,110,32,99,111,109,109,97,110,100] }
abbrev Rz:=List ByteArray × ByteArray × ByteArray
def Jl (zs:List ByteArray) (v:ByteArray):Option (List ByteArray)→Rz
 | none=>(zs,v,ZY)
 | some ys=>(ys,v,slV ys)
def J7 (v u:ByteArray):Bool:=isW (L u)&&!(decide (u.size=0)&&!decide (v.size=0))
def ZG (zs:List ByteArray) (v:ByteArray):Option ByteArray→Rz
 | none=>(zs,v,ZY)
 | some u=>if J7 v u=true then (zs,u,orD u) else (zs,v,ZY)
def suT (s:ByteArray):Option (List ByteArray):=if (psV (nmT s)).isSome=true then psV (nmT s) else psV s
def trW (v:ByteArray):ByteArray:=if isW (L v)=true then trn v else { data:=#[] }
def shW (v:ByteArray) (k:Int):ByteArray:=if isW (L v)=true∧0≤k∧k≤(v.size:Int) then v.extract k.toNat v.size++v.extract 0 k.toNat else { data:=#[] }
def fxV (zs:List ByteArray) (s:ByteArray) (n:Int):Option ByteArray:=if (Zf zs&&Qb zs s&&decide (0≤n∧n≤400))=true then some (Zd ((fxL zs s n.toNat).take n.toNat)) else none
def drV (v f:ByteArray):Option ByteArray:=if drB v f=true then some (drS v f) else none
def lsS (l:List Int):ByteArray:=if l.length=0 then ZY else JF l
def Zt:List ByteArray→Option (List Int)
 | []=>some []
 | s :: l=>match iP s with
  | none=>none
  | some n=>match Zt l with
   | none=>none
   | some m=>some (n :: m)
def rl1 (zs:List ByteArray) (v x:ByteArray):Rz :=
 if x=({ data:=#[109,105,114,114,111,114] }:ByteArray) then Jl zs v (tsV zs) else
 if x=({ data:=#[97,112,112,108,121] }:ByteArray) then ZG zs v (itV zs v 1) else
 if x=({ data:=#[112,97,114,101,110,116] }:ByteArray) then ZG zs v (paV zs v) else
 if x=({ data:=#[116,117,114,110] }:ByteArray) then ZG zs v (some (trW v)) else
 if x=({ data:=#[99,108,111,115,101] }:ByteArray) then ZG zs v (some (clV v)) else
 if x=({ data:=#[115,104,111,119] }:ByteArray) then (zs,v,orD v) else
 if x=({ data:=#[108,105,110,101] }:ByteArray) then (zs,v,wlV v) else
 if x=({ data:=#[115,117,98,115,116] }:ByteArray) then (zs,v,slV zs) else
 if x=({ data:=#[112,97,114,116,115] }:ByteArray) then (zs,v,JV v) else
 (zs,v,QJ)
def rl2 (zs:List ByteArray) (v x t:ByteArray):Option Rz :=
 if x=({ data:=#[115,117,98,115,116] }:ByteArray) then some (Jl zs v (suT t)) else
 if x=({ data:=#[97,102,116,101,114] }:ByteArray) then some (Jl zs v ((suT t).bind (cmV zs))) else
 if x=({ data:=#[119,111,114,100] }:ByteArray) then some (ZG zs v (some t)) else
 if x=({ data:=#[100,101,114,105,118,101] }:ByteArray) then some (ZG zs v (drV v t)) else
 if x=({ data:=#[114,101,116,117,114,110,115] }:ByteArray) then some ((zs,v,rlS v t)) else
 none
def rlN (zs:List ByteArray) (v x:ByteArray):List Int→Rz
 | [a] =>
  if x=({ data:=#[103,114,111,119] }:ByteArray) then ZG zs v (itV zs v a) else
  if x=({ data:=#[115,104,105,102,116] }:ByteArray) then ZG zs v (some (shW v a)) else
  if x=({ data:=#[115,101,108,102] }:ByteArray) then ZG zs v (sgV a) else
  if x=({ data:=#[102,111,108,100] }:ByteArray) then ZG zs v (fdV a) else
  if x=({ data:=#[102,97,99,116,111,114,115] }:ByteArray) then (zs,v,VG v a) else
  if x=({ data:=#[110,117,109,98,101,114] }:ByteArray) then (zs,v,JR a) else
  (zs,v,QJ)
 | [a,b] =>
  if x=({ data:=#[103,111,108,100] }:ByteArray) then (zs,v,JP a b) else
  if x=({ data:=#[113,117,111,116,105,101,110,116,115] }:ByteArray) then (zs,v,lsS (quV a b)) else
  (zs,v,QJ)
 | [a,b,c] =>
  if x=({ data:=#[115,108,111,112,101] }:ByteArray) then ZG zs v (mcV a b c) else
  if x=({ data:=#[103,97,112,115] }:ByteArray) then (zs,v,lsS (gaV a b c)) else
  (zs,v,QJ)
 | _=>(zs,v,QJ)
def rl3 (zs:List ByteArray) (v:ByteArray) (x:ByteArray) (r:List ByteArray):Rz :=
 match Zt r with
 | none=>(zs,v,QJ)
 | some n=>rlN zs v x n
def rlP (zs:List ByteArray) (v:ByteArray):List ByteArray→Rz
 | []=>(zs,v,QJ)
 | [x]=>rl1 zs v x
 | [x,t]=>match rl2 zs v x t with
  | some r=>r
  | none=>rl3 zs v x [t]
 | [x,t,m]=>if x=({ data:=#[102,105,120,101,100] }:ByteArray) then (match iP m with
   | none=>(zs,v,QJ)
   | some n=>ZG zs v (fxV zs t n)) else rl3 zs v x [t,m]
 | x :: r=>rl3 zs v x r
def RL (zs:List ByteArray) (v line:ByteArray):Rz:=rlP zs v (ZD 32 line)
end
theorem Zcs {s:ByteArray} (h:isW (L s)=true):trW s=trn s:=by rw[trW,if_pos h]
theorem Zfk (s:ByteArray) (hw:isW (L s)=true) (w:World) :
  Calls Tryz.prog 117 #[.string s] w fun e w'=>e=.returned (.string (trW s))∧Below w.heap.size w w':=by
 have h4:=Zb hw
 rw[Zcs hw]
 have HW:=Hd (fun v=>Zl s _ (by unfold maxLen;omega) hw v)
 have HT:=Hd (fun v=>J6 s (by omega) v)
 clear hw
 go_enter Tryz.func117,Tryz.ntmps117
 go_wp2_with (go_at_call 27;with_reducible refine (HW.o _).mono ?_;rintro e w1 ⟨rfl,rfl⟩)
 refine (HT.o _).mono ?_
 rintro e w1 ⟨rfl,b1⟩
 go_wp2_with fail
 go_ret
 exact⟨rfl,b1⟩
theorem Zfl (s:ByteArray) (hw:isW (L s)=true) (w:World) :
  Calls Tryz.prog 96 #[.string s] w fun e w'=>e=.returned (.string (trW s))∧Below w.heap.size w w':=by
 have h4:=Zb hw
 rw[Zcs hw]
 have HW:=Hd (fun v=>Zi s _ (by unfold maxLen;omega) hw v)
 have HT:=Hd (fun v=>JC s (by omega) v)
 clear hw
 go_enter Tryz.func96,Tryz.ntmps96
 go_wp2_with (go_at_call 43;with_reducible refine (HW.o _).mono ?_;rintro e w1 ⟨rfl,rfl⟩)
 refine (HT.o _).mono ?_
 rintro e w1 ⟨rfl,b1⟩
 go_wp2_with fail
 go_ret
 exact⟨rfl,b1⟩
set_option maxRecDepth 4000 in
theorem Zd5 (s:ByteArray) (k:Int) (hw:isW (L s)=true) (w:World) :
  Calls Tryz.prog 128 #[.string s,.int .i64 k] w fun e w'=>e=.returned (.string (shW s k))∧Below w.heap.size w w':=by
 have h4:=Zb hw
 have HW:=Hd (fun v=>Zl s _ (by unfold maxLen;omega) hw v)
 by_cases hk:0≤k∧k≤(s.size:Int)
 ·have hv:shW s k=s.extract k.toNat s.size++s.extract 0 k.toNat:=by rw[shW,if_pos ⟨hw,hk⟩]
  have HN:=Hd (fun v=>Zo k 0 s.size hk v)
  obtain⟨hk0,hk1⟩:=hk
  obtain⟨K,rfl⟩:=Int.eq_ofNat_of_zero_le hk0
  rw[show (K:Int).toNat=K from rfl] at hv
  have hn:¬ 9223372036854775807<(s.extract K s.size).size+(s.extract 0 K).size:=by rw[ByteArray.size_extract,ByteArray.size_extract];omega
  have HV:=Hd hv
  clear hv hw
  go_enter Tryz.func128,Tryz.ntmps128
  go_wp2_with (first
   | (go_at_call 27;with_reducible refine (HW.o _).mono ?_;rintro e w1 ⟨rfl,rfl⟩)
   | (go_at_call 65;with_reducible refine (HN.o _).mono ?_;rintro e w1 ⟨rfl,rfl⟩))
  go_quiet (fail)
  go_wp2_with fail
  go_ret
  exact⟨by rw[HV.o];rfl,((Dr.refl _).drewN nq).below⟩
 ·have hv:shW s k={ data:=#[] }:=by rw[shW,if_neg (fun h=>hk h.2)]
  rw[hv]
  have HN:=Hd (fun v=>ZK k 0 s.size hk v)
  clear hv hw hk
  go_enter Tryz.func128,Tryz.ntmps128
  go_wp2_with (first
   | (go_at_call 27;with_reducible refine (HW.o _).mono ?_;rintro e w1 ⟨rfl,rfl⟩)
   | (go_at_call 65;with_reducible refine (HN.o _).mono ?_;rintro e w1 ⟨rfl,rfl⟩))
  go_ret
  exact⟨rfl,Below.refl _ _⟩
set_option maxRecDepth 4000 in
theorem Zd6 (s:ByteArray) (k:Int) (hw:isW (L s)=true) (w:World) :
  Calls Tryz.prog 101 #[.string s,.int .i64 k] w fun e w'=>e=.returned (.string (shW s k))∧Below w.heap.size w w':=by
 have h4:=Zb hw
 have HW:=Hd (fun v=>Zi s _ (by unfold maxLen;omega) hw v)
 by_cases hk:0≤k∧k≤(s.size:Int)
 ·have hv:shW s k=s.extract k.toNat s.size++s.extract 0 k.toNat:=by rw[shW,if_pos ⟨hw,hk⟩]
  have HN:=Hd (fun v=>Zw k 0 s.size hk v)
  obtain⟨hk0,hk1⟩:=hk
  obtain⟨K,rfl⟩:=Int.eq_ofNat_of_zero_le hk0
  rw[show (K:Int).toNat=K from rfl] at hv
  have hn:¬ 9223372036854775807<(s.extract K s.size).size+(s.extract 0 K).size:=by rw[ByteArray.size_extract,ByteArray.size_extract];omega
  have HV:=Hd hv
  clear hv hw
  go_enter Tryz.func101,Tryz.ntmps101
  go_wp2_with (first
   | (go_at_call 43;with_reducible refine (HW.o _).mono ?_;rintro e w1 ⟨rfl,rfl⟩)
   | (go_at_call 146;with_reducible refine (HN.o _).mono ?_;rintro e w1 ⟨rfl,rfl⟩))
  go_quiet (fail)
  go_wp2_with fail
  go_ret
  exact⟨by rw[HV.o];rfl,((Dr.refl _).drewN nq).below⟩
 ·have hv:shW s k={ data:=#[] }:=by rw[shW,if_neg (fun h=>hk h.2)]
  rw[hv]
  have HN:=Hd (fun v=>ZU k 0 s.size hk v)
  clear hv hw hk
  go_enter Tryz.func101,Tryz.ntmps101
  go_wp2_with (first
   | (go_at_call 43;with_reducible refine (HW.o _).mono ?_;rintro e w1 ⟨rfl,rfl⟩)
   | (go_at_call 146;with_reducible refine (HN.o _).mono ?_;rintro e w1 ⟨rfl,rfl⟩))
  go_ret
  exact⟨rfl,Below.refl _ _⟩
theorem Xj (zs:List Int) (A:Option Addr) (c B:Nat) (w:World) (hB:B≤w.heap.size) (hzs:∀ z∈zs,I64 z) (hrd:Rds w B A (zs.map (Value.int .i64))) (hn:zs.length≤9223372036854775807) (ht:TB w) :
  Calls Tryz.prog 135 #[.slice A zs.length c] w fun e w'=>e=.returned (.string (lsS zs))∧Below w.heap.size w w':=by
 have hf:=Zc9 zs A c B w hB hzs hrd hn ht
 by_cases h0:zs.length=0
 ·have hv:lsS zs=ZY:=by rw[lsS,if_pos h0]
  rw[hv]
  have h1:((zs.length:Int)==0)=true:=by rw[h0];rfl
  clear hf hrd hzs hv h0
  go_enter Tryz.func135,Tryz.ntmps135
  go_wp2_with fail
  go_ret
  exact⟨rfl,Below.refl _ _⟩
 ·have hv:lsS zs=JF zs:=by rw[lsS,if_neg h0]
  rw[hv]
  have h1:((zs.length:Int)==0)=false:=by rw[beq_eq_false_iff_ne];omega
  have HF:=Hd hf
  clear hf hrd hzs hv
  go_enter Tryz.func135,Tryz.ntmps135
  go_wp2_with fail
  refine HF.o.mono ?_
  rintro e w1 ⟨rfl,b1⟩
  go_wp2_with fail
  go_ret
  exact⟨rfl,b1⟩
theorem Xk (zs:List Int) (A:Option Addr) (c B:Nat) (w:World) (hB:B≤w.heap.size) (hzs:∀ z∈zs,I64 z) (hrd:Rds w B A (zs.map (Value.int .i64))) (hn:zs.length≤9223372036854775807) :
  Calls Tryz.prog 87 #[.slice A zs.length c] w fun e w'=>e=.returned (.string (lsS zs))∧Below w.heap.size w w':=by
 have hf:=Zda zs A c B w hB hzs hrd hn
 by_cases h0:zs.length=0
 ·have hv:lsS zs=ZY:=by rw[lsS,if_pos h0]
  rw[hv]
  have h1:((zs.length:Int)==0)=true:=by rw[h0];rfl
  clear hf hrd hzs hv h0
  go_enter Tryz.func87,Tryz.ntmps87
  go_wp2_with fail
  go_ret
  exact⟨rfl,Below.refl _ _⟩
 ·have hv:lsS zs=JF zs:=by rw[lsS,if_neg h0]
  rw[hv]
  have h1:((zs.length:Int)==0)=false:=by rw[beq_eq_false_iff_ne];omega
  have HF:=Hd hf
  clear hf hrd hzs hv
  go_enter Tryz.func87,Tryz.ntmps87
  go_wp2_with fail
  refine HF.o.mono ?_
  rintro e w1 ⟨rfl,b1⟩
  go_wp2_with fail
  go_ret
  exact⟨rfl,b1⟩
noncomputable section
def ZaG (zs:List ByteArray) (v:ByteArray) (r:Rz):Prop :=
 Zf r.1=true∧isW (L r.2.1)=true∧r.2.2.size≠0∧r.2.2.size≤200000∧(r.2.2=ZY∨r.2.2=QJ→r.1=zs∧r.2.1=v)
theorem ZlK {a b:ByteArray} (h:a.size≠0):(L (a++b)).headD 0=(L a).headD 0:=by
 have h1:L (a++b)=L a++L b:=by simp[L,ByteArray.data_append]
 rw[h1]
 cases hl:L a with
 | nil=>have:=Zj a;rw[hl] at this;exact absurd this.symm h
 | cons c l=>rfl
theorem ZkX:(L ZY).headD 0=110:=rfl
theorem ZlL:(L QJ).headD 0=117:=rfl
def Xh (s:ByteArray):Prop:=s.size≠0∧((L s).headD 0).toNat≤100
theorem ZjM {s:ByteArray} (h:Xh s):¬ (s=ZY∨s=QJ):=by
 rintro (e|e)
 ·have h2:=h.2;rw[e,ZkX] at h2;exact absurd h2 (by decide)
 ·have h2:=h.2;rw[e,ZlL] at h2;exact absurd h2 (by decide)
theorem Yz {a b:ByteArray} (h:Xh a):Xh (a++b):=by
 refine⟨by rw[ByteArray.size_append];have:=h.1;omega,?_⟩
 rw[ZlK h.1];exact h.2
theorem Zd0 {u:ByteArray} (h:isW (L u)=true) (h0:u.size≠0):Xh u:=by
 refine⟨h0,?_⟩
 cases hl:L u with
 | nil=>have:=Zj u;rw[hl] at this;exact absurd this.symm h0
 | cons c l=>exact (Q7 (l:=L u) h (k:=0) (b:=c) (by rw[hl];rfl)).2
theorem ZkY {u:ByteArray} (h:isW (L u)=true):Xh (orD u):=by
 unfold orD
 split
 ·exact⟨by decide,by decide⟩
 ·exact Zd0 h (by assumption)
theorem Ze7 {u:ByteArray} {m:Nat} (h1:1≤m) (h:u.size≤m):(orD u).size≤m:=by
 unfold orD;split
 ·exact h1
 ·exact h
theorem Zck (u:ByteArray):(orD u).size≠0:=by
 unfold orD;split
 ·decide
 ·assumption
theorem ZlM {zs:List ByteArray} (h:Zf zs=true):Xh (fsV zs):=by
 rw[fsV,if_pos h]
 have hs:=h
 rw[Zf,Bool.and_eq_true,List.all_eq_true,decide_eq_true_eq] at hs
 obtain⟨ha,hl⟩:=hs
 cases zs with
 | nil=>simp at hl
 | cons x r =>
  have hx:=ha x List.mem_cons_self
  rw[Qa,Bool.and_eq_true,decide_eq_true_eq,Bool.and_eq_true] at hx
  have hx0:x.size≠0:=by omega
  have hlo:=Zd0 hx.2.1 hx0
  have hj:jnS 44 (x :: r)=L x++(jnS 44 (x :: r)).drop x.size:=by
   unfold jnS
   rw[List.map_cons,Lib.join_cons]
   rw[List.drop_left' (Zj x)]
  refine⟨by rw[Zh,hj,List.length_append,Zj];omega,?_⟩
  rw[Zy,hj]
  have h2:=hlo.2
  cases hL:L x with
  | nil=>have:=Zj x;rw[hL] at this;exact absurd this.symm hx0
  | cons c l=>rw[hL] at h2;exact h2
theorem Jo {z:Int} (h1:-4000000000000000000≤z) (h2:z≤4000000000000000000):I64 z:=by unfold I64;omega
theorem Ze8 {zs:List ByteArray} (h:Zf zs=true):Xh (slV zs):=by
 have h1:=ZlM h
 have hb:Xh (slB zs):=by unfold slB;exact Yz (Yz (Yz (Yz h1)))
 rw[slV,if_pos h]
 split
 ·exact Yz hb
 ·exact hb
theorem Zgp {zs:List ByteArray} (h:Zf zs=true):(slV zs).size≤200:=by
 have h1:=WY h
 have h4:zs.length≤4:=(Jr h).1
 have h2:(orD (grV zs)).size≤4:=Y4 (by have:=JQ zs zs.length h4;unfold grV;omega)
 have h3:(Zd (Lib.itoa (suD zs))).size≤21:=by rw[Zh];exact Jq (Zfh h)
 have e1:({ data:=#[32,103,114,111,119,105,110,103,32] }:ByteArray).size=9:=rfl
 have e2:({ data:=#[32,100,101,116,101,114,109,105,110,97,110,116,32] }:ByteArray).size=13:=rfl
 have e3:({ data:=#[32,112,114,105,109,105,116,105,118,101] }:ByteArray).size=10:=rfl
 have hb:(slB zs).size≤100:=by unfold slB;simp only[ByteArray.size_append];omega
 rw[slV,if_pos h]
 split
 ·rw[ByteArray.size_append];omega
 ·omega
theorem XP:ZY.size≠0∧ZY.size≤200000:=by decide
theorem Vq:QJ.size≠0∧QJ.size≤200000:=by decide
theorem ZM {zs:List ByteArray} {v s:ByteArray} (hz:Zf zs=true) (hv:isW (L v)=true) (h:s.size≠0∧s.size≤200000):ZaG zs v (zs,v,s):=⟨hz,hv,h.1,h.2,fun _=>⟨rfl,rfl⟩⟩
theorem WR {zs:List ByteArray} {v:ByteArray} {o:Option (List ByteArray)} (hz:Zf zs=true) (hv:isW (L v)=true) (h:∀ ys,o=some ys→Zf ys=true):ZaG zs v (Jl zs v o):=by
 cases o with
 | none=>exact ZM hz hv XP
 | some ys =>
  have hy:=h ys rfl
  refine⟨hy,hv,(Ze8 hy).1,by have:=Zgp hy;show (slV ys).size≤_;omega,fun he=>absurd he (ZjM (Ze8 hy))⟩
theorem Qi {zs:List ByteArray} {v:ByteArray} (o:Option ByteArray) (hz:Zf zs=true) (hv:isW (L v)=true):ZaG zs v (ZG zs v o):=by
 cases o with
 | none=>exact ZM hz hv XP
 | some u =>
  show ZaG zs v (if J7 v u=true then (zs,u,orD u) else (zs,v,ZY))
  split
  ·rename_i h
   rw[J7,Bool.and_eq_true] at h
   refine⟨hz,h.1,Zck u,?_,fun he=>absurd he (ZjM (ZkY h.1))⟩
   have:=Ze7 (m:=400) (by decide) (Zb h.1)
   show (orD u).size≤_
   omega
  ·exact ZM hz hv XP
theorem WS (b:Bool) (x l:ByteArray):x.size≤(wap b x l).size∧(wap b x l).size≤x.size+1+l.size:=by
 unfold wap;split
 ·rw[ByteArray.size_append,ByteArray.size_append]
  have:({ data:=#[32] }:ByteArray).size=1:=rfl
  omega
 ·omega
theorem Zl2 (c1 c2 c3 c4 c5:Bool) (x:ByteArray):x.size≤(wF c1 c2 c3 c4 c5 x).size∧(wF c1 c2 c3 c4 c5 x).size≤x.size+100:=by
 unfold wF
 have e1:({ data:=#[112,97,108,105,110,100,114,111,109,101] }:ByteArray).size=10:=rfl
 have e2:({ data:=#[115,113,117,97,114,101,102,114,101,101] }:ByteArray).size=10:=rfl
 have e3:({ data:=#[111,118,101,114,108,97,112,102,114,101,101] }:ByteArray).size=11:=rfl
 have e4:({ data:=#[98,97,108,97,110,99,101,100] }:ByteArray).size=8:=rfl
 have e5:({ data:=#[108,121,110,100,111,110] }:ByteArray).size=6:=rfl
 have h1:=WS c1 x { data:=#[112,97,108,105,110,100,114,111,109,101] }
 obtain⟨y1,hy1⟩:∃ y,wap c1 x { data:=#[112,97,108,105,110,100,114,111,109,101] }=y:=⟨_,rfl⟩
 rw[hy1] at h1 ⊢
 have h2:=WS c2 y1 { data:=#[115,113,117,97,114,101,102,114,101,101] }
 obtain⟨y2,hy2⟩:∃ y,wap c2 y1 { data:=#[115,113,117,97,114,101,102,114,101,101] }=y:=⟨_,rfl⟩
 rw[hy2] at h2 ⊢
 have h3:=WS c3 y2 { data:=#[111,118,101,114,108,97,112,102,114,101,101] }
 obtain⟨y3,hy3⟩:∃ y,wap c3 y2 { data:=#[111,118,101,114,108,97,112,102,114,101,101] }=y:=⟨_,rfl⟩
 rw[hy3] at h3 ⊢
 have h4:=WS c4 y3 { data:=#[98,97,108,97,110,99,101,100] }
 obtain⟨y4,hy4⟩:∃ y,wap c4 y3 { data:=#[98,97,108,97,110,99,101,100] }=y:=⟨_,rfl⟩
 rw[hy4] at h4 ⊢
 have h5:=WS c5 y4 { data:=#[108,121,110,100,111,110] }
 omega
theorem Zl3 {v:ByteArray} (hv:isW (L v)=true):(wlV v).size≠0∧(wlV v).size≤200000:=by
 have h4:=Zb hv
 have h1:=W7 h4
 have h0:7≤(wl0 v).size:=by
  unfold wl0
  simp only[ByteArray.size_append]
  have e1:({ data:=#[108,101,110,103,116,104,32] }:ByteArray).size=7:=rfl
  omega
 rw[wlV,if_pos hv]
 have:=Zl2 (Jg v) (!ZaE v 0) (!ZaE v 1) (VF v) (VH v) (wl0 v)
 omega
theorem ZlN {v:ByteArray} (hv:isW (L v)=true):(JV v).size≠0∧(JV v).size≤200000:=by
 have h4:=Zb hv
 have hl:(Qz v 0).length≤400:=by have:=XM v (v.size+1) 0;unfold Qz;omega
 have hz:∀ x∈Qz v 0,x.size≤400:=fun x hx=>by have:=Ym v (v.size+1) 0 x hx;omega
 have h1:=Wu 46 (Qz v 0) hz
 rw[JV,if_pos hv]
 refine⟨Zck _,Ze7 (by decide) ?_⟩
 rw[Zh];omega
theorem ZlO {v:ByteArray} (f:ByteArray) (hv:isW (L v)=true):(rlS v f).size≠0∧(rlS v f).size≤200000:=by
 have h4:=Zb hv
 have hm:(fsL (ZV v f)).length≤400:=Nat.le_trans (Zci _) (Jv v f)
 have hj:=Zcp (fsL (ZV v f)) fun x hx=>Zcq h4 hx
 have ho:=WW (Vr v f)
 have e1:({ data:=#[32] }:ByteArray).size=1:=rfl
 unfold rlS
 split
 ·simp only[ByteArray.size_append,Zh];omega
 ·decide
theorem ZjN {zs:List Int} (h:zs.length≤60) (h0:zs.length≠0) (hi:∀ z∈zs,I64 z):(JF zs).size≠0∧(JF zs).size≤200000:=by
 rw[JF,if_neg (by omega),if_neg h0]
 have hl:(fmL zs).length≤60:=by rw[Jz];exact h
 have hz:∀ x∈fmL zs,x.size≤400:=fun x hx=>by
  rw[fmL,List.mem_map] at hx
  obtain⟨z,hz,rfl⟩:=hx
  exact QA (hi z hz)
 have h1:=Wu 44 (fmL zs) hz
 rw[Zh]
 refine⟨?_,by omega⟩
 cases zs with
 | nil=>exact absurd rfl h0
 | cons z r =>
  have:0<(jnS 44 (fmL (z :: r))).length:=ZfM (by rw[QD,Zh];exact List.length_pos_iff.2 (ZfL z))
  omega
theorem ZlP {v:ByteArray} (n:Int) (hv:isW (L v)=true):(VG v n).size≠0∧(VG v n).size≤200000:=by
 have h4:=Zb hv
 unfold VG
 split
 ·rename_i h
  refine ZjN (by rw[Jy];omega) (by rw[Jy];omega) fun z hz=>?_
  rw[cpL,List.mem_map] at hz
  obtain⟨k,hk,rfl⟩:=hz
  have:=ZbA v (k+1) (by omega)
  exact Jo (by omega) (by omega)
 ·decide
theorem ZlQ (n:Int):(JR n).size≠0∧(JR n).size≤200000:=by
 unfold JR
 split
 ·unfold Zhc
  simp only[ByteArray.size_append]
  have e1:({ data:=#[110,117,109,101,114,97,108,32] }:ByteArray).size=8:=rfl
  have e2:({ data:=#[32,108,111,119,101,114,32] }:ByteArray).size=7:=rfl
  have e3:({ data:=#[32,99,108,97,115,115,32] }:ByteArray).size=7:=rfl
  have h1:=YU n.toNat
  have h2:(QD (low n.toNat)).size≤400:=QA (by have:=ZeN (n.toNat:Int) (by omega) (by omega);exact Jo (by omega) (by omega))
  have h3:(QD (ds n.toNat % 2:Nat)).size≤400:=QA (Jo (by omega) (by omega))
  omega
 ·decide
theorem ZlR (a b:Int):(JP a b).size≠0∧(JP a b).size≤200000:=by
 unfold JP
 split
 ·rename_i h
  unfold ZgT
  simp only[ByteArray.size_append]
  have h1:=QG (JG h.1)
  have h2:=QG (JG h.2)
  have h3:=QG (Wl h.1 h.2)
  have h4:=QG (Wm h.1 h.2)
  have e1:({ data:=#[32] }:ByteArray).size=1:=rfl
  have e2:({ data:=#[32,110,111,114,109,32] }:ByteArray).size=6:=rfl
  have e3:({ data:=#[32,102,108,111,111,114,32] }:ByteArray).size=7:=rfl
  omega
 ·decide
theorem Zlm {l:List Int} (h:l.length≤60) (hi:∀ z∈l,I64 z):(lsS l).size≠0∧(lsS l).size≤200000:=by
 unfold lsS
 split
 ·exact XP
 ·exact ZjN h (by assumption) hi
theorem ZjO (m:Nat):∀ (f p q:Nat),p≤m→q≤m→∀ x∈quG f p q,x≤m
 | 0,p,q,_,_,x,h=>by cases h
 | f+1,p,q,hp,hq,x,h=>by
  rw[quG] at h
  split at h
  ·cases h
  ·rename_i h0
   rcases List.mem_cons.1 h with h|h
   ·rw[h];exact Nat.le_trans (Nat.div_le_self _ _) hp
   ·have:=Nat.mod_lt p (show 0<q by omega)
    exact ZjO m f q (p % q) hq (by omega) x h
theorem Y0 (p q:Int):(quV p q).length≤60∧∀ z∈quV p q,I64 z:=by
 unfold quV
 split
 ·rename_i h
  rw[Zap,Bool.and_eq_true,decide_eq_true_eq,decide_eq_true_eq] at h
  refine⟨?_,fun z hz=>?_⟩
  ·rw[List.length_map]
   have:=ZbT 17 p.toNat q.toNat (Nat.lt_of_le_of_lt (show q.toNat≤100000 by omega) (by decide))
   omega
  ·rw[List.mem_map] at hz
   obtain⟨x,hx,rfl⟩:=hz
   have:=ZjO 100000 (q.toNat+1) p.toNat q.toNat (by omega) (by omega) x hx
   exact Jo (by omega) (by omega)
 ·exact⟨by decide,fun z hz=>by cases hz⟩
theorem ZjP (p q n:Int):∀ z∈gaV p q n,I64 z:=fun z hz=>by
 rw[gaV,(J0 _).2] at hz
 unfold gaG at hz
 split at hz
 ·rename_i h
  rw[Vh,Bool.and_eq_true,Bool.and_eq_true,decide_eq_true_eq,decide_eq_true_eq,decide_eq_true_eq] at h
  have hb:=ZbS (p:=p.toNat) (q:=q.toNat) (n:=n.toNat) (by omega)
  rw[gpL,gpT,List.mem_map] at hz
  obtain⟨i,hi,rfl⟩:=hz
  rw[List.mem_range] at hi
  have h0:0<(ptL p.toNat q.toNat n.toNat).length:=by omega
  have hi2:=hb _ (List.getElem_mem hi)
  have h02:=hb _ (List.getElem_mem h0)
  rw[gpA]
  split
  ·rename_i h1
   have h12:=hb _ (List.getElem_mem h1)
   rw[Qg h1,Qg hi]
   exact Jo (by omega) (by omega)
  ·rw[Qg h0,Qg hi]
   exact Jo (by omega) (by omega)
 ·cases hz
theorem Y1 {s:ByteArray} {ys:List ByteArray} (h:suT s=some ys):Zf ys=true:=by
 unfold suT at h
 split at h
 ·exact ZhW h
 ·exact ZhW h
theorem ZjQ {zs:List ByteArray} {v:ByteArray} (x:ByteArray) (hz:Zf zs=true) (hv:isW (L v)=true):ZaG zs v (rl1 zs v x):=by
 unfold rl1
 repeat' split
 ·exact WR hz hv fun ys h=>Zls h
 ·exact Qi _ hz hv
 ·exact Qi _ hz hv
 ·exact Qi _ hz hv
 ·exact Qi _ hz hv
 ·exact ZM hz hv ⟨Zck v,Ze7 (by decide) (by have:=Zb hv;omega)⟩
 ·exact ZM hz hv (Zl3 hv)
 ·exact ZM hz hv ⟨(Ze8 hz).1,by have:=Zgp hz;omega⟩
 ·exact ZM hz hv (ZlN hv)
 ·exact ZM hz hv Vq
theorem ZjR {zs:List ByteArray} {v:ByteArray} (x t:ByteArray) (hz:Zf zs=true) (hv:isW (L v)=true):∀ r,rl2 zs v x t=some r→ZaG zs v r:=by
 intro r h
 unfold rl2 at h
 repeat' split at h
 all_goals (first|(cases h;done)|(injection h with h;subst h))
 ·exact WR hz hv fun ys h=>Y1 h
 ·refine WR hz hv fun ys h=>?_
  cases ho:suT t with
  | none=>rw[ho] at h;cases h
  | some y=>rw[ho] at h;exact Zex h
 ·exact Qi _ hz hv
 ·exact Qi _ hz hv
 ·exact ZM hz hv (ZlO t hv)
theorem ZjS {zs:List ByteArray} {v:ByteArray} (x:ByteArray) (n:List Int) (hz:Zf zs=true) (hv:isW (L v)=true):ZaG zs v (rlN zs v x n):=by
 unfold rlN
 repeat' split
 ·exact Qi _ hz hv
 ·exact Qi _ hz hv
 ·exact Qi _ hz hv
 ·exact Qi _ hz hv
 ·exact ZM hz hv (ZlP _ hv)
 ·exact ZM hz hv (ZlQ _)
 ·exact ZM hz hv Vq
 ·exact ZM hz hv (ZlR _ _)
 ·exact ZM hz hv (Zlm (Y0 _ _).1 (Y0 _ _).2)
 ·exact ZM hz hv Vq
 ·exact Qi _ hz hv
 ·exact ZM hz hv (Zlm (by have:=ZbU;exact Nat.le_trans (this _ _ _) (by decide)) (ZjP _ _ _))
 ·exact ZM hz hv Vq
 ·exact ZM hz hv Vq
theorem WT {zs:List ByteArray} {v:ByteArray} (x:ByteArray) (r:List ByteArray) (hz:Zf zs=true) (hv:isW (L v)=true):ZaG zs v (rl3 zs v x r):=by
 unfold rl3
 split
 ·exact ZM hz hv Vq
 ·exact ZjS _ _ hz hv
theorem ZjT {zs:List ByteArray} {v:ByteArray} (ps:List ByteArray) (hz:Zf zs=true) (hv:isW (L v)=true):ZaG zs v (rlP zs v ps):=by
 unfold rlP
 split
 ·exact ZM hz hv Vq
 ·exact ZjQ _ hz hv
 ·split
  ·exact ZjR _ _ hz hv _ (by assumption)
  ·exact WT _ _ hz hv
 ·split
  ·split
   ·exact ZM hz hv Vq
   ·exact Qi _ hz hv
  ·exact WT _ _ hz hv
 ·exact WT _ _ hz hv
theorem XQ {zs:List ByteArray} {v:ByteArray} (line:ByteArray) (hz:Zf zs=true) (hv:isW (L v)=true):ZaG zs v (RL zs v line):=ZjT _ hz hv
end
noncomputable def RLb (zs:List ByteArray) (v line:ByteArray):Rz × Bool:=if Vf zs v=true then (RL zs v line,true) else ((zs,v,{ data:=#[] }),false)
def BnL (B:Nat) (w:World) (r:Rz × Bool) (e:Ending) (w':World):Prop :=
 ∃ A c,e=.returned (.tuple #[.agg #[.slice A r.1.1.length c,.string r.1.2.1],.string r.1.2.2,.bool r.2])∧Own w' B 9 (.slice A r.1.1.length c) (r.1.1.map Value.string)∧Below w.heap.size w w'
end Go.Proofs.YtocbgldilgemoaaGreatDoor
