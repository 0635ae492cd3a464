/- FormatInt of the reference: the decimal numeral of every int. No condition. -/
import Derived.Test.YtocbgldilgemoaaGreatDoorM1
import Derived.Lib.SmallJoins
import Derived.Test.YtocbgldilgemoaaGreatDoorShelf
namespace Go.Proofs.YtocbgldilgemoaaGreatDoor
set_option maxRecDepth 4000
set_option maxHeartbeats 1000000
open Go.RowKit
set_option linter.unusedVariables false
theorem ZbH:∀ (m u:Nat),1≤m→u<10 ^ m→(Lib.decDigits u).length≤m
 | 0,u,h,_=>by omega
 | m+1,u,_,hu=>by
  rw[Lib.decDigits]
  split
  ·simp
  ·rename_i h10
   have h1:1≤m:=by
    rcases Nat.eq_zero_or_pos m with h|h
    ·subst h;simp at hu;omega
    ·exact h
   have:=ZbH m (u / 10) h1 (by rw[Nat.pow_succ] at hu;omega)
   rw[List.length_append,List.length_singleton];omega
theorem Ya {u:Nat} (h:u≤9223372036854775808):(Lib.decDigits u).length≤20:=by
 have h2:(10:Nat) ^ 20=100000000000000000000:=by decide
 exact ZbH 20 u (by omega) (by rw[h2];omega)
theorem JN {u:Nat} (h:u<10):Lib.decDigits u=[UInt8.ofNat (48+u)]:=by rw[Lib.decDigits,dif_pos h]
theorem YO {u:Nat} (h:¬ u<10):Lib.decDigits u=Lib.decDigits (u / 10)++[UInt8.ofNat (48+u % 10)]:=by rw[Lib.decDigits,dif_neg h]
theorem JY (a b:List UInt8):Zd a++Zd b=Zd (a++b):=by
 apply ZH
 simp[Zd,ByteArray.data_append]
theorem Zc8 (d:UInt8) (b:Nat) (W:World) (h:W.cell? ⟨b,0,none⟩=some (.int .u8 d.toNat)):(convert 22 9 (.slice (some ⟨b,0,none⟩) 1 1)).run Tryz.prog W=.ok (.string (Zd [d])) W:=by
 refine Rds.conv (l:=[d]) (B:=b+1) (A:=some ⟨b,0,none⟩) (fun k u hu=>?_) rfl 22 9 5 1 Tryz.underlying22 Tryz.underlying5 Tryz.underlying9
 have hk:k=0:=by have:=(List.getElem?_eq_some_iff.1 hu).1;simpa[byV] using this
 subst hk
 refine⟨_,rfl,by simp,?_⟩
 simp[byV] at hu
 subst hu
 simpa[Addr.add] using h
theorem Zip (k:Nat) (hk:k≤9223372036854775807) (w:World) :
  Calls Tryz.prog 50 #[.int .i64 k] w fun e w'=>e=.returned (.string (Zd (Lib.decDigits k)))∧Below w.heap.size w w':=by
 have hdl:=Ya (u:=k) (by omega)
 have hnn:¬ (k:Int)<0:=by omega
 go_enter Tryz.func50,Tryz.ntmps50
 go_wp2_with fail
 go_loopw [0,3] (fun x o wr=>∃ j:Nat,∃ l:List UInt8,j≤k∧x=.int .i64 j∧o=.string (Zd l)∧Lib.decDigits j++l=Lib.decDigits k∧Below w.heap.size w wr) (fun x _ _=>(intOf x).toNat)
 case atStart=>exact⟨k,[],by omega,rfl,rfl,by simp,Below.refl _ _⟩
 case round =>
  obtain⟨j,l,hj,rfl,rfl,hd,hbel⟩:=hrel
  have hsl:(Zd l).size≤20:=by
   rw[← hd,List.length_append] at hdl
   rw[Zh];omega
  have HD:=Hd hd;clear hd
  have hdv:((UInt8.ofNat (48+j % 10)).toNat:Int)=48+(j:Int) % 10:=by
   rw[UInt8.toNat_ofNat'];omega
  obtain⟨d,hdd⟩:∃ d,UInt8.ofNat (48+j % 10)=d:=⟨_,rfl⟩
  rw[hdd] at hdv
  have hcv:=Zc8 d wr.heap.size (wr.alloc (.cells #[.int .u8 d.toNat] 5)) (by simp)
  have hsd:(Zd [d]).size=1:=rfl
  by_cases h0:9<j
  ·have hbig:=YO (u:=j) (by omega)
   rw[hdd] at hbig
   have HP:=Hd hbig
   have q1:Int.tmod (j:Int) 10=(j:Int) % 10:=by rw[Int.tmod_eq_emod_of_nonneg (by omega)]
   have q2:Int.tdiv (j:Int) 10=((j / 10:Nat):Int):=by rw[Int.tdiv_eq_ediv_of_nonneg (by omega)];omega
   have q3:IntKind.i64.wrap (48+(j:Int) % 10)=48+(j:Int) % 10:=IntWalk.i64_in _ (by omega)
   have q4:IntKind.u8.wrap (48+(j:Int) % 10)=(d.toNat:Int):=by rw[IntWalk.u8_in _ (by omega)];omega
   have HDD:=Hd hdd;clear hdd hdv hbig
   go_wp2_with fail
   go_roundw
   case rel=>exact⟨j / 10,d :: l,by omega,by rw[show ((j / 10:Nat):Int)=(j:Int) / 10 from by omega],by rw[JY];rfl,by rw[← HD.o,HP.o,List.append_assoc];rfl,hbel.trans ((Below.refl _ _).alloc hbel.size _)⟩
   case measure=>simp[intOf];omega
  ·have hj9:¬ (9:Int)<(j:Int):=by omega
   have hsm:=JN (u:=j) (by omega)
   have hj10:j % 10=j:=Nat.mod_eq_of_lt (by omega)
   rw[hj10] at hdd
   rw[hdd] at hsm
   have HP:=Hd hsm
   have hj10':(j:Int) % 10=(j:Int):=by omega
   rw[hj10'] at hdv
   have q3:IntKind.i64.wrap (48+(j:Int))=48+(j:Int):=IntWalk.i64_in _ (by omega)
   have q4:IntKind.u8.wrap (48+(j:Int))=(d.toNat:Int):=by rw[IntWalk.u8_in _ (by omega)];omega
   have HDD:=Hd hdd;clear hdd hdv hsm hj10 hj10'
   go_wp2_with fail
   go_ret
   refine⟨?_,hbel.trans ((Below.refl _ _).alloc hbel.size _)⟩
   rw[← HD.o,HP.o,← JY];rfl
theorem Ziq (k:Nat):∀ (h1:1≤k) (hk:k≤9223372036854775808) (w:World),
  Calls Tryz.prog 50 #[.int .i64 (-(k:Int))] w fun e w'=>e=.returned (.string (Zd (45 :: Lib.decDigits k)))∧Below w.heap.size w w':=by
 induction k using Nat.strongRecOn with
 | ind k ih =>
  intro h1 hk w
  have hneg:-(k:Int)<0:=by omega
  have hdv:((UInt8.ofNat (48+k % 10)).toNat:Int)=48+(k:Int) % 10:=by
   rw[UInt8.toNat_ofNat'];omega
  obtain⟨d,hdd⟩:∃ d,UInt8.ofNat (48+k % 10)=d:=⟨_,rfl⟩
  rw[hdd] at hdv
  have hsd:(Zd [d]).size=1:=rfl
  have q2:Int.tdiv (-(k:Int)) 10=-((k / 10:Nat):Int):=by rw[Int.neg_tdiv,Int.tdiv_eq_ediv_of_nonneg (by omega)];omega
  by_cases h0:k<10
  ·have hsm:=JN h0
   have hk10:k % 10=k:=Nat.mod_eq_of_lt h0
   rw[hk10] at hdd
   rw[hdd] at hsm
   have hk0:k / 10=0:=by omega
   rw[hk0] at q2
   have hcv:=Zc8 d w.heap.size (w.alloc (.cells #[.int .u8 d.toNat] 5)) (by simp)
   have hk10':(k:Int) % 10=(k:Int):=by omega
   rw[hk10'] at hdv
   have q3:IntKind.i64.wrap (48 - -(k:Int))=48+(k:Int):=by rw[IntWalk.i64_in _ (by omega)];omega
   have q4:IntKind.u8.wrap (48+(k:Int))=(d.toNat:Int):=by rw[IntWalk.u8_in _ (by omega)];omega
   have HP:=Hd hsm
   have HI:=Hd ih
   clear hdd hdv hsm hk10 hk10' ih
   go_enter Tryz.func50,Tryz.ntmps50
   go_wp2_with fail
   go_ret
   refine⟨?_,(Below.refl _ _).alloc nlr _⟩
   rw[HP.o]
   have:=JY [45] [d]
   simpa[Zd] using this
  ·have hbig:=YO h0
   rw[hdd] at hbig
   obtain⟨r,hr⟩:∃ r,k / 10=r:=⟨_,rfl⟩
   have hr1:1≤r:=by omega
   have hr2:r≤922337203685477580:=by omega
   have hrk:r<k:=by omega
   have hq0:¬ -(r:Int)=0:=by omega
   rw[hr] at q2 hbig
   have q1:Int.tmod (-(k:Int)) 10=-((k:Int) % 10):=by rw[Int.neg_tmod,Int.tmod_eq_emod_of_nonneg (by omega)]
   have q3:IntKind.i64.wrap (48+(k:Int) % 10)=48+(k:Int) % 10:=IntWalk.i64_in _ (by omega)
   have q5:IntKind.i64.wrap (-(r:Int))=-(r:Int):=IntWalk.i64_in _ (by omega)
   have q4:IntKind.u8.wrap (48+(k:Int) % 10)=(d.toNat:Int):=by rw[IntWalk.u8_in _ (by omega)];omega
   have HP:=Hd hbig
   have hrec:=fun w=>ih r hrk hr1 (by omega) w
   have hrl:=Ya (u:=r) (by omega)
   have hrs:(Zd (45 :: Lib.decDigits r)).size≤21:=by rw[Zh,List.length_cons];omega
   have hcg:=Zc8 d
   have HREC:=Hd hrec
   clear hdd hdv hbig ih hrec hrl hr hrk
   go_enter Tryz.func50,Tryz.ntmps50
   go_wp2_with fail
   have hltB:w.heap.size<(w.drew.alloc (.cells #[.int .u8 d.toNat] 5)).heap.size:=by simp
   have hclB:(w.drew.alloc (.cells #[.int .u8 d.toNat] 5)).cell? ⟨w.heap.size,0,none⟩=some (.int .u8 d.toNat):=by
    have h0:∀ W:World,(W.alloc (.cells #[.int .u8 d.toNat] 5)).cell? ⟨W.heap.size,0,none⟩=some (.int .u8 d.toNat):=fun W=>by simp
    exact h0 w.drew
   have bd:Below w.heap.size w w.drew:=(Below.refl _ _).drew
   go_region_with (go_at_call 50;refine (HREC.o _).mono ?_;rintro e w1 ⟨rfl,b1⟩;have hcw2:=Zc8 d w1.heap.size (w1.alloc (.cells #[.int .u8 d.toNat] 5)) (by simp);try (have hcw1:=Zc8 d w.heap.size w1 ((b1.cell (p:=⟨w.heap.size,0,none⟩) hltB).trans hclB)))
   all_goals
    go_wp2_with fail
    go_ret
    refine⟨by rw[HP.o,JY];rfl,?_⟩
    first
     | exact bd.trans (b1.alloc (by have:=b1.size;simpa using this) _)
     | exact (bd.alloc (by simp) _).trans (b1.mono (by simp))
theorem ZJ (n:Int) (hn:I64 n) (w:World) :
  Calls Tryz.prog 50 #[.int .i64 n] w fun e w'=>e=.returned (.string (Zd (Lib.itoa n)))∧Below w.heap.size w w':=by
 unfold I64 at hn
 unfold Lib.itoa
 by_cases h:n<0
 ·rw[if_pos h]
  have h2:=Ziq n.natAbs (by omega) (by omega) w
  rw[show -(n.natAbs:Int)=n by omega] at h2
  exact h2
 ·rw[if_neg h]
  have h2:=Zip n.toNat (by omega) w
  rw[show (n.toNat:Int)=n by omega] at h2
  exact h2
theorem Jq {n:Int} (hn:I64 n):(Lib.itoa n).length≤21:=by
 unfold I64 at hn
 unfold Lib.itoa
 split
 ·have:=Ya (u:=n.natAbs) (by omega)
  rw[List.length_cons];omega
 ·have:=Ya (u:=n.toNat) (by omega)
  omega
theorem Wi (w:World) (k:Nat) (os:Array Obj):Below w.heap.size w (Go.Sort.grow (w.drewN k) os) :=
 ⟨rfl,rfl,rfl,by simp[Go.Sort.grow],fun i hi=>by
  show (w.heap++os)[i]? = w.heap[i]?
  exact Array.getElem?_append_left hi⟩
def TB (w : World) : Prop := Lib.TabIs Tryz.prog w "internal/strconv.uint64pow10" .u64 Lib.pow10Tab
theorem TB.below {w w' : World} (h : TB w) (hb : Below w.heap.size w w') : TB w' := Joins.tab_stays (g := (Tryz.prog.globalNamed "internal/strconv.uint64pow10").getD 0) (by kernel_rfl) h hb nlr
theorem TB.dr {w w':World} (h:TB w) (hd:Dr w w'):TB w':=h.below hd.below
theorem Qc (n:Int) (hn:I64 n) (w:World) (ht:TB w) :
  Calls Tryz.prog 32 #[.int .i64 n] w fun e w'=>e=.returned (.string (Zd (Lib.itoa n)))∧Below w.heap.size w w':=by
 unfold I64 at hn
 have hc:=Tryz.strconv_Itoa n hn.1 hn.2 w ht
 have HC:=Hd hc
 clear hc
 go_enter Tryz.func32,Tryz.ntmps32
 go_wp2_with fail
 refine HC.o.mono ?_
 rintro e w1 ⟨rfl,k,os,rfl⟩
 go_wp2_with fail
 go_ret
 exact⟨rfl,Wi w k os⟩
end Go.Proofs.YtocbgldilgemoaaGreatDoor
