/- Texts of this claim, one behind the other: Bnr, Jon, Srt, Spl, Sri, Ben, Blc, Lys, Cpl, Bok, Lyw, Fsb, Ptl, Psu, Nam. No condition but what each says. -/
import Derived.Test.YtocbgldilgemoaaGreatDoorShelf
import Derived.Test.YtocbgldilgemoaaGreatDoorM2
import Derived.Lib.RowBridge
import Derived.Lib.SmallJoins
namespace Go.Proofs.YtocbgldilgemoaaGreatDoor
open Go.RowKit
set_option linter.unusedVariables false
def Qr (n:Nat) (l:List UInt8):Bool:=l.all fun b=>decide (b.toNat<97+n)
def Xo (l:List UInt8):Bool:=isW l&&Qr 2 l
theorem Q7 {l:List UInt8} (h:isW l=true) {k:Nat} {b:UInt8} (hb:l[k]? = some b):97≤b.toNat∧b.toNat≤100:=by
 unfold isW at h
 simp only[Bool.and_eq_true,List.all_eq_true] at h
 have:=h.1 b (List.mem_of_getElem? hb)
 unfold okc at this
 simpa using this
theorem Zmb (s:ByteArray) (k:Nat) (h:k<s.size):(L s)[k]? = some s[k]:=by
 rw[List.getElem?_eq_getElem (by rw[Zj];exact h)];rfl
set_option maxHeartbeats 400000 in
theorem Q8 (n:Nat) (s:ByteArray) (hn:n≤1000) (hs:isW (L s)=true) (w:World) :
  Calls Tryz.prog 147 #[.int .i64 n,.string s] w fun e w'=>e=.returned (.bool (Qr n (L s)))∧w=w':=by
 have h400:=Zcu hs
 rw[Zj] at h400
 have HS:=Hd hs;clear hs
 go_enter Tryz.func147,Tryz.ntmps147
 go_wp2_with fail
 go_loop [5] (fun i=>∃ k:Nat,k≤s.size∧i=.int .i64 k∧Qr n ((L s).drop k)=Qr n (L s)) (fun i=>s.size - (intOf i).toNat)
 case atStart=>exact⟨0,by omega,rfl,rfl⟩
 case round =>
  obtain⟨k,hk,rfl,hg⟩:=hrel
  have HG:=Hd hg;clear hg
  by_cases hlt:k<s.size
  ·obtain⟨bb,hbb⟩:∃ bb,s[k]'hlt=bb:=⟨_,rfl⟩
   have hb:=Q7 HS.o (Zmb s k hlt)
   rw[hbb] at hb
   have hdd:=ZS s k hlt
   rw[hbb] at hdd
   have HD:=Hd hdd
   obtain⟨p,hp⟩:∃ p,bb.toNat - 97=p:=⟨_,rfl⟩
   have m1:IntKind.u8.wrap ((bb.toNat:Int) - 97)=(p:Int):=by rw[IntWalk.u8_in _ (by omega)];omega
   have p2:p<4:=by omega
   have hpw:bb.toNat<97+n↔p<n:=by omega
   have HPW:=Hd hpw
   clear hb hdd hp hpw
   by_cases hpn:p<n
   ·have HW:=Hd (HPW.o.2 hpn)
    go_wp2_with fail
    go_round
    case rel=>exact⟨k+1,by omega,by go_num,by rw[← HG.o,HD.o,Qr,Qr,List.all_cons,decide_eq_true HW.o];rfl⟩
    case measure=>simp[intOf];omega
   ·have HW:=Hd (fun h=>hpn (HPW.o.1 h))
    go_wp2_with fail
    go_ret
    exact⟨Zk (by rw[← HG.o,HD.o,Qr,List.all_cons,decide_eq_false HW.o];rfl),rfl⟩
  ·have h0:(L s).drop k=[]:=QP s k hlt
   have H0:=Hd h0;clear h0
   go_wp2_with fail
   go_ret
   exact⟨Zk (by rw[← HG.o,H0.o];rfl),rfl⟩
theorem Zac (s:ByteArray) (hs:s.size≤maxLen) (w:World) :
  Calls Tryz.prog 228 #[.string s] w fun e w'=>e=.returned (.bool (Xo (L s)))∧w=w':=by
 cases h1:isW (L s)
 ·have H1:=Hd h1;clear h1
  go_enter Tryz.func228,Tryz.ntmps228
  go_wp2_with (go_at_call 43;refine (Zi s _ hs H1.o _).mono ?_;rintro e w' ⟨rfl,rfl⟩)
  go_ret
  exact⟨Zk (by rw[Xo,H1.o];rfl),rfl⟩
 ·have H1:=Hd h1;clear h1
  go_enter Tryz.func228,Tryz.ntmps228
  go_wp2_with (go_at_call 43;refine (Zi s _ hs H1.o _).mono ?_;rintro e w' ⟨rfl,rfl⟩)
  refine (Q8 2 s (by omega) H1.o _).mono ?_
  rintro e w' ⟨rfl,rfl⟩
  go_wp2_with fail
  go_ret
  exact⟨Zk (by rw[Xo,H1.o];rfl),rfl⟩
theorem Va (cs:List UInt8):∀ l:List UInt8,Lib.containsAny l cs=l.any cs.contains
 | []=>rfl
 | b :: l=>by
  have ih:=Va cs l
  have hge:=Lib.indexAny_ge cs l
  unfold Lib.containsAny at ih ⊢
  rw[List.any_cons,← ih,Lib.indexAny]
  cases hc:cs.contains b
  ·simp only[Bool.false_eq_true,if_false,Bool.false_or]
   by_cases h1:Lib.indexAny l cs=-1
   ·rw[h1];rfl
   ·rw[if_neg (by simpa using h1),decide_eq_true (by omega),decide_eq_true (by omega)]
  ·rfl
theorem XU {l:List UInt8} (h:isW l=true):Lib.containsAny l [99,100]=!Qr 2 l:=by
 have hall:∀ b∈l,97≤b.toNat∧b.toNat≤100:=fun b hb=>by
  obtain⟨k,hk⟩:=List.getElem?_of_mem hb
  exact Q7 h hk
 clear h
 rw[Va]
 induction l with
 | nil=>rfl
 | cons b l ih =>
  have hb:=hall b (List.mem_cons_self)
  rw[List.any_cons,ih fun c hc=>hall c (List.mem_cons_of_mem _ hc),Qr,Qr,List.all_cons,Bool.not_and]
  congr 1
  rw[Bool.eq_iff_iff]
  simp[← UInt8.toNat_inj]
  omega
theorem Zad (s:ByteArray) (hs:s.size≤maxLen) (w:World) :
  Calls Tryz.prog 251 #[.string s] w fun e w'=>e=.returned (.bool (Xo (L s)))∧Below w.heap.size w w':=by
 cases h1:isW (L s)
 ·have H1:=Hd h1;clear h1
  go_enter Tryz.func251,Tryz.ntmps251
  go_wp2_with (go_at_call 27;refine (Zl s _ hs H1.o _).mono ?_;rintro e w' ⟨rfl,rfl⟩)
  go_ret
  exact⟨Zk (by rw[Xo,H1.o];rfl),Below.refl _ _⟩
 ·have h400:=Zcu h1
  rw[Zj] at h400
  have hca:=XU h1
  have hct:=Tryz.strings_ContainsAny_laid s ({ data:=#[99,100] }) w (by omega) (by decide) (fun j b hb=>by have:=Q7 h1 hb;omega) (fun j b hb=>by
   match j,hb with
   | 0,hb=>injection hb with hb;subst hb;decide
   | 1,hb=>injection hb with hb;subst hb;decide)
  rw[show Lib.containsAny s.data.toList ({ data:=#[99,100] }:ByteArray).data.toList=!Qr 2 (L s) from hca] at hct
  have HCT:=Hd hct
  have H1:=Hd h1;clear h1 hct hca
  cases hw:Qr 2 (L s)
  ·have HW:=Hd hw;clear hw
   go_enter Tryz.func251,Tryz.ntmps251
   go_wp2_with (go_at_call 27;refine (Zl s _ hs H1.o _).mono ?_;rintro e w' ⟨rfl,rfl⟩)
   refine HCT.o.mono ?_
   rw[HW.o]
   rintro e w1 ⟨rfl,b1⟩
   go_wp2_with fail
   go_ret
   exact⟨Zk (by rw[Xo,H1.o,HW.o];rfl),b1⟩
  ·have HW:=Hd hw;clear hw
   go_enter Tryz.func251,Tryz.ntmps251
   go_wp2_with (go_at_call 27;refine (Zl s _ hs H1.o _).mono ?_;rintro e w' ⟨rfl,rfl⟩)
   refine HCT.o.mono ?_
   rw[HW.o]
   rintro e w1 ⟨rfl,b1⟩
   go_wp2_with fail
   go_ret
   exact⟨Zk (by rw[Xo,H1.o,HW.o];rfl),b1⟩
theorem Wt (a b:List UInt8):Zd a++Zd b=Zd (a++b):=by
 apply ZH
 simp[Zd,ByteArray.data_append]
def jnS (sp:UInt8) (l:List ByteArray):List UInt8:=Lib.join (l.map L) [sp]
theorem ZbW (sp:UInt8) (l:List ByteArray) (x:ByteArray):jnS sp (l++[x])=if l=[] then L x else jnS sp l++[sp]++L x:=by
 induction l with
 | nil=>simp[jnS,Lib.join,List.intercalate]
 | cons y l ih =>
  rw[if_neg (by simp)]
  cases l with
  | nil=>simp[jnS,Lib.join,List.intercalate]
  | cons z l =>
   rw[if_neg (by simp)] at ih
   have h1:∀ m:List ByteArray,m≠[]→jnS sp (y :: m)=L y++[sp]++jnS sp m:=fun m hm=>by
    cases m with
    | nil=>exact absurd rfl hm
    | cons a b=>simp[jnS,Lib.join,List.intercalate]
   rw[List.cons_append,h1 _ (by simp),ih,h1 _ (by simp)]
   simp
theorem ZbX (sp:UInt8) (l:List ByteArray) (h:∀ x∈l,x.size≤400):∀ k,k≤l.length→(jnS sp (l.take k)).length≤401 * k
 | 0,_=>by simp[jnS,Lib.join,List.intercalate]
 | k+1,hk=>by
  have h1:=ZbX sp l h k (by omega)
  obtain⟨x,hx⟩:=Zc (l:=l) (k:=k) (by omega)
  have h2:=h x (List.mem_of_getElem? hx)
  have he:jnS sp (l.take (k+1))=if l.take k=[] then L x else jnS sp (l.take k)++[sp]++L x:=by rw[List.take_add_one,hx];exact ZbW _ _ _
  rw[he]
  split
  ·rw[Zj];omega
  ·simp only[List.length_append,List.length_singleton,Zj];omega
theorem Wu (sp:UInt8) (l:List ByteArray) (h:∀ x∈l,x.size≤400):(jnS sp l).length≤401 * l.length:=by
 have:=ZbX sp l h l.length nlr
 rwa[List.take_length] at this
def orD (s:ByteArray):ByteArray:=if s.size=0 then { data:=#[45] } else s
theorem J3 (s:ByteArray) (w:World):Calls Tryz.prog 44 #[.string s] w fun e w'=>e=.returned (.string (orD s))∧w=w':=by
 by_cases h:s.size=0
 ·have hemp:s.toList.isEmpty=true:=by rw[ByteArray.toList_eq];have:s.data.toList=[]:=List.eq_nil_of_length_eq_zero (by rw[Zj];exact h);rw[this];rfl
  have H:=Hd h;clear h
  go_enter Tryz.func44,Tryz.ntmps44
  go_wp2_with fail
  go_ret
  exact⟨by rw[orD,if_pos H.o];rfl,rfl⟩
 ·have hemp:s.toList.isEmpty=false:=by
   rw[ByteArray.toList_eq]
   cases hq:s.data.toList with
   | nil=>exact absurd (by rw[← Zj];show s.data.toList.length=0;rw[hq];rfl) h
   | cons a b=>rfl
  have H:=Hd h;clear h
  go_enter Tryz.func44,Tryz.ntmps44
  go_wp2_with fail
  go_ret
  exact⟨by rw[orD,if_neg H.o];rfl,rfl⟩
theorem Jd (s:ByteArray) (w:World):Calls Tryz.prog 30 #[.string s] w fun e w'=>e=.returned (.string (orD s))∧w=w':=by
 by_cases h:s.size=0
 ·have hemp:s.toList.isEmpty=true:=by rw[ByteArray.toList_eq];have:s.data.toList=[]:=List.eq_nil_of_length_eq_zero (by rw[Zj];exact h);rw[this];rfl
  have H:=Hd h;clear h
  go_enter Tryz.func30,Tryz.ntmps30
  go_wp2_with fail
  go_ret
  exact⟨by rw[orD,if_pos H.o];rfl,rfl⟩
 ·have hemp:s.toList.isEmpty=false:=by
   rw[ByteArray.toList_eq]
   cases hq:s.data.toList with
   | nil=>exact absurd (by rw[← Zj];show s.data.toList.length=0;rw[hq];rfl) h
   | cons a b=>rfl
  have H:=Hd h;clear h
  go_enter Tryz.func30,Tryz.ntmps30
  go_wp2_with fail
  go_ret
  exact⟨by rw[orD,if_neg H.o];rfl,rfl⟩
set_option maxRecDepth 4000 in
set_option maxHeartbeats 400000 in
theorem VT (sp:UInt8) (l:List ByteArray) (A:Option Addr) (c B:Nat) (w:World) (hl:l.length≤1000) (hz:∀ x∈l,x.size≤400) (hrd:Rds w B A (l.map Value.string)) :
  Calls Tryz.prog 109 #[.slice A l.length c,.string { data:=#[sp] }] w fun e w'=>e=.returned (.string (Zd (jnS sp l)))∧w=w':=by
 have HR:=Hd hrd;have HZ:=Hd hz
 clear hrd hz
 go_enter Tryz.func109,Tryz.ntmps109
 go_wp2_with fail
 go_loop [5,6,7,10] (fun v _ _ i=>∃ k:Nat,k≤l.length∧i=.int .i64 k∧∃ acc:ByteArray,v=.string acc∧acc=Zd (jnS sp (l.take k))) (fun _ _ _ i=>l.length - (intOf i).toNat)
 case atStart=>exact⟨0,by omega,rfl,_,rfl,rfl⟩
 case round =>
  obtain⟨k,hk,rfl,acc,rfl,hacc⟩:=hrel
  have HACC:=Hd hacc
  by_cases hlt:k<l.length
  ·obtain⟨x,hx⟩:=Zc (l:=l) (k:=k) hlt
   obtain⟨ad,rfl,hc⟩:=HR.o.at_ (Zs Value.string hx)
   have hxs:=HZ.o x (List.mem_of_getElem? hx)
   have hjn:jnS sp (l.take (k+1))=if l.take k=[] then L x else jnS sp (l.take k)++[sp]++L x:=by rw[List.take_add_one,hx];exact ZbW _ _ _
   have hjl:=ZbX sp l HZ.o k hk
   obtain⟨sz,hsz⟩:∃ sz,(jnS sp (l.take k)).length=sz:=⟨_,rfl⟩
   have hs1:acc.size=sz:=by rw[hacc,Zh,hsz]
   have hsb:sz≤401000:=by rw[← hsz];omega
   have hxL:Zd (L x)=x:=ZH (by rw[show (Zd (L x)).data.toList=L (Zd (L x)) from rfl,Zy])
   clear hx hjl hsz hacc
   by_cases hk0:k=0
   ·subst hk0
    have hfin:Zd (jnS sp (l.take (0+1)))=acc++x:=by
     rw[HACC.o,hjn,if_pos (by simp),hxL]
     show x=Zd []++x
     apply ZH;simp[Zd,ByteArray.data_append]
    have HF:=Hd hfin
    have hc0:w.cell? ad=some (.string x):=by simpa[Addr.add] using hc
    clear hjn hfin hxL
    go_wp2_with fail
    go_round
    case rel=>exact⟨0+1,by omega,by go_num,_,rfl,HF.o.symm⟩
    case measure=>simp[intOf];omega
   ·have hne:¬ l.take k=[]:=by intro h;have:=congrArg List.length h;rw[List.length_take,List.length_nil] at this;omega
    have hfin:Zd (jnS sp (l.take (k+1)))=acc++{ data:=#[sp] }++x:=by
     rw[HACC.o,hjn,if_neg hne]
     conv=>rhs;rw[← hxL]
     show _=Zd (jnS sp (l.take k))++Zd [sp]++Zd (L x)
     rw[Wt,Wt]
    have hs2:(acc++({ data:=#[sp] }:ByteArray)).size=sz+1:=by
     rw[ByteArray.size_append,hs1];rfl
    have hkp:decide (0<(k:Int))=true:=by simp;omega
    have HF:=Hd hfin
    clear hjn hfin hxL hne
    go_wp2_with fail
    go_round
    case rel=>exact⟨k+1,by omega,by go_num,_,rfl,HF.o.symm⟩
    case measure=>simp[intOf];omega
  ·have hkl:l.take k=l:=List.take_of_length_le (by omega)
   have HFI:=Hd (by rw[hacc,hkl]:acc=Zd (jnS sp l));clear hkl hacc
   go_wp2_with fail
   go_ret
   exact⟨by rw[← HFI.o];rfl,rfl⟩
theorem Wv (sp:UInt8) (l:List ByteArray) (A:Option Addr) (n c B:Nat) (w:World) (hn:l.length=n) (hl:l.length≤1000) (hz:∀ x∈l,x.size≤400) (ho:Own w B 9 (.slice A n c) (l.map Value.string)) :
  Calls Tryz.prog 28 #[.slice A n c,.string { data:=#[sp] }] w fun e w'=>e=.returned (.string (Zd (jnS sp l)))∧Below w.heap.size w w':=by
 subst hn
 by_cases h0:l.length=0
 ·have hnil:l=[]:=List.eq_nil_of_length_eq_zero h0
  subst hnil
  refine (Tryz.strings_Join_none A c { data:=#[sp] } w).mono ?_
  rintro e w' ⟨rfl,h⟩
  refine⟨by simp[jnS,Lib.join,List.intercalate];rfl,?_⟩
  first|(subst h;exact Below.refl _ _)|(obtain⟨q,rfl⟩:=h;exact QL (Below.refl _ _) _)|exact h
 ·obtain⟨g,rfl,_,hgs,_,_,_⟩:=ho.store (k:=0) (by rw[List.length_map];omega)
  obtain⟨A',c',hv,hc1,_,_⟩:=ho.shape
  injection hv with e1 e2 e3
  subst e3
  rw[List.length_map] at hc1
  have hjl:=Wu sp l hz
  refine Tryz.strings_Join g 0 c l { data:=#[sp] } w (fun j x hx=>?_) hgs (by omega) hc1 (by
   show (jnS sp l).length≤_
   omega)
  rw[Nat.zero_add]
  have h:=World.ownsRow.cellAt (g:=g) (n:=(l.map Value.string).length) (by
   have:=ho
   unfold Own at this
   rw[List.length_map] at this ⊢
   exact this) j (by rw[List.length_map];have:=(List.getElem?_eq_some_iff.1 hx).1;omega)
  rw[h];exact Zs Value.string hx
end Go.Proofs.YtocbgldilgemoaaGreatDoor
namespace Go.Proofs.YtocbgldilgemoaaGreatDoor
open Go.RowKit Go.Sort
set_option linter.unusedVariables false
theorem Xl (enc:List UInt8→Value) (w:World) (g off:Nat) (d:Array (List UInt8)) (k:Nat):(putRow enc w g off d).heap[k]? = if g=k then (w.heap[k]?).map (onCells (putCells enc off d)) else w.heap[k]?:=by
 unfold putRow mapBlock
 simp only[Array.getElem?_modify]
theorem Zj3 (d:Array (List UInt8)) (cur:Array Value) (h:d.size≤cur.size):(putCells encStr 0 d cur).toList.take d.size=d.toList.map encStr:=by
 apply List.ext_getElem?
 intro j
 rw[List.getElem?_take,List.getElem?_map]
 by_cases hj:j<d.size
 ·rw[if_pos hj]
  have hc:j<cur.size:=by omega
  simp only[putCells,Array.getElem?_toList,Array.getElem?_mapIdx]
  rw[Array.getElem?_eq_getElem hc,Array.getElem?_eq_getElem hj]
  simp only[Option.map_some]
  rw[if_pos ⟨Nat.zero_le _,by omega⟩,Nat.sub_zero,getElem!_pos d j hj]
 ·rw[if_neg hj,Array.getElem?_toList,Array.getElem?_eq_none (by omega)];rfl
theorem Own.row {w:World} {B g n c:Nat} {T:TypeId} {xs:List Value} (h:Own w B T (.slice (some ⟨g,0,none⟩) n c) xs) (hx:xs.length=n) (d:Array (List UInt8)) (hd:d.size=n) (q:Nat) (os:Array Obj) :
  Own (grow (putRow encStr (Sort.ahead w q) g 0 d) os) B T (.slice (some ⟨g,0,none⟩) n c) (d.toList.map encStr)∧Below B w (grow (putRow encStr (Sort.ahead w q) g 0 d) os):=by
 have hlt:=World.ownsRow.lt h g rfl
 have hsz:(putRow encStr (Sort.ahead w q) g 0 d).heap.size=w.heap.size:=by
  unfold putRow mapBlock;simp[Sort.ahead]
 have hblk:∀ k,k<w.heap.size→(grow (putRow encStr (Sort.ahead w q) g 0 d) os).heap[k]? = (putRow encStr (Sort.ahead w q) g 0 d).heap[k]?:=fun k hk=>heap_grow_old _ os (by rw[hsz];exact hk)
 subst hx
 refine⟨?_,⟨rfl,rfl,rfl,by simp only[grow,Array.size_append];rw[hsz];omega,fun k hk=>?_⟩⟩
 ·rcases h.2 with ⟨h0,_⟩|⟨g',cap,cur,hv,hB,hg,hn,hm,hcs,ht⟩
  ·cases h0
  ·injection hv with e1 e2 e3
   injection e1 with e1
   injection e1 with e1
   subst e1 e3
   have hdl:(d.toList.map encStr).length=xs.length:=by rw[List.length_map,Array.length_toList,hd]
   refine⟨by rw[Nat.mul_one],.inr ⟨g,c,putCells encStr 0 d cur,by rw[hdl],hB,?_,by rw[hdl];exact hn,hm,?_,?_⟩⟩
   ·rw[hblk g hlt.2,Xl,if_pos rfl]
    have hg':(Sort.ahead w q).heap[g]? = some (.cells cur T (0,0)):=hg
    rw[hg'];rfl
   ·simp only[putCells,Array.size_mapIdx];exact hcs
   ·rw[hdl,Nat.mul_one,← hd]
    exact Zj3 d cur (by rw[hd,hcs];omega)
 ·rw[hblk k (by omega),Xl,if_neg (by omega)];rfl
theorem Zj4 (s:ByteArray):encStr (L s)=.string s:=congrArg Value.string (Zb8 s)
theorem Za5 {w:World} {B g c:Nat} {T:TypeId} {zs:List (List UInt8)} (h:Own w B T (.slice (some ⟨g,0,none⟩) zs.length c) (zs.map encStr)):Holds encStr w g 0 zs.toArray:=fun j hj=>by
 have hj':j<zs.length:=by simpa using hj
 have h3:=h
 unfold Own at h3
 rw[List.length_map] at h3
 refine⟨?_,?_⟩
 ·rw[Nat.zero_add,World.ownsRow.cellAt h3 j (by omega),List.getElem?_map,List.getElem?_eq_getElem hj',getElem!_pos _ j hj];simp
 ·exact World.ownsRow.frozenAt h3 _
theorem Zj5 (l:List ByteArray) (g c B:Nat) (w:World) (hl:l.length≤1000000) (h:Own w B 9 (.slice (some ⟨g,0,none⟩) l.length c) (l.map Value.string)) :
  Calls Tryz.prog 296 #[.slice (some ⟨g,0,none⟩) l.length c] w fun e w'=>e=.returned (.tuple #[])∧Own w' B 9 (.slice (some ⟨g,0,none⟩) l.length c) ((srt l).map encStr)∧Below B w w':=by
 have hm:l.map Value.string=(l.map L).map encStr:=by
  rw[List.map_map];exact List.map_congr_left fun s _=>(Zj4 s).symm
 have h1:Own w B 9 (.slice (some ⟨g,0,none⟩) (l.map L).length c) ((l.map L).map encStr):=by rw[List.length_map,← hm];exact h
 have hc:=Tryz.slices_Sort_string g 0 c (l.map L) w (Za5 h1) (World.ownsRow.lt h g rfl).2 (by rw[List.length_map];omega)
 rw[List.length_map] at hc
 refine hc.mono ?_
 rintro e w' ⟨rfl,q,os,rfl⟩
 have hr:=h.row (by rw[List.length_map]) (srt l).toArray (by rw[List.size_toArray,J5]) q os
 exact⟨rfl,hr.1,hr.2⟩
theorem Zec (l:List ByteArray) (g c B:Nat) (w:World) (hl:l.length≤1000000) (h:Own w B 9 (.slice (some ⟨g,0,none⟩) l.length c) ((srt l).map encStr)) :
  Calls Tryz.prog 297 #[.slice (some ⟨g,0,none⟩) l.length c] w fun e w'=>e=.returned (.slice (some ⟨g,0,none⟩) (Jf l).length c)∧StrAt w' g c (Jf l)∧Below B w w':=by
 have h1:Own w B 9 (.slice (some ⟨g,0,none⟩) (srt l).length c) ((srt l).map encStr):=by rw[J5];exact h
 obtain⟨A',c',hv,hc1,hc2,_⟩:=h1.shape
 injection hv with e1 e2 e3
 subst e3
 rw[List.length_map] at hc1
 have hc:=Tryz.slices_Compact_string g 0 c (srt l) w (Za5 h1) (by rw[J5];omega) hc1
 rw[J5] at hc
 refine hc.mono ?_
 rintro e w' ⟨rfl,q,rfl⟩
 have hcl:=Lib.compact_length_le (srt l)
 rw[J5] at hcl
 have hr:=h.row (by rw[List.length_map,J5]) (Lib.compact (srt l)++List.replicate (l.length - (Lib.compact (srt l)).length) []).toArray (by simp;omega) q #[]
 rw[grow_empty] at hr
 have hol:(Lib.compact (srt l)).length=(Jf l).length:=by rw[← Zf3,Zjd,List.length_map]
 have hlt:=(World.ownsRow.lt hr.1 g rfl).2
 refine⟨by rw[hol],⟨by rw[← hol];rw[J5] at hc1;omega,hc2,hlt,fun j s hs=>?_⟩,hr.2⟩
 have hj:j<(Lib.compact (srt l)).length:=by rw[hol];exact (List.getElem?_eq_some_iff.1 hs).1
 have h3:=hr.1
 unfold Own at h3
 rw[List.length_map] at h3
 have h4:(Lib.compact (srt l)++List.replicate (l.length - (Lib.compact (srt l)).length) []).toArray.toList.length=l.length:=by simp;omega
 rw[h4] at h3
 rw[World.ownsRow.cellAt h3 j (by omega),List.getElem?_map]
 rw[← Zf3,Zjd,List.getElem?_map] at hs
 first
  | (dsimp only;rw[List.getElem?_append_left hj])
  | (simp only[List.toList_toArray];rw[List.getElem?_append_left hj])
 cases hq:(Lib.compact (srt l))[j]? with
 | none=>rw[hq] at hs;simp at hs
 | some z =>
  rw[hq] at hs
  have hz:Zd z=s:=by simpa using hs
  rw[← hz];rfl
set_option maxRecDepth 4000 in
set_option maxHeartbeats 1000000 in
theorem ZaJ (s:ByteArray) (n:Nat) (hs:s.size≤400) (hn:n≤1000) (w:World) :
  Calls Tryz.prog 264 #[.string s,.int .i64 n] w fun e w'=>∃ g c,e=.returned (.slice (some ⟨g,0,none⟩) (Jf (fc s n)).length c)∧StrAt w' g c (Jf (fc s n))∧Below w.heap.size w w':=by
 obtain⟨f,hf⟩:∃ f,fc s n=f:=⟨_,rfl⟩
 have HF:=Hd hf
 rw[hf];clear hf
 go_enter Tryz.func264,Tryz.ntmps264
 go_wp2_with fail
 go_loopw [5,6] (fun v i wr=>∃ k g c,k≤s.size+1 - n∧i=.int .i64 (k:Nat)∧v=.slice (some ⟨g,0,none⟩) k c∧Own wr w.heap.size 9 (.slice (some ⟨g,0,none⟩) k c) ((fcT s n k).map Value.string)∧Below w.heap.size w wr) (fun _ i _=>s.size+1 - (intOf i).toNat)
 case atStart=>exact⟨0,w.heap.size,0,by omega,rfl,rfl,Own.empty nlr,(Below.refl _ _).alloc nlr _⟩
 case round =>
  obtain⟨k,g,c,hk,rfl,rfl,hown,hbel⟩:=hrel
  have HO:=Hd hown;clear hown
  by_cases hlt:k+n≤s.size
  ·have hl3:((fcT s n k).map Value.string).length=k:=by rw[List.length_map,Vt]
   have HL3:=Hd hl3
   have HT:=Hd (Zc7 s n k)
   have hk9:k<4294967296:=by omega
   have hsz:=hbel.size
   clear hl3
   go_wp2_with (at_builtin;refine Zp rfl (.tmp 16) (.tmp 23) 23 rfl _ 16 Tryz.underlying23 Zn rfl rfl HO.o _ rfl rfl k HL3.o hk9 (by decide) hsz ?_)
   intro A2 c2 w2 hown2 hbel2 hsz2
   have hown3:Own w2 w.heap.size 9 (.slice A2 (k+1) c2) ((fcT s n (k+1)).map Value.string):=by rw[HT.o,List.map_append];exact hown2
   obtain⟨g2,hA2,_⟩:=(show Own w2 w.heap.size 9 (.slice A2 (fcT s n (k+1)).length c2) ((fcT s n (k+1)).map Value.string) by rw[Vt];exact hown3).strAt (fun h=>by have:=congrArg List.length h;rw[Vt] at this;simp at this)
   subst hA2
   have HO2:=Hd hown3
   clear hown2 hown3
   go_wp2_with fail
   go_roundw
   case rel=>exact⟨k+1,g2,c2,by omega,by go_num,rfl,HO2.o,hbel.trans hbel2⟩
   case measure=>simp[intOf];omega
  ·have hkn:k=s.size+1 - n:=by omega
   have hfin:fcT s n k=f:=by rw[hkn];exact HF.o
   have hfl:f.length=k:=by rw[← hfin,Vt]
   have ho:=HO.o
   rw[hfin,← hfl] at ho
   have hfb:f.length≤1000000:=by omega
   have hso:=Zj5 f g c _ wr hfb ho
   rw[hfl] at hso
   have HSO:=Hd hso;have HFL:=Hd hfl
   have hlt2:¬ ((k:Int)+n≤s.size):=by omega
   clear hkn hfin hfl ho hso
   go_wp2_with fail
   refine HSO.o.mono ?_
   rintro e w2 ⟨rfl,ho2,b2⟩
   have hco:=Zec f g c _ w2 hfb (by rw[HFL.o];exact ho2)
   rw[HFL.o] at hco
   have HCO:=Hd hco
   clear hco ho2
   go_wp2_with fail
   refine HCO.o.mono ?_
   rintro e w3 ⟨rfl,hst,b3⟩
   have HST:=Hd hst
   clear hst
   go_wp2_with fail
   go_ret
   exact⟨g,c,rfl,HST.o,(hbel.trans b2).trans b3⟩
end Go.Proofs.YtocbgldilgemoaaGreatDoor
namespace Go.Proofs.YtocbgldilgemoaaGreatDoor
open Go.RowKit
set_option linter.unusedVariables false
def Qx (c:UInt8):List UInt8→List UInt8→List (List UInt8)
 | cur,[]=>[cur]
 | cur,x :: r=>if x=c then cur :: Qx c [] r else Qx c (cur++[x]) r
def Zfm (cur:List UInt8):List (List UInt8)→List (List UInt8)
 | []=>[]
 | h :: t=>(cur++h) :: t
theorem Zd8 (c:UInt8):∀ (l cur pre:List UInt8),Qx c (pre++cur) l=Zfm pre (Qx c cur l)
 | [],cur,pre=>rfl
 | x :: l,cur,pre=>by
  rw[Qx,Qx]
  split
  ·rfl
  ·rw[List.append_assoc];exact Zd8 c l (cur++[x]) pre
theorem ZhB {c x:UInt8} (h:x≠c) (l:List UInt8):∀ k,k=Lib.count l [c]→Lib.splitK [c] 0 k (x :: l)=Zfm [x] (Lib.splitK [c] 0 k l)
 | 0,_=>rfl
 | k+1,hk=>by
  have hp:([c]:List UInt8).isPrefixOf (x :: l)=false:=by simp[List.isPrefixOf,Ne.symm h]
  have hix:Lib.index (x :: l) [c]=if Lib.index l [c]==-1 then -1 else Lib.index l [c]+1:=by rw[Lib.index,hp];simp
  by_cases hm:Lib.index l [c]=-1
  ·rw[Lib.count_miss hm] at hk;omega
  ·have hge:=Lib.index_ge l [c]
   obtain⟨j,hj⟩:∃ j:Nat,Lib.index l [c]=j:=⟨(Lib.index l [c]).toNat,by omega⟩
   have hix2:Lib.index (x :: l) [c]=((j+1:Nat):Int):=by rw[hix,if_neg (fun e=>hm (beq_iff_eq.1 e)),hj];omega
   have n1:¬ ((((j+1:Nat):Int)==-1)=true):=fun e=>by have:=beq_iff_eq.1 e;omega
   have n2:¬ (((j:Int)==-1)=true):=fun e=>by have:=beq_iff_eq.1 e;omega
   rw[Lib.splitK,Lib.splitK,hix2,hj,if_neg n1,if_neg n2]
   simp[Zfm]
theorem Zgx (c:UInt8):∀ l:List UInt8,Lib.splitK [c] 0 (Lib.count l [c]) l=Qx c [] l
 | []=>by
  have:Lib.count ([]:List UInt8) [c]=0:=by rw[Lib.count_one];rfl
  rw[this];rfl
 | x :: l=>by
  have ih:=Zgx c l
  by_cases h:x=c
  ·subst h
   have hix:Lib.index (x :: l) [x]=((0:Nat):Int):=by rw[Lib.index];simp[List.isPrefixOf]
   rw[Lib.count_cons_eq,Nat.add_comm,Lib.splitK,hix,Qx,if_pos rfl]
   simp[ih]
  ·rw[Lib.count_cons_ne x c l h,ZhB h l _ rfl,ih,Qx,if_neg h,← Zd8 c l [] [x]]
   simp
def ZD (c:UInt8) (s:ByteArray):List ByteArray:=(Qx c [] (L s)).map Zd
theorem Ql (s:ByteArray):Zd (L s)=s:=ZH (Zy _)
theorem Zk8 (c:UInt8) (s:ByteArray):Lib.splitB ⟨#[c]⟩ 0 (Lib.countB s ⟨#[c]⟩) s=ZD c s:=by
 have h:=Lib.splitB_data ⟨#[c]⟩ 0 (Lib.countB s ⟨#[c]⟩) s
 have h2:Lib.splitK [c] 0 (Lib.count (L s) [c]) (L s)=Qx c [] (L s):=Zgx c (L s)
 rw[ZD,← h2]
 have h3:(Lib.splitB ⟨#[c]⟩ 0 (Lib.countB s ⟨#[c]⟩) s).map (fun x=>x.data.toList)=Lib.splitK [c] 0 (Lib.count (L s) [c]) (L s):=h
 rw[← h3,List.map_map]
 exact (List.map_id'' (fun x=>Ql x) _).symm
theorem Je (c:UInt8):∀ (l cur:List UInt8),(Qx c cur l).length=l.count c+1
 | [],cur=>rfl
 | x :: l,cur=>by
  rw[Qx]
  by_cases h:x=c
  ·rw[if_pos h,List.length_cons,Je c l,h,List.count_cons_self]
  ·rw[if_neg h,Je c l,List.count_cons_of_ne h]
theorem W1 (c:UInt8) (s:ByteArray):(ZD c s).length=Lib.countB s ⟨#[c]⟩+1:=by
 rw[ZD,List.length_map,Je]
 show _=Lib.count (L s) [c]+1
 rw[Lib.count_one]
theorem Qf (c:UInt8) (s:ByteArray):(ZD c s).length≤s.size+1:=by
 rw[ZD,List.length_map,Je]
 have:=List.count_le_length (a:=c) (l:=L s)
 rw[Zj] at this;omega
theorem Y6 (c:UInt8):∀ (l cur:List UInt8),∀ x∈Qx c cur l,x.length≤cur.length+l.length
 | [],cur,x,h=>by
  rw[Qx,List.mem_singleton] at h
  rw[h];simp
 | y :: l,cur,x,h=>by
  rw[Qx] at h
  split at h
  ·rcases List.mem_cons.1 h with h|h
   ·rw[h,List.length_cons];omega
   ·have:=Y6 c l [] x h
    simp at this ⊢;omega
  ·have:=Y6 c l (cur++[y]) x h
   simp at this ⊢;omega
theorem Z6 (c:UInt8) (s:ByteArray):∀ x∈ZD c s,x.size≤s.size:=fun x hx=>by
 rw[ZD,List.mem_map] at hx
 obtain⟨l,hl,rfl⟩:=hx
 have:=Y6 c _ _ l hl
 rw[Zh]
 rw[Zj] at this
 simpa using this
def MlS (w:World):Prop:=∃ m,w.cell? ⟨Tryz.laysM146_ren.g 1,0,none⟩=some (.int .i64 m)
theorem MlS.of {w:World} (h:w.ShapedOpen Tryz.prog):MlS w:=Tryz.laysM146.s1_3 w h
theorem MlS.below {w w':World} (h:MlS w) (hb:Below w.heap.size w w'):MlS w':=by
 obtain⟨m,hm⟩:=h
 refine⟨m,?_⟩
 rw[hb.cell (p:=⟨Tryz.laysM146_ren.g 1,0,none⟩) ?_]
 ·exact hm
 ·rcases Nat.lt_or_ge (Tryz.laysM146_ren.g 1) w.heap.size with h2|h2
  ·exact h2
  ·rw[World.cell?] at hm
   simp[Array.getElem?_eq_none h2] at hm
theorem MlS.dr {w w':World} (h:MlS w) (hd:Dr w w'):MlS w':=h.below hd.below
theorem Qn (s:ByteArray) (c:UInt8) (hs:s.size<4294967281) (w:World) (h:MlS w) :
  Calls Tryz.prog 57 #[.string s,.string ⟨#[c]⟩] w fun e w'=>∃ g,e=.returned (.slice (some ⟨g,0,none⟩) (ZD c s).length (ZD c s).length)∧Own w' w.heap.size 9 (.slice (some ⟨g,0,none⟩) (ZD c s).length (ZD c s).length) ((ZD c s).map Value.string)∧Below w.heap.size w w':=by
 obtain⟨m,hm⟩:=h
 refine (Any.strings_Split { Tryz.laysM146 with } (by kernel_rfl) s ⟨#[c]⟩ m w hs hm (Nat.le_refl 1)).mono ?_
 rintro e w' ⟨rfl,rfl⟩
 refine⟨w.heap.size,by rw[W1],?_,(Below.refl _ _).alloc nlr _⟩
 rw[Zk8]
 have h2:=World.ownsRow_lit (base:=w.heap.size) (e:=9) (size:=1) w ((ZD c s).map Value.string).toArray (ZD c s).length nlr (by have:=Qf c s;unfold maxLen;omega) (by simp)
 unfold Own
 rw[List.length_map]
 exact h2
def VW (c:UInt8) (s:ByteArray) (ps:List ByteArray) (fr k:Nat):List ByteArray:=ps++(Qx c (((L s).take k).drop fr) ((L s).drop k)).map Zd
theorem W2 (c:UInt8) (s:ByteArray):VW c s [] 0 0=ZD c s:=rfl
theorem Zd9 {c:UInt8} {s:ByteArray} {ps:List ByteArray} {fr k:Nat} (hk:k<s.size) (h:s[k]=c):VW c s ps fr k=VW c s (ps++[s.extract fr k]) (k+1) (k+1):=by
 have h1:Zd (((L s).take k).drop fr)=s.extract fr k:=ZH (by show L _=L _;rw[ZI,Zy])
 have h2:((L s).take (k+1)).drop (k+1)=[]:=List.drop_of_length_le (by rw[List.length_take];omega)
 rw[VW,VW,ZS s k hk,Qx,if_pos h,h2,List.map_cons,h1,List.append_assoc];rfl
theorem Za3 {c:UInt8} {s:ByteArray} {ps:List ByteArray} {fr k:Nat} (hk:k<s.size) (hf:fr≤k) (h:¬ s[k]=c):VW c s ps fr k=VW c s ps fr (k+1):=by
 rw[VW,VW,ZS s k hk,Qx,if_neg h]
 congr 3
 have h2:(L s).take (k+1)=(L s).take k++[s[k]]:=by
  rw[List.take_add_one]
  congr 1
  rw[List.getElem?_eq_getElem (by rw[Zj];exact hk)];rfl
 rw[h2,List.drop_append_of_le_length (by rw[List.length_take,Zj];omega)]
theorem Zea (c:UInt8) (s:ByteArray) (ps:List ByteArray) (fr:Nat):VW c s ps fr s.size=ps++[s.extract fr s.size]:=by
 have h1:Zd (((L s).take s.size).drop fr)=s.extract fr s.size:=ZH (by show L _=L _;rw[ZI,Zy])
 have h2:(L s).drop s.size=[]:=List.drop_of_length_le (by rw[Zj];exact Nat.le_refl _)
 rw[VW,h2,Qx,List.map_cons,h1];rfl
theorem Zeb {c:UInt8} {s:ByteArray} {ps:List ByteArray} {fr k:Nat} {R:List ByteArray} (h:VW c s ps fr k=R):ps.length+1≤R.length:=by
 rw[← h,VW,List.length_append,List.length_map,Je];omega
set_option maxRecDepth 4000 in
set_option maxHeartbeats 1000000 in
theorem JL (s:ByteArray) (c:UInt8) (hs:s.size≤1048576) (w:World) :
  Calls Tryz.prog 37 #[.string s,.string ⟨#[c]⟩] w fun e w'=>∃ g c',e=.returned (.slice (some ⟨g,0,none⟩) (ZD c s).length c')∧Own w' w.heap.size 9 (.slice (some ⟨g,0,none⟩) (ZD c s).length c') ((ZD c s).map Value.string)∧Below w.heap.size w w':=by
 have hle:=Qf c s
 have hst:=W2 c s
 obtain⟨R,hR⟩:∃ R,ZD c s=R:=⟨_,rfl⟩
 obtain⟨by1,hby⟩:∃ b:ByteArray,(⟨#[c]⟩:ByteArray)=b:=⟨_,rfl⟩
 have hbz:by1.size≤1:=by rw[← hby];exact Nat.le_refl _
 have hbz2:0<by1.size:=by rw[← hby];exact Nat.zero_lt_one
 have hb0:by1[0]=c:=by subst hby;rfl
 rw[hR] at hle hst ⊢
 rw[hby]
 have HST:=Hd hst;have HB0:=Hd hb0
 clear hR hby hst
 go_enter Tryz.func37,Tryz.ntmps37
 go_wp2_with fail
 go_loopw [5,6,7,8] (fun v f i _ wr=>∃ (k fr g m ca:Nat) (ps:List ByteArray),k≤s.size∧fr≤k∧i=.int .i64 k∧f=.int .i64 fr∧v=.slice (some ⟨g,0,none⟩) m ca∧ps.length=m∧VW c s ps fr k=R∧Own wr w.heap.size 9 (.slice (some ⟨g,0,none⟩) m ca) (ps.map Value.string)∧Below w.heap.size w wr) (fun _ _ i _ _=>s.size - (intOf i).toNat)
 case atStart=>exact⟨0,0,w.heap.size,0,0,[],by omega,by omega,rfl,rfl,rfl,rfl,HST.o,Own.empty nlr,(Below.refl _ _).alloc nlr _⟩
 case round =>
  obtain⟨k,fr,g,m,ca,ps,hk,hfr,rfl,rfl,rfl,hm,ht,hown,hbel⟩:=hrel
  have hml:=Zeb ht
  rw[hm] at hml
  have HM:=Hd hm;have HT:=Hd ht;have HO:=Hd hown
  have hz:=hbel.size
  have hm9:m<4294967296:=by omega
  have hl5:(ps.map Value.string).length=m:=by rw[List.length_map];exact hm
  have HL5:=Hd hl5
  clear hm ht hown hl5
  by_cases hlt:k<s.size
  ·have hlt2:(k:Int)<(s.size:Int):=by omega
   have hfr2:(fr:Int)≤(k:Int):=by omega
   have hk2:(k:Int)≤(s.size:Int):=by omega
   have hbz3:(0:Int)<(by1.size:Int):=by omega
   obtain⟨wo,hwo⟩:∃ x,x=wr:=⟨_,rfl⟩
   subst hwo
   by_cases hc:s[k]=c
   ·have heq:((s[k].toNat:Int)==(c.toNat:Int))=true:=by rw[hc];simp
    have hn:=Zd9 (ps:=ps) (fr:=fr) hlt hc
    rw[HT.o] at hn
    have HN:=Hd hn
    clear hn hc
    go_wp2_with fail
    go_loopw [5,6,8] (fun v f i w3=>v=.slice (some ⟨g,0,none⟩) m ca∧f=.int .i64 fr∧i=.int .i64 0∧w3=wo) (fun _ _ _ _=>0)
    case atStart=>exact⟨rfl,rfl,rfl,rfl⟩
    case round =>
     obtain⟨rfl,rfl,rfl,rfl⟩:=hrel
     go_wp2_with fail
     go_quiet (fail)
     go_wp2_with (at_builtin;refine Zx rfl (.tmp 29) (.tmp 34) 23 rfl _ 16 Tryz.underlying23 Zn rfl m ca rfl (HO.o.dr ⟨_,rfl⟩) _ rfl rfl HL5.o hm9 (by decide) hz ?_)
     intro g4 c4 w4 ha4
     have hown4:=ha4.own
     rw[show ps.map Value.string++[Value.string (s.extract fr k)]=(ps++[s.extract fr k]).map Value.string from by rw[List.map_append];rfl] at hown4
     have hbel4:Below w.heap.size w w4:=(hbel.trans ((Dr.refl _).drewN _).below).trans ha4.bel
     have HO4:=Hd hown4
     clear ha4 hown4
     go_wp2_with fail
     go_roundw
     case rel=>exact⟨k+1,k+1,g4,m+1,c4,ps++[s.extract fr k],by omega,by omega,by go_num,by go_num,rfl,by rw[List.length_append,HM.o];rfl,HN.o.symm,HO4.o,hbel4⟩
     case measure=>simp[intOf];omega
   ·have heq:((s[k].toNat:Int)==(c.toNat:Int))=false:=by
     rw[beq_eq_false_iff_ne]
     intro h
     exact hc (UInt8.toNat_inj.1 (by omega))
    have hn:=Za3 (ps:=ps) (fr:=fr) hlt hfr hc
    rw[HT.o] at hn
    have HN:=Hd hn
    clear hn hc
    go_wp2_with fail
    go_loopw [5,6,8] (fun v f i w3=>∃ j:Nat,j≤1∧v=.slice (some ⟨g,0,none⟩) m ca∧f=.int .i64 fr∧i=.int .i64 j∧Dr wo w3) (fun _ _ i _=>1 - (intOf i).toNat)
    case atStart=>exact⟨0,by omega,rfl,rfl,rfl,Dr.refl _⟩
    case round =>
     obtain⟨j,hj,rfl,rfl,rfl,hdr⟩:=hrel
     by_cases hj0:j=0
     ·subst hj0
      go_wp2_with fail
      go_quiet (fail)
      go_wp2_with fail
      go_roundw
      case rel=>exact⟨1,by omega,rfl,rfl,rfl,hdr.drewN _⟩
      case measure=>simp[intOf]
     ·have hj1:j=1:=by omega
      subst hj1
      have hd1:decide ((1:Int)<(by1.size:Int))=false:=decide_eq_false (by omega)
      go_wp2_with fail
      go_roundw
      case rel=>exact⟨k+1,fr,g,m,ca,ps,by omega,by omega,by go_num,rfl,rfl,HM.o,HN.o.symm,HO.o.dr hdr,hbel.trans hdr.below⟩
      case measure=>simp[intOf];omega
  ·have hk3:k=s.size:=by omega
   have hlt9:decide ((k:Int)<(s.size:Int))=false:=decide_eq_false (by omega)
   have hfr2:(fr:Int)≤(s.size:Int):=by omega
   have hend:=Zea c s ps fr
   rw[← hk3,HT.o,hk3] at hend
   have HE:=Hd hend
   clear hend hk3
   go_wp2_with (at_builtin;refine Zx rfl (.tmp 38) (.tmp 42) 23 rfl _ 16 Tryz.underlying23 Zn rfl m ca rfl HO.o _ rfl rfl HL5.o hm9 (by decide) hz ?_)
   intro g4 c4 w4 ha4
   have hown4:=ha4.own
   rw[show ps.map Value.string++[Value.string (s.extract fr s.size)]=R.map Value.string from by rw[HE.o,List.map_append];rfl] at hown4
   have hbel4:Below w.heap.size w w4:=hbel.trans ha4.bel
   have hlR:R.length=m+1:=by rw[HE.o,List.length_append,HM.o];rfl
   have HO4:=Hd hown4;have HLR:=Hd hlR
   clear ha4 hown4 hlR
   go_wp2_with fail
   go_ret
   exact⟨g4,c4,by rw[HLR.o];rfl,by rw[HLR.o];exact HO4.o,hbel4⟩
end Go.Proofs.YtocbgldilgemoaaGreatDoor
namespace Go.Proofs.YtocbgldilgemoaaGreatDoor
open Go.RowKit Go.Sort
set_option linter.unusedVariables false
theorem YE (enc:Int→Value) (w:World) (g off:Nat) (d:Array Int) (k:Nat):(putRow enc w g off d).heap[k]? = if g=k then (w.heap[k]?).map (onCells (putCells enc off d)) else w.heap[k]?:=by
 unfold putRow mapBlock
 simp only[Array.getElem?_modify]
theorem ZhC (d:Array Int) (cur:Array Value) (h:d.size≤cur.size):(putCells (Value.int .i64) 0 d cur).toList.take d.size=d.toList.map (Value.int .i64):=by
 apply List.ext_getElem?
 intro j
 rw[List.getElem?_take,List.getElem?_map]
 by_cases hj:j<d.size
 ·rw[if_pos hj]
  have hc:j<cur.size:=by omega
  simp only[putCells,Array.getElem?_toList,Array.getElem?_mapIdx]
  rw[Array.getElem?_eq_getElem hc,Array.getElem?_eq_getElem hj]
  simp only[Option.map_some]
  rw[if_pos ⟨Nat.zero_le _,by omega⟩,Nat.sub_zero,getElem!_pos d j hj]
 ·rw[if_neg hj,Array.getElem?_toList,Array.getElem?_eq_none (by omega)];rfl
theorem Own.rowI {w:World} {B g n c:Nat} {T:TypeId} {xs:List Value} (h:Own w B T (.slice (some ⟨g,0,none⟩) n c) xs) (hx:xs.length=n) (d:Array Int) (hd:d.size=n) (q:Nat) (os:Array Obj) :
  Own (grow (putRow (Value.int .i64) (Sort.ahead w q) g 0 d) os) B T (.slice (some ⟨g,0,none⟩) n c) (d.toList.map (Value.int .i64))∧Below B w (grow (putRow (Value.int .i64) (Sort.ahead w q) g 0 d) os):=by
 have hlt:=World.ownsRow.lt h g rfl
 have hsz:(putRow (Value.int .i64) (Sort.ahead w q) g 0 d).heap.size=w.heap.size:=by
  unfold putRow mapBlock;simp[Sort.ahead]
 have hblk:∀ k,k<w.heap.size→(grow (putRow (Value.int .i64) (Sort.ahead w q) g 0 d) os).heap[k]? = (putRow (Value.int .i64) (Sort.ahead w q) g 0 d).heap[k]?:=fun k hk=>heap_grow_old _ os (by rw[hsz];exact hk)
 subst hx
 refine⟨?_,⟨rfl,rfl,rfl,by simp only[grow,Array.size_append];rw[hsz];omega,fun k hk=>?_⟩⟩
 ·rcases h.2 with ⟨h0,_⟩|⟨g',cap,cur,hv,hB,hg,hn,hm,hcs,ht⟩
  ·cases h0
  ·injection hv with e1 e2 e3
   injection e1 with e1
   injection e1 with e1
   subst e1 e3
   have hdl:(d.toList.map (Value.int .i64)).length=xs.length:=by rw[List.length_map,Array.length_toList,hd]
   refine⟨by rw[Nat.mul_one],.inr ⟨g,c,putCells (Value.int .i64) 0 d cur,by rw[hdl],hB,?_,by rw[hdl];exact hn,hm,?_,?_⟩⟩
   ·rw[hblk g hlt.2,YE,if_pos rfl]
    have hg':(Sort.ahead w q).heap[g]? = some (.cells cur T (0,0)):=hg
    rw[hg'];rfl
   ·simp only[putCells,Array.size_mapIdx];exact hcs
   ·rw[hdl,Nat.mul_one,← hd]
    exact ZhC d cur (by rw[hd,hcs];omega)
 ·rw[hblk k (by omega),YE,if_neg (by omega)];rfl
theorem W3 {w:World} {B g c:Nat} {T:TypeId} {zs:List Int} (h:Own w B T (.slice (some ⟨g,0,none⟩) zs.length c) (zs.map (Value.int .i64))):Holds (Value.int .i64) w g 0 zs.toArray:=fun j hj=>by
 have hj':j<zs.length:=by simpa using hj
 have h3:=h
 unfold Own at h3
 rw[List.length_map] at h3
 refine⟨?_,?_⟩
 ·rw[Nat.zero_add,World.ownsRow.cellAt h3 j (by omega),List.getElem?_map,List.getElem?_eq_getElem hj',getElem!_pos _ j hj];simp
 ·exact World.ownsRow.frozenAt h3 _
theorem Own.pre {w:World} {B g n m c:Nat} {T:TypeId} {xs:List Value} (h:Own w B T (.slice (some ⟨g,0,none⟩) n c) xs) (hx:xs.length=n) (hm:m≤n):Own w B T (.slice (some ⟨g,0,none⟩) m c) (xs.take m):=by
 subst hx
 have hl:(xs.take m).length=m:=by rw[List.length_take];omega
 rcases h.2 with ⟨h0,_⟩|⟨g',cap,cur,hv,hB,hg,hn,hmx,hcs,ht⟩
 ·cases h0
 ·injection hv with e1 e2 e3
  injection e1 with e1
  injection e1 with e1
  subst e1 e3
  refine⟨by rw[Nat.mul_one],.inr ⟨g,c,cur,by rw[hl],hB,hg,by rw[hl];exact Nat.le_trans hm hn,hmx,hcs,?_⟩⟩
  rw[hl,Nat.mul_one,← ht,Nat.mul_one,List.take_take,Nat.min_eq_left (by omega)]
theorem Za4 (l:List Int) (A:Option Addr) (n c B:Nat) (w:World) (hn:l.length=n) (hl:n≤1000000) (h:Own w B 3 (.slice A n c) (l.map (Value.int .i64))) :
  Calls Tryz.prog 216 #[.slice A n c] w fun e w'=>e=.returned (.tuple #[])∧Own w' B 3 (.slice A n c) ((QX l).map (Value.int .i64))∧Below B w w':=by
 subst hn
 by_cases h0:l.length=0
 ·obtain rfl:=List.eq_nil_of_length_eq_zero h0
  have hs0:QX []=[]:=by simp[QX]
  rw[hs0]
  refine (Tryz.slices_Sort_int_none A c w).mono ?_
  rintro e w' ⟨rfl,rfl⟩
  exact⟨rfl,h,Below.refl _ _⟩
 ·obtain⟨g,rfl⟩:=Vz h (by omega)
  refine (Tryz.slices_Sort_int g 0 c l w (W3 h) (World.ownsRow.lt h g rfl).2 (by omega)).mono ?_
  rintro e w' ⟨rfl,q,os,rfl⟩
  have hr:=h.rowI (by rw[List.length_map]) (QX l).toArray (by rw[List.size_toArray,Js]) q os
  exact⟨rfl,hr.1,hr.2⟩
theorem YF (l:List Int) (A:Option Addr) (n c B:Nat) (w:World) (hn:l.length=n) (hl:n≤1000000) (h:Own w B 3 (.slice A n c) ((QX l).map (Value.int .i64))) :
  Calls Tryz.prog 217 #[.slice A n c] w fun e w'=>e=.returned (.slice A (Vn l).length c)∧Own w' B 3 (.slice A (Vn l).length c) ((Vn l).map (Value.int .i64))∧Below B w w':=by
 subst hn
 by_cases h0:l.length=0
 ·obtain rfl:=List.eq_nil_of_length_eq_zero h0
  have hs0:QX []=[]:=by simp[QX]
  rw[hs0] at h
  rw[Zdm]
  refine (Tryz.slices_Compact_int_empty A c w).mono ?_
  rintro e w' ⟨rfl,rfl⟩
  exact⟨rfl,h,Below.refl _ _⟩
 ·obtain⟨g,rfl⟩:=Vz h (by omega)
  have h1:Own w B 3 (.slice (some ⟨g,0,none⟩) (QX l).length c) ((QX l).map (Value.int .i64)):=by rw[Js];exact h
  obtain⟨A',c',hv,hc1,hc2,_⟩:=h1.shape
  injection hv with e1 e2 e3
  subst e3
  rw[List.length_map] at hc1
  have hc:=Tryz.slices_Compact_int g 0 c (QX l) w (W3 h1) (by rw[Js];omega) hc1
  rw[Js] at hc
  refine hc.mono ?_
  rintro e w' ⟨rfl,q,rfl⟩
  have hcl:=Lib.compact_length_le (QX l)
  rw[Js] at hcl
  have hr:=h.rowI (by rw[List.length_map,Js]) (Lib.compact (QX l)++List.replicate (l.length - (Lib.compact (QX l)).length) 0).toArray (by simp;omega) q #[]
  rw[grow_empty] at hr
  refine⟨rfl,?_,hr.2⟩
  have hp:=hr.1.pre (m:=(Vn l).length) (by simp;omega) hcl
  have hp2:List.take (Vn l).length (Lib.compact (QX l)++List.replicate (l.length - (Lib.compact (QX l)).length) 0)=Vn l:=List.take_left' rfl
  rw[← List.map_take,List.toList_toArray,hp2] at hp
  exact hp
end Go.Proofs.YtocbgldilgemoaaGreatDoor
namespace Go.Proofs.YtocbgldilgemoaaGreatDoor
open Go.RowKit Go.ChangeShapes Go.WideShapes
set_option linter.unusedVariables false
section
variable {H:Type} {enc:TypeId × Value→H} {W:World} {r:Reach} {b0:Nat} {v:Value} {d:DataW H} {ps:List MemPlace}
set_option maxRecDepth 100000 in
theorem ZhF (hv:Value.okWide Tryz.prog W r b0 40 v) (h:DataW.Trod enc Tryz.prog W 0 (fun _=>true) true 40 v d ps) (hlt:∀ x∈ps,x.block<W.heap.size) :
  ∃ A n c zs s,v=.agg #[.slice A n c,.string s]∧StrsIn W A n c zs∧s.size≤maxLen:=by
 obtain⟨v0,v1,y0,y1,m,rfl,_,hp,h0,h1⟩:=Joins.open_agg2 Tryz.underlying40 (by kernel_rfl) (by kernel_rfl) hv h
 obtain⟨s,hs,_,hsz⟩:=DataW.trod_string Tryz.underlying9 h1
 obtain⟨z0,k,hy,_,hz⟩:=trod_struct1 Tryz.underlying38 h0
 have hc1:Tryz.prog.cellsOf 23=1:=by kernel_rfl
 have hz':DataW.trod enc Tryz.prog W 0 (fun _=>true) true k 23 [v0]=some z0:=by
  have h2:=hz
  simp only[List.drop_zero,hc1,List.take_succ_cons,List.take_zero] at h2
  exact h2
 have hs1:v1=.string s:=by simpa using hs
 subst hs1
 have hpz:∀ x∈z0.2,x.block<W.heap.size:=fun x hx=>hlt x (by rw[hp];exact List.mem_append_left _ (by rw[hy];exact hx))
 rcases open_strings Tryz.underlying23 Tryz.underlying9 (by kernel_rfl) hz' with ⟨hcs,_⟩|⟨x,l,cap,zs,hcs,_⟩
 ·have he:v0=.slice none 0 0:=by simpa using hcs
  subst he
  obtain⟨zs,hzs⟩:=ZfW (W:=W) (A:=none) (n:=0) (c:=0) Tryz.underlying23 Tryz.underlying9 (by kernel_rfl) ⟨k,hz'⟩ hpz
  exact⟨none,0,0,zs,s,rfl,hzs,hsz⟩
 ·have he:v0=.slice (some x) l cap:=by simpa using hcs
  subst he
  obtain⟨zs,hzs⟩:=ZfW (W:=W) (A:=some x) (n:=l) (c:=cap) Tryz.underlying23 Tryz.underlying9 (by kernel_rfl) ⟨k,hz'⟩ hpz
  exact⟨some x,l,cap,zs,s,rfl,hzs,hsz⟩
end
theorem Zlp (ss:List ByteArray) (l:Int) (h0:0≤l):szS ss l≤l∧-1≤szS ss l:=by
 have hgo:∀ (ss:List ByteArray) (l:Int),0≤l→Zat ss l≤l∧-1≤Zat ss l:=by
  intro ss
  induction ss with
  | nil=>intro l h;exact⟨Int.le_refl _,by simp only[Zat];omega⟩
  | cons s ss ih =>
   intro l h
   simp only[Zat]
   split
   ·omega
   ·have:=ih (l - s.size) (by omega)
    omega
 unfold szS
 split
 ·omega
 ·have:=hgo ss (l - ss.length) (by omega)
  omega
section
variable {H:Type} {enc:TypeId × Value→H} {W:World} {r:Reach} {b0:Nat} {v:Value} {d:DataW H} {ps:List MemPlace}
end
theorem ZcE (zs:List ByteArray) (A:Option Addr) (n c:Nat) (w:World) (h:StrsIn w A n c zs) :
  Calls Tryz.prog 38 #[.agg #[.slice A n c],.int .i64 1048576] w fun e w'=>∃ r:Int,e=.returned (.int .i64 r)∧(0≤r→n≤1048576)∧r≤1048576∧-1≤r∧Below w.heap.size w w':=by
 have hl:=h.1
 have hle:=Zlp zs 1048576 (by omega)
 have hln:¬ szS zs 1048576<0→(zs.length:Int)≤1048576:=ZkF
 rw[hl] at hln
 have HH:=Hd (h.later ((Below.refl _ w).alloc nlr (.cells #[.slice A n c] 38)))
 clear h hl
 have hc:=Zau zs A n c 1048576 (w.alloc (.cells #[.slice A n c] 38)) (by omega) (by omega) HH.o
 obtain⟨r,hr⟩:∃ r,szS zs 1048576=r:=⟨_,rfl⟩
 rw[hr] at hle hln hc
 have HC:=Hd hc
 have h1:=hle.1
 have h2:=hle.2
 have HLN:=Hd hln
 clear hle hln hc hr
 go_enter Tryz.func38,Tryz.ntmps38
 go_wp2_with fail
 refine HC.o.mono ?_
 rintro e w1 ⟨rfl,d1⟩
 have b1:Below w.heap.size w w1:=((Below.refl _ _).alloc nlr _).trans d1.below
 by_cases hz:r<0
 ·go_wp2_with fail
  go_ret
  exact⟨-1,rfl,fun h=>by omega,by omega,by omega,b1⟩
 ·go_wp2_with fail
  go_ret
  exact⟨r,rfl,fun h=>by have:=HLN.o hz;omega,h1,h2,b1⟩
theorem ZcF (zs:List ByteArray) (s:ByteArray) (A:Option Addr) (n c:Nat) (w:World) (hs:s.size≤maxLen) (h:StrsIn w A n c zs) :
  Calls Tryz.prog 14 #[.agg #[.slice A n c,.string s],.int .i64 1048576] w fun e w'=>∃ r:Int,e=.returned (.int .i64 r)∧(0≤r→n≤1048576∧s.size≤1048576)∧Below w.heap.size w w':=by
 have hs2:=hs
 unfold maxLen at hs2
 have HH:=Hd (h.later ((Below.refl _ w).alloc nlr (.cells #[.slice A n c,.string s] 40)))
 clear h
 go_enter Tryz.func14,Tryz.ntmps14
 go_wp2_with fail
 refine (ZcE zs A n c _ HH.o).mono ?_
 rintro e w1 ⟨r,rfl,hr1,hr2,hr3,b1⟩
 have b2:Below w.heap.size w w1:=((Below.refl _ _).alloc nlr _).trans (b1.mono (by simp))
 have hcell:w1.cell? ⟨w.heap.size,1,none⟩=some (.string s):=by
  rw[b1.cell (p:=⟨w.heap.size,1,none⟩) (by simp)];simp
 have HR1:=Hd hr1
 clear hr1 b1
 by_cases hz:r<0
 ·go_wp2_with fail
  go_ret
  exact⟨-1,rfl,fun h=>by omega,b2⟩
 ·have hn:=HR1.o (by omega)
  by_cases hz2:r - s.size<0
  ·go_wp2_with fail
   go_ret
   exact⟨-1,rfl,fun h=>by omega,b2⟩
  ·go_wp2_with fail
   go_ret
   exact⟨r - s.size,rfl,fun h=>by omega,b2⟩
theorem ZcG (zs:List ByteArray) (A:Option Addr) (n c:Nat) (w:World) (hn:n≤1048576) (h:StrsIn w A n c zs) :
  Calls Tryz.prog 45 #[.agg #[.slice A n c]] w fun e w'=>∃ A' c',e=.returned (.agg #[.slice A' n c'])∧Own w' w.heap.size 9 (.slice A' n c') (zs.map Value.string)∧Below w.heap.size w w':=by
 have hbx:=ZhJ w (.cells #[.slice A n c] 38) #[.slice none 0 0] #[.slice none 0 0] 26 26
 have hz3:(((w.alloc (.cells #[.slice A n c] 38)).alloc (.cells #[.slice none 0 0] 26)).alloc (.cells #[.slice none 0 0] 26)).heap.size=w.heap.size+1+1+1:=by simp
 have hb3:Below w.heap.size w (((w.alloc (.cells #[.slice A n c] 38)).alloc (.cells #[.slice none 0 0] 26)).alloc (.cells #[.slice none 0 0] 26)):=(((Below.refl _ w).alloc nlr _).alloc (by simp) _).alloc (by simp;omega) _
 have hcall:=Zav zs A n c _ hn (h.later hb3)
 rw[hz3] at hcall
 have HC:=Hd hcall;have HBX:=Hd hbx;have HB3:=Hd hb3;have HZ3:=Hd hz3
 clear hcall hbx hb3 h hz3
 go_enter Tryz.func45,Tryz.ntmps45
 go_wp2_with fail
 refine HC.o.mono ?_
 rintro e w1 ⟨A',c',rfl,hown,b1⟩
 have hs1:=b1.size
 have q1:w1.heap[w.heap.size+1]? = some (.cells #[.slice none 0 0] 26 (0,0)):=(b1.block _ (Nat.lt_succ_of_lt (Nat.lt_succ_self _))).trans HBX.o.1
 have q2:w1.heap[w.heap.size+1+1]? = some (.cells #[.slice none 0 0] 26 (0,0)):=(b1.block _ (Nat.lt_succ_self _)).trans HBX.o.2
 have k1:w1.cell? ⟨w.heap.size+1,0,none⟩=some (.slice none 0 0):=cell_of_row _ _ 0 _ _ (0,0) q1
 have k2:w1.cell? ⟨w.heap.size+1+1,0,none⟩=some (.slice none 0 0):=cell_of_row _ _ 0 _ _ (0,0) q2
 have f1:w1.frozen? ⟨w.heap.size+1,0,none⟩=false:=frozen_of_row _ _ 0 _ _ q1
 have f2:w1.frozen? ⟨w.heap.size+1+1,0,none⟩=false:=frozen_of_row _ _ 0 _ _ q2
 have bw1:Below w.heap.size w w1:=HB3.o.trans (b1.mono (by omega))
 have q3:=Hd (Zg (k:=0) (Q9 (g':=w.heap.size+1+1) (k:=0) q1 (by omega) (.slice A' n c')) (.slice A' n c'))
 have HO:=Hd (((hown.far_set (g:=w.heap.size+1+1) (k:=0) (Nat.lt_succ_self _) (.slice A' n c')).far_set (g:=w.heap.size+1) (k:=0) (by omega) (.slice A' n c')).lower (B':=w.heap.size) (by omega))
 clear hown b1 q1 q2
 go_wp2_with fail
 refine bodyPost_ret (v:=.agg #[.slice A' n c']) (results_cell_row rfl _ _ (w.heap.size+1) 26 _ (0,0) _ rfl q3.out Tryz.underlying26 rfl (by kernel_rfl)) rfl ⟨A',c',rfl,HO.o,?_⟩
 exact (bw1.setCell (by show w.heap.size≤w.heap.size+1+1;omega) _).setCell (by show w.heap.size≤w.heap.size+1;omega) _
theorem ZcH (zs:List ByteArray) (s:ByteArray) (A:Option Addr) (n c:Nat) (w:World) (hn:n≤1048576) (h:StrsIn w A n c zs) :
  Calls Tryz.prog 16 #[.agg #[.slice A n c,.string s]] w fun e w'=>∃ A' c',e=.returned (.agg #[.slice A' n c',.string s])∧Own w' w.heap.size 9 (.slice A' n c') (zs.map Value.string)∧Below w.heap.size w w':=by
 have hbx:=ZhJ w (.cells #[.slice A n c,.string s] 40) #[.slice none 0 0,.string ⟨#[]⟩] #[.slice none 0 0,.string ⟨#[]⟩] 28 28
 have hbf:=Zbg w #[.slice A n c,.string s] 40 (.cells #[.slice none 0 0,.string ⟨#[]⟩] 28) (.cells #[.slice none 0 0,.string ⟨#[]⟩] 28)
 have hz3:(((w.alloc (.cells #[.slice A n c,.string s] 40)).alloc (.cells #[.slice none 0 0,.string ⟨#[]⟩] 28)).alloc (.cells #[.slice none 0 0,.string ⟨#[]⟩] 28)).heap.size=w.heap.size+1+1+1:=by simp
 have hb3:Below w.heap.size w (((w.alloc (.cells #[.slice A n c,.string s] 40)).alloc (.cells #[.slice none 0 0,.string ⟨#[]⟩] 28)).alloc (.cells #[.slice none 0 0,.string ⟨#[]⟩] 28)):=(((Below.refl _ w).alloc nlr _).alloc (by simp) _).alloc (by simp;omega) _
 have hcall:=ZcG zs A n c _ hn (h.later hb3)
 rw[hz3] at hcall
 have HC:=Hd hcall;have HBX:=Hd hbx;have HBF:=Hd hbf;have HB3:=Hd hb3;have HZ3:=Hd hz3
 clear hcall hbx hbf hb3 h hz3
 go_enter Tryz.func16,Tryz.ntmps16
 go_wp2_with fail
 refine HC.o.mono ?_
 rintro e w1 ⟨A',c',rfl,hown,b1⟩
 have hs1:=b1.size
 have q0:w1.heap[w.heap.size]? = some (.cells #[.slice A n c,.string s] 40 (0,0)):=(b1.block _ (by omega)).trans HBF.o
 have q1:w1.heap[w.heap.size+1]? = some (.cells #[.slice none 0 0,.string ⟨#[]⟩] 28 (0,0)):=(b1.block _ (Nat.lt_succ_of_lt (Nat.lt_succ_self _))).trans HBX.o.1
 have q2:w1.heap[w.heap.size+1+1]? = some (.cells #[.slice none 0 0,.string ⟨#[]⟩] 28 (0,0)):=(b1.block _ (Nat.lt_succ_self _)).trans HBX.o.2
 have k0:w1.cell? ⟨w.heap.size,1,none⟩=some (.string s):=cell_of_row _ _ 1 _ _ (0,0) q0
 have k1:w1.cell? ⟨w.heap.size+1,0,none⟩=some (.slice none 0 0):=cell_of_row _ _ 0 _ _ (0,0) q1
 have k1b:w1.cell? ⟨w.heap.size+1,1,none⟩=some (.string ⟨#[]⟩):=cell_of_row _ _ 1 _ _ (0,0) q1
 have k2:w1.cell? ⟨w.heap.size+1+1,0,none⟩=some (.slice none 0 0):=cell_of_row _ _ 0 _ _ (0,0) q2
 have k2b:w1.cell? ⟨w.heap.size+1+1,1,none⟩=some (.string ⟨#[]⟩):=cell_of_row _ _ 1 _ _ (0,0) q2
 have f1:w1.frozen? ⟨w.heap.size+1,0,none⟩=false:=frozen_of_row _ _ 0 _ _ q1
 have f1b:w1.frozen? ⟨w.heap.size+1,1,none⟩=false:=frozen_of_row _ _ 1 _ _ q1
 have f2:w1.frozen? ⟨w.heap.size+1+1,0,none⟩=false:=frozen_of_row _ _ 0 _ _ q2
 have f2b:w1.frozen? ⟨w.heap.size+1+1,1,none⟩=false:=frozen_of_row _ _ 1 _ _ q2
 have bw1:Below w.heap.size w w1:=HB3.o.trans (b1.mono (by omega))
 have HOWN:=Hd hown
 have HQ1:=Hd q1
 clear hown b1 q0 q1 q2
 go_wp2_with fail
 have e1:w.heap.size+1<w.heap.size+1+1+1:=by omega
 have e2:w.heap.size+1+1<w.heap.size+1+1+1:=by omega
 have q3:=Zg (k:=1) (Zg (k:=0) (Q9 (g':=w.heap.size+1+1) (k:=1) (Q9 (g':=w.heap.size+1+1) (k:=0) HQ1.o (by omega) (.slice A' n c')) (by omega) (.string s)) (.slice A' n c')) (.string s)
 have ho:=((((HOWN.o.far_set (g:=w.heap.size+1+1) (k:=0) e2 (.slice A' n c')).far_set (g:=w.heap.size+1+1) (k:=1) e2 (.string s)).far_set (g:=w.heap.size+1) (k:=0) e1 (.slice A' n c')).far_set (g:=w.heap.size+1) (k:=1) e1 (.string s)).lower (B':=w.heap.size) (by omega)
 refine bodyPost_ret (v:=.agg #[.slice A' n c',.string s]) (results_cell_row rfl _ _ (w.heap.size+1) 28 _ (0,0) _ rfl q3 Tryz.underlying28 rfl (by kernel_rfl)) rfl ⟨A',c',rfl,ho,?_⟩
 have g1:w.heap.size≤w.heap.size+1:=by omega
 have g2:w.heap.size≤w.heap.size+1+1:=by omega
 exact (((bw1.setCell g2 _).setCell g2 _).setCell g1 _).setCell g1 _
theorem Zbe (zs:List ByteArray) (A A':Option Addr) (c c' B B':Nat) (w:World) (hB:B≤w.heap.size) (hB':B'≤w.heap.size) (hx:Rds w B A (zs.map Value.string)) (hy:Rds w B' A' (zs.map Value.string)) (hn:zs.length≤4294967296) :
  Calls Tryz.prog 46 #[.agg #[.slice A zs.length c],.agg #[.slice A' zs.length c']] w fun e w'=>e=.returned (.bool true)∧Below w.heap.size w w':=by
 have b2:Below w.heap.size w ((w.alloc (.cells #[.slice A zs.length c] 26)).alloc (.cells #[.slice A' zs.length c'] 26)):=((Below.refl _ w).alloc nlr _).alloc (by simp) _
 have hc:=Ws zs A A' c c' B B' _ (hx.below b2 hB) (hy.below b2 hB') hn
 have HC:=Hd hc;have HB2:=Hd b2
 clear hc b2 hx hy
 go_enter Tryz.func46,Tryz.ntmps46
 go_wp2_with fail
 refine HC.o.mono ?_
 rintro e w1 ⟨rfl,d1⟩
 go_wp2_with fail
 go_ret
 exact⟨rfl,HB2.o.trans d1.below⟩
theorem VZ (zs:List ByteArray) (s:ByteArray) (A A':Option Addr) (c c' B B':Nat) (w:World) (hB:B≤w.heap.size) (hB':B'≤w.heap.size) (hx:Rds w B A (zs.map Value.string)) (hy:Rds w B' A' (zs.map Value.string)) (hn:zs.length≤4294967296) :
  Calls Tryz.prog 17 #[.agg #[.slice A zs.length c,.string s],.agg #[.slice A' zs.length c',.string s]] w fun e w'=>e=.returned (.bool true)∧Below w.heap.size w w':=by
 have b2:Below w.heap.size w ((w.alloc (.cells #[.slice A zs.length c,.string s] 28)).alloc (.cells #[.slice A' zs.length c',.string s] 28)):=((Below.refl _ w).alloc nlr _).alloc (by simp) _
 have hz2:((w.alloc (.cells #[.slice A zs.length c,.string s] 28)).alloc (.cells #[.slice A' zs.length c',.string s] 28)).heap.size=w.heap.size+1+1:=by simp
 have hc:=Zbe zs A A' c c' B B' _ (by rw[hz2];omega) (by rw[hz2];omega) (hx.below b2 hB) (hy.below b2 hB') hn
 have h0:=(heap_alloc_old (w.alloc (.cells #[.slice A zs.length c,.string s] 28)) (.cells #[.slice A' zs.length c',.string s] 28) (by simp)).trans (heap_alloc_new w (.cells #[.slice A zs.length c,.string s] 28))
 have h1:=heap_alloc_new (w.alloc (.cells #[.slice A zs.length c,.string s] 28)) (.cells #[.slice A' zs.length c',.string s] 28)
 rw[show (w.alloc (.cells #[.slice A zs.length c,.string s] 28)).heap.size=w.heap.size+1 from by simp] at h1
 rw[hz2] at hc
 have hee:(s.toList==s.toList)=true:=by simp
 have HC:=Hd hc;have HB2:=Hd b2;have H0:=Hd h0;have H1:=Hd h1
 clear hc b2 hx hy h0 h1 hz2
 go_enter Tryz.func17,Tryz.ntmps17
 go_wp2_with fail
 refine HC.o.mono ?_
 rintro e w1 ⟨rfl,b1⟩
 have q0:=(b1.block w.heap.size (by omega)).trans H0.o
 have q1:=(b1.block (w.heap.size+1) (by omega)).trans H1.o
 have k0:w1.cell? ⟨w.heap.size,1,none⟩=some (.string s):=cell_of_row _ _ 1 _ _ (0,0) q0
 have k1:w1.cell? ⟨w.heap.size+1,1,none⟩=some (.string s):=cell_of_row _ _ 1 _ _ (0,0) q1
 clear q0 q1
 have bw:Below w.heap.size w w1:=HB2.o.trans (b1.mono (by omega))
 clear b1
 go_wp2_with fail
 go_ret
 exact⟨rfl,bw⟩
end Go.Proofs.YtocbgldilgemoaaGreatDoor
namespace Go.Proofs.YtocbgldilgemoaaGreatDoor
open Go.RowKit
set_option maxRecDepth 4000
set_option maxHeartbeats 2000000
set_option linter.unusedVariables false
def cB (y:ByteArray):Nat:=Lib.countByte y.data.toList 98
theorem Zma (y:ByteArray):cB y=(L y).count 98:=rfl
theorem ZhG (y:ByteArray):cB y≤y.size:=by
 have:=List.count_le_length (a:=(98:UInt8)) (l:=L y)
 rw[Zj] at this
 exact this
theorem Zeh (s:ByteArray) (hs:s.size≤400) (w:World) :
  Calls Tryz.prog 231 #[.string s,.int .u8 98] w fun e w'=>e=.returned (.int .i64 (cB s))∧w=w':=by
 obtain⟨v,hv⟩:∃ v,cB s=v:=⟨_,rfl⟩
 rw[hv]
 have HV:=Hd hv
 clear hv
 go_enter Tryz.func231,Tryz.ntmps231
 go_wp2_with fail
 go_loop [5,6] (fun a i=>∃ k m:Nat,k≤s.size∧m≤k∧a=.int .i64 m∧i=.int .i64 k∧m+((L s).drop k).count 98=v) (fun _ i=>s.size - (intOf i).toNat)
 case atStart=>exact⟨0,0,by omega,by omega,rfl,rfl,by rw[← HV.o,Zma];simp⟩
 case round =>
  obtain⟨k,m,hk,hm,rfl,rfl,hg⟩:=hrel
  have HG:=Hd hg
  clear hg
  by_cases hlt:k<s.size
  ·have hlti:(k:Int)<(s.size:Int):=by omega
   have hd:=ZS s k hlt
   obtain⟨x,hx⟩:∃ x,s[k]'hlt=x:=⟨_,rfl⟩
   rw[hx] at hd
   have HD:=Hd hd
   clear hd
   by_cases hc:x=98
   ·subst hc
    go_wp2_with fail
    go_round
    case rel=>exact⟨k+1,m+1,by omega,by omega,by go_num,by go_num,by rw[← HG.o,HD.o,List.count_cons_self];omega⟩
    case measure=>simp[intOf];omega
   ·have hne:((x.toNat:Int)==98)=false:=by
     have:x.toNat≠98:=fun h=>hc (UInt8.toNat_inj.1 h)
     simp;omega
    have hn2:¬ (x.toNat:Int)=98:=by simpa using hne
    have HC:=Hd hc
    clear hc
    go_wp2_with fail
    go_round
    case rel=>exact⟨k+1,m,by omega,by omega,rfl,by go_num,by rw[← HG.o,HD.o,List.count_cons_of_ne HC.o]⟩
    case measure=>simp[intOf];omega
  ·have hke:m=v:=by rw[← HG.o,QP s k hlt];rfl
   subst hke
   go_wp2_with fail
   go_ret
   exact⟨rfl,rfl⟩
def spr (s:ByteArray) (n:Nat):Nat→Nat→Nat→Nat→Nat × Nat
 | 0,_,lo,hi=>(lo,hi)
 | f+1,i,lo,hi=>spr s n f (i+1) (min lo (cB (s.extract i (i+n)))) (max hi (cB (s.extract i (i+n))))
def sp (s:ByteArray) (n:Nat):Nat × Nat:=spr s n (s.size+1 - n) 0 n 0
theorem Zei (s:ByteArray) (n:Nat):∀ f i lo hi,lo≤1000→hi≤400→s.size≤400→(spr s n f i lo hi).1≤1000∧(spr s n f i lo hi).2≤400
 | 0,i,lo,hi,h1,h2,h3=>⟨h1,h2⟩
 | f+1,i,lo,hi,h1,h2,h3=>by
  have h4:=ZhG (s.extract i (i+n))
  have h5:(s.extract i (i+n)).size≤400:=by rw[ByteArray.size_extract];omega
  exact Zei s n f (i+1) _ _ (by omega) (by omega) h3
def Zlq (s:ByteArray):Prop:=∀ n,1≤n→n≤s.size→¬ (sp s n).1+1<(sp s n).2
open Classical in
noncomputable def VF (s:ByteArray):Bool:=Xo (L s)&&decide (Zlq s)
theorem Zkc (y:ByteArray) (w:World):Calls Tryz.prog 144 #[.string y,.string ⟨#[98]⟩] w fun e w'=>e=.returned (.int .i64 (cB y))∧w=w' :=
 (Tryz.strings_Count_one y 98 w).mono fun e w' h=>⟨h.1,h.2.symm⟩
theorem Zkd (s:ByteArray) (n lo hi:Nat) (h4:s.size≤400) (hn:n≤s.size) (hv:sp s n=(lo,hi)) (w:World) :
  Calls Tryz.prog 252 #[.string s,.int .i64 n] w fun e w'=>e=.returned (.tuple #[.int .i64 lo,.int .i64 hi])∧w=w':=by
 have HV:=Hd hv
 clear hv
 go_enter Tryz.func252,Tryz.ntmps252
 go_wp2_with fail
 go_loop [6,7,8,9] (fun a b i _=>∃ k l h:Nat,k+n≤s.size+1∧l≤1000∧h≤400∧a=.int .i64 l∧b=.int .i64 h∧i=.int .i64 k∧spr s n (s.size+1 - n - k) k l h=(lo,hi)) (fun _ _ i _=>s.size+2 - (intOf i).toNat)
 case atStart=>exact⟨0,n,0,by omega,by omega,by omega,rfl,rfl,rfl,HV.o⟩
 case round =>
  obtain⟨k,l,h,hk,hl,hh,rfl,rfl,rfl,hg⟩:=hrel
  by_cases hlt:k+n≤s.size
  ·obtain⟨q,hq⟩:∃ q,k+n=q:=⟨_,rfl⟩
   rw[show s.size+1 - n - k=(s.size+1 - n - (k+1))+1 by omega,spr,hq] at hg
   have hcl:=ZhG (s.extract k q)
   have hz:(s.extract k q).size≤400:=by rw[ByteArray.size_extract];omega
   obtain⟨c,hc⟩:∃ c,cB (s.extract k q)=c:=⟨_,rfl⟩
   rw[hc] at hg hcl
   have hct:=fun w=>Zkc (s.extract k q) w
   rw[hc] at hct
   have HCT:=Hd hct;have HG:=Hd hg
   have hc4:c≤400:=by omega
   have hq2:(k:Int)+(n:Int)=(q:Int):=by omega
   have hqs:(q:Int)≤(s.size:Int):=by omega
   have hkq:(k:Int)≤(q:Int):=by omega
   have hkn:k+n≤s.size:=hlt
   have HQ:=Hd hq
   clear hcl hz hct hg hc hq hlt
   go_wp2_with fail
   refine (HCT.o _).mono ?_
   rintro e w1 ⟨rfl,rfl⟩
   go_wp2_with fail
   go_round
   case rel=>exact⟨k+1,min l c,max h c,by omega,by omega,by omega,by go_num,by go_num,by go_num,HG.o⟩
   case measure=>simp[intOf];omega
  ·have hge:¬ (k:Int)+(n:Int)≤(s.size:Int):=by omega
   rw[show s.size+1 - n - k=0 by omega,spr] at hg
   injection hg with h1 h2
   subst h1
   subst h2
   go_wp2_with fail
   go_ret2
   exact⟨rfl,rfl⟩
theorem Zke (s:ByteArray) (n lo hi:Nat) (h4:s.size≤400) (hn:n≤s.size) (hv:sp s n=(lo,hi)) (w:World) :
  Calls Tryz.prog 229 #[.string s,.int .i64 n] w fun e w'=>e=.returned (.tuple #[.int .i64 lo,.int .i64 hi])∧w=w':=by
 have HV:=Hd hv
 clear hv
 go_enter Tryz.func229,Tryz.ntmps229
 go_wp2_with fail
 go_loop [6,7,8,9] (fun a b i _=>∃ k l h:Nat,k+n≤s.size+1∧l≤1000∧h≤400∧a=.int .i64 l∧b=.int .i64 h∧i=.int .i64 k∧spr s n (s.size+1 - n - k) k l h=(lo,hi)) (fun _ _ i _=>s.size+2 - (intOf i).toNat)
 case atStart=>exact⟨0,n,0,by omega,by omega,by omega,rfl,rfl,rfl,HV.o⟩
 case round =>
  obtain⟨k,l,h,hk,hl,hh,rfl,rfl,rfl,hg⟩:=hrel
  by_cases hlt:k+n≤s.size
  ·obtain⟨q,hq⟩:∃ q,k+n=q:=⟨_,rfl⟩
   rw[show s.size+1 - n - k=(s.size+1 - n - (k+1))+1 by omega,spr,hq] at hg
   have hcl:=ZhG (s.extract k q)
   have hz:(s.extract k q).size≤400:=by rw[ByteArray.size_extract];omega
   obtain⟨c,hc⟩:∃ c,cB (s.extract k q)=c:=⟨_,rfl⟩
   rw[hc] at hg hcl
   have hct:=fun w=>Zeh (s.extract k q) hz w
   rw[hc] at hct
   have HCT:=Hd hct;have HG:=Hd hg
   have hc4:c≤400:=by omega
   have hq2:(k:Int)+(n:Int)=(q:Int):=by omega
   have hqs:(q:Int)≤(s.size:Int):=by omega
   have hkq:(k:Int)≤(q:Int):=by omega
   have hkn:k+n≤s.size:=hlt
   have HQ:=Hd hq
   clear hcl hz hct hg hc hq hlt
   go_wp2_with fail
   refine (HCT.o _).mono ?_
   rintro e w1 ⟨rfl,rfl⟩
   go_wp2_with fail
   go_round
   case rel=>exact⟨k+1,min l c,max h c,by omega,by omega,by omega,by go_num,by go_num,by go_num,HG.o⟩
   case measure=>simp[intOf];omega
  ·have hge:¬ (k:Int)+(n:Int)≤(s.size:Int):=by omega
   rw[show s.size+1 - n - k=0 by omega,spr] at hg
   injection hg with h1 h2
   subst h1
   subst h2
   go_wp2_with fail
   go_ret2
   exact⟨rfl,rfl⟩
theorem Zfr {s:ByteArray} (h:Xo (L s)=false):VF s=false:=by rw[VF,h];rfl
theorem ZcI {s:ByteArray} (h:Xo (L s)=true) (h2:Zlq s):VF s=true:=by simp[VF,h,h2]
theorem ZcJ {s:ByteArray} {n:Nat} (h1:1≤n) (h2:n≤s.size) (h:(sp s n).1+1<(sp s n).2):VF s=false:=by
 have h3:¬ Zlq s:=fun hh=>hh n h1 h2 h
 simp[VF,h3]
theorem ZhH (s:ByteArray) (h0:isW (L s)=true) (w:World) :
  Calls Tryz.prog 196 #[.string s] w fun e w'=>e=.returned (.bool (VF s))∧Below w.heap.size w w':=by
 have h4:=Zb h0
 have hs9:s.size≤maxLen:=by unfold maxLen;omega
 have HC:=Hd (fun w=>Zad s hs9 w)
 obtain⟨v,hv⟩:∃ v,VF s=v:=⟨_,rfl⟩
 rw[hv]
 have HV:=Hd hv
 clear h0 hv
 cases hb:Xo (L s)
 ·rw[hb] at HC
  have hvf:v=false:=by rw[← HV.o];exact Zfr hb
  subst hvf
  clear hb
  go_enter Tryz.func196,Tryz.ntmps196
  go_wp2_with fail
  refine (HC.o _).mono ?_
  rintro e w1 ⟨rfl,b1⟩
  go_wp2_with fail
  go_ret
  exact⟨rfl,b1⟩
 ·rw[hb] at HC
  have HB:=Hd hb
  clear hb
  go_enter Tryz.func196,Tryz.ntmps196
  go_wp2_with fail
  refine (HC.o _).mono ?_
  rintro e w1 ⟨rfl,b1⟩
  go_wp2_with fail
  go_loopw [3,4,5] (fun u _ _ wr=>∃ n:Nat,1≤n∧n≤s.size+1∧u=.int .i64 n∧(∀ q,1≤q→q<n→¬ (sp s q).1+1<(sp s q).2)∧Below w.heap.size w wr) (fun u _ _ _=>s.size+2 - (intOf u).toNat)
  case atStart=>exact⟨1,by omega,by omega,rfl,fun q h1 h2=>by omega,b1⟩
  case round =>
   obtain⟨n,hn1,hn2,rfl,hg,hbel⟩:=hrel
   have HG:=Hd hg
   clear hg
   by_cases hlt:n≤s.size
   ·have hlti:(n:Int)≤(s.size:Int):=by omega
    have hle:=Zei s n (s.size+1 - n) 0 n 0 (by omega) (by omega) h4
    rw[← sp] at hle
    obtain⟨p,hp⟩:∃ p,sp s n=p:=⟨_,rfl⟩
    obtain⟨lo,hi⟩:=p
    rw[hp] at hle
    obtain⟨hlo,hhi⟩:=hle
    simp only at hlo hhi
    have HSP:=Hd (fun w=>Zkd s n lo hi h4 hlt hp w)
    by_cases hc:lo+1<hi
    ·have hvf:v=false:=by rw[← HV.o];exact ZcJ hn1 hlt (by rw[hp];exact hc)
     subst hvf
     have hc1:(1:Int)<(hi:Int) - (lo:Int):=by omega
     have hc2:(lo:Int)+1<(hi:Int):=by omega
     clear hp
     go_wp2_with fail
     refine (HSP.o _).mono ?_
     rintro e w2 ⟨rfl,rfl⟩
     go_wp2_with fail
     go_ret
     exact⟨rfl,hbel⟩
    ·have hc1:¬ (1:Int)<(hi:Int) - (lo:Int):=by omega
     have hc2:¬ (lo:Int)+1<(hi:Int):=by omega
     have HP:=Hd hp;have HCC:=Hd hc
     clear hp hc
     go_wp2_with fail
     refine (HSP.o _).mono ?_
     rintro e w2 ⟨rfl,rfl⟩
     go_wp2_with fail
     go_roundw
     case rel=>exact⟨n+1,by omega,by omega,by go_num,fun q h1 h2=>by
      rcases Nat.lt_or_ge q n with h|h
      ·exact HG.o q h1 h
      ·obtain rfl:q=n:=by omega
       rw[HP.o];exact HCC.o,hbel⟩
     case measure=>simp[intOf];omega
   ·have hge:¬ (n:Int)≤(s.size:Int):=by omega
    have hvt:v=true:=by rw[← HV.o];exact ZcI HB.o fun q h1 h2=>HG.o q h1 (by omega)
    subst hvt
    go_wp2_with fail
    go_ret
    exact⟨rfl,hbel⟩
theorem ZhI (s:ByteArray) (h0:isW (L s)=true) (w:World) :
  Calls Tryz.prog 153 #[.string s] w fun e w'=>e=.returned (.bool (VF s))∧Below w.heap.size w w':=by
 have h4:=Zb h0
 have hs9:s.size≤maxLen:=by unfold maxLen;omega
 have HC:=Hd (fun w=>Zac s hs9 w)
 obtain⟨v,hv⟩:∃ v,VF s=v:=⟨_,rfl⟩
 rw[hv]
 have HV:=Hd hv
 clear h0 hv
 cases hb:Xo (L s)
 ·rw[hb] at HC
  have hvf:v=false:=by rw[← HV.o];exact Zfr hb
  subst hvf
  clear hb
  go_enter Tryz.func153,Tryz.ntmps153
  go_wp2_with fail
  refine (HC.o _).mono ?_
  rintro e w1 ⟨rfl,rfl⟩
  go_wp2_with fail
  go_ret
  exact⟨rfl,Below.refl _ _⟩
 ·rw[hb] at HC
  have HB:=Hd hb
  clear hb
  go_enter Tryz.func153,Tryz.ntmps153
  go_wp2_with fail
  refine (HC.o _).mono ?_
  rintro e w1 ⟨rfl,rfl⟩
  go_wp2_with fail
  go_loopw [3,4,5] (fun u _ _ wr=>∃ n:Nat,1≤n∧n≤s.size+1∧u=.int .i64 n∧(∀ q,1≤q→q<n→¬ (sp s q).1+1<(sp s q).2)∧Below w.heap.size w wr) (fun u _ _ _=>s.size+2 - (intOf u).toNat)
  case atStart=>exact⟨1,by omega,by omega,rfl,fun q h1 h2=>by omega,Below.refl _ _⟩
  case round =>
   obtain⟨n,hn1,hn2,rfl,hg,hbel⟩:=hrel
   have HG:=Hd hg
   clear hg
   by_cases hlt:n≤s.size
   ·have hlti:(n:Int)≤(s.size:Int):=by omega
    have hle:=Zei s n (s.size+1 - n) 0 n 0 (by omega) (by omega) h4
    rw[← sp] at hle
    obtain⟨p,hp⟩:∃ p,sp s n=p:=⟨_,rfl⟩
    obtain⟨lo,hi⟩:=p
    rw[hp] at hle
    obtain⟨hlo,hhi⟩:=hle
    simp only at hlo hhi
    have HSP:=Hd (fun w=>Zke s n lo hi h4 hlt hp w)
    by_cases hc:lo+1<hi
    ·have hvf:v=false:=by rw[← HV.o];exact ZcJ hn1 hlt (by rw[hp];exact hc)
     subst hvf
     have hc1:(1:Int)<(hi:Int) - (lo:Int):=by omega
     have hc2:(lo:Int)+1<(hi:Int):=by omega
     clear hp
     go_wp2_with fail
     refine (HSP.o _).mono ?_
     rintro e w2 ⟨rfl,rfl⟩
     go_wp2_with fail
     go_ret
     exact⟨rfl,hbel⟩
    ·have hc1:¬ (1:Int)<(hi:Int) - (lo:Int):=by omega
     have hc2:¬ (lo:Int)+1<(hi:Int):=by omega
     have HP:=Hd hp;have HCC:=Hd hc
     clear hp hc
     go_wp2_with fail
     refine (HSP.o _).mono ?_
     rintro e w2 ⟨rfl,rfl⟩
     go_wp2_with fail
     go_roundw
     case rel=>exact⟨n+1,by omega,by omega,by go_num,fun q h1 h2=>by
      rcases Nat.lt_or_ge q n with h|h
      ·exact HG.o q h1 h
      ·obtain rfl:q=n:=by omega
       rw[HP.o];exact HCC.o,hbel⟩
     case measure=>simp[intOf];omega
   ·have hge:¬ (n:Int)≤(s.size:Int):=by omega
    have hvt:v=true:=by rw[← HV.o];exact ZcI HB.o fun q h1 h2=>HG.o q h1 (by omega)
    subst hvt
    go_wp2_with fail
    go_ret
    exact⟨rfl,hbel⟩
theorem ZdE {s:ByteArray} (a b:Nat) (h:isW (L s)=true):isW (L (s.extract a b))=true:=by
 unfold isW at h ⊢
 simp only[Bool.and_eq_true,decide_eq_true_eq] at h ⊢
 rw[ZI]
 refine⟨?_,?_⟩
 ·rw[List.all_eq_true] at h ⊢
  exact fun x hx=>h.1 x (List.mem_of_mem_take (List.mem_of_mem_drop hx))
 ·rw[List.length_drop,List.length_take];omega
theorem QT (s:ByteArray) (a b:Nat) (h:b≤s.size):(s.extract a b).size=b - a:=by rw[ByteArray.size_extract,Nat.min_eq_left h]
theorem ZdF (s:ByteArray) (a n:Nat):(s.extract a s.size).extract n (s.extract a s.size).size=s.extract (a+n) s.size:=by
 apply WF
 rw[ZI,ZI,ZI,ByteArray.size_extract,Nat.min_self]
 rw[List.take_of_length_le (by rw[List.length_drop,List.length_take,Zj];omega),List.drop_drop]
theorem ZdG (s:ByteArray) (a n:Nat) (h:a+n≤s.size):(s.extract a s.size).extract 0 n=s.extract a (a+n):=by
 apply WF
 rw[ZI,ZI,ZI,List.drop_zero,List.take_of_length_le (l:=L s) (by rw[Zj];omega),List.drop_take]
 congr 1;omega
theorem ZlB (s:ByteArray) (a k:Nat) (h:a+k<s.size) (h2:k<(s.extract a s.size).size):((s.extract a s.size)[k]'h2).toNat=gl s a k:=by
 rw[gl,List.getD_eq_getElem?_getD,List.getElem?_eq_getElem (by rw[Zj];exact h)]
 have:(s.extract a s.size)[k]'h2=s[a+k]:=by rw[ByteArray.getElem_extract]
 rw[this];rfl
def ZeZ:Value→Nat
 | .string s=>s.size
 | _=>0
theorem ZfU (s:ByteArray) (b:Bool) (h0:isW (L s)=true) (h1:s.size≠0) (hb:b=true↔J4 (gl s 0) s.size) (w:World) :
  Calls Tryz.prog 154 #[.string s] w fun e w'=>e=.returned (.bool b)∧Dr w w':=by
 have h4:=Zb h0
 have hs9:s.size≤maxLen:=by unfold maxLen;omega
 have hne:s.toList.isEmpty=false:=by
  rw[ByteArray.toList_eq]
  cases hc:s.data.toList with
  | nil=>have:=Zj s;rw[L,hc] at this;exact absurd this.symm h1
  | cons a b=>rfl
 have H0:=Hd h0;have HB:=Hd hb
 clear h0 hb
 go_enter Tryz.func154,Tryz.ntmps154
 go_wp2_with (go_at_call 43;with_reducible refine (Zi s _ hs9 H0.o _).mono ?_;rintro e w' ⟨rfl,rfl⟩)
 go_loopw [3] (fun i wr=>∃ k:Nat,1≤k∧k≤s.size∧i=.int .i64 k∧(∀ r,0<r→r<k→ltF (gl s 0) (JH (gl s 0) s.size r) s.size)∧Dr w wr) (fun i _=>s.size - (intOf i).toNat)
 case atStart=>exact⟨1,by omega,by omega,rfl,fun r h2 h3=>by omega,Dr.refl _⟩
 case round =>
  obtain⟨k,hk1,hk,rfl,hg,hd⟩:=hrel
  have HG:=Hd hg;clear hg
  by_cases hlt:k<s.size
  ·have htl:=ZfT s k hk
   have hgt:=Yq (s.extract k s.size++s.extract 0 k) s
   unfold gtS at hgt
   have z1:(s.extract k s.size).size=s.size - k:=QT s k s.size nlr
   have z2:(s.extract 0 k).size=k:=by rw[QT s 0 k hk];omega
   by_cases hltF:ltF (gl s 0) (JH (gl s 0) s.size k) s.size
   ·rw[decide_eq_true (htl.2 hltF)] at hgt
    have hstep:∀ r,0<r→r<k+1→ltF (gl s 0) (JH (gl s 0) s.size r) s.size:=fun r h2 h3=>by
     by_cases he:r=k
     ·subst he;exact hltF
     ·exact HG.o r h2 (by omega)
    have HS:=Hd hstep
    simp only[Bool.not_eq_true',Bool.or_eq_false_iff] at hgt
    obtain⟨hgA,hgB⟩:=hgt
    clear htl hltF hstep
    go_wp2_with fail
    go_quiet (fail)
    go_wp2_with fail
    go_roundw
    case rel=>exact⟨k+1,by omega,by omega,by go_num,HS.o,hd.drewN nq⟩
    case measure=>simp[intOf];omega
   ·rw[decide_eq_false (fun h=>hltF (htl.1 h))] at hgt
    have hbf:b=false:=by
     cases hb:b
     ·rfl
     ·exact absurd ((HB.o.1 hb) k (by omega) hlt) hltF
    subst hbf
    simp only[Bool.not_eq_false',Bool.or_eq_true] at hgt
    clear htl hltF
    rcases hgt with hgt|hgt
    all_goals
     go_wp2_with fail
     go_quiet (fail)
     go_wp2_with fail
     go_ret
     exact⟨rfl,hd.drewN nq⟩
  ·have hbt:b=true:=HB.o.2 fun r h2 h3=>HG.o r h2 (by omega)
   subst hbt
   go_wp2_with fail
   go_ret
   exact⟨rfl,hd⟩
theorem Zg5 (s:ByteArray) (k:Nat) (h0:isW (L s)=true) (hk:k≤s.size) (w:World) :
  Calls Tryz.prog 128 #[.string s,.int .i64 k] w fun e w'=>e=.returned (.string (s.extract k s.size++s.extract 0 k))∧Dr w w':=by
 have h4:=Zb h0
 have hs9:s.size≤maxLen:=by unfold maxLen;omega
 have H0:=Hd h0
 have H2:=Hd (fun w=>Zo (k:Int) 0 s.size ⟨by omega,by omega⟩ w)
 have z1:(s.extract k s.size).size=s.size - k:=QT s k s.size nlr
 have z2:(s.extract 0 k).size=k:=by rw[QT s 0 k hk];omega
 have hki:(k:Int)≤(s.size:Int):=by omega
 clear h0
 go_enter Tryz.func128,Tryz.ntmps128
 go_wp2_with (first
  | (go_at_call 27;with_reducible refine (Zl s _ hs9 H0.o _).mono ?_;rintro e w' ⟨rfl,rfl⟩)
  | (go_at_call 65;with_reducible refine (H2.o _).mono ?_;rintro e w' ⟨rfl,rfl⟩))
 go_quiet (fail)
 go_wp2_with fail
 go_ret
 exact⟨rfl,(Dr.refl _).drewN _⟩
theorem ZkJ (s:ByteArray) (b:Bool) (h0:isW (L s)=true) (h1:s.size≠0) (hb:b=true↔J4 (gl s 0) s.size) (w:World) :
  Calls Tryz.prog 197 #[.string s] w fun e w'=>e=.returned (.bool b)∧Dr w w':=by
 have h4:=Zb h0
 have hs9:s.size≤maxLen:=by unfold maxLen;omega
 have hne:s.toList.isEmpty=false:=by
  rw[ByteArray.toList_eq]
  cases hc:s.data.toList with
  | nil=>have:=Zj s;rw[L,hc] at this;exact absurd this.symm h1
  | cons a b=>rfl
 have H0:=Hd h0;have HB:=Hd hb
 clear h0 hb
 go_enter Tryz.func197,Tryz.ntmps197
 go_wp2_with (go_at_call 27;with_reducible refine (Zl s _ hs9 H0.o _).mono ?_;rintro e w' ⟨rfl,rfl⟩)
 go_loopw [3] (fun i wr=>∃ k:Nat,1≤k∧k≤s.size∧i=.int .i64 k∧(∀ r,0<r→r<k→ltF (gl s 0) (JH (gl s 0) s.size r) s.size)∧Dr w wr) (fun i _=>s.size - (intOf i).toNat)
 case atStart=>exact⟨1,by omega,by omega,rfl,fun r h2 h3=>by omega,Dr.refl _⟩
 case round =>
  obtain⟨k,hk1,hk,rfl,hg,hd⟩:=hrel
  have HG:=Hd hg;clear hg
  by_cases hlt:k<s.size
  ·have htl:=ZfT s k hk
   have hgt:=Yq (s.extract k s.size++s.extract 0 k) s
   unfold gtS at hgt
   have HSH:=Hd (fun w=>Zg5 s k H0.o hk w)
   by_cases hltF:ltF (gl s 0) (JH (gl s 0) s.size k) s.size
   ·rw[decide_eq_true (htl.2 hltF)] at hgt
    have hstep:∀ r,0<r→r<k+1→ltF (gl s 0) (JH (gl s 0) s.size r) s.size:=fun r h2 h3=>by
     by_cases he:r=k
     ·subst he;exact hltF
     ·exact HG.o r h2 (by omega)
    have HS:=Hd hstep
    simp only[Bool.not_eq_true',Bool.or_eq_false_iff] at hgt
    obtain⟨hgA,hgB⟩:=hgt
    clear htl hltF hstep
    go_wp2_with fail
    refine (HSH.o _).mono ?_
    rintro e w1 ⟨rfl,d1⟩
    go_wp2_with fail
    go_roundw
    case rel=>exact⟨k+1,by omega,by omega,by go_num,HS.o,hd.trans d1⟩
    case measure=>simp[intOf];omega
   ·rw[decide_eq_false (fun h=>hltF (htl.1 h))] at hgt
    have hbf:b=false:=by
     cases hb:b
     ·rfl
     ·exact absurd ((HB.o.1 hb) k (by omega) hlt) hltF
    subst hbf
    simp only[Bool.not_eq_false',Bool.or_eq_true] at hgt
    clear htl hltF
    rcases hgt with hgt|hgt
    all_goals
     go_wp2_with fail
     refine (HSH.o _).mono ?_
     rintro e w1 ⟨rfl,d1⟩
     go_wp2_with fail
     go_ret
     exact⟨rfl,hd.trans d1⟩
  ·have hbt:b=true:=HB.o.2 fun r h2 h3=>HG.o r h2 (by omega)
   subst hbt
   go_wp2_with fail
   go_ret
   exact⟨rfl,hd⟩
open Classical in
noncomputable def VH (s:ByteArray):Bool:=decide (s.size≠0∧J4 (gl s 0) s.size)
theorem ZiJ (s:ByteArray) (h0:isW (L s)=true) (w:World) :
  Calls Tryz.prog 197 #[.string s] w fun e w'=>e=.returned (.bool (VH s))∧Dr w w':=by
 by_cases hz:s.size=0
 ·have h4:=Zb h0
  have hs9:s.size≤maxLen:=by unfold maxLen;omega
  have hne:s.toList.isEmpty=true:=by
   rw[ByteArray.toList_eq]
   have:=Zj s
   rw[List.isEmpty_iff]
   exact List.eq_nil_of_length_eq_zero (by rw[← hz];exact this)
  have hv:VH s=false:=by simp[VH,hz]
  rw[hv]
  have H0:=Hd h0
  clear h0 hz hv
  go_enter Tryz.func197,Tryz.ntmps197
  go_wp2_with (go_at_call 27;with_reducible refine (Zl s _ hs9 H0.o _).mono ?_;rintro e w' ⟨rfl,rfl⟩)
  go_ret
  exact⟨rfl,Dr.refl _⟩
 ·exact ZkJ s (VH s) h0 hz (by simp[VH,hz]) w
theorem ZiK (s:ByteArray) (h0:isW (L s)=true) (w:World) :
  Calls Tryz.prog 154 #[.string s] w fun e w'=>e=.returned (.bool (VH s))∧Dr w w':=by
 by_cases hz:s.size=0
 ·have h4:=Zb h0
  have hs9:s.size≤maxLen:=by unfold maxLen;omega
  have hne:s.toList.isEmpty=true:=by
   rw[ByteArray.toList_eq]
   have:=Zj s
   rw[List.isEmpty_iff]
   exact List.eq_nil_of_length_eq_zero (by rw[← hz];exact this)
  have hv:VH s=false:=by simp[VH,hz]
  rw[hv]
  have H0:=Hd h0
  clear h0 hz hv
  go_enter Tryz.func154,Tryz.ntmps154
  go_wp2_with (go_at_call 43;with_reducible refine (Zi s _ hs9 H0.o _).mono ?_;rintro e w' ⟨rfl,rfl⟩)
  go_ret
  exact⟨rfl,Dr.refl _⟩
 ·exact ZfU s (VH s) h0 hz (by simp[VH,hz]) w
def cpx (s:ByteArray) (n:Nat):Nat:=(Jf (fc s n)).length
theorem ZbA (s:ByteArray) (n:Nat) (hn:1≤n):cpx s n≤s.size+1:=by
 have h1:=ZdL (fc s n)
 unfold cpx
 rw[fc] at h1 ⊢;rw[Vt] at h1;omega
theorem Zev (s:ByteArray) (n:Nat) (h0:isW (L s)=true) (h1:1≤n) (h2:n≤400) (w:World) :
  Calls Tryz.prog 263 #[.string s,.int .i64 n] w fun e w'=>e=.returned (.bool true)∧w=w':=by
 have h4:=Zb h0
 have hs9:s.size≤maxLen:=by unfold maxLen;omega
 have H0:=Hd h0
 have H2:=Hd (fun w=>Zo (n:Int) 1 400 ⟨by omega,by omega⟩ w)
 clear h0
 go_enter Tryz.func263,Tryz.ntmps263
 go_wp2_with (first
  | (go_at_call 27;with_reducible refine (Zl s _ hs9 H0.o _).mono ?_;rintro e w' ⟨rfl,rfl⟩)
  | (go_at_call 65;with_reducible refine (H2.o _).mono ?_;rintro e w' ⟨rfl,rfl⟩))
 go_ret
 exact⟨rfl,rfl⟩
theorem ZhU (s:ByteArray) (n:Nat) (h0:isW (L s)=true) (h1:1≤n) (h2:n≤400) (w:World) :
  Calls Tryz.prog 207 #[.string s,.int .i64 n] w fun e w'=>e=.returned (.int .i64 (cpx s n))∧Below w.heap.size w w':=by
 have h4:=Zb h0
 have HL:=Hd (fun w=>Zev s n h0 h1 h2 w)
 have HF:=Hd (fun w=>ZaJ s n h4 (by omega) w)
 clear h0
 go_enter Tryz.func207,Tryz.ntmps207
 go_wp2_with fail
 refine (HL.o _).mono ?_
 rintro e w1 ⟨rfl,rfl⟩
 go_wp2_with fail
 refine (HF.o _).mono ?_
 rintro e w2 ⟨g,c,rfl,st,b2⟩
 go_wp2_with fail
 go_ret
 exact⟨rfl,b2⟩
def Qa (n:Nat) (x:ByteArray):Bool:=decide (1≤x.size∧x.size≤8)&&(isW (L x)&&Qr n (L x))
def Zf (zs:List ByteArray):Bool:=zs.all (Qa zs.length)&&decide (1≤zs.length∧zs.length≤4)
def Vf (zs:List ByteArray) (s:ByteArray):Bool:=Zf zs&&isW (L s)
theorem Zfs {zs:List ByteArray} {k:Nat} {x:ByteArray} (n:Nat) (h:zs[k]? = some x):(zs.drop k).all (Qa n)=(Qa n x&&(zs.drop (k+1)).all (Qa n)):=by
 rw[ZT h,List.all_cons]
theorem JD (A:Option Addr) (n c:Nat) (x:ByteArray) (hx:x.size≤1000) (hn:n≤4294967296) (w:World) :
  Calls Tryz.prog 66 #[.agg #[.slice A n c],.string x] w fun e w'=>e=.returned (.bool (isW (L x)&&Qr n (L x)))∧Below w.heap.size w w':=by
 have hxm:x.size≤maxLen:=by unfold maxLen;omega
 have h0:=heap_alloc_new w (.cells #[.slice A n c] 26)
 have H0:=Hd h0
 clear h0
 go_enter Tryz.func66,Tryz.ntmps66
 go_wp2_with fail
 go_loopw [5,8] (fun _ i wr=>∃ k:Nat,k≤x.size∧i=.int .i64 k∧Qr n ((L x).drop k)=Qr n (L x)∧wr.cell? ⟨w.heap.size,0,none⟩=some (.slice A n c)∧Below w.heap.size w wr) (fun _ i _=>x.size - (intOf i).toNat)
 case atStart=>exact⟨0,by omega,rfl,rfl,cell_of_row _ _ 0 _ _ (0,0) H0.o,(Below.refl _ _).alloc nlr _⟩
 case round =>
  obtain⟨k,hk,rfl,hg,hcell,hbel⟩:=hrel
  have HG:=Hd hg;clear hg
  by_cases hlt:k<x.size
  ·obtain⟨bb,hbb⟩:∃ bb,x[k]'hlt=bb:=⟨_,rfl⟩
   have hdd:=ZS x k hlt
   rw[hbb] at hdd
   have HD:=Hd hdd
   have hb256:=bb.toNat_lt
   clear hdd
   by_cases hp:bb.toNat<97+n
   ·have HP:=Hd hp
    have hq:¬ ((n:Int)≤(bb.toNat:Int) - 97):=by omega
    go_wp2_with fail
    go_quiet (fail)
    go_wp2_with fail
    go_roundw
    case rel=>exact⟨k+1,by omega,by go_num,by rw[← HG.o,HD.o,Qr,Qr,List.all_cons,decide_eq_true HP.o];rfl,hcell,hbel.trans ((Dr.refl _).drewN nq).below⟩
    case measure=>simp[intOf];omega
   ·have HP:=Hd hp
    have hq:(n:Int)≤(bb.toNat:Int) - 97:=by omega
    go_wp2_with fail
    go_quiet (fail)
    go_wp2_with fail
    go_ret
    exact⟨Zk (by rw[← HG.o,HD.o,Qr,List.all_cons,decide_eq_false HP.o,Bool.false_and,Bool.and_false]),hbel.trans ((Dr.refl _).drewN nq).below⟩
  ·have h0:(L x).drop k=[]:=QP x k hlt
   have hfin:Qr n (L x)=true:=by rw[← HG.o,h0];rfl
   have HF:=Hd hfin;clear h0 hfin
   cases hw:isW (L x)
   ·have HW:=Hd hw;clear hw
    go_wp2_with (go_at_call 27;refine (Zl x _ hxm HW.o _).mono ?_;rintro e w' ⟨rfl,rfl⟩)
    go_ret
    exact⟨Zk (by rw[HW.o];rfl),hbel⟩
   ·have HW:=Hd hw;clear hw
    go_wp2_with (go_at_call 27;refine (Zl x _ hxm HW.o _).mono ?_;rintro e w' ⟨rfl,rfl⟩)
    go_ret
    exact⟨Zk (by rw[HW.o,HF.o];rfl),hbel⟩
theorem Zz (zs:List ByteArray) (A:Option Addr) (c B:Nat) (w:World) (hB:B≤w.heap.size) (hn:zs.length≤4294967296) (hsz:∀ s∈zs,s.size≤maxLen) (hrd:Rds w B A (zs.map Value.string)) :
  Calls Tryz.prog 26 #[.agg #[.slice A zs.length c]] w fun e w'=>e=.returned (.bool (Zf zs))∧Below w.heap.size w w':=by
 have HZ:=Hd hsz;have HR:=Hd hrd
 have h0:=heap_alloc_new w (.cells #[.slice A zs.length c] 26)
 have H0:=Hd h0
 clear h0 hsz hrd
 go_enter Tryz.func26,Tryz.ntmps26
 go_wp2_with fail
 go_loopw [4,8] (fun _ i wr=>∃ k:Nat,k≤zs.length∧i=.int .i64 k∧(zs.drop k).all (Qa zs.length)=zs.all (Qa zs.length)∧wr.cell? ⟨w.heap.size,0,none⟩=some (.slice A zs.length c)∧w.heap.size+1≤wr.heap.size∧Below w.heap.size w wr) (fun _ i _=>zs.length - (intOf i).toNat)
 case atStart=>exact⟨0,by omega,rfl,rfl,cell_of_row _ _ 0 _ _ (0,0) H0.o,by simp,(Below.refl _ _).alloc nlr _⟩
 case round =>
  obtain⟨k,hk,rfl,hg,hcell,hsz,hbel⟩:=hrel
  have HG:=Hd hg;clear hg
  by_cases hlt:k<zs.length
  ·obtain⟨x,hx⟩:=Zc (l:=zs) (k:=k) hlt
   have hxs:=HZ.o x (List.mem_of_getElem? hx)
   have hxs2:=hxs
   unfold maxLen at hxs2
   obtain⟨ad,rfl,hc⟩:=(HR.o.below hbel hB).at_ (Zs Value.string hx)
   have HD:=Hd (Zfs zs.length hx)
   clear hx
   by_cases h8:1≤x.size∧x.size≤8
   ·obtain⟨h81,h82⟩:=h8
    have hhi:=JD (some ad) zs.length c x (by omega) hn wr
    obtain⟨b,hb⟩:∃ b,(isW (L x)&&Qr zs.length (L x))=b:=⟨_,rfl⟩
    rw[hb] at hhi
    have him:Qa zs.length x=b:=by rw[Qa,decide_eq_true (And.intro h81 h82),hb];rfl
    have HHI:=Hd hhi;have HIM:=Hd him
    clear hhi hb him
    cases b
    ·go_wp2_with (first
      | (go_at_call 65;refine (Zo _ _ _ ⟨by omega,by omega⟩ _).mono ?_;rintro e w' ⟨rfl,rfl⟩)
      | (go_at_call 66;refine HHI.o.mono ?_;rintro e w2 ⟨rfl,b2⟩))
     go_ret
     exact⟨Zk (by rw[Zf,← HG.o,HD.o,HIM.o];rfl),hbel.trans (b2.mono hbel.size)⟩
    ·go_wp2_with (first
      | (go_at_call 65;refine (Zo _ _ _ ⟨by omega,by omega⟩ _).mono ?_;rintro e w' ⟨rfl,rfl⟩)
      | (go_at_call 66;refine HHI.o.mono ?_;rintro e w2 ⟨rfl,b2⟩))
     go_roundw
     case rel=>exact⟨k+1,by omega,by go_num,by rw[← HG.o,HD.o,HIM.o];rfl,(b2.cell (p:=⟨w.heap.size,0,none⟩) hsz).trans hcell,Nat.le_trans hsz b2.size,hbel.trans (b2.mono hbel.size)⟩
     case measure=>simp[intOf];omega
   ·have him:Qa zs.length x=false:=by rw[Qa,decide_eq_false h8];rfl
    have HIM:=Hd him
    have H8:=Hd (show ¬ ((1:Int)≤(x.size:Int)∧(x.size:Int)≤8) from fun h=>h8 ⟨by omega,by omega⟩)
    clear him h8
    go_wp2_with (go_at_call 65;refine (ZK _ _ _ H8.o _).mono ?_;rintro e w' ⟨rfl,rfl⟩)
    go_ret
    exact⟨Zk (by rw[Zf,← HG.o,HD.o,HIM.o];rfl),hbel⟩
  ·have h0:zs.drop k=[]:=List.drop_eq_nil_of_le (by omega)
   have hall:zs.all (Qa zs.length)=true:=by rw[← HG.o,h0];rfl
   have HALL:=Hd hall
   clear h0 hall
   by_cases h4:1≤zs.length∧zs.length≤4
   ·obtain⟨h41,h42⟩:=h4
    have hfin:Zf zs=true:=by rw[Zf,HALL.o,decide_eq_true (And.intro h41 h42)];rfl
    have HF:=Hd hfin;clear hfin
    go_wp2_with (go_at_call 65;refine (Zo _ _ _ ⟨by omega,by omega⟩ _).mono ?_;rintro e w' ⟨rfl,rfl⟩)
    go_ret
    exact⟨Zk HF.o.symm,hbel⟩
   ·have hfin:Zf zs=false:=by rw[Zf,decide_eq_false h4,Bool.and_false]
    have HF:=Hd hfin;clear hfin
    have H4:=Hd (show ¬ ((1:Int)≤(zs.length:Int)∧(zs.length:Int)≤4) from fun h=>h4 ⟨by omega,by omega⟩)
    clear h4
    go_wp2_with (go_at_call 65;refine (ZK _ _ _ H4.o _).mono ?_;rintro e w' ⟨rfl,rfl⟩)
    go_ret
    exact⟨Zk HF.o.symm,hbel⟩
theorem ZB (zs:List ByteArray) (A:Option Addr) (c B:Nat) (w:World) (hB:B≤w.heap.size) (hn:zs.length≤4294967296) (hsz:∀ s∈zs,s.size≤maxLen) (hrd:Rds w B A (zs.map Value.string)) :
  Calls Tryz.prog 78 #[.agg #[.slice A zs.length c]] w fun e w'=>e=.returned (.bool (Zf zs))∧Below w.heap.size w w':=by
 have HZ:=Hd hsz;have HR:=Hd hrd
 have h0:=heap_alloc_new w (.cells #[.slice A zs.length c] 26)
 have hb1:Below w.heap.size w (w.alloc (.cells #[.slice A zs.length c] 26)):=(Below.refl _ _).alloc nlr _
 have HB1:=Hd hb1
 clear h0 hsz hrd hb1
 by_cases h4:1≤zs.length∧zs.length≤4
 ·obtain⟨h41,h42⟩:=h4
  have hsu:Zf zs=zs.all (Qa zs.length):=by rw[Zf,decide_eq_true (And.intro h41 h42),Bool.and_true]
  have HSU:=Hd hsu;clear hsu
  go_enter Tryz.func78,Tryz.ntmps78
  go_wp2_with (go_at_call 146;refine (Zw _ _ _ ⟨by omega,by omega⟩ _).mono ?_;rintro e w' ⟨rfl,rfl⟩)
  go_loopw [5,15] (fun _ i wr=>∃ k:Nat,k≤zs.length∧i=.int .i64 k∧(zs.drop k).all (Qa zs.length)=Zf zs∧wr=(w.alloc (.cells #[.slice A zs.length c] 26))) (fun _ i _=>zs.length - (intOf i).toNat)
  case atStart=>exact⟨0,by omega,rfl,HSU.o.symm,rfl⟩
  case round =>
   obtain⟨k,hk,rfl,hg,rfl⟩:=hrel
   have HG:=Hd hg;clear hg
   by_cases hlt:k<zs.length
   ·obtain⟨x,hx⟩:=Zc (l:=zs) (k:=k) hlt
    have hxs:=HZ.o x (List.mem_of_getElem? hx)
    have hxs2:=hxs
    unfold maxLen at hxs2
    obtain⟨ad,rfl,hc⟩:=(HR.o.below HB1.o hB).at_ (Zs Value.string hx)
    have HD:=Hd (Zfs zs.length hx)
    clear hx
    by_cases h8:1≤x.size∧x.size≤8
    ·obtain⟨h81,h82⟩:=h8
     have hd8:decide (1≤x.size∧x.size≤8)=true:=decide_eq_true (And.intro h81 h82)
     cases hw:isW (L x)
     ·have him:Qa zs.length x=false:=by rw[Qa,hw,Bool.false_and,Bool.and_false]
      have HIM:=Hd him;have HW:=Hd hw
      clear him hw hd8
      go_wp2_with (first
       | (go_at_call 146;refine (Zw _ _ _ ⟨by omega,by omega⟩ _).mono ?_;rintro e w' ⟨rfl,rfl⟩)
       | (go_at_call 43;refine (Zi x _ hxs HW.o _).mono ?_;rintro e w' ⟨rfl,rfl⟩))
      go_ret
      exact⟨Zk (by rw[← HG.o,HD.o,HIM.o];rfl),HB1.o⟩
     ·have hwi:=fun w=>Q8 zs.length x (by omega) hw w
      obtain⟨b,hb⟩:∃ b,Qr zs.length (L x)=b:=⟨_,rfl⟩
      rw[hb] at hwi
      have him:Qa zs.length x=b:=by rw[Qa,hd8,hw,hb];rfl
      have HIM:=Hd him;have HW:=Hd hw;have HWI:=Hd hwi
      clear him hw hd8 hb hwi
      cases b
      ·go_wp2_with (first
        | (go_at_call 146;refine (Zw _ _ _ ⟨by omega,by omega⟩ _).mono ?_;rintro e w' ⟨rfl,rfl⟩)
        | (go_at_call 43;refine (Zi x _ hxs HW.o _).mono ?_;rintro e w' ⟨rfl,rfl⟩)
        | (go_at_call 147;refine (HWI.o _).mono ?_;rintro e w' ⟨rfl,rfl⟩))
       go_ret
       exact⟨Zk (by rw[← HG.o,HD.o,HIM.o];rfl),HB1.o⟩
      ·go_wp2_with (first
        | (go_at_call 146;refine (Zw _ _ _ ⟨by omega,by omega⟩ _).mono ?_;rintro e w' ⟨rfl,rfl⟩)
        | (go_at_call 43;refine (Zi x _ hxs HW.o _).mono ?_;rintro e w' ⟨rfl,rfl⟩)
        | (go_at_call 147;refine (HWI.o _).mono ?_;rintro e w' ⟨rfl,rfl⟩))
       go_roundw
       case rel=>exact⟨k+1,by omega,by go_num,by rw[← HG.o,HD.o,HIM.o];rfl,trivial⟩
       case measure=>simp[intOf];omega
    ·have him:Qa zs.length x=false:=by rw[Qa,decide_eq_false h8];rfl
     have HIM:=Hd him
     have H8:=Hd (show ¬ ((1:Int)≤(x.size:Int)∧(x.size:Int)≤8) from fun h=>h8 ⟨by omega,by omega⟩)
     clear him h8
     go_wp2_with (go_at_call 146;refine (ZU _ _ _ H8.o _).mono ?_;rintro e w' ⟨rfl,rfl⟩)
     go_ret
     exact⟨Zk (by rw[← HG.o,HD.o,HIM.o];rfl),HB1.o⟩
   ·have h0:zs.drop k=[]:=List.drop_eq_nil_of_le (by omega)
    have hfin:Zf zs=true:=by rw[← HG.o,h0];rfl
    have HF:=Hd hfin
    clear h0 hfin
    go_wp2_with fail
    go_ret
    exact⟨Zk HF.o.symm,HB1.o⟩
 ·have hfin:Zf zs=false:=by rw[Zf,decide_eq_false h4,Bool.and_false]
  have HF:=Hd hfin;clear hfin
  have H4:=Hd (show ¬ ((1:Int)≤(zs.length:Int)∧(zs.length:Int)≤4) from fun h=>h4 ⟨by omega,by omega⟩)
  clear h4
  go_enter Tryz.func78,Tryz.ntmps78
  go_wp2_with (go_at_call 146;refine (ZU _ _ _ H4.o _).mono ?_;rintro e w' ⟨rfl,rfl⟩)
  go_ret
  exact⟨Zk HF.o.symm,HB1.o⟩
theorem V0 (zs:List ByteArray) (s:ByteArray) (A:Option Addr) (c B:Nat) (w:World) (hB:B≤w.heap.size) (hs:s.size≤maxLen) (hn:zs.length≤4294967296) (hsz:∀ s∈zs,s.size≤maxLen) (hrd:Rds w B A (zs.map Value.string)) :
  Calls Tryz.prog 9 #[.agg #[.slice A zs.length c,.string s]] w fun e w'=>e=.returned (.bool (Vf zs s))∧Below w.heap.size w w':=by
 have hb1:Below w.heap.size w (w.alloc (.cells #[.slice A zs.length c,.string s] 28)):=(Below.refl _ _).alloc nlr _
 have hz1:(w.alloc (.cells #[.slice A zs.length c,.string s] 28)).heap.size=w.heap.size+1:=by simp
 have hc:=Zz zs A c B _ (by rw[hz1];omega) hn hsz (hrd.below hb1 hB)
 rw[hz1] at hc
 have h0:=heap_alloc_new w (.cells #[.slice A zs.length c,.string s] 28)
 obtain⟨b,hb⟩:∃ b,Zf zs=b:=⟨_,rfl⟩
 rw[hb] at hc
 have hbn:Vf zs s=(b&&isW (L s)):=by rw[Vf,hb]
 have HC:=Hd hc;have HB1:=Hd hb1;have H0:=Hd h0;have HBN:=Hd hbn
 clear hc hb1 h0 hb hbn hrd hsz hz1
 cases b
 ·go_enter Tryz.func9,Tryz.ntmps9
  go_wp2_with fail
  refine HC.o.mono ?_
  rintro e w1 ⟨rfl,b1⟩
  go_wp2_with fail
  go_ret
  exact⟨Zk (by rw[HBN.o];rfl),HB1.o.trans (b1.mono (by omega))⟩
 ·cases hw:isW (L s)
  ·have HW:=Hd hw;clear hw
   go_enter Tryz.func9,Tryz.ntmps9
   go_wp2_with fail
   refine HC.o.mono ?_
   rintro e w1 ⟨rfl,b1⟩
   have k0:w1.cell? ⟨w.heap.size,1,none⟩=some (.string s):=cell_of_row _ _ 1 _ _ (0,0) ((b1.block w.heap.size (by omega)).trans H0.o)
   have bw:Below w.heap.size w w1:=HB1.o.trans (b1.mono (by omega))
   clear b1
   go_wp2_with (go_at_call 27;refine (Zl s _ hs HW.o _).mono ?_;rintro e w' ⟨rfl,rfl⟩)
   go_ret
   exact⟨Zk (by rw[HBN.o,HW.o];rfl),bw⟩
  ·have HW:=Hd hw;clear hw
   go_enter Tryz.func9,Tryz.ntmps9
   go_wp2_with fail
   refine HC.o.mono ?_
   rintro e w1 ⟨rfl,b1⟩
   have k0:w1.cell? ⟨w.heap.size,1,none⟩=some (.string s):=cell_of_row _ _ 1 _ _ (0,0) ((b1.block w.heap.size (by omega)).trans H0.o)
   have bw:Below w.heap.size w w1:=HB1.o.trans (b1.mono (by omega))
   clear b1
   go_wp2_with (go_at_call 27;refine (Zl s _ hs HW.o _).mono ?_;rintro e w' ⟨rfl,rfl⟩)
   go_ret
   exact⟨Zk (by rw[HBN.o,HW.o];rfl),bw⟩
theorem Zbf (zs:List ByteArray) (s:ByteArray) (A:Option Addr) (c B:Nat) (w:World) (hB:B≤w.heap.size) (hs:s.size≤maxLen) (hn:zs.length≤4294967296) (hsz:∀ s∈zs,s.size≤maxLen) (hrd:Rds w B A (zs.map Value.string)) :
  Calls Tryz.prog 39 #[.agg #[.slice A zs.length c,.string s]] w fun e w'=>e=.returned (.bool (Vf zs s))∧Below w.heap.size w w':=by
 have hb1:Below w.heap.size w (w.alloc (.cells #[.slice A zs.length c,.string s] 28)):=(Below.refl _ _).alloc nlr _
 have hz1:(w.alloc (.cells #[.slice A zs.length c,.string s] 28)).heap.size=w.heap.size+1:=by simp
 have hc:=ZB zs A c B _ (by rw[hz1];omega) hn hsz (hrd.below hb1 hB)
 rw[hz1] at hc
 have h0:=heap_alloc_new w (.cells #[.slice A zs.length c,.string s] 28)
 obtain⟨b,hb⟩:∃ b,Zf zs=b:=⟨_,rfl⟩
 rw[hb] at hc
 have hbn:Vf zs s=(b&&isW (L s)):=by rw[Vf,hb]
 have HC:=Hd hc;have HB1:=Hd hb1;have H0:=Hd h0;have HBN:=Hd hbn
 clear hc hb1 h0 hb hbn hrd hsz hz1
 cases b
 ·go_enter Tryz.func39,Tryz.ntmps39
  go_wp2_with fail
  refine HC.o.mono ?_
  rintro e w1 ⟨rfl,b1⟩
  go_wp2_with fail
  go_ret
  exact⟨Zk (by rw[HBN.o];rfl),HB1.o.trans (b1.mono (by omega))⟩
 ·cases hw:isW (L s)
  ·have HW:=Hd hw;clear hw
   go_enter Tryz.func39,Tryz.ntmps39
   go_wp2_with fail
   refine HC.o.mono ?_
   rintro e w1 ⟨rfl,b1⟩
   have k0:w1.cell? ⟨w.heap.size,1,none⟩=some (.string s):=cell_of_row _ _ 1 _ _ (0,0) ((b1.block w.heap.size (by omega)).trans H0.o)
   have bw:Below w.heap.size w w1:=HB1.o.trans (b1.mono (by omega))
   clear b1
   go_wp2_with (go_at_call 43;refine (Zi s _ hs HW.o _).mono ?_;rintro e w' ⟨rfl,rfl⟩)
   go_ret
   exact⟨Zk (by rw[HBN.o,HW.o];rfl),bw⟩
  ·have HW:=Hd hw;clear hw
   go_enter Tryz.func39,Tryz.ntmps39
   go_wp2_with fail
   refine HC.o.mono ?_
   rintro e w1 ⟨rfl,b1⟩
   have k0:w1.cell? ⟨w.heap.size,1,none⟩=some (.string s):=cell_of_row _ _ 1 _ _ (0,0) ((b1.block w.heap.size (by omega)).trans H0.o)
   have bw:Below w.heap.size w w1:=HB1.o.trans (b1.mono (by omega))
   clear b1
   go_wp2_with (go_at_call 43;refine (Zi s _ hs HW.o _).mono ?_;rintro e w' ⟨rfl,rfl⟩)
   go_ret
   exact⟨Zk (by rw[HBN.o,HW.o];rfl),bw⟩
theorem ZiL (s:ByteArray) (h0:isW (L s)=true) (w:World) :
  Calls Tryz.prog 159 #[.string s] w fun e w'=>∃ A c,e=.returned (.slice A (Qz s 0).length c)∧Own w' w.heap.size 9 (.slice A (Qz s 0).length c) ((Qz s 0).map Value.string)∧Below w.heap.size w w':=by
 have h4:=Zb h0
 have hs9:s.size≤maxLen:=by unfold maxLen;omega
 obtain⟨rr,hrr⟩:∃ rr,Qz s 0=rr:=⟨_,rfl⟩
 rw[hrr]
 have hly:=fun (i n:Nat) (b:Bool) (hn:n≠0) (hin:i+n≤s.size) (hb:b=true↔J4 (gl s i) n) (w:World) =>
  ZfU (s.extract i (i+n)) b (ZdE i (i+n) h0) (by rw[QT s i (i+n) hin];omega) (by rw[hb,QT s i (i+n) hin,show i+n - i=n by omega,Zb1 s i n hin]) w
 have H0:=Hd h0;have HRR:=Hd hrr;have HLY:=Hd hly
 clear h0 hrr hly
 go_enter Tryz.func159,Tryz.ntmps159
 go_wp2_with (go_at_call 43;with_reducible refine (Zi s _ hs9 H0.o _).mono ?_;rintro e w' ⟨rfl,rfl⟩)
 go_loopw [3,4,5] (fun v i _ wr=>∃ a m g c:Nat,∃ acc:List ByteArray,a≤s.size∧m≤a∧i=.int .i64 a∧v=.slice (some ⟨g,0,none⟩) m c∧acc.length=m∧acc++Qz s a=rr∧Own wr w.heap.size 9 (.slice (some ⟨g,0,none⟩) m c) (acc.map Value.string)∧Below w.heap.size w wr) (fun _ i _ _=>s.size - (intOf i).toNat)
 case atStart=>exact⟨0,0,w.heap.size,0,[],by omega,by omega,rfl,rfl,rfl,HRR.o,Own.empty nlr,(Below.refl _ _).alloc nlr _⟩
 case round =>
  obtain⟨a,m,g,c,acc,ha,hma,rfl,rfl,hacc,hg,hown,hbel⟩:=hrel
  have HG:=Hd hg;have HO:=Hd hown;have HA:=Hd hacc
  clear hg hown hacc
  by_cases hlt:a<s.size
  ·obtain⟨hl1,hl2,hl3,hl4⟩:=Wx (gl s a) (s.size - a) (by omega)
   obtain⟨n0,hn0⟩:∃ n0,lng (gl s a) (s.size - a)=n0:=⟨_,rfl⟩
   rw[hn0] at hl1 hl2 hl3 hl4
   have hnx:=YS s hlt hn0
   have HNX:=Hd hnx;have HL3:=Hd hl3;have HL4:=Hd hl4
   clear hn0 hnx hl3 hl4
   go_wp2_with fail
   go_loopw [5] (fun n w2=>∃ l:Nat,n0≤l∧a+l≤s.size∧n=.int .i64 l∧Dr wr w2) (fun n _=>(intOf n).toNat)
   case atStart=>exact⟨s.size - a,by omega,by omega,by first|rfl|(congr 1;omega),Dr.refl _⟩
   case round =>
    obtain⟨l,hnl,hal,rfl,hd⟩:=hrel
    by_cases he:l=n0
    ·subst he
     have hcl:=fun w=>HLY.o a l true (by omega) hal (by simp only[true_iff];exact HL3.o) w
     have HCL:=Hd hcl
     have hsz:w.heap.size≤wr.heap.size:=by have:=hbel.size;have:=(hd.below (B:=0)).size;omega
     have ho2:=HO.o.dr hd
     have hl3:(acc.map Value.string).length=m:=by rw[List.length_map];exact HA.o
     have hm9:m<4294967296:=by omega
     have HO2:=Hd ho2;have HLL:=Hd hl3
     have c1:(a:Int)+(l:Int)≤(s.size:Int):=by omega
     clear hcl ho2 hl3
     go_wp2_with fail
     refine (HCL.o _).mono ?_
     rintro e w3 ⟨rfl,d3⟩
     have HO3:=Hd (HO2.o.dr d3)
     have hsz3:w.heap.size≤w3.heap.size:=by have:=(d3.below (B:=0)).size;omega
     go_wp2_with (at_builtin;refine Zx rfl (.tmp 28) (.tmp 35) 23 rfl _ 16 Tryz.underlying23 Zn rfl m c rfl HO3.o _ rfl rfl HLL.o hm9 (by decide) hsz3 ?_)
     intro g4 c4 w4 ha4
     have hown4:=ha4.own
     rw[← List.map_singleton,← List.map_append] at hown4
     have HO4:=Hd hown4
     have hbel4:=((hbel.trans hd.below).trans d3.below).trans ha4.bel
     clear ha4 hown4
     go_wp2_with fail
     go_roundw
     case rel=>exact⟨a+l,m+1,g4,c4,acc++[s.extract a (a+l)],by omega,by omega,by go_num,rfl,by rw[List.length_append,HA.o];rfl,by rw[← HG.o,HNX.o,List.append_assoc];rfl,HO4.o,hbel4⟩
     case measure=>simp[intOf];omega
    ·have hnot:=HL4.o l (by omega) (by omega)
     have hcl:=fun w=>HLY.o a l false (by omega) hal (by simp only[Bool.false_eq_true,false_iff];exact hnot) w
     have HCL:=Hd hcl
     have c1:(a:Int)+(l:Int)≤(s.size:Int):=by omega
     clear hcl hnot
     go_wp2_with fail
     refine (HCL.o _).mono ?_
     rintro e w3 ⟨rfl,d3⟩
     go_wp2_with fail
     go_roundw
     case rel=>exact⟨l - 1,by omega,by omega,by go_num,hd.trans d3⟩
     case measure=>simp[intOf];omega
  ·have hfin:acc=rr:=by rw[← HG.o,ZdD s (by omega)];simp
   have hrl:rr.length=m:=by rw[← hfin];exact HA.o
   rw[hfin] at HO
   have HRL:=Hd hrl
   clear hfin hrl
   go_wp2_with fail
   go_ret
   exact⟨_,c,by rw[HRL.o];rfl,by rw[HRL.o];exact HO.o,hbel⟩
theorem ZiM (s:ByteArray) (h0:isW (L s)=true) (w:World) :
  Calls Tryz.prog 198 #[.string s] w fun e w'=>∃ A c,e=.returned (.slice A (Qz s 0).length c)∧Own w' w.heap.size 9 (.slice A (Qz s 0).length c) ((Qz s 0).map Value.string)∧Below w.heap.size w w':=by
 have h4:=Zb h0
 have hs9:s.size≤maxLen:=by unfold maxLen;omega
 obtain⟨rr,hrr⟩:∃ rr,Qz s 0=rr:=⟨_,rfl⟩
 rw[hrr]
 have H0:=Hd h0;have HRR:=Hd hrr
 clear h0 hrr
 go_enter Tryz.func198,Tryz.ntmps198
 go_wp2_with (go_at_call 27;with_reducible refine (Zl s _ hs9 H0.o _).mono ?_;rintro e w' ⟨rfl,rfl⟩)
 go_loopw [0,3,4,5,6] (fun x v _ _ _ wr=>∃ a m g c:Nat,∃ acc:List ByteArray,∃ y:ByteArray,a≤s.size∧m≤a∧x=.string y∧y=s.extract a s.size∧v=.slice (some ⟨g,0,none⟩) m c∧acc.length=m∧acc++Qz s a=rr∧Own wr w.heap.size 9 (.slice (some ⟨g,0,none⟩) m c) (acc.map Value.string)∧Below w.heap.size w wr) (fun x _ _ _ _ _=>ZeZ x)
 case atStart=>exact⟨0,0,w.heap.size,0,[],s,by omega,by omega,rfl,by apply WF;rw[ZI,List.drop_zero,List.take_of_length_le (Nat.le_of_eq (Zj s))],rfl,rfl,HRR.o,Own.empty nlr,(Below.refl _ _).alloc nlr _⟩
 case round =>
  obtain⟨a,m,g,c,acc,y,ha,hma,rfl,hy,rfl,hacc,hg,hown,hbel⟩:=hrel
  have hyz:y.size=s.size - a:=by rw[hy,QT s a s.size nlr]
  have HY:=Hd hy;have HYZ:=Hd hyz
  have HG:=Hd hg;have HO:=Hd hown;have HA:=Hd hacc
  clear hg hown hacc hy
  by_cases hlt:a<s.size
  ·have hne:y.toList.isEmpty=false:=by
    rw[ByteArray.toList_eq]
    cases hc:y.data.toList with
    | nil=>have:=Zj y;rw[L,hc] at this;simp at this;omega
    | cons a b=>rfl
   obtain⟨N,hN⟩:∃ N,s.size - a=N:=⟨_,rfl⟩
   have hyN:y.size=N:=by omega
   have hat:∀ k (h:k<y.size),(y[k]'h).toNat=gl s a k:=by
    intro k h
    have h3:∀ (z:ByteArray) (hz:z=y) (h4:k<z.size),(z[k]'h4).toNat=(y[k]'h).toNat:=fun z hz h4=>by subst hz;rfl
    rw[← h3 (s.extract a s.size) HY.o.symm (by rw[← HY.o];exact h)]
    exact ZlB s a k (by omega) _
   have HAT:=Hd hat
   have HN:=Hd hN
   have hyb:y.size≤400:=by omega
   clear hyz hyN hat hN
   go_wp2_with fail
   go_loopw [4,5] (fun u v w2=>∃ i k n:Nat,1≤n∧i+n≤k∧k≤i+n∧k≤y.size∧u=.int .i64 i∧v=.int .i64 k∧Per (gl s a) n k∧Zaz (gl s a) n∧Dr wr w2) (fun _ v _=>y.size - (intOf v).toNat)
   case atStart=>exact⟨0,1,1,by omega,by omega,by omega,by rw[HYZ.o];omega,rfl,rfl,ZkI _,ZiG _,Dr.refl _⟩
   case round =>
    obtain⟨i,k,n,hn1,hk1,hk2,hky,rfl,rfl,hper,hlyn,hd⟩:=hrel
    have HP:=Hd hper;have HL:=Hd hlyn
    clear hper hlyn
    by_cases hkl:k<y.size
    ·have hiy:i<y.size:=by omega
     have hnk:k - n=i:=by omega
     obtain⟨bi,hbi⟩:∃ b,y[i]'hiy=b:=⟨_,rfl⟩
     obtain⟨bk,hbk⟩:∃ b,y[k]'hkl=b:=⟨_,rfl⟩
     have hgi:bi.toNat=gl s a i:=by rw[← hbi];exact HAT.o i (by omega)
     have hgk:bk.toNat=gl s a k:=by rw[← hbk];exact HAT.o k hkl
     have hkd:(k:Int)<(y.size:Int):=by omega
     have hid:(i:Int)<(y.size:Int):=by omega
     have HNK:=Hd hnk
     rcases Nat.lt_trichotomy bi.toNat bk.toNat with hc|hc|hc
     ·have hmore:=Zg3 (by omega) (by omega) HP.o HL.o (show gl s a (k - n)<gl s a k by rw[hnk,← hgi,← hgk];exact hc)
      have HMO:=Hd hmore
      have hle:(bi.toNat:Int)≤(bk.toNat:Int):=by omega
      have hlt2:(bi.toNat:Int)<(bk.toNat:Int):=by omega
      clear hmore hgi hgk hc hnk
      go_wp2_with fail
      go_quiet (fail)
      go_wp2_with fail
      go_quiet (fail)
      go_wp2_with fail
      go_roundw
      case rel=>exact⟨0,k+1,k+1,by omega,by omega,by omega,by omega,rfl,by go_num,fun j h1 h2=>by omega,HMO.o,hd.drewN _⟩
      case measure=>simp[intOf];omega
     ·have hpm:Per (gl s a) n (k+1):=fun j h1 h2=>by
       by_cases hj:j<k
       ·exact HP.o j h1 hj
       ·have:j=k:=by omega
        subst this
        rw[hnk,← hgi,← hgk];exact hc.symm
      have HPM:=Hd hpm
      have hbb:bk=bi:=(UInt8.toNat_inj.1 hc).symm
      subst hbb
      clear hgi hgk hc hnk hpm
      go_wp2_with fail
      go_quiet (fail)
      go_wp2_with fail
      go_quiet (fail)
      go_wp2_with fail
      refine⟨⟨i+1,k+1,n,by omega,by omega,by omega,by omega,by go_num,by go_num,HPM.o,HL.o,hd.drewN _⟩,?_⟩
      simp[intOf];omega
     ·have hle:decide ((bi.toNat:Int)≤(bk.toNat:Int))=false:=decide_eq_false (by omega)
      have hle2:decide (bi.toNat≤bk.toNat)=false:=decide_eq_false (by omega)
      have hstop:k<s.size - a→gl s a k<gl s a (k - n):=fun _=>by rw[hnk,← hgi,← hgk];exact hc
      have HST:=Hd hstop
      clear hgi hgk hc hnk hstop
      go_wp2_with fail
      go_quiet (fail)
      have hni:(k:Int) - (i:Int)=(n:Int):=by omega
      have hdq:Dr _ (wr.drewN nq):=hd.drewN nq
      have hsub:∀ e,e * n+n≤k→lng (gl s (a+e * n)) (s.size - (a+e * n))=n:=fun e he=>by
       have hcp:=Ww (N:=s.size - a) (by omega) HP.o HL.o HST.o (by rw[← HYZ.o];exact hky) e he
       rw[ZdA] at hcp
       exact ZeY (by omega) (by rw[HYZ.o] at hky;omega) hcp.1 fun l h1 h2=>hcp.2 l h1 (by omega)
      have HSUB:=Hd hsub
      have hoq:=HO.o.dr hdq
      have HOQ:=Hd hoq
      have hbq:=hbel.trans hdq.below
      have hka:a+k≤s.size:=by rw[HYZ.o] at hky;omega
      clear hsub hoq hdq
      go_wp2_with fail
      go_loopw [0,3,4] (fun x v u w3=>∃ e d m3 g3 c3:Nat,∃ acc3:List ByteArray,∃ y3:ByteArray,d=e * n∧d≤k∧m3≤a+d∧x=.string y3∧y3=s.extract (a+d) s.size∧v=.slice (some ⟨g3,0,none⟩) m3 c3∧u=.int .i64 ((k:Int) - n - d)∧acc3.length=m3∧acc3++Qz s (a+d)=rr∧Own w3 w.heap.size 9 (.slice (some ⟨g3,0,none⟩) m3 c3) (acc3.map Value.string)∧Below w.heap.size w w3) (fun _ _ u _=>(intOf u+1).toNat)
      case atStart=>exact⟨0,0,m,g,c,acc,y,by omega,by omega,by omega,rfl,by rw[HY.o];rfl,rfl,by congr 1;omega,HA.o,HG.o,HOQ.o,hbq⟩
      case round =>
       obtain⟨e,d,m3,g3,c3,acc3,y3,hde,hdk,hm3,rfl,hy3,rfl,rfl,hacc3,hg3,hown3,hbel3⟩:=hrel
       have HDE:=Hd hde
       have hy3z:y3.size=s.size - (a+d):=by rw[hy3,QT s (a+d) s.size nlr]
       have HY3:=Hd hy3;have HY3Z:=Hd hy3z
       have HO3:=Hd hown3;have HA3:=Hd hacc3;have HG3:=Hd hg3
       clear hde hy3 hown3 hacc3 hg3
       by_cases hge:d+n≤k
       ·have hln:lng (gl s (a+d)) (s.size - (a+d))=n:=by rw[HDE.o];exact HSUB.o e (by rw[← HDE.o];exact hge)
        have hnx:=YS s (i:=a+d) (by omega) hln
        have hx1:y3.extract 0 n=s.extract (a+d) (a+d+n):=by rw[HY3.o,ZdG s (a+d) n (by omega)]
        have hx2:y3.extract n y3.size=s.extract (a+d+n) s.size:=by rw[HY3.o,ZdF]
        have HNX:=Hd hnx;have HX1:=Hd hx1;have HX2:=Hd hx2
        have hl3:(acc3.map Value.string).length=m3:=by rw[List.length_map];exact HA3.o
        have HL3:=Hd hl3
        have hm9:m3<4294967296:=by omega
        have hsz3:=hbel3.size
        have hny:n≤y3.size:=by omega
        have hi0:(0:Int)≤(k:Int) - n - d:=by omega
        clear hln hnx hx1 hx2 hl3 hy3z
        go_wp2_with (at_builtin;refine Zx rfl (.tmp 45) (.tmp 49) 23 rfl _ 16 Tryz.underlying23 Zn rfl m3 c3 rfl HO3.o _ rfl rfl HL3.o hm9 (by decide) hsz3 ?_)
        intro g4 c4 w4 ha4
        have hown4:=ha4.own
        rw[HX1.o,← List.map_singleton,← List.map_append] at hown4
        have HO4:=Hd hown4
        have hbel4:=hbel3.trans ha4.bel
        clear ha4 hown4
        go_wp2_with fail
        go_roundw
        case rel=>exact⟨e+1,d+n,m3+1,g4,c4,acc3++[s.extract (a+d) (a+d+n)],y3.extract n y3.size,by rw[HDE.o,Nat.succ_mul],by omega,by omega,rfl,by rw[HX2.o,Nat.add_assoc],rfl,by congr 1;omega,by rw[List.length_append,HA3.o];rfl,by rw[← Nat.add_assoc,← HG3.o,HNX.o,List.append_assoc];rfl,HO4.o,hbel4⟩
        case measure=>simp[intOf];omega
       ·have hi0:¬ (0:Int)≤(k:Int) - n - d:=by omega
        have hd0:0<d:=by omega
        go_wp2_with fail
        go_roundw
        case rel=>exact⟨a+d,m3,g3,c3,acc3,y3,by omega,by omega,rfl,HY3.o,rfl,HA3.o,HG3.o,HO3.o,hbel3⟩
        case measure=>simp only[ZeZ];rw[HYZ.o];omega
    ·have hkd:decide ((k:Int)<(y.size:Int))=false:=by simp;omega
     have hstop:k<s.size - a→gl s a k<gl s a (k - n):=fun h=>absurd (by rw[HYZ.o];exact h) hkl
     have HST:=Hd hstop
     clear hstop
     go_wp2_with fail
     go_quiet (fail)
     have hni:(k:Int) - (i:Int)=(n:Int):=by omega
     have hdq:Dr _ (wr.drewN nq):=hd.drewN nq
     have hsub:∀ e,e * n+n≤k→lng (gl s (a+e * n)) (s.size - (a+e * n))=n:=fun e he=>by
      have hcp:=Ww (N:=s.size - a) (by omega) HP.o HL.o HST.o (by rw[← HYZ.o];exact hky) e he
      rw[ZdA] at hcp
      exact ZeY (by omega) (by rw[HYZ.o] at hky;omega) hcp.1 fun l h1 h2=>hcp.2 l h1 (by omega)
     have HSUB:=Hd hsub
     have hoq:=HO.o.dr hdq
     have HOQ:=Hd hoq
     have hbq:=hbel.trans hdq.below
     have hka:a+k≤s.size:=by rw[HYZ.o] at hky;omega
     clear hsub hoq hdq
     go_wp2_with fail
     go_loopw [0,3,4] (fun x v u w3=>∃ e d m3 g3 c3:Nat,∃ acc3:List ByteArray,∃ y3:ByteArray,d=e * n∧d≤k∧m3≤a+d∧x=.string y3∧y3=s.extract (a+d) s.size∧v=.slice (some ⟨g3,0,none⟩) m3 c3∧u=.int .i64 ((k:Int) - n - d)∧acc3.length=m3∧acc3++Qz s (a+d)=rr∧Own w3 w.heap.size 9 (.slice (some ⟨g3,0,none⟩) m3 c3) (acc3.map Value.string)∧Below w.heap.size w w3) (fun _ _ u _=>(intOf u+1).toNat)
     case atStart=>exact⟨0,0,m,g,c,acc,y,by omega,by omega,by omega,rfl,by rw[HY.o];rfl,rfl,by congr 1;omega,HA.o,HG.o,HOQ.o,hbq⟩
     case round =>
      obtain⟨e,d,m3,g3,c3,acc3,y3,hde,hdk,hm3,rfl,hy3,rfl,rfl,hacc3,hg3,hown3,hbel3⟩:=hrel
      have HDE:=Hd hde
      have hy3z:y3.size=s.size - (a+d):=by rw[hy3,QT s (a+d) s.size nlr]
      have HY3:=Hd hy3;have HY3Z:=Hd hy3z
      have HO3:=Hd hown3;have HA3:=Hd hacc3;have HG3:=Hd hg3
      clear hde hy3 hown3 hacc3 hg3
      by_cases hge:d+n≤k
      ·have hln:lng (gl s (a+d)) (s.size - (a+d))=n:=by rw[HDE.o];exact HSUB.o e (by rw[← HDE.o];exact hge)
       have hnx:=YS s (i:=a+d) (by omega) hln
       have hx1:y3.extract 0 n=s.extract (a+d) (a+d+n):=by rw[HY3.o,ZdG s (a+d) n (by omega)]
       have hx2:y3.extract n y3.size=s.extract (a+d+n) s.size:=by rw[HY3.o,ZdF]
       have HNX:=Hd hnx;have HX1:=Hd hx1;have HX2:=Hd hx2
       have hl3:(acc3.map Value.string).length=m3:=by rw[List.length_map];exact HA3.o
       have HL3:=Hd hl3
       have hm9:m3<4294967296:=by omega
       have hsz3:=hbel3.size
       have hny:n≤y3.size:=by omega
       have hi0:(0:Int)≤(k:Int) - n - d:=by omega
       clear hln hnx hx1 hx2 hl3 hy3z
       go_wp2_with (at_builtin;refine Zx rfl (.tmp 45) (.tmp 49) 23 rfl _ 16 Tryz.underlying23 Zn rfl m3 c3 rfl HO3.o _ rfl rfl HL3.o hm9 (by decide) hsz3 ?_)
       intro g4 c4 w4 ha4
       have hown4:=ha4.own
       rw[HX1.o,← List.map_singleton,← List.map_append] at hown4
       have HO4:=Hd hown4
       have hbel4:=hbel3.trans ha4.bel
       clear ha4 hown4
       go_wp2_with fail
       go_roundw
       case rel=>exact⟨e+1,d+n,m3+1,g4,c4,acc3++[s.extract (a+d) (a+d+n)],y3.extract n y3.size,by rw[HDE.o,Nat.succ_mul],by omega,by omega,rfl,by rw[HX2.o,Nat.add_assoc],rfl,by congr 1;omega,by rw[List.length_append,HA3.o];rfl,by rw[← Nat.add_assoc,← HG3.o,HNX.o,List.append_assoc];rfl,HO4.o,hbel4⟩
       case measure=>simp[intOf];omega
      ·have hi0:¬ (0:Int)≤(k:Int) - n - d:=by omega
       have hd0:0<d:=by omega
       go_wp2_with fail
       go_roundw
       case rel=>exact⟨a+d,m3,g3,c3,acc3,y3,by omega,by omega,rfl,HY3.o,rfl,HA3.o,HG3.o,HO3.o,hbel3⟩
       case measure=>simp only[ZeZ];rw[HYZ.o];omega
  ·have hfin:acc=rr:=by rw[← HG.o,ZdD s (by omega)];simp
   have hrl:rr.length=m:=by rw[← hfin];exact HA.o
   have hemp:y.toList.isEmpty=true:=by rw[ByteArray.toList_eq];have:y.data.toList=[]:=List.eq_nil_of_length_eq_zero (by rw[Zj];omega);rw[this];rfl
   rw[hfin] at HO
   have HRL:=Hd hrl
   clear hfin hrl hyz
   go_wp2_with fail
   go_ret
   exact⟨_,c,by rw[HRL.o];rfl,by rw[HRL.o];exact HO.o,hbel⟩
theorem VR (c:UInt8):∀ (l:List ByteArray) (m:Nat),(∀ x∈l,x.size≤m)→(jnS c l).length≤l.length * (m+1)
 | [],m,_=>by simp[jnS,Lib.join_nil]
 | x :: l,m,h=>by
  have hx:=h x List.mem_cons_self
  have h1:∀ r:List ByteArray,(∀ y∈r,y.size≤m)→(Lib.joinTail [c] (r.map L)).length≤r.length * (m+1):=by
   intro r
   induction r with
   | nil=>intro _;simp[Lib.joinTail]
   | cons y r ih =>
    intro hr
    have h2:=ih fun z hz=>hr z (List.mem_cons_of_mem _ hz)
    have h3:=hr y List.mem_cons_self
    rw[List.map_cons,Lib.joinTail,List.map_cons,List.flatten_cons,← Lib.joinTail,List.length_append,List.length_append,Zj,List.length_cons,List.length_cons,Nat.succ_mul]
    simp only[List.length_nil]
    omega
  have h2:=h1 l fun y hy=>h y (List.mem_cons_of_mem _ hy)
  rw[jnS,List.map_cons,Lib.join_cons,List.length_append,Zj,List.length_cons,Nat.succ_mul]
  omega
theorem Jr {zs:List ByteArray} (h:Zf zs=true):zs.length≤4∧∀ x∈zs,x.size≤8:=by
 rw[Zf,Bool.and_eq_true,List.all_eq_true,decide_eq_true_eq] at h
 refine⟨h.2.2,fun x hx=>?_⟩
 have:=h.1 x hx
 rw[Qa,Bool.and_eq_true,decide_eq_true_eq] at this
 exact this.1.2
def fsV (zs:List ByteArray):ByteArray:=if Zf zs then Zd (jnS 44 zs) else { data:=#[] }
theorem QW (zs:List ByteArray) (A:Option Addr) (n c B:Nat) (w:World) (hl:zs.length=n) (hB:B≤w.heap.size) (hn:n≤4294967296) (hsz:∀ s∈zs,s.size≤maxLen) (hrd:Rds w B A (zs.map Value.string)) :
  Calls Tryz.prog 51 #[.agg #[.slice A n c]] w fun e w'=>e=.returned (.string (fsV zs))∧Below w.heap.size w w':=by
 subst hl
 have bA:Below w.heap.size w (w.alloc (.cells #[.slice A zs.length c] 26)):=(Below.refl _ _).alloc nlr _
 have hso:=ZB zs A c B _ (Nat.le_trans hB bA.size) hn hsz (hrd.below bA hB)
 have h0:=heap_alloc_new w (.cells #[.slice A zs.length c] 26)
 have hz:w.heap.size<(w.alloc (.cells #[.slice A zs.length c] 26)).heap.size:=by simp
 have H0:=Hd h0;have BA:=Hd bA;have HZ:=Hd hz
 clear h0 bA hz
 cases hok:Zf zs
 ·rw[hok] at hso
  have HV:Hid (fsV zs={ data:=#[] }):=Hd (by rw[fsV,hok];rfl)
  have HSO:=Hd hso
  clear hso hok hrd hsz
  go_enter Tryz.func51,Tryz.ntmps51
  go_wp2_with (go_at_call 78;refine HSO.o.mono ?_;rintro e w2 ⟨rfl,b2⟩)
  go_ret
  exact⟨by rw[HV.o];rfl,BA.out.trans (b2.mono (by have:=HZ.o;omega))⟩
 ·rw[hok] at hso
  have HV:Hid (fsV zs=Zd (jnS 44 zs)):=Hd (by rw[fsV,if_pos hok])
  obtain⟨h4,h8⟩:=Jr hok
  have hj:=fun w' r=>VT 44 zs A c B w' (by omega) (fun x hx=>by have:=h8 x hx;omega) r
  have HSO:=Hd hso;have HJ:=Hd hj;have HRD:=Hd hrd
  clear hso hok hrd hsz hj
  go_enter Tryz.func51,Tryz.ntmps51
  go_wp2_with (first
   | (go_at_call 78;refine HSO.o.mono ?_;rintro e w2 ⟨rfl,b2⟩;have k2:=(b2.cell (p:=⟨w.heap.size,0,none⟩) HZ.o).trans (cell_of_row _ _ 0 _ _ (0,0) H0.o))
   | (go_at_call 109;refine (HJ.o _ (HRD.o.below (BA.out.trans (b2.mono (by have:=HZ.o;omega))) hB)).mono ?_;rintro e w3 ⟨rfl,rfl⟩))
  go_ret
  exact⟨by rw[HV.o];rfl,BA.out.trans (b2.mono (by have:=HZ.o;omega))⟩
theorem ZeM (sp:UInt8) (l:List ByteArray) (g n c B:Nat) (w:World) (hn:l.length=n) (h1:1≤n) (hl:l.length≤1000) (hz:∀ x∈l,x.size≤400) (hc:n≤c) (hrd:Rds w B (some ⟨g,0,none⟩) (l.map Value.string)) (hB:B≤w.heap.size) :
  Calls Tryz.prog 28 #[.slice (some ⟨g,0,none⟩) n c,.string { data:=#[sp] }] w fun e w'=>e=.returned (.string (Zd (jnS sp l)))∧Below w.heap.size w w':=by
 subst hn
 have hjl:=Wu sp l hz
 have hcell:∀ (j:Nat) (x:ByteArray),l[j]? = some x→w.cell? ⟨g,0+j,none⟩=some (.string x):=fun j x hx=>by
  obtain⟨ad,e,hb,hc⟩:=hrd j _ (Zs Value.string hx)
  injection e with e
  subst e
  rw[show (⟨g,0,none⟩:Addr).add j=⟨g,0+j,none⟩ from by unfold Addr.add;split<;>simp_all] at hc
  exact hc
 have hgs:g<w.heap.size:=by
  obtain⟨x,hx⟩:=Zc (l:=l) (k:=0) (by omega)
  obtain⟨ad,e,hb,_⟩:=hrd 0 _ (Zs Value.string hx)
  injection e with e
  subst e
  exact Nat.lt_of_lt_of_le hb hB
 refine Tryz.strings_Join g 0 c l { data:=#[sp] } w hcell hgs (by omega) hc (by
  show (jnS sp l).length≤_
  omega)
theorem JO (zs:List ByteArray) (g n c B:Nat) (w:World) (hl:zs.length=n) (hc:n≤c) (hB:B≤w.heap.size) (hsu:Zf zs=true) (hrd:Rds w B (some ⟨g,0,none⟩) (zs.map Value.string)) :
  Calls Tryz.prog 10 #[.agg #[.slice (some ⟨g,0,none⟩) n c]] w fun e w'=>e=.returned (.string (fsV zs))∧Below w.heap.size w w':=by
 subst hl
 obtain⟨h4,h8⟩:=Jr hsu
 have h1:1≤zs.length:=by
  rw[Zf,Bool.and_eq_true,decide_eq_true_eq] at hsu;exact hsu.2.1
 have bA:Below w.heap.size w (w.alloc (.cells #[.slice (some ⟨g,0,none⟩) zs.length c] 26)):=(Below.refl _ _).alloc nlr _
 have hso:=Zz zs (some ⟨g,0,none⟩) c B _ (Nat.le_trans hB bA.size) (by omega) (fun x hx=>by have:=h8 x hx;unfold maxLen;omega) (hrd.below bA hB)
 rw[hsu] at hso
 have h0:=heap_alloc_new w (.cells #[.slice (some ⟨g,0,none⟩) zs.length c] 26)
 have hz:w.heap.size<(w.alloc (.cells #[.slice (some ⟨g,0,none⟩) zs.length c] 26)).heap.size:=by simp
 have hv:fsV zs=Zd (jnS 44 zs):=by rw[fsV,if_pos hsu]
 have hj:=fun v r hb=>ZeM 44 zs g zs.length c B v rfl h1 (by omega) (fun x hx=>by have:=h8 x hx;omega) hc r hb
 have H0:=Hd h0;have BA:=Hd bA;have HZ:=Hd hz;have HSO:=Hd hso;have HJ:=Hd hj;have HRD:=Hd hrd;have HV:=Hd hv
 clear h0 bA hz hso hrd hj hsu h8 hv
 go_enter Tryz.func10,Tryz.ntmps10
 go_wp2_with fail
 refine HSO.o.mono ?_
 rintro e w2 ⟨rfl,b2⟩
 have k2:=(b2.cell (p:=⟨w.heap.size,0,none⟩) HZ.o).trans (cell_of_row _ _ 0 _ _ (0,0) H0.o)
 have bw2:Below w.heap.size w w2:=BA.out.trans (b2.mono (by have:=HZ.o;omega))
 go_wp2_with fail
 refine (HJ.o w2 (HRD.o.below bw2 hB) (Nat.le_trans hB bw2.size)).mono ?_
 rintro e w3 ⟨rfl,b3⟩
 go_wp2_with fail
 go_ret
 exact⟨by rw[HV.o];rfl,bw2.trans (b3.mono bw2.size)⟩
noncomputable def JV (s:ByteArray):ByteArray:=if isW (L s)=true then orD (Zd (jnS 46 (Qz s 0))) else { data:=#[110,111,110,101] }
theorem ZjB (s:ByteArray) (hs:s.size≤maxLen) (w:World) :
  Calls Tryz.prog 81 #[.string s] w fun e w'=>e=.returned (.string (JV s))∧Below w.heap.size w w':=by
 cases h0:isW (L s)
 ·have hv:JV s={ data:=#[110,111,110,101] }:=by rw[JV,h0];rfl
  rw[hv]
  have H0:=Hd h0
  clear h0 hv
  go_enter Tryz.func81,Tryz.ntmps81
  go_wp2_with (go_at_call 43;with_reducible refine (Zi s _ hs H0.o _).mono ?_;rintro e w' ⟨rfl,rfl⟩)
  go_ret
  exact⟨rfl,Below.refl _ _⟩
 ·have hv:JV s=orD (Zd (jnS 46 (Qz s 0))):=by rw[JV,h0];rfl
  rw[hv]
  have h4:=Zb h0
  have hpts:=fun w=>ZiL s h0 w
  have hl:(Qz s 0).length≤1000:=by have:=XM s (s.size+1) 0;unfold Qz;omega
  have hz:∀ x∈Qz s 0,x.size≤400:=fun x hx=>by have:=Ym s (s.size+1) 0 x hx;omega
  have H0:=Hd h0;have HPT:=Hd hpts;have HZ:=Hd hz
  clear h0 hv hpts hz
  go_enter Tryz.func81,Tryz.ntmps81
  go_wp2_with (go_at_call 43;with_reducible refine (Zi s _ hs H0.o _).mono ?_;rintro e w' ⟨rfl,rfl⟩)
  refine (HPT.o _).mono ?_
  rintro e w1 ⟨A1,c1,rfl,o1,b1⟩
  have HO:=Hd o1
  have z1:=b1.size
  clear o1
  go_wp2_with fail
  refine (VT 46 (Qz s 0) A1 c1 _ _ hl HZ.o HO.o.reads).mono ?_
  rintro e w2 ⟨rfl, rfl⟩ --J
  go_wp2_with fail
  refine (J3 (Zd (jnS 46 (Qz s 0))) _).mono ?_
  rintro e w3 ⟨rfl,rfl⟩
  go_wp2_with fail
  go_ret
  exact⟨rfl,b1⟩
theorem ZjC (s:ByteArray) (hs:s.size≤maxLen) (w:World) :
  Calls Tryz.prog 120 #[.string s] w fun e w'=>e=.returned (.string (JV s))∧Below w.heap.size w w':=by
 cases h0:isW (L s)
 ·have hv:JV s={ data:=#[110,111,110,101] }:=by rw[JV,h0];rfl
  rw[hv]
  have H0:=Hd h0
  clear h0 hv
  go_enter Tryz.func120,Tryz.ntmps120
  go_wp2_with (go_at_call 27;with_reducible refine (Zl s _ hs H0.o _).mono ?_;rintro e w' ⟨rfl,rfl⟩)
  go_ret
  exact⟨rfl,Below.refl _ _⟩
 ·have hv:JV s=orD (Zd (jnS 46 (Qz s 0))):=by rw[JV,h0];rfl
  rw[hv]
  have h4:=Zb h0
  have hpts:=fun w=>ZiM s h0 w
  have hl:(Qz s 0).length≤1000:=by have:=XM s (s.size+1) 0;unfold Qz;omega
  have hz:∀ x∈Qz s 0,x.size≤400:=fun x hx=>by have:=Ym s (s.size+1) 0 x hx;omega
  have H0:=Hd h0;have HPT:=Hd hpts;have HZ:=Hd hz
  clear h0 hv hpts hz
  go_enter Tryz.func120,Tryz.ntmps120
  go_wp2_with (go_at_call 27;with_reducible refine (Zl s _ hs H0.o _).mono ?_;rintro e w' ⟨rfl,rfl⟩)
  refine (HPT.o _).mono ?_
  rintro e w1 ⟨A1,c1,rfl,o1,b1⟩
  have HO:=Hd o1
  have z1:=b1.size
  clear o1
  go_wp2_with fail
  refine (Wv 46 (Qz s 0) A1 _ c1 _ _ rfl hl HZ.o HO.o).mono ?_
  rintro e w2 ⟨rfl, b2⟩ --J
  go_wp2_with fail
  refine (Jd (Zd (jnS 46 (Qz s 0))) _).mono ?_
  rintro e w3 ⟨rfl,rfl⟩
  go_wp2_with fail
  go_ret
  exact⟨rfl,b1.trans (b2.mono z1)⟩
theorem Zgi (c:UInt8):∀ (l cur:List UInt8),Qx c cur l≠[]
 | [],cur=>by simp[Qx]
 | x :: l,cur=>by
  rw[Qx]
  split
  ·simp
  ·exact Zgi c l _
theorem YY (c:UInt8):∀ (l cur:List UInt8),Lib.join (Qx c cur l) [c]=cur++l
 | [],cur=>by rw[Qx,Lib.join_one,List.append_nil]
 | x :: l,cur=>by
  rw[Qx]
  split
  ·rename_i h
   have ih:=YY c l []
   have hne:=Zgi c l []
   cases hs:Qx c [] l with
   | nil=>exact absurd hs hne
   | cons y r =>
    rw[hs,Lib.join_cons] at ih
    rw[Lib.join_cons,Lib.joinTail,List.map_cons,List.flatten_cons,← Lib.joinTail,h]
    simp only[List.nil_append] at ih
    rw[List.append_assoc,ih];rfl
  ·rw[YY c l _];simp
theorem ZaX (c:UInt8) (s:ByteArray):jnS c (ZD c s)=L s:=by
 rw[jnS,ZD,List.map_map,show (L ∘ Zd)=id from by funext l;exact Zy l,List.map_id,YY];rfl
def psV (s:ByteArray):Option (List ByteArray):=if Zf (ZD 44 s) then some (ZD 44 s) else none
def psL (s:ByteArray):List ByteArray:=(psV s).getD []
theorem WP {s:ByteArray} (h:Zf (ZD 44 s)=false):psV s=none:=by rw[psV,h];rfl
theorem Zgj {s:ByteArray} (h:Zf (ZD 44 s)=true):psV s=some (ZD 44 s):=by rw[psV,if_pos h]
theorem ZjA {s:ByteArray} (h:40<s.size):psV s=none:=by
 apply WP
 cases h2:Zf (ZD 44 s)
 ·rfl
 ·obtain⟨h3,h4⟩:=Jr h2
  have h5:=VR 44 _ 8 h4
  rw[ZaX,Zj] at h5
  have:(ZD 44 s).length * (8+1)≤4 * (8+1):=Nat.mul_le_mul_right _ h3
  omega
theorem Za {P:Program} {fn:Func} {p u:Tmp} {ty:TypeId} (h:fn.results=#[.cell p ty,.tmp u]) (tmps:Array Value) (w:World) (g:Nat) (t:TypeId) (cs:Array Value) (fr:Nat × Nat) (d:TypeDesc)
  (hp:tmps.getD p undef=.pointer (some ⟨g,0,none⟩)) (hg:w.heap[g]? = some (.cells cs t fr))
  (hu:P.underlying ty=some d) (hd:(match d with|.struct _|.array _ _=>true|_=>false)=true) (hi:(P.info? ty).map (·.size)=some cs.size) :
  (results fn tmps).run P w=.ok (.tuple #[.agg cs,tmps.getD u undef]) w:=by
 rw[results_cell_tmp h,hp]
 simp[asAddr,Result.andThen,run_loadVar_row w g t ty cs fr d hg hu hd hi]
theorem Vd (s:ByteArray) (hs:s.size≤1048576) (w:World) (hml:MlS w) :
  Calls Tryz.prog 55 #[.string s] w fun e w'=>∃ A c,e=.returned (.tuple #[.agg #[.slice A (psL s).length c],.bool (psV s).isSome])∧Own w' w.heap.size 9 (.slice A (psL s).length c) ((psL s).map Value.string)∧Below w.heap.size w w':=by
 have hps:∀ p∈ZD 44 s,p.size≤1048576:=fun p hp=>Nat.le_trans (Z6 44 s p hp) hs
 have hnl:=Qf 44 s
 have bA:Below w.heap.size w (w.alloc (.cells #[.slice none 0 0] 26)):=(Below.refl _ _).alloc nlr _
 have hsp:=Qn s 44 (by omega) _ (hml.below bA)
 have hno:=WP (s:=s)
 have hyes:=Zgj (s:=s)
 obtain⟨ps,hpp⟩:∃ ps,ZD 44 s=ps:=⟨_,rfl⟩
 rw[hpp] at hsp hps hnl hno hyes
 obtain⟨n,hn⟩:∃ n,ps.length=n:=⟨_,rfl⟩
 have hso:=fun A c B w' hB hr=>Zz ps A c B w' hB (by omega) (fun x hx=>by have:=hps x hx;unfold maxLen;omega) hr
 rw[hn] at hsp hnl hso
 have HSP:=Hd hsp;have HSO:=Hd hso;have HNO:=Hd hno;have HYES:=Hd hyes;have HN:=Hd hn
 have h0:=heap_alloc_new w (.cells #[.slice none 0 0] 26)
 have H0:=Hd h0
 clear hsp hso hno hyes hn hps hpp hml h0 bA
 go_enter Tryz.func55,Tryz.ntmps55
 go_wp2_with fail
 refine HSP.o.mono ?_
 rintro e w1 ⟨gs,rfl,o1,b1⟩
 have z0:(w.alloc (.cells #[.slice none 0 0] 26)).heap.size=w.heap.size+1:=by simp
 have z1:=b1.size
 rw[z0] at z1 o1
 have bB:Below w1.heap.size w1 (w1.alloc (.cells #[.slice (some ⟨gs,0,none⟩) n n] 26)):=(Below.refl _ _).alloc nlr _
 have hso:=HSO.o (some ⟨gs,0,none⟩) n _ _ bB.size (o1.reads.below bB nlr)
 have HSO2:=Hd hso;have O1:=Hd o1;have B1:=Hd b1;have BB:=Hd bB;have Z0:=Hd z0
 clear hso o1 b1 bB z0
 cases hok:Zf ps
 ·rw[hok] at HSO2
  have HV:=Hd (HNO.o hok)
  clear hok
  go_wp2_with (go_at_call 26;refine HSO2.o.mono ?_;rintro e w2 ⟨rfl,b2⟩;have q1:=(b2.block w.heap.size (by have:=BB.out.size;omega)).trans ((BB.out.block w.heap.size (by omega)).trans ((B1.out.block w.heap.size (by rw[Z0.out];omega)).trans H0.o));have k1:=cell_of_row _ _ 0 _ _ (0,0) q1;have f1:=frozen_of_row _ _ 0 _ _ q1)
  refine bodyPost_ret (Za rfl _ _ w.heap.size 26 _ (0,0) _ rfl (Zg (k:=0) q1 (.slice none 0 0)) Tryz.underlying26 rfl (by kernel_rfl)) rfl ?_
  refine⟨none,0,by rw[psL,HV.o];rfl,by rw[psL,HV.o];exact Own.nil,?_⟩
  have hw2:Below w.heap.size w w2:=(((Below.refl _ _).alloc nlr _).trans (B1.out.mono (by rw[Z0.out];omega))).trans ((BB.out.mono (by omega)).trans (b2.mono (by have:=BB.out.size;omega)))
  exact hw2.setCell nlr _
 ·rw[hok] at HSO2
  have HV:=Hd (HYES.o hok)
  clear hok
  go_wp2_with (go_at_call 26;refine HSO2.o.mono ?_;rintro e w2 ⟨rfl,b2⟩;have q1:=(b2.block w.heap.size (by have:=BB.out.size;omega)).trans ((BB.out.block w.heap.size (by omega)).trans ((B1.out.block w.heap.size (by rw[Z0.out];omega)).trans H0.o));have k1:=cell_of_row _ _ 0 _ _ (0,0) q1;have f1:=frozen_of_row _ _ 0 _ _ q1;have k2:=(b2.cell (p:=⟨w1.heap.size,0,none⟩) (by simp)).trans (cell_of_row _ _ 0 _ _ (0,0) (heap_alloc_new w1 (.cells #[.slice (some ⟨gs,0,none⟩) n n] 26))))
  refine bodyPost_ret (Za rfl _ _ w.heap.size 26 _ (0,0) _ rfl (Zg (k:=0) q1 (.slice (some ⟨gs,0,none⟩) n n)) Tryz.underlying26 rfl (by kernel_rfl)) rfl ?_
  have hw2:Below w.heap.size w w2:=(((Below.refl _ _).alloc nlr _).trans (B1.out.mono (by rw[Z0.out];omega))).trans ((BB.out.mono (by omega)).trans (b2.mono (by have:=BB.out.size;omega)))
  have ho:=(((O1.out.below BB.out).below b2).far_set (g:=w.heap.size) (k:=0) (by omega) (.slice (some ⟨gs,0,none⟩) n n)).lower (B':=w.heap.size) (by omega)
  exact⟨some ⟨gs,0,none⟩,n,by rw[psL,HV.o];show _=Ending.returned (.tuple #[.agg #[.slice _ ps.length n],_]);rw[HN.o];rfl,by rw[psL,HV.o];show Own _ _ _ (.slice _ ps.length n) _;rw[HN.o];exact ho,hw2.setCell nlr _⟩
theorem Ve (s:ByteArray) (hs:s.size≤1048576) (w:World) :
  Calls Tryz.prog 145 #[.string s] w fun e w'=>∃ A c,e=.returned (.tuple #[.agg #[.slice A (psL s).length c],.bool (psV s).isSome])∧Own w' w.heap.size 9 (.slice A (psL s).length c) ((psL s).map Value.string)∧Below w.heap.size w w':=by
 have hps:∀ p∈ZD 44 s,p.size≤1048576:=fun p hp=>Nat.le_trans (Z6 44 s p hp) hs
 have hnl:=Qf 44 s
 have bA:Below w.heap.size w (w.alloc (.cells #[.slice none 0 0] 26)):=(Below.refl _ _).alloc nlr _
 have h0:=heap_alloc_new w (.cells #[.slice none 0 0] 26)
 by_cases h40:40<s.size
 ·have HV:=Hd (ZjA h40)
  have h41:(40:Int)<(s.size:Int):=by omega
  have k1:=cell_of_row _ _ 0 _ _ (0,0) h0
  have f1:=frozen_of_row _ _ 0 _ _ h0
  go_enter Tryz.func145,Tryz.ntmps145
  go_wp2_with fail
  refine bodyPost_ret (Za rfl _ _ w.heap.size 26 _ (0,0) _ rfl h0 Tryz.underlying26 rfl (by kernel_rfl)) rfl ?_
  exact⟨none,0,by rw[psL,HV.o];rfl,by rw[psL,HV.o];exact Own.nil,bA⟩
 have h41:decide ((40:Int)<(s.size:Int))=false:=decide_eq_false (by omega)
 have h42:decide (40<s.size)=false:=decide_eq_false h40
 have hsp:=JL s 44 hs (w.alloc (.cells #[.slice none 0 0] 26))
 have hno:=WP (s:=s)
 have hyes:=Zgj (s:=s)
 have hfj:Zf (ZD 44 s)=true→fsV (ZD 44 s)=s:=fun h=>by rw[fsV,if_pos h,ZaX,Ql]
 obtain⟨ps,hpp⟩:∃ ps,ZD 44 s=ps:=⟨_,rfl⟩
 rw[hpp] at hsp hps hnl hno hyes hfj
 obtain⟨n,hn⟩:∃ n,ps.length=n:=⟨_,rfl⟩
 have hso:=fun A c B w' hB hr=>ZB ps A c B w' hB (by omega) (fun x hx=>by have:=hps x hx;unfold maxLen;omega) hr
 have hfs:=fun A c B w' hB hr=>QW ps A n c B w' hn hB (by omega) (fun x hx=>by have:=hps x hx;unfold maxLen;omega) hr
 rw[hn] at hsp hnl hso
 have HSP:=Hd hsp;have HSO:=Hd hso;have HNO:=Hd hno;have HYES:=Hd hyes;have HN:=Hd hn;have HFS:=Hd hfs;have HFJ:=Hd hfj
 have H0:=Hd h0
 clear hsp hso hno hyes hn hps hpp h0 bA hfs hfj h40
 go_enter Tryz.func145,Tryz.ntmps145
 go_wp2_with fail
 refine HSP.o.mono ?_
 rintro e w1 ⟨gs,cs,rfl,o1,b1⟩
 have z0:(w.alloc (.cells #[.slice none 0 0] 26)).heap.size=w.heap.size+1:=by simp
 have z1:=b1.size
 rw[z0] at z1 o1
 have bB:Below w1.heap.size w1 (w1.alloc (.cells #[.slice (some ⟨gs,0,none⟩) n cs] 26)):=(Below.refl _ _).alloc nlr _
 have hrB:=o1.reads.below bB nlr
 have hso:=HSO.o (some ⟨gs,0,none⟩) cs _ _ bB.size hrB
 have HSO2:=Hd hso;have O1:=Hd o1;have B1:=Hd b1;have BB:=Hd bB;have Z0:=Hd z0;have HRB:=Hd hrB
 clear hso o1 b1 bB z0 hrB
 cases hok:Zf ps
 ·rw[hok] at HSO2
  have HV:=Hd (HNO.o hok)
  clear hok
  go_wp2_with (go_at_call 78;refine HSO2.o.mono ?_;rintro e w2 ⟨rfl,b2⟩;have q1:=(b2.block w.heap.size (by have:=BB.out.size;omega)).trans ((BB.out.block w.heap.size (by omega)).trans ((B1.out.block w.heap.size (by rw[Z0.out];omega)).trans H0.o));have k1:=cell_of_row _ _ 0 _ _ (0,0) q1;have f1:=frozen_of_row _ _ 0 _ _ q1)
  refine bodyPost_ret (Za rfl _ _ w.heap.size 26 _ (0,0) _ rfl (Zg (k:=0) q1 (.slice none 0 0)) Tryz.underlying26 rfl (by kernel_rfl)) rfl ?_
  refine⟨none,0,by rw[psL,HV.o];rfl,by rw[psL,HV.o];exact Own.nil,?_⟩
  have hw2:Below w.heap.size w w2:=(((Below.refl _ _).alloc nlr _).trans (B1.out.mono (by rw[Z0.out];omega))).trans ((BB.out.mono (by omega)).trans (b2.mono (by have:=BB.out.size;omega)))
  exact hw2.setCell nlr _
 ·rw[hok] at HSO2
  have HV:=Hd (HYES.o hok)
  have hfs:=fun w' hB hr=>HFS.o (some ⟨gs,0,none⟩) cs w1.heap.size w' hB hr
  simp only[HFJ.o hok] at hfs
  have HFS2:=Hd hfs
  clear hok hfs
  go_wp2_with (first
   | (go_at_call 78;refine HSO2.o.mono ?_;rintro e w2 ⟨rfl,b2⟩;have k2:=(b2.cell (p:=⟨w1.heap.size,0,none⟩) (by simp)).trans (cell_of_row _ _ 0 _ _ (0,0) (heap_alloc_new w1 (.cells #[.slice (some ⟨gs,0,none⟩) n cs] 26))))
   | (go_at_call 51;refine (HFS2.o _ (Nat.le_trans BB.out.size b2.size) (HRB.o.below b2 BB.out.size)).mono ?_;rintro e w3 ⟨rfl,b3⟩;have b23:=b2.trans (b3.mono b2.size);have q1:=(b23.block w.heap.size (by have:=BB.out.size;omega)).trans ((BB.out.block w.heap.size (by omega)).trans ((B1.out.block w.heap.size (by rw[Z0.out];omega)).trans H0.o));have k1:=cell_of_row _ _ 0 _ _ (0,0) q1;have f1:=frozen_of_row _ _ 0 _ _ q1;have k3:=(b3.cell (p:=⟨w1.heap.size,0,none⟩) (Nat.lt_of_lt_of_le (by simp) b2.size)).trans k2))
  refine bodyPost_ret (Za rfl _ _ w.heap.size 26 _ (0,0) _ rfl (Zg (k:=0) q1 (.slice (some ⟨gs,0,none⟩) n cs)) Tryz.underlying26 rfl (by kernel_rfl)) rfl ?_
  have hw2:Below w.heap.size w w3:=(((Below.refl _ _).alloc nlr _).trans (B1.out.mono (by rw[Z0.out];omega))).trans ((BB.out.mono (by omega)).trans (b23.mono (by have:=BB.out.size;omega)))
  have ho:=(((O1.out.below BB.out).below b23).far_set (g:=w.heap.size) (k:=0) (by omega) (.slice (some ⟨gs,0,none⟩) n cs)).lower (B':=w.heap.size) (by omega)
  exact⟨some ⟨gs,0,none⟩,cs,by rw[psL,HV.o];show _=Ending.returned (.tuple #[.agg #[.slice _ ps.length cs],_]);rw[HN.o];rfl,by rw[psL,HV.o];show Own _ _ _ (.slice _ ps.length cs) _;rw[HN.o];exact ho,hw2.setCell nlr _⟩
def nmT (s:ByteArray):ByteArray :=
 if s={ data:=#[102,105,98,111,110,97,99,99,105] } then { data:=#[97,98,44,97] } else
 if s={ data:=#[116,104,117,101] } then { data:=#[97,98,44,98,97] } else
 if s={ data:=#[100,111,117,98,108,105,110,103] } then { data:=#[97,98,44,97,97] } else
 if s={ data:=#[116,114,105,98,111,110,97,99,99,105] } then { data:=#[97,98,44,97,99,44,97] } else
 if s={ data:=#[115,105,108,118,101,114] } then { data:=#[97,97,98,44,97] } else
 if s={ data:=#[115,113,117,97,114,101,102,114,101,101] } then { data:=#[97,98,99,44,97,99,44,98] } else
 if s={ data:=#[114,117,100,105,110] } then { data:=#[97,98,44,97,99,44,100,98,44,100,99] } else
 { data:=#[] }
theorem WB (s:ByteArray) (w:World) (hml:MlS w) :
  Calls Tryz.prog 23 #[.string s] w fun e w'=>∃ A c,e=.returned (.tuple #[.agg #[.slice A (psL (nmT s)).length c],.bool (psV (nmT s)).isSome])∧Own w' w.heap.size 9 (.slice A (psL (nmT s)).length c) ((psL (nmT s)).map Value.string)∧Below w.heap.size w w':=by
 have bA:Below w.heap.size w (w.alloc (.cells #[.slice none 0 0] 26)):=(Below.refl _ _).alloc nlr _
 have h0:=heap_alloc_new w (.cells #[.slice none 0 0] 26)
 have z0:(w.alloc (.cells #[.slice none 0 0] 26)).heap.size=w.heap.size+1:=by simp
 have hps:=fun (t:ByteArray) (ht:t.size≤1048576)=>Vd t ht _ (hml.below bA)
 rw[z0] at hps
 have HPS:=Hd hps;have H0:=Hd h0;have BA:=Hd bA;have Z0:=Hd z0
 clear hps h0 bA z0
 by_cases h1:s={ data:=#[102,105,98,111,110,97,99,99,105] }
 ·have e1:(s.toList==[102,105,98,111,110,97,99,99,105])=true:=by rw[h1,ByteArray.toList_eq];rfl
  have hn:nmT s={ data:=#[97,98,44,97] }:=by unfold nmT;simp only[if_pos h1];try rfl
  have hc:=HPS.o { data:=#[97,98,44,97] } (by decide)
  rw[hn]
  obtain⟨V,hV⟩:∃ V,psL { data:=#[97,98,44,97] }=V:=⟨_,rfl⟩
  obtain⟨b,hb⟩:∃ b,(psV { data:=#[97,98,44,97] }).isSome=b:=⟨_,rfl⟩
  rw[hV,hb] at hc ⊢
  have HC:=Hd hc
  clear hc hn hV hb
  clear h1
  go_enter Tryz.func23,Tryz.ntmps23
  go_wp2_with (go_at_call 55;refine HC.o.mono ?_;rintro e w2 ⟨A,c,rfl,o2,b2⟩;have q1:=(b2.block w.heap.size (by omega)).trans H0.o;have k1:=cell_of_row _ _ 0 _ _ (0,0) q1;have f1:=frozen_of_row _ _ 0 _ _ q1)
  have z2:=b2.size
  have hw2:Below w.heap.size w w2:=BA.out.trans (b2.mono (by omega))
  refine bodyPost_ret (Za rfl _ _ w.heap.size 26 _ (0,0) _ rfl (Zg (k:=0) q1 (.slice A V.length c)) Tryz.underlying26 rfl (by kernel_rfl)) rfl ?_
  exact⟨A,c,rfl,(o2.far_set (g:=w.heap.size) (k:=0) (by omega) (.slice A V.length c)).lower (by omega),hw2.setCell nlr _⟩
 have e1:(s.toList==[102,105,98,111,110,97,99,99,105])=false:=by have:=Zr h1;rwa[show ({ data:=#[102,105,98,111,110,97,99,99,105] }:ByteArray).toList=[102,105,98,111,110,97,99,99,105] from by rw[ByteArray.toList_eq]] at this
 by_cases h2:s={ data:=#[116,104,117,101] }
 ·have e2:(s.toList==[116,104,117,101])=true:=by rw[h2,ByteArray.toList_eq];rfl
  have hn:nmT s={ data:=#[97,98,44,98,97] }:=by unfold nmT;simp only[if_neg h1,if_pos h2];try rfl
  have hc:=HPS.o { data:=#[97,98,44,98,97] } (by decide)
  rw[hn]
  obtain⟨V,hV⟩:∃ V,psL { data:=#[97,98,44,98,97] }=V:=⟨_,rfl⟩
  obtain⟨b,hb⟩:∃ b,(psV { data:=#[97,98,44,98,97] }).isSome=b:=⟨_,rfl⟩
  rw[hV,hb] at hc ⊢
  have HC:=Hd hc
  clear hc hn hV hb
  clear h1 h2
  go_enter Tryz.func23,Tryz.ntmps23
  go_wp2_with (go_at_call 55;refine HC.o.mono ?_;rintro e w2 ⟨A,c,rfl,o2,b2⟩;have q1:=(b2.block w.heap.size (by omega)).trans H0.o;have k1:=cell_of_row _ _ 0 _ _ (0,0) q1;have f1:=frozen_of_row _ _ 0 _ _ q1)
  have z2:=b2.size
  have hw2:Below w.heap.size w w2:=BA.out.trans (b2.mono (by omega))
  refine bodyPost_ret (Za rfl _ _ w.heap.size 26 _ (0,0) _ rfl (Zg (k:=0) q1 (.slice A V.length c)) Tryz.underlying26 rfl (by kernel_rfl)) rfl ?_
  exact⟨A,c,rfl,(o2.far_set (g:=w.heap.size) (k:=0) (by omega) (.slice A V.length c)).lower (by omega),hw2.setCell nlr _⟩
 have e2:(s.toList==[116,104,117,101])=false:=by have:=Zr h2;rwa[show ({ data:=#[116,104,117,101] }:ByteArray).toList=[116,104,117,101] from by rw[ByteArray.toList_eq]] at this
 by_cases h3:s={ data:=#[100,111,117,98,108,105,110,103] }
 ·have e3:(s.toList==[100,111,117,98,108,105,110,103])=true:=by rw[h3,ByteArray.toList_eq];rfl
  have hn:nmT s={ data:=#[97,98,44,97,97] }:=by unfold nmT;simp only[if_neg h1,if_neg h2,if_pos h3];try rfl
  have hc:=HPS.o { data:=#[97,98,44,97,97] } (by decide)
  rw[hn]
  obtain⟨V,hV⟩:∃ V,psL { data:=#[97,98,44,97,97] }=V:=⟨_,rfl⟩
  obtain⟨b,hb⟩:∃ b,(psV { data:=#[97,98,44,97,97] }).isSome=b:=⟨_,rfl⟩
  rw[hV,hb] at hc ⊢
  have HC:=Hd hc
  clear hc hn hV hb
  clear h1 h2 h3
  go_enter Tryz.func23,Tryz.ntmps23
  go_wp2_with (go_at_call 55;refine HC.o.mono ?_;rintro e w2 ⟨A,c,rfl,o2,b2⟩;have q1:=(b2.block w.heap.size (by omega)).trans H0.o;have k1:=cell_of_row _ _ 0 _ _ (0,0) q1;have f1:=frozen_of_row _ _ 0 _ _ q1)
  have z2:=b2.size
  have hw2:Below w.heap.size w w2:=BA.out.trans (b2.mono (by omega))
  refine bodyPost_ret (Za rfl _ _ w.heap.size 26 _ (0,0) _ rfl (Zg (k:=0) q1 (.slice A V.length c)) Tryz.underlying26 rfl (by kernel_rfl)) rfl ?_
  exact⟨A,c,rfl,(o2.far_set (g:=w.heap.size) (k:=0) (by omega) (.slice A V.length c)).lower (by omega),hw2.setCell nlr _⟩
 have e3:(s.toList==[100,111,117,98,108,105,110,103])=false:=by have:=Zr h3;rwa[show ({ data:=#[100,111,117,98,108,105,110,103] }:ByteArray).toList=[100,111,117,98,108,105,110,103] from by rw[ByteArray.toList_eq]] at this
 by_cases h4:s={ data:=#[116,114,105,98,111,110,97,99,99,105] }
 ·have e4:(s.toList==[116,114,105,98,111,110,97,99,99,105])=true:=by rw[h4,ByteArray.toList_eq];rfl
  have hn:nmT s={ data:=#[97,98,44,97,99,44,97] }:=by unfold nmT;simp only[if_neg h1,if_neg h2,if_neg h3,if_pos h4];try rfl
  have hc:=HPS.o { data:=#[97,98,44,97,99,44,97] } (by decide)
  rw[hn]
  obtain⟨V,hV⟩:∃ V,psL { data:=#[97,98,44,97,99,44,97] }=V:=⟨_,rfl⟩
  obtain⟨b,hb⟩:∃ b,(psV { data:=#[97,98,44,97,99,44,97] }).isSome=b:=⟨_,rfl⟩
  rw[hV,hb] at hc ⊢
  have HC:=Hd hc
  clear hc hn hV hb
  clear h1 h2 h3 h4
  go_enter Tryz.func23,Tryz.ntmps23
  go_wp2_with (go_at_call 55;refine HC.o.mono ?_;rintro e w2 ⟨A,c,rfl,o2,b2⟩;have q1:=(b2.block w.heap.size (by omega)).trans H0.o;have k1:=cell_of_row _ _ 0 _ _ (0,0) q1;have f1:=frozen_of_row _ _ 0 _ _ q1)
  have z2:=b2.size
  have hw2:Below w.heap.size w w2:=BA.out.trans (b2.mono (by omega))
  refine bodyPost_ret (Za rfl _ _ w.heap.size 26 _ (0,0) _ rfl (Zg (k:=0) q1 (.slice A V.length c)) Tryz.underlying26 rfl (by kernel_rfl)) rfl ?_
  exact⟨A,c,rfl,(o2.far_set (g:=w.heap.size) (k:=0) (by omega) (.slice A V.length c)).lower (by omega),hw2.setCell nlr _⟩
 have e4:(s.toList==[116,114,105,98,111,110,97,99,99,105])=false:=by have:=Zr h4;rwa[show ({ data:=#[116,114,105,98,111,110,97,99,99,105] }:ByteArray).toList=[116,114,105,98,111,110,97,99,99,105] from by rw[ByteArray.toList_eq]] at this
 by_cases h5:s={ data:=#[115,105,108,118,101,114] }
 ·have e5:(s.toList==[115,105,108,118,101,114])=true:=by rw[h5,ByteArray.toList_eq];rfl
  have hn:nmT s={ data:=#[97,97,98,44,97] }:=by unfold nmT;simp only[if_neg h1,if_neg h2,if_neg h3,if_neg h4,if_pos h5];try rfl
  have hc:=HPS.o { data:=#[97,97,98,44,97] } (by decide)
  rw[hn]
  obtain⟨V,hV⟩:∃ V,psL { data:=#[97,97,98,44,97] }=V:=⟨_,rfl⟩
  obtain⟨b,hb⟩:∃ b,(psV { data:=#[97,97,98,44,97] }).isSome=b:=⟨_,rfl⟩
  rw[hV,hb] at hc ⊢
  have HC:=Hd hc
  clear hc hn hV hb
  clear h1 h2 h3 h4 h5
  go_enter Tryz.func23,Tryz.ntmps23
  go_wp2_with (go_at_call 55;refine HC.o.mono ?_;rintro e w2 ⟨A,c,rfl,o2,b2⟩;have q1:=(b2.block w.heap.size (by omega)).trans H0.o;have k1:=cell_of_row _ _ 0 _ _ (0,0) q1;have f1:=frozen_of_row _ _ 0 _ _ q1)
  have z2:=b2.size
  have hw2:Below w.heap.size w w2:=BA.out.trans (b2.mono (by omega))
  refine bodyPost_ret (Za rfl _ _ w.heap.size 26 _ (0,0) _ rfl (Zg (k:=0) q1 (.slice A V.length c)) Tryz.underlying26 rfl (by kernel_rfl)) rfl ?_
  exact⟨A,c,rfl,(o2.far_set (g:=w.heap.size) (k:=0) (by omega) (.slice A V.length c)).lower (by omega),hw2.setCell nlr _⟩
 have e5:(s.toList==[115,105,108,118,101,114])=false:=by have:=Zr h5;rwa[show ({ data:=#[115,105,108,118,101,114] }:ByteArray).toList=[115,105,108,118,101,114] from by rw[ByteArray.toList_eq]] at this
 by_cases h6:s={ data:=#[115,113,117,97,114,101,102,114,101,101] }
 ·have e6:(s.toList==[115,113,117,97,114,101,102,114,101,101])=true:=by rw[h6,ByteArray.toList_eq];rfl
  have hn:nmT s={ data:=#[97,98,99,44,97,99,44,98] }:=by unfold nmT;simp only[if_neg h1,if_neg h2,if_neg h3,if_neg h4,if_neg h5,if_pos h6];try rfl
  have hc:=HPS.o { data:=#[97,98,99,44,97,99,44,98] } (by decide)
  rw[hn]
  obtain⟨V,hV⟩:∃ V,psL { data:=#[97,98,99,44,97,99,44,98] }=V:=⟨_,rfl⟩
  obtain⟨b,hb⟩:∃ b,(psV { data:=#[97,98,99,44,97,99,44,98] }).isSome=b:=⟨_,rfl⟩
  rw[hV,hb] at hc ⊢
  have HC:=Hd hc
  clear hc hn hV hb
  clear h1 h2 h3 h4 h5 h6
  go_enter Tryz.func23,Tryz.ntmps23
  go_wp2_with (go_at_call 55;refine HC.o.mono ?_;rintro e w2 ⟨A,c,rfl,o2,b2⟩;have q1:=(b2.block w.heap.size (by omega)).trans H0.o;have k1:=cell_of_row _ _ 0 _ _ (0,0) q1;have f1:=frozen_of_row _ _ 0 _ _ q1)
  have z2:=b2.size
  have hw2:Below w.heap.size w w2:=BA.out.trans (b2.mono (by omega))
  refine bodyPost_ret (Za rfl _ _ w.heap.size 26 _ (0,0) _ rfl (Zg (k:=0) q1 (.slice A V.length c)) Tryz.underlying26 rfl (by kernel_rfl)) rfl ?_
  exact⟨A,c,rfl,(o2.far_set (g:=w.heap.size) (k:=0) (by omega) (.slice A V.length c)).lower (by omega),hw2.setCell nlr _⟩
 have e6:(s.toList==[115,113,117,97,114,101,102,114,101,101])=false:=by have:=Zr h6;rwa[show ({ data:=#[115,113,117,97,114,101,102,114,101,101] }:ByteArray).toList=[115,113,117,97,114,101,102,114,101,101] from by rw[ByteArray.toList_eq]] at this
 by_cases h7:s={ data:=#[114,117,100,105,110] }
 ·have e7:(s.toList==[114,117,100,105,110])=true:=by rw[h7,ByteArray.toList_eq];rfl
  have hn:nmT s={ data:=#[97,98,44,97,99,44,100,98,44,100,99] }:=by unfold nmT;simp only[if_neg h1,if_neg h2,if_neg h3,if_neg h4,if_neg h5,if_neg h6,if_pos h7];try rfl
  have hc:=HPS.o { data:=#[97,98,44,97,99,44,100,98,44,100,99] } (by decide)
  rw[hn]
  obtain⟨V,hV⟩:∃ V,psL { data:=#[97,98,44,97,99,44,100,98,44,100,99] }=V:=⟨_,rfl⟩
  obtain⟨b,hb⟩:∃ b,(psV { data:=#[97,98,44,97,99,44,100,98,44,100,99] }).isSome=b:=⟨_,rfl⟩
  rw[hV,hb] at hc ⊢
  have HC:=Hd hc
  clear hc hn hV hb
  clear h1 h2 h3 h4 h5 h6 h7
  go_enter Tryz.func23,Tryz.ntmps23
  go_wp2_with (go_at_call 55;refine HC.o.mono ?_;rintro e w2 ⟨A,c,rfl,o2,b2⟩;have q1:=(b2.block w.heap.size (by omega)).trans H0.o;have k1:=cell_of_row _ _ 0 _ _ (0,0) q1;have f1:=frozen_of_row _ _ 0 _ _ q1)
  have z2:=b2.size
  have hw2:Below w.heap.size w w2:=BA.out.trans (b2.mono (by omega))
  refine bodyPost_ret (Za rfl _ _ w.heap.size 26 _ (0,0) _ rfl (Zg (k:=0) q1 (.slice A V.length c)) Tryz.underlying26 rfl (by kernel_rfl)) rfl ?_
  exact⟨A,c,rfl,(o2.far_set (g:=w.heap.size) (k:=0) (by omega) (.slice A V.length c)).lower (by omega),hw2.setCell nlr _⟩
 have e7:(s.toList==[114,117,100,105,110])=false:=by have:=Zr h7;rwa[show ({ data:=#[114,117,100,105,110] }:ByteArray).toList=[114,117,100,105,110] from by rw[ByteArray.toList_eq]] at this
 have hn:nmT s={ data:=#[] }:=by unfold nmT;simp only[if_neg h1,if_neg h2,if_neg h3,if_neg h4,if_neg h5,if_neg h6,if_neg h7];try rfl
 have hc:=HPS.o { data:=#[] } (by decide)
 rw[hn]
 obtain⟨V,hV⟩:∃ V,psL { data:=#[] }=V:=⟨_,rfl⟩
 obtain⟨b,hb⟩:∃ b,(psV { data:=#[] }).isSome=b:=⟨_,rfl⟩
 rw[hV,hb] at hc ⊢
 have HC:=Hd hc
 clear hc hn hV hb
 clear h1 h2 h3 h4 h5 h6 h7
 go_enter Tryz.func23,Tryz.ntmps23
 go_wp2_with (go_at_call 55;refine HC.o.mono ?_;rintro e w2 ⟨A,c,rfl,o2,b2⟩;have q1:=(b2.block w.heap.size (by omega)).trans H0.o;have k1:=cell_of_row _ _ 0 _ _ (0,0) q1;have f1:=frozen_of_row _ _ 0 _ _ q1)
 have z2:=b2.size
 have hw2:Below w.heap.size w w2:=BA.out.trans (b2.mono (by omega))
 refine bodyPost_ret (Za rfl _ _ w.heap.size 26 _ (0,0) _ rfl (Zg (k:=0) q1 (.slice A V.length c)) Tryz.underlying26 rfl (by kernel_rfl)) rfl ?_
 exact⟨A,c,rfl,(o2.far_set (g:=w.heap.size) (k:=0) (by omega) (.slice A V.length c)).lower (by omega),hw2.setCell nlr _⟩
theorem VU (s:ByteArray) (w:World) :
  Calls Tryz.prog 76 #[.string s] w fun e w'=>∃ A c,e=.returned (.tuple #[.agg #[.slice A (psL (nmT s)).length c],.bool (psV (nmT s)).isSome])∧Own w' w.heap.size 9 (.slice A (psL (nmT s)).length c) ((psL (nmT s)).map Value.string)∧Below w.heap.size w w':=by
 have bA:Below w.heap.size w (w.alloc (.cells #[.slice none 0 0] 26)):=(Below.refl _ _).alloc nlr _
 have h0:=heap_alloc_new w (.cells #[.slice none 0 0] 26)
 have z0:(w.alloc (.cells #[.slice none 0 0] 26)).heap.size=w.heap.size+1:=by simp
 have hps:=fun (t:ByteArray) (ht:t.size≤1048576)=>Ve t ht (w.alloc (.cells #[.slice none 0 0] 26))
 rw[z0] at hps
 have HPS:=Hd hps;have H0:=Hd h0;have BA:=Hd bA;have Z0:=Hd z0
 clear hps h0 bA z0
 by_cases h1:s={ data:=#[102,105,98,111,110,97,99,99,105] }
 ·have e1:(s.toList==[102,105,98,111,110,97,99,99,105])=true:=by rw[h1,ByteArray.toList_eq];rfl
  have hn:nmT s={ data:=#[97,98,44,97] }:=by unfold nmT;simp only[if_pos h1];try rfl
  have hc:=HPS.o { data:=#[97,98,44,97] } (by decide)
  rw[hn]
  obtain⟨V,hV⟩:∃ V,psL { data:=#[97,98,44,97] }=V:=⟨_,rfl⟩
  obtain⟨b,hb⟩:∃ b,(psV { data:=#[97,98,44,97] }).isSome=b:=⟨_,rfl⟩
  rw[hV,hb] at hc ⊢
  have HC:=Hd hc
  clear hc hn hV hb
  clear h1
  go_enter Tryz.func76,Tryz.ntmps76
  go_wp2_with (go_at_call 145;refine HC.o.mono ?_;rintro e w2 ⟨A,c,rfl,o2,b2⟩;have q1:=(b2.block w.heap.size (by omega)).trans H0.o;have k1:=cell_of_row _ _ 0 _ _ (0,0) q1;have f1:=frozen_of_row _ _ 0 _ _ q1)
  have z2:=b2.size
  have hw2:Below w.heap.size w w2:=BA.out.trans (b2.mono (by omega))
  refine bodyPost_ret (Za rfl _ _ w.heap.size 26 _ (0,0) _ rfl (Zg (k:=0) q1 (.slice A V.length c)) Tryz.underlying26 rfl (by kernel_rfl)) rfl ?_
  exact⟨A,c,rfl,(o2.far_set (g:=w.heap.size) (k:=0) (by omega) (.slice A V.length c)).lower (by omega),hw2.setCell nlr _⟩
 have e1:(s.toList==[102,105,98,111,110,97,99,99,105])=false:=by have:=Zr h1;rwa[show ({ data:=#[102,105,98,111,110,97,99,99,105] }:ByteArray).toList=[102,105,98,111,110,97,99,99,105] from by rw[ByteArray.toList_eq]] at this
 by_cases h2:s={ data:=#[116,104,117,101] }
 ·have e2:(s.toList==[116,104,117,101])=true:=by rw[h2,ByteArray.toList_eq];rfl
  have hn:nmT s={ data:=#[97,98,44,98,97] }:=by unfold nmT;simp only[if_neg h1,if_pos h2];try rfl
  have hc:=HPS.o { data:=#[97,98,44,98,97] } (by decide)
  rw[hn]
  obtain⟨V,hV⟩:∃ V,psL { data:=#[97,98,44,98,97] }=V:=⟨_,rfl⟩
  obtain⟨b,hb⟩:∃ b,(psV { data:=#[97,98,44,98,97] }).isSome=b:=⟨_,rfl⟩
  rw[hV,hb] at hc ⊢
  have HC:=Hd hc
  clear hc hn hV hb
  clear h1 h2
  go_enter Tryz.func76,Tryz.ntmps76
  go_wp2_with (go_at_call 145;refine HC.o.mono ?_;rintro e w2 ⟨A,c,rfl,o2,b2⟩;have q1:=(b2.block w.heap.size (by omega)).trans H0.o;have k1:=cell_of_row _ _ 0 _ _ (0,0) q1;have f1:=frozen_of_row _ _ 0 _ _ q1)
  have z2:=b2.size
  have hw2:Below w.heap.size w w2:=BA.out.trans (b2.mono (by omega))
  refine bodyPost_ret (Za rfl _ _ w.heap.size 26 _ (0,0) _ rfl (Zg (k:=0) q1 (.slice A V.length c)) Tryz.underlying26 rfl (by kernel_rfl)) rfl ?_
  exact⟨A,c,rfl,(o2.far_set (g:=w.heap.size) (k:=0) (by omega) (.slice A V.length c)).lower (by omega),hw2.setCell nlr _⟩
 have e2:(s.toList==[116,104,117,101])=false:=by have:=Zr h2;rwa[show ({ data:=#[116,104,117,101] }:ByteArray).toList=[116,104,117,101] from by rw[ByteArray.toList_eq]] at this
 by_cases h3:s={ data:=#[100,111,117,98,108,105,110,103] }
 ·have e3:(s.toList==[100,111,117,98,108,105,110,103])=true:=by rw[h3,ByteArray.toList_eq];rfl
  have hn:nmT s={ data:=#[97,98,44,97,97] }:=by unfold nmT;simp only[if_neg h1,if_neg h2,if_pos h3];try rfl
  have hc:=HPS.o { data:=#[97,98,44,97,97] } (by decide)
  rw[hn]
  obtain⟨V,hV⟩:∃ V,psL { data:=#[97,98,44,97,97] }=V:=⟨_,rfl⟩
  obtain⟨b,hb⟩:∃ b,(psV { data:=#[97,98,44,97,97] }).isSome=b:=⟨_,rfl⟩
  rw[hV,hb] at hc ⊢
  have HC:=Hd hc
  clear hc hn hV hb
  clear h1 h2 h3
  go_enter Tryz.func76,Tryz.ntmps76
  go_wp2_with (go_at_call 145;refine HC.o.mono ?_;rintro e w2 ⟨A,c,rfl,o2,b2⟩;have q1:=(b2.block w.heap.size (by omega)).trans H0.o;have k1:=cell_of_row _ _ 0 _ _ (0,0) q1;have f1:=frozen_of_row _ _ 0 _ _ q1)
  have z2:=b2.size
  have hw2:Below w.heap.size w w2:=BA.out.trans (b2.mono (by omega))
  refine bodyPost_ret (Za rfl _ _ w.heap.size 26 _ (0,0) _ rfl (Zg (k:=0) q1 (.slice A V.length c)) Tryz.underlying26 rfl (by kernel_rfl)) rfl ?_
  exact⟨A,c,rfl,(o2.far_set (g:=w.heap.size) (k:=0) (by omega) (.slice A V.length c)).lower (by omega),hw2.setCell nlr _⟩
 have e3:(s.toList==[100,111,117,98,108,105,110,103])=false:=by have:=Zr h3;rwa[show ({ data:=#[100,111,117,98,108,105,110,103] }:ByteArray).toList=[100,111,117,98,108,105,110,103] from by rw[ByteArray.toList_eq]] at this
 by_cases h4:s={ data:=#[116,114,105,98,111,110,97,99,99,105] }
 ·have e4:(s.toList==[116,114,105,98,111,110,97,99,99,105])=true:=by rw[h4,ByteArray.toList_eq];rfl
  have hn:nmT s={ data:=#[97,98,44,97,99,44,97] }:=by unfold nmT;simp only[if_neg h1,if_neg h2,if_neg h3,if_pos h4];try rfl
  have hc:=HPS.o { data:=#[97,98,44,97,99,44,97] } (by decide)
  rw[hn]
  obtain⟨V,hV⟩:∃ V,psL { data:=#[97,98,44,97,99,44,97] }=V:=⟨_,rfl⟩
  obtain⟨b,hb⟩:∃ b,(psV { data:=#[97,98,44,97,99,44,97] }).isSome=b:=⟨_,rfl⟩
  rw[hV,hb] at hc ⊢
  have HC:=Hd hc
  clear hc hn hV hb
  clear h1 h2 h3 h4
  go_enter Tryz.func76,Tryz.ntmps76
  go_wp2_with (go_at_call 145;refine HC.o.mono ?_;rintro e w2 ⟨A,c,rfl,o2,b2⟩;have q1:=(b2.block w.heap.size (by omega)).trans H0.o;have k1:=cell_of_row _ _ 0 _ _ (0,0) q1;have f1:=frozen_of_row _ _ 0 _ _ q1)
  have z2:=b2.size
  have hw2:Below w.heap.size w w2:=BA.out.trans (b2.mono (by omega))
  refine bodyPost_ret (Za rfl _ _ w.heap.size 26 _ (0,0) _ rfl (Zg (k:=0) q1 (.slice A V.length c)) Tryz.underlying26 rfl (by kernel_rfl)) rfl ?_
  exact⟨A,c,rfl,(o2.far_set (g:=w.heap.size) (k:=0) (by omega) (.slice A V.length c)).lower (by omega),hw2.setCell nlr _⟩
 have e4:(s.toList==[116,114,105,98,111,110,97,99,99,105])=false:=by have:=Zr h4;rwa[show ({ data:=#[116,114,105,98,111,110,97,99,99,105] }:ByteArray).toList=[116,114,105,98,111,110,97,99,99,105] from by rw[ByteArray.toList_eq]] at this
 by_cases h5:s={ data:=#[115,105,108,118,101,114] }
 ·have e5:(s.toList==[115,105,108,118,101,114])=true:=by rw[h5,ByteArray.toList_eq];rfl
  have hn:nmT s={ data:=#[97,97,98,44,97] }:=by unfold nmT;simp only[if_neg h1,if_neg h2,if_neg h3,if_neg h4,if_pos h5];try rfl
  have hc:=HPS.o { data:=#[97,97,98,44,97] } (by decide)
  rw[hn]
  obtain⟨V,hV⟩:∃ V,psL { data:=#[97,97,98,44,97] }=V:=⟨_,rfl⟩
  obtain⟨b,hb⟩:∃ b,(psV { data:=#[97,97,98,44,97] }).isSome=b:=⟨_,rfl⟩
  rw[hV,hb] at hc ⊢
  have HC:=Hd hc
  clear hc hn hV hb
  clear h1 h2 h3 h4 h5
  go_enter Tryz.func76,Tryz.ntmps76
  go_wp2_with (go_at_call 145;refine HC.o.mono ?_;rintro e w2 ⟨A,c,rfl,o2,b2⟩;have q1:=(b2.block w.heap.size (by omega)).trans H0.o;have k1:=cell_of_row _ _ 0 _ _ (0,0) q1;have f1:=frozen_of_row _ _ 0 _ _ q1)
  have z2:=b2.size
  have hw2:Below w.heap.size w w2:=BA.out.trans (b2.mono (by omega))
  refine bodyPost_ret (Za rfl _ _ w.heap.size 26 _ (0,0) _ rfl (Zg (k:=0) q1 (.slice A V.length c)) Tryz.underlying26 rfl (by kernel_rfl)) rfl ?_
  exact⟨A,c,rfl,(o2.far_set (g:=w.heap.size) (k:=0) (by omega) (.slice A V.length c)).lower (by omega),hw2.setCell nlr _⟩
 have e5:(s.toList==[115,105,108,118,101,114])=false:=by have:=Zr h5;rwa[show ({ data:=#[115,105,108,118,101,114] }:ByteArray).toList=[115,105,108,118,101,114] from by rw[ByteArray.toList_eq]] at this
 by_cases h6:s={ data:=#[115,113,117,97,114,101,102,114,101,101] }
 ·have e6:(s.toList==[115,113,117,97,114,101,102,114,101,101])=true:=by rw[h6,ByteArray.toList_eq];rfl
  have hn:nmT s={ data:=#[97,98,99,44,97,99,44,98] }:=by unfold nmT;simp only[if_neg h1,if_neg h2,if_neg h3,if_neg h4,if_neg h5,if_pos h6];try rfl
  have hc:=HPS.o { data:=#[97,98,99,44,97,99,44,98] } (by decide)
  rw[hn]
  obtain⟨V,hV⟩:∃ V,psL { data:=#[97,98,99,44,97,99,44,98] }=V:=⟨_,rfl⟩
  obtain⟨b,hb⟩:∃ b,(psV { data:=#[97,98,99,44,97,99,44,98] }).isSome=b:=⟨_,rfl⟩
  rw[hV,hb] at hc ⊢
  have HC:=Hd hc
  clear hc hn hV hb
  clear h1 h2 h3 h4 h5 h6
  go_enter Tryz.func76,Tryz.ntmps76
  go_wp2_with (go_at_call 145;refine HC.o.mono ?_;rintro e w2 ⟨A,c,rfl,o2,b2⟩;have q1:=(b2.block w.heap.size (by omega)).trans H0.o;have k1:=cell_of_row _ _ 0 _ _ (0,0) q1;have f1:=frozen_of_row _ _ 0 _ _ q1)
  have z2:=b2.size
  have hw2:Below w.heap.size w w2:=BA.out.trans (b2.mono (by omega))
  refine bodyPost_ret (Za rfl _ _ w.heap.size 26 _ (0,0) _ rfl (Zg (k:=0) q1 (.slice A V.length c)) Tryz.underlying26 rfl (by kernel_rfl)) rfl ?_
  exact⟨A,c,rfl,(o2.far_set (g:=w.heap.size) (k:=0) (by omega) (.slice A V.length c)).lower (by omega),hw2.setCell nlr _⟩
 have e6:(s.toList==[115,113,117,97,114,101,102,114,101,101])=false:=by have:=Zr h6;rwa[show ({ data:=#[115,113,117,97,114,101,102,114,101,101] }:ByteArray).toList=[115,113,117,97,114,101,102,114,101,101] from by rw[ByteArray.toList_eq]] at this
 by_cases h7:s={ data:=#[114,117,100,105,110] }
 ·have e7:(s.toList==[114,117,100,105,110])=true:=by rw[h7,ByteArray.toList_eq];rfl
  have hn:nmT s={ data:=#[97,98,44,97,99,44,100,98,44,100,99] }:=by unfold nmT;simp only[if_neg h1,if_neg h2,if_neg h3,if_neg h4,if_neg h5,if_neg h6,if_pos h7];try rfl
  have hc:=HPS.o { data:=#[97,98,44,97,99,44,100,98,44,100,99] } (by decide)
  rw[hn]
  obtain⟨V,hV⟩:∃ V,psL { data:=#[97,98,44,97,99,44,100,98,44,100,99] }=V:=⟨_,rfl⟩
  obtain⟨b,hb⟩:∃ b,(psV { data:=#[97,98,44,97,99,44,100,98,44,100,99] }).isSome=b:=⟨_,rfl⟩
  rw[hV,hb] at hc ⊢
  have HC:=Hd hc
  clear hc hn hV hb
  clear h1 h2 h3 h4 h5 h6 h7
  go_enter Tryz.func76,Tryz.ntmps76
  go_wp2_with (go_at_call 145;refine HC.o.mono ?_;rintro e w2 ⟨A,c,rfl,o2,b2⟩;have q1:=(b2.block w.heap.size (by omega)).trans H0.o;have k1:=cell_of_row _ _ 0 _ _ (0,0) q1;have f1:=frozen_of_row _ _ 0 _ _ q1)
  have z2:=b2.size
  have hw2:Below w.heap.size w w2:=BA.out.trans (b2.mono (by omega))
  refine bodyPost_ret (Za rfl _ _ w.heap.size 26 _ (0,0) _ rfl (Zg (k:=0) q1 (.slice A V.length c)) Tryz.underlying26 rfl (by kernel_rfl)) rfl ?_
  exact⟨A,c,rfl,(o2.far_set (g:=w.heap.size) (k:=0) (by omega) (.slice A V.length c)).lower (by omega),hw2.setCell nlr _⟩
 have e7:(s.toList==[114,117,100,105,110])=false:=by have:=Zr h7;rwa[show ({ data:=#[114,117,100,105,110] }:ByteArray).toList=[114,117,100,105,110] from by rw[ByteArray.toList_eq]] at this
 have hn:nmT s={ data:=#[] }:=by unfold nmT;simp only[if_neg h1,if_neg h2,if_neg h3,if_neg h4,if_neg h5,if_neg h6,if_neg h7]
 have hv:psV { data:=#[] }=none:=WP (by rw[show ZD 44 { data:=#[] }=[Zd []] from rfl];decide)
 rw[hn,psL,hv]
 have h0':=H0.o
 have k1:=cell_of_row _ _ 0 _ _ (0,0) h0'
 have f1:=frozen_of_row _ _ 0 _ _ h0'
 clear hn hv h1 h2 h3 h4 h5 h6 h7
 go_enter Tryz.func76,Tryz.ntmps76
 go_wp2_with fail
 refine bodyPost_ret (Za rfl _ _ w.heap.size 26 _ (0,0) _ rfl H0.o Tryz.underlying26 rfl (by kernel_rfl)) rfl ?_
 exact⟨none,0,rfl,Own.nil,BA.out⟩
end Go.Proofs.YtocbgldilgemoaaGreatDoor
