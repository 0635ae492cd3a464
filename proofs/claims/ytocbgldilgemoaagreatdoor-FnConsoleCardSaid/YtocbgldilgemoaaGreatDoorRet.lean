/- Return words: places, words between them, the first ones, both. No condition but the bounds. -/
import Derived.Test.YtocbgldilgemoaaGreatDoorM1
namespace Go.Proofs.YtocbgldilgemoaaGreatDoor
set_option maxRecDepth 4000
set_option maxHeartbeats 1000000
open Go.RowKit
set_option linter.unusedVariables false
def Vp (l:List Nat):List Value:=l.map fun (i:Nat)=>Value.int .i64 (i:Int)
theorem QM (l:List Nat):(Vp l).length=l.length:=by simp[Vp]
theorem ZaY (l:List Nat) (k:Nat):Vp l++[Value.int .i64 (k:Int)]=Vp (l++[k]):=by simp[Vp]
theorem XO {l:List Nat} {k x:Nat} (h:l[k]? = some x):(Vp l)[k]? = some (.int .i64 (x:Int)):=by simp[Vp,h]
def VJ (w f:ByteArray):Bool:=isW (L w)&&isW (L f)&&!(decide (f.size=0))
def hit (w f:ByteArray) (i:Nat):Bool:=decide (w.extract i (i+f.size)=f)
def plT (w f:ByteArray) (k:Nat):List Nat:=(List.range k).filter (hit w f)
def pls (w f:ByteArray):List Nat:=plT w f (w.size+1 - f.size)
def Qq (w f:ByteArray):List Nat:=if VJ w f=true then pls w f else []
theorem Zgm {w f:ByteArray} {k:Nat} (h:hit w f k=true):plT w f (k+1)=plT w f k++[k]:=by
 unfold plT;rw[List.range_succ,List.filter_append];simp[h]
theorem ZjG {w f:ByteArray} {k:Nat} (h:hit w f k=false):plT w f (k+1)=plT w f k:=by
 unfold plT;rw[List.range_succ,List.filter_append];simp[h]
theorem Zcg (w f:ByteArray) (k:Nat):(plT w f k).length≤k:=by
 unfold plT
 calc _≤(List.range k).length:=List.length_filter_le _ _
  _=k:=List.length_range
theorem ZkU (w f:ByteArray):(pls w f).length≤w.size+1:=by have:=Zcg w f (w.size+1 - f.size);unfold pls;omega
theorem ZlI {w f:ByteArray} {j x:Nat} (h:(pls w f)[j]? = some x):x≤w.size:=by
 have:=List.mem_of_getElem? h
 unfold pls plT at this
 rw[List.mem_filter,List.mem_range] at this
 omega
theorem ZlJ {w f:ByteArray} {j x y:Nat} (hx:(pls w f)[j]? = some x) (hy:(pls w f)[j+1]? = some y):x<y:=by
 have hp:(pls w f).Pairwise (·<·):=by unfold pls plT;exact (List.pairwise_lt_range).filter _
 obtain⟨h1,rfl⟩:=List.getElem?_eq_some_iff.1 hx
 obtain⟨h2,rfl⟩:=List.getElem?_eq_some_iff.1 hy
 exact List.pairwise_iff_getElem.1 hp j (j+1) h1 h2 (by omega)
def wdT (w:ByteArray) (a:List Nat) (k:Nat):List ByteArray:=(List.range k).map fun i=>w.extract (a.getD i 0) (a.getD (i+1) 0)
def Zch (w:ByteArray) (a:List Nat):List ByteArray:=wdT w a (a.length - 1)
theorem WQ {w:ByteArray} {a:List Nat} {k x y:Nat} (hx:a[k]? = some x) (hy:a[k+1]? = some y):wdT w a (k+1)=wdT w a k++[w.extract x y]:=by
 unfold wdT;rw[List.range_succ,List.map_append];simp[List.getD_eq_getElem?_getD,hx,hy]
theorem Yw (w:ByteArray) (a:List Nat) (k:Nat):(wdT w a k).length=k:=by simp[wdT]
theorem ZjH {w:ByteArray} {a:List Nat} {k:Nat} {s:ByteArray} (h:s∈wdT w a k):s.size≤w.size:=by
 unfold wdT at h
 obtain⟨i,_,rfl⟩:=List.mem_map.1 h
 rw[ByteArray.size_extract];omega
def fsS (acc:List ByteArray) (x:ByteArray):List ByteArray:=if Zhd acc x=true then acc else acc++[x]
def fsL (l:List ByteArray):List ByteArray:=l.foldl fsS []
theorem ZdX (l:List ByteArray) (x:ByteArray):fsL (l++[x])=fsS (fsL l) x:=by simp[fsL]
theorem ZkV (a:List ByteArray) (x:ByteArray):(fsS a x).length≤a.length+1:=by unfold fsS;split<;>simp
theorem ZjI {l:List ByteArray} {k:Nat} {x:ByteArray} (h:l[k]? = some x):fsL (l.take (k+1))=fsS (fsL (l.take k)) x:=by
 rw[List.take_add_one,h];exact ZdX _ _
theorem Zci:∀ l:List ByteArray,(fsL l).length≤l.length:=by
 suffices h:∀ (l a:List ByteArray),(l.foldl fsS a).length≤a.length+l.length by
  intro l;have:=h l [];unfold fsL;simpa using this
 intro l
 induction l with
 | nil=>intro a;simp
 | cons x l ih =>
  intro a
  have h1:=ih (fsS a x)
  have h2:=ZkV a x
  simp only[List.foldl_cons,List.length_cons];omega
theorem Zgn:∀ (l a:List ByteArray) (x:ByteArray),x∈l.foldl fsS a→x∈a∨x∈l
 | [],a,x,h=>.inl h
 | y :: l,a,x,h=>by
  rcases Zgn l (fsS a y) x h with h|h
  ·unfold fsS at h
   split at h
   ·exact .inl h
   ·rcases List.mem_append.1 h with h|h
    ·exact .inl h
    ·simp at h;exact .inr (by simp[h])
  ·exact .inr (List.mem_cons_of_mem _ h)
theorem YZ (x:ByteArray):∀ (r:List ByteArray) (i:Int),0≤i→(x∈r→i≤Xz x r i∧Xz x r i<i+r.length)∧(x ∉ r→Xz x r i=-1)
 | [],i,hi=>⟨fun h=>by simp at h,fun _=>rfl⟩
 | y :: r,i,hi=>by
  have ih:=YZ x r (i+1) (by omega)
  unfold Xz
  by_cases h:x=y
  ·rw[if_pos h]
   exact⟨fun _=>⟨by omega,by simp;omega⟩,fun hn=>absurd (by rw[h];exact List.mem_cons_self) hn⟩
  ·rw[if_neg h]
   refine⟨fun hm=>?_,fun hm=>ih.2 fun h2=>hm (List.mem_cons_of_mem _ h2)⟩
   rcases List.mem_cons.1 hm with h1|h1
   ·exact absurd h1 h
   ·have:=ih.1 h1
    simp only[List.length_cons];omega
theorem Zhp (ss:List ByteArray) (x:ByteArray):Zhd ss x=true↔x∈ss:=by
 unfold Zhd Yr
 have h:=YZ x ss 0 (Int.le_refl _)
 by_cases hm:x∈ss
 ·rw[decide_eq_true (h.1 hm).1];exact⟨fun _=>hm,fun _=>rfl⟩
 ·rw[h.2 hm];exact⟨fun h=>by simp at h,fun h=>absurd h hm⟩
theorem Zgo:∀ (l a:List ByteArray) (x:ByteArray),(x∈a∨x∈l)→x∈l.foldl fsS a
 | [],a,x,h=>by simpa using h
 | y :: l,a,x,h=>by
  rw[List.foldl_cons]
  refine Zgo l (fsS a y) x ?_
  have hs:∀ z,(z∈a∨z=y)→z∈fsS a y:=fun z hz=>by
   unfold fsS
   split
   ·rename_i hh
    rw[Zhp] at hh
    have:=hh
    rcases hz with hz|rfl
    ·exact hz
    ·exact this
   ·rcases hz with hz|rfl
    ·exact List.mem_append_left _ hz
    ·simp
  rcases h with h|h
  ·exact .inl (hs x (.inl h))
  ·rcases List.mem_cons.1 h with rfl|h
   ·exact .inl (hs x (.inr rfl))
   ·exact .inr h
theorem ZjJ {l:List ByteArray} {x:ByteArray} (h:x∈l):0≤Yr (fsL l) x∧Yr (fsL l) x<(fsL l).length:=by
 have:=(YZ x (fsL l) 0 (Int.le_refl _)).1 (Zgo l [] x (.inr h))
 unfold Yr
 omega
theorem Yx (s f:ByteArray) (hs:s.size≤1000) (hf:f.size≤1000) (hf1:1≤f.size) (w:World) :
  Calls Tryz.prog 255 #[.string s,.string f] w fun e w'=>∃ A c,e=.returned (.slice A (pls s f).length c)∧Own w' w.heap.size 3 (.slice A (pls s f).length c) (Vp (pls s f))∧Below w.heap.size w w':=by
 obtain⟨pv,hpv⟩:∃ pv,pls s f=pv:=⟨_,rfl⟩
 have HPV:=Hd hpv
 rw[hpv];clear hpv
 go_enter Tryz.func255,Tryz.ntmps255
 go_wp2_with fail
 go_loopw [5,6] (fun v i wr=>∃ k A c n,k≤s.size+1 - f.size∧i=.int .i64 (k:Nat)∧(plT s f k).length=n∧v=.slice A n c∧Own wr w.heap.size 3 (.slice A n c) (Vp (plT s f k))∧Below w.heap.size w wr) (fun _ i _=>s.size+1 - (intOf i).toNat)
 case atStart=>exact⟨0,_,_,0,by omega,rfl,rfl,rfl,Own.empty nlr,(Below.refl _ _).alloc nlr _⟩
 case round =>
  obtain⟨k,A,c,n,hk,rfl,hln,rfl,hown,hbel⟩:=hrel
  have HO:=Hd hown;have HLN:=Hd hln
  have hnk:n≤k:=by rw[← hln];exact Zcg s f k
  clear hown hln
  by_cases hlt:k+f.size≤s.size
  ·cases hh:hit s f k
   ·have he:((s.extract k (k+f.size)).toList==f.toList)=false:=by
     rw[Jp];exact hh
    have HT:=Hd (ZjG hh);clear hh
    go_wp2_with fail
    go_roundw
    case rel=>exact⟨k+1,A,c,n,by omega,by go_num,by rw[HT.o];exact HLN.o,rfl,by rw[HT.o];exact HO.o,hbel⟩
    case measure=>simp[intOf];omega
   ·have he:((s.extract k (k+f.size)).toList==f.toList)=true:=by
     rw[Jp];exact hh
    have HT:=Hd (Zgm hh);clear hh
    have hn9:n<4294967296:=by omega
    have hl3:(Vp (plT s f k)).length=n:=(QM _).trans HLN.o
    have HL3:=Hd hl3;clear hl3
    have hsz:=hbel.size
    go_wp2_with (at_builtin;refine Zp rfl (.tmp 26) (.tmp 28) 83 rfl _ 8 Tryz.underlying83 Zu rfl rfl HO.o _ rfl rfl n HL3.o hn9 (by decide) hsz ?_)
    intro A' c' w2 hown2 hbel2 hsz2
    rw[ZaY,← HT.o] at hown2
    have HO2:=Hd hown2;clear hown2
    go_wp2_with fail
    go_roundw
    case rel=>exact⟨k+1,A',c',n+1,by omega,by go_num,by rw[HT.o,List.length_append,HLN.o];rfl,rfl,HO2.o,hbel.trans hbel2⟩
    case measure=>simp[intOf];omega
  ·have hkn:k=s.size+1 - f.size:=by omega
   have hfin:plT s f k=pls s f:=by rw[hkn];rfl
   have HF:=Hd hfin
   have hlt2:¬ ((k:Int)+f.size≤s.size):=by omega
   clear hkn hfin
   go_wp2_with fail
   go_ret
   exact⟨A,c,by rw[← HPV.o,← HF.o,HLN.o];rfl,by rw[← HPV.o,← HF.o,HLN.o];exact HO.o,hbel⟩
theorem ZaF (s f:ByteArray) (hs:s.size≤maxLen) (hf:f.size≤maxLen) (w:World) :
  Calls Tryz.prog 254 #[.string s,.string f] w fun e w'=>∃ A c,e=.returned (.slice A (Qq s f).length c)∧Own w' w.heap.size 3 (.slice A (Qq s f).length c) (Vp (Qq s f))∧Below w.heap.size w w':=by
 obtain⟨pv,hpv⟩:∃ pv,Qq s f=pv:=⟨_,rfl⟩
 have HPV:=Hd hpv
 rw[hpv];clear hpv
 cases h1:isW (L s)
 ·have hnil:pv=[]:=by rw[← HPV.o,Qq,VJ,h1];rfl
  have HN:=Hd hnil;have H1:=Hd h1;clear h1 hnil
  go_enter Tryz.func254,Tryz.ntmps254
  go_wp2_with fail
  refine (Zl s _ hs H1.o _).mono ?_
  rintro e w' ⟨rfl,rfl⟩
  go_wp2_with fail
  go_ret
  exact⟨none,0,by rw[HN.o];rfl,by rw[HN.o];exact Own.nil,Below.refl _ _⟩
 ·have H1:=Hd h1
  cases h2:isW (L f)
  ·have hnil:pv=[]:=by rw[← HPV.o,Qq,VJ,h1,h2];rfl
   have HN:=Hd hnil;have H2:=Hd h2;clear h1 h2 hnil
   go_enter Tryz.func254,Tryz.ntmps254
   go_wp2_with fail
   refine (Zl s _ hs H1.o _).mono ?_
   rintro e w' ⟨rfl,rfl⟩
   go_wp2_with fail
   refine (Zl f _ hf H2.o _).mono ?_
   rintro e w' ⟨rfl,rfl⟩
   go_wp2_with fail
   go_ret
   exact⟨none,0,by rw[HN.o];rfl,by rw[HN.o];exact Own.nil,Below.refl _ _⟩
  ·have H2:=Hd h2
   by_cases h0:f.size=0
   ·have hnil:pv=[]:=by rw[← HPV.o,Qq,VJ,h1,h2,h0];rfl
    have hemp:f.toList.isEmpty=true:=by rw[ByteArray.toList_eq];have:f.data.toList=[]:=List.eq_nil_of_length_eq_zero (by rw[Zj];exact h0);rw[this];rfl
    have HN:=Hd hnil;clear h1 h2 hnil h0
    go_enter Tryz.func254,Tryz.ntmps254
    go_wp2_with fail
    refine (Zl s _ hs H1.o _).mono ?_
    rintro e w' ⟨rfl,rfl⟩
    go_wp2_with fail
    refine (Zl f _ hf H2.o _).mono ?_
    rintro e w' ⟨rfl,rfl⟩
    go_wp2_with fail
    go_ret
    exact⟨none,0,by rw[HN.o];rfl,by rw[HN.o];exact Own.nil,Below.refl _ _⟩
   ·have hemp:f.toList.isEmpty=false:=by
     rw[ByteArray.toList_eq]
     cases hq:f.data.toList with
     | nil=>exact absurd (by rw[← Zj];show f.data.toList.length=0;rw[hq];rfl) h0
     | cons a b=>rfl
    have hpv2:pls s f=pv:=by rw[← HPV.o,Qq,if_pos];unfold VJ;rw[h1,h2,decide_eq_false h0];rfl
    have hs4:=Zb h1
    have hf4:=Zb h2
    have hf1:1≤f.size:=by omega
    have HPV:=Hd hpv2
    clear h1 h2 h0 hpv2
    go_enter Tryz.func254,Tryz.ntmps254
    go_wp2_with fail
    refine (Zl s _ hs H1.o _).mono ?_
    rintro e w' ⟨rfl,rfl⟩
    go_wp2_with fail
    refine (Zl f _ hf H2.o _).mono ?_
    rintro e w' ⟨rfl,rfl⟩
    go_wp2_with fail
    refine (Yx s f (by omega) (by omega) hf1 _).mono ?_
    rintro e w1 ⟨A,c,rfl,hown,b1⟩
    rw[HPV.o] at hown
    have HO:=Hd hown;clear hown
    have hl5:(pls s f).length=pv.length:=by rw[HPV.o]
    have HL5:=Hd hl5;clear hl5
    go_wp2_with fail
    go_ret
    exact⟨A,c,by rw[← HL5.o];rfl,HO.o,b1⟩
theorem VN (s f:ByteArray) (hs:s.size≤maxLen) (hf:f.size≤maxLen) (w:World) :
  Calls Tryz.prog 174 #[.string s,.string f] w fun e w'=>∃ A c,e=.returned (.slice A (Qq s f).length c)∧Own w' w.heap.size 3 (.slice A (Qq s f).length c) (Vp (Qq s f))∧Below w.heap.size w w':=by
 obtain⟨pv,hpv⟩:∃ pv,Qq s f=pv:=⟨_,rfl⟩
 have HPV:=Hd hpv
 rw[hpv];clear hpv
 cases h1:isW (L s)
 ·have hnil:pv=[]:=by rw[← HPV.o,Qq,VJ,h1];rfl
  have HN:=Hd hnil;have H1:=Hd h1;clear h1 hnil
  go_enter Tryz.func174,Tryz.ntmps174
  go_wp2_with fail
  refine (Zi s _ hs H1.o _).mono ?_
  rintro e w' ⟨rfl,rfl⟩
  go_wp2_with fail
  go_ret
  exact⟨none,0,by rw[HN.o];rfl,by rw[HN.o];exact Own.nil,Below.refl _ _⟩
 ·have H1:=Hd h1
  cases h2:isW (L f)
  ·have hnil:pv=[]:=by rw[← HPV.o,Qq,VJ,h1,h2];rfl
   have HN:=Hd hnil;have H2:=Hd h2;clear h1 h2 hnil
   go_enter Tryz.func174,Tryz.ntmps174
   go_wp2_with fail
   refine (Zi s _ hs H1.o _).mono ?_
   rintro e w' ⟨rfl,rfl⟩
   go_wp2_with fail
   refine (Zi f _ hf H2.o _).mono ?_
   rintro e w' ⟨rfl,rfl⟩
   go_wp2_with fail
   go_ret
   exact⟨none,0,by rw[HN.o];rfl,by rw[HN.o];exact Own.nil,Below.refl _ _⟩
  ·have H2:=Hd h2
   by_cases h0:f.size=0
   ·have hnil:pv=[]:=by rw[← HPV.o,Qq,VJ,h1,h2,h0];rfl
    have hemp:f.toList.isEmpty=true:=by rw[ByteArray.toList_eq];have:f.data.toList=[]:=List.eq_nil_of_length_eq_zero (by rw[Zj];exact h0);rw[this];rfl
    have HN:=Hd hnil;clear h1 h2 hnil h0
    go_enter Tryz.func174,Tryz.ntmps174
    go_wp2_with fail
    refine (Zi s _ hs H1.o _).mono ?_
    rintro e w' ⟨rfl,rfl⟩
    go_wp2_with fail
    refine (Zi f _ hf H2.o _).mono ?_
    rintro e w' ⟨rfl,rfl⟩
    go_wp2_with fail
    go_ret
    exact⟨none,0,by rw[HN.o];rfl,by rw[HN.o];exact Own.nil,Below.refl _ _⟩
   ·have hemp:f.toList.isEmpty=false:=by
     rw[ByteArray.toList_eq]
     cases hq:f.data.toList with
     | nil=>exact absurd (by rw[← Zj];show f.data.toList.length=0;rw[hq];rfl) h0
     | cons a b=>rfl
    have hpv2:pls s f=pv:=by rw[← HPV.o,Qq,if_pos];unfold VJ;rw[h1,h2,decide_eq_false h0];rfl
    have hs4:=Zb h1
    have hf4:=Zb h2
    have hf1:1≤f.size:=by omega
    have HPV:=Hd hpv2
    clear h1 h2 h0 hpv2
    go_enter Tryz.func174,Tryz.ntmps174
    go_wp2_with fail
    refine (Zi s _ hs H1.o _).mono ?_
    rintro e w' ⟨rfl,rfl⟩
    go_wp2_with fail
    refine (Zi f _ hf H2.o _).mono ?_
    rintro e w' ⟨rfl,rfl⟩
    go_wp2_with fail
    go_loopw [5,6] (fun v i wr=>∃ k A c n,k≤s.size+1 - f.size∧i=.int .i64 (k:Nat)∧(plT s f k).length=n∧v=.slice A n c∧Own wr w.heap.size 3 (.slice A n c) (Vp (plT s f k))∧Below w.heap.size w wr) (fun _ i _=>s.size+1 - (intOf i).toNat)
    case atStart=>exact⟨0,_,_,0,by omega,rfl,rfl,rfl,Own.empty nlr,(Below.refl _ _).alloc nlr _⟩
    case round =>
     obtain⟨k,A,c,n,hk,rfl,hln,rfl,hown,hbel⟩:=hrel
     have HO:=Hd hown;have HLN:=Hd hln
     have hnk:n≤k:=by rw[← hln];exact Zcg s f k
     clear hown hln
     by_cases hlt:k+f.size≤s.size
     ·cases hh:hit s f k
      ·have he:((s.extract k (k+f.size)).toList==f.toList)=false:=by
        rw[Jp];exact hh
       have HT:=Hd (ZjG hh);clear hh
       go_wp2_with fail
       go_roundw
       case rel=>exact⟨k+1,A,c,n,by omega,by go_num,by rw[HT.o];exact HLN.o,rfl,by rw[HT.o];exact HO.o,hbel⟩
       case measure=>simp[intOf];omega
      ·have he:((s.extract k (k+f.size)).toList==f.toList)=true:=by
        rw[Jp];exact hh
       have HT:=Hd (Zgm hh);clear hh
       have hn9:n<4294967296:=by omega
       have hl3:(Vp (plT s f k)).length=n:=(QM _).trans HLN.o
       have HL3:=Hd hl3;clear hl3
       have hsz:=hbel.size
       go_wp2_with (at_builtin;refine Zp rfl (.tmp 38) (.tmp 40) 83 rfl _ 8 Tryz.underlying83 Zu rfl rfl HO.o _ rfl rfl n HL3.o hn9 (by decide) hsz ?_)
       intro A' c' w2 hown2 hbel2 hsz2
       rw[ZaY,← HT.o] at hown2
       have HO2:=Hd hown2;clear hown2
       go_wp2_with fail
       go_roundw
       case rel=>exact⟨k+1,A',c',n+1,by omega,by go_num,by rw[HT.o,List.length_append,HLN.o];rfl,rfl,HO2.o,hbel.trans hbel2⟩
       case measure=>simp[intOf];omega
     ·have hkn:k=s.size+1 - f.size:=by omega
      have hfin:plT s f k=pls s f:=by rw[hkn];rfl
      have HF:=Hd hfin
      have hlt2:¬ ((k:Int)+f.size≤s.size):=by omega
      clear hkn hfin
      go_wp2_with fail
      go_ret
      exact⟨A,c,by rw[← HPV.o,← HF.o,HLN.o];rfl,by rw[← HPV.o,← HF.o,HLN.o];exact HO.o,hbel⟩
theorem Yy (s f:ByteArray) (hs:s.size≤maxLen) (hf:f.size≤maxLen) (w:World) :
  Calls Tryz.prog 201 #[.string s,.string f] w fun e w'=>e=.returned (.bool (decide (0<(Qq s f).length)))∧Below w.heap.size w w':=by
 obtain⟨n,hn⟩:∃ n,(Qq s f).length=n:=⟨_,rfl⟩
 have hc:=ZaF s f hs hf w
 rw[hn] at hc ⊢
 have HC:=Hd hc;clear hc hn
 go_enter Tryz.func201,Tryz.ntmps201
 go_wp2_with fail
 refine HC.o.mono ?_
 rintro e w1 ⟨A,c,rfl,hown,b1⟩
 clear hown
 go_wp2_with fail
 go_ret
 exact⟨Zk (by simp),b1⟩
end Go.Proofs.YtocbgldilgemoaaGreatDoor
