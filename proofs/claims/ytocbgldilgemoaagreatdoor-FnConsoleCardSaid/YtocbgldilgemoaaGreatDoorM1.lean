/- Texts of this claim, one behind the other: Base, Mem, Num, Hsh, Help, Str, Byt, Box, Owb, Det, Gold, Abc, Edit, Pair, Lyn, Rev, Comp, Apf, Gpp, Near, App2, Ord, Lyp, Clp, Slg, Gps, Qtn, Ins, Pow, Dir, App4. No condition but what each says. -/
import Derived.Test.YtocbgldilgemoaaGreatDoorRows
import Derived.WalkSpells
import Derived.WalkLawsBesides
import Derived.BigQuiet
import Derived.Lib.Hide
import Derived.Lib.IndexBytes
import Derived.ProofKit
import Derived.OpenShut
import Derived.ShutString
import Derived.Deep.OwnRows
import Derived.HandedShaped
import Derived.Lib.BufferRead
import Derived.Deep.RegionHeld3
import Derived.Deep.AppendLies
import Derived.Deep.RegionLaw
import Derived.Lib.SlBytesConst
import Derived.Lib.SlicesCompact
import Derived.Sort.Walk0
import Derived.Sort.KeysCollected
namespace Go.Proofs.YtocbgldilgemoaaGreatDoor
open Go.RowKit Go.ChangeShapes Go.WideShapes
set_option linter.unusedVariables false
theorem own:ownKnob Tryz.prog.godebug=none:=by kernel_rfl
theorem Zfq:laidOutB Tryz.prog=true:=by kernel_rfl
def I64 (a:Int):Prop:=-9223372036854775808≤a∧a≤9223372036854775807
theorem Qp {k:IntKind} {a b:Int} (h:a=b):Ending.returned (.int k a)=.returned (.int k b):=by rw[h]
theorem Zk {a b:Bool} (h:a=b):Ending.returned (.bool a)=.returned (.bool b):=by rw[h]
theorem QL {B:Nat} {a w:World} (h:Below B a w) (n:Nat):Below B a (w.drewN n):=⟨h.os,h.tape,h.output,h.size,h.block⟩
def Dr (w w':World):Prop:=∃ n,w.drewN n=w'
theorem Dr.refl (w:World):Dr w w:=⟨0,rfl⟩
theorem Dr.drewN {w w':World} (h:Dr w w') (n:Nat):Dr w (w'.drewN n):=by
 obtain⟨m,rfl⟩:=h
 exact⟨m+n,by rw[World.drewN_drewN]⟩
theorem Dr.drew {w w':World} (h:Dr w w'):Dr w w'.drew:=h.drewN 1
theorem Dr.trans {a b c:World} (h:Dr a b) (k:Dr b c):Dr a c:=by
 obtain⟨m,rfl⟩:=k
 exact h.drewN m
theorem Dr.same {w w':World} (h:w=w'):Dr w w':=⟨0,h⟩
theorem Dr.below {w w':World} (h:Dr w w') {B:Nat}:Below B w w':=by
 obtain⟨n,rfl⟩:=h
 exact QL (Below.refl _ _) n
theorem ZcD {P:Program} {f:FuncId} {args:Array Value} {w:World} {n:Nat} {v:Value}
  (h:Calls P f args (w.drewN n) fun e w'=>e=.returned v∧w.drewN n=w'):Calls P f args (w.drewN n) fun e w''=>e=.returned v∧∃ m,w''=w.drewN m :=
 h.mono fun _ _ ⟨he,hm⟩=>⟨he,n,hm.symm⟩
theorem ZH {a b:ByteArray} (h:a.data.toList=b.data.toList):a=b:=WideShapes.bytes_inj h
theorem Jp (x y:ByteArray):(x.toList==y.toList)=decide (x=y):=by
 rw[ByteArray.toList_eq,ByteArray.toList_eq,Bool.eq_iff_iff]
 simp
 exact⟨fun h=>by cases x;cases y;simpa using h,fun h=>by rw[h]⟩
theorem Zr {x y:ByteArray} (h:x≠y):(x.toList==y.toList)=false:=by rw[Jp,decide_eq_false h]
abbrev L (s:ByteArray):List UInt8:=s.data.toList
theorem Zj (s:ByteArray):(L s).length=s.size:=by simp[L]
theorem ZS (s:ByteArray) (k:Nat) (h:k<s.size):(L s).drop k=s[k] :: (L s).drop (k+1):=by
 rw[List.drop_eq_getElem_cons (by simpa using h)];rfl
theorem QP (s:ByteArray) (k:Nat) (h:¬ k<s.size):(L s).drop k=[]:=by
 apply List.drop_eq_nil_of_le;simp;omega
theorem ZI (s:ByteArray) (a b:Nat):L (s.extract a b)=((L s).take b).drop a:=by
 simp[L,ByteArray.data_extract,List.drop_take]
theorem Hd {p:Prop} (h:p):Hid p:=h
theorem _root_.Go.RowKit.Hid.o {p:Prop} (h:Hid p):p:=h.out
theorem nlr {n:Nat}:n≤n:=Nat.le_refl n
theorem Zc {α:Type} {l:List α} {k:Nat} (h:k<l.length):∃ x,l[k]? = some x:=⟨l[k],List.getElem?_eq_getElem h⟩
theorem ZT {α:Type} {l:List α} {k:Nat} {x:α} (h:l[k]? = some x):l.drop k=x :: l.drop (k+1):=by
 obtain⟨hk,rfl⟩:=List.getElem?_eq_some_iff.1 h
 exact List.drop_eq_getElem_cons hk
theorem Zs {α β:Type} {l:List α} {k:Nat} {x:α} (f:α→β) (h:l[k]? = some x):(l.map f)[k]? = some (f x):=by
 rw[List.getElem?_map,h];rfl
theorem ZdJ {α:Type} (xs:List α) (z:α) {k:Nat} {x:α} (h:xs[k]? = some x) :
  (xs.take k++List.replicate (xs.length - k) z).set k x=xs.take (k+1)++List.replicate (xs.length - (k+1)) z:=by
 obtain⟨hk,hx⟩:=List.getElem?_eq_some_iff.1 h
 have hl:(xs.take k).length=k:=by simp;omega
 rw[List.set_append_right _ _ (by omega),hl,Nat.sub_self,List.take_add_one,h]
 obtain⟨m,hm⟩:∃ m,xs.length - k=m+1:=⟨xs.length - k - 1,by omega⟩
 rw[hm,List.replicate_succ,List.set_cons_zero,show xs.length - (k+1)=m by omega]
 simp
def Rds (w:World) (B:Nat) (A:Option Addr) (xs:List Value):Prop :=
 ∀ k u,xs[k]? = some u→∃ ad,A=some ad∧ad.block<B∧w.cell? (ad.add k)=some u
theorem Vx (a:Addr) (n:Nat):(a.add n).block=a.block:=by unfold Addr.add;split<;>rfl
section
variable {w w':World} {B B':Nat} {A:Option Addr} {xs:List Value}
theorem Rds.nil:Rds w B A []:=fun k u h=>by simp at h
theorem Rds.keep (h:Rds w B A xs) (hk:∀ p:Addr,p.block<B→w'.cell? p=w.cell? p):Rds w' B A xs:=fun k u hu=>by
 obtain⟨ad,e,hb,hc⟩:=h k u hu
 exact⟨ad,e,hb,(hk _ (by rw[Vx];exact hb)).trans hc⟩
theorem Rds.more (h:Rds w B A xs) (hB:B≤B'):Rds w B' A xs:=fun k u hu=>by
 obtain⟨ad,e,hb,hc⟩:=h k u hu
 exact⟨ad,e,by omega,hc⟩
theorem Rds.below (h:Rds w B A xs) (hb:Below B' w w') (hB:B≤B'):Rds w' B A xs:=h.keep fun p hp=>hb.cell (by omega)
theorem Rds.dr (h:Rds w B A xs) (hb:Dr w w'):Rds w' B A xs:=h.keep fun p hp=>(hb.below (B:=p.block+1)).cell (by omega)
theorem Rds.at_ (h:Rds w B A xs) {k:Nat} {u:Value} (hu:xs[k]? = some u):∃ ad,A=some ad∧w.cell? (ad.add k)=some u:=by
 obtain⟨ad,e,_,hc⟩:=h k u hu
 exact⟨ad,e,hc⟩
end
def Own (w:World) (B:Nat) (E:TypeId) (v:Value) (xs:List Value):Prop:=w.ownsRow B E 1 v xs.length xs
section
variable {w w':World} {B B':Nat} {E:TypeId} {v:Value} {xs:List Value}
theorem Own.nil:Own w B E (.slice none 0 0) []:=World.ownsRow_nil _ _ _ _
theorem Own.shape (h:Own w B E v xs):∃ A c,v=.slice A xs.length c∧xs.length≤c∧c≤maxLen∧Rds w w.heap.size A xs:=by
 have hl:=h.lt
 rcases h.2 with ⟨rfl,hn⟩|⟨g,cap,cur,rfl,hb,hg,hn,hm,hs,ht⟩
 ·have hx:xs=[]:=List.eq_nil_of_length_eq_zero hn
  subst hx
  exact⟨none,0,rfl,Nat.le_refl _,Nat.zero_le _,Rds.nil⟩
 ·refine⟨some ⟨g,0,none⟩,cap,rfl,hn,hm,fun k u hu=>⟨_,rfl,(hl g rfl).2,?_⟩⟩
  exact World.ownsRow.cells h (g:=g) rfl k u hu
theorem Own.reads {A:Option Addr} {n c:Nat} (h:Own w B E (.slice A n c) xs):Rds w w.heap.size A xs:=by
 obtain⟨A',c',hv,_,_,hr⟩:=h.shape
 injection hv with h1 h2 h3
 rw[h1];exact hr
theorem Own.below (h:Own w B E v xs) (hb:Below w.heap.size w w'):Own w' B E v xs :=
 World.ownsRow.kept (row:=none) h ⟨hb.os,hb.tape,hb.output,hb.size,fun k hk _=>hb.block k hk⟩ (by cases hv:v.ownBlock<;>simp)
theorem Own.lower (h:Own w B E v xs) (hB:B'≤B):Own w B' E v xs:=by
 refine⟨h.1,?_⟩
 rcases h.2 with h0|⟨g,cap,cur,hv,hb,rest⟩
 ·exact .inl h0
 ·exact .inr ⟨g,cap,cur,hv,by omega,rest⟩
theorem Own.store {A:Option Addr} {n c k:Nat} (h:Own w B E (.slice A n c) xs) (hk:k<xs.length) :
  ∃ g,A=some ⟨g,0,none⟩∧B≤g∧g<w.heap.size∧w.cell? ⟨g,k,none⟩=xs[k]? ∧ w.frozen? ⟨g,k,none⟩=false ∧
   ∀ u,Own (w.setCell ⟨g,k,none⟩ u) B E (.slice A n c) (xs.set k u)∧Below B w (w.setCell ⟨g,k,none⟩ u)∧w.grownBy (w.setCell ⟨g,k,none⟩ u) (Value.slice A n c).ownBlock:=by
 obtain⟨A',c',hv,_,_,_⟩:=h.shape
 injection hv with h1 h2 h3
 subst h1 h2 h3
 have hl:=h.lt
 have hA:∃ g,A=some ⟨g,0,none⟩:=by
  rcases h.2 with ⟨hn,h0⟩|⟨g,cap,cur,hv,_⟩
  ·omega
  ·injection hv with h1;exact⟨g,h1⟩
 obtain⟨g,rfl⟩:=hA
 have hg:=hl g rfl
 refine⟨g,rfl,hg.1,hg.2,World.ownsRow.cellAt h k (by omega),World.ownsRow.frozenAt h k,fun u=>⟨?_,(Below.refl _ _).setCell hg.1 u,(World.ownsRow.stored h k u).2⟩⟩
 have:=(World.ownsRow.stored h k u).1
 unfold Own
 rwa[List.length_set]
theorem QF {a b c:World} {row:Option Nat} (h:a.grownBy b row) (k:b.grownBy c row):a.grownBy c row :=
 ⟨k.os.trans h.os,k.tape.trans h.tape,k.output.trans h.output,Nat.le_trans h.size k.size,fun i hi hne=>(k.block i (Nat.lt_of_lt_of_le hi h.size) hne).trans (h.block i hi hne)⟩
theorem Own.apart {w0 w1 w2:World} {B1:Nat} {E1:TypeId} {v1:Value} {ys:List Value} (h1:Own w0 B1 E1 v1 ys) (h2:Own w1 B E v xs) (hB:w0.heap.size≤B) (hg:w1.grownBy w2 v1.ownBlock):Own w2 B E v xs:=by
 refine World.ownsRow.kept h2 hg ?_
 cases hv:v.ownBlock with
 | none=>exact .inl rfl
 | some g =>
  right
  intro he
  have h3:=(World.ownsRow.lt h2 g hv).1
  have h4:=(World.ownsRow.lt h1 g he.symm).2
  omega
theorem Own.made {z:Value} {n:Nat} (hB:B≤w.heap.size) (hn:n≤maxLen):Own (w.alloc (.cells (madeCells #[z] n) E)) B E (.slice (some ⟨w.heap.size,0,none⟩) n n) (List.replicate n z):=by
 have h:=World.ownsRow_lit (base:=B) (e:=E) (size:=1) w (madeCells #[z] n) n hB hn (by rw[← Array.length_toList,toList_madeCells_one];simp)
 rw[toList_madeCells_one] at h
 unfold Own
 rwa[List.length_replicate]
theorem Own.dr (h:Own w B E v xs) (hd:Dr w w'):Own w' B E v xs:=h.below hd.below
end
section
variable {P:Program} {w:World} {B:Nat} {E:TypeId} {v:Value} {xs:List Value}
theorem Zp {ops:Array Oper} {rest:List Oper} {o:Oper} {a:Act} {Q:Exit→Act→World→Prop} (hgd:o.guard=none) (s x:Operand) (t:TypeId)
  (ho:o.op=.call { callee:=.builtin .append,args:=#[s,x],argTypes:=#[t,t] })
  (z:Value) (bytes:Nat) (ht:P.underlying t=some (.slice E)) (hinfo:(P.info? E).map (fun i=>(i.zero,i.size,i.bytes))=some (some z,1,bytes)) (hzs:z.cells.size=1)
  (hs:a.eval s=v) (hown:Own w B E v xs) (u:Value) (hu:u.oneCell'=true)
  (hx:a.eval x=.slice (some ⟨w.heap.size,0,none⟩) 1 1) (n:Nat)
  (hl:xs.length=n) (hn:n<4294967296) (hb16:bytes≤1024) (hB:B≤w.heap.size)
  (h:∀ A c w',Own w' B E (.slice A (n+1) c) (xs++[u])→Below B w w'→w.heap.size≤w'.heap.size→wpList P ops Q rest (a.put o.dst (.slice A (n+1) c)) w') :
  wpList P ops Q (o :: rest) a (w.alloc (.cells #[u] E)):=by
 obtain⟨i,hi,hz,hsize,hby⟩:=info_parts hinfo
 subst hl
 refine wpList_append_own (w.alloc (.cells #[u] E)) hgd s x t ho B E i z 1 bytes ht hi hz hsize hby hzs (by decide) v xs.length xs hs (World.ownsRow.alloc hown _)
  ⟨w.heap.size,0,none⟩ 1 1 [u] hx rfl ?_ ?_ ?_ ?_ ?_ ?_
 ·intro j q hj
  match j,hj with
  | 0,hj=>simp at hj;subst hj;simp[Addr.add]
 ·intro q hq;simp at hq;subst hq;exact hu
 ·unfold maxLen;omega
 ·calc (xs.length+1) * bytes≤4294967296 * 1024:=Nat.mul_le_mul (by omega) hb16
   _≤140737488355328:=by decide
 ·simp;omega
 ·intro v' w1 hown' hgrow _
  have hown2:Own w1 B E v' (xs++[u]):=by
   unfold Own;simpa using hown'
  have hbel:Below B w w1:=by
   refine ((Below.refl B w).alloc hB _).grown hgrow (by simp;omega) ?_
   intro k hk
   exact (World.ownsRow.lt hown k hk).1
  obtain⟨A,c,hv,_⟩:=hown2.shape
  have hl:(xs++[u]).length=xs.length+1:=by simp
  rw[hl] at hv
  rw[hv]
  rw[hv] at hown2
  exact h A c w1 hown2 hbel hbel.size
end
theorem Own.empty {w:World} {B:Nat} {E:TypeId} (hB:B≤w.heap.size):Own (w.alloc (.cells #[] E)) B E (.slice (some ⟨w.heap.size,0,none⟩) 0 0) []:=by
 have h:=World.ownsRow_lit (base:=B) (e:=E) (size:=1) w #[] 0 hB (Nat.zero_le _) rfl
 simpa[Own] using h
theorem Own.one {w:World} {B:Nat} {E:TypeId} {u:Value} (hB:B≤w.heap.size):Own (w.alloc (.cells #[u] E)) B E (.slice (some ⟨w.heap.size,0,none⟩) 1 1) [u]:=by
 have h:=World.ownsRow_lit (base:=B) (e:=E) (size:=1) w #[u] 1 hB (by unfold maxLen;omega) rfl
 simpa[Own] using h
def IntsIn (w:World) (A:Option Addr) (n c:Nat) (zs:List Int):Prop :=
 zs.length=n∧n≤c∧c≤maxLen∧(∀ z∈zs,I64 z)∧Rds w w.heap.size A (zs.map (Value.int .i64))
def StrsIn (w:World) (A:Option Addr) (n c:Nat) (ss:List ByteArray):Prop :=
 ss.length=n∧n≤c∧c≤maxLen∧(∀ s∈ss,s.size≤maxLen)∧Rds w w.heap.size A (ss.map Value.string)
theorem IntsIn.later {w w':World} {A:Option Addr} {n c:Nat} {zs:List Int} (h:IntsIn w A n c zs) (hb:Below w.heap.size w w'):IntsIn w' A n c zs :=
 ⟨h.1,h.2.1,h.2.2.1,h.2.2.2.1,(h.2.2.2.2.below hb nlr).more hb.size⟩
theorem StrsIn.later {w w':World} {A:Option Addr} {n c:Nat} {zs:List ByteArray} (h:StrsIn w A n c zs) (hb:Below w.heap.size w w'):StrsIn w' A n c zs :=
 ⟨h.1,h.2.1,h.2.2.1,h.2.2.2.1,(h.2.2.2.2.below hb nlr).more hb.size⟩
theorem StrsIn.dr {w w':World} {A:Option Addr} {n c:Nat} {zs:List ByteArray} (h:StrsIn w A n c zs) (hb:Dr w w'):StrsIn w' A n c zs:=h.later hb.below
theorem IntsIn.dr {w w':World} {A:Option Addr} {n c:Nat} {zs:List Int} (h:IntsIn w A n c zs) (hb:Dr w w'):IntsIn w' A n c zs:=h.later hb.below
section
variable {H:Type} {enc:TypeId × Value→H} {W:World} {A:Option Addr} {n c:Nat} {t e:TypeId} {d:DataW H} {ps:List MemPlace}
theorem ZiT {a:Addr} {m:Nat} (hm:0<m) (hlt:∀ x∈MemPlace.row a m,x.block<W.heap.size):a.block<W.heap.size:=by
 exact hlt (.cell a.block (a.off+0)) (List.mem_map.2 ⟨0,List.mem_range.2 hm,rfl⟩)
theorem ZfW (ht:Tryz.prog.underlying t=some (.slice e)) (he:Tryz.prog.underlying e=some .string) (hc:Tryz.prog.cellsOf e=1)
  (h:DataW.Trod enc Tryz.prog W 0 (fun _=>true) true t (.slice A n c) d ps) (hlt:∀ x∈ps,x.block<W.heap.size):∃ zs,StrsIn W A n c zs:=by
 obtain⟨fuel,hf⟩:=h
 rcases open_strings ht he hc hf with ⟨hcs,_⟩|⟨x,l,cap,zs,hcs,_,hl,hm,hz,hx,hcell,hwz⟩
 ·simp[Value.cells] at hcs
  obtain⟨rfl,rfl,rfl⟩:=hcs
  exact⟨[],rfl,Nat.le_refl _,Nat.zero_le _,by simp,Rds.nil⟩
 ·simp[Value.cells] at hcs
  obtain⟨rfl,rfl,rfl⟩:=hcs
  simp only[if_true] at hz
  have hps:ps=MemPlace.row x zs.length:=by injection hx
  refine⟨zs.take n,by simp;omega,hl,hm,fun z hz=>hwz z (List.mem_of_mem_take hz),?_⟩
  intro k u hu
  have hk:k<n∧k<zs.length:=by
   have:=(List.getElem?_eq_some_iff.1 hu).1
   simp at this;omega
  refine⟨x,rfl,ZiT (m:=zs.length) (by omega) (by rw[← hps];exact hlt),?_⟩
  rw[hcell k hk.2]
  rw[List.getElem?_map,List.getElem?_take_of_lt hk.1] at hu
  rw[← hu,List.getD_eq_getElem?_getD,List.getElem?_eq_getElem hk.2]
  rfl
end
end Go.Proofs.YtocbgldilgemoaaGreatDoor
namespace Go.Proofs.YtocbgldilgemoaaGreatDoor
open Go.RowKit
set_option linter.unusedVariables false
theorem ZaS (a b c:Int) (w:World) :
  Calls Tryz.prog 146 #[.int .i64 a,.int .i64 b,.int .i64 c] w fun e w'=>e=.returned (.bool (decide (b≤a∧a≤c)))∧w=w':=by
 go_enter Tryz.func146,Tryz.ntmps146
 go_wp2
 all_goals go_ret
 all_goals exact⟨by congr 2;simp;omega,rfl⟩
theorem Zw (a b c:Int) (h:b≤a∧a≤c) (w:World) :
  Calls Tryz.prog 146 #[.int .i64 a,.int .i64 b,.int .i64 c] w fun e w'=>e=.returned (.bool true)∧w=w' :=
 (ZaS a b c w).mono fun _ _ ⟨he,hw⟩=>⟨by rw[he,decide_eq_true h],hw⟩
theorem ZU (a b c:Int) (h:¬ (b≤a∧a≤c)) (w:World) :
  Calls Tryz.prog 146 #[.int .i64 a,.int .i64 b,.int .i64 c] w fun e w'=>e=.returned (.bool false)∧w=w' :=
 (ZaS a b c w).mono fun _ _ ⟨he,hw⟩=>⟨by rw[he,decide_eq_false h],hw⟩
theorem WE (a b c:Int) (w:World) :
  Calls Tryz.prog 65 #[.int .i64 a,.int .i64 b,.int .i64 c] w fun e w'=>e=.returned (.bool (decide (b≤a∧a≤c)))∧w=w':=by
 go_enter Tryz.func65,Tryz.ntmps65
 go_wp2
 all_goals go_ret
 all_goals exact⟨by congr 2;simp;omega,rfl⟩
theorem Zo (a b c:Int) (h:b≤a∧a≤c) (w:World) :
  Calls Tryz.prog 65 #[.int .i64 a,.int .i64 b,.int .i64 c] w fun e w'=>e=.returned (.bool true)∧w=w' :=
 (WE a b c w).mono fun _ _ ⟨he,hw⟩=>⟨by rw[he,decide_eq_true h],hw⟩
theorem ZK (a b c:Int) (h:¬ (b≤a∧a≤c)) (w:World) :
  Calls Tryz.prog 65 #[.int .i64 a,.int .i64 b,.int .i64 c] w fun e w'=>e=.returned (.bool false)∧w=w' :=
 (WE a b c w).mono fun _ _ ⟨he,hw⟩=>⟨by rw[he,decide_eq_false h],hw⟩
end Go.Proofs.YtocbgldilgemoaaGreatDoor
namespace Go.Proofs.YtocbgldilgemoaaGreatDoor
open Go
set_option linter.unusedVariables false
theorem QR {H:Type} {enc:TypeId × Value→H} {a:Assume} {C:Checked} {os:Os} {f:FuncId} {fn:Func} {s:ChangeSpec} {conds:List PathCond} {apart fresh handsOn again:Bool} {X:World→Array Value→Prop}
  (hX:∀ (w w':World) (args:Array Value),w.heap=w'.heap→X w args→X w' args)
  (own:ownKnob C.prog.godebug=none) (started:os.Started) (noInit:C.prog.inits.idxOf? f=none) (hfn:C.prog.funcs[f]? = some fn)
  (witness:∃ (w:World) (tape:Tape) (i:Input),w.os=os∧(w.forCall tape i).Shaped C.prog∧i.vars=[]∧Input.okWide C.prog (w.forCall tape i) .any w.heap.size f i ∧
   ((s.pre enc C.prog fn conds apart (w.forCall tape i).memory i.args∧X (w.forCall tape i).memory i.args)∧sizedMet enc C.prog fn (OpenSpec.ofChange s) apart (w.forCall tape i).memory i.args)∧a.holds C.prog (lone (Frame.enter C.prog f i.args .normal) [] (w.forCall tape i)))
  (contract:∀ (W:World) (base:Nat) (args:Array Value) (ds gs:List (DataW H)) (before:List MemPlace),
   (∀ (j:Nat) t v,fn.params[j]? = some t→args[j]? = some v→Value.okWide C.prog W .any base t v) →
   DataW.Whole enc C.prog fn.params.toList s.vars apart W args.toList ds gs before→X W args→W.ShapedOpen C.prog →
   Calls C.prog f args W fun e W'=>∃ v,e=.returned v∧s.post enc C.prog fn apart fresh handsOn again W args v W') :
  ReturnsInHanded a C os f .any (fun w args=>(s.pre enc C.prog fn conds apart w args∧X w args)∧sizedMet enc C.prog fn (OpenSpec.ofChange s) apart w args) (s.post enc C.prog fn apart fresh handsOn again):=by
 refine returnsInHanded_of_calls own started noInit witness fun w tape i _ hsh _ hok hpre _=>?_
 obtain⟨_,_,_,fn2,hfn2,_,_,_,_,hval⟩:=hok
 have e:fn2=fn:=by rw[hfn] at hfn2;exact (Option.some.inj hfn2).symm
 subst e
 obtain⟨⟨⟨ds,gs,before,hw,_⟩,hx⟩,_⟩:=hpre
 refine (contract (w.forCall tape i) w.heap.size i.args ds gs before hval (DataW.Whole.of_heap (w':=w.forCall tape i) (by rfl) hw) (hX _ _ _ (by rfl) hx) hsh).mono ?_
 rintro x W' ⟨v,rfl,hp⟩
 exact ChangeSpec.post_blind hp
end Go.Proofs.YtocbgldilgemoaaGreatDoor
namespace Go.Proofs.YtocbgldilgemoaaGreatDoor
open Go.RowKit Go.ChangeShapes Go.WideShapes
set_option maxHeartbeats 400000
set_option linter.unusedVariables false
def Zat:List ByteArray→Int→Int
 | [],l=>l
 | s :: ss,l=>if l - s.size<0 then -1 else Zat ss (l - s.size)
def szS (ss:List ByteArray) (l:Int):Int:=if l - ss.length<0 then -1 else Zat ss (l - ss.length)
theorem ZkF {ss:List ByteArray} {l:Int} (h:¬ szS ss l<0):(ss.length:Int)≤l:=by
 unfold szS at h;split at h<;>omega
theorem Zau (ss:List ByteArray) (A:Option Addr) (n c:Nat) (l:Int) (w:World) (h0:0≤l) (h1:l≤1048576) (h:StrsIn w A n c ss) :
  Calls Tryz.prog 77 #[.slice A n c,.int .i64 l] w fun e w'=>e=.returned (.int .i64 (szS ss l))∧Dr w w':=by
 obtain⟨hl,hnc,hcm,hsz,hrd⟩:=h
 have HZ:=Hd hsz;clear hsz
 have hn63:n≤9223372036854775807:=by unfold maxLen at hcm;omega
 clear hcm
 by_cases h2:l - n<0
 ·have hfin:szS ss l=-1:=by unfold szS;rw[hl,if_pos h2]
  rw[hfin];clear hfin
  have HL:=Hd hl;clear hl
  go_enter Tryz.func77,Tryz.ntmps77
  go_wp2_with fail
  go_ret
  exact⟨rfl,Dr.refl _⟩
 ·have HF:Hid (szS ss l=Zat ss (l - n)):=by show szS ss l=_;unfold szS;rw[hl,if_neg h2]
  have HL:=Hd hl;clear hl
  go_enter Tryz.func77,Tryz.ntmps77
  go_wp2_with fail
  have h3:0≤l - n:=by omega
  have h4:l - n≤1048576:=by omega
  have HR:=Hd hrd;clear hrd
  go_loop [1,5] (fun x i=>∃ k:Nat,∃ m:Int,k≤n∧0≤m∧m≤1048576∧x=.int .i64 m∧i=.int .i64 k∧Zat (ss.drop k) m=szS ss l) (fun _ i=>n - (intOf i).toNat)
  case atStart=>exact⟨0,l - n,by omega,h3,h4,rfl,rfl,by rw[HF.o];rfl⟩
  case round =>
   obtain⟨k,m,hk,hm,hm2,rfl,rfl,hg⟩:=hrel
   have HG:=Hd hg;clear hg
   by_cases hlt:k<n
   ·obtain⟨s,hs⟩:=Zc (l:=ss) (k:=k) (by rw[HL.o];exact hlt)
    obtain⟨ad,rfl,hc⟩:=HR.o.at_ (Zs Value.string hs)
    have hs63:=HZ.o s (List.mem_of_getElem? hs)
    unfold maxLen at hs63
    have HD:=Hd (ZT hs);clear hs
    by_cases hneg:m - s.size<0
    ·go_wp2_with fail
     go_ret
     exact⟨Qp (by rw[← HG.o,HD.o,Zat,if_pos hneg]),Dr.refl _⟩
    ·go_wp2_with fail
     go_round
     case rel=>exact⟨k+1,m - s.size,by omega,by omega,by omega,rfl,by go_num,by rw[← HG.o,HD.o,Zat,if_neg hneg]⟩
     case measure=>simp[intOf];omega
   ·go_wp2_with fail
    go_ret
    exact⟨Qp (by rw[← HG.o,List.drop_eq_nil_of_le (by rw[HL.o];omega)];rfl),Dr.refl _⟩
theorem Zn:(Tryz.prog.info? 9).map (fun i=>(i.zero,i.size,i.bytes))=some (some (.string ByteArray.empty),1,16):=by kernel_rfl
theorem Zu:(Tryz.prog.info? 3).map (fun i=>(i.zero,i.size,i.bytes))=some (some (.int .i64 0),1,8):=by kernel_rfl
theorem Zav (ss:List ByteArray) (A:Option Addr) (n c:Nat) (w:World) (hn:n≤1048576) (h:StrsIn w A n c ss) :
  Calls Tryz.prog 105 #[.slice A n c] w fun e w'=>∃ A' c',e=.returned (.slice A' n c')∧Own w' w.heap.size 9 (.slice A' n c') (ss.map Value.string)∧Below w.heap.size w w':=by
 obtain⟨hl,hnc,_,_,hrd⟩:=h
 have hmk:=run_make_row' (P:=Tryz.prog) 23 9 _ 16 Tryz.underlying23 Zn rfl .i64 .i64 n (by omega) (by omega)
 have HL:=Hd hl;clear hl
 have HR:=Hd hrd;clear hrd
 go_enter Tryz.func105,Tryz.ntmps105
 go_wp2_with fail
 go_loopw [4] (fun i wr=>∃ k:Nat,k≤n∧i=.int .i64 k∧Own wr w.heap.size 9 (.slice (some ⟨w.heap.size,0,none⟩) n n) ((ss.map Value.string).take k++List.replicate ((ss.map Value.string).length - k) (Value.string ByteArray.empty))∧Below w.heap.size w wr) (fun i _=>n - (intOf i).toNat)
 case atStart=>exact⟨0,by omega,rfl,by rw[List.length_map,HL.o];exact Own.made nlr (by unfold maxLen;omega),(Below.refl _ _).alloc nlr _⟩
 case round =>
  obtain⟨k,hk,rfl,hown,hbel⟩:=hrel
  by_cases hlt:k<n
  ·obtain⟨s,hs⟩:=Zc (l:=ss) (k:=k) (by rw[HL.o];exact hlt)
   have hs':=Zs Value.string hs
   obtain⟨ad,rfl,hc⟩:=(HR.o.below hbel nlr).at_ hs'
   have hlen:((ss.map Value.string).take k++List.replicate ((ss.map Value.string).length - k) (Value.string ByteArray.empty)).length=n:=by simp[HL.o];omega
   obtain⟨g,hg,hBg,hgs,hcell,hfr,hst⟩:=hown.store (k:=k) (by rw[hlen];exact hlt)
   injection hg with hg
   injection hg with hg
   subst hg
   obtain⟨old,hold⟩:=Zc (l:=((ss.map Value.string).take k++List.replicate ((ss.map Value.string).length - k) (Value.string ByteArray.empty))) (k:=k) (by rw[hlen];exact hlt)
   rw[hold] at hcell
   have HST:=Hd (hst (.string s));clear hst
   rw[ZdJ _ _ hs'] at HST
   clear hs hs' hlen hown hold
   go_wp2_with fail
   go_roundw
   case rel=>exact⟨k+1,by omega,by go_num,HST.o.1,hbel.trans HST.o.2.1⟩
   case measure=>simp[intOf];omega
  ·have hkn:k=n:=by omega
   subst hkn
   go_wp2_with fail
   go_ret
   refine⟨_,_,rfl,?_,hbel⟩
   have h1:(ss.map Value.string).take k=ss.map Value.string:=List.take_of_length_le (by rw[List.length_map,HL.o];exact Nat.le_refl _)
   have h2:(ss.map Value.string).length - k=0:=by rw[List.length_map,HL.o];omega
   rwa[h1,h2,List.replicate_zero,List.append_nil] at hown
theorem Zaw (xs ys:List ByteArray) (A A':Option Addr) (c c' B B':Nat) (w:World) (hx:Rds w B A (xs.map Value.string)) (hy:Rds w B' A' (ys.map Value.string)) (hn:xs.length≤4294967296) (hm:ys.length≤4294967296) :
  Calls Tryz.prog 106 #[.slice A xs.length c,.slice A' ys.length c'] w fun e w'=>e=.returned (.bool (decide (xs=ys)))∧Dr w w':=by
 have HX:=Hd hx;clear hx
 have HY:=Hd hy;clear hy
 by_cases hl:xs.length=ys.length
 ·have hb:((xs.length:Int) != (ys.length:Int))=false:=by simp[hl]
  have hl1:xs.length≤ys.length:=by omega
  have hl2:ys.length≤xs.length:=by omega
  clear hl
  go_enter Tryz.func106,Tryz.ntmps106
  go_wp2_with fail
  go_loopw [5] (fun i wr=>∃ k:Nat,k≤xs.length∧i=.int .i64 k∧decide (xs.drop k=ys.drop k)=decide (xs=ys)∧Dr w wr) (fun i _=>xs.length - (intOf i).toNat)
  case atStart=>exact⟨0,by omega,rfl,rfl,Dr.refl _⟩
  case round =>
   obtain⟨k,hk,rfl,hg,hd⟩:=hrel
   have HG:=Hd hg;clear hg
   by_cases hlt:k<xs.length
   ·obtain⟨x,hxk⟩:=Zc (l:=xs) (k:=k) hlt
    obtain⟨y,hyk⟩:=Zc (l:=ys) (k:=k) (by omega)
    obtain⟨ad,rfl,hc⟩:=(HX.o.dr hd).at_ (Zs Value.string hxk)
    obtain⟨ad',rfl,hc'⟩:=(HY.o.dr hd).at_ (Zs Value.string hyk)
    have HDX:=Hd (ZT hxk);clear hxk
    have HDY:=Hd (ZT hyk);clear hyk
    have h1:(k:Int)<xs.length:=by omega
    have h2:(k:Int)<ys.length:=by omega
    by_cases hxy:x=y
    ·subst hxy
     go_wp2_with fail
     go_quiet (fail)
     go_wp2_with fail
     go_roundw
     case rel=>exact⟨k+1,by omega,by go_num,by rw[← HG.o,HDX.o,HDY.o];simp,hd.drewN _⟩
     case measure=>simp[intOf];omega
    ·have hne:=Zr hxy
     have HN:=Hd hxy;clear hxy
     go_wp2_with fail
     go_quiet (fail)
     go_wp2_with fail
     go_ret
     exact⟨Zk (by rw[← HG.o,HDX.o,HDY.o];simp[HN.o]),hd.drewN _⟩
   ·go_wp2_with fail
    go_ret
    exact⟨Zk (by rw[← HG.o,List.drop_eq_nil_of_le (by omega),List.drop_eq_nil_of_le (by omega)];simp),hd⟩
 ·have hb:((xs.length:Int) != (ys.length:Int))=true:=by simp;omega
  have HF:Hid (decide (xs=ys)=false):=by
   show decide (xs=ys)=false
   simp;rintro rfl;exact hl rfl
  clear hl
  go_enter Tryz.func106,Tryz.ntmps106
  go_wp2_with fail
  go_ret
  exact⟨Zk HF.o.symm,Dr.refl _⟩
theorem Ws (xs:List ByteArray) (A A':Option Addr) (c c' B B':Nat) (w:World) (hx:Rds w B A (xs.map Value.string)) (hy:Rds w B' A' (xs.map Value.string)) (hn:xs.length≤4294967296) :
  Calls Tryz.prog 106 #[.slice A xs.length c,.slice A' xs.length c'] w fun e w'=>e=.returned (.bool true)∧Dr w w' :=
 (Zaw xs xs A A' c c' B B' w hx hy hn hn).mono fun _ _ ⟨he,hd⟩=>⟨by rw[he,decide_eq_true rfl],hd⟩
def ZlY (k:Int):Nat→List Int
 | 0=>[]
 | n+1=>k :: ZlY (k+1) n
end Go.Proofs.YtocbgldilgemoaaGreatDoor
namespace Go.Proofs.YtocbgldilgemoaaGreatDoor
open Go.RowKit
set_option linter.unusedVariables false
def okc (c:UInt8):Bool:=decide (97≤c.toNat∧c.toNat≤100)
def isW (l:List UInt8):Bool:=l.all okc&&decide (l.length≤400)
theorem Zcu {l:List UInt8} (h:isW l=true):l.length≤400:=by
 simp[isW] at h;exact h.2
theorem Zb {s:ByteArray} (h:isW (L s)=true):s.size≤400:=by
 have:=Zcu h;rwa[Zj] at this
set_option maxHeartbeats 400000 in
theorem Xm (s:ByteArray) (hs:s.size≤maxLen) (w:World) :
  Calls Tryz.prog 43 #[.string s] w fun e w'=>e=.returned (.bool (isW (L s)))∧w=w':=by
 unfold maxLen at hs
 by_cases h4:400<s.size
 ·go_enter Tryz.func43,Tryz.ntmps43
  go_wp2
  go_ret
  exact⟨Zk (by simp[isW];intro _;omega),rfl⟩
 ·go_enter Tryz.func43,Tryz.ntmps43
  go_wp2
  go_loop [3] (fun i=>∃ k:Nat,k≤s.size∧i=.int .i64 k∧((L s).drop k).all okc=(L s).all okc) (fun i=>s.size - (intOf i).toNat)
  case atStart=>exact⟨0,by omega,rfl,rfl⟩
  case round =>
   obtain⟨k,hk,rfl,hg⟩:=hrel
   have H:=Hd hg;clear hg
   by_cases h0:k<s.size
   ·have H1:=Hd (ZS s k h0)
    by_cases h1:97≤(s[k].toNat:Int)∧(s[k].toNat:Int)≤100
    ·obtain⟨h1,h2⟩:=h1
     go_wp2
     go_round
     case rel=>exact⟨k+1,by omega,by go_num,by rw[← H.o,H1.o,List.all_cons,show okc s[k]=true from decide_eq_true (by omega),Bool.true_and]⟩
     case measure=>simp[intOf];omega
    ·have h2:okc s[k]=false:=decide_eq_false (by omega)
     have H2:=Hd h2;clear h2
     have h3:(s[k].toNat:Int)<97∨100<(s[k].toNat:Int):=by omega
     clear h1
     rcases h3 with h3|h3
     all_goals
      go_wp2
      go_ret
      exact⟨Zk (by rw[isW,← H.o,H1.o,List.all_cons,H2.o];rfl),rfl⟩
   ·have H1:=Hd (QP s k h0)
    go_wp2
    go_ret
    exact⟨Zk (by rw[isW,← H.o,H1.o];simp;omega),rfl⟩
theorem Zi (s:ByteArray) (b:Bool) (hs:s.size≤maxLen) (hb:isW (L s)=b) (w:World) :
  Calls Tryz.prog 43 #[.string s] w fun e w'=>e=.returned (.bool b)∧w=w':=hb ▸ Xm s hs w
set_option maxHeartbeats 400000 in
theorem Zfn (s:ByteArray) (hs:s.size≤maxLen) (w:World) :
  Calls Tryz.prog 27 #[.string s] w fun e w'=>e=.returned (.bool (isW (L s)))∧w=w':=by
 unfold maxLen at hs
 go_enter Tryz.func27,Tryz.ntmps27
 go_wp2
 go_loop [3,6] (fun _ i=>∃ k:Nat,k≤s.size∧i=.int .i64 k∧((L s).drop k).all okc=(L s).all okc) (fun _ i=>s.size - (intOf i).toNat)
 case atStart=>exact⟨0,by omega,rfl,rfl⟩
 case round =>
  obtain⟨k,hk,rfl,hg⟩:=hrel
  have H:=Hd hg;clear hg
  by_cases h0:k<s.size
  ·have H1:=Hd (ZS s k h0)
   by_cases h1:97≤(s[k].toNat:Int)∧(s[k].toNat:Int)≤100
   ·obtain⟨h1,h2⟩:=h1
    go_wp2
    go_round
    case rel=>exact⟨k+1,by omega,by go_num,by rw[← H.o,H1.o,List.all_cons,show okc s[k]=true from decide_eq_true (by omega),Bool.true_and]⟩
    case measure=>simp[intOf];omega
   ·have h2:okc s[k]=false:=decide_eq_false (by omega)
    have H2:=Hd h2;clear h2
    have h3:(s[k].toNat:Int)<97∨100<(s[k].toNat:Int):=by omega
    clear h1
    rcases h3 with h3|h3
    all_goals
     go_wp2
     go_ret
     exact⟨Zk (by rw[isW,← H.o,H1.o,List.all_cons,H2.o];rfl),rfl⟩
  ·have H1:=Hd (QP s k h0)
   go_wp2
   go_ret
   exact⟨Zk (by rw[isW,← H.o,H1.o];simp;omega),rfl⟩
theorem Zl (s:ByteArray) (b:Bool) (hs:s.size≤maxLen) (hb:isW (L s)=b) (w:World) :
  Calls Tryz.prog 27 #[.string s] w fun e w'=>e=.returned (.bool b)∧w=w':=hb ▸ Zfn s hs w
def byV (l:List UInt8):List Value:=l.map fun b=>Value.int .u8 (b.toNat:Int)
theorem Zm (l:List UInt8):(byV l).length=l.length:=by simp[byV]
theorem VQ (l k:List UInt8):byV (l++k)=byV l++byV k:=by simp[byV]
theorem ZP (l:List UInt8) (b:UInt8):byV l++[Value.int .u8 (b.toNat:Int)]=byV (l++[b]):=by simp[byV]
def Zd (l:List UInt8):ByteArray:=⟨l.toArray⟩
theorem Zy (l:List UInt8):L (Zd l)=l:=by simp[L,Zd]
theorem Zh (l:List UInt8):(Zd l).size=l.length:=by simp[Zd,ByteArray.size]
theorem Rds.conv {P:Program} {w:World} {B n:Nat} {A:Option Addr} {l:List UInt8} (h:Rds w B A (byV l)) (hn:l.length=n) (src dst e:TypeId) (c:Nat)
  (hs:P.underlying src=some (.slice e)) (he:P.underlying e=some (.int .u8)) (hd:P.underlying dst=some .string) :
  (convert src dst (.slice A n c)).run P w=.ok (.string (Zd l)) w:=by
 subst hn
 cases A with
 | none =>
  have hl:l=[]:=by
   cases l with
   | nil=>rfl
   | cons b l =>
    obtain⟨ad,h1,_⟩:=h 0 (Value.int .u8 (b.toNat:Int)) (by simp[byV])
    cases h1
  subst hl
  exact Lib.run_convert_nil_bytes w src dst e c hs he hd
 | some a =>
  refine run_convert_bytes_back w src dst e a c l hs he hd ?_
  intro j hj
  obtain⟨ad,h1,_,h2⟩:=h j (Value.int .u8 (l[j].toNat:Int)) (by simp[byV,hj])
  injection h1 with h1
  subst h1
  exact h2
theorem ZQ:(Tryz.prog.info? 5).map (fun i=>(i.zero,i.size,i.bytes))=some (some (.int .u8 0),1,1):=by kernel_rfl
theorem ZhJ (w:World) (o1:Obj) (c2 c3:Array Value) (t2 t3:TypeId) :
  (((w.alloc o1).alloc (.cells c2 t2)).alloc (.cells c3 t3)).heap[w.heap.size+1]? = some (.cells c2 t2 (0,0))∧(((w.alloc o1).alloc (.cells c2 t2)).alloc (.cells c3 t3)).heap[w.heap.size+1+1]? = some (.cells c3 t3 (0,0)):=by
 have s1:(w.alloc o1).heap.size=w.heap.size+1:=by simp
 have s2:((w.alloc o1).alloc (.cells c2 t2)).heap.size=w.heap.size+1+1:=by simp
 have h2:=heap_alloc_new (w.alloc o1) (.cells c2 t2)
 have h3:=heap_alloc_new ((w.alloc o1).alloc (.cells c2 t2)) (.cells c3 t3)
 rw[s1] at h2
 rw[s2] at h3
 exact⟨(heap_alloc_old ((w.alloc o1).alloc (.cells c2 t2)) (.cells c3 t3) (by rw[s2];omega)).trans h2,h3⟩
theorem Zbg (w:World) (c1:Array Value) (t1:TypeId) (o2 o3:Obj):(((w.alloc (.cells c1 t1)).alloc o2).alloc o3).heap[w.heap.size]? = some (.cells c1 t1 (0,0)) :=
 (heap_alloc_old _ _ (by simp;omega)).trans ((heap_alloc_old _ _ (by simp)).trans (heap_alloc_new _ _))
theorem Zg {w:World} {g k:Nat} {cs:Array Value} {t:TypeId} (h:w.heap[g]? = some (.cells cs t (0,0))) (u:Value):(w.setCell ⟨g,k,none⟩ u).heap[g]? = some (.cells (cs.setIfInBounds k u) t (0,0)):=by
 rw[setCell_eq_setRow w g k cs t (0,0) u h]
 exact setRow_heap w g _ _ t (0,0) h
theorem Q9 {w:World} {g g' k:Nat} {o:Option Obj} (h:w.heap[g]? = o) (hne:g≠g') (u:Value):(w.setCell ⟨g',k,none⟩ u).heap[g]? = o:=by
 rw[heap_setCell_other w ⟨g',k,none⟩ g u hne];exact h
theorem Own.far_set {w:World} {B g k:Nat} {E:TypeId} {v:Value} {xs:List Value} (h:Own w B E v xs) (hg:g<B) (u:Value):Own (w.setCell ⟨g,k,none⟩ u) B E v xs:=by
 have hgr:w.grownBy (w.setCell ⟨g,k,none⟩ u) (some g):=⟨rfl,rfl,rfl,by simp,fun i _ hne=>heap_setCell_other w ⟨g,k,none⟩ i u (fun he=>hne (by simp[he]))⟩
 refine World.ownsRow.kept h hgr ?_
 cases hv:v.ownBlock with
 | none=>exact .inl rfl
 | some q =>
  right;intro he
  have h1:=(World.ownsRow.lt h q hv).1
  have:q=g:=by simpa using he
  omega
theorem Vz {w:World} {B n c:Nat} {E:TypeId} {A:Option Addr} {xs:List Value} (h:Own w B E (.slice A n c) xs) (hn:0<n):∃ g,A=some ⟨g,0,none⟩:=by
 obtain⟨_,h2|⟨g,cap,cur,hv,_⟩⟩:=h
 ·have:=h2.1
  injection this with e1 e2 e3
  omega
 ·injection hv with e1 e2 e3
  exact⟨g,e1⟩
end Go.Proofs.YtocbgldilgemoaaGreatDoor
namespace Go.Proofs.YtocbgldilgemoaaGreatDoor
set_option linter.unusedVariables false
def Qv (k:Nat) (r:List Int):List Int:=r.take k++r.drop (k+1)
theorem ZgG {k:Nat} {r:List Int} (h:k<r.length):(Qv k r).length=r.length - 1:=by
 unfold Qv;rw[List.length_append,List.length_take,List.length_drop];omega
theorem ZgH {k:Nat} {r:List Int} {x:Int} (h:x∈Qv k r):x∈r:=by
 unfold Qv at h
 rcases List.mem_append.1 h with h|h
 ·exact List.mem_of_mem_take h
 ·exact List.mem_of_mem_drop h
def dtS (f:List (List Int)→Int) (rs:List (List Int)):List Int→Nat→Int→Int→Int
 | [],_,_,s=>s
 | x :: t,k,g,s=>dtS f rs t (k+1) (-g) (s+g * x * f (rs.map (Qv k)))
def dtF:Nat→List (List Int)→Int
 | 0,_=>1
 | _+1,[]=>1
 | n+1,r :: rs=>dtS (dtF n) rs r 0 1 0
def sqM (n:Nat) (m:List (List Int)):Prop:=m.length=n∧∀ r∈m,r.length=n∧∀ x∈r,-100≤x∧x≤100
theorem Vl {n:Nat} {r:List Int} {rs:List (List Int)} (h:sqM (n+1) (r :: rs)) {k:Nat} (hk:k<n+1):sqM n (rs.map (Qv k)):=by
 obtain⟨h1,h2⟩:=h
 refine⟨by rw[List.length_map];simpa using h1,fun y hy=>?_⟩
 obtain⟨z,hz,rfl⟩:=List.mem_map.1 hy
 obtain⟨h3,h4⟩:=h2 z (List.mem_cons_of_mem _ hz)
 exact⟨by rw[ZgG (by omega)];omega,fun x hx=>h4 x (ZgH hx)⟩
def dtB:Nat→Nat
 | 0=>1
 | n+1=>(n+1) * (100 * dtB n)
theorem ZbC {g x y:Int} {D:Nat} (hg:g.natAbs=1) (hx:-100≤x∧x≤100) (hy:y.natAbs≤D):(g * x * y).natAbs≤100 * D:=by
 rw[Int.natAbs_mul,Int.natAbs_mul,hg,Nat.one_mul]
 exact Nat.mul_le_mul (by omega) hy
theorem Zig {f:List (List Int)→Int} {rs:List (List Int)} {D N:Nat} (hf:∀ k,k<N→(f (rs.map (Qv k))).natAbs≤D) :
  ∀ (t:List Int) (k:Nat) (g s:Int),k+t.length≤N→(∀ x∈t,-100≤x∧x≤100)→g.natAbs=1→(dtS f rs t k g s).natAbs≤s.natAbs+t.length * (100 * D)
 | [],k,g,s,_,_,_=>by simp[dtS]
 | x :: t,k,g,s,hk,hx,hg=>by
  rw[List.length_cons] at hk
  have h1:=ZbC hg (hx x (by simp)) (hf k (by omega))
  have h2:=Zig hf t (k+1) (-g) (s+g * x * f (rs.map (Qv k))) (by omega) (fun y hy=>hx y (List.mem_cons_of_mem _ hy)) (by omega)
  have h3:(t.length+1) * (100 * D)=t.length * (100 * D)+100 * D:=Nat.succ_mul _ _
  rw[dtS,List.length_cons,h3]
  have h4:=Int.natAbs_add_le s (g * x * f (rs.map (Qv k)))
  omega
theorem ZfA:∀ (n:Nat) (m:List (List Int)),sqM n m→(dtF n m).natAbs≤dtB n
 | 0,_,_=>by simp[dtF,dtB]
 | n+1,[],h=>by have:=h.1;simp at this
 | n+1,r :: rs,h=>by
  have h2:=h.2 r (by simp)
  have h3:=Zig (D:=dtB n) (N:=n+1) (fun k hk=>ZfA n _ (Vl h hk)) r 0 1 0 (by omega) h2.2 (by decide)
  rw[h2.1] at h3
  simpa[dtF,dtB] using h3
theorem Zih {n:Nat} (h:n≤3):dtB n≤6000000:=by
 match n,h with
 | 0,_=>decide
 | 1,_=>decide
 | 2,_=>decide
 | 3,_=>decide
theorem Zkt {n:Nat} (h:n≤4):dtB n≤2400000000:=by
 match n,h with
 | 0,_=>decide
 | 1,_=>decide
 | 2,_=>decide
 | 3,_=>decide
 | 4,_=>decide
theorem Zc0 {f:List (List Int)→Int} {rs:List (List Int)} {r:List Int} {k:Nat} {g s x:Int} (h:r[k]? = some x) :
  dtS f rs (r.drop k) k g s=dtS f rs (r.drop (k+1)) (k+1) (-g) (s+g * x * f (rs.map (Qv k))):=by
 rw[ZT h,dtS]
theorem ZfB {f:List (List Int)→Int} {rs:List (List Int)} {r:List Int} {k:Nat} {g s:Int} (h:r.length≤k):dtS f rs (r.drop k) k g s=s:=by
 rw[List.drop_eq_nil_of_le h,dtS]
def ctC (i:Nat) (y:ByteArray):Int:=((L y).count (UInt8.ofNat (97+i)):Nat)
def mtR (zs:List ByteArray) (i:Nat):List Int:=zs.map (ctC i)
def mtL (zs:List ByteArray):List (List Int):=(List.range zs.length).map (mtR zs)
theorem ZeD {i:Nat} {y:ByteArray} (h:y.size≤8):0≤ctC i y∧ctC i y≤8:=by
 have:=List.count_le_length (a:=UInt8.ofNat (97+i)) (l:=L y)
 rw[Zj] at this
 unfold ctC;omega
theorem Zc1 {zs:List ByteArray} (h:∀ y∈zs,y.size≤8):sqM zs.length (mtL zs):=by
 refine⟨by simp[mtL],fun r hr=>?_⟩
 obtain⟨i,_,rfl⟩:=List.mem_map.1 hr
 refine⟨by simp[mtR],fun x hx=>?_⟩
 obtain⟨y,hy,rfl⟩:=List.mem_map.1 hx
 have:=ZeD (i:=i) (h y hy)
 omega
theorem Zlt {zs:List ByteArray} {i:Nat} (h:i<zs.length):(mtL zs)[i]? = some (mtR zs i):=by
 unfold mtL
 rw[List.getElem?_map,List.getElem?_range h];rfl
def suD (zs:List ByteArray):Int:=dtF zs.length (mtL zs)
end Go.Proofs.YtocbgldilgemoaaGreatDoor
namespace Go.Proofs.YtocbgldilgemoaaGreatDoor
open Go.RowKit
set_option maxHeartbeats 2000000
set_option linter.unusedVariables false
set_option maxRecDepth 4000
def sg (p q:Int):Int :=
 if p=0∧q=0 then 0 else if (0≤p∧0≤q)∨(0<p∧5 * q * q<p * p)∨(0<q∧¬ 5 * q * q<p * p) then 1 else -1
theorem Wn {x:Int} {m:Int} (h1:-m≤x) (h2:x≤m):0≤x * x∧x * x≤m * m:=by
 rcases Int.le_total 0 x with h|h
 ·exact⟨Int.mul_nonneg h h,Int.mul_le_mul h2 h2 h (by omega)⟩
 ·rw[← Int.neg_mul_neg]
  exact⟨Int.mul_nonneg (by omega) (by omega),Int.mul_le_mul (by omega) (by omega) (by omega) (by omega)⟩
theorem Yc (q:Int):5 * q * q=5 * (q * q):=Int.mul_assoc 5 q q
theorem ZfP {x:Int} {m:Int} (h1:-m≤x) (h2:x≤m):0≤5 * x * x∧5 * x * x≤5 * (m * m):=by
 have:=Wn h1 h2
 rw[Yc];omega
theorem ZgU (a b:Int) (ha:-16777216≤a) (ha2:a≤16777216) (hb:-16777216≤b) (hb2:b≤16777216) (w:World) :
  Calls Tryz.prog 322 #[.agg #[.int .i64 a,.int .i64 b]] w fun e w'=>e=.returned (.int .i64 (sg (2 * a+b) b))∧Below w.heap.size w w':=by
 have p1:=Wn (x:=2 * a+b) (m:=50331648) (by omega) (by omega)
 have p2:=ZfP (x:=b) (m:=16777216) (by omega) (by omega)
 obtain⟨p3,p4⟩:=p1
 obtain⟨p5,p6⟩:=p2
 by_cases hb0:b=0
 ·subst hb0
  clear p3 p4 p5 p6
  go_enter Tryz.func322,Tryz.ntmps322
  go_wp2_with fail
  go_quiet (fail)
  go_wp2_with fail
  all_goals go_ret
  all_goals refine⟨Qp ?_,QL ((Below.refl _ _).alloc nlr _) _⟩
  all_goals (unfold sg;(repeat' split)<;>first|rfl|omega)
 ·have hbe:(b==0)=false:=by simpa using hb0
  by_cases g:5 * b * b<(2 * a+b) * (2 * a+b)
  all_goals
   go_enter Tryz.func322,Tryz.ntmps322
   go_wp2_with fail
   go_quiet (fail)
   go_wp2_with fail
   all_goals go_ret
   all_goals refine⟨Qp ?_,QL ((Below.refl _ _).alloc nlr _) _⟩
   all_goals (try simp only[Bool.not_eq_false',Bool.not_eq_true',decide_eq_true_eq,decide_eq_false_iff_not] at *)
   all_goals (unfold sg;(repeat' split)<;>first|rfl|omega)
theorem Zld:∀ (n:Nat) (p q:Int),p.natAbs≤n→p * p=5 * (q * q)→p=0
 | 0,p,q,h,_=>by omega
 | n+1,p,q,h,he=>by
  have h5:p % 5=0:=by
   have h1:(p * p) % 5=0:=by omega
   have h2:p % 5=0∨p % 5=1∨p % 5=2∨p % 5=3∨p % 5=4:=by omega
   rw[Int.mul_emod] at h1
   rcases h2 with h2|h2|h2|h2|h2<;>rw[h2] at h1<;>first|exact h2|(exfalso;revert h1;decide)
  obtain⟨r,rfl⟩:∃ r,p=5 * r:=⟨p / 5,by omega⟩
  have hq:q * q=5 * (r * r):=by
   have:5 * r * (5 * r)=25 * (r * r):=by rw[Int.mul_assoc,Int.mul_left_comm r 5 r];omega
   omega
  by_cases hr:r=0
  ·omega
  ·have hqq:q=0:=by
    have hlt:q.natAbs≤n:=by
     have h1:q * q<(5 * r) * (5 * r):=by
      have:5 * r * (5 * r)=25 * (r * r):=by rw[Int.mul_assoc,Int.mul_left_comm r 5 r];omega
      have:0<r * r:=by
       rcases Int.lt_trichotomy r 0 with h|h|h
       ·rw[← Int.neg_mul_neg];exact Int.mul_pos (by omega) (by omega)
       ·exact absurd h hr
       ·exact Int.mul_pos h h
      omega
     rcases Nat.lt_or_ge q.natAbs (5 * r).natAbs with h2|h2
     ·omega
     ·exfalso
      have h3:(5 * r).natAbs * (5 * r).natAbs≤q.natAbs * q.natAbs:=Nat.mul_le_mul h2 h2
      have h4:(((5 * r).natAbs * (5 * r).natAbs:Nat):Int)≤((q.natAbs * q.natAbs:Nat):Int):=by omega
      rw[Int.natAbs_mul_self,Int.natAbs_mul_self] at h4
      omega
    exact Zld n q r hlt hq
   subst hqq
   have h6:r * r=0:=by simp at hq;omega
   rcases Int.mul_eq_zero.1 h6 with h|h<;>omega
theorem ZaM (a b:Int) (ha:-16777216≤a) (ha2:a≤16777216) (hb:-16777216≤b) (hb2:b≤16777216) (w:World) :
  Calls Tryz.prog 281 #[.agg #[.int .i64 a,.int .i64 b]] w fun e w'=>e=.returned (.int .i64 (sg (2 * a+b) b))∧Below w.heap.size w w':=by
 have p1:=Wn (x:=2 * a+b) (m:=50331648) (by omega) (by omega)
 have p2:=ZfP (x:=b) (m:=16777216) (by omega) (by omega)
 obtain⟨p3,p4⟩:=p1
 obtain⟨p5,p6⟩:=p2
 have hne:(2 * a+b) * (2 * a+b)=5 * b * b→2 * a+b=0:=fun h=>Zld _ _ b nlr (by rw[h,Yc])
 have HN:=Hd hne;clear hne
 by_cases g:5 * b * b<(2 * a+b) * (2 * a+b)
 all_goals
  go_enter Tryz.func281,Tryz.ntmps281
  go_wp2_with fail
  all_goals go_ret
  all_goals refine⟨Qp ?_,(Below.refl _ _).alloc nlr _⟩
  all_goals (have hn:=HN.o;unfold sg;(repeat' split)<;>first|rfl|omega)
theorem ZfQ {p p' q:Int} (h:p≤p') (h0:0≤sg p q):0≤sg p' q:=by
 unfold sg at h0 ⊢
 have hsq:(0≤p→p * p≤p' * p')∧(p'≤0→p' * p'≤p * p):=by
  constructor
  ·intro h1;exact Int.mul_le_mul h h h1 (by omega)
  ·intro h1;rw[← Int.neg_mul_neg p',← Int.neg_mul_neg p];exact Int.mul_le_mul (by omega) (by omega) (by omega) (by omega)
 obtain⟨s1,s2⟩:=hsq
 have hq:=Wn (x:=q) (m:=q.natAbs) (by omega) (by omega)
 have hp:=Wn (x:=p) (m:=p.natAbs) (by omega) (by omega)
 have hp':=Wn (x:=p') (m:=p'.natAbs) (by omega) (by omega)
 obtain⟨q1,_⟩:=hq
 obtain⟨p1,_⟩:=hp
 obtain⟨p2,_⟩:=hp'
 rw[Yc] at h0 ⊢
 (repeat' split at h0)<;>(repeat' split)<;>omega
theorem ZgV (a b c d:Int) (ha:-16777216≤a) (ha2:a≤16777216) (hb:-16777216≤b) (hb2:b≤16777216) (hc:-16777216≤c) (hc2:c≤16777216) (hd:-16777216≤d) (hd2:d≤16777216) (w:World) :
  Calls Tryz.prog 321 #[.agg #[.int .i64 a,.int .i64 b],.agg #[.int .i64 c,.int .i64 d]] w fun e w'=>e=.returned (.agg #[.int .i64 (a - c),.int .i64 (b - d)])∧Below w.heap.size w w':=by
 go_enter Tryz.func321,Tryz.ntmps321
 go_wp2_with fail
 simp[bodyPost,results,Tryz.results321,go_sem]
 exact ((((Below.refl _ _).alloc nlr _).alloc (by simp) _).alloc (by simp;omega) _)
theorem Zdf (a b c d:Int) (ha:-8388608≤a) (ha2:a≤8388608) (hb:-8388608≤b) (hb2:b≤8388608) (hc:-8388608≤c) (hc2:c≤8388608) (hd:-8388608≤d) (hd2:d≤8388608) (w:World) :
  Calls Tryz.prog 299 #[.agg #[.int .i64 a,.int .i64 b],.agg #[.int .i64 c,.int .i64 d]] w fun e w'=>e=.returned (.int .i64 (sg (2 * (a - c)+(b - d)) (b - d)))∧Below w.heap.size w w':=by
 go_enter Tryz.func299,Tryz.ntmps299
 go_wp2_with fail
 refine (ZgV a b c d (by omega) (by omega) (by omega) (by omega) (by omega) (by omega) (by omega) (by omega) _).mono ?_
 rintro e w1 ⟨rfl,b1⟩
 go_wp2_with fail
 refine (ZgU (a - c) (b - d) (by omega) (by omega) (by omega) (by omega) _).mono ?_
 rintro e w2 ⟨rfl,b2⟩
 go_wp2_with fail
 go_ret
 have s1:=b1.size
 simp at s1
 exact⟨rfl,((((Below.refl _ _).alloc nlr _).alloc (by simp) _).trans (b1.mono (by simp;omega))).trans (b2.mono (by omega))⟩
theorem Yd (a b c:Int) (ha:-8388608≤a) (ha2:a≤8388608) (hb:-8388608≤b) (hb2:b≤8388608) (hc:-8388608≤c) (hc2:c≤8388608) (w:World) :
  Calls Tryz.prog 299 #[.agg #[.int .i64 a,.int .i64 b],.agg #[.int .i64 c,.int .i64 0]] w fun e w'=>e=.returned (.int .i64 (sg (2 * (a - c)+b) b))∧Below w.heap.size w w':=by
 have h:=Zdf a b c 0 ha ha2 hb hb2 hc hc2 (by omega) (by omega) w
 rwa[Int.sub_zero] at h
def Ye (a b F:Int):Prop:=(∀ m,m≤F→0≤sg (2 * (a - m)+b) b)∧(∀ m,F<m→¬ 0≤sg (2 * (a - m)+b) b)∧-4000000≤F∧F<4000000
theorem Wo (a b F:Int) (ha:-1000000≤a) (ha2:a≤1000000) (hb:-1000000≤b) (hb2:b≤1000000) (hF:Ye a b F) (w:World) :
  Calls Tryz.prog 270 #[.agg #[.int .i64 a,.int .i64 b]] w fun e w'=>e=.returned (.int .i64 F)∧Below w.heap.size w w':=by
 obtain⟨hF1,hF2,hF3,hF4⟩:=hF
 have H1:=Hd hF1;clear hF1
 have H2:=Hd hF2;clear hF2
 go_enter Tryz.func270,Tryz.ntmps270
 go_wp2_with fail
 have c0:(w.alloc (.cells #[Value.int IntKind.i64 a,Value.int IntKind.i64 b] 105)).cell? ⟨w.heap.size,0,none⟩=some (.int .i64 a):=by simp
 have c1:(w.alloc (.cells #[Value.int IntKind.i64 a,Value.int IntKind.i64 b] 105)).cell? ⟨w.heap.size,1,none⟩=some (.int .i64 b):=by simp
 have hb0:Below w.heap.size w (w.alloc (.cells #[Value.int IntKind.i64 a,Value.int IntKind.i64 b] 105)):=(Below.refl _ _).alloc nlr _
 have hs0:w.heap.size<(w.alloc (.cells #[Value.int IntKind.i64 a,Value.int IntKind.i64 b] 105)).heap.size:=by simp
 generalize (w.alloc (.cells #[Value.int IntKind.i64 a,Value.int IntKind.i64 b] 105))=W at *
 go_loopw [3,4,5] (fun l h _ wr=>∃ low high:Int,-5000000≤low∧low≤F∧F<high∧high≤5000000∧l=.int .i64 low∧h=.int .i64 high∧Below W.heap.size W wr) (fun l h _ _=>(intOf h - intOf l).toNat)
 case atStart=>exact⟨_,_,by omega,by omega,by omega,by omega,rfl,rfl,Below.refl _ _⟩
 case round =>
  obtain⟨low,high,k1,k2,k3,k4,rfl,rfl,hbel⟩:=hrel
  have d0:=(hbel.cell (p:=⟨w.heap.size,0,none⟩) hs0).trans c0
  have d1:=(hbel.cell (p:=⟨w.heap.size,1,none⟩) hs0).trans c1
  by_cases hgo:1<high - low
  ·obtain⟨mid,hmid⟩:∃ mid,mid=low+(high - low) / 2:=⟨_,rfl⟩
   have hm1:low<low+(high - low) / 2:=by omega
   have hm2:low+(high - low) / 2<high:=by omega
   by_cases hg:low+(high - low) / 2≤F
   ·have hs:=H1.o _ hg
    clear hmid
    go_wp2_with fail
    refine (Yd a b (low+(high - low) / 2) (by omega) (by omega) (by omega) (by omega) (by omega) (by omega) _).mono ?_
    rintro e w1 ⟨rfl,b1⟩
    go_wp2_with fail
    go_roundw
    case rel=>exact⟨_,high,by omega,hg,k3,k4,rfl,rfl,hbel.trans (b1.mono hbel.size)⟩
    case measure=>simp[intOf];omega
   ·have hs:=H2.o _ (show F<low+(high - low) / 2 by omega)
    clear hmid
    go_wp2_with fail
    refine (Yd a b (low+(high - low) / 2) (by omega) (by omega) (by omega) (by omega) (by omega) (by omega) _).mono ?_
    rintro e w1 ⟨rfl,b1⟩
    go_wp2_with fail
    go_roundw
    case rel=>exact⟨low,_,by omega,k2,by omega,by omega,rfl,rfl,hbel.trans (b1.mono hbel.size)⟩
    case measure=>simp[intOf];omega
  ·go_wp2_with fail
   go_ret
   exact⟨Qp (by omega),hb0.trans (hbel.mono (by omega))⟩
theorem Wp (a b F:Int) (ha:-1000000≤a) (ha2:a≤1000000) (hb:-1000000≤b) (hb2:b≤1000000) (hF:Ye a b F) (w:World) :
  Calls Tryz.prog 239 #[.agg #[.int .i64 a,.int .i64 b]] w fun e w'=>e=.returned (.int .i64 F)∧Below w.heap.size w w':=by
 obtain⟨hF1,hF2,hF3,hF4⟩:=hF
 have H1:=Hd hF1;clear hF1
 have H2:=Hd hF2;clear hF2
 go_enter Tryz.func239,Tryz.ntmps239
 go_wp2_with fail
 have c0:(w.alloc (.cells #[Value.int IntKind.i64 a,Value.int IntKind.i64 b] 105)).cell? ⟨w.heap.size,0,none⟩=some (.int .i64 a):=by simp
 have c1:(w.alloc (.cells #[Value.int IntKind.i64 a,Value.int IntKind.i64 b] 105)).cell? ⟨w.heap.size,1,none⟩=some (.int .i64 b):=by simp
 have hb0:Below w.heap.size w (w.alloc (.cells #[Value.int IntKind.i64 a,Value.int IntKind.i64 b] 105)):=(Below.refl _ _).alloc nlr _
 have hs0:w.heap.size<(w.alloc (.cells #[Value.int IntKind.i64 a,Value.int IntKind.i64 b] 105)).heap.size:=by simp
 generalize (w.alloc (.cells #[Value.int IntKind.i64 a,Value.int IntKind.i64 b] 105))=W at *
 go_loopw [3,4,5] (fun l h _ wr=>∃ low high:Int,-4000000≤low∧low≤F∧F<high∧high≤4000000∧l=.int .i64 low∧h=.int .i64 high∧Below W.heap.size W wr) (fun l h _ _=>(intOf h - intOf l).toNat)
 case atStart=>exact⟨_,_,by omega,by omega,by omega,by omega,rfl,rfl,Below.refl _ _⟩
 case round =>
  obtain⟨low,high,k1,k2,k3,k4,rfl,rfl,hbel⟩:=hrel
  have d0:=(hbel.cell (p:=⟨w.heap.size,0,none⟩) hs0).trans c0
  have d1:=(hbel.cell (p:=⟨w.heap.size,1,none⟩) hs0).trans c1
  by_cases hgo:1<high - low
  ·have hm1:low<low+(high - low) / 2:=by omega
   have hm2:low+(high - low) / 2<high:=by omega
   by_cases hg:low+(high - low) / 2≤F
   ·have hs:=H1.o _ hg
    go_wp2_with fail
    refine (ZaM (a - (low+(high - low) / 2)) b (by omega) (by omega) (by omega) (by omega) _).mono ?_
    rintro e w1 ⟨rfl,b1⟩
    go_wp2_with fail
    go_roundw
    case rel=>exact⟨_,high,by omega,hg,k3,k4,rfl,rfl,hbel.trans (b1.mono hbel.size)⟩
    case measure=>simp[intOf];omega
   ·have hs:=H2.o _ (show F<low+(high - low) / 2 by omega)
    go_wp2_with fail
    refine (ZaM (a - (low+(high - low) / 2)) b (by omega) (by omega) (by omega) (by omega) _).mono ?_
    rintro e w1 ⟨rfl,b1⟩
    go_wp2_with fail
    go_roundw
    case rel=>exact⟨low,_,by omega,k2,by omega,by omega,rfl,rfl,hbel.trans (b1.mono hbel.size)⟩
    case measure=>simp[intOf];omega
  ·go_wp2_with fail
   go_ret
   exact⟨Qp (by omega),hb0.trans (hbel.mono (by omega))⟩
theorem Zdg (P:Int→Prop) (n:Nat):∀ (m:Int),P m→¬ P (m+n)→∃ k,m≤k∧k<m+n∧P k∧¬ P (k+1):=by
 induction n with
 | zero=>intro m h1 h2;simp at h2;exact absurd h1 h2
 | succ n ih =>
  intro m h1 h2
  by_cases h:P (m+1)
  ·obtain⟨k,hk1,hk2,hk3,hk4⟩:=ih (m+1) h (by rw[show m+1+(n:Int)=m+((n+1:Nat):Int) from by omega];exact h2)
   exact⟨k,by omega,by omega,hk3,hk4⟩
  ·exact⟨m,by omega,by omega,h1,h⟩
theorem ZbN (a b:Int) (ha:-1000000≤a) (ha2:a≤1000000) (hb:-1000000≤b) (hb2:b≤1000000):∃ F,Ye a b F:=by
 have hb5:=Wn (x:=b) (m:=1000000) hb hb2
 have hlo:0≤sg (2 * (a - -4000000)+b) b:=by
  have h1:5000000≤2 * (a - -4000000)+b:=by omega
  have h2:=Int.mul_le_mul h1 h1 (by omega) (by omega)
  unfold sg;rw[Yc]
  (repeat' split)<;>omega
 have hhi:¬ 0≤sg (2 * (a - 4000000)+b) b:=by
  have h1:5000000≤-(2 * (a - 4000000)+b):=by omega
  have h2:=Int.mul_le_mul h1 h1 (by omega) (by omega)
  rw[Int.neg_mul_neg] at h2
  unfold sg;rw[Yc]
  (repeat' split)<;>omega
 obtain⟨F,h1,h2,h3,h4⟩:=Zdg (fun m=>0≤sg (2 * (a - m)+b) b) 8000000 (-4000000) hlo (by
  rw[show (-4000000:Int)+(8000000:Nat)=4000000 from by omega];exact hhi)
 refine⟨F,fun m hm=>ZfQ (by omega) h3,fun m hm h=>h4 (ZfQ (by omega) h),by omega,by omega⟩
noncomputable def flr (a b:Int):Int:=Classical.epsilon (Ye a b)
theorem YQ (a b:Int) (ha:-1000000≤a) (ha2:a≤1000000) (hb:-1000000≤b) (hb2:b≤1000000):Ye a b (flr a b) :=
 Classical.epsilon_spec (ZbN a b ha ha2 hb hb2)
noncomputable def low (n:Int):Int:=flr 0 n
theorem ZeN (n:Int) (h:0≤n) (h2:n≤100000):0≤low n∧low n<4000000:=by
 have hf:=YQ 0 n (by omega) (by omega) (by omega) (by omega)
 refine⟨?_,hf.2.2.2⟩
 unfold low
 rcases Int.lt_or_le (flr 0 n) 0 with h0|h0
 ·exfalso
  refine hf.2.1 0 h0 ?_
  unfold sg
  (repeat' split)<;>omega
 ·exact h0
theorem ZgW (n:Int) (h:0≤n) (h2:n≤100000) (w:World) :
  Calls Tryz.prog 266 #[.int .i64 n] w fun e w'=>e=.returned (.int .i64 (low n))∧Below w.heap.size w w':=by
 have hf:=YQ 0 n (by omega) (by omega) (by omega) (by omega)
 have HF:=Hd hf;clear hf
 go_enter Tryz.func266,Tryz.ntmps266
 go_wp2_with fail
 refine (Wo 0 n (flr 0 n) (by omega) (by omega) (by omega) (by omega) HF.o _).mono ?_
 rintro e w1 ⟨rfl,b1⟩
 go_wp2_with fail
 go_ret
 exact⟨rfl,b1⟩
theorem ZbO (n:Int) (h:0≤n) (h2:n≤100000) (w:World) :
  Calls Tryz.prog 236 #[.int .i64 n] w fun e w'=>e=.returned (.int .i64 (low n))∧Below w.heap.size w w':=by
 have hf:=YQ 0 n (by omega) (by omega) (by omega) (by omega)
 have HF:=Hd hf;clear hf
 go_enter Tryz.func236,Tryz.ntmps236
 go_wp2_with fail
 refine (Wp 0 n (flr 0 n) (by omega) (by omega) (by omega) (by omega) HF.o _).mono ?_
 rintro e w1 ⟨rfl,b1⟩
 go_wp2_with fail
 go_ret
 exact⟨rfl,b1⟩
def ltr (k:Nat):UInt8:=UInt8.ofNat (97+k)
theorem ZhD (k:Nat) (hk:k<4):({ data:=#[97,98,99,100] }:ByteArray).extract k (k+1)=Zd [ltr k]:=by
 match k,hk with
 | 0,_=>rfl
 | 1,_=>rfl
 | 2,_=>rfl
 | 3,_=>rfl
theorem Zlo (k:Nat) (hk:k<4):({ data:=#[97,98,99,100] }:ByteArray)[k]'hk=ltr k:=by
 match k,hk with
 | 0,_=>rfl
 | 1,_=>rfl
 | 2,_=>rfl
 | 3,_=>rfl
theorem YK (a b:List UInt8):Zd a++Zd b=Zd (a++b):=by
 apply ZH
 simp[Zd,ByteArray.data_append]
theorem V8 {P:Program} {ops:Array Oper} {o:Oper} {a:Act} {w:World} {K:Act→World→Prop} {Q:Exit→Act→World→Prop} {R:Prop} {E:TypeId} {u:Value} (hg:o.guard=none) (s x:Operand) (t:TypeId)
  (ho:o.op=.call { callee:=.builtin .append,args:=#[s,x],argTypes:=#[t,t] })
  (z:Value) (bytes:Nat) (ht:P.underlying t=some (.slice E)) (hinfo:(P.info? E).map (fun i=>(i.zero,i.size,i.bytes))=some (some z,1,bytes)) (hzs:z.cells.size=1)
  {v:Value} {xs:List Value} {B:Nat} (hs:a.eval s=v) (hown:Own w B E v xs) (hu:u.oneCell'=true)
  (hx:a.eval x=.slice (some ⟨w.heap.size,0,none⟩) 1 1) (n:Nat)
  (hl:xs.length=n) (hn:n<4294967296) (hb16:bytes≤1024) (hB:B≤w.heap.size)
  (h:∀ A c w',Own w' B E (.slice A (n+1) c) (xs++[u])→Below B w w'→w.heap.size≤w'.heap.size→K (a.put o.dst (.slice A (n+1) c)) w') :
  if Region.wanted o (yielded ops a.tmps)=true then Oper.wp P o a (w.alloc (.cells #[u] E)).drew K Q else R:=by
 have hw:Region.wanted o (yielded ops a.tmps)=true:=by simp[Region.wanted,hg]
 rw[if_pos hw]
 obtain⟨i,hi,hz,hsize,hby⟩:=info_parts hinfo
 subst hl
 have hbel0:Below B w (w.alloc (.cells #[u] E)).drew:=((Below.refl B w).alloc hB _).drew
 have hown0:Own (w.alloc (.cells #[u] E)).drew B E v xs:=hown.below (((Below.refl _ w).alloc nlr _).drew)
 have hcell:(w.alloc (.cells #[u] E)).drew.cell? ⟨w.heap.size,0,none⟩=some u:=by simp
 refine wp_append_own _ s x t ho B E i z 1 bytes ht hi hz hsize hby hzs (by decide) v xs.length xs hs hown0 ⟨w.heap.size,0,none⟩ 1 1 [u] hx rfl ?_ ?_ ?_ ?_ (by simp;omega) ?_
 ·intro j q hj
  match j,hj with
  | 0,hj=>simp only[List.getElem?_cons_zero,Option.some.injEq] at hj;subst hj;exact hcell
 ·intro q hq;simp at hq;subst hq;exact hu
 ·unfold maxLen;omega
 ·calc (xs.length+1) * bytes≤4294967296 * 1024:=Nat.mul_le_mul (by omega) hb16
   _≤140737488355328:=by decide
 ·intro v' w1 hown' hgrow _
  have hown2:Own w1 B E v' (xs++[u]):=by
   unfold Own;simpa using hown'
  have hbel:Below B w w1:=hbel0.grown hgrow (by simp;omega) (fun k hk=>(World.ownsRow.lt hown k hk).1)
  obtain⟨A,c,hv,_⟩:=hown2.shape
  have hl:(xs++[u]).length=xs.length+1:=by simp
  rw[hl] at hv
  rw[hv]
  rw[hv] at hown2
  exact h A c w1 hown2 hbel hbel.size
def nx (d:Nat→Int) (R:Nat→Int) (i:Nat):Nat→Int
 | 0=>(i:Int)+1
 | k+1=>min (min (R k+d k) (R (k+1)+1)) (nx d R i k+1)
def Xz (x:ByteArray):List ByteArray→Int→Int
 | [],_=>-1
 | y :: r,i=>if x=y then i else Xz x r (i+1)
def Yr (ss:List ByteArray) (x:ByteArray):Int:=Xz x ss 0
def Zhd (ss:List ByteArray) (x:ByteArray):Bool:=decide (0≤Yr ss x)
theorem WI (ss:List ByteArray) (x:ByteArray) (A:Option Addr) (c B:Nat) (w:World) (hn:ss.length≤4294967296) (hrd:Rds w B A (ss.map Value.string)) :
  Calls Tryz.prog 203 #[.slice A ss.length c,.string x] w fun e w'=>e=.returned (.int .i64 (Yr ss x))∧Dr w w':=by
 have HR:=Hd hrd;clear hrd
 go_enter Tryz.func203,Tryz.ntmps203
 go_wp2_with fail
 go_loop [5,8] (fun _ i=>∃ k:Nat,k≤ss.length∧i=.int .i64 k∧Xz x (ss.drop k) k=Yr ss x) (fun _ i=>ss.length - (intOf i).toNat)
 case atStart=>exact⟨0,by omega,rfl,rfl⟩
 case round =>
  obtain⟨k,hk,rfl,hg⟩:=hrel
  have HG:=Hd hg;clear hg
  by_cases hlt:k<ss.length
  ·obtain⟨s,hs⟩:=Zc (l:=ss) (k:=k) hlt
   obtain⟨ad,rfl,hc⟩:=HR.o.at_ (Zs Value.string hs)
   have HD:=Hd (ZT hs);clear hs
   by_cases hxs:x=s
   ·have he:(x.toList==s.toList)=true:=by rw[Jp,decide_eq_true hxs]
    have HX:=Hd hxs;clear hxs
    go_wp2_with fail
    go_ret
    exact⟨Qp (by rw[← HG.o,HD.o,Xz,if_pos HX.o]),Dr.refl _⟩
   ·have he:(x.toList==s.toList)=false:=Zr hxs
    have HX:=Hd hxs;clear hxs
    go_wp2_with fail
    go_round
    case rel=>exact⟨k+1,by omega,by go_num,by rw[← HG.o,HD.o,Xz,if_neg HX.o];rfl⟩
    case measure=>simp[intOf];omega
  ·have h0:ss.drop k=[]:=List.drop_eq_nil_of_le (by omega)
   have H0:=Hd h0;clear h0
   go_wp2_with fail
   go_ret
   exact⟨Qp (by rw[← HG.o,H0.o];rfl),Dr.refl _⟩
theorem ZaT (ss:List ByteArray) (x:ByteArray) (A:Option Addr) (c B:Nat) (w:World) (hn:ss.length≤4294967296) (hrd:Rds w B A (ss.map Value.string)) :
  Calls Tryz.prog 175 #[.slice A ss.length c,.string x] w fun e w'=>e=.returned (.int .i64 (Yr ss x))∧Dr w w':=by
 have HR:=Hd hrd;clear hrd
 go_enter Tryz.func175,Tryz.ntmps175
 go_wp2_with fail
 go_loop [5,6,9] (fun _ _ i=>∃ k:Nat,k≤ss.length∧i=.int .i64 k∧Xz x (ss.drop k) k=Yr ss x) (fun _ _ i=>ss.length - (intOf i).toNat)
 case atStart=>exact⟨0,by omega,rfl,rfl⟩
 case round =>
  obtain⟨k,hk,rfl,hg⟩:=hrel
  have HG:=Hd hg;clear hg
  by_cases hlt:k<ss.length
  ·obtain⟨s,hs⟩:=Zc (l:=ss) (k:=k) hlt
   obtain⟨ad,rfl,hc⟩:=HR.o.at_ (Zs Value.string hs)
   have HD:=Hd (ZT hs);clear hs
   by_cases hxs:x=s
   ·have he:(x.toList==s.toList)=true:=by rw[Jp,decide_eq_true hxs]
    have HX:=Hd hxs;clear hxs
    go_wp2_with fail
    go_ret
    exact⟨Qp (by rw[← HG.o,HD.o,Xz,if_pos HX.o]),Dr.refl _⟩
   ·have he:(x.toList==s.toList)=false:=Zr hxs
    have HX:=Hd hxs;clear hxs
    go_wp2_with fail
    go_round
    case rel=>exact⟨k+1,by omega,by go_num,by rw[← HG.o,HD.o,Xz,if_neg HX.o];rfl⟩
    case measure=>simp[intOf];omega
  ·have h0:ss.drop k=[]:=List.drop_eq_nil_of_le (by omega)
   have H0:=Hd h0;clear h0
   go_wp2_with fail
   go_ret
   exact⟨Qp (by rw[← HG.o,H0.o];rfl),Dr.refl _⟩
theorem ZaC (ss:List ByteArray) (x:ByteArray) (A:Option Addr) (c B:Nat) (w:World) (hn:ss.length≤4294967296) (hrd:Rds w B A (ss.map Value.string)) :
  Calls Tryz.prog 290 #[.slice A ss.length c,.string x] w fun e w'=>e=.returned (.bool (Zhd ss x))∧Dr w w':=by
 have HR:=Hd hrd;clear hrd
 go_enter Tryz.func290,Tryz.ntmps290
 go_wp2_with fail
 refine (WI ss x A c B _ hn HR.o).mono ?_
 rintro e w1 ⟨rfl,d1⟩
 go_wp2_with fail
 go_ret
 exact⟨rfl,d1⟩
def ltF (f g:Nat→Nat) (n:Nat):Prop:=∃ d,d<n∧(∀ e,e<d→f e=g e)∧f d<g d
theorem ZaP {f g:Nat→Nat} {n:Nat} (h:ltF f g n):¬ ltF g f n:=by
 obtain⟨d,_,h1,h2⟩:=h
 rintro ⟨d',_,h1',h2'⟩
 rcases Nat.lt_trichotomy d d' with h|h|h
 ·have:=h1' d h;omega
 ·subst h;omega
 ·have:=h1 d' h;omega
theorem Zlz {f g:Nat→Nat} {n:Nat} (h:∀ e,e<n→f e=g e):¬ ltF f g n:=fun ⟨d,hd,_,h2⟩=>by have:=h d hd;omega
def JH (g:Nat→Nat) (n r:Nat):Nat→Nat:=fun e=>if e+r<n then g (e+r) else g (e+r - n)
def J4 (g:Nat→Nat) (n:Nat):Prop:=∀ r,0<r→r<n→ltF g (JH g n r) n
def Zaz (g:Nat→Nat) (n:Nat):Prop:=∀ r,0<r→r<n→∃ d,r+d<n∧(∀ e,e<d→g e=g (r+e))∧g d<g (r+d)
def Per (g:Nat→Nat) (n k:Nat):Prop:=∀ j,n≤j→j<k→g j=g (j - n)
theorem ZbZ {g:Nat→Nat} {n k:Nat} (hn:0<n) (h:Per g n k):∀ j,j<k→g j=g (j % n):=fun j=>by
 induction j using Nat.strongRecOn with
 | _ j ih =>
  intro hj
  by_cases hjn:j<n
  ·rw[Nat.mod_eq_of_lt hjn]
  ·rw[h j (by omega) hj,ih (j - n) (by omega) (by omega),← Nat.mod_eq_sub_mod (by omega)]
theorem ZlA {g:Nat→Nat} {n:Nat} (h:Zaz g n):J4 g n:=fun r h1 h2=>by
 obtain⟨d,hd,he,hl⟩:=h r h1 h2
 refine⟨d,by omega,fun e hed=>?_,?_⟩
 ·rw[JH,if_pos (by omega),he e hed,Nat.add_comm]
 ·rw[JH,if_pos (by omega),Nat.add_comm];exact hl
theorem ZiG (g:Nat→Nat):Zaz g 1:=fun r h1 h2=>by omega
theorem ZkI (g:Nat→Nat):Per g 1 1:=fun j h1 h2=>by omega
theorem Zb0 {j n r e:Nat} (hr:j % n=r) (h:r+e<n):(j+e) % n=r+e:=by
 rw[Nat.add_mod,hr,Nat.mod_eq_of_lt (show e<n by omega),Nat.mod_eq_of_lt h]
theorem Zg3 {g:Nat→Nat} {n k:Nat} (hn:0<n) (hnk:n≤k) (hp:Per g n k) (hl:Zaz g n) (hc:g (k - n)<g k):Zaz g (k+1):=fun j hj hjk=>by
 have hm:=ZbZ hn hp
 obtain⟨r,hr⟩:∃ r,j % n=r:=⟨_,rfl⟩
 have hrn:r<n:=by rw[← hr];exact Nat.mod_lt _ hn
 have hck:g ((k - n) % n)<g k:=by rw[← hm (k - n) (by omega)];exact hc
 have hkm:(k - n) % n=k % n:=(Nat.mod_eq_sub_mod hnk).symm
 rw[hkm] at hck
 rcases Nat.eq_zero_or_pos r with h0|h0
 ·
  subst h0
  have hje:∀ e,j+e<k→g (j+e)=g e:=fun e he=>by
   rw[hm _ he,hm e (by omega),Nat.add_mod,hr,Nat.zero_add,Nat.mod_mod]
  refine⟨k - j,by omega,fun e he=>(hje e (by omega)).symm,?_⟩
  rw[show j+(k - j)=k by omega]
  have:g (k - j)=g (k % n):=by
   rw[hm (k - j) (by omega)]
   congr 1
   have h2:(j+(k - j)) % n=(k - j) % n:=by rw[Nat.add_mod,hr,Nat.zero_add,Nat.mod_mod]
   rw[← h2,show j+(k - j)=k by omega]
  rw[this];exact hck
 ·obtain⟨d,hd,he,hlt⟩:=hl r h0 hrn
  have hje:∀ e,e≤d→j+e<k→g (j+e)=g (r+e):=fun e h1 h2=>by
   rw[hm _ h2,Zb0 hr (by omega)]
  by_cases hjd:j+d<k
  ·refine⟨d,by omega,fun e h1=>?_,?_⟩
   ·rw[hje e (by omega) (by omega)];exact he e h1
   ·rw[hje d nlr hjd];exact hlt
  ·refine⟨k - j,by omega,fun e h1=>?_,?_⟩
   ·rw[hje e (by omega) (by omega)];exact he e (by omega)
   ·rw[show j+(k - j)=k by omega]
    have hk:k % n=r+(k - j):=by
     have:=Zb0 (e:=k - j) hr (by omega)
     rwa[show j+(k - j)=k by omega] at this
    rw[hk] at hck
    rcases Nat.lt_or_ge (k - j) d with h2|h2
    ·have:=he (k - j) h2;omega
    ·have h3:k - j=d:=by omega
     rw[h3] at hck ⊢;omega
theorem ZiH {g:Nat→Nat} {n k N:Nat} (hn:0<n) (hnk:n≤k) (hp:Per g n k) (hl:Zaz g n) (hstop:k<N→g k<g (k - n)) (hkN:k≤N):∀ l,n<l→l≤N→¬ J4 g l:=fun l h1 h2 h=>by
 have hm:=ZbZ hn hp
 by_cases hlk:l≤k
 ·have hlt:=h n hn h1
  have hfst:∀ e,e<l - n→JH g l n e=g e:=fun e he=>by
   rw[JH,if_pos (by omega),hp (e+n) (by omega) (by omega)];congr 1;omega
  obtain⟨r,hr⟩:∃ r,(l - n) % n=r:=⟨_,rfl⟩
  have hrn:r<n:=by rw[← hr];exact Nat.mod_lt _ hn
  have hsnd:∀ e,e<n→JH g l n (l - n+e)=g e:=fun e he=>by
   rw[JH,if_neg (by omega)];congr 1;omega
  rcases Nat.eq_zero_or_pos r with h0|h0
  ·subst h0
   refine Zlz (fun e he=>?_) hlt
   rcases Nat.lt_or_ge e (l - n) with h3|h3
   ·exact (hfst e h3).symm
   ·obtain⟨e',rfl⟩:∃ e',e=l - n+e':=⟨e - (l - n),by omega⟩
    rw[hsnd e' (by omega),hm (l - n+e') (by omega),Nat.add_mod,hr,Nat.zero_add,Nat.mod_mod,Nat.mod_eq_of_lt (by omega)]
  ·obtain⟨d,hd,he,hdl⟩:=hl r h0 hrn
   have hje:∀ e,e≤d→g (l - n+e)=g (r+e):=fun e h1=>by
    rw[hm _ (by omega),Zb0 hr (by omega)]
   refine ZaP hlt ⟨l - n+d,by omega,fun e h3=>?_,?_⟩
   ·rcases Nat.lt_or_ge e (l - n) with h4|h4
    ·exact hfst e h4
    ·obtain⟨e',rfl⟩:∃ e',e=l - n+e':=⟨e - (l - n),by omega⟩
     rw[hsnd e' (by omega),hje e' (by omega)];exact he e' (by omega)
   ·rw[hsnd d (by omega),hje d nlr];exact hdl
 ·have hst:=hstop (by omega)
  have hq:n * (k / n)+k % n=k:=Nat.div_add_mod k n
  have hq1:1≤k / n:=(Nat.one_le_div_iff hn).2 hnk
  have hr0:0<n * (k / n):=Nat.mul_pos hn hq1
  have hrk:k % n<n:=Nat.mod_lt _ hn
  have hlt:=h (n * (k / n)) hr0 (by omega)
  obtain⟨q,hqq⟩:∃ q,n * (k / n)=q:=⟨_,rfl⟩
  have hqm:q % n=0:=by rw[← hqq];exact Nat.mul_mod_right _ _
  rw[hqq] at hq hr0 hlt
  refine ZaP hlt ⟨k % n,by omega,fun e h3=>?_,?_⟩
  ·rw[JH,if_pos (by omega),hm (e+q) (by omega),Nat.add_mod,hqm,Nat.add_zero,Nat.mod_mod,Nat.mod_eq_of_lt (by omega)]
  ·rw[JH,if_pos (by omega),show k % n+q=k by omega,Nat.mod_eq_sub_mod hnk,← hm (k - n) (by omega)]
   exact hst
theorem Zg4 {g:Nat→Nat} {n k:Nat} (hn:0<n) (hp:Per g n k) (a:Nat) (ha:a * n≤k):∀ j,j<k - a * n→g (a * n+j)=g j:=fun j hj=>by
 have hm:=ZbZ hn hp
 rw[hm _ (by omega),hm j (by omega),Nat.add_comm,Nat.add_mul_mod_self_right]
theorem ZeV {f g:Nat→Nat} {n:Nat} (h:∀ e,e<n→f e=g e) (hl:Zaz g n):Zaz f n:=fun r h1 h2=>by
 obtain⟨d,hd,he,hlt⟩:=hl r h1 h2
 exact⟨d,hd,fun e h3=>by rw[h e (by omega),h (r+e) (by omega)];exact he e h3,by rw[h d (by omega),h (r+d) hd];exact hlt⟩
theorem Ww {g:Nat→Nat} {n k N:Nat} (hn:0<n) (hp:Per g n k) (hl:Zaz g n) (hstop:k<N→g k<g (k - n)) (hkN:k≤N) (a:Nat) (ha:a * n+n≤k) :
  J4 (fun j=>g (a * n+j)) n∧∀ l,n<l→l≤N - a * n→¬ J4 (fun j=>g (a * n+j)) l:=by
 have hs:=Zg4 hn hp a (by omega)
 have hlm:Zaz (fun j=>g (a * n+j)) n:=ZeV (fun e he=>hs e (by omega)) hl
 refine⟨ZlA hlm,ZiH (k:=k - a * n) hn (by omega) (fun j h1 h2=>?_) hlm (fun h=>?_) (by omega)⟩
 ·show g (a * n+j)=g (a * n+(j - n))
  rw[hp (a * n+j) (by omega) (by omega)];congr 1;omega
 ·show g (a * n+(k - a * n))<g (a * n+(k - a * n - n))
  rw[show a * n+(k - a * n)=k by omega,show a * n+(k - a * n - n)=k - n by omega]
  exact hstop (by omega)
def rv (s:ByteArray):List UInt8:=(L s).reverse
def trn (s:ByteArray):ByteArray:=Zd (rv s)
theorem VB (s:ByteArray):(rv s).length=s.size:=by rw[rv,List.length_reverse,Zj]
theorem Zll (s:ByteArray) (j:Nat) (h:j<s.size):(rv s)[j]? = some (s[s.size - 1 - j]'(by omega)):=by
 rw[rv,List.getElem?_reverse (by rw[Zj];exact h),Zj]
 have:s.size - 1 - j<(L s).length:=by rw[Zj];omega
 rw[List.getElem?_eq_getElem this];rfl
theorem Zcj (s:ByteArray) (j:Nat) (b:UInt8) (h:(rv s)[j]? = some b):(rv s).take (j+1)=(rv s).take j++[b]:=by
 rw[List.take_add_one,h];rfl
theorem JC (s:ByteArray) (hs:s.size≤1000000) (w:World) :
  Calls Tryz.prog 172 #[.string s] w fun e w'=>e=.returned (.string (trn s))∧Below w.heap.size w w':=by
 have HL:=Hd (VB s)
 go_enter Tryz.func172,Tryz.ntmps172
 go_wp2_with fail
 go_loopw [3,4] (fun v i wr=>∃ j:Nat,∃ x:Int,∃ A c,j≤s.size∧x=(s.size:Int) - 1 - j∧i=.int .i64 x∧v=.slice A j c∧Own wr w.heap.size 5 (.slice A j c) (byV ((rv s).take j))∧Below w.heap.size w wr) (fun _ i _=>(intOf i+1).toNat)
 case atStart=>exact⟨0,(s.size:Int) - 1,_,_,by omega,by omega,rfl,rfl,Own.empty nlr,(Below.refl _ _).alloc nlr _⟩
 case round =>
  obtain⟨j,x,A,c,hj,hx,rfl,rfl,hown,hbel⟩:=hrel
  have x1:x+j+1≤s.size:=by omega
  have x2:(s.size:Int)≤x+j+1:=by omega
  have x3:x<(s.size:Int):=by omega
  have HX:=Hd hx;clear hx
  have HO:=Hd hown;clear hown
  by_cases hlt:0≤x
  ·have hjs:j<s.size:=by omega
   obtain⟨b,hb⟩:∃ b,s[x.toNat]'(by omega)=b:=⟨_,rfl⟩
   have hat:(rv s)[j]? = some b:=by
    rw[Zll s j hjs,← hb];congr 1;congr 1;omega
   have HT:=Hd (Zcj s j b hat);clear hat
   have hdl:((rv s).take j).length=j:=by rw[List.length_take,HL.o];omega
   have HDL:=Hd hdl;clear hdl
   go_wp2_with (at_builtin;refine Zp rfl (.tmp 13) (.tmp 17) 22 rfl _ 1 Tryz.underlying22 ZQ rfl rfl HO.o _ rfl rfl j ?n1 ?n2 ?n3 ?n4 ?_)
   case n1=>rw[Zm,HDL.o]
   case n2=>omega
   case n3=>decide
   case n4=>exact hbel.size
   intro A' c' w2 hown2 hbel2 hsz2
   rw[ZP,← HT.o] at hown2
   have HO2:=Hd hown2;clear hown2
   go_wp2_with fail
   go_roundw
   case rel=>exact⟨j+1,x - 1,A',c',by omega,by omega,by go_num,rfl,HO2.o,hbel.trans hbel2⟩
   case measure=>simp[intOf];omega
  ·have hjs:j=s.size:=by omega
   have h1:(rv s).take j=rv s:=List.take_of_length_le (by rw[HL.o];omega)
   have HO2:=HO.o
   rw[h1] at HO2
   have hcv:=HO2.reads.conv (P:=Tryz.prog) (HL.o.trans hjs.symm) 22 9 5 c Tryz.underlying22 Tryz.underlying5 Tryz.underlying9
   clear HO2 h1 hjs x1 x2 x3
   go_wp2_with fail
   go_ret
   exact⟨rfl,hbel⟩
theorem ZkW (l:List UInt8) (n k:Nat) (b:UInt8) (hl:l.length=n) (hk:k<n) (hb:l[n - 1 - k]? = some b) :
  (List.replicate (n - k) (0:UInt8)++l.drop (n - k)).set (n - 1 - k) b=List.replicate (n - (k+1)) 0++l.drop (n - (k+1)):=by
 obtain⟨m,hm⟩:∃ m,n - k=m+1:=⟨n - k - 1,by omega⟩
 have e1:n - 1 - k=m:=by omega
 have e2:n - (k+1)=m:=by omega
 rw[e1] at hb
 rw[hm,e1,e2]
 rw[List.replicate_succ',List.append_assoc,List.set_append_right _ _ (by simp),List.length_replicate,Nat.sub_self,List.singleton_append,List.set_cons_zero]
 congr 1
 obtain⟨hlt,he⟩:=List.getElem?_eq_some_iff.1 hb
 rw[List.drop_eq_getElem_cons hlt,he]
theorem J6 (s:ByteArray) (hs:s.size≤1000000) (w:World) :
  Calls Tryz.prog 187 #[.string s] w fun e w'=>e=.returned (.string (trn s))∧Below w.heap.size w w':=by
 have HL:=Hd (VB s)
 have hmk:=run_make_row' (P:=Tryz.prog) 22 5 _ 1 Tryz.underlying22 ZQ rfl .i64 .i64 s.size (by omega) (by omega)
 go_enter Tryz.func187,Tryz.ntmps187
 go_wp2_with fail
 go_loopw [4,10] (fun _ i wr=>∃ k:Nat,k≤s.size∧i=.int .i64 k∧Own wr w.heap.size 5 (.slice (some ⟨w.heap.size,0,none⟩) s.size s.size) (byV (List.replicate (s.size - k) 0++(rv s).drop (s.size - k)))∧Below w.heap.size w wr) (fun _ i _=>s.size - (intOf i).toNat)
 case atStart =>
  refine⟨0,by omega,rfl,?_,(Below.refl _ _).alloc nlr _⟩
  have h1:byV (List.replicate (s.size - 0) 0++(rv s).drop (s.size - 0))=List.replicate s.size (Value.int .u8 0):=by
   rw[List.drop_eq_nil_of_le (by rw[HL.o];omega)];simp[byV]
  rw[h1]
  exact Own.made nlr (by unfold maxLen;omega)
 case round =>
  obtain⟨k,hk,rfl,hown,hbel⟩:=hrel
  by_cases hlt:k<s.size
  ·obtain⟨b,hb⟩:∃ b,s[k]'hlt=b:=⟨_,rfl⟩
   have hat:(rv s)[s.size - 1 - k]? = some b:=by
    rw[Zll s _ (by omega),← hb];congr 1;congr 1;omega
   have hlen:(byV (List.replicate (s.size - k) 0++(rv s).drop (s.size - k))).length=s.size:=by rw[Zm];simp[HL.o]
   obtain⟨g,hg,hBg,hgs,hcell,hfr,hst⟩:=hown.store (k:=s.size - 1 - k) (by rw[hlen];omega)
   injection hg with hg
   injection hg with hg
   subst hg
   obtain⟨old,hold⟩:=Zc (l:=byV (List.replicate (s.size - k) 0++(rv s).drop (s.size - k))) (k:=s.size - 1 - k) (by rw[hlen];omega)
   rw[hold] at hcell
   have hst1:=hst (.int .u8 b.toNat)
   have hset:(byV (List.replicate (s.size - k) 0++(rv s).drop (s.size - k))).set (s.size - 1 - k) (.int .u8 b.toNat)=byV (List.replicate (s.size - (k+1)) 0++(rv s).drop (s.size - (k+1))):=by
    rw[byV,← ZkW (rv s) s.size k b HL.o hlt hat,byV,List.map_set]
   rw[hset] at hst1
   have HST:=Hd hst1
   have hp1:IntKind.i64.wrap ((s.size:Int) - 1)=(s.size:Int) - 1:=IntWalk.i64_in _ (by omega)
   have hp2:IntKind.i64.wrap ((s.size:Int) - 1 - k)=((s.size - 1 - k:Nat):Int):=by rw[IntWalk.i64_in _ (by omega)];omega
   have hp3:(s.size:Int) - 1 - k=((s.size - 1 - k:Nat):Int):=by omega
   have hp4:s.size - 1 - k<s.size:=by omega
   clear hst hst1 hset hlen hown hold hat
   go_wp2_with fail
   go_roundw
   case rel=>exact⟨k+1,by omega,by go_num,HST.o.1,hbel.trans HST.o.2.1⟩
   case measure=>simp[intOf];omega
  ·have hkn:k=s.size:=by omega
   have h1:List.replicate (s.size - k) (0:UInt8)++(rv s).drop (s.size - k)=rv s:=by rw[hkn];simp
   rw[h1] at hown
   have hcv:=hown.reads.conv (P:=Tryz.prog) HL.o 22 9 5 s.size Tryz.underlying22 Tryz.underlying5 Tryz.underlying9
   clear hown h1 hkn
   go_wp2_with fail
   go_ret
   exact⟨rfl,hbel⟩
def Jg (s:ByteArray):Bool:=s.toList==(trn s).toList
theorem Zhq (s:ByteArray):((trn s).toList==s.toList)=Jg s:=by rw[Jg];exact BEq.comm
theorem ZdY (s:ByteArray) (hs:s.size≤1000000) (w:World) :
  Calls Tryz.prog 248 #[.string s] w fun e w'=>e=.returned (.bool (Jg s))∧Below w.heap.size w w':=by
 have hp:(s.toList==(trn s).toList)=Jg s:=rfl
 obtain⟨t,ht⟩:∃ t,trn s=t:=⟨_,rfl⟩
 have hc:=fun w=>J6 s hs w
 rw[ht] at hc hp
 obtain⟨c,hcc⟩:∃ c,Jg s=c:=⟨_,rfl⟩
 rw[hcc] at hp ⊢
 have HC:=Hd hc
 clear hc ht hcc
 go_enter Tryz.func248,Tryz.ntmps248
 go_wp2_with fail
 refine (HC.o _).mono ?_
 rintro e w1 ⟨rfl,b1⟩
 go_wp2_with fail
 go_ret
 exact⟨rfl,b1⟩
theorem ZdZ (s:ByteArray) (hs:s.size≤1000000) (w:World) :
  Calls Tryz.prog 226 #[.string s] w fun e w'=>e=.returned (.bool (Jg s))∧Below w.heap.size w w':=by
 have hp:((trn s).toList==s.toList)=Jg s:=Zhq s
 obtain⟨t,ht⟩:∃ t,trn s=t:=⟨_,rfl⟩
 have hc:=fun w=>JC s hs w
 rw[ht] at hc hp
 obtain⟨c,hcc⟩:∃ c,Jg s=c:=⟨_,rfl⟩
 rw[hcc] at hp ⊢
 have HC:=Hd hc
 clear hc ht hcc
 go_enter Tryz.func226,Tryz.ntmps226
 go_wp2_with fail
 refine (HC.o _).mono ?_
 rintro e w1 ⟨rfl,b1⟩
 go_wp2_with fail
 go_ret
 exact⟨rfl,b1⟩
theorem ZjK (s:ByteArray) (h0:isW (L s)=true) (w:World) :
  Calls Tryz.prog 193 #[.string s] w fun e w'=>e=.returned (.bool (Jg s))∧Below w.heap.size w w':=by
 have h4:=Zb h0
 have hs9:s.size≤maxLen:=by unfold maxLen;omega
 have H0:=Hd h0
 have HC:=Hd (fun w=>ZdY s (by omega) w)
 clear h0
 obtain⟨c,hcc⟩:∃ c,Jg s=c:=⟨_,rfl⟩
 rw[hcc] at HC ⊢
 clear hcc
 go_enter Tryz.func193,Tryz.ntmps193
 go_wp2_with (go_at_call 27;with_reducible refine (Zl s _ hs9 H0.o _).mono ?_;rintro e w' ⟨rfl,rfl⟩)
 refine (HC.o _).mono ?_
 rintro e w1 ⟨rfl,b1⟩
 go_wp2_with fail
 go_ret
 exact⟨rfl,b1⟩
theorem ZjL (s:ByteArray) (h0:isW (L s)=true) (w:World) :
  Calls Tryz.prog 150 #[.string s] w fun e w'=>e=.returned (.bool (Jg s))∧Below w.heap.size w w':=by
 have h4:=Zb h0
 have hs9:s.size≤maxLen:=by unfold maxLen;omega
 have H0:=Hd h0
 have HC:=Hd (fun w=>ZdZ s (by omega) w)
 clear h0
 obtain⟨c,hcc⟩:∃ c,Jg s=c:=⟨_,rfl⟩
 rw[hcc] at HC ⊢
 clear hcc
 go_enter Tryz.func150,Tryz.ntmps150
 go_wp2_with (go_at_call 43;with_reducible refine (Zi s _ hs9 H0.o _).mono ?_;rintro e w' ⟨rfl,rfl⟩)
 refine (HC.o _).mono ?_
 rintro e w1 ⟨rfl,b1⟩
 go_wp2_with fail
 go_ret
 exact⟨rfl,b1⟩
set_option maxHeartbeats 400000 in
theorem Zbu (n:Int) (h:0≤n) (h2:n≤100000) (w:World) :
  Calls Tryz.prog 210 #[.int .i64 n] w fun e w'=>e=.returned (.int .i64 (low n))∧Below w.heap.size w w':=by
 go_enter Tryz.func210,Tryz.ntmps210
 go_wp2_with (first
  | (go_at_call 65;refine (Zo _ _ _ ⟨h,h2⟩ _).mono ?_;rintro e w' ⟨rfl,rfl⟩)
  | (go_at_call 266;refine (ZgW _ h h2 _).mono ?_;rintro e w' ⟨rfl,b1⟩))
 go_ret
 exact⟨rfl,b1⟩
set_option maxHeartbeats 400000 in
theorem Zbv (n:Int) (h:0≤n) (h2:n≤100000) (w:World) :
  Calls Tryz.prog 164 #[.int .i64 n] w fun e w'=>e=.returned (.int .i64 (low n))∧Below w.heap.size w w':=by
 go_enter Tryz.func164,Tryz.ntmps164
 go_wp2_with (first
  | (go_at_call 146;refine (Zw _ _ _ ⟨h,h2⟩ _).mono ?_;rintro e w' ⟨rfl,rfl⟩)
  | (go_at_call 236;refine (ZbO _ h h2 _).mono ?_;rintro e w' ⟨rfl,b1⟩))
 go_ret
 exact⟨rfl,b1⟩
def OwnF (w:World) (B:Nat) (E:TypeId) (v:Value) (xs:List Value):Prop :=
 Own w B E v xs∨∃ g,v=.slice (some ⟨g,0,none⟩) xs.length xs.length∧Rds w w.heap.size (some ⟨g,0,none⟩) xs
theorem OwnF.reads {w:World} {B n c:Nat} {E:TypeId} {A:Option Addr} {xs:List Value} (h:OwnF w B E (.slice A n c) xs):Rds w w.heap.size A xs:=by
 rcases h with h|⟨g,hv,h⟩
 ·exact h.reads
 ·injection hv with e1 e2 e3
  rw[e1];exact h
theorem OwnF.cap {w:World} {B n c:Nat} {E:TypeId} {A:Option Addr} {xs:List Value} (h:OwnF w B E (.slice A n c) xs):xs.length≤c:=by
 rcases h with h|⟨g,hv,h⟩
 ·obtain⟨_,_,e,h,_⟩:=h.shape
  injection e with e1 e2 e3
  omega
 ·injection hv with e1 e2 e3
  omega
theorem Vj {P:Program} {w:World} {B:Nat} {E:TypeId} {v:Value} {xs:List Value} {ops:Array Oper} {rest:List Oper} {o:Oper} {a:Act} {Q:Exit→Act→World→Prop} (hgd:o.guard=none) (s x:Operand) (t:TypeId)
  (ho:o.op=.call { callee:=.builtin .append,args:=#[s,x],argTypes:=#[t,t] })
  (z:Value) (bytes:Nat) (ht:P.underlying t=some (.slice E)) (hinfo:(P.info? E).map (fun i=>(i.zero,i.size,i.bytes))=some (some z,1,bytes)) (hzs:z.cells.size=1)
  (hs:a.eval s=v) (hown:OwnF w B E v xs) (u:Value) (hu:u.oneCell'=true)
  (hx:a.eval x=.slice (some ⟨w.heap.size,0,none⟩) 1 1) (n:Nat)
  (hl:xs.length=n) (hn:n<4294967296) (hb16:bytes≤1024) (hB:B≤w.heap.size)
  (h:∀ A c w',Own w' B E (.slice A (n+1) c) (xs++[u])→Below B w w'→w.heap.size≤w'.heap.size→wpList P ops Q rest (a.put o.dst (.slice A (n+1) c)) w') :
  wpList P ops Q (o :: rest) a (w.alloc (.cells #[u] E)):=by
 rcases hown with hown|⟨g,hv,hr⟩
 ·exact Zp hgd s x t ho z bytes ht hinfo hzs hs hown u hu hx n hl hn hb16 hB h
 ·obtain⟨i,hi,hz,hsize,hby⟩:=info_parts hinfo
  subst hl
  have hb2:Builtin.nextslicecap (xs.length+1) xs.length * i.bytes≤281474976710656:=growslice_fits (by omega) (by
   rw[hby]
   calc (xs.length+1) * bytes≤4294967296 * 1024:=Nat.mul_le_mul (by omega) hb16
    _≤140737488355328:=by decide)
  have hr2:=hr.below ((Below.refl w.heap.size w).alloc nlr (.cells #[u] E)) nlr
  have hrun:=run_append_grow (P:=P) (w.alloc (.cells #[u] E)) t o.type E i z ht hi hz ⟨g,0,none⟩ xs.length xs.length xs (by rw[hsize,Nat.mul_one]) (fun j y hj=>by
    obtain⟨ad,e,hc⟩:=hr2.at_ hj
    injection e with e
    rw[e];exact hc) ⟨w.heap.size,0,none⟩ 1 1 [u] (by rw[hsize];rfl) (fun j q hj=>by match j,hj with|0,hj=>simp at hj;subst hj;simp[Addr.add]) (by omega) (by omega) hb2
  refine wpList_plain hgd fun K hK=>?_
  unfold Oper.wp execOp
  simp only[ho,resolve,invoke,builtin,Sem.run_bind,Sem.run_pure,Result.andThen_ok,List.map_toArray,List.map_cons,List.map_nil,hs,hv,hx,hrun]
  have hge:=grownCap_ge (w.alloc (.cells #[u] E)) (xs.length+1) xs.length E
  have hle:=grownCap_le_maxLen (w.alloc (.cells #[u] E)) (xs.length+1) xs.length E (by unfold maxLen;omega)
  have hbel:Below B w ((w.alloc (.cells #[u] E)).drew.alloc (.cells (xs.toArray++[u].toArray++Builtin.zeroCells z.cells (grownCap (w.alloc (.cells #[u] E)) (xs.length+1) xs.length E - (xs.length+1))) E)) :=
   ((((Below.refl B w).alloc hB _).drew).alloc (by simp;omega) _)
  refine hK _ _ (h _ _ _ ?_ hbel hbel.size)
  refine⟨by simp,.inr ⟨_,_,_,by rw[List.length_append];rfl,by simp;omega,heap_alloc_new _ _,by simpa using hge,hle,?_,?_⟩⟩
  ·simp[Builtin.zeroCells,hzs];omega
  ·rw[Array.toList_append,Array.toList_append,List.toList_toArray]
   rw[Nat.mul_one]
   exact List.take_left' (by simp)
def SI (l:List Int):Prop:=l.Pairwise fun a b=>a<b
theorem ZbQ:∀ {l m:List Int},SI l→SI m→(∀ x,x∈l↔x∈m)→l=m
 | [],[],_,_,_=>rfl
 | [],b :: m,_,_,h=>absurd ((h b).2 List.mem_cons_self) (by simp)
 | a :: l,[],_,_,h=>absurd ((h a).1 List.mem_cons_self) (by simp)
 | a :: l,b :: m,h1,h2,h=>by
  obtain⟨ha,hl⟩:=List.pairwise_cons.1 h1
  obtain⟨hb,hm⟩:=List.pairwise_cons.1 h2
  have hab:a=b:=by
   rcases List.mem_cons.1 ((h a).1 List.mem_cons_self) with e|e
   ·exact e
   ·rcases List.mem_cons.1 ((h b).2 List.mem_cons_self) with e2|e2
    ·exact e2.symm
    ·have:=hb a e;have:=ha b e2;omega
  subst hab
  have:l=m:=ZbQ hl hm fun x=>by
   constructor
   ·intro hx
    rcases List.mem_cons.1 ((h x).1 (List.mem_cons_of_mem _ hx)) with e|e
    ·subst e;have:=ha x hx;omega
    ·exact e
   ·intro hx
    rcases List.mem_cons.1 ((h x).2 (List.mem_cons_of_mem _ hx)) with e|e
    ·subst e;have:=hb x hx;omega
    ·exact e
  rw[this]
theorem YR (d:Array Int):∀ m x,x∈Lib.compactUpTo d m↔∃ j,j<m∧d[j]! = x
 | 0,x=>by simp[Lib.compactUpTo]
 | m+1,x=>by
  rw[Lib.compactUpTo_succ,List.mem_append,YR d m x]
  constructor
  ·rintro (⟨j,hj,h⟩|h)
   ·exact⟨j,by omega,h⟩
   ·split at h
    ·exact⟨m,by omega,(List.mem_singleton.1 h).symm⟩
    ·simp at h
  ·rintro ⟨j,hj,h⟩
   by_cases hjm:j=m
   ·subst hjm
    by_cases hk:Lib.keeps d j=true
    ·rw[if_pos hk];exact .inr (by simp[h])
    ·unfold Lib.keeps at hk
     simp only[decide_eq_true_eq,not_or,Classical.not_not] at hk
     exact .inl ⟨j - 1,by omega,by rw[← hk.2];exact h⟩
   ·exact .inl ⟨j,by omega,h⟩
theorem Zdj (d:Array Int) (hs:∀ i j,i<j→j<d.size→d[i]! ≤ d[j]!):∀ m,m≤d.size→(Lib.compactUpTo d m).Pairwise (·<·)
 | 0,_=>by simp[Lib.compactUpTo]
 | m+1,hm=>by
  rw[Lib.compactUpTo_succ,List.pairwise_append]
  refine⟨Zdj d hs m (by omega),by split<;>simp,fun a ha b hb=>?_⟩
  split at hb
  ·rename_i hk
   have hb':b=d[m]!:=by simpa using hb
   subst hb'
   obtain⟨j,hj,rfl⟩:=(YR d m a).1 ha
   unfold Lib.keeps at hk
   have hne:d[m]! ≠ d[m - 1]!:=by
    rcases of_decide_eq_true hk with h|h
    ·omega
    ·exact h
   have h1:=hs (m - 1) m (by omega) (by omega)
   have h2:j=m - 1∨d[j]! ≤ d[m - 1]!:=by
    by_cases hjm:j=m - 1
    ·exact .inl hjm
    ·exact .inr (hs j (m - 1) (by omega) (by omega))
   rcases h2 with h2|h2
   ·subst h2;omega
   ·omega
  ·simp at hb
abbrev QX (l:List Int):List Int:=l.mergeSort fun x y=>decide (x≤y)
theorem Js (l:List Int):(QX l).length=l.length:=(List.mergeSort_perm _ _).length_eq
def Vn (l:List Int):List Int:=Lib.compact (QX l)
theorem J0 (l:List Int):SI (Vn l)∧∀ x,x∈Vn l↔x∈l:=by
 have htr:∀ a b c:Int,decide (a≤b)=true→decide (b≤c)=true→decide (a≤c)=true:=fun a b c h1 h2=>decide_eq_true (Int.le_trans (of_decide_eq_true h1) (of_decide_eq_true h2))
 have htt:∀ a b:Int,(decide (a≤b)||decide (b≤a))=true:=fun a b=>by
  rcases Int.le_total a b with h|h
  ·rw[decide_eq_true h];rfl
  ·rw[decide_eq_true h,Bool.or_true]
 have hp:(QX l).Pairwise fun a b=>decide (a≤b)=true:=List.pairwise_mergeSort (le:=fun x y:Int=>decide (x≤y)) htr htt l
 have hs:∀ i j,i<j→j<(QX l).toArray.size→(QX l).toArray[i]! ≤ (QX l).toArray[j]!:=fun i j hij hj=>by
  have hj':j<(QX l).length:=by simpa using hj
  have:=of_decide_eq_true (List.pairwise_iff_getElem.1 hp i j (by omega) hj' hij)
  rw[getElem!_pos _ i (by rw[List.size_toArray];omega),getElem!_pos _ j hj]
  simpa using this
 refine⟨Zdj (QX l).toArray hs (QX l).length (by simp),fun x=>?_⟩
 rw[Vn,Lib.compact,YR,← (List.mergeSort_perm l fun x y=>decide (x≤y)).mem_iff]
 constructor
 ·rintro ⟨j,hj,rfl⟩
  rw[getElem!_pos _ j (by simpa using hj)]
  simp
 ·intro hy
  obtain⟨j,hj,rfl⟩:=List.getElem_of_mem hy
  exact⟨j,hj,by rw[getElem!_pos _ j (by simpa using hj)];simp⟩
def kpI (l:List Int) (x:Int):Nat→Nat
 | 0=>0
 | k+1=>if x<l.getD k 0 then kpI l x k else k+1
def J1 (l:List Int) (x:Int):List Int :=
 if kpI l x l.length≠0∧l.getD (kpI l x l.length - 1) 0=x then l else l.take (kpI l x l.length)++x :: l.drop (kpI l x l.length)
theorem ZbR (l:List Int) (x:Int):∀ k,kpI l x k≤k
 | 0=>Nat.le_refl _
 | k+1=>by have:=ZbR l x k;unfold kpI;split<;>omega
theorem Zit (l:List Int) (x:Int):∀ k j,kpI l x k≤j→j<k→x<l.getD j 0
 | 0,j,_,h=>by omega
 | k+1,j,h1,h2=>by
  unfold kpI at h1
  by_cases hg:x<l.getD k 0
  ·rw[if_pos hg] at h1
   by_cases hj:j=k
   ·subst hj;exact hg
   ·exact Zit l x k j h1 (by omega)
  ·rw[if_neg hg] at h1;omega
theorem ZfR (l:List Int) (x:Int):∀ k,kpI l x k≠0→¬ x<l.getD (kpI l x k - 1) 0
 | 0,h=>absurd rfl h
 | k+1,h=>by
  unfold kpI at h ⊢
  by_cases hg:x<l.getD k 0
  ·rw[if_pos hg] at h ⊢;exact ZfR l x k h
  ·rw[if_neg hg];simpa using hg
theorem Qg {l:List Int} {j:Nat} (h:j<l.length):l.getD j 0=l[j]:=by
 rw[List.getD_eq_getElem?_getD,List.getElem?_eq_getElem h];rfl
theorem Zky {l:List Int} (x:Int) (h:SI l):SI (J1 l x)∧∀ y,y∈J1 l x↔y∈l∨y=x:=by
 unfold J1
 have hle:=ZbR l x l.length
 have hgt:=Zit l x l.length
 have hnot:=ZfR l x l.length
 obtain⟨k,hk⟩:∃ k,kpI l x l.length=k:=⟨_,rfl⟩
 rw[hk] at hle hgt hnot ⊢
 by_cases hc:k≠0∧l.getD (k - 1) 0=x
 ·rw[if_pos hc]
  refine⟨h,fun y=>⟨.inl,fun hy=>?_⟩⟩
  rcases hy with hy|rfl
  ·exact hy
  ·rw[← hc.2,Qg (by omega)];exact List.getElem_mem _
 ·rw[if_neg hc]
  have hp:=List.pairwise_iff_getElem.1 h
  have h1:∀ a∈l.take k,a<x:=fun a ha=>by
   obtain⟨j,hj,rfl⟩:=List.getElem_of_mem ha
   rw[List.length_take] at hj
   rw[List.getElem_take]
   have hk0:k≠0:=by omega
   have hlast:=hnot hk0
   rw[Qg (by omega)] at hlast
   have hne:l[k - 1]'(by omega)≠x:=fun e=>hc ⟨hk0,by rw[Qg (by omega)];exact e⟩
   by_cases hjk:j=k - 1
   ·subst hjk;omega
   ·have:=hp j (k - 1) (by omega) (by omega) (by omega);omega
  have h2:∀ a∈l.drop k,x<a:=fun a ha=>by
   obtain⟨j,hj,rfl⟩:=List.getElem_of_mem ha
   rw[List.length_drop] at hj
   rw[List.getElem_drop]
   have hg:=hgt (k+j) (by omega) (by omega)
   rwa[Qg (by omega)] at hg
  refine⟨?_,fun y=>?_⟩
  ·unfold SI
   rw[List.pairwise_append,List.pairwise_cons]
   refine⟨List.Pairwise.sublist (List.take_sublist _ _) h,⟨h2,List.Pairwise.sublist (List.drop_sublist _ _) h⟩,fun a ha b hb=>?_⟩
   rcases List.mem_cons.1 hb with rfl|hb
   ·exact h1 a ha
   ·have:=h1 a ha;have:=h2 b hb;omega
  ·rw[List.mem_append,List.mem_cons]
   constructor
   ·rintro (hy|rfl|hy)
    ·exact .inl (List.mem_of_mem_take hy)
    ·exact .inr rfl
    ·exact .inl (List.mem_of_mem_drop hy)
   ·rintro (hy|rfl)
    ·rw[← List.take_append_drop k l,List.mem_append] at hy
     rcases hy with hy|hy
     ·exact .inl hy
     ·exact .inr (.inr hy)
    ·exact .inr (.inl rfl)
theorem Ziu (l:List Int) (x:Int):(J1 l x).length≤l.length+1:=by
 unfold J1
 have:=ZbR l x l.length
 split
 ·omega
 ·simp;omega
theorem Zdk:∀ (l a:List Int),SI a→SI (l.foldl J1 a)∧∀ y,y∈l.foldl J1 a↔y∈a∨y∈l
 | [],a,h=>⟨h,fun y=>by simp⟩
 | x :: l,a,h=>by
  have h1:=Zky x h
  have h2:=Zdk l (J1 a x) h1.1
  rw[List.foldl_cons]
  refine⟨h2.1,fun y=>?_⟩
  rw[h2.2,h1.2,List.mem_cons]
  constructor
  ·rintro ((h|h)|h)
   ·exact .inl h
   ·exact .inr (.inl h)
   ·exact .inr (.inr h)
  ·rintro (h|h|h)
   ·exact .inl (.inl h)
   ·exact .inl (.inr h)
   ·exact .inr h
theorem Zdl (l:List Int):l.foldl J1 []=Vn l:=by
 have h1:=Zdk l [] List.Pairwise.nil
 have h2:=J0 l
 refine ZbQ h1.1 h2.1 fun x=>?_
 rw[h1.2,h2.2];simp
theorem Zdm:Vn []=[]:=by rw[← Zdl];rfl
theorem Xv {α:Type} [DecidableEq α] [Inhabited α] (d:Array α) (m:Nat):(Lib.compactUpTo d m).length≤m:=by
 unfold Lib.compactUpTo
 rw[List.length_map]
 exact Nat.le_trans (List.length_filter_le _ _) (by rw[List.length_range];exact Nat.le_refl _)
theorem Yf (l:List Int):(Vn l).length≤l.length:=by
 have h:(Vn l).length≤(QX l).length:=Xv (QX l).toArray (QX l).length
 rwa[Js] at h
theorem Zdn {l:List Int} (h:0<l.length):0<(Vn l).length:=by
 obtain⟨x,r,rfl⟩:∃ x r,l=x :: r:=by cases l with|nil=>cases h|cons x r=>exact⟨x,r,rfl⟩
 exact List.length_pos_of_mem ((J0 (x :: r)).2 x |>.2 List.mem_cons_self)
def stL (p q:Nat) (n:Nat):List Int:=(List.range n).map fun i=>((i * p % q:Nat):Int)
theorem Jj (p q n:Nat):(stL p q n).length=n:=by simp[stL]
theorem Ziv (p q n:Nat):stL p q (n+1)=stL p q n++[((n * p % q:Nat):Int)]:=by simp[stL,List.range_succ]
def ptL (p q n:Nat):List Int:=Vn (stL p q n)
def inP (p q n:Nat) (x:Nat):Bool:=(List.range n).any fun i=>i * p % q==x
theorem Ziw (p q x:Nat):inP p q 0 x=false:=rfl
theorem Zix (p q n x:Nat):inP p q (n+1) x=(inP p q n x||(n * p % q==x)):=by simp[inP,List.range_succ]
def piL (p q n:Nat) (k:Nat):List Int:=((List.range k).filter (inP p q n)).map fun x:Nat=>(x:Int)
theorem Zdo (p q n k:Nat):piL p q n (k+1)=if inP p q n k then piL p q n k++[(k:Int)] else piL p q n k:=by
 unfold piL
 rw[List.range_succ,List.filter_append]
 by_cases h:inP p q n k=true
 ·rw[if_pos h];simp[h]
 ·rw[if_neg h];simp[h]
theorem Ziy (p q n:Nat):∀ k,SI (piL p q n k)∧∀ x∈piL p q n k,x<(k:Int)
 | 0=>⟨List.Pairwise.nil,fun x h=>by simp[piL] at h⟩
 | k+1=>by
  obtain⟨h1,h2⟩:=Ziy p q n k
  rw[Zdo]
  split
  ·refine⟨?_,fun x hx=>?_⟩
   ·unfold SI
    rw[List.pairwise_append]
    refine⟨h1,List.pairwise_singleton _ _,fun a ha b hb=>?_⟩
    rw[List.mem_singleton] at hb
    subst hb;exact h2 a ha
   ·rw[List.mem_append,List.mem_singleton] at hx
    rcases hx with hx|rfl
    ·have:=h2 x hx;omega
    ·omega
  ·exact⟨h1,fun x hx=>by have:=h2 x hx;omega⟩
theorem Zlv {p q n:Nat} (hq:0<q):piL p q n q=ptL p q n:=by
 have h2:=J0 (stL p q n)
 refine ZbQ (Ziy p q n q).1 h2.1 fun x=>?_
 rw[ptL,h2.2,piL,stL,List.mem_map,List.mem_map]
 constructor
 ·rintro ⟨y,hy,rfl⟩
  rw[List.mem_filter,inP,List.any_eq_true] at hy
  obtain⟨_,i,hi,he⟩:=hy
  exact⟨i,hi,by rw[eq_of_beq he]⟩
 ·rintro ⟨i,hi,rfl⟩
  refine⟨i * p % q,?_,rfl⟩
  rw[List.mem_filter,List.mem_range,inP,List.any_eq_true]
  exact⟨Nat.mod_lt _ hq,i,hi,beq_self_eq_true _⟩
theorem ZbS {p q n:Nat} (hq:0<q):∀ x∈ptL p q n,0≤x∧x<(q:Int):=fun x hx=>by
 rw[ptL,(J0 _).2,stL,List.mem_map] at hx
 obtain⟨i,_,rfl⟩:=hx
 have:=Nat.mod_lt (i * p) hq
 omega
def gpA (l:List Int) (q:Int) (i:Nat):Int:=if i+1<l.length then l.getD (i+1) 0 - l.getD i 0 else l.getD 0 0+q - l.getD i 0
def gpT (l:List Int) (q:Int) (k:Nat):List Int:=(List.range k).map (gpA l q)
def gpL (l:List Int) (q:Int):List Int:=gpT l q l.length
theorem JB (l:List Int) (q:Int) (k:Nat):(gpT l q k).length=k:=by simp[gpT]
theorem Yg (l:List Int) (q:Int) (k:Nat):gpT l q (k+1)=gpT l q k++[gpA l q k]:=by simp[gpT,List.range_succ]
def Vh (p q n:Int):Bool:=decide (1≤q∧q≤1000)&&(decide (0≤p∧p≤q - 1)&&decide (1≤n∧n≤400))
def gaG (p q n:Int):List Int:=if Vh p q n=true then gpL (ptL p.toNat q.toNat n.toNat) q else []
def gaV (p q n:Int):List Int:=Vn (gaG p q n)
def quG:Nat→Nat→Nat→List Nat
 | 0,_,_=>[]
 | f+1,p,q=>if q=0 then [] else p / q :: quG f q (p % q)
def quL (p q:Nat):List Nat:=quG (q+1) p q
theorem Ziz (f p:Nat):quG f p 0=[]:=by
 cases f with
 | zero=>rfl
 | succ f=>rw[quG,if_pos rfl]
theorem Zdp:∀ (f g p q:Nat),q<f→q<g→quG f p q=quG g p q
 | 0,_,_,_,h,_=>by omega
 | _+1,0,_,_,_,h=>by omega
 | f+1,g+1,p,q,hf,hg=>by
  rw[quG,quG]
  by_cases h:q=0
  ·rw[if_pos h,if_pos h]
  ·rw[if_neg h,if_neg h]
   have:=Nat.mod_lt p (show 0<q by omega)
   rw[Zdp f g q (p % q) (by omega) (by omega)]
theorem Yh (p:Nat):quL p 0=[]:=Ziz _ _
theorem Wq {p q:Nat} (h:0<q):quL p q=p / q :: quL q (p % q):=by
 have:=Nat.mod_lt p h
 rw[quL,quG,if_neg (by omega),Zdp q (p % q+1) q (p % q) (by omega) (by omega)]
 rfl
theorem ZbT:∀ (k p q:Nat),q<2 ^ k→(quL p q).length≤2 * k
 | 0,p,q,h=>by
  have:q=0:=by omega
  subst this;rw[Yh];simp
 | k+1,p,q,h=>by
  by_cases h0:0<q
  ·rw[Wq h0,List.length_cons]
   by_cases h1:0<p % q
   ·rw[Wq h1,List.length_cons]
    have hr:=Nat.mod_lt p h0
    have h2:q % (p % q)<2 ^ k:=by
     have hlt:=Nat.mod_lt q h1
     have hd:=Nat.div_add_mod q (p % q)
     have hp:1≤q / (p % q):=(Nat.one_le_div_iff h1).2 (by omega)
     have:=Nat.mul_le_mul_left (p % q) hp
     rw[Nat.pow_succ] at h
     omega
    have:=ZbT k (p % q) (q % (p % q)) h2
    omega
   ·have:p % q=0:=by omega
    rw[this,Yh];simp;omega
  ·have:q=0:=by omega
   subst this;rw[Yh];simp
def Zap (p q:Int):Bool:=decide (0≤p∧p≤100000)&&decide (1≤q∧q≤100000)
def quV (p q:Int):List Int:=if Zap p q=true then (quL p.toNat q.toNat).map fun x:Nat=>(x:Int) else []
def mcC (p q i:Nat):UInt8:=if i * p / q<(i+1) * p / q then 98 else 97
def mcL (p q n:Nat):List UInt8:=(List.range n).map (mcC p q)
theorem Vv (p q n:Nat):(mcL p q n).length=n:=by simp[mcL]
theorem Yi (p q n:Nat):mcL p q (n+1)=mcL p q n++[mcC p q n]:=by simp[mcL,List.range_succ]
def Zaq (p q n:Int):Bool:=decide (1≤q∧q≤100)&&(decide (0≤p∧p≤q)&&decide (0≤n∧n≤400))
def mcV (p q n:Int):Option ByteArray:=if Zaq p q n=true then some (Zd (mcL p.toNat q.toNat n.toNat)) else none
def fdG:Nat→Nat→UInt8
 | 0,_=>97
 | f+1,n=>if n % 2=1 then fdG f (n / 2) else if n % 4=0 then 97 else 98
def fdC (n:Nat):UInt8:=fdG (n+1) n
theorem Zdq:∀ (f g n:Nat),n<f→n<g→fdG f n=fdG g n
 | 0,_,_,h,_=>by omega
 | _+1,0,_,_,h=>by omega
 | f+1,g+1,n,hf,hg=>by
  rw[fdG,fdG]
  by_cases h:n % 2=1
  ·rw[if_pos h,if_pos h,Zdq f g (n / 2) (by omega) (by omega)]
  ·rw[if_neg h,if_neg h]
theorem Zkz {n:Nat} (h:n % 2=1):fdC n=fdC (n / 2):=by
 rw[fdC,fdG,if_pos h,fdC,Zdq n (n / 2+1) (n / 2) (by omega) (by omega)]
theorem ZiA {n:Nat} (h:n % 4=0):fdC n=97:=by rw[fdC,fdG,if_neg (by omega),if_pos h]
theorem ZkA {n:Nat} (h:n % 4=2):fdC n=98:=by rw[fdC,fdG,if_neg (by omega),if_neg (by omega)]
def fdL (n:Nat):List UInt8:=(List.range n).map fdC
theorem XL (n:Nat):(fdL n).length=n:=by simp[fdL]
theorem Zdr (n:Nat):fdL (n+1)=fdL n++[fdC n]:=by simp[fdL,List.range_succ]
def fdV (n:Int):Option ByteArray:=if 0≤n∧n≤400 then some (Zd (fdL n.toNat)) else none
theorem Zi2 (s:ByteArray) (k:Nat):L (s.extract k s.size)=(L s).drop k:=by
 rw[ZI,List.take_of_length_le (by rw[Zj];exact Nat.le_refl _)]
theorem Zmc (s:ByteArray) (k:Nat):L (s.extract 0 k)=(L s).take k:=by
 rw[ZI];rfl
theorem Zi3 (s:ByteArray) (a n:Nat):L (s.extract a (a+n))=((L s).drop a).take n:=by
 rw[ZI,List.drop_take];congr 1;omega
def Ap (v v2:Value):Prop:=∀ g,v.ownBlock=some g→v2.ownBlock≠some g
def Za6 (w w':World) (v v':Value):Prop:=∀ B2 E2 v2 ys,Own w B2 E2 v2 ys→Ap v v2→Own w' B2 E2 v2 ys∧Ap v' v2
section
variable {P:Program} {w:World} {B:Nat} {E:TypeId} {v:Value} {xs:List Value}
theorem YL {w0 w1:World} {g n c H:Nat} (hb:Below w.heap.size w w0) (hH:w0.heap.size=H) (hs:w.heap.size≤H) (hg:w0.grownBy w1 v.ownBlock) (hat:v.ownBlock=some g∨g=H) :
  Za6 w w1 v (.slice (some ⟨g,0,none⟩) n c):=fun B2 E2 v2 ys h2 hap=>by
 refine⟨World.ownsRow.kept (h2.below hb) hg ?_,fun k hk he=>?_⟩
 ·cases hv:v2.ownBlock with
  | none=>exact .inl rfl
  | some q=>right;intro he;exact hap q he.symm hv
 ·have hk':k=g:=by simpa[Value.ownBlock] using hk.symm
  subst hk'
  rcases hat with h|h
  ·exact hap k h he
  ·have:=(World.ownsRow.lt h2 k he).2
   omega
theorem VP {ops:Array Oper} {rest:List Oper} {o:Oper} {a:Act} {Q:Exit→Act→World→Prop} (hgd:o.guard=none) (s x:Operand) (t:TypeId)
  (ho:o.op=.call { callee:=.builtin .append,args:=#[s,x],argTypes:=#[t,t] })
  (z:Value) (bytes:Nat) (ht:P.underlying t=some (.slice E)) (hinfo:(P.info? E).map (fun i=>(i.zero,i.size,i.bytes))=some (some z,1,bytes)) (hzs:z.cells.size=1)
  (hs:a.eval s=v) (hown:Own w B E v xs) (u:Value) (hu:u.oneCell'=true)
  (hx:a.eval x=.slice (some ⟨w.heap.size,0,none⟩) 1 1) (n:Nat)
  (hl:xs.length=n) (hn:n<4294967296) (hb16:bytes≤1024) (hB:B≤w.heap.size)
  (h:∀ A c w',Own w' B E (.slice A (n+1) c) (xs++[u])→Below B w w'→w.heap.size≤w'.heap.size→Za6 w w' v (.slice A (n+1) c)→wpList P ops Q rest (a.put o.dst (.slice A (n+1) c)) w') :
  wpList P ops Q (o :: rest) a (w.alloc (.cells #[u] E)):=by
 obtain⟨i,hi,hz,hsize,hby⟩:=info_parts hinfo
 subst hl
 refine wpList_append_lies (w.alloc (.cells #[u] E)) hgd s x t ho B E i z 1 bytes ht hi hz hsize hby hzs (by decide) v xs.length xs hs (World.ownsRow.alloc hown _)
  ⟨w.heap.size,0,none⟩ 1 1 [u] hx rfl ?_ ?_ (by decide) ?_ ?_ ?_ (w.heap.size+1) (by simp) ?_
 ·intro j q hj
  match j,hj with
  | 0,hj=>simp at hj;subst hj;simp[Addr.add]
 ·intro q hq;simp at hq;subst hq;exact hu
 ·unfold maxLen;omega
 ·calc (xs.length+1) * bytes≤4294967296 * 1024:=Nat.mul_le_mul (by omega) hb16
   _≤140737488355328:=by decide
 ·simp;omega
 ·intro g cap w1 hown' hgrow hat _
  have hown2:Own w1 B E (.slice (some ⟨g,0,none⟩) (xs.length+1) cap) (xs++[u]):=by
   unfold Own;simpa using hown'
  have hbel:Below B w w1:=by
   refine ((Below.refl B w).alloc hB _).grown hgrow (by simp;omega) ?_
   intro k hk
   exact (World.ownsRow.lt hown k hk).1
  exact h _ cap w1 hown2 hbel hbel.size (YL ((Below.refl _ w).alloc nlr _) (by simp) (Nat.le_succ _) hgrow hat)
theorem Za7 {ops:Array Oper} {o:Oper} {a:Act} {K:Act→World→Prop} {Q:Exit→Act→World→Prop} {R:Prop} {u:Value} (hg:o.guard=none) (s x:Operand) (t:TypeId)
  (ho:o.op=.call { callee:=.builtin .append,args:=#[s,x],argTypes:=#[t,t] })
  (z:Value) (bytes:Nat) (ht:P.underlying t=some (.slice E)) (hinfo:(P.info? E).map (fun i=>(i.zero,i.size,i.bytes))=some (some z,1,bytes)) (hzs:z.cells.size=1)
  (hs:a.eval s=v) (hown:Own w B E v xs) (hu:u.oneCell'=true)
  (hx:a.eval x=.slice (some ⟨w.heap.size,0,none⟩) 1 1) (n:Nat)
  (hl:xs.length=n) (hn:n<4294967296) (hb16:bytes≤1024) (hB:B≤w.heap.size)
  (h:∀ A c w',Own w' B E (.slice A (n+1) c) (xs++[u])→Below B w w'→w.heap.size≤w'.heap.size→Za6 w w' v (.slice A (n+1) c)→K (a.put o.dst (.slice A (n+1) c)) w') :
  if Region.wanted o (yielded ops a.tmps)=true then Oper.wp P o a (w.alloc (.cells #[u] E)).drew K Q else R:=by
 obtain⟨i,hi,hz,hsize,hby⟩:=info_parts hinfo
 subst hl
 have hb1:Below w.heap.size w (w.alloc (.cells #[u] E)).drew:=((Below.refl _ w).alloc nlr _).drew
 have hbel0:Below B w (w.alloc (.cells #[u] E)).drew:=((Below.refl B w).alloc hB _).drew
 have hown0:Own (w.alloc (.cells #[u] E)).drew B E v xs:=hown.below hb1
 have hcell:(w.alloc (.cells #[u] E)).drew.cell? ⟨w.heap.size,0,none⟩=some u:=by simp
 refine step_append_lies _ hg s x t ho B E i z 1 bytes ht hi hz hsize hby hzs (by decide) v xs.length xs hs hown0 ⟨w.heap.size,0,none⟩ 1 1 [u] hx rfl ?_ ?_ (by decide) ?_ ?_ (by simp;omega) (w.heap.size+1) (by simp) ?_
 ·intro j q hj
  match j,hj with
  | 0,hj=>simp only[List.getElem?_cons_zero,Option.some.injEq] at hj;subst hj;exact hcell
 ·intro q hq;simp at hq;subst hq;exact hu
 ·unfold maxLen;omega
 ·calc (xs.length+1) * bytes≤4294967296 * 1024:=Nat.mul_le_mul (by omega) hb16
   _≤140737488355328:=by decide
 ·intro g cap w1 hown' hgrow hat _
  have hown2:Own w1 B E (.slice (some ⟨g,0,none⟩) (xs.length+1) cap) (xs++[u]):=by
   unfold Own;simpa using hown'
  have hbel:Below B w w1:=hbel0.grown hgrow (by simp;omega) (fun k hk=>(World.ownsRow.lt hown k hk).1)
  exact h _ cap w1 hown2 hbel hbel.size (YL hb1 (by simp) (Nat.le_succ _) hgrow hat)
end
theorem Zef {w:World} {B n c:Nat} {E:TypeId} {v:Value} {xs:List Value} (h:Own w B E v xs):Ap v (.slice (some ⟨w.heap.size,0,none⟩) n c):=fun g hg he=>by
 have h1:=(World.ownsRow.lt h g hg).2
 have:w.heap.size=g:=by simpa[Value.ownBlock] using he
 omega
theorem ZhE {w:World} {B g n c:Nat} {E:TypeId} {v:Value} {xs:List Value} (h:Own w B E v xs) (hg:g<B):Ap (.slice (some ⟨g,0,none⟩) n c) v:=fun k hk he=>by
 have h1:=(World.ownsRow.lt h k he).1
 have:g=k:=by simpa[Value.ownBlock] using hk
 omega
theorem Ap.symm {v v2:Value} (h:Ap v v2):Ap v2 v:=fun g h1 h2=>h g h2 h1
theorem WF {a b:ByteArray} (h:L a=L b):a=b:=ZH h
theorem Zb8 (s:ByteArray):Zd (L s)=s:=WF (Zy _)
def SS (l:List ByteArray):Prop:=l.Pairwise fun a b=>L a<L b
theorem Zf0:∀ {l m:List ByteArray},SS l→SS m→(∀ x,x∈l↔x∈m)→l=m
 | [],[],_,_,_=>rfl
 | [],b :: m,_,_,h=>absurd ((h b).2 List.mem_cons_self) (by simp)
 | a :: l,[],_,_,h=>absurd ((h a).1 List.mem_cons_self) (by simp)
 | a :: l,b :: m,h1,h2,h=>by
  obtain⟨ha,hl⟩:=List.pairwise_cons.1 h1
  obtain⟨hb,hm⟩:=List.pairwise_cons.1 h2
  have hab:a=b:=by
   rcases List.mem_cons.1 ((h a).1 List.mem_cons_self) with e|e
   ·exact e
   ·rcases List.mem_cons.1 ((h b).2 List.mem_cons_self) with e2|e2
    ·exact e2.symm
    ·exact absurd (List.lt_trans (hb a e) (ha b e2)) (List.lt_irrefl _)
  subst hab
  have:l=m:=Zf0 hl hm fun x=>by
   constructor
   ·intro hx
    rcases List.mem_cons.1 ((h x).1 (List.mem_cons_of_mem _ hx)) with e|e
    ·subst e;exact absurd (ha x hx) (List.lt_irrefl _)
    ·exact e
   ·intro hx
    rcases List.mem_cons.1 ((h x).2 (List.mem_cons_of_mem _ hx)) with e|e
    ·subst e;exact absurd (hb x hx) (List.lt_irrefl _)
    ·exact e
  rw[this]
def gtS (a b:ByteArray):Bool:=!(Op.bytesLess a.toList b.toList||a.toList==b.toList)
theorem Yq (a b:ByteArray):gtS a b=decide (L b<L a):=by
 unfold gtS
 rw[Jp,ByteArray.toList_eq,ByteArray.toList_eq,bytesLess_eq]
 by_cases h:L b<L a
 ·have h1:¬ L a<L b:=fun k=>List.lt_irrefl _ (List.lt_trans h k)
  have h2:a≠b:=fun e=>by subst e;exact List.lt_irrefl _ h
  rw[decide_eq_true h,decide_eq_false h1,decide_eq_false h2];rfl
 ·rw[decide_eq_false h]
  by_cases h2:a=b
  ·rw[decide_eq_true h2,Bool.or_true];rfl
  ·have h1:L a<L b:=by
    rcases Classical.em (L a<L b) with k|k
    ·exact k
    ·exact absurd (WF (List.le_antisymm h k)) h2
   rw[decide_eq_true h1];rfl
def kp (ss:List ByteArray) (x:ByteArray):Nat→Nat
 | 0=>0
 | k+1=>if gtS (ss.getD k ⟨#[]⟩) x then kp ss x k else k+1
def VI (ss:List ByteArray) (x:ByteArray):List ByteArray :=
 if kp ss x ss.length≠0∧ss.getD (kp ss x ss.length - 1) ⟨#[]⟩=x then ss else ss.take (kp ss x ss.length)++x :: ss.drop (kp ss x ss.length)
theorem Zf1 (ss:List ByteArray) (x:ByteArray):∀ k,kp ss x k≤k
 | 0=>Nat.le_refl _
 | k+1=>by have:=Zf1 ss x k;unfold kp;split<;>omega
theorem Zlh (ss:List ByteArray) (x:ByteArray):∀ k j,kp ss x k≤j→j<k→gtS (ss.getD j ⟨#[]⟩) x=true
 | 0,j,_,h=>by omega
 | k+1,j,h1,h2=>by
  unfold kp at h1
  by_cases hg:gtS (ss.getD k ⟨#[]⟩) x=true
  ·rw[if_pos hg] at h1
   by_cases hj:j=k
   ·subst hj;exact hg
   ·exact Zlh ss x k j h1 (by omega)
  ·rw[if_neg hg] at h1;omega
theorem Zi9 (ss:List ByteArray) (x:ByteArray):∀ k,kp ss x k≠0→gtS (ss.getD (kp ss x k - 1) ⟨#[]⟩) x=false
 | 0,h=>absurd rfl h
 | k+1,h=>by
  unfold kp at h ⊢
  by_cases hg:gtS (ss.getD k ⟨#[]⟩) x=true
  ·rw[if_pos hg] at h ⊢;exact Zi9 ss x k h
  ·rw[if_neg hg];simpa using hg
theorem Zja {ss:List ByteArray} {j:Nat} (h:j<ss.length):ss.getD j ⟨#[]⟩∈ss:=by
 rw[List.getD_eq_getElem?_getD,List.getElem?_eq_getElem h];exact List.getElem_mem h
theorem WG {ss:List ByteArray} {j:Nat} (h:j<ss.length):ss.getD j ⟨#[]⟩=ss[j]:=by
 rw[List.getD_eq_getElem?_getD,List.getElem?_eq_getElem h];rfl
theorem ZkL {ss:List ByteArray} (x:ByteArray) (h:SS ss):SS (VI ss x)∧∀ y,y∈VI ss x↔y∈ss∨y=x:=by
 unfold VI
 have hle:=Zf1 ss x ss.length
 have hgt:=Zlh ss x ss.length
 have hnot:=Zi9 ss x ss.length
 obtain⟨k,hk⟩:∃ k,kp ss x ss.length=k:=⟨_,rfl⟩
 rw[hk] at hle hgt hnot ⊢
 by_cases hc:k≠0∧ss.getD (k - 1) ⟨#[]⟩=x
 ·rw[if_pos hc]
  refine⟨h,fun y=>⟨.inl,fun hy=>?_⟩⟩
  rcases hy with hy|rfl
  ·exact hy
  ·rw[← hc.2];exact Zja (by omega)
 ·rw[if_neg hc]
  have hp:=List.pairwise_iff_getElem.1 h
  have h1:∀ a∈ss.take k,L a<L x:=fun a ha=>by
   obtain⟨j,hj,rfl⟩:=List.getElem_of_mem ha
   rw[List.length_take] at hj
   rw[List.getElem_take]
   have hk0:k≠0:=by omega
   have hlast:=hnot hk0
   rw[Yq,WG (by omega)] at hlast
   have hl2:¬ L x<L (ss[k - 1]'(by omega)):=of_decide_eq_false hlast
   have hne:ss[k - 1]'(by omega)≠x:=fun e=>hc ⟨hk0,by rw[WG (by omega)];exact e⟩
   have hlt:L (ss[k - 1]'(by omega))<L x:=by
    rcases Classical.em (L (ss[k - 1]'(by omega))<L x) with e|e
    ·exact e
    ·exact absurd (WF (List.le_antisymm hl2 e)) hne
   by_cases hjk:j=k - 1
   ·subst hjk;exact hlt
   ·exact List.lt_trans (hp j (k - 1) (by omega) (by omega) (by omega)) hlt
  have h2:∀ a∈ss.drop k,L x<L a:=fun a ha=>by
   obtain⟨j,hj,rfl⟩:=List.getElem_of_mem ha
   rw[List.length_drop] at hj
   rw[List.getElem_drop]
   have hg:=hgt (k+j) (by omega) (by omega)
   rw[Yq,WG (by omega)] at hg
   exact of_decide_eq_true hg
  refine⟨?_,fun y=>?_⟩
  ·unfold SS
   rw[List.pairwise_append,List.pairwise_cons]
   refine⟨List.Pairwise.sublist (List.take_sublist _ _) h,⟨h2,List.Pairwise.sublist (List.drop_sublist _ _) h⟩,fun a ha b hb=>?_⟩
   rcases List.mem_cons.1 hb with rfl|hb
   ·exact h1 a ha
   ·exact List.lt_trans (h1 a ha) (h2 b hb)
  ·rw[List.mem_append,List.mem_cons]
   constructor
   ·rintro (hy|rfl|hy)
    ·exact .inl (List.mem_of_mem_take hy)
    ·exact .inr rfl
    ·exact .inl (List.mem_of_mem_drop hy)
   ·rintro (hy|rfl)
    ·rw[← List.take_append_drop k ss,List.mem_append] at hy
     rcases hy with hy|hy
     ·exact .inl hy
     ·exact .inr (.inr hy)
    ·exact .inr (.inl rfl)
def Jf (l:List ByteArray):List ByteArray:=l.foldl VI []
theorem Zb9:∀ (l a:List ByteArray),SS a→SS (l.foldl VI a)∧∀ y,y∈l.foldl VI a↔y∈a∨y∈l
 | [],a,h=>⟨h,fun y=>by simp⟩
 | x :: l,a,h=>by
  have h1:=ZkL x h
  have h2:=Zb9 l (VI a x) h1.1
  rw[List.foldl_cons]
  refine⟨h2.1,fun y=>?_⟩
  rw[h2.2,h1.2,List.mem_cons]
  constructor
  ·rintro ((h|h)|h)
   ·exact .inl h
   ·exact .inr (.inl h)
   ·exact .inr (.inr h)
  ·rintro (h|h|h)
   ·exact .inl (.inl h)
   ·exact .inl (.inr h)
   ·exact .inr h
theorem ZkM (l:List ByteArray):SS (Jf l):=(Zb9 l [] List.Pairwise.nil).1
theorem Zjb (l:List ByteArray) (y:ByteArray):y∈Jf l↔y∈l:=by
 rw[Jf,(Zb9 l [] List.Pairwise.nil).2];simp
theorem Zjc (ss:List ByteArray) (x:ByteArray):(VI ss x).length≤ss.length+1:=by
 unfold VI
 have:=Zf1 ss x ss.length
 split
 ·omega
 ·simp;omega
theorem ZdL:∀ l:List ByteArray,(Jf l).length≤l.length:=by
 suffices h:∀ (l a:List ByteArray),(l.foldl VI a).length≤a.length+l.length by
  intro l;have:=h l [];unfold Jf;simpa using this
 intro l
 induction l with
 | nil=>intro a;simp
 | cons x l ih =>
  intro a
  have h1:=ih (VI a x)
  have h2:=Zjc a x
  simp only[List.foldl_cons,List.length_cons];omega
theorem WH (d:Array (List UInt8)):∀ m x,x∈Lib.compactUpTo d m↔∃ j,j<m∧d[j]! = x
 | 0,x=>by simp[Lib.compactUpTo]
 | m+1,x=>by
  rw[Lib.compactUpTo_succ,List.mem_append,WH d m x]
  constructor
  ·rintro (⟨j,hj,h⟩|h)
   ·exact⟨j,by omega,h⟩
   ·split at h
    ·exact⟨m,by omega,(List.mem_singleton.1 h).symm⟩
    ·simp at h
  ·rintro ⟨j,hj,h⟩
   by_cases hjm:j=m
   ·subst hjm
    by_cases hk:Lib.keeps d j=true
    ·rw[if_pos hk];exact .inr (by simp[h])
    ·unfold Lib.keeps at hk
     simp only[decide_eq_true_eq,not_or,Classical.not_not] at hk
     exact .inl ⟨j - 1,by omega,by rw[← hk.2];exact h⟩
   ·exact .inl ⟨j,by omega,h⟩
theorem Zf2 (d:Array (List UInt8)) (hs:∀ i j,i<j→j<d.size→d[i]! ≤ d[j]!):∀ m,m≤d.size→(Lib.compactUpTo d m).Pairwise (·<·)
 | 0,_=>by simp[Lib.compactUpTo]
 | m+1,hm=>by
  rw[Lib.compactUpTo_succ,List.pairwise_append]
  refine⟨Zf2 d hs m (by omega),by split<;>simp,fun a ha b hb=>?_⟩
  split at hb
  ·rename_i hk
   have hb':b=d[m]!:=by simpa using hb
   subst hb'
   obtain⟨j,hj,rfl⟩:=(WH d m a).1 ha
   unfold Lib.keeps at hk
   have hne:d[m]! ≠ d[m - 1]!:=by
    rcases of_decide_eq_true hk with h|h
    ·omega
    ·exact h
   have hlt:d[m - 1]! < d[m]!:=by
    rcases Classical.em (d[m - 1]! < d[m]!) with e|e
    ·exact e
    ·exact absurd (List.le_antisymm e (hs (m - 1) m (by omega) (by omega))) hne
   by_cases hjm:j=m - 1
   ·subst hjm;exact hlt
   ·have h1:=hs j (m - 1) (by omega) (by omega)
    rcases Classical.em (d[j]! < d[m - 1]!) with e|e
    ·exact List.lt_trans e hlt
    ·have:d[j]! = d[m - 1]!:=List.le_antisymm h1 e
     rw[this];exact hlt
  ·simp at hb
abbrev srt (l:List ByteArray):List (List UInt8):=(l.map L).mergeSort fun x y=>decide (x≤y)
def Zjd (l:List ByteArray):List ByteArray:=(Lib.compact (srt l)).map Zd
theorem J5 (l:List ByteArray):(srt l).length=l.length:=by
 rw[srt,(List.mergeSort_perm _ _).length_eq,List.length_map]
theorem Zf3 (l:List ByteArray):Zjd l=Jf l:=by
 have htr:∀ a b c:List UInt8,decide (a≤b)=true→decide (b≤c)=true→decide (a≤c)=true:=fun a b c h1 h2=>decide_eq_true (List.le_trans (of_decide_eq_true h1) (of_decide_eq_true h2))
 have htt:∀ a b:List UInt8,(decide (a≤b)||decide (b≤a))=true:=fun a b=>by
  rcases List.le_total a b with h|h
  ·rw[decide_eq_true h];rfl
  ·rw[decide_eq_true h,Bool.or_true]
 have hp:(srt l).Pairwise fun a b=>decide (a≤b)=true:=List.pairwise_mergeSort (le:=fun x y:List UInt8=>decide (x≤y)) htr htt (l.map L)
 have hs:∀ i j,i<j→j<(srt l).toArray.size→(srt l).toArray[i]! ≤ (srt l).toArray[j]!:=fun i j hij hj=>by
  have hj':j<(srt l).length:=by simpa using hj
  have:=of_decide_eq_true (List.pairwise_iff_getElem.1 hp i j (by omega) hj' hij)
  rw[getElem!_pos _ i (by rw[List.size_toArray];omega),getElem!_pos _ j hj]
  simpa using this
 refine Zf0 ?_ (ZkM l) fun x=>?_
 ·unfold SS Zjd
  rw[List.pairwise_map]
  have:=Zf2 (srt l).toArray hs (srt l).length (by simp)
  refine List.Pairwise.imp (fun {a b} h=>?_) this
  rw[Zy,Zy];exact h
 ·rw[Zjb,Zjd,List.mem_map]
  have hm:∀ y,y∈Lib.compact (srt l)↔y∈l.map L:=fun y=>by
   rw[Lib.compact,WH,← (List.mergeSort_perm (l.map L) fun x y=>decide (x≤y)).mem_iff]
   constructor
   ·rintro ⟨j,hj,rfl⟩
    rw[getElem!_pos _ j (by simpa using hj)]
    simp
   ·intro hy
    obtain⟨j,hj,rfl⟩:=List.getElem_of_mem hy
    exact⟨j,hj,by rw[getElem!_pos _ j (by simpa using hj)];simp⟩
  constructor
  ·rintro ⟨y,hy,rfl⟩
   obtain⟨z,hz,rfl⟩:=List.mem_map.1 ((hm y).1 hy)
   rw[Zb8];exact hz
  ·intro hx
   exact⟨L x,(hm _).2 (List.mem_map.2 ⟨x,hx,rfl⟩),Zb8 x⟩
def gl (s:ByteArray) (i:Nat):Nat→Nat:=fun j=>((L s).getD (i+j) 0).toNat
theorem ZlZ {s:ByteArray} {i j:Nat} (h:i+j<s.size):gl s i j=(s[i+j]'h).toNat:=by
 rw[gl,List.getD_eq_getElem?_getD,List.getElem?_eq_getElem (by rw[Zj];exact h)]
 rfl
theorem ZdA (s:ByteArray) (i a:Nat):(fun j=>gl s i (a+j))=gl s (i+a):=by
 funext j;rw[gl,gl,Nat.add_assoc]
theorem ZdB:∀ {l m:List UInt8},l.length=m.length→(l<m↔ltF (fun j=>(l.getD j 0).toNat) (fun j=>(m.getD j 0).toNat) l.length)
 | [],[],_=>by simp[ltF]
 | [],_ :: _,h=>by simp at h
 | _ :: _,[],h=>by simp at h
 | a :: l,b :: m,h=>by
  have ih:=ZdB (l:=l) (m:=m) (by simpa using h)
  rw[List.cons_lt_cons_iff,ih]
  constructor
  ·rintro (h1|⟨rfl,d,hd,he,hl⟩)
   ·exact⟨0,by simp,fun e he=>by omega,by simpa using UInt8.lt_iff_toNat_lt.1 h1⟩
   ·refine⟨d+1,by simpa using hd,fun e h2=>?_,by simpa using hl⟩
    cases e with
    | zero=>rfl
    | succ e=>simpa using he e (by omega)
  ·rintro ⟨d,hd,he,hl⟩
   cases d with
   | zero=>exact .inl (UInt8.lt_iff_toNat_lt.2 (by simpa using hl))
   | succ d =>
    have h0:=he 0 (by omega)
    refine .inr ⟨UInt8.toNat_inj.1 (by simpa using h0),d,by simpa using hd,fun e h2=>by simpa using he (e+1) (by omega),by simpa using hl⟩
theorem ZfT (s:ByteArray) (k:Nat) (hk:k≤s.size):L s<L (s.extract k s.size++s.extract 0 k)↔ltF (gl s 0) (JH (gl s 0) s.size k) s.size:=by
 have hL:L (s.extract k s.size++s.extract 0 k)=(L s).drop k++(L s).take k:=by
  simp only[L,ByteArray.data_append,Array.toList_append]
  have h1:=ZI s k s.size
  have h2:=ZI s 0 k
  simp only[L] at h1 h2
  rw[h1,h2,List.drop_zero,List.take_of_length_le (Nat.le_of_eq (Zj s))]
 rw[hL,ZdB (by simp;omega),Zj]
 have e1:∀ e,e<s.size→(((L s).drop k++(L s).take k).getD e 0).toNat=JH (gl s 0) s.size k e:=fun e he=>by
  unfold JH gl
  rw[List.getD_eq_getElem?_getD]
  by_cases h:e+k<s.size
  ·rw[if_pos h,List.getElem?_append_left (by rw[List.length_drop,Zj];omega),List.getElem?_drop,List.getD_eq_getElem?_getD,Nat.zero_add,Nat.add_comm]
  ·rw[if_neg h,List.getElem?_append_right (by rw[List.length_drop,Zj];omega),List.length_drop,Zj,List.getElem?_take_of_lt (by omega),List.getD_eq_getElem?_getD,Nat.zero_add]
   congr 3;omega
 constructor
 ·rintro ⟨d,hd,h1,h2⟩
  refine⟨d,hd,fun e he=>?_,?_⟩
  ·rw[← e1 e (by omega)];have:=h1 e he;simpa[gl] using this
  ·rw[← e1 d hd];simpa[gl] using h2
 ·rintro ⟨d,hd,h1,h2⟩
  refine⟨d,hd,fun e he=>?_,?_⟩
  ·show ((L s).getD e 0).toNat=(((L s).drop k++(L s).take k).getD e 0).toNat
   rw[e1 e (by omega),← h1 e he];simp[gl]
  ·show ((L s).getD d 0).toNat<(((L s).drop k++(L s).take k).getD d 0).toNat
   rw[e1 d hd];simpa[gl] using h2
theorem ZeW (s:ByteArray) (i n:Nat) (h:i+n≤s.size) (j:Nat) (hj:j<n):gl (s.extract i (i+n)) 0 j=gl s i j:=by
 unfold gl
 rw[ZI,List.getD_eq_getElem?_getD,List.getD_eq_getElem?_getD,Nat.zero_add,List.getElem?_drop,List.getElem?_take_of_lt (by omega)]
theorem ZaQ {f f' g g':Nat→Nat} {n:Nat} (h1:∀ e,e<n→f e=f' e) (h2:∀ e,e<n→g e=g' e):ltF f g n↔ltF f' g' n:=by
 constructor
 ·rintro ⟨d,hd,a,b⟩
  exact⟨d,hd,fun e he=>by rw[← h1 e (by omega),← h2 e (by omega)];exact a e he,by rw[← h1 d hd,← h2 d hd];exact b⟩
 ·rintro ⟨d,hd,a,b⟩
  exact⟨d,hd,fun e he=>by rw[h1 e (by omega),h2 e (by omega)];exact a e he,by rw[h1 d hd,h2 d hd];exact b⟩
theorem ZeX {f g:Nat→Nat} {n:Nat} (h:∀ e,e<n→f e=g e):J4 f n↔J4 g n:=by
 have hr:∀ r,r<n→∀ e,e<n→JH f n r e=JH g n r e:=fun r hr e he=>by
  unfold JH;split
  ·exact h _ (by omega)
  ·exact h _ (by omega)
 exact⟨fun hl r h1 h2=>(ZaQ h (hr r h2)).1 (hl r h1 h2),fun hl r h1 h2=>(ZaQ h (hr r h2)).2 (hl r h1 h2)⟩
theorem Zb1 (s:ByteArray) (i n:Nat) (h:i+n≤s.size):J4 (gl (s.extract i (i+n)) 0) n↔J4 (gl s i) n:=ZeX fun e he=>ZeW s i n h e he
theorem ZiI (g:Nat→Nat):J4 g 1:=fun r h1 h2=>by omega
open Classical in
noncomputable def lng (g:Nat→Nat):Nat→Nat
 | 0=>0
 | n+1=>if J4 g (n+1) then n+1 else lng g n
theorem ZeY {g:Nat→Nat} {n:Nat}:∀ {N:Nat},0<n→n≤N→J4 g n→(∀ l,n<l→l≤N→¬ J4 g l)→lng g N=n
 | 0,h,h2,_,_=>by omega
 | N+1,h,h2,hl,hn=>by
  unfold lng
  by_cases he:n=N+1
  ·subst he;rw[if_pos hl]
  ·rw[if_neg (hn (N+1) (by omega) nlr)]
   exact ZeY h (by omega) hl fun l h3 h4=>hn l h3 (by omega)
theorem Wx (g:Nat→Nat):∀ N,0<N→0<lng g N∧lng g N≤N∧J4 g (lng g N)∧∀ l,lng g N<l→l≤N→¬ J4 g l
 | 0,h=>by omega
 | N+1,_=>by
  unfold lng
  by_cases hl:J4 g (N+1)
  ·rw[if_pos hl];exact⟨by omega,Nat.le_refl _,hl,fun l h1 h2=>by omega⟩
  ·rw[if_neg hl]
   by_cases h0:N=0
   ·subst h0;exact absurd (ZiI g) hl
   ·obtain⟨h1,h2,h3,h4⟩:=Wx g N (by omega)
    refine⟨h1,by omega,h3,fun l h5 h6=>?_⟩
    by_cases he:l=N+1
    ·subst he;exact hl
    ·exact h4 l h5 (by omega)
noncomputable def prt (s:ByteArray):Nat→Nat→List ByteArray
 | 0,_=>[]
 | f+1,i=>if i<s.size then s.extract i (i+lng (gl s i) (s.size - i)) :: prt s f (i+lng (gl s i) (s.size - i)) else []
noncomputable def Qz (s:ByteArray) (i:Nat):List ByteArray:=prt s (s.size+1) i
theorem ZdC (s:ByteArray):∀ (f g i:Nat),s.size - i<f→s.size - i<g→prt s f i=prt s g i
 | 0,g,i,h,_=>by omega
 | f+1,0,i,_,h=>by omega
 | f+1,g+1,i,h1,h2=>by
  unfold prt
  by_cases hi:i<s.size
  ·have hl:=Wx (gl s i) (s.size - i) (by omega)
   rw[if_pos hi,if_pos hi,ZdC s f g _ (by omega) (by omega)]
  ·rw[if_neg hi,if_neg hi]
theorem ZdD (s:ByteArray) {i:Nat} (h:¬ i<s.size):Qz s i=[]:=by rw[Qz,prt,if_neg h]
theorem YS (s:ByteArray) {i n:Nat} (h:i<s.size) (hn:lng (gl s i) (s.size - i)=n):Qz s i=s.extract i (i+n) :: Qz s (i+n):=by
 have hl:=Wx (gl s i) (s.size - i) (by omega)
 rw[Qz,prt,if_pos h,hn,Qz,ZdC s s.size (s.size+1)]
 ·omega
 ·omega
theorem Ym (s:ByteArray):∀ (f i:Nat) (x:ByteArray),x∈prt s f i→x.size≤s.size
 | 0,i,x,h=>by simp[prt] at h
 | f+1,i,x,h=>by
  unfold prt at h
  split at h
  ·rcases List.mem_cons.1 h with e|e
   ·rw[e,ByteArray.size_extract];omega
   ·exact Ym s f _ x e
  ·simp at h
theorem XM (s:ByteArray):∀ (f i:Nat),(prt s f i).length≤s.size - i
 | 0,i=>by simp[prt]
 | f+1,i=>by
  unfold prt
  split
  ·rename_i h
   have hl:=Wx (gl s i) (s.size - i) (by omega)
   have:=XM s f (i+lng (gl s i) (s.size - i))
   rw[List.length_cons];omega
  ·simp
def clP:List UInt8→List UInt8
 | []=>[]
 | d :: l=>if (d :: l).reverse=d :: l then [] else d :: clP l
def clL (l:List UInt8):List UInt8:=l++(clP l).reverse
def clS (s:ByteArray):ByteArray:=Zd (clL (L s))
theorem ZhS (s:ByteArray):Jg s=decide ((L s).reverse=L s):=by
 rw[Jg,Jp]
 have h:(s=trn s)↔((L s).reverse=L s):=by
  constructor
  ·intro h
   have:=congrArg L h
   rw[trn,Zy] at this
   exact this.symm
  ·intro h
   apply ZH
   show L s=L (trn s)
   rw[trn,Zy,rv,h]
 by_cases h1:s=trn s
 ·rw[decide_eq_true h1,decide_eq_true (h.1 h1)]
 ·rw[decide_eq_false h1,decide_eq_false (fun h2=>h1 (h.2 h2))]
theorem Zkg:clP []=[]:=rfl
theorem Zkh {l:List UInt8} (h:l.reverse=l):clP l=[]:=by
 cases l with
 | nil=>rfl
 | cons d l=>rw[clP,if_pos h]
theorem Zlr {d:UInt8} {l:List UInt8} (h:¬ (d :: l).reverse=d :: l):clP (d :: l)=d :: clP l:=by rw[clP,if_neg h]
theorem Zbo:∀ l:List UInt8,(clP l).length≤l.length
 | []=>Nat.le_refl _
 | d :: l=>by
  rw[clP];split
  ·exact Nat.zero_le _
  ·rw[List.length_cons,List.length_cons];have:=Zbo l;omega
theorem Zki (l:List UInt8):(clL l).length≤2 * l.length:=by
 rw[clL,List.length_append,List.length_reverse];have:=Zbo l;omega
theorem ZhT:∀ {l:List UInt8},0<l.length→(clP l).length<l.length
 | [d],_=>by simp[clP]
 | d :: e :: l,_=>by
  rw[clP];split
  ·simp
  ·have:=ZhT (l:=e :: l) (by simp)
   rw[List.length_cons,List.length_cons];omega
def clV (s:ByteArray):ByteArray:=if isW (L s)=true∧isW (clL (L s))=true then clS s else { data:=#[] }
def sgC (k:Nat):UInt8:=UInt8.ofNat (97+k % 2)
theorem Zct (k:Nat):((sgC k).toNat:Int)=97+(k:Int) % 2:=by
 unfold sgC
 rw[UInt8.toNat_ofNat']
 omega
def sgS (l:List UInt8) (k:Nat):List UInt8:=if (l++[sgC k]).getD k 0=98 then l++[sgC k]++[sgC k] else l++[sgC k]
def sgG (N:Nat):Nat→List UInt8→Nat→List UInt8
 | 0,l,_=>l
 | f+1,l,k=>if l.length<N then sgG N f (sgS l k) (k+1) else l
theorem Zgw {N:Nat} {l:List UInt8} (h:¬ l.length<N) (k:Nat):∀ f,sgG N f l k=l
 | 0=>rfl
 | f+1=>by rw[sgG,if_neg h]
theorem Zd7 {N:Nat} {l:List UInt8} (h:l.length<N) {k f:Nat} (hf:k<f):sgG N (f - k) l k=sgG N (f - (k+1)) (sgS l k) (k+1):=by
 obtain⟨q,hq⟩:∃ q,f - k=q+1:=⟨f - k - 1,by omega⟩
 rw[hq,sgG,if_pos h];congr 1;omega
def sgW (N:Nat):List UInt8:=(sgG N 398 [97,98,98] 2).take N
def sgV (n:Int):Option ByteArray:=if 0≤n∧n≤400 then some (Zd (sgW n.toNat)) else none
def QN:Value→Nat
 | .slice _ n _=>n
 | _=>0
theorem OwnF.lit3g (w:World) (E:TypeId) {B:Nat} {a b c:UInt8} {fr:Nat × Nat}:OwnF (w.alloc (.cells #[.int .u8 (a.toNat:Int),.int .u8 (b.toNat:Int),.int .u8 (c.toNat:Int)] E fr)) B E (.slice (some ⟨w.heap.size,0,none⟩) 3 3) (byV [a,b,c]):=by
 refine .inr ⟨w.heap.size,rfl,fun k u hu=>⟨_,rfl,by simp,?_⟩⟩
 have hk:k<3:=by have:=(List.getElem?_eq_some_iff.1 hu).1;simpa[byV] using this
 have h:=heap_alloc_new w (.cells #[.int .u8 (a.toNat:Int),.int .u8 (b.toNat:Int),.int .u8 (c.toNat:Int)] E fr)
 match k,hk,hu with
 | 0,_,hu =>
  simp[byV] at hu;subst hu
  simpa[Addr.add] using cell_of_row _ _ 0 _ _ fr h
 | 1,_,hu =>
  simp[byV] at hu;subst hu
  simpa[Addr.add] using cell_of_row _ _ 1 _ _ fr h
 | 2,_,hu =>
  simp[byV] at hu;subst hu
  simpa[Addr.add] using cell_of_row _ _ 2 _ _ fr h
theorem Za2 {w:World} {B:Nat} {A:Option Addr} {xs:List Value} (n:Nat) (h:Rds w B A xs):Rds w B A (xs.take n):=fun k u hu=>by
 refine h k u ?_
 rw[List.getElem?_take] at hu
 split at hu
 ·exact hu
 ·cases hu
theorem Zhx (N:Nat) (hN:N≤400) (w:World) :
  Calls Tryz.prog 129 #[.int .i64 N] w fun e w'=>e=.returned (.tuple #[.string (Zd (sgW N)),.bool true])∧Below w.heap.size w w':=by
 have kc:=fun (w:World) (C:Array Value) (n c:Nat)=>Lib.run_convert_bytes_const (P:=Tryz.prog) w 22 5 C n c Tryz.underlying22 Tryz.underlying5
 have HR:=Hd (show (sgG N 398 [97,98,98] 2).take N=sgW N from rfl)
 go_enter Tryz.func129,Tryz.ntmps129
 go_wp2_with (go_at_call 65;refine (Zo _ _ _ ⟨by omega,by omega⟩ _).mono ?_;rintro e w' ⟨rfl,rfl⟩)
 clear kc
 go_loopw [4,5,6] (fun v i _ wr=>∃ k m:Nat,∃ A c,∃ l:List UInt8,l.length=m∧k+1≤m∧m≤402∧i=.int .i64 k∧v=.slice A m c∧OwnF wr w.heap.size 5 (.slice A m c) (byV l)∧sgG N (400 - k) l k=sgG N 398 [97,98,98] 2∧Below w.heap.size w wr) (fun v _ _ _=>403 - QN v)
 case atStart =>
  exact⟨2,3,_,_,[97,98,98],rfl,by omega,by omega,rfl,rfl,OwnF.lit3g _ _,rfl,(Below.refl _ _).alloc nlr _⟩
 case round =>
  obtain⟨k,m,A,c,l,hl,hkm,hm,rfl,rfl,hown,hg,hbel⟩:=hrel
  have HL:=Hd hl;have HO:=Hd hown;have HG:=Hd hg
  clear hl hown hg
  by_cases hlt:m<N
  ·have hc:=Zct k
   obtain⟨b,hb⟩:∃ b,sgC k=b:=⟨_,rfl⟩
   rw[hb] at hc
   have hc2:(97+(k:Int) % 2) % 256=(b.toNat:Int):=by omega
   obtain⟨y,hy⟩:=Zc (l:=l++[b]) (k:=k) (by have:=HL.o;simp;omega)
   have hyd:(l++[b]).getD k 0=y:=by rw[List.getD_eq_getElem?_getD,hy];rfl
   have hs1:=Zd7 (N:=N) (l:=l) (k:=k) (f:=400) (by have:=HL.o;omega) (by omega)
   unfold sgS at hs1
   rw[hb,hyd] at hs1
   have HB:=Hd hb;have HC:=Hd hc;have HY:=Hd hy;have HS:=Hd hs1
   have hz:=hbel.size
   have hm9:m<4294967296:=by omega
   have hdl:(byV l).length=m:=by rw[Zm];exact HL.o
   have HDL:=Hd hdl
   have hk0:(0:Int)≤(k:Int):=by omega
   have hkm2:(k:Int)<(m:Int)+1:=by omega
   clear hdl hb hy hyd hs1 hc
   go_wp2_with (at_builtin;refine Vj rfl (.tmp 22) (.tmp 24) 22 rfl _ 1 Tryz.underlying22 ZQ rfl rfl HO.o _ rfl rfl m HDL.o hm9 (by decide) hz ?_)
   intro A1 c1 w1 hown1 hbel1 hsz1
   rw[← HC.o,ZP] at hown1
   have hbel2:=hbel.trans hbel1
   have hcell:=hown1.reads.at_ (k:=k) (u:=.int .u8 (y.toNat:Int)) (by rw[byV,List.getElem?_map,HY.o];rfl)
   obtain⟨ad,rfl,hcell⟩:=hcell
   have HO1:=Hd hown1
   clear hown1 hbel1
   by_cases hy98:y=98
   ·have hyn:(y.toNat:Int)=98:=by rw[hy98];rfl
    have hdl:(byV (l++[b])).length=m+1:=by rw[Zm,List.length_append];have:=HL.o;simp;omega
    have HDL1:=Hd hdl;have HY98:=Hd hy98
    have hz2:=hbel2.size
    have hm10:m+1<4294967296:=by omega
    clear hdl hy98
    go_wp2_with (at_builtin;refine Zp rfl (.tmp 31) (.tmp 33) 22 rfl _ 1 Tryz.underlying22 ZQ rfl rfl HO1.o _ rfl rfl (m+1) HDL1.o hm10 (by decide) hz2 ?_)
    intro A2 c2 w2 hown2 hbel3 hsz2
    rw[← HC.o,ZP] at hown2
    have HO2:=Hd hown2
    clear hown2
    go_wp2_with fail
    go_roundw
    case rel=>exact⟨k+1,m+1+1,A2,c2,l++[b]++[b],by have:=HL.o;simp;omega,by omega,by omega,by go_num,rfl,.inl HO2.o,by rw[← HG.o,HS.o,if_pos HY98.o],hbel2.trans hbel3⟩
    case measure=>simp[QN];omega
   ·have hyn:((y.toNat:Int)==98)=false:=by
     rw[beq_eq_false_iff_ne];intro h;exact hy98 (UInt8.toNat_inj.1 (by show y.toNat=98;omega))
    have HY98:=Hd hy98
    clear hy98
    go_wp2_with fail
    go_roundw
    case rel=>exact⟨k+1,m+1,_,c1,l++[b],by have:=HL.o;simp;omega,by omega,by omega,by go_num,rfl,.inl HO1.o,by rw[← HG.o,HS.o,if_neg HY98.o],hbel2⟩
    case measure=>simp[QN];omega
  ·have hfin:l=sgG N 398 [97,98,98] 2:=by rw[← HG.o,Zgw (by rw[HL.o];exact hlt)]
   have hrd:=HO.o.reads
   have h3:(byV l).take N=byV (sgW N):=by rw[hfin,← HR.o,byV,byV,List.map_take]
   have hrd2:=Za2 N hrd
   rw[h3] at hrd2
   have hsl:(sgW N).length=N:=by rw[← HR.o,← hfin,List.length_take,HL.o];omega
   have hcv:=hrd2.conv (P:=Tryz.prog) hsl 22 9 5 c Tryz.underlying22 Tryz.underlying5 Tryz.underlying9
   have hm0:N≤m:=by omega
   have hmc:m≤c:=by have:=HO.o.cap;rw[Zm,HL.o] at this;exact this
   have hN0:(0:Int)≤(N:Int):=by omega
   have hNc:(N:Int)≤(c:Int):=by omega
   have hmN:¬ ((m:Int)<(N:Int)):=by omega
   clear hfin hrd h3 hrd2
   go_wp2_with fail
   go_ret2
   exact⟨rfl,hbel⟩
theorem Zk6 (k:Nat):sgC (k+2)=sgC k:=by unfold sgC;congr 2;omega
theorem Y5 (l:List UInt8) (b:UInt8) {m:Nat} (h:l.length=m):(l++[b])[m]? = some b:=by rw[← h];simp
theorem Zhy (N:Nat) (hN:N≤400) (w:World) :
  Calls Tryz.prog 102 #[.int .i64 N] w fun e w'=>e=.returned (.tuple #[.string (Zd (sgW N)),.bool true])∧Below w.heap.size w w':=by
 have kc:=fun (w:World) (C:Array Value) (n c:Nat)=>Lib.run_convert_bytes_const (P:=Tryz.prog) w 22 5 C n c Tryz.underlying22 Tryz.underlying5
 have HR:=Hd (show (sgG N 398 [97,98,98] 2).take N=sgW N from rfl)
 go_enter Tryz.func102,Tryz.ntmps102
 go_wp2_with (go_at_call 146;refine (Zw _ _ _ ⟨by omega,by omega⟩ _).mono ?_;rintro e w' ⟨rfl,rfl⟩)
 clear kc
 go_loopw [4,5,6] (fun v i _ wr=>∃ k m:Nat,∃ A c,∃ l:List UInt8,l.length=m∧k+1≤m∧m≤402∧l[m - 1]? = some (sgC (k+1))∧i=.int .i64 k∧v=.slice A m c∧OwnF wr w.heap.size 5 (.slice A m c) (byV l)∧sgG N (400 - k) l k=sgG N 398 [97,98,98] 2∧Below w.heap.size w wr) (fun v _ _ _=>403 - QN v)
 case atStart =>
  exact⟨2,3,_,_,[97,98,98],rfl,by omega,by omega,rfl,rfl,rfl,OwnF.lit3g _ _,rfl,(Below.refl _ _).alloc nlr _⟩
 case round =>
  obtain⟨k,m,A,c,l,hl,hkm,hm,hla,rfl,rfl,hown,hg,hbel⟩:=hrel
  have HL:=Hd hl;have HO:=Hd hown;have HG:=Hd hg
  clear hl hown hg
  by_cases hlt:m<N
  ·have hc:=Zct k
   have he:=Zct (k+1)
   obtain⟨b,hb⟩:∃ b,sgC k=b:=⟨_,rfl⟩
   have hb2:sgC (k+1+1)=b:=by rw[← hb];exact Zk6 k
   rw[hb] at hc
   obtain⟨y,hy⟩:=Zc (l:=l++[b]) (k:=k) (by have:=HL.o;simp;omega)
   have hyd:(l++[b]).getD k 0=y:=by rw[List.getD_eq_getElem?_getD,hy];rfl
   have hs1:=Zd7 (N:=N) (l:=l) (k:=k) (f:=400) (by have:=HL.o;omega) (by omega)
   unfold sgS at hs1
   rw[hb,hyd] at hs1
   obtain⟨adl,had,hcl⟩:=HO.o.reads.at_ (k:=m - 1) (u:=.int .u8 ((sgC (k+1)).toNat:Int)) (by rw[byV,List.getElem?_map,hla];rfl)
   subst had
   rw[he] at hcl
   have hlast1:=Y5 l b HL.o
   have HB:=Hd hb;have HC:=Hd hc;have HY:=Hd hy;have HS:=Hd hs1;have HB2:=Hd hb2;have HLA:=Hd hlast1
   have hz:=hbel.size
   have hm9:m<4294967296:=by omega
   have hdl:(byV l).length=m:=by rw[Zm];exact HL.o
   have HDL:=Hd hdl
   have hk0:(0:Int)≤(k:Int):=by omega
   have hkm2:(k:Int)<(m:Int)+1:=by omega
   have hm1:(m:Int) - 1=((m - 1:Nat):Int):=by omega
   have hm1w:IntKind.i64.wrap ((m:Int) - 1)=((m - 1:Nat):Int):=by rw[IntWalk.i64_in _ (by omega)];omega
   have hm10:((m - 1:Nat):Int)<(m:Int):=by omega
   have hlt2:(m:Int)<(N:Int):=by omega
   clear hdl hb hb2 hy hyd hs1 hla hlast1
   have hpar:k % 2=0∨k % 2=1:=by omega
   rcases hpar with hp|hp
   ·have e1:(97:Int)+((k+1:Nat):Int) % 2=98:=by omega
    have e2:(b.toNat:Int)=97:=by omega
    rw[e1] at hcl
    have E2:=Hd e2
    clear hc e1 e2
    go_wp2_with (at_builtin;refine Vj rfl (.tmp 25) (.tmp 27) 22 rfl _ 1 Tryz.underlying22 ZQ rfl rfl HO.o _ rfl rfl m HDL.o hm9 (by decide) hz ?_)
    intro A1 c1 w1 hown1 hbel1 hsz1
    rw[← E2.out,ZP] at hown1
    have hbel2:=hbel.trans hbel1
    have hcell:=hown1.reads.at_ (k:=k) (u:=.int .u8 (y.toNat:Int)) (by rw[byV,List.getElem?_map,HY.o];rfl)
    obtain⟨ad,rfl,hcell⟩:=hcell
    have HO1:=Hd hown1
    clear hown1 hbel1 hcl
    by_cases hy98:y=98
    ·have hyn:(y.toNat:Int)=98:=by rw[hy98];rfl
     have hdl:(byV (l++[b])).length=m+1:=by rw[Zm,List.length_append];have:=HL.o;simp;omega
     have hl3:=Y5 (l++[b]) b (m:=m+1) (by rw[List.length_append,HL.o];rfl)
     have HDL1:=Hd hdl;have HY98:=Hd hy98;have HL3:=Hd hl3
     have hz2:=hbel2.size
     have hm10:m+1<4294967296:=by omega
     clear hdl hy98 hl3
     go_wp2_with (at_builtin;refine Zp rfl (.tmp 34) (.tmp 36) 22 rfl _ 1 Tryz.underlying22 ZQ rfl rfl HO1.o _ rfl rfl (m+1) HDL1.o hm10 (by decide) hz2 ?_)
     intro A2 c2 w2 hown2 hbel3 hsz2
     rw[← E2.out,ZP] at hown2
     have HO2:=Hd hown2
     clear hown2
     go_wp2_with fail
     go_roundw
     case rel=>exact⟨k+1,m+1+1,A2,c2,l++[b]++[b],by have:=HL.o;simp;omega,by omega,by omega,by rw[HB2.o];exact HL3.o,by go_num,rfl,.inl HO2.o,by rw[← HG.o,HS.o,if_pos HY98.o],hbel2.trans hbel3⟩
     case measure=>simp[QN];omega
    ·have hyn:((y.toNat:Int)==98)=false:=by
      rw[beq_eq_false_iff_ne];intro h;exact hy98 (UInt8.toNat_inj.1 (by show y.toNat=98;omega))
     have HY98:=Hd hy98
     clear hy98
     go_wp2_with fail
     go_roundw
     case rel=>exact⟨k+1,m+1,_,c1,l++[b],by have:=HL.o;simp;omega,by omega,by omega,by rw[HB2.o];exact HLA.o,by go_num,rfl,.inl HO1.o,by rw[← HG.o,HS.o,if_neg HY98.o],hbel2⟩
     case measure=>simp[QN];omega
   ·have e1:(97:Int)+((k+1:Nat):Int) % 2=97:=by omega
    have e2:(b.toNat:Int)=98:=by omega
    rw[e1] at hcl
    have E2:=Hd e2
    clear hc e1 e2
    go_wp2_with (at_builtin;refine Vj rfl (.tmp 25) (.tmp 27) 22 rfl _ 1 Tryz.underlying22 ZQ rfl rfl HO.o _ rfl rfl m HDL.o hm9 (by decide) hz ?_)
    intro A1 c1 w1 hown1 hbel1 hsz1
    rw[← E2.out,ZP] at hown1
    have hbel2:=hbel.trans hbel1
    have hcell:=hown1.reads.at_ (k:=k) (u:=.int .u8 (y.toNat:Int)) (by rw[byV,List.getElem?_map,HY.o];rfl)
    obtain⟨ad,rfl,hcell⟩:=hcell
    have HO1:=Hd hown1
    clear hown1 hbel1 hcl
    by_cases hy98:y=98
    ·have hyn:(y.toNat:Int)=98:=by rw[hy98];rfl
     have hdl:(byV (l++[b])).length=m+1:=by rw[Zm,List.length_append];have:=HL.o;simp;omega
     have hl3:=Y5 (l++[b]) b (m:=m+1) (by rw[List.length_append,HL.o];rfl)
     have HDL1:=Hd hdl;have HY98:=Hd hy98;have HL3:=Hd hl3
     have hz2:=hbel2.size
     have hm10:m+1<4294967296:=by omega
     clear hdl hy98 hl3
     go_wp2_with (at_builtin;refine Zp rfl (.tmp 34) (.tmp 36) 22 rfl _ 1 Tryz.underlying22 ZQ rfl rfl HO1.o _ rfl rfl (m+1) HDL1.o hm10 (by decide) hz2 ?_)
     intro A2 c2 w2 hown2 hbel3 hsz2
     rw[← E2.out,ZP] at hown2
     have HO2:=Hd hown2
     clear hown2
     go_wp2_with fail
     go_roundw
     case rel=>exact⟨k+1,m+1+1,A2,c2,l++[b]++[b],by have:=HL.o;simp;omega,by omega,by omega,by rw[HB2.o];exact HL3.o,by go_num,rfl,.inl HO2.o,by rw[← HG.o,HS.o,if_pos HY98.o],hbel2.trans hbel3⟩
     case measure=>simp[QN];omega
    ·have hyn:((y.toNat:Int)==98)=false:=by
      rw[beq_eq_false_iff_ne];intro h;exact hy98 (UInt8.toNat_inj.1 (by show y.toNat=98;omega))
     have HY98:=Hd hy98
     clear hy98
     go_wp2_with fail
     go_roundw
     case rel=>exact⟨k+1,m+1,_,c1,l++[b],by have:=HL.o;simp;omega,by omega,by omega,by rw[HB2.o];exact HLA.o,by go_num,rfl,.inl HO1.o,by rw[← HG.o,HS.o,if_neg HY98.o],hbel2⟩
     case measure=>simp[QN];omega
  ·have hfin:l=sgG N 398 [97,98,98] 2:=by rw[← HG.o,Zgw (by rw[HL.o];exact hlt)]
   have hrd:=HO.o.reads
   have h3:(byV l).take N=byV (sgW N):=by rw[hfin,← HR.o,byV,byV,List.map_take]
   have hrd2:=Za2 N hrd
   rw[h3] at hrd2
   have hsl:(sgW N).length=N:=by rw[← HR.o,← hfin,List.length_take,HL.o];omega
   have hcv:=hrd2.conv (P:=Tryz.prog) hsl 22 9 5 c Tryz.underlying22 Tryz.underlying5 Tryz.underlying9
   have hm0:N≤m:=by omega
   have hmc:m≤c:=by have:=HO.o.cap;rw[Zm,HL.o] at this;exact this
   have hN0:(0:Int)≤(N:Int):=by omega
   have hNc:(N:Int)≤(c:Int):=by omega
   have hmN:¬ ((m:Int)<(N:Int)):=by omega
   clear hfin hrd h3 hrd2 hla
   go_wp2_with fail
   go_ret2
   exact⟨rfl,hbel⟩
theorem Zj1 (n:Int) (h:¬ (0≤n∧n≤400)) (w:World) :
  Calls Tryz.prog 129 #[.int .i64 n] w fun e w'=>e=.returned (.tuple #[.string { data:=#[] },.bool false])∧w=w':=by
 have H:=Hd (fun w=>ZK n 0 400 h w)
 clear h
 go_enter Tryz.func129,Tryz.ntmps129
 go_wp2_with (go_at_call 65;refine (H.o _).mono ?_;rintro e w' ⟨rfl,rfl⟩)
 go_ret2
 exact⟨rfl,rfl⟩
theorem Zhz (n:Int) (w:World) :
  Calls Tryz.prog 129 #[.int .i64 n] w fun e w'=>e=.returned (.tuple #[.string ((sgV n).getD { data:=#[] }),.bool (sgV n).isSome])∧Below w.heap.size w w':=by
 by_cases h:0≤n∧n≤400
 ·obtain⟨N,rfl⟩:=Int.eq_ofNat_of_zero_le h.1
  have hv:sgV N=some (Zd (sgW N)):=if_pos h
  rw[hv]
  exact Zhx N (by omega) w
 ·have hv:sgV n=none:=if_neg h
  rw[hv]
  refine (Zj1 n h w).mono ?_
  rintro e w' ⟨rfl,rfl⟩
  exact⟨rfl,Below.refl _ _⟩
theorem Zj2 (n:Int) (h:¬ (0≤n∧n≤400)) (w:World) :
  Calls Tryz.prog 102 #[.int .i64 n] w fun e w'=>e=.returned (.tuple #[.string { data:=#[] },.bool false])∧w=w':=by
 have H:=Hd (fun w=>ZU n 0 400 h w)
 clear h
 go_enter Tryz.func102,Tryz.ntmps102
 go_wp2_with (go_at_call 146;refine (H.o _).mono ?_;rintro e w' ⟨rfl,rfl⟩)
 go_ret2
 exact⟨rfl,rfl⟩
theorem ZhA (n:Int) (w:World) :
  Calls Tryz.prog 102 #[.int .i64 n] w fun e w'=>e=.returned (.tuple #[.string ((sgV n).getD { data:=#[] }),.bool (sgV n).isSome])∧Below w.heap.size w w':=by
 by_cases h:0≤n∧n≤400
 ·obtain⟨N,rfl⟩:=Int.eq_ofNat_of_zero_le h.1
  have hv:sgV N=some (Zd (sgW N)):=if_pos h
  rw[hv]
  exact Zhy N (by omega) w
 ·have hv:sgV n=none:=if_neg h
  rw[hv]
  refine (Zj2 n h w).mono ?_
  rintro e w' ⟨rfl,rfl⟩
  exact⟨rfl,Below.refl _ _⟩
def smI:List Int→Int
 | []=>0
 | x :: l=>x+smI l
theorem Yj:∀ a b:List Int,smI (a++b)=smI a+smI b
 | [],b=>by simp[smI]
 | x :: a,b=>by rw[List.cons_append,smI,smI,Yj a b];omega
theorem ZiB:∀ {l:List Int},(∀ x∈l,0≤x)→0≤smI l
 | [],_=>by simp[smI]
 | x :: l,h=>by
  have h1:=h x List.mem_cons_self
  have h2:=ZiB (l:=l) fun y hy=>h y (List.mem_cons_of_mem _ hy)
  rw[smI];omega
theorem Zds:∀ (m l:List Int),SI m→(∀ x∈m,x∈l)→(∀ x∈l,0≤x)→smI m≤smI l
 | [],l,_,_,h=>by rw[smI];exact ZiB h
 | x :: m,l,hs,hm,h=>by
  obtain⟨h1,h2⟩:=List.pairwise_cons.1 hs
  obtain⟨a,b,rfl⟩:=List.append_of_mem (hm x List.mem_cons_self)
  have ih:=Zds m (a++b) h2 (fun y hy=>by
   have h3:=hm y (List.mem_cons_of_mem _ hy)
   have h4:=h1 y hy
   rw[List.mem_append,List.mem_cons] at h3
   rw[List.mem_append]
   rcases h3 with h3|h3|h3
   ·exact .inl h3
   ·omega
   ·exact .inr h3) (fun y hy=>h y (by
    rw[List.mem_append] at hy ⊢
    rcases hy with hy|hy
    ·exact .inl hy
    ·exact .inr (List.mem_cons_of_mem _ hy)))
  rw[Yj] at ih
  rw[smI,Yj,smI];omega
theorem Zdt:∀ (m:List Int) (a:Int),SI m→(∀ x∈m,a<x)→(m.length:Int) * (2 * a+m.length+1)≤2 * smI m
 | [],a,_,_=>by simp[smI]
 | x :: m,a,hs,h=>by
  obtain⟨h1,h2⟩:=List.pairwise_cons.1 hs
  have h3:=h x List.mem_cons_self
  have ih:=Zdt m (a+1) h2 fun y hy=>by have:=h1 y hy;omega
  rw[smI,List.length_cons]
  obtain⟨k,hk⟩:∃ k:Int,(m.length:Int)=k:=⟨_,rfl⟩
  rw[hk] at ih
  have e:((m.length+1:Nat):Int)=k+1:=by omega
  rw[e]
  have e1:(k+1) * (2 * a+(k+1)+1)=k * (2 * (a+1)+k+1)+2 * a+2:=by
   have d1:(k+1) * (2 * a+(k+1)+1)=k * (2 * a+(k+1)+1)+(2 * a+(k+1)+1):=by rw[Int.add_mul,Int.one_mul]
   have d2:k * (2 * (a+1)+k+1)=k * (2 * a+(k+1)+1)+k * 1:=by rw[← Int.mul_add];congr 1;omega
   omega
  omega
theorem ZiC (l:List Int) (q:Int):∀ k,k<l.length→smI (gpT l q k)=l.getD k 0 - l.getD 0 0
 | 0,_=>by simp[gpT,smI]
 | k+1,h=>by
  rw[Yg,Yj,ZiC l q k (by omega),smI,smI,gpA,if_pos h];omega
theorem Zlw (l:List Int) (q:Int) (h:0<l.length):smI (gpL l q)=q:=by
 obtain⟨k,hk⟩:∃ k,l.length=k+1:=⟨l.length - 1,by omega⟩
 rw[gpL,hk,Yg,Yj,ZiC l q k (by omega),smI,smI,gpA,if_neg (by omega)];omega
theorem Zlx {l:List Int} {q:Int} (hs:SI l) (hb:∀ x∈l,0≤x∧x<q):∀ x∈gpL l q,0<x:=fun x hx=>by
 rw[gpL,gpT,List.mem_map] at hx
 obtain⟨i,hi,rfl⟩:=hx
 rw[List.mem_range] at hi
 rw[gpA]
 have hi2:=hb _ (List.getElem_mem hi)
 split
 ·rename_i h
  have:=List.pairwise_iff_getElem.1 hs i (i+1) hi h (by omega)
  rw[Qg h,Qg hi];omega
 ·have h0:0<l.length:=by omega
  have h02:=hb _ (List.getElem_mem h0)
  rw[Qg h0,Qg hi];omega
theorem ZbU (p q n:Int):(gaV p q n).length≤44:=by
 rw[gaV,gaG]
 by_cases h:Vh p q n=true
 ·rw[if_pos h]
  rw[Vh,Bool.and_eq_true,Bool.and_eq_true,decide_eq_true_eq,decide_eq_true_eq,decide_eq_true_eq] at h
  obtain⟨⟨hq,hq2⟩,hp,hn,hn2⟩:=h
  have hs:=J0 (stL p.toNat q.toNat n.toNat)
  have hb:=ZbS (p:=p.toNat) (q:=q.toNat) (n:=n.toNat) (by omega)
  have hl:0<(ptL p.toNat q.toNat n.toNat).length:=Zdn (by rw[Jj];omega)
  rw[show ((q.toNat:Nat):Int)=q by omega] at hb
  have h1:=Zlw _ q hl
  have h2:=Zlx hs.1 hb
  have h3:=J0 (gpL (ptL p.toNat q.toNat n.toNat) q)
  have h4:=Zds _ _ h3.1 (fun x hx=>(h3.2 x).1 hx) (fun x hx=>by have:=h2 x hx;omega)
  rw[h1] at h4
  have h5:=Zdt _ 0 h3.1 (fun x hx=>h2 x ((h3.2 x).1 hx))
  obtain⟨m,hm⟩:∃ m,(Vn (gpL (ptL p.toNat q.toNat n.toNat) q)).length=m:=⟨_,rfl⟩
  rw[hm] at h5 ⊢
  by_cases h6:m≤44
  ·exact h6
  ·exfalso
   have h7:(45:Int)≤(m:Int):=by omega
   have h8:(45:Int) * (2 * 0+45+1)≤(m:Int) * (2 * 0+(m:Int)+1):=Int.mul_le_mul h7 (by omega) (by omega) (by omega)
   omega
 ·rw[if_neg h,Zdm];decide
def quI (p q:Nat):List Int:=(quL p q).map fun x:Nat=>(x:Int)
theorem ZdV (p:Nat):quI p 0=[]:=by rw[quI,Yh];rfl
theorem ZdW {p q:Nat} (h:0<q):quI p q=((p / q:Nat):Int) :: quI q (p % q):=by rw[quI,Wq h];rfl
theorem Zgk {p q:Nat} (h:q≤100000):(quI p q).length≤34:=by
 rw[quI,List.length_map];exact ZbT 17 p q (Nat.lt_of_le_of_lt h (by decide))
theorem Zgl {p q:Int} (h:Zap p q=true):quV p q=quI p.toNat q.toNat:=if_pos h
theorem ZjD {p q:Int} (h:¬ Zap p q=true):quV p q=[]:=if_neg h
theorem Yv {p q:Int}:Zap p q=true↔(0≤p∧p≤100000)∧1≤q∧q≤100000:=by
 rw[Zap,Bool.and_eq_true,decide_eq_true_eq,decide_eq_true_eq]
theorem Zhl (P Q:Nat) (hp:P≤100000) (hq1:1≤Q) (hq2:Q≤100000) (w:World) :
  Calls Tryz.prog 136 #[.int .i64 P,.int .i64 Q] w fun e w'=>∃ A c,e=.returned (.slice A (quI P Q).length c)∧Own w' w.heap.size 3 (.slice A (quI P Q).length c) ((quI P Q).map (Value.int .i64))∧Below w.heap.size w w':=by
 obtain⟨T,hT⟩:∃ T,quI P Q=T:=⟨_,rfl⟩
 have ht:=Zgk (p:=P) hq2
 rw[hT] at ht ⊢
 have HT:=Hd hT;clear hT
 go_enter Tryz.func136,Tryz.ntmps136
 go_wp2_with (go_at_call 65;refine (Zo _ _ _ (by omega) _).mono ?_;rintro e w' ⟨rfl,rfl⟩)
 go_loopw [0,1,5] (fun p q v wr=>∃ (a b m:Nat) (A:Option Addr) (c:Nat) (xs:List Int),a≤100000∧b≤100000∧p=.int .i64 a∧q=.int .i64 b∧v=.slice A m c∧xs.length=m∧xs++quI a b=T∧Own wr w.heap.size 3 (.slice A m c) (xs.map (Value.int .i64))∧Below w.heap.size w wr) (fun _ q _ _=>(intOf q).toNat)
 case atStart=>exact⟨P,Q,0,_,_,[],hp,hq2,rfl,rfl,rfl,rfl,HT.o,Own.empty nlr,(Below.refl _ _).alloc nlr _⟩
 case round =>
  clear hp hq1 hq2
  obtain⟨a,b,m,A,c,xs,ha,hb,rfl,rfl,rfl,hm,hx,hown,hbel⟩:=hrel
  have HO:=Hd hown;have HM:=Hd hm;have HX:=Hd hx
  clear hown hm
  by_cases hb0:b=0
  ·subst hb0
   have hfin:xs=T:=by rw[← hx,ZdV,List.append_nil]
   clear hx
   have hO2:=HO.o
   rw[hfin] at hO2
   have hml:m=T.length:=by rw[← hfin];exact HM.o.symm
   subst hml
   have HO2:=Hd hO2
   clear HO hfin hO2
   go_wp2_with fail
   go_ret
   exact⟨A,c,rfl,HO2.o,hbel⟩
  ·rw[ZdW (by omega)] at hx
   have hm2:m<34:=by
    have:=congrArg List.length hx
    rw[List.length_append,List.length_cons,HM.o] at this;omega
   obtain⟨x,hxe⟩:∃ x:Nat,a / b=x:=⟨_,rfl⟩
   obtain⟨y,hye⟩:∃ y:Nat,a % b=y:=⟨_,rfl⟩
   have hyb:y<b:=by rw[← hye];exact Nat.mod_lt _ (by omega)
   have hxa:x≤100000:=by rw[← hxe];exact Nat.le_trans (Nat.div_le_self _ _) ha
   have e3:(a:Int) / (b:Int)=(x:Int):=by rw[← hxe];simp
   have e4:(a:Int) % (b:Int)=(y:Int):=by rw[← hye];simp
   rw[hxe,hye] at hx
   have HX2:=Hd hx
   have hb1:¬ (b:Int)=0:=by omega
   have hb2:((b:Int)==0)=false:=beq_eq_false_iff_ne.2 hb1
   have hb3:(0:Int)<(b:Int):=by omega
   have ha0:(0:Int)≤(a:Int):=by omega
   have hsl:=hbel.size
   clear hx hxe hye
   go_wp2_with (at_builtin;refine Zp rfl (.tmp 17) (.tmp 21) 83 rfl _ 8 Tryz.underlying83 Zu rfl rfl HO.o _ rfl rfl m ?n1 ?n2 ?n3 ?n4 ?_)
   case n1=>rw[List.length_map,HM.o]
   case n2=>omega
   case n3=>decide
   case n4=>exact hsl
   intro A2 c2 w2 hown2 hbel2 hsz2
   rw[show xs.map (Value.int .i64)++[Value.int .i64 (x:Int)]=(xs++[(x:Int)]).map (Value.int .i64) from by rw[List.map_append];rfl] at hown2
   have HO2:=Hd hown2;clear hown2
   go_wp2_with fail
   go_quiet (fail)
   go_wp2_with fail
   go_roundw
   case rel=>exact⟨b,y,m+1,A2,c2,xs++[(x:Int)],by omega,by omega,rfl,by first|rfl|rw[e4],rfl,by rw[List.length_append,HM.o];rfl,by rw[List.append_assoc];exact HX2.o,HO2.o.dr ((Dr.refl _).drewN nq),(hbel.trans hbel2).trans ((Dr.refl _).drewN nq).below⟩
   case measure=>simp[intOf];omega
theorem Zhm (P Q:Nat) (hp:P≤100000) (hq1:1≤Q) (hq2:Q≤100000) (w:World) :
  Calls Tryz.prog 88 #[.int .i64 P,.int .i64 Q] w fun e w'=>∃ A c,e=.returned (.slice A (quI P Q).length c)∧Own w' w.heap.size 3 (.slice A (quI P Q).length c) ((quI P Q).map (Value.int .i64))∧Below w.heap.size w w':=by
 obtain⟨T,hT⟩:∃ T,quI P Q=T:=⟨_,rfl⟩
 have ht:=Zgk (p:=P) hq2
 rw[hT] at ht ⊢
 have HT:=Hd hT;clear hT
 go_enter Tryz.func88,Tryz.ntmps88
 go_wp2_with (go_at_call 146;refine (Zw _ _ _ (by omega) _).mono ?_;rintro e w' ⟨rfl,rfl⟩)
 go_loopw [0,1,5,6] (fun p q v _ wr=>∃ (a b m:Nat) (A:Option Addr) (c:Nat) (xs:List Int),a≤100000∧b≤100000∧p=.int .i64 a∧q=.int .i64 b∧v=.slice A m c∧xs.length=m∧xs++quI a b=T∧Own wr w.heap.size 3 (.slice A m c) (xs.map (Value.int .i64))∧Below w.heap.size w wr) (fun _ q _ _ _=>(intOf q).toNat)
 case atStart=>exact⟨P,Q,0,_,_,[],hp,hq2,rfl,rfl,rfl,rfl,HT.o,Own.empty nlr,(Below.refl _ _).alloc nlr _⟩
 case round =>
  clear hp hq1 hq2
  obtain⟨a,b,m,A,c,xs,ha,hb,rfl,rfl,rfl,hm,hx,hown,hbel⟩:=hrel
  have HO:=Hd hown;have HM:=Hd hm;have HX:=Hd hx
  clear hown hm
  by_cases hb0:b=0
  ·subst hb0
   have hfin:xs=T:=by rw[← hx,ZdV,List.append_nil]
   clear hx
   have hO2:=HO.o
   rw[hfin] at hO2
   have hml:m=T.length:=by rw[← hfin];exact HM.o.symm
   subst hml
   have HO2:=Hd hO2
   clear HO hfin hO2
   go_wp2_with fail
   go_ret
   exact⟨A,c,rfl,HO2.o,hbel⟩
  ·rw[ZdW (by omega)] at hx
   have hm2:m<34:=by
    have:=congrArg List.length hx
    rw[List.length_append,List.length_cons,HM.o] at this;omega
   obtain⟨x,hxe⟩:∃ x:Nat,a / b=x:=⟨_,rfl⟩
   obtain⟨y,hye⟩:∃ y:Nat,a % b=y:=⟨_,rfl⟩
   have hyb:y<b:=by rw[← hye];exact Nat.mod_lt _ (by omega)
   have hxa:x≤100000:=by rw[← hxe];exact Nat.le_trans (Nat.div_le_self _ _) ha
   have e3:(a:Int) / (b:Int)=(x:Int):=by rw[← hxe];simp
   have e4:(a:Int) % (b:Int)=(y:Int):=by rw[← hye];simp
   rw[hxe,hye] at hx
   have HX2:=Hd hx
   have hb1:¬ (b:Int)=0:=by omega
   have hb2:((b:Int)==0)=false:=beq_eq_false_iff_ne.2 hb1
   have hb3:(0:Int)<(b:Int):=by omega
   have ha0:(0:Int)≤(a:Int):=by omega
   have hsl:=hbel.size
   clear hx hxe hye
   go_wp2_with (at_builtin;refine Zp rfl (.tmp 18) (.tmp 22) 83 rfl _ 8 Tryz.underlying83 Zu rfl rfl HO.o _ rfl rfl m ?n1 ?n2 ?n3 ?n4 ?_)
   case n1=>rw[List.length_map,HM.o]
   case n2=>omega
   case n3=>decide
   case n4=>exact hsl
   intro A2 c2 w2 hown2 hbel2 hsz2
   rw[show xs.map (Value.int .i64)++[Value.int .i64 (x:Int)]=(xs++[(x:Int)]).map (Value.int .i64) from by rw[List.map_append];rfl] at hown2
   have HO2:=Hd hown2;clear hown2
   go_wp2_with fail
   go_roundw
   case rel=>exact⟨b,y,m+1,A2,c2,xs++[(x:Int)],by omega,by omega,rfl,by first|rfl|rw[e4],rfl,by rw[List.length_append,HM.o];rfl,by rw[List.append_assoc];exact HX2.o,HO2.o,hbel.trans hbel2⟩
   case measure=>simp[intOf];omega
theorem ZjE (p q:Int) (h:¬ Zap p q=true) (w:World) :
  Calls Tryz.prog 136 #[.int .i64 p,.int .i64 q] w fun e w'=>e=.returned (.slice none 0 0)∧w=w':=by
 rw[Yv] at h
 by_cases h1:0≤p∧p≤100000
 ·have h2:¬ (1≤q∧q≤100000):=fun h2=>h ⟨h1,h2⟩
  clear h
  go_enter Tryz.func136,Tryz.ntmps136
  go_wp2_with (go_at_call 65;first|(refine (Zo _ _ _ (by omega) _).mono ?_;rintro e w' ⟨rfl,rfl⟩)|(refine (ZK _ _ _ (by omega) _).mono ?_;rintro e w' ⟨rfl,rfl⟩))
  go_ret
  exact⟨rfl,rfl⟩
 ·clear h
  go_enter Tryz.func136,Tryz.ntmps136
  go_wp2_with (go_at_call 65;refine (ZK _ _ _ h1 _).mono ?_;rintro e w' ⟨rfl,rfl⟩)
  go_ret
  exact⟨rfl,rfl⟩
theorem Zhn (p q:Int) (w:World) :
  Calls Tryz.prog 136 #[.int .i64 p,.int .i64 q] w fun e w'=>∃ A c,e=.returned (.slice A (quV p q).length c)∧Own w' w.heap.size 3 (.slice A (quV p q).length c) ((quV p q).map (Value.int .i64))∧Below w.heap.size w w':=by
 by_cases h:Zap p q=true
 ·rw[Zgl h]
  obtain⟨h1,h2⟩:=Yv.1 h
  obtain⟨P,rfl⟩:=Int.eq_ofNat_of_zero_le h1.1
  obtain⟨Q,rfl⟩:=Int.eq_ofNat_of_zero_le (show 0≤q by omega)
  exact Zhl P Q (by omega) (by omega) (by omega) w
 ·rw[ZjD h]
  refine (ZjE p q h w).mono ?_
  rintro e w' ⟨rfl,rfl⟩
  exact⟨none,0,rfl,Own.nil,Below.refl _ _⟩
theorem ZjF (p q:Int) (h:¬ Zap p q=true) (w:World) :
  Calls Tryz.prog 88 #[.int .i64 p,.int .i64 q] w fun e w'=>e=.returned (.slice none 0 0)∧w=w':=by
 rw[Yv] at h
 by_cases h1:0≤p∧p≤100000
 ·have h2:¬ (1≤q∧q≤100000):=fun h2=>h ⟨h1,h2⟩
  clear h
  go_enter Tryz.func88,Tryz.ntmps88
  go_wp2_with (go_at_call 146;first|(refine (Zw _ _ _ (by omega) _).mono ?_;rintro e w' ⟨rfl,rfl⟩)|(refine (ZU _ _ _ (by omega) _).mono ?_;rintro e w' ⟨rfl,rfl⟩))
  go_ret
  exact⟨rfl,rfl⟩
 ·clear h
  go_enter Tryz.func88,Tryz.ntmps88
  go_wp2_with (go_at_call 146;refine (ZU _ _ _ h1 _).mono ?_;rintro e w' ⟨rfl,rfl⟩)
  go_ret
  exact⟨rfl,rfl⟩
theorem Zho (p q:Int) (w:World) :
  Calls Tryz.prog 88 #[.int .i64 p,.int .i64 q] w fun e w'=>∃ A c,e=.returned (.slice A (quV p q).length c)∧Own w' w.heap.size 3 (.slice A (quV p q).length c) ((quV p q).map (Value.int .i64))∧Below w.heap.size w w':=by
 by_cases h:Zap p q=true
 ·rw[Zgl h]
  obtain⟨h1,h2⟩:=Yv.1 h
  obtain⟨P,rfl⟩:=Int.eq_ofNat_of_zero_le h1.1
  obtain⟨Q,rfl⟩:=Int.eq_ofNat_of_zero_le (show 0≤q by omega)
  exact Zhm P Q (by omega) (by omega) (by omega) w
 ·rw[ZjD h]
  refine (ZjF p q h w).mono ?_
  rintro e w' ⟨rfl,rfl⟩
  exact⟨none,0,rfl,Own.nil,Below.refl _ _⟩
def StrAt (w:World) (g c:Nat) (ss:List ByteArray):Prop:=ss.length≤c∧c≤maxLen∧g<w.heap.size∧∀ j s,ss[j]? = some s→w.cell? ⟨g,j,none⟩=some (.string s)
theorem StrAt.below {w w':World} {g c:Nat} {ss:List ByteArray} (h:StrAt w g c ss) (hb:Below w.heap.size w w'):StrAt w' g c ss :=
 ⟨h.1,h.2.1,Nat.lt_of_lt_of_le h.2.2.1 hb.size,fun j s hs=>(hb.cell (p:=⟨g,j,none⟩) h.2.2.1).trans (h.2.2.2 j s hs)⟩
theorem StrAt.rds {w:World} {g c:Nat} {ss:List ByteArray} (h:StrAt w g c ss):Rds w w.heap.size (some ⟨g,0,none⟩) (ss.map Value.string):=fun k u hu=>by
 rw[List.getElem?_map] at hu
 cases hs:ss[k]? with
 | none=>rw[hs] at hu;simp at hu
 | some s =>
  rw[hs] at hu
  refine⟨_,rfl,h.2.2.1,?_⟩
  have ha:(⟨g,0,none⟩:Addr).add k=⟨g,k,none⟩:=by unfold Addr.add;split<;>simp_all
  rw[ha,h.2.2.2 k s hs];simpa using hu
theorem Own.strAt {w:World} {B c:Nat} {A:Option Addr} {E:TypeId} {ss:List ByteArray} (h:Own w B E (.slice A ss.length c) (ss.map Value.string)) (h0:ss≠[]):∃ g,A=some ⟨g,0,none⟩∧StrAt w g c ss:=by
 have hl:0<ss.length:=by cases ss with|nil=>exact absurd rfl h0|cons a b=>simp
 obtain⟨g,rfl,_,hg,_,_,_⟩:=h.store (k:=0) (by rw[List.length_map];exact hl)
 obtain⟨A',c',hv,hc1,hc2,_⟩:=h.shape
 injection hv with e1 e2 e3
 subst e3
 rw[List.length_map] at hc1
 refine⟨g,rfl,hc1,hc2,hg,fun j s hs=>?_⟩
 have hj:=(List.getElem?_eq_some_iff.1 hs).1
 have h2:=World.ownsRow.cellAt (g:=g) (n:=(ss.map Value.string).length) (by
  have h3:=h
  unfold Own at h3
  rw[List.length_map] at h3 ⊢
  exact h3) j (by rw[List.length_map];omega)
 rw[h2];exact Zs Value.string hs
section
variable {P:Program} {w:World} {B:Nat} {E:TypeId} {v:Value} {xs:List Value}
theorem Z8 {ops:Array Oper} {rest:List Oper} {o:Oper} {a:Act} {Q:Exit→Act→World→Prop} (hgd:o.guard=none) (s x:Operand) (t:TypeId)
  (ho:o.op=.call { callee:=.builtin .append,args:=#[s,x],argTypes:=#[t,t] })
  (z:Value) (bytes:Nat) (ht:P.underlying t=some (.slice E)) (hinfo:(P.info? E).map (fun i=>(i.zero,i.size,i.bytes))=some (some z,1,bytes)) (hzs:z.cells.size=1)
  (hs:a.eval s=v) (hown:Own w B E v xs) (ys:List Value) (hu:∀ u∈ys,u.oneCell'=true) (ad:Addr) (m c:Nat)
  (hx:a.eval x=.slice (some ad) m c) (hm:ys.length=m) (hys:∀ j u,ys[j]? = some u→w.cell? (ad.add j)=some u) (n:Nat)
  (hl:xs.length=n) (hn:n+m<4294967296) (hb16:bytes≤1024) (hB:B≤w.heap.size)
  (h:∀ A c w',Own w' B E (.slice A (n+m) c) (xs++ys)→Below B w w'→wpList P ops Q rest (a.put o.dst (.slice A (n+m) c)) w') :
  wpList P ops Q (o :: rest) a w:=by
 obtain⟨i,hi,hz,hsize,hby⟩:=info_parts hinfo
 subst hl hm
 refine wpList_append_own w hgd s x t ho B E i z 1 bytes ht hi hz hsize hby hzs (by decide) v xs.length xs hs hown ad ys.length c ys hx (by omega) hys hu (by unfold maxLen;omega) ?_ hB ?_
 ·calc (xs.length+ys.length) * bytes≤4294967296 * 1024:=Nat.mul_le_mul (by omega) hb16
   _≤140737488355328:=by decide
 ·intro v' w1 hown' hgrow _
  have hown2:Own w1 B E v' (xs++ys):=by
   unfold Own;simpa using hown'
  have hbel:Below B w w1:=(Below.refl B w).grown hgrow hB (fun k hk=>(World.ownsRow.lt hown k hk).1)
  obtain⟨A,c',hv,_⟩:=hown2.shape
  have hl:(xs++ys).length=xs.length+ys.length:=by simp
  rw[hl] at hv
  rw[hv]
  rw[hv] at hown2
  exact h A c' w1 hown2 hbel
end
set_option maxRecDepth 4000 in
set_option maxHeartbeats 1000000 in
theorem Zax (ss:List ByteArray) (x:ByteArray) (g c:Nat) (w:World) (hn:ss.length≤1000) (hst:StrAt w g c ss) :
  Calls Tryz.prog 279 #[.slice (some ⟨g,0,none⟩) ss.length c,.string x] w fun e w'=>∃ g' c',e=.returned (.slice (some ⟨g',0,none⟩) (VI ss x).length c')∧StrAt w' g' c' (VI ss x)∧Below w.heap.size w w':=by
 obtain⟨n,hnn⟩:∃ n,ss.length=n:=⟨_,rfl⟩
 obtain⟨r,hr⟩:∃ r,VI ss x=r:=⟨_,rfl⟩
 obtain⟨k0,hk0⟩:∃ k0,kp ss x n=k0:=⟨_,rfl⟩
 have hrr:r=if k0≠0∧ss.getD (k0 - 1) ⟨#[]⟩=x then ss else ss.take k0++x :: ss.drop k0:=by rw[← hr,VI,hnn,hk0]
 have hk0n:k0≤n:=by rw[← hk0];exact Zf1 ss x n
 rw[hnn] at hn ⊢
 rw[hr]
 have HS:=Hd hst;have HN:=Hd hnn;have HR:=Hd hrr;have HK:=Hd hk0
 have hcn:n≤c:=by rw[← hnn];exact hst.1
 have hcm:=hst.2.1
 unfold maxLen at hcm
 clear hst hnn hr hrr hk0
 go_enter Tryz.func279,Tryz.ntmps279
 go_wp2_with fail
 go_loop [5] (fun i=>∃ k:Nat,k≤n∧i=.int .i64 k∧kp ss x k=k0) (fun i=>(intOf i).toNat)
 case atStart=>exact⟨n,by omega,rfl,HK.o⟩
 case round =>
  obtain⟨k,hk,rfl,hg⟩:=hrel
  have HG:=Hd hg;clear hg
  by_cases hk0':0<k
  ·have hkn1:k - 1<ss.length:=by rw[HN.o];omega
   obtain⟨y,hy⟩:=Zc (l:=ss) (k:=k - 1) hkn1
   have hyd:ss.getD (k - 1) ⟨#[]⟩=y:=by rw[List.getD_eq_getElem?_getD,hy];rfl
   have hcell:=HS.o.2.2.2 (k - 1) y hy
   have hgt:=Yq y x
   by_cases hlt:L x<L y
   ·have hg1:gtS y x=true:=by rw[hgt,decide_eq_true hlt]
    have hkp:kp ss x (k - 1)=k0:=by
     rw[← HG.o]
     obtain⟨q,rfl⟩:∃ q,k=q+1:=⟨k - 1,by omega⟩
     rw[Nat.add_sub_cancel] at hyd ⊢
     rw[kp,hyd,hg1];rfl
    have HKP:=Hd hkp
    have hb1:Op.bytesLess y.toList x.toList=false:=by
     unfold gtS at hg1
     cases hq:Op.bytesLess y.toList x.toList
     ·rfl
     ·rw[hq] at hg1;simp at hg1
    have hb2:(y.toList==x.toList)=false:=by
     unfold gtS at hg1
     cases hq:(y.toList==x.toList)
     ·rfl
     ·rw[hq,Bool.or_true] at hg1;simp at hg1
    clear hgt hlt hg1 hkp hyd hy
    go_wp2_with fail
    go_round
    case rel=>exact⟨k - 1,by omega,by go_num,HKP.o⟩
    case measure=>simp[intOf];omega
   ·have hg1:gtS y x=false:=by rw[hgt,decide_eq_false hlt]
    have hkp:k=k0:=by
     rw[← HG.o]
     obtain⟨q,rfl⟩:∃ q,k=q+1:=⟨k - 1,by omega⟩
     rw[Nat.add_sub_cancel] at hyd
     rw[kp,hyd,hg1];rfl
    subst hkp
    have hkp1:decide (0<(k:Int))=true:=by simp;omega
    by_cases hyx:y=x
    ·have hb1:Op.bytesLess y.toList x.toList=false:=by
      rw[ByteArray.toList_eq,ByteArray.toList_eq,bytesLess_eq,hyx];exact decide_eq_false (List.lt_irrefl _)
     have hb2:(y.toList==x.toList)=true:=by rw[hyx];simp
     have hfin:r=ss:=by rw[HR.o,if_pos ⟨by omega,by rw[hyd];exact hyx⟩]
     have hrl:r.length=n:=by rw[hfin];exact HN.o
     have HF:=Hd hfin;have HRL:=Hd hrl
     clear hgt hlt hg1 hyd hy hyx hfin hrl
     go_wp2_with fail
     go_ret
     exact⟨g,c,by rw[HRL.o];rfl,by rw[HF.o];exact HS.o,Below.refl _ _⟩
    ·have hb2:(y.toList==x.toList)=false:=Zr hyx
     have hb1:Op.bytesLess y.toList x.toList=true:=by
      rw[ByteArray.toList_eq,ByteArray.toList_eq,bytesLess_eq]
      rcases Classical.em (L y<L x) with e|e
      ·exact decide_eq_true e
      ·exact absurd (WF (List.le_antisymm hlt e)) hyx
     have hfin:r=ss.take k++x :: ss.drop k:=by rw[HR.o,if_neg (fun h=>hyx (hyd.symm.trans h.2))]
     have HF:=Hd hfin
     clear hgt hlt hg1 hyd hy hyx hfin
     have hsa:StrAt (w.alloc (.cells #[] 9)) g c ss:=HS.o.below ((Below.refl _ _).alloc nlr _)
     have he0:Own (w.alloc (.cells #[] 9)) w.heap.size 9 (.slice (some ⟨w.heap.size,0,none⟩) 0 0) []:=Own.empty nlr
     have hb01:Below w.heap.size w (w.alloc (.cells #[] 9)):=(Below.refl _ _).alloc nlr _
     have hsz1:w.heap.size≤(w.alloc (.cells #[] 9)).heap.size:=by simp
     have hys1:∀ j u,((ss.take k).map Value.string)[j]? = some u→(w.alloc (.cells #[] 9)).cell? ((⟨g,0,none⟩:Addr).add j)=some u:=fun j u hu=>by
      obtain⟨ad,hae,_,hc⟩:=hsa.rds j u (by
       rw[List.getElem?_map] at hu ⊢
       rw[List.getElem?_take] at hu
       split at hu
       ·exact hu
       ·simp at hu)
      injection hae with hae
      subst hae
      exact hc
     have hm1:((ss.take k).map Value.string).length=k:=by rw[List.length_map,List.length_take,HN.o];omega
     have hu1:∀ u∈(ss.take k).map Value.string,u.oneCell'=true:=fun u hu=>by
      obtain⟨s,_,rfl⟩:=List.mem_map.1 hu;rfl
     have HY1:=Hd hys1;have HM1:=Hd hm1;have HU1:=Hd hu1;have HE0:=Hd he0;have HSA:=Hd hsa
     have hn9:0+k<4294967296:=by omega
     clear hsa he0 hys1 hm1 hu1
     go_wp2_with (at_builtin;refine Z8 rfl (.tmp 34) (.tmp 37) 23 rfl _ 16 Tryz.underlying23 Zn rfl rfl HE0.o ((ss.take k).map Value.string) HU1.o ⟨g,0,none⟩ k c rfl HM1.o HY1.o 0 rfl hn9 (by decide) hsz1 ?_)
     intro A1 c1 w1 hown1 hbel1
     have hown1':Own w1 w.heap.size 9 (.slice A1 k c1) ((ss.take k).map Value.string):=by simpa using hown1
     have hbw1:Below w.heap.size w w1:=hb01.trans hbel1
     have hsz2:=hbw1.size
     have HO1:=Hd hown1'
     have hk9:k<4294967296:=by omega
     clear hown1 hown1' hbel1
     go_wp2_with (at_builtin;refine Zp rfl (.tmp 39) (.tmp 41) 23 rfl _ 16 Tryz.underlying23 Zn rfl rfl HO1.o _ rfl rfl k HM1.o hk9 (by decide) hsz2 ?_)
     intro A2 c2 w2 hown2 hbel2 hsz3
     have hbw2:Below w.heap.size w w2:=hbw1.trans hbel2
     have hown2':Own w2 w.heap.size 9 (.slice A2 (k+1) c2) ((ss.take k++[x]).map Value.string):=by simpa using hown2
     have HO2:=Hd hown2';have HS2:=Hd (HS.o.below hbw2)
     clear hown2 hown2' hbel2
     have hu3:∀ u∈(ss.drop k).map Value.string,u.oneCell'=true:=fun u hu=>by
      obtain⟨s,_,rfl⟩:=List.mem_map.1 hu;rfl
     have hm3:((ss.drop k).map Value.string).length=n - k:=by rw[List.length_map,List.length_drop,HN.o]
     have hm2:((ss.take k++[x]).map Value.string).length=k+1:=by rw[List.length_map,List.length_append,List.length_take,HN.o];first|(simp;done)|(simp;omega)
     have hn10:k+1+(n - k)<4294967296:=by omega
     have hsz4:=hbw2.size
     have hrl:r.length=k+1+(n - k):=by rw[HF.o,List.length_append,List.length_cons,List.length_take,List.length_drop,HN.o];omega
     have hrm:(ss.take k++[x]).map Value.string++(ss.drop k).map Value.string=r.map Value.string:=by rw[HF.o,← List.map_append,List.append_assoc];rfl
     have hrne:r≠[]:=fun h=>by rw[h] at hrl;simp at hrl;omega
     have HU3:=Hd hu3;have HM3:=Hd hm3;have HM2:=Hd hm2;have HRL:=Hd hrl;have HRM:=Hd hrm;have HNE:=Hd hrne
     clear hu3 hm3 hm2 hrl hrm hrne
     by_cases hck:c=k
     ·have hnk:k=n:=by omega
      have hkc:k=c:=hck.symm
      clear hck
      have hd0:ss.drop k=[]:=List.drop_eq_nil_of_le (by rw[HN.o];omega)
      have hys3:∀ j u,((ss.drop k).map Value.string)[j]? = some u→w2.cell? ((⟨g,0,none⟩:Addr).add j)=some u:=fun j u hu=>by rw[hd0] at hu;simp at hu
      have hm0:((ss.drop k).map Value.string).length=0:=by rw[hd0];rfl
      have HM0:=Hd hm0
      have HY3:=Hd hys3
      have hn11:k+1+0<4294967296:=by omega
      clear hys3 hd0 hm0
      subst hkc;subst hnk
      go_wp2_with (at_builtin;refine Z8 rfl (.tmp 43) (.tmp 46) 23 rfl _ 16 Tryz.underlying23 Zn rfl rfl HO2.o _ HU3.o ⟨g,0,none⟩ 0 _ rfl HM0.o HY3.o _ HM2.o hn11 (by decide) hsz4 ?_)
      intro A3 c3 w3 hown3 hbel3
      have hown4:Own w3 w.heap.size 9 (.slice A3 r.length c3) (r.map Value.string):=by
       have h1:=HRM.o
       have h2:=HRL.o
       rw[h2,← h1]
       simpa using hown3
      obtain⟨g',hA3,hst3⟩:=hown4.strAt HNE.o
      subst hA3
      have HST3:=Hd hst3
      have hbw3:Below w.heap.size w w3:=hbw2.trans hbel3
      clear hown3 hown4 hst3 hbel3
      go_wp2_with fail
      go_ret
      exact⟨g',c3,by rw[HRL.o];simp;try omega,HST3.o,hbw3⟩
     ·have hlt9:k<c:=by omega
      have hys3:∀ j u,((ss.drop k).map Value.string)[j]? = some u→w2.cell? ((⟨g,k,none⟩:Addr).add j)=some u:=fun j u hu=>by
       rw[List.getElem?_map,List.getElem?_drop] at hu
       cases hs:ss[k+j]? with
       | none=>rw[hs] at hu;simp at hu
       | some s =>
        rw[hs] at hu
        have ha:(⟨g,k,none⟩:Addr).add j=⟨g,k+j,none⟩:=by unfold Addr.add;split<;>simp_all
        rw[ha,HS2.o.2.2.2 (k+j) s hs];simpa using hu
      have HY3:=Hd hys3
      clear hys3 hck
      go_wp2_with (at_builtin;refine Z8 rfl (.tmp 43) (.tmp 46) 23 rfl _ 16 Tryz.underlying23 Zn rfl rfl HO2.o _ HU3.o ⟨g,k,none⟩ _ _ rfl HM3.o HY3.o _ HM2.o hn10 (by decide) hsz4 ?_)
      intro A3 c3 w3 hown3 hbel3
      have hown4:Own w3 w.heap.size 9 (.slice A3 r.length c3) (r.map Value.string):=by
       have h1:=HRM.o
       have h2:=HRL.o
       rw[h2,← h1]
       simpa using hown3
      obtain⟨g',hA3,hst3⟩:=hown4.strAt HNE.o
      subst hA3
      have HST3:=Hd hst3
      have hbw3:Below w.heap.size w w3:=hbw2.trans hbel3
      clear hown3 hown4 hst3 hbel3
      go_wp2_with fail
      go_ret
      exact⟨g',c3,by rw[HRL.o];simp;try omega,HST3.o,hbw3⟩
  ·have hk00:k=0:=by omega
   subst hk00
   have hk00:(0:Nat)=k0:=HG.o
   subst hk00
   have hfin:r=ss.take 0++x :: ss.drop 0:=by rw[HR.o,if_neg (fun h=>h.1 rfl)]
   have HF:=Hd hfin
   clear hfin
   have hsa:StrAt (w.alloc (.cells #[] 9)) g c ss:=HS.o.below ((Below.refl _ _).alloc nlr _)
   have he0:Own (w.alloc (.cells #[] 9)) w.heap.size 9 (.slice (some ⟨w.heap.size,0,none⟩) 0 0) []:=Own.empty nlr
   have hb01:Below w.heap.size w (w.alloc (.cells #[] 9)):=(Below.refl _ _).alloc nlr _
   have hsz1:w.heap.size≤(w.alloc (.cells #[] 9)).heap.size:=by simp
   have hys1:∀ j u,((ss.take 0).map Value.string)[j]? = some u→(w.alloc (.cells #[] 9)).cell? ((⟨g,0,none⟩:Addr).add j)=some u:=fun j u hu=>by
    obtain⟨ad,hae,_,hc⟩:=hsa.rds j u (by
     rw[List.getElem?_map] at hu ⊢
     rw[List.getElem?_take] at hu
     split at hu
     ·exact hu
     ·simp at hu)
    injection hae with hae
    subst hae
    exact hc
   have hm1:((ss.take 0).map Value.string).length=0:=by rw[List.length_map,List.length_take,HN.o];omega
   have hu1:∀ u∈(ss.take 0).map Value.string,u.oneCell'=true:=fun u hu=>by
    obtain⟨s,_,rfl⟩:=List.mem_map.1 hu;rfl
   have HY1:=Hd hys1;have HM1:=Hd hm1;have HU1:=Hd hu1;have HE0:=Hd he0;have HSA:=Hd hsa
   have hn9:0+0<4294967296:=by omega
   clear hsa he0 hys1 hm1 hu1
   go_wp2_with (at_builtin;refine Z8 rfl (.tmp 34) (.tmp 37) 23 rfl _ 16 Tryz.underlying23 Zn rfl rfl HE0.o ((ss.take 0).map Value.string) HU1.o ⟨g,0,none⟩ 0 c rfl HM1.o HY1.o 0 rfl hn9 (by decide) hsz1 ?_)
   intro A1 c1 w1 hown1 hbel1
   have hown1':Own w1 w.heap.size 9 (.slice A1 0 c1) ((ss.take 0).map Value.string):=by simpa using hown1
   have hbw1:Below w.heap.size w w1:=hb01.trans hbel1
   have hsz2:=hbw1.size
   have HO1:=Hd hown1'
   have hk9:0<4294967296:=by omega
   clear hown1 hown1' hbel1
   go_wp2_with (at_builtin;refine Zp rfl (.tmp 39) (.tmp 41) 23 rfl _ 16 Tryz.underlying23 Zn rfl rfl HO1.o _ rfl rfl 0 HM1.o hk9 (by decide) hsz2 ?_)
   intro A2 c2 w2 hown2 hbel2 hsz3
   have hbw2:Below w.heap.size w w2:=hbw1.trans hbel2
   have hown2':Own w2 w.heap.size 9 (.slice A2 (0+1) c2) ((ss.take 0++[x]).map Value.string):=by simpa using hown2
   have HO2:=Hd hown2';have HS2:=Hd (HS.o.below hbw2)
   clear hown2 hown2' hbel2
   have hu3:∀ u∈(ss.drop 0).map Value.string,u.oneCell'=true:=fun u hu=>by
    obtain⟨s,_,rfl⟩:=List.mem_map.1 hu;rfl
   have hm3:((ss.drop 0).map Value.string).length=n - 0:=by rw[List.length_map,List.length_drop,HN.o]
   have hm2:((ss.take 0++[x]).map Value.string).length=0+1:=by rw[List.length_map,List.length_append,List.length_take,HN.o];first|(simp;done)|(simp;omega)
   have hn10:0+1+(n - 0)<4294967296:=by omega
   have hsz4:=hbw2.size
   have hrl:r.length=0+1+(n - 0):=by rw[HF.o,List.length_append,List.length_cons,List.length_take,List.length_drop,HN.o];omega
   have hrm:(ss.take 0++[x]).map Value.string++(ss.drop 0).map Value.string=r.map Value.string:=by rw[HF.o,← List.map_append,List.append_assoc];rfl
   have hrne:r≠[]:=fun h=>by rw[h] at hrl;simp at hrl;omega
   have HU3:=Hd hu3;have HM3:=Hd hm3;have HM2:=Hd hm2;have HRL:=Hd hrl;have HRM:=Hd hrm;have HNE:=Hd hrne
   clear hu3 hm3 hm2 hrl hrm hrne
   by_cases hck:c=0
   ·have hnk:0=n:=by omega
    have hkc:0=c:=hck.symm
    clear hck
    have hd0:ss.drop 0=[]:=List.drop_eq_nil_of_le (by rw[HN.o];omega)
    have hys3:∀ j u,((ss.drop 0).map Value.string)[j]? = some u→w2.cell? ((⟨g,0,none⟩:Addr).add j)=some u:=fun j u hu=>by rw[hd0] at hu;simp at hu
    have hm0:((ss.drop 0).map Value.string).length=0:=by rw[hd0];rfl
    have HM0:=Hd hm0
    have HY3:=Hd hys3
    have hn11:0+1+0<4294967296:=by omega
    clear hys3 hd0 hm0
    subst hkc;subst hnk
    go_wp2_with (at_builtin;refine Z8 rfl (.tmp 43) (.tmp 46) 23 rfl _ 16 Tryz.underlying23 Zn rfl rfl HO2.o _ HU3.o ⟨g,0,none⟩ 0 _ rfl HM0.o HY3.o _ HM2.o hn11 (by decide) hsz4 ?_)
    intro A3 c3 w3 hown3 hbel3
    have hown4:Own w3 w.heap.size 9 (.slice A3 r.length c3) (r.map Value.string):=by
     have h1:=HRM.o
     have h2:=HRL.o
     rw[h2,← h1]
     simpa using hown3
    obtain⟨g',hA3,hst3⟩:=hown4.strAt HNE.o
    subst hA3
    have HST3:=Hd hst3
    have hbw3:Below w.heap.size w w3:=hbw2.trans hbel3
    clear hown3 hown4 hst3 hbel3
    go_wp2_with fail
    go_ret
    exact⟨g',c3,by rw[HRL.o];simp;try omega,HST3.o,hbw3⟩
   ·have hlt9:0<c:=by omega
    have hys3:∀ j u,((ss.drop 0).map Value.string)[j]? = some u→w2.cell? ((⟨g,0,none⟩:Addr).add j)=some u:=fun j u hu=>by
     rw[List.getElem?_map,List.getElem?_drop] at hu
     cases hs:ss[0+j]? with
     | none=>rw[hs] at hu;simp at hu
     | some s =>
      rw[hs] at hu
      have ha:(⟨g,0,none⟩:Addr).add j=⟨g,0+j,none⟩:=by unfold Addr.add;split<;>simp_all
      rw[ha,HS2.o.2.2.2 (0+j) s hs];simpa using hu
    have HY3:=Hd hys3
    clear hys3 hck
    go_wp2_with (at_builtin;refine Z8 rfl (.tmp 43) (.tmp 46) 23 rfl _ 16 Tryz.underlying23 Zn rfl rfl HO2.o _ HU3.o ⟨g,0,none⟩ _ _ rfl HM3.o HY3.o _ HM2.o hn10 (by decide) hsz4 ?_)
    intro A3 c3 w3 hown3 hbel3
    have hown4:Own w3 w.heap.size 9 (.slice A3 r.length c3) (r.map Value.string):=by
     have h1:=HRM.o
     have h2:=HRL.o
     rw[h2,← h1]
     simpa using hown3
    obtain⟨g',hA3,hst3⟩:=hown4.strAt HNE.o
    subst hA3
    have HST3:=Hd hst3
    have hbw3:Below w.heap.size w w3:=hbw2.trans hbel3
    clear hown3 hown4 hst3 hbel3
    go_wp2_with fail
    go_ret
    exact⟨g',c3,by rw[HRL.o];simp;try omega,HST3.o,hbw3⟩
def ZaU (s:ByteArray) (a n p:Nat):Prop:=∀ k,a≤k→k+p<a+n→gl s 0 k=gl s 0 (k+p)
theorem gl0 {s:ByteArray} {k:Nat} (h:k<s.size):gl s 0 k=(s[k]'h).toNat:=by
 rw[ZlZ (i:=0) (by omega)];simp
theorem WN (s:ByteArray) (a n p:Nat) (b:Bool) (hs:s.size≤400) (ha:a≤1000) (hn:n≤1000) (hp:p≤1000) (hb:b=true↔(a+n≤s.size∧ZaU s a n p)) (w:World) :
  Calls Tryz.prog 288 #[.string s,.int .i64 a,.int .i64 n,.int .i64 p] w fun e w'=>e=.returned (.bool b)∧Dr w w':=by
 have HB:=Hd hb
 clear hb
 by_cases hbig:s.size<a+n
 ·have hbig2:(s.size:Int)<(a:Int)+(n:Int):=by omega
  go_enter Tryz.func288,Tryz.ntmps288
  go_wp2_with fail
  go_ret
  exact⟨Zk (by cases b with|false=>rfl|true=>have:=(HB.o.1 rfl).1;omega),Dr.refl _⟩
 ·have hle:¬ (s.size:Int)<(a:Int)+(n:Int):=by omega
  go_enter Tryz.func288,Tryz.ntmps288
  go_wp2_with fail
  go_loopw [9] (fun i wr=>∃ k:Nat,a≤k∧k≤a+n∧i=.int .i64 k∧(∀ j,a≤j→j<k→gl s 0 j=gl s 0 (j+p))∧Dr w wr) (fun i _=>a+n - (intOf i).toNat)
  case atStart=>exact⟨a,by omega,by omega,rfl,fun j h1 h2=>by omega,Dr.refl _⟩
  case round =>
   obtain⟨k,hk1,hk2,rfl,hg,hd⟩:=hrel
   have HG:=Hd hg;clear hg
   by_cases hlt:k+p<a+n
   ·have hlt2:(k:Int)+(p:Int)<(a:Int)+(n:Int):=by omega
    have hks:k<s.size:=by omega
    obtain⟨q,hq⟩:∃ q:Nat,k+p=q:=⟨_,rfl⟩
    have hqs:q<s.size:=by omega
    have hq2:(k:Int)+(p:Int)=(q:Int):=by omega
    have hki:(k:Int)<(s.size:Int):=by omega
    have hqi:(q:Int)<(s.size:Int):=by omega
    obtain⟨x,hx⟩:∃ x,s[k]'hks=x:=⟨_,rfl⟩
    obtain⟨y,hy⟩:∃ y,s[q]'hqs=y:=⟨_,rfl⟩
    have hgx:gl s 0 k=x.toNat:=by rw[gl0 hks,hx]
    have hgy:gl s 0 (k+p)=y.toNat:=by rw[hq,gl0 hqs,hy]
    have HX:=Hd hgx;have HY:=Hd hgy
    clear hgx hgy hq
    by_cases hc:x.toNat=y.toNat
    ·have hne:((x.toNat:Int) != (y.toNat:Int))=false:=by simp;omega
     have HC:=Hd hc
     clear hc
     go_wp2_with fail
     go_quiet (fail)
     go_wp2_with fail
     go_roundw
     case rel=>exact⟨k+1,by omega,by omega,by go_num,fun j h1 h2=>by
      rcases Nat.lt_or_ge j k with h|h
      ·exact HG.o j h1 h
      ·obtain rfl:j=k:=by omega
       rw[HX.o,HY.o];exact HC.o,hd.drewN _⟩
     case measure=>simp[intOf];omega
    ·have hne:((x.toNat:Int) != (y.toNat:Int))=true:=by simp;omega
     have HC:=Hd hc
     clear hc
     go_wp2_with fail
     go_quiet (fail)
     go_wp2_with fail
     go_ret
     exact⟨Zk (by cases b with|false=>rfl|true=>exact absurd ((HB.o.1 rfl).2 k hk1 hlt) (by rw[HX.o,HY.o];exact HC.o)),hd.drewN _⟩
   ·have hge:¬ (k:Int)+(p:Int)<(a:Int)+(n:Int):=by omega
    go_wp2_with fail
    go_ret
    exact⟨Zk (by cases b with|true=>rfl|false=>exact absurd (HB.o.2 ⟨by omega,fun j h1 h2=>HG.o j h1 (by omega)⟩) (by decide)),hd⟩
theorem ZaV {s:ByteArray} (h:isW (L s)=true) (k:Nat) (hk:k<s.size):(s[k]'hk).toNat<128:=by
 unfold isW at h
 simp only[Bool.and_eq_true,List.all_eq_true] at h
 have hm:(L s)[k]? = some (s[k]'hk):=by rw[List.getElem?_eq_getElem (by rw[Zj];exact hk)];rfl
 have:=h.1 _ (List.mem_of_getElem? hm)
 unfold okc at this
 have h2:=of_decide_eq_true this
 omega
def WO (s:ByteArray) (e p i:Nat):Prop:=i+(2 * p+e)≤s.size∧ZaU s i (2 * p+e) p
def Pow (s:ByteArray) (e:Nat):Prop:=∃ p i,1≤p∧WO s e p i
theorem Zgf (s:ByteArray) (e:Nat) (b:Bool) (h0:isW (L s)=true) (he:e≤1) (hb:b=true↔Pow s e) (w:World) :
  Calls Tryz.prog 250 #[.string s,.int .i64 2,.int .i64 e] w fun e w'=>e=.returned (.bool b)∧Below w.heap.size w w':=by
 have h4:=Zb h0
 have H0:=Hd h0;have HB:=Hd hb
 clear h0 hb
 go_enter Tryz.func250,Tryz.ntmps250
 go_wp2_with fail
 go_loopw [7,8] (fun u _ wr=>∃ p:Nat,1≤p∧p≤s.size+1∧u=.int .i64 p∧(∀ q i,1≤q→q<p→¬ WO s e q i)∧Below w.heap.size w wr) (fun u _ _=>s.size+2 - (intOf u).toNat)
 case atStart=>exact⟨1,by omega,by omega,rfl,fun q i h1 h2=>by omega,Below.refl _ _⟩
 case round =>
  obtain⟨p,hp1,hp2,rfl,hg,hbel⟩:=hrel
  obtain⟨wo,hwo⟩:∃ x,x=wr:=⟨wr,rfl⟩
  subst hwo
  have HG:=Hd hg;clear hg
  have hzr:=hbel.size
  by_cases hlt:2 * p+e≤s.size
  ·have hlt2:2 * (p:Int)+(e:Int)≤(s.size:Int):=by omega
   go_wp2_with fail
   go_loopw [8] (fun _ w2=>∃ k:Nat,k≤s.size∧w2.heap[wo.heap.size]? = some (.stringIter s k)∧(∀ i,i<k→¬ WO s e p i)∧Below w.heap.size w w2) (fun _ w2=>s.size+1 - w2.iterPos wo.heap.size)
   case atStart=>exact⟨0,by omega,World.iter_heap wo s 0,fun i h=>by omega,hbel.alloc hzr _⟩
   case round =>
    obtain⟨k,hk,hit,hg,hbel3⟩:=hrel
    have HG3:=Hd hg;have HIT:=Hd hit
    clear hg
    by_cases hks:k<s.size
    ·have hnx0:=fun ty=>Lib.run_next_ascii_at (P:=Tryz.prog) wr wo.heap.size s k ty hit hks (ZaV H0.o k hks)
     have hiti:=Lib.iterAt_heap wr wo.heap.size s k (k+1) hit
     have hbi:=Lib.below_iterAt hbel3 (k:=wo.heap.size) (by omega) s (k+1)
     obtain⟨wi,hwi⟩:∃ wi,wr.iterAt wo.heap.size s (k+1)=wi:=⟨_,rfl⟩
     rw[hwi] at hiti hbi
     simp only[hwi] at hnx0
     obtain⟨c,hc⟩:∃ c:Bool,c=true↔WO s e p k:=by classical exact⟨decide (WO s e p k),by simp⟩
     have hcp:=fun w=>WN s k (2 * p+e) p c h4 (by omega) (by omega) (by omega) hc w
     rw[show ((2 * p+e:Nat):Int)=2 * (p:Int)+(e:Int) from by omega] at hcp
     have HCP:=Hd hcp;have HC:=Hd hc;have HITI:=Hd hiti
     clear hcp hc hiti hwi hit
     cases c
     ·go_wp2_with fail
      refine (HCP.o _).mono ?_
      rintro e w4 ⟨rfl,d4⟩
      go_wp2_with fail
      go_roundw
      case rel=>exact⟨k+1,by omega,by obtain⟨n,rfl⟩:=d4;exact HITI.o,fun i hi=>by
       rcases Nat.lt_or_ge i k with h|h
       ·exact HG3.o i h
       ·obtain rfl:i=k:=by omega
        exact fun h2=>absurd (HC.o.2 h2) (by decide),hbi.trans d4.below⟩
      case measure=>obtain⟨n,rfl⟩:=d4;simp only[World.iterPos,HIT.o,show (wi.drewN n).heap=wi.heap from rfl,HITI.o];omega
     ·go_wp2_with fail
      refine (HCP.o _).mono ?_
      rintro e w4 ⟨rfl,d4⟩
      go_wp2_with fail
      go_ret
      exact⟨Zk (by cases b with|true=>rfl|false=>exact absurd (HB.o.2 ⟨p,k,hp1,HC.o.1 (by trivial)⟩) (by decide)),hbi.trans d4.below⟩
    ·have hke:k=s.size:=by omega
     subst hke
     have hnx0:=fun ty=>Lib.run_next_end_at (P:=Tryz.prog) wr wo.heap.size s s.size ty hit (by omega)
     clear hit
     go_wp2_with fail
     go_roundw
     case rel=>exact⟨p+1,by omega,by omega,by go_num,fun q i h1 h2=>by
      rcases Nat.lt_or_ge q p with h|h
      ·exact HG.o q i h1 h
      ·obtain rfl:q=p:=by omega
       rintro ⟨h3,h5⟩
       exact HG3.o i (by omega) ⟨h3,h5⟩,hbel3⟩
     case measure=>simp[intOf];omega
  ·have hge:¬ 2 * (p:Int)+(e:Int)≤(s.size:Int):=by omega
   go_wp2_with fail
   go_ret
   exact⟨Zk (by cases b with
    | false=>rfl
    | true =>
     obtain⟨q,i,h1,h2⟩:=HB.o.1 rfl
     exact absurd h2 (HG.o q i h1 (by have:=h2.1;omega))),hbel⟩
theorem ZdT (s:ByteArray) (e:Nat) (b:Bool) (h4:s.size≤400) (he:e≤1) (hb:b=true↔Pow s e) (w:World) :
  Calls Tryz.prog 227 #[.string s,.int .i64 1,.int .i64 e] w fun e w'=>e=.returned (.bool b)∧Dr w w':=by
 have HB:=Hd hb
 clear hb
 go_enter Tryz.func227,Tryz.ntmps227
 go_wp2_with fail
 go_loopw [7,8,9] (fun u _ _ wr=>∃ p:Nat,1≤p∧p≤s.size+1∧u=.int .i64 p∧(∀ q i,1≤q→q<p→¬ WO s e q i)∧Dr w wr) (fun u _ _ _=>s.size+2 - (intOf u).toNat)
 case atStart=>exact⟨1,by omega,by omega,rfl,fun q i h1 h2=>by omega,Dr.refl _⟩
 case round =>
  obtain⟨p,hp1,hp2,rfl,hg,hd0⟩:=hrel
  obtain⟨wo,hwo⟩:∃ x,x=wr:=⟨wr,rfl⟩
  subst hwo
  have HG:=Hd hg;clear hg
  by_cases hlt:p+e≤s.size
  ·have hlt2:(p:Int)+(e:Int)+(p:Int)≤(s.size:Int)+(p:Int):=by omega
   go_wp2_with fail
   go_loopw [8,9] (fun v i wr=>∃ r k:Nat,r≤k∧k≤s.size∧r<p+e∧v=.int .i64 r∧i=.int .i64 k∧(∀ j,k≤j+r→j<k→gl s 0 j=gl s 0 (j+p))∧(r<k→gl s 0 (k - r - 1)≠gl s 0 (k - r - 1+p))∧(∀ j,j+(p+e)≤k→¬ WO s e p j)∧Dr w wr) (fun _ i _=>s.size+1 - (intOf i).toNat)
   case atStart=>exact⟨0,0,by omega,by omega,by omega,rfl,rfl,fun j h1 h2=>by omega,fun h=>by omega,fun j h=>by omega,hd0⟩
   case round =>
    obtain⟨r,k,hrk,hk,hr,rfl,rfl,hm,hx,hno,hd⟩:=hrel
    have HM:=Hd hm;have HX0:=Hd hx;have HNO:=Hd hno
    clear hm hx hno
    by_cases hks:k+p<s.size
    ·have hks2:(k:Int)+(p:Int)<(s.size:Int):=by omega
     have hk1:k<s.size:=by omega
     obtain⟨q,hq⟩:∃ q:Nat,k+p=q:=⟨_,rfl⟩
     have hqs:q<s.size:=by omega
     have hq2:(k:Int)+(p:Int)=(q:Int):=by omega
     have hki:(k:Int)<(s.size:Int):=by omega
     have hqi:(q:Int)<(s.size:Int):=by omega
     obtain⟨x,hx⟩:∃ x,s[k]'hk1=x:=⟨_,rfl⟩
     obtain⟨y,hy⟩:∃ y,s[q]'hqs=y:=⟨_,rfl⟩
     have hgx:gl s 0 k=x.toNat:=by rw[gl0 hk1,hx]
     have hgy:gl s 0 (k+p)=y.toNat:=by rw[hq,gl0 hqs,hy]
     have HX:=Hd hgx;have HY:=Hd hgy;have HQ:=Hd hq
     clear hgx hgy hq
     by_cases hc:x.toNat=y.toNat
     ·have hne:((x.toNat:Int)==(y.toNat:Int))=true:=by simp;omega
      have HC:=Hd hc
      clear hc
      by_cases hf:r+1=p+e
      ·have hf2:((r:Int)+1==(p:Int)+(e:Int))=true:=by simp;omega
       have HF:=Hd hf
       clear hf
       go_wp2_with fail
       go_quiet (fail)
       go_wp2_with fail
       go_ret
       exact⟨Zk (by cases b with
        | true=>rfl
        | false =>
         have hf:=HF.o
         refine absurd (HB.o.2 ⟨p,k+1 - (p+e),hp1,by omega,fun j h1 h2=>?_⟩) (by decide)
         rcases Nat.lt_or_ge j k with h|h
         ·exact HM.o j (by omega) h
         ·obtain rfl:j=k:=by omega
          rw[HX.o,HY.o];exact HC.o),hd.drewN _⟩
      ·have hf2:((r:Int)+1==(p:Int)+(e:Int))=false:=by simp;omega
       have HF:=Hd hf
       clear hf
       go_wp2_with fail
       go_quiet (fail)
       go_wp2_with fail
       go_roundw
       case rel =>
        have hf:=HF.o
        exact⟨r+1,k+1,by omega,by omega,by omega,by go_num,by go_num,fun j h1 h2=>by
         rcases Nat.lt_or_ge j k with h|h
         ·exact HM.o j (by omega) h
         ·obtain rfl:j=k:=by omega
          rw[HX.o,HY.o];exact HC.o,fun h=>by
         rw[show k+1 - (r+1) - 1=k - r - 1 by omega];exact HX0.o (by omega),fun j h1 h2=>by
         rcases Nat.lt_or_ge k (j+(p+e)) with h|h
         ·exact HX0.o (by omega) (h2.2 (k - r - 1) (by omega) (by omega))
         ·exact HNO.o j h h2,hd.drewN _⟩
       case measure=>simp[intOf];omega
     ·have hne:((x.toNat:Int)==(y.toNat:Int))=false:=by simp;omega
      have HC:=Hd hc
      have hf2:((0:Int)==(p:Int)+(e:Int))=false:=by simp;omega
      clear hc
      go_wp2_with fail
      go_quiet (fail)
      go_wp2_with fail
      go_roundw
      case rel=>exact⟨0,k+1,by omega,by omega,by omega,rfl,by go_num,fun j h1 h2=>by omega,fun h=>by
        rw[show k+1 - 0 - 1=k by omega,HX.o,HY.o];exact HC.o,fun j h1 h2=>by
        rcases Nat.lt_or_ge k (j+(p+e)) with h|h
        ·exact HC.o (by rw[← HX.o,← HY.o];exact h2.2 k (by omega) (by omega))
        ·exact HNO.o j h h2,hd.drewN _⟩
      case measure=>simp[intOf];omega
    ·have hge:¬ (k:Int)+(p:Int)<(s.size:Int):=by omega
     go_wp2_with fail
     go_roundw
     case rel=>exact⟨p+1,by omega,by omega,by go_num,fun q i h1 h2=>by
      rcases Nat.lt_or_ge q p with h|h
      ·exact HG.o q i h1 h
      ·obtain rfl:q=p:=by omega
       exact fun h3=>HNO.o i (by have:=h3.1;omega) h3,hd⟩
     case measure=>simp[intOf];omega
  ·have hge:¬ (p:Int)+(e:Int)+(p:Int)≤(s.size:Int)+(p:Int):=by omega
   go_wp2_with fail
   go_ret
   exact⟨Zk (by cases b with
    | false=>rfl
    | true =>
     obtain⟨q,i,h1,h2⟩:=HB.o.1 rfl
     exact absurd h2 (HG.o q i h1 (by have:=h2.1;omega))),hd0⟩
set_option maxHeartbeats 2000000 in
theorem ZgI (s v:ByteArray) (k:Nat) (hs:s.size≤400) (hk:k<s.size) (h1:∀ j,j<k→Jg (s.extract j s.size)=false) (h2:Jg (s.extract k s.size)=true) (hv:s++trn (s.extract 0 k)=v) (w:World) :
  Calls Tryz.prog 190 #[.string s] w fun e w'=>e=.returned (.string v)∧Below w.heap.size w w':=by
 have hz:∀ j,j≤s.size→(s.extract j s.size).size=s.size - j:=fun j hj=>by rw[ByteArray.size_extract];omega
 have hz0:(s.extract 0 k).size=k:=by rw[ByteArray.size_extract];omega
 have hit:=fun j (hj:j≤s.size) w=>ZdY (s.extract j s.size) (by rw[hz j hj];omega) w
 have htn:=fun w=>J6 (s.extract 0 k) (by rw[hz0];omega) w
 have htz:(trn (s.extract 0 k)).size=k:=by rw[trn,Zh,rv,List.length_reverse,Zj,hz0]
 obtain⟨t,ht⟩:∃ t,trn (s.extract 0 k)=t:=⟨_,rfl⟩
 rw[ht] at hv htn htz
 have H1:=Hd h1;have H2:=Hd h2;have HIT:=Hd hit;have HTN:=Hd htn;have HV:=Hd hv
 clear h1 h2 hit htn hv hz ht hz0
 have n1:¬ 9223372036854775807<s.size+t.size:=by omega
 go_enter Tryz.func190,Tryz.ntmps190
 go_wp2_with fail
 go_loopw [3,6] (fun _ i wr=>∃ j:Nat,j≤k∧i=.int .i64 j∧Below w.heap.size w wr) (fun _ i _=>s.size - (intOf i).toNat)
 case atStart=>exact⟨0,by omega,rfl,Below.refl _ _⟩
 case round =>
  obtain⟨j,hj,rfl,hb⟩:=hrel
  have hjs:(j:Int)<(s.size:Int):=by omega
  have hj2:(j:Int)≤(s.size:Int):=by omega
  have hc:=fun w=>HIT.o j (by omega) w
  by_cases hjk:j<k
  ·rw[H1.o j hjk] at hc
   have HC:=Hd hc
   clear hc
   go_wp2_with fail
   refine (HC.o _).mono ?_
   rintro e w1 ⟨rfl,b1⟩
   go_wp2_with fail
   go_roundw
   case rel=>exact⟨j+1,by omega,by go_num,hb.trans (b1.mono hb.size)⟩
   case measure=>simp[intOf];omega
  ·obtain rfl:j=k:=by omega
   rw[H2.o] at hc
   have HC:=Hd hc
   clear hc
   go_wp2_with fail
   refine (HC.o _).mono ?_
   rintro e w1 ⟨rfl,b1⟩
   have hb1:=hb.trans (b1.mono hb.size)
   go_wp2_with fail
   refine (HTN.o _).mono ?_
   rintro e w2 ⟨rfl,b2⟩
   go_wp2_with fail
   go_ret
   exact⟨by rw[← HV.o];rfl,hb1.trans (b2.mono hb1.size)⟩
section
variable {P:Program} {w:World} {B:Nat} {E:TypeId} {xs:List Value} {go:Nat}
def Kept (w w':World) (go m:Nat):Prop:=∀ q k,q<w.heap.size→(q≠go∨k<m)→w'.cell? ⟨q,k,none⟩=w.cell? ⟨q,k,none⟩
theorem Kept.str {w w':World} {go m:Nat} (h:Kept w w' go m) (hs:w.heap.size≤w'.heap.size) {q c:Nat} {ss:List ByteArray} (hq:StrAt w q c ss) (hm:q≠go∨ss.length≤m):StrAt w' q c ss :=
 ⟨hq.1,hq.2.1,Nat.lt_of_lt_of_le hq.2.2.1 hs,fun j s hj=>by
  rw[h q j hq.2.2.1 (hm.imp id fun h2=>by have:=(List.getElem?_eq_some_iff.1 hj).1;omega)];exact hq.2.2.2 j s hj⟩
theorem Own.str {w:World} {B g m c:Nat} {E:TypeId} {ss:List ByteArray} (h:Own w B E (.slice (some ⟨g,0,none⟩) m c) (ss.map Value.string)) (hm:ss.length=m):StrAt w g c ss:=by
 subst hm
 have hl:(ss.map Value.string).length=ss.length:=List.length_map ..
 obtain⟨_,_,hv,h1,h2,_⟩:=h.shape
 injection hv with e1 e2 e3
 subst e3
 refine⟨by omega,h2,(World.ownsRow.lt h g rfl).2,fun j s hj=>?_⟩
 have h0:w.ownsRow B E 1 (.slice (some ⟨g,0,none⟩) ss.length c) ss.length (ss.map Value.string):=by
  have:=h;unfold Own at this;rwa[hl] at this
 have hjl:=(List.getElem?_eq_some_iff.1 hj).1
 rw[World.ownsRow.cellAt h0 j (by omega)]
 exact Zs Value.string hj
theorem Y8 (t ty:TypeId) (i:TypeInfo) (z:Value) (bytes:Nat) (ht:P.underlying t=some (.slice E)) (hi:P.info? E=some i) (hz:i.zero=some z)
  (hsize:i.size=1) (hby:i.bytes=bytes) (hzs:z.cells.size=1) (m c:Nat) (hown:Own w B E (.slice (some ⟨go,0,none⟩) m c) xs) (hlen:xs.length=m)
  (ad:Addr) (k c2:Nat) (news:List Value) (hl:news.length=k) (hnews:∀ j u,news[j]? = some u→w.cell? (ad.add j)=some u) (h1:∀ u∈news,u.oneCell'=true)
  (hk:0<k) (h63:m+k≤maxLen) (hbytes:(m+k) * bytes≤140737488355328) (hbase:B≤w.heap.size) :
  ∃ g cap w',(Builtin.append_ #[t,t] ty #[.slice (some ⟨go,0,none⟩) m c,.slice (some ad) k c2]).run P w=.ok (.slice (some ⟨g,0,none⟩) (m+k) cap) w' ∧
   Own w' B E (.slice (some ⟨g,0,none⟩) (m+k) cap) (xs++news)∧w.grownBy w' (some go)∧(go=g∨g=w.heap.size)∧Kept w w' go m:=by
 have hown0:w.ownsRow B E 1 (.slice (some ⟨go,0,none⟩) m c) m xs:=by subst hlen;exact hown
 obtain⟨g,cap,w',hr,h2,h3,h4,h5⟩:=run_append_lies (P:=P) w t ty B E i z 1 bytes ht hi hz hsize hby hzs (by decide) _ m xs hown0 ad k c2 news (by rw[Nat.mul_one];exact hl) hnews h1 hk h63 hbytes hbase _ rfl
 have hgl:go<w.heap.size:=(World.ownsRow.lt hown go rfl).2
 have h4':go=g∨g=w.heap.size:=h4.imp (fun e=>by simpa[Value.ownBlock] using e) id
 have hnl:(xs++news).length=m+k:=by rw[List.length_append,hlen,hl]
 refine⟨g,cap,w',hr,by unfold Own;rw[hnl];exact h2,h3,h4',fun q j hq hd=>?_⟩
 by_cases hqe:q=go
 ·subst hqe
  have hj:j<m:=by rcases hd with h|h;exact absurd rfl h;exact h
  rcases h4' with e|e
  ·subst e
   have e1:=World.ownsRow.cellAt h2 j (by omega)
   have e2:=World.ownsRow.cellAt hown0 j (by omega)
   rw[e1,e2,List.getElem?_append_left (by omega)]
  ·by_cases hroom:m+k≤c
   ·obtain⟨w2,hr2,_⟩:=run_append_fits (P:=P) w B t ty E i 1 ht hi hsize q m c xs hown0 ad k c2 news (by rw[Nat.mul_one];exact hl) hnews h1 hroom
    rw[hr] at hr2
    injection hr2 with e1 e2
    injection e1 with e1 _ _
    injection e1 with e1
    injection e1 with e1
    omega
   ·have hb2:Builtin.nextslicecap (m+k) c * i.bytes≤281474976710656:=growslice_fits (by omega) (by rw[hby];exact hbytes)
    have hr2:=run_append_grow (P:=P) w t ty E i z ht hi hz ⟨q,0,none⟩ m c xs (by rw[hsize,Nat.mul_one];exact hlen) (fun a v hv=>World.ownsRow.cells hown0 (g:=q) rfl a v hv) ad k c2 news (by rw[hsize,Nat.mul_one];exact hl) hnews (by omega) (by simp only[maxLen] at h63;omega) hb2
    rw[hr] at hr2
    injection hr2 with e1 e2
    rw[e2]
    exact (((Below.refl w.heap.size w).drew).alloc (by simp) _).cell (p:=⟨q,j,none⟩) hgl
 ·exact h3.cell_far ⟨q,j,none⟩ hq (by simpa[Value.ownBlock] using hqe)
structure App4 (w w':World) (B:Nat) (E:TypeId) (go m c:Nat) (g n cap:Nat) (ys:List Value):Prop where
 own:Own w' B E (.slice (some ⟨g,0,none⟩) n cap) ys
 bel:Below B w w'
 size:w.heap.size≤w'.heap.size
 kept:Kept w w' go m
 where_:go=g∨w.heap.size≤g
 far:∀ q,q<w.heap.size→q≠go→q≠g
 blk:∀ q,q<w.heap.size→q≠go→w'.heap[q]? = w.heap[q]?
 beside:Za6 w w' (.slice (some ⟨go,0,none⟩) m c) (.slice (some ⟨g,0,none⟩) n cap)
theorem App4.of {w0 w1:World} {g n cap m c:Nat} {ys:List Value} (hb:Below w.heap.size w w0) (hB:B≤w.heap.size) (hgB:B≤go) (hgo:go<w.heap.size)
  (hown:Own w1 B E (.slice (some ⟨g,0,none⟩) n cap) ys) (hg:w0.grownBy w1 (some go)) (hat:go=g∨g=w0.heap.size) (hk:Kept w0 w1 go m):App4 w w1 B E go m c g n cap ys where
 own:=hown
 bel:=(hb.mono hB).grown hg (Nat.le_trans hB hb.size) (fun k h=>by injection h with h;omega)
 size:=Nat.le_trans hb.size hg.size
 kept:=fun q j hq hd=>(hk q j (Nat.lt_of_lt_of_le hq hb.size) hd).trans (hb.cell (p:=⟨q,j,none⟩) hq)
 where_:=hat.imp id fun h=>by have:=hb.size;omega
 far:=fun q hq hne he=>by
  rcases hat with h|h
  ·exact hne (by omega)
  ·have:=hb.size;omega
 blk:=fun q hq hne=>(hg.block q (Nat.lt_of_lt_of_le hq hb.size) (fun e=>hne (by simpa using e))).trans (hb.block q hq)
 beside:=YL hb rfl hb.size hg (hat.imp (fun h=>by rw[h];rfl) id)
theorem Zx {ops:Array Oper} {rest:List Oper} {o:Oper} {a:Act} {Q:Exit→Act→World→Prop} (hgd:o.guard=none) (s x:Operand) (t:TypeId)
  (ho:o.op=.call { callee:=.builtin .append,args:=#[s,x],argTypes:=#[t,t] })
  (z:Value) (bytes:Nat) (ht:P.underlying t=some (.slice E)) (hinfo:(P.info? E).map (fun i=>(i.zero,i.size,i.bytes))=some (some z,1,bytes)) (hzs:z.cells.size=1)
  (m c:Nat) (hs:a.eval s=.slice (some ⟨go,0,none⟩) m c) (hown:Own w B E (.slice (some ⟨go,0,none⟩) m c) xs) (u:Value) (hu:u.oneCell'=true)
  (hx:a.eval x=.slice (some ⟨w.heap.size,0,none⟩) 1 1)
  (hl:xs.length=m) (hn:m<4294967296) (hb16:bytes≤1024) (hB:B≤w.heap.size)
  (h:∀ g cap w',App4 w w' B E go m c g (m+1) cap (xs++[u])→wpList P ops Q rest (a.put o.dst (.slice (some ⟨g,0,none⟩) (m+1) cap)) w') :
  wpList P ops Q (o :: rest) a (w.alloc (.cells #[u] E)):=by
 obtain⟨i,hi,hz,hsize,hby⟩:=info_parts hinfo
 have hgo:=World.ownsRow.lt hown go rfl
 refine wpList_plain hgd fun K hK=>?_
 obtain⟨g,cap,w1,hr,h2,h3,h4,h5⟩:=Y8 (P:=P) (w:=w.alloc (.cells #[u] E)) (B:=B) t o.type i z bytes ht hi hz hsize hby hzs m c (World.ownsRow.alloc hown _) hl
  ⟨w.heap.size,0,none⟩ 1 1 [u] rfl (fun j q hj=>by match j,hj with|0,hj=>simp at hj;subst hj;simp[Addr.add]) (fun q hq=>by simp at hq;subst hq;exact hu) (by decide) (by unfold maxLen;omega)
  (calc (m+1) * bytes≤4294967296 * 1024:=Nat.mul_le_mul (by omega) hb16
   _≤140737488355328:=by decide) (by simp;omega)
 unfold Oper.wp execOp
 simp only[ho,resolve,invoke,builtin,Sem.run_bind,Sem.run_pure,Result.andThen_ok,List.map_toArray,List.map_cons,List.map_nil,hs,hx,hr]
 exact hK _ _ (h g cap w1 (App4.of ((Below.refl _ w).alloc nlr _) hB hgo.1 hgo.2 h2 h3 h4 h5))
theorem Za8 {ops:Array Oper} {o:Oper} {a:Act} {K:Act→World→Prop} {Q:Exit→Act→World→Prop} {R:Prop} {u:Value} (hg:o.guard=none) (s x:Operand) (t:TypeId)
  (ho:o.op=.call { callee:=.builtin .append,args:=#[s,x],argTypes:=#[t,t] })
  (z:Value) (bytes:Nat) (ht:P.underlying t=some (.slice E)) (hinfo:(P.info? E).map (fun i=>(i.zero,i.size,i.bytes))=some (some z,1,bytes)) (hzs:z.cells.size=1)
  (m c:Nat) (hs:a.eval s=.slice (some ⟨go,0,none⟩) m c) (hown:Own w B E (.slice (some ⟨go,0,none⟩) m c) xs) (hu:u.oneCell'=true)
  (hx:a.eval x=.slice (some ⟨w.heap.size,0,none⟩) 1 1)
  (hl:xs.length=m) (hn:m<4294967296) (hb16:bytes≤1024) (hB:B≤w.heap.size)
  (h:∀ g cap w',App4 w w' B E go m c g (m+1) cap (xs++[u])→K (a.put o.dst (.slice (some ⟨g,0,none⟩) (m+1) cap)) w') :
  if Region.wanted o (yielded ops a.tmps)=true then Oper.wp P o a (w.alloc (.cells #[u] E)).drew K Q else R:=by
 obtain⟨i,hi,hz,hsize,hby⟩:=info_parts hinfo
 have hgo:=World.ownsRow.lt hown go rfl
 have hb1:Below w.heap.size w (w.alloc (.cells #[u] E)).drew:=((Below.refl _ w).alloc nlr _).drew
 have hcell:(w.alloc (.cells #[u] E)).drew.cell? ⟨w.heap.size,0,none⟩=some u:=by simp
 have hw:Region.wanted o (yielded ops a.tmps)=true:=by simp[Region.wanted,hg]
 rw[if_pos hw]
 obtain⟨g,cap,w1,hr,h2,h3,h4,h5⟩:=Y8 (P:=P) (w:=(w.alloc (.cells #[u] E)).drew) (B:=B) t o.type i z bytes ht hi hz hsize hby hzs m c (Own.below hown hb1) hl
  ⟨w.heap.size,0,none⟩ 1 1 [u] rfl (fun j q hj=>by match j,hj with|0,hj=>simp only[List.getElem?_cons_zero,Option.some.injEq] at hj;subst hj;exact hcell) (fun q hq=>by simp at hq;subst hq;exact hu) (by decide) (by unfold maxLen;omega)
  (calc (m+1) * bytes≤4294967296 * 1024:=Nat.mul_le_mul (by omega) hb16
   _≤140737488355328:=by decide) (by simp;omega)
 unfold Oper.wp execOp
 simp only[ho,resolve,invoke,builtin,Sem.run_bind,Sem.run_pure,Result.andThen_ok,List.map_toArray,List.map_cons,List.map_nil,hs,hx,hr]
 exact h g cap w1 (App4.of hb1 hB hgo.1 hgo.2 h2 h3 h4 h5)
end
end Go.Proofs.YtocbgldilgemoaaGreatDoor
